/- SameNode of spec: a walk. -/
import Derived.Test.YtdmmnjnbjigdeaaDoorNodeSame
namespace Go.Proofs.YtdmmnjnbjigdeaaDoor
open Go.RowKit

theorem RdIn.str {w : World} {S : Nat → Prop} {A : Option Addr} {xs : List Tx} (h : RdIn w S A (scells xs)) {k : Nat} (hk : k < xs.length) : ∃ b o, A = some ⟨b, o, none⟩ ∧ S b ∧ w.cell? ⟨b, o + k, none⟩ = some (sv xs[k]) := by
  obtain ⟨b, o, e, hb, hc⟩ := h (by intro e; have := congrArg List.length e; rw [List.length_map, List.length_nil] at this; omega)
  exact ⟨b, o, e, hb, hc _ _ (by simp [hk])⟩
theorem RdIn.now {w w' : World} {A : Option Addr} {xs : List Value} (h : RdIn w (All w) A xs) (hb : Below w.heap.size w w') : RdIn w' (All w') A xs := h.keep (fun _ hp => hb.cell hp) (fun _ h => Nat.lt_of_lt_of_le h hb.size)

set_option maxRecDepth 100000 in
set_option maxHeartbeats 4000000 in
theorem spec_SameNode (a : Nd) : ∀ (b : Nd) (u v : Value) (w : World), InN w (All w) a u → InN w (All w) b v → Nd.Fit a → Nd.Fit b →
    Calls Tryd.prog 10 #[u, v] w fun e w' => e = .returned (.bool (Nd.same a b)) ∧ Below w.heap.size w w' := by
  induction a using Nd.ind with
  | h k n t ns xs ih =>
  intro b u v w hu hv hfa hfb
  have IH := Lib.hid ih
  clear ih
  cases b with
  | mk k' n' t' ns' xs' =>
  obtain ⟨An, cn, Ai, ci, rfl, hrn, hcn, hci, hri⟩ := hu.parts
  obtain ⟨An', cn', Ai', ci', rfl, hrn', hcn', hci', hri'⟩ := hv.parts
  simp only [Nd.Fit] at hfa hfb
  obtain ⟨ha1, ha2, ha3, ha4, ha5⟩ := hfa
  obtain ⟨hb1, hb2, hb3, hb4, hb5⟩ := hfb
  have hnl : ns.length ≤ 9223372036854775807 := ha3
  have hxl : xs.length ≤ 9223372036854775807 := ha4
  have HFA := Lib.hid ha5
  have HFB := Lib.hid hb5
  obtain ⟨hB0, hX0, hY0⟩ := two_boxes w (ndCells k n t An ns.length cn Ai xs.length ci) (ndCells k' n' t' An' ns'.length cn' Ai' xs'.length ci') 26 26
  have HB0 := Lib.hid hB0
  have HX0 := Lib.hid hX0
  have HY0 := Lib.hid hY0
  have HNA := Lib.hid (hrn.now hB0)
  have HNB := Lib.hid (hrn'.now hB0)
  have HRA := Lib.hid (hri.now hB0)
  have HRB := Lib.hid (hri'.now hB0)
  have HS : Hid (Nd.same (.mk k n t ns xs) (.mk k' n' t' ns' xs') = (k == k' && (n == n' && (t == t' && (ns == ns' && Nd.sames xs xs'))))) := by show _ = _; simp only [Nd.same]
  clear hu hv hrn hri hrn' hri' ha5 hb5 hB0 hX0 hY0 ha2 hb2 ha3 ha4
  cases e1 : (k == k')
  · have m1 : (k != k') = true := by rw [bne, e1]; rfl
    have HE : Hid (Nd.same (.mk k n t ns xs) (.mk k' n' t' ns' xs') = false) := by show _ = _; rw [HS.out, e1]; rfl
    go_enter Tryd.func10, Tryd.ntmps10
    go_wp2_with fail
    all_goals (go_ret; exact ⟨ret_bool HE.out.symm, HB0.out⟩)
  cases e2 : (n == n')
  · obtain rfl := beq_iff_eq.1 e1
    have m2 : (n != n') = true := by rw [bne, e2]; rfl
    have HE : Hid (Nd.same (.mk k n t ns xs) (.mk k n' t' ns' xs') = false) := by show _ = _; rw [HS.out, e1, e2]; rfl
    go_enter Tryd.func10, Tryd.ntmps10
    go_wp2_with fail
    all_goals (go_ret; exact ⟨ret_bool HE.out.symm, HB0.out⟩)
  cases e3 : (t == t')
  · obtain rfl := beq_iff_eq.1 e1
    obtain rfl := beq_iff_eq.1 e2
    have m3 : (t != t') = true := by rw [bne, e3]; rfl
    have HE : Hid (Nd.same (.mk k n t ns xs) (.mk k n t' ns' xs') = false) := by show _ = _; rw [HS.out, e1, e2, e3]; rfl
    go_enter Tryd.func10, Tryd.ntmps10
    go_wp2_with fail
    all_goals (go_ret; exact ⟨ret_bool HE.out.symm, HB0.out⟩)
  rw [e1, e2, e3, Bool.true_and, Bool.true_and, Bool.true_and] at HS
  obtain rfl := beq_iff_eq.1 e1
  obtain rfl := beq_iff_eq.1 e2
  obtain rfl := beq_iff_eq.1 e3
  clear e1 e2 e3
  by_cases hnl' : ns.length = ns'.length
  case neg =>
    have m4 : ((ns.length : Int) != (ns'.length : Int)) = true := by simp; omega
    have HE : Hid (Nd.same (.mk k n t ns xs) (.mk k n t ns' xs') = false) := by
      show _ = _
      rw [HS.out, show (ns == ns') = false by rw [beq_eq_false_iff_ne]; intro e; exact hnl' (by rw [e])]
      rfl
    clear hnl'
    go_enter Tryd.func10, Tryd.ntmps10
    go_wp2_with fail
    all_goals (go_ret; exact ⟨ret_bool HE.out.symm, HB0.out⟩)
  by_cases hl : xs.length = xs'.length
  case neg =>
    have m4 : ((ns.length : Int) != (ns'.length : Int)) = false := by rw [hnl']; simp
    have m5 : ((xs.length : Int) != (xs'.length : Int)) = true := by simp; omega
    have HE : Hid (Nd.same (.mk k n t ns xs) (.mk k n t ns' xs') = false) := by show _ = _; rw [HS.out, sames_len hl, Bool.and_false]
    clear hl hnl'
    go_enter Tryd.func10, Tryd.ntmps10
    go_wp2_with fail
    all_goals (go_ret; exact ⟨ret_bool HE.out.symm, HB0.out⟩)
  have m4 : ((ns.length : Int) != (ns'.length : Int)) = false := by rw [hnl']; simp
  have m5 : ((xs.length : Int) != (xs'.length : Int)) = false := by rw [hl]; simp
  have HL := Lib.hid hl
  have HNL := Lib.hid hnl'
  clear hl hnl'
  obtain ⟨⟨f0, f1, f2, f3, f4⟩, -⟩ := box_five HX0.out
  obtain ⟨⟨g0, g1, g2, g3, g4⟩, -⟩ := box_five HY0.out
  have hzz : w.heap.size + 1 < ((w.alloc (.cells (ndCells k n t An ns.length cn Ai xs.length ci) 26)).alloc (.cells (ndCells k n t An' ns'.length cn' Ai' xs'.length ci') 26)).heap.size := by simp
  go_enter Tryd.func10, Tryd.ntmps10
  go_wp2
  generalize (w.alloc (.cells (ndCells k n t An ns.length cn Ai xs.length ci) 26)).alloc (.cells (ndCells k n t An' ns'.length cn' Ai' xs'.length ci') 26) = w0 at *
  go_loopw [5] (fun i wr => ∃ (j : Nat), j ≤ ns.length ∧ i = .int .i64 j ∧ (ns.drop j == ns'.drop j) = (ns == ns') ∧ Below w0.heap.size w0 wr) (fun i _ => ns.length - (intOf i).toNat)
  case atStart => exact ⟨0, Nat.zero_le _, rfl, rfl, Below.refl _ _⟩
  case round =>
    obtain ⟨j, hj, rfl, hsm, hb⟩ := hrel
    have HSM := Lib.hid hsm
    have HB := Lib.hid hb
    obtain ⟨⟨f0, f1, f2, f3, f4⟩, -⟩ := box_five (bx_keep HX0.out hb)
    obtain ⟨⟨g0, g1, g2, g3, g4⟩, -⟩ := box_five (bx_keep HY0.out hb)
    clear hsm hb
    by_cases hlt : j < ns.length
    · have hlt' : j < ns'.length := by have := HNL.out; omega
      obtain ⟨b1, o1, hA1, hb1, hc0⟩ := (HNA.out.now HB.out).str hlt
      obtain ⟨b2, o2, hA2, hb2, hc1⟩ := (HNB.out.now HB.out).str hlt'
      have HQ : Hid ((ns[j] == ns'[j] && (ns.drop (j + 1) == ns'.drop (j + 1))) = (ns == ns')) := by
        show _ = _
        rw [← HSM.out, drop_cons ns j hlt, drop_cons ns' j hlt', List.cons_beq_cons]
      generalize ns[j] = a0 at *
      generalize ns'[j] = b0 at *
      clear HSM
      subst hA1
      subst hA2
      cases h1 : (a0 == b0)
      · have h1n : (a0 != b0) = true := by rw [bne, h1]; rfl
        have HE : Hid (Nd.same (.mk k n t ns xs) (.mk k n t ns' xs') = false) := by show _ = _; rw [HS.out, ← HQ.out, h1]; rfl
        clear HQ
        go_wp2_with fail
        go_quiet (fail)
        go_wp2
        go_ret
        exact ⟨ret_bool HE.out.symm, below_drewN (HB0.out.trans (HB.out.mono HB0.out.size)) _⟩
      · obtain rfl := beq_iff_eq.1 h1
        rw [h1, Bool.true_and] at HQ
        clear h1
        go_wp2_with fail
        go_quiet (fail)
        go_wp2
        go_roundw
        case rel => exact ⟨j + 1, by omega, by go_num, HQ.out, below_drewN HB.out _⟩
        case measure => simp [intOf]; omega
    · have hnn : (ns == ns') = true := by
        rw [← HSM.out, drop_nil ns j (by omega), drop_nil ns' j (by have := HNL.out; omega)]
        rfl
      rw [hnn, Bool.true_and] at HS
      clear hnn HSM
      obtain ⟨wq, hwq⟩ : ∃ wq : World, wq = wr := ⟨_, rfl⟩
      subst hwq
      go_wp2
      go_loopw [6] (fun i wx => ∃ (j : Nat), j ≤ xs.length ∧ i = .int .i64 j ∧ Nd.sames (xs.drop j) (xs'.drop j) = Nd.sames xs xs' ∧ Below wq.heap.size wq wx) (fun i _ => xs.length - (intOf i).toNat)
      case atStart => exact ⟨0, Nat.zero_le _, rfl, rfl, Below.refl _ _⟩
      case round =>
        obtain ⟨j, hj, rfl, hsm, hb⟩ := hrel
        have HSM2 := Lib.hid hsm
        have HB2 := Lib.hid hb
        have HB3 := Lib.hid (HB.out.trans (hb.mono HB.out.size))
        clear hsm hb
        obtain ⟨⟨p0, p1, p2, p3, p4⟩, -⟩ := box_five (bx_keep HX0.out HB3.out)
        by_cases hlt2 : j < xs.length
        · have hlt' : j < xs'.length := by have := HL.out; omega
          obtain ⟨b1, o1, hA1, hb1, kd, nn, tt, An1, ln1, cn1, Ai1, li1, ci1, hin, c0, c1, c2, c3, c4⟩ := (HRA.out.now HB3.out).at hlt2
          obtain ⟨b2, o2, hA2, hb2, kd', nn', tt', An2, ln2, cn2, Ai2, li2, ci2, hin', d0, d1, d2, d3, d4⟩ := (HRB.out.now HB3.out).at hlt'
          have HC := Lib.hid (And.intro c0 (And.intro c1 (And.intro c2 (And.intro c3 c4))))
          have HD := Lib.hid (And.intro d0 (And.intro d1 (And.intro d2 (And.intro d3 d4))))
          have HX4 := Lib.hid (box_five (bx_keep HX0.out HB3.out)).1.2.2.2.2
          have HY4 := Lib.hid (box_five (bx_keep HY0.out HB3.out)).1.2.2.2.2
          have hz2 : w.heap.size + 1 < wr.heap.size := Nat.lt_of_lt_of_le hzz HB3.out.size
          have hz3 : w.heap.size < wr.heap.size := by omega
          have HCALL := Lib.hid (fun w2 (hb : Below wr.heap.size wr w2) => IH.out xs[j] (List.getElem_mem hlt2) xs'[j] _ _ w2 (hin.now hb) (hin'.now hb) (Nd.fits_mem HFA.out (List.getElem_mem hlt2)) (Nd.fits_mem HFB.out (List.getElem_mem hlt')))
          have HST := Lib.hid (sames_step HSM2.out hlt2 hlt')
          clear hin hin' c0 c1 c2 c3 c4 d0 d1 d2 d3 d4
          generalize Nd.same xs[j] xs'[j] = r at *
          subst hA1
          subst hA2
          go_wp2_with fail
          refine wp_region_typed 11 (by kernel_rfl) (by kernel_rfl) (fun _ w => Below (World.heap wr).size wr w) KB (fun i => ([bIs (.pointer (some ⟨w.heap.size, 4, none⟩)), bIs (.slice (some ⟨b1, o1, none⟩) xs.length ci), bIs (.int .i64 (j : Int)), bIs (.pointer (some ⟨b1, o1 + j * 5, none⟩)), bIs (ndV kd nn tt An1 ln1 cn1 Ai1 li1 ci1), bIs (.pointer (some ⟨w.heap.size + 1, 4, none⟩)), bIs (.slice (some ⟨b2, o2, none⟩) xs'.length ci'), bIs (.int .i64 (j : Int)), bIs (.pointer (some ⟨b2, o2 + j * 5, none⟩)), bIs (ndV kd' nn' tt' An2 ln2 cn2 Ai2 li2 ci2), bIs (.bool r)] : List TyB).getD i bAny) ?hWbB1 ?hkeepB1 ?hstepB1 ?hfinbB1
          case hkeepB1 =>
            refine all_lt_succ (all_lt_succ (all_lt_succ (all_lt_succ (all_lt_succ (all_lt_succ (all_lt_succ (all_lt_succ (all_lt_succ (all_lt_succ (all_lt_succ all_lt_zero ?_) ?_) ?_) ?_) ?_) ?_) ?_) ?_) ?_) ?_) ?_
            · exact keeps_bIs
            · exact keeps_bIs
            · exact keeps_bIs
            · exact keeps_bIs
            · exact keeps_bIs
            · exact keeps_bIs
            · exact keeps_bIs
            · exact keeps_bIs
            · exact keeps_bIs
            · exact keeps_bIs
            · exact keeps_bIs
          case hstepB1 =>
            refine all_lt_succ (all_lt_succ (all_lt_succ (all_lt_succ (all_lt_succ (all_lt_succ (all_lt_succ (all_lt_succ (all_lt_succ (all_lt_succ (all_lt_succ all_lt_zero ?_) ?_) ?_) ?_) ?_) ?_) ?_) ?_) ?_) ?_) ?_
            · (intro o ho m' a w1 hm' hW hb hd K Q hK; obtain rfl := Option.some.inj ho; have e0 : a.tmps[2]?.getD undef = .pointer (some ⟨w.heap.size, 0, none⟩) := (by rw [hb 2 (by decide +kernel)]; simp); go_simp; exact hK _ _ hW (kb_refl _) rfl)
            · (intro o ho m' a w1 hm' hW hb hd K Q hK; obtain rfl := Option.some.inj ho; have e0 := slotB (hd 0 (by kernel_rfl) 69 rfl); have hcw := (hW.cell (p := ⟨w.heap.size, 4, none⟩) hz3).trans HX4.out; go_simp; exact hK _ _ hW (kb_refl _) rfl)
            · (intro o ho m' a w1 hm' hW hb hd K Q hK; obtain rfl := Option.some.inj ho; have e0 : a.tmps[6]?.getD undef = (.int .i64 (j : Int)) := (by rw [hb 6 (by decide +kernel)]; simp); go_simp; exact hK _ _ hW (kb_refl _) rfl)
            · (intro o ho m' a w1 hm' hW hb hd K Q hK; obtain rfl := Option.some.inj ho; have e0 := slotB (hd 1 (by kernel_rfl) 70 rfl); have e1 := slotB (hd 2 (by kernel_rfl) 71 rfl); go_simp; exact hK _ _ hW (kb_refl _) rfl)
            · (intro o ho m' a w1 hm' hW hb hd K Q hK; obtain rfl := Option.some.inj ho; have e0 := slotB (hd 3 (by kernel_rfl) 72 rfl); have q0 := (hW.cell (p := ⟨b1, o1 + j * 5, none⟩) hb1).trans HC.out.1; have q1 := (hW.cell (p := ⟨b1, o1 + j * 5 + 1, none⟩) hb1).trans HC.out.2.1; have q2 := (hW.cell (p := ⟨b1, o1 + j * 5 + 2, none⟩) hb1).trans HC.out.2.2.1; have q3 := (hW.cell (p := ⟨b1, o1 + j * 5 + 3, none⟩) hb1).trans HC.out.2.2.2.1; have q4 := (hW.cell (p := ⟨b1, o1 + j * 5 + 4, none⟩) hb1).trans HC.out.2.2.2.2; go_simp; exact hK _ _ hW (kb_refl _) rfl)
            · (intro o ho m' a w1 hm' hW hb hd K Q hK; obtain rfl := Option.some.inj ho; have e0 : a.tmps[3]?.getD undef = .pointer (some ⟨w.heap.size + 1, 0, none⟩) := (by rw [hb 3 (by decide +kernel)]; simp); go_simp; exact hK _ _ hW (kb_refl _) rfl)
            · (intro o ho m' a w1 hm' hW hb hd K Q hK; obtain rfl := Option.some.inj ho; have e0 := slotB (hd 5 (by kernel_rfl) 74 rfl); have hcw := (hW.cell (p := ⟨w.heap.size + 1, 4, none⟩) hz2).trans HY4.out; go_simp; exact hK _ _ hW (kb_refl _) rfl)
            · (intro o ho m' a w1 hm' hW hb hd K Q hK; obtain rfl := Option.some.inj ho; have e0 : a.tmps[6]?.getD undef = (.int .i64 (j : Int)) := (by rw [hb 6 (by decide +kernel)]; simp); go_simp; exact hK _ _ hW (kb_refl _) rfl)
            · (intro o ho m' a w1 hm' hW hb hd K Q hK; obtain rfl := Option.some.inj ho; have e0 := slotB (hd 6 (by kernel_rfl) 75 rfl); have e1 := slotB (hd 7 (by kernel_rfl) 76 rfl); go_simp; exact hK _ _ hW (kb_refl _) rfl)
            · (intro o ho m' a w1 hm' hW hb hd K Q hK; obtain rfl := Option.some.inj ho; have e0 := slotB (hd 8 (by kernel_rfl) 77 rfl); have q0 := (hW.cell (p := ⟨b2, o2 + j * 5, none⟩) hb2).trans HD.out.1; have q1 := (hW.cell (p := ⟨b2, o2 + j * 5 + 1, none⟩) hb2).trans HD.out.2.1; have q2 := (hW.cell (p := ⟨b2, o2 + j * 5 + 2, none⟩) hb2).trans HD.out.2.2.1; have q3 := (hW.cell (p := ⟨b2, o2 + j * 5 + 3, none⟩) hb2).trans HD.out.2.2.2.1; have q4 := (hW.cell (p := ⟨b2, o2 + j * 5 + 4, none⟩) hb2).trans HD.out.2.2.2.2; go_simp; exact hK _ _ hW (kb_refl _) rfl)
            · (intro o ho m' a w1 hm' hW hb hd K Q hK; obtain rfl := Option.some.inj ho; have e0 := slotB (hd 4 (by kernel_rfl) 73 rfl); have e1 := slotB (hd 9 (by kernel_rfl) 78 rfl); go_simp; refine (HCALL.out _ hW).mono ?_; rintro e w2 ⟨rfl, hb2⟩; exact hK _ _ (hW.trans (hb2.mono hW.size)) hb2 rfl)
          case hWbB1 => exact (Below.refl _ _).drew
          case hfinbB1 =>
            intro vs w2 hW hF
            simp only [putAll, hdst, List.getElem?_cons_succ, List.getElem?_cons_zero, Option.bind, List.drop_succ_cons, List.drop_zero, Act.put]
            have h10 : vs 10 = .bool r := hF 10 (by omega)
            rw [h10]
            have HB4 := Lib.hid (HB2.out.trans (hW.mono HB2.out.size))
            have HB5 := Lib.hid (HB3.out.trans (hW.mono HB3.out.size))
            clear hW hF h10
            go_simp
            cases r
            · have HE : Hid (Nd.same (.mk k n t ns xs) (.mk k n t ns' xs') = false) := by show _ = _; rw [HS.out]; exact HST.out.symm
              go_wp2
              go_ret
              exact ⟨ret_bool HE.out.symm, HB0.out.trans (HB5.out.mono HB0.out.size)⟩
            · rw [Bool.true_and] at HST
              go_wp2
              go_roundw
              case rel => exact ⟨j + 1, by omega, by go_num, HST.out, HB4.out⟩
              case measure => simp [intOf]; omega
        · have HE := Lib.hid (sames_end HSM2.out hlt2 HL.out)
          go_wp2
          go_ret
          exact ⟨ret_bool (by rw [HS.out]; exact HE.out), HB0.out.trans (HB3.out.mono HB0.out.size)⟩
end Go.Proofs.YtdmmnjnbjigdeaaDoor
