/- SameNode of impl and of spec: walks. -/
import Derived.Test.YtdmmnjnbjigdeaaDoorNodeWalkP
namespace Go.Proofs.YtdmmnjnbjigdeaaDoor
open Go.RowKit

theorem equal_tx (xs ys : List Tx) (A A' : Option Addr) (c d : Nat) (w : World) {S S' : Nat → Prop} (hx : RdIn w S A (scells xs)) (hy : RdIn w S' A' (scells ys)) (hn : xs.length ≤ maxLen) (hm : ys.length ≤ maxLen) :
    Calls Tryd.prog 28 #[.slice A xs.length c, .slice A' ys.length d] w fun e w' => e = .returned (.bool (xs == ys)) ∧ Below w.heap.size w w' := by
  unfold maxLen at hn hm
  by_cases hl : xs.length = ys.length
  · by_cases h0 : xs.length = 0
    · have hx0 := List.eq_nil_of_length_eq_zero h0
      have hy0 := List.eq_nil_of_length_eq_zero (hl ▸ h0)
      subst hx0
      subst hy0
      exact (Tryd.slices_Equal_string_empty A A' c 0 d w (by omega)).mono fun e w' ⟨he, hw⟩ => ⟨by rw [he]; rfl, hw ▸ Below.refl _ _⟩
    · obtain ⟨b1, o1, rfl, _, hc1⟩ := hx (by intro e; apply h0; simpa [scells] using congrArg List.length e)
      obtain ⟨b2, o2, rfl, _, hc2⟩ := hy (by intro e; apply h0; rw [hl]; simpa [scells] using congrArg List.length e)
      refine (Tryd.slices_Equal_string b1 o1 xs.length c b2 o2 ys.length d (xs.map fun x => ⟨x.toArray⟩) (ys.map fun x => ⟨x.toArray⟩) w (by simp) (by simp) (by omega) (by omega) (tx_cells hc1) (tx_cells hc2)).mono fun e w' ⟨he, q, hw⟩ => ⟨?_, hw ▸ below_drewN (Below.refl _ _) q⟩
      rw [he, List.take_of_length_le (by simp), List.take_of_length_le (by simp)]
      refine ret_bool ?_
      rw [Bool.eq_iff_iff, decide_eq_true_eq, beq_iff_eq]
      exact eq_maps xs ys
  · refine (Tryd.slices_Equal_string_lens A A' xs.length c ys.length d w hl).mono fun e w' ⟨he, hw⟩ => ⟨?_, hw ▸ Below.refl _ _⟩
    rw [he]
    refine ret_bool ?_
    symm
    rw [beq_eq_false_iff_ne]
    intro e
    exact hl (by rw [e])

theorem sames_len : ∀ {xs ys : List Nd}, xs.length ≠ ys.length → Nd.sames xs ys = false
  | [], [], h => absurd rfl h
  | [], _ :: _, _ => by simp [Nd.sames]
  | _ :: _, [], _ => by simp [Nd.sames]
  | x :: t, y :: s, h => by rw [Nd.sames, sames_len (by simpa using h), Bool.and_false]
theorem sames_step {xs ys : List Nd} {k : Nat} {r : Bool} (h : Nd.sames (xs.drop k) (ys.drop k) = r) (hx : k < xs.length) (hy : k < ys.length) : (Nd.same xs[k] ys[k] && Nd.sames (xs.drop (k + 1)) (ys.drop (k + 1))) = r := by
  rw [drop_cons xs k hx, drop_cons ys k hy, Nd.sames] at h
  exact h
theorem sames_end {xs ys : List Nd} {k : Nat} {r : Bool} (h : Nd.sames (xs.drop k) (ys.drop k) = r) (hx : ¬ k < xs.length) (hl : xs.length = ys.length) : true = r := by
  rw [drop_nil xs k (by omega), drop_nil ys k (by omega), Nd.sames] at h
  exact h
set_option maxRecDepth 100000 in
set_option maxHeartbeats 4000000 in
theorem impl_SameNode (a : Nd) : ∀ (b : Nd) (u v : Value) (w : World), InN w (All w) a u → InN w (All w) b v → Nd.Fit a → Nd.Fit b →
    Calls Tryd.prog 9 #[u, v] w fun e w' => e = .returned (.bool (Nd.same a b)) ∧ Below w.heap.size w w' := by
  induction a using Nd.ind with
  | h k n t ns xs ih =>
  intro b u v w hu hv hfa hfb
  have IH := Lib.hid ih
  clear ih
  cases b with
  | mk k' n' t' ns' xs' =>
  obtain ⟨An, cn, Ai, ci, rfl, hrn, hcn, hci, hri⟩ := hu.parts
  obtain ⟨An', cn', Ai', ci', rfl, hrn', hcn', hci', hri'⟩ := hv.parts
  simp only [Nd.Fit] at hfa hfb
  obtain ⟨ha1, ha2, ha3, ha4, ha5⟩ := hfa
  obtain ⟨hb1, hb2, hb3, hb4, hb5⟩ := hfb
  have HFA := Lib.hid ha5
  have HFB := Lib.hid hb5
  obtain ⟨hB0, hX0, hY0⟩ := two_boxes w (ndCells k n t An ns.length cn Ai xs.length ci) (ndCells k' n' t' An' ns'.length cn' Ai' xs'.length ci') 26 26
  have HB0 := Lib.hid hB0
  have HX0 := Lib.hid hX0
  have HY0 := Lib.hid hY0
  have HEQ := Lib.hid (equal_tx ns ns' An An' cn cn' _ (hrn.keep (fun _ hp => hB0.cell hp) (fun _ h => Nat.lt_of_lt_of_le h hB0.size)) (hrn'.keep (fun _ hp => hB0.cell hp) (fun _ h => Nat.lt_of_lt_of_le h hB0.size)) ha3 hb3)
  have HRA := Lib.hid (hri.now hB0)
  have HRB := Lib.hid (hri'.now hB0)
  have hzz : w.heap.size + 1 < ((w.alloc (.cells (ndCells k n t An ns.length cn Ai xs.length ci) 26)).alloc (.cells (ndCells k' n' t' An' ns'.length cn' Ai' xs'.length ci') 26)).heap.size := by simp
  have HS : Hid (Nd.same (.mk k n t ns xs) (.mk k' n' t' ns' xs') = (k == k' && (n == n' && (t == t' && (ns == ns' && Nd.sames xs xs'))))) := by show _ = _; simp only [Nd.same]
  clear hu hv hrn hri hrn' hri' ha5 hb5 hB0 hX0 hY0 ha2 hb2
  cases e1 : (k == k')
  · have m1 : (k != k') = true := by rw [bne, e1]; rfl
    have HE : Hid (Nd.same (.mk k n t ns xs) (.mk k' n' t' ns' xs') = false) := by show _ = _; rw [HS.out, e1]; rfl
    go_enter Tryd.func9, Tryd.ntmps9
    go_wp2_with fail
    all_goals (go_ret; exact ⟨ret_bool HE.out.symm, HB0.out⟩)
  cases e2 : (n == n')
  · obtain rfl := beq_iff_eq.1 e1
    have m2 : (n != n') = true := by rw [bne, e2]; rfl
    have HE : Hid (Nd.same (.mk k n t ns xs) (.mk k n' t' ns' xs') = false) := by show _ = _; rw [HS.out, e1, e2]; rfl
    go_enter Tryd.func9, Tryd.ntmps9
    go_wp2_with fail
    all_goals (go_ret; exact ⟨ret_bool HE.out.symm, HB0.out⟩)
  cases e3 : (t == t')
  · obtain rfl := beq_iff_eq.1 e1
    obtain rfl := beq_iff_eq.1 e2
    have m3 : (t != t') = true := by rw [bne, e3]; rfl
    have HE : Hid (Nd.same (.mk k n t ns xs) (.mk k n t' ns' xs') = false) := by show _ = _; rw [HS.out, e1, e2, e3]; rfl
    go_enter Tryd.func9, Tryd.ntmps9
    go_wp2_with fail
    all_goals (go_ret; exact ⟨ret_bool HE.out.symm, HB0.out⟩)
  rw [e1, e2, e3, Bool.true_and, Bool.true_and, Bool.true_and] at HS
  obtain rfl := beq_iff_eq.1 e1
  obtain rfl := beq_iff_eq.1 e2
  obtain rfl := beq_iff_eq.1 e3
  clear e1 e2 e3
  cases e4 : (ns == ns')
  · rw [e4] at HEQ HS
    have HE : Hid (Nd.same (.mk k n t ns xs) (.mk k n t ns' xs') = false) := HS.out
    clear e4
    go_enter Tryd.func9, Tryd.ntmps9
    go_wp2_with fail
    refine HEQ.out.mono ?_
    rintro e w1 ⟨rfl, hb⟩
    have HB1 := Lib.hid (HB0.out.trans (hb.mono HB0.out.size))
    clear hb
    go_wp2
    go_ret
    exact ⟨ret_bool HE.out.symm, HB1.out⟩
  rw [e4, Bool.true_and] at HS
  rw [e4] at HEQ
  clear e4
  by_cases hl : xs.length = xs'.length
  · have m5 : ((xs.length : Int) != (xs'.length : Int)) = false := by rw [hl]; simp
    have HL := Lib.hid hl
    have hxl : xs.length ≤ 9223372036854775807 := ha4
    clear hl
    go_enter Tryd.func9, Tryd.ntmps9
    go_wp2_with fail
    refine HEQ.out.mono ?_
    rintro e w1 ⟨rfl, hb⟩
    have HB1 := Lib.hid (HB0.out.trans (hb.mono HB0.out.size))
    have HX1 := Lib.hid (bx_keep HX0.out hb)
    have HY1 := Lib.hid (bx_keep HY0.out hb)
    have HRA1 := Lib.hid (HRA.out.now hb)
    have HRB1 := Lib.hid (HRB.out.now hb)
    have hz1 : w.heap.size + 1 < w1.heap.size := Nat.lt_of_lt_of_le hzz hb.size
    obtain ⟨⟨f0, f1, f2, f3, f4⟩, -⟩ := box_five HX1.out
    obtain ⟨⟨g0, g1, g2, g3, g4⟩, -⟩ := box_five HY1.out
    clear hb
    go_wp2
    go_loopw [45] (fun i wr => ∃ (j : Nat), j ≤ xs.length ∧ i = .int .i64 j ∧ Nd.sames (xs.drop j) (xs'.drop j) = Nd.sames xs xs' ∧ Below w1.heap.size w1 wr) (fun i _ => xs.length - (intOf i).toNat)
    case atStart => exact ⟨0, Nat.zero_le _, rfl, rfl, Below.refl _ _⟩
    case round =>
      obtain ⟨j, hj, rfl, hsm, hb⟩ := hrel
      have HSM := Lib.hid hsm
      have HB := Lib.hid hb
      clear hsm hb
      by_cases hlt : j < xs.length
      · have hlt' : j < xs'.length := by have := HL.out; omega
        obtain ⟨b1, o1, hA1, hb1, kd, nn, tt, An1, ln1, cn1, Ai1, li1, ci1, hin, c0, c1, c2, c3, c4⟩ := (HRA1.out.now HB.out).at hlt
        obtain ⟨b2, o2, hA2, hb2, kd', nn', tt', An2, ln2, cn2, Ai2, li2, ci2, hin', d0, d1, d2, d3, d4⟩ := (HRB1.out.now HB.out).at hlt'
        have HC := Lib.hid (And.intro c0 (And.intro c1 (And.intro c2 (And.intro c3 c4))))
        have HD := Lib.hid (And.intro d0 (And.intro d1 (And.intro d2 (And.intro d3 d4))))
        have HX4 := Lib.hid (box_five (bx_keep HX1.out HB.out)).1.2.2.2.2
        have HY4 := Lib.hid (box_five (bx_keep HY1.out HB.out)).1.2.2.2.2
        have hz2 : w.heap.size + 1 < wr.heap.size := Nat.lt_of_lt_of_le hz1 HB.out.size
        have hz3 : w.heap.size < wr.heap.size := by omega
        have HCALL := Lib.hid (fun w2 (hb : Below wr.heap.size wr w2) => IH.out xs[j] (List.getElem_mem hlt) xs'[j] _ _ w2 (hin.now hb) (hin'.now hb) (Nd.fits_mem HFA.out (List.getElem_mem hlt)) (Nd.fits_mem HFB.out (List.getElem_mem hlt')))
        have HST := Lib.hid (sames_step HSM.out hlt hlt')
        clear hin hin' c0 c1 c2 c3 c4 d0 d1 d2 d3 d4
        subst hA1
        subst hA2
        generalize Nd.same xs[j] xs'[j] = r at *
        go_wp2_with fail
        refine wp_region_typed 11 (by kernel_rfl) (by kernel_rfl) (fun _ w => Below (World.heap wr).size wr w) KB (fun i => ([bIs (.pointer (some ⟨w.heap.size, 4, none⟩)), bIs (.slice (some ⟨b1, o1, none⟩) xs.length ci), bIs (.int .i64 (j : Int)), bIs (.pointer (some ⟨b1, o1 + j * 5, none⟩)), bIs (ndV kd nn tt An1 ln1 cn1 Ai1 li1 ci1), bIs (.pointer (some ⟨w.heap.size + 1, 4, none⟩)), bIs (.slice (some ⟨b2, o2, none⟩) xs'.length ci'), bIs (.int .i64 (j : Int)), bIs (.pointer (some ⟨b2, o2 + j * 5, none⟩)), bIs (ndV kd' nn' tt' An2 ln2 cn2 Ai2 li2 ci2), bIs (.bool r)] : List TyB).getD i bAny) ?hWbB1 ?hkeepB1 ?hstepB1 ?hfinbB1
        case hkeepB1 =>
          refine all_lt_succ (all_lt_succ (all_lt_succ (all_lt_succ (all_lt_succ (all_lt_succ (all_lt_succ (all_lt_succ (all_lt_succ (all_lt_succ (all_lt_succ all_lt_zero ?_) ?_) ?_) ?_) ?_) ?_) ?_) ?_) ?_) ?_) ?_
          · exact keeps_bIs
          · exact keeps_bIs
          · exact keeps_bIs
          · exact keeps_bIs
          · exact keeps_bIs
          · exact keeps_bIs
          · exact keeps_bIs
          · exact keeps_bIs
          · exact keeps_bIs
          · exact keeps_bIs
          · exact keeps_bIs
        case hstepB1 =>
          refine all_lt_succ (all_lt_succ (all_lt_succ (all_lt_succ (all_lt_succ (all_lt_succ (all_lt_succ (all_lt_succ (all_lt_succ (all_lt_succ (all_lt_succ all_lt_zero ?_) ?_) ?_) ?_) ?_) ?_) ?_) ?_) ?_) ?_) ?_
          · (intro o ho m' a w1 hm' hW hb hd K Q hK; obtain rfl := Option.some.inj ho; have e0 : a.tmps[2]?.getD undef = .pointer (some ⟨w.heap.size, 0, none⟩) := (by rw [hb 2 (by decide +kernel)]; simp); go_simp; exact hK _ _ hW (kb_refl _) rfl)
          · (intro o ho m' a w1 hm' hW hb hd K Q hK; obtain rfl := Option.some.inj ho; have e0 := slotB (hd 0 (by kernel_rfl) 48 rfl); have hcw := (hW.cell (p := ⟨w.heap.size, 4, none⟩) hz3).trans HX4.out; go_simp; exact hK _ _ hW (kb_refl _) rfl)
          · (intro o ho m' a w1 hm' hW hb hd K Q hK; obtain rfl := Option.some.inj ho; have e0 : a.tmps[5]?.getD undef = (.int .i64 (j : Int)) := (by rw [hb 5 (by decide +kernel)]; simp); go_simp; exact hK _ _ hW (kb_refl _) rfl)
          · (intro o ho m' a w1 hm' hW hb hd K Q hK; obtain rfl := Option.some.inj ho; have e0 := slotB (hd 1 (by kernel_rfl) 49 rfl); have e1 := slotB (hd 2 (by kernel_rfl) 50 rfl); go_simp; exact hK _ _ hW (kb_refl _) rfl)
          · (intro o ho m' a w1 hm' hW hb hd K Q hK; obtain rfl := Option.some.inj ho; have e0 := slotB (hd 3 (by kernel_rfl) 51 rfl); have q0 := (hW.cell (p := ⟨b1, o1 + j * 5, none⟩) hb1).trans HC.out.1; have q1 := (hW.cell (p := ⟨b1, o1 + j * 5 + 1, none⟩) hb1).trans HC.out.2.1; have q2 := (hW.cell (p := ⟨b1, o1 + j * 5 + 2, none⟩) hb1).trans HC.out.2.2.1; have q3 := (hW.cell (p := ⟨b1, o1 + j * 5 + 3, none⟩) hb1).trans HC.out.2.2.2.1; have q4 := (hW.cell (p := ⟨b1, o1 + j * 5 + 4, none⟩) hb1).trans HC.out.2.2.2.2; go_simp; exact hK _ _ hW (kb_refl _) rfl)
          · (intro o ho m' a w1 hm' hW hb hd K Q hK; obtain rfl := Option.some.inj ho; have e0 : a.tmps[3]?.getD undef = .pointer (some ⟨w.heap.size + 1, 0, none⟩) := (by rw [hb 3 (by decide +kernel)]; simp); go_simp; exact hK _ _ hW (kb_refl _) rfl)
          · (intro o ho m' a w1 hm' hW hb hd K Q hK; obtain rfl := Option.some.inj ho; have e0 := slotB (hd 5 (by kernel_rfl) 53 rfl); have hcw := (hW.cell (p := ⟨w.heap.size + 1, 4, none⟩) hz2).trans HY4.out; go_simp; exact hK _ _ hW (kb_refl _) rfl)
          · (intro o ho m' a w1 hm' hW hb hd K Q hK; obtain rfl := Option.some.inj ho; have e0 : a.tmps[5]?.getD undef = (.int .i64 (j : Int)) := (by rw [hb 5 (by decide +kernel)]; simp); go_simp; exact hK _ _ hW (kb_refl _) rfl)
          · (intro o ho m' a w1 hm' hW hb hd K Q hK; obtain rfl := Option.some.inj ho; have e0 := slotB (hd 6 (by kernel_rfl) 54 rfl); have e1 := slotB (hd 7 (by kernel_rfl) 55 rfl); go_simp; exact hK _ _ hW (kb_refl _) rfl)
          · (intro o ho m' a w1 hm' hW hb hd K Q hK; obtain rfl := Option.some.inj ho; have e0 := slotB (hd 8 (by kernel_rfl) 56 rfl); have q0 := (hW.cell (p := ⟨b2, o2 + j * 5, none⟩) hb2).trans HD.out.1; have q1 := (hW.cell (p := ⟨b2, o2 + j * 5 + 1, none⟩) hb2).trans HD.out.2.1; have q2 := (hW.cell (p := ⟨b2, o2 + j * 5 + 2, none⟩) hb2).trans HD.out.2.2.1; have q3 := (hW.cell (p := ⟨b2, o2 + j * 5 + 3, none⟩) hb2).trans HD.out.2.2.2.1; have q4 := (hW.cell (p := ⟨b2, o2 + j * 5 + 4, none⟩) hb2).trans HD.out.2.2.2.2; go_simp; exact hK _ _ hW (kb_refl _) rfl)
          · (intro o ho m' a w1 hm' hW hb hd K Q hK; obtain rfl := Option.some.inj ho; have e0 := slotB (hd 4 (by kernel_rfl) 52 rfl); have e1 := slotB (hd 9 (by kernel_rfl) 57 rfl); go_simp; refine (HCALL.out _ hW).mono ?_; rintro e w2 ⟨rfl, hb2⟩; exact hK _ _ (hW.trans (hb2.mono hW.size)) hb2 rfl)
        case hWbB1 => exact (Below.refl _ _).drew
        case hfinbB1 =>
          intro vs w2 hW hF
          simp only [putAll, hdst, List.getElem?_cons_succ, List.getElem?_cons_zero, Option.bind, List.drop_succ_cons, List.drop_zero, Act.put]
          have h10 : vs 10 = .bool r := hF 10 (by omega)
          rw [h10]
          have HB2 := Lib.hid (HB.out.trans (hW.mono HB.out.size))
          clear hW hF h10
          go_simp
          cases r
          · have HE : Hid (Nd.same (.mk k n t ns xs) (.mk k n t ns' xs') = false) := by show _ = _; rw [HS.out]; exact HST.out.symm
            go_wp2
            go_ret
            exact ⟨ret_bool HE.out.symm, HB1.out.trans (HB2.out.mono HB1.out.size)⟩
          · rw [Bool.true_and] at HST
            go_wp2
            go_roundw
            case rel => exact ⟨j + 1, by omega, by go_num, HST.out, HB2.out⟩
            case measure => simp [intOf]; omega
      · have HE := Lib.hid (sames_end HSM.out hlt HL.out)
        go_wp2
        go_ret
        exact ⟨ret_bool (by rw [HS.out]; exact HE.out), HB1.out.trans (HB.out.mono HB1.out.size)⟩
  · have m5 : ((xs.length : Int) != (xs'.length : Int)) = true := by simp; omega
    have HE : Hid (Nd.same (.mk k n t ns xs) (.mk k n t ns' xs') = false) := by show _ = _; rw [HS.out]; exact sames_len hl
    clear hl
    go_enter Tryd.func9, Tryd.ntmps9
    go_wp2_with fail
    refine HEQ.out.mono ?_
    rintro e w1 ⟨rfl, hb⟩
    have HB1 := Lib.hid (HB0.out.trans (hb.mono HB0.out.size))
    have HX1 := Lib.hid (bx_keep HX0.out hb)
    have HY1 := Lib.hid (bx_keep HY0.out hb)
    obtain ⟨⟨f0, f1, f2, f3, f4⟩, -⟩ := box_five HX1.out
    obtain ⟨⟨g0, g1, g2, g3, g4⟩, -⟩ := box_five HY1.out
    clear hb
    go_wp2
    go_ret
    exact ⟨ret_bool HE.out.symm, HB1.out⟩
end Go.Proofs.YtdmmnjnbjigdeaaDoor
