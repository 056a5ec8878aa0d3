/- Parts in the laws: equality, size: walks. -/
import Derived.Test.YtginghjgfippiaaPartWP
namespace Go.Proofs.Ytginghjgfippiaa
open Go.RowKit

/-- eqPart's contract at one part -/
def EqC (x : Pt) : Prop := ∀ (b : Pt) (u v : Value) (w : World), InP w (All w) x u → InP w (All w) b v → Pt.Fit x → Pt.Fit b →
    Calls Try.prog 58 #[u, v] w fun e w' => e = .returned (.bool (Pt.same x b)) ∧ Below w.heap.size w w'
set_option maxRecDepth 100000 in
set_option maxHeartbeats 4000000 in
theorem laws_eqPartS (xs xs' : List Pt) (hE : ∀ x ∈ xs, EqC x) (A A' : Option Addr) (c c' : Nat) (w : World) (hx : RdP w (All w) A xs) (hy : RdP w (All w) A' xs') (hf : Pt.Fits xs) (hf' : Pt.Fits xs') (hn : xs.length ≤ maxLen) :
    Calls Try.prog 38 #[.slice A xs.length c, .slice A' xs'.length c'] w fun e w' => e = .returned (.bool (Pt.sames xs xs')) ∧ Below w.heap.size w w' := by
  have HE0 := Lib.hid hE
  have HX := Lib.hid hx
  have HY := Lib.hid hy
  have HF := Lib.hid hf
  have HF' := Lib.hid hf'
  have hxl : xs.length ≤ 9223372036854775807 := hn
  clear hE hx hy hf hf' hn
  by_cases hl : xs.length = xs'.length
  · have m5 : ((xs.length : Int) != (xs'.length : Int)) = false := by rw [hl]; simp
    have HL := Lib.hid hl
    clear hl
    go_enter Try.func38, Try.ntmps38
    go_wp2
    go_loopw [5] (fun i wr => ∃ (j : Nat), j ≤ xs.length ∧ i = .int .i64 j ∧ Pt.sames (xs.drop j) (xs'.drop j) = Pt.sames xs xs' ∧ Below w.heap.size w wr) (fun i _ => xs.length - (intOf i).toNat)
    case atStart => exact ⟨0, Nat.zero_le _, rfl, rfl, Below.refl _ _⟩
    case round =>
      obtain ⟨j, hj, rfl, hsm, hb⟩ := hrel
      have HSM := Lib.hid hsm
      have HB := Lib.hid hb
      clear hsm hb
      by_cases hlt : j < xs.length
      · have hlt' : j < xs'.length := by have := HL.out; omega
        obtain ⟨b1, o1, hA1, hb1, kd, tt, nn, An1, ln1, cn1, Ai1, li1, ci1, hin, c0, c1, c2, c3, c4⟩ := (HX.out.now HB.out).at hlt
        obtain ⟨b2, o2, hA2, hb2, kd', tt', nn', An2, ln2, cn2, Ai2, li2, ci2, hin', d0, d1, d2, d3, d4⟩ := (HY.out.now HB.out).at hlt'
        have HC := Lib.hid (And.intro c0 (And.intro c1 (And.intro c2 (And.intro c3 c4))))
        have HD := Lib.hid (And.intro d0 (And.intro d1 (And.intro d2 (And.intro d3 d4))))
        have HCALL := Lib.hid (fun w2 (hb : Below wr.heap.size wr w2) => HE0.out xs[j] (List.getElem_mem hlt) xs'[j] _ _ w2 (hin.now hb) (hin'.now hb) (Pt.fits_mem HF.out (List.getElem_mem hlt)) (Pt.fits_mem HF'.out (List.getElem_mem hlt')))
        have HST := Lib.hid (psames_step HSM.out hlt hlt')
        clear hin hin' c0 c1 c2 c3 c4 d0 d1 d2 d3 d4
        generalize Pt.same xs[j] xs'[j] = r at *
        subst hA1
        subst hA2
        go_wp2_with fail
        refine wp_region_typed 9 (by kernel_rfl) (by kernel_rfl) (fun _ w => Below (World.heap wr).size wr w) KB (fun i => ([bIs (.slice (some ⟨b1, o1, none⟩) xs.length c), bIs (.int .i64 (j : Int)), bIs (.pointer (some ⟨b1, o1 + j * 5, none⟩)), bIs (ptV kd tt nn An1 ln1 cn1 Ai1 li1 ci1), bIs (.slice (some ⟨b2, o2, none⟩) xs'.length c'), bIs (.int .i64 (j : Int)), bIs (.pointer (some ⟨b2, o2 + j * 5, none⟩)), bIs (ptV kd' tt' nn' An2 ln2 cn2 Ai2 li2 ci2), bIs (.bool r)] : List TyB).getD i bAny) ?hWbB1 ?hkeepB1 ?hstepB1 ?hfinbB1
        case hkeepB1 =>
          refine all_lt_succ (all_lt_succ (all_lt_succ (all_lt_succ (all_lt_succ (all_lt_succ (all_lt_succ (all_lt_succ (all_lt_succ all_lt_zero ?_) ?_) ?_) ?_) ?_) ?_) ?_) ?_) ?_
          · exact keeps_bIs
          · exact keeps_bIs
          · exact keeps_bIs
          · exact keeps_bIs
          · exact keeps_bIs
          · exact keeps_bIs
          · exact keeps_bIs
          · exact keeps_bIs
          · exact keeps_bIs
        case hstepB1 =>
          refine all_lt_succ (all_lt_succ (all_lt_succ (all_lt_succ (all_lt_succ (all_lt_succ (all_lt_succ (all_lt_succ (all_lt_succ all_lt_zero ?_) ?_) ?_) ?_) ?_) ?_) ?_) ?_) ?_
          · (intro o ho m' a w1 hm' hW hb hd K Q hK; obtain rfl := Option.some.inj ho; have e0 : a.tmps[0]?.getD undef = (.slice (some ⟨b1, o1, none⟩) xs.length c) := (by rw [hb 0 (by decide +kernel)]; simp); go_simp; exact hK _ _ hW (kb_refl _) rfl)
          · (intro o ho m' a w1 hm' hW hb hd K Q hK; obtain rfl := Option.some.inj ho; have e0 : a.tmps[5]?.getD undef = (.int .i64 (j : Int)) := (by rw [hb 5 (by decide +kernel)]; simp); go_simp; exact hK _ _ hW (kb_refl _) rfl)
          · (intro o ho m' a w1 hm' hW hb hd K Q hK; obtain rfl := Option.some.inj ho; have e0 := slotB (hd 0 (by kernel_rfl) 17 rfl); have e1 := slotB (hd 1 (by kernel_rfl) 18 rfl); go_simp; exact hK _ _ hW (kb_refl _) rfl)
          · (intro o ho m' a w1 hm' hW hb hd K Q hK; obtain rfl := Option.some.inj ho; have e0 := slotB (hd 2 (by kernel_rfl) 19 rfl); have q0 := (hW.cell (p := ⟨b1, o1 + j * 5, none⟩) hb1).trans HC.out.1; have q1 := (hW.cell (p := ⟨b1, o1 + j * 5 + 1, none⟩) hb1).trans HC.out.2.1; have q2 := (hW.cell (p := ⟨b1, o1 + j * 5 + 2, none⟩) hb1).trans HC.out.2.2.1; have q3 := (hW.cell (p := ⟨b1, o1 + j * 5 + 3, none⟩) hb1).trans HC.out.2.2.2.1; have q4 := (hW.cell (p := ⟨b1, o1 + j * 5 + 4, none⟩) hb1).trans HC.out.2.2.2.2; go_simp; exact hK _ _ hW (kb_refl _) rfl)
          · (intro o ho m' a w1 hm' hW hb hd K Q hK; obtain rfl := Option.some.inj ho; have e0 : a.tmps[1]?.getD undef = (.slice (some ⟨b2, o2, none⟩) xs'.length c') := (by rw [hb 1 (by decide +kernel)]; simp); go_simp; exact hK _ _ hW (kb_refl _) rfl)
          · (intro o ho m' a w1 hm' hW hb hd K Q hK; obtain rfl := Option.some.inj ho; have e0 : a.tmps[5]?.getD undef = (.int .i64 (j : Int)) := (by rw [hb 5 (by decide +kernel)]; simp); go_simp; exact hK _ _ hW (kb_refl _) rfl)
          · (intro o ho m' a w1 hm' hW hb hd K Q hK; obtain rfl := Option.some.inj ho; have e0 := slotB (hd 4 (by kernel_rfl) 21 rfl); have e1 := slotB (hd 5 (by kernel_rfl) 22 rfl); go_simp; exact hK _ _ hW (kb_refl _) rfl)
          · (intro o ho m' a w1 hm' hW hb hd K Q hK; obtain rfl := Option.some.inj ho; have e0 := slotB (hd 6 (by kernel_rfl) 23 rfl); have q0 := (hW.cell (p := ⟨b2, o2 + j * 5, none⟩) hb2).trans HD.out.1; have q1 := (hW.cell (p := ⟨b2, o2 + j * 5 + 1, none⟩) hb2).trans HD.out.2.1; have q2 := (hW.cell (p := ⟨b2, o2 + j * 5 + 2, none⟩) hb2).trans HD.out.2.2.1; have q3 := (hW.cell (p := ⟨b2, o2 + j * 5 + 3, none⟩) hb2).trans HD.out.2.2.2.1; have q4 := (hW.cell (p := ⟨b2, o2 + j * 5 + 4, none⟩) hb2).trans HD.out.2.2.2.2; go_simp; exact hK _ _ hW (kb_refl _) rfl)
          · (intro o ho m' a w1 hm' hW hb hd K Q hK; obtain rfl := Option.some.inj ho; have e0 := slotB (hd 3 (by kernel_rfl) 20 rfl); have e1 := slotB (hd 7 (by kernel_rfl) 24 rfl); go_simp; refine (HCALL.out _ hW).mono ?_; rintro e w2 ⟨rfl, hb2⟩; exact hK _ _ (hW.trans (hb2.mono hW.size)) hb2 rfl)
        case hWbB1 => exact (Below.refl _ _).drew
        case hfinbB1 =>
          intro vs w2 hW hF
          simp only [putAll, hdst, List.getElem?_cons_succ, List.getElem?_cons_zero, Option.bind, List.drop_succ_cons, List.drop_zero, Act.put]
          have h8 : vs 8 = .bool r := hF 8 (by omega)
          rw [h8]
          have HB4 := Lib.hid (HB.out.trans (hW.mono HB.out.size))
          clear hW hF h8
          go_simp
          cases r
          · have HE : Hid (Pt.sames xs xs' = false) := HST.out.symm
            go_wp2
            go_ret
            exact ⟨ret_bool HE.out.symm, HB4.out⟩
          · rw [Bool.true_and] at HST
            go_wp2
            go_roundw
            case rel => exact ⟨j + 1, by omega, by go_num, HST.out, HB4.out⟩
            case measure => simp [intOf]; omega
      · have HE := Lib.hid (psames_end HSM.out hlt HL.out)
        go_wp2
        go_ret
        exact ⟨ret_bool HE.out, HB.out⟩
  · have m5 : ((xs.length : Int) != (xs'.length : Int)) = true := by simp; omega
    have HE : Hid (Pt.sames xs xs' = false) := psames_len hl
    clear hl
    go_enter Try.func38, Try.ntmps38
    go_wp2
    go_ret
    exact ⟨ret_bool HE.out.symm, Below.refl _ _⟩
set_option maxRecDepth 100000 in
set_option maxHeartbeats 4000000 in
theorem laws_eqPart (a : Pt) : EqC a := by
  induction a using Pt.ind with
  | h k t n xs ys ih1 ih2 =>
  intro b u v w hu hv hfa hfb
  cases b with
  | mk k' t' n' xs' ys' =>
  obtain ⟨Ap, cp, Ao, co, rfl, hcp, hco, hrp, hro⟩ := hu.parts
  obtain ⟨Ap', cp', Ao', co', rfl, hcp', hco', hrp', hro'⟩ := hv.parts
  simp only [Pt.Fit] at hfa hfb
  obtain ⟨ha1, ha2, ha3, ha4, ha5, ha6⟩ := hfa
  obtain ⟨hb1, hb2, hb3, hb4, hb5, hb6⟩ := hfb
  obtain ⟨hB0, hX0, hY0⟩ := two_boxes w (ptCells k t n Ap xs.length cp Ao ys.length co) (ptCells k' t' n' Ap' xs'.length cp' Ao' ys'.length co') 66 66
  have HB0 := Lib.hid hB0
  have HX0 := Lib.hid hX0
  have HY0 := Lib.hid hY0
  have HEQ := Lib.hid (laws_eqPartS xs xs' ih1 Ap Ap' cp cp' _ (hrp.now hB0) (hrp'.now hB0) ha5 hb5 ha3)
  have HIN := Lib.hid (fun w2 (hb : Below _ _ w2) => laws_eqPartS ys ys' ih2 Ao Ao' co co' w2 ((hro.now hB0).now hb) ((hro'.now hB0).now hb) ha6 hb6 ha4)
  have HS : Hid (Pt.same (.mk k t n xs ys) (.mk k' t' n' xs' ys') = (k == k' && (t == t' && (n == n' && (Pt.sames xs xs' && Pt.sames ys ys'))))) := by show _ = _; simp only [Pt.same]
  clear hu hv hrp hro hrp' hro' ha5 hb5 hB0 hX0 hY0 ha3 hb3 ih1 ih2 ha4 hb4 ha6 hb6
  cases e1 : (k == k')
  · have m1 : (k != k') = true := by rw [bne, e1]; rfl
    have HE : Hid (Pt.same (.mk k t n xs ys) (.mk k' t' n' xs' ys') = false) := by show _ = _; rw [HS.out, e1]; rfl
    go_enter Try.func58, Try.ntmps58
    go_wp2
    all_goals (go_ret; exact ⟨ret_bool HE.out.symm, HB0.out⟩)
  cases e2 : (t == t')
  · obtain rfl := beq_iff_eq.1 e1
    have m2 : (t != t') = true := by rw [bne, e2]; rfl
    have HE : Hid (Pt.same (.mk k t n xs ys) (.mk k t' n' xs' ys') = false) := by show _ = _; rw [HS.out, e1, e2]; rfl
    go_enter Try.func58, Try.ntmps58
    go_wp2
    all_goals (go_ret; exact ⟨ret_bool HE.out.symm, HB0.out⟩)
  cases e3 : (n == n')
  · obtain rfl := beq_iff_eq.1 e1
    obtain rfl := beq_iff_eq.1 e2
    have m3 : (n != n') = true := by rw [bne, e3]; rfl
    have HE : Hid (Pt.same (.mk k t n xs ys) (.mk k t n' xs' ys') = false) := by show _ = _; rw [HS.out, e1, e2, e3]; rfl
    go_enter Try.func58, Try.ntmps58
    go_wp2
    all_goals (go_ret; exact ⟨ret_bool HE.out.symm, HB0.out⟩)
  rw [e1, e2, e3, Bool.true_and, Bool.true_and, Bool.true_and] at HS
  obtain rfl := beq_iff_eq.1 e1
  obtain rfl := beq_iff_eq.1 e2
  obtain rfl := beq_iff_eq.1 e3
  clear e1 e2 e3
  have hzz : w.heap.size + 1 < ((w.alloc (.cells (ptCells k t n Ap xs.length cp Ao ys.length co) 66)).alloc (.cells (ptCells k t n Ap' xs'.length cp' Ao' ys'.length co') 66)).heap.size := by simp
  generalize hr4 : Pt.sames xs xs' = r4 at HEQ HS
  clear hr4
  go_enter Try.func58, Try.ntmps58
  go_wp2_with fail
  refine HEQ.out.mono ?_
  rintro e w1 ⟨rfl, hb⟩
  have HB1 := Lib.hid (HB0.out.trans (hb.mono HB0.out.size))
  have HX1 := Lib.hid (bx_keep HX0.out hb)
  have HY1 := Lib.hid (bx_keep HY0.out hb)
  have HI1 := Lib.hid (HIN.out w1 hb)
  obtain ⟨⟨f0, f1, f2, f3, f4⟩, -⟩ := box_five HX1.out
  obtain ⟨⟨g0, g1, g2, g3, g4⟩, -⟩ := box_five HY1.out
  clear hb
  cases r4
  · have HE : Hid (Pt.same (.mk k t n xs ys) (.mk k t n xs' ys') = false) := HS.out
    go_wp2
    go_ret
    exact ⟨ret_bool HE.out.symm, HB1.out⟩
  · rw [Bool.true_and] at HS
    generalize hr5 : Pt.sames ys ys' = r5 at HI1 HS
    clear hr5
    go_wp2_with fail
    refine HI1.out.mono ?_
    rintro e w2 ⟨rfl, hb⟩
    have HB2 := Lib.hid (HB1.out.trans (hb.mono HB1.out.size))
    clear hb
    cases r5
    all_goals
      go_wp2
      go_ret
      exact ⟨ret_bool HS.out.symm, HB2.out⟩

/-- szPart's contract at one part: what is left, if there is enough; else -1 -/
def SzC (x : Pt) : Prop := ∀ (u : Value) (left : Int) (w : World), InP w (All w) x u → Pt.Fit x → 0 ≤ left → left ≤ 1048576 →
    Calls Try.prog 54 #[u, .int .i64 left] w fun e w' => e = .returned (.int .i64 (szLeft left (Pt.size x))) ∧ Below w.heap.size w w'
set_option maxRecDepth 100000 in
set_option maxHeartbeats 4000000 in
theorem laws_szPartS (xs : List Pt) (hE : ∀ x ∈ xs, SzC x) (A : Option Addr) (c : Nat) (left : Int) (w : World) (hx : RdP w (All w) A xs) (hf : Pt.Fits xs) (hn : xs.length ≤ maxLen) (h0 : 0 ≤ left) (h1 : left ≤ 1048576) :
    Calls Try.prog 34 #[.slice A xs.length c, .int .i64 left] w fun e w' => e = .returned (.int .i64 (szLeft left (xs.length + Pt.sizes xs))) ∧ Below w.heap.size w w' := by
  have HE0 := Lib.hid hE
  have HX := Lib.hid hx
  have HF := Lib.hid hf
  have hxl : xs.length ≤ 9223372036854775807 := hn
  clear hE hx hf hn
  by_cases hz : left < xs.length
  · have HR : Hid (szLeft left (xs.length + Pt.sizes xs) = -1) := by show _ = _; rw [szLeft_neg (by omega)]
    have hz' : left - (xs.length : Int) < 0 := by omega
    go_enter Try.func34, Try.ntmps34
    go_wp2
    go_ret
    exact ⟨ret_int HR.out.symm, Below.refl _ _⟩
  · have hz' : 0 ≤ left - (xs.length : Int) := by omega
    have HGO : Hid (∀ (j : Nat) (lf : Int), lf - Pt.sizes (xs.drop j) = left - xs.length - Pt.sizes xs → True) := fun _ _ _ => trivial
    clear HGO
    go_enter Try.func34, Try.ntmps34
    go_wp2
    go_loopw [1, 5] (fun l i wr => ∃ (j : Nat) (lf : Int), j ≤ xs.length ∧ i = .int .i64 j ∧ l = .int .i64 lf ∧ 0 ≤ lf ∧ lf ≤ 1048576 ∧ lf - Pt.sizes (xs.drop j) = left - xs.length - Pt.sizes xs ∧ Below w.heap.size w wr) (fun _ i _ => xs.length - (intOf i).toNat)
    case atStart => exact ⟨0, _, Nat.zero_le _, rfl, rfl, by omega, by omega, by simp, Below.refl _ _⟩
    case round =>
      obtain ⟨j, lf, hj, rfl, rfl, hl0, hl1, hrest, hb⟩ := hrel
      have HRS := Lib.hid hrest
      have HB := Lib.hid hb
      clear hrest hb
      by_cases hlt : j < xs.length
      · obtain ⟨b1, o1, hA1, hb1, kd, tt, nn, An1, ln1, cn1, Ai1, li1, ci1, hin, c0, c1, c2, c3, c4⟩ := (HX.out.now HB.out).at hlt
        have HCALL := Lib.hid (HE0.out xs[j] (List.getElem_mem hlt) _ lf wr hin (Pt.fits_mem HF.out (List.getElem_mem hlt)) hl0 hl1)
        have HD := Lib.hid (Pt.sizes_drop xs j hlt)
        have HLE := Lib.hid (Pt.sizes_drop_le xs (j + 1))
        generalize Pt.size xs[j] = sz at *
        subst hA1
        by_cases ho : (sz : Int) ≤ lf
        · rw [szLeft_pos ho] at HCALL
          have hnn : 0 ≤ lf - (sz : Int) := by omega
          go_wp2_with fail
          refine HCALL.out.mono ?_
          rintro e w2 ⟨rfl, hb⟩
          have HB2 := Lib.hid (HB.out.trans (hb.mono HB.out.size))
          clear hb
          go_wp2
          go_roundw
          case rel =>
            have := HD.out; have := HRS.out
            exact ⟨j + 1, _, by omega, by go_num, rfl, by omega, by omega, by omega, HB2.out⟩
          case measure => simp [intOf]; omega
        · rw [szLeft_neg ho] at HCALL
          have HR : Hid (szLeft left (xs.length + Pt.sizes xs) = -1) := by
            show _ = _
            have := HD.out; have := HRS.out
            rw [szLeft_neg (by omega)]
          go_wp2_with fail
          refine HCALL.out.mono ?_
          rintro e w2 ⟨rfl, hb⟩
          have HB2 := Lib.hid (HB.out.trans (hb.mono HB.out.size))
          clear hb
          go_wp2
          go_ret
          exact ⟨ret_int HR.out.symm, HB2.out⟩
      · have HR : Hid (szLeft left (xs.length + Pt.sizes xs) = lf) := by
          show _ = _
          have h := HRS.out
          rw [drop_nil xs j (by omega)] at h
          simp only [Pt.sizes] at h
          rw [szLeft_pos (by omega)]
          omega
        go_wp2
        go_ret
        exact ⟨ret_int HR.out.symm, HB.out⟩
set_option maxRecDepth 100000 in
set_option maxHeartbeats 4000000 in
theorem laws_szPart (a : Pt) : SzC a := by
  induction a using Pt.ind with
  | h k t n xs ys ih1 ih2 =>
  intro u left w hu hfa h0 h1
  obtain ⟨Ap, cp, Ao, co, rfl, hcp, hco, hrp, hro⟩ := hu.parts
  simp only [Pt.Fit] at hfa
  obtain ⟨ha1, ha2, ha3, ha4, ha5, ha6⟩ := hfa
  have hB0 := (Below.refl w.heap.size w).alloc (Nat.le_refl _) (.cells (ptCells k t n Ap xs.length cp Ao ys.length co) 75)
  have HB0 := Lib.hid hB0
  have HX0 := Lib.hid (heap_alloc_new w (.cells (ptCells k t n Ap xs.length cp Ao ys.length co) 75))
  have htl : t.length ≤ 9223372036854775807 := ha1
  have hnl : n.length ≤ 9223372036854775807 := ha2
  have HS : Hid (Pt.size (.mk k t n xs ys) = t.length + n.length + (xs.length + Pt.sizes xs) + (ys.length + Pt.sizes ys)) := by show _ = _; simp only [Pt.size]
  have HIN := Lib.hid (fun (l : Int) (h0 : 0 ≤ l) (h1 : l ≤ 1048576) => laws_szPartS xs ih1 Ap cp l _ (hrp.now hB0) ha5 ha3 h0 h1)
  have HIO := Lib.hid (fun w2 (hb : Below _ _ w2) (l : Int) (h0 : 0 ≤ l) (h1 : l ≤ 1048576) => laws_szPartS ys ih2 Ao co l w2 ((hro.now hB0).now hb) ha6 ha4 h0 h1)
  have hzz : w.heap.size < (w.alloc (.cells (ptCells k t n Ap xs.length cp Ao ys.length co) 75)).heap.size := by simp
  clear hu hrp hro ha5 ha6 hB0 ha3 ha4 ih1 ih2
  by_cases e1 : left < (t.length : Int)
  ·
    have HE : Hid (szLeft left (Pt.size (.mk k t n xs ys)) = -1) := by show _ = _; rw [szLeft_neg (by rw [HS.out]; omega)]
    have e1' : left - (t.length : Int) < 0 := by omega
    go_enter Try.func54, Try.ntmps54
    go_wp2
    go_ret
    exact ⟨ret_int HE.out.symm, HB0.out⟩
  have e1' : 0 ≤ left - (t.length : Int) := by omega
  by_cases e2 : left - (t.length : Int) < (n.length : Int)
  ·
    have HE : Hid (szLeft left (Pt.size (.mk k t n xs ys)) = -1) := by show _ = _; rw [szLeft_neg (by rw [HS.out]; omega)]
    have e2' : left - (t.length : Int) - (n.length : Int) < 0 := by omega
    go_enter Try.func54, Try.ntmps54
    go_wp2
    go_ret
    exact ⟨ret_int HE.out.symm, HB0.out⟩
  have e2' : 0 ≤ left - (t.length : Int) - (n.length : Int) := by omega
  have HI := Lib.hid (HIN.out (left - (t.length : Int) - (n.length : Int)) e2' (by omega))
  by_cases e3 : ((xs.length + Pt.sizes xs : Nat) : Int) ≤ left - (t.length : Int) - (n.length : Int)
  case neg =>
    have HE : Hid (szLeft left (Pt.size (.mk k t n xs ys)) = -1) := by show _ = _; rw [szLeft_neg (by rw [HS.out]; omega)]
    rw [szLeft_neg e3] at HI
    clear e3
    go_enter Try.func54, Try.ntmps54
    go_wp2_with fail
    refine HI.out.mono ?_
    rintro e w2 ⟨rfl, hb⟩
    have HB2 := Lib.hid (HB0.out.trans (hb.mono HB0.out.size))
    clear hb
    go_wp2
    go_ret
    exact ⟨ret_int HE.out.symm, HB2.out⟩
  rw [szLeft_pos e3] at HI
  have e3' : 0 ≤ left - (t.length : Int) - (n.length : Int) - (xs.length + Pt.sizes xs : Nat) := by omega
  have HJ := Lib.hid (fun w2 (hb : Below _ _ w2) => HIO.out w2 hb (left - (t.length : Int) - (n.length : Int) - (xs.length + Pt.sizes xs : Nat)) e3' (by omega))
  by_cases e4 : ((ys.length + Pt.sizes ys : Nat) : Int) ≤ left - (t.length : Int) - (n.length : Int) - (xs.length + Pt.sizes xs : Nat)
  · have HE : Hid (szLeft left (Pt.size (.mk k t n xs ys)) = left - (t.length : Int) - (n.length : Int) - (xs.length + Pt.sizes xs : Nat) - (ys.length + Pt.sizes ys : Nat)) := by show _ = _; rw [szLeft_pos (by rw [HS.out]; omega), HS.out]; omega
    rw [szLeft_pos e4] at HJ
    have e5 : 0 ≤ left - (t.length : Int) - (n.length : Int) - (xs.length + Pt.sizes xs : Nat) - (ys.length + Pt.sizes ys : Nat) := by omega
    clear e3 e4
    generalize (xs.length + Pt.sizes xs : Nat) = mx at *
    generalize (ys.length + Pt.sizes ys : Nat) = my at *
    go_enter Try.func54, Try.ntmps54
    go_wp2_with fail
    refine HI.out.mono ?_
    rintro e w2 ⟨rfl, hb⟩
    have HB2 := Lib.hid (HB0.out.trans (hb.mono HB0.out.size))
    have HJ2 := Lib.hid (HJ.out w2 hb)
    obtain ⟨⟨f0, f1, f2, f3, f4⟩, -⟩ := box_five (bx_keep HX0.out hb)
    clear hb
    go_wp2_with fail
    refine HJ2.out.mono ?_
    rintro e w3 ⟨rfl, hb⟩
    have HB3 := Lib.hid (HB2.out.trans (hb.mono HB2.out.size))
    clear hb
    go_wp2
    go_ret
    exact ⟨ret_int HE.out.symm, HB3.out⟩
  ·
    have HE : Hid (szLeft left (Pt.size (.mk k t n xs ys)) = -1) := by show _ = _; rw [szLeft_neg (by rw [HS.out]; omega)]
    rw [szLeft_neg e4] at HJ
    clear e3 e4
    generalize (xs.length + Pt.sizes xs : Nat) = mx at *
    generalize (ys.length + Pt.sizes ys : Nat) = my at *
    go_enter Try.func54, Try.ntmps54
    go_wp2_with fail
    refine HI.out.mono ?_
    rintro e w2 ⟨rfl, hb⟩
    have HB2 := Lib.hid (HB0.out.trans (hb.mono HB0.out.size))
    have HJ2 := Lib.hid (HJ.out w2 hb)
    obtain ⟨⟨f0, f1, f2, f3, f4⟩, -⟩ := box_five (bx_keep HX0.out hb)
    clear hb
    go_wp2_with fail
    refine HJ2.out.mono ?_
    rintro e w3 ⟨rfl, hb⟩
    have HB3 := Lib.hid (HB2.out.trans (hb.mono HB2.out.size))
    clear hb
    go_wp2
    go_ret
    exact ⟨ret_int HE.out.symm, HB3.out⟩
end Go.Proofs.Ytginghjgfippiaa
