/- Fields in the laws: equality, size: walks. -/
import Derived.Test.YtginghjgfippiaaPartWP
namespace Go.Proofs.Ytginghjgfippiaa
open Go.RowKit

/-- eqField's contract at one field -/
def EqF (x : Fd) : Prop := ∀ (b : Fd) (u v : Value) (w : World), InF w (All w) x u → InF w (All w) b v → Fd.Fit x → Fd.Fit b →
    Calls Try.prog 59 #[u, v] w fun e w' => e = .returned (.bool (Fd.same x b)) ∧ Below w.heap.size w w'
set_option maxRecDepth 100000 in
set_option maxHeartbeats 4000000 in
theorem laws_eqFieldS (xs xs' : List Fd) (hE : ∀ x ∈ xs, EqF x) (A A' : Option Addr) (c c' : Nat) (w : World) (hx : RdF w (All w) A xs) (hy : RdF w (All w) A' xs') (hf : ∀ x ∈ xs, Fd.Fit x) (hf' : ∀ x ∈ xs', Fd.Fit x) (hn : xs.length ≤ maxLen) :
    Calls Try.prog 39 #[.slice A xs.length c, .slice A' xs'.length c'] w fun e w' => e = .returned (.bool (Fd.sames xs xs')) ∧ Below w.heap.size w w' := by
  have HE0 := Lib.hid hE
  have HX := Lib.hid hx
  have HY := Lib.hid hy
  have HF := Lib.hid hf
  have HF' := Lib.hid hf'
  have hxl : xs.length ≤ 9223372036854775807 := hn
  clear hE hx hy hf hf' hn
  by_cases hl : xs.length = xs'.length
  · have m5 : ((xs.length : Int) != (xs'.length : Int)) = false := by rw [hl]; simp
    have HL := Lib.hid hl
    clear hl
    go_enter Try.func39, Try.ntmps39
    go_wp2
    go_loopw [5] (fun i wr => ∃ (j : Nat), j ≤ xs.length ∧ i = .int .i64 j ∧ Fd.sames (xs.drop j) (xs'.drop j) = Fd.sames xs xs' ∧ Below w.heap.size w wr) (fun i _ => xs.length - (intOf i).toNat)
    case atStart => exact ⟨0, Nat.zero_le _, rfl, rfl, Below.refl _ _⟩
    case round =>
      obtain ⟨j, hj, rfl, hsm, hb⟩ := hrel
      have HSM := Lib.hid hsm
      have HB := Lib.hid hb
      clear hsm hb
      by_cases hlt : j < xs.length
      · have hlt' : j < xs'.length := by have := HL.out; omega
        obtain ⟨b1, o1, hA1, hb1, nn, tt, hh, Ai1, li1, ci1, hin, c0, c1, c2, c3⟩ := (HX.out.now HB.out).at hlt
        obtain ⟨b2, o2, hA2, hb2, nn', tt', hh', Ai2, li2, ci2, hin', d0, d1, d2, d3⟩ := (HY.out.now HB.out).at hlt'
        have HC := Lib.hid (And.intro c0 (And.intro c1 (And.intro c2 c3)))
        have HD := Lib.hid (And.intro d0 (And.intro d1 (And.intro d2 d3)))
        have HCALL := Lib.hid (fun w2 (hb : Below wr.heap.size wr w2) => HE0.out xs[j] (List.getElem_mem hlt) xs'[j] _ _ w2 (hin.now hb) (hin'.now hb) (HF.out _ (List.getElem_mem hlt)) (HF'.out _ (List.getElem_mem hlt')))
        have HST := Lib.hid (fsames_step HSM.out hlt hlt')
        clear hin hin' c0 c1 c2 c3 d0 d1 d2 d3
        generalize Fd.same xs[j] xs'[j] = r at *
        subst hA1
        subst hA2
        go_wp2_with fail
        refine wp_region_typed 9 (by kernel_rfl) (by kernel_rfl) (fun _ w => Below (World.heap wr).size wr w) KB (fun i => ([bIs (.slice (some ⟨b1, o1, none⟩) xs.length c), bIs (.int .i64 (j : Int)), bIs (.pointer (some ⟨b1, o1 + j * 4, none⟩)), bIs (fdV nn tt hh Ai1 li1 ci1), bIs (.slice (some ⟨b2, o2, none⟩) xs'.length c'), bIs (.int .i64 (j : Int)), bIs (.pointer (some ⟨b2, o2 + j * 4, none⟩)), bIs (fdV nn' tt' hh' Ai2 li2 ci2), bIs (.bool r)] : List TyB).getD i bAny) ?hWbB1 ?hkeepB1 ?hstepB1 ?hfinbB1
        case hkeepB1 =>
          refine all_lt_succ (all_lt_succ (all_lt_succ (all_lt_succ (all_lt_succ (all_lt_succ (all_lt_succ (all_lt_succ (all_lt_succ all_lt_zero ?_) ?_) ?_) ?_) ?_) ?_) ?_) ?_) ?_
          · exact keeps_bIs
          · exact keeps_bIs
          · exact keeps_bIs
          · exact keeps_bIs
          · exact keeps_bIs
          · exact keeps_bIs
          · exact keeps_bIs
          · exact keeps_bIs
          · exact keeps_bIs
        case hstepB1 =>
          refine all_lt_succ (all_lt_succ (all_lt_succ (all_lt_succ (all_lt_succ (all_lt_succ (all_lt_succ (all_lt_succ (all_lt_succ all_lt_zero ?_) ?_) ?_) ?_) ?_) ?_) ?_) ?_) ?_
          · (intro o ho m' a w1 hm' hW hb hd K Q hK; obtain rfl := Option.some.inj ho; have e0 : a.tmps[0]?.getD undef = (.slice (some ⟨b1, o1, none⟩) xs.length c) := (by rw [hb 0 (by decide +kernel)]; simp); go_simp; exact hK _ _ hW (kb_refl _) rfl)
          · (intro o ho m' a w1 hm' hW hb hd K Q hK; obtain rfl := Option.some.inj ho; have e0 : a.tmps[5]?.getD undef = (.int .i64 (j : Int)) := (by rw [hb 5 (by decide +kernel)]; simp); go_simp; exact hK _ _ hW (kb_refl _) rfl)
          · (intro o ho m' a w1 hm' hW hb hd K Q hK; obtain rfl := Option.some.inj ho; have e0 := slotB (hd 0 (by kernel_rfl) 17 rfl); have e1 := slotB (hd 1 (by kernel_rfl) 18 rfl); go_simp; exact hK _ _ hW (kb_refl _) rfl)
          · (intro o ho m' a w1 hm' hW hb hd K Q hK; obtain rfl := Option.some.inj ho; have e0 := slotB (hd 2 (by kernel_rfl) 19 rfl); have q0 := (hW.cell (p := ⟨b1, o1 + j * 4, none⟩) hb1).trans HC.out.1; have q1 := (hW.cell (p := ⟨b1, o1 + j * 4 + 1, none⟩) hb1).trans HC.out.2.1; have q2 := (hW.cell (p := ⟨b1, o1 + j * 4 + 2, none⟩) hb1).trans HC.out.2.2.1; have q3 := (hW.cell (p := ⟨b1, o1 + j * 4 + 3, none⟩) hb1).trans HC.out.2.2.2; go_simp; exact hK _ _ hW (kb_refl _) rfl)
          · (intro o ho m' a w1 hm' hW hb hd K Q hK; obtain rfl := Option.some.inj ho; have e0 : a.tmps[1]?.getD undef = (.slice (some ⟨b2, o2, none⟩) xs'.length c') := (by rw [hb 1 (by decide +kernel)]; simp); go_simp; exact hK _ _ hW (kb_refl _) rfl)
          · (intro o ho m' a w1 hm' hW hb hd K Q hK; obtain rfl := Option.some.inj ho; have e0 : a.tmps[5]?.getD undef = (.int .i64 (j : Int)) := (by rw [hb 5 (by decide +kernel)]; simp); go_simp; exact hK _ _ hW (kb_refl _) rfl)
          · (intro o ho m' a w1 hm' hW hb hd K Q hK; obtain rfl := Option.some.inj ho; have e0 := slotB (hd 4 (by kernel_rfl) 21 rfl); have e1 := slotB (hd 5 (by kernel_rfl) 22 rfl); go_simp; exact hK _ _ hW (kb_refl _) rfl)
          · (intro o ho m' a w1 hm' hW hb hd K Q hK; obtain rfl := Option.some.inj ho; have e0 := slotB (hd 6 (by kernel_rfl) 23 rfl); have q0 := (hW.cell (p := ⟨b2, o2 + j * 4, none⟩) hb2).trans HD.out.1; have q1 := (hW.cell (p := ⟨b2, o2 + j * 4 + 1, none⟩) hb2).trans HD.out.2.1; have q2 := (hW.cell (p := ⟨b2, o2 + j * 4 + 2, none⟩) hb2).trans HD.out.2.2.1; have q3 := (hW.cell (p := ⟨b2, o2 + j * 4 + 3, none⟩) hb2).trans HD.out.2.2.2; go_simp; exact hK _ _ hW (kb_refl _) rfl)
          · (intro o ho m' a w1 hm' hW hb hd K Q hK; obtain rfl := Option.some.inj ho; have e0 := slotB (hd 3 (by kernel_rfl) 20 rfl); have e1 := slotB (hd 7 (by kernel_rfl) 24 rfl); go_simp; refine (HCALL.out _ hW).mono ?_; rintro e w2 ⟨rfl, hb2⟩; exact hK _ _ (hW.trans (hb2.mono hW.size)) hb2 rfl)
        case hWbB1 => exact (Below.refl _ _).drew
        case hfinbB1 =>
          intro vs w2 hW hF
          simp only [putAll, hdst, List.getElem?_cons_succ, List.getElem?_cons_zero, Option.bind, List.drop_succ_cons, List.drop_zero, Act.put]
          have h8 : vs 8 = .bool r := hF 8 (by omega)
          rw [h8]
          have HB4 := Lib.hid (HB.out.trans (hW.mono HB.out.size))
          clear hW hF h8
          go_simp
          cases r
          · have HE : Hid (Fd.sames xs xs' = false) := HST.out.symm
            go_wp2
            go_ret
            exact ⟨ret_bool HE.out.symm, HB4.out⟩
          · rw [Bool.true_and] at HST
            go_wp2
            go_roundw
            case rel => exact ⟨j + 1, by omega, by go_num, HST.out, HB4.out⟩
            case measure => simp [intOf]; omega
      · have HE := Lib.hid (fsames_end HSM.out hlt HL.out)
        go_wp2
        go_ret
        exact ⟨ret_bool HE.out, HB.out⟩
  · have m5 : ((xs.length : Int) != (xs'.length : Int)) = true := by simp; omega
    have HE : Hid (Fd.sames xs xs' = false) := fsames_len hl
    clear hl
    go_enter Try.func39, Try.ntmps39
    go_wp2
    go_ret
    exact ⟨ret_bool HE.out.symm, Below.refl _ _⟩
set_option maxRecDepth 100000 in
set_option maxHeartbeats 4000000 in
theorem laws_eqField (a : Fd) : EqF a := by
  intro b u v w hu hv hfa hfb
  obtain ⟨n, t, h, is⟩ := a
  obtain ⟨n', t', h', is'⟩ := b
  obtain ⟨A, c, rfl, hr, hc⟩ := hu
  obtain ⟨A', c', rfl, hr', hc'⟩ := hv
  dsimp only at hr hr' hc hc' ⊢
  obtain ⟨ha1, ha2, ha3, ha4⟩ := hfa
  dsimp only at ha1 ha2 ha3 ha4
  obtain ⟨hB0, hX0, hY0⟩ := two_boxes w (fdCells n t h A is.length c) (fdCells n' t' h' A' is'.length c') 54 54
  have HB0 := Lib.hid hB0
  have HEQ := Lib.hid (laws_eqStringS is is' A A' c c' _ ((hr.keep (fun _ hp => hB0.cell hp) (fun _ h => Nat.lt_of_lt_of_le h hB0.size)).rd (fun _ h => h)) ((hr'.keep (fun _ hp => hB0.cell hp) (fun _ h => Nat.lt_of_lt_of_le h hB0.size)).rd (fun _ h => h)) ha4)
  have HS : Hid (Fd.same ⟨n, t, h, is⟩ ⟨n', t', h', is'⟩ = (n == n' && (t == t' && (h == h' && is == is')))) := rfl
  clear hr hr' hB0 ha3 hfb ha4 hX0 hY0 hc hc'
  cases e1 : (n == n')
  · have m1 : (n != n') = true := by rw [bne, e1]; rfl
    have HE : Hid (Fd.same ⟨n, t, h, is⟩ ⟨n', t', h', is'⟩ = false) := by show _ = _; rw [HS.out, e1]; rfl
    go_enter Try.func59, Try.ntmps59
    go_wp2
    all_goals (go_ret; exact ⟨ret_bool HE.out.symm, HB0.out⟩)
  cases e2 : (t == t')
  · obtain rfl := beq_iff_eq.1 e1
    have m2 : (t != t') = true := by rw [bne, e2]; rfl
    have HE : Hid (Fd.same ⟨n, t, h, is⟩ ⟨n, t', h', is'⟩ = false) := by show _ = _; rw [HS.out, e1, e2]; rfl
    go_enter Try.func59, Try.ntmps59
    go_wp2
    all_goals (go_ret; exact ⟨ret_bool HE.out.symm, HB0.out⟩)
  cases e3 : (h == h')
  · obtain rfl := beq_iff_eq.1 e1
    obtain rfl := beq_iff_eq.1 e2
    have m3 : (h != h') = true := by rw [bne, e3]; rfl
    have HE : Hid (Fd.same ⟨n, t, h, is⟩ ⟨n, t, h', is'⟩ = false) := by show _ = _; rw [HS.out, e1, e2, e3]; rfl
    go_enter Try.func59, Try.ntmps59
    go_wp2
    all_goals (go_ret; exact ⟨ret_bool HE.out.symm, HB0.out⟩)
  rw [e1, e2, e3, Bool.true_and, Bool.true_and, Bool.true_and] at HS
  obtain rfl := beq_iff_eq.1 e1
  obtain rfl := beq_iff_eq.1 e2
  obtain rfl := beq_iff_eq.1 e3
  clear e1 e2 e3
  have hzz : w.heap.size + 1 < ((w.alloc (.cells (fdCells n t h A is.length c) 54)).alloc (.cells (fdCells n t h A' is'.length c') 54)).heap.size := by simp
  generalize hr4 : (is == is') = r4 at HEQ HS
  clear hr4
  go_enter Try.func59, Try.ntmps59
  go_wp2_with fail
  refine HEQ.out.mono ?_
  rintro e w1 ⟨rfl, hb⟩
  have HB1 := Lib.hid (HB0.out.trans (hb.mono HB0.out.size))
  clear hb
  cases r4
  all_goals
    go_wp2
    go_ret
    exact ⟨ret_bool HS.out.symm, HB1.out⟩

/-- szField's contract at one field: what is left, if there is enough; else -1 -/
def SzF (x : Fd) : Prop := ∀ (u : Value) (left : Int) (w : World), InF w (All w) x u → Fd.Fit x → 0 ≤ left → left ≤ 1048576 →
    Calls Try.prog 55 #[u, .int .i64 left] w fun e w' => e = .returned (.int .i64 (szLeft left (Fd.size x))) ∧ Below w.heap.size w w'
set_option maxRecDepth 100000 in
set_option maxHeartbeats 4000000 in
theorem laws_szFieldS (xs : List Fd) (hE : ∀ x ∈ xs, SzF x) (A : Option Addr) (c : Nat) (left : Int) (w : World) (hx : RdF w (All w) A xs) (hf : ∀ x ∈ xs, Fd.Fit x) (hn : xs.length ≤ maxLen) (h0 : 0 ≤ left) (h1 : left ≤ 1048576) :
    Calls Try.prog 35 #[.slice A xs.length c, .int .i64 left] w fun e w' => e = .returned (.int .i64 (szLeft left (xs.length + Fd.sizes xs))) ∧ Below w.heap.size w w' := by
  have HE0 := Lib.hid hE
  have HX := Lib.hid hx
  have HF := Lib.hid hf
  have hxl : xs.length ≤ 9223372036854775807 := hn
  clear hE hx hf hn
  by_cases hz : left < xs.length
  · have HR : Hid (szLeft left (xs.length + Fd.sizes xs) = -1) := by show _ = _; rw [szLeft_neg (by omega)]
    have hz' : left - (xs.length : Int) < 0 := by omega
    go_enter Try.func35, Try.ntmps35
    go_wp2
    go_ret
    exact ⟨ret_int HR.out.symm, Below.refl _ _⟩
  · have hz' : 0 ≤ left - (xs.length : Int) := by omega
    have HGO : Hid (∀ (j : Nat) (lf : Int), lf - Fd.sizes (xs.drop j) = left - xs.length - Fd.sizes xs → True) := fun _ _ _ => trivial
    clear HGO
    go_enter Try.func35, Try.ntmps35
    go_wp2
    go_loopw [1, 5] (fun l i wr => ∃ (j : Nat) (lf : Int), j ≤ xs.length ∧ i = .int .i64 j ∧ l = .int .i64 lf ∧ 0 ≤ lf ∧ lf ≤ 1048576 ∧ lf - Fd.sizes (xs.drop j) = left - xs.length - Fd.sizes xs ∧ Below w.heap.size w wr) (fun _ i _ => xs.length - (intOf i).toNat)
    case atStart => exact ⟨0, _, Nat.zero_le _, rfl, rfl, by omega, by omega, by simp, Below.refl _ _⟩
    case round =>
      obtain ⟨j, lf, hj, rfl, rfl, hl0, hl1, hrest, hb⟩ := hrel
      have HRS := Lib.hid hrest
      have HB := Lib.hid hb
      clear hrest hb
      by_cases hlt : j < xs.length
      · obtain ⟨b1, o1, hA1, hb1, nn, tt, hh, Ai1, li1, ci1, hin, c0, c1, c2, c3⟩ := (HX.out.now HB.out).at hlt
        have HCALL := Lib.hid (HE0.out xs[j] (List.getElem_mem hlt) _ lf wr hin (HF.out _ (List.getElem_mem hlt)) hl0 hl1)
        have HD := Lib.hid (Fd.sizes_drop xs j hlt)
        have HLE := Lib.hid (Fd.sizes_drop_le xs (j + 1))
        generalize Fd.size xs[j] = sz at *
        subst hA1
        by_cases ho : (sz : Int) ≤ lf
        · rw [szLeft_pos ho] at HCALL
          have hnn : 0 ≤ lf - (sz : Int) := by omega
          go_wp2_with fail
          refine HCALL.out.mono ?_
          rintro e w2 ⟨rfl, hb⟩
          have HB2 := Lib.hid (HB.out.trans (hb.mono HB.out.size))
          clear hb
          go_wp2
          go_roundw
          case rel =>
            have := HD.out; have := HRS.out
            exact ⟨j + 1, _, by omega, by go_num, rfl, by omega, by omega, by omega, HB2.out⟩
          case measure => simp [intOf]; omega
        · rw [szLeft_neg ho] at HCALL
          have HR : Hid (szLeft left (xs.length + Fd.sizes xs) = -1) := by
            show _ = _
            have := HD.out; have := HRS.out
            rw [szLeft_neg (by omega)]
          go_wp2_with fail
          refine HCALL.out.mono ?_
          rintro e w2 ⟨rfl, hb⟩
          have HB2 := Lib.hid (HB.out.trans (hb.mono HB.out.size))
          clear hb
          go_wp2
          go_ret
          exact ⟨ret_int HR.out.symm, HB2.out⟩
      · have HR : Hid (szLeft left (xs.length + Fd.sizes xs) = lf) := by
          show _ = _
          have h := HRS.out
          rw [drop_nil xs j (by omega)] at h
          rw [show Fd.sizes [] = 0 from rfl] at h
          rw [szLeft_pos (by omega)]
          omega
        go_wp2
        go_ret
        exact ⟨ret_int HR.out.symm, HB.out⟩
set_option maxRecDepth 100000 in
set_option maxHeartbeats 4000000 in
theorem laws_szField (a : Fd) : SzF a := by
  intro u left w hu hfa h0 h1
  obtain ⟨n, t, h, is⟩ := a
  obtain ⟨A, c, rfl, hr, hc⟩ := hu
  dsimp only at hr hc ⊢
  obtain ⟨ha1, ha2, ha3, ha4⟩ := hfa
  dsimp only at ha1 ha2 ha3 ha4
  have hB0 := (Below.refl w.heap.size w).alloc (Nat.le_refl _) (.cells (fdCells n t h A is.length c) 77)
  have HB0 := Lib.hid hB0
  have htl : t.length ≤ 9223372036854775807 := ha2
  have hnl : n.length ≤ 9223372036854775807 := ha1
  have HS : Hid (Fd.size ⟨n, t, h, is⟩ = n.length + t.length + (is.length + ssize is)) := rfl
  have hrd := (hr.keep (fun _ hp => hB0.cell hp) (fun _ h => Nat.lt_of_lt_of_le h hB0.size)).rd (B := (w.alloc (.cells (fdCells n t h A is.length c) 77)).heap.size) (fun _ h => h)
  have HNF := Lib.hid (fun (l : Int) (h0 : 0 ≤ l) (h1 : l ≤ 1048576) (hz : (is.length : Int) + ssize is ≤ l) => laws_szStringS_fits is A c l _ hrd h0 h1 ha4 hz)
  have HNO := Lib.hid (fun (l : Int) (h0 : 0 ≤ l) (h1 : l ≤ 1048576) (hz : l < (is.length : Int) + ssize is) => laws_szStringS_over is A c l _ hrd ha3 h0 h1 ha4 hz)
  clear hr hrd hB0 ha3 ha4
  by_cases e1 : left < (n.length : Int)
  ·
    have HE : Hid (szLeft left (Fd.size ⟨n, t, h, is⟩) = -1) := by show _ = _; rw [szLeft_neg (by rw [HS.out]; omega)]
    have e1' : left - (n.length : Int) < 0 := by omega
    go_enter Try.func55, Try.ntmps55
    go_wp2
    go_ret
    exact ⟨ret_int HE.out.symm, HB0.out⟩
  have e1' : 0 ≤ left - (n.length : Int) := by omega
  by_cases e2 : left - (n.length : Int) < (t.length : Int)
  ·
    have HE : Hid (szLeft left (Fd.size ⟨n, t, h, is⟩) = -1) := by show _ = _; rw [szLeft_neg (by rw [HS.out]; omega)]
    have e2' : left - (n.length : Int) - (t.length : Int) < 0 := by omega
    go_enter Try.func55, Try.ntmps55
    go_wp2
    go_ret
    exact ⟨ret_int HE.out.symm, HB0.out⟩
  have e2' : 0 ≤ left - (n.length : Int) - (t.length : Int) := by omega
  by_cases e3 : (is.length : Int) + ssize is ≤ left - (n.length : Int) - (t.length : Int)
  case neg =>
    have HE : Hid (szLeft left (Fd.size ⟨n, t, h, is⟩) = -1) := by show _ = _; rw [szLeft_neg (by rw [HS.out]; omega)]
    have HN := Lib.hid (HNO.out (left - (n.length : Int) - (t.length : Int)) e2' (by omega) (by omega))
    go_enter Try.func55, Try.ntmps55
    go_wp2_with fail
    refine HN.out.mono ?_
    rintro e w1 ⟨rfl, rfl⟩
    go_wp2
    go_ret
    exact ⟨ret_int HE.out.symm, HB0.out⟩
  have HE : Hid (szLeft left (Fd.size ⟨n, t, h, is⟩) = left - (n.length : Int) - (t.length : Int) - (is.length : Int) - (ssize is : Int)) := by show _ = _; rw [szLeft_pos (by rw [HS.out]; omega), HS.out]; omega
  have HN := Lib.hid (HNF.out (left - (n.length : Int) - (t.length : Int)) e2' (by omega) e3)
  have e4 : 0 ≤ left - (n.length : Int) - (t.length : Int) - (is.length : Int) - (ssize is : Int) := by omega
  clear e3
  go_enter Try.func55, Try.ntmps55
  go_wp2_with fail
  refine HN.out.mono ?_
  rintro e w1 ⟨rfl, rfl⟩
  go_wp2
  go_ret
  exact ⟨ret_int HE.out.symm, HB0.out⟩
end Go.Proofs.Ytginghjgfippiaa
