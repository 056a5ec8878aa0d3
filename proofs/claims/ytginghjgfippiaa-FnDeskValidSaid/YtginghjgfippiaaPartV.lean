/- Valid parts: plain functions; the counts: walks. -/
import Derived.Test.YtginghjgfippiaaPartWP
import Derived.Test.YtginghjgfippiaaText
import Derived.Lib.IndexMore
namespace Go.Proofs.Ytginghjgfippiaa
open Go.RowKit

/-- two of the same braces, one after the other -/
def has2 (c : UInt8) : Tx → Bool
  | x :: y :: t => (x == c && y == c) || has2 c (y :: t)
  | _ => false
def two : Tx → Bool
  | x :: y :: t => (x == 123 && y == 123) || ((x == 125 && y == 125) || two (y :: t))
  | _ => false
theorem two_has (t : Tx) : two t = (has2 123 t || has2 125 t) := by
  induction t with
  | nil => rfl
  | cons x s ih =>
    cases s with
    | nil => rfl
    | cons y r =>
      simp only [two, has2, ih]
      cases (x == 123 && y == 123) <;> cases (x == 125 && y == 125) <;> cases has2 123 (y :: r) <;> simp
theorem contains_two (c : UInt8) (s : Tx) : Lib.contains s [c, c] = has2 c s := by
  unfold Lib.contains
  induction s with
  | nil => rfl
  | cons x t ih =>
    have hg := Lib.index_ge t [c, c]
    cases t with
    | nil => simp [Lib.index, has2]
    | cons y r =>
      rw [has2, ← ih, Lib.index]
      have e : List.isPrefixOf [c, c] (x :: y :: r) = (x == c && y == c) := by
        simp only [List.isPrefixOf, Bool.and_true]
        rw [Bool.eq_iff_iff]
        simp only [Bool.and_eq_true, beq_iff_eq]
        exact ⟨fun h => ⟨h.1.symm, h.2.symm⟩, fun h => ⟨h.1.symm, h.2.symm⟩⟩
      rw [e]
      cases (x == c && y == c)
      · simp only [Bool.false_eq_true, if_false, Bool.false_or]
        by_cases h : Lib.index (y :: r) [c, c] = -1
        · rw [h]; decide
        · rw [if_neg (by simpa using h)]
          rw [Bool.eq_iff_iff]
          simp
          omega
      · simp
def isWord (n : Tx) : Bool := n == [105, 102] || (n == [101, 97, 99, 104] || (n == [101, 108, 115, 101] || n == [101, 110, 100]))
def brace (c : UInt8) : Bool := c == 123 || c == 125
def txtPart (t : Tx) : Bool := textOk t && (!(t == []) && (!two t && (!brace (t.headD 0) && !brace (t.getLastD 0))))
namespace Pt
mutual
/-- right, with at most so many within each other -/
def ok : Pt → Nat → Bool
  | mk k t n xs ys, d =>
    if k = 1 then txtPart t && (n == [] && (xs.isEmpty && ys.isEmpty))
    else if k = 2 then nameOk n && (!isWord n && (t == [] && (xs.isEmpty && ys.isEmpty)))
    else if k = 3 ∨ k = 4 then nameOk n && (t == [] && (!(decide (k = 4) && !ys.isEmpty) && (decide (d ≠ 0) && (oks xs (d - 1) false && oks ys (d - 1) false))))
    else false
def oks : List Pt → Nat → Bool → Bool
  | [], _, _ => true
  | x :: s, d, pv => ok x d && (!(pv && decide (kind x = 1)) && oks s d (decide (kind x = 1)))
end
def valid (xs : List Pt) : Bool := decide (manys xs ≤ 30) && oks xs 3 false
/-- is the one before j a text? -/
def pvAt (xs : List Pt) (j : Nat) : Bool := match j with
  | 0 => false
  | j + 1 => match xs[j]? with
    | some x => decide (kind x = 1)
    | none => false
theorem pvAt_succ {xs : List Pt} {j : Nat} (h : j < xs.length) : pvAt xs (j + 1) = decide (kind xs[j] = 1) := by simp [pvAt, h]
theorem oks_step {xs : List Pt} {j d : Nat} {r : Bool} (h : oks (xs.drop j) d (pvAt xs j) = r) (hj : j < xs.length) : (ok xs[j] d && (!(pvAt xs j && decide (kind xs[j] = 1)) && oks (xs.drop (j + 1)) d (pvAt xs (j + 1)))) = r := by
  rw [drop_cons xs j hj, oks] at h
  rw [pvAt_succ hj]; exact h
theorem oks_end {xs : List Pt} {j d : Nat} {p r : Bool} (h : oks (xs.drop j) d p = r) (hj : ¬ j < xs.length) : true = r := by
  rw [drop_nil xs j (by omega), oks] at h; exact h
end Pt
/-- one part of a slice, opened -/
theorem RdP.at2 {w : World} {S : Nat → Prop} {A : Option Addr} {xs : List Pt} (h : RdP w S A xs) {k : Nat} (hk : k < xs.length) : ∃ b o, A = some ⟨b, o, none⟩ ∧ S b ∧ ∃ kd t n us vs Ap cp Ao co, xs[k] = .mk kd t n us vs ∧ us.length ≤ cp ∧ vs.length ≤ co ∧ RdP w S Ap us ∧ RdP w S Ao vs ∧
    w.cell? ⟨b, o + k * 5, none⟩ = some (.int .i64 kd) ∧ w.cell? ⟨b, o + k * 5 + 1, none⟩ = some (sv t) ∧ w.cell? ⟨b, o + k * 5 + 2, none⟩ = some (sv n) ∧ w.cell? ⟨b, o + k * 5 + 3, none⟩ = some (.slice Ap us.length cp) ∧ w.cell? ⟨b, o + k * 5 + 4, none⟩ = some (.slice Ao vs.length co) := by
  obtain ⟨b, o, e, hb, kd, t, n, Ap, lp, cp, Ao, lo, co, hin, c0, c1, c2, c3, c4⟩ := h.at hk
  refine ⟨b, o, e, hb, ?_⟩
  generalize xs[k] = x at *
  cases x with
  | mk kd' t' n' us vs =>
    obtain ⟨Ap', cp', Ao', co', e6, g1, g2, g3, g4⟩ := hin.parts
    injection e6 with e6
    simp only [Array.mk.injEq, List.cons.injEq, and_true, Value.int.injEq, Value.slice.injEq, true_and] at e6
    obtain ⟨rfl, e2, e3, ⟨rfl, rfl, rfl⟩, rfl, rfl, rfl⟩ := e6
    have e2' : t = t' := by injection e2 with e2; injection e2 with e2; simpa using e2
    have e3' : n = n' := by injection e3 with e3; injection e3 with e3; simpa using e3
    subst e2' e3'
    exact ⟨kd, t, n, us, vs, Ap, cp, Ao, co, rfl, g1, g2, g3, g4, c0, c1, c2, c3, c4⟩

/-- the count's contract at lists of a depth -/
def CtC (f : FuncId) (d : Nat) : Prop := ∀ (xs : List Pt) (A : Option Addr) (c : Nat) (w : World), Pt.deeps xs ≤ d → RdP w (All w) A xs → Pt.manys xs ≤ 2000000 →
    Calls Try.prog f #[.slice A xs.length c] w fun e w' => e = .returned (.int .i64 (Pt.manys xs : Int)) ∧ Below w.heap.size w w'
set_option maxRecDepth 100000 in
set_option maxHeartbeats 4000000 in
theorem impl_countParts (d : Nat) : CtC 28 d := by
  induction d with
  | zero =>
    intro xs A c w hd hx hm
    cases xs with
    | cons x t => cases x; simp [Pt.deeps, Pt.deep] at hd
    | nil =>
      go_enter Try.func28, Try.ntmps28
      go_wp2
      refine wp_loop_rounds 1 ?_
      rw [rounds_succ]
      go_wp2
      go_ret
      exact ⟨rfl, Below.refl _ _⟩
  | succ d ih =>
  intro xs A c w hd hx hm
  have HX := Lib.hid hx
  have HD := Lib.hid hd
  have HM := Lib.hid hm
  have IH := Lib.hid ih
  have hxl : xs.length ≤ 2000000 := Nat.le_trans (Pt.manys_len xs) hm
  clear hx hd hm ih
  go_enter Try.func28, Try.ntmps28
  go_wp2
  go_loopw [3, 8] (fun m i wr => ∃ (j : Nat), j ≤ xs.length ∧ i = .int .i64 j ∧ m = .int .i64 ((Pt.manys (xs.take j) : Nat) : Int) ∧ Below w.heap.size w wr) (fun _ i _ => xs.length - (intOf i).toNat)
  case atStart => exact ⟨0, Nat.zero_le _, rfl, rfl, Below.refl _ _⟩
  case round =>
    obtain ⟨j, hj, rfl, rfl, hb⟩ := hrel
    have HB := Lib.hid hb
    clear hb
    by_cases hlt : j < xs.length
    · obtain ⟨b1, o1, rfl, hb1, kd, tt, nn, us, vs, Ap, cp, Ao, co, hxj, g1, g2, g3, g4, c0, c1, c2, c3, c4⟩ := (HX.out.now HB.out).at2 hlt
      have hmem : Pt.mk kd tt nn us vs ∈ xs := by rw [← hxj]; exact List.getElem_mem hlt
      have hdp := Pt.deep_mem hmem
      have hmm := Pt.many_mem hmem
      simp only [Pt.deep] at hdp
      simp only [Pt.many] at hmm
      have hD := HD.out
      have hM := HM.out
      have HA1 := Lib.hid ((Below.refl wr.heap.size wr).alloc (Nat.le_refl _) (.cells (ptCells kd tt nn Ap us.length cp Ao vs.length co) 66))
      have HC1 := Lib.hid (fun w2 (hb : Below _ _ w2) => IH.out us Ap cp w2 (by omega) ((g3.now HA1.out).now hb) (by omega))
      have HC2 := Lib.hid (fun w2 (hb : Below _ _ w2) => IH.out vs Ao co w2 (by omega) ((g4.now HA1.out).now hb) (by omega))
      have HTK := Lib.hid (Pt.manys_take xs j hlt)
      rw [hxj] at HTK
      simp only [Pt.many] at HTK
      have hle := Pt.manys_take_le xs (j + 1)
      rw [HTK.out] at hle
      have HXB := Lib.hid (heap_alloc_new wr (.cells (ptCells kd tt nn Ap us.length cp Ao vs.length co) 66))
      have HB1 := Lib.hid (HB.out.trans (HA1.out.mono HB.out.size))
      have hsz : wr.heap.size < (wr.alloc (.cells (ptCells kd tt nn Ap us.length cp Ao vs.length co) 66)).heap.size := by simp
      generalize Pt.manys us = m1 at *
      generalize Pt.manys vs = m2 at *
      generalize Pt.manys (xs.take j) = ct at *
      clear g1 g2 g3 g4 hdp hxj hmem hD
      go_upto_region 5 with fail
      generalize wr.alloc (.cells (ptCells kd tt nn Ap us.length cp Ao vs.length co) 66) = wb at *
      obtain ⟨⟨f0, f1, f2, f3, f4⟩, -⟩ := box_five HXB.out
      have HF3 := Lib.hid f3
      have HF4 := Lib.hid f4
      go_wp2_with fail
      refine wp_region_typed 10 (by kernel_rfl) (by kernel_rfl) (fun _ w => Below (World.heap wb).size wb w) KB (fun i => ([bIs (.int .i64 (ct : Int)), bIs (.pointer (some ⟨wr.heap.size, 3, none⟩)), bIs (.slice Ap us.length cp), bIs (.int .i64 (m1 : Int)), bIs (.int .i64 (1 + (m1 : Int))), bIs (.pointer (some ⟨wr.heap.size, 4, none⟩)), bIs (.slice Ao vs.length co), bIs (.int .i64 (m2 : Int)), bIs (.int .i64 (1 + (m1 : Int) + (m2 : Int))), bIs (.int .i64 ((ct : Int) + (1 + (m1 : Int) + (m2 : Int))))] : List TyB).getD i bAny) ?hWbB1 ?hkeepB1 ?hstepB1 ?hfinbB1
      case hkeepB1 =>
        refine all_lt_succ (all_lt_succ (all_lt_succ (all_lt_succ (all_lt_succ (all_lt_succ (all_lt_succ (all_lt_succ (all_lt_succ (all_lt_succ all_lt_zero ?_) ?_) ?_) ?_) ?_) ?_) ?_) ?_) ?_) ?_
        · exact keeps_bIs
        · exact keeps_bIs
        · exact keeps_bIs
        · exact keeps_bIs
        · exact keeps_bIs
        · exact keeps_bIs
        · exact keeps_bIs
        · exact keeps_bIs
        · exact keeps_bIs
        · exact keeps_bIs
      case hstepB1 =>
        refine all_lt_succ (all_lt_succ (all_lt_succ (all_lt_succ (all_lt_succ (all_lt_succ (all_lt_succ (all_lt_succ (all_lt_succ (all_lt_succ all_lt_zero ?_) ?_) ?_) ?_) ?_) ?_) ?_) ?_) ?_) ?_
        · (intro o ho m' a w1 hm' hW hb hd K Q hK; obtain rfl := Option.some.inj ho; have e0 : a.tmps[3]?.getD undef = (.int .i64 (ct : Int)) := (by rw [hb 3 (by decide +kernel)]; simp); go_simp; exact hK _ _ hW (kb_refl _) rfl)
        · (intro o ho m' a w1 hm' hW hb hd K Q hK; obtain rfl := Option.some.inj ho; have e0 : a.tmps[5]?.getD undef = .pointer (some ⟨wr.heap.size, 0, none⟩) := (by rw [hb 5 (by decide +kernel)]; simp); go_simp; exact hK _ _ hW (kb_refl _) rfl)
        · (intro o ho m' a w1 hm' hW hb hd K Q hK; obtain rfl := Option.some.inj ho; have e0 := slotB (hd 1 (by kernel_rfl) 13 rfl); have hcw := (hW.cell (p := ⟨wr.heap.size, 3, none⟩) hsz).trans HF3.out; go_simp; exact hK _ _ hW (kb_refl _) rfl)
        · (intro o ho m' a w1 hm' hW hb hd K Q hK; obtain rfl := Option.some.inj ho; have e0 := slotB (hd 2 (by kernel_rfl) 14 rfl); go_simp; refine (HC1.out _ hW).mono ?_; rintro e w2 ⟨rfl, hb2⟩; exact hK _ _ (hW.trans (hb2.mono hW.size)) hb2 rfl)
        · (intro o ho m' a w1 hm' hW hb hd K Q hK; obtain rfl := Option.some.inj ho; have e0 := slotB (hd 3 (by kernel_rfl) 15 rfl); go_simp; exact hK _ _ hW (kb_refl _) (show Value.int _ _ = Value.int _ _ from congrArg (Value.int _) (IntWalk.i64_in _ (by omega))))
        · (intro o ho m' a w1 hm' hW hb hd K Q hK; obtain rfl := Option.some.inj ho; have e0 : a.tmps[5]?.getD undef = .pointer (some ⟨wr.heap.size, 0, none⟩) := (by rw [hb 5 (by decide +kernel)]; simp); go_simp; exact hK _ _ hW (kb_refl _) rfl)
        · (intro o ho m' a w1 hm' hW hb hd K Q hK; obtain rfl := Option.some.inj ho; have e0 := slotB (hd 5 (by kernel_rfl) 17 rfl); have hcw := (hW.cell (p := ⟨wr.heap.size, 4, none⟩) hsz).trans HF4.out; go_simp; exact hK _ _ hW (kb_refl _) rfl)
        · (intro o ho m' a w1 hm' hW hb hd K Q hK; obtain rfl := Option.some.inj ho; have e0 := slotB (hd 6 (by kernel_rfl) 18 rfl); go_simp; refine (HC2.out _ hW).mono ?_; rintro e w2 ⟨rfl, hb2⟩; exact hK _ _ (hW.trans (hb2.mono hW.size)) hb2 rfl)
        · (intro o ho m' a w1 hm' hW hb hd K Q hK; obtain rfl := Option.some.inj ho; have e0 := slotB (hd 4 (by kernel_rfl) 16 rfl); have e1 := slotB (hd 7 (by kernel_rfl) 19 rfl); go_simp; exact hK _ _ hW (kb_refl _) (show Value.int _ _ = Value.int _ _ from congrArg (Value.int _) (IntWalk.i64_in _ (by omega))))
        · (intro o ho m' a w1 hm' hW hb hd K Q hK; obtain rfl := Option.some.inj ho; have e0 := slotB (hd 0 (by kernel_rfl) 12 rfl); have e1 := slotB (hd 8 (by kernel_rfl) 20 rfl); go_simp; exact hK _ _ hW (kb_refl _) (show Value.int _ _ = Value.int _ _ from congrArg (Value.int _) (IntWalk.i64_in _ (by omega))))
      case hWbB1 => exact (Below.refl _ _).drew
      case hfinbB1 =>
        intro vs' w3 hW hF
        simp only [putAll, hdst, List.getElem?_cons_succ, List.getElem?_cons_zero, Option.bind, List.drop_succ_cons, List.drop_zero, Act.put]
        have h9 : vs' 9 = .int .i64 ((ct : Int) + (1 + (m1 : Int) + (m2 : Int))) := hF 9 (by omega)
        rw [h9]
        have HB3 := Lib.hid (HB1.out.trans (hW.mono HB1.out.size))
        clear hF h9 hW
        go_simp
        go_wp2
        go_roundw
        case rel => exact ⟨j + 1, by omega, by go_num, by rw [HTK.out]; go_num, HB3.out⟩
        case measure => simp [intOf]; omega
    · have HT : Hid (xs.take j = xs) := by show _ = _; exact List.take_of_length_le (by omega)
      go_wp2
      go_ret
      exact ⟨ret_int (by rw [HT.out]), HB.out⟩
set_option maxRecDepth 100000 in
set_option maxHeartbeats 4000000 in
theorem spec_l9Size (d : Nat) : CtC 25 d := by
  induction d with
  | zero =>
    intro xs A c w hd hx hm
    cases xs with
    | cons x t => cases x; simp [Pt.deeps, Pt.deep] at hd
    | nil =>
      go_enter Try.func25, Try.ntmps25
      go_wp2
      refine wp_loop_rounds 1 ?_
      rw [rounds_succ]
      go_wp2
      go_ret
      exact ⟨rfl, Below.refl _ _⟩
  | succ d ih =>
  intro xs A c w hd hx hm
  have HX := Lib.hid hx
  have HD := Lib.hid hd
  have HM := Lib.hid hm
  have IH := Lib.hid ih
  have hxl : xs.length ≤ 2000000 := Nat.le_trans (Pt.manys_len xs) hm
  clear hx hd hm ih
  go_enter Try.func25, Try.ntmps25
  go_wp2
  go_loopw [3, 4] (fun m i wr => ∃ (j s : Nat), j ≤ xs.length ∧ i = .int .i64 j ∧ m = .int .i64 (s : Int) ∧ s = Pt.manys (xs.take j) + (xs.length - j) ∧ Below w.heap.size w wr) (fun _ i _ => xs.length - (intOf i).toNat)
  case atStart => exact ⟨0, xs.length, Nat.zero_le _, rfl, rfl, by simp [Pt.manys], Below.refl _ _⟩
  case round =>
    obtain ⟨j, s, hj, rfl, rfl, hs, hb⟩ := hrel
    have HB := Lib.hid hb
    have HS := Lib.hid hs
    clear hb hs
    by_cases hlt : j < xs.length
    · obtain ⟨b1, o1, rfl, hb1, kd, tt, nn, us, vs, Ap, cp, Ao, co, hxj, g1, g2, g3, g4, c0, c1, c2, c3, c4⟩ := (HX.out.now HB.out).at2 hlt
      have hmem : Pt.mk kd tt nn us vs ∈ xs := by rw [← hxj]; exact List.getElem_mem hlt
      have hdp := Pt.deep_mem hmem
      have hmm := Pt.many_mem hmem
      simp only [Pt.deep] at hdp
      simp only [Pt.many] at hmm
      have hD := HD.out
      have hM := HM.out
      have HC1 := Lib.hid (fun w2 (hb : Below wr.heap.size wr w2) => IH.out us Ap cp w2 (by omega) (g3.now hb) (by omega))
      have HC2 := Lib.hid (fun w2 (hb : Below wr.heap.size wr w2) => IH.out vs Ao co w2 (by omega) (g4.now hb) (by omega))
      have HTK := Lib.hid (Pt.manys_take xs j hlt)
      rw [hxj] at HTK
      simp only [Pt.many] at HTK
      have hle := Pt.manys_take_le xs (j + 1)
      rw [HTK.out] at hle
      have hsb : s ≤ 4000000 := by have := HS.out; omega
      generalize Pt.manys us = m1 at *
      generalize Pt.manys vs = m2 at *
      have HF3 := Lib.hid c3
      have HF4 := Lib.hid c4
      clear g1 g2 g3 g4 hdp hxj hmem hD
      go_upto_region 5 with fail
      go_wp2_with fail
      refine wp_region_typed 15 (by kernel_rfl) (by kernel_rfl) (fun _ w => Below (World.heap wr).size wr w) KB (fun i => ([bIs (.int .i64 (s : Int)), bIs (.slice (some ⟨b1, o1, none⟩) xs.length c), bIs (.int .i64 (j : Int)), bIs (.pointer (some ⟨b1, o1 + j * 5, none⟩)), bIs (.pointer (some ⟨b1, o1 + j * 5 + 3, none⟩)), bIs (.slice Ap us.length cp), bIs (.int .i64 (m1 : Int)), bIs (.int .i64 ((s : Int) + (m1 : Int))), bIs (.slice (some ⟨b1, o1, none⟩) xs.length c), bIs (.int .i64 (j : Int)), bIs (.pointer (some ⟨b1, o1 + j * 5, none⟩)), bIs (.pointer (some ⟨b1, o1 + j * 5 + 4, none⟩)), bIs (.slice Ao vs.length co), bIs (.int .i64 (m2 : Int)), bIs (.int .i64 ((s : Int) + (m1 : Int) + (m2 : Int)))] : List TyB).getD i bAny) ?hWbB2 ?hkeepB2 ?hstepB2 ?hfinbB2
      case hkeepB2 =>
        refine all_lt_succ (all_lt_succ (all_lt_succ (all_lt_succ (all_lt_succ (all_lt_succ (all_lt_succ (all_lt_succ (all_lt_succ (all_lt_succ (all_lt_succ (all_lt_succ (all_lt_succ (all_lt_succ (all_lt_succ all_lt_zero ?_) ?_) ?_) ?_) ?_) ?_) ?_) ?_) ?_) ?_) ?_) ?_) ?_) ?_) ?_
        · exact keeps_bIs
        · exact keeps_bIs
        · exact keeps_bIs
        · exact keeps_bIs
        · exact keeps_bIs
        · exact keeps_bIs
        · exact keeps_bIs
        · exact keeps_bIs
        · exact keeps_bIs
        · exact keeps_bIs
        · exact keeps_bIs
        · exact keeps_bIs
        · exact keeps_bIs
        · exact keeps_bIs
        · exact keeps_bIs
      case hstepB2 =>
        refine all_lt_succ (all_lt_succ (all_lt_succ (all_lt_succ (all_lt_succ (all_lt_succ (all_lt_succ (all_lt_succ (all_lt_succ (all_lt_succ (all_lt_succ (all_lt_succ (all_lt_succ (all_lt_succ (all_lt_succ all_lt_zero ?_) ?_) ?_) ?_) ?_) ?_) ?_) ?_) ?_) ?_) ?_) ?_) ?_) ?_) ?_
        · (intro o ho m' a w1 hm' hW hb hd K Q hK; obtain rfl := Option.some.inj ho; have e0 : a.tmps[3]?.getD undef = (.int .i64 (s : Int)) := (by rw [hb 3 (by decide +kernel)]; simp); go_simp; exact hK _ _ hW (kb_refl _) rfl)
        · (intro o ho m' a w1 hm' hW hb hd K Q hK; obtain rfl := Option.some.inj ho; have e0 : a.tmps[0]?.getD undef = (.slice (some ⟨b1, o1, none⟩) xs.length c) := (by rw [hb 0 (by decide +kernel)]; simp); go_simp; exact hK _ _ hW (kb_refl _) rfl)
        · (intro o ho m' a w1 hm' hW hb hd K Q hK; obtain rfl := Option.some.inj ho; have e0 : a.tmps[4]?.getD undef = (.int .i64 (j : Int)) := (by rw [hb 4 (by decide +kernel)]; simp); go_simp; exact hK _ _ hW (kb_refl _) rfl)
        · (intro o ho m' a w1 hm' hW hb hd K Q hK; obtain rfl := Option.some.inj ho; have e0 := slotB (hd 1 (by kernel_rfl) 14 rfl); have e1 := slotB (hd 2 (by kernel_rfl) 15 rfl); go_simp; exact hK _ _ hW (kb_refl _) rfl)
        · (intro o ho m' a w1 hm' hW hb hd K Q hK; obtain rfl := Option.some.inj ho; have e0 := slotB (hd 3 (by kernel_rfl) 16 rfl); go_simp; exact hK _ _ hW (kb_refl _) rfl)
        · (intro o ho m' a w1 hm' hW hb hd K Q hK; obtain rfl := Option.some.inj ho; have e0 := slotB (hd 4 (by kernel_rfl) 17 rfl); have hcw := (hW.cell (p := ⟨b1, o1 + j * 5 + 3, none⟩) hb1).trans HF3.out; go_simp; exact hK _ _ hW (kb_refl _) rfl)
        · (intro o ho m' a w1 hm' hW hb hd K Q hK; obtain rfl := Option.some.inj ho; have e0 := slotB (hd 5 (by kernel_rfl) 18 rfl); go_simp; refine (HC1.out _ hW).mono ?_; rintro e w2 ⟨rfl, hb2⟩; exact hK _ _ (hW.trans (hb2.mono hW.size)) hb2 rfl)
        · (intro o ho m' a w1 hm' hW hb hd K Q hK; obtain rfl := Option.some.inj ho; have e0 := slotB (hd 0 (by kernel_rfl) 13 rfl); have e1 := slotB (hd 6 (by kernel_rfl) 19 rfl); go_simp; exact hK _ _ hW (kb_refl _) (show Value.int _ _ = Value.int _ _ from congrArg (Value.int _) (IntWalk.i64_in _ (by omega))))
        · (intro o ho m' a w1 hm' hW hb hd K Q hK; obtain rfl := Option.some.inj ho; have e0 : a.tmps[0]?.getD undef = (.slice (some ⟨b1, o1, none⟩) xs.length c) := (by rw [hb 0 (by decide +kernel)]; simp); go_simp; exact hK _ _ hW (kb_refl _) rfl)
        · (intro o ho m' a w1 hm' hW hb hd K Q hK; obtain rfl := Option.some.inj ho; have e0 : a.tmps[4]?.getD undef = (.int .i64 (j : Int)) := (by rw [hb 4 (by decide +kernel)]; simp); go_simp; exact hK _ _ hW (kb_refl _) rfl)
        · (intro o ho m' a w1 hm' hW hb hd K Q hK; obtain rfl := Option.some.inj ho; have e0 := slotB (hd 8 (by kernel_rfl) 21 rfl); have e1 := slotB (hd 9 (by kernel_rfl) 22 rfl); go_simp; exact hK _ _ hW (kb_refl _) rfl)
        · (intro o ho m' a w1 hm' hW hb hd K Q hK; obtain rfl := Option.some.inj ho; have e0 := slotB (hd 10 (by kernel_rfl) 23 rfl); go_simp; exact hK _ _ hW (kb_refl _) rfl)
        · (intro o ho m' a w1 hm' hW hb hd K Q hK; obtain rfl := Option.some.inj ho; have e0 := slotB (hd 11 (by kernel_rfl) 24 rfl); have hcw := (hW.cell (p := ⟨b1, o1 + j * 5 + 4, none⟩) hb1).trans HF4.out; go_simp; exact hK _ _ hW (kb_refl _) rfl)
        · (intro o ho m' a w1 hm' hW hb hd K Q hK; obtain rfl := Option.some.inj ho; have e0 := slotB (hd 12 (by kernel_rfl) 25 rfl); go_simp; refine (HC2.out _ hW).mono ?_; rintro e w2 ⟨rfl, hb2⟩; exact hK _ _ (hW.trans (hb2.mono hW.size)) hb2 rfl)
        · (intro o ho m' a w1 hm' hW hb hd K Q hK; obtain rfl := Option.some.inj ho; have e0 := slotB (hd 7 (by kernel_rfl) 20 rfl); have e1 := slotB (hd 13 (by kernel_rfl) 26 rfl); go_simp; exact hK _ _ hW (kb_refl _) (show Value.int _ _ = Value.int _ _ from congrArg (Value.int _) (IntWalk.i64_in _ (by omega))))
      case hWbB2 => exact (Below.refl _ _).drew
      case hfinbB2 =>
        intro vs' w3 hW hF
        simp only [putAll, hdst, List.getElem?_cons_succ, List.getElem?_cons_zero, Option.bind, List.drop_succ_cons, List.drop_zero, Act.put]
        have h9 : vs' 14 = .int .i64 ((s : Int) + (m1 : Int) + (m2 : Int)) := hF 14 (by omega)
        rw [h9]
        have HB3 := Lib.hid (HB.out.trans (hW.mono HB.out.size))
        clear hF h9 hW
        go_simp
        go_wp2
        go_roundw
        case rel => exact ⟨j + 1, s + m1 + m2, by omega, by go_num, by go_num, by have := HS.out; have := HTK.out; omega, HB3.out⟩
        case measure => simp [intOf]; omega
    · have HT : Hid (s = Pt.manys xs) := by
        show _ = _
        have h := HS.out
        rw [List.take_of_length_le (by omega)] at h
        omega
      go_wp2
      go_ret
      exact ⟨ret_int (by rw [HT.out]), HB.out⟩
end Go.Proofs.Ytginghjgfippiaa
