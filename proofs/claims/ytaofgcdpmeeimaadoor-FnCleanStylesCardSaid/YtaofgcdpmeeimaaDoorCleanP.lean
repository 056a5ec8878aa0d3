/- Styles: cleaning, in plain Lean. -/
import Derived.Test.YtaofgcdpmeeimaaDoorStylesText
import Derived.Test.YtaofgcdpmeeimaaDoorTrimP
import Derived.Test.YtaofgcdpmeeimaaDoorBytes
import Derived.Test.YtaofgcdpmeeimaaDoorCut
import Derived.Test.YtaofgcdpmeeimaaDoorSplitP
namespace Go.Proofs.YtaofgcdpmeeimaaDoor
open Go.RowKit

def stPr (x : Tx) : Pr := (lower (trimSp (if has 58 x then x.take (at_ 58 x) else x)), trimSp (if has 58 x then x.drop (at_ 58 x + 1) else []))
def stKeep (x : Tx) : Bool := has 58 x && safe (stPr x)
def stStep (out : List Pr) (x : Tx) : List Pr := if stKeep x && decide (out.length < 6) then out ++ [stPr x] else out
def cleanStyles (s : Tx) : List Pr := (Lib.split s [59]).foldl stStep []
theorem stStep_len {out : List Pr} (x : Tx) (h : out.length ≤ 6) : (stStep out x).length ≤ 6 := by
  unfold stStep
  split
  · rename_i hc
    simp only [Bool.and_eq_true, decide_eq_true_eq] at hc
    rw [List.length_append]
    simp
    omega
  · exact h
theorem fold_len : ∀ (xs : List Tx) {out : List Pr}, out.length ≤ 6 → (xs.foldl stStep out).length ≤ 6
  | [], _, h => h
  | x :: t, _, h => fold_len t (stStep_len x h)
theorem stStep_safe {out : List Pr} (x : Tx) (h : out.all safe = true) : (stStep out x).all safe = true := by
  unfold stStep
  split
  · rename_i hc
    simp only [stKeep, Bool.and_eq_true] at hc
    rw [List.all_append, h, List.all_cons, hc.1.2]
    rfl
  · exact h
theorem fold_safe : ∀ (xs : List Tx) {out : List Pr}, out.all safe = true → (xs.foldl stStep out).all safe = true
  | [], _, h => h
  | x :: t, _, h => fold_safe t (stStep_safe x h)
theorem clean_len (s : Tx) : (cleanStyles s).length ≤ 6 := fold_len _ (by simp)
theorem clean_safe (s : Tx) : (cleanStyles s).all safe = true := fold_safe _ rfl
theorem cleanStyles_len (s : Tx) (_ : s.length ≤ 1048576) : (cleanStyles s).length ≤ 1048577 := Nat.le_trans (clean_len s) (by decide)
theorem stPr_len (x : Tx) : (stPr x).1.length ≤ x.length ∧ (stPr x).2.length ≤ x.length := by
  unfold stPr
  rw [lower_len]
  refine ⟨Nat.le_trans (trimSp_len _) ?_, Nat.le_trans (trimSp_len _) ?_⟩ <;> split <;> first | (simp; done) | (simp; omega)
theorem fold_keep : ∀ (xs : List Tx) (out : List Pr), out.length + xs.length ≤ 6 → (∀ x ∈ xs, stKeep x = true) → xs.foldl stStep out = out ++ xs.map stPr
  | [], out, _, _ => by simp
  | x :: t, out, hn, h => by
    have hs : stStep out x = out ++ [stPr x] := by
      unfold stStep
      rw [h x (by simp), decide_eq_true (by simp at hn; omega)]
      rfl
    rw [List.foldl_cons, hs, fold_keep t (out ++ [stPr x]) (by simp at hn ⊢; omega) fun y hy => h y (List.mem_cons_of_mem _ hy)]
    simp

/-! ### the text of safe styles, cleaned -/
def lowS (b : UInt8) : Prop := isLow b = true
theorem low_all {n : Tx} (h : n.all isLow = true) : lower n = n ∧ noB 58 n ∧ noB 59 n ∧ noB 32 n := by
  rw [List.all_eq_true] at h
  have hb : ∀ b ∈ n, isUp b = false ∧ b ≠ 58 ∧ b ≠ 59 ∧ b ≠ 32 := by
    intro b hb
    have := h b hb
    refine ⟨?_, ?_, ?_, ?_⟩
    · simp [isLow, isUp] at this ⊢; omega
    all_goals (rintro rfl; revert this; decide)
  refine ⟨?_, fun b h => (hb b h).2.1, fun b h => (hb b h).2.2.1, fun b h => (hb b h).2.2.2⟩
  unfold lower
  refine (List.map_congr_left (g := id) fun b h => ?_).trans (List.map_id _)
  exact lowB_not (hb b h).1
theorem ltrim_no {v : Tx} (h : noB 32 v) : ltrim v = v := by
  cases v with
  | nil => rfl
  | cons b t => exact ltrim_other (by simpa using h b (by simp))
theorem trim_no {v : Tx} (h : noB 32 v) : trimSp v = v := by
  have hr : noB 32 v.reverse := fun b hb => h b (by simpa using hb)
  have : rtrim v = v := by
    unfold rtrim
    have := ltrim_no hr
    unfold ltrim at this
    rw [this, List.reverse_reverse]
  unfold trimSp
  rw [this, ltrim_no h]
theorem trim_sp (v : Tx) : trimSp (32 :: v) = trimSp v := by
  unfold trimSp
  rw [← trim_comm, ← trim_comm, ltrim_space]
theorem safe_parts {p : Pr} (h : safe p = true) : p.1.all isLow = true ∧ noB 32 p.2 ∧ noB 59 p.2 := by
  have hN : ∀ {q : UInt8 → Bool} {v : Tx}, v.all q = true → q 32 = false → q 59 = false → noB 32 v ∧ noB 59 v := by
    intro q v hv h1 h2
    rw [List.all_eq_true] at hv
    refine ⟨fun b hb e => ?_, fun b hb e => ?_⟩ <;> (subst e; have := hv _ hb; simp_all)
  have hcol : ∀ v : Tx, colorOk v = true → noB 32 v ∧ noB 59 v := by
    intro v hv
    unfold colorOk at hv
    rw [Bool.or_eq_true] at hv
    rcases hv with hv | hv
    · simp only [colorNames, List.contains_cons, List.contains_nil, Bool.or_eq_true, beq_iff_eq, Bool.or_false] at hv
      rcases hv with rfl | rfl | rfl | rfl | rfl <;> exact hN (q := isLow) (by decide) (by decide) (by decide)
    · unfold hashOk at hv
      simp only [Bool.and_eq_true, beq_iff_eq] at hv
      obtain ⟨⟨hl, h35⟩, hx⟩ := hv
      obtain ⟨h1, h2⟩ := hN (q := hexc) hx (by decide) (by decide)
      cases v with
      | nil => exact ⟨(fun b hb => by cases hb), (fun b hb => by cases hb)⟩
      | cons b t =>
        have hb : b = 35 := UInt8.toNat_inj.1 (by simp [hdi] at h35; have : ((35 : UInt8).toNat) = 35 := rfl; omega)
        subst hb
        refine ⟨fun x hx => ?_, fun x hx => ?_⟩ <;> (rcases List.mem_cons.1 hx with rfl | hx)
        · decide
        · exact h1 x hx
        · decide
        · exact h2 x hx
  have hpx : ∀ v : Tx, pxOk v = true → noB 32 v ∧ noB 59 v := by
    intro v hv
    unfold pxOk at hv
    rw [Bool.and_eq_true] at hv
    obtain ⟨he, hn⟩ := hv
    unfold numOk at hn
    simp only [Bool.and_eq_true] at hn
    obtain ⟨h1, h2⟩ := hN (q := isDig) hn.2 (by decide) (by decide)
    have hv : v = v.take (v.length - 2) ++ [112, 120] := by
      simp only [endsWith, Bool.and_eq_true, beq_iff_eq] at he
      conv => lhs; rw [← List.take_append_drop (v.length - 2) v]
      congr 1
      exact he.2
    rw [hv]
    refine ⟨fun b hb => ?_, fun b hb => ?_⟩ <;> (rcases List.mem_append.1 hb with hb | hb)
    · exact h1 b hb
    · simp at hb; rcases hb with rfl | rfl <;> decide
    · exact h2 b hb
    · simp at hb; rcases hb with rfl | rfl <;> decide
  have hal : ∀ v : Tx, alignOk v = true → noB 32 v ∧ noB 59 v := by
    intro v hv
    simp only [alignOk, Bool.or_eq_true, beq_iff_eq] at hv
    rcases hv with (rfl | rfl) | rfl <;> exact hN (q := isLow) (by decide) (by decide) (by decide)
  obtain ⟨n, v⟩ := p
  unfold safe styleOk at h
  dsimp only at h ⊢
  split at h
  · rename_i hn
    refine ⟨?_, hcol v h⟩
    rcases hn with rfl | rfl <;> decide
  · split at h
    · rename_i hn
      refine ⟨?_, hpx v h⟩
      rcases hn with rfl | rfl | rfl | rfl <;> decide
    · split at h
      · rename_i hn
        refine ⟨?_, hal v h⟩
        subst hn
        decide
      · cases h
theorem at_stop {c : UInt8} : ∀ {a b : Tx}, noB c a → at_ c (a ++ c :: b) = a.length
  | [], b, _ => by simp [at_, List.findIdx_cons]
  | x :: t, b, h => by
    have ih := at_stop (c := c) (a := t) (b := b) fun y hy => h y (List.mem_cons_of_mem _ hy)
    have hx : (x == c) = false := by simpa using h x (by simp)
    unfold at_ at ih ⊢
    rw [List.cons_append, List.findIdx_cons, hx, ih]
    rfl
/-- a part of the text, with a space before it or without -/
theorem part_clean {p : Pr} (h : safe p = true) (u : Tx) (hu : u = [] ∨ u = [32]) : stKeep (u ++ stText p) = true ∧ stPr (u ++ stText p) = p ∧ noB 59 (u ++ stText p) := by
  obtain ⟨h1, h2, h3⟩ := safe_parts h
  obtain ⟨hl, h58, h59, h32⟩ := low_all h1
  have hs : u ++ stText p = (u ++ p.1) ++ 58 :: (32 :: p.2) := by simp [stText]
  have hnu : noB 58 (u ++ p.1) := by
    intro b hb
    rcases List.mem_append.1 hb with hb | hb
    · rcases hu with rfl | rfl
      · cases hb
      · simp at hb; subst hb; decide
    · exact h58 b hb
  have ha : at_ 58 (u ++ stText p) = (u ++ p.1).length := by rw [hs]; exact at_stop hnu
  have hh : has 58 (u ++ stText p) = true := by
    unfold has
    rw [ha, hs]
    simp
  have hpr : stPr (u ++ stText p) = p := by
    unfold stPr
    rw [hh, ha]
    simp only [if_true]
    rw [hs, List.take_left, show (u ++ p.1).length + 1 = (u ++ p.1 ++ [58]).length by simp; omega, show u ++ p.1 ++ 58 :: 32 :: p.2 = (u ++ p.1 ++ [58]) ++ (32 :: p.2) by simp, List.drop_left, trim_sp, trim_no h2]
    have : trimSp (u ++ p.1) = p.1 := by
      rcases hu with rfl | rfl
      · exact trim_no h32
      · show trimSp (32 :: p.1) = _
        rw [trim_sp, trim_no h32]
    rw [this, hl]
  refine ⟨by unfold stKeep; rw [hh, hpr, h]; rfl, hpr, ?_⟩
  intro b hb
  rw [hs] at hb
  rcases List.mem_append.1 hb with hb | hb
  · rcases List.mem_append.1 hb with hb | hb
    · rcases hu with rfl | rfl
      · cases hb
      · simp at hb; subst hb; decide
    · exact h59 b hb
  · rcases List.mem_cons.1 hb with rfl | hb
    · decide
    · rcases List.mem_cons.1 hb with rfl | hb
      · decide
      · exact h3 b hb
theorem join_byte (b : UInt8) (y : Tx) (L : List Tx) (sep : Tx) : Lib.join ((b :: y) :: L) sep = b :: Lib.join (y :: L) sep := by
  cases L with
  | nil => rw [Lib.join_one, Lib.join_one]
  | cons z r => rw [join_cons2, join_cons2]; simp
theorem join_sp : ∀ (l : List Tx) (x : Tx), Lib.join (x :: l) [59, 32] = Lib.join (x :: l.map (32 :: ·)) [59]
  | [], x => by simp [Lib.join_one]
  | y :: t, x => by
    have ih := join_sp t y
    rw [join_cons2, List.map_cons, join_cons2, join_byte, ih]
    simp
theorem clean_text {ps : List Pr} (h6 : ps.length ≤ 6) (hs : ps.all safe = true) : cleanStyles (stylesText ps) = ps := by
  have ht : stylesText ps = Lib.join (ps.map stText) semi := by
    unfold stylesText
    rw [decide_eq_true h6, hs]
    simp only [Bool.and_self, if_true]
    unfold stParts
    rw [List.take_length]
  rw [List.all_eq_true] at hs
  unfold cleanStyles
  rw [ht]
  cases ps with
  | nil => rw [List.map_nil, Lib.join_nil]; rfl
  | cons p t =>
    have hsp : Lib.split (Lib.join ((p :: t).map stText) semi) [59] = ([] ++ stText p) :: (t.map fun q => [32] ++ stText q) := by
      rw [List.map_cons, show semi = [59, 32] from rfl, join_sp, List.map_map]
      refine split_join (c := 59) (t := []) _ (by simp) ?_
      intro x hx
      rcases List.mem_cons.1 hx with rfl | hx
      · exact (part_clean (hs p (by simp)) [] (.inl rfl)).2.2
      · obtain ⟨q, hq, rfl⟩ := List.mem_map.1 hx
        exact (part_clean (hs q (by simp [hq])) [32] (.inr rfl)).2.2
    rw [hsp, fold_keep _ [] (by simp at h6 ⊢; omega)]
    · rw [List.map_cons, (part_clean (hs p (by simp)) [] (.inl rfl)).2.1, List.map_map, List.nil_append]
      congr 1
      refine (List.map_congr_left (g := id) fun q hq => ?_).trans (List.map_id _)
      exact (part_clean (hs q (by simp [hq])) [32] (.inr rfl)).2.1
    · intro x hx
      rcases List.mem_cons.1 hx with rfl | hx
      · exact (part_clean (hs p (by simp)) [] (.inl rfl)).1
      · obtain ⟨q, hq, rfl⟩ := List.mem_map.1 hx
        exact (part_clean (hs q (by simp [hq])) [32] (.inr rfl)).1
/-- part by part: as the reference goes -/
def restP (s : Tx) (k : Nat) : List Tx := if k ≤ s.length then Lib.split (s.drop k) [59] else []
theorem index_at' (r : Tx) : Lib.index r [59] = if at_ 59 r < r.length then (at_ 59 r : Int) else -1 := by
  rw [Lib.index_one, index_at]
theorem restP_step {s : Tx} {k m : Nat} (hk : k ≤ s.length) (hm : at_ 59 (s.drop k) = m - k) (hkm : k ≤ m) (hml : m ≤ s.length) : restP s k = (s.take m).drop k :: restP s (m + 1) := by
  unfold restP
  rw [if_pos hk]
  by_cases h : m < s.length
  · rw [if_pos (by omega), split_hit (by simp) (show Lib.index (s.drop k) [59] = ((m - k : Nat) : Int) by rw [index_at', hm, if_pos (by simp; omega)])]
    rw [List.drop_drop, List.take_drop]
    congr 2
    · congr 1; omega
    · simp; omega
  · have e : m = s.length := by omega
    rw [if_neg (by omega), split_miss (by rw [index_at', hm, if_neg (by simp; omega)]), e, List.take_length]
theorem restP_end {s : Tx} : restP s (s.length + 1) = [] := by unfold restP; rw [if_neg (by omega)]
theorem restP_zero (s : Tx) : restP s 0 = Lib.split s [59] := by unfold restP; rw [if_pos (by omega), List.drop_zero]
end Go.Proofs.YtaofgcdpmeeimaaDoor
