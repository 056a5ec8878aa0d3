/- Lines of headers and back: plain laws. -/
import Derived.Test.YtaipignkkbknfaaDoorHeadsLines
import Derived.Test.YtaipignkkbknfaaDoorReadHeads
namespace Go.Proofs.YtaipignkkbknfaaDoor
open Go.RowKit

theorem at_append {c : UInt8} {a b : Tx} (h : a.all (fun x => !(x == c)) = true) : at_ c (a ++ c :: b) = a.length := by
  induction a with
  | nil => simp [at_, List.findIdx_cons]
  | cons x t ih =>
    simp only [List.all_cons, Bool.and_eq_true, Bool.not_eq_true'] at h
    have e : at_ c (x :: (t ++ c :: b)) = at_ c (t ++ c :: b) + 1 := by simp [at_, List.findIdx_cons, h.1]
    rw [List.cons_append, e, ih h.2]
    rfl
theorem nameByte_plain {c : UInt8} (h : nameByte c = true) : (c == 58) = false ∧ isUp c = false ∧ isPrn c = true := by
  have e58 : (c == 58) = false := by
    rw [beq_eq_false_iff_ne]
    intro e
    subst e
    revert h
    decide
  refine ⟨e58, ?_, ?_⟩
  · simp [nameByte, isLow, isDig, isUp] at h ⊢; omega
  · simp [nameByte, isLow, isDig, isPrn] at h ⊢; omega
theorem lower_name {l : Tx} (h : l.all nameByte = true) : lower l = l := by
  induction l with
  | nil => rfl
  | cons c t ih =>
    simp only [List.all_cons, Bool.and_eq_true] at h
    show lowB c :: lower t = _
    rw [lowB_not (nameByte_plain h.1).2.1, ih h.2]
theorem trimSp_space (v : Tx) : trimSp (32 :: v) = trimSp v := by
  unfold trimSp
  rw [← trim_comm, ← trim_comm, ltrim_space]
theorem head_parts {p : Pr} (h : headOk p = true) : p.1.all nameByte = true ∧ p.1.length ≤ 10 ∧ p.2.length ≤ 40 ∧ p.2.all isPrn = true ∧ trimSp p.2 = p.2 := by
  simp only [headOk, nameOk, valOk, textOk, Bool.and_eq_true, decide_eq_true_eq, beq_iff_eq] at h
  exact ⟨h.1.1.2, h.1.1.1.1.2, h.1.2.1, h.1.2.2.2, h.2⟩
theorem line_at {p : Pr} (h : headOk p = true) : at_ 58 (lineOf p) = p.1.length := by
  refine at_append ?_
  have := (head_parts h).1
  rw [List.all_eq_true] at this ⊢
  intro x hx
  rw [(nameByte_plain (this x hx)).1]
  rfl
theorem line_has {p : Pr} (h : headOk p = true) : has 58 (lineOf p) = true := by
  unfold has
  rw [line_at h]
  simp [lineOf]
theorem line_read {p : Pr} (h : headOk p = true) : readLine (lineOf p) = p := by
  obtain ⟨h1, _, _, _, h5⟩ := head_parts h
  unfold readLine
  rw [line_at h]
  have e1 : (lineOf p).take p.1.length = p.1 := by simp [lineOf]
  have e2 : (lineOf p).drop (p.1.length + 1) = 32 :: p.2 := by
    unfold lineOf
    rw [List.drop_append]
    simp
  rw [e1, e2, lower_name h1, trimSp_space, h5]
theorem line_text {p : Pr} (h : headOk p = true) : textOk (lineOf p) = true := by
  obtain ⟨h1, h2, h3, h4, _⟩ := head_parts h
  simp only [textOk, Bool.and_eq_true, decide_eq_true_eq]
  refine ⟨by simp [lineOf]; omega, ?_⟩
  unfold lineOf
  rw [List.all_append, List.all_cons, List.all_cons, h4]
  have : p.1.all isPrn = true := by
    rw [List.all_eq_true] at h1 ⊢
    exact fun x hx => (nameByte_plain (h1 x hx)).2.2
  rw [this]
  decide
theorem heads_each {ps : List Pr} (h : headsOk ps = true) : ps.length ≤ 6 ∧ ∀ p ∈ ps, headOk p = true := by
  simp only [headsOk, Bool.and_eq_true, decide_eq_true_eq, List.all_eq_true] at h
  exact h
theorem hdLines_all (ps : List Pr) : hdLines ps ps.length = ps.map lineOf := by simp [hdLines]
theorem readLines_all (xs : List Tx) : readLines xs xs.length = xs.map readLine := by simp [readLines]
theorem read_lines {ps : List Pr} (h : headsOk ps = true) : readHeads (headsLines ps) = (ps, true) := by
  obtain ⟨h6, hh⟩ := heads_each h
  have e0 : headsLines ps = ps.map lineOf := by rw [headsLines, if_pos h, hdLines_all]
  have e1 : (ps.map lineOf).map readLine = ps := by
    rw [List.map_map]
    refine (List.map_congr_left (g := id) fun p hp => ?_).trans (List.map_id _)
    exact line_read (hh p hp)
  have e2 : (ps.map lineOf).all (has 58) = true := by
    rw [List.all_eq_true]
    intro x hx
    obtain ⟨p, hp, rfl⟩ := List.mem_map.1 hx
    exact line_has (hh p hp)
  rw [e0, readHeads, e2, List.length_map, decide_eq_true h6, readLines]
  simp only [Bool.and_self, if_true]
  rw [show (ps.map lineOf).take ps.length = ps.map lineOf by rw [List.take_of_length_le]; simp, e1, h]
  rfl
theorem lines_size {ps : List Pr} (h : headsOk ps = true) : (headsLines ps).length + ssize (headsLines ps) ≤ 1048576 := by
  obtain ⟨h6, hh⟩ := heads_each h
  rw [headsLines, if_pos h, hdLines_all, List.length_map]
  have : ∀ qs : List Pr, (∀ p ∈ qs, headOk p = true) → ssize (qs.map lineOf) ≤ 60 * qs.length := by
    intro qs
    induction qs with
    | nil => intro _; simp [ssize]
    | cons p t ih =>
      intro hq
      have h1 := ih fun q hq' => hq q (by simp [hq'])
      obtain ⟨_, h2, h3, _, _⟩ := head_parts (hq p (by simp))
      have h4 : (lineOf p).length = p.1.length + 2 + p.2.length := by simp [lineOf]; omega
      rw [List.map_cons, ssize, List.length_cons]
      omega
  have := this ps hh
  omega
theorem small_size : ∀ {ps : List Pr}, Small ps → psize ps ≤ 200 * ps.length
  | [], _ => by simp [psize]
  | p :: t, h => by
    have h1 := small_size (ps := t) ⟨by have := h.1; simp at this; omega, fun q hq => h.2 q (by simp [hq])⟩
    have h2 := h.2 p (by simp)
    simp only [psize, List.length_cons]
    omega

end Go.Proofs.YtaipignkkbknfaaDoor
