/- Queries: reading, in plain Lean: both ways of reading give back the pairs whose query it is. -/
import Derived.Test.YtjlaelkdmgcniaaDoorPartsP
import Derived.Test.YtjlaelkdmgcniaaDoorAskText
namespace Go.Proofs.YtjlaelkdmgcniaaDoor
open Go.RowKit

theorem asked_names {ps : List Pr} (h : askedOk ps = true) : ∀ p ∈ ps, p.1.all nameByte = true := by
  intro p hp
  simp only [askedOk, Bool.and_eq_true, List.all_eq_true] at h
  have := h.2 p hp
  simp only [pairOk, Bool.and_eq_true] at this
  exact nameOk_all this.1
theorem askedText_eq {ps : List Pr} (h : askedOk ps = true) : askedText ps = Lib.join (ps.map pText) [38] := by
  unfold askedText
  rw [if_pos h]
  unfold prParts
  rw [List.take_length]
  rfl
def readAsked (s : Tx) : List Pr × Bool := if (readPairs s [38]).2 && askedOk (readPairs s [38]).1 && (askedText (readPairs s [38]).1 == s) then ((readPairs s [38]).1, true) else ([], false)
theorem readAsked_text {ps : List Pr} {s : Tx} (h : askedOk ps = true) (ht : askedText ps = s) : readAsked s = (ps, true) := by
  have hn := asked_names h
  have hr : readPairs s [38] = (ps, true) := by
    rw [← ht, askedText_eq h]
    exact readPairs_text hn fun p hp => (pText_no (hn p hp)).1
  unfold readAsked
  rw [hr]
  simp [h, ht]
theorem readAsked_cases (s : Tx) : readAsked s = ([], false) ∨ ∃ ps, readAsked s = (ps, true) ∧ askedOk ps = true ∧ askedText ps = s := by
  unfold readAsked
  split
  · rename_i h
    simp only [Bool.and_eq_true, beq_iff_eq] at h
    exact .inr ⟨_, rfl, h.1.2, h.2⟩
  · exact .inl rfl
theorem parse_asked {ps : List Pr} {s : Tx} (h : askedOk ps = true) (ht : askedText ps = s) : parseP 38 1 s.length [] s = some ps := by
  have hn := asked_names h
  have hj := ht
  rw [askedText_eq h] at hj
  have h2 := parseP_text (d := 38) (t := []) (skip := 1) rfl ps s.length [] hn (fun p hp => (pText_no (hn p hp)).1) (pairs_len hj)
  rw [hj] at h2
  exact h2
theorem readAsked_spec (s : Tx) : readAsked s = match parseP 38 1 s.length [] s with
  | some ps => if askedOk ps && (askedText ps == s) then (ps, true) else ([], false)
  | none => ([], false) := by
  rcases readAsked_cases s with h | ⟨ps, h, h1, h2⟩
  · rw [h]
    cases hp : parseP 38 1 s.length [] s with
    | none => rfl
    | some ps =>
      show _ = if askedOk ps && (askedText ps == s) then (ps, true) else ([], false)
      split
      · rename_i hc
        simp only [Bool.and_eq_true, beq_iff_eq] at hc
        rw [readAsked_text hc.1 hc.2] at h
        cases h
      · rfl
  · rw [h, parse_asked h1 h2]
    simp [h1, h2]
theorem asked6 {ps : List Pr} (h : askedOk ps = true) : ps.length ≤ 6 := by
  simp only [askedOk, Bool.and_eq_true, decide_eq_true_eq] at h
  exact h.1
theorem readAsked_len (s : Tx) (_ : s.length ≤ 1048576) : (readAsked s).1.length ≤ 1048577 := by
  rcases readAsked_cases s with h | ⟨ps, h, h1, _⟩
  · rw [h]; simp
  · rw [h]
    have := asked6 h1
    simp only
    omega
/-- with a sign behind it a query is none -/
theorem readAsked_amp {ps : List Pr} {s : Tx} (_ : askedOk ps = true) (_ : askedText ps = s) : readAsked (s ++ [38]) = ([], false) := by
  rcases readAsked_cases (s ++ [38]) with h | ⟨qs, _, h1, h2⟩
  · exact h
  · exfalso
    have hn := asked_names h1
    rw [askedText_eq h1] at h2
    cases qs with
    | nil => simp [Lib.join_nil] at h2
    | cons q t =>
      have hl := join_last (c := 38) (sep := [38]) ((q :: t).map pText) (by simp) (by
        intro x hx
        obtain ⟨r, hr, rfl⟩ := List.mem_map.1 hx
        exact ⟨pText_ne r, (pText_no (hn r hr)).1⟩)
      rw [h2] at hl
      simp at hl

/-! ### looking for a byte from a place on -/
theorem scan_step {c : UInt8} {l : Tx} {k p : Nat} (hk : k ≤ p) (h : p - k ≤ at_ c (l.drop k)) (hp : p < l.length) (hc : (l[p] == c) = false) : p + 1 - k ≤ at_ c (l.drop k) := by
  have hj : p - k < (l.drop k).length := by simp; omega
  have he : (l.drop k)[p - k] = l[p] := by rw [List.getElem_drop]; congr 1; omega
  have := at_step h hj (by rw [he]; exact hc)
  omega
theorem scan_found {c : UInt8} {l : Tx} {k p : Nat} (hk : k ≤ p) (h : p - k ≤ at_ c (l.drop k)) (hp : p < l.length) (hc : (l[p] == c) = true) : at_ c (l.drop k) = p - k := by
  have hj : p - k < (l.drop k).length := by simp; omega
  have he : (l.drop k)[p - k] = l[p] := by rw [List.getElem_drop]; congr 1; omega
  exact at_found h hj (by rw [he]; exact hc)
theorem scan_end {c : UInt8} {l : Tx} {k : Nat} (h : l.length - k ≤ at_ c (l.drop k)) : at_ c (l.drop k) = l.length - k := by
  have := at_le c (l.drop k)
  simp at this
  omega
end Go.Proofs.YtjlaelkdmgcniaaDoor
