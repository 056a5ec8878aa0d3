/- Texts of cookies: reading, in plain Lean. -/
import Derived.Test.YtmijnkiopmpjdaaDoorPartsP
import Derived.Test.YtmijnkiopmpjdaaDoorCkText
namespace Go.Proofs.YtmijnkiopmpjdaaDoor
open Go.RowKit

def ck1 (p : Pr) : Ck := (p.1, p.2, 1)
def ckPrOk (ps : List Pr) : Bool := cookiesOk (ps.map ck1)
def readCookies (s : Tx) : List Pr × Bool := if (readPairs s [59, 32]).2 && ckPrOk (readPairs s [59, 32]).1 then ((readPairs s [59, 32]).1, true) else ([], false)
def prFrom (ps : List Pr) (k : Nat) : Bool := okFrom (ps.map ck1) k
theorem ckPr_eq (ps : List Pr) : ckPrOk ps = (decide (ps.length ≤ 6) && prFrom ps 0) := by simp [ckPrOk, cookiesOk, prFrom]
theorem prFrom_step (ps : List Pr) (k : Nat) (h : k < ps.length) : prFrom ps k = (nameOk ps[k].1 && valOk ps[k].2 && (ps.take k).all (fun d => !(d.1 == ps[k].1)) && prFrom ps (k + 1)) := by
  unfold prFrom
  rw [okFrom_step _ k (by simpa using h)]
  simp only [List.getElem_map, ck1, ckOk, newName]
  rw [← List.map_take, List.all_map]
  simp [Function.comp_def, ck1]
theorem prFrom_end (ps : List Pr) (k : Nat) (h : ¬ k < ps.length) : prFrom ps k = true := okFrom_end _ k (by simpa using h)
theorem ckPr_names {ps : List Pr} (h : ckPrOk ps = true) : ps.length ≤ 6 ∧ ∀ p ∈ ps, nameOk p.1 = true ∧ valOk p.2 = true := by
  rw [ckPr_eq, Bool.and_eq_true, decide_eq_true_eq] at h
  refine ⟨h.1, ?_⟩
  have hk : ∀ k, k ≤ ps.length → prFrom ps k = true := by
    intro k
    induction k with
    | zero => intro _; exact h.2
    | succ k ih =>
      intro hk
      have := ih (by omega)
      rw [prFrom_step ps k (by omega)] at this
      simp only [Bool.and_eq_true] at this
      exact this.2
  intro p hp
  obtain ⟨i, hi, rfl⟩ := List.mem_iff_getElem.1 hp
  have := hk i (by omega)
  rw [prFrom_step ps i hi] at this
  simp only [Bool.and_eq_true] at this
  exact this.1.1
theorem ckText_one (ps : List Pr) : ckParts (ps.map ck1) 0 (ps.map ck1).length = ps.map pText := by
  unfold ckParts
  rw [List.take_length]
  have : (ps.map ck1).filter (fun p => decide ((0 : Int) < p.2.2)) = ps.map ck1 := by
    rw [List.filter_eq_self]
    intro c hc
    obtain ⟨p, _, rfl⟩ := List.mem_map.1 hc
    rfl
  rw [this, List.map_map]
  rfl
theorem ckText_eq {ps : List Pr} (h : ckPrOk ps = true) : cookiesText (ps.map ck1) 0 = Lib.join (ps.map pText) [59, 32] := by
  unfold cookiesText
  have h' : cookiesOk (ps.map ck1) = true := h
  rw [if_pos h', ckText_one]
  rfl
theorem readPairs_ck {ps : List Pr} {s : Tx} (h : ckPrOk ps = true) (ht : Lib.join (ps.map pText) [59, 32] = s) : readPairs s [59, 32] = (ps, true) := by
  have hn := (ckPr_names h).2
  rw [← ht]
  exact readPairs_text (fun p hp => nameOk_all (hn p hp).1) fun p hp => (pText_no (nameOk_all (hn p hp).1)).2
theorem readCookies_text {ps : List Pr} {s : Tx} (h : ckPrOk ps = true) (ht : Lib.join (ps.map pText) [59, 32] = s) : readCookies s = (ps, true) := by
  unfold readCookies
  rw [readPairs_ck h ht, h]
  rfl
theorem readCookies_cases (s : Tx) : readCookies s = ([], false) ∨ ∃ ps, readCookies s = (ps, true) ∧ ckPrOk ps = true ∧ Lib.join (ps.map pText) [59, 32] = s := by
  unfold readCookies
  split
  · rename_i h
    simp only [Bool.and_eq_true] at h
    refine .inr ⟨_, rfl, h.2, ?_⟩
    refine readPairs_some (s := s) (by simp) (ps := (readPairs s [59, 32]).1) ?_
    rw [← h.1]
  · exact .inl rfl
theorem parse_ck {ps : List Pr} {s : Tx} (h : ckPrOk ps = true) (ht : Lib.join (ps.map pText) [59, 32] = s) : parseP 59 2 s.length [] s = some ps := by
  have hn := (ckPr_names h).2
  have h2 := parseP_text (d := 59) (t := [32]) (skip := 2) rfl ps s.length [] (fun p hp => nameOk_all (hn p hp).1) (fun p hp => (pText_no (nameOk_all (hn p hp).1)).2) (pairs_len ht)
  rw [ht] at h2
  exact h2
theorem readCookies_spec (s : Tx) : readCookies s = match parseP 59 2 s.length [] s with
  | some ps => if ckPrOk ps && (cookiesText (ps.map ck1) 0 == s) then (ps, true) else ([], false)
  | none => ([], false) := by
  rcases readCookies_cases s with h | ⟨ps, h, h1, h2⟩
  · rw [h]
    cases hp : parseP 59 2 s.length [] s with
    | none => rfl
    | some ps =>
      show _ = if ckPrOk ps && (cookiesText (ps.map ck1) 0 == s) then (ps, true) else ([], false)
      split
      · rename_i hc
        simp only [Bool.and_eq_true, beq_iff_eq] at hc
        rw [ckText_eq hc.1] at hc
        rw [readCookies_text hc.1 hc.2] at h
        cases h
      · rfl
  · rw [h, parse_ck h1 h2]
    simp [h1, h2, ckText_eq h1]
theorem readCookies_len (s : Tx) (_ : s.length ≤ 1048576) : (readCookies s).1.length ≤ 1048577 := by
  rcases readCookies_cases s with h | ⟨ps, h, h1, _⟩
  · rw [h]; simp
  · rw [h]
    have := (ckPr_names h1).1
    simp only
    omega
/-- with a semicolon behind it a text is none -/
theorem readCookies_semi {ps : List Pr} {s : Tx} (_ : ckPrOk ps = true) (_ : Lib.join (ps.map pText) [59, 32] = s) : readCookies (s ++ [59]) = ([], false) := by
  rcases readCookies_cases (s ++ [59]) with h | ⟨qs, _, h1, h2⟩
  · exact h
  · exfalso
    have hn := (ckPr_names h1).2
    cases qs with
    | nil => simp [Lib.join_nil] at h2
    | cons q t =>
      have hl := join_last (c := 59) (sep := [59, 32]) ((q :: t).map pText) (by simp) (by
        intro x hx
        obtain ⟨r, hr, rfl⟩ := List.mem_map.1 hx
        exact ⟨pText_ne r, (pText_no (nameOk_all (hn r hr).1)).2⟩)
      rw [h2] at hl
      simp at hl

/-! ### looking for a byte from a place on -/
theorem scan_step {c : UInt8} {l : Tx} {k p : Nat} (hk : k ≤ p) (h : p - k ≤ at_ c (l.drop k)) (hp : p < l.length) (hc : (l[p] == c) = false) : p + 1 - k ≤ at_ c (l.drop k) := by
  have hj : p - k < (l.drop k).length := by simp; omega
  have he : (l.drop k)[p - k] = l[p] := by rw [List.getElem_drop]; congr 1; omega
  have := at_step h hj (by rw [he]; exact hc)
  omega
theorem scan_found {c : UInt8} {l : Tx} {k p : Nat} (hk : k ≤ p) (h : p - k ≤ at_ c (l.drop k)) (hp : p < l.length) (hc : (l[p] == c) = true) : at_ c (l.drop k) = p - k := by
  have hj : p - k < (l.drop k).length := by simp; omega
  have he : (l.drop k)[p - k] = l[p] := by rw [List.getElem_drop]; congr 1; omega
  exact at_found h hj (by rw [he]; exact hc)
theorem scan_end {c : UInt8} {l : Tx} {k : Nat} (h : l.length - k ≤ at_ c (l.drop k)) : at_ c (l.drop k) = l.length - k := by
  have := at_le c (l.drop k)
  simp at this
  omega
end Go.Proofs.YtmijnkiopmpjdaaDoor
