/- Rows of cells: reading a line, in plain Lean: both ways of reading give back the cells whose line it is. -/
import Derived.Test.YtaofgcdpmeeimaaDoorRowP
import Derived.Test.YtaofgcdpmeeimaaDoorCut
namespace Go.Proofs.YtaofgcdpmeeimaaDoor
open Go.RowKit

def rcq : Tx → Tx × Tx
  | [] => ([], [])
  | [b] => if b == 34 then ([], []) else ([b], [])
  | b :: d :: u => if b == 34 then (if d == 34 then (34 :: (rcq u).1, (rcq u).2) else ([], d :: u)) else (b :: (rcq (d :: u)).1, (rcq (d :: u)).2)
theorem rcq_no {b : UInt8} (t : Tx) (h : (b == 34) = false) : rcq (b :: t) = (b :: (rcq t).1, (rcq t).2) := by
  cases t <;> simp [rcq, h]
theorem rcq_two (u : Tx) : rcq (34 :: 34 :: u) = (34 :: (rcq u).1, (rcq u).2) := by simp [rcq]
theorem rcq_end (t : Tx) (h : t.head? ≠ some 34) : rcq (34 :: t) = ([], t) := by
  cases t with
  | nil => simp [rcq]
  | cons d u =>
    have : (d == 34) = false := by simpa using h
    simp [rcq, this]
def readCell (s : Tx) : Tx × Tx := if s.head? == some 34 then rcq s.tail else (s.take (at_ 44 s), s.drop (at_ 44 s))
def parseI : Nat → List Tx → Tx → List Tx
  | 0, acc, _ => acc
  | n + 1, acc, rest => if (readCell rest).2.head? == some 44 && decide (acc.length + 1 ≤ 6) then parseI n (acc ++ [(readCell rest).1]) (readCell rest).2.tail else acc ++ [(readCell rest).1]
def parseS : Tx → Bool → List Tx → Tx → List Tx
  | [], _, d, c => d ++ [c]
  | [b], q, d, c => if b == 34 then d ++ [c] else if b == 44 && !q then d ++ [c] ++ [[]] else d ++ [c ++ [b]]
  | b :: e :: u, q, d, c => if b == 34 && q && e == 34 then parseS u q d (c ++ [34]) else if b == 34 then parseS (e :: u) (!q) d c else if b == 44 && !q then parseS (e :: u) q (d ++ [c]) [] else parseS (e :: u) q d (c ++ [b])
theorem parseS_two (u : Tx) (d : List Tx) (c : Tx) : parseS (34 :: 34 :: u) true d c = parseS u true d (c ++ [34]) := by simp [parseS]
theorem parseS_q (t : Tx) (q : Bool) (d : List Tx) (c : Tx) (h : q = false ∨ t.head? ≠ some 34) : parseS (34 :: t) q d c = parseS t (!q) d c := by
  cases t with
  | nil => simp [parseS]
  | cons e u =>
    have : (q && e == 34) = false := by
      rcases h with h | h
      · rw [h]; rfl
      · have : (e == 34) = false := by simpa using h
        rw [this, Bool.and_false]
    rw [parseS, Bool.and_assoc, this]
    simp
theorem parseS_comma (t : Tx) (d : List Tx) (c : Tx) : parseS (44 :: t) false d c = parseS t false (d ++ [c]) [] := by
  cases t <;> simp [parseS]
theorem parseS_other {b : UInt8} (t : Tx) (q : Bool) (d : List Tx) (c : Tx) (h : (b == 34) = false) (h2 : (b == 44 && !q) = false) : parseS (b :: t) q d c = parseS t q d (c ++ [b]) := by
  cases t <;> simp [parseS, h, h2]

def rowT : List Tx → Tx
  | [] => []
  | [c] => cellText c
  | c :: d :: t => cellText c ++ 44 :: rowT (d :: t)
theorem rowT_join : ∀ cs : List Tx, Lib.join (cs.map cellText) comma = rowT cs
  | [] => rfl
  | [c] => by simp [rowT, Lib.join_one]
  | c :: d :: t => by
    have ih := rowT_join (d :: t)
    rw [List.map_cons, Lib.join_cons] at ih
    rw [List.map_cons, List.map_cons, Lib.join_cons, rowT, ← ih]
    simp [Lib.joinTail, comma]

theorem rcq_dq : ∀ (c r : Tx), r.head? ≠ some 34 → rcq (dq c ++ 34 :: r) = (c, r)
  | [], r, h => rcq_end r h
  | b :: t, r, h => by
    have ih := rcq_dq t r h
    by_cases hb : (b == 34) = true
    · have e : b = 34 := by simpa using hb
      subst e
      have : dq (34 :: t) = 34 :: 34 :: dq t := by simp [dq]
      rw [this, List.cons_append, List.cons_append, rcq_two, ih]
    · have hb' : (b == 34) = false := by simpa using hb
      have : dq (b :: t) = b :: dq t := by simp [dq, hb']
      rw [this, List.cons_append, rcq_no _ hb', ih]
theorem parseS_dq (d : List Tx) : ∀ (c x r : Tx), r.head? ≠ some 34 → parseS (dq c ++ 34 :: r) true d x = parseS r false d (x ++ c)
  | [], x, r, h => by
    have := parseS_q r true d x (.inr h)
    simpa [dq] using this
  | b :: t, x, r, h => by
    have ih := fun x => parseS_dq d t x r h
    by_cases hb : (b == 34) = true
    · have e : b = 34 := by simpa using hb
      subst e
      have : dq (34 :: t) = 34 :: 34 :: dq t := by simp [dq]
      rw [this, List.cons_append, List.cons_append, parseS_two, ih, List.append_assoc]
      rfl
    · have hb' : (b == 34) = false := by simpa using hb
      have : dq (b :: t) = b :: dq t := by simp [dq, hb']
      rw [this, List.cons_append, parseS_other _ _ _ _ hb' (by simp), ih, List.append_assoc]
      rfl
theorem parseS_plain (d : List Tx) (r : Tx) : ∀ (c x : Tx), c.any isQ = false → parseS (c ++ r) false d x = parseS r false d (x ++ c)
  | [], x, _ => by simp
  | b :: t, x, h => by
    rw [List.any_cons, Bool.or_eq_false_iff] at h
    have hb := h.1
    unfold isQ at hb
    rw [Bool.or_eq_false_iff] at hb
    rw [List.cons_append, parseS_other _ _ _ _ hb.2 (by rw [hb.1]; rfl), parseS_plain d r t _ h.2, List.append_assoc]
    rfl
theorem at_plain (r : Tx) (hr : r = [] ∨ r.head? = some 44) : ∀ c : Tx, c.any isQ = false → at_ 44 (c ++ r) = c.length
  | [], _ => by
    rcases hr with rfl | hr
    · rfl
    · cases r with
      | nil => rfl
      | cons b t =>
        have : b = 44 := by simpa using hr
        subst this
        simp [at_, List.findIdx_cons]
  | b :: t, h => by
    rw [List.any_cons, Bool.or_eq_false_iff] at h
    have hb := h.1
    unfold isQ at hb
    rw [Bool.or_eq_false_iff] at hb
    have ih := at_plain r hr t h.2
    unfold at_ at ih ⊢
    rw [List.cons_append, List.findIdx_cons, hb.1, ih]
    simp
theorem tail_not {r : Tx} (hr : r = [] ∨ r.head? = some 44) : r.head? ≠ some 34 := by
  rcases hr with rfl | hr
  · simp
  · rw [hr]; decide
theorem readCell_text (c r : Tx) (hr : r = [] ∨ r.head? = some 44) : readCell (cellText c ++ r) = (c, r) := by
  unfold cellText
  by_cases hq : quoted c = true
  · rw [if_pos hq]
    unfold readCell
    have := rcq_dq c r (tail_not hr)
    simpa using this
  · have hq' : quoted c = false := by simpa using hq
    rw [if_neg hq]
    unfold quoted at hq'
    rw [Bool.or_eq_false_iff] at hq'
    have hat := at_plain r hr c hq'.1
    cases c with
    | nil => simp at hq'
    | cons b t =>
      have h1 := hq'.1
      rw [List.any_cons, Bool.or_eq_false_iff] at h1
      have hb := h1.1
      unfold isQ at hb
      rw [Bool.or_eq_false_iff] at hb
      have h34 : b ≠ 34 := by simpa using hb.2
      unfold readCell
      rw [hat]
      simp [h34]
theorem parseS_text (d : List Tx) (c r : Tx) (hr : r = [] ∨ r.head? = some 44) : parseS (cellText c ++ r) false d [] = parseS r false d c := by
  unfold cellText
  by_cases hq : quoted c = true
  · rw [if_pos hq]
    have h1 := parseS_q (dq c ++ 34 :: r) false d [] (.inl rfl)
    have h2 := parseS_dq d c [] r (tail_not hr)
    rw [List.cons_append, List.append_assoc]
    show parseS (34 :: (dq c ++ 34 :: r)) false d [] = _
    rw [h1]
    exact h2
  · have hq' : quoted c = false := by simpa using hq
    rw [if_neg hq]
    unfold quoted at hq'
    rw [Bool.or_eq_false_iff] at hq'
    exact parseS_plain d r c [] hq'.1
theorem parseS_row : ∀ (cs : List Tx) (d : List Tx), cs ≠ [] → parseS (rowT cs) false d [] = d ++ cs
  | [], _, h => absurd rfl h
  | [c], d, _ => by
    have := parseS_text d c [] (.inl rfl)
    rw [List.append_nil] at this
    rw [rowT, this]; rfl
  | c :: e :: t, d, _ => by
    rw [rowT, parseS_text d c _ (.inr rfl), parseS_comma, parseS_row (e :: t) (d ++ [c]) (by simp)]
    simp
theorem parseI_row : ∀ (cs : List Tx) (n : Nat) (acc : List Tx), cs ≠ [] → cs.length ≤ n → acc.length + cs.length ≤ 6 → parseI n acc (rowT cs) = acc ++ cs
  | [], _, _, h, _, _ => absurd rfl h
  | [c], n + 1, acc, _, _, _ => by
    have := readCell_text c [] (.inl rfl)
    rw [List.append_nil] at this
    rw [rowT, parseI, this]
    rfl
  | c :: e :: t, n + 1, acc, _, hn, h6 => by
    have h := readCell_text c (44 :: rowT (e :: t)) (.inr rfl)
    rw [rowT, parseI, h]
    have h7 : acc.length + 1 ≤ 6 := by simp at h6; omega
    have ih := parseI_row (e :: t) n (acc ++ [c]) (by simp) (by simp at hn ⊢; omega) (by simp at h6 ⊢; omega)
    simp [h7] at ih ⊢
    exact ih
  | [c], 0, _, _, hn, _ => by simp at hn
  | c :: e :: t, 0, _, _, hn, _ => by simp at hn

theorem row_good {s : Tx} {x : List Tx} (h0 : s ≠ []) (h : rowText x = s) : x.length ≤ 6 ∧ x ≠ [] ∧ rowT x = s := by
  unfold rowText at h
  split at h
  · rename_i hc
    rw [Bool.and_eq_true] at hc
    have h6 : x.length ≤ 6 := by simpa using hc.1
    have hj : rowT x = s := by rw [← h, ← rowT_join, rowParts, List.take_length]
    refine ⟨h6, ?_, hj⟩
    rintro rfl
    exact h0 hj.symm
  · exact absurd h.symm h0
def readRow (s : Tx) : List Tx × Bool := if s ≠ [] ∧ rowText (parseS s false [] []) = s then (parseS s false [] [], true) else ([], false)
theorem readRow_impl (s : Tx) : readRow s = if s ≠ [] ∧ rowText (parseI 7 [] s) = s then (parseI 7 [] s, true) else ([], false) := by
  have key : ∀ x, s ≠ [] → rowText x = s → parseS s false [] [] = x ∧ parseI 7 [] s = x := by
    intro x h0 h
    obtain ⟨h6, hx, hj⟩ := row_good h0 h
    rw [← hj]
    exact ⟨parseS_row x [] hx, parseI_row x 7 [] hx (by omega) (by simpa using h6)⟩
  unfold readRow
  by_cases h1 : s ≠ [] ∧ rowText (parseS s false [] []) = s
  · have := (key _ h1.1 h1.2).2
    rw [if_pos h1, this, if_pos h1]
  · by_cases h2 : s ≠ [] ∧ rowText (parseI 7 [] s) = s
    · have := (key _ h2.1 h2.2).1
      rw [this] at h1
      exact absurd h2 h1
    · rw [if_neg h1, if_neg h2]
theorem readRow_len (s : Tx) (_ : s.length ≤ 1048576) : (readRow s).1.length ≤ 1048577 := by
  unfold readRow
  split
  · rename_i h
    have := (row_good h.1 h.2).1
    simp only
    omega
  · simp
end Go.Proofs.YtaofgcdpmeeimaaDoor
