/- Texts cut at a sign, and put together again: plain Lean over the shelf's split and join. -/
import Derived.Test.YtjlaelkdmgcniaaDoorBase
import Derived.Lib.Split
import Derived.Lib.SplitLaws
import Derived.Lib.IndexMore
import Derived.Lib.IndexLaws
import Derived.Lib.Join
namespace Go.Proofs.YtjlaelkdmgcniaaDoor
open Go.RowKit

theorem split_miss {s sep : Tx} (h : Lib.index s sep = -1) : Lib.split s sep = [s] := by
  unfold Lib.split
  rw [Lib.count_miss h]
  rfl
theorem split_hit {s sep : Tx} {i : Nat} (hs : sep ≠ []) (h : Lib.index s sep = i) : Lib.split s sep = s.take i :: Lib.split (s.drop (i + sep.length)) sep := by
  unfold Lib.split
  rw [Lib.count_hit hs h, Nat.add_comm 1 _, Lib.splitK, h]
  have e : ((i : Int) == -1) = false := by simp
  rw [e]
  simp
theorem split_ne (s sep : Tx) : Lib.split s sep ≠ [] := by
  unfold Lib.split
  cases Lib.count s sep with
  | zero => simp [Lib.splitK]
  | succ k => rw [Lib.splitK]; split <;> simp
theorem join_cons2 (x y : Tx) (t : List Tx) (sep : Tx) : Lib.join (x :: y :: t) sep = x ++ sep ++ Lib.join (y :: t) sep := by
  rw [Lib.join_cons, Lib.join_cons]
  simp [Lib.joinTail]
theorem join_consS (x : Tx) {l : List Tx} (h : l ≠ []) (sep : Tx) : Lib.join (x :: l) sep = x ++ sep ++ Lib.join l sep := by
  cases l with
  | nil => exact absurd rfl h
  | cons y t => exact join_cons2 x y t sep
theorem split_cases {s sep : Tx} (hs : sep ≠ []) : (Lib.index s sep = -1 ∧ Lib.split s sep = [s]) ∨ ∃ i : Nat, Lib.index s sep = i ∧ i + sep.length ≤ s.length ∧ (s.drop i).take sep.length = sep ∧ Lib.split s sep = s.take i :: Lib.split (s.drop (i + sep.length)) sep := by
  rcases Lib.index_spec s sep with ⟨h, _⟩ | ⟨i, h, hi, ho, _⟩
  · exact .inl ⟨h, split_miss h⟩
  · refine .inr ⟨i, h, ?_, ?_, split_hit hs h⟩
    · rcases Lib.occAt_room ho with h2 | h2
      · exact h2
      · exact absurd h2 hs
    · have hr : i + sep.length ≤ s.length := by
        rcases Lib.occAt_room ho with h2 | h2
        · exact h2
        · exact absurd h2 hs
      rw [Lib.occAt_iff_take s sep i hr] at ho
      simpa using ho
theorem join_split {sep : Tx} (hs : sep ≠ []) : ∀ (n : Nat) (s : Tx), s.length ≤ n → Lib.join (Lib.split s sep) sep = s := by
  intro n
  induction n with
  | zero =>
    intro s hn
    rcases split_cases (s := s) hs with ⟨_, h⟩ | ⟨i, _, hi, _, _⟩
    · rw [h, Lib.join_one]
    · have := List.length_pos_iff.2 hs; omega
  | succ n ih =>
    intro s hn
    rcases split_cases (s := s) hs with ⟨_, h⟩ | ⟨i, _, hi, ht, h⟩
    · rw [h, Lib.join_one]
    · have hp := List.length_pos_iff.2 hs
      rw [h, join_consS _ (split_ne _ _), ih _ (by simp; omega)]
      conv => rhs; rw [← List.take_append_drop i s, ← List.take_append_drop sep.length (s.drop i), ht, List.drop_drop]
      simp
theorem join_split_ (s : Tx) {sep : Tx} (hs : sep ≠ []) : Lib.join (Lib.split s sep) sep = s := join_split hs s.length s (Nat.le_refl _)

/-- no byte c -/
def noB (c : UInt8) (x : Tx) : Prop := ∀ b ∈ x, b ≠ c
theorem index_no {c : UInt8} {t x : Tx} (h : noB c x) : Lib.index x (c :: t) = -1 := by
  refine Lib.index_none fun j _ => ?_
  cases ho : Lib.occAt x (c :: t) j with
  | false => rfl
  | true =>
    have := Lib.occAt_head rfl ho
    exact absurd rfl (h _ (List.mem_of_getElem? this))
theorem index_first_ {c : UInt8} {t x r : Tx} (h : noB c x) : Lib.index (x ++ (c :: t) ++ r) (c :: t) = x.length := by
  refine Lib.index_first (by simp) ?_ fun j hj => ?_
  · unfold Lib.occAt
    rw [List.append_assoc, List.drop_left]
    exact List.isPrefixOf_iff_prefix.2 (List.prefix_append _ _)
  · cases ho : Lib.occAt (x ++ (c :: t) ++ r) (c :: t) j with
    | false => rfl
    | true =>
      have h1 := Lib.occAt_head rfl ho
      rw [List.append_assoc, List.getElem?_append_left hj] at h1
      exact absurd rfl (h _ (List.mem_of_getElem? h1))
theorem split_join {c : UInt8} {t : Tx} : ∀ (xs : List Tx), xs ≠ [] → (∀ x ∈ xs, noB c x) → Lib.split (Lib.join xs (c :: t)) (c :: t) = xs
  | [], h, _ => absurd rfl h
  | [x], _, hx => by rw [Lib.join_one, split_miss (index_no (hx x (by simp)))]
  | x :: y :: r, _, hx => by
    have ih := split_join (c := c) (t := t) (y :: r) (by simp) fun z hz => hx z (List.mem_cons_of_mem _ hz)
    rw [join_cons2, split_hit (by simp) (index_first_ (hx x (by simp)))]
    congr 1
    · rw [List.append_assoc, List.take_left]
    · rw [show x.length + (c :: t).length = (x ++ (c :: t)).length by simp, List.drop_left, ih]
theorem split_len (s : Tx) {sep : Tx} (hs : sep ≠ []) : (Lib.split s sep).length ≤ s.length + 1 := by
  have : ∀ n (s : Tx), s.length ≤ n → (Lib.split s sep).length ≤ s.length + 1 := by
    intro n
    induction n with
    | zero =>
      intro s hn
      rcases split_cases (s := s) hs with ⟨_, h⟩ | ⟨i, _, hi, _, h⟩
      · rw [h]; simp
      · have := List.length_pos_iff.2 hs; omega
    | succ n ih =>
      intro s hn
      rcases split_cases (s := s) hs with ⟨_, h⟩ | ⟨i, _, hi, _, h⟩
      · rw [h]; simp
      · have hp := List.length_pos_iff.2 hs
        have := ih (s.drop (i + sep.length)) (by simp; omega)
        rw [h, List.length_cons]
        simp at this
        omega
  exact this _ s (Nat.le_refl _)
theorem split_mem (s : Tx) {sep : Tx} (hs : sep ≠ []) : ∀ x ∈ Lib.split s sep, x.length ≤ s.length := by
  have : ∀ n (s : Tx), s.length ≤ n → ∀ x ∈ Lib.split s sep, x.length ≤ s.length := by
    intro n
    induction n with
    | zero =>
      intro s hn
      rcases split_cases (s := s) hs with ⟨_, h⟩ | ⟨i, _, hi, _, h⟩
      · rw [h]; simp
      · have := List.length_pos_iff.2 hs; omega
    | succ n ih =>
      intro s hn
      rcases split_cases (s := s) hs with ⟨_, h⟩ | ⟨i, _, hi, _, h⟩
      · rw [h]; simp
      · have hp := List.length_pos_iff.2 hs
        rw [h]
        intro x hx
        rcases List.mem_cons.1 hx with rfl | hx
        · simp
          omega
        · have := ih _ (by simp; omega) x hx
          simp at this
          omega
  exact this _ s (Nat.le_refl _)
/-- the last byte of texts put together is one of theirs -/
theorem join_last {c : UInt8} {sep : Tx} : ∀ (xs : List Tx), xs ≠ [] → (∀ x ∈ xs, x ≠ [] ∧ noB c x) → (Lib.join xs sep).getLast? ≠ some c
  | [], h, _ => absurd rfl h
  | [x], _, hx => by
    rw [Lib.join_one]
    intro e
    exact (hx x (by simp)).2 _ (List.mem_of_getLast? e) rfl
  | x :: y :: t, _, hx => by
    have ih := join_last (c := c) (sep := sep) (y :: t) (by simp) fun z hz => hx z (List.mem_cons_of_mem _ hz)
    rw [join_cons2, List.getLast?_append]
    cases hl : (Lib.join (y :: t) sep).getLast? with
    | some b => rw [hl] at ih; simpa using ih
    | none =>
      exfalso
      rw [List.getLast?_eq_none_iff] at hl
      have hy := (hx y (by simp)).1
      cases t with
      | nil => rw [Lib.join_one] at hl; exact hy hl
      | cons z r => rw [join_cons2] at hl; simp at hl; exact hy hl.1
end Go.Proofs.YtjlaelkdmgcniaaDoor
