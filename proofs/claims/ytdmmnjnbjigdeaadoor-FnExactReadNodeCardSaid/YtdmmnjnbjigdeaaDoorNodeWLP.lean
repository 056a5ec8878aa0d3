/- Texts of nodes: lengths, parts, prefixes: plain Lean. No program is walked here. -/
import Derived.Test.YtdmmnjnbjigdeaaDoorNodeRP
import Derived.Test.YtdmmnjnbjigdeaaDoorRepP
namespace Go.Proofs.YtdmmnjnbjigdeaaDoor
open Go.RowKit

theorem escq_eq : ∀ t : Tx, repB 34 [92, 34] (repB 92 [92, 92] t) = escq t
  | [] => rfl
  | b :: t => by
    have ih := escq_eq t
    by_cases h92 : b = 92
    · subst h92
      rw [escq, if_pos (by decide), ← ih]
      rfl
    · by_cases h34 : b = 34
      · subst h34
        rw [escq, if_pos (by decide), ← ih]
        rfl
      · have h1 : (b == 92) = false := by simpa using h92
        have h2 : (b == 34) = false := by simpa using h34
        rw [escq, h1, h2, if_neg (by decide), ← ih, repB, h1, if_neg (by decide), repB, h2, if_neg (by decide)]
theorem escq_len : ∀ t : Tx, (escq t).length ≤ 2 * t.length
  | [] => by simp [escq]
  | b :: t => by
    have := escq_len t
    unfold escq
    split <;> simp <;> omega
theorem quote_len (t : Tx) : (quote t).length ≤ 2 * t.length + 2 := by
  have := escq_len t
  simp [quote]
  omega
theorem escq_append : ∀ a b : Tx, escq (a ++ b) = escq a ++ escq b
  | [], _ => rfl
  | x :: t, b => by
    rw [List.cons_append, escq, escq, escq_append t b]
    split <;> simp
theorem escq_succ (l : Tx) (k : Nat) (h : k < l.length) : escq (l.take (k + 1)) = escq (l.take k) ++ (if l[k] == 34 || l[k] == 92 then [92, l[k]] else [l[k]]) := by
  rw [take_snoc l k h, escq_append]
  congr 1
theorem itoa_len {n : Int} (h0 : -999999 ≤ n) (h1 : n ≤ 999999) : (Lib.itoa n).length ≤ 7 := by
  rcases itoa_shape n h0 h1 with ⟨u, hu, _, e⟩ | ⟨u, hu, _, e⟩
  · have := dec_len u hu; rw [e]; simp; omega
  · have := dec_len u hu; rw [e]; omega
theorem joinT_len (r : List Tx) : (Lib.joinTail [44] r).length ≤ r.length + Lib.lens r := by
  rw [Lib.joinTail_length]; simp
theorem jn_len (l : List Tx) : (Lib.join l [44]).length ≤ l.length + Lib.lens l := by
  cases l with
  | nil => simp [Lib.join_nil]
  | cons x r => rw [Lib.join_length]; simp
namespace Nd
theorem wr_len (x : Nd) : ∀ d, ok x d = true → (wr x).length ≤ 32 + 40 * size x := by
  induction x using ind with
  | h k n t ns xs ih =>
  intro d hok
  obtain ⟨d, rfl, H⟩ := ok_parts hok
  have hin : ∀ (b : Bool) (ns : List Tx) (xs : List Nd), (∀ x ∈ xs, (wr x).length ≤ 32 + 40 * size x) → Lib.lens (wrs b ns xs) ≤ 2 * ssize ns + 36 * xs.length + 40 * sizes xs := by
    intro b ns xs h
    induction xs generalizing ns with
    | nil => simp [wrs, Lib.lens]
    | cons x s ih2 =>
      have h1 := h x (by simp)
      have h2 := ih2 ns.tail fun y hy => h y (List.mem_cons_of_mem _ hy)
      have h3 := quote_len (ns.headD [])
      have h4 : (ns.headD []).length + ssize ns.tail ≤ ssize ns := by cases ns <;> simp [ssize]
      have h5 : Lib.lens (wrs b ns (x :: s)) = ((if b then quote (ns.headD []) ++ [58] else []) ++ wr x).length + Lib.lens (wrs b ns.tail s) := by simp [wrs, Lib.lens]
      rw [h5]
      simp only [sizes, List.length_cons]
      generalize ns.headD [] = nm at *
      cases b
      · simp; omega
      · simp; omega
  have hx : ∀ x ∈ xs, (wr x).length ≤ 32 + 40 * size x := fun x hx => ih x hx d (oks_get H.ins hx)
  simp only [size]
  rw [wr]
  split
  · simp [wNull]; omega
  split
  · split <;> simp [wTrue, wFalse] <;> omega
  split
  · next k3 =>
    subst k3
    have hn := H.num
    unfold numOk at hn
    rw [if_neg (by decide), if_pos rfl] at hn
    obtain ⟨hn0, hn1⟩ := of_decide_eq_true hn
    have := itoa_len hn0 hn1
    omega
  split
  · have := quote_len t; omega
  split
  · have h1 := jn_len (wrs true ns xs)
    have h2 := hin true ns xs hx
    rw [wrs_len] at h1
    simp
    omega
  · have h1 := jn_len (wrs false ns xs)
    have h2 := hin false ns xs hx
    rw [wrs_len] at h1
    simp
    omega
theorem wrs_get : ∀ (b : Bool) (ns : List Tx) (xs : List Nd) (j : Nat) (h : j < xs.length) (hn : b = true → ns.length = xs.length), (wrs b ns xs)[j]'(by rw [wrs_len]; exact h) = (if b then quote (ns.getD j []) ++ [58] else []) ++ wr xs[j]
  | b, ns, x :: s, 0, _, _ => by
    simp only [wrs, List.getElem_cons_zero]
    cases ns <;> rfl
  | b, ns, x :: s, j + 1, h, hn => by
    simp only [wrs, List.getElem_cons_succ]
    rw [wrs_get b ns.tail s j (by simpa using h) (fun e => by have := hn e; simp at *; omega)]
    cases ns with
    | nil => cases b <;> simp_all
    | cons y r => rfl
end Nd
/-- the first parts, put together -/
def joinK (l : List Tx) (k : Nat) : Tx := Lib.join (l.take k) [44]
theorem joinK_zero (l : List Tx) : joinK l 0 = [] := rfl
theorem joinK_all (l : List Tx) (k : Nat) (h : l.length ≤ k) : joinK l k = Lib.join l [44] := by unfold joinK; rw [List.take_of_length_le h]
theorem joinK_succ (l : List Tx) (k : Nat) (h : k < l.length) : joinK l (k + 1) = (if k = 0 then l[k] else joinK l k ++ (44 :: l[k])) := by
  unfold joinK
  cases l with
  | nil => simp at h
  | cons x r =>
    cases k with
    | zero => simp [Lib.join_one]
    | succ k =>
      rw [if_neg (by simp), List.take_succ_cons, List.take_succ_cons, Lib.join_cons, Lib.join_cons, Lib.joinTail_take_succ [44] r k _ (List.getElem?_eq_getElem (by simpa using h))]
      simp [List.append_assoc]
theorem joinK_len (l : List Tx) (k : Nat) : (joinK l k).length ≤ l.length + Lib.lens l := by
  have h1 := jn_len (l.take k)
  have h2 := Lib.lens_take_le l k
  have h3 : (l.take k).length ≤ l.length := by rw [List.length_take]; omega
  unfold joinK
  omega
end Go.Proofs.YtdmmnjnbjigdeaaDoor
