/- Parts and fields: boxes of cells: no walk. -/
import Derived.Test.YtginghjgfippiaaPartP
import Derived.Deep.QuietTactic
import Derived.BigQuiet
namespace Go.Proofs.Ytginghjgfippiaa
open Go.RowKit

theorem box_five {w : World} {b : Nat} {c0 c1 c2 c3 c4 : Value} {t : TypeId} (h : w.heap[b]? = some (.cells #[c0, c1, c2, c3, c4] t (0, 0))) :
    (w.cell? ⟨b, 0, none⟩ = some c0 ∧ w.cell? ⟨b, 1, none⟩ = some c1 ∧ w.cell? ⟨b, 2, none⟩ = some c2 ∧ w.cell? ⟨b, 3, none⟩ = some c3 ∧ w.cell? ⟨b, 4, none⟩ = some c4) ∧ (w.frozen? ⟨b, 0, none⟩ = false ∧ w.frozen? ⟨b, 1, none⟩ = false ∧ w.frozen? ⟨b, 2, none⟩ = false ∧ w.frozen? ⟨b, 3, none⟩ = false ∧ w.frozen? ⟨b, 4, none⟩ = false) := by
  simp [World.cell?, World.frozen?, h]
theorem bx_keep {w w' : World} {b : Nat} {o : Obj} (h : w.heap[b]? = some o) (hb : Below w.heap.size w w') : w'.heap[b]? = some o := by
  refine (hb.block b ?_).trans h
  rcases Nat.lt_or_ge b w.heap.size with h1 | h1
  · exact h1
  · rw [Array.getElem?_eq_none h1] at h; cases h
/-- two boxes, one after the other -/
theorem two_boxes (w : World) (cs ds : Array Value) (t u : TypeId) : Below w.heap.size w ((w.alloc (.cells cs t)).alloc (.cells ds u)) ∧ ((w.alloc (.cells cs t)).alloc (.cells ds u)).heap[w.heap.size]? = some (.cells cs t (0, 0)) ∧ ((w.alloc (.cells cs t)).alloc (.cells ds u)).heap[w.heap.size + 1]? = some (.cells ds u (0, 0)) := by
  have h := heap_alloc_new (w.alloc (.cells cs t)) (.cells ds u)
  rw [show (w.alloc (.cells cs t)).heap.size = w.heap.size + 1 by simp] at h
  exact ⟨Below.alloc (Below.alloc (Below.refl _ _) (Nat.le_refl _) _) (by simp) _, (heap_alloc_old (w.alloc (.cells cs t)) _ (by simp)).trans (heap_alloc_new w _), h⟩

theorem box_fourF {w : World} {b : Nat} {c0 c1 c2 c3 : Value} {t : TypeId} (h : w.heap[b]? = some (.cells #[c0, c1, c2, c3] t (0, 0))) :
    (w.cell? ⟨b, 0, none⟩ = some c0 ∧ w.cell? ⟨b, 1, none⟩ = some c1 ∧ w.cell? ⟨b, 2, none⟩ = some c2 ∧ w.cell? ⟨b, 3, none⟩ = some c3) ∧ (w.frozen? ⟨b, 0, none⟩ = false ∧ w.frozen? ⟨b, 1, none⟩ = false ∧ w.frozen? ⟨b, 2, none⟩ = false ∧ w.frozen? ⟨b, 3, none⟩ = false) := by
  simp [World.cell?, World.frozen?, h]
theorem box_twoD {w : World} {b : Nat} {c0 c1 : Value} {t : TypeId} (h : w.heap[b]? = some (.cells #[c0, c1] t (0, 0))) :
    (w.cell? ⟨b, 0, none⟩ = some c0 ∧ w.cell? ⟨b, 1, none⟩ = some c1) ∧ (w.frozen? ⟨b, 0, none⟩ = false ∧ w.frozen? ⟨b, 1, none⟩ = false) := by
  simp [World.cell?, World.frozen?, h]
theorem psames_len : ∀ {xs ys : List Pt}, xs.length ≠ ys.length → Pt.sames xs ys = false
  | [], [], h => absurd rfl h
  | [], _ :: _, _ => by simp [Pt.sames]
  | _ :: _, [], _ => by simp [Pt.sames]
  | x :: t, y :: s, h => by rw [Pt.sames, psames_len (by simpa using h), Bool.and_false]
theorem psames_step {xs ys : List Pt} {k : Nat} {r : Bool} (h : Pt.sames (xs.drop k) (ys.drop k) = r) (hx : k < xs.length) (hy : k < ys.length) : (Pt.same xs[k] ys[k] && Pt.sames (xs.drop (k + 1)) (ys.drop (k + 1))) = r := by
  rw [drop_cons xs k hx, drop_cons ys k hy, Pt.sames] at h
  exact h
theorem psames_end {xs ys : List Pt} {k : Nat} {r : Bool} (h : Pt.sames (xs.drop k) (ys.drop k) = r) (hx : ¬ k < xs.length) (hl : xs.length = ys.length) : true = r := by
  rw [drop_nil xs k (by omega), drop_nil ys k (by omega), Pt.sames] at h
  exact h
theorem fsames_len : ∀ {xs ys : List Fd}, xs.length ≠ ys.length → Fd.sames xs ys = false
  | [], [], h => absurd rfl h
  | [], _ :: _, _ => by simp [Fd.sames]
  | _ :: _, [], _ => by simp [Fd.sames]
  | x :: t, y :: s, h => by rw [Fd.sames, fsames_len (by simpa using h), Bool.and_false]
theorem fsames_step {xs ys : List Fd} {k : Nat} {r : Bool} (h : Fd.sames (xs.drop k) (ys.drop k) = r) (hx : k < xs.length) (hy : k < ys.length) : (Fd.same xs[k] ys[k] && Fd.sames (xs.drop (k + 1)) (ys.drop (k + 1))) = r := by
  rw [drop_cons xs k hx, drop_cons ys k hy, Fd.sames] at h
  exact h
theorem fsames_end {xs ys : List Fd} {k : Nat} {r : Bool} (h : Fd.sames (xs.drop k) (ys.drop k) = r) (hx : ¬ k < xs.length) (hl : xs.length = ys.length) : true = r := by
  rw [drop_nil xs k (by omega), drop_nil ys k (by omega), Fd.sames] at h
  exact h
/-- what is left of a budget, or -1 -/
def szLeft (l : Int) (n : Nat) : Int := if (n : Int) ≤ l then l - n else -1
theorem szLeft_pos {l : Int} {n : Nat} (h : (n : Int) ≤ l) : szLeft l n = l - n := if_pos h
theorem szLeft_neg {l : Int} {n : Nat} (h : ¬ (n : Int) ≤ l) : szLeft l n = -1 := if_neg h
end Go.Proofs.Ytginghjgfippiaa
