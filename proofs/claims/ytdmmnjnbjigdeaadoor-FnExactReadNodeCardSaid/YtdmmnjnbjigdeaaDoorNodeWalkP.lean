/- Nodes: boxes of five cells, names compared: walks. -/
import Derived.Test.YtdmmnjnbjigdeaaDoorNodeP
import Derived.Test.YtdmmnjnbjigdeaaDoorShelf
import Derived.Deep.QuietTactic
import Derived.BigQuiet
namespace Go.Proofs.YtdmmnjnbjigdeaaDoor
open Go.RowKit

theorem box_five {w : World} {b : Nat} {c0 c1 c2 c3 c4 : Value} {t : TypeId} (h : w.heap[b]? = some (.cells #[c0, c1, c2, c3, c4] t (0, 0))) :
    (w.cell? ⟨b, 0, none⟩ = some c0 ∧ w.cell? ⟨b, 1, none⟩ = some c1 ∧ w.cell? ⟨b, 2, none⟩ = some c2 ∧ w.cell? ⟨b, 3, none⟩ = some c3 ∧ w.cell? ⟨b, 4, none⟩ = some c4) ∧ (w.frozen? ⟨b, 0, none⟩ = false ∧ w.frozen? ⟨b, 1, none⟩ = false ∧ w.frozen? ⟨b, 2, none⟩ = false ∧ w.frozen? ⟨b, 3, none⟩ = false ∧ w.frozen? ⟨b, 4, none⟩ = false) := by
  simp [World.cell?, World.frozen?, h]
theorem bx_keep {w w' : World} {b : Nat} {o : Obj} (h : w.heap[b]? = some o) (hb : Below w.heap.size w w') : w'.heap[b]? = some o := by
  refine (hb.block b ?_).trans h
  rcases Nat.lt_or_ge b w.heap.size with h1 | h1
  · exact h1
  · rw [Array.getElem?_eq_none h1] at h; cases h
/-- two boxes, one after the other -/
theorem two_boxes (w : World) (cs ds : Array Value) (t u : TypeId) : Below w.heap.size w ((w.alloc (.cells cs t)).alloc (.cells ds u)) ∧ ((w.alloc (.cells cs t)).alloc (.cells ds u)).heap[w.heap.size]? = some (.cells cs t (0, 0)) ∧ ((w.alloc (.cells cs t)).alloc (.cells ds u)).heap[w.heap.size + 1]? = some (.cells ds u (0, 0)) := by
  have h := heap_alloc_new (w.alloc (.cells cs t)) (.cells ds u)
  rw [show (w.alloc (.cells cs t)).heap.size = w.heap.size + 1 by simp] at h
  exact ⟨Below.alloc (Below.alloc (Below.refl _ _) (Nat.le_refl _) _) (by simp) _, (heap_alloc_old (w.alloc (.cells cs t)) _ (by simp)).trans (heap_alloc_new w _), h⟩

/-- the cells of texts, as the shelf names them -/
theorem tx_cells {w : World} {b o : Nat} {xs : List Tx} (h : ∀ j u, (scells xs)[j]? = some u → w.cell? ⟨b, o + j, none⟩ = some u) :
    ∀ j, j < (xs.map fun x => (⟨x.toArray⟩ : ByteArray)).length → w.cell? ⟨b, o + j, none⟩ = some (.string ((xs.map fun x => (⟨x.toArray⟩ : ByteArray)).getD j ByteArray.empty)) := by
  intro j hj
  rw [List.length_map] at hj
  refine h j _ ?_
  simp [scells, hj]
theorem eq_maps (xs ys : List Tx) : ((xs.map fun x => (⟨x.toArray⟩ : ByteArray)) = (ys.map fun x => (⟨x.toArray⟩ : ByteArray))) ↔ xs = ys := by
  constructor
  · intro h
    have := congrArg (List.map fun x : ByteArray => x.data.toList) h
    simpa [List.map_map, Function.comp_def] using this
  · intro h; rw [h]
end Go.Proofs.YtdmmnjnbjigdeaaDoor
