/- Regions that draw their order and make memory of their own: the typed rule under Below. No function of the program is walked here. -/
import Derived.Test.YtginghjgfippiaaTyped
import Derived.OneCell
namespace Go.Proofs.Ytginghjgfippiaa
open Go Go.RowKit

abbrev TyB := World → Value → Prop
def KB (w w' : World) : Prop := Below w.heap.size w w'
/-- a value that is known -/
def bIs (v0 : Value) : TyB := fun _ v => v = v0
def bAny : TyB := fun _ _ => True
/-- a box of cells that the call has made since the block B -/
def bBox (B : Nat) (cs : Array Value) (t : TypeId) : TyB := fun w v => ∃ b, v = .pointer (some ⟨b, 0, none⟩) ∧ B ≤ b ∧ w.heap[b]? = some (.cells cs t (0, 0))
theorem keeps_bIs {v : Value} : ∀ w w' x, KB w w' → bIs v w x → bIs v w' x := fun _ _ _ _ h => h
theorem keeps_bAny : ∀ w w' x, KB w w' → bAny w x → bAny w' x := fun _ _ _ _ h => h
theorem keeps_bBox {B : Nat} {cs : Array Value} {t : TypeId} : ∀ w w' x, KB w w' → bBox B cs t w x → bBox B cs t w' x := fun _ _ _ hk ⟨b, h1, h2, h3⟩ => ⟨b, h1, h2, (hk.block b (lt_of_block h3)).trans h3⟩
/-- a row of n elements that the call has made since the block B -/
def bRow (B n : Nat) (cs : Array Value) (t : TypeId) : TyB := fun w v => ∃ b, v = .slice (some ⟨b, 0, none⟩) n n ∧ B ≤ b ∧ w.heap[b]? = some (.cells cs t (0, 0))
theorem keeps_bRow {B n : Nat} {cs : Array Value} {t : TypeId} : ∀ w w' x, KB w w' → bRow B n cs t w x → bRow B n cs t w' x := fun _ _ _ hk ⟨b, h1, h2, h3⟩ => ⟨b, h1, h2, (hk.block b (lt_of_block h3)).trans h3⟩
theorem box_two {w : World} {b : Nat} {x y : Value} {t : TypeId} (h : w.heap[b]? = some (.cells #[x, y] t (0, 0))) : w.cell? ⟨b, 0, none⟩ = some x ∧ w.cell? ⟨b, 1, none⟩ = some y ∧ w.frozen? ⟨b, 0, none⟩ = false ∧ w.frozen? ⟨b, 1, none⟩ = false := by
  simp [World.cell?, World.frozen?, h]
theorem cells_set {w : World} {b o : Nat} {cs : Array Value} {t : TypeId} {u : Value} (h : w.heap[b]? = some (.cells cs t (0, 0))) : (w.setCell ⟨b, o, none⟩ u).heap[b]? = some (.cells (cs.setIfInBounds o u) t (0, 0)) := by
  simp [World.setCell, Array.getElem?_modify, h]
theorem box_set {w : World} {b : Nat} {x y u v : Value} {t : TypeId} (h : w.heap[b]? = some (.cells #[x, y] t (0, 0))) : ((w.setCell ⟨b, 0, none⟩ u).setCell ⟨b, 1, none⟩ v).heap[b]? = some (.cells #[u, v] t (0, 0)) :=
  cells_set (cells_set h)
theorem slotB {a : Array Value} {d : Nat} {v : Value} (h : a.getD d undef = v) : a[d]?.getD undef = v := by
  rw [← h]; simp
theorem kb_refl (w : World) : KB w w := Below.refl _ _
end Go.Proofs.Ytginghjgfippiaa
