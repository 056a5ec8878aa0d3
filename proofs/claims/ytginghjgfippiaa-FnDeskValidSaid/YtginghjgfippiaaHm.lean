/- The cell of the library's own variable that Split and ReplaceAll read. -/
import Derived.Test.YtginghjgfippiaaBase
import Derived.Test.YtginghjgfippiaaShelf
namespace Go.Proofs.Ytginghjgfippiaa
open Go.RowKit

/-- the cell of the library's own variable that Split and ReplaceAll read -/
def Hm (w : World) : Prop := ∃ m : Int, w.cell? ⟨0, 0, none⟩ = some (.int .i64 m)
theorem Hm.pos {w : World} (h : Hm w) : 0 < w.heap.size := by
  obtain ⟨m, h⟩ := h
  rcases Nat.lt_or_ge 0 w.heap.size with h0 | h0
  · exact h0
  · have : w.heap[(0 : Nat)]? = none := Array.getElem?_eq_none h0
    simp [World.cell?, this] at h
theorem Hm.below {w w' : World} (h : Hm w) (hb : Below w.heap.size w w') : Hm w' := by
  have hp := h.pos
  obtain ⟨m, h⟩ := h
  exact ⟨m, (hb.cell (p := ⟨0, 0, none⟩) hp).trans h⟩
theorem Hm.grown {w w' : World} {row : Option Nat} (h : Hm w) (hg : w.grownBy w' row) (hr : row ≠ some 0) : Hm w' := by
  have hp := h.pos
  obtain ⟨m, h⟩ := h
  exact ⟨m, (World.cell?_of_block (hg.block 0 hp (Ne.symm hr))).trans h⟩
theorem hm_shaped {w : World} (h : w.ShapedOpen Try.prog) : Hm w := Try.laysM219.s1_3 w h
end Go.Proofs.Ytginghjgfippiaa
