/- A node in a box, its names and its nodes in rows of the call's own: what stores and appends leave of it. No function of the program is walked here. -/
import Derived.Test.YtdmmnjnbjigdeaaDoorNodeDrawP
namespace Go.Proofs.YtdmmnjnbjigdeaaDoor
open Go.RowKit

structure NBx (w : World) (b base : Nat) (kd nn : Int) (tt : Tx) (An : Option Addr) (cn : Nat) (ns : List Tx) (Ai : Option Addr) (ci : Nat) (rs : List Raw) (xs : List Nd) : Prop where
  box : w.heap[b]? = some (.cells (ndCells kd nn tt An ns.length cn Ai rs.length ci) 26 (0, 0))
  nown : OwnS w base An cn ns
  iown : OwnN w base Ai ci rs
  els : Els w (fun j => base ≤ j ∧ j < w.heap.size ∧ Value.ownBlock (.slice An ns.length cn) ≠ some j ∧ Value.ownBlock (.slice Ai rs.length ci) ≠ some j) rs xs
  apart : ∀ j, Value.ownBlock (.slice An ns.length cn) = some j → Value.ownBlock (.slice Ai rs.length ci) ≠ some j
  lt : b < base
  le : base ≤ w.heap.size
section
variable {w w' : World} {b base : Nat} {kd nn : Int} {tt : Tx} {An Ai : Option Addr} {cn ci : Nat} {ns : List Tx} {rs : List Raw} {xs : List Nd}
theorem NBx.keep (h : NBx w b base kd nn tt An cn ns Ai ci rs xs) (hb : Below w.heap.size w w') : NBx w' b base kd nn tt An cn ns Ai ci rs xs :=
  ⟨bx_keep h.box hb, own_below h.nown hb, own_below h.iown hb, h.els.keep (fun _ hp => hb.cell hp.2.1) (fun _ hj => ⟨hj.1, Nat.lt_of_lt_of_le hj.2.1 hb.size, hj.2.2⟩), h.apart, h.lt, Nat.le_trans h.le hb.size⟩
theorem NBx.appI (h : NBx w b base kd nn tt An cn ns Ai ci rs xs) {A' : Option Addr} {c' : Nat} {r : Raw} {x : Nd} (ho : OwnN w' base A' c' (rs ++ [r])) (hg : w.grownBy w' (Value.ownBlock (.slice Ai rs.length ci)))
    (hbk : Value.ownBlock (.slice A' (rs.length + 1) c') = Value.ownBlock (.slice Ai rs.length ci) ∨ Value.ownBlock (.slice A' (rs.length + 1) c') = some w.heap.size)
    (hx : InN w (fun j => base ≤ j ∧ j < w.heap.size ∧ Value.ownBlock (.slice An ns.length cn) ≠ some j ∧ Value.ownBlock (.slice Ai rs.length ci) ≠ some j) x r.v) (v : Value) (hv : v = .slice A' (rs ++ [r]).length c') :
    NBx (w'.setCell ⟨b, 4, none⟩ v) b base kd nn tt An cn ns A' c' (rs ++ [r]) (xs ++ [x]) := by
  subst hv
  have h1 := h.lt; have h3 := h.le
  have hr := ownN_row h.iown
  have hn := h.nown.lt
  have hl : (rs ++ [r]).length = rs.length + 1 := by simp
  have hne : ∀ j, j < base → some j ≠ Value.ownBlock (.slice Ai rs.length ci) := fun j hj e => by have := hr _ e.symm; omega
  refine ⟨?_, offN ?_ h1, offN ho h1, ?_, ?_, h1, by have := hg.size; simp [World.setCell]; omega⟩
  · exact cells_set ((hg.block b (by omega) (hne b h1)).trans h.box)
  · exact h.nown.kept hg (by
      cases hv : Value.ownBlock (.slice An ns.length cn) with
      | none => exact .inl rfl
      | some k => exact .inr fun e => h.apart k hv e.symm)
  · refine (h.els.snoc hx).keep (fun p hp => ?_) (fun j hj => ⟨hj.1, by have := hg.size; simp [World.setCell]; omega, hj.2.2.1, ?_⟩)
    · rw [set_cellN (by have := hp.1; omega)]
      exact World.cell?_of_block (hg.block _ hp.2.1 (fun e => hp.2.2.2 e.symm))
    · rw [hl]
      rcases hbk with e | e
      · rw [e]; exact hj.2.2.2
      · rw [e]; intro e2; injection e2; omega
  · intro j hj
    rw [hl]
    rcases hbk with e | e
    · rw [e]; exact h.apart j hj
    · rw [e]; intro e2; injection e2; have := (hn j hj).2; omega
theorem NBx.boxI (h : NBx w b base kd nn tt An cn ns Ai ci rs xs) (hg : w.grownBy w' (Value.ownBlock (.slice Ai rs.length ci))) : w'.heap[b]? = some (.cells (ndCells kd nn tt An ns.length cn Ai rs.length ci) 26 (0, 0)) :=
  (hg.block b (Nat.lt_of_lt_of_le h.lt h.le) (fun e => by have := ownN_row h.iown _ e.symm; have := h.lt; omega)).trans h.box
/-- a node of later blocks may be laid beside the others -/
theorem NBx.fresh {w3 : World} {x : Nd} {v : Value} (h : NBx w b base kd nn tt An cn ns Ai ci rs xs) (hin : InN w3 (fun j => w.heap.size ≤ j ∧ j < w3.heap.size) x v) :
    InN w3 (fun j => base ≤ j ∧ j < w3.heap.size ∧ Value.ownBlock (.slice An ns.length cn) ≠ some j ∧ Value.ownBlock (.slice Ai rs.length ci) ≠ some j) x v :=
  InN.keep (fun _ _ => rfl) (fun j hj => ⟨Nat.le_trans h.le hj.1, hj.2, fun e => by have := (h.nown.lt j e).2; omega, fun e => by have := (h.iown.lt j e).2; omega⟩) _ _ hin
/-- the node, in the blocks of the rows -/
theorem NBx.node (h : NBx w b base kd nn tt An cn ns Ai ci rs xs) : InN w (fun j => base ≤ j ∧ j < w.heap.size) (.mk kd nn tt ns xs) (ndV kd nn tt An ns.length cn Ai rs.length ci) := by
  rw [h.els.1]
  refine InN.mk (ownS_rdIn h.nown fun j h2 h3 => ⟨h2, h3⟩) (ownS_cap h.nown) ?_ ?_
  · obtain ⟨A, c, e, hc, _⟩ := own_shape h.iown
    injection e with _ _ e3
    rw [← h.els.1, e3]; exact hc
  · exact (h.els.keep (fun _ _ => rfl) (fun j hj => ⟨hj.1, hj.2.1⟩)).rdN h.iown fun j hj => h.iown.lt j hj
end
end Go.Proofs.YtdmmnjnbjigdeaaDoor
