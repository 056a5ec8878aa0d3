/- What the exact laws on nodes share. -/
import Derived.Test.YtdmmnjnbjigdeaaDoorOpenN
namespace Go.Proofs.YtdmmnjnbjigdeaaDoor
open Go.RowKit

/-- a node that the region has made -/
def bNd (x : Nd) : TyB := fun w v => ∃ k n t An ln cn Ai li ci, v = ndV k n t An ln cn Ai li ci ∧ InN w (All w) x v
theorem keeps_bNd {x : Nd} : ∀ w w' v, KB w w' → bNd x w v → bNd x w' v := fun _ _ _ hk ⟨k, n, t, An, ln, cn, Ai, li, ci, e, h⟩ => ⟨k, n, t, An, ln, cn, Ai, li, ci, e, h.now hk⟩
theorem InN.all {w w' : World} {x : Nd} {v : Value} (h : InN w' (Fresh w w') x v) : InN w' (All w') x v := InN.keep (fun _ _ => rfl) (fun _ h => h.2) _ _ h
theorem nd_value {w : World} {S : Nat → Prop} {x : Nd} {v : Value} (h : InN w S x v) : ∃ k n t An ln cn Ai li ci, v = ndV k n t An ln cn Ai li ci := by
  cases x with
  | mk k n t ns xs =>
    obtain ⟨An, cn, Ai, ci, e, _⟩ := h.parts
    exact ⟨k, n, t, An, _, cn, Ai, _, ci, e⟩
end Go.Proofs.YtdmmnjnbjigdeaaDoor
