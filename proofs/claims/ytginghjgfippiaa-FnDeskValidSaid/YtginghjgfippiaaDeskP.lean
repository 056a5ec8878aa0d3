/- Desks: what they are. -/
import Derived.Test.YtginghjgfippiaaPartV
import Derived.Test.YtginghjgfippiaaFieldV
namespace Go.Proofs.Ytginghjgfippiaa
open Go.RowKit

/-- a desk -/
structure Dk where
  parts : List Pt
  data : List Fd
namespace Dk
def size (d : Dk) : Nat := (d.parts.length + Pt.sizes d.parts) + (d.data.length + Fd.sizes d.data)
def valid (d : Dk) : Bool := Pt.valid d.parts && Fd.valid d.data
def Fit (d : Dk) : Prop := Pt.Fits d.parts ∧ d.parts.length ≤ maxLen ∧ (∀ x ∈ d.data, Fd.Fit x) ∧ d.data.length ≤ maxLen
end Dk
abbrev dkV (Ap : Option Addr) (lp cp : Nat) (Ad : Option Addr) (ld cd : Nat) : Value := .agg #[.slice Ap lp cp, .slice Ad ld cd]
abbrev dkCells (Ap : Option Addr) (lp cp : Nat) (Ad : Option Addr) (ld cd : Nat) : Array Value := #[.slice Ap lp cp, .slice Ad ld cd]
/-- the value is the desk -/
def InD (w : World) (S : Nat → Prop) (d : Dk) (v : Value) : Prop := ∃ Ap cp Ad cd, v = dkV Ap d.parts.length cp Ad d.data.length cd ∧ RdP w S Ap d.parts ∧ d.parts.length ≤ cp ∧ RdF w S Ad d.data ∧ d.data.length ≤ cd
theorem InD.keep {w w' : World} {S S' : Nat → Prop} (hk : ∀ p : Addr, S p.block → w'.cell? p = w.cell? p) (hS : ∀ b, S b → S' b) (x : Dk) (v : Value) (h : InD w S x v) : InD w' S' x v := by
  obtain ⟨Ap, cp, Ad, cd, e, h1, h2, h3, h4⟩ := h
  exact ⟨Ap, cp, Ad, cd, e, h1.keep hk hS, h2, h3.keep hk hS, h4⟩
theorem InD.now {w w' : World} {x : Dk} {v : Value} (h : InD w (All w) x v) (hb : Below w.heap.size w w') : InD w' (All w') x v := InD.keep (fun _ hp => hb.cell hp) (fun _ h => Nat.lt_of_lt_of_le h hb.size) x v h
end Go.Proofs.Ytginghjgfippiaa
