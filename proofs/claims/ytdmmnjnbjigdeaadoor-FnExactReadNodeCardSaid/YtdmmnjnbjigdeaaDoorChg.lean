/- What a call may have turned: some blocks, and what is new. No function of the program is walked here. -/
import Derived.Test.YtdmmnjnbjigdeaaDoorBase
namespace Go.Proofs.YtdmmnjnbjigdeaaDoor
open Go.RowKit

/-- what a call may have turned: the blocks L alone, and what is new -/
structure Chg (w w' : World) (L : List Nat) : Prop where
  os : w'.os = w.os
  tape : w'.tape = w.tape
  output : w'.output = w.output
  size : w.heap.size ≤ w'.heap.size
  block : ∀ k, k < w.heap.size → k ∉ L → w'.heap[k]? = w.heap[k]?
theorem Chg.refl (w : World) (L : List Nat) : Chg w w L := ⟨rfl, rfl, rfl, Nat.le_refl _, fun _ _ _ => rfl⟩
theorem Chg.trans {a b c : World} {L M : List Nat} (h : Chg a b L) (k : Chg b c M) (hM : ∀ x, x ∈ M → x ∈ L ∨ a.heap.size ≤ x) : Chg a c L :=
  ⟨k.os.trans h.os, k.tape.trans h.tape, k.output.trans h.output, Nat.le_trans h.size k.size, fun i hi hn => (k.block i (Nat.lt_of_lt_of_le hi h.size) (fun e => by rcases hM i e with e | e; exact hn e; omega)).trans (h.block i hi hn)⟩
theorem Chg.of_below {w w' : World} (h : Below w.heap.size w w') (L : List Nat) : Chg w w' L := ⟨h.os, h.tape, h.output, h.size, fun k hk _ => h.block k hk⟩
theorem Chg.below {w w' : World} {L : List Nat} {B : Nat} (h : Chg w w' L) (hB : B ≤ w.heap.size) (hL : ∀ b, b ∈ L → B ≤ b) : Below B w w' :=
  ⟨h.os, h.tape, h.output, h.size, fun k hk => h.block k (by omega) (fun e => by have := hL k e; omega)⟩
theorem Chg.of_grown {w w' : World} {r : Option Nat} (h : w.grownBy w' r) {L : List Nat} (hr : ∀ g, r = some g → g ∈ L) : Chg w w' L :=
  ⟨h.os, h.tape, h.output, h.size, fun k hk hn => h.block k hk (fun e => hn (hr k e.symm))⟩
theorem Chg.setCell {w : World} {p : Addr} {u : Value} {L : List Nat} (h : p.block ∈ L) : Chg w (w.setCell p u) L :=
  ⟨rfl, rfl, rfl, by simp [World.setCell], fun k _ hn => Below.heap_setCell _ _ _ _ (fun e => hn (by rw [e]; exact h))⟩
theorem Chg.alloc {w0 w : World} {L : List Nat} (h : Chg w0 w L) (o : Obj) : Chg w0 (w.alloc o) L := h.trans (Chg.of_below ((Below.refl _ _).alloc (Nat.le_refl _) o) []) (fun x hx => by cases hx)
theorem Chg.drew {w0 w : World} {L : List Nat} (h : Chg w0 w L) : Chg w0 w.drew L := ⟨h.os, h.tape, h.output, h.size, h.block⟩
theorem Chg.cell {w w' : World} {L : List Nat} (h : Chg w w' L) {p : Addr} (hp : p.block < w.heap.size) (hn : p.block ∉ L) : w'.cell? p = w.cell? p := World.cell?_of_block (h.block _ hp hn)
end Go.Proofs.YtdmmnjnbjigdeaaDoor
