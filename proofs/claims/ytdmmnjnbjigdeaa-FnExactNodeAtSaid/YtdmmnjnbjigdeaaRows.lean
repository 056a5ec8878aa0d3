/-
  NARROWER THAN 'FOR EVERY INPUT', by the rows' own cells (each row's printed sentence says how): FnExactSameNode: loops · FnExactNodeValid: loops · FnExactNodeAt: loops.
  DERIVED. THE GIVEN ROWS OF THIS SEAT. 5 by the template 'for every input the law returns true; each argument reads behind the call as it read before'; 0 by the template 'total and deterministic' (their statements: YtdmmnjnbjigdeaaTotals.lean).
  GIVEN WITH THE SEED: the statements are not yours to turn. If you find one false, say at which input.
  Laid BY PROGRAM, IN A SANDBOX (cutbox-rows.mjs): the forced cells as the released guide's own fill.sh prints them over the translation 68b083def7a51df5… (all of the seat's roots in one cut). By AI agents, Wed Nov 11 2026. No macro, syntax, notation, axiom, sorry.
-/
import Derived.Test.YtdmmnjnbjigdeaaChecked
import GoSem.Claim
import GoSem.ClaimJoined
import GoSem.ClaimMapViews
import Derived.JoinedTies
import Derived.KernelRfl
namespace Go.Proofs.Ytdmmnjnbjigdeaa
/- THE CELL 'sum', in the pinned program and in every row, IS THE sha256 OF THE DUMP (.gsa) THAT YtdmmnjnbjigdeaaProg.lean LOADS. Nothing in Lean hashes anything: it is a label: what it is worth is what the hold of that sum in a sandbox is worth. -/
noncomputable def Try.pinned : Pinned := { name := "ytdmmnjnbjigdeaa", sum := "68b083def7a51df5cbd611a055071b5391ca0d71ea47479dce82c5708b256684", checked := Try.checked }
namespace Rows
def none {H : Type} : Left H := { results := [], args := [] }

/-- 'laws.FnExactSameNode': WHATEVER THE INPUT: true; the input reads as it did. -/
def fnExactSameNodeSpec : ChangeSpec := { name := "fnExactSameNode", fn := fun _ => fun
  | [d1, d2] => { results := [.lit (.bool true)], args := [d1, d2] }
  | _ => none }
def fnExactSameNodeRow : OpenClaim := { program := "ytdmmnjnbjigdeaa", sum := "68b083def7a51df5cbd611a055071b5391ca0d71ea47479dce82c5708b256684", func := "loop.example/templateescaper/laws.FnExactSameNode", spec := "fnExactSameNode", recurses := true, loops := true, apart := false }
def FnExactSameNodeSaid : Prop := fnExactSameNodeRow.holds Try.pinned (OpenSpec.ofChange fnExactSameNodeSpec)

/-- ITS FALSE NEIGHBOUR: 'it returns false'. Refute it at one input. -/
def fnExactSameNodeWrong : ChangeSpec := { name := "fnExactSameNode", fn := fun _ => fun
  | [d1, d2] => { results := [.lit (.bool false)], args := [d1, d2] }
  | _ => none }
def FnExactSameNodeWrongFalsely : Prop := fnExactSameNodeRow.holds Try.pinned (OpenSpec.ofChange fnExactSameNodeWrong)

/-- 'laws.FnNodeValid': WHATEVER THE INPUT: true; the input reads as it did. -/
def fnNodeValidSpec : ChangeSpec := { name := "fnNodeValid", fn := fun _ => fun
  | [d] => { results := [.lit (.bool true)], args := [d] }
  | _ => none }
def fnNodeValidRow : OpenClaim := { program := "ytdmmnjnbjigdeaa", sum := "68b083def7a51df5cbd611a055071b5391ca0d71ea47479dce82c5708b256684", func := "loop.example/templateescaper/laws.FnNodeValid", spec := "fnNodeValid", recurses := true, apart := false }
def FnNodeValidSaid : Prop := fnNodeValidRow.holds Try.pinned (OpenSpec.ofChange fnNodeValidSpec)

/-- ITS FALSE NEIGHBOUR: 'it returns false'. Refute it at one input. -/
def fnNodeValidWrong : ChangeSpec := { name := "fnNodeValid", fn := fun _ => fun
  | [d] => { results := [.lit (.bool false)], args := [d] }
  | _ => none }
def FnNodeValidWrongFalsely : Prop := fnNodeValidRow.holds Try.pinned (OpenSpec.ofChange fnNodeValidWrong)

/-- 'laws.FnExactNodeValid': WHATEVER THE INPUT: true; the input reads as it did. -/
def fnExactNodeValidSpec : ChangeSpec := { name := "fnExactNodeValid", fn := fun _ => fun
  | [d] => { results := [.lit (.bool true)], args := [d] }
  | _ => none }
def fnExactNodeValidRow : OpenClaim := { program := "ytdmmnjnbjigdeaa", sum := "68b083def7a51df5cbd611a055071b5391ca0d71ea47479dce82c5708b256684", func := "loop.example/templateescaper/laws.FnExactNodeValid", spec := "fnExactNodeValid", recurses := true, loops := true, apart := false }
def FnExactNodeValidSaid : Prop := fnExactNodeValidRow.holds Try.pinned (OpenSpec.ofChange fnExactNodeValidSpec)

/-- ITS FALSE NEIGHBOUR: 'it returns false'. Refute it at one input. -/
def fnExactNodeValidWrong : ChangeSpec := { name := "fnExactNodeValid", fn := fun _ => fun
  | [d] => { results := [.lit (.bool false)], args := [d] }
  | _ => none }
def FnExactNodeValidWrongFalsely : Prop := fnExactNodeValidRow.holds Try.pinned (OpenSpec.ofChange fnExactNodeValidWrong)

/-- 'laws.FnNodeAt': WHATEVER THE INPUT: true; the input reads as it did. -/
def fnNodeAtSpec : ChangeSpec := { name := "fnNodeAt", fn := fun _ => fun
  | [d] => { results := [.lit (.bool true)], args := [d] }
  | _ => none }
def fnNodeAtRow : OpenClaim := { program := "ytdmmnjnbjigdeaa", sum := "68b083def7a51df5cbd611a055071b5391ca0d71ea47479dce82c5708b256684", func := "loop.example/templateescaper/laws.FnNodeAt", spec := "fnNodeAt", recurses := true, apart := false }
def FnNodeAtSaid : Prop := fnNodeAtRow.holds Try.pinned (OpenSpec.ofChange fnNodeAtSpec)

/-- ITS FALSE NEIGHBOUR: 'it returns false'. Refute it at one input. -/
def fnNodeAtWrong : ChangeSpec := { name := "fnNodeAt", fn := fun _ => fun
  | [d] => { results := [.lit (.bool false)], args := [d] }
  | _ => none }
def FnNodeAtWrongFalsely : Prop := fnNodeAtRow.holds Try.pinned (OpenSpec.ofChange fnNodeAtWrong)

/-- 'laws.FnExactNodeAt': WHATEVER THE INPUT: true; the input reads as it did. -/
def fnExactNodeAtSpec : ChangeSpec := { name := "fnExactNodeAt", fn := fun _ => fun
  | [d1, d2] => { results := [.lit (.bool true)], args := [d1, d2] }
  | _ => none }
def fnExactNodeAtRow : OpenClaim := { program := "ytdmmnjnbjigdeaa", sum := "68b083def7a51df5cbd611a055071b5391ca0d71ea47479dce82c5708b256684", func := "loop.example/templateescaper/laws.FnExactNodeAt", spec := "fnExactNodeAt", recurses := true, loops := true, apart := false }
def FnExactNodeAtSaid : Prop := fnExactNodeAtRow.holds Try.pinned (OpenSpec.ofChange fnExactNodeAtSpec)

/-- ITS FALSE NEIGHBOUR: 'it returns false'. Refute it at one input. -/
def fnExactNodeAtWrong : ChangeSpec := { name := "fnExactNodeAt", fn := fun _ => fun
  | [d1, d2] => { results := [.lit (.bool false)], args := [d1, d2] }
  | _ => none }
def FnExactNodeAtWrongFalsely : Prop := fnExactNodeAtRow.holds Try.pinned (OpenSpec.ofChange fnExactNodeAtWrong)

/- THE SECOND FORM. 'bulk': how many values and letters a reading holds, each counted each time it is reached (what is shared counts as often as it is met; a slice's spare places count too). A statement '..UptoSaid' is the law's where the arguments, and the package variables that the reading takes, are together of bulk at most 1048576: NARROWER than '..Said'. Prove '..Said' where nothing that the law and all that it calls make is longer than what came in: it says more and counts as full. Else prove '..UptoSaid'. A law counts once. -/
mutual
def uptoBulk {H : Type} : DataW H → Nat
  | .lit (.string bytes) => bytes.length + 1
  | .lit _ => 1
  | .nil => 1
  | .ptr d => uptoBulk d + 1
  | .slice elems spare => uptoBulkAll elems + uptoBulkAll spare + 1
  | .agg parts => uptoBulkAll parts + 1
  | .iface _ d => uptoBulk d + 1
  | .map entries => uptoBulkEntries entries + 1
  | .held _ => 1
def uptoBulkAll {H : Type} : List (DataW H) → Nat
  | [] => 0
  | d :: r => uptoBulk d + uptoBulkAll r
def uptoBulkEntries {H : Type} : List (Lit × DataW H) → Nat
  | [] => 0
  | x :: r => uptoBulkEntry x + uptoBulkEntries r
def uptoBulkEntry {H : Type} : Lit × DataW H → Nat
  | (.string bytes, d) => bytes.length + uptoBulk d + 1
  | (_, d) => uptoBulk d + 1
 end
def uptoSmall : (H : Type) → List (DataW H) → Bool := fun _ ds => decide (uptoBulkAll ds ≤ 1048576)
def OpenSpec.upto (s : _root_.Go.ChangeSpec) : _root_.Go.OpenSpec := { _root_.Go.OpenSpec.ofChange s with cond := some uptoSmall }

/-- 'laws.FnExactSameNode', WHERE WHAT IT READS IS OF BULK AT MOST 1048576: true; the input reads as it did. -/
def fnExactSameNodeUptoRow : OpenClaim := { program := "ytdmmnjnbjigdeaa", sum := "68b083def7a51df5cbd611a055071b5391ca0d71ea47479dce82c5708b256684", func := "loop.example/templateescaper/laws.FnExactSameNode", spec := "fnExactSameNode", recurses := true, loops := true, apart := false, narrowed := true }
def FnExactSameNodeUptoSaid : Prop := fnExactSameNodeUptoRow.holds Try.pinned (OpenSpec.upto fnExactSameNodeSpec)

/-- 'laws.FnNodeValid', WHERE WHAT IT READS IS OF BULK AT MOST 1048576: true; the input reads as it did. -/
def fnNodeValidUptoRow : OpenClaim := { program := "ytdmmnjnbjigdeaa", sum := "68b083def7a51df5cbd611a055071b5391ca0d71ea47479dce82c5708b256684", func := "loop.example/templateescaper/laws.FnNodeValid", spec := "fnNodeValid", recurses := true, apart := false, narrowed := true }
def FnNodeValidUptoSaid : Prop := fnNodeValidUptoRow.holds Try.pinned (OpenSpec.upto fnNodeValidSpec)

/-- 'laws.FnExactNodeValid', WHERE WHAT IT READS IS OF BULK AT MOST 1048576: true; the input reads as it did. -/
def fnExactNodeValidUptoRow : OpenClaim := { program := "ytdmmnjnbjigdeaa", sum := "68b083def7a51df5cbd611a055071b5391ca0d71ea47479dce82c5708b256684", func := "loop.example/templateescaper/laws.FnExactNodeValid", spec := "fnExactNodeValid", recurses := true, loops := true, apart := false, narrowed := true }
def FnExactNodeValidUptoSaid : Prop := fnExactNodeValidUptoRow.holds Try.pinned (OpenSpec.upto fnExactNodeValidSpec)

/-- 'laws.FnNodeAt', WHERE WHAT IT READS IS OF BULK AT MOST 1048576: true; the input reads as it did. -/
def fnNodeAtUptoRow : OpenClaim := { program := "ytdmmnjnbjigdeaa", sum := "68b083def7a51df5cbd611a055071b5391ca0d71ea47479dce82c5708b256684", func := "loop.example/templateescaper/laws.FnNodeAt", spec := "fnNodeAt", recurses := true, apart := false, narrowed := true }
def FnNodeAtUptoSaid : Prop := fnNodeAtUptoRow.holds Try.pinned (OpenSpec.upto fnNodeAtSpec)

/-- 'laws.FnExactNodeAt', WHERE WHAT IT READS IS OF BULK AT MOST 1048576: true; the input reads as it did. -/
def fnExactNodeAtUptoRow : OpenClaim := { program := "ytdmmnjnbjigdeaa", sum := "68b083def7a51df5cbd611a055071b5391ca0d71ea47479dce82c5708b256684", func := "loop.example/templateescaper/laws.FnExactNodeAt", spec := "fnExactNodeAt", recurses := true, loops := true, apart := false, narrowed := true }
def FnExactNodeAtUptoSaid : Prop := fnExactNodeAtUptoRow.holds Try.pinned (OpenSpec.upto fnExactNodeAtSpec)

end Rows
end Go.Proofs.Ytdmmnjnbjigdeaa
