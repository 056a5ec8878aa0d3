/-
  NARROWER THAN 'FOR EVERY INPUT', by the rows' own cells (each row's printed sentence says how): FnExactDeskValid: loops.
  DERIVED. THE GIVEN ROWS OF THIS SEAT. 3 by the template 'for every input the law returns true; each argument reads behind the call as it read before'; 0 by the template 'total and deterministic' (their statements: YtginghjgfippiaaTotals.lean).
  GIVEN WITH THE SEED: the statements are not yours to turn. If you find one false, say at which input.
  Laid BY PROGRAM, IN A SANDBOX (cutbox-rows.mjs): the forced cells as the released guide's own fill.sh prints them over the translation 5af595efdb401007… (all of the seat's roots in one cut). By AI agents, Wed Nov 11 2026. No macro, syntax, notation, axiom, sorry.
-/
import Derived.Test.YtginghjgfippiaaChecked
import GoSem.Claim
import GoSem.ClaimJoined
import GoSem.ClaimMapViews
import Derived.JoinedTies
import Derived.KernelRfl
namespace Go.Proofs.Ytginghjgfippiaa
/- THE CELL 'sum', in the pinned program and in every row, IS THE sha256 OF THE DUMP (.gsa) THAT YtginghjgfippiaaProg.lean LOADS. Nothing in Lean hashes anything: it is a label: what it is worth is what the hold of that sum in a sandbox is worth. -/
noncomputable def Try.pinned : Pinned := { name := "ytginghjgfippiaa", sum := "5af595efdb401007456291c73f72be046fd61f5c76a024269dd627a7bc394936", checked := Try.checked }
namespace Rows
def none {H : Type} : Left H := { results := [], args := [] }

/-- 'laws.FnOutlineOf': WHATEVER THE INPUT: true; the input reads as it did. -/
def fnOutlineOfSpec : ChangeSpec := { name := "fnOutlineOf", fn := fun _ => fun
  | [d] => { results := [.lit (.bool true)], args := [d] }
  | _ => none }
def fnOutlineOfRow : OpenClaim := { program := "ytginghjgfippiaa", sum := "5af595efdb401007456291c73f72be046fd61f5c76a024269dd627a7bc394936", func := "loop.example/templateescaper/laws.FnOutlineOf", spec := "fnOutlineOf", inPlace := ["internal/bytealg.IndexByteString", "internal/bytealg.IndexString"], recurses := true, named := ["internal/bytealg.MaxLen"], apart := false }
def FnOutlineOfSaid : Prop := fnOutlineOfRow.holds Try.pinned (OpenSpec.ofChange fnOutlineOfSpec)

/-- ITS FALSE NEIGHBOUR: 'it returns false'. Refute it at one input. -/
def fnOutlineOfWrong : ChangeSpec := { name := "fnOutlineOf", fn := fun _ => fun
  | [d] => { results := [.lit (.bool false)], args := [d] }
  | _ => none }
def FnOutlineOfWrongFalsely : Prop := fnOutlineOfRow.holds Try.pinned (OpenSpec.ofChange fnOutlineOfWrong)

/-- 'laws.FnDeskValid': WHATEVER THE INPUT: true; the input reads as it did. -/
def fnDeskValidSpec : ChangeSpec := { name := "fnDeskValid", fn := fun _ => fun
  | [d] => { results := [.lit (.bool true)], args := [d] }
  | _ => none }
def fnDeskValidRow : OpenClaim := { program := "ytginghjgfippiaa", sum := "5af595efdb401007456291c73f72be046fd61f5c76a024269dd627a7bc394936", func := "loop.example/templateescaper/laws.FnDeskValid", spec := "fnDeskValid", inPlace := ["internal/bytealg.IndexByteString", "internal/bytealg.IndexString"], recurses := true, named := ["internal/bytealg.MaxLen"], apart := false }
def FnDeskValidSaid : Prop := fnDeskValidRow.holds Try.pinned (OpenSpec.ofChange fnDeskValidSpec)

/-- ITS FALSE NEIGHBOUR: 'it returns false'. Refute it at one input. -/
def fnDeskValidWrong : ChangeSpec := { name := "fnDeskValid", fn := fun _ => fun
  | [d] => { results := [.lit (.bool false)], args := [d] }
  | _ => none }
def FnDeskValidWrongFalsely : Prop := fnDeskValidRow.holds Try.pinned (OpenSpec.ofChange fnDeskValidWrong)

/-- 'laws.FnExactDeskValid': WHATEVER THE INPUT: true; the input reads as it did. -/
def fnExactDeskValidSpec : ChangeSpec := { name := "fnExactDeskValid", fn := fun _ => fun
  | [d] => { results := [.lit (.bool true)], args := [d] }
  | _ => none }
def fnExactDeskValidRow : OpenClaim := { program := "ytginghjgfippiaa", sum := "5af595efdb401007456291c73f72be046fd61f5c76a024269dd627a7bc394936", func := "loop.example/templateescaper/laws.FnExactDeskValid", spec := "fnExactDeskValid", inPlace := ["internal/bytealg.IndexByteString", "internal/bytealg.IndexString"], recurses := true, named := ["internal/bytealg.MaxLen"], loops := true, apart := false }
def FnExactDeskValidSaid : Prop := fnExactDeskValidRow.holds Try.pinned (OpenSpec.ofChange fnExactDeskValidSpec)

/-- ITS FALSE NEIGHBOUR: 'it returns false'. Refute it at one input. -/
def fnExactDeskValidWrong : ChangeSpec := { name := "fnExactDeskValid", fn := fun _ => fun
  | [d] => { results := [.lit (.bool false)], args := [d] }
  | _ => none }
def FnExactDeskValidWrongFalsely : Prop := fnExactDeskValidRow.holds Try.pinned (OpenSpec.ofChange fnExactDeskValidWrong)

/- THE SECOND FORM. 'bulk': how many values and letters a reading holds, each counted each time it is reached (what is shared counts as often as it is met; a slice's spare places count too). A statement '..UptoSaid' is the law's where the arguments, and the package variables that the reading takes, are together of bulk at most 1048576: NARROWER than '..Said'. Prove '..Said' where nothing that the law and all that it calls make is longer than what came in: it says more and counts as full. Else prove '..UptoSaid'. A law counts once. -/
mutual
def uptoBulk {H : Type} : DataW H → Nat
  | .lit (.string bytes) => bytes.length + 1
  | .lit _ => 1
  | .nil => 1
  | .ptr d => uptoBulk d + 1
  | .slice elems spare => uptoBulkAll elems + uptoBulkAll spare + 1
  | .agg parts => uptoBulkAll parts + 1
  | .iface _ d => uptoBulk d + 1
  | .map entries => uptoBulkEntries entries + 1
  | .held _ => 1
def uptoBulkAll {H : Type} : List (DataW H) → Nat
  | [] => 0
  | d :: r => uptoBulk d + uptoBulkAll r
def uptoBulkEntries {H : Type} : List (Lit × DataW H) → Nat
  | [] => 0
  | x :: r => uptoBulkEntry x + uptoBulkEntries r
def uptoBulkEntry {H : Type} : Lit × DataW H → Nat
  | (.string bytes, d) => bytes.length + uptoBulk d + 1
  | (_, d) => uptoBulk d + 1
 end
def uptoSmall : (H : Type) → List (DataW H) → Bool := fun _ ds => decide (uptoBulkAll ds ≤ 1048576)
def OpenSpec.upto (s : _root_.Go.ChangeSpec) : _root_.Go.OpenSpec := { _root_.Go.OpenSpec.ofChange s with cond := some uptoSmall }

/-- 'laws.FnOutlineOf', WHERE WHAT IT READS IS OF BULK AT MOST 1048576: true; the input reads as it did. -/
def fnOutlineOfUptoRow : OpenClaim := { program := "ytginghjgfippiaa", sum := "5af595efdb401007456291c73f72be046fd61f5c76a024269dd627a7bc394936", func := "loop.example/templateescaper/laws.FnOutlineOf", spec := "fnOutlineOf", inPlace := ["internal/bytealg.IndexByteString", "internal/bytealg.IndexString"], recurses := true, named := ["internal/bytealg.MaxLen"], apart := false, narrowed := true }
def FnOutlineOfUptoSaid : Prop := fnOutlineOfUptoRow.holds Try.pinned (OpenSpec.upto fnOutlineOfSpec)

/-- 'laws.FnDeskValid', WHERE WHAT IT READS IS OF BULK AT MOST 1048576: true; the input reads as it did. -/
def fnDeskValidUptoRow : OpenClaim := { program := "ytginghjgfippiaa", sum := "5af595efdb401007456291c73f72be046fd61f5c76a024269dd627a7bc394936", func := "loop.example/templateescaper/laws.FnDeskValid", spec := "fnDeskValid", inPlace := ["internal/bytealg.IndexByteString", "internal/bytealg.IndexString"], recurses := true, named := ["internal/bytealg.MaxLen"], apart := false, narrowed := true }
def FnDeskValidUptoSaid : Prop := fnDeskValidUptoRow.holds Try.pinned (OpenSpec.upto fnDeskValidSpec)

/-- 'laws.FnExactDeskValid', WHERE WHAT IT READS IS OF BULK AT MOST 1048576: true; the input reads as it did. -/
def fnExactDeskValidUptoRow : OpenClaim := { program := "ytginghjgfippiaa", sum := "5af595efdb401007456291c73f72be046fd61f5c76a024269dd627a7bc394936", func := "loop.example/templateescaper/laws.FnExactDeskValid", spec := "fnExactDeskValid", inPlace := ["internal/bytealg.IndexByteString", "internal/bytealg.IndexString"], recurses := true, named := ["internal/bytealg.MaxLen"], loops := true, apart := false, narrowed := true }
def FnExactDeskValidUptoSaid : Prop := fnExactDeskValidUptoRow.holds Try.pinned (OpenSpec.upto fnExactDeskValidSpec)

end Rows
end Go.Proofs.Ytginghjgfippiaa
