/-
  No cell of these rows narrows 'for every input' (looked for: loops, veiled, ifaces, maps, wideKeys, modest, calm, conditions, laid).
  DERIVED. THE GIVEN ROWS OF THIS SEAT. 5 by the template 'for every input the law returns true; each argument reads behind the call as it read before'; 0 by the template 'total and deterministic' (their statements: YtfglcckcaoihoaaTotals.lean).
  GIVEN WITH THE SEED: the statements are not yours to turn. If you find one false, say at which input.
  Laid BY PROGRAM, IN A SANDBOX (cutbox-rows.mjs): the forced cells as the released guide's own fill.sh prints them over the translation 59a5b3e49cb2b72f… (all of the seat's roots in one cut). By AI agents, Wed Nov 11 2026. No macro, syntax, notation, axiom, sorry.
-/
import Derived.Test.YtfglcckcaoihoaaChecked
import GoSem.Claim
import GoSem.ClaimJoined
import GoSem.ClaimMapViews
import Derived.JoinedTies
import Derived.KernelRfl
namespace Go.Proofs.Ytfglcckcaoihoaa
/- THE CELL 'sum', in the pinned program and in every row, IS THE sha256 OF THE DUMP (.gsa) THAT YtfglcckcaoihoaaProg.lean LOADS. Nothing in Lean hashes anything: it is a label: what it is worth is what the hold of that sum in a sandbox is worth. -/
noncomputable def Try.pinned : Pinned := { name := "ytfglcckcaoihoaa", sum := "59a5b3e49cb2b72f1620daf6361b423434476f34b367aad3a8253e2c59149494", checked := Try.checked }
namespace Rows
def none {H : Type} : Left H := { results := [], args := [] }

/-- 'laws.FnAskedValid': WHATEVER THE INPUT: true; the input reads as it did. -/
def fnAskedValidSpec : ChangeSpec := { name := "fnAskedValid", fn := fun _ => fun
  | [d] => { results := [.lit (.bool true)], args := [d] }
  | _ => none }
def fnAskedValidRow : OpenClaim := { program := "ytfglcckcaoihoaa", sum := "59a5b3e49cb2b72f1620daf6361b423434476f34b367aad3a8253e2c59149494", func := "loop.example/templateescaper/laws.FnAskedValid", spec := "fnAskedValid", apart := false }
def FnAskedValidSaid : Prop := fnAskedValidRow.holds Try.pinned (OpenSpec.ofChange fnAskedValidSpec)

/-- ITS FALSE NEIGHBOUR: 'it returns false'. Refute it at one input. -/
def fnAskedValidWrong : ChangeSpec := { name := "fnAskedValid", fn := fun _ => fun
  | [d] => { results := [.lit (.bool false)], args := [d] }
  | _ => none }
def FnAskedValidWrongFalsely : Prop := fnAskedValidRow.holds Try.pinned (OpenSpec.ofChange fnAskedValidWrong)

/-- 'laws.FnExactAskedValid': WHATEVER THE INPUT: true; the input reads as it did. -/
def fnExactAskedValidSpec : ChangeSpec := { name := "fnExactAskedValid", fn := fun _ => fun
  | [d] => { results := [.lit (.bool true)], args := [d] }
  | _ => none }
def fnExactAskedValidRow : OpenClaim := { program := "ytfglcckcaoihoaa", sum := "59a5b3e49cb2b72f1620daf6361b423434476f34b367aad3a8253e2c59149494", func := "loop.example/templateescaper/laws.FnExactAskedValid", spec := "fnExactAskedValid", apart := false }
def FnExactAskedValidSaid : Prop := fnExactAskedValidRow.holds Try.pinned (OpenSpec.ofChange fnExactAskedValidSpec)

/-- ITS FALSE NEIGHBOUR: 'it returns false'. Refute it at one input. -/
def fnExactAskedValidWrong : ChangeSpec := { name := "fnExactAskedValid", fn := fun _ => fun
  | [d] => { results := [.lit (.bool false)], args := [d] }
  | _ => none }
def FnExactAskedValidWrongFalsely : Prop := fnExactAskedValidRow.holds Try.pinned (OpenSpec.ofChange fnExactAskedValidWrong)

/-- 'laws.FnSetAsked': WHATEVER THE INPUT: true; the input reads as it did. -/
def fnSetAskedSpec : ChangeSpec := { name := "fnSetAsked", fn := fun _ => fun
  | [d] => { results := [.lit (.bool true)], args := [d] }
  | _ => none }
def fnSetAskedRow : OpenClaim := { program := "ytfglcckcaoihoaa", sum := "59a5b3e49cb2b72f1620daf6361b423434476f34b367aad3a8253e2c59149494", func := "loop.example/templateescaper/laws.FnSetAsked", spec := "fnSetAsked", apart := false }
def FnSetAskedSaid : Prop := fnSetAskedRow.holds Try.pinned (OpenSpec.ofChange fnSetAskedSpec)

/-- ITS FALSE NEIGHBOUR: 'it returns false'. Refute it at one input. -/
def fnSetAskedWrong : ChangeSpec := { name := "fnSetAsked", fn := fun _ => fun
  | [d] => { results := [.lit (.bool false)], args := [d] }
  | _ => none }
def FnSetAskedWrongFalsely : Prop := fnSetAskedRow.holds Try.pinned (OpenSpec.ofChange fnSetAskedWrong)

/-- 'laws.FnExactSetAsked': WHATEVER THE INPUT: true; the input reads as it did. -/
def fnExactSetAskedSpec : ChangeSpec := { name := "fnExactSetAsked", fn := fun _ => fun
  | [d1, d2, d3] => { results := [.lit (.bool true)], args := [d1, d2, d3] }
  | _ => none }
def fnExactSetAskedRow : OpenClaim := { program := "ytfglcckcaoihoaa", sum := "59a5b3e49cb2b72f1620daf6361b423434476f34b367aad3a8253e2c59149494", func := "loop.example/templateescaper/laws.FnExactSetAsked", spec := "fnExactSetAsked", apart := false }
def FnExactSetAskedSaid : Prop := fnExactSetAskedRow.holds Try.pinned (OpenSpec.ofChange fnExactSetAskedSpec)

/-- ITS FALSE NEIGHBOUR: 'it returns false'. Refute it at one input. -/
def fnExactSetAskedWrong : ChangeSpec := { name := "fnExactSetAsked", fn := fun _ => fun
  | [d1, d2, d3] => { results := [.lit (.bool false)], args := [d1, d2, d3] }
  | _ => none }
def FnExactSetAskedWrongFalsely : Prop := fnExactSetAskedRow.holds Try.pinned (OpenSpec.ofChange fnExactSetAskedWrong)

/-- 'laws.FnExactAskedText': WHATEVER THE INPUT: true; the input reads as it did. -/
def fnExactAskedTextSpec : ChangeSpec := { name := "fnExactAskedText", fn := fun _ => fun
  | [d] => { results := [.lit (.bool true)], args := [d] }
  | _ => none }
def fnExactAskedTextRow : OpenClaim := { program := "ytfglcckcaoihoaa", sum := "59a5b3e49cb2b72f1620daf6361b423434476f34b367aad3a8253e2c59149494", func := "loop.example/templateescaper/laws.FnExactAskedText", spec := "fnExactAskedText", inPlace := ["internal/abi.NoEscape", "internal/bytealg.MakeNoZero"], apart := false }
def FnExactAskedTextSaid : Prop := fnExactAskedTextRow.holds Try.pinned (OpenSpec.ofChange fnExactAskedTextSpec)

/-- ITS FALSE NEIGHBOUR: 'it returns false'. Refute it at one input. -/
def fnExactAskedTextWrong : ChangeSpec := { name := "fnExactAskedText", fn := fun _ => fun
  | [d] => { results := [.lit (.bool false)], args := [d] }
  | _ => none }
def FnExactAskedTextWrongFalsely : Prop := fnExactAskedTextRow.holds Try.pinned (OpenSpec.ofChange fnExactAskedTextWrong)

/- THE SECOND FORM. 'bulk': how many values and letters a reading holds, each counted each time it is reached (what is shared counts as often as it is met; a slice's spare places count too). A statement '..UptoSaid' is the law's where the arguments, and the package variables that the reading takes, are together of bulk at most 1048576: NARROWER than '..Said'. Prove '..Said' where nothing that the law and all that it calls make is longer than what came in: it says more and counts as full. Else prove '..UptoSaid'. A law counts once. -/
mutual
def uptoBulk {H : Type} : DataW H → Nat
  | .lit (.string bytes) => bytes.length + 1
  | .lit _ => 1
  | .nil => 1
  | .ptr d => uptoBulk d + 1
  | .slice elems spare => uptoBulkAll elems + uptoBulkAll spare + 1
  | .agg parts => uptoBulkAll parts + 1
  | .iface _ d => uptoBulk d + 1
  | .map entries => uptoBulkEntries entries + 1
  | .held _ => 1
def uptoBulkAll {H : Type} : List (DataW H) → Nat
  | [] => 0
  | d :: r => uptoBulk d + uptoBulkAll r
def uptoBulkEntries {H : Type} : List (Lit × DataW H) → Nat
  | [] => 0
  | x :: r => uptoBulkEntry x + uptoBulkEntries r
def uptoBulkEntry {H : Type} : Lit × DataW H → Nat
  | (.string bytes, d) => bytes.length + uptoBulk d + 1
  | (_, d) => uptoBulk d + 1
 end
def uptoSmall : (H : Type) → List (DataW H) → Bool := fun _ ds => decide (uptoBulkAll ds ≤ 1048576)
def OpenSpec.upto (s : _root_.Go.ChangeSpec) : _root_.Go.OpenSpec := { _root_.Go.OpenSpec.ofChange s with cond := some uptoSmall }

/-- 'laws.FnAskedValid', WHERE WHAT IT READS IS OF BULK AT MOST 1048576: true; the input reads as it did. -/
def fnAskedValidUptoRow : OpenClaim := { program := "ytfglcckcaoihoaa", sum := "59a5b3e49cb2b72f1620daf6361b423434476f34b367aad3a8253e2c59149494", func := "loop.example/templateescaper/laws.FnAskedValid", spec := "fnAskedValid", apart := false, narrowed := true }
def FnAskedValidUptoSaid : Prop := fnAskedValidUptoRow.holds Try.pinned (OpenSpec.upto fnAskedValidSpec)

/-- 'laws.FnExactAskedValid', WHERE WHAT IT READS IS OF BULK AT MOST 1048576: true; the input reads as it did. -/
def fnExactAskedValidUptoRow : OpenClaim := { program := "ytfglcckcaoihoaa", sum := "59a5b3e49cb2b72f1620daf6361b423434476f34b367aad3a8253e2c59149494", func := "loop.example/templateescaper/laws.FnExactAskedValid", spec := "fnExactAskedValid", apart := false, narrowed := true }
def FnExactAskedValidUptoSaid : Prop := fnExactAskedValidUptoRow.holds Try.pinned (OpenSpec.upto fnExactAskedValidSpec)

/-- 'laws.FnSetAsked', WHERE WHAT IT READS IS OF BULK AT MOST 1048576: true; the input reads as it did. -/
def fnSetAskedUptoRow : OpenClaim := { program := "ytfglcckcaoihoaa", sum := "59a5b3e49cb2b72f1620daf6361b423434476f34b367aad3a8253e2c59149494", func := "loop.example/templateescaper/laws.FnSetAsked", spec := "fnSetAsked", apart := false, narrowed := true }
def FnSetAskedUptoSaid : Prop := fnSetAskedUptoRow.holds Try.pinned (OpenSpec.upto fnSetAskedSpec)

/-- 'laws.FnExactSetAsked', WHERE WHAT IT READS IS OF BULK AT MOST 1048576: true; the input reads as it did. -/
def fnExactSetAskedUptoRow : OpenClaim := { program := "ytfglcckcaoihoaa", sum := "59a5b3e49cb2b72f1620daf6361b423434476f34b367aad3a8253e2c59149494", func := "loop.example/templateescaper/laws.FnExactSetAsked", spec := "fnExactSetAsked", apart := false, narrowed := true }
def FnExactSetAskedUptoSaid : Prop := fnExactSetAskedUptoRow.holds Try.pinned (OpenSpec.upto fnExactSetAskedSpec)

/-- 'laws.FnExactAskedText', WHERE WHAT IT READS IS OF BULK AT MOST 1048576: true; the input reads as it did. -/
def fnExactAskedTextUptoRow : OpenClaim := { program := "ytfglcckcaoihoaa", sum := "59a5b3e49cb2b72f1620daf6361b423434476f34b367aad3a8253e2c59149494", func := "loop.example/templateescaper/laws.FnExactAskedText", spec := "fnExactAskedText", inPlace := ["internal/abi.NoEscape", "internal/bytealg.MakeNoZero"], apart := false, narrowed := true }
def FnExactAskedTextUptoSaid : Prop := fnExactAskedTextUptoRow.holds Try.pinned (OpenSpec.upto fnExactAskedTextSpec)

end Rows
end Go.Proofs.Ytfglcckcaoihoaa
