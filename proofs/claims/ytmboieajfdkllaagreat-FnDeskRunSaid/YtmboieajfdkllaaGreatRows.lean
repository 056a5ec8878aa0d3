/-
  NARROWER THAN 'FOR EVERY INPUT', by the rows' own cells (each row's printed sentence says how): FnExactDeskLine: loops · FnExactDeskRun: loops.
  DERIVED. THE GIVEN ROWS OF THIS SEAT. 5 by the template 'for every input the law returns true; each argument reads behind the call as it read before'; 0 by the template 'total and deterministic' (their statements: YtmboieajfdkllaaGreatTotals.lean).
  GIVEN WITH THE SEED: the statements are not yours to turn. If you find one false, say at which input.
  Laid BY PROGRAM, IN A SANDBOX (cutbox-rows.mjs): the forced cells as the released guide's own fill.sh prints them over the translation 6c9c01433836c78d… (all of the seat's roots in one cut). By AI agents, Wed Nov 11 2026. No macro, syntax, notation, axiom, sorry.
-/
import Derived.Test.YtmboieajfdkllaaGreatChecked
import GoSem.Claim
import GoSem.ClaimJoined
import GoSem.ClaimMapViews
import Derived.JoinedTies
import Derived.KernelRfl
namespace Go.Proofs.YtmboieajfdkllaaGreat
/- THE CELL 'sum', in the pinned program and in every row, IS THE sha256 OF THE DUMP (.gsa) THAT YtmboieajfdkllaaGreatProg.lean LOADS. Nothing in Lean hashes anything: it is a label: what it is worth is what the hold of that sum in a sandbox is worth. -/
noncomputable def Tryz.pinned : Pinned := { name := "ytmboieajfdkllaagreat", sum := "6c9c01433836c78d2e6ac52ed22394bab6c9065746d19a04b58b5ea8da352f9f", checked := Tryz.checked }
namespace Rows
def none {H : Type} : Left H := { results := [], args := [] }

/-- 'laws.FnExactDeskLine': WHATEVER THE INPUT: true; the input reads as it did. -/
def fnExactDeskLineSpec : ChangeSpec := { name := "fnExactDeskLine", fn := fun _ => fun
  | [d1, d2] => { results := [.lit (.bool true)], args := [d1, d2] }
  | _ => none }
def fnExactDeskLineRow : OpenClaim := { program := "ytmboieajfdkllaagreat", sum := "6c9c01433836c78d2e6ac52ed22394bab6c9065746d19a04b58b5ea8da352f9f", func := "loop.example/templateescaper/laws.FnExactDeskLine", spec := "fnExactDeskLine", inPlace := ["internal/bytealg.IndexByteString", "internal/bytealg.IndexString", "internal/abi.NoEscape"], unfollowed := true, recurses := true, named := ["internal/bytealg.MaxLen"], loops := true, apart := false }
def FnExactDeskLineSaid : Prop := fnExactDeskLineRow.holds Tryz.pinned (OpenSpec.ofChange fnExactDeskLineSpec)

/-- ITS FALSE NEIGHBOUR: 'it returns false'. Refute it at one input. -/
def fnExactDeskLineWrong : ChangeSpec := { name := "fnExactDeskLine", fn := fun _ => fun
  | [d1, d2] => { results := [.lit (.bool false)], args := [d1, d2] }
  | _ => none }
def FnExactDeskLineWrongFalsely : Prop := fnExactDeskLineRow.holds Tryz.pinned (OpenSpec.ofChange fnExactDeskLineWrong)

/-- 'laws.FnExactDeskRun': WHATEVER THE INPUT: true; the input reads as it did. -/
def fnExactDeskRunSpec : ChangeSpec := { name := "fnExactDeskRun", fn := fun _ => fun
  | [d1, d2] => { results := [.lit (.bool true)], args := [d1, d2] }
  | _ => none }
def fnExactDeskRunRow : OpenClaim := { program := "ytmboieajfdkllaagreat", sum := "6c9c01433836c78d2e6ac52ed22394bab6c9065746d19a04b58b5ea8da352f9f", func := "loop.example/templateescaper/laws.FnExactDeskRun", spec := "fnExactDeskRun", inPlace := ["internal/bytealg.IndexByteString", "internal/bytealg.IndexString", "internal/abi.NoEscape"], unfollowed := true, recurses := true, named := ["internal/bytealg.MaxLen"], loops := true, apart := false }
def FnExactDeskRunSaid : Prop := fnExactDeskRunRow.holds Tryz.pinned (OpenSpec.ofChange fnExactDeskRunSpec)

/-- ITS FALSE NEIGHBOUR: 'it returns false'. Refute it at one input. -/
def fnExactDeskRunWrong : ChangeSpec := { name := "fnExactDeskRun", fn := fun _ => fun
  | [d1, d2] => { results := [.lit (.bool false)], args := [d1, d2] }
  | _ => none }
def FnExactDeskRunWrongFalsely : Prop := fnExactDeskRunRow.holds Tryz.pinned (OpenSpec.ofChange fnExactDeskRunWrong)

/-- 'laws.FnDeskRun': WHATEVER THE INPUT: true; the input reads as it did. -/
def fnDeskRunSpec : ChangeSpec := { name := "fnDeskRun", fn := fun _ => fun
  | [d] => { results := [.lit (.bool true)], args := [d] }
  | _ => none }
def fnDeskRunRow : OpenClaim := { program := "ytmboieajfdkllaagreat", sum := "6c9c01433836c78d2e6ac52ed22394bab6c9065746d19a04b58b5ea8da352f9f", func := "loop.example/templateescaper/laws.FnDeskRun", spec := "fnDeskRun", inPlace := ["internal/bytealg.IndexByteString", "internal/bytealg.IndexString", "internal/abi.NoEscape"], unfollowed := true, recurses := true, named := ["internal/bytealg.MaxLen"], apart := false }
def FnDeskRunSaid : Prop := fnDeskRunRow.holds Tryz.pinned (OpenSpec.ofChange fnDeskRunSpec)

/-- ITS FALSE NEIGHBOUR: 'it returns false'. Refute it at one input. -/
def fnDeskRunWrong : ChangeSpec := { name := "fnDeskRun", fn := fun _ => fun
  | [d] => { results := [.lit (.bool false)], args := [d] }
  | _ => none }
def FnDeskRunWrongFalsely : Prop := fnDeskRunRow.holds Tryz.pinned (OpenSpec.ofChange fnDeskRunWrong)

/-- 'laws.FnDeskFill': WHATEVER THE INPUT: true; the input reads as it did. -/
def fnDeskFillSpec : ChangeSpec := { name := "fnDeskFill", fn := fun _ => fun
  | [d] => { results := [.lit (.bool true)], args := [d] }
  | _ => none }
def fnDeskFillRow : OpenClaim := { program := "ytmboieajfdkllaagreat", sum := "6c9c01433836c78d2e6ac52ed22394bab6c9065746d19a04b58b5ea8da352f9f", func := "loop.example/templateescaper/laws.FnDeskFill", spec := "fnDeskFill", inPlace := ["internal/bytealg.IndexByteString", "internal/bytealg.IndexString", "internal/abi.NoEscape"], unfollowed := true, recurses := true, named := ["internal/bytealg.MaxLen"], apart := false }
def FnDeskFillSaid : Prop := fnDeskFillRow.holds Tryz.pinned (OpenSpec.ofChange fnDeskFillSpec)

/-- ITS FALSE NEIGHBOUR: 'it returns false'. Refute it at one input. -/
def fnDeskFillWrong : ChangeSpec := { name := "fnDeskFill", fn := fun _ => fun
  | [d] => { results := [.lit (.bool false)], args := [d] }
  | _ => none }
def FnDeskFillWrongFalsely : Prop := fnDeskFillRow.holds Tryz.pinned (OpenSpec.ofChange fnDeskFillWrong)

/-- 'laws.FnDeskLine': WHATEVER THE INPUT: true; the input reads as it did. -/
def fnDeskLineSpec : ChangeSpec := { name := "fnDeskLine", fn := fun _ => fun
  | [d] => { results := [.lit (.bool true)], args := [d] }
  | _ => none }
def fnDeskLineRow : OpenClaim := { program := "ytmboieajfdkllaagreat", sum := "6c9c01433836c78d2e6ac52ed22394bab6c9065746d19a04b58b5ea8da352f9f", func := "loop.example/templateescaper/laws.FnDeskLine", spec := "fnDeskLine", inPlace := ["internal/bytealg.IndexByteString", "internal/bytealg.IndexString", "internal/abi.NoEscape"], unfollowed := true, recurses := true, named := ["internal/bytealg.MaxLen"], apart := false }
def FnDeskLineSaid : Prop := fnDeskLineRow.holds Tryz.pinned (OpenSpec.ofChange fnDeskLineSpec)

/-- ITS FALSE NEIGHBOUR: 'it returns false'. Refute it at one input. -/
def fnDeskLineWrong : ChangeSpec := { name := "fnDeskLine", fn := fun _ => fun
  | [d] => { results := [.lit (.bool false)], args := [d] }
  | _ => none }
def FnDeskLineWrongFalsely : Prop := fnDeskLineRow.holds Tryz.pinned (OpenSpec.ofChange fnDeskLineWrong)

/- THE SECOND FORM. 'bulk': how many values and letters a reading holds, each counted each time it is reached (what is shared counts as often as it is met; a slice's spare places count too). A statement '..UptoSaid' is the law's where the arguments, and the package variables that the reading takes, are together of bulk at most 1048576: NARROWER than '..Said'. Prove '..Said' where nothing that the law and all that it calls make is longer than what came in: it says more and counts as full. Else prove '..UptoSaid'. A law counts once. -/
mutual
def uptoBulk {H : Type} : DataW H → Nat
  | .lit (.string bytes) => bytes.length + 1
  | .lit _ => 1
  | .nil => 1
  | .ptr d => uptoBulk d + 1
  | .slice elems spare => uptoBulkAll elems + uptoBulkAll spare + 1
  | .agg parts => uptoBulkAll parts + 1
  | .iface _ d => uptoBulk d + 1
  | .map entries => uptoBulkEntries entries + 1
  | .held _ => 1
def uptoBulkAll {H : Type} : List (DataW H) → Nat
  | [] => 0
  | d :: r => uptoBulk d + uptoBulkAll r
def uptoBulkEntries {H : Type} : List (Lit × DataW H) → Nat
  | [] => 0
  | x :: r => uptoBulkEntry x + uptoBulkEntries r
def uptoBulkEntry {H : Type} : Lit × DataW H → Nat
  | (.string bytes, d) => bytes.length + uptoBulk d + 1
  | (_, d) => uptoBulk d + 1
 end
def uptoSmall : (H : Type) → List (DataW H) → Bool := fun _ ds => decide (uptoBulkAll ds ≤ 1048576)
def OpenSpec.upto (s : _root_.Go.ChangeSpec) : _root_.Go.OpenSpec := { _root_.Go.OpenSpec.ofChange s with cond := some uptoSmall }

/-- 'laws.FnExactDeskLine', WHERE WHAT IT READS IS OF BULK AT MOST 1048576: true; the input reads as it did. -/
def fnExactDeskLineUptoRow : OpenClaim := { program := "ytmboieajfdkllaagreat", sum := "6c9c01433836c78d2e6ac52ed22394bab6c9065746d19a04b58b5ea8da352f9f", func := "loop.example/templateescaper/laws.FnExactDeskLine", spec := "fnExactDeskLine", inPlace := ["internal/bytealg.IndexByteString", "internal/bytealg.IndexString", "internal/abi.NoEscape"], unfollowed := true, recurses := true, named := ["internal/bytealg.MaxLen"], loops := true, apart := false, narrowed := true }
def FnExactDeskLineUptoSaid : Prop := fnExactDeskLineUptoRow.holds Tryz.pinned (OpenSpec.upto fnExactDeskLineSpec)

/-- 'laws.FnExactDeskRun', WHERE WHAT IT READS IS OF BULK AT MOST 1048576: true; the input reads as it did. -/
def fnExactDeskRunUptoRow : OpenClaim := { program := "ytmboieajfdkllaagreat", sum := "6c9c01433836c78d2e6ac52ed22394bab6c9065746d19a04b58b5ea8da352f9f", func := "loop.example/templateescaper/laws.FnExactDeskRun", spec := "fnExactDeskRun", inPlace := ["internal/bytealg.IndexByteString", "internal/bytealg.IndexString", "internal/abi.NoEscape"], unfollowed := true, recurses := true, named := ["internal/bytealg.MaxLen"], loops := true, apart := false, narrowed := true }
def FnExactDeskRunUptoSaid : Prop := fnExactDeskRunUptoRow.holds Tryz.pinned (OpenSpec.upto fnExactDeskRunSpec)

/-- 'laws.FnDeskRun', WHERE WHAT IT READS IS OF BULK AT MOST 1048576: true; the input reads as it did. -/
def fnDeskRunUptoRow : OpenClaim := { program := "ytmboieajfdkllaagreat", sum := "6c9c01433836c78d2e6ac52ed22394bab6c9065746d19a04b58b5ea8da352f9f", func := "loop.example/templateescaper/laws.FnDeskRun", spec := "fnDeskRun", inPlace := ["internal/bytealg.IndexByteString", "internal/bytealg.IndexString", "internal/abi.NoEscape"], unfollowed := true, recurses := true, named := ["internal/bytealg.MaxLen"], apart := false, narrowed := true }
def FnDeskRunUptoSaid : Prop := fnDeskRunUptoRow.holds Tryz.pinned (OpenSpec.upto fnDeskRunSpec)

/-- 'laws.FnDeskFill', WHERE WHAT IT READS IS OF BULK AT MOST 1048576: true; the input reads as it did. -/
def fnDeskFillUptoRow : OpenClaim := { program := "ytmboieajfdkllaagreat", sum := "6c9c01433836c78d2e6ac52ed22394bab6c9065746d19a04b58b5ea8da352f9f", func := "loop.example/templateescaper/laws.FnDeskFill", spec := "fnDeskFill", inPlace := ["internal/bytealg.IndexByteString", "internal/bytealg.IndexString", "internal/abi.NoEscape"], unfollowed := true, recurses := true, named := ["internal/bytealg.MaxLen"], apart := false, narrowed := true }
def FnDeskFillUptoSaid : Prop := fnDeskFillUptoRow.holds Tryz.pinned (OpenSpec.upto fnDeskFillSpec)

/-- 'laws.FnDeskLine', WHERE WHAT IT READS IS OF BULK AT MOST 1048576: true; the input reads as it did. -/
def fnDeskLineUptoRow : OpenClaim := { program := "ytmboieajfdkllaagreat", sum := "6c9c01433836c78d2e6ac52ed22394bab6c9065746d19a04b58b5ea8da352f9f", func := "loop.example/templateescaper/laws.FnDeskLine", spec := "fnDeskLine", inPlace := ["internal/bytealg.IndexByteString", "internal/bytealg.IndexString", "internal/abi.NoEscape"], unfollowed := true, recurses := true, named := ["internal/bytealg.MaxLen"], apart := false, narrowed := true }
def FnDeskLineUptoSaid : Prop := fnDeskLineUptoRow.holds Tryz.pinned (OpenSpec.upto fnDeskLineSpec)

end Rows
end Go.Proofs.YtmboieajfdkllaaGreat
