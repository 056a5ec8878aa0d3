/-
  NARROWER THAN 'FOR EVERY INPUT', by the rows' own cells (each row's printed sentence says how): FnHeadsValid: laid · FnExactHeadsValid: laid · FnExactHeadsLines: laid · FnHeadsLines: laid · FnExactReadHeads: laid · FnReadHeads: laid.
  DERIVED. THE GIVEN ROWS OF THIS SEAT. 6 by the template 'for every input the law returns true; each argument reads behind the call as it read before'; 0 by the template 'total and deterministic' (their statements: YtaipignkkbknfaaDoorTotals.lean).
  GIVEN WITH THE SEED: the statements are not yours to turn. If you find one false, say at which input.
  Laid BY PROGRAM, IN A SANDBOX (cutbox-rows.mjs): the forced cells as the released guide's own fill.sh prints them over the translation fd395c8afce48944… (all of the seat's roots in one cut). By AI agents, Wed Nov 11 2026. No macro, syntax, notation, axiom, sorry.
-/
import Derived.Test.YtaipignkkbknfaaDoorChecked
import GoSem.PinnedTables
import GoSem.Claim
import GoSem.ClaimJoined
import GoSem.ClaimMapViews
import Derived.JoinedTies
import Derived.KernelRfl
namespace Go.Proofs.YtaipignkkbknfaaDoor
/- THE CELL 'sum', in the pinned program and in every row, IS THE sha256 OF THE DUMP (.gsa) THAT YtaipignkkbknfaaDoorProg.lean LOADS. Nothing in Lean hashes anything: it is a label: what it is worth is what the hold of that sum in a sandbox is worth. -/
noncomputable def Tryd.pinned : Pinned := { name := "ytaipignkkbknfaadoor", sum := "fd395c8afce4894416cf67753cbcf480c015f6cd12e639f4e3864f59e1e8bd78", checked := Tryd.checked }
namespace Rows
def none {H : Type} : Left H := { results := [], args := [] }

/- WHAT THE LISTED PACKAGE-LEVEL VARIABLES READ AS WHEN THE CALL BEGINS. Each datum BY PROGRAM (the guide's laid-datum.mjs) off the statement by which the dump's own 'gosem.cut.vars' lays the variable. In a bare row this is a premise. The card (YtaipignkkbknfaaDoorCards.lean) ties it to the program's text. -/
def laid_unicode_utf8_acceptRanges {H : Type} : DataW H := .agg [.agg [.lit (.int .u8 128), .lit (.int .u8 191)], .agg [.lit (.int .u8 160), .lit (.int .u8 191)], .agg [.lit (.int .u8 128), .lit (.int .u8 159)], .agg [.lit (.int .u8 144), .lit (.int .u8 191)], .agg [.lit (.int .u8 128), .lit (.int .u8 143)], .agg [.lit (.int .u8 0), .lit (.int .u8 0)], .agg [.lit (.int .u8 0), .lit (.int .u8 0)], .agg [.lit (.int .u8 0), .lit (.int .u8 0)], .agg [.lit (.int .u8 0), .lit (.int .u8 0)], .agg [.lit (.int .u8 0), .lit (.int .u8 0)], .agg [.lit (.int .u8 0), .lit (.int .u8 0)], .agg [.lit (.int .u8 0), .lit (.int .u8 0)], .agg [.lit (.int .u8 0), .lit (.int .u8 0)], .agg [.lit (.int .u8 0), .lit (.int .u8 0)], .agg [.lit (.int .u8 0), .lit (.int .u8 0)], .agg [.lit (.int .u8 0), .lit (.int .u8 0)]]
/-- One of Go's own tables, pinned by name: the form's constant. -/
def laid_unicode_utf8_first : DataW Unit := Go.Pinned.utf8First

/-- 'laws.FnHeadsValid': WHATEVER THE INPUT: true; the input reads as it did. -/
def fnHeadsValidSpec : ChangeSpec := { name := "fnHeadsValid", fn := fun _ => fun
  | [d] => { results := [.lit (.bool true)], args := [d] }
  | _ => none }
def fnHeadsValidRow : OpenClaim := { program := "ytaipignkkbknfaadoor", sum := "fd395c8afce4894416cf67753cbcf480c015f6cd12e639f4e3864f59e1e8bd78", func := "loop.example/templateescaper/laws.FnHeadsValid", spec := "fnHeadsValid", inPlace := ["internal/bytealg.IndexByteString", "internal/bytealg.IndexString"], named := ["unicode/utf8.first", "unicode/utf8.acceptRanges", "internal/bytealg.MaxLen"], apart := false, laid := [("unicode/utf8.acceptRanges", laid_unicode_utf8_acceptRanges), ("unicode/utf8.first", laid_unicode_utf8_first)] }
def FnHeadsValidSaid : Prop := fnHeadsValidRow.holds Tryd.pinned (OpenSpec.ofChange fnHeadsValidSpec)

/-- ITS FALSE NEIGHBOUR: 'it returns false'. Refute it at one input. -/
def fnHeadsValidWrong : ChangeSpec := { name := "fnHeadsValid", fn := fun _ => fun
  | [d] => { results := [.lit (.bool false)], args := [d] }
  | _ => none }
def FnHeadsValidWrongFalsely : Prop := fnHeadsValidRow.holds Tryd.pinned (OpenSpec.ofChange fnHeadsValidWrong)

/-- 'laws.FnExactHeadsValid': WHATEVER THE INPUT: true; the input reads as it did. -/
def fnExactHeadsValidSpec : ChangeSpec := { name := "fnExactHeadsValid", fn := fun _ => fun
  | [d] => { results := [.lit (.bool true)], args := [d] }
  | _ => none }
def fnExactHeadsValidRow : OpenClaim := { program := "ytaipignkkbknfaadoor", sum := "fd395c8afce4894416cf67753cbcf480c015f6cd12e639f4e3864f59e1e8bd78", func := "loop.example/templateescaper/laws.FnExactHeadsValid", spec := "fnExactHeadsValid", inPlace := ["internal/bytealg.IndexByteString", "internal/bytealg.IndexString"], named := ["unicode/utf8.first", "unicode/utf8.acceptRanges", "internal/bytealg.MaxLen"], apart := false, laid := [("unicode/utf8.acceptRanges", laid_unicode_utf8_acceptRanges), ("unicode/utf8.first", laid_unicode_utf8_first)] }
def FnExactHeadsValidSaid : Prop := fnExactHeadsValidRow.holds Tryd.pinned (OpenSpec.ofChange fnExactHeadsValidSpec)

/-- ITS FALSE NEIGHBOUR: 'it returns false'. Refute it at one input. -/
def fnExactHeadsValidWrong : ChangeSpec := { name := "fnExactHeadsValid", fn := fun _ => fun
  | [d] => { results := [.lit (.bool false)], args := [d] }
  | _ => none }
def FnExactHeadsValidWrongFalsely : Prop := fnExactHeadsValidRow.holds Tryd.pinned (OpenSpec.ofChange fnExactHeadsValidWrong)

/-- 'laws.FnExactHeadsLines': WHATEVER THE INPUT: true; the input reads as it did. -/
def fnExactHeadsLinesSpec : ChangeSpec := { name := "fnExactHeadsLines", fn := fun _ => fun
  | [d] => { results := [.lit (.bool true)], args := [d] }
  | _ => none }
def fnExactHeadsLinesRow : OpenClaim := { program := "ytaipignkkbknfaadoor", sum := "fd395c8afce4894416cf67753cbcf480c015f6cd12e639f4e3864f59e1e8bd78", func := "loop.example/templateescaper/laws.FnExactHeadsLines", spec := "fnExactHeadsLines", inPlace := ["internal/bytealg.IndexByteString", "internal/bytealg.IndexString"], named := ["unicode/utf8.first", "unicode/utf8.acceptRanges", "internal/bytealg.MaxLen"], apart := false, laid := [("unicode/utf8.acceptRanges", laid_unicode_utf8_acceptRanges), ("unicode/utf8.first", laid_unicode_utf8_first)] }
def FnExactHeadsLinesSaid : Prop := fnExactHeadsLinesRow.holds Tryd.pinned (OpenSpec.ofChange fnExactHeadsLinesSpec)

/-- ITS FALSE NEIGHBOUR: 'it returns false'. Refute it at one input. -/
def fnExactHeadsLinesWrong : ChangeSpec := { name := "fnExactHeadsLines", fn := fun _ => fun
  | [d] => { results := [.lit (.bool false)], args := [d] }
  | _ => none }
def FnExactHeadsLinesWrongFalsely : Prop := fnExactHeadsLinesRow.holds Tryd.pinned (OpenSpec.ofChange fnExactHeadsLinesWrong)

/-- 'laws.FnHeadsLines': WHATEVER THE INPUT: true; the input reads as it did. -/
def fnHeadsLinesSpec : ChangeSpec := { name := "fnHeadsLines", fn := fun _ => fun
  | [d] => { results := [.lit (.bool true)], args := [d] }
  | _ => none }
def fnHeadsLinesRow : OpenClaim := { program := "ytaipignkkbknfaadoor", sum := "fd395c8afce4894416cf67753cbcf480c015f6cd12e639f4e3864f59e1e8bd78", func := "loop.example/templateescaper/laws.FnHeadsLines", spec := "fnHeadsLines", inPlace := ["internal/bytealg.IndexByteString", "internal/bytealg.IndexString"], named := ["unicode/utf8.first", "unicode/utf8.acceptRanges", "internal/bytealg.MaxLen"], apart := false, laid := [("unicode/utf8.acceptRanges", laid_unicode_utf8_acceptRanges), ("unicode/utf8.first", laid_unicode_utf8_first)] }
def FnHeadsLinesSaid : Prop := fnHeadsLinesRow.holds Tryd.pinned (OpenSpec.ofChange fnHeadsLinesSpec)

/-- ITS FALSE NEIGHBOUR: 'it returns false'. Refute it at one input. -/
def fnHeadsLinesWrong : ChangeSpec := { name := "fnHeadsLines", fn := fun _ => fun
  | [d] => { results := [.lit (.bool false)], args := [d] }
  | _ => none }
def FnHeadsLinesWrongFalsely : Prop := fnHeadsLinesRow.holds Tryd.pinned (OpenSpec.ofChange fnHeadsLinesWrong)

/-- 'laws.FnExactReadHeads': WHATEVER THE INPUT: true; the input reads as it did. -/
def fnExactReadHeadsSpec : ChangeSpec := { name := "fnExactReadHeads", fn := fun _ => fun
  | [d] => { results := [.lit (.bool true)], args := [d] }
  | _ => none }
def fnExactReadHeadsRow : OpenClaim := { program := "ytaipignkkbknfaadoor", sum := "fd395c8afce4894416cf67753cbcf480c015f6cd12e639f4e3864f59e1e8bd78", func := "loop.example/templateescaper/laws.FnExactReadHeads", spec := "fnExactReadHeads", inPlace := ["internal/bytealg.IndexByteString", "internal/bytealg.IndexString"], named := ["internal/bytealg.MaxLen", "unicode/utf8.first", "unicode/utf8.acceptRanges"], apart := false, laid := [("unicode/utf8.acceptRanges", laid_unicode_utf8_acceptRanges), ("unicode/utf8.first", laid_unicode_utf8_first)] }
def FnExactReadHeadsSaid : Prop := fnExactReadHeadsRow.holds Tryd.pinned (OpenSpec.ofChange fnExactReadHeadsSpec)

/-- ITS FALSE NEIGHBOUR: 'it returns false'. Refute it at one input. -/
def fnExactReadHeadsWrong : ChangeSpec := { name := "fnExactReadHeads", fn := fun _ => fun
  | [d] => { results := [.lit (.bool false)], args := [d] }
  | _ => none }
def FnExactReadHeadsWrongFalsely : Prop := fnExactReadHeadsRow.holds Tryd.pinned (OpenSpec.ofChange fnExactReadHeadsWrong)

/-- 'laws.FnReadHeads': WHATEVER THE INPUT: true; the input reads as it did. -/
def fnReadHeadsSpec : ChangeSpec := { name := "fnReadHeads", fn := fun _ => fun
  | [d] => { results := [.lit (.bool true)], args := [d] }
  | _ => none }
def fnReadHeadsRow : OpenClaim := { program := "ytaipignkkbknfaadoor", sum := "fd395c8afce4894416cf67753cbcf480c015f6cd12e639f4e3864f59e1e8bd78", func := "loop.example/templateescaper/laws.FnReadHeads", spec := "fnReadHeads", inPlace := ["internal/bytealg.IndexByteString", "internal/bytealg.IndexString"], named := ["internal/bytealg.MaxLen", "unicode/utf8.first", "unicode/utf8.acceptRanges"], apart := false, laid := [("unicode/utf8.acceptRanges", laid_unicode_utf8_acceptRanges), ("unicode/utf8.first", laid_unicode_utf8_first)] }
def FnReadHeadsSaid : Prop := fnReadHeadsRow.holds Tryd.pinned (OpenSpec.ofChange fnReadHeadsSpec)

/-- ITS FALSE NEIGHBOUR: 'it returns false'. Refute it at one input. -/
def fnReadHeadsWrong : ChangeSpec := { name := "fnReadHeads", fn := fun _ => fun
  | [d] => { results := [.lit (.bool false)], args := [d] }
  | _ => none }
def FnReadHeadsWrongFalsely : Prop := fnReadHeadsRow.holds Tryd.pinned (OpenSpec.ofChange fnReadHeadsWrong)

/- THE SECOND FORM. 'bulk': how many values and letters a reading holds, each counted each time it is reached (what is shared counts as often as it is met; a slice's spare places count too). A statement '..UptoSaid' is the law's where the arguments, and the package variables that the reading takes, are together of bulk at most 1048576: NARROWER than '..Said'. Prove '..Said' where nothing that the law and all that it calls make is longer than what came in: it says more and counts as full. Else prove '..UptoSaid'. A law counts once. -/
mutual
def uptoBulk {H : Type} : DataW H → Nat
  | .lit (.string bytes) => bytes.length + 1
  | .lit _ => 1
  | .nil => 1
  | .ptr d => uptoBulk d + 1
  | .slice elems spare => uptoBulkAll elems + uptoBulkAll spare + 1
  | .agg parts => uptoBulkAll parts + 1
  | .iface _ d => uptoBulk d + 1
  | .map entries => uptoBulkEntries entries + 1
  | .held _ => 1
def uptoBulkAll {H : Type} : List (DataW H) → Nat
  | [] => 0
  | d :: r => uptoBulk d + uptoBulkAll r
def uptoBulkEntries {H : Type} : List (Lit × DataW H) → Nat
  | [] => 0
  | x :: r => uptoBulkEntry x + uptoBulkEntries r
def uptoBulkEntry {H : Type} : Lit × DataW H → Nat
  | (.string bytes, d) => bytes.length + uptoBulk d + 1
  | (_, d) => uptoBulk d + 1
 end
def uptoSmall : (H : Type) → List (DataW H) → Bool := fun _ ds => decide (uptoBulkAll ds ≤ 1048576)
def OpenSpec.upto (s : _root_.Go.ChangeSpec) : _root_.Go.OpenSpec := { _root_.Go.OpenSpec.ofChange s with cond := some uptoSmall }

/-- 'laws.FnHeadsValid', WHERE WHAT IT READS IS OF BULK AT MOST 1048576: true; the input reads as it did. -/
def fnHeadsValidUptoRow : OpenClaim := { program := "ytaipignkkbknfaadoor", sum := "fd395c8afce4894416cf67753cbcf480c015f6cd12e639f4e3864f59e1e8bd78", func := "loop.example/templateescaper/laws.FnHeadsValid", spec := "fnHeadsValid", inPlace := ["internal/bytealg.IndexByteString", "internal/bytealg.IndexString"], named := ["unicode/utf8.first", "unicode/utf8.acceptRanges", "internal/bytealg.MaxLen"], apart := false, laid := [("unicode/utf8.acceptRanges", laid_unicode_utf8_acceptRanges), ("unicode/utf8.first", laid_unicode_utf8_first)], narrowed := true }
def FnHeadsValidUptoSaid : Prop := fnHeadsValidUptoRow.holds Tryd.pinned (OpenSpec.upto fnHeadsValidSpec)

/-- 'laws.FnExactHeadsValid', WHERE WHAT IT READS IS OF BULK AT MOST 1048576: true; the input reads as it did. -/
def fnExactHeadsValidUptoRow : OpenClaim := { program := "ytaipignkkbknfaadoor", sum := "fd395c8afce4894416cf67753cbcf480c015f6cd12e639f4e3864f59e1e8bd78", func := "loop.example/templateescaper/laws.FnExactHeadsValid", spec := "fnExactHeadsValid", inPlace := ["internal/bytealg.IndexByteString", "internal/bytealg.IndexString"], named := ["unicode/utf8.first", "unicode/utf8.acceptRanges", "internal/bytealg.MaxLen"], apart := false, laid := [("unicode/utf8.acceptRanges", laid_unicode_utf8_acceptRanges), ("unicode/utf8.first", laid_unicode_utf8_first)], narrowed := true }
def FnExactHeadsValidUptoSaid : Prop := fnExactHeadsValidUptoRow.holds Tryd.pinned (OpenSpec.upto fnExactHeadsValidSpec)

/-- 'laws.FnExactHeadsLines', WHERE WHAT IT READS IS OF BULK AT MOST 1048576: true; the input reads as it did. -/
def fnExactHeadsLinesUptoRow : OpenClaim := { program := "ytaipignkkbknfaadoor", sum := "fd395c8afce4894416cf67753cbcf480c015f6cd12e639f4e3864f59e1e8bd78", func := "loop.example/templateescaper/laws.FnExactHeadsLines", spec := "fnExactHeadsLines", inPlace := ["internal/bytealg.IndexByteString", "internal/bytealg.IndexString"], named := ["unicode/utf8.first", "unicode/utf8.acceptRanges", "internal/bytealg.MaxLen"], apart := false, laid := [("unicode/utf8.acceptRanges", laid_unicode_utf8_acceptRanges), ("unicode/utf8.first", laid_unicode_utf8_first)], narrowed := true }
def FnExactHeadsLinesUptoSaid : Prop := fnExactHeadsLinesUptoRow.holds Tryd.pinned (OpenSpec.upto fnExactHeadsLinesSpec)

/-- 'laws.FnHeadsLines', WHERE WHAT IT READS IS OF BULK AT MOST 1048576: true; the input reads as it did. -/
def fnHeadsLinesUptoRow : OpenClaim := { program := "ytaipignkkbknfaadoor", sum := "fd395c8afce4894416cf67753cbcf480c015f6cd12e639f4e3864f59e1e8bd78", func := "loop.example/templateescaper/laws.FnHeadsLines", spec := "fnHeadsLines", inPlace := ["internal/bytealg.IndexByteString", "internal/bytealg.IndexString"], named := ["unicode/utf8.first", "unicode/utf8.acceptRanges", "internal/bytealg.MaxLen"], apart := false, laid := [("unicode/utf8.acceptRanges", laid_unicode_utf8_acceptRanges), ("unicode/utf8.first", laid_unicode_utf8_first)], narrowed := true }
def FnHeadsLinesUptoSaid : Prop := fnHeadsLinesUptoRow.holds Tryd.pinned (OpenSpec.upto fnHeadsLinesSpec)

/-- 'laws.FnExactReadHeads', WHERE WHAT IT READS IS OF BULK AT MOST 1048576: true; the input reads as it did. -/
def fnExactReadHeadsUptoRow : OpenClaim := { program := "ytaipignkkbknfaadoor", sum := "fd395c8afce4894416cf67753cbcf480c015f6cd12e639f4e3864f59e1e8bd78", func := "loop.example/templateescaper/laws.FnExactReadHeads", spec := "fnExactReadHeads", inPlace := ["internal/bytealg.IndexByteString", "internal/bytealg.IndexString"], named := ["internal/bytealg.MaxLen", "unicode/utf8.first", "unicode/utf8.acceptRanges"], apart := false, laid := [("unicode/utf8.acceptRanges", laid_unicode_utf8_acceptRanges), ("unicode/utf8.first", laid_unicode_utf8_first)], narrowed := true }
def FnExactReadHeadsUptoSaid : Prop := fnExactReadHeadsUptoRow.holds Tryd.pinned (OpenSpec.upto fnExactReadHeadsSpec)

/-- 'laws.FnReadHeads', WHERE WHAT IT READS IS OF BULK AT MOST 1048576: true; the input reads as it did. -/
def fnReadHeadsUptoRow : OpenClaim := { program := "ytaipignkkbknfaadoor", sum := "fd395c8afce4894416cf67753cbcf480c015f6cd12e639f4e3864f59e1e8bd78", func := "loop.example/templateescaper/laws.FnReadHeads", spec := "fnReadHeads", inPlace := ["internal/bytealg.IndexByteString", "internal/bytealg.IndexString"], named := ["internal/bytealg.MaxLen", "unicode/utf8.first", "unicode/utf8.acceptRanges"], apart := false, laid := [("unicode/utf8.acceptRanges", laid_unicode_utf8_acceptRanges), ("unicode/utf8.first", laid_unicode_utf8_first)], narrowed := true }
def FnReadHeadsUptoSaid : Prop := fnReadHeadsUptoRow.holds Tryd.pinned (OpenSpec.upto fnReadHeadsSpec)

end Rows
end Go.Proofs.YtaipignkkbknfaaDoor
