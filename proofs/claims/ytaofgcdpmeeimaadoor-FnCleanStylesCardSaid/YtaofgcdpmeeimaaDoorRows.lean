/-
  NARROWER THAN 'FOR EVERY INPUT', by the rows' own cells (each row's printed sentence says how): FnStylesText: laid · FnExactCleanStyles: laid · FnCleanStyles: laid · FnAskedText: laid · FnExactReadAsked: laid · FnReadAsked: laid · FnExactRowText: laid · FnRowText: laid · FnExactReadRow: laid · FnReadRow: laid · FnExactColumnOf: laid · FnColumnOf: laid.
  DERIVED. THE GIVEN ROWS OF THIS SEAT. 12 by the template 'for every input the law returns true; each argument reads behind the call as it read before'; 0 by the template 'total and deterministic' (their statements: YtaofgcdpmeeimaaDoorTotals.lean).
  GIVEN WITH THE SEED: the statements are not yours to turn. If you find one false, say at which input.
  Laid BY PROGRAM, IN A SANDBOX (cutbox-rows.mjs): the forced cells as the released guide's own fill.sh prints them over the translation 0ddd1a12fea68ccb… (all of the seat's roots in one cut). By AI agents, Wed Nov 11 2026. No macro, syntax, notation, axiom, sorry.
-/
import Derived.Test.YtaofgcdpmeeimaaDoorChecked
import GoSem.PinnedTables
import GoSem.Claim
import GoSem.ClaimJoined
import GoSem.ClaimMapViews
import Derived.JoinedTies
import Derived.KernelRfl
namespace Go.Proofs.YtaofgcdpmeeimaaDoor
/- THE CELL 'sum', in the pinned program and in every row, IS THE sha256 OF THE DUMP (.gsa) THAT YtaofgcdpmeeimaaDoorProg.lean LOADS. Nothing in Lean hashes anything: it is a label: what it is worth is what the hold of that sum in a sandbox is worth. -/
noncomputable def Tryd.pinned : Pinned := { name := "ytaofgcdpmeeimaadoor", sum := "0ddd1a12fea68ccb9778084b7c6f9b9853a2de05f733d539d65f132840921263", checked := Tryd.checked }
namespace Rows
def none {H : Type} : Left H := { results := [], args := [] }

/- WHAT THE LISTED PACKAGE-LEVEL VARIABLES READ AS WHEN THE CALL BEGINS. Each datum BY PROGRAM (the guide's laid-datum.mjs) off the statement by which the dump's own 'gosem.cut.vars' lays the variable. In a bare row this is a premise. The card (YtaofgcdpmeeimaaDoorCards.lean) ties it to the program's text. -/
def laid_unicode_utf8_acceptRanges {H : Type} : DataW H := .agg [.agg [.lit (.int .u8 128), .lit (.int .u8 191)], .agg [.lit (.int .u8 160), .lit (.int .u8 191)], .agg [.lit (.int .u8 128), .lit (.int .u8 159)], .agg [.lit (.int .u8 144), .lit (.int .u8 191)], .agg [.lit (.int .u8 128), .lit (.int .u8 143)], .agg [.lit (.int .u8 0), .lit (.int .u8 0)], .agg [.lit (.int .u8 0), .lit (.int .u8 0)], .agg [.lit (.int .u8 0), .lit (.int .u8 0)], .agg [.lit (.int .u8 0), .lit (.int .u8 0)], .agg [.lit (.int .u8 0), .lit (.int .u8 0)], .agg [.lit (.int .u8 0), .lit (.int .u8 0)], .agg [.lit (.int .u8 0), .lit (.int .u8 0)], .agg [.lit (.int .u8 0), .lit (.int .u8 0)], .agg [.lit (.int .u8 0), .lit (.int .u8 0)], .agg [.lit (.int .u8 0), .lit (.int .u8 0)], .agg [.lit (.int .u8 0), .lit (.int .u8 0)]]
/-- One of Go's own tables, pinned by name: the form's constant. -/
def laid_unicode_utf8_first : DataW Unit := Go.Pinned.utf8First

/-- 'laws.FnStylesText': WHATEVER THE INPUT: true; the input reads as it did. -/
def fnStylesTextSpec : ChangeSpec := { name := "fnStylesText", fn := fun _ => fun
  | [d] => { results := [.lit (.bool true)], args := [d] }
  | _ => none }
def fnStylesTextRow : OpenClaim := { program := "ytaofgcdpmeeimaadoor", sum := "0ddd1a12fea68ccb9778084b7c6f9b9853a2de05f733d539d65f132840921263", func := "loop.example/templateescaper/laws.FnStylesText", spec := "fnStylesText", inPlace := ["internal/abi.NoEscape", "internal/bytealg.MakeNoZero", "internal/bytealg.CountString", "internal/bytealg.IndexByteString", "internal/bytealg.IndexString"], named := ["unicode/utf8.first", "unicode/utf8.acceptRanges", "internal/bytealg.MaxLen"], apart := false, laid := [("unicode/utf8.acceptRanges", laid_unicode_utf8_acceptRanges), ("unicode/utf8.first", laid_unicode_utf8_first)] }
def FnStylesTextSaid : Prop := fnStylesTextRow.holds Tryd.pinned (OpenSpec.ofChange fnStylesTextSpec)

/-- ITS FALSE NEIGHBOUR: 'it returns false'. Refute it at one input. -/
def fnStylesTextWrong : ChangeSpec := { name := "fnStylesText", fn := fun _ => fun
  | [d] => { results := [.lit (.bool false)], args := [d] }
  | _ => none }
def FnStylesTextWrongFalsely : Prop := fnStylesTextRow.holds Tryd.pinned (OpenSpec.ofChange fnStylesTextWrong)

/-- 'laws.FnExactCleanStyles': WHATEVER THE INPUT: true; the input reads as it did. -/
def fnExactCleanStylesSpec : ChangeSpec := { name := "fnExactCleanStyles", fn := fun _ => fun
  | [d] => { results := [.lit (.bool true)], args := [d] }
  | _ => none }
def fnExactCleanStylesRow : OpenClaim := { program := "ytaofgcdpmeeimaadoor", sum := "0ddd1a12fea68ccb9778084b7c6f9b9853a2de05f733d539d65f132840921263", func := "loop.example/templateescaper/laws.FnExactCleanStyles", spec := "fnExactCleanStyles", inPlace := ["internal/bytealg.CountString", "internal/bytealg.IndexByteString", "internal/bytealg.IndexString"], named := ["unicode/utf8.first", "unicode/utf8.acceptRanges", "internal/bytealg.MaxLen"], apart := false, laid := [("unicode/utf8.acceptRanges", laid_unicode_utf8_acceptRanges), ("unicode/utf8.first", laid_unicode_utf8_first)] }
def FnExactCleanStylesSaid : Prop := fnExactCleanStylesRow.holds Tryd.pinned (OpenSpec.ofChange fnExactCleanStylesSpec)

/-- ITS FALSE NEIGHBOUR: 'it returns false'. Refute it at one input. -/
def fnExactCleanStylesWrong : ChangeSpec := { name := "fnExactCleanStyles", fn := fun _ => fun
  | [d] => { results := [.lit (.bool false)], args := [d] }
  | _ => none }
def FnExactCleanStylesWrongFalsely : Prop := fnExactCleanStylesRow.holds Tryd.pinned (OpenSpec.ofChange fnExactCleanStylesWrong)

/-- 'laws.FnCleanStyles': WHATEVER THE INPUT: true; the input reads as it did. -/
def fnCleanStylesSpec : ChangeSpec := { name := "fnCleanStyles", fn := fun _ => fun
  | [d] => { results := [.lit (.bool true)], args := [d] }
  | _ => none }
def fnCleanStylesRow : OpenClaim := { program := "ytaofgcdpmeeimaadoor", sum := "0ddd1a12fea68ccb9778084b7c6f9b9853a2de05f733d539d65f132840921263", func := "loop.example/templateescaper/laws.FnCleanStyles", spec := "fnCleanStyles", inPlace := ["internal/bytealg.CountString", "internal/bytealg.IndexByteString", "internal/bytealg.IndexString", "internal/abi.NoEscape", "internal/bytealg.MakeNoZero"], named := ["unicode/utf8.first", "unicode/utf8.acceptRanges", "internal/bytealg.MaxLen"], apart := false, laid := [("unicode/utf8.acceptRanges", laid_unicode_utf8_acceptRanges), ("unicode/utf8.first", laid_unicode_utf8_first)] }
def FnCleanStylesSaid : Prop := fnCleanStylesRow.holds Tryd.pinned (OpenSpec.ofChange fnCleanStylesSpec)

/-- ITS FALSE NEIGHBOUR: 'it returns false'. Refute it at one input. -/
def fnCleanStylesWrong : ChangeSpec := { name := "fnCleanStyles", fn := fun _ => fun
  | [d] => { results := [.lit (.bool false)], args := [d] }
  | _ => none }
def FnCleanStylesWrongFalsely : Prop := fnCleanStylesRow.holds Tryd.pinned (OpenSpec.ofChange fnCleanStylesWrong)

/-- 'laws.FnAskedText': WHATEVER THE INPUT: true; the input reads as it did. -/
def fnAskedTextSpec : ChangeSpec := { name := "fnAskedText", fn := fun _ => fun
  | [d] => { results := [.lit (.bool true)], args := [d] }
  | _ => none }
def fnAskedTextRow : OpenClaim := { program := "ytaofgcdpmeeimaadoor", sum := "0ddd1a12fea68ccb9778084b7c6f9b9853a2de05f733d539d65f132840921263", func := "loop.example/templateescaper/laws.FnAskedText", spec := "fnAskedText", inPlace := ["internal/abi.NoEscape", "internal/bytealg.MakeNoZero", "internal/bytealg.CountString", "internal/bytealg.IndexByteString", "internal/bytealg.IndexString"], named := ["unicode/utf8.first", "unicode/utf8.acceptRanges", "internal/bytealg.MaxLen"], apart := false, laid := [("unicode/utf8.acceptRanges", laid_unicode_utf8_acceptRanges), ("unicode/utf8.first", laid_unicode_utf8_first)] }
def FnAskedTextSaid : Prop := fnAskedTextRow.holds Tryd.pinned (OpenSpec.ofChange fnAskedTextSpec)

/-- ITS FALSE NEIGHBOUR: 'it returns false'. Refute it at one input. -/
def fnAskedTextWrong : ChangeSpec := { name := "fnAskedText", fn := fun _ => fun
  | [d] => { results := [.lit (.bool false)], args := [d] }
  | _ => none }
def FnAskedTextWrongFalsely : Prop := fnAskedTextRow.holds Tryd.pinned (OpenSpec.ofChange fnAskedTextWrong)

/-- 'laws.FnExactReadAsked': WHATEVER THE INPUT: true; the input reads as it did. -/
def fnExactReadAskedSpec : ChangeSpec := { name := "fnExactReadAsked", fn := fun _ => fun
  | [d] => { results := [.lit (.bool true)], args := [d] }
  | _ => none }
def fnExactReadAskedRow : OpenClaim := { program := "ytaofgcdpmeeimaadoor", sum := "0ddd1a12fea68ccb9778084b7c6f9b9853a2de05f733d539d65f132840921263", func := "loop.example/templateescaper/laws.FnExactReadAsked", spec := "fnExactReadAsked", inPlace := ["internal/bytealg.CountString", "internal/bytealg.IndexByteString", "internal/bytealg.IndexString", "internal/abi.NoEscape", "internal/bytealg.MakeNoZero"], named := ["unicode/utf8.first", "unicode/utf8.acceptRanges", "internal/bytealg.MaxLen"], apart := false, laid := [("unicode/utf8.acceptRanges", laid_unicode_utf8_acceptRanges), ("unicode/utf8.first", laid_unicode_utf8_first)] }
def FnExactReadAskedSaid : Prop := fnExactReadAskedRow.holds Tryd.pinned (OpenSpec.ofChange fnExactReadAskedSpec)

/-- ITS FALSE NEIGHBOUR: 'it returns false'. Refute it at one input. -/
def fnExactReadAskedWrong : ChangeSpec := { name := "fnExactReadAsked", fn := fun _ => fun
  | [d] => { results := [.lit (.bool false)], args := [d] }
  | _ => none }
def FnExactReadAskedWrongFalsely : Prop := fnExactReadAskedRow.holds Tryd.pinned (OpenSpec.ofChange fnExactReadAskedWrong)

/-- 'laws.FnReadAsked': WHATEVER THE INPUT: true; the input reads as it did. -/
def fnReadAskedSpec : ChangeSpec := { name := "fnReadAsked", fn := fun _ => fun
  | [d] => { results := [.lit (.bool true)], args := [d] }
  | _ => none }
def fnReadAskedRow : OpenClaim := { program := "ytaofgcdpmeeimaadoor", sum := "0ddd1a12fea68ccb9778084b7c6f9b9853a2de05f733d539d65f132840921263", func := "loop.example/templateescaper/laws.FnReadAsked", spec := "fnReadAsked", inPlace := ["internal/bytealg.CountString", "internal/bytealg.IndexByteString", "internal/bytealg.IndexString", "internal/abi.NoEscape", "internal/bytealg.MakeNoZero"], named := ["unicode/utf8.first", "unicode/utf8.acceptRanges", "internal/bytealg.MaxLen"], apart := false, laid := [("unicode/utf8.acceptRanges", laid_unicode_utf8_acceptRanges), ("unicode/utf8.first", laid_unicode_utf8_first)] }
def FnReadAskedSaid : Prop := fnReadAskedRow.holds Tryd.pinned (OpenSpec.ofChange fnReadAskedSpec)

/-- ITS FALSE NEIGHBOUR: 'it returns false'. Refute it at one input. -/
def fnReadAskedWrong : ChangeSpec := { name := "fnReadAsked", fn := fun _ => fun
  | [d] => { results := [.lit (.bool false)], args := [d] }
  | _ => none }
def FnReadAskedWrongFalsely : Prop := fnReadAskedRow.holds Tryd.pinned (OpenSpec.ofChange fnReadAskedWrong)

/-- 'laws.FnExactRowText': WHATEVER THE INPUT: true; the input reads as it did. -/
def fnExactRowTextSpec : ChangeSpec := { name := "fnExactRowText", fn := fun _ => fun
  | [d] => { results := [.lit (.bool true)], args := [d] }
  | _ => none }
def fnExactRowTextRow : OpenClaim := { program := "ytaofgcdpmeeimaadoor", sum := "0ddd1a12fea68ccb9778084b7c6f9b9853a2de05f733d539d65f132840921263", func := "loop.example/templateescaper/laws.FnExactRowText", spec := "fnExactRowText", inPlace := ["internal/bytealg.IndexByteString", "internal/bytealg.IndexString", "internal/bytealg.CountString", "internal/abi.NoEscape", "internal/bytealg.MakeNoZero"], named := ["internal/bytealg.MaxLen", "unicode/utf8.first", "unicode/utf8.acceptRanges"], apart := false, laid := [("unicode/utf8.acceptRanges", laid_unicode_utf8_acceptRanges), ("unicode/utf8.first", laid_unicode_utf8_first)] }
def FnExactRowTextSaid : Prop := fnExactRowTextRow.holds Tryd.pinned (OpenSpec.ofChange fnExactRowTextSpec)

/-- ITS FALSE NEIGHBOUR: 'it returns false'. Refute it at one input. -/
def fnExactRowTextWrong : ChangeSpec := { name := "fnExactRowText", fn := fun _ => fun
  | [d] => { results := [.lit (.bool false)], args := [d] }
  | _ => none }
def FnExactRowTextWrongFalsely : Prop := fnExactRowTextRow.holds Tryd.pinned (OpenSpec.ofChange fnExactRowTextWrong)

/-- 'laws.FnRowText': WHATEVER THE INPUT: true; the input reads as it did. -/
def fnRowTextSpec : ChangeSpec := { name := "fnRowText", fn := fun _ => fun
  | [d] => { results := [.lit (.bool true)], args := [d] }
  | _ => none }
def fnRowTextRow : OpenClaim := { program := "ytaofgcdpmeeimaadoor", sum := "0ddd1a12fea68ccb9778084b7c6f9b9853a2de05f733d539d65f132840921263", func := "loop.example/templateescaper/laws.FnRowText", spec := "fnRowText", inPlace := ["internal/bytealg.IndexByteString", "internal/bytealg.IndexString", "internal/bytealg.CountString", "internal/abi.NoEscape", "internal/bytealg.MakeNoZero"], named := ["internal/bytealg.MaxLen", "unicode/utf8.first", "unicode/utf8.acceptRanges"], apart := false, laid := [("unicode/utf8.acceptRanges", laid_unicode_utf8_acceptRanges), ("unicode/utf8.first", laid_unicode_utf8_first)] }
def FnRowTextSaid : Prop := fnRowTextRow.holds Tryd.pinned (OpenSpec.ofChange fnRowTextSpec)

/-- ITS FALSE NEIGHBOUR: 'it returns false'. Refute it at one input. -/
def fnRowTextWrong : ChangeSpec := { name := "fnRowText", fn := fun _ => fun
  | [d] => { results := [.lit (.bool false)], args := [d] }
  | _ => none }
def FnRowTextWrongFalsely : Prop := fnRowTextRow.holds Tryd.pinned (OpenSpec.ofChange fnRowTextWrong)

/-- 'laws.FnExactReadRow': WHATEVER THE INPUT: true; the input reads as it did. -/
def fnExactReadRowSpec : ChangeSpec := { name := "fnExactReadRow", fn := fun _ => fun
  | [d] => { results := [.lit (.bool true)], args := [d] }
  | _ => none }
def fnExactReadRowRow : OpenClaim := { program := "ytaofgcdpmeeimaadoor", sum := "0ddd1a12fea68ccb9778084b7c6f9b9853a2de05f733d539d65f132840921263", func := "loop.example/templateescaper/laws.FnExactReadRow", spec := "fnExactReadRow", inPlace := ["internal/bytealg.IndexByteString", "internal/bytealg.IndexString", "internal/bytealg.CountString", "internal/abi.NoEscape", "internal/bytealg.MakeNoZero"], named := ["internal/bytealg.MaxLen", "unicode/utf8.first", "unicode/utf8.acceptRanges"], apart := false, laid := [("unicode/utf8.acceptRanges", laid_unicode_utf8_acceptRanges), ("unicode/utf8.first", laid_unicode_utf8_first)] }
def FnExactReadRowSaid : Prop := fnExactReadRowRow.holds Tryd.pinned (OpenSpec.ofChange fnExactReadRowSpec)

/-- ITS FALSE NEIGHBOUR: 'it returns false'. Refute it at one input. -/
def fnExactReadRowWrong : ChangeSpec := { name := "fnExactReadRow", fn := fun _ => fun
  | [d] => { results := [.lit (.bool false)], args := [d] }
  | _ => none }
def FnExactReadRowWrongFalsely : Prop := fnExactReadRowRow.holds Tryd.pinned (OpenSpec.ofChange fnExactReadRowWrong)

/-- 'laws.FnReadRow': WHATEVER THE INPUT: true; the input reads as it did. -/
def fnReadRowSpec : ChangeSpec := { name := "fnReadRow", fn := fun _ => fun
  | [d] => { results := [.lit (.bool true)], args := [d] }
  | _ => none }
def fnReadRowRow : OpenClaim := { program := "ytaofgcdpmeeimaadoor", sum := "0ddd1a12fea68ccb9778084b7c6f9b9853a2de05f733d539d65f132840921263", func := "loop.example/templateescaper/laws.FnReadRow", spec := "fnReadRow", inPlace := ["internal/bytealg.IndexByteString", "internal/bytealg.IndexString", "internal/bytealg.CountString", "internal/abi.NoEscape", "internal/bytealg.MakeNoZero"], named := ["internal/bytealg.MaxLen", "unicode/utf8.first", "unicode/utf8.acceptRanges"], apart := false, laid := [("unicode/utf8.acceptRanges", laid_unicode_utf8_acceptRanges), ("unicode/utf8.first", laid_unicode_utf8_first)] }
def FnReadRowSaid : Prop := fnReadRowRow.holds Tryd.pinned (OpenSpec.ofChange fnReadRowSpec)

/-- ITS FALSE NEIGHBOUR: 'it returns false'. Refute it at one input. -/
def fnReadRowWrong : ChangeSpec := { name := "fnReadRow", fn := fun _ => fun
  | [d] => { results := [.lit (.bool false)], args := [d] }
  | _ => none }
def FnReadRowWrongFalsely : Prop := fnReadRowRow.holds Tryd.pinned (OpenSpec.ofChange fnReadRowWrong)

/-- 'laws.FnExactColumnOf': WHATEVER THE INPUT: true; the input reads as it did. -/
def fnExactColumnOfSpec : ChangeSpec := { name := "fnExactColumnOf", fn := fun _ => fun
  | [d1, d2] => { results := [.lit (.bool true)], args := [d1, d2] }
  | _ => none }
def fnExactColumnOfRow : OpenClaim := { program := "ytaofgcdpmeeimaadoor", sum := "0ddd1a12fea68ccb9778084b7c6f9b9853a2de05f733d539d65f132840921263", func := "loop.example/templateescaper/laws.FnExactColumnOf", spec := "fnExactColumnOf", inPlace := ["internal/bytealg.IndexByteString", "internal/bytealg.IndexString", "internal/bytealg.CountString", "internal/abi.NoEscape", "internal/bytealg.MakeNoZero"], named := ["internal/bytealg.MaxLen", "unicode/utf8.first", "unicode/utf8.acceptRanges"], apart := false, laid := [("unicode/utf8.acceptRanges", laid_unicode_utf8_acceptRanges), ("unicode/utf8.first", laid_unicode_utf8_first)] }
def FnExactColumnOfSaid : Prop := fnExactColumnOfRow.holds Tryd.pinned (OpenSpec.ofChange fnExactColumnOfSpec)

/-- ITS FALSE NEIGHBOUR: 'it returns false'. Refute it at one input. -/
def fnExactColumnOfWrong : ChangeSpec := { name := "fnExactColumnOf", fn := fun _ => fun
  | [d1, d2] => { results := [.lit (.bool false)], args := [d1, d2] }
  | _ => none }
def FnExactColumnOfWrongFalsely : Prop := fnExactColumnOfRow.holds Tryd.pinned (OpenSpec.ofChange fnExactColumnOfWrong)

/-- 'laws.FnColumnOf': WHATEVER THE INPUT: true; the input reads as it did. -/
def fnColumnOfSpec : ChangeSpec := { name := "fnColumnOf", fn := fun _ => fun
  | [d] => { results := [.lit (.bool true)], args := [d] }
  | _ => none }
def fnColumnOfRow : OpenClaim := { program := "ytaofgcdpmeeimaadoor", sum := "0ddd1a12fea68ccb9778084b7c6f9b9853a2de05f733d539d65f132840921263", func := "loop.example/templateescaper/laws.FnColumnOf", spec := "fnColumnOf", inPlace := ["internal/bytealg.IndexByteString", "internal/bytealg.IndexString", "internal/bytealg.CountString", "internal/abi.NoEscape", "internal/bytealg.MakeNoZero"], named := ["internal/bytealg.MaxLen", "unicode/utf8.first", "unicode/utf8.acceptRanges"], apart := false, laid := [("unicode/utf8.acceptRanges", laid_unicode_utf8_acceptRanges), ("unicode/utf8.first", laid_unicode_utf8_first)] }
def FnColumnOfSaid : Prop := fnColumnOfRow.holds Tryd.pinned (OpenSpec.ofChange fnColumnOfSpec)

/-- ITS FALSE NEIGHBOUR: 'it returns false'. Refute it at one input. -/
def fnColumnOfWrong : ChangeSpec := { name := "fnColumnOf", fn := fun _ => fun
  | [d] => { results := [.lit (.bool false)], args := [d] }
  | _ => none }
def FnColumnOfWrongFalsely : Prop := fnColumnOfRow.holds Tryd.pinned (OpenSpec.ofChange fnColumnOfWrong)

/- THE SECOND FORM. 'bulk': how many values and letters a reading holds, each counted each time it is reached (what is shared counts as often as it is met; a slice's spare places count too). A statement '..UptoSaid' is the law's where the arguments, and the package variables that the reading takes, are together of bulk at most 1048576: NARROWER than '..Said'. Prove '..Said' where nothing that the law and all that it calls make is longer than what came in: it says more and counts as full. Else prove '..UptoSaid'. A law counts once. -/
mutual
def uptoBulk {H : Type} : DataW H → Nat
  | .lit (.string bytes) => bytes.length + 1
  | .lit _ => 1
  | .nil => 1
  | .ptr d => uptoBulk d + 1
  | .slice elems spare => uptoBulkAll elems + uptoBulkAll spare + 1
  | .agg parts => uptoBulkAll parts + 1
  | .iface _ d => uptoBulk d + 1
  | .map entries => uptoBulkEntries entries + 1
  | .held _ => 1
def uptoBulkAll {H : Type} : List (DataW H) → Nat
  | [] => 0
  | d :: r => uptoBulk d + uptoBulkAll r
def uptoBulkEntries {H : Type} : List (Lit × DataW H) → Nat
  | [] => 0
  | x :: r => uptoBulkEntry x + uptoBulkEntries r
def uptoBulkEntry {H : Type} : Lit × DataW H → Nat
  | (.string bytes, d) => bytes.length + uptoBulk d + 1
  | (_, d) => uptoBulk d + 1
 end
def uptoSmall : (H : Type) → List (DataW H) → Bool := fun _ ds => decide (uptoBulkAll ds ≤ 1048576)
def OpenSpec.upto (s : _root_.Go.ChangeSpec) : _root_.Go.OpenSpec := { _root_.Go.OpenSpec.ofChange s with cond := some uptoSmall }

/-- 'laws.FnStylesText', WHERE WHAT IT READS IS OF BULK AT MOST 1048576: true; the input reads as it did. -/
def fnStylesTextUptoRow : OpenClaim := { program := "ytaofgcdpmeeimaadoor", sum := "0ddd1a12fea68ccb9778084b7c6f9b9853a2de05f733d539d65f132840921263", func := "loop.example/templateescaper/laws.FnStylesText", spec := "fnStylesText", inPlace := ["internal/abi.NoEscape", "internal/bytealg.MakeNoZero", "internal/bytealg.CountString", "internal/bytealg.IndexByteString", "internal/bytealg.IndexString"], named := ["unicode/utf8.first", "unicode/utf8.acceptRanges", "internal/bytealg.MaxLen"], apart := false, laid := [("unicode/utf8.acceptRanges", laid_unicode_utf8_acceptRanges), ("unicode/utf8.first", laid_unicode_utf8_first)], narrowed := true }
def FnStylesTextUptoSaid : Prop := fnStylesTextUptoRow.holds Tryd.pinned (OpenSpec.upto fnStylesTextSpec)

/-- 'laws.FnExactCleanStyles', WHERE WHAT IT READS IS OF BULK AT MOST 1048576: true; the input reads as it did. -/
def fnExactCleanStylesUptoRow : OpenClaim := { program := "ytaofgcdpmeeimaadoor", sum := "0ddd1a12fea68ccb9778084b7c6f9b9853a2de05f733d539d65f132840921263", func := "loop.example/templateescaper/laws.FnExactCleanStyles", spec := "fnExactCleanStyles", inPlace := ["internal/bytealg.CountString", "internal/bytealg.IndexByteString", "internal/bytealg.IndexString"], named := ["unicode/utf8.first", "unicode/utf8.acceptRanges", "internal/bytealg.MaxLen"], apart := false, laid := [("unicode/utf8.acceptRanges", laid_unicode_utf8_acceptRanges), ("unicode/utf8.first", laid_unicode_utf8_first)], narrowed := true }
def FnExactCleanStylesUptoSaid : Prop := fnExactCleanStylesUptoRow.holds Tryd.pinned (OpenSpec.upto fnExactCleanStylesSpec)

/-- 'laws.FnCleanStyles', WHERE WHAT IT READS IS OF BULK AT MOST 1048576: true; the input reads as it did. -/
def fnCleanStylesUptoRow : OpenClaim := { program := "ytaofgcdpmeeimaadoor", sum := "0ddd1a12fea68ccb9778084b7c6f9b9853a2de05f733d539d65f132840921263", func := "loop.example/templateescaper/laws.FnCleanStyles", spec := "fnCleanStyles", inPlace := ["internal/bytealg.CountString", "internal/bytealg.IndexByteString", "internal/bytealg.IndexString", "internal/abi.NoEscape", "internal/bytealg.MakeNoZero"], named := ["unicode/utf8.first", "unicode/utf8.acceptRanges", "internal/bytealg.MaxLen"], apart := false, laid := [("unicode/utf8.acceptRanges", laid_unicode_utf8_acceptRanges), ("unicode/utf8.first", laid_unicode_utf8_first)], narrowed := true }
def FnCleanStylesUptoSaid : Prop := fnCleanStylesUptoRow.holds Tryd.pinned (OpenSpec.upto fnCleanStylesSpec)

/-- 'laws.FnAskedText', WHERE WHAT IT READS IS OF BULK AT MOST 1048576: true; the input reads as it did. -/
def fnAskedTextUptoRow : OpenClaim := { program := "ytaofgcdpmeeimaadoor", sum := "0ddd1a12fea68ccb9778084b7c6f9b9853a2de05f733d539d65f132840921263", func := "loop.example/templateescaper/laws.FnAskedText", spec := "fnAskedText", inPlace := ["internal/abi.NoEscape", "internal/bytealg.MakeNoZero", "internal/bytealg.CountString", "internal/bytealg.IndexByteString", "internal/bytealg.IndexString"], named := ["unicode/utf8.first", "unicode/utf8.acceptRanges", "internal/bytealg.MaxLen"], apart := false, laid := [("unicode/utf8.acceptRanges", laid_unicode_utf8_acceptRanges), ("unicode/utf8.first", laid_unicode_utf8_first)], narrowed := true }
def FnAskedTextUptoSaid : Prop := fnAskedTextUptoRow.holds Tryd.pinned (OpenSpec.upto fnAskedTextSpec)

/-- 'laws.FnExactReadAsked', WHERE WHAT IT READS IS OF BULK AT MOST 1048576: true; the input reads as it did. -/
def fnExactReadAskedUptoRow : OpenClaim := { program := "ytaofgcdpmeeimaadoor", sum := "0ddd1a12fea68ccb9778084b7c6f9b9853a2de05f733d539d65f132840921263", func := "loop.example/templateescaper/laws.FnExactReadAsked", spec := "fnExactReadAsked", inPlace := ["internal/bytealg.CountString", "internal/bytealg.IndexByteString", "internal/bytealg.IndexString", "internal/abi.NoEscape", "internal/bytealg.MakeNoZero"], named := ["unicode/utf8.first", "unicode/utf8.acceptRanges", "internal/bytealg.MaxLen"], apart := false, laid := [("unicode/utf8.acceptRanges", laid_unicode_utf8_acceptRanges), ("unicode/utf8.first", laid_unicode_utf8_first)], narrowed := true }
def FnExactReadAskedUptoSaid : Prop := fnExactReadAskedUptoRow.holds Tryd.pinned (OpenSpec.upto fnExactReadAskedSpec)

/-- 'laws.FnReadAsked', WHERE WHAT IT READS IS OF BULK AT MOST 1048576: true; the input reads as it did. -/
def fnReadAskedUptoRow : OpenClaim := { program := "ytaofgcdpmeeimaadoor", sum := "0ddd1a12fea68ccb9778084b7c6f9b9853a2de05f733d539d65f132840921263", func := "loop.example/templateescaper/laws.FnReadAsked", spec := "fnReadAsked", inPlace := ["internal/bytealg.CountString", "internal/bytealg.IndexByteString", "internal/bytealg.IndexString", "internal/abi.NoEscape", "internal/bytealg.MakeNoZero"], named := ["unicode/utf8.first", "unicode/utf8.acceptRanges", "internal/bytealg.MaxLen"], apart := false, laid := [("unicode/utf8.acceptRanges", laid_unicode_utf8_acceptRanges), ("unicode/utf8.first", laid_unicode_utf8_first)], narrowed := true }
def FnReadAskedUptoSaid : Prop := fnReadAskedUptoRow.holds Tryd.pinned (OpenSpec.upto fnReadAskedSpec)

/-- 'laws.FnExactRowText', WHERE WHAT IT READS IS OF BULK AT MOST 1048576: true; the input reads as it did. -/
def fnExactRowTextUptoRow : OpenClaim := { program := "ytaofgcdpmeeimaadoor", sum := "0ddd1a12fea68ccb9778084b7c6f9b9853a2de05f733d539d65f132840921263", func := "loop.example/templateescaper/laws.FnExactRowText", spec := "fnExactRowText", inPlace := ["internal/bytealg.IndexByteString", "internal/bytealg.IndexString", "internal/bytealg.CountString", "internal/abi.NoEscape", "internal/bytealg.MakeNoZero"], named := ["internal/bytealg.MaxLen", "unicode/utf8.first", "unicode/utf8.acceptRanges"], apart := false, laid := [("unicode/utf8.acceptRanges", laid_unicode_utf8_acceptRanges), ("unicode/utf8.first", laid_unicode_utf8_first)], narrowed := true }
def FnExactRowTextUptoSaid : Prop := fnExactRowTextUptoRow.holds Tryd.pinned (OpenSpec.upto fnExactRowTextSpec)

/-- 'laws.FnRowText', WHERE WHAT IT READS IS OF BULK AT MOST 1048576: true; the input reads as it did. -/
def fnRowTextUptoRow : OpenClaim := { program := "ytaofgcdpmeeimaadoor", sum := "0ddd1a12fea68ccb9778084b7c6f9b9853a2de05f733d539d65f132840921263", func := "loop.example/templateescaper/laws.FnRowText", spec := "fnRowText", inPlace := ["internal/bytealg.IndexByteString", "internal/bytealg.IndexString", "internal/bytealg.CountString", "internal/abi.NoEscape", "internal/bytealg.MakeNoZero"], named := ["internal/bytealg.MaxLen", "unicode/utf8.first", "unicode/utf8.acceptRanges"], apart := false, laid := [("unicode/utf8.acceptRanges", laid_unicode_utf8_acceptRanges), ("unicode/utf8.first", laid_unicode_utf8_first)], narrowed := true }
def FnRowTextUptoSaid : Prop := fnRowTextUptoRow.holds Tryd.pinned (OpenSpec.upto fnRowTextSpec)

/-- 'laws.FnExactReadRow', WHERE WHAT IT READS IS OF BULK AT MOST 1048576: true; the input reads as it did. -/
def fnExactReadRowUptoRow : OpenClaim := { program := "ytaofgcdpmeeimaadoor", sum := "0ddd1a12fea68ccb9778084b7c6f9b9853a2de05f733d539d65f132840921263", func := "loop.example/templateescaper/laws.FnExactReadRow", spec := "fnExactReadRow", inPlace := ["internal/bytealg.IndexByteString", "internal/bytealg.IndexString", "internal/bytealg.CountString", "internal/abi.NoEscape", "internal/bytealg.MakeNoZero"], named := ["internal/bytealg.MaxLen", "unicode/utf8.first", "unicode/utf8.acceptRanges"], apart := false, laid := [("unicode/utf8.acceptRanges", laid_unicode_utf8_acceptRanges), ("unicode/utf8.first", laid_unicode_utf8_first)], narrowed := true }
def FnExactReadRowUptoSaid : Prop := fnExactReadRowUptoRow.holds Tryd.pinned (OpenSpec.upto fnExactReadRowSpec)

/-- 'laws.FnReadRow', WHERE WHAT IT READS IS OF BULK AT MOST 1048576: true; the input reads as it did. -/
def fnReadRowUptoRow : OpenClaim := { program := "ytaofgcdpmeeimaadoor", sum := "0ddd1a12fea68ccb9778084b7c6f9b9853a2de05f733d539d65f132840921263", func := "loop.example/templateescaper/laws.FnReadRow", spec := "fnReadRow", inPlace := ["internal/bytealg.IndexByteString", "internal/bytealg.IndexString", "internal/bytealg.CountString", "internal/abi.NoEscape", "internal/bytealg.MakeNoZero"], named := ["internal/bytealg.MaxLen", "unicode/utf8.first", "unicode/utf8.acceptRanges"], apart := false, laid := [("unicode/utf8.acceptRanges", laid_unicode_utf8_acceptRanges), ("unicode/utf8.first", laid_unicode_utf8_first)], narrowed := true }
def FnReadRowUptoSaid : Prop := fnReadRowUptoRow.holds Tryd.pinned (OpenSpec.upto fnReadRowSpec)

/-- 'laws.FnExactColumnOf', WHERE WHAT IT READS IS OF BULK AT MOST 1048576: true; the input reads as it did. -/
def fnExactColumnOfUptoRow : OpenClaim := { program := "ytaofgcdpmeeimaadoor", sum := "0ddd1a12fea68ccb9778084b7c6f9b9853a2de05f733d539d65f132840921263", func := "loop.example/templateescaper/laws.FnExactColumnOf", spec := "fnExactColumnOf", inPlace := ["internal/bytealg.IndexByteString", "internal/bytealg.IndexString", "internal/bytealg.CountString", "internal/abi.NoEscape", "internal/bytealg.MakeNoZero"], named := ["internal/bytealg.MaxLen", "unicode/utf8.first", "unicode/utf8.acceptRanges"], apart := false, laid := [("unicode/utf8.acceptRanges", laid_unicode_utf8_acceptRanges), ("unicode/utf8.first", laid_unicode_utf8_first)], narrowed := true }
def FnExactColumnOfUptoSaid : Prop := fnExactColumnOfUptoRow.holds Tryd.pinned (OpenSpec.upto fnExactColumnOfSpec)

/-- 'laws.FnColumnOf', WHERE WHAT IT READS IS OF BULK AT MOST 1048576: true; the input reads as it did. -/
def fnColumnOfUptoRow : OpenClaim := { program := "ytaofgcdpmeeimaadoor", sum := "0ddd1a12fea68ccb9778084b7c6f9b9853a2de05f733d539d65f132840921263", func := "loop.example/templateescaper/laws.FnColumnOf", spec := "fnColumnOf", inPlace := ["internal/bytealg.IndexByteString", "internal/bytealg.IndexString", "internal/bytealg.CountString", "internal/abi.NoEscape", "internal/bytealg.MakeNoZero"], named := ["internal/bytealg.MaxLen", "unicode/utf8.first", "unicode/utf8.acceptRanges"], apart := false, laid := [("unicode/utf8.acceptRanges", laid_unicode_utf8_acceptRanges), ("unicode/utf8.first", laid_unicode_utf8_first)], narrowed := true }
def FnColumnOfUptoSaid : Prop := fnColumnOfUptoRow.holds Tryd.pinned (OpenSpec.upto fnColumnOfSpec)

end Rows
end Go.Proofs.YtaofgcdpmeeimaaDoor
