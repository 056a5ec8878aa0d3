/-
  NARROWER THAN 'FOR EVERY INPUT', by the rows' own cells (each row's printed sentence says how): FnExactReadCookies: laid · FnCookiesText: laid · FnReadCookies: laid · FnLocationValid: laid · FnExactLocationValid: laid · FnExactLocationText: laid · FnLocationText: laid · FnExactReadLocation: laid · FnReadLocation: laid · FnResolveLocation: laid.
  DERIVED. THE GIVEN ROWS OF THIS SEAT. 10 by the template 'for every input the law returns true; each argument reads behind the call as it read before'; 0 by the template 'total and deterministic' (their statements: YtmijnkiopmpjdaaDoorTotals.lean).
  GIVEN WITH THE SEED: the statements are not yours to turn. If you find one false, say at which input.
  Laid BY PROGRAM, IN A SANDBOX (cutbox-rows.mjs): the forced cells as the released guide's own fill.sh prints them over the translation fd2ca46dc895d50f… (all of the seat's roots in one cut). By AI agents, Wed Nov 11 2026. No macro, syntax, notation, axiom, sorry.
-/
import Derived.Test.YtmijnkiopmpjdaaDoorChecked
import GoSem.PinnedTables
import GoSem.Claim
import GoSem.ClaimJoined
import GoSem.ClaimMapViews
import Derived.JoinedTies
import Derived.KernelRfl
namespace Go.Proofs.YtmijnkiopmpjdaaDoor
/- THE CELL 'sum', in the pinned program and in every row, IS THE sha256 OF THE DUMP (.gsa) THAT YtmijnkiopmpjdaaDoorProg.lean LOADS. Nothing in Lean hashes anything: it is a label: what it is worth is what the hold of that sum in a sandbox is worth. -/
noncomputable def Tryd.pinned : Pinned := { name := "ytmijnkiopmpjdaadoor", sum := "fd2ca46dc895d50f395f29b843ca983a6b6fc113ad760b73c09f205643d2faf2", checked := Tryd.checked }
namespace Rows
def none {H : Type} : Left H := { results := [], args := [] }

/- WHAT THE LISTED PACKAGE-LEVEL VARIABLES READ AS WHEN THE CALL BEGINS. Each datum BY PROGRAM (the guide's laid-datum.mjs) off the statement by which the dump's own 'gosem.cut.vars' lays the variable. In a bare row this is a premise. The card (YtmijnkiopmpjdaaDoorCards.lean) ties it to the program's text. -/
def laid_unicode_utf8_acceptRanges {H : Type} : DataW H := .agg [.agg [.lit (.int .u8 128), .lit (.int .u8 191)], .agg [.lit (.int .u8 160), .lit (.int .u8 191)], .agg [.lit (.int .u8 128), .lit (.int .u8 159)], .agg [.lit (.int .u8 144), .lit (.int .u8 191)], .agg [.lit (.int .u8 128), .lit (.int .u8 143)], .agg [.lit (.int .u8 0), .lit (.int .u8 0)], .agg [.lit (.int .u8 0), .lit (.int .u8 0)], .agg [.lit (.int .u8 0), .lit (.int .u8 0)], .agg [.lit (.int .u8 0), .lit (.int .u8 0)], .agg [.lit (.int .u8 0), .lit (.int .u8 0)], .agg [.lit (.int .u8 0), .lit (.int .u8 0)], .agg [.lit (.int .u8 0), .lit (.int .u8 0)], .agg [.lit (.int .u8 0), .lit (.int .u8 0)], .agg [.lit (.int .u8 0), .lit (.int .u8 0)], .agg [.lit (.int .u8 0), .lit (.int .u8 0)], .agg [.lit (.int .u8 0), .lit (.int .u8 0)]]
/-- One of Go's own tables, pinned by name: the form's constant. -/
def laid_unicode_utf8_first : DataW Unit := Go.Pinned.utf8First

/-- 'laws.FnExactReadCookies': WHATEVER THE INPUT: true; the input reads as it did. -/
def fnExactReadCookiesSpec : ChangeSpec := { name := "fnExactReadCookies", fn := fun _ => fun
  | [d] => { results := [.lit (.bool true)], args := [d] }
  | _ => none }
def fnExactReadCookiesRow : OpenClaim := { program := "ytmijnkiopmpjdaadoor", sum := "fd2ca46dc895d50f395f29b843ca983a6b6fc113ad760b73c09f205643d2faf2", func := "loop.example/templateescaper/laws.FnExactReadCookies", spec := "fnExactReadCookies", inPlace := ["internal/bytealg.CountString", "internal/bytealg.IndexByteString", "internal/bytealg.IndexString", "internal/abi.NoEscape"], named := ["unicode/utf8.first", "unicode/utf8.acceptRanges", "internal/bytealg.MaxLen"], apart := false, laid := [("unicode/utf8.acceptRanges", laid_unicode_utf8_acceptRanges), ("unicode/utf8.first", laid_unicode_utf8_first)] }
def FnExactReadCookiesSaid : Prop := fnExactReadCookiesRow.holds Tryd.pinned (OpenSpec.ofChange fnExactReadCookiesSpec)

/-- ITS FALSE NEIGHBOUR: 'it returns false'. Refute it at one input. -/
def fnExactReadCookiesWrong : ChangeSpec := { name := "fnExactReadCookies", fn := fun _ => fun
  | [d] => { results := [.lit (.bool false)], args := [d] }
  | _ => none }
def FnExactReadCookiesWrongFalsely : Prop := fnExactReadCookiesRow.holds Tryd.pinned (OpenSpec.ofChange fnExactReadCookiesWrong)

/-- 'laws.FnCookiesText': WHATEVER THE INPUT: true; the input reads as it did. -/
def fnCookiesTextSpec : ChangeSpec := { name := "fnCookiesText", fn := fun _ => fun
  | [d] => { results := [.lit (.bool true)], args := [d] }
  | _ => none }
def fnCookiesTextRow : OpenClaim := { program := "ytmijnkiopmpjdaadoor", sum := "fd2ca46dc895d50f395f29b843ca983a6b6fc113ad760b73c09f205643d2faf2", func := "loop.example/templateescaper/laws.FnCookiesText", spec := "fnCookiesText", inPlace := ["internal/abi.NoEscape", "internal/bytealg.MakeNoZero", "internal/bytealg.CountString", "internal/bytealg.IndexByteString", "internal/bytealg.IndexString"], named := ["unicode/utf8.first", "unicode/utf8.acceptRanges", "internal/bytealg.MaxLen"], apart := false, laid := [("unicode/utf8.acceptRanges", laid_unicode_utf8_acceptRanges), ("unicode/utf8.first", laid_unicode_utf8_first)] }
def FnCookiesTextSaid : Prop := fnCookiesTextRow.holds Tryd.pinned (OpenSpec.ofChange fnCookiesTextSpec)

/-- ITS FALSE NEIGHBOUR: 'it returns false'. Refute it at one input. -/
def fnCookiesTextWrong : ChangeSpec := { name := "fnCookiesText", fn := fun _ => fun
  | [d] => { results := [.lit (.bool false)], args := [d] }
  | _ => none }
def FnCookiesTextWrongFalsely : Prop := fnCookiesTextRow.holds Tryd.pinned (OpenSpec.ofChange fnCookiesTextWrong)

/-- 'laws.FnReadCookies': WHATEVER THE INPUT: true; the input reads as it did. -/
def fnReadCookiesSpec : ChangeSpec := { name := "fnReadCookies", fn := fun _ => fun
  | [d] => { results := [.lit (.bool true)], args := [d] }
  | _ => none }
def fnReadCookiesRow : OpenClaim := { program := "ytmijnkiopmpjdaadoor", sum := "fd2ca46dc895d50f395f29b843ca983a6b6fc113ad760b73c09f205643d2faf2", func := "loop.example/templateescaper/laws.FnReadCookies", spec := "fnReadCookies", inPlace := ["internal/bytealg.CountString", "internal/bytealg.IndexByteString", "internal/bytealg.IndexString", "internal/abi.NoEscape"], named := ["unicode/utf8.first", "unicode/utf8.acceptRanges", "internal/bytealg.MaxLen"], apart := false, laid := [("unicode/utf8.acceptRanges", laid_unicode_utf8_acceptRanges), ("unicode/utf8.first", laid_unicode_utf8_first)] }
def FnReadCookiesSaid : Prop := fnReadCookiesRow.holds Tryd.pinned (OpenSpec.ofChange fnReadCookiesSpec)

/-- ITS FALSE NEIGHBOUR: 'it returns false'. Refute it at one input. -/
def fnReadCookiesWrong : ChangeSpec := { name := "fnReadCookies", fn := fun _ => fun
  | [d] => { results := [.lit (.bool false)], args := [d] }
  | _ => none }
def FnReadCookiesWrongFalsely : Prop := fnReadCookiesRow.holds Tryd.pinned (OpenSpec.ofChange fnReadCookiesWrong)

/-- 'laws.FnLocationValid': WHATEVER THE INPUT: true; the input reads as it did. -/
def fnLocationValidSpec : ChangeSpec := { name := "fnLocationValid", fn := fun _ => fun
  | [d] => { results := [.lit (.bool true)], args := [d] }
  | _ => none }
def fnLocationValidRow : OpenClaim := { program := "ytmijnkiopmpjdaadoor", sum := "fd2ca46dc895d50f395f29b843ca983a6b6fc113ad760b73c09f205643d2faf2", func := "loop.example/templateescaper/laws.FnLocationValid", spec := "fnLocationValid", inPlace := ["internal/bytealg.CountString", "internal/bytealg.IndexByteString", "internal/bytealg.IndexString", "internal/abi.NoEscape", "internal/bytealg.MakeNoZero"], named := ["unicode/utf8.first", "unicode/utf8.acceptRanges", "internal/bytealg.MaxLen"], apart := false, laid := [("unicode/utf8.acceptRanges", laid_unicode_utf8_acceptRanges), ("unicode/utf8.first", laid_unicode_utf8_first)] }
def FnLocationValidSaid : Prop := fnLocationValidRow.holds Tryd.pinned (OpenSpec.ofChange fnLocationValidSpec)

/-- ITS FALSE NEIGHBOUR: 'it returns false'. Refute it at one input. -/
def fnLocationValidWrong : ChangeSpec := { name := "fnLocationValid", fn := fun _ => fun
  | [d] => { results := [.lit (.bool false)], args := [d] }
  | _ => none }
def FnLocationValidWrongFalsely : Prop := fnLocationValidRow.holds Tryd.pinned (OpenSpec.ofChange fnLocationValidWrong)

/-- 'laws.FnExactLocationValid': WHATEVER THE INPUT: true; the input reads as it did. -/
def fnExactLocationValidSpec : ChangeSpec := { name := "fnExactLocationValid", fn := fun _ => fun
  | [d] => { results := [.lit (.bool true)], args := [d] }
  | _ => none }
def fnExactLocationValidRow : OpenClaim := { program := "ytmijnkiopmpjdaadoor", sum := "fd2ca46dc895d50f395f29b843ca983a6b6fc113ad760b73c09f205643d2faf2", func := "loop.example/templateescaper/laws.FnExactLocationValid", spec := "fnExactLocationValid", inPlace := ["internal/bytealg.CountString", "internal/bytealg.IndexByteString", "internal/bytealg.IndexString", "internal/abi.NoEscape", "internal/bytealg.MakeNoZero"], named := ["unicode/utf8.first", "unicode/utf8.acceptRanges", "internal/bytealg.MaxLen"], apart := false, laid := [("unicode/utf8.acceptRanges", laid_unicode_utf8_acceptRanges), ("unicode/utf8.first", laid_unicode_utf8_first)] }
def FnExactLocationValidSaid : Prop := fnExactLocationValidRow.holds Tryd.pinned (OpenSpec.ofChange fnExactLocationValidSpec)

/-- ITS FALSE NEIGHBOUR: 'it returns false'. Refute it at one input. -/
def fnExactLocationValidWrong : ChangeSpec := { name := "fnExactLocationValid", fn := fun _ => fun
  | [d] => { results := [.lit (.bool false)], args := [d] }
  | _ => none }
def FnExactLocationValidWrongFalsely : Prop := fnExactLocationValidRow.holds Tryd.pinned (OpenSpec.ofChange fnExactLocationValidWrong)

/-- 'laws.FnExactLocationText': WHATEVER THE INPUT: true; the input reads as it did. -/
def fnExactLocationTextSpec : ChangeSpec := { name := "fnExactLocationText", fn := fun _ => fun
  | [d] => { results := [.lit (.bool true)], args := [d] }
  | _ => none }
def fnExactLocationTextRow : OpenClaim := { program := "ytmijnkiopmpjdaadoor", sum := "fd2ca46dc895d50f395f29b843ca983a6b6fc113ad760b73c09f205643d2faf2", func := "loop.example/templateescaper/laws.FnExactLocationText", spec := "fnExactLocationText", inPlace := ["internal/bytealg.CountString", "internal/bytealg.IndexByteString", "internal/bytealg.IndexString", "internal/abi.NoEscape", "internal/bytealg.MakeNoZero"], named := ["unicode/utf8.first", "unicode/utf8.acceptRanges", "internal/bytealg.MaxLen"], apart := false, laid := [("unicode/utf8.acceptRanges", laid_unicode_utf8_acceptRanges), ("unicode/utf8.first", laid_unicode_utf8_first)] }
def FnExactLocationTextSaid : Prop := fnExactLocationTextRow.holds Tryd.pinned (OpenSpec.ofChange fnExactLocationTextSpec)

/-- ITS FALSE NEIGHBOUR: 'it returns false'. Refute it at one input. -/
def fnExactLocationTextWrong : ChangeSpec := { name := "fnExactLocationText", fn := fun _ => fun
  | [d] => { results := [.lit (.bool false)], args := [d] }
  | _ => none }
def FnExactLocationTextWrongFalsely : Prop := fnExactLocationTextRow.holds Tryd.pinned (OpenSpec.ofChange fnExactLocationTextWrong)

/-- 'laws.FnLocationText': WHATEVER THE INPUT: true; the input reads as it did. -/
def fnLocationTextSpec : ChangeSpec := { name := "fnLocationText", fn := fun _ => fun
  | [d] => { results := [.lit (.bool true)], args := [d] }
  | _ => none }
def fnLocationTextRow : OpenClaim := { program := "ytmijnkiopmpjdaadoor", sum := "fd2ca46dc895d50f395f29b843ca983a6b6fc113ad760b73c09f205643d2faf2", func := "loop.example/templateescaper/laws.FnLocationText", spec := "fnLocationText", inPlace := ["internal/bytealg.CountString", "internal/bytealg.IndexByteString", "internal/bytealg.IndexString", "internal/abi.NoEscape", "internal/bytealg.MakeNoZero"], named := ["unicode/utf8.first", "unicode/utf8.acceptRanges", "internal/bytealg.MaxLen"], apart := false, laid := [("unicode/utf8.acceptRanges", laid_unicode_utf8_acceptRanges), ("unicode/utf8.first", laid_unicode_utf8_first)] }
def FnLocationTextSaid : Prop := fnLocationTextRow.holds Tryd.pinned (OpenSpec.ofChange fnLocationTextSpec)

/-- ITS FALSE NEIGHBOUR: 'it returns false'. Refute it at one input. -/
def fnLocationTextWrong : ChangeSpec := { name := "fnLocationText", fn := fun _ => fun
  | [d] => { results := [.lit (.bool false)], args := [d] }
  | _ => none }
def FnLocationTextWrongFalsely : Prop := fnLocationTextRow.holds Tryd.pinned (OpenSpec.ofChange fnLocationTextWrong)

/-- 'laws.FnExactReadLocation': WHATEVER THE INPUT: true; the input reads as it did. -/
def fnExactReadLocationSpec : ChangeSpec := { name := "fnExactReadLocation", fn := fun _ => fun
  | [d] => { results := [.lit (.bool true)], args := [d] }
  | _ => none }
def fnExactReadLocationRow : OpenClaim := { program := "ytmijnkiopmpjdaadoor", sum := "fd2ca46dc895d50f395f29b843ca983a6b6fc113ad760b73c09f205643d2faf2", func := "loop.example/templateescaper/laws.FnExactReadLocation", spec := "fnExactReadLocation", inPlace := ["internal/bytealg.IndexByteString", "internal/bytealg.IndexString", "internal/bytealg.CountString", "internal/abi.NoEscape", "internal/bytealg.MakeNoZero"], named := ["internal/bytealg.MaxLen", "unicode/utf8.first", "unicode/utf8.acceptRanges"], apart := false, laid := [("unicode/utf8.acceptRanges", laid_unicode_utf8_acceptRanges), ("unicode/utf8.first", laid_unicode_utf8_first)] }
def FnExactReadLocationSaid : Prop := fnExactReadLocationRow.holds Tryd.pinned (OpenSpec.ofChange fnExactReadLocationSpec)

/-- ITS FALSE NEIGHBOUR: 'it returns false'. Refute it at one input. -/
def fnExactReadLocationWrong : ChangeSpec := { name := "fnExactReadLocation", fn := fun _ => fun
  | [d] => { results := [.lit (.bool false)], args := [d] }
  | _ => none }
def FnExactReadLocationWrongFalsely : Prop := fnExactReadLocationRow.holds Tryd.pinned (OpenSpec.ofChange fnExactReadLocationWrong)

/-- 'laws.FnReadLocation': WHATEVER THE INPUT: true; the input reads as it did. -/
def fnReadLocationSpec : ChangeSpec := { name := "fnReadLocation", fn := fun _ => fun
  | [d] => { results := [.lit (.bool true)], args := [d] }
  | _ => none }
def fnReadLocationRow : OpenClaim := { program := "ytmijnkiopmpjdaadoor", sum := "fd2ca46dc895d50f395f29b843ca983a6b6fc113ad760b73c09f205643d2faf2", func := "loop.example/templateescaper/laws.FnReadLocation", spec := "fnReadLocation", inPlace := ["internal/bytealg.IndexByteString", "internal/bytealg.IndexString", "internal/bytealg.CountString", "internal/abi.NoEscape", "internal/bytealg.MakeNoZero"], named := ["internal/bytealg.MaxLen", "unicode/utf8.first", "unicode/utf8.acceptRanges"], apart := false, laid := [("unicode/utf8.acceptRanges", laid_unicode_utf8_acceptRanges), ("unicode/utf8.first", laid_unicode_utf8_first)] }
def FnReadLocationSaid : Prop := fnReadLocationRow.holds Tryd.pinned (OpenSpec.ofChange fnReadLocationSpec)

/-- ITS FALSE NEIGHBOUR: 'it returns false'. Refute it at one input. -/
def fnReadLocationWrong : ChangeSpec := { name := "fnReadLocation", fn := fun _ => fun
  | [d] => { results := [.lit (.bool false)], args := [d] }
  | _ => none }
def FnReadLocationWrongFalsely : Prop := fnReadLocationRow.holds Tryd.pinned (OpenSpec.ofChange fnReadLocationWrong)

/-- 'laws.FnResolveLocation': WHATEVER THE INPUT: true; the input reads as it did. -/
def fnResolveLocationSpec : ChangeSpec := { name := "fnResolveLocation", fn := fun _ => fun
  | [d] => { results := [.lit (.bool true)], args := [d] }
  | _ => none }
def fnResolveLocationRow : OpenClaim := { program := "ytmijnkiopmpjdaadoor", sum := "fd2ca46dc895d50f395f29b843ca983a6b6fc113ad760b73c09f205643d2faf2", func := "loop.example/templateescaper/laws.FnResolveLocation", spec := "fnResolveLocation", inPlace := ["internal/bytealg.CountString", "internal/bytealg.IndexByteString", "internal/bytealg.IndexString", "internal/abi.NoEscape", "internal/bytealg.MakeNoZero"], named := ["unicode/utf8.first", "unicode/utf8.acceptRanges", "internal/bytealg.MaxLen"], apart := false, laid := [("unicode/utf8.acceptRanges", laid_unicode_utf8_acceptRanges), ("unicode/utf8.first", laid_unicode_utf8_first)] }
def FnResolveLocationSaid : Prop := fnResolveLocationRow.holds Tryd.pinned (OpenSpec.ofChange fnResolveLocationSpec)

/-- ITS FALSE NEIGHBOUR: 'it returns false'. Refute it at one input. -/
def fnResolveLocationWrong : ChangeSpec := { name := "fnResolveLocation", fn := fun _ => fun
  | [d] => { results := [.lit (.bool false)], args := [d] }
  | _ => none }
def FnResolveLocationWrongFalsely : Prop := fnResolveLocationRow.holds Tryd.pinned (OpenSpec.ofChange fnResolveLocationWrong)

/- THE SECOND FORM. 'bulk': how many values and letters a reading holds, each counted each time it is reached (what is shared counts as often as it is met; a slice's spare places count too). A statement '..UptoSaid' is the law's where the arguments, and the package variables that the reading takes, are together of bulk at most 1048576: NARROWER than '..Said'. Prove '..Said' where nothing that the law and all that it calls make is longer than what came in: it says more and counts as full. Else prove '..UptoSaid'. A law counts once. -/
mutual
def uptoBulk {H : Type} : DataW H → Nat
  | .lit (.string bytes) => bytes.length + 1
  | .lit _ => 1
  | .nil => 1
  | .ptr d => uptoBulk d + 1
  | .slice elems spare => uptoBulkAll elems + uptoBulkAll spare + 1
  | .agg parts => uptoBulkAll parts + 1
  | .iface _ d => uptoBulk d + 1
  | .map entries => uptoBulkEntries entries + 1
  | .held _ => 1
def uptoBulkAll {H : Type} : List (DataW H) → Nat
  | [] => 0
  | d :: r => uptoBulk d + uptoBulkAll r
def uptoBulkEntries {H : Type} : List (Lit × DataW H) → Nat
  | [] => 0
  | x :: r => uptoBulkEntry x + uptoBulkEntries r
def uptoBulkEntry {H : Type} : Lit × DataW H → Nat
  | (.string bytes, d) => bytes.length + uptoBulk d + 1
  | (_, d) => uptoBulk d + 1
 end
def uptoSmall : (H : Type) → List (DataW H) → Bool := fun _ ds => decide (uptoBulkAll ds ≤ 1048576)
def OpenSpec.upto (s : _root_.Go.ChangeSpec) : _root_.Go.OpenSpec := { _root_.Go.OpenSpec.ofChange s with cond := some uptoSmall }

/-- 'laws.FnExactReadCookies', WHERE WHAT IT READS IS OF BULK AT MOST 1048576: true; the input reads as it did. -/
def fnExactReadCookiesUptoRow : OpenClaim := { program := "ytmijnkiopmpjdaadoor", sum := "fd2ca46dc895d50f395f29b843ca983a6b6fc113ad760b73c09f205643d2faf2", func := "loop.example/templateescaper/laws.FnExactReadCookies", spec := "fnExactReadCookies", inPlace := ["internal/bytealg.CountString", "internal/bytealg.IndexByteString", "internal/bytealg.IndexString", "internal/abi.NoEscape"], named := ["unicode/utf8.first", "unicode/utf8.acceptRanges", "internal/bytealg.MaxLen"], apart := false, laid := [("unicode/utf8.acceptRanges", laid_unicode_utf8_acceptRanges), ("unicode/utf8.first", laid_unicode_utf8_first)], narrowed := true }
def FnExactReadCookiesUptoSaid : Prop := fnExactReadCookiesUptoRow.holds Tryd.pinned (OpenSpec.upto fnExactReadCookiesSpec)

/-- 'laws.FnCookiesText', WHERE WHAT IT READS IS OF BULK AT MOST 1048576: true; the input reads as it did. -/
def fnCookiesTextUptoRow : OpenClaim := { program := "ytmijnkiopmpjdaadoor", sum := "fd2ca46dc895d50f395f29b843ca983a6b6fc113ad760b73c09f205643d2faf2", func := "loop.example/templateescaper/laws.FnCookiesText", spec := "fnCookiesText", inPlace := ["internal/abi.NoEscape", "internal/bytealg.MakeNoZero", "internal/bytealg.CountString", "internal/bytealg.IndexByteString", "internal/bytealg.IndexString"], named := ["unicode/utf8.first", "unicode/utf8.acceptRanges", "internal/bytealg.MaxLen"], apart := false, laid := [("unicode/utf8.acceptRanges", laid_unicode_utf8_acceptRanges), ("unicode/utf8.first", laid_unicode_utf8_first)], narrowed := true }
def FnCookiesTextUptoSaid : Prop := fnCookiesTextUptoRow.holds Tryd.pinned (OpenSpec.upto fnCookiesTextSpec)

/-- 'laws.FnReadCookies', WHERE WHAT IT READS IS OF BULK AT MOST 1048576: true; the input reads as it did. -/
def fnReadCookiesUptoRow : OpenClaim := { program := "ytmijnkiopmpjdaadoor", sum := "fd2ca46dc895d50f395f29b843ca983a6b6fc113ad760b73c09f205643d2faf2", func := "loop.example/templateescaper/laws.FnReadCookies", spec := "fnReadCookies", inPlace := ["internal/bytealg.CountString", "internal/bytealg.IndexByteString", "internal/bytealg.IndexString", "internal/abi.NoEscape"], named := ["unicode/utf8.first", "unicode/utf8.acceptRanges", "internal/bytealg.MaxLen"], apart := false, laid := [("unicode/utf8.acceptRanges", laid_unicode_utf8_acceptRanges), ("unicode/utf8.first", laid_unicode_utf8_first)], narrowed := true }
def FnReadCookiesUptoSaid : Prop := fnReadCookiesUptoRow.holds Tryd.pinned (OpenSpec.upto fnReadCookiesSpec)

/-- 'laws.FnLocationValid', WHERE WHAT IT READS IS OF BULK AT MOST 1048576: true; the input reads as it did. -/
def fnLocationValidUptoRow : OpenClaim := { program := "ytmijnkiopmpjdaadoor", sum := "fd2ca46dc895d50f395f29b843ca983a6b6fc113ad760b73c09f205643d2faf2", func := "loop.example/templateescaper/laws.FnLocationValid", spec := "fnLocationValid", inPlace := ["internal/bytealg.CountString", "internal/bytealg.IndexByteString", "internal/bytealg.IndexString", "internal/abi.NoEscape", "internal/bytealg.MakeNoZero"], named := ["unicode/utf8.first", "unicode/utf8.acceptRanges", "internal/bytealg.MaxLen"], apart := false, laid := [("unicode/utf8.acceptRanges", laid_unicode_utf8_acceptRanges), ("unicode/utf8.first", laid_unicode_utf8_first)], narrowed := true }
def FnLocationValidUptoSaid : Prop := fnLocationValidUptoRow.holds Tryd.pinned (OpenSpec.upto fnLocationValidSpec)

/-- 'laws.FnExactLocationValid', WHERE WHAT IT READS IS OF BULK AT MOST 1048576: true; the input reads as it did. -/
def fnExactLocationValidUptoRow : OpenClaim := { program := "ytmijnkiopmpjdaadoor", sum := "fd2ca46dc895d50f395f29b843ca983a6b6fc113ad760b73c09f205643d2faf2", func := "loop.example/templateescaper/laws.FnExactLocationValid", spec := "fnExactLocationValid", inPlace := ["internal/bytealg.CountString", "internal/bytealg.IndexByteString", "internal/bytealg.IndexString", "internal/abi.NoEscape", "internal/bytealg.MakeNoZero"], named := ["unicode/utf8.first", "unicode/utf8.acceptRanges", "internal/bytealg.MaxLen"], apart := false, laid := [("unicode/utf8.acceptRanges", laid_unicode_utf8_acceptRanges), ("unicode/utf8.first", laid_unicode_utf8_first)], narrowed := true }
def FnExactLocationValidUptoSaid : Prop := fnExactLocationValidUptoRow.holds Tryd.pinned (OpenSpec.upto fnExactLocationValidSpec)

/-- 'laws.FnExactLocationText', WHERE WHAT IT READS IS OF BULK AT MOST 1048576: true; the input reads as it did. -/
def fnExactLocationTextUptoRow : OpenClaim := { program := "ytmijnkiopmpjdaadoor", sum := "fd2ca46dc895d50f395f29b843ca983a6b6fc113ad760b73c09f205643d2faf2", func := "loop.example/templateescaper/laws.FnExactLocationText", spec := "fnExactLocationText", inPlace := ["internal/bytealg.CountString", "internal/bytealg.IndexByteString", "internal/bytealg.IndexString", "internal/abi.NoEscape", "internal/bytealg.MakeNoZero"], named := ["unicode/utf8.first", "unicode/utf8.acceptRanges", "internal/bytealg.MaxLen"], apart := false, laid := [("unicode/utf8.acceptRanges", laid_unicode_utf8_acceptRanges), ("unicode/utf8.first", laid_unicode_utf8_first)], narrowed := true }
def FnExactLocationTextUptoSaid : Prop := fnExactLocationTextUptoRow.holds Tryd.pinned (OpenSpec.upto fnExactLocationTextSpec)

/-- 'laws.FnLocationText', WHERE WHAT IT READS IS OF BULK AT MOST 1048576: true; the input reads as it did. -/
def fnLocationTextUptoRow : OpenClaim := { program := "ytmijnkiopmpjdaadoor", sum := "fd2ca46dc895d50f395f29b843ca983a6b6fc113ad760b73c09f205643d2faf2", func := "loop.example/templateescaper/laws.FnLocationText", spec := "fnLocationText", inPlace := ["internal/bytealg.CountString", "internal/bytealg.IndexByteString", "internal/bytealg.IndexString", "internal/abi.NoEscape", "internal/bytealg.MakeNoZero"], named := ["unicode/utf8.first", "unicode/utf8.acceptRanges", "internal/bytealg.MaxLen"], apart := false, laid := [("unicode/utf8.acceptRanges", laid_unicode_utf8_acceptRanges), ("unicode/utf8.first", laid_unicode_utf8_first)], narrowed := true }
def FnLocationTextUptoSaid : Prop := fnLocationTextUptoRow.holds Tryd.pinned (OpenSpec.upto fnLocationTextSpec)

/-- 'laws.FnExactReadLocation', WHERE WHAT IT READS IS OF BULK AT MOST 1048576: true; the input reads as it did. -/
def fnExactReadLocationUptoRow : OpenClaim := { program := "ytmijnkiopmpjdaadoor", sum := "fd2ca46dc895d50f395f29b843ca983a6b6fc113ad760b73c09f205643d2faf2", func := "loop.example/templateescaper/laws.FnExactReadLocation", spec := "fnExactReadLocation", inPlace := ["internal/bytealg.IndexByteString", "internal/bytealg.IndexString", "internal/bytealg.CountString", "internal/abi.NoEscape", "internal/bytealg.MakeNoZero"], named := ["internal/bytealg.MaxLen", "unicode/utf8.first", "unicode/utf8.acceptRanges"], apart := false, laid := [("unicode/utf8.acceptRanges", laid_unicode_utf8_acceptRanges), ("unicode/utf8.first", laid_unicode_utf8_first)], narrowed := true }
def FnExactReadLocationUptoSaid : Prop := fnExactReadLocationUptoRow.holds Tryd.pinned (OpenSpec.upto fnExactReadLocationSpec)

/-- 'laws.FnReadLocation', WHERE WHAT IT READS IS OF BULK AT MOST 1048576: true; the input reads as it did. -/
def fnReadLocationUptoRow : OpenClaim := { program := "ytmijnkiopmpjdaadoor", sum := "fd2ca46dc895d50f395f29b843ca983a6b6fc113ad760b73c09f205643d2faf2", func := "loop.example/templateescaper/laws.FnReadLocation", spec := "fnReadLocation", inPlace := ["internal/bytealg.IndexByteString", "internal/bytealg.IndexString", "internal/bytealg.CountString", "internal/abi.NoEscape", "internal/bytealg.MakeNoZero"], named := ["internal/bytealg.MaxLen", "unicode/utf8.first", "unicode/utf8.acceptRanges"], apart := false, laid := [("unicode/utf8.acceptRanges", laid_unicode_utf8_acceptRanges), ("unicode/utf8.first", laid_unicode_utf8_first)], narrowed := true }
def FnReadLocationUptoSaid : Prop := fnReadLocationUptoRow.holds Tryd.pinned (OpenSpec.upto fnReadLocationSpec)

/-- 'laws.FnResolveLocation', WHERE WHAT IT READS IS OF BULK AT MOST 1048576: true; the input reads as it did. -/
def fnResolveLocationUptoRow : OpenClaim := { program := "ytmijnkiopmpjdaadoor", sum := "fd2ca46dc895d50f395f29b843ca983a6b6fc113ad760b73c09f205643d2faf2", func := "loop.example/templateescaper/laws.FnResolveLocation", spec := "fnResolveLocation", inPlace := ["internal/bytealg.CountString", "internal/bytealg.IndexByteString", "internal/bytealg.IndexString", "internal/abi.NoEscape", "internal/bytealg.MakeNoZero"], named := ["unicode/utf8.first", "unicode/utf8.acceptRanges", "internal/bytealg.MaxLen"], apart := false, laid := [("unicode/utf8.acceptRanges", laid_unicode_utf8_acceptRanges), ("unicode/utf8.first", laid_unicode_utf8_first)], narrowed := true }
def FnResolveLocationUptoSaid : Prop := fnResolveLocationUptoRow.holds Tryd.pinned (OpenSpec.upto fnResolveLocationSpec)

end Rows
end Go.Proofs.YtmijnkiopmpjdaaDoor
