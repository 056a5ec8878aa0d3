/-
  No cell of these rows narrows 'for every input' (looked for: loops, veiled, ifaces, maps, wideKeys, modest, calm, conditions, laid).
  DERIVED. THE GIVEN ROWS OF THIS SEAT. 5 by the template 'for every input the law returns true; each argument reads behind the call as it read before'; 0 by the template 'total and deterministic' (their statements: YtoliccpjdkdhjaaTotals.lean).
  GIVEN WITH THE SEED: the statements are not yours to turn. If you find one false, say at which input.
  Laid BY PROGRAM, IN A SANDBOX (cutbox-rows.mjs): the forced cells as the released guide's own fill.sh prints them over the translation 460c8fbab6f4fe01… (all of the seat's roots in one cut). By AI agents, Wed Nov 11 2026. No macro, syntax, notation, axiom, sorry.
-/
import Derived.Test.YtoliccpjdkdhjaaChecked
import GoSem.Claim
import GoSem.ClaimJoined
import GoSem.ClaimMapViews
import Derived.JoinedTies
import Derived.KernelRfl
namespace Go.Proofs.Ytoliccpjdkdhjaa
/- THE CELL 'sum', in the pinned program and in every row, IS THE sha256 OF THE DUMP (.gsa) THAT YtoliccpjdkdhjaaProg.lean LOADS. Nothing in Lean hashes anything: it is a label: what it is worth is what the hold of that sum in a sandbox is worth. -/
noncomputable def Try.pinned : Pinned := { name := "ytoliccpjdkdhjaa", sum := "460c8fbab6f4fe017c8f6635c04427413b203d6011d929f1a889ae71401e5cd5", checked := Try.checked }
namespace Rows
def none {H : Type} : Left H := { results := [], args := [] }

/-- 'laws.FnCookiesValid': WHATEVER THE INPUT: true; the input reads as it did. -/
def fnCookiesValidSpec : ChangeSpec := { name := "fnCookiesValid", fn := fun _ => fun
  | [d] => { results := [.lit (.bool true)], args := [d] }
  | _ => none }
def fnCookiesValidRow : OpenClaim := { program := "ytoliccpjdkdhjaa", sum := "460c8fbab6f4fe017c8f6635c04427413b203d6011d929f1a889ae71401e5cd5", func := "loop.example/templateescaper/laws.FnCookiesValid", spec := "fnCookiesValid", apart := false }
def FnCookiesValidSaid : Prop := fnCookiesValidRow.holds Try.pinned (OpenSpec.ofChange fnCookiesValidSpec)

/-- ITS FALSE NEIGHBOUR: 'it returns false'. Refute it at one input. -/
def fnCookiesValidWrong : ChangeSpec := { name := "fnCookiesValid", fn := fun _ => fun
  | [d] => { results := [.lit (.bool false)], args := [d] }
  | _ => none }
def FnCookiesValidWrongFalsely : Prop := fnCookiesValidRow.holds Try.pinned (OpenSpec.ofChange fnCookiesValidWrong)

/-- 'laws.FnExactCookiesValid': WHATEVER THE INPUT: true; the input reads as it did. -/
def fnExactCookiesValidSpec : ChangeSpec := { name := "fnExactCookiesValid", fn := fun _ => fun
  | [d] => { results := [.lit (.bool true)], args := [d] }
  | _ => none }
def fnExactCookiesValidRow : OpenClaim := { program := "ytoliccpjdkdhjaa", sum := "460c8fbab6f4fe017c8f6635c04427413b203d6011d929f1a889ae71401e5cd5", func := "loop.example/templateescaper/laws.FnExactCookiesValid", spec := "fnExactCookiesValid", apart := false }
def FnExactCookiesValidSaid : Prop := fnExactCookiesValidRow.holds Try.pinned (OpenSpec.ofChange fnExactCookiesValidSpec)

/-- ITS FALSE NEIGHBOUR: 'it returns false'. Refute it at one input. -/
def fnExactCookiesValidWrong : ChangeSpec := { name := "fnExactCookiesValid", fn := fun _ => fun
  | [d] => { results := [.lit (.bool false)], args := [d] }
  | _ => none }
def FnExactCookiesValidWrongFalsely : Prop := fnExactCookiesValidRow.holds Try.pinned (OpenSpec.ofChange fnExactCookiesValidWrong)

/-- 'laws.FnKeepCookie': WHATEVER THE INPUT: true; the input reads as it did. -/
def fnKeepCookieSpec : ChangeSpec := { name := "fnKeepCookie", fn := fun _ => fun
  | [d] => { results := [.lit (.bool true)], args := [d] }
  | _ => none }
def fnKeepCookieRow : OpenClaim := { program := "ytoliccpjdkdhjaa", sum := "460c8fbab6f4fe017c8f6635c04427413b203d6011d929f1a889ae71401e5cd5", func := "loop.example/templateescaper/laws.FnKeepCookie", spec := "fnKeepCookie", apart := false }
def FnKeepCookieSaid : Prop := fnKeepCookieRow.holds Try.pinned (OpenSpec.ofChange fnKeepCookieSpec)

/-- ITS FALSE NEIGHBOUR: 'it returns false'. Refute it at one input. -/
def fnKeepCookieWrong : ChangeSpec := { name := "fnKeepCookie", fn := fun _ => fun
  | [d] => { results := [.lit (.bool false)], args := [d] }
  | _ => none }
def FnKeepCookieWrongFalsely : Prop := fnKeepCookieRow.holds Try.pinned (OpenSpec.ofChange fnKeepCookieWrong)

/-- 'laws.FnExactKeepCookie': WHATEVER THE INPUT: true; the input reads as it did. -/
def fnExactKeepCookieSpec : ChangeSpec := { name := "fnExactKeepCookie", fn := fun _ => fun
  | [d1, d2, d3] => { results := [.lit (.bool true)], args := [d1, d2, d3] }
  | _ => none }
def fnExactKeepCookieRow : OpenClaim := { program := "ytoliccpjdkdhjaa", sum := "460c8fbab6f4fe017c8f6635c04427413b203d6011d929f1a889ae71401e5cd5", func := "loop.example/templateescaper/laws.FnExactKeepCookie", spec := "fnExactKeepCookie", apart := false }
def FnExactKeepCookieSaid : Prop := fnExactKeepCookieRow.holds Try.pinned (OpenSpec.ofChange fnExactKeepCookieSpec)

/-- ITS FALSE NEIGHBOUR: 'it returns false'. Refute it at one input. -/
def fnExactKeepCookieWrong : ChangeSpec := { name := "fnExactKeepCookie", fn := fun _ => fun
  | [d1, d2, d3] => { results := [.lit (.bool false)], args := [d1, d2, d3] }
  | _ => none }
def FnExactKeepCookieWrongFalsely : Prop := fnExactKeepCookieRow.holds Try.pinned (OpenSpec.ofChange fnExactKeepCookieWrong)

/-- 'laws.FnExactCookiesText': WHATEVER THE INPUT: true; the input reads as it did. -/
def fnExactCookiesTextSpec : ChangeSpec := { name := "fnExactCookiesText", fn := fun _ => fun
  | [d1, d2] => { results := [.lit (.bool true)], args := [d1, d2] }
  | _ => none }
def fnExactCookiesTextRow : OpenClaim := { program := "ytoliccpjdkdhjaa", sum := "460c8fbab6f4fe017c8f6635c04427413b203d6011d929f1a889ae71401e5cd5", func := "loop.example/templateescaper/laws.FnExactCookiesText", spec := "fnExactCookiesText", inPlace := ["internal/abi.NoEscape", "internal/bytealg.MakeNoZero"], apart := false }
def FnExactCookiesTextSaid : Prop := fnExactCookiesTextRow.holds Try.pinned (OpenSpec.ofChange fnExactCookiesTextSpec)

/-- ITS FALSE NEIGHBOUR: 'it returns false'. Refute it at one input. -/
def fnExactCookiesTextWrong : ChangeSpec := { name := "fnExactCookiesText", fn := fun _ => fun
  | [d1, d2] => { results := [.lit (.bool false)], args := [d1, d2] }
  | _ => none }
def FnExactCookiesTextWrongFalsely : Prop := fnExactCookiesTextRow.holds Try.pinned (OpenSpec.ofChange fnExactCookiesTextWrong)

/- THE SECOND FORM. 'bulk': how many values and letters a reading holds, each counted each time it is reached (what is shared counts as often as it is met; a slice's spare places count too). A statement '..UptoSaid' is the law's where the arguments, and the package variables that the reading takes, are together of bulk at most 1048576: NARROWER than '..Said'. Prove '..Said' where nothing that the law and all that it calls make is longer than what came in: it says more and counts as full. Else prove '..UptoSaid'. A law counts once. -/
mutual
def uptoBulk {H : Type} : DataW H → Nat
  | .lit (.string bytes) => bytes.length + 1
  | .lit _ => 1
  | .nil => 1
  | .ptr d => uptoBulk d + 1
  | .slice elems spare => uptoBulkAll elems + uptoBulkAll spare + 1
  | .agg parts => uptoBulkAll parts + 1
  | .iface _ d => uptoBulk d + 1
  | .map entries => uptoBulkEntries entries + 1
  | .held _ => 1
def uptoBulkAll {H : Type} : List (DataW H) → Nat
  | [] => 0
  | d :: r => uptoBulk d + uptoBulkAll r
def uptoBulkEntries {H : Type} : List (Lit × DataW H) → Nat
  | [] => 0
  | x :: r => uptoBulkEntry x + uptoBulkEntries r
def uptoBulkEntry {H : Type} : Lit × DataW H → Nat
  | (.string bytes, d) => bytes.length + uptoBulk d + 1
  | (_, d) => uptoBulk d + 1
 end
def uptoSmall : (H : Type) → List (DataW H) → Bool := fun _ ds => decide (uptoBulkAll ds ≤ 1048576)
def OpenSpec.upto (s : _root_.Go.ChangeSpec) : _root_.Go.OpenSpec := { _root_.Go.OpenSpec.ofChange s with cond := some uptoSmall }

/-- 'laws.FnCookiesValid', WHERE WHAT IT READS IS OF BULK AT MOST 1048576: true; the input reads as it did. -/
def fnCookiesValidUptoRow : OpenClaim := { program := "ytoliccpjdkdhjaa", sum := "460c8fbab6f4fe017c8f6635c04427413b203d6011d929f1a889ae71401e5cd5", func := "loop.example/templateescaper/laws.FnCookiesValid", spec := "fnCookiesValid", apart := false, narrowed := true }
def FnCookiesValidUptoSaid : Prop := fnCookiesValidUptoRow.holds Try.pinned (OpenSpec.upto fnCookiesValidSpec)

/-- 'laws.FnExactCookiesValid', WHERE WHAT IT READS IS OF BULK AT MOST 1048576: true; the input reads as it did. -/
def fnExactCookiesValidUptoRow : OpenClaim := { program := "ytoliccpjdkdhjaa", sum := "460c8fbab6f4fe017c8f6635c04427413b203d6011d929f1a889ae71401e5cd5", func := "loop.example/templateescaper/laws.FnExactCookiesValid", spec := "fnExactCookiesValid", apart := false, narrowed := true }
def FnExactCookiesValidUptoSaid : Prop := fnExactCookiesValidUptoRow.holds Try.pinned (OpenSpec.upto fnExactCookiesValidSpec)

/-- 'laws.FnKeepCookie', WHERE WHAT IT READS IS OF BULK AT MOST 1048576: true; the input reads as it did. -/
def fnKeepCookieUptoRow : OpenClaim := { program := "ytoliccpjdkdhjaa", sum := "460c8fbab6f4fe017c8f6635c04427413b203d6011d929f1a889ae71401e5cd5", func := "loop.example/templateescaper/laws.FnKeepCookie", spec := "fnKeepCookie", apart := false, narrowed := true }
def FnKeepCookieUptoSaid : Prop := fnKeepCookieUptoRow.holds Try.pinned (OpenSpec.upto fnKeepCookieSpec)

/-- 'laws.FnExactKeepCookie', WHERE WHAT IT READS IS OF BULK AT MOST 1048576: true; the input reads as it did. -/
def fnExactKeepCookieUptoRow : OpenClaim := { program := "ytoliccpjdkdhjaa", sum := "460c8fbab6f4fe017c8f6635c04427413b203d6011d929f1a889ae71401e5cd5", func := "loop.example/templateescaper/laws.FnExactKeepCookie", spec := "fnExactKeepCookie", apart := false, narrowed := true }
def FnExactKeepCookieUptoSaid : Prop := fnExactKeepCookieUptoRow.holds Try.pinned (OpenSpec.upto fnExactKeepCookieSpec)

/-- 'laws.FnExactCookiesText', WHERE WHAT IT READS IS OF BULK AT MOST 1048576: true; the input reads as it did. -/
def fnExactCookiesTextUptoRow : OpenClaim := { program := "ytoliccpjdkdhjaa", sum := "460c8fbab6f4fe017c8f6635c04427413b203d6011d929f1a889ae71401e5cd5", func := "loop.example/templateescaper/laws.FnExactCookiesText", spec := "fnExactCookiesText", inPlace := ["internal/abi.NoEscape", "internal/bytealg.MakeNoZero"], apart := false, narrowed := true }
def FnExactCookiesTextUptoSaid : Prop := fnExactCookiesTextUptoRow.holds Try.pinned (OpenSpec.upto fnExactCookiesTextSpec)

end Rows
end Go.Proofs.Ytoliccpjdkdhjaa
