/-
  No cell of these rows narrows 'for every input' (looked for: loops, veiled, ifaces, maps, wideKeys, modest, calm, conditions, laid).
  DERIVED. THE GIVEN ROWS OF THIS SEAT. 6 by the template 'for every input the law returns true; each argument reads behind the call as it read before'; 0 by the template 'total and deterministic' (their statements: YtaipignkkbknfaaTotals.lean).
  GIVEN WITH THE SEED: the statements are not yours to turn. If you find one false, say at which input.
  Laid BY PROGRAM, IN A SANDBOX (cutbox-rows.mjs): the forced cells as the released guide's own fill.sh prints them over the translation a7335882e68179e3… (all of the seat's roots in one cut). By AI agents, Wed Nov 11 2026. No macro, syntax, notation, axiom, sorry.
-/
import Derived.Test.YtaipignkkbknfaaChecked
import GoSem.Claim
import GoSem.ClaimJoined
import GoSem.ClaimMapViews
import Derived.JoinedTies
import Derived.KernelRfl
namespace Go.Proofs.Ytaipignkkbknfaa
/- THE CELL 'sum', in the pinned program and in every row, IS THE sha256 OF THE DUMP (.gsa) THAT YtaipignkkbknfaaProg.lean LOADS. Nothing in Lean hashes anything: it is a label: what it is worth is what the hold of that sum in a sandbox is worth. -/
noncomputable def Try.pinned : Pinned := { name := "ytaipignkkbknfaa", sum := "a7335882e68179e3a9c6992afce3117e687f27162279e682069e157f961ae01c", checked := Try.checked }
namespace Rows
def none {H : Type} : Left H := { results := [], args := [] }

/-- 'laws.FnExactStylesText': WHATEVER THE INPUT: true; the input reads as it did. -/
def fnExactStylesTextSpec : ChangeSpec := { name := "fnExactStylesText", fn := fun _ => fun
  | [d] => { results := [.lit (.bool true)], args := [d] }
  | _ => none }
def fnExactStylesTextRow : OpenClaim := { program := "ytaipignkkbknfaa", sum := "a7335882e68179e3a9c6992afce3117e687f27162279e682069e157f961ae01c", func := "loop.example/templateescaper/laws.FnExactStylesText", spec := "fnExactStylesText", inPlace := ["internal/abi.NoEscape", "internal/bytealg.MakeNoZero"], apart := false }
def FnExactStylesTextSaid : Prop := fnExactStylesTextRow.holds Try.pinned (OpenSpec.ofChange fnExactStylesTextSpec)

/-- ITS FALSE NEIGHBOUR: 'it returns false'. Refute it at one input. -/
def fnExactStylesTextWrong : ChangeSpec := { name := "fnExactStylesText", fn := fun _ => fun
  | [d] => { results := [.lit (.bool false)], args := [d] }
  | _ => none }
def FnExactStylesTextWrongFalsely : Prop := fnExactStylesTextRow.holds Try.pinned (OpenSpec.ofChange fnExactStylesTextWrong)

/-- 'laws.FnAskedValid': WHATEVER THE INPUT: true; the input reads as it did. -/
def fnAskedValidSpec : ChangeSpec := { name := "fnAskedValid", fn := fun _ => fun
  | [d] => { results := [.lit (.bool true)], args := [d] }
  | _ => none }
def fnAskedValidRow : OpenClaim := { program := "ytaipignkkbknfaa", sum := "a7335882e68179e3a9c6992afce3117e687f27162279e682069e157f961ae01c", func := "loop.example/templateescaper/laws.FnAskedValid", spec := "fnAskedValid", apart := false }
def FnAskedValidSaid : Prop := fnAskedValidRow.holds Try.pinned (OpenSpec.ofChange fnAskedValidSpec)

/-- ITS FALSE NEIGHBOUR: 'it returns false'. Refute it at one input. -/
def fnAskedValidWrong : ChangeSpec := { name := "fnAskedValid", fn := fun _ => fun
  | [d] => { results := [.lit (.bool false)], args := [d] }
  | _ => none }
def FnAskedValidWrongFalsely : Prop := fnAskedValidRow.holds Try.pinned (OpenSpec.ofChange fnAskedValidWrong)

/-- 'laws.FnSetAsked': WHATEVER THE INPUT: true; the input reads as it did. -/
def fnSetAskedSpec : ChangeSpec := { name := "fnSetAsked", fn := fun _ => fun
  | [d] => { results := [.lit (.bool true)], args := [d] }
  | _ => none }
def fnSetAskedRow : OpenClaim := { program := "ytaipignkkbknfaa", sum := "a7335882e68179e3a9c6992afce3117e687f27162279e682069e157f961ae01c", func := "loop.example/templateescaper/laws.FnSetAsked", spec := "fnSetAsked", apart := false }
def FnSetAskedSaid : Prop := fnSetAskedRow.holds Try.pinned (OpenSpec.ofChange fnSetAskedSpec)

/-- ITS FALSE NEIGHBOUR: 'it returns false'. Refute it at one input. -/
def fnSetAskedWrong : ChangeSpec := { name := "fnSetAsked", fn := fun _ => fun
  | [d] => { results := [.lit (.bool false)], args := [d] }
  | _ => none }
def FnSetAskedWrongFalsely : Prop := fnSetAskedRow.holds Try.pinned (OpenSpec.ofChange fnSetAskedWrong)

/-- 'laws.FnCookiesValid': WHATEVER THE INPUT: true; the input reads as it did. -/
def fnCookiesValidSpec : ChangeSpec := { name := "fnCookiesValid", fn := fun _ => fun
  | [d] => { results := [.lit (.bool true)], args := [d] }
  | _ => none }
def fnCookiesValidRow : OpenClaim := { program := "ytaipignkkbknfaa", sum := "a7335882e68179e3a9c6992afce3117e687f27162279e682069e157f961ae01c", func := "loop.example/templateescaper/laws.FnCookiesValid", spec := "fnCookiesValid", apart := false }
def FnCookiesValidSaid : Prop := fnCookiesValidRow.holds Try.pinned (OpenSpec.ofChange fnCookiesValidSpec)

/-- ITS FALSE NEIGHBOUR: 'it returns false'. Refute it at one input. -/
def fnCookiesValidWrong : ChangeSpec := { name := "fnCookiesValid", fn := fun _ => fun
  | [d] => { results := [.lit (.bool false)], args := [d] }
  | _ => none }
def FnCookiesValidWrongFalsely : Prop := fnCookiesValidRow.holds Try.pinned (OpenSpec.ofChange fnCookiesValidWrong)

/-- 'laws.FnKeepCookie': WHATEVER THE INPUT: true; the input reads as it did. -/
def fnKeepCookieSpec : ChangeSpec := { name := "fnKeepCookie", fn := fun _ => fun
  | [d] => { results := [.lit (.bool true)], args := [d] }
  | _ => none }
def fnKeepCookieRow : OpenClaim := { program := "ytaipignkkbknfaa", sum := "a7335882e68179e3a9c6992afce3117e687f27162279e682069e157f961ae01c", func := "loop.example/templateescaper/laws.FnKeepCookie", spec := "fnKeepCookie", apart := false }
def FnKeepCookieSaid : Prop := fnKeepCookieRow.holds Try.pinned (OpenSpec.ofChange fnKeepCookieSpec)

/-- ITS FALSE NEIGHBOUR: 'it returns false'. Refute it at one input. -/
def fnKeepCookieWrong : ChangeSpec := { name := "fnKeepCookie", fn := fun _ => fun
  | [d] => { results := [.lit (.bool false)], args := [d] }
  | _ => none }
def FnKeepCookieWrongFalsely : Prop := fnKeepCookieRow.holds Try.pinned (OpenSpec.ofChange fnKeepCookieWrong)

/-- 'laws.FnHeadOf': WHATEVER THE INPUT: true; the input reads as it did. -/
def fnHeadOfSpec : ChangeSpec := { name := "fnHeadOf", fn := fun _ => fun
  | [d] => { results := [.lit (.bool true)], args := [d] }
  | _ => none }
def fnHeadOfRow : OpenClaim := { program := "ytaipignkkbknfaa", sum := "a7335882e68179e3a9c6992afce3117e687f27162279e682069e157f961ae01c", func := "loop.example/templateescaper/laws.FnHeadOf", spec := "fnHeadOf", inPlace := ["internal/abi.NoEscape", "internal/bytealg.MakeNoZero"], apart := false }
def FnHeadOfSaid : Prop := fnHeadOfRow.holds Try.pinned (OpenSpec.ofChange fnHeadOfSpec)

/-- ITS FALSE NEIGHBOUR: 'it returns false'. Refute it at one input. -/
def fnHeadOfWrong : ChangeSpec := { name := "fnHeadOf", fn := fun _ => fun
  | [d] => { results := [.lit (.bool false)], args := [d] }
  | _ => none }
def FnHeadOfWrongFalsely : Prop := fnHeadOfRow.holds Try.pinned (OpenSpec.ofChange fnHeadOfWrong)

/- THE SECOND FORM. 'bulk': how many values and letters a reading holds, each counted each time it is reached (what is shared counts as often as it is met; a slice's spare places count too). A statement '..UptoSaid' is the law's where the arguments, and the package variables that the reading takes, are together of bulk at most 1048576: NARROWER than '..Said'. Prove '..Said' where nothing that the law and all that it calls make is longer than what came in: it says more and counts as full. Else prove '..UptoSaid'. A law counts once. -/
mutual
def uptoBulk {H : Type} : DataW H → Nat
  | .lit (.string bytes) => bytes.length + 1
  | .lit _ => 1
  | .nil => 1
  | .ptr d => uptoBulk d + 1
  | .slice elems spare => uptoBulkAll elems + uptoBulkAll spare + 1
  | .agg parts => uptoBulkAll parts + 1
  | .iface _ d => uptoBulk d + 1
  | .map entries => uptoBulkEntries entries + 1
  | .held _ => 1
def uptoBulkAll {H : Type} : List (DataW H) → Nat
  | [] => 0
  | d :: r => uptoBulk d + uptoBulkAll r
def uptoBulkEntries {H : Type} : List (Lit × DataW H) → Nat
  | [] => 0
  | x :: r => uptoBulkEntry x + uptoBulkEntries r
def uptoBulkEntry {H : Type} : Lit × DataW H → Nat
  | (.string bytes, d) => bytes.length + uptoBulk d + 1
  | (_, d) => uptoBulk d + 1
 end
def uptoSmall : (H : Type) → List (DataW H) → Bool := fun _ ds => decide (uptoBulkAll ds ≤ 1048576)
def OpenSpec.upto (s : _root_.Go.ChangeSpec) : _root_.Go.OpenSpec := { _root_.Go.OpenSpec.ofChange s with cond := some uptoSmall }

/-- 'laws.FnExactStylesText', WHERE WHAT IT READS IS OF BULK AT MOST 1048576: true; the input reads as it did. -/
def fnExactStylesTextUptoRow : OpenClaim := { program := "ytaipignkkbknfaa", sum := "a7335882e68179e3a9c6992afce3117e687f27162279e682069e157f961ae01c", func := "loop.example/templateescaper/laws.FnExactStylesText", spec := "fnExactStylesText", inPlace := ["internal/abi.NoEscape", "internal/bytealg.MakeNoZero"], apart := false, narrowed := true }
def FnExactStylesTextUptoSaid : Prop := fnExactStylesTextUptoRow.holds Try.pinned (OpenSpec.upto fnExactStylesTextSpec)

/-- 'laws.FnAskedValid', WHERE WHAT IT READS IS OF BULK AT MOST 1048576: true; the input reads as it did. -/
def fnAskedValidUptoRow : OpenClaim := { program := "ytaipignkkbknfaa", sum := "a7335882e68179e3a9c6992afce3117e687f27162279e682069e157f961ae01c", func := "loop.example/templateescaper/laws.FnAskedValid", spec := "fnAskedValid", apart := false, narrowed := true }
def FnAskedValidUptoSaid : Prop := fnAskedValidUptoRow.holds Try.pinned (OpenSpec.upto fnAskedValidSpec)

/-- 'laws.FnSetAsked', WHERE WHAT IT READS IS OF BULK AT MOST 1048576: true; the input reads as it did. -/
def fnSetAskedUptoRow : OpenClaim := { program := "ytaipignkkbknfaa", sum := "a7335882e68179e3a9c6992afce3117e687f27162279e682069e157f961ae01c", func := "loop.example/templateescaper/laws.FnSetAsked", spec := "fnSetAsked", apart := false, narrowed := true }
def FnSetAskedUptoSaid : Prop := fnSetAskedUptoRow.holds Try.pinned (OpenSpec.upto fnSetAskedSpec)

/-- 'laws.FnCookiesValid', WHERE WHAT IT READS IS OF BULK AT MOST 1048576: true; the input reads as it did. -/
def fnCookiesValidUptoRow : OpenClaim := { program := "ytaipignkkbknfaa", sum := "a7335882e68179e3a9c6992afce3117e687f27162279e682069e157f961ae01c", func := "loop.example/templateescaper/laws.FnCookiesValid", spec := "fnCookiesValid", apart := false, narrowed := true }
def FnCookiesValidUptoSaid : Prop := fnCookiesValidUptoRow.holds Try.pinned (OpenSpec.upto fnCookiesValidSpec)

/-- 'laws.FnKeepCookie', WHERE WHAT IT READS IS OF BULK AT MOST 1048576: true; the input reads as it did. -/
def fnKeepCookieUptoRow : OpenClaim := { program := "ytaipignkkbknfaa", sum := "a7335882e68179e3a9c6992afce3117e687f27162279e682069e157f961ae01c", func := "loop.example/templateescaper/laws.FnKeepCookie", spec := "fnKeepCookie", apart := false, narrowed := true }
def FnKeepCookieUptoSaid : Prop := fnKeepCookieUptoRow.holds Try.pinned (OpenSpec.upto fnKeepCookieSpec)

/-- 'laws.FnHeadOf', WHERE WHAT IT READS IS OF BULK AT MOST 1048576: true; the input reads as it did. -/
def fnHeadOfUptoRow : OpenClaim := { program := "ytaipignkkbknfaa", sum := "a7335882e68179e3a9c6992afce3117e687f27162279e682069e157f961ae01c", func := "loop.example/templateescaper/laws.FnHeadOf", spec := "fnHeadOf", inPlace := ["internal/abi.NoEscape", "internal/bytealg.MakeNoZero"], apart := false, narrowed := true }
def FnHeadOfUptoSaid : Prop := fnHeadOfUptoRow.holds Try.pinned (OpenSpec.upto fnHeadOfSpec)

end Rows
end Go.Proofs.Ytaipignkkbknfaa
