/-
  DERIVED. GIVEN WITH THE SEED: THE CARDS: each row of YtaipignkkbknfaaDoorRows.lean that lists a variable, with what it lists TIED to the program's text (the seventh form; the later family's looks); each row that meets fmt, with fmt's text TOLD by the authors' own Lean function (tested against real Go, not proved from fmt's source: count such statements apart). THE CARD IS WHAT COUNTS. Prove the row's statement (the work); the ties are given (YtaipignkkbknfaaDoorTie.lean); close each card by the builder's one call (the guide's Derived/Test/ToyasCard.lean, 'card_holds'). Laid BY PROGRAM, IN A SANDBOX (cutbox-door.mjs). By AI agents, Wed Nov 11 2026. No macro, syntax, notation, axiom, sorry.
-/
import Derived.Test.YtaipignkkbknfaaDoorRows
import GoSem.ClaimSeven
namespace Go.Proofs.YtaipignkkbknfaaDoor
namespace Rows

/-- THE TIED CARD OF 'laws.FnHeadsValid'. -/
def fnHeadsValidCard : Claim7 := { stood := { row := fnHeadsValidRow, standIns := [], harness := (true, "c562dc826ddb535920892a5893fac051c0f4fcdfd1360d75ecb3c01ae184b902"), looks := false }, kinds := [], alts := [], laidByText := true, laidKinds := [.data, .pinned], laidTests := true, laidLooks := .later }
def FnHeadsValidCardSaid : Prop := Claim7.holds Tryd.pinned (.plain (OpenSpec.ofChange fnHeadsValidSpec)) fnHeadsValidCard

/-- THE TIED CARD OF 'laws.FnExactHeadsValid'. -/
def fnExactHeadsValidCard : Claim7 := { stood := { row := fnExactHeadsValidRow, standIns := [], harness := (true, "c562dc826ddb535920892a5893fac051c0f4fcdfd1360d75ecb3c01ae184b902"), looks := false }, kinds := [], alts := [], laidByText := true, laidKinds := [.data, .pinned], laidTests := true, laidLooks := .later }
def FnExactHeadsValidCardSaid : Prop := Claim7.holds Tryd.pinned (.plain (OpenSpec.ofChange fnExactHeadsValidSpec)) fnExactHeadsValidCard

/-- THE TIED CARD OF 'laws.FnExactHeadsLines'. -/
def fnExactHeadsLinesCard : Claim7 := { stood := { row := fnExactHeadsLinesRow, standIns := [], harness := (true, "c562dc826ddb535920892a5893fac051c0f4fcdfd1360d75ecb3c01ae184b902"), looks := false }, kinds := [], alts := [], laidByText := true, laidKinds := [.data, .pinned], laidTests := true, laidLooks := .later }
def FnExactHeadsLinesCardSaid : Prop := Claim7.holds Tryd.pinned (.plain (OpenSpec.ofChange fnExactHeadsLinesSpec)) fnExactHeadsLinesCard

/-- THE TIED CARD OF 'laws.FnHeadsLines'. -/
def fnHeadsLinesCard : Claim7 := { stood := { row := fnHeadsLinesRow, standIns := [], harness := (true, "c562dc826ddb535920892a5893fac051c0f4fcdfd1360d75ecb3c01ae184b902"), looks := false }, kinds := [], alts := [], laidByText := true, laidKinds := [.data, .pinned], laidTests := true, laidLooks := .later }
def FnHeadsLinesCardSaid : Prop := Claim7.holds Tryd.pinned (.plain (OpenSpec.ofChange fnHeadsLinesSpec)) fnHeadsLinesCard

/-- THE TIED CARD OF 'laws.FnExactReadHeads'. -/
def fnExactReadHeadsCard : Claim7 := { stood := { row := fnExactReadHeadsRow, standIns := [], harness := (true, "c562dc826ddb535920892a5893fac051c0f4fcdfd1360d75ecb3c01ae184b902"), looks := false }, kinds := [], alts := [], laidByText := true, laidKinds := [.data, .pinned], laidTests := true, laidLooks := .later }
def FnExactReadHeadsCardSaid : Prop := Claim7.holds Tryd.pinned (.plain (OpenSpec.ofChange fnExactReadHeadsSpec)) fnExactReadHeadsCard

/-- THE TIED CARD OF 'laws.FnReadHeads'. -/
def fnReadHeadsCard : Claim7 := { stood := { row := fnReadHeadsRow, standIns := [], harness := (true, "c562dc826ddb535920892a5893fac051c0f4fcdfd1360d75ecb3c01ae184b902"), looks := false }, kinds := [], alts := [], laidByText := true, laidKinds := [.data, .pinned], laidTests := true, laidLooks := .later }
def FnReadHeadsCardSaid : Prop := Claim7.holds Tryd.pinned (.plain (OpenSpec.ofChange fnReadHeadsSpec)) fnReadHeadsCard

/-- THE SECOND FORM's CARD OF 'laws.FnHeadsValid'. -/
def fnHeadsValidUptoCard : Claim7 := { stood := { row := fnHeadsValidUptoRow, standIns := [], harness := (true, "c562dc826ddb535920892a5893fac051c0f4fcdfd1360d75ecb3c01ae184b902"), looks := false }, kinds := [], alts := [], laidByText := true, laidKinds := [.data, .pinned], laidTests := true, laidLooks := .later }
def FnHeadsValidUptoCardSaid : Prop := Claim7.holds Tryd.pinned (.plain (OpenSpec.upto fnHeadsValidSpec)) fnHeadsValidUptoCard

/-- THE SECOND FORM's CARD OF 'laws.FnExactHeadsValid'. -/
def fnExactHeadsValidUptoCard : Claim7 := { stood := { row := fnExactHeadsValidUptoRow, standIns := [], harness := (true, "c562dc826ddb535920892a5893fac051c0f4fcdfd1360d75ecb3c01ae184b902"), looks := false }, kinds := [], alts := [], laidByText := true, laidKinds := [.data, .pinned], laidTests := true, laidLooks := .later }
def FnExactHeadsValidUptoCardSaid : Prop := Claim7.holds Tryd.pinned (.plain (OpenSpec.upto fnExactHeadsValidSpec)) fnExactHeadsValidUptoCard

/-- THE SECOND FORM's CARD OF 'laws.FnExactHeadsLines'. -/
def fnExactHeadsLinesUptoCard : Claim7 := { stood := { row := fnExactHeadsLinesUptoRow, standIns := [], harness := (true, "c562dc826ddb535920892a5893fac051c0f4fcdfd1360d75ecb3c01ae184b902"), looks := false }, kinds := [], alts := [], laidByText := true, laidKinds := [.data, .pinned], laidTests := true, laidLooks := .later }
def FnExactHeadsLinesUptoCardSaid : Prop := Claim7.holds Tryd.pinned (.plain (OpenSpec.upto fnExactHeadsLinesSpec)) fnExactHeadsLinesUptoCard

/-- THE SECOND FORM's CARD OF 'laws.FnHeadsLines'. -/
def fnHeadsLinesUptoCard : Claim7 := { stood := { row := fnHeadsLinesUptoRow, standIns := [], harness := (true, "c562dc826ddb535920892a5893fac051c0f4fcdfd1360d75ecb3c01ae184b902"), looks := false }, kinds := [], alts := [], laidByText := true, laidKinds := [.data, .pinned], laidTests := true, laidLooks := .later }
def FnHeadsLinesUptoCardSaid : Prop := Claim7.holds Tryd.pinned (.plain (OpenSpec.upto fnHeadsLinesSpec)) fnHeadsLinesUptoCard

/-- THE SECOND FORM's CARD OF 'laws.FnExactReadHeads'. -/
def fnExactReadHeadsUptoCard : Claim7 := { stood := { row := fnExactReadHeadsUptoRow, standIns := [], harness := (true, "c562dc826ddb535920892a5893fac051c0f4fcdfd1360d75ecb3c01ae184b902"), looks := false }, kinds := [], alts := [], laidByText := true, laidKinds := [.data, .pinned], laidTests := true, laidLooks := .later }
def FnExactReadHeadsUptoCardSaid : Prop := Claim7.holds Tryd.pinned (.plain (OpenSpec.upto fnExactReadHeadsSpec)) fnExactReadHeadsUptoCard

/-- THE SECOND FORM's CARD OF 'laws.FnReadHeads'. -/
def fnReadHeadsUptoCard : Claim7 := { stood := { row := fnReadHeadsUptoRow, standIns := [], harness := (true, "c562dc826ddb535920892a5893fac051c0f4fcdfd1360d75ecb3c01ae184b902"), looks := false }, kinds := [], alts := [], laidByText := true, laidKinds := [.data, .pinned], laidTests := true, laidLooks := .later }
def FnReadHeadsUptoCardSaid : Prop := Claim7.holds Tryd.pinned (.plain (OpenSpec.upto fnReadHeadsSpec)) fnReadHeadsUptoCard
end Rows
end Go.Proofs.YtaipignkkbknfaaDoor
