/-
  DERIVED. GIVEN WITH THE SEED: THE CARDS: each row of YtmijnkiopmpjdaaDoorRows.lean that lists a variable, with what it lists TIED to the program's text (the seventh form; the later family's looks); each row that meets fmt, with fmt's text TOLD by the authors' own Lean function (tested against real Go, not proved from fmt's source: count such statements apart). THE CARD IS WHAT COUNTS. Prove the row's statement (the work); the ties are given (YtmijnkiopmpjdaaDoorTie.lean); close each card by the builder's one call (the guide's Derived/Test/ToyasCard.lean, 'card_holds'). Laid BY PROGRAM, IN A SANDBOX (cutbox-door.mjs). By AI agents, Wed Nov 11 2026. No macro, syntax, notation, axiom, sorry.
-/
import Derived.Test.YtmijnkiopmpjdaaDoorRows
import GoSem.ClaimSeven
namespace Go.Proofs.YtmijnkiopmpjdaaDoor
namespace Rows

/-- THE TIED CARD OF 'laws.FnExactReadCookies'. -/
def fnExactReadCookiesCard : Claim7 := { stood := { row := fnExactReadCookiesRow, standIns := [], harness := (true, "79d4e971ef801aff17f2a876c450f14e65c025ec33a2675eb16fbac2f65b0cc7"), looks := false }, kinds := [], alts := [], laidByText := true, laidKinds := [.data, .pinned], laidTests := true, laidLooks := .later }
def FnExactReadCookiesCardSaid : Prop := Claim7.holds Tryd.pinned (.plain (OpenSpec.ofChange fnExactReadCookiesSpec)) fnExactReadCookiesCard

/-- THE TIED CARD OF 'laws.FnCookiesText'. -/
def fnCookiesTextCard : Claim7 := { stood := { row := fnCookiesTextRow, standIns := [], harness := (true, "79d4e971ef801aff17f2a876c450f14e65c025ec33a2675eb16fbac2f65b0cc7"), looks := false }, kinds := [], alts := [], laidByText := true, laidKinds := [.data, .pinned], laidTests := true, laidLooks := .later }
def FnCookiesTextCardSaid : Prop := Claim7.holds Tryd.pinned (.plain (OpenSpec.ofChange fnCookiesTextSpec)) fnCookiesTextCard

/-- THE TIED CARD OF 'laws.FnReadCookies'. -/
def fnReadCookiesCard : Claim7 := { stood := { row := fnReadCookiesRow, standIns := [], harness := (true, "79d4e971ef801aff17f2a876c450f14e65c025ec33a2675eb16fbac2f65b0cc7"), looks := false }, kinds := [], alts := [], laidByText := true, laidKinds := [.data, .pinned], laidTests := true, laidLooks := .later }
def FnReadCookiesCardSaid : Prop := Claim7.holds Tryd.pinned (.plain (OpenSpec.ofChange fnReadCookiesSpec)) fnReadCookiesCard

/-- THE TIED CARD OF 'laws.FnLocationValid'. -/
def fnLocationValidCard : Claim7 := { stood := { row := fnLocationValidRow, standIns := [], harness := (true, "79d4e971ef801aff17f2a876c450f14e65c025ec33a2675eb16fbac2f65b0cc7"), looks := false }, kinds := [], alts := [], laidByText := true, laidKinds := [.data, .pinned], laidTests := true, laidLooks := .later }
def FnLocationValidCardSaid : Prop := Claim7.holds Tryd.pinned (.plain (OpenSpec.ofChange fnLocationValidSpec)) fnLocationValidCard

/-- THE TIED CARD OF 'laws.FnExactLocationValid'. -/
def fnExactLocationValidCard : Claim7 := { stood := { row := fnExactLocationValidRow, standIns := [], harness := (true, "79d4e971ef801aff17f2a876c450f14e65c025ec33a2675eb16fbac2f65b0cc7"), looks := false }, kinds := [], alts := [], laidByText := true, laidKinds := [.data, .pinned], laidTests := true, laidLooks := .later }
def FnExactLocationValidCardSaid : Prop := Claim7.holds Tryd.pinned (.plain (OpenSpec.ofChange fnExactLocationValidSpec)) fnExactLocationValidCard

/-- THE TIED CARD OF 'laws.FnExactLocationText'. -/
def fnExactLocationTextCard : Claim7 := { stood := { row := fnExactLocationTextRow, standIns := [], harness := (true, "79d4e971ef801aff17f2a876c450f14e65c025ec33a2675eb16fbac2f65b0cc7"), looks := false }, kinds := [], alts := [], laidByText := true, laidKinds := [.data, .pinned], laidTests := true, laidLooks := .later }
def FnExactLocationTextCardSaid : Prop := Claim7.holds Tryd.pinned (.plain (OpenSpec.ofChange fnExactLocationTextSpec)) fnExactLocationTextCard

/-- THE TIED CARD OF 'laws.FnLocationText'. -/
def fnLocationTextCard : Claim7 := { stood := { row := fnLocationTextRow, standIns := [], harness := (true, "79d4e971ef801aff17f2a876c450f14e65c025ec33a2675eb16fbac2f65b0cc7"), looks := false }, kinds := [], alts := [], laidByText := true, laidKinds := [.data, .pinned], laidTests := true, laidLooks := .later }
def FnLocationTextCardSaid : Prop := Claim7.holds Tryd.pinned (.plain (OpenSpec.ofChange fnLocationTextSpec)) fnLocationTextCard

/-- THE TIED CARD OF 'laws.FnExactReadLocation'. -/
def fnExactReadLocationCard : Claim7 := { stood := { row := fnExactReadLocationRow, standIns := [], harness := (true, "79d4e971ef801aff17f2a876c450f14e65c025ec33a2675eb16fbac2f65b0cc7"), looks := false }, kinds := [], alts := [], laidByText := true, laidKinds := [.data, .pinned], laidTests := true, laidLooks := .later }
def FnExactReadLocationCardSaid : Prop := Claim7.holds Tryd.pinned (.plain (OpenSpec.ofChange fnExactReadLocationSpec)) fnExactReadLocationCard

/-- THE TIED CARD OF 'laws.FnReadLocation'. -/
def fnReadLocationCard : Claim7 := { stood := { row := fnReadLocationRow, standIns := [], harness := (true, "79d4e971ef801aff17f2a876c450f14e65c025ec33a2675eb16fbac2f65b0cc7"), looks := false }, kinds := [], alts := [], laidByText := true, laidKinds := [.data, .pinned], laidTests := true, laidLooks := .later }
def FnReadLocationCardSaid : Prop := Claim7.holds Tryd.pinned (.plain (OpenSpec.ofChange fnReadLocationSpec)) fnReadLocationCard

/-- THE TIED CARD OF 'laws.FnResolveLocation'. -/
def fnResolveLocationCard : Claim7 := { stood := { row := fnResolveLocationRow, standIns := [], harness := (true, "79d4e971ef801aff17f2a876c450f14e65c025ec33a2675eb16fbac2f65b0cc7"), looks := false }, kinds := [], alts := [], laidByText := true, laidKinds := [.data, .pinned], laidTests := true, laidLooks := .later }
def FnResolveLocationCardSaid : Prop := Claim7.holds Tryd.pinned (.plain (OpenSpec.ofChange fnResolveLocationSpec)) fnResolveLocationCard

/-- THE SECOND FORM's CARD OF 'laws.FnExactReadCookies'. -/
def fnExactReadCookiesUptoCard : Claim7 := { stood := { row := fnExactReadCookiesUptoRow, standIns := [], harness := (true, "79d4e971ef801aff17f2a876c450f14e65c025ec33a2675eb16fbac2f65b0cc7"), looks := false }, kinds := [], alts := [], laidByText := true, laidKinds := [.data, .pinned], laidTests := true, laidLooks := .later }
def FnExactReadCookiesUptoCardSaid : Prop := Claim7.holds Tryd.pinned (.plain (OpenSpec.upto fnExactReadCookiesSpec)) fnExactReadCookiesUptoCard

/-- THE SECOND FORM's CARD OF 'laws.FnCookiesText'. -/
def fnCookiesTextUptoCard : Claim7 := { stood := { row := fnCookiesTextUptoRow, standIns := [], harness := (true, "79d4e971ef801aff17f2a876c450f14e65c025ec33a2675eb16fbac2f65b0cc7"), looks := false }, kinds := [], alts := [], laidByText := true, laidKinds := [.data, .pinned], laidTests := true, laidLooks := .later }
def FnCookiesTextUptoCardSaid : Prop := Claim7.holds Tryd.pinned (.plain (OpenSpec.upto fnCookiesTextSpec)) fnCookiesTextUptoCard

/-- THE SECOND FORM's CARD OF 'laws.FnReadCookies'. -/
def fnReadCookiesUptoCard : Claim7 := { stood := { row := fnReadCookiesUptoRow, standIns := [], harness := (true, "79d4e971ef801aff17f2a876c450f14e65c025ec33a2675eb16fbac2f65b0cc7"), looks := false }, kinds := [], alts := [], laidByText := true, laidKinds := [.data, .pinned], laidTests := true, laidLooks := .later }
def FnReadCookiesUptoCardSaid : Prop := Claim7.holds Tryd.pinned (.plain (OpenSpec.upto fnReadCookiesSpec)) fnReadCookiesUptoCard

/-- THE SECOND FORM's CARD OF 'laws.FnLocationValid'. -/
def fnLocationValidUptoCard : Claim7 := { stood := { row := fnLocationValidUptoRow, standIns := [], harness := (true, "79d4e971ef801aff17f2a876c450f14e65c025ec33a2675eb16fbac2f65b0cc7"), looks := false }, kinds := [], alts := [], laidByText := true, laidKinds := [.data, .pinned], laidTests := true, laidLooks := .later }
def FnLocationValidUptoCardSaid : Prop := Claim7.holds Tryd.pinned (.plain (OpenSpec.upto fnLocationValidSpec)) fnLocationValidUptoCard

/-- THE SECOND FORM's CARD OF 'laws.FnExactLocationValid'. -/
def fnExactLocationValidUptoCard : Claim7 := { stood := { row := fnExactLocationValidUptoRow, standIns := [], harness := (true, "79d4e971ef801aff17f2a876c450f14e65c025ec33a2675eb16fbac2f65b0cc7"), looks := false }, kinds := [], alts := [], laidByText := true, laidKinds := [.data, .pinned], laidTests := true, laidLooks := .later }
def FnExactLocationValidUptoCardSaid : Prop := Claim7.holds Tryd.pinned (.plain (OpenSpec.upto fnExactLocationValidSpec)) fnExactLocationValidUptoCard

/-- THE SECOND FORM's CARD OF 'laws.FnExactLocationText'. -/
def fnExactLocationTextUptoCard : Claim7 := { stood := { row := fnExactLocationTextUptoRow, standIns := [], harness := (true, "79d4e971ef801aff17f2a876c450f14e65c025ec33a2675eb16fbac2f65b0cc7"), looks := false }, kinds := [], alts := [], laidByText := true, laidKinds := [.data, .pinned], laidTests := true, laidLooks := .later }
def FnExactLocationTextUptoCardSaid : Prop := Claim7.holds Tryd.pinned (.plain (OpenSpec.upto fnExactLocationTextSpec)) fnExactLocationTextUptoCard

/-- THE SECOND FORM's CARD OF 'laws.FnLocationText'. -/
def fnLocationTextUptoCard : Claim7 := { stood := { row := fnLocationTextUptoRow, standIns := [], harness := (true, "79d4e971ef801aff17f2a876c450f14e65c025ec33a2675eb16fbac2f65b0cc7"), looks := false }, kinds := [], alts := [], laidByText := true, laidKinds := [.data, .pinned], laidTests := true, laidLooks := .later }
def FnLocationTextUptoCardSaid : Prop := Claim7.holds Tryd.pinned (.plain (OpenSpec.upto fnLocationTextSpec)) fnLocationTextUptoCard

/-- THE SECOND FORM's CARD OF 'laws.FnExactReadLocation'. -/
def fnExactReadLocationUptoCard : Claim7 := { stood := { row := fnExactReadLocationUptoRow, standIns := [], harness := (true, "79d4e971ef801aff17f2a876c450f14e65c025ec33a2675eb16fbac2f65b0cc7"), looks := false }, kinds := [], alts := [], laidByText := true, laidKinds := [.data, .pinned], laidTests := true, laidLooks := .later }
def FnExactReadLocationUptoCardSaid : Prop := Claim7.holds Tryd.pinned (.plain (OpenSpec.upto fnExactReadLocationSpec)) fnExactReadLocationUptoCard

/-- THE SECOND FORM's CARD OF 'laws.FnReadLocation'. -/
def fnReadLocationUptoCard : Claim7 := { stood := { row := fnReadLocationUptoRow, standIns := [], harness := (true, "79d4e971ef801aff17f2a876c450f14e65c025ec33a2675eb16fbac2f65b0cc7"), looks := false }, kinds := [], alts := [], laidByText := true, laidKinds := [.data, .pinned], laidTests := true, laidLooks := .later }
def FnReadLocationUptoCardSaid : Prop := Claim7.holds Tryd.pinned (.plain (OpenSpec.upto fnReadLocationSpec)) fnReadLocationUptoCard

/-- THE SECOND FORM's CARD OF 'laws.FnResolveLocation'. -/
def fnResolveLocationUptoCard : Claim7 := { stood := { row := fnResolveLocationUptoRow, standIns := [], harness := (true, "79d4e971ef801aff17f2a876c450f14e65c025ec33a2675eb16fbac2f65b0cc7"), looks := false }, kinds := [], alts := [], laidByText := true, laidKinds := [.data, .pinned], laidTests := true, laidLooks := .later }
def FnResolveLocationUptoCardSaid : Prop := Claim7.holds Tryd.pinned (.plain (OpenSpec.upto fnResolveLocationSpec)) fnResolveLocationUptoCard
end Rows
end Go.Proofs.YtmijnkiopmpjdaaDoor
