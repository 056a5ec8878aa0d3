/-
  DERIVED. GIVEN WITH THE SEED: THE CARDS: each row of YtjlaelkdmgcniaaDoorRows.lean that lists a variable, with what it lists TIED to the program's text (the seventh form; the later family's looks); each row that meets fmt, with fmt's text TOLD by the authors' own Lean function (tested against real Go, not proved from fmt's source: count such statements apart). THE CARD IS WHAT COUNTS. Prove the row's statement (the work); the ties are given (YtjlaelkdmgcniaaDoorTie.lean); close each card by the builder's one call (the guide's Derived/Test/ToyasCard.lean, 'card_holds'). Laid BY PROGRAM, IN A SANDBOX (cutbox-door.mjs). By AI agents, Wed Nov 11 2026. No macro, syntax, notation, axiom, sorry.
-/
import Derived.Test.YtjlaelkdmgcniaaDoorRows
import GoSem.ClaimSeven
namespace Go.Proofs.YtjlaelkdmgcniaaDoor
namespace Rows

/-- THE TIED CARD OF 'laws.FnResolveLocation'. -/
def fnResolveLocationCard : Claim7 := { stood := { row := fnResolveLocationRow, standIns := [], harness := (true, "4f7329b189cdec12b78f785eb62dbda288edbb4c843d58b3f5ff71a4f1827e2d"), looks := false }, kinds := [], alts := [], laidByText := true, laidKinds := [.data, .pinned], laidTests := true, laidLooks := .later }
def FnResolveLocationCardSaid : Prop := Claim7.holds Tryd.pinned (.plain (OpenSpec.ofChange fnResolveLocationSpec)) fnResolveLocationCard

/-- THE SECOND FORM's CARD OF 'laws.FnResolveLocation'. -/
def fnResolveLocationUptoCard : Claim7 := { stood := { row := fnResolveLocationUptoRow, standIns := [], harness := (true, "4f7329b189cdec12b78f785eb62dbda288edbb4c843d58b3f5ff71a4f1827e2d"), looks := false }, kinds := [], alts := [], laidByText := true, laidKinds := [.data, .pinned], laidTests := true, laidLooks := .later }
def FnResolveLocationUptoCardSaid : Prop := Claim7.holds Tryd.pinned (.plain (OpenSpec.upto fnResolveLocationSpec)) fnResolveLocationUptoCard
end Rows
end Go.Proofs.YtjlaelkdmgcniaaDoor
