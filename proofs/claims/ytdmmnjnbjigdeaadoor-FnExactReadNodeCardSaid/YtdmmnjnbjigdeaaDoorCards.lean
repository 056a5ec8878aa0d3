/-
  DERIVED. GIVEN WITH THE SEED: THE CARDS: each row of YtdmmnjnbjigdeaaDoorRows.lean that lists a variable, with what it lists TIED to the program's text (the seventh form; the later family's looks); each row that meets fmt, with fmt's text TOLD by the authors' own Lean function (tested against real Go, not proved from fmt's source: count such statements apart). THE CARD IS WHAT COUNTS. Prove the row's statement (the work); the ties are given (YtdmmnjnbjigdeaaDoorTie.lean); close each card by the builder's one call (the guide's Derived/Test/ToyasCard.lean, 'card_holds'). Laid BY PROGRAM, IN A SANDBOX (cutbox-door.mjs). By AI agents, Wed Nov 11 2026. No macro, syntax, notation, axiom, sorry.
-/
import Derived.Test.YtdmmnjnbjigdeaaDoorRows
import GoSem.ClaimSeven
namespace Go.Proofs.YtdmmnjnbjigdeaaDoor
namespace Rows

/-- THE TIED CARD OF 'laws.FnSameNode'. -/
def fnSameNodeCard : Claim7 := { stood := { row := fnSameNodeRow, standIns := [], harness := (true, "e93ce864d3873b705f33b24242e7bfc950628b3b7ee718b785319aefa902bc6f"), looks := true }, kinds := [], alts := [], laidByText := true, laidKinds := [.data, .data, .data, .data, .pinned], laidTests := true, laidLooks := .later }
def FnSameNodeCardSaid : Prop := Claim7.holds Tryd.pinned (.plain (OpenSpec.ofChange fnSameNodeSpec)) fnSameNodeCard

/-- THE TIED CARD OF 'laws.FnExactNodeWritten'. -/
def fnExactNodeWrittenCard : Claim7 := { stood := { row := fnExactNodeWrittenRow, standIns := [], harness := (true, "e93ce864d3873b705f33b24242e7bfc950628b3b7ee718b785319aefa902bc6f"), looks := true }, kinds := [], alts := [], laidByText := true, laidKinds := [.data, .data, .data, .data, .pinned], laidTests := true, laidLooks := .later }
def FnExactNodeWrittenCardSaid : Prop := Claim7.holds Tryd.pinned (.plain (OpenSpec.ofChange fnExactNodeWrittenSpec)) fnExactNodeWrittenCard

/-- THE TIED CARD OF 'laws.FnNodeWritten'. -/
def fnNodeWrittenCard : Claim7 := { stood := { row := fnNodeWrittenRow, standIns := [], harness := (true, "e93ce864d3873b705f33b24242e7bfc950628b3b7ee718b785319aefa902bc6f"), looks := true }, kinds := [], alts := [], laidByText := true, laidKinds := [.data, .data, .data, .data, .sentinel, .sentinel, .pinned], laidTests := true, laidLooks := .later }
def FnNodeWrittenCardSaid : Prop := Claim7.holds Tryd.pinned (.plain (OpenSpec.ofChange fnNodeWrittenSpec)) fnNodeWrittenCard

/-- THE TIED CARD OF 'laws.FnReadNode'. -/
def fnReadNodeCard : Claim7 := { stood := { row := fnReadNodeRow, standIns := [], harness := (true, "e93ce864d3873b705f33b24242e7bfc950628b3b7ee718b785319aefa902bc6f"), looks := true }, kinds := [], alts := [], laidByText := true, laidKinds := [.data, .data, .data, .data, .sentinel, .sentinel, .pinned], laidTests := true, laidLooks := .later }
def FnReadNodeCardSaid : Prop := Claim7.holds Tryd.pinned (.plain (OpenSpec.ofChange fnReadNodeSpec)) fnReadNodeCard

/-- THE TIED CARD OF 'laws.FnExactReadNode'. -/
def fnExactReadNodeCard : Claim7 := { stood := { row := fnExactReadNodeRow, standIns := [], harness := (true, "e93ce864d3873b705f33b24242e7bfc950628b3b7ee718b785319aefa902bc6f"), looks := true }, kinds := [], alts := [], laidByText := true, laidKinds := [.data, .data, .data, .data, .sentinel, .sentinel, .pinned], laidTests := true, laidLooks := .later }
def FnExactReadNodeCardSaid : Prop := Claim7.holds Tryd.pinned (.plain (OpenSpec.ofChange fnExactReadNodeSpec)) fnExactReadNodeCard

/-- THE SECOND FORM's CARD OF 'laws.FnSameNode'. -/
def fnSameNodeUptoCard : Claim7 := { stood := { row := fnSameNodeUptoRow, standIns := [], harness := (true, "e93ce864d3873b705f33b24242e7bfc950628b3b7ee718b785319aefa902bc6f"), looks := true }, kinds := [], alts := [], laidByText := true, laidKinds := [.data, .data, .data, .data, .pinned], laidTests := true, laidLooks := .later }
def FnSameNodeUptoCardSaid : Prop := Claim7.holds Tryd.pinned (.plain (OpenSpec.upto fnSameNodeSpec)) fnSameNodeUptoCard

/-- THE SECOND FORM's CARD OF 'laws.FnExactNodeWritten'. -/
def fnExactNodeWrittenUptoCard : Claim7 := { stood := { row := fnExactNodeWrittenUptoRow, standIns := [], harness := (true, "e93ce864d3873b705f33b24242e7bfc950628b3b7ee718b785319aefa902bc6f"), looks := true }, kinds := [], alts := [], laidByText := true, laidKinds := [.data, .data, .data, .data, .pinned], laidTests := true, laidLooks := .later }
def FnExactNodeWrittenUptoCardSaid : Prop := Claim7.holds Tryd.pinned (.plain (OpenSpec.upto fnExactNodeWrittenSpec)) fnExactNodeWrittenUptoCard

/-- THE SECOND FORM's CARD OF 'laws.FnNodeWritten'. -/
def fnNodeWrittenUptoCard : Claim7 := { stood := { row := fnNodeWrittenUptoRow, standIns := [], harness := (true, "e93ce864d3873b705f33b24242e7bfc950628b3b7ee718b785319aefa902bc6f"), looks := true }, kinds := [], alts := [], laidByText := true, laidKinds := [.data, .data, .data, .data, .sentinel, .sentinel, .pinned], laidTests := true, laidLooks := .later }
def FnNodeWrittenUptoCardSaid : Prop := Claim7.holds Tryd.pinned (.plain (OpenSpec.upto fnNodeWrittenSpec)) fnNodeWrittenUptoCard

/-- THE SECOND FORM's CARD OF 'laws.FnReadNode'. -/
def fnReadNodeUptoCard : Claim7 := { stood := { row := fnReadNodeUptoRow, standIns := [], harness := (true, "e93ce864d3873b705f33b24242e7bfc950628b3b7ee718b785319aefa902bc6f"), looks := true }, kinds := [], alts := [], laidByText := true, laidKinds := [.data, .data, .data, .data, .sentinel, .sentinel, .pinned], laidTests := true, laidLooks := .later }
def FnReadNodeUptoCardSaid : Prop := Claim7.holds Tryd.pinned (.plain (OpenSpec.upto fnReadNodeSpec)) fnReadNodeUptoCard

/-- THE SECOND FORM's CARD OF 'laws.FnExactReadNode'. -/
def fnExactReadNodeUptoCard : Claim7 := { stood := { row := fnExactReadNodeUptoRow, standIns := [], harness := (true, "e93ce864d3873b705f33b24242e7bfc950628b3b7ee718b785319aefa902bc6f"), looks := true }, kinds := [], alts := [], laidByText := true, laidKinds := [.data, .data, .data, .data, .sentinel, .sentinel, .pinned], laidTests := true, laidLooks := .later }
def FnExactReadNodeUptoCardSaid : Prop := Claim7.holds Tryd.pinned (.plain (OpenSpec.upto fnExactReadNodeSpec)) fnExactReadNodeUptoCard
end Rows
end Go.Proofs.YtdmmnjnbjigdeaaDoor
