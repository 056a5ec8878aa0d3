/-
  DERIVED. GIVEN WITH THE SEED: THE CARDS: each row of YtaofgcdpmeeimaaDoorRows.lean that lists a variable, with what it lists TIED to the program's text (the seventh form; the later family's looks); each row that meets fmt, with fmt's text TOLD by the authors' own Lean function (tested against real Go, not proved from fmt's source: count such statements apart). THE CARD IS WHAT COUNTS. Prove the row's statement (the work); the ties are given (YtaofgcdpmeeimaaDoorTie.lean); close each card by the builder's one call (the guide's Derived/Test/ToyasCard.lean, 'card_holds'). Laid BY PROGRAM, IN A SANDBOX (cutbox-door.mjs). By AI agents, Wed Nov 11 2026. No macro, syntax, notation, axiom, sorry.
-/
import Derived.Test.YtaofgcdpmeeimaaDoorRows
import GoSem.ClaimSeven
namespace Go.Proofs.YtaofgcdpmeeimaaDoor
namespace Rows

/-- THE TIED CARD OF 'laws.FnStylesText'. -/
def fnStylesTextCard : Claim7 := { stood := { row := fnStylesTextRow, standIns := [], harness := (true, "6e734e5d51873730c082bc737c00981dfefd8a36af43a476e43bbfdd01f8fe26"), looks := false }, kinds := [], alts := [], laidByText := true, laidKinds := [.data, .pinned], laidTests := true, laidLooks := .later }
def FnStylesTextCardSaid : Prop := Claim7.holds Tryd.pinned (.plain (OpenSpec.ofChange fnStylesTextSpec)) fnStylesTextCard

/-- THE TIED CARD OF 'laws.FnExactCleanStyles'. -/
def fnExactCleanStylesCard : Claim7 := { stood := { row := fnExactCleanStylesRow, standIns := [], harness := (true, "6e734e5d51873730c082bc737c00981dfefd8a36af43a476e43bbfdd01f8fe26"), looks := false }, kinds := [], alts := [], laidByText := true, laidKinds := [.data, .pinned], laidTests := true, laidLooks := .later }
def FnExactCleanStylesCardSaid : Prop := Claim7.holds Tryd.pinned (.plain (OpenSpec.ofChange fnExactCleanStylesSpec)) fnExactCleanStylesCard

/-- THE TIED CARD OF 'laws.FnCleanStyles'. -/
def fnCleanStylesCard : Claim7 := { stood := { row := fnCleanStylesRow, standIns := [], harness := (true, "6e734e5d51873730c082bc737c00981dfefd8a36af43a476e43bbfdd01f8fe26"), looks := false }, kinds := [], alts := [], laidByText := true, laidKinds := [.data, .pinned], laidTests := true, laidLooks := .later }
def FnCleanStylesCardSaid : Prop := Claim7.holds Tryd.pinned (.plain (OpenSpec.ofChange fnCleanStylesSpec)) fnCleanStylesCard

/-- THE TIED CARD OF 'laws.FnAskedText'. -/
def fnAskedTextCard : Claim7 := { stood := { row := fnAskedTextRow, standIns := [], harness := (true, "6e734e5d51873730c082bc737c00981dfefd8a36af43a476e43bbfdd01f8fe26"), looks := false }, kinds := [], alts := [], laidByText := true, laidKinds := [.data, .pinned], laidTests := true, laidLooks := .later }
def FnAskedTextCardSaid : Prop := Claim7.holds Tryd.pinned (.plain (OpenSpec.ofChange fnAskedTextSpec)) fnAskedTextCard

/-- THE TIED CARD OF 'laws.FnExactReadAsked'. -/
def fnExactReadAskedCard : Claim7 := { stood := { row := fnExactReadAskedRow, standIns := [], harness := (true, "6e734e5d51873730c082bc737c00981dfefd8a36af43a476e43bbfdd01f8fe26"), looks := false }, kinds := [], alts := [], laidByText := true, laidKinds := [.data, .pinned], laidTests := true, laidLooks := .later }
def FnExactReadAskedCardSaid : Prop := Claim7.holds Tryd.pinned (.plain (OpenSpec.ofChange fnExactReadAskedSpec)) fnExactReadAskedCard

/-- THE TIED CARD OF 'laws.FnReadAsked'. -/
def fnReadAskedCard : Claim7 := { stood := { row := fnReadAskedRow, standIns := [], harness := (true, "6e734e5d51873730c082bc737c00981dfefd8a36af43a476e43bbfdd01f8fe26"), looks := false }, kinds := [], alts := [], laidByText := true, laidKinds := [.data, .pinned], laidTests := true, laidLooks := .later }
def FnReadAskedCardSaid : Prop := Claim7.holds Tryd.pinned (.plain (OpenSpec.ofChange fnReadAskedSpec)) fnReadAskedCard

/-- THE TIED CARD OF 'laws.FnExactRowText'. -/
def fnExactRowTextCard : Claim7 := { stood := { row := fnExactRowTextRow, standIns := [], harness := (true, "6e734e5d51873730c082bc737c00981dfefd8a36af43a476e43bbfdd01f8fe26"), looks := false }, kinds := [], alts := [], laidByText := true, laidKinds := [.data, .pinned], laidTests := true, laidLooks := .later }
def FnExactRowTextCardSaid : Prop := Claim7.holds Tryd.pinned (.plain (OpenSpec.ofChange fnExactRowTextSpec)) fnExactRowTextCard

/-- THE TIED CARD OF 'laws.FnRowText'. -/
def fnRowTextCard : Claim7 := { stood := { row := fnRowTextRow, standIns := [], harness := (true, "6e734e5d51873730c082bc737c00981dfefd8a36af43a476e43bbfdd01f8fe26"), looks := false }, kinds := [], alts := [], laidByText := true, laidKinds := [.data, .pinned], laidTests := true, laidLooks := .later }
def FnRowTextCardSaid : Prop := Claim7.holds Tryd.pinned (.plain (OpenSpec.ofChange fnRowTextSpec)) fnRowTextCard

/-- THE TIED CARD OF 'laws.FnExactReadRow'. -/
def fnExactReadRowCard : Claim7 := { stood := { row := fnExactReadRowRow, standIns := [], harness := (true, "6e734e5d51873730c082bc737c00981dfefd8a36af43a476e43bbfdd01f8fe26"), looks := false }, kinds := [], alts := [], laidByText := true, laidKinds := [.data, .pinned], laidTests := true, laidLooks := .later }
def FnExactReadRowCardSaid : Prop := Claim7.holds Tryd.pinned (.plain (OpenSpec.ofChange fnExactReadRowSpec)) fnExactReadRowCard

/-- THE TIED CARD OF 'laws.FnReadRow'. -/
def fnReadRowCard : Claim7 := { stood := { row := fnReadRowRow, standIns := [], harness := (true, "6e734e5d51873730c082bc737c00981dfefd8a36af43a476e43bbfdd01f8fe26"), looks := false }, kinds := [], alts := [], laidByText := true, laidKinds := [.data, .pinned], laidTests := true, laidLooks := .later }
def FnReadRowCardSaid : Prop := Claim7.holds Tryd.pinned (.plain (OpenSpec.ofChange fnReadRowSpec)) fnReadRowCard

/-- THE TIED CARD OF 'laws.FnExactColumnOf'. -/
def fnExactColumnOfCard : Claim7 := { stood := { row := fnExactColumnOfRow, standIns := [], harness := (true, "6e734e5d51873730c082bc737c00981dfefd8a36af43a476e43bbfdd01f8fe26"), looks := false }, kinds := [], alts := [], laidByText := true, laidKinds := [.data, .pinned], laidTests := true, laidLooks := .later }
def FnExactColumnOfCardSaid : Prop := Claim7.holds Tryd.pinned (.plain (OpenSpec.ofChange fnExactColumnOfSpec)) fnExactColumnOfCard

/-- THE TIED CARD OF 'laws.FnColumnOf'. -/
def fnColumnOfCard : Claim7 := { stood := { row := fnColumnOfRow, standIns := [], harness := (true, "6e734e5d51873730c082bc737c00981dfefd8a36af43a476e43bbfdd01f8fe26"), looks := false }, kinds := [], alts := [], laidByText := true, laidKinds := [.data, .pinned], laidTests := true, laidLooks := .later }
def FnColumnOfCardSaid : Prop := Claim7.holds Tryd.pinned (.plain (OpenSpec.ofChange fnColumnOfSpec)) fnColumnOfCard

/-- THE SECOND FORM's CARD OF 'laws.FnStylesText'. -/
def fnStylesTextUptoCard : Claim7 := { stood := { row := fnStylesTextUptoRow, standIns := [], harness := (true, "6e734e5d51873730c082bc737c00981dfefd8a36af43a476e43bbfdd01f8fe26"), looks := false }, kinds := [], alts := [], laidByText := true, laidKinds := [.data, .pinned], laidTests := true, laidLooks := .later }
def FnStylesTextUptoCardSaid : Prop := Claim7.holds Tryd.pinned (.plain (OpenSpec.upto fnStylesTextSpec)) fnStylesTextUptoCard

/-- THE SECOND FORM's CARD OF 'laws.FnExactCleanStyles'. -/
def fnExactCleanStylesUptoCard : Claim7 := { stood := { row := fnExactCleanStylesUptoRow, standIns := [], harness := (true, "6e734e5d51873730c082bc737c00981dfefd8a36af43a476e43bbfdd01f8fe26"), looks := false }, kinds := [], alts := [], laidByText := true, laidKinds := [.data, .pinned], laidTests := true, laidLooks := .later }
def FnExactCleanStylesUptoCardSaid : Prop := Claim7.holds Tryd.pinned (.plain (OpenSpec.upto fnExactCleanStylesSpec)) fnExactCleanStylesUptoCard

/-- THE SECOND FORM's CARD OF 'laws.FnCleanStyles'. -/
def fnCleanStylesUptoCard : Claim7 := { stood := { row := fnCleanStylesUptoRow, standIns := [], harness := (true, "6e734e5d51873730c082bc737c00981dfefd8a36af43a476e43bbfdd01f8fe26"), looks := false }, kinds := [], alts := [], laidByText := true, laidKinds := [.data, .pinned], laidTests := true, laidLooks := .later }
def FnCleanStylesUptoCardSaid : Prop := Claim7.holds Tryd.pinned (.plain (OpenSpec.upto fnCleanStylesSpec)) fnCleanStylesUptoCard

/-- THE SECOND FORM's CARD OF 'laws.FnAskedText'. -/
def fnAskedTextUptoCard : Claim7 := { stood := { row := fnAskedTextUptoRow, standIns := [], harness := (true, "6e734e5d51873730c082bc737c00981dfefd8a36af43a476e43bbfdd01f8fe26"), looks := false }, kinds := [], alts := [], laidByText := true, laidKinds := [.data, .pinned], laidTests := true, laidLooks := .later }
def FnAskedTextUptoCardSaid : Prop := Claim7.holds Tryd.pinned (.plain (OpenSpec.upto fnAskedTextSpec)) fnAskedTextUptoCard

/-- THE SECOND FORM's CARD OF 'laws.FnExactReadAsked'. -/
def fnExactReadAskedUptoCard : Claim7 := { stood := { row := fnExactReadAskedUptoRow, standIns := [], harness := (true, "6e734e5d51873730c082bc737c00981dfefd8a36af43a476e43bbfdd01f8fe26"), looks := false }, kinds := [], alts := [], laidByText := true, laidKinds := [.data, .pinned], laidTests := true, laidLooks := .later }
def FnExactReadAskedUptoCardSaid : Prop := Claim7.holds Tryd.pinned (.plain (OpenSpec.upto fnExactReadAskedSpec)) fnExactReadAskedUptoCard

/-- THE SECOND FORM's CARD OF 'laws.FnReadAsked'. -/
def fnReadAskedUptoCard : Claim7 := { stood := { row := fnReadAskedUptoRow, standIns := [], harness := (true, "6e734e5d51873730c082bc737c00981dfefd8a36af43a476e43bbfdd01f8fe26"), looks := false }, kinds := [], alts := [], laidByText := true, laidKinds := [.data, .pinned], laidTests := true, laidLooks := .later }
def FnReadAskedUptoCardSaid : Prop := Claim7.holds Tryd.pinned (.plain (OpenSpec.upto fnReadAskedSpec)) fnReadAskedUptoCard

/-- THE SECOND FORM's CARD OF 'laws.FnExactRowText'. -/
def fnExactRowTextUptoCard : Claim7 := { stood := { row := fnExactRowTextUptoRow, standIns := [], harness := (true, "6e734e5d51873730c082bc737c00981dfefd8a36af43a476e43bbfdd01f8fe26"), looks := false }, kinds := [], alts := [], laidByText := true, laidKinds := [.data, .pinned], laidTests := true, laidLooks := .later }
def FnExactRowTextUptoCardSaid : Prop := Claim7.holds Tryd.pinned (.plain (OpenSpec.upto fnExactRowTextSpec)) fnExactRowTextUptoCard

/-- THE SECOND FORM's CARD OF 'laws.FnRowText'. -/
def fnRowTextUptoCard : Claim7 := { stood := { row := fnRowTextUptoRow, standIns := [], harness := (true, "6e734e5d51873730c082bc737c00981dfefd8a36af43a476e43bbfdd01f8fe26"), looks := false }, kinds := [], alts := [], laidByText := true, laidKinds := [.data, .pinned], laidTests := true, laidLooks := .later }
def FnRowTextUptoCardSaid : Prop := Claim7.holds Tryd.pinned (.plain (OpenSpec.upto fnRowTextSpec)) fnRowTextUptoCard

/-- THE SECOND FORM's CARD OF 'laws.FnExactReadRow'. -/
def fnExactReadRowUptoCard : Claim7 := { stood := { row := fnExactReadRowUptoRow, standIns := [], harness := (true, "6e734e5d51873730c082bc737c00981dfefd8a36af43a476e43bbfdd01f8fe26"), looks := false }, kinds := [], alts := [], laidByText := true, laidKinds := [.data, .pinned], laidTests := true, laidLooks := .later }
def FnExactReadRowUptoCardSaid : Prop := Claim7.holds Tryd.pinned (.plain (OpenSpec.upto fnExactReadRowSpec)) fnExactReadRowUptoCard

/-- THE SECOND FORM's CARD OF 'laws.FnReadRow'. -/
def fnReadRowUptoCard : Claim7 := { stood := { row := fnReadRowUptoRow, standIns := [], harness := (true, "6e734e5d51873730c082bc737c00981dfefd8a36af43a476e43bbfdd01f8fe26"), looks := false }, kinds := [], alts := [], laidByText := true, laidKinds := [.data, .pinned], laidTests := true, laidLooks := .later }
def FnReadRowUptoCardSaid : Prop := Claim7.holds Tryd.pinned (.plain (OpenSpec.upto fnReadRowSpec)) fnReadRowUptoCard

/-- THE SECOND FORM's CARD OF 'laws.FnExactColumnOf'. -/
def fnExactColumnOfUptoCard : Claim7 := { stood := { row := fnExactColumnOfUptoRow, standIns := [], harness := (true, "6e734e5d51873730c082bc737c00981dfefd8a36af43a476e43bbfdd01f8fe26"), looks := false }, kinds := [], alts := [], laidByText := true, laidKinds := [.data, .pinned], laidTests := true, laidLooks := .later }
def FnExactColumnOfUptoCardSaid : Prop := Claim7.holds Tryd.pinned (.plain (OpenSpec.upto fnExactColumnOfSpec)) fnExactColumnOfUptoCard

/-- THE SECOND FORM's CARD OF 'laws.FnColumnOf'. -/
def fnColumnOfUptoCard : Claim7 := { stood := { row := fnColumnOfUptoRow, standIns := [], harness := (true, "6e734e5d51873730c082bc737c00981dfefd8a36af43a476e43bbfdd01f8fe26"), looks := false }, kinds := [], alts := [], laidByText := true, laidKinds := [.data, .pinned], laidTests := true, laidLooks := .later }
def FnColumnOfUptoCardSaid : Prop := Claim7.holds Tryd.pinned (.plain (OpenSpec.upto fnColumnOfSpec)) fnColumnOfUptoCard
end Rows
end Go.Proofs.YtaofgcdpmeeimaaDoor
