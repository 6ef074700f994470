/-
  DERIVED. GIVEN WITH THE SEED: THE CARDS: each row of YtibhaklgajkalaaGreatDoorRows.lean that lists a variable, with what it lists TIED to the program's text (the seventh form; the later family's looks); each row that meets fmt, with fmt's text TOLD by the authors' own Lean function (tested against real Go, not proved from fmt's source: count such statements apart). THE CARD IS WHAT COUNTS. Prove the row's statement (the work); the ties are given (YtibhaklgajkalaaGreatDoorTie.lean); close each card by the builder's one call (the guide's Derived/Test/ToyasCard.lean, 'card_holds'). Laid BY PROGRAM, IN A SANDBOX (cutbox-door.mjs). By AI agents, Wed Nov 11 2026. No macro, syntax, notation, axiom, sorry.
-/
import Derived.Test.YtibhaklgajkalaaGreatDoorRows
import GoSem.ClaimSeven
namespace Go.Proofs.YtibhaklgajkalaaGreatDoor
namespace Rows

/-- THE TIED CARD OF 'laws.FnExactTellReport'. -/
def fnExactTellReportCard : Claim7 := { stood := { row := fnExactTellReportRow, standIns := [], harness := (true, "37d6874dec12fa260be38239943e70156aba5d97a12ba35297df95f02e518162"), looks := false }, kinds := [], alts := [], laidByText := true, laidKinds := [.data, .data, .data, .data, .sentinel, .pinned], laidTests := true, laidLooks := .later }
def FnExactTellReportCardSaid : Prop := Claim7.holds Tryz.pinned (.plain (OpenSpec.ofChange fnExactTellReportSpec)) fnExactTellReportCard

/-- THE SECOND FORM's CARD OF 'laws.FnExactTellReport'. -/
def fnExactTellReportUptoCard : Claim7 := { stood := { row := fnExactTellReportUptoRow, standIns := [], harness := (true, "37d6874dec12fa260be38239943e70156aba5d97a12ba35297df95f02e518162"), looks := false }, kinds := [], alts := [], laidByText := true, laidKinds := [.data, .data, .data, .data, .sentinel, .pinned], laidTests := true, laidLooks := .later }
def FnExactTellReportUptoCardSaid : Prop := Claim7.holds Tryz.pinned (.plain (OpenSpec.upto fnExactTellReportSpec)) fnExactTellReportUptoCard
end Rows
end Go.Proofs.YtibhaklgajkalaaGreatDoor
