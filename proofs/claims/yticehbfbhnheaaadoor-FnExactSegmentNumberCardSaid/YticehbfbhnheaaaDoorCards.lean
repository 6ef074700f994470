/-
  DERIVED. GIVEN WITH THE SEED: THE CARDS: each row of YticehbfbhnheaaaDoorRows.lean that lists a variable, with what it lists TIED to the program's text (the seventh form; the later family's looks); each row that meets fmt, with fmt's text TOLD by the authors' own Lean function (tested against real Go, not proved from fmt's source: count such statements apart). THE CARD IS WHAT COUNTS. Prove the row's statement (the work); the ties are given (YticehbfbhnheaaaDoorTie.lean); close each card by the builder's one call (the guide's Derived/Test/ToyasCard.lean, 'card_holds'). Laid BY PROGRAM, IN A SANDBOX (cutbox-door.mjs). By AI agents, Wed Nov 11 2026. No macro, syntax, notation, axiom, sorry.
-/
import Derived.Test.YticehbfbhnheaaaDoorRows
import GoSem.ClaimSeven
namespace Go.Proofs.YticehbfbhnheaaaDoor
namespace Rows

/-- THE TIED CARD OF 'laws.FnExactSegmentName'. -/
def fnExactSegmentNameCard : Claim7 := { stood := { row := fnExactSegmentNameRow, standIns := [], harness := (true, "9fbd6a3726851a171401c703bbcc17a1c93f84272c43601d6972c24c15e78b03"), looks := true }, kinds := [], alts := [], laidByText := true, laidKinds := [.data, .data, .data], laidTests := true, laidLooks := .later }
def FnExactSegmentNameCardSaid : Prop := Claim7.holds Tryd.pinned (.plain (OpenSpec.ofChange fnExactSegmentNameSpec)) fnExactSegmentNameCard

/-- THE TIED CARD OF 'laws.FnExactSegmentNumber'. -/
def fnExactSegmentNumberCard : Claim7 := { stood := { row := fnExactSegmentNumberRow, standIns := [], harness := (true, "9fbd6a3726851a171401c703bbcc17a1c93f84272c43601d6972c24c15e78b03"), looks := true }, kinds := [], alts := [], laidByText := true, laidKinds := [.data, .data, .data, .data, .sentinel, .sentinel, .pinned], laidTests := true, laidLooks := .later }
def FnExactSegmentNumberCardSaid : Prop := Claim7.holds Tryd.pinned (.plain (OpenSpec.ofChange fnExactSegmentNumberSpec)) fnExactSegmentNumberCard

/-- THE SECOND FORM's CARD OF 'laws.FnExactSegmentName'. -/
def fnExactSegmentNameUptoCard : Claim7 := { stood := { row := fnExactSegmentNameUptoRow, standIns := [], harness := (true, "9fbd6a3726851a171401c703bbcc17a1c93f84272c43601d6972c24c15e78b03"), looks := true }, kinds := [], alts := [], laidByText := true, laidKinds := [.data, .data, .data], laidTests := true, laidLooks := .later }
def FnExactSegmentNameUptoCardSaid : Prop := Claim7.holds Tryd.pinned (.plain (OpenSpec.upto fnExactSegmentNameSpec)) fnExactSegmentNameUptoCard

/-- THE SECOND FORM's CARD OF 'laws.FnExactSegmentNumber'. -/
def fnExactSegmentNumberUptoCard : Claim7 := { stood := { row := fnExactSegmentNumberUptoRow, standIns := [], harness := (true, "9fbd6a3726851a171401c703bbcc17a1c93f84272c43601d6972c24c15e78b03"), looks := true }, kinds := [], alts := [], laidByText := true, laidKinds := [.data, .data, .data, .data, .sentinel, .sentinel, .pinned], laidTests := true, laidLooks := .later }
def FnExactSegmentNumberUptoCardSaid : Prop := Claim7.holds Tryd.pinned (.plain (OpenSpec.upto fnExactSegmentNumberSpec)) fnExactSegmentNumberUptoCard
end Rows
end Go.Proofs.YticehbfbhnheaaaDoor
