/-
  DERIVED. GIVEN WITH THE SEED: THE CARDS: each row of YtihnefkkgbokcaaDoorRows.lean that lists a variable, with what it lists TIED to the program's text (the seventh form; the later family's looks); each row that meets fmt, with fmt's text TOLD by the authors' own Lean function (tested against real Go, not proved from fmt's source: count such statements apart). THE CARD IS WHAT COUNTS. Prove the row's statement (the work); the ties are given (YtihnefkkgbokcaaDoorTie.lean); close each card by the builder's one call (the guide's Derived/Test/ToyasCard.lean, 'card_holds'). Laid BY PROGRAM, IN A SANDBOX (cutbox-door.mjs). By AI agents, Wed Nov 11 2026. No macro, syntax, notation, axiom, sorry.
-/
import Derived.Test.YtihnefkkgbokcaaDoorRows
import GoSem.ClaimSeven
namespace Go.Proofs.YtihnefkkgbokcaaDoor
namespace Rows

/-- THE TIED CARD OF 'laws.FnExactReadParcels'. -/
def fnExactReadParcelsCard : Claim7 := { stood := { row := fnExactReadParcelsRow, standIns := [], harness := (true, "e4ca4c40eab413bf89a1bffc77c72a1c101c93a80ec80dcf5193ec09eae61a03"), looks := true }, kinds := [], alts := [], laidByText := true, laidKinds := [.data, .data, .data, .data, .sentinel, .sentinel, .pinned], laidTests := true, laidLooks := .later }
def FnExactReadParcelsCardSaid : Prop := Claim7.holds Tryd.pinned (.plain (OpenSpec.ofChange fnExactReadParcelsSpec)) fnExactReadParcelsCard

/-- THE TIED CARD OF 'laws.FnExactParcelsText'. -/
def fnExactParcelsTextCard : Claim7 := { stood := { row := fnExactParcelsTextRow, standIns := [], harness := (true, "e4ca4c40eab413bf89a1bffc77c72a1c101c93a80ec80dcf5193ec09eae61a03"), looks := true }, kinds := [], alts := [], laidByText := true, laidKinds := [.data, .data, .data], laidTests := true, laidLooks := .later }
def FnExactParcelsTextCardSaid : Prop := Claim7.holds Tryd.pinned (.plain (OpenSpec.ofChange fnExactParcelsTextSpec)) fnExactParcelsTextCard

/-- THE SECOND FORM's CARD OF 'laws.FnExactReadParcels'. -/
def fnExactReadParcelsUptoCard : Claim7 := { stood := { row := fnExactReadParcelsUptoRow, standIns := [], harness := (true, "e4ca4c40eab413bf89a1bffc77c72a1c101c93a80ec80dcf5193ec09eae61a03"), looks := true }, kinds := [], alts := [], laidByText := true, laidKinds := [.data, .data, .data, .data, .sentinel, .sentinel, .pinned], laidTests := true, laidLooks := .later }
def FnExactReadParcelsUptoCardSaid : Prop := Claim7.holds Tryd.pinned (.plain (OpenSpec.upto fnExactReadParcelsSpec)) fnExactReadParcelsUptoCard

/-- THE SECOND FORM's CARD OF 'laws.FnExactParcelsText'. -/
def fnExactParcelsTextUptoCard : Claim7 := { stood := { row := fnExactParcelsTextUptoRow, standIns := [], harness := (true, "e4ca4c40eab413bf89a1bffc77c72a1c101c93a80ec80dcf5193ec09eae61a03"), looks := true }, kinds := [], alts := [], laidByText := true, laidKinds := [.data, .data, .data], laidTests := true, laidLooks := .later }
def FnExactParcelsTextUptoCardSaid : Prop := Claim7.holds Tryd.pinned (.plain (OpenSpec.upto fnExactParcelsTextSpec)) fnExactParcelsTextUptoCard
end Rows
end Go.Proofs.YtihnefkkgbokcaaDoor
