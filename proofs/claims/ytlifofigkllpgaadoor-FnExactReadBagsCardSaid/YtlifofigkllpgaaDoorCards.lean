/-
  DERIVED. GIVEN WITH THE SEED: THE CARDS: each row of YtlifofigkllpgaaDoorRows.lean that lists a variable, with what it lists TIED to the program's text (the seventh form; the later family's looks); each row that meets fmt, with fmt's text TOLD by the authors' own Lean function (tested against real Go, not proved from fmt's source: count such statements apart). THE CARD IS WHAT COUNTS. Prove the row's statement (the work); the ties are given (YtlifofigkllpgaaDoorTie.lean); close each card by the builder's one call (the guide's Derived/Test/ToyasCard.lean, 'card_holds'). Laid BY PROGRAM, IN A SANDBOX (cutbox-door.mjs). By AI agents, Wed Nov 11 2026. No macro, syntax, notation, axiom, sorry.
-/
import Derived.Test.YtlifofigkllpgaaDoorRows
import GoSem.ClaimSeven
namespace Go.Proofs.YtlifofigkllpgaaDoor
namespace Rows

/-- THE TIED CARD OF 'laws.FnExactReadBags'. -/
def fnExactReadBagsCard : Claim7 := { stood := { row := fnExactReadBagsRow, standIns := [], harness := (true, "bb039f1d9388450e82a7aec635fc0971014536cf5626f966b03daaca7d715082"), looks := false }, kinds := [], alts := [], laidByText := true, laidKinds := [.data, .pinned], laidTests := true, laidLooks := .later }
def FnExactReadBagsCardSaid : Prop := Claim7.holds Tryd.pinned (.plain (OpenSpec.ofChange fnExactReadBagsSpec)) fnExactReadBagsCard

/-- THE SECOND FORM's CARD OF 'laws.FnExactReadBags'. -/
def fnExactReadBagsUptoCard : Claim7 := { stood := { row := fnExactReadBagsUptoRow, standIns := [], harness := (true, "bb039f1d9388450e82a7aec635fc0971014536cf5626f966b03daaca7d715082"), looks := false }, kinds := [], alts := [], laidByText := true, laidKinds := [.data, .pinned], laidTests := true, laidLooks := .later }
def FnExactReadBagsUptoCardSaid : Prop := Claim7.holds Tryd.pinned (.plain (OpenSpec.upto fnExactReadBagsSpec)) fnExactReadBagsUptoCard
end Rows
end Go.Proofs.YtlifofigkllpgaaDoor
