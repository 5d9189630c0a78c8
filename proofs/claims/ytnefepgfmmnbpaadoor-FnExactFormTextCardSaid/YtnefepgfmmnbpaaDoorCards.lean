/-
  DERIVED. GIVEN WITH THE SEED: THE CARDS: each row of YtnefepgfmmnbpaaDoorRows.lean that lists a variable, with what it lists TIED to the program's text (the seventh form; the later family's looks); each row that meets fmt, with fmt's text TOLD by the authors' own Lean function (tested against real Go, not proved from fmt's source: count such statements apart). THE CARD IS WHAT COUNTS. Prove the row's statement (the work); the ties are given (YtnefepgfmmnbpaaDoorTie.lean); close each card by the builder's one call (the guide's Derived/Test/ToyasCard.lean, 'card_holds'). Laid BY PROGRAM, IN A SANDBOX (cutbox-door.mjs). By AI agents, Wed Nov 11 2026. No macro, syntax, notation, axiom, sorry.
-/
import Derived.Test.YtnefepgfmmnbpaaDoorRows
import GoSem.ClaimSeven
namespace Go.Proofs.YtnefepgfmmnbpaaDoor
namespace Rows

/-- THE TIED CARD OF 'laws.FnExactFormText'. -/
def fnExactFormTextCard : Claim7 := { stood := { row := fnExactFormTextRow, standIns := [], harness := (true, "a9101d2f1128888d22b62601a0ea6a58f9f1ddd13a73095afee84b9a9a485072"), looks := true }, kinds := [], alts := [], laidByText := true, laidKinds := [.data, .data, .data], laidTests := true, laidLooks := .later }
def FnExactFormTextCardSaid : Prop := Claim7.holds Tryd.pinned (.plain (OpenSpec.ofChange fnExactFormTextSpec)) fnExactFormTextCard

/-- THE TIED CARD OF 'laws.FnExactReadForm'. -/
def fnExactReadFormCard : Claim7 := { stood := { row := fnExactReadFormRow, standIns := [], harness := (true, "a9101d2f1128888d22b62601a0ea6a58f9f1ddd13a73095afee84b9a9a485072"), looks := true }, kinds := [], alts := [], laidByText := true, laidKinds := [.data, .data, .data, .data, .sentinel, .sentinel, .pinned], laidTests := true, laidLooks := .later }
def FnExactReadFormCardSaid : Prop := Claim7.holds Tryd.pinned (.plain (OpenSpec.ofChange fnExactReadFormSpec)) fnExactReadFormCard

/-- THE SECOND FORM's CARD OF 'laws.FnExactFormText'. -/
def fnExactFormTextUptoCard : Claim7 := { stood := { row := fnExactFormTextUptoRow, standIns := [], harness := (true, "a9101d2f1128888d22b62601a0ea6a58f9f1ddd13a73095afee84b9a9a485072"), looks := true }, kinds := [], alts := [], laidByText := true, laidKinds := [.data, .data, .data], laidTests := true, laidLooks := .later }
def FnExactFormTextUptoCardSaid : Prop := Claim7.holds Tryd.pinned (.plain (OpenSpec.upto fnExactFormTextSpec)) fnExactFormTextUptoCard

/-- THE SECOND FORM's CARD OF 'laws.FnExactReadForm'. -/
def fnExactReadFormUptoCard : Claim7 := { stood := { row := fnExactReadFormUptoRow, standIns := [], harness := (true, "a9101d2f1128888d22b62601a0ea6a58f9f1ddd13a73095afee84b9a9a485072"), looks := true }, kinds := [], alts := [], laidByText := true, laidKinds := [.data, .data, .data, .data, .sentinel, .sentinel, .pinned], laidTests := true, laidLooks := .later }
def FnExactReadFormUptoCardSaid : Prop := Claim7.holds Tryd.pinned (.plain (OpenSpec.upto fnExactReadFormSpec)) fnExactReadFormUptoCard
end Rows
end Go.Proofs.YtnefepgfmmnbpaaDoor
