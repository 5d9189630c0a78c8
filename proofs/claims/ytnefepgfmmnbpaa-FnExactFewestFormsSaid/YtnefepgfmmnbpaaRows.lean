/-
  No cell of these rows narrows 'for every input' (looked for: loops, veiled, ifaces, maps, wideKeys, modest, calm, conditions, laid).
  DERIVED. THE GIVEN ROWS OF THIS SEAT. 5 by the template 'for every input the law returns true; each argument reads behind the call as it read before'; 0 by the template 'total and deterministic' (their statements: YtnefepgfmmnbpaaTotals.lean).
  GIVEN WITH THE SEED: the statements are not yours to turn. If you find one false, say at which input.
  Laid BY PROGRAM, IN A SANDBOX (cutbox-rows.mjs): the forced cells as the released guide's own fill.sh prints them over the translation 93ef099bab40c50c… (all of the seat's roots in one cut). By AI agents, Wed Nov 11 2026. No macro, syntax, notation, axiom, sorry.
-/
import Derived.Test.YtnefepgfmmnbpaaChecked
import GoSem.Claim
import GoSem.ClaimJoined
import GoSem.ClaimMapViews
import Derived.JoinedTies
import Derived.KernelRfl
namespace Go.Proofs.Ytnefepgfmmnbpaa
/- THE CELL 'sum', in the pinned program and in every row, IS THE sha256 OF THE DUMP (.gsa) THAT YtnefepgfmmnbpaaProg.lean LOADS. Nothing in Lean hashes anything: it is a label: what it is worth is what the hold of that sum in a sandbox is worth. -/
noncomputable def Try.pinned : Pinned := { name := "ytnefepgfmmnbpaa", sum := "93ef099bab40c50c574b477d2fa0996442d48de56f123fd83db9dc04f9a9c078", checked := Try.checked }
namespace Rows
def none {H : Type} : Left H := { results := [], args := [] }

/-- 'laws.FnExactMergeLines': WHATEVER THE INPUT: true; the input reads as it did. -/
def fnExactMergeLinesSpec : ChangeSpec := { name := "fnExactMergeLines", fn := fun _ => fun
  | [d1, d2] => { results := [.lit (.bool true)], args := [d1, d2] }
  | _ => none }
def fnExactMergeLinesRow : OpenClaim := { program := "ytnefepgfmmnbpaa", sum := "93ef099bab40c50c574b477d2fa0996442d48de56f123fd83db9dc04f9a9c078", func := "loop.example/g01366/laws.FnExactMergeLines", spec := "fnExactMergeLines", unfollowed := true, recurses := true, apart := false }
def FnExactMergeLinesSaid : Prop := fnExactMergeLinesRow.holds Try.pinned (OpenSpec.ofChange fnExactMergeLinesSpec)

/-- ITS FALSE NEIGHBOUR: 'it returns false'. Refute it at one input. -/
def fnExactMergeLinesWrong : ChangeSpec := { name := "fnExactMergeLines", fn := fun _ => fun
  | [d1, d2] => { results := [.lit (.bool false)], args := [d1, d2] }
  | _ => none }
def FnExactMergeLinesWrongFalsely : Prop := fnExactMergeLinesRow.holds Try.pinned (OpenSpec.ofChange fnExactMergeLinesWrong)

/-- 'laws.FnExactDutyInAll': WHATEVER THE INPUT: true; the input reads as it did. -/
def fnExactDutyInAllSpec : ChangeSpec := { name := "fnExactDutyInAll", fn := fun _ => fun
  | [d1, d2, d3] => { results := [.lit (.bool true)], args := [d1, d2, d3] }
  | _ => none }
def fnExactDutyInAllRow : OpenClaim := { program := "ytnefepgfmmnbpaa", sum := "93ef099bab40c50c574b477d2fa0996442d48de56f123fd83db9dc04f9a9c078", func := "loop.example/g01366/laws.FnExactDutyInAll", spec := "fnExactDutyInAll", unfollowed := true, recurses := true, apart := false }
def FnExactDutyInAllSaid : Prop := fnExactDutyInAllRow.holds Try.pinned (OpenSpec.ofChange fnExactDutyInAllSpec)

/-- ITS FALSE NEIGHBOUR: 'it returns false'. Refute it at one input. -/
def fnExactDutyInAllWrong : ChangeSpec := { name := "fnExactDutyInAll", fn := fun _ => fun
  | [d1, d2, d3] => { results := [.lit (.bool false)], args := [d1, d2, d3] }
  | _ => none }
def FnExactDutyInAllWrongFalsely : Prop := fnExactDutyInAllRow.holds Try.pinned (OpenSpec.ofChange fnExactDutyInAllWrong)

/-- 'laws.FnExactRoundingGap': WHATEVER THE INPUT: true; the input reads as it did. -/
def fnExactRoundingGapSpec : ChangeSpec := { name := "fnExactRoundingGap", fn := fun _ => fun
  | [d1, d2, d3] => { results := [.lit (.bool true)], args := [d1, d2, d3] }
  | _ => none }
def fnExactRoundingGapRow : OpenClaim := { program := "ytnefepgfmmnbpaa", sum := "93ef099bab40c50c574b477d2fa0996442d48de56f123fd83db9dc04f9a9c078", func := "loop.example/g01366/laws.FnExactRoundingGap", spec := "fnExactRoundingGap", unfollowed := true, recurses := true, apart := false }
def FnExactRoundingGapSaid : Prop := fnExactRoundingGapRow.holds Try.pinned (OpenSpec.ofChange fnExactRoundingGapSpec)

/-- ITS FALSE NEIGHBOUR: 'it returns false'. Refute it at one input. -/
def fnExactRoundingGapWrong : ChangeSpec := { name := "fnExactRoundingGap", fn := fun _ => fun
  | [d1, d2, d3] => { results := [.lit (.bool false)], args := [d1, d2, d3] }
  | _ => none }
def FnExactRoundingGapWrongFalsely : Prop := fnExactRoundingGapRow.holds Try.pinned (OpenSpec.ofChange fnExactRoundingGapWrong)

/-- 'laws.FnExactFewestForms': WHATEVER THE INPUT: true; the input reads as it did. -/
def fnExactFewestFormsSpec : ChangeSpec := { name := "fnExactFewestForms", fn := fun _ => fun
  | [d1, d2, d3] => { results := [.lit (.bool true)], args := [d1, d2, d3] }
  | _ => none }
def fnExactFewestFormsRow : OpenClaim := { program := "ytnefepgfmmnbpaa", sum := "93ef099bab40c50c574b477d2fa0996442d48de56f123fd83db9dc04f9a9c078", func := "loop.example/g01366/laws.FnExactFewestForms", spec := "fnExactFewestForms", unfollowed := true, recurses := true, apart := false }
def FnExactFewestFormsSaid : Prop := fnExactFewestFormsRow.holds Try.pinned (OpenSpec.ofChange fnExactFewestFormsSpec)

/-- ITS FALSE NEIGHBOUR: 'it returns false'. Refute it at one input. -/
def fnExactFewestFormsWrong : ChangeSpec := { name := "fnExactFewestForms", fn := fun _ => fun
  | [d1, d2, d3] => { results := [.lit (.bool false)], args := [d1, d2, d3] }
  | _ => none }
def FnExactFewestFormsWrongFalsely : Prop := fnExactFewestFormsRow.holds Try.pinned (OpenSpec.ofChange fnExactFewestFormsWrong)

/-- 'laws.FnExactLeastDuty': WHATEVER THE INPUT: true; the input reads as it did. -/
def fnExactLeastDutySpec : ChangeSpec := { name := "fnExactLeastDuty", fn := fun _ => fun
  | [d1, d2, d3, d4] => { results := [.lit (.bool true)], args := [d1, d2, d3, d4] }
  | _ => none }
def fnExactLeastDutyRow : OpenClaim := { program := "ytnefepgfmmnbpaa", sum := "93ef099bab40c50c574b477d2fa0996442d48de56f123fd83db9dc04f9a9c078", func := "loop.example/g01366/laws.FnExactLeastDuty", spec := "fnExactLeastDuty", unfollowed := true, recurses := true, apart := false }
def FnExactLeastDutySaid : Prop := fnExactLeastDutyRow.holds Try.pinned (OpenSpec.ofChange fnExactLeastDutySpec)

/-- ITS FALSE NEIGHBOUR: 'it returns false'. Refute it at one input. -/
def fnExactLeastDutyWrong : ChangeSpec := { name := "fnExactLeastDuty", fn := fun _ => fun
  | [d1, d2, d3, d4] => { results := [.lit (.bool false)], args := [d1, d2, d3, d4] }
  | _ => none }
def FnExactLeastDutyWrongFalsely : Prop := fnExactLeastDutyRow.holds Try.pinned (OpenSpec.ofChange fnExactLeastDutyWrong)

/- THE SECOND FORM. 'bulk': how many values and letters a reading holds, each counted each time it is reached (what is shared counts as often as it is met; a slice's spare places count too). A statement '..UptoSaid' is the law's where the arguments, and the package variables that the reading takes, are together of bulk at most 1048576: NARROWER than '..Said'. Prove '..Said' where nothing that the law and all that it calls make is longer than what came in: it says more and counts as full. Else prove '..UptoSaid'. A law counts once. -/
mutual
def uptoBulk {H : Type} : DataW H → Nat
  | .lit (.string bytes) => bytes.length + 1
  | .lit _ => 1
  | .nil => 1
  | .ptr d => uptoBulk d + 1
  | .slice elems spare => uptoBulkAll elems + uptoBulkAll spare + 1
  | .agg parts => uptoBulkAll parts + 1
  | .iface _ d => uptoBulk d + 1
  | .map entries => uptoBulkEntries entries + 1
  | .held _ => 1
def uptoBulkAll {H : Type} : List (DataW H) → Nat
  | [] => 0
  | d :: r => uptoBulk d + uptoBulkAll r
def uptoBulkEntries {H : Type} : List (Lit × DataW H) → Nat
  | [] => 0
  | x :: r => uptoBulkEntry x + uptoBulkEntries r
def uptoBulkEntry {H : Type} : Lit × DataW H → Nat
  | (.string bytes, d) => bytes.length + uptoBulk d + 1
  | (_, d) => uptoBulk d + 1
 end
def uptoSmall : (H : Type) → List (DataW H) → Bool := fun _ ds => decide (uptoBulkAll ds ≤ 1048576)
def OpenSpec.upto (s : _root_.Go.ChangeSpec) : _root_.Go.OpenSpec := { _root_.Go.OpenSpec.ofChange s with cond := some uptoSmall }

/-- 'laws.FnExactMergeLines', WHERE WHAT IT READS IS OF BULK AT MOST 1048576: true; the input reads as it did. -/
def fnExactMergeLinesUptoRow : OpenClaim := { program := "ytnefepgfmmnbpaa", sum := "93ef099bab40c50c574b477d2fa0996442d48de56f123fd83db9dc04f9a9c078", func := "loop.example/g01366/laws.FnExactMergeLines", spec := "fnExactMergeLines", unfollowed := true, recurses := true, apart := false, narrowed := true }
def FnExactMergeLinesUptoSaid : Prop := fnExactMergeLinesUptoRow.holds Try.pinned (OpenSpec.upto fnExactMergeLinesSpec)

/-- 'laws.FnExactDutyInAll', WHERE WHAT IT READS IS OF BULK AT MOST 1048576: true; the input reads as it did. -/
def fnExactDutyInAllUptoRow : OpenClaim := { program := "ytnefepgfmmnbpaa", sum := "93ef099bab40c50c574b477d2fa0996442d48de56f123fd83db9dc04f9a9c078", func := "loop.example/g01366/laws.FnExactDutyInAll", spec := "fnExactDutyInAll", unfollowed := true, recurses := true, apart := false, narrowed := true }
def FnExactDutyInAllUptoSaid : Prop := fnExactDutyInAllUptoRow.holds Try.pinned (OpenSpec.upto fnExactDutyInAllSpec)

/-- 'laws.FnExactRoundingGap', WHERE WHAT IT READS IS OF BULK AT MOST 1048576: true; the input reads as it did. -/
def fnExactRoundingGapUptoRow : OpenClaim := { program := "ytnefepgfmmnbpaa", sum := "93ef099bab40c50c574b477d2fa0996442d48de56f123fd83db9dc04f9a9c078", func := "loop.example/g01366/laws.FnExactRoundingGap", spec := "fnExactRoundingGap", unfollowed := true, recurses := true, apart := false, narrowed := true }
def FnExactRoundingGapUptoSaid : Prop := fnExactRoundingGapUptoRow.holds Try.pinned (OpenSpec.upto fnExactRoundingGapSpec)

/-- 'laws.FnExactFewestForms', WHERE WHAT IT READS IS OF BULK AT MOST 1048576: true; the input reads as it did. -/
def fnExactFewestFormsUptoRow : OpenClaim := { program := "ytnefepgfmmnbpaa", sum := "93ef099bab40c50c574b477d2fa0996442d48de56f123fd83db9dc04f9a9c078", func := "loop.example/g01366/laws.FnExactFewestForms", spec := "fnExactFewestForms", unfollowed := true, recurses := true, apart := false, narrowed := true }
def FnExactFewestFormsUptoSaid : Prop := fnExactFewestFormsUptoRow.holds Try.pinned (OpenSpec.upto fnExactFewestFormsSpec)

/-- 'laws.FnExactLeastDuty', WHERE WHAT IT READS IS OF BULK AT MOST 1048576: true; the input reads as it did. -/
def fnExactLeastDutyUptoRow : OpenClaim := { program := "ytnefepgfmmnbpaa", sum := "93ef099bab40c50c574b477d2fa0996442d48de56f123fd83db9dc04f9a9c078", func := "loop.example/g01366/laws.FnExactLeastDuty", spec := "fnExactLeastDuty", unfollowed := true, recurses := true, apart := false, narrowed := true }
def FnExactLeastDutyUptoSaid : Prop := fnExactLeastDutyUptoRow.holds Try.pinned (OpenSpec.upto fnExactLeastDutySpec)

end Rows
end Go.Proofs.Ytnefepgfmmnbpaa
