/-
  No cell of these rows narrows 'for every input' (looked for: loops, veiled, ifaces, maps, wideKeys, modest, calm, conditions, laid).
  DERIVED. THE GIVEN ROWS OF THIS SEAT. 8 by the template 'for every input the law returns true; each argument reads behind the call as it read before'; 0 by the template 'total and deterministic' (their statements: YtihnefkkgbokcaaTotals.lean).
  GIVEN WITH THE SEED: the statements are not yours to turn. If you find one false, say at which input.
  Laid BY PROGRAM, IN A SANDBOX (cutbox-rows.mjs): the forced cells as the released guide's own fill.sh prints them over the translation 025e2874ccd3dbf1… (all of the seat's roots in one cut). By AI agents, Wed Nov 11 2026. No macro, syntax, notation, axiom, sorry.
-/
import Derived.Test.YtihnefkkgbokcaaChecked
import GoSem.Claim
import GoSem.ClaimJoined
import GoSem.ClaimMapViews
import Derived.JoinedTies
import Derived.KernelRfl
namespace Go.Proofs.Ytihnefkkgbokcaa
/- THE CELL 'sum', in the pinned program and in every row, IS THE sha256 OF THE DUMP (.gsa) THAT YtihnefkkgbokcaaProg.lean LOADS. Nothing in Lean hashes anything: it is a label: what it is worth is what the hold of that sum in a sandbox is worth. -/
noncomputable def Try.pinned : Pinned := { name := "ytihnefkkgbokcaa", sum := "025e2874ccd3dbf152f824aa89be9d11bd1ce2f227290c40cf116dd8b815b422", checked := Try.checked }
namespace Rows
def none {H : Type} : Left H := { results := [], args := [] }

/-- 'laws.FnExactFewestShifts': WHATEVER THE INPUT: true; the input reads as it did. -/
def fnExactFewestShiftsSpec : ChangeSpec := { name := "fnExactFewestShifts", fn := fun _ => fun
  | [d1, d2] => { results := [.lit (.bool true)], args := [d1, d2] }
  | _ => none }
def fnExactFewestShiftsRow : OpenClaim := { program := "ytihnefkkgbokcaa", sum := "025e2874ccd3dbf152f824aa89be9d11bd1ce2f227290c40cf116dd8b815b422", func := "loop.example/g01366/laws.FnExactFewestShifts", spec := "fnExactFewestShifts", inPlace := ["internal/abi.NoEscape", "internal/bytealg.MakeNoZero"], unfollowed := true, recurses := true, plainKeys := false, apart := false }
def FnExactFewestShiftsSaid : Prop := fnExactFewestShiftsRow.holds Try.pinned (OpenSpec.ofChange fnExactFewestShiftsSpec)

/-- ITS FALSE NEIGHBOUR: 'it returns false'. Refute it at one input. -/
def fnExactFewestShiftsWrong : ChangeSpec := { name := "fnExactFewestShifts", fn := fun _ => fun
  | [d1, d2] => { results := [.lit (.bool false)], args := [d1, d2] }
  | _ => none }
def FnExactFewestShiftsWrongFalsely : Prop := fnExactFewestShiftsRow.holds Try.pinned (OpenSpec.ofChange fnExactFewestShiftsWrong)

/-- 'laws.FnExactLoadFor': WHATEVER THE INPUT: true; the input reads as it did. -/
def fnExactLoadForSpec : ChangeSpec := { name := "fnExactLoadFor", fn := fun _ => fun
  | [d] => { results := [.lit (.bool true)], args := [d] }
  | _ => none }
def fnExactLoadForRow : OpenClaim := { program := "ytihnefkkgbokcaa", sum := "025e2874ccd3dbf152f824aa89be9d11bd1ce2f227290c40cf116dd8b815b422", func := "loop.example/g01366/laws.FnExactLoadFor", spec := "fnExactLoadFor", unfollowed := true, recurses := true, plainKeys := false, apart := false }
def FnExactLoadForSaid : Prop := fnExactLoadForRow.holds Try.pinned (OpenSpec.ofChange fnExactLoadForSpec)

/-- ITS FALSE NEIGHBOUR: 'it returns false'. Refute it at one input. -/
def fnExactLoadForWrong : ChangeSpec := { name := "fnExactLoadFor", fn := fun _ => fun
  | [d] => { results := [.lit (.bool false)], args := [d] }
  | _ => none }
def FnExactLoadForWrongFalsely : Prop := fnExactLoadForRow.holds Try.pinned (OpenSpec.ofChange fnExactLoadForWrong)

/-- 'laws.FnExactStopsOf': WHATEVER THE INPUT: true; the input reads as it did. -/
def fnExactStopsOfSpec : ChangeSpec := { name := "fnExactStopsOf", fn := fun _ => fun
  | [d] => { results := [.lit (.bool true)], args := [d] }
  | _ => none }
def fnExactStopsOfRow : OpenClaim := { program := "ytihnefkkgbokcaa", sum := "025e2874ccd3dbf152f824aa89be9d11bd1ce2f227290c40cf116dd8b815b422", func := "loop.example/g01366/laws.FnExactStopsOf", spec := "fnExactStopsOf", unfollowed := true, recurses := true, plainKeys := false, apart := false }
def FnExactStopsOfSaid : Prop := fnExactStopsOfRow.holds Try.pinned (OpenSpec.ofChange fnExactStopsOfSpec)

/-- ITS FALSE NEIGHBOUR: 'it returns false'. Refute it at one input. -/
def fnExactStopsOfWrong : ChangeSpec := { name := "fnExactStopsOf", fn := fun _ => fun
  | [d] => { results := [.lit (.bool false)], args := [d] }
  | _ => none }
def FnExactStopsOfWrongFalsely : Prop := fnExactStopsOfRow.holds Try.pinned (OpenSpec.ofChange fnExactStopsOfWrong)

/-- 'laws.FnExactLeastHeaviest': WHATEVER THE INPUT: true; the input reads as it did. -/
def fnExactLeastHeaviestSpec : ChangeSpec := { name := "fnExactLeastHeaviest", fn := fun _ => fun
  | [d1, d2] => { results := [.lit (.bool true)], args := [d1, d2] }
  | _ => none }
def fnExactLeastHeaviestRow : OpenClaim := { program := "ytihnefkkgbokcaa", sum := "025e2874ccd3dbf152f824aa89be9d11bd1ce2f227290c40cf116dd8b815b422", func := "loop.example/g01366/laws.FnExactLeastHeaviest", spec := "fnExactLeastHeaviest", unfollowed := true, recurses := true, plainKeys := false, apart := false }
def FnExactLeastHeaviestSaid : Prop := fnExactLeastHeaviestRow.holds Try.pinned (OpenSpec.ofChange fnExactLeastHeaviestSpec)

/-- ITS FALSE NEIGHBOUR: 'it returns false'. Refute it at one input. -/
def fnExactLeastHeaviestWrong : ChangeSpec := { name := "fnExactLeastHeaviest", fn := fun _ => fun
  | [d1, d2] => { results := [.lit (.bool false)], args := [d1, d2] }
  | _ => none }
def FnExactLeastHeaviestWrongFalsely : Prop := fnExactLeastHeaviestRow.holds Try.pinned (OpenSpec.ofChange fnExactLeastHeaviestWrong)

/-- 'laws.FnExactWalkOf': WHATEVER THE INPUT: true; the input reads as it did. -/
def fnExactWalkOfSpec : ChangeSpec := { name := "fnExactWalkOf", fn := fun _ => fun
  | [d1, d2] => { results := [.lit (.bool true)], args := [d1, d2] }
  | _ => none }
def fnExactWalkOfRow : OpenClaim := { program := "ytihnefkkgbokcaa", sum := "025e2874ccd3dbf152f824aa89be9d11bd1ce2f227290c40cf116dd8b815b422", func := "loop.example/g01366/laws.FnExactWalkOf", spec := "fnExactWalkOf", unfollowed := true, recurses := true, plainKeys := false, apart := false }
def FnExactWalkOfSaid : Prop := fnExactWalkOfRow.holds Try.pinned (OpenSpec.ofChange fnExactWalkOfSpec)

/-- ITS FALSE NEIGHBOUR: 'it returns false'. Refute it at one input. -/
def fnExactWalkOfWrong : ChangeSpec := { name := "fnExactWalkOf", fn := fun _ => fun
  | [d1, d2] => { results := [.lit (.bool false)], args := [d1, d2] }
  | _ => none }
def FnExactWalkOfWrongFalsely : Prop := fnExactWalkOfRow.holds Try.pinned (OpenSpec.ofChange fnExactWalkOfWrong)

/-- 'laws.FnExactSplitRound': WHATEVER THE INPUT: true; the input reads as it did. -/
def fnExactSplitRoundSpec : ChangeSpec := { name := "fnExactSplitRound", fn := fun _ => fun
  | [d1, d2] => { results := [.lit (.bool true)], args := [d1, d2] }
  | _ => none }
def fnExactSplitRoundRow : OpenClaim := { program := "ytihnefkkgbokcaa", sum := "025e2874ccd3dbf152f824aa89be9d11bd1ce2f227290c40cf116dd8b815b422", func := "loop.example/g01366/laws.FnExactSplitRound", spec := "fnExactSplitRound", unfollowed := true, recurses := true, plainKeys := false, apart := false }
def FnExactSplitRoundSaid : Prop := fnExactSplitRoundRow.holds Try.pinned (OpenSpec.ofChange fnExactSplitRoundSpec)

/-- ITS FALSE NEIGHBOUR: 'it returns false'. Refute it at one input. -/
def fnExactSplitRoundWrong : ChangeSpec := { name := "fnExactSplitRound", fn := fun _ => fun
  | [d1, d2] => { results := [.lit (.bool false)], args := [d1, d2] }
  | _ => none }
def FnExactSplitRoundWrongFalsely : Prop := fnExactSplitRoundRow.holds Try.pinned (OpenSpec.ofChange fnExactSplitRoundWrong)

/-- 'laws.FnExactDiggingOf': WHATEVER THE INPUT: true; the input reads as it did. -/
def fnExactDiggingOfSpec : ChangeSpec := { name := "fnExactDiggingOf", fn := fun _ => fun
  | [d1, d2, d3] => { results := [.lit (.bool true)], args := [d1, d2, d3] }
  | _ => none }
def fnExactDiggingOfRow : OpenClaim := { program := "ytihnefkkgbokcaa", sum := "025e2874ccd3dbf152f824aa89be9d11bd1ce2f227290c40cf116dd8b815b422", func := "loop.example/g01366/laws.FnExactDiggingOf", spec := "fnExactDiggingOf", unfollowed := true, recurses := true, plainKeys := false, apart := false }
def FnExactDiggingOfSaid : Prop := fnExactDiggingOfRow.holds Try.pinned (OpenSpec.ofChange fnExactDiggingOfSpec)

/-- ITS FALSE NEIGHBOUR: 'it returns false'. Refute it at one input. -/
def fnExactDiggingOfWrong : ChangeSpec := { name := "fnExactDiggingOf", fn := fun _ => fun
  | [d1, d2, d3] => { results := [.lit (.bool false)], args := [d1, d2, d3] }
  | _ => none }
def FnExactDiggingOfWrongFalsely : Prop := fnExactDiggingOfRow.holds Try.pinned (OpenSpec.ofChange fnExactDiggingOfWrong)

/-- 'laws.FnExactBestVisit': WHATEVER THE INPUT: true; the input reads as it did. -/
def fnExactBestVisitSpec : ChangeSpec := { name := "fnExactBestVisit", fn := fun _ => fun
  | [d1, d2, d3] => { results := [.lit (.bool true)], args := [d1, d2, d3] }
  | _ => none }
def fnExactBestVisitRow : OpenClaim := { program := "ytihnefkkgbokcaa", sum := "025e2874ccd3dbf152f824aa89be9d11bd1ce2f227290c40cf116dd8b815b422", func := "loop.example/g01366/laws.FnExactBestVisit", spec := "fnExactBestVisit", unfollowed := true, recurses := true, plainKeys := false, apart := false }
def FnExactBestVisitSaid : Prop := fnExactBestVisitRow.holds Try.pinned (OpenSpec.ofChange fnExactBestVisitSpec)

/-- ITS FALSE NEIGHBOUR: 'it returns false'. Refute it at one input. -/
def fnExactBestVisitWrong : ChangeSpec := { name := "fnExactBestVisit", fn := fun _ => fun
  | [d1, d2, d3] => { results := [.lit (.bool false)], args := [d1, d2, d3] }
  | _ => none }
def FnExactBestVisitWrongFalsely : Prop := fnExactBestVisitRow.holds Try.pinned (OpenSpec.ofChange fnExactBestVisitWrong)

/- THE SECOND FORM. 'bulk': how many values and letters a reading holds, each counted each time it is reached (what is shared counts as often as it is met; a slice's spare places count too). A statement '..UptoSaid' is the law's where the arguments, and the package variables that the reading takes, are together of bulk at most 1048576: NARROWER than '..Said'. Prove '..Said' where nothing that the law and all that it calls make is longer than what came in: it says more and counts as full. Else prove '..UptoSaid'. A law counts once. -/
mutual
def uptoBulk {H : Type} : DataW H → Nat
  | .lit (.string bytes) => bytes.length + 1
  | .lit _ => 1
  | .nil => 1
  | .ptr d => uptoBulk d + 1
  | .slice elems spare => uptoBulkAll elems + uptoBulkAll spare + 1
  | .agg parts => uptoBulkAll parts + 1
  | .iface _ d => uptoBulk d + 1
  | .map entries => uptoBulkEntries entries + 1
  | .held _ => 1
def uptoBulkAll {H : Type} : List (DataW H) → Nat
  | [] => 0
  | d :: r => uptoBulk d + uptoBulkAll r
def uptoBulkEntries {H : Type} : List (Lit × DataW H) → Nat
  | [] => 0
  | x :: r => uptoBulkEntry x + uptoBulkEntries r
def uptoBulkEntry {H : Type} : Lit × DataW H → Nat
  | (.string bytes, d) => bytes.length + uptoBulk d + 1
  | (_, d) => uptoBulk d + 1
 end
def uptoSmall : (H : Type) → List (DataW H) → Bool := fun _ ds => decide (uptoBulkAll ds ≤ 1048576)
def OpenSpec.upto (s : _root_.Go.ChangeSpec) : _root_.Go.OpenSpec := { _root_.Go.OpenSpec.ofChange s with cond := some uptoSmall }

/-- 'laws.FnExactFewestShifts', WHERE WHAT IT READS IS OF BULK AT MOST 1048576: true; the input reads as it did. -/
def fnExactFewestShiftsUptoRow : OpenClaim := { program := "ytihnefkkgbokcaa", sum := "025e2874ccd3dbf152f824aa89be9d11bd1ce2f227290c40cf116dd8b815b422", func := "loop.example/g01366/laws.FnExactFewestShifts", spec := "fnExactFewestShifts", inPlace := ["internal/abi.NoEscape", "internal/bytealg.MakeNoZero"], unfollowed := true, recurses := true, plainKeys := false, apart := false, narrowed := true }
def FnExactFewestShiftsUptoSaid : Prop := fnExactFewestShiftsUptoRow.holds Try.pinned (OpenSpec.upto fnExactFewestShiftsSpec)

/-- 'laws.FnExactLoadFor', WHERE WHAT IT READS IS OF BULK AT MOST 1048576: true; the input reads as it did. -/
def fnExactLoadForUptoRow : OpenClaim := { program := "ytihnefkkgbokcaa", sum := "025e2874ccd3dbf152f824aa89be9d11bd1ce2f227290c40cf116dd8b815b422", func := "loop.example/g01366/laws.FnExactLoadFor", spec := "fnExactLoadFor", unfollowed := true, recurses := true, plainKeys := false, apart := false, narrowed := true }
def FnExactLoadForUptoSaid : Prop := fnExactLoadForUptoRow.holds Try.pinned (OpenSpec.upto fnExactLoadForSpec)

/-- 'laws.FnExactStopsOf', WHERE WHAT IT READS IS OF BULK AT MOST 1048576: true; the input reads as it did. -/
def fnExactStopsOfUptoRow : OpenClaim := { program := "ytihnefkkgbokcaa", sum := "025e2874ccd3dbf152f824aa89be9d11bd1ce2f227290c40cf116dd8b815b422", func := "loop.example/g01366/laws.FnExactStopsOf", spec := "fnExactStopsOf", unfollowed := true, recurses := true, plainKeys := false, apart := false, narrowed := true }
def FnExactStopsOfUptoSaid : Prop := fnExactStopsOfUptoRow.holds Try.pinned (OpenSpec.upto fnExactStopsOfSpec)

/-- 'laws.FnExactLeastHeaviest', WHERE WHAT IT READS IS OF BULK AT MOST 1048576: true; the input reads as it did. -/
def fnExactLeastHeaviestUptoRow : OpenClaim := { program := "ytihnefkkgbokcaa", sum := "025e2874ccd3dbf152f824aa89be9d11bd1ce2f227290c40cf116dd8b815b422", func := "loop.example/g01366/laws.FnExactLeastHeaviest", spec := "fnExactLeastHeaviest", unfollowed := true, recurses := true, plainKeys := false, apart := false, narrowed := true }
def FnExactLeastHeaviestUptoSaid : Prop := fnExactLeastHeaviestUptoRow.holds Try.pinned (OpenSpec.upto fnExactLeastHeaviestSpec)

/-- 'laws.FnExactWalkOf', WHERE WHAT IT READS IS OF BULK AT MOST 1048576: true; the input reads as it did. -/
def fnExactWalkOfUptoRow : OpenClaim := { program := "ytihnefkkgbokcaa", sum := "025e2874ccd3dbf152f824aa89be9d11bd1ce2f227290c40cf116dd8b815b422", func := "loop.example/g01366/laws.FnExactWalkOf", spec := "fnExactWalkOf", unfollowed := true, recurses := true, plainKeys := false, apart := false, narrowed := true }
def FnExactWalkOfUptoSaid : Prop := fnExactWalkOfUptoRow.holds Try.pinned (OpenSpec.upto fnExactWalkOfSpec)

/-- 'laws.FnExactSplitRound', WHERE WHAT IT READS IS OF BULK AT MOST 1048576: true; the input reads as it did. -/
def fnExactSplitRoundUptoRow : OpenClaim := { program := "ytihnefkkgbokcaa", sum := "025e2874ccd3dbf152f824aa89be9d11bd1ce2f227290c40cf116dd8b815b422", func := "loop.example/g01366/laws.FnExactSplitRound", spec := "fnExactSplitRound", unfollowed := true, recurses := true, plainKeys := false, apart := false, narrowed := true }
def FnExactSplitRoundUptoSaid : Prop := fnExactSplitRoundUptoRow.holds Try.pinned (OpenSpec.upto fnExactSplitRoundSpec)

/-- 'laws.FnExactDiggingOf', WHERE WHAT IT READS IS OF BULK AT MOST 1048576: true; the input reads as it did. -/
def fnExactDiggingOfUptoRow : OpenClaim := { program := "ytihnefkkgbokcaa", sum := "025e2874ccd3dbf152f824aa89be9d11bd1ce2f227290c40cf116dd8b815b422", func := "loop.example/g01366/laws.FnExactDiggingOf", spec := "fnExactDiggingOf", unfollowed := true, recurses := true, plainKeys := false, apart := false, narrowed := true }
def FnExactDiggingOfUptoSaid : Prop := fnExactDiggingOfUptoRow.holds Try.pinned (OpenSpec.upto fnExactDiggingOfSpec)

/-- 'laws.FnExactBestVisit', WHERE WHAT IT READS IS OF BULK AT MOST 1048576: true; the input reads as it did. -/
def fnExactBestVisitUptoRow : OpenClaim := { program := "ytihnefkkgbokcaa", sum := "025e2874ccd3dbf152f824aa89be9d11bd1ce2f227290c40cf116dd8b815b422", func := "loop.example/g01366/laws.FnExactBestVisit", spec := "fnExactBestVisit", unfollowed := true, recurses := true, plainKeys := false, apart := false, narrowed := true }
def FnExactBestVisitUptoSaid : Prop := fnExactBestVisitUptoRow.holds Try.pinned (OpenSpec.upto fnExactBestVisitSpec)

end Rows
end Go.Proofs.Ytihnefkkgbokcaa
