/-
  No cell of these rows narrows 'for every input' (looked for: loops, veiled, ifaces, maps, wideKeys, modest, calm, conditions, laid).
  DERIVED. THE GIVEN ROWS OF THIS SEAT. 12 by the template 'for every input the law returns true; each argument reads behind the call as it read before'; 0 by the template 'total and deterministic' (their statements: YtehphbaobhnfjaaTotals.lean).
  GIVEN WITH THE SEED: the statements are not yours to turn. If you find one false, say at which input.
  Laid BY PROGRAM, IN A SANDBOX (cutbox-rows.mjs): the forced cells as the released guide's own fill.sh prints them over the translation 2635ae2acf08572f… (all of the seat's roots in one cut). By AI agents, Wed Nov 11 2026. No macro, syntax, notation, axiom, sorry.
-/
import Derived.Test.YtehphbaobhnfjaaChecked
import GoSem.Claim
import GoSem.ClaimJoined
import GoSem.ClaimMapViews
import Derived.JoinedTies
import Derived.KernelRfl
namespace Go.Proofs.Ytehphbaobhnfjaa
/- THE CELL 'sum', in the pinned program and in every row, IS THE sha256 OF THE DUMP (.gsa) THAT YtehphbaobhnfjaaProg.lean LOADS. Nothing in Lean hashes anything: it is a label: what it is worth is what the hold of that sum in a sandbox is worth. -/
noncomputable def Try.pinned : Pinned := { name := "ytehphbaobhnfjaa", sum := "2635ae2acf08572fec00cb1609302fb47b2f4080c61d7095b00496082ae2d977", checked := Try.checked }
namespace Rows
def none {H : Type} : Left H := { results := [], args := [] }

/-- 'laws.FnExactRoundShare': WHATEVER THE INPUT: true; the input reads as it did. -/
def fnExactRoundShareSpec : ChangeSpec := { name := "fnExactRoundShare", fn := fun _ => fun
  | [d1, d2, d3, d4] => { results := [.lit (.bool true)], args := [d1, d2, d3, d4] }
  | _ => none }
def fnExactRoundShareRow : OpenClaim := { program := "ytehphbaobhnfjaa", sum := "2635ae2acf08572fec00cb1609302fb47b2f4080c61d7095b00496082ae2d977", func := "loop.example/g01366/laws.FnExactRoundShare", spec := "fnExactRoundShare", apart := false }
def FnExactRoundShareSaid : Prop := fnExactRoundShareRow.holds Try.pinned (OpenSpec.ofChange fnExactRoundShareSpec)

/-- ITS FALSE NEIGHBOUR: 'it returns false'. Refute it at one input. -/
def fnExactRoundShareWrong : ChangeSpec := { name := "fnExactRoundShare", fn := fun _ => fun
  | [d1, d2, d3, d4] => { results := [.lit (.bool false)], args := [d1, d2, d3, d4] }
  | _ => none }
def FnExactRoundShareWrongFalsely : Prop := fnExactRoundShareRow.holds Try.pinned (OpenSpec.ofChange fnExactRoundShareWrong)

/-- 'laws.FnExactSameForm': WHATEVER THE INPUT: true; the input reads as it did. -/
def fnExactSameFormSpec : ChangeSpec := { name := "fnExactSameForm", fn := fun _ => fun
  | [d1, d2] => { results := [.lit (.bool true)], args := [d1, d2] }
  | _ => none }
def fnExactSameFormRow : OpenClaim := { program := "ytehphbaobhnfjaa", sum := "2635ae2acf08572fec00cb1609302fb47b2f4080c61d7095b00496082ae2d977", func := "loop.example/g01366/laws.FnExactSameForm", spec := "fnExactSameForm", apart := false }
def FnExactSameFormSaid : Prop := fnExactSameFormRow.holds Try.pinned (OpenSpec.ofChange fnExactSameFormSpec)

/-- ITS FALSE NEIGHBOUR: 'it returns false'. Refute it at one input. -/
def fnExactSameFormWrong : ChangeSpec := { name := "fnExactSameForm", fn := fun _ => fun
  | [d1, d2] => { results := [.lit (.bool false)], args := [d1, d2] }
  | _ => none }
def FnExactSameFormWrongFalsely : Prop := fnExactSameFormRow.holds Try.pinned (OpenSpec.ofChange fnExactSameFormWrong)

/-- 'laws.FnExactValidClasses': WHATEVER THE INPUT: true; the input reads as it did. -/
def fnExactValidClassesSpec : ChangeSpec := { name := "fnExactValidClasses", fn := fun _ => fun
  | [d] => { results := [.lit (.bool true)], args := [d] }
  | _ => none }
def fnExactValidClassesRow : OpenClaim := { program := "ytehphbaobhnfjaa", sum := "2635ae2acf08572fec00cb1609302fb47b2f4080c61d7095b00496082ae2d977", func := "loop.example/g01366/laws.FnExactValidClasses", spec := "fnExactValidClasses", unfollowed := true, recurses := true, apart := false }
def FnExactValidClassesSaid : Prop := fnExactValidClassesRow.holds Try.pinned (OpenSpec.ofChange fnExactValidClassesSpec)

/-- ITS FALSE NEIGHBOUR: 'it returns false'. Refute it at one input. -/
def fnExactValidClassesWrong : ChangeSpec := { name := "fnExactValidClasses", fn := fun _ => fun
  | [d] => { results := [.lit (.bool false)], args := [d] }
  | _ => none }
def FnExactValidClassesWrongFalsely : Prop := fnExactValidClassesRow.holds Try.pinned (OpenSpec.ofChange fnExactValidClassesWrong)

/-- 'laws.FnExactUnitValue': WHATEVER THE INPUT: true; the input reads as it did. -/
def fnExactUnitValueSpec : ChangeSpec := { name := "fnExactUnitValue", fn := fun _ => fun
  | [d1, d2] => { results := [.lit (.bool true)], args := [d1, d2] }
  | _ => none }
def fnExactUnitValueRow : OpenClaim := { program := "ytehphbaobhnfjaa", sum := "2635ae2acf08572fec00cb1609302fb47b2f4080c61d7095b00496082ae2d977", func := "loop.example/g01366/laws.FnExactUnitValue", spec := "fnExactUnitValue", unfollowed := true, recurses := true, apart := false }
def FnExactUnitValueSaid : Prop := fnExactUnitValueRow.holds Try.pinned (OpenSpec.ofChange fnExactUnitValueSpec)

/-- ITS FALSE NEIGHBOUR: 'it returns false'. Refute it at one input. -/
def fnExactUnitValueWrong : ChangeSpec := { name := "fnExactUnitValue", fn := fun _ => fun
  | [d1, d2] => { results := [.lit (.bool false)], args := [d1, d2] }
  | _ => none }
def FnExactUnitValueWrongFalsely : Prop := fnExactUnitValueRow.holds Try.pinned (OpenSpec.ofChange fnExactUnitValueWrong)

/-- 'laws.FnExactValidForm': WHATEVER THE INPUT: true; the input reads as it did. -/
def fnExactValidFormSpec : ChangeSpec := { name := "fnExactValidForm", fn := fun _ => fun
  | [d1, d2] => { results := [.lit (.bool true)], args := [d1, d2] }
  | _ => none }
def fnExactValidFormRow : OpenClaim := { program := "ytehphbaobhnfjaa", sum := "2635ae2acf08572fec00cb1609302fb47b2f4080c61d7095b00496082ae2d977", func := "loop.example/g01366/laws.FnExactValidForm", spec := "fnExactValidForm", unfollowed := true, recurses := true, apart := false }
def FnExactValidFormSaid : Prop := fnExactValidFormRow.holds Try.pinned (OpenSpec.ofChange fnExactValidFormSpec)

/-- ITS FALSE NEIGHBOUR: 'it returns false'. Refute it at one input. -/
def fnExactValidFormWrong : ChangeSpec := { name := "fnExactValidForm", fn := fun _ => fun
  | [d1, d2] => { results := [.lit (.bool false)], args := [d1, d2] }
  | _ => none }
def FnExactValidFormWrongFalsely : Prop := fnExactValidFormRow.holds Try.pinned (OpenSpec.ofChange fnExactValidFormWrong)

/-- 'laws.FnExactGramsOf': WHATEVER THE INPUT: true; the input reads as it did. -/
def fnExactGramsOfSpec : ChangeSpec := { name := "fnExactGramsOf", fn := fun _ => fun
  | [d1, d2] => { results := [.lit (.bool true)], args := [d1, d2] }
  | _ => none }
def fnExactGramsOfRow : OpenClaim := { program := "ytehphbaobhnfjaa", sum := "2635ae2acf08572fec00cb1609302fb47b2f4080c61d7095b00496082ae2d977", func := "loop.example/g01366/laws.FnExactGramsOf", spec := "fnExactGramsOf", unfollowed := true, recurses := true, apart := false }
def FnExactGramsOfSaid : Prop := fnExactGramsOfRow.holds Try.pinned (OpenSpec.ofChange fnExactGramsOfSpec)

/-- ITS FALSE NEIGHBOUR: 'it returns false'. Refute it at one input. -/
def fnExactGramsOfWrong : ChangeSpec := { name := "fnExactGramsOf", fn := fun _ => fun
  | [d1, d2] => { results := [.lit (.bool false)], args := [d1, d2] }
  | _ => none }
def FnExactGramsOfWrongFalsely : Prop := fnExactGramsOfRow.holds Try.pinned (OpenSpec.ofChange fnExactGramsOfWrong)

/-- 'laws.FnExactWorthOf': WHATEVER THE INPUT: true; the input reads as it did. -/
def fnExactWorthOfSpec : ChangeSpec := { name := "fnExactWorthOf", fn := fun _ => fun
  | [d1, d2] => { results := [.lit (.bool true)], args := [d1, d2] }
  | _ => none }
def fnExactWorthOfRow : OpenClaim := { program := "ytehphbaobhnfjaa", sum := "2635ae2acf08572fec00cb1609302fb47b2f4080c61d7095b00496082ae2d977", func := "loop.example/g01366/laws.FnExactWorthOf", spec := "fnExactWorthOf", unfollowed := true, recurses := true, apart := false }
def FnExactWorthOfSaid : Prop := fnExactWorthOfRow.holds Try.pinned (OpenSpec.ofChange fnExactWorthOfSpec)

/-- ITS FALSE NEIGHBOUR: 'it returns false'. Refute it at one input. -/
def fnExactWorthOfWrong : ChangeSpec := { name := "fnExactWorthOf", fn := fun _ => fun
  | [d1, d2] => { results := [.lit (.bool false)], args := [d1, d2] }
  | _ => none }
def FnExactWorthOfWrongFalsely : Prop := fnExactWorthOfRow.holds Try.pinned (OpenSpec.ofChange fnExactWorthOfWrong)

/-- 'laws.FnExactDearestClass': WHATEVER THE INPUT: true; the input reads as it did. -/
def fnExactDearestClassSpec : ChangeSpec := { name := "fnExactDearestClass", fn := fun _ => fun
  | [d1, d2, d3, d4] => { results := [.lit (.bool true)], args := [d1, d2, d3, d4] }
  | _ => none }
def fnExactDearestClassRow : OpenClaim := { program := "ytehphbaobhnfjaa", sum := "2635ae2acf08572fec00cb1609302fb47b2f4080c61d7095b00496082ae2d977", func := "loop.example/g01366/laws.FnExactDearestClass", spec := "fnExactDearestClass", unfollowed := true, recurses := true, apart := false }
def FnExactDearestClassSaid : Prop := fnExactDearestClassRow.holds Try.pinned (OpenSpec.ofChange fnExactDearestClassSpec)

/-- ITS FALSE NEIGHBOUR: 'it returns false'. Refute it at one input. -/
def fnExactDearestClassWrong : ChangeSpec := { name := "fnExactDearestClass", fn := fun _ => fun
  | [d1, d2, d3, d4] => { results := [.lit (.bool false)], args := [d1, d2, d3, d4] }
  | _ => none }
def FnExactDearestClassWrongFalsely : Prop := fnExactDearestClassRow.holds Try.pinned (OpenSpec.ofChange fnExactDearestClassWrong)

/-- 'laws.FnExactFirstOdd': WHATEVER THE INPUT: true; the input reads as it did. -/
def fnExactFirstOddSpec : ChangeSpec := { name := "fnExactFirstOdd", fn := fun _ => fun
  | [d1, d2, d3, d4] => { results := [.lit (.bool true)], args := [d1, d2, d3, d4] }
  | _ => none }
def fnExactFirstOddRow : OpenClaim := { program := "ytehphbaobhnfjaa", sum := "2635ae2acf08572fec00cb1609302fb47b2f4080c61d7095b00496082ae2d977", func := "loop.example/g01366/laws.FnExactFirstOdd", spec := "fnExactFirstOdd", unfollowed := true, recurses := true, apart := false }
def FnExactFirstOddSaid : Prop := fnExactFirstOddRow.holds Try.pinned (OpenSpec.ofChange fnExactFirstOddSpec)

/-- ITS FALSE NEIGHBOUR: 'it returns false'. Refute it at one input. -/
def fnExactFirstOddWrong : ChangeSpec := { name := "fnExactFirstOdd", fn := fun _ => fun
  | [d1, d2, d3, d4] => { results := [.lit (.bool false)], args := [d1, d2, d3, d4] }
  | _ => none }
def FnExactFirstOddWrongFalsely : Prop := fnExactFirstOddRow.holds Try.pinned (OpenSpec.ofChange fnExactFirstOddWrong)

/-- 'laws.FnExactDutyOfLine': WHATEVER THE INPUT: true; the input reads as it did. -/
def fnExactDutyOfLineSpec : ChangeSpec := { name := "fnExactDutyOfLine", fn := fun _ => fun
  | [d1, d2, d3] => { results := [.lit (.bool true)], args := [d1, d2, d3] }
  | _ => none }
def fnExactDutyOfLineRow : OpenClaim := { program := "ytehphbaobhnfjaa", sum := "2635ae2acf08572fec00cb1609302fb47b2f4080c61d7095b00496082ae2d977", func := "loop.example/g01366/laws.FnExactDutyOfLine", spec := "fnExactDutyOfLine", unfollowed := true, recurses := true, apart := false }
def FnExactDutyOfLineSaid : Prop := fnExactDutyOfLineRow.holds Try.pinned (OpenSpec.ofChange fnExactDutyOfLineSpec)

/-- ITS FALSE NEIGHBOUR: 'it returns false'. Refute it at one input. -/
def fnExactDutyOfLineWrong : ChangeSpec := { name := "fnExactDutyOfLine", fn := fun _ => fun
  | [d1, d2, d3] => { results := [.lit (.bool false)], args := [d1, d2, d3] }
  | _ => none }
def FnExactDutyOfLineWrongFalsely : Prop := fnExactDutyOfLineRow.holds Try.pinned (OpenSpec.ofChange fnExactDutyOfLineWrong)

/-- 'laws.FnExactDutyOf': WHATEVER THE INPUT: true; the input reads as it did. -/
def fnExactDutyOfSpec : ChangeSpec := { name := "fnExactDutyOf", fn := fun _ => fun
  | [d1, d2, d3] => { results := [.lit (.bool true)], args := [d1, d2, d3] }
  | _ => none }
def fnExactDutyOfRow : OpenClaim := { program := "ytehphbaobhnfjaa", sum := "2635ae2acf08572fec00cb1609302fb47b2f4080c61d7095b00496082ae2d977", func := "loop.example/g01366/laws.FnExactDutyOf", spec := "fnExactDutyOf", unfollowed := true, recurses := true, apart := false }
def FnExactDutyOfSaid : Prop := fnExactDutyOfRow.holds Try.pinned (OpenSpec.ofChange fnExactDutyOfSpec)

/-- ITS FALSE NEIGHBOUR: 'it returns false'. Refute it at one input. -/
def fnExactDutyOfWrong : ChangeSpec := { name := "fnExactDutyOf", fn := fun _ => fun
  | [d1, d2, d3] => { results := [.lit (.bool false)], args := [d1, d2, d3] }
  | _ => none }
def FnExactDutyOfWrongFalsely : Prop := fnExactDutyOfRow.holds Try.pinned (OpenSpec.ofChange fnExactDutyOfWrong)

/-- 'laws.FnExactWithAllowance': WHATEVER THE INPUT: true; the input reads as it did. -/
def fnExactWithAllowanceSpec : ChangeSpec := { name := "fnExactWithAllowance", fn := fun _ => fun
  | [d1, d2, d3, d4] => { results := [.lit (.bool true)], args := [d1, d2, d3, d4] }
  | _ => none }
def fnExactWithAllowanceRow : OpenClaim := { program := "ytehphbaobhnfjaa", sum := "2635ae2acf08572fec00cb1609302fb47b2f4080c61d7095b00496082ae2d977", func := "loop.example/g01366/laws.FnExactWithAllowance", spec := "fnExactWithAllowance", unfollowed := true, recurses := true, apart := false }
def FnExactWithAllowanceSaid : Prop := fnExactWithAllowanceRow.holds Try.pinned (OpenSpec.ofChange fnExactWithAllowanceSpec)

/-- ITS FALSE NEIGHBOUR: 'it returns false'. Refute it at one input. -/
def fnExactWithAllowanceWrong : ChangeSpec := { name := "fnExactWithAllowance", fn := fun _ => fun
  | [d1, d2, d3, d4] => { results := [.lit (.bool false)], args := [d1, d2, d3, d4] }
  | _ => none }
def FnExactWithAllowanceWrongFalsely : Prop := fnExactWithAllowanceRow.holds Try.pinned (OpenSpec.ofChange fnExactWithAllowanceWrong)

/- THE SECOND FORM. 'bulk': how many values and letters a reading holds, each counted each time it is reached (what is shared counts as often as it is met; a slice's spare places count too). A statement '..UptoSaid' is the law's where the arguments, and the package variables that the reading takes, are together of bulk at most 1048576: NARROWER than '..Said'. Prove '..Said' where nothing that the law and all that it calls make is longer than what came in: it says more and counts as full. Else prove '..UptoSaid'. A law counts once. -/
mutual
def uptoBulk {H : Type} : DataW H → Nat
  | .lit (.string bytes) => bytes.length + 1
  | .lit _ => 1
  | .nil => 1
  | .ptr d => uptoBulk d + 1
  | .slice elems spare => uptoBulkAll elems + uptoBulkAll spare + 1
  | .agg parts => uptoBulkAll parts + 1
  | .iface _ d => uptoBulk d + 1
  | .map entries => uptoBulkEntries entries + 1
  | .held _ => 1
def uptoBulkAll {H : Type} : List (DataW H) → Nat
  | [] => 0
  | d :: r => uptoBulk d + uptoBulkAll r
def uptoBulkEntries {H : Type} : List (Lit × DataW H) → Nat
  | [] => 0
  | x :: r => uptoBulkEntry x + uptoBulkEntries r
def uptoBulkEntry {H : Type} : Lit × DataW H → Nat
  | (.string bytes, d) => bytes.length + uptoBulk d + 1
  | (_, d) => uptoBulk d + 1
 end
def uptoSmall : (H : Type) → List (DataW H) → Bool := fun _ ds => decide (uptoBulkAll ds ≤ 1048576)
def OpenSpec.upto (s : _root_.Go.ChangeSpec) : _root_.Go.OpenSpec := { _root_.Go.OpenSpec.ofChange s with cond := some uptoSmall }

/-- 'laws.FnExactRoundShare', WHERE WHAT IT READS IS OF BULK AT MOST 1048576: true; the input reads as it did. -/
def fnExactRoundShareUptoRow : OpenClaim := { program := "ytehphbaobhnfjaa", sum := "2635ae2acf08572fec00cb1609302fb47b2f4080c61d7095b00496082ae2d977", func := "loop.example/g01366/laws.FnExactRoundShare", spec := "fnExactRoundShare", apart := false, narrowed := true }
def FnExactRoundShareUptoSaid : Prop := fnExactRoundShareUptoRow.holds Try.pinned (OpenSpec.upto fnExactRoundShareSpec)

/-- 'laws.FnExactSameForm', WHERE WHAT IT READS IS OF BULK AT MOST 1048576: true; the input reads as it did. -/
def fnExactSameFormUptoRow : OpenClaim := { program := "ytehphbaobhnfjaa", sum := "2635ae2acf08572fec00cb1609302fb47b2f4080c61d7095b00496082ae2d977", func := "loop.example/g01366/laws.FnExactSameForm", spec := "fnExactSameForm", apart := false, narrowed := true }
def FnExactSameFormUptoSaid : Prop := fnExactSameFormUptoRow.holds Try.pinned (OpenSpec.upto fnExactSameFormSpec)

/-- 'laws.FnExactValidClasses', WHERE WHAT IT READS IS OF BULK AT MOST 1048576: true; the input reads as it did. -/
def fnExactValidClassesUptoRow : OpenClaim := { program := "ytehphbaobhnfjaa", sum := "2635ae2acf08572fec00cb1609302fb47b2f4080c61d7095b00496082ae2d977", func := "loop.example/g01366/laws.FnExactValidClasses", spec := "fnExactValidClasses", unfollowed := true, recurses := true, apart := false, narrowed := true }
def FnExactValidClassesUptoSaid : Prop := fnExactValidClassesUptoRow.holds Try.pinned (OpenSpec.upto fnExactValidClassesSpec)

/-- 'laws.FnExactUnitValue', WHERE WHAT IT READS IS OF BULK AT MOST 1048576: true; the input reads as it did. -/
def fnExactUnitValueUptoRow : OpenClaim := { program := "ytehphbaobhnfjaa", sum := "2635ae2acf08572fec00cb1609302fb47b2f4080c61d7095b00496082ae2d977", func := "loop.example/g01366/laws.FnExactUnitValue", spec := "fnExactUnitValue", unfollowed := true, recurses := true, apart := false, narrowed := true }
def FnExactUnitValueUptoSaid : Prop := fnExactUnitValueUptoRow.holds Try.pinned (OpenSpec.upto fnExactUnitValueSpec)

/-- 'laws.FnExactValidForm', WHERE WHAT IT READS IS OF BULK AT MOST 1048576: true; the input reads as it did. -/
def fnExactValidFormUptoRow : OpenClaim := { program := "ytehphbaobhnfjaa", sum := "2635ae2acf08572fec00cb1609302fb47b2f4080c61d7095b00496082ae2d977", func := "loop.example/g01366/laws.FnExactValidForm", spec := "fnExactValidForm", unfollowed := true, recurses := true, apart := false, narrowed := true }
def FnExactValidFormUptoSaid : Prop := fnExactValidFormUptoRow.holds Try.pinned (OpenSpec.upto fnExactValidFormSpec)

/-- 'laws.FnExactGramsOf', WHERE WHAT IT READS IS OF BULK AT MOST 1048576: true; the input reads as it did. -/
def fnExactGramsOfUptoRow : OpenClaim := { program := "ytehphbaobhnfjaa", sum := "2635ae2acf08572fec00cb1609302fb47b2f4080c61d7095b00496082ae2d977", func := "loop.example/g01366/laws.FnExactGramsOf", spec := "fnExactGramsOf", unfollowed := true, recurses := true, apart := false, narrowed := true }
def FnExactGramsOfUptoSaid : Prop := fnExactGramsOfUptoRow.holds Try.pinned (OpenSpec.upto fnExactGramsOfSpec)

/-- 'laws.FnExactWorthOf', WHERE WHAT IT READS IS OF BULK AT MOST 1048576: true; the input reads as it did. -/
def fnExactWorthOfUptoRow : OpenClaim := { program := "ytehphbaobhnfjaa", sum := "2635ae2acf08572fec00cb1609302fb47b2f4080c61d7095b00496082ae2d977", func := "loop.example/g01366/laws.FnExactWorthOf", spec := "fnExactWorthOf", unfollowed := true, recurses := true, apart := false, narrowed := true }
def FnExactWorthOfUptoSaid : Prop := fnExactWorthOfUptoRow.holds Try.pinned (OpenSpec.upto fnExactWorthOfSpec)

/-- 'laws.FnExactDearestClass', WHERE WHAT IT READS IS OF BULK AT MOST 1048576: true; the input reads as it did. -/
def fnExactDearestClassUptoRow : OpenClaim := { program := "ytehphbaobhnfjaa", sum := "2635ae2acf08572fec00cb1609302fb47b2f4080c61d7095b00496082ae2d977", func := "loop.example/g01366/laws.FnExactDearestClass", spec := "fnExactDearestClass", unfollowed := true, recurses := true, apart := false, narrowed := true }
def FnExactDearestClassUptoSaid : Prop := fnExactDearestClassUptoRow.holds Try.pinned (OpenSpec.upto fnExactDearestClassSpec)

/-- 'laws.FnExactFirstOdd', WHERE WHAT IT READS IS OF BULK AT MOST 1048576: true; the input reads as it did. -/
def fnExactFirstOddUptoRow : OpenClaim := { program := "ytehphbaobhnfjaa", sum := "2635ae2acf08572fec00cb1609302fb47b2f4080c61d7095b00496082ae2d977", func := "loop.example/g01366/laws.FnExactFirstOdd", spec := "fnExactFirstOdd", unfollowed := true, recurses := true, apart := false, narrowed := true }
def FnExactFirstOddUptoSaid : Prop := fnExactFirstOddUptoRow.holds Try.pinned (OpenSpec.upto fnExactFirstOddSpec)

/-- 'laws.FnExactDutyOfLine', WHERE WHAT IT READS IS OF BULK AT MOST 1048576: true; the input reads as it did. -/
def fnExactDutyOfLineUptoRow : OpenClaim := { program := "ytehphbaobhnfjaa", sum := "2635ae2acf08572fec00cb1609302fb47b2f4080c61d7095b00496082ae2d977", func := "loop.example/g01366/laws.FnExactDutyOfLine", spec := "fnExactDutyOfLine", unfollowed := true, recurses := true, apart := false, narrowed := true }
def FnExactDutyOfLineUptoSaid : Prop := fnExactDutyOfLineUptoRow.holds Try.pinned (OpenSpec.upto fnExactDutyOfLineSpec)

/-- 'laws.FnExactDutyOf', WHERE WHAT IT READS IS OF BULK AT MOST 1048576: true; the input reads as it did. -/
def fnExactDutyOfUptoRow : OpenClaim := { program := "ytehphbaobhnfjaa", sum := "2635ae2acf08572fec00cb1609302fb47b2f4080c61d7095b00496082ae2d977", func := "loop.example/g01366/laws.FnExactDutyOf", spec := "fnExactDutyOf", unfollowed := true, recurses := true, apart := false, narrowed := true }
def FnExactDutyOfUptoSaid : Prop := fnExactDutyOfUptoRow.holds Try.pinned (OpenSpec.upto fnExactDutyOfSpec)

/-- 'laws.FnExactWithAllowance', WHERE WHAT IT READS IS OF BULK AT MOST 1048576: true; the input reads as it did. -/
def fnExactWithAllowanceUptoRow : OpenClaim := { program := "ytehphbaobhnfjaa", sum := "2635ae2acf08572fec00cb1609302fb47b2f4080c61d7095b00496082ae2d977", func := "loop.example/g01366/laws.FnExactWithAllowance", spec := "fnExactWithAllowance", unfollowed := true, recurses := true, apart := false, narrowed := true }
def FnExactWithAllowanceUptoSaid : Prop := fnExactWithAllowanceUptoRow.holds Try.pinned (OpenSpec.upto fnExactWithAllowanceSpec)

end Rows
end Go.Proofs.Ytehphbaobhnfjaa
