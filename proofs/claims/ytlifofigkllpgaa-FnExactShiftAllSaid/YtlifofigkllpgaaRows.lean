/-
  No cell of these rows narrows 'for every input' (looked for: loops, veiled, ifaces, maps, wideKeys, modest, calm, conditions, laid).
  DERIVED. THE GIVEN ROWS OF THIS SEAT. 11 by the template 'for every input the law returns true; each argument reads behind the call as it read before'; 0 by the template 'total and deterministic' (their statements: YtlifofigkllpgaaTotals.lean).
  GIVEN WITH THE SEED: the statements are not yours to turn. If you find one false, say at which input.
  Laid BY PROGRAM, IN A SANDBOX (cutbox-rows.mjs): the forced cells as the released guide's own fill.sh prints them over the translation 8b1d22684c2f23c6… (all of the seat's roots in one cut). By AI agents, Wed Nov 11 2026. No macro, syntax, notation, axiom, sorry.
-/
import Derived.Test.YtlifofigkllpgaaChecked
import GoSem.Claim
import GoSem.ClaimJoined
import GoSem.ClaimMapViews
import Derived.JoinedTies
import Derived.KernelRfl
namespace Go.Proofs.Ytlifofigkllpgaa
/- THE CELL 'sum', in the pinned program and in every row, IS THE sha256 OF THE DUMP (.gsa) THAT YtlifofigkllpgaaProg.lean LOADS. Nothing in Lean hashes anything: it is a label: what it is worth is what the hold of that sum in a sandbox is worth. -/
noncomputable def Try.pinned : Pinned := { name := "ytlifofigkllpgaa", sum := "8b1d22684c2f23c648bf3ec2f52152629d6f8935aa58dc0f83c1c54f41bbb4af", checked := Try.checked }
namespace Rows
def none {H : Type} : Left H := { results := [], args := [] }

/-- 'laws.FnExactValidParcels': WHATEVER THE INPUT: true; the input reads as it did. -/
def fnExactValidParcelsSpec : ChangeSpec := { name := "fnExactValidParcels", fn := fun _ => fun
  | [d] => { results := [.lit (.bool true)], args := [d] }
  | _ => none }
def fnExactValidParcelsRow : OpenClaim := { program := "ytlifofigkllpgaa", sum := "8b1d22684c2f23c648bf3ec2f52152629d6f8935aa58dc0f83c1c54f41bbb4af", func := "loop.example/g01366/laws.FnExactValidParcels", spec := "fnExactValidParcels", unfollowed := true, recurses := true, apart := false }
def FnExactValidParcelsSaid : Prop := fnExactValidParcelsRow.holds Try.pinned (OpenSpec.ofChange fnExactValidParcelsSpec)

/-- ITS FALSE NEIGHBOUR: 'it returns false'. Refute it at one input. -/
def fnExactValidParcelsWrong : ChangeSpec := { name := "fnExactValidParcels", fn := fun _ => fun
  | [d] => { results := [.lit (.bool false)], args := [d] }
  | _ => none }
def FnExactValidParcelsWrongFalsely : Prop := fnExactValidParcelsRow.holds Try.pinned (OpenSpec.ofChange fnExactValidParcelsWrong)

/-- 'laws.FnExactValidBags': WHATEVER THE INPUT: true; the input reads as it did. -/
def fnExactValidBagsSpec : ChangeSpec := { name := "fnExactValidBags", fn := fun _ => fun
  | [d] => { results := [.lit (.bool true)], args := [d] }
  | _ => none }
def fnExactValidBagsRow : OpenClaim := { program := "ytlifofigkllpgaa", sum := "8b1d22684c2f23c648bf3ec2f52152629d6f8935aa58dc0f83c1c54f41bbb4af", func := "loop.example/g01366/laws.FnExactValidBags", spec := "fnExactValidBags", unfollowed := true, recurses := true, apart := false }
def FnExactValidBagsSaid : Prop := fnExactValidBagsRow.holds Try.pinned (OpenSpec.ofChange fnExactValidBagsSpec)

/-- ITS FALSE NEIGHBOUR: 'it returns false'. Refute it at one input. -/
def fnExactValidBagsWrong : ChangeSpec := { name := "fnExactValidBags", fn := fun _ => fun
  | [d] => { results := [.lit (.bool false)], args := [d] }
  | _ => none }
def FnExactValidBagsWrongFalsely : Prop := fnExactValidBagsRow.holds Try.pinned (OpenSpec.ofChange fnExactValidBagsWrong)

/-- 'laws.FnExactWeightAt': WHATEVER THE INPUT: true; the input reads as it did. -/
def fnExactWeightAtSpec : ChangeSpec := { name := "fnExactWeightAt", fn := fun _ => fun
  | [d1, d2] => { results := [.lit (.bool true)], args := [d1, d2] }
  | _ => none }
def fnExactWeightAtRow : OpenClaim := { program := "ytlifofigkllpgaa", sum := "8b1d22684c2f23c648bf3ec2f52152629d6f8935aa58dc0f83c1c54f41bbb4af", func := "loop.example/g01366/laws.FnExactWeightAt", spec := "fnExactWeightAt", unfollowed := true, recurses := true, apart := false }
def FnExactWeightAtSaid : Prop := fnExactWeightAtRow.holds Try.pinned (OpenSpec.ofChange fnExactWeightAtSpec)

/-- ITS FALSE NEIGHBOUR: 'it returns false'. Refute it at one input. -/
def fnExactWeightAtWrong : ChangeSpec := { name := "fnExactWeightAt", fn := fun _ => fun
  | [d1, d2] => { results := [.lit (.bool false)], args := [d1, d2] }
  | _ => none }
def FnExactWeightAtWrongFalsely : Prop := fnExactWeightAtRow.holds Try.pinned (OpenSpec.ofChange fnExactWeightAtWrong)

/-- 'laws.FnExactWrongIn': WHATEVER THE INPUT: true; the input reads as it did. -/
def fnExactWrongInSpec : ChangeSpec := { name := "fnExactWrongIn", fn := fun _ => fun
  | [d] => { results := [.lit (.bool true)], args := [d] }
  | _ => none }
def fnExactWrongInRow : OpenClaim := { program := "ytlifofigkllpgaa", sum := "8b1d22684c2f23c648bf3ec2f52152629d6f8935aa58dc0f83c1c54f41bbb4af", func := "loop.example/g01366/laws.FnExactWrongIn", spec := "fnExactWrongIn", unfollowed := true, recurses := true, apart := false }
def FnExactWrongInSaid : Prop := fnExactWrongInRow.holds Try.pinned (OpenSpec.ofChange fnExactWrongInSpec)

/-- ITS FALSE NEIGHBOUR: 'it returns false'. Refute it at one input. -/
def fnExactWrongInWrong : ChangeSpec := { name := "fnExactWrongIn", fn := fun _ => fun
  | [d] => { results := [.lit (.bool false)], args := [d] }
  | _ => none }
def FnExactWrongInWrongFalsely : Prop := fnExactWrongInRow.holds Try.pinned (OpenSpec.ofChange fnExactWrongInWrong)

/-- 'laws.FnExactShiftsBound': WHATEVER THE INPUT: true; the input reads as it did. -/
def fnExactShiftsBoundSpec : ChangeSpec := { name := "fnExactShiftsBound", fn := fun _ => fun
  | [d] => { results := [.lit (.bool true)], args := [d] }
  | _ => none }
def fnExactShiftsBoundRow : OpenClaim := { program := "ytlifofigkllpgaa", sum := "8b1d22684c2f23c648bf3ec2f52152629d6f8935aa58dc0f83c1c54f41bbb4af", func := "loop.example/g01366/laws.FnExactShiftsBound", spec := "fnExactShiftsBound", unfollowed := true, recurses := true, apart := false }
def FnExactShiftsBoundSaid : Prop := fnExactShiftsBoundRow.holds Try.pinned (OpenSpec.ofChange fnExactShiftsBoundSpec)

/-- ITS FALSE NEIGHBOUR: 'it returns false'. Refute it at one input. -/
def fnExactShiftsBoundWrong : ChangeSpec := { name := "fnExactShiftsBound", fn := fun _ => fun
  | [d] => { results := [.lit (.bool false)], args := [d] }
  | _ => none }
def FnExactShiftsBoundWrongFalsely : Prop := fnExactShiftsBoundRow.holds Try.pinned (OpenSpec.ofChange fnExactShiftsBoundWrong)

/-- 'laws.FnExactIsSorted': WHATEVER THE INPUT: true; the input reads as it did. -/
def fnExactIsSortedSpec : ChangeSpec := { name := "fnExactIsSorted", fn := fun _ => fun
  | [d] => { results := [.lit (.bool true)], args := [d] }
  | _ => none }
def fnExactIsSortedRow : OpenClaim := { program := "ytlifofigkllpgaa", sum := "8b1d22684c2f23c648bf3ec2f52152629d6f8935aa58dc0f83c1c54f41bbb4af", func := "loop.example/g01366/laws.FnExactIsSorted", spec := "fnExactIsSorted", unfollowed := true, recurses := true, apart := false }
def FnExactIsSortedSaid : Prop := fnExactIsSortedRow.holds Try.pinned (OpenSpec.ofChange fnExactIsSortedSpec)

/-- ITS FALSE NEIGHBOUR: 'it returns false'. Refute it at one input. -/
def fnExactIsSortedWrong : ChangeSpec := { name := "fnExactIsSorted", fn := fun _ => fun
  | [d] => { results := [.lit (.bool false)], args := [d] }
  | _ => none }
def FnExactIsSortedWrongFalsely : Prop := fnExactIsSortedRow.holds Try.pinned (OpenSpec.ofChange fnExactIsSortedWrong)

/-- 'laws.FnExactBagsText': WHATEVER THE INPUT: true; the input reads as it did. -/
def fnExactBagsTextSpec : ChangeSpec := { name := "fnExactBagsText", fn := fun _ => fun
  | [d] => { results := [.lit (.bool true)], args := [d] }
  | _ => none }
def fnExactBagsTextRow : OpenClaim := { program := "ytlifofigkllpgaa", sum := "8b1d22684c2f23c648bf3ec2f52152629d6f8935aa58dc0f83c1c54f41bbb4af", func := "loop.example/g01366/laws.FnExactBagsText", spec := "fnExactBagsText", inPlace := ["internal/abi.NoEscape", "internal/bytealg.MakeNoZero"], unfollowed := true, recurses := true, apart := false }
def FnExactBagsTextSaid : Prop := fnExactBagsTextRow.holds Try.pinned (OpenSpec.ofChange fnExactBagsTextSpec)

/-- ITS FALSE NEIGHBOUR: 'it returns false'. Refute it at one input. -/
def fnExactBagsTextWrong : ChangeSpec := { name := "fnExactBagsText", fn := fun _ => fun
  | [d] => { results := [.lit (.bool false)], args := [d] }
  | _ => none }
def FnExactBagsTextWrongFalsely : Prop := fnExactBagsTextRow.holds Try.pinned (OpenSpec.ofChange fnExactBagsTextWrong)

/-- 'laws.FnExactShiftBag': WHATEVER THE INPUT: true; the input reads as it did. -/
def fnExactShiftBagSpec : ChangeSpec := { name := "fnExactShiftBag", fn := fun _ => fun
  | [d1, d2] => { results := [.lit (.bool true)], args := [d1, d2] }
  | _ => none }
def fnExactShiftBagRow : OpenClaim := { program := "ytlifofigkllpgaa", sum := "8b1d22684c2f23c648bf3ec2f52152629d6f8935aa58dc0f83c1c54f41bbb4af", func := "loop.example/g01366/laws.FnExactShiftBag", spec := "fnExactShiftBag", unfollowed := true, recurses := true, apart := false }
def FnExactShiftBagSaid : Prop := fnExactShiftBagRow.holds Try.pinned (OpenSpec.ofChange fnExactShiftBagSpec)

/-- ITS FALSE NEIGHBOUR: 'it returns false'. Refute it at one input. -/
def fnExactShiftBagWrong : ChangeSpec := { name := "fnExactShiftBag", fn := fun _ => fun
  | [d1, d2] => { results := [.lit (.bool false)], args := [d1, d2] }
  | _ => none }
def FnExactShiftBagWrongFalsely : Prop := fnExactShiftBagRow.holds Try.pinned (OpenSpec.ofChange fnExactShiftBagWrong)

/-- 'laws.FnExactShiftAll': WHATEVER THE INPUT: true; the input reads as it did. -/
def fnExactShiftAllSpec : ChangeSpec := { name := "fnExactShiftAll", fn := fun _ => fun
  | [d1, d2] => { results := [.lit (.bool true)], args := [d1, d2] }
  | _ => none }
def fnExactShiftAllRow : OpenClaim := { program := "ytlifofigkllpgaa", sum := "8b1d22684c2f23c648bf3ec2f52152629d6f8935aa58dc0f83c1c54f41bbb4af", func := "loop.example/g01366/laws.FnExactShiftAll", spec := "fnExactShiftAll", unfollowed := true, recurses := true, apart := false }
def FnExactShiftAllSaid : Prop := fnExactShiftAllRow.holds Try.pinned (OpenSpec.ofChange fnExactShiftAllSpec)

/-- ITS FALSE NEIGHBOUR: 'it returns false'. Refute it at one input. -/
def fnExactShiftAllWrong : ChangeSpec := { name := "fnExactShiftAll", fn := fun _ => fun
  | [d1, d2] => { results := [.lit (.bool false)], args := [d1, d2] }
  | _ => none }
def FnExactShiftAllWrongFalsely : Prop := fnExactShiftAllRow.holds Try.pinned (OpenSpec.ofChange fnExactShiftAllWrong)

/-- 'laws.FnExactValidVouchers': WHATEVER THE INPUT: true; the input reads as it did. -/
def fnExactValidVouchersSpec : ChangeSpec := { name := "fnExactValidVouchers", fn := fun _ => fun
  | [d] => { results := [.lit (.bool true)], args := [d] }
  | _ => none }
def fnExactValidVouchersRow : OpenClaim := { program := "ytlifofigkllpgaa", sum := "8b1d22684c2f23c648bf3ec2f52152629d6f8935aa58dc0f83c1c54f41bbb4af", func := "loop.example/g01366/laws.FnExactValidVouchers", spec := "fnExactValidVouchers", unfollowed := true, recurses := true, apart := false }
def FnExactValidVouchersSaid : Prop := fnExactValidVouchersRow.holds Try.pinned (OpenSpec.ofChange fnExactValidVouchersSpec)

/-- ITS FALSE NEIGHBOUR: 'it returns false'. Refute it at one input. -/
def fnExactValidVouchersWrong : ChangeSpec := { name := "fnExactValidVouchers", fn := fun _ => fun
  | [d] => { results := [.lit (.bool false)], args := [d] }
  | _ => none }
def FnExactValidVouchersWrongFalsely : Prop := fnExactValidVouchersRow.holds Try.pinned (OpenSpec.ofChange fnExactValidVouchersWrong)

/-- 'laws.FnExactValidReturns': WHATEVER THE INPUT: true; the input reads as it did. -/
def fnExactValidReturnsSpec : ChangeSpec := { name := "fnExactValidReturns", fn := fun _ => fun
  | [d] => { results := [.lit (.bool true)], args := [d] }
  | _ => none }
def fnExactValidReturnsRow : OpenClaim := { program := "ytlifofigkllpgaa", sum := "8b1d22684c2f23c648bf3ec2f52152629d6f8935aa58dc0f83c1c54f41bbb4af", func := "loop.example/g01366/laws.FnExactValidReturns", spec := "fnExactValidReturns", unfollowed := true, recurses := true, apart := false }
def FnExactValidReturnsSaid : Prop := fnExactValidReturnsRow.holds Try.pinned (OpenSpec.ofChange fnExactValidReturnsSpec)

/-- ITS FALSE NEIGHBOUR: 'it returns false'. Refute it at one input. -/
def fnExactValidReturnsWrong : ChangeSpec := { name := "fnExactValidReturns", fn := fun _ => fun
  | [d] => { results := [.lit (.bool false)], args := [d] }
  | _ => none }
def FnExactValidReturnsWrongFalsely : Prop := fnExactValidReturnsRow.holds Try.pinned (OpenSpec.ofChange fnExactValidReturnsWrong)

/- THE SECOND FORM. 'bulk': how many values and letters a reading holds, each counted each time it is reached (what is shared counts as often as it is met; a slice's spare places count too). A statement '..UptoSaid' is the law's where the arguments, and the package variables that the reading takes, are together of bulk at most 1048576: NARROWER than '..Said'. Prove '..Said' where nothing that the law and all that it calls make is longer than what came in: it says more and counts as full. Else prove '..UptoSaid'. A law counts once. -/
mutual
def uptoBulk {H : Type} : DataW H → Nat
  | .lit (.string bytes) => bytes.length + 1
  | .lit _ => 1
  | .nil => 1
  | .ptr d => uptoBulk d + 1
  | .slice elems spare => uptoBulkAll elems + uptoBulkAll spare + 1
  | .agg parts => uptoBulkAll parts + 1
  | .iface _ d => uptoBulk d + 1
  | .map entries => uptoBulkEntries entries + 1
  | .held _ => 1
def uptoBulkAll {H : Type} : List (DataW H) → Nat
  | [] => 0
  | d :: r => uptoBulk d + uptoBulkAll r
def uptoBulkEntries {H : Type} : List (Lit × DataW H) → Nat
  | [] => 0
  | x :: r => uptoBulkEntry x + uptoBulkEntries r
def uptoBulkEntry {H : Type} : Lit × DataW H → Nat
  | (.string bytes, d) => bytes.length + uptoBulk d + 1
  | (_, d) => uptoBulk d + 1
 end
def uptoSmall : (H : Type) → List (DataW H) → Bool := fun _ ds => decide (uptoBulkAll ds ≤ 1048576)
def OpenSpec.upto (s : _root_.Go.ChangeSpec) : _root_.Go.OpenSpec := { _root_.Go.OpenSpec.ofChange s with cond := some uptoSmall }

/-- 'laws.FnExactValidParcels', WHERE WHAT IT READS IS OF BULK AT MOST 1048576: true; the input reads as it did. -/
def fnExactValidParcelsUptoRow : OpenClaim := { program := "ytlifofigkllpgaa", sum := "8b1d22684c2f23c648bf3ec2f52152629d6f8935aa58dc0f83c1c54f41bbb4af", func := "loop.example/g01366/laws.FnExactValidParcels", spec := "fnExactValidParcels", unfollowed := true, recurses := true, apart := false, narrowed := true }
def FnExactValidParcelsUptoSaid : Prop := fnExactValidParcelsUptoRow.holds Try.pinned (OpenSpec.upto fnExactValidParcelsSpec)

/-- 'laws.FnExactValidBags', WHERE WHAT IT READS IS OF BULK AT MOST 1048576: true; the input reads as it did. -/
def fnExactValidBagsUptoRow : OpenClaim := { program := "ytlifofigkllpgaa", sum := "8b1d22684c2f23c648bf3ec2f52152629d6f8935aa58dc0f83c1c54f41bbb4af", func := "loop.example/g01366/laws.FnExactValidBags", spec := "fnExactValidBags", unfollowed := true, recurses := true, apart := false, narrowed := true }
def FnExactValidBagsUptoSaid : Prop := fnExactValidBagsUptoRow.holds Try.pinned (OpenSpec.upto fnExactValidBagsSpec)

/-- 'laws.FnExactWeightAt', WHERE WHAT IT READS IS OF BULK AT MOST 1048576: true; the input reads as it did. -/
def fnExactWeightAtUptoRow : OpenClaim := { program := "ytlifofigkllpgaa", sum := "8b1d22684c2f23c648bf3ec2f52152629d6f8935aa58dc0f83c1c54f41bbb4af", func := "loop.example/g01366/laws.FnExactWeightAt", spec := "fnExactWeightAt", unfollowed := true, recurses := true, apart := false, narrowed := true }
def FnExactWeightAtUptoSaid : Prop := fnExactWeightAtUptoRow.holds Try.pinned (OpenSpec.upto fnExactWeightAtSpec)

/-- 'laws.FnExactWrongIn', WHERE WHAT IT READS IS OF BULK AT MOST 1048576: true; the input reads as it did. -/
def fnExactWrongInUptoRow : OpenClaim := { program := "ytlifofigkllpgaa", sum := "8b1d22684c2f23c648bf3ec2f52152629d6f8935aa58dc0f83c1c54f41bbb4af", func := "loop.example/g01366/laws.FnExactWrongIn", spec := "fnExactWrongIn", unfollowed := true, recurses := true, apart := false, narrowed := true }
def FnExactWrongInUptoSaid : Prop := fnExactWrongInUptoRow.holds Try.pinned (OpenSpec.upto fnExactWrongInSpec)

/-- 'laws.FnExactShiftsBound', WHERE WHAT IT READS IS OF BULK AT MOST 1048576: true; the input reads as it did. -/
def fnExactShiftsBoundUptoRow : OpenClaim := { program := "ytlifofigkllpgaa", sum := "8b1d22684c2f23c648bf3ec2f52152629d6f8935aa58dc0f83c1c54f41bbb4af", func := "loop.example/g01366/laws.FnExactShiftsBound", spec := "fnExactShiftsBound", unfollowed := true, recurses := true, apart := false, narrowed := true }
def FnExactShiftsBoundUptoSaid : Prop := fnExactShiftsBoundUptoRow.holds Try.pinned (OpenSpec.upto fnExactShiftsBoundSpec)

/-- 'laws.FnExactIsSorted', WHERE WHAT IT READS IS OF BULK AT MOST 1048576: true; the input reads as it did. -/
def fnExactIsSortedUptoRow : OpenClaim := { program := "ytlifofigkllpgaa", sum := "8b1d22684c2f23c648bf3ec2f52152629d6f8935aa58dc0f83c1c54f41bbb4af", func := "loop.example/g01366/laws.FnExactIsSorted", spec := "fnExactIsSorted", unfollowed := true, recurses := true, apart := false, narrowed := true }
def FnExactIsSortedUptoSaid : Prop := fnExactIsSortedUptoRow.holds Try.pinned (OpenSpec.upto fnExactIsSortedSpec)

/-- 'laws.FnExactBagsText', WHERE WHAT IT READS IS OF BULK AT MOST 1048576: true; the input reads as it did. -/
def fnExactBagsTextUptoRow : OpenClaim := { program := "ytlifofigkllpgaa", sum := "8b1d22684c2f23c648bf3ec2f52152629d6f8935aa58dc0f83c1c54f41bbb4af", func := "loop.example/g01366/laws.FnExactBagsText", spec := "fnExactBagsText", inPlace := ["internal/abi.NoEscape", "internal/bytealg.MakeNoZero"], unfollowed := true, recurses := true, apart := false, narrowed := true }
def FnExactBagsTextUptoSaid : Prop := fnExactBagsTextUptoRow.holds Try.pinned (OpenSpec.upto fnExactBagsTextSpec)

/-- 'laws.FnExactShiftBag', WHERE WHAT IT READS IS OF BULK AT MOST 1048576: true; the input reads as it did. -/
def fnExactShiftBagUptoRow : OpenClaim := { program := "ytlifofigkllpgaa", sum := "8b1d22684c2f23c648bf3ec2f52152629d6f8935aa58dc0f83c1c54f41bbb4af", func := "loop.example/g01366/laws.FnExactShiftBag", spec := "fnExactShiftBag", unfollowed := true, recurses := true, apart := false, narrowed := true }
def FnExactShiftBagUptoSaid : Prop := fnExactShiftBagUptoRow.holds Try.pinned (OpenSpec.upto fnExactShiftBagSpec)

/-- 'laws.FnExactShiftAll', WHERE WHAT IT READS IS OF BULK AT MOST 1048576: true; the input reads as it did. -/
def fnExactShiftAllUptoRow : OpenClaim := { program := "ytlifofigkllpgaa", sum := "8b1d22684c2f23c648bf3ec2f52152629d6f8935aa58dc0f83c1c54f41bbb4af", func := "loop.example/g01366/laws.FnExactShiftAll", spec := "fnExactShiftAll", unfollowed := true, recurses := true, apart := false, narrowed := true }
def FnExactShiftAllUptoSaid : Prop := fnExactShiftAllUptoRow.holds Try.pinned (OpenSpec.upto fnExactShiftAllSpec)

/-- 'laws.FnExactValidVouchers', WHERE WHAT IT READS IS OF BULK AT MOST 1048576: true; the input reads as it did. -/
def fnExactValidVouchersUptoRow : OpenClaim := { program := "ytlifofigkllpgaa", sum := "8b1d22684c2f23c648bf3ec2f52152629d6f8935aa58dc0f83c1c54f41bbb4af", func := "loop.example/g01366/laws.FnExactValidVouchers", spec := "fnExactValidVouchers", unfollowed := true, recurses := true, apart := false, narrowed := true }
def FnExactValidVouchersUptoSaid : Prop := fnExactValidVouchersUptoRow.holds Try.pinned (OpenSpec.upto fnExactValidVouchersSpec)

/-- 'laws.FnExactValidReturns', WHERE WHAT IT READS IS OF BULK AT MOST 1048576: true; the input reads as it did. -/
def fnExactValidReturnsUptoRow : OpenClaim := { program := "ytlifofigkllpgaa", sum := "8b1d22684c2f23c648bf3ec2f52152629d6f8935aa58dc0f83c1c54f41bbb4af", func := "loop.example/g01366/laws.FnExactValidReturns", spec := "fnExactValidReturns", unfollowed := true, recurses := true, apart := false, narrowed := true }
def FnExactValidReturnsUptoSaid : Prop := fnExactValidReturnsUptoRow.holds Try.pinned (OpenSpec.upto fnExactValidReturnsSpec)

end Rows
end Go.Proofs.Ytlifofigkllpgaa
