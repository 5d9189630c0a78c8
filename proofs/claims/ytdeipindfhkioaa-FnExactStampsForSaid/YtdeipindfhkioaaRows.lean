/-
  No cell of these rows narrows 'for every input' (looked for: loops, veiled, ifaces, maps, wideKeys, modest, calm, conditions, laid).
  DERIVED. THE GIVEN ROWS OF THIS SEAT. 9 by the template 'for every input the law returns true; each argument reads behind the call as it read before'; 0 by the template 'total and deterministic' (their statements: YtdeipindfhkioaaTotals.lean).
  GIVEN WITH THE SEED: the statements are not yours to turn. If you find one false, say at which input.
  Laid BY PROGRAM, IN A SANDBOX (cutbox-rows.mjs): the forced cells as the released guide's own fill.sh prints them over the translation 2fc8a882c5bd526d… (all of the seat's roots in one cut). By AI agents, Wed Nov 11 2026. No macro, syntax, notation, axiom, sorry.
-/
import Derived.Test.YtdeipindfhkioaaChecked
import GoSem.Claim
import GoSem.ClaimJoined
import GoSem.ClaimMapViews
import Derived.JoinedTies
import Derived.KernelRfl
namespace Go.Proofs.Ytdeipindfhkioaa
/- THE CELL 'sum', in the pinned program and in every row, IS THE sha256 OF THE DUMP (.gsa) THAT YtdeipindfhkioaaProg.lean LOADS. Nothing in Lean hashes anything: it is a label: what it is worth is what the hold of that sum in a sandbox is worth. -/
noncomputable def Try.pinned : Pinned := { name := "ytdeipindfhkioaa", sum := "2fc8a882c5bd526dd37df9111d49a1074c1189f83cf1d9e9b8daef8a76827f15", checked := Try.checked }
namespace Rows
def none {H : Type} : Left H := { results := [], args := [] }

/-- 'laws.FnExactCheapestTable': WHATEVER THE INPUT: true; the input reads as it did. -/
def fnExactCheapestTableSpec : ChangeSpec := { name := "fnExactCheapestTable", fn := fun _ => fun
  | [d1, d2, d3] => { results := [.lit (.bool true)], args := [d1, d2, d3] }
  | _ => none }
def fnExactCheapestTableRow : OpenClaim := { program := "ytdeipindfhkioaa", sum := "2fc8a882c5bd526dd37df9111d49a1074c1189f83cf1d9e9b8daef8a76827f15", func := "loop.example/g01366/laws.FnExactCheapestTable", spec := "fnExactCheapestTable", unfollowed := true, recurses := true, apart := false }
def FnExactCheapestTableSaid : Prop := fnExactCheapestTableRow.holds Try.pinned (OpenSpec.ofChange fnExactCheapestTableSpec)

/-- ITS FALSE NEIGHBOUR: 'it returns false'. Refute it at one input. -/
def fnExactCheapestTableWrong : ChangeSpec := { name := "fnExactCheapestTable", fn := fun _ => fun
  | [d1, d2, d3] => { results := [.lit (.bool false)], args := [d1, d2, d3] }
  | _ => none }
def FnExactCheapestTableWrongFalsely : Prop := fnExactCheapestTableRow.holds Try.pinned (OpenSpec.ofChange fnExactCheapestTableWrong)

/-- 'laws.FnExactCheckParcels': WHATEVER THE INPUT: true; the input reads as it did. -/
def fnExactCheckParcelsSpec : ChangeSpec := { name := "fnExactCheckParcels", fn := fun _ => fun
  | [d1, d2, d3] => { results := [.lit (.bool true)], args := [d1, d2, d3] }
  | _ => none }
def fnExactCheckParcelsRow : OpenClaim := { program := "ytdeipindfhkioaa", sum := "2fc8a882c5bd526dd37df9111d49a1074c1189f83cf1d9e9b8daef8a76827f15", func := "loop.example/g01366/laws.FnExactCheckParcels", spec := "fnExactCheckParcels", unfollowed := true, recurses := true, apart := false }
def FnExactCheckParcelsSaid : Prop := fnExactCheckParcelsRow.holds Try.pinned (OpenSpec.ofChange fnExactCheckParcelsSpec)

/-- ITS FALSE NEIGHBOUR: 'it returns false'. Refute it at one input. -/
def fnExactCheckParcelsWrong : ChangeSpec := { name := "fnExactCheckParcels", fn := fun _ => fun
  | [d1, d2, d3] => { results := [.lit (.bool false)], args := [d1, d2, d3] }
  | _ => none }
def FnExactCheckParcelsWrongFalsely : Prop := fnExactCheckParcelsRow.holds Try.pinned (OpenSpec.ofChange fnExactCheckParcelsWrong)

/-- 'laws.FnExactPricesOf': WHATEVER THE INPUT: true; the input reads as it did. -/
def fnExactPricesOfSpec : ChangeSpec := { name := "fnExactPricesOf", fn := fun _ => fun
  | [d1, d2, d3] => { results := [.lit (.bool true)], args := [d1, d2, d3] }
  | _ => none }
def fnExactPricesOfRow : OpenClaim := { program := "ytdeipindfhkioaa", sum := "2fc8a882c5bd526dd37df9111d49a1074c1189f83cf1d9e9b8daef8a76827f15", func := "loop.example/g01366/laws.FnExactPricesOf", spec := "fnExactPricesOf", unfollowed := true, recurses := true, apart := false }
def FnExactPricesOfSaid : Prop := fnExactPricesOfRow.holds Try.pinned (OpenSpec.ofChange fnExactPricesOfSpec)

/-- ITS FALSE NEIGHBOUR: 'it returns false'. Refute it at one input. -/
def fnExactPricesOfWrong : ChangeSpec := { name := "fnExactPricesOf", fn := fun _ => fun
  | [d1, d2, d3] => { results := [.lit (.bool false)], args := [d1, d2, d3] }
  | _ => none }
def FnExactPricesOfWrongFalsely : Prop := fnExactPricesOfRow.holds Try.pinned (OpenSpec.ofChange fnExactPricesOfWrong)

/-- 'laws.FnExactJoinedPrice': WHATEVER THE INPUT: true; the input reads as it did. -/
def fnExactJoinedPriceSpec : ChangeSpec := { name := "fnExactJoinedPrice", fn := fun _ => fun
  | [d1, d2, d3] => { results := [.lit (.bool true)], args := [d1, d2, d3] }
  | _ => none }
def fnExactJoinedPriceRow : OpenClaim := { program := "ytdeipindfhkioaa", sum := "2fc8a882c5bd526dd37df9111d49a1074c1189f83cf1d9e9b8daef8a76827f15", func := "loop.example/g01366/laws.FnExactJoinedPrice", spec := "fnExactJoinedPrice", unfollowed := true, recurses := true, apart := false }
def FnExactJoinedPriceSaid : Prop := fnExactJoinedPriceRow.holds Try.pinned (OpenSpec.ofChange fnExactJoinedPriceSpec)

/-- ITS FALSE NEIGHBOUR: 'it returns false'. Refute it at one input. -/
def fnExactJoinedPriceWrong : ChangeSpec := { name := "fnExactJoinedPrice", fn := fun _ => fun
  | [d1, d2, d3] => { results := [.lit (.bool false)], args := [d1, d2, d3] }
  | _ => none }
def FnExactJoinedPriceWrongFalsely : Prop := fnExactJoinedPriceRow.holds Try.pinned (OpenSpec.ofChange fnExactJoinedPriceWrong)

/-- 'laws.FnExactPriceBound': WHATEVER THE INPUT: true; the input reads as it did. -/
def fnExactPriceBoundSpec : ChangeSpec := { name := "fnExactPriceBound", fn := fun _ => fun
  | [d1, d2, d3] => { results := [.lit (.bool true)], args := [d1, d2, d3] }
  | _ => none }
def fnExactPriceBoundRow : OpenClaim := { program := "ytdeipindfhkioaa", sum := "2fc8a882c5bd526dd37df9111d49a1074c1189f83cf1d9e9b8daef8a76827f15", func := "loop.example/g01366/laws.FnExactPriceBound", spec := "fnExactPriceBound", unfollowed := true, recurses := true, apart := false }
def FnExactPriceBoundSaid : Prop := fnExactPriceBoundRow.holds Try.pinned (OpenSpec.ofChange fnExactPriceBoundSpec)

/-- ITS FALSE NEIGHBOUR: 'it returns false'. Refute it at one input. -/
def fnExactPriceBoundWrong : ChangeSpec := { name := "fnExactPriceBound", fn := fun _ => fun
  | [d1, d2, d3] => { results := [.lit (.bool false)], args := [d1, d2, d3] }
  | _ => none }
def FnExactPriceBoundWrongFalsely : Prop := fnExactPriceBoundRow.holds Try.pinned (OpenSpec.ofChange fnExactPriceBoundWrong)

/-- 'laws.FnExactFewestParcels': WHATEVER THE INPUT: true; the input reads as it did. -/
def fnExactFewestParcelsSpec : ChangeSpec := { name := "fnExactFewestParcels", fn := fun _ => fun
  | [d1, d2] => { results := [.lit (.bool true)], args := [d1, d2] }
  | _ => none }
def fnExactFewestParcelsRow : OpenClaim := { program := "ytdeipindfhkioaa", sum := "2fc8a882c5bd526dd37df9111d49a1074c1189f83cf1d9e9b8daef8a76827f15", func := "loop.example/g01366/laws.FnExactFewestParcels", spec := "fnExactFewestParcels", unfollowed := true, recurses := true, apart := false }
def FnExactFewestParcelsSaid : Prop := fnExactFewestParcelsRow.holds Try.pinned (OpenSpec.ofChange fnExactFewestParcelsSpec)

/-- ITS FALSE NEIGHBOUR: 'it returns false'. Refute it at one input. -/
def fnExactFewestParcelsWrong : ChangeSpec := { name := "fnExactFewestParcels", fn := fun _ => fun
  | [d1, d2] => { results := [.lit (.bool false)], args := [d1, d2] }
  | _ => none }
def FnExactFewestParcelsWrongFalsely : Prop := fnExactFewestParcelsRow.holds Try.pinned (OpenSpec.ofChange fnExactFewestParcelsWrong)

/-- 'laws.FnExactBestParcels': WHATEVER THE INPUT: true; the input reads as it did. -/
def fnExactBestParcelsSpec : ChangeSpec := { name := "fnExactBestParcels", fn := fun _ => fun
  | [d1, d2, d3] => { results := [.lit (.bool true)], args := [d1, d2, d3] }
  | _ => none }
def fnExactBestParcelsRow : OpenClaim := { program := "ytdeipindfhkioaa", sum := "2fc8a882c5bd526dd37df9111d49a1074c1189f83cf1d9e9b8daef8a76827f15", func := "loop.example/g01366/laws.FnExactBestParcels", spec := "fnExactBestParcels", unfollowed := true, recurses := true, apart := false }
def FnExactBestParcelsSaid : Prop := fnExactBestParcelsRow.holds Try.pinned (OpenSpec.ofChange fnExactBestParcelsSpec)

/-- ITS FALSE NEIGHBOUR: 'it returns false'. Refute it at one input. -/
def fnExactBestParcelsWrong : ChangeSpec := { name := "fnExactBestParcels", fn := fun _ => fun
  | [d1, d2, d3] => { results := [.lit (.bool false)], args := [d1, d2, d3] }
  | _ => none }
def FnExactBestParcelsWrongFalsely : Prop := fnExactBestParcelsRow.holds Try.pinned (OpenSpec.ofChange fnExactBestParcelsWrong)

/-- 'laws.FnExactGreedyParcels': WHATEVER THE INPUT: true; the input reads as it did. -/
def fnExactGreedyParcelsSpec : ChangeSpec := { name := "fnExactGreedyParcels", fn := fun _ => fun
  | [d1, d2] => { results := [.lit (.bool true)], args := [d1, d2] }
  | _ => none }
def fnExactGreedyParcelsRow : OpenClaim := { program := "ytdeipindfhkioaa", sum := "2fc8a882c5bd526dd37df9111d49a1074c1189f83cf1d9e9b8daef8a76827f15", func := "loop.example/g01366/laws.FnExactGreedyParcels", spec := "fnExactGreedyParcels", unfollowed := true, recurses := true, apart := false }
def FnExactGreedyParcelsSaid : Prop := fnExactGreedyParcelsRow.holds Try.pinned (OpenSpec.ofChange fnExactGreedyParcelsSpec)

/-- ITS FALSE NEIGHBOUR: 'it returns false'. Refute it at one input. -/
def fnExactGreedyParcelsWrong : ChangeSpec := { name := "fnExactGreedyParcels", fn := fun _ => fun
  | [d1, d2] => { results := [.lit (.bool false)], args := [d1, d2] }
  | _ => none }
def FnExactGreedyParcelsWrongFalsely : Prop := fnExactGreedyParcelsRow.holds Try.pinned (OpenSpec.ofChange fnExactGreedyParcelsWrong)

/-- 'laws.FnExactStampsFor': WHATEVER THE INPUT: true; the input reads as it did. -/
def fnExactStampsForSpec : ChangeSpec := { name := "fnExactStampsFor", fn := fun _ => fun
  | [d1, d2, d3, d4] => { results := [.lit (.bool true)], args := [d1, d2, d3, d4] }
  | _ => none }
def fnExactStampsForRow : OpenClaim := { program := "ytdeipindfhkioaa", sum := "2fc8a882c5bd526dd37df9111d49a1074c1189f83cf1d9e9b8daef8a76827f15", func := "loop.example/g01366/laws.FnExactStampsFor", spec := "fnExactStampsFor", unfollowed := true, recurses := true, apart := false }
def FnExactStampsForSaid : Prop := fnExactStampsForRow.holds Try.pinned (OpenSpec.ofChange fnExactStampsForSpec)

/-- ITS FALSE NEIGHBOUR: 'it returns false'. Refute it at one input. -/
def fnExactStampsForWrong : ChangeSpec := { name := "fnExactStampsFor", fn := fun _ => fun
  | [d1, d2, d3, d4] => { results := [.lit (.bool false)], args := [d1, d2, d3, d4] }
  | _ => none }
def FnExactStampsForWrongFalsely : Prop := fnExactStampsForRow.holds Try.pinned (OpenSpec.ofChange fnExactStampsForWrong)

/- THE SECOND FORM. 'bulk': how many values and letters a reading holds, each counted each time it is reached (what is shared counts as often as it is met; a slice's spare places count too). A statement '..UptoSaid' is the law's where the arguments, and the package variables that the reading takes, are together of bulk at most 1048576: NARROWER than '..Said'. Prove '..Said' where nothing that the law and all that it calls make is longer than what came in: it says more and counts as full. Else prove '..UptoSaid'. A law counts once. -/
mutual
def uptoBulk {H : Type} : DataW H → Nat
  | .lit (.string bytes) => bytes.length + 1
  | .lit _ => 1
  | .nil => 1
  | .ptr d => uptoBulk d + 1
  | .slice elems spare => uptoBulkAll elems + uptoBulkAll spare + 1
  | .agg parts => uptoBulkAll parts + 1
  | .iface _ d => uptoBulk d + 1
  | .map entries => uptoBulkEntries entries + 1
  | .held _ => 1
def uptoBulkAll {H : Type} : List (DataW H) → Nat
  | [] => 0
  | d :: r => uptoBulk d + uptoBulkAll r
def uptoBulkEntries {H : Type} : List (Lit × DataW H) → Nat
  | [] => 0
  | x :: r => uptoBulkEntry x + uptoBulkEntries r
def uptoBulkEntry {H : Type} : Lit × DataW H → Nat
  | (.string bytes, d) => bytes.length + uptoBulk d + 1
  | (_, d) => uptoBulk d + 1
 end
def uptoSmall : (H : Type) → List (DataW H) → Bool := fun _ ds => decide (uptoBulkAll ds ≤ 1048576)
def OpenSpec.upto (s : _root_.Go.ChangeSpec) : _root_.Go.OpenSpec := { _root_.Go.OpenSpec.ofChange s with cond := some uptoSmall }

/-- 'laws.FnExactCheapestTable', WHERE WHAT IT READS IS OF BULK AT MOST 1048576: true; the input reads as it did. -/
def fnExactCheapestTableUptoRow : OpenClaim := { program := "ytdeipindfhkioaa", sum := "2fc8a882c5bd526dd37df9111d49a1074c1189f83cf1d9e9b8daef8a76827f15", func := "loop.example/g01366/laws.FnExactCheapestTable", spec := "fnExactCheapestTable", unfollowed := true, recurses := true, apart := false, narrowed := true }
def FnExactCheapestTableUptoSaid : Prop := fnExactCheapestTableUptoRow.holds Try.pinned (OpenSpec.upto fnExactCheapestTableSpec)

/-- 'laws.FnExactCheckParcels', WHERE WHAT IT READS IS OF BULK AT MOST 1048576: true; the input reads as it did. -/
def fnExactCheckParcelsUptoRow : OpenClaim := { program := "ytdeipindfhkioaa", sum := "2fc8a882c5bd526dd37df9111d49a1074c1189f83cf1d9e9b8daef8a76827f15", func := "loop.example/g01366/laws.FnExactCheckParcels", spec := "fnExactCheckParcels", unfollowed := true, recurses := true, apart := false, narrowed := true }
def FnExactCheckParcelsUptoSaid : Prop := fnExactCheckParcelsUptoRow.holds Try.pinned (OpenSpec.upto fnExactCheckParcelsSpec)

/-- 'laws.FnExactPricesOf', WHERE WHAT IT READS IS OF BULK AT MOST 1048576: true; the input reads as it did. -/
def fnExactPricesOfUptoRow : OpenClaim := { program := "ytdeipindfhkioaa", sum := "2fc8a882c5bd526dd37df9111d49a1074c1189f83cf1d9e9b8daef8a76827f15", func := "loop.example/g01366/laws.FnExactPricesOf", spec := "fnExactPricesOf", unfollowed := true, recurses := true, apart := false, narrowed := true }
def FnExactPricesOfUptoSaid : Prop := fnExactPricesOfUptoRow.holds Try.pinned (OpenSpec.upto fnExactPricesOfSpec)

/-- 'laws.FnExactJoinedPrice', WHERE WHAT IT READS IS OF BULK AT MOST 1048576: true; the input reads as it did. -/
def fnExactJoinedPriceUptoRow : OpenClaim := { program := "ytdeipindfhkioaa", sum := "2fc8a882c5bd526dd37df9111d49a1074c1189f83cf1d9e9b8daef8a76827f15", func := "loop.example/g01366/laws.FnExactJoinedPrice", spec := "fnExactJoinedPrice", unfollowed := true, recurses := true, apart := false, narrowed := true }
def FnExactJoinedPriceUptoSaid : Prop := fnExactJoinedPriceUptoRow.holds Try.pinned (OpenSpec.upto fnExactJoinedPriceSpec)

/-- 'laws.FnExactPriceBound', WHERE WHAT IT READS IS OF BULK AT MOST 1048576: true; the input reads as it did. -/
def fnExactPriceBoundUptoRow : OpenClaim := { program := "ytdeipindfhkioaa", sum := "2fc8a882c5bd526dd37df9111d49a1074c1189f83cf1d9e9b8daef8a76827f15", func := "loop.example/g01366/laws.FnExactPriceBound", spec := "fnExactPriceBound", unfollowed := true, recurses := true, apart := false, narrowed := true }
def FnExactPriceBoundUptoSaid : Prop := fnExactPriceBoundUptoRow.holds Try.pinned (OpenSpec.upto fnExactPriceBoundSpec)

/-- 'laws.FnExactFewestParcels', WHERE WHAT IT READS IS OF BULK AT MOST 1048576: true; the input reads as it did. -/
def fnExactFewestParcelsUptoRow : OpenClaim := { program := "ytdeipindfhkioaa", sum := "2fc8a882c5bd526dd37df9111d49a1074c1189f83cf1d9e9b8daef8a76827f15", func := "loop.example/g01366/laws.FnExactFewestParcels", spec := "fnExactFewestParcels", unfollowed := true, recurses := true, apart := false, narrowed := true }
def FnExactFewestParcelsUptoSaid : Prop := fnExactFewestParcelsUptoRow.holds Try.pinned (OpenSpec.upto fnExactFewestParcelsSpec)

/-- 'laws.FnExactBestParcels', WHERE WHAT IT READS IS OF BULK AT MOST 1048576: true; the input reads as it did. -/
def fnExactBestParcelsUptoRow : OpenClaim := { program := "ytdeipindfhkioaa", sum := "2fc8a882c5bd526dd37df9111d49a1074c1189f83cf1d9e9b8daef8a76827f15", func := "loop.example/g01366/laws.FnExactBestParcels", spec := "fnExactBestParcels", unfollowed := true, recurses := true, apart := false, narrowed := true }
def FnExactBestParcelsUptoSaid : Prop := fnExactBestParcelsUptoRow.holds Try.pinned (OpenSpec.upto fnExactBestParcelsSpec)

/-- 'laws.FnExactGreedyParcels', WHERE WHAT IT READS IS OF BULK AT MOST 1048576: true; the input reads as it did. -/
def fnExactGreedyParcelsUptoRow : OpenClaim := { program := "ytdeipindfhkioaa", sum := "2fc8a882c5bd526dd37df9111d49a1074c1189f83cf1d9e9b8daef8a76827f15", func := "loop.example/g01366/laws.FnExactGreedyParcels", spec := "fnExactGreedyParcels", unfollowed := true, recurses := true, apart := false, narrowed := true }
def FnExactGreedyParcelsUptoSaid : Prop := fnExactGreedyParcelsUptoRow.holds Try.pinned (OpenSpec.upto fnExactGreedyParcelsSpec)

/-- 'laws.FnExactStampsFor', WHERE WHAT IT READS IS OF BULK AT MOST 1048576: true; the input reads as it did. -/
def fnExactStampsForUptoRow : OpenClaim := { program := "ytdeipindfhkioaa", sum := "2fc8a882c5bd526dd37df9111d49a1074c1189f83cf1d9e9b8daef8a76827f15", func := "loop.example/g01366/laws.FnExactStampsFor", spec := "fnExactStampsFor", unfollowed := true, recurses := true, apart := false, narrowed := true }
def FnExactStampsForUptoSaid : Prop := fnExactStampsForUptoRow.holds Try.pinned (OpenSpec.upto fnExactStampsForSpec)

end Rows
end Go.Proofs.Ytdeipindfhkioaa
