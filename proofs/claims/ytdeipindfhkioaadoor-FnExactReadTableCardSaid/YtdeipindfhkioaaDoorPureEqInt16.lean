/- A law's comparison of lists of whole numbers. -/
import Derived.Test.YtdeipindfhkioaaDoorQ1
import Derived.Test.YtdeipindfhkioaaDoorPureB0
set_option linter.unusedVariables false
set_option linter.unusedSimpArgs false
namespace Go.Proofs.YtdeipindfhkioaaDoor.Pure
open Go.RowKit Go.Proofs.YtdeipindfhkioaaDoor.Q Go.Proofs.YtdeipindfhkioaaDoorMine Go.Proofs.YtdeipindfhkioaaDoorW.PrintWords
theorem eqInt16S (x : List Int) (hx : x.length ≤ 2097152) : Ev (fun k => laws_eqInt16S.f k x x) true := by
 have e : ∀ k, laws_eqInt16S.f k x x = laws_eqInt16S.l0 k x x 0 := by
  intro k
  unfold laws_eqInt16S.f
  rw [if_pos rfl]
 refine Ev.congr e ?_
 refine eq_all laws_eqInt16S.l0 x (by omega) (fun k i h0 h1 => ?_)
 simp only [laws_eqInt16S.l0]
 by_cases h : i < (x.length : Int)
 ·simp only [if_pos h, if_pos h0, if_true]
 ·simp only [if_neg h]
end Go.Proofs.YtdeipindfhkioaaDoor.Pure
