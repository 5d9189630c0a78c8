/- A law's comparison of lists of whole numbers. -/
import Derived.Test.YtdeipindfhkioaaQ2
import Derived.Test.YtdeipindfhkioaaPureB0
set_option linter.unusedVariables false
set_option linter.unusedSimpArgs false
namespace Go.Proofs.Ytdeipindfhkioaa.Pure
open Go.RowKit Go.Proofs.Ytdeipindfhkioaa.Q Go.Proofs.YtdeipindfhkioaaMine Go.Proofs.YtdeipindfhkioaaW.PrintWords
theorem eqInt64S (x : List Int) (hx : x.length ≤ 2097152) : Ev (fun k => laws_eqInt64S.f k x x) true := by
 have e : ∀ k, laws_eqInt64S.f k x x = laws_eqInt64S.l0 k x x 0 := by
  intro k
  unfold laws_eqInt64S.f
  rw [if_pos rfl]
 refine Ev.congr e ?_
 refine eq_all laws_eqInt64S.l0 x (by omega) (fun k i h0 h1 => ?_)
 simp only [laws_eqInt64S.l0]
 by_cases h : i < (x.length : Int)
 ·simp only [if_pos h, if_pos h0, if_true]
 ·simp only [if_neg h]
end Go.Proofs.Ytdeipindfhkioaa.Pure
