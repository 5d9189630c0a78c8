/- The comparisons of a law's lists of Parcel. -/
import Derived.Test.YtihnefkkgbokcaaDoorQ3
import Derived.Test.YtihnefkkgbokcaaDoorPure0
set_option linter.unusedVariables false
set_option linter.unusedSimpArgs false
namespace Go.Proofs.YtihnefkkgbokcaaDoor.Pure
open Go.RowKit Go.Proofs.YtihnefkkgbokcaaDoor.Q Go.Proofs.YtihnefkkgbokcaaDoorMine Go.Proofs.YtihnefkkgbokcaaDoorW.PrintWords
def wfParcel (x : S40) : Prop := (Lit.int .i8 x.f0).wf = true ∧ (Lit.int .i16 x.f1).wf = true
theorem eqParcelS (x : List (S40)) (hx : x.length ≤ 2097152) : Ev (fun k => laws_eqParcelS.f k x x) true := by
  have e : ∀ k, laws_eqParcelS.f k x x = laws_eqParcelS.l0 k x x 0 := by
    intro k
    unfold laws_eqParcelS.f
    rw [if_pos rfl]
  refine Ev.congr e ?_
  refine eq_all laws_eqParcelS.l0 x (by omega) (fun k i h0 h1 => ?_)
  simp only [laws_eqParcelS.l0]
  by_cases h : i < (x.length : Int)
  · simp only [if_pos h, if_pos h0, laws_eqParcel.f, if_true, Option.bind_some]
  · simp only [if_neg h]
end Go.Proofs.YtihnefkkgbokcaaDoor.Pure
