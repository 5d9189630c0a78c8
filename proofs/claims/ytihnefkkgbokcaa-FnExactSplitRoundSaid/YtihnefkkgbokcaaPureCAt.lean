/- The weight for a stop, by the reference. -/
import Derived.Test.YtihnefkkgbokcaaQ1
import Derived.Test.YtihnefkkgbokcaaPureToParcel
set_option linter.unusedVariables false
set_option linter.unusedSimpArgs false
namespace Go.Proofs.Ytihnefkkgbokcaa.Pure
open Go.RowKit Go.Proofs.Ytihnefkkgbokcaa.Q Go.Proofs.YtihnefkkgbokcaaMine Go.Proofs.YtihnefkkgbokcaaW.PrintWords Go.Proofs.YtihnefkkgbokcaaW.PrintMore
/-- The weight for a stop. -/
def wAt (l : List (S82)) (s : Int) : Int := l.foldl (fun a x => if wrap64 x.f0 = s then wrap64 (a + wrap64 x.f1) else a) 0
theorem specAt {l : List (S82)} (hl : l.length ≤ 2097152) (s : Int) : Ev (fun k => spec_l04At.f k l s) (wAt l s) := by
  unfold spec_l04At.f wAt
  refine fold_all (fun k a i => spec_l04At.l0 k l s a i) l z82 (by omega) _ id (fun k a i h0 h1 => ?_) 0
  simp only [spec_l04At.l0]
  by_cases hi : i < (l.length : Int)
  · simp only [if_pos hi, if_pos h0]
    unfold rd_T82
    split <;> rfl
  · simp only [if_neg hi]; rfl
end Go.Proofs.Ytihnefkkgbokcaa.Pure
