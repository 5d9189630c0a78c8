/- UnitValue: the reference and the program. -/
import Derived.Test.YtehphbaobhnfjaaQ21
import Derived.Test.YtehphbaobhnfjaaPureC5a
import Derived.Test.YtehphbaobhnfjaaPureC5o
set_option linter.unusedVariables false
set_option linter.unusedSimpArgs false
namespace Go.Proofs.Ytehphbaobhnfjaa.Pure
open Go.RowKit Go.Proofs.Ytehphbaobhnfjaa.Q Go.Proofs.YtehphbaobhnfjaaMine Go.Proofs.YtehphbaobhnfjaaW.PrintWords Go.Proofs.YtehphbaobhnfjaaW.PrintMore
section
variable {l : List (S63)} {m : List (S43)}
def rUnit (l : List (S63)) (x : S43) : Int × Int := if okF l [x] = true then (wrap64 (Int.tdiv (wrap64 x.f2) (wrap64 x.f1)), 0) else (0, 1)
theorem unit_ne {x : S43} (hx : wfLine x) (h : okF l [x] = true) : ¬ wrap64 x.f1 = 0 := by
  obtain ⟨_, _, _, q2⟩ := okF_bd h
  obtain ⟨_, ⟨b1, b2⟩, _⟩ := okL_bd (q2 x (by simp))
  rw [wrap_id (by omega) (by omega)]; omega
theorem specUnitValue (hl : l.length ≤ 2097152) (hc : ∀ x ∈ l, wfClass x) {x : S43} (hx : wfLine x) : Ev (fun k => spec_UnitValue.f k l x.f0 x.f1 x.f2 x.f3) (rUnit l x) := by
  unfold spec_UnitValue.f rUnit
  refine Ev.bind (specF hl (by simp) hc (wfOne hx)) ?_
  show Ev (fun n => if okF l [x] = true then _ else _) _
  cases ho : okF l [x] with
  | false => exact Ev.now _
  | true => simp only [if_true, if_neg (unit_ne hx ho)]; exact Ev.now _
theorem implUnitValue (hl : l.length ≤ 2097152) (hc : ∀ x ∈ l, wfClass x) {x : S43} (hx : wfLine x) : Ev (fun k => impl_UnitValue.f l x.f0 x.f1 x.f2 x.f3) (rUnit l x) := by
  unfold impl_UnitValue.f rUnit
  have hi := implF hl hc (wfOne hx)
  have hi' : impl_ValidForm.f l [⟨x.f0, x.f1, x.f2, x.f3⟩] = some (okF l [x]) := hi
  simp only [hi', Option.bind_some]
  cases ho : okF l [x] with
  | false => exact Ev.now _
  | true => simp only [if_true, if_neg (unit_ne hx ho)]; exact Ev.now _
end
end Go.Proofs.Ytehphbaobhnfjaa.Pure
