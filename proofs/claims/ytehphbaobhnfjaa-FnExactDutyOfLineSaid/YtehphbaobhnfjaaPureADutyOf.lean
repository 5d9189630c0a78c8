/- DutyOf: the reference and the program. -/
import Derived.Test.YtehphbaobhnfjaaQ17
import Derived.Test.YtehphbaobhnfjaaPureC5y
import Derived.Test.YtehphbaobhnfjaaPureC5s
import Derived.Test.YtehphbaobhnfjaaPureC5f
set_option linter.unusedVariables false
set_option linter.unusedSimpArgs false
namespace Go.Proofs.Ytehphbaobhnfjaa.Pure
open Go.RowKit Go.Proofs.Ytehphbaobhnfjaa.Q Go.Proofs.YtehphbaobhnfjaaMine Go.Proofs.YtehphbaobhnfjaaW.PrintWords Go.Proofs.YtehphbaobhnfjaaW.PrintMore
section
variable {l : List (S63)} {m : List (S43)}
def rDuty (l : List (S63)) (m : List (S43)) (how : Int) : Int × Int := if okF l m = true then (if inR how 0 3 = true then (dty l m how, 0) else (0, 2)) else (0, 1)
theorem specDutyOf (hl : l.length ≤ 2097152) (hc : ∀ x ∈ l, wfClass x) (hm : m.length ≤ 2097152) (hf : ∀ x ∈ m, wfLine x) (how : Int) : Ev (fun k => spec_DutyOf.f k l m how) (rDuty l m how) := by
  unfold spec_DutyOf.f rDuty
  simp only [l05How_eq, Option.bind_some]
  refine Ev.bind (specAsked hl hc hm hf _) ?_
  cases ho : okF l m with
  | false => simp only [Bool.false_eq_true, if_false]; exact Ev.now _
  | true =>
    obtain ⟨_, q1, _, q2⟩ := okF_bd ho
    cases inR how 0 3 with
    | false => simp only [Bool.false_eq_true, if_false, if_true]; exact Ev.now _
    | true => simp only [if_true]; exact Ev.bind (specDty hm q1 q2 how) (Ev.now _)
theorem implDutyOf (hl : l.length ≤ 2097152) (hc : ∀ x ∈ l, wfClass x) (hm : m.length ≤ 2097152) (hf : ∀ x ∈ m, wfLine x) (how : Int) : Ev (fun k => impl_DutyOf.f k l m how) (rDuty l m how) := by
  unfold impl_DutyOf.f rDuty
  simp only [implFormCode hl hc hm hf, Option.bind_some]
  cases ho : okF l m with
  | false => simp only [Bool.false_eq_true, if_false]; exact Ev.now _
  | true =>
    obtain ⟨_, q1, _, q2⟩ := okF_bd ho
    cases hh : inR how 0 3 with
    | false => simp only [Bool.false_eq_true, if_false, if_true]; exact Ev.now _
    | true => simp only [if_true]; obtain ⟨w0, w3⟩ := inR_iff.1 hh; exact Ev.bind (implDty hm q1 q2 w0 w3) (Ev.now _)
end
end Go.Proofs.Ytehphbaobhnfjaa.Pure
