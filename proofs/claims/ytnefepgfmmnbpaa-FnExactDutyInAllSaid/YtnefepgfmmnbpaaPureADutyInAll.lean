/- DutyInAll: the reference and the program. -/
import Derived.Test.YtnefepgfmmnbpaaQ9
import Derived.Test.YtnefepgfmmnbpaaPureC5l
import Derived.Test.YtnefepgfmmnbpaaPureC5s
import Derived.Test.YtnefepgfmmnbpaaPureC5f
set_option linter.unusedVariables false
set_option linter.unusedSimpArgs false
namespace Go.Proofs.Ytnefepgfmmnbpaa.Pure
open Go.RowKit Go.Proofs.Ytnefepgfmmnbpaa.Q Go.Proofs.YtnefepgfmmnbpaaMine Go.Proofs.YtnefepgfmmnbpaaW.PrintWords Go.Proofs.YtnefepgfmmnbpaaW.PrintMore
section
variable {l : List (S56)} {m : List (S54)}
def rInAll (l : List (S56)) (m : List (S54)) (how : Int) : Int × Int := if okF l m = true then (if inR how 0 3 = true then (alld l m how, 0) else (0, 2)) else (0, 1)
theorem specDutyInAll (hl : l.length ≤ 2097152) (hc : ∀ x ∈ l, wfClass x) (hm : m.length ≤ 2097152) (hf : ∀ x ∈ m, wfLine x) (how : Int) : Ev (fun k => spec_DutyInAll.f k l m how) (rInAll l m how) := by
  unfold spec_DutyInAll.f rInAll
  simp only [l05How_eq, Option.bind_some]
  refine Ev.bind (specAsked hl hc hm hf _) ?_
  cases ho : okF l m with
  | false => simp only [Bool.false_eq_true, if_false]; exact Ev.now _
  | true =>
    obtain ⟨⟨_, q0⟩, q1, q3, q2⟩ := okF_bd ho
    cases inR how 0 3 with
    | false => simp only [Bool.false_eq_true, if_false, if_true]; exact Ev.now _
    | true => simp only [if_true]; exact Ev.bind (specAll q0 q3 q1 q2 how) (Ev.now _)
theorem implDutyInAll (hl : l.length ≤ 2097152) (hc : ∀ x ∈ l, wfClass x) (hm : m.length ≤ 2097152) (hf : ∀ x ∈ m, wfLine x) (how : Int) : Ev (fun k => impl_DutyInAll.f k l m how) (rInAll l m how) := by
  unfold impl_DutyInAll.f rInAll
  simp only [implFormCode hl hc hm hf, Option.bind_some]
  cases ho : okF l m with
  | false => simp only [Bool.false_eq_true, if_false]; exact Ev.now _
  | true =>
    obtain ⟨⟨_, q0⟩, q1, q3, q2⟩ := okF_bd ho
    cases hh : inR how 0 3 with
    | false => simp only [Bool.false_eq_true, if_false, if_true]; exact Ev.now _
    | true => simp only [if_true]; obtain ⟨w0, w3⟩ := inR_iff.1 hh; exact Ev.bind (implInAll q0 q3 q1 q2 w0 w3) (Ev.now _)
end
end Go.Proofs.Ytnefepgfmmnbpaa.Pure
