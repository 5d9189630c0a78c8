/- RoundShare: the reference and the program. -/
import Derived.Test.YtehphbaobhnfjaaQ18
import Derived.Test.YtehphbaobhnfjaaPureC5r
import Derived.Test.YtehphbaobhnfjaaPureC5n
set_option linter.unusedVariables false
set_option linter.unusedSimpArgs false
namespace Go.Proofs.Ytehphbaobhnfjaa.Pure
open Go.RowKit Go.Proofs.Ytehphbaobhnfjaa.Q Go.Proofs.YtehphbaobhnfjaaMine Go.Proofs.YtehphbaobhnfjaaW.PrintWords Go.Proofs.YtehphbaobhnfjaaW.PrintMore
def rShare (a n d how : Int) : Int × Int :=
  if (inR a 0 1000000000 && (inR n 0 1000 && (inR d 0 1000 && inR how 0 3))) = true then (if d = 0 then (0, 4) else (rsh (a * n) d how, 0)) else (0, 2)
theorem specRoundShare (a n d how : Int) : Ev (fun k => spec_RoundShare.f k a n d how) (rShare a n d how) := by
  have hj : ∀ k, spec_RoundShare.j0 (k + 1) a n d how true = some (0, 2) := fun k => by simp [spec_RoundShare.j0]
  unfold spec_RoundShare.f rShare
  simp only [l00In_eq, l05How_eq, Option.bind_some]
  cases h1 : inR a 0 1000000000 with
  | false => simp only [Bool.false_eq_true, if_false, Bool.false_and]; exact Ev.step hj (Ev.now _)
  | true =>
    cases h2 : inR n 0 1000 with
    | false => simp only [Bool.false_eq_true, if_false, if_true, Bool.false_and, Bool.and_false]; exact Ev.step hj (Ev.now _)
    | true =>
      cases h3 : inR d 0 1000 with
      | false => simp only [Bool.false_eq_true, if_false, if_true, Bool.false_and, Bool.and_false]; exact Ev.step hj (Ev.now _)
      | true =>
        cases h4 : inR how 0 3 with
        | false => simp only [Bool.false_eq_true, if_false, if_true, Bool.and_false, Bool.not_false]; exact Ev.step hj (Ev.now _)
        | true =>
          obtain ⟨a0, a1⟩ := inR_iff.1 h1
          obtain ⟨n0, n1⟩ := inR_iff.1 h2
          obtain ⟨d0, d1⟩ := inR_iff.1 h3
          simp only [if_true, Bool.and_self, Bool.not_true]
          by_cases hd : d = 0
          · refine Ev.step (f := fun _ => some (0, 4)) (fun k => by simp [spec_RoundShare.j0, hd]) (Ev.eq (Ev.now _) ?_)
            rw [if_pos hd]
          · refine Ev.step (f := fun _ => some (rsh (a * n) d how, 0)) (fun k => ?_) (Ev.eq (Ev.now _) ?_)
            · simp only [spec_RoundShare.j0, Bool.false_eq_true, if_false, if_neg hd]
              rw [specRound (RB.mk' a0 a1 n0 n1 (by omega) d1)]; rfl
            · rw [if_neg hd]
theorem implRoundShare (a n d how : Int) : Ev (fun k => impl_RoundShare.f k a n d how) (rShare a n d how) := by
  have hj : ∀ k, impl_RoundShare.j0 (k + 1) a n d how true = some (0, 2) := fun k => by simp [impl_RoundShare.j0]
  unfold impl_RoundShare.f rShare
  simp only [within_eq, isWay_eq, Option.bind_some]
  cases h1 : inR a 0 1000000000 with
  | false => simp only [Bool.false_eq_true, if_false, Bool.false_and]; exact Ev.step hj (Ev.now _)
  | true =>
    cases h2 : inR n 0 1000 with
    | false => simp only [Bool.false_eq_true, if_false, if_true, Bool.false_and, Bool.and_false]; exact Ev.step hj (Ev.now _)
    | true =>
      cases h3 : inR d 0 1000 with
      | false => simp only [Bool.false_eq_true, if_false, if_true, Bool.false_and, Bool.and_false]; exact Ev.step hj (Ev.now _)
      | true =>
        cases h4 : inR how 0 3 with
        | false => simp only [Bool.false_eq_true, if_false, if_true, Bool.and_false, Bool.not_false]; exact Ev.step hj (Ev.now _)
        | true =>
          obtain ⟨a0, a1⟩ := inR_iff.1 h1
          obtain ⟨n0, n1⟩ := inR_iff.1 h2
          obtain ⟨d0, d1⟩ := inR_iff.1 h3
          obtain ⟨w0, w3⟩ := inR_iff.1 h4
          simp only [if_true, Bool.and_self, Bool.not_true]
          by_cases hd : d = 0
          · refine Ev.step (f := fun _ => some (0, 4)) (fun k => by simp [impl_RoundShare.j0, hd]) (Ev.eq (Ev.now _) ?_)
            rw [if_pos hd]
          · refine Ev.step (f := fun k => (impl_rounded.f k a n d how).bind fun t => some (t, 0)) (fun k => ?_) ?_
            · simp only [impl_RoundShare.j0, Bool.false_eq_true, if_false, if_neg hd]
            · rw [if_neg hd]; exact Ev.bind (implRound (RB.mk' a0 a1 n0 n1 (by omega) d1) w0 w3) (Ev.now _)
end Go.Proofs.Ytehphbaobhnfjaa.Pure
