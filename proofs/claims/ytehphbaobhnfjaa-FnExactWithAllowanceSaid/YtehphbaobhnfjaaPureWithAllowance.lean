/- WithAllowance returns what the reference returns, for all arguments. -/
import Derived.Test.YtehphbaobhnfjaaQ29
import Derived.Test.YtehphbaobhnfjaaQ16
import Derived.Test.YtehphbaobhnfjaaPureC5w
import Derived.Test.YtehphbaobhnfjaaQ6
import Derived.Test.YtehphbaobhnfjaaPureC50
import Derived.Test.YtehphbaobhnfjaaPureC5f
import Derived.Test.YtehphbaobhnfjaaPureC5y
import Derived.Test.YtehphbaobhnfjaaPureC5s
import Derived.Test.YtehphbaobhnfjaaPureToClass
import Derived.Test.YtehphbaobhnfjaaPureToLine
set_option linter.unusedVariables false
set_option linter.unusedSimpArgs false
namespace Go.Proofs.Ytehphbaobhnfjaa.Pure
open Go.RowKit Go.Proofs.Ytehphbaobhnfjaa.Q Go.Proofs.YtehphbaobhnfjaaMine Go.Proofs.YtehphbaobhnfjaaW.PrintWords Go.Proofs.YtehphbaobhnfjaaW.PrintMore
theorem specWor {m : List (S43)} (hm : m.length ≤ 2097152) : Ev (fun k => spec_l05Worth.f k m) (wor m) := by
  unfold spec_l05Worth.f wor
  refine fold_all (fun k s i => spec_l05Worth.l0 k m s i) m z43 (by omega) _ id (fun k s i h0 h1 => ?_) 0
  simp only [spec_l05Worth.l0]
  by_cases hi : i < (m.length : Int)
  · simp only [if_pos hi, if_pos h0]; rfl
  · simp only [if_neg hi]; rfl
end Go.Proofs.Ytehphbaobhnfjaa.Pure

set_option linter.unusedVariables false
set_option linter.unusedSimpArgs false
namespace Go.Proofs.Ytehphbaobhnfjaa.Pure
open Go.RowKit Go.Proofs.Ytehphbaobhnfjaa.Q Go.Proofs.YtehphbaobhnfjaaMine Go.Proofs.YtehphbaobhnfjaaW.PrintWords Go.Proofs.YtehphbaobhnfjaaW.PrintMore
theorem decl_eq (n : Int) : spec_l05Declared.f n = some (inR n 0 1000000) := by unfold spec_l05Declared.f; rw [l00In_eq]; rfl
end Go.Proofs.Ytehphbaobhnfjaa.Pure

set_option linter.unusedVariables false
set_option linter.unusedSimpArgs false
namespace Go.Proofs.Ytehphbaobhnfjaa.Pure
open Go.RowKit Go.Proofs.Ytehphbaobhnfjaa.Q Go.Proofs.YtehphbaobhnfjaaMine Go.Proofs.YtehphbaobhnfjaaW.PrintWords Go.Proofs.YtehphbaobhnfjaaW.PrintMore
section
variable {l : List (S63)} {m : List (S43)}
theorem implAllowCode (hl : l.length ≤ 2097152) (hc : ∀ x ∈ l, wfClass x) (hm : m.length ≤ 2097152) (hf : ∀ x ∈ m, wfLine x) (a how : Int) : impl_allowCode.f l m a how = some (if okF l m = true then (if (inR how 0 3 && inR a 0 1000000) = true then 0 else 2) else 1) := by
  unfold impl_allowCode.f impl_unless.f
  rw [implFormCode hl hc hm hf, Option.bind_some, within_eq]
  cases okF l m <;> cases inR how 0 3 <;> cases inR a 0 1000000 <;> rfl
end
end Go.Proofs.Ytehphbaobhnfjaa.Pure

set_option linter.unusedVariables false
set_option linter.unusedSimpArgs false
namespace Go.Proofs.Ytehphbaobhnfjaa.Pure
open Go.RowKit Go.Proofs.Ytehphbaobhnfjaa.Q Go.Proofs.YtehphbaobhnfjaaMine Go.Proofs.YtehphbaobhnfjaaW.PrintWords Go.Proofs.YtehphbaobhnfjaaW.PrintMore
section
variable {l : List (S63)} {m : List (S43)}
def rAllow (l : List (S63)) (m : List (S43)) (a how : Int) : Int × Int := if okF l m = true then (if (inR how 0 3 && inR a 0 1000000) = true then (if wor m ≤ a then 0 else dty l m how, 0) else (0, 2)) else (0, 1)
theorem specFree (hm : m.length ≤ 2097152) (q1 : ∀ c ∈ l, okC c = true) (q2 : ∀ x ∈ m, okL (l.length : Int) x = true) (a how : Int) : Ev (fun k => spec_l05Free.f k l m a how) (if wor m ≤ a then 0 else dty l m how) := by
  unfold spec_l05Free.f
  refine Ev.bind (specWor hm) ?_
  by_cases h : wor m ≤ a
  · simp only [if_pos h]; exact Ev.now _
  · simp only [if_neg h]; exact Ev.bind (specDty hm q1 q2 how) (Ev.now _)
theorem implFree (hm : m.length ≤ 2097152) (q1 : ∀ c ∈ l, okC c = true) (q2 : ∀ x ∈ m, okL (l.length : Int) x = true) (a : Int) {how : Int} (w0 : 0 ≤ how) (w3 : how ≤ 3) : Ev (fun k => impl_allowed.f k l m a how) (if wor m ≤ a then 0 else dty l m how) := by
  unfold impl_allowed.f
  refine Ev.bind (implWor hm) ?_
  by_cases h : wor m ≤ a
  · simp only [if_pos h]; exact Ev.now _
  · simp only [if_neg h]; exact Ev.bind (implDty hm q1 q2 w0 w3) (Ev.now _)
theorem specWithAllowance (hl : l.length ≤ 2097152) (hc : ∀ x ∈ l, wfClass x) (hm : m.length ≤ 2097152) (hf : ∀ x ∈ m, wfLine x) (a how : Int) : Ev (fun k => spec_WithAllowance.f k l m a how) (rAllow l m a how) := by
  unfold spec_WithAllowance.f rAllow
  simp only [l05How_eq, decl_eq, Option.bind_some]
  cases inR a 0 1000000 with
  | false =>
    simp only [Bool.false_eq_true, if_false, Bool.and_false]
    refine Ev.bind (specAsked hl hc hm hf _) ?_
    cases okF l m <;> exact Ev.now _
  | true =>
    simp only [if_true, Bool.and_true]
    refine Ev.bind (specAsked hl hc hm hf _) ?_
    cases ho : okF l m with
    | false => simp only [Bool.false_eq_true, if_false]; exact Ev.now _
    | true =>
      obtain ⟨_, q1, _, q2⟩ := okF_bd ho
      cases inR how 0 3 with
      | false => simp only [Bool.false_eq_true, if_false, if_true]; exact Ev.now _
      | true => simp only [if_true]; exact Ev.bind (specFree hm q1 q2 a how) (Ev.now _)
theorem implWithAllowance (hl : l.length ≤ 2097152) (hc : ∀ x ∈ l, wfClass x) (hm : m.length ≤ 2097152) (hf : ∀ x ∈ m, wfLine x) (a how : Int) : Ev (fun k => impl_WithAllowance.f k l m a how) (rAllow l m a how) := by
  unfold impl_WithAllowance.f rAllow
  simp only [implAllowCode hl hc hm hf, Option.bind_some]
  cases ho : okF l m with
  | false => simp only [Bool.false_eq_true, if_false]; exact Ev.now _
  | true =>
    obtain ⟨_, q1, _, q2⟩ := okF_bd ho
    cases hh : inR how 0 3 with
    | false => simp only [Bool.false_eq_true, if_false, if_true, Bool.false_and]; exact Ev.now _
    | true =>
      obtain ⟨w0, w3⟩ := inR_iff.1 hh
      cases inR a 0 1000000 with
      | false => simp only [Bool.false_eq_true, if_false, if_true, Bool.and_false]; exact Ev.now _
      | true => simp only [if_true, Bool.and_true]; exact Ev.bind (implFree hm q1 q2 a w0 w3) (Ev.now _)
end
end Go.Proofs.Ytehphbaobhnfjaa.Pure

set_option linter.unusedVariables false
set_option linter.unusedSimpArgs false
namespace Go.Proofs.Ytehphbaobhnfjaa.Pure
open Go.RowKit Go.Proofs.Ytehphbaobhnfjaa.Q Go.Proofs.YtehphbaobhnfjaaMine Go.Proofs.YtehphbaobhnfjaaW.PrintWords
theorem WithAllowance : laws_FnExactWithAllowance.Pure := by
  intro l0 l1 a2 a3 ⟨_, hb0, hw0⟩ ⟨_, hb1, hw1⟩ h2 h3
  apply Ev.rounds
  unfold laws_FnExactWithAllowance.f
  simp only [szClassS l0 (by omega) (1048576) (by omega) (by omega), Option.bind_some]
  by_cases g0 : (1048576 : Int) - (l0.length : Int) < 0
  · simp only [if_pos g0, if_pos (show (-1 : Int) < 0 by omega)]; exact Ev.now _
  simp only [if_neg g0]
  simp only [szLineS l1 (by omega) ((1048576 : Int) - (l0.length : Int)) (by omega) (by omega), Option.bind_some]
  by_cases g1 : ((1048576 : Int) - (l0.length : Int) : Int) - (l1.length : Int) < 0
  · simp only [if_pos g1, if_pos (show (-1 : Int) < 0 by omega)]; exact Ev.now _
  simp only [if_neg g1]
  have hl0 : (l0.map cvClass).length ≤ 2097152 := by rw [List.length_map]; omega
  have hc0 := wfsClass (l := l0) hw0
  have hl1 : (l1.map cvLine).length ≤ 2097152 := by rw [List.length_map]; omega
  have hc1 := wfsLine (l := l1) hw1
  have hS := specWithAllowance hl0 hc0 hl1 hc1 a2 a3
  have hI := implWithAllowance hl0 hc0 hl1 hc1 a2 a3
  repeat (first | exact Ev.now _ | (with_reducible refine Ev.bind hS ?_) | (with_reducible refine Ev.bind hI ?_) | (with_reducible refine Ev.bind (toClassS l0 (by omega)) ?_) | (with_reducible refine Ev.bind (toLineS l1 (by omega)) ?_) | (with_reducible refine Ev.bind (eqClassS _ hl0) ?_) | (with_reducible refine Ev.bind (eqLineS _ hl1) ?_) | simp only [if_true, eq_self_iff_true, bne_self_eq_false, Bool.false_eq_true, if_false, Option.bind_some] | (show Ev (fun n => laws_FnExactWithAllowance.j0 n _ _) _; refine Ev.step (fun k => by simp only [laws_FnExactWithAllowance.j0]; rfl) ?_) | (show Ev (fun n => laws_FnExactWithAllowance.j0 n _ _ _) _; refine Ev.step (fun k => by simp only [laws_FnExactWithAllowance.j0]; rfl) ?_) | (show Ev (fun n => laws_FnExactWithAllowance.j0 n _ _ _ _) _; refine Ev.step (fun k => by simp only [laws_FnExactWithAllowance.j0]; rfl) ?_) | (show Ev (fun n => laws_FnExactWithAllowance.j0 n _ _ _ _ _) _; refine Ev.step (fun k => by simp only [laws_FnExactWithAllowance.j0]; rfl) ?_) | (show Ev (fun n => laws_FnExactWithAllowance.j0 n _ _ _ _ _ _) _; refine Ev.step (fun k => by simp only [laws_FnExactWithAllowance.j0]; rfl) ?_) | (show Ev (fun n => laws_FnExactWithAllowance.j0 n _ _ _ _ _ _ _) _; refine Ev.step (fun k => by simp only [laws_FnExactWithAllowance.j0]; rfl) ?_) | (show Ev (fun n => laws_FnExactWithAllowance.j0 n _ _ _ _ _ _ _ _) _; refine Ev.step (fun k => by simp only [laws_FnExactWithAllowance.j0]; rfl) ?_) | (show Ev (fun n => laws_FnExactWithAllowance.j0 n _ _ _ _ _ _ _ _ _) _; refine Ev.step (fun k => by simp only [laws_FnExactWithAllowance.j0]; rfl) ?_))
end Go.Proofs.Ytehphbaobhnfjaa.Pure
