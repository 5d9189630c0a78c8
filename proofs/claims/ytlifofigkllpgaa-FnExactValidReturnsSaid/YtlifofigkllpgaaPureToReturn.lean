/- The copies, comparisons and sizes of a law's lists of Return. -/
import Derived.Test.YtlifofigkllpgaaQ7
import Derived.Test.YtlifofigkllpgaaQ8
import Derived.Test.YtlifofigkllpgaaPure0
set_option linter.unusedVariables false
set_option linter.unusedSimpArgs false
namespace Go.Proofs.Ytlifofigkllpgaa.Pure
open Go.RowKit Go.Proofs.Ytlifofigkllpgaa.Q Go.Proofs.YtlifofigkllpgaaMine Go.Proofs.YtlifofigkllpgaaW.PrintWords
/-- The program's own Return of a law's. -/
def cvReturn (x : S105) : S103 := ⟨x.f0, x.f1, x.f2, x.f3⟩
def wfReturnL (x : S105) : Prop := (Lit.int .i8 x.f0).wf = true ∧ (Lit.int .i8 x.f1).wf = true ∧ (Lit.int .i16 x.f2).wf = true ∧ (Lit.int .i16 x.f3).wf = true
def wfReturn (x : S103) : Prop := (Lit.int .i8 x.f0).wf = true ∧ (Lit.int .i8 x.f1).wf = true ∧ (Lit.int .i16 x.f2).wf = true ∧ (Lit.int .i16 x.f3).wf = true
theorem wfsReturn {l : List (S105)} (h : ∀ x ∈ l, wfReturnL x) : ∀ x ∈ l.map cvReturn, wfReturn x := by
  intro x hx
  obtain ⟨y, hy, rfl⟩ := List.mem_map.1 hx
  exact h y hy
theorem toReturnS (x : List (S105)) (hx : x.length ≤ 2097152) : Ev (fun k => laws_toReturnS.f k x) (x.map cvReturn) := by
  have e : ∀ k, laws_toReturnS.f k x = laws_toReturnS.l0 k x (List.replicate x.length z103) 0 := by
    intro k
    unfold laws_toReturnS.f
    rw [if_pos (by omega), if_pos (by omega), Int.toNat_natCast]
  refine Ev.congr e ?_
  exact fill_all laws_toReturnS.l0 cvReturn z105 z103 x (by omega) (fun k y i => by simp only [laws_toReturnS.l0, laws_toReturn.f, Option.bind_some]; rfl)
theorem eqReturnS (x : List (S103)) (hx : x.length ≤ 2097152) : Ev (fun k => laws_eqReturnS.f k x x) true := by
  have e : ∀ k, laws_eqReturnS.f k x x = laws_eqReturnS.l0 k x x 0 := by
    intro k
    unfold laws_eqReturnS.f
    rw [if_pos rfl]
  refine Ev.congr e ?_
  refine eq_all laws_eqReturnS.l0 x (by omega) (fun k i h0 h1 => ?_)
  simp only [laws_eqReturnS.l0]
  by_cases h : i < (x.length : Int)
  · simp only [if_pos h, if_pos h0, laws_eqReturn.f, if_true, Option.bind_some]
  · simp only [if_neg h]
theorem szReturnS (x : List (S105)) (hx : x.length ≤ 140737488351232) (left : Int) (h0 : 0 ≤ left) (h1 : left ≤ 1048576) : laws_szReturnS.f x left = some (if left - (x.length : Int) < 0 then -1 else left - (x.length : Int)) := by
  unfold laws_szReturnS.f
  rw [sz_eq _ hx _ h0 h1]
  split <;> rfl
end Go.Proofs.Ytlifofigkllpgaa.Pure
