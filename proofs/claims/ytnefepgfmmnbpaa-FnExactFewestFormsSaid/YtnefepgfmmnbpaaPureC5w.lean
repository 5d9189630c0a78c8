/- The sums of values and of grams. -/
import Derived.Test.YtnefepgfmmnbpaaQ4
import Derived.Test.YtnefepgfmmnbpaaPureToLine
set_option linter.unusedVariables false
set_option linter.unusedSimpArgs false
namespace Go.Proofs.Ytnefepgfmmnbpaa.Pure
open Go.RowKit Go.Proofs.Ytnefepgfmmnbpaa.Q Go.Proofs.YtnefepgfmmnbpaaMine Go.Proofs.YtnefepgfmmnbpaaW.PrintWords Go.Proofs.YtnefepgfmmnbpaaW.PrintMore
/-- The sums of values and of grams. -/
def wor (m : List (S54)) : Int := m.foldl (fun s x => wrap64 (s + wrap64 x.f2)) 0
def grm (m : List (S54)) : Int := m.foldl (fun s x => wrap64 (s + wrap64 x.f3)) 0
theorem implWor {m : List (S54)} (hm : m.length ≤ 2097152) : Ev (fun k => impl_worth.f k m) (wor m, grm m) := by
 unfold impl_worth.f
 have e : ∀ (xs : List (S54)) (a b : Int), xs.foldl (fun (s : Int × Int) x => (wrap64 (s.1 + wrap64 x.f2), wrap64 (s.2 + wrap64 x.f3))) (a, b) = (xs.foldl (fun s x => wrap64 (s + wrap64 x.f2)) a, xs.foldl (fun s x => wrap64 (s + wrap64 x.f3)) b) := by
  intro xs
  induction xs with
  | nil => intro a b; rfl
  | cons x xs ih => intro a b; simp only [List.foldl_cons, ih]
 refine Ev.eq (fold_all (fun k (s : Int × Int) i => impl_worth.l0 k s.1 s.2 m (m.length : Int) i) m z54 (by omega) (fun s x => (wrap64 (s.1 + wrap64 x.f2), wrap64 (s.2 + wrap64 x.f3))) id (fun k s i h0 h1 => ?_) (0, 0)) ?_
 ·simp only [impl_worth.l0]
  by_cases hi : i < (m.length : Int)
  ·simp only [if_pos hi, if_pos h0]; rfl
  ·simp only [if_neg hi]; rfl
 ·rw [e]; rfl
end Go.Proofs.Ytnefepgfmmnbpaa.Pure
