/- The copies, comparisons and sizes of a law's lists of Class. -/
import Derived.Test.YtnefepgfmmnbpaaQ1
import Derived.Test.YtnefepgfmmnbpaaPure0
set_option linter.unusedVariables false
set_option linter.unusedSimpArgs false
namespace Go.Proofs.Ytnefepgfmmnbpaa.Pure
open Go.RowKit Go.Proofs.Ytnefepgfmmnbpaa.Q Go.Proofs.YtnefepgfmmnbpaaMine Go.Proofs.YtnefepgfmmnbpaaW.PrintWords
/-- The program's own Class of a law's. -/
def cvClass (x : S58) : S56 := ⟨x.f0, x.f1, x.f2, x.f3⟩
def wfClassL (x : S58) : Prop := (Lit.int .i16 x.f0).wf = true ∧ (Lit.int .i16 x.f1).wf = true ∧ (Lit.int .i16 x.f2).wf = true ∧ (Lit.int .i32 x.f3).wf = true
def wfClass (x : S56) : Prop := (Lit.int .i16 x.f0).wf = true ∧ (Lit.int .i16 x.f1).wf = true ∧ (Lit.int .i16 x.f2).wf = true ∧ (Lit.int .i32 x.f3).wf = true
theorem wfsClass {l : List (S58)} (h : ∀ x ∈ l, wfClassL x) : ∀ x ∈ l.map cvClass, wfClass x := by
 intro x hx
 obtain ⟨y, hy, rfl⟩ := List.mem_map.1 hx
 exact h y hy
theorem toClassS (x : List (S58)) (hx : x.length ≤ 2097152) : Ev (fun k => laws_toClassS.f k x) (x.map cvClass) := by
 have e : ∀ k, laws_toClassS.f k x = laws_toClassS.l0 k x (List.replicate x.length z56) 0 := by
  intro k
  unfold laws_toClassS.f
  rw [if_pos (by omega), if_pos (by omega), Int.toNat_natCast]
 refine Ev.congr e ?_
 exact fill_all laws_toClassS.l0 cvClass z58 z56 x (by omega) (fun k y i => by simp only [laws_toClassS.l0, laws_toClass.f, Option.bind_some]; rfl)
theorem eqClassS (x : List (S56)) (hx : x.length ≤ 2097152) : Ev (fun k => laws_eqClassS.f k x x) true := by
 have e : ∀ k, laws_eqClassS.f k x x = laws_eqClassS.l0 k x x 0 := by
  intro k
  unfold laws_eqClassS.f
  rw [if_pos rfl]
 refine Ev.congr e ?_
 refine eq_all laws_eqClassS.l0 x (by omega) (fun k i h0 h1 => ?_)
 simp only [laws_eqClassS.l0]
 by_cases h : i < (x.length : Int)
 ·simp only [if_pos h, if_pos h0, laws_eqClass.f, if_true, Option.bind_some]
 ·simp only [if_neg h]
theorem szClassS (x : List (S58)) (hx : x.length ≤ 140737488351232) (left : Int) (h0 : 0 ≤ left) (h1 : left ≤ 1048576) : laws_szClassS.f x left = some (if left - (x.length : Int) < 0 then -1 else left - (x.length : Int)) := by
 unfold laws_szClassS.f
 rw [sz_eq _ hx _ h0 h1]
 split <;> rfl
end Go.Proofs.Ytnefepgfmmnbpaa.Pure
