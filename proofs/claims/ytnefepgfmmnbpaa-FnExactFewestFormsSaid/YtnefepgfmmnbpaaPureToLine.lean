/- The copies, comparisons and sizes of a law's lists of Line. -/
import Derived.Test.YtnefepgfmmnbpaaQ1
import Derived.Test.YtnefepgfmmnbpaaPure0
set_option linter.unusedVariables false
set_option linter.unusedSimpArgs false
namespace Go.Proofs.Ytnefepgfmmnbpaa.Pure
open Go.RowKit Go.Proofs.Ytnefepgfmmnbpaa.Q Go.Proofs.YtnefepgfmmnbpaaMine Go.Proofs.YtnefepgfmmnbpaaW.PrintWords
/-- The program's own Line of a law's. -/
def cvLine (x : S60) : S54 := ⟨x.f0, x.f1, x.f2, x.f3⟩
def wfLineL (x : S60) : Prop := (Lit.int .i8 x.f0).wf = true ∧ (Lit.int .i16 x.f1).wf = true ∧ (Lit.int .i32 x.f2).wf = true ∧ (Lit.int .i32 x.f3).wf = true
def wfLine (x : S54) : Prop := (Lit.int .i8 x.f0).wf = true ∧ (Lit.int .i16 x.f1).wf = true ∧ (Lit.int .i32 x.f2).wf = true ∧ (Lit.int .i32 x.f3).wf = true
theorem wfsLine {l : List (S60)} (h : ∀ x ∈ l, wfLineL x) : ∀ x ∈ l.map cvLine, wfLine x := by
 intro x hx
 obtain ⟨y, hy, rfl⟩ := List.mem_map.1 hx
 exact h y hy
theorem toLineS (x : List (S60)) (hx : x.length ≤ 2097152) : Ev (fun k => laws_toLineS.f k x) (x.map cvLine) := by
 have e : ∀ k, laws_toLineS.f k x = laws_toLineS.l0 k x (List.replicate x.length z54) 0 := by
  intro k
  unfold laws_toLineS.f
  rw [if_pos (by omega), if_pos (by omega), Int.toNat_natCast]
 refine Ev.congr e ?_
 exact fill_all laws_toLineS.l0 cvLine z60 z54 x (by omega) (fun k y i => by simp only [laws_toLineS.l0, laws_toLine.f, Option.bind_some]; rfl)
theorem eqLineS (x : List (S54)) (hx : x.length ≤ 2097152) : Ev (fun k => laws_eqLineS.f k x x) true := by
 have e : ∀ k, laws_eqLineS.f k x x = laws_eqLineS.l0 k x x 0 := by
  intro k
  unfold laws_eqLineS.f
  rw [if_pos rfl]
 refine Ev.congr e ?_
 refine eq_all laws_eqLineS.l0 x (by omega) (fun k i h0 h1 => ?_)
 simp only [laws_eqLineS.l0]
 by_cases h : i < (x.length : Int)
 ·simp only [if_pos h, if_pos h0, laws_eqLine.f, if_true, Option.bind_some]
 ·simp only [if_neg h]
theorem szLineS (x : List (S60)) (hx : x.length ≤ 140737488351232) (left : Int) (h0 : 0 ≤ left) (h1 : left ≤ 1048576) : laws_szLineS.f x left = some (if left - (x.length : Int) < 0 then -1 else left - (x.length : Int)) := by
 unfold laws_szLineS.f
 rw [sz_eq _ hx _ h0 h1]
 split <;> rfl
end Go.Proofs.Ytnefepgfmmnbpaa.Pure
