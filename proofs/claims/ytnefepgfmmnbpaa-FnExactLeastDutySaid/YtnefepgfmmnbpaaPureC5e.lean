/- A form's duty with an allowance, by the reference and by the program. -/
import Derived.Test.YtnefepgfmmnbpaaQ2
import Derived.Test.YtnefepgfmmnbpaaQ4
import Derived.Test.YtnefepgfmmnbpaaPureC5y
import Derived.Test.YtnefepgfmmnbpaaPureC5v
import Derived.Test.YtnefepgfmmnbpaaPureC5w
set_option linter.unusedVariables false
set_option linter.unusedSimpArgs false
namespace Go.Proofs.Ytnefepgfmmnbpaa.Pure
open Go.RowKit Go.Proofs.Ytnefepgfmmnbpaa.Q Go.Proofs.YtnefepgfmmnbpaaMine Go.Proofs.YtnefepgfmmnbpaaW.PrintWords Go.Proofs.YtnefepgfmmnbpaaW.PrintMore
section
variable {l : List (S56)} {m : List (S54)}
theorem specFree (hm : m.length ≤ 2097152) (q1 : ∀ c ∈ l, okC c = true) (q2 : ∀ x ∈ m, okL (l.length : Int) x = true) (a how : Int) : Ev (fun k => spec_l05Free.f k l m a how) (if wor m ≤ a then 0 else dty l m how) := by
 unfold spec_l05Free.f
 refine Ev.bind (specWor hm) ?_
 by_cases h : wor m ≤ a
 ·simp only [if_pos h]; exact Ev.now _
 ·simp only [if_neg h]; exact Ev.bind (specDty hm q1 q2 how) (Ev.now _)
theorem implFree (hm : m.length ≤ 2097152) (q1 : ∀ c ∈ l, okC c = true) (q2 : ∀ x ∈ m, okL (l.length : Int) x = true) (a : Int) {how : Int} (w0 : 0 ≤ how) (w3 : how ≤ 3) : Ev (fun k => impl_allowed.f k l m a how) (if wor m ≤ a then 0 else dty l m how) := by
 unfold impl_allowed.f
 refine Ev.bind (implWor hm) ?_
 by_cases h : wor m ≤ a
 ·simp only [if_pos h]; exact Ev.now _
 ·simp only [if_neg h]; exact Ev.bind (implDty hm q1 q2 w0 w3) (Ev.now _)
/-- What a form costs. -/
def fre (l : List (S56)) (m : List (S54)) (a how : Int) : Int := if wor m ≤ a then 0 else dty l m how
theorem dty_bd (q1 : ∀ c ∈ l, okC c = true) (q2 : ∀ x ∈ m, okL (l.length : Int) x = true) (hm : m.length ≤ 10) (how : Int) : 0 ≤ dty l m how ∧ dty l m how ≤ 20000000000000 := by
 have : ∀ (m : List (S54)) (s : Int), (∀ x ∈ m, okL (l.length : Int) x = true) → m.length ≤ 10 → 0 ≤ s → s ≤ 2000000000000 * (10 - (m.length : Int)) → 0 ≤ m.foldl (fun s x => wrap64 (s + chg (l.getD x.f0.toNat z56) x.f2 x.f3 how)) s ∧ m.foldl (fun s x => wrap64 (s + chg (l.getD x.f0.toNat z56) x.f2 x.f3 how)) s ≤ 20000000000000 := by
  intro m
  induction m with
  | nil => intro s _ _ h0 h1; simp only [List.foldl_nil, List.length_nil] at *; omega
  | cons x m ih =>
   intro s h hl h0 h1
   obtain ⟨⟨a1, a2⟩, _, c1, d1⟩ := okL_bd (h x (by simp))
   have hc := (get_mem z56 (show x.f0.toNat < l.length by omega)).1
   have hb := chg_bd (q1 _ hc) (how := how) c1.1 (show x.f2 ≤ 1000000000 by omega) d1.1 (show x.f3 ≤ 1000000000 by omega)
   simp only [List.length_cons] at hl h1
   rw [List.foldl_cons, wrap_sm (by omega) (by omega)]
   exact ih _ (fun y hy => h y (by simp [hy])) (by omega) (by omega) (by omega)
 exact this m 0 q2 hm (by omega) (by omega)
theorem fre_bd (q1 : ∀ c ∈ l, okC c = true) (q2 : ∀ x ∈ m, okL (l.length : Int) x = true) (hm : m.length ≤ 10) (a how : Int) : 0 ≤ fre l m a how ∧ fre l m a how ≤ 20000000000000 := by
 unfold fre
 split
 ·omega
 ·exact dty_bd q1 q2 hm how
end
end Go.Proofs.Ytnefepgfmmnbpaa.Pure
