/- Rounding: the reference and the program come to the same. -/
import Derived.Test.YtnefepgfmmnbpaaQ2
import Derived.Test.YtnefepgfmmnbpaaQ4
import Derived.Test.YtnefepgfmmnbpaaPure0
set_option linter.unusedVariables false
set_option linter.unusedSimpArgs false
namespace Go.Proofs.Ytnefepgfmmnbpaa.Pure
open Go.RowKit Go.Proofs.Ytnefepgfmmnbpaa.Q Go.Proofs.YtnefepgfmmnbpaaMine Go.Proofs.YtnefepgfmmnbpaaW.PrintWords Go.Proofs.YtnefepgfmmnbpaaW.PrintMore
/-- p over d, rounded. -/
def rsh (p d how : Int) : Int :=
 if how = 1 then (if p % d > 0 then p / d + 1 else p / d) else if how = 2 then (if 2 * (p % d) ≥ d then p / d + 1 else p / d)
 else if how = 3 then (if 2 * (p % d) > d then p / d + 1 else if 2 * (p % d) = d then (if (p / d) % 2 = 1 then p / d + 1 else p / d) else p / d) else p / d
structure RB (a n d : Int) : Prop where
 h : (0 ≤ a * n ∧ a * n ≤ 1000000000000) ∧ 1 ≤ d ∧ d ≤ 1000
theorem RB.mk' {a n d : Int} (ha : 0 ≤ a) (ha' : a ≤ 1000000000) (hn : 0 ≤ n) (hn' : n ≤ 1000) (hd : 1 ≤ d) (hd' : d ≤ 1000) : RB a n d := by
 refine ⟨⟨Int.mul_nonneg ha hn, ?_⟩, hd, hd'⟩
 have h1 : a * n ≤ a * 1000 := Int.mul_le_mul_of_nonneg_left hn' ha
 omega
theorem div_bd {p d : Int} (h0 : 0 ≤ p) (hp : p ≤ 1000000000000) (h1 : 1 ≤ d) : 0 ≤ p / d ∧ p / d ≤ 1000000000000 ∧ 0 ≤ p % d ∧ p % d < d := by
 refine ⟨Int.ediv_nonneg h0 (by omega), ?_, Int.emod_nonneg _ (by omega), Int.emod_lt_of_pos _ (by omega)⟩
 have := Int.ediv_le_self d h0
 omega
theorem tdiv_eq {p d : Int} (h0 : 0 ≤ p) : Int.tdiv p d = p / d := Int.tdiv_eq_ediv_of_nonneg h0
theorem tmod_eq {p d : Int} (h0 : 0 ≤ p) : Int.tmod p d = p % d := Int.tmod_eq_emod_of_nonneg h0
theorem specRound {a n d how : Int} (hb : RB a n d) : spec_l05Round.f a n d how = some (rsh (a * n) d how) := by
 obtain ⟨⟨⟨p0, p1⟩, d0, d1⟩⟩ := hb
 unfold spec_l05Round.f rsh
 generalize a * n = p at *
 obtain ⟨q0, q1, r0, r1⟩ := div_bd p0 p1 d0
 rw [wrap_id (i := p) (by omega) (by omega), tdiv_eq p0, tmod_eq p0]
 have hq : wrap64 (p / d) = p / d := wrap_id (by omega) (by omega)
 rw [hq, tmod_eq q0]
 have hq1 : wrap64 (p / d + 1) = p / d + 1 := wrap_id (by omega) (by omega)
 have hr : wrap64 (2 * (p % d)) = 2 * (p % d) := wrap_id (by omega) (by omega)
 rw [hq1, hr, if_neg (by omega)]
 split
 ·split <;> rfl
 ·split
  ·split <;> rfl
  ·split
   ·split
    ·rfl
    ·split
     ·split <;> rfl
     ·rfl
   ·rfl
theorem rsh_bd {p d how : Int} (p0 : 0 ≤ p) (p1 : p ≤ 1000000000000) (d0 : 1 ≤ d) : 0 ≤ rsh p d how ∧ rsh p d how ≤ 1000000000001 := by
 obtain ⟨q0, q1, r0, r1⟩ := div_bd p0 p1 d0
 unfold rsh
 repeat' split
 all_goals omega
theorem implRound {a n d how : Int} (hb : RB a n d) (h0 : 0 ≤ how) (h3 : how ≤ 3) : Ev (fun k => impl_rounded.f k a n d how) (rsh (a * n) d how) := by
 obtain ⟨⟨⟨p0, p1⟩, d0, d1⟩⟩ := hb
 unfold impl_rounded.f rsh
 generalize a * n = p at *
 obtain ⟨q0, q1, r0, r1⟩ := div_bd p0 p1 d0
 rw [wrap_id (i := p) (by omega) (by omega), tdiv_eq p0, tmod_eq p0]
 have hq : wrap64 (p / d) = p / d := wrap_id (by omega) (by omega)
 have hq1 : wrap64 (p / d + 1) = p / d + 1 := wrap_id (by omega) (by omega)
 have hr : wrap64 (2 * (p % d)) = 2 * (p % d) := wrap_id (by omega) (by omega)
 simp only [hq, if_neg (show ¬ d = 0 by omega)]
 have hj1 : ∀ k b, impl_rounded.j1 (k + 1) d how (p / d) (p % d) b = some (if b = true then p / d + 1 else if 2 * (p % d) = d then (if how = 2 then p / d + 1 else if (p / d) % 2 = 1 then p / d + 1 else p / d) else p / d) := by
  intro k b
  simp only [impl_rounded.j1, hq1, hr, tmod_eq q0]
  repeat' split
  all_goals first | rfl | omega
 by_cases hz : p % d = 0
 ·simp only [if_pos hz]
  refine Ev.step (f := fun _ => some (p / d)) (fun k => by simp [impl_rounded.j0]) (Ev.eq (Ev.now _) ?_)
  rw [hz]
  repeat' split
  all_goals first | rfl | omega
 ·simp only [if_neg hz]
  by_cases e0 : how = 0
  ·subst e0
   refine Ev.step (f := fun _ => some (p / d)) (fun k => by simp [impl_rounded.j0]) (Ev.eq (Ev.now _) ?_)
   simp
  ·by_cases e1 : how = 1
   ·subst e1
    refine Ev.step (f := fun k => impl_rounded.j1 k d 1 (p / d) (p % d) true) (fun k => by simp [impl_rounded.j0]) ?_
    refine Ev.step (f := fun _ => some (p / d + 1)) (fun k => by rw [hj1]; simp) (Ev.eq (Ev.now _) ?_)
    rw [if_pos rfl, if_pos (by omega)]
   ·refine Ev.step (f := fun k => impl_rounded.j1 k d how (p / d) (p % d) (decide (2 * (p % d) > d))) (fun k => by simp [impl_rounded.j0, hr, e0, e1]) ?_
    refine Ev.step (f := fun _ => some _) (fun k => hj1 k _) (Ev.eq (Ev.now _) ?_)
    have h23 : how = 2 ∨ how = 3 := by omega
    rcases h23 with rfl | rfl
    ·by_cases c : 2 * (p % d) > d
     ·simp [c]; omega
     ·by_cases c' : 2 * (p % d) = d
      ·simp [c']
      ·simp [c, c']; omega
    ·by_cases c : 2 * (p % d) > d
     ·simp [c]
     ·by_cases c' : 2 * (p % d) = d
      ·simp [c']
      ·simp [c, c']
end Go.Proofs.Ytnefepgfmmnbpaa.Pure
