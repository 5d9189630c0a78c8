/- LeastDuty returns what the reference returns, for all arguments. -/
import Derived.Test.YtnefepgfmmnbpaaQ5
import Derived.Test.YtnefepgfmmnbpaaPureCPrt
import Derived.Test.YtnefepgfmmnbpaaPureC5s
import Derived.Test.YtnefepgfmmnbpaaPureC5g
import Derived.Test.YtnefepgfmmnbpaaPureC5m
import Derived.Test.YtnefepgfmmnbpaaPureToClass
import Derived.Test.YtnefepgfmmnbpaaPureToLine
import Derived.Test.YtnefepgfmmnbpaaPureMksClass
import Derived.Test.YtnefepgfmmnbpaaPureMksLine
import Derived.Test.YtnefepgfmmnbpaaPureEqInt64
import Derived.Test.YtnefepgfmmnbpaaPureMkInt64
set_option linter.unusedVariables false
set_option linter.unusedSimpArgs false
namespace Go.Proofs.Ytnefepgfmmnbpaa.Pure
open Go.RowKit Go.Proofs.Ytnefepgfmmnbpaa.Q Go.Proofs.YtnefepgfmmnbpaaMine Go.Proofs.YtnefepgfmmnbpaaW.PrintWords Go.Proofs.YtnefepgfmmnbpaaW.PrintMore
section
variable {l : List (S56)} {m : List (S54)}
/-- The best list and its cost. -/
def bestS (l : List (S56)) (m : List (S54)) (a how : Int) : List Int × Int × Bool := srch (updS (fun xs n => (cst l m a how xs n.toNat, true))) m.length [] 0 ([], 0, false)
def rLeast (l : List (S56)) (m : List (S54)) (a how : Int) : List Int × Int × Int :=
 if okF l m = true then (if (inR how 0 3 && inR a 0 1000000) = true then (if (m.length : Int) > 7 then ([], 0, 3) else ((bestS l m a how).1, (bestS l m a how).2.1, 0)) else ([], 0, 2)) else ([], 0, 1)
theorem best_rel (q1 : ∀ c ∈ l, okC c = true) (q2 : ∀ x ∈ m, okL (l.length : Int) x = true) (hm : m.length ≤ 7) (a how : Int) :
  srch (updI (fun xs n => cst l m a how xs n.toNat)) m.length [] 0 ([], -1) = ((bestS l m a how).1, (bestS l m a how).2.1) := by
 have hr := srch_rel (u := updS (fun xs n => (cst l m a how xs n.toNat, true))) (v := updI (fun xs n => cst l m a how xs n.toNat)) m.length
  (fun s t => (s = ([], 0, false) ∧ t = ([], -1)) ∨ (s.2.2 = true ∧ t = (s.1, s.2.1) ∧ 0 ≤ s.2.1)) (fun s t xs n hR hx hn => ?_) m.length [] 0 ([], 0, false) ([], -1) (by simp) (by simp) (.inl ⟨rfl, rfl⟩)
 ·have he := srch_end (u := updS (fun xs n => (cst l m a how xs n.toNat, true))) (fun s => s.2.2 = true) (fun s xs n => ?_) m.length [] 0 ([], 0, false)
  ·rcases hr with ⟨h1, _⟩ | ⟨_, h2, _⟩
   ·rw [h1] at he; cases he
   ·exact h2
  ·unfold updS
   simp only [if_true]
   by_cases c : s.2.2 = true
   ·rw [if_pos c]; split
    ·rfl
    ·exact c
   ·rw [if_neg c]
 ·have hb := cst_bd q1 q2 (show m.length ≤ 10 by omega) a how (xs := xs) (by omega) n (by omega)
  unfold updS updI
  simp only [if_true, Int.toNat_natCast]
  rcases hR with ⟨rfl, rfl⟩ | ⟨h1, rfl, h3⟩
  ·right
   simp only [Bool.false_eq_true, if_false, if_pos (show (-1 : Int) < 0 by omega)]
   refine ⟨?_, ?_, hb.1⟩ <;> first | rfl | trivial
  ·right
   rw [if_pos h1]
   simp only [if_neg (show ¬ s.2.1 < 0 by omega)]
   by_cases c : cst l m a how xs n < s.2.1
   ·simp only [if_pos c]; refine ⟨?_, ?_, hb.1⟩ <;> first | rfl | trivial
   ·simp only [if_neg c]; refine ⟨h1, ?_, h3⟩; first | rfl | trivial
theorem specBest (q1 : ∀ c ∈ l, okC c = true) (q2 : ∀ x ∈ m, okL (l.length : Int) x = true) (hm : m.length ≤ 7) (a : Int) {how : Int} (w0 : 0 ≤ how) : Ev (fun k => f2z.f k l m a how) (bestS l m a how) := by
 unfold f2z.f bestS
 exact Ev2.diag (from_all (n := m.length) (by omega) rfl (fun s xs n hx hn => specCst q1 q2 a w0 s (by omega) (by omega) n (by omega)) m.length [] 0 ([], 0, false) (by simp) (by simp))
theorem implBest (q1 : ∀ c ∈ l, okC c = true) (q2 : ∀ x ∈ m, okL (l.length : Int) x = true) (hm : m.length ≤ 7) (a : Int) {how : Int} (w0 : 0 ≤ how) (w3 : how ≤ 3) : Ev (fun k => impl_LeastDuty.go k l m a how (-1)) ((bestS l m a how).1, (bestS l m a how).2.1) := by
 unfold impl_LeastDuty.go
 have h := Ev2.diag (grouped_all (may := fun x y => impl_LeastDuty_1.f x y) (fun _ _ => rfl) (each := fun k => impl_LeastDuty.each k l m a how) (n := m.length) (by omega) (fun s xs n hx hn => implCst q1 q2 a w0 w3 s (by omega) (by omega) n (by omega)) m.length [] 0 ([], -1) (by simp) (by simp))
 refine Ev.bind h ?_
 rw [best_rel q1 q2 hm]
 exact Ev.now _
theorem specLeastDuty (hl : l.length ≤ 2097152) (hc : ∀ x ∈ l, wfClass x) (hm : m.length ≤ 2097152) (hf : ∀ x ∈ m, wfLine x) (a how : Int) : Ev (fun k => spec_LeastDuty.f k l m a how) (rLeast l m a how) := by
 have key : ∀ b : Bool, (b = true → b = (inR how 0 3 && inR a 0 1000000)) → (b = false → (inR how 0 3 && inR a 0 1000000) = false) → Ev (fun k => (spec_l05Asked.f k l m b).bind fun t => spec_LeastDuty.j0 k l m a how t) (rLeast l m a how) := by
  intro b hb1 hb2
  refine Ev.bind (specAsked hl hc hm hf b) ?_
  unfold rLeast
  cases ho : okF l m with
  | false =>
   simp only [Bool.false_eq_true, if_false]
   refine Ev.step (f := fun k => spec_LeastDuty.j1 k l m a how 1 false) (fun k => by simp only [spec_LeastDuty.j0]; rw [if_neg (by omega)]) ?_
   refine Ev.step (f := fun _ => some (([] : List Int), (0 : Int), (1 : Int))) (fun k => by simp only [spec_LeastDuty.j1]; rw [if_neg (by simp), if_neg (by omega)]) (Ev.now _)
  | true =>
   obtain ⟨_, q1, hm10, q2⟩ := okF_bd ho
   simp only [if_true]
   cases hb : b with
   | false =>
    rw [hb2 hb]
    simp only [Bool.false_eq_true, if_false]
    refine Ev.step (f := fun k => spec_LeastDuty.j1 k l m a how 2 false) (fun k => by simp only [spec_LeastDuty.j0]; rw [if_neg (by omega)]) ?_
    refine Ev.step (f := fun _ => some (([] : List Int), (0 : Int), (2 : Int))) (fun k => by simp only [spec_LeastDuty.j1]; rw [if_neg (by simp), if_neg (by omega)]) (Ev.now _)
   | true =>
    have hb' := hb1 hb
    rw [hb] at hb'
    rw [← hb']
    have hh := hb'.symm
    rw [Bool.and_eq_true] at hh
    obtain ⟨w0, _⟩ := inR_iff.1 hh.1
    simp only [if_true]
    refine Ev.step (f := fun k => spec_LeastDuty.j1 k l m a how 0 (decide ((m.length : Int) > 7))) (fun k => by simp only [spec_LeastDuty.j0]; first | rw [if_pos rfl] | rw [if_pos trivial]) ?_
    by_cases h7 : (m.length : Int) > 7
    ·rw [if_pos h7, decide_eq_true h7]
     refine Ev.step (f := fun _ => some (([] : List Int), (0 : Int), (3 : Int))) (fun k => by simp only [spec_LeastDuty.j1]; rw [if_pos (by trivial), if_neg (by decide)]) (Ev.now _)
    ·rw [if_neg h7, decide_eq_false h7]
     refine Ev.step (f := fun k => (f2z.f k l m a how).bind fun bt => some (bt.1, bt.2.1, (0 : Int))) (fun k => by simp only [spec_LeastDuty.j1]; rw [if_neg (by simp), if_pos (by trivial)]) ?_
     exact Ev.bind (specBest q1 q2 (by omega) a w0) (Ev.now _)
 unfold spec_LeastDuty.f
 simp only [l05How_eq, decl_eq, Option.bind_some]
 cases ha : inR a 0 1000000 with
 | false =>
  simp only [Bool.false_eq_true, if_false]
  exact key false (fun h => by cases h) (fun _ => by rw [ha, Bool.and_false])
 | true =>
  simp only [if_true]
  exact key (inR how 0 3) (fun _ => by rw [ha, Bool.and_true]) (fun h => by rw [h, Bool.false_and])
theorem implLeastDuty (hl : l.length ≤ 2097152) (hc : ∀ x ∈ l, wfClass x) (hm : m.length ≤ 2097152) (hf : ∀ x ∈ m, wfLine x) (a how : Int) : Ev (fun k => impl_LeastDuty.f k l m a how) (rLeast l m a how) := by
 unfold impl_LeastDuty.f rLeast
 simp only [implAllowCode hl hc hm hf, Option.bind_some]
 cases ho : okF l m with
 | false =>
  simp only [Bool.false_eq_true, if_false]
  exact Ev.val (fun k => by rw [if_neg (by omega)])
 | true =>
  obtain ⟨_, q1, _, q2⟩ := okF_bd ho
  simp only [if_true]
  cases hh : (inR how 0 3 && inR a 0 1000000) with
  | false => simp only [Bool.false_eq_true, if_false]; exact Ev.val (fun k => by rw [if_neg (by omega)])
  | true =>
   simp only [if_true]
   rw [Bool.and_eq_true] at hh
   obtain ⟨w0, w3⟩ := inR_iff.1 hh.1
   by_cases h7 : (m.length : Int) > 7
   ·simp only [if_pos h7]; exact Ev.now _
   ·simp only [if_neg h7]; exact Ev.bind (implBest q1 q2 (by omega) a w0 w3) (Ev.now _)
/-- The best list is as long as the form. -/
theorem bestS_len (a how : Int) : (bestS l m a how).1.length ≤ m.length := by
 have := srch_rel (u := updS (fun xs n => (cst l m a how xs n.toNat, true))) (v := fun (_ : Unit) _ _ => ()) m.length (fun s _ => s.1.length ≤ m.length) (fun s t xs n hR hx hn => by
  unfold updS
  simp only [if_true]
  split
  ·split
   ·show xs.length ≤ m.length; omega
   ·exact hR
  ·show xs.length ≤ m.length; omega) m.length [] 0 ([], 0, false) () (by simp) (by simp) (by simp)
 exact this
theorem rLeast_len (hm : m.length ≤ 2097152) (a how : Int) : (rLeast l m a how).1.length ≤ 2097152 := by
 unfold rLeast
 have := bestS_len (l := l) (m := m) a how
 split
 ·split
  ·split
   ·simp
   ·show (bestS l m a how).1.length ≤ 2097152; omega
  ·simp
 ·simp
end
theorem LeastDuty : laws_FnExactLeastDuty.Pure := by
 intro l0 l1 a2 a3 ⟨_, hb0, hw0⟩ ⟨_, hb1, hw1⟩ h2 h3
 apply Ev.rounds
 unfold laws_FnExactLeastDuty.f
 simp only [szClassS l0 (by omega) (1048576) (by omega) (by omega), Option.bind_some]
 by_cases g0 : (1048576 : Int) - (l0.length : Int) < 0
 ·simp only [if_pos g0, if_pos (show (-1 : Int) < 0 by omega)]; exact Ev.now _
 simp only [if_neg g0]
 simp only [szLineS l1 (by omega) ((1048576 : Int) - (l0.length : Int)) (by omega) (by omega), Option.bind_some]
 by_cases g1 : ((1048576 : Int) - (l0.length : Int) : Int) - (l1.length : Int) < 0
 ·simp only [if_pos g1, if_pos (show (-1 : Int) < 0 by omega)]; exact Ev.now _
 simp only [if_neg g1]
 have hl0 : (l0.map cvClass).length ≤ 2097152 := by rw [List.length_map]; omega
 have hc0 := wfsClass (l := l0) hw0
 have hl1 : (l1.map cvLine).length ≤ 2097152 := by rw [List.length_map]; omega
 have hc1 := wfsLine (l := l1) hw1
 have hS := specLeastDuty hl0 hc0 hl1 hc1 a2 a3
 have hI := implLeastDuty hl0 hc0 hl1 hc1 a2 a3
 have hT := rLeast_len (l := l0.map cvClass) hl1 a2 a3
 generalize rLeast (l0.map cvClass) (l1.map cvLine) a2 a3 = R at hS hI hT
 have hm := markClassSx (l0.map cvClass) hl0
 obtain ⟨r, y, hm2, hr⟩ := markLineAny (l1.map cvLine) hl1 (1 + 4 * ((l0.map cvClass).length : Int)) (by omega) (by omega)
 have hM := markInt64S R.1 hT
 have hH := heldInt64S R.1.length hT
 have hn : ¬ (1 + (R.1.length : Int)) < 0 := by omega
 have hrn : ¬ r < 0 := by omega
 have hE := eqInt64S R.1 hT
 repeat (first | exact Ev.now _ | (with_reducible refine Ev.bind hS ?_) | (with_reducible refine Ev.bind hI ?_) | (with_reducible refine Ev.bind hM ?_) | (with_reducible refine Ev.bind hH ?_) | (with_reducible refine Ev.bind hm ?_) | (with_reducible refine Ev.bind hm2 ?_) | (with_reducible refine Ev.bind hE ?_) | (with_reducible refine Ev.bind (toClassS l0 (by omega)) ?_) | (with_reducible refine Ev.bind (toLineS l1 (by omega)) ?_) | (with_reducible refine Ev.bind (eqClassS _ hl0) ?_) | (with_reducible refine Ev.bind (eqLineS _ hl1) ?_) | simp only [if_true, eq_self_iff_true, bne_self_eq_false, Bool.false_eq_true, if_false, Option.bind_some, if_neg hn, if_neg hrn] | (show Ev (fun n => laws_FnExactLeastDuty.j0 n _ _ _ _ _ _ _ _ _ _ _ _ _) _; refine Ev.step (fun k => by simp only [laws_FnExactLeastDuty.j0]; rfl) ?_) | (show Ev (fun n => laws_FnExactLeastDuty.j1 n _ _ _ _ _ _ _ _ _) _; refine Ev.step (fun k => by simp only [laws_FnExactLeastDuty.j1]; rfl) ?_) | (show Ev (fun n => laws_FnExactLeastDuty.j2 n _ _ _) _; refine Ev.step (fun k => by simp only [laws_FnExactLeastDuty.j2]; rfl) ?_))
end Go.Proofs.Ytnefepgfmmnbpaa.Pure
