/- The code of a table and items, of which each needs a step. -/
import Derived.Test.YtdeipindfhkioaaQ2
import Derived.Test.YtdeipindfhkioaaPureCItems
set_option linter.unusedVariables false
set_option linter.unusedSimpArgs false
namespace Go.Proofs.Ytdeipindfhkioaa.Pure
open Go.RowKit Go.Proofs.Ytdeipindfhkioaa.Q Go.Proofs.YtdeipindfhkioaaMine Go.Proofs.YtdeipindfhkioaaW.PrintWords Go.Proofs.YtdeipindfhkioaaW.PrintMore
def hasStep (st : List Int) (w : Int) : Bool := decide (0 ≤ stepOf st w)
theorem specAlone {st : List Int} {pr : List (List Int)} (h : wfTable st pr) (z : Int) {ws : List Int} (hl : ws.length ≤ 2097152) : Ev (fun k => spec_l03Alone.f k st pr z ws) (if itC st pr z ws = 0 then (if ws.all (hasStep st) = true then 0 else 6) else itC st pr z ws) := by
 unfold spec_l03Alone.f
 refine Ev.bind (specItems h z hl) ?_
 generalize itC st pr z ws = c
 have hbad : ∀ c : Int, c ≠ 0 → ∀ i : Int, Ev (fun k => spec_l03Alone.l0 k ws c i st pr) c := by
  intro c hc i
  refine Ev.step (f := fun k => spec_l03Alone.j1 k ws c i false st pr) (fun k => ?_) (Ev.step (f := fun _ => some c) (fun k => by simp only [spec_l03Alone.j1]; rfl) (Ev.now _))
  simp only [spec_l03Alone.l0]
  rw [show (c == 0) = false by simp [hc]]
  split <;> rfl
 by_cases hc : c = 0
 ·subst hc
  rw [if_pos rfl]
  have hstep : ∀ m, m < ws.length → ∀ r, (hasStep st (ws.getD m 0) = true → Ev (fun k => spec_l03Alone.l0 k ws 0 ((m + 1 : Nat) : Int) st pr) r) → (hasStep st (ws.getD m 0) = false → r = 6) → Ev (fun k => spec_l03Alone.l0 k ws 0 (m : Int) st pr) r := by
   intro m hm r hr hf
   refine Ev.step (f := fun k => spec_l03Alone.j1 k ws 0 (m : Int) true st pr) (fun k => ?_) (Ev.step (f := fun k => (spec_l03Step.f k st pr (ws.getD m 0)).bind fun t => if t < 0 then spec_l03Alone.l0 k ws 6 ((m + 1 : Nat) : Int) st pr else spec_l03Alone.l0 k ws 0 ((m + 1 : Nat) : Int) st pr) (fun k => ?_) (Ev.bind (specStep h _) ?_))
   ·simp only [spec_l03Alone.l0]; rw [if_pos (by omega)]; rfl
   ·simp only [spec_l03Alone.j1]
    rw [if_pos trivial, if_pos (by omega), if_pos (by omega), wrap_sm (i := (m : Int) + 1) (by omega) (by omega)]; rfl
   ·by_cases hs : stepOf st (ws.getD m 0) < 0
    ·have : hasStep st (ws.getD m 0) = false := by unfold hasStep; rw [decide_eq_false (by omega)]
     simp only [if_pos hs]; rw [hf this]; exact hbad 6 (by omega) _
    ·have : hasStep st (ws.getD m 0) = true := by unfold hasStep; rw [decide_eq_true (by omega)]
     simp only [if_neg hs]; exact hr this
  refine all_ev (fun k i => spec_l03Alone.l0 k ws 0 i st pr) ws 0 (hasStep st) 6 0 (fun m hm hq => hstep m hm 6 (fun h => by rw [hq] at h; cases h) (fun _ => rfl)) (fun m hm hq r hr => hstep m hm r (fun _ => hr) (fun h => by rw [hq] at h; cases h)) (fun _ => ?_)
  refine Ev.step (f := fun k => spec_l03Alone.j1 k ws 0 (ws.length : Int) false st pr) (fun k => ?_) (Ev.step (f := fun _ => some 0) (fun k => by simp only [spec_l03Alone.j1]; rfl) (Ev.now _))
  simp only [spec_l03Alone.l0]; rw [if_neg (by omega)]
 ·rw [if_neg hc]; exact hbad c hc 0
end Go.Proofs.Ytdeipindfhkioaa.Pure
