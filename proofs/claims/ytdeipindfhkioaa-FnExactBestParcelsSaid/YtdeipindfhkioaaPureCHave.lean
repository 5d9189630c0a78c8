/- The code of items for which there have to be steps, by the program. -/
import Derived.Test.YtdeipindfhkioaaQ5
import Derived.Test.YtdeipindfhkioaaPureCAlone
set_option linter.unusedVariables false
set_option linter.unusedSimpArgs false
namespace Go.Proofs.Ytdeipindfhkioaa.Pure
open Go.RowKit Go.Proofs.Ytdeipindfhkioaa.Q Go.Proofs.YtdeipindfhkioaaMine Go.Proofs.YtdeipindfhkioaaW.PrintWords Go.Proofs.YtdeipindfhkioaaW.PrintMore
theorem implHave {st : List Int} {pr : List (List Int)} (h : wfTable st pr) (ws : List Int) : f5z.f st pr ws = some (ws.all (hasStep st)) := by
 have h1 : ∀ x, f3z.f x st pr = some (!hasStep st x) := by
  intro x
  unfold f3z.f hasStep
  rw [implStep h, Option.bind_some]
  by_cases hs : stepOf st x < 0
  ·rw [decide_eq_true hs, decide_eq_false (by omega)]; rfl
  ·rw [decide_eq_false hs, decide_eq_true (by omega)]; rfl
 unfold f5z.f f4z.f
 rw [anyO_of (q := fun x => !hasStep st x) ws (fun x _ => h1 x), any_not]
 simp
def alC (st : List Int) (pr : List (List Int)) (z : Int) (ws : List Int) : Int := if itC st pr z ws = 0 then (if ws.all (hasStep st) = true then 0 else 6) else itC st pr z ws
theorem implParcelCode {st : List Int} {pr : List (List Int)} (h : wfTable st pr) (z : Int) (ws : List Int) : Ev (fun k => impl_parcelCode.f k st pr z ws) (alC st pr z ws) := by
 unfold impl_parcelCode.f impl_unless.f alC
 refine Ev.bind (implItems h z ws) ?_
 by_cases hc : itC st pr z ws = 0
 ·simp only [if_pos hc, implHave h, Option.bind_some]
  cases ws.all (hasStep st) <;> exact Ev.now _
 ·simp only [if_neg hc]; exact Ev.now _
theorem alC_ok {st : List Int} {pr : List (List Int)} {z : Int} {ws : List Int} (h : alC st pr z ws = 0) : okT st pr = true ∧ (0 ≤ z ∧ z ≤ (pr.length : Int) - 1) ∧ (∀ w ∈ ws, 1 ≤ w ∧ w ≤ 2000) ∧ ws.length ≤ 8 ∧ ∀ w ∈ ws, 0 ≤ stepOf st w := by
 unfold alC at h
 by_cases hc : itC st pr z ws = 0
 ·rw [if_pos hc] at h
  obtain ⟨h1, h2, h3, h4⟩ := itC_ok hc
  cases ha : ws.all (hasStep st) with
  | false => rw [ha] at h; simp at h
  | true => exact ⟨h1, h2, h3, h4, fun w hw => of_decide_eq_true (List.all_eq_true.1 ha w hw)⟩
 ·rw [if_neg hc] at h; exact absurd h hc
end Go.Proofs.Ytdeipindfhkioaa.Pure
