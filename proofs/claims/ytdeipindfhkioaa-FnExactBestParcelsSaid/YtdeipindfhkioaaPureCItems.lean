/- The code of a table, a zone and items. -/
import Derived.Test.YtdeipindfhkioaaQ2
import Derived.Test.YtdeipindfhkioaaQ5
import Derived.Test.YtdeipindfhkioaaPureCTable
import Derived.Test.YtdeipindfhkioaaPureToInt64
set_option linter.unusedVariables false
set_option linter.unusedSimpArgs false
namespace Go.Proofs.Ytdeipindfhkioaa.Pure
open Go.RowKit Go.Proofs.Ytdeipindfhkioaa.Q Go.Proofs.YtdeipindfhkioaaMine Go.Proofs.YtdeipindfhkioaaW.PrintWords Go.Proofs.YtdeipindfhkioaaW.PrintMore
def askC (st : List Int) (pr : List (List Int)) (z : Int) (fine : Bool) : Int := if okT st pr = true then (if (inR z 0 ((pr.length : Int) - 1) && fine) = true then 0 else 2) else 1
def itC (st : List Int) (pr : List (List Int)) (z : Int) (ws : List Int) : Int :=
 if askC st pr z (ws.all (fun n => inR n 1 2000)) = 0 then (if (ws.length : Int) ≤ 8 then 0 else 3) else askC st pr z (ws.all (fun n => inR n 1 2000))
theorem specAsked {st : List Int} {pr : List (List Int)} (h : wfTable st pr) (z : Int) (fine : Bool) : Ev (fun k => spec_l03Asked.f k st pr z fine) (askC st pr z fine) := by
 have hp := h.2.1
 unfold spec_l03Asked.f spec_l03Zone.f askC
 refine Ev.bind (specT h) ?_
 simp only [l00In_eq, Option.bind_some, wrap_sm (i := (pr.length : Int) - 1) (by omega) (by omega)]
 cases okT st pr <;> cases inR z 0 ((pr.length : Int) - 1) <;> cases fine <;> exact Ev.now _
theorem specWeights {ws : List Int} (hl : ws.length ≤ 2097152) : Ev (fun k => spec_l03Weights.f k ws) (ws.all (fun n => inR n 1 2000)) := by
 unfold spec_l03Weights.f
 refine Ev.eq (all_all (fun k i => spec_l03Weights.l0 k ws i) ws 0 (by omega) (fun n => inR n 1 2000) false true (fun k i h0 h1 => ?_)) (by cases ws.all (fun n => inR n 1 2000) <;> rfl)
 simp only [spec_l03Weights.l0, spec_l03Weight.f, l00In_eq, Option.bind_some]
 by_cases hi : i < (ws.length : Int)
 ·simp only [if_pos hi, if_pos h0]; rfl
 ·simp only [if_neg hi]
theorem specItems {st : List Int} {pr : List (List Int)} (h : wfTable st pr) (z : Int) {ws : List Int} (hl : ws.length ≤ 2097152) : Ev (fun k => spec_l03Items.f k st pr z ws) (itC st pr z ws) := by
 unfold spec_l03Items.f itC
 refine Ev.bind (specWeights hl) (Ev.bind (specAsked h z _) ?_)
 generalize askC st pr z (ws.all (fun n => inR n 1 2000)) = c
 by_cases hc : c = 0
 ·simp only [if_pos hc]
  by_cases h8 : (ws.length : Int) ≤ 8
  ·rw [if_neg (by omega), if_pos h8, hc]; exact Ev.now _
  ·rw [if_pos (by omega), if_neg h8]; exact Ev.now _
 ·simp only [if_neg hc]; exact Ev.now _
theorem implTableCode {st : List Int} {pr : List (List Int)} (h : wfTable st pr) (z : Int) (ws : List Int) : Ev (fun k => impl_tableCode.f k st pr z ws) (askC st pr z (ws.all (fun n => inR n 1 2000))) := by
 have hp := h.2.1
 unfold impl_tableCode.f impl_unless.f impl_size_int16S.f askC
 refine Ev.bind (implT h) ?_
 simp only [within_eq, areWithin_eq, Option.bind_some, wrap_sm (i := (pr.length : Int) - 1) (by omega) (by omega)]
 cases okT st pr <;> cases inR z 0 ((pr.length : Int) - 1) <;> cases ws.all (fun n => inR n 1 2000) <;> exact Ev.now _
theorem implItems {st : List Int} {pr : List (List Int)} (h : wfTable st pr) (z : Int) (ws : List Int) : Ev (fun k => impl_itemCode.f k st pr z ws) (itC st pr z ws) := by
 unfold impl_itemCode.f impl_unless.f itC
 refine Ev.bind (implTableCode h z ws) ?_
 generalize askC st pr z (ws.all (fun n => inR n 1 2000)) = c
 by_cases hc : c = 0
 ·simp only [if_pos hc]
  by_cases h8 : (ws.length : Int) ≤ 8
  ·rw [if_pos h8, decide_eq_true h8]; exact Ev.now _
  ·rw [if_neg h8, decide_eq_false h8]; exact Ev.now _
 ·simp only [if_neg hc]; exact Ev.now _
theorem itC_ok {st : List Int} {pr : List (List Int)} {z : Int} {ws : List Int} (h : itC st pr z ws = 0) : okT st pr = true ∧ (0 ≤ z ∧ z ≤ (pr.length : Int) - 1) ∧ (∀ w ∈ ws, 1 ≤ w ∧ w ≤ 2000) ∧ ws.length ≤ 8 := by
 unfold itC askC at h
 cases ho : okT st pr with
 | false => rw [ho] at h; simp at h
 | true =>
  rw [ho] at h
  simp only [if_true] at h
  cases hc : (inR z 0 ((pr.length : Int) - 1) && ws.all (fun n => inR n 1 2000)) with
  | false => rw [hc] at h; simp at h
  | true =>
   rw [hc] at h
   rw [Bool.and_eq_true, inR_iff, List.all_eq_true] at hc
   simp only [if_true] at h
   split at h
   ·exact ⟨rfl, hc.1, fun w hw => inR_iff.1 (hc.2 w hw), by omega⟩
   ·simp at h
end Go.Proofs.Ytdeipindfhkioaa.Pure
