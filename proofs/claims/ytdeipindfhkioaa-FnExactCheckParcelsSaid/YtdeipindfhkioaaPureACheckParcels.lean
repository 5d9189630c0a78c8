/- CheckParcels: the reference and the program. -/
import Derived.Test.YtdeipindfhkioaaQ4
import Derived.Test.YtdeipindfhkioaaQ7
import Derived.Test.YtdeipindfhkioaaPureCItems
set_option linter.unusedVariables false
set_option linter.unusedSimpArgs false
namespace Go.Proofs.Ytdeipindfhkioaa.Pure
open Go.RowKit Go.Proofs.Ytdeipindfhkioaa.Q Go.Proofs.YtdeipindfhkioaaMine Go.Proofs.YtdeipindfhkioaaW.PrintWords Go.Proofs.YtdeipindfhkioaaW.PrintMore
/-- Whether there is a step for a weight. -/
def hasSt (st : List Int) (w : Int) : Bool := decide (0 ≤ stepOf st w)
/-- One item more in its parcel. -/
def wtS (ws : List Int) (m : Nat) (s : List Int) (p : Int) : List Int := s.set p.toNat (wrap64 (s.getD p.toNat 0 + ws.getD m 0))
theorem wtS_len {ws : List Int} {m : Nat} {s : List Int} {p : Int} : (wtS ws m s p).length = s.length := by unfold wtS; rw [List.length_set]
def wts (ws ps : List Int) : List Int := foldi (wtS ws) 0 ps (List.replicate 8 0)
def rCheckParcels (st : List Int) (pr : List (List Int)) (ws ps : List Int) : Bool × Int :=
  if itC st pr 0 ws = 0 then (if (ps.length : Int) = (ws.length : Int) then (if ps.all (fun x => inR x 0 7) = true then ((wts ws ps).all (hasSt st), 0) else (false, 0)) else (false, 0)) else (false, itC st pr 0 ws)
theorem hasSt_low {st : List Int} {pr : List (List Int)} (ho : okT st pr = true) {w : Int} (hw : w ≤ 0) : hasSt st w = true := by
  obtain ⟨⟨h1, _⟩, _, h3, _⟩ := okT_bd ho
  unfold hasSt stepOf
  cases st with
  | nil => simp at h1
  | cons x xs =>
    have := h3 x List.mem_cons_self
    unfold findI
    rw [if_pos (by simp; omega)]; rfl
theorem specLooks {st : List Int} {pr : List (List Int)} (h : wfTable st pr) (ho : okT st pr = true) (s : List Int) (hs : s.length = 8) : Ev (fun k => spec_CheckParcels.l1 k s 0 st pr) (s.all (hasSt st), 0) := by
  refine Ev.eq (all_ev (fun k i => spec_CheckParcels.l1 k s i st pr) s 0 (hasSt st) ((false, 0) : Bool × Int) ((true, 0) : Bool × Int) (fun m hm hq => ?_) (fun m hm hq r hr => ?_) (fun _ => ?_)) ?_
  · have hpos : s.getD m 0 > 0 := by
      by_cases c : s.getD m 0 > 0
      · exact c
      · rw [hasSt_low ho (by omega)] at hq; cases hq
    have hst : stepOf st (s.getD m 0) < 0 := by unfold hasSt at hq; have := of_decide_eq_false hq; omega
    refine Ev.step (f := fun k => (spec_l03Step.f k st pr (s.getD m 0)).bind fun t => (if t < 0 then (some (false, 0)) else (spec_CheckParcels.l1 k s ((m + 1 : Nat) : Int) st pr))) (fun k => ?_) (Ev.bind (specStep h _) ?_)
    · simp only [spec_CheckParcels.l1]
      rw [if_pos (by omega), if_pos (by omega), if_pos (by omega), show rd s (m : Int) = s.getD m 0 from rfl, if_pos hpos, wrap_sm (i := (m : Int) + 1) (by omega) (by omega)]; rfl
    · simp only [if_pos hst]; exact Ev.now _
  · by_cases c : s.getD m 0 > 0
    · have hst : ¬ stepOf st (s.getD m 0) < 0 := by unfold hasSt at hq; have := of_decide_eq_true hq; omega
      refine Ev.step (f := fun k => (spec_l03Step.f k st pr (s.getD m 0)).bind fun t => (if t < 0 then (some (false, 0)) else (spec_CheckParcels.l1 k s ((m + 1 : Nat) : Int) st pr))) (fun k => ?_) (Ev.bind (specStep h _) ?_)
      · simp only [spec_CheckParcels.l1]
        rw [if_pos (by omega), if_pos (by omega), if_pos (by omega), show rd s (m : Int) = s.getD m 0 from rfl, if_pos c, wrap_sm (i := (m : Int) + 1) (by omega) (by omega)]; rfl
      · simp only [if_neg hst]; exact hr
    · refine Ev.step (f := fun k => spec_CheckParcels.l1 k s ((m + 1 : Nat) : Int) st pr) (fun k => ?_) hr
      simp only [spec_CheckParcels.l1]
      rw [if_pos (by omega), if_pos (by omega), if_pos (by omega), show rd s (m : Int) = s.getD m 0 from rfl, if_neg c, wrap_sm (i := (m : Int) + 1) (by omega) (by omega)]; rfl
  · refine Ev.step (f := fun _ => some (true, 0)) (fun k => ?_) (Ev.now _)
    simp only [spec_CheckParcels.l1]; rw [if_neg (by omega)]
  · cases s.all (hasSt st) <;> rfl
theorem specCheckParcels {st : List Int} {pr : List (List Int)} (h : wfTable st pr) {ws ps : List Int} (hl : ws.length ≤ 2097152) (hw : ∀ w ∈ ws, wfInt64 w) (hl2 : ps.length ≤ 2097152) (hw2 : ∀ w ∈ ps, wfInt64 w) : Ev (fun k => spec_CheckParcels.f k st pr ws ps) (rCheckParcels st pr ws ps) := by
  unfold spec_CheckParcels.f rCheckParcels
  refine Ev.bind (specItems h 0 hl) ?_
  by_cases hc : itC st pr 0 ws = 0
  · simp only [if_pos hc]
    obtain ⟨ho, _, _, _⟩ := itC_ok hc
    by_cases he : (ps.length : Int) = (ws.length : Int)
    · simp only [if_pos he, if_pos (show 8 ≤ 35184372088832 by omega)]
      suffices hh : ∀ (d m : Nat), m + d = ps.length → ∀ s : List Int, s.length = 8 → Ev (fun k => spec_CheckParcels.l0 k ws ps s (m : Int) st pr) (if (ps.drop m).all (fun x => inR x 0 7) = true then ((foldi (wtS ws) m (ps.drop m) s).all (hasSt st), 0) else (false, 0)) from hh ps.length 0 (by omega) _ (by simp)
      intro d
      induction d with
      | zero =>
        intro m hm s hs
        rw [List.drop_eq_nil_of_le (by omega)]
        refine Ev.step (f := fun k => spec_CheckParcels.l1 k s 0 st pr) (fun k => ?_) (specLooks h ho s hs)
        simp only [spec_CheckParcels.l0]; rw [if_neg (by omega)]
      | succ d ih =>
        intro m hm s hs
        rw [drop_step (0 : Int) (show m < ps.length by omega), List.all_cons]
        generalize hp : ps.getD m 0 = p
        have hrd : rd ps (m : Int) = p := hp
        cases hq : inR p 0 7 with
        | false =>
          refine Ev.step (f := fun _ => some (false, 0)) (fun k => ?_) (Ev.eq (Ev.now _) (by simp))
          simp only [spec_CheckParcels.l0]
          rw [if_pos (by omega), if_pos (by omega), hrd, l00In_eq, hq]; rfl
        | true =>
          obtain ⟨h0, h7⟩ := inR_iff.1 hq
          refine Ev.step (f := fun k => spec_CheckParcels.l0 k ws ps (wtS ws m s p) ((m + 1 : Nat) : Int) st pr) (fun k => ?_) (Ev.eq (ih (m + 1) (by omega) _ (by rw [wtS_len]; exact hs)) (by simp [foldi]))
          simp only [spec_CheckParcels.l0]
          rw [if_pos (by omega), if_pos (by omega), hrd, l00In_eq, hq]
          simp only [Option.bind_some, if_true]
          rw [if_pos h0, if_pos (by omega), if_pos (by omega), wrap_sm (i := (m : Int) + 1) (by omega) (by omega)]; rfl
    · simp only [if_neg he]; exact Ev.now _
  · simp only [if_neg hc]; exact Ev.now _
theorem implCheckParcels {st : List Int} {pr : List (List Int)} (h : wfTable st pr) {ws ps : List Int} (hl : ws.length ≤ 2097152) (hw : ∀ w ∈ ws, wfInt64 w) (hl2 : ps.length ≤ 2097152) (hw2 : ∀ w ∈ ps, wfInt64 w) : Ev (fun k => impl_CheckParcels.f k st pr ws ps) (rCheckParcels st pr ws ps) := by
  unfold impl_CheckParcels.f rCheckParcels
  refine Ev.bind (implItems h 0 ws) ?_
  by_cases hc : itC st pr 0 ws = 0
  · simp only [if_pos hc]
    by_cases he : (ps.length : Int) = (ws.length : Int)
    · simp only [if_pos he, areWithin_eq, Option.bind_some]
      by_cases ha : ps.all (fun x => inR x 0 7) = true
      · rw [ha]
        simp only [if_true, Bool.not_true]
        refine Ev.step (f := fun k => (impl_weights.f k ws ps).bind fun t232 => ((impl_Table_haveSteps.f st pr t232).bind fun t235 => (some (t235, 0)))) (fun k => by simp only [impl_CheckParcels.j0]; rfl) (Ev.bind (a := wts ws ps) ?_ ?_)
        · unfold impl_weights.f wts
          simp only [if_pos (show 8 ≤ 35184372088832 by omega)]
          refine fold_in (fun k (s : List Int) i => impl_weights.l0 k ws s ps (ps.length : Int) i) ps 0 (fun _ s => s.length = 8) (wtS ws) _ (fun m s hm hs => ⟨by rw [wtS_len]; exact hs, fun r hr => ?_⟩) (List.replicate 8 0) (by simp) (fun _ => ?_)
          · have hmem := (get_mem (0 : Int) hm).1
            have hp := inR_iff.1 (List.all_eq_true.1 ha _ hmem)
            refine Ev.step (f := fun k => impl_weights.l0 k ws (wtS ws m s (ps.getD m 0)) ps (ps.length : Int) ((m + 1 : Nat) : Int)) (fun k => ?_) hr
            simp only [impl_weights.l0]
            rw [if_pos (by omega), if_pos (by omega), if_pos (by omega), show rd ps (m : Int) = ps.getD m 0 from rfl, if_pos hp.1, if_pos (by omega), if_pos (by omega), wrap_sm (i := (m : Int) + 1) (by omega) (by omega)]; rfl
          · refine Ev.step (f := fun _ => some (foldi (wtS ws) 0 ps (List.replicate 8 0))) (fun k => ?_) (Ev.now _)
            simp only [impl_weights.l0]; rw [if_neg (by omega)]
        · refine Ev.val (fun k => ?_)
          unfold impl_Table_haveSteps.f slices_ContainsFunc_int64_at_impl_Table_haveSteps_1.f
          rw [anyO_of (q := fun w => !hasSt st w) _ (fun x _ => ?_), any_not]
          · simp
          · unfold impl_Table_haveSteps_1.f
            rw [implStep h, Option.bind_some]
            unfold hasSt
            by_cases c : stepOf st x < 0
            · rw [decide_eq_true c, decide_eq_false (by omega)]; rfl
            · rw [decide_eq_false c, decide_eq_true (by omega)]; rfl
      · rw [Bool.eq_false_iff.2 ha]
        simp only [Bool.not_false, Bool.false_eq_true, if_false]
        exact Ev.step (f := fun _ => some (false, 0)) (fun k => by simp only [impl_CheckParcels.j0, if_true]) (Ev.now _)
    · simp only [if_neg he]
      exact Ev.step (f := fun _ => some (false, 0)) (fun k => by simp only [impl_CheckParcels.j0, if_true]) (Ev.now _)
  · simp only [if_neg hc]; exact Ev.now _
end Go.Proofs.Ytdeipindfhkioaa.Pure
