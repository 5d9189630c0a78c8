/- ShiftsBound: the reference and the program. -/
import Derived.Test.YtlifofigkllpgaaQ12
import Derived.Test.YtlifofigkllpgaaPureCWrong
set_option linter.unusedVariables false
set_option linter.unusedSimpArgs false
namespace Go.Proofs.Ytlifofigkllpgaa.Pure
open Go.RowKit Go.Proofs.Ytlifofigkllpgaa.Q Go.Proofs.YtlifofigkllpgaaMine Go.Proofs.YtlifofigkllpgaaW.PrintWords Go.Proofs.YtlifofigkllpgaaW.PrintMore
def bst (k : Int) (_ : Nat) (s : Int × Bool) (n : Int) : Int × Bool := if n = k then (if s.2 = true then wrap64 (s.1 + 2) else s.1, s.2) else (wrap64 (s.1 + 1), true)
theorem wall_bound (l : List (List Int)) : foldi (fun m (s : Int) b => (foldi (bst (m : Int)) 0 b (s, false)).1) 0 l 0 = wrap64 ((wall l).1 + wrap64 (2 * (wall l).2)) := by
  unfold wall
  refine foldi_rel (fun (s : Int) (t : Int × Int) => s = wrap64 (t.1 + wrap64 (2 * t.2))) l 0 _ _ (fun m s t b _ h => ?_) (by unfold wrap64; omega)
  unfold wbag
  refine (foldi_rel (fun (s : Int × Bool) (t : (Int × Int) × Bool) => s.1 = wrap64 (t.1.1 + wrap64 (2 * t.1.2)) ∧ s.2 = t.2) b 0 _ _ (fun j u v n _ h' => ?_) ⟨h, rfl⟩).1
  obtain ⟨h1, h2⟩ := h'
  unfold bst wst
  by_cases e : n = (m : Int)
  · rw [if_pos e, if_pos e, h1, h2]
    refine ⟨?_, rfl⟩
    show (if v.2 = true then wrap64 (wrap64 (v.1.1 + wrap64 (2 * v.1.2)) + 2) else wrap64 (v.1.1 + wrap64 (2 * v.1.2))) = wrap64 (v.1.1 + wrap64 (2 * (if v.2 = true then wrap64 (v.1.2 + 1) else v.1.2)))
    split
    · unfold wrap64; omega
    · rfl
  · rw [if_neg e, if_neg e, h1]
    refine ⟨?_, rfl⟩
    show wrap64 (wrap64 (v.1.1 + wrap64 (2 * v.1.2)) + 1) = wrap64 (wrap64 (v.1.1 + 1) + wrap64 (2 * v.1.2))
    unfold wrap64; omega
def rShiftsBound (l : List (List Int)) : Int × Int := if okBs l = true then (wrap64 ((wall l).1 + wrap64 (2 * (wall l).2)), 0) else (0, 1)
theorem specShiftsBound {l : List (List Int)} (hl : l.length ≤ 2097152) (hy : ∀ y ∈ l, y.length ≤ 2097152) (h : ∀ y ∈ l, ∀ n ∈ y, wfInt64 n) : Ev (fun k => spec_ShiftsBound.f k l) (rShiftsBound l) := by
  unfold spec_ShiftsBound.f rShiftsBound
  refine Ev.bind (specBags hl hy) ?_
  cases okBs l with
  | false => exact Ev.now _
  | true =>
    simp only [if_true]
    rw [← wall_bound]
    refine fold_in (fun k (s : Int) i => spec_ShiftsBound.l0 k l s i) l [] (fun _ _ => True) (fun m (s : Int) b => (foldi (bst (m : Int)) 0 b (s, false)).1) _ (fun m s hm _ => ⟨trivial, fun r hr => ?_⟩) 0 trivial (fun _ => ?_)
    · have hlen := hy _ (get_mem [] hm).1
      refine Ev.step (f := fun k => spec_ShiftsBound.l1 k l s (m : Int) false 0) (fun k => ?_) ?_
      · simp only [spec_ShiftsBound.l0]
        rw [if_pos (by omega)]
      · refine fold_in (fun k (s : Int × Bool) i => spec_ShiftsBound.l1 k l s.1 (m : Int) s.2 i) (l.getD m []) 0 (fun _ _ => True) (bst (m : Int)) r (fun j t hj _ => ⟨trivial, fun r' hr' => ?_⟩) (s, false) trivial (fun _ => ?_)
        · refine Ev.step (f := fun k => spec_ShiftsBound.l1 k l (bst (m : Int) j t ((l.getD m []).getD j 0)).1 (m : Int) (bst (m : Int) j t ((l.getD m []).getD j 0)).2 ((j + 1 : Nat) : Int)) (fun k => ?_) hr'
          simp only [spec_ShiftsBound.l1]
          rw [show rd_L6 l (m : Int) = l.getD m [] from rfl, if_pos (by omega), if_pos (by omega), if_pos (by omega), if_pos (by omega), wrap_sm (i := (j : Int) + 1) (by omega) (by omega), show rd (l.getD m []) (j : Int) = (l.getD m []).getD j 0 from rfl]
          unfold bst
          split
          · cases t.2 <;> rfl
          · rfl
        · refine Ev.step (f := fun k => spec_ShiftsBound.l0 k l (foldi (bst (m : Int)) 0 (l.getD m []) (s, false)).1 ((m + 1 : Nat) : Int)) (fun k => ?_) hr
          simp only [spec_ShiftsBound.l1]
          rw [show rd_L6 l (m : Int) = l.getD m [] from rfl, if_pos (by omega), if_pos (by omega), if_neg (by omega), wrap_sm (i := (m : Int) + 1) (by omega) (by omega)]; rfl
    · refine Ev.step (f := fun _ => some (_, 0)) (fun k => ?_) (Ev.now _)
      simp only [spec_ShiftsBound.l0]; rw [if_neg (by omega)]
theorem implShiftsBound {l : List (List Int)} (hl : l.length ≤ 2097152) (hy : ∀ y ∈ l, y.length ≤ 2097152) (h : ∀ y ∈ l, ∀ n ∈ y, wfInt64 n) : Ev (fun k => impl_ShiftsBound.f k l) (rShiftsBound l) := by
  unfold impl_ShiftsBound.f rShiftsBound
  simp only [implBags hl, Option.bind_some]
  cases okBs l with
  | false => exact Ev.now _
  | true => exact Ev.bind (implWrong hl hy) (Ev.now _)
end Go.Proofs.Ytlifofigkllpgaa.Pure
