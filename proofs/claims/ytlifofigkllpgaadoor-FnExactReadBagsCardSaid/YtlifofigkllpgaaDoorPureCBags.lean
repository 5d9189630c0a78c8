/- When bags are valid, by the reference and by the program. -/
import Derived.Test.YtlifofigkllpgaaDoorQ1
import Derived.Test.YtlifofigkllpgaaDoorQ2
import Derived.Test.YtlifofigkllpgaaDoorPureC50
import Derived.Test.YtlifofigkllpgaaDoorPureB0
set_option linter.unusedVariables false
set_option linter.unusedSimpArgs false
namespace Go.Proofs.YtlifofigkllpgaaDoor.Pure
open Go.RowKit Go.Proofs.YtlifofigkllpgaaDoor.Q Go.Proofs.YtlifofigkllpgaaDoorMine Go.Proofs.YtlifofigkllpgaaDoorW.PrintWords Go.Proofs.YtlifofigkllpgaaDoorW.PrintMore
def okB (n : Int) (b : List Int) : Bool := decide ((b.length : Int) ≤ 6) && b.all (fun x => inR x 0 (n - 1))
def okBs (l : List (List Int)) : Bool := inR (l.length : Int) 1 4 && l.all (okB (l.length : Int))
theorem areWithin_eq (l : List Int) (a b : Int) : impl_areWithin.f l a b = some (l.all (fun x => inR x a b)) := by
  unfold impl_areWithin.f slices_ContainsFunc_int64_at_impl_areWithin_1.f
  rw [anyO_of (q := fun x => !inR x a b) l (fun x _ => by unfold impl_areWithin_1.f; rw [within_eq]; rfl), any_not]
  simp
theorem implBags {l : List (List Int)} (hl : l.length ≤ 2097152) : impl_ValidBags.f l = some (okBs l) := by
  unfold impl_ValidBags.f impl_size_int64S.f slices_ContainsFunc_int64S_at_impl_ValidBags_1.f okBs
  rw [anyO_of (q := fun x => !okB (l.length : Int) x) l (fun x _ => ?_), any_not]
  · simp only [within_eq, Option.bind_some, Bool.not_not]
    cases inR (l.length : Int) 1 4 <;> simp
  · unfold impl_ValidBags_1.f impl_size_int64S.f okB
    rw [Option.bind_some, areWithin_eq, wrap_sm (i := (l.length : Int) - 1) (by omega) (by omega)]
    by_cases h : (x.length : Int) > 6
    · rw [if_pos h, decide_eq_false (by omega)]; rfl
    · rw [if_neg h, decide_eq_true (by omega)]; rfl
theorem specBags {l : List (List Int)} (hl : l.length ≤ 2097152) (hy : ∀ y ∈ l, y.length ≤ 2097152) : Ev (fun k => spec_l04Bags.f k l) (okBs l) := by
  unfold spec_l04Bags.f
  have hrow : ∀ m, m < l.length → ∀ r, ((l.getD m []).all (fun x => inR x 0 ((l.length : Int) - 1)) = true → Ev (fun k => spec_l04Bags.l0 k l ((m + 1 : Nat) : Int)) r) → Ev (fun k => spec_l04Bags.l1 k l (m : Int) 0) (if (l.getD m []).all (fun x => inR x 0 ((l.length : Int) - 1)) = true then r else false) := by
    intro m hm r hr
    have hlen := hy _ (get_mem [] hm).1
    have hw : wrap64 ((l.length : Int) - 1) = (l.length : Int) - 1 := wrap_sm (by omega) (by omega)
    refine all_ev (fun k i => spec_l04Bags.l1 k l (m : Int) i) (l.getD m []) 0 _ false r (fun j hj hq => ?_) (fun j hj hq r' hr' => ?_) (fun ha => ?_)
    · refine Ev.step (f := fun _ => some false) (fun k => ?_) (Ev.now _)
      simp only [spec_l04Bags.l1]
      rw [show rd_L2 l (m : Int) = l.getD m [] from rfl, if_pos (by omega), if_pos (by omega), if_pos (by omega), if_pos (by omega), l00In_eq, hw]
      unfold rd
      rw [Int.toNat_natCast, hq]; rfl
    · refine Ev.step (f := fun k => spec_l04Bags.l1 k l (m : Int) ((j + 1 : Nat) : Int)) (fun k => ?_) hr'
      simp only [spec_l04Bags.l1]
      rw [show rd_L2 l (m : Int) = l.getD m [] from rfl, if_pos (by omega), if_pos (by omega), if_pos (by omega), if_pos (by omega), l00In_eq, hw, wrap_sm (i := (j : Int) + 1) (by omega) (by omega)]
      unfold rd
      rw [Int.toNat_natCast, hq]; rfl
    · refine Ev.step (f := fun k => spec_l04Bags.l0 k l ((m + 1 : Nat) : Int)) (fun k => ?_) (hr ha)
      simp only [spec_l04Bags.l1]
      rw [show rd_L2 l (m : Int) = l.getD m [] from rfl, if_pos (by omega), if_pos (by omega), if_neg (by omega), wrap_sm (i := (m : Int) + 1) (by omega) (by omega)]; rfl
  refine Ev.eq (all_ev (fun k i => spec_l04Bags.l0 k l i) l [] (okB (l.length : Int)) false (inR (l.length : Int) 1 4) (fun m hm hq => ?_) (fun m hm hq r hr => ?_) (fun _ => ?_)) ?_
  · by_cases h6 : ((l.getD m []).length : Int) > 6
    · refine Ev.step (f := fun _ => some false) (fun k => ?_) (Ev.now _)
      simp only [spec_l04Bags.l0]
      rw [show rd_L2 l (m : Int) = l.getD m [] from rfl, if_pos (by omega), if_pos (by omega), if_pos h6]
    · have hq' : (l.getD m []).all (fun x => inR x 0 ((l.length : Int) - 1)) = false := by
        unfold okB at hq
        rw [decide_eq_true (by omega), Bool.true_and] at hq; exact hq
      refine Ev.step (f := fun k => spec_l04Bags.l1 k l (m : Int) 0) (fun k => ?_) ?_
      · simp only [spec_l04Bags.l0]
        rw [show rd_L2 l (m : Int) = l.getD m [] from rfl, if_pos (by omega), if_pos (by omega), if_neg h6]
      · exact Ev.eq (hrow m hm false (fun h => by rw [hq'] at h; cases h)) (by simp)
  · have h6 : ¬ ((l.getD m []).length : Int) > 6 := by
      unfold okB at hq; simp only [Bool.and_eq_true, decide_eq_true_eq] at hq; omega
    have hq' : (l.getD m []).all (fun x => inR x 0 ((l.length : Int) - 1)) = true := by
      unfold okB at hq; rw [Bool.and_eq_true] at hq; exact hq.2
    refine Ev.step (f := fun k => spec_l04Bags.l1 k l (m : Int) 0) (fun k => ?_) (Ev.eq (hrow m hm r (fun _ => hr)) (by rw [if_pos hq']))
    simp only [spec_l04Bags.l0]
    rw [show rd_L2 l (m : Int) = l.getD m [] from rfl, if_pos (by omega), if_pos (by omega), if_neg h6]
  · refine Ev.step (f := fun _ => some (inR (l.length : Int) 1 4)) (fun k => ?_) (Ev.now _)
    simp only [spec_l04Bags.l0]; rw [if_neg (by omega), l00In_eq]; rfl
  · unfold okBs
    cases l.all (okB (l.length : Int)) <;> simp
theorem okBs_bd {l : List (List Int)} (h : okBs l = true) : (1 ≤ l.length ∧ l.length ≤ 4) ∧ ∀ b ∈ l, b.length ≤ 6 ∧ ∀ x ∈ b, 0 ≤ x ∧ x ≤ (l.length : Int) - 1 := by
  unfold okBs at h
  simp only [Bool.and_eq_true, inR_iff, List.all_eq_true] at h
  refine ⟨by omega, fun b hb => ?_⟩
  have := h.2 b hb
  unfold okB at this
  simp only [Bool.and_eq_true, decide_eq_true_eq, List.all_eq_true, inR_iff] at this
  exact ⟨by omega, this.2⟩
end Go.Proofs.YtlifofigkllpgaaDoor.Pure
