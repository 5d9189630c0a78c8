/- slices.Compact. -/
import Derived.Test.YtihnefkkgbokcaaQ4
import Derived.Test.YtihnefkkgbokcaaPureB2
set_option linter.unusedVariables false
set_option linter.unusedSimpArgs false
namespace Go.Proofs.Ytihnefkkgbokcaa.Pure
open Go.RowKit Go.Proofs.Ytihnefkkgbokcaa.Q Go.Proofs.YtihnefkkgbokcaaMine Go.Proofs.YtihnefkkgbokcaaW.PrintWords Go.Proofs.YtihnefkkgbokcaaW.PrintMore
theorem comp1 (y : List Int) (hy : y.length ≤ 2097152) : ∀ (d j k : Nat) (x : List Int), j + d = y.length → 1 ≤ j → k + d + 1 ≤ x.length → x.length ≤ 2097152 → Ev (fun q => slices_Compact_int64.l1 q x (k : Int) y (j : Int)) (x.take k ++ ddF (y.getD (j - 1) 0) (y.drop j)) := by
  intro d
  induction d with
  | zero =>
    intro j k x hj hj1 hk hx
    rw [List.drop_eq_nil_of_le (by omega)]
    refine Ev.step (f := fun _ => some (x.take k)) (fun q => ?_) (Ev.eq (Ev.now _) (by simp [ddF]))
    simp only [slices_Compact_int64.l1]
    rw [if_neg (by omega), if_pos (by omega), if_pos (by omega)]
    simp only [Int.toNat_natCast]
    rw [List.take_append_of_le_length (by simp; omega), List.take_take, Nat.min_self]
  | succ d ih =>
    intro j k x hj hj1 hk hx
    rw [drop_step (0 : Int) (by omega)]
    have e1 : wrap64 ((j : Int) - 1) = ((j - 1 : Nat) : Int) := by unfold wrap64; omega
    have e2 : rd y (j : Int) = y.getD j 0 := rfl
    have e3 : rd y ((j - 1 : Nat) : Int) = y.getD (j - 1) 0 := rfl
    unfold ddF
    by_cases h : y.getD j 0 = y.getD (j - 1) 0
    · refine Ev.step (fun q => ?_) (Ev.eq (ih (j + 1) k x (by omega) (by omega) (by omega) hx) (by rw [if_pos h, Nat.add_sub_cancel]))
      simp only [slices_Compact_int64.l1]
      rw [e1, if_pos (by omega), if_pos (by omega), if_pos (by omega), if_pos (by omega), e2, e3, if_pos h, wrap_sm (i := (j : Int) + 1) (by omega) (by omega)]; rfl
    · refine Ev.step (fun q => ?_) (Ev.eq (ih (j + 1) (k + 1) (x.set k (y.getD j 0)) (by omega) (by omega) (by simp; omega) (by simpa using hx)) ?_)
      · simp only [slices_Compact_int64.l1]
        rw [e1, if_pos (by omega), if_pos (by omega), if_pos (by omega), if_pos (by omega), e2, e3, if_neg h, if_pos (by omega), if_pos (by omega), wrap_sm (i := (j : Int) + 1) (by omega) (by omega), wrap_sm (i := (k : Int) + 1) (by omega) (by omega), Int.toNat_natCast]; rfl
      · rw [if_neg h, Nat.add_sub_cancel, List.take_add_one, List.getElem?_set_self (by omega), List.take_set_of_le (by omega)]
        simp
theorem comp0 (x : List Int) (hx : x.length ≤ 2097152) : ∀ (d i : Nat), i + d = x.length → 1 ≤ i → Ev (fun q => slices_Compact_int64.l0 q x (i : Int)) (x.take i ++ ddF (x.getD (i - 1) 0) (x.drop i)) := by
  intro d
  induction d with
  | zero =>
    intro i hi hi1
    rw [List.drop_eq_nil_of_le (by omega)]
    refine Ev.step (f := fun _ => some x) (fun q => ?_) (Ev.eq (Ev.now _) (by rw [List.take_of_length_le (by omega)]; simp [ddF]))
    simp only [slices_Compact_int64.l0]
    rw [if_neg (by omega)]
  | succ d ih =>
    intro i hi hi1
    have e1 : wrap64 ((i : Int) - 1) = ((i - 1 : Nat) : Int) := by unfold wrap64; omega
    have e2 : rd x (i : Int) = x.getD i 0 := rfl
    have e3 : rd x ((i - 1 : Nat) : Int) = x.getD (i - 1) 0 := rfl
    by_cases h : x.getD i 0 = x.getD (i - 1) 0
    · refine Ev.step (f := fun q => slices_Compact_int64.l1 q x (i : Int) (x.drop i) ((1 : Nat) : Int)) (fun q => ?_) (Ev.eq (comp1 (x.drop i) (by simp; omega) d 1 i x (by simp; omega) (by omega) (by omega) hx) ?_)
      · simp only [slices_Compact_int64.l0]
        rw [e1, if_pos (by omega), if_pos (by omega), if_pos (by omega), if_pos (by omega), e2, e3, if_pos h, if_pos (by omega), Int.toNat_natCast]; rfl
      · rw [drop_step (0 : Int) (show i < x.length by omega)]
        conv => rhs; unfold ddF
        rw [if_pos h]
        simp
    · refine Ev.step (fun q => ?_) (Ev.eq (ih (i + 1) (by omega) (by omega)) ?_)
      · simp only [slices_Compact_int64.l0]
        rw [e1, if_pos (by omega), if_pos (by omega), if_pos (by omega), if_pos (by omega), e2, e3, if_neg h, wrap_sm (i := (i : Int) + 1) (by omega) (by omega)]; rfl
      · rw [drop_step (0 : Int) (show i < x.length by omega)]
        conv => rhs; unfold ddF
        rw [if_neg h, Nat.add_sub_cancel, List.take_add_one, getD_ge (z := (0 : Int)) (by omega)]
        simp
theorem comp64 {x : List Int} (hx : x.length ≤ 2097152) : Ev (fun k => slices_Compact_int64.f k x) (cpt x) := by
  unfold slices_Compact_int64.f
  by_cases h : (x.length : Int) < 2
  · simp only [if_pos h]
    refine Ev.eq (Ev.now _) ?_
    unfold cpt
    rw [List.take_of_length_le (by omega), List.drop_eq_nil_of_le (by omega)]; simp [ddF]
  · simp only [if_neg h]
    exact comp0 x hx (x.length - 1) 1 (by omega) (by omega)
end Go.Proofs.Ytihnefkkgbokcaa.Pure
