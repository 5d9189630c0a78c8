/- slices.Sort at few numbers. -/
import Derived.Test.YtihnefkkgbokcaaQ4
import Derived.Test.YtihnefkkgbokcaaPureB2
set_option linter.unusedVariables false
set_option linter.unusedSimpArgs false
namespace Go.Proofs.Ytihnefkkgbokcaa.Pure
open Go.RowKit Go.Proofs.Ytihnefkkgbokcaa.Q Go.Proofs.YtihnefkkgbokcaaMine Go.Proofs.YtihnefkkgbokcaaW.PrintWords Go.Proofs.YtihnefkkgbokcaaW.PrintMore
theorem less64 (a b : Int) : cmp_Less_int64.f a b = some (decide (a < b)) := by
  unfold cmp_Less_int64.f cmp_isNaN_int64.f
  simp
theorem sort64 {x : List Int} (hx : x.length ≤ 12) : ∃ y : List Int, Ev (fun k => slices_Sort_int64.f k x) y ∧ y.Pairwise (· ≤ ·) ∧ y.Perm x := by
  have hins : ∀ r : List Int, (∀ y : List Int, y.Pairwise (· ≤ ·) → y.Perm x → Ev (fun _ => some y) r) → Ev (fun k => slices_insertionSortOrdered_int64.f k x 0 (x.length : Int)) r := by
    intro r hr
    unfold slices_insertionSortOrdered_int64.f
    have h1 : wrap64 (0 + 1) = ((1 : Nat) : Int) := by unfold wrap64; omega
    rw [h1]
    refine insSortLe (fun k y i => slices_insertionSortOrdered_int64.l0 k y 0 (x.length : Int) i) (fun k y i j => slices_insertionSortOrdered_int64.l1 k y 0 (x.length : Int) i j) (fun a b => decide (a < b)) (· ≤ ·) x r ?_ ?_ ?_ ?_ ?_ ?_ ?_ ?_ 1 (by omega)
    · intro a b h; rw [decide_eq_true_eq] at h; exact Int.le_of_lt h
    · intro a b h; rw [decide_eq_false_iff_not] at h; exact Int.not_lt.1 h
    · intro a b c h1 h2; exact Int.le_trans h1 h2
    · intro y i hy hi h
      refine Ev.step (fun k => ?_) h
      simp only [slices_insertionSortOrdered_int64.l0]; rw [if_pos (by omega)]
    · intro y i hy hi hsort hperm
      refine Ev.step (f := fun _ => some y) (fun k => ?_) (hr y hsort hperm)
      simp only [slices_insertionSortOrdered_int64.l0]; rw [if_neg (by omega)]
    · intro y i hy hi h
      refine Ev.step (fun k => ?_) h
      simp only [slices_insertionSortOrdered_int64.l1]; rw [if_neg (by omega), wrap_sm (i := (i : Int) + 1) (by omega) (by omega)]; rfl
    · intro y i j hy hi hj hlt h
      refine Ev.step (fun k => ?_) h
      simp only [slices_insertionSortOrdered_int64.l1, less64, Option.bind_some]
      rw [wrap_sm (i := ((j + 1 : Nat) : Int) - 1) (by omega) (by omega), show ((j + 1 : Nat) : Int) - 1 = (j : Int) by omega, if_pos (by omega), if_pos (by omega), if_pos (by omega), if_pos (by omega), if_pos (by omega)]
      rw [show rd y ((j + 1 : Nat) : Int) = y.getD (j + 1) 0 from rfl, show rd y (j : Int) = y.getD j 0 from rfl, if_pos hlt]; rfl
    · intro y i j hy hi hj hlt h
      refine Ev.step (fun k => ?_) h
      simp only [slices_insertionSortOrdered_int64.l1, less64, Option.bind_some]
      rw [wrap_sm (i := ((j + 1 : Nat) : Int) - 1) (by omega) (by omega), show ((j + 1 : Nat) : Int) - 1 = (j : Int) by omega, if_pos (by omega), if_pos (by omega), if_pos (by omega), if_pos (by omega), if_pos (by omega), wrap_sm (i := (i : Int) + 1) (by omega) (by omega)]
      rw [show rd y ((j + 1 : Nat) : Int) = y.getD (j + 1) 0 from rfl, show rd y (j : Int) = y.getD j 0 from rfl, if_neg (by rw [hlt]; decide)]; rfl
  -- which list it is: the insertion sort's own
  have hex : ∃ y : List Int, y.Pairwise (· ≤ ·) ∧ y.Perm x := ⟨x.mergeSort (fun a b => decide (a ≤ b)), by
    have := List.pairwise_mergeSort (le := fun (a b : Int) => decide (a ≤ b)) (fun a b c h1 h2 => by simp at *; omega) (fun a b => by simp; omega) x
    exact this.imp (fun h => by simpa using h), List.mergeSort_perm _ _⟩
  obtain ⟨y, hy1, hy2⟩ := hex
  refine ⟨y, ?_, hy1, hy2⟩
  have hu : IntKind.u64.wrap (x.length : Int) = (x.length : Int) := by simp [IntKind.wrap, IntKind.signed, IntKind.bits]; omega
  unfold slices_Sort_int64.f bits_Len.f
  rw [hu, if_pos (by omega), if_pos (by omega)]
  simp only [Option.bind_some]
  refine Ev.bind (Ev.step (f := fun k => slices_pdqsortOrdered_int64.l0 k x 0 (x.length : Int) _ true) (fun k => rfl) (Ev.step (f := fun k => (slices_insertionSortOrdered_int64.f k x 0 (x.length : Int)).bind fun t => some t) (fun k => ?_) (Ev.bind (hins y (fun z hz1 hz2 => Ev.eq (Ev.now _) (List.Perm.eq_of_pairwise (le := (· ≤ ·)) (fun a b _ _ h1 h2 => Int.le_antisymm h1 h2) hz1 hy1 (hz2.trans hy2.symm)))) (Ev.now _)))) (Ev.now _)
  simp only [slices_pdqsortOrdered_int64.l0]
  rw [if_pos (by unfold wrap64; omega)]
end Go.Proofs.Ytihnefkkgbokcaa.Pure
