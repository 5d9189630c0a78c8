/- A law's marks in a list of whole numbers, and the look whether they are held. -/
import Derived.Test.YtdeipindfhkioaaQ2
import Derived.Test.YtdeipindfhkioaaPureEqInt64
set_option linter.unusedVariables false
set_option linter.unusedSimpArgs false
namespace Go.Proofs.Ytdeipindfhkioaa.Pure
open Go.RowKit Go.Proofs.Ytdeipindfhkioaa.Q Go.Proofs.YtdeipindfhkioaaMine Go.Proofs.YtdeipindfhkioaaW.PrintWords
def marks (n : Nat) : List Int := (List.range n).map (fun i : Nat => (i : Int) + 1)
theorem marks_length (n : Nat) : (marks n).length = n := by simp [marks]
theorem marks_get {n j : Nat} (h : j < n) : (marks n)[j]? = some ((j : Int) + 1) := by simp [marks, h]
theorem marks_getD {n j : Nat} (h : j < n) : (marks n).getD j 0 = (j : Int) + 1 := by rw [List.getD_eq_getElem?_getD, marks_get h]; rfl
theorem markInt64S (x : List Int) (hx : x.length ≤ 2097152) : Ev (fun k => laws_markInt64S.f k x 1) (1 + (x.length : Int), marks x.length) := by
 unfold laws_markInt64S.f
 suffices hh : ∀ (d m : Nat), m + d = x.length → ∀ y : List Int, y.length = x.length → (∀ j, j < m → y[j]? = some ((j : Int) + 1)) → Ev (fun k => laws_markInt64S.l0 k y (1 + (m : Int)) (m : Int)) (1 + (x.length : Int), marks x.length) from hh x.length 0 (by omega) x rfl (fun j h => by omega)
 intro d
 induction d with
 | zero =>
  intro m hm y hy hj
  obtain rfl : m = x.length := by omega
  have e : y = marks x.length := by
   apply List.ext_getElem?
   intro j
   by_cases h : j < x.length
   ·rw [hj j h, marks_get h]
   ·rw [List.getElem?_eq_none (by omega), List.getElem?_eq_none (by rw [marks_length]; omega)]
  refine Ev.step (f := fun _ => some (1 + (x.length : Int), y)) (fun k => ?_) (Ev.eq (Ev.now _) (by rw [e]))
  simp only [laws_markInt64S.l0]; rw [if_neg (by omega)]
 | succ d ih =>
  intro m hm y hy hj
  refine Ev.step (f := fun k => laws_markInt64S.l0 k (y.set m (1 + (m : Int))) (1 + ((m + 1 : Nat) : Int)) ((m + 1 : Nat) : Int)) (fun k => ?_) (ih (m + 1) (by omega) _ (by simp [hy]) (fun j h => ?_))
  ·simp only [laws_markInt64S.l0]
   rw [if_pos (by omega), if_pos (by omega), wrap_sm (i := (m : Int) + 1) (by omega) (by omega), wrap_sm (i := 1 + (m : Int) + 1) (by omega) (by omega), Int.toNat_natCast, show 1 + (m : Int) + 1 = 1 + ((m + 1 : Nat) : Int) by omega]; rfl
  ·by_cases e : j = m
   ·subst e; rw [List.getElem?_set_self (by omega), Int.add_comm]
   ·rw [List.getElem?_set_ne (by omega)]; exact hj j (by omega)
theorem heldInt64S (n : Nat) (hn : n ≤ 2097152) : Ev (fun k => laws_heldInt64S.f k (marks n) 1) (1 + (n : Int)) := by
 unfold laws_heldInt64S.f
 have hl := marks_length n
 suffices hh : ∀ (d m : Nat), m + d = n → Ev (fun k => laws_heldInt64S.l0 k (marks n) (1 + (m : Int)) (m : Int)) (1 + (n : Int)) from hh n 0 (by omega)
 intro d
 induction d with
 | zero =>
  intro m hm
  obtain rfl : m = n := by omega
  refine Ev.step (f := fun _ => some (1 + (m : Int))) (fun k => ?_) (Ev.now _)
  simp only [laws_heldInt64S.l0]; rw [if_neg (by omega)]
 | succ d ih =>
  intro m hm
  refine Ev.step (fun k => ?_) (ih (m + 1) (by omega))
  simp only [laws_heldInt64S.l0]
  rw [if_pos (by omega), if_pos (by omega), show rd (marks n) (m : Int) = (marks n).getD m 0 from rfl, marks_getD (by omega), if_pos (by omega), wrap_sm (i := (m : Int) + 1) (by omega) (by omega), wrap_sm (i := 1 + (m : Int) + 1) (by omega) (by omega), show 1 + (m : Int) + 1 = 1 + ((m + 1 : Nat) : Int) by omega]; rfl
end Go.Proofs.Ytdeipindfhkioaa.Pure
