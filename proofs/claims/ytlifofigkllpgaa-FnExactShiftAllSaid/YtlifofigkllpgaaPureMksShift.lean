/- A law's marks in a list of Shift. -/
import Derived.Test.YtlifofigkllpgaaQ10
import Derived.Test.YtlifofigkllpgaaPureToShift
set_option linter.unusedVariables false
set_option linter.unusedSimpArgs false
namespace Go.Proofs.Ytlifofigkllpgaa.Pure
open Go.RowKit Go.Proofs.Ytlifofigkllpgaa.Q Go.Proofs.YtlifofigkllpgaaMine Go.Proofs.YtlifofigkllpgaaW.PrintWords
def mkShift (c : Int) : S46 := ⟨IntKind.i8.wrap (c), IntKind.i8.wrap (c + 1)⟩
def mksShift (n : Nat) : List (S46) := (List.range n).map (fun i : Nat => mkShift (1 + 2 * (i : Int)))
theorem mksShift_length (n : Nat) : (mksShift n).length = n := by simp [mksShift]
theorem mksShift_get {n j : Nat} (h : j < n) : (mksShift n)[j]? = some (mkShift (1 + 2 * (j : Int))) := by simp [mksShift, h]
theorem markShiftSx (x : List (S46)) (hx : x.length ≤ 2097152) : Ev (fun k => laws_markShiftS.f k x 1) (1 + 2 * (x.length : Int), mksShift x.length) := by
  unfold laws_markShiftS.f
  suffices hh : ∀ (d m : Nat), m + d = x.length → ∀ y : List (S46), y.length = x.length → (∀ j, j < m → y[j]? = some (mkShift (1 + 2 * (j : Int)))) → Ev (fun k => laws_markShiftS.l0 k y (1 + 2 * (m : Int)) (m : Int)) (1 + 2 * (x.length : Int), mksShift x.length) from hh x.length 0 (by omega) x rfl (fun j h => by omega)
  intro d
  induction d with
  | zero =>
    intro m hm y hy hj
    obtain rfl : m = x.length := by omega
    have e : y = mksShift x.length := by
      apply List.ext_getElem?
      intro j
      by_cases h : j < x.length
      · rw [hj j h, mksShift_get h]
      · rw [List.getElem?_eq_none (by omega), List.getElem?_eq_none (by rw [mksShift_length]; omega)]
    refine Ev.step (f := fun _ => some (1 + 2 * (x.length : Int), y)) (fun k => ?_) (Ev.eq (Ev.now _) (by rw [e]))
    simp only [laws_markShiftS.l0]; rw [if_neg (by omega)]
  | succ d ih =>
    intro m hm y hy hj
    refine Ev.step (f := fun k => laws_markShiftS.l0 k (y.set m (mkShift (1 + 2 * (m : Int)))) (1 + 2 * ((m + 1 : Nat) : Int)) ((m + 1 : Nat) : Int)) (fun k => ?_) (ih (m + 1) (by omega) _ (by simp [hy]) (fun j h => ?_))
    · have hr : ∀ a : S46, rd_T46 (y.set m a) (m : Int) = a := fun a => by
        unfold rd_T46; rw [Int.toNat_natCast, List.getD_eq_getElem?_getD, List.getElem?_set_self (by omega)]; rfl
      have hn : (1 + 2 * ((m + 1 : Nat) : Int)) = 1 + 2 * (m : Int) + 1 + 1 := by omega
      rw [hn]
      obtain ⟨c, hc⟩ : ∃ c : Int, c = 1 + 2 * (m : Int) := ⟨_, rfl⟩
      rw [← hc]
      have hw1 : wrap64 (c + 1) = c + 1 := wrap_sm (by omega) (by omega)
      have hw2 : wrap64 (c + 1 + 1) = c + 1 + 1 := wrap_sm (by omega) (by omega)
      simp only [laws_markShiftS.l0]
      rw [if_pos (by omega), if_pos (by omega), wrap_sm (i := (m : Int) + 1) (by omega) (by omega)]
      simp only [Option.bind_some, Int.toNat_natCast, hw1, hw2, hr, List.set_set, mkShift]
      rfl
    · by_cases e : j = m
      · subst e; rw [List.getElem?_set_self (by omega)]
      · rw [List.getElem?_set_ne (by omega)]; exact hj j (by omega)
theorem markShiftAny (x : List (S46)) (hx : x.length ≤ 2097152) (a : Int) (h0 : 0 ≤ a) (h1 : a ≤ 1000000000000000) : ∃ (r : Int) (y : List (S46)), Ev (fun k => laws_markShiftS.f k x a) (r, y) ∧ 0 ≤ r := by
  unfold laws_markShiftS.f
  suffices hh : ∀ (d m : Nat), m + d = x.length → ∀ (y : List (S46)) (c : Int), y.length = x.length → 0 ≤ c → c ≤ 1000000000000000 + 2 * (m : Int) → ∃ (r : Int) (z : List (S46)), Ev (fun k => laws_markShiftS.l0 k y c (m : Int)) (r, z) ∧ 0 ≤ r from hh x.length 0 (by omega) x a rfl h0 (by omega)
  intro d
  induction d with
  | zero =>
    intro m hm y c hy hc hc1
    exact ⟨c, y, Ev.step (f := fun _ => some (c, y)) (fun k => by simp only [laws_markShiftS.l0]; rw [if_neg (by omega)]) (Ev.now _), hc⟩
  | succ d ih =>
    intro m hm y c hy hc hc1
    obtain ⟨r, z, h, h2⟩ := ih (m + 1) (by omega) (y.set m (mkShift c)) (c + 1 + 1) (by rw [List.length_set]; exact hy) (by omega) (by omega)
    refine ⟨r, z, Ev.step (fun k => ?_) h, h2⟩
    have hr : ∀ a : S46, rd_T46 (y.set m a) (m : Int) = a := fun a => by
      unfold rd_T46; rw [Int.toNat_natCast, List.getD_eq_getElem?_getD, List.getElem?_set_self (by omega)]; rfl
    have hw1 : wrap64 (c + 1) = c + 1 := wrap_sm (by omega) (by omega)
    have hw2 : wrap64 (c + 1 + 1) = c + 1 + 1 := wrap_sm (by omega) (by omega)
    simp only [laws_markShiftS.l0]
    rw [if_pos (by omega), if_pos (by omega), wrap_sm (i := (m : Int) + 1) (by omega) (by omega)]
    simp only [Option.bind_some, Int.toNat_natCast, hw1, hw2, hr, List.set_set, mkShift]
    rfl
end Go.Proofs.Ytlifofigkllpgaa.Pure
