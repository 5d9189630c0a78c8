/- A law's marks in a list of Parcel. -/
import Derived.Test.YtihnefkkgbokcaaDoorQ4
import Derived.Test.YtihnefkkgbokcaaDoorPureEqParcel
set_option linter.unusedVariables false
set_option linter.unusedSimpArgs false
namespace Go.Proofs.YtihnefkkgbokcaaDoor.Pure
open Go.RowKit Go.Proofs.YtihnefkkgbokcaaDoor.Q Go.Proofs.YtihnefkkgbokcaaDoorMine Go.Proofs.YtihnefkkgbokcaaDoorW.PrintWords
def mkParcel (c : Int) : S40 := ⟨IntKind.i8.wrap (c), IntKind.i16.wrap (c + 1)⟩
def mksParcel (n : Nat) : List (S40) := (List.range n).map (fun i : Nat => mkParcel (1 + 2 * (i : Int)))
theorem mksParcel_length (n : Nat) : (mksParcel n).length = n := by simp [mksParcel]
theorem mksParcel_get {n j : Nat} (h : j < n) : (mksParcel n)[j]? = some (mkParcel (1 + 2 * (j : Int))) := by simp [mksParcel, h]
theorem markParcelSx (x : List (S40)) (hx : x.length ≤ 2097152) : Ev (fun k => laws_markParcelS.f k x 1) (1 + 2 * (x.length : Int), mksParcel x.length) := by
  unfold laws_markParcelS.f
  suffices hh : ∀ (d m : Nat), m + d = x.length → ∀ y : List (S40), y.length = x.length → (∀ j, j < m → y[j]? = some (mkParcel (1 + 2 * (j : Int)))) → Ev (fun k => laws_markParcelS.l0 k y (1 + 2 * (m : Int)) (m : Int)) (1 + 2 * (x.length : Int), mksParcel x.length) from hh x.length 0 (by omega) x rfl (fun j h => by omega)
  intro d
  induction d with
  | zero =>
    intro m hm y hy hj
    obtain rfl : m = x.length := by omega
    have e : y = mksParcel x.length := by
      apply List.ext_getElem?
      intro j
      by_cases h : j < x.length
      · rw [hj j h, mksParcel_get h]
      · rw [List.getElem?_eq_none (by omega), List.getElem?_eq_none (by rw [mksParcel_length]; omega)]
    refine Ev.step (f := fun _ => some (1 + 2 * (x.length : Int), y)) (fun k => ?_) (Ev.eq (Ev.now _) (by rw [e]))
    simp only [laws_markParcelS.l0]; rw [if_neg (by omega)]
  | succ d ih =>
    intro m hm y hy hj
    refine Ev.step (f := fun k => laws_markParcelS.l0 k (y.set m (mkParcel (1 + 2 * (m : Int)))) (1 + 2 * ((m + 1 : Nat) : Int)) ((m + 1 : Nat) : Int)) (fun k => ?_) (ih (m + 1) (by omega) _ (by simp [hy]) (fun j h => ?_))
    · have hr : ∀ a : S40, rd_T40 (y.set m a) (m : Int) = a := fun a => by
        unfold rd_T40; rw [Int.toNat_natCast, List.getD_eq_getElem?_getD, List.getElem?_set_self (by omega)]; rfl
      have hn : (1 + 2 * ((m + 1 : Nat) : Int)) = 1 + 2 * (m : Int) + 1 + 1 := by omega
      rw [hn]
      obtain ⟨c, hc⟩ : ∃ c : Int, c = 1 + 2 * (m : Int) := ⟨_, rfl⟩
      rw [← hc]
      have hw1 : wrap64 (c + 1) = c + 1 := wrap_sm (by omega) (by omega)
      have hw2 : wrap64 (c + 1 + 1) = c + 1 + 1 := wrap_sm (by omega) (by omega)
      simp only [laws_markParcelS.l0]
      rw [if_pos (by omega), if_pos (by omega), wrap_sm (i := (m : Int) + 1) (by omega) (by omega)]
      simp only [Option.bind_some, Int.toNat_natCast, hw1, hw2, hr, List.set_set, mkParcel]
      rfl
    · by_cases e : j = m
      · subst e; rw [List.getElem?_set_self (by omega)]
      · rw [List.getElem?_set_ne (by omega)]; exact hj j (by omega)
theorem markParcelAny (x : List (S40)) (hx : x.length ≤ 2097152) (a : Int) (h0 : 0 ≤ a) (h1 : a ≤ 1000000000000000) : ∃ (r : Int) (y : List (S40)), Ev (fun k => laws_markParcelS.f k x a) (r, y) ∧ 0 ≤ r := by
  unfold laws_markParcelS.f
  suffices hh : ∀ (d m : Nat), m + d = x.length → ∀ (y : List (S40)) (c : Int), y.length = x.length → 0 ≤ c → c ≤ 1000000000000000 + 2 * (m : Int) → ∃ (r : Int) (z : List (S40)), Ev (fun k => laws_markParcelS.l0 k y c (m : Int)) (r, z) ∧ 0 ≤ r from hh x.length 0 (by omega) x a rfl h0 (by omega)
  intro d
  induction d with
  | zero =>
    intro m hm y c hy hc hc1
    exact ⟨c, y, Ev.step (f := fun _ => some (c, y)) (fun k => by simp only [laws_markParcelS.l0]; rw [if_neg (by omega)]) (Ev.now _), hc⟩
  | succ d ih =>
    intro m hm y c hy hc hc1
    obtain ⟨r, z, h, h2⟩ := ih (m + 1) (by omega) (y.set m (mkParcel c)) (c + 1 + 1) (by rw [List.length_set]; exact hy) (by omega) (by omega)
    refine ⟨r, z, Ev.step (fun k => ?_) h, h2⟩
    have hr : ∀ a : S40, rd_T40 (y.set m a) (m : Int) = a := fun a => by
      unfold rd_T40; rw [Int.toNat_natCast, List.getD_eq_getElem?_getD, List.getElem?_set_self (by omega)]; rfl
    have hw1 : wrap64 (c + 1) = c + 1 := wrap_sm (by omega) (by omega)
    have hw2 : wrap64 (c + 1 + 1) = c + 1 + 1 := wrap_sm (by omega) (by omega)
    simp only [laws_markParcelS.l0]
    rw [if_pos (by omega), if_pos (by omega), wrap_sm (i := (m : Int) + 1) (by omega) (by omega)]
    simp only [Option.bind_some, Int.toNat_natCast, hw1, hw2, hr, List.set_set, mkParcel]
    rfl
end Go.Proofs.YtihnefkkgbokcaaDoor.Pure
