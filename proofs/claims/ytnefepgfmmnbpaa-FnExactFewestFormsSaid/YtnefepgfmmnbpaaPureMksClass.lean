/- A law's marks in a list of Class. -/
import Derived.Test.YtnefepgfmmnbpaaQ1
import Derived.Test.YtnefepgfmmnbpaaPureToClass
set_option linter.unusedVariables false
set_option linter.unusedSimpArgs false
namespace Go.Proofs.Ytnefepgfmmnbpaa.Pure
open Go.RowKit Go.Proofs.Ytnefepgfmmnbpaa.Q Go.Proofs.YtnefepgfmmnbpaaMine Go.Proofs.YtnefepgfmmnbpaaW.PrintWords
def mkClass (c : Int) : S56 := ⟨IntKind.i16.wrap (c), IntKind.i16.wrap (c + 1), IntKind.i16.wrap (c + 1 + 1), wrap32 (c + 1 + 1 + 1)⟩
def mksClass (n : Nat) : List (S56) := (List.range n).map (fun i : Nat => mkClass (1 + 4 * (i : Int)))
theorem mksClass_length (n : Nat) : (mksClass n).length = n := by simp [mksClass]
theorem mksClass_get {n j : Nat} (h : j < n) : (mksClass n)[j]? = some (mkClass (1 + 4 * (j : Int))) := by simp [mksClass, h]
theorem markClassSx (x : List (S56)) (hx : x.length ≤ 2097152) : Ev (fun k => laws_markClassS.f k x 1) (1 + 4 * (x.length : Int), mksClass x.length) := by
 unfold laws_markClassS.f
 suffices hh : ∀ (d m : Nat), m + d = x.length → ∀ y : List (S56), y.length = x.length → (∀ j, j < m → y[j]? = some (mkClass (1 + 4 * (j : Int)))) → Ev (fun k => laws_markClassS.l0 k y (1 + 4 * (m : Int)) (m : Int)) (1 + 4 * (x.length : Int), mksClass x.length) from hh x.length 0 (by omega) x rfl (fun j h => by omega)
 intro d
 induction d with
 | zero =>
  intro m hm y hy hj
  obtain rfl : m = x.length := by omega
  have e : y = mksClass x.length := by
   apply List.ext_getElem?
   intro j
   by_cases h : j < x.length
   ·rw [hj j h, mksClass_get h]
   ·rw [List.getElem?_eq_none (by omega), List.getElem?_eq_none (by rw [mksClass_length]; omega)]
  refine Ev.step (f := fun _ => some (1 + 4 * (x.length : Int), y)) (fun k => ?_) (Ev.eq (Ev.now _) (by rw [e]))
  simp only [laws_markClassS.l0]; rw [if_neg (by omega)]
 | succ d ih =>
  intro m hm y hy hj
  refine Ev.step (f := fun k => laws_markClassS.l0 k (y.set m (mkClass (1 + 4 * (m : Int)))) (1 + 4 * ((m + 1 : Nat) : Int)) ((m + 1 : Nat) : Int)) (fun k => ?_) (ih (m + 1) (by omega) _ (by simp [hy]) (fun j h => ?_))
  ·have hr : ∀ a : S56, rd_T56 (y.set m a) (m : Int) = a := fun a => by
    unfold rd_T56; rw [Int.toNat_natCast, List.getD_eq_getElem?_getD, List.getElem?_set_self (by omega)]; rfl
   have hn : (1 + 4 * ((m + 1 : Nat) : Int)) = 1 + 4 * (m : Int) + 1 + 1 + 1 + 1 := by omega
   rw [hn]
   obtain ⟨c, hc⟩ : ∃ c : Int, c = 1 + 4 * (m : Int) := ⟨_, rfl⟩
   rw [← hc]
   have hw1 : wrap64 (c + 1) = c + 1 := wrap_sm (by omega) (by omega)
   have hw2 : wrap64 (c + 1 + 1) = c + 1 + 1 := wrap_sm (by omega) (by omega)
   have hw3 : wrap64 (c + 1 + 1 + 1) = c + 1 + 1 + 1 := wrap_sm (by omega) (by omega)
   have hw4 : wrap64 (c + 1 + 1 + 1 + 1) = c + 1 + 1 + 1 + 1 := wrap_sm (by omega) (by omega)
   simp only [laws_markClassS.l0]
   rw [if_pos (by omega), if_pos (by omega), wrap_sm (i := (m : Int) + 1) (by omega) (by omega)]
   simp only [Option.bind_some, Int.toNat_natCast, hw1, hw2, hw3, hw4, hr, List.set_set, mkClass]
   rfl
  ·by_cases e : j = m
   ·subst e; rw [List.getElem?_set_self (by omega)]
   ·rw [List.getElem?_set_ne (by omega)]; exact hj j (by omega)
theorem markClassAny (x : List (S56)) (hx : x.length ≤ 2097152) (a : Int) (h0 : 0 ≤ a) (h1 : a ≤ 1000000000000000) : ∃ (r : Int) (y : List (S56)), Ev (fun k => laws_markClassS.f k x a) (r, y) ∧ 0 ≤ r := by
 unfold laws_markClassS.f
 suffices hh : ∀ (d m : Nat), m + d = x.length → ∀ (y : List (S56)) (c : Int), y.length = x.length → 0 ≤ c → c ≤ 1000000000000000 + 4 * (m : Int) → ∃ (r : Int) (z : List (S56)), Ev (fun k => laws_markClassS.l0 k y c (m : Int)) (r, z) ∧ 0 ≤ r from hh x.length 0 (by omega) x a rfl h0 (by omega)
 intro d
 induction d with
 | zero =>
  intro m hm y c hy hc hc1
  exact ⟨c, y, Ev.step (f := fun _ => some (c, y)) (fun k => by simp only [laws_markClassS.l0]; rw [if_neg (by omega)]) (Ev.now _), hc⟩
 | succ d ih =>
  intro m hm y c hy hc hc1
  obtain ⟨r, z, h, h2⟩ := ih (m + 1) (by omega) (y.set m (mkClass c)) (c + 1 + 1 + 1 + 1) (by rw [List.length_set]; exact hy) (by omega) (by omega)
  refine ⟨r, z, Ev.step (fun k => ?_) h, h2⟩
  have hr : ∀ a : S56, rd_T56 (y.set m a) (m : Int) = a := fun a => by
   unfold rd_T56; rw [Int.toNat_natCast, List.getD_eq_getElem?_getD, List.getElem?_set_self (by omega)]; rfl
  have hw1 : wrap64 (c + 1) = c + 1 := wrap_sm (by omega) (by omega)
  have hw2 : wrap64 (c + 1 + 1) = c + 1 + 1 := wrap_sm (by omega) (by omega)
  have hw3 : wrap64 (c + 1 + 1 + 1) = c + 1 + 1 + 1 := wrap_sm (by omega) (by omega)
  have hw4 : wrap64 (c + 1 + 1 + 1 + 1) = c + 1 + 1 + 1 + 1 := wrap_sm (by omega) (by omega)
  simp only [laws_markClassS.l0]
  rw [if_pos (by omega), if_pos (by omega), wrap_sm (i := (m : Int) + 1) (by omega) (by omega)]
  simp only [Option.bind_some, Int.toNat_natCast, hw1, hw2, hw3, hw4, hr, List.set_set, mkClass]
  rfl
end Go.Proofs.Ytnefepgfmmnbpaa.Pure
