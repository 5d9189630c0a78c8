/- The lines of one form, by the reference and by the program. -/
import Derived.Test.YtnefepgfmmnbpaaQ2
import Derived.Test.YtnefepgfmmnbpaaQ4
import Derived.Test.YtnefepgfmmnbpaaPureToLine
set_option linter.unusedVariables false
set_option linter.unusedSimpArgs false
namespace Go.Proofs.Ytnefepgfmmnbpaa.Pure
open Go.RowKit Go.Proofs.Ytnefepgfmmnbpaa.Q Go.Proofs.YtnefepgfmmnbpaaMine Go.Proofs.YtnefepgfmmnbpaaW.PrintWords Go.Proofs.YtnefepgfmmnbpaaW.PrintMore
/-- The lines that bear a number. -/
def prt (m : List (S54)) (k : Int) : List Int → Nat → List (S54)
 | [], _ => []
 | x :: xs, i => if x = k then m.getD i z54 :: prt m k xs (i + 1) else prt m k xs (i + 1)
theorem prt_mem {m : List (S54)} {k : Int} : ∀ (xs : List Int) (i : Nat), i + xs.length ≤ m.length → ∀ y ∈ prt m k xs i, y ∈ m
 | [], i, _, y, h => by simp [prt] at h
 | x :: xs, i, hl, y, h => by
  simp only [List.length_cons] at hl
  unfold prt at h
  split at h
  ·rcases List.mem_cons.1 h with rfl | h
   ·exact (get_mem z54 (by omega)).1
   ·exact prt_mem xs (i + 1) (by omega) y h
  ·exact prt_mem xs (i + 1) (by omega) y h
theorem prt_len {m : List (S54)} {k : Int} : ∀ (xs : List Int) (i : Nat), (prt m k xs i).length ≤ xs.length
 | [], i => by simp [prt]
 | x :: xs, i => by
  unfold prt
  have := prt_len (m := m) (k := k) xs (i + 1)
  split <;> simp only [List.length_cons] <;> omega
theorem specPrt {m : List (S54)} {xs : List Int} (hx : xs.length ≤ 100) (hm : xs.length ≤ m.length) (q : Int) : Ev (fun k => spec_l05Parted.f k m xs q) (prt m q xs 0) := by
 unfold spec_l05Parted.f
 suffices hh : ∀ (d i : Nat), i + d = xs.length → ∀ out : List (S54), out.length ≤ i → Ev (fun k => spec_l05Parted.l0 k m xs q out (i : Int)) (out ++ prt m q (xs.drop i) i) by
  have := hh xs.length 0 (by omega) [] (by simp)
  simpa using this
 intro d
 induction d with
 | zero =>
  intro i hi out ho
  refine Ev.step (f := fun _ => some out) (fun k => ?_) (Ev.eq (Ev.now _) (by rw [List.drop_eq_nil_of_le (by omega)]; simp [prt]))
  simp only [spec_l05Parted.l0]; rw [if_neg (by omega)]
 | succ d ih =>
  intro i hi out ho
  rw [drop_step 0 (show i < xs.length by omega)]
  by_cases h : xs.getD i 0 = q
  ·refine Ev.step (f := fun k => spec_l05Parted.l0 k m xs q (out ++ [m.getD i z54]) ((i + 1 : Nat) : Int)) (fun k => ?_) (Ev.eq (ih (i + 1) (by omega) (out ++ [m.getD i z54]) (by simp; omega)) (by rw [prt, if_pos h]; simp))
   simp only [spec_l05Parted.l0]
   rw [if_pos (by omega), if_pos (by omega), if_pos (show rd xs (i : Int) = q from h), if_pos (by omega), if_pos (by omega), wrap_sm (i := (i : Int) + 1) (by omega) (by omega)]; rfl
  ·refine Ev.step (f := fun k => spec_l05Parted.l0 k m xs q out ((i + 1 : Nat) : Int)) (fun k => ?_) (Ev.eq (ih (i + 1) (by omega) out (by omega)) (by rw [prt, if_neg h]))
   simp only [spec_l05Parted.l0]
   rw [if_pos (by omega), if_pos (by omega), if_neg (show ¬ rd xs (i : Int) = q from h), wrap_sm (i := (i : Int) + 1) (by omega) (by omega)]; rfl
theorem implPrt {m : List (S54)} {xs : List Int} (hx : xs.length ≤ 100) (hm : xs.length ≤ m.length) (q : Int) : Ev (fun k => impl_ofForm.f k m xs q) (prt m q xs 0) := by
 unfold impl_ofForm.f
 suffices hh : ∀ (d i : Nat), i + d = xs.length → ∀ out : List (S54), out.length ≤ i → Ev (fun k => impl_ofForm.l0 k m q out xs (xs.length : Int) (i : Int)) (out ++ prt m q (xs.drop i) i) by
  have := hh xs.length 0 (by omega) [] (by simp)
  simpa using this
 intro d
 induction d with
 | zero =>
  intro i hi out ho
  refine Ev.step (f := fun _ => some out) (fun k => ?_) (Ev.eq (Ev.now _) (by rw [List.drop_eq_nil_of_le (by omega)]; simp [prt]))
  simp only [impl_ofForm.l0]; rw [if_neg (by omega)]
 | succ d ih =>
  intro i hi out ho
  rw [drop_step 0 (show i < xs.length by omega)]
  by_cases h : xs.getD i 0 = q
  ·refine Ev.step (f := fun k => impl_ofForm.l0 k m q (out ++ [m.getD i z54]) xs (xs.length : Int) ((i + 1 : Nat) : Int)) (fun k => ?_) (Ev.eq (ih (i + 1) (by omega) (out ++ [m.getD i z54]) (by simp; omega)) (by rw [prt, if_pos h]; simp))
   simp only [impl_ofForm.l0]
   rw [if_pos (by omega), if_pos (by omega), if_pos (by omega), if_pos (show rd xs (i : Int) = q from h), if_pos (by omega), if_pos (by omega), wrap_sm (i := (i : Int) + 1) (by omega) (by omega)]; rfl
  ·refine Ev.step (f := fun k => impl_ofForm.l0 k m q out xs (xs.length : Int) ((i + 1 : Nat) : Int)) (fun k => ?_) (Ev.eq (ih (i + 1) (by omega) out (by omega)) (by rw [prt, if_neg h]))
   simp only [impl_ofForm.l0]
   rw [if_pos (by omega), if_pos (by omega), if_pos (by omega), if_neg (show ¬ rd xs (i : Int) = q from h), wrap_sm (i := (i : Int) + 1) (by omega) (by omega)]; rfl
end Go.Proofs.Ytnefepgfmmnbpaa.Pure
