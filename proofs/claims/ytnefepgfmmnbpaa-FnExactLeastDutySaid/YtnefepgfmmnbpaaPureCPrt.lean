/- The lines of one form, and what all forms cost, by the reference and by the program. -/
import Derived.Test.YtnefepgfmmnbpaaQ2
import Derived.Test.YtnefepgfmmnbpaaQ4
import Derived.Test.YtnefepgfmmnbpaaQ5
import Derived.Test.YtnefepgfmmnbpaaPureCSrch
import Derived.Test.YtnefepgfmmnbpaaPureC5e
set_option linter.unusedVariables false
set_option linter.unusedSimpArgs false
namespace Go.Proofs.Ytnefepgfmmnbpaa.Pure
open Go.RowKit Go.Proofs.Ytnefepgfmmnbpaa.Q Go.Proofs.YtnefepgfmmnbpaaMine Go.Proofs.YtnefepgfmmnbpaaW.PrintWords Go.Proofs.YtnefepgfmmnbpaaW.PrintMore
/-- The lines that bear a number. -/
def prt (m : List (S54)) (k : Int) : List Int → Nat → List (S54)
 | [], _ => []
 | x :: xs, i => if x = k then m.getD i z54 :: prt m k xs (i + 1) else prt m k xs (i + 1)
theorem prt_mem {m : List (S54)} {k : Int} : ∀ (xs : List Int) (i : Nat), i + xs.length ≤ m.length → ∀ y ∈ prt m k xs i, y ∈ m
 | [], i, _, y, h => by simp [prt] at h
 | x :: xs, i, hl, y, h => by
  simp only [List.length_cons] at hl
  unfold prt at h
  split at h
  ·rcases List.mem_cons.1 h with rfl | h
   ·exact (get_mem z54 (by omega)).1
   ·exact prt_mem xs (i + 1) (by omega) y h
  ·exact prt_mem xs (i + 1) (by omega) y h
theorem prt_len {m : List (S54)} {k : Int} : ∀ (xs : List Int) (i : Nat), (prt m k xs i).length ≤ xs.length
 | [], i => by simp [prt]
 | x :: xs, i => by
  unfold prt
  have := prt_len (m := m) (k := k) xs (i + 1)
  split <;> simp only [List.length_cons] <;> omega
theorem specPrt {m : List (S54)} {xs : List Int} (hx : xs.length ≤ 100) (hm : xs.length ≤ m.length) (q : Int) : Ev (fun k => spec_l05Parted.f k m xs q) (prt m q xs 0) := by
 unfold spec_l05Parted.f
 suffices hh : ∀ (d i : Nat), i + d = xs.length → ∀ out : List (S54), out.length ≤ i → Ev (fun k => spec_l05Parted.l0 k m xs q out (i : Int)) (out ++ prt m q (xs.drop i) i) by
  have := hh xs.length 0 (by omega) [] (by simp)
  simpa using this
 intro d
 induction d with
 | zero =>
  intro i hi out ho
  refine Ev.step (f := fun _ => some out) (fun k => ?_) (Ev.eq (Ev.now _) (by rw [List.drop_eq_nil_of_le (by omega)]; simp [prt]))
  simp only [spec_l05Parted.l0]; rw [if_neg (by omega)]
 | succ d ih =>
  intro i hi out ho
  rw [drop_step 0 (show i < xs.length by omega)]
  by_cases h : xs.getD i 0 = q
  ·refine Ev.step (f := fun k => spec_l05Parted.l0 k m xs q (out ++ [m.getD i z54]) ((i + 1 : Nat) : Int)) (fun k => ?_) (Ev.eq (ih (i + 1) (by omega) (out ++ [m.getD i z54]) (by simp; omega)) (by rw [prt, if_pos h]; simp))
   simp only [spec_l05Parted.l0]
   rw [if_pos (by omega), if_pos (by omega), if_pos (show rd xs (i : Int) = q from h), if_pos (by omega), if_pos (by omega), wrap_sm (i := (i : Int) + 1) (by omega) (by omega)]; rfl
  ·refine Ev.step (f := fun k => spec_l05Parted.l0 k m xs q out ((i + 1 : Nat) : Int)) (fun k => ?_) (Ev.eq (ih (i + 1) (by omega) out (by omega)) (by rw [prt, if_neg h]))
   simp only [spec_l05Parted.l0]
   rw [if_pos (by omega), if_pos (by omega), if_neg (show ¬ rd xs (i : Int) = q from h), wrap_sm (i := (i : Int) + 1) (by omega) (by omega)]; rfl
theorem implPrt {m : List (S54)} {xs : List Int} (hx : xs.length ≤ 100) (hm : xs.length ≤ m.length) (q : Int) : Ev (fun k => impl_ofForm.f k m xs q) (prt m q xs 0) := by
 unfold impl_ofForm.f
 suffices hh : ∀ (d i : Nat), i + d = xs.length → ∀ out : List (S54), out.length ≤ i → Ev (fun k => impl_ofForm.l0 k m q out xs (xs.length : Int) (i : Int)) (out ++ prt m q (xs.drop i) i) by
  have := hh xs.length 0 (by omega) [] (by simp)
  simpa using this
 intro d
 induction d with
 | zero =>
  intro i hi out ho
  refine Ev.step (f := fun _ => some out) (fun k => ?_) (Ev.eq (Ev.now _) (by rw [List.drop_eq_nil_of_le (by omega)]; simp [prt]))
  simp only [impl_ofForm.l0]; rw [if_neg (by omega)]
 | succ d ih =>
  intro i hi out ho
  rw [drop_step 0 (show i < xs.length by omega)]
  by_cases h : xs.getD i 0 = q
  ·refine Ev.step (f := fun k => impl_ofForm.l0 k m q (out ++ [m.getD i z54]) xs (xs.length : Int) ((i + 1 : Nat) : Int)) (fun k => ?_) (Ev.eq (ih (i + 1) (by omega) (out ++ [m.getD i z54]) (by simp; omega)) (by rw [prt, if_pos h]; simp))
   simp only [impl_ofForm.l0]
   rw [if_pos (by omega), if_pos (by omega), if_pos (by omega), if_pos (show rd xs (i : Int) = q from h), if_pos (by omega), if_pos (by omega), wrap_sm (i := (i : Int) + 1) (by omega) (by omega)]; rfl
  ·refine Ev.step (f := fun k => impl_ofForm.l0 k m q out xs (xs.length : Int) ((i + 1 : Nat) : Int)) (fun k => ?_) (Ev.eq (ih (i + 1) (by omega) out (by omega)) (by rw [prt, if_neg h]))
   simp only [impl_ofForm.l0]
   rw [if_pos (by omega), if_pos (by omega), if_pos (by omega), if_neg (show ¬ rd xs (i : Int) = q from h), wrap_sm (i := (i : Int) + 1) (by omega) (by omega)]; rfl
section
variable {l : List (S56)} {m : List (S54)}
/-- What all forms cost. -/
def cst (l : List (S56)) (m : List (S54)) (a how : Int) (xs : List Int) (n : Nat) : Int := (List.range n).foldl (fun s (k : Nat) => wrap64 (s + fre l (prt m (k : Int) xs 0) a how)) 0
theorem cst_step (l : List (S56)) (m : List (S54)) (a how : Int) (xs : List Int) (n : Nat) : cst l m a how xs (n + 1) = wrap64 (cst l m a how xs n + fre l (prt m (n : Int) xs 0) a how) := by
 unfold cst; rw [List.range_succ, List.foldl_append]; rfl
theorem cst_bd (q1 : ∀ c ∈ l, okC c = true) (q2 : ∀ x ∈ m, okL (l.length : Int) x = true) (hm : m.length ≤ 10) (a how : Int) {xs : List Int} (hx : xs.length ≤ m.length) : ∀ n : Nat, n ≤ 100 → 0 ≤ cst l m a how xs n ∧ cst l m a how xs n ≤ 20000000000000 * (n : Int)
 | 0, _ => by simp [cst]
 | n + 1, hn => by
  have := cst_bd q1 q2 hm a how hx n (by omega)
  have hb := fre_bd (m := prt m (n : Int) xs 0) q1 (fun y hy => q2 y (prt_mem xs 0 (by omega) y hy)) (by have := prt_len (m := m) (k := (n : Int)) xs 0; omega) a how
  rw [cst_step, wrap_sm (by omega) (by omega)]
  omega
theorem specCst (q1 : ∀ c ∈ l, okC c = true) (q2 : ∀ x ∈ m, okL (l.length : Int) x = true) (a : Int) {how : Int} (w0 : 0 ≤ how) (s : List Int × Int × Bool) {xs : List Int} (hx : xs.length ≤ 100) (hm : xs.length ≤ m.length) (n : Nat) (hn : n ≤ 100) :
  Ev (fun k => f0z.f k l m a how s.1 s.2.1 s.2.2 xs (n : Int)) (cst l m a how xs n, true) := by
 unfold f0z.f
 simp only [if_pos w0]
 suffices hh : ∀ (d j : Nat), j + d = n → Ev (fun k => f0z.l0 k xs (n : Int) (cst l m a how xs j) (j : Int) l m a how s.1 s.2.1 s.2.2) (cst l m a how xs n, true) from hh n 0 (by omega)
 intro d
 induction d with
 | zero =>
  intro j hj
  obtain rfl : j = n := by omega
  refine Ev.step (f := fun _ => some (cst l m a how xs j, true)) (fun k => ?_) (Ev.now _)
  simp only [f0z.l0]; rw [if_neg (by omega)]
 | succ d ih =>
  intro j hj
  refine Ev.step (f := fun k => (spec_l05Parted.f k m xs (j : Int)).bind fun t => (spec_l05Free.f k l t a how).bind fun u => f0z.l0 k xs (n : Int) (wrap64 (cst l m a how xs j + u)) ((j + 1 : Nat) : Int) l m a how s.1 s.2.1 s.2.2) (fun k => ?_) ?_
  ·simp only [f0z.l0]
   rw [if_pos (by omega), wrap_sm (i := (j : Int) + 1) (by omega) (by omega)]; rfl
  ·refine Ev.bind (specPrt hx hm _) (Ev.bind (specFree (by have := prt_len (m := m) (k := (j : Int)) xs 0; omega) q1 (fun y hy => q2 y (prt_mem xs 0 (by omega) y hy)) a how) ?_)
   rw [show wrap64 (cst l m a how xs j + (if wor (prt m (j : Int) xs 0) ≤ a then 0 else dty l (prt m (j : Int) xs 0) how)) = cst l m a how xs (j + 1) from (cst_step l m a how xs j).symm]
   exact ih (j + 1) (by omega)
def updI (C : List Int → Int → Int) (s : List Int × Int) (xs : List Int) (n : Int) : List Int × Int := if s.2 < 0 then (xs, C xs n) else if C xs n < s.2 then (xs, C xs n) else s
theorem implCst (q1 : ∀ c ∈ l, okC c = true) (q2 : ∀ x ∈ m, okL (l.length : Int) x = true) (a : Int) {how : Int} (w0 : 0 ≤ how) (w3 : how ≤ 3) (s : List Int × Int) {xs : List Int} (hx : xs.length ≤ 100) (hm : xs.length ≤ m.length) (n : Nat) (hn : n ≤ 100) :
  Ev (fun k => impl_LeastDuty.each k l m a how s xs (n : Int)) (true, updI (fun xs n => cst l m a how xs n.toNat) s xs (n : Int)) := by
 unfold impl_LeastDuty.each impl_LeastDuty_2.f
 have hh : ∀ (d j : Nat), j + d = n → Ev (fun k => impl_LeastDuty_2.l0 k xs (cst l m a how xs j) (n : Int) (j : Int) l m a how s.2) (true, if s.2 < 0 then some (cst l m a how xs n) else if cst l m a how xs n < s.2 then some (cst l m a how xs n) else none) := by
  intro d
  induction d with
  | zero =>
   intro j hj
   obtain rfl : j = n := by omega
   refine Ev.step (f := fun _ => if s.2 < 0 then some (true, some (cst l m a how xs j)) else if cst l m a how xs j < s.2 then some (true, some (cst l m a how xs j)) else some (true, none)) (fun k => ?_) ?_
   ·simp only [impl_LeastDuty_2.l0]; rw [if_neg (by omega)]
   ·split
    ·exact Ev.now _
    ·split <;> exact Ev.now _
  | succ d ih =>
   intro j hj
   refine Ev.step (f := fun k => (impl_ofForm.f k m xs (j : Int)).bind fun t => (impl_allowed.f k l t a how).bind fun u => impl_LeastDuty_2.l0 k xs (wrap64 (cst l m a how xs j + u)) (n : Int) ((j + 1 : Nat) : Int) l m a how s.2) (fun k => ?_) ?_
   ·simp only [impl_LeastDuty_2.l0]
    rw [if_pos (by omega), wrap_sm (i := (j : Int) + 1) (by omega) (by omega)]; rfl
   ·refine Ev.bind (implPrt hx hm _) (Ev.bind (implFree (by have := prt_len (m := m) (k := (j : Int)) xs 0; omega) q1 (fun y hy => q2 y (prt_mem xs 0 (by omega) y hy)) a w0 w3) ?_)
    rw [show wrap64 (cst l m a how xs j + (if wor (prt m (j : Int) xs 0) ≤ a then 0 else dty l (prt m (j : Int) xs 0) how)) = cst l m a how xs (j + 1) from (cst_step l m a how xs j).symm]
    exact ih (j + 1) (by omega)
 refine Ev.bind (hh n 0 (by omega)) ?_
 refine Ev.eq (Ev.now _) ?_
 unfold updI
 simp only [Int.toNat_natCast]
 by_cases c1 : s.2 < 0
 ·simp only [if_pos c1]
 ·simp only [if_neg c1]
  by_cases c2 : cst l m a how xs n < s.2
  ·simp only [if_pos c2]
  ·simp only [if_neg c2]
end
end Go.Proofs.Ytnefepgfmmnbpaa.Pure
