/- The same search by the reference. -/
import Derived.Test.YtnefepgfmmnbpaaQ3
import Derived.Test.YtnefepgfmmnbpaaPureCGrp
set_option linter.unusedVariables false
set_option linter.unusedSimpArgs false
namespace Go.Proofs.Ytnefepgfmmnbpaa.Pure
open Go.RowKit Go.Proofs.Ytnefepgfmmnbpaa.Q Go.Proofs.YtnefepgfmmnbpaaMine Go.Proofs.YtnefepgfmmnbpaaW.PrintWords Go.Proofs.YtnefepgfmmnbpaaW.PrintMore
theorem from_all {l : List (S56)} {f : List (S54)} {a how : Int} {C : List Int → Int → Int × Bool} {n : Nat} (hn : n ≤ 100) (hf : f.length = n)
  (hC : ∀ (s : List Int × Int × Bool) (xs : List Int) (m : Nat), xs.length = n → m ≤ n → Ev (fun k => f0z.f k l f a how s.1 s.2.1 s.2.2 xs (m : Int)) (C xs (m : Int))) :
  ∀ (d : Nat) (xs : List Int) (m : Nat) (s : List Int × Int × Bool), xs.length + d = n → m ≤ xs.length → Ev2 (fun kc b => f2z.c kc l f a how b s xs (m : Int)) (srch (updS C) d xs m s) := by
 intro d
 induction d with
 | zero =>
  intro xs m s hd hm
  refine Ev2.step (G := fun kc _ => (f0z.f kc l f a how s.1 s.2.1 s.2.2 xs (m : Int)).bind fun t => if t.2 = true then (if s.2.2 = true then (if t.1 < s.2.1 then some (xs, t.1, true) else some s) else some (xs, t.1, true)) else some s) (fun kc b => ?_) (Ev2.bind (Ev2.left (hC s xs m (by omega) (by omega))) ?_)
  ·simp only [f2z.c]
   rw [if_pos (by omega)]
   simp only [List.length_nil, Nat.zero_add, List.nil_append, if_pos (show xs.length < 17592186044416 by omega)]
  ·unfold srch updS
   split
   ·split
    ·split <;> exact Ev2.now _
    ·exact Ev2.now _
   ·exact Ev2.now _
 | succ d ih =>
  intro xs m s hd hm
  refine Ev2.step (G := fun kc b => f2z.l0 kc l f a how b xs (m : Int) 0 s) (fun kc b => ?_) ?_
  ·simp only [f2z.c]
   rw [if_neg (by omega)]
  ·have loop : ∀ (e j : Nat), j + e = m + 1 → ∀ s, Ev2 (fun kc b => f2z.l0 kc l f a how b xs (m : Int) (j : Int) s) (((List.range (m + 1)).drop j).foldl (fun s (k : Nat) => srch (updS C) d (xs ++ [(k : Int)]) (max m (k + 1)) s) s) := by
    intro e
    induction e with
    | zero =>
     intro j hj s
     refine Ev2.step (G := fun _ _ => some s) (fun kc b => ?_) (Ev2.eq (Ev2.now _) ?_)
     ·simp only [f2z.l0]
      rw [if_neg (by omega)]
     ·rw [List.drop_eq_nil_of_le (by rw [List.length_range]; omega)]; rfl
    | succ e ie =>
     intro j hj s
     have hj1 : wrap64 ((j : Int) + 1) = ((j + 1 : Nat) : Int) := by rw [wrap_sm (by omega) (by omega)]; omega
     refine Ev2.step (G := fun kc b => (f2z.c kc l f a how b s (xs ++ [(j : Int)]) ((max m (j + 1) : Nat) : Int)).bind fun t => f2z.l0 kc l f a how b xs (m : Int) ((j + 1 : Nat) : Int) t) (fun kc b => ?_) ?_
     ·simp only [f2z.l0]
      rw [if_pos (by omega)]
      simp only [Option.bind_some, List.length_nil, Nat.zero_add, List.nil_append, if_pos (show xs.length < 17592186044416 by omega), hj1, max_mx, mx_nat]
     ·refine Ev2.bind (ih (xs ++ [(j : Int)]) (max m (j + 1)) s (by simp; omega) (by simp; omega)) ?_
      rw [range_drop (by omega)]
      exact ie (j + 1) (by omega) _
   exact Ev2.eq (loop (m + 1) 0 (by omega) s) (by rw [List.drop_zero]; rfl)
end Go.Proofs.Ytnefepgfmmnbpaa.Pure
