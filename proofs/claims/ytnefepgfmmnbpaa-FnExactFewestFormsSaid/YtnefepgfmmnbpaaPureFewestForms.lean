/- FewestForms returns what the reference returns, for all arguments. -/
import Derived.Test.YtnefepgfmmnbpaaQ5
import Derived.Test.YtnefepgfmmnbpaaPureCSrch
import Derived.Test.YtnefepgfmmnbpaaPureCFew
import Derived.Test.YtnefepgfmmnbpaaPureCWor
import Derived.Test.YtnefepgfmmnbpaaPureC5v
import Derived.Test.YtnefepgfmmnbpaaPureC5s
import Derived.Test.YtnefepgfmmnbpaaPureC5g
import Derived.Test.YtnefepgfmmnbpaaPureC5m
import Derived.Test.YtnefepgfmmnbpaaPureToClass
import Derived.Test.YtnefepgfmmnbpaaPureToLine
import Derived.Test.YtnefepgfmmnbpaaPureMksClass
import Derived.Test.YtnefepgfmmnbpaaPureMksLine
import Derived.Test.YtnefepgfmmnbpaaPureEqInt64
import Derived.Test.YtnefepgfmmnbpaaPureMkInt64
set_option linter.unusedVariables false
set_option linter.unusedSimpArgs false
namespace Go.Proofs.Ytnefepgfmmnbpaa.Pure
open Go.RowKit Go.Proofs.Ytnefepgfmmnbpaa.Q Go.Proofs.YtnefepgfmmnbpaaMine Go.Proofs.YtnefepgfmmnbpaaW.PrintWords Go.Proofs.YtnefepgfmmnbpaaW.PrintMore
section
variable {l : List (S56)} {m : List (S54)}
/-- A form is worth no more than the allowance. -/
def okW (m : List (S54)) (a : Int) (xs : List Int) (k : Nat) : Bool := decide (wor (prt m (k : Int) xs 0) ≤ a)
def rFew (l : List (S56)) (m : List (S54)) (a : Int) : List Int × Int × Int :=
 if okF l m = true then (if inR a 0 1000000 = true then (if (m.length : Int) > 7 then ([], 0, 3) else (if (bestF (okW m a) m.length).2.2 = true then ((bestF (okW m a) m.length).1, (bestF (okW m a) m.length).2.1, 0) else ([], 0, 6))) else ([], 0, 2)) else ([], 0, 1)
theorem specCostW (l : List (S56)) (a : Int) (s : List Int × Int × Bool) {xs : List Int} (hx : xs.length ≤ 100) (hm : xs.length ≤ m.length) (n : Nat) (hn : n ≤ 100) :
  Ev (fun k => f0z.f k l m a (-1) s.1 s.2.1 s.2.2 xs (n : Int)) (cT (allT (okW m a)) xs (n : Int)) := by
 unfold f0z.f cT allT
 simp only [if_neg (show ¬ (-1 : Int) ≥ 0 by omega), Int.toNat_natCast]
 suffices hh : ∀ (d j : Nat), j + d = n → Ev (fun k => f0z.l1 k xs (n : Int) (j : Int) l m a (-1) s.1 s.2.1 s.2.2) (if ((List.range n).drop j).all (okW m a xs) = true then ((n : Int), true) else (0, false)) by
  have := hh n 0 (by omega)
  rw [List.drop_zero] at this
  exact this
 intro d
 induction d with
 | zero =>
  intro j hj
  refine Ev.step (f := fun _ => some ((n : Int), true)) (fun k => ?_) (Ev.eq (Ev.now _) ?_)
  ·simp only [f0z.l1]; rw [if_neg (by omega)]
  ·rw [List.drop_eq_nil_of_le (by rw [List.length_range]; omega)]; rfl
 | succ d ih =>
  intro j hj
  refine Ev.step (f := fun k => (spec_l05Parted.f k m xs (j : Int)).bind fun t => (spec_l05Worth.f k t).bind fun u => if u > a then some ((0 : Int), false) else f0z.l1 k xs (n : Int) ((j + 1 : Nat) : Int) l m a (-1) s.1 s.2.1 s.2.2) (fun k => ?_) ?_
  ·simp only [f0z.l1]
   rw [if_pos (by omega), wrap_sm (i := (j : Int) + 1) (by omega) (by omega)]; rfl
  ·refine Ev.bind (specPrt hx hm _) (Ev.bind (specWor (by have := prt_len (m := m) (k := (j : Int)) xs 0; omega)) ?_)
   rw [range_drop (by omega), List.all_cons]
   by_cases c : wor (prt m (j : Int) xs 0) > a
   ·simp only [if_pos c]
    have : okW m a xs j = false := by unfold okW; exact decide_eq_false (by omega)
    rw [this]
    exact Ev.now _
   ·simp only [if_neg c]
    have : okW m a xs j = true := by unfold okW; exact decide_eq_true (by omega)
    rw [this, Bool.true_and]
    exact ih (j + 1) (by omega)
theorem okW_snoc (m : List (S54)) (xs : List Int) (k : Int) : wor (prt m k (xs ++ [k]) 0) = wrap64 (wor (prt m k xs 0) + wrap64 (m.getD xs.length z54).f2) := by
 rw [prt_append, wor_append, Nat.zero_add, prt_cons, if_pos rfl]
 rfl
theorem okW_other (m : List (S54)) (a : Int) (xs : List Int) {j k : Nat} (h : j ≠ k) : okW m a (xs ++ [(j : Int)]) k = okW m a xs k := by
 unfold okW
 rw [prt_append]
 have : prt m (k : Int) [(j : Int)] (0 + xs.length) = [] := by
  rw [prt_cons, if_neg (by omega)]
  rfl
 rw [this, List.append_nil]
theorem specBestW (l : List (S56)) (hm : m.length ≤ 7) (a : Int) : Ev (fun k => f2z.f k l m a (-1)) (bestF (okW m a) m.length) := by
 unfold f2z.f bestF
 exact Ev2.diag (from_all (n := m.length) (by omega) rfl (fun s xs n hx hn => specCostW l a s (by omega) (by omega) n (by omega)) m.length [] 0 ([], 0, false) (by simp) (by simp))
theorem implMay {a : Int} {xs : List Int} (hx : xs.length < m.length) (hm : m.length ≤ 7) (k : Nat) : Ev (fun q => f14z.f q xs (k : Int) m a) (okW m a (xs ++ [(k : Int)]) k) := by
 unfold f14z.f
 refine Ev.bind (implPrt (by omega) (by omega) _) (Ev.bind (implWor (by have := prt_len (m := m) (k := (k : Int)) xs 0; omega)) ?_)
 simp only [if_pos (show (0 : Int) ≤ (xs.length : Int) by omega), if_pos (show (xs.length : Int) < (m.length : Int) by omega)]
 refine Ev.eq (Ev.now _) ?_
 unfold okW
 rw [okW_snoc]
 rfl
theorem implFewW {n : Int} (hm : m.length ≤ 7) (q2 : ∀ x ∈ m, okL n x = true) {a : Int} (ha : 0 ≤ a) : Ev (fun k => f13z.f (fun x y => f14z.f k x y m a) k (m.length : Int)) (if (bestF (okW m a) m.length).2.2 = true then ((bestF (okW m a) m.length).1, (bestF (okW m a) m.length).2.1, true) else ([], 0, false)) := by
 refine few_all (may := fun k x y => f14z.f k x y m a) (by omega) (fun xs k hx hk => implMay hx hm k) (fun k => ?_) (fun xs zs k hl h => ?_) (fun xs j k hx hj h => ?_)
 ·unfold okW prt
  exact decide_eq_true (show (0 : Int) ≤ a from ha)
 ·unfold okW at h ⊢
  have h := of_decide_eq_true h
  rw [prt_append] at h
  have l1 := prt_len (m := m) (k := (k : Int)) xs 0
  have l2 := prt_len (m := m) (k := (k : Int)) zs (0 + xs.length)
  have := wor_le (u := prt m (k : Int) xs 0) (v := prt m (k : Int) zs (0 + xs.length)) (fun x hx => q2 x (prt_mem xs 0 (by omega) x hx)) (fun x hx => q2 x (prt_mem zs (0 + xs.length) (by omega) x hx)) (by omega) (by omega)
  exact decide_eq_true (by omega)
 ·rw [okW_other m a xs hj]; exact h
theorem specFewestForms (hl : l.length ≤ 2097152) (hc : ∀ x ∈ l, wfClass x) (hm : m.length ≤ 2097152) (hf : ∀ x ∈ m, wfLine x) (a : Int) : Ev (fun k => spec_FewestForms.f k l m a) (rFew l m a) := by
 unfold spec_FewestForms.f
 simp only [decl_eq, Option.bind_some]
 refine Ev.bind (specAsked hl hc hm hf (inR a 0 1000000)) ?_
 unfold rFew
 cases ho : okF l m with
 | false =>
  simp only [Bool.false_eq_true, if_false, if_neg (show ¬ (1 : Int) = 0 by omega)]
  refine Ev.step (f := fun k => spec_FewestForms.j1 k l m a 1) (fun k => by simp only [spec_FewestForms.j0]; rw [if_neg (by simp)]) ?_
  exact Ev.step (f := fun _ => some (([] : List Int), (0 : Int), (1 : Int))) (fun k => by simp only [spec_FewestForms.j1]; rw [if_neg (by omega)]) (Ev.now _)
 | true =>
  obtain ⟨_, q1, hm10, q2⟩ := okF_bd ho
  simp only [if_true]
  cases hb : inR a 0 1000000 with
  | false =>
   simp only [Bool.false_eq_true, if_false, if_neg (show ¬ (2 : Int) = 0 by omega)]
   refine Ev.step (f := fun k => spec_FewestForms.j1 k l m a 2) (fun k => by simp only [spec_FewestForms.j0]; rw [if_neg (by simp)]) ?_
   exact Ev.step (f := fun _ => some (([] : List Int), (0 : Int), (2 : Int))) (fun k => by simp only [spec_FewestForms.j1]; rw [if_neg (by omega)]) (Ev.now _)
  | true =>
   simp only [if_true]
   by_cases h7 : (m.length : Int) > 7
   ·simp only [if_pos h7, decide_eq_true h7]
    refine Ev.step (f := fun k => spec_FewestForms.j1 k l m a 3) (fun k => by simp only [spec_FewestForms.j0]; rw [if_pos (by trivial)]) ?_
    exact Ev.step (f := fun _ => some (([] : List Int), (0 : Int), (3 : Int))) (fun k => by simp only [spec_FewestForms.j1]; rw [if_neg (by omega)]) (Ev.now _)
   ·simp only [if_neg h7, decide_eq_false h7]
    refine Ev.step (f := fun k => spec_FewestForms.j1 k l m a 0) (fun k => by simp only [spec_FewestForms.j0]; rw [if_neg (by simp)]) ?_
    refine Ev.step (f := fun k => (f2z.f k l m a (-1)).bind fun bt => if bt.2.2 = true then some (bt.1, bt.2.1, (0 : Int)) else some ([], 0, 6)) (fun k => by simp only [spec_FewestForms.j1]; rw [if_pos (by trivial)]) ?_
    refine Ev.bind (specBestW l (by omega) a) ?_
    split <;> exact Ev.now _
theorem implFewestForms (hl : l.length ≤ 2097152) (hc : ∀ x ∈ l, wfClass x) (hm : m.length ≤ 2097152) (hf : ∀ x ∈ m, wfLine x) (a : Int) : Ev (fun k => impl_FewestForms.f k l m a) (rFew l m a) := by
 unfold impl_FewestForms.f rFew
 simp only [implAllowCode hl hc hm hf, Option.bind_some]
 cases ho : okF l m with
 | false =>
  simp only [Bool.false_eq_true, if_false]
  exact Ev.val (fun k => by rw [if_neg (by omega)])
 | true =>
  obtain ⟨_, q1, _, q2⟩ := okF_bd ho
  simp only [if_true]
  rw [show inR (0 : Int) 0 3 = true from rfl, Bool.true_and]
  cases hh : inR a 0 1000000 with
  | false => simp only [Bool.false_eq_true, if_false]; exact Ev.val (fun k => by rw [if_neg (by omega)])
  | true =>
   simp only [if_true]
   obtain ⟨a0, _⟩ := inR_iff.1 hh
   by_cases h7 : (m.length : Int) > 7
   ·simp only [if_pos h7]; exact Ev.now _
   ·simp only [if_neg h7]
    refine Ev.bind (implFewW (by omega) q2 a0) ?_
    by_cases c : (bestF (okW m a) m.length).2.2 = true
    ·simp only [if_pos c, if_true]; exact Ev.now _
    ·simp only [if_neg c, Bool.false_eq_true, if_false]; exact Ev.now _
theorem bestF_len (Ok : List Int → Nat → Bool) (n : Nat) : (bestF Ok n).1.length ≤ n := by
 have := srch_rel (u := updS (cT (allT Ok))) (v := fun (_ : Unit) _ _ => ()) n (fun s _ => s.1.length ≤ n) (fun s t xs k hR hx hn => by
  unfold updS
  split
  ·split
   ·split
    ·show xs.length ≤ n; omega
    ·exact hR
   ·show xs.length ≤ n; omega
  ·exact hR) n [] 0 ([], 0, false) () (by simp) (by simp) (by simp)
 exact this
theorem rFew_len (hm : m.length ≤ 2097152) (a : Int) : (rFew l m a).1.length ≤ 2097152 := by
 unfold rFew
 have := bestF_len (okW m a) m.length
 split
 ·split
  ·split
   ·simp
   ·split
    ·show (bestF (okW m a) m.length).1.length ≤ 2097152; omega
    ·simp
  ·simp
 ·simp
end
theorem FewestForms : laws_FnExactFewestForms.Pure := by
 intro l0 l1 a2 ⟨_, hb0, hw0⟩ ⟨_, hb1, hw1⟩ h2
 apply Ev.rounds
 unfold laws_FnExactFewestForms.f
 simp only [szClassS l0 (by omega) (1048576) (by omega) (by omega), Option.bind_some]
 by_cases g0 : (1048576 : Int) - (l0.length : Int) < 0
 ·simp only [if_pos g0, if_pos (show (-1 : Int) < 0 by omega)]; exact Ev.now _
 simp only [if_neg g0]
 simp only [szLineS l1 (by omega) ((1048576 : Int) - (l0.length : Int)) (by omega) (by omega), Option.bind_some]
 by_cases g1 : ((1048576 : Int) - (l0.length : Int) : Int) - (l1.length : Int) < 0
 ·simp only [if_pos g1, if_pos (show (-1 : Int) < 0 by omega)]; exact Ev.now _
 simp only [if_neg g1]
 have hl0 : (l0.map cvClass).length ≤ 2097152 := by rw [List.length_map]; omega
 have hc0 := wfsClass (l := l0) hw0
 have hl1 : (l1.map cvLine).length ≤ 2097152 := by rw [List.length_map]; omega
 have hc1 := wfsLine (l := l1) hw1
 have hS := specFewestForms hl0 hc0 hl1 hc1 a2
 have hI := implFewestForms hl0 hc0 hl1 hc1 a2
 have hT := rFew_len (l := l0.map cvClass) hl1 a2
 generalize rFew (l0.map cvClass) (l1.map cvLine) a2 = R at hS hI hT
 have hm := markClassSx (l0.map cvClass) hl0
 obtain ⟨r, y, hm2, hr⟩ := markLineAny (l1.map cvLine) hl1 (1 + 4 * ((l0.map cvClass).length : Int)) (by omega) (by omega)
 have hM := markInt64S R.1 hT
 have hH := heldInt64S R.1.length hT
 have hn : ¬ (1 + (R.1.length : Int)) < 0 := by omega
 have hrn : ¬ r < 0 := by omega
 have hE := eqInt64S R.1 hT
 repeat (first | exact Ev.now _ | (with_reducible refine Ev.bind hS ?_) | (with_reducible refine Ev.bind hI ?_) | (with_reducible refine Ev.bind hM ?_) | (with_reducible refine Ev.bind hH ?_) | (with_reducible refine Ev.bind hm ?_) | (with_reducible refine Ev.bind hm2 ?_) | (with_reducible refine Ev.bind hE ?_) | (with_reducible refine Ev.bind (toClassS l0 (by omega)) ?_) | (with_reducible refine Ev.bind (toLineS l1 (by omega)) ?_) | (with_reducible refine Ev.bind (eqClassS _ hl0) ?_) | (with_reducible refine Ev.bind (eqLineS _ hl1) ?_) | simp only [if_true, eq_self_iff_true, bne_self_eq_false, Bool.false_eq_true, if_false, Option.bind_some, if_neg hn, if_neg hrn] | (show Ev (fun n => laws_FnExactFewestForms.j0 n _ _ _ _ _ _ _ _ _ _ _ _) _; refine Ev.step (fun k => by simp only [laws_FnExactFewestForms.j0]; rfl) ?_) | (show Ev (fun n => laws_FnExactFewestForms.j1 n _ _ _ _ _ _ _ _) _; refine Ev.step (fun k => by simp only [laws_FnExactFewestForms.j1]; rfl) ?_) | (show Ev (fun n => laws_FnExactFewestForms.j2 n _ _ _) _; refine Ev.step (fun k => by simp only [laws_FnExactFewestForms.j2]; rfl) ?_))
end Go.Proofs.Ytnefepgfmmnbpaa.Pure
