/- StampsFor: the reference and the program. -/
import Derived.Test.YtdeipindfhkioaaQ7
import Derived.Test.YtdeipindfhkioaaQ12
import Derived.Test.YtdeipindfhkioaaQ4
import Derived.Test.YtdeipindfhkioaaPureCTable
import Derived.Test.YtdeipindfhkioaaQ2
import Derived.Test.YtdeipindfhkioaaPureB0
import Derived.Test.YtdeipindfhkioaaQ6
import Derived.Test.YtdeipindfhkioaaQ11
import Derived.Test.YtdeipindfhkioaaQ8
set_option linter.unusedVariables false
set_option linter.unusedSimpArgs false
namespace Go.Proofs.Ytdeipindfhkioaa.Pure
open Go.RowKit Go.Proofs.Ytdeipindfhkioaa.Q Go.Proofs.YtdeipindfhkioaaMine Go.Proofs.YtdeipindfhkioaaW.PrintWords Go.Proofs.YtdeipindfhkioaaW.PrintMore
def okV (l : List Int) : Bool := inR (l.length : Int) 1 8 && (l.all (fun x => inR x 1 500) && allIx 1 l.length (risesAt l))
theorem implVals {l : List Int} (hl : l.length ≤ 2097152) : Ev (fun k => impl_ValidValues.f k l) (okV l) := by
 unfold impl_ValidValues.f impl_size_int64.f okV
 simp only [within_eq, areWithin_eq, Option.bind_some]
 cases inR (l.length : Int) 1 8 with
 | false => exact Ev.now _
 | true =>
  simp only [if_true, Bool.true_and]
  cases l.all (fun x => inR x 1 500) with
  | false => exact Ev.now _
  | true =>
   simp only [if_true, Bool.true_and]
   exact Ev.bind (isRising_eq hl) (Ev.now _)
theorem specVals {l : List Int} (hl : l.length ≤ 2097152) : Ev (fun k => spec_l01Values.f k l) (okV l) := by
 unfold spec_l01Values.f
 have h := all_ix (fun k i => spec_l01Values.l0 k l i) l.length (fun j => inR (l.getD j 0) 1 500 && (decide (j = 0) || risesAt l j)) false (inR (l.length : Int) 1 8) 0 (fun j _ hj hq => ?_) (fun j _ hj hq r hr => ?_) (fun j hj _ hh _ => ?_)
 ·refine Ev.eq h ?_
  unfold okV
  have e : allIx 0 l.length (fun j => inR (l.getD j 0) 1 500 && (decide (j = 0) || risesAt l j)) = (l.all (fun x => inR x 1 500) && allIx 1 l.length (risesAt l)) := by
   rw [all_getD 0]
   apply Bool.eq_iff_iff.2
   rw [Bool.and_eq_true, allIx_iff, allIx_iff, allIx_iff]
   constructor
   ·intro hh
    refine ⟨fun i h0 h1 => ?_, fun i h0 h1 => ?_⟩
    ·have := hh i h0 h1; rw [Bool.and_eq_true] at this; exact this.1
    ·have := hh i (by omega) h1; rw [Bool.and_eq_true, Bool.or_eq_true, decide_eq_true_eq] at this
     exact this.2.resolve_left (by omega)
   ·rintro ⟨h1, h2⟩ i h0 hi
    rw [Bool.and_eq_true, Bool.or_eq_true, decide_eq_true_eq]
    refine ⟨h1 i h0 hi, ?_⟩
    by_cases hz : i = 0
    ·exact .inl hz
    ·exact .inr (h2 i (by omega) hi)
  rw [e]
  cases (l.all (fun x => inR x 1 500) && allIx 1 l.length (risesAt l)) <;> cases inR (l.length : Int) 1 8 <;> rfl
 ·have e0 : rd l (j : Int) = l.getD j 0 := by unfold rd; rw [Int.toNat_natCast]
  refine Ev.step (f := fun _ => some false) (fun k => ?_) (Ev.now _)
  simp only [spec_l01Values.l0]
  rw [if_pos (by omega), if_pos (by omega), e0, l00In_eq, Option.bind_some]
  cases hi : inR (l.getD j 0) 1 500 with
  | false => rw [if_neg (by simp)]
  | true =>
   rw [hi, Bool.true_and, Bool.or_eq_false_iff, decide_eq_false_iff_not] at hq
   have hr := hq.2
   unfold risesAt at hr
   rw [decide_eq_false_iff_not] at hr
   rw [if_pos rfl, if_pos (by omega), wrap_sm (i := (j : Int) - 1) (by omega) (by omega), show ((j : Int) - 1) = ((j - 1 : Nat) : Int) by omega, if_pos (by omega), if_pos (by omega), show rd l ((j - 1 : Nat) : Int) = l.getD (j - 1) 0 by unfold rd; rw [Int.toNat_natCast], if_pos (by omega)]
 ·have e0 : rd l (j : Int) = l.getD j 0 := by unfold rd; rw [Int.toNat_natCast]
  rw [Bool.and_eq_true, Bool.or_eq_true, decide_eq_true_eq] at hq
  refine Ev.step (f := fun k => spec_l01Values.l0 k l ((j + 1 : Nat) : Int)) (fun k => ?_) hr
  simp only [spec_l01Values.l0]
  rw [if_pos (by omega), if_pos (by omega), e0, l00In_eq, Option.bind_some, hq.1, if_pos rfl, wrap_sm (i := (j : Int) + 1) (by omega) (by omega)]
  by_cases hz : j = 0
  ·subst hz; rw [if_neg (by omega)]; rfl
  ·have hr2 := hq.2.resolve_left hz
   unfold risesAt at hr2
   rw [decide_eq_true_eq] at hr2
   rw [if_pos (by omega), wrap_sm (i := (j : Int) - 1) (by omega) (by omega), show ((j : Int) - 1) = ((j - 1 : Nat) : Int) by omega, if_pos (by omega), if_pos (by omega), show rd l ((j - 1 : Nat) : Int) = l.getD (j - 1) 0 by unfold rd; rw [Int.toNat_natCast], if_neg (by omega)]; rfl
 ·refine Ev.step (f := fun _ => some (inR (l.length : Int) 1 8)) (fun k => ?_) (Ev.now _)
  simp only [spec_l01Values.l0]
  rw [if_neg (by omega), l00In_eq, Option.bind_some]
end Go.Proofs.Ytdeipindfhkioaa.Pure

set_option linter.unusedVariables false
set_option linter.unusedSimpArgs false
namespace Go.Proofs.Ytdeipindfhkioaa.Pure
open Go.RowKit Go.Proofs.Ytdeipindfhkioaa.Q Go.Proofs.YtdeipindfhkioaaMine Go.Proofs.YtdeipindfhkioaaW.PrintWords
/-- The counts below k of a value v, at an amount a; g, h: how the rest is paid. -/
def pw (g : Nat → Int × Int) (v a : Nat) : Nat → Int × Int
 | 0 => (0, 0)
 | k + 1 => if (g (a - k * v)).1 = 0 then pw g v a k else ((pw g v a k).1 + (g (a - k * v)).1, if (pw g v a k).1 = 0 ∨ (g (a - k * v)).2 + (k : Int) < (pw g v a k).2 then (g (a - k * v)).2 + (k : Int) else (pw g v a k).2)
def cw (h : Nat → Int) (v a : Nat) : Nat → Int
 | 0 => -1
 | k + 1 => if 0 ≤ h (a - k * v) then (if cw h v a k < 0 ∨ h (a - k * v) + (k : Int) < cw h v a k then h (a - k * v) + (k : Int) else cw h v a k) else cw h v a k
def payG : List Nat → Nat → Int × Int
 | [], a => if a = 0 then (1, 0) else (0, 0)
 | v :: vs, a => pw (payG vs) v a (a / v + 1)
def payH : List Nat → Nat → Int
 | [], a => if a = 0 then 0 else -1
 | v :: vs, a => cw (payH vs) v a (a / v + 1)
def payE (s : Int × Int) (c : Int) : Prop := (s.1 = 0 ∧ c = -1) ∨ (0 < s.1 ∧ c = s.2 ∧ 0 ≤ s.2)
theorem pw_cw {g : Nat → Int × Int} {h : Nat → Int} (he : ∀ a, payE (g a) (h a)) (v a : Nat) : ∀ k, payE (pw g v a k) (cw h v a k)
 | 0 => .inl ⟨rfl, rfl⟩
 | k + 1 => by
  have ih := pw_cw he v a k
  have hr := he (a - k * v)
  show payE (if (g (a - k * v)).1 = 0 then pw g v a k else ((pw g v a k).1 + (g (a - k * v)).1, if (pw g v a k).1 = 0 ∨ (g (a - k * v)).2 + (k : Int) < (pw g v a k).2 then (g (a - k * v)).2 + (k : Int) else (pw g v a k).2)) (if 0 ≤ h (a - k * v) then (if cw h v a k < 0 ∨ h (a - k * v) + (k : Int) < cw h v a k then h (a - k * v) + (k : Int) else cw h v a k) else cw h v a k)
  generalize pw g v a k = s at *
  generalize cw h v a k = c at *
  generalize g (a - k * v) = r at *
  generalize h (a - k * v) = q at *
  obtain ⟨s1, s2⟩ := s
  obtain ⟨r1, r2⟩ := r
  unfold payE at ih hr ⊢
  simp only at ih hr ⊢
  rcases hr with ⟨h1, h2⟩ | ⟨h1, h2, h3⟩
  ·rw [if_pos h1, if_neg (show ¬ 0 ≤ q by omega)]; exact ih
  ·rw [if_neg (show ¬ r1 = 0 by omega), if_pos (show 0 ≤ q by omega)]
   refine .inr ⟨by show 0 < s1 + r1; omega, ?_⟩
   rcases ih with ⟨h4, h5⟩ | ⟨h4, h5, h6⟩
   ·rw [if_pos (show s1 = 0 ∨ r2 + (k : Int) < s2 from .inl h4), if_pos (show c < 0 ∨ q + (k : Int) < c from .inl (by omega))]
    exact ⟨by show q + (k : Int) = r2 + (k : Int); omega, by show 0 ≤ r2 + (k : Int); omega⟩
   ·by_cases hc : r2 + (k : Int) < s2
    ·rw [if_pos (show s1 = 0 ∨ r2 + (k : Int) < s2 from .inr hc), if_pos (show c < 0 ∨ q + (k : Int) < c from .inr (by omega))]
     exact ⟨by show q + (k : Int) = r2 + (k : Int); omega, by show 0 ≤ r2 + (k : Int); omega⟩
    ·rw [if_neg (show ¬ (s1 = 0 ∨ r2 + (k : Int) < s2) by omega), if_neg (show ¬ (c < 0 ∨ q + (k : Int) < c) by omega)]
     exact ⟨h5, h6⟩
theorem pay_E : ∀ (vs : List Nat) (a : Nat), payE (payG vs a) (payH vs a)
 | [], a => by
  unfold payG payH payE
  split
  ·exact .inr ⟨Int.one_pos, rfl, Int.le_refl _⟩
  ·exact .inl ⟨rfl, rfl⟩
 | v :: vs, a => pw_cw (pay_E vs) v a _
theorem mul_of_le {v a k : Nat} (hv : 1 ≤ v) (hk : k ≤ a / v) : k * v ≤ a := Nat.le_trans (Nat.mul_le_mul_right v hk) (Nat.div_mul_le_self a v)
theorem cw_bd {h : Nat → Int} (hb : ∀ a, -1 ≤ h a ∧ h a ≤ (a : Int)) {v : Nat} (hv : 1 ≤ v) (a : Nat) : ∀ k, k ≤ a / v + 1 → -1 ≤ cw h v a k ∧ cw h v a k ≤ (a : Int)
 | 0, _ => ⟨by simp [cw], by simp [cw]⟩
 | k + 1, hk => by
  have ih := cw_bd hb hv a k (by omega)
  have h1 := hb (a - k * v)
  have h2 := mul_of_le hv (show k ≤ a / v by omega)
  have h3 : k ≤ k * v := Nat.le_mul_of_pos_right k hv
  unfold cw
  split
  ·split <;> omega
  ·exact ih
theorem payH_bd : ∀ (vs : List Nat), (∀ v ∈ vs, 1 ≤ v) → ∀ a, -1 ≤ payH vs a ∧ payH vs a ≤ (a : Int)
 | [], _, a => by unfold payH; split <;> omega
 | v :: vs, hv, a => cw_bd (payH_bd vs (fun x hx => hv x (List.mem_cons_of_mem _ hx))) (hv v List.mem_cons_self) a _ (Nat.le_refl _)
theorem pw_nn {g : Nat → Int × Int} (hg : ∀ a, 0 ≤ (g a).1) (v a : Nat) : ∀ k, 0 ≤ (pw g v a k).1
 | 0 => by simp [pw]
 | k + 1 => by
  have := pw_nn hg v a k
  have := hg (a - k * v)
  unfold pw
  split
  ·assumption
  ·show 0 ≤ _ + _; omega
theorem payG_nn : ∀ (vs : List Nat) (a : Nat), 0 ≤ (payG vs a).1
 | [], a => by unfold payG; split <;> decide
 | v :: vs, a => pw_nn (payG_nn vs) v a _
theorem pw_step {g : Nat → Int × Int} (hg : ∀ a, 0 ≤ (g a).1) (v a k : Nat) : (pw g v a (k + 1)).1 = (pw g v a k).1 + (g (a - k * v)).1 := by
 show (if _ then _ else _ : Int × Int).1 = _
 split
 ·omega
 ·rfl
theorem pw_le {g : Nat → Int × Int} (hg : ∀ a, 0 ≤ (g a).1) (v a : Nat) {k : Nat} : ∀ d, (pw g v a k).1 ≤ (pw g v a (k + d)).1
 | 0 => Int.le_refl _
 | d + 1 => by
  have := pw_le hg v a (k := k) d
  have h2 := pw_step hg v a (k + d)
  have := hg (a - (k + d) * v)
  rw [show k + (d + 1) = k + d + 1 by omega]; omega
theorem pw_mul {g : Nat → Int × Int} {B : Int} (hg : ∀ a, 0 ≤ (g a).1) (v a : Nat) (hB : ∀ b, b ≤ a → (g b).1 ≤ B) : ∀ k : Nat, (pw g v a k).1 ≤ (k : Int) * B
 | 0 => by simp [pw]
 | k + 1 => by
  have h1 := pw_mul hg v a hB k
  have h2 := pw_step hg v a k
  have h3 := hB (a - k * v) (by omega)
  rw [h2, Int.natCast_add, Int.add_mul]; omega
/-- One value: one way at most. -/
theorem pw_one {v a : Nat} (hv : 1 ≤ v) : (payG [v] a).1 ≤ 1 := by
 have h0 : ∀ k, k ≤ a / v → (pw (payG []) v a k).1 = 0 := by
  intro k
  induction k with
  | zero => intro _; rfl
  | succ k ih =>
   intro hk
   have h1 := mul_of_le hv hk
   rw [pw_step (payG_nn []), ih (by omega)]
   rw [Nat.add_mul] at h1
   unfold payG
   rw [if_neg (by omega)]; rfl
 show (pw (payG []) v a (a / v + 1)).1 ≤ 1
 rw [pw_step (payG_nn []), h0 _ (Nat.le_refl _)]
 unfold payG
 split <;> decide
def payB : Nat → Int
 | 0 => 1
 | d + 1 => ((1000 / (7 - d) + 1 : Nat) : Int) * payB d
theorem payB_pos : ∀ d, 1 ≤ payB d
 | 0 => by decide
 | d + 1 => by
  have := payB_pos d
  have h : (1 : Int) ≤ ((1000 / (7 - d) + 1 : Nat) : Int) := Int.ofNat_le.2 (Nat.le_add_left 1 _)
  have h2 := Int.mul_le_mul_of_nonneg_right h (show (0 : Int) ≤ payB d by omega)
  rw [Int.one_mul] at h2
  exact Int.le_trans this h2
theorem payG_bd : ∀ (d : Nat) (vs : List Nat), d ≤ 7 → vs.length ≤ d + 1 → (∀ j, j < vs.length → 7 - d + j + 1 ≤ vs.getD j 0) → ∀ a, a ≤ 1000 → (payG vs a).1 ≤ payB d
 | d, [], _, _, _, a, _ => by
  have := payB_pos d
  unfold payG
  split
  ·exact this
  ·show (0 : Int) ≤ _; omega
 | 0, v :: vs, _, hl, hv, a, ha => by
  have hn : vs = [] := List.eq_nil_of_length_eq_zero (by simp only [List.length_cons] at hl; omega)
  subst hn
  have := hv 0 (by simp)
  simp only [List.getD_cons_zero] at this
  exact pw_one (by omega)
 | d + 1, v :: vs, hd, hl, hv, a, ha => by
  have h0 := hv 0 (by simp)
  simp only [List.getD_cons_zero] at h0
  have ih := payG_bd d vs (by omega) (by simp only [List.length_cons] at hl; omega) (fun j hj => by
   have := hv (j + 1) (by simp only [List.length_cons]; omega)
   rw [List.getD_cons_succ] at this; omega)
  have h1 := pw_mul (payG_nn vs) v a (B := payB d) (fun b hb => ih b (by omega)) (a / v + 1)
  refine Int.le_trans h1 ?_
  have h2 : a / v + 1 ≤ 1000 / (7 - d) + 1 := Nat.succ_le_succ (Nat.le_trans (Nat.div_le_div_right ha) (Nat.div_le_div_left (by omega) (by omega)))
  have h3 := payB_pos d
  exact Int.mul_le_mul_of_nonneg_right (by omega) (by omega)
theorem payB7 : payB 7 ≤ 1000000000000000000 := by decide
theorem payB_mono (d : Nat) : payB d ≤ payB (d + 1) := by
 have h3 := payB_pos d
 have h : (1 : Int) ≤ ((1000 / (7 - d) + 1 : Nat) : Int) := Int.ofNat_le.2 (Nat.le_add_left 1 _)
 have h2 := Int.mul_le_mul_of_nonneg_right h (show (0 : Int) ≤ payB d by omega)
 rw [Int.one_mul] at h2
 exact h2
theorem payB_le {d : Nat} (hd : d ≤ 7) : payB d ≤ 1000000000000000000 := by
 suffices hh : ∀ e, d + e = 7 → payB d ≤ payB 7 from Int.le_trans (hh (7 - d) (by omega)) payB7
 intro e
 induction e generalizing d with
 | zero => intro h; rw [show d = 7 by omega]; exact Int.le_refl _
 | succ e ih => intro h; exact Int.le_trans (payB_mono d) (ih (by omega) (by omega))
/-- The least is made: some count has it. -/
theorem cw_made {h : Nat → Int} {v a : Nat} : ∀ k, 0 ≤ cw h v a k → ∃ j, j < k ∧ 0 ≤ h (a - j * v) ∧ h (a - j * v) + (j : Int) = cw h v a k
 | 0, h0 => by simp [cw] at h0
 | k + 1, h0 => by
  unfold cw at h0 ⊢
  by_cases c1 : 0 ≤ h (a - k * v)
  ·rw [if_pos c1] at h0 ⊢
   by_cases c2 : cw h v a k < 0 ∨ h (a - k * v) + (k : Int) < cw h v a k
   ·rw [if_pos c2] at h0 ⊢; exact ⟨k, by omega, c1, rfl⟩
   ·rw [if_neg c2] at h0 ⊢
    obtain ⟨j, h1, h2, h3⟩ := cw_made k h0
    exact ⟨j, by omega, h2, h3⟩
  ·rw [if_neg c1] at h0 ⊢
   obtain ⟨j, h1, h2, h3⟩ := cw_made k h0
   exact ⟨j, by omega, h2, h3⟩
/-- The first count that has it. -/
theorem pay_first {v : Nat} {vs : List Nat} {a : Nat} (hv : 1 ≤ v) (h : 0 ≤ payH (v :: vs) a) : ∃ j, j * v ≤ a ∧ (0 ≤ payH vs (a - j * v) ∧ payH vs (a - j * v) + (j : Int) = payH (v :: vs) a) ∧ ∀ i, i < j → ¬ (0 ≤ payH vs (a - i * v) ∧ payH vs (a - i * v) + (i : Int) = payH (v :: vs) a) := by
 obtain ⟨j, h1, h2, h3⟩ := cw_made _ h
 have hj : j * v ≤ a := mul_of_le hv (by omega)
 have hm : ∀ j, j * v ≤ a → (0 ≤ payH vs (a - j * v) ∧ payH vs (a - j * v) + (j : Int) = payH (v :: vs) a) → ∃ j, j * v ≤ a ∧ (0 ≤ payH vs (a - j * v) ∧ payH vs (a - j * v) + (j : Int) = payH (v :: vs) a) ∧ ∀ i, i < j → ¬ (0 ≤ payH vs (a - i * v) ∧ payH vs (a - i * v) + (i : Int) = payH (v :: vs) a) := by
  intro j
  induction j using Nat.strongRecOn with
  | _ j ih =>
   intro hj ht
   by_cases hc : ∃ i, i < j ∧ (0 ≤ payH vs (a - i * v) ∧ payH vs (a - i * v) + (i : Int) = payH (v :: vs) a)
   ·obtain ⟨i, hi, hti⟩ := hc
    exact ih i hi (Nat.le_trans (Nat.mul_le_mul_right v (by omega)) hj) hti
   ·exact ⟨j, hj, ht, fun i hi hti => hc ⟨i, hi, hti⟩⟩
 exact hm j hj ⟨h2, h3⟩
end Go.Proofs.Ytdeipindfhkioaa.Pure

set_option linter.unusedVariables false
set_option linter.unusedSimpArgs false
namespace Go.Proofs.Ytdeipindfhkioaa.Pure
open Go.RowKit Go.Proofs.Ytdeipindfhkioaa.Q Go.Proofs.YtdeipindfhkioaaMine Go.Proofs.YtdeipindfhkioaaW.PrintWords Go.Proofs.YtdeipindfhkioaaW.PrintMore
def ofN (vs : List Nat) : List Int := vs.map (fun v : Nat => (v : Int))
theorem ofN_len (vs : List Nat) : (ofN vs).length = vs.length := List.length_map ..
theorem ofN_get {vs : List Nat} {i : Nat} (hi : i < vs.length) : (ofN vs).getD i 0 = ((vs.getD i 0 : Nat) : Int) := by
 unfold ofN
 rw [List.getD_eq_getElem?_getD, List.getElem?_map, getD_ge (z := 0) hi]; rfl
theorem wm {k v : Nat} (hk : k ≤ 1001) (hv : v ≤ 500) : wrap64 ((k : Int) * (v : Int)) = ((k * v : Nat) : Int) := by
 have h := Nat.mul_le_mul hk hv
 rw [← Int.natCast_mul]
 generalize k * v = m at h ⊢
 exact wrap_sm (by omega) (by omega)
def rowH (vs : List Nat) (a : Nat) : List Int := (List.range (a + 1)).map (fun x => payH vs x)
theorem rowH_len (vs : List Nat) (a : Nat) : (rowH vs a).length = a + 1 := by unfold rowH; simp
theorem rowH_get (vs : List Nat) {a x : Nat} (hx : x ≤ a) : (rowH vs a).getD x 0 = payH vs x := by
 unfold rowH
 rw [List.getD_eq_getElem?_getD, List.getElem?_map, List.getElem?_range (by omega)]; rfl
def tabH : List Nat → Nat → List (List Int)
 | [], a => [rowH [] a]
 | v :: vs, a => rowH (v :: vs) a :: tabH vs a
theorem tabH_len : ∀ (vs : List Nat) (a : Nat), (tabH vs a).length = vs.length + 1
 | [], a => rfl
 | v :: vs, a => by simp [tabH, tabH_len vs a]
theorem tabH_head (vs : List Nat) (a : Nat) : (tabH vs a).getD 0 [] = rowH vs a := by cases vs <;> rfl
theorem tabH_get : ∀ (vs : List Nat) (a i : Nat), i ≤ vs.length → (tabH vs a).getD i [] = rowH (vs.drop i) a
 | vs, a, 0, _ => tabH_head vs a
 | [], a, i + 1, h => by simp at h
 | v :: vs, a, i + 1, h => by
  simp only [List.length_cons] at h
  show (rowH (v :: vs) a :: tabH vs a).getD (i + 1) [] = _
  rw [List.getD_cons_succ, tabH_get vs a i (by omega)]; rfl
theorem cw_succ (h : Nat → Int) (v a k : Nat) : cw h v a (k + 1) = if 0 ≤ h (a - k * v) then (if cw h v a k < 0 ∨ h (a - k * v) + (k : Int) < cw h v a k then h (a - k * v) + (k : Int) else cw h v a k) else cw h v a k := rfl
theorem st_bd {p : Int} {x m k a : Nat} (hb : -1 ≤ p ∧ p ≤ ((x - m : Nat) : Int)) (hx : x ≤ a) (ha : a ≤ 1000) (hk : (k : Int) ≤ 1000) : wrap64 (p + (k : Int)) = p + (k : Int) ∧ ((x - m : Nat) : Int) < ((a + 1 : Nat) : Int) :=
 ⟨wrap_sm (by omega) (by omega), by omega⟩
theorem st_sub {x m : Nat} (h : m ≤ x) (hx : x ≤ 1000) : wrap64 ((x : Int) - (m : Int)) = ((x - m : Nat) : Int) := by
 rw [wrap_sm (by omega) (by omega)]; omega
theorem st_up {k : Nat} (hk : (k : Int) ≤ 1000) : wrap64 ((k : Int) + 1) = ((k + 1 : Nat) : Int) := by
 rw [wrap_sm (by omega) (by omega)]; rfl
theorem div_gt {x v : Nat} (hv : 1 ≤ v) : ¬ (((x / v + 1) * v : Nat) : Int) ≤ (x : Int) := by
 have h2 := Nat.lt_div_mul_add (a := x) (b := v) (by omega)
 have e : (x / v + 1) * v = x / v * v + v := by rw [Nat.add_mul, Nat.one_mul]
 rw [e]
 generalize x / v * v + v = m at h2
 omega
theorem div_bd {x v : Nat} (hx : x ≤ 1000) : x / v + 1 ≤ 1001 ∧ ((x / v : Nat) : Int) ≤ 1000 := by
 have hq : x / v ≤ x := Nat.div_le_self x v
 generalize x / v = q at hq
 omega
section
variable {l hv : List Int} {a : Nat} (ha : a ≤ 1000)
include ha
/-- One amount: the counts of one value. -/
theorem specCell {vs : List Nat} (hvs : ∀ v ∈ vs, 1 ≤ v) {v i : Nat} (hv1 : 1 ≤ v ∧ v ≤ 500) (hi : i < l.length) (hi2 : i < hv.length) (hl : l.getD i 0 = (v : Int)) (hh : hv.getD i 0 = 1000) {T : List (List Int)} (hT : T.getD 0 [] = rowH vs a) (hT0 : 0 < T.length) (hlen : l.length ≤ 8) {x : Nat} (hx : x ≤ a) {row : List Int} (hrow : row.length = a + 1) {r : List (List Int)}
  (hr : Ev (fun k => spec_l01Table.l2 k l hv (a : Int) T (i : Int) (row.set x (cw (payH vs) v x (x / v + 1))) ((x + 1 : Nat) : Int)) r) :
  ∀ d k : Nat, k + d = x / v + 1 → Ev (fun κ => spec_l01Table.l3 κ l hv (a : Int) T (i : Int) (row.set x (cw (payH vs) v x k)) (x : Int) (k : Int)) r := by
 have hq : x / v ≤ x := Nat.div_le_self x v
 have e1 : rd l (i : Int) = (v : Int) := by unfold rd; rw [Int.toNat_natCast]; exact hl
 have e2 : rd hv (i : Int) = 1000 := by unfold rd; rw [Int.toNat_natCast]; exact hh
 have e3 : rd_L5 T 0 = rowH vs a := hT
 have hq1 := (div_bd (v := v) (Nat.le_trans hx ha)).1
 have hq2 := (div_bd (v := v) (Nat.le_trans hx ha)).2
 have hT0i : (0 : Int) < (T.length : Int) := by omega
 have hxa : (x : Int) < ((a + 1 : Nat) : Int) := by omega
 have ewx : wrap64 ((x : Int) + 1) = ((x + 1 : Nat) : Int) := by rw [wrap_sm (by omega) (by omega)]; rfl
 intro d
 induction d with
 | zero =>
  intro k hk
  have hk' : k = x / v + 1 := hk
  subst hk'
  have hgt := div_gt (x := x) hv1.1
  refine Ev.step (f := fun κ => spec_l01Table.j4 κ l hv (a : Int) T (i : Int) (row.set x (cw (payH vs) v x (x / v + 1))) (x : Int) ((x / v + 1 : Nat) : Int) false) (fun κ => ?_) (Ev.step (fun κ => ?_) hr)
  ·simp only [spec_l01Table.l3]
   rw [if_pos (Int.natCast_nonneg i), if_pos (Int.ofNat_lt.2 hi2), e1, e2, wm hq1 hv1.2, decide_eq_false hgt, if_pos (Int.ofNat_lt.2 hi)]
   split <;> rfl
  ·simp only [spec_l01Table.j4]
   rw [if_neg (by simp), ewx]
 | succ d ih =>
  intro k hk
  have hkq : k ≤ x / v := by rw [← Nat.add_assoc] at hk; have := Nat.succ.inj hk; exact this ▸ Nat.le_add_right k d
  have hkv : k * v ≤ x := mul_of_le hv1.1 hkq
  have hk1 : k ≤ 1001 := Nat.le_trans hkq (Nat.le_of_succ_le hq1)
  have hk0 : (k : Int) ≤ 1000 := Int.le_trans (Int.ofNat_le.2 hkq) hq2
  have hkx : ((k * v : Nat) : Int) ≤ (x : Int) := Int.ofNat_le.2 hkv
  have hb := payH_bd vs hvs (x - k * v)
  have hc := cw_bd (payH_bd vs hvs) hv1.1 x k (Nat.le_succ_of_le hkq)
  have hn := ih (k + 1) (by rw [← hk]; exact Nat.succ_add_eq_add_succ k d)
  clear ih hr hk hq hq1 hq2 hkq
  rw [cw_succ] at hn
  have hw := (st_bd hb hx ha hk0).1
  have hsub := (st_bd hb hx ha hk0).2
  have hrl : (x : Int) < ((row.set x (cw (payH vs) v x k)).length : Int) := by rw [List.length_set, hrow]; exact hxa
  have ek := st_up hk0
  have ex := st_sub hkv (Nat.le_trans hx ha)
  have eg : rd (rowH vs a) ((x - k * v : Nat) : Int) = payH vs (x - k * v) := by unfold rd; rw [Int.toNat_natCast]; exact rowH_get vs (Nat.le_trans (Nat.sub_le _ _) hx)
  have eo : rd (row.set x (cw (payH vs) v x k)) (x : Int) = cw (payH vs) v x k := by
   unfold rd; rw [Int.toNat_natCast, List.getD_eq_getElem?_getD, List.getElem?_set_self (by rw [hrow]; exact Nat.lt_succ_of_le hx)]; rfl
  refine Ev.step (f := fun κ => spec_l01Table.j4 κ l hv (a : Int) T (i : Int) (row.set x (cw (payH vs) v x k)) (x : Int) (k : Int) true) (fun κ => ?_) (Ev.step (fun κ => ?_) hn)
  ·simp only [spec_l01Table.l3]
   rw [if_pos (Int.natCast_nonneg i), if_pos (Int.ofNat_lt.2 hi2), e1, e2, wm hk1 hv1.2, decide_eq_true hkx, if_pos hk0, if_pos (Int.ofNat_lt.2 hi)]
  ·simp only [spec_l01Table.j4]
   rw [if_pos trivial, if_pos hT0i, if_pos (Int.natCast_nonneg i), if_pos (Int.ofNat_lt.2 hi), e1, wm hk1 hv1.2, ex, if_pos (Int.natCast_nonneg _), e3, rowH_len, if_pos hsub, eg, Int.toNat_natCast, ek, eo]
   by_cases h0 : 0 ≤ payH vs (x - k * v)
   ·rw [if_pos h0, if_pos h0, if_pos (Int.natCast_nonneg x), if_pos hrl, hw, List.set_set]
    by_cases h1 : cw (payH vs) v x k < 0
    ·rw [if_pos h1, if_pos (.inl h1)]
    ·rw [if_neg h1]
     by_cases h2 : payH vs (x - k * v) + (k : Int) < cw (payH vs) v x k
     ·rw [if_pos h2, if_pos (.inr h2)]
     ·rw [if_neg h2, if_neg (fun h3 => h3.elim h1 h2)]
   ·rw [if_neg h0, if_neg h0]
/-- One row. -/
theorem specRow {vs : List Nat} (hvs : ∀ v ∈ vs, 1 ≤ v) {v i : Nat} (hv1 : 1 ≤ v ∧ v ≤ 500) (hi : i < l.length) (hi2 : i < hv.length) (hl : l.getD i 0 = (v : Int)) (hh : hv.getD i 0 = 1000) {T : List (List Int)} (hT : T.getD 0 [] = rowH vs a) (hT0 : 0 < T.length) (hTl : T.length ≤ 9) (hlen : l.length ≤ 8) {r : List (List Int)}
  (hr : Ev (fun k => spec_l01Table.l1 k l hv (a : Int) (rowH (v :: vs) a :: T) ((i : Int) - 1)) r) :
  ∀ d x : Nat, x + d = a + 1 → ∀ row : List Int, row.length = a + 1 → (∀ j, j < x → row.getD j 0 = payH (v :: vs) j) → Ev (fun κ => spec_l01Table.l2 κ l hv (a : Int) T (i : Int) row (x : Int)) r := by
 intro d
 induction d with
 | zero =>
  intro x hx row hrow hj
  have e : row = rowH (v :: vs) a := by
   apply List.ext_getElem?
   intro j
   by_cases h : j < a + 1
   ·rw [getD_ge (z := 0) (by omega), getD_ge (z := 0) (by rw [rowH_len]; exact h), hj j (by omega), rowH_get _ (by omega)]
   ·rw [List.getElem?_eq_none (by omega), List.getElem?_eq_none (by rw [rowH_len]; omega)]
  refine Ev.step (fun κ => ?_) hr
  simp only [spec_l01Table.l2]
  rw [if_neg (by omega), Option.bind_some, if_pos (by simp; omega), e, wrap_sm (by omega) (by omega)]; rfl
 | succ d ih =>
  intro x hx row hrow hj
  have hn := ih (x + 1) (by omega) (row.set x (payH (v :: vs) x)) (by rw [List.length_set]; exact hrow) (fun j h => by
   by_cases e : j = x
   ·subst e; rw [List.getD_eq_getElem?_getD, List.getElem?_set_self (by omega)]; rfl
   ·rw [List.getD_eq_getElem?_getD, List.getElem?_set_ne (by omega), ← List.getD_eq_getElem?_getD]; exact hj j (by omega))
  have hc := specCell ha hvs hv1 hi hi2 hl hh hT hT0 hlen (x := x) (by omega) hrow hn (x / v + 1) 0 (by omega)
  refine Ev.step (fun κ => ?_) hc
  simp only [spec_l01Table.l2]
  rw [if_pos (by omega), if_pos (by omega), if_pos (by omega), Int.toNat_natCast]; rfl
end
/-- The table. -/
theorem specTab {vs : List Nat} (hv : ∀ v ∈ vs, 1 ≤ v ∧ v ≤ 500) (hn : vs.length ≤ 8) {a : Nat} (ha : a ≤ 1000) : Ev (fun k => spec_l01Table.f k (ofN vs) (List.replicate vs.length 1000) (a : Int)) (tabH vs a) := by
 have hrows : ∀ i : Nat, i ≤ vs.length → Ev (fun k => spec_l01Table.l1 k (ofN vs) (List.replicate vs.length 1000) (a : Int) (tabH (vs.drop i) a) ((i : Int) - 1)) (tabH vs a) := by
  intro i
  induction i with
  | zero =>
   intro _
   refine Ev.step (f := fun _ => some (tabH vs a)) (fun k => ?_) (Ev.now _)
   simp only [spec_l01Table.l1]
   rw [if_neg (by omega)]; rfl
  | succ i ih =>
   intro hi
   have hd : vs.drop i = vs.getD i 0 :: vs.drop (i + 1) := drop_step 0 (by omega)
   have h1 := ih (by omega)
   rw [hd] at h1
   have hvi := hv (vs.getD i 0) (get_mem 0 (by omega)).1
   have h2 := specRow ha (l := ofN vs) (hv := List.replicate vs.length 1000) (vs := vs.drop (i + 1)) (fun v hm => (hv v (List.mem_of_mem_drop hm)).1) hvi (i := i) (by rw [ofN_len]; omega) (by simp; omega) (ofN_get (by omega)) (by rw [List.getD_eq_getElem?_getD, List.getElem?_replicate, if_pos (by omega)]; rfl) (tabH_head _ a) (by rw [tabH_len]; omega) (by rw [tabH_len, List.length_drop]; omega) (by rw [ofN_len]; exact hn) h1 (a + 1) 0 (by omega) (List.replicate (a + 1) 0) (by simp) (fun j h => by omega)
   refine Ev.step (fun k => ?_) h2
   simp only [spec_l01Table.l1]
   rw [if_pos (by omega), wrap_sm (i := (a : Int) + 1) (by omega) (by omega), if_pos (by omega), if_pos (by omega), show ((i + 1 : Nat) : Int) - 1 = (i : Int) by omega, show ((a : Int) + 1).toNat = a + 1 by omega]; rfl
 have hlast : ∀ d x : Nat, x + d = a + 1 → 1 ≤ x → ∀ row : List Int, row.length = a + 1 → (∀ j, j < x → row.getD j 0 = payH [] j) → Ev (fun k => spec_l01Table.l0 k (ofN vs) (List.replicate vs.length 1000) (a : Int) (vs.length : Int) row (x : Int)) (tabH vs a) := by
  intro d
  induction d with
  | zero =>
   intro x hx h1 row hrow hj
   have e : row = rowH [] a := by
    apply List.ext_getElem?
    intro j
    by_cases h : j < a + 1
    ·rw [getD_ge (z := 0) (by omega), getD_ge (z := 0) (by rw [rowH_len]; exact h), hj j (by omega), rowH_get _ (by omega)]
    ·rw [List.getElem?_eq_none (by omega), List.getElem?_eq_none (by rw [rowH_len]; omega)]
   have h2 := hrows vs.length (Nat.le_refl _)
   rw [List.drop_length] at h2
   refine Ev.step (fun k => ?_) h2
   simp only [spec_l01Table.l0]
   rw [if_neg (by omega), wrap_sm (by omega) (by omega), e]; rfl
  | succ d ih =>
   intro x hx h1 row hrow hj
   have hn := ih (x + 1) (by omega) (by omega) (row.set x (-1)) (by rw [List.length_set]; exact hrow) (fun j h => by
    by_cases e : j = x
    ·subst e; rw [List.getD_eq_getElem?_getD, List.getElem?_set_self (by omega)]; unfold payH; rw [if_neg (by omega)]; rfl
    ·rw [List.getD_eq_getElem?_getD, List.getElem?_set_ne (by omega), ← List.getD_eq_getElem?_getD]; exact hj j (by omega))
   refine Ev.step (fun k => ?_) hn
   simp only [spec_l01Table.l0]
   rw [if_pos (by omega), if_pos (by omega), if_pos (by omega), Int.toNat_natCast, wrap_sm (i := (x : Int) + 1) (by omega) (by omega)]; rfl
 unfold spec_l01Table.f
 simp only [wrap_sm (i := (a : Int) + 1) (by omega) (by omega), if_pos (show 0 ≤ (a : Int) + 1 by omega), if_pos (show a + 1 ≤ 35184372088832 by omega), ofN_len, show ((a : Int) + 1).toNat = a + 1 by omega]
 exact hlast a 1 (by omega) (Nat.le_refl _) (List.replicate (a + 1) 0) (by simp) (fun j h => by
  obtain rfl : j = 0 := by omega
  rw [List.getD_eq_getElem?_getD, List.getElem?_replicate, if_pos (by omega)]; rfl)
theorem specPlenty {l : List Int} (hl : l.length ≤ 2097152) : Ev (fun k => spec_l01Plenty.f k l) (List.replicate l.length 1000) := by
 unfold spec_l01Plenty.f
 refine Ev.eq (build_ev (fun k s i => spec_l01Plenty.l0 k l s i) l 0 (fun _ => (1000 : Int)) id (fun m s hm hs r hr => ?_) ?_) (by rw [id, List.map_const'])
 ·refine Ev.step (fun k => ?_) hr
  simp only [spec_l01Plenty.l0]
  rw [if_pos (by omega), if_pos (by omega), wrap_sm (i := (m : Int) + 1) (by omega) (by omega)]; rfl
 ·refine Ev.step (f := fun _ => some (l.map (fun _ => (1000 : Int)))) (fun k => ?_) (Ev.now _)
  simp only [spec_l01Plenty.l0]
  rw [if_neg (by omega)]
/-- The first counts that pay an amount with the fewest stamps. -/
def isCnt : List Nat → Nat → List Int → Prop
 | [], _, out => out = []
 | v :: vs, a, out => ∃ (j : Nat) (out' : List Int), out = (j : Int) :: out' ∧ j * v ≤ a ∧ (0 ≤ payH vs (a - j * v) ∧ payH vs (a - j * v) + (j : Int) = payH (v :: vs) a) ∧ (∀ i, i < j → ¬ (0 ≤ payH vs (a - i * v) ∧ payH vs (a - i * v) + (i : Int) = payH (v :: vs) a)) ∧ isCnt vs (a - j * v) out'
theorem isCnt_ex : ∀ (vs : List Nat), (∀ v ∈ vs, 1 ≤ v) → ∀ a, 0 ≤ payH vs a → ∃ out, isCnt vs a out
 | [], _, a, _ => ⟨[], rfl⟩
 | v :: vs, hv, a, h => by
  obtain ⟨j, h1, h2, h3⟩ := pay_first (hv v List.mem_cons_self) h
  obtain ⟨out, ho⟩ := isCnt_ex vs (fun x hx => hv x (List.mem_cons_of_mem _ hx)) (a - j * v) h2.1
  exact ⟨_, j, out, rfl, h1, h2, h3, ho⟩
theorem cntStep {T : List (List Int)} {l : List Int} {vs : List Nat} {A a i v k q : Nat} (hA : A ≤ 1000) (ha : a ≤ A) (hT : T.length = l.length + 1) (hi : i < l.length) (hi8 : i < 8) (e1 : rd l (i : Int) = (v : Int)) (e2 : T.getD (i + 1) [] = rowH vs A) (e3 : T.getD i [] = rowH (v :: vs) A) (hvs : ∀ v ∈ vs, 1 ≤ v) (hq : wrap64 ((k : Int) * (v : Int)) = (q : Int)) (hqa : q ≤ a) (hk : k ≤ 1000) {pre : List Int} (hp : pre.length ≤ 8) (κ : Nat) :
  spec_l01Counts.l1 (κ + 1) T l (a : Int) pre (i : Int) (k : Int) = if 0 ≤ payH vs (a - q) ∧ payH vs (a - q) + (k : Int) = payH (v :: vs) a then spec_l01Counts.l0 κ T l ((a - q : Nat) : Int) (pre ++ [(k : Int)]) ((i + 1 : Nat) : Int) else spec_l01Counts.l1 κ T l (a : Int) pre (i : Int) ((k + 1 : Nat) : Int) := by
 have hb := payH_bd vs hvs (a - q)
 revert hq
 have c1 : ¬ (q : Int) > (a : Int) := by omega
 have c2 : (0 : Int) ≤ ((i + 1 : Nat) : Int) ∧ ((i + 1 : Nat) : Int) < (T.length : Int) ∧ (i : Int) < (T.length : Int) ∧ (i : Int) < (l.length : Int) := by omega
 have c3 : ((a - q : Nat) : Int) < ((A + 1 : Nat) : Int) ∧ (a : Int) < ((A + 1 : Nat) : Int) ∧ pre.length < 17592186044416 := by omega
 have es : wrap64 ((a : Int) - (q : Int)) = ((a - q : Nat) : Int) := st_sub hqa (by omega)
 have ei : wrap64 ((i : Int) + 1) = ((i + 1 : Nat) : Int) := by clear es; rw [wrap_sm (by omega) (by omega)]; rfl
 have ek : wrap64 ((k : Int) + 1) = ((k + 1 : Nat) : Int) := by clear es ei; rw [wrap_sm (by omega) (by omega)]; rfl
 have ew : wrap64 (payH vs (a - q) + (k : Int)) = payH vs (a - q) + (k : Int) := by clear es ei ek; exact wrap_sm (by omega) (by omega)
 have f2 : rd_L5 T ((i + 1 : Nat) : Int) = rowH vs A := by show T.getD ((i + 1 : Nat) : Int).toNat [] = _; rw [Int.toNat_natCast]; exact e2
 have f3 : rd_L5 T (i : Int) = rowH (v :: vs) A := by show T.getD ((i : Nat) : Int).toNat [] = _; rw [Int.toNat_natCast]; exact e3
 have f4 : rd (rowH (v :: vs) A) (a : Int) = payH (v :: vs) a := by unfold rd; rw [Int.toNat_natCast]; exact rowH_get _ ha
 have f5 : rd (rowH vs A) ((a - q : Nat) : Int) = payH vs (a - q) := by unfold rd; rw [Int.toNat_natCast]; exact rowH_get _ (Nat.le_trans (Nat.sub_le _ _) ha)
 intro hq
 simp only [spec_l01Counts.l1]
 rw [if_pos (Int.natCast_nonneg i), if_pos c2.2.2.2, e1, hq, if_neg c1, ei, if_pos c2.1, if_pos c2.2.1, es, if_pos (Int.natCast_nonneg _), f2, rowH_len, if_pos c3.1, f5, ek]
 by_cases h0 : payH vs (a - q) < 0
 ·rw [if_pos h0, if_neg (fun h => absurd h.1 (Int.not_le.2 h0))]
 ·rw [if_neg h0, if_pos c2.2.2.1, if_pos (Int.natCast_nonneg a), f3, rowH_len, if_pos c3.2.1, f4, ew]
  by_cases h1 : payH vs (a - q) + (k : Int) = payH (v :: vs) a
  ·rw [if_pos h1, if_pos c3.2.2, if_pos ⟨Int.not_lt.1 h0, h1⟩]
  ·rw [if_neg h1, if_neg (fun h => h1 h.2)]
theorem mul_bd {j v a : Nat} (hv : 1 ≤ v) (h : j * v ≤ a) : j ≤ a := by
 have := Nat.mul_le_mul_left j hv
 rw [Nat.mul_one] at this
 exact Nat.le_trans this h
theorem specCnt {vs : List Nat} (hv : ∀ v ∈ vs, 1 ≤ v ∧ v ≤ 500) (hn : vs.length ≤ 8) {A : Nat} (hA : A ≤ 1000) : ∀ d i : Nat, i + d = vs.length → ∀ a, a ≤ A → ∀ (pre out : List Int), pre.length ≤ i → isCnt (vs.drop i) a out → Ev (fun k => spec_l01Counts.l0 k (tabH vs A) (ofN vs) (a : Int) pre (i : Int)) (pre ++ out) := by
 have hO := ofN_len vs
 intro d
 induction d with
 | zero =>
  intro i hi a ha pre out hp hc
  rw [List.drop_eq_nil_of_le (by omega)] at hc
  have ho : out = [] := hc
  subst ho
  refine Ev.step (f := fun _ => some (pre ++ [])) (fun k => ?_) (Ev.now _)
  simp only [spec_l01Counts.l0]
  rw [if_neg (by omega), List.append_nil]
 | succ d ih =>
  intro i hi a ha pre out hp hc
  have hi1 : i < vs.length := by omega
  have hdr := drop_step 0 hi1
  rw [hdr] at hc
  have e1 : rd (ofN vs) (i : Int) = ((vs.getD i 0 : Nat) : Int) := by unfold rd; rw [Int.toNat_natCast]; exact ofN_get hi1
  have e2 := tabH_get vs A (i + 1) hi1
  have e3 := tabH_get vs A i (Nat.le_of_lt hi1)
  rw [hdr] at e3
  have hvi := hv (vs.getD i 0) (get_mem 0 hi1).1
  have hvs : ∀ v ∈ vs.drop (i + 1), 1 ≤ v := fun v hm => (hv v (List.mem_of_mem_drop hm)).1
  have hT : (tabH vs A).length = (ofN vs).length + 1 := by rw [tabH_len, hO]
  have hi2 : i < (ofN vs).length := by omega
  have hi3 : (i : Int) < ((ofN vs).length : Int) := by omega
  have hp8 : pre.length ≤ 8 := by omega
  have hi8 : i < 8 := by omega
  have hih := ih (i + 1) (by omega)
  clear ih hi hdr
  generalize vs.getD i 0 = v at *
  obtain ⟨j, out', rfl, hj1, hj2, hj3, hc'⟩ := hc
  have h2 := hih (a - j * v) (Nat.le_trans (Nat.sub_le _ _) ha) (pre ++ [(j : Int)]) out' (by rw [List.length_append]; exact Nat.succ_le_succ hp) hc'
  rw [List.append_assoc, List.singleton_append] at h2
  have hja := mul_bd hvi.1 hj1
  have inner : ∀ e m : Nat, m + e = j → Ev (fun k => spec_l01Counts.l1 k (tabH vs A) (ofN vs) (a : Int) pre (i : Int) (m : Int)) (pre ++ (j : Int) :: out') := by
   intro e
   induction e with
   | zero =>
    intro m hm
    obtain rfl : m = j := hm
    exact Ev.step (fun k => by rw [cntStep hA ha hT hi2 hi8 e1 e2 e3 hvs (wm (Nat.le_trans hja (Nat.le_trans ha (Nat.le_succ_of_le hA))) hvi.2) hj1 (Nat.le_trans hja (Nat.le_trans ha hA)) hp8, if_pos hj2]) h2
   | succ e ih2 =>
    intro m hm
    have hml : m < j := by rw [← hm]; exact Nat.lt_add_of_pos_right (Nat.succ_pos e)
    have hmv : m * v ≤ a := Nat.le_trans (Nat.mul_le_mul_right _ (Nat.le_of_lt hml)) hj1
    have hma := mul_bd hvi.1 hmv
    exact Ev.step (fun k => by rw [cntStep hA ha hT hi2 hi8 e1 e2 e3 hvs (wm (Nat.le_trans hma (Nat.le_trans ha (Nat.le_succ_of_le hA))) hvi.2) hmv (Nat.le_trans hma (Nat.le_trans ha hA)) hp8, if_neg (hj3 m hml)]) (ih2 (m + 1) (by rw [← hm]; exact Nat.succ_add_eq_add_succ m e))
  refine Ev.step (fun k => ?_) (inner j 0 (Nat.zero_add j))
  simp only [spec_l01Counts.l0]
  rw [if_pos hi3]; rfl
end Go.Proofs.Ytdeipindfhkioaa.Pure

set_option linter.unusedVariables false
set_option linter.unusedSimpArgs false
namespace Go.Proofs.Ytdeipindfhkioaa.Pure
open Go.RowKit Go.Proofs.Ytdeipindfhkioaa.Q Go.Proofs.YtdeipindfhkioaaMine Go.Proofs.YtdeipindfhkioaaW.PrintWords Go.Proofs.YtdeipindfhkioaaW.PrintMore
abbrev PY := S128
def mkS (p : Int × Int) : PY := ⟨p.1, p.2⟩
def rowG (vs : List Nat) (a : Nat) : List PY := (List.range (a + 1)).map (fun x => mkS (payG vs x))
theorem rowG_len (vs : List Nat) (a : Nat) : (rowG vs a).length = a + 1 := by unfold rowG; simp
theorem rowG_get (vs : List Nat) {a x : Nat} (hx : x ≤ a) : (rowG vs a).getD x z128 = mkS (payG vs x) := by
 unfold rowG
 rw [List.getD_eq_getElem?_getD, List.getElem?_map, List.getElem?_range (by omega)]; rfl
def tabG : List Nat → Nat → List (List PY)
 | [], a => [rowG [] a]
 | v :: vs, a => rowG (v :: vs) a :: tabG vs a
theorem tabG_len : ∀ (vs : List Nat) (a : Nat), (tabG vs a).length = vs.length + 1
 | [], a => rfl
 | v :: vs, a => by simp [tabG, tabG_len vs a]
theorem tabG_head (vs : List Nat) (a : Nat) : (tabG vs a).getD 0 [] = rowG vs a := by cases vs <;> rfl
theorem tabG_get : ∀ (vs : List Nat) (a i : Nat), i ≤ vs.length → (tabG vs a).getD i [] = rowG (vs.drop i) a
 | vs, a, 0, _ => tabG_head vs a
 | [], a, i + 1, h => by simp at h
 | v :: vs, a, i + 1, h => by
  simp only [List.length_cons] at h
  show (rowG (v :: vs) a :: tabG vs a).getD (i + 1) [] = _
  rw [List.getD_cons_succ, tabG_get vs a i (by omega)]; rfl
theorem setD_same {α : Type} (l : List α) {i : Nat} (x z : α) (h : i < l.length) : (l.set i x).getD i z = x := by
 rw [List.getD_eq_getElem?_getD, List.getElem?_set_self h]; rfl
theorem setD_ne {α : Type} (l : List α) {i j : Nat} (x z : α) (h : i ≠ j) : (l.set i x).getD j z = l.getD j z := by
 rw [List.getD_eq_getElem?_getD, List.getElem?_set_ne h, ← List.getD_eq_getElem?_getD]
def pwS (s g : Int × Int) (k : Nat) : Int × Int := if g.1 = 0 then s else (s.1 + g.1, if s.1 = 0 ∨ g.2 + (k : Int) < s.2 then g.2 + (k : Int) else s.2)
theorem giStep {Y : List (List PY)} {row : List PY} {V H : List Int} {vs : List Nat} {a i x k q v : Nat} {s g : Int × Int} (ha : a ≤ 1000) (hx : x ≤ a) (hi8 : i < 8) (hY : i + 1 < Y.length) (hV : i < V.length) (e1 : rd V (i : Int) = (v : Int)) (e2 : Y.getD (i + 1) [] = rowG vs a) (hrow : row.length = a + 1) (hqx : q ≤ x) (hk : k ≤ 1000)
  (hs : 0 ≤ s.1 ∧ s.1 ≤ 1000000000000000000) (hgg : payG vs (x - q) = g) (hg : 0 ≤ g.1 ∧ g.1 ≤ 1000000000000000000) (hg2 : g.1 ≠ 0 → 0 ≤ g.2 ∧ g.2 ≤ 1000) (hq : wrap64 ((k : Int) * (v : Int)) = (q : Int)) (κ : Nat) (x41 x42 : Int) :
  impl_purse_table.j3 (κ + 1) (a : Int) (Y.set i (row.set x (mkS s))) (i : Int) (x : Int) (k : Int) x41 x42 true V H = impl_purse_table.l2 κ (a : Int) (Y.set i (row.set x (mkS (pwS s g k)))) (i : Int) (x : Int) ((k + 1 : Nat) : Int) x41 x42 V H := by
 revert hq
 have hi : i < Y.length := by omega
 have hxr : x < row.length := by omega
 have lY : ∀ R : List PY, (Y.set i R).length = Y.length := fun R => List.length_set
 have lX : ∀ c : PY, (row.set x c).length = a + 1 := fun c => by rw [List.length_set]; exact hrow
 have c1 : ((i + 1 : Nat) : Int) < (Y.length : Int) ∧ (i : Int) < (V.length : Int) ∧ (i : Int) < (Y.length : Int) := by omega
 have c2 : ((x - q : Nat) : Int) < ((a + 1 : Nat) : Int) ∧ (x : Int) < ((a + 1 : Nat) : Int) := by omega
 have r1 : ∀ R : List PY, rd_L9 (Y.set i R) ((i + 1 : Nat) : Int) = rowG vs a := fun R => by
  show (Y.set i R).getD ((i + 1 : Nat) : Int).toNat [] = _
  rw [Int.toNat_natCast, setD_ne _ _ _ (Nat.ne_of_lt (Nat.lt_succ_self i))]; exact e2
 have r2 : ∀ R : List PY, rd_L9 (Y.set i R) (i : Int) = R := fun R => by
  show (Y.set i R).getD ((i : Nat) : Int).toNat [] = _
  rw [Int.toNat_natCast, setD_same _ _ _ hi]
 have r3 : ∀ c : PY, rd_T128 (row.set x c) (x : Int) = c := fun c => by
  show (row.set x c).getD ((x : Nat) : Int).toNat _ = _
  rw [Int.toNat_natCast, setD_same _ _ _ hxr]
 have r4 : rd_T128 (rowG vs a) ((x - q : Nat) : Int) = mkS g := by
  show (rowG vs a).getD ((x - q : Nat) : Int).toNat _ = _
  rw [Int.toNat_natCast, rowG_get vs (Nat.le_trans (Nat.sub_le _ _) hx), hgg]
 have es : wrap64 ((x : Int) - (q : Int)) = ((x - q : Nat) : Int) := st_sub hqx (by omega)
 have ei : wrap64 ((i : Int) + 1) = ((i + 1 : Nat) : Int) := by clear es; rw [wrap_sm (by omega) (by omega)]; rfl
 have ek : wrap64 ((k : Int) + 1) = ((k + 1 : Nat) : Int) := by clear es ei; rw [wrap_sm (by omega) (by omega)]; rfl
 have ew : wrap64 (s.1 + g.1) = s.1 + g.1 := by clear es ei ek; exact wrap_sm (by omega) (by omega)
 have eg : g.1 ≠ 0 → wrap64 (g.2 + (k : Int)) = g.2 + (k : Int) := by
  clear es ei ek ew
  intro h
  have := hg2 h
  exact wrap_sm (by omega) (by omega)
 intro hq
 simp only [impl_purse_table.j3]
 rw [if_pos trivial, ei, if_pos (Int.natCast_nonneg _), lY, if_pos c1.1, if_pos (Int.natCast_nonneg i), if_pos c1.2.1, e1, hq, es, if_pos (Int.natCast_nonneg _), r1, rowG_len, if_pos c2.1, r4, show (mkS g).f0 = g.1 from rfl, show (mkS g).f1 = g.2 from rfl, ek]
 unfold pwS
 by_cases h0 : g.1 = 0
 ·rw [if_pos h0, if_pos h0]
 ·rw [if_neg h0, if_neg h0, if_pos c1.2.2, if_pos (Int.natCast_nonneg x), r2, lX, if_pos c2.2, r3, show (mkS s).f0 = s.1 from rfl, show (mkS s).f1 = s.2 from rfl, eg h0, Int.toNat_natCast, Int.toNat_natCast, List.set_set, List.set_set]
  by_cases h1 : s.1 = 0
  ·rw [if_pos h1, Option.bind_some, r2, lX, if_pos c2.2, r3, List.set_set, List.set_set, if_pos (.inl h1), ew]; rfl
  ·rw [if_neg h1]
   by_cases h2 : g.2 + (k : Int) < s.2
   ·rw [if_pos h2, Option.bind_some, r2, lX, if_pos c2.2, r3, List.set_set, List.set_set, if_pos (.inr h2), ew]; rfl
   ·rw [if_neg h2, if_neg (fun h => h.elim h1 h2), List.set_set, List.set_set, ew]; rfl
theorem pw_succ (g : Nat → Int × Int) (v a k : Nat) : pw g v a (k + 1) = pwS (pw g v a k) (g (a - k * v)) k := rfl
theorem giCell {Y : List (List PY)} {row : List PY} {V H : List Int} {vs : List Nat} {a i x v : Nat} (ha : a ≤ 1000) (hx : x ≤ a) (hi8 : i < 8) (hY : i + 1 < Y.length) (hV : i < V.length) (hH : i < H.length) (e1 : rd V (i : Int) = (v : Int)) (eh : rd H (i : Int) = 1099511627776) (e2 : Y.getD (i + 1) [] = rowG vs a) (hrow : row.length = a + 1) (hv1 : 1 ≤ v ∧ v ≤ 500)
  (hvs : ∀ v ∈ vs, 1 ≤ v) (hG : ∀ b, b ≤ a → (payG vs b).1 ≤ 1000000000000000000) (hP : ∀ k, k ≤ x / v + 1 → (pw (payG vs) v x k).1 ≤ 1000000000000000000) (x41 x42 : Int) {r : List (List PY)}
  (hr : Ev (fun κ => impl_purse_table.l1 κ (a : Int) (Y.set i (row.set x (mkS (pw (payG vs) v x (x / v + 1))))) (i : Int) x41 (wrap64 (x42 + 1)) V H) r) :
  ∀ d k : Nat, k + d = x / v + 1 → Ev (fun κ => impl_purse_table.l2 κ (a : Int) (Y.set i (row.set x (mkS (pw (payG vs) v x k)))) (i : Int) (x : Int) (k : Int) x41 x42 V H) r := by
 have hq1 := (div_bd (v := v) (Nat.le_trans hx ha)).1
 have hq2 := (div_bd (v := v) (Nat.le_trans hx ha)).2
 have hVi : (i : Int) < (V.length : Int) := by omega
 have hHi : (i : Int) < (H.length : Int) := by omega
 intro d
 induction d with
 | zero =>
  intro k hk
  have hk' : k = x / v + 1 := hk
  subst hk'
  have hgt := div_gt (x := x) hv1.1
  have hle : ((x / v + 1 : Nat) : Int) ≤ 1099511627776 := by
   have h3 : ((x / v + 1 : Nat) : Int) ≤ ((1001 : Nat) : Int) := Int.ofNat_le.2 hq1
   exact Int.le_trans h3 (by decide)
  refine Ev.step (f := fun κ => impl_purse_table.j3 κ (a : Int) (Y.set i (row.set x (mkS (pw (payG vs) v x (x / v + 1))))) (i : Int) (x : Int) ((x / v + 1 : Nat) : Int) x41 x42 false V H) (fun κ => ?_) (Ev.step (fun κ => ?_) hr)
  ·simp only [impl_purse_table.l2]
   rw [if_pos (Int.natCast_nonneg i), if_pos hHi, eh, if_pos hle, if_pos hVi, e1, wm hq1 hv1.2, decide_eq_false hgt]
  ·simp only [impl_purse_table.j3]
   rw [if_neg (by simp)]
 | succ d ih =>
  intro k hk
  have hkq : k ≤ x / v := by rw [← Nat.add_assoc] at hk; have := Nat.succ.inj hk; exact this ▸ Nat.le_add_right k d
  have hkv : k * v ≤ x := mul_of_le hv1.1 hkq
  have hk1 : k ≤ 1001 := Nat.le_trans hkq (Nat.le_of_succ_le hq1)
  have hk0 : k ≤ 1000 := Nat.le_of_succ_le_succ (Nat.le_trans (Nat.succ_le_succ hkq) hq1)
  have hkx : ((k * v : Nat) : Int) ≤ (x : Int) := Int.ofNat_le.2 hkv
  have hle : (k : Int) ≤ 1099511627776 := Int.le_trans (Int.ofNat_le.2 hk0) (by decide)
  have hn := ih (k + 1) (by rw [← hk]; exact Nat.succ_add_eq_add_succ k d)
  rw [pw_succ] at hn
  have hE := pay_E vs (x - k * v)
  have hB := payH_bd vs hvs (x - k * v)
  have hxk : x - k * v ≤ 1000 := Nat.le_trans (Nat.sub_le _ _) (Nat.le_trans hx ha)
  have hg2 : (payG vs (x - k * v)).1 ≠ 0 → 0 ≤ (payG vs (x - k * v)).2 ∧ (payG vs (x - k * v)).2 ≤ 1000 := by
   intro h
   rcases hE with ⟨h1, _⟩ | ⟨_, h2, h3⟩
   ·exact absurd h1 h
   ·refine ⟨h3, ?_⟩
    rw [← h2]
    exact Int.le_trans hB.2 (Int.ofNat_le.2 hxk)
  have hst := fun κ => giStep (H := H) ha hx hi8 hY hV e1 e2 hrow hkv hk0 (s := pw (payG vs) v x k) ⟨pw_nn (payG_nn vs) v x k, hP k (Nat.le_succ_of_le hkq)⟩ rfl ⟨payG_nn vs _, hG _ (Nat.le_trans (Nat.sub_le _ _) hx)⟩ hg2 (wm hk1 hv1.2) κ x41 x42
  refine Ev.step (f := fun κ => impl_purse_table.j3 κ (a : Int) (Y.set i (row.set x (mkS (pw (payG vs) v x k)))) (i : Int) (x : Int) (k : Int) x41 x42 true V H) (fun κ => ?_) (Ev.step hst hn)
  simp only [impl_purse_table.l2]
  rw [if_pos (Int.natCast_nonneg i), if_pos hHi, eh, if_pos hle, if_pos hVi, e1, wm hk1 hv1.2, decide_eq_true hkx]
/-- One row. -/
theorem giRow {Y : List (List PY)} {V H : List Int} {vs : List Nat} {a i v : Nat} (ha : a ≤ 1000) (hi8 : i < 8) (hY : i + 1 < Y.length) (hV : i < V.length) (hH : i < H.length) (e1 : rd V (i : Int) = (v : Int)) (eh : rd H (i : Int) = 1099511627776) (e2 : Y.getD (i + 1) [] = rowG vs a) (hv1 : 1 ≤ v ∧ v ≤ 500)
  (hvs : ∀ v ∈ vs, 1 ≤ v) (hG : ∀ b, b ≤ a → (payG vs b).1 ≤ 1000000000000000000) (hP : ∀ b, b ≤ a → (payG (v :: vs) b).1 ≤ 1000000000000000000) {r : List (List PY)}
  (hr : Ev (fun κ => impl_purse_table.l0 κ (a : Int) (Y.set i (rowG (v :: vs) a)) ((i : Int) - 1) V H) r) :
  ∀ d x : Nat, x + d = a + 1 → ∀ row : List PY, row.length = a + 1 → (∀ j, j < x → row.getD j z128 = mkS (payG (v :: vs) j)) → (∀ j, x ≤ j → j < a + 1 → row.getD j z128 = mkS (0, 0)) → Ev (fun κ => impl_purse_table.l1 κ (a : Int) (Y.set i row) (i : Int) ((a + 1 : Nat) : Int) (x : Int) V H) r := by
 intro d
 induction d with
 | zero =>
  intro x hx row hrow hj _
  have e : row = rowG (v :: vs) a := by
   apply List.ext_getElem?
   intro j
   by_cases h : j < a + 1
   ·rw [getD_ge (z := z128) (by omega), getD_ge (z := z128) (by rw [rowG_len]; exact h), hj j (by omega), rowG_get _ (by omega)]
   ·rw [List.getElem?_eq_none (by omega), List.getElem?_eq_none (by rw [rowG_len]; omega)]
  have hx' : x = a + 1 := hx
  subst hx'
  refine Ev.step (fun κ => ?_) hr
  simp only [impl_purse_table.l1]
  rw [if_neg (Int.lt_irrefl _), e, show wrap64 ((i : Int) - 1) = (i : Int) - 1 from wrap_sm (by omega) (by omega)]
 | succ d ih =>
  intro x hx row hrow hj hz
  have hxa : x ≤ a := by omega
  have hn := ih (x + 1) (by omega) (row.set x (mkS (payG (v :: vs) x))) (by rw [List.length_set]; exact hrow) (fun j h => by
   by_cases e : j = x
   ·subst e; exact setD_same _ _ _ (by omega)
   ·rw [setD_ne _ _ _ (fun h2 => e h2.symm)]; exact hj j (by omega)) (fun j h h2 => by rw [setD_ne _ _ _ (by omega)]; exact hz j (by omega) h2)
  have hlt : (x : Int) < ((a + 1 : Nat) : Int) := by omega
  have e0 : row.set x (mkS (pw (payG vs) v x 0)) = row := by
   apply List.ext_getElem?
   intro j
   by_cases h : j = x
   ·subst h
    have hjr : j < row.length := by omega
    rw [List.getElem?_set_self hjr, getD_ge (z := z128) hjr, hz j (Nat.le_refl _) (by omega)]; rfl
   ·rw [List.getElem?_set_ne (fun h2 => h h2.symm)]
  have hx1 : wrap64 ((x : Int) + 1) = ((x + 1 : Nat) : Int) := by rw [wrap_sm (by omega) (by omega)]; rfl
  rw [← hx1] at hn
  have hpx := hP x hxa
  have hc := giCell ha hxa hi8 hY hV hH e1 eh e2 hrow hv1 hvs hG (fun k hk => by
   obtain ⟨m, hm⟩ := Nat.exists_eq_add_of_le hk
   have h := pw_le (payG_nn vs) v x (k := k) m
   rw [← hm] at h
   exact Int.le_trans h hpx) ((a + 1 : Nat) : Int) (x : Int) hn (x / v + 1) 0 (Nat.zero_add _)
  rw [e0] at hc
  refine Ev.step (fun κ => ?_) hc
  simp only [impl_purse_table.l1]
  rw [if_pos hlt]; rfl
end Go.Proofs.Ytdeipindfhkioaa.Pure

set_option linter.unusedVariables false
set_option linter.unusedSimpArgs false
namespace Go.Proofs.Ytdeipindfhkioaa.Pure
open Go.RowKit Go.Proofs.Ytdeipindfhkioaa.Q Go.Proofs.YtdeipindfhkioaaMine Go.Proofs.YtdeipindfhkioaaW.PrintWords Go.Proofs.YtdeipindfhkioaaW.PrintMore
theorem specPrice {st : List Int} {pr : List (List Int)} (h : wfTable st pr) (ho : okT st pr = true) {z : Int} (hz : 0 ≤ z ∧ z ≤ (pr.length : Int) - 1) (w : Int) : Ev (fun k => spec_l03Price.f k st pr z w) (priceOf st pr z w) := by
 unfold spec_l03Price.f priceOf
 refine Ev.bind (specStep h w) ?_
 have hlo := stepOf_lo st w
 have hhi := stepOf_hi st w
 obtain ⟨hr, hx⟩ := okT_row ho hz
 generalize stepOf st w = s at *
 by_cases hn : s < 0
 ·simp only [if_pos hn]; exact Ev.now _
 ·simp only [if_neg hn]
  rw [show rd_L1 pr z = pr.getD z.toNat [] from rfl, if_pos (by omega), if_pos (by omega), if_pos (by omega), if_pos (by omega)]
  refine Ev.eq (Ev.now _) ?_
  unfold priceAt rd
  have := hx s.toNat (by omega)
  exact wrap_sm (by omega) (by omega)
end Go.Proofs.Ytdeipindfhkioaa.Pure

set_option linter.unusedVariables false
set_option linter.unusedSimpArgs false
namespace Go.Proofs.Ytdeipindfhkioaa.Pure
open Go.RowKit Go.Proofs.Ytdeipindfhkioaa.Q Go.Proofs.YtdeipindfhkioaaMine Go.Proofs.YtdeipindfhkioaaW.PrintWords Go.Proofs.YtdeipindfhkioaaW.PrintMore
theorem implPrice {st : List Int} {pr : List (List Int)} (h : wfTable st pr) (ho : okT st pr = true) {z : Int} (hz : 0 ≤ z ∧ z ≤ (pr.length : Int) - 1) (w : Int) : impl_Table_price.f st pr z w = some (if stepOf st w < 0 then (0, false) else (priceAt pr z (stepOf st w), true)) := by
 unfold impl_Table_price.f
 rw [implStep h, Option.bind_some]
 have hlo := stepOf_lo st w
 have hhi := stepOf_hi st w
 obtain ⟨hr, hx⟩ := okT_row ho hz
 generalize stepOf st w = s at *
 by_cases hn : s < 0
 ·simp only [if_pos hn]
 ·simp only [if_neg hn]
  rw [show rd_L1 pr z = pr.getD z.toNat [] from rfl, if_pos (by omega), if_pos (by omega), if_pos (by omega), if_pos (by omega)]
  unfold priceAt rd
  have := hx s.toNat (by omega)
  rw [wrap_sm (by omega) (by omega)]
end Go.Proofs.Ytdeipindfhkioaa.Pure

set_option linter.unusedVariables false
set_option linter.unusedSimpArgs false
namespace Go.Proofs.Ytdeipindfhkioaa.Pure
open Go.RowKit Go.Proofs.Ytdeipindfhkioaa.Q Go.Proofs.YtdeipindfhkioaaMine Go.Proofs.YtdeipindfhkioaaW.PrintWords Go.Proofs.YtdeipindfhkioaaW.PrintMore
def ask1 (st : List Int) (pr : List (List Int)) (z : Int) (fine : Bool) : Int := if okT st pr = true then (if (inR z 0 ((pr.length : Int) - 1) && fine) = true then 0 else 2) else 1
theorem ask1_ok {st : List Int} {pr : List (List Int)} {z : Int} {fine : Bool} (h : ask1 st pr z fine = 0) : okT st pr = true ∧ (0 ≤ z ∧ z ≤ (pr.length : Int) - 1) := by
 unfold ask1 at h
 cases ho : okT st pr with
 | false => rw [ho] at h; simp at h
 | true =>
  rw [ho] at h
  simp only [if_true] at h
  cases hc : (inR z 0 ((pr.length : Int) - 1) && fine) with
  | false => rw [hc] at h; simp at h
  | true => rw [Bool.and_eq_true, inR_iff] at hc; exact ⟨rfl, hc.1⟩
theorem specAsked1 {st : List Int} {pr : List (List Int)} (h : wfTable st pr) (z : Int) (fine : Bool) : Ev (fun k => spec_l03Asked.f k st pr z fine) (ask1 st pr z fine) := by
 have hp := h.2.1
 unfold spec_l03Asked.f spec_l03Zone.f ask1
 refine Ev.bind (specT h) ?_
 simp only [l00In_eq, Option.bind_some, wrap_sm (i := (pr.length : Int) - 1) (by omega) (by omega)]
 cases okT st pr <;> cases inR z 0 ((pr.length : Int) - 1) <;> cases fine <;> exact Ev.now _
def rPriceOf (st : List Int) (pr : List (List Int)) (z w : Int) : Int × Int := if ask1 st pr z (inR w 1 2000) = 0 then (if stepOf st w < 0 then (0, 6) else (priceAt pr z (stepOf st w), 0)) else (0, ask1 st pr z (inR w 1 2000))
theorem priceAt_bd {st : List Int} {pr : List (List Int)} (ho : okT st pr = true) {z : Int} (hz : 0 ≤ z ∧ z ≤ (pr.length : Int) - 1) {w : Int} (hs : ¬ stepOf st w < 0) : 0 ≤ priceAt pr z (stepOf st w) ∧ priceAt pr z (stepOf st w) ≤ 10000 := by
 have hhi := stepOf_hi st w
 obtain ⟨hr, hx⟩ := okT_row ho hz
 unfold priceAt
 exact hx (stepOf st w).toNat (by omega)
theorem specPriceOf {st : List Int} {pr : List (List Int)} (h : wfTable st pr) (z w : Int) : Ev (fun k => spec_PriceOf.f k st pr z w) (rPriceOf st pr z w) := by
 unfold spec_PriceOf.f spec_l03Weight.f rPriceOf
 simp only [l00In_eq, Option.bind_some]
 refine Ev.bind (specAsked1 h z _) ?_
 by_cases hc : ask1 st pr z (inR w 1 2000) = 0
 ·simp only [if_pos hc]
  obtain ⟨ho, hz⟩ := ask1_ok hc
  refine Ev.bind (specPrice h ho hz w) ?_
  unfold priceOf
  by_cases hs : stepOf st w < 0
  ·simp only [if_pos hs]; exact Ev.now _
  ·have hb := priceAt_bd ho hz hs
   simp only [if_neg hs]; rw [if_neg (by omega)]; exact Ev.now _
 ·simp only [if_neg hc]; exact Ev.now _
theorem implTableCode1 {st : List Int} {pr : List (List Int)} (h : wfTable st pr) (z w : Int) : Ev (fun k => impl_tableCode.f k st pr z [w]) (ask1 st pr z (inR w 1 2000)) := by
 have hp := h.2.1
 unfold impl_tableCode.f impl_unless.f impl_size_int16S.f ask1
 refine Ev.bind (implT h) ?_
 simp only [within_eq, areWithin_eq, Option.bind_some, wrap_sm (i := (pr.length : Int) - 1) (by omega) (by omega), List.all_cons, List.all_nil, Bool.and_true]
 cases okT st pr <;> cases inR z 0 ((pr.length : Int) - 1) <;> cases inR w 1 2000 <;> exact Ev.now _
theorem implItems1 {st : List Int} {pr : List (List Int)} (h : wfTable st pr) (z w : Int) : Ev (fun k => impl_itemCode.f k st pr z [w]) (ask1 st pr z (inR w 1 2000)) := by
 unfold impl_itemCode.f impl_unless.f
 refine Ev.bind (implTableCode1 h z w) ?_
 generalize ask1 st pr z (inR w 1 2000) = c
 by_cases hc : c = 0
 ·simp only [if_pos hc, hc]; exact Ev.now _
 ·simp only [if_neg hc]; exact Ev.now _
theorem implPriceOf {st : List Int} {pr : List (List Int)} (h : wfTable st pr) (z w : Int) : Ev (fun k => impl_PriceOf.f k st pr z w) (rPriceOf st pr z w) := by
 suffices hP : Ev (fun k => impl_PricesOf.f k st pr z [w]) (rPriceOf st pr z w) by
  unfold impl_PriceOf.f
  exact Ev.bind hP (Ev.now _)
 unfold impl_PricesOf.f rPriceOf
 refine Ev.bind (implItems1 h z w) ?_
 by_cases hc : ask1 st pr z (inR w 1 2000) = 0
 ·simp only [if_pos hc]
  obtain ⟨ho, hz⟩ := ask1_ok hc
  by_cases hs : stepOf st w < 0
  ·simp only [if_pos hs]
   refine Ev.step (f := fun _ => some (0, 6)) (fun k => ?_) (Ev.now _)
   simp only [impl_PricesOf.l0]
   rw [if_pos (by simp), if_pos (by omega), if_pos (by simp), show rd [w] 0 = w from rfl, implPrice h ho hz, Option.bind_some]
   simp only [if_pos hs]; rfl
  ·simp only [if_neg hs]
   have hb := priceAt_bd ho hz hs
   refine Ev.step (f := fun k => impl_PricesOf.l0 k z (priceAt pr z (stepOf st w)) [w] 1 1 st pr) (fun k => ?_) (Ev.step (f := fun _ => some (priceAt pr z (stepOf st w), 0)) (fun k => ?_) (Ev.now _))
   ·simp only [impl_PricesOf.l0]
    rw [if_pos (by simp), if_pos (by omega), if_pos (by simp), show rd [w] 0 = w from rfl, implPrice h ho hz, Option.bind_some]
    simp only [if_neg hs]
    rw [wrap_sm (i := 0 + priceAt pr z (stepOf st w)) (by omega) (by omega), wrap_sm (i := 0 + 1) (by omega) (by omega), Int.zero_add]; rfl
   ·simp only [impl_PricesOf.l0]; rw [if_neg (by omega)]
 ·simp only [if_neg hc]; exact Ev.now _
end Go.Proofs.Ytdeipindfhkioaa.Pure

set_option linter.unusedVariables false
set_option linter.unusedSimpArgs false
namespace Go.Proofs.Ytdeipindfhkioaa.Pure
open Go.RowKit Go.Proofs.Ytdeipindfhkioaa.Q Go.Proofs.YtdeipindfhkioaaMine Go.Proofs.YtdeipindfhkioaaW.PrintWords Go.Proofs.YtdeipindfhkioaaW.PrintMore
theorem setRep {α : Type} (z : List α) (R : List α) (T : List (List α)) : ∀ i : Nat, (List.replicate (i + 1) z ++ T).set i R = List.replicate i z ++ (R :: T)
 | 0 => rfl
 | i + 1 => by
  show (z :: (List.replicate (i + 1) z ++ T)).set (i + 1) R = z :: (List.replicate i z ++ (R :: T))
  rw [List.set_cons_succ, setRep z R T i]
theorem sufBd {vs : List Nat} (hr : ∀ j, j < vs.length → j + 1 ≤ vs.getD j 0) (hn : vs.length ≤ 8) (i : Nat) {b : Nat} (hb : b ≤ 1000) : (payG (vs.drop i) b).1 ≤ 1000000000000000000 := by
 by_cases h : i ≤ 7
 ·refine Int.le_trans (payG_bd (7 - i) (vs.drop i) (by omega) (by rw [List.length_drop]; omega) (fun j hj => ?_) b hb) (payB_le (by omega))
  rw [List.length_drop] at hj
  have h2 := hr (i + j) (by omega)
  rw [List.getD_eq_getElem?_getD, List.getElem?_drop, ← List.getD_eq_getElem?_getD]
  omega
 ·rw [List.drop_eq_nil_of_le (by omega)]
  unfold payG
  split <;> decide
/-- The program's table. -/
theorem implTab {vs : List Nat} (hv : ∀ v ∈ vs, 1 ≤ v ∧ v ≤ 500) (hr : ∀ j, j < vs.length → j + 1 ≤ vs.getD j 0) (hn : vs.length ≤ 8) {a : Nat} (ha : a ≤ 1000) : Ev (fun k => impl_purse_table.f k (ofN vs) (List.replicate vs.length 1099511627776) (a : Int)) (tabG vs a) := by
 have hO := ofN_len vs
 have hwa : wrap64 ((a : Int) + 1) = ((a + 1 : Nat) : Int) := st_up (by omega)
 have c1 : (0 : Int) ≤ ((a + 1 : Nat) : Int) ∧ ((a + 1 : Nat) : Int).toNat ≤ 17592186044416 := by clear hwa; omega
 have hrows : ∀ i : Nat, i ≤ vs.length → Ev (fun k => impl_purse_table.l0 k (a : Int) (List.replicate i [] ++ tabG (vs.drop i) a) ((i : Int) - 1) (ofN vs) (List.replicate vs.length 1099511627776)) (tabG vs a) := by
  intro i
  induction i with
  | zero =>
   intro _
   refine Ev.step (f := fun _ => some (tabG vs a)) (fun k => ?_) (Ev.now _)
   simp only [impl_purse_table.l0]
   rw [if_neg (by decide)]; rfl
  | succ i ih =>
   intro hi
   have hi1 : i < vs.length := hi
   have hd : vs.drop i = vs.getD i 0 :: vs.drop (i + 1) := drop_step 0 hi1
   have h1 := ih (Nat.le_of_lt hi1)
   rw [hd, show tabG (vs.getD i 0 :: vs.drop (i + 1)) a = rowG (vs.getD i 0 :: vs.drop (i + 1)) a :: tabG (vs.drop (i + 1)) a from rfl, ← setRep] at h1
   have hvi := hv (vs.getD i 0) (get_mem 0 hi1).1
   have hYl : (List.replicate (i + 1) ([] : List PY) ++ tabG (vs.drop (i + 1)) a).length = vs.length + 1 := by rw [List.length_append, List.length_replicate, tabG_len, List.length_drop]; clear hwa; omega
   have c2 : (i : Int) < ((List.replicate (i + 1) ([] : List PY) ++ tabG (vs.drop (i + 1)) a).length : Int) ∧ ¬ ((i : Int) = ((ofN vs).length : Int)) := by clear hwa; omega
   have e2 : (List.replicate (i + 1) ([] : List PY) ++ tabG (vs.drop (i + 1)) a).getD (i + 1) [] = rowG (vs.drop (i + 1)) a := by
    rw [List.getD_eq_getElem?_getD, List.getElem?_append_right (by rw [List.length_replicate]; exact Nat.le_refl _), List.length_replicate, Nat.sub_self, ← List.getD_eq_getElem?_getD]
    exact tabG_head _ a
   have hlt : i + 1 < (List.replicate (i + 1) ([] : List PY) ++ tabG (vs.drop (i + 1)) a).length := by clear hwa; omega
   generalize List.replicate (i + 1) ([] : List PY) ++ tabG (vs.drop (i + 1)) a = Y at *
   have e1 : rd (ofN vs) (i : Int) = ((vs.getD i 0 : Nat) : Int) := by unfold rd; rw [Int.toNat_natCast]; exact ofN_get hi1
   have eh : rd (List.replicate vs.length (1099511627776 : Int)) (i : Int) = 1099511627776 := by
    unfold rd
    rw [Int.toNat_natCast, List.getD_eq_getElem?_getD, List.getElem?_replicate, if_pos hi1]; rfl
   have hP : ∀ b, b ≤ a → (payG (vs.getD i 0 :: vs.drop (i + 1)) b).1 ≤ 1000000000000000000 := fun b hb => by
    rw [← hd]; exact sufBd hr hn i (Nat.le_trans hb ha)
   have h2 := giRow ha (by clear hwa; omega) hlt (by rw [hO]; exact hi1) (by rw [List.length_replicate]; exact hi1) e1 eh e2 hvi (fun v hm => (hv v (List.mem_of_mem_drop hm)).1) (fun b hb => sufBd hr hn (i + 1) (Nat.le_trans hb ha)) hP h1 (a + 1) 0 (Nat.zero_add _) (List.replicate (a + 1) z128) List.length_replicate (fun j h => absurd h (Nat.not_lt_zero j)) (fun j _ h => by rw [List.getD_eq_getElem?_getD, List.getElem?_replicate, if_pos h]; rfl)
   refine Ev.step (fun k => ?_) h2
   simp only [impl_purse_table.l0]
   rw [show ((i + 1 : Nat) : Int) - 1 = (i : Int) by clear hwa; omega, if_pos (Int.natCast_nonneg i), hwa, if_pos c1.1, if_pos c1.2, if_pos (Int.natCast_nonneg i), if_pos c2.1, Option.bind_some, if_neg c2.2, Int.toNat_natCast, Int.toNat_natCast]; rfl
 have c3 : (0 : Int) ≤ ((vs.length : Int) + 1) ∧ ((vs.length : Int) + 1).toNat ≤ 11728124029610 ∧ ((vs.length : Int) + 1).toNat = vs.length + 1 ∧ (vs.length : Int) < ((vs.length + 1 : Nat) : Int) ∧ (0 : Int) < ((a + 1 : Nat) : Int) := by clear hwa; omega
 have hwn : wrap64 ((vs.length : Int) + 1) = (vs.length : Int) + 1 := wrap_sm (by clear hwa; omega) (by clear hwa; omega)
 have hlast := hrows vs.length (Nat.le_refl _)
 rw [List.drop_length] at hlast
 unfold impl_purse_table.f
 have c4 : vs.length + 1 ≤ 11728124029610 := c3.2.2.1 ▸ c3.2.1
 simp only [hO, hwn, if_pos c3.1, c3.2.2.1, if_pos c4]
 have hset : ((List.replicate (vs.length + 1) ([] : List PY)).set vs.length (List.replicate (a + 1) z128)).set vs.length ((List.replicate (a + 1) z128).set 0 ⟨1, 0⟩) = List.replicate vs.length [] ++ tabG [] a := by
  rw [List.set_set]
  have h3 := setRep ([] : List PY) ((List.replicate (a + 1) z128).set 0 ⟨1, 0⟩) [] vs.length
  rw [List.append_nil] at h3
  rw [h3]
  have h4 : (List.replicate (a + 1) z128).set 0 ⟨1, 0⟩ = rowG [] a := by
   apply List.ext_getElem?
   intro j
   by_cases h : j < a + 1
   ·rw [getD_ge (z := z128) (show j < (rowG [] a).length by rw [rowG_len]; exact h), rowG_get _ (Nat.le_of_lt_succ h)]
    by_cases h0 : j = 0
    ·subst h0
     rw [List.getElem?_set_self (by rw [List.length_replicate]; exact h)]; rfl
    ·rw [List.getElem?_set_ne (fun h2 => h0 h2.symm), List.getElem?_replicate, if_pos h]
     unfold payG; rw [if_neg h0]; rfl
   ·rw [List.getElem?_eq_none (by rw [List.length_set, List.length_replicate]; exact Nat.le_of_not_lt h), List.getElem?_eq_none (by rw [rowG_len]; exact Nat.le_of_not_lt h)]
  rw [h4]; rfl
 rw [← hset] at hlast
 refine Ev.step (fun k => ?_) hlast
 have hL : ((List.replicate (vs.length + 1) ([] : List PY)).length : Int) = ((vs.length + 1 : Nat) : Int) := by rw [List.length_replicate]
 have hR : rd_L9 ((List.replicate (vs.length + 1) ([] : List PY)).set vs.length (List.replicate (a + 1) z128)) (vs.length : Int) = List.replicate (a + 1) z128 := by
  show ((List.replicate (vs.length + 1) ([] : List PY)).set vs.length (List.replicate (a + 1) z128)).getD ((vs.length : Nat) : Int).toNat [] = _
  rw [Int.toNat_natCast, setD_same _ _ _ (by rw [List.length_replicate]; exact Nat.lt_succ_self _)]
 simp only [impl_purse_table.l0]
 rw [if_pos (Int.natCast_nonneg _), hwa, if_pos c1.1, if_pos c1.2, if_pos (Int.natCast_nonneg _), hL, if_pos c3.2.2.2.1, Option.bind_some, if_pos (by rw [hO]), Int.toNat_natCast, Int.toNat_natCast, hR, List.length_replicate, if_pos c3.2.2.2.2, wrap_sm (i := (vs.length : Int) - 1) (by clear hwa hwn; omega) (by clear hwa hwn; omega)]; rfl
theorem gcStep {T : List (List PY)} {V : List Int} {vs : List Nat} {A a i k q v n : Nat} {L : Int} (hA : A ≤ 1000) (ha : a ≤ A) (hT : i + 1 < T.length) (hi8 : i < 8) (e2 : T.getD (i + 1) [] = rowG vs A) (hvs : ∀ v ∈ vs, 1 ≤ v) (hq : wrap64 ((k : Int) * (v : Int)) = (q : Int)) (hqa : q ≤ a) (hk : k ≤ 1000) (hL : 0 ≤ L ∧ L ≤ 1000) {pre : List Int} (hp : pre.length ≤ 8) (κ : Nat) :
  f0z.l1 (κ + 1) T (a : Int) pre L (i : Int) (v : Int) (k : Int) V (n : Int) (i : Int) = if 0 ≤ payH vs (a - q) ∧ payH vs (a - q) + (k : Int) = L then f0z.l0 κ T ((a - q : Nat) : Int) (pre ++ [(k : Int)]) (L - (k : Int)) V (n : Int) ((i + 1 : Nat) : Int) else f0z.l1 κ T (a : Int) pre L (i : Int) (v : Int) ((k + 1 : Nat) : Int) V (n : Int) (i : Int) := by
 have hb := payH_bd vs hvs (a - q)
 have hE := pay_E vs (a - q)
 revert hq
 have c2 : (0 : Int) ≤ ((i + 1 : Nat) : Int) ∧ ((i + 1 : Nat) : Int) < (T.length : Int) := by omega
 have c3 : ((a - q : Nat) : Int) < ((A + 1 : Nat) : Int) ∧ pre.length < 17592186044416 := by omega
 have es : wrap64 ((a : Int) - (q : Int)) = ((a - q : Nat) : Int) := st_sub hqa (by omega)
 have ei : wrap64 ((i : Int) + 1) = ((i + 1 : Nat) : Int) := by clear es; rw [wrap_sm (by omega) (by omega)]; rfl
 have ek : wrap64 ((k : Int) + 1) = ((k + 1 : Nat) : Int) := by clear es ei; rw [wrap_sm (by omega) (by omega)]; rfl
 have eL : wrap64 (L - (k : Int)) = L - (k : Int) := by clear es ei ek; exact wrap_sm (by omega) (by omega)
 have f2 : rd_L9 T ((i + 1 : Nat) : Int) = rowG vs A := by show T.getD ((i + 1 : Nat) : Int).toNat [] = _; rw [Int.toNat_natCast]; exact e2
 have f5 : rd_T128 (rowG vs A) ((a - q : Nat) : Int) = mkS (payG vs (a - q)) := by
  show (rowG vs A).getD ((a - q : Nat) : Int).toNat _ = _
  rw [Int.toNat_natCast]; exact rowG_get _ (Nat.le_trans (Nat.sub_le _ _) ha)
 intro hq
 simp only [f0z.l1]
 rw [ei, if_pos c2.1, if_pos c2.2, hq, es, if_pos (Int.natCast_nonneg _), f2, rowG_len, if_pos c3.1, f5, show (mkS (payG vs (a - q))).f0 = (payG vs (a - q)).1 from rfl, show (mkS (payG vs (a - q))).f1 = (payG vs (a - q)).2 from rfl, ek]
 rcases hE with ⟨h1, h2⟩ | ⟨h1, h2, h3⟩
 ·rw [if_neg (show ¬ (payG vs (a - q)).1 > 0 from fun h => by rw [h1] at h; exact Int.lt_irrefl _ h), if_neg (fun h => by rw [h2] at h; exact absurd h.1 (by decide))]
 ·rw [if_pos (show (payG vs (a - q)).1 > 0 from h1), ← h2]
  have ew : wrap64 (payH vs (a - q) + (k : Int)) = payH vs (a - q) + (k : Int) := by clear es ei ek eL hq; exact wrap_sm (by omega) (by omega)
  rw [ew]
  by_cases h4 : payH vs (a - q) + (k : Int) = L
  ·rw [if_pos h4, if_pos c3.2, if_pos ⟨by rw [h2]; exact h3, h4⟩, eL]
  ·rw [if_neg h4, if_neg (fun h => h4 h.2)]
theorem implCnt {vs : List Nat} (hv : ∀ v ∈ vs, 1 ≤ v ∧ v ≤ 500) (hn : vs.length ≤ 8) {A : Nat} (hA : A ≤ 1000) : ∀ d i : Nat, i + d = vs.length → ∀ a, a ≤ A → ∀ (pre out : List Int), pre.length ≤ i → 0 ≤ payH (vs.drop i) a → isCnt (vs.drop i) a out → Ev (fun k => f0z.l0 k (tabG vs A) (a : Int) pre (payH (vs.drop i) a) (ofN vs) (vs.length : Int) (i : Int)) (pre ++ out) := by
 have hO := ofN_len vs
 intro d
 induction d with
 | zero =>
  intro i hi a ha pre out hp h0 hc
  rw [List.drop_eq_nil_of_le (by omega)] at hc
  have ho : out = [] := hc
  subst ho
  refine Ev.step (f := fun _ => some (pre ++ [])) (fun k => ?_) (Ev.now _)
  simp only [f0z.l0]
  rw [if_neg (by omega), List.append_nil]
 | succ d ih =>
  intro i hi a ha pre out hp h0 hc
  have hi1 : i < vs.length := by omega
  have hdr := drop_step 0 hi1
  have e2 := tabG_get vs A (i + 1) hi1
  have hvi := hv (vs.getD i 0) (get_mem 0 hi1).1
  have hvs : ∀ v ∈ vs.drop (i + 1), 1 ≤ v := fun v hm => (hv v (List.mem_of_mem_drop hm)).1
  have hvs2 : ∀ v ∈ vs.drop i, 1 ≤ v := fun v hm => (hv v (List.mem_of_mem_drop hm)).1
  have hbd := payH_bd _ hvs2 a
  have hT : i + 1 < (tabG vs A).length := by rw [tabG_len]; omega
  have hi2 : (i : Int) < ((ofN vs).length : Int) := by omega
  have hi3 : (i : Int) < (vs.length : Int) := by omega
  have hp8 : pre.length ≤ 8 := by omega
  have hi8 : i < 8 := by omega
  have e1 : rd (ofN vs) (i : Int) = ((vs.getD i 0 : Nat) : Int) := by unfold rd; rw [Int.toNat_natCast]; exact ofN_get hi1
  have hih := ih (i + 1) (by omega)
  have hL : 0 ≤ payH (vs.drop i) a ∧ payH (vs.drop i) a ≤ 1000 := by omega
  clear ih hi
  rw [hdr] at hc hL ⊢
  generalize vs.getD i 0 = v at *
  obtain ⟨j, out', rfl, hj1, hj2, hj3, hc'⟩ := hc
  have h2 := hih (a - j * v) (Nat.le_trans (Nat.sub_le _ _) ha) (pre ++ [(j : Int)]) out' (by rw [List.length_append]; exact Nat.succ_le_succ hp) hj2.1 hc'
  rw [List.append_assoc, List.singleton_append] at h2
  have hsub : payH (vs.drop (i + 1)) (a - j * v) = payH (v :: vs.drop (i + 1)) a - (j : Int) := by rw [← hj2.2]; exact (Int.add_sub_cancel _ _).symm
  rw [hsub] at h2
  have hja := mul_bd hvi.1 hj1
  have inner : ∀ e m : Nat, m + e = j → Ev (fun k => f0z.l1 k (tabG vs A) (a : Int) pre (payH (v :: vs.drop (i + 1)) a) (i : Int) (v : Int) (m : Int) (ofN vs) (vs.length : Int) (i : Int)) (pre ++ (j : Int) :: out') := by
   intro e
   induction e with
   | zero =>
    intro m hm
    obtain rfl : m = j := hm
    exact Ev.step (fun k => by rw [gcStep hA ha hT hi8 e2 hvs (wm (Nat.le_trans hja (Nat.le_trans ha (Nat.le_succ_of_le hA))) hvi.2) hj1 (Nat.le_trans hja (Nat.le_trans ha hA)) hL hp8, if_pos hj2]) h2
   | succ e ih2 =>
    intro m hm
    have hml : m < j := by rw [← hm]; exact Nat.lt_add_of_pos_right (Nat.succ_pos e)
    have hmv : m * v ≤ a := Nat.le_trans (Nat.mul_le_mul_right _ (Nat.le_of_lt hml)) hj1
    have hma := mul_bd hvi.1 hmv
    exact Ev.step (fun k => by rw [gcStep hA ha hT hi8 e2 hvs (wm (Nat.le_trans hma (Nat.le_trans ha (Nat.le_succ_of_le hA))) hvi.2) hmv (Nat.le_trans hma (Nat.le_trans ha hA)) hL hp8, if_neg (hj3 m hml)]) (ih2 (m + 1) (by rw [← hm]; exact Nat.succ_add_eq_add_succ m e))
  refine Ev.step (fun k => ?_) (inner j 0 (Nat.zero_add j))
  simp only [f0z.l0]
  rw [if_pos hi3, if_pos (Int.natCast_nonneg i), if_pos hi2, e1]; rfl
theorem repeat8 {n : Nat} (h1 : 1 ≤ n) (h8 : n ≤ 8) : Ev (fun k => f10z.f k [1099511627776] (n : Int)) (List.replicate n 1099511627776) := by
 have hn : n = 1 ∨ n = 2 ∨ n = 3 ∨ n = 4 ∨ n = 5 ∨ n = 6 ∨ n = 7 ∨ n = 8 := by omega
 refine ⟨10, fun k hk => ?_⟩
 obtain ⟨m, rfl⟩ : ∃ m, k = m + 10 := ⟨k - 10, by omega⟩
 show f10z.f (m + 10) [1099511627776] (n : Int) = _
 rcases hn with rfl | rfl | rfl | rfl | rfl | rfl | rfl | rfl <;> kernel_rfl
theorem okV_nat {l : List Int} (h : okV l = true) : ∃ vs : List Nat, l = ofN vs ∧ (∀ v ∈ vs, 1 ≤ v ∧ v ≤ 500) ∧ (1 ≤ vs.length ∧ vs.length ≤ 8) ∧ ∀ j, j < vs.length → j + 1 ≤ vs.getD j 0 := by
 unfold okV at h
 rw [Bool.and_eq_true, Bool.and_eq_true, inR_iff, List.all_eq_true, allIx_iff] at h
 obtain ⟨⟨h1, h2⟩, h3, h4⟩ := h
 have hm : ofN (l.map Int.toNat) = l := by
  unfold ofN
  rw [List.map_map]
  conv => rhs; rw [← List.map_id l]
  refine List.map_congr_left (fun x hx => ?_)
  have := inR_iff.1 (h3 x hx)
  show ((x.toNat : Nat) : Int) = x
  omega
 have hlen : (l.map Int.toNat).length = l.length := List.length_map ..
 have hb : ∀ v ∈ l.map Int.toNat, 1 ≤ v ∧ v ≤ 500 := fun v hv => by
  obtain ⟨x, hx, rfl⟩ := List.mem_map.1 hv
  have := inR_iff.1 (h3 x hx)
  omega
 refine ⟨l.map Int.toNat, hm.symm, hb, by omega, ?_⟩
 intro j
 induction j with
 | zero =>
  intro hj
  exact (hb _ (get_mem 0 hj).1).1
 | succ j ih =>
  intro hj
  have i1 := ih (by omega)
  have h5 := h4 (j + 1) (by omega) (by omega)
  unfold risesAt at h5
  rw [decide_eq_true_eq, Nat.add_sub_cancel] at h5
  have e1 := ofN_get (vs := l.map Int.toNat) (i := j) (by omega)
  have e2 := ofN_get (vs := l.map Int.toNat) (i := j + 1) hj
  rw [hm] at e1 e2
  omega
theorem isCnt_len : ∀ (vs : List Nat) (a : Nat) (out : List Int), isCnt vs a out → out.length = vs.length
 | [], a, out, h => by rw [show out = [] from h]; rfl
 | v :: vs, a, out, h => by
  obtain ⟨j, out', rfl, _, _, _, h2⟩ := h
  simp [isCnt_len vs _ _ h2]
/-- The fewest stamps, by both. -/
theorem fewest {l : List Int} (h : okV l = true) (a : Int) : ∃ p : List Int × Int × Int, Ev (fun k => f9z.f k l a) p ∧ Ev (fun k => f2z.f k l a) p ∧ p.1.length ≤ 8 := by
 have hl8 : l.length ≤ 2097152 := by
  unfold okV at h
  rw [Bool.and_eq_true, inR_iff] at h
  omega
 obtain ⟨vs, rfl, hv, ⟨hn1, hn⟩, hr⟩ := okV_nat h
 have hO := ofN_len vs
 have hvs : ∀ v ∈ vs, 1 ≤ v := fun v hm => (hv v hm).1
 have sA : ∀ fine : Bool, Ev (fun k => spec_l01Asked.f k (ofN vs) fine) (if fine = true then 0 else 2) := fun fine => by
  unfold spec_l01Asked.f
  refine Ev.bind (specVals hl8) ?_
  rw [h]
  cases fine <;> exact Ev.now _
 have iA : Ev (fun k => impl_valuesCode.f k (ofN vs) a 1000) (if inR a 0 1000 = true then 0 else 2) := by
  unfold impl_valuesCode.f impl_unless.f
  refine Ev.bind (implVals hl8) ?_
  rw [h]
  simp only [if_true, within_eq, Option.bind_some]
  cases inR a 0 1000 <;> exact Ev.now _
 have sP : spec_l01Postage.f a = some (inR a 0 1000) := by
  unfold spec_l01Postage.f
  rw [l00In_eq, Option.bind_some]
 cases ha : inR a 0 1000 with
 | false =>
  refine ⟨([], 0, 2), ?_, ?_, Nat.zero_le _⟩
  ·unfold f9z.f
   simp only [sP, ha, Option.bind_some]
   refine Ev.bind (sA false) ?_
   exact Ev.now _
  ·unfold f2z.f
   rw [ha] at iA
   refine Ev.bind iA ?_
   exact Ev.now _
 | true =>
  obtain ⟨n, rfl⟩ : ∃ n : Nat, a = (n : Int) := ⟨a.toNat, by have := inR_iff.1 ha; omega⟩
  have hn1000 : n ≤ 1000 := by have := inR_iff.1 ha; omega
  have g1 : (tabH vs n).getD 0 [] = rowH vs n := tabH_head vs n
  have g2 : (tabG vs n).getD 0 [] = rowG vs n := tabG_head vs n
  have c1 : (0 : Int) < ((tabH vs n).length : Int) ∧ (0 : Int) < ((tabG vs n).length : Int) ∧ (n : Int) < ((n + 1 : Nat) : Int) := by rw [tabH_len, tabG_len]; omega
  have f1 : rd_L5 (tabH vs n) 0 = rowH vs n := g1
  have f2 : rd_L9 (tabG vs n) 0 = rowG vs n := g2
  have f3 : rd (rowH vs n) (n : Int) = payH vs n := by unfold rd; rw [Int.toNat_natCast]; exact rowH_get vs (Nat.le_refl n)
  have f4 : rd_T128 (rowG vs n) (n : Int) = mkS (payG vs n) := by
   show (rowG vs n).getD ((n : Nat) : Int).toNat _ = _
   rw [Int.toNat_natCast]; exact rowG_get vs (Nat.le_refl n)
  have hE := pay_E vs n
  have sS : ∀ p : List Int × Int × Int, Ev (fun k => if payH vs n < 0 then some (([] : List Int), (0 : Int), (6 : Int)) else (spec_l01Counts.f k (tabH vs n) (ofN vs) (n : Int)).bind fun t220 => some (t220, payH vs n, 0)) p → Ev (fun k => f9z.f k (ofN vs) (n : Int)) p := fun p hp => by
   unfold f9z.f
   simp only [sP, ha, Option.bind_some]
   refine Ev.bind (sA true) ?_
   simp only [if_true]
   refine Ev.bind (specPlenty hl8) ?_
   rw [hO]
   refine Ev.bind (specTab hv hn hn1000) ?_
   simp only [if_pos c1.1, if_pos (Int.natCast_nonneg n), f1, rowH_len, if_pos c1.2.2, f3]
   exact hp
  have iS : ∀ q : List Int × Int × Bool, Ev (fun k => if (payG vs n).1 = 0 then some (([] : List Int), (0 : Int), false) else (f0z.f k (ofN vs) (List.replicate vs.length 1099511627776) (tabG vs n) (n : Int)).bind fun t => some (t, (payG vs n).2, true)) q → Ev (fun k => f1z.f k (ofN vs) (List.replicate vs.length 1099511627776) (n : Int)) q := fun q hq => by
   unfold f1z.f
   refine Ev.bind (implTab hv hr hn hn1000) ?_
   simp only [if_pos c1.2.1, if_pos (Int.natCast_nonneg n), f2, rowG_len, if_pos c1.2.2, f4]
   exact hq
  have iE : Ev (fun k => impl_endless.f k (ofN vs)) (ofN vs, List.replicate vs.length 1099511627776) := by
   unfold impl_endless.f
   rw [hO]
   exact Ev.bind (repeat8 hn1 hn) (Ev.now _)
  have iF : ∀ q : List Int × Int × Bool, Ev (fun k => f1z.f k (ofN vs) (List.replicate vs.length 1099511627776) (n : Int)) q → Ev (fun k => f2z.f k (ofN vs) (n : Int)) (if q.2.2 = true then (q.1, q.2.1, 0) else ([], 0, 6)) := fun q hq => by
   unfold f2z.f
   rw [ha] at iA
   refine Ev.bind iA ?_
   simp only [if_true]
   refine Ev.bind iE ?_
   refine Ev.bind hq ?_
   cases q.2.2 <;> exact Ev.now _
  rcases hE with ⟨h1, h2⟩ | ⟨h1, h2, h3⟩
  ·refine ⟨([], 0, 6), sS _ ?_, iF ([], 0, false) (iS _ ?_), Nat.zero_le _⟩
   ·simp only [if_pos (show payH vs n < 0 by rw [h2]; decide)]; exact Ev.now _
   ·simp only [if_pos h1]; exact Ev.now _
  ·have h0 : 0 ≤ payH vs n := by rw [h2]; exact h3
   obtain ⟨out, hc⟩ := isCnt_ex vs hvs n h0
   have s1 := specCnt hv hn hn1000 vs.length 0 (Nat.zero_add _) n (Nat.le_refl n) [] out (Nat.le_refl _) hc
   have s2 := implCnt hv hn hn1000 vs.length 0 (Nat.zero_add _) n (Nat.le_refl n) [] out (Nat.le_refl _) h0 hc
   have s1' : Ev (fun k => spec_l01Counts.f k (tabH vs n) (ofN vs) (n : Int)) out := s1
   have e : payH (List.drop 0 vs) n = (payG vs n).2 := h2
   rw [e] at s2
   have s2' : Ev (fun k => f0z.f k (ofN vs) (List.replicate vs.length 1099511627776) (tabG vs n) (n : Int)) out := by
    unfold f0z.f
    simp only [if_pos c1.2.1, if_pos (Int.natCast_nonneg n), f2, rowG_len, if_pos c1.2.2, f4, hO]
    exact s2
   refine ⟨(out, payH vs n, 0), sS _ ?_, Ev.eq (iF (out, (payG vs n).2, true) (iS _ ?_)) (by rw [h2]; rfl), by rw [show (out, payH vs n, (0 : Int)).1 = out from rfl, isCnt_len vs n out hc]; exact hn⟩
   ·simp only [if_neg (Int.not_lt.2 h0)]
    exact Ev.bind s1' (Ev.now _)
   ·simp only [if_neg (Int.ne_of_gt h1)]
    exact Ev.bind s2' (Ev.now _)
/-- StampsFor, by both. -/
theorem stamps {st : List Int} {pr : List (List Int)} (h : wfTable st pr) (z w : Int) {l : List Int} (hl : l.length ≤ 2097152) : ∃ p : List Int × Int, Ev (fun k => spec_StampsFor.f k st pr z w l) p ∧ Ev (fun k => impl_StampsFor.f k st pr z w l) p ∧ p.1.length ≤ 8 := by
 have hs : ∀ (b : Bool) (p : List Int × Int), Ev (fun k => if b = true then some (([] : List Int), (1 : Int)) else (spec_PriceOf.f k st pr z w).bind fun bt => if bt.2 = 0 then (f9z.f k l bt.1).bind fun b2 => some (b2.1, b2.2.2) else some (([] : List Int), bt.2)) p → Ev (fun k => spec_StampsFor.j0 k z w l b st pr) p := fun b p hp => Ev.step (fun k => by simp only [spec_StampsFor.j0]) hp
 have hi : ∀ (p : List Int × Int), Ev (fun k => if okV l = true then ((impl_PriceOf.f k st pr z w).bind fun bt356 => (if bt356.2 = 0 then ((f2z.f k l bt356.1).bind fun bt358 => (some (bt358.1, bt358.2.2))) else (some (([] : List Int), bt356.2)))) else (some (([] : List Int), 1))) p → Ev (fun k => impl_StampsFor.f k st pr z w l) p := fun p hp => by
  unfold impl_StampsFor.f
  exact Ev.bind (implVals hl) hp
 cases hv : okV l with
 | false =>
  refine ⟨([], 1), ?_, hi _ ?_, Nat.zero_le _⟩
  ·unfold spec_StampsFor.f
   refine Ev.bind (specT h) ?_
   cases okT st pr with
   | false => exact hs true _ (Ev.now _)
   | true =>
    simp only [if_true]
    refine Ev.bind (specVals hl) ?_
    rw [hv]
    exact hs true _ (Ev.now _)
  ·rw [hv]; exact Ev.now _
 | true =>
  rw [hv] at hi
  simp only [if_true] at hi
  cases ho : okT st pr with
  | false =>
   have e : rPriceOf st pr z w = (0, 1) := by
    unfold rPriceOf ask1
    rw [ho]; rfl
   refine ⟨([], 1), ?_, hi _ ?_, Nat.zero_le _⟩
   ·unfold spec_StampsFor.f
    refine Ev.bind (specT h) ?_
    rw [ho]
    exact hs true _ (Ev.now _)
   ·refine Ev.bind (implPriceOf h z w) ?_
    rw [e]; exact Ev.now _
  | true =>
   obtain ⟨p, p1, p2, p3⟩ := fewest hv (rPriceOf st pr z w).1
   have top : ∀ q, Ev (fun k => if (rPriceOf st pr z w).2 = 0 then (f9z.f k l (rPriceOf st pr z w).1).bind fun b2 => some (b2.1, b2.2.2) else some (([] : List Int), (rPriceOf st pr z w).2)) q → Ev (fun k => spec_StampsFor.f k st pr z w l) q := fun q hq => by
    unfold spec_StampsFor.f
    refine Ev.bind (specT h) ?_
    rw [ho]
    simp only [if_true]
    refine Ev.bind (specVals hl) ?_
    rw [hv]
    refine hs false _ ?_
    simp only [Bool.false_eq_true, if_false]
    exact Ev.bind (specPriceOf h z w) hq
   by_cases hc : (rPriceOf st pr z w).2 = 0
   ·refine ⟨(p.1, p.2.2), top _ ?_, hi _ (Ev.bind (implPriceOf h z w) ?_), p3⟩
    ·simp only [if_pos hc]; exact Ev.bind p1 (Ev.now _)
    ·simp only [if_pos hc]; exact Ev.bind p2 (Ev.now _)
   ·refine ⟨([], (rPriceOf st pr z w).2), top _ ?_, hi _ (Ev.bind (implPriceOf h z w) ?_), Nat.zero_le _⟩
    ·simp only [if_neg hc]; exact Ev.now _
    ·simp only [if_neg hc]; exact Ev.now _
end Go.Proofs.Ytdeipindfhkioaa.Pure
