/- BestParcels returns what the reference returns, for all arguments. -/
import Derived.Test.YtdeipindfhkioaaQ6
import Derived.Test.YtdeipindfhkioaaQ5
import Derived.Test.YtdeipindfhkioaaPureCPriceS
import Derived.Test.YtdeipindfhkioaaPureCFromP
import Derived.Test.YtdeipindfhkioaaPureToInt64
import Derived.Test.YtdeipindfhkioaaPureToTable
import Derived.Test.YtdeipindfhkioaaPureMkInt64
import Derived.Test.YtdeipindfhkioaaPureMkTable
set_option linter.unusedVariables false
set_option linter.unusedSimpArgs false
namespace Go.Proofs.Ytdeipindfhkioaa.Pure
open Go.RowKit Go.Proofs.Ytdeipindfhkioaa.Q Go.Proofs.YtdeipindfhkioaaMine Go.Proofs.YtdeipindfhkioaaW.PrintWords Go.Proofs.YtdeipindfhkioaaW.PrintMore
theorem implPrice {st : List Int} {pr : List (List Int)} (h : wfTable st pr) (ho : okT st pr = true) {z : Int} (hz : 0 ≤ z ∧ z ≤ (pr.length : Int) - 1) (w : Int) : impl_Table_price.f st pr z w = some (if stepOf st w < 0 then (0, false) else (priceAt pr z (stepOf st w), true)) := by
 unfold impl_Table_price.f
 rw [implStep h, Option.bind_some]
 have hlo := stepOf_lo st w
 have hhi := stepOf_hi st w
 obtain ⟨hr, hx⟩ := okT_row ho hz
 generalize stepOf st w = s at *
 by_cases hn : s < 0
 ·simp only [if_pos hn]
 ·simp only [if_neg hn]
  rw [show rd_L1 pr z = pr.getD z.toNat [] from rfl, if_pos (by omega), if_pos (by omega), if_pos (by omega), if_pos (by omega)]
  unfold priceAt rd
  have := hx s.toNat (by omega)
  rw [wrap_sm (by omega) (by omega)]
end Go.Proofs.Ytdeipindfhkioaa.Pure

set_option linter.unusedVariables false
set_option linter.unusedSimpArgs false
namespace Go.Proofs.Ytdeipindfhkioaa.Pure
open Go.RowKit Go.Proofs.Ytdeipindfhkioaa.Q Go.Proofs.YtdeipindfhkioaaMine Go.Proofs.YtdeipindfhkioaaW.PrintWords Go.Proofs.YtdeipindfhkioaaW.PrintMore
section
variable {st : List Int} {pr : List (List Int)}
/-- A price, 0 without a step. -/
def prc (st : List Int) (pr : List (List Int)) (z w : Int) : Int := if stepOf st w < 0 then 0 else priceAt pr z (stepOf st w)
theorem prc_bd (ho : okT st pr = true) {z : Int} (hz : 0 ≤ z ∧ z ≤ (pr.length : Int) - 1) (w : Int) : 0 ≤ prc st pr z w ∧ prc st pr z w ≤ 10000 := by
 unfold prc
 split
 ·omega
 ·obtain ⟨hr, hx⟩ := okT_row ho hz
  have := hx (stepOf st w).toNat (by have := stepOf_hi st w; omega)
  exact this
def sumQ (st : List Int) (pr : List (List Int)) (z : Int) (ws xs : List Int) : Nat → Int
 | 0 => 0
 | j + 1 => sumQ st pr z ws xs j + prc st pr z (wg ws (j : Int) xs 0)
theorem sumQ_bd (ho : okT st pr = true) {z : Int} (hz : 0 ≤ z ∧ z ≤ (pr.length : Int) - 1) (ws xs : List Int) : ∀ j : Nat, 0 ≤ sumQ st pr z ws xs j ∧ sumQ st pr z ws xs j ≤ 10000 * (j : Int)
 | 0 => by simp [sumQ]
 | j + 1 => by
  have h1 := sumQ_bd ho hz ws xs j
  have h2 := prc_bd ho hz (wg ws (j : Int) xs 0)
  unfold sumQ
  omega
theorem sumQ_O {z : Int} (hz : 0 ≤ z) {ws xs : List Int} (hok : ∀ k, okP st ws xs k = true) : ∀ j : Nat, sumQ st pr z ws xs j = sumO st pr z ws xs j
 | 0 => rfl
 | j + 1 => by
  have := of_decide_eq_true (hok j)
  unfold sumQ sumO prc own
  rw [sumQ_O hz hok j, if_neg (by omega), if_pos hz]
def updQ (st : List Int) (pr : List (List Int)) (z : Int) (ws : List Int) (s : List Int × Int) (xs : List Int) (m : Int) : List Int × Int :=
 if s.2 < 0 then (xs, sumQ st pr z ws xs m.toNat) else if sumQ st pr z ws xs m.toNat < s.2 then (xs, sumQ st pr z ws xs m.toNat) else s
theorem wl_take {ws xs : List Int} {m : Nat} (h : m ≤ 8) : (wl ws xs 8).take m = wl ws xs m := by
 unfold wl
 rw [← List.map_take, List.take_range, Nat.min_eq_left h]
theorem implEach (h : wfTable st pr) (ho : okT st pr = true) {z : Int} (hz : 0 ≤ z ∧ z ≤ (pr.length : Int) - 1) {ws xs : List Int} (hw : light ws) (h8 : ws.length ≤ 8) (s : List Int × Int) (hl : xs.length = ws.length) (hx : ∀ x ∈ xs, 0 ≤ x ∧ x < (ws.length : Int)) {m : Nat} (hm : m ≤ ws.length) :
  Ev (fun k => impl_BestParcels.each k ws st pr z s xs (m : Int)) (true, updQ st pr z ws s xs (m : Int)) := by
 unfold impl_BestParcels.each f8z.f
 have hh : ∀ (d j : Nat), j + d = m → Ev (fun k => f8z.l0 k (sumQ st pr z ws xs j) (wl ws xs m) (m : Int) (j : Int) st pr z s.2) (true, if s.2 < 0 then some (sumQ st pr z ws xs m) else if sumQ st pr z ws xs m < s.2 then some (sumQ st pr z ws xs m) else none) := by
  intro d
  induction d with
  | zero =>
   intro j hj
   obtain rfl : j = m := by omega
   refine Ev.step (f := fun _ => if s.2 < 0 then some (true, some (sumQ st pr z ws xs j)) else if sumQ st pr z ws xs j < s.2 then some (true, some (sumQ st pr z ws xs j)) else some (true, none)) (fun k => ?_) ?_
   ·simp only [f8z.l0]; rw [if_neg (by omega)]
   ·split
    ·exact Ev.now _
    ·split <;> exact Ev.now _
  | succ d ih =>
   intro j hj
   have hb := sumQ_bd ho hz ws xs j
   have hp := prc_bd ho hz (wg ws (j : Int) xs 0)
   refine Ev.step (f := fun k => f8z.l0 k (sumQ st pr z ws xs (j + 1)) (wl ws xs m) (m : Int) ((j + 1 : Nat) : Int) st pr z s.2) (fun k => ?_) (ih (j + 1) (by omega))
   simp only [f8z.l0]
   have e : ∀ w, impl_Table_price.f st pr z w = some (prc st pr z w, !decide (stepOf st w < 0)) := by
    intro w
    rw [implPrice h ho hz]
    unfold prc
    by_cases c : stepOf st w < 0
    ·rw [if_pos c, if_pos c, decide_eq_true c]; rfl
    ·rw [if_neg c, if_neg c, decide_eq_false c]; rfl
   rw [if_pos (by omega), if_pos (by omega), if_pos (by rw [wl_len]; omega), show rd (wl ws xs m) (j : Int) = (wl ws xs m).getD j 0 from rfl, wl_get (by omega), e, wrap_sm (i := (j : Int) + 1) (by omega) (by omega)]
   simp only [Option.bind_some]
   rw [wrap_sm (by omega) (by omega)]; rfl
 refine Ev.bind (a := (true, if s.2 < 0 then some (sumQ st pr z ws xs m) else if sumQ st pr z ws xs m < s.2 then some (sumQ st pr z ws xs m) else none)) (Ev.bind (weights_eq hw (fun x hx2 => by have := hx x hx2; omega) (by omega) h8) ?_) ?_
 ·simp only [if_pos (show (0 : Int) ≤ (m : Int) by omega), wl_len, if_pos (show (m : Int) ≤ ((8 : Nat) : Int) by omega), Option.bind_some, Int.toNat_natCast, wl_take (show m ≤ 8 by omega), wl_len]
  exact hh m 0 (by omega)
 ·refine Ev.eq (Ev.now _) ?_
  unfold updQ
  simp only [Int.toNat_natCast]
  by_cases c1 : s.2 < 0
  ·simp only [if_pos c1]
  ·simp only [if_neg c1]
   by_cases c2 : sumQ st pr z ws xs m < s.2
   ·simp only [if_pos c2]
   ·simp only [if_neg c2]
/-- The reference's best parcels. -/
def bestP (st : List Int) (pr : List (List Int)) (z : Int) (ws : List Int) : List Int × Int × Bool := srchP (mayP st ws) (updP st pr z ws) ws.length [] 0 ([], 0, false)
theorem mayP_new {ws xs : List Int} {m : Nat} (hst : ∀ w ∈ ws, 0 ≤ stepOf st w) (hl : xs.length < ws.length) (hi : InvP st ws xs m) : mayP st ws xs m = true := by
 unfold mayP okP
 rw [wg_snoc, if_pos rfl, wg_none xs 0 (fun x hx => by have := (hi.2.1 x hx).2; omega), Int.zero_add]
 exact decide_eq_true (hst _ (get_mem (0 : Int) hl).1)
theorem best_rel (ho : okT st pr = true) {z : Int} (hz : 0 ≤ z ∧ z ≤ (pr.length : Int) - 1) {ws : List Int} (hst : ∀ w ∈ ws, 0 ≤ stepOf st w) :
  srchP (mayP st ws) (updQ st pr z ws) ws.length [] 0 ([], -1) = ((bestP st pr z ws).1, (bestP st pr z ws).2.1) := by
 have hr := srchP_rel (mayP st ws) (u := updP st pr z ws) (v := updQ st pr z ws) (InvP st ws) ws.length
  (fun s t => (s = ([], 0, false) ∧ t = ([], -1)) ∨ (s.2.2 = true ∧ t = (s.1, s.2.1) ∧ 0 ≤ s.2.1)) (fun s t xs m hR hx hi => ?_) (fun xs m k hx hk hi hp => InvP_step hk hi hp) ws.length [] 0 ([], 0, false) ([], -1) (by simp) (InvP_nil ho ws) (.inl ⟨rfl, rfl⟩)
 ·have he := srchP_end (mayP st ws) (u := updP st pr z ws) (InvP st ws) ws.length (fun s => s.2.2 = true) (fun s xs m => ?_) (fun xs m k hx hk hi hp => InvP_step hk hi hp) (fun xs m hx hi => mayP_new hst hx hi) ws.length [] 0 ([], 0, false) (by simp) (InvP_nil ho ws)
  ·rcases hr with ⟨h1, _⟩ | ⟨_, h2, _⟩
   ·rw [h1] at he; cases he
   ·exact h2
  ·unfold updP updS
   simp only [if_true]
   by_cases c : s.2.2 = true
   ·rw [if_pos c]; split
    ·rfl
    ·exact c
   ·rw [if_neg c]
 ·have hb := sumQ_bd ho hz ws xs m
  have hq : sumO st pr z ws xs m = sumQ st pr z ws xs m := (sumQ_O hz.1 hi.2.2 m).symm
  unfold updP updS updQ
  simp only [if_true, Int.toNat_natCast, hq]
  rcases hR with ⟨rfl, rfl⟩ | ⟨h1, rfl, h3⟩
  ·right
   simp only [Bool.false_eq_true, if_false, if_pos (show (-1 : Int) < 0 by omega)]
   refine ⟨?_, ?_, hb.1⟩ <;> first | rfl | trivial
  ·right
   rw [if_pos h1]
   simp only [if_neg (show ¬ s.2.1 < 0 by omega)]
   by_cases c : sumQ st pr z ws xs m < s.2.1
   ·simp only [if_pos c]; refine ⟨?_, ?_, hb.1⟩ <;> first | rfl | trivial
   ·simp only [if_neg c]; refine ⟨h1, ?_, h3⟩; first | rfl | trivial
def rBestP (st : List Int) (pr : List (List Int)) (z : Int) (ws : List Int) : List Int × Int × Int :=
 if alC st pr z ws = 0 then ((bestP st pr z ws).1, (bestP st pr z ws).2.1, 0) else ([], 0, alC st pr z ws)
theorem specBestParcels (h : wfTable st pr) (z : Int) {ws : List Int} (hl : ws.length ≤ 2097152) : Ev (fun k => spec_BestParcels.f k st pr z ws) (rBestP st pr z ws) := by
 unfold spec_BestParcels.f rBestP
 refine Ev.bind (show Ev _ (alC st pr z ws) from specAlone h z hl) ?_
 by_cases hc : alC st pr z ws = 0
 ·simp only [if_pos hc]
  obtain ⟨ho, hz, hws, h8, hst⟩ := alC_ok hc
  exact Ev.bind (specFromP h ho (.inr hz) (light_of hws) h8) (Ev.now _)
 ·simp only [if_neg hc]; exact Ev.now _
theorem implBestParcels (h : wfTable st pr) (z : Int) (ws : List Int) : Ev (fun k => impl_BestParcels.f k st pr z ws) (rBestP st pr z ws) := by
 unfold impl_BestParcels.f rBestP
 refine Ev.bind (implParcelCode h z ws) ?_
 by_cases hc : alC st pr z ws = 0
 ·simp only [if_pos hc]
  obtain ⟨ho, hz, hws, h8, hst⟩ := alC_ok hc
  have hw := light_of hws
  have hg : Ev (fun k => impl_BestParcels.go k st pr z ws) ((bestP st pr z ws).1, (bestP st pr z ws).2.1) := by
   unfold impl_BestParcels.go
   refine Ev.bind (Ev2.diag (grouped_prn (may := fun k x y => f6z.f k x y st pr ws) (p := mayP st ws) (each := fun k => impl_BestParcels.each k ws st pr z) (upd := updQ st pr z ws) (n := ws.length) (by omega) (fun xs k hx hv hk => implMayP h hw h8 hv hx hk) (fun s xs m hx hv hm => implEach h ho hz hw h8 s hx hv hm) ws.length [] 0 ([], -1) (by simp) (by simp) (by simp))) ?_
   rw [best_rel ho hz hst]
   exact Ev.now _
  exact Ev.bind hg (Ev.now _)
 ·simp only [if_neg hc]; exact Ev.now _
theorem bestP_len (ho : okT st pr = true) (z : Int) (ws : List Int) : (bestP st pr z ws).1.length ≤ ws.length := by
 have := srchP_rel (mayP st ws) (u := updP st pr z ws) (v := fun (_ : Unit) _ _ => ()) (InvP st ws) ws.length (fun s _ => s.1.length ≤ ws.length) (fun s t xs m hR hx hi => by
  unfold updP updS
  simp only [if_true]
  split
  ·split
   ·show xs.length ≤ ws.length; omega
   ·exact hR
  ·show xs.length ≤ ws.length; omega) (fun xs m k hx hk hi hp => InvP_step hk hi hp) ws.length [] 0 ([], 0, false) () (by simp) (InvP_nil ho ws) (by simp)
 exact this
theorem rBestP_len {z : Int} {ws : List Int} (hl : ws.length ≤ 2097152) : (rBestP st pr z ws).1.length ≤ 2097152 := by
 unfold rBestP
 by_cases hc : alC st pr z ws = 0
 ·rw [if_pos hc]
  have := bestP_len (alC_ok hc).1 z ws
  show (bestP st pr z ws).1.length ≤ 2097152
  omega
 ·rw [if_neg hc]; simp
end
theorem BestParcels : laws_FnExactBestParcels.Pure := by
 intro l0_0 l0_1 a1 l2 ⟨_, hb0, hw0⟩ ⟨_, hb0', hw0'⟩ h1 ⟨_, hb2, hw2⟩
 apply Ev.rounds
 unfold laws_FnExactBestParcels.f
 by_cases g2 : (l2.length : Int) > 1048576
 ·simp only [if_pos g2]; exact Ev.now _
 simp only [if_neg g2]
 obtain ⟨r0, hr0, hd0⟩ := szTable l0_0 l0_1 (by omega) (by omega) (fun y hy => by have := (hw0' y hy).2.1; omega) (1048576) (by omega) (by omega)
 with_reducible refine Ev.bind hr0 ?_
 by_cases g0 : r0 < 0
 ·simp only [if_pos g0]; exact Ev.now _
 simp only [if_neg g0]
 obtain ⟨hd0, hd0_, hs0, hl0, hy0⟩ := hd0.resolve_left g0
 have hl2 : l2.length ≤ 2097152 := by omega
 have hT0 : wfTable l0_0 l0_1 := ⟨by omega, by omega, fun y hy => Nat.le_trans (hy0 y hy) (by omega), hw0, fun y hy => (hw0' y hy).2.2⟩
 have hS := specBestParcels hT0 a1 hl2
 have hI := implBestParcels hT0 a1 l2
 have hT := rBestP_len (st := l0_0) (pr := l0_1) (z := a1) hl2
 generalize rBestP l0_0 l0_1 a1 l2 = R at hS hI hT
 obtain ⟨r, y, z, hm, hr, hr2⟩ := markTable hT0
 obtain ⟨y2, hm2⟩ := markAny64 l2 hl2 r hr (by omega)
 have hM := markInt64S R.1 hT
 have hH := heldInt64S R.1.length hT
 have hn : ¬ (1 + (R.1.length : Int)) < 0 := by omega
 have hrn : ¬ (r + (l2.length : Int)) < 0 := by omega
 have hE := eqInt64S R.1 hT
 repeat (first | exact Ev.now _ | (with_reducible refine Ev.bind hS ?_) | (with_reducible refine Ev.bind hI ?_) | (with_reducible refine Ev.bind hM ?_) | (with_reducible refine Ev.bind hH ?_) | (with_reducible refine Ev.bind hm ?_) | (with_reducible refine Ev.bind hm2 ?_) | (with_reducible refine Ev.bind hE ?_) | (with_reducible refine Ev.bind (toInt64S l2 hl2) ?_) | (with_reducible refine Ev.bind (eqInt64S l2 hl2) ?_) | (with_reducible refine Ev.bind (toTable hT0) ?_) | (with_reducible refine Ev.bind (eqTable hT0) ?_) | simp only [if_true, eq_self_iff_true, bne_self_eq_false, Bool.false_eq_true, if_false, Option.bind_some, if_neg hn, if_neg hrn] | (show Ev (fun n => laws_FnExactBestParcels.j0 n _ _ _ _ _ _ _ _ _ _ _ _ _ _) _; refine Ev.step (fun k => by simp only [laws_FnExactBestParcels.j0]; rfl) ?_) | (show Ev (fun n => laws_FnExactBestParcels.j1 n _ _ _ _ _ _ _ _ _) _; refine Ev.step (fun k => by simp only [laws_FnExactBestParcels.j1]; rfl) ?_) | (show Ev (fun n => laws_FnExactBestParcels.j2 n _ _ _) _; refine Ev.step (fun k => by simp only [laws_FnExactBestParcels.j2]; rfl) ?_))
end Go.Proofs.Ytdeipindfhkioaa.Pure
