/- The reference's search for parcels, told by the plain recursion. -/
import Derived.Test.YtdeipindfhkioaaQ4
import Derived.Test.YtdeipindfhkioaaPureCPrn
import Derived.Test.YtdeipindfhkioaaPureCWgt
import Derived.Test.YtdeipindfhkioaaPureCPriceS
set_option linter.unusedVariables false
set_option linter.unusedSimpArgs false
namespace Go.Proofs.Ytdeipindfhkioaa.Pure
open Go.RowKit Go.Proofs.Ytdeipindfhkioaa.Q Go.Proofs.YtdeipindfhkioaaMine Go.Proofs.YtdeipindfhkioaaW.PrintWords Go.Proofs.YtdeipindfhkioaaW.PrintMore
section
variable {st : List Int} {pr : List (List Int)}
/-- What a parcel costs in a zone; each one 1 without a zone. -/
def own (st : List Int) (pr : List (List Int)) (z w : Int) : Int := if 0 ≤ z then priceAt pr z (stepOf st w) else 1
theorem own_bd (ho : okT st pr = true) {z : Int} (hz : z = -1 ∨ (0 ≤ z ∧ z ≤ (pr.length : Int) - 1)) {w : Int} (hs : 0 ≤ stepOf st w) : 0 ≤ own st pr z w ∧ own st pr z w ≤ 10000 ∧ (z < 0 → own st pr z w = 1) := by
 unfold own
 by_cases c : 0 ≤ z
 ·rw [if_pos c]
  obtain ⟨hr, hx⟩ := okT_row ho (show 0 ≤ z ∧ z ≤ (pr.length : Int) - 1 by omega)
  have := hx (stepOf st w).toNat (by have := stepOf_hi st w; omega)
  exact ⟨this.1, this.2, fun h => by omega⟩
 ·rw [if_neg c]; omega
theorem specCostP (h : wfTable st pr) (ho : okT st pr = true) {z : Int} (hz : z = -1 ∨ (0 ≤ z ∧ z ≤ (pr.length : Int) - 1)) {w : Int} (hs : 0 ≤ stepOf st w) (it be : List Int) (le : Int) (fo : Bool) : Ev (fun k => f17z.f k 0 z it be le fo w st pr) (own st pr z w) := by
 unfold f17z.f own
 by_cases c : 0 ≤ z
 ·simp only [if_pos c, if_pos (show z ≥ 0 from c)]
  refine Ev.eq (Ev.bind (specPrice h ho (by omega) w) (Ev.now _)) ?_
  unfold priceOf
  rw [if_neg (by omega)]
 ·simp only [if_neg c, if_neg (show ¬ z ≥ 0 from c)]
  have hhi := stepOf_hi st w
  obtain ⟨⟨_, h10⟩, _⟩ := okT_bd ho
  have e : spec_l00Min.f 1 (wrap64 (stepOf st w + 1)) = some 1 := by
   rw [wrap_sm (by omega) (by omega)]
   unfold spec_l00Min.f
   by_cases e : (1 : Int) < stepOf st w + 1
   ·rw [if_pos e]
   ·rw [if_neg e, show stepOf st w + 1 = 1 by omega]
  refine Ev.bind (specStep h w) ?_
  simp only [e, Option.bind_some]
  exact Ev.now _
/-- What the first j parcels cost. -/
def sumO (st : List Int) (pr : List (List Int)) (z : Int) (ws xs : List Int) : Nat → Int
 | 0 => 0
 | j + 1 => sumO st pr z ws xs j + own st pr z (wg ws (j : Int) xs 0)
theorem sumO_bd (ho : okT st pr = true) {z : Int} (hz : z = -1 ∨ (0 ≤ z ∧ z ≤ (pr.length : Int) - 1)) {ws xs : List Int} (hok : ∀ k, okP st ws xs k = true) : ∀ j : Nat, 0 ≤ sumO st pr z ws xs j ∧ sumO st pr z ws xs j ≤ 10000 * (j : Int)
 | 0 => by simp [sumO]
 | j + 1 => by
  have h1 := sumO_bd ho hz hok j
  have h2 := own_bd ho hz (of_decide_eq_true (hok j))
  unfold sumO
  omega
/-- The reference's step at a whole list. -/
def updP (st : List Int) (pr : List (List Int)) (z : Int) (ws : List Int) : (List Int × Int × Bool) → List Int → Int → List Int × Int × Bool := updS (fun xs m => (sumO st pr z ws xs m.toNat, true))
theorem leafP (h : wfTable st pr) (ho : okT st pr = true) {z : Int} (hz : z = -1 ∨ (0 ≤ z ∧ z ≤ (pr.length : Int) - 1)) {ws xs : List Int} (hx : xs.length ≤ 1000) {m : Nat} (hm : m ≤ 1000) (hok : ∀ k, okP st ws xs k = true) (s : List Int × Int × Bool) :
  Ev (fun k => f9z.l0 k xs (wl ws xs m) 0 0 0 z ws s.1 s.2.1 s.2.2 st pr) (updP st pr z ws s xs (m : Int)) := by
 suffices hh : ∀ (d j : Nat), j + d = m → Ev (fun k => f9z.l0 k xs (wl ws xs m) (sumO st pr z ws xs j) (j : Int) 0 z ws s.1 s.2.1 s.2.2 st pr) (updP st pr z ws s xs (m : Int)) from hh m 0 (by omega)
 intro d
 induction d with
 | zero =>
  intro j hj
  obtain rfl : j = m := by omega
  refine Ev.step (f := fun _ => some (updP st pr z ws s xs (j : Int))) (fun k => ?_) (Ev.now _)
  simp only [f9z.l0]
  rw [if_neg (by rw [wl_len]; omega)]
  unfold updP updS
  simp only [List.length_nil, Nat.zero_add, List.nil_append, if_pos (show xs.length < 17592186044416 by omega), Int.toNat_natCast, if_true]
  split
  ·split <;> rfl
  ·rfl
 | succ d ih =>
  intro j hj
  have hs := of_decide_eq_true (hok j)
  obtain ⟨o0, o1, o2⟩ := own_bd ho hz hs
  have hb := sumO_bd ho hz hok j
  refine Ev.step (f := fun k => (f17z.f k 0 z ws s.1 s.2.1 s.2.2 (wg ws (j : Int) xs 0) st pr).bind fun t185 => (if t185 < 0 then (some (s.1, s.2.1, s.2.2)) else (if z < 0 then (if t185 = 0 then (some (s.1, s.2.1, s.2.2)) else (f9z.l0 k xs (wl ws xs m) (wrap64 (sumO st pr z ws xs j + t185)) ((j + 1 : Nat) : Int) 0 z ws s.1 s.2.1 s.2.2 st pr)) else (f9z.l0 k xs (wl ws xs m) (wrap64 (sumO st pr z ws xs j + t185)) ((j + 1 : Nat) : Int) 0 z ws s.1 s.2.1 s.2.2 st pr)))) (fun k => ?_) (Ev.bind (specCostP h ho hz hs _ _ _ _) ?_)
  ·simp only [f9z.l0]
   rw [if_pos (by rw [wl_len]; omega), if_pos (by omega), show rd (wl ws xs m) (j : Int) = (wl ws xs m).getD j 0 from rfl, wl_get (by omega), wrap_sm (i := (j : Int) + 1) (by omega) (by omega)]; rfl
  ·simp only [if_neg (show ¬ own st pr z (wg ws (j : Int) xs 0) < 0 by omega), wrap_sm (i := sumO st pr z ws xs j + own st pr z (wg ws (j : Int) xs 0)) (by omega) (by omega)]
   have hg := ih (j + 1) (by omega)
   by_cases c : z < 0
   ·simp only [if_pos c, if_neg (show ¬ own st pr z (wg ws (j : Int) xs 0) = 0 by have := o2 c; omega)]; exact hg
   ·simp only [if_neg c]; exact hg
/-- What is known of a list of parcels so far. -/
def InvP (st ws xs : List Int) (m : Nat) : Prop := m ≤ xs.length ∧ (∀ x ∈ xs, 0 ≤ x ∧ x < (m : Int)) ∧ ∀ k, okP st ws xs k = true
/-- Whether the next item may have a number. -/
def mayP (st ws xs : List Int) (k : Nat) : Bool := okP st ws (xs ++ [(k : Int)]) k
theorem InvP_step {ws xs : List Int} {m k : Nat} (hk : k ≤ m) (hi : InvP st ws xs m) (hp : mayP st ws xs k = true) : InvP st ws (xs ++ [(k : Int)]) (max m (k + 1)) := by
 refine ⟨by have := hi.1; simp; omega, fun x hx => ?_, fun j => ?_⟩
 ·rcases List.mem_append.1 hx with h | h
  ·have := hi.2.1 x h; omega
  ·rw [List.mem_singleton] at h; omega
 ·by_cases c : k = j
  ·rw [← c]; exact hp
  ·rw [okP_other st ws xs c]; exact hi.2.2 j
theorem from_prn (h : wfTable st pr) (ho : okT st pr = true) {z : Int} (hz : z = -1 ∨ (0 ≤ z ∧ z ≤ (pr.length : Int) - 1)) {ws : List Int} (hw : light ws) (h8 : ws.length ≤ 8) :
  ∀ (d : Nat) (xs : List Int) (m : Nat) (s : List Int × Int × Bool), xs.length + d = ws.length → InvP st ws xs m → Ev2 (fun kc b => f9z.c kc z ws st pr b s xs (wl ws xs m)) (srchP (mayP st ws) (updP st pr z ws) d xs m s) := by
 intro d
 induction d with
 | zero =>
  intro xs m s hd hi
  refine Ev2.step (G := fun kc _ => f9z.l0 kc xs (wl ws xs m) 0 0 0 z ws s.1 s.2.1 s.2.2 st pr) (fun kc b => ?_) (Ev2.left (leafP h ho hz (by omega) (by have := hi.1; omega) hi.2.2 s))
  simp only [f9z.c]
  rw [if_pos (by omega)]
 | succ d ih =>
  intro xs m s hd hi
  have hm := hi.1
  have hw1 := hw xs.length
  refine Ev2.step (G := fun kc b => f9z.l1 kc z ws st pr b xs (wl ws xs m) (ws.getD xs.length 0) 0 s) (fun kc b => ?_) ?_
  ·simp only [f9z.c]
   rw [if_neg (by omega), if_pos (by omega), if_pos (by omega)]; rfl
  ·have loop : ∀ (e j : Nat), j + e = m + 1 → ∀ s, Ev2 (fun kc b => f9z.l1 kc z ws st pr b xs (wl ws xs m) (ws.getD xs.length 0) (j : Int) s) (((List.range (m + 1)).drop j).foldl (fun s (k : Nat) => if mayP st ws xs k = true then srchP (mayP st ws) (updP st pr z ws) d (xs ++ [(k : Int)]) (max m (k + 1)) s else s) s) := by
    intro e
    induction e with
    | zero =>
     intro j hj s
     refine Ev2.step (G := fun _ _ => some s) (fun kc b => ?_) (Ev2.eq (Ev2.now _) ?_)
     ·simp only [f9z.l1]
      rw [if_neg (by rw [wl_len]; omega)]
     ·rw [List.drop_eq_nil_of_le (by rw [List.length_range]; omega)]; rfl
    | succ e ie =>
     intro j hj s
     have hj1 : wrap64 ((j : Int) + 1) = ((j + 1 : Nat) : Int) := by rw [wrap_sm (by omega) (by omega)]; omega
     have hb := wg_bd hw (j : Int) xs 0
     -- the next weights
     refine Ev2.step (G := fun kc b => f9z.j2 kc z ws st pr b xs (wl ws xs m) (ws.getD xs.length 0) (j : Int) (wl ws (xs ++ [(j : Int)]) (max m (j + 1))) s) (fun kc b => ?_) ?_
     ·simp only [f9z.l1]
      rw [if_pos (by rw [wl_len]; omega)]
      simp only [Option.bind_some, List.length_nil, Nat.zero_add, List.nil_append, wl_len, if_pos (show m < 17592186044416 by omega)]
      by_cases c : j = m
      ·subst c
       rw [if_pos rfl, wl_app (fun x hx => (hi.2.1 x hx).2), show max j (j + 1) = j + 1 by omega]
      ·rw [if_neg (by omega), if_pos (by omega), if_pos (by omega), show rd (wl ws xs m) (j : Int) = (wl ws xs m).getD j 0 from rfl, wl_get (by omega), wrap_sm (by omega) (by omega), Int.toNat_natCast, wl_set (by omega), show max m (j + 1) = m by omega]
     ·have hwj : (wl ws (xs ++ [(j : Int)]) (max m (j + 1))).getD j 0 = wg ws (j : Int) (xs ++ [(j : Int)]) 0 := wl_get (by omega)
      refine Ev2.step (G := fun kc b => (spec_l03Step.f kc st pr (wg ws (j : Int) (xs ++ [(j : Int)]) 0)).bind fun t => if t ≥ 0 then ((f9z.c kc z ws st pr b s (xs ++ [(j : Int)]) (wl ws (xs ++ [(j : Int)]) (max m (j + 1)))).bind fun t => f9z.l1 kc z ws st pr b xs (wl ws xs m) (ws.getD xs.length 0) ((j + 1 : Nat) : Int) t) else f9z.l1 kc z ws st pr b xs (wl ws xs m) (ws.getD xs.length 0) ((j + 1 : Nat) : Int) s) (fun kc b => ?_) (Ev2.bind (Ev2.left (specStep h _)) ?_)
      ·simp only [f9z.j2]
       rw [if_pos (by omega), if_pos (by rw [wl_len]; omega), show rd (wl ws (xs ++ [(j : Int)]) (max m (j + 1))) (j : Int) = (wl ws (xs ++ [(j : Int)]) (max m (j + 1))).getD j 0 from rfl, hwj]
       simp only [Option.bind_some, List.length_nil, Nat.zero_add, List.nil_append, if_pos (show xs.length < 17592186044416 by omega), hj1]
      ·rw [range_drop (by omega), List.foldl_cons]
       by_cases c : stepOf st (wg ws (j : Int) (xs ++ [(j : Int)]) 0) ≥ 0
       ·have hp : mayP st ws xs j = true := decide_eq_true c
        simp only [if_pos c]
        rw [if_pos hp]
        refine Ev2.bind (ih (xs ++ [(j : Int)]) (max m (j + 1)) s (by simp; omega) (InvP_step (by omega) hi hp)) ?_
        exact ie (j + 1) (by omega) _
       ·have hp : mayP st ws xs j = false := decide_eq_false c
        simp only [if_neg c]
        rw [if_neg (by rw [hp]; decide)]
        exact ie (j + 1) (by omega) _
   exact Ev2.eq (loop (m + 1) 0 (by omega) s) (by rw [List.drop_zero]; rfl)
theorem InvP_nil (ho : okT st pr = true) (ws : List Int) : InvP st ws [] 0 := ⟨by simp, by simp, fun k => okP_nil ho ws k⟩
theorem specFromP (h : wfTable st pr) (ho : okT st pr = true) {z : Int} (hz : z = -1 ∨ (0 ≤ z ∧ z ≤ (pr.length : Int) - 1)) {ws : List Int} (hw : light ws) (h8 : ws.length ≤ 8) : Ev (fun k => f9z.f k z ws st pr) (srchP (mayP st ws) (updP st pr z ws) ws.length [] 0 ([], 0, false)) := by
 unfold f9z.f
 exact Ev2.diag (from_prn h ho hz hw h8 ws.length [] 0 ([], 0, false) (by simp) (InvP_nil ho ws))
end
end Go.Proofs.Ytdeipindfhkioaa.Pure
