/- FewestParcels returns what the reference returns, for all arguments. -/
import Derived.Test.YtdeipindfhkioaaQ6
import Derived.Test.YtdeipindfhkioaaPureCFromP
import Derived.Test.YtdeipindfhkioaaPureToInt64
import Derived.Test.YtdeipindfhkioaaPureToTable
import Derived.Test.YtdeipindfhkioaaPureMkInt64
import Derived.Test.YtdeipindfhkioaaPureMkTable
set_option linter.unusedVariables false
set_option linter.unusedSimpArgs false
namespace Go.Proofs.Ytdeipindfhkioaa.Pure
open Go.RowKit Go.Proofs.Ytdeipindfhkioaa.Q Go.Proofs.YtdeipindfhkioaaMine Go.Proofs.YtdeipindfhkioaaW.PrintWords Go.Proofs.YtdeipindfhkioaaW.PrintMore
section
variable {st : List Int} {pr : List (List Int)}
def rFewP (st : List Int) (pr : List (List Int)) (ws : List Int) : List Int × Int × Int :=
 if alC st pr 0 ws = 0 then ((bestF (okP st ws) ws.length).1, (bestF (okP st ws) ws.length).2.1, 0) else ([], 0, alC st pr 0 ws)
theorem sumO_few (ws xs : List Int) : ∀ j : Nat, sumO st pr (-1) ws xs j = (j : Int)
 | 0 => rfl
 | j + 1 => by
  unfold sumO own
  rw [sumO_few ws xs j, if_neg (by omega)]; omega
theorem few_srch (ho : okT st pr = true) {ws : List Int} (hw : light ws) : srchP (mayP st ws) (updP st pr (-1) ws) ws.length [] 0 ([], 0, false) = bestF (okP st ws) ws.length := by
 unfold bestF
 refine srchP_srch (mayP st ws) _ _ (InvP st ws) ws.length (fun s xs m hx hi => ?_) (fun xs m k hx hk hi hp => InvP_step hk hi hp) (fun xs m k d q hx hk hi hp hq s => ?_) ws.length [] 0 _ (by simp) (InvP_nil ho ws)
 ·unfold updP updS cT
  have : allT (okP st ws) xs (m : Int).toNat = true := List.all_eq_true.2 (fun k _ => hi.2.2 k)
  rw [this]
  simp only [if_true, sumO_few, Int.toNat_natCast]
 ·obtain ⟨zs, h1, h2, h3, _⟩ := leaf_of _ _ _ _ hq
  have : allT (okP st ws) q.1 q.2 = false := by
   cases ht : allT (okP st ws) q.1 q.2 with
   | false => rfl
   | true =>
    have h4 := (List.all_eq_true.1 ht) k (List.mem_range.2 (by omega))
    rw [h1] at h4
    have h5 := okP_mono hw (xs ++ [(k : Int)]) zs k h4
    unfold mayP at hp
    rw [h5] at hp; cases hp
  unfold updS cT
  rw [Int.toNat_natCast, this]
  rfl
theorem bestF_no (Ok : List Int → Nat → Bool) (n : Nat) : ¬ (bestF Ok n).2.2 = true → bestF Ok n = ([], 0, false) := by
 have := srch_rel (u := updS (cT (allT Ok))) (v := fun (_ : Unit) _ _ => ()) n (fun s _ => ¬ s.2.2 = true → s = ([], 0, false)) (fun s t xs k hR hx hn => by
  unfold updS
  split
  ·split
   ·split
    ·intro h; exact absurd rfl h
    ·exact hR
   ·intro h; exact absurd rfl h
  ·exact hR) n [] 0 ([], 0, false) () (by simp) (by simp) (fun _ => rfl)
 exact this
theorem bestF_len (Ok : List Int → Nat → Bool) (n : Nat) : (bestF Ok n).1.length ≤ n := by
 have := srch_rel (u := updS (cT (allT Ok))) (v := fun (_ : Unit) _ _ => ()) n (fun s _ => s.1.length ≤ n) (fun s t xs k hR hx hn => by
  unfold updS
  split
  ·split
   ·split
    ·show xs.length ≤ n; omega
    ·exact hR
   ·show xs.length ≤ n; omega
  ·exact hR) n [] 0 ([], 0, false) () (by simp) (by simp) (by simp)
 exact this
theorem specFewestParcels (h : wfTable st pr) {ws : List Int} (hl : ws.length ≤ 2097152) : Ev (fun k => f13z.f k st pr ws) (rFewP st pr ws) := by
 unfold f13z.f rFewP
 refine Ev.bind (show Ev _ (alC st pr 0 ws) from specAlone h 0 hl) ?_
 by_cases hc : alC st pr 0 ws = 0
 ·simp only [if_pos hc]
  obtain ⟨ho, hz, hws, h8, hst⟩ := alC_ok hc
  have hw := light_of hws
  refine Ev.bind (specFromP h ho (.inl rfl) hw h8) ?_
  rw [few_srch ho hw]
  exact Ev.now _
 ·simp only [if_neg hc]; exact Ev.now _
theorem implFewestParcels (h : wfTable st pr) (ws : List Int) : Ev (fun k => f11z.f k st pr ws) (rFewP st pr ws) := by
 unfold f11z.f rFewP
 refine Ev.bind (implParcelCode h 0 ws) ?_
 by_cases hc : alC st pr 0 ws = 0
 ·simp only [if_pos hc]
  obtain ⟨ho, hz, hws, h8, hst⟩ := alC_ok hc
  have hw := light_of hws
  refine Ev.bind (few_all (may := fun k x y => f9z.f k x y st pr ws) (Ok := okP st ws) (by omega) (fun xs k hx hv hk => implMayP h hw h8 hv hx hk) (fun k => okP_nil ho ws k) (fun xs zs k _ h => okP_mono hw xs zs k h) (fun xs j k _ hj h => by rw [okP_other st ws xs hj]; exact h)) ?_
  by_cases c : (bestF (okP st ws) ws.length).2.2 = true
  ·simp only [if_pos c]; exact Ev.now _
  ·simp only [if_neg c]
   rw [bestF_no _ _ c]
   exact Ev.now _
 ·simp only [if_neg hc]; exact Ev.now _
theorem rFewP_len {ws : List Int} (hl : ws.length ≤ 2097152) : (rFewP st pr ws).1.length ≤ 2097152 := by
 unfold rFewP
 have := bestF_len (okP st ws) ws.length
 split
 ·show (bestF (okP st ws) ws.length).1.length ≤ 2097152; omega
 ·simp
end
theorem FewestParcels : laws_FnExactFewestParcels.Pure := by
 intro l0_0 l0_1 l2 ⟨_, hb0, hw0⟩ ⟨_, hb0', hw0'⟩ ⟨_, hb2, hw2⟩
 apply Ev.rounds
 unfold laws_FnExactFewestParcels.f
 by_cases g2 : (l2.length : Int) > 1048576
 ·simp only [if_pos g2]; exact Ev.now _
 simp only [if_neg g2]
 obtain ⟨r0, hr0, hd0⟩ := szTable l0_0 l0_1 (by omega) (by omega) (fun y hy => by have := (hw0' y hy).2.1; omega) (1048576) (by omega) (by omega)
 with_reducible refine Ev.bind hr0 ?_
 by_cases g0 : r0 < 0
 ·simp only [if_pos g0]; exact Ev.now _
 simp only [if_neg g0]
 obtain ⟨hd0, hd0_, hs0, hl0, hy0⟩ := hd0.resolve_left g0
 have hl2 : l2.length ≤ 2097152 := by omega
 have hT0 : wfTable l0_0 l0_1 := ⟨by omega, by omega, fun y hy => Nat.le_trans (hy0 y hy) (by omega), hw0, fun y hy => (hw0' y hy).2.2⟩
 have hS := specFewestParcels hT0 hl2
 have hI := implFewestParcels hT0 l2
 have hT := rFewP_len (st := l0_0) (pr := l0_1) hl2
 generalize rFewP l0_0 l0_1 l2 = R at hS hI hT
 obtain ⟨r, y, z, hm, hr, hr2⟩ := markTable hT0
 obtain ⟨y2, hm2⟩ := markAny64 l2 hl2 r hr (by omega)
 have hM := markInt64S R.1 hT
 have hH := heldInt64S R.1.length hT
 have hn : ¬ (1 + (R.1.length : Int)) < 0 := by omega
 have hrn : ¬ (r + (l2.length : Int)) < 0 := by omega
 have hE := eqInt64S R.1 hT
 repeat (first | exact Ev.now _ | (with_reducible refine Ev.bind hS ?_) | (with_reducible refine Ev.bind hI ?_) | (with_reducible refine Ev.bind hM ?_) | (with_reducible refine Ev.bind hH ?_) | (with_reducible refine Ev.bind hm ?_) | (with_reducible refine Ev.bind hm2 ?_) | (with_reducible refine Ev.bind hE ?_) | (with_reducible refine Ev.bind (toInt64S l2 hl2) ?_) | (with_reducible refine Ev.bind (eqInt64S l2 hl2) ?_) | (with_reducible refine Ev.bind (toTable hT0) ?_) | (with_reducible refine Ev.bind (eqTable hT0) ?_) | simp only [if_true, eq_self_iff_true, bne_self_eq_false, Bool.false_eq_true, if_false, Option.bind_some, if_neg hn, if_neg hrn] | (show Ev (fun n => laws_FnExactFewestParcels.j0 n _ _ _ _ _ _ _ _ _ _ _ _ _) _; refine Ev.step (fun k => by simp only [laws_FnExactFewestParcels.j0]; rfl) ?_) | (show Ev (fun n => laws_FnExactFewestParcels.j1 n _ _ _ _ _ _ _ _) _; refine Ev.step (fun k => by simp only [laws_FnExactFewestParcels.j1]; rfl) ?_) | (show Ev (fun n => laws_FnExactFewestParcels.j2 n _ _ _) _; refine Ev.step (fun k => by simp only [laws_FnExactFewestParcels.j2]; rfl) ?_))
end Go.Proofs.Ytdeipindfhkioaa.Pure
