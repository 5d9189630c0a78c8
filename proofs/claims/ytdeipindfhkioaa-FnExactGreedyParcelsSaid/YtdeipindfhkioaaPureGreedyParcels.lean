/- GreedyParcels returns what the reference returns, for all arguments. -/
import Derived.Test.YtdeipindfhkioaaQ12
import Derived.Test.YtdeipindfhkioaaQ5
import Derived.Test.YtdeipindfhkioaaPureCItems
import Derived.Test.YtdeipindfhkioaaQ8
import Derived.Test.YtdeipindfhkioaaQ6
import Derived.Test.YtdeipindfhkioaaQ11
import Derived.Test.YtdeipindfhkioaaPureB3
import Derived.Test.YtdeipindfhkioaaQ2
import Derived.Test.YtdeipindfhkioaaPureToTable
import Derived.Test.YtdeipindfhkioaaPureMkInt64
import Derived.Test.YtdeipindfhkioaaPureToInt64
set_option linter.unusedVariables false
set_option linter.unusedSimpArgs false
namespace Go.Proofs.Ytdeipindfhkioaa.Pure
open Go.RowKit Go.Proofs.Ytdeipindfhkioaa.Q Go.Proofs.YtdeipindfhkioaaMine Go.Proofs.YtdeipindfhkioaaW.PrintWords Go.Proofs.YtdeipindfhkioaaW.PrintMore
def hasStep (st : List Int) (w : Int) : Bool := decide (0 ≤ stepOf st w)
theorem specAlone {st : List Int} {pr : List (List Int)} (h : wfTable st pr) (z : Int) {ws : List Int} (hl : ws.length ≤ 2097152) : Ev (fun k => spec_l03Alone.f k st pr z ws) (if itC st pr z ws = 0 then (if ws.all (hasStep st) = true then 0 else 6) else itC st pr z ws) := by
 unfold spec_l03Alone.f
 refine Ev.bind (specItems h z hl) ?_
 generalize itC st pr z ws = c
 have hbad : ∀ c : Int, c ≠ 0 → ∀ i : Int, Ev (fun k => spec_l03Alone.l0 k ws c i st pr) c := by
  intro c hc i
  refine Ev.step (f := fun k => spec_l03Alone.j1 k ws c i false st pr) (fun k => ?_) (Ev.step (f := fun _ => some c) (fun k => by simp only [spec_l03Alone.j1]; rfl) (Ev.now _))
  simp only [spec_l03Alone.l0]
  rw [show (c == 0) = false by simp [hc]]
  split <;> rfl
 by_cases hc : c = 0
 ·subst hc
  rw [if_pos rfl]
  have hstep : ∀ m, m < ws.length → ∀ r, (hasStep st (ws.getD m 0) = true → Ev (fun k => spec_l03Alone.l0 k ws 0 ((m + 1 : Nat) : Int) st pr) r) → (hasStep st (ws.getD m 0) = false → r = 6) → Ev (fun k => spec_l03Alone.l0 k ws 0 (m : Int) st pr) r := by
   intro m hm r hr hf
   refine Ev.step (f := fun k => spec_l03Alone.j1 k ws 0 (m : Int) true st pr) (fun k => ?_) (Ev.step (f := fun k => (spec_l03Step.f k st pr (ws.getD m 0)).bind fun t => if t < 0 then spec_l03Alone.l0 k ws 6 ((m + 1 : Nat) : Int) st pr else spec_l03Alone.l0 k ws 0 ((m + 1 : Nat) : Int) st pr) (fun k => ?_) (Ev.bind (specStep h _) ?_))
   ·simp only [spec_l03Alone.l0]; rw [if_pos (by omega)]; rfl
   ·simp only [spec_l03Alone.j1]
    rw [if_pos trivial, if_pos (by omega), if_pos (by omega), wrap_sm (i := (m : Int) + 1) (by omega) (by omega)]; rfl
   ·by_cases hs : stepOf st (ws.getD m 0) < 0
    ·have : hasStep st (ws.getD m 0) = false := by unfold hasStep; rw [decide_eq_false (by omega)]
     simp only [if_pos hs]; rw [hf this]; exact hbad 6 (by omega) _
    ·have : hasStep st (ws.getD m 0) = true := by unfold hasStep; rw [decide_eq_true (by omega)]
     simp only [if_neg hs]; exact hr this
  refine all_ev (fun k i => spec_l03Alone.l0 k ws 0 i st pr) ws 0 (hasStep st) 6 0 (fun m hm hq => hstep m hm 6 (fun h => by rw [hq] at h; cases h) (fun _ => rfl)) (fun m hm hq r hr => hstep m hm r (fun _ => hr) (fun h => by rw [hq] at h; cases h)) (fun _ => ?_)
  refine Ev.step (f := fun k => spec_l03Alone.j1 k ws 0 (ws.length : Int) false st pr) (fun k => ?_) (Ev.step (f := fun _ => some 0) (fun k => by simp only [spec_l03Alone.j1]; rfl) (Ev.now _))
  simp only [spec_l03Alone.l0]; rw [if_neg (by omega)]
 ·rw [if_neg hc]; exact hbad c hc 0
end Go.Proofs.Ytdeipindfhkioaa.Pure

set_option linter.unusedVariables false
set_option linter.unusedSimpArgs false
namespace Go.Proofs.Ytdeipindfhkioaa.Pure
open Go.RowKit Go.Proofs.Ytdeipindfhkioaa.Q Go.Proofs.YtdeipindfhkioaaMine Go.Proofs.YtdeipindfhkioaaW.PrintWords Go.Proofs.YtdeipindfhkioaaW.PrintMore
theorem implHave {st : List Int} {pr : List (List Int)} (h : wfTable st pr) (ws : List Int) : f18z.f st pr ws = some (ws.all (hasStep st)) := by
 have h1 : ∀ x, f16z.f x st pr = some (!hasStep st x) := by
  intro x
  unfold f16z.f hasStep
  rw [implStep h, Option.bind_some]
  by_cases hs : stepOf st x < 0
  ·rw [decide_eq_true hs, decide_eq_false (by omega)]; rfl
  ·rw [decide_eq_false hs, decide_eq_true (by omega)]; rfl
 unfold f18z.f f17z.f
 rw [anyO_of (q := fun x => !hasStep st x) ws (fun x _ => h1 x), any_not]
 simp
def alC (st : List Int) (pr : List (List Int)) (z : Int) (ws : List Int) : Int := if itC st pr z ws = 0 then (if ws.all (hasStep st) = true then 0 else 6) else itC st pr z ws
theorem implParcelCode {st : List Int} {pr : List (List Int)} (h : wfTable st pr) (z : Int) (ws : List Int) : Ev (fun k => impl_parcelCode.f k st pr z ws) (alC st pr z ws) := by
 unfold impl_parcelCode.f impl_unless.f alC
 refine Ev.bind (implItems h z ws) ?_
 by_cases hc : itC st pr z ws = 0
 ·simp only [if_pos hc, implHave h, Option.bind_some]
  cases ws.all (hasStep st) <;> exact Ev.now _
 ·simp only [if_neg hc]; exact Ev.now _
theorem alC_ok {st : List Int} {pr : List (List Int)} {z : Int} {ws : List Int} (h : alC st pr z ws = 0) : okT st pr = true ∧ (0 ≤ z ∧ z ≤ (pr.length : Int) - 1) ∧ (∀ w ∈ ws, 1 ≤ w ∧ w ≤ 2000) ∧ ws.length ≤ 8 ∧ ∀ w ∈ ws, 0 ≤ stepOf st w := by
 unfold alC at h
 by_cases hc : itC st pr z ws = 0
 ·rw [if_pos hc] at h
  obtain ⟨h1, h2, h3, h4⟩ := itC_ok hc
  cases ha : ws.all (hasStep st) with
  | false => rw [ha] at h; simp at h
  | true => exact ⟨h1, h2, h3, h4, fun w hw => of_decide_eq_true (List.all_eq_true.1 ha w hw)⟩
 ·rw [if_neg hc] at h; exact absurd h hc
end Go.Proofs.Ytdeipindfhkioaa.Pure

set_option linter.unusedVariables false
set_option linter.unusedSimpArgs false
namespace Go.Proofs.Ytdeipindfhkioaa.Pure
open Go.RowKit Go.Proofs.Ytdeipindfhkioaa.Q Go.Proofs.YtdeipindfhkioaaMine Go.Proofs.YtdeipindfhkioaaW.PrintWords Go.Proofs.YtdeipindfhkioaaW.PrintMore
section
variable (ws : List Int)
def itm (i : Int) : Int := ws.getD i.toNat 0
def ltI (a b : Int) : Bool := decide (itm ws b < itm ws a ∨ (itm ws b = itm ws a ∧ a < b))
def ixs (n : Nat) : List Int := (List.range n).map (fun i : Nat => (i : Int))
end
theorem ixs_len (n : Nat) : (ixs n).length = n := by simp [ixs]
theorem mem_ixs {i : Int} {n : Nat} : i ∈ ixs n ↔ 0 ≤ i ∧ i < n := by
 unfold ixs
 simp only [List.mem_map, List.mem_range]
 exact ⟨fun ⟨a, h, e⟩ => by omega, fun h => ⟨i.toNat, by omega, by omega⟩⟩
theorem ixs_rising (n : Nat) : (ixs n).Pairwise (fun a b => a < b) := by
 unfold ixs
 exact (List.pairwise_map).2 ((List.pairwise_lt_range (n := n)).imp (fun h => by omega))
theorem ixs_nodup (n : Nat) : (ixs n).Nodup := (ixs_rising n).imp (fun h e => by omega)
theorem ltI_asym {ws : List Int} {a b : Int} (h1 : ltI ws a b = true) (h2 : ltI ws b a = true) : False := by
 unfold ltI at h1 h2; rw [decide_eq_true_eq] at h1 h2; omega
theorem ltI_trans {ws : List Int} {a b c : Int} (h1 : ltI ws a b = true) (h2 : ltI ws b c = true) : ltI ws a c = true := by
 unfold ltI at *; rw [decide_eq_true_eq] at *; omega
/-- The indices in their order: by weight, the heaviest first; the elder of two alike first. -/
structure Ord (ws S : List Int) : Prop where
 sorted : S.Pairwise (fun a b => ltI ws a b = true)
 perm : S.Perm (ixs ws.length)
theorem Ord.ex (ws : List Int) : ∃ S, Ord ws S := by
 refine ⟨(ixs ws.length).mergeSort (fun a b => !(ltI ws b a)), ?_, List.mergeSort_perm _ _⟩
 have h := List.pairwise_mergeSort (le := fun (a b : Int) => !(ltI ws b a)) (fun a b c h1 h2 => by
  unfold ltI at *
  simp only [Bool.not_eq_true', decide_eq_false_iff_not] at *; omega) (fun a b => by
  unfold ltI
  by_cases h : itm ws a < itm ws b ∨ (itm ws a = itm ws b ∧ b < a)
  ·have h' : ¬ (itm ws b < itm ws a ∨ (itm ws b = itm ws a ∧ a < b)) := by omega
   simp [h']
  ·simp [h]) (ixs ws.length)
 have hn : ((ixs ws.length).mergeSort (fun a b => !(ltI ws b a))).Nodup := (List.mergeSort_perm _ _).nodup_iff.2 (ixs_nodup _)
 have h2 := List.pairwise_and_iff.2 ⟨h, hn⟩
 refine h2.imp (fun {a b} hh => ?_)
 obtain ⟨h3, h4⟩ := hh
 unfold ltI at *
 simp only [Bool.not_eq_true', decide_eq_false_iff_not] at h3
 rw [decide_eq_true_eq]
 omega
theorem Ord.len {ws S : List Int} (h : Ord ws S) : S.length = ws.length := by rw [h.perm.length_eq, ixs_len]
theorem Ord.one {ws S T : List Int} (h : Ord ws S) (h' : Ord ws T) : T = S :=
 sorted_one (lt := ltI ws) (fun a b => ltI_asym) _ _ h'.sorted h.sorted (h'.perm.trans h.perm.symm)
theorem Ord.mem {ws S : List Int} (h : Ord ws S) {i : Int} : i ∈ S ↔ 0 ≤ i ∧ i < ws.length := by rw [h.perm.mem_iff, mem_ixs]
/-- Element m comes ahead of all that come later. -/
theorem Ord.split {ws S : List Int} (h : Ord ws S) {m : Nat} (hm : m < S.length) : (0 ≤ S.getD m 0 ∧ S.getD m 0 < ws.length) ∧ S.getD m 0 ∉ S.take m ∧ ∀ i : Int, 0 ≤ i → i < ws.length → i ∉ S.take m → i ≠ S.getD m 0 → ltI ws (S.getD m 0) i = true := by
 have hs := h.sorted
 rw [← List.take_append_drop m S, drop_step (0 : Int) hm] at hs
 obtain ⟨h1, h2, h3⟩ := List.pairwise_append.1 hs
 obtain ⟨h4, h5⟩ := List.pairwise_cons.1 h2
 refine ⟨h.mem.1 (get_mem (0 : Int) hm).1, fun hi => ?_, fun i h0 hi hn hne => ?_⟩
 ·exact ltI_asym (h3 _ hi _ List.mem_cons_self) (h3 _ hi _ List.mem_cons_self)
 ·have hS : i ∈ S := h.mem.2 ⟨h0, hi⟩
  rw [← List.take_append_drop m S, drop_step (0 : Int) hm, List.mem_append, List.mem_cons] at hS
  rcases hS with h6 | h6 | h6
  ·exact (hn h6).elim
  ·exact (hne h6).elim
  ·exact h4 i h6
section
variable {st : List Int} {pr : List (List Int)} {ws : List Int}
def fitQ (st : List Int) (w : Int) (x : Int) : Bool := decide (0 ≤ stepOf st (wrap64 (x + w)))
/-- One item goes into the first parcel that can take it. -/
def putI (st ws : List Int) (s : List Int × List Int) (i : Int) : List Int × List Int :=
 if findI (fitQ st (itm ws i)) s.2 < 0 then (s.1.set i.toNat (s.2.length : Int), s.2 ++ [wrap64 (0 + itm ws i)])
 else (s.1.set i.toNat (findI (fitQ st (itm ws i)) s.2), s.2.set (findI (fitQ st (itm ws i)) s.2).toNat (wrap64 (s.2.getD (findI (fitQ st (itm ws i)) s.2).toNat 0 + itm ws i)))
theorem putI_len (s : List Int × List Int) (i : Int) : (putI st ws s i).1.length = s.1.length ∧ (putI st ws s i).2.length ≤ s.2.length + 1 := by
 unfold putI; split <;> simp
def grd (st ws S : List Int) : List Int × List Int := S.foldl (putI st ws) (List.replicate ws.length 0, [])
theorem implOrder {S : List Int} (hO : Ord ws S) (hl : ws.length ≤ 8) (hw : ∀ i : Int, 0 ≤ i → i < ws.length → 1 ≤ itm ws i ∧ itm ws i ≤ 2000) : Ev (fun k => f11z.f k (ixs ws.length) ws) S := by
 have hins : Ev (fun k => f9z.f k (ixs ws.length) 0 (ws.length : Int) ws) S := by
  unfold f9z.f
  have h1 : wrap64 (0 + 1) = ((1 : Nat) : Int) := by unfold wrap64; omega
  rw [h1]
  have hcmp : ∀ a b : Int, a ∈ ixs ws.length → b ∈ ixs ws.length → f19z.f a b ws = some (wrap64 (itm ws b - itm ws a)) := by
   intro a b ha hb
   obtain ⟨a0, a1⟩ := mem_ixs.1 ha
   obtain ⟨b0, b1⟩ := mem_ixs.1 hb
   unfold f19z.f
   rw [if_pos b0, if_pos b1, if_pos a0, if_pos a1]; rfl
  have hlt : ∀ a b : Int, a ∈ ixs ws.length → b ∈ ixs ws.length → (wrap64 (itm ws b - itm ws a) < 0 ↔ itm ws b < itm ws a) := by
   intro a b ha hb
   obtain ⟨a0, a1⟩ := mem_ixs.1 ha
   obtain ⟨b0, b1⟩ := mem_ixs.1 hb
   have := hw a a0 a1
   have := hw b b0 b1
   rw [wrap_id (by omega) (by omega)]; omega
  refine insSortB (fun k x i => f9z.l0 k x 0 (ws.length : Int) i ws) (fun k x i j => f9z.l1 k x 0 (ws.length : Int) i j ws) (ltI ws) (fun a b => decide (itm ws b < itm ws a)) (fun a b => a < b) (ixs ws.length) S ?_ ?_ ?_ (ixs_rising _) ?_ ?_ ?_ ?_ ?_ 1 (by omega)
  ·intro a b c h1 h2; exact ltI_trans h1 h2
  ·intro z y hzy h; rw [decide_eq_true_eq] at h; unfold ltI; rw [decide_eq_true_eq]; exact .inl h
  ·intro z y hzy h; rw [decide_eq_false_iff_not] at h; unfold ltI; rw [decide_eq_true_eq]; omega
  ·intro x i hx hi h
   rw [ixs_len] at hi
   refine Ev.step (fun k => ?_) h
   simp only [f9z.l0]; rw [if_pos (by omega)]
  ·intro x i hx hi hsort hperm
   rw [ixs_len] at hi
   refine Ev.step (f := fun _ => some x) (fun k => ?_) (Ev.eq (Ev.now _) (hO.one ⟨hsort, hperm⟩))
   simp only [f9z.l0]; rw [if_neg (by omega)]
  ·intro x i hx hi h
   rw [ixs_len] at hi
   refine Ev.step (fun k => ?_) h
   simp only [f9z.l1]; rw [if_neg (by omega), wrap_sm (i := (i : Int) + 1) (by omega) (by omega)]; rfl
  ·intro x i j hx hi hj hm1 hm0 hc h
   rw [ixs_len] at hi hj hx
   rw [decide_eq_true_eq] at hc
   refine Ev.step (fun k => ?_) h
   simp only [f9z.l1]
   rw [wrap_sm (i := ((j + 1 : Nat) : Int) - 1) (by omega) (by omega), show ((j + 1 : Nat) : Int) - 1 = (j : Int) by omega, if_pos (by omega), if_pos (by omega), if_pos (by omega), if_pos (by omega), if_pos (by omega)]
   rw [show rd x ((j + 1 : Nat) : Int) = x.getD (j + 1) 0 from rfl, show rd x (j : Int) = x.getD j 0 from rfl, hcmp _ _ hm1 hm0, Option.bind_some, if_pos ((hlt _ _ hm1 hm0).2 hc)]; rfl
  ·intro x i j hx hi hj hm1 hm0 hc h
   rw [ixs_len] at hi hj hx
   rw [decide_eq_false_iff_not] at hc
   refine Ev.step (fun k => ?_) h
   simp only [f9z.l1]
   rw [wrap_sm (i := ((j + 1 : Nat) : Int) - 1) (by omega) (by omega), show ((j + 1 : Nat) : Int) - 1 = (j : Int) by omega, if_pos (by omega), if_pos (by omega), if_pos (by omega), if_pos (by omega), if_pos (by omega), wrap_sm (i := (i : Int) + 1) (by omega) (by omega)]
   rw [show rd x ((j + 1 : Nat) : Int) = x.getD (j + 1) 0 from rfl, show rd x (j : Int) = x.getD j 0 from rfl, hcmp _ _ hm1 hm0, Option.bind_some, if_neg (fun h' => hc ((hlt _ _ hm1 hm0).1 h'))]; rfl
 unfold f11z.f f10z.f
 rw [ixs_len]
 refine Ev.bind (Ev.step (f := fun k => (f9z.f k (ixs ws.length) 0 (ws.length : Int) ws).bind fun t => f10z.l1 k t (ws.length : Int) 20) (fun k => ?_) ?_) (Ev.now _)
 ·simp only [f10z.l0]
  rw [if_neg (by omega)]
 ·refine Ev.bind hins ?_
  refine Ev.step (f := fun _ => some S) (fun k => ?_) (Ev.now _)
  simp only [f10z.l1]
  rw [if_neg (by omega)]
theorem implFit (h : wfTable st pr) (loads : List Int) {i : Int} (h0 : 0 ≤ i) (h1 : i < ws.length) : f12z.f loads st pr ws i = some (findI (fitQ st (itm ws i)) loads) := by
 unfold f12z.f
 refine findO_of loads (fun x _ => ?_)
 unfold f20z.f
 rw [if_pos h0, if_pos h1, show rd ws i = itm ws i from rfl, implStep h, Option.bind_some]
 rfl
theorem implGreedy1 (h : wfTable st pr) {S : List Int} (hO : Ord ws S) (hl : ws.length ≤ 8) : Ev (fun k => f0z.l1 k (List.replicate ws.length 0) [] S (ws.length : Int) 0 st pr ws) ((grd st ws S).1, ((grd st ws S).2.length : Int), 0) := by
 have hSl := hO.len
 refine fold_ev (fun k (s : List Int × List Int) i => f0z.l1 k s.1 s.2 S (ws.length : Int) i st pr ws) S 0 (fun m (s : List Int × List Int) => s.1.length = ws.length ∧ s.2.length ≤ m) (putI st ws) (fun s => (s.1, (s.2.length : Int), 0)) (fun m s hm hs => ?_) (fun s hs => ?_) (List.replicate ws.length 0, []) ⟨by simp, by simp⟩
 ·obtain ⟨hs1, hs2⟩ := hs
  obtain ⟨i0, i1⟩ := (hO.split hm).1
  obtain ⟨p1, p2⟩ := putI_len (st := st) (ws := ws) s (S.getD m 0)
  refine ⟨⟨by omega, by omega⟩, fun r hr => Ev.step (fun k => ?_) hr⟩
  simp only [f0z.l1]
  have e1 : rd S (m : Int) = S.getD m 0 := rfl
  rw [if_pos (by omega), if_pos (by omega), if_pos (by omega), wrap_sm (i := (m : Int) + 1) (by omega) (by omega), e1, implFit h s.2 i0 i1, Option.bind_some]
  generalize S.getD m 0 = i at *
  have elo := findI_lo (fitQ st (itm ws i)) s.2
  have ehi := findI_hi (fitQ st (itm ws i)) s.2
  unfold putI
  generalize findI (fitQ st (itm ws i)) s.2 = f at *
  by_cases hf : f < 0
  ·rw [if_pos hf, if_pos hf, if_pos (by omega), Option.bind_some, if_pos (by omega), if_pos (by simp only [List.length_append, List.length_cons, List.length_nil]; omega), if_pos i0, if_pos i1, if_pos (by omega)]
   have e2 : (s.2 ++ [0]).set ((s.2.length : Int)).toNat (wrap64 (rd (s.2 ++ [0]) (s.2.length : Int) + rd ws i)) = s.2 ++ [wrap64 (0 + itm ws i)] := by
    have : rd (s.2 ++ [0]) (s.2.length : Int) = 0 := by simp [rd]
    rw [this, Int.toNat_natCast, List.set_append_right _ _ (by omega), Nat.sub_self]; rfl
   rw [e2]; rfl
  ·rw [if_neg hf, if_neg hf, if_pos (by omega), if_pos (by omega), if_pos i0, if_pos i1, if_pos (by omega)]
   rfl
 ·refine Ev.step (f := fun _ => some (s.1, (s.2.length : Int), 0)) (fun k => ?_) (Ev.now _)
  simp only [f0z.l1, impl_size_int64.f, Option.bind_some]
  rw [if_neg (by omega)]
theorem implGreedy0 (h : wfTable st pr) {S : List Int} (hO : Ord ws S) (hl : ws.length ≤ 8) (hw : ∀ i : Int, 0 ≤ i → i < ws.length → 1 ≤ itm ws i ∧ itm ws i ≤ 2000) : Ev (fun k => f0z.l0 k [] (ws.length : Int) 0 st pr ws) ((grd st ws S).1, ((grd st ws S).2.length : Int), 0) := by
 suffices hh : ∀ (d m : Nat), m + d = ws.length → Ev (fun k => f0z.l0 k (ixs m) (ws.length : Int) (m : Int) st pr ws) ((grd st ws S).1, ((grd st ws S).2.length : Int), 0) from hh ws.length 0 (by omega)
 intro d
 induction d with
 | zero =>
  intro m hm
  obtain rfl : m = ws.length := by omega
  refine Ev.step (f := fun k => (f11z.f k (ixs ws.length) ws).bind fun t => f0z.l1 k (List.replicate ws.length 0) [] t (ws.length : Int) 0 st pr ws) (fun k => ?_) (Ev.bind (implOrder hO hl hw) (implGreedy1 h hO hl))
  simp only [f0z.l0]
  rw [if_neg (by omega)]
  simp only [if_pos (show (0 : Int) ≤ (ws.length : Int) by omega), Int.toNat_natCast, if_pos (show ws.length ≤ 35184372088832 by omega), ixs_len]
 | succ d ih =>
  intro m hm
  refine Ev.step (fun k => ?_) (ih (m + 1) (by omega))
  simp only [f0z.l0]
  rw [if_pos (by omega), ixs_len, if_pos (by omega), wrap_sm (i := (m : Int) + 1) (by omega) (by omega)]
  have : ixs (m + 1) = ixs m ++ [(m : Int)] := by simp [ixs, List.range_succ]
  rw [this]; rfl
theorem itm_bd (hw : ∀ w ∈ ws, 1 ≤ w ∧ w ≤ 2000) {i : Int} (h0 : 0 ≤ i) (h1 : i < ws.length) : 1 ≤ itm ws i ∧ itm ws i ≤ 2000 := hw _ (get_mem (0 : Int) (show i.toNat < ws.length by omega)).1
theorem implGreedyParcels (h : wfTable st pr) {S : List Int} (hO : Ord ws S) : Ev (fun k => f0z.f k st pr ws) (if alC st pr 0 ws = 0 then ((grd st ws S).1, ((grd st ws S).2.length : Int), 0) else ([], 0, alC st pr 0 ws)) := by
 unfold f0z.f
 refine Ev.bind (implParcelCode h 0 ws) ?_
 by_cases hc : alC st pr 0 ws = 0
 ·simp only [if_pos hc]
  obtain ⟨_, _, hw, hl, _⟩ := alC_ok hc
  exact implGreedy0 h hO hl (fun i h0 h1 => itm_bd hw h0 h1)
 ·simp only [if_neg hc]; exact Ev.now _
/-- What has been taken, told by a list of bools. -/
def Done (n : Nat) (T : List Int) (d : List Bool) : Prop := d.length = n ∧ ∀ j : Nat, j < n → d.getD j false = decide ((j : Int) ∈ T)
theorem specPick (h : wfTable st pr) {S : List Int} (hO : Ord ws S) (hl : ws.length ≤ 8) {m : Nat} (hm : m < S.length) {d : List Bool} (hd : Done ws.length (S.take m) d) (out loads : List Int) (r : List Int × Int × Int)
  (hr : Ev (fun k => f8z.l2 k ws out (d.set (S.getD m 0).toNat true) loads (m : Int) (S.getD m 0) 0 st pr) r) : Ev (fun k => f8z.l1 k ws out d loads (m : Int) (-1) 0 st pr) r := by
 obtain ⟨hd1, hd2⟩ := hd
 obtain ⟨⟨b0, b1⟩, b2, b3⟩ := hO.split hm
 -- the best so far among the first j
 have hh : ∀ (e j : Nat), j + e = ws.length → ∀ b : Int, ((b = -1 ∧ ∀ i : Int, 0 ≤ i → i < j → i ∈ S.take m) ∨ ((0 ≤ b ∧ b < j ∧ b ∉ S.take m) ∧ ∀ i : Int, 0 ≤ i → i < j → i ∉ S.take m → i ≠ b → ltI ws b i = true)) → Ev (fun k => f8z.l1 k ws out d loads (m : Int) b (j : Int) st pr) r := by
  intro e
  induction e with
  | zero =>
   intro j hj b hb
   obtain rfl : j = ws.length := by omega
   have eb : b = S.getD m 0 := by
    rcases hb with ⟨_, h2⟩ | ⟨⟨h0, h1, h2⟩, h3⟩
    ·exact (b2 (h2 _ b0 b1)).elim
    ·by_cases e : b = S.getD m 0
     ·exact e
     ·exact (ltI_asym (h3 _ b0 b1 b2 (fun e' => e e'.symm)) (b3 b h0 h1 h2 e)).elim
   rw [eb]
   refine Ev.step (fun k => ?_) hr
   simp only [f8z.l1]
   rw [if_neg (by omega), if_pos b0, if_pos (by omega)]
  | succ e ih =>
   intro j hj b hb
   have hdj := hd2 j (by omega)
   have hrd : rdOf false d (j : Int) = decide ((j : Int) ∈ S.take m) := by rw [← hdj]; rfl
   by_cases hjt : (j : Int) ∈ S.take m
   ·refine Ev.step (fun k => ?_) (ih (j + 1) (by omega) b ?_)
    ·simp only [f8z.l1]
     rw [if_pos (by omega), if_pos (by omega), if_pos (by omega), if_pos (by rw [hrd]; exact decide_eq_true hjt), wrap_sm (i := (j : Int) + 1) (by omega) (by omega)]; rfl
    ·rcases hb with ⟨h1, h2⟩ | ⟨⟨h0, h1, h2⟩, h3⟩
     ·refine .inl ⟨h1, fun i i0 i1 => ?_⟩
      by_cases e : i = (j : Int)
      ·rw [e]; exact hjt
      ·exact h2 i i0 (by omega)
     ·refine .inr ⟨⟨h0, by omega, h2⟩, fun i i0 i1 i2 i3 => ?_⟩
      by_cases e : i = (j : Int)
      ·rw [e] at i2; exact (i2 hjt).elim
      ·exact h3 i i0 (by omega) i2 i3
   ·have hnd : ¬ rdOf false d (j : Int) = true := by rw [hrd]; simpa using hjt
    rcases hb with ⟨h1, h2⟩ | ⟨⟨h0, h1, h2⟩, h3⟩
    ·refine Ev.step (fun k => ?_) (ih (j + 1) (by omega) (j : Int) (.inr ⟨⟨by omega, by omega, hjt⟩, fun i i0 i1 i2 i3 => ?_⟩))
     ·simp only [f8z.l1]
      rw [if_pos (by omega), if_pos (by omega), if_pos (by omega), if_neg hnd, if_pos (by omega), wrap_sm (i := (j : Int) + 1) (by omega) (by omega)]; rfl
     ·exact (i2 (h2 i i0 (by omega))).elim
    ·by_cases hgt : itm ws (j : Int) > itm ws b
     ·refine Ev.step (fun k => ?_) (ih (j + 1) (by omega) (j : Int) (.inr ⟨⟨by omega, by omega, hjt⟩, fun i i0 i1 i2 i3 => ?_⟩))
      ·simp only [f8z.l1]
       rw [if_pos (by omega), if_pos (by omega), if_pos (by omega), if_neg hnd, if_neg (by omega), if_pos h0, if_pos (by omega), if_pos (show rd ws (j : Int) > rd ws b from hgt), wrap_sm (i := (j : Int) + 1) (by omega) (by omega)]; rfl
      ·by_cases e : i = b
       ·rw [e]; unfold ltI; rw [decide_eq_true_eq]; exact .inl hgt
       ·have h4 := h3 i i0 (by omega) i2 e
        unfold ltI at h4 ⊢
        rw [decide_eq_true_eq] at h4 ⊢; omega
     ·refine Ev.step (fun k => ?_) (ih (j + 1) (by omega) b (.inr ⟨⟨h0, by omega, h2⟩, fun i i0 i1 i2 i3 => ?_⟩))
      ·simp only [f8z.l1]
       rw [if_pos (by omega), if_pos (by omega), if_pos (by omega), if_neg hnd, if_neg (by omega), if_pos h0, if_pos (by omega), if_neg (show ¬ rd ws (j : Int) > rd ws b from hgt), wrap_sm (i := (j : Int) + 1) (by omega) (by omega)]; rfl
      ·by_cases e : i = (j : Int)
       ·rw [e]; unfold ltI; rw [decide_eq_true_eq]; omega
       ·exact h3 i i0 (by omega) i2 i3
 exact hh ws.length 0 (by omega) (-1) (.inl ⟨rfl, fun i i0 i1 => by omega⟩)
theorem specPut (h : wfTable st pr) (hl : ws.length ≤ 8) {m : Nat} (hm : m ≤ 8) {d : List Bool} {i : Int} (i0 : 0 ≤ i) (i1 : i < ws.length) (s : List Int × List Int) (hs1 : s.1.length = ws.length) (hs2 : s.2.length ≤ 8) (r : List Int × Int × Int)
  (hr : Ev (fun k => f8z.l0 k ws (putI st ws s i).1 d (putI st ws s i).2 ((m + 1 : Nat) : Int) st pr) r) : Ev (fun k => f8z.l2 k ws s.1 d s.2 (m : Int) i 0 st pr) r := by
 have hh : ∀ (e j : Nat), j + e = s.2.length → ∀ f : Int, f = (if findI (fitQ st (itm ws i)) (s.2.drop j) < 0 then -1 else findI (fitQ st (itm ws i)) (s.2.drop j) + (j : Int)) → f = findI (fitQ st (itm ws i)) s.2 → Ev (fun k => f8z.l2 k ws s.1 d s.2 (m : Int) i (j : Int) st pr) r := by
  intro e
  induction e with
  | zero =>
   intro j hj f hf hf'
   obtain rfl : j = s.2.length := by omega
   rw [List.drop_eq_nil_of_le (by omega)] at hf
   have hneg : findI (fitQ st (itm ws i)) s.2 < 0 := by rw [← hf', hf]; simp [findI]
   refine Ev.step (fun k => ?_) hr
   simp only [f8z.l2]
   rw [if_neg (by omega)]
   simp only [if_true]
   rw [if_pos (by omega), Option.bind_some, if_pos (by omega), if_pos (by simp only [List.length_append, List.length_cons, List.length_nil]; omega), if_pos i0, if_pos i1, if_pos (by omega), wrap_sm (i := (m : Int) + 1) (by omega) (by omega)]
   unfold putI
   rw [if_pos hneg]
   have e2 : (s.2 ++ [0]).set ((s.2.length : Int)).toNat (wrap64 (rd (s.2 ++ [0]) (s.2.length : Int) + rd ws i)) = s.2 ++ [wrap64 (0 + itm ws i)] := by
    have : rd (s.2 ++ [0]) (s.2.length : Int) = 0 := by simp [rd]
    rw [this, Int.toNat_natCast, List.set_append_right _ _ (by omega), Nat.sub_self]; rfl
   rw [e2]; rfl
  | succ e ih =>
   intro j hj f hf hf'
   rw [drop_step (0 : Int) (show j < s.2.length by omega)] at hf
   have hstep : ∀ k, f8z.l2 (k + 1) ws s.1 d s.2 (m : Int) i (j : Int) st pr = (spec_l03Step.f k st pr (wrap64 (s.2.getD j 0 + itm ws i))).bind fun t => (if t < 0 then (f8z.l2 k ws s.1 d s.2 (m : Int) i ((j + 1 : Nat) : Int) st pr) else (f8z.l0 k ws (s.1.set i.toNat (j : Int)) d (s.2.set j (wrap64 (s.2.getD j 0 + itm ws i))) ((m + 1 : Nat) : Int) st pr)) := by
    intro k
    simp only [f8z.l2]
    rw [if_pos (by omega), if_pos (by omega), if_pos i0, if_pos i1, if_neg (show ¬ (j : Int) = (s.2.length : Int) by omega), if_pos (by omega), wrap_sm (i := (j : Int) + 1) (by omega) (by omega), wrap_sm (i := (m : Int) + 1) (by omega) (by omega)]
    rfl
   refine Ev.step hstep (Ev.bind (specStep h _) ?_)
   have hlo := findI_lo (fitQ st (itm ws i)) (s.2.drop (j + 1))
   cases hq : fitQ st (itm ws i) (s.2.getD j 0) with
   | false =>
    have hq' : stepOf st (wrap64 (s.2.getD j 0 + itm ws i)) < 0 := by
     unfold fitQ at hq; rw [decide_eq_false_iff_not] at hq; omega
    simp only [if_pos hq']
    refine ih (j + 1) (by omega) f ?_ hf'
    rw [hf]
    simp only [findI, hq, Bool.false_eq_true, if_false]
    by_cases h3 : findI (fitQ st (itm ws i)) (s.2.drop (j + 1)) < 0
    ·rw [if_pos h3, if_pos h3, if_pos (by omega)]
    ·rw [if_neg h3, if_neg h3, if_neg (by omega)]; omega
   | true =>
    have hq' : ¬ stepOf st (wrap64 (s.2.getD j 0 + itm ws i)) < 0 := by
     unfold fitQ at hq; rw [decide_eq_true_eq] at hq; omega
    simp only [if_neg hq']
    have hfj : findI (fitQ st (itm ws i)) s.2 = (j : Int) := by
     rw [← hf', hf]
     simp only [findI, hq, if_true]
     rw [if_neg (by omega)]; omega
    unfold putI at hr
    rw [hfj, if_neg (by omega)] at hr
    simp only [Int.toNat_natCast] at hr
    exact hr
 refine hh s.2.length 0 (by omega) _ ?_ rfl
 have := findI_lo (fitQ st (itm ws i)) s.2
 rw [List.drop_zero]; split <;> omega
theorem specGreedy0 (h : wfTable st pr) {S : List Int} (hO : Ord ws S) (hl : ws.length ≤ 8) : ∀ (e m : Nat), m + e = ws.length → ∀ (s : List Int × List Int) (d : List Bool), s.1.length = ws.length → s.2.length ≤ m → Done ws.length (S.take m) d → Ev (fun k => f8z.l0 k ws s.1 d s.2 (m : Int) st pr) (((S.drop m).foldl (putI st ws) s).1, ((((S.drop m).foldl (putI st ws) s).2.length : Nat) : Int), 0) := by
 have hSl := hO.len
 intro e
 induction e with
 | zero =>
  intro m hm s d hs1 hs2 hd
  rw [List.drop_eq_nil_of_le (by omega)]
  refine Ev.step (f := fun _ => some (s.1, (s.2.length : Int), 0)) (fun k => ?_) (Ev.now _)
  simp only [f8z.l0]
  rw [if_neg (by omega)]
 | succ e ih =>
  intro m hm s d hs1 hs2 hd
  have hmS : m < S.length := by omega
  obtain ⟨⟨i0, i1⟩, i2, _⟩ := hO.split hmS
  rw [drop_step (0 : Int) hmS, List.foldl_cons]
  obtain ⟨p1, p2⟩ := putI_len (st := st) (ws := ws) s (S.getD m 0)
  refine Ev.step (f := fun k => f8z.l1 k ws s.1 d s.2 (m : Int) (-1) 0 st pr) (fun k => ?_) (specPick h hO hl hmS hd s.1 s.2 _ (specPut h hl (by omega) i0 i1 s hs1 (by omega) _ (ih (m + 1) (by omega) _ _ (by omega) (by omega) ?_)))
  ·simp only [f8z.l0]
   rw [if_pos (by omega)]
  ·obtain ⟨hd1, hd2⟩ := hd
   refine ⟨by simpa using hd1, fun j hj => ?_⟩
   have htk : S.take (m + 1) = S.take m ++ [S.getD m 0] := by rw [List.take_add_one, getD_ge (z := (0 : Int)) hmS]; rfl
   rw [htk, List.getD_eq_getElem?_getD]
   by_cases ej : (j : Int) = S.getD m 0
   ·rw [← ej, Int.toNat_natCast, List.getElem?_set_self (by omega)]
    simp
   ·rw [List.getElem?_set_ne (by omega), ← List.getD_eq_getElem?_getD, hd2 j hj]
    exact decide_eq_decide.2 (by rw [List.mem_append, List.mem_singleton]; exact ⟨.inl, fun h => h.resolve_right ej⟩)
theorem specGreedyParcels (h : wfTable st pr) {S : List Int} (hO : Ord ws S) (hl : ws.length ≤ 2097152) : Ev (fun k => f8z.f k st pr ws) (if alC st pr 0 ws = 0 then ((grd st ws S).1, ((grd st ws S).2.length : Int), 0) else ([], 0, alC st pr 0 ws)) := by
 unfold f8z.f
 refine Ev.bind (specAlone h 0 hl) ?_
 rw [show (if itC st pr 0 ws = 0 then (if ws.all (hasStep st) = true then 0 else 6) else itC st pr 0 ws) = alC st pr 0 ws from rfl]
 by_cases hc : alC st pr 0 ws = 0
 ·simp only [if_pos hc]
  obtain ⟨_, _, hw, hl8, _⟩ := alC_ok hc
  simp only [Int.toNat_natCast, if_pos (show (0 : Int) ≤ (ws.length : Int) by omega), if_pos (show ws.length ≤ 35184372088832 by omega), if_pos (show ws.length ≤ 281474976710656 by omega)]
  have h2 := specGreedy0 h hO hl8 ws.length 0 (by omega) (List.replicate ws.length 0, []) (List.replicate ws.length false) (by simp) (by simp) ⟨by simp, fun j hj => by simp [List.getD_eq_getElem?_getD, hj]⟩
  rw [List.drop_zero] at h2
  exact h2
 ·simp only [if_neg hc]; exact Ev.now _
theorem grd_len {S : List Int} : (grd st ws S).1.length = ws.length := by
 unfold grd
 have : ∀ (S : List Int) (s : List Int × List Int), (S.foldl (putI st ws) s).1.length = s.1.length := by
  intro S
  induction S with
  | nil => intro s; rfl
  | cons x xs ih => intro s; rw [List.foldl_cons, ih, (putI_len s x).1]
 rw [this]; simp
end
end Go.Proofs.Ytdeipindfhkioaa.Pure

set_option linter.unusedVariables false
set_option linter.unusedSimpArgs false
namespace Go.Proofs.Ytdeipindfhkioaa.Pure
open Go.RowKit Go.Proofs.Ytdeipindfhkioaa.Q Go.Proofs.YtdeipindfhkioaaMine Go.Proofs.YtdeipindfhkioaaW.PrintWords
theorem markAny16 (x : List Int) (hx : x.length ≤ 2097152) (a : Int) (h0 : 0 ≤ a) (h1 : a ≤ 1000000000000000) : ∃ y, Ev (fun k => laws_markInt16S.f k x a) (a + (x.length : Int), y) := by
 unfold laws_markInt16S.f
 suffices hh : ∀ (d m : Nat), m + d = x.length → ∀ (y : List Int) (c : Int), y.length = x.length → 0 ≤ c → c ≤ 1000000000000000 + (m : Int) → ∃ z, Ev (fun k => laws_markInt16S.l0 k y c (m : Int)) (c + (d : Int), z) from hh x.length 0 (by omega) x a rfl h0 (by omega)
 intro d
 induction d with
 | zero =>
  intro m hm y c hy hc hc1
  exact ⟨y, Ev.step (f := fun _ => some (c, y)) (fun k => by simp only [laws_markInt16S.l0]; rw [if_neg (by omega)]) (Ev.eq (Ev.now _) (by simp))⟩
 | succ d ih =>
  intro m hm y c hy hc hc1
  obtain ⟨z, h⟩ := ih (m + 1) (by omega) (y.set (m : Int).toNat (IntKind.i16.wrap c)) (c + 1) (by rw [List.length_set]; exact hy) (by omega) (by omega)
  refine ⟨z, Ev.step (fun k => ?_) (Ev.eq h (by congr 1; omega))⟩
  simp only [laws_markInt16S.l0]
  rw [if_pos (by omega), if_pos (by omega), wrap_sm (i := (m : Int) + 1) (by omega) (by omega), wrap_sm (i := c + 1) (by omega) (by omega)]; rfl
theorem markAny64 (x : List Int) (hx : x.length ≤ 2097152) (a : Int) (h0 : 0 ≤ a) (h1 : a ≤ 1000000000000000) : ∃ y, Ev (fun k => laws_markInt64S.f k x a) (a + (x.length : Int), y) := by
 unfold laws_markInt64S.f
 suffices hh : ∀ (d m : Nat), m + d = x.length → ∀ (y : List Int) (c : Int), y.length = x.length → 0 ≤ c → c ≤ 1000000000000000 + (m : Int) → ∃ z, Ev (fun k => laws_markInt64S.l0 k y c (m : Int)) (c + (d : Int), z) from hh x.length 0 (by omega) x a rfl h0 (by omega)
 intro d
 induction d with
 | zero =>
  intro m hm y c hy hc hc1
  exact ⟨y, Ev.step (f := fun _ => some (c, y)) (fun k => by simp only [laws_markInt64S.l0]; rw [if_neg (by omega)]) (Ev.eq (Ev.now _) (by simp))⟩
 | succ d ih =>
  intro m hm y c hy hc hc1
  obtain ⟨z, h⟩ := ih (m + 1) (by omega) (y.set (m : Int).toNat c) (c + 1) (by rw [List.length_set]; exact hy) (by omega) (by omega)
  refine ⟨z, Ev.step (fun k => ?_) (Ev.eq h (by congr 1; omega))⟩
  simp only [laws_markInt64S.l0]
  rw [if_pos (by omega), if_pos (by omega), wrap_sm (i := (m : Int) + 1) (by omega) (by omega), wrap_sm (i := c + 1) (by omega) (by omega)]; rfl
theorem markAny16S (x : List (List Int)) (hx : x.length ≤ 2097152) (hy : ∀ y ∈ x, y.length ≤ 2097152) (a : Int) (h0 : 0 ≤ a) (h1 : a ≤ 3000000) : ∃ r y, Ev (fun k => laws_markInt16SS.f k x a) (r, y) ∧ 0 ≤ r ∧ r ≤ 100000000000000 := by
 unfold laws_markInt16SS.f
 suffices hh : ∀ (d m : Nat), m + d = x.length → ∀ (y : List (List Int)) (c : Int), y.length = x.length → (∀ j, m ≤ j → y[j]? = x[j]?) → 0 ≤ c → c ≤ 3000000 + 2097152 * (m : Int) → ∃ r z, Ev (fun k => laws_markInt16SS.l0 k y c (m : Int)) (r, z) ∧ 0 ≤ r ∧ r ≤ 100000000000000 from hh x.length 0 (by omega) x a rfl (fun _ _ => rfl) h0 (by omega)
 intro d
 induction d with
 | zero =>
  intro m hm y c hyl hyj hc hc1
  exact ⟨c, y, Ev.step (f := fun _ => some (c, y)) (fun k => by simp only [laws_markInt16SS.l0]; rw [if_neg (by omega)]) (Ev.now _), hc, by omega⟩
 | succ d ih =>
  intro m hm y c hyl hyj hc hc1
  have hg : y.getD m [] = x.getD m [] := by rw [List.getD_eq_getElem?_getD, List.getD_eq_getElem?_getD, hyj m (Nat.le_refl _)]
  have hl := hy _ (get_mem ([] : List Int) (show m < x.length by omega)).1
  rw [← hg] at hl
  obtain ⟨z1, h1'⟩ := markAny16 (y.getD m []) hl c hc (by omega)
  obtain ⟨r, z, h, h2⟩ := ih (m + 1) (by omega) (y.set m z1) (c + ((y.getD m []).length : Int)) (by rw [List.length_set]; exact hyl) (fun j hj => by rw [List.getElem?_set_ne (by omega)]; exact hyj j (by omega)) (by omega) (by omega)
  refine ⟨r, z, Ev.step (f := fun k => (laws_markInt16S.f k (y.getD m []) c).bind fun bt => laws_markInt16SS.l0 k (y.set m bt.2) bt.1 ((m + 1 : Nat) : Int)) (fun k => ?_) (Ev.bind h1' h), h2⟩
  simp only [laws_markInt16SS.l0]
  rw [if_pos (by omega), if_pos (by omega), wrap_sm (i := (m : Int) + 1) (by omega) (by omega), Int.toNat_natCast]; rfl
theorem markTable {st : List Int} {pr : List (List Int)} (h : wfTable st pr) : ∃ (r : Int) (y : List Int) (z : List (List Int)), Ev (fun k => laws_markTable.f k st pr 1) (r, y, z) ∧ 0 ≤ r ∧ r ≤ 100000000000000 := by
 obtain ⟨h1, h2, h3, _⟩ := h
 obtain ⟨y, hy⟩ := markAny16 st h1 1 (by omega) (by omega)
 obtain ⟨r, z, hz, h4⟩ := markAny16S pr h2 h3 (1 + (st.length : Int)) (by omega) (by omega)
 exact ⟨r, y, z, by unfold laws_markTable.f; exact Ev.bind hy (Ev.bind hz (Ev.now _)), h4⟩
end Go.Proofs.Ytdeipindfhkioaa.Pure

set_option linter.unusedVariables false
set_option linter.unusedSimpArgs false
namespace Go.Proofs.Ytdeipindfhkioaa.Pure
open Go.RowKit Go.Proofs.Ytdeipindfhkioaa.Q Go.Proofs.YtdeipindfhkioaaMine Go.Proofs.YtdeipindfhkioaaW.PrintWords
theorem GreedyParcels : laws_FnExactGreedyParcels.Pure := by
 intro l0_0 l0_1 l2 ⟨_, hb0, hw0⟩ ⟨_, hb0', hw0'⟩ ⟨_, hb2, hw2⟩
 apply Ev.rounds
 unfold laws_FnExactGreedyParcels.f
 by_cases g2 : (l2.length : Int) > 1048576
 ·simp only [if_pos g2]; exact Ev.now _
 simp only [if_neg g2]
 obtain ⟨r0, hr0, hd0⟩ := szTable l0_0 l0_1 (by omega) (by omega) (fun y hy => by have := (hw0' y hy).2.1; omega) (1048576) (by omega) (by omega)
 with_reducible refine Ev.bind hr0 ?_
 by_cases g0 : r0 < 0
 ·simp only [if_pos g0]; exact Ev.now _
 simp only [if_neg g0]
 obtain ⟨hd0, hd0_, hs0, hl0, hy0⟩ := hd0.resolve_left g0
 have hl2 : l2.length ≤ 2097152 := by omega
 have hc2 : ∀ n ∈ l2, wfInt64 n := hw2
 have hT0 : wfTable l0_0 l0_1 := ⟨by omega, by omega, fun y hy => Nat.le_trans (hy0 y hy) (by omega), hw0, fun y hy => (hw0' y hy).2.2⟩
 obtain ⟨S, hO⟩ := Ord.ex l2
 have hS := specGreedyParcels hT0 hO hl2
 have hI := implGreedyParcels hT0 hO
 have hG := grd_len (st := l0_0) (ws := l2) (S := S)
 have hR : ∃ R : List Int × Int × Int, R = (if alC l0_0 l0_1 0 l2 = 0 then ((grd l0_0 l2 S).1, ((grd l0_0 l2 S).2.length : Int), 0) else ([], 0, alC l0_0 l0_1 0 l2)) ∧ R.1.length ≤ 2097152 := ⟨_, rfl, by split <;> simp <;> omega⟩
 obtain ⟨R, eR, hT⟩ := hR
 rw [← eR] at hS hI
 obtain ⟨r, y, z, hm, hr, hr2⟩ := markTable hT0
 obtain ⟨y2, hm2⟩ := markAny64 l2 hl2 r hr (by omega)
 have hM := markInt64S R.1 hT
 have hH := heldInt64S R.1.length hT
 have hn : ¬ (1 + (R.1.length : Int)) < 0 := by omega
 have hrn : ¬ (r + (l2.length : Int)) < 0 := by omega
 have hE := eqInt64S R.1 hT
 repeat (first | exact Ev.now _ | (with_reducible refine Ev.bind hS ?_) | (with_reducible refine Ev.bind hI ?_) | (with_reducible refine Ev.bind hM ?_) | (with_reducible refine Ev.bind hH ?_) | (with_reducible refine Ev.bind hm ?_) | (with_reducible refine Ev.bind hm2 ?_) | (with_reducible refine Ev.bind hE ?_) | (with_reducible refine Ev.bind (toInt64S l2 hl2) ?_) | (with_reducible refine Ev.bind (eqInt64S l2 hl2) ?_) | (with_reducible refine Ev.bind (toTable hT0) ?_) | (with_reducible refine Ev.bind (eqTable hT0) ?_) | simp only [if_true, eq_self_iff_true, bne_self_eq_false, Bool.false_eq_true, if_false, Option.bind_some, if_neg hn, if_neg hrn] | (show Ev (fun n => laws_FnExactGreedyParcels.j0 n _ _ _ _ _ _ _ _ _ _ _ _ _) _; refine Ev.step (fun k => by simp only [laws_FnExactGreedyParcels.j0]; rfl) ?_) | (show Ev (fun n => laws_FnExactGreedyParcels.j1 n _ _ _ _ _ _ _ _) _; refine Ev.step (fun k => by simp only [laws_FnExactGreedyParcels.j1]; rfl) ?_) | (show Ev (fun n => laws_FnExactGreedyParcels.j2 n _ _ _) _; refine Ev.step (fun k => by simp only [laws_FnExactGreedyParcels.j2]; rfl) ?_))
end Go.Proofs.Ytdeipindfhkioaa.Pure
