-- made by wip/tools/mk.py of this session's repo, by way of the kit's print.py: Lean checks it.
import Derived.Test.YtdeipindfhkioaaQ0
import Derived.Test.YtdeipindfhkioaaQ7
import Derived.Test.YtdeipindfhkioaaQ8
import Derived.Test.YtdeipindfhkioaaQ10
namespace Go.Proofs.Ytdeipindfhkioaa.Q
open Go.RowKit Go.Proofs.YtdeipindfhkioaaW.PrintWords Go.Proofs.YtdeipindfhkioaaW.PrintLast Go.Proofs.YtdeipindfhkioaaW.PrintMore Go.Proofs.YtdeipindfhkioaaMine
attribute [local go_sem] max2_int min2_int max_two min_two max_three min_three max_four min_four   -- for this text's walks alone
set_option linter.unusedVariables false
set_option linter.unusedSimpArgs false

/-! ### f0z: function 38 -/
mutual
def f0z.l0 : Nat → List Int → Int → Int → List Int → List (List Int) → List Int → Option (List Int × Int × Int)
 | 0, _, _, _, _, _, _ => none
 | k + 1, x8, x23, x24, x322000, x322001, x323000 => if x24 < x23 then (if x8.length < 17592186044416 then (f0z.l0 k (x8 ++ [x24]) x23 (wrap64 (x24 + 1)) x322000 x322001 x323000) else (none)) else ((f11z.f k x8 x323000).bind fun t330 => (if 0 ≤ (x323000.length : Int) then (if ((x323000.length : Int) : Int).toNat ≤ 35184372088832 then (f0z.l1 k (List.replicate ((x323000.length : Int) : Int).toNat 0) (([] : List Int)) t330 (x8.length : Int) 0 x322000 x322001 x323000) else (none)) else (none)))
def f0z.l1 : Nat → List Int → List Int → List Int → Int → Int → List Int → List (List Int) → List Int → Option (List Int × Int × Int)
 | 0, _, _, _, _, _, _, _, _ => none
 | k + 1, x10, x11, x39, x40, x41, x322000, x322001, x323000 => if x41 < x40 then (if 0 ≤ x41 then (if x41 < (x39.length : Int) then ((f12z.f x11 x322000 x322001 x323000 (rd x39 x41)).bind fun t339 => (if t339 < 0 then (if x11.length < 17592186044416 then ((some (x11 ++ [0] : List Int)).bind fun y340 => (if 0 ≤ (x11.length : Int) then (if (x11.length : Int) < (y340.length : Int) then (if 0 ≤ (rd x39 x41) then (if (rd x39 x41) < (x323000.length : Int) then (if (rd x39 x41) < (x10.length : Int) then (f0z.l1 k (x10.set ((rd x39 x41) : Int).toNat (x11.length : Int)) (y340.set ((x11.length : Int) : Int).toNat (wrap64 ((rd y340 (x11.length : Int)) + (rd x323000 (rd x39 x41))))) x39 x40 (wrap64 (x41 + 1)) x322000 x322001 x323000) else (none)) else (none)) else (none)) else (none)) else (none))) else (none)) else (if 0 ≤ t339 then (if t339 < (x11.length : Int) then (if 0 ≤ (rd x39 x41) then (if (rd x39 x41) < (x323000.length : Int) then (if (rd x39 x41) < (x10.length : Int) then (f0z.l1 k (x10.set ((rd x39 x41) : Int).toNat t339) (x11.set (t339 : Int).toNat (wrap64 ((rd x11 t339) + (rd x323000 (rd x39 x41))))) x39 x40 (wrap64 (x41 + 1)) x322000 x322001 x323000) else (none)) else (none)) else (none)) else (none)) else (none)))) else (none)) else (none)) else ((impl_size_int64.f x11).bind fun t351 => (some (x10, t351, 0)))
end
def f0z.f (k : Nat) (l0_0 : List Int) (l0_1 : List (List Int)) (l1 : List Int) : Option (List Int × Int × Int) := (impl_parcelCode.f k l0_0 l0_1 0 l1).bind fun t323 => (if t323 = 0 then (f0z.l0 k (([] : List Int)) (l1.length : Int) 0 l0_0 l0_1 l1) else (some (([] : List Int), 0, t323)))
theorem f0z.mono_l : ∀ k, (∀ y0 y1 y2 y3 y4 y5, LeO (f0z.l0 k y0 y1 y2 y3 y4 y5) (f0z.l0 (k + 1) y0 y1 y2 y3 y4 y5)) ∧ (∀ y0 y1 y2 y3 y4 y5 y6 y7, LeO (f0z.l1 k y0 y1 y2 y3 y4 y5 y6 y7) (f0z.l1 (k + 1) y0 y1 y2 y3 y4 y5 y6 y7))
 | 0 => ⟨fun _ _ _ _ _ _ r h => by simp [f0z.l0] at h, fun _ _ _ _ _ _ _ _ r h => by simp [f0z.l1] at h⟩
 | k + 1 => by
  obtain ⟨ih0, ih1⟩ := f0z.mono_l k
  refine ⟨?_, ?_⟩
  ·intro y0 y1 y2 y3 y4 y5
   unfold f0z.l0
   repeat' first
   | (with_reducible exact ih0 _ _ _ _ _ _)
   | (with_reducible exact ih1 _ _ _ _ _ _ _ _)
   | (with_reducible exact impl_parcelCode.mono _ _ _ _ _)
   | (with_reducible exact f11z.mono _ _ _)
   | (with_reducible exact LeO.refl _)
   | (with_reducible exact LeO.none _)
   | (with_reducible refine LeO.ite ?_ ?_)
   | (with_reducible refine LeO.bind ?_ (fun _ => ?_))
   | exact ih0 _ _ _ _ _ _
   | exact ih1 _ _ _ _ _ _ _ _
   | exact impl_parcelCode.mono _ _ _ _ _
   | exact f11z.mono _ _ _
   | exact LeO.none _
   | refine LeO.ite ?_ ?_
   | refine LeO.bind ?_ (fun _ => ?_)
  ·intro y0 y1 y2 y3 y4 y5 y6 y7
   unfold f0z.l1
   repeat' first
   | (with_reducible exact ih0 _ _ _ _ _ _)
   | (with_reducible exact ih1 _ _ _ _ _ _ _ _)
   | (with_reducible exact impl_parcelCode.mono _ _ _ _ _)
   | (with_reducible exact f11z.mono _ _ _)
   | (with_reducible exact LeO.refl _)
   | (with_reducible exact LeO.none _)
   | (with_reducible refine LeO.ite ?_ ?_)
   | (with_reducible refine LeO.bind ?_ (fun _ => ?_))
   | exact ih0 _ _ _ _ _ _
   | exact ih1 _ _ _ _ _ _ _ _
   | exact impl_parcelCode.mono _ _ _ _ _
   | exact f11z.mono _ _ _
   | exact LeO.none _
   | refine LeO.ite ?_ ?_
   | refine LeO.bind ?_ (fun _ => ?_)
theorem f0z.mono : ∀ a0 a1 a2 k, LeO (f0z.f k a0 a1 a2) (f0z.f (k + 1) a0 a1 a2) := by
 intro a0 a1 a2 k
 obtain ⟨ih0, ih1⟩ := f0z.mono_l k
 unfold f0z.f
 repeat' first
   | (with_reducible exact ih0 _ _ _ _ _ _)
   | (with_reducible exact ih1 _ _ _ _ _ _ _ _)
   | (with_reducible exact impl_parcelCode.mono _ _ _ _ _)
   | (with_reducible exact f11z.mono _ _ _)
   | (with_reducible exact LeO.refl _)
   | (with_reducible exact LeO.none _)
   | (with_reducible refine LeO.ite ?_ ?_)
   | (with_reducible refine LeO.bind ?_ (fun _ => ?_))
   | exact ih0 _ _ _ _ _ _
   | exact ih1 _ _ _ _ _ _ _ _
   | exact impl_parcelCode.mono _ _ _ _ _
   | exact f11z.mono _ _ _
   | exact LeO.none _
   | refine LeO.ite ?_ ?_
   | refine LeO.bind ?_ (fun _ => ?_)
def f0z.T18 : Bool × List (List Nat × List Nat) := (true, [([], []), ([], []), ([0, 1], [0, 1]), ([2], [2]), ([], []), ([], []), ([4, 5], [4, 5]), ([6], [6]), ([3, 7], [3, 7]), ([0, 1, 0, 1, 2, 3, 4, 5, 6, 7, 8], [0, 1]), ([9, 8, 0, 1, 2, 3, 4, 5, 6, 7, 8], [8, 9])])
def f0z.B18 : List Nat := [0, 0, 3, 7, 0, 0, 48, 112, 255, 511, 1023]
theorem f0z.tab18 : rtab .any (opsOf Try.f38 18) = f0z.T18 := by kernel_rfl
theorem f0z.bits18 : waitsOk f0z.T18.2 f0z.B18 = true := by kernel_rfl
set_option maxHeartbeats 8000000 in
set_option maxRecDepth 100000 in
theorem f0z.calls (k : Nat) (A0_0 : Option Addr) (c0_0 : Nat) (l0_0 : List Int) (A0_1 : Option Addr) (c0_1 : Nat) (l0_1 : List (List Int)) (A1 : Option Addr) (c1 : Nat) (l1 : List Int) (r1 : List Int) (r2 : Int) (r3 : Int) (w : World) (hr0_0 : Kd.C (Kd.int .i16) w A0_0 l0_0.length l0_0) (hc0_0 : l0_0.length ≤ c0_0) (hr0_1 : Kd.C (Kd.slice 81 (Kd.int .i16)) w A0_1 l0_1.length l0_1) (hc0_1 : l0_1.length ≤ c0_1) (hr1 : Kd.C (Kd.int .i64) w A1 l1.length l1) (hc1 : l1.length ≤ c1) (h : f0z.f k l0_0 l0_1 l1 = some (r1, r2, r3)) :
  Calls Try.prog 38 #[.agg #[.slice A0_0 l0_0.length c0_0, .slice A0_1 l0_1.length c0_1], .slice A1 l1.length c1] w fun e w' => ∃ v0_ : Value, e = .returned (.tuple #[v0_, .int .i64 r2, .int .i64 r3]) ∧ Kd.R (Kd.int .i64) 2 w' w.heap.size (fun _ => True) v0_ r1 ∧ Below w.heap.size w w' := by
 have hu38 := Try.underlying38
 have HR0_0 := Aside0.mk hr0_0
 have HC0_0 := Aside0.mk hc0_0
 clear hr0_0 hc0_0
 have HR0_1 := Aside0.mk hr0_1
 have HC0_1 := Aside0.mk hc0_1
 clear hr0_1 hc0_1
 have HR1 := Aside0.mk hr1
 have HC1 := Aside0.mk hc1
 clear hr1 hc1
 have HB := Aside0.mk (Below.refl w.heap.size w)
 have H : ((impl_parcelCode.f k l0_0 l0_1 0 l1).bind fun t323 => (if t323 = 0 then (f0z.l0 k (([] : List Int)) (l1.length : Int) 0 l0_0 l0_1 l1) else (some (([] : List Int), 0, t323)))) = some (r1, r2, r3) := h
 clear h
 replace H := Option.bind_eq_some_iff.mp H
 obtain ⟨t323, A30, H⟩ := H
 replace H : (if t323 = 0 then (f0z.l0 k (([] : List Int)) (l1.length : Int) 0 l0_0 l0_1 l1) else (some (([] : List Int), 0, t323))) = some (r1, r2, r3) := H
 have A3 := Aside0.mk A30
 clear A30
 by_cases c4 : t323 = 0
 ·rw [if_pos c4] at H
  have c4b0 : (t323 == 0) = true := beq_iff_eq.mpr c4
  have c4b1 : (t323 != 0) = false := bne_eq_false_iff_eq.mpr c4
  clear c4
  obtain ⟨y324, hy324⟩ : ∃ y_ : List Int, y_ = (([] : List Int)) := ⟨_, rfl⟩
  replace H : (f0z.l0 k y324 (l1.length : Int) 0 l0_0 l0_1 l1) = some (r1, r2, r3) := by first | (rw [hy324]; with_reducible exact H) | (have H2_ := (Option.bind_some _ _).symm.trans H; rw [hy324]; with_reducible exact H2_) | (have H2_ := (Option.bind_some _ _).symm.trans H; with_reducible exact H2_) | with_reducible exact H | (rw [hy324]; exact H) | exact H
  have Ny324 := Aside0.mk hy324
  clear hy324
  have H' := Aside0.mk H
  clear H
  go_enter Try.func38, Try.ntmps38
  go_wp2_with (first | ((with_reducible refine gate_dst (N := 2) rfl ?_); refine box_event ?hg (N := 2) ?hd (cs := #[.slice A0_0 l0_0.length c0_0, .slice A0_1 l0_1.length c0_1]) (t := 38) ?hr ?_; (case hd => rfl); (case hg => rfl); (case hr => first | (go_simp; done) | (go_simp; rfl)); intro gb321 hg w5 hbox hb; have n0_ := Aside0.mk (below_step (by repeat (first | (with_reducible first | exact HB.out | apply below_alloc | apply pw_below_drewN | apply below_drew1) | exact HB.out)) hb); have n1_ := Aside0.mk (hbox); have n2_ := Aside0.mk ((by rw [hg]; exact (below_size (by repeat (first | (with_reducible first | exact HB.out | apply below_alloc | apply pw_below_drewN | apply below_drew1) | exact HB.out))) : w.heap.size ≤ gb321)); have n3_ := Aside0.mk ((by rw [hg]; exact (below_size (by repeat (first | (with_reducible first | exact HB.out | apply below_alloc | apply pw_below_drewN | apply below_drew1) | exact HB.out))) : w.heap.size ≤ gb321)); clear HB; have HB := n0_; have BK321 := n1_; have GW321 := n2_; have GE321 := n3_; clear n0_ n1_ n2_ n3_; clear hb hbox hg) | ((with_reducible refine gate_dst (N := 3) rfl ?_); refine box_event ?hg (N := 3) ?hd (cs := #[.slice A1 l1.length c1]) (t := 34) ?hr ?_; (case hd => rfl); (case hg => rfl); (case hr => first | (go_simp; done) | (go_simp; rfl)); intro gb322 hg w6 hbox hb; have n0_ := Aside0.mk (blk_below (g := gb321) (o := .cells #[.slice A0_0 l0_0.length c0_0, .slice A0_1 l0_1.length c0_1] 38 (0, 0)) (by (with_reducible repeat (first | refine blk_drewN ?_ _ | refine blk_drew ?_ | refine blk_alloc ?_ _)); exact BK321.out) hb); have n1_ := Aside0.mk (below_step (by repeat (first | (with_reducible first | exact HB.out | apply below_alloc | apply pw_below_drewN | apply below_drew1 | refine below_set ?_ GE321.out) | exact HB.out)) hb); have n2_ := Aside0.mk (hbox); have n3_ := Aside0.mk ((by rw [hg]; exact (below_size (by repeat (first | (with_reducible first | exact HB.out | apply below_alloc | apply pw_below_drewN | apply below_drew1 | refine below_set ?_ GE321.out) | exact HB.out))) : w.heap.size ≤ gb322)); have n4_ := Aside0.mk ((by rw [hg]; exact (below_size (by repeat (first | (with_reducible first | exact HB.out | apply below_alloc | apply pw_below_drewN | apply below_drew1 | refine below_set ?_ GE321.out) | exact HB.out))) : w.heap.size ≤ gb322)); have n5_ := Aside0.mk ((by rw [hg]; exact Nat.ne_of_lt (blk_lt (g := gb321) (o := .cells #[.slice A0_0 l0_0.length c0_0, .slice A0_1 l0_1.length c0_1] 38 (0, 0)) (by (with_reducible repeat (first | refine blk_drewN ?_ _ | refine blk_drew ?_ | refine blk_alloc ?_ _)); exact BK321.out)) : gb321 ≠ gb322)); have n6_ := Aside0.mk ((by rw [hg]; exact Nat.ne_of_gt (blk_lt (g := gb321) (o := .cells #[.slice A0_0 l0_0.length c0_0, .slice A0_1 l0_1.length c0_1] 38 (0, 0)) (by (with_reducible repeat (first | refine blk_drewN ?_ _ | refine blk_drew ?_ | refine blk_alloc ?_ _)); exact BK321.out)) : gb322 ≠ gb321)); clear BK321; clear HB; have BK321 := n0_; have HB := n1_; have BK322 := n2_; have GW322 := n3_; have GE322 := n4_; have NB321_322 := n5_; have NB322_321 := n6_; clear n0_ n1_ n2_ n3_ n4_ n5_ n6_; clear hb hbox hg; have hnb7 := NB321_322.out; have hnc7 := NB322_321.out; have hcz8_0 : w6.cell? ⟨gb321, 0, none⟩ = some (.slice A0_0 l0_0.length c0_0) := (blk_cell BK321.out 0).trans rfl; have hcz8_1 : w6.cell? ⟨gb321, 1, none⟩ = some (.slice A0_1 l0_1.length c0_1) := (blk_cell BK321.out 1).trans rfl; have hfz8_0 := blk_frozen BK321.out 0; have hfz8_1 := blk_frozen BK321.out 1; have hcz9_0 : w6.cell? ⟨gb322, 0, none⟩ = some (.slice A1 l1.length c1) := (blk_cell BK322.out 0).trans rfl; have hfz9_0 := blk_frozen BK322.out 0) | ((with_reducible refine gate_callee (f := 69) rfl ?_); refine goesL_ (some 17) rfl rfl Try.func69 (by kernel_rfl) rfl #[.agg #[.slice A0_0 l0_0.length c0_0, .slice A0_1 l0_1.length c0_1], .int .i64 0, .slice A1 l1.length c1] rfl (by (try simp only [List.map_toArray, List.map_cons, List.map_nil]); first | done | rfl | (simp only [List.length_drop, List.length_take]; rfl)) ?_; (with_reducible refine (impl_parcelCode.calls k _ _ l0_0 _ _ l0_1 0 _ _ l1 t323 _ ?side1 ?side2 ?side3 ?side4 ?side5 ?side6 A3.out).mono ?_); (case side1 => repeat (first | exact (Kd.C_below HR0_0.out HB.out) | (with_reducible refine Kd.C_alloc ?_ _) | (with_reducible refine Kd.C_drewN ?_ _) | (with_reducible refine Kd.C_drew ?_))); (case side2 => exact HC0_0.out); (case side3 => repeat (first | exact (Kd.C_below HR0_1.out HB.out) | (with_reducible refine Kd.C_alloc ?_ _) | (with_reducible refine Kd.C_drewN ?_ _) | (with_reducible refine Kd.C_drew ?_))); (case side4 => exact HC0_1.out); (case side5 => repeat (first | exact (Kd.C_below HR1.out HB.out) | (with_reducible refine Kd.C_alloc ?_ _) | (with_reducible refine Kd.C_drewN ?_ _) | (with_reducible refine Kd.C_drew ?_))); (case side6 => exact HC1.out); rintro e w10 ⟨rfl, hb⟩; refine ⟨_, rfl, ?_⟩; have n0_ := Aside0.mk (blk_below (g := gb321) (o := .cells #[.slice A0_0 l0_0.length c0_0, .slice A0_1 l0_1.length c0_1] 38 (0, 0)) (by (with_reducible repeat (first | refine blk_drewN ?_ _ | refine blk_drew ?_ | refine blk_alloc ?_ _)); exact BK321.out) hb); have n1_ := Aside0.mk (blk_below (g := gb322) (o := .cells #[.slice A1 l1.length c1] 34 (0, 0)) (by (with_reducible repeat (first | refine blk_drewN ?_ _ | refine blk_drew ?_ | refine blk_alloc ?_ _)); exact BK322.out) hb); have n2_ := Aside0.mk (below_step (by repeat (first | (with_reducible first | exact HB.out | apply below_alloc | apply pw_below_drewN | apply below_drew1 | refine below_set ?_ GE321.out | refine below_set ?_ GE322.out) | exact HB.out)) hb); clear BK321; clear BK322; clear HB; have BK321 := n0_; have BK322 := n1_; have HB := n2_; clear n0_ n1_ n2_; (try clear hb); (try clear hb2); (try clear hk); (try clear hi)) | ((with_reducible refine gate_dst (N := 21) rfl ?_); refine Kd.R_lit (Kd.int .i64) _ 3 ?hg (N := 21) ?hd (xs := ([] : List Int)) (inner := []) (ok := fun _ => True) (okp := fun _ => True) ?hr ?hp (fun _ hk => hk) trivial (Below.refl _ _) (Nat.le_refl _) (by simp) ?_; (case hd => rfl); (case hg => rfl); (case hr => first | (go_simp; done) | (go_simp; rfl)); (case hp => exact (Reps.none _ _)); intro v325 w11 ho12 hb hg_ hnew_; clear hg_ hnew_; (first | rw [← Ny324.out] at ho12 | (simp only [Int.reduceToNat] at ho12; rw [← Ny324.out] at ho12)); have n0_ := Aside0.mk (Kd.R_lower ho12 (below_size (by repeat (first | (with_reducible first | exact HB.out | apply below_alloc | apply pw_below_drewN | apply below_drew1 | refine below_set ?_ GE321.out | refine below_set ?_ GE322.out) | exact HB.out)))); have n1_ := Aside0.mk (blk_below (g := gb321) (o := .cells #[.slice A0_0 l0_0.length c0_0, .slice A0_1 l0_1.length c0_1] 38 (0, 0)) (by (with_reducible repeat (first | refine blk_drewN ?_ _ | refine blk_drew ?_ | refine blk_alloc ?_ _)); exact BK321.out) hb); have n2_ := Aside0.mk (blk_below (g := gb322) (o := .cells #[.slice A1 l1.length c1] 34 (0, 0)) (by (with_reducible repeat (first | refine blk_drewN ?_ _ | refine blk_drew ?_ | refine blk_alloc ?_ _)); exact BK322.out) hb); have n3_ := Aside0.mk (below_step (by repeat (first | (with_reducible first | exact HB.out | apply below_alloc | apply pw_below_drewN | apply below_drew1 | refine below_set ?_ GE321.out | refine below_set ?_ GE322.out) | exact HB.out)) hb); clear BK321; clear BK322; clear HB; have HO326 := n0_; have BK321 := n1_; have BK322 := n2_; have HB := n3_; clear n0_ n1_ n2_ n3_; clear hb ho12; have hcz13_0 : w11.cell? ⟨gb322, 0, none⟩ = some (.slice A1 l1.length c1) := (blk_cell BK322.out 0).trans rfl; have hfz13_0 := blk_frozen BK322.out 0))
  go_loopg [8, 24] k (fun kq v8 v24 w' => ∃ (x8_1 : List Int) (x24_1 : Int), v24 = .int .i64 x24_1 ∧ Aside0 (f0z.l0 kq x8_1 (l1.length : Int) x24_1 l0_0 l0_1 l1 = some (r1, r2, r3)) ∧ Aside0 (kq ≤ k) ∧ Aside0 (Kd.R (Kd.int .i64) 3 w' w.heap.size (fun _ => True) v8 x8_1) ∧ Aside0 (w'.heap[gb321]? = some (.cells #[(.slice A0_0 l0_0.length c0_0), (.slice A0_1 l0_1.length c0_1)] 38 (0, 0))) ∧ Aside0 (w'.heap[gb322]? = some (.cells #[(.slice A1 l1.length c1)] 34 (0, 0))) ∧ Aside0 (Below w.heap.size w w'))
  case atStart => exact ⟨(y324), (0), (by first | rfl | (simp; done) | (simp [*]; done)), H', ⟨Nat.le_refl _⟩, ⟨by (with_reducible repeat (first | apply Kd.R_alloc | apply Kd.R_drewN | apply Kd.R_drew)); exact HO326.out⟩, ⟨by (with_reducible repeat (first | refine blk_drewN ?_ _ | refine blk_drew ?_ | refine blk_alloc ?_ _)); exact BK321.out⟩, ⟨by (with_reducible repeat (first | refine blk_drewN ?_ _ | refine blk_drew ?_ | refine blk_alloc ?_ _)); exact BK322.out⟩, ⟨by repeat (first | (with_reducible first | exact HB.out | apply below_alloc | apply pw_below_drewN | apply below_drew1 | refine below_set ?_ GE321.out | refine below_set ?_ GE322.out) | exact HB.out)⟩⟩
  case round =>
   clear H'
   try clear c1
   try clear p2
   try clear c3
   try clear c4
   try clear c4b0
   try clear c4b1
   try clear c6
   try clear c7
   try clear hcz13_0
   try clear hcz8_0
   try clear hcz8_1
   try clear hcz9_0
   try clear hfz13_0
   try clear hfz8_0
   try clear hfz8_1
   try clear hfz9_0
   obtain ⟨x8_1, x24_1, rfl, HA, HK1, HO_8, BK321, BK322, HB⟩ := hrel
   cases gk with
   | zero => exact absurd HA.out (by simp [f0z.l0])
   | succ k1 =>
    have H := HA.out
    clear HA
    simp only [f0z.l0] at H
    by_cases c14 : x24_1 < (l1.length : Int)
    ·rw [if_pos c14] at H
     have c14b0 : decide (x24_1 < (l1.length : Int)) = true := decide_eq_true c14
     clear c14
     by_cases c15 : x8_1.length < 17592186044416
     ·rw [if_pos c15] at H
      have LMc15 := Aside0.mk c15
      clear c15
      obtain ⟨y327, hy327⟩ : ∃ y_ : List Int, y_ = (x8_1 ++ [x24_1]) := ⟨_, rfl⟩
      replace H : (f0z.l0 k1 y327 (l1.length : Int) (wrap64 (x24_1 + 1)) l0_0 l0_1 l1) = some (r1, r2, r3) := by first | (rw [hy327]; with_reducible exact H) | (have H2_ := (Option.bind_some _ _).symm.trans H; rw [hy327]; with_reducible exact H2_) | (have H2_ := (Option.bind_some _ _).symm.trans H; with_reducible exact H2_) | with_reducible exact H | (rw [hy327]; exact H) | exact H
      have Ny327 := Aside0.mk hy327
      clear hy327
      have H' := Aside0.mk H
      clear H
      go_wp2_with (first | ((with_reducible refine gate_builtin (b := .append) (xs := #[.tmp 27, .tmp 29]) rfl ?_); at_builtin; refine Kd.R_append (Kd.int .i64) (w0 := w) w.heap.size rfl (.tmp 27) (.tmp 29) 95 3 (.int .i64 0) 8 rfl Try.underlying95 info3 rfl (by decide) (by omega) u8 x8_1 x24_1 [.int .i64 x24_1] (fun _ => True) (fun _ => False) rfl rfl ?aP (fun _ hk => hk.elim) ?aF ?aO ?aB ?aS ?aL ?_; (case aP => exact rfl); (case aB => exact (by repeat (first | (with_reducible first | exact HB.out | apply below_alloc | apply pw_below_drewN | apply below_drew1 | refine below_set ?_ GE321.out | refine below_set ?_ GE322.out) | exact HB.out))); (case aF => exact (fun _ _ => trivial)); (case aO => exact (by (with_reducible repeat (first | apply Kd.R_alloc | apply Kd.R_drewN | apply Kd.R_drew)); exact HO_8.out)); (case aS => exact (below_size (by repeat (first | (with_reducible first | exact HB.out | apply below_alloc | apply pw_below_drewN | apply below_drew1 | refine below_set ?_ GE321.out | refine below_set ?_ GE322.out) | exact HB.out)))); (case aL => have := LMc15.out; omega); intro v328 w16 ho hb hg hat; rw [← Ny327.out] at ho; have n0_ := Aside0.mk (blk_grown (g := gb321) (o := .cells #[.slice A0_0 l0_0.length c0_0, .slice A0_1 l0_1.length c0_1] 38 (0, 0)) (by (with_reducible repeat (first | refine blk_drewN ?_ _ | refine blk_drew ?_ | refine blk_alloc ?_ _)); exact BK321.out) hg (Kd.R_ne HO_8.out BK321.out (by decide))); have n1_ := Aside0.mk (blk_grown (g := gb322) (o := .cells #[.slice A1 l1.length c1] 34 (0, 0)) (by (with_reducible repeat (first | refine blk_drewN ?_ _ | refine blk_drew ?_ | refine blk_alloc ?_ _)); exact BK322.out) hg (Kd.R_ne HO_8.out BK322.out (by decide))); have n2_ := Aside0.mk (hb); have n3_ := Aside0.mk (ho); clear BK321; clear BK322; clear HB; clear HO_8; have BK321 := n0_; have BK322 := n1_; have HB := n2_; have HO329 := n3_; clear n0_ n1_ n2_ n3_; clear ho hb hg hat))
      go_roundg k1
      case measure => have := HK1.out; omega
      case rel => exact ⟨(y327), (wrap64 (x24_1 + 1)), (by first | rfl | (simp; done) | (simp [*]; done)), H', ⟨by have := HK1.out; omega⟩, ⟨by (with_reducible repeat (first | apply Kd.R_alloc | apply Kd.R_drewN | apply Kd.R_drew)); exact HO329.out⟩, ⟨by (with_reducible repeat (first | refine blk_drewN ?_ _ | refine blk_drew ?_ | refine blk_alloc ?_ _)); exact BK321.out⟩, ⟨by (with_reducible repeat (first | refine blk_drewN ?_ _ | refine blk_drew ?_ | refine blk_alloc ?_ _)); exact BK322.out⟩, ⟨by repeat (first | (with_reducible first | exact HB.out | apply below_alloc | apply pw_below_drewN | apply below_drew1 | refine below_set ?_ GE321.out | refine below_set ?_ GE322.out) | exact HB.out)⟩⟩
     ·rw [if_neg c15] at H
      exact absurd H (by simp)
    ·rw [if_neg c14] at H
     have c14b0 : decide (x24_1 < (l1.length : Int)) = false := decide_eq_false c14
     clear c14
     replace H := Option.bind_eq_some_iff.mp H
     obtain ⟨t330, A170, H⟩ := H
     replace H : (if 0 ≤ (l1.length : Int) then (if ((l1.length : Int) : Int).toNat ≤ 35184372088832 then (f0z.l1 k1 (List.replicate ((l1.length : Int) : Int).toNat 0) (([] : List Int)) t330 (x8_1.length : Int) 0 l0_0 l0_1 l1) else (none)) else (none)) = some (r1, r2, r3) := H
     have A17 := Aside0.mk A170
     clear A170
     by_cases c18 : 0 ≤ (l1.length : Int)
     ·rw [if_pos c18] at H
      have c18b0 := eq_true c18
      have c18b1 : decide (0 ≤ (l1.length : Int)) = true := decide_eq_true c18
      clear c18
      by_cases c19 : ((l1.length : Int) : Int).toNat ≤ 35184372088832
      ·rw [if_pos c19] at H
       have c19b0 := eq_true c19
       have c19b1 : decide (((l1.length : Int) : Int).toNat ≤ 35184372088832) = true := decide_eq_true c19
       clear c19
       obtain ⟨y331, hy331⟩ : ∃ y_ : List Int, y_ = (List.replicate ((l1.length : Int) : Int).toNat 0) := ⟨_, rfl⟩
       replace H : (f0z.l1 k1 y331 (([] : List Int)) t330 (x8_1.length : Int) 0 l0_0 l0_1 l1) = some (r1, r2, r3) := by first | (rw [hy331]; with_reducible exact H) | (have H2_ := (Option.bind_some _ _).symm.trans H; rw [hy331]; with_reducible exact H2_) | (have H2_ := (Option.bind_some _ _).symm.trans H; with_reducible exact H2_) | with_reducible exact H | (rw [hy331]; exact H) | exact H
       have Ny331 := Aside0.mk hy331
       clear hy331
       obtain ⟨y334, hy334⟩ : ∃ y_ : List Int, y_ = (([] : List Int)) := ⟨_, rfl⟩
       replace H : (f0z.l1 k1 y331 y334 t330 (x8_1.length : Int) 0 l0_0 l0_1 l1) = some (r1, r2, r3) := by first | (rw [hy334]; with_reducible exact H) | (have H2_ := (Option.bind_some _ _).symm.trans H; rw [hy334]; with_reducible exact H2_) | (have H2_ := (Option.bind_some _ _).symm.trans H; with_reducible exact H2_) | with_reducible exact H | (rw [hy334]; exact H) | exact H
       have Ny334 := Aside0.mk hy334
       clear hy334
       have H' := Aside0.mk H
       clear H
       obtain ⟨Ao20, co20, eo20⟩ := Kd.R_slice HO_8.out
       subst eo20
       go_wp2_with (first | ((with_reducible refine gate_callee (f := 80) rfl ?_); refine goesL_ (some 34) rfl rfl Try.func80 (by kernel_rfl) rfl #[.slice Ao20 x8_1.length co20, .func (.func 81) #[] #[.pointer (some ⟨gb322, 0, none⟩)]] rfl (by (try simp only [List.map_toArray, List.map_cons, List.map_nil]); first | done | rfl | (simp only [List.length_drop, List.length_take]; rfl)) ?_; (with_reducible refine (f11z.calls k1 (fun k_ => some k_ = (.slice Ao20 x8_1.length co20 : Value).ownBlock) (.slice Ao20 x8_1.length co20) x8_1 gb322 A1 c1 l1 t330 w _ ?side1 ?side2 ?side3 ?side4 ?side5 A17.out).mono ?_); (case side1 => repeat (first | (with_reducible first | exact HB.out | apply below_alloc | apply pw_below_drewN | apply below_drew1 | refine below_set ?_ GE321.out | refine below_set ?_ GE322.out) | exact HB.out)); (case side2 => exact Kd.R_tight rfl HO_8.out); (case side3 => exact Kd.C_kept_came (Kd.heap_int .i64) HR1.out (by repeat (first | (with_reducible first | exact HB.out | apply below_alloc | apply pw_below_drewN | apply below_drew1 | refine below_set ?_ GE321.out | refine below_set ?_ GE322.out) | exact HB.out)) (fun k_ hs_ => (fun e_ => Kd.R_base HO_8.out k_ e_.symm) hs_)); (case side4 => exact HC1.out); (case side5 => (with_reducible repeat (first | refine blk_drewN ?_ _ | refine blk_drew ?_ | refine blk_alloc ?_ _)); exact BK322.out); rintro e w21 ⟨rfl, hy0, hb, hkp⟩; refine ⟨_, rfl, ?_⟩; have n0_ := Aside0.mk (Kd.R_reok rfl hy0 (fun k_ e_ => HO_8.out.1 k_ e_)); have n1_ := Aside0.mk (blk_kept (by (with_reducible repeat (first | refine blk_drewN ?_ _ | refine blk_drew ?_ | refine blk_alloc ?_ _)); exact BK321.out) hkp (fun hs_ => (fun e_ => (Kd.R_ne HO_8.out BK321.out (by decide)) e_) hs_)); have n2_ := Aside0.mk (blk_kept (by (with_reducible repeat (first | refine blk_drewN ?_ _ | refine blk_drew ?_ | refine blk_alloc ?_ _)); exact BK322.out) hkp (fun hs_ => (fun e_ => (Kd.R_ne HO_8.out BK322.out (by decide)) e_) hs_)); have n3_ := Aside0.mk (hb); clear HO_8; clear BK321; clear BK322; clear HB; have HO_8 := n0_; have BK321 := n1_; have BK322 := n2_; have HB := n3_; clear n0_ n1_ n2_ n3_; (try clear hb); (try clear hkp); (try clear hy0); have hnb22 := NB322_321.out; have hnc22 := NB321_322.out; have hcz23_0 : w21.cell? ⟨gb322, 0, none⟩ = some (.slice A1 l1.length c1) := (blk_cell BK322.out 0).trans rfl; have hfz23_0 := blk_frozen BK322.out 0) | ((with_reducible refine gate_dst (N := 37) rfl ?_); refine Kd.R_make (Kd.int .i64) _ 2 rfl (N := 37) rfl 34 _ _ rfl (l1.length : Int) rfl rfl Try.underlying34 (.int .i64 0) 8 info2 rfl (by decide) (by omega) 0 (ok := fun _ => True) (okp := fun _ => True) rfl (fun _ hk => hk) trivial odt_ (Nat.le_trans (Nat.mul_le_mul_right _ (odt_ : (l1.length : Int).toNat ≤ 35184372088832)) (by omega)) (Below.refl _ _) (Nat.le_refl _) ?_; intro v332 w24 ho25 hb hg_ hnew_; clear hg_ hnew_; (first | rw [← Ny331.out] at ho25 | (simp only [Int.reduceToNat] at ho25; rw [← Ny331.out] at ho25)); have n0_ := Aside0.mk (Kd.R_below (by (with_reducible repeat (first | apply Kd.R_alloc | apply Kd.R_drewN | apply Kd.R_drew)); exact HO_8.out) hb); have n1_ := Aside0.mk (Kd.R_lower ho25 (below_size (by repeat (first | (with_reducible first | exact HB.out | apply below_alloc | apply pw_below_drewN | apply below_drew1 | refine below_set ?_ GE321.out | refine below_set ?_ GE322.out) | exact HB.out)))); have n2_ := Aside0.mk (blk_below (g := gb321) (o := .cells #[.slice A0_0 l0_0.length c0_0, .slice A0_1 l0_1.length c0_1] 38 (0, 0)) (by (with_reducible repeat (first | refine blk_drewN ?_ _ | refine blk_drew ?_ | refine blk_alloc ?_ _)); exact BK321.out) hb); have n3_ := Aside0.mk (blk_below (g := gb322) (o := .cells #[.slice A1 l1.length c1] 34 (0, 0)) (by (with_reducible repeat (first | refine blk_drewN ?_ _ | refine blk_drew ?_ | refine blk_alloc ?_ _)); exact BK322.out) hb); have n4_ := Aside0.mk (below_step (by repeat (first | (with_reducible first | exact HB.out | apply below_alloc | apply pw_below_drewN | apply below_drew1 | refine below_set ?_ GE321.out | refine below_set ?_ GE322.out) | exact HB.out)) hb); clear HO_8; clear BK321; clear BK322; clear HB; have HO_8 := n0_; have HO333 := n1_; have BK321 := n2_; have BK322 := n3_; have HB := n4_; clear n0_ n1_ n2_ n3_ n4_; clear hb ho25) | ((with_reducible refine gate_dst (N := 38) rfl ?_); refine Kd.R_lit (Kd.int .i64) _ 2 ?hg (N := 38) ?hd (xs := ([] : List Int)) (inner := []) (ok := fun _ => True) (okp := fun _ => True) ?hr ?hp (fun _ hk => hk) trivial (Below.refl _ _) (Nat.le_refl _) (by simp) ?_; (case hd => rfl); (case hg => rfl); (case hr => first | (go_simp; done) | (go_simp; rfl)); (case hp => exact (Reps.none _ _)); intro v335 w26 ho27 hb hg_ hnew_; clear hg_ hnew_; (first | rw [← Ny334.out] at ho27 | (simp only [Int.reduceToNat] at ho27; rw [← Ny334.out] at ho27)); have n0_ := Aside0.mk (Kd.R_below (by (with_reducible repeat (first | apply Kd.R_alloc | apply Kd.R_drewN | apply Kd.R_drew)); exact HO_8.out) hb); have n1_ := Aside0.mk (Kd.R_elder' (by (with_reducible repeat (first | apply Kd.R_alloc | apply Kd.R_drewN | apply Kd.R_drew)); exact HO333.out) (Kd.R_base ho27) hb); have n2_ := Aside0.mk (Kd.R_lower (Kd.R_new' ho27 (Kd.R_lt (by (with_reducible repeat (first | apply Kd.R_alloc | apply Kd.R_drewN | apply Kd.R_drew)); exact HO333.out))) (below_size (by repeat (first | (with_reducible first | exact HB.out | apply below_alloc | apply pw_below_drewN | apply below_drew1 | refine below_set ?_ GE321.out | refine below_set ?_ GE322.out) | exact HB.out)))); have n3_ := Aside0.mk (blk_below (g := gb321) (o := .cells #[.slice A0_0 l0_0.length c0_0, .slice A0_1 l0_1.length c0_1] 38 (0, 0)) (by (with_reducible repeat (first | refine blk_drewN ?_ _ | refine blk_drew ?_ | refine blk_alloc ?_ _)); exact BK321.out) hb); have n4_ := Aside0.mk (blk_below (g := gb322) (o := .cells #[.slice A1 l1.length c1] 34 (0, 0)) (by (with_reducible repeat (first | refine blk_drewN ?_ _ | refine blk_drew ?_ | refine blk_alloc ?_ _)); exact BK322.out) hb); have n5_ := Aside0.mk (below_step (by repeat (first | (with_reducible first | exact HB.out | apply below_alloc | apply pw_below_drewN | apply below_drew1 | refine below_set ?_ GE321.out | refine below_set ?_ GE322.out) | exact HB.out)) hb); clear HO_8; clear HO333; clear BK321; clear BK322; clear HB; have HO_8 := n0_; have HO333 := n1_; have HO336 := n2_; have BK321 := n3_; have BK322 := n4_; have HB := n5_; clear n0_ n1_ n2_ n3_ n4_ n5_; clear hb ho27))
       go_loopg [11, 41] k1 (fun kq v11 v41 w' => ∃ (x10_2 : List Int) (x11_2 : List Int) (x41_2 : Int), v41 = .int .i64 x41_2 ∧ Aside0 (f0z.l1 kq x10_2 x11_2 t330 (x8_1.length : Int) x41_2 l0_0 l0_1 l1 = some (r1, r2, r3)) ∧ Aside0 (kq ≤ k1) ∧ Aside0 (Kd.R (Kd.int .i64) 2 w' w.heap.size (fun k_ => some k_ ≠ (v11 : Value).ownBlock) v332 x10_2) ∧ Aside0 (Kd.R (Kd.int .i64) 2 w' w.heap.size (fun k_ => some k_ ≠ (v332 : Value).ownBlock) v11 x11_2) ∧ Aside0 (Kd.R (Kd.int .i64) 3 w' w.heap.size (fun _ => True) (.slice Ao20 x8_1.length co20) t330) ∧ Aside0 (w'.heap[gb321]? = some (.cells #[(.slice A0_0 l0_0.length c0_0), (.slice A0_1 l0_1.length c0_1)] 38 (0, 0))) ∧ Aside0 (w'.heap[gb322]? = some (.cells #[(.slice A1 l1.length c1)] 34 (0, 0))) ∧ Aside0 (Below w.heap.size w w'))
       case atStart => exact ⟨(y331), (y334), (0), (by first | rfl | (simp; done) | (simp [*]; done)), H', ⟨Nat.le_refl _⟩, ⟨by (with_reducible repeat (first | apply Kd.R_alloc | apply Kd.R_drewN | apply Kd.R_drew)); exact Kd.R_mono HO333.out (fun _ hk => hk.2)⟩, ⟨by (with_reducible repeat (first | apply Kd.R_alloc | apply Kd.R_drewN | apply Kd.R_drew)); exact Kd.R_mono HO336.out (fun _ hk => hk.2)⟩, ⟨by (with_reducible repeat (first | apply Kd.R_alloc | apply Kd.R_drewN | apply Kd.R_drew)); exact HO_8.out⟩, ⟨by (with_reducible repeat (first | refine blk_drewN ?_ _ | refine blk_drew ?_ | refine blk_alloc ?_ _)); exact BK321.out⟩, ⟨by (with_reducible repeat (first | refine blk_drewN ?_ _ | refine blk_drew ?_ | refine blk_alloc ?_ _)); exact BK322.out⟩, ⟨by repeat (first | (with_reducible first | exact HB.out | apply below_alloc | apply pw_below_drewN | apply below_drew1 | refine below_set ?_ GE321.out | refine below_set ?_ GE322.out) | exact HB.out)⟩⟩
       case round =>
        clear H'
        try clear c1
        try clear c2
        try clear p2
        try clear c3
        try clear c4
        try clear c4b0
        try clear c4b1
        try clear c6
        try clear p6
        try clear c7
        try clear c8
        try clear c14
        try clear c14b0
        try clear c15
        try clear c18
        try clear c18b0
        try clear c18b1
        try clear c19
        try clear c19b0
        try clear c19b1
        try clear c22
        try clear hcz13_0
        try clear hcz23_0
        try clear hcz8_0
        try clear hcz8_1
        try clear hcz9_0
        try clear hfz13_0
        try clear hfz23_0
        try clear hfz8_0
        try clear hfz8_1
        try clear hfz9_0
        try clear p2
        obtain ⟨x10_2, x11_2, x41_2, rfl, HA, HK2, HO_10, HO_11, HO_39, BK321, BK322, HB⟩ := hrel
        have hl39_2 := (Kd.R_reads' HO_39.out).1
        rw [hl39_2] at HO_39
        (try simp only [hl39_2])
        (try simp only [hl39_2] at BK321)
        (try simp only [hl39_2] at BK322)
        (try simp only [hl39_2] at HO_10)
        (try simp only [hl39_2] at HO_11)
        cases gk with
        | zero => exact absurd HA.out (by simp [f0z.l1])
        | succ k2 =>
         have H := HA.out
         clear HA
         simp only [f0z.l1] at H
         by_cases c28 : x41_2 < (x8_1.length : Int)
         ·rw [if_pos c28] at H
          have c28b0 : decide (x41_2 < (x8_1.length : Int)) = true := decide_eq_true c28
          clear c28
          by_cases c29 : 0 ≤ x41_2
          ·rw [if_pos c29] at H
           have c29b0 : decide (0 ≤ x41_2) = true := decide_eq_true c29
           clear c29
           by_cases c30 : x41_2 < (t330.length : Int)
           ·rw [if_pos c30] at H
            have c30b0 : decide (x41_2 < (t330.length : Int)) = true := decide_eq_true c30
            clear c30
            replace H := Option.bind_eq_some_iff.mp H
            obtain ⟨t339, A310, H⟩ := H
            replace H : (if t339 < 0 then (if x11_2.length < 17592186044416 then ((some (x11_2 ++ [0] : List Int)).bind fun y340 => (if 0 ≤ (x11_2.length : Int) then (if (x11_2.length : Int) < (y340.length : Int) then (if 0 ≤ (rd t330 x41_2) then (if (rd t330 x41_2) < (l1.length : Int) then (if (rd t330 x41_2) < (x10_2.length : Int) then (f0z.l1 k2 (x10_2.set ((rd t330 x41_2) : Int).toNat (x11_2.length : Int)) (y340.set ((x11_2.length : Int) : Int).toNat (wrap64 ((rd y340 (x11_2.length : Int)) + (rd l1 (rd t330 x41_2))))) t330 (x8_1.length : Int) (wrap64 (x41_2 + 1)) l0_0 l0_1 l1) else (none)) else (none)) else (none)) else (none)) else (none))) else (none)) else (if 0 ≤ t339 then (if t339 < (x11_2.length : Int) then (if 0 ≤ (rd t330 x41_2) then (if (rd t330 x41_2) < (l1.length : Int) then (if (rd t330 x41_2) < (x10_2.length : Int) then (f0z.l1 k2 (x10_2.set ((rd t330 x41_2) : Int).toNat t339) (x11_2.set (t339 : Int).toNat (wrap64 ((rd x11_2 t339) + (rd l1 (rd t330 x41_2))))) t330 (x8_1.length : Int) (wrap64 (x41_2 + 1)) l0_0 l0_1 l1) else (none)) else (none)) else (none)) else (none)) else (none))) = some (r1, r2, r3) := H
            have A31 := Aside0.mk A310
            clear A310
            by_cases c32 : t339 < 0
            ·rw [if_pos c32] at H
             have c32b0 : decide (t339 < 0) = true := decide_eq_true c32
             clear c32
             by_cases c33 : x11_2.length < 17592186044416
             ·rw [if_pos c33] at H
              have LMc33 := Aside0.mk c33
              clear c33
              obtain ⟨y340, hy340⟩ : ∃ y_ : List Int, y_ = (x11_2 ++ [0]) := ⟨_, rfl⟩
              replace H : (if 0 ≤ (x11_2.length : Int) then (if (x11_2.length : Int) < (y340.length : Int) then (if 0 ≤ (rd t330 x41_2) then (if (rd t330 x41_2) < (l1.length : Int) then (if (rd t330 x41_2) < (x10_2.length : Int) then (f0z.l1 k2 (x10_2.set ((rd t330 x41_2) : Int).toNat (x11_2.length : Int)) (y340.set ((x11_2.length : Int) : Int).toNat (wrap64 ((rd y340 (x11_2.length : Int)) + (rd l1 (rd t330 x41_2))))) t330 (x8_1.length : Int) (wrap64 (x41_2 + 1)) l0_0 l0_1 l1) else (none)) else (none)) else (none)) else (none)) else (none)) = some (r1, r2, r3) := by first | (rw [hy340]; with_reducible exact H) | (have H2_ := (Option.bind_some _ _).symm.trans H; rw [hy340]; with_reducible exact H2_) | (have H2_ := (Option.bind_some _ _).symm.trans H; with_reducible exact H2_) | with_reducible exact H | (rw [hy340]; exact H) | exact H
              have Ny340 := Aside0.mk hy340
              clear hy340
              by_cases c34 : 0 ≤ (x11_2.length : Int)
              ·rw [if_pos c34] at H
               have c34b0 : decide (0 ≤ (x11_2.length : Int)) = true := decide_eq_true c34
               have c34b1 : decide (0 ≤ x11_2.length) = true := decide_eq_true (by omega)
               clear c34
               by_cases c35 : (x11_2.length : Int) < (y340.length : Int)
               ·rw [if_pos c35] at H
                have c35b0 : decide ((x11_2.length : Int) < (y340.length : Int)) = true := decide_eq_true c35
                have c35b1 : decide (x11_2.length < y340.length) = true := decide_eq_true (Int.ofNat_lt.mp c35)
                clear c35
                by_cases c36 : 0 ≤ (rd t330 x41_2)
                ·rw [if_pos c36] at H
                 have c36b0 : decide (0 ≤ (rd t330 x41_2)) = true := decide_eq_true c36
                 clear c36
                 by_cases c37 : (rd t330 x41_2) < (l1.length : Int)
                 ·rw [if_pos c37] at H
                  have c37b0 : decide ((rd t330 x41_2) < (l1.length : Int)) = true := decide_eq_true c37
                  clear c37
                  obtain ⟨y345, hy345⟩ : ∃ y_ : List Int, y_ = (y340.set ((x11_2.length : Int) : Int).toNat (wrap64 ((rd y340 (x11_2.length : Int)) + (rd l1 (rd t330 x41_2))))) := ⟨_, rfl⟩
                  replace H : (if (rd t330 x41_2) < (x10_2.length : Int) then (f0z.l1 k2 (x10_2.set ((rd t330 x41_2) : Int).toNat (x11_2.length : Int)) y345 t330 (x8_1.length : Int) (wrap64 (x41_2 + 1)) l0_0 l0_1 l1) else (none)) = some (r1, r2, r3) := by first | (rw [hy345]; with_reducible exact H) | (have H2_ := (Option.bind_some _ _).symm.trans H; rw [hy345]; with_reducible exact H2_) | (have H2_ := (Option.bind_some _ _).symm.trans H; with_reducible exact H2_) | with_reducible exact H | (rw [hy345]; exact H) | exact H
                  have Ny345 := Aside0.mk hy345
                  clear hy345
                  by_cases c39 : (rd t330 x41_2) < (x10_2.length : Int)
                  ·rw [if_pos c39] at H
                   have c39b0 : decide ((rd t330 x41_2) < (x10_2.length : Int)) = true := decide_eq_true c39
                   clear c39
                   obtain ⟨y346, hy346⟩ : ∃ y_ : List Int, y_ = (x10_2.set ((rd t330 x41_2) : Int).toNat (x11_2.length : Int)) := ⟨_, rfl⟩
                   replace H : (f0z.l1 k2 y346 y345 t330 (x8_1.length : Int) (wrap64 (x41_2 + 1)) l0_0 l0_1 l1) = some (r1, r2, r3) := by first | (rw [hy346]; with_reducible exact H) | (have H2_ := (Option.bind_some _ _).symm.trans H; rw [hy346]; with_reducible exact H2_) | (have H2_ := (Option.bind_some _ _).symm.trans H; with_reducible exact H2_) | with_reducible exact H | (rw [hy346]; exact H) | exact H
                   have Ny346 := Aside0.mk hy346
                   clear hy346
                   have H' := Aside0.mk H
                   clear H
                   have p337 : 0 ≤ (x41_2 : Int) := odt_
                   have q337 : x41_2 < (t330.length : Int) := odt_
                   obtain ⟨ad337, e337, hx337_0⟩ := Kd.at_int (Kd.R_reads' HO_39.out).2.2 x41_2 p337 q337
                   cases e337
                   replace p337 := eq_true p337
                   replace q337 := eq_true q337
                   try go_wp2_with (first | ((with_reducible refine gate_dst (N := 13) rfl ?_); refine box_event ?hg (N := 13) ?hd (cs := #[.int .i64 0]) (t := 3) ?hr ?_; (case hd => rfl); (case hg => rfl); (case hr => first | (go_simp; done) | (go_simp; rfl)); intro gb338 hg w41 hbox hb; have n0_ := Aside0.mk (Kd.R_below (by (with_reducible repeat (first | apply Kd.R_alloc | apply Kd.R_drewN | apply Kd.R_drew)); exact HO_10.out) hb); have n1_ := Aside0.mk (Kd.R_below (by (with_reducible repeat (first | apply Kd.R_alloc | apply Kd.R_drewN | apply Kd.R_drew)); exact HO_11.out) hb); have n2_ := Aside0.mk (Kd.R_below (Kd.R_elderB (by (with_reducible repeat (first | apply Kd.R_alloc | apply Kd.R_drewN | apply Kd.R_drew)); exact HO_39.out) gb338 (Nat.le_of_eq hg.symm)) hb); have n3_ := Aside0.mk (blk_below (g := gb321) (o := .cells #[.slice A0_0 l0_0.length c0_0, .slice A0_1 l0_1.length c0_1] 38 (0, 0)) (by (with_reducible repeat (first | refine blk_drewN ?_ _ | refine blk_drew ?_ | refine blk_alloc ?_ _)); exact BK321.out) hb); have n4_ := Aside0.mk (blk_below (g := gb322) (o := .cells #[.slice A1 l1.length c1] 34 (0, 0)) (by (with_reducible repeat (first | refine blk_drewN ?_ _ | refine blk_drew ?_ | refine blk_alloc ?_ _)); exact BK322.out) hb); have n5_ := Aside0.mk (below_step (by repeat (first | (with_reducible first | exact HB.out | apply below_alloc | apply pw_below_drewN | apply below_drew1 | refine below_set ?_ GE321.out | refine below_set ?_ GE322.out) | exact HB.out)) hb); have n6_ := Aside0.mk (hbox); have n7_ := Aside0.mk ((by rw [hg]; exact (below_size (by repeat (first | (with_reducible first | exact HB.out | apply below_alloc | apply pw_below_drewN | apply below_drew1 | refine below_set ?_ GE321.out | refine below_set ?_ GE322.out) | exact HB.out))) : w.heap.size ≤ gb338)); have n8_ := Aside0.mk ((by rw [hg]; exact (below_size (by repeat (first | (with_reducible first | exact HB.out | apply below_alloc | apply pw_below_drewN | apply below_drew1 | refine below_set ?_ GE321.out | refine below_set ?_ GE322.out) | exact HB.out))) : w.heap.size ≤ gb338)); have n9_ := Aside0.mk ((by rw [hg]; exact Nat.ne_of_lt (blk_lt (g := gb321) (o := .cells #[.slice A0_0 l0_0.length c0_0, .slice A0_1 l0_1.length c0_1] 38 (0, 0)) (by (with_reducible repeat (first | refine blk_drewN ?_ _ | refine blk_drew ?_ | refine blk_alloc ?_ _)); exact BK321.out)) : gb321 ≠ gb338)); have n10_ := Aside0.mk ((by rw [hg]; exact Nat.ne_of_gt (blk_lt (g := gb321) (o := .cells #[.slice A0_0 l0_0.length c0_0, .slice A0_1 l0_1.length c0_1] 38 (0, 0)) (by (with_reducible repeat (first | refine blk_drewN ?_ _ | refine blk_drew ?_ | refine blk_alloc ?_ _)); exact BK321.out)) : gb338 ≠ gb321)); have n11_ := Aside0.mk ((by rw [hg]; exact Nat.ne_of_lt (blk_lt (g := gb322) (o := .cells #[.slice A1 l1.length c1] 34 (0, 0)) (by (with_reducible repeat (first | refine blk_drewN ?_ _ | refine blk_drew ?_ | refine blk_alloc ?_ _)); exact BK322.out)) : gb322 ≠ gb338)); have n12_ := Aside0.mk ((by rw [hg]; exact Nat.ne_of_gt (blk_lt (g := gb322) (o := .cells #[.slice A1 l1.length c1] 34 (0, 0)) (by (with_reducible repeat (first | refine blk_drewN ?_ _ | refine blk_drew ?_ | refine blk_alloc ?_ _)); exact BK322.out)) : gb338 ≠ gb322)); clear HO_10; clear HO_11; clear HO_39; clear BK321; clear BK322; clear HB; have HO_10 := n0_; have HO_11 := n1_; have HO_39 := n2_; have BK321 := n3_; have BK322 := n4_; have HB := n5_; have BK338 := n6_; have GW338 := n7_; have GE338 := n8_; have NB321_338 := n9_; have NB338_321 := n10_; have NB322_338 := n11_; have NB338_322 := n12_; clear n0_ n1_ n2_ n3_ n4_ n5_ n6_ n7_ n8_ n9_ n10_ n11_ n12_; clear hb hbox hg; have hnb42 := NB338_321.out; have hnc42 := NB321_338.out; have hnb43 := NB338_322.out; have hnc43 := NB322_338.out; have hcz44_0 : w41.cell? ⟨gb338, 0, none⟩ = some (.int .i64 0) := (blk_cell BK338.out 0).trans rfl; have hfz44_0 := blk_frozen BK338.out 0; obtain ⟨Ao45, co45, eo45⟩ := Kd.R_slice HO_11.out; subst eo45) | ((with_reducible refine gate_callee (f := 82) rfl ?_); refine goesL_ (some 47) rfl rfl Try.func82 (by kernel_rfl) rfl #[.slice Ao45 x11_2.length co45, .func (.func 83) #[] #[.pointer (some ⟨gb321, 0, none⟩), .pointer (some ⟨gb322, 0, none⟩), .pointer (some ⟨gb338, 0, none⟩)]] rfl (by (try simp only [List.map_toArray, List.map_cons, List.map_nil]); first | done | rfl | (simp only [List.length_drop, List.length_take]; rfl)) ?_; (with_reducible refine (f12z.calls _ _ x11_2 gb321 gb322 gb338 A0_0 c0_0 l0_0 A0_1 c0_1 l0_1 A1 c1 l1 (rd t330 x41_2) t339 _ ?side1 ?side2 ?side3 ?side4 ?side5 ?side6 ?side7 ?side8 ?side9 ?side10 ?side11 A31.out).mono ?_); (case side1 => refine (Kd.R_reads' (e := 2) (base := w.heap.size) (ok := fun k_ => some k_ ≠ (v332 : Value).ownBlock) (n := x11_2.length) (c := co45) ?_).2.2; exact (by (with_reducible repeat (first | apply Kd.R_alloc | apply Kd.R_drewN | apply Kd.R_drew)); exact (Kd.R_mono (Kd.R_far (p := ⟨gb338, 0, none⟩) (Kd.R_types HO_11.out BK338.out (by decide)) (fun _ hk => hk.2) (.int .i64 (rd t330 x41_2))) (fun _ h_ => h_.1)))); (case side2 => exact (Kd.R_reads' HO_11.out).2.1); (case side3 => exact Kd.C_below HR0_0.out (by repeat (first | (with_reducible first | exact HB.out | apply below_alloc | apply pw_below_drewN | apply below_drew1 | refine below_set ?_ GE321.out | refine below_set ?_ GE322.out | refine below_set ?_ GE338.out) | exact HB.out))); (case side4 => exact HC0_0.out); (case side5 => exact Kd.C_below HR0_1.out (by repeat (first | (with_reducible first | exact HB.out | apply below_alloc | apply pw_below_drewN | apply below_drew1 | refine below_set ?_ GE321.out | refine below_set ?_ GE322.out | refine below_set ?_ GE338.out) | exact HB.out))); (case side6 => exact HC0_1.out); (case side7 => exact Kd.C_below HR1.out (by repeat (first | (with_reducible first | exact HB.out | apply below_alloc | apply pw_below_drewN | apply below_drew1 | refine below_set ?_ GE321.out | refine below_set ?_ GE322.out | refine below_set ?_ GE338.out) | exact HB.out))); (case side8 => exact HC1.out); (case side9 => (with_reducible repeat (first | refine blk_drewN ?_ _ | refine blk_drew ?_ | refine blk_alloc ?_ _)); refine blk_far ?_ NB321_338.out _; (with_reducible repeat (first | refine blk_drewN ?_ _ | refine blk_drew ?_ | refine blk_alloc ?_ _)); exact BK321.out); (case side10 => (with_reducible repeat (first | refine blk_drewN ?_ _ | refine blk_drew ?_ | refine blk_alloc ?_ _)); refine blk_far ?_ NB322_338.out _; (with_reducible repeat (first | refine blk_drewN ?_ _ | refine blk_drew ?_ | refine blk_alloc ?_ _)); exact BK322.out); (case side11 => (with_reducible repeat (first | refine blk_drewN ?_ _ | refine blk_drew ?_ | refine blk_alloc ?_ _)); refine blk_put (cs := #[.int .i64 0]) ?_ 0 _ rfl; (with_reducible repeat (first | refine blk_drewN ?_ _ | refine blk_drew ?_ | refine blk_alloc ?_ _)); exact BK338.out); rintro e w46 ⟨rfl, hb⟩; refine ⟨_, rfl, ?_⟩; have n0_ := Aside0.mk (Kd.R_below (by (with_reducible repeat (first | apply Kd.R_alloc | apply Kd.R_drewN | apply Kd.R_drew)); exact (Kd.R_mono (Kd.R_far (p := ⟨gb338, 0, none⟩) (Kd.R_types HO_10.out BK338.out (by decide)) (fun _ hk => hk.2) (.int .i64 (rd t330 x41_2))) (fun _ h_ => h_.1))) hb); have n1_ := Aside0.mk (Kd.R_below (by (with_reducible repeat (first | apply Kd.R_alloc | apply Kd.R_drewN | apply Kd.R_drew)); exact (Kd.R_mono (Kd.R_far (p := ⟨gb338, 0, none⟩) (Kd.R_types HO_11.out BK338.out (by decide)) (fun _ hk => hk.2) (.int .i64 (rd t330 x41_2))) (fun _ h_ => h_.1))) hb); have n2_ := Aside0.mk (Kd.R_below (by (with_reducible repeat (first | apply Kd.R_alloc | apply Kd.R_drewN | apply Kd.R_drew)); exact (Kd.R_mono (Kd.R_far (p := ⟨gb338, 0, none⟩) (Kd.R_mono HO_39.out (fun k_ hk => (⟨hk, hk.2⟩ : _ ∧ k_ ≠ gb338))) (fun _ hk => hk.2) (.int .i64 (rd t330 x41_2))) (fun _ h_ => h_.1))) hb); have n3_ := Aside0.mk (blk_below (g := gb321) (o := .cells #[.slice A0_0 l0_0.length c0_0, .slice A0_1 l0_1.length c0_1] 38 (0, 0)) (by (with_reducible repeat (first | refine blk_drewN ?_ _ | refine blk_drew ?_ | refine blk_alloc ?_ _)); refine blk_far ?_ NB321_338.out _; (with_reducible repeat (first | refine blk_drewN ?_ _ | refine blk_drew ?_ | refine blk_alloc ?_ _)); exact BK321.out) hb); have n4_ := Aside0.mk (blk_below (g := gb322) (o := .cells #[.slice A1 l1.length c1] 34 (0, 0)) (by (with_reducible repeat (first | refine blk_drewN ?_ _ | refine blk_drew ?_ | refine blk_alloc ?_ _)); refine blk_far ?_ NB322_338.out _; (with_reducible repeat (first | refine blk_drewN ?_ _ | refine blk_drew ?_ | refine blk_alloc ?_ _)); exact BK322.out) hb); have n5_ := Aside0.mk (blk_below (g := gb338) (o := .cells #[.int .i64 (rd t330 x41_2)] 3 (0, 0)) (by (with_reducible repeat (first | refine blk_drewN ?_ _ | refine blk_drew ?_ | refine blk_alloc ?_ _)); refine blk_put (cs := #[.int .i64 0]) ?_ 0 _ rfl; (with_reducible repeat (first | refine blk_drewN ?_ _ | refine blk_drew ?_ | refine blk_alloc ?_ _)); exact BK338.out) hb); have n6_ := Aside0.mk (below_step (by repeat (first | (with_reducible first | exact HB.out | apply below_alloc | apply pw_below_drewN | apply below_drew1 | refine below_set ?_ GE321.out | refine below_set ?_ GE322.out | refine below_set ?_ GE338.out) | exact HB.out)) hb); clear HO_10; clear HO_11; clear HO_39; clear BK321; clear BK322; clear BK338; clear HB; have HO_10 := n0_; have HO_11 := n1_; have HO_39 := n2_; have BK321 := n3_; have BK322 := n4_; have BK338 := n5_; have HB := n6_; clear n0_ n1_ n2_ n3_ n4_ n5_ n6_; (try clear hb); (try clear hb2); (try clear hk); (try clear hi)) | ((with_reducible refine gate_builtin (b := .append) (xs := #[.tmp 52, .tmp 53]) rfl ?_); at_builtin; refine Kd.R_append (Kd.int .i64) (w0 := w) w.heap.size rfl (.tmp 52) (.tmp 53) 34 2 (.int .i64 0) 8 rfl Try.underlying34 info2 rfl (by decide) (by omega) (.slice Ao45 x11_2.length co45) x11_2 0 [.int .i64 0] (fun k_ => some k_ ≠ (v332 : Value).ownBlock) (fun _ => False) rfl rfl ?aP (fun _ hk => hk.elim) ?aF ?aO ?aB ?aS ?aL ?_; (case aP => exact rfl); (case aB => exact (by repeat (first | (with_reducible first | exact HB.out | apply below_alloc | apply pw_below_drewN | apply below_drew1 | refine below_set ?_ GE321.out | refine below_set ?_ GE322.out | refine below_set ?_ GE338.out) | exact HB.out))); (case aF => exact (fun k_ hk => Kd.fresh' (Kd.R_lt (by (with_reducible repeat (first | apply Kd.R_alloc | apply Kd.R_drewN | apply Kd.R_drew)); exact HO_10.out)) k_ hk)); (case aO => exact (by (with_reducible repeat (first | apply Kd.R_alloc | apply Kd.R_drewN | apply Kd.R_drew)); exact HO_11.out)); (case aS => exact (below_size (by repeat (first | (with_reducible first | exact HB.out | apply below_alloc | apply pw_below_drewN | apply below_drew1 | refine below_set ?_ GE321.out | refine below_set ?_ GE322.out | refine below_set ?_ GE338.out) | exact HB.out)))); (case aL => have := LMc33.out; omega); intro v341 w47 ho hb hg hat; rw [← Ny340.out] at ho; have n0_ := Aside0.mk (Kd.R_after (ok := (fun _ => True)) (by (with_reducible repeat (first | apply Kd.R_alloc | apply Kd.R_drewN | apply Kd.R_drew)); exact Kd.R_mono HO_10.out (fun _ hk => ⟨trivial, hk⟩)) hg hat); have n1_ := Aside0.mk (Kd.R_over' (by (with_reducible repeat (first | apply Kd.R_alloc | apply Kd.R_drewN | apply Kd.R_drew)); exact HO_39.out) (Kd.R_typed (by (with_reducible repeat (first | apply Kd.R_alloc | apply Kd.R_drewN | apply Kd.R_drew)); exact HO_11.out)) (by decide) hg); have n2_ := Aside0.mk (blk_grown (g := gb321) (o := .cells #[.slice A0_0 l0_0.length c0_0, .slice A0_1 l0_1.length c0_1] 38 (0, 0)) (by (with_reducible repeat (first | refine blk_drewN ?_ _ | refine blk_drew ?_ | refine blk_alloc ?_ _)); exact BK321.out) hg (Kd.R_ne HO_11.out BK321.out (by decide))); have n3_ := Aside0.mk (blk_grown (g := gb322) (o := .cells #[.slice A1 l1.length c1] 34 (0, 0)) (by (with_reducible repeat (first | refine blk_drewN ?_ _ | refine blk_drew ?_ | refine blk_alloc ?_ _)); exact BK322.out) hg (Kd.R_ne HO_11.out BK322.out (by decide))); have n4_ := Aside0.mk (blk_grown (g := gb338) (o := .cells #[.int .i64 (rd t330 x41_2)] 3 (0, 0)) (by (with_reducible repeat (first | refine blk_drewN ?_ _ | refine blk_drew ?_ | refine blk_alloc ?_ _)); exact BK338.out) hg (Kd.R_ne HO_11.out BK338.out (by decide))); have n5_ := Aside0.mk (hb); have n6_ := Aside0.mk (ho); clear HO_10; clear HO_39; clear BK321; clear BK322; clear BK338; clear HB; clear HO_11; have HO_10 := n0_; have HO_39 := n1_; have BK321 := n2_; have BK322 := n3_; have BK338 := n4_; have HB := n5_; have HO342 := n6_; clear n0_ n1_ n2_ n3_ n4_ n5_ n6_; clear ho hb hg hat))
                   have n0_ := Aside0.mk (Kd.R_drew HO_10.out)
                   have n1_ := Aside0.mk (Kd.R_drew HO_39.out)
                   have n2_ := Aside0.mk (Kd.R_drew HO342.out)
                   have n3_ := Aside0.mk (blk_drew BK321.out)
                   have n4_ := Aside0.mk (blk_drew BK322.out)
                   have n5_ := Aside0.mk (blk_drew BK338.out)
                   have n6_ := Aside0.mk (below_drew1 HB.out)
                   clear HO_10
                   clear HO_39
                   clear HO342
                   clear BK321
                   clear BK322
                   clear BK338
                   clear HB
                   have HO_10 := n0_
                   have HO_39 := n1_
                   have HO342 := n2_
                   have BK321 := n3_
                   have BK322 := n4_
                   have BK338 := n5_
                   have HB := n6_
                   clear n0_ n1_ n2_ n3_ n4_ n5_ n6_
                   obtain ⟨Ao49, co49, eo49⟩ := Kd.R_slice HO342.out
                   (first | subst eo49 | (injection eo49 with f1_ f2_ f3_; have f4_ := f1_.symm; have f5_ := f3_.symm; clear f1_ f2_ f3_; subst f4_; subst f5_))
                   have p343 : 0 ≤ ((x11_2.length : Int) : Int) := odt_
                   have q343 : (x11_2.length : Int) < (y340.length : Int) := odt_
                   obtain ⟨ad343, e343, hx343_0⟩ := Kd.at_int (Kd.R_reads' HO342.out).2.2 (x11_2.length : Int) p343 q343
                   cases e343
                   (try simp only [Go.IntWalk.toNatUp] at hx343_0)
                   (try simp only [hl39_2] at p343)
                   (try simp only [hl39_2] at q343)
                   (try simp only [hl39_2] at hx343_0)
                   replace p343 := eq_true p343
                   replace q343 := eq_true q343
                   have p344 : 0 ≤ ((rd t330 x41_2) : Int) := odt_
                   have q344 : (rd t330 x41_2) < (l1.length : Int) := odt_
                   obtain ⟨ad344, e344, hx344_0⟩ := Kd.at_int HR1.out (rd t330 x41_2) p344 q344
                   have hw344_0 := hx344_0
                   cases e344
                   replace hx344_0 := (HB.out.cell (World.block_lt_of_cell? w _ hx344_0)).trans hx344_0
                   replace p344 := eq_true p344
                   replace q344 := eq_true q344
                   have p38 : 0 ≤ ((x11_2.length : Int) : Int) := odt_
                   have q38 : ((x11_2.length : Int) : Int) < ((y340.length : Int) : Int) := odt_
                   obtain ⟨go38, co38, eo38, gb38, gl38, cl38, HG38⟩ := Kd.R_form HO342.out (by omega)
                   (first | cases eo38 | (injection eo38 with ea_ en_ ec_; (first | subst ea_ | (injection ea_ with ea_; subst ea_)); subst ec_; clear en_))
                   have GB38 := Aside0.mk gb38
                   have GG38 := Aside0.mk HG38
                   clear gb38 gl38 HG38
                   (first | simp only [add_plain] at hx343_0 | skip)
                   obtain ⟨hx38_0, hf38_0⟩ := Kd.R_celln 0 HO342.out ((x11_2.length : Int) : Int) p38 q38
                   (try simp only [Int.toNat_natCast] at hf38_0)
                   replace p38 := eq_true p38
                   replace q38 := eq_true q38
                   have HP50 := Kd.R_putn HO342.out ((x11_2.length : Int) : Int) (wrap64 ((rd y340 (x11_2.length : Int)) + (rd l1 (rd t330 x41_2))))
                   rw [← Ny345.out] at HP50
                   have HQ50 := Aside0.mk HP50
                   clear HP50
                   refine start_ (n := 11) (S := fun w' => w'.cell? ⟨gb322, 0, none⟩ = some (.slice (some ad344) l1.length c1) ∧ w'.cell? ⟨gb338, 0, none⟩ = some (.int .i64 (rd t330 x41_2)) ∧ w'.cell? ⟨go38, ((x11_2.length : Int)).toNat, none⟩ = some (.int .i64 (rd y340 (x11_2.length : Int))) ∧ w'.cell? (ad344.add ((rd t330 x41_2)).toNat) = some (.int .i64 (rd l1 (rd t330 x41_2)))) (ds := [10]) #[false, false, false, false, false, false, false, false, false, false, false] (by kernel_rfl) rfl rfl ⟨(blk_cell BK322.out 0).trans rfl, (blk_cell BK338.out 0).trans rfl, hx343_0, ((HB.out.cell (World.block_lt_of_cell? w _ hw344_0)).trans hw344_0)⟩ (fun hHeld => ?_); refine with_tabW f0z.tab18 f0z.bits18 (fun HT_ HW_ => ?_)
                   generalize w47.drew = w48 at HO_10 HO_39 HO342 BK321 BK322 BK338 HB GG38 HQ50 hf38_0 hx343_0 hx344_0 hx38_0 hHeld ⊢
                   refine pure_ (i := 0) (N := some 55) (v := ?_) (a' := ?_) #[true, false, false, false, false, false, false, false, false, false, false] rfl rfl (any_of HT_.out (by kernel_rfl)) (fun _ _ _ h => h) (Or.inl ⟨by rfl, ?_⟩) ?_ ?_
                   rotate_left; intro w'; go_simp; with_reducible rfl; rotate_left; simp only [Act.put, sA_, sZ_, sS_, i64_w, i32_w]; rfl
                   refine pure_ (i := 1) (N := some 56) (v := ?_) (a' := ?_) #[true, true, false, false, false, false, false, false, false, false, false] rfl rfl (any_of HT_.out (by kernel_rfl)) (fun _ _ _ h => h) (Or.inl ⟨by rfl, ?_⟩) ?_ ?_
                   rotate_left; intro w'; go_simp; with_reducible rfl; rotate_left; simp only [Act.put, sA_, sZ_, sS_, i64_w, i32_w]; rfl
                   refine pure_ (i := 2) (N := some 57) (v := ?_) (a' := ?_) #[true, true, true, false, false, false, false, false, false, false, false] rfl rfl (any_of HT_.out (by kernel_rfl)) (fun _ _ _ h => h) (Or.inl ⟨by rfl, ?_⟩) ?_ ?_
                   rotate_left; intro w'; go_simp; with_reducible rfl; rotate_left; simp only [Act.put, sA_, sZ_, sS_, i64_w, i32_w]; rfl
                   refine take_ (i := 3) (N := some 58) (v := ?_) (a' := ?_) #[true, true, true, true, false, false, false, false, false, false, false] rfl rfl (take_ofW HT_.out HW_.out (by kernel_rfl)) (fun _ _ _ h => h) (Or.inl ⟨by rfl, ?_⟩) hHeld ?_ ?_
                   rotate_left; rintro w' ⟨s0, s1, s2, s3⟩; (try simp only [Int.toNat_natCast] at s0 s1 s2 s3); go_simp; with_reducible rfl; rotate_left; simp only [Act.put, sA_, sZ_, sS_, i64_w, i32_w]; rfl
                   refine take_ (i := 4) (N := some 59) (v := ?_) (a' := ?_) #[true, true, true, true, true, false, false, false, false, false, false] rfl rfl (take_ofW HT_.out HW_.out (by kernel_rfl)) (fun _ _ _ h => h) (Or.inl ⟨by rfl, ?_⟩) hHeld ?_ ?_
                   rotate_left; rintro w' ⟨s0, s1, s2, s3⟩; (try simp only [Int.toNat_natCast] at s0 s1 s2 s3); go_simp; with_reducible rfl; rotate_left; simp only [Act.put, sA_, sZ_, sS_, i64_w, i32_w]; rfl
                   refine take_ (i := 5) (N := some 60) (v := ?_) (a' := ?_) #[true, true, true, true, true, true, false, false, false, false, false] rfl rfl (take_ofW HT_.out HW_.out (by kernel_rfl)) (fun _ _ _ h => h) (Or.inl ⟨by rfl, ?_⟩) hHeld ?_ ?_
                   rotate_left; rintro w' ⟨s0, s1, s2, s3⟩; (try simp only [Int.toNat_natCast] at s0 s1 s2 s3); go_simp; with_reducible rfl; rotate_left; simp only [Act.put, sA_, sZ_, sS_, i64_w, i32_w]; rfl
                   refine pure_ (i := 6) (N := some 61) (v := ?_) (a' := ?_) #[true, true, true, true, true, true, true, false, false, false, false] rfl rfl (any_of HT_.out (by kernel_rfl)) (fun _ _ _ h => h) (Or.inl ⟨by rfl, ?_⟩) ?_ ?_
                   rotate_left; intro w'; go_simp; with_reducible rfl; rotate_left; simp only [Act.put, sA_, sZ_, sS_, i64_w, i32_w]; rfl
                   refine take_ (i := 7) (N := some 62) (v := ?_) (a' := ?_) #[true, true, true, true, true, true, true, true, false, false, false] rfl rfl (take_ofW HT_.out HW_.out (by kernel_rfl)) (fun _ _ _ h => h) (Or.inl ⟨by rfl, ?_⟩) hHeld ?_ ?_
                   rotate_left; rintro w' ⟨s0, s1, s2, s3⟩; (try simp only [Int.toNat_natCast] at s0 s1 s2 s3); go_simp; with_reducible rfl; rotate_left; simp only [Act.put, sA_, sZ_, sS_, i64_w, i32_w]; rfl
                   refine pure_ (i := 8) (N := some 63) (v := ?_) (a' := ?_) #[true, true, true, true, true, true, true, true, true, false, false] rfl rfl (any_of HT_.out (by kernel_rfl)) (fun _ _ _ h => h) (Or.inl ⟨by rfl, ?_⟩) ?_ ?_
                   rotate_left; intro w'; go_simp; with_reducible rfl; rotate_left; simp only [Act.put, sA_, sZ_, sS_, i64_w, i32_w]; rfl
                   refine pure_ (i := 9) (N := some 64) (v := ?_) (a' := ?_) #[true, true, true, true, true, true, true, true, true, true, false] rfl rfl (any_of HT_.out (by kernel_rfl)) (fun _ _ _ h => h) (Or.inl ⟨by rfl, ?_⟩) ?_ ?_
                   rotate_left; intro w'; go_simp; with_reducible rfl; rotate_left; simp only [Act.put, sA_, sZ_, sS_, i64_w, i32_w]; rfl
                   refine last_ (i := 10) (N := none) #[true, true, true, true, true, true, true, true, true, true, true] rfl rfl (one_of HT_.out (by kernel_rfl)) (by decide) (fun K hK => ?_)
                   refine skip_ (w1 := ?_) (by rfl) rfl ?_ ?_
                   rotate_left
                   ·go_simp
                    rfl
                   refine hK.out _ _ ?_
                   clear hK K
                   refine done_ (done_of HT_.out (by kernel_rfl)) ?_
                   have n0_ : Aside0 (Kd.R (Kd.int .i64) 2 (w48.setCell ⟨go38, x11_2.length, none⟩ (.int .i64 (wrap64 ((rd y340 (x11_2.length : Int)) + (rd l1 (rd t330 x41_2)))))) w.heap.size (fun k_ => some k_ ≠ (.slice (some ⟨go38, 0, none⟩) y340.length co49 : Value).ownBlock) v332 x10_2) := ⟨by (with_reducible repeat (first | apply Kd.R_alloc | apply Kd.R_drewN | apply Kd.R_drew)); exact Kd.R_mono (Kd.R_far (p := ⟨go38, ((x11_2.length : Int) : Int).toNat, none⟩) (Kd.R_mono HO_10.out (fun k_ hk => (⟨hk, fun e_ => hk.2 (by rw [e_]; rfl)⟩ : _ ∧ k_ ≠ go38))) (fun _ hk => hk.2) (.int .i64 (wrap64 ((rd y340 (x11_2.length : Int)) + (rd l1 (rd t330 x41_2)))))) (fun _ hk => hk.1.2)⟩
                   have n1_ : Aside0 (Kd.R (Kd.int .i64) 3 (w48.setCell ⟨go38, x11_2.length, none⟩ (.int .i64 (wrap64 ((rd y340 (x11_2.length : Int)) + (rd l1 (rd t330 x41_2)))))) w.heap.size (fun k_ => k_ ≠ gb338) (.slice (some ad337) t330.length co20) t330) := ⟨by (with_reducible repeat (first | apply Kd.R_alloc | apply Kd.R_drewN | apply Kd.R_drew)); exact Kd.R_mono (Kd.R_far (p := ⟨go38, ((x11_2.length : Int) : Int).toNat, none⟩) (Kd.R_types HO_39.out GG38.out (by decide)) (fun _ hk => hk.2) (.int .i64 (wrap64 ((rd y340 (x11_2.length : Int)) + (rd l1 (rd t330 x41_2)))))) (fun _ hk => hk.1.2)⟩
                   have n2_ : Aside0 (Kd.R (Kd.int .i64) 2 (w48.setCell ⟨go38, x11_2.length, none⟩ (.int .i64 (wrap64 ((rd y340 (x11_2.length : Int)) + (rd l1 (rd t330 x41_2)))))) w.heap.size (fun k_ => some k_ ≠ (v332 : Value).ownBlock) (.slice (some ⟨go38, 0, none⟩) y340.length co49) y345) := ⟨by (with_reducible repeat (first | apply Kd.R_alloc | apply Kd.R_drewN | apply Kd.R_drew)); exact HQ50.out⟩
                   have n3_ : Aside0 ((w48.setCell ⟨go38, x11_2.length, none⟩ (.int .i64 (wrap64 ((rd y340 (x11_2.length : Int)) + (rd l1 (rd t330 x41_2)))))).heap[gb321]? = some (.cells #[.slice A0_0 l0_0.length c0_0, .slice A0_1 l0_1.length c0_1] 38 (0, 0))) := ⟨by (with_reducible repeat (first | refine blk_drewN ?_ _ | refine blk_drew ?_ | refine blk_alloc ?_ _)); refine blk_far ?_ (by have h_ := Kd.R_ne HO342.out BK321.out (by decide); intro e_; exact h_ (by rw [e_]; rfl)) _; (with_reducible repeat (first | refine blk_drewN ?_ _ | refine blk_drew ?_ | refine blk_alloc ?_ _)); exact BK321.out⟩
                   have n4_ : Aside0 ((w48.setCell ⟨go38, x11_2.length, none⟩ (.int .i64 (wrap64 ((rd y340 (x11_2.length : Int)) + (rd l1 (rd t330 x41_2)))))).heap[gb322]? = some (.cells #[.slice (some ad344) l1.length c1] 34 (0, 0))) := ⟨by (with_reducible repeat (first | refine blk_drewN ?_ _ | refine blk_drew ?_ | refine blk_alloc ?_ _)); refine blk_far ?_ (by have h_ := Kd.R_ne HO342.out BK322.out (by decide); intro e_; exact h_ (by rw [e_]; rfl)) _; (with_reducible repeat (first | refine blk_drewN ?_ _ | refine blk_drew ?_ | refine blk_alloc ?_ _)); exact BK322.out⟩
                   have n5_ : Aside0 ((w48.setCell ⟨go38, x11_2.length, none⟩ (.int .i64 (wrap64 ((rd y340 (x11_2.length : Int)) + (rd l1 (rd t330 x41_2)))))).heap[gb338]? = some (.cells #[.int .i64 (rd t330 x41_2)] 3 (0, 0))) := ⟨by (with_reducible repeat (first | refine blk_drewN ?_ _ | refine blk_drew ?_ | refine blk_alloc ?_ _)); refine blk_far ?_ (by have h_ := Kd.R_ne HO342.out BK338.out (by decide); intro e_; exact h_ (by rw [e_]; rfl)) _; (with_reducible repeat (first | refine blk_drewN ?_ _ | refine blk_drew ?_ | refine blk_alloc ?_ _)); exact BK338.out⟩
                   have n6_ : Aside0 (Below w.heap.size w (w48.setCell ⟨go38, x11_2.length, none⟩ (.int .i64 (wrap64 ((rd y340 (x11_2.length : Int)) + (rd l1 (rd t330 x41_2))))))) := ⟨by repeat (first | (with_reducible first | exact HB.out | apply below_alloc | apply pw_below_drewN | apply below_drew1 | refine below_set ?_ GB38.out | refine below_set ?_ GE321.out | refine below_set ?_ GE322.out | refine below_set ?_ GE338.out) | exact HB.out)⟩
                   (try clear HO_10)
                   (try clear HO_39)
                   (try clear HO342)
                   (try clear BK321)
                   (try clear BK322)
                   (try clear BK338)
                   (try clear HB)
                   generalize (w48.setCell ⟨go38, x11_2.length, none⟩ (.int .i64 (wrap64 ((rd y340 (x11_2.length : Int)) + (rd l1 (rd t330 x41_2)))))) = w51 at n0_ n1_ n2_ n3_ n4_ n5_ n6_ ⊢
                   have HO_10 := n0_
                   have HO_39 := n1_
                   have HO342 := n2_
                   have BK321 := n3_
                   have BK322 := n4_
                   have BK338 := n5_
                   have HB := n6_
                   clear n0_ n1_ n2_ n3_ n4_ n5_ n6_
                   have hcz52_0 : w51.cell? ⟨gb338, 0, none⟩ = some (.int .i64 (rd t330 x41_2)) := (blk_cell BK338.out 0).trans rfl
                   have hfz52_0 := blk_frozen BK338.out 0
                   have p40 : 0 ≤ ((rd t330 x41_2) : Int) := odt_
                   have q40 : ((rd t330 x41_2) : Int) < ((x10_2.length : Int) : Int) := odt_
                   obtain ⟨go40, co40, eo40, gb40, gl40, cl40, HG40⟩ := Kd.R_form HO_10.out (by omega)
                   (first | cases eo40 | (injection eo40 with ea_ en_ ec_; (first | subst ea_ | (injection ea_ with ea_; subst ea_)); subst ec_; clear en_))
                   have GB40 := Aside0.mk gb40
                   have GG40 := Aside0.mk HG40
                   clear gb40 gl40 HG40
                   obtain ⟨hx40_0, hf40_0⟩ := Kd.R_celln 0 HO_10.out ((rd t330 x41_2) : Int) p40 q40
                   replace p40 := eq_true p40
                   replace q40 := eq_true q40
                   obtain ⟨hy53_, hz53_⟩ := Kd.R_celln 0 HO_10.out ((rd t330 x41_2) : Int) odt_ odt_
                   have HP53 := Kd.R_putg HO_10.out ((rd t330 x41_2) : Int) (x11_2.length : Int)
                   try go_wp2_with (first | ((with_reducible refine gate_store (t := 2) (p := 68) rfl ?_); refine store_event (t := 2) (p := 68) (v := ?vo_w54) (w1 := (w51.setCell ⟨go40, ((rd t330 x41_2) : Int).toNat, none⟩ (.int .i64 (x11_2.length : Int)))) ?hg ?ho ?hn ?hr ?_; (case ho => rfl); (case hg => rfl); (case hn => rfl); (case hr => first | (go_simp; done) | (go_simp; rfl)); intro w54 hw; have hg : w51.grownBy w54 (some go40) := (by rw [hw]; exact HP53.2); have hp_ : Kd.R (Kd.int .i64) 2 w54 w.heap.size (fun k_ => some k_ ≠ (.slice (some ⟨go38, 0, none⟩) y340.length co49 : Value).ownBlock) (.slice (some ⟨go40, 0, none⟩) x10_2.length co40) y346 := (by rw [hw, Ny346.out]; exact HP53.1); clear HP53; have n0_ := Aside0.mk (hp_); have n1_ := Aside0.mk (Kd.R_over' (v := (.slice (some ⟨go40, 0, none⟩) x10_2.length co40)) (by (with_reducible repeat (first | apply Kd.R_alloc | apply Kd.R_drewN | apply Kd.R_drew)); exact HO_39.out) (Kd.R_typed HO_10.out) (by decide) hg); have n2_ := Aside0.mk (blk_grown (g := gb321) (o := .cells #[.slice A0_0 l0_0.length c0_0, .slice A0_1 l0_1.length c0_1] 38 (0, 0)) (by (with_reducible repeat (first | refine blk_drewN ?_ _ | refine blk_drew ?_ | refine blk_alloc ?_ _)); exact BK321.out) hg (Kd.R_ne HO_10.out BK321.out (by decide))); have n3_ := Aside0.mk (blk_grown (g := gb322) (o := .cells #[.slice (some ad344) l1.length c1] 34 (0, 0)) (by (with_reducible repeat (first | refine blk_drewN ?_ _ | refine blk_drew ?_ | refine blk_alloc ?_ _)); exact BK322.out) hg (Kd.R_ne HO_10.out BK322.out (by decide))); have n4_ := Aside0.mk (blk_grown (g := gb338) (o := .cells #[.int .i64 (rd t330 x41_2)] 3 (0, 0)) (by (with_reducible repeat (first | refine blk_drewN ?_ _ | refine blk_drew ?_ | refine blk_alloc ?_ _)); exact BK338.out) hg (Kd.R_ne HO_10.out BK338.out (by decide))); have n5_ := Aside0.mk (Kd.R_after (v := (.slice (some ⟨go40, 0, none⟩) x10_2.length co40)) (v1 := (.slice (some ⟨go40, 0, none⟩) x10_2.length co40)) (ok := (fun _ => True)) (by (with_reducible repeat (first | apply Kd.R_alloc | apply Kd.R_drewN | apply Kd.R_drew)); exact Kd.R_mono HO342.out (fun _ hk => ⟨trivial, hk⟩)) hg (.inl rfl)); have n6_ := Aside0.mk ((by rw [hw]; exact below_set (HB.out) GB40.out : Below w.heap.size w w54)); clear HO_10; clear HO_39; clear BK321; clear BK322; clear BK338; clear HO342; clear HB; have HO_10 := n0_; have HO_39 := n1_; have BK321 := n2_; have BK322 := n3_; have BK338 := n4_; have HO342 := n5_; have HB := n6_; clear n0_ n1_ n2_ n3_ n4_ n5_ n6_; clear hg hw hp_))
                   (try simp only [← hl39_2])
                   go_roundg k2
                   case measure => have := HK1.out; have := HK2.out; omega
                   case rel => exact ⟨(y346), (y345), (wrap64 (x41_2 + 1)), (by first | rfl | (simp; done) | (simp [*]; done)), H', ⟨by have := HK1.out; have := HK2.out; omega⟩, ⟨by (try simp only [hl39_2]); (with_reducible repeat (first | apply Kd.R_alloc | apply Kd.R_drewN | apply Kd.R_drew)); exact HO_10.out⟩, ⟨by (try simp only [hl39_2]); (with_reducible repeat (first | apply Kd.R_alloc | apply Kd.R_drewN | apply Kd.R_drew)); exact Kd.R_mono HO342.out (fun _ hk => hk.2)⟩, ⟨by (try simp only [hl39_2]); (with_reducible repeat (first | apply Kd.R_alloc | apply Kd.R_drewN | apply Kd.R_drew)); exact Kd.R_mono HO_39.out (fun _ hk => trivial)⟩, ⟨by (try simp only [hl39_2]); (with_reducible repeat (first | refine blk_drewN ?_ _ | refine blk_drew ?_ | refine blk_alloc ?_ _)); exact BK321.out⟩, ⟨by (try simp only [hl39_2]); (with_reducible repeat (first | refine blk_drewN ?_ _ | refine blk_drew ?_ | refine blk_alloc ?_ _)); exact BK322.out⟩, ⟨by repeat (first | (with_reducible first | exact HB.out | apply below_alloc | apply pw_below_drewN | apply below_drew1 | refine below_set ?_ GE321.out | refine below_set ?_ GE322.out | refine below_set ?_ GE338.out) | exact HB.out)⟩⟩
                  ·rw [if_neg c39] at H
                   exact absurd H (by simp)
                 ·rw [if_neg c37] at H
                  exact absurd H (by simp)
                ·rw [if_neg c36] at H
                 exact absurd H (by simp)
               ·rw [if_neg c35] at H
                exact absurd H (by simp)
              ·rw [if_neg c34] at H
               exact absurd H (by simp)
             ·rw [if_neg c33] at H
              exact absurd H (by simp)
            ·rw [if_neg c32] at H
             have c32b0 : decide (t339 < 0) = false := decide_eq_false c32
             (try simp only [hl39_2] at c32b0)
             clear c32
             by_cases c55 : 0 ≤ t339
             ·rw [if_pos c55] at H
              have c55b0 : decide (0 ≤ t339) = true := decide_eq_true c55
              clear c55
              by_cases c56 : t339 < (x11_2.length : Int)
              ·rw [if_pos c56] at H
               have c56b0 : decide (t339 < (x11_2.length : Int)) = true := decide_eq_true c56
               clear c56
               by_cases c57 : 0 ≤ (rd t330 x41_2)
               ·rw [if_pos c57] at H
                have c57b0 : decide (0 ≤ (rd t330 x41_2)) = true := decide_eq_true c57
                clear c57
                by_cases c58 : (rd t330 x41_2) < (l1.length : Int)
                ·rw [if_pos c58] at H
                 have c58b0 : decide ((rd t330 x41_2) < (l1.length : Int)) = true := decide_eq_true c58
                 clear c58
                 obtain ⟨y349, hy349⟩ : ∃ y_ : List Int, y_ = (x11_2.set (t339 : Int).toNat (wrap64 ((rd x11_2 t339) + (rd l1 (rd t330 x41_2))))) := ⟨_, rfl⟩
                 replace H : (if (rd t330 x41_2) < (x10_2.length : Int) then (f0z.l1 k2 (x10_2.set ((rd t330 x41_2) : Int).toNat t339) y349 t330 (x8_1.length : Int) (wrap64 (x41_2 + 1)) l0_0 l0_1 l1) else (none)) = some (r1, r2, r3) := by first | (rw [hy349]; with_reducible exact H) | (have H2_ := (Option.bind_some _ _).symm.trans H; rw [hy349]; with_reducible exact H2_) | (have H2_ := (Option.bind_some _ _).symm.trans H; with_reducible exact H2_) | with_reducible exact H | (rw [hy349]; exact H) | exact H
                 have Ny349 := Aside0.mk hy349
                 clear hy349
                 by_cases c60 : (rd t330 x41_2) < (x10_2.length : Int)
                 ·rw [if_pos c60] at H
                  have c60b0 : decide ((rd t330 x41_2) < (x10_2.length : Int)) = true := decide_eq_true c60
                  clear c60
                  obtain ⟨y350, hy350⟩ : ∃ y_ : List Int, y_ = (x10_2.set ((rd t330 x41_2) : Int).toNat t339) := ⟨_, rfl⟩
                  replace H : (f0z.l1 k2 y350 y349 t330 (x8_1.length : Int) (wrap64 (x41_2 + 1)) l0_0 l0_1 l1) = some (r1, r2, r3) := by first | (rw [hy350]; with_reducible exact H) | (have H2_ := (Option.bind_some _ _).symm.trans H; rw [hy350]; with_reducible exact H2_) | (have H2_ := (Option.bind_some _ _).symm.trans H; with_reducible exact H2_) | with_reducible exact H | (rw [hy350]; exact H) | exact H
                  have Ny350 := Aside0.mk hy350
                  clear hy350
                  have H' := Aside0.mk H
                  clear H
                  have p337 : 0 ≤ (x41_2 : Int) := odt_
                  have q337 : x41_2 < (t330.length : Int) := odt_
                  obtain ⟨ad337, e337, hx337_0⟩ := Kd.at_int (Kd.R_reads' HO_39.out).2.2 x41_2 p337 q337
                  cases e337
                  replace p337 := eq_true p337
                  replace q337 := eq_true q337
                  try go_wp2_with (first | ((with_reducible refine gate_dst (N := 13) rfl ?_); refine box_event ?hg (N := 13) ?hd (cs := #[.int .i64 0]) (t := 3) ?hr ?_; (case hd => rfl); (case hg => rfl); (case hr => first | (go_simp; done) | (go_simp; rfl)); intro gb338 hg w62 hbox hb; have n0_ := Aside0.mk (Kd.R_below (by (with_reducible repeat (first | apply Kd.R_alloc | apply Kd.R_drewN | apply Kd.R_drew)); exact HO_10.out) hb); have n1_ := Aside0.mk (Kd.R_below (by (with_reducible repeat (first | apply Kd.R_alloc | apply Kd.R_drewN | apply Kd.R_drew)); exact HO_11.out) hb); have n2_ := Aside0.mk (Kd.R_below (Kd.R_elderB (by (with_reducible repeat (first | apply Kd.R_alloc | apply Kd.R_drewN | apply Kd.R_drew)); exact HO_39.out) gb338 (Nat.le_of_eq hg.symm)) hb); have n3_ := Aside0.mk (blk_below (g := gb321) (o := .cells #[.slice A0_0 l0_0.length c0_0, .slice A0_1 l0_1.length c0_1] 38 (0, 0)) (by (with_reducible repeat (first | refine blk_drewN ?_ _ | refine blk_drew ?_ | refine blk_alloc ?_ _)); exact BK321.out) hb); have n4_ := Aside0.mk (blk_below (g := gb322) (o := .cells #[.slice A1 l1.length c1] 34 (0, 0)) (by (with_reducible repeat (first | refine blk_drewN ?_ _ | refine blk_drew ?_ | refine blk_alloc ?_ _)); exact BK322.out) hb); have n5_ := Aside0.mk (below_step (by repeat (first | (with_reducible first | exact HB.out | apply below_alloc | apply pw_below_drewN | apply below_drew1 | refine below_set ?_ GE321.out | refine below_set ?_ GE322.out) | exact HB.out)) hb); have n6_ := Aside0.mk (hbox); have n7_ := Aside0.mk ((by rw [hg]; exact (below_size (by repeat (first | (with_reducible first | exact HB.out | apply below_alloc | apply pw_below_drewN | apply below_drew1 | refine below_set ?_ GE321.out | refine below_set ?_ GE322.out) | exact HB.out))) : w.heap.size ≤ gb338)); have n8_ := Aside0.mk ((by rw [hg]; exact (below_size (by repeat (first | (with_reducible first | exact HB.out | apply below_alloc | apply pw_below_drewN | apply below_drew1 | refine below_set ?_ GE321.out | refine below_set ?_ GE322.out) | exact HB.out))) : w.heap.size ≤ gb338)); have n9_ := Aside0.mk ((by rw [hg]; exact Nat.ne_of_lt (blk_lt (g := gb321) (o := .cells #[.slice A0_0 l0_0.length c0_0, .slice A0_1 l0_1.length c0_1] 38 (0, 0)) (by (with_reducible repeat (first | refine blk_drewN ?_ _ | refine blk_drew ?_ | refine blk_alloc ?_ _)); exact BK321.out)) : gb321 ≠ gb338)); have n10_ := Aside0.mk ((by rw [hg]; exact Nat.ne_of_gt (blk_lt (g := gb321) (o := .cells #[.slice A0_0 l0_0.length c0_0, .slice A0_1 l0_1.length c0_1] 38 (0, 0)) (by (with_reducible repeat (first | refine blk_drewN ?_ _ | refine blk_drew ?_ | refine blk_alloc ?_ _)); exact BK321.out)) : gb338 ≠ gb321)); have n11_ := Aside0.mk ((by rw [hg]; exact Nat.ne_of_lt (blk_lt (g := gb322) (o := .cells #[.slice A1 l1.length c1] 34 (0, 0)) (by (with_reducible repeat (first | refine blk_drewN ?_ _ | refine blk_drew ?_ | refine blk_alloc ?_ _)); exact BK322.out)) : gb322 ≠ gb338)); have n12_ := Aside0.mk ((by rw [hg]; exact Nat.ne_of_gt (blk_lt (g := gb322) (o := .cells #[.slice A1 l1.length c1] 34 (0, 0)) (by (with_reducible repeat (first | refine blk_drewN ?_ _ | refine blk_drew ?_ | refine blk_alloc ?_ _)); exact BK322.out)) : gb338 ≠ gb322)); clear HO_10; clear HO_11; clear HO_39; clear BK321; clear BK322; clear HB; have HO_10 := n0_; have HO_11 := n1_; have HO_39 := n2_; have BK321 := n3_; have BK322 := n4_; have HB := n5_; have BK338 := n6_; have GW338 := n7_; have GE338 := n8_; have NB321_338 := n9_; have NB338_321 := n10_; have NB322_338 := n11_; have NB338_322 := n12_; clear n0_ n1_ n2_ n3_ n4_ n5_ n6_ n7_ n8_ n9_ n10_ n11_ n12_; clear hb hbox hg; have hnb63 := NB338_321.out; have hnc63 := NB321_338.out; have hnb64 := NB338_322.out; have hnc64 := NB322_338.out; have hcz65_0 : w62.cell? ⟨gb338, 0, none⟩ = some (.int .i64 0) := (blk_cell BK338.out 0).trans rfl; have hfz65_0 := blk_frozen BK338.out 0; obtain ⟨Ao66, co66, eo66⟩ := Kd.R_slice HO_11.out; subst eo66) | ((with_reducible refine gate_callee (f := 82) rfl ?_); refine goesL_ (some 47) rfl rfl Try.func82 (by kernel_rfl) rfl #[.slice Ao66 x11_2.length co66, .func (.func 83) #[] #[.pointer (some ⟨gb321, 0, none⟩), .pointer (some ⟨gb322, 0, none⟩), .pointer (some ⟨gb338, 0, none⟩)]] rfl (by (try simp only [List.map_toArray, List.map_cons, List.map_nil]); first | done | rfl | (simp only [List.length_drop, List.length_take]; rfl)) ?_; (with_reducible refine (f12z.calls _ _ x11_2 gb321 gb322 gb338 A0_0 c0_0 l0_0 A0_1 c0_1 l0_1 A1 c1 l1 (rd t330 x41_2) t339 _ ?side1 ?side2 ?side3 ?side4 ?side5 ?side6 ?side7 ?side8 ?side9 ?side10 ?side11 A31.out).mono ?_); (case side1 => refine (Kd.R_reads' (e := 2) (base := w.heap.size) (ok := fun k_ => some k_ ≠ (v332 : Value).ownBlock) (n := x11_2.length) (c := co66) ?_).2.2; exact (by (with_reducible repeat (first | apply Kd.R_alloc | apply Kd.R_drewN | apply Kd.R_drew)); exact (Kd.R_mono (Kd.R_far (p := ⟨gb338, 0, none⟩) (Kd.R_types HO_11.out BK338.out (by decide)) (fun _ hk => hk.2) (.int .i64 (rd t330 x41_2))) (fun _ h_ => h_.1)))); (case side2 => exact (Kd.R_reads' HO_11.out).2.1); (case side3 => exact Kd.C_below HR0_0.out (by repeat (first | (with_reducible first | exact HB.out | apply below_alloc | apply pw_below_drewN | apply below_drew1 | refine below_set ?_ GE321.out | refine below_set ?_ GE322.out | refine below_set ?_ GE338.out) | exact HB.out))); (case side4 => exact HC0_0.out); (case side5 => exact Kd.C_below HR0_1.out (by repeat (first | (with_reducible first | exact HB.out | apply below_alloc | apply pw_below_drewN | apply below_drew1 | refine below_set ?_ GE321.out | refine below_set ?_ GE322.out | refine below_set ?_ GE338.out) | exact HB.out))); (case side6 => exact HC0_1.out); (case side7 => exact Kd.C_below HR1.out (by repeat (first | (with_reducible first | exact HB.out | apply below_alloc | apply pw_below_drewN | apply below_drew1 | refine below_set ?_ GE321.out | refine below_set ?_ GE322.out | refine below_set ?_ GE338.out) | exact HB.out))); (case side8 => exact HC1.out); (case side9 => (with_reducible repeat (first | refine blk_drewN ?_ _ | refine blk_drew ?_ | refine blk_alloc ?_ _)); refine blk_far ?_ NB321_338.out _; (with_reducible repeat (first | refine blk_drewN ?_ _ | refine blk_drew ?_ | refine blk_alloc ?_ _)); exact BK321.out); (case side10 => (with_reducible repeat (first | refine blk_drewN ?_ _ | refine blk_drew ?_ | refine blk_alloc ?_ _)); refine blk_far ?_ NB322_338.out _; (with_reducible repeat (first | refine blk_drewN ?_ _ | refine blk_drew ?_ | refine blk_alloc ?_ _)); exact BK322.out); (case side11 => (with_reducible repeat (first | refine blk_drewN ?_ _ | refine blk_drew ?_ | refine blk_alloc ?_ _)); refine blk_put (cs := #[.int .i64 0]) ?_ 0 _ rfl; (with_reducible repeat (first | refine blk_drewN ?_ _ | refine blk_drew ?_ | refine blk_alloc ?_ _)); exact BK338.out); rintro e w67 ⟨rfl, hb⟩; refine ⟨_, rfl, ?_⟩; have n0_ := Aside0.mk (Kd.R_below (by (with_reducible repeat (first | apply Kd.R_alloc | apply Kd.R_drewN | apply Kd.R_drew)); exact (Kd.R_mono (Kd.R_far (p := ⟨gb338, 0, none⟩) (Kd.R_types HO_10.out BK338.out (by decide)) (fun _ hk => hk.2) (.int .i64 (rd t330 x41_2))) (fun _ h_ => h_.1))) hb); have n1_ := Aside0.mk (Kd.R_below (by (with_reducible repeat (first | apply Kd.R_alloc | apply Kd.R_drewN | apply Kd.R_drew)); exact (Kd.R_mono (Kd.R_far (p := ⟨gb338, 0, none⟩) (Kd.R_types HO_11.out BK338.out (by decide)) (fun _ hk => hk.2) (.int .i64 (rd t330 x41_2))) (fun _ h_ => h_.1))) hb); have n2_ := Aside0.mk (Kd.R_below (by (with_reducible repeat (first | apply Kd.R_alloc | apply Kd.R_drewN | apply Kd.R_drew)); exact (Kd.R_mono (Kd.R_far (p := ⟨gb338, 0, none⟩) (Kd.R_mono HO_39.out (fun k_ hk => (⟨hk, hk.2⟩ : _ ∧ k_ ≠ gb338))) (fun _ hk => hk.2) (.int .i64 (rd t330 x41_2))) (fun _ h_ => h_.1))) hb); have n3_ := Aside0.mk (blk_below (g := gb321) (o := .cells #[.slice A0_0 l0_0.length c0_0, .slice A0_1 l0_1.length c0_1] 38 (0, 0)) (by (with_reducible repeat (first | refine blk_drewN ?_ _ | refine blk_drew ?_ | refine blk_alloc ?_ _)); refine blk_far ?_ NB321_338.out _; (with_reducible repeat (first | refine blk_drewN ?_ _ | refine blk_drew ?_ | refine blk_alloc ?_ _)); exact BK321.out) hb); have n4_ := Aside0.mk (blk_below (g := gb322) (o := .cells #[.slice A1 l1.length c1] 34 (0, 0)) (by (with_reducible repeat (first | refine blk_drewN ?_ _ | refine blk_drew ?_ | refine blk_alloc ?_ _)); refine blk_far ?_ NB322_338.out _; (with_reducible repeat (first | refine blk_drewN ?_ _ | refine blk_drew ?_ | refine blk_alloc ?_ _)); exact BK322.out) hb); have n5_ := Aside0.mk (blk_below (g := gb338) (o := .cells #[.int .i64 (rd t330 x41_2)] 3 (0, 0)) (by (with_reducible repeat (first | refine blk_drewN ?_ _ | refine blk_drew ?_ | refine blk_alloc ?_ _)); refine blk_put (cs := #[.int .i64 0]) ?_ 0 _ rfl; (with_reducible repeat (first | refine blk_drewN ?_ _ | refine blk_drew ?_ | refine blk_alloc ?_ _)); exact BK338.out) hb); have n6_ := Aside0.mk (below_step (by repeat (first | (with_reducible first | exact HB.out | apply below_alloc | apply pw_below_drewN | apply below_drew1 | refine below_set ?_ GE321.out | refine below_set ?_ GE322.out | refine below_set ?_ GE338.out) | exact HB.out)) hb); clear HO_10; clear HO_11; clear HO_39; clear BK321; clear BK322; clear BK338; clear HB; have HO_10 := n0_; have HO_11 := n1_; have HO_39 := n2_; have BK321 := n3_; have BK322 := n4_; have BK338 := n5_; have HB := n6_; clear n0_ n1_ n2_ n3_ n4_ n5_ n6_; (try clear hb); (try clear hb2); (try clear hk); (try clear hi)))
                  have n0_ := Aside0.mk (Kd.R_drew HO_10.out)
                  have n1_ := Aside0.mk (Kd.R_drew HO_11.out)
                  have n2_ := Aside0.mk (Kd.R_drew HO_39.out)
                  have n3_ := Aside0.mk (blk_drew BK321.out)
                  have n4_ := Aside0.mk (blk_drew BK322.out)
                  have n5_ := Aside0.mk (blk_drew BK338.out)
                  have n6_ := Aside0.mk (below_drew1 HB.out)
                  clear HO_10
                  clear HO_11
                  clear HO_39
                  clear BK321
                  clear BK322
                  clear BK338
                  clear HB
                  have HO_10 := n0_
                  have HO_11 := n1_
                  have HO_39 := n2_
                  have BK321 := n3_
                  have BK322 := n4_
                  have BK338 := n5_
                  have HB := n6_
                  clear n0_ n1_ n2_ n3_ n4_ n5_ n6_
                  have p347 : 0 ≤ (t339 : Int) := odt_
                  have q347 : t339 < (x11_2.length : Int) := odt_
                  obtain ⟨ad347, e347, hx347_0⟩ := Kd.at_int (Kd.R_reads' HO_11.out).2.2 t339 p347 q347
                  cases e347
                  replace p347 := eq_true p347
                  replace q347 := eq_true q347
                  have p348 : 0 ≤ ((rd t330 x41_2) : Int) := odt_
                  have q348 : (rd t330 x41_2) < (l1.length : Int) := odt_
                  obtain ⟨ad348, e348, hx348_0⟩ := Kd.at_int HR1.out (rd t330 x41_2) p348 q348
                  have hw348_0 := hx348_0
                  cases e348
                  replace hx348_0 := (HB.out.cell (World.block_lt_of_cell? w _ hx348_0)).trans hx348_0
                  replace p348 := eq_true p348
                  replace q348 := eq_true q348
                  have p59 : 0 ≤ (t339 : Int) := odt_
                  have q59 : (t339 : Int) < ((x11_2.length : Int) : Int) := odt_
                  obtain ⟨go59, co59, eo59, gb59, gl59, cl59, HG59⟩ := Kd.R_form HO_11.out (by omega)
                  (first | cases eo59 | (injection eo59 with ea_ en_ ec_; (first | subst ea_ | (injection ea_ with ea_; subst ea_)); subst ec_; clear en_))
                  have GB59 := Aside0.mk gb59
                  have GG59 := Aside0.mk HG59
                  clear gb59 gl59 HG59
                  (first | simp only [add_plain] at hx347_0 | skip)
                  obtain ⟨hx59_0, hf59_0⟩ := Kd.R_celln 0 HO_11.out (t339 : Int) p59 q59
                  replace p59 := eq_true p59
                  replace q59 := eq_true q59
                  have HP69 := Kd.R_putn HO_11.out (t339 : Int) (wrap64 ((rd x11_2 t339) + (rd l1 (rd t330 x41_2))))
                  rw [← Ny349.out] at HP69
                  have HQ69 := Aside0.mk HP69
                  clear HP69
                  refine start_ (n := 11) (S := fun w' => w'.cell? ⟨gb322, 0, none⟩ = some (.slice (some ad348) l1.length c1) ∧ w'.cell? ⟨gb338, 0, none⟩ = some (.int .i64 (rd t330 x41_2)) ∧ w'.cell? ⟨go59, (t339).toNat, none⟩ = some (.int .i64 (rd x11_2 t339)) ∧ w'.cell? (ad348.add ((rd t330 x41_2)).toNat) = some (.int .i64 (rd l1 (rd t330 x41_2)))) (ds := [10]) #[false, false, false, false, false, false, false, false, false, false, false] (by kernel_rfl) rfl rfl ⟨(blk_cell BK322.out 0).trans rfl, (blk_cell BK338.out 0).trans rfl, hx347_0, ((HB.out.cell (World.block_lt_of_cell? w _ hw348_0)).trans hw348_0)⟩ (fun hHeld => ?_); refine with_tabW f0z.tab18 f0z.bits18 (fun HT_ HW_ => ?_)
                  generalize w67.drew = w68 at HO_10 HO_11 HO_39 BK321 BK322 BK338 HB GG59 HQ69 hf59_0 hx347_0 hx348_0 hx59_0 hHeld ⊢
                  refine pure_ (i := 0) (N := some 55) (v := ?_) (a' := ?_) #[true, false, false, false, false, false, false, false, false, false, false] rfl rfl (any_of HT_.out (by kernel_rfl)) (fun _ _ _ h => h) (Or.inl ⟨by rfl, ?_⟩) ?_ ?_
                  rotate_left; intro w'; go_simp; with_reducible rfl; rotate_left; simp only [Act.put, sA_, sZ_, sS_, i64_w, i32_w]; rfl
                  refine pure_ (i := 1) (N := some 56) (v := ?_) (a' := ?_) #[true, true, false, false, false, false, false, false, false, false, false] rfl rfl (any_of HT_.out (by kernel_rfl)) (fun _ _ _ h => h) (Or.inl ⟨by rfl, ?_⟩) ?_ ?_
                  rotate_left; intro w'; go_simp; with_reducible rfl; rotate_left; simp only [Act.put, sA_, sZ_, sS_, i64_w, i32_w]; rfl
                  refine pure_ (i := 2) (N := some 57) (v := ?_) (a' := ?_) #[true, true, true, false, false, false, false, false, false, false, false] rfl rfl (any_of HT_.out (by kernel_rfl)) (fun _ _ _ h => h) (Or.inl ⟨by rfl, ?_⟩) ?_ ?_
                  rotate_left; intro w'; go_simp; with_reducible rfl; rotate_left; simp only [Act.put, sA_, sZ_, sS_, i64_w, i32_w]; rfl
                  refine take_ (i := 3) (N := some 58) (v := ?_) (a' := ?_) #[true, true, true, true, false, false, false, false, false, false, false] rfl rfl (take_ofW HT_.out HW_.out (by kernel_rfl)) (fun _ _ _ h => h) (Or.inl ⟨by rfl, ?_⟩) hHeld ?_ ?_
                  rotate_left; rintro w' ⟨s0, s1, s2, s3⟩; (try simp only [Int.toNat_natCast] at s0 s1 s2 s3); go_simp; with_reducible rfl; rotate_left; simp only [Act.put, sA_, sZ_, sS_, i64_w, i32_w]; rfl
                  refine take_ (i := 4) (N := some 59) (v := ?_) (a' := ?_) #[true, true, true, true, true, false, false, false, false, false, false] rfl rfl (take_ofW HT_.out HW_.out (by kernel_rfl)) (fun _ _ _ h => h) (Or.inl ⟨by rfl, ?_⟩) hHeld ?_ ?_
                  rotate_left; rintro w' ⟨s0, s1, s2, s3⟩; (try simp only [Int.toNat_natCast] at s0 s1 s2 s3); go_simp; with_reducible rfl; rotate_left; simp only [Act.put, sA_, sZ_, sS_, i64_w, i32_w]; rfl
                  refine take_ (i := 5) (N := some 60) (v := ?_) (a' := ?_) #[true, true, true, true, true, true, false, false, false, false, false] rfl rfl (take_ofW HT_.out HW_.out (by kernel_rfl)) (fun _ _ _ h => h) (Or.inl ⟨by rfl, ?_⟩) hHeld ?_ ?_
                  rotate_left; rintro w' ⟨s0, s1, s2, s3⟩; (try simp only [Int.toNat_natCast] at s0 s1 s2 s3); go_simp; with_reducible rfl; rotate_left; simp only [Act.put, sA_, sZ_, sS_, i64_w, i32_w]; rfl
                  refine pure_ (i := 6) (N := some 61) (v := ?_) (a' := ?_) #[true, true, true, true, true, true, true, false, false, false, false] rfl rfl (any_of HT_.out (by kernel_rfl)) (fun _ _ _ h => h) (Or.inl ⟨by rfl, ?_⟩) ?_ ?_
                  rotate_left; intro w'; go_simp; with_reducible rfl; rotate_left; simp only [Act.put, sA_, sZ_, sS_, i64_w, i32_w]; rfl
                  refine take_ (i := 7) (N := some 62) (v := ?_) (a' := ?_) #[true, true, true, true, true, true, true, true, false, false, false] rfl rfl (take_ofW HT_.out HW_.out (by kernel_rfl)) (fun _ _ _ h => h) (Or.inl ⟨by rfl, ?_⟩) hHeld ?_ ?_
                  rotate_left; rintro w' ⟨s0, s1, s2, s3⟩; (try simp only [Int.toNat_natCast] at s0 s1 s2 s3); go_simp; with_reducible rfl; rotate_left; simp only [Act.put, sA_, sZ_, sS_, i64_w, i32_w]; rfl
                  refine pure_ (i := 8) (N := some 63) (v := ?_) (a' := ?_) #[true, true, true, true, true, true, true, true, true, false, false] rfl rfl (any_of HT_.out (by kernel_rfl)) (fun _ _ _ h => h) (Or.inl ⟨by rfl, ?_⟩) ?_ ?_
                  rotate_left; intro w'; go_simp; with_reducible rfl; rotate_left; simp only [Act.put, sA_, sZ_, sS_, i64_w, i32_w]; rfl
                  refine pure_ (i := 9) (N := some 64) (v := ?_) (a' := ?_) #[true, true, true, true, true, true, true, true, true, true, false] rfl rfl (any_of HT_.out (by kernel_rfl)) (fun _ _ _ h => h) (Or.inl ⟨by rfl, ?_⟩) ?_ ?_
                  rotate_left; intro w'; go_simp; with_reducible rfl; rotate_left; simp only [Act.put, sA_, sZ_, sS_, i64_w, i32_w]; rfl
                  refine last_ (i := 10) (N := none) #[true, true, true, true, true, true, true, true, true, true, true] rfl rfl (one_of HT_.out (by kernel_rfl)) (by decide) (fun K hK => ?_)
                  refine skip_ (w1 := ?_) (by rfl) rfl ?_ ?_
                  rotate_left
                  ·go_simp
                   rfl
                  refine hK.out _ _ ?_
                  clear hK K
                  refine done_ (done_of HT_.out (by kernel_rfl)) ?_
                  have n0_ : Aside0 (Kd.R (Kd.int .i64) 2 (w68.setCell ⟨go59, (t339 : Int).toNat, none⟩ (.int .i64 (wrap64 ((rd x11_2 t339) + (rd l1 (rd t330 x41_2)))))) w.heap.size (fun k_ => some k_ ≠ (.slice (some ⟨go59, 0, none⟩) x11_2.length co66 : Value).ownBlock) v332 x10_2) := ⟨by (with_reducible repeat (first | apply Kd.R_alloc | apply Kd.R_drewN | apply Kd.R_drew)); exact Kd.R_mono (Kd.R_far (p := ⟨go59, (t339 : Int).toNat, none⟩) (Kd.R_mono HO_10.out (fun k_ hk => (⟨hk, fun e_ => hk (by rw [e_]; rfl)⟩ : _ ∧ k_ ≠ go59))) (fun _ hk => hk.2) (.int .i64 (wrap64 ((rd x11_2 t339) + (rd l1 (rd t330 x41_2)))))) (fun _ hk => hk.1)⟩
                  have n1_ : Aside0 (Kd.R (Kd.int .i64) 2 (w68.setCell ⟨go59, (t339 : Int).toNat, none⟩ (.int .i64 (wrap64 ((rd x11_2 t339) + (rd l1 (rd t330 x41_2)))))) w.heap.size (fun k_ => some k_ ≠ (v332 : Value).ownBlock) (.slice (some ⟨go59, 0, none⟩) x11_2.length co66) y349) := ⟨by (with_reducible repeat (first | apply Kd.R_alloc | apply Kd.R_drewN | apply Kd.R_drew)); exact HQ69.out⟩
                  have n2_ : Aside0 (Kd.R (Kd.int .i64) 3 (w68.setCell ⟨go59, (t339 : Int).toNat, none⟩ (.int .i64 (wrap64 ((rd x11_2 t339) + (rd l1 (rd t330 x41_2)))))) w.heap.size (fun k_ => k_ ≠ gb338) (.slice (some ad337) t330.length co20) t330) := ⟨by (with_reducible repeat (first | apply Kd.R_alloc | apply Kd.R_drewN | apply Kd.R_drew)); exact Kd.R_mono (Kd.R_far (p := ⟨go59, (t339 : Int).toNat, none⟩) (Kd.R_types HO_39.out GG59.out (by decide)) (fun _ hk => hk.2) (.int .i64 (wrap64 ((rd x11_2 t339) + (rd l1 (rd t330 x41_2)))))) (fun _ hk => hk.1.2)⟩
                  have n3_ : Aside0 ((w68.setCell ⟨go59, (t339 : Int).toNat, none⟩ (.int .i64 (wrap64 ((rd x11_2 t339) + (rd l1 (rd t330 x41_2)))))).heap[gb321]? = some (.cells #[.slice A0_0 l0_0.length c0_0, .slice A0_1 l0_1.length c0_1] 38 (0, 0))) := ⟨by (with_reducible repeat (first | refine blk_drewN ?_ _ | refine blk_drew ?_ | refine blk_alloc ?_ _)); refine blk_far ?_ (by have h_ := Kd.R_ne HO_11.out BK321.out (by decide); intro e_; exact h_ (by rw [e_]; rfl)) _; (with_reducible repeat (first | refine blk_drewN ?_ _ | refine blk_drew ?_ | refine blk_alloc ?_ _)); exact BK321.out⟩
                  have n4_ : Aside0 ((w68.setCell ⟨go59, (t339 : Int).toNat, none⟩ (.int .i64 (wrap64 ((rd x11_2 t339) + (rd l1 (rd t330 x41_2)))))).heap[gb322]? = some (.cells #[.slice (some ad348) l1.length c1] 34 (0, 0))) := ⟨by (with_reducible repeat (first | refine blk_drewN ?_ _ | refine blk_drew ?_ | refine blk_alloc ?_ _)); refine blk_far ?_ (by have h_ := Kd.R_ne HO_11.out BK322.out (by decide); intro e_; exact h_ (by rw [e_]; rfl)) _; (with_reducible repeat (first | refine blk_drewN ?_ _ | refine blk_drew ?_ | refine blk_alloc ?_ _)); exact BK322.out⟩
                  have n5_ : Aside0 ((w68.setCell ⟨go59, (t339 : Int).toNat, none⟩ (.int .i64 (wrap64 ((rd x11_2 t339) + (rd l1 (rd t330 x41_2)))))).heap[gb338]? = some (.cells #[.int .i64 (rd t330 x41_2)] 3 (0, 0))) := ⟨by (with_reducible repeat (first | refine blk_drewN ?_ _ | refine blk_drew ?_ | refine blk_alloc ?_ _)); refine blk_far ?_ (by have h_ := Kd.R_ne HO_11.out BK338.out (by decide); intro e_; exact h_ (by rw [e_]; rfl)) _; (with_reducible repeat (first | refine blk_drewN ?_ _ | refine blk_drew ?_ | refine blk_alloc ?_ _)); exact BK338.out⟩
                  have n6_ : Aside0 (Below w.heap.size w (w68.setCell ⟨go59, (t339 : Int).toNat, none⟩ (.int .i64 (wrap64 ((rd x11_2 t339) + (rd l1 (rd t330 x41_2))))))) := ⟨by repeat (first | (with_reducible first | exact HB.out | apply below_alloc | apply pw_below_drewN | apply below_drew1 | refine below_set ?_ GB59.out | refine below_set ?_ GE321.out | refine below_set ?_ GE322.out | refine below_set ?_ GE338.out) | exact HB.out)⟩
                  (try clear HO_10)
                  (try clear HO_11)
                  (try clear HO_39)
                  (try clear BK321)
                  (try clear BK322)
                  (try clear BK338)
                  (try clear HB)
                  generalize (w68.setCell ⟨go59, (t339 : Int).toNat, none⟩ (.int .i64 (wrap64 ((rd x11_2 t339) + (rd l1 (rd t330 x41_2)))))) = w70 at n0_ n1_ n2_ n3_ n4_ n5_ n6_ ⊢
                  have HO_10 := n0_
                  have HO_11 := n1_
                  have HO_39 := n2_
                  have BK321 := n3_
                  have BK322 := n4_
                  have BK338 := n5_
                  have HB := n6_
                  clear n0_ n1_ n2_ n3_ n4_ n5_ n6_
                  have hcz71_0 : w70.cell? ⟨gb338, 0, none⟩ = some (.int .i64 (rd t330 x41_2)) := (blk_cell BK338.out 0).trans rfl
                  have hfz71_0 := blk_frozen BK338.out 0
                  have p61 : 0 ≤ ((rd t330 x41_2) : Int) := odt_
                  have q61 : ((rd t330 x41_2) : Int) < ((x10_2.length : Int) : Int) := odt_
                  obtain ⟨go61, co61, eo61, gb61, gl61, cl61, HG61⟩ := Kd.R_form HO_10.out (by omega)
                  (first | cases eo61 | (injection eo61 with ea_ en_ ec_; (first | subst ea_ | (injection ea_ with ea_; subst ea_)); subst ec_; clear en_))
                  have GB61 := Aside0.mk gb61
                  have GG61 := Aside0.mk HG61
                  clear gb61 gl61 HG61
                  obtain ⟨hx61_0, hf61_0⟩ := Kd.R_celln 0 HO_10.out ((rd t330 x41_2) : Int) p61 q61
                  replace p61 := eq_true p61
                  replace q61 := eq_true q61
                  obtain ⟨hy72_, hz72_⟩ := Kd.R_celln 0 HO_10.out ((rd t330 x41_2) : Int) odt_ odt_
                  have HP72 := Kd.R_putg HO_10.out ((rd t330 x41_2) : Int) t339
                  try go_wp2_with (first | ((with_reducible refine gate_store (t := 2) (p := 68) rfl ?_); refine store_event (t := 2) (p := 68) (v := ?vo_w73) (w1 := (w70.setCell ⟨go61, ((rd t330 x41_2) : Int).toNat, none⟩ (.int .i64 t339))) ?hg ?ho ?hn ?hr ?_; (case ho => rfl); (case hg => rfl); (case hn => rfl); (case hr => first | (go_simp; done) | (go_simp; rfl)); intro w73 hw; have hg : w70.grownBy w73 (some go61) := (by rw [hw]; exact HP72.2); have hp_ : Kd.R (Kd.int .i64) 2 w73 w.heap.size (fun k_ => some k_ ≠ (.slice (some ⟨go59, 0, none⟩) x11_2.length co66 : Value).ownBlock) (.slice (some ⟨go61, 0, none⟩) x10_2.length co61) y350 := (by rw [hw, Ny350.out]; exact HP72.1); clear HP72; have n0_ := Aside0.mk (hp_); have n1_ := Aside0.mk (Kd.R_after (v := (.slice (some ⟨go61, 0, none⟩) x10_2.length co61)) (v1 := (.slice (some ⟨go61, 0, none⟩) x10_2.length co61)) (ok := (fun _ => True)) (by (with_reducible repeat (first | apply Kd.R_alloc | apply Kd.R_drewN | apply Kd.R_drew)); exact Kd.R_mono HO_11.out (fun _ hk => ⟨trivial, hk⟩)) hg (.inl rfl)); have n2_ := Aside0.mk (Kd.R_over' (v := (.slice (some ⟨go61, 0, none⟩) x10_2.length co61)) (by (with_reducible repeat (first | apply Kd.R_alloc | apply Kd.R_drewN | apply Kd.R_drew)); exact HO_39.out) (Kd.R_typed HO_10.out) (by decide) hg); have n3_ := Aside0.mk (blk_grown (g := gb321) (o := .cells #[.slice A0_0 l0_0.length c0_0, .slice A0_1 l0_1.length c0_1] 38 (0, 0)) (by (with_reducible repeat (first | refine blk_drewN ?_ _ | refine blk_drew ?_ | refine blk_alloc ?_ _)); exact BK321.out) hg (Kd.R_ne HO_10.out BK321.out (by decide))); have n4_ := Aside0.mk (blk_grown (g := gb322) (o := .cells #[.slice (some ad348) l1.length c1] 34 (0, 0)) (by (with_reducible repeat (first | refine blk_drewN ?_ _ | refine blk_drew ?_ | refine blk_alloc ?_ _)); exact BK322.out) hg (Kd.R_ne HO_10.out BK322.out (by decide))); have n5_ := Aside0.mk (blk_grown (g := gb338) (o := .cells #[.int .i64 (rd t330 x41_2)] 3 (0, 0)) (by (with_reducible repeat (first | refine blk_drewN ?_ _ | refine blk_drew ?_ | refine blk_alloc ?_ _)); exact BK338.out) hg (Kd.R_ne HO_10.out BK338.out (by decide))); have n6_ := Aside0.mk ((by rw [hw]; exact below_set (HB.out) GB61.out : Below w.heap.size w w73)); clear HO_10; clear HO_11; clear HO_39; clear BK321; clear BK322; clear BK338; clear HB; have HO_10 := n0_; have HO_11 := n1_; have HO_39 := n2_; have BK321 := n3_; have BK322 := n4_; have BK338 := n5_; have HB := n6_; clear n0_ n1_ n2_ n3_ n4_ n5_ n6_; clear hg hw hp_))
                  (try simp only [← hl39_2])
                  go_roundg k2
                  case measure => have := HK1.out; have := HK2.out; omega
                  case rel => exact ⟨(y350), (y349), (wrap64 (x41_2 + 1)), (by first | rfl | (simp; done) | (simp [*]; done)), H', ⟨by have := HK1.out; have := HK2.out; omega⟩, ⟨by (try simp only [hl39_2]); (with_reducible repeat (first | apply Kd.R_alloc | apply Kd.R_drewN | apply Kd.R_drew)); exact HO_10.out⟩, ⟨by (try simp only [hl39_2]); (with_reducible repeat (first | apply Kd.R_alloc | apply Kd.R_drewN | apply Kd.R_drew)); exact Kd.R_mono HO_11.out (fun _ hk => hk.2)⟩, ⟨by (try simp only [hl39_2]); (with_reducible repeat (first | apply Kd.R_alloc | apply Kd.R_drewN | apply Kd.R_drew)); exact Kd.R_mono HO_39.out (fun _ hk => trivial)⟩, ⟨by (try simp only [hl39_2]); (with_reducible repeat (first | refine blk_drewN ?_ _ | refine blk_drew ?_ | refine blk_alloc ?_ _)); exact BK321.out⟩, ⟨by (try simp only [hl39_2]); (with_reducible repeat (first | refine blk_drewN ?_ _ | refine blk_drew ?_ | refine blk_alloc ?_ _)); exact BK322.out⟩, ⟨by repeat (first | (with_reducible first | exact HB.out | apply below_alloc | apply pw_below_drewN | apply below_drew1 | refine below_set ?_ GE321.out | refine below_set ?_ GE322.out | refine below_set ?_ GE338.out) | exact HB.out)⟩⟩
                 ·rw [if_neg c60] at H
                  exact absurd H (by simp)
                ·rw [if_neg c58] at H
                 exact absurd H (by simp)
               ·rw [if_neg c57] at H
                exact absurd H (by simp)
              ·rw [if_neg c56] at H
               exact absurd H (by simp)
             ·rw [if_neg c55] at H
              exact absurd H (by simp)
           ·rw [if_neg c30] at H
            exact absurd H (by simp)
          ·rw [if_neg c29] at H
           exact absurd H (by simp)
         ·rw [if_neg c28] at H
          have c28b0 : decide (x41_2 < (x8_1.length : Int)) = false := decide_eq_false c28
          (try simp only [hl39_2] at c28b0)
          clear c28
          replace H := Option.bind_eq_some_iff.mp H
          obtain ⟨t351, A740, H⟩ := H
          replace H : (some (x10_2, t351, 0)) = some (r1, r2, r3) := H
          have A74 := Aside0.mk A740
          clear A740
          simp only [Option.some.injEq, Prod.mk.injEq] at H
          obtain ⟨rfl, rfl, rfl⟩ := H
          obtain ⟨Ao75, co75, eo75⟩ := Kd.R_slice HO_11.out
          subst eo75
          go_wp2_with (first | ((with_reducible refine gate_callee (f := 84) rfl ?_); refine goesL_ (some 72) rfl rfl Try.func84 (by kernel_rfl) rfl #[.slice Ao75 x11_2.length co75] rfl (by (try simp only [List.map_toArray, List.map_cons, List.map_nil]); first | done | rfl | (simp only [List.length_drop, List.length_take]; rfl)) ?_; (with_reducible refine (impl_size_int64.calls _ _ x11_2 t351 _ ?side1 ?side2 A74.out).mono ?_); (case side1 => repeat (first | exact (Kd.R_reads' HO_11.out).2.2 | (with_reducible refine Kd.C_alloc ?_ _) | (with_reducible refine Kd.C_drewN ?_ _) | (with_reducible refine Kd.C_drew ?_))); (case side2 => exact (Kd.R_reads' HO_11.out).2.1); rintro e w' ⟨rfl, ⟨nd, rfl⟩⟩; refine ⟨_, rfl, ?_⟩))
          go_ret3
          exact ⟨_, by first | rfl | (simp [errW_none, errW_some] <;> rfl) | (simp [*, errW_none, errW_some] <;> rfl), by (with_reducible repeat (first | apply Kd.R_alloc | apply Kd.R_drewN | apply Kd.R_drew)); exact Kd.R_mono HO_10.out (fun _ hk => trivial), by repeat (first | (with_reducible first | exact HB.out | apply below_alloc | apply pw_below_drewN | apply below_drew1 | refine below_set ?_ GE321.out | refine below_set ?_ GE322.out) | exact HB.out)⟩
      ·rw [if_neg c19] at H
       exact absurd H (by simp)
     ·rw [if_neg c18] at H
      exact absurd H (by simp)
 ·rw [if_neg c4] at H
  have c4b0 : (t323 == 0) = false := beq_eq_false_iff_ne.mpr c4
  have c4b1 : (t323 != 0) = true := bne_iff_ne.mpr c4
  simp only [Option.some.injEq, Prod.mk.injEq] at H
  obtain ⟨rfl, rfl, rfl⟩ := H
  go_enter Try.func38, Try.ntmps38
  go_wp2_with (first | ((with_reducible refine gate_dst (N := 2) rfl ?_); refine box_event ?hg (N := 2) ?hd (cs := #[.slice A0_0 l0_0.length c0_0, .slice A0_1 l0_1.length c0_1]) (t := 38) ?hr ?_; (case hd => rfl); (case hg => rfl); (case hr => first | (go_simp; done) | (go_simp; rfl)); intro gb321 hg w76 hbox hb; have n0_ := Aside0.mk (below_step (by repeat (first | (with_reducible first | exact HB.out | apply below_alloc | apply pw_below_drewN | apply below_drew1) | exact HB.out)) hb); have n1_ := Aside0.mk (hbox); have n2_ := Aside0.mk ((by rw [hg]; exact (below_size (by repeat (first | (with_reducible first | exact HB.out | apply below_alloc | apply pw_below_drewN | apply below_drew1) | exact HB.out))) : w.heap.size ≤ gb321)); have n3_ := Aside0.mk ((by rw [hg]; exact (below_size (by repeat (first | (with_reducible first | exact HB.out | apply below_alloc | apply pw_below_drewN | apply below_drew1) | exact HB.out))) : w.heap.size ≤ gb321)); clear HB; have HB := n0_; have BK321 := n1_; have GW321 := n2_; have GE321 := n3_; clear n0_ n1_ n2_ n3_; clear hb hbox hg) | ((with_reducible refine gate_dst (N := 3) rfl ?_); refine box_event ?hg (N := 3) ?hd (cs := #[.slice A1 l1.length c1]) (t := 34) ?hr ?_; (case hd => rfl); (case hg => rfl); (case hr => first | (go_simp; done) | (go_simp; rfl)); intro gb322 hg w77 hbox hb; have n0_ := Aside0.mk (blk_below (g := gb321) (o := .cells #[.slice A0_0 l0_0.length c0_0, .slice A0_1 l0_1.length c0_1] 38 (0, 0)) (by (with_reducible repeat (first | refine blk_drewN ?_ _ | refine blk_drew ?_ | refine blk_alloc ?_ _)); exact BK321.out) hb); have n1_ := Aside0.mk (below_step (by repeat (first | (with_reducible first | exact HB.out | apply below_alloc | apply pw_below_drewN | apply below_drew1 | refine below_set ?_ GE321.out) | exact HB.out)) hb); have n2_ := Aside0.mk (hbox); have n3_ := Aside0.mk ((by rw [hg]; exact (below_size (by repeat (first | (with_reducible first | exact HB.out | apply below_alloc | apply pw_below_drewN | apply below_drew1 | refine below_set ?_ GE321.out) | exact HB.out))) : w.heap.size ≤ gb322)); have n4_ := Aside0.mk ((by rw [hg]; exact (below_size (by repeat (first | (with_reducible first | exact HB.out | apply below_alloc | apply pw_below_drewN | apply below_drew1 | refine below_set ?_ GE321.out) | exact HB.out))) : w.heap.size ≤ gb322)); have n5_ := Aside0.mk ((by rw [hg]; exact Nat.ne_of_lt (blk_lt (g := gb321) (o := .cells #[.slice A0_0 l0_0.length c0_0, .slice A0_1 l0_1.length c0_1] 38 (0, 0)) (by (with_reducible repeat (first | refine blk_drewN ?_ _ | refine blk_drew ?_ | refine blk_alloc ?_ _)); exact BK321.out)) : gb321 ≠ gb322)); have n6_ := Aside0.mk ((by rw [hg]; exact Nat.ne_of_gt (blk_lt (g := gb321) (o := .cells #[.slice A0_0 l0_0.length c0_0, .slice A0_1 l0_1.length c0_1] 38 (0, 0)) (by (with_reducible repeat (first | refine blk_drewN ?_ _ | refine blk_drew ?_ | refine blk_alloc ?_ _)); exact BK321.out)) : gb322 ≠ gb321)); clear BK321; clear HB; have BK321 := n0_; have HB := n1_; have BK322 := n2_; have GW322 := n3_; have GE322 := n4_; have NB321_322 := n5_; have NB322_321 := n6_; clear n0_ n1_ n2_ n3_ n4_ n5_ n6_; clear hb hbox hg; have hnb78 := NB321_322.out; have hnc78 := NB322_321.out; have hcz79_0 : w77.cell? ⟨gb321, 0, none⟩ = some (.slice A0_0 l0_0.length c0_0) := (blk_cell BK321.out 0).trans rfl; have hcz79_1 : w77.cell? ⟨gb321, 1, none⟩ = some (.slice A0_1 l0_1.length c0_1) := (blk_cell BK321.out 1).trans rfl; have hfz79_0 := blk_frozen BK321.out 0; have hfz79_1 := blk_frozen BK321.out 1; have hcz80_0 : w77.cell? ⟨gb322, 0, none⟩ = some (.slice A1 l1.length c1) := (blk_cell BK322.out 0).trans rfl; have hfz80_0 := blk_frozen BK322.out 0) | ((with_reducible refine gate_callee (f := 69) rfl ?_); refine goesL_ (some 17) rfl rfl Try.func69 (by kernel_rfl) rfl #[.agg #[.slice A0_0 l0_0.length c0_0, .slice A0_1 l0_1.length c0_1], .int .i64 0, .slice A1 l1.length c1] rfl (by (try simp only [List.map_toArray, List.map_cons, List.map_nil]); first | done | rfl | (simp only [List.length_drop, List.length_take]; rfl)) ?_; (with_reducible refine (impl_parcelCode.calls k _ _ l0_0 _ _ l0_1 0 _ _ l1 t323 _ ?side1 ?side2 ?side3 ?side4 ?side5 ?side6 A3.out).mono ?_); (case side1 => repeat (first | exact (Kd.C_below HR0_0.out HB.out) | (with_reducible refine Kd.C_alloc ?_ _) | (with_reducible refine Kd.C_drewN ?_ _) | (with_reducible refine Kd.C_drew ?_))); (case side2 => exact HC0_0.out); (case side3 => repeat (first | exact (Kd.C_below HR0_1.out HB.out) | (with_reducible refine Kd.C_alloc ?_ _) | (with_reducible refine Kd.C_drewN ?_ _) | (with_reducible refine Kd.C_drew ?_))); (case side4 => exact HC0_1.out); (case side5 => repeat (first | exact (Kd.C_below HR1.out HB.out) | (with_reducible refine Kd.C_alloc ?_ _) | (with_reducible refine Kd.C_drewN ?_ _) | (with_reducible refine Kd.C_drew ?_))); (case side6 => exact HC1.out); rintro e w81 ⟨rfl, hb⟩; refine ⟨_, rfl, ?_⟩; have n0_ := Aside0.mk (blk_below (g := gb321) (o := .cells #[.slice A0_0 l0_0.length c0_0, .slice A0_1 l0_1.length c0_1] 38 (0, 0)) (by (with_reducible repeat (first | refine blk_drewN ?_ _ | refine blk_drew ?_ | refine blk_alloc ?_ _)); exact BK321.out) hb); have n1_ := Aside0.mk (blk_below (g := gb322) (o := .cells #[.slice A1 l1.length c1] 34 (0, 0)) (by (with_reducible repeat (first | refine blk_drewN ?_ _ | refine blk_drew ?_ | refine blk_alloc ?_ _)); exact BK322.out) hb); have n2_ := Aside0.mk (below_step (by repeat (first | (with_reducible first | exact HB.out | apply below_alloc | apply pw_below_drewN | apply below_drew1 | refine below_set ?_ GE321.out | refine below_set ?_ GE322.out) | exact HB.out)) hb); clear BK321; clear BK322; clear HB; have BK321 := n0_; have BK322 := n1_; have HB := n2_; clear n0_ n1_ n2_; (try clear hb); (try clear hb2); (try clear hk); (try clear hi)))
  go_ret3
  exact ⟨_, by first | rfl | (simp [errW_none, errW_some] <;> rfl) | (simp [*, errW_none, errW_some] <;> rfl), by first | exact Kd.R_nil _ _ _ _ _ | exact Kd.N_nil _ _ _ _ _ | exact Kd.V_nil _ _ _ _ _ | exact Kd.Q_nil _ _ _ _ _ | exact Kd.S_nil _ _ _ _ _, by repeat (first | (with_reducible first | exact HB.out | apply below_alloc | apply pw_below_drewN | apply below_drew1 | refine below_set ?_ GE321.out | refine below_set ?_ GE322.out) | exact HB.out)⟩

end Go.Proofs.Ytdeipindfhkioaa.Q
