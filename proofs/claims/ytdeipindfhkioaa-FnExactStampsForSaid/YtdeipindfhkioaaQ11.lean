-- made by wip/tools/mk.py of this session's repo, by way of the kit's print.py: Lean checks it.
import Derived.Test.YtdeipindfhkioaaQ0
import Derived.Test.YtdeipindfhkioaaQ8
import Derived.Test.YtdeipindfhkioaaQ9
import Derived.Test.YtdeipindfhkioaaQ10
namespace Go.Proofs.Ytdeipindfhkioaa.Q
open Go.RowKit Go.Proofs.YtdeipindfhkioaaW.PrintWords Go.Proofs.YtdeipindfhkioaaW.PrintLast Go.Proofs.YtdeipindfhkioaaW.PrintMore Go.Proofs.YtdeipindfhkioaaMine
attribute [local go_sem] max2_int min2_int max_two min_two max_three min_three max_four min_four   -- for this text's walks alone
set_option linter.unusedVariables false
set_option linter.unusedSimpArgs false

mutual
def f0z.l0 : Nat → List (List (S128)) → Int → List Int → Int → List Int → Int → Int → Option (List Int)
 | 0, _, _, _, _, _, _, _ => none
 | k + 1, x1, x2, x7, x8, x22, x23, x24 => if x24 < x23 then (if 0 ≤ x24 then (if x24 < (x22.length : Int) then (f0z.l1 k x1 x2 x7 x8 x24 (rd x22 x24) 0 x22 x23 x24) else (none)) else (none)) else (some x7)
def f0z.l1 : Nat → List (List (S128)) → Int → List Int → Int → Int → Int → Int → List Int → Int → Int → Option (List Int)
 | 0, _, _, _, _, _, _, _, _, _, _ => none
 | k + 1, x1, x2, x7, x8, x9, x10, x11, x22, x23, x24 => if 0 ≤ (wrap64 (x9 + 1)) then (if (wrap64 (x9 + 1)) < (x1.length : Int) then (if 0 ≤ (wrap64 (x2 - (wrap64 (x11 * x10)))) then (if (wrap64 (x2 - (wrap64 (x11 * x10)))) < ((rd_L9 x1 (wrap64 (x9 + 1))).length : Int) then (if ((rd_T128 (rd_L9 x1 (wrap64 (x9 + 1))) (wrap64 (x2 - (wrap64 (x11 * x10))))).f0) > 0 then (if (wrap64 (((rd_T128 (rd_L9 x1 (wrap64 (x9 + 1))) (wrap64 (x2 - (wrap64 (x11 * x10))))).f1) + x11)) = x8 then (if x7.length < 17592186044416 then (f0z.l0 k x1 (wrap64 (x2 - (wrap64 (x11 * x10)))) (x7 ++ [x11]) (wrap64 (x8 - x11)) x22 x23 (wrap64 (x24 + 1))) else (none)) else (f0z.l1 k x1 x2 x7 x8 x9 x10 (wrap64 (x11 + 1)) x22 x23 x24)) else (f0z.l1 k x1 x2 x7 x8 x9 x10 (wrap64 (x11 + 1)) x22 x23 x24)) else (none)) else (none)) else (none)) else (none)
end
def f0z.f (k : Nat) (l0_0 : List Int) (l0_1 : List Int) (l1 : List (List (S128))) (a2 : Int) : Option (List Int) := if 0 < (l1.length : Int) then (if 0 ≤ a2 then (if a2 < ((rd_L9 l1 0).length : Int) then (f0z.l0 k l1 a2 (([] : List Int)) ((rd_T128 (rd_L9 l1 0) a2).f1) l0_0 (l0_0.length : Int) 0) else (none)) else (none)) else (none)
theorem f0z.mono_l : ∀ k, (∀ y0 y1 y2 y3 y4 y5 y6, LeO (f0z.l0 k y0 y1 y2 y3 y4 y5 y6) (f0z.l0 (k + 1) y0 y1 y2 y3 y4 y5 y6)) ∧ (∀ y0 y1 y2 y3 y4 y5 y6 y7 y8 y9, LeO (f0z.l1 k y0 y1 y2 y3 y4 y5 y6 y7 y8 y9) (f0z.l1 (k + 1) y0 y1 y2 y3 y4 y5 y6 y7 y8 y9))
 | 0 => ⟨fun _ _ _ _ _ _ _ r h => by simp [f0z.l0] at h, fun _ _ _ _ _ _ _ _ _ _ r h => by simp [f0z.l1] at h⟩
 | k + 1 => by
  obtain ⟨ih0, ih1⟩ := f0z.mono_l k
  refine ⟨?_, ?_⟩ <;> intros <;> (first | unfold f0z.l0 | unfold f0z.l1) <;> repeat' first
  | (with_reducible exact ih0 _ _ _ _ _ _ _)
  | (with_reducible exact ih1 _ _ _ _ _ _ _ _ _ _)
  | (with_reducible exact LeO.refl _)
  | (with_reducible exact LeO.none _)
  | (with_reducible refine LeO.ite ?_ ?_)
  | (with_reducible refine LeO.bind ?_ (fun _ => ?_))
  | exact ih0 _ _ _ _ _ _ _
  | exact ih1 _ _ _ _ _ _ _ _ _ _
  | exact LeO.none _
  | refine LeO.ite ?_ ?_
  | refine LeO.bind ?_ (fun _ => ?_)
theorem f0z.mono : ∀ a0 a1 a2 a3 k, LeO (f0z.f k a0 a1 a2 a3) (f0z.f (k + 1) a0 a1 a2 a3) := by
 intro a0 a1 a2 a3 k
 obtain ⟨ih0, ih1⟩ := f0z.mono_l k
 unfold f0z.f
 repeat' first
   | (with_reducible exact ih0 _ _ _ _ _ _ _)
   | (with_reducible exact ih1 _ _ _ _ _ _ _ _ _ _)
   | (with_reducible exact LeO.refl _)
   | (with_reducible exact LeO.none _)
   | (with_reducible refine LeO.ite ?_ ?_)
   | (with_reducible refine LeO.bind ?_ (fun _ => ?_))
   | exact ih0 _ _ _ _ _ _ _
   | exact ih1 _ _ _ _ _ _ _ _ _ _
   | exact LeO.none _
   | refine LeO.ite ?_ ?_
   | refine LeO.bind ?_ (fun _ => ?_)
def f0z.T1 : Bool × List (List Nat × List Nat) := (true, [([], []), ([], []), ([1], [1]), ([2], [2]), ([], []), ([3, 4], [3, 4]), ([5], [5]), ([6], [6]), ([0, 0], [0]), ([7, 8, 0, 1, 2, 3, 4, 5, 6, 7, 8], [7])])
def f0z.B1 : List Nat := [0, 0, 2, 6, 0, 30, 62, 126, 1, 511]
theorem f0z.tab1 : rtab .any (opsOf Try.f124 1) = f0z.T1 := by kernel_rfl
theorem f0z.bits1 : waitsOk f0z.T1.2 f0z.B1 = true := by kernel_rfl
set_option maxHeartbeats 8000000 in
set_option maxRecDepth 100000 in
theorem f0z.calls (k : Nat) (A0_0 : Option Addr) (c0_0 : Nat) (l0_0 : List Int) (A0_1 : Option Addr) (c0_1 : Nat) (l0_1 : List Int) (A1 : Option Addr) (c1 : Nat) (l1 : List (List (S128))) (a2 : Int) (r : List Int) (w : World) (hr0_0 : Kd.C (Kd.int .i64) w A0_0 l0_0.length l0_0) (hc0_0 : l0_0.length ≤ c0_0) (hr0_1 : Kd.C (Kd.int .i64) w A0_1 l0_1.length l0_1) (hc0_1 : l0_1.length ≤ c0_1) (hr1 : Kd.C (Kd.slice 128 k128) w A1 l1.length l1) (hc1 : l1.length ≤ c1) (h : f0z.f k l0_0 l0_1 l1 a2 = some r) :
  Calls Try.prog 124 #[.agg #[.slice A0_0 l0_0.length c0_0, .slice A0_1 l0_1.length c0_1], .slice A1 l1.length c1, .int .i64 a2] w fun e w' => ∃ v0_ : Value, e = .returned (v0_) ∧ Kd.R (Kd.int .i64) 2 w' w.heap.size (fun _ => True) v0_ r ∧ Below w.heap.size w w' := by
 have hu118 := Try.underlying118
 have hu128 := Try.underlying128
 have HR0_0 := Aside0.mk hr0_0
 have HC0_0 := Aside0.mk hc0_0
 clear hr0_0 hc0_0
 have HR0_1 := Aside0.mk hr0_1
 have HC0_1 := Aside0.mk hc0_1
 clear hr0_1 hc0_1
 have HR1 := Aside0.mk hr1
 have HC1 := Aside0.mk hc1
 clear hr1 hc1
 have HB := Aside0.mk (Below.refl w.heap.size w)
 have H : (if 0 < (l1.length : Int) then (if 0 ≤ a2 then (if a2 < ((rd_L9 l1 0).length : Int) then (f0z.l0 k l1 a2 (([] : List Int)) ((rd_T128 (rd_L9 l1 0) a2).f1) l0_0 (l0_0.length : Int) 0) else (none)) else (none)) else (none)) = some r := h
 clear h
 obtain ⟨y319, hy319⟩ : ∃ y_ : List Int, y_ = (([] : List Int)) := ⟨_, rfl⟩
 replace H : (if 0 < (l1.length : Int) then (if 0 ≤ a2 then (if a2 < ((rd_L9 l1 0).length : Int) then (f0z.l0 k l1 a2 y319 ((rd_T128 (rd_L9 l1 0) a2).f1) l0_0 (l0_0.length : Int) 0) else (none)) else (none)) else (none)) = some r := by rw [hy319]; exact H
 have Ny319 := Aside0.mk hy319
 clear hy319
 by_cases c4 : 0 < (l1.length : Int)
 rotate_left
 ·rw [if_neg c4] at H; exact absurd H (by simp)
 rw [if_pos c4] at H
 have c4b0 : decide (0 < (l1.length : Int)) = true := decide_eq_true c4
 have c4b1 : decide (0 < l1.length) = true := decide_eq_true (by omega)
 clear c4
 by_cases c5 : 0 ≤ a2
 rotate_left
 ·rw [if_neg c5] at H; exact absurd H (by simp)
 rw [if_pos c5] at H
 have c5b0 : decide (0 ≤ a2) = true := decide_eq_true c5
 clear c5
 by_cases c6 : a2 < ((rd_L9 l1 0).length : Int)
 rotate_left
 ·rw [if_neg c6] at H; exact absurd H (by simp)
 rw [if_pos c6] at H
 have c6b0 : decide (a2 < ((rd_L9 l1 0).length : Int)) = true := decide_eq_true c6
 clear c6
 have H' := Aside0.mk H
 clear H
 go_enter Try.func124, Try.ntmps124
 try go_wp2_with (first | ((with_reducible refine gate_dst (N := 3) rfl ?_); refine box_event ?hg (N := 3) ?hd (cs := #[.slice A0_0 l0_0.length c0_0, .slice A0_1 l0_1.length c0_1]) (t := 118) ?hr ?_; (case hd => rfl); (case hg => rfl); (case hr => go_simp; try rfl); intro gb318 hg w7 hbox hb; have BK318 := Aside0.mk (hbox); have GW318 := Aside0.mk ((by rw [hg]; exact (below_size HB.out) : w.heap.size ≤ gb318)); have GE318 := Aside0.mk ((by rw [hg]; exact (below_size HB.out) : w.heap.size ≤ gb318)); replace HB := Aside0.mk (below_step HB.out hb); clear hb hbox hg))
 replace BK318 := Aside0.mk (blk_drew BK318.out)
 replace HB := Aside0.mk (below_drew1 HB.out)
 have p322 : 0 ≤ (0 : Int) := (by omega)
 have q322 : 0 < (l1.length : Int) := of_decide_eq_true (by assumption)
 obtain ⟨ad322, A322_0, c322_0, e322, hx322_0, hl322_0, hi322_0⟩ := at_L9 HR1.out 0 p322 q322
 have hw322_0 := hx322_0
 (try rw [show ((0 : Int)).toNat = 0 from rfl] at hw322_0)
 (try rw [show 0 * 1 = 0 from rfl] at hw322_0)
 (try rw [Addr.add_zero'] at hw322_0)
 cases e322
 have qi322 : (0 < l1.length) = True := eq_true (by omega)
 (try rw [show ((0 : Int)).toNat = 0 from rfl] at hx322_0)
 (try rw [Addr.add_zero'] at hx322_0)
 replace hx322_0 := (HB.out.cell (World.block_lt_of_cell? w _ hx322_0)).trans hx322_0
 have HR322_0 := Aside0.mk hi322_0
 have HC322_0 := Aside0.mk hl322_0
 clear hi322_0 hl322_0
 replace p322 := eq_true p322
 replace q322 := eq_true q322
 have p323 : 0 ≤ (a2 : Int) := of_decide_eq_true (by assumption)
 have q323 : a2 < ((rd_L9 l1 0).length : Int) := of_decide_eq_true (by assumption)
 obtain ⟨ad323, e323, hx323_0, hx323_1⟩ := at_T128 HR322_0.out a2 p323 q323
 have hw323_1 := hx323_1
 have hw323_0 := hx323_0
 cases e323
 replace hx323_0 := (HB.out.cell (World.block_lt_of_cell? w _ hx323_0)).trans hx323_0
 replace hx323_1 := (HB.out.cell (World.block_lt_of_cell? w _ hx323_1)).trans hx323_1
 replace p323 := eq_true p323
 replace q323 := eq_true q323
 refine start_ (n := 10) (S := fun w' => w'.cell? ad322 = some (.slice (some ad323) (rd_L9 l1 0).length c322_0) ∧ w'.cell? (ad323.add ((a2).toNat * 2)) = some (.int .i64 ((rd_T128 (rd_L9 l1 0) a2).f0)) ∧ w'.cell? ⟨(ad323.add ((a2).toNat * 2)).block, (ad323.add ((a2).toNat * 2)).off + 1, none⟩ = some (.int .i64 ((rd_T128 (rd_L9 l1 0) a2).f1))) (ds := []) #[false, false, false, false, false, false, false, false, false, false] (by kernel_rfl) rfl rfl ⟨((HB.out.cell (World.block_lt_of_cell? w _ hw322_0)).trans hw322_0), ((HB.out.cell (World.block_lt_of_cell? w _ hw323_0)).trans hw323_0), ((HB.out.cell (World.block_lt_of_cell? w _ hw323_1)).trans hw323_1)⟩ (fun hHeld => ?_); refine with_tabW f0z.tab1 f0z.bits1 (fun HT_ HW_ => ?_)
 generalize w7.drew = w8 at BK318 HB HR322_0 hx322_0 hx323_0 hx323_1 hHeld ⊢
 refine pu_ (i := 1) (N := some 14) (v := ?_) (a' := ?_) rfl rfl (any_of HT_.out (by kernel_rfl)) (fun _ _ _ h => h) (Or.inl ⟨by rfl, ?_⟩) ?_ ?_
 rotate_left; intro w'; go_simp; with_reducible rfl; rotate_left; simp only [Act.put, sA_, sZ_, sS_, i64_w, i32_w]; rfl
 refine pu_ (i := 2) (N := some 15) (v := ?_) (a' := ?_) rfl rfl (any_of HT_.out (by kernel_rfl)) (fun _ _ _ h => h) (Or.inl ⟨by rfl, ?_⟩) ?_ ?_
 rotate_left; intro w'; go_simp; with_reducible rfl; rotate_left; simp only [Act.put, sA_, sZ_, sS_, i64_w, i32_w]; rfl
 refine pu_ (i := 4) (N := some 17) (v := ?_) (a' := ?_) rfl rfl (any_of HT_.out (by kernel_rfl)) (fun _ _ _ h => h) (Or.inl ⟨by rfl, ?_⟩) ?_ ?_
 rotate_left; intro w'; go_simp; with_reducible rfl; rotate_left; simp only [Act.put, sA_, sZ_, sS_, i64_w, i32_w]; rfl
 refine tk_ (i := 3) (N := some 16) (v := ?_) (a' := ?_) rfl rfl (take_ofW HT_.out HW_.out (by kernel_rfl)) (fun _ _ _ h => h) (Or.inl ⟨by rfl, ?_⟩) hHeld ?_ ?_
 rotate_left; rintro w' ⟨s0, s1, s2⟩; go_simp; with_reducible rfl; rotate_left; simp only [Act.put, sA_, sZ_, sS_, i64_w, i32_w]; rfl
 refine pu_ (i := 5) (N := some 18) (v := ?_) (a' := ?_) rfl rfl (any_of HT_.out (by kernel_rfl)) (fun _ _ _ h => h) (Or.inl ⟨by rfl, ?_⟩) ?_ ?_
 rotate_left; intro w'; go_simp; with_reducible rfl; rotate_left; simp only [Act.put, sA_, sZ_, sS_, i64_w, i32_w]; rfl
 refine pu_ (i := 6) (N := some 19) (v := ?_) (a' := ?_) rfl rfl (any_of HT_.out (by kernel_rfl)) (fun _ _ _ h => h) (Or.inl ⟨by rfl, ?_⟩) ?_ ?_
 rotate_left; intro w'; go_simp; with_reducible rfl; rotate_left; simp only [Act.put, sA_, sZ_, sS_, i64_w, i32_w]; rfl
 refine tk_ (i := 7) (N := some 20) (v := ?_) (a' := ?_) rfl rfl (take_ofW HT_.out HW_.out (by kernel_rfl)) (fun _ _ _ h => h) (Or.inl ⟨by rfl, ?_⟩) hHeld ?_ ?_
 rotate_left; rintro w' ⟨s0, s1, s2⟩; go_simp; with_reducible rfl; rotate_left; simp only [Act.put, sA_, sZ_, sS_, i64_w, i32_w]; rfl
 refine on_ (i := 0) (N := some 13) rfl rfl (one_of HT_.out (by kernel_rfl)) (by decide) (fun K hK => ?_)
 refine Kd.R_lit_step (Kd.int .i64) _ 2 ?hg (N := 13) ?hd (xs := ([] : List Int)) (inner := []) (ok := fun _ => True) (okp := fun _ => True) ?hr ?hp (fun _ hk => hk) trivial (Below.refl _ _) (Nat.le_refl _) (by simp) ?_; (case hd => rfl); (case hg => rfl); (case hr => go_simp; try rfl); (case hp => exact (Reps.none _ _))
 intro v320 w9 ho10 hb hg_ hnew_
 clear hg_ hnew_
 (first | rw [← Ny319.out] at ho10 | (simp only [Int.reduceToNat] at ho10; rw [← Ny319.out] at ho10))
 have HO321 := Aside0.mk (Kd.R_lower ho10 (below_size HB.out))
 replace BK318 := Aside0.mk (blk_below (g := gb318) (o := .cells #[.slice A0_0 l0_0.length c0_0, .slice A0_1 l0_1.length c0_1] 118 (0, 0)) BK318.out hb)
 replace HB := Aside0.mk (below_step HB.out hb)
 clear hb ho10
 refine hK.out _ _ ⟨((HB.out.cell (World.block_lt_of_cell? w _ hw322_0)).trans hw322_0), ((HB.out.cell (World.block_lt_of_cell? w _ hw323_0)).trans hw323_0), ((HB.out.cell (World.block_lt_of_cell? w _ hw323_1)).trans hw323_1)⟩ (fun hHeld => ?_)
 clear hK K
 refine norm_ (a' := ?_) ?_ ?_
 rotate_left
 ·show Act.put _ (some 13) _ = _
  simp only [Act.put, sA_, sZ_, sS_, i64_w, i32_w]
  rfl
 refine pu_ (i := 8) (N := some 7) (v := ?_) (a' := ?_) rfl rfl (any_of HT_.out (by kernel_rfl)) (fun _ _ _ h => h) (Or.inl ⟨by rfl, ?_⟩) ?_ ?_
 rotate_left; intro w'; go_simp; with_reducible rfl; rotate_left; simp only [Act.put, sA_, sZ_, sS_, i64_w, i32_w]; rfl
 refine pu_ (i := 9) (N := some 8) (v := ?_) (a' := ?_) rfl rfl (any_of HT_.out (by kernel_rfl)) (fun _ _ _ h => h) (Or.inl ⟨by rfl, ?_⟩) ?_ ?_
 rotate_left; intro w'; go_simp; with_reducible rfl; rotate_left; simp only [Act.put, sA_, sZ_, sS_, i64_w, i32_w]; rfl
 refine done_ (done_of HT_.out (by kernel_rfl)) ?_
 have hcz11_0 : w9.cell? ⟨gb318, 0, none⟩ = some (.slice A0_0 l0_0.length c0_0) := (blk_cell BK318.out 0).trans rfl
 have hcz11_1 : w9.cell? ⟨gb318, 1, none⟩ = some (.slice A0_1 l0_1.length c0_1) := (blk_cell BK318.out 1).trans rfl
 have hfz11_0 := blk_frozen BK318.out 0
 have hfz11_1 := blk_frozen BK318.out 1
 try go_wp2
 go_loopg [2, 7, 8, 24] k (fun kq v2 v7 v8 v24 w' => ∃ (x2_1 : Int) (x7_1 : List Int) (x8_1 : Int) (x24_1 : Int), v2 = .int .i64 x2_1 ∧ v8 = .int .i64 x8_1 ∧ v24 = .int .i64 x24_1 ∧ Aside0 (f0z.l0 kq l1 x2_1 x7_1 x8_1 l0_0 (l0_0.length : Int) x24_1 = some r) ∧ Aside0 (kq ≤ k) ∧ Aside0 (Kd.R (Kd.int .i64) 2 w' w.heap.size (fun _ => True) v7 x7_1) ∧ Aside0 (w'.heap[gb318]? = some (.cells #[(.slice A0_0 l0_0.length c0_0), (.slice A0_1 l0_1.length c0_1)] 118 (0, 0))) ∧ Aside0 (Below w.heap.size w w'))
 case atStart => exact ⟨(a2), (y319), ((rd_T128 (rd_L9 l1 0) a2).f1), (0), rfl, rfl, rfl, H', ⟨Nat.le_refl _⟩, ⟨HO321.out⟩, ⟨BK318.out⟩, ⟨HB.out⟩⟩
 case round =>
  clear H'
  try clear c1
  try clear p2
  try clear c3
  try clear p3
  try clear q3
  try clear hx3
  try clear qi3
  try clear c4
  try clear c4b0
  try clear c4b1
  try clear c5
  try clear c5b0
  try clear c6
  try clear c6b0
  try clear hcz11_0
  try clear hcz11_1
  try clear hfz11_0
  try clear hfz11_1
  try clear hx322_0
  try clear hx323_0
  try clear hx323_1
  try clear p322
  try clear p323
  try clear q322
  try clear q323
  obtain ⟨x2_1, x7_1, x8_1, x24_1, rfl, rfl, rfl, HA, HK1, HO_7, BK318, HB⟩ := hrel
  cases gk with
  | zero => exact absurd HA.out (by simp [f0z.l0])
  | succ k1 =>
   have H := HA.out
   clear HA
   simp only [f0z.l0] at H
   by_cases c12 : x24_1 < (l0_0.length : Int)
   ·rw [if_pos c12] at H
    have c12b0 : decide (x24_1 < (l0_0.length : Int)) = true := decide_eq_true c12
    clear c12
    by_cases c13 : 0 ≤ x24_1
    rotate_left
    ·rw [if_neg c13] at H; exact absurd H (by simp)
    rw [if_pos c13] at H
    have c13b0 : decide (0 ≤ x24_1) = true := decide_eq_true c13
    clear c13
    by_cases c14 : x24_1 < (l0_0.length : Int)
    rotate_left
    ·rw [if_neg c14] at H; exact absurd H (by simp)
    rw [if_pos c14] at H
    have c14b0 : decide (x24_1 < (l0_0.length : Int)) = true := decide_eq_true c14
    clear c14
    have H' := Aside0.mk H
    clear H
    have p324 : 0 ≤ (x24_1 : Int) := of_decide_eq_true (by assumption)
    have q324 : x24_1 < (l0_0.length : Int) := of_decide_eq_true (by assumption)
    obtain ⟨ad324, e324, hx324_0⟩ := Kd.at_int HR0_0.out x24_1 p324 q324
    cases e324
    replace hx324_0 := (HB.out.cell (World.block_lt_of_cell? w _ hx324_0)).trans hx324_0
    replace p324 := eq_true p324
    replace q324 := eq_true q324
    go_wp2
    go_loopg [2, 7, 8, 11] k1 (fun kq v2 v7 v8 v11 w' => ∃ (x2_2 : Int) (x7_2 : List Int) (x8_2 : Int) (x11_2 : Int), v2 = .int .i64 x2_2 ∧ v8 = .int .i64 x8_2 ∧ v11 = .int .i64 x11_2 ∧ Aside0 (f0z.l1 kq l1 x2_2 x7_2 x8_2 x24_1 (rd l0_0 x24_1) x11_2 l0_0 (l0_0.length : Int) x24_1 = some r) ∧ Aside0 (kq ≤ k1) ∧ Aside0 (Kd.R (Kd.int .i64) 2 w' w.heap.size (fun _ => True) v7 x7_2) ∧ Aside0 (w'.heap[gb318]? = some (.cells #[(.slice (some ad324) l0_0.length c0_0), (.slice A0_1 l0_1.length c0_1)] 118 (0, 0))) ∧ Aside0 (Below w.heap.size w w'))
    case atStart => exact ⟨(x2_1), (x7_1), (x8_1), (0), rfl, rfl, rfl, H', ⟨Nat.le_refl _⟩, ⟨HO_7.out⟩, ⟨BK318.out⟩, ⟨HB.out⟩⟩
    case round =>
     clear H'
     try clear c1
     try clear p2
     try clear c3
     try clear p3
     try clear q3
     try clear hx3
     try clear qi3
     try clear c4
     try clear c4b0
     try clear c4b1
     try clear c5
     try clear c5b0
     try clear c6
     try clear c6b0
     try clear c12
     try clear c12b0
     try clear c13
     try clear c13b0
     try clear c14
     try clear c14b0
     try clear hcz11_0
     try clear hcz11_1
     try clear hfz11_0
     try clear hfz11_1
     try clear hx322_0
     try clear hx323_0
     try clear hx323_1
     try clear hx324_0
     try clear p2
     try clear p3
     try clear p322
     try clear p323
     try clear p324
     try clear q3
     try clear q322
     try clear q323
     try clear q324
     obtain ⟨x2_2, x7_2, x8_2, x11_2, rfl, rfl, rfl, HA, HK2, HO_7, BK318, HB⟩ := hrel
     cases gk with
     | zero => exact absurd HA.out (by simp [f0z.l1])
     | succ k2 =>
      have H := HA.out
      clear HA
      simp only [f0z.l1] at H
      obtain ⟨ji15, hji15⟩ : ∃ j_ : Int, (wrap64 (x24_1 + 1)) = j_ := ⟨_, rfl⟩
      replace H : (if 0 ≤ (ji15) then (if (ji15) < (l1.length : Int) then (if 0 ≤ (wrap64 (x2_2 - (wrap64 (x11_2 * (rd l0_0 x24_1))))) then (if (wrap64 (x2_2 - (wrap64 (x11_2 * (rd l0_0 x24_1))))) < ((rd_L9 l1 (ji15)).length : Int) then (if ((rd_T128 (rd_L9 l1 (ji15)) (wrap64 (x2_2 - (wrap64 (x11_2 * (rd l0_0 x24_1)))))).f0) > 0 then (if (wrap64 (((rd_T128 (rd_L9 l1 (ji15)) (wrap64 (x2_2 - (wrap64 (x11_2 * (rd l0_0 x24_1)))))).f1) + x11_2)) = x8_2 then (if x7_2.length < 17592186044416 then (f0z.l0 k2 l1 (wrap64 (x2_2 - (wrap64 (x11_2 * (rd l0_0 x24_1))))) (x7_2 ++ [x11_2]) (wrap64 (x8_2 - x11_2)) l0_0 (l0_0.length : Int) ji15) else (none)) else (f0z.l1 k2 l1 x2_2 x7_2 x8_2 x24_1 (rd l0_0 x24_1) (wrap64 (x11_2 + 1)) l0_0 (l0_0.length : Int) x24_1)) else (f0z.l1 k2 l1 x2_2 x7_2 x8_2 x24_1 (rd l0_0 x24_1) (wrap64 (x11_2 + 1)) l0_0 (l0_0.length : Int) x24_1)) else (none)) else (none)) else (none)) else (none)) = some r := by first | (rw [hji15] at H; exact H) | (simp only [hji15] at H ⊢; exact H)
      have hji15w : (IntKind.i64.wrap (x24_1 + 1)) = ji15 := (i64_w _).trans hji15
      by_cases c16 : 0 ≤ (ji15)
      rotate_left
      ·rw [if_neg c16] at H; exact absurd H (by simp)
      rw [if_pos c16] at H
      have c16b0 : decide (0 ≤ (ji15)) = true := decide_eq_true c16
      clear c16
      by_cases c17 : (ji15) < (l1.length : Int)
      rotate_left
      ·rw [if_neg c17] at H; exact absurd H (by simp)
      rw [if_pos c17] at H
      have c17b0 : decide ((ji15) < (l1.length : Int)) = true := decide_eq_true c17
      clear c17
      obtain ⟨ji18, hji18⟩ : ∃ j_ : Int, (wrap64 (x2_2 - (wrap64 (x11_2 * (rd l0_0 x24_1))))) = j_ := ⟨_, rfl⟩
      replace H : (if 0 ≤ (ji18) then (if (ji18) < ((rd_L9 l1 (ji15)).length : Int) then (if ((rd_T128 (rd_L9 l1 (ji15)) (ji18)).f0) > 0 then (if (wrap64 (((rd_T128 (rd_L9 l1 (ji15)) (ji18)).f1) + x11_2)) = x8_2 then (if x7_2.length < 17592186044416 then (f0z.l0 k2 l1 ji18 (x7_2 ++ [x11_2]) (wrap64 (x8_2 - x11_2)) l0_0 (l0_0.length : Int) ji15) else (none)) else (f0z.l1 k2 l1 x2_2 x7_2 x8_2 x24_1 (rd l0_0 x24_1) (wrap64 (x11_2 + 1)) l0_0 (l0_0.length : Int) x24_1)) else (f0z.l1 k2 l1 x2_2 x7_2 x8_2 x24_1 (rd l0_0 x24_1) (wrap64 (x11_2 + 1)) l0_0 (l0_0.length : Int) x24_1)) else (none)) else (none)) = some r := by first | (rw [hji18] at H; exact H) | (simp only [hji18] at H ⊢; exact H)
      have hji18w : (IntKind.i64.wrap (x2_2 - (wrap64 (x11_2 * (rd l0_0 x24_1))))) = ji18 := (i64_w _).trans hji18
      by_cases c19 : 0 ≤ (ji18)
      rotate_left
      ·rw [if_neg c19] at H; exact absurd H (by simp)
      rw [if_pos c19] at H
      have c19b0 : decide (0 ≤ (ji18)) = true := decide_eq_true c19
      clear c19
      by_cases c20 : (ji18) < ((rd_L9 l1 (ji15)).length : Int)
      rotate_left
      ·rw [if_neg c20] at H; exact absurd H (by simp)
      rw [if_pos c20] at H
      have c20b0 : decide ((ji18) < ((rd_L9 l1 (ji15)).length : Int)) = true := decide_eq_true c20
      clear c20
      by_cases c21 : ((rd_T128 (rd_L9 l1 (ji15)) (ji18)).f0) > 0
      ·rw [if_pos c21] at H
       have c21b0 : decide (0 < ((rd_T128 (rd_L9 l1 (ji15)) (ji18)).f0)) = true := decide_eq_true c21
       clear c21
       by_cases c22 : (wrap64 (((rd_T128 (rd_L9 l1 (ji15)) (ji18)).f1) + x11_2)) = x8_2
       ·rw [if_pos c22] at H
        have c22b0 : ((wrap64 (((rd_T128 (rd_L9 l1 (ji15)) (ji18)).f1) + x11_2)) == x8_2) = true := beq_iff_eq.mpr c22
        have c22b1 : ((wrap64 (((rd_T128 (rd_L9 l1 (ji15)) (ji18)).f1) + x11_2)) != x8_2) = false := bne_eq_false_iff_eq.mpr c22
        clear c22
        by_cases c23 : x7_2.length < 17592186044416
        rotate_left
        ·rw [if_neg c23] at H; exact absurd H (by simp)
        rw [if_pos c23] at H
        have LMc23 := Aside0.mk c23
        clear c23
        obtain ⟨y328, hy328⟩ : ∃ y_ : List Int, y_ = (x7_2 ++ [x11_2]) := ⟨_, rfl⟩
        replace H : (f0z.l0 k2 l1 ji18 y328 (wrap64 (x8_2 - x11_2)) l0_0 (l0_0.length : Int) ji15) = some r := by rw [hy328]; exact H
        have Ny328 := Aside0.mk hy328
        clear hy328
        have H' := Aside0.mk H
        clear H
        have p325 : 0 ≤ ((ji15) : Int) := of_decide_eq_true (by assumption)
        have q325 : (ji15) < (l1.length : Int) := of_decide_eq_true (by assumption)
        obtain ⟨ad325, A325_0, c325_0, e325, hx325_0, hl325_0, hi325_0⟩ := at_L9 HR1.out (ji15) p325 q325
        obtain rfl : ad322 = ad325 := (by injection e325)
        replace hx325_0 := (HB.out.cell (World.block_lt_of_cell? w _ hx325_0)).trans hx325_0
        have HR325_0 := Aside0.mk hi325_0
        have HC325_0 := Aside0.mk hl325_0
        clear hi325_0 hl325_0
        replace p325 := eq_true p325
        replace q325 := eq_true q325
        have p326 : 0 ≤ ((ji18) : Int) := of_decide_eq_true (by assumption)
        have q326 : (ji18) < ((rd_L9 l1 (ji15)).length : Int) := of_decide_eq_true (by assumption)
        obtain ⟨ad326, e326, hx326_0, hx326_1⟩ := at_T128 HR325_0.out (ji18) p326 q326
        cases e326
        replace hx326_0 := (HB.out.cell (World.block_lt_of_cell? w _ hx326_0)).trans hx326_0
        replace hx326_1 := (HB.out.cell (World.block_lt_of_cell? w _ hx326_1)).trans hx326_1
        replace p326 := eq_true p326
        replace q326 := eq_true q326
        go_wp2_with (first | ((with_reducible refine gate_dst (N := 12) rfl ?_); refine box_event ?hg (N := 12) ?hd (cs := #[.int .i64 0, .int .i64 0]) (t := 128) ?hr ?_; (case hd => rfl); (case hg => rfl); (case hr => go_simp; try rfl); intro gb327 hg w24 hbox hb; replace HO_7 := Aside0.mk (Kd.R_below (HO_7.out) hb); have BK327 := Aside0.mk (hbox); have GW327 := Aside0.mk ((by rw [hg]; exact (below_size (by repeat (first | (with_reducible first | exact HB.out | apply below_alloc | apply pw_below_drewN | apply below_drew1 | refine below_set ?_ GE318.out) | exact HB.out))) : w.heap.size ≤ gb327)); have GE327 := Aside0.mk ((by rw [hg]; exact (below_size (by repeat (first | (with_reducible first | exact HB.out | apply below_alloc | apply pw_below_drewN | apply below_drew1 | refine below_set ?_ GE318.out) | exact HB.out))) : w.heap.size ≤ gb327)); replace HB := Aside0.mk (below_step (by repeat (first | (with_reducible first | exact HB.out | apply below_alloc | apply pw_below_drewN | apply below_drew1 | refine below_set ?_ GE318.out) | exact HB.out)) hb); have NB318_327 := Aside0.mk ((by rw [hg]; exact Nat.ne_of_lt (blk_lt (g := gb318) (o := .cells #[.slice (some ad324) l0_0.length c0_0, .slice A0_1 l0_1.length c0_1] 118 (0, 0)) (by (with_reducible repeat (first | refine blk_drewN ?_ _ | refine blk_drew ?_ | refine blk_alloc ?_ _)); exact BK318.out)) : gb318 ≠ gb327)); have NB327_318 := Aside0.mk ((by rw [hg]; exact Nat.ne_of_gt (blk_lt (g := gb318) (o := .cells #[.slice (some ad324) l0_0.length c0_0, .slice A0_1 l0_1.length c0_1] 118 (0, 0)) (by (with_reducible repeat (first | refine blk_drewN ?_ _ | refine blk_drew ?_ | refine blk_alloc ?_ _)); exact BK318.out)) : gb327 ≠ gb318)); replace BK318 := Aside0.mk (blk_below (g := gb318) (o := .cells #[.slice (some ad324) l0_0.length c0_0, .slice A0_1 l0_1.length c0_1] 118 (0, 0)) (by (with_reducible repeat (first | refine blk_drewN ?_ _ | refine blk_drew ?_ | refine blk_alloc ?_ _)); exact BK318.out) hb); clear hb hbox hg; have hnb25 := NB327_318.out; have hnc25 := NB318_327.out; have hcz26_0 : w24.cell? ⟨gb327, 0, none⟩ = some (.int .i64 0) := (blk_cell BK327.out 0).trans rfl; have hcz26_1 : w24.cell? ⟨gb327, 1, none⟩ = some (.int .i64 0) := (blk_cell BK327.out 1).trans rfl; have hfz26_0 := blk_frozen BK327.out 0; have hfz26_1 := blk_frozen BK327.out 1) | ((with_reducible refine gate_builtin (b := .append) (xs := #[.tmp 54, .tmp 56]) rfl ?_); at_builtin; refine Kd.R_append (Kd.int .i64) (w0 := w) w.heap.size rfl (.tmp 54) (.tmp 56) 34 2 (.int .i64 0) 8 rfl Try.underlying34 info2 rfl (by decide) (by omega) u7 x7_2 x11_2 [.int .i64 x11_2] (fun _ => True) (fun _ => False) rfl (by first | (go_simp; done) | (go_simp; rfl)) ?aP (fun _ hk => hk.elim) ?aF ?aO ?aB ?aS ?aL ?_; (case aP => exact rfl); (case aB => exact (by repeat (first | (with_reducible first | exact HB.out | apply below_alloc | apply pw_below_drewN | apply below_drew1 | refine below_set ?_ GE318.out | refine below_set ?_ GE327.out) | exact HB.out))); (case aF => exact (fun _ _ => trivial)); (case aO => exact (by (with_reducible repeat (first | apply Kd.R_alloc | apply Kd.R_drewN | apply Kd.R_drew)); exact Kd.R_mono (Kd.R_far (p := ⟨gb327, 1, none⟩) (Kd.R_far (p := ⟨gb327, 0, none⟩) (Kd.R_types HO_7.out BK327.out (by decide)) (fun _ hk => hk.2) (.int .i64 ((rd_T128 (rd_L9 l1 (ji15)) (ji18)).f0))) (fun _ hk => hk.2) (.int .i64 ((rd_T128 (rd_L9 l1 (ji15)) (ji18)).f1))) (fun _ hk => trivial))); (case aS => exact (below_size (by repeat (first | (with_reducible first | exact HB.out | apply below_alloc | apply pw_below_drewN | apply below_drew1 | refine below_set ?_ GE318.out | refine below_set ?_ GE327.out) | exact HB.out)))); (case aL => have := LMc23.out; omega); intro v329 w27 ho hb hg hat; rw [← Ny328.out] at ho; replace BK318 := Aside0.mk (blk_grown (g := gb318) (o := .cells #[.slice (some ad324) l0_0.length c0_0, .slice A0_1 l0_1.length c0_1] 118 (0, 0)) (by (with_reducible repeat (first | refine blk_drewN ?_ _ | refine blk_drew ?_ | refine blk_alloc ?_ _)); refine blk_far ?_ NB318_327.out _; (with_reducible repeat (first | refine blk_drewN ?_ _ | refine blk_drew ?_ | refine blk_alloc ?_ _)); refine blk_far ?_ NB318_327.out _; (with_reducible repeat (first | refine blk_drewN ?_ _ | refine blk_drew ?_ | refine blk_alloc ?_ _)); exact BK318.out) hg (Kd.R_ne HO_7.out BK318.out (by decide))); replace BK327 := Aside0.mk (blk_grown (g := gb327) (o := .cells #[.int .i64 ((rd_T128 (rd_L9 l1 (ji15)) (ji18)).f0), .int .i64 ((rd_T128 (rd_L9 l1 (ji15)) (ji18)).f1)] 128 (0, 0)) (by (with_reducible repeat (first | refine blk_drewN ?_ _ | refine blk_drew ?_ | refine blk_alloc ?_ _)); refine blk_put (cs := #[.int .i64 ((rd_T128 (rd_L9 l1 (ji15)) (ji18)).f0), .int .i64 0]) ?_ 1 _ rfl; (with_reducible repeat (first | refine blk_drewN ?_ _ | refine blk_drew ?_ | refine blk_alloc ?_ _)); refine blk_put (cs := #[.int .i64 0, .int .i64 0]) ?_ 0 _ rfl; (with_reducible repeat (first | refine blk_drewN ?_ _ | refine blk_drew ?_ | refine blk_alloc ?_ _)); exact BK327.out) hg (Kd.R_ne HO_7.out BK327.out (by decide))); replace HB := Aside0.mk (hb); have HO330 := Aside0.mk (ho); clear HO_7; clear ho hb hg hat))
        go_roundg k2
        case measure => have := HK1.out; have := HK2.out; omega
        case rel => exact ⟨(ji18), (y328), (wrap64 (x8_2 - x11_2)), (ji15), (by first | rfl | (simp; done) | (simp only [← hji18] <;> (first | rfl | simp)) | (simp [*]; done)), rfl, (by first | rfl | (simp; done) | (simp only [← hji15] <;> (first | rfl | simp)) | (simp [*]; done)), H', ⟨by have := HK1.out; have := HK2.out; omega⟩, ⟨HO330.out⟩, ⟨BK318.out⟩, ⟨HB.out⟩⟩
       ·rw [if_neg c22] at H
        have c22b0 : ((wrap64 (((rd_T128 (rd_L9 l1 (ji15)) (ji18)).f1) + x11_2)) == x8_2) = false := beq_eq_false_iff_ne.mpr c22
        have c22b1 : ((wrap64 (((rd_T128 (rd_L9 l1 (ji15)) (ji18)).f1) + x11_2)) != x8_2) = true := bne_iff_ne.mpr c22
        have H' := Aside0.mk H
        clear H
        have p325 : 0 ≤ ((ji15) : Int) := of_decide_eq_true (by assumption)
        have q325 : (ji15) < (l1.length : Int) := of_decide_eq_true (by assumption)
        obtain ⟨ad325, A325_0, c325_0, e325, hx325_0, hl325_0, hi325_0⟩ := at_L9 HR1.out (ji15) p325 q325
        obtain rfl : ad322 = ad325 := (by injection e325)
        replace hx325_0 := (HB.out.cell (World.block_lt_of_cell? w _ hx325_0)).trans hx325_0
        have HR325_0 := Aside0.mk hi325_0
        have HC325_0 := Aside0.mk hl325_0
        clear hi325_0 hl325_0
        replace p325 := eq_true p325
        replace q325 := eq_true q325
        have p326 : 0 ≤ ((ji18) : Int) := of_decide_eq_true (by assumption)
        have q326 : (ji18) < ((rd_L9 l1 (ji15)).length : Int) := of_decide_eq_true (by assumption)
        obtain ⟨ad326, e326, hx326_0, hx326_1⟩ := at_T128 HR325_0.out (ji18) p326 q326
        cases e326
        replace hx326_0 := (HB.out.cell (World.block_lt_of_cell? w _ hx326_0)).trans hx326_0
        replace hx326_1 := (HB.out.cell (World.block_lt_of_cell? w _ hx326_1)).trans hx326_1
        replace p326 := eq_true p326
        replace q326 := eq_true q326
        go_wp2_with (first | ((with_reducible refine gate_dst (N := 12) rfl ?_); refine box_event ?hg (N := 12) ?hd (cs := #[.int .i64 0, .int .i64 0]) (t := 128) ?hr ?_; (case hd => rfl); (case hg => rfl); (case hr => go_simp; try rfl); intro gb327 hg w28 hbox hb; replace HO_7 := Aside0.mk (Kd.R_below HO_7.out hb); have BK327 := Aside0.mk (hbox); have GW327 := Aside0.mk ((by rw [hg]; exact (below_size HB.out) : w.heap.size ≤ gb327)); have GE327 := Aside0.mk ((by rw [hg]; exact (below_size HB.out) : w.heap.size ≤ gb327)); replace HB := Aside0.mk (below_step HB.out hb); have NB318_327 := Aside0.mk ((by rw [hg]; exact Nat.ne_of_lt (blk_lt (g := gb318) (o := .cells #[.slice (some ad324) l0_0.length c0_0, .slice A0_1 l0_1.length c0_1] 118 (0, 0)) BK318.out) : gb318 ≠ gb327)); have NB327_318 := Aside0.mk ((by rw [hg]; exact Nat.ne_of_gt (blk_lt (g := gb318) (o := .cells #[.slice (some ad324) l0_0.length c0_0, .slice A0_1 l0_1.length c0_1] 118 (0, 0)) BK318.out) : gb327 ≠ gb318)); replace BK318 := Aside0.mk (blk_below (g := gb318) (o := .cells #[.slice (some ad324) l0_0.length c0_0, .slice A0_1 l0_1.length c0_1] 118 (0, 0)) BK318.out hb); clear hb hbox hg; have hnb29 := NB327_318.out; have hnc29 := NB318_327.out; have hcz30_0 : w28.cell? ⟨gb327, 0, none⟩ = some (.int .i64 0) := (blk_cell BK327.out 0).trans rfl; have hcz30_1 : w28.cell? ⟨gb327, 1, none⟩ = some (.int .i64 0) := (blk_cell BK327.out 1).trans rfl; have hfz30_0 := blk_frozen BK327.out 0; have hfz30_1 := blk_frozen BK327.out 1))
        go_roundg k2
        case measure => have := HK1.out; have := HK2.out; omega
        case rel => exact ⟨(x2_2), (x7_2), (x8_2), (wrap64 (x11_2 + 1)), (by first | rfl | (simp; done) | (simp [*]; done)), (by first | rfl | (simp; done) | (simp [*]; done)), (by first | rfl | (simp; done) | (simp [*]; done)), H', ⟨by have := HK1.out; have := HK2.out; omega⟩, ⟨by (with_reducible repeat (first | apply Kd.R_alloc | apply Kd.R_drewN | apply Kd.R_drew)); exact Kd.R_mono (Kd.R_far (p := ⟨gb327, 1, none⟩) (Kd.R_far (p := ⟨gb327, 0, none⟩) (Kd.R_types HO_7.out BK327.out (by decide)) (fun _ hk => hk.2) (.int .i64 ((rd_T128 (rd_L9 l1 (ji15)) (ji18)).f0))) (fun _ hk => hk.2) (.int .i64 ((rd_T128 (rd_L9 l1 (ji15)) (ji18)).f1))) (fun _ hk => trivial)⟩, ⟨by (with_reducible repeat (first | refine blk_drewN ?_ _ | refine blk_drew ?_ | refine blk_alloc ?_ _)); refine blk_far ?_ NB318_327.out _; (with_reducible repeat (first | refine blk_drewN ?_ _ | refine blk_drew ?_ | refine blk_alloc ?_ _)); refine blk_far ?_ NB318_327.out _; (with_reducible repeat (first | refine blk_drewN ?_ _ | refine blk_drew ?_ | refine blk_alloc ?_ _)); exact BK318.out⟩, ⟨by repeat (first | (with_reducible first | exact HB.out | apply below_alloc | apply pw_below_drewN | apply below_drew1 | refine below_set ?_ GE318.out | refine below_set ?_ GE327.out) | exact HB.out)⟩⟩
      ·rw [if_neg c21] at H
       have c21b0 : decide (0 < ((rd_T128 (rd_L9 l1 (ji15)) (ji18)).f0)) = false := decide_eq_false c21
       clear c21
       have H' := Aside0.mk H
       clear H
       have p325 : 0 ≤ ((ji15) : Int) := of_decide_eq_true (by assumption)
       have q325 : (ji15) < (l1.length : Int) := of_decide_eq_true (by assumption)
       obtain ⟨ad325, A325_0, c325_0, e325, hx325_0, hl325_0, hi325_0⟩ := at_L9 HR1.out (ji15) p325 q325
       obtain rfl : ad322 = ad325 := (by injection e325)
       replace hx325_0 := (HB.out.cell (World.block_lt_of_cell? w _ hx325_0)).trans hx325_0
       have HR325_0 := Aside0.mk hi325_0
       have HC325_0 := Aside0.mk hl325_0
       clear hi325_0 hl325_0
       replace p325 := eq_true p325
       replace q325 := eq_true q325
       have p326 : 0 ≤ ((ji18) : Int) := of_decide_eq_true (by assumption)
       have q326 : (ji18) < ((rd_L9 l1 (ji15)).length : Int) := of_decide_eq_true (by assumption)
       obtain ⟨ad326, e326, hx326_0, hx326_1⟩ := at_T128 HR325_0.out (ji18) p326 q326
       cases e326
       replace hx326_0 := (HB.out.cell (World.block_lt_of_cell? w _ hx326_0)).trans hx326_0
       replace hx326_1 := (HB.out.cell (World.block_lt_of_cell? w _ hx326_1)).trans hx326_1
       replace p326 := eq_true p326
       replace q326 := eq_true q326
       go_wp2_with (first | ((with_reducible refine gate_dst (N := 12) rfl ?_); refine box_event ?hg (N := 12) ?hd (cs := #[.int .i64 0, .int .i64 0]) (t := 128) ?hr ?_; (case hd => rfl); (case hg => rfl); (case hr => go_simp; try rfl); intro gb327 hg w31 hbox hb; replace HO_7 := Aside0.mk (Kd.R_below HO_7.out hb); have BK327 := Aside0.mk (hbox); have GW327 := Aside0.mk ((by rw [hg]; exact (below_size HB.out) : w.heap.size ≤ gb327)); have GE327 := Aside0.mk ((by rw [hg]; exact (below_size HB.out) : w.heap.size ≤ gb327)); replace HB := Aside0.mk (below_step HB.out hb); have NB318_327 := Aside0.mk ((by rw [hg]; exact Nat.ne_of_lt (blk_lt (g := gb318) (o := .cells #[.slice (some ad324) l0_0.length c0_0, .slice A0_1 l0_1.length c0_1] 118 (0, 0)) BK318.out) : gb318 ≠ gb327)); have NB327_318 := Aside0.mk ((by rw [hg]; exact Nat.ne_of_gt (blk_lt (g := gb318) (o := .cells #[.slice (some ad324) l0_0.length c0_0, .slice A0_1 l0_1.length c0_1] 118 (0, 0)) BK318.out) : gb327 ≠ gb318)); replace BK318 := Aside0.mk (blk_below (g := gb318) (o := .cells #[.slice (some ad324) l0_0.length c0_0, .slice A0_1 l0_1.length c0_1] 118 (0, 0)) BK318.out hb); clear hb hbox hg; have hnb32 := NB327_318.out; have hnc32 := NB318_327.out; have hcz33_0 : w31.cell? ⟨gb327, 0, none⟩ = some (.int .i64 0) := (blk_cell BK327.out 0).trans rfl; have hcz33_1 : w31.cell? ⟨gb327, 1, none⟩ = some (.int .i64 0) := (blk_cell BK327.out 1).trans rfl; have hfz33_0 := blk_frozen BK327.out 0; have hfz33_1 := blk_frozen BK327.out 1))
       go_roundg k2
       case measure => have := HK1.out; have := HK2.out; omega
       case rel => exact ⟨(x2_2), (x7_2), (x8_2), (wrap64 (x11_2 + 1)), (by first | rfl | (simp; done) | (simp [*]; done)), (by first | rfl | (simp; done) | (simp [*]; done)), (by first | rfl | (simp; done) | (simp [*]; done)), H', ⟨by have := HK1.out; have := HK2.out; omega⟩, ⟨by (with_reducible repeat (first | apply Kd.R_alloc | apply Kd.R_drewN | apply Kd.R_drew)); exact Kd.R_mono (Kd.R_far (p := ⟨gb327, 1, none⟩) (Kd.R_far (p := ⟨gb327, 0, none⟩) (Kd.R_types HO_7.out BK327.out (by decide)) (fun _ hk => hk.2) (.int .i64 ((rd_T128 (rd_L9 l1 (ji15)) (ji18)).f0))) (fun _ hk => hk.2) (.int .i64 ((rd_T128 (rd_L9 l1 (ji15)) (ji18)).f1))) (fun _ hk => trivial)⟩, ⟨by (with_reducible repeat (first | refine blk_drewN ?_ _ | refine blk_drew ?_ | refine blk_alloc ?_ _)); refine blk_far ?_ NB318_327.out _; (with_reducible repeat (first | refine blk_drewN ?_ _ | refine blk_drew ?_ | refine blk_alloc ?_ _)); refine blk_far ?_ NB318_327.out _; (with_reducible repeat (first | refine blk_drewN ?_ _ | refine blk_drew ?_ | refine blk_alloc ?_ _)); exact BK318.out⟩, ⟨by repeat (first | (with_reducible first | exact HB.out | apply below_alloc | apply pw_below_drewN | apply below_drew1 | refine below_set ?_ GE318.out | refine below_set ?_ GE327.out) | exact HB.out)⟩⟩
   ·rw [if_neg c12] at H
    have c12b0 : decide (x24_1 < (l0_0.length : Int)) = false := decide_eq_false c12
    clear c12
    obtain rfl := Option.some.inj H
    go_wp2
    go_ret
    exact ⟨_, rfl, HO_7.out, HB.out⟩
def f1z.f (k : Nat) (l0_0 : List Int) (l0_1 : List Int) (a1 : Int) : Option (List Int × Int × Bool) := (impl_purse_table.f k l0_0 l0_1 a1).bind fun t332 => (if 0 < (t332.length : Int) then (if 0 ≤ a1 then (if a1 < ((rd_L9 t332 0).length : Int) then (if ((rd_T128 (rd_L9 t332 0) a1).f0) = 0 then (some (([] : List Int), 0, false)) else ((f0z.f k l0_0 l0_1 t332 a1).bind fun t337 => (some (t337, (rd_T128 (rd_L9 t332 0) a1).f1, true)))) else (none)) else (none)) else (none))
theorem f1z.mono : ∀ a0 a1 a2 k, LeO (f1z.f k a0 a1 a2) (f1z.f (k + 1) a0 a1 a2) := by
 intro a0 a1 a2 k
 unfold f1z.f
 repeat' first
   | (with_reducible exact f0z.mono _ _ _ _ _)
   | (with_reducible exact impl_purse_table.mono _ _ _ _)
   | (with_reducible exact LeO.refl _)
   | (with_reducible exact LeO.none _)
   | (with_reducible refine LeO.ite ?_ ?_)
   | (with_reducible refine LeO.bind ?_ (fun _ => ?_))
   | exact f0z.mono _ _ _ _ _
   | exact impl_purse_table.mono _ _ _ _
   | exact LeO.none _
   | refine LeO.ite ?_ ?_
   | refine LeO.bind ?_ (fun _ => ?_)
def f1z.T4 : Bool × List (List Nat × List Nat) := (true, [([], []), ([], []), ([], []), ([0, 1, 2], [0, 1, 2]), ([], []), ([4], [4]), ([5], [5]), ([], []), ([6, 7], [6, 7]), ([8], [8]), ([9], [9]), ([3, 3, 0, 1, 2, 3], [3]), ([10, 11, 0, 1, 2, 3, 4, 5, 6, 7, 8, 9, 10, 11], [10]), ([12, 0, 1, 2, 3, 4, 5, 6, 7, 8, 9, 10, 11, 12], [])])
def f1z.B4 : List Nat := [0, 0, 0, 7, 0, 16, 48, 0, 240, 496, 1008, 15, 4095, 8191]
theorem f1z.tab4 : rtab .any (opsOf Try.f118 4) = f1z.T4 := by kernel_rfl
theorem f1z.bits4 : waitsOk f1z.T4.2 f1z.B4 = true := by kernel_rfl
set_option maxHeartbeats 8000000 in
set_option maxRecDepth 100000 in
theorem f1z.calls (k : Nat) (A0_0 : Option Addr) (c0_0 : Nat) (l0_0 : List Int) (A0_1 : Option Addr) (c0_1 : Nat) (l0_1 : List Int) (a1 : Int) (r1 : List Int) (r2 : Int) (r3 : Bool) (w : World) (hr0_0 : Kd.C (Kd.int .i64) w A0_0 l0_0.length l0_0) (hc0_0 : l0_0.length ≤ c0_0) (hr0_1 : Kd.C (Kd.int .i64) w A0_1 l0_1.length l0_1) (hc0_1 : l0_1.length ≤ c0_1) (h : f1z.f k l0_0 l0_1 a1 = some (r1, r2, r3)) :
  Calls Try.prog 118 #[.agg #[.slice A0_0 l0_0.length c0_0, .slice A0_1 l0_1.length c0_1], .int .i64 a1] w fun e w' => ∃ v0_ : Value, e = .returned (.tuple #[v0_, .int .i64 r2, .bool r3]) ∧ Kd.R (Kd.int .i64) 2 w' w.heap.size (fun _ => True) v0_ r1 ∧ Below w.heap.size w w' := by
 have hu118 := Try.underlying118
 have HR0_0 := Aside0.mk hr0_0
 have HC0_0 := Aside0.mk hc0_0
 clear hr0_0 hc0_0
 have HR0_1 := Aside0.mk hr0_1
 have HC0_1 := Aside0.mk hc0_1
 clear hr0_1 hc0_1
 have HB := Aside0.mk (Below.refl w.heap.size w)
 have H : ((impl_purse_table.f k l0_0 l0_1 a1).bind fun t332 => (if 0 < (t332.length : Int) then (if 0 ≤ a1 then (if a1 < ((rd_L9 t332 0).length : Int) then (if ((rd_T128 (rd_L9 t332 0) a1).f0) = 0 then (some (([] : List Int), 0, false)) else ((f0z.f k l0_0 l0_1 t332 a1).bind fun t337 => (some (t337, (rd_T128 (rd_L9 t332 0) a1).f1, true)))) else (none)) else (none)) else (none))) = some (r1, r2, r3) := h
 clear h
 replace H := Option.bind_eq_some_iff.mp H
 obtain ⟨t332, A30, H⟩ := H
 replace H : (if 0 < (t332.length : Int) then (if 0 ≤ a1 then (if a1 < ((rd_L9 t332 0).length : Int) then (if ((rd_T128 (rd_L9 t332 0) a1).f0) = 0 then (some (([] : List Int), 0, false)) else ((f0z.f k l0_0 l0_1 t332 a1).bind fun t337 => (some (t337, (rd_T128 (rd_L9 t332 0) a1).f1, true)))) else (none)) else (none)) else (none)) = some (r1, r2, r3) := H
 have A3 := Aside0.mk A30
 clear A30
 by_cases c4 : 0 < (t332.length : Int)
 rotate_left
 ·rw [if_neg c4] at H; exact absurd H (by simp)
 rw [if_pos c4] at H
 have c4b0 : decide (0 < (t332.length : Int)) = true := decide_eq_true c4
 have c4b1 : decide (0 < t332.length) = true := decide_eq_true (by omega)
 clear c4
 by_cases c5 : 0 ≤ a1
 rotate_left
 ·rw [if_neg c5] at H; exact absurd H (by simp)
 rw [if_pos c5] at H
 have c5b0 : decide (0 ≤ a1) = true := decide_eq_true c5
 clear c5
 by_cases c6 : a1 < ((rd_L9 t332 0).length : Int)
 rotate_left
 ·rw [if_neg c6] at H; exact absurd H (by simp)
 rw [if_pos c6] at H
 have c6b0 : decide (a1 < ((rd_L9 t332 0).length : Int)) = true := decide_eq_true c6
 clear c6
 by_cases c7 : ((rd_T128 (rd_L9 t332 0) a1).f0) = 0
 ·rw [if_pos c7] at H
  have c7b0 : (((rd_T128 (rd_L9 t332 0) a1).f0) == 0) = true := beq_iff_eq.mpr c7
  have c7b1 : (((rd_T128 (rd_L9 t332 0) a1).f0) != 0) = false := bne_eq_false_iff_eq.mpr c7
  clear c7
  simp only [Option.some.injEq, Prod.mk.injEq] at H
  obtain ⟨rfl, rfl, rfl⟩ := H
  go_enter Try.func118, Try.ntmps118
  go_wp2_with (first | ((with_reducible refine gate_dst (N := 2) rfl ?_); refine box_event ?hg (N := 2) ?hd (cs := #[.slice A0_0 l0_0.length c0_0, .slice A0_1 l0_1.length c0_1]) (t := 118) ?hr ?_; (case hd => rfl); (case hg => rfl); (case hr => go_simp; try rfl); intro gb331 hg w8 hbox hb; have BK331 := Aside0.mk (hbox); have GW331 := Aside0.mk ((by rw [hg]; exact (below_size HB.out) : w.heap.size ≤ gb331)); have GE331 := Aside0.mk ((by rw [hg]; exact (below_size HB.out) : w.heap.size ≤ gb331)); replace HB := Aside0.mk (below_step HB.out hb); clear hb hbox hg; have hcz9_0 : w8.cell? ⟨gb331, 0, none⟩ = some (.slice A0_0 l0_0.length c0_0) := (blk_cell BK331.out 0).trans rfl; have hcz9_1 : w8.cell? ⟨gb331, 1, none⟩ = some (.slice A0_1 l0_1.length c0_1) := (blk_cell BK331.out 1).trans rfl; have hfz9_0 := blk_frozen BK331.out 0; have hfz9_1 := blk_frozen BK331.out 1) | ((with_reducible refine gate_callee (f := 123) rfl ?_); refine goesL_ (some 10) rfl rfl Try.func123 (by kernel_rfl) rfl #[.agg #[.slice A0_0 l0_0.length c0_0, .slice A0_1 l0_1.length c0_1], .int .i64 a1] rfl (by simp only [List.map_toArray, List.map_cons, List.map_nil]; try rfl) ?_; (with_reducible refine (impl_purse_table.calls k _ _ l0_0 _ _ l0_1 a1 t332 _ ?side1 ?side2 ?side3 ?side4 A3.out).mono ?_); (case side1 => exact (Kd.C_below HR0_0.out HB.out)); (case side2 => exact HC0_0.out); (case side3 => exact (Kd.C_below HR0_1.out HB.out)); (case side4 => exact HC0_1.out); rintro e w10 ⟨v333, rfl, ho0, hb⟩; refine ⟨_, rfl, ?_⟩; have HO334 := Aside0.mk (Kd.S_lower ho0 (below_size HB.out)); replace BK331 := Aside0.mk (blk_below (g := gb331) (o := .cells #[.slice A0_0 l0_0.length c0_0, .slice A0_1 l0_1.length c0_1] 118 (0, 0)) BK331.out hb); replace HB := Aside0.mk (below_step HB.out hb); obtain ⟨Ao11, co11, eo11⟩ := Kd.S_slice HO334.out; subst eo11; have p335 : 0 ≤ (0 : Int) := (by omega); have q335 : 0 < (t332.length : Int) := of_decide_eq_true (by assumption); obtain ⟨ad335, A335_0, c335_0, e335, hx335_0, hl335_0, hi335_0⟩ := at_L9 (Kd.S_reads' HO334.out).2.2 0 p335 q335; cases e335; obtain ⟨ce335, hce335, hMe335, hcc335⟩ := Kd.S_get HO334.out [] 0 p335 (by first | exact q335 | exact of_decide_eq_true (by assumption) | (have e_ := (Kd.S_reads' HO334.out).1; omega)); obtain ⟨ve335_0, rfl, ge335_0⟩ := hMe335; have hv335_0 := hcc335 0 _ rfl; rw [Nat.add_zero, show ((Kd.slice 128 k128)).sz = 1 from rfl, Nat.mul_one] at hv335_0; replace hv335_0 := Option.some.inj (hv335_0.symm.trans hx335_0); rw [hv335_0] at ge335_0; have HL335_0 := Aside0.mk (show Kd.R k128 128 _ _ _ _ (rd_L9 t332 0) from ge335_0); clear hv335_0 ge335_0; clear hcc335 hce335; have qi335 : (0 < t332.length) = True := eq_true (by omega); (try rw [show ((0 : Int)).toNat = 0 from rfl] at hx335_0); (try rw [Addr.add_zero'] at hx335_0); have HR335_0 := Aside0.mk hi335_0; have HC335_0 := Aside0.mk hl335_0; clear hi335_0 hl335_0; replace p335 := eq_true p335; replace q335 := eq_true q335; have p336 : 0 ≤ (a1 : Int) := of_decide_eq_true (by assumption); have q336 : a1 < ((rd_L9 t332 0).length : Int) := of_decide_eq_true (by assumption); obtain ⟨ad336, e336, hx336_0, hx336_1⟩ := at_T128 HR335_0.out a1 p336 q336; cases e336; replace p336 := eq_true p336; replace q336 := eq_true q336))
  go_ret3
  exact ⟨_, rfl, by first | exact Kd.R_nil _ _ _ _ _ | exact Kd.N_nil _ _ _ _ _ | exact Kd.V_nil _ _ _ _ _ | exact Kd.Q_nil _ _ _ _ _ | exact Kd.S_nil _ _ _ _ _, HB.out⟩
 ·rw [if_neg c7] at H
  have c7b0 : (((rd_T128 (rd_L9 t332 0) a1).f0) == 0) = false := beq_eq_false_iff_ne.mpr c7
  have c7b1 : (((rd_T128 (rd_L9 t332 0) a1).f0) != 0) = true := bne_iff_ne.mpr c7
  replace H := Option.bind_eq_some_iff.mp H
  obtain ⟨t337, A120, H⟩ := H
  replace H : (some (t337, (rd_T128 (rd_L9 t332 0) a1).f1, true)) = some (r1, r2, r3) := H
  have A12 := Aside0.mk A120
  clear A120
  simp only [Option.some.injEq, Prod.mk.injEq] at H
  obtain ⟨rfl, rfl, rfl⟩ := H
  go_enter Try.func118, Try.ntmps118
  try go_wp2_with (first | ((with_reducible refine gate_dst (N := 2) rfl ?_); refine box_event ?hg (N := 2) ?hd (cs := #[.slice A0_0 l0_0.length c0_0, .slice A0_1 l0_1.length c0_1]) (t := 118) ?hr ?_; (case hd => rfl); (case hg => rfl); (case hr => go_simp; try rfl); intro gb331 hg w13 hbox hb; have BK331 := Aside0.mk (hbox); have GW331 := Aside0.mk ((by rw [hg]; exact (below_size HB.out) : w.heap.size ≤ gb331)); have GE331 := Aside0.mk ((by rw [hg]; exact (below_size HB.out) : w.heap.size ≤ gb331)); replace HB := Aside0.mk (below_step HB.out hb); clear hb hbox hg; have hcz14_0 : w13.cell? ⟨gb331, 0, none⟩ = some (.slice A0_0 l0_0.length c0_0) := (blk_cell BK331.out 0).trans rfl; have hcz14_1 : w13.cell? ⟨gb331, 1, none⟩ = some (.slice A0_1 l0_1.length c0_1) := (blk_cell BK331.out 1).trans rfl; have hfz14_0 := blk_frozen BK331.out 0; have hfz14_1 := blk_frozen BK331.out 1) | ((with_reducible refine gate_callee (f := 123) rfl ?_); refine goesL_ (some 10) rfl rfl Try.func123 (by kernel_rfl) rfl #[.agg #[.slice A0_0 l0_0.length c0_0, .slice A0_1 l0_1.length c0_1], .int .i64 a1] rfl (by simp only [List.map_toArray, List.map_cons, List.map_nil]; try rfl) ?_; (with_reducible refine (impl_purse_table.calls k _ _ l0_0 _ _ l0_1 a1 t332 _ ?side1 ?side2 ?side3 ?side4 A3.out).mono ?_); (case side1 => exact (Kd.C_below HR0_0.out HB.out)); (case side2 => exact HC0_0.out); (case side3 => exact (Kd.C_below HR0_1.out HB.out)); (case side4 => exact HC0_1.out); rintro e w15 ⟨v333, rfl, ho0, hb⟩; refine ⟨_, rfl, ?_⟩; have HO334 := Aside0.mk (Kd.S_lower ho0 (below_size HB.out)); replace BK331 := Aside0.mk (blk_below (g := gb331) (o := .cells #[.slice A0_0 l0_0.length c0_0, .slice A0_1 l0_1.length c0_1] 118 (0, 0)) BK331.out hb); replace HB := Aside0.mk (below_step HB.out hb); obtain ⟨Ao16, co16, eo16⟩ := Kd.S_slice HO334.out; subst eo16; have p335 : 0 ≤ (0 : Int) := (by omega); have q335 : 0 < (t332.length : Int) := of_decide_eq_true (by assumption); obtain ⟨ad335, A335_0, c335_0, e335, hx335_0, hl335_0, hi335_0⟩ := at_L9 (Kd.S_reads' HO334.out).2.2 0 p335 q335; cases e335; obtain ⟨ce335, hce335, hMe335, hcc335⟩ := Kd.S_get HO334.out [] 0 p335 (by first | exact q335 | exact of_decide_eq_true (by assumption) | (have e_ := (Kd.S_reads' HO334.out).1; omega)); obtain ⟨ve335_0, rfl, ge335_0⟩ := hMe335; have hv335_0 := hcc335 0 _ rfl; rw [Nat.add_zero, show ((Kd.slice 128 k128)).sz = 1 from rfl, Nat.mul_one] at hv335_0; replace hv335_0 := Option.some.inj (hv335_0.symm.trans hx335_0); rw [hv335_0] at ge335_0; have HL335_0 := Aside0.mk (show Kd.R k128 128 _ _ _ _ (rd_L9 t332 0) from ge335_0); clear hv335_0 ge335_0; clear hcc335 hce335; have qi335 : (0 < t332.length) = True := eq_true (by omega); (try rw [show ((0 : Int)).toNat = 0 from rfl] at hx335_0); (try rw [Addr.add_zero'] at hx335_0); have HR335_0 := Aside0.mk hi335_0; have HC335_0 := Aside0.mk hl335_0; clear hi335_0 hl335_0; replace p335 := eq_true p335; replace q335 := eq_true q335; have p336 : 0 ≤ (a1 : Int) := of_decide_eq_true (by assumption); have q336 : a1 < ((rd_L9 t332 0).length : Int) := of_decide_eq_true (by assumption); obtain ⟨ad336, e336, hx336_0, hx336_1⟩ := at_T128 HR335_0.out a1 p336 q336; cases e336; replace p336 := eq_true p336; replace q336 := eq_true q336))
  replace HO334 := Aside0.mk (Kd.S_drew HO334.out)
  replace HL335_0 := Aside0.mk (Kd.R_drew HL335_0.out)
  replace BK331 := Aside0.mk (blk_drew BK331.out)
  replace HR335_0 := Aside0.mk (Kd.C_drew HR335_0.out)
  replace HB := Aside0.mk (below_drew1 HB.out)
  have p340 : 0 ≤ (0 : Int) := (by omega)
  have q340 : 0 < (t332.length : Int) := of_decide_eq_true (by assumption)
  obtain ⟨ad340, A340_0, c340_0, e340, hx340_0, hl340_0, hi340_0⟩ := at_L9 (Kd.S_reads' HO334.out).2.2 0 p340 q340
  obtain rfl : ad335 = ad340 := (by injection e340)
  obtain ⟨ce340, hce340, hMe340, hcc340⟩ := Kd.S_get HO334.out [] 0 p340 (by first | exact q340 | exact of_decide_eq_true (by assumption) | (have e_ := (Kd.S_reads' HO334.out).1; omega))
  obtain ⟨ve340_0, rfl, ge340_0⟩ := hMe340
  have hv340_0 := hcc340 0 _ rfl
  rw [Nat.add_zero, show ((Kd.slice 128 k128)).sz = 1 from rfl, Nat.mul_one] at hv340_0
  replace hv340_0 := Option.some.inj (hv340_0.symm.trans hx340_0)
  rw [hv340_0] at ge340_0
  have HL340_0 := Aside0.mk (show Kd.R k128 128 _ _ _ _ (rd_L9 t332 0) from ge340_0)
  clear hv340_0 ge340_0
  clear hcc340 hce340
  have qi340 : (0 < t332.length) = True := eq_true (by omega)
  (try rw [show ((0 : Int)).toNat = 0 from rfl] at hx340_0)
  (try rw [Addr.add_zero'] at hx340_0)
  have HR340_0 := Aside0.mk hi340_0
  have HC340_0 := Aside0.mk hl340_0
  clear hi340_0 hl340_0
  replace p340 := eq_true p340
  replace q340 := eq_true q340
  have p341 : 0 ≤ (a1 : Int) := of_decide_eq_true (by assumption)
  have q341 : a1 < ((rd_L9 t332 0).length : Int) := of_decide_eq_true (by assumption)
  obtain ⟨ad341, e341, hx341_0, hx341_1⟩ := at_T128 HR340_0.out a1 p341 q341
  cases e341
  replace p341 := eq_true p341
  replace q341 := eq_true q341
  refine start_ (n := 14) (S := fun w' => w'.cell? ⟨gb331, 0, none⟩ = some (.slice A0_0 l0_0.length c0_0) ∧ w'.cell? ⟨gb331, 1, none⟩ = some (.slice A0_1 l0_1.length c0_1) ∧ w'.cell? ad335 = some (.slice (some ad341) (rd_L9 t332 0).length c340_0) ∧ w'.cell? (ad341.add ((a1).toNat * 2)) = some (.int .i64 ((rd_T128 (rd_L9 t332 0) a1).f0)) ∧ w'.cell? ⟨(ad341.add ((a1).toNat * 2)).block, (ad341.add ((a1).toNat * 2)).off + 1, none⟩ = some (.int .i64 ((rd_T128 (rd_L9 t332 0) a1).f1))) (ds := []) #[false, false, false, false, false, false, false, false, false, false, false, false, false, false] (by kernel_rfl) rfl rfl ⟨(blk_cell BK331.out 0).trans rfl, (blk_cell BK331.out 1).trans rfl, hx340_0, hx341_0, hx341_1⟩ (fun hHeld => ?_); refine with_tabW f1z.tab4 f1z.bits4 (fun HT_ HW_ => ?_)
  generalize w15.drew = w17 at HO334 HL335_0 BK331 HR335_0 HB HL340_0 HR340_0 hx340_0 hx341_0 hx341_1 hHeld ⊢
  refine pu_ (i := 1) (N := some 20) (v := ?_) (a' := ?_) rfl rfl (any_of HT_.out (by kernel_rfl)) (fun _ _ _ h => h) (Or.inl ⟨by rfl, ?_⟩) ?_ ?_
  rotate_left; intro w'; go_simp; with_reducible rfl; rotate_left; simp only [Act.put, sA_, sZ_, sS_, i64_w, i32_w]; rfl
  refine pu_ (i := 2) (N := some 21) (v := ?_) (a' := ?_) rfl rfl (any_of HT_.out (by kernel_rfl)) (fun _ _ _ h => h) (Or.inl ⟨by rfl, ?_⟩) ?_ ?_
  rotate_left; intro w'; go_simp; with_reducible rfl; rotate_left; simp only [Act.put, sA_, sZ_, sS_, i64_w, i32_w]; rfl
  refine pu_ (i := 4) (N := some 23) (v := ?_) (a' := ?_) rfl rfl (any_of HT_.out (by kernel_rfl)) (fun _ _ _ h => h) (Or.inl ⟨by rfl, ?_⟩) ?_ ?_
  rotate_left; intro w'; go_simp; with_reducible rfl; rotate_left; simp only [Act.put, sA_, sZ_, sS_, i64_w, i32_w]; rfl
  refine pu_ (i := 5) (N := some 24) (v := ?_) (a' := ?_) rfl rfl (any_of HT_.out (by kernel_rfl)) (fun _ _ _ h => h) (Or.inl ⟨by rfl, ?_⟩) ?_ ?_
  rotate_left; intro w'; go_simp; with_reducible rfl; rotate_left; simp only [Act.put, sA_, sZ_, sS_, i64_w, i32_w]; rfl
  refine pu_ (i := 7) (N := some 26) (v := ?_) (a' := ?_) rfl rfl (any_of HT_.out (by kernel_rfl)) (fun _ _ _ h => h) (Or.inl ⟨by rfl, ?_⟩) ?_ ?_
  rotate_left; intro w'; go_simp; with_reducible rfl; rotate_left; simp only [Act.put, sA_, sZ_, sS_, i64_w, i32_w]; rfl
  refine tk_ (i := 0) (N := some 19) (v := ?_) (a' := ?_) rfl rfl (take_ofW HT_.out HW_.out (by kernel_rfl)) (fun _ _ _ h => h) (Or.inl ⟨by rfl, ?_⟩) hHeld ?_ ?_
  rotate_left; rintro w' ⟨s0, s1, s2, s3, s4⟩; go_simp; with_reducible rfl; rotate_left; simp only [Act.put, sA_, sZ_, sS_, i64_w, i32_w]; rfl
  refine tk_ (i := 6) (N := some 25) (v := ?_) (a' := ?_) rfl rfl (take_ofW HT_.out HW_.out (by kernel_rfl)) (fun _ _ _ h => h) (Or.inl ⟨by rfl, ?_⟩) hHeld ?_ ?_
  rotate_left; rintro w' ⟨s0, s1, s2, s3, s4⟩; go_simp; with_reducible rfl; rotate_left; simp only [Act.put, sA_, sZ_, sS_, i64_w, i32_w]; rfl
  refine pu_ (i := 8) (N := some 27) (v := ?_) (a' := ?_) rfl rfl (any_of HT_.out (by kernel_rfl)) (fun _ _ _ h => h) (Or.inl ⟨by rfl, ?_⟩) ?_ ?_
  rotate_left; intro w'; go_simp; with_reducible rfl; rotate_left; simp only [Act.put, sA_, sZ_, sS_, i64_w, i32_w]; rfl
  refine pu_ (i := 9) (N := some 28) (v := ?_) (a' := ?_) rfl rfl (any_of HT_.out (by kernel_rfl)) (fun _ _ _ h => h) (Or.inl ⟨by rfl, ?_⟩) ?_ ?_
  rotate_left; intro w'; go_simp; with_reducible rfl; rotate_left; simp only [Act.put, sA_, sZ_, sS_, i64_w, i32_w]; rfl
  refine tk_ (i := 10) (N := some 29) (v := ?_) (a' := ?_) rfl rfl (take_ofW HT_.out HW_.out (by kernel_rfl)) (fun _ _ _ h => h) (Or.inl ⟨by rfl, ?_⟩) hHeld ?_ ?_
  rotate_left; rintro w' ⟨s0, s1, s2, s3, s4⟩; go_simp; with_reducible rfl; rotate_left; simp only [Act.put, sA_, sZ_, sS_, i64_w, i32_w]; rfl
  refine on_ (i := 3) (N := some 22) rfl rfl (one_of HT_.out (by kernel_rfl)) (by decide) (fun K hK => ?_)
  refine goes_ Try.func124 (by kernel_rfl) rfl #[.agg #[.slice A0_0 l0_0.length c0_0, .slice A0_1 l0_1.length c0_1], .slice (some ad335) t332.length co16, .int .i64 a1] (by rfl) rfl rfl (by simp only [List.map_toArray, List.map_cons, List.map_nil]; try rfl) ?_
  with_reducible refine (f0z.calls k _ _ l0_0 _ _ l0_1 _ _ t332 a1 t337 _ ?side1 ?side2 ?side3 ?side4 ?side5 ?side6 A12.out).mono ?_
  (case side1 => exact (Kd.C_below HR0_0.out HB.out))
  (case side2 => exact HC0_0.out)
  (case side3 => exact (Kd.C_below HR0_1.out HB.out))
  (case side4 => exact HC0_1.out)
  (case side5 => exact (Kd.S_reads' HO334.out).2.2)
  (case side6 => exact (Kd.S_reads' HO334.out).2.1)
  rintro e w18 ⟨v338, rfl, ho0, hb⟩
  have HS2_ := (hb.cell (World.block_lt_of_cell? _ _ (hHeld.2.2.1))).trans (hHeld.2.2.1)
  have HS3_ := (hb.cell (World.block_lt_of_cell? _ _ (hHeld.2.2.2.1))).trans (hHeld.2.2.2.1)
  have HS4_ := (hb.cell (World.block_lt_of_cell? _ _ (hHeld.2.2.2.2))).trans (hHeld.2.2.2.2)
  refine ⟨_, rfl, ?_⟩
  replace HO334 := Aside0.mk (Kd.S_below HO334.out hb)
  replace HL335_0 := Aside0.mk (Kd.R_below HL335_0.out hb)
  replace HL340_0 := Aside0.mk (Kd.R_below HL340_0.out hb)
  have HO339 := Aside0.mk (Kd.R_lower ho0 (below_size HB.out))
  replace BK331 := Aside0.mk (blk_below (g := gb331) (o := .cells #[.slice A0_0 l0_0.length c0_0, .slice A0_1 l0_1.length c0_1] 118 (0, 0)) BK331.out hb)
  replace HR335_0 := Aside0.mk (Kd.C_below HR335_0.out hb)
  replace HR340_0 := Aside0.mk (Kd.C_below HR340_0.out hb)
  replace HB := Aside0.mk (below_step HB.out hb)
  (try clear hb)
  (try clear hb2)
  (try clear hk)
  (try clear hi)
  (try clear ho0)
  refine hK.out _ _ ⟨(blk_cell BK331.out 0).trans rfl, (blk_cell BK331.out 1).trans rfl, HS2_, HS3_, HS4_⟩ (fun hHeld => ?_)
  clear hK K
  refine norm_ (a' := ?_) ?_ ?_
  rotate_left
  ·show Act.put _ (some 22) _ = _
   simp only [Act.put, sA_, sZ_, sS_, i64_w, i32_w]
   rfl
  refine pu_ (i := 11) (N := some 4) (v := ?_) (a' := ?_) rfl rfl (any_of HT_.out (by kernel_rfl)) (fun _ _ _ h => h) (Or.inl ⟨by rfl, ?_⟩) ?_ ?_
  rotate_left; intro w'; go_simp; with_reducible rfl; rotate_left; simp only [Act.put, sA_, sZ_, sS_, i64_w, i32_w]; rfl
  refine pu_ (i := 12) (N := some 5) (v := ?_) (a' := ?_) rfl rfl (any_of HT_.out (by kernel_rfl)) (fun _ _ _ h => h) (Or.inl ⟨by rfl, ?_⟩) ?_ ?_
  rotate_left; intro w'; go_simp; with_reducible rfl; rotate_left; simp only [Act.put, sA_, sZ_, sS_, i64_w, i32_w]; rfl
  refine pu_ (i := 13) (N := some 6) (v := ?_) (a' := ?_) rfl rfl (any_of HT_.out (by kernel_rfl)) (fun _ _ _ h => h) (Or.inl ⟨by rfl, ?_⟩) ?_ ?_
  rotate_left; intro w'; go_simp; with_reducible rfl; rotate_left; simp only [Act.put, sA_, sZ_, sS_, i64_w, i32_w]; rfl
  refine done_ (done_of HT_.out (by kernel_rfl)) ?_
  try go_wp2
  go_ret3
  exact ⟨_, rfl, HO339.out, HB.out⟩
def f2z.f (k : Nat) (l0 : List Int) (a1 : Int) : Option (List Int × Int × Int) := (impl_valuesCode.f k l0 a1 1000).bind fun t342 => (if t342 = 0 then ((impl_endless.f k l0).bind fun bt343 => ((f1z.f k bt343.1 bt343.2 a1).bind fun bt349 => (if bt349.2.2 = true then (some (bt349.1, bt349.2.1, 0)) else (some (([] : List Int), 0, 6))))) else (some (([] : List Int), 0, t342)))
theorem f2z.mono : ∀ a0 a1 k, LeO (f2z.f k a0 a1) (f2z.f (k + 1) a0 a1) := by
 intro a0 a1 k
 unfold f2z.f
 repeat' first
   | (with_reducible exact impl_endless.mono _ _)
   | (with_reducible exact f1z.mono _ _ _ _)
   | (with_reducible exact impl_valuesCode.mono _ _ _ _)
   | (with_reducible exact LeO.refl _)
   | (with_reducible exact LeO.none _)
   | (with_reducible refine LeO.ite ?_ ?_)
   | (with_reducible refine LeO.bind ?_ (fun _ => ?_))
   | exact impl_endless.mono _ _
   | exact f1z.mono _ _ _ _
   | exact impl_valuesCode.mono _ _ _ _
   | exact LeO.none _
   | refine LeO.ite ?_ ?_
   | refine LeO.bind ?_ (fun _ => ?_)
set_option maxHeartbeats 8000000 in
set_option maxRecDepth 100000 in
theorem f2z.calls (k : Nat) (A0 : Option Addr) (c0 : Nat) (l0 : List Int) (a1 : Int) (r1 : List Int) (r2 : Int) (r3 : Int) (w : World) (hr0 : Kd.C (Kd.int .i64) w A0 l0.length l0) (hc0 : l0.length ≤ c0) (h : f2z.f k l0 a1 = some (r1, r2, r3)) :
  Calls Try.prog 90 #[.slice A0 l0.length c0, .int .i64 a1] w fun e w' => ∃ v0_ : Value, e = .returned (.tuple #[v0_, .int .i64 r2, .int .i64 r3]) ∧ Kd.R (Kd.int .i64) 2 w' w.heap.size (fun _ => True) v0_ r1 ∧ Below w.heap.size w w' := by
 have HR0 := Aside0.mk hr0
 have HC0 := Aside0.mk hc0
 clear hr0 hc0
 have HB := Aside0.mk (Below.refl w.heap.size w)
 have H : ((impl_valuesCode.f k l0 a1 1000).bind fun t342 => (if t342 = 0 then ((impl_endless.f k l0).bind fun bt343 => ((f1z.f k bt343.1 bt343.2 a1).bind fun bt349 => (if bt349.2.2 = true then (some (bt349.1, bt349.2.1, 0)) else (some (([] : List Int), 0, 6))))) else (some (([] : List Int), 0, t342)))) = some (r1, r2, r3) := h
 clear h
 replace H := Option.bind_eq_some_iff.mp H
 obtain ⟨t342, A30, H⟩ := H
 replace H : (if t342 = 0 then ((impl_endless.f k l0).bind fun bt343 => ((f1z.f k bt343.1 bt343.2 a1).bind fun bt349 => (if bt349.2.2 = true then (some (bt349.1, bt349.2.1, 0)) else (some (([] : List Int), 0, 6))))) else (some (([] : List Int), 0, t342))) = some (r1, r2, r3) := H
 have A3 := Aside0.mk A30
 clear A30
 by_cases c4 : t342 = 0
 ·rw [if_pos c4] at H
  have c4b0 : (t342 == 0) = true := beq_iff_eq.mpr c4
  have c4b1 : (t342 != 0) = false := bne_eq_false_iff_eq.mpr c4
  clear c4
  replace H := Option.bind_eq_some_iff.mp H
  obtain ⟨⟨t343, t346⟩, A50, H⟩ := H
  replace H : ((f1z.f k t343 t346 a1).bind fun bt349 => (if bt349.2.2 = true then (some (bt349.1, bt349.2.1, 0)) else (some (([] : List Int), 0, 6)))) = some (r1, r2, r3) := H
  have A5 := Aside0.mk A50
  clear A50
  replace H := Option.bind_eq_some_iff.mp H
  obtain ⟨⟨t349, t352, t353⟩, A60, H⟩ := H
  replace H : (if t353 = true then (some (t349, t352, 0)) else (some (([] : List Int), 0, 6))) = some (r1, r2, r3) := H
  have A6 := Aside0.mk A60
  clear A60
  by_cases c7 : t353 = true
  ·subst c7
   have H1 : (some (t349, t352, 0)) = some (r1, r2, r3) := by rw [if_pos rfl] at H; exact H
   clear H
   have H := H1
   clear H1
   simp only [Option.some.injEq, Prod.mk.injEq] at H
   obtain ⟨rfl, rfl, rfl⟩ := H
   go_enter Try.func90, Try.ntmps90
   go_wp2_with (first | ((with_reducible refine gate_callee (f := 116) rfl ?_); refine goesL_ (some 13) rfl rfl Try.func116 (by kernel_rfl) rfl #[.slice A0 l0.length c0, .int .i64 a1, .int .i64 1000] rfl (by simp only [List.map_toArray, List.map_cons, List.map_nil]; try rfl) ?_; (with_reducible refine (impl_valuesCode.calls k _ _ l0 a1 1000 t342 _ ?side1 ?side2 A3.out).mono ?_); (case side1 => exact HR0.out); (case side2 => exact HC0.out); rintro e w8 ⟨rfl, hb⟩; refine ⟨_, rfl, ?_⟩; replace HB := Aside0.mk (below_step HB.out hb)) | ((with_reducible refine gate_callee (f := 117) rfl ?_); refine goesL_ (some 19) rfl rfl Try.func117 (by kernel_rfl) rfl #[.slice A0 l0.length c0] rfl (by simp only [List.map_toArray, List.map_cons, List.map_nil]; try rfl) ?_; (with_reducible refine (impl_endless.calls k (fun k_ => k_ < w.heap.size) _ _ l0 t343 t346 _ ?side1 A5.out).mono ?_); (case side1 => exact Kd.V_mk HC0.out (Kd.F_below (Kd.C_F (Kd.heap_int .i64) HR0.out) HB.out)); rintro e w9 ⟨v344, v347, rfl, ho0, ho1, hb⟩; refine ⟨_, rfl, ?_⟩; have HO345 := Aside0.mk (Kd.V_lower (Kd.V_mono (ok' := fun k_ => some k_ ≠ (v347 : Value).ownBlock) ho0 (fun k_ hk_ => hk_.2)) (below_size HB.out)); have HO348 := Aside0.mk (Kd.R_lower (Kd.R_mono (ok' := fun k_ => True) ho1 (fun _ hk_ => trivial)) (below_size HB.out)); replace HB := Aside0.mk (below_step HB.out hb); (try clear ho1); obtain ⟨Ao10, co10, eo10⟩ := Kd.V_slice HO345.out; subst eo10; obtain ⟨Ao11, co11, eo11⟩ := Kd.R_slice HO348.out; subst eo11) | ((with_reducible refine gate_callee (f := 118) rfl ?_); refine goesL_ (some 21) rfl rfl Try.func118 (by kernel_rfl) rfl #[.agg #[.slice Ao10 t343.length co10, .slice Ao11 t346.length co11], .int .i64 a1] rfl (by simp only [List.map_toArray, List.map_cons, List.map_nil]; try rfl) ?_; (with_reducible refine (f1z.calls k _ _ t343 _ _ t346 a1 t349 t352 true _ ?side1 ?side2 ?side3 ?side4 A6.out).mono ?_); (case side1 => exact (Kd.V_reads' HO345.out).2.2); (case side2 => exact (Kd.V_reads' HO345.out).2.1); (case side3 => exact (Kd.R_reads' HO348.out).2.2); (case side4 => exact (Kd.R_reads' HO348.out).2.1); rintro e w12 ⟨v350, rfl, ho0, hb⟩; refine ⟨_, rfl, ?_⟩; replace HO345 := Aside0.mk (Kd.V_elder' HO345.out (Kd.R_base ho0) hb); have HO351 := Aside0.mk (Kd.R_lower (Kd.R_new' ho0 (Kd.R_lt HO348.out)) (below_size HB.out)); replace HO348 := Aside0.mk (Kd.R_elder' HO348.out (Kd.R_base ho0) hb); replace HB := Aside0.mk (below_step HB.out hb)))
   go_ret3
   exact ⟨_, rfl, Kd.R_mono HO351.out (fun _ hk => trivial), HB.out⟩
  ·replace c7 := Bool.eq_false_iff.mpr c7
   subst c7
   have H1 : (some (([] : List Int), 0, 6)) = some (r1, r2, r3) := by rw [if_neg (show ¬ (false = true) by decide)] at H; exact H
   clear H
   have H := H1
   clear H1
   simp only [Option.some.injEq, Prod.mk.injEq] at H
   obtain ⟨rfl, rfl, rfl⟩ := H
   go_enter Try.func90, Try.ntmps90
   go_wp2_with (first | ((with_reducible refine gate_callee (f := 116) rfl ?_); refine goesL_ (some 13) rfl rfl Try.func116 (by kernel_rfl) rfl #[.slice A0 l0.length c0, .int .i64 a1, .int .i64 1000] rfl (by simp only [List.map_toArray, List.map_cons, List.map_nil]; try rfl) ?_; (with_reducible refine (impl_valuesCode.calls k _ _ l0 a1 1000 t342 _ ?side1 ?side2 A3.out).mono ?_); (case side1 => exact HR0.out); (case side2 => exact HC0.out); rintro e w13 ⟨rfl, hb⟩; refine ⟨_, rfl, ?_⟩; replace HB := Aside0.mk (below_step HB.out hb)) | ((with_reducible refine gate_callee (f := 117) rfl ?_); refine goesL_ (some 19) rfl rfl Try.func117 (by kernel_rfl) rfl #[.slice A0 l0.length c0] rfl (by simp only [List.map_toArray, List.map_cons, List.map_nil]; try rfl) ?_; (with_reducible refine (impl_endless.calls k (fun k_ => k_ < w.heap.size) _ _ l0 t343 t346 _ ?side1 A5.out).mono ?_); (case side1 => exact Kd.V_mk HC0.out (Kd.F_below (Kd.C_F (Kd.heap_int .i64) HR0.out) HB.out)); rintro e w14 ⟨v344, v347, rfl, ho0, ho1, hb⟩; refine ⟨_, rfl, ?_⟩; have HO345 := Aside0.mk (Kd.V_lower (Kd.V_mono (ok' := fun k_ => some k_ ≠ (v347 : Value).ownBlock) ho0 (fun k_ hk_ => hk_.2)) (below_size HB.out)); have HO348 := Aside0.mk (Kd.R_lower (Kd.R_mono (ok' := fun k_ => True) ho1 (fun _ hk_ => trivial)) (below_size HB.out)); replace HB := Aside0.mk (below_step HB.out hb); (try clear ho1); obtain ⟨Ao15, co15, eo15⟩ := Kd.V_slice HO345.out; subst eo15; obtain ⟨Ao16, co16, eo16⟩ := Kd.R_slice HO348.out; subst eo16) | ((with_reducible refine gate_callee (f := 118) rfl ?_); refine goesL_ (some 21) rfl rfl Try.func118 (by kernel_rfl) rfl #[.agg #[.slice Ao15 t343.length co15, .slice Ao16 t346.length co16], .int .i64 a1] rfl (by simp only [List.map_toArray, List.map_cons, List.map_nil]; try rfl) ?_; (with_reducible refine (f1z.calls k _ _ t343 _ _ t346 a1 t349 t352 false _ ?side1 ?side2 ?side3 ?side4 A6.out).mono ?_); (case side1 => exact (Kd.V_reads' HO345.out).2.2); (case side2 => exact (Kd.V_reads' HO345.out).2.1); (case side3 => exact (Kd.R_reads' HO348.out).2.2); (case side4 => exact (Kd.R_reads' HO348.out).2.1); rintro e w17 ⟨v350, rfl, ho0, hb⟩; refine ⟨_, rfl, ?_⟩; replace HO345 := Aside0.mk (Kd.V_elder' HO345.out (Kd.R_base ho0) hb); have HO351 := Aside0.mk (Kd.R_lower (Kd.R_new' ho0 (Kd.R_lt HO348.out)) (below_size HB.out)); replace HO348 := Aside0.mk (Kd.R_elder' HO348.out (Kd.R_base ho0) hb); replace HB := Aside0.mk (below_step HB.out hb)))
   go_ret3
   exact ⟨_, rfl, by first | exact Kd.R_nil _ _ _ _ _ | exact Kd.N_nil _ _ _ _ _ | exact Kd.V_nil _ _ _ _ _ | exact Kd.Q_nil _ _ _ _ _ | exact Kd.S_nil _ _ _ _ _, HB.out⟩
 ·rw [if_neg c4] at H
  have c4b0 : (t342 == 0) = false := beq_eq_false_iff_ne.mpr c4
  have c4b1 : (t342 != 0) = true := bne_iff_ne.mpr c4
  simp only [Option.some.injEq, Prod.mk.injEq] at H
  obtain ⟨rfl, rfl, rfl⟩ := H
  go_enter Try.func90, Try.ntmps90
  go_wp2_with (first | ((with_reducible refine gate_callee (f := 116) rfl ?_); refine goesL_ (some 13) rfl rfl Try.func116 (by kernel_rfl) rfl #[.slice A0 l0.length c0, .int .i64 a1, .int .i64 1000] rfl (by simp only [List.map_toArray, List.map_cons, List.map_nil]; try rfl) ?_; (with_reducible refine (impl_valuesCode.calls k _ _ l0 a1 1000 t342 _ ?side1 ?side2 A3.out).mono ?_); (case side1 => exact HR0.out); (case side2 => exact HC0.out); rintro e w18 ⟨rfl, hb⟩; refine ⟨_, rfl, ?_⟩; replace HB := Aside0.mk (below_step HB.out hb)))
  go_ret3
  exact ⟨_, rfl, by first | exact Kd.R_nil _ _ _ _ _ | exact Kd.N_nil _ _ _ _ _ | exact Kd.V_nil _ _ _ _ _ | exact Kd.Q_nil _ _ _ _ _ | exact Kd.S_nil _ _ _ _ _, HB.out⟩

end Go.Proofs.Ytdeipindfhkioaa.Q
