-- made by wip/tools/mk.py of this session's repo, by way of the kit's print.py: Lean checks it.
import Derived.Test.YtdeipindfhkioaaQ0
import Derived.Test.YtdeipindfhkioaaQ2
namespace Go.Proofs.Ytdeipindfhkioaa.Q
open Go.RowKit Go.Proofs.YtdeipindfhkioaaW.PrintWords Go.Proofs.YtdeipindfhkioaaW.PrintLast Go.Proofs.YtdeipindfhkioaaW.PrintMore Go.Proofs.YtdeipindfhkioaaMine
attribute [local go_sem] max2_int min2_int max_two min_two max_three min_three max_four min_four   -- for this text's walks alone
set_option linter.unusedVariables false
set_option linter.unusedSimpArgs false

def spec_l00Min.f (a0 : Int) (a1 : Int) : Option (Int) := if a0 < a1 then (some a0) else (some a1)
set_option maxHeartbeats 8000000 in
set_option maxRecDepth 100000 in
theorem spec_l00Min.calls (a0 : Int) (a1 : Int) (r : Int) (w : World) (h : spec_l00Min.f a0 a1 = some r) :
  Calls Try.prog 67 #[.int .i64 a0, .int .i64 a1] w fun e w' => e = .returned (.int .i64 r) ∧ Drawn0 w w' := by
 have H : (if a0 < a1 then (some a0) else (some a1)) = some r := h
 clear h
 by_cases c3 : a0 < a1
 ·rw [if_pos c3] at H
  have c3b0 : decide (a0 < a1) = true := decide_eq_true c3
  clear c3
  obtain rfl := Option.some.inj H
  go_enter Try.func67, Try.ntmps67
  go_wp2
  go_ret
  exact ⟨by first | rfl | (simp; done) | (simp [*]; done), by repeat (first | exact Drawn0.refl _ | apply Drawn0.step)⟩
 ·rw [if_neg c3] at H
  have c3b0 : decide (a0 < a1) = false := decide_eq_false c3
  clear c3
  obtain rfl := Option.some.inj H
  go_enter Try.func67, Try.ntmps67
  go_wp2
  go_ret
  exact ⟨by first | rfl | (simp; done) | (simp [*]; done), by repeat (first | exact Drawn0.refl _ | apply Drawn0.step)⟩

def f17z.f (k : Nat) (a0_0 : Int) (a0_1 : Int) (l0_2 : List Int) (l0_3 : List Int) (a0_4 : Int) (a0_5 : Bool) (a1 : Int) (l2_0 : List Int) (l2_1 : List (List Int)) : Option (Int) := if a0_1 ≥ 0 then ((spec_l03Price.f k l2_0 l2_1 a0_1 a1).bind fun t179 => (some t179)) else ((spec_l03Step.f k l2_0 l2_1 a1).bind fun t180 => ((spec_l00Min.f 1 (wrap64 (t180 + 1))).bind fun t181 => (some t181)))
theorem f17z.mono : ∀ a0 a1 a2 a3 a4 a5 a6 a7 a8 k, LeO (f17z.f k a0 a1 a2 a3 a4 a5 a6 a7 a8) (f17z.f (k + 1) a0 a1 a2 a3 a4 a5 a6 a7 a8) := by
 intro a0 a1 a2 a3 a4 a5 a6 a7 a8 k
 unfold f17z.f
 repeat' first
   | (with_reducible exact spec_l03Price.mono _ _ _ _ _)
   | (with_reducible exact spec_l03Step.mono _ _ _ _)
   | (with_reducible exact LeO.refl _)
   | (with_reducible exact LeO.none _)
   | (with_reducible refine LeO.ite ?_ ?_)
   | (with_reducible refine LeO.bind ?_ (fun _ => ?_))
   | exact spec_l03Price.mono _ _ _ _ _
   | exact spec_l03Step.mono _ _ _ _
   | exact LeO.none _
   | refine LeO.ite ?_ ?_
   | refine LeO.bind ?_ (fun _ => ?_)
def f17z.T2 : Bool × List (List Nat × List Nat) := (true, [([], []), ([0], [0]), ([1], [1]), ([2], [2]), ([], []), ([4], [4]), ([5], [5]), ([6], [6]), ([], []), ([3, 7, 8], [3, 7, 8]), ([9, 9, 0, 1, 2, 3, 4, 5, 6, 7, 8, 9], [9])])
def f17z.B2 : List Nat := [0, 1, 3, 7, 0, 16, 48, 112, 0, 511, 1023]
theorem f17z.tab2 : rtab .any (opsOf Try.f104 2) = f17z.T2 := by kernel_rfl
theorem f17z.bits2 : waitsOk f17z.T2.2 f17z.B2 = true := by kernel_rfl
set_option maxHeartbeats 8000000 in
set_option maxRecDepth 100000 in
theorem f17z.calls (k : Nat) (B0_0 : Nat) (a0_0 : Int) (a0_1 : Int) (A0_2 : Option Addr) (c0_2 : Nat) (l0_2 : List Int) (A0_3 : Option Addr) (c0_3 : Nat) (l0_3 : List Int) (a0_4 : Int) (a0_5 : Bool) (a1 : Int) (B2_0 : Nat) (A2_0 : Option Addr) (c2_0 : Nat) (l2_0 : List Int) (A2_1 : Option Addr) (c2_1 : Nat) (l2_1 : List (List Int)) (r : Int) (w : World) (hr0_2 : Kd.C (Kd.int .i64) w A0_2 l0_2.length l0_2) (hc0_2 : l0_2.length ≤ c0_2) (hr0_3 : Kd.C (Kd.int .i64) w A0_3 l0_3.length l0_3) (hc0_3 : l0_3.length ≤ c0_3) (hr2_0 : Kd.C (Kd.int .i16) w A2_0 l2_0.length l2_0) (hc2_0 : l2_0.length ≤ c2_0) (hr2_1 : Kd.C (Kd.slice 81 (Kd.int .i16)) w A2_1 l2_1.length l2_1) (hc2_1 : l2_1.length ≤ c2_1) (hkB0_0 : w.heap[B0_0]? = some (.cells #[.pointer (some ⟨B2_0, 0, none⟩), .int .i64 a0_1, .slice A0_2 l0_2.length c0_2, .slice A0_3 l0_3.length c0_3, .int .i64 a0_4, .bool a0_5] 87 (0, 0))) (hkB2_0 : w.heap[B2_0]? = some (.cells #[.slice A2_0 l2_0.length c2_0, .slice A2_1 l2_1.length c2_1] 38 (0, 0))) (h : f17z.f k a0_0 a0_1 l0_2 l0_3 a0_4 a0_5 a1 l2_0 l2_1 = some r) :
  Calls Try.prog 104 #[.pointer (some ⟨B0_0, 0, none⟩), .int .i64 a1] w fun e w' => e = .returned (.int .i64 r) ∧ Below w.heap.size w w' := by
 have HR0_2 := Aside0.mk hr0_2
 have HC0_2 := Aside0.mk hc0_2
 clear hr0_2 hc0_2
 have HR0_3 := Aside0.mk hr0_3
 have HC0_3 := Aside0.mk hc0_3
 clear hr0_3 hc0_3
 have HR2_0 := Aside0.mk hr2_0
 have HC2_0 := Aside0.mk hc2_0
 clear hr2_0 hc2_0
 have HR2_1 := Aside0.mk hr2_1
 have HC2_1 := Aside0.mk hc2_1
 clear hr2_1 hc2_1
 have BK177 := Aside0.mk hkB0_0
 clear hkB0_0
 have BK178 := Aside0.mk hkB2_0
 clear hkB2_0
 have HB := Aside0.mk (Below.refl w.heap.size w)
 have H : (if a0_1 ≥ 0 then ((spec_l03Price.f k l2_0 l2_1 a0_1 a1).bind fun t179 => (some t179)) else ((spec_l03Step.f k l2_0 l2_1 a1).bind fun t180 => ((spec_l00Min.f 1 (wrap64 (t180 + 1))).bind fun t181 => (some t181)))) = some r := h
 clear h
 by_cases c4 : a0_1 ≥ 0
 ·rw [if_pos c4] at H
  have c4b0 : decide (0 ≤ a0_1) = true := decide_eq_true c4
  clear c4
  replace H := Option.bind_eq_some_iff.mp H
  obtain ⟨t179, A50, H⟩ := H
  replace H : (some t179) = some r := H
  have A5 := Aside0.mk A50
  clear A50
  obtain rfl := Option.some.inj H
  have hcz6_0 : w.cell? ⟨B0_0, 0, none⟩ = some (.pointer (some ⟨B2_0, 0, none⟩)) := (blk_cell BK177.out 0).trans rfl
  have hcz6_1 : w.cell? ⟨B0_0, 1, none⟩ = some (.int .i64 a0_1) := (blk_cell BK177.out 1).trans rfl
  have hcz6_2 : w.cell? ⟨B0_0, 2, none⟩ = some (.slice A0_2 l0_2.length c0_2) := (blk_cell BK177.out 2).trans rfl
  have hcz6_3 : w.cell? ⟨B0_0, 3, none⟩ = some (.slice A0_3 l0_3.length c0_3) := (blk_cell BK177.out 3).trans rfl
  have hcz6_4 : w.cell? ⟨B0_0, 4, none⟩ = some (.int .i64 a0_4) := (blk_cell BK177.out 4).trans rfl
  have hcz6_5 : w.cell? ⟨B0_0, 5, none⟩ = some (.bool a0_5) := (blk_cell BK177.out 5).trans rfl
  have hfz6_0 := blk_frozen BK177.out 0
  have hfz6_1 := blk_frozen BK177.out 1
  have hfz6_2 := blk_frozen BK177.out 2
  have hfz6_3 := blk_frozen BK177.out 3
  have hfz6_4 := blk_frozen BK177.out 4
  have hfz6_5 := blk_frozen BK177.out 5
  go_enter Try.func104, Try.ntmps104
  try go_wp2
  have n0_ := Aside0.mk (blk_drew BK177.out)
  have n1_ := Aside0.mk (blk_drew BK178.out)
  have n2_ := Aside0.mk (below_drew1 HB.out)
  clear BK177
  clear BK178
  clear HB
  have BK177 := n0_
  have BK178 := n1_
  have HB := n2_
  clear n0_ n1_ n2_
  refine start_ (n := 11) (S := fun w' => w'.cell? ⟨B0_0, 0, none⟩ = some (.pointer (some ⟨B2_0, 0, none⟩)) ∧ w'.cell? ⟨B0_0, 1, none⟩ = some (.int .i64 a0_1) ∧ w'.cell? ⟨B0_0, 2, none⟩ = some (.slice A0_2 l0_2.length c0_2) ∧ w'.cell? ⟨B0_0, 3, none⟩ = some (.slice A0_3 l0_3.length c0_3) ∧ w'.cell? ⟨B0_0, 4, none⟩ = some (.int .i64 a0_4) ∧ w'.cell? ⟨B0_0, 5, none⟩ = some (.bool a0_5)) (ds := []) #[false, false, false, false, false, false, false, false, false, false, false] (by kernel_rfl) rfl rfl ⟨(blk_cell BK177.out 0).trans rfl, (blk_cell BK177.out 1).trans rfl, (blk_cell BK177.out 2).trans rfl, (blk_cell BK177.out 3).trans rfl, (blk_cell BK177.out 4).trans rfl, (blk_cell BK177.out 5).trans rfl⟩ (fun hHeld => ?_); refine with_tabW f17z.tab2 f17z.bits2 (fun HT_ HW_ => ?_)
  generalize w.drew = w7 at BK177 BK178 HB hHeld ⊢
  refine pure_ (i := 0) (N := some 10) (v := ?_) (a' := ?_) #[true, false, false, false, false, false, false, false, false, false, false] rfl rfl (any_of HT_.out (by kernel_rfl)) (fun _ _ _ h => h) (Or.inl ⟨by rfl, ?_⟩) ?_ ?_
  rotate_left; intro w'; go_simp; with_reducible rfl; rotate_left; simp only [Act.put, sA_, sZ_, sS_, i64_w, i32_w]; rfl
  refine pure_ (i := 1) (N := some 11) (v := ?_) (a' := ?_) #[true, true, false, false, false, false, false, false, false, false, false] rfl rfl (any_of HT_.out (by kernel_rfl)) (fun _ _ _ h => h) (Or.inl ⟨by rfl, ?_⟩) ?_ ?_
  rotate_left; intro w'; go_simp; with_reducible rfl; rotate_left; simp only [Act.put, sA_, sZ_, sS_, i64_w, i32_w]; rfl
  refine pure_ (i := 2) (N := some 12) (v := ?_) (a' := ?_) #[true, true, true, false, false, false, false, false, false, false, false] rfl rfl (any_of HT_.out (by kernel_rfl)) (fun _ _ _ h => h) (Or.inl ⟨by rfl, ?_⟩) ?_ ?_
  rotate_left; intro w'; go_simp; with_reducible rfl; rotate_left; simp only [Act.put, sA_, sZ_, sS_, i64_w, i32_w]; rfl
  refine pure_ (i := 4) (N := some 14) (v := ?_) (a' := ?_) #[true, true, true, false, true, false, false, false, false, false, false] rfl rfl (any_of HT_.out (by kernel_rfl)) (fun _ _ _ h => h) (Or.inl ⟨by rfl, ?_⟩) ?_ ?_
  rotate_left; intro w'; go_simp; with_reducible rfl; rotate_left; simp only [Act.put, sA_, sZ_, sS_, i64_w, i32_w]; rfl
  refine pure_ (i := 5) (N := some 15) (v := ?_) (a' := ?_) #[true, true, true, false, true, true, false, false, false, false, false] rfl rfl (any_of HT_.out (by kernel_rfl)) (fun _ _ _ h => h) (Or.inl ⟨by rfl, ?_⟩) ?_ ?_
  rotate_left; intro w'; go_simp; with_reducible rfl; rotate_left; simp only [Act.put, sA_, sZ_, sS_, i64_w, i32_w]; rfl
  refine pure_ (i := 6) (N := some 16) (v := ?_) (a' := ?_) #[true, true, true, false, true, true, true, false, false, false, false] rfl rfl (any_of HT_.out (by kernel_rfl)) (fun _ _ _ h => h) (Or.inl ⟨by rfl, ?_⟩) ?_ ?_
  rotate_left; intro w'; go_simp; with_reducible rfl; rotate_left; simp only [Act.put, sA_, sZ_, sS_, i64_w, i32_w]; rfl
  refine pure_ (i := 8) (N := some 18) (v := ?_) (a' := ?_) #[true, true, true, false, true, true, true, false, true, false, false] rfl rfl (any_of HT_.out (by kernel_rfl)) (fun _ _ _ h => h) (Or.inl ⟨by rfl, ?_⟩) ?_ ?_
  rotate_left; intro w'; go_simp; with_reducible rfl; rotate_left; simp only [Act.put, sA_, sZ_, sS_, i64_w, i32_w]; rfl
  refine take_ (i := 3) (N := some 13) (v := ?_) (a' := ?_) #[true, true, true, true, true, true, true, false, true, false, false] rfl rfl (take_ofW HT_.out HW_.out (by kernel_rfl)) (fun _ _ _ h => h) (Or.inl ⟨by rfl, ?_⟩) hHeld ?_ ?_
  rotate_left; rintro w' ⟨s0, s1, s2, s3, s4, s5⟩; go_simp; with_reducible rfl; rotate_left; simp only [Act.put, sA_, sZ_, sS_, i64_w, i32_w]; rfl
  refine take_ (i := 7) (N := some 17) (v := ?_) (a' := ?_) #[true, true, true, true, true, true, true, true, true, false, false] rfl rfl (take_ofW HT_.out HW_.out (by kernel_rfl)) (fun _ _ _ h => h) (Or.inl ⟨by rfl, ?_⟩) hHeld ?_ ?_
  rotate_left; rintro w' ⟨s0, s1, s2, s3, s4, s5⟩; go_simp; with_reducible rfl; rotate_left; simp only [Act.put, sA_, sZ_, sS_, i64_w, i32_w]; rfl
  refine one_ (i := 9) (N := some 19) #[true, true, true, true, true, true, true, true, true, true, false] rfl rfl (one_of HT_.out (by kernel_rfl)) (by decide) (fun K hK => ?_)
  refine goes_ Try.func44 (by kernel_rfl) rfl #[.pointer (some ⟨B2_0, 0, none⟩), .int .i64 a0_1, .int .i64 a1] (by rfl) rfl rfl (by (try simp only [List.map_toArray, List.map_cons, List.map_nil]); first | done | rfl | (simp only [List.length_drop, List.length_take]; rfl)) ?_
  with_reducible refine (spec_l03Price.calls k B2_0 A2_0 c2_0 l2_0 A2_1 c2_1 l2_1 a0_1 a1 t179 _ ?side1 ?side2 ?side3 ?side4 ?side5 A5.out).mono ?_
  (case side1 => repeat (first | exact (Kd.C_below HR2_0.out HB.out) | (with_reducible refine Kd.C_alloc ?_ _) | (with_reducible refine Kd.C_drewN ?_ _) | (with_reducible refine Kd.C_drew ?_)))
  (case side2 => exact HC2_0.out)
  (case side3 => repeat (first | exact (Kd.C_below HR2_1.out HB.out) | (with_reducible refine Kd.C_alloc ?_ _) | (with_reducible refine Kd.C_drewN ?_ _) | (with_reducible refine Kd.C_drew ?_)))
  (case side4 => exact HC2_1.out)
  (case side5 => (with_reducible repeat (first | refine blk_drewN ?_ _ | refine blk_drew ?_ | refine blk_alloc ?_ _)); exact BK178.out)
  rintro e w8 ⟨rfl, hb⟩
  refine ⟨_, rfl, ?_⟩
  have n0_ := Aside0.mk (blk_below (g := B0_0) (o := .cells #[.pointer (some ⟨B2_0, 0, none⟩), .int .i64 a0_1, .slice A0_2 l0_2.length c0_2, .slice A0_3 l0_3.length c0_3, .int .i64 a0_4, .bool a0_5] 87 (0, 0)) (by (with_reducible repeat (first | refine blk_drewN ?_ _ | refine blk_drew ?_ | refine blk_alloc ?_ _)); exact BK177.out) hb)
  have n1_ := Aside0.mk (blk_below (g := B2_0) (o := .cells #[.slice A2_0 l2_0.length c2_0, .slice A2_1 l2_1.length c2_1] 38 (0, 0)) (by (with_reducible repeat (first | refine blk_drewN ?_ _ | refine blk_drew ?_ | refine blk_alloc ?_ _)); exact BK178.out) hb)
  have n2_ := Aside0.mk (below_step (by repeat (first | (with_reducible first | exact HB.out | apply below_alloc | apply pw_below_drewN | apply below_drew1 | refine below_set ?_ GE177.out | refine below_set ?_ GE178.out) | exact HB.out)) hb)
  clear BK177
  clear BK178
  clear HB
  have BK177 := n0_
  have BK178 := n1_
  have HB := n2_
  clear n0_ n1_ n2_
  (try clear hb)
  (try clear hb2)
  (try clear hk)
  (try clear hi)
  refine hK.out _ _ ⟨(blk_cell BK177.out 0).trans rfl, (blk_cell BK177.out 1).trans rfl, (blk_cell BK177.out 2).trans rfl, (blk_cell BK177.out 3).trans rfl, (blk_cell BK177.out 4).trans rfl, (blk_cell BK177.out 5).trans rfl⟩ (fun hHeld => ?_)
  clear hK K
  refine norm_ (a' := ?_) ?_ ?_
  rotate_left
  ·show Act.put _ (some 19) _ = _
   simp only [Act.put, sA_, sZ_, sS_, i64_w, i32_w]
   rfl
  refine pure_ (i := 10) (N := some 4) (v := ?_) (a' := ?_) #[true, true, true, true, true, true, true, true, true, true, true] rfl rfl (any_of HT_.out (by kernel_rfl)) (fun _ _ _ h => h) (Or.inl ⟨by rfl, ?_⟩) ?_ ?_
  rotate_left; intro w'; go_simp; with_reducible rfl; rotate_left; simp only [Act.put, sA_, sZ_, sS_, i64_w, i32_w]; rfl
  refine done_ (done_of HT_.out (by kernel_rfl)) ?_
  try go_wp2
  go_ret
  exact ⟨by first | rfl | (simp [errW_none, errW_some] <;> rfl) | (simp [*, errW_none, errW_some] <;> rfl), by repeat (first | (with_reducible first | exact HB.out | apply below_alloc | apply pw_below_drewN | apply below_drew1 | refine below_set ?_ GE177.out | refine below_set ?_ GE178.out) | exact HB.out)⟩
 ·rw [if_neg c4] at H
  have c4b0 : decide (0 ≤ a0_1) = false := decide_eq_false c4
  clear c4
  replace H := Option.bind_eq_some_iff.mp H
  obtain ⟨t180, A90, H⟩ := H
  replace H : ((spec_l00Min.f 1 (wrap64 (t180 + 1))).bind fun t181 => (some t181)) = some r := H
  have A9 := Aside0.mk A90
  clear A90
  replace H := Option.bind_eq_some_iff.mp H
  obtain ⟨t181, A100, H⟩ := H
  replace H : (some t181) = some r := H
  have A10 := Aside0.mk A100
  clear A100
  obtain rfl := Option.some.inj H
  have hcz11_0 : w.cell? ⟨B0_0, 0, none⟩ = some (.pointer (some ⟨B2_0, 0, none⟩)) := (blk_cell BK177.out 0).trans rfl
  have hcz11_1 : w.cell? ⟨B0_0, 1, none⟩ = some (.int .i64 a0_1) := (blk_cell BK177.out 1).trans rfl
  have hcz11_2 : w.cell? ⟨B0_0, 2, none⟩ = some (.slice A0_2 l0_2.length c0_2) := (blk_cell BK177.out 2).trans rfl
  have hcz11_3 : w.cell? ⟨B0_0, 3, none⟩ = some (.slice A0_3 l0_3.length c0_3) := (blk_cell BK177.out 3).trans rfl
  have hcz11_4 : w.cell? ⟨B0_0, 4, none⟩ = some (.int .i64 a0_4) := (blk_cell BK177.out 4).trans rfl
  have hcz11_5 : w.cell? ⟨B0_0, 5, none⟩ = some (.bool a0_5) := (blk_cell BK177.out 5).trans rfl
  have hfz11_0 := blk_frozen BK177.out 0
  have hfz11_1 := blk_frozen BK177.out 1
  have hfz11_2 := blk_frozen BK177.out 2
  have hfz11_3 := blk_frozen BK177.out 3
  have hfz11_4 := blk_frozen BK177.out 4
  have hfz11_5 := blk_frozen BK177.out 5
  go_enter Try.func104, Try.ntmps104
  go_wp2_with (first | ((with_reducible refine gate_callee (f := 55) rfl ?_); refine goesL_ (some 25) rfl rfl Try.func55 (by kernel_rfl) rfl #[.pointer (some ⟨B2_0, 0, none⟩), .int .i64 a1] rfl (by (try simp only [List.map_toArray, List.map_cons, List.map_nil]); first | done | rfl | (simp only [List.length_drop, List.length_take]; rfl)) ?_; (with_reducible refine (spec_l03Step.calls k B2_0 A2_0 c2_0 l2_0 A2_1 c2_1 l2_1 a1 t180 _ ?side1 ?side2 ?side3 ?side4 ?side5 A9.out).mono ?_); (case side1 => repeat (first | exact HR2_0.out | (with_reducible refine Kd.C_alloc ?_ _) | (with_reducible refine Kd.C_drewN ?_ _) | (with_reducible refine Kd.C_drew ?_))); (case side2 => exact HC2_0.out); (case side3 => repeat (first | exact HR2_1.out | (with_reducible refine Kd.C_alloc ?_ _) | (with_reducible refine Kd.C_drewN ?_ _) | (with_reducible refine Kd.C_drew ?_))); (case side4 => exact HC2_1.out); (case side5 => (with_reducible repeat (first | refine blk_drewN ?_ _ | refine blk_drew ?_ | refine blk_alloc ?_ _)); exact BK178.out); rintro e w12 ⟨rfl, hb⟩; refine ⟨_, rfl, ?_⟩; have n0_ := Aside0.mk (blk_below (g := B0_0) (o := .cells #[.pointer (some ⟨B2_0, 0, none⟩), .int .i64 a0_1, .slice A0_2 l0_2.length c0_2, .slice A0_3 l0_3.length c0_3, .int .i64 a0_4, .bool a0_5] 87 (0, 0)) (by (with_reducible repeat (first | refine blk_drewN ?_ _ | refine blk_drew ?_ | refine blk_alloc ?_ _)); exact BK177.out) hb); have n1_ := Aside0.mk (blk_below (g := B2_0) (o := .cells #[.slice A2_0 l2_0.length c2_0, .slice A2_1 l2_1.length c2_1] 38 (0, 0)) (by (with_reducible repeat (first | refine blk_drewN ?_ _ | refine blk_drew ?_ | refine blk_alloc ?_ _)); exact BK178.out) hb); have n2_ := Aside0.mk (below_step (by repeat (first | (with_reducible first | exact HB.out | apply below_alloc | apply pw_below_drewN | apply below_drew1 | refine below_set ?_ GE177.out | refine below_set ?_ GE178.out) | exact HB.out)) hb); clear BK177; clear BK178; clear HB; have BK177 := n0_; have BK178 := n1_; have HB := n2_; clear n0_ n1_ n2_; (try clear hb); (try clear hb2); (try clear hk); (try clear hi)) | ((with_reducible refine gate_callee (f := 67) rfl ?_); refine goesL_ (some 27) rfl rfl Try.func67 (by kernel_rfl) rfl #[.int .i64 1, .int .i64 (wrap64 (t180 + 1))] rfl (by (try simp only [List.map_toArray, List.map_cons, List.map_nil]); first | done | rfl | (simp only [List.length_drop, List.length_take]; rfl)) ?_; (with_reducible refine (spec_l00Min.calls 1 (wrap64 (t180 + 1)) t181 _ A10.out).mono ?_); rintro e w' ⟨rfl, ⟨nd, rfl⟩⟩; refine ⟨_, rfl, ?_⟩))
  go_ret
  exact ⟨by first | rfl | (simp [errW_none, errW_some] <;> rfl) | (simp [*, errW_none, errW_some] <;> rfl), by repeat (first | (with_reducible first | exact HB.out | apply below_alloc | apply pw_below_drewN | apply below_drew1 | refine below_set ?_ GE177.out | refine below_set ?_ GE178.out) | exact HB.out)⟩

def f18z.f (l0 : List Int) : Option (List Int) := (some (([] : List Int) : List Int)).bind fun y180 => (if y180.length + l0.length < 17592186044416 then (some (y180 ++ l0)) else (none))
set_option maxHeartbeats 8000000 in
set_option maxRecDepth 100000 in
theorem f18z.calls (A0 : Option Addr) (c0 : Nat) (l0 : List Int) (r : List Int) (w : World) (hr0 : Kd.C (Kd.int .i64) w A0 l0.length l0) (hc0 : l0.length ≤ c0) (h : f18z.f l0 = some r) :
  Calls Try.prog 109 #[.slice A0 l0.length c0] w fun e w' => ∃ v0_ : Value, e = .returned (v0_) ∧ Kd.R (Kd.int .i64) 2 w' w.heap.size (fun _ => True) v0_ r ∧ Below w.heap.size w w' := by
 cases A0 with
 | none =>
  obtain rfl : l0 = [] := by
   obtain ⟨e1_, _, e3_⟩ := hr0
   cases l0 with
   | nil => rfl
   | cons a_ t_ => obtain ⟨ad_, e4_, _⟩ := e3_ (by simp); cases e4_
  obtain rfl : r = [] := by have h1_ := h; simp [f18z.f] at h1_; first | exact h1_ | exact h1_.symm
  clear h hr0 hc0
  have qn_ : ∀ (w : World) (a : Option Addr) (n c : Nat), (binOp .eql 34 (.slice a n c) (.slice none 0 0)).run Try.prog w = .ok (.bool a.isNone) w := fun w a n c => Lib.run_eql_slice_nil w _ _ a n c 0 0 Try.underlying34
  go_enter Try.func109, Try.ntmps109
  go_wp2
  go_ret
  exact ⟨_, rfl, Kd.R_nil _ _ _ _ _, Below.refl _ _⟩
 | some A0 =>
  have HR0 := Aside0.mk hr0
  have HC0 := Aside0.mk hc0
  clear hr0 hc0
  have HB := Aside0.mk (Below.refl w.heap.size w)
  have H : ((some (([] : List Int) : List Int)).bind fun y180 => (if y180.length + l0.length < 17592186044416 then (some (y180 ++ l0)) else (none))) = some r := h
  clear h
  obtain ⟨y180, hy180⟩ : ∃ y_ : List Int, y_ = (([] : List Int)) := ⟨_, rfl⟩
  replace H : (if y180.length + l0.length < 17592186044416 then (some (y180 ++ l0)) else (none)) = some r := by first | (rw [hy180]; with_reducible exact H) | (have H2_ := (Option.bind_some _ _).symm.trans H; rw [hy180]; with_reducible exact H2_) | (have H2_ := (Option.bind_some _ _).symm.trans H; with_reducible exact H2_) | with_reducible exact H | (rw [hy180]; exact H) | exact H
  have Ny180 := Aside0.mk hy180
  clear hy180
  by_cases c2 : y180.length + l0.length < 17592186044416
  ·rw [if_pos c2] at H
   have LMc2 := Aside0.mk c2
   clear c2
   obtain ⟨y183, hy183⟩ : ∃ y_ : List Int, y_ = (y180 ++ l0) := ⟨_, rfl⟩
   replace H : (some y183) = some r := by first | (rw [hy183]; with_reducible exact H) | (have H2_ := (Option.bind_some _ _).symm.trans H; rw [hy183]; with_reducible exact H2_) | (have H2_ := (Option.bind_some _ _).symm.trans H; with_reducible exact H2_) | with_reducible exact H | (rw [hy183]; exact H) | exact H
   have Ny183 := Aside0.mk hy183
   clear hy183
   obtain rfl := Option.some.inj H
   have qn_ : ∀ (w : World) (a : Option Addr) (n c : Nat), (binOp .eql 34 (.slice a n c) (.slice none 0 0)).run Try.prog w = .ok (.bool a.isNone) w := fun w a n c => Lib.run_eql_slice_nil w _ _ a n c 0 0 Try.underlying34
   go_enter Try.func109, Try.ntmps109
   go_wp2_with (first | ((with_reducible refine gate_dst (N := 5) rfl ?_); refine Kd.R_lit (Kd.int .i64) _ 2 ?hg (N := 5) ?hd (xs := ([] : List Int)) (inner := []) (ok := fun _ => True) (okp := fun _ => True) ?hr ?hp (fun _ hk => hk) trivial (Below.refl _ _) (Nat.le_refl _) (by simp) ?_; (case hd => rfl); (case hg => rfl); (case hr => first | (go_simp; done) | (go_simp; rfl)); (case hp => exact (Reps.none _ _)); intro v181 w3 ho4 hb hg_ hnew_; clear hg_ hnew_; (first | rw [← Ny180.out] at ho4 | (simp only [Int.reduceToNat] at ho4; rw [← Ny180.out] at ho4)); have n0_ := Aside0.mk (Kd.R_lower ho4 (below_size (by repeat (first | (with_reducible first | exact HB.out | apply below_alloc | apply pw_below_drewN | apply below_drew1) | exact HB.out)))); have n1_ := Aside0.mk (below_step (by repeat (first | (with_reducible first | exact HB.out | apply below_alloc | apply pw_below_drewN | apply below_drew1) | exact HB.out)) hb); clear HB; have HO182 := n0_; have HB := n1_; clear n0_ n1_; clear hb ho4) | ((with_reducible refine gate_builtin (b := .append) (xs := #[.tmp 5, .tmp 6]) rfl ?_); at_builtin; refine Kd.R_append_rows (Kd.int .i64) (w0 := w) w.heap.size rfl (.tmp 5) (.tmp 6) 34 2 (.int .i64 0) 8 rfl Try.underlying34 info2 rfl (by decide) (by omega) v181 y180 l0 _ _ _ (fun _ => True) (fun _ => False) rfl rfl ?aO ?aR (fun _ _ h => h) (fun _ h => h.elim) ?aF ?aB ?aS ?aL ?_; (case aR => repeat (first | exact (Kd.C_below HR0.out HB.out) | (with_reducible refine Kd.C_alloc ?_ _) | (with_reducible refine Kd.C_drewN ?_ _) | (with_reducible refine Kd.C_drew ?_))); (case aB => exact (by repeat (first | (with_reducible first | exact HB.out | apply below_alloc | apply pw_below_drewN | apply below_drew1) | exact HB.out))); (case aF => exact (fun _ _ => trivial)); (case aO => exact (by (with_reducible repeat (first | apply Kd.R_alloc | apply Kd.R_drewN | apply Kd.R_drew)); exact HO182.out)); (case aS => exact (below_size (by repeat (first | (with_reducible first | exact HB.out | apply below_alloc | apply pw_below_drewN | apply below_drew1) | exact HB.out)))); (case aL => have := LMc2.out; omega); intro v184 w5 ho hb hg hat; rw [← Ny183.out] at ho; have n0_ := Aside0.mk (hb); have n1_ := Aside0.mk (ho); clear HB; clear HO182; have HB := n0_; have HO185 := n1_; clear n0_ n1_; clear ho hb hg hat))
   go_ret
   exact ⟨_, by first | rfl | (simp [errW_none, errW_some] <;> rfl) | (simp [*, errW_none, errW_some] <;> rfl), by (with_reducible repeat (first | apply Kd.R_alloc | apply Kd.R_drewN | apply Kd.R_drew)); exact HO185.out, by repeat (first | (with_reducible first | exact HB.out | apply below_alloc | apply pw_below_drewN | apply below_drew1) | exact HB.out)⟩
  ·rw [if_neg c2] at H
   exact absurd H (by simp)

section
variable {P : Program} {ops : Array Oper} {Q : Exit → Act → World → Prop}
theorem goesV_ {oi : Oper} {N : Option Tmp} {a : Act} {w : World} {K : Act → World → Prop} {g : Nat} {lb : Array Value} {t : Operand} {xs_ : Array Operand} {ts : Array TypeId} (eg : ∀ args w, (callFunc g args).run P w = .ok (.enter g args) w) (args : Array Value)
  (hw : Region.wanted oi (yielded ops a.tmps) = true) (hN : oi.dst = N) (hop : oi.op = .call { callee := .value t, args := xs_, argTypes := ts }) (hv : a.eval t = .func (.func g) #[] lb) (hargs : xs_.map a.eval = args)
  (h : Calls P g (args ++ lb) w fun e w' => ∃ v, e = .returned v ∧ K (a.put N v) w') : if Region.wanted oi (yielded ops a.tmps) = true then Oper.wp P oi a w K Q else K (a.put N undef) w := by
 refine call_ g (args ++ lb) hw hN ?_ h
 unfold execOp
 simp [hop, resolve, Deferred.ofValue, invoke, hv, hargs, eg]
theorem goesLV_ {rest : List Oper} {oi : Oper} {a : Act} {w : World} (N : Option Tmp) (hd : oi.dst = N) (hg : oi.guard = none) {g : Nat} {lb : Array Value} {t : Operand} {xs_ : Array Operand} {ts : Array TypeId} (eg : ∀ args w, (callFunc g args).run P w = .ok (.enter g args) w) (args : Array Value)
  (hop : oi.op = .call { callee := .value t, args := xs_, argTypes := ts }) (hv : a.eval t = .func (.func g) #[] lb) (hargs : xs_.map a.eval = args)
  (h : Calls P g (args ++ lb) w fun e w' => ∃ v, e = .returned v ∧ wpList P ops Q rest (a.put N v) w') : wpList P ops Q (oi :: rest) a w := by
 refine wpList_plain hg fun K hK => ?_
 have hrun : (execOp a.eval oi).run P w = .ok (.enter g (args ++ lb)) w := by
  unfold execOp
  simp [hop, resolve, Deferred.ofValue, invoke, hv, hargs, eg]
 unfold Oper.wp
 rw [hrun, Oper.upon_enter]
 refine h.mono fun e w'' hh => ?_
 obtain ⟨v, rfl, hk⟩ := hh
 subst hd
 exact hK _ _ hk
end
/-- What a search keeps: all but the state's own blocks; the state. -/
structure GrSt (base : Nat) (S : Nat → Prop) (I : World → Prop) (w W : World) : Prop where
 kept : Kept w W S
 below : Below base w W
 st : I W
theorem GrSt.step {base : Nat} {S : Nat → Prop} {I : World → Prop} {w W W' : World} (h : GrSt base S I w W) (hI : ∀ W W', I W → Below W.heap.size W W' → I W') (hbase : base ≤ w.heap.size) (hb : Below W.heap.size W W') : GrSt base S I w W' :=
 ⟨h.kept.below hb, h.below.trans (hb.mono (Nat.le_trans hbase h.kept.1)), hI _ _ h.st hb⟩
theorem GrSt.refl {base : Nat} {S : Nat → Prop} {I : World → Prop} {w : World} (h : I w) : GrSt base S I w w := ⟨Kept.refl _ _, Below.refl _ _, h⟩
theorem GrSt.trans {base : Nat} {S : Nat → Prop} {I I' : World → Prop} {w W W' : World} (h : GrSt base S I w W) (k : Kept W W' S) (b : Below base W W') (i : I' W') : GrSt base S I' w W' :=
 ⟨h.kept.then_ k (fun _ h => .inl h), h.below.trans b, i⟩
mutual
def impl_grouped_1.c {σ : Type} (may : List Int → Int → Option Bool) (each : σ → List Int → Int → Option (Bool × σ)) (n : Int) : Nat → σ → List Int → Int → Option (Bool × σ)
 | 0, _, _, _ => none
 | k + 1, s, x0, x1 => if (x0.length : Int) = n then (each s x0 x1) else (impl_grouped_1.l0 may each n k x0 x1 (wrap64 (x1 + 1)) 0 s)
def impl_grouped_1.l0 {σ : Type} (may : List Int → Int → Option Bool) (each : σ → List Int → Int → Option (Bool × σ)) (n : Int) : Nat → List Int → Int → Int → Int → σ → Option (Bool × σ)
 | 0, _, _, _, _, _ => none
 | k + 1, x0, x1, x19, x20, s => if x20 < x19 then ((may x0 x20).bind fun t228 => (if t228 = true then ((f18z.f x0).bind fun t229 => ((some (([x20] : List Int) : List Int)).bind fun y232 => (if t229.length + y232.length < 17592186044416 then ((impl_grouped_1.c may each n k s (t229 ++ y232) (mx x1 (wrap64 (x20 + 1)))).bind fun t238 => (if t238.1 = true then (impl_grouped_1.l0 may each n k x0 x1 x19 (wrap64 (x20 + 1)) t238.2) else (some (false, t238.2)))) else (none)))) else (impl_grouped_1.l0 may each n k x0 x1 x19 (wrap64 (x20 + 1)) s))) else (some (true, s))
end
theorem impl_grouped_1.mono {σ : Type} {may may' : List Int → Int → Option Bool} {each each' : σ → List Int → Int → Option (Bool × σ)} (hm : ∀ x y, LeO (may x y) (may' x y)) (he : ∀ s x y, LeO (each s x y) (each' s x y)) (n : Int) : ∀ k, (∀ y0 y1 y2, LeO (impl_grouped_1.c may each n k y0 y1 y2) (impl_grouped_1.c may' each' n (k + 1) y0 y1 y2)) ∧ (∀ y0 y1 y2 y3 y4, LeO (impl_grouped_1.l0 may each n k y0 y1 y2 y3 y4) (impl_grouped_1.l0 may' each' n (k + 1) y0 y1 y2 y3 y4))
 | 0 => ⟨fun _ _ _ r h => by simp [impl_grouped_1.c] at h, fun _ _ _ _ _ r h => by simp [impl_grouped_1.l0] at h⟩
 | k + 1 => by
  obtain ⟨ih0, ih1⟩ := impl_grouped_1.mono hm he n k
  refine ⟨?_, ?_⟩
  ·intro y0 y1 y2
   unfold impl_grouped_1.c
   exact LeO.ite (he _ _ _) (ih1 _ _ _ _ _)
  ·intro y0 y1 y2 y3 y4
   unfold impl_grouped_1.l0
   repeat' first
   | exact ih1 _ _ _ _ _
   | exact ih0 _ _ _
   | exact hm _ _
   | exact LeO.none _
   | (with_reducible exact LeO.refl _)
   | refine LeO.ite ?_ ?_
   | refine LeO.bind ?_ (fun _ => ?_)
def impl_grouped_1.T6 : Bool × List (List Nat × List Nat) := (true, [([], []), ([], []), ([], []), ([0, 1, 2], [0, 1, 2]), ([3, 3], [3]), ([4], [4]), ([4], [4]), ([6, 4, 4], [4, 6]), ([4], [4]), ([8, 4], [4, 8]), ([7, 9, 7, 4], [4, 7, 9]), ([4], [4]), ([4], [4]), ([12, 4], [4, 12]), ([11, 13, 4], [4, 11, 13]), ([5, 10, 14, 10, 4], [4, 5, 10, 14]), ([15, 4], [4, 15]), ([4, 16], [4, 16])])
def impl_grouped_1.B6 : List Nat := [0, 0, 0, 7, 15, 31, 31, 95, 31, 287, 991, 31, 31, 4127, 14367, 32767, 65535, 131071]
theorem impl_grouped_1.tab6 : rtab .any (opsOf Try.f108 6) = impl_grouped_1.T6 := by kernel_rfl
theorem impl_grouped_1.bits6 : waitsOk impl_grouped_1.T6.2 impl_grouped_1.B6 = true := by kernel_rfl
set_option maxHeartbeats 8000000 in
set_option maxRecDepth 100000 in
theorem impl_grouped_1.calls {σ : Type} (may : List Int → Int → Option Bool) (each : σ → List Int → Int → Option (Bool × σ)) (gE gM : Nat) (lE lM : Array Value) (I : σ → World → Prop) (S : Nat → Prop) (base : Nat) (w0 : World) (n : Int) (B2_0 B2_1 B2_2 B2_3 : Nat)
  (egE : ∀ args w, (callFunc gE args).run Try.prog w = .ok (.enter gE args) w) (egM : ∀ args w, (callFunc gM args).run Try.prog w = .ok (.enter gM args) w)
  (hI : ∀ s W W', I s W → Below W.heap.size W W' → I s W') (hS : ∀ k, S k → k < w0.heap.size) (hn0 : ¬ S B2_0) (hn1 : ¬ S B2_1) (hn2 : ¬ S B2_2) (hn3 : ¬ S B2_3)
  (hm : ∀ (W : World) (A : Option Addr) (c : Nat) (xs : List Int) (j : Int) (b : Bool), Kd.C (Kd.int .i64) W A xs.length xs → xs.length ≤ c → Kept w0 W S → may xs j = some b → Calls Try.prog gM (#[.slice A xs.length c, .int .i64 j] ++ lM) W fun e w' => e = .returned (.bool b) ∧ Below W.heap.size W w')
  (he : ∀ (W : World) (A : Option Addr) (c : Nat) (xs : List Int) (j : Int) (s : σ) (r : Bool × σ), Kd.R (Kd.int .i64) 2 W base (fun k => ¬ S k) (.slice A xs.length c) xs → Kept w0 W S → base ≤ W.heap.size → I s W → each s xs j = some r → Calls Try.prog gE (#[.slice A xs.length c, .int .i64 j] ++ lE) W fun e w' => e = .returned (.bool r.1) ∧ Kept W w' S ∧ Below base W w' ∧ I r.2 w') :
  ∀ (d : Nat) (A0 : Option Addr) (c0 : Nat) (l0 : List Int) (a1 : Int) (s : σ) (r : Bool × σ) (w : World) (hr0 : Kd.R (Kd.int .i64) 2 w base (fun k => ¬ S k) (.slice A0 l0.length c0) l0) (hk0 : Kept w0 w S) (hbase : base ≤ w.heap.size) (his : I s w) (hkB2_0 : w.heap[B2_0]? = some (.cells #[.int .i64 n] 3 (0, 0))) (hkB2_1 : w.heap[B2_1]? = some (.cells #[(.func (.func gE) #[] lE)] 91 (0, 0))) (hkB2_2 : w.heap[B2_2]? = some (.cells #[(.func (.func gM) #[] lM)] 91 (0, 0))) (hkB2_3 : w.heap[B2_3]? = some (.cells #[(.func (.func 108) #[] #[.pointer (some ⟨B2_0, 0, none⟩), .pointer (some ⟨B2_1, 0, none⟩), .pointer (some ⟨B2_2, 0, none⟩), .pointer (some ⟨B2_3, 0, none⟩)])] 91 (0, 0))) (h : impl_grouped_1.c may each n d s l0 a1 = some r),
  Calls Try.prog 108 #[.slice A0 l0.length c0, .int .i64 a1, .pointer (some ⟨B2_0, 0, none⟩), .pointer (some ⟨B2_1, 0, none⟩), .pointer (some ⟨B2_2, 0, none⟩), .pointer (some ⟨B2_3, 0, none⟩)] w fun e w' => e = .returned (.bool r.1) ∧ Kept w w' S ∧ Below base w w' ∧ I r.2 w' := by
 intro d
 induction d using Nat.strongRecOn with
 | _ d ih =>
 intro A0 c0 l0 a1 s r w hr0 hk0 hbase his hkB2_0 hkB2_1 hkB2_2 hkB2_3 h
 cases d with
 | zero => simp [impl_grouped_1.c] at h
 | succ k =>
  have hc0 := (Kd.R_reads' hr0).2.1
  have HR0 := Aside0.mk hr0
  have HC0 := Aside0.mk hc0
  clear hr0 hc0
  have BK223 := Aside0.mk hkB2_0
  clear hkB2_0
  have BK224 := Aside0.mk hkB2_1
  clear hkB2_1
  have BK225 := Aside0.mk hkB2_2
  clear hkB2_2
  have BK226 := Aside0.mk hkB2_3
  clear hkB2_3
  have HB := Aside0.mk (Below.refl w.heap.size w)
  have H : (if (l0.length : Int) = n then (each s l0 a1) else (impl_grouped_1.l0 may each n k l0 a1 (wrap64 (a1 + 1)) 0 s)) = some r := by simpa only [impl_grouped_1.c] using h
  clear h
  by_cases c4 : (l0.length : Int) = n
  ·rw [if_pos c4] at H
   have c4b0 : ((l0.length : Int) == n) = true := beq_iff_eq.mpr c4
   have c4b1 : ((l0.length : Int) != n) = false := bne_eq_false_iff_eq.mpr c4
   clear c4
   have hcz6_0 : w.cell? ⟨B2_0, 0, none⟩ = some (.int .i64 n) := (blk_cell BK223.out 0).trans rfl
   have hfz6_0 := blk_frozen BK223.out 0
   have hcz7_0 : w.cell? ⟨B2_1, 0, none⟩ = some (.func (.func gE) #[] lE) := (blk_cell BK224.out 0).trans rfl
   have hfz7_0 := blk_frozen BK224.out 0
   go_enter Try.func108, Try.ntmps108
   go_wp2_with (refine goesLV_ (some 17) rfl rfl (g := gE) (lb := lE) egE #[.slice A0 l0.length c0, .int .i64 a1] rfl (by rfl) (by (try simp only [List.map_toArray, List.map_cons, List.map_nil]); first | done | rfl) ?_; refine (he _ A0 c0 l0 a1 s r HR0.out hk0 hbase his H).mono ?_; rintro e w8 ⟨rfl, hk8, hb8, hi8⟩; refine ⟨_, rfl, ?_⟩)
   go_ret
   exact ⟨by first | rfl | (simp; done), hk8, hb8, hi8⟩
  ·rw [if_neg c4] at H
   have c4b0 : ((l0.length : Int) == n) = false := beq_eq_false_iff_ne.mpr c4
   have c4b1 : ((l0.length : Int) != n) = true := bne_iff_ne.mpr c4
   have H' := Aside0.mk H
   clear H
   have hcz9_0 : w.cell? ⟨B2_0, 0, none⟩ = some (.int .i64 n) := (blk_cell BK223.out 0).trans rfl
   have hfz9_0 := blk_frozen BK223.out 0
   go_enter Try.func108, Try.ntmps108
   go_wp2
   go_loopg [20] k (fun kq v20 w' => ∃ (x20_1 : Int) (s_1 : σ), v20 = .int .i64 x20_1 ∧ Aside0 (impl_grouped_1.l0 may each n kq l0 a1 (wrap64 (a1 + 1)) x20_1 s_1 = some r) ∧ Aside0 (kq ≤ k) ∧ Aside0 (w'.heap[B2_0]? = some (.cells #[.int .i64 n] 3 (0, 0))) ∧ Aside0 (w'.heap[B2_1]? = some (.cells #[.func (.func gE) #[] lE] 91 (0, 0))) ∧ Aside0 (w'.heap[B2_2]? = some (.cells #[.func (.func gM) #[] lM] 91 (0, 0))) ∧ Aside0 (w'.heap[B2_3]? = some (.cells #[.func (.func 108) #[] #[.pointer (some ⟨B2_0, 0, none⟩), .pointer (some ⟨B2_1, 0, none⟩), .pointer (some ⟨B2_2, 0, none⟩), .pointer (some ⟨B2_3, 0, none⟩)]] 91 (0, 0))) ∧ Aside0 (GrSt base S (I s_1) w w'))
   case atStart => exact ⟨(0), s, (by first | rfl | (simp; done) | (simp [*]; done)), H', ⟨Nat.le_refl _⟩, ⟨by (with_reducible repeat (first | refine blk_drewN ?_ _ | refine blk_drew ?_ | refine blk_alloc ?_ _)); exact BK223.out⟩, ⟨by (with_reducible repeat (first | refine blk_drewN ?_ _ | refine blk_drew ?_ | refine blk_alloc ?_ _)); exact BK224.out⟩, ⟨by (with_reducible repeat (first | refine blk_drewN ?_ _ | refine blk_drew ?_ | refine blk_alloc ?_ _)); exact BK225.out⟩, ⟨by (with_reducible repeat (first | refine blk_drewN ?_ _ | refine blk_drew ?_ | refine blk_alloc ?_ _)); exact BK226.out⟩, ⟨(GrSt.refl his).step (hI s) hbase (by repeat (first | (with_reducible first | exact HB.out | apply below_alloc | apply pw_below_drewN | apply below_drew1 | refine below_set ?_ GE223.out | refine below_set ?_ GE224.out | refine below_set ?_ GE225.out | refine below_set ?_ GE226.out) | exact HB.out))⟩⟩
   case round =>
    clear H'
    try clear p2
    try clear c4
    try clear c4b0
    try clear c4b1
    try clear c5
    try clear p6
    try clear c7
    try clear hcz6_0
    try clear hcz7_0
    try clear hcz9_0
    try clear hfz6_0
    try clear hfz7_0
    try clear hfz9_0
    obtain ⟨x20_1, s_1, rfl, HA, HK1, BK223, BK224, BK225, BK226, HG⟩ := hrel
    have HR1 := Aside0.mk (Kd.R_reads' (Kd.R_kept HR0.out HG.out.kept (fun _ h => h))).2.2
    have HK0 := Aside0.mk (hk0.then_ HG.out.kept (fun _ h => .inl h))
    try clear HB
    have HB := Aside0.mk (Below.refl wr.heap.size wr)
    cases gk with
    | zero => exact absurd HA.out (by simp [impl_grouped_1.l0])
    | succ k1 =>
     have H := HA.out
     clear HA
     simp only [impl_grouped_1.l0] at H
     by_cases c10 : x20_1 < (wrap64 (a1 + 1))
     ·rw [if_pos c10] at H
      have c10b0 : decide (x20_1 < (wrap64 (a1 + 1))) = true := decide_eq_true c10
      clear c10
      replace H := Option.bind_eq_some_iff.mp H
      obtain ⟨t228, A110, H⟩ := H
      replace H : (if t228 = true then ((f18z.f l0).bind fun t229 => ((some (([x20_1] : List Int) : List Int)).bind fun y232 => (if t229.length + y232.length < 17592186044416 then ((impl_grouped_1.c may each n k1 s_1 (t229 ++ y232) (mx a1 (wrap64 (x20_1 + 1)))).bind fun t238 => (if t238.1 = true then (impl_grouped_1.l0 may each n k1 l0 a1 (wrap64 (a1 + 1)) (wrap64 (x20_1 + 1)) t238.2) else (some (false, t238.2)))) else (none)))) else (impl_grouped_1.l0 may each n k1 l0 a1 (wrap64 (a1 + 1)) (wrap64 (x20_1 + 1)) s_1)) = some r := H
      have A11 := Aside0.mk A110
      clear A110
      by_cases c12 : t228 = true
      ·subst c12
       have H1 : ((f18z.f l0).bind fun t229 => ((some (([x20_1] : List Int) : List Int)).bind fun y232 => (if t229.length + y232.length < 17592186044416 then ((impl_grouped_1.c may each n k1 s_1 (t229 ++ y232) (mx a1 (wrap64 (x20_1 + 1)))).bind fun t238 => (if t238.1 = true then (impl_grouped_1.l0 may each n k1 l0 a1 (wrap64 (a1 + 1)) (wrap64 (x20_1 + 1)) t238.2) else (some (false, t238.2)))) else (none)))) = some r := by rw [if_pos rfl] at H; exact H
       clear H
       have H := H1
       clear H1
       replace H := Option.bind_eq_some_iff.mp H
       obtain ⟨t229, A130, H⟩ := H
       replace H : ((some (([x20_1] : List Int) : List Int)).bind fun y232 => (if t229.length + y232.length < 17592186044416 then ((impl_grouped_1.c may each n k1 s_1 (t229 ++ y232) (mx a1 (wrap64 (x20_1 + 1)))).bind fun t238 => (if t238.1 = true then (impl_grouped_1.l0 may each n k1 l0 a1 (wrap64 (a1 + 1)) (wrap64 (x20_1 + 1)) t238.2) else (some (false, t238.2)))) else (none))) = some r := H
       have A13 := Aside0.mk A130
       clear A130
       obtain ⟨y232, hy232⟩ : ∃ y_ : List Int, y_ = (([x20_1] : List Int)) := ⟨_, rfl⟩
       replace H : (if t229.length + y232.length < 17592186044416 then ((impl_grouped_1.c may each n k1 s_1 (t229 ++ y232) (mx a1 (wrap64 (x20_1 + 1)))).bind fun t238 => (if t238.1 = true then (impl_grouped_1.l0 may each n k1 l0 a1 (wrap64 (a1 + 1)) (wrap64 (x20_1 + 1)) t238.2) else (some (false, t238.2)))) else (none)) = some r := by first | (rw [hy232]; with_reducible exact H) | (have H2_ := (Option.bind_some _ _).symm.trans H; rw [hy232]; with_reducible exact H2_) | (have H2_ := (Option.bind_some _ _).symm.trans H; with_reducible exact H2_) | with_reducible exact H | (rw [hy232]; exact H) | exact H
       have Ny232 := Aside0.mk hy232
       clear hy232
       by_cases c14 : t229.length + y232.length < 17592186044416
       ·rw [if_pos c14] at H
        have LMc14 := Aside0.mk c14
        clear c14
        obtain ⟨y235, hy235⟩ : ∃ y_ : List Int, y_ = (t229 ++ y232) := ⟨_, rfl⟩
        replace H : ((impl_grouped_1.c may each n k1 s_1 y235 (mx a1 (wrap64 (x20_1 + 1)))).bind fun t238 => (if t238.1 = true then (impl_grouped_1.l0 may each n k1 l0 a1 (wrap64 (a1 + 1)) (wrap64 (x20_1 + 1)) t238.2) else (some (false, t238.2)))) = some r := by first | (rw [hy235]; with_reducible exact H) | (have H2_ := (Option.bind_some _ _).symm.trans H; rw [hy235]; with_reducible exact H2_) | (have H2_ := (Option.bind_some _ _).symm.trans H; with_reducible exact H2_) | with_reducible exact H | (rw [hy235]; exact H) | exact H
        have Ny235 := Aside0.mk hy235
        clear hy235
        obtain ⟨ji15, hji15⟩ : ∃ j_ : Int, (mx a1 (wrap64 (x20_1 + 1))) = j_ := ⟨_, rfl⟩
        replace H : ((impl_grouped_1.c may each n k1 s_1 y235 (ji15)).bind fun t238 => (if t238.1 = true then (impl_grouped_1.l0 may each n k1 l0 a1 (wrap64 (a1 + 1)) (wrap64 (x20_1 + 1)) t238.2) else (some (false, t238.2)))) = some r := by first | (rw [hji15] at H; exact H) | (simp only [hji15] at H ⊢; exact H)
        (try rw [hji15] at A11)
        (try rw [hji15] at A13)
        have hji15_ : (if a1 < (wrap64 (x20_1 + 1)) then (wrap64 (x20_1 + 1)) else a1) = ji15 := hji15
        replace H := Option.bind_eq_some_iff.mp H
        obtain ⟨⟨t238, s238⟩, A160, H⟩ := H
        replace H : (if t238 = true then (impl_grouped_1.l0 may each n k1 l0 a1 (wrap64 (a1 + 1)) (wrap64 (x20_1 + 1)) s238) else (some (false, s238))) = some r := H
        have A16 := Aside0.mk A160
        clear A160
        by_cases c17 : t238 = true
        ·subst c17
         have H1 : (impl_grouped_1.l0 may each n k1 l0 a1 (wrap64 (a1 + 1)) (wrap64 (x20_1 + 1)) s238) = some r := by rw [if_pos rfl] at H; exact H
         clear H
         have H := H1
         clear H1
         have H' := Aside0.mk H
         clear H
         try go_wp2
         have n0_ := Aside0.mk (blk_drew BK223.out)
         have n1_ := Aside0.mk (blk_drew BK224.out)
         have n2_ := Aside0.mk (blk_drew BK225.out)
         have n3_ := Aside0.mk (blk_drew BK226.out)
         have n4_ := Aside0.mk (below_drew1 HB.out)
         clear BK223
         clear BK224
         clear BK225
         clear BK226
         clear HB
         have BK223 := n0_
         have BK224 := n1_
         have BK225 := n2_
         have BK226 := n3_
         have HB := n4_
         clear n0_ n1_ n2_ n3_ n4_
         refine start_ (n := 18) (S := fun w' => w'.cell? ⟨B2_2, 0, none⟩ = some (.func (.func gM) #[] lM) ∧ w'.cell? ⟨B2_3, 0, none⟩ = some (.func (.func 108) #[] #[.pointer (some ⟨B2_0, 0, none⟩), .pointer (some ⟨B2_1, 0, none⟩), .pointer (some ⟨B2_2, 0, none⟩), .pointer (some ⟨B2_3, 0, none⟩)])) (ds := []) #[false, false, false, false, false, false, false, false, false, false, false, false, false, false, false, false, false, false] (by kernel_rfl) rfl rfl ⟨(blk_cell BK225.out 0).trans rfl, (blk_cell BK226.out 0).trans rfl⟩ (fun hHeld => ?_); refine with_tabW impl_grouped_1.tab6 impl_grouped_1.bits6 (fun HT_ HW_ => ?_)
         generalize wr.drew = w18 at BK223 BK224 BK225 BK226 HB hHeld ⊢
         refine pure_ (i := 1) (N := some 24) (v := ?_) (a' := ?_) #[false, true, false, false, false, false, false, false, false, false, false, false, false, false, false, false, false, false] rfl rfl (any_of HT_.out (by kernel_rfl)) (fun _ _ _ h => h) (Or.inl ⟨by rfl, ?_⟩) ?_ ?_
         rotate_left; intro w'; go_simp; with_reducible rfl; rotate_left; simp only [Act.put, sA_, sZ_, sS_, i64_w, i32_w]; rfl
         refine pure_ (i := 2) (N := some 25) (v := ?_) (a' := ?_) #[false, true, true, false, false, false, false, false, false, false, false, false, false, false, false, false, false, false] rfl rfl (any_of HT_.out (by kernel_rfl)) (fun _ _ _ h => h) (Or.inl ⟨by rfl, ?_⟩) ?_ ?_
         rotate_left; intro w'; go_simp; with_reducible rfl; rotate_left; simp only [Act.put, sA_, sZ_, sS_, i64_w, i32_w]; rfl
         refine take_ (i := 0) (N := some 23) (v := ?_) (a' := ?_) #[true, true, true, false, false, false, false, false, false, false, false, false, false, false, false, false, false, false] rfl rfl (take_ofW HT_.out HW_.out (by kernel_rfl)) (fun _ _ _ h => h) (Or.inl ⟨by rfl, ?_⟩) hHeld ?_ ?_
         rotate_left; rintro w' ⟨s0, s1⟩; go_simp; with_reducible rfl; rotate_left; simp only [Act.put, sA_, sZ_, sS_, i64_w, i32_w]; rfl
         refine one_ (i := 3) (N := some 26) #[true, true, true, true, false, false, false, false, false, false, false, false, false, false, false, false, false, false] rfl rfl (one_of HT_.out (by kernel_rfl)) (by decide) (fun K hK => ?_)
         refine goesV_ egM #[.slice A0 l0.length c0, .int .i64 x20_1] (by rfl) rfl rfl (by rfl) (by (try simp only [List.map_toArray, List.map_cons, List.map_nil]); first | done | rfl) ?_
         refine (hm _ A0 c0 l0 x20_1 true ?side1 ?side2 (HK0.out.below HB.out) A11.out).mono ?_
         (case side1 => repeat (first | exact (Kd.C_below HR1.out HB.out) | (with_reducible refine Kd.C_alloc ?_ _) | (with_reducible refine Kd.C_drewN ?_ _) | (with_reducible refine Kd.C_drew ?_)))
         (case side2 => exact HC0.out)
         rintro e w19 ⟨rfl, hb⟩
         refine ⟨_, rfl, ?_⟩
         have n0_ := Aside0.mk (blk_below (g := B2_0) (o := .cells #[.int .i64 n] 3 (0, 0)) (by (with_reducible repeat (first | refine blk_drewN ?_ _ | refine blk_drew ?_ | refine blk_alloc ?_ _)); exact BK223.out) hb)
         have n1_ := Aside0.mk (blk_below (g := B2_1) (o := .cells #[.func (.func gE) #[] lE] 91 (0, 0)) (by (with_reducible repeat (first | refine blk_drewN ?_ _ | refine blk_drew ?_ | refine blk_alloc ?_ _)); exact BK224.out) hb)
         have n2_ := Aside0.mk (blk_below (g := B2_2) (o := .cells #[.func (.func gM) #[] lM] 91 (0, 0)) (by (with_reducible repeat (first | refine blk_drewN ?_ _ | refine blk_drew ?_ | refine blk_alloc ?_ _)); exact BK225.out) hb)
         have n3_ := Aside0.mk (blk_below (g := B2_3) (o := .cells #[.func (.func 108) #[] #[.pointer (some ⟨B2_0, 0, none⟩), .pointer (some ⟨B2_1, 0, none⟩), .pointer (some ⟨B2_2, 0, none⟩), .pointer (some ⟨B2_3, 0, none⟩)]] 91 (0, 0)) (by (with_reducible repeat (first | refine blk_drewN ?_ _ | refine blk_drew ?_ | refine blk_alloc ?_ _)); exact BK226.out) hb)
         have n4_ := Aside0.mk (below_step (by repeat (first | (with_reducible first | exact HB.out | apply below_alloc | apply pw_below_drewN | apply below_drew1 | refine below_set ?_ GE223.out | refine below_set ?_ GE224.out | refine below_set ?_ GE225.out | refine below_set ?_ GE226.out) | exact HB.out)) hb)
         clear BK223
         clear BK224
         clear BK225
         clear BK226
         clear HB
         have BK223 := n0_
         have BK224 := n1_
         have BK225 := n2_
         have BK226 := n3_
         have HB := n4_
         clear n0_ n1_ n2_ n3_ n4_
         (try clear hb)
         (try clear hb2)
         (try clear hk)
         (try clear hi)
         refine hK.out _ _ ⟨(blk_cell BK225.out 0).trans rfl, (blk_cell BK226.out 0).trans rfl⟩ (fun hHeld => ?_)
         clear hK K
         refine norm_ (a' := ?_) ?_ ?_
         rotate_left
         ·show Act.put _ (some 26) _ = _
          simp only [Act.put, sA_, sZ_, sS_, i64_w, i32_w]
          rfl
         refine pure_ (i := 4) (N := some 27) (v := ?_) (a' := ?_) #[true, true, true, true, true, false, false, false, false, false, false, false, false, false, false, false, false, false] rfl rfl (any_of HT_.out (by kernel_rfl)) (fun _ _ _ h => h) (Or.inl ⟨by rfl, ?_⟩) ?_ ?_
         rotate_left; intro w'; go_simp; with_reducible rfl; rotate_left; simp only [Act.put, sA_, sZ_, sS_, i64_w, i32_w]; rfl
         refine pure_ (i := 6) (N := some 29) (v := ?_) (a' := ?_) #[true, true, true, true, true, false, true, false, false, false, false, false, false, false, false, false, false, false] rfl rfl (any_of HT_.out (by kernel_rfl)) (fun _ _ _ h => h) (Or.inl ⟨by rfl, ?_⟩) ?_ ?_
         rotate_left; intro w'; go_simp; with_reducible rfl; rotate_left; simp only [Act.put, sA_, sZ_, sS_, i64_w, i32_w]; rfl
         refine pure_ (i := 8) (N := some 31) (v := ?_) (a' := ?_) #[true, true, true, true, true, false, true, false, true, false, false, false, false, false, false, false, false, false] rfl rfl (any_of HT_.out (by kernel_rfl)) (fun _ _ _ h => h) (Or.inl ⟨by rfl, ?_⟩) ?_ ?_
         rotate_left; intro w'; go_simp; with_reducible rfl; rotate_left; simp only [Act.put, sA_, sZ_, sS_, i64_w, i32_w]; rfl
         refine pure_ (i := 11) (N := some 34) (v := ?_) (a' := ?_) #[true, true, true, true, true, false, true, false, true, false, false, true, false, false, false, false, false, false] rfl rfl (any_of HT_.out (by kernel_rfl)) (fun _ _ _ h => h) (Or.inl ⟨by rfl, ?_⟩) ?_ ?_
         rotate_left; intro w'; go_simp; with_reducible rfl; rotate_left; simp only [Act.put, sA_, sZ_, sS_, i64_w, i32_w]; rfl
         refine pure_ (i := 12) (N := some 35) (v := ?_) (a' := ?_) #[true, true, true, true, true, false, true, false, true, false, false, true, true, false, false, false, false, false] rfl rfl (any_of HT_.out (by kernel_rfl)) (fun _ _ _ h => h) (Or.inl ⟨by rfl, ?_⟩) ?_ ?_
         rotate_left; intro w'; go_simp; with_reducible rfl; rotate_left; simp only [Act.put, sA_, sZ_, sS_, i64_w, i32_w]; rfl
         refine pure_ (i := 13) (N := some 36) (v := ?_) (a' := ?_) #[true, true, true, true, true, false, true, false, true, false, false, true, true, true, false, false, false, false] rfl rfl (any_of HT_.out (by kernel_rfl)) (fun _ _ _ h => h) (Or.inl ⟨by rfl, ?_⟩) ?_ ?_
         rotate_left; intro w'; go_simp; with_reducible rfl; rotate_left; simp only [Act.put, sA_, sZ_, sS_, i64_w, i32_w]; rfl
         refine pure_ (i := 14) (N := some 37) (v := ?_) (a' := ?_) #[true, true, true, true, true, false, true, false, true, false, false, true, true, true, true, false, false, false] rfl rfl (any_of HT_.out (by kernel_rfl)) (fun _ _ _ h => h) (Or.inl ⟨by rfl, ?_⟩) ?_ ?_
         rotate_left; intro w'; go_simp; with_reducible rfl; rotate_left; simp only [Act.put, sA_, sZ_, sS_, i64_w, i32_w]; rfl
         refine take_ (i := 5) (N := some 28) (v := ?_) (a' := ?_) #[true, true, true, true, true, true, true, false, true, false, false, true, true, true, true, false, false, false] rfl rfl (take_ofW HT_.out HW_.out (by kernel_rfl)) (fun _ _ _ h => h) (Or.inl ⟨by rfl, ?_⟩) hHeld ?_ ?_
         rotate_left; rintro w' ⟨s0, s1⟩; go_simp; with_reducible rfl; rotate_left; simp only [Act.put, sA_, sZ_, sS_, i64_w, i32_w]; rfl
         refine join_ (σ := Value × Value) 4 #[true, true, true, true, true, true, true, true, true, true, false, true, true, true, true, false, false, false] (fun s_ => [(30, s_.1), (32, s_.2)]) (fun s_ w' => (w'.cell? ⟨B2_2, 0, none⟩ = some (.func (.func gM) #[] lM) ∧ w'.cell? ⟨B2_3, 0, none⟩ = some (.func (.func 108) #[] #[.pointer (some ⟨B2_0, 0, none⟩), .pointer (some ⟨B2_1, 0, none⟩), .pointer (some ⟨B2_2, 0, none⟩), .pointer (some ⟨B2_3, 0, none⟩)])) ∧ (Kd.R (Kd.int .i64) 2 w' wr.heap.size (fun k_ => some k_ ≠ (s_.2 : Value).ownBlock) s_.1 t229) ∧ (Kd.R (Kd.int .i64) 2 w' wr.heap.size (fun k_ => some k_ ≠ (s_.1 : Value).ownBlock) s_.2 y232) ∧ (w'.heap[B2_0]? = some (.cells #[.int .i64 n] 3 (0, 0))) ∧ (w'.heap[B2_1]? = some (.cells #[.func (.func gE) #[] lE] 91 (0, 0))) ∧ (w'.heap[B2_2]? = some (.cells #[.func (.func gM) #[] lM] 91 (0, 0))) ∧ (w'.heap[B2_3]? = some (.cells #[.func (.func 108) #[] #[.pointer (some ⟨B2_0, 0, none⟩), .pointer (some ⟨B2_1, 0, none⟩), .pointer (some ⟨B2_2, 0, none⟩), .pointer (some ⟨B2_3, 0, none⟩)]] 91 (0, 0))) ∧ (Below wr.heap.size wr w')) ?_ ?_
         rotate_left
         ·intro hCont
          refine two_ (i := 7) (j := 9) (Ni := some 30) (Nj := some 32) #[true, true, true, true, true, true, true, true, true, false, false, true, true, true, true, false, false, false] #[true, true, true, true, true, true, true, false, true, true, false, true, true, true, true, false, false, false] rfl rfl rfl rfl (two_of HT_.out (by kernel_rfl)) (by decide) (by decide) (fun K hK => ?_) (fun K hK => ?_)
          ·skip
           refine goes_ Try.func109 (by kernel_rfl) rfl #[.slice A0 l0.length c0] (by rfl) rfl rfl (by (try simp only [List.map_toArray, List.map_cons, List.map_nil]); first | done | rfl | (simp only [List.length_drop, List.length_take]; rfl)) ?_
           with_reducible refine (f18z.calls _ _ l0 t229 _ ?side1 ?side2 A13.out).mono ?_
           (case side1 => repeat (first | exact (Kd.C_below HR1.out HB.out) | (with_reducible refine Kd.C_alloc ?_ _) | (with_reducible refine Kd.C_drewN ?_ _) | (with_reducible refine Kd.C_drew ?_)))
           (case side2 => exact HC0.out)
           rintro e w20 ⟨v230, rfl, ho0, hb⟩
           refine ⟨_, rfl, ?_⟩
           have n0_ := Aside0.mk (Kd.R_lower ho0 (below_size (by repeat (first | (with_reducible first | exact HB.out | apply below_alloc | apply pw_below_drewN | apply below_drew1 | refine below_set ?_ GE223.out | refine below_set ?_ GE224.out | refine below_set ?_ GE225.out | refine below_set ?_ GE226.out) | exact HB.out))))
           have n1_ := Aside0.mk (blk_below (g := B2_0) (o := .cells #[.int .i64 n] 3 (0, 0)) (by (with_reducible repeat (first | refine blk_drewN ?_ _ | refine blk_drew ?_ | refine blk_alloc ?_ _)); exact BK223.out) hb)
           have n2_ := Aside0.mk (blk_below (g := B2_1) (o := .cells #[.func (.func gE) #[] lE] 91 (0, 0)) (by (with_reducible repeat (first | refine blk_drewN ?_ _ | refine blk_drew ?_ | refine blk_alloc ?_ _)); exact BK224.out) hb)
           have n3_ := Aside0.mk (blk_below (g := B2_2) (o := .cells #[.func (.func gM) #[] lM] 91 (0, 0)) (by (with_reducible repeat (first | refine blk_drewN ?_ _ | refine blk_drew ?_ | refine blk_alloc ?_ _)); exact BK225.out) hb)
           have n4_ := Aside0.mk (blk_below (g := B2_3) (o := .cells #[.func (.func 108) #[] #[.pointer (some ⟨B2_0, 0, none⟩), .pointer (some ⟨B2_1, 0, none⟩), .pointer (some ⟨B2_2, 0, none⟩), .pointer (some ⟨B2_3, 0, none⟩)]] 91 (0, 0)) (by (with_reducible repeat (first | refine blk_drewN ?_ _ | refine blk_drew ?_ | refine blk_alloc ?_ _)); exact BK226.out) hb)
           have n5_ := Aside0.mk (below_step (by repeat (first | (with_reducible first | exact HB.out | apply below_alloc | apply pw_below_drewN | apply below_drew1 | refine below_set ?_ GE223.out | refine below_set ?_ GE224.out | refine below_set ?_ GE225.out | refine below_set ?_ GE226.out) | exact HB.out)) hb)
           clear BK223
           clear BK224
           clear BK225
           clear BK226
           clear HB
           have HO231 := n0_
           have BK223 := n1_
           have BK224 := n2_
           have BK225 := n3_
           have BK226 := n4_
           have HB := n5_
           clear n0_ n1_ n2_ n3_ n4_ n5_
           (try clear hb)
           (try clear hb2)
           (try clear hk)
           (try clear hi)
           (try clear ho0)
           refine hK.out _ _ ⟨(blk_cell BK225.out 0).trans rfl, (blk_cell BK226.out 0).trans rfl⟩ (fun hHeld => ?_)
           clear hK K
           refine norm_ (a' := ?_) ?_ ?_
           rotate_left
           ·show Act.put _ (some 30) _ = _
            simp only [Act.put, sA_, sZ_, sS_, i64_w, i32_w]
            rfl
           refine one_ (i := 9) (N := some 32) #[true, true, true, true, true, true, true, true, true, true, false, true, true, true, true, false, false, false] rfl rfl (one_of HT_.out (by kernel_rfl)) (by decide) (fun K hK => ?_)
           refine Kd.R_lit_step (Kd.int .i64) _ 2 ?hg (N := 32) ?hd (xs := ([x20_1] : List Int)) (inner := [.int .i64 x20_1]) (ok := fun _ => True) (okp := fun _ => True) ?hr ?hp (fun _ hk => hk) trivial (Below.refl _ _) (Nat.le_refl _) (by simp) ?_; (case hd => rfl); (case hg => rfl); (case hr => first | (go_simp; done) | (go_simp; rfl)); (case hp => exact (Reps.one (show Kd.M (Kd.int .i64) _ _ _ x20_1 [.int .i64 x20_1] from rfl) (Reps.none _ _)))
           intro v233 w21 ho22 hb hg_ hnew_
           clear hg_ hnew_
           (first | rw [← Ny232.out] at ho22 | (simp only [Int.reduceToNat] at ho22; rw [← Ny232.out] at ho22))
           have n0_ := Aside0.mk (Kd.R_elder' (by (with_reducible repeat (first | apply Kd.R_alloc | apply Kd.R_drewN | apply Kd.R_drew)); exact HO231.out) (Kd.R_base ho22) hb)
           have n1_ := Aside0.mk (Kd.R_lower (Kd.R_new' ho22 (Kd.R_lt (by (with_reducible repeat (first | apply Kd.R_alloc | apply Kd.R_drewN | apply Kd.R_drew)); exact HO231.out))) (below_size (by repeat (first | (with_reducible first | exact HB.out | apply below_alloc | apply pw_below_drewN | apply below_drew1 | refine below_set ?_ GE223.out | refine below_set ?_ GE224.out | refine below_set ?_ GE225.out | refine below_set ?_ GE226.out) | exact HB.out))))
           have n2_ := Aside0.mk (blk_below (g := B2_0) (o := .cells #[.int .i64 n] 3 (0, 0)) (by (with_reducible repeat (first | refine blk_drewN ?_ _ | refine blk_drew ?_ | refine blk_alloc ?_ _)); exact BK223.out) hb)
           have n3_ := Aside0.mk (blk_below (g := B2_1) (o := .cells #[.func (.func gE) #[] lE] 91 (0, 0)) (by (with_reducible repeat (first | refine blk_drewN ?_ _ | refine blk_drew ?_ | refine blk_alloc ?_ _)); exact BK224.out) hb)
           have n4_ := Aside0.mk (blk_below (g := B2_2) (o := .cells #[.func (.func gM) #[] lM] 91 (0, 0)) (by (with_reducible repeat (first | refine blk_drewN ?_ _ | refine blk_drew ?_ | refine blk_alloc ?_ _)); exact BK225.out) hb)
           have n5_ := Aside0.mk (blk_below (g := B2_3) (o := .cells #[.func (.func 108) #[] #[.pointer (some ⟨B2_0, 0, none⟩), .pointer (some ⟨B2_1, 0, none⟩), .pointer (some ⟨B2_2, 0, none⟩), .pointer (some ⟨B2_3, 0, none⟩)]] 91 (0, 0)) (by (with_reducible repeat (first | refine blk_drewN ?_ _ | refine blk_drew ?_ | refine blk_alloc ?_ _)); exact BK226.out) hb)
           have n6_ := Aside0.mk (below_step (by repeat (first | (with_reducible first | exact HB.out | apply below_alloc | apply pw_below_drewN | apply below_drew1 | refine below_set ?_ GE223.out | refine below_set ?_ GE224.out | refine below_set ?_ GE225.out | refine below_set ?_ GE226.out) | exact HB.out)) hb)
           clear HO231
           clear BK223
           clear BK224
           clear BK225
           clear BK226
           clear HB
           have HO231 := n0_
           have HO234 := n1_
           have BK223 := n2_
           have BK224 := n3_
           have BK225 := n4_
           have BK226 := n5_
           have HB := n6_
           clear n0_ n1_ n2_ n3_ n4_ n5_ n6_
           clear hb ho22
           refine hK.out _ _ ⟨(blk_cell BK225.out 0).trans rfl, (blk_cell BK226.out 0).trans rfl⟩ (fun hHeld => ?_)
           clear hK K
           refine norm_ (a' := ?_) ?_ ?_
           rotate_left
           ·show Act.put _ (some 32) _ = _
            simp only [Act.put, sA_, sZ_, sS_, i64_w, i32_w]
            rfl
           exact norm_ (by simp only [putAll, Act.put, sA_, sZ_, sS_]) (hCont (v230, v233) _ ⟨hHeld, (by (with_reducible repeat (first | apply Kd.R_alloc | apply Kd.R_drewN | apply Kd.R_drew)); exact Kd.R_mono HO231.out (fun _ hk => hk.2)), (by (with_reducible repeat (first | apply Kd.R_alloc | apply Kd.R_drewN | apply Kd.R_drew)); exact Kd.R_mono HO234.out (fun _ hk => hk.2)), (by (with_reducible repeat (first | refine blk_drewN ?_ _ | refine blk_drew ?_ | refine blk_alloc ?_ _)); exact BK223.out), (by (with_reducible repeat (first | refine blk_drewN ?_ _ | refine blk_drew ?_ | refine blk_alloc ?_ _)); exact BK224.out), (by (with_reducible repeat (first | refine blk_drewN ?_ _ | refine blk_drew ?_ | refine blk_alloc ?_ _)); exact BK225.out), (by (with_reducible repeat (first | refine blk_drewN ?_ _ | refine blk_drew ?_ | refine blk_alloc ?_ _)); exact BK226.out), (by repeat (first | (with_reducible first | exact HB.out | apply below_alloc | apply pw_below_drewN | apply below_drew1 | refine below_set ?_ GE223.out | refine below_set ?_ GE224.out | refine below_set ?_ GE225.out | refine below_set ?_ GE226.out) | exact HB.out))⟩)
          ·skip
           refine Kd.R_lit_step (Kd.int .i64) _ 2 ?hg (N := 32) ?hd (xs := ([x20_1] : List Int)) (inner := [.int .i64 x20_1]) (ok := fun _ => True) (okp := fun _ => True) ?hr ?hp (fun _ hk => hk) trivial (Below.refl _ _) (Nat.le_refl _) (by simp) ?_; (case hd => rfl); (case hg => rfl); (case hr => first | (go_simp; done) | (go_simp; rfl)); (case hp => exact (Reps.one (show Kd.M (Kd.int .i64) _ _ _ x20_1 [.int .i64 x20_1] from rfl) (Reps.none _ _)))
           intro v233 w20 ho21 hb hg_ hnew_
           clear hg_ hnew_
           (first | rw [← Ny232.out] at ho21 | (simp only [Int.reduceToNat] at ho21; rw [← Ny232.out] at ho21))
           have n0_ := Aside0.mk (Kd.R_lower ho21 (below_size (by repeat (first | (with_reducible first | exact HB.out | apply below_alloc | apply pw_below_drewN | apply below_drew1 | refine below_set ?_ GE223.out | refine below_set ?_ GE224.out | refine below_set ?_ GE225.out | refine below_set ?_ GE226.out) | exact HB.out))))
           have n1_ := Aside0.mk (blk_below (g := B2_0) (o := .cells #[.int .i64 n] 3 (0, 0)) (by (with_reducible repeat (first | refine blk_drewN ?_ _ | refine blk_drew ?_ | refine blk_alloc ?_ _)); exact BK223.out) hb)
           have n2_ := Aside0.mk (blk_below (g := B2_1) (o := .cells #[.func (.func gE) #[] lE] 91 (0, 0)) (by (with_reducible repeat (first | refine blk_drewN ?_ _ | refine blk_drew ?_ | refine blk_alloc ?_ _)); exact BK224.out) hb)
           have n3_ := Aside0.mk (blk_below (g := B2_2) (o := .cells #[.func (.func gM) #[] lM] 91 (0, 0)) (by (with_reducible repeat (first | refine blk_drewN ?_ _ | refine blk_drew ?_ | refine blk_alloc ?_ _)); exact BK225.out) hb)
           have n4_ := Aside0.mk (blk_below (g := B2_3) (o := .cells #[.func (.func 108) #[] #[.pointer (some ⟨B2_0, 0, none⟩), .pointer (some ⟨B2_1, 0, none⟩), .pointer (some ⟨B2_2, 0, none⟩), .pointer (some ⟨B2_3, 0, none⟩)]] 91 (0, 0)) (by (with_reducible repeat (first | refine blk_drewN ?_ _ | refine blk_drew ?_ | refine blk_alloc ?_ _)); exact BK226.out) hb)
           have n5_ := Aside0.mk (below_step (by repeat (first | (with_reducible first | exact HB.out | apply below_alloc | apply pw_below_drewN | apply below_drew1 | refine below_set ?_ GE223.out | refine below_set ?_ GE224.out | refine below_set ?_ GE225.out | refine below_set ?_ GE226.out) | exact HB.out)) hb)
           clear BK223
           clear BK224
           clear BK225
           clear BK226
           clear HB
           have HO234 := n0_
           have BK223 := n1_
           have BK224 := n2_
           have BK225 := n3_
           have BK226 := n4_
           have HB := n5_
           clear n0_ n1_ n2_ n3_ n4_ n5_
           clear hb ho21
           refine hK.out _ _ ⟨(blk_cell BK225.out 0).trans rfl, (blk_cell BK226.out 0).trans rfl⟩ (fun hHeld => ?_)
           clear hK K
           refine norm_ (a' := ?_) ?_ ?_
           rotate_left
           ·show Act.put _ (some 32) _ = _
            simp only [Act.put, sA_, sZ_, sS_, i64_w, i32_w]
            rfl
           refine one_ (i := 7) (N := some 30) #[true, true, true, true, true, true, true, true, true, true, false, true, true, true, true, false, false, false] rfl rfl (one_of HT_.out (by kernel_rfl)) (by decide) (fun K hK => ?_)
           refine goes_ Try.func109 (by kernel_rfl) rfl #[.slice A0 l0.length c0] (by rfl) rfl rfl (by (try simp only [List.map_toArray, List.map_cons, List.map_nil]); first | done | rfl | (simp only [List.length_drop, List.length_take]; rfl)) ?_
           with_reducible refine (f18z.calls _ _ l0 t229 _ ?side1 ?side2 A13.out).mono ?_
           (case side1 => repeat (first | exact (Kd.C_below HR1.out HB.out) | (with_reducible refine Kd.C_alloc ?_ _) | (with_reducible refine Kd.C_drewN ?_ _) | (with_reducible refine Kd.C_drew ?_)))
           (case side2 => exact HC0.out)
           rintro e w22 ⟨v230, rfl, ho0, hb⟩
           refine ⟨_, rfl, ?_⟩
           have n0_ := Aside0.mk (Kd.R_elder' (by (with_reducible repeat (first | apply Kd.R_alloc | apply Kd.R_drewN | apply Kd.R_drew)); exact HO234.out) (Kd.R_base ho0) hb)
           have n1_ := Aside0.mk (Kd.R_lower (Kd.R_new' ho0 (Kd.R_lt (by (with_reducible repeat (first | apply Kd.R_alloc | apply Kd.R_drewN | apply Kd.R_drew)); exact HO234.out))) (below_size (by repeat (first | (with_reducible first | exact HB.out | apply below_alloc | apply pw_below_drewN | apply below_drew1 | refine below_set ?_ GE223.out | refine below_set ?_ GE224.out | refine below_set ?_ GE225.out | refine below_set ?_ GE226.out) | exact HB.out))))
           have n2_ := Aside0.mk (blk_below (g := B2_0) (o := .cells #[.int .i64 n] 3 (0, 0)) (by (with_reducible repeat (first | refine blk_drewN ?_ _ | refine blk_drew ?_ | refine blk_alloc ?_ _)); exact BK223.out) hb)
           have n3_ := Aside0.mk (blk_below (g := B2_1) (o := .cells #[.func (.func gE) #[] lE] 91 (0, 0)) (by (with_reducible repeat (first | refine blk_drewN ?_ _ | refine blk_drew ?_ | refine blk_alloc ?_ _)); exact BK224.out) hb)
           have n4_ := Aside0.mk (blk_below (g := B2_2) (o := .cells #[.func (.func gM) #[] lM] 91 (0, 0)) (by (with_reducible repeat (first | refine blk_drewN ?_ _ | refine blk_drew ?_ | refine blk_alloc ?_ _)); exact BK225.out) hb)
           have n5_ := Aside0.mk (blk_below (g := B2_3) (o := .cells #[.func (.func 108) #[] #[.pointer (some ⟨B2_0, 0, none⟩), .pointer (some ⟨B2_1, 0, none⟩), .pointer (some ⟨B2_2, 0, none⟩), .pointer (some ⟨B2_3, 0, none⟩)]] 91 (0, 0)) (by (with_reducible repeat (first | refine blk_drewN ?_ _ | refine blk_drew ?_ | refine blk_alloc ?_ _)); exact BK226.out) hb)
           have n6_ := Aside0.mk (below_step (by repeat (first | (with_reducible first | exact HB.out | apply below_alloc | apply pw_below_drewN | apply below_drew1 | refine below_set ?_ GE223.out | refine below_set ?_ GE224.out | refine below_set ?_ GE225.out | refine below_set ?_ GE226.out) | exact HB.out)) hb)
           clear HO234
           clear BK223
           clear BK224
           clear BK225
           clear BK226
           clear HB
           have HO234 := n0_
           have HO231 := n1_
           have BK223 := n2_
           have BK224 := n3_
           have BK225 := n4_
           have BK226 := n5_
           have HB := n6_
           clear n0_ n1_ n2_ n3_ n4_ n5_ n6_
           (try clear hb)
           (try clear hb2)
           (try clear hk)
           (try clear hi)
           (try clear ho0)
           refine hK.out _ _ ⟨(blk_cell BK225.out 0).trans rfl, (blk_cell BK226.out 0).trans rfl⟩ (fun hHeld => ?_)
           clear hK K
           refine norm_ (a' := ?_) ?_ ?_
           rotate_left
           ·show Act.put _ (some 30) _ = _
            simp only [Act.put, sA_, sZ_, sS_, i64_w, i32_w]
            rfl
           exact norm_ (by simp only [putAll, Act.put, sA_, sZ_, sS_]) (hCont (v230, v233) _ ⟨hHeld, (by (with_reducible repeat (first | apply Kd.R_alloc | apply Kd.R_drewN | apply Kd.R_drew)); exact Kd.R_mono HO231.out (fun _ hk => hk.2)), (by (with_reducible repeat (first | apply Kd.R_alloc | apply Kd.R_drewN | apply Kd.R_drew)); exact Kd.R_mono HO234.out (fun _ hk => hk.2)), (by (with_reducible repeat (first | refine blk_drewN ?_ _ | refine blk_drew ?_ | refine blk_alloc ?_ _)); exact BK223.out), (by (with_reducible repeat (first | refine blk_drewN ?_ _ | refine blk_drew ?_ | refine blk_alloc ?_ _)); exact BK224.out), (by (with_reducible repeat (first | refine blk_drewN ?_ _ | refine blk_drew ?_ | refine blk_alloc ?_ _)); exact BK225.out), (by (with_reducible repeat (first | refine blk_drewN ?_ _ | refine blk_drew ?_ | refine blk_alloc ?_ _)); exact BK226.out), (by repeat (first | (with_reducible first | exact HB.out | apply below_alloc | apply pw_below_drewN | apply below_drew1 | refine below_set ?_ GE223.out | refine below_set ?_ GE224.out | refine below_set ?_ GE225.out | refine below_set ?_ GE226.out) | exact HB.out))⟩)
         rintro ⟨v230, v233⟩ w23 ⟨hS_, h0_, h1_, h2_, h3_, h4_, h5_, h6_⟩
         have n0_ : Aside0 (Kd.R (Kd.int .i64) 2 w23 wr.heap.size (fun k_ => some k_ ≠ (v233 : Value).ownBlock) v230 t229) := ⟨h0_⟩
         have n1_ : Aside0 (Kd.R (Kd.int .i64) 2 w23 wr.heap.size (fun k_ => some k_ ≠ (v230 : Value).ownBlock) v233 y232) := ⟨h1_⟩
         have n2_ : Aside0 (w23.heap[B2_0]? = some (.cells #[.int .i64 n] 3 (0, 0))) := ⟨h2_⟩
         have n3_ : Aside0 (w23.heap[B2_1]? = some (.cells #[.func (.func gE) #[] lE] 91 (0, 0))) := ⟨h3_⟩
         have n4_ : Aside0 (w23.heap[B2_2]? = some (.cells #[.func (.func gM) #[] lM] 91 (0, 0))) := ⟨h4_⟩
         have n5_ : Aside0 (w23.heap[B2_3]? = some (.cells #[.func (.func 108) #[] #[.pointer (some ⟨B2_0, 0, none⟩), .pointer (some ⟨B2_1, 0, none⟩), .pointer (some ⟨B2_2, 0, none⟩), .pointer (some ⟨B2_3, 0, none⟩)]] 91 (0, 0))) := ⟨h5_⟩
         have n6_ : Aside0 (Below wr.heap.size wr w23) := ⟨h6_⟩
         clear BK223
         clear BK224
         clear BK225
         clear BK226
         clear HB
         clear h0_ h1_ h2_ h3_ h4_ h5_ h6_
         have HO231 := n0_
         have HO234 := n1_
         have BK223 := n2_
         have BK224 := n3_
         have BK225 := n4_
         have BK226 := n5_
         have HB := n6_
         clear n0_ n1_ n2_ n3_ n4_ n5_ n6_
         have hHeld : w23.cell? ⟨B2_2, 0, none⟩ = some (.func (.func gM) #[] lM) ∧ w23.cell? ⟨B2_3, 0, none⟩ = some (.func (.func 108) #[] #[.pointer (some ⟨B2_0, 0, none⟩), .pointer (some ⟨B2_1, 0, none⟩), .pointer (some ⟨B2_2, 0, none⟩), .pointer (some ⟨B2_3, 0, none⟩)]) := hS_
         obtain ⟨Ao25, co25, eo25⟩ := Kd.R_slice HO234.out
         (first | subst eo25 | (injection eo25 with f1_ f2_ f3_; have f4_ := f1_.symm; have f5_ := f3_.symm; clear f1_ f2_ f3_; subst f4_; subst f5_))
         refine norm_ (a' := ?_) ?_ ?_
         rotate_left
         ·simp only [putAll, Act.put, sA_, sZ_, sS_]
          rfl
         refine one_ (i := 10) (N := some 33) #[true, true, true, true, true, true, true, true, true, true, true, true, true, true, true, false, false, false] rfl rfl (one_of HT_.out (by kernel_rfl)) (by decide) (fun K hK => ?_)
         refine Kd.R_append_rows_step (Kd.int .i64) (w0 := wr) wr.heap.size (by rfl) (.tmp 30) (.tmp 32) 34 2 (.int .i64 0) 8 rfl Try.underlying34 info2 rfl (by decide) (by omega) v230 t229 y232 _ _ _ (fun k_ => some k_ ≠ (.slice Ao25 y232.length co25 : Value).ownBlock) (fun _ => False) rfl rfl ?aO ?aR (fun _ _ h => h) (fun _ h => h.elim) ?aF ?aB ?aS ?aL ?_
         (case aR => repeat (first | exact (Kd.R_reads' HO234.out).2.2 | (with_reducible refine Kd.C_alloc ?_ _) | (with_reducible refine Kd.C_drewN ?_ _) | (with_reducible refine Kd.C_drew ?_)))
         (case aB => exact (by repeat (first | (with_reducible first | exact HB.out | apply below_alloc | apply pw_below_drewN | apply below_drew1 | refine below_set ?_ GE223.out | refine below_set ?_ GE224.out | refine below_set ?_ GE225.out | refine below_set ?_ GE226.out) | exact HB.out)))
         (case aF => exact (fun k_ hk => Kd.fresh' (Kd.R_lt (by (with_reducible repeat (first | apply Kd.R_alloc | apply Kd.R_drewN | apply Kd.R_drew)); exact HO234.out)) k_ hk))
         (case aO => exact (by (with_reducible repeat (first | apply Kd.R_alloc | apply Kd.R_drewN | apply Kd.R_drew)); exact HO231.out))
         (case aS => exact (below_size (by repeat (first | (with_reducible first | exact HB.out | apply below_alloc | apply pw_below_drewN | apply below_drew1 | refine below_set ?_ GE223.out | refine below_set ?_ GE224.out | refine below_set ?_ GE225.out | refine below_set ?_ GE226.out) | exact HB.out))))
         (case aL => have := LMc14.out; omega)
         intro v236 w24 ho hb hg hat
         rw [← Ny235.out] at ho
         have n0_ := Aside0.mk (blk_grown (g := B2_0) (o := .cells #[.int .i64 n] 3 (0, 0)) (by (with_reducible repeat (first | refine blk_drewN ?_ _ | refine blk_drew ?_ | refine blk_alloc ?_ _)); exact BK223.out) hg (Kd.R_ne HO231.out BK223.out (by decide)))
         have n1_ := Aside0.mk (blk_grown (g := B2_1) (o := .cells #[.func (.func gE) #[] lE] 91 (0, 0)) (by (with_reducible repeat (first | refine blk_drewN ?_ _ | refine blk_drew ?_ | refine blk_alloc ?_ _)); exact BK224.out) hg (Kd.R_ne HO231.out BK224.out (by decide)))
         have n2_ := Aside0.mk (blk_grown (g := B2_2) (o := .cells #[.func (.func gM) #[] lM] 91 (0, 0)) (by (with_reducible repeat (first | refine blk_drewN ?_ _ | refine blk_drew ?_ | refine blk_alloc ?_ _)); exact BK225.out) hg (Kd.R_ne HO231.out BK225.out (by decide)))
         have n3_ := Aside0.mk (blk_grown (g := B2_3) (o := .cells #[.func (.func 108) #[] #[.pointer (some ⟨B2_0, 0, none⟩), .pointer (some ⟨B2_1, 0, none⟩), .pointer (some ⟨B2_2, 0, none⟩), .pointer (some ⟨B2_3, 0, none⟩)]] 91 (0, 0)) (by (with_reducible repeat (first | refine blk_drewN ?_ _ | refine blk_drew ?_ | refine blk_alloc ?_ _)); exact BK226.out) hg (Kd.R_ne HO231.out BK226.out (by decide)))
         have n4_ := Aside0.mk (Kd.R_after (ok := (fun _ => True)) (by (with_reducible repeat (first | apply Kd.R_alloc | apply Kd.R_drewN | apply Kd.R_drew)); exact Kd.R_mono HO234.out (fun _ hk => ⟨trivial, hk⟩)) hg hat)
         have n5_ := Aside0.mk (hb)
         have n6_ := Aside0.mk (ho)
         clear BK223
         clear BK224
         clear BK225
         clear BK226
         clear HO234
         clear HB
         clear HO231
         have BK223 := n0_
         have BK224 := n1_
         have BK225 := n2_
         have BK226 := n3_
         have HO234 := n4_
         have HB := n5_
         have HO237 := n6_
         clear n0_ n1_ n2_ n3_ n4_ n5_ n6_
         clear ho hb hg hat
         obtain ⟨Ao26, co26, eo26⟩ := Kd.R_slice HO237.out
         (first | subst eo26 | (injection eo26 with f1_ f2_ f3_; have f4_ := f1_.symm; have f5_ := f3_.symm; clear f1_ f2_ f3_; subst f4_; subst f5_))
         refine hK.out _ _ ⟨(blk_cell BK225.out 0).trans rfl, (blk_cell BK226.out 0).trans rfl⟩ (fun hHeld => ?_)
         clear hK K
         refine norm_ (a' := ?_) ?_ ?_
         rotate_left
         ·show Act.put _ (some 33) _ = _
          simp only [Act.put, sA_, sZ_, sS_, i64_w, i32_w]
          rfl
         refine one_ (i := 15) (N := some 38) #[true, true, true, true, true, true, true, true, true, true, true, true, true, true, true, true, false, false] rfl rfl (one_of HT_.out (by kernel_rfl)) (by decide) (fun K hK => ?_)
         refine goesV_ (g := 108) (lb := #[.pointer (some ⟨B2_0, 0, none⟩), .pointer (some ⟨B2_1, 0, none⟩), .pointer (some ⟨B2_2, 0, none⟩), .pointer (some ⟨B2_3, 0, none⟩)]) (enters_ Try.func108 (by kernel_rfl) rfl) #[.slice Ao26 y235.length co26, .int .i64 ji15] (by rfl) rfl rfl (by rfl) (by (try simp only [List.map_toArray, List.map_cons, List.map_nil]); first | done | (simp only [hji15]; rfl) | rfl) ?_
         have HG1 := HG.out.step (hI s_1) hbase HB.out
         have hho_ := HO237.out
         have hlt_ : ∀ k_, S k_ → k_ < wr.heap.size := fun k_ hk_ => Nat.lt_of_lt_of_le (hS k_ hk_) HK0.out.1
         refine calls_of_args (by simp) ((ih k1 (by have := HK1.out; omega) Ao26 co26 y235 ji15 s_1 (true, s238) _ (Kd.R_lower (Kd.R_mono (Kd.R_bound hho_) (fun k_ hk_ hs_ => by have h1_ := hk_.2.1; have h2_ := hlt_ k_ hs_; omega)) (Nat.le_trans hbase HG.out.kept.1)) (HK0.out.below HB.out) (Nat.le_trans hbase HG1.kept.1) HG1.st BK223.out BK224.out BK225.out BK226.out A16.out).mono ?_)
         rintro e w27 ⟨rfl, hkp, hbl, hst⟩
         refine ⟨_, rfl, ?_⟩
         have n0_ := Aside0.mk trivial
         have n1_ := Aside0.mk trivial
         have n2_ := Aside0.mk (blk_kept BK223.out hkp hn0)
         have n3_ := Aside0.mk (blk_kept BK224.out hkp hn1)
         have n4_ := Aside0.mk (blk_kept BK225.out hkp hn2)
         have n5_ := Aside0.mk (blk_kept BK226.out hkp hn3)
         have HG2 := Aside0.mk (HG1.trans hkp hbl hst)
         have n6_ := Aside0.mk trivial
         clear HO234
         clear HO237
         clear BK223
         clear BK224
         clear BK225
         clear BK226
         clear HB
         have HO234 := n0_
         have HO237 := n1_
         have BK223 := n2_
         have BK224 := n3_
         have BK225 := n4_
         have BK226 := n5_
         have HB := n6_
         clear n0_ n1_ n2_ n3_ n4_ n5_ n6_
         (try clear hb)
         (try clear hb2)
         (try clear hk)
         (try clear hi)
         refine hK.out _ _ ⟨(blk_cell BK225.out 0).trans rfl, (blk_cell BK226.out 0).trans rfl⟩ (fun hHeld => ?_)
         clear hK K
         refine norm_ (a' := ?_) ?_ ?_
         rotate_left
         ·show Act.put _ (some 38) _ = _
          simp only [Act.put, sA_, sZ_, sS_, i64_w, i32_w]
          rfl
         refine pure_ (i := 16) (N := some 39) (v := ?_) (a' := ?_) #[true, true, true, true, true, true, true, true, true, true, true, true, true, true, true, true, true, false] rfl rfl (any_of HT_.out (by kernel_rfl)) (fun _ _ _ h => h) (Or.inl ⟨by rfl, ?_⟩) ?_ ?_
         rotate_left; intro w'; go_simp; with_reducible rfl; rotate_left; simp only [Act.put, sA_, sZ_, sS_, i64_w, i32_w]; rfl
         refine pure_ (i := 17) (N := some 40) (v := ?_) (a' := ?_) #[true, true, true, true, true, true, true, true, true, true, true, true, true, true, true, true, true, true] rfl rfl (any_of HT_.out (by kernel_rfl)) (fun _ _ _ h => h) (Or.inl ⟨by rfl, ?_⟩) ?_ ?_
         rotate_left; intro w'; go_simp; with_reducible rfl; rotate_left; simp only [Act.put, sA_, sZ_, sS_, i64_w, i32_w]; rfl
         refine done_ (done_of HT_.out (by kernel_rfl)) ?_
         try go_wp2
         go_roundg k1
         case measure => have := HK1.out; omega
         case rel => exact ⟨(wrap64 (x20_1 + 1)), s238, (by first | rfl | (simp; done) | (simp [*]; done)), H', ⟨by have := HK1.out; omega⟩, ⟨by (with_reducible repeat (first | refine blk_drewN ?_ _ | refine blk_drew ?_ | refine blk_alloc ?_ _)); exact BK223.out⟩, ⟨by (with_reducible repeat (first | refine blk_drewN ?_ _ | refine blk_drew ?_ | refine blk_alloc ?_ _)); exact BK224.out⟩, ⟨by (with_reducible repeat (first | refine blk_drewN ?_ _ | refine blk_drew ?_ | refine blk_alloc ?_ _)); exact BK225.out⟩, ⟨by (with_reducible repeat (first | refine blk_drewN ?_ _ | refine blk_drew ?_ | refine blk_alloc ?_ _)); exact BK226.out⟩, ⟨HG2.out⟩⟩
        ·replace c17 := Bool.eq_false_iff.mpr c17
         subst c17
         have H1 : (some (false, s238)) = some r := by rw [if_neg (show ¬ (false = true) by decide)] at H; exact H
         clear H
         have H := H1
         clear H1
         obtain rfl := Option.some.inj H
         try go_wp2
         have n0_ := Aside0.mk (blk_drew BK223.out)
         have n1_ := Aside0.mk (blk_drew BK224.out)
         have n2_ := Aside0.mk (blk_drew BK225.out)
         have n3_ := Aside0.mk (blk_drew BK226.out)
         have n4_ := Aside0.mk (below_drew1 HB.out)
         clear BK223
         clear BK224
         clear BK225
         clear BK226
         clear HB
         have BK223 := n0_
         have BK224 := n1_
         have BK225 := n2_
         have BK226 := n3_
         have HB := n4_
         clear n0_ n1_ n2_ n3_ n4_
         refine start_ (n := 18) (S := fun w' => w'.cell? ⟨B2_2, 0, none⟩ = some (.func (.func gM) #[] lM) ∧ w'.cell? ⟨B2_3, 0, none⟩ = some (.func (.func 108) #[] #[.pointer (some ⟨B2_0, 0, none⟩), .pointer (some ⟨B2_1, 0, none⟩), .pointer (some ⟨B2_2, 0, none⟩), .pointer (some ⟨B2_3, 0, none⟩)])) (ds := []) #[false, false, false, false, false, false, false, false, false, false, false, false, false, false, false, false, false, false] (by kernel_rfl) rfl rfl ⟨(blk_cell BK225.out 0).trans rfl, (blk_cell BK226.out 0).trans rfl⟩ (fun hHeld => ?_); refine with_tabW impl_grouped_1.tab6 impl_grouped_1.bits6 (fun HT_ HW_ => ?_)
         generalize wr.drew = w28 at BK223 BK224 BK225 BK226 HB hHeld ⊢
         refine pure_ (i := 1) (N := some 24) (v := ?_) (a' := ?_) #[false, true, false, false, false, false, false, false, false, false, false, false, false, false, false, false, false, false] rfl rfl (any_of HT_.out (by kernel_rfl)) (fun _ _ _ h => h) (Or.inl ⟨by rfl, ?_⟩) ?_ ?_
         rotate_left; intro w'; go_simp; with_reducible rfl; rotate_left; simp only [Act.put, sA_, sZ_, sS_, i64_w, i32_w]; rfl
         refine pure_ (i := 2) (N := some 25) (v := ?_) (a' := ?_) #[false, true, true, false, false, false, false, false, false, false, false, false, false, false, false, false, false, false] rfl rfl (any_of HT_.out (by kernel_rfl)) (fun _ _ _ h => h) (Or.inl ⟨by rfl, ?_⟩) ?_ ?_
         rotate_left; intro w'; go_simp; with_reducible rfl; rotate_left; simp only [Act.put, sA_, sZ_, sS_, i64_w, i32_w]; rfl
         refine take_ (i := 0) (N := some 23) (v := ?_) (a' := ?_) #[true, true, true, false, false, false, false, false, false, false, false, false, false, false, false, false, false, false] rfl rfl (take_ofW HT_.out HW_.out (by kernel_rfl)) (fun _ _ _ h => h) (Or.inl ⟨by rfl, ?_⟩) hHeld ?_ ?_
         rotate_left; rintro w' ⟨s0, s1⟩; go_simp; with_reducible rfl; rotate_left; simp only [Act.put, sA_, sZ_, sS_, i64_w, i32_w]; rfl
         refine one_ (i := 3) (N := some 26) #[true, true, true, true, false, false, false, false, false, false, false, false, false, false, false, false, false, false] rfl rfl (one_of HT_.out (by kernel_rfl)) (by decide) (fun K hK => ?_)
         refine goesV_ egM #[.slice A0 l0.length c0, .int .i64 x20_1] (by rfl) rfl rfl (by rfl) (by (try simp only [List.map_toArray, List.map_cons, List.map_nil]); first | done | rfl) ?_
         refine (hm _ A0 c0 l0 x20_1 true ?side1 ?side2 (HK0.out.below HB.out) A11.out).mono ?_
         (case side1 => repeat (first | exact (Kd.C_below HR1.out HB.out) | (with_reducible refine Kd.C_alloc ?_ _) | (with_reducible refine Kd.C_drewN ?_ _) | (with_reducible refine Kd.C_drew ?_)))
         (case side2 => exact HC0.out)
         rintro e w29 ⟨rfl, hb⟩
         refine ⟨_, rfl, ?_⟩
         have n0_ := Aside0.mk (blk_below (g := B2_0) (o := .cells #[.int .i64 n] 3 (0, 0)) (by (with_reducible repeat (first | refine blk_drewN ?_ _ | refine blk_drew ?_ | refine blk_alloc ?_ _)); exact BK223.out) hb)
         have n1_ := Aside0.mk (blk_below (g := B2_1) (o := .cells #[.func (.func gE) #[] lE] 91 (0, 0)) (by (with_reducible repeat (first | refine blk_drewN ?_ _ | refine blk_drew ?_ | refine blk_alloc ?_ _)); exact BK224.out) hb)
         have n2_ := Aside0.mk (blk_below (g := B2_2) (o := .cells #[.func (.func gM) #[] lM] 91 (0, 0)) (by (with_reducible repeat (first | refine blk_drewN ?_ _ | refine blk_drew ?_ | refine blk_alloc ?_ _)); exact BK225.out) hb)
         have n3_ := Aside0.mk (blk_below (g := B2_3) (o := .cells #[.func (.func 108) #[] #[.pointer (some ⟨B2_0, 0, none⟩), .pointer (some ⟨B2_1, 0, none⟩), .pointer (some ⟨B2_2, 0, none⟩), .pointer (some ⟨B2_3, 0, none⟩)]] 91 (0, 0)) (by (with_reducible repeat (first | refine blk_drewN ?_ _ | refine blk_drew ?_ | refine blk_alloc ?_ _)); exact BK226.out) hb)
         have n4_ := Aside0.mk (below_step (by repeat (first | (with_reducible first | exact HB.out | apply below_alloc | apply pw_below_drewN | apply below_drew1 | refine below_set ?_ GE223.out | refine below_set ?_ GE224.out | refine below_set ?_ GE225.out | refine below_set ?_ GE226.out) | exact HB.out)) hb)
         clear BK223
         clear BK224
         clear BK225
         clear BK226
         clear HB
         have BK223 := n0_
         have BK224 := n1_
         have BK225 := n2_
         have BK226 := n3_
         have HB := n4_
         clear n0_ n1_ n2_ n3_ n4_
         (try clear hb)
         (try clear hb2)
         (try clear hk)
         (try clear hi)
         refine hK.out _ _ ⟨(blk_cell BK225.out 0).trans rfl, (blk_cell BK226.out 0).trans rfl⟩ (fun hHeld => ?_)
         clear hK K
         refine norm_ (a' := ?_) ?_ ?_
         rotate_left
         ·show Act.put _ (some 26) _ = _
          simp only [Act.put, sA_, sZ_, sS_, i64_w, i32_w]
          rfl
         refine pure_ (i := 4) (N := some 27) (v := ?_) (a' := ?_) #[true, true, true, true, true, false, false, false, false, false, false, false, false, false, false, false, false, false] rfl rfl (any_of HT_.out (by kernel_rfl)) (fun _ _ _ h => h) (Or.inl ⟨by rfl, ?_⟩) ?_ ?_
         rotate_left; intro w'; go_simp; with_reducible rfl; rotate_left; simp only [Act.put, sA_, sZ_, sS_, i64_w, i32_w]; rfl
         refine pure_ (i := 6) (N := some 29) (v := ?_) (a' := ?_) #[true, true, true, true, true, false, true, false, false, false, false, false, false, false, false, false, false, false] rfl rfl (any_of HT_.out (by kernel_rfl)) (fun _ _ _ h => h) (Or.inl ⟨by rfl, ?_⟩) ?_ ?_
         rotate_left; intro w'; go_simp; with_reducible rfl; rotate_left; simp only [Act.put, sA_, sZ_, sS_, i64_w, i32_w]; rfl
         refine pure_ (i := 8) (N := some 31) (v := ?_) (a' := ?_) #[true, true, true, true, true, false, true, false, true, false, false, false, false, false, false, false, false, false] rfl rfl (any_of HT_.out (by kernel_rfl)) (fun _ _ _ h => h) (Or.inl ⟨by rfl, ?_⟩) ?_ ?_
         rotate_left; intro w'; go_simp; with_reducible rfl; rotate_left; simp only [Act.put, sA_, sZ_, sS_, i64_w, i32_w]; rfl
         refine pure_ (i := 11) (N := some 34) (v := ?_) (a' := ?_) #[true, true, true, true, true, false, true, false, true, false, false, true, false, false, false, false, false, false] rfl rfl (any_of HT_.out (by kernel_rfl)) (fun _ _ _ h => h) (Or.inl ⟨by rfl, ?_⟩) ?_ ?_
         rotate_left; intro w'; go_simp; with_reducible rfl; rotate_left; simp only [Act.put, sA_, sZ_, sS_, i64_w, i32_w]; rfl
         refine pure_ (i := 12) (N := some 35) (v := ?_) (a' := ?_) #[true, true, true, true, true, false, true, false, true, false, false, true, true, false, false, false, false, false] rfl rfl (any_of HT_.out (by kernel_rfl)) (fun _ _ _ h => h) (Or.inl ⟨by rfl, ?_⟩) ?_ ?_
         rotate_left; intro w'; go_simp; with_reducible rfl; rotate_left; simp only [Act.put, sA_, sZ_, sS_, i64_w, i32_w]; rfl
         refine pure_ (i := 13) (N := some 36) (v := ?_) (a' := ?_) #[true, true, true, true, true, false, true, false, true, false, false, true, true, true, false, false, false, false] rfl rfl (any_of HT_.out (by kernel_rfl)) (fun _ _ _ h => h) (Or.inl ⟨by rfl, ?_⟩) ?_ ?_
         rotate_left; intro w'; go_simp; with_reducible rfl; rotate_left; simp only [Act.put, sA_, sZ_, sS_, i64_w, i32_w]; rfl
         refine pure_ (i := 14) (N := some 37) (v := ?_) (a' := ?_) #[true, true, true, true, true, false, true, false, true, false, false, true, true, true, true, false, false, false] rfl rfl (any_of HT_.out (by kernel_rfl)) (fun _ _ _ h => h) (Or.inl ⟨by rfl, ?_⟩) ?_ ?_
         rotate_left; intro w'; go_simp; with_reducible rfl; rotate_left; simp only [Act.put, sA_, sZ_, sS_, i64_w, i32_w]; rfl
         refine take_ (i := 5) (N := some 28) (v := ?_) (a' := ?_) #[true, true, true, true, true, true, true, false, true, false, false, true, true, true, true, false, false, false] rfl rfl (take_ofW HT_.out HW_.out (by kernel_rfl)) (fun _ _ _ h => h) (Or.inl ⟨by rfl, ?_⟩) hHeld ?_ ?_
         rotate_left; rintro w' ⟨s0, s1⟩; go_simp; with_reducible rfl; rotate_left; simp only [Act.put, sA_, sZ_, sS_, i64_w, i32_w]; rfl
         refine join_ (σ := Value × Value) 4 #[true, true, true, true, true, true, true, true, true, true, false, true, true, true, true, false, false, false] (fun s_ => [(30, s_.1), (32, s_.2)]) (fun s_ w' => (w'.cell? ⟨B2_2, 0, none⟩ = some (.func (.func gM) #[] lM) ∧ w'.cell? ⟨B2_3, 0, none⟩ = some (.func (.func 108) #[] #[.pointer (some ⟨B2_0, 0, none⟩), .pointer (some ⟨B2_1, 0, none⟩), .pointer (some ⟨B2_2, 0, none⟩), .pointer (some ⟨B2_3, 0, none⟩)])) ∧ (Kd.R (Kd.int .i64) 2 w' wr.heap.size (fun k_ => some k_ ≠ (s_.2 : Value).ownBlock) s_.1 t229) ∧ (Kd.R (Kd.int .i64) 2 w' wr.heap.size (fun k_ => some k_ ≠ (s_.1 : Value).ownBlock) s_.2 y232) ∧ (w'.heap[B2_0]? = some (.cells #[.int .i64 n] 3 (0, 0))) ∧ (w'.heap[B2_1]? = some (.cells #[.func (.func gE) #[] lE] 91 (0, 0))) ∧ (w'.heap[B2_2]? = some (.cells #[.func (.func gM) #[] lM] 91 (0, 0))) ∧ (w'.heap[B2_3]? = some (.cells #[.func (.func 108) #[] #[.pointer (some ⟨B2_0, 0, none⟩), .pointer (some ⟨B2_1, 0, none⟩), .pointer (some ⟨B2_2, 0, none⟩), .pointer (some ⟨B2_3, 0, none⟩)]] 91 (0, 0))) ∧ (Below wr.heap.size wr w')) ?_ ?_
         rotate_left
         ·intro hCont
          refine two_ (i := 7) (j := 9) (Ni := some 30) (Nj := some 32) #[true, true, true, true, true, true, true, true, true, false, false, true, true, true, true, false, false, false] #[true, true, true, true, true, true, true, false, true, true, false, true, true, true, true, false, false, false] rfl rfl rfl rfl (two_of HT_.out (by kernel_rfl)) (by decide) (by decide) (fun K hK => ?_) (fun K hK => ?_)
          ·skip
           refine goes_ Try.func109 (by kernel_rfl) rfl #[.slice A0 l0.length c0] (by rfl) rfl rfl (by (try simp only [List.map_toArray, List.map_cons, List.map_nil]); first | done | rfl | (simp only [List.length_drop, List.length_take]; rfl)) ?_
           with_reducible refine (f18z.calls _ _ l0 t229 _ ?side1 ?side2 A13.out).mono ?_
           (case side1 => repeat (first | exact (Kd.C_below HR1.out HB.out) | (with_reducible refine Kd.C_alloc ?_ _) | (with_reducible refine Kd.C_drewN ?_ _) | (with_reducible refine Kd.C_drew ?_)))
           (case side2 => exact HC0.out)
           rintro e w30 ⟨v230, rfl, ho0, hb⟩
           refine ⟨_, rfl, ?_⟩
           have n0_ := Aside0.mk (Kd.R_lower ho0 (below_size (by repeat (first | (with_reducible first | exact HB.out | apply below_alloc | apply pw_below_drewN | apply below_drew1 | refine below_set ?_ GE223.out | refine below_set ?_ GE224.out | refine below_set ?_ GE225.out | refine below_set ?_ GE226.out) | exact HB.out))))
           have n1_ := Aside0.mk (blk_below (g := B2_0) (o := .cells #[.int .i64 n] 3 (0, 0)) (by (with_reducible repeat (first | refine blk_drewN ?_ _ | refine blk_drew ?_ | refine blk_alloc ?_ _)); exact BK223.out) hb)
           have n2_ := Aside0.mk (blk_below (g := B2_1) (o := .cells #[.func (.func gE) #[] lE] 91 (0, 0)) (by (with_reducible repeat (first | refine blk_drewN ?_ _ | refine blk_drew ?_ | refine blk_alloc ?_ _)); exact BK224.out) hb)
           have n3_ := Aside0.mk (blk_below (g := B2_2) (o := .cells #[.func (.func gM) #[] lM] 91 (0, 0)) (by (with_reducible repeat (first | refine blk_drewN ?_ _ | refine blk_drew ?_ | refine blk_alloc ?_ _)); exact BK225.out) hb)
           have n4_ := Aside0.mk (blk_below (g := B2_3) (o := .cells #[.func (.func 108) #[] #[.pointer (some ⟨B2_0, 0, none⟩), .pointer (some ⟨B2_1, 0, none⟩), .pointer (some ⟨B2_2, 0, none⟩), .pointer (some ⟨B2_3, 0, none⟩)]] 91 (0, 0)) (by (with_reducible repeat (first | refine blk_drewN ?_ _ | refine blk_drew ?_ | refine blk_alloc ?_ _)); exact BK226.out) hb)
           have n5_ := Aside0.mk (below_step (by repeat (first | (with_reducible first | exact HB.out | apply below_alloc | apply pw_below_drewN | apply below_drew1 | refine below_set ?_ GE223.out | refine below_set ?_ GE224.out | refine below_set ?_ GE225.out | refine below_set ?_ GE226.out) | exact HB.out)) hb)
           clear BK223
           clear BK224
           clear BK225
           clear BK226
           clear HB
           have HO231 := n0_
           have BK223 := n1_
           have BK224 := n2_
           have BK225 := n3_
           have BK226 := n4_
           have HB := n5_
           clear n0_ n1_ n2_ n3_ n4_ n5_
           (try clear hb)
           (try clear hb2)
           (try clear hk)
           (try clear hi)
           (try clear ho0)
           refine hK.out _ _ ⟨(blk_cell BK225.out 0).trans rfl, (blk_cell BK226.out 0).trans rfl⟩ (fun hHeld => ?_)
           clear hK K
           refine norm_ (a' := ?_) ?_ ?_
           rotate_left
           ·show Act.put _ (some 30) _ = _
            simp only [Act.put, sA_, sZ_, sS_, i64_w, i32_w]
            rfl
           refine one_ (i := 9) (N := some 32) #[true, true, true, true, true, true, true, true, true, true, false, true, true, true, true, false, false, false] rfl rfl (one_of HT_.out (by kernel_rfl)) (by decide) (fun K hK => ?_)
           refine Kd.R_lit_step (Kd.int .i64) _ 2 ?hg (N := 32) ?hd (xs := ([x20_1] : List Int)) (inner := [.int .i64 x20_1]) (ok := fun _ => True) (okp := fun _ => True) ?hr ?hp (fun _ hk => hk) trivial (Below.refl _ _) (Nat.le_refl _) (by simp) ?_; (case hd => rfl); (case hg => rfl); (case hr => first | (go_simp; done) | (go_simp; rfl)); (case hp => exact (Reps.one (show Kd.M (Kd.int .i64) _ _ _ x20_1 [.int .i64 x20_1] from rfl) (Reps.none _ _)))
           intro v233 w31 ho32 hb hg_ hnew_
           clear hg_ hnew_
           (first | rw [← Ny232.out] at ho32 | (simp only [Int.reduceToNat] at ho32; rw [← Ny232.out] at ho32))
           have n0_ := Aside0.mk (Kd.R_elder' (by (with_reducible repeat (first | apply Kd.R_alloc | apply Kd.R_drewN | apply Kd.R_drew)); exact HO231.out) (Kd.R_base ho32) hb)
           have n1_ := Aside0.mk (Kd.R_lower (Kd.R_new' ho32 (Kd.R_lt (by (with_reducible repeat (first | apply Kd.R_alloc | apply Kd.R_drewN | apply Kd.R_drew)); exact HO231.out))) (below_size (by repeat (first | (with_reducible first | exact HB.out | apply below_alloc | apply pw_below_drewN | apply below_drew1 | refine below_set ?_ GE223.out | refine below_set ?_ GE224.out | refine below_set ?_ GE225.out | refine below_set ?_ GE226.out) | exact HB.out))))
           have n2_ := Aside0.mk (blk_below (g := B2_0) (o := .cells #[.int .i64 n] 3 (0, 0)) (by (with_reducible repeat (first | refine blk_drewN ?_ _ | refine blk_drew ?_ | refine blk_alloc ?_ _)); exact BK223.out) hb)
           have n3_ := Aside0.mk (blk_below (g := B2_1) (o := .cells #[.func (.func gE) #[] lE] 91 (0, 0)) (by (with_reducible repeat (first | refine blk_drewN ?_ _ | refine blk_drew ?_ | refine blk_alloc ?_ _)); exact BK224.out) hb)
           have n4_ := Aside0.mk (blk_below (g := B2_2) (o := .cells #[.func (.func gM) #[] lM] 91 (0, 0)) (by (with_reducible repeat (first | refine blk_drewN ?_ _ | refine blk_drew ?_ | refine blk_alloc ?_ _)); exact BK225.out) hb)
           have n5_ := Aside0.mk (blk_below (g := B2_3) (o := .cells #[.func (.func 108) #[] #[.pointer (some ⟨B2_0, 0, none⟩), .pointer (some ⟨B2_1, 0, none⟩), .pointer (some ⟨B2_2, 0, none⟩), .pointer (some ⟨B2_3, 0, none⟩)]] 91 (0, 0)) (by (with_reducible repeat (first | refine blk_drewN ?_ _ | refine blk_drew ?_ | refine blk_alloc ?_ _)); exact BK226.out) hb)
           have n6_ := Aside0.mk (below_step (by repeat (first | (with_reducible first | exact HB.out | apply below_alloc | apply pw_below_drewN | apply below_drew1 | refine below_set ?_ GE223.out | refine below_set ?_ GE224.out | refine below_set ?_ GE225.out | refine below_set ?_ GE226.out) | exact HB.out)) hb)
           clear HO231
           clear BK223
           clear BK224
           clear BK225
           clear BK226
           clear HB
           have HO231 := n0_
           have HO234 := n1_
           have BK223 := n2_
           have BK224 := n3_
           have BK225 := n4_
           have BK226 := n5_
           have HB := n6_
           clear n0_ n1_ n2_ n3_ n4_ n5_ n6_
           clear hb ho32
           refine hK.out _ _ ⟨(blk_cell BK225.out 0).trans rfl, (blk_cell BK226.out 0).trans rfl⟩ (fun hHeld => ?_)
           clear hK K
           refine norm_ (a' := ?_) ?_ ?_
           rotate_left
           ·show Act.put _ (some 32) _ = _
            simp only [Act.put, sA_, sZ_, sS_, i64_w, i32_w]
            rfl
           exact norm_ (by simp only [putAll, Act.put, sA_, sZ_, sS_]) (hCont (v230, v233) _ ⟨hHeld, (by (with_reducible repeat (first | apply Kd.R_alloc | apply Kd.R_drewN | apply Kd.R_drew)); exact Kd.R_mono HO231.out (fun _ hk => hk.2)), (by (with_reducible repeat (first | apply Kd.R_alloc | apply Kd.R_drewN | apply Kd.R_drew)); exact Kd.R_mono HO234.out (fun _ hk => hk.2)), (by (with_reducible repeat (first | refine blk_drewN ?_ _ | refine blk_drew ?_ | refine blk_alloc ?_ _)); exact BK223.out), (by (with_reducible repeat (first | refine blk_drewN ?_ _ | refine blk_drew ?_ | refine blk_alloc ?_ _)); exact BK224.out), (by (with_reducible repeat (first | refine blk_drewN ?_ _ | refine blk_drew ?_ | refine blk_alloc ?_ _)); exact BK225.out), (by (with_reducible repeat (first | refine blk_drewN ?_ _ | refine blk_drew ?_ | refine blk_alloc ?_ _)); exact BK226.out), (by repeat (first | (with_reducible first | exact HB.out | apply below_alloc | apply pw_below_drewN | apply below_drew1 | refine below_set ?_ GE223.out | refine below_set ?_ GE224.out | refine below_set ?_ GE225.out | refine below_set ?_ GE226.out) | exact HB.out))⟩)
          ·skip
           refine Kd.R_lit_step (Kd.int .i64) _ 2 ?hg (N := 32) ?hd (xs := ([x20_1] : List Int)) (inner := [.int .i64 x20_1]) (ok := fun _ => True) (okp := fun _ => True) ?hr ?hp (fun _ hk => hk) trivial (Below.refl _ _) (Nat.le_refl _) (by simp) ?_; (case hd => rfl); (case hg => rfl); (case hr => first | (go_simp; done) | (go_simp; rfl)); (case hp => exact (Reps.one (show Kd.M (Kd.int .i64) _ _ _ x20_1 [.int .i64 x20_1] from rfl) (Reps.none _ _)))
           intro v233 w30 ho31 hb hg_ hnew_
           clear hg_ hnew_
           (first | rw [← Ny232.out] at ho31 | (simp only [Int.reduceToNat] at ho31; rw [← Ny232.out] at ho31))
           have n0_ := Aside0.mk (Kd.R_lower ho31 (below_size (by repeat (first | (with_reducible first | exact HB.out | apply below_alloc | apply pw_below_drewN | apply below_drew1 | refine below_set ?_ GE223.out | refine below_set ?_ GE224.out | refine below_set ?_ GE225.out | refine below_set ?_ GE226.out) | exact HB.out))))
           have n1_ := Aside0.mk (blk_below (g := B2_0) (o := .cells #[.int .i64 n] 3 (0, 0)) (by (with_reducible repeat (first | refine blk_drewN ?_ _ | refine blk_drew ?_ | refine blk_alloc ?_ _)); exact BK223.out) hb)
           have n2_ := Aside0.mk (blk_below (g := B2_1) (o := .cells #[.func (.func gE) #[] lE] 91 (0, 0)) (by (with_reducible repeat (first | refine blk_drewN ?_ _ | refine blk_drew ?_ | refine blk_alloc ?_ _)); exact BK224.out) hb)
           have n3_ := Aside0.mk (blk_below (g := B2_2) (o := .cells #[.func (.func gM) #[] lM] 91 (0, 0)) (by (with_reducible repeat (first | refine blk_drewN ?_ _ | refine blk_drew ?_ | refine blk_alloc ?_ _)); exact BK225.out) hb)
           have n4_ := Aside0.mk (blk_below (g := B2_3) (o := .cells #[.func (.func 108) #[] #[.pointer (some ⟨B2_0, 0, none⟩), .pointer (some ⟨B2_1, 0, none⟩), .pointer (some ⟨B2_2, 0, none⟩), .pointer (some ⟨B2_3, 0, none⟩)]] 91 (0, 0)) (by (with_reducible repeat (first | refine blk_drewN ?_ _ | refine blk_drew ?_ | refine blk_alloc ?_ _)); exact BK226.out) hb)
           have n5_ := Aside0.mk (below_step (by repeat (first | (with_reducible first | exact HB.out | apply below_alloc | apply pw_below_drewN | apply below_drew1 | refine below_set ?_ GE223.out | refine below_set ?_ GE224.out | refine below_set ?_ GE225.out | refine below_set ?_ GE226.out) | exact HB.out)) hb)
           clear BK223
           clear BK224
           clear BK225
           clear BK226
           clear HB
           have HO234 := n0_
           have BK223 := n1_
           have BK224 := n2_
           have BK225 := n3_
           have BK226 := n4_
           have HB := n5_
           clear n0_ n1_ n2_ n3_ n4_ n5_
           clear hb ho31
           refine hK.out _ _ ⟨(blk_cell BK225.out 0).trans rfl, (blk_cell BK226.out 0).trans rfl⟩ (fun hHeld => ?_)
           clear hK K
           refine norm_ (a' := ?_) ?_ ?_
           rotate_left
           ·show Act.put _ (some 32) _ = _
            simp only [Act.put, sA_, sZ_, sS_, i64_w, i32_w]
            rfl
           refine one_ (i := 7) (N := some 30) #[true, true, true, true, true, true, true, true, true, true, false, true, true, true, true, false, false, false] rfl rfl (one_of HT_.out (by kernel_rfl)) (by decide) (fun K hK => ?_)
           refine goes_ Try.func109 (by kernel_rfl) rfl #[.slice A0 l0.length c0] (by rfl) rfl rfl (by (try simp only [List.map_toArray, List.map_cons, List.map_nil]); first | done | rfl | (simp only [List.length_drop, List.length_take]; rfl)) ?_
           with_reducible refine (f18z.calls _ _ l0 t229 _ ?side1 ?side2 A13.out).mono ?_
           (case side1 => repeat (first | exact (Kd.C_below HR1.out HB.out) | (with_reducible refine Kd.C_alloc ?_ _) | (with_reducible refine Kd.C_drewN ?_ _) | (with_reducible refine Kd.C_drew ?_)))
           (case side2 => exact HC0.out)
           rintro e w32 ⟨v230, rfl, ho0, hb⟩
           refine ⟨_, rfl, ?_⟩
           have n0_ := Aside0.mk (Kd.R_elder' (by (with_reducible repeat (first | apply Kd.R_alloc | apply Kd.R_drewN | apply Kd.R_drew)); exact HO234.out) (Kd.R_base ho0) hb)
           have n1_ := Aside0.mk (Kd.R_lower (Kd.R_new' ho0 (Kd.R_lt (by (with_reducible repeat (first | apply Kd.R_alloc | apply Kd.R_drewN | apply Kd.R_drew)); exact HO234.out))) (below_size (by repeat (first | (with_reducible first | exact HB.out | apply below_alloc | apply pw_below_drewN | apply below_drew1 | refine below_set ?_ GE223.out | refine below_set ?_ GE224.out | refine below_set ?_ GE225.out | refine below_set ?_ GE226.out) | exact HB.out))))
           have n2_ := Aside0.mk (blk_below (g := B2_0) (o := .cells #[.int .i64 n] 3 (0, 0)) (by (with_reducible repeat (first | refine blk_drewN ?_ _ | refine blk_drew ?_ | refine blk_alloc ?_ _)); exact BK223.out) hb)
           have n3_ := Aside0.mk (blk_below (g := B2_1) (o := .cells #[.func (.func gE) #[] lE] 91 (0, 0)) (by (with_reducible repeat (first | refine blk_drewN ?_ _ | refine blk_drew ?_ | refine blk_alloc ?_ _)); exact BK224.out) hb)
           have n4_ := Aside0.mk (blk_below (g := B2_2) (o := .cells #[.func (.func gM) #[] lM] 91 (0, 0)) (by (with_reducible repeat (first | refine blk_drewN ?_ _ | refine blk_drew ?_ | refine blk_alloc ?_ _)); exact BK225.out) hb)
           have n5_ := Aside0.mk (blk_below (g := B2_3) (o := .cells #[.func (.func 108) #[] #[.pointer (some ⟨B2_0, 0, none⟩), .pointer (some ⟨B2_1, 0, none⟩), .pointer (some ⟨B2_2, 0, none⟩), .pointer (some ⟨B2_3, 0, none⟩)]] 91 (0, 0)) (by (with_reducible repeat (first | refine blk_drewN ?_ _ | refine blk_drew ?_ | refine blk_alloc ?_ _)); exact BK226.out) hb)
           have n6_ := Aside0.mk (below_step (by repeat (first | (with_reducible first | exact HB.out | apply below_alloc | apply pw_below_drewN | apply below_drew1 | refine below_set ?_ GE223.out | refine below_set ?_ GE224.out | refine below_set ?_ GE225.out | refine below_set ?_ GE226.out) | exact HB.out)) hb)
           clear HO234
           clear BK223
           clear BK224
           clear BK225
           clear BK226
           clear HB
           have HO234 := n0_
           have HO231 := n1_
           have BK223 := n2_
           have BK224 := n3_
           have BK225 := n4_
           have BK226 := n5_
           have HB := n6_
           clear n0_ n1_ n2_ n3_ n4_ n5_ n6_
           (try clear hb)
           (try clear hb2)
           (try clear hk)
           (try clear hi)
           (try clear ho0)
           refine hK.out _ _ ⟨(blk_cell BK225.out 0).trans rfl, (blk_cell BK226.out 0).trans rfl⟩ (fun hHeld => ?_)
           clear hK K
           refine norm_ (a' := ?_) ?_ ?_
           rotate_left
           ·show Act.put _ (some 30) _ = _
            simp only [Act.put, sA_, sZ_, sS_, i64_w, i32_w]
            rfl
           exact norm_ (by simp only [putAll, Act.put, sA_, sZ_, sS_]) (hCont (v230, v233) _ ⟨hHeld, (by (with_reducible repeat (first | apply Kd.R_alloc | apply Kd.R_drewN | apply Kd.R_drew)); exact Kd.R_mono HO231.out (fun _ hk => hk.2)), (by (with_reducible repeat (first | apply Kd.R_alloc | apply Kd.R_drewN | apply Kd.R_drew)); exact Kd.R_mono HO234.out (fun _ hk => hk.2)), (by (with_reducible repeat (first | refine blk_drewN ?_ _ | refine blk_drew ?_ | refine blk_alloc ?_ _)); exact BK223.out), (by (with_reducible repeat (first | refine blk_drewN ?_ _ | refine blk_drew ?_ | refine blk_alloc ?_ _)); exact BK224.out), (by (with_reducible repeat (first | refine blk_drewN ?_ _ | refine blk_drew ?_ | refine blk_alloc ?_ _)); exact BK225.out), (by (with_reducible repeat (first | refine blk_drewN ?_ _ | refine blk_drew ?_ | refine blk_alloc ?_ _)); exact BK226.out), (by repeat (first | (with_reducible first | exact HB.out | apply below_alloc | apply pw_below_drewN | apply below_drew1 | refine below_set ?_ GE223.out | refine below_set ?_ GE224.out | refine below_set ?_ GE225.out | refine below_set ?_ GE226.out) | exact HB.out))⟩)
         rintro ⟨v230, v233⟩ w33 ⟨hS_, h0_, h1_, h2_, h3_, h4_, h5_, h6_⟩
         have n0_ : Aside0 (Kd.R (Kd.int .i64) 2 w33 wr.heap.size (fun k_ => some k_ ≠ (v233 : Value).ownBlock) v230 t229) := ⟨h0_⟩
         have n1_ : Aside0 (Kd.R (Kd.int .i64) 2 w33 wr.heap.size (fun k_ => some k_ ≠ (v230 : Value).ownBlock) v233 y232) := ⟨h1_⟩
         have n2_ : Aside0 (w33.heap[B2_0]? = some (.cells #[.int .i64 n] 3 (0, 0))) := ⟨h2_⟩
         have n3_ : Aside0 (w33.heap[B2_1]? = some (.cells #[.func (.func gE) #[] lE] 91 (0, 0))) := ⟨h3_⟩
         have n4_ : Aside0 (w33.heap[B2_2]? = some (.cells #[.func (.func gM) #[] lM] 91 (0, 0))) := ⟨h4_⟩
         have n5_ : Aside0 (w33.heap[B2_3]? = some (.cells #[.func (.func 108) #[] #[.pointer (some ⟨B2_0, 0, none⟩), .pointer (some ⟨B2_1, 0, none⟩), .pointer (some ⟨B2_2, 0, none⟩), .pointer (some ⟨B2_3, 0, none⟩)]] 91 (0, 0))) := ⟨h5_⟩
         have n6_ : Aside0 (Below wr.heap.size wr w33) := ⟨h6_⟩
         clear BK223
         clear BK224
         clear BK225
         clear BK226
         clear HB
         clear h0_ h1_ h2_ h3_ h4_ h5_ h6_
         have HO231 := n0_
         have HO234 := n1_
         have BK223 := n2_
         have BK224 := n3_
         have BK225 := n4_
         have BK226 := n5_
         have HB := n6_
         clear n0_ n1_ n2_ n3_ n4_ n5_ n6_
         have hHeld : w33.cell? ⟨B2_2, 0, none⟩ = some (.func (.func gM) #[] lM) ∧ w33.cell? ⟨B2_3, 0, none⟩ = some (.func (.func 108) #[] #[.pointer (some ⟨B2_0, 0, none⟩), .pointer (some ⟨B2_1, 0, none⟩), .pointer (some ⟨B2_2, 0, none⟩), .pointer (some ⟨B2_3, 0, none⟩)]) := hS_
         obtain ⟨Ao35, co35, eo35⟩ := Kd.R_slice HO234.out
         (first | subst eo35 | (injection eo35 with f1_ f2_ f3_; have f4_ := f1_.symm; have f5_ := f3_.symm; clear f1_ f2_ f3_; subst f4_; subst f5_))
         refine norm_ (a' := ?_) ?_ ?_
         rotate_left
         ·simp only [putAll, Act.put, sA_, sZ_, sS_]
          rfl
         refine one_ (i := 10) (N := some 33) #[true, true, true, true, true, true, true, true, true, true, true, true, true, true, true, false, false, false] rfl rfl (one_of HT_.out (by kernel_rfl)) (by decide) (fun K hK => ?_)
         refine Kd.R_append_rows_step (Kd.int .i64) (w0 := wr) wr.heap.size (by rfl) (.tmp 30) (.tmp 32) 34 2 (.int .i64 0) 8 rfl Try.underlying34 info2 rfl (by decide) (by omega) v230 t229 y232 _ _ _ (fun k_ => some k_ ≠ (.slice Ao35 y232.length co35 : Value).ownBlock) (fun _ => False) rfl rfl ?aO ?aR (fun _ _ h => h) (fun _ h => h.elim) ?aF ?aB ?aS ?aL ?_
         (case aR => repeat (first | exact (Kd.R_reads' HO234.out).2.2 | (with_reducible refine Kd.C_alloc ?_ _) | (with_reducible refine Kd.C_drewN ?_ _) | (with_reducible refine Kd.C_drew ?_)))
         (case aB => exact (by repeat (first | (with_reducible first | exact HB.out | apply below_alloc | apply pw_below_drewN | apply below_drew1 | refine below_set ?_ GE223.out | refine below_set ?_ GE224.out | refine below_set ?_ GE225.out | refine below_set ?_ GE226.out) | exact HB.out)))
         (case aF => exact (fun k_ hk => Kd.fresh' (Kd.R_lt (by (with_reducible repeat (first | apply Kd.R_alloc | apply Kd.R_drewN | apply Kd.R_drew)); exact HO234.out)) k_ hk))
         (case aO => exact (by (with_reducible repeat (first | apply Kd.R_alloc | apply Kd.R_drewN | apply Kd.R_drew)); exact HO231.out))
         (case aS => exact (below_size (by repeat (first | (with_reducible first | exact HB.out | apply below_alloc | apply pw_below_drewN | apply below_drew1 | refine below_set ?_ GE223.out | refine below_set ?_ GE224.out | refine below_set ?_ GE225.out | refine below_set ?_ GE226.out) | exact HB.out))))
         (case aL => have := LMc14.out; omega)
         intro v236 w34 ho hb hg hat
         rw [← Ny235.out] at ho
         have n0_ := Aside0.mk (blk_grown (g := B2_0) (o := .cells #[.int .i64 n] 3 (0, 0)) (by (with_reducible repeat (first | refine blk_drewN ?_ _ | refine blk_drew ?_ | refine blk_alloc ?_ _)); exact BK223.out) hg (Kd.R_ne HO231.out BK223.out (by decide)))
         have n1_ := Aside0.mk (blk_grown (g := B2_1) (o := .cells #[.func (.func gE) #[] lE] 91 (0, 0)) (by (with_reducible repeat (first | refine blk_drewN ?_ _ | refine blk_drew ?_ | refine blk_alloc ?_ _)); exact BK224.out) hg (Kd.R_ne HO231.out BK224.out (by decide)))
         have n2_ := Aside0.mk (blk_grown (g := B2_2) (o := .cells #[.func (.func gM) #[] lM] 91 (0, 0)) (by (with_reducible repeat (first | refine blk_drewN ?_ _ | refine blk_drew ?_ | refine blk_alloc ?_ _)); exact BK225.out) hg (Kd.R_ne HO231.out BK225.out (by decide)))
         have n3_ := Aside0.mk (blk_grown (g := B2_3) (o := .cells #[.func (.func 108) #[] #[.pointer (some ⟨B2_0, 0, none⟩), .pointer (some ⟨B2_1, 0, none⟩), .pointer (some ⟨B2_2, 0, none⟩), .pointer (some ⟨B2_3, 0, none⟩)]] 91 (0, 0)) (by (with_reducible repeat (first | refine blk_drewN ?_ _ | refine blk_drew ?_ | refine blk_alloc ?_ _)); exact BK226.out) hg (Kd.R_ne HO231.out BK226.out (by decide)))
         have n4_ := Aside0.mk (Kd.R_after (ok := (fun _ => True)) (by (with_reducible repeat (first | apply Kd.R_alloc | apply Kd.R_drewN | apply Kd.R_drew)); exact Kd.R_mono HO234.out (fun _ hk => ⟨trivial, hk⟩)) hg hat)
         have n5_ := Aside0.mk (hb)
         have n6_ := Aside0.mk (ho)
         clear BK223
         clear BK224
         clear BK225
         clear BK226
         clear HO234
         clear HB
         clear HO231
         have BK223 := n0_
         have BK224 := n1_
         have BK225 := n2_
         have BK226 := n3_
         have HO234 := n4_
         have HB := n5_
         have HO237 := n6_
         clear n0_ n1_ n2_ n3_ n4_ n5_ n6_
         clear ho hb hg hat
         obtain ⟨Ao36, co36, eo36⟩ := Kd.R_slice HO237.out
         (first | subst eo36 | (injection eo36 with f1_ f2_ f3_; have f4_ := f1_.symm; have f5_ := f3_.symm; clear f1_ f2_ f3_; subst f4_; subst f5_))
         refine hK.out _ _ ⟨(blk_cell BK225.out 0).trans rfl, (blk_cell BK226.out 0).trans rfl⟩ (fun hHeld => ?_)
         clear hK K
         refine norm_ (a' := ?_) ?_ ?_
         rotate_left
         ·show Act.put _ (some 33) _ = _
          simp only [Act.put, sA_, sZ_, sS_, i64_w, i32_w]
          rfl
         refine one_ (i := 15) (N := some 38) #[true, true, true, true, true, true, true, true, true, true, true, true, true, true, true, true, false, false] rfl rfl (one_of HT_.out (by kernel_rfl)) (by decide) (fun K hK => ?_)
         refine goesV_ (g := 108) (lb := #[.pointer (some ⟨B2_0, 0, none⟩), .pointer (some ⟨B2_1, 0, none⟩), .pointer (some ⟨B2_2, 0, none⟩), .pointer (some ⟨B2_3, 0, none⟩)]) (enters_ Try.func108 (by kernel_rfl) rfl) #[.slice Ao36 y235.length co36, .int .i64 ji15] (by rfl) rfl rfl (by rfl) (by (try simp only [List.map_toArray, List.map_cons, List.map_nil]); first | done | (simp only [hji15]; rfl) | rfl) ?_
         have HG1 := HG.out.step (hI s_1) hbase HB.out
         have hho_ := HO237.out
         have hlt_ : ∀ k_, S k_ → k_ < wr.heap.size := fun k_ hk_ => Nat.lt_of_lt_of_le (hS k_ hk_) HK0.out.1
         refine calls_of_args (by simp) ((ih k1 (by have := HK1.out; omega) Ao36 co36 y235 ji15 s_1 (false, s238) _ (Kd.R_lower (Kd.R_mono (Kd.R_bound hho_) (fun k_ hk_ hs_ => by have h1_ := hk_.2.1; have h2_ := hlt_ k_ hs_; omega)) (Nat.le_trans hbase HG.out.kept.1)) (HK0.out.below HB.out) (Nat.le_trans hbase HG1.kept.1) HG1.st BK223.out BK224.out BK225.out BK226.out A16.out).mono ?_)
         rintro e w37 ⟨rfl, hkp, hbl, hst⟩
         refine ⟨_, rfl, ?_⟩
         have n0_ := Aside0.mk trivial
         have n1_ := Aside0.mk trivial
         have n2_ := Aside0.mk (blk_kept BK223.out hkp hn0)
         have n3_ := Aside0.mk (blk_kept BK224.out hkp hn1)
         have n4_ := Aside0.mk (blk_kept BK225.out hkp hn2)
         have n5_ := Aside0.mk (blk_kept BK226.out hkp hn3)
         have HG2 := Aside0.mk (HG1.trans hkp hbl hst)
         have n6_ := Aside0.mk trivial
         clear HO234
         clear HO237
         clear BK223
         clear BK224
         clear BK225
         clear BK226
         clear HB
         have HO234 := n0_
         have HO237 := n1_
         have BK223 := n2_
         have BK224 := n3_
         have BK225 := n4_
         have BK226 := n5_
         have HB := n6_
         clear n0_ n1_ n2_ n3_ n4_ n5_ n6_
         (try clear hb)
         (try clear hb2)
         (try clear hk)
         (try clear hi)
         refine hK.out _ _ ⟨(blk_cell BK225.out 0).trans rfl, (blk_cell BK226.out 0).trans rfl⟩ (fun hHeld => ?_)
         clear hK K
         refine norm_ (a' := ?_) ?_ ?_
         rotate_left
         ·show Act.put _ (some 38) _ = _
          simp only [Act.put, sA_, sZ_, sS_, i64_w, i32_w]
          rfl
         refine pure_ (i := 16) (N := some 39) (v := ?_) (a' := ?_) #[true, true, true, true, true, true, true, true, true, true, true, true, true, true, true, true, true, false] rfl rfl (any_of HT_.out (by kernel_rfl)) (fun _ _ _ h => h) (Or.inl ⟨by rfl, ?_⟩) ?_ ?_
         rotate_left; intro w'; go_simp; with_reducible rfl; rotate_left; simp only [Act.put, sA_, sZ_, sS_, i64_w, i32_w]; rfl
         refine pure_ (i := 17) (N := some 40) (v := ?_) (a' := ?_) #[true, true, true, true, true, true, true, true, true, true, true, true, true, true, true, true, true, true] rfl rfl (any_of HT_.out (by kernel_rfl)) (fun _ _ _ h => h) (Or.inl ⟨by rfl, ?_⟩) ?_ ?_
         rotate_left; intro w'; go_simp; with_reducible rfl; rotate_left; simp only [Act.put, sA_, sZ_, sS_, i64_w, i32_w]; rfl
         refine done_ (done_of HT_.out (by kernel_rfl)) ?_
         try go_wp2
         go_ret
         exact ⟨by first | rfl | (simp [errW_none, errW_some] <;> rfl) | (simp only [← hji15]; first | rfl | (simp [errW_none, errW_some] <;> rfl)) | (simp [*, errW_none, errW_some] <;> rfl), HG2.out.kept, HG2.out.below, HG2.out.st⟩
       ·rw [if_neg c14] at H
        exact absurd H (by simp)
      ·replace c12 := Bool.eq_false_iff.mpr c12
       subst c12
       have H1 : (impl_grouped_1.l0 may each n k1 l0 a1 (wrap64 (a1 + 1)) (wrap64 (x20_1 + 1)) s_1) = some r := by rw [if_neg (show ¬ (false = true) by decide)] at H; exact H
       clear H
       have H := H1
       clear H1
       have H' := Aside0.mk H
       clear H
       try go_wp2
       have n0_ := Aside0.mk (blk_drew BK223.out)
       have n1_ := Aside0.mk (blk_drew BK224.out)
       have n2_ := Aside0.mk (blk_drew BK225.out)
       have n3_ := Aside0.mk (blk_drew BK226.out)
       have n4_ := Aside0.mk (below_drew1 HB.out)
       clear BK223
       clear BK224
       clear BK225
       clear BK226
       clear HB
       have BK223 := n0_
       have BK224 := n1_
       have BK225 := n2_
       have BK226 := n3_
       have HB := n4_
       clear n0_ n1_ n2_ n3_ n4_
       refine start_ (n := 18) (S := fun w' => w'.cell? ⟨B2_2, 0, none⟩ = some (.func (.func gM) #[] lM)) (ds := []) #[false, false, false, false, false, false, false, false, false, false, false, false, false, false, false, false, false, false] (by kernel_rfl) rfl rfl ((blk_cell BK225.out 0).trans rfl) (fun hHeld => ?_); refine with_tabW impl_grouped_1.tab6 impl_grouped_1.bits6 (fun HT_ HW_ => ?_)
       generalize wr.drew = w38 at BK223 BK224 BK225 BK226 HB hHeld ⊢
       refine pure_ (i := 1) (N := some 24) (v := ?_) (a' := ?_) #[false, true, false, false, false, false, false, false, false, false, false, false, false, false, false, false, false, false] rfl rfl (any_of HT_.out (by kernel_rfl)) (fun _ _ _ h => h) (Or.inl ⟨by rfl, ?_⟩) ?_ ?_
       rotate_left; intro w'; go_simp; with_reducible rfl; rotate_left; simp only [Act.put, sA_, sZ_, sS_, i64_w, i32_w]; rfl
       refine pure_ (i := 2) (N := some 25) (v := ?_) (a' := ?_) #[false, true, true, false, false, false, false, false, false, false, false, false, false, false, false, false, false, false] rfl rfl (any_of HT_.out (by kernel_rfl)) (fun _ _ _ h => h) (Or.inl ⟨by rfl, ?_⟩) ?_ ?_
       rotate_left; intro w'; go_simp; with_reducible rfl; rotate_left; simp only [Act.put, sA_, sZ_, sS_, i64_w, i32_w]; rfl
       refine take_ (i := 0) (N := some 23) (v := ?_) (a' := ?_) #[true, true, true, false, false, false, false, false, false, false, false, false, false, false, false, false, false, false] rfl rfl (take_ofW HT_.out HW_.out (by kernel_rfl)) (fun _ _ _ h => h) (Or.inl ⟨by rfl, ?_⟩) hHeld ?_ ?_
       rotate_left
       ·intro w' s0
        go_simp
        with_reducible rfl
       rotate_left
       ·simp only [Act.put, sA_, sZ_, sS_, i64_w, i32_w]
        rfl
       refine one_ (i := 3) (N := some 26) #[true, true, true, true, false, false, false, false, false, false, false, false, false, false, false, false, false, false] rfl rfl (one_of HT_.out (by kernel_rfl)) (by decide) (fun K hK => ?_)
       refine goesV_ egM #[.slice A0 l0.length c0, .int .i64 x20_1] (by rfl) rfl rfl (by rfl) (by (try simp only [List.map_toArray, List.map_cons, List.map_nil]); first | done | rfl) ?_
       refine (hm _ A0 c0 l0 x20_1 false ?side1 ?side2 (HK0.out.below HB.out) A11.out).mono ?_
       (case side1 => repeat (first | exact (Kd.C_below HR1.out HB.out) | (with_reducible refine Kd.C_alloc ?_ _) | (with_reducible refine Kd.C_drewN ?_ _) | (with_reducible refine Kd.C_drew ?_)))
       (case side2 => exact HC0.out)
       rintro e w39 ⟨rfl, hb⟩
       refine ⟨_, rfl, ?_⟩
       have n0_ := Aside0.mk (blk_below (g := B2_0) (o := .cells #[.int .i64 n] 3 (0, 0)) (by (with_reducible repeat (first | refine blk_drewN ?_ _ | refine blk_drew ?_ | refine blk_alloc ?_ _)); exact BK223.out) hb)
       have n1_ := Aside0.mk (blk_below (g := B2_1) (o := .cells #[.func (.func gE) #[] lE] 91 (0, 0)) (by (with_reducible repeat (first | refine blk_drewN ?_ _ | refine blk_drew ?_ | refine blk_alloc ?_ _)); exact BK224.out) hb)
       have n2_ := Aside0.mk (blk_below (g := B2_2) (o := .cells #[.func (.func gM) #[] lM] 91 (0, 0)) (by (with_reducible repeat (first | refine blk_drewN ?_ _ | refine blk_drew ?_ | refine blk_alloc ?_ _)); exact BK225.out) hb)
       have n3_ := Aside0.mk (blk_below (g := B2_3) (o := .cells #[.func (.func 108) #[] #[.pointer (some ⟨B2_0, 0, none⟩), .pointer (some ⟨B2_1, 0, none⟩), .pointer (some ⟨B2_2, 0, none⟩), .pointer (some ⟨B2_3, 0, none⟩)]] 91 (0, 0)) (by (with_reducible repeat (first | refine blk_drewN ?_ _ | refine blk_drew ?_ | refine blk_alloc ?_ _)); exact BK226.out) hb)
       have n4_ := Aside0.mk (below_step (by repeat (first | (with_reducible first | exact HB.out | apply below_alloc | apply pw_below_drewN | apply below_drew1 | refine below_set ?_ GE223.out | refine below_set ?_ GE224.out | refine below_set ?_ GE225.out | refine below_set ?_ GE226.out) | exact HB.out)) hb)
       clear BK223
       clear BK224
       clear BK225
       clear BK226
       clear HB
       have BK223 := n0_
       have BK224 := n1_
       have BK225 := n2_
       have BK226 := n3_
       have HB := n4_
       clear n0_ n1_ n2_ n3_ n4_
       (try clear hb)
       (try clear hb2)
       (try clear hk)
       (try clear hi)
       refine hK.out _ _ ((blk_cell BK225.out 0).trans rfl) (fun hHeld => ?_)
       clear hK K
       refine norm_ (a' := ?_) ?_ ?_
       rotate_left
       ·show Act.put _ (some 26) _ = _
        simp only [Act.put, sA_, sZ_, sS_, i64_w, i32_w]
        rfl
       refine pure_ (i := 4) (N := some 27) (v := ?_) (a' := ?_) #[true, true, true, true, true, false, false, false, false, false, false, false, false, false, false, false, false, false] rfl rfl (any_of HT_.out (by kernel_rfl)) (fun _ _ _ h => h) (Or.inl ⟨by rfl, ?_⟩) ?_ ?_
       rotate_left; intro w'; go_simp; with_reducible rfl; rotate_left; simp only [Act.put, sA_, sZ_, sS_, i64_w, i32_w]; rfl
       refine pure_ (i := 5) (N := some 28) (v := undef) (a' := ?_) #[true, true, true, true, true, true, false, false, false, false, false, false, false, false, false, false, false, false] rfl rfl (any_of HT_.out (by kernel_rfl)) (fun _ _ _ h => h) (Or.inr ⟨by rfl, rfl⟩) ?_ ?_
       rotate_left
       ·simp only [Act.put, sA_, sZ_, sS_, i64_w, i32_w]
        rfl
       refine pure_ (i := 6) (N := some 29) (v := undef) (a' := ?_) #[true, true, true, true, true, true, true, false, false, false, false, false, false, false, false, false, false, false] rfl rfl (any_of HT_.out (by kernel_rfl)) (fun _ _ _ h => h) (Or.inr ⟨by rfl, rfl⟩) ?_ ?_
       rotate_left
       ·simp only [Act.put, sA_, sZ_, sS_, i64_w, i32_w]
        rfl
       refine pure_ (i := 7) (N := some 30) (v := undef) (a' := ?_) #[true, true, true, true, true, true, true, true, false, false, false, false, false, false, false, false, false, false] rfl rfl (any_of HT_.out (by kernel_rfl)) (fun _ _ _ h => h) (Or.inr ⟨by rfl, rfl⟩) ?_ ?_
       rotate_left
       ·simp only [Act.put, sA_, sZ_, sS_, i64_w, i32_w]
        rfl
       refine pure_ (i := 8) (N := some 31) (v := undef) (a' := ?_) #[true, true, true, true, true, true, true, true, true, false, false, false, false, false, false, false, false, false] rfl rfl (any_of HT_.out (by kernel_rfl)) (fun _ _ _ h => h) (Or.inr ⟨by rfl, rfl⟩) ?_ ?_
       rotate_left
       ·simp only [Act.put, sA_, sZ_, sS_, i64_w, i32_w]
        rfl
       refine pure_ (i := 9) (N := some 32) (v := undef) (a' := ?_) #[true, true, true, true, true, true, true, true, true, true, false, false, false, false, false, false, false, false] rfl rfl (any_of HT_.out (by kernel_rfl)) (fun _ _ _ h => h) (Or.inr ⟨by rfl, rfl⟩) ?_ ?_
       rotate_left
       ·simp only [Act.put, sA_, sZ_, sS_, i64_w, i32_w]
        rfl
       refine pure_ (i := 10) (N := some 33) (v := undef) (a' := ?_) #[true, true, true, true, true, true, true, true, true, true, true, false, false, false, false, false, false, false] rfl rfl (any_of HT_.out (by kernel_rfl)) (fun _ _ _ h => h) (Or.inr ⟨by rfl, rfl⟩) ?_ ?_
       rotate_left
       ·simp only [Act.put, sA_, sZ_, sS_, i64_w, i32_w]
        rfl
       refine pure_ (i := 11) (N := some 34) (v := undef) (a' := ?_) #[true, true, true, true, true, true, true, true, true, true, true, true, false, false, false, false, false, false] rfl rfl (any_of HT_.out (by kernel_rfl)) (fun _ _ _ h => h) (Or.inr ⟨by rfl, rfl⟩) ?_ ?_
       rotate_left
       ·simp only [Act.put, sA_, sZ_, sS_, i64_w, i32_w]
        rfl
       refine pure_ (i := 12) (N := some 35) (v := undef) (a' := ?_) #[true, true, true, true, true, true, true, true, true, true, true, true, true, false, false, false, false, false] rfl rfl (any_of HT_.out (by kernel_rfl)) (fun _ _ _ h => h) (Or.inr ⟨by rfl, rfl⟩) ?_ ?_
       rotate_left
       ·simp only [Act.put, sA_, sZ_, sS_, i64_w, i32_w]
        rfl
       refine pure_ (i := 13) (N := some 36) (v := undef) (a' := ?_) #[true, true, true, true, true, true, true, true, true, true, true, true, true, true, false, false, false, false] rfl rfl (any_of HT_.out (by kernel_rfl)) (fun _ _ _ h => h) (Or.inr ⟨by rfl, rfl⟩) ?_ ?_
       rotate_left
       ·simp only [Act.put, sA_, sZ_, sS_, i64_w, i32_w]
        rfl
       refine pure_ (i := 14) (N := some 37) (v := undef) (a' := ?_) #[true, true, true, true, true, true, true, true, true, true, true, true, true, true, true, false, false, false] rfl rfl (any_of HT_.out (by kernel_rfl)) (fun _ _ _ h => h) (Or.inr ⟨by rfl, rfl⟩) ?_ ?_
       rotate_left
       ·simp only [Act.put, sA_, sZ_, sS_, i64_w, i32_w]
        rfl
       refine pure_ (i := 15) (N := some 38) (v := undef) (a' := ?_) #[true, true, true, true, true, true, true, true, true, true, true, true, true, true, true, true, false, false] rfl rfl (any_of HT_.out (by kernel_rfl)) (fun _ _ _ h => h) (Or.inr ⟨by rfl, rfl⟩) ?_ ?_
       rotate_left
       ·simp only [Act.put, sA_, sZ_, sS_, i64_w, i32_w]
        rfl
       refine pure_ (i := 16) (N := some 39) (v := undef) (a' := ?_) #[true, true, true, true, true, true, true, true, true, true, true, true, true, true, true, true, true, false] rfl rfl (any_of HT_.out (by kernel_rfl)) (fun _ _ _ h => h) (Or.inr ⟨by rfl, rfl⟩) ?_ ?_
       rotate_left
       ·simp only [Act.put, sA_, sZ_, sS_, i64_w, i32_w]
        rfl
       refine pure_ (i := 17) (N := some 40) (v := ?_) (a' := ?_) #[true, true, true, true, true, true, true, true, true, true, true, true, true, true, true, true, true, true] rfl rfl (any_of HT_.out (by kernel_rfl)) (fun _ _ _ h => h) (Or.inl ⟨by rfl, ?_⟩) ?_ ?_
       rotate_left; intro w'; go_simp; with_reducible rfl; rotate_left; simp only [Act.put, sA_, sZ_, sS_, i64_w, i32_w]; rfl
       refine done_ (done_of HT_.out (by kernel_rfl)) ?_
       try go_wp2
       go_roundg k1
       case measure => have := HK1.out; omega
       case rel => exact ⟨(wrap64 (x20_1 + 1)), s_1, (by first | rfl | (simp; done) | (simp [*]; done)), H', ⟨by have := HK1.out; omega⟩, ⟨by (with_reducible repeat (first | refine blk_drewN ?_ _ | refine blk_drew ?_ | refine blk_alloc ?_ _)); exact BK223.out⟩, ⟨by (with_reducible repeat (first | refine blk_drewN ?_ _ | refine blk_drew ?_ | refine blk_alloc ?_ _)); exact BK224.out⟩, ⟨by (with_reducible repeat (first | refine blk_drewN ?_ _ | refine blk_drew ?_ | refine blk_alloc ?_ _)); exact BK225.out⟩, ⟨by (with_reducible repeat (first | refine blk_drewN ?_ _ | refine blk_drew ?_ | refine blk_alloc ?_ _)); exact BK226.out⟩, ⟨HG.out.step (hI s_1) hbase (by repeat (first | (with_reducible first | exact HB.out | apply below_alloc | apply pw_below_drewN | apply below_drew1 | refine below_set ?_ GE223.out | refine below_set ?_ GE224.out | refine below_set ?_ GE225.out | refine below_set ?_ GE226.out) | exact HB.out))⟩⟩
     ·rw [if_neg c10] at H
      have c10b0 : decide (x20_1 < (wrap64 (a1 + 1))) = false := decide_eq_false c10
      clear c10
      obtain rfl := Option.some.inj H
      go_wp2
      go_ret
      exact ⟨by first | rfl | (simp [errW_none, errW_some] <;> rfl) | (simp [*, errW_none, errW_some] <;> rfl), (HG.out.step (hI s_1) hbase (by repeat (first | (with_reducible first | exact HB.out | apply below_alloc | apply pw_below_drewN | apply below_drew1 | refine below_set ?_ GE223.out | refine below_set ?_ GE224.out | refine below_set ?_ GE225.out | refine below_set ?_ GE226.out) | exact HB.out))).kept, (HG.out.step (hI s_1) hbase (by repeat (first | (with_reducible first | exact HB.out | apply below_alloc | apply pw_below_drewN | apply below_drew1 | refine below_set ?_ GE223.out | refine below_set ?_ GE224.out | refine below_set ?_ GE225.out | refine below_set ?_ GE226.out) | exact HB.out))).below, (HG.out.step (hI s_1) hbase (by repeat (first | (with_reducible first | exact HB.out | apply below_alloc | apply pw_below_drewN | apply below_drew1 | refine below_set ?_ GE223.out | refine below_set ?_ GE224.out | refine below_set ?_ GE225.out | refine below_set ?_ GE226.out) | exact HB.out))).st⟩

end Go.Proofs.Ytdeipindfhkioaa.Q
