-- made by wip/tools/mk.py of this session's repo, by way of the kit's print.py: Lean checks it.
import Derived.Test.YtnefepgfmmnbpaaQ0
import Derived.Test.YtnefepgfmmnbpaaQ5
import Derived.Test.YtnefepgfmmnbpaaQ7
namespace Go.Proofs.Ytnefepgfmmnbpaa.Q
open Go.RowKit Go.Proofs.YtnefepgfmmnbpaaW.PrintWords Go.Proofs.YtnefepgfmmnbpaaW.PrintLast Go.Proofs.YtnefepgfmmnbpaaW.PrintMore Go.Proofs.YtnefepgfmmnbpaaMine
attribute [local go_sem] max2_int min2_int max_two min_two max_three min_three max_four min_four   -- for this text's walks alone
set_option linter.unusedVariables false
set_option linter.unusedSimpArgs false

/-! ### impl_Class_duty: function 70 -/
def impl_Class_duty.f (k : Nat) (a0_0 : Int) (a0_1 : Int) (a0_2 : Int) (a0_3 : Int) (a1 : Int) (a2 : Int) (a3 : Int) : Option (Int) := (impl_rounded.f k a1 (wrap64 (a0_0)) (wrap64 (a0_1)) a3).bind fun t302 => (some (mx (wrap64 (t302 + (wrap64 ((wrap64 (a0_2)) * a2)))) (wrap64 (a0_3))))
theorem impl_Class_duty.mono : ∀ a0 a1 a2 a3 a4 a5 a6 k, LeO (impl_Class_duty.f k a0 a1 a2 a3 a4 a5 a6) (impl_Class_duty.f (k + 1) a0 a1 a2 a3 a4 a5 a6) := by
  intro a0 a1 a2 a3 a4 a5 a6 k
  unfold impl_Class_duty.f
  repeat' first
      | (with_reducible exact impl_rounded.mono _ _ _ _ _)
      | (with_reducible exact LeO.refl _)
      | (with_reducible exact LeO.none _)
      | (with_reducible refine LeO.ite ?_ ?_)
      | (with_reducible refine LeO.bind ?_ (fun _ => ?_))
      | exact impl_rounded.mono _ _ _ _ _
      | exact LeO.none _
      | refine LeO.ite ?_ ?_
      | refine LeO.bind ?_ (fun _ => ?_)
set_option maxHeartbeats 8000000 in
set_option maxRecDepth 100000 in
theorem impl_Class_duty.calls (k : Nat) (a0_0 : Int) (a0_1 : Int) (a0_2 : Int) (a0_3 : Int) (a1 : Int) (a2 : Int) (a3 : Int) (r : Int) (w : World) (h : impl_Class_duty.f k a0_0 a0_1 a0_2 a0_3 a1 a2 a3 = some r) :
    Calls Try.prog 70 #[.agg #[.int .i16 a0_0, .int .i16 a0_1, .int .i16 a0_2, .int .i32 a0_3], .int .i64 a1, .int .i64 a2, .int .i64 a3] w fun e w' => e = .returned (.int .i64 r) ∧ Below w.heap.size w w' := by
  have hu56 := Try.underlying56
  have HB := Aside0.mk (Below.refl w.heap.size w)
  have H : ((impl_rounded.f k a1 (wrap64 (a0_0)) (wrap64 (a0_1)) a3).bind fun t302 => (some (mx (wrap64 (t302 + (wrap64 ((wrap64 (a0_2)) * a2)))) (wrap64 (a0_3))))) = some r := h
  clear h
  replace H := Option.bind_eq_some_iff.mp H
  obtain ⟨t302, A50, H⟩ := H
  replace H : (some (mx (wrap64 (t302 + (wrap64 ((wrap64 (a0_2)) * a2)))) (wrap64 (a0_3)))) = some r := H
  have A5 := Aside0.mk A50
  clear A50
  obtain ⟨ji6, hji6⟩ : ∃ j_ : Int, (mx (wrap64 (t302 + (wrap64 ((wrap64 (a0_2)) * a2)))) (wrap64 (a0_3))) = j_ := ⟨_, rfl⟩
  replace H : (some ji6) = some r := by first | (rw [hji6] at H; exact H) | (simp only [hji6] at H ⊢; exact H)
  (try rw [hji6] at A5)
  have hji6_ : (if (wrap64 (t302 + (wrap64 ((wrap64 (a0_2)) * a2)))) < (wrap64 (a0_3)) then (wrap64 (a0_3)) else (wrap64 (t302 + (wrap64 ((wrap64 (a0_2)) * a2))))) = ji6 := hji6
  obtain rfl := Option.some.inj H
  go_enter Try.func70, Try.ntmps70
  go_wp2_with (first | ((with_reducible refine gate_dst (N := 4) rfl ?_); refine box_event ?hg (N := 4) ?hd (cs := #[.int .i16 a0_0, .int .i16 a0_1, .int .i16 a0_2, .int .i32 a0_3]) (t := 56) ?hr ?_; (case hd => rfl); (case hg => rfl); (case hr => first | (go_simp; done) | (go_simp; rfl)); intro gb301 hg w7 hbox hb; have n0_ := Aside0.mk (below_step (by repeat (first | (with_reducible first | exact HB.out | apply below_alloc | apply pw_below_drewN | apply below_drew1) | exact HB.out)) hb); have n1_ := Aside0.mk (hbox); have n2_ := Aside0.mk ((by rw [hg]; exact (below_size (by repeat (first | (with_reducible first | exact HB.out | apply below_alloc | apply pw_below_drewN | apply below_drew1) | exact HB.out))) : w.heap.size ≤ gb301)); have n3_ := Aside0.mk ((by rw [hg]; exact (below_size (by repeat (first | (with_reducible first | exact HB.out | apply below_alloc | apply pw_below_drewN | apply below_drew1) | exact HB.out))) : w.heap.size ≤ gb301)); clear HB; have HB := n0_; have BK301 := n1_; have GW301 := n2_; have GE301 := n3_; clear n0_ n1_ n2_ n3_; clear hb hbox hg; have hcz8_0 : w7.cell? ⟨gb301, 0, none⟩ = some (.int .i16 a0_0) := (blk_cell BK301.out 0).trans rfl; have hcz8_1 : w7.cell? ⟨gb301, 1, none⟩ = some (.int .i16 a0_1) := (blk_cell BK301.out 1).trans rfl; have hcz8_2 : w7.cell? ⟨gb301, 2, none⟩ = some (.int .i16 a0_2) := (blk_cell BK301.out 2).trans rfl; have hcz8_3 : w7.cell? ⟨gb301, 3, none⟩ = some (.int .i32 a0_3) := (blk_cell BK301.out 3).trans rfl; have hfz8_0 := blk_frozen BK301.out 0; have hfz8_1 := blk_frozen BK301.out 1; have hfz8_2 := blk_frozen BK301.out 2; have hfz8_3 := blk_frozen BK301.out 3) | (go_at_call 81; (with_reducible refine (impl_rounded.calls k a1 (wrap64 (a0_0)) (wrap64 (a0_1)) a3 t302 _ A5.out).mono ?_); rintro e w' ⟨rfl, ⟨nd, rfl⟩⟩; (try first | exact ⟨rfl, _, World.drewN_drewN _ _ _⟩ | exact ⟨rfl, _, Eq.trans (World.drewN_drewN _ _ _) (congrArg (World.drewN _) (Nat.add_assoc _ _ _))⟩)))
  repeat (go_quiet (first | ((with_reducible refine gate_dst (N := 4) rfl ?_); refine box_event ?hg (N := 4) ?hd (cs := #[.int .i16 a0_0, .int .i16 a0_1, .int .i16 a0_2, .int .i32 a0_3]) (t := 56) ?hr ?_; (case hd => rfl); (case hg => rfl); (case hr => first | (go_simp; done) | (go_simp; rfl)); intro gb301 hg w7 hbox hb; have n0_ := Aside0.mk (below_step (by repeat (first | (with_reducible first | exact HB.out | apply below_alloc | apply pw_below_drewN | apply below_drew1) | exact HB.out)) hb); have n1_ := Aside0.mk (hbox); have n2_ := Aside0.mk ((by rw [hg]; exact (below_size (by repeat (first | (with_reducible first | exact HB.out | apply below_alloc | apply pw_below_drewN | apply below_drew1) | exact HB.out))) : w.heap.size ≤ gb301)); have n3_ := Aside0.mk ((by rw [hg]; exact (below_size (by repeat (first | (with_reducible first | exact HB.out | apply below_alloc | apply pw_below_drewN | apply below_drew1) | exact HB.out))) : w.heap.size ≤ gb301)); clear HB; have HB := n0_; have BK301 := n1_; have GW301 := n2_; have GE301 := n3_; clear n0_ n1_ n2_ n3_; clear hb hbox hg; have hcz8_0 : w7.cell? ⟨gb301, 0, none⟩ = some (.int .i16 a0_0) := (blk_cell BK301.out 0).trans rfl; have hcz8_1 : w7.cell? ⟨gb301, 1, none⟩ = some (.int .i16 a0_1) := (blk_cell BK301.out 1).trans rfl; have hcz8_2 : w7.cell? ⟨gb301, 2, none⟩ = some (.int .i16 a0_2) := (blk_cell BK301.out 2).trans rfl; have hcz8_3 : w7.cell? ⟨gb301, 3, none⟩ = some (.int .i32 a0_3) := (blk_cell BK301.out 3).trans rfl; have hfz8_0 := blk_frozen BK301.out 0; have hfz8_1 := blk_frozen BK301.out 1; have hfz8_2 := blk_frozen BK301.out 2; have hfz8_3 := blk_frozen BK301.out 3) | (go_at_call 81; (with_reducible refine (impl_rounded.calls k a1 (wrap64 (a0_0)) (wrap64 (a0_1)) a3 t302 _ A5.out).mono ?_); rintro e w' ⟨rfl, ⟨nd, rfl⟩⟩; (try first | exact ⟨rfl, _, World.drewN_drewN _ _ _⟩ | exact ⟨rfl, _, Eq.trans (World.drewN_drewN _ _ _) (congrArg (World.drewN _) (Nat.add_assoc _ _ _))⟩))); try go_wp2_with (first | ((with_reducible refine gate_dst (N := 4) rfl ?_); refine box_event ?hg (N := 4) ?hd (cs := #[.int .i16 a0_0, .int .i16 a0_1, .int .i16 a0_2, .int .i32 a0_3]) (t := 56) ?hr ?_; (case hd => rfl); (case hg => rfl); (case hr => first | (go_simp; done) | (go_simp; rfl)); intro gb301 hg w7 hbox hb; have n0_ := Aside0.mk (below_step (by repeat (first | (with_reducible first | exact HB.out | apply below_alloc | apply pw_below_drewN | apply below_drew1) | exact HB.out)) hb); have n1_ := Aside0.mk (hbox); have n2_ := Aside0.mk ((by rw [hg]; exact (below_size (by repeat (first | (with_reducible first | exact HB.out | apply below_alloc | apply pw_below_drewN | apply below_drew1) | exact HB.out))) : w.heap.size ≤ gb301)); have n3_ := Aside0.mk ((by rw [hg]; exact (below_size (by repeat (first | (with_reducible first | exact HB.out | apply below_alloc | apply pw_below_drewN | apply below_drew1) | exact HB.out))) : w.heap.size ≤ gb301)); clear HB; have HB := n0_; have BK301 := n1_; have GW301 := n2_; have GE301 := n3_; clear n0_ n1_ n2_ n3_; clear hb hbox hg; have hcz8_0 : w7.cell? ⟨gb301, 0, none⟩ = some (.int .i16 a0_0) := (blk_cell BK301.out 0).trans rfl; have hcz8_1 : w7.cell? ⟨gb301, 1, none⟩ = some (.int .i16 a0_1) := (blk_cell BK301.out 1).trans rfl; have hcz8_2 : w7.cell? ⟨gb301, 2, none⟩ = some (.int .i16 a0_2) := (blk_cell BK301.out 2).trans rfl; have hcz8_3 : w7.cell? ⟨gb301, 3, none⟩ = some (.int .i32 a0_3) := (blk_cell BK301.out 3).trans rfl; have hfz8_0 := blk_frozen BK301.out 0; have hfz8_1 := blk_frozen BK301.out 1; have hfz8_2 := blk_frozen BK301.out 2; have hfz8_3 := blk_frozen BK301.out 3) | (go_at_call 81; (with_reducible refine (impl_rounded.calls k a1 (wrap64 (a0_0)) (wrap64 (a0_1)) a3 t302 _ A5.out).mono ?_); rintro e w' ⟨rfl, ⟨nd, rfl⟩⟩; (try first | exact ⟨rfl, _, World.drewN_drewN _ _ _⟩ | exact ⟨rfl, _, Eq.trans (World.drewN_drewN _ _ _) (congrArg (World.drewN _) (Nat.add_assoc _ _ _))⟩))))
  go_ret
  exact ⟨by first | rfl | (simp [errW_none, errW_some] <;> rfl) | (simp only [← hji6]; first | rfl | (simp [errW_none, errW_some] <;> rfl)) | (simp [*, errW_none, errW_some] <;> rfl), by repeat (first | (with_reducible first | exact HB.out | apply below_alloc | apply pw_below_drewN | apply below_drew1 | refine below_set ?_ GE301.out) | exact HB.out)⟩

/-! ### impl_inAll: function 44 -/
def impl_inAll.l0 : Nat → List (S56) → Int → Int → List (List (S54)) → Int → Int → Option (Int)
  | 0, _, _, _, _, _, _ => none
  | k + 1, x0, x2, x7, x14, x15, x16 => if x16 < x15 then (if 0 ≤ x16 then (if x16 < (x14.length : Int) then ((impl_worth.f k (rd_L7 x14 x16)).bind fun bt307 => (if 0 < ((rd_L7 x14 x16).length : Int) then (if 0 ≤ ((rd_T54 (rd_L7 x14 x16) 0).f0) then (if ((rd_T54 (rd_L7 x14 x16) 0).f0) < (x0.length : Int) then ((impl_Class_duty.f k ((rd_T56 x0 ((rd_T54 (rd_L7 x14 x16) 0).f0)).f0) ((rd_T56 x0 ((rd_T54 (rd_L7 x14 x16) 0).f0)).f1) ((rd_T56 x0 ((rd_T54 (rd_L7 x14 x16) 0).f0)).f2) ((rd_T56 x0 ((rd_T54 (rd_L7 x14 x16) 0).f0)).f3) bt307.1 bt307.2 x2).bind fun t311 => (impl_inAll.l0 k x0 x2 (wrap64 (x7 + t311)) x14 x15 (wrap64 (x16 + 1)))) else (none)) else (none)) else (none))) else (none)) else (none)) else (some x7)
def impl_inAll.f (k : Nat) (l0 : List (S56)) (l1 : List (S54)) (a2 : Int) : Option (Int) := (impl_byClass.f k l0 l1).bind fun t303 => (impl_inAll.l0 k l0 a2 0 t303 (t303.length : Int) 0)
theorem impl_inAll.mono_l : ∀ k, (∀ y0 y1 y2 y3 y4 y5, LeO (impl_inAll.l0 k y0 y1 y2 y3 y4 y5) (impl_inAll.l0 (k + 1) y0 y1 y2 y3 y4 y5))
  | 0 => fun _ _ _ _ _ _ r h => by simp [impl_inAll.l0] at h
  | k + 1 => by
    have ih0 := impl_inAll.mono_l k
    · intro y0 y1 y2 y3 y4 y5
      unfold impl_inAll.l0
      repeat' first
      | (with_reducible exact ih0 _ _ _ _ _ _)
      | (with_reducible exact impl_Class_duty.mono _ _ _ _ _ _ _ _)
      | (with_reducible exact impl_byClass.mono _ _ _)
      | (with_reducible exact impl_worth.mono _ _)
      | (with_reducible exact LeO.refl _)
      | (with_reducible exact LeO.none _)
      | (with_reducible refine LeO.ite ?_ ?_)
      | (with_reducible refine LeO.bind ?_ (fun _ => ?_))
      | exact ih0 _ _ _ _ _ _
      | exact impl_Class_duty.mono _ _ _ _ _ _ _ _
      | exact impl_byClass.mono _ _ _
      | exact impl_worth.mono _ _
      | exact LeO.none _
      | refine LeO.ite ?_ ?_
      | refine LeO.bind ?_ (fun _ => ?_)
theorem impl_inAll.mono : ∀ a0 a1 a2 k, LeO (impl_inAll.f k a0 a1 a2) (impl_inAll.f (k + 1) a0 a1 a2) := by
  intro a0 a1 a2 k
  have ih0 := impl_inAll.mono_l k
  unfold impl_inAll.f
  repeat' first
      | (with_reducible exact ih0 _ _ _ _ _ _)
      | (with_reducible exact impl_Class_duty.mono _ _ _ _ _ _ _ _)
      | (with_reducible exact impl_byClass.mono _ _ _)
      | (with_reducible exact impl_worth.mono _ _)
      | (with_reducible exact LeO.refl _)
      | (with_reducible exact LeO.none _)
      | (with_reducible refine LeO.ite ?_ ?_)
      | (with_reducible refine LeO.bind ?_ (fun _ => ?_))
      | exact ih0 _ _ _ _ _ _
      | exact impl_Class_duty.mono _ _ _ _ _ _ _ _
      | exact impl_byClass.mono _ _ _
      | exact impl_worth.mono _ _
      | exact LeO.none _
      | refine LeO.ite ?_ ?_
      | refine LeO.bind ?_ (fun _ => ?_)
set_option maxHeartbeats 8000000 in
set_option maxRecDepth 100000 in
theorem impl_inAll.calls (k : Nat) (A0 : Option Addr) (c0 : Nat) (l0 : List (S56)) (A1 : Option Addr) (c1 : Nat) (l1 : List (S54)) (a2 : Int) (r : Int) (w : World) (hr0 : Kd.C k56 w A0 l0.length l0) (hc0 : l0.length ≤ c0) (hr1 : Kd.C k54 w A1 l1.length l1) (hc1 : l1.length ≤ c1) (h : impl_inAll.f k l0 l1 a2 = some r) :
    Calls Try.prog 44 #[.slice A0 l0.length c0, .slice A1 l1.length c1, .int .i64 a2] w fun e w' => e = .returned (.int .i64 r) ∧ Below w.heap.size w w' := by
  have hu56 := Try.underlying56
  have HR0 := Aside0.mk hr0
  have HC0 := Aside0.mk hc0
  clear hr0 hc0
  have HR1 := Aside0.mk hr1
  have HC1 := Aside0.mk hc1
  clear hr1 hc1
  have HB := Aside0.mk (Below.refl w.heap.size w)
  have H : ((impl_byClass.f k l0 l1).bind fun t303 => (impl_inAll.l0 k l0 a2 0 t303 (t303.length : Int) 0)) = some r := h
  clear h
  replace H := Option.bind_eq_some_iff.mp H
  obtain ⟨t303, A40, H⟩ := H
  replace H : (impl_inAll.l0 k l0 a2 0 t303 (t303.length : Int) 0) = some r := H
  have A4 := Aside0.mk A40
  clear A40
  have H' := Aside0.mk H
  clear H
  go_enter Try.func44, Try.ntmps44
  go_wp2_with (first | ((with_reducible refine gate_callee (f := 36) rfl ?_); refine goesL_ (some 14) rfl rfl Try.func36 (by kernel_rfl) rfl #[.slice A0 l0.length c0, .slice A1 l1.length c1] rfl (by (try simp only [List.map_toArray, List.map_cons, List.map_nil]); first | done | rfl | (simp only [List.length_drop, List.length_take]; rfl)) ?_; (with_reducible refine (impl_byClass.calls k _ _ l0 _ _ l1 t303 _ ?side1 ?side2 ?side3 ?side4 A4.out).mono ?_); (case side1 => repeat (first | exact HR0.out | (with_reducible refine Kd.C_alloc ?_ _) | (with_reducible refine Kd.C_drewN ?_ _) | (with_reducible refine Kd.C_drew ?_))); (case side2 => exact HC0.out); (case side3 => repeat (first | exact HR1.out | (with_reducible refine Kd.C_alloc ?_ _) | (with_reducible refine Kd.C_drewN ?_ _) | (with_reducible refine Kd.C_drew ?_))); (case side4 => exact HC1.out); rintro e w5 ⟨v304, rfl, ho0, hb⟩; refine ⟨_, rfl, ?_⟩; have n0_ := Aside0.mk (Kd.S_lower ho0 (below_size (by repeat (first | (with_reducible first | exact HB.out | apply below_alloc | apply pw_below_drewN | apply below_drew1) | exact HB.out)))); have n1_ := Aside0.mk (below_step (by repeat (first | (with_reducible first | exact HB.out | apply below_alloc | apply pw_below_drewN | apply below_drew1) | exact HB.out)) hb); clear HB; have HO305 := n0_; have HB := n1_; clear n0_ n1_; (try clear hb); (try clear hb2); (try clear hk); (try clear hi); (try clear ho0); obtain ⟨Ao6, co6, eo6⟩ := Kd.S_slice HO305.out; subst eo6))
  go_loopg [7, 16] k (fun kq v7 v16 w' => ∃ (x7_1 : Int) (x16_1 : Int), v7 = .int .i64 x7_1 ∧ v16 = .int .i64 x16_1 ∧ Aside0 (impl_inAll.l0 kq l0 a2 x7_1 t303 (t303.length : Int) x16_1 = some r) ∧ Aside0 (kq ≤ k) ∧ Aside0 (Kd.S (Kd.slice 54 k54) 26 w' w.heap.size (fun _ => True) (.slice Ao6 t303.length co6) t303) ∧ Aside0 (Below w.heap.size w w'))
  case atStart => exact ⟨(0), (0), (by first | rfl | (simp; done) | (simp [*]; done)), (by first | rfl | (simp; done) | (simp [*]; done)), H', ⟨Nat.le_refl _⟩, ⟨by (with_reducible repeat (first | apply Kd.S_alloc | apply Kd.S_drewN | apply Kd.S_drew)); exact HO305.out⟩, ⟨by repeat (first | (with_reducible first | exact HB.out | apply below_alloc | apply pw_below_drewN | apply below_drew1) | exact HB.out)⟩⟩
  case round =>
    clear H'
    try clear c1
    try clear p2
    try clear c3
    try clear c4
    obtain ⟨x7_1, x16_1, rfl, rfl, HA, HK1, HO_14, HB⟩ := hrel
    cases gk with
    | zero => exact absurd HA.out (by simp [impl_inAll.l0])
    | succ k1 =>
      have H := HA.out
      clear HA
      simp only [impl_inAll.l0] at H
      by_cases c7 : x16_1 < (t303.length : Int)
      · rw [if_pos c7] at H
        have c7b0 : decide (x16_1 < (t303.length : Int)) = true := decide_eq_true c7
        clear c7
        by_cases c8 : 0 ≤ x16_1
        · rw [if_pos c8] at H
          have c8b0 : decide (0 ≤ x16_1) = true := decide_eq_true c8
          clear c8
          by_cases c9 : x16_1 < (t303.length : Int)
          · rw [if_pos c9] at H
            have c9b0 : decide (x16_1 < (t303.length : Int)) = true := decide_eq_true c9
            clear c9
            replace H := Option.bind_eq_some_iff.mp H
            obtain ⟨⟨t307, t308⟩, A100, H⟩ := H
            replace H : (if 0 < ((rd_L7 t303 x16_1).length : Int) then (if 0 ≤ ((rd_T54 (rd_L7 t303 x16_1) 0).f0) then (if ((rd_T54 (rd_L7 t303 x16_1) 0).f0) < (l0.length : Int) then ((impl_Class_duty.f k1 ((rd_T56 l0 ((rd_T54 (rd_L7 t303 x16_1) 0).f0)).f0) ((rd_T56 l0 ((rd_T54 (rd_L7 t303 x16_1) 0).f0)).f1) ((rd_T56 l0 ((rd_T54 (rd_L7 t303 x16_1) 0).f0)).f2) ((rd_T56 l0 ((rd_T54 (rd_L7 t303 x16_1) 0).f0)).f3) t307 t308 a2).bind fun t311 => (impl_inAll.l0 k1 l0 a2 (wrap64 (x7_1 + t311)) t303 (t303.length : Int) (wrap64 (x16_1 + 1)))) else (none)) else (none)) else (none)) = some r := H
            have A10 := Aside0.mk A100
            clear A100
            by_cases c11 : 0 < ((rd_L7 t303 x16_1).length : Int)
            · rw [if_pos c11] at H
              have c11b0 : decide (0 < ((rd_L7 t303 x16_1).length : Int)) = true := decide_eq_true c11
              have c11b1 : decide (0 < (rd_L7 t303 x16_1).length) = true := decide_eq_true (by omega)
              clear c11
              by_cases c12 : 0 ≤ ((rd_T54 (rd_L7 t303 x16_1) 0).f0)
              · rw [if_pos c12] at H
                have c12b0 : decide (0 ≤ ((rd_T54 (rd_L7 t303 x16_1) 0).f0)) = true := decide_eq_true c12
                clear c12
                by_cases c13 : ((rd_T54 (rd_L7 t303 x16_1) 0).f0) < (l0.length : Int)
                · rw [if_pos c13] at H
                  have c13b0 : decide (((rd_T54 (rd_L7 t303 x16_1) 0).f0) < (l0.length : Int)) = true := decide_eq_true c13
                  clear c13
                  replace H := Option.bind_eq_some_iff.mp H
                  obtain ⟨t311, A140, H⟩ := H
                  replace H : (impl_inAll.l0 k1 l0 a2 (wrap64 (x7_1 + t311)) t303 (t303.length : Int) (wrap64 (x16_1 + 1))) = some r := H
                  have A14 := Aside0.mk A140
                  clear A140
                  have H' := Aside0.mk H
                  clear H
                  have p306 : 0 ≤ (x16_1 : Int) := of_decide_eq_true (by first | (with_reducible assumption) | assumption)
                  have q306 : x16_1 < (t303.length : Int) := of_decide_eq_true (by first | (with_reducible assumption) | assumption)
                  obtain ⟨ad306, A306_0, c306_0, e306, hx306_0, hl306_0, hi306_0⟩ := at_L7 (Kd.S_reads' HO_14.out).2.2 x16_1 p306 q306
                  cases e306
                  obtain ⟨ce306, hce306, hMe306, hcc306⟩ := Kd.S_get HO_14.out [] x16_1 p306 (by first | exact q306 | exact of_decide_eq_true (by first | (with_reducible assumption) | assumption) | (have e_ := (Kd.S_reads' HO_14.out).1; omega))
                  obtain ⟨ve306_0, rfl, ge306_0⟩ := hMe306
                  have hv306_0 := hcc306 0 _ rfl
                  rw [Nat.add_zero, show ((Kd.slice 54 k54)).sz = 1 from rfl, Nat.mul_one] at hv306_0
                  replace hv306_0 := Option.some.inj (hv306_0.symm.trans hx306_0)
                  rw [hv306_0] at ge306_0
                  have HL306_0 := Aside0.mk (show Kd.R k54 54 _ _ _ _ (rd_L7 t303 x16_1) from ge306_0)
                  clear hv306_0 ge306_0
                  clear hcc306 hce306
                  have HR306_0 := Aside0.mk hi306_0
                  have HC306_0 := Aside0.mk hl306_0
                  clear hi306_0 hl306_0
                  replace p306 := eq_true p306
                  replace q306 := eq_true q306
                  go_wp2_with (first | ((with_reducible refine gate_callee (f := 37) rfl ?_); refine goesL_ (some 22) rfl rfl Try.func37 (by kernel_rfl) rfl #[.slice A306_0 (rd_L7 t303 x16_1).length c306_0] rfl (by (try simp only [List.map_toArray, List.map_cons, List.map_nil]); first | done | rfl | (simp only [List.length_drop, List.length_take]; rfl)) ?_; (with_reducible refine (impl_worth.calls k1 _ _ (rd_L7 t303 x16_1) t307 t308 _ ?side1 ?side2 A10.out).mono ?_); (case side1 => repeat (first | exact (by repeat (first | (with_reducible exact HR306_0.out) | (with_reducible refine Kd.C_alloc ?_ _) | (with_reducible refine Kd.C_drewN ?_ _) | (with_reducible refine Kd.C_drew ?_) | exact HR306_0.out)) | (with_reducible refine Kd.C_alloc ?_ _) | (with_reducible refine Kd.C_drewN ?_ _) | (with_reducible refine Kd.C_drew ?_))); (case side2 => exact HC306_0.out); rintro e w15 ⟨rfl, hb⟩; refine ⟨_, rfl, ?_⟩; have n0_ := Aside0.mk (Kd.S_below (by (with_reducible repeat (first | apply Kd.S_alloc | apply Kd.S_drewN | apply Kd.S_drew)); exact HO_14.out) hb); have n1_ := Aside0.mk (Kd.R_below (by (with_reducible repeat (first | apply Kd.R_alloc | apply Kd.R_drewN | apply Kd.R_drew)); exact HL306_0.out) hb); have n2_ := Aside0.mk (Kd.C_below (by repeat (first | (with_reducible exact HR306_0.out) | (with_reducible refine Kd.C_alloc ?_ _) | (with_reducible refine Kd.C_drewN ?_ _) | (with_reducible refine Kd.C_drew ?_) | exact HR306_0.out)) hb); have n3_ := Aside0.mk (below_step (by repeat (first | (with_reducible first | exact HB.out | apply below_alloc | apply pw_below_drewN | apply below_drew1) | exact HB.out)) hb); clear HO_14; clear HL306_0; clear HR306_0; clear HB; have HO_14 := n0_; have HL306_0 := n1_; have HR306_0 := n2_; have HB := n3_; clear n0_ n1_ n2_ n3_; (try clear hb); (try clear hb2); (try clear hk); (try clear hi); have p309 : 0 ≤ (0 : Int) := (by omega); have q309 : 0 < ((rd_L7 t303 x16_1).length : Int) := of_decide_eq_true (by first | (with_reducible assumption) | assumption); obtain ⟨ad309, e309, hx309_0, hx309_1, hx309_2, hx309_3⟩ := at_T54 (by repeat (first | (with_reducible exact HR306_0.out) | (with_reducible refine Kd.C_alloc ?_ _) | (with_reducible refine Kd.C_drewN ?_ _) | (with_reducible refine Kd.C_drew ?_) | exact HR306_0.out)) 0 p309 q309; cases e309; have qi309 : (0 < (rd_L7 t303 x16_1).length) = True := eq_true (by omega); (try rw [show ((0 : Int)).toNat = 0 from rfl] at hx309_0); (try rw [show 0 * 4 = 0 from rfl] at hx309_0); (try rw [Addr.add_zero'] at hx309_0); (try rw [show ((0 : Int)).toNat = 0 from rfl] at hx309_1); (try rw [show 0 * 4 = 0 from rfl] at hx309_1); (try rw [Addr.add_zero'] at hx309_1); (try rw [show ((0 : Int)).toNat = 0 from rfl] at hx309_2); (try rw [show 0 * 4 = 0 from rfl] at hx309_2); (try rw [Addr.add_zero'] at hx309_2); (try rw [show ((0 : Int)).toNat = 0 from rfl] at hx309_3); (try rw [show 0 * 4 = 0 from rfl] at hx309_3); (try rw [Addr.add_zero'] at hx309_3); replace p309 := eq_true p309; replace q309 := eq_true q309; have p310 : 0 ≤ (((rd_T54 (rd_L7 t303 x16_1) 0).f0) : Int) := of_decide_eq_true (by first | (with_reducible assumption) | assumption); have q310 : ((rd_T54 (rd_L7 t303 x16_1) 0).f0) < (l0.length : Int) := of_decide_eq_true (by first | (with_reducible assumption) | assumption); obtain ⟨ad310, e310, hx310_0, hx310_1, hx310_2, hx310_3⟩ := at_T56 HR0.out ((rd_T54 (rd_L7 t303 x16_1) 0).f0) p310 q310; cases e310; replace hx310_0 := (HB.out.cell (World.block_lt_of_cell? w _ hx310_0)).trans hx310_0; replace hx310_1 := (HB.out.cell (World.block_lt_of_cell? w _ hx310_1)).trans hx310_1; replace hx310_2 := (HB.out.cell (World.block_lt_of_cell? w _ hx310_2)).trans hx310_2; replace hx310_3 := (HB.out.cell (World.block_lt_of_cell? w _ hx310_3)).trans hx310_3; replace p310 := eq_true p310; replace q310 := eq_true q310) | ((with_reducible refine gate_callee (f := 70) rfl ?_); refine goesL_ (some 36) rfl rfl Try.func70 (by kernel_rfl) rfl #[.agg #[.int .i16 ((rd_T56 l0 ((rd_T54 (rd_L7 t303 x16_1) 0).f0)).f0), .int .i16 ((rd_T56 l0 ((rd_T54 (rd_L7 t303 x16_1) 0).f0)).f1), .int .i16 ((rd_T56 l0 ((rd_T54 (rd_L7 t303 x16_1) 0).f0)).f2), .int .i32 ((rd_T56 l0 ((rd_T54 (rd_L7 t303 x16_1) 0).f0)).f3)], .int .i64 t307, .int .i64 t308, .int .i64 a2] rfl (by (try simp only [List.map_toArray, List.map_cons, List.map_nil]); first | done | rfl | (simp only [List.length_drop, List.length_take]; rfl)) ?_; (with_reducible refine (impl_Class_duty.calls k1 ((rd_T56 l0 ((rd_T54 (rd_L7 t303 x16_1) 0).f0)).f0) ((rd_T56 l0 ((rd_T54 (rd_L7 t303 x16_1) 0).f0)).f1) ((rd_T56 l0 ((rd_T54 (rd_L7 t303 x16_1) 0).f0)).f2) ((rd_T56 l0 ((rd_T54 (rd_L7 t303 x16_1) 0).f0)).f3) t307 t308 a2 t311 _ A14.out).mono ?_); rintro e w16 ⟨rfl, hb⟩; refine ⟨_, rfl, ?_⟩; have n0_ := Aside0.mk (Kd.S_below (by (with_reducible repeat (first | apply Kd.S_alloc | apply Kd.S_drewN | apply Kd.S_drew)); exact HO_14.out) hb); have n1_ := Aside0.mk (Kd.R_below (by (with_reducible repeat (first | apply Kd.R_alloc | apply Kd.R_drewN | apply Kd.R_drew)); exact HL306_0.out) hb); have n2_ := Aside0.mk (Kd.C_below (by repeat (first | (with_reducible exact HR306_0.out) | (with_reducible refine Kd.C_alloc ?_ _) | (with_reducible refine Kd.C_drewN ?_ _) | (with_reducible refine Kd.C_drew ?_) | exact HR306_0.out)) hb); have n3_ := Aside0.mk (below_step (by repeat (first | (with_reducible first | exact HB.out | apply below_alloc | apply pw_below_drewN | apply below_drew1) | exact HB.out)) hb); clear HO_14; clear HL306_0; clear HR306_0; clear HB; have HO_14 := n0_; have HL306_0 := n1_; have HR306_0 := n2_; have HB := n3_; clear n0_ n1_ n2_ n3_; (try clear hb); (try clear hb2); (try clear hk); (try clear hi)))
                  go_roundg k1
                  case measure => have := HK1.out; omega
                  case rel => exact ⟨(wrap64 (x7_1 + t311)), (wrap64 (x16_1 + 1)), (by first | rfl | (simp; done) | (simp [*]; done)), (by first | rfl | (simp; done) | (simp [*]; done)), H', ⟨by have := HK1.out; omega⟩, ⟨by (with_reducible repeat (first | apply Kd.S_alloc | apply Kd.S_drewN | apply Kd.S_drew)); exact HO_14.out⟩, ⟨by repeat (first | (with_reducible first | exact HB.out | apply below_alloc | apply pw_below_drewN | apply below_drew1) | exact HB.out)⟩⟩
                · rw [if_neg c13] at H
                  exact absurd H (by simp)
              · rw [if_neg c12] at H
                exact absurd H (by simp)
            · rw [if_neg c11] at H
              exact absurd H (by simp)
          · rw [if_neg c9] at H
            exact absurd H (by simp)
        · rw [if_neg c8] at H
          exact absurd H (by simp)
      · rw [if_neg c7] at H
        have c7b0 : decide (x16_1 < (t303.length : Int)) = false := decide_eq_false c7
        clear c7
        obtain rfl := Option.some.inj H
        go_wp2
        go_ret
        exact ⟨by first | rfl | (simp [errW_none, errW_some] <;> rfl) | (simp [*, errW_none, errW_some] <;> rfl), by repeat (first | (with_reducible first | exact HB.out | apply below_alloc | apply pw_below_drewN | apply below_drew1) | exact HB.out)⟩

end Go.Proofs.Ytnefepgfmmnbpaa.Q
