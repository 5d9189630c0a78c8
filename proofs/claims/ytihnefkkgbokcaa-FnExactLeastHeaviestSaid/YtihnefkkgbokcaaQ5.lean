-- made by wip/tools/mk.py of this session's repo, by way of the kit's print.py: Lean checks it.
import Derived.Test.YtihnefkkgbokcaaQ0
import Derived.Test.YtihnefkkgbokcaaQ4
namespace Go.Proofs.Ytihnefkkgbokcaa.Q
open Go.RowKit Go.Proofs.YtihnefkkgbokcaaW.PrintWords Go.Proofs.YtihnefkkgbokcaaW.PrintLast Go.Proofs.YtihnefkkgbokcaaW.PrintMore Go.Proofs.YtihnefkkgbokcaaMine
attribute [local go_sem] max2_int min2_int max_two min_two max_three min_three max_four min_four   -- for this text's walks alone
set_option linter.unusedVariables false
set_option linter.unusedSimpArgs false

/-! ### impl_weightAt: function 100 -/
def impl_weightAt.l0 : Nat → Int → Int → List (S82) → Int → Int → Option (Int)
  | 0, _, _, _, _, _ => none
  | k + 1, x1, x5, x8, x9, x10 => if x10 < x9 then (if 0 ≤ x10 then (if x10 < (x8.length : Int) then ((impl_bit.f ((wrap64 ((rd_T82 x8 x10).f0)) == x1)).bind fun t290 => (impl_weightAt.l0 k x1 (wrap64 (x5 + (wrap64 ((wrap64 ((rd_T82 x8 x10).f1)) * t290)))) x8 x9 (wrap64 (x10 + 1)))) else (none)) else (none)) else (some x5)
def impl_weightAt.f (k : Nat) (l0 : List (S82)) (a1 : Int) : Option (Int) := impl_weightAt.l0 k a1 0 l0 (l0.length : Int) 0
theorem impl_weightAt.mono_l : ∀ k, (∀ y0 y1 y2 y3 y4, LeO (impl_weightAt.l0 k y0 y1 y2 y3 y4) (impl_weightAt.l0 (k + 1) y0 y1 y2 y3 y4))
  | 0 => fun _ _ _ _ _ r h => by simp [impl_weightAt.l0] at h
  | k + 1 => by
    have ih0 := impl_weightAt.mono_l k
    · intro y0 y1 y2 y3 y4
      unfold impl_weightAt.l0
      repeat' first
      | (with_reducible exact ih0 _ _ _ _ _)
      | (with_reducible exact LeO.refl _)
      | (with_reducible exact LeO.none _)
      | (with_reducible refine LeO.ite ?_ ?_)
      | (with_reducible refine LeO.bind ?_ (fun _ => ?_))
      | exact ih0 _ _ _ _ _
      | exact LeO.none _
      | refine LeO.ite ?_ ?_
      | refine LeO.bind ?_ (fun _ => ?_)
theorem impl_weightAt.mono : ∀ a0 a1 k, LeO (impl_weightAt.f k a0 a1) (impl_weightAt.f (k + 1) a0 a1) := by
  intro a0 a1 k
  have ih0 := impl_weightAt.mono_l k
  unfold impl_weightAt.f
  repeat' first
      | (with_reducible exact ih0 _ _ _ _ _)
      | (with_reducible exact LeO.refl _)
      | (with_reducible exact LeO.none _)
      | (with_reducible refine LeO.ite ?_ ?_)
      | (with_reducible refine LeO.bind ?_ (fun _ => ?_))
      | exact ih0 _ _ _ _ _
      | exact LeO.none _
      | refine LeO.ite ?_ ?_
      | refine LeO.bind ?_ (fun _ => ?_)
set_option maxHeartbeats 8000000 in
set_option maxRecDepth 100000 in
theorem impl_weightAt.calls (k : Nat) (A0 : Option Addr) (c0 : Nat) (l0 : List (S82)) (a1 : Int) (r : Int) (w : World) (hr0 : Kd.C k82 w A0 l0.length l0) (hc0 : l0.length ≤ c0) (h : impl_weightAt.f k l0 a1 = some r) :
    Calls Try.prog 100 #[.slice A0 l0.length c0, .int .i64 a1] w fun e w' => e = .returned (.int .i64 r) ∧ Below w.heap.size w w' := by
  have hu82 := Try.underlying82
  have HR0 := Aside0.mk hr0
  have HC0 := Aside0.mk hc0
  clear hr0 hc0
  have HB := Aside0.mk (Below.refl w.heap.size w)
  have H : (impl_weightAt.l0 k a1 0 l0 (l0.length : Int) 0) = some r := h
  clear h
  have H' := Aside0.mk H
  clear H
  go_enter Try.func100, Try.ntmps100
  go_wp2
  repeat (go_quiet (fail); try go_wp2)
  go_loopg [5, 10] k (fun kq v5 v10 w' => ∃ (x5_1 : Int) (x10_1 : Int), v5 = .int .i64 x5_1 ∧ v10 = .int .i64 x10_1 ∧ Aside0 (impl_weightAt.l0 kq a1 x5_1 l0 (l0.length : Int) x10_1 = some r) ∧ Aside0 (kq ≤ k) ∧ Aside0 (Below w.heap.size w w'))
  case atStart => exact ⟨(0), (0), (by first | rfl | (simp; done) | (simp [*]; done)), (by first | rfl | (simp; done) | (simp [*]; done)), H', ⟨Nat.le_refl _⟩, ⟨by repeat (first | (with_reducible first | exact HB.out | apply below_alloc | apply pw_below_drewN | apply below_drew1) | exact HB.out)⟩⟩
  case round =>
    clear H'
    try clear c1
    try clear p2
    obtain ⟨x5_1, x10_1, rfl, rfl, HA, HK1, HB⟩ := hrel
    cases gk with
    | zero => exact absurd HA.out (by simp [impl_weightAt.l0])
    | succ k1 =>
      have H := HA.out
      clear HA
      simp only [impl_weightAt.l0] at H
      by_cases c3 : x10_1 < (l0.length : Int)
      · rw [if_pos c3] at H
        have c3b0 : decide (x10_1 < (l0.length : Int)) = true := decide_eq_true c3
        clear c3
        by_cases c4 : 0 ≤ x10_1
        · rw [if_pos c4] at H
          have c4b0 : decide (0 ≤ x10_1) = true := decide_eq_true c4
          clear c4
          by_cases c5 : x10_1 < (l0.length : Int)
          · rw [if_pos c5] at H
            have c5b0 : decide (x10_1 < (l0.length : Int)) = true := decide_eq_true c5
            clear c5
            replace H := Option.bind_eq_some_iff.mp H
            obtain ⟨t290, A60, H⟩ := H
            replace H : (impl_weightAt.l0 k1 a1 (wrap64 (x5_1 + (wrap64 ((wrap64 ((rd_T82 l0 x10_1).f1)) * t290)))) l0 (l0.length : Int) (wrap64 (x10_1 + 1))) = some r := H
            have A6 := Aside0.mk A60
            clear A60
            have H' := Aside0.mk H
            clear H
            have p288 : 0 ≤ (x10_1 : Int) := of_decide_eq_true (by first | (with_reducible assumption) | assumption)
            have q288 : x10_1 < (l0.length : Int) := of_decide_eq_true (by first | (with_reducible assumption) | assumption)
            obtain ⟨ad288, e288, hx288_0, hx288_1⟩ := at_T82 HR0.out x10_1 p288 q288
            cases e288
            replace hx288_0 := (HB.out.cell (World.block_lt_of_cell? w _ hx288_0)).trans hx288_0
            replace hx288_1 := (HB.out.cell (World.block_lt_of_cell? w _ hx288_1)).trans hx288_1
            replace p288 := eq_true p288
            replace q288 := eq_true q288
            go_wp2_with (first | ((with_reducible refine gate_dst (N := 7) rfl ?_); refine box_event ?hg (N := 7) ?hd (cs := #[.int .i8 0, .int .i16 0]) (t := 82) ?hr ?_; (case hd => rfl); (case hg => rfl); (case hr => first | (go_simp; done) | (go_simp; rfl)); intro gb289 hg w7 hbox hb; have n0_ := Aside0.mk (below_step (by repeat (first | (with_reducible first | exact HB.out | apply below_alloc | apply pw_below_drewN | apply below_drew1) | exact HB.out)) hb); have n1_ := Aside0.mk (hbox); have n2_ := Aside0.mk ((by rw [hg]; exact (below_size (by repeat (first | (with_reducible first | exact HB.out | apply below_alloc | apply pw_below_drewN | apply below_drew1) | exact HB.out))) : w.heap.size ≤ gb289)); have n3_ := Aside0.mk ((by rw [hg]; exact (below_size (by repeat (first | (with_reducible first | exact HB.out | apply below_alloc | apply pw_below_drewN | apply below_drew1) | exact HB.out))) : w.heap.size ≤ gb289)); clear HB; have HB := n0_; have BK289 := n1_; have GW289 := n2_; have GE289 := n3_; clear n0_ n1_ n2_ n3_; clear hb hbox hg; have hcz8_0 : w7.cell? ⟨gb289, 0, none⟩ = some (.int .i8 0) := (blk_cell BK289.out 0).trans rfl; have hcz8_1 : w7.cell? ⟨gb289, 1, none⟩ = some (.int .i16 0) := (blk_cell BK289.out 1).trans rfl; have hfz8_0 := blk_frozen BK289.out 0; have hfz8_1 := blk_frozen BK289.out 1) | (go_at_call 88; (with_reducible refine (impl_bit.calls ((wrap64 ((rd_T82 l0 x10_1).f0)) == a1) t290 _ A6.out).mono ?_); rintro e w' ⟨rfl, ⟨nd, rfl⟩⟩; (try first | exact ⟨rfl, _, World.drewN_drewN _ _ _⟩ | exact ⟨rfl, _, Eq.trans (World.drewN_drewN _ _ _) (congrArg (World.drewN _) (Nat.add_assoc _ _ _))⟩)))
            repeat (go_quiet (first | ((with_reducible refine gate_dst (N := 7) rfl ?_); refine box_event ?hg (N := 7) ?hd (cs := #[.int .i8 0, .int .i16 0]) (t := 82) ?hr ?_; (case hd => rfl); (case hg => rfl); (case hr => first | (go_simp; done) | (go_simp; rfl)); intro gb289 hg w7 hbox hb; have n0_ := Aside0.mk (below_step (by repeat (first | (with_reducible first | exact HB.out | apply below_alloc | apply pw_below_drewN | apply below_drew1) | exact HB.out)) hb); have n1_ := Aside0.mk (hbox); have n2_ := Aside0.mk ((by rw [hg]; exact (below_size (by repeat (first | (with_reducible first | exact HB.out | apply below_alloc | apply pw_below_drewN | apply below_drew1) | exact HB.out))) : w.heap.size ≤ gb289)); have n3_ := Aside0.mk ((by rw [hg]; exact (below_size (by repeat (first | (with_reducible first | exact HB.out | apply below_alloc | apply pw_below_drewN | apply below_drew1) | exact HB.out))) : w.heap.size ≤ gb289)); clear HB; have HB := n0_; have BK289 := n1_; have GW289 := n2_; have GE289 := n3_; clear n0_ n1_ n2_ n3_; clear hb hbox hg; have hcz8_0 : w7.cell? ⟨gb289, 0, none⟩ = some (.int .i8 0) := (blk_cell BK289.out 0).trans rfl; have hcz8_1 : w7.cell? ⟨gb289, 1, none⟩ = some (.int .i16 0) := (blk_cell BK289.out 1).trans rfl; have hfz8_0 := blk_frozen BK289.out 0; have hfz8_1 := blk_frozen BK289.out 1) | (go_at_call 88; (with_reducible refine (impl_bit.calls ((wrap64 ((rd_T82 l0 x10_1).f0)) == a1) t290 _ A6.out).mono ?_); rintro e w' ⟨rfl, ⟨nd, rfl⟩⟩; (try first | exact ⟨rfl, _, World.drewN_drewN _ _ _⟩ | exact ⟨rfl, _, Eq.trans (World.drewN_drewN _ _ _) (congrArg (World.drewN _) (Nat.add_assoc _ _ _))⟩))); try go_wp2_with (first | ((with_reducible refine gate_dst (N := 7) rfl ?_); refine box_event ?hg (N := 7) ?hd (cs := #[.int .i8 0, .int .i16 0]) (t := 82) ?hr ?_; (case hd => rfl); (case hg => rfl); (case hr => first | (go_simp; done) | (go_simp; rfl)); intro gb289 hg w7 hbox hb; have n0_ := Aside0.mk (below_step (by repeat (first | (with_reducible first | exact HB.out | apply below_alloc | apply pw_below_drewN | apply below_drew1) | exact HB.out)) hb); have n1_ := Aside0.mk (hbox); have n2_ := Aside0.mk ((by rw [hg]; exact (below_size (by repeat (first | (with_reducible first | exact HB.out | apply below_alloc | apply pw_below_drewN | apply below_drew1) | exact HB.out))) : w.heap.size ≤ gb289)); have n3_ := Aside0.mk ((by rw [hg]; exact (below_size (by repeat (first | (with_reducible first | exact HB.out | apply below_alloc | apply pw_below_drewN | apply below_drew1) | exact HB.out))) : w.heap.size ≤ gb289)); clear HB; have HB := n0_; have BK289 := n1_; have GW289 := n2_; have GE289 := n3_; clear n0_ n1_ n2_ n3_; clear hb hbox hg; have hcz8_0 : w7.cell? ⟨gb289, 0, none⟩ = some (.int .i8 0) := (blk_cell BK289.out 0).trans rfl; have hcz8_1 : w7.cell? ⟨gb289, 1, none⟩ = some (.int .i16 0) := (blk_cell BK289.out 1).trans rfl; have hfz8_0 := blk_frozen BK289.out 0; have hfz8_1 := blk_frozen BK289.out 1) | (go_at_call 88; (with_reducible refine (impl_bit.calls ((wrap64 ((rd_T82 l0 x10_1).f0)) == a1) t290 _ A6.out).mono ?_); rintro e w' ⟨rfl, ⟨nd, rfl⟩⟩; (try first | exact ⟨rfl, _, World.drewN_drewN _ _ _⟩ | exact ⟨rfl, _, Eq.trans (World.drewN_drewN _ _ _) (congrArg (World.drewN _) (Nat.add_assoc _ _ _))⟩))))
            go_roundg k1
            case measure => have := HK1.out; omega
            case rel => exact ⟨(wrap64 (x5_1 + (wrap64 ((wrap64 ((rd_T82 l0 x10_1).f1)) * t290)))), (wrap64 (x10_1 + 1)), (by first | rfl | (simp; done) | (simp [*]; done)), (by first | rfl | (simp; done) | (simp [*]; done)), H', ⟨by have := HK1.out; omega⟩, ⟨by repeat (first | (with_reducible first | exact HB.out | apply below_alloc | apply pw_below_drewN | apply below_drew1 | refine below_set ?_ GE289.out) | exact HB.out)⟩⟩
          · rw [if_neg c5] at H
            exact absurd H (by simp)
        · rw [if_neg c4] at H
          exact absurd H (by simp)
      · rw [if_neg c3] at H
        have c3b0 : decide (x10_1 < (l0.length : Int)) = false := decide_eq_false c3
        clear c3
        obtain rfl := Option.some.inj H
        go_wp2
        repeat (go_quiet (fail); try go_wp2)
        go_ret
        exact ⟨by first | rfl | (simp [errW_none, errW_some] <;> rfl) | (simp [*, errW_none, errW_some] <;> rfl), by repeat (first | (with_reducible first | exact HB.out | apply below_alloc | apply pw_below_drewN | apply below_drew1) | exact HB.out)⟩

/-! ### impl_bagged: function 71 -/
theorem zeroMap2 (w : World) : (zeroValue 2).run Try.prog w = .ok (.int .i64 0) w := by kernel_rfl
def impl_bagged.l0 : Nat → List (S82) → Int → List (Int × Int) → Int → Int → List Int → Int → Int → Option (List (Int × Int) × Int × Bool)
  | 0, _, _, _, _, _, _, _, _ => none
  | k + 1, x0, x1, x7, x8, x9, x16, x17, x18 => if x18 < x17 then (if 0 ≤ x18 then (if x18 < (x16.length : Int) then ((impl_weightAt.f k x0 (rd x16 x18)).bind fun t298 => (if t298 > x1 then (some (([] : List (Int × Int)), 0, false)) else (if t298 > (wrap64 (x1 - x9)) then (if (x7.length < 17592186044416 ∧ (-9223372036854775808 ≤ (rd x16 x18) ∧ (rd x16 x18) ≤ 9223372036854775807)) then (impl_bagged.l0 k x0 x1 (x7 ++ [(rd x16 x18, wrap64 ((wrap64 (x8 + 1)) - 1))]) (wrap64 (x8 + 1)) (wrap64 (0 + t298)) x16 x17 (wrap64 (x18 + 1))) else (none)) else (if (x7.length < 17592186044416 ∧ (-9223372036854775808 ≤ (rd x16 x18) ∧ (rd x16 x18) ≤ 9223372036854775807)) then (impl_bagged.l0 k x0 x1 (x7 ++ [(rd x16 x18, wrap64 (x8 - 1))]) x8 (wrap64 (x9 + t298)) x16 x17 (wrap64 (x18 + 1))) else (none))))) else (none)) else (none)) else (some (x7, x8, true))
def impl_bagged.f (k : Nat) (l0 : List (S82)) (a1 : Int) : Option (List (Int × Int) × Int × Bool) := (impl_stops.f k l0).bind fun t294 => (impl_bagged.l0 k l0 a1 (([] : List (Int × Int))) 0 a1 t294 (t294.length : Int) 0)
theorem impl_bagged.mono_l : ∀ k, (∀ y0 y1 y2 y3 y4 y5 y6 y7, LeO (impl_bagged.l0 k y0 y1 y2 y3 y4 y5 y6 y7) (impl_bagged.l0 (k + 1) y0 y1 y2 y3 y4 y5 y6 y7))
  | 0 => fun _ _ _ _ _ _ _ _ r h => by simp [impl_bagged.l0] at h
  | k + 1 => by
    have ih0 := impl_bagged.mono_l k
    · intro y0 y1 y2 y3 y4 y5 y6 y7
      unfold impl_bagged.l0
      repeat' first
      | (with_reducible exact ih0 _ _ _ _ _ _ _ _)
      | (with_reducible exact impl_stops.mono _ _)
      | (with_reducible exact impl_weightAt.mono _ _ _)
      | (with_reducible exact LeO.refl _)
      | (with_reducible exact LeO.none _)
      | (with_reducible refine LeO.ite ?_ ?_)
      | (with_reducible refine LeO.bind ?_ (fun _ => ?_))
      | exact ih0 _ _ _ _ _ _ _ _
      | exact impl_stops.mono _ _
      | exact impl_weightAt.mono _ _ _
      | exact LeO.none _
      | refine LeO.ite ?_ ?_
      | refine LeO.bind ?_ (fun _ => ?_)
theorem impl_bagged.mono : ∀ a0 a1 k, LeO (impl_bagged.f k a0 a1) (impl_bagged.f (k + 1) a0 a1) := by
  intro a0 a1 k
  have ih0 := impl_bagged.mono_l k
  unfold impl_bagged.f
  repeat' first
      | (with_reducible exact ih0 _ _ _ _ _ _ _ _)
      | (with_reducible exact impl_stops.mono _ _)
      | (with_reducible exact impl_weightAt.mono _ _ _)
      | (with_reducible exact LeO.refl _)
      | (with_reducible exact LeO.none _)
      | (with_reducible refine LeO.ite ?_ ?_)
      | (with_reducible refine LeO.bind ?_ (fun _ => ?_))
      | exact ih0 _ _ _ _ _ _ _ _
      | exact impl_stops.mono _ _
      | exact impl_weightAt.mono _ _ _
      | exact LeO.none _
      | refine LeO.ite ?_ ?_
      | refine LeO.bind ?_ (fun _ => ?_)
set_option maxHeartbeats 8000000 in
set_option maxRecDepth 100000 in
theorem impl_bagged.calls (k : Nat) (A0 : Option Addr) (c0 : Nat) (l0 : List (S82)) (a1 : Int) (r1 : List (Int × Int)) (r2 : Int) (r3 : Bool) (w : World) (hr0 : Kd.C k82 w A0 l0.length l0) (hc0 : l0.length ≤ c0) (h : impl_bagged.f k l0 a1 = some (r1, r2, r3)) :
    Calls Try.prog 71 #[.slice A0 l0.length c0, .int .i64 a1] w fun e w' => ∃ v0_ : Value, e = .returned (.tuple #[v0_, .int .i64 r2, .bool r3]) ∧ (r3 = true → MR Try.prog 2 2 w' w.heap.size v0_ r1) ∧ Below w.heap.size w w' := by
  have HR0 := Aside0.mk hr0
  have HC0 := Aside0.mk hc0
  clear hr0 hc0
  have HB := Aside0.mk (Below.refl w.heap.size w)
  have H : ((impl_stops.f k l0).bind fun t294 => (impl_bagged.l0 k l0 a1 (([] : List (Int × Int))) 0 a1 t294 (t294.length : Int) 0)) = some (r1, r2, r3) := h
  clear h
  obtain ⟨y291, hy291⟩ : ∃ y_ : List (Int × Int), y_ = (([] : List (Int × Int))) := ⟨_, rfl⟩
  replace H : ((impl_stops.f k l0).bind fun t294 => (impl_bagged.l0 k l0 a1 y291 0 a1 t294 (t294.length : Int) 0)) = some (r1, r2, r3) := by first | (rw [hy291]; with_reducible exact H) | (have H2_ := (Option.bind_some _ _).symm.trans H; rw [hy291]; with_reducible exact H2_) | (have H2_ := (Option.bind_some _ _).symm.trans H; with_reducible exact H2_) | with_reducible exact H | (rw [hy291]; exact H) | exact H
  have Ny291 := Aside0.mk hy291
  clear hy291
  replace H := Option.bind_eq_some_iff.mp H
  obtain ⟨t294, A30, H⟩ := H
  replace H : (impl_bagged.l0 k l0 a1 y291 0 a1 t294 (t294.length : Int) 0) = some (r1, r2, r3) := H
  have A3 := Aside0.mk A30
  clear A30
  have H' := Aside0.mk H
  clear H
  have hmm := @run_makeMap Try.prog
  go_enter Try.func71, Try.ntmps71
  go_wp2_with (first | ((with_reducible refine gate_callee (f := 69) rfl ?_); refine goesL_ (some 16) rfl rfl Try.func69 (by kernel_rfl) rfl #[.slice A0 l0.length c0] rfl (by (try simp only [List.map_toArray, List.map_cons, List.map_nil]); first | done | rfl | (simp only [List.length_drop, List.length_take]; rfl)) ?_; (with_reducible refine (impl_stops.calls k _ _ l0 t294 _ ?side1 ?side2 A3.out).mono ?_); (case side1 => repeat (first | exact (Kd.C_below HR0.out HB.out) | (with_reducible refine Kd.C_alloc ?_ _) | (with_reducible refine Kd.C_drewN ?_ _) | (with_reducible refine Kd.C_drew ?_))); (case side2 => exact HC0.out); rintro e w6 ⟨v295, rfl, ho0, hb⟩; refine ⟨_, rfl, ?_⟩; have n0_ := Aside0.mk (show w6.ownsMap Try.prog 2 (plainElem (H := Unit) Try.prog 2) w.heap.size y291.length (bagD y291) from by rw [Ny291.out]; exact OM_below (World.ownsMap_made _ _ _ _) hb); have n1_ := Aside0.mk (Kd.R_lower ho0 (below_size (below_alloc HB.out _))); have n2_ := Aside0.mk (below_step (by repeat (first | (with_reducible first | exact HB.out | apply below_alloc | apply pw_below_drewN | apply below_drew1) | exact HB.out)) hb); clear HB; have HO293 := n0_; have HO296 := n1_; have HB := n2_; clear n0_ n1_ n2_; (try clear hb); (try clear hb2); (try clear hk); (try clear hi); (try clear ho0); obtain ⟨Ao7, co7, eo7⟩ := Kd.R_slice HO296.out; subst eo7))
  go_loopg [8, 9, 18] k (fun kq v8 v9 v18 w' => ∃ (x7_1 : List (Int × Int)) (x8_1 : Int) (x9_1 : Int) (x18_1 : Int), v8 = .int .i64 x8_1 ∧ v9 = .int .i64 x9_1 ∧ v18 = .int .i64 x18_1 ∧ Aside0 (impl_bagged.l0 kq l0 a1 x7_1 x8_1 x9_1 t294 (t294.length : Int) x18_1 = some (r1, r2, r3)) ∧ Aside0 (kq ≤ k) ∧ Aside0 (w'.ownsMap Try.prog 2 (plainElem (H := Unit) Try.prog 2) w.heap.size x7_1.length (bagD x7_1)) ∧ Aside0 (Kd.R (Kd.int .i64) 2 w' w.heap.size (fun _ => True) (.slice Ao7 t294.length co7) t294) ∧ Aside0 (Below w.heap.size w w'))
  case atStart => exact ⟨(y291), (0), (a1), (0), (by first | rfl | (simp; done) | (simp [*]; done)), (by first | rfl | (simp; done) | (simp [*]; done)), (by first | rfl | (simp; done) | (simp [*]; done)), H', ⟨Nat.le_refl _⟩, HO293, HO296, HB⟩
  case round =>
    clear H'
    try clear p2
    try clear c6
    try clear c7
    obtain ⟨x7_1, x8_1, x9_1, x18_1, rfl, rfl, rfl, HA, HK1, HO_7, HO_16, HB⟩ := hrel
    cases gk with
    | zero => exact absurd HA.out (by simp [impl_bagged.l0])
    | succ k1 =>
      have H := HA.out
      clear HA
      simp only [impl_bagged.l0] at H
      by_cases c8 : x18_1 < (t294.length : Int)
      · rw [if_pos c8] at H
        have c8b0 : decide (x18_1 < (t294.length : Int)) = true := decide_eq_true c8
        clear c8
        by_cases c9 : 0 ≤ x18_1
        · rw [if_pos c9] at H
          have c9b0 : decide (0 ≤ x18_1) = true := decide_eq_true c9
          clear c9
          by_cases c10 : x18_1 < (t294.length : Int)
          · rw [if_pos c10] at H
            have c10b0 : decide (x18_1 < (t294.length : Int)) = true := decide_eq_true c10
            clear c10
            replace H := Option.bind_eq_some_iff.mp H
            obtain ⟨t298, A110, H⟩ := H
            replace H : (if t298 > a1 then (some (([] : List (Int × Int)), 0, false)) else (if t298 > (wrap64 (a1 - x9_1)) then (if (x7_1.length < 17592186044416 ∧ (-9223372036854775808 ≤ (rd t294 x18_1) ∧ (rd t294 x18_1) ≤ 9223372036854775807)) then (impl_bagged.l0 k1 l0 a1 (x7_1 ++ [(rd t294 x18_1, wrap64 ((wrap64 (x8_1 + 1)) - 1))]) (wrap64 (x8_1 + 1)) (wrap64 (0 + t298)) t294 (t294.length : Int) (wrap64 (x18_1 + 1))) else (none)) else (if (x7_1.length < 17592186044416 ∧ (-9223372036854775808 ≤ (rd t294 x18_1) ∧ (rd t294 x18_1) ≤ 9223372036854775807)) then (impl_bagged.l0 k1 l0 a1 (x7_1 ++ [(rd t294 x18_1, wrap64 (x8_1 - 1))]) x8_1 (wrap64 (x9_1 + t298)) t294 (t294.length : Int) (wrap64 (x18_1 + 1))) else (none)))) = some (r1, r2, r3) := H
            have A11 := Aside0.mk A110
            clear A110
            by_cases c12 : t298 > a1
            · rw [if_pos c12] at H
              have c12b0 : decide (a1 < t298) = true := decide_eq_true c12
              clear c12
              simp only [Option.some.injEq, Prod.mk.injEq] at H
              obtain ⟨rfl, rfl, rfl⟩ := H
              have p297 : 0 ≤ (x18_1 : Int) := of_decide_eq_true (by first | (with_reducible assumption) | assumption)
              have q297 : x18_1 < (t294.length : Int) := of_decide_eq_true (by first | (with_reducible assumption) | assumption)
              obtain ⟨ad297, e297, hx297_0⟩ := Kd.at_int (Kd.R_reads' HO_16.out).2.2 x18_1 p297 q297
              cases e297
              replace p297 := eq_true p297
              replace q297 := eq_true q297
              go_wp2_with (first | ((with_reducible refine gate_callee (f := 100) rfl ?_); refine goesL_ (some 24) rfl rfl Try.func100 (by kernel_rfl) rfl #[.slice A0 l0.length c0, .int .i64 (rd t294 x18_1)] rfl (by (try simp only [List.map_toArray, List.map_cons, List.map_nil]); first | done | rfl | (simp only [List.length_drop, List.length_take]; rfl)) ?_; (with_reducible refine (impl_weightAt.calls k1 _ _ l0 (rd t294 x18_1) t298 _ ?side1 ?side2 A11.out).mono ?_); (case side1 => repeat (first | exact (Kd.C_below HR0.out HB.out) | (with_reducible refine Kd.C_alloc ?_ _) | (with_reducible refine Kd.C_drewN ?_ _) | (with_reducible refine Kd.C_drew ?_))); (case side2 => exact HC0.out); rintro e w13 ⟨rfl, hb⟩; refine ⟨_, rfl, ?_⟩; have n0_ := Aside0.mk (OM_below HO_7.out hb); have n1_ := Aside0.mk (Kd.R_below (by (with_reducible repeat (first | apply Kd.R_alloc | apply Kd.R_drewN | apply Kd.R_drew)); exact HO_16.out) hb); have n2_ := Aside0.mk (below_step (by repeat (first | (with_reducible first | exact HB.out | apply below_alloc | apply pw_below_drewN | apply below_drew1) | exact HB.out)) hb); clear HO_7; clear HO_16; clear HB; have HO_7 := n0_; have HO_16 := n1_; have HB := n2_; clear n0_ n1_ n2_; (try clear hb); (try clear hb2); (try clear hk); (try clear hi)))
              go_ret3
              exact ⟨_, by first | rfl | (simp [errW_none, errW_some] <;> rfl) | (simp [*, errW_none, errW_some] <;> rfl), (fun h_ => by cases h_), by repeat (first | (with_reducible first | exact HB.out | apply below_alloc | apply pw_below_drewN | apply below_drew1) | exact HB.out)⟩
            · rw [if_neg c12] at H
              have c12b0 : decide (a1 < t298) = false := decide_eq_false c12
              clear c12
              by_cases c14 : t298 > (wrap64 (a1 - x9_1))
              · rw [if_pos c14] at H
                have c14b0 : decide ((wrap64 (a1 - x9_1)) < t298) = true := decide_eq_true c14
                clear c14
                by_cases c15 : (x7_1.length < 17592186044416 ∧ (-9223372036854775808 ≤ (rd t294 x18_1) ∧ (rd t294 x18_1) ≤ 9223372036854775807))
                · rw [if_pos c15] at H
                  have LMc15 := Aside0.mk c15
                  clear c15
                  obtain ⟨y299, hy299⟩ : ∃ y_ : List (Int × Int), y_ = (x7_1 ++ [(rd t294 x18_1, wrap64 ((wrap64 (x8_1 + 1)) - 1))]) := ⟨_, rfl⟩
                  replace H : (impl_bagged.l0 k1 l0 a1 y299 (wrap64 (x8_1 + 1)) (wrap64 (0 + t298)) t294 (t294.length : Int) (wrap64 (x18_1 + 1))) = some (r1, r2, r3) := by first | (rw [hy299]; with_reducible exact H) | (have H2_ := (Option.bind_some _ _).symm.trans H; rw [hy299]; with_reducible exact H2_) | (have H2_ := (Option.bind_some _ _).symm.trans H; with_reducible exact H2_) | with_reducible exact H | (rw [hy299]; exact H) | exact H
                  have Ny299 := Aside0.mk hy299
                  clear hy299
                  have H' := Aside0.mk H
                  clear H
                  have p297 : 0 ≤ (x18_1 : Int) := of_decide_eq_true (by first | (with_reducible assumption) | assumption)
                  have q297 : x18_1 < (t294.length : Int) := of_decide_eq_true (by first | (with_reducible assumption) | assumption)
                  obtain ⟨ad297, e297, hx297_0⟩ := Kd.at_int (Kd.R_reads' HO_16.out).2.2 x18_1 p297 q297
                  cases e297
                  replace p297 := eq_true p297
                  replace q297 := eq_true q297
                  go_wp2_with (first | ((with_reducible refine gate_callee (f := 100) rfl ?_); refine goesL_ (some 24) rfl rfl Try.func100 (by kernel_rfl) rfl #[.slice A0 l0.length c0, .int .i64 (rd t294 x18_1)] rfl (by (try simp only [List.map_toArray, List.map_cons, List.map_nil]); first | done | rfl | (simp only [List.length_drop, List.length_take]; rfl)) ?_; (with_reducible refine (impl_weightAt.calls k1 _ _ l0 (rd t294 x18_1) t298 _ ?side1 ?side2 A11.out).mono ?_); (case side1 => repeat (first | exact (Kd.C_below HR0.out HB.out) | (with_reducible refine Kd.C_alloc ?_ _) | (with_reducible refine Kd.C_drewN ?_ _) | (with_reducible refine Kd.C_drew ?_))); (case side2 => exact HC0.out); rintro e w16 ⟨rfl, hb⟩; refine ⟨_, rfl, ?_⟩; have n0_ := Aside0.mk (OM_below HO_7.out hb); have n1_ := Aside0.mk (Kd.R_below (by (with_reducible repeat (first | apply Kd.R_alloc | apply Kd.R_drewN | apply Kd.R_drew)); exact HO_16.out) hb); have n2_ := Aside0.mk (below_step (by repeat (first | (with_reducible first | exact HB.out | apply below_alloc | apply pw_below_drewN | apply below_drew1) | exact HB.out)) hb); clear HO_7; clear HO_16; clear HB; have HO_7 := n0_; have HO_16 := n1_; have HB := n2_; clear n0_ n1_ n2_; (try clear hb); (try clear hb2); (try clear hk); (try clear hi)) | (at_mapUpdate; refine wpList_mapUpdate_own _ rfl _ _ _ 93 rfl 2 2 (Go.Maps.int_keyed Try.underlying2) Try.underlying93 (plainElem (H := Unit) Try.prog 2) w.heap.size x7_1.length (bagD x7_1) rfl HO_7.out ?mL _ _ (.int .i64 (rd t294 x18_1)) rfl rfl ?mK (.lit (.int .i64 (wrap64 ((wrap64 (x8_1 + 1)) - 1)))) [] ?mV ?_; (case mL => have := LMc15.out; unfold maxLen; omega); (case mK => exact Go.Maps.keyOf_int_mk Try.underlying2 (by have := LMc15.out; simp only [Lit.wf, IntKind.min, IntKind.max, IntKind.signed, IntKind.bits]; simp; omega)); (case mV => exact plainElem_int Try.underlying2 (wrap64_wf _)); intro w17 hown1 hg; have n0_ := Aside0.mk (R_map HO_16.out HO_7.out hg); have n1_ := Aside0.mk (HB.out.grown hg HB.out.size (fun j hj => by cases hj; exact Nat.le_refl _)); have n2_ := Aside0.mk (show w17.ownsMap Try.prog 2 (plainElem (H := Unit) Try.prog 2) w.heap.size y299.length (bagD y299) from by rw [Ny299.out, bagD_snoc, List.length_append]; exact hown1); clear HO_16 HB HO_7; have HO_16 := n0_; have HB := n1_; have HO301 := n2_; clear n0_ n1_ n2_ hown1 hg))
                  go_roundg k1
                  case measure => have := HK1.out; omega
                  case rel => exact ⟨(y299), (wrap64 (x8_1 + 1)), (wrap64 (0 + t298)), (wrap64 (x18_1 + 1)), (by first | rfl | (simp; done) | (simp [*]; done)), (by first | rfl | (simp; done) | (simp [*]; done)), (by first | rfl | (simp; done) | (simp [*]; done)), H', ⟨by have := HK1.out; omega⟩, HO301, HO_16, HB⟩
                · rw [if_neg c15] at H
                  exact absurd H (by simp)
              · rw [if_neg c14] at H
                have c14b0 : decide ((wrap64 (a1 - x9_1)) < t298) = false := decide_eq_false c14
                clear c14
                by_cases c18 : (x7_1.length < 17592186044416 ∧ (-9223372036854775808 ≤ (rd t294 x18_1) ∧ (rd t294 x18_1) ≤ 9223372036854775807))
                · rw [if_pos c18] at H
                  have LMc18 := Aside0.mk c18
                  clear c18
                  obtain ⟨y302, hy302⟩ : ∃ y_ : List (Int × Int), y_ = (x7_1 ++ [(rd t294 x18_1, wrap64 (x8_1 - 1))]) := ⟨_, rfl⟩
                  replace H : (impl_bagged.l0 k1 l0 a1 y302 x8_1 (wrap64 (x9_1 + t298)) t294 (t294.length : Int) (wrap64 (x18_1 + 1))) = some (r1, r2, r3) := by first | (rw [hy302]; with_reducible exact H) | (have H2_ := (Option.bind_some _ _).symm.trans H; rw [hy302]; with_reducible exact H2_) | (have H2_ := (Option.bind_some _ _).symm.trans H; with_reducible exact H2_) | with_reducible exact H | (rw [hy302]; exact H) | exact H
                  have Ny302 := Aside0.mk hy302
                  clear hy302
                  have H' := Aside0.mk H
                  clear H
                  have p297 : 0 ≤ (x18_1 : Int) := of_decide_eq_true (by first | (with_reducible assumption) | assumption)
                  have q297 : x18_1 < (t294.length : Int) := of_decide_eq_true (by first | (with_reducible assumption) | assumption)
                  obtain ⟨ad297, e297, hx297_0⟩ := Kd.at_int (Kd.R_reads' HO_16.out).2.2 x18_1 p297 q297
                  cases e297
                  replace p297 := eq_true p297
                  replace q297 := eq_true q297
                  go_wp2_with (first | ((with_reducible refine gate_callee (f := 100) rfl ?_); refine goesL_ (some 24) rfl rfl Try.func100 (by kernel_rfl) rfl #[.slice A0 l0.length c0, .int .i64 (rd t294 x18_1)] rfl (by (try simp only [List.map_toArray, List.map_cons, List.map_nil]); first | done | rfl | (simp only [List.length_drop, List.length_take]; rfl)) ?_; (with_reducible refine (impl_weightAt.calls k1 _ _ l0 (rd t294 x18_1) t298 _ ?side1 ?side2 A11.out).mono ?_); (case side1 => repeat (first | exact (Kd.C_below HR0.out HB.out) | (with_reducible refine Kd.C_alloc ?_ _) | (with_reducible refine Kd.C_drewN ?_ _) | (with_reducible refine Kd.C_drew ?_))); (case side2 => exact HC0.out); rintro e w19 ⟨rfl, hb⟩; refine ⟨_, rfl, ?_⟩; have n0_ := Aside0.mk (OM_below HO_7.out hb); have n1_ := Aside0.mk (Kd.R_below (by (with_reducible repeat (first | apply Kd.R_alloc | apply Kd.R_drewN | apply Kd.R_drew)); exact HO_16.out) hb); have n2_ := Aside0.mk (below_step (by repeat (first | (with_reducible first | exact HB.out | apply below_alloc | apply pw_below_drewN | apply below_drew1) | exact HB.out)) hb); clear HO_7; clear HO_16; clear HB; have HO_7 := n0_; have HO_16 := n1_; have HB := n2_; clear n0_ n1_ n2_; (try clear hb); (try clear hb2); (try clear hk); (try clear hi)) | (at_mapUpdate; refine wpList_mapUpdate_own _ rfl _ _ _ 93 rfl 2 2 (Go.Maps.int_keyed Try.underlying2) Try.underlying93 (plainElem (H := Unit) Try.prog 2) w.heap.size x7_1.length (bagD x7_1) rfl HO_7.out ?mL _ _ (.int .i64 (rd t294 x18_1)) rfl rfl ?mK (.lit (.int .i64 (wrap64 (x8_1 - 1)))) [] ?mV ?_; (case mL => have := LMc18.out; unfold maxLen; omega); (case mK => exact Go.Maps.keyOf_int_mk Try.underlying2 (by have := LMc18.out; simp only [Lit.wf, IntKind.min, IntKind.max, IntKind.signed, IntKind.bits]; simp; omega)); (case mV => exact plainElem_int Try.underlying2 (wrap64_wf _)); intro w20 hown1 hg; have n0_ := Aside0.mk (R_map HO_16.out HO_7.out hg); have n1_ := Aside0.mk (HB.out.grown hg HB.out.size (fun j hj => by cases hj; exact Nat.le_refl _)); have n2_ := Aside0.mk (show w20.ownsMap Try.prog 2 (plainElem (H := Unit) Try.prog 2) w.heap.size y302.length (bagD y302) from by rw [Ny302.out, bagD_snoc, List.length_append]; exact hown1); clear HO_16 HB HO_7; have HO_16 := n0_; have HB := n1_; have HO304 := n2_; clear n0_ n1_ n2_ hown1 hg))
                  go_roundg k1
                  case measure => have := HK1.out; omega
                  case rel => exact ⟨(y302), (x8_1), (wrap64 (x9_1 + t298)), (wrap64 (x18_1 + 1)), (by first | rfl | (simp; done) | (simp [*]; done)), (by first | rfl | (simp; done) | (simp [*]; done)), (by first | rfl | (simp; done) | (simp [*]; done)), H', ⟨by have := HK1.out; omega⟩, HO304, HO_16, HB⟩
                · rw [if_neg c18] at H
                  exact absurd H (by simp)
          · rw [if_neg c10] at H
            exact absurd H (by simp)
        · rw [if_neg c9] at H
          exact absurd H (by simp)
      · rw [if_neg c8] at H
        have c8b0 : decide (x18_1 < (t294.length : Int)) = false := decide_eq_false c8
        clear c8
        simp only [Option.some.injEq, Prod.mk.injEq] at H
        obtain ⟨rfl, rfl, rfl⟩ := H
        go_wp2
        go_ret3
        exact ⟨_, by first | rfl | (simp [errW_none, errW_some] <;> rfl) | (simp [*, errW_none, errW_some] <;> rfl), (by first | exact ⟨_, rfl, Nat.le_refl _, HO_7.out⟩ | exact fun _ => ⟨_, rfl, Nat.le_refl _, HO_7.out⟩), HB.out⟩

end Go.Proofs.Ytihnefkkgbokcaa.Q
