-- made by wip/tools/mk.py of this session's repo, by way of the kit's print.py: Lean checks it.
import Derived.Test.YtehphbaobhnfjaaQ0
import Derived.Test.YtehphbaobhnfjaaQ2
namespace Go.Proofs.Ytehphbaobhnfjaa.Q
open Go.RowKit Go.Proofs.YtehphbaobhnfjaaW.PrintWords Go.Proofs.YtehphbaobhnfjaaW.PrintLast Go.Proofs.YtehphbaobhnfjaaW.PrintMore Go.Proofs.YtehphbaobhnfjaaMine
attribute [local go_sem] max2_int min2_int max_two min_two max_three min_three max_four min_four   -- for this text's walks alone
set_option linter.unusedVariables false
set_option linter.unusedSimpArgs false

/-! ### spec_l05How: function 47 -/
def spec_l05How.f (a0 : Int) : Option (Bool) := (spec_l00In.f a0 0 3).bind fun t101 => (some t101)
set_option maxHeartbeats 8000000 in
set_option maxRecDepth 100000 in
theorem spec_l05How.calls (a0 : Int) (r : Bool) (w : World) (h : spec_l05How.f a0 = some r) :
    Calls Try.prog 47 #[.int .i64 a0] w fun e w' => e = .returned (.bool r) ∧ Drawn0 w w' := by
  have H : ((spec_l00In.f a0 0 3).bind fun t101 => (some t101)) = some r := h
  clear h
  replace H := Option.bind_eq_some_iff.mp H
  obtain ⟨t101, A20, H⟩ := H
  replace H : (some t101) = some r := H
  have A2 := Aside0.mk A20
  clear A20
  obtain rfl := Option.some.inj H
  go_enter Try.func47, Try.ntmps47
  go_wp2_with (first | ((with_reducible refine gate_callee (f := 46) rfl ?_); refine goesL_ (some 4) rfl rfl Try.func46 (by kernel_rfl) rfl #[.int .i64 a0, .int .i64 0, .int .i64 3] rfl (by (try simp only [List.map_toArray, List.map_cons, List.map_nil]); first | done | rfl | (simp only [List.length_drop, List.length_take]; rfl)) ?_; (with_reducible refine (spec_l00In.calls a0 0 3 t101 _ A2.out).mono ?_); rintro e w' ⟨rfl, ⟨nd, rfl⟩⟩; refine ⟨_, rfl, ?_⟩))
  go_ret
  exact ⟨by first | rfl | (simp; done) | (simp [*]; done), by repeat (first | exact Drawn0.refl _ | apply Drawn0.step)⟩

/-! ### spec_l05Round: function 48 -/
def spec_l05Round.f (a0 : Int) (a1 : Int) (a2 : Int) (a3 : Int) : Option (Int) := if a2 = 0 then (none) else (if a3 = 1 then (if (Int.tmod (wrap64 (a0 * a1)) a2) > 0 then (some (wrap64 ((wrap64 (Int.tdiv (wrap64 (a0 * a1)) a2)) + 1))) else (some (wrap64 (Int.tdiv (wrap64 (a0 * a1)) a2)))) else (if a3 = 2 then (if (wrap64 (2 * (Int.tmod (wrap64 (a0 * a1)) a2))) ≥ a2 then (some (wrap64 ((wrap64 (Int.tdiv (wrap64 (a0 * a1)) a2)) + 1))) else (some (wrap64 (Int.tdiv (wrap64 (a0 * a1)) a2)))) else (if a3 = 3 then (if (wrap64 (2 * (Int.tmod (wrap64 (a0 * a1)) a2))) > a2 then (some (wrap64 ((wrap64 (Int.tdiv (wrap64 (a0 * a1)) a2)) + 1))) else (if (wrap64 (2 * (Int.tmod (wrap64 (a0 * a1)) a2))) = a2 then (if (Int.tmod (wrap64 (Int.tdiv (wrap64 (a0 * a1)) a2)) 2) = 1 then (some (wrap64 ((wrap64 (Int.tdiv (wrap64 (a0 * a1)) a2)) + 1))) else (some (wrap64 (Int.tdiv (wrap64 (a0 * a1)) a2)))) else (some (wrap64 (Int.tdiv (wrap64 (a0 * a1)) a2))))) else (some (wrap64 (Int.tdiv (wrap64 (a0 * a1)) a2))))))
set_option maxHeartbeats 8000000 in
set_option maxRecDepth 100000 in
theorem spec_l05Round.calls (a0 : Int) (a1 : Int) (a2 : Int) (a3 : Int) (r : Int) (w : World) (h : spec_l05Round.f a0 a1 a2 a3 = some r) :
    Calls Try.prog 48 #[.int .i64 a0, .int .i64 a1, .int .i64 a2, .int .i64 a3] w fun e w' => e = .returned (.int .i64 r) ∧ Drawn0 w w' := by
  have H : (if a2 = 0 then (none) else (if a3 = 1 then (if (Int.tmod (wrap64 (a0 * a1)) a2) > 0 then (some (wrap64 ((wrap64 (Int.tdiv (wrap64 (a0 * a1)) a2)) + 1))) else (some (wrap64 (Int.tdiv (wrap64 (a0 * a1)) a2)))) else (if a3 = 2 then (if (wrap64 (2 * (Int.tmod (wrap64 (a0 * a1)) a2))) ≥ a2 then (some (wrap64 ((wrap64 (Int.tdiv (wrap64 (a0 * a1)) a2)) + 1))) else (some (wrap64 (Int.tdiv (wrap64 (a0 * a1)) a2)))) else (if a3 = 3 then (if (wrap64 (2 * (Int.tmod (wrap64 (a0 * a1)) a2))) > a2 then (some (wrap64 ((wrap64 (Int.tdiv (wrap64 (a0 * a1)) a2)) + 1))) else (if (wrap64 (2 * (Int.tmod (wrap64 (a0 * a1)) a2))) = a2 then (if (Int.tmod (wrap64 (Int.tdiv (wrap64 (a0 * a1)) a2)) 2) = 1 then (some (wrap64 ((wrap64 (Int.tdiv (wrap64 (a0 * a1)) a2)) + 1))) else (some (wrap64 (Int.tdiv (wrap64 (a0 * a1)) a2)))) else (some (wrap64 (Int.tdiv (wrap64 (a0 * a1)) a2))))) else (some (wrap64 (Int.tdiv (wrap64 (a0 * a1)) a2))))))) = some r := h
  clear h
  by_cases c5 : a2 = 0
  · rw [if_pos c5] at H
    exact absurd H (by simp)
  · rw [if_neg c5] at H
    have c5b0 : (a2 == 0) = false := beq_eq_false_iff_ne.mpr c5
    have c5b1 : (a2 != 0) = true := bne_iff_ne.mpr c5
    by_cases c6 : a3 = 1
    · rw [if_pos c6] at H
      have c6b0 : (a3 == 1) = true := beq_iff_eq.mpr c6
      have c6b1 : (a3 != 1) = false := bne_eq_false_iff_eq.mpr c6
      clear c6
      by_cases c7 : (Int.tmod (wrap64 (a0 * a1)) a2) > 0
      · rw [if_pos c7] at H
        have c7b0 : decide (0 < (Int.tmod (wrap64 (a0 * a1)) a2)) = true := decide_eq_true c7
        clear c7
        obtain rfl := Option.some.inj H
        go_enter Try.func48, Try.ntmps48
        go_wp2
        go_ret
        exact ⟨by first | rfl | (simp; done) | (simp [*]; done), by repeat (first | exact Drawn0.refl _ | apply Drawn0.step)⟩
      · rw [if_neg c7] at H
        have c7b0 : decide (0 < (Int.tmod (wrap64 (a0 * a1)) a2)) = false := decide_eq_false c7
        clear c7
        obtain rfl := Option.some.inj H
        go_enter Try.func48, Try.ntmps48
        go_wp2
        go_ret
        exact ⟨by first | rfl | (simp; done) | (simp [*]; done), by repeat (first | exact Drawn0.refl _ | apply Drawn0.step)⟩
    · rw [if_neg c6] at H
      have c6b0 : (a3 == 1) = false := beq_eq_false_iff_ne.mpr c6
      have c6b1 : (a3 != 1) = true := bne_iff_ne.mpr c6
      by_cases c8 : a3 = 2
      · rw [if_pos c8] at H
        have c8b0 : (a3 == 2) = true := beq_iff_eq.mpr c8
        have c8b1 : (a3 != 2) = false := bne_eq_false_iff_eq.mpr c8
        clear c8
        by_cases c9 : (wrap64 (2 * (Int.tmod (wrap64 (a0 * a1)) a2))) ≥ a2
        · rw [if_pos c9] at H
          have c9b0 : decide (a2 ≤ (wrap64 (2 * (Int.tmod (wrap64 (a0 * a1)) a2)))) = true := decide_eq_true c9
          clear c9
          obtain rfl := Option.some.inj H
          go_enter Try.func48, Try.ntmps48
          go_wp2
          go_ret
          exact ⟨by first | rfl | (simp; done) | (simp [*]; done), by repeat (first | exact Drawn0.refl _ | apply Drawn0.step)⟩
        · rw [if_neg c9] at H
          have c9b0 : decide (a2 ≤ (wrap64 (2 * (Int.tmod (wrap64 (a0 * a1)) a2)))) = false := decide_eq_false c9
          clear c9
          obtain rfl := Option.some.inj H
          go_enter Try.func48, Try.ntmps48
          go_wp2
          go_ret
          exact ⟨by first | rfl | (simp; done) | (simp [*]; done), by repeat (first | exact Drawn0.refl _ | apply Drawn0.step)⟩
      · rw [if_neg c8] at H
        have c8b0 : (a3 == 2) = false := beq_eq_false_iff_ne.mpr c8
        have c8b1 : (a3 != 2) = true := bne_iff_ne.mpr c8
        by_cases c10 : a3 = 3
        · rw [if_pos c10] at H
          have c10b0 : (a3 == 3) = true := beq_iff_eq.mpr c10
          have c10b1 : (a3 != 3) = false := bne_eq_false_iff_eq.mpr c10
          clear c10
          by_cases c11 : (wrap64 (2 * (Int.tmod (wrap64 (a0 * a1)) a2))) > a2
          · rw [if_pos c11] at H
            have c11b0 : decide (a2 < (wrap64 (2 * (Int.tmod (wrap64 (a0 * a1)) a2)))) = true := decide_eq_true c11
            clear c11
            obtain rfl := Option.some.inj H
            go_enter Try.func48, Try.ntmps48
            go_wp2
            go_ret
            exact ⟨by first | rfl | (simp; done) | (simp [*]; done), by repeat (first | exact Drawn0.refl _ | apply Drawn0.step)⟩
          · rw [if_neg c11] at H
            have c11b0 : decide (a2 < (wrap64 (2 * (Int.tmod (wrap64 (a0 * a1)) a2)))) = false := decide_eq_false c11
            clear c11
            by_cases c12 : (wrap64 (2 * (Int.tmod (wrap64 (a0 * a1)) a2))) = a2
            · rw [if_pos c12] at H
              have c12b0 : ((wrap64 (2 * (Int.tmod (wrap64 (a0 * a1)) a2))) == a2) = true := beq_iff_eq.mpr c12
              have c12b1 : ((wrap64 (2 * (Int.tmod (wrap64 (a0 * a1)) a2))) != a2) = false := bne_eq_false_iff_eq.mpr c12
              clear c12
              by_cases c13 : (Int.tmod (wrap64 (Int.tdiv (wrap64 (a0 * a1)) a2)) 2) = 1
              · rw [if_pos c13] at H
                have c13b0 : ((Int.tmod (wrap64 (Int.tdiv (wrap64 (a0 * a1)) a2)) 2) == 1) = true := beq_iff_eq.mpr c13
                have c13b1 : ((Int.tmod (wrap64 (Int.tdiv (wrap64 (a0 * a1)) a2)) 2) != 1) = false := bne_eq_false_iff_eq.mpr c13
                clear c13
                obtain rfl := Option.some.inj H
                go_enter Try.func48, Try.ntmps48
                go_wp2
                go_ret
                exact ⟨by first | rfl | (simp; done) | (simp [*]; done), by repeat (first | exact Drawn0.refl _ | apply Drawn0.step)⟩
              · rw [if_neg c13] at H
                have c13b0 : ((Int.tmod (wrap64 (Int.tdiv (wrap64 (a0 * a1)) a2)) 2) == 1) = false := beq_eq_false_iff_ne.mpr c13
                have c13b1 : ((Int.tmod (wrap64 (Int.tdiv (wrap64 (a0 * a1)) a2)) 2) != 1) = true := bne_iff_ne.mpr c13
                obtain rfl := Option.some.inj H
                go_enter Try.func48, Try.ntmps48
                go_wp2
                go_ret
                exact ⟨by first | rfl | (simp; done) | (simp [*]; done), by repeat (first | exact Drawn0.refl _ | apply Drawn0.step)⟩
            · rw [if_neg c12] at H
              have c12b0 : ((wrap64 (2 * (Int.tmod (wrap64 (a0 * a1)) a2))) == a2) = false := beq_eq_false_iff_ne.mpr c12
              have c12b1 : ((wrap64 (2 * (Int.tmod (wrap64 (a0 * a1)) a2))) != a2) = true := bne_iff_ne.mpr c12
              obtain rfl := Option.some.inj H
              go_enter Try.func48, Try.ntmps48
              go_wp2
              go_ret
              exact ⟨by first | rfl | (simp; done) | (simp [*]; done), by repeat (first | exact Drawn0.refl _ | apply Drawn0.step)⟩
        · rw [if_neg c10] at H
          have c10b0 : (a3 == 3) = false := beq_eq_false_iff_ne.mpr c10
          have c10b1 : (a3 != 3) = true := bne_iff_ne.mpr c10
          obtain rfl := Option.some.inj H
          go_enter Try.func48, Try.ntmps48
          go_wp2
          go_ret
          exact ⟨by first | rfl | (simp; done) | (simp [*]; done), by repeat (first | exact Drawn0.refl _ | apply Drawn0.step)⟩

/-! ### impl_isWay: function 50 -/
def impl_isWay.f (a0 : Int) : Option (Bool) := (impl_within.f a0 0 3).bind fun t107 => (some t107)
set_option maxHeartbeats 8000000 in
set_option maxRecDepth 100000 in
theorem impl_isWay.calls (a0 : Int) (r : Bool) (w : World) (h : impl_isWay.f a0 = some r) :
    Calls Try.prog 50 #[.int .i64 a0] w fun e w' => e = .returned (.bool r) ∧ Drawn0 w w' := by
  have H : ((impl_within.f a0 0 3).bind fun t107 => (some t107)) = some r := h
  clear h
  replace H := Option.bind_eq_some_iff.mp H
  obtain ⟨t107, A20, H⟩ := H
  replace H : (some t107) = some r := H
  have A2 := Aside0.mk A20
  clear A20
  obtain rfl := Option.some.inj H
  go_enter Try.func50, Try.ntmps50
  go_wp2_with (first | ((with_reducible refine gate_callee (f := 49) rfl ?_); refine goesL_ (some 4) rfl rfl Try.func49 (by kernel_rfl) rfl #[.int .i64 a0, .int .i64 0, .int .i64 3] rfl (by (try simp only [List.map_toArray, List.map_cons, List.map_nil]); first | done | rfl | (simp only [List.length_drop, List.length_take]; rfl)) ?_; (with_reducible refine (impl_within.calls a0 0 3 t107 _ A2.out).mono ?_); rintro e w' ⟨rfl, ⟨nd, rfl⟩⟩; refine ⟨_, rfl, ?_⟩))
  go_ret
  exact ⟨by first | rfl | (simp; done) | (simp [*]; done), by repeat (first | exact Drawn0.refl _ | apply Drawn0.step)⟩

/-! ### impl_rounded: function 51 -/
mutual
def impl_rounded.j0 : Nat → Int → Int → Int → Int → Bool → Option (Int)
  | 0, _, _, _, _, _ => none
  | k + 1, x2, x3, x9, x10, x21 => if x21 = true then (some x9) else (if x3 = 1 then (impl_rounded.j1 k x2 x3 x9 x10 true) else (impl_rounded.j1 k x2 x3 x9 x10 (decide ((wrap64 (2 * x10)) > x2))))
def impl_rounded.j1 : Nat → Int → Int → Int → Int → Bool → Option (Int)
  | 0, _, _, _, _, _ => none
  | k + 1, x2, x3, x9, x10, x29 => if x29 = true then (some (wrap64 (x9 + 1))) else (if (wrap64 (2 * x10)) = x2 then (if x3 = 2 then (some (wrap64 (x9 + 1))) else (if (Int.tmod x9 2) = 1 then (some (wrap64 (x9 + 1))) else (some x9))) else (some x9))
end
def impl_rounded.f (k : Nat) (a0 : Int) (a1 : Int) (a2 : Int) (a3 : Int) : Option (Int) := if a2 = 0 then (none) else (if (Int.tmod (wrap64 (a0 * a1)) a2) = 0 then (impl_rounded.j0 k a2 a3 (wrap64 (Int.tdiv (wrap64 (a0 * a1)) a2)) (Int.tmod (wrap64 (a0 * a1)) a2) true) else (impl_rounded.j0 k a2 a3 (wrap64 (Int.tdiv (wrap64 (a0 * a1)) a2)) (Int.tmod (wrap64 (a0 * a1)) a2) (a3 == 0)))
theorem impl_rounded.mono_l : ∀ k, (∀ y0 y1 y2 y3 y4, LeO (impl_rounded.j0 k y0 y1 y2 y3 y4) (impl_rounded.j0 (k + 1) y0 y1 y2 y3 y4)) ∧ (∀ y0 y1 y2 y3 y4, LeO (impl_rounded.j1 k y0 y1 y2 y3 y4) (impl_rounded.j1 (k + 1) y0 y1 y2 y3 y4))
  | 0 => ⟨fun _ _ _ _ _ r h => by simp [impl_rounded.j0] at h, fun _ _ _ _ _ r h => by simp [impl_rounded.j1] at h⟩
  | k + 1 => by
    obtain ⟨ih0, ih1⟩ := impl_rounded.mono_l k
    refine ⟨?_, ?_⟩
    · intro y0 y1 y2 y3 y4
      unfold impl_rounded.j0
      repeat' first
      | (with_reducible exact ih0 _ _ _ _ _)
      | (with_reducible exact ih1 _ _ _ _ _)
      | (with_reducible exact LeO.refl _)
      | (with_reducible exact LeO.none _)
      | (with_reducible refine LeO.ite ?_ ?_)
      | (with_reducible refine LeO.bind ?_ (fun _ => ?_))
      | exact ih0 _ _ _ _ _
      | exact ih1 _ _ _ _ _
      | exact LeO.none _
      | refine LeO.ite ?_ ?_
      | refine LeO.bind ?_ (fun _ => ?_)
    · intro y0 y1 y2 y3 y4
      unfold impl_rounded.j1
      repeat' first
      | (with_reducible exact ih0 _ _ _ _ _)
      | (with_reducible exact ih1 _ _ _ _ _)
      | (with_reducible exact LeO.refl _)
      | (with_reducible exact LeO.none _)
      | (with_reducible refine LeO.ite ?_ ?_)
      | (with_reducible refine LeO.bind ?_ (fun _ => ?_))
      | exact ih0 _ _ _ _ _
      | exact ih1 _ _ _ _ _
      | exact LeO.none _
      | refine LeO.ite ?_ ?_
      | refine LeO.bind ?_ (fun _ => ?_)
theorem impl_rounded.mono : ∀ a0 a1 a2 a3 k, LeO (impl_rounded.f k a0 a1 a2 a3) (impl_rounded.f (k + 1) a0 a1 a2 a3) := by
  intro a0 a1 a2 a3 k
  obtain ⟨ih0, ih1⟩ := impl_rounded.mono_l k
  unfold impl_rounded.f
  repeat' first
      | (with_reducible exact ih0 _ _ _ _ _)
      | (with_reducible exact ih1 _ _ _ _ _)
      | (with_reducible exact LeO.refl _)
      | (with_reducible exact LeO.none _)
      | (with_reducible refine LeO.ite ?_ ?_)
      | (with_reducible refine LeO.bind ?_ (fun _ => ?_))
      | exact ih0 _ _ _ _ _
      | exact ih1 _ _ _ _ _
      | exact LeO.none _
      | refine LeO.ite ?_ ?_
      | refine LeO.bind ?_ (fun _ => ?_)
set_option maxHeartbeats 8000000 in
set_option maxRecDepth 100000 in
theorem impl_rounded.calls (k : Nat) (a0 : Int) (a1 : Int) (a2 : Int) (a3 : Int) (r : Int) (w : World) (h : impl_rounded.f k a0 a1 a2 a3 = some r) :
    Calls Try.prog 51 #[.int .i64 a0, .int .i64 a1, .int .i64 a2, .int .i64 a3] w fun e w' => e = .returned (.int .i64 r) ∧ Drawn0 w w' := by
  have H : (if a2 = 0 then (none) else (if (Int.tmod (wrap64 (a0 * a1)) a2) = 0 then (impl_rounded.j0 k a2 a3 (wrap64 (Int.tdiv (wrap64 (a0 * a1)) a2)) (Int.tmod (wrap64 (a0 * a1)) a2) true) else (impl_rounded.j0 k a2 a3 (wrap64 (Int.tdiv (wrap64 (a0 * a1)) a2)) (Int.tmod (wrap64 (a0 * a1)) a2) (a3 == 0)))) = some r := h
  clear h
  by_cases c5 : a2 = 0
  · rw [if_pos c5] at H
    exact absurd H (by simp)
  · rw [if_neg c5] at H
    have c5b0 : (a2 == 0) = false := beq_eq_false_iff_ne.mpr c5
    have c5b1 : (a2 != 0) = true := bne_iff_ne.mpr c5
    have HC6 := Aside0.mk H
    clear H
    go_enter Try.func51, Try.ntmps51
    go_upto_region 2 with (fail)
    repeat (go_quiet (fail); go_upto_region 2 with (fail))
    go_cut [21] (fun v21 wc => ∃ (kq : Nat) (x21_5 : Bool), v21 = .bool x21_5 ∧ Aside0 (impl_rounded.j0 kq a2 a3 (wrap64 (Int.tdiv (wrap64 (a0 * a1)) a2)) (Int.tmod (wrap64 (a0 * a1)) a2) x21_5 = some r) ∧ Aside0 (kq ≤ k) ∧ Drawn0 w wc)
    case first =>
      have H := HC6.out
      clear HC6
      by_cases c7 : (Int.tmod (wrap64 (a0 * a1)) a2) = 0
      · rw [if_pos c7] at H
        have c7b0 : ((Int.tmod (wrap64 (a0 * a1)) a2) == 0) = true := beq_iff_eq.mpr c7
        have c7b1 : ((Int.tmod (wrap64 (a0 * a1)) a2) != 0) = false := bne_eq_false_iff_eq.mpr c7
        clear c7
        (first | rw [c7b0] | (simp only [i64_w, i32_w]; rw [c7b0]) | skip)
        have H' := Aside0.mk H
        clear H
        go_wp2
        repeat (go_quiet (fail); try go_wp2)
        go_meet
        case rel => exact ⟨_, (true), (by first | rfl | (simp; done) | (simp [*]; done)), H', ⟨by first | omega | exact Nat.le_refl _⟩, by repeat (first | exact Drawn0.refl _ | apply Drawn0.step)⟩
      · rw [if_neg c7] at H
        have c7b0 : ((Int.tmod (wrap64 (a0 * a1)) a2) == 0) = false := beq_eq_false_iff_ne.mpr c7
        have c7b1 : ((Int.tmod (wrap64 (a0 * a1)) a2) != 0) = true := bne_iff_ne.mpr c7
        (first | rw [c7b0] | (simp only [i64_w, i32_w]; rw [c7b0]) | skip)
        have H' := Aside0.mk H
        clear H
        go_wp2
        repeat (go_quiet (fail); try go_wp2)
        go_meet
        case rel => exact ⟨_, ((a3 == 0)), (by first | rfl | (simp; done) | (simp [*]; done)), H', ⟨by first | omega | exact Nat.le_refl _⟩, by repeat (first | exact Drawn0.refl _ | apply Drawn0.step)⟩
    case rest =>
      clear HC6
      try clear p2
      try clear c5
      try clear c5b0
      try clear c5b1
      try clear p6
      try clear c7
      try clear c7b0
      try clear c7b1
      obtain ⟨kq, x21_5, rfl, HA, HJ5, ⟨mc5, rfl⟩⟩ := hcut
      cases kq with
      | zero => exact absurd HA.out (by simp [impl_rounded.j0])
      | succ kj5 =>
        have H := HA.out
        clear HA
        simp only [impl_rounded.j0] at H
        by_cases c8 : x21_5 = true
        · subst c8
          have H1 : (some (wrap64 (Int.tdiv (wrap64 (a0 * a1)) a2))) = some r := by rw [if_pos rfl] at H; exact H
          clear H
          have H := H1
          clear H1
          obtain rfl := Option.some.inj H
          go_wp2
          repeat (go_quiet (fail); try go_wp2)
          go_ret
          exact ⟨by first | rfl | (simp; done) | (simp [*]; done), by repeat (first | exact Drawn0.refl _ | apply Drawn0.step)⟩
        · replace c8 := Bool.eq_false_iff.mpr c8
          subst c8
          have H1 : (if a3 = 1 then (impl_rounded.j1 kj5 a2 a3 (wrap64 (Int.tdiv (wrap64 (a0 * a1)) a2)) (Int.tmod (wrap64 (a0 * a1)) a2) true) else (impl_rounded.j1 kj5 a2 a3 (wrap64 (Int.tdiv (wrap64 (a0 * a1)) a2)) (Int.tmod (wrap64 (a0 * a1)) a2) (decide ((wrap64 (2 * (Int.tmod (wrap64 (a0 * a1)) a2))) > a2)))) = some r := by rw [if_neg (show ¬ (false = true) by decide)] at H; exact H
          clear H
          have H := H1
          clear H1
          have HC9 := Aside0.mk H
          clear H
          go_upto_region 4 with (fail)
          repeat (go_quiet (fail); go_upto_region 4 with (fail))
          go_cut [29] (fun v29 wc => ∃ (kq : Nat) (x29_8 : Bool), v29 = .bool x29_8 ∧ Aside0 (impl_rounded.j1 kq a2 a3 (wrap64 (Int.tdiv (wrap64 (a0 * a1)) a2)) (Int.tmod (wrap64 (a0 * a1)) a2) x29_8 = some r) ∧ Aside0 (kq ≤ kj5) ∧ Drawn0 w wc)
          case first =>
            have H := HC9.out
            clear HC9
            by_cases c10 : a3 = 1
            · rw [if_pos c10] at H
              have c10b0 : (a3 == 1) = true := beq_iff_eq.mpr c10
              have c10b1 : (a3 != 1) = false := bne_eq_false_iff_eq.mpr c10
              clear c10
              (first | rw [c10b0] | (simp only [i64_w, i32_w]; rw [c10b0]) | skip)
              have H' := Aside0.mk H
              clear H
              go_wp2
              repeat (go_quiet (fail); try go_wp2)
              go_meet
              case rel => exact ⟨_, (true), (by first | rfl | (simp; done) | (simp [*]; done)), H', ⟨by have := HJ5.out; first | omega | exact Nat.le_refl _⟩, by repeat (first | exact Drawn0.refl _ | apply Drawn0.step)⟩
            · rw [if_neg c10] at H
              have c10b0 : (a3 == 1) = false := beq_eq_false_iff_ne.mpr c10
              have c10b1 : (a3 != 1) = true := bne_iff_ne.mpr c10
              (first | rw [c10b0] | (simp only [i64_w, i32_w]; rw [c10b0]) | skip)
              have H' := Aside0.mk H
              clear H
              go_wp2
              repeat (go_quiet (fail); try go_wp2)
              go_meet
              case rel => exact ⟨_, (decide ((wrap64 (2 * (Int.tmod (wrap64 (a0 * a1)) a2))) > a2)), (by first | rfl | (simp; done) | (simp [*]; done)), H', ⟨by have := HJ5.out; first | omega | exact Nat.le_refl _⟩, by repeat (first | exact Drawn0.refl _ | apply Drawn0.step)⟩
          case rest =>
            clear HC9
            try clear c1
            try clear p2
            try clear c5
            try clear c5b0
            try clear c5b1
            try clear p6
            try clear c7
            try clear c7b0
            try clear c7b1
            try clear c8
            try clear c10
            try clear c10b0
            try clear c10b1
            try clear p2
            try clear p6
            obtain ⟨kq, x29_8, rfl, HA, HJ8, ⟨mc8, rfl⟩⟩ := hcut
            cases kq with
            | zero => exact absurd HA.out (by simp [impl_rounded.j1])
            | succ kj8 =>
              have H := HA.out
              clear HA
              simp only [impl_rounded.j1] at H
              by_cases c11 : x29_8 = true
              · subst c11
                have H1 : (some (wrap64 ((wrap64 (Int.tdiv (wrap64 (a0 * a1)) a2)) + 1))) = some r := by rw [if_pos rfl] at H; exact H
                clear H
                have H := H1
                clear H1
                obtain rfl := Option.some.inj H
                go_wp2
                repeat (go_quiet (fail); try go_wp2)
                go_ret
                exact ⟨by first | rfl | (simp; done) | (simp [*]; done), by repeat (first | exact Drawn0.refl _ | apply Drawn0.step)⟩
              · replace c11 := Bool.eq_false_iff.mpr c11
                subst c11
                have H1 : (if (wrap64 (2 * (Int.tmod (wrap64 (a0 * a1)) a2))) = a2 then (if a3 = 2 then (some (wrap64 ((wrap64 (Int.tdiv (wrap64 (a0 * a1)) a2)) + 1))) else (if (Int.tmod (wrap64 (Int.tdiv (wrap64 (a0 * a1)) a2)) 2) = 1 then (some (wrap64 ((wrap64 (Int.tdiv (wrap64 (a0 * a1)) a2)) + 1))) else (some (wrap64 (Int.tdiv (wrap64 (a0 * a1)) a2))))) else (some (wrap64 (Int.tdiv (wrap64 (a0 * a1)) a2)))) = some r := by rw [if_neg (show ¬ (false = true) by decide)] at H; exact H
                clear H
                have H := H1
                clear H1
                by_cases c12 : (wrap64 (2 * (Int.tmod (wrap64 (a0 * a1)) a2))) = a2
                · rw [if_pos c12] at H
                  have c12b0 : ((wrap64 (2 * (Int.tmod (wrap64 (a0 * a1)) a2))) == a2) = true := beq_iff_eq.mpr c12
                  have c12b1 : ((wrap64 (2 * (Int.tmod (wrap64 (a0 * a1)) a2))) != a2) = false := bne_eq_false_iff_eq.mpr c12
                  clear c12
                  by_cases c13 : a3 = 2
                  · rw [if_pos c13] at H
                    have c13b0 : (a3 == 2) = true := beq_iff_eq.mpr c13
                    have c13b1 : (a3 != 2) = false := bne_eq_false_iff_eq.mpr c13
                    clear c13
                    obtain rfl := Option.some.inj H
                    go_wp2
                    repeat (go_quiet (fail); try go_wp2)
                    go_ret
                    exact ⟨by first | rfl | (simp; done) | (simp [*]; done), by repeat (first | exact Drawn0.refl _ | apply Drawn0.step)⟩
                  · rw [if_neg c13] at H
                    have c13b0 : (a3 == 2) = false := beq_eq_false_iff_ne.mpr c13
                    have c13b1 : (a3 != 2) = true := bne_iff_ne.mpr c13
                    by_cases c14 : (Int.tmod (wrap64 (Int.tdiv (wrap64 (a0 * a1)) a2)) 2) = 1
                    · rw [if_pos c14] at H
                      have c14b0 : ((Int.tmod (wrap64 (Int.tdiv (wrap64 (a0 * a1)) a2)) 2) == 1) = true := beq_iff_eq.mpr c14
                      have c14b1 : ((Int.tmod (wrap64 (Int.tdiv (wrap64 (a0 * a1)) a2)) 2) != 1) = false := bne_eq_false_iff_eq.mpr c14
                      clear c14
                      obtain rfl := Option.some.inj H
                      go_wp2
                      repeat (go_quiet (fail); try go_wp2)
                      go_ret
                      exact ⟨by first | rfl | (simp; done) | (simp [*]; done), by repeat (first | exact Drawn0.refl _ | apply Drawn0.step)⟩
                    · rw [if_neg c14] at H
                      have c14b0 : ((Int.tmod (wrap64 (Int.tdiv (wrap64 (a0 * a1)) a2)) 2) == 1) = false := beq_eq_false_iff_ne.mpr c14
                      have c14b1 : ((Int.tmod (wrap64 (Int.tdiv (wrap64 (a0 * a1)) a2)) 2) != 1) = true := bne_iff_ne.mpr c14
                      obtain rfl := Option.some.inj H
                      go_wp2
                      repeat (go_quiet (fail); try go_wp2)
                      go_ret
                      exact ⟨by first | rfl | (simp; done) | (simp [*]; done), by repeat (first | exact Drawn0.refl _ | apply Drawn0.step)⟩
                · rw [if_neg c12] at H
                  have c12b0 : ((wrap64 (2 * (Int.tmod (wrap64 (a0 * a1)) a2))) == a2) = false := beq_eq_false_iff_ne.mpr c12
                  have c12b1 : ((wrap64 (2 * (Int.tmod (wrap64 (a0 * a1)) a2))) != a2) = true := bne_iff_ne.mpr c12
                  obtain rfl := Option.some.inj H
                  go_wp2
                  repeat (go_quiet (fail); try go_wp2)
                  go_ret
                  exact ⟨by first | rfl | (simp; done) | (simp [*]; done), by repeat (first | exact Drawn0.refl _ | apply Drawn0.step)⟩

end Go.Proofs.Ytehphbaobhnfjaa.Q
