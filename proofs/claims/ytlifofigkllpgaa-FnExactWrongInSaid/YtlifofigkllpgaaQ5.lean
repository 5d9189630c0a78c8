-- made by wip/tools/mk.py of this session's repo, by way of the kit's print.py: Lean checks it.
import Derived.Test.YtlifofigkllpgaaQ0
import Derived.Test.YtlifofigkllpgaaQ4
namespace Go.Proofs.Ytlifofigkllpgaa.Q
open Go.RowKit Go.Proofs.YtlifofigkllpgaaW.PrintWords Go.Proofs.YtlifofigkllpgaaW.PrintLast Go.Proofs.YtlifofigkllpgaaW.PrintMore Go.Proofs.YtlifofigkllpgaaMine
attribute [local go_sem] max2_int min2_int max_two min_two max_three min_three max_four min_four   -- for this text's walks alone
set_option linter.unusedVariables false
set_option linter.unusedSimpArgs false

/-! ### impl_wrong: function 73 -/
mutual
def impl_wrong.l0 : Nat → Int → Int → List (List Int) → Int → Int → Option (Int × Int)
  | 0, _, _, _, _, _ => none
  | k + 1, x4, x5, x12, x13, x14 => if x14 < x13 then (if 0 ≤ x14 then (if x14 < (x12.length : Int) then (impl_wrong.l1 k x4 x5 x14 false x12 x13 x14 (rd_L6 x12 x14) ((rd_L6 x12 x14).length : Int) 0) else (none)) else (none)) else (some (x4, x5))
def impl_wrong.l1 : Nat → Int → Int → Int → Bool → List (List Int) → Int → Int → List Int → Int → Int → Option (Int × Int)
  | 0, _, _, _, _, _, _, _, _, _, _ => none
  | k + 1, x4, x5, x6, x8, x12, x13, x14, x19, x20, x21 => if x21 < x20 then (if 0 ≤ x21 then (if x21 < (x19.length : Int) then (if x8 = true then ((impl_bit.f ((rd x19 x21) != x6)).bind fun t224 => ((impl_bit.f (!((rd x19 x21) != x6))).bind fun t225 => (impl_wrong.l1 k (wrap64 (x4 + t224)) (wrap64 (x5 + t225)) x6 true x12 x13 x14 x19 x20 (wrap64 (x21 + 1))))) else ((impl_bit.f ((rd x19 x21) != x6)).bind fun t226 => (if (rd x19 x21) = x6 then ((impl_bit.f false).bind fun t227 => (impl_wrong.l1 k (wrap64 (x4 + t226)) (wrap64 (x5 + t227)) x6 ((rd x19 x21) != x6) x12 x13 x14 x19 x20 (wrap64 (x21 + 1)))) else ((impl_bit.f (!((rd x19 x21) != x6))).bind fun t228 => (impl_wrong.l1 k (wrap64 (x4 + t226)) (wrap64 (x5 + t228)) x6 ((rd x19 x21) != x6) x12 x13 x14 x19 x20 (wrap64 (x21 + 1))))))) else (none)) else (none)) else (impl_wrong.l0 k x4 x5 x12 x13 (wrap64 (x14 + 1)))
end
def impl_wrong.f (k : Nat) (l0 : List (List Int)) : Option (Int × Int) := impl_wrong.l0 k 0 0 l0 (l0.length : Int) 0
theorem impl_wrong.mono_l : ∀ k, (∀ y0 y1 y2 y3 y4, LeO (impl_wrong.l0 k y0 y1 y2 y3 y4) (impl_wrong.l0 (k + 1) y0 y1 y2 y3 y4)) ∧ (∀ y0 y1 y2 y3 y4 y5 y6 y7 y8 y9, LeO (impl_wrong.l1 k y0 y1 y2 y3 y4 y5 y6 y7 y8 y9) (impl_wrong.l1 (k + 1) y0 y1 y2 y3 y4 y5 y6 y7 y8 y9))
  | 0 => ⟨fun _ _ _ _ _ r h => by simp [impl_wrong.l0] at h, fun _ _ _ _ _ _ _ _ _ _ r h => by simp [impl_wrong.l1] at h⟩
  | k + 1 => by
    obtain ⟨ih0, ih1⟩ := impl_wrong.mono_l k
    refine ⟨?_, ?_⟩
    · intro y0 y1 y2 y3 y4
      unfold impl_wrong.l0
      repeat' first
      | (with_reducible exact ih0 _ _ _ _ _)
      | (with_reducible exact ih1 _ _ _ _ _ _ _ _ _ _)
      | (with_reducible exact LeO.refl _)
      | (with_reducible exact LeO.none _)
      | (with_reducible refine LeO.ite ?_ ?_)
      | (with_reducible refine LeO.bind ?_ (fun _ => ?_))
      | exact ih0 _ _ _ _ _
      | exact ih1 _ _ _ _ _ _ _ _ _ _
      | exact LeO.none _
      | refine LeO.ite ?_ ?_
      | refine LeO.bind ?_ (fun _ => ?_)
    · intro y0 y1 y2 y3 y4 y5 y6 y7 y8 y9
      unfold impl_wrong.l1
      repeat' first
      | (with_reducible exact ih0 _ _ _ _ _)
      | (with_reducible exact ih1 _ _ _ _ _ _ _ _ _ _)
      | (with_reducible exact LeO.refl _)
      | (with_reducible exact LeO.none _)
      | (with_reducible refine LeO.ite ?_ ?_)
      | (with_reducible refine LeO.bind ?_ (fun _ => ?_))
      | exact ih0 _ _ _ _ _
      | exact ih1 _ _ _ _ _ _ _ _ _ _
      | exact LeO.none _
      | refine LeO.ite ?_ ?_
      | refine LeO.bind ?_ (fun _ => ?_)
theorem impl_wrong.mono : ∀ a0 k, LeO (impl_wrong.f k a0) (impl_wrong.f (k + 1) a0) := by
  intro a0 k
  obtain ⟨ih0, ih1⟩ := impl_wrong.mono_l k
  unfold impl_wrong.f
  repeat' first
      | (with_reducible exact ih0 _ _ _ _ _)
      | (with_reducible exact ih1 _ _ _ _ _ _ _ _ _ _)
      | (with_reducible exact LeO.refl _)
      | (with_reducible exact LeO.none _)
      | (with_reducible refine LeO.ite ?_ ?_)
      | (with_reducible refine LeO.bind ?_ (fun _ => ?_))
      | exact ih0 _ _ _ _ _
      | exact ih1 _ _ _ _ _ _ _ _ _ _
      | exact LeO.none _
      | refine LeO.ite ?_ ?_
      | refine LeO.bind ?_ (fun _ => ?_)
set_option maxHeartbeats 8000000 in
set_option maxRecDepth 100000 in
theorem impl_wrong.calls (k : Nat) (A0 : Option Addr) (c0 : Nat) (l0 : List (List Int)) (r1 : Int) (r2 : Int) (w : World) (hr0 : Kd.C (Kd.slice 2 (Kd.int .i64)) w A0 l0.length l0) (hc0 : l0.length ≤ c0) (h : impl_wrong.f k l0 = some (r1, r2)) :
    Calls Try.prog 73 #[.slice A0 l0.length c0] w fun e w' => e = .returned (.tuple #[.int .i64 r1, .int .i64 r2]) ∧ Drawn0 w w' := by
  have HR0 := Aside0.mk hr0
  have HC0 := Aside0.mk hc0
  clear hr0 hc0
  have H : (impl_wrong.l0 k 0 0 l0 (l0.length : Int) 0) = some (r1, r2) := h
  clear h
  have H' := Aside0.mk H
  clear H
  go_enter Try.func73, Try.ntmps73
  go_wp2
  go_loopg [4, 5, 14] k (fun kq v4 v5 v14 w' => ∃ (x4_1 : Int) (x5_1 : Int) (x14_1 : Int), v4 = .int .i64 x4_1 ∧ v5 = .int .i64 x5_1 ∧ v14 = .int .i64 x14_1 ∧ Aside0 (impl_wrong.l0 kq x4_1 x5_1 l0 (l0.length : Int) x14_1 = some (r1, r2)) ∧ Aside0 (kq ≤ k) ∧ Drawn0 w w')
  case atStart => exact ⟨(0), (0), (0), (by first | rfl | (simp; done) | (simp [*]; done)), (by first | rfl | (simp; done) | (simp [*]; done)), (by first | rfl | (simp; done) | (simp [*]; done)), H', ⟨Nat.le_refl _⟩, by repeat (first | exact Drawn0.refl _ | apply Drawn0.step)⟩
  case round =>
    clear H'
    obtain ⟨x4_1, x5_1, x14_1, rfl, rfl, rfl, HA, HK1, ⟨m1, rfl⟩⟩ := hrel
    cases gk with
    | zero => exact absurd HA.out (by simp [impl_wrong.l0])
    | succ k1 =>
      have H := HA.out
      clear HA
      simp only [impl_wrong.l0] at H
      by_cases c2 : x14_1 < (l0.length : Int)
      · rw [if_pos c2] at H
        have c2b0 : decide (x14_1 < (l0.length : Int)) = true := decide_eq_true c2
        clear c2
        by_cases c3 : 0 ≤ x14_1
        · rw [if_pos c3] at H
          have c3b0 : decide (0 ≤ x14_1) = true := decide_eq_true c3
          clear c3
          by_cases c4 : x14_1 < (l0.length : Int)
          · rw [if_pos c4] at H
            have c4b0 : decide (x14_1 < (l0.length : Int)) = true := decide_eq_true c4
            clear c4
            have H' := Aside0.mk H
            clear H
            have p222 : 0 ≤ (x14_1 : Int) := of_decide_eq_true (by first | (with_reducible assumption) | assumption)
            have q222 : x14_1 < (l0.length : Int) := of_decide_eq_true (by first | (with_reducible assumption) | assumption)
            obtain ⟨ad222, A222_0, c222_0, e222, hx222_0, hl222_0, hi222_0⟩ := at_L6 HR0.out x14_1 p222 q222
            cases e222
            have HR222_0 := Aside0.mk hi222_0
            have HC222_0 := Aside0.mk hl222_0
            clear hi222_0 hl222_0
            replace p222 := eq_true p222
            replace q222 := eq_true q222
            go_wp2
            go_loopg [4, 5, 8, 21] k1 (fun kq v4 v5 v8 v21 w' => ∃ (x4_2 : Int) (x5_2 : Int) (x8_2 : Bool) (x21_2 : Int), v4 = .int .i64 x4_2 ∧ v5 = .int .i64 x5_2 ∧ v8 = .bool x8_2 ∧ v21 = .int .i64 x21_2 ∧ Aside0 (impl_wrong.l1 kq x4_2 x5_2 x14_1 x8_2 l0 (l0.length : Int) x14_1 (rd_L6 l0 x14_1) ((rd_L6 l0 x14_1).length : Int) x21_2 = some (r1, r2)) ∧ Aside0 (kq ≤ k1) ∧ Drawn0 w w')
            case atStart => exact ⟨(x4_1), (x5_1), (false), (0), (by first | rfl | (simp; done) | (simp [*]; done)), (by first | rfl | (simp; done) | (simp [*]; done)), (by first | rfl | (simp; done) | (simp [*]; done)), (by first | rfl | (simp; done) | (simp [*]; done)), H', ⟨Nat.le_refl _⟩, by repeat (first | exact Drawn0.refl _ | apply Drawn0.step)⟩
            case round =>
              clear H'
              try clear c2
              try clear c2b0
              try clear p2
              try clear q2
              try clear hx2
              try clear c3
              try clear c3b0
              try clear c4
              try clear c4b0
              try clear hx222_0
              try clear p222
              try clear q222
              obtain ⟨x4_2, x5_2, x8_2, x21_2, rfl, rfl, rfl, rfl, HA, HK2, ⟨m2, rfl⟩⟩ := hrel
              cases gk with
              | zero => exact absurd HA.out (by simp [impl_wrong.l1])
              | succ k2 =>
                have H := HA.out
                clear HA
                simp only [impl_wrong.l1] at H
                by_cases c5 : x21_2 < ((rd_L6 l0 x14_1).length : Int)
                · rw [if_pos c5] at H
                  have c5b0 : decide (x21_2 < ((rd_L6 l0 x14_1).length : Int)) = true := decide_eq_true c5
                  clear c5
                  by_cases c6 : 0 ≤ x21_2
                  · rw [if_pos c6] at H
                    have c6b0 : decide (0 ≤ x21_2) = true := decide_eq_true c6
                    clear c6
                    by_cases c7 : x21_2 < ((rd_L6 l0 x14_1).length : Int)
                    · rw [if_pos c7] at H
                      have c7b0 : decide (x21_2 < ((rd_L6 l0 x14_1).length : Int)) = true := decide_eq_true c7
                      clear c7
                      by_cases c8 : x8_2 = true
                      · subst c8
                        have H1 : ((impl_bit.f ((rd (rd_L6 l0 x14_1) x21_2) != x14_1)).bind fun t224 => ((impl_bit.f (!((rd (rd_L6 l0 x14_1) x21_2) != x14_1))).bind fun t225 => (impl_wrong.l1 k2 (wrap64 (x4_2 + t224)) (wrap64 (x5_2 + t225)) x14_1 true l0 (l0.length : Int) x14_1 (rd_L6 l0 x14_1) ((rd_L6 l0 x14_1).length : Int) (wrap64 (x21_2 + 1))))) = some (r1, r2) := by rw [if_pos rfl] at H; exact H
                        clear H
                        have H := H1
                        clear H1
                        replace H := Option.bind_eq_some_iff.mp H
                        obtain ⟨t224, A90, H⟩ := H
                        replace H : ((impl_bit.f (!((rd (rd_L6 l0 x14_1) x21_2) != x14_1))).bind fun t225 => (impl_wrong.l1 k2 (wrap64 (x4_2 + t224)) (wrap64 (x5_2 + t225)) x14_1 true l0 (l0.length : Int) x14_1 (rd_L6 l0 x14_1) ((rd_L6 l0 x14_1).length : Int) (wrap64 (x21_2 + 1)))) = some (r1, r2) := H
                        have A9 := Aside0.mk A90
                        clear A90
                        replace H := Option.bind_eq_some_iff.mp H
                        obtain ⟨t225, A100, H⟩ := H
                        replace H : (impl_wrong.l1 k2 (wrap64 (x4_2 + t224)) (wrap64 (x5_2 + t225)) x14_1 true l0 (l0.length : Int) x14_1 (rd_L6 l0 x14_1) ((rd_L6 l0 x14_1).length : Int) (wrap64 (x21_2 + 1))) = some (r1, r2) := H
                        have A10 := Aside0.mk A100
                        clear A100
                        have H' := Aside0.mk H
                        clear H
                        have p223 : 0 ≤ (x21_2 : Int) := of_decide_eq_true (by first | (with_reducible assumption) | assumption)
                        have q223 : x21_2 < ((rd_L6 l0 x14_1).length : Int) := of_decide_eq_true (by first | (with_reducible assumption) | assumption)
                        obtain ⟨ad223, e223, hx223_0⟩ := Kd.at_int HR222_0.out x21_2 p223 q223
                        cases e223
                        replace p223 := eq_true p223
                        replace q223 := eq_true q223
                        go_wp2_with (first | ((with_reducible refine gate_callee (f := 99) rfl ?_); refine goesL_ (some 34) rfl rfl Try.func99 (by kernel_rfl) rfl #[.bool ((rd (rd_L6 l0 x14_1) x21_2) != x14_1)] rfl (by (try simp only [List.map_toArray, List.map_cons, List.map_nil]); first | done | rfl | (simp only [List.length_drop, List.length_take]; rfl)) ?_; (with_reducible refine (impl_bit.calls ((rd (rd_L6 l0 x14_1) x21_2) != x14_1) t224 _ A9.out).mono ?_); rintro e w' ⟨rfl, ⟨nd, rfl⟩⟩; refine ⟨_, rfl, ?_⟩) | ((with_reducible refine gate_callee (f := 99) rfl ?_); refine goesL_ (some 42) rfl rfl Try.func99 (by kernel_rfl) rfl #[.bool (!((rd (rd_L6 l0 x14_1) x21_2) != x14_1))] rfl (by (try simp only [List.map_toArray, List.map_cons, List.map_nil]); first | done | rfl | (simp only [List.length_drop, List.length_take]; rfl)) ?_; (with_reducible refine (impl_bit.calls (!((rd (rd_L6 l0 x14_1) x21_2) != x14_1)) t225 _ A10.out).mono ?_); rintro e w' ⟨rfl, ⟨nd, rfl⟩⟩; refine ⟨_, rfl, ?_⟩))
                        go_roundg k2
                        case measure => have := HK1.out; have := HK2.out; omega
                        case rel => exact ⟨(wrap64 (x4_2 + t224)), (wrap64 (x5_2 + t225)), (true), (wrap64 (x21_2 + 1)), (by first | rfl | (simp; done) | (simp [*]; done)), (by first | rfl | (simp; done) | (simp [*]; done)), (by first | rfl | (simp; done) | (simp [*]; done)), (by first | rfl | (simp; done) | (simp [*]; done)), H', ⟨by have := HK1.out; have := HK2.out; omega⟩, by repeat (first | exact Drawn0.refl _ | apply Drawn0.step)⟩
                      · replace c8 := Bool.eq_false_iff.mpr c8
                        subst c8
                        have H1 : ((impl_bit.f ((rd (rd_L6 l0 x14_1) x21_2) != x14_1)).bind fun t226 => (if (rd (rd_L6 l0 x14_1) x21_2) = x14_1 then ((impl_bit.f false).bind fun t227 => (impl_wrong.l1 k2 (wrap64 (x4_2 + t226)) (wrap64 (x5_2 + t227)) x14_1 ((rd (rd_L6 l0 x14_1) x21_2) != x14_1) l0 (l0.length : Int) x14_1 (rd_L6 l0 x14_1) ((rd_L6 l0 x14_1).length : Int) (wrap64 (x21_2 + 1)))) else ((impl_bit.f (!((rd (rd_L6 l0 x14_1) x21_2) != x14_1))).bind fun t228 => (impl_wrong.l1 k2 (wrap64 (x4_2 + t226)) (wrap64 (x5_2 + t228)) x14_1 ((rd (rd_L6 l0 x14_1) x21_2) != x14_1) l0 (l0.length : Int) x14_1 (rd_L6 l0 x14_1) ((rd_L6 l0 x14_1).length : Int) (wrap64 (x21_2 + 1)))))) = some (r1, r2) := by rw [if_neg (show ¬ (false = true) by decide)] at H; exact H
                        clear H
                        have H := H1
                        clear H1
                        replace H := Option.bind_eq_some_iff.mp H
                        obtain ⟨t226, A110, H⟩ := H
                        replace H : (if (rd (rd_L6 l0 x14_1) x21_2) = x14_1 then ((impl_bit.f false).bind fun t227 => (impl_wrong.l1 k2 (wrap64 (x4_2 + t226)) (wrap64 (x5_2 + t227)) x14_1 ((rd (rd_L6 l0 x14_1) x21_2) != x14_1) l0 (l0.length : Int) x14_1 (rd_L6 l0 x14_1) ((rd_L6 l0 x14_1).length : Int) (wrap64 (x21_2 + 1)))) else ((impl_bit.f (!((rd (rd_L6 l0 x14_1) x21_2) != x14_1))).bind fun t228 => (impl_wrong.l1 k2 (wrap64 (x4_2 + t226)) (wrap64 (x5_2 + t228)) x14_1 ((rd (rd_L6 l0 x14_1) x21_2) != x14_1) l0 (l0.length : Int) x14_1 (rd_L6 l0 x14_1) ((rd_L6 l0 x14_1).length : Int) (wrap64 (x21_2 + 1))))) = some (r1, r2) := H
                        have A11 := Aside0.mk A110
                        clear A110
                        by_cases c12 : (rd (rd_L6 l0 x14_1) x21_2) = x14_1
                        · rw [if_pos c12] at H
                          have c12b0 : ((rd (rd_L6 l0 x14_1) x21_2) == x14_1) = true := beq_iff_eq.mpr c12
                          have c12b1 : ((rd (rd_L6 l0 x14_1) x21_2) != x14_1) = false := bne_eq_false_iff_eq.mpr c12
                          clear c12
                          replace H := Option.bind_eq_some_iff.mp H
                          obtain ⟨t227, A130, H⟩ := H
                          replace H : (impl_wrong.l1 k2 (wrap64 (x4_2 + t226)) (wrap64 (x5_2 + t227)) x14_1 ((rd (rd_L6 l0 x14_1) x21_2) != x14_1) l0 (l0.length : Int) x14_1 (rd_L6 l0 x14_1) ((rd_L6 l0 x14_1).length : Int) (wrap64 (x21_2 + 1))) = some (r1, r2) := H
                          have A13 := Aside0.mk A130
                          clear A130
                          have H' := Aside0.mk H
                          clear H
                          have p223 : 0 ≤ (x21_2 : Int) := of_decide_eq_true (by first | (with_reducible assumption) | assumption)
                          have q223 : x21_2 < ((rd_L6 l0 x14_1).length : Int) := of_decide_eq_true (by first | (with_reducible assumption) | assumption)
                          obtain ⟨ad223, e223, hx223_0⟩ := Kd.at_int HR222_0.out x21_2 p223 q223
                          cases e223
                          replace p223 := eq_true p223
                          replace q223 := eq_true q223
                          go_wp2_with (first | ((with_reducible refine gate_callee (f := 99) rfl ?_); refine goesL_ (some 34) rfl rfl Try.func99 (by kernel_rfl) rfl #[.bool false] rfl (by (try simp only [List.map_toArray, List.map_cons, List.map_nil]); first | done | rfl | (simp only [List.length_drop, List.length_take]; rfl)) ?_; (with_reducible refine (impl_bit.calls false t226 _ (by have h_ := A11.out; rw [c12b1] at h_; first | exact h_ | (simp only [Bool.not_true, Bool.not_false] at h_; exact h_))).mono ?_); rintro e w' ⟨rfl, ⟨nd, rfl⟩⟩; refine ⟨_, rfl, ?_⟩) | ((with_reducible refine gate_callee (f := 99) rfl ?_); refine goesL_ (some 42) rfl rfl Try.func99 (by kernel_rfl) rfl #[.bool false] rfl (by (try simp only [List.map_toArray, List.map_cons, List.map_nil]); first | done | rfl | (simp only [List.length_drop, List.length_take]; rfl)) ?_; (with_reducible refine (impl_bit.calls false t227 _ A13.out).mono ?_); rintro e w' ⟨rfl, ⟨nd, rfl⟩⟩; refine ⟨_, rfl, ?_⟩))
                          go_roundg k2
                          case measure => have := HK1.out; have := HK2.out; omega
                          case rel => exact ⟨(wrap64 (x4_2 + t226)), (wrap64 (x5_2 + t227)), (((rd (rd_L6 l0 x14_1) x21_2) != x14_1)), (wrap64 (x21_2 + 1)), (by first | rfl | (simp; done) | (simp [*]; done)), (by first | rfl | (simp; done) | (simp [*]; done)), (by first | rfl | (simp; done) | (simp [*]; done)), (by first | rfl | (simp; done) | (simp [*]; done)), H', ⟨by have := HK1.out; have := HK2.out; omega⟩, by repeat (first | exact Drawn0.refl _ | apply Drawn0.step)⟩
                        · rw [if_neg c12] at H
                          have c12b0 : ((rd (rd_L6 l0 x14_1) x21_2) == x14_1) = false := beq_eq_false_iff_ne.mpr c12
                          have c12b1 : ((rd (rd_L6 l0 x14_1) x21_2) != x14_1) = true := bne_iff_ne.mpr c12
                          replace H := Option.bind_eq_some_iff.mp H
                          obtain ⟨t228, A140, H⟩ := H
                          replace H : (impl_wrong.l1 k2 (wrap64 (x4_2 + t226)) (wrap64 (x5_2 + t228)) x14_1 ((rd (rd_L6 l0 x14_1) x21_2) != x14_1) l0 (l0.length : Int) x14_1 (rd_L6 l0 x14_1) ((rd_L6 l0 x14_1).length : Int) (wrap64 (x21_2 + 1))) = some (r1, r2) := H
                          have A14 := Aside0.mk A140
                          clear A140
                          have H' := Aside0.mk H
                          clear H
                          have p223 : 0 ≤ (x21_2 : Int) := of_decide_eq_true (by first | (with_reducible assumption) | assumption)
                          have q223 : x21_2 < ((rd_L6 l0 x14_1).length : Int) := of_decide_eq_true (by first | (with_reducible assumption) | assumption)
                          obtain ⟨ad223, e223, hx223_0⟩ := Kd.at_int HR222_0.out x21_2 p223 q223
                          cases e223
                          replace p223 := eq_true p223
                          replace q223 := eq_true q223
                          go_wp2_with (first | ((with_reducible refine gate_callee (f := 99) rfl ?_); refine goesL_ (some 34) rfl rfl Try.func99 (by kernel_rfl) rfl #[.bool true] rfl (by (try simp only [List.map_toArray, List.map_cons, List.map_nil]); first | done | rfl | (simp only [List.length_drop, List.length_take]; rfl)) ?_; (with_reducible refine (impl_bit.calls true t226 _ (by have h_ := A11.out; rw [c12b1] at h_; first | exact h_ | (simp only [Bool.not_true, Bool.not_false] at h_; exact h_))).mono ?_); rintro e w' ⟨rfl, ⟨nd, rfl⟩⟩; refine ⟨_, rfl, ?_⟩) | ((with_reducible refine gate_callee (f := 99) rfl ?_); refine goesL_ (some 42) rfl rfl Try.func99 (by kernel_rfl) rfl #[.bool false] rfl (by (try simp only [List.map_toArray, List.map_cons, List.map_nil]); first | done | rfl | (simp only [List.length_drop, List.length_take]; rfl)) ?_; (with_reducible refine (impl_bit.calls false t228 _ (by have h_ := A14.out; rw [c12b1] at h_; first | exact h_ | (simp only [Bool.not_true, Bool.not_false] at h_; exact h_))).mono ?_); rintro e w' ⟨rfl, ⟨nd, rfl⟩⟩; refine ⟨_, rfl, ?_⟩))
                          go_roundg k2
                          case measure => have := HK1.out; have := HK2.out; omega
                          case rel => exact ⟨(wrap64 (x4_2 + t226)), (wrap64 (x5_2 + t228)), (((rd (rd_L6 l0 x14_1) x21_2) != x14_1)), (wrap64 (x21_2 + 1)), (by first | rfl | (simp; done) | (simp [*]; done)), (by first | rfl | (simp; done) | (simp [*]; done)), (by first | rfl | (simp; done) | (simp [*]; done)), (by first | rfl | (simp; done) | (simp [*]; done)), H', ⟨by have := HK1.out; have := HK2.out; omega⟩, by repeat (first | exact Drawn0.refl _ | apply Drawn0.step)⟩
                    · rw [if_neg c7] at H
                      exact absurd H (by simp)
                  · rw [if_neg c6] at H
                    exact absurd H (by simp)
                · rw [if_neg c5] at H
                  have c5b0 : decide (x21_2 < ((rd_L6 l0 x14_1).length : Int)) = false := decide_eq_false c5
                  clear c5
                  have H' := Aside0.mk H
                  clear H
                  go_wp2
                  go_roundg k2
                  case measure => have := HK1.out; have := HK2.out; omega
                  case rel => exact ⟨(x4_2), (x5_2), (wrap64 (x14_1 + 1)), (by first | rfl | (simp; done) | (simp [*]; done)), (by first | rfl | (simp; done) | (simp [*]; done)), (by first | rfl | (simp; done) | (simp [*]; done)), H', ⟨by have := HK1.out; have := HK2.out; omega⟩, by repeat (first | exact Drawn0.refl _ | apply Drawn0.step)⟩
          · rw [if_neg c4] at H
            exact absurd H (by simp)
        · rw [if_neg c3] at H
          exact absurd H (by simp)
      · rw [if_neg c2] at H
        have c2b0 : decide (x14_1 < (l0.length : Int)) = false := decide_eq_false c2
        clear c2
        simp only [Option.some.injEq, Prod.mk.injEq] at H
        obtain ⟨rfl, rfl⟩ := H
        go_wp2
        go_ret2
        exact ⟨by first | rfl | (simp; done) | (simp [*]; done), by repeat (first | exact Drawn0.refl _ | apply Drawn0.step)⟩

end Go.Proofs.Ytlifofigkllpgaa.Q
