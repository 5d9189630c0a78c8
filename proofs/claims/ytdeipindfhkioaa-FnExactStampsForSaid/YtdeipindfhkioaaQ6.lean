-- made by wip/tools/mk.py of this session's repo, by way of the kit's print.py: Lean checks it.
import Derived.Test.YtdeipindfhkioaaQ0
import Derived.Test.YtdeipindfhkioaaQ4
import Derived.Test.YtdeipindfhkioaaQ5
namespace Go.Proofs.Ytdeipindfhkioaa.Q
open Go.RowKit Go.Proofs.YtdeipindfhkioaaW.PrintWords Go.Proofs.YtdeipindfhkioaaW.PrintLast Go.Proofs.YtdeipindfhkioaaW.PrintMore Go.Proofs.YtdeipindfhkioaaMine
attribute [local go_sem] max2_int min2_int max_two min_two max_three min_three max_four min_four   -- for this text's walks alone
set_option linter.unusedVariables false
set_option linter.unusedSimpArgs false

def spec_l01Plenty.l0 : Nat → List Int → List Int → Int → Option (List Int)
 | 0, _, _, _ => none
 | k + 1, x0, x3, x4 => if x4 < (x0.length : Int) then (if x3.length < 17592186044416 then (spec_l01Plenty.l0 k x0 (x3 ++ [1000]) (wrap64 (x4 + 1))) else (none)) else (some x3)
def spec_l01Plenty.f (k : Nat) (l0 : List Int) : Option (List Int) := spec_l01Plenty.l0 k l0 (([] : List Int)) 0
theorem spec_l01Plenty.mono_l : ∀ k, (∀ y0 y1 y2, LeO (spec_l01Plenty.l0 k y0 y1 y2) (spec_l01Plenty.l0 (k + 1) y0 y1 y2))
 | 0 => fun _ _ _ r h => by simp [spec_l01Plenty.l0] at h
 | k + 1 => by
  have ih0 := spec_l01Plenty.mono_l k
  ·intro y0 y1 y2
   unfold spec_l01Plenty.l0
   repeat' first
   | (with_reducible exact ih0 _ _ _)
   | (with_reducible exact LeO.refl _)
   | (with_reducible exact LeO.none _)
   | (with_reducible refine LeO.ite ?_ ?_)
   | (with_reducible refine LeO.bind ?_ (fun _ => ?_))
   | exact ih0 _ _ _
   | exact LeO.none _
   | refine LeO.ite ?_ ?_
   | refine LeO.bind ?_ (fun _ => ?_)
theorem spec_l01Plenty.mono : ∀ a0 k, LeO (spec_l01Plenty.f k a0) (spec_l01Plenty.f (k + 1) a0) := by
 intro a0 k
 have ih0 := spec_l01Plenty.mono_l k
 unfold spec_l01Plenty.f
 repeat' first
   | (with_reducible exact ih0 _ _ _)
   | (with_reducible exact LeO.refl _)
   | (with_reducible exact LeO.none _)
   | (with_reducible refine LeO.ite ?_ ?_)
   | (with_reducible refine LeO.bind ?_ (fun _ => ?_))
   | exact ih0 _ _ _
   | exact LeO.none _
   | refine LeO.ite ?_ ?_
   | refine LeO.bind ?_ (fun _ => ?_)
set_option maxHeartbeats 8000000 in
set_option maxRecDepth 100000 in
theorem spec_l01Plenty.calls (k : Nat) (A0 : Option Addr) (c0 : Nat) (l0 : List Int) (r : List Int) (w : World) (hr0 : Kd.C (Kd.int .i64) w A0 l0.length l0) (hc0 : l0.length ≤ c0) (h : spec_l01Plenty.f k l0 = some r) :
  Calls Try.prog 114 #[.slice A0 l0.length c0] w fun e w' => ∃ v0_ : Value, e = .returned (v0_) ∧ Kd.R (Kd.int .i64) 2 w' w.heap.size (fun _ => True) v0_ r ∧ Below w.heap.size w w' := by
 have HR0 := Aside0.mk hr0
 have HC0 := Aside0.mk hc0
 clear hr0 hc0
 have HB := Aside0.mk (Below.refl w.heap.size w)
 have H : (spec_l01Plenty.l0 k l0 (([] : List Int)) 0) = some r := h
 clear h
 obtain ⟨y182, hy182⟩ : ∃ y_ : List Int, y_ = (([] : List Int)) := ⟨_, rfl⟩
 replace H : (spec_l01Plenty.l0 k l0 y182 0) = some r := by rw [hy182]; exact H
 have Ny182 := Aside0.mk hy182
 clear hy182
 have H' := Aside0.mk H
 clear H
 go_enter Try.func114, Try.ntmps114
 go_wp2_with (first | ((with_reducible refine gate_dst (N := 5) rfl ?_); refine Kd.R_lit (Kd.int .i64) _ 2 ?hg (N := 5) ?hd (xs := ([] : List Int)) (inner := []) (ok := fun _ => True) (okp := fun _ => True) ?hr ?hp (fun _ hk => hk) trivial (Below.refl _ _) (Nat.le_refl _) (by simp) ?_; (case hd => rfl); (case hg => rfl); (case hr => go_simp; try rfl); (case hp => exact (Reps.none _ _)); intro v183 w2 ho3 hb hg_ hnew_; clear hg_ hnew_; (first | rw [← Ny182.out] at ho3 | (simp only [Int.reduceToNat] at ho3; rw [← Ny182.out] at ho3)); have HO184 := Aside0.mk (Kd.R_lower ho3 (below_size HB.out)); replace HB := Aside0.mk (below_step HB.out hb); clear hb ho3))
 go_loopg [3, 4] k (fun kq v3 v4 w' => ∃ (x3_1 : List Int) (x4_1 : Int), v4 = .int .i64 x4_1 ∧ Aside0 (spec_l01Plenty.l0 kq l0 x3_1 x4_1 = some r) ∧ Aside0 (kq ≤ k) ∧ Aside0 (Kd.R (Kd.int .i64) 2 w' w.heap.size (fun _ => True) v3 x3_1) ∧ Aside0 (Below w.heap.size w w'))
 case atStart => exact ⟨(y182), (0), rfl, H', ⟨Nat.le_refl _⟩, ⟨HO184.out⟩, ⟨HB.out⟩⟩
 case round =>
  clear H'
  try clear c1
  try clear p2
  obtain ⟨x3_1, x4_1, rfl, HA, HK1, HO_3, HB⟩ := hrel
  cases gk with
  | zero => exact absurd HA.out (by simp [spec_l01Plenty.l0])
  | succ k1 =>
   have H := HA.out
   clear HA
   simp only [spec_l01Plenty.l0] at H
   by_cases c4 : x4_1 < (l0.length : Int)
   ·rw [if_pos c4] at H
    have c4b0 : decide (x4_1 < (l0.length : Int)) = true := decide_eq_true c4
    clear c4
    by_cases c5 : x3_1.length < 17592186044416
    rotate_left
    ·rw [if_neg c5] at H; exact absurd H (by simp)
    rw [if_pos c5] at H
    have LMc5 := Aside0.mk c5
    clear c5
    obtain ⟨y185, hy185⟩ : ∃ y_ : List Int, y_ = (x3_1 ++ [1000]) := ⟨_, rfl⟩
    replace H : (spec_l01Plenty.l0 k1 l0 y185 (wrap64 (x4_1 + 1))) = some r := by rw [hy185]; exact H
    have Ny185 := Aside0.mk hy185
    clear hy185
    have H' := Aside0.mk H
    clear H
    go_wp2_with (first | ((with_reducible refine gate_builtin (b := .append) (xs := #[.tmp 12, .tmp 13]) rfl ?_); at_builtin; refine Kd.R_append (Kd.int .i64) (w0 := w) w.heap.size rfl (.tmp 12) (.tmp 13) 34 2 (.int .i64 0) 8 rfl Try.underlying34 info2 rfl (by decide) (by omega) u3 x3_1 1000 [.int .i64 1000] (fun _ => True) (fun _ => False) rfl rfl ?aP (fun _ hk => hk.elim) ?aF ?aO ?aB ?aS ?aL ?_; (case aP => exact rfl); (case aB => exact HB.out); (case aF => exact (fun _ _ => trivial)); (case aO => exact HO_3.out); (case aS => exact (below_size HB.out)); (case aL => have := LMc5.out; omega); intro v186 w6 ho hb hg hat; rw [← Ny185.out] at ho; replace HB := Aside0.mk (hb); have HO187 := Aside0.mk (ho); clear HO_3; clear ho hb hg hat))
    go_roundg k1
    case measure => have := HK1.out; omega
    case rel => exact ⟨(y185), (wrap64 (x4_1 + 1)), rfl, H', ⟨by have := HK1.out; omega⟩, ⟨HO187.out⟩, ⟨HB.out⟩⟩
   ·rw [if_neg c4] at H
    have c4b0 : decide (x4_1 < (l0.length : Int)) = false := decide_eq_false c4
    clear c4
    obtain rfl := Option.some.inj H
    go_wp2
    go_ret
    exact ⟨_, rfl, HO_3.out, HB.out⟩

mutual
def spec_l01Counts.l0 : Nat → List (List Int) → List Int → Int → List Int → Int → Option (List Int)
 | 0, _, _, _, _, _ => none
 | k + 1, x0, x1, x2, x7, x8 => if x8 < (x1.length : Int) then (spec_l01Counts.l1 k x0 x1 x2 x7 x8 0) else (some x7)
def spec_l01Counts.l1 : Nat → List (List Int) → List Int → Int → List Int → Int → Int → Option (List Int)
 | 0, _, _, _, _, _, _ => none
 | k + 1, x0, x1, x2, x7, x8, x9 => if 0 ≤ x8 then (if x8 < (x1.length : Int) then (if (wrap64 (x9 * (rd x1 x8))) > x2 then (spec_l01Counts.l1 k x0 x1 x2 x7 x8 (wrap64 (x9 + 1))) else (if 0 ≤ (wrap64 (x8 + 1)) then (if (wrap64 (x8 + 1)) < (x0.length : Int) then (if 0 ≤ (wrap64 (x2 - (wrap64 (x9 * (rd x1 x8))))) then (if (wrap64 (x2 - (wrap64 (x9 * (rd x1 x8))))) < ((rd_L5 x0 (wrap64 (x8 + 1))).length : Int) then (if (rd (rd_L5 x0 (wrap64 (x8 + 1))) (wrap64 (x2 - (wrap64 (x9 * (rd x1 x8)))))) < 0 then (spec_l01Counts.l1 k x0 x1 x2 x7 x8 (wrap64 (x9 + 1))) else (if x8 < (x0.length : Int) then (if 0 ≤ x2 then (if x2 < ((rd_L5 x0 x8).length : Int) then (if (wrap64 ((rd (rd_L5 x0 (wrap64 (x8 + 1))) (wrap64 (x2 - (wrap64 (x9 * (rd x1 x8)))))) + x9)) = (rd (rd_L5 x0 x8) x2) then (if x7.length < 17592186044416 then (spec_l01Counts.l0 k x0 x1 (wrap64 (x2 - (wrap64 (x9 * (rd x1 x8))))) (x7 ++ [x9]) (wrap64 (x8 + 1))) else (none)) else (spec_l01Counts.l1 k x0 x1 x2 x7 x8 (wrap64 (x9 + 1)))) else (none)) else (none)) else (none))) else (none)) else (none)) else (none)) else (none))) else (none)) else (none)
end
def spec_l01Counts.f (k : Nat) (l0 : List (List Int)) (l1 : List Int) (a2 : Int) : Option (List Int) := spec_l01Counts.l0 k l0 l1 a2 (([] : List Int)) 0
theorem spec_l01Counts.mono_l : ∀ k, (∀ y0 y1 y2 y3 y4, LeO (spec_l01Counts.l0 k y0 y1 y2 y3 y4) (spec_l01Counts.l0 (k + 1) y0 y1 y2 y3 y4)) ∧ (∀ y0 y1 y2 y3 y4 y5, LeO (spec_l01Counts.l1 k y0 y1 y2 y3 y4 y5) (spec_l01Counts.l1 (k + 1) y0 y1 y2 y3 y4 y5))
 | 0 => ⟨fun _ _ _ _ _ r h => by simp [spec_l01Counts.l0] at h, fun _ _ _ _ _ _ r h => by simp [spec_l01Counts.l1] at h⟩
 | k + 1 => by
  obtain ⟨ih0, ih1⟩ := spec_l01Counts.mono_l k
  refine ⟨?_, ?_⟩ <;> intros <;> (first | unfold spec_l01Counts.l0 | unfold spec_l01Counts.l1) <;> repeat' first
  | (with_reducible exact ih0 _ _ _ _ _)
  | (with_reducible exact ih1 _ _ _ _ _ _)
  | (with_reducible exact LeO.refl _)
  | (with_reducible exact LeO.none _)
  | (with_reducible refine LeO.ite ?_ ?_)
  | (with_reducible refine LeO.bind ?_ (fun _ => ?_))
  | exact ih0 _ _ _ _ _
  | exact ih1 _ _ _ _ _ _
  | exact LeO.none _
  | refine LeO.ite ?_ ?_
  | refine LeO.bind ?_ (fun _ => ?_)
theorem spec_l01Counts.mono : ∀ a0 a1 a2 k, LeO (spec_l01Counts.f k a0 a1 a2) (spec_l01Counts.f (k + 1) a0 a1 a2) := by
 intro a0 a1 a2 k
 obtain ⟨ih0, ih1⟩ := spec_l01Counts.mono_l k
 unfold spec_l01Counts.f
 repeat' first
   | (with_reducible exact ih0 _ _ _ _ _)
   | (with_reducible exact ih1 _ _ _ _ _ _)
   | (with_reducible exact LeO.refl _)
   | (with_reducible exact LeO.none _)
   | (with_reducible refine LeO.ite ?_ ?_)
   | (with_reducible refine LeO.bind ?_ (fun _ => ?_))
   | exact ih0 _ _ _ _ _
   | exact ih1 _ _ _ _ _ _
   | exact LeO.none _
   | refine LeO.ite ?_ ?_
   | refine LeO.bind ?_ (fun _ => ?_)
set_option maxHeartbeats 8000000 in
set_option maxRecDepth 100000 in
theorem spec_l01Counts.calls (k : Nat) (A0 : Option Addr) (c0 : Nat) (l0 : List (List Int)) (A1 : Option Addr) (c1 : Nat) (l1 : List Int) (a2 : Int) (r : List Int) (w : World) (hr0 : Kd.C (Kd.slice 2 (Kd.int .i64)) w A0 l0.length l0) (hc0 : l0.length ≤ c0) (hr1 : Kd.C (Kd.int .i64) w A1 l1.length l1) (hc1 : l1.length ≤ c1) (h : spec_l01Counts.f k l0 l1 a2 = some r) :
  Calls Try.prog 115 #[.slice A0 l0.length c0, .slice A1 l1.length c1, .int .i64 a2] w fun e w' => ∃ v0_ : Value, e = .returned (v0_) ∧ Kd.R (Kd.int .i64) 2 w' w.heap.size (fun _ => True) v0_ r ∧ Below w.heap.size w w' := by
 have HR0 := Aside0.mk hr0
 have HC0 := Aside0.mk hc0
 clear hr0 hc0
 have HR1 := Aside0.mk hr1
 have HC1 := Aside0.mk hc1
 clear hr1 hc1
 have HB := Aside0.mk (Below.refl w.heap.size w)
 have H : (spec_l01Counts.l0 k l0 l1 a2 (([] : List Int)) 0) = some r := h
 clear h
 obtain ⟨y188, hy188⟩ : ∃ y_ : List Int, y_ = (([] : List Int)) := ⟨_, rfl⟩
 replace H : (spec_l01Counts.l0 k l0 l1 a2 y188 0) = some r := by rw [hy188]; exact H
 have Ny188 := Aside0.mk hy188
 clear hy188
 have H' := Aside0.mk H
 clear H
 go_enter Try.func115, Try.ntmps115
 go_wp2_with (first | ((with_reducible refine gate_dst (N := 10) rfl ?_); refine Kd.R_lit (Kd.int .i64) _ 2 ?hg (N := 10) ?hd (xs := ([] : List Int)) (inner := []) (ok := fun _ => True) (okp := fun _ => True) ?hr ?hp (fun _ hk => hk) trivial (Below.refl _ _) (Nat.le_refl _) (by simp) ?_; (case hd => rfl); (case hg => rfl); (case hr => go_simp; try rfl); (case hp => exact (Reps.none _ _)); intro v189 w4 ho5 hb hg_ hnew_; clear hg_ hnew_; (first | rw [← Ny188.out] at ho5 | (simp only [Int.reduceToNat] at ho5; rw [← Ny188.out] at ho5)); have HO190 := Aside0.mk (Kd.R_lower ho5 (below_size HB.out)); replace HB := Aside0.mk (below_step HB.out hb); clear hb ho5))
 repeat (go_quiet (fail); try go_wp2)
 go_loopg [2, 7, 8] k (fun kq v2 v7 v8 w' => ∃ (x2_1 : Int) (x7_1 : List Int) (x8_1 : Int), v2 = .int .i64 x2_1 ∧ v8 = .int .i64 x8_1 ∧ Aside0 (spec_l01Counts.l0 kq l0 l1 x2_1 x7_1 x8_1 = some r) ∧ Aside0 (kq ≤ k) ∧ Aside0 (Kd.R (Kd.int .i64) 2 w' w.heap.size (fun _ => True) v7 x7_1) ∧ Aside0 (Below w.heap.size w w'))
 case atStart => exact ⟨(a2), (y188), (0), rfl, rfl, H', ⟨Nat.le_refl _⟩, ⟨HO190.out⟩, ⟨HB.out⟩⟩
 case round =>
  clear H'
  try clear c1
  try clear p2
  obtain ⟨x2_1, x7_1, x8_1, rfl, rfl, HA, HK1, HO_7, HB⟩ := hrel
  cases gk with
  | zero => exact absurd HA.out (by simp [spec_l01Counts.l0])
  | succ k1 =>
   have H := HA.out
   clear HA
   simp only [spec_l01Counts.l0] at H
   by_cases c6 : x8_1 < (l1.length : Int)
   ·rw [if_pos c6] at H
    have c6b0 : decide (x8_1 < (l1.length : Int)) = true := decide_eq_true c6
    clear c6
    have H' := Aside0.mk H
    clear H
    go_wp2
    repeat (go_quiet (fail); try go_wp2)
    go_loopg [9] k1 (fun kq v9 w' => ∃ (x9_2 : Int), v9 = .int .i64 x9_2 ∧ Aside0 (spec_l01Counts.l1 kq l0 l1 x2_1 x7_1 x8_1 x9_2 = some r) ∧ Aside0 (kq ≤ k1) ∧ Aside0 (Kd.R (Kd.int .i64) 2 w' w.heap.size (fun _ => True) u7 x7_1) ∧ Aside0 (Below w.heap.size w w'))
    case atStart => exact ⟨(0), rfl, H', ⟨Nat.le_refl _⟩, ⟨HO_7.out⟩, ⟨HB.out⟩⟩
    case round =>
     clear H'
     try clear c1
     try clear p2
     try clear c6
     try clear c6b0
     try clear p2
     obtain ⟨x9_2, rfl, HA, HK2, HO_7, HB⟩ := hrel
     cases gk with
     | zero => exact absurd HA.out (by simp [spec_l01Counts.l1])
     | succ k2 =>
      have H := HA.out
      clear HA
      simp only [spec_l01Counts.l1] at H
      by_cases c7 : 0 ≤ x8_1
      rotate_left
      ·rw [if_neg c7] at H; exact absurd H (by simp)
      rw [if_pos c7] at H
      have c7b0 : decide (0 ≤ x8_1) = true := decide_eq_true c7
      clear c7
      by_cases c8 : x8_1 < (l1.length : Int)
      rotate_left
      ·rw [if_neg c8] at H; exact absurd H (by simp)
      rw [if_pos c8] at H
      have c8b0 : decide (x8_1 < (l1.length : Int)) = true := decide_eq_true c8
      clear c8
      by_cases c9 : (wrap64 (x9_2 * (rd l1 x8_1))) > x2_1
      ·rw [if_pos c9] at H
       have c9b0 : decide (x2_1 < (wrap64 (x9_2 * (rd l1 x8_1)))) = true := decide_eq_true c9
       clear c9
       have H' := Aside0.mk H
       clear H
       have p191 : 0 ≤ (x8_1 : Int) := of_decide_eq_true (by assumption)
       have q191 : x8_1 < (l1.length : Int) := of_decide_eq_true (by assumption)
       obtain ⟨ad191, e191, hx191_0⟩ := Kd.at_int HR1.out x8_1 p191 q191
       cases e191
       replace hx191_0 := (HB.out.cell (World.block_lt_of_cell? w _ hx191_0)).trans hx191_0
       replace p191 := eq_true p191
       replace q191 := eq_true q191
       go_wp2
       repeat (go_quiet (fail); try go_wp2)
       go_roundg k2
       case measure => have := HK1.out; have := HK2.out; omega
       case rel => exact ⟨(wrap64 (x9_2 + 1)), (by first | rfl | (simp; done) | (simp [*]; done)), H', ⟨by have := HK1.out; have := HK2.out; omega⟩, ⟨by (with_reducible repeat (first | apply Kd.R_alloc | apply Kd.R_drewN | apply Kd.R_drew)); exact HO_7.out⟩, ⟨by repeat (first | (with_reducible first | exact HB.out | apply below_alloc | apply pw_below_drewN | apply below_drew1) | exact HB.out)⟩⟩
      ·rw [if_neg c9] at H
       have c9b0 : decide (x2_1 < (wrap64 (x9_2 * (rd l1 x8_1)))) = false := decide_eq_false c9
       clear c9
       obtain ⟨ji10, hji10⟩ : ∃ j_ : Int, (wrap64 (x8_1 + 1)) = j_ := ⟨_, rfl⟩
       replace H : (if 0 ≤ (ji10) then (if (ji10) < (l0.length : Int) then (if 0 ≤ (wrap64 (x2_1 - (wrap64 (x9_2 * (rd l1 x8_1))))) then (if (wrap64 (x2_1 - (wrap64 (x9_2 * (rd l1 x8_1))))) < ((rd_L5 l0 (ji10)).length : Int) then (if (rd (rd_L5 l0 (ji10)) (wrap64 (x2_1 - (wrap64 (x9_2 * (rd l1 x8_1)))))) < 0 then (spec_l01Counts.l1 k2 l0 l1 x2_1 x7_1 x8_1 (wrap64 (x9_2 + 1))) else (if x8_1 < (l0.length : Int) then (if 0 ≤ x2_1 then (if x2_1 < ((rd_L5 l0 x8_1).length : Int) then (if (wrap64 ((rd (rd_L5 l0 (ji10)) (wrap64 (x2_1 - (wrap64 (x9_2 * (rd l1 x8_1)))))) + x9_2)) = (rd (rd_L5 l0 x8_1) x2_1) then (if x7_1.length < 17592186044416 then (spec_l01Counts.l0 k2 l0 l1 (wrap64 (x2_1 - (wrap64 (x9_2 * (rd l1 x8_1))))) (x7_1 ++ [x9_2]) ji10) else (none)) else (spec_l01Counts.l1 k2 l0 l1 x2_1 x7_1 x8_1 (wrap64 (x9_2 + 1)))) else (none)) else (none)) else (none))) else (none)) else (none)) else (none)) else (none)) = some r := by first | (rw [hji10] at H; exact H) | (simp only [hji10] at H ⊢; exact H)
       have hji10w : (IntKind.i64.wrap (x8_1 + 1)) = ji10 := (i64_w _).trans hji10
       by_cases c11 : 0 ≤ (ji10)
       rotate_left
       ·rw [if_neg c11] at H; exact absurd H (by simp)
       rw [if_pos c11] at H
       have c11b0 : decide (0 ≤ (ji10)) = true := decide_eq_true c11
       clear c11
       by_cases c12 : (ji10) < (l0.length : Int)
       rotate_left
       ·rw [if_neg c12] at H; exact absurd H (by simp)
       rw [if_pos c12] at H
       have c12b0 : decide ((ji10) < (l0.length : Int)) = true := decide_eq_true c12
       clear c12
       obtain ⟨ji13, hji13⟩ : ∃ j_ : Int, (wrap64 (x2_1 - (wrap64 (x9_2 * (rd l1 x8_1))))) = j_ := ⟨_, rfl⟩
       replace H : (if 0 ≤ (ji13) then (if (ji13) < ((rd_L5 l0 (ji10)).length : Int) then (if (rd (rd_L5 l0 (ji10)) (ji13)) < 0 then (spec_l01Counts.l1 k2 l0 l1 x2_1 x7_1 x8_1 (wrap64 (x9_2 + 1))) else (if x8_1 < (l0.length : Int) then (if 0 ≤ x2_1 then (if x2_1 < ((rd_L5 l0 x8_1).length : Int) then (if (wrap64 ((rd (rd_L5 l0 (ji10)) (ji13)) + x9_2)) = (rd (rd_L5 l0 x8_1) x2_1) then (if x7_1.length < 17592186044416 then (spec_l01Counts.l0 k2 l0 l1 ji13 (x7_1 ++ [x9_2]) ji10) else (none)) else (spec_l01Counts.l1 k2 l0 l1 x2_1 x7_1 x8_1 (wrap64 (x9_2 + 1)))) else (none)) else (none)) else (none))) else (none)) else (none)) = some r := by first | (rw [hji13] at H; exact H) | (simp only [hji13] at H ⊢; exact H)
       have hji13w : (IntKind.i64.wrap (x2_1 - (wrap64 (x9_2 * (rd l1 x8_1))))) = ji13 := (i64_w _).trans hji13
       by_cases c14 : 0 ≤ (ji13)
       rotate_left
       ·rw [if_neg c14] at H; exact absurd H (by simp)
       rw [if_pos c14] at H
       have c14b0 : decide (0 ≤ (ji13)) = true := decide_eq_true c14
       clear c14
       by_cases c15 : (ji13) < ((rd_L5 l0 (ji10)).length : Int)
       rotate_left
       ·rw [if_neg c15] at H; exact absurd H (by simp)
       rw [if_pos c15] at H
       have c15b0 : decide ((ji13) < ((rd_L5 l0 (ji10)).length : Int)) = true := decide_eq_true c15
       clear c15
       by_cases c16 : (rd (rd_L5 l0 (ji10)) (ji13)) < 0
       ·rw [if_pos c16] at H
        have c16b0 : decide ((rd (rd_L5 l0 (ji10)) (ji13)) < 0) = true := decide_eq_true c16
        clear c16
        have H' := Aside0.mk H
        clear H
        have p191 : 0 ≤ (x8_1 : Int) := of_decide_eq_true (by assumption)
        have q191 : x8_1 < (l1.length : Int) := of_decide_eq_true (by assumption)
        obtain ⟨ad191, e191, hx191_0⟩ := Kd.at_int HR1.out x8_1 p191 q191
        cases e191
        replace hx191_0 := (HB.out.cell (World.block_lt_of_cell? w _ hx191_0)).trans hx191_0
        replace p191 := eq_true p191
        replace q191 := eq_true q191
        have p192 : 0 ≤ ((ji10) : Int) := of_decide_eq_true (by assumption)
        have q192 : (ji10) < (l0.length : Int) := of_decide_eq_true (by assumption)
        obtain ⟨ad192, A192_0, c192_0, e192, hx192_0, hl192_0, hi192_0⟩ := at_L5 HR0.out (ji10) p192 q192
        cases e192
        replace hx192_0 := (HB.out.cell (World.block_lt_of_cell? w _ hx192_0)).trans hx192_0
        have HR192_0 := Aside0.mk hi192_0
        have HC192_0 := Aside0.mk hl192_0
        clear hi192_0 hl192_0
        replace p192 := eq_true p192
        replace q192 := eq_true q192
        have p193 : 0 ≤ (x8_1 : Int) := of_decide_eq_true (by assumption)
        have q193 : x8_1 < (l1.length : Int) := of_decide_eq_true (by assumption)
        obtain ⟨ad193, e193, hx193_0⟩ := Kd.at_int HR1.out x8_1 p193 q193
        obtain rfl : ad191 = ad193 := (by injection e193)
        replace hx193_0 := (HB.out.cell (World.block_lt_of_cell? w _ hx193_0)).trans hx193_0
        replace p193 := eq_true p193
        replace q193 := eq_true q193
        have p194 : 0 ≤ ((ji13) : Int) := of_decide_eq_true (by assumption)
        have q194 : (ji13) < ((rd_L5 l0 (ji10)).length : Int) := of_decide_eq_true (by assumption)
        obtain ⟨ad194, e194, hx194_0⟩ := Kd.at_int HR192_0.out (ji13) p194 q194
        cases e194
        replace hx194_0 := (HB.out.cell (World.block_lt_of_cell? w _ hx194_0)).trans hx194_0
        replace p194 := eq_true p194
        replace q194 := eq_true q194
        go_wp2
        repeat (go_quiet (fail); try go_wp2)
        go_roundg k2
        case measure => have := HK1.out; have := HK2.out; omega
        case rel => exact ⟨(wrap64 (x9_2 + 1)), (by first | rfl | (simp; done) | (simp [*]; done)), H', ⟨by have := HK1.out; have := HK2.out; omega⟩, ⟨by (with_reducible repeat (first | apply Kd.R_alloc | apply Kd.R_drewN | apply Kd.R_drew)); exact HO_7.out⟩, ⟨by repeat (first | (with_reducible first | exact HB.out | apply below_alloc | apply pw_below_drewN | apply below_drew1) | exact HB.out)⟩⟩
       ·rw [if_neg c16] at H
        have c16b0 : decide ((rd (rd_L5 l0 (ji10)) (ji13)) < 0) = false := decide_eq_false c16
        clear c16
        by_cases c17 : x8_1 < (l0.length : Int)
        rotate_left
        ·rw [if_neg c17] at H; exact absurd H (by simp)
        rw [if_pos c17] at H
        have c17b0 : decide (x8_1 < (l0.length : Int)) = true := decide_eq_true c17
        clear c17
        by_cases c18 : 0 ≤ x2_1
        rotate_left
        ·rw [if_neg c18] at H; exact absurd H (by simp)
        rw [if_pos c18] at H
        have c18b0 : decide (0 ≤ x2_1) = true := decide_eq_true c18
        clear c18
        by_cases c19 : x2_1 < ((rd_L5 l0 x8_1).length : Int)
        rotate_left
        ·rw [if_neg c19] at H; exact absurd H (by simp)
        rw [if_pos c19] at H
        have c19b0 : decide (x2_1 < ((rd_L5 l0 x8_1).length : Int)) = true := decide_eq_true c19
        clear c19
        by_cases c20 : (wrap64 ((rd (rd_L5 l0 (ji10)) (ji13)) + x9_2)) = (rd (rd_L5 l0 x8_1) x2_1)
        ·rw [if_pos c20] at H
         have c20b0 : ((wrap64 ((rd (rd_L5 l0 (ji10)) (ji13)) + x9_2)) == (rd (rd_L5 l0 x8_1) x2_1)) = true := beq_iff_eq.mpr c20
         have c20b1 : ((wrap64 ((rd (rd_L5 l0 (ji10)) (ji13)) + x9_2)) != (rd (rd_L5 l0 x8_1) x2_1)) = false := bne_eq_false_iff_eq.mpr c20
         clear c20
         by_cases c21 : x7_1.length < 17592186044416
         rotate_left
         ·rw [if_neg c21] at H; exact absurd H (by simp)
         rw [if_pos c21] at H
         have LMc21 := Aside0.mk c21
         clear c21
         obtain ⟨y200, hy200⟩ : ∃ y_ : List Int, y_ = (x7_1 ++ [x9_2]) := ⟨_, rfl⟩
         replace H : (spec_l01Counts.l0 k2 l0 l1 ji13 y200 ji10) = some r := by rw [hy200]; exact H
         have Ny200 := Aside0.mk hy200
         clear hy200
         have H' := Aside0.mk H
         clear H
         have p191 : 0 ≤ (x8_1 : Int) := of_decide_eq_true (by assumption)
         have q191 : x8_1 < (l1.length : Int) := of_decide_eq_true (by assumption)
         obtain ⟨ad191, e191, hx191_0⟩ := Kd.at_int HR1.out x8_1 p191 q191
         cases e191
         replace hx191_0 := (HB.out.cell (World.block_lt_of_cell? w _ hx191_0)).trans hx191_0
         replace p191 := eq_true p191
         replace q191 := eq_true q191
         have p192 : 0 ≤ ((ji10) : Int) := of_decide_eq_true (by assumption)
         have q192 : (ji10) < (l0.length : Int) := of_decide_eq_true (by assumption)
         obtain ⟨ad192, A192_0, c192_0, e192, hx192_0, hl192_0, hi192_0⟩ := at_L5 HR0.out (ji10) p192 q192
         cases e192
         replace hx192_0 := (HB.out.cell (World.block_lt_of_cell? w _ hx192_0)).trans hx192_0
         have HR192_0 := Aside0.mk hi192_0
         have HC192_0 := Aside0.mk hl192_0
         clear hi192_0 hl192_0
         replace p192 := eq_true p192
         replace q192 := eq_true q192
         have p193 : 0 ≤ (x8_1 : Int) := of_decide_eq_true (by assumption)
         have q193 : x8_1 < (l1.length : Int) := of_decide_eq_true (by assumption)
         obtain ⟨ad193, e193, hx193_0⟩ := Kd.at_int HR1.out x8_1 p193 q193
         obtain rfl : ad191 = ad193 := (by injection e193)
         replace hx193_0 := (HB.out.cell (World.block_lt_of_cell? w _ hx193_0)).trans hx193_0
         replace p193 := eq_true p193
         replace q193 := eq_true q193
         have p194 : 0 ≤ ((ji13) : Int) := of_decide_eq_true (by assumption)
         have q194 : (ji13) < ((rd_L5 l0 (ji10)).length : Int) := of_decide_eq_true (by assumption)
         obtain ⟨ad194, e194, hx194_0⟩ := Kd.at_int HR192_0.out (ji13) p194 q194
         cases e194
         replace hx194_0 := (HB.out.cell (World.block_lt_of_cell? w _ hx194_0)).trans hx194_0
         replace p194 := eq_true p194
         replace q194 := eq_true q194
         have p195 : 0 ≤ ((ji10) : Int) := of_decide_eq_true (by assumption)
         have q195 : (ji10) < (l0.length : Int) := of_decide_eq_true (by assumption)
         obtain ⟨ad195, A195_0, c195_0, e195, hx195_0, hl195_0, hi195_0⟩ := at_L5 HR0.out (ji10) p195 q195
         obtain rfl : ad192 = ad195 := (by injection e195)
         replace hx195_0 := (HB.out.cell (World.block_lt_of_cell? w _ hx195_0)).trans hx195_0
         have HR195_0 := Aside0.mk hi195_0
         have HC195_0 := Aside0.mk hl195_0
         clear hi195_0 hl195_0
         replace p195 := eq_true p195
         replace q195 := eq_true q195
         have ea_ := Option.some.inj (hx192_0.symm.trans hx195_0)
         injection ea_ with ea_ en_ ec_
         subst ea_
         subst ec_
         clear en_
         have p196 : 0 ≤ (x8_1 : Int) := of_decide_eq_true (by assumption)
         have q196 : x8_1 < (l1.length : Int) := of_decide_eq_true (by assumption)
         obtain ⟨ad196, e196, hx196_0⟩ := Kd.at_int HR1.out x8_1 p196 q196
         obtain rfl : ad191 = ad196 := (by injection e196)
         replace hx196_0 := (HB.out.cell (World.block_lt_of_cell? w _ hx196_0)).trans hx196_0
         replace p196 := eq_true p196
         replace q196 := eq_true q196
         have p197 : 0 ≤ ((ji13) : Int) := of_decide_eq_true (by assumption)
         have q197 : (ji13) < ((rd_L5 l0 (ji10)).length : Int) := of_decide_eq_true (by assumption)
         obtain ⟨ad197, e197, hx197_0⟩ := Kd.at_int HR195_0.out (ji13) p197 q197
         cases e197
         replace hx197_0 := (HB.out.cell (World.block_lt_of_cell? w _ hx197_0)).trans hx197_0
         replace p197 := eq_true p197
         replace q197 := eq_true q197
         have p198 : 0 ≤ (x8_1 : Int) := of_decide_eq_true (by assumption)
         have q198 : x8_1 < (l0.length : Int) := of_decide_eq_true (by assumption)
         obtain ⟨ad198, A198_0, c198_0, e198, hx198_0, hl198_0, hi198_0⟩ := at_L5 HR0.out x8_1 p198 q198
         obtain rfl : ad192 = ad198 := (by injection e198)
         replace hx198_0 := (HB.out.cell (World.block_lt_of_cell? w _ hx198_0)).trans hx198_0
         have HR198_0 := Aside0.mk hi198_0
         have HC198_0 := Aside0.mk hl198_0
         clear hi198_0 hl198_0
         replace p198 := eq_true p198
         replace q198 := eq_true q198
         have p199 : 0 ≤ (x2_1 : Int) := of_decide_eq_true (by assumption)
         have q199 : x2_1 < ((rd_L5 l0 x8_1).length : Int) := of_decide_eq_true (by assumption)
         obtain ⟨ad199, e199, hx199_0⟩ := Kd.at_int HR198_0.out x2_1 p199 q199
         cases e199
         replace hx199_0 := (HB.out.cell (World.block_lt_of_cell? w _ hx199_0)).trans hx199_0
         replace p199 := eq_true p199
         replace q199 := eq_true q199
         go_wp2_with (first | ((with_reducible refine gate_builtin (b := .append) (xs := #[.tmp 72, .tmp 74]) rfl ?_); at_builtin; refine Kd.R_append (Kd.int .i64) (w0 := w) w.heap.size rfl (.tmp 72) (.tmp 74) 34 2 (.int .i64 0) 8 rfl Try.underlying34 info2 rfl (by decide) (by omega) u7 x7_1 x9_2 [.int .i64 x9_2] (fun _ => True) (fun _ => False) rfl rfl ?aP (fun _ hk => hk.elim) ?aF ?aO ?aB ?aS ?aL ?_; (case aP => exact rfl); (case aB => exact HB.out); (case aF => exact (fun _ _ => trivial)); (case aO => exact HO_7.out); (case aS => exact (below_size HB.out)); (case aL => have := LMc21.out; omega); intro v201 w22 ho hb hg hat; rw [← Ny200.out] at ho; replace HB := Aside0.mk (hb); have HO202 := Aside0.mk (ho); clear HO_7; clear ho hb hg hat; have p203 : 0 ≤ (x8_1 : Int) := of_decide_eq_true (by assumption); have q203 : x8_1 < (l1.length : Int) := of_decide_eq_true (by assumption); obtain ⟨ad203, e203, hx203_0⟩ := Kd.at_int HR1.out x8_1 p203 q203; obtain rfl : ad191 = ad203 := (by injection e203); replace hx203_0 := (HB.out.cell (World.block_lt_of_cell? w _ hx203_0)).trans hx203_0; replace p203 := eq_true p203; replace q203 := eq_true q203))
         repeat (go_quiet (first | ((with_reducible refine gate_builtin (b := .append) (xs := #[.tmp 72, .tmp 74]) rfl ?_); at_builtin; refine Kd.R_append (Kd.int .i64) (w0 := w) w.heap.size rfl (.tmp 72) (.tmp 74) 34 2 (.int .i64 0) 8 rfl Try.underlying34 info2 rfl (by decide) (by omega) u7 x7_1 x9_2 [.int .i64 x9_2] (fun _ => True) (fun _ => False) rfl rfl ?aP (fun _ hk => hk.elim) ?aF ?aO ?aB ?aS ?aL ?_; (case aP => exact rfl); (case aB => exact (by repeat (first | (with_reducible first | exact HB.out | apply below_alloc | apply pw_below_drewN | apply below_drew1) | exact HB.out))); (case aF => exact (fun _ _ => trivial)); (case aO => exact (HO_7.out)); (case aS => exact (below_size (by repeat (first | (with_reducible first | exact HB.out | apply below_alloc | apply pw_below_drewN | apply below_drew1) | exact HB.out)))); (case aL => have := LMc21.out; omega); intro v201 w22 ho hb hg hat; rw [← Ny200.out] at ho; replace HB := Aside0.mk (hb); have HO202 := Aside0.mk (ho); clear HO_7; clear ho hb hg hat; have p203 : 0 ≤ (x8_1 : Int) := of_decide_eq_true (by assumption); have q203 : x8_1 < (l1.length : Int) := of_decide_eq_true (by assumption); obtain ⟨ad203, e203, hx203_0⟩ := Kd.at_int HR1.out x8_1 p203 q203; obtain rfl : ad191 = ad203 := (by injection e203); replace hx203_0 := (HB.out.cell (World.block_lt_of_cell? w _ hx203_0)).trans hx203_0; replace p203 := eq_true p203; replace q203 := eq_true q203)); try go_wp2_with (first | ((with_reducible refine gate_builtin (b := .append) (xs := #[.tmp 72, .tmp 74]) rfl ?_); at_builtin; refine Kd.R_append (Kd.int .i64) (w0 := w) w.heap.size rfl (.tmp 72) (.tmp 74) 34 2 (.int .i64 0) 8 rfl Try.underlying34 info2 rfl (by decide) (by omega) u7 x7_1 x9_2 [.int .i64 x9_2] (fun _ => True) (fun _ => False) rfl rfl ?aP (fun _ hk => hk.elim) ?aF ?aO ?aB ?aS ?aL ?_; (case aP => exact rfl); (case aB => exact (by repeat (first | (with_reducible first | exact HB.out | apply below_alloc | apply pw_below_drewN | apply below_drew1) | exact HB.out))); (case aF => exact (fun _ _ => trivial)); (case aO => exact (HO_7.out)); (case aS => exact (below_size (by repeat (first | (with_reducible first | exact HB.out | apply below_alloc | apply pw_below_drewN | apply below_drew1) | exact HB.out)))); (case aL => have := LMc21.out; omega); intro v201 w22 ho hb hg hat; rw [← Ny200.out] at ho; replace HB := Aside0.mk (hb); have HO202 := Aside0.mk (ho); clear HO_7; clear ho hb hg hat; have p203 : 0 ≤ (x8_1 : Int) := of_decide_eq_true (by assumption); have q203 : x8_1 < (l1.length : Int) := of_decide_eq_true (by assumption); obtain ⟨ad203, e203, hx203_0⟩ := Kd.at_int HR1.out x8_1 p203 q203; obtain rfl : ad191 = ad203 := (by injection e203); replace hx203_0 := (HB.out.cell (World.block_lt_of_cell? w _ hx203_0)).trans hx203_0; replace p203 := eq_true p203; replace q203 := eq_true q203)))
         go_roundg k2
         case measure => have := HK1.out; have := HK2.out; omega
         case rel => exact ⟨(ji13), (y200), (ji10), (by first | rfl | (simp; done) | (simp only [← hji13] <;> (first | rfl | simp)) | (simp [*]; done)), (by first | rfl | (simp; done) | (simp only [← hji10] <;> (first | rfl | simp)) | (simp [*]; done)), H', ⟨by have := HK1.out; have := HK2.out; omega⟩, ⟨HO202.out⟩, ⟨HB.out⟩⟩
        ·rw [if_neg c20] at H
         have c20b0 : ((wrap64 ((rd (rd_L5 l0 (ji10)) (ji13)) + x9_2)) == (rd (rd_L5 l0 x8_1) x2_1)) = false := beq_eq_false_iff_ne.mpr c20
         have c20b1 : ((wrap64 ((rd (rd_L5 l0 (ji10)) (ji13)) + x9_2)) != (rd (rd_L5 l0 x8_1) x2_1)) = true := bne_iff_ne.mpr c20
         have H' := Aside0.mk H
         clear H
         have p191 : 0 ≤ (x8_1 : Int) := of_decide_eq_true (by assumption)
         have q191 : x8_1 < (l1.length : Int) := of_decide_eq_true (by assumption)
         obtain ⟨ad191, e191, hx191_0⟩ := Kd.at_int HR1.out x8_1 p191 q191
         cases e191
         replace hx191_0 := (HB.out.cell (World.block_lt_of_cell? w _ hx191_0)).trans hx191_0
         replace p191 := eq_true p191
         replace q191 := eq_true q191
         have p192 : 0 ≤ ((ji10) : Int) := of_decide_eq_true (by assumption)
         have q192 : (ji10) < (l0.length : Int) := of_decide_eq_true (by assumption)
         obtain ⟨ad192, A192_0, c192_0, e192, hx192_0, hl192_0, hi192_0⟩ := at_L5 HR0.out (ji10) p192 q192
         cases e192
         replace hx192_0 := (HB.out.cell (World.block_lt_of_cell? w _ hx192_0)).trans hx192_0
         have HR192_0 := Aside0.mk hi192_0
         have HC192_0 := Aside0.mk hl192_0
         clear hi192_0 hl192_0
         replace p192 := eq_true p192
         replace q192 := eq_true q192
         have p193 : 0 ≤ (x8_1 : Int) := of_decide_eq_true (by assumption)
         have q193 : x8_1 < (l1.length : Int) := of_decide_eq_true (by assumption)
         obtain ⟨ad193, e193, hx193_0⟩ := Kd.at_int HR1.out x8_1 p193 q193
         obtain rfl : ad191 = ad193 := (by injection e193)
         replace hx193_0 := (HB.out.cell (World.block_lt_of_cell? w _ hx193_0)).trans hx193_0
         replace p193 := eq_true p193
         replace q193 := eq_true q193
         have p194 : 0 ≤ ((ji13) : Int) := of_decide_eq_true (by assumption)
         have q194 : (ji13) < ((rd_L5 l0 (ji10)).length : Int) := of_decide_eq_true (by assumption)
         obtain ⟨ad194, e194, hx194_0⟩ := Kd.at_int HR192_0.out (ji13) p194 q194
         cases e194
         replace hx194_0 := (HB.out.cell (World.block_lt_of_cell? w _ hx194_0)).trans hx194_0
         replace p194 := eq_true p194
         replace q194 := eq_true q194
         have p195 : 0 ≤ ((ji10) : Int) := of_decide_eq_true (by assumption)
         have q195 : (ji10) < (l0.length : Int) := of_decide_eq_true (by assumption)
         obtain ⟨ad195, A195_0, c195_0, e195, hx195_0, hl195_0, hi195_0⟩ := at_L5 HR0.out (ji10) p195 q195
         obtain rfl : ad192 = ad195 := (by injection e195)
         replace hx195_0 := (HB.out.cell (World.block_lt_of_cell? w _ hx195_0)).trans hx195_0
         have HR195_0 := Aside0.mk hi195_0
         have HC195_0 := Aside0.mk hl195_0
         clear hi195_0 hl195_0
         replace p195 := eq_true p195
         replace q195 := eq_true q195
         have ea_ := Option.some.inj (hx192_0.symm.trans hx195_0)
         injection ea_ with ea_ en_ ec_
         subst ea_
         subst ec_
         clear en_
         have p196 : 0 ≤ (x8_1 : Int) := of_decide_eq_true (by assumption)
         have q196 : x8_1 < (l1.length : Int) := of_decide_eq_true (by assumption)
         obtain ⟨ad196, e196, hx196_0⟩ := Kd.at_int HR1.out x8_1 p196 q196
         obtain rfl : ad191 = ad196 := (by injection e196)
         replace hx196_0 := (HB.out.cell (World.block_lt_of_cell? w _ hx196_0)).trans hx196_0
         replace p196 := eq_true p196
         replace q196 := eq_true q196
         have p197 : 0 ≤ ((ji13) : Int) := of_decide_eq_true (by assumption)
         have q197 : (ji13) < ((rd_L5 l0 (ji10)).length : Int) := of_decide_eq_true (by assumption)
         obtain ⟨ad197, e197, hx197_0⟩ := Kd.at_int HR195_0.out (ji13) p197 q197
         cases e197
         replace hx197_0 := (HB.out.cell (World.block_lt_of_cell? w _ hx197_0)).trans hx197_0
         replace p197 := eq_true p197
         replace q197 := eq_true q197
         have p198 : 0 ≤ (x8_1 : Int) := of_decide_eq_true (by assumption)
         have q198 : x8_1 < (l0.length : Int) := of_decide_eq_true (by assumption)
         obtain ⟨ad198, A198_0, c198_0, e198, hx198_0, hl198_0, hi198_0⟩ := at_L5 HR0.out x8_1 p198 q198
         obtain rfl : ad192 = ad198 := (by injection e198)
         replace hx198_0 := (HB.out.cell (World.block_lt_of_cell? w _ hx198_0)).trans hx198_0
         have HR198_0 := Aside0.mk hi198_0
         have HC198_0 := Aside0.mk hl198_0
         clear hi198_0 hl198_0
         replace p198 := eq_true p198
         replace q198 := eq_true q198
         have p199 : 0 ≤ (x2_1 : Int) := of_decide_eq_true (by assumption)
         have q199 : x2_1 < ((rd_L5 l0 x8_1).length : Int) := of_decide_eq_true (by assumption)
         obtain ⟨ad199, e199, hx199_0⟩ := Kd.at_int HR198_0.out x2_1 p199 q199
         cases e199
         replace hx199_0 := (HB.out.cell (World.block_lt_of_cell? w _ hx199_0)).trans hx199_0
         replace p199 := eq_true p199
         replace q199 := eq_true q199
         go_wp2
         repeat (go_quiet (fail); try go_wp2)
         go_roundg k2
         case measure => have := HK1.out; have := HK2.out; omega
         case rel => exact ⟨(wrap64 (x9_2 + 1)), (by first | rfl | (simp; done) | (simp [*]; done)), H', ⟨by have := HK1.out; have := HK2.out; omega⟩, ⟨by (with_reducible repeat (first | apply Kd.R_alloc | apply Kd.R_drewN | apply Kd.R_drew)); exact HO_7.out⟩, ⟨by repeat (first | (with_reducible first | exact HB.out | apply below_alloc | apply pw_below_drewN | apply below_drew1) | exact HB.out)⟩⟩
   ·rw [if_neg c6] at H
    have c6b0 : decide (x8_1 < (l1.length : Int)) = false := decide_eq_false c6
    clear c6
    obtain rfl := Option.some.inj H
    go_wp2
    repeat (go_quiet (fail); try go_wp2)
    go_ret
    exact ⟨_, rfl, HO_7.out, HB.out⟩

def f9z.f (k : Nat) (l0 : List Int) (a1 : Int) : Option (List Int × Int × Int) := (spec_l01Postage.f a1).bind fun t204 => ((spec_l01Asked.f k l0 t204).bind fun t205 => (if t205 = 0 then ((spec_l01Plenty.f k l0).bind fun t209 => ((spec_l01Table.f k l0 t209 a1).bind fun t212 => (if 0 < (t212.length : Int) then (if 0 ≤ a1 then (if a1 < ((rd_L5 t212 0).length : Int) then (if (rd (rd_L5 t212 0) a1) < 0 then (some ((([] : List Int)), 0, 6)) else ((spec_l01Counts.f k t212 l0 a1).bind fun t220 => (some (t220, rd (rd_L5 t212 0) a1, 0)))) else (none)) else (none)) else (none)))) else (some ((([] : List Int)), 0, t205))))
theorem f9z.mono : ∀ a0 a1 k, LeO (f9z.f k a0 a1) (f9z.f (k + 1) a0 a1) := by
 intro a0 a1 k
 unfold f9z.f
 repeat' first
   | (with_reducible exact spec_l01Asked.mono _ _ _)
   | (with_reducible exact spec_l01Counts.mono _ _ _ _)
   | (with_reducible exact spec_l01Plenty.mono _ _)
   | (with_reducible exact spec_l01Table.mono _ _ _ _)
   | (with_reducible exact LeO.refl _)
   | (with_reducible exact LeO.none _)
   | (with_reducible refine LeO.ite ?_ ?_)
   | (with_reducible refine LeO.bind ?_ (fun _ => ?_))
   | exact spec_l01Asked.mono _ _ _
   | exact spec_l01Counts.mono _ _ _ _
   | exact spec_l01Plenty.mono _ _
   | exact spec_l01Table.mono _ _ _ _
   | exact LeO.none _
   | refine LeO.ite ?_ ?_
   | refine LeO.bind ?_ (fun _ => ?_)
def f9z.T7 : Bool × List (List Nat × List Nat) := (true, [([], []), ([], []), ([], []), ([0, 1, 2], [0, 1, 2]), ([], []), ([4], [4]), ([5], [5]), ([], []), ([6, 7], [6, 7]), ([8], [8]), ([3, 3, 0, 1, 2, 3], [3]), ([9, 10, 0, 1, 2, 3, 4, 5, 6, 7, 8, 9, 10], [9]), ([11, 0, 1, 2, 3, 4, 5, 6, 7, 8, 9, 10, 11], [])])
def f9z.B7 : List Nat := [0, 0, 0, 7, 0, 16, 48, 0, 240, 496, 15, 2047, 4095]
theorem f9z.tab7 : rtab .any (opsOf Try.f87 7) = f9z.T7 := by kernel_rfl
theorem f9z.bits7 : waitsOk f9z.T7.2 f9z.B7 = true := by kernel_rfl
set_option maxHeartbeats 8000000 in
set_option maxRecDepth 100000 in
theorem f9z.calls (k : Nat) (A0 : Option Addr) (c0 : Nat) (l0 : List Int) (a1 : Int) (r1 : List Int) (r2 : Int) (r3 : Int) (w : World) (hr0 : Kd.C (Kd.int .i64) w A0 l0.length l0) (hc0 : l0.length ≤ c0) (h : f9z.f k l0 a1 = some (r1, r2, r3)) :
  Calls Try.prog 87 #[.slice A0 l0.length c0, .int .i64 a1] w fun e w' => ∃ v0_ : Value, e = .returned (.tuple #[v0_, .int .i64 r2, .int .i64 r3]) ∧ Kd.R (Kd.int .i64) 2 w' w.heap.size (fun _ => True) v0_ r1 ∧ Below w.heap.size w w' := by
 have HR0 := Aside0.mk hr0
 have HC0 := Aside0.mk hc0
 clear hr0 hc0
 have HB := Aside0.mk (Below.refl w.heap.size w)
 have H : ((spec_l01Postage.f a1).bind fun t204 => ((spec_l01Asked.f k l0 t204).bind fun t205 => (if t205 = 0 then ((spec_l01Plenty.f k l0).bind fun t209 => ((spec_l01Table.f k l0 t209 a1).bind fun t212 => (if 0 < (t212.length : Int) then (if 0 ≤ a1 then (if a1 < ((rd_L5 t212 0).length : Int) then (if (rd (rd_L5 t212 0) a1) < 0 then (some ((([] : List Int)), 0, 6)) else ((spec_l01Counts.f k t212 l0 a1).bind fun t220 => (some (t220, rd (rd_L5 t212 0) a1, 0)))) else (none)) else (none)) else (none)))) else (some ((([] : List Int)), 0, t205))))) = some (r1, r2, r3) := h
 clear h
 replace H := Option.bind_eq_some_iff.mp H
 obtain ⟨t204, A30, H⟩ := H
 replace H : ((spec_l01Asked.f k l0 t204).bind fun t205 => (if t205 = 0 then ((spec_l01Plenty.f k l0).bind fun t209 => ((spec_l01Table.f k l0 t209 a1).bind fun t212 => (if 0 < (t212.length : Int) then (if 0 ≤ a1 then (if a1 < ((rd_L5 t212 0).length : Int) then (if (rd (rd_L5 t212 0) a1) < 0 then (some ((([] : List Int)), 0, 6)) else ((spec_l01Counts.f k t212 l0 a1).bind fun t220 => (some (t220, rd (rd_L5 t212 0) a1, 0)))) else (none)) else (none)) else (none)))) else (some ((([] : List Int)), 0, t205)))) = some (r1, r2, r3) := H
 have A3 := Aside0.mk A30
 clear A30
 replace H := Option.bind_eq_some_iff.mp H
 obtain ⟨t205, A40, H⟩ := H
 replace H : (if t205 = 0 then ((spec_l01Plenty.f k l0).bind fun t209 => ((spec_l01Table.f k l0 t209 a1).bind fun t212 => (if 0 < (t212.length : Int) then (if 0 ≤ a1 then (if a1 < ((rd_L5 t212 0).length : Int) then (if (rd (rd_L5 t212 0) a1) < 0 then (some ((([] : List Int)), 0, 6)) else ((spec_l01Counts.f k t212 l0 a1).bind fun t220 => (some (t220, rd (rd_L5 t212 0) a1, 0)))) else (none)) else (none)) else (none)))) else (some ((([] : List Int)), 0, t205))) = some (r1, r2, r3) := H
 have A4 := Aside0.mk A40
 clear A40
 by_cases c5 : t205 = 0
 ·rw [if_pos c5] at H
  have c5b0 : (t205 == 0) = true := beq_iff_eq.mpr c5
  have c5b1 : (t205 != 0) = false := bne_eq_false_iff_eq.mpr c5
  clear c5
  replace H := Option.bind_eq_some_iff.mp H
  obtain ⟨t209, A60, H⟩ := H
  replace H : ((spec_l01Table.f k l0 t209 a1).bind fun t212 => (if 0 < (t212.length : Int) then (if 0 ≤ a1 then (if a1 < ((rd_L5 t212 0).length : Int) then (if (rd (rd_L5 t212 0) a1) < 0 then (some ((([] : List Int)), 0, 6)) else ((spec_l01Counts.f k t212 l0 a1).bind fun t220 => (some (t220, rd (rd_L5 t212 0) a1, 0)))) else (none)) else (none)) else (none))) = some (r1, r2, r3) := H
  have A6 := Aside0.mk A60
  clear A60
  replace H := Option.bind_eq_some_iff.mp H
  obtain ⟨t212, A70, H⟩ := H
  replace H : (if 0 < (t212.length : Int) then (if 0 ≤ a1 then (if a1 < ((rd_L5 t212 0).length : Int) then (if (rd (rd_L5 t212 0) a1) < 0 then (some ((([] : List Int)), 0, 6)) else ((spec_l01Counts.f k t212 l0 a1).bind fun t220 => (some (t220, rd (rd_L5 t212 0) a1, 0)))) else (none)) else (none)) else (none)) = some (r1, r2, r3) := H
  have A7 := Aside0.mk A70
  clear A70
  by_cases c8 : 0 < (t212.length : Int)
  rotate_left
  ·rw [if_neg c8] at H; exact absurd H (by simp)
  rw [if_pos c8] at H
  have c8b0 : decide (0 < (t212.length : Int)) = true := decide_eq_true c8
  have c8b1 : decide (0 < t212.length) = true := decide_eq_true (by omega)
  clear c8
  by_cases c9 : 0 ≤ a1
  rotate_left
  ·rw [if_neg c9] at H; exact absurd H (by simp)
  rw [if_pos c9] at H
  have c9b0 : decide (0 ≤ a1) = true := decide_eq_true c9
  clear c9
  by_cases c10 : a1 < ((rd_L5 t212 0).length : Int)
  rotate_left
  ·rw [if_neg c10] at H; exact absurd H (by simp)
  rw [if_pos c10] at H
  have c10b0 : decide (a1 < ((rd_L5 t212 0).length : Int)) = true := decide_eq_true c10
  clear c10
  by_cases c11 : (rd (rd_L5 t212 0) a1) < 0
  ·rw [if_pos c11] at H
   have c11b0 : decide ((rd (rd_L5 t212 0) a1) < 0) = true := decide_eq_true c11
   clear c11
   obtain ⟨y217, hy217⟩ : ∃ y_ : List Int, y_ = (([] : List Int)) := ⟨_, rfl⟩
   replace H : (some (y217, 0, 6)) = some (r1, r2, r3) := by rw [hy217]; exact H
   have Ny217 := Aside0.mk hy217
   clear hy217
   simp only [Option.some.injEq, Prod.mk.injEq] at H
   obtain ⟨rfl, rfl, rfl⟩ := H
   go_enter Try.func87, Try.ntmps87
   go_wp2_with (first | ((with_reducible refine gate_callee (f := 112) rfl ?_); refine goesL_ (some 11) rfl rfl Try.func112 (by kernel_rfl) rfl #[.int .i64 a1] rfl (by simp only [List.map_toArray, List.map_cons, List.map_nil]; try rfl) ?_; (with_reducible refine (spec_l01Postage.calls a1 t204 _ A3.out).mono ?_); rintro e w' ⟨rfl, ⟨nd, rfl⟩⟩; refine ⟨_, rfl, ?_⟩) | ((with_reducible refine gate_callee (f := 111) rfl ?_); refine goesL_ (some 12) rfl rfl Try.func111 (by kernel_rfl) rfl #[.slice A0 l0.length c0, .bool t204] rfl (by simp only [List.map_toArray, List.map_cons, List.map_nil]; try rfl) ?_; (with_reducible refine (spec_l01Asked.calls k _ _ l0 t204 t205 _ ?side1 ?side2 A4.out).mono ?_); (case side1 => exact HR0.out); (case side2 => exact HC0.out); rintro e w' ⟨rfl, ⟨nd, rfl⟩⟩; refine ⟨_, rfl, ?_⟩) | ((with_reducible refine gate_callee (f := 114) rfl ?_); refine goesL_ (some 19) rfl rfl Try.func114 (by kernel_rfl) rfl #[.slice A0 l0.length c0] rfl (by simp only [List.map_toArray, List.map_cons, List.map_nil]; try rfl) ?_; (with_reducible refine (spec_l01Plenty.calls k _ _ l0 t209 _ ?side1 ?side2 A6.out).mono ?_); (case side1 => exact HR0.out); (case side2 => exact HC0.out); rintro e w12 ⟨v210, rfl, ho0, hb⟩; refine ⟨_, rfl, ?_⟩; have HO211 := Aside0.mk (Kd.R_lower ho0 (below_size (by repeat (first | (with_reducible first | exact HB.out | apply below_alloc | apply pw_below_drewN | apply below_drew1) | exact HB.out)))); replace HB := Aside0.mk (below_step (by repeat (first | (with_reducible first | exact HB.out | apply below_alloc | apply pw_below_drewN | apply below_drew1) | exact HB.out)) hb); obtain ⟨Ao13, co13, eo13⟩ := Kd.R_slice HO211.out; subst eo13) | ((with_reducible refine gate_callee (f := 113) rfl ?_); refine goesL_ (some 21) rfl rfl Try.func113 (by kernel_rfl) rfl #[.slice A0 l0.length c0, .slice Ao13 t209.length co13, .int .i64 a1] rfl (by simp only [List.map_toArray, List.map_cons, List.map_nil]; try rfl) ?_; (with_reducible refine (spec_l01Table.calls k _ _ l0 _ _ t209 a1 t212 _ ?side1 ?side2 ?side3 ?side4 A7.out).mono ?_); (case side1 => exact (Kd.C_below HR0.out HB.out)); (case side2 => exact HC0.out); (case side3 => exact (Kd.R_reads' HO211.out).2.2); (case side4 => exact (Kd.R_reads' HO211.out).2.1); rintro e w14 ⟨v213, rfl, ho0, hb⟩; refine ⟨_, rfl, ?_⟩; have HO214 := Aside0.mk (Kd.N_lower (Kd.N_mono (ok' := fun k_ => some k_ ≠ (.slice Ao13 t209.length co13 : Value).ownBlock) ho0 (fun k_ hk_ => (Kd.fresh' (Kd.R_lt (HO211.out)) k_ hk_))) (below_size (by repeat (first | (with_reducible first | exact HB.out | apply below_alloc | apply pw_below_drewN | apply below_drew1) | exact HB.out)))); replace HO211 := Aside0.mk (Kd.R_below (HO211.out) hb); replace HB := Aside0.mk (below_step (by repeat (first | (with_reducible first | exact HB.out | apply below_alloc | apply pw_below_drewN | apply below_drew1) | exact HB.out)) hb); obtain ⟨Ao15, co15, eo15⟩ := Kd.N_slice HO214.out; subst eo15; have p215 : 0 ≤ (0 : Int) := (by omega); have q215 : 0 < (t212.length : Int) := of_decide_eq_true (by assumption); obtain ⟨ad215, A215_0, c215_0, e215, hx215_0, hl215_0, hi215_0⟩ := at_L5 (Kd.N_reads' HO214.out).2.2 0 p215 q215; cases e215; obtain ⟨ce215, hce215, hMe215, hcc215⟩ := Kd.N_get HO214.out [] 0 p215 (by first | exact q215 | exact of_decide_eq_true (by assumption) | (have e_ := (Kd.N_reads' HO214.out).1; omega)); obtain ⟨ua215_0, uc215_0, rfl, ul215_0, ge215_0⟩ := Kd.FK_slice_open hMe215; have hv215_0 := hcc215 0 _ rfl; rw [Nat.add_zero, show ((Kd.slice 2 (Kd.int .i64))).sz = 1 from rfl, Nat.mul_one] at hv215_0; replace hv215_0 := Option.some.inj (hv215_0.symm.trans hx215_0); injection hv215_0 with hva_ hvn_ hvc_; rw [hva_] at ge215_0; rw [hvc_] at ul215_0; have HL215_0 := Aside0.mk (show Kd.V (Kd.int .i64) 2 _ w.heap.size _ _ (rd_L5 t212 0) from Kd.V_mk ul215_0 ge215_0); clear hva_ hvn_ hvc_ ge215_0 ul215_0; clear hcc215 hce215; have qi215 : (0 < t212.length) = True := eq_true (by omega); (try rw [show ((0 : Int)).toNat = 0 from rfl] at hx215_0); (try rw [Addr.add_zero'] at hx215_0); have HR215_0 := Aside0.mk hi215_0; have HC215_0 := Aside0.mk hl215_0; clear hi215_0 hl215_0; replace p215 := eq_true p215; replace q215 := eq_true q215; have p216 : 0 ≤ (a1 : Int) := of_decide_eq_true (by assumption); have q216 : a1 < ((rd_L5 t212 0).length : Int) := of_decide_eq_true (by assumption); obtain ⟨ad216, e216, hx216_0⟩ := Kd.at_int (by repeat (first | (with_reducible exact HR215_0.out) | (with_reducible refine Kd.C_alloc ?_ _) | (with_reducible refine Kd.C_drewN ?_ _) | (with_reducible refine Kd.C_drew ?_) | exact HR215_0.out)) a1 p216 q216; cases e216; replace p216 := eq_true p216; replace q216 := eq_true q216) | ((with_reducible refine gate_dst (N := 29) rfl ?_); refine Kd.R_lit (Kd.int .i64) _ 2 ?hg (N := 29) ?hd (xs := ([] : List Int)) (inner := []) (ok := fun _ => True) (okp := fun _ => True) ?hr ?hp (fun _ hk => hk) trivial (Below.refl _ _) (Nat.le_refl _) (by simp) ?_; (case hd => rfl); (case hg => rfl); (case hr => go_simp; try rfl); (case hp => exact (Reps.none _ _)); intro v218 w16 ho17 hb hg_ hnew_; clear hg_ hnew_; (first | rw [← Ny217.out] at ho17 | (simp only [Int.reduceToNat] at ho17; rw [← Ny217.out] at ho17)); replace HO214 := Aside0.mk (Kd.N_elder' (HO214.out) (Kd.R_base ho17) hb); replace HL215_0 := Aside0.mk (Kd.V_elder' (HL215_0.out) (Kd.R_base ho17) hb); have HO219 := Aside0.mk (Kd.R_lower (Kd.R_new' ho17 (Kd.R_lt (HO211.out))) (below_size (by repeat (first | (with_reducible first | exact HB.out | apply below_alloc | apply pw_below_drewN | apply below_drew1) | exact HB.out)))); replace HO211 := Aside0.mk (Kd.R_elder' (HO211.out) (Kd.R_base ho17) hb); replace HR215_0 := Aside0.mk (Kd.C_below (by repeat (first | (with_reducible exact HR215_0.out) | (with_reducible refine Kd.C_alloc ?_ _) | (with_reducible refine Kd.C_drewN ?_ _) | (with_reducible refine Kd.C_drew ?_) | exact HR215_0.out)) hb); replace HB := Aside0.mk (below_step (by repeat (first | (with_reducible first | exact HB.out | apply below_alloc | apply pw_below_drewN | apply below_drew1) | exact HB.out)) hb); clear hb ho17))
   go_ret3
   exact ⟨_, rfl, Kd.R_mono HO219.out (fun _ hk => trivial), HB.out⟩
  ·rw [if_neg c11] at H
   have c11b0 : decide ((rd (rd_L5 t212 0) a1) < 0) = false := decide_eq_false c11
   clear c11
   replace H := Option.bind_eq_some_iff.mp H
   obtain ⟨t220, A180, H⟩ := H
   replace H : (some (t220, rd (rd_L5 t212 0) a1, 0)) = some (r1, r2, r3) := H
   have A18 := Aside0.mk A180
   clear A180
   simp only [Option.some.injEq, Prod.mk.injEq] at H
   obtain ⟨rfl, rfl, rfl⟩ := H
   go_enter Try.func87, Try.ntmps87
   try go_wp2_with (first | ((with_reducible refine gate_callee (f := 112) rfl ?_); refine goesL_ (some 11) rfl rfl Try.func112 (by kernel_rfl) rfl #[.int .i64 a1] rfl (by simp only [List.map_toArray, List.map_cons, List.map_nil]; try rfl) ?_; (with_reducible refine (spec_l01Postage.calls a1 t204 _ A3.out).mono ?_); rintro e w' ⟨rfl, ⟨nd, rfl⟩⟩; refine ⟨_, rfl, ?_⟩) | ((with_reducible refine gate_callee (f := 111) rfl ?_); refine goesL_ (some 12) rfl rfl Try.func111 (by kernel_rfl) rfl #[.slice A0 l0.length c0, .bool t204] rfl (by simp only [List.map_toArray, List.map_cons, List.map_nil]; try rfl) ?_; (with_reducible refine (spec_l01Asked.calls k _ _ l0 t204 t205 _ ?side1 ?side2 A4.out).mono ?_); (case side1 => exact HR0.out); (case side2 => exact HC0.out); rintro e w' ⟨rfl, ⟨nd, rfl⟩⟩; refine ⟨_, rfl, ?_⟩) | ((with_reducible refine gate_callee (f := 114) rfl ?_); refine goesL_ (some 19) rfl rfl Try.func114 (by kernel_rfl) rfl #[.slice A0 l0.length c0] rfl (by simp only [List.map_toArray, List.map_cons, List.map_nil]; try rfl) ?_; (with_reducible refine (spec_l01Plenty.calls k _ _ l0 t209 _ ?side1 ?side2 A6.out).mono ?_); (case side1 => exact HR0.out); (case side2 => exact HC0.out); rintro e w19 ⟨v210, rfl, ho0, hb⟩; refine ⟨_, rfl, ?_⟩; have HO211 := Aside0.mk (Kd.R_lower ho0 (below_size (by repeat (first | (with_reducible first | exact HB.out | apply below_alloc | apply pw_below_drewN | apply below_drew1) | exact HB.out)))); replace HB := Aside0.mk (below_step (by repeat (first | (with_reducible first | exact HB.out | apply below_alloc | apply pw_below_drewN | apply below_drew1) | exact HB.out)) hb); obtain ⟨Ao20, co20, eo20⟩ := Kd.R_slice HO211.out; subst eo20) | ((with_reducible refine gate_callee (f := 113) rfl ?_); refine goesL_ (some 21) rfl rfl Try.func113 (by kernel_rfl) rfl #[.slice A0 l0.length c0, .slice Ao20 t209.length co20, .int .i64 a1] rfl (by simp only [List.map_toArray, List.map_cons, List.map_nil]; try rfl) ?_; (with_reducible refine (spec_l01Table.calls k _ _ l0 _ _ t209 a1 t212 _ ?side1 ?side2 ?side3 ?side4 A7.out).mono ?_); (case side1 => exact (Kd.C_below HR0.out HB.out)); (case side2 => exact HC0.out); (case side3 => exact (Kd.R_reads' HO211.out).2.2); (case side4 => exact (Kd.R_reads' HO211.out).2.1); rintro e w21 ⟨v213, rfl, ho0, hb⟩; refine ⟨_, rfl, ?_⟩; have HO214 := Aside0.mk (Kd.N_lower (Kd.N_mono (ok' := fun k_ => some k_ ≠ (.slice Ao20 t209.length co20 : Value).ownBlock) ho0 (fun k_ hk_ => (Kd.fresh' (Kd.R_lt (HO211.out)) k_ hk_))) (below_size (by repeat (first | (with_reducible first | exact HB.out | apply below_alloc | apply pw_below_drewN | apply below_drew1) | exact HB.out)))); replace HO211 := Aside0.mk (Kd.R_below (HO211.out) hb); replace HB := Aside0.mk (below_step (by repeat (first | (with_reducible first | exact HB.out | apply below_alloc | apply pw_below_drewN | apply below_drew1) | exact HB.out)) hb); obtain ⟨Ao22, co22, eo22⟩ := Kd.N_slice HO214.out; subst eo22; have p215 : 0 ≤ (0 : Int) := (by omega); have q215 : 0 < (t212.length : Int) := of_decide_eq_true (by assumption); obtain ⟨ad215, A215_0, c215_0, e215, hx215_0, hl215_0, hi215_0⟩ := at_L5 (Kd.N_reads' HO214.out).2.2 0 p215 q215; cases e215; obtain ⟨ce215, hce215, hMe215, hcc215⟩ := Kd.N_get HO214.out [] 0 p215 (by first | exact q215 | exact of_decide_eq_true (by assumption) | (have e_ := (Kd.N_reads' HO214.out).1; omega)); obtain ⟨ua215_0, uc215_0, rfl, ul215_0, ge215_0⟩ := Kd.FK_slice_open hMe215; have hv215_0 := hcc215 0 _ rfl; rw [Nat.add_zero, show ((Kd.slice 2 (Kd.int .i64))).sz = 1 from rfl, Nat.mul_one] at hv215_0; replace hv215_0 := Option.some.inj (hv215_0.symm.trans hx215_0); injection hv215_0 with hva_ hvn_ hvc_; rw [hva_] at ge215_0; rw [hvc_] at ul215_0; have HL215_0 := Aside0.mk (show Kd.V (Kd.int .i64) 2 _ w.heap.size _ _ (rd_L5 t212 0) from Kd.V_mk ul215_0 ge215_0); clear hva_ hvn_ hvc_ ge215_0 ul215_0; clear hcc215 hce215; have qi215 : (0 < t212.length) = True := eq_true (by omega); (try rw [show ((0 : Int)).toNat = 0 from rfl] at hx215_0); (try rw [Addr.add_zero'] at hx215_0); have HR215_0 := Aside0.mk hi215_0; have HC215_0 := Aside0.mk hl215_0; clear hi215_0 hl215_0; replace p215 := eq_true p215; replace q215 := eq_true q215; have p216 : 0 ≤ (a1 : Int) := of_decide_eq_true (by assumption); have q216 : a1 < ((rd_L5 t212 0).length : Int) := of_decide_eq_true (by assumption); obtain ⟨ad216, e216, hx216_0⟩ := Kd.at_int (by repeat (first | (with_reducible exact HR215_0.out) | (with_reducible refine Kd.C_alloc ?_ _) | (with_reducible refine Kd.C_drewN ?_ _) | (with_reducible refine Kd.C_drew ?_) | exact HR215_0.out)) a1 p216 q216; cases e216; replace p216 := eq_true p216; replace q216 := eq_true q216))
   replace HO211 := Aside0.mk (Kd.R_drew HO211.out)
   replace HO214 := Aside0.mk (Kd.N_drew HO214.out)
   replace HL215_0 := Aside0.mk (Kd.V_drew HL215_0.out)
   replace HR215_0 := Aside0.mk (Kd.C_drew HR215_0.out)
   replace HB := Aside0.mk (below_drew1 HB.out)
   have p223 : 0 ≤ (0 : Int) := (by omega)
   have q223 : 0 < (t212.length : Int) := of_decide_eq_true (by assumption)
   obtain ⟨ad223, A223_0, c223_0, e223, hx223_0, hl223_0, hi223_0⟩ := at_L5 (Kd.N_reads' HO214.out).2.2 0 p223 q223
   obtain rfl : ad215 = ad223 := (by injection e223)
   obtain ⟨ce223, hce223, hMe223, hcc223⟩ := Kd.N_get HO214.out [] 0 p223 (by first | exact q223 | exact of_decide_eq_true (by assumption) | (have e_ := (Kd.N_reads' HO214.out).1; omega))
   obtain ⟨ua223_0, uc223_0, rfl, ul223_0, ge223_0⟩ := Kd.FK_slice_open hMe223
   have hv223_0 := hcc223 0 _ rfl
   rw [Nat.add_zero, show ((Kd.slice 2 (Kd.int .i64))).sz = 1 from rfl, Nat.mul_one] at hv223_0
   replace hv223_0 := Option.some.inj (hv223_0.symm.trans hx223_0)
   injection hv223_0 with hva_ hvn_ hvc_
   rw [hva_] at ge223_0
   rw [hvc_] at ul223_0
   have HL223_0 := Aside0.mk (show Kd.V (Kd.int .i64) 2 _ w.heap.size _ _ (rd_L5 t212 0) from Kd.V_mk ul223_0 ge223_0)
   clear hva_ hvn_ hvc_ ge223_0 ul223_0
   clear hcc223 hce223
   have qi223 : (0 < t212.length) = True := eq_true (by omega)
   (try rw [show ((0 : Int)).toNat = 0 from rfl] at hx223_0)
   (try rw [Addr.add_zero'] at hx223_0)
   have HR223_0 := Aside0.mk hi223_0
   have HC223_0 := Aside0.mk hl223_0
   clear hi223_0 hl223_0
   replace p223 := eq_true p223
   replace q223 := eq_true q223
   have p224 : 0 ≤ (a1 : Int) := of_decide_eq_true (by assumption)
   have q224 : a1 < ((rd_L5 t212 0).length : Int) := of_decide_eq_true (by assumption)
   obtain ⟨ad224, e224, hx224_0⟩ := Kd.at_int HR223_0.out a1 p224 q224
   cases e224
   replace p224 := eq_true p224
   replace q224 := eq_true q224
   refine start_ (n := 13) (S := fun w' => w'.cell? ad215 = some (.slice (some ad224) (rd_L5 t212 0).length c223_0) ∧ w'.cell? (ad224.add (a1).toNat) = some (.int .i64 (rd (rd_L5 t212 0) a1))) (ds := []) #[false, false, false, false, false, false, false, false, false, false, false, false, false] (by kernel_rfl) rfl rfl ⟨hx223_0, hx224_0⟩ (fun hHeld => ?_); refine with_tabW f9z.tab7 f9z.bits7 (fun HT_ HW_ => ?_)
   generalize w21.drew = w23 at HO211 HO214 HL215_0 HR215_0 HB HL223_0 HR223_0 hx223_0 hx224_0 hHeld ⊢
   refine pu_ (i := 0) (N := some 30) (v := ?_) (a' := ?_) rfl rfl (any_of HT_.out (by kernel_rfl)) (fun _ _ _ h => h) (Or.inl ⟨by rfl, ?_⟩) ?_ ?_
   rotate_left; intro w'; go_simp; with_reducible rfl; rotate_left; simp only [Act.put, sA_, sZ_, sS_, i64_w, i32_w]; rfl
   refine pu_ (i := 1) (N := some 31) (v := ?_) (a' := ?_) rfl rfl (any_of HT_.out (by kernel_rfl)) (fun _ _ _ h => h) (Or.inl ⟨by rfl, ?_⟩) ?_ ?_
   rotate_left; intro w'; go_simp; with_reducible rfl; rotate_left; simp only [Act.put, sA_, sZ_, sS_, i64_w, i32_w]; rfl
   refine pu_ (i := 2) (N := some 32) (v := ?_) (a' := ?_) rfl rfl (any_of HT_.out (by kernel_rfl)) (fun _ _ _ h => h) (Or.inl ⟨by rfl, ?_⟩) ?_ ?_
   rotate_left; intro w'; go_simp; with_reducible rfl; rotate_left; simp only [Act.put, sA_, sZ_, sS_, i64_w, i32_w]; rfl
   refine pu_ (i := 4) (N := some 34) (v := ?_) (a' := ?_) rfl rfl (any_of HT_.out (by kernel_rfl)) (fun _ _ _ h => h) (Or.inl ⟨by rfl, ?_⟩) ?_ ?_
   rotate_left; intro w'; go_simp; with_reducible rfl; rotate_left; simp only [Act.put, sA_, sZ_, sS_, i64_w, i32_w]; rfl
   refine pu_ (i := 5) (N := some 35) (v := ?_) (a' := ?_) rfl rfl (any_of HT_.out (by kernel_rfl)) (fun _ _ _ h => h) (Or.inl ⟨by rfl, ?_⟩) ?_ ?_
   rotate_left; intro w'; go_simp; with_reducible rfl; rotate_left; simp only [Act.put, sA_, sZ_, sS_, i64_w, i32_w]; rfl
   refine pu_ (i := 7) (N := some 37) (v := ?_) (a' := ?_) rfl rfl (any_of HT_.out (by kernel_rfl)) (fun _ _ _ h => h) (Or.inl ⟨by rfl, ?_⟩) ?_ ?_
   rotate_left; intro w'; go_simp; with_reducible rfl; rotate_left; simp only [Act.put, sA_, sZ_, sS_, i64_w, i32_w]; rfl
   refine tk_ (i := 6) (N := some 36) (v := ?_) (a' := ?_) rfl rfl (take_ofW HT_.out HW_.out (by kernel_rfl)) (fun _ _ _ h => h) (Or.inl ⟨by rfl, ?_⟩) hHeld ?_ ?_
   rotate_left; rintro w' ⟨s0, s1⟩; go_simp; with_reducible rfl; rotate_left; simp only [Act.put, sA_, sZ_, sS_, i64_w, i32_w]; rfl
   refine pu_ (i := 8) (N := some 38) (v := ?_) (a' := ?_) rfl rfl (any_of HT_.out (by kernel_rfl)) (fun _ _ _ h => h) (Or.inl ⟨by rfl, ?_⟩) ?_ ?_
   rotate_left; intro w'; go_simp; with_reducible rfl; rotate_left; simp only [Act.put, sA_, sZ_, sS_, i64_w, i32_w]; rfl
   refine tk_ (i := 9) (N := some 39) (v := ?_) (a' := ?_) rfl rfl (take_ofW HT_.out HW_.out (by kernel_rfl)) (fun _ _ _ h => h) (Or.inl ⟨by rfl, ?_⟩) hHeld ?_ ?_
   rotate_left; rintro w' ⟨s0, s1⟩; go_simp; with_reducible rfl; rotate_left; simp only [Act.put, sA_, sZ_, sS_, i64_w, i32_w]; rfl
   refine on_ (i := 3) (N := some 33) rfl rfl (one_of HT_.out (by kernel_rfl)) (by decide) (fun K hK => ?_)
   refine goes_ Try.func115 (by kernel_rfl) rfl #[.slice (some ad215) t212.length co22, .slice A0 l0.length c0, .int .i64 a1] (by rfl) rfl rfl (by simp only [List.map_toArray, List.map_cons, List.map_nil]; try rfl) ?_
   with_reducible refine (spec_l01Counts.calls k _ _ t212 _ _ l0 a1 t220 _ ?side1 ?side2 ?side3 ?side4 A18.out).mono ?_
   (case side1 => exact (Kd.N_reads' HO214.out).2.2)
   (case side2 => exact (Kd.N_reads' HO214.out).2.1)
   (case side3 => exact (Kd.C_below HR0.out HB.out))
   (case side4 => exact HC0.out)
   rintro e w24 ⟨v221, rfl, ho0, hb⟩
   have HS0_ := (hb.cell (World.block_lt_of_cell? _ _ (hHeld.1))).trans (hHeld.1)
   have HS1_ := (hb.cell (World.block_lt_of_cell? _ _ (hHeld.2))).trans (hHeld.2)
   refine ⟨_, rfl, ?_⟩
   replace HO214 := Aside0.mk (Kd.N_elder' HO214.out (Kd.R_base ho0) hb)
   replace HL215_0 := Aside0.mk (Kd.V_elder' HL215_0.out (Kd.R_base ho0) hb)
   replace HL223_0 := Aside0.mk (Kd.V_elder' HL223_0.out (Kd.R_base ho0) hb)
   have HO222 := Aside0.mk (Kd.R_lower (Kd.R_new' ho0 (Kd.R_lt HO211.out)) (below_size HB.out))
   replace HO211 := Aside0.mk (Kd.R_elder' HO211.out (Kd.R_base ho0) hb)
   replace HR215_0 := Aside0.mk (Kd.C_below HR215_0.out hb)
   replace HR223_0 := Aside0.mk (Kd.C_below HR223_0.out hb)
   replace HB := Aside0.mk (below_step HB.out hb)
   (try clear hb)
   (try clear hb2)
   (try clear hk)
   (try clear hi)
   (try clear ho0)
   refine hK.out _ _ ⟨HS0_, HS1_⟩ (fun hHeld => ?_)
   clear hK K
   refine norm_ (a' := ?_) ?_ ?_
   rotate_left
   ·show Act.put _ (some 33) _ = _
    simp only [Act.put, sA_, sZ_, sS_, i64_w, i32_w]
    rfl
   refine pu_ (i := 10) (N := some 4) (v := ?_) (a' := ?_) rfl rfl (any_of HT_.out (by kernel_rfl)) (fun _ _ _ h => h) (Or.inl ⟨by rfl, ?_⟩) ?_ ?_
   rotate_left; intro w'; go_simp; with_reducible rfl; rotate_left; simp only [Act.put, sA_, sZ_, sS_, i64_w, i32_w]; rfl
   refine pu_ (i := 11) (N := some 5) (v := ?_) (a' := ?_) rfl rfl (any_of HT_.out (by kernel_rfl)) (fun _ _ _ h => h) (Or.inl ⟨by rfl, ?_⟩) ?_ ?_
   rotate_left; intro w'; go_simp; with_reducible rfl; rotate_left; simp only [Act.put, sA_, sZ_, sS_, i64_w, i32_w]; rfl
   refine pu_ (i := 12) (N := some 6) (v := ?_) (a' := ?_) rfl rfl (any_of HT_.out (by kernel_rfl)) (fun _ _ _ h => h) (Or.inl ⟨by rfl, ?_⟩) ?_ ?_
   rotate_left; intro w'; go_simp; with_reducible rfl; rotate_left; simp only [Act.put, sA_, sZ_, sS_, i64_w, i32_w]; rfl
   refine done_ (done_of HT_.out (by kernel_rfl)) ?_
   try go_wp2
   go_ret3
   exact ⟨_, rfl, Kd.R_mono HO222.out (fun _ hk => trivial), HB.out⟩
 ·rw [if_neg c5] at H
  have c5b0 : (t205 == 0) = false := beq_eq_false_iff_ne.mpr c5
  have c5b1 : (t205 != 0) = true := bne_iff_ne.mpr c5
  obtain ⟨y206, hy206⟩ : ∃ y_ : List Int, y_ = (([] : List Int)) := ⟨_, rfl⟩
  replace H : (some (y206, 0, t205)) = some (r1, r2, r3) := by rw [hy206]; exact H
  have Ny206 := Aside0.mk hy206
  clear hy206
  simp only [Option.some.injEq, Prod.mk.injEq] at H
  obtain ⟨rfl, rfl, rfl⟩ := H
  go_enter Try.func87, Try.ntmps87
  go_wp2_with (first | ((with_reducible refine gate_callee (f := 112) rfl ?_); refine goesL_ (some 11) rfl rfl Try.func112 (by kernel_rfl) rfl #[.int .i64 a1] rfl (by simp only [List.map_toArray, List.map_cons, List.map_nil]; try rfl) ?_; (with_reducible refine (spec_l01Postage.calls a1 t204 _ A3.out).mono ?_); rintro e w' ⟨rfl, ⟨nd, rfl⟩⟩; refine ⟨_, rfl, ?_⟩) | ((with_reducible refine gate_callee (f := 111) rfl ?_); refine goesL_ (some 12) rfl rfl Try.func111 (by kernel_rfl) rfl #[.slice A0 l0.length c0, .bool t204] rfl (by simp only [List.map_toArray, List.map_cons, List.map_nil]; try rfl) ?_; (with_reducible refine (spec_l01Asked.calls k _ _ l0 t204 t205 _ ?side1 ?side2 A4.out).mono ?_); (case side1 => exact HR0.out); (case side2 => exact HC0.out); rintro e w' ⟨rfl, ⟨nd, rfl⟩⟩; refine ⟨_, rfl, ?_⟩) | ((with_reducible refine gate_dst (N := 15) rfl ?_); refine Kd.R_lit (Kd.int .i64) _ 2 ?hg (N := 15) ?hd (xs := ([] : List Int)) (inner := []) (ok := fun _ => True) (okp := fun _ => True) ?hr ?hp (fun _ hk => hk) trivial (Below.refl _ _) (Nat.le_refl _) (by simp) ?_; (case hd => rfl); (case hg => rfl); (case hr => go_simp; try rfl); (case hp => exact (Reps.none _ _)); intro v207 w25 ho26 hb hg_ hnew_; clear hg_ hnew_; (first | rw [← Ny206.out] at ho26 | (simp only [Int.reduceToNat] at ho26; rw [← Ny206.out] at ho26)); have HO208 := Aside0.mk (Kd.R_lower ho26 (below_size (by repeat (first | (with_reducible first | exact HB.out | apply below_alloc | apply pw_below_drewN | apply below_drew1) | exact HB.out)))); replace HB := Aside0.mk (below_step (by repeat (first | (with_reducible first | exact HB.out | apply below_alloc | apply pw_below_drewN | apply below_drew1) | exact HB.out)) hb); clear hb ho26))
  go_ret3
  exact ⟨_, by first | rfl | (simp [errW_none, errW_some] <;> rfl) | (simp [*, errW_none, errW_some] <;> rfl), by (with_reducible repeat (first | apply Kd.R_alloc | apply Kd.R_drewN | apply Kd.R_drew)); exact HO208.out, by repeat (first | (with_reducible first | exact HB.out | apply below_alloc | apply pw_below_drewN | apply below_drew1) | exact HB.out)⟩

end Go.Proofs.Ytdeipindfhkioaa.Q
