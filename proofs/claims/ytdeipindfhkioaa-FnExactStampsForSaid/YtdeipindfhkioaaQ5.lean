-- made by wip/tools/mk.py of this session's repo, by way of the kit's print.py: Lean checks it.
import Derived.Test.YtdeipindfhkioaaQ0
namespace Go.Proofs.Ytdeipindfhkioaa.Q
open Go.RowKit Go.Proofs.YtdeipindfhkioaaW.PrintWords Go.Proofs.YtdeipindfhkioaaW.PrintLast Go.Proofs.YtdeipindfhkioaaW.PrintMore Go.Proofs.YtdeipindfhkioaaMine
attribute [local go_sem] max2_int min2_int max_two min_two max_three min_three max_four min_four   -- for this text's walks alone
set_option linter.unusedVariables false
set_option linter.unusedSimpArgs false

mutual
def spec_l01Table.l0 : Nat → List Int → List Int → Int → Int → List Int → Int → Option ((List (List Int)))
 | 0, _, _, _, _, _, _ => none
 | k + 1, x0, x1, x2, x7, x8, x9 => if x9 ≤ x2 then (if 0 ≤ x9 then (if x9 < (x8.length : Int) then (spec_l01Table.l0 k x0 x1 x2 x7 (x8.set (x9 : Int).toNat (-1)) (wrap64 (x9 + 1))) else (none)) else (none)) else (spec_l01Table.l1 k x0 x1 x2 (([x8] : List (List Int))) (wrap64 (x7 - 1)))
def spec_l01Table.l1 : Nat → List Int → List Int → Int → List (List Int) → Int → Option ((List (List Int)))
 | 0, _, _, _, _, _ => none
 | k + 1, x0, x1, x2, x10, x11 => if x11 ≥ 0 then (if 0 ≤ (wrap64 (x2 + 1)) then (if (wrap64 (x2 + 1) : Int).toNat ≤ 35184372088832 then (spec_l01Table.l2 k x0 x1 x2 x10 x11 (List.replicate (wrap64 (x2 + 1) : Int).toNat 0) 0) else (none)) else (none)) else (some x10)
def spec_l01Table.l2 : Nat → List Int → List Int → Int → List (List Int) → Int → List Int → Int → Option ((List (List Int)))
 | 0, _, _, _, _, _, _, _ => none
 | k + 1, x0, x1, x2, x10, x11, x12, x13 => if x13 ≤ x2 then (if 0 ≤ x13 then (if x13 < (x12.length : Int) then (spec_l01Table.l3 k x0 x1 x2 x10 x11 (x12.set (x13 : Int).toNat (-1)) x13 0) else (none)) else (none)) else ((some (([x12] : List (List Int)) : List (List Int))).bind fun y192 => (if y192.length + x10.length < 5864062014805 then (spec_l01Table.l1 k x0 x1 x2 (y192 ++ x10) (wrap64 (x11 - 1))) else (none)))
def spec_l01Table.l3 : Nat → List Int → List Int → Int → List (List Int) → Int → List Int → Int → Int → Option ((List (List Int)))
 | 0, _, _, _, _, _, _, _, _ => none
 | k + 1, x0, x1, x2, x10, x11, x12, x13, x14 => if 0 ≤ x11 then (if x11 < (x1.length : Int) then (if x14 ≤ (rd x1 x11) then (if x11 < (x0.length : Int) then (spec_l01Table.j4 k x0 x1 x2 x10 x11 x12 x13 x14 (decide ((wrap64 (x14 * (rd x0 x11))) ≤ x13))) else (none)) else (spec_l01Table.j4 k x0 x1 x2 x10 x11 x12 x13 x14 false)) else (none)) else (none)
def spec_l01Table.j4 : Nat → List Int → List Int → Int → List (List Int) → Int → List Int → Int → Int → Bool → Option ((List (List Int)))
 | 0, _, _, _, _, _, _, _, _, _ => none
 | k + 1, x0, x1, x2, x10, x11, x12, x13, x14, x63 => if x63 = true then (if 0 < (x10.length : Int) then (if 0 ≤ x11 then (if x11 < (x0.length : Int) then (if 0 ≤ (wrap64 (x13 - (wrap64 (x14 * (rd x0 x11))))) then (if (wrap64 (x13 - (wrap64 (x14 * (rd x0 x11))))) < ((rd_L5 x10 0).length : Int) then (if (rd (rd_L5 x10 0) (wrap64 (x13 - (wrap64 (x14 * (rd x0 x11)))))) ≥ 0 then (if 0 ≤ x13 then (if x13 < (x12.length : Int) then (if (rd x12 x13) < 0 then (spec_l01Table.l3 k x0 x1 x2 x10 x11 (x12.set (x13 : Int).toNat (wrap64 ((rd (rd_L5 x10 0) (wrap64 (x13 - (wrap64 (x14 * (rd x0 x11)))))) + x14))) x13 (wrap64 (x14 + 1))) else (if (wrap64 ((rd (rd_L5 x10 0) (wrap64 (x13 - (wrap64 (x14 * (rd x0 x11)))))) + x14)) < (rd x12 x13) then (spec_l01Table.l3 k x0 x1 x2 x10 x11 (x12.set (x13 : Int).toNat (wrap64 ((rd (rd_L5 x10 0) (wrap64 (x13 - (wrap64 (x14 * (rd x0 x11)))))) + x14))) x13 (wrap64 (x14 + 1))) else (spec_l01Table.l3 k x0 x1 x2 x10 x11 x12 x13 (wrap64 (x14 + 1))))) else (none)) else (none)) else (spec_l01Table.l3 k x0 x1 x2 x10 x11 x12 x13 (wrap64 (x14 + 1)))) else (none)) else (none)) else (none)) else (none)) else (none)) else (spec_l01Table.l2 k x0 x1 x2 x10 x11 x12 (wrap64 (x13 + 1)))
end
def spec_l01Table.f (k : Nat) (l0 : List Int) (l1 : List Int) (a2 : Int) : Option ((List (List Int))) := if 0 ≤ (wrap64 (a2 + 1)) then (if (wrap64 (a2 + 1) : Int).toNat ≤ 35184372088832 then (spec_l01Table.l0 k l0 l1 a2 (l0.length : Int) (List.replicate (wrap64 (a2 + 1) : Int).toNat 0) 1) else (none)) else (none)
theorem spec_l01Table.mono_l : ∀ k, (∀ y0 y1 y2 y3 y4 y5, LeO (spec_l01Table.l0 k y0 y1 y2 y3 y4 y5) (spec_l01Table.l0 (k + 1) y0 y1 y2 y3 y4 y5)) ∧ (∀ y0 y1 y2 y3 y4, LeO (spec_l01Table.l1 k y0 y1 y2 y3 y4) (spec_l01Table.l1 (k + 1) y0 y1 y2 y3 y4)) ∧ (∀ y0 y1 y2 y3 y4 y5 y6, LeO (spec_l01Table.l2 k y0 y1 y2 y3 y4 y5 y6) (spec_l01Table.l2 (k + 1) y0 y1 y2 y3 y4 y5 y6)) ∧ (∀ y0 y1 y2 y3 y4 y5 y6 y7, LeO (spec_l01Table.l3 k y0 y1 y2 y3 y4 y5 y6 y7) (spec_l01Table.l3 (k + 1) y0 y1 y2 y3 y4 y5 y6 y7)) ∧ (∀ y0 y1 y2 y3 y4 y5 y6 y7 y8, LeO (spec_l01Table.j4 k y0 y1 y2 y3 y4 y5 y6 y7 y8) (spec_l01Table.j4 (k + 1) y0 y1 y2 y3 y4 y5 y6 y7 y8))
 | 0 => ⟨fun _ _ _ _ _ _ r h => by simp [spec_l01Table.l0] at h, fun _ _ _ _ _ r h => by simp [spec_l01Table.l1] at h, fun _ _ _ _ _ _ _ r h => by simp [spec_l01Table.l2] at h, fun _ _ _ _ _ _ _ _ r h => by simp [spec_l01Table.l3] at h, fun _ _ _ _ _ _ _ _ _ r h => by simp [spec_l01Table.j4] at h⟩
 | k + 1 => by
  obtain ⟨ih0, ih1, ih2, ih3, ih4⟩ := spec_l01Table.mono_l k
  refine ⟨?_, ?_, ?_, ?_, ?_⟩ <;> intros <;> (first | unfold spec_l01Table.l0 | unfold spec_l01Table.l1 | unfold spec_l01Table.l2 | unfold spec_l01Table.l3 | unfold spec_l01Table.j4) <;> repeat' first
  | (with_reducible exact ih0 _ _ _ _ _ _)
  | (with_reducible exact ih1 _ _ _ _ _)
  | (with_reducible exact ih2 _ _ _ _ _ _ _)
  | (with_reducible exact ih3 _ _ _ _ _ _ _ _)
  | (with_reducible exact ih4 _ _ _ _ _ _ _ _ _)
  | (with_reducible exact LeO.refl _)
  | (with_reducible exact LeO.none _)
  | (with_reducible refine LeO.ite ?_ ?_)
  | (with_reducible refine LeO.bind ?_ (fun _ => ?_))
  | exact ih0 _ _ _ _ _ _
  | exact ih1 _ _ _ _ _
  | exact ih2 _ _ _ _ _ _ _
  | exact ih3 _ _ _ _ _ _ _ _
  | exact ih4 _ _ _ _ _ _ _ _ _
  | exact LeO.none _
  | refine LeO.ite ?_ ?_
  | refine LeO.bind ?_ (fun _ => ?_)
theorem spec_l01Table.mono : ∀ a0 a1 a2 k, LeO (spec_l01Table.f k a0 a1 a2) (spec_l01Table.f (k + 1) a0 a1 a2) := by
 intro a0 a1 a2 k
 obtain ⟨ih0, ih1, ih2, ih3, ih4⟩ := spec_l01Table.mono_l k
 unfold spec_l01Table.f
 repeat' first
   | (with_reducible exact ih0 _ _ _ _ _ _)
   | (with_reducible exact ih1 _ _ _ _ _)
   | (with_reducible exact ih2 _ _ _ _ _ _ _)
   | (with_reducible exact ih3 _ _ _ _ _ _ _ _)
   | (with_reducible exact ih4 _ _ _ _ _ _ _ _ _)
   | (with_reducible exact LeO.refl _)
   | (with_reducible exact LeO.none _)
   | (with_reducible refine LeO.ite ?_ ?_)
   | (with_reducible refine LeO.bind ?_ (fun _ => ?_))
   | exact ih0 _ _ _ _ _ _
   | exact ih1 _ _ _ _ _
   | exact ih2 _ _ _ _ _ _ _
   | exact ih3 _ _ _ _ _ _ _ _
   | exact ih4 _ _ _ _ _ _ _ _ _
   | exact LeO.none _
   | refine LeO.ite ?_ ?_
   | refine LeO.bind ?_ (fun _ => ?_)
set_option maxHeartbeats 8000000 in
set_option maxRecDepth 100000 in
theorem spec_l01Table.calls (k : Nat) (A0 : Option Addr) (c0 : Nat) (l0 : List Int) (A1 : Option Addr) (c1 : Nat) (l1 : List Int) (a2 : Int) (r : List (List Int)) (w : World) (hr0 : Kd.C (Kd.int .i64) w A0 l0.length l0) (hc0 : l0.length ≤ c0) (hr1 : Kd.C (Kd.int .i64) w A1 l1.length l1) (hc1 : l1.length ≤ c1) (h : spec_l01Table.f k l0 l1 a2 = some r) :
  Calls Try.prog 113 #[.slice A0 l0.length c0, .slice A1 l1.length c1, .int .i64 a2] w fun e w' => ∃ v0_ : Value, e = .returned (v0_) ∧ Kd.N (Kd.slice 2 (Kd.int .i64)) 34 w' w.heap.size (fun k_ => (w.heap.size ≤ k_)) v0_ r ∧ Below w.heap.size w w' := by
 have HR0 := Aside0.mk hr0
 have HC0 := Aside0.mk hc0
 clear hr0 hc0
 have HR1 := Aside0.mk hr1
 have HC1 := Aside0.mk hc1
 clear hr1 hc1
 have HB := Aside0.mk (Below.refl w.heap.size w)
 have H : (if 0 ≤ (wrap64 (a2 + 1)) then (if (wrap64 (a2 + 1) : Int).toNat ≤ 35184372088832 then (spec_l01Table.l0 k l0 l1 a2 (l0.length : Int) (List.replicate (wrap64 (a2 + 1) : Int).toNat 0) 1) else (none)) else (none)) = some r := h
 clear h
 obtain ⟨ji4, hji4⟩ : ∃ j_ : Int, (wrap64 (a2 + 1)) = j_ := ⟨_, rfl⟩
 replace H : (if 0 ≤ (ji4) then (if (ji4 : Int).toNat ≤ 35184372088832 then (spec_l01Table.l0 k l0 l1 a2 (l0.length : Int) (List.replicate (ji4 : Int).toNat 0) 1) else (none)) else (none)) = some r := by first | (rw [hji4] at H; exact H) | (simp only [hji4] at H ⊢; exact H)
 have hji4w : (IntKind.i64.wrap (a2 + 1)) = ji4 := (i64_w _).trans hji4
 by_cases c5 : 0 ≤ (ji4)
 rotate_left
 ·rw [if_neg c5] at H; exact absurd H (by simp)
 rw [if_pos c5] at H
 have c5b0 := eq_true c5
 have c5b1 : decide (0 ≤ (ji4)) = true := decide_eq_true c5
 clear c5
 by_cases c6 : (ji4 : Int).toNat ≤ 35184372088832
 rotate_left
 ·rw [if_neg c6] at H; exact absurd H (by simp)
 rw [if_pos c6] at H
 have c6b0 := eq_true c6
 have c6b1 : decide ((ji4 : Int).toNat ≤ 35184372088832) = true := decide_eq_true c6
 clear c6
 obtain ⟨y182, hy182⟩ : ∃ y_ : List Int, y_ = (List.replicate (ji4 : Int).toNat 0) := ⟨_, rfl⟩
 replace H : (spec_l01Table.l0 k l0 l1 a2 (l0.length : Int) y182 1) = some r := by rw [hy182]; exact H
 have Ny182 := Aside0.mk hy182
 clear hy182
 have H' := Aside0.mk H
 clear H
 go_enter Try.func113, Try.ntmps113
 go_wp2_with (first | ((with_reducible refine gate_dst (N := 20) rfl ?_); refine Kd.R_make (Kd.int .i64) _ 2 rfl (N := 20) rfl 34 _ _ rfl ji4 rfl rfl Try.underlying34 (.int .i64 0) 8 info2 rfl (by decide) (by omega) 0 (ok := fun _ => True) (okp := fun _ => True) rfl (fun _ hk => hk) trivial (of_decide_eq_true (by assumption)) (Nat.le_trans (Nat.mul_le_mul_right _ (of_decide_eq_true (by assumption) : ji4.toNat ≤ 35184372088832)) (by omega)) (Below.refl _ _) (Nat.le_refl _) ?_; intro v183 w7 ho8 hb hg_ hnew_; clear hg_ hnew_; (first | rw [← Ny182.out] at ho8 | (simp only [Int.reduceToNat] at ho8; rw [← Ny182.out] at ho8)); have HO184 := Aside0.mk (Kd.R_lower (Kd.R_newM (M := fun k_ => (w.heap.size ≤ k_)) ho8 (below_size HB.out) (fun k_ h_ => h_)) (below_size HB.out)); replace HB := Aside0.mk (below_step HB.out hb); clear hb ho8))
 repeat (go_quiet (fail); try go_wp2)
 go_loopg [9] k (fun kq v9 w' => ∃ (x8_1 : List Int) (x9_1 : Int), v9 = .int .i64 x9_1 ∧ Aside0 (spec_l01Table.l0 kq l0 l1 a2 (l0.length : Int) x8_1 x9_1 = some r) ∧ Aside0 (kq ≤ k) ∧ Aside0 (Kd.R (Kd.int .i64) 2 w' w.heap.size (fun k_ => (w.heap.size ≤ k_)) v183 x8_1) ∧ Aside0 (Below w.heap.size w w'))
 case atStart => exact ⟨(y182), (1), rfl, H', ⟨Nat.le_refl _⟩, ⟨by (with_reducible repeat (first | apply Kd.R_alloc | apply Kd.R_drewN | apply Kd.R_drew)); exact Kd.R_mono HO184.out (fun _ hk => hk.1)⟩, ⟨HB.out⟩⟩
 case round =>
  clear H'
  try clear c1
  try clear p2
  try clear c5
  try clear c5b0
  try clear c5b1
  try clear c6
  try clear c6b0
  try clear c6b1
  try clear p6
  obtain ⟨x8_1, x9_1, rfl, HA, HK1, HO_8, HB⟩ := hrel
  cases gk with
  | zero => exact absurd HA.out (by simp [spec_l01Table.l0])
  | succ k1 =>
   have H := HA.out
   clear HA
   simp only [spec_l01Table.l0] at H
   by_cases c9 : x9_1 ≤ a2
   ·rw [if_pos c9] at H
    have c9b0 : decide (x9_1 ≤ a2) = true := decide_eq_true c9
    clear c9
    by_cases c10 : 0 ≤ x9_1
    rotate_left
    ·rw [if_neg c10] at H; exact absurd H (by simp)
    rw [if_pos c10] at H
    have c10b0 : decide (0 ≤ x9_1) = true := decide_eq_true c10
    clear c10
    by_cases c11 : x9_1 < (x8_1.length : Int)
    rotate_left
    ·rw [if_neg c11] at H; exact absurd H (by simp)
    rw [if_pos c11] at H
    have c11b0 : decide (x9_1 < (x8_1.length : Int)) = true := decide_eq_true c11
    clear c11
    obtain ⟨y185, hy185⟩ : ∃ y_ : List Int, y_ = (x8_1.set (x9_1 : Int).toNat (-1)) := ⟨_, rfl⟩
    replace H : (spec_l01Table.l0 k1 l0 l1 a2 (l0.length : Int) y185 (wrap64 (x9_1 + 1))) = some r := by rw [hy185]; exact H
    have Ny185 := Aside0.mk hy185
    clear hy185
    have H' := Aside0.mk H
    clear H
    have p12 : 0 ≤ (x9_1 : Int) := of_decide_eq_true (by assumption)
    have q12 : (x9_1 : Int) < ((x8_1.length : Int) : Int) := of_decide_eq_true (by assumption)
    obtain ⟨go12, co12, eo12, gb12, gl12, cl12, HG12⟩ := Kd.R_form HO_8.out (by omega)
    (first | cases eo12 | (injection eo12 with ea_ en_ ec_; (first | subst ea_ | (injection ea_ with ea_; subst ea_)); subst ec_; clear en_))
    have GB12 := Aside0.mk gb12
    have GG12 := Aside0.mk HG12
    clear gb12 gl12 HG12
    obtain ⟨hx12_0, hf12_0⟩ := Kd.R_celln 0 HO_8.out (x9_1 : Int) p12 q12
    replace p12 := eq_true p12
    replace q12 := eq_true q12
    have HP13 := Kd.R_putg HO_8.out (x9_1 : Int) (-1)
    go_wp2_with (first | ((with_reducible refine gate_store (t := 2) (p := 28) rfl ?_); (try (rw [drewN_self wr]; generalize hq_ : World.drewN wr _ = wr; replace HO_8 := Aside0.mk (Kd.R_at hq_ HO_8.out); replace HB := Aside0.mk (below_at hq_ HB.out); clear hq_; (try (have HP13 := Kd.R_putg HO_8.out (x9_1 : Int) (-1))); (try (obtain ⟨hx12_0, hf12_0⟩ := Kd.R_celln 0 HO_8.out (x9_1 : Int) (of_eq_true p12) (of_eq_true q12))); (try (obtain ⟨hx12_0, hf12_0⟩ := Kd.R_celln 0 HO_8.out (x9_1 : Int) (of_eq_true p12) (of_eq_true q12))))); refine store_event (t := 2) (p := 28) (v := ?vo_w14) (w1 := (wr.setCell ⟨go12, (x9_1 : Int).toNat, none⟩ (.int .i64 (-1)))) ?hg ?ho ?hn ?hr ?_; (case ho => rfl); (case hg => rfl); (case hn => rfl); (case hr => go_simp; try rfl); intro w14 hw; have hg : wr.grownBy w14 (some go12) := (by rw [hw]; exact HP13.2); have hp_ : Kd.R (Kd.int .i64) 2 w14 w.heap.size (fun k_ => (w.heap.size ≤ k_)) (.slice (some ⟨go12, 0, none⟩) x8_1.length co12) y185 := (by rw [hw, Ny185.out]; exact HP13.1); clear HP13; replace HO_8 := Aside0.mk (hp_); replace HB := Aside0.mk ((by rw [hw]; exact below_set (HB.out) GB12.out : Below w.heap.size w w14)); clear hg hw hp_))
    repeat (go_quiet (fail); try go_wp2)
    go_roundg k1
    case measure => have := HK1.out; omega
    case rel => exact ⟨(y185), (wrap64 (x9_1 + 1)), rfl, H', ⟨by have := HK1.out; omega⟩, ⟨HO_8.out⟩, ⟨HB.out⟩⟩
   ·rw [if_neg c9] at H
    have c9b0 : decide (x9_1 ≤ a2) = false := decide_eq_false c9
    clear c9
    obtain ⟨y186, hy186⟩ : ∃ y_ : List (List Int), y_ = (([x8_1] : List (List Int))) := ⟨_, rfl⟩
    replace H : (spec_l01Table.l1 k1 l0 l1 a2 y186 (wrap64 ((l0.length : Int) - 1))) = some r := by rw [hy186]; exact H
    have Ny186 := Aside0.mk hy186
    clear hy186
    have H' := Aside0.mk H
    clear H
    obtain ⟨Ao15, co15, eo15⟩ := Kd.R_slice HO_8.out
    subst eo15
    go_wp2_with (first | ((with_reducible refine gate_dst (N := 30) rfl ?_); refine Kd.N_lit (Kd.slice 2 (Kd.int .i64)) _ 34 ?hg (N' := 30) ?hd (xs := ([x8_1] : List (List Int))) (inner := [.slice Ao15 x8_1.length co15]) (ok := (fun k_ => (w.heap.size ≤ k_))) (okp := (fun k_ => (w.heap.size ≤ k_))) ?hr ?hp (fun _ hk => hk) ((show ∀ k_, wr.heap.size ≤ k_ → (fun k_ => (w.heap.size ≤ k_)) k_ from fun k_ hk => (Nat.le_trans (below_size HB.out) hk)) _ (Nat.le_refl _)) (Below.refl _ _) (Nat.le_refl _) (by simp) ?_; (case hd => rfl); (case hg => rfl); (case hr => go_simp; try rfl); (case hp => exact (Reps.one (show Kd.FK (Kd.slice 2 (Kd.int .i64)) _ _ x8_1 [.slice Ao15 x8_1.length co15] from (Kd.FK_slice_mk (Kd.R_reads' (Kd.R_mono (ok' := (fun k_ => (w.heap.size ≤ k_))) (HO_8.out) (fun k_ hk => hk))).2.1 (Kd.R_F (Kd.R_mono (ok' := (fun k_ => (w.heap.size ≤ k_))) (HO_8.out) (fun k_ hk => hk))))) (Reps.none _ _))); intro v187 w16 ho17 hb hg_ hnew_; clear hg_ hnew_; (first | rw [← Ny186.out] at ho17 | (simp only [Int.reduceToNat] at ho17; rw [← Ny186.out] at ho17)); have HO188 := Aside0.mk (Kd.N_lower ho17 (below_size HB.out)); replace HB := Aside0.mk (below_step HB.out hb); clear HO_8; clear hb ho17))
    repeat (go_quiet (fail); try go_wp2)
    go_loopg [10, 11] k1 (fun kq v10 v11 w' => ∃ (x10_2 : List (List Int)) (x11_2 : Int), v11 = .int .i64 x11_2 ∧ Aside0 (spec_l01Table.l1 kq l0 l1 a2 x10_2 x11_2 = some r) ∧ Aside0 (kq ≤ k1) ∧ Aside0 (Kd.N (Kd.slice 2 (Kd.int .i64)) 34 w' w.heap.size (fun k_ => (w.heap.size ≤ k_)) v10 x10_2) ∧ Aside0 (Below w.heap.size w w'))
    case atStart => exact ⟨(y186), (wrap64 ((l0.length : Int) - 1)), rfl, H', ⟨Nat.le_refl _⟩, ⟨HO188.out⟩, ⟨HB.out⟩⟩
    case round =>
     clear H'
     try clear c1
     try clear p1
     try clear q1
     try clear hx1
     try clear p2
     try clear c5
     try clear c5b0
     try clear c5b1
     try clear c6
     try clear c6b0
     try clear c6b1
     try clear p6
     try clear c9
     try clear c9b0
     try clear c10
     try clear c10b0
     try clear c11
     try clear c11b0
     try clear p12
     try clear q12
     try clear hx12
     try clear hf12
     try clear hx12_0
     try clear p12
     try clear p2
     try clear p6
     try clear q12
     obtain ⟨x10_2, x11_2, rfl, HA, HK2, HO_10, HB⟩ := hrel
     cases gk with
     | zero => exact absurd HA.out (by simp [spec_l01Table.l1])
     | succ k2 =>
      have H := HA.out
      clear HA
      simp only [spec_l01Table.l1] at H
      by_cases c18 : x11_2 ≥ 0
      ·rw [if_pos c18] at H
       have c18b0 : decide (0 ≤ x11_2) = true := decide_eq_true c18
       clear c18
       obtain ⟨ji19, hji19⟩ : ∃ j_ : Int, (wrap64 (a2 + 1)) = j_ := ⟨_, rfl⟩
       replace H : (if 0 ≤ (ji19) then (if (ji19 : Int).toNat ≤ 35184372088832 then (spec_l01Table.l2 k2 l0 l1 a2 x10_2 x11_2 (List.replicate (ji19 : Int).toNat 0) 0) else (none)) else (none)) = some r := by first | (rw [hji19] at H; exact H) | (simp only [hji19] at H ⊢; exact H)
       have hji19w : (IntKind.i64.wrap (a2 + 1)) = ji19 := (i64_w _).trans hji19
       obtain rfl : ji19 = ji4 := hji19.symm.trans hji4
       by_cases c20 : 0 ≤ (ji19)
       rotate_left
       ·rw [if_neg c20] at H; exact absurd H (by simp)
       rw [if_pos c20] at H
       have c20b0 := eq_true c20
       have c20b1 : decide (0 ≤ (ji19)) = true := decide_eq_true c20
       clear c20
       by_cases c21 : (ji19 : Int).toNat ≤ 35184372088832
       rotate_left
       ·rw [if_neg c21] at H; exact absurd H (by simp)
       rw [if_pos c21] at H
       have c21b0 := eq_true c21
       have c21b1 : decide ((ji19 : Int).toNat ≤ 35184372088832) = true := decide_eq_true c21
       clear c21
       obtain ⟨y189, hy189⟩ : ∃ y_ : List Int, y_ = (List.replicate (ji19 : Int).toNat 0) := ⟨_, rfl⟩
       replace H : (spec_l01Table.l2 k2 l0 l1 a2 x10_2 x11_2 y189 0) = some r := by rw [hy189]; exact H
       have Ny189 := Aside0.mk hy189
       clear hy189
       have H' := Aside0.mk H
       clear H
       go_wp2_with (first | ((with_reducible refine gate_dst (N := 39) rfl ?_); refine Kd.R_make (Kd.int .i64) _ 2 rfl (N := 39) rfl 34 _ _ rfl ji19 rfl rfl Try.underlying34 (.int .i64 0) 8 info2 rfl (by decide) (by omega) 0 (ok := fun _ => True) (okp := fun _ => True) rfl (fun _ hk => hk) trivial (of_decide_eq_true (by assumption)) (Nat.le_trans (Nat.mul_le_mul_right _ (of_decide_eq_true (by assumption) : ji19.toNat ≤ 35184372088832)) (by omega)) (Below.refl _ _) (Nat.le_refl _) ?_; intro v190 w22 ho23 hb hg_ hnew_; clear hg_ hnew_; (first | rw [← Ny189.out] at ho23 | (simp only [Int.reduceToNat] at ho23; rw [← Ny189.out] at ho23)); replace HO_10 := Aside0.mk (Kd.N_elder' HO_10.out (Kd.R_base ho23) hb); have HO191 := Aside0.mk (Kd.R_lower (Kd.R_newM (M := fun k_ => (w.heap.size ≤ k_)) ho23 (below_size HB.out) (fun k_ h_ => h_)) (below_size HB.out)); replace HB := Aside0.mk (below_step HB.out hb); clear hb ho23))
       repeat (go_quiet (fail); try go_wp2)
       go_loopg [13] k2 (fun kq v13 w' => ∃ (x12_3 : List Int) (x13_3 : Int), v13 = .int .i64 x13_3 ∧ Aside0 (spec_l01Table.l2 kq l0 l1 a2 x10_2 x11_2 x12_3 x13_3 = some r) ∧ Aside0 (kq ≤ k2) ∧ Aside0 (Kd.N (Kd.slice 2 (Kd.int .i64)) 34 w' w.heap.size (fun k_ => (w.heap.size ≤ k_) ∧ some k_ ≠ (v190 : Value).ownBlock) u10 x10_2) ∧ Aside0 (Kd.R (Kd.int .i64) 2 w' w.heap.size (fun k_ => (w.heap.size ≤ k_)) v190 x12_3) ∧ Aside0 (Below w.heap.size w w'))
       case atStart => exact ⟨(y189), (0), rfl, H', ⟨Nat.le_refl _⟩, ⟨HO_10.out⟩, ⟨by (with_reducible repeat (first | apply Kd.R_alloc | apply Kd.R_drewN | apply Kd.R_drew)); exact Kd.R_mono HO191.out (fun _ hk => hk.1)⟩, ⟨HB.out⟩⟩
       case round =>
        clear H'
        try clear c1
        try clear p1
        try clear q1
        try clear hx1
        try clear c2
        try clear p2
        try clear c5
        try clear c5b0
        try clear c5b1
        try clear c6
        try clear c6b0
        try clear c6b1
        try clear p6
        try clear c9
        try clear c9b0
        try clear c10
        try clear c10b0
        try clear c11
        try clear c11b0
        try clear p12
        try clear q12
        try clear hx12
        try clear hf12
        try clear c18
        try clear c18b0
        try clear c20
        try clear c20b0
        try clear c20b1
        try clear c21
        try clear c21b0
        try clear c21b1
        try clear hx12_0
        try clear p1
        try clear p12
        try clear p2
        try clear p6
        try clear q1
        try clear q12
        obtain ⟨x12_3, x13_3, rfl, HA, HK3, HO_10, HO_12, HB⟩ := hrel
        cases gk with
        | zero => exact absurd HA.out (by simp [spec_l01Table.l2])
        | succ k3 =>
         have H := HA.out
         clear HA
         simp only [spec_l01Table.l2] at H
         by_cases c24 : x13_3 ≤ a2
         ·rw [if_pos c24] at H
          have c24b0 : decide (x13_3 ≤ a2) = true := decide_eq_true c24
          clear c24
          by_cases c25 : 0 ≤ x13_3
          rotate_left
          ·rw [if_neg c25] at H; exact absurd H (by simp)
          rw [if_pos c25] at H
          have c25b0 : decide (0 ≤ x13_3) = true := decide_eq_true c25
          clear c25
          by_cases c26 : x13_3 < (x12_3.length : Int)
          rotate_left
          ·rw [if_neg c26] at H; exact absurd H (by simp)
          rw [if_pos c26] at H
          have c26b0 : decide (x13_3 < (x12_3.length : Int)) = true := decide_eq_true c26
          clear c26
          obtain ⟨y198, hy198⟩ : ∃ y_ : List Int, y_ = (x12_3.set (x13_3 : Int).toNat (-1)) := ⟨_, rfl⟩
          replace H : (spec_l01Table.l3 k3 l0 l1 a2 x10_2 x11_2 y198 x13_3 0) = some r := by rw [hy198]; exact H
          have Ny198 := Aside0.mk hy198
          clear hy198
          have H' := Aside0.mk H
          clear H
          have p27 : 0 ≤ (x13_3 : Int) := of_decide_eq_true (by assumption)
          have q27 : (x13_3 : Int) < ((x12_3.length : Int) : Int) := of_decide_eq_true (by assumption)
          obtain ⟨go27, co27, eo27, gb27, gl27, cl27, HG27⟩ := Kd.R_form HO_12.out (by omega)
          (first | cases eo27 | (injection eo27 with ea_ en_ ec_; (first | subst ea_ | (injection ea_ with ea_; subst ea_)); subst ec_; clear en_))
          have GB27 := Aside0.mk gb27
          have GG27 := Aside0.mk HG27
          clear gb27 gl27 HG27
          obtain ⟨hx27_0, hf27_0⟩ := Kd.R_celln 0 HO_12.out (x13_3 : Int) p27 q27
          replace p27 := eq_true p27
          replace q27 := eq_true q27
          have HP28 := Kd.R_putg HO_12.out (x13_3 : Int) (-1)
          go_wp2_with (first | ((with_reducible refine gate_store (t := 2) (p := 47) rfl ?_); (try (rw [drewN_self wr]; generalize hq_ : World.drewN wr _ = wr; replace HO_10 := Aside0.mk (Kd.N_at hq_ HO_10.out); replace HO_12 := Aside0.mk (Kd.R_at hq_ HO_12.out); replace HB := Aside0.mk (below_at hq_ HB.out); clear hq_; (try (have HP28 := Kd.R_putg HO_12.out (x13_3 : Int) (-1))); (try (obtain ⟨hx27_0, hf27_0⟩ := Kd.R_celln 0 HO_12.out (x13_3 : Int) (of_eq_true p27) (of_eq_true q27))); (try (obtain ⟨hx27_0, hf27_0⟩ := Kd.R_celln 0 HO_12.out (x13_3 : Int) (of_eq_true p27) (of_eq_true q27))))); refine store_event (t := 2) (p := 47) (v := ?vo_w29) (w1 := (wr.setCell ⟨go27, (x13_3 : Int).toNat, none⟩ (.int .i64 (-1)))) ?hg ?ho ?hn ?hr ?_; (case ho => rfl); (case hg => rfl); (case hn => rfl); (case hr => go_simp; try rfl); intro w29 hw; have hg : wr.grownBy w29 (some go27) := (by rw [hw]; exact HP28.2); have hp_ : Kd.R (Kd.int .i64) 2 w29 w.heap.size (fun k_ => (w.heap.size ≤ k_)) (.slice (some ⟨go27, 0, none⟩) x12_3.length co27) y198 := (by rw [hw, Ny198.out]; exact HP28.1); clear HP28; replace HO_10 := Aside0.mk (Kd.N_afterv (v := (.slice (some ⟨go27, 0, none⟩) x12_3.length co27)) (v1 := (.slice (some ⟨go27, 0, none⟩) x12_3.length co27)) (ok := (fun k_ => (w.heap.size ≤ k_))) HO_10.out hg (.inl rfl)); replace HO_12 := Aside0.mk (hp_); replace HB := Aside0.mk ((by rw [hw]; exact below_set (HB.out) GB27.out : Below w.heap.size w w29)); clear hg hw hp_))
          repeat (go_quiet (fail); try go_wp2)
          go_loopg [14] k3 (fun kq v14 w' => ∃ (x12_4 : List Int) (x14_4 : Int), v14 = .int .i64 x14_4 ∧ Aside0 (spec_l01Table.l3 kq l0 l1 a2 x10_2 x11_2 x12_4 x13_3 x14_4 = some r) ∧ Aside0 (kq ≤ k3) ∧ Aside0 (Kd.N (Kd.slice 2 (Kd.int .i64)) 34 w' w.heap.size (fun k_ => (w.heap.size ≤ k_) ∧ some k_ ≠ ((.slice (some ⟨go27, 0, none⟩) x12_3.length co27) : Value).ownBlock) u10 x10_2) ∧ Aside0 (Kd.R (Kd.int .i64) 2 w' w.heap.size (fun k_ => (w.heap.size ≤ k_)) (.slice (some ⟨go27, 0, none⟩) x12_3.length co27) x12_4) ∧ Aside0 (Below w.heap.size w w'))
          case atStart => exact ⟨(y198), (0), rfl, H', ⟨Nat.le_refl _⟩, ⟨HO_10.out⟩, ⟨HO_12.out⟩, ⟨HB.out⟩⟩
          case round =>
           clear H'
           try clear c1
           try clear p1
           try clear q1
           try clear hx1
           try clear c2
           try clear p2
           try clear q2
           try clear hx2
           try clear c5
           try clear c5b0
           try clear c5b1
           try clear c6
           try clear c6b0
           try clear c6b1
           try clear p6
           try clear c9
           try clear c9b0
           try clear c10
           try clear c10b0
           try clear c11
           try clear c11b0
           try clear p12
           try clear q12
           try clear hx12
           try clear hf12
           try clear c18
           try clear c18b0
           try clear c20
           try clear c20b0
           try clear c20b1
           try clear c21
           try clear c21b0
           try clear c21b1
           try clear c24
           try clear c24b0
           try clear c25
           try clear c25b0
           try clear c26
           try clear c26b0
           try clear p27
           try clear q27
           try clear hx27
           try clear hf27
           try clear hx12_0
           try clear hx27_0
           try clear p1
           try clear p12
           try clear p2
           try clear p27
           try clear p6
           try clear q1
           try clear q12
           try clear q27
           obtain ⟨x12_4, x14_4, rfl, HA, HK4, HO_10, HO_12, HB⟩ := hrel
           have hl12_4 := (Kd.R_reads' HO_12.out).1
           rw [hl12_4] at HO_12
           (try simp only [hl12_4])
           (try simp only [hl12_4] at HO_10)
           cases gk with
           | zero => exact absurd HA.out (by simp [spec_l01Table.l3])
           | succ k4 =>
            have H := HA.out
            clear HA
            simp only [spec_l01Table.l3] at H
            have HC30 := Aside0.mk H
            clear H
            go_upto_region 17 with (fail)
            repeat (go_quiet (fail); go_upto_region 17 with (fail))
            go_cut [63] (fun v63 wc => ∃ (kq : Nat) (x63_29 : Bool), v63 = .bool x63_29 ∧ Aside0 (spec_l01Table.j4 kq l0 l1 a2 x10_2 x11_2 x12_4 x13_3 x14_4 x63_29 = some r) ∧ Aside0 (kq ≤ k4) ∧ Aside0 (Kd.N (Kd.slice 2 (Kd.int .i64)) 34 wc w.heap.size (fun k_ => (w.heap.size ≤ k_) ∧ some k_ ≠ ((.slice (some ⟨go27, 0, none⟩) x12_4.length co27) : Value).ownBlock) u10 x10_2) ∧ Aside0 (Kd.R (Kd.int .i64) 2 wc w.heap.size (fun k_ => (w.heap.size ≤ k_)) (.slice (some ⟨go27, 0, none⟩) x12_4.length co27) x12_4) ∧ Aside0 (Below w.heap.size w wc))
            case first =>
             have H := HC30.out
             clear HC30
             by_cases c31 : 0 ≤ x11_2
             rotate_left
             ·rw [if_neg c31] at H; exact absurd H (by simp)
             rw [if_pos c31] at H
             have c31b0 : decide (0 ≤ x11_2) = true := decide_eq_true c31
             clear c31
             (first | rw [c31b0] | (simp only [i64_w, i32_w]; rw [c31b0]) | skip)
             by_cases c32 : x11_2 < (l1.length : Int)
             rotate_left
             ·rw [if_neg c32] at H; exact absurd H (by simp)
             rw [if_pos c32] at H
             have c32b0 : decide (x11_2 < (l1.length : Int)) = true := decide_eq_true c32
             clear c32
             by_cases c33 : x14_4 ≤ (rd l1 x11_2)
             ·rw [if_pos c33] at H
              have c33b0 : decide (x14_4 ≤ (rd l1 x11_2)) = true := decide_eq_true c33
              clear c33
              by_cases c34 : x11_2 < (l0.length : Int)
              rotate_left
              ·rw [if_neg c34] at H; exact absurd H (by simp)
              rw [if_pos c34] at H
              have c34b0 : decide (x11_2 < (l0.length : Int)) = true := decide_eq_true c34
              clear c34
              have H' := Aside0.mk H
              clear H
              have p199 : 0 ≤ (x11_2 : Int) := of_decide_eq_true (by assumption)
              have q199 : x11_2 < (l1.length : Int) := of_decide_eq_true (by assumption)
              obtain ⟨ad199, e199, hx199_0⟩ := Kd.at_int HR1.out x11_2 p199 q199
              cases e199
              replace hx199_0 := (HB.out.cell (World.block_lt_of_cell? w _ hx199_0)).trans hx199_0
              replace p199 := eq_true p199
              replace q199 := eq_true q199
              have p200 : 0 ≤ (x11_2 : Int) := of_decide_eq_true (by assumption)
              have q200 : x11_2 < (l0.length : Int) := of_decide_eq_true (by assumption)
              obtain ⟨ad200, e200, hx200_0⟩ := Kd.at_int HR0.out x11_2 p200 q200
              cases e200
              replace hx200_0 := (HB.out.cell (World.block_lt_of_cell? w _ hx200_0)).trans hx200_0
              replace p200 := eq_true p200
              replace q200 := eq_true q200
              go_wp2
              repeat (go_quiet (fail); try go_wp2)
              go_meet
              case rel => exact ⟨_, (decide ((wrap64 (x14_4 * (rd l0 x11_2))) ≤ x13_3)), rfl, H', ⟨by have := HK1.out; have := HK2.out; have := HK3.out; have := HK4.out; first | omega | exact Nat.le_refl _⟩, ⟨by (try simp only [hl12_4]); (with_reducible repeat (first | apply Kd.N_alloc | apply Kd.N_drewN | apply Kd.N_drew)); exact HO_10.out⟩, ⟨by (try simp only [hl12_4]); (with_reducible repeat (first | apply Kd.R_alloc | apply Kd.R_drewN | apply Kd.R_drew)); exact HO_12.out⟩, ⟨HB.out⟩⟩
             ·rw [if_neg c33] at H
              have c33b0 : decide (x14_4 ≤ (rd l1 x11_2)) = false := decide_eq_false c33
              clear c33
              have H' := Aside0.mk H
              clear H
              have p199 : 0 ≤ (x11_2 : Int) := of_decide_eq_true (by assumption)
              have q199 : x11_2 < (l1.length : Int) := of_decide_eq_true (by assumption)
              obtain ⟨ad199, e199, hx199_0⟩ := Kd.at_int HR1.out x11_2 p199 q199
              cases e199
              replace hx199_0 := (HB.out.cell (World.block_lt_of_cell? w _ hx199_0)).trans hx199_0
              replace p199 := eq_true p199
              replace q199 := eq_true q199
              go_wp2
              repeat (go_quiet (fail); try go_wp2)
              go_meet
              case rel => exact ⟨_, (false), rfl, H', ⟨by have := HK1.out; have := HK2.out; have := HK3.out; have := HK4.out; first | omega | exact Nat.le_refl _⟩, ⟨by (try simp only [hl12_4]); (with_reducible repeat (first | apply Kd.N_alloc | apply Kd.N_drewN | apply Kd.N_drew)); exact HO_10.out⟩, ⟨by (try simp only [hl12_4]); (with_reducible repeat (first | apply Kd.R_alloc | apply Kd.R_drewN | apply Kd.R_drew)); exact HO_12.out⟩, ⟨HB.out⟩⟩
            case rest =>
             clear HC30
             try clear c1
             try clear p1
             try clear q1
             try clear hx1
             try clear c2
             try clear p2
             try clear q2
             try clear hx2
             try clear c3
             try clear c5
             try clear c5b0
             try clear c5b1
             try clear c6
             try clear c6b0
             try clear c6b1
             try clear p6
             try clear c9
             try clear c9b0
             try clear c10
             try clear c10b0
             try clear c11
             try clear c11b0
             try clear p12
             try clear q12
             try clear hx12
             try clear hf12
             try clear c18
             try clear c18b0
             try clear p19
             try clear q19
             try clear hx19
             try clear c20
             try clear c20b0
             try clear c20b1
             try clear p20
             try clear q20
             try clear hx20
             try clear c21
             try clear c21b0
             try clear c21b1
             try clear c24
             try clear c24b0
             try clear c25
             try clear c25b0
             try clear c26
             try clear c26b0
             try clear p27
             try clear q27
             try clear hx27
             try clear hf27
             try clear c31
             try clear c31b0
             try clear c32
             try clear c32b0
             try clear c33
             try clear c33b0
             try clear c34
             try clear c34b0
             try clear hx12_0
             try clear hx199_0
             try clear hx200_0
             try clear hx27_0
             try clear p1
             try clear p12
             try clear p199
             try clear p2
             try clear p200
             try clear p27
             try clear p6
             try clear q1
             try clear q12
             try clear q199
             try clear q2
             try clear q200
             try clear q27
             obtain ⟨kq, x63_29, rfl, HA, HJ29, HO_10, HO_12, HB⟩ := hcut
             cases kq with
             | zero => exact absurd HA.out (by simp [spec_l01Table.j4])
             | succ kj29 =>
              have H := HA.out
              clear HA
              simp only [spec_l01Table.j4] at H
              by_cases c35 : x63_29 = true
              ·subst c35
               have H1 : (if 0 < (x10_2.length : Int) then (if 0 ≤ x11_2 then (if x11_2 < (l0.length : Int) then (if 0 ≤ (wrap64 (x13_3 - (wrap64 (x14_4 * (rd l0 x11_2))))) then (if (wrap64 (x13_3 - (wrap64 (x14_4 * (rd l0 x11_2))))) < ((rd_L5 x10_2 0).length : Int) then (if (rd (rd_L5 x10_2 0) (wrap64 (x13_3 - (wrap64 (x14_4 * (rd l0 x11_2)))))) ≥ 0 then (if 0 ≤ x13_3 then (if x13_3 < (x12_4.length : Int) then (if (rd x12_4 x13_3) < 0 then (spec_l01Table.l3 kj29 l0 l1 a2 x10_2 x11_2 (x12_4.set (x13_3 : Int).toNat (wrap64 ((rd (rd_L5 x10_2 0) (wrap64 (x13_3 - (wrap64 (x14_4 * (rd l0 x11_2)))))) + x14_4))) x13_3 (wrap64 (x14_4 + 1))) else (if (wrap64 ((rd (rd_L5 x10_2 0) (wrap64 (x13_3 - (wrap64 (x14_4 * (rd l0 x11_2)))))) + x14_4)) < (rd x12_4 x13_3) then (spec_l01Table.l3 kj29 l0 l1 a2 x10_2 x11_2 (x12_4.set (x13_3 : Int).toNat (wrap64 ((rd (rd_L5 x10_2 0) (wrap64 (x13_3 - (wrap64 (x14_4 * (rd l0 x11_2)))))) + x14_4))) x13_3 (wrap64 (x14_4 + 1))) else (spec_l01Table.l3 kj29 l0 l1 a2 x10_2 x11_2 x12_4 x13_3 (wrap64 (x14_4 + 1))))) else (none)) else (none)) else (spec_l01Table.l3 kj29 l0 l1 a2 x10_2 x11_2 x12_4 x13_3 (wrap64 (x14_4 + 1)))) else (none)) else (none)) else (none)) else (none)) else (none)) = some r := by rw [if_pos rfl] at H; exact H
               clear H
               have H := H1
               clear H1
               by_cases c36 : 0 < (x10_2.length : Int)
               rotate_left
               ·rw [if_neg c36] at H; exact absurd H (by simp)
               rw [if_pos c36] at H
               have c36b0 : decide (0 < (x10_2.length : Int)) = true := decide_eq_true c36
               have c36b1 : decide (0 < x10_2.length) = true := decide_eq_true (by omega)
               clear c36
               by_cases c37 : 0 ≤ x11_2
               rotate_left
               ·rw [if_neg c37] at H; exact absurd H (by simp)
               rw [if_pos c37] at H
               have c37b0 : decide (0 ≤ x11_2) = true := decide_eq_true c37
               clear c37
               by_cases c38 : x11_2 < (l0.length : Int)
               rotate_left
               ·rw [if_neg c38] at H; exact absurd H (by simp)
               rw [if_pos c38] at H
               have c38b0 : decide (x11_2 < (l0.length : Int)) = true := decide_eq_true c38
               clear c38
               obtain ⟨ji39, hji39⟩ : ∃ j_ : Int, (wrap64 (x13_3 - (wrap64 (x14_4 * (rd l0 x11_2))))) = j_ := ⟨_, rfl⟩
               replace H : (if 0 ≤ (ji39) then (if (ji39) < ((rd_L5 x10_2 0).length : Int) then (if (rd (rd_L5 x10_2 0) (ji39)) ≥ 0 then (if 0 ≤ x13_3 then (if x13_3 < (x12_4.length : Int) then (if (rd x12_4 x13_3) < 0 then (spec_l01Table.l3 kj29 l0 l1 a2 x10_2 x11_2 (x12_4.set (x13_3 : Int).toNat (wrap64 ((rd (rd_L5 x10_2 0) (ji39)) + x14_4))) x13_3 (wrap64 (x14_4 + 1))) else (if (wrap64 ((rd (rd_L5 x10_2 0) (ji39)) + x14_4)) < (rd x12_4 x13_3) then (spec_l01Table.l3 kj29 l0 l1 a2 x10_2 x11_2 (x12_4.set (x13_3 : Int).toNat (wrap64 ((rd (rd_L5 x10_2 0) (ji39)) + x14_4))) x13_3 (wrap64 (x14_4 + 1))) else (spec_l01Table.l3 kj29 l0 l1 a2 x10_2 x11_2 x12_4 x13_3 (wrap64 (x14_4 + 1))))) else (none)) else (none)) else (spec_l01Table.l3 kj29 l0 l1 a2 x10_2 x11_2 x12_4 x13_3 (wrap64 (x14_4 + 1)))) else (none)) else (none)) = some r := by first | (rw [hji39] at H; exact H) | (simp only [hji39] at H ⊢; exact H)
               have hji39w : (IntKind.i64.wrap (x13_3 - (wrap64 (x14_4 * (rd l0 x11_2))))) = ji39 := (i64_w _).trans hji39
               by_cases c40 : 0 ≤ (ji39)
               rotate_left
               ·rw [if_neg c40] at H; exact absurd H (by simp)
               rw [if_pos c40] at H
               have c40b0 : decide (0 ≤ (ji39)) = true := decide_eq_true c40
               clear c40
               by_cases c41 : (ji39) < ((rd_L5 x10_2 0).length : Int)
               rotate_left
               ·rw [if_neg c41] at H; exact absurd H (by simp)
               rw [if_pos c41] at H
               have c41b0 : decide ((ji39) < ((rd_L5 x10_2 0).length : Int)) = true := decide_eq_true c41
               clear c41
               by_cases c42 : (rd (rd_L5 x10_2 0) (ji39)) ≥ 0
               ·rw [if_pos c42] at H
                have c42b0 : decide (0 ≤ (rd (rd_L5 x10_2 0) (ji39))) = true := decide_eq_true c42
                clear c42
                by_cases c43 : 0 ≤ x13_3
                rotate_left
                ·rw [if_neg c43] at H; exact absurd H (by simp)
                rw [if_pos c43] at H
                have c43b0 : decide (0 ≤ x13_3) = true := decide_eq_true c43
                clear c43
                by_cases c44 : x13_3 < (x12_4.length : Int)
                rotate_left
                ·rw [if_neg c44] at H; exact absurd H (by simp)
                rw [if_pos c44] at H
                have c44b0 : decide (x13_3 < (x12_4.length : Int)) = true := decide_eq_true c44
                clear c44
                by_cases c45 : (rd x12_4 x13_3) < 0
                ·rw [if_pos c45] at H
                 have c45b0 : decide ((rd x12_4 x13_3) < 0) = true := decide_eq_true c45
                 clear c45
                 obtain ⟨y205, hy205⟩ : ∃ y_ : List Int, y_ = (x12_4.set (x13_3 : Int).toNat (wrap64 ((rd (rd_L5 x10_2 0) (ji39)) + x14_4))) := ⟨_, rfl⟩
                 replace H : (spec_l01Table.l3 kj29 l0 l1 a2 x10_2 x11_2 y205 x13_3 (wrap64 (x14_4 + 1))) = some r := by rw [hy205]; exact H
                 have Ny205 := Aside0.mk hy205
                 clear hy205
                 have H' := Aside0.mk H
                 clear H
                 obtain ⟨Ao47, co47, eo47⟩ := Kd.N_slice HO_10.out
                 subst eo47
                 have p201 : 0 ≤ (0 : Int) := (by omega)
                 have q201 : 0 < (x10_2.length : Int) := of_decide_eq_true (by assumption)
                 obtain ⟨ad201, A201_0, c201_0, e201, hx201_0, hl201_0, hi201_0⟩ := at_L5 (Kd.N_reads' HO_10.out).2.2 0 p201 q201
                 cases e201
                 obtain ⟨ce201, hce201, hMe201, hcc201⟩ := Kd.N_get HO_10.out [] 0 p201 (by first | exact q201 | exact of_decide_eq_true (by assumption) | (have e_ := (Kd.N_reads' HO_10.out).1; omega))
                 obtain ⟨ua201_0, uc201_0, rfl, ul201_0, ge201_0⟩ := Kd.FK_slice_open hMe201
                 have hv201_0 := hcc201 0 _ rfl
                 rw [Nat.add_zero, show ((Kd.slice 2 (Kd.int .i64))).sz = 1 from rfl, Nat.mul_one] at hv201_0
                 replace hv201_0 := Option.some.inj (hv201_0.symm.trans hx201_0)
                 injection hv201_0 with hva_ hvn_ hvc_
                 rw [hva_] at ge201_0
                 rw [hvc_] at ul201_0
                 have HL201_0 := Aside0.mk (show Kd.V (Kd.int .i64) 2 _ w.heap.size _ _ (rd_L5 x10_2 0) from Kd.V_mk ul201_0 ge201_0)
                 clear hva_ hvn_ hvc_ ge201_0 ul201_0
                 clear hcc201 hce201
                 have qi201 : (0 < x10_2.length) = True := eq_true (by omega)
                 (try rw [show ((0 : Int)).toNat = 0 from rfl] at hx201_0)
                 (try rw [Addr.add_zero'] at hx201_0)
                 have HR201_0 := Aside0.mk hi201_0
                 have HC201_0 := Aside0.mk hl201_0
                 clear hi201_0 hl201_0
                 replace p201 := eq_true p201
                 replace q201 := eq_true q201
                 have p202 : 0 ≤ (x11_2 : Int) := of_decide_eq_true (by assumption)
                 have q202 : x11_2 < (l0.length : Int) := of_decide_eq_true (by assumption)
                 obtain ⟨ad202, e202, hx202_0⟩ := Kd.at_int HR0.out x11_2 p202 q202
                 cases e202
                 replace hx202_0 := (HB.out.cell (World.block_lt_of_cell? w _ hx202_0)).trans hx202_0
                 replace p202 := eq_true p202
                 replace q202 := eq_true q202
                 have p203 : 0 ≤ ((ji39) : Int) := of_decide_eq_true (by assumption)
                 have q203 : (ji39) < ((rd_L5 x10_2 0).length : Int) := of_decide_eq_true (by assumption)
                 obtain ⟨ad203, e203, hx203_0⟩ := Kd.at_int HR201_0.out (ji39) p203 q203
                 cases e203
                 replace p203 := eq_true p203
                 replace q203 := eq_true q203
                 have p204 : 0 ≤ (x13_3 : Int) := of_decide_eq_true (by assumption)
                 have q204 : x13_3 < (x12_4.length : Int) := of_decide_eq_true (by assumption)
                 obtain ⟨ad204, e204, hx204_0⟩ := Kd.at_int (Kd.R_reads' HO_12.out).2.2 x13_3 p204 q204
                 obtain rfl : (⟨go27, 0, none⟩ : Addr) = ad204 := (by injection e204)
                 (first | simp only [add_plain] at hx204_0 | simp only [add_at] at hx204_0 | simp only [Addr.add, Nat.zero_add] at hx204_0 | skip)
                 replace p204 := eq_true p204
                 replace q204 := eq_true q204
                 have p46 : 0 ≤ (x13_3 : Int) := of_decide_eq_true (by assumption)
                 have q46 : (x13_3 : Int) < ((x12_4.length : Int) : Int) := of_decide_eq_true (by assumption)
                 obtain ⟨hx46_0, hf46_0⟩ := Kd.R_celln 0 HO_12.out (x13_3 : Int) p46 q46
                 replace p46 := eq_true p46
                 replace q46 := eq_true q46
                 have HP48 := Kd.R_putg HO_12.out (x13_3 : Int) (wrap64 ((rd (rd_L5 x10_2 0) (ji39)) + x14_4))
                 go_wp2_with (first | ((with_reducible refine gate_store (t := 2) (p := 103) rfl ?_); (try (rw [drewN_self wc]; generalize hq_ : World.drewN wc _ = wc; replace HO_10 := Aside0.mk (Kd.N_at hq_ HO_10.out); replace HO_12 := Aside0.mk (Kd.R_at hq_ HO_12.out); replace HL201_0 := Aside0.mk (Kd.V_at hq_ HL201_0.out); replace HB := Aside0.mk (below_at hq_ HB.out); clear hq_; (try (have HP48 := Kd.R_putg HO_12.out (x13_3 : Int) (wrap64 ((rd (rd_L5 x10_2 0) (ji39)) + x14_4)))))); refine store_event (t := 2) (p := 103) (v := ?vo_w49) (w1 := (wc.setCell ⟨go27, (x13_3 : Int).toNat, none⟩ (.int .i64 (wrap64 ((rd (rd_L5 x10_2 0) (ji39)) + x14_4))))) ?hg ?ho ?hn ?hr ?_; (case ho => rfl); (case hg => rfl); (case hn => rfl); (case hr => go_simp; rfl); intro w49 hw; have hg : wc.grownBy w49 (some go27) := (by rw [hw]; exact HP48.2); have hp_ : Kd.R (Kd.int .i64) 2 w49 w.heap.size (fun k_ => (w.heap.size ≤ k_)) (.slice (some ⟨go27, 0, none⟩) x12_4.length co27) y205 := (by rw [hw, Ny205.out]; exact HP48.1); clear HP48; replace HO_10 := Aside0.mk (Kd.N_afterv (v := (.slice (some ⟨go27, 0, none⟩) x12_4.length co27)) (v1 := (.slice (some ⟨go27, 0, none⟩) x12_4.length co27)) (ok := (fun k_ => (w.heap.size ≤ k_))) HO_10.out hg (.inl rfl)); replace HO_12 := Aside0.mk (hp_); replace HL201_0 := Aside0.mk (Kd.V_afterv (v := (.slice (some ⟨go27, 0, none⟩) x12_4.length co27)) (v1 := (.slice (some ⟨go27, 0, none⟩) x12_4.length co27)) (ok := (fun k_ => (w.heap.size ≤ k_) ∧ some k_ ≠ (.slice (some ad201) x10_2.length co47 : Value).ownBlock)) (Kd.V_mono HL201_0.out (fun _ hk => ⟨⟨hk.1.1, hk.2⟩, hk.1.2⟩)) hg (.inl rfl)); replace HB := Aside0.mk ((by rw [hw]; exact below_set (HB.out) GB27.out : Below w.heap.size w w49)); clear hg hw hp_))
                 repeat (go_quiet (fail); try go_wp2)
                 (try simp only [← hl12_4])
                 go_roundg kj29
                 case measure => have := HK1.out; have := HK2.out; have := HK3.out; have := HK4.out; have := HJ29.out; omega
                 case rel => exact ⟨(y205), (wrap64 (x14_4 + 1)), rfl, H', ⟨by have := HK1.out; have := HK2.out; have := HK3.out; have := HK4.out; have := HJ29.out; omega⟩, ⟨by (try simp only [hl12_4]); (with_reducible repeat (first | apply Kd.N_alloc | apply Kd.N_drewN | apply Kd.N_drew)); first | exact HO_10.out | exact Kd.N_afterv (v := (.slice (some ⟨go27, 0, none⟩) x12_4.length co27)) (v1 := (.slice (some ⟨go27, 0, none⟩) x12_4.length co27)) (ok := (fun k_ => (w.heap.size ≤ k_))) (Kd.N_drewN HO_10.out _) (Kd.R_putg (Kd.R_drewN HO_12.out _) (x13_3 : Int) _).2 (.inl rfl)⟩, ⟨by (try simp only [hl12_4]); (with_reducible repeat (first | apply Kd.R_alloc | apply Kd.R_drewN | apply Kd.R_drew)); first | exact HO_12.out | (rw [Ny205.out]; exact (Kd.R_putg (Kd.R_drewN HO_12.out _) (x13_3 : Int) _).1)⟩, ⟨by first | exact below_set (pw_below_drewN HB.out _) GB27.out | (repeat (first | (with_reducible first | exact HB.out | apply below_alloc | apply pw_below_drewN | apply below_drew1) | exact HB.out))⟩⟩
                ·rw [if_neg c45] at H
                 have c45b0 : decide ((rd x12_4 x13_3) < 0) = false := decide_eq_false c45
                 clear c45
                 by_cases c50 : (wrap64 ((rd (rd_L5 x10_2 0) (ji39)) + x14_4)) < (rd x12_4 x13_3)
                 ·rw [if_pos c50] at H
                  have c50b0 : decide ((wrap64 ((rd (rd_L5 x10_2 0) (ji39)) + x14_4)) < (rd x12_4 x13_3)) = true := decide_eq_true c50
                  clear c50
                  obtain ⟨y207, hy207⟩ : ∃ y_ : List Int, y_ = (x12_4.set (x13_3 : Int).toNat (wrap64 ((rd (rd_L5 x10_2 0) (ji39)) + x14_4))) := ⟨_, rfl⟩
                  replace H : (spec_l01Table.l3 kj29 l0 l1 a2 x10_2 x11_2 y207 x13_3 (wrap64 (x14_4 + 1))) = some r := by rw [hy207]; exact H
                  have Ny207 := Aside0.mk hy207
                  clear hy207
                  have H' := Aside0.mk H
                  clear H
                  obtain ⟨Ao52, co52, eo52⟩ := Kd.N_slice HO_10.out
                  subst eo52
                  have p201 : 0 ≤ (0 : Int) := (by omega)
                  have q201 : 0 < (x10_2.length : Int) := of_decide_eq_true (by assumption)
                  obtain ⟨ad201, A201_0, c201_0, e201, hx201_0, hl201_0, hi201_0⟩ := at_L5 (Kd.N_reads' HO_10.out).2.2 0 p201 q201
                  cases e201
                  obtain ⟨ce201, hce201, hMe201, hcc201⟩ := Kd.N_get HO_10.out [] 0 p201 (by first | exact q201 | exact of_decide_eq_true (by assumption) | (have e_ := (Kd.N_reads' HO_10.out).1; omega))
                  obtain ⟨ua201_0, uc201_0, rfl, ul201_0, ge201_0⟩ := Kd.FK_slice_open hMe201
                  have hv201_0 := hcc201 0 _ rfl
                  rw [Nat.add_zero, show ((Kd.slice 2 (Kd.int .i64))).sz = 1 from rfl, Nat.mul_one] at hv201_0
                  replace hv201_0 := Option.some.inj (hv201_0.symm.trans hx201_0)
                  injection hv201_0 with hva_ hvn_ hvc_
                  rw [hva_] at ge201_0
                  rw [hvc_] at ul201_0
                  have HL201_0 := Aside0.mk (show Kd.V (Kd.int .i64) 2 _ w.heap.size _ _ (rd_L5 x10_2 0) from Kd.V_mk ul201_0 ge201_0)
                  clear hva_ hvn_ hvc_ ge201_0 ul201_0
                  clear hcc201 hce201
                  have qi201 : (0 < x10_2.length) = True := eq_true (by omega)
                  (try rw [show ((0 : Int)).toNat = 0 from rfl] at hx201_0)
                  (try rw [Addr.add_zero'] at hx201_0)
                  have HR201_0 := Aside0.mk hi201_0
                  have HC201_0 := Aside0.mk hl201_0
                  clear hi201_0 hl201_0
                  replace p201 := eq_true p201
                  replace q201 := eq_true q201
                  have p202 : 0 ≤ (x11_2 : Int) := of_decide_eq_true (by assumption)
                  have q202 : x11_2 < (l0.length : Int) := of_decide_eq_true (by assumption)
                  obtain ⟨ad202, e202, hx202_0⟩ := Kd.at_int HR0.out x11_2 p202 q202
                  cases e202
                  replace hx202_0 := (HB.out.cell (World.block_lt_of_cell? w _ hx202_0)).trans hx202_0
                  replace p202 := eq_true p202
                  replace q202 := eq_true q202
                  have p203 : 0 ≤ ((ji39) : Int) := of_decide_eq_true (by assumption)
                  have q203 : (ji39) < ((rd_L5 x10_2 0).length : Int) := of_decide_eq_true (by assumption)
                  obtain ⟨ad203, e203, hx203_0⟩ := Kd.at_int HR201_0.out (ji39) p203 q203
                  cases e203
                  replace p203 := eq_true p203
                  replace q203 := eq_true q203
                  have p204 : 0 ≤ (x13_3 : Int) := of_decide_eq_true (by assumption)
                  have q204 : x13_3 < (x12_4.length : Int) := of_decide_eq_true (by assumption)
                  obtain ⟨ad204, e204, hx204_0⟩ := Kd.at_int (Kd.R_reads' HO_12.out).2.2 x13_3 p204 q204
                  obtain rfl : (⟨go27, 0, none⟩ : Addr) = ad204 := (by injection e204)
                  (first | simp only [add_plain] at hx204_0 | simp only [add_at] at hx204_0 | simp only [Addr.add, Nat.zero_add] at hx204_0 | skip)
                  replace p204 := eq_true p204
                  replace q204 := eq_true q204
                  have p206 : 0 ≤ (x13_3 : Int) := of_decide_eq_true (by assumption)
                  have q206 : x13_3 < (x12_4.length : Int) := of_decide_eq_true (by assumption)
                  obtain ⟨ad206, e206, hx206_0⟩ := Kd.at_int (Kd.R_reads' HO_12.out).2.2 x13_3 p206 q206
                  obtain rfl : (⟨go27, 0, none⟩ : Addr) = ad206 := (by injection e206)
                  (first | simp only [add_plain] at hx206_0 | simp only [add_at] at hx206_0 | simp only [Addr.add, Nat.zero_add] at hx206_0 | skip)
                  replace p206 := eq_true p206
                  replace q206 := eq_true q206
                  have p51 : 0 ≤ (x13_3 : Int) := of_decide_eq_true (by assumption)
                  have q51 : (x13_3 : Int) < ((x12_4.length : Int) : Int) := of_decide_eq_true (by assumption)
                  obtain ⟨hx51_0, hf51_0⟩ := Kd.R_celln 0 HO_12.out (x13_3 : Int) p51 q51
                  replace p51 := eq_true p51
                  replace q51 := eq_true q51
                  have HP53 := Kd.R_putg HO_12.out (x13_3 : Int) (wrap64 ((rd (rd_L5 x10_2 0) (ji39)) + x14_4))
                  go_wp2_with (first | ((with_reducible refine gate_store (t := 2) (p := 103) rfl ?_); (try (rw [drewN_self wc]; generalize hq_ : World.drewN wc _ = wc; replace HO_10 := Aside0.mk (Kd.N_at hq_ HO_10.out); replace HO_12 := Aside0.mk (Kd.R_at hq_ HO_12.out); replace HL201_0 := Aside0.mk (Kd.V_at hq_ HL201_0.out); replace HB := Aside0.mk (below_at hq_ HB.out); clear hq_; (try (have HP53 := Kd.R_putg HO_12.out (x13_3 : Int) (wrap64 ((rd (rd_L5 x10_2 0) (ji39)) + x14_4)))))); refine store_event (t := 2) (p := 103) (v := ?vo_w54) (w1 := (wc.setCell ⟨go27, (x13_3 : Int).toNat, none⟩ (.int .i64 (wrap64 ((rd (rd_L5 x10_2 0) (ji39)) + x14_4))))) ?hg ?ho ?hn ?hr ?_; (case ho => rfl); (case hg => rfl); (case hn => rfl); (case hr => go_simp; rfl); intro w54 hw; have hg : wc.grownBy w54 (some go27) := (by rw [hw]; exact HP53.2); have hp_ : Kd.R (Kd.int .i64) 2 w54 w.heap.size (fun k_ => (w.heap.size ≤ k_)) (.slice (some ⟨go27, 0, none⟩) x12_4.length co27) y207 := (by rw [hw, Ny207.out]; exact HP53.1); clear HP53; replace HO_10 := Aside0.mk (Kd.N_afterv (v := (.slice (some ⟨go27, 0, none⟩) x12_4.length co27)) (v1 := (.slice (some ⟨go27, 0, none⟩) x12_4.length co27)) (ok := (fun k_ => (w.heap.size ≤ k_))) HO_10.out hg (.inl rfl)); replace HO_12 := Aside0.mk (hp_); replace HL201_0 := Aside0.mk (Kd.V_afterv (v := (.slice (some ⟨go27, 0, none⟩) x12_4.length co27)) (v1 := (.slice (some ⟨go27, 0, none⟩) x12_4.length co27)) (ok := (fun k_ => (w.heap.size ≤ k_) ∧ some k_ ≠ (.slice (some ad201) x10_2.length co52 : Value).ownBlock)) (Kd.V_mono HL201_0.out (fun _ hk => ⟨⟨hk.1.1, hk.2⟩, hk.1.2⟩)) hg (.inl rfl)); replace HB := Aside0.mk ((by rw [hw]; exact below_set (HB.out) GB27.out : Below w.heap.size w w54)); clear hg hw hp_))
                  repeat (go_quiet (fail); try go_wp2)
                  (try simp only [← hl12_4])
                  go_roundg kj29
                  case measure => have := HK1.out; have := HK2.out; have := HK3.out; have := HK4.out; have := HJ29.out; omega
                  case rel => exact ⟨(y207), (wrap64 (x14_4 + 1)), rfl, H', ⟨by have := HK1.out; have := HK2.out; have := HK3.out; have := HK4.out; have := HJ29.out; omega⟩, ⟨by (try simp only [hl12_4]); (with_reducible repeat (first | apply Kd.N_alloc | apply Kd.N_drewN | apply Kd.N_drew)); first | exact HO_10.out | exact Kd.N_afterv (v := (.slice (some ⟨go27, 0, none⟩) x12_4.length co27)) (v1 := (.slice (some ⟨go27, 0, none⟩) x12_4.length co27)) (ok := (fun k_ => (w.heap.size ≤ k_))) (Kd.N_drewN HO_10.out _) (Kd.R_putg (Kd.R_drewN HO_12.out _) (x13_3 : Int) _).2 (.inl rfl)⟩, ⟨by (try simp only [hl12_4]); (with_reducible repeat (first | apply Kd.R_alloc | apply Kd.R_drewN | apply Kd.R_drew)); first | exact HO_12.out | (rw [Ny207.out]; exact (Kd.R_putg (Kd.R_drewN HO_12.out _) (x13_3 : Int) _).1)⟩, ⟨by first | exact below_set (pw_below_drewN HB.out _) GB27.out | (repeat (first | (with_reducible first | exact HB.out | apply below_alloc | apply pw_below_drewN | apply below_drew1) | exact HB.out))⟩⟩
                 ·rw [if_neg c50] at H
                  have c50b0 : decide ((wrap64 ((rd (rd_L5 x10_2 0) (ji39)) + x14_4)) < (rd x12_4 x13_3)) = false := decide_eq_false c50
                  clear c50
                  have H' := Aside0.mk H
                  clear H
                  obtain ⟨Ao55, co55, eo55⟩ := Kd.N_slice HO_10.out
                  subst eo55
                  have p201 : 0 ≤ (0 : Int) := (by omega)
                  have q201 : 0 < (x10_2.length : Int) := of_decide_eq_true (by assumption)
                  obtain ⟨ad201, A201_0, c201_0, e201, hx201_0, hl201_0, hi201_0⟩ := at_L5 (Kd.N_reads' HO_10.out).2.2 0 p201 q201
                  cases e201
                  obtain ⟨ce201, hce201, hMe201, hcc201⟩ := Kd.N_get HO_10.out [] 0 p201 (by first | exact q201 | exact of_decide_eq_true (by assumption) | (have e_ := (Kd.N_reads' HO_10.out).1; omega))
                  obtain ⟨ua201_0, uc201_0, rfl, ul201_0, ge201_0⟩ := Kd.FK_slice_open hMe201
                  have hv201_0 := hcc201 0 _ rfl
                  rw [Nat.add_zero, show ((Kd.slice 2 (Kd.int .i64))).sz = 1 from rfl, Nat.mul_one] at hv201_0
                  replace hv201_0 := Option.some.inj (hv201_0.symm.trans hx201_0)
                  injection hv201_0 with hva_ hvn_ hvc_
                  rw [hva_] at ge201_0
                  rw [hvc_] at ul201_0
                  have HL201_0 := Aside0.mk (show Kd.V (Kd.int .i64) 2 _ w.heap.size _ _ (rd_L5 x10_2 0) from Kd.V_mk ul201_0 ge201_0)
                  clear hva_ hvn_ hvc_ ge201_0 ul201_0
                  clear hcc201 hce201
                  have qi201 : (0 < x10_2.length) = True := eq_true (by omega)
                  (try rw [show ((0 : Int)).toNat = 0 from rfl] at hx201_0)
                  (try rw [Addr.add_zero'] at hx201_0)
                  have HR201_0 := Aside0.mk hi201_0
                  have HC201_0 := Aside0.mk hl201_0
                  clear hi201_0 hl201_0
                  replace p201 := eq_true p201
                  replace q201 := eq_true q201
                  have p202 : 0 ≤ (x11_2 : Int) := of_decide_eq_true (by assumption)
                  have q202 : x11_2 < (l0.length : Int) := of_decide_eq_true (by assumption)
                  obtain ⟨ad202, e202, hx202_0⟩ := Kd.at_int HR0.out x11_2 p202 q202
                  cases e202
                  replace hx202_0 := (HB.out.cell (World.block_lt_of_cell? w _ hx202_0)).trans hx202_0
                  replace p202 := eq_true p202
                  replace q202 := eq_true q202
                  have p203 : 0 ≤ ((ji39) : Int) := of_decide_eq_true (by assumption)
                  have q203 : (ji39) < ((rd_L5 x10_2 0).length : Int) := of_decide_eq_true (by assumption)
                  obtain ⟨ad203, e203, hx203_0⟩ := Kd.at_int HR201_0.out (ji39) p203 q203
                  cases e203
                  replace p203 := eq_true p203
                  replace q203 := eq_true q203
                  have p204 : 0 ≤ (x13_3 : Int) := of_decide_eq_true (by assumption)
                  have q204 : x13_3 < (x12_4.length : Int) := of_decide_eq_true (by assumption)
                  obtain ⟨ad204, e204, hx204_0⟩ := Kd.at_int (Kd.R_reads' HO_12.out).2.2 x13_3 p204 q204
                  obtain rfl : (⟨go27, 0, none⟩ : Addr) = ad204 := (by injection e204)
                  (first | simp only [add_plain] at hx204_0 | simp only [add_at] at hx204_0 | simp only [Addr.add, Nat.zero_add] at hx204_0 | skip)
                  replace p204 := eq_true p204
                  replace q204 := eq_true q204
                  have p206 : 0 ≤ (x13_3 : Int) := of_decide_eq_true (by assumption)
                  have q206 : x13_3 < (x12_4.length : Int) := of_decide_eq_true (by assumption)
                  obtain ⟨ad206, e206, hx206_0⟩ := Kd.at_int (Kd.R_reads' HO_12.out).2.2 x13_3 p206 q206
                  obtain rfl : (⟨go27, 0, none⟩ : Addr) = ad206 := (by injection e206)
                  (first | simp only [add_plain] at hx206_0 | simp only [add_at] at hx206_0 | simp only [Addr.add, Nat.zero_add] at hx206_0 | skip)
                  replace p206 := eq_true p206
                  replace q206 := eq_true q206
                  go_wp2
                  repeat (go_quiet (fail); try go_wp2)
                  (try simp only [← hl12_4])
                  go_roundg kj29
                  case measure => have := HK1.out; have := HK2.out; have := HK3.out; have := HK4.out; have := HJ29.out; omega
                  case rel => exact ⟨(x12_4), (wrap64 (x14_4 + 1)), (by first | rfl | (simp; done) | (simp [*]; done)), H', ⟨by have := HK1.out; have := HK2.out; have := HK3.out; have := HK4.out; have := HJ29.out; omega⟩, ⟨by (try simp only [hl12_4]); (with_reducible repeat (first | apply Kd.N_alloc | apply Kd.N_drewN | apply Kd.N_drew)); exact HO_10.out⟩, ⟨by (try simp only [hl12_4]); (with_reducible repeat (first | apply Kd.R_alloc | apply Kd.R_drewN | apply Kd.R_drew)); exact HO_12.out⟩, ⟨by repeat (first | (with_reducible first | exact HB.out | apply below_alloc | apply pw_below_drewN | apply below_drew1) | exact HB.out)⟩⟩
               ·rw [if_neg c42] at H
                have c42b0 : decide (0 ≤ (rd (rd_L5 x10_2 0) (ji39))) = false := decide_eq_false c42
                clear c42
                have H' := Aside0.mk H
                clear H
                obtain ⟨Ao56, co56, eo56⟩ := Kd.N_slice HO_10.out
                subst eo56
                have p201 : 0 ≤ (0 : Int) := (by omega)
                have q201 : 0 < (x10_2.length : Int) := of_decide_eq_true (by assumption)
                obtain ⟨ad201, A201_0, c201_0, e201, hx201_0, hl201_0, hi201_0⟩ := at_L5 (Kd.N_reads' HO_10.out).2.2 0 p201 q201
                cases e201
                obtain ⟨ce201, hce201, hMe201, hcc201⟩ := Kd.N_get HO_10.out [] 0 p201 (by first | exact q201 | exact of_decide_eq_true (by assumption) | (have e_ := (Kd.N_reads' HO_10.out).1; omega))
                obtain ⟨ua201_0, uc201_0, rfl, ul201_0, ge201_0⟩ := Kd.FK_slice_open hMe201
                have hv201_0 := hcc201 0 _ rfl
                rw [Nat.add_zero, show ((Kd.slice 2 (Kd.int .i64))).sz = 1 from rfl, Nat.mul_one] at hv201_0
                replace hv201_0 := Option.some.inj (hv201_0.symm.trans hx201_0)
                injection hv201_0 with hva_ hvn_ hvc_
                rw [hva_] at ge201_0
                rw [hvc_] at ul201_0
                have HL201_0 := Aside0.mk (show Kd.V (Kd.int .i64) 2 _ w.heap.size _ _ (rd_L5 x10_2 0) from Kd.V_mk ul201_0 ge201_0)
                clear hva_ hvn_ hvc_ ge201_0 ul201_0
                clear hcc201 hce201
                have qi201 : (0 < x10_2.length) = True := eq_true (by omega)
                (try rw [show ((0 : Int)).toNat = 0 from rfl] at hx201_0)
                (try rw [Addr.add_zero'] at hx201_0)
                have HR201_0 := Aside0.mk hi201_0
                have HC201_0 := Aside0.mk hl201_0
                clear hi201_0 hl201_0
                replace p201 := eq_true p201
                replace q201 := eq_true q201
                have p202 : 0 ≤ (x11_2 : Int) := of_decide_eq_true (by assumption)
                have q202 : x11_2 < (l0.length : Int) := of_decide_eq_true (by assumption)
                obtain ⟨ad202, e202, hx202_0⟩ := Kd.at_int HR0.out x11_2 p202 q202
                cases e202
                replace hx202_0 := (HB.out.cell (World.block_lt_of_cell? w _ hx202_0)).trans hx202_0
                replace p202 := eq_true p202
                replace q202 := eq_true q202
                have p203 : 0 ≤ ((ji39) : Int) := of_decide_eq_true (by assumption)
                have q203 : (ji39) < ((rd_L5 x10_2 0).length : Int) := of_decide_eq_true (by assumption)
                obtain ⟨ad203, e203, hx203_0⟩ := Kd.at_int HR201_0.out (ji39) p203 q203
                cases e203
                replace p203 := eq_true p203
                replace q203 := eq_true q203
                go_wp2
                repeat (go_quiet (fail); try go_wp2)
                (try simp only [← hl12_4])
                go_roundg kj29
                case measure => have := HK1.out; have := HK2.out; have := HK3.out; have := HK4.out; have := HJ29.out; omega
                case rel => exact ⟨(x12_4), (wrap64 (x14_4 + 1)), (by first | rfl | (simp; done) | (simp [*]; done)), H', ⟨by have := HK1.out; have := HK2.out; have := HK3.out; have := HK4.out; have := HJ29.out; omega⟩, ⟨by (try simp only [hl12_4]); (with_reducible repeat (first | apply Kd.N_alloc | apply Kd.N_drewN | apply Kd.N_drew)); exact HO_10.out⟩, ⟨by (try simp only [hl12_4]); (with_reducible repeat (first | apply Kd.R_alloc | apply Kd.R_drewN | apply Kd.R_drew)); exact HO_12.out⟩, ⟨by repeat (first | (with_reducible first | exact HB.out | apply below_alloc | apply pw_below_drewN | apply below_drew1) | exact HB.out)⟩⟩
              ·replace c35 := Bool.eq_false_iff.mpr c35
               subst c35
               have H1 : (spec_l01Table.l2 kj29 l0 l1 a2 x10_2 x11_2 x12_4 (wrap64 (x13_3 + 1))) = some r := by rw [if_neg (show ¬ (false = true) by decide)] at H; exact H
               clear H
               have H := H1
               clear H1
               have H' := Aside0.mk H
               clear H
               go_wp2
               repeat (go_quiet (fail); try go_wp2)
               (try simp only [← hl12_4])
               go_roundg kj29
               case measure => have := HK1.out; have := HK2.out; have := HK3.out; have := HK4.out; have := HJ29.out; omega
               case rel => exact ⟨(x12_4), (wrap64 (x13_3 + 1)), rfl, H', ⟨by have := HK1.out; have := HK2.out; have := HK3.out; have := HK4.out; have := HJ29.out; omega⟩, ⟨by (try simp only [hl12_4]); (with_reducible repeat (first | apply Kd.N_alloc | apply Kd.N_drewN | apply Kd.N_drew)); exact HO_10.out⟩, ⟨by (try simp only [hl12_4]); (with_reducible repeat (first | apply Kd.R_alloc | apply Kd.R_drewN | apply Kd.R_drew)); exact HO_12.out⟩, ⟨HB.out⟩⟩
         ·rw [if_neg c24] at H
          have c24b0 : decide (x13_3 ≤ a2) = false := decide_eq_false c24
          clear c24
          obtain ⟨y192, hy192⟩ : ∃ y_ : List (List Int), y_ = (([x12_3] : List (List Int))) := ⟨_, rfl⟩
          replace H : (if y192.length + x10_2.length < 5864062014805 then (spec_l01Table.l1 k3 l0 l1 a2 (y192 ++ x10_2) (wrap64 (x11_2 - 1))) else (none)) = some r := by rw [hy192]; exact H
          have Ny192 := Aside0.mk hy192
          clear hy192
          by_cases c57 : y192.length + x10_2.length < 5864062014805
          rotate_left
          ·rw [if_neg c57] at H; exact absurd H (by simp)
          rw [if_pos c57] at H
          have LMc57 := Aside0.mk c57
          clear c57
          obtain ⟨y195, hy195⟩ : ∃ y_ : List (List Int), y_ = (y192 ++ x10_2) := ⟨_, rfl⟩
          replace H : (spec_l01Table.l1 k3 l0 l1 a2 y195 (wrap64 (x11_2 - 1))) = some r := by rw [hy195]; exact H
          have Ny195 := Aside0.mk hy195
          clear hy195
          have H' := Aside0.mk H
          clear H
          obtain ⟨Ao58, co58, eo58⟩ := Kd.R_slice HO_12.out
          subst eo58
          go_wp2_with (first | ((with_reducible refine gate_dst (N := 105) rfl ?_); refine Kd.N_lit (Kd.slice 2 (Kd.int .i64)) _ 34 ?hg (N' := 105) ?hd (xs := ([x12_3] : List (List Int))) (inner := [.slice Ao58 x12_3.length co58]) (ok := (fun k_ => (w.heap.size ≤ k_) ∧ some k_ ≠ (u10 : Value).ownBlock)) (okp := (fun k_ => (w.heap.size ≤ k_) ∧ some k_ ≠ (u10 : Value).ownBlock)) ?hr ?hp (fun _ hk => hk) ((show ∀ k_, wr.heap.size ≤ k_ → (fun k_ => (w.heap.size ≤ k_) ∧ some k_ ≠ (u10 : Value).ownBlock) k_ from fun k_ hk => ⟨(Nat.le_trans (below_size HB.out) hk), Kd.fresh' (Kd.N_lt HO_10.out) k_ hk⟩) _ (Nat.le_refl _)) (Below.refl _ _) (Nat.le_refl _) (by simp) ?_; (case hd => rfl); (case hg => rfl); (case hr => go_simp; try rfl); (case hp => exact (Reps.one (show Kd.FK (Kd.slice 2 (Kd.int .i64)) _ _ x12_3 [.slice Ao58 x12_3.length co58] from (Kd.FK_slice_mk (Kd.R_reads' (Kd.R_mono (ok' := (fun k_ => (w.heap.size ≤ k_) ∧ some k_ ≠ (u10 : Value).ownBlock)) (Kd.R_apart' (HO_12.out) (Kd.N_typed HO_10.out) (by decide)) (fun k_ hk => ⟨hk.1, hk.2⟩))).2.1 (Kd.R_F (Kd.R_mono (ok' := (fun k_ => (w.heap.size ≤ k_) ∧ some k_ ≠ (u10 : Value).ownBlock)) (Kd.R_apart' (HO_12.out) (Kd.N_typed HO_10.out) (by decide)) (fun k_ hk => ⟨hk.1, hk.2⟩))))) (Reps.none _ _))); intro v193 w59 ho60 hb hg_ hnew_; clear hg_ hnew_; (first | rw [← Ny192.out] at ho60 | (simp only [Int.reduceToNat] at ho60; rw [← Ny192.out] at ho60)); replace HO_10 := Aside0.mk (Kd.N_elder' HO_10.out (Kd.N_base ho60) hb); have HO194 := Aside0.mk (Kd.N_lower ho60 (below_size HB.out)); replace HB := Aside0.mk (below_step HB.out hb); clear HO_12; clear hb ho60; obtain ⟨Ao62, co62, eo62⟩ := Kd.N_slice HO_10.out; subst eo62) | ((with_reducible refine gate_builtin (b := .append) (xs := #[.tmp 105, .tmp 106]) rfl ?_); at_builtin; refine Kd.N_append_rows (Kd.slice 2 (Kd.int .i64)) (w0 := w) w.heap.size rfl (.tmp 105) (.tmp 106) 113 34 (.slice none 0 0) 24 rfl Try.underlying113 info34 rfl (by decide) (by omega) v193 y192 x10_2 _ _ _ (fun k_ => (w.heap.size ≤ k_)) (fun k_ => ((fun k_ => (w.heap.size ≤ k_))) k_ ∧ some k_ ≠ (v193 : Value).ownBlock) rfl rfl ?aO ?aR (fun _ hk => hk) ?aF ?aB ?aS ?aL ?_; (case aR => exact (by skip; exact Kd.N_F (Kd.N_mono (ok' := (fun k_ => ((fun k_ => (w.heap.size ≤ k_))) k_ ∧ some k_ ≠ (v193 : Value).ownBlock)) (HO_10.out) (fun k_ hk => ⟨hk.1.1, hk.2⟩)))); (case aB => exact HB.out); (case aF => exact (fun k_ hk => (Nat.le_trans (below_size HB.out) hk))); (case aO => exact (Kd.N_mono HO194.out (fun _ hk => hk.1))); (case aS => exact (below_size HB.out)); (case aL => have := LMc57.out; omega); intro v196 w61 ho hb hg hat; rw [← Ny195.out] at ho; replace HO_10 := Aside0.mk (Kd.N_afterv (ok := (fun k_ => (w.heap.size ≤ k_))) (Kd.N_mono HO_10.out (fun _ hk => ⟨hk.1.1, hk.2⟩)) hg hat); replace HB := Aside0.mk (hb); have HO197 := Aside0.mk (ho); clear HO194; clear ho hb hg hat))
          repeat (go_quiet (fail); try go_wp2)
          go_roundg k3
          case measure => have := HK1.out; have := HK2.out; have := HK3.out; omega
          case rel => exact ⟨(y195), (wrap64 (x11_2 - 1)), rfl, H', ⟨by have := HK1.out; have := HK2.out; have := HK3.out; omega⟩, ⟨HO197.out⟩, ⟨HB.out⟩⟩
      ·rw [if_neg c18] at H
       have c18b0 : decide (0 ≤ x11_2) = false := decide_eq_false c18
       clear c18
       obtain rfl := Option.some.inj H
       go_wp2
       repeat (go_quiet (fail); try go_wp2)
       go_ret
       exact ⟨_, rfl, HO_10.out, HB.out⟩
end Go.Proofs.Ytdeipindfhkioaa.Q
