-- made by wip/tools/mk.py of this session's repo, by way of the kit's print.py: Lean checks it.
import Derived.Test.YtdeipindfhkioaaQ0
namespace Go.Proofs.Ytdeipindfhkioaa.Q
open Go.RowKit Go.Proofs.YtdeipindfhkioaaW.PrintWords Go.Proofs.YtdeipindfhkioaaW.PrintLast Go.Proofs.YtdeipindfhkioaaW.PrintMore Go.Proofs.YtdeipindfhkioaaMine
attribute [local go_sem] max2_int min2_int max_two min_two max_three min_three max_four min_four   -- for this text's walks alone
set_option linter.unusedVariables false
set_option linter.unusedSimpArgs false

mutual
def impl_purse_table.l0 : Nat → Int → List (List (S128)) → Int → List Int → List Int → Option ((List (List (S128))))
 | 0, _, _, _, _, _ => none
 | k + 1, x1, x5, x6, x321000, x321001 => if x6 ≥ 0 then (if 0 ≤ (wrap64 (x1 + 1)) then (if (wrap64 (x1 + 1) : Int).toNat ≤ 17592186044416 then (if 0 ≤ x6 then (if x6 < (x5.length : Int) then ((some (x5.set (x6 : Int).toNat (List.replicate (wrap64 (x1 + 1) : Int).toNat z128) : List (List (S128)))).bind fun y327 => (if x6 = (x321000.length : Int) then (if 0 < ((rd_L9 y327 x6).length : Int) then (impl_purse_table.l0 k x1 (y327.set (x6 : Int).toNat ((rd_L9 y327 x6).set (0 : Int).toNat (⟨1, 0⟩ : S128))) (wrap64 (x6 - 1)) x321000 x321001) else (none)) else (impl_purse_table.l1 k x1 y327 x6 (wrap64 (x1 + 1)) 0 x321000 x321001))) else (none)) else (none)) else (none)) else (none)) else (some x5)
def impl_purse_table.l1 : Nat → Int → List (List (S128)) → Int → Int → Int → List Int → List Int → Option ((List (List (S128))))
 | 0, _, _, _, _, _, _, _ => none
 | k + 1, x1, x5, x6, x41, x42, x321000, x321001 => if x42 < x41 then (impl_purse_table.l2 k x1 x5 x6 x42 0 x41 x42 x321000 x321001) else (impl_purse_table.l0 k x1 x5 (wrap64 (x6 - 1)) x321000 x321001)
def impl_purse_table.l2 : Nat → Int → List (List (S128)) → Int → Int → Int → Int → Int → List Int → List Int → Option ((List (List (S128))))
 | 0, _, _, _, _, _, _, _, _, _ => none
 | k + 1, x1, x5, x6, x7, x8, x41, x42, x321000, x321001 => if 0 ≤ x6 then (if x6 < (x321001.length : Int) then (if x8 ≤ (rd x321001 x6) then (if x6 < (x321000.length : Int) then (impl_purse_table.j3 k x1 x5 x6 x7 x8 x41 x42 (decide ((wrap64 (x8 * (rd x321000 x6))) ≤ x7)) x321000 x321001) else (none)) else (impl_purse_table.j3 k x1 x5 x6 x7 x8 x41 x42 false x321000 x321001)) else (none)) else (none)
def impl_purse_table.j3 : Nat → Int → List (List (S128)) → Int → Int → Int → Int → Int → Bool → List Int → List Int → Option ((List (List (S128))))
 | 0, _, _, _, _, _, _, _, _, _, _ => none
 | k + 1, x1, x5, x6, x7, x8, x41, x42, x62, x321000, x321001 => if x62 = true then (if 0 ≤ (wrap64 (x6 + 1)) then (if (wrap64 (x6 + 1)) < (x5.length : Int) then (if 0 ≤ x6 then (if x6 < (x321000.length : Int) then (if 0 ≤ (wrap64 (x7 - (wrap64 (x8 * (rd x321000 x6))))) then (if (wrap64 (x7 - (wrap64 (x8 * (rd x321000 x6))))) < ((rd_L9 x5 (wrap64 (x6 + 1))).length : Int) then (if ((rd_T128 (rd_L9 x5 (wrap64 (x6 + 1))) (wrap64 (x7 - (wrap64 (x8 * (rd x321000 x6)))))).f0) = 0 then (impl_purse_table.l2 k x1 x5 x6 x7 (wrap64 (x8 + 1)) x41 x42 x321000 x321001) else (if x6 < (x5.length : Int) then (if 0 ≤ x7 then (if x7 < ((rd_L9 x5 x6).length : Int) then (if ((rd_T128 (rd_L9 x5 x6) x7).f0) = 0 then ((some (x5.set (x6 : Int).toNat ((rd_L9 x5 x6).set (x7 : Int).toNat (⟨(rd_T128 (rd_L9 x5 x6) x7).f0, wrap64 (((rd_T128 (rd_L9 x5 (wrap64 (x6 + 1))) (wrap64 (x7 - (wrap64 (x8 * (rd x321000 x6)))))).f1) + x8)⟩ : S128)) : List (List (S128)))).bind fun y344 => (if x7 < ((rd_L9 y344 x6).length : Int) then (impl_purse_table.l2 k x1 (y344.set (x6 : Int).toNat ((rd_L9 y344 x6).set (x7 : Int).toNat (⟨wrap64 (((rd_T128 (rd_L9 y344 x6) x7).f0) + ((rd_T128 (rd_L9 x5 (wrap64 (x6 + 1))) (wrap64 (x7 - (wrap64 (x8 * (rd x321000 x6)))))).f0)), (rd_T128 (rd_L9 y344 x6) x7).f1⟩ : S128))) x6 x7 (wrap64 (x8 + 1)) x41 x42 x321000 x321001) else (none))) else (if (wrap64 (((rd_T128 (rd_L9 x5 (wrap64 (x6 + 1))) (wrap64 (x7 - (wrap64 (x8 * (rd x321000 x6)))))).f1) + x8)) < ((rd_T128 (rd_L9 x5 x6) x7).f1) then ((some (x5.set (x6 : Int).toNat ((rd_L9 x5 x6).set (x7 : Int).toNat (⟨(rd_T128 (rd_L9 x5 x6) x7).f0, wrap64 (((rd_T128 (rd_L9 x5 (wrap64 (x6 + 1))) (wrap64 (x7 - (wrap64 (x8 * (rd x321000 x6)))))).f1) + x8)⟩ : S128)) : List (List (S128)))).bind fun y353 => (if x7 < ((rd_L9 y353 x6).length : Int) then (impl_purse_table.l2 k x1 (y353.set (x6 : Int).toNat ((rd_L9 y353 x6).set (x7 : Int).toNat (⟨wrap64 (((rd_T128 (rd_L9 y353 x6) x7).f0) + ((rd_T128 (rd_L9 x5 (wrap64 (x6 + 1))) (wrap64 (x7 - (wrap64 (x8 * (rd x321000 x6)))))).f0)), (rd_T128 (rd_L9 y353 x6) x7).f1⟩ : S128))) x6 x7 (wrap64 (x8 + 1)) x41 x42 x321000 x321001) else (none))) else (impl_purse_table.l2 k x1 (x5.set (x6 : Int).toNat ((rd_L9 x5 x6).set (x7 : Int).toNat (⟨wrap64 (((rd_T128 (rd_L9 x5 x6) x7).f0) + ((rd_T128 (rd_L9 x5 (wrap64 (x6 + 1))) (wrap64 (x7 - (wrap64 (x8 * (rd x321000 x6)))))).f0)), (rd_T128 (rd_L9 x5 x6) x7).f1⟩ : S128))) x6 x7 (wrap64 (x8 + 1)) x41 x42 x321000 x321001))) else (none)) else (none)) else (none))) else (none)) else (none)) else (none)) else (none)) else (none)) else (none)) else (impl_purse_table.l1 k x1 x5 x6 x41 (wrap64 (x42 + 1)) x321000 x321001)
end
def impl_purse_table.f (k : Nat) (l0_0 : List Int) (l0_1 : List Int) (a1 : Int) : Option ((List (List (S128)))) := if 0 ≤ (wrap64 ((l0_0.length : Int) + 1)) then (if (wrap64 ((l0_0.length : Int) + 1) : Int).toNat ≤ 11728124029610 then (impl_purse_table.l0 k a1 (List.replicate (wrap64 ((l0_0.length : Int) + 1) : Int).toNat []) (l0_0.length : Int) l0_0 l0_1) else (none)) else (none)
theorem impl_purse_table.mono_l : ∀ k, (∀ y0 y1 y2 y3 y4, LeO (impl_purse_table.l0 k y0 y1 y2 y3 y4) (impl_purse_table.l0 (k + 1) y0 y1 y2 y3 y4)) ∧ (∀ y0 y1 y2 y3 y4 y5 y6, LeO (impl_purse_table.l1 k y0 y1 y2 y3 y4 y5 y6) (impl_purse_table.l1 (k + 1) y0 y1 y2 y3 y4 y5 y6)) ∧ (∀ y0 y1 y2 y3 y4 y5 y6 y7 y8, LeO (impl_purse_table.l2 k y0 y1 y2 y3 y4 y5 y6 y7 y8) (impl_purse_table.l2 (k + 1) y0 y1 y2 y3 y4 y5 y6 y7 y8)) ∧ (∀ y0 y1 y2 y3 y4 y5 y6 y7 y8 y9, LeO (impl_purse_table.j3 k y0 y1 y2 y3 y4 y5 y6 y7 y8 y9) (impl_purse_table.j3 (k + 1) y0 y1 y2 y3 y4 y5 y6 y7 y8 y9))
 | 0 => ⟨fun _ _ _ _ _ r h => by simp [impl_purse_table.l0] at h, fun _ _ _ _ _ _ _ r h => by simp [impl_purse_table.l1] at h, fun _ _ _ _ _ _ _ _ _ r h => by simp [impl_purse_table.l2] at h, fun _ _ _ _ _ _ _ _ _ _ r h => by simp [impl_purse_table.j3] at h⟩
 | k + 1 => by
  obtain ⟨ih0, ih1, ih2, ih3⟩ := impl_purse_table.mono_l k
  refine ⟨?_, ?_, ?_, ?_⟩ <;> intros <;> (first | unfold impl_purse_table.l0 | unfold impl_purse_table.l1 | unfold impl_purse_table.l2 | unfold impl_purse_table.j3) <;> repeat' first
  | (with_reducible exact ih0 _ _ _ _ _)
  | (with_reducible exact ih1 _ _ _ _ _ _ _)
  | (with_reducible exact ih2 _ _ _ _ _ _ _ _ _)
  | (with_reducible exact ih3 _ _ _ _ _ _ _ _ _ _)
  | (with_reducible exact LeO.refl _)
  | (with_reducible exact LeO.none _)
  | (with_reducible refine LeO.ite ?_ ?_)
  | (with_reducible refine LeO.bind ?_ (fun _ => ?_))
  | exact ih0 _ _ _ _ _
  | exact ih1 _ _ _ _ _ _ _
  | exact ih2 _ _ _ _ _ _ _ _ _
  | exact ih3 _ _ _ _ _ _ _ _ _ _
  | exact LeO.none _
  | refine LeO.ite ?_ ?_
  | refine LeO.bind ?_ (fun _ => ?_)
theorem impl_purse_table.mono : ∀ a0 a1 a2 k, LeO (impl_purse_table.f k a0 a1 a2) (impl_purse_table.f (k + 1) a0 a1 a2) := by
 intro a0 a1 a2 k
 obtain ⟨ih0, ih1, ih2, ih3⟩ := impl_purse_table.mono_l k
 unfold impl_purse_table.f
 repeat' first
   | (with_reducible exact ih0 _ _ _ _ _)
   | (with_reducible exact ih1 _ _ _ _ _ _ _)
   | (with_reducible exact ih2 _ _ _ _ _ _ _ _ _)
   | (with_reducible exact ih3 _ _ _ _ _ _ _ _ _ _)
   | (with_reducible exact LeO.refl _)
   | (with_reducible exact LeO.none _)
   | (with_reducible refine LeO.ite ?_ ?_)
   | (with_reducible refine LeO.bind ?_ (fun _ => ?_))
   | exact ih0 _ _ _ _ _
   | exact ih1 _ _ _ _ _ _ _
   | exact ih2 _ _ _ _ _ _ _ _ _
   | exact ih3 _ _ _ _ _ _ _ _ _ _
   | exact LeO.none _
   | refine LeO.ite ?_ ?_
   | refine LeO.bind ?_ (fun _ => ?_)
def impl_purse_table.T14 : Bool × List (List Nat × List Nat) := (true, [([], []), ([], []), ([1], [1]), ([0, 2], [0, 2]), ([3], [3]), ([], []), ([], []), ([], []), ([7], [7]), ([], []), ([8, 9], [8, 9]), ([10], [10]), ([6, 11], [6, 11]), ([5, 12], [5, 12]), ([4, 13], [4, 13]), ([14], [14]), ([], []), ([16, 15, 0, 1, 2, 3, 4, 5, 6, 7, 8, 9, 10, 11, 12, 13, 14, 15, 16], [15, 16])])
def impl_purse_table.B14 : List Nat := [0, 0, 2, 7, 15, 0, 0, 0, 128, 0, 896, 1920, 4032, 8160, 16383, 32767, 0, 131071]
theorem impl_purse_table.tab14 : rtab .any (opsOf Try.f123 14) = impl_purse_table.T14 := by kernel_rfl
theorem impl_purse_table.bits14 : waitsOk impl_purse_table.T14.2 impl_purse_table.B14 = true := by kernel_rfl
def impl_purse_table.T18 : Bool × List (List Nat × List Nat) := (true, [([], []), ([], []), ([0, 1], [0, 1]), ([2], [2]), ([], []), ([], []), ([5], [5]), ([], []), ([6, 7], [6, 7]), ([3, 4, 0, 1, 2, 3, 4, 5, 6, 7, 8], [3, 4]), ([9, 0, 1, 2, 3, 4, 5, 6, 7, 8], [9]), ([10, 8, 0, 1, 2, 3, 4, 5, 6, 7, 8], [8, 10])])
def impl_purse_table.B18 : List Nat := [0, 0, 3, 7, 0, 0, 32, 0, 224, 511, 1023, 2047]
theorem impl_purse_table.tab18 : rtab .any (opsOf Try.f123 18) = impl_purse_table.T18 := by kernel_rfl
theorem impl_purse_table.bits18 : waitsOk impl_purse_table.T18.2 impl_purse_table.B18 = true := by kernel_rfl
def impl_purse_table.T19 : Bool × List (List Nat × List Nat) := (true, [([], []), ([], []), ([0, 1], [0, 1]), ([2], [2]), ([], []), ([3, 4], [3, 4]), ([5], [5]), ([6], [6]), ([], []), ([8], [8]), ([7, 9], [7, 9]), ([3, 4, 0, 1, 2, 3, 4, 5, 6, 7, 8, 9, 10], [3, 4]), ([11, 0, 1, 2, 3, 4, 5, 6, 7, 8, 9, 10], [11]), ([12, 10, 0, 1, 2, 3, 4, 5, 6, 7, 8, 9, 10], [10, 12])])
def impl_purse_table.B19 : List Nat := [0, 0, 3, 7, 0, 31, 63, 127, 0, 256, 1023, 2047, 4095, 8191]
theorem impl_purse_table.tab19 : rtab .any (opsOf Try.f123 19) = impl_purse_table.T19 := by kernel_rfl
theorem impl_purse_table.bits19 : waitsOk impl_purse_table.T19.2 impl_purse_table.B19 = true := by kernel_rfl
set_option maxHeartbeats 8000000 in
set_option maxRecDepth 100000 in
theorem impl_purse_table.calls (k : Nat) (A0_0 : Option Addr) (c0_0 : Nat) (l0_0 : List Int) (A0_1 : Option Addr) (c0_1 : Nat) (l0_1 : List Int) (a1 : Int) (r : List (List (S128))) (w : World) (hr0_0 : Kd.C (Kd.int .i64) w A0_0 l0_0.length l0_0) (hc0_0 : l0_0.length ≤ c0_0) (hr0_1 : Kd.C (Kd.int .i64) w A0_1 l0_1.length l0_1) (hc0_1 : l0_1.length ≤ c0_1) (h : impl_purse_table.f k l0_0 l0_1 a1 = some r) :
  Calls Try.prog 123 #[.agg #[.slice A0_0 l0_0.length c0_0, .slice A0_1 l0_1.length c0_1], .int .i64 a1] w fun e w' => ∃ v0_ : Value, e = .returned (v0_) ∧ Kd.S (Kd.slice 128 k128) 129 w' w.heap.size (fun _ => True) v0_ r ∧ Below w.heap.size w w' := by
 have hu118 := Try.underlying118
 have hu128 := Try.underlying128
 have HR0_0 := Aside0.mk hr0_0
 have HC0_0 := Aside0.mk hc0_0
 clear hr0_0 hc0_0
 have HR0_1 := Aside0.mk hr0_1
 have HC0_1 := Aside0.mk hc0_1
 clear hr0_1 hc0_1
 have HB := Aside0.mk (Below.refl w.heap.size w)
 have H : (if 0 ≤ (wrap64 ((l0_0.length : Int) + 1)) then (if (wrap64 ((l0_0.length : Int) + 1) : Int).toNat ≤ 11728124029610 then (impl_purse_table.l0 k a1 (List.replicate (wrap64 ((l0_0.length : Int) + 1) : Int).toNat []) (l0_0.length : Int) l0_0 l0_1) else (none)) else (none)) = some r := h
 clear h
 obtain ⟨ji3, hji3⟩ : ∃ j_ : Int, (wrap64 ((l0_0.length : Int) + 1)) = j_ := ⟨_, rfl⟩
 replace H : (if 0 ≤ (ji3) then (if (ji3 : Int).toNat ≤ 11728124029610 then (impl_purse_table.l0 k a1 (List.replicate (ji3 : Int).toNat []) (l0_0.length : Int) l0_0 l0_1) else (none)) else (none)) = some r := by first | (rw [hji3] at H; exact H) | (simp only [hji3] at H ⊢; exact H)
 have hji3w : (IntKind.i64.wrap ((l0_0.length : Int) + 1)) = ji3 := (i64_w _).trans hji3
 by_cases c4 : 0 ≤ (ji3)
 rotate_left
 ·rw [if_neg c4] at H; exact absurd H (by simp)
 rw [if_pos c4] at H
 have c4b0 := eq_true c4
 have c4b1 : decide (0 ≤ (ji3)) = true := decide_eq_true c4
 clear c4
 by_cases c5 : (ji3 : Int).toNat ≤ 11728124029610
 rotate_left
 ·rw [if_neg c5] at H; exact absurd H (by simp)
 rw [if_pos c5] at H
 have c5b0 := eq_true c5
 have c5b1 : decide ((ji3 : Int).toNat ≤ 11728124029610) = true := decide_eq_true c5
 clear c5
 obtain ⟨y321, hy321⟩ : ∃ y_ : List (List (S128)), y_ = (List.replicate (ji3 : Int).toNat []) := ⟨_, rfl⟩
 replace H : (impl_purse_table.l0 k a1 y321 (l0_0.length : Int) l0_0 l0_1) = some r := by rw [hy321]; exact H
 have Ny321 := Aside0.mk hy321
 clear hy321
 have H' := Aside0.mk H
 clear H
 go_enter Try.func123, Try.ntmps123
 go_wp2_with (first | ((with_reducible refine gate_dst (N := 2) rfl ?_); refine box_event ?hg (N := 2) ?hd (cs := #[.slice A0_0 l0_0.length c0_0, .slice A0_1 l0_1.length c0_1]) (t := 118) ?hr ?_; (case hd => rfl); (case hg => rfl); (case hr => first | (go_simp; done) | (go_simp; rfl)); intro gb320 hg w6 hbox hb; have BK320 := Aside0.mk (hbox); have GW320 := Aside0.mk ((by rw [hg]; exact (below_size HB.out) : w.heap.size ≤ gb320)); have GE320 := Aside0.mk ((by rw [hg]; exact (below_size HB.out) : w.heap.size ≤ gb320)); replace HB := Aside0.mk (below_step HB.out hb); clear hb hbox hg; have hcz7_0 : w6.cell? ⟨gb320, 0, none⟩ = some (.slice A0_0 l0_0.length c0_0) := (blk_cell BK320.out 0).trans rfl; have hcz7_1 : w6.cell? ⟨gb320, 1, none⟩ = some (.slice A0_1 l0_1.length c0_1) := (blk_cell BK320.out 1).trans rfl; have hfz7_0 := blk_frozen BK320.out 0; have hfz7_1 := blk_frozen BK320.out 1) | ((with_reducible refine gate_dst (N := 15) rfl ?_); refine Kd.S_make (Kd.slice 128 k128) _ 129 rfl (N := 15) rfl 125 _ _ rfl ji3 rfl rfl Try.underlying125 (.slice none 0 0) 24 info129 rfl (by decide) (by omega) [] (ok := fun _ => True) (okp := fun _ => True) ⟨_, rfl, Kd.R_nil _ _ _ _ _⟩ (fun _ hk => hk) trivial odt_ (Nat.le_trans (Nat.mul_le_mul_right _ (odt_ : ji3.toNat ≤ 11728124029610)) (by omega)) (Below.refl _ _) (Nat.le_refl _) ?_; intro v322 w8 ho9 hb hg_ hnew_; clear hg_ hnew_; (first | rw [← Ny321.out] at ho9 | (simp only [Int.reduceToNat] at ho9; rw [← Ny321.out] at ho9)); have HO323 := Aside0.mk (Kd.S_lower ho9 (below_size HB.out)); replace BK320 := Aside0.mk (blk_below (g := gb320) (o := .cells #[.slice A0_0 l0_0.length c0_0, .slice A0_1 l0_1.length c0_1] 118 (0, 0)) BK320.out hb); replace HB := Aside0.mk (below_step HB.out hb); clear hb ho9; have hcz10_0 : w8.cell? ⟨gb320, 0, none⟩ = some (.slice A0_0 l0_0.length c0_0) := (blk_cell BK320.out 0).trans rfl; have hcz10_1 : w8.cell? ⟨gb320, 1, none⟩ = some (.slice A0_1 l0_1.length c0_1) := (blk_cell BK320.out 1).trans rfl; have hfz10_0 := blk_frozen BK320.out 0; have hfz10_1 := blk_frozen BK320.out 1))
 go_loopg [6] k (fun kq v6 w' => ∃ (x5_1 : List (List (S128))) (x6_1 : Int), v6 = .int .i64 x6_1 ∧ Aside0 (impl_purse_table.l0 kq a1 x5_1 x6_1 l0_0 l0_1 = some r) ∧ Aside0 (kq ≤ k) ∧ Aside0 (Kd.S (Kd.slice 128 k128) 129 w' w.heap.size (fun _ => True) v322 x5_1) ∧ Aside0 (w'.heap[gb320]? = some (.cells #[(.slice A0_0 l0_0.length c0_0), (.slice A0_1 l0_1.length c0_1)] 118 (0, 0))) ∧ Aside0 (Below w.heap.size w w'))
 case atStart => exact ⟨(y321), ((l0_0.length : Int)), rfl, H', ⟨Nat.le_refl _⟩, ⟨HO323.out⟩, ⟨BK320.out⟩, ⟨HB.out⟩⟩
 case round =>
  clear H'
  try clear c1
  try clear p2
  try clear c4
  try clear c4b0
  try clear c4b1
  try clear c5
  try clear c5b0
  try clear c5b1
  try clear p6
  try clear hcz10_0
  try clear hcz10_1
  try clear hcz7_0
  try clear hcz7_1
  try clear hfz10_0
  try clear hfz10_1
  try clear hfz7_0
  try clear hfz7_1
  obtain ⟨x5_1, x6_1, rfl, HA, HK1, HO_5, BK320, HB⟩ := hrel
  cases gk with
  | zero => exact absurd HA.out (by simp [impl_purse_table.l0])
  | succ k1 =>
   have H := HA.out
   clear HA
   simp only [impl_purse_table.l0] at H
   by_cases c11 : x6_1 ≥ 0
   ·rw [if_pos c11] at H
    have c11b0 : decide (0 ≤ x6_1) = true := decide_eq_true c11
    clear c11
    obtain ⟨ji12, hji12⟩ : ∃ j_ : Int, (wrap64 (a1 + 1)) = j_ := ⟨_, rfl⟩
    replace H : (if 0 ≤ (ji12) then (if (ji12 : Int).toNat ≤ 17592186044416 then (if 0 ≤ x6_1 then (if x6_1 < (x5_1.length : Int) then ((some (x5_1.set (x6_1 : Int).toNat (List.replicate (ji12 : Int).toNat z128) : List (List (S128)))).bind fun y327 => (if x6_1 = (l0_0.length : Int) then (if 0 < ((rd_L9 y327 x6_1).length : Int) then (impl_purse_table.l0 k1 a1 (y327.set (x6_1 : Int).toNat ((rd_L9 y327 x6_1).set (0 : Int).toNat (⟨1, 0⟩ : S128))) (wrap64 (x6_1 - 1)) l0_0 l0_1) else (none)) else (impl_purse_table.l1 k1 a1 y327 x6_1 ji12 0 l0_0 l0_1))) else (none)) else (none)) else (none)) else (none)) = some r := by first | (rw [hji12] at H; exact H) | (simp only [hji12] at H ⊢; exact H)
    have hji12w : (IntKind.i64.wrap (a1 + 1)) = ji12 := (i64_w _).trans hji12
    by_cases c13 : 0 ≤ (ji12)
    rotate_left
    ·rw [if_neg c13] at H; exact absurd H (by simp)
    rw [if_pos c13] at H
    have c13b0 := eq_true c13
    have c13b1 : decide (0 ≤ (ji12)) = true := decide_eq_true c13
    clear c13
    by_cases c14 : (ji12 : Int).toNat ≤ 17592186044416
    rotate_left
    ·rw [if_neg c14] at H; exact absurd H (by simp)
    rw [if_pos c14] at H
    have c14b0 := eq_true c14
    have c14b1 : decide ((ji12 : Int).toNat ≤ 17592186044416) = true := decide_eq_true c14
    clear c14
    obtain ⟨y324, hy324⟩ : ∃ y_ : List (S128), y_ = (List.replicate (ji12 : Int).toNat z128) := ⟨_, rfl⟩
    replace H : (if 0 ≤ x6_1 then (if x6_1 < (x5_1.length : Int) then ((some (x5_1.set (x6_1 : Int).toNat y324 : List (List (S128)))).bind fun y327 => (if x6_1 = (l0_0.length : Int) then (if 0 < ((rd_L9 y327 x6_1).length : Int) then (impl_purse_table.l0 k1 a1 (y327.set (x6_1 : Int).toNat ((rd_L9 y327 x6_1).set (0 : Int).toNat (⟨1, 0⟩ : S128))) (wrap64 (x6_1 - 1)) l0_0 l0_1) else (none)) else (impl_purse_table.l1 k1 a1 y327 x6_1 ji12 0 l0_0 l0_1))) else (none)) else (none)) = some r := by rw [hy324]; exact H
    have Ny324 := Aside0.mk hy324
    clear hy324
    by_cases c15 : 0 ≤ x6_1
    rotate_left
    ·rw [if_neg c15] at H; exact absurd H (by simp)
    rw [if_pos c15] at H
    have c15b0 : decide (0 ≤ x6_1) = true := decide_eq_true c15
    clear c15
    by_cases c16 : x6_1 < (x5_1.length : Int)
    rotate_left
    ·rw [if_neg c16] at H; exact absurd H (by simp)
    rw [if_pos c16] at H
    have c16b0 : decide (x6_1 < (x5_1.length : Int)) = true := decide_eq_true c16
    clear c16
    obtain ⟨y327, hy327⟩ : ∃ y_ : List (List (S128)), y_ = (x5_1.set (x6_1 : Int).toNat y324) := ⟨_, rfl⟩
    replace H : (if x6_1 = (l0_0.length : Int) then (if 0 < ((rd_L9 y327 x6_1).length : Int) then (impl_purse_table.l0 k1 a1 (y327.set (x6_1 : Int).toNat ((rd_L9 y327 x6_1).set (0 : Int).toNat (⟨1, 0⟩ : S128))) (wrap64 (x6_1 - 1)) l0_0 l0_1) else (none)) else (impl_purse_table.l1 k1 a1 y327 x6_1 ji12 0 l0_0 l0_1)) = some r := by rw [hy327]; exact H
    have Ny327 := Aside0.mk hy327
    clear hy327
    by_cases c18 : x6_1 = (l0_0.length : Int)
    ·rw [if_pos c18] at H
     have c18b0 : (x6_1 == (l0_0.length : Int)) = true := beq_iff_eq.mpr c18
     have c18b1 : (x6_1 != (l0_0.length : Int)) = false := bne_eq_false_iff_eq.mpr c18
     clear c18
     by_cases c19 : 0 < ((rd_L9 y327 x6_1).length : Int)
     rotate_left
     ·rw [if_neg c19] at H; exact absurd H (by simp)
     rw [if_pos c19] at H
     have c19b0 : decide (0 < ((rd_L9 y327 x6_1).length : Int)) = true := decide_eq_true c19
     have c19b1 : decide (0 < (rd_L9 y327 x6_1).length) = true := decide_eq_true (by omega)
     clear c19
     obtain ⟨y329, hy329⟩ : ∃ y_ : List (S128), y_ = ((rd_L9 y327 x6_1).set (0 : Int).toNat (⟨1, 0⟩ : S128)) := ⟨_, rfl⟩
     replace H : (impl_purse_table.l0 k1 a1 (y327.set (x6_1 : Int).toNat y329) (wrap64 (x6_1 - 1)) l0_0 l0_1) = some r := by rw [hy329]; exact H
     have Ny329 := Aside0.mk hy329
     clear hy329
     obtain ⟨y331, hy331⟩ : ∃ y_ : List (List (S128)), y_ = (y327.set (x6_1 : Int).toNat y329) := ⟨_, rfl⟩
     replace H : (impl_purse_table.l0 k1 a1 y331 (wrap64 (x6_1 - 1)) l0_0 l0_1) = some r := by rw [hy331]; exact H
     have Ny331 := Aside0.mk hy331
     clear hy331
     have H' := Aside0.mk H
     clear H
     go_wp2_with (first | ((with_reducible refine gate_dst (N := 27) rfl ?_); refine Kd.R_make k128 _ 128 rfl (N := 27) rfl 129 _ _ rfl ji12 rfl rfl Try.underlying129 (.agg #[(.int .i64 0), (.int .i64 0)]) 16 info128 rfl (by decide) (by omega) z128 (ok := fun _ => True) (okp := fun _ => True) (k128_mkM _ _ _ z128 ) (fun _ hk => hk) trivial odt_ (Nat.le_trans (Nat.mul_le_mul_right _ (odt_ : ji12.toNat ≤ 17592186044416)) (by omega)) (Below.refl _ _) (Nat.le_refl _) ?_; intro v325 w21 ho22 hb hg_ hnew_; clear hg_ hnew_; (first | rw [← Ny324.out] at ho22 | (simp only [Int.reduceToNat] at ho22; rw [← Ny324.out] at ho22)); replace HO_5 := Aside0.mk (Kd.S_elder' HO_5.out (Kd.R_base ho22) hb); have HO326 := Aside0.mk (Kd.R_lower ho22 (below_size HB.out)); replace BK320 := Aside0.mk (blk_below (g := gb320) (o := .cells #[.slice A0_0 l0_0.length c0_0, .slice A0_1 l0_1.length c0_1] 118 (0, 0)) BK320.out hb); replace HB := Aside0.mk (below_step HB.out hb); clear hb ho22; have p17 : 0 ≤ (x6_1 : Int) := odt_; have q17 : (x6_1 : Int) < ((x5_1.length : Int) : Int) := odt_; obtain ⟨go17, co17, eo17, gb17, gl17, cl17, HG17⟩ := Kd.S_form HO_5.out (by omega); (first | cases eo17 | (injection eo17 with ea_ en_ ec_; (first | subst ea_ | (injection ea_ with ea_; subst ea_)); subst ec_; clear en_)); have GB17 := Aside0.mk gb17; have GG17 := Aside0.mk HG17; clear gb17 gl17 HG17; obtain ⟨_, ce17, hcl17, hM17, hcc17, hfr17, _, _⟩ := Kd.S_elem HO_5.out [] (x6_1 : Int) p17 q17; obtain ⟨ve17_0, rfl, ge17_0⟩ := hM17; have hx17_0 := hcc17 0 _ rfl; have hf17_0 := hfr17 0; (try simp only [show ((Kd.slice 128 k128)).sz = 1 from rfl, Nat.mul_one, Nat.add_zero] at hx17_0); (try simp only [show ((Kd.slice 128 k128)).sz = 1 from rfl, Nat.mul_one, Nat.add_zero] at hf17_0); clear hcl17 hcc17 hfr17 ; (try clear hM17); replace p17 := eq_true p17; replace q17 := eq_true q17; have n_ := Aside0.mk (Kd.S_mono (ok' := (fun k_ => some k_ ≠ (v325 : Value).ownBlock)) HO_5.out (fun k_ hk => hk.2)); clear HO_5; have HO_5 := n_; clear n_; have HX23 := Aside0.mk (show Kd.S (Kd.slice 128 k128) 129 w21 w.heap.size (fun k_ => ((fun _ => True)) k_ ∧ ¬ ((fun k_ => some k_ = (v325 : Value).ownBlock)) k_) (.slice (some ⟨go17, 0, none⟩) x5_1.length co17) x5_1 from (by (with_reducible repeat (first | apply Kd.S_alloc | apply Kd.S_drewN | apply Kd.S_drew)); exact Kd.S_mono HO_5.out (fun k_ hk => ⟨trivial, fun e_ => hk e_⟩))); obtain ⟨oki23, ce23, hcl23, hM23, hcc23, hfr23, hoki23, hH23⟩ := Kd.S_elem HX23.out [] (x6_1 : Int) odt_ (by have h_ : (x6_1 : Int) < ((x5_1.length : Int) : Int) := odt_; first | exact h_ | (have e_ := (Kd.S_reads' HO_5.out).1; omega) | simpa using h_); obtain ⟨ve23_0, rfl, ge23_0⟩ := hM23; have HP23 := Kd.S_seg hH23 odt_ (by have h_ : (x6_1 : Int) < ((x5_1.length : Int) : Int) := odt_; first | exact h_ | (have e_ := (Kd.S_reads' HO_5.out).1; omega) | simpa using h_) (seg := [v325]) (j := 0) (show 1 ≤ 1 from by decide) (x' := y324) (Kd.M_row (Kd.R_mono (Kd.R_tight rfl (Kd.R_mono (ok' := fun k_ => ((fun _ => True)) k_ ∧ k_ ≠ go17) (Kd.R_apart' (HO326.out) (Kd.S_typed HO_5.out) (by decide)) (fun k_ hk => ⟨trivial, fun e_ => (hk.2) (by rw [e_]; rfl)⟩))) (fun _ h_ => Or.inr (h_)))) (fun _ hk => hk) (fun k_ hk_ => ((Kd.R_mono (ok' := fun k_ => ((fun _ => True)) k_ ∧ k_ ≠ go17) (Kd.R_apart' (HO326.out) (Kd.S_typed HO_5.out) (by decide)) (fun k_ hk => ⟨trivial, fun e_ => (hk.2) (by rw [e_]; rfl)⟩))).1 k_ hk_.symm); have hx23_0 := hcc23 0 _ rfl; (try simp only [show ((Kd.slice 128 k128)).sz = 1 from rfl, Nat.mul_one, Nat.add_zero] at hx23_0); have hf23_0 := hfr23 0; (try simp only [show ((Kd.slice 128 k128)).sz = 1 from rfl, Nat.mul_one, Nat.add_zero] at hf23_0); clear hcl23 hcc23 hfr23  hoki23 hH23; (try clear hM23); (try simp only [show ((Kd.slice 128 k128)).sz = 1 from rfl, Nat.mul_one, Nat.add_zero] at HP23)) | ((with_reducible refine gate_store (t := 129) (p := 28) rfl ?_); refine store_event (t := 129) (p := 28) (v := ?vo_w24) (w1 := (w21.setCell ⟨go17, (x6_1 : Int).toNat, none⟩ (v325))) ?hg ?ho ?hn ?hr ?_; (case ho => rfl); (case hg => rfl); (case hn => rfl); (case hr => first | (go_simp; done) | (go_simp; rfl) | ((try (have hv_ := (by first | exact Kd.R_slice (v := v325) (Aside0.out (by assumption)) | exact Kd.S_slice (v := v325) (Aside0.out (by assumption))); obtain ⟨A_, c_, e_⟩ := hv_; subst e_)); first | (go_simp; done) | (go_simp; rfl))); intro w24 hw; have hg : w21.grownBy w24 (some go17) := (by rw [hw]; exact HP23.2); have hp_ : Kd.S (Kd.slice 128 k128) 129 w24 w.heap.size (fun _ => True) (.slice (some ⟨go17, 0, none⟩) x5_1.length co17) y327 := (by rw [hw, Ny327.out]; exact HP23.1); clear HP23; replace BK320 := Aside0.mk (blk_grown (g := gb320) (o := .cells #[.slice A0_0 l0_0.length c0_0, .slice A0_1 l0_1.length c0_1] 118 (0, 0)) BK320.out hg (Kd.S_ne HO_5.out BK320.out (by decide))); replace HO_5 := Aside0.mk (hp_); replace HB := Aside0.mk ((by rw [hw]; exact below_set (HB.out) GB17.out : Below w.heap.size w w24)); clear HO326; clear hg hw hp_; have hcz25_0 : w24.cell? ⟨gb320, 0, none⟩ = some (.slice A0_0 l0_0.length c0_0) := (blk_cell BK320.out 0).trans rfl; have hcz25_1 : w24.cell? ⟨gb320, 1, none⟩ = some (.slice A0_1 l0_1.length c0_1) := (blk_cell BK320.out 1).trans rfl; have hfz25_0 := blk_frozen BK320.out 0; have hfz25_1 := blk_frozen BK320.out 1; have p328 : 0 ≤ (x6_1 : Int) := odt_; have q328 : x6_1 < (y327.length : Int) := (by have h_ : (x6_1 : Int) < ((x5_1.length : Int) : Int) := odt_; first | (have e_ := (Kd.S_reads' HO_5.out).1; omega) | simpa only [Ny327.out, List.length_set] using h_); have ql328 : ((x6_1 : Int) < ((x5_1.length : Int) : Int)) = True := eq_true odt_; obtain ⟨ad328, A328_0, c328_0, e328, hx328_0, hl328_0, hi328_0⟩ := at_L9 (Kd.S_reads' HO_5.out).2.2 x6_1 p328 q328; obtain rfl : (⟨go17, 0, none⟩ : Addr) = ad328 := (by injection e328); obtain ⟨ce328, hce328, hMe328, hcc328⟩ := Kd.S_get HO_5.out [] x6_1 p328 (by first | exact q328 | exact odt_ | (have e_ := (Kd.S_reads' HO_5.out).1; omega)); obtain ⟨ve328_0, rfl, ge328_0⟩ := hMe328; have hv328_0 := hcc328 0 _ rfl; rw [Nat.add_zero, show ((Kd.slice 128 k128)).sz = 1 from rfl, Nat.mul_one] at hv328_0; replace hv328_0 := Option.some.inj (hv328_0.symm.trans hx328_0); rw [hv328_0] at ge328_0; have HL328_0 := Aside0.mk (show Kd.R k128 128 _ _ _ _ (rd_L9 y327 x6_1) from ge328_0); clear hv328_0 ge328_0; have HX328_0 := Aside0.mk hx328_0; clear hcc328 hce328; (first | simp only [add_plain] at hx328_0 | simp only [add_at] at hx328_0 | simp only [Addr.add, Nat.zero_add] at hx328_0 | skip); have HR328_0 := Aside0.mk hi328_0; have HC328_0 := Aside0.mk hl328_0; clear hi328_0 hl328_0; replace p328 := eq_true p328; replace q328 := eq_true q328; have p20 : 0 ≤ (0 : Int) := (by omega); have q20 : (0 : Int) < (((rd_L9 y327 x6_1).length : Int) : Int) := odt_; have qi20 : (0 < (rd_L9 y327 x6_1).length) = True := eq_true (by omega); obtain ⟨go20, co20, eo20, gb20, gl20, cl20, HG20⟩ := Kd.R_form HL328_0.out (by omega); (first | cases eo20 | (injection eo20 with ea_ en_ ec_; (first | subst ea_ | (injection ea_ with ea_; subst ea_)); subst ec_; clear en_)); have GB20 := Aside0.mk gb20; have GG20 := Aside0.mk HG20; clear gb20 gl20 HG20; obtain ⟨ce20, hcl20, hM20, hcc20, hfr20⟩ := Kd.R_elem HL328_0.out z128 (0 : Int) p20 q20; obtain rfl := k128_openM hM20; have hx20_0 : w24.cell? ⟨go20, (0 : Int).toNat * 2, none⟩ = some (.int .i64 ((rd_T128 (rd_L9 y327 x6_1) 0).f0)) := hcc20 0 _ rfl; have hx20_1 : w24.cell? ⟨go20, (0 : Int).toNat * 2 + 1, none⟩ = some (.int .i64 ((rd_T128 (rd_L9 y327 x6_1) 0).f1)) := hcc20 1 _ rfl; have hf20_0 : w24.frozen? ⟨go20, (0 : Int).toNat * 2, none⟩ = false := hfr20 0; have hf20_1 : w24.frozen? ⟨go20, (0 : Int).toNat * 2 + 1, none⟩ = false := hfr20 1; clear hcl20 hcc20 hfr20 ; (try clear hM20); (try rw [show ((0 : Int)).toNat = 0 from rfl] at hx20_0); (try simp only [Nat.reduceMul, Nat.zero_mul, Nat.zero_add, Nat.reduceAdd] at hx20_0); (try rw [show ((0 : Int)).toNat = 0 from rfl] at hf20_0); (try simp only [Nat.reduceMul, Nat.zero_mul, Nat.zero_add, Nat.reduceAdd] at hf20_0); (try rw [show ((0 : Int)).toNat = 0 from rfl] at hx20_1); (try simp only [Nat.reduceMul, Nat.zero_mul, Nat.zero_add, Nat.reduceAdd] at hx20_1); (try rw [show ((0 : Int)).toNat = 0 from rfl] at hf20_1); (try simp only [Nat.reduceMul, Nat.zero_mul, Nat.zero_add, Nat.reduceAdd] at hf20_1); replace p20 := eq_true p20; replace q20 := eq_true q20; have hq26 : (x6_1 : Int) < ((x5_1.length : Int) : Int) := odt_; obtain ⟨oki26, ce26, hcl26, hM26, hcc26, hok26, hbk26⟩ := Kd.S_borrow HO_5.out [] (x6_1 : Int) odt_ hq26; obtain ⟨ve26_0, rfl, ge26_0⟩ := hM26; have hv26 := hcc26 0 _ rfl; rw [Nat.add_zero, show ((Kd.slice 128 k128)).sz = 1 from rfl, Nat.mul_one] at hv26; replace hv26 := Option.some.inj (hv26.symm.trans HX328_0.out); subst hv26; clear hcc26 hcl26; replace ge26_0 := (show Kd.R k128 128 _ _ _ _ (rd_L9 y327 x6_1) from ge26_0); obtain ⟨cf26, hcl26, hN26, hcc26, hfr26⟩ := Kd.R_elem ge26_0 z128 (0 : Int) (by omega) (by have h_ : (0 : Int) < (((rd_L9 y327 x6_1).length : Int) : Int) := odt_; first | exact h_ | (have e_ := (Kd.R_reads' HR328_0.out).1; omega) | simpa using h_); obtain rfl := k128_openM hN26; have HP26 := Kd.R_seg ge26_0 (0 : Int) (by omega) (by have h_ : (0 : Int) < (((rd_L9 y327 x6_1).length : Int) : Int) := odt_; first | exact h_ | (have e_ := (Kd.R_reads' HR328_0.out).1; omega) | simpa using h_) (seg := [.int .i64 1, .int .i64 0]) (j := 0) hcl26 hcc26 (show 2 ≤ 2 from by decide) (x' := (⟨1, 0⟩ : S128)) (k128_mkM _ _ _ (⟨1, 0⟩ : S128)) (fun _ hk => hk); clear hcl26 hcc26 hfr26 hN26) | ((with_reducible refine gate_store (t := 128) (p := 39) rfl ?_); refine store_event (t := 128) (p := 39) (v := ?vo_w27) (w1 := ((w24.setCell ⟨go20, 0, none⟩ (.int .i64 1)).setCell ⟨go20, 1, none⟩ (.int .i64 0))) ?hg ?ho ?hn ?hr ?_; (case ho => rfl); (case hg => rfl); (case hn => rfl); (case hr => first | (go_simp; done) | (go_simp; rfl)); intro w27 hw; have hg : w24.grownBy w27 (some go20) := (by rw [hw]; exact HP26.2); have hz_ : Kd.R k128 128 w27 w.heap.size oki26 (.slice (some ⟨go20, 0, none⟩) (rd_L9 y327 x6_1).length c328_0) y329 := (by rw [hw, Ny329.out]; exact HP26.1); have hp_ : Kd.S (Kd.slice 128 k128) 129 w27 w.heap.size (fun _ => True) (.slice (some ⟨go17, 0, none⟩) x5_1.length co17) y331 := (by rw [Ny331.out]; exact hbk26 hg (fun k_ e_ => by injection e_ with e_; subst e_; exact ge26_0.1 _ rfl) (Kd.M_row hz_)); have hm_ := Kd.R_mono hz_ hok26; clear HP26 hbk26; replace HO_5 := Aside0.mk (hp_); replace BK320 := Aside0.mk (blk_grown (g := gb320) (o := .cells #[.slice A0_0 l0_0.length c0_0, .slice A0_1 l0_1.length c0_1] 118 (0, 0)) BK320.out hg (Kd.R_ne HL328_0.out BK320.out (by decide))); replace HB := Aside0.mk ((by rw [hw]; exact below_set (below_set (HB.out) GB20.out) GB20.out : Below w.heap.size w w27)); have HL364 := Aside0.mk (hm_); have HC330 := Aside0.mk ((Kd.R_reads' hm_).2.1); clear HL328_0; clear hg hw hp_ hz_ hm_ hok26))
     go_roundg k1
     case measure => have := HK1.out; omega
     case rel => exact ⟨(y331), (wrap64 (x6_1 - 1)), rfl, H', ⟨by have := HK1.out; omega⟩, ⟨HO_5.out⟩, ⟨BK320.out⟩, ⟨HB.out⟩⟩
    ·rw [if_neg c18] at H
     have c18b0 : (x6_1 == (l0_0.length : Int)) = false := beq_eq_false_iff_ne.mpr c18
     have c18b1 : (x6_1 != (l0_0.length : Int)) = true := bne_iff_ne.mpr c18
     have H' := Aside0.mk H
     clear H
     go_wp2_with (first | ((with_reducible refine gate_dst (N := 27) rfl ?_); refine Kd.R_make k128 _ 128 rfl (N := 27) rfl 129 _ _ rfl ji12 rfl rfl Try.underlying129 (.agg #[(.int .i64 0), (.int .i64 0)]) 16 info128 rfl (by decide) (by omega) z128 (ok := fun _ => True) (okp := fun _ => True) (k128_mkM _ _ _ z128 ) (fun _ hk => hk) trivial odt_ (Nat.le_trans (Nat.mul_le_mul_right _ (odt_ : ji12.toNat ≤ 17592186044416)) (by omega)) (Below.refl _ _) (Nat.le_refl _) ?_; intro v325 w28 ho29 hb hg_ hnew_; clear hg_ hnew_; (first | rw [← Ny324.out] at ho29 | (simp only [Int.reduceToNat] at ho29; rw [← Ny324.out] at ho29)); replace HO_5 := Aside0.mk (Kd.S_elder' HO_5.out (Kd.R_base ho29) hb); have HO326 := Aside0.mk (Kd.R_lower ho29 (below_size HB.out)); replace BK320 := Aside0.mk (blk_below (g := gb320) (o := .cells #[.slice A0_0 l0_0.length c0_0, .slice A0_1 l0_1.length c0_1] 118 (0, 0)) BK320.out hb); replace HB := Aside0.mk (below_step HB.out hb); clear hb ho29; have p17 : 0 ≤ (x6_1 : Int) := odt_; have q17 : (x6_1 : Int) < ((x5_1.length : Int) : Int) := odt_; obtain ⟨go17, co17, eo17, gb17, gl17, cl17, HG17⟩ := Kd.S_form HO_5.out (by omega); (first | cases eo17 | (injection eo17 with ea_ en_ ec_; (first | subst ea_ | (injection ea_ with ea_; subst ea_)); subst ec_; clear en_)); have GB17 := Aside0.mk gb17; have GG17 := Aside0.mk HG17; clear gb17 gl17 HG17; obtain ⟨_, ce17, hcl17, hM17, hcc17, hfr17, _, _⟩ := Kd.S_elem HO_5.out [] (x6_1 : Int) p17 q17; obtain ⟨ve17_0, rfl, ge17_0⟩ := hM17; have hx17_0 := hcc17 0 _ rfl; have hf17_0 := hfr17 0; (try simp only [show ((Kd.slice 128 k128)).sz = 1 from rfl, Nat.mul_one, Nat.add_zero] at hx17_0); (try simp only [show ((Kd.slice 128 k128)).sz = 1 from rfl, Nat.mul_one, Nat.add_zero] at hf17_0); clear hcl17 hcc17 hfr17 ; (try clear hM17); replace p17 := eq_true p17; replace q17 := eq_true q17; have n_ := Aside0.mk (Kd.S_mono (ok' := (fun k_ => some k_ ≠ (v325 : Value).ownBlock)) HO_5.out (fun k_ hk => hk.2)); clear HO_5; have HO_5 := n_; clear n_; have HX30 := Aside0.mk (show Kd.S (Kd.slice 128 k128) 129 w28 w.heap.size (fun k_ => ((fun _ => True)) k_ ∧ ¬ ((fun k_ => some k_ = (v325 : Value).ownBlock)) k_) (.slice (some ⟨go17, 0, none⟩) x5_1.length co17) x5_1 from (by (with_reducible repeat (first | apply Kd.S_alloc | apply Kd.S_drewN | apply Kd.S_drew)); exact Kd.S_mono HO_5.out (fun k_ hk => ⟨trivial, fun e_ => hk e_⟩))); obtain ⟨oki30, ce30, hcl30, hM30, hcc30, hfr30, hoki30, hH30⟩ := Kd.S_elem HX30.out [] (x6_1 : Int) odt_ (by have h_ : (x6_1 : Int) < ((x5_1.length : Int) : Int) := odt_; first | exact h_ | (have e_ := (Kd.S_reads' HO_5.out).1; omega) | simpa using h_); obtain ⟨ve30_0, rfl, ge30_0⟩ := hM30; have HP30 := Kd.S_seg hH30 odt_ (by have h_ : (x6_1 : Int) < ((x5_1.length : Int) : Int) := odt_; first | exact h_ | (have e_ := (Kd.S_reads' HO_5.out).1; omega) | simpa using h_) (seg := [v325]) (j := 0) (show 1 ≤ 1 from by decide) (x' := y324) (Kd.M_row (Kd.R_mono (Kd.R_tight rfl (Kd.R_mono (ok' := fun k_ => ((fun _ => True)) k_ ∧ k_ ≠ go17) (Kd.R_apart' (HO326.out) (Kd.S_typed HO_5.out) (by decide)) (fun k_ hk => ⟨trivial, fun e_ => (hk.2) (by rw [e_]; rfl)⟩))) (fun _ h_ => Or.inr (h_)))) (fun _ hk => hk) (fun k_ hk_ => ((Kd.R_mono (ok' := fun k_ => ((fun _ => True)) k_ ∧ k_ ≠ go17) (Kd.R_apart' (HO326.out) (Kd.S_typed HO_5.out) (by decide)) (fun k_ hk => ⟨trivial, fun e_ => (hk.2) (by rw [e_]; rfl)⟩))).1 k_ hk_.symm); have hx30_0 := hcc30 0 _ rfl; (try simp only [show ((Kd.slice 128 k128)).sz = 1 from rfl, Nat.mul_one, Nat.add_zero] at hx30_0); have hf30_0 := hfr30 0; (try simp only [show ((Kd.slice 128 k128)).sz = 1 from rfl, Nat.mul_one, Nat.add_zero] at hf30_0); clear hcl30 hcc30 hfr30  hoki30 hH30; (try clear hM30); (try simp only [show ((Kd.slice 128 k128)).sz = 1 from rfl, Nat.mul_one, Nat.add_zero] at HP30)) | ((with_reducible refine gate_store (t := 129) (p := 28) rfl ?_); refine store_event (t := 129) (p := 28) (v := ?vo_w31) (w1 := (w28.setCell ⟨go17, (x6_1 : Int).toNat, none⟩ (v325))) ?hg ?ho ?hn ?hr ?_; (case ho => rfl); (case hg => rfl); (case hn => rfl); (case hr => first | (go_simp; done) | (go_simp; rfl) | ((try (have hv_ := (by first | exact Kd.R_slice (v := v325) (Aside0.out (by assumption)) | exact Kd.S_slice (v := v325) (Aside0.out (by assumption))); obtain ⟨A_, c_, e_⟩ := hv_; subst e_)); first | (go_simp; done) | (go_simp; rfl))); intro w31 hw; have hg : w28.grownBy w31 (some go17) := (by rw [hw]; exact HP30.2); have hp_ : Kd.S (Kd.slice 128 k128) 129 w31 w.heap.size (fun _ => True) (.slice (some ⟨go17, 0, none⟩) x5_1.length co17) y327 := (by rw [hw, Ny327.out]; exact HP30.1); clear HP30; replace BK320 := Aside0.mk (blk_grown (g := gb320) (o := .cells #[.slice A0_0 l0_0.length c0_0, .slice A0_1 l0_1.length c0_1] 118 (0, 0)) BK320.out hg (Kd.S_ne HO_5.out BK320.out (by decide))); replace HO_5 := Aside0.mk (hp_); replace HB := Aside0.mk ((by rw [hw]; exact below_set (HB.out) GB17.out : Below w.heap.size w w31)); clear HO326; clear hg hw hp_; have hcz32_0 : w31.cell? ⟨gb320, 0, none⟩ = some (.slice A0_0 l0_0.length c0_0) := (blk_cell BK320.out 0).trans rfl; have hcz32_1 : w31.cell? ⟨gb320, 1, none⟩ = some (.slice A0_1 l0_1.length c0_1) := (blk_cell BK320.out 1).trans rfl; have hfz32_0 := blk_frozen BK320.out 0; have hfz32_1 := blk_frozen BK320.out 1))
     go_loopg [42] k1 (fun kq v42 w' => ∃ (x5_2 : List (List (S128))) (x42_2 : Int), v42 = .int .i64 x42_2 ∧ Aside0 (impl_purse_table.l1 kq a1 x5_2 x6_1 ji12 x42_2 l0_0 l0_1 = some r) ∧ Aside0 (kq ≤ k1) ∧ Aside0 (Kd.S (Kd.slice 128 k128) 129 w' w.heap.size (fun _ => True) (.slice (some ⟨go17, 0, none⟩) x5_1.length co17) x5_2) ∧ Aside0 (w'.heap[gb320]? = some (.cells #[(.slice A0_0 l0_0.length c0_0), (.slice A0_1 l0_1.length c0_1)] 118 (0, 0))) ∧ Aside0 (Below w.heap.size w w'))
     case atStart => exact ⟨(y327), (0), rfl, H', ⟨Nat.le_refl _⟩, ⟨HO_5.out⟩, ⟨BK320.out⟩, ⟨HB.out⟩⟩
     case round =>
      clear H'
      try clear c1
      try clear p1
      try clear q1
      try clear hx1
      try clear c2
      try clear p2
      try clear q2
      try clear hx2
      try clear qi2
      try clear hf2
      try clear c3
      try clear p3
      try clear q3
      try clear hx3
      try clear hf3
      try clear c4
      try clear c4b0
      try clear c4b1
      try clear c5
      try clear c5b0
      try clear c5b1
      try clear p6
      try clear c11
      try clear c11b0
      try clear c12
      try clear c13
      try clear c13b0
      try clear c13b1
      try clear c14
      try clear c14b0
      try clear c14b1
      try clear c15
      try clear c15b0
      try clear c16
      try clear c16b0
      try clear c17
      try clear p17
      try clear q17
      try clear hx17
      try clear hf17
      try clear c18
      try clear c18b0
      try clear c18b1
      try clear c19
      try clear c19b0
      try clear c19b1
      try clear c20
      try clear p20
      try clear q20
      try clear hx20
      try clear qi20
      try clear hf20
      try clear c23
      try clear hx23
      try clear hf23
      try clear c26
      try clear q26
      try clear c30
      try clear hx30
      try clear hf30
      try clear c32
      try clear p32
      try clear q32
      try clear hx32
      try clear hcz10_0
      try clear hcz10_1
      try clear hcz25_0
      try clear hcz25_1
      try clear hcz32_0
      try clear hcz32_1
      try clear hcz7_0
      try clear hcz7_1
      try clear hfz10_0
      try clear hfz10_1
      try clear hfz25_0
      try clear hfz25_1
      try clear hfz32_0
      try clear hfz32_1
      try clear hfz7_0
      try clear hfz7_1
      try clear hx17_0
      try clear hx20_0
      try clear hx20_1
      try clear hx23_0
      try clear hx30_0
      try clear hx328_0
      try clear p17
      try clear p2
      try clear p20
      try clear p328
      try clear p6
      try clear q17
      try clear q20
      try clear q328
      obtain ⟨x5_2, x42_2, rfl, HA, HK2, HO_5, BK320, HB⟩ := hrel
      have hl5_2 := (Kd.S_reads' HO_5.out).1
      rw [hl5_2] at HO_5
      (try simp only [hl5_2])
      (try simp only [hl5_2] at BK320)
      cases gk with
      | zero => exact absurd HA.out (by simp [impl_purse_table.l1])
      | succ k2 =>
       have H := HA.out
       clear HA
       simp only [impl_purse_table.l1] at H
       by_cases c33 : x42_2 < ji12
       ·rw [if_pos c33] at H
        have c33b0 : decide (x42_2 < ji12) = true := decide_eq_true c33
        clear c33
        have H' := Aside0.mk H
        clear H
        go_wp2
        go_loopg [8] k2 (fun kq v8 w' => ∃ (x5_3 : List (List (S128))) (x8_3 : Int), v8 = .int .i64 x8_3 ∧ Aside0 (impl_purse_table.l2 kq a1 x5_3 x6_1 x42_2 x8_3 ji12 x42_2 l0_0 l0_1 = some r) ∧ Aside0 (kq ≤ k2) ∧ Aside0 (Kd.S (Kd.slice 128 k128) 129 w' w.heap.size (fun _ => True) (.slice (some ⟨go17, 0, none⟩) x5_2.length co17) x5_3) ∧ Aside0 (w'.heap[gb320]? = some (.cells #[(.slice A0_0 l0_0.length c0_0), (.slice A0_1 l0_1.length c0_1)] 118 (0, 0))) ∧ Aside0 (Below w.heap.size w w'))
        case atStart => exact ⟨(x5_2), (0), rfl, H', ⟨Nat.le_refl _⟩, ⟨by (try simp only [hl5_2]); (with_reducible repeat (first | apply Kd.S_alloc | apply Kd.S_drewN | apply Kd.S_drew)); exact HO_5.out⟩, ⟨by (try simp only [hl5_2]); (with_reducible repeat (first | refine blk_drewN ?_ _ | refine blk_drew ?_ | refine blk_alloc ?_ _)); exact BK320.out⟩, ⟨HB.out⟩⟩
        case round =>
         clear H'
         try clear c1
         try clear p1
         try clear q1
         try clear hx1
         try clear c2
         try clear p2
         try clear q2
         try clear hx2
         try clear qi2
         try clear hf2
         try clear c3
         try clear p3
         try clear q3
         try clear hx3
         try clear hf3
         try clear c4
         try clear c4b0
         try clear c4b1
         try clear c5
         try clear c5b0
         try clear c5b1
         try clear p6
         try clear c11
         try clear c11b0
         try clear c12
         try clear c13
         try clear c13b0
         try clear c13b1
         try clear c14
         try clear c14b0
         try clear c14b1
         try clear c15
         try clear c15b0
         try clear c16
         try clear c16b0
         try clear c17
         try clear p17
         try clear q17
         try clear hx17
         try clear hf17
         try clear c18
         try clear c18b0
         try clear c18b1
         try clear c19
         try clear c19b0
         try clear c19b1
         try clear c20
         try clear p20
         try clear q20
         try clear hx20
         try clear qi20
         try clear hf20
         try clear c23
         try clear hx23
         try clear hf23
         try clear c26
         try clear q26
         try clear c30
         try clear hx30
         try clear hf30
         try clear c32
         try clear p32
         try clear q32
         try clear hx32
         try clear c33
         try clear c33b0
         try clear hcz10_0
         try clear hcz10_1
         try clear hcz25_0
         try clear hcz25_1
         try clear hcz32_0
         try clear hcz32_1
         try clear hcz7_0
         try clear hcz7_1
         try clear hfz10_0
         try clear hfz10_1
         try clear hfz25_0
         try clear hfz25_1
         try clear hfz32_0
         try clear hfz32_1
         try clear hfz7_0
         try clear hfz7_1
         try clear hx17_0
         try clear hx20_0
         try clear hx20_1
         try clear hx23_0
         try clear hx30_0
         try clear hx328_0
         try clear p1
         try clear p17
         try clear p2
         try clear p20
         try clear p3
         try clear p32
         try clear p328
         try clear p6
         try clear q1
         try clear q17
         try clear q2
         try clear q20
         try clear q26
         try clear q3
         try clear q32
         try clear q328
         obtain ⟨x5_3, x8_3, rfl, HA, HK3, HO_5, BK320, HB⟩ := hrel
         have hl5_3 := (Kd.S_reads' HO_5.out).1
         rw [hl5_3] at HO_5
         (try simp only [hl5_3])
         (try simp only [hl5_3] at BK320)
         cases gk with
         | zero => exact absurd HA.out (by simp [impl_purse_table.l2])
         | succ k3 =>
          have H := HA.out
          clear HA
          simp only [impl_purse_table.l2] at H
          have HC34 := Aside0.mk H
          clear H
          go_upto_region 12 with (fail)
          go_cut [62] (fun v62 wc => ∃ (kq : Nat) (x62_33 : Bool), v62 = .bool x62_33 ∧ Aside0 (impl_purse_table.j3 kq a1 x5_3 x6_1 x42_2 x8_3 ji12 x42_2 x62_33 l0_0 l0_1 = some r) ∧ Aside0 (kq ≤ k3) ∧ Aside0 (Kd.S (Kd.slice 128 k128) 129 wc w.heap.size (fun _ => True) (.slice (some ⟨go17, 0, none⟩) x5_3.length co17) x5_3) ∧ Aside0 (wc.heap[gb320]? = some (.cells #[(.slice A0_0 l0_0.length c0_0), (.slice A0_1 l0_1.length c0_1)] 118 (0, 0))) ∧ Aside0 (Below w.heap.size w wc))
          case first =>
           have H := HC34.out
           clear HC34
           by_cases c35 : 0 ≤ x6_1
           rotate_left
           ·rw [if_neg c35] at H; exact absurd H (by simp)
           rw [if_pos c35] at H
           have c35b0 : decide (0 ≤ x6_1) = true := decide_eq_true c35
           clear c35
           (first | rw [c35b0] | (simp only [i64_w, i32_w]; rw [c35b0]) | skip)
           by_cases c36 : x6_1 < (l0_1.length : Int)
           rotate_left
           ·rw [if_neg c36] at H; exact absurd H (by simp)
           rw [if_pos c36] at H
           have c36b0 : decide (x6_1 < (l0_1.length : Int)) = true := decide_eq_true c36
           clear c36
           by_cases c37 : x8_3 ≤ (rd l0_1 x6_1)
           ·rw [if_pos c37] at H
            have c37b0 : decide (x8_3 ≤ (rd l0_1 x6_1)) = true := decide_eq_true c37
            clear c37
            by_cases c38 : x6_1 < (l0_0.length : Int)
            rotate_left
            ·rw [if_neg c38] at H; exact absurd H (by simp)
            rw [if_pos c38] at H
            have c38b0 : decide (x6_1 < (l0_0.length : Int)) = true := decide_eq_true c38
            clear c38
            have H' := Aside0.mk H
            clear H
            have hcz39_0 : wr.cell? ⟨gb320, 0, none⟩ = some (.slice A0_0 l0_0.length c0_0) := (blk_cell BK320.out 0).trans rfl
            have hcz39_1 : wr.cell? ⟨gb320, 1, none⟩ = some (.slice A0_1 l0_1.length c0_1) := (blk_cell BK320.out 1).trans rfl
            have hfz39_0 := blk_frozen BK320.out 0
            have hfz39_1 := blk_frozen BK320.out 1
            have p332 : 0 ≤ (x6_1 : Int) := of_decide_eq_true (by assumption)
            have q332 : x6_1 < (l0_1.length : Int) := of_decide_eq_true (by assumption)
            obtain ⟨ad332, e332, hx332_0⟩ := Kd.at_int HR0_1.out x6_1 p332 q332
            cases e332
            replace hx332_0 := (HB.out.cell (World.block_lt_of_cell? w _ hx332_0)).trans hx332_0
            replace p332 := eq_true p332
            replace q332 := eq_true q332
            have p333 : 0 ≤ (x6_1 : Int) := of_decide_eq_true (by assumption)
            have q333 : x6_1 < (l0_0.length : Int) := of_decide_eq_true (by assumption)
            obtain ⟨ad333, e333, hx333_0⟩ := Kd.at_int HR0_0.out x6_1 p333 q333
            cases e333
            replace hx333_0 := (HB.out.cell (World.block_lt_of_cell? w _ hx333_0)).trans hx333_0
            replace p333 := eq_true p333
            replace q333 := eq_true q333
            go_wp2
            go_meet
            case rel => exact ⟨_, (decide ((wrap64 (x8_3 * (rd l0_0 x6_1))) ≤ x42_2)), rfl, H', ⟨by have := HK1.out; have := HK2.out; have := HK3.out; first | omega | exact Nat.le_refl _⟩, ⟨by (try simp only [hl5_2]); (try simp only [hl5_3]); (with_reducible repeat (first | apply Kd.S_alloc | apply Kd.S_drewN | apply Kd.S_drew)); exact HO_5.out⟩, ⟨by (try simp only [hl5_2]); (try simp only [hl5_3]); (with_reducible repeat (first | refine blk_drewN ?_ _ | refine blk_drew ?_ | refine blk_alloc ?_ _)); exact BK320.out⟩, ⟨HB.out⟩⟩
           ·rw [if_neg c37] at H
            have c37b0 : decide (x8_3 ≤ (rd l0_1 x6_1)) = false := decide_eq_false c37
            clear c37
            have H' := Aside0.mk H
            clear H
            have hcz40_0 : wr.cell? ⟨gb320, 0, none⟩ = some (.slice A0_0 l0_0.length c0_0) := (blk_cell BK320.out 0).trans rfl
            have hcz40_1 : wr.cell? ⟨gb320, 1, none⟩ = some (.slice A0_1 l0_1.length c0_1) := (blk_cell BK320.out 1).trans rfl
            have hfz40_0 := blk_frozen BK320.out 0
            have hfz40_1 := blk_frozen BK320.out 1
            have p332 : 0 ≤ (x6_1 : Int) := of_decide_eq_true (by assumption)
            have q332 : x6_1 < (l0_1.length : Int) := of_decide_eq_true (by assumption)
            obtain ⟨ad332, e332, hx332_0⟩ := Kd.at_int HR0_1.out x6_1 p332 q332
            cases e332
            replace hx332_0 := (HB.out.cell (World.block_lt_of_cell? w _ hx332_0)).trans hx332_0
            replace p332 := eq_true p332
            replace q332 := eq_true q332
            go_wp2
            go_meet
            case rel => exact ⟨_, (false), rfl, H', ⟨by have := HK1.out; have := HK2.out; have := HK3.out; first | omega | exact Nat.le_refl _⟩, ⟨by (try simp only [hl5_2]); (try simp only [hl5_3]); (with_reducible repeat (first | apply Kd.S_alloc | apply Kd.S_drewN | apply Kd.S_drew)); exact HO_5.out⟩, ⟨by (try simp only [hl5_2]); (try simp only [hl5_3]); (with_reducible repeat (first | refine blk_drewN ?_ _ | refine blk_drew ?_ | refine blk_alloc ?_ _)); exact BK320.out⟩, ⟨HB.out⟩⟩
          case rest =>
           clear HC34
           try clear c1
           try clear p1
           try clear q1
           try clear hx1
           try clear c2
           try clear p2
           try clear q2
           try clear hx2
           try clear qi2
           try clear hf2
           try clear c3
           try clear p3
           try clear q3
           try clear hx3
           try clear hf3
           try clear c4
           try clear c4b0
           try clear c4b1
           try clear c5
           try clear c5b0
           try clear c5b1
           try clear p6
           try clear c11
           try clear c11b0
           try clear c12
           try clear c13
           try clear c13b0
           try clear c13b1
           try clear c14
           try clear c14b0
           try clear c14b1
           try clear c15
           try clear c15b0
           try clear c16
           try clear c16b0
           try clear c17
           try clear p17
           try clear q17
           try clear hx17
           try clear hf17
           try clear c18
           try clear c18b0
           try clear c18b1
           try clear c19
           try clear c19b0
           try clear c19b1
           try clear c20
           try clear p20
           try clear q20
           try clear hx20
           try clear qi20
           try clear hf20
           try clear c23
           try clear hx23
           try clear hf23
           try clear c26
           try clear q26
           try clear c30
           try clear hx30
           try clear hf30
           try clear c32
           try clear p32
           try clear q32
           try clear hx32
           try clear c33
           try clear c33b0
           try clear p33
           try clear q33
           try clear hx33
           try clear c35
           try clear c35b0
           try clear c36
           try clear c36b0
           try clear c37
           try clear c37b0
           try clear c38
           try clear c38b0
           try clear hcz10_0
           try clear hcz10_1
           try clear hcz25_0
           try clear hcz25_1
           try clear hcz32_0
           try clear hcz32_1
           try clear hcz39_0
           try clear hcz39_1
           try clear hcz40_0
           try clear hcz40_1
           try clear hcz7_0
           try clear hcz7_1
           try clear hfz10_0
           try clear hfz10_1
           try clear hfz25_0
           try clear hfz25_1
           try clear hfz32_0
           try clear hfz32_1
           try clear hfz39_0
           try clear hfz39_1
           try clear hfz40_0
           try clear hfz40_1
           try clear hfz7_0
           try clear hfz7_1
           try clear hx17_0
           try clear hx20_0
           try clear hx20_1
           try clear hx23_0
           try clear hx30_0
           try clear hx328_0
           try clear hx332_0
           try clear hx333_0
           try clear p1
           try clear p17
           try clear p2
           try clear p20
           try clear p3
           try clear p32
           try clear p328
           try clear p332
           try clear p333
           try clear p6
           try clear q1
           try clear q17
           try clear q2
           try clear q20
           try clear q26
           try clear q3
           try clear q32
           try clear q328
           try clear q332
           try clear q333
           obtain ⟨kq, x62_33, rfl, HA, HJ33, HO_5, BK320, HB⟩ := hcut
           cases kq with
           | zero => exact absurd HA.out (by simp [impl_purse_table.j3])
           | succ kj33 =>
            have H := HA.out
            clear HA
            simp only [impl_purse_table.j3] at H
            by_cases c41 : x62_33 = true
            ·subst c41
             have H1 : (if 0 ≤ (wrap64 (x6_1 + 1)) then (if (wrap64 (x6_1 + 1)) < (x5_3.length : Int) then (if 0 ≤ x6_1 then (if x6_1 < (l0_0.length : Int) then (if 0 ≤ (wrap64 (x42_2 - (wrap64 (x8_3 * (rd l0_0 x6_1))))) then (if (wrap64 (x42_2 - (wrap64 (x8_3 * (rd l0_0 x6_1))))) < ((rd_L9 x5_3 (wrap64 (x6_1 + 1))).length : Int) then (if ((rd_T128 (rd_L9 x5_3 (wrap64 (x6_1 + 1))) (wrap64 (x42_2 - (wrap64 (x8_3 * (rd l0_0 x6_1)))))).f0) = 0 then (impl_purse_table.l2 kj33 a1 x5_3 x6_1 x42_2 (wrap64 (x8_3 + 1)) ji12 x42_2 l0_0 l0_1) else (if x6_1 < (x5_3.length : Int) then (if 0 ≤ x42_2 then (if x42_2 < ((rd_L9 x5_3 x6_1).length : Int) then (if ((rd_T128 (rd_L9 x5_3 x6_1) x42_2).f0) = 0 then ((some (x5_3.set (x6_1 : Int).toNat ((rd_L9 x5_3 x6_1).set (x42_2 : Int).toNat (⟨(rd_T128 (rd_L9 x5_3 x6_1) x42_2).f0, wrap64 (((rd_T128 (rd_L9 x5_3 (wrap64 (x6_1 + 1))) (wrap64 (x42_2 - (wrap64 (x8_3 * (rd l0_0 x6_1)))))).f1) + x8_3)⟩ : S128)) : List (List (S128)))).bind fun y344 => (if x42_2 < ((rd_L9 y344 x6_1).length : Int) then (impl_purse_table.l2 kj33 a1 (y344.set (x6_1 : Int).toNat ((rd_L9 y344 x6_1).set (x42_2 : Int).toNat (⟨wrap64 (((rd_T128 (rd_L9 y344 x6_1) x42_2).f0) + ((rd_T128 (rd_L9 x5_3 (wrap64 (x6_1 + 1))) (wrap64 (x42_2 - (wrap64 (x8_3 * (rd l0_0 x6_1)))))).f0)), (rd_T128 (rd_L9 y344 x6_1) x42_2).f1⟩ : S128))) x6_1 x42_2 (wrap64 (x8_3 + 1)) ji12 x42_2 l0_0 l0_1) else (none))) else (if (wrap64 (((rd_T128 (rd_L9 x5_3 (wrap64 (x6_1 + 1))) (wrap64 (x42_2 - (wrap64 (x8_3 * (rd l0_0 x6_1)))))).f1) + x8_3)) < ((rd_T128 (rd_L9 x5_3 x6_1) x42_2).f1) then ((some (x5_3.set (x6_1 : Int).toNat ((rd_L9 x5_3 x6_1).set (x42_2 : Int).toNat (⟨(rd_T128 (rd_L9 x5_3 x6_1) x42_2).f0, wrap64 (((rd_T128 (rd_L9 x5_3 (wrap64 (x6_1 + 1))) (wrap64 (x42_2 - (wrap64 (x8_3 * (rd l0_0 x6_1)))))).f1) + x8_3)⟩ : S128)) : List (List (S128)))).bind fun y353 => (if x42_2 < ((rd_L9 y353 x6_1).length : Int) then (impl_purse_table.l2 kj33 a1 (y353.set (x6_1 : Int).toNat ((rd_L9 y353 x6_1).set (x42_2 : Int).toNat (⟨wrap64 (((rd_T128 (rd_L9 y353 x6_1) x42_2).f0) + ((rd_T128 (rd_L9 x5_3 (wrap64 (x6_1 + 1))) (wrap64 (x42_2 - (wrap64 (x8_3 * (rd l0_0 x6_1)))))).f0)), (rd_T128 (rd_L9 y353 x6_1) x42_2).f1⟩ : S128))) x6_1 x42_2 (wrap64 (x8_3 + 1)) ji12 x42_2 l0_0 l0_1) else (none))) else (impl_purse_table.l2 kj33 a1 (x5_3.set (x6_1 : Int).toNat ((rd_L9 x5_3 x6_1).set (x42_2 : Int).toNat (⟨wrap64 (((rd_T128 (rd_L9 x5_3 x6_1) x42_2).f0) + ((rd_T128 (rd_L9 x5_3 (wrap64 (x6_1 + 1))) (wrap64 (x42_2 - (wrap64 (x8_3 * (rd l0_0 x6_1)))))).f0)), (rd_T128 (rd_L9 x5_3 x6_1) x42_2).f1⟩ : S128))) x6_1 x42_2 (wrap64 (x8_3 + 1)) ji12 x42_2 l0_0 l0_1))) else (none)) else (none)) else (none))) else (none)) else (none)) else (none)) else (none)) else (none)) else (none)) = some r := by rw [if_pos rfl] at H; exact H
             clear H
             have H := H1
             clear H1
             obtain ⟨ji42, hji42⟩ : ∃ j_ : Int, (wrap64 (x6_1 + 1)) = j_ := ⟨_, rfl⟩
             replace H : (if 0 ≤ (ji42) then (if (ji42) < (x5_3.length : Int) then (if 0 ≤ x6_1 then (if x6_1 < (l0_0.length : Int) then (if 0 ≤ (wrap64 (x42_2 - (wrap64 (x8_3 * (rd l0_0 x6_1))))) then (if (wrap64 (x42_2 - (wrap64 (x8_3 * (rd l0_0 x6_1))))) < ((rd_L9 x5_3 (ji42)).length : Int) then (if ((rd_T128 (rd_L9 x5_3 (ji42)) (wrap64 (x42_2 - (wrap64 (x8_3 * (rd l0_0 x6_1)))))).f0) = 0 then (impl_purse_table.l2 kj33 a1 x5_3 x6_1 x42_2 (wrap64 (x8_3 + 1)) ji12 x42_2 l0_0 l0_1) else (if x6_1 < (x5_3.length : Int) then (if 0 ≤ x42_2 then (if x42_2 < ((rd_L9 x5_3 x6_1).length : Int) then (if ((rd_T128 (rd_L9 x5_3 x6_1) x42_2).f0) = 0 then ((some (x5_3.set (x6_1 : Int).toNat ((rd_L9 x5_3 x6_1).set (x42_2 : Int).toNat (⟨(rd_T128 (rd_L9 x5_3 x6_1) x42_2).f0, wrap64 (((rd_T128 (rd_L9 x5_3 (ji42)) (wrap64 (x42_2 - (wrap64 (x8_3 * (rd l0_0 x6_1)))))).f1) + x8_3)⟩ : S128)) : List (List (S128)))).bind fun y344 => (if x42_2 < ((rd_L9 y344 x6_1).length : Int) then (impl_purse_table.l2 kj33 a1 (y344.set (x6_1 : Int).toNat ((rd_L9 y344 x6_1).set (x42_2 : Int).toNat (⟨wrap64 (((rd_T128 (rd_L9 y344 x6_1) x42_2).f0) + ((rd_T128 (rd_L9 x5_3 (ji42)) (wrap64 (x42_2 - (wrap64 (x8_3 * (rd l0_0 x6_1)))))).f0)), (rd_T128 (rd_L9 y344 x6_1) x42_2).f1⟩ : S128))) x6_1 x42_2 (wrap64 (x8_3 + 1)) ji12 x42_2 l0_0 l0_1) else (none))) else (if (wrap64 (((rd_T128 (rd_L9 x5_3 (ji42)) (wrap64 (x42_2 - (wrap64 (x8_3 * (rd l0_0 x6_1)))))).f1) + x8_3)) < ((rd_T128 (rd_L9 x5_3 x6_1) x42_2).f1) then ((some (x5_3.set (x6_1 : Int).toNat ((rd_L9 x5_3 x6_1).set (x42_2 : Int).toNat (⟨(rd_T128 (rd_L9 x5_3 x6_1) x42_2).f0, wrap64 (((rd_T128 (rd_L9 x5_3 (ji42)) (wrap64 (x42_2 - (wrap64 (x8_3 * (rd l0_0 x6_1)))))).f1) + x8_3)⟩ : S128)) : List (List (S128)))).bind fun y353 => (if x42_2 < ((rd_L9 y353 x6_1).length : Int) then (impl_purse_table.l2 kj33 a1 (y353.set (x6_1 : Int).toNat ((rd_L9 y353 x6_1).set (x42_2 : Int).toNat (⟨wrap64 (((rd_T128 (rd_L9 y353 x6_1) x42_2).f0) + ((rd_T128 (rd_L9 x5_3 (ji42)) (wrap64 (x42_2 - (wrap64 (x8_3 * (rd l0_0 x6_1)))))).f0)), (rd_T128 (rd_L9 y353 x6_1) x42_2).f1⟩ : S128))) x6_1 x42_2 (wrap64 (x8_3 + 1)) ji12 x42_2 l0_0 l0_1) else (none))) else (impl_purse_table.l2 kj33 a1 (x5_3.set (x6_1 : Int).toNat ((rd_L9 x5_3 x6_1).set (x42_2 : Int).toNat (⟨wrap64 (((rd_T128 (rd_L9 x5_3 x6_1) x42_2).f0) + ((rd_T128 (rd_L9 x5_3 (ji42)) (wrap64 (x42_2 - (wrap64 (x8_3 * (rd l0_0 x6_1)))))).f0)), (rd_T128 (rd_L9 x5_3 x6_1) x42_2).f1⟩ : S128))) x6_1 x42_2 (wrap64 (x8_3 + 1)) ji12 x42_2 l0_0 l0_1))) else (none)) else (none)) else (none))) else (none)) else (none)) else (none)) else (none)) else (none)) else (none)) = some r := by first | (rw [hji42] at H; exact H) | (simp only [hji42] at H ⊢; exact H)
             have hji42w : (IntKind.i64.wrap (x6_1 + 1)) = ji42 := (i64_w _).trans hji42
             by_cases c43 : 0 ≤ (ji42)
             rotate_left
             ·rw [if_neg c43] at H; exact absurd H (by simp)
             rw [if_pos c43] at H
             have c43b0 : decide (0 ≤ (ji42)) = true := decide_eq_true c43
             clear c43
             by_cases c44 : (ji42) < (x5_3.length : Int)
             rotate_left
             ·rw [if_neg c44] at H; exact absurd H (by simp)
             rw [if_pos c44] at H
             have c44b0 : decide ((ji42) < (x5_3.length : Int)) = true := decide_eq_true c44
             clear c44
             by_cases c45 : 0 ≤ x6_1
             rotate_left
             ·rw [if_neg c45] at H; exact absurd H (by simp)
             rw [if_pos c45] at H
             have c45b0 : decide (0 ≤ x6_1) = true := decide_eq_true c45
             clear c45
             by_cases c46 : x6_1 < (l0_0.length : Int)
             rotate_left
             ·rw [if_neg c46] at H; exact absurd H (by simp)
             rw [if_pos c46] at H
             have c46b0 : decide (x6_1 < (l0_0.length : Int)) = true := decide_eq_true c46
             clear c46
             obtain ⟨ji47, hji47⟩ : ∃ j_ : Int, (wrap64 (x42_2 - (wrap64 (x8_3 * (rd l0_0 x6_1))))) = j_ := ⟨_, rfl⟩
             replace H : (if 0 ≤ (ji47) then (if (ji47) < ((rd_L9 x5_3 (ji42)).length : Int) then (if ((rd_T128 (rd_L9 x5_3 (ji42)) (ji47)).f0) = 0 then (impl_purse_table.l2 kj33 a1 x5_3 x6_1 x42_2 (wrap64 (x8_3 + 1)) ji12 x42_2 l0_0 l0_1) else (if x6_1 < (x5_3.length : Int) then (if 0 ≤ x42_2 then (if x42_2 < ((rd_L9 x5_3 x6_1).length : Int) then (if ((rd_T128 (rd_L9 x5_3 x6_1) x42_2).f0) = 0 then ((some (x5_3.set (x6_1 : Int).toNat ((rd_L9 x5_3 x6_1).set (x42_2 : Int).toNat (⟨(rd_T128 (rd_L9 x5_3 x6_1) x42_2).f0, wrap64 (((rd_T128 (rd_L9 x5_3 (ji42)) (ji47)).f1) + x8_3)⟩ : S128)) : List (List (S128)))).bind fun y344 => (if x42_2 < ((rd_L9 y344 x6_1).length : Int) then (impl_purse_table.l2 kj33 a1 (y344.set (x6_1 : Int).toNat ((rd_L9 y344 x6_1).set (x42_2 : Int).toNat (⟨wrap64 (((rd_T128 (rd_L9 y344 x6_1) x42_2).f0) + ((rd_T128 (rd_L9 x5_3 (ji42)) (ji47)).f0)), (rd_T128 (rd_L9 y344 x6_1) x42_2).f1⟩ : S128))) x6_1 x42_2 (wrap64 (x8_3 + 1)) ji12 x42_2 l0_0 l0_1) else (none))) else (if (wrap64 (((rd_T128 (rd_L9 x5_3 (ji42)) (ji47)).f1) + x8_3)) < ((rd_T128 (rd_L9 x5_3 x6_1) x42_2).f1) then ((some (x5_3.set (x6_1 : Int).toNat ((rd_L9 x5_3 x6_1).set (x42_2 : Int).toNat (⟨(rd_T128 (rd_L9 x5_3 x6_1) x42_2).f0, wrap64 (((rd_T128 (rd_L9 x5_3 (ji42)) (ji47)).f1) + x8_3)⟩ : S128)) : List (List (S128)))).bind fun y353 => (if x42_2 < ((rd_L9 y353 x6_1).length : Int) then (impl_purse_table.l2 kj33 a1 (y353.set (x6_1 : Int).toNat ((rd_L9 y353 x6_1).set (x42_2 : Int).toNat (⟨wrap64 (((rd_T128 (rd_L9 y353 x6_1) x42_2).f0) + ((rd_T128 (rd_L9 x5_3 (ji42)) (ji47)).f0)), (rd_T128 (rd_L9 y353 x6_1) x42_2).f1⟩ : S128))) x6_1 x42_2 (wrap64 (x8_3 + 1)) ji12 x42_2 l0_0 l0_1) else (none))) else (impl_purse_table.l2 kj33 a1 (x5_3.set (x6_1 : Int).toNat ((rd_L9 x5_3 x6_1).set (x42_2 : Int).toNat (⟨wrap64 (((rd_T128 (rd_L9 x5_3 x6_1) x42_2).f0) + ((rd_T128 (rd_L9 x5_3 (ji42)) (ji47)).f0)), (rd_T128 (rd_L9 x5_3 x6_1) x42_2).f1⟩ : S128))) x6_1 x42_2 (wrap64 (x8_3 + 1)) ji12 x42_2 l0_0 l0_1))) else (none)) else (none)) else (none))) else (none)) else (none)) = some r := by first | (rw [hji47] at H; exact H) | (simp only [hji47] at H ⊢; exact H)
             have hji47w : (IntKind.i64.wrap (x42_2 - (wrap64 (x8_3 * (rd l0_0 x6_1))))) = ji47 := (i64_w _).trans hji47
             by_cases c48 : 0 ≤ (ji47)
             rotate_left
             ·rw [if_neg c48] at H; exact absurd H (by simp)
             rw [if_pos c48] at H
             have c48b0 : decide (0 ≤ (ji47)) = true := decide_eq_true c48
             clear c48
             by_cases c49 : (ji47) < ((rd_L9 x5_3 (ji42)).length : Int)
             rotate_left
             ·rw [if_neg c49] at H; exact absurd H (by simp)
             rw [if_pos c49] at H
             have c49b0 : decide ((ji47) < ((rd_L9 x5_3 (ji42)).length : Int)) = true := decide_eq_true c49
             clear c49
             try go_wp2
             replace HO_5 := Aside0.mk (Kd.S_drew HO_5.out)
             replace BK320 := Aside0.mk (blk_drew BK320.out)
             replace HB := Aside0.mk (below_drew1 HB.out)
             have p334 : 0 ≤ ((ji42) : Int) := of_decide_eq_true (by assumption)
             have q334 : (ji42) < (x5_3.length : Int) := of_decide_eq_true (by assumption)
             obtain ⟨ad334, A334_0, c334_0, e334, hx334_0, hl334_0, hi334_0⟩ := at_L9 (Kd.S_reads' HO_5.out).2.2 (ji42) p334 q334
             obtain rfl : (⟨go17, 0, none⟩ : Addr) = ad334 := (by injection e334)
             obtain ⟨ce334, hce334, hMe334, hcc334⟩ := Kd.S_get HO_5.out [] (ji42) p334 (by first | exact q334 | exact of_decide_eq_true (by assumption) | (have e_ := (Kd.S_reads' HO_5.out).1; omega))
             obtain ⟨ve334_0, rfl, ge334_0⟩ := hMe334
             have hv334_0 := hcc334 0 _ rfl
             rw [Nat.add_zero, show ((Kd.slice 128 k128)).sz = 1 from rfl, Nat.mul_one] at hv334_0
             replace hv334_0 := Option.some.inj (hv334_0.symm.trans hx334_0)
             rw [hv334_0] at ge334_0
             have HL334_0 := Aside0.mk (show Kd.R k128 128 _ _ _ _ (rd_L9 x5_3 (ji42)) from ge334_0)
             clear hv334_0 ge334_0
             have HX334_0 := Aside0.mk hx334_0
             clear hcc334 hce334
             (first | simp only [add_plain] at hx334_0 | simp only [add_at] at hx334_0 | simp only [Addr.add, Nat.zero_add] at hx334_0 | skip)
             have HR334_0 := Aside0.mk hi334_0
             have HC334_0 := Aside0.mk hl334_0
             clear hi334_0 hl334_0
             replace p334 := eq_true p334
             replace q334 := eq_true q334
             have p335 : 0 ≤ (x6_1 : Int) := of_decide_eq_true (by assumption)
             have q335 : x6_1 < (l0_0.length : Int) := of_decide_eq_true (by assumption)
             obtain ⟨ad335, e335, hx335_0⟩ := Kd.at_int HR0_0.out x6_1 p335 q335
             have hw335_0 := hx335_0
             cases e335
             replace hx335_0 := (HB.out.cell (World.block_lt_of_cell? w _ hx335_0)).trans hx335_0
             replace p335 := eq_true p335
             replace q335 := eq_true q335
             have p336 : 0 ≤ ((ji47) : Int) := of_decide_eq_true (by assumption)
             have q336 : (ji47) < ((rd_L9 x5_3 (ji42)).length : Int) := of_decide_eq_true (by assumption)
             obtain ⟨ad336, e336, hx336_0, hx336_1⟩ := at_T128 HR334_0.out (ji47) p336 q336
             cases e336
             replace p336 := eq_true p336
             replace q336 := eq_true q336
             refine start_ (n := 18) (S := fun w' => w'.cell? ⟨gb320, 0, none⟩ = some (.slice (some ad335) l0_0.length c0_0) ∧ w'.cell? ⟨gb320, 1, none⟩ = some (.slice A0_1 l0_1.length c0_1) ∧ w'.cell? ⟨go17, ((ji42)).toNat, none⟩ = some (.slice (some ad336) (rd_L9 x5_3 (ji42)).length c334_0) ∧ w'.cell? (ad335.add (x6_1).toNat) = some (.int .i64 (rd l0_0 x6_1)) ∧ w'.cell? (ad336.add (((ji47)).toNat * 2)) = some (.int .i64 ((rd_T128 (rd_L9 x5_3 (ji42)) (ji47)).f0)) ∧ w'.cell? ⟨(ad336.add (((ji47)).toNat * 2)).block, (ad336.add (((ji47)).toNat * 2)).off + 1, none⟩ = some (.int .i64 ((rd_T128 (rd_L9 x5_3 (ji42)) (ji47)).f1))) (ds := []) #[false, false, false, false, false, false, false, false, false, false, false, false, false, false, false, false, false, false] (by kernel_rfl) rfl rfl ⟨(blk_cell BK320.out 0).trans rfl, (blk_cell BK320.out 1).trans rfl, hx334_0, ((HB.out.cell (World.block_lt_of_cell? w _ hw335_0)).trans hw335_0), hx336_0, hx336_1⟩ (fun hHeld => ?_); refine with_tabW impl_purse_table.tab14 impl_purse_table.bits14 (fun HT_ HW_ => ?_)
             generalize wc.drew = w51 at HO_5 BK320 HB HL334_0 HR334_0 HX334_0 hx334_0 hx335_0 hx336_0 hx336_1 hHeld ⊢
             refine pu_ (i := 0) (N := some 65) (v := ?_) (a' := ?_) rfl rfl (any_of HT_.out (by kernel_rfl)) (fun _ _ _ h => h) (Or.inl ⟨by rfl, ?_⟩) ?_ ?_
             rotate_left; intro w'; go_simp; with_reducible rfl; rotate_left; simp only [Act.put, sA_, sZ_, sS_, i64_w, i32_w]; rfl
             refine pu_ (i := 1) (N := some 66) (v := ?_) (a' := ?_) rfl rfl (any_of HT_.out (by kernel_rfl)) (fun _ _ _ h => h) (Or.inl ⟨by rfl, ?_⟩) ?_ ?_
             rotate_left; intro w'; go_simp; with_reducible rfl; rotate_left; simp only [Act.put, sA_, sZ_, sS_, i64_w, i32_w]; rfl
             refine pu_ (i := 2) (N := some 67) (v := ?_) (a' := ?_) rfl rfl (any_of HT_.out (by kernel_rfl)) (fun _ _ _ h => h) (Or.inl ⟨by rfl, ?_⟩) ?_ ?_
             rotate_left; intro w'; go_simp; with_reducible rfl; rotate_left; simp only [Act.put, sA_, sZ_, sS_, i64_w, i32_w]; rfl
             refine pu_ (i := 3) (N := some 68) (v := ?_) (a' := ?_) rfl rfl (any_of HT_.out (by kernel_rfl)) (fun _ _ _ h => h) (Or.inl ⟨by rfl, ?_⟩) ?_ ?_
             rotate_left; intro w'; go_simp; with_reducible rfl; rotate_left; simp only [Act.put, sA_, sZ_, sS_, i64_w, i32_w]; rfl
             refine pu_ (i := 5) (N := some 70) (v := ?_) (a' := ?_) rfl rfl (any_of HT_.out (by kernel_rfl)) (fun _ _ _ h => h) (Or.inl ⟨by rfl, ?_⟩) ?_ ?_
             rotate_left; intro w'; go_simp; with_reducible rfl; rotate_left; simp only [Act.put, sA_, sZ_, sS_, i64_w, i32_w]; rfl
             refine pu_ (i := 6) (N := some 71) (v := ?_) (a' := ?_) rfl rfl (any_of HT_.out (by kernel_rfl)) (fun _ _ _ h => h) (Or.inl ⟨by rfl, ?_⟩) ?_ ?_
             rotate_left; intro w'; go_simp; with_reducible rfl; rotate_left; simp only [Act.put, sA_, sZ_, sS_, i64_w, i32_w]; rfl
             refine pu_ (i := 7) (N := some 72) (v := ?_) (a' := ?_) rfl rfl (any_of HT_.out (by kernel_rfl)) (fun _ _ _ h => h) (Or.inl ⟨by rfl, ?_⟩) ?_ ?_
             rotate_left; intro w'; go_simp; with_reducible rfl; rotate_left; simp only [Act.put, sA_, sZ_, sS_, i64_w, i32_w]; rfl
             refine pu_ (i := 9) (N := some 74) (v := ?_) (a' := ?_) rfl rfl (any_of HT_.out (by kernel_rfl)) (fun _ _ _ h => h) (Or.inl ⟨by rfl, ?_⟩) ?_ ?_
             rotate_left; intro w'; go_simp; with_reducible rfl; rotate_left; simp only [Act.put, sA_, sZ_, sS_, i64_w, i32_w]; rfl
             refine tk_ (i := 4) (N := some 69) (v := ?_) (a' := ?_) rfl rfl (take_ofW HT_.out HW_.out (by kernel_rfl)) (fun _ _ _ h => h) (Or.inl ⟨by rfl, ?_⟩) hHeld ?_ ?_
             rotate_left; rintro w' ⟨s0, s1, s2, s3, s4, s5⟩; go_simp; with_reducible rfl; rotate_left; simp only [Act.put, sA_, sZ_, sS_, i64_w, i32_w]; rfl
             refine tk_ (i := 8) (N := some 73) (v := ?_) (a' := ?_) rfl rfl (take_ofW HT_.out HW_.out (by kernel_rfl)) (fun _ _ _ h => h) (Or.inl ⟨by rfl, ?_⟩) hHeld ?_ ?_
             rotate_left; rintro w' ⟨s0, s1, s2, s3, s4, s5⟩; go_simp; with_reducible rfl; rotate_left; simp only [Act.put, sA_, sZ_, sS_, i64_w, i32_w]; rfl
             refine pu_ (i := 10) (N := some 75) (v := ?_) (a' := ?_) rfl rfl (any_of HT_.out (by kernel_rfl)) (fun _ _ _ h => h) (Or.inl ⟨by rfl, ?_⟩) ?_ ?_
             rotate_left; intro w'; go_simp; with_reducible rfl; rotate_left; simp only [Act.put, sA_, sZ_, sS_, i64_w, i32_w]; rfl
             refine tk_ (i := 11) (N := some 76) (v := ?_) (a' := ?_) rfl rfl (take_ofW HT_.out HW_.out (by kernel_rfl)) (fun _ _ _ h => h) (Or.inl ⟨by rfl, ?_⟩) hHeld ?_ ?_
             rotate_left; rintro w' ⟨s0, s1, s2, s3, s4, s5⟩; go_simp; with_reducible rfl; rotate_left; simp only [Act.put, sA_, sZ_, sS_, i64_w, i32_w]; rfl
             refine pu_ (i := 12) (N := some 77) (v := ?_) (a' := ?_) rfl rfl (any_of HT_.out (by kernel_rfl)) (fun _ _ _ h => h) (Or.inl ⟨by rfl, ?_⟩) ?_ ?_
             rotate_left; intro w'; go_simp; with_reducible rfl; rotate_left; simp only [Act.put, sA_, sZ_, sS_, i64_w, i32_w]; rfl
             refine pu_ (i := 13) (N := some 78) (v := ?_) (a' := ?_) rfl rfl (any_of HT_.out (by kernel_rfl)) (fun _ _ _ h => h) (Or.inl ⟨by rfl, ?_⟩) ?_ ?_
             rotate_left; intro w'; go_simp; with_reducible rfl; rotate_left; simp only [Act.put, sA_, sZ_, sS_, i64_w, i32_w]; rfl
             refine pu_ (i := 14) (N := some 79) (v := ?_) (a' := ?_) rfl rfl (any_of HT_.out (by kernel_rfl)) (fun _ _ _ h => h) (Or.inl ⟨by rfl, ?_⟩) ?_ ?_
             rotate_left; intro w'; go_simp; with_reducible rfl; rotate_left; simp only [Act.put, sA_, sZ_, sS_, i64_w, i32_w]; rfl
             refine tk_ (i := 15) (N := some 80) (v := ?_) (a' := ?_) rfl rfl (take_ofW HT_.out HW_.out (by kernel_rfl)) (fun _ _ _ h => h) (Or.inl ⟨by rfl, ?_⟩) hHeld ?_ ?_
             rotate_left; rintro w' ⟨s0, s1, s2, s3, s4, s5⟩; go_simp; with_reducible rfl; rotate_left; simp only [Act.put, sA_, sZ_, sS_, i64_w, i32_w]; rfl
             refine on_ (i := 16) (N := some 9) rfl rfl (one_of HT_.out (by kernel_rfl)) (by decide) (fun K hK => ?_)
             refine box_step ?hg (N := 9) ?hd (cs := #[.int .i64 0, .int .i64 0]) (t := 128) ?hr ?_; (case hd => rfl); (case hg => rfl); (case hr => go_simp; try rfl)
             intro gb337 hg w52 hbox hb
             have HS2_ := (hb.cell (World.block_lt_of_cell? _ _ (hHeld.2.2.1))).trans (hHeld.2.2.1)
             have HS4_ := (hb.cell (World.block_lt_of_cell? _ _ (hHeld.2.2.2.2.1))).trans (hHeld.2.2.2.2.1)
             have HS5_ := (hb.cell (World.block_lt_of_cell? _ _ (hHeld.2.2.2.2.2))).trans (hHeld.2.2.2.2.2)
             replace HO_5 := Aside0.mk (Kd.S_below (Kd.S_elderB HO_5.out gb337 (Nat.le_of_eq hg.symm)) hb)
             replace HL334_0 := Aside0.mk (Kd.R_below (Kd.R_elderB HL334_0.out gb337 (Nat.le_of_eq hg.symm)) hb)
             replace HR334_0 := Aside0.mk (Kd.C_below HR334_0.out hb)
             replace HX334_0 := Aside0.mk (pw_cell_below hb HX334_0.out)
             have BK337 := Aside0.mk (hbox)
             have GW337 := Aside0.mk ((by rw [hg]; exact (below_size HB.out) : w.heap.size ≤ gb337))
             have GE337 := Aside0.mk ((by rw [hg]; exact (below_size HB.out) : w.heap.size ≤ gb337))
             replace HB := Aside0.mk (below_step HB.out hb)
             have NB320_337 := Aside0.mk ((by rw [hg]; exact Nat.ne_of_lt (blk_lt (g := gb320) (o := .cells #[.slice (some ad335) l0_0.length c0_0, .slice A0_1 l0_1.length c0_1] 118 (0, 0)) BK320.out) : gb320 ≠ gb337))
             have NB337_320 := Aside0.mk ((by rw [hg]; exact Nat.ne_of_gt (blk_lt (g := gb320) (o := .cells #[.slice (some ad335) l0_0.length c0_0, .slice A0_1 l0_1.length c0_1] 118 (0, 0)) BK320.out) : gb337 ≠ gb320))
             replace BK320 := Aside0.mk (blk_below (g := gb320) (o := .cells #[.slice (some ad335) l0_0.length c0_0, .slice A0_1 l0_1.length c0_1] 118 (0, 0)) BK320.out hb)
             clear hb hbox hg
             refine hK.out _ _ ⟨(blk_cell BK320.out 0).trans rfl, (blk_cell BK320.out 1).trans rfl, HS2_, ((HB.out.cell (World.block_lt_of_cell? w _ hw335_0)).trans hw335_0), HS4_, HS5_⟩ (fun hHeld => ?_)
             clear hK K
             refine norm_ (a' := ?_) ?_ ?_
             rotate_left
             ·show Act.put _ (some 9) _ = _
              simp only [Act.put, sA_, sZ_, sS_, i64_w, i32_w]
              rfl
             refine on_ (i := 17) (N := none) rfl rfl (one_of HT_.out (by kernel_rfl)) (by decide) (fun K hK => ?_)
             have hs53 : w52.cell? ⟨gb337, 0, none⟩ = some (.int .i64 0) := (blk_cell BK337.out 0).trans rfl
             have hfs53 := blk_frozen BK337.out 0
             have hns53_0 := NB320_337.out
             have hms53_0 := NB337_320.out
             have hs54 : w52.cell? ⟨gb337, 1, none⟩ = some (.int .i64 0) := (blk_cell BK337.out 1).trans rfl
             have hfs54 := blk_frozen BK337.out 1
             have hns54_0 := NB320_337.out
             have hms54_0 := NB337_320.out
             refine skip_ (w1 := ?_) (by rfl) rfl ?_ ?_
             rotate_left
             ·go_simp
              rfl
             refine hK.out _ _ ⟨((cell_far (p := ⟨gb337, _, none⟩) NB320_337.out _).trans (((cell_far (p := ⟨gb337, _, none⟩) NB320_337.out _).trans (hHeld.1)))), ((cell_far (p := ⟨gb337, _, none⟩) NB320_337.out _).trans (((cell_far (p := ⟨gb337, _, none⟩) NB320_337.out _).trans (hHeld.2.1)))), ((cell_far (p := ⟨gb337, _, none⟩) (by first | exact Kd.own_blk (Kd.S_away HO_5.out (fun _ hk => hk.2)) | (rw [add_block]; exact Kd.own_blk (Kd.S_away HO_5.out (fun _ hk => hk.2))) | (show (Addr.add _ _).block ≠ _; rw [add_block]; exact Kd.own_blk (Kd.S_away HO_5.out (fun _ hk => hk.2))) | (dsimp only; exact Kd.own_blk (Kd.S_away HO_5.out (fun _ hk => hk.2)))) _).trans (((cell_far (p := ⟨gb337, _, none⟩) (by first | exact Kd.own_blk (Kd.S_away HO_5.out (fun _ hk => hk.2)) | (rw [add_block]; exact Kd.own_blk (Kd.S_away HO_5.out (fun _ hk => hk.2))) | (show (Addr.add _ _).block ≠ _; rw [add_block]; exact Kd.own_blk (Kd.S_away HO_5.out (fun _ hk => hk.2))) | (dsimp only; exact Kd.own_blk (Kd.S_away HO_5.out (fun _ hk => hk.2)))) _).trans (hHeld.2.2.1)))), ((cell_far (p := ⟨gb337, _, none⟩) (by first | exact Nat.ne_of_lt (Nat.lt_of_lt_of_le (by have := World.block_lt_of_cell? _ _ hw335_0; first | rwa [add_block] at this | exact this) GW337.out) | (rw [add_block]; exact Nat.ne_of_lt (Nat.lt_of_lt_of_le (by have := World.block_lt_of_cell? _ _ hw335_0; first | rwa [add_block] at this | exact this) GW337.out)) | (show (Addr.add _ _).block ≠ _; rw [add_block]; exact Nat.ne_of_lt (Nat.lt_of_lt_of_le (by have := World.block_lt_of_cell? _ _ hw335_0; first | rwa [add_block] at this | exact this) GW337.out)) | (dsimp only; exact Nat.ne_of_lt (Nat.lt_of_lt_of_le (by have := World.block_lt_of_cell? _ _ hw335_0; first | rwa [add_block] at this | exact this) GW337.out))) _).trans (((cell_far (p := ⟨gb337, _, none⟩) (by first | exact Nat.ne_of_lt (Nat.lt_of_lt_of_le (by have := World.block_lt_of_cell? _ _ hw335_0; first | rwa [add_block] at this | exact this) GW337.out) | (rw [add_block]; exact Nat.ne_of_lt (Nat.lt_of_lt_of_le (by have := World.block_lt_of_cell? _ _ hw335_0; first | rwa [add_block] at this | exact this) GW337.out)) | (show (Addr.add _ _).block ≠ _; rw [add_block]; exact Nat.ne_of_lt (Nat.lt_of_lt_of_le (by have := World.block_lt_of_cell? _ _ hw335_0; first | rwa [add_block] at this | exact this) GW337.out)) | (dsimp only; exact Nat.ne_of_lt (Nat.lt_of_lt_of_le (by have := World.block_lt_of_cell? _ _ hw335_0; first | rwa [add_block] at this | exact this) GW337.out))) _).trans (hHeld.2.2.2.1)))), ((cell_far (p := ⟨gb337, _, none⟩) (by first | exact Kd.own_blk (Kd.R_away HL334_0.out (fun _ hk => hk.2)) | (rw [add_block]; exact Kd.own_blk (Kd.R_away HL334_0.out (fun _ hk => hk.2))) | (show (Addr.add _ _).block ≠ _; rw [add_block]; exact Kd.own_blk (Kd.R_away HL334_0.out (fun _ hk => hk.2))) | (dsimp only; exact Kd.own_blk (Kd.R_away HL334_0.out (fun _ hk => hk.2)))) _).trans (((cell_far (p := ⟨gb337, _, none⟩) (by first | exact Kd.own_blk (Kd.R_away HL334_0.out (fun _ hk => hk.2)) | (rw [add_block]; exact Kd.own_blk (Kd.R_away HL334_0.out (fun _ hk => hk.2))) | (show (Addr.add _ _).block ≠ _; rw [add_block]; exact Kd.own_blk (Kd.R_away HL334_0.out (fun _ hk => hk.2))) | (dsimp only; exact Kd.own_blk (Kd.R_away HL334_0.out (fun _ hk => hk.2)))) _).trans (hHeld.2.2.2.2.1)))), ((cell_far (p := ⟨gb337, _, none⟩) (by first | exact Kd.own_blk (Kd.R_away HL334_0.out (fun _ hk => hk.2)) | (rw [add_block]; exact Kd.own_blk (Kd.R_away HL334_0.out (fun _ hk => hk.2))) | (show (Addr.add _ _).block ≠ _; rw [add_block]; exact Kd.own_blk (Kd.R_away HL334_0.out (fun _ hk => hk.2))) | (dsimp only; exact Kd.own_blk (Kd.R_away HL334_0.out (fun _ hk => hk.2)))) _).trans (((cell_far (p := ⟨gb337, _, none⟩) (by first | exact Kd.own_blk (Kd.R_away HL334_0.out (fun _ hk => hk.2)) | (rw [add_block]; exact Kd.own_blk (Kd.R_away HL334_0.out (fun _ hk => hk.2))) | (show (Addr.add _ _).block ≠ _; rw [add_block]; exact Kd.own_blk (Kd.R_away HL334_0.out (fun _ hk => hk.2))) | (dsimp only; exact Kd.own_blk (Kd.R_away HL334_0.out (fun _ hk => hk.2)))) _).trans (hHeld.2.2.2.2.2))))⟩ (fun hHeld => ?_)
             clear hK K
             refine done_ (done_of HT_.out (by kernel_rfl)) ?_
             by_cases c50 : ((rd_T128 (rd_L9 x5_3 (ji42)) (ji47)).f0) = 0
             ·rw [if_pos c50] at H
              have c50b0 : (((rd_T128 (rd_L9 x5_3 (ji42)) (ji47)).f0) == 0) = true := beq_iff_eq.mpr c50
              have c50b1 : (((rd_T128 (rd_L9 x5_3 (ji42)) (ji47)).f0) != 0) = false := bne_eq_false_iff_eq.mpr c50
              clear c50
              have H' := Aside0.mk H
              clear H
              have hnb55 := NB337_320.out
              have hnc55 := NB320_337.out
              have hcz56_0 : w52.cell? ⟨gb337, 0, none⟩ = some (.int .i64 0) := (blk_cell BK337.out 0).trans rfl
              have hcz56_1 : w52.cell? ⟨gb337, 1, none⟩ = some (.int .i64 0) := (blk_cell BK337.out 1).trans rfl
              have hfz56_0 := blk_frozen BK337.out 0
              have hfz56_1 := blk_frozen BK337.out 1
              try go_wp2
              (try simp only [← hl5_3])
              go_roundg kj33
              case measure => have := HK1.out; have := HK2.out; have := HK3.out; have := HJ33.out; omega
              case rel => exact ⟨(x5_3), (wrap64 (x8_3 + 1)), (by first | rfl | (simp; done) | (simp [*]; done)), H', ⟨by have := HK1.out; have := HK2.out; have := HK3.out; have := HJ33.out; omega⟩, ⟨by (try simp only [hl5_2]); (try simp only [hl5_3]); (with_reducible repeat (first | apply Kd.S_alloc | apply Kd.S_drewN | apply Kd.S_drew)); exact Kd.S_mono (Kd.S_far (p := ⟨gb337, 1, none⟩) (Kd.S_far (p := ⟨gb337, 0, none⟩) (Kd.S_mono HO_5.out (fun k_ hk => (⟨hk, hk.2⟩ : _ ∧ k_ ≠ gb337))) (fun _ hk => hk.2) (.int .i64 ((rd_T128 (rd_L9 x5_3 (ji42)) (ji47)).f0))) (fun _ hk => hk.2) (.int .i64 ((rd_T128 (rd_L9 x5_3 (ji42)) (ji47)).f1))) (fun _ hk => trivial)⟩, ⟨by (try simp only [hl5_2]); (try simp only [hl5_3]); (with_reducible repeat (first | refine blk_drewN ?_ _ | refine blk_drew ?_ | refine blk_alloc ?_ _)); refine blk_far ?_ NB320_337.out _; (with_reducible repeat (first | refine blk_drewN ?_ _ | refine blk_drew ?_ | refine blk_alloc ?_ _)); refine blk_far ?_ NB320_337.out _; (with_reducible repeat (first | refine blk_drewN ?_ _ | refine blk_drew ?_ | refine blk_alloc ?_ _)); exact BK320.out⟩, ⟨by repeat (first | (with_reducible first | exact HB.out | apply below_alloc | apply pw_below_drewN | apply below_drew1 | refine below_set ?_ GE320.out | refine below_set ?_ GE337.out) | exact HB.out)⟩⟩
             ·rw [if_neg c50] at H
              have c50b0 : (((rd_T128 (rd_L9 x5_3 (ji42)) (ji47)).f0) == 0) = false := beq_eq_false_iff_ne.mpr c50
              have c50b1 : (((rd_T128 (rd_L9 x5_3 (ji42)) (ji47)).f0) != 0) = true := bne_iff_ne.mpr c50
              by_cases c57 : x6_1 < (x5_3.length : Int)
              rotate_left
              ·rw [if_neg c57] at H; exact absurd H (by simp)
              rw [if_pos c57] at H
              have c57b0 : decide (x6_1 < (x5_3.length : Int)) = true := decide_eq_true c57
              clear c57
              by_cases c58 : 0 ≤ x42_2
              rotate_left
              ·rw [if_neg c58] at H; exact absurd H (by simp)
              rw [if_pos c58] at H
              have c58b0 : decide (0 ≤ x42_2) = true := decide_eq_true c58
              clear c58
              by_cases c59 : x42_2 < ((rd_L9 x5_3 x6_1).length : Int)
              rotate_left
              ·rw [if_neg c59] at H; exact absurd H (by simp)
              rw [if_pos c59] at H
              have c59b0 : decide (x42_2 < ((rd_L9 x5_3 x6_1).length : Int)) = true := decide_eq_true c59
              clear c59
              have n0_ : Aside0 (Kd.S (Kd.slice 128 k128) 129 ((w52.setCell ⟨gb337, 0, none⟩ (.int .i64 ((rd_T128 (rd_L9 x5_3 (ji42)) (ji47)).f0))).setCell ⟨gb337, 1, none⟩ (.int .i64 ((rd_T128 (rd_L9 x5_3 (ji42)) (ji47)).f1))) w.heap.size (fun k_ => k_ ≠ gb337) (.slice (some ⟨go17, 0, none⟩) x5_3.length co17) x5_3) := ⟨by (with_reducible repeat (first | apply Kd.S_alloc | apply Kd.S_drewN | apply Kd.S_drew)); exact Kd.S_mono (Kd.S_far (p := ⟨gb337, 1, none⟩) (Kd.S_far (p := ⟨gb337, 0, none⟩) (Kd.S_mono HO_5.out (fun k_ hk => (⟨hk, hk.2⟩ : _ ∧ k_ ≠ gb337))) (fun _ hk => hk.2) (.int .i64 ((rd_T128 (rd_L9 x5_3 (ji42)) (ji47)).f0))) (fun _ hk => hk.2) (.int .i64 ((rd_T128 (rd_L9 x5_3 (ji42)) (ji47)).f1))) (fun _ hk => hk.1.2)⟩
              have n1_ : Aside0 (Kd.R k128 128 ((w52.setCell ⟨gb337, 0, none⟩ (.int .i64 ((rd_T128 (rd_L9 x5_3 (ji42)) (ji47)).f0))).setCell ⟨gb337, 1, none⟩ (.int .i64 ((rd_T128 (rd_L9 x5_3 (ji42)) (ji47)).f1))) w.heap.size (fun k_ => some k_ ≠ (.slice (some ⟨go17, 0, none⟩) x5_3.length co17 : Value).ownBlock ∧ k_ ≠ gb337) (.slice (some ad336) (rd_L9 x5_3 (ji42)).length c334_0) (rd_L9 x5_3 (ji42))) := ⟨by (with_reducible repeat (first | apply Kd.R_alloc | apply Kd.R_drewN | apply Kd.R_drew)); exact Kd.R_mono (Kd.R_far (p := ⟨gb337, 1, none⟩) (Kd.R_far (p := ⟨gb337, 0, none⟩) (Kd.R_mono HL334_0.out (fun k_ hk => (⟨hk, hk.2⟩ : _ ∧ k_ ≠ gb337))) (fun _ hk => hk.2) (.int .i64 ((rd_T128 (rd_L9 x5_3 (ji42)) (ji47)).f0))) (fun _ hk => hk.2) (.int .i64 ((rd_T128 (rd_L9 x5_3 (ji42)) (ji47)).f1))) (fun _ hk => ⟨hk.1.1.2, hk.1.2⟩)⟩
              have n2_ : Aside0 (((w52.setCell ⟨gb337, 0, none⟩ (.int .i64 ((rd_T128 (rd_L9 x5_3 (ji42)) (ji47)).f0))).setCell ⟨gb337, 1, none⟩ (.int .i64 ((rd_T128 (rd_L9 x5_3 (ji42)) (ji47)).f1))).heap[gb320]? = some (.cells #[.slice (some ad335) l0_0.length c0_0, .slice A0_1 l0_1.length c0_1] 118 (0, 0))) := ⟨by (with_reducible repeat (first | refine blk_drewN ?_ _ | refine blk_drew ?_ | refine blk_alloc ?_ _)); refine blk_far ?_ NB320_337.out _; (with_reducible repeat (first | refine blk_drewN ?_ _ | refine blk_drew ?_ | refine blk_alloc ?_ _)); refine blk_far ?_ NB320_337.out _; (with_reducible repeat (first | refine blk_drewN ?_ _ | refine blk_drew ?_ | refine blk_alloc ?_ _)); exact BK320.out⟩
              have n3_ : Aside0 (((w52.setCell ⟨gb337, 0, none⟩ (.int .i64 ((rd_T128 (rd_L9 x5_3 (ji42)) (ji47)).f0))).setCell ⟨gb337, 1, none⟩ (.int .i64 ((rd_T128 (rd_L9 x5_3 (ji42)) (ji47)).f1))).heap[gb337]? = some (.cells #[.int .i64 ((rd_T128 (rd_L9 x5_3 (ji42)) (ji47)).f0), .int .i64 ((rd_T128 (rd_L9 x5_3 (ji42)) (ji47)).f1)] 128 (0, 0))) := ⟨by (with_reducible repeat (first | refine blk_drewN ?_ _ | refine blk_drew ?_ | refine blk_alloc ?_ _)); refine blk_put (cs := #[.int .i64 ((rd_T128 (rd_L9 x5_3 (ji42)) (ji47)).f0), .int .i64 0]) ?_ 1 _ rfl; (with_reducible repeat (first | refine blk_drewN ?_ _ | refine blk_drew ?_ | refine blk_alloc ?_ _)); refine blk_put (cs := #[.int .i64 0, .int .i64 0]) ?_ 0 _ rfl; (with_reducible repeat (first | refine blk_drewN ?_ _ | refine blk_drew ?_ | refine blk_alloc ?_ _)); exact BK337.out⟩
              have n4_ : Aside0 (Below w.heap.size w ((w52.setCell ⟨gb337, 0, none⟩ (.int .i64 ((rd_T128 (rd_L9 x5_3 (ji42)) (ji47)).f0))).setCell ⟨gb337, 1, none⟩ (.int .i64 ((rd_T128 (rd_L9 x5_3 (ji42)) (ji47)).f1)))) := ⟨by repeat (first | (with_reducible first | exact HB.out | apply below_alloc | apply pw_below_drewN | apply below_drew1 | refine below_set ?_ GE320.out | refine below_set ?_ GE337.out) | exact HB.out)⟩
              (try clear HO_5)
              (try clear HL334_0)
              (try clear BK320)
              (try clear BK337)
              (try clear HB)
              generalize ((w52.setCell ⟨gb337, 0, none⟩ (.int .i64 ((rd_T128 (rd_L9 x5_3 (ji42)) (ji47)).f0))).setCell ⟨gb337, 1, none⟩ (.int .i64 ((rd_T128 (rd_L9 x5_3 (ji42)) (ji47)).f1))) = w68 at n0_ n1_ n2_ n3_ n4_ ⊢
              have HO_5 := n0_
              have HL334_0 := n1_
              have BK320 := n2_
              have BK337 := n3_
              have HB := n4_
              clear n0_ n1_ n2_ n3_ n4_
              have hnb69 := NB337_320.out
              have hnc69 := NB320_337.out
              have hcz70_0 : w68.cell? ⟨gb337, 0, none⟩ = some (.int .i64 ((rd_T128 (rd_L9 x5_3 (ji42)) (ji47)).f0)) := (blk_cell BK337.out 0).trans rfl
              have hcz70_1 : w68.cell? ⟨gb337, 1, none⟩ = some (.int .i64 ((rd_T128 (rd_L9 x5_3 (ji42)) (ji47)).f1)) := (blk_cell BK337.out 1).trans rfl
              have hfz70_0 := blk_frozen BK337.out 0
              have hfz70_1 := blk_frozen BK337.out 1
              have p338 : 0 ≤ (x6_1 : Int) := of_decide_eq_true (by assumption)
              have q338 : x6_1 < (x5_3.length : Int) := of_decide_eq_true (by assumption)
              obtain ⟨ad338, A338_0, c338_0, e338, hx338_0, hl338_0, hi338_0⟩ := at_L9 (Kd.S_reads' HO_5.out).2.2 x6_1 p338 q338
              obtain rfl : (⟨go17, 0, none⟩ : Addr) = ad338 := (by injection e338)
              obtain ⟨ce338, hce338, hMe338, hcc338⟩ := Kd.S_get HO_5.out [] x6_1 p338 (by first | exact q338 | exact of_decide_eq_true (by assumption) | (have e_ := (Kd.S_reads' HO_5.out).1; omega))
              obtain ⟨ve338_0, rfl, ge338_0⟩ := hMe338
              have hv338_0 := hcc338 0 _ rfl
              rw [Nat.add_zero, show ((Kd.slice 128 k128)).sz = 1 from rfl, Nat.mul_one] at hv338_0
              replace hv338_0 := Option.some.inj (hv338_0.symm.trans hx338_0)
              rw [hv338_0] at ge338_0
              have HL338_0 := Aside0.mk (show Kd.R k128 128 _ _ _ _ (rd_L9 x5_3 x6_1) from ge338_0)
              clear hv338_0 ge338_0
              have HX338_0 := Aside0.mk hx338_0
              clear hcc338 hce338
              (first | simp only [add_plain] at hx338_0 | simp only [add_at] at hx338_0 | simp only [Addr.add, Nat.zero_add] at hx338_0 | skip)
              have HR338_0 := Aside0.mk hi338_0
              have HC338_0 := Aside0.mk hl338_0
              clear hi338_0 hl338_0
              replace p338 := eq_true p338
              replace q338 := eq_true q338
              have p339 : 0 ≤ (x42_2 : Int) := of_decide_eq_true (by assumption)
              have q339 : x42_2 < ((rd_L9 x5_3 x6_1).length : Int) := of_decide_eq_true (by assumption)
              obtain ⟨ad339, e339, hx339_0, hx339_1⟩ := at_T128 HR338_0.out x42_2 p339 q339
              cases e339
              replace p339 := eq_true p339
              replace q339 := eq_true q339
              by_cases c60 : ((rd_T128 (rd_L9 x5_3 x6_1) x42_2).f0) = 0
              ·rw [if_pos c60] at H
               have c60b0 : (((rd_T128 (rd_L9 x5_3 x6_1) x42_2).f0) == 0) = true := beq_iff_eq.mpr c60
               have c60b1 : (((rd_T128 (rd_L9 x5_3 x6_1) x42_2).f0) != 0) = false := bne_eq_false_iff_eq.mpr c60
               clear c60
               obtain ⟨y342, hy342⟩ : ∃ y_ : List (S128), y_ = ((rd_L9 x5_3 x6_1).set (x42_2 : Int).toNat (⟨(rd_T128 (rd_L9 x5_3 x6_1) x42_2).f0, wrap64 (((rd_T128 (rd_L9 x5_3 (ji42)) (ji47)).f1) + x8_3)⟩ : S128)) := ⟨_, rfl⟩
               replace H : ((some (x5_3.set (x6_1 : Int).toNat y342 : List (List (S128)))).bind fun y344 => (if x42_2 < ((rd_L9 y344 x6_1).length : Int) then (impl_purse_table.l2 kj33 a1 (y344.set (x6_1 : Int).toNat ((rd_L9 y344 x6_1).set (x42_2 : Int).toNat (⟨wrap64 (((rd_T128 (rd_L9 y344 x6_1) x42_2).f0) + ((rd_T128 (rd_L9 x5_3 (ji42)) (ji47)).f0)), (rd_T128 (rd_L9 y344 x6_1) x42_2).f1⟩ : S128))) x6_1 x42_2 (wrap64 (x8_3 + 1)) ji12 x42_2 l0_0 l0_1) else (none))) = some r := by rw [hy342]; exact H
               have Ny342 := Aside0.mk hy342
               clear hy342
               obtain ⟨y344, hy344⟩ : ∃ y_ : List (List (S128)), y_ = (x5_3.set (x6_1 : Int).toNat y342) := ⟨_, rfl⟩
               replace H : (if x42_2 < ((rd_L9 y344 x6_1).length : Int) then (impl_purse_table.l2 kj33 a1 (y344.set (x6_1 : Int).toNat ((rd_L9 y344 x6_1).set (x42_2 : Int).toNat (⟨wrap64 (((rd_T128 (rd_L9 y344 x6_1) x42_2).f0) + ((rd_T128 (rd_L9 x5_3 (ji42)) (ji47)).f0)), (rd_T128 (rd_L9 y344 x6_1) x42_2).f1⟩ : S128))) x6_1 x42_2 (wrap64 (x8_3 + 1)) ji12 x42_2 l0_0 l0_1) else (none)) = some r := by rw [hy344]; exact H
               have Ny344 := Aside0.mk hy344
               clear hy344
               by_cases c62 : x42_2 < ((rd_L9 y344 x6_1).length : Int)
               rotate_left
               ·rw [if_neg c62] at H; exact absurd H (by simp)
               rw [if_pos c62] at H
               have c62b0 : decide (x42_2 < ((rd_L9 y344 x6_1).length : Int)) = true := decide_eq_true c62
               clear c62
               obtain ⟨y347, hy347⟩ : ∃ y_ : List (S128), y_ = ((rd_L9 y344 x6_1).set (x42_2 : Int).toNat (⟨wrap64 (((rd_T128 (rd_L9 y344 x6_1) x42_2).f0) + ((rd_T128 (rd_L9 x5_3 (ji42)) (ji47)).f0)), (rd_T128 (rd_L9 y344 x6_1) x42_2).f1⟩ : S128)) := ⟨_, rfl⟩
               replace H : (impl_purse_table.l2 kj33 a1 (y344.set (x6_1 : Int).toNat y347) x6_1 x42_2 (wrap64 (x8_3 + 1)) ji12 x42_2 l0_0 l0_1) = some r := by rw [hy347]; exact H
               have Ny347 := Aside0.mk hy347
               clear hy347
               obtain ⟨y349, hy349⟩ : ∃ y_ : List (List (S128)), y_ = (y344.set (x6_1 : Int).toNat y347) := ⟨_, rfl⟩
               replace H : (impl_purse_table.l2 kj33 a1 y349 x6_1 x42_2 (wrap64 (x8_3 + 1)) ji12 x42_2 l0_0 l0_1) = some r := by rw [hy349]; exact H
               have Ny349 := Aside0.mk hy349
               clear hy349
               have H' := Aside0.mk H
               clear H
               try go_wp2_with (first | ((with_reducible refine gate_dst (N := 10) rfl ?_); refine box_event ?hg (N := 10) ?hd (cs := #[.int .i64 0, .int .i64 0]) (t := 128) ?hr ?_; (case hd => rfl); (case hg => rfl); (case hr => go_simp; try rfl); intro gb340 hg w71 hbox hb; replace HO_5 := Aside0.mk (Kd.S_below (Kd.S_elderB HO_5.out gb340 (Nat.le_of_eq hg.symm)) hb); replace HL334_0 := Aside0.mk (Kd.R_below (Kd.R_elderB HL334_0.out gb340 (Nat.le_of_eq hg.symm)) hb); replace HL338_0 := Aside0.mk (Kd.R_below (Kd.R_elderB HL338_0.out gb340 (Nat.le_of_eq hg.symm)) hb); replace HR338_0 := Aside0.mk (Kd.C_below HR338_0.out hb); replace HX338_0 := Aside0.mk (pw_cell_below hb HX338_0.out); have BK340 := Aside0.mk (hbox); have GW340 := Aside0.mk ((by rw [hg]; exact (below_size HB.out) : w.heap.size ≤ gb340)); have GE340 := Aside0.mk ((by rw [hg]; exact (below_size HB.out) : w.heap.size ≤ gb340)); replace HB := Aside0.mk (below_step HB.out hb); have NB320_340 := Aside0.mk ((by rw [hg]; exact Nat.ne_of_lt (blk_lt (g := gb320) (o := .cells #[.slice (some ad335) l0_0.length c0_0, .slice A0_1 l0_1.length c0_1] 118 (0, 0)) BK320.out) : gb320 ≠ gb340)); have NB340_320 := Aside0.mk ((by rw [hg]; exact Nat.ne_of_gt (blk_lt (g := gb320) (o := .cells #[.slice (some ad335) l0_0.length c0_0, .slice A0_1 l0_1.length c0_1] 118 (0, 0)) BK320.out) : gb340 ≠ gb320)); replace BK320 := Aside0.mk (blk_below (g := gb320) (o := .cells #[.slice (some ad335) l0_0.length c0_0, .slice A0_1 l0_1.length c0_1] 118 (0, 0)) BK320.out hb); have NB337_340 := Aside0.mk ((by rw [hg]; exact Nat.ne_of_lt (blk_lt (g := gb337) (o := .cells #[.int .i64 ((rd_T128 (rd_L9 x5_3 (ji42)) (ji47)).f0), .int .i64 ((rd_T128 (rd_L9 x5_3 (ji42)) (ji47)).f1)] 128 (0, 0)) BK337.out) : gb337 ≠ gb340)); have NB340_337 := Aside0.mk ((by rw [hg]; exact Nat.ne_of_gt (blk_lt (g := gb337) (o := .cells #[.int .i64 ((rd_T128 (rd_L9 x5_3 (ji42)) (ji47)).f0), .int .i64 ((rd_T128 (rd_L9 x5_3 (ji42)) (ji47)).f1)] 128 (0, 0)) BK337.out) : gb340 ≠ gb337)); replace BK337 := Aside0.mk (blk_below (g := gb337) (o := .cells #[.int .i64 ((rd_T128 (rd_L9 x5_3 (ji42)) (ji47)).f0), .int .i64 ((rd_T128 (rd_L9 x5_3 (ji42)) (ji47)).f1)] 128 (0, 0)) BK337.out hb); clear hb hbox hg; have hnb72 := NB340_320.out; have hnc72 := NB320_340.out; have hnb73 := NB340_337.out; have hnc73 := NB337_340.out; have hcz74_0 : w71.cell? ⟨gb340, 0, none⟩ = some (.int .i64 0) := (blk_cell BK340.out 0).trans rfl; have hcz74_1 : w71.cell? ⟨gb340, 1, none⟩ = some (.int .i64 0) := (blk_cell BK340.out 1).trans rfl; have hfz74_0 := blk_frozen BK340.out 0; have hfz74_1 := blk_frozen BK340.out 1))
               have n0_ : Aside0 (Kd.S (Kd.slice 128 k128) 129 ((w71.setCell ⟨gb340, 0, none⟩ (.int .i64 ((rd_T128 (rd_L9 x5_3 x6_1) x42_2).f0))).setCell ⟨gb340, 1, none⟩ (.int .i64 ((rd_T128 (rd_L9 x5_3 x6_1) x42_2).f1))) w.heap.size (fun k_ => k_ ≠ gb337 ∧ k_ ≠ gb340) (.slice (some ⟨go17, 0, none⟩) x5_3.length co17) x5_3) := ⟨by (with_reducible repeat (first | apply Kd.S_alloc | apply Kd.S_drewN | apply Kd.S_drew)); exact Kd.S_mono (Kd.S_far (p := ⟨gb340, 1, none⟩) (Kd.S_far (p := ⟨gb340, 0, none⟩) (Kd.S_mono HO_5.out (fun k_ hk => (⟨hk, hk.2⟩ : _ ∧ k_ ≠ gb340))) (fun _ hk => hk.2) (.int .i64 ((rd_T128 (rd_L9 x5_3 x6_1) x42_2).f0))) (fun _ hk => hk.2) (.int .i64 ((rd_T128 (rd_L9 x5_3 x6_1) x42_2).f1))) (fun _ hk => ⟨hk.1.1, hk.1.2⟩)⟩
               have n1_ : Aside0 (Kd.R k128 128 ((w71.setCell ⟨gb340, 0, none⟩ (.int .i64 ((rd_T128 (rd_L9 x5_3 x6_1) x42_2).f0))).setCell ⟨gb340, 1, none⟩ (.int .i64 ((rd_T128 (rd_L9 x5_3 x6_1) x42_2).f1))) w.heap.size (fun k_ => some k_ ≠ (.slice (some ⟨go17, 0, none⟩) x5_3.length co17 : Value).ownBlock ∧ k_ ≠ gb337 ∧ k_ ≠ gb340) (.slice (some ad336) (rd_L9 x5_3 (ji42)).length c334_0) (rd_L9 x5_3 (ji42))) := ⟨by (with_reducible repeat (first | apply Kd.R_alloc | apply Kd.R_drewN | apply Kd.R_drew)); exact Kd.R_mono (Kd.R_far (p := ⟨gb340, 1, none⟩) (Kd.R_far (p := ⟨gb340, 0, none⟩) (Kd.R_mono HL334_0.out (fun k_ hk => (⟨hk, hk.2⟩ : _ ∧ k_ ≠ gb340))) (fun _ hk => hk.2) (.int .i64 ((rd_T128 (rd_L9 x5_3 x6_1) x42_2).f0))) (fun _ hk => hk.2) (.int .i64 ((rd_T128 (rd_L9 x5_3 x6_1) x42_2).f1))) (fun _ hk => ⟨hk.1.1.1, ⟨hk.1.1.2, hk.1.2⟩⟩)⟩
               have n2_ : Aside0 (Kd.R k128 128 ((w71.setCell ⟨gb340, 0, none⟩ (.int .i64 ((rd_T128 (rd_L9 x5_3 x6_1) x42_2).f0))).setCell ⟨gb340, 1, none⟩ (.int .i64 ((rd_T128 (rd_L9 x5_3 x6_1) x42_2).f1))) w.heap.size (fun k_ => some k_ ≠ (.slice (some ⟨go17, 0, none⟩) x5_3.length co17 : Value).ownBlock ∧ k_ ≠ gb337 ∧ k_ ≠ gb340) (.slice (some ad339) (rd_L9 x5_3 x6_1).length c338_0) (rd_L9 x5_3 x6_1)) := ⟨by (with_reducible repeat (first | apply Kd.R_alloc | apply Kd.R_drewN | apply Kd.R_drew)); exact Kd.R_mono (Kd.R_far (p := ⟨gb340, 1, none⟩) (Kd.R_far (p := ⟨gb340, 0, none⟩) (Kd.R_mono HL338_0.out (fun k_ hk => (⟨hk, hk.2⟩ : _ ∧ k_ ≠ gb340))) (fun _ hk => hk.2) (.int .i64 ((rd_T128 (rd_L9 x5_3 x6_1) x42_2).f0))) (fun _ hk => hk.2) (.int .i64 ((rd_T128 (rd_L9 x5_3 x6_1) x42_2).f1))) (fun _ hk => ⟨hk.1.1.2, ⟨hk.1.1.1, hk.1.2⟩⟩)⟩
               have n3_ : Aside0 (((w71.setCell ⟨gb340, 0, none⟩ (.int .i64 ((rd_T128 (rd_L9 x5_3 x6_1) x42_2).f0))).setCell ⟨gb340, 1, none⟩ (.int .i64 ((rd_T128 (rd_L9 x5_3 x6_1) x42_2).f1))).heap[gb320]? = some (.cells #[.slice (some ad335) l0_0.length c0_0, .slice A0_1 l0_1.length c0_1] 118 (0, 0))) := ⟨by (with_reducible repeat (first | refine blk_drewN ?_ _ | refine blk_drew ?_ | refine blk_alloc ?_ _)); refine blk_far ?_ NB320_340.out _; (with_reducible repeat (first | refine blk_drewN ?_ _ | refine blk_drew ?_ | refine blk_alloc ?_ _)); refine blk_far ?_ NB320_340.out _; (with_reducible repeat (first | refine blk_drewN ?_ _ | refine blk_drew ?_ | refine blk_alloc ?_ _)); exact BK320.out⟩
               have n4_ : Aside0 (((w71.setCell ⟨gb340, 0, none⟩ (.int .i64 ((rd_T128 (rd_L9 x5_3 x6_1) x42_2).f0))).setCell ⟨gb340, 1, none⟩ (.int .i64 ((rd_T128 (rd_L9 x5_3 x6_1) x42_2).f1))).heap[gb337]? = some (.cells #[.int .i64 ((rd_T128 (rd_L9 x5_3 (ji42)) (ji47)).f0), .int .i64 ((rd_T128 (rd_L9 x5_3 (ji42)) (ji47)).f1)] 128 (0, 0))) := ⟨by (with_reducible repeat (first | refine blk_drewN ?_ _ | refine blk_drew ?_ | refine blk_alloc ?_ _)); refine blk_far ?_ NB337_340.out _; (with_reducible repeat (first | refine blk_drewN ?_ _ | refine blk_drew ?_ | refine blk_alloc ?_ _)); refine blk_far ?_ NB337_340.out _; (with_reducible repeat (first | refine blk_drewN ?_ _ | refine blk_drew ?_ | refine blk_alloc ?_ _)); exact BK337.out⟩
               have n5_ : Aside0 (((w71.setCell ⟨gb340, 0, none⟩ (.int .i64 ((rd_T128 (rd_L9 x5_3 x6_1) x42_2).f0))).setCell ⟨gb340, 1, none⟩ (.int .i64 ((rd_T128 (rd_L9 x5_3 x6_1) x42_2).f1))).heap[gb340]? = some (.cells #[.int .i64 ((rd_T128 (rd_L9 x5_3 x6_1) x42_2).f0), .int .i64 ((rd_T128 (rd_L9 x5_3 x6_1) x42_2).f1)] 128 (0, 0))) := ⟨by (with_reducible repeat (first | refine blk_drewN ?_ _ | refine blk_drew ?_ | refine blk_alloc ?_ _)); refine blk_put (cs := #[.int .i64 ((rd_T128 (rd_L9 x5_3 x6_1) x42_2).f0), .int .i64 0]) ?_ 1 _ rfl; (with_reducible repeat (first | refine blk_drewN ?_ _ | refine blk_drew ?_ | refine blk_alloc ?_ _)); refine blk_put (cs := #[.int .i64 0, .int .i64 0]) ?_ 0 _ rfl; (with_reducible repeat (first | refine blk_drewN ?_ _ | refine blk_drew ?_ | refine blk_alloc ?_ _)); exact BK340.out⟩
               have n6_ : Aside0 (Below w.heap.size w ((w71.setCell ⟨gb340, 0, none⟩ (.int .i64 ((rd_T128 (rd_L9 x5_3 x6_1) x42_2).f0))).setCell ⟨gb340, 1, none⟩ (.int .i64 ((rd_T128 (rd_L9 x5_3 x6_1) x42_2).f1)))) := ⟨by repeat (first | (with_reducible first | exact HB.out | apply below_alloc | apply pw_below_drewN | apply below_drew1 | refine below_set ?_ GE320.out | refine below_set ?_ GE337.out | refine below_set ?_ GE340.out) | exact HB.out)⟩
               (try clear HO_5)
               (try clear HL334_0)
               (try clear HL338_0)
               (try clear BK320)
               (try clear BK337)
               (try clear BK340)
               (try clear HB)
               generalize ((w71.setCell ⟨gb340, 0, none⟩ (.int .i64 ((rd_T128 (rd_L9 x5_3 x6_1) x42_2).f0))).setCell ⟨gb340, 1, none⟩ (.int .i64 ((rd_T128 (rd_L9 x5_3 x6_1) x42_2).f1))) = w75 at n0_ n1_ n2_ n3_ n4_ n5_ n6_ ⊢
               have HO_5 := n0_
               have HL334_0 := n1_
               have HL338_0 := n2_
               have BK320 := n3_
               have BK337 := n4_
               have BK340 := n5_
               have HB := n6_
               clear n0_ n1_ n2_ n3_ n4_ n5_ n6_
               replace HO_5 := Aside0.mk (Kd.S_drew HO_5.out)
               replace HL334_0 := Aside0.mk (Kd.R_drew HL334_0.out)
               replace HL338_0 := Aside0.mk (Kd.R_drew HL338_0.out)
               replace BK320 := Aside0.mk (blk_drew BK320.out)
               replace BK337 := Aside0.mk (blk_drew BK337.out)
               replace BK340 := Aside0.mk (blk_drew BK340.out)
               replace HB := Aside0.mk (below_drew1 HB.out)
               have p341 : 0 ≤ (x6_1 : Int) := of_decide_eq_true (by assumption)
               have q341 : x6_1 < (x5_3.length : Int) := of_decide_eq_true (by assumption)
               obtain ⟨ad341, A341_0, c341_0, e341, hx341_0, hl341_0, hi341_0⟩ := at_L9 (Kd.S_reads' HO_5.out).2.2 x6_1 p341 q341
               obtain rfl : (⟨go17, 0, none⟩ : Addr) = ad341 := (by injection e341)
               obtain ⟨ce341, hce341, hMe341, hcc341⟩ := Kd.S_get HO_5.out [] x6_1 p341 (by first | exact q341 | exact of_decide_eq_true (by assumption) | (have e_ := (Kd.S_reads' HO_5.out).1; omega))
               obtain ⟨ve341_0, rfl, ge341_0⟩ := hMe341
               have hv341_0 := hcc341 0 _ rfl
               rw [Nat.add_zero, show ((Kd.slice 128 k128)).sz = 1 from rfl, Nat.mul_one] at hv341_0
               replace hv341_0 := Option.some.inj (hv341_0.symm.trans hx341_0)
               rw [hv341_0] at ge341_0
               have HL341_0 := Aside0.mk (show Kd.R k128 128 _ _ _ _ (rd_L9 x5_3 x6_1) from ge341_0)
               clear hv341_0 ge341_0
               have HX341_0 := Aside0.mk hx341_0
               clear hcc341 hce341
               (first | simp only [add_plain] at hx341_0 | simp only [add_at] at hx341_0 | simp only [Addr.add, Nat.zero_add] at hx341_0 | skip)
               have HR341_0 := Aside0.mk hi341_0
               have HC341_0 := Aside0.mk hl341_0
               clear hi341_0 hl341_0
               replace p341 := eq_true p341
               replace q341 := eq_true q341
               have p61 : 0 ≤ (x42_2 : Int) := of_decide_eq_true (by assumption)
               have q61 : (x42_2 : Int) < (((rd_L9 x5_3 x6_1).length : Int) : Int) := of_decide_eq_true (by assumption)
               obtain ⟨go61, co61, eo61, gb61, gl61, cl61, HG61⟩ := Kd.R_form HL341_0.out (by omega)
               (first | cases eo61 | (injection eo61 with ea_ en_ ec_; (first | subst ea_ | (injection ea_ with ea_; subst ea_)); subst ec_; clear en_))
               have GB61 := Aside0.mk gb61
               have GG61 := Aside0.mk HG61
               clear gb61 gl61 HG61
               obtain ⟨ce61, hcl61, hM61, hcc61, hfr61⟩ := Kd.R_elem HL341_0.out z128 (x42_2 : Int) p61 q61
               obtain rfl := k128_openM hM61
               have hx61_0 : World.cell? _ ⟨go61, (x42_2 : Int).toNat * 2, none⟩ = some (.int .i64 ((rd_T128 (rd_L9 x5_3 x6_1) x42_2).f0)) := hcc61 0 _ rfl
               have hx61_1 : World.cell? _ ⟨go61, (x42_2 : Int).toNat * 2 + 1, none⟩ = some (.int .i64 ((rd_T128 (rd_L9 x5_3 x6_1) x42_2).f1)) := hcc61 1 _ rfl
               have hf61_0 : World.frozen? _ ⟨go61, (x42_2 : Int).toNat * 2, none⟩ = false := hfr61 0
               have hf61_1 : World.frozen? _ ⟨go61, (x42_2 : Int).toNat * 2 + 1, none⟩ = false := hfr61 1
               clear hcl61 hcc61 hfr61 ; (try clear hM61)
               replace p61 := eq_true p61
               replace q61 := eq_true q61
               have hq77 : (x6_1 : Int) < (x5_3.length : Int) := (of_decide_eq_true (by assumption))
               obtain ⟨oki77, ce77, hcl77, hM77, hcc77, hok77, hbk77⟩ := Kd.S_borrow HO_5.out [] (x6_1 : Int) (of_decide_eq_true (by assumption)) hq77
               obtain ⟨ve77_0, rfl, ge77_0⟩ := hM77
               have hv77 := hcc77 0 _ rfl
               rw [Nat.add_zero, show ((Kd.slice 128 k128)).sz = 1 from rfl, Nat.mul_one] at hv77
               replace hv77 := Option.some.inj (hv77.symm.trans HX341_0.out)
               subst hv77
               clear hcc77 hcl77
               replace ge77_0 := (show Kd.R k128 128 _ _ _ _ (rd_L9 x5_3 x6_1) from ge77_0)
               obtain ⟨cf77, hcl77, hN77, hcc77, hfr77⟩ := Kd.R_elem ge77_0 z128 (x42_2 : Int) (of_decide_eq_true (by assumption)) (of_decide_eq_true (by assumption))
               obtain rfl := k128_openM hN77
               have HP77 := Kd.R_seg ge77_0 (x42_2 : Int) (of_decide_eq_true (by assumption)) (of_decide_eq_true (by assumption)) (seg := [.int .i64 (wrap64 (((rd_T128 (rd_L9 x5_3 (ji42)) (ji47)).f1) + x8_3))]) (j := 1) hcl77 hcc77 (show 2 ≤ 2 from by decide) (x' := (⟨(rd_T128 (rd_L9 x5_3 x6_1) x42_2).f0, wrap64 (((rd_T128 (rd_L9 x5_3 (ji42)) (ji47)).f1) + x8_3)⟩ : S128)) (k128_mkM _ _ _ (⟨(rd_T128 (rd_L9 x5_3 x6_1) x42_2).f0, wrap64 (((rd_T128 (rd_L9 x5_3 (ji42)) (ji47)).f1) + x8_3)⟩ : S128)) (fun _ hk => hk)
               clear hcl77 hcc77 hfr77 hN77
               rw [← Ny342.out] at HP77
               have HS77 := hbk77 HP77.2 (fun k_ e_ => by injection e_ with e_; subst e_; exact ge77_0.1 _ rfl) (x' := y342) (Kd.M_row HP77.1)
               rw [← Ny344.out] at HS77
               have HQ77 := Aside0.mk HS77
               clear HP77 HS77 hbk77 hok77
               refine start_ (n := 12) (S := fun w' => w'.cell? ⟨gb337, 0, none⟩ = some (.int .i64 ((rd_T128 (rd_L9 x5_3 (ji42)) (ji47)).f0)) ∧ w'.cell? ⟨gb337, 1, none⟩ = some (.int .i64 ((rd_T128 (rd_L9 x5_3 (ji42)) (ji47)).f1)) ∧ w'.cell? ⟨go17, (x6_1).toNat, none⟩ = some (.slice (some ⟨go61, 0, none⟩) (rd_L9 x5_3 x6_1).length c341_0)) (ds := [11]) #[false, false, false, false, false, false, false, false, false, false, false, false] (by kernel_rfl) rfl rfl ⟨(blk_cell BK337.out 0).trans rfl, (blk_cell BK337.out 1).trans rfl, hx341_0⟩ (fun hHeld => ?_); refine with_tabW impl_purse_table.tab18 impl_purse_table.bits18 (fun HT_ HW_ => ?_)
               generalize w75.drew = w76 at HO_5 HL334_0 HL338_0 BK320 BK337 BK340 HB GG61 HL341_0 HQ77 HR341_0 HX341_0 hf61_0 hf61_1 hx341_0 hx61_0 hx61_1 hHeld ⊢
               refine pu_ (i := 0) (N := some 103) (v := ?_) (a' := ?_) rfl rfl (any_of HT_.out (by kernel_rfl)) (fun _ _ _ h => h) (Or.inl ⟨by rfl, ?_⟩) ?_ ?_
               rotate_left; intro w'; go_simp; with_reducible rfl; rotate_left; simp only [Act.put, sA_, sZ_, sS_, i64_w, i32_w]; rfl
               refine pu_ (i := 1) (N := some 104) (v := ?_) (a' := ?_) rfl rfl (any_of HT_.out (by kernel_rfl)) (fun _ _ _ h => h) (Or.inl ⟨by rfl, ?_⟩) ?_ ?_
               rotate_left; intro w'; go_simp; with_reducible rfl; rotate_left; simp only [Act.put, sA_, sZ_, sS_, i64_w, i32_w]; rfl
               refine pu_ (i := 2) (N := some 105) (v := ?_) (a' := ?_) rfl rfl (any_of HT_.out (by kernel_rfl)) (fun _ _ _ h => h) (Or.inl ⟨by rfl, ?_⟩) ?_ ?_
               rotate_left; intro w'; go_simp; with_reducible rfl; rotate_left; simp only [Act.put, sA_, sZ_, sS_, i64_w, i32_w]; rfl
               refine pu_ (i := 4) (N := some 107) (v := ?_) (a' := ?_) rfl rfl (any_of HT_.out (by kernel_rfl)) (fun _ _ _ h => h) (Or.inl ⟨by rfl, ?_⟩) ?_ ?_
               rotate_left; intro w'; go_simp; with_reducible rfl; rotate_left; simp only [Act.put, sA_, sZ_, sS_, i64_w, i32_w]; rfl
               refine pu_ (i := 5) (N := some 108) (v := ?_) (a' := ?_) rfl rfl (any_of HT_.out (by kernel_rfl)) (fun _ _ _ h => h) (Or.inl ⟨by rfl, ?_⟩) ?_ ?_
               rotate_left; intro w'; go_simp; with_reducible rfl; rotate_left; simp only [Act.put, sA_, sZ_, sS_, i64_w, i32_w]; rfl
               refine pu_ (i := 7) (N := some 110) (v := ?_) (a' := ?_) rfl rfl (any_of HT_.out (by kernel_rfl)) (fun _ _ _ h => h) (Or.inl ⟨by rfl, ?_⟩) ?_ ?_
               rotate_left; intro w'; go_simp; with_reducible rfl; rotate_left; simp only [Act.put, sA_, sZ_, sS_, i64_w, i32_w]; rfl
               refine tk_ (i := 3) (N := some 106) (v := ?_) (a' := ?_) rfl rfl (take_ofW HT_.out HW_.out (by kernel_rfl)) (fun _ _ _ h => h) (Or.inl ⟨by rfl, ?_⟩) hHeld ?_ ?_
               rotate_left; rintro w' ⟨s0, s1, s2⟩; go_simp; with_reducible rfl; rotate_left; simp only [Act.put, sA_, sZ_, sS_, i64_w, i32_w]; rfl
               refine tk_ (i := 6) (N := some 109) (v := ?_) (a' := ?_) rfl rfl (take_ofW HT_.out HW_.out (by kernel_rfl)) (fun _ _ _ h => h) (Or.inl ⟨by rfl, ?_⟩) hHeld ?_ ?_
               rotate_left; rintro w' ⟨s0, s1, s2⟩; go_simp; with_reducible rfl; rotate_left; simp only [Act.put, sA_, sZ_, sS_, i64_w, i32_w]; rfl
               refine pu_ (i := 8) (N := some 111) (v := ?_) (a' := ?_) rfl rfl (any_of HT_.out (by kernel_rfl)) (fun _ _ _ h => h) (Or.inl ⟨by rfl, ?_⟩) ?_ ?_
               rotate_left; intro w'; go_simp; with_reducible rfl; rotate_left; simp only [Act.put, sA_, sZ_, sS_, i64_w, i32_w]; rfl
               refine pu_ (i := 9) (N := some 112) (v := ?_) (a' := ?_) rfl rfl (any_of HT_.out (by kernel_rfl)) (fun _ _ _ h => h) (Or.inl ⟨by rfl, ?_⟩) ?_ ?_
               rotate_left; intro w'; go_simp; with_reducible rfl; rotate_left; simp only [Act.put, sA_, sZ_, sS_, i64_w, i32_w]; rfl
               refine pu_ (i := 10) (N := some 113) (v := ?_) (a' := ?_) rfl rfl (any_of HT_.out (by kernel_rfl)) (fun _ _ _ h => h) (Or.inl ⟨by rfl, ?_⟩) ?_ ?_
               rotate_left; intro w'; go_simp; with_reducible rfl; rotate_left; simp only [Act.put, sA_, sZ_, sS_, i64_w, i32_w]; rfl
               refine la_ (i := 11) (N := none) rfl rfl (one_of HT_.out (by kernel_rfl)) (by decide) (fun K hK => ?_)
               refine skip_ (w1 := ?_) (by rfl) rfl ?_ ?_
               rotate_left
               ·go_simp
                rfl
               refine hK.out _ _ ?_
               clear hK K
               refine done_ (done_of HT_.out (by kernel_rfl)) ?_
               try go_wp2
               have n0_ : Aside0 (Kd.S (Kd.slice 128 k128) 129 (w76.setCell ⟨go61, (x42_2 : Int).toNat * 2 + 1, none⟩ (.int .i64 (wrap64 (((rd_T128 (rd_L9 x5_3 (ji42)) (ji47)).f1) + x8_3)))) w.heap.size (fun k_ => k_ ≠ gb337 ∧ k_ ≠ gb340) (.slice (some ⟨go17, 0, none⟩) x5_3.length co17) y344) := ⟨HQ77.out⟩
               have n1_ : Aside0 ((w76.setCell ⟨go61, (x42_2 : Int).toNat * 2 + 1, none⟩ (.int .i64 (wrap64 (((rd_T128 (rd_L9 x5_3 (ji42)) (ji47)).f1) + x8_3)))).heap[gb320]? = some (.cells #[.slice (some ad335) l0_0.length c0_0, .slice A0_1 l0_1.length c0_1] 118 (0, 0))) := ⟨by (with_reducible repeat (first | refine blk_drewN ?_ _ | refine blk_drew ?_ | refine blk_alloc ?_ _)); refine blk_far ?_ (by have h_ := Kd.R_ne HL341_0.out BK320.out (by decide); intro e_; exact h_ (by rw [e_]; rfl)) _; (with_reducible repeat (first | refine blk_drewN ?_ _ | refine blk_drew ?_ | refine blk_alloc ?_ _)); exact BK320.out⟩
               have n2_ : Aside0 ((w76.setCell ⟨go61, (x42_2 : Int).toNat * 2 + 1, none⟩ (.int .i64 (wrap64 (((rd_T128 (rd_L9 x5_3 (ji42)) (ji47)).f1) + x8_3)))).heap[gb337]? = some (.cells #[.int .i64 ((rd_T128 (rd_L9 x5_3 (ji42)) (ji47)).f0), .int .i64 ((rd_T128 (rd_L9 x5_3 (ji42)) (ji47)).f1)] 128 (0, 0))) := ⟨by (with_reducible repeat (first | refine blk_drewN ?_ _ | refine blk_drew ?_ | refine blk_alloc ?_ _)); refine blk_far ?_ (by have h_ := Kd.R_away HL341_0.out (fun _ hk => hk.1.1); intro e_; exact h_ (by rw [e_]; rfl)) _; (with_reducible repeat (first | refine blk_drewN ?_ _ | refine blk_drew ?_ | refine blk_alloc ?_ _)); exact BK337.out⟩
               have n3_ : Aside0 ((w76.setCell ⟨go61, (x42_2 : Int).toNat * 2 + 1, none⟩ (.int .i64 (wrap64 (((rd_T128 (rd_L9 x5_3 (ji42)) (ji47)).f1) + x8_3)))).heap[gb340]? = some (.cells #[.int .i64 ((rd_T128 (rd_L9 x5_3 x6_1) x42_2).f0), .int .i64 ((rd_T128 (rd_L9 x5_3 x6_1) x42_2).f1)] 128 (0, 0))) := ⟨by (with_reducible repeat (first | refine blk_drewN ?_ _ | refine blk_drew ?_ | refine blk_alloc ?_ _)); refine blk_far ?_ (by have h_ := Kd.R_away HL341_0.out (fun _ hk => hk.1.2); intro e_; exact h_ (by rw [e_]; rfl)) _; (with_reducible repeat (first | refine blk_drewN ?_ _ | refine blk_drew ?_ | refine blk_alloc ?_ _)); exact BK340.out⟩
               have n4_ : Aside0 (Below w.heap.size w (w76.setCell ⟨go61, (x42_2 : Int).toNat * 2 + 1, none⟩ (.int .i64 (wrap64 (((rd_T128 (rd_L9 x5_3 (ji42)) (ji47)).f1) + x8_3))))) := ⟨by repeat (first | (with_reducible first | exact HB.out | apply below_alloc | apply pw_below_drewN | apply below_drew1 | refine below_set ?_ GB61.out | refine below_set ?_ GE320.out | refine below_set ?_ GE337.out | refine below_set ?_ GE340.out) | exact HB.out)⟩
               (try clear HO_5)
               (try clear BK320)
               (try clear BK337)
               (try clear BK340)
               (try clear HB)
               generalize (w76.setCell ⟨go61, (x42_2 : Int).toNat * 2 + 1, none⟩ (.int .i64 (wrap64 (((rd_T128 (rd_L9 x5_3 (ji42)) (ji47)).f1) + x8_3)))) = w79 at n0_ n1_ n2_ n3_ n4_ ⊢
               have HO_5 := n0_
               have BK320 := n1_
               have BK337 := n2_
               have BK340 := n3_
               have HB := n4_
               clear n0_ n1_ n2_ n3_ n4_
               replace HO_5 := Aside0.mk (Kd.S_drew HO_5.out)
               replace BK320 := Aside0.mk (blk_drew BK320.out)
               replace BK337 := Aside0.mk (blk_drew BK337.out)
               replace BK340 := Aside0.mk (blk_drew BK340.out)
               replace HB := Aside0.mk (below_drew1 HB.out)
               have p345 : 0 ≤ (x6_1 : Int) := of_decide_eq_true (by assumption)
               have q345 : x6_1 < (y344.length : Int) := (by have h_ : (x6_1 : Int) < ((x5_3.length : Int) : Int) := of_decide_eq_true (by assumption); first | (have e_ := (Kd.S_reads' HO_5.out).1; omega) | simpa only [Ny344.out, List.length_set] using h_)
               have ql345 : ((x6_1 : Int) < ((x5_3.length : Int) : Int)) = True := eq_true (of_decide_eq_true (by assumption))
               obtain ⟨ad345, A345_0, c345_0, e345, hx345_0, hl345_0, hi345_0⟩ := at_L9 (Kd.S_reads' HO_5.out).2.2 x6_1 p345 q345
               obtain rfl : (⟨go17, 0, none⟩ : Addr) = ad345 := (by injection e345)
               obtain ⟨ce345, hce345, hMe345, hcc345⟩ := Kd.S_get HO_5.out [] x6_1 p345 (by first | exact q345 | exact of_decide_eq_true (by assumption) | (have e_ := (Kd.S_reads' HO_5.out).1; omega))
               obtain ⟨ve345_0, rfl, ge345_0⟩ := hMe345
               have hv345_0 := hcc345 0 _ rfl
               rw [Nat.add_zero, show ((Kd.slice 128 k128)).sz = 1 from rfl, Nat.mul_one] at hv345_0
               replace hv345_0 := Option.some.inj (hv345_0.symm.trans hx345_0)
               rw [hv345_0] at ge345_0
               have HL345_0 := Aside0.mk (show Kd.R k128 128 _ _ _ _ (rd_L9 y344 x6_1) from ge345_0)
               clear hv345_0 ge345_0
               have HX345_0 := Aside0.mk hx345_0
               clear hcc345 hce345
               (first | simp only [add_plain] at hx345_0 | simp only [add_at] at hx345_0 | simp only [Addr.add, Nat.zero_add] at hx345_0 | skip)
               have HR345_0 := Aside0.mk hi345_0
               have HC345_0 := Aside0.mk hl345_0
               clear hi345_0 hl345_0
               replace p345 := eq_true p345
               replace q345 := eq_true q345
               have p346 : 0 ≤ (x42_2 : Int) := of_decide_eq_true (by assumption)
               have q346 : x42_2 < ((rd_L9 y344 x6_1).length : Int) := of_decide_eq_true (by assumption)
               obtain ⟨ad346, e346, hx346_0, hx346_1⟩ := at_T128 HR345_0.out x42_2 p346 q346
               cases e346
               replace p346 := eq_true p346
               replace q346 := eq_true q346
               have p63 : 0 ≤ (x42_2 : Int) := of_decide_eq_true (by assumption)
               have q63 : (x42_2 : Int) < (((rd_L9 y344 x6_1).length : Int) : Int) := of_decide_eq_true (by assumption)
               obtain ⟨go63, co63, eo63, gb63, gl63, cl63, HG63⟩ := Kd.R_form HL345_0.out (by omega)
               (first | cases eo63 | (injection eo63 with ea_ en_ ec_; (first | subst ea_ | (injection ea_ with ea_; subst ea_)); subst ec_; clear en_))
               have GB63 := Aside0.mk gb63
               have GG63 := Aside0.mk HG63
               clear gb63 gl63 HG63
               (first | simp only [add_plain] at hx346_0 | skip)
               (first | simp only [add_plain] at hx346_1 | skip)
               obtain ⟨ce63, hcl63, hM63, hcc63, hfr63⟩ := Kd.R_elem HL345_0.out z128 (x42_2 : Int) p63 q63
               obtain rfl := k128_openM hM63
               have hx63_0 : World.cell? _ ⟨go63, (x42_2 : Int).toNat * 2, none⟩ = some (.int .i64 ((rd_T128 (rd_L9 y344 x6_1) x42_2).f0)) := hcc63 0 _ rfl
               have hx63_1 : World.cell? _ ⟨go63, (x42_2 : Int).toNat * 2 + 1, none⟩ = some (.int .i64 ((rd_T128 (rd_L9 y344 x6_1) x42_2).f1)) := hcc63 1 _ rfl
               have hf63_0 : World.frozen? _ ⟨go63, (x42_2 : Int).toNat * 2, none⟩ = false := hfr63 0
               have hf63_1 : World.frozen? _ ⟨go63, (x42_2 : Int).toNat * 2 + 1, none⟩ = false := hfr63 1
               clear hcl63 hcc63 hfr63 ; (try clear hM63)
               replace p63 := eq_true p63
               replace q63 := eq_true q63
               have hq81 : (x6_1 : Int) < ((x5_3.length : Int) : Int) := of_decide_eq_true (by assumption)
               obtain ⟨oki81, ce81, hcl81, hM81, hcc81, hok81, hbk81⟩ := Kd.S_borrow HO_5.out [] (x6_1 : Int) (of_decide_eq_true (by assumption)) hq81
               obtain ⟨ve81_0, rfl, ge81_0⟩ := hM81
               have hv81 := hcc81 0 _ rfl
               rw [Nat.add_zero, show ((Kd.slice 128 k128)).sz = 1 from rfl, Nat.mul_one] at hv81
               replace hv81 := Option.some.inj (hv81.symm.trans HX345_0.out)
               subst hv81
               clear hcc81 hcl81
               replace ge81_0 := (show Kd.R k128 128 _ _ _ _ (rd_L9 y344 x6_1) from ge81_0)
               obtain ⟨cf81, hcl81, hN81, hcc81, hfr81⟩ := Kd.R_elem ge81_0 z128 (x42_2 : Int) (of_decide_eq_true (by assumption)) (of_decide_eq_true (by assumption))
               obtain rfl := k128_openM hN81
               have HP81 := Kd.R_seg ge81_0 (x42_2 : Int) (of_decide_eq_true (by assumption)) (of_decide_eq_true (by assumption)) (seg := [.int .i64 (wrap64 (((rd_T128 (rd_L9 y344 x6_1) x42_2).f0) + ((rd_T128 (rd_L9 x5_3 (ji42)) (ji47)).f0)))]) (j := 0) hcl81 hcc81 (show 1 ≤ 2 from by decide) (x' := (⟨wrap64 (((rd_T128 (rd_L9 y344 x6_1) x42_2).f0) + ((rd_T128 (rd_L9 x5_3 (ji42)) (ji47)).f0)), (rd_T128 (rd_L9 y344 x6_1) x42_2).f1⟩ : S128)) (k128_mkM _ _ _ (⟨wrap64 (((rd_T128 (rd_L9 y344 x6_1) x42_2).f0) + ((rd_T128 (rd_L9 x5_3 (ji42)) (ji47)).f0)), (rd_T128 (rd_L9 y344 x6_1) x42_2).f1⟩ : S128)) (fun _ hk => hk)
               clear hcl81 hcc81 hfr81 hN81
               rw [← Ny347.out] at HP81
               have HS81 := hbk81 HP81.2 (fun k_ e_ => by injection e_ with e_; subst e_; exact ge81_0.1 _ rfl) (x' := y347) (Kd.M_row HP81.1)
               rw [← Ny349.out] at HS81
               have HQ81 := Aside0.mk HS81
               clear HP81 HS81 hbk81 hok81
               refine start_ (n := 14) (S := fun w' => w'.cell? ⟨gb337, 0, none⟩ = some (.int .i64 ((rd_T128 (rd_L9 x5_3 (ji42)) (ji47)).f0)) ∧ w'.cell? ⟨gb337, 1, none⟩ = some (.int .i64 ((rd_T128 (rd_L9 x5_3 (ji42)) (ji47)).f1)) ∧ w'.cell? ⟨go17, (x6_1).toNat, none⟩ = some (.slice (some ⟨go63, 0, none⟩) (rd_L9 y344 x6_1).length c345_0) ∧ w'.cell? ⟨go63, ((x42_2).toNat * 2), none⟩ = some (.int .i64 ((rd_T128 (rd_L9 y344 x6_1) x42_2).f0)) ∧ w'.cell? ⟨go63, ((x42_2).toNat * 2) + 1, none⟩ = some (.int .i64 ((rd_T128 (rd_L9 y344 x6_1) x42_2).f1))) (ds := [13]) #[false, false, false, false, false, false, false, false, false, false, false, false, false, false] (by kernel_rfl) rfl rfl ⟨(blk_cell BK337.out 0).trans rfl, (blk_cell BK337.out 1).trans rfl, hx345_0, hx346_0, hx346_1⟩ (fun hHeld => ?_); refine with_tabW impl_purse_table.tab19 impl_purse_table.bits19 (fun HT_ HW_ => ?_)
               generalize w79.drew = w80 at HO_5 BK320 BK337 BK340 HB GG63 HL345_0 HQ77 HQ81 HR345_0 HX345_0 hf63_0 hf63_1 hx345_0 hx346_0 hx346_1 hx63_0 hx63_1 hHeld ⊢
               refine pu_ (i := 0) (N := some 114) (v := ?_) (a' := ?_) rfl rfl (any_of HT_.out (by kernel_rfl)) (fun _ _ _ h => h) (Or.inl ⟨by rfl, ?_⟩) ?_ ?_
               rotate_left; intro w'; go_simp; with_reducible rfl; rotate_left; simp only [Act.put, sA_, sZ_, sS_, i64_w, i32_w]; rfl
               refine pu_ (i := 1) (N := some 115) (v := ?_) (a' := ?_) rfl rfl (any_of HT_.out (by kernel_rfl)) (fun _ _ _ h => h) (Or.inl ⟨by rfl, ?_⟩) ?_ ?_
               rotate_left; intro w'; go_simp; with_reducible rfl; rotate_left; simp only [Act.put, sA_, sZ_, sS_, i64_w, i32_w]; rfl
               refine pu_ (i := 2) (N := some 116) (v := ?_) (a' := ?_) rfl rfl (any_of HT_.out (by kernel_rfl)) (fun _ _ _ h => h) (Or.inl ⟨by rfl, ?_⟩) ?_ ?_
               rotate_left; intro w'; go_simp; with_reducible rfl; rotate_left; simp only [Act.put, sA_, sZ_, sS_, i64_w, i32_w]; rfl
               refine pu_ (i := 4) (N := some 118) (v := ?_) (a' := ?_) rfl rfl (any_of HT_.out (by kernel_rfl)) (fun _ _ _ h => h) (Or.inl ⟨by rfl, ?_⟩) ?_ ?_
               rotate_left; intro w'; go_simp; with_reducible rfl; rotate_left; simp only [Act.put, sA_, sZ_, sS_, i64_w, i32_w]; rfl
               refine pu_ (i := 8) (N := some 122) (v := ?_) (a' := ?_) rfl rfl (any_of HT_.out (by kernel_rfl)) (fun _ _ _ h => h) (Or.inl ⟨by rfl, ?_⟩) ?_ ?_
               rotate_left; intro w'; go_simp; with_reducible rfl; rotate_left; simp only [Act.put, sA_, sZ_, sS_, i64_w, i32_w]; rfl
               refine tk_ (i := 3) (N := some 117) (v := ?_) (a' := ?_) rfl rfl (take_ofW HT_.out HW_.out (by kernel_rfl)) (fun _ _ _ h => h) (Or.inl ⟨by rfl, ?_⟩) hHeld ?_ ?_
               rotate_left; rintro w' ⟨s0, s1, s2, s3, s4⟩; go_simp; with_reducible rfl; rotate_left; simp only [Act.put, sA_, sZ_, sS_, i64_w, i32_w]; rfl
               refine pu_ (i := 5) (N := some 119) (v := ?_) (a' := ?_) rfl rfl (any_of HT_.out (by kernel_rfl)) (fun _ _ _ h => h) (Or.inl ⟨by rfl, ?_⟩) ?_ ?_
               rotate_left; intro w'; go_simp; with_reducible rfl; rotate_left; simp only [Act.put, sA_, sZ_, sS_, i64_w, i32_w]; rfl
               refine pu_ (i := 6) (N := some 120) (v := ?_) (a' := ?_) rfl rfl (any_of HT_.out (by kernel_rfl)) (fun _ _ _ h => h) (Or.inl ⟨by rfl, ?_⟩) ?_ ?_
               rotate_left; intro w'; go_simp; with_reducible rfl; rotate_left; simp only [Act.put, sA_, sZ_, sS_, i64_w, i32_w]; rfl
               refine tk_ (i := 7) (N := some 121) (v := ?_) (a' := ?_) rfl rfl (take_ofW HT_.out HW_.out (by kernel_rfl)) (fun _ _ _ h => h) (Or.inl ⟨by rfl, ?_⟩) hHeld ?_ ?_
               rotate_left; rintro w' ⟨s0, s1, s2, s3, s4⟩; go_simp; with_reducible rfl; rotate_left; simp only [Act.put, sA_, sZ_, sS_, i64_w, i32_w]; rfl
               refine tk_ (i := 9) (N := some 123) (v := ?_) (a' := ?_) rfl rfl (take_ofW HT_.out HW_.out (by kernel_rfl)) (fun _ _ _ h => h) (Or.inl ⟨by rfl, ?_⟩) hHeld ?_ ?_
               rotate_left; rintro w' ⟨s0, s1, s2, s3, s4⟩; go_simp; with_reducible rfl; rotate_left; simp only [Act.put, sA_, sZ_, sS_, i64_w, i32_w]; rfl
               refine pu_ (i := 10) (N := some 124) (v := ?_) (a' := ?_) rfl rfl (any_of HT_.out (by kernel_rfl)) (fun _ _ _ h => h) (Or.inl ⟨by rfl, ?_⟩) ?_ ?_
               rotate_left; intro w'; go_simp; with_reducible rfl; rotate_left; simp only [Act.put, sA_, sZ_, sS_, i64_w, i32_w]; rfl
               refine pu_ (i := 11) (N := some 125) (v := ?_) (a' := ?_) rfl rfl (any_of HT_.out (by kernel_rfl)) (fun _ _ _ h => h) (Or.inl ⟨by rfl, ?_⟩) ?_ ?_
               rotate_left; intro w'; go_simp; with_reducible rfl; rotate_left; simp only [Act.put, sA_, sZ_, sS_, i64_w, i32_w]; rfl
               refine pu_ (i := 12) (N := some 126) (v := ?_) (a' := ?_) rfl rfl (any_of HT_.out (by kernel_rfl)) (fun _ _ _ h => h) (Or.inl ⟨by rfl, ?_⟩) ?_ ?_
               rotate_left; intro w'; go_simp; with_reducible rfl; rotate_left; simp only [Act.put, sA_, sZ_, sS_, i64_w, i32_w]; rfl
               refine la_ (i := 13) (N := none) rfl rfl (one_of HT_.out (by kernel_rfl)) (by decide) (fun K hK => ?_)
               refine skip_ (w1 := ?_) (by rfl) rfl ?_ ?_
               rotate_left
               ·go_simp
                rfl
               refine hK.out _ _ ?_
               clear hK K
               refine done_ (done_of HT_.out (by kernel_rfl)) ?_
               try go_wp2
               (try simp only [← hl5_3])
               go_roundg kj33
               case measure => have := HK1.out; have := HK2.out; have := HK3.out; have := HJ33.out; omega
               case rel => exact ⟨(y349), (wrap64 (x8_3 + 1)), (by first | rfl | (simp; done) | (simp [*]; done)), H', ⟨by have := HK1.out; have := HK2.out; have := HK3.out; have := HJ33.out; omega⟩, ⟨by (try simp only [hl5_2]); (try simp only [hl5_3]); (with_reducible repeat (first | apply Kd.S_alloc | apply Kd.S_drewN | apply Kd.S_drew)); exact Kd.S_mono HQ81.out (fun _ hk => trivial)⟩, ⟨by (try simp only [hl5_2]); (try simp only [hl5_3]); (with_reducible repeat (first | refine blk_drewN ?_ _ | refine blk_drew ?_ | refine blk_alloc ?_ _)); refine blk_far ?_ (by have h_ := Kd.R_ne HL345_0.out BK320.out (by decide); intro e_; exact h_ (by rw [e_]; rfl)) _; (with_reducible repeat (first | refine blk_drewN ?_ _ | refine blk_drew ?_ | refine blk_alloc ?_ _)); exact BK320.out⟩, ⟨by repeat (first | (with_reducible first | exact HB.out | apply below_alloc | apply pw_below_drewN | apply below_drew1 | refine below_set ?_ GB63.out | refine below_set ?_ GE320.out | refine below_set ?_ GE337.out | refine below_set ?_ GE340.out) | exact HB.out)⟩⟩
              ·rw [if_neg c60] at H
               have c60b0 : (((rd_T128 (rd_L9 x5_3 x6_1) x42_2).f0) == 0) = false := beq_eq_false_iff_ne.mpr c60
               have c60b1 : (((rd_T128 (rd_L9 x5_3 x6_1) x42_2).f0) != 0) = true := bne_iff_ne.mpr c60
               by_cases c83 : (wrap64 (((rd_T128 (rd_L9 x5_3 (ji42)) (ji47)).f1) + x8_3)) < ((rd_T128 (rd_L9 x5_3 x6_1) x42_2).f1)
               ·rw [if_pos c83] at H
                have c83b0 : decide ((wrap64 (((rd_T128 (rd_L9 x5_3 (ji42)) (ji47)).f1) + x8_3)) < ((rd_T128 (rd_L9 x5_3 x6_1) x42_2).f1)) = true := decide_eq_true c83
                clear c83
                obtain ⟨y351, hy351⟩ : ∃ y_ : List (S128), y_ = ((rd_L9 x5_3 x6_1).set (x42_2 : Int).toNat (⟨(rd_T128 (rd_L9 x5_3 x6_1) x42_2).f0, wrap64 (((rd_T128 (rd_L9 x5_3 (ji42)) (ji47)).f1) + x8_3)⟩ : S128)) := ⟨_, rfl⟩
                replace H : ((some (x5_3.set (x6_1 : Int).toNat y351 : List (List (S128)))).bind fun y353 => (if x42_2 < ((rd_L9 y353 x6_1).length : Int) then (impl_purse_table.l2 kj33 a1 (y353.set (x6_1 : Int).toNat ((rd_L9 y353 x6_1).set (x42_2 : Int).toNat (⟨wrap64 (((rd_T128 (rd_L9 y353 x6_1) x42_2).f0) + ((rd_T128 (rd_L9 x5_3 (ji42)) (ji47)).f0)), (rd_T128 (rd_L9 y353 x6_1) x42_2).f1⟩ : S128))) x6_1 x42_2 (wrap64 (x8_3 + 1)) ji12 x42_2 l0_0 l0_1) else (none))) = some r := by rw [hy351]; exact H
                have Ny351 := Aside0.mk hy351
                clear hy351
                obtain ⟨y353, hy353⟩ : ∃ y_ : List (List (S128)), y_ = (x5_3.set (x6_1 : Int).toNat y351) := ⟨_, rfl⟩
                replace H : (if x42_2 < ((rd_L9 y353 x6_1).length : Int) then (impl_purse_table.l2 kj33 a1 (y353.set (x6_1 : Int).toNat ((rd_L9 y353 x6_1).set (x42_2 : Int).toNat (⟨wrap64 (((rd_T128 (rd_L9 y353 x6_1) x42_2).f0) + ((rd_T128 (rd_L9 x5_3 (ji42)) (ji47)).f0)), (rd_T128 (rd_L9 y353 x6_1) x42_2).f1⟩ : S128))) x6_1 x42_2 (wrap64 (x8_3 + 1)) ji12 x42_2 l0_0 l0_1) else (none)) = some r := by rw [hy353]; exact H
                have Ny353 := Aside0.mk hy353
                clear hy353
                by_cases c85 : x42_2 < ((rd_L9 y353 x6_1).length : Int)
                rotate_left
                ·rw [if_neg c85] at H; exact absurd H (by simp)
                rw [if_pos c85] at H
                have c85b0 : decide (x42_2 < ((rd_L9 y353 x6_1).length : Int)) = true := decide_eq_true c85
                clear c85
                obtain ⟨y356, hy356⟩ : ∃ y_ : List (S128), y_ = ((rd_L9 y353 x6_1).set (x42_2 : Int).toNat (⟨wrap64 (((rd_T128 (rd_L9 y353 x6_1) x42_2).f0) + ((rd_T128 (rd_L9 x5_3 (ji42)) (ji47)).f0)), (rd_T128 (rd_L9 y353 x6_1) x42_2).f1⟩ : S128)) := ⟨_, rfl⟩
                replace H : (impl_purse_table.l2 kj33 a1 (y353.set (x6_1 : Int).toNat y356) x6_1 x42_2 (wrap64 (x8_3 + 1)) ji12 x42_2 l0_0 l0_1) = some r := by rw [hy356]; exact H
                have Ny356 := Aside0.mk hy356
                clear hy356
                obtain ⟨y358, hy358⟩ : ∃ y_ : List (List (S128)), y_ = (y353.set (x6_1 : Int).toNat y356) := ⟨_, rfl⟩
                replace H : (impl_purse_table.l2 kj33 a1 y358 x6_1 x42_2 (wrap64 (x8_3 + 1)) ji12 x42_2 l0_0 l0_1) = some r := by rw [hy358]; exact H
                have Ny358 := Aside0.mk hy358
                clear hy358
                have H' := Aside0.mk H
                clear H
                try go_wp2_with (first | ((with_reducible refine gate_dst (N := 10) rfl ?_); refine box_event ?hg (N := 10) ?hd (cs := #[.int .i64 0, .int .i64 0]) (t := 128) ?hr ?_; (case hd => rfl); (case hg => rfl); (case hr => go_simp; try rfl); intro gb340 hg w94 hbox hb; replace HO_5 := Aside0.mk (Kd.S_below (Kd.S_elderB HO_5.out gb340 (Nat.le_of_eq hg.symm)) hb); replace HL334_0 := Aside0.mk (Kd.R_below (Kd.R_elderB HL334_0.out gb340 (Nat.le_of_eq hg.symm)) hb); replace HL338_0 := Aside0.mk (Kd.R_below (Kd.R_elderB HL338_0.out gb340 (Nat.le_of_eq hg.symm)) hb); replace HR338_0 := Aside0.mk (Kd.C_below HR338_0.out hb); replace HX338_0 := Aside0.mk (pw_cell_below hb HX338_0.out); have BK340 := Aside0.mk (hbox); have GW340 := Aside0.mk ((by rw [hg]; exact (below_size HB.out) : w.heap.size ≤ gb340)); have GE340 := Aside0.mk ((by rw [hg]; exact (below_size HB.out) : w.heap.size ≤ gb340)); replace HB := Aside0.mk (below_step HB.out hb); have NB320_340 := Aside0.mk ((by rw [hg]; exact Nat.ne_of_lt (blk_lt (g := gb320) (o := .cells #[.slice (some ad335) l0_0.length c0_0, .slice A0_1 l0_1.length c0_1] 118 (0, 0)) BK320.out) : gb320 ≠ gb340)); have NB340_320 := Aside0.mk ((by rw [hg]; exact Nat.ne_of_gt (blk_lt (g := gb320) (o := .cells #[.slice (some ad335) l0_0.length c0_0, .slice A0_1 l0_1.length c0_1] 118 (0, 0)) BK320.out) : gb340 ≠ gb320)); replace BK320 := Aside0.mk (blk_below (g := gb320) (o := .cells #[.slice (some ad335) l0_0.length c0_0, .slice A0_1 l0_1.length c0_1] 118 (0, 0)) BK320.out hb); have NB337_340 := Aside0.mk ((by rw [hg]; exact Nat.ne_of_lt (blk_lt (g := gb337) (o := .cells #[.int .i64 ((rd_T128 (rd_L9 x5_3 (ji42)) (ji47)).f0), .int .i64 ((rd_T128 (rd_L9 x5_3 (ji42)) (ji47)).f1)] 128 (0, 0)) BK337.out) : gb337 ≠ gb340)); have NB340_337 := Aside0.mk ((by rw [hg]; exact Nat.ne_of_gt (blk_lt (g := gb337) (o := .cells #[.int .i64 ((rd_T128 (rd_L9 x5_3 (ji42)) (ji47)).f0), .int .i64 ((rd_T128 (rd_L9 x5_3 (ji42)) (ji47)).f1)] 128 (0, 0)) BK337.out) : gb340 ≠ gb337)); replace BK337 := Aside0.mk (blk_below (g := gb337) (o := .cells #[.int .i64 ((rd_T128 (rd_L9 x5_3 (ji42)) (ji47)).f0), .int .i64 ((rd_T128 (rd_L9 x5_3 (ji42)) (ji47)).f1)] 128 (0, 0)) BK337.out hb); clear hb hbox hg; have hnb95 := NB340_320.out; have hnc95 := NB320_340.out; have hnb96 := NB340_337.out; have hnc96 := NB337_340.out; have hcz97_0 : w94.cell? ⟨gb340, 0, none⟩ = some (.int .i64 0) := (blk_cell BK340.out 0).trans rfl; have hcz97_1 : w94.cell? ⟨gb340, 1, none⟩ = some (.int .i64 0) := (blk_cell BK340.out 1).trans rfl; have hfz97_0 := blk_frozen BK340.out 0; have hfz97_1 := blk_frozen BK340.out 1; have hcz98_0 : w94.cell? ⟨gb337, 0, none⟩ = some (.int .i64 ((rd_T128 (rd_L9 x5_3 (ji42)) (ji47)).f0)) := (blk_cell BK337.out 0).trans rfl; have hcz98_1 : w94.cell? ⟨gb337, 1, none⟩ = some (.int .i64 ((rd_T128 (rd_L9 x5_3 (ji42)) (ji47)).f1)) := (blk_cell BK337.out 1).trans rfl; have hfz98_0 := blk_frozen BK337.out 0; have hfz98_1 := blk_frozen BK337.out 1))
                have n0_ : Aside0 (Kd.S (Kd.slice 128 k128) 129 ((w94.setCell ⟨gb340, 0, none⟩ (.int .i64 ((rd_T128 (rd_L9 x5_3 x6_1) x42_2).f0))).setCell ⟨gb340, 1, none⟩ (.int .i64 ((rd_T128 (rd_L9 x5_3 x6_1) x42_2).f1))) w.heap.size (fun k_ => k_ ≠ gb337 ∧ k_ ≠ gb340) (.slice (some ⟨go17, 0, none⟩) x5_3.length co17) x5_3) := ⟨by (with_reducible repeat (first | apply Kd.S_alloc | apply Kd.S_drewN | apply Kd.S_drew)); exact Kd.S_mono (Kd.S_far (p := ⟨gb340, 1, none⟩) (Kd.S_far (p := ⟨gb340, 0, none⟩) (Kd.S_mono HO_5.out (fun k_ hk => (⟨hk, hk.2⟩ : _ ∧ k_ ≠ gb340))) (fun _ hk => hk.2) (.int .i64 ((rd_T128 (rd_L9 x5_3 x6_1) x42_2).f0))) (fun _ hk => hk.2) (.int .i64 ((rd_T128 (rd_L9 x5_3 x6_1) x42_2).f1))) (fun _ hk => ⟨hk.1.1, hk.1.2⟩)⟩
                have n1_ : Aside0 (Kd.R k128 128 ((w94.setCell ⟨gb340, 0, none⟩ (.int .i64 ((rd_T128 (rd_L9 x5_3 x6_1) x42_2).f0))).setCell ⟨gb340, 1, none⟩ (.int .i64 ((rd_T128 (rd_L9 x5_3 x6_1) x42_2).f1))) w.heap.size (fun k_ => some k_ ≠ (.slice (some ⟨go17, 0, none⟩) x5_3.length co17 : Value).ownBlock ∧ k_ ≠ gb337 ∧ k_ ≠ gb340) (.slice (some ad336) (rd_L9 x5_3 (ji42)).length c334_0) (rd_L9 x5_3 (ji42))) := ⟨by (with_reducible repeat (first | apply Kd.R_alloc | apply Kd.R_drewN | apply Kd.R_drew)); exact Kd.R_mono (Kd.R_far (p := ⟨gb340, 1, none⟩) (Kd.R_far (p := ⟨gb340, 0, none⟩) (Kd.R_mono HL334_0.out (fun k_ hk => (⟨hk, hk.2⟩ : _ ∧ k_ ≠ gb340))) (fun _ hk => hk.2) (.int .i64 ((rd_T128 (rd_L9 x5_3 x6_1) x42_2).f0))) (fun _ hk => hk.2) (.int .i64 ((rd_T128 (rd_L9 x5_3 x6_1) x42_2).f1))) (fun _ hk => ⟨hk.1.1.1, ⟨hk.1.1.2, hk.1.2⟩⟩)⟩
                have n2_ : Aside0 (Kd.R k128 128 ((w94.setCell ⟨gb340, 0, none⟩ (.int .i64 ((rd_T128 (rd_L9 x5_3 x6_1) x42_2).f0))).setCell ⟨gb340, 1, none⟩ (.int .i64 ((rd_T128 (rd_L9 x5_3 x6_1) x42_2).f1))) w.heap.size (fun k_ => some k_ ≠ (.slice (some ⟨go17, 0, none⟩) x5_3.length co17 : Value).ownBlock ∧ k_ ≠ gb337 ∧ k_ ≠ gb340) (.slice (some ad339) (rd_L9 x5_3 x6_1).length c338_0) (rd_L9 x5_3 x6_1)) := ⟨by (with_reducible repeat (first | apply Kd.R_alloc | apply Kd.R_drewN | apply Kd.R_drew)); exact Kd.R_mono (Kd.R_far (p := ⟨gb340, 1, none⟩) (Kd.R_far (p := ⟨gb340, 0, none⟩) (Kd.R_mono HL338_0.out (fun k_ hk => (⟨hk, hk.2⟩ : _ ∧ k_ ≠ gb340))) (fun _ hk => hk.2) (.int .i64 ((rd_T128 (rd_L9 x5_3 x6_1) x42_2).f0))) (fun _ hk => hk.2) (.int .i64 ((rd_T128 (rd_L9 x5_3 x6_1) x42_2).f1))) (fun _ hk => ⟨hk.1.1.2, ⟨hk.1.1.1, hk.1.2⟩⟩)⟩
                have n3_ : Aside0 (((w94.setCell ⟨gb340, 0, none⟩ (.int .i64 ((rd_T128 (rd_L9 x5_3 x6_1) x42_2).f0))).setCell ⟨gb340, 1, none⟩ (.int .i64 ((rd_T128 (rd_L9 x5_3 x6_1) x42_2).f1))).heap[gb320]? = some (.cells #[.slice (some ad335) l0_0.length c0_0, .slice A0_1 l0_1.length c0_1] 118 (0, 0))) := ⟨by (with_reducible repeat (first | refine blk_drewN ?_ _ | refine blk_drew ?_ | refine blk_alloc ?_ _)); refine blk_far ?_ NB320_340.out _; (with_reducible repeat (first | refine blk_drewN ?_ _ | refine blk_drew ?_ | refine blk_alloc ?_ _)); refine blk_far ?_ NB320_340.out _; (with_reducible repeat (first | refine blk_drewN ?_ _ | refine blk_drew ?_ | refine blk_alloc ?_ _)); exact BK320.out⟩
                have n4_ : Aside0 (((w94.setCell ⟨gb340, 0, none⟩ (.int .i64 ((rd_T128 (rd_L9 x5_3 x6_1) x42_2).f0))).setCell ⟨gb340, 1, none⟩ (.int .i64 ((rd_T128 (rd_L9 x5_3 x6_1) x42_2).f1))).heap[gb337]? = some (.cells #[.int .i64 ((rd_T128 (rd_L9 x5_3 (ji42)) (ji47)).f0), .int .i64 ((rd_T128 (rd_L9 x5_3 (ji42)) (ji47)).f1)] 128 (0, 0))) := ⟨by (with_reducible repeat (first | refine blk_drewN ?_ _ | refine blk_drew ?_ | refine blk_alloc ?_ _)); refine blk_far ?_ NB337_340.out _; (with_reducible repeat (first | refine blk_drewN ?_ _ | refine blk_drew ?_ | refine blk_alloc ?_ _)); refine blk_far ?_ NB337_340.out _; (with_reducible repeat (first | refine blk_drewN ?_ _ | refine blk_drew ?_ | refine blk_alloc ?_ _)); exact BK337.out⟩
                have n5_ : Aside0 (((w94.setCell ⟨gb340, 0, none⟩ (.int .i64 ((rd_T128 (rd_L9 x5_3 x6_1) x42_2).f0))).setCell ⟨gb340, 1, none⟩ (.int .i64 ((rd_T128 (rd_L9 x5_3 x6_1) x42_2).f1))).heap[gb340]? = some (.cells #[.int .i64 ((rd_T128 (rd_L9 x5_3 x6_1) x42_2).f0), .int .i64 ((rd_T128 (rd_L9 x5_3 x6_1) x42_2).f1)] 128 (0, 0))) := ⟨by (with_reducible repeat (first | refine blk_drewN ?_ _ | refine blk_drew ?_ | refine blk_alloc ?_ _)); refine blk_put (cs := #[.int .i64 ((rd_T128 (rd_L9 x5_3 x6_1) x42_2).f0), .int .i64 0]) ?_ 1 _ rfl; (with_reducible repeat (first | refine blk_drewN ?_ _ | refine blk_drew ?_ | refine blk_alloc ?_ _)); refine blk_put (cs := #[.int .i64 0, .int .i64 0]) ?_ 0 _ rfl; (with_reducible repeat (first | refine blk_drewN ?_ _ | refine blk_drew ?_ | refine blk_alloc ?_ _)); exact BK340.out⟩
                have n6_ : Aside0 (Below w.heap.size w ((w94.setCell ⟨gb340, 0, none⟩ (.int .i64 ((rd_T128 (rd_L9 x5_3 x6_1) x42_2).f0))).setCell ⟨gb340, 1, none⟩ (.int .i64 ((rd_T128 (rd_L9 x5_3 x6_1) x42_2).f1)))) := ⟨by repeat (first | (with_reducible first | exact HB.out | apply below_alloc | apply pw_below_drewN | apply below_drew1 | refine below_set ?_ GE320.out | refine below_set ?_ GE337.out | refine below_set ?_ GE340.out) | exact HB.out)⟩
                (try clear HO_5)
                (try clear HL334_0)
                (try clear HL338_0)
                (try clear BK320)
                (try clear BK337)
                (try clear BK340)
                (try clear HB)
                generalize ((w94.setCell ⟨gb340, 0, none⟩ (.int .i64 ((rd_T128 (rd_L9 x5_3 x6_1) x42_2).f0))).setCell ⟨gb340, 1, none⟩ (.int .i64 ((rd_T128 (rd_L9 x5_3 x6_1) x42_2).f1))) = w99 at n0_ n1_ n2_ n3_ n4_ n5_ n6_ ⊢
                have HO_5 := n0_
                have HL334_0 := n1_
                have HL338_0 := n2_
                have BK320 := n3_
                have BK337 := n4_
                have BK340 := n5_
                have HB := n6_
                clear n0_ n1_ n2_ n3_ n4_ n5_ n6_
                replace HO_5 := Aside0.mk (Kd.S_drew HO_5.out)
                replace HL334_0 := Aside0.mk (Kd.R_drew HL334_0.out)
                replace HL338_0 := Aside0.mk (Kd.R_drew HL338_0.out)
                replace BK320 := Aside0.mk (blk_drew BK320.out)
                replace BK337 := Aside0.mk (blk_drew BK337.out)
                replace BK340 := Aside0.mk (blk_drew BK340.out)
                replace HB := Aside0.mk (below_drew1 HB.out)
                have p350 : 0 ≤ (x6_1 : Int) := of_decide_eq_true (by assumption)
                have q350 : x6_1 < (x5_3.length : Int) := of_decide_eq_true (by assumption)
                obtain ⟨ad350, A350_0, c350_0, e350, hx350_0, hl350_0, hi350_0⟩ := at_L9 (Kd.S_reads' HO_5.out).2.2 x6_1 p350 q350
                obtain rfl : (⟨go17, 0, none⟩ : Addr) = ad350 := (by injection e350)
                obtain ⟨ce350, hce350, hMe350, hcc350⟩ := Kd.S_get HO_5.out [] x6_1 p350 (by first | exact q350 | exact of_decide_eq_true (by assumption) | (have e_ := (Kd.S_reads' HO_5.out).1; omega))
                obtain ⟨ve350_0, rfl, ge350_0⟩ := hMe350
                have hv350_0 := hcc350 0 _ rfl
                rw [Nat.add_zero, show ((Kd.slice 128 k128)).sz = 1 from rfl, Nat.mul_one] at hv350_0
                replace hv350_0 := Option.some.inj (hv350_0.symm.trans hx350_0)
                rw [hv350_0] at ge350_0
                have HL350_0 := Aside0.mk (show Kd.R k128 128 _ _ _ _ (rd_L9 x5_3 x6_1) from ge350_0)
                clear hv350_0 ge350_0
                have HX350_0 := Aside0.mk hx350_0
                clear hcc350 hce350
                (first | simp only [add_plain] at hx350_0 | simp only [add_at] at hx350_0 | simp only [Addr.add, Nat.zero_add] at hx350_0 | skip)
                have HR350_0 := Aside0.mk hi350_0
                have HC350_0 := Aside0.mk hl350_0
                clear hi350_0 hl350_0
                replace p350 := eq_true p350
                replace q350 := eq_true q350
                have p84 : 0 ≤ (x42_2 : Int) := of_decide_eq_true (by assumption)
                have q84 : (x42_2 : Int) < (((rd_L9 x5_3 x6_1).length : Int) : Int) := of_decide_eq_true (by assumption)
                obtain ⟨go84, co84, eo84, gb84, gl84, cl84, HG84⟩ := Kd.R_form HL350_0.out (by omega)
                (first | cases eo84 | (injection eo84 with ea_ en_ ec_; (first | subst ea_ | (injection ea_ with ea_; subst ea_)); subst ec_; clear en_))
                have GB84 := Aside0.mk gb84
                have GG84 := Aside0.mk HG84
                clear gb84 gl84 HG84
                obtain ⟨ce84, hcl84, hM84, hcc84, hfr84⟩ := Kd.R_elem HL350_0.out z128 (x42_2 : Int) p84 q84
                obtain rfl := k128_openM hM84
                have hx84_0 : World.cell? _ ⟨go84, (x42_2 : Int).toNat * 2, none⟩ = some (.int .i64 ((rd_T128 (rd_L9 x5_3 x6_1) x42_2).f0)) := hcc84 0 _ rfl
                have hx84_1 : World.cell? _ ⟨go84, (x42_2 : Int).toNat * 2 + 1, none⟩ = some (.int .i64 ((rd_T128 (rd_L9 x5_3 x6_1) x42_2).f1)) := hcc84 1 _ rfl
                have hf84_0 : World.frozen? _ ⟨go84, (x42_2 : Int).toNat * 2, none⟩ = false := hfr84 0
                have hf84_1 : World.frozen? _ ⟨go84, (x42_2 : Int).toNat * 2 + 1, none⟩ = false := hfr84 1
                clear hcl84 hcc84 hfr84 ; (try clear hM84)
                replace p84 := eq_true p84
                replace q84 := eq_true q84
                have hq101 : (x6_1 : Int) < (x5_3.length : Int) := (of_decide_eq_true (by assumption))
                obtain ⟨oki101, ce101, hcl101, hM101, hcc101, hok101, hbk101⟩ := Kd.S_borrow HO_5.out [] (x6_1 : Int) (of_decide_eq_true (by assumption)) hq101
                obtain ⟨ve101_0, rfl, ge101_0⟩ := hM101
                have hv101 := hcc101 0 _ rfl
                rw [Nat.add_zero, show ((Kd.slice 128 k128)).sz = 1 from rfl, Nat.mul_one] at hv101
                replace hv101 := Option.some.inj (hv101.symm.trans HX350_0.out)
                subst hv101
                clear hcc101 hcl101
                replace ge101_0 := (show Kd.R k128 128 _ _ _ _ (rd_L9 x5_3 x6_1) from ge101_0)
                obtain ⟨cf101, hcl101, hN101, hcc101, hfr101⟩ := Kd.R_elem ge101_0 z128 (x42_2 : Int) (of_decide_eq_true (by assumption)) (of_decide_eq_true (by assumption))
                obtain rfl := k128_openM hN101
                have HP101 := Kd.R_seg ge101_0 (x42_2 : Int) (of_decide_eq_true (by assumption)) (of_decide_eq_true (by assumption)) (seg := [.int .i64 (wrap64 (((rd_T128 (rd_L9 x5_3 (ji42)) (ji47)).f1) + x8_3))]) (j := 1) hcl101 hcc101 (show 2 ≤ 2 from by decide) (x' := (⟨(rd_T128 (rd_L9 x5_3 x6_1) x42_2).f0, wrap64 (((rd_T128 (rd_L9 x5_3 (ji42)) (ji47)).f1) + x8_3)⟩ : S128)) (k128_mkM _ _ _ (⟨(rd_T128 (rd_L9 x5_3 x6_1) x42_2).f0, wrap64 (((rd_T128 (rd_L9 x5_3 (ji42)) (ji47)).f1) + x8_3)⟩ : S128)) (fun _ hk => hk)
                clear hcl101 hcc101 hfr101 hN101
                rw [← Ny351.out] at HP101
                have HS101 := hbk101 HP101.2 (fun k_ e_ => by injection e_ with e_; subst e_; exact ge101_0.1 _ rfl) (x' := y351) (Kd.M_row HP101.1)
                rw [← Ny353.out] at HS101
                have HQ101 := Aside0.mk HS101
                clear HP101 HS101 hbk101 hok101
                refine start_ (n := 12) (S := fun w' => w'.cell? ⟨gb337, 0, none⟩ = some (.int .i64 ((rd_T128 (rd_L9 x5_3 (ji42)) (ji47)).f0)) ∧ w'.cell? ⟨gb337, 1, none⟩ = some (.int .i64 ((rd_T128 (rd_L9 x5_3 (ji42)) (ji47)).f1)) ∧ w'.cell? ⟨go17, (x6_1).toNat, none⟩ = some (.slice (some ⟨go84, 0, none⟩) (rd_L9 x5_3 x6_1).length c350_0)) (ds := [11]) #[false, false, false, false, false, false, false, false, false, false, false, false] (by kernel_rfl) rfl rfl ⟨(blk_cell BK337.out 0).trans rfl, (blk_cell BK337.out 1).trans rfl, hx350_0⟩ (fun hHeld => ?_); refine with_tabW impl_purse_table.tab18 impl_purse_table.bits18 (fun HT_ HW_ => ?_)
                generalize w99.drew = w100 at HO_5 HL334_0 HL338_0 BK320 BK337 BK340 HB GG84 HL350_0 HQ101 HR350_0 HX350_0 hf84_0 hf84_1 hx350_0 hx84_0 hx84_1 hHeld ⊢
                refine pu_ (i := 0) (N := some 103) (v := ?_) (a' := ?_) rfl rfl (any_of HT_.out (by kernel_rfl)) (fun _ _ _ h => h) (Or.inl ⟨by rfl, ?_⟩) ?_ ?_
                rotate_left; intro w'; go_simp; with_reducible rfl; rotate_left; simp only [Act.put, sA_, sZ_, sS_, i64_w, i32_w]; rfl
                refine pu_ (i := 1) (N := some 104) (v := ?_) (a' := ?_) rfl rfl (any_of HT_.out (by kernel_rfl)) (fun _ _ _ h => h) (Or.inl ⟨by rfl, ?_⟩) ?_ ?_
                rotate_left; intro w'; go_simp; with_reducible rfl; rotate_left; simp only [Act.put, sA_, sZ_, sS_, i64_w, i32_w]; rfl
                refine pu_ (i := 2) (N := some 105) (v := ?_) (a' := ?_) rfl rfl (any_of HT_.out (by kernel_rfl)) (fun _ _ _ h => h) (Or.inl ⟨by rfl, ?_⟩) ?_ ?_
                rotate_left; intro w'; go_simp; with_reducible rfl; rotate_left; simp only [Act.put, sA_, sZ_, sS_, i64_w, i32_w]; rfl
                refine pu_ (i := 4) (N := some 107) (v := ?_) (a' := ?_) rfl rfl (any_of HT_.out (by kernel_rfl)) (fun _ _ _ h => h) (Or.inl ⟨by rfl, ?_⟩) ?_ ?_
                rotate_left; intro w'; go_simp; with_reducible rfl; rotate_left; simp only [Act.put, sA_, sZ_, sS_, i64_w, i32_w]; rfl
                refine pu_ (i := 5) (N := some 108) (v := ?_) (a' := ?_) rfl rfl (any_of HT_.out (by kernel_rfl)) (fun _ _ _ h => h) (Or.inl ⟨by rfl, ?_⟩) ?_ ?_
                rotate_left; intro w'; go_simp; with_reducible rfl; rotate_left; simp only [Act.put, sA_, sZ_, sS_, i64_w, i32_w]; rfl
                refine pu_ (i := 7) (N := some 110) (v := ?_) (a' := ?_) rfl rfl (any_of HT_.out (by kernel_rfl)) (fun _ _ _ h => h) (Or.inl ⟨by rfl, ?_⟩) ?_ ?_
                rotate_left; intro w'; go_simp; with_reducible rfl; rotate_left; simp only [Act.put, sA_, sZ_, sS_, i64_w, i32_w]; rfl
                refine tk_ (i := 3) (N := some 106) (v := ?_) (a' := ?_) rfl rfl (take_ofW HT_.out HW_.out (by kernel_rfl)) (fun _ _ _ h => h) (Or.inl ⟨by rfl, ?_⟩) hHeld ?_ ?_
                rotate_left; rintro w' ⟨s0, s1, s2⟩; go_simp; with_reducible rfl; rotate_left; simp only [Act.put, sA_, sZ_, sS_, i64_w, i32_w]; rfl
                refine tk_ (i := 6) (N := some 109) (v := ?_) (a' := ?_) rfl rfl (take_ofW HT_.out HW_.out (by kernel_rfl)) (fun _ _ _ h => h) (Or.inl ⟨by rfl, ?_⟩) hHeld ?_ ?_
                rotate_left; rintro w' ⟨s0, s1, s2⟩; go_simp; with_reducible rfl; rotate_left; simp only [Act.put, sA_, sZ_, sS_, i64_w, i32_w]; rfl
                refine pu_ (i := 8) (N := some 111) (v := ?_) (a' := ?_) rfl rfl (any_of HT_.out (by kernel_rfl)) (fun _ _ _ h => h) (Or.inl ⟨by rfl, ?_⟩) ?_ ?_
                rotate_left; intro w'; go_simp; with_reducible rfl; rotate_left; simp only [Act.put, sA_, sZ_, sS_, i64_w, i32_w]; rfl
                refine pu_ (i := 9) (N := some 112) (v := ?_) (a' := ?_) rfl rfl (any_of HT_.out (by kernel_rfl)) (fun _ _ _ h => h) (Or.inl ⟨by rfl, ?_⟩) ?_ ?_
                rotate_left; intro w'; go_simp; with_reducible rfl; rotate_left; simp only [Act.put, sA_, sZ_, sS_, i64_w, i32_w]; rfl
                refine pu_ (i := 10) (N := some 113) (v := ?_) (a' := ?_) rfl rfl (any_of HT_.out (by kernel_rfl)) (fun _ _ _ h => h) (Or.inl ⟨by rfl, ?_⟩) ?_ ?_
                rotate_left; intro w'; go_simp; with_reducible rfl; rotate_left; simp only [Act.put, sA_, sZ_, sS_, i64_w, i32_w]; rfl
                refine la_ (i := 11) (N := none) rfl rfl (one_of HT_.out (by kernel_rfl)) (by decide) (fun K hK => ?_)
                refine skip_ (w1 := ?_) (by rfl) rfl ?_ ?_
                rotate_left
                ·go_simp
                 rfl
                refine hK.out _ _ ?_
                clear hK K
                refine done_ (done_of HT_.out (by kernel_rfl)) ?_
                try go_wp2
                have n0_ : Aside0 (Kd.S (Kd.slice 128 k128) 129 (w100.setCell ⟨go84, (x42_2 : Int).toNat * 2 + 1, none⟩ (.int .i64 (wrap64 (((rd_T128 (rd_L9 x5_3 (ji42)) (ji47)).f1) + x8_3)))) w.heap.size (fun k_ => k_ ≠ gb337 ∧ k_ ≠ gb340) (.slice (some ⟨go17, 0, none⟩) x5_3.length co17) y353) := ⟨HQ101.out⟩
                have n1_ : Aside0 ((w100.setCell ⟨go84, (x42_2 : Int).toNat * 2 + 1, none⟩ (.int .i64 (wrap64 (((rd_T128 (rd_L9 x5_3 (ji42)) (ji47)).f1) + x8_3)))).heap[gb320]? = some (.cells #[.slice (some ad335) l0_0.length c0_0, .slice A0_1 l0_1.length c0_1] 118 (0, 0))) := ⟨by (with_reducible repeat (first | refine blk_drewN ?_ _ | refine blk_drew ?_ | refine blk_alloc ?_ _)); refine blk_far ?_ (by have h_ := Kd.R_ne HL350_0.out BK320.out (by decide); intro e_; exact h_ (by rw [e_]; rfl)) _; (with_reducible repeat (first | refine blk_drewN ?_ _ | refine blk_drew ?_ | refine blk_alloc ?_ _)); exact BK320.out⟩
                have n2_ : Aside0 ((w100.setCell ⟨go84, (x42_2 : Int).toNat * 2 + 1, none⟩ (.int .i64 (wrap64 (((rd_T128 (rd_L9 x5_3 (ji42)) (ji47)).f1) + x8_3)))).heap[gb337]? = some (.cells #[.int .i64 ((rd_T128 (rd_L9 x5_3 (ji42)) (ji47)).f0), .int .i64 ((rd_T128 (rd_L9 x5_3 (ji42)) (ji47)).f1)] 128 (0, 0))) := ⟨by (with_reducible repeat (first | refine blk_drewN ?_ _ | refine blk_drew ?_ | refine blk_alloc ?_ _)); refine blk_far ?_ (by have h_ := Kd.R_away HL350_0.out (fun _ hk => hk.1.1); intro e_; exact h_ (by rw [e_]; rfl)) _; (with_reducible repeat (first | refine blk_drewN ?_ _ | refine blk_drew ?_ | refine blk_alloc ?_ _)); exact BK337.out⟩
                have n3_ : Aside0 ((w100.setCell ⟨go84, (x42_2 : Int).toNat * 2 + 1, none⟩ (.int .i64 (wrap64 (((rd_T128 (rd_L9 x5_3 (ji42)) (ji47)).f1) + x8_3)))).heap[gb340]? = some (.cells #[.int .i64 ((rd_T128 (rd_L9 x5_3 x6_1) x42_2).f0), .int .i64 ((rd_T128 (rd_L9 x5_3 x6_1) x42_2).f1)] 128 (0, 0))) := ⟨by (with_reducible repeat (first | refine blk_drewN ?_ _ | refine blk_drew ?_ | refine blk_alloc ?_ _)); refine blk_far ?_ (by have h_ := Kd.R_away HL350_0.out (fun _ hk => hk.1.2); intro e_; exact h_ (by rw [e_]; rfl)) _; (with_reducible repeat (first | refine blk_drewN ?_ _ | refine blk_drew ?_ | refine blk_alloc ?_ _)); exact BK340.out⟩
                have n4_ : Aside0 (Below w.heap.size w (w100.setCell ⟨go84, (x42_2 : Int).toNat * 2 + 1, none⟩ (.int .i64 (wrap64 (((rd_T128 (rd_L9 x5_3 (ji42)) (ji47)).f1) + x8_3))))) := ⟨by repeat (first | (with_reducible first | exact HB.out | apply below_alloc | apply pw_below_drewN | apply below_drew1 | refine below_set ?_ GB84.out | refine below_set ?_ GE320.out | refine below_set ?_ GE337.out | refine below_set ?_ GE340.out) | exact HB.out)⟩
                (try clear HO_5)
                (try clear BK320)
                (try clear BK337)
                (try clear BK340)
                (try clear HB)
                generalize (w100.setCell ⟨go84, (x42_2 : Int).toNat * 2 + 1, none⟩ (.int .i64 (wrap64 (((rd_T128 (rd_L9 x5_3 (ji42)) (ji47)).f1) + x8_3)))) = w103 at n0_ n1_ n2_ n3_ n4_ ⊢
                have HO_5 := n0_
                have BK320 := n1_
                have BK337 := n2_
                have BK340 := n3_
                have HB := n4_
                clear n0_ n1_ n2_ n3_ n4_
                replace HO_5 := Aside0.mk (Kd.S_drew HO_5.out)
                replace BK320 := Aside0.mk (blk_drew BK320.out)
                replace BK337 := Aside0.mk (blk_drew BK337.out)
                replace BK340 := Aside0.mk (blk_drew BK340.out)
                replace HB := Aside0.mk (below_drew1 HB.out)
                have p354 : 0 ≤ (x6_1 : Int) := of_decide_eq_true (by assumption)
                have q354 : x6_1 < (y353.length : Int) := (by have h_ : (x6_1 : Int) < ((x5_3.length : Int) : Int) := of_decide_eq_true (by assumption); first | (have e_ := (Kd.S_reads' HO_5.out).1; omega) | simpa only [Ny353.out, List.length_set] using h_)
                have ql354 : ((x6_1 : Int) < ((x5_3.length : Int) : Int)) = True := eq_true (of_decide_eq_true (by assumption))
                obtain ⟨ad354, A354_0, c354_0, e354, hx354_0, hl354_0, hi354_0⟩ := at_L9 (Kd.S_reads' HO_5.out).2.2 x6_1 p354 q354
                obtain rfl : (⟨go17, 0, none⟩ : Addr) = ad354 := (by injection e354)
                obtain ⟨ce354, hce354, hMe354, hcc354⟩ := Kd.S_get HO_5.out [] x6_1 p354 (by first | exact q354 | exact of_decide_eq_true (by assumption) | (have e_ := (Kd.S_reads' HO_5.out).1; omega))
                obtain ⟨ve354_0, rfl, ge354_0⟩ := hMe354
                have hv354_0 := hcc354 0 _ rfl
                rw [Nat.add_zero, show ((Kd.slice 128 k128)).sz = 1 from rfl, Nat.mul_one] at hv354_0
                replace hv354_0 := Option.some.inj (hv354_0.symm.trans hx354_0)
                rw [hv354_0] at ge354_0
                have HL354_0 := Aside0.mk (show Kd.R k128 128 _ _ _ _ (rd_L9 y353 x6_1) from ge354_0)
                clear hv354_0 ge354_0
                have HX354_0 := Aside0.mk hx354_0
                clear hcc354 hce354
                (first | simp only [add_plain] at hx354_0 | simp only [add_at] at hx354_0 | simp only [Addr.add, Nat.zero_add] at hx354_0 | skip)
                have HR354_0 := Aside0.mk hi354_0
                have HC354_0 := Aside0.mk hl354_0
                clear hi354_0 hl354_0
                replace p354 := eq_true p354
                replace q354 := eq_true q354
                have p355 : 0 ≤ (x42_2 : Int) := of_decide_eq_true (by assumption)
                have q355 : x42_2 < ((rd_L9 y353 x6_1).length : Int) := of_decide_eq_true (by assumption)
                obtain ⟨ad355, e355, hx355_0, hx355_1⟩ := at_T128 HR354_0.out x42_2 p355 q355
                cases e355
                replace p355 := eq_true p355
                replace q355 := eq_true q355
                have p86 : 0 ≤ (x42_2 : Int) := of_decide_eq_true (by assumption)
                have q86 : (x42_2 : Int) < (((rd_L9 y353 x6_1).length : Int) : Int) := of_decide_eq_true (by assumption)
                obtain ⟨go86, co86, eo86, gb86, gl86, cl86, HG86⟩ := Kd.R_form HL354_0.out (by omega)
                (first | cases eo86 | (injection eo86 with ea_ en_ ec_; (first | subst ea_ | (injection ea_ with ea_; subst ea_)); subst ec_; clear en_))
                have GB86 := Aside0.mk gb86
                have GG86 := Aside0.mk HG86
                clear gb86 gl86 HG86
                (first | simp only [add_plain] at hx355_0 | skip)
                (first | simp only [add_plain] at hx355_1 | skip)
                obtain ⟨ce86, hcl86, hM86, hcc86, hfr86⟩ := Kd.R_elem HL354_0.out z128 (x42_2 : Int) p86 q86
                obtain rfl := k128_openM hM86
                have hx86_0 : World.cell? _ ⟨go86, (x42_2 : Int).toNat * 2, none⟩ = some (.int .i64 ((rd_T128 (rd_L9 y353 x6_1) x42_2).f0)) := hcc86 0 _ rfl
                have hx86_1 : World.cell? _ ⟨go86, (x42_2 : Int).toNat * 2 + 1, none⟩ = some (.int .i64 ((rd_T128 (rd_L9 y353 x6_1) x42_2).f1)) := hcc86 1 _ rfl
                have hf86_0 : World.frozen? _ ⟨go86, (x42_2 : Int).toNat * 2, none⟩ = false := hfr86 0
                have hf86_1 : World.frozen? _ ⟨go86, (x42_2 : Int).toNat * 2 + 1, none⟩ = false := hfr86 1
                clear hcl86 hcc86 hfr86 ; (try clear hM86)
                replace p86 := eq_true p86
                replace q86 := eq_true q86
                have hq105 : (x6_1 : Int) < ((x5_3.length : Int) : Int) := of_decide_eq_true (by assumption)
                obtain ⟨oki105, ce105, hcl105, hM105, hcc105, hok105, hbk105⟩ := Kd.S_borrow HO_5.out [] (x6_1 : Int) (of_decide_eq_true (by assumption)) hq105
                obtain ⟨ve105_0, rfl, ge105_0⟩ := hM105
                have hv105 := hcc105 0 _ rfl
                rw [Nat.add_zero, show ((Kd.slice 128 k128)).sz = 1 from rfl, Nat.mul_one] at hv105
                replace hv105 := Option.some.inj (hv105.symm.trans HX354_0.out)
                subst hv105
                clear hcc105 hcl105
                replace ge105_0 := (show Kd.R k128 128 _ _ _ _ (rd_L9 y353 x6_1) from ge105_0)
                obtain ⟨cf105, hcl105, hN105, hcc105, hfr105⟩ := Kd.R_elem ge105_0 z128 (x42_2 : Int) (of_decide_eq_true (by assumption)) (of_decide_eq_true (by assumption))
                obtain rfl := k128_openM hN105
                have HP105 := Kd.R_seg ge105_0 (x42_2 : Int) (of_decide_eq_true (by assumption)) (of_decide_eq_true (by assumption)) (seg := [.int .i64 (wrap64 (((rd_T128 (rd_L9 y353 x6_1) x42_2).f0) + ((rd_T128 (rd_L9 x5_3 (ji42)) (ji47)).f0)))]) (j := 0) hcl105 hcc105 (show 1 ≤ 2 from by decide) (x' := (⟨wrap64 (((rd_T128 (rd_L9 y353 x6_1) x42_2).f0) + ((rd_T128 (rd_L9 x5_3 (ji42)) (ji47)).f0)), (rd_T128 (rd_L9 y353 x6_1) x42_2).f1⟩ : S128)) (k128_mkM _ _ _ (⟨wrap64 (((rd_T128 (rd_L9 y353 x6_1) x42_2).f0) + ((rd_T128 (rd_L9 x5_3 (ji42)) (ji47)).f0)), (rd_T128 (rd_L9 y353 x6_1) x42_2).f1⟩ : S128)) (fun _ hk => hk)
                clear hcl105 hcc105 hfr105 hN105
                rw [← Ny356.out] at HP105
                have HS105 := hbk105 HP105.2 (fun k_ e_ => by injection e_ with e_; subst e_; exact ge105_0.1 _ rfl) (x' := y356) (Kd.M_row HP105.1)
                rw [← Ny358.out] at HS105
                have HQ105 := Aside0.mk HS105
                clear HP105 HS105 hbk105 hok105
                refine start_ (n := 14) (S := fun w' => w'.cell? ⟨gb337, 0, none⟩ = some (.int .i64 ((rd_T128 (rd_L9 x5_3 (ji42)) (ji47)).f0)) ∧ w'.cell? ⟨gb337, 1, none⟩ = some (.int .i64 ((rd_T128 (rd_L9 x5_3 (ji42)) (ji47)).f1)) ∧ w'.cell? ⟨go17, (x6_1).toNat, none⟩ = some (.slice (some ⟨go86, 0, none⟩) (rd_L9 y353 x6_1).length c354_0) ∧ w'.cell? ⟨go86, ((x42_2).toNat * 2), none⟩ = some (.int .i64 ((rd_T128 (rd_L9 y353 x6_1) x42_2).f0)) ∧ w'.cell? ⟨go86, ((x42_2).toNat * 2) + 1, none⟩ = some (.int .i64 ((rd_T128 (rd_L9 y353 x6_1) x42_2).f1))) (ds := [13]) #[false, false, false, false, false, false, false, false, false, false, false, false, false, false] (by kernel_rfl) rfl rfl ⟨(blk_cell BK337.out 0).trans rfl, (blk_cell BK337.out 1).trans rfl, hx354_0, hx355_0, hx355_1⟩ (fun hHeld => ?_); refine with_tabW impl_purse_table.tab19 impl_purse_table.bits19 (fun HT_ HW_ => ?_)
                generalize w103.drew = w104 at HO_5 BK320 BK337 BK340 HB GG86 HL354_0 HQ101 HQ105 HR354_0 HX354_0 hf86_0 hf86_1 hx354_0 hx355_0 hx355_1 hx86_0 hx86_1 hHeld ⊢
                refine pu_ (i := 0) (N := some 114) (v := ?_) (a' := ?_) rfl rfl (any_of HT_.out (by kernel_rfl)) (fun _ _ _ h => h) (Or.inl ⟨by rfl, ?_⟩) ?_ ?_
                rotate_left; intro w'; go_simp; with_reducible rfl; rotate_left; simp only [Act.put, sA_, sZ_, sS_, i64_w, i32_w]; rfl
                refine pu_ (i := 1) (N := some 115) (v := ?_) (a' := ?_) rfl rfl (any_of HT_.out (by kernel_rfl)) (fun _ _ _ h => h) (Or.inl ⟨by rfl, ?_⟩) ?_ ?_
                rotate_left; intro w'; go_simp; with_reducible rfl; rotate_left; simp only [Act.put, sA_, sZ_, sS_, i64_w, i32_w]; rfl
                refine pu_ (i := 2) (N := some 116) (v := ?_) (a' := ?_) rfl rfl (any_of HT_.out (by kernel_rfl)) (fun _ _ _ h => h) (Or.inl ⟨by rfl, ?_⟩) ?_ ?_
                rotate_left; intro w'; go_simp; with_reducible rfl; rotate_left; simp only [Act.put, sA_, sZ_, sS_, i64_w, i32_w]; rfl
                refine pu_ (i := 4) (N := some 118) (v := ?_) (a' := ?_) rfl rfl (any_of HT_.out (by kernel_rfl)) (fun _ _ _ h => h) (Or.inl ⟨by rfl, ?_⟩) ?_ ?_
                rotate_left; intro w'; go_simp; with_reducible rfl; rotate_left; simp only [Act.put, sA_, sZ_, sS_, i64_w, i32_w]; rfl
                refine pu_ (i := 8) (N := some 122) (v := ?_) (a' := ?_) rfl rfl (any_of HT_.out (by kernel_rfl)) (fun _ _ _ h => h) (Or.inl ⟨by rfl, ?_⟩) ?_ ?_
                rotate_left; intro w'; go_simp; with_reducible rfl; rotate_left; simp only [Act.put, sA_, sZ_, sS_, i64_w, i32_w]; rfl
                refine tk_ (i := 3) (N := some 117) (v := ?_) (a' := ?_) rfl rfl (take_ofW HT_.out HW_.out (by kernel_rfl)) (fun _ _ _ h => h) (Or.inl ⟨by rfl, ?_⟩) hHeld ?_ ?_
                rotate_left; rintro w' ⟨s0, s1, s2, s3, s4⟩; go_simp; with_reducible rfl; rotate_left; simp only [Act.put, sA_, sZ_, sS_, i64_w, i32_w]; rfl
                refine pu_ (i := 5) (N := some 119) (v := ?_) (a' := ?_) rfl rfl (any_of HT_.out (by kernel_rfl)) (fun _ _ _ h => h) (Or.inl ⟨by rfl, ?_⟩) ?_ ?_
                rotate_left; intro w'; go_simp; with_reducible rfl; rotate_left; simp only [Act.put, sA_, sZ_, sS_, i64_w, i32_w]; rfl
                refine pu_ (i := 6) (N := some 120) (v := ?_) (a' := ?_) rfl rfl (any_of HT_.out (by kernel_rfl)) (fun _ _ _ h => h) (Or.inl ⟨by rfl, ?_⟩) ?_ ?_
                rotate_left; intro w'; go_simp; with_reducible rfl; rotate_left; simp only [Act.put, sA_, sZ_, sS_, i64_w, i32_w]; rfl
                refine tk_ (i := 7) (N := some 121) (v := ?_) (a' := ?_) rfl rfl (take_ofW HT_.out HW_.out (by kernel_rfl)) (fun _ _ _ h => h) (Or.inl ⟨by rfl, ?_⟩) hHeld ?_ ?_
                rotate_left; rintro w' ⟨s0, s1, s2, s3, s4⟩; go_simp; with_reducible rfl; rotate_left; simp only [Act.put, sA_, sZ_, sS_, i64_w, i32_w]; rfl
                refine tk_ (i := 9) (N := some 123) (v := ?_) (a' := ?_) rfl rfl (take_ofW HT_.out HW_.out (by kernel_rfl)) (fun _ _ _ h => h) (Or.inl ⟨by rfl, ?_⟩) hHeld ?_ ?_
                rotate_left; rintro w' ⟨s0, s1, s2, s3, s4⟩; go_simp; with_reducible rfl; rotate_left; simp only [Act.put, sA_, sZ_, sS_, i64_w, i32_w]; rfl
                refine pu_ (i := 10) (N := some 124) (v := ?_) (a' := ?_) rfl rfl (any_of HT_.out (by kernel_rfl)) (fun _ _ _ h => h) (Or.inl ⟨by rfl, ?_⟩) ?_ ?_
                rotate_left; intro w'; go_simp; with_reducible rfl; rotate_left; simp only [Act.put, sA_, sZ_, sS_, i64_w, i32_w]; rfl
                refine pu_ (i := 11) (N := some 125) (v := ?_) (a' := ?_) rfl rfl (any_of HT_.out (by kernel_rfl)) (fun _ _ _ h => h) (Or.inl ⟨by rfl, ?_⟩) ?_ ?_
                rotate_left; intro w'; go_simp; with_reducible rfl; rotate_left; simp only [Act.put, sA_, sZ_, sS_, i64_w, i32_w]; rfl
                refine pu_ (i := 12) (N := some 126) (v := ?_) (a' := ?_) rfl rfl (any_of HT_.out (by kernel_rfl)) (fun _ _ _ h => h) (Or.inl ⟨by rfl, ?_⟩) ?_ ?_
                rotate_left; intro w'; go_simp; with_reducible rfl; rotate_left; simp only [Act.put, sA_, sZ_, sS_, i64_w, i32_w]; rfl
                refine la_ (i := 13) (N := none) rfl rfl (one_of HT_.out (by kernel_rfl)) (by decide) (fun K hK => ?_)
                refine skip_ (w1 := ?_) (by rfl) rfl ?_ ?_
                rotate_left
                ·go_simp
                 rfl
                refine hK.out _ _ ?_
                clear hK K
                refine done_ (done_of HT_.out (by kernel_rfl)) ?_
                try go_wp2
                (try simp only [← hl5_3])
                go_roundg kj33
                case measure => have := HK1.out; have := HK2.out; have := HK3.out; have := HJ33.out; omega
                case rel => exact ⟨(y358), (wrap64 (x8_3 + 1)), (by first | rfl | (simp; done) | (simp [*]; done)), H', ⟨by have := HK1.out; have := HK2.out; have := HK3.out; have := HJ33.out; omega⟩, ⟨by (try simp only [hl5_2]); (try simp only [hl5_3]); (with_reducible repeat (first | apply Kd.S_alloc | apply Kd.S_drewN | apply Kd.S_drew)); exact Kd.S_mono HQ105.out (fun _ hk => trivial)⟩, ⟨by (try simp only [hl5_2]); (try simp only [hl5_3]); (with_reducible repeat (first | refine blk_drewN ?_ _ | refine blk_drew ?_ | refine blk_alloc ?_ _)); refine blk_far ?_ (by have h_ := Kd.R_ne HL354_0.out BK320.out (by decide); intro e_; exact h_ (by rw [e_]; rfl)) _; (with_reducible repeat (first | refine blk_drewN ?_ _ | refine blk_drew ?_ | refine blk_alloc ?_ _)); exact BK320.out⟩, ⟨by repeat (first | (with_reducible first | exact HB.out | apply below_alloc | apply pw_below_drewN | apply below_drew1 | refine below_set ?_ GB86.out | refine below_set ?_ GE320.out | refine below_set ?_ GE337.out | refine below_set ?_ GE340.out) | exact HB.out)⟩⟩
               ·rw [if_neg c83] at H
                have c83b0 : decide ((wrap64 (((rd_T128 (rd_L9 x5_3 (ji42)) (ji47)).f1) + x8_3)) < ((rd_T128 (rd_L9 x5_3 x6_1) x42_2).f1)) = false := decide_eq_false c83
                clear c83
                obtain ⟨y361, hy361⟩ : ∃ y_ : List (S128), y_ = ((rd_L9 x5_3 x6_1).set (x42_2 : Int).toNat (⟨wrap64 (((rd_T128 (rd_L9 x5_3 x6_1) x42_2).f0) + ((rd_T128 (rd_L9 x5_3 (ji42)) (ji47)).f0)), (rd_T128 (rd_L9 x5_3 x6_1) x42_2).f1⟩ : S128)) := ⟨_, rfl⟩
                replace H : (impl_purse_table.l2 kj33 a1 (x5_3.set (x6_1 : Int).toNat y361) x6_1 x42_2 (wrap64 (x8_3 + 1)) ji12 x42_2 l0_0 l0_1) = some r := by rw [hy361]; exact H
                have Ny361 := Aside0.mk hy361
                clear hy361
                obtain ⟨y363, hy363⟩ : ∃ y_ : List (List (S128)), y_ = (x5_3.set (x6_1 : Int).toNat y361) := ⟨_, rfl⟩
                replace H : (impl_purse_table.l2 kj33 a1 y363 x6_1 x42_2 (wrap64 (x8_3 + 1)) ji12 x42_2 l0_0 l0_1) = some r := by rw [hy363]; exact H
                have Ny363 := Aside0.mk hy363
                clear hy363
                have H' := Aside0.mk H
                clear H
                try go_wp2_with (first | ((with_reducible refine gate_dst (N := 10) rfl ?_); refine box_event ?hg (N := 10) ?hd (cs := #[.int .i64 0, .int .i64 0]) (t := 128) ?hr ?_; (case hd => rfl); (case hg => rfl); (case hr => go_simp; try rfl); intro gb340 hg w115 hbox hb; replace HO_5 := Aside0.mk (Kd.S_below (Kd.S_elderB HO_5.out gb340 (Nat.le_of_eq hg.symm)) hb); replace HL334_0 := Aside0.mk (Kd.R_below (Kd.R_elderB HL334_0.out gb340 (Nat.le_of_eq hg.symm)) hb); replace HL338_0 := Aside0.mk (Kd.R_below (Kd.R_elderB HL338_0.out gb340 (Nat.le_of_eq hg.symm)) hb); replace HR338_0 := Aside0.mk (Kd.C_below HR338_0.out hb); replace HX338_0 := Aside0.mk (pw_cell_below hb HX338_0.out); have BK340 := Aside0.mk (hbox); have GW340 := Aside0.mk ((by rw [hg]; exact (below_size HB.out) : w.heap.size ≤ gb340)); have GE340 := Aside0.mk ((by rw [hg]; exact (below_size HB.out) : w.heap.size ≤ gb340)); replace HB := Aside0.mk (below_step HB.out hb); have NB320_340 := Aside0.mk ((by rw [hg]; exact Nat.ne_of_lt (blk_lt (g := gb320) (o := .cells #[.slice (some ad335) l0_0.length c0_0, .slice A0_1 l0_1.length c0_1] 118 (0, 0)) BK320.out) : gb320 ≠ gb340)); have NB340_320 := Aside0.mk ((by rw [hg]; exact Nat.ne_of_gt (blk_lt (g := gb320) (o := .cells #[.slice (some ad335) l0_0.length c0_0, .slice A0_1 l0_1.length c0_1] 118 (0, 0)) BK320.out) : gb340 ≠ gb320)); replace BK320 := Aside0.mk (blk_below (g := gb320) (o := .cells #[.slice (some ad335) l0_0.length c0_0, .slice A0_1 l0_1.length c0_1] 118 (0, 0)) BK320.out hb); have NB337_340 := Aside0.mk ((by rw [hg]; exact Nat.ne_of_lt (blk_lt (g := gb337) (o := .cells #[.int .i64 ((rd_T128 (rd_L9 x5_3 (ji42)) (ji47)).f0), .int .i64 ((rd_T128 (rd_L9 x5_3 (ji42)) (ji47)).f1)] 128 (0, 0)) BK337.out) : gb337 ≠ gb340)); have NB340_337 := Aside0.mk ((by rw [hg]; exact Nat.ne_of_gt (blk_lt (g := gb337) (o := .cells #[.int .i64 ((rd_T128 (rd_L9 x5_3 (ji42)) (ji47)).f0), .int .i64 ((rd_T128 (rd_L9 x5_3 (ji42)) (ji47)).f1)] 128 (0, 0)) BK337.out) : gb340 ≠ gb337)); replace BK337 := Aside0.mk (blk_below (g := gb337) (o := .cells #[.int .i64 ((rd_T128 (rd_L9 x5_3 (ji42)) (ji47)).f0), .int .i64 ((rd_T128 (rd_L9 x5_3 (ji42)) (ji47)).f1)] 128 (0, 0)) BK337.out hb); clear hb hbox hg; have hnb116 := NB340_320.out; have hnc116 := NB320_340.out; have hnb117 := NB340_337.out; have hnc117 := NB337_340.out; have hcz118_0 : w115.cell? ⟨gb340, 0, none⟩ = some (.int .i64 0) := (blk_cell BK340.out 0).trans rfl; have hcz118_1 : w115.cell? ⟨gb340, 1, none⟩ = some (.int .i64 0) := (blk_cell BK340.out 1).trans rfl; have hfz118_0 := blk_frozen BK340.out 0; have hfz118_1 := blk_frozen BK340.out 1; have hcz119_0 : w115.cell? ⟨gb337, 0, none⟩ = some (.int .i64 ((rd_T128 (rd_L9 x5_3 (ji42)) (ji47)).f0)) := (blk_cell BK337.out 0).trans rfl; have hcz119_1 : w115.cell? ⟨gb337, 1, none⟩ = some (.int .i64 ((rd_T128 (rd_L9 x5_3 (ji42)) (ji47)).f1)) := (blk_cell BK337.out 1).trans rfl; have hfz119_0 := blk_frozen BK337.out 0; have hfz119_1 := blk_frozen BK337.out 1))
                have n0_ : Aside0 (Kd.S (Kd.slice 128 k128) 129 ((w115.setCell ⟨gb340, 0, none⟩ (.int .i64 ((rd_T128 (rd_L9 x5_3 x6_1) x42_2).f0))).setCell ⟨gb340, 1, none⟩ (.int .i64 ((rd_T128 (rd_L9 x5_3 x6_1) x42_2).f1))) w.heap.size (fun k_ => k_ ≠ gb337 ∧ k_ ≠ gb340) (.slice (some ⟨go17, 0, none⟩) x5_3.length co17) x5_3) := ⟨by (with_reducible repeat (first | apply Kd.S_alloc | apply Kd.S_drewN | apply Kd.S_drew)); exact Kd.S_mono (Kd.S_far (p := ⟨gb340, 1, none⟩) (Kd.S_far (p := ⟨gb340, 0, none⟩) (Kd.S_mono HO_5.out (fun k_ hk => (⟨hk, hk.2⟩ : _ ∧ k_ ≠ gb340))) (fun _ hk => hk.2) (.int .i64 ((rd_T128 (rd_L9 x5_3 x6_1) x42_2).f0))) (fun _ hk => hk.2) (.int .i64 ((rd_T128 (rd_L9 x5_3 x6_1) x42_2).f1))) (fun _ hk => ⟨hk.1.1, hk.1.2⟩)⟩
                have n1_ : Aside0 (Kd.R k128 128 ((w115.setCell ⟨gb340, 0, none⟩ (.int .i64 ((rd_T128 (rd_L9 x5_3 x6_1) x42_2).f0))).setCell ⟨gb340, 1, none⟩ (.int .i64 ((rd_T128 (rd_L9 x5_3 x6_1) x42_2).f1))) w.heap.size (fun k_ => some k_ ≠ (.slice (some ⟨go17, 0, none⟩) x5_3.length co17 : Value).ownBlock ∧ k_ ≠ gb337 ∧ k_ ≠ gb340) (.slice (some ad336) (rd_L9 x5_3 (ji42)).length c334_0) (rd_L9 x5_3 (ji42))) := ⟨by (with_reducible repeat (first | apply Kd.R_alloc | apply Kd.R_drewN | apply Kd.R_drew)); exact Kd.R_mono (Kd.R_far (p := ⟨gb340, 1, none⟩) (Kd.R_far (p := ⟨gb340, 0, none⟩) (Kd.R_mono HL334_0.out (fun k_ hk => (⟨hk, hk.2⟩ : _ ∧ k_ ≠ gb340))) (fun _ hk => hk.2) (.int .i64 ((rd_T128 (rd_L9 x5_3 x6_1) x42_2).f0))) (fun _ hk => hk.2) (.int .i64 ((rd_T128 (rd_L9 x5_3 x6_1) x42_2).f1))) (fun _ hk => ⟨hk.1.1.1, ⟨hk.1.1.2, hk.1.2⟩⟩)⟩
                have n2_ : Aside0 (Kd.R k128 128 ((w115.setCell ⟨gb340, 0, none⟩ (.int .i64 ((rd_T128 (rd_L9 x5_3 x6_1) x42_2).f0))).setCell ⟨gb340, 1, none⟩ (.int .i64 ((rd_T128 (rd_L9 x5_3 x6_1) x42_2).f1))) w.heap.size (fun k_ => some k_ ≠ (.slice (some ⟨go17, 0, none⟩) x5_3.length co17 : Value).ownBlock ∧ k_ ≠ gb337 ∧ k_ ≠ gb340) (.slice (some ad339) (rd_L9 x5_3 x6_1).length c338_0) (rd_L9 x5_3 x6_1)) := ⟨by (with_reducible repeat (first | apply Kd.R_alloc | apply Kd.R_drewN | apply Kd.R_drew)); exact Kd.R_mono (Kd.R_far (p := ⟨gb340, 1, none⟩) (Kd.R_far (p := ⟨gb340, 0, none⟩) (Kd.R_mono HL338_0.out (fun k_ hk => (⟨hk, hk.2⟩ : _ ∧ k_ ≠ gb340))) (fun _ hk => hk.2) (.int .i64 ((rd_T128 (rd_L9 x5_3 x6_1) x42_2).f0))) (fun _ hk => hk.2) (.int .i64 ((rd_T128 (rd_L9 x5_3 x6_1) x42_2).f1))) (fun _ hk => ⟨hk.1.1.2, ⟨hk.1.1.1, hk.1.2⟩⟩)⟩
                have n3_ : Aside0 (((w115.setCell ⟨gb340, 0, none⟩ (.int .i64 ((rd_T128 (rd_L9 x5_3 x6_1) x42_2).f0))).setCell ⟨gb340, 1, none⟩ (.int .i64 ((rd_T128 (rd_L9 x5_3 x6_1) x42_2).f1))).heap[gb320]? = some (.cells #[.slice (some ad335) l0_0.length c0_0, .slice A0_1 l0_1.length c0_1] 118 (0, 0))) := ⟨by (with_reducible repeat (first | refine blk_drewN ?_ _ | refine blk_drew ?_ | refine blk_alloc ?_ _)); refine blk_far ?_ NB320_340.out _; (with_reducible repeat (first | refine blk_drewN ?_ _ | refine blk_drew ?_ | refine blk_alloc ?_ _)); refine blk_far ?_ NB320_340.out _; (with_reducible repeat (first | refine blk_drewN ?_ _ | refine blk_drew ?_ | refine blk_alloc ?_ _)); exact BK320.out⟩
                have n4_ : Aside0 (((w115.setCell ⟨gb340, 0, none⟩ (.int .i64 ((rd_T128 (rd_L9 x5_3 x6_1) x42_2).f0))).setCell ⟨gb340, 1, none⟩ (.int .i64 ((rd_T128 (rd_L9 x5_3 x6_1) x42_2).f1))).heap[gb337]? = some (.cells #[.int .i64 ((rd_T128 (rd_L9 x5_3 (ji42)) (ji47)).f0), .int .i64 ((rd_T128 (rd_L9 x5_3 (ji42)) (ji47)).f1)] 128 (0, 0))) := ⟨by (with_reducible repeat (first | refine blk_drewN ?_ _ | refine blk_drew ?_ | refine blk_alloc ?_ _)); refine blk_far ?_ NB337_340.out _; (with_reducible repeat (first | refine blk_drewN ?_ _ | refine blk_drew ?_ | refine blk_alloc ?_ _)); refine blk_far ?_ NB337_340.out _; (with_reducible repeat (first | refine blk_drewN ?_ _ | refine blk_drew ?_ | refine blk_alloc ?_ _)); exact BK337.out⟩
                have n5_ : Aside0 (((w115.setCell ⟨gb340, 0, none⟩ (.int .i64 ((rd_T128 (rd_L9 x5_3 x6_1) x42_2).f0))).setCell ⟨gb340, 1, none⟩ (.int .i64 ((rd_T128 (rd_L9 x5_3 x6_1) x42_2).f1))).heap[gb340]? = some (.cells #[.int .i64 ((rd_T128 (rd_L9 x5_3 x6_1) x42_2).f0), .int .i64 ((rd_T128 (rd_L9 x5_3 x6_1) x42_2).f1)] 128 (0, 0))) := ⟨by (with_reducible repeat (first | refine blk_drewN ?_ _ | refine blk_drew ?_ | refine blk_alloc ?_ _)); refine blk_put (cs := #[.int .i64 ((rd_T128 (rd_L9 x5_3 x6_1) x42_2).f0), .int .i64 0]) ?_ 1 _ rfl; (with_reducible repeat (first | refine blk_drewN ?_ _ | refine blk_drew ?_ | refine blk_alloc ?_ _)); refine blk_put (cs := #[.int .i64 0, .int .i64 0]) ?_ 0 _ rfl; (with_reducible repeat (first | refine blk_drewN ?_ _ | refine blk_drew ?_ | refine blk_alloc ?_ _)); exact BK340.out⟩
                have n6_ : Aside0 (Below w.heap.size w ((w115.setCell ⟨gb340, 0, none⟩ (.int .i64 ((rd_T128 (rd_L9 x5_3 x6_1) x42_2).f0))).setCell ⟨gb340, 1, none⟩ (.int .i64 ((rd_T128 (rd_L9 x5_3 x6_1) x42_2).f1)))) := ⟨by repeat (first | (with_reducible first | exact HB.out | apply below_alloc | apply pw_below_drewN | apply below_drew1 | refine below_set ?_ GE320.out | refine below_set ?_ GE337.out | refine below_set ?_ GE340.out) | exact HB.out)⟩
                (try clear HO_5)
                (try clear HL334_0)
                (try clear HL338_0)
                (try clear BK320)
                (try clear BK337)
                (try clear BK340)
                (try clear HB)
                generalize ((w115.setCell ⟨gb340, 0, none⟩ (.int .i64 ((rd_T128 (rd_L9 x5_3 x6_1) x42_2).f0))).setCell ⟨gb340, 1, none⟩ (.int .i64 ((rd_T128 (rd_L9 x5_3 x6_1) x42_2).f1))) = w120 at n0_ n1_ n2_ n3_ n4_ n5_ n6_ ⊢
                have HO_5 := n0_
                have HL334_0 := n1_
                have HL338_0 := n2_
                have BK320 := n3_
                have BK337 := n4_
                have BK340 := n5_
                have HB := n6_
                clear n0_ n1_ n2_ n3_ n4_ n5_ n6_
                replace HO_5 := Aside0.mk (Kd.S_drew HO_5.out)
                replace HL334_0 := Aside0.mk (Kd.R_drew HL334_0.out)
                replace HL338_0 := Aside0.mk (Kd.R_drew HL338_0.out)
                replace BK320 := Aside0.mk (blk_drew BK320.out)
                replace BK337 := Aside0.mk (blk_drew BK337.out)
                replace BK340 := Aside0.mk (blk_drew BK340.out)
                replace HB := Aside0.mk (below_drew1 HB.out)
                have p359 : 0 ≤ (x6_1 : Int) := of_decide_eq_true (by assumption)
                have q359 : x6_1 < (x5_3.length : Int) := of_decide_eq_true (by assumption)
                obtain ⟨ad359, A359_0, c359_0, e359, hx359_0, hl359_0, hi359_0⟩ := at_L9 (Kd.S_reads' HO_5.out).2.2 x6_1 p359 q359
                obtain rfl : (⟨go17, 0, none⟩ : Addr) = ad359 := (by injection e359)
                obtain ⟨ce359, hce359, hMe359, hcc359⟩ := Kd.S_get HO_5.out [] x6_1 p359 (by first | exact q359 | exact of_decide_eq_true (by assumption) | (have e_ := (Kd.S_reads' HO_5.out).1; omega))
                obtain ⟨ve359_0, rfl, ge359_0⟩ := hMe359
                have hv359_0 := hcc359 0 _ rfl
                rw [Nat.add_zero, show ((Kd.slice 128 k128)).sz = 1 from rfl, Nat.mul_one] at hv359_0
                replace hv359_0 := Option.some.inj (hv359_0.symm.trans hx359_0)
                rw [hv359_0] at ge359_0
                have HL359_0 := Aside0.mk (show Kd.R k128 128 _ _ _ _ (rd_L9 x5_3 x6_1) from ge359_0)
                clear hv359_0 ge359_0
                have HX359_0 := Aside0.mk hx359_0
                clear hcc359 hce359
                (first | simp only [add_plain] at hx359_0 | simp only [add_at] at hx359_0 | simp only [Addr.add, Nat.zero_add] at hx359_0 | skip)
                have HR359_0 := Aside0.mk hi359_0
                have HC359_0 := Aside0.mk hl359_0
                clear hi359_0 hl359_0
                replace p359 := eq_true p359
                replace q359 := eq_true q359
                have p360 : 0 ≤ (x42_2 : Int) := of_decide_eq_true (by assumption)
                have q360 : x42_2 < ((rd_L9 x5_3 x6_1).length : Int) := of_decide_eq_true (by assumption)
                obtain ⟨ad360, e360, hx360_0, hx360_1⟩ := at_T128 HR359_0.out x42_2 p360 q360
                cases e360
                replace p360 := eq_true p360
                replace q360 := eq_true q360
                have p107 : 0 ≤ (x42_2 : Int) := of_decide_eq_true (by assumption)
                have q107 : (x42_2 : Int) < (((rd_L9 x5_3 x6_1).length : Int) : Int) := of_decide_eq_true (by assumption)
                obtain ⟨go107, co107, eo107, gb107, gl107, cl107, HG107⟩ := Kd.R_form HL359_0.out (by omega)
                (first | cases eo107 | (injection eo107 with ea_ en_ ec_; (first | subst ea_ | (injection ea_ with ea_; subst ea_)); subst ec_; clear en_))
                have GB107 := Aside0.mk gb107
                have GG107 := Aside0.mk HG107
                clear gb107 gl107 HG107
                (first | simp only [add_plain] at hx360_0 | skip)
                (first | simp only [add_plain] at hx360_1 | skip)
                obtain ⟨ce107, hcl107, hM107, hcc107, hfr107⟩ := Kd.R_elem HL359_0.out z128 (x42_2 : Int) p107 q107
                obtain rfl := k128_openM hM107
                have hx107_0 : World.cell? _ ⟨go107, (x42_2 : Int).toNat * 2, none⟩ = some (.int .i64 ((rd_T128 (rd_L9 x5_3 x6_1) x42_2).f0)) := hcc107 0 _ rfl
                have hx107_1 : World.cell? _ ⟨go107, (x42_2 : Int).toNat * 2 + 1, none⟩ = some (.int .i64 ((rd_T128 (rd_L9 x5_3 x6_1) x42_2).f1)) := hcc107 1 _ rfl
                have hf107_0 : World.frozen? _ ⟨go107, (x42_2 : Int).toNat * 2, none⟩ = false := hfr107 0
                have hf107_1 : World.frozen? _ ⟨go107, (x42_2 : Int).toNat * 2 + 1, none⟩ = false := hfr107 1
                clear hcl107 hcc107 hfr107 ; (try clear hM107)
                replace p107 := eq_true p107
                replace q107 := eq_true q107
                have hq122 : (x6_1 : Int) < (x5_3.length : Int) := (of_decide_eq_true (by assumption))
                obtain ⟨oki122, ce122, hcl122, hM122, hcc122, hok122, hbk122⟩ := Kd.S_borrow HO_5.out [] (x6_1 : Int) (of_decide_eq_true (by assumption)) hq122
                obtain ⟨ve122_0, rfl, ge122_0⟩ := hM122
                have hv122 := hcc122 0 _ rfl
                rw [Nat.add_zero, show ((Kd.slice 128 k128)).sz = 1 from rfl, Nat.mul_one] at hv122
                replace hv122 := Option.some.inj (hv122.symm.trans HX359_0.out)
                subst hv122
                clear hcc122 hcl122
                replace ge122_0 := (show Kd.R k128 128 _ _ _ _ (rd_L9 x5_3 x6_1) from ge122_0)
                obtain ⟨cf122, hcl122, hN122, hcc122, hfr122⟩ := Kd.R_elem ge122_0 z128 (x42_2 : Int) (of_decide_eq_true (by assumption)) (of_decide_eq_true (by assumption))
                obtain rfl := k128_openM hN122
                have HP122 := Kd.R_seg ge122_0 (x42_2 : Int) (of_decide_eq_true (by assumption)) (of_decide_eq_true (by assumption)) (seg := [.int .i64 (wrap64 (((rd_T128 (rd_L9 x5_3 x6_1) x42_2).f0) + ((rd_T128 (rd_L9 x5_3 (ji42)) (ji47)).f0)))]) (j := 0) hcl122 hcc122 (show 1 ≤ 2 from by decide) (x' := (⟨wrap64 (((rd_T128 (rd_L9 x5_3 x6_1) x42_2).f0) + ((rd_T128 (rd_L9 x5_3 (ji42)) (ji47)).f0)), (rd_T128 (rd_L9 x5_3 x6_1) x42_2).f1⟩ : S128)) (k128_mkM _ _ _ (⟨wrap64 (((rd_T128 (rd_L9 x5_3 x6_1) x42_2).f0) + ((rd_T128 (rd_L9 x5_3 (ji42)) (ji47)).f0)), (rd_T128 (rd_L9 x5_3 x6_1) x42_2).f1⟩ : S128)) (fun _ hk => hk)
                clear hcl122 hcc122 hfr122 hN122
                rw [← Ny361.out] at HP122
                have HS122 := hbk122 HP122.2 (fun k_ e_ => by injection e_ with e_; subst e_; exact ge122_0.1 _ rfl) (x' := y361) (Kd.M_row HP122.1)
                rw [← Ny363.out] at HS122
                have HQ122 := Aside0.mk HS122
                clear HP122 HS122 hbk122 hok122
                refine start_ (n := 14) (S := fun w' => w'.cell? ⟨gb337, 0, none⟩ = some (.int .i64 ((rd_T128 (rd_L9 x5_3 (ji42)) (ji47)).f0)) ∧ w'.cell? ⟨gb337, 1, none⟩ = some (.int .i64 ((rd_T128 (rd_L9 x5_3 (ji42)) (ji47)).f1)) ∧ w'.cell? ⟨go17, (x6_1).toNat, none⟩ = some (.slice (some ⟨go107, 0, none⟩) (rd_L9 x5_3 x6_1).length c359_0) ∧ w'.cell? ⟨go107, ((x42_2).toNat * 2), none⟩ = some (.int .i64 ((rd_T128 (rd_L9 x5_3 x6_1) x42_2).f0)) ∧ w'.cell? ⟨go107, ((x42_2).toNat * 2) + 1, none⟩ = some (.int .i64 ((rd_T128 (rd_L9 x5_3 x6_1) x42_2).f1))) (ds := [13]) #[false, false, false, false, false, false, false, false, false, false, false, false, false, false] (by kernel_rfl) rfl rfl ⟨(blk_cell BK337.out 0).trans rfl, (blk_cell BK337.out 1).trans rfl, hx359_0, hx360_0, hx360_1⟩ (fun hHeld => ?_); refine with_tabW impl_purse_table.tab19 impl_purse_table.bits19 (fun HT_ HW_ => ?_)
                generalize w120.drew = w121 at HO_5 HL334_0 HL338_0 BK320 BK337 BK340 HB GG107 HL359_0 HQ122 HR359_0 HX359_0 hf107_0 hf107_1 hx107_0 hx107_1 hx359_0 hx360_0 hx360_1 hHeld ⊢
                refine pu_ (i := 0) (N := some 114) (v := ?_) (a' := ?_) rfl rfl (any_of HT_.out (by kernel_rfl)) (fun _ _ _ h => h) (Or.inl ⟨by rfl, ?_⟩) ?_ ?_
                rotate_left; intro w'; go_simp; with_reducible rfl; rotate_left; simp only [Act.put, sA_, sZ_, sS_, i64_w, i32_w]; rfl
                refine pu_ (i := 1) (N := some 115) (v := ?_) (a' := ?_) rfl rfl (any_of HT_.out (by kernel_rfl)) (fun _ _ _ h => h) (Or.inl ⟨by rfl, ?_⟩) ?_ ?_
                rotate_left; intro w'; go_simp; with_reducible rfl; rotate_left; simp only [Act.put, sA_, sZ_, sS_, i64_w, i32_w]; rfl
                refine pu_ (i := 2) (N := some 116) (v := ?_) (a' := ?_) rfl rfl (any_of HT_.out (by kernel_rfl)) (fun _ _ _ h => h) (Or.inl ⟨by rfl, ?_⟩) ?_ ?_
                rotate_left; intro w'; go_simp; with_reducible rfl; rotate_left; simp only [Act.put, sA_, sZ_, sS_, i64_w, i32_w]; rfl
                refine pu_ (i := 4) (N := some 118) (v := ?_) (a' := ?_) rfl rfl (any_of HT_.out (by kernel_rfl)) (fun _ _ _ h => h) (Or.inl ⟨by rfl, ?_⟩) ?_ ?_
                rotate_left; intro w'; go_simp; with_reducible rfl; rotate_left; simp only [Act.put, sA_, sZ_, sS_, i64_w, i32_w]; rfl
                refine pu_ (i := 8) (N := some 122) (v := ?_) (a' := ?_) rfl rfl (any_of HT_.out (by kernel_rfl)) (fun _ _ _ h => h) (Or.inl ⟨by rfl, ?_⟩) ?_ ?_
                rotate_left; intro w'; go_simp; with_reducible rfl; rotate_left; simp only [Act.put, sA_, sZ_, sS_, i64_w, i32_w]; rfl
                refine tk_ (i := 3) (N := some 117) (v := ?_) (a' := ?_) rfl rfl (take_ofW HT_.out HW_.out (by kernel_rfl)) (fun _ _ _ h => h) (Or.inl ⟨by rfl, ?_⟩) hHeld ?_ ?_
                rotate_left; rintro w' ⟨s0, s1, s2, s3, s4⟩; go_simp; with_reducible rfl; rotate_left; simp only [Act.put, sA_, sZ_, sS_, i64_w, i32_w]; rfl
                refine pu_ (i := 5) (N := some 119) (v := ?_) (a' := ?_) rfl rfl (any_of HT_.out (by kernel_rfl)) (fun _ _ _ h => h) (Or.inl ⟨by rfl, ?_⟩) ?_ ?_
                rotate_left; intro w'; go_simp; with_reducible rfl; rotate_left; simp only [Act.put, sA_, sZ_, sS_, i64_w, i32_w]; rfl
                refine pu_ (i := 6) (N := some 120) (v := ?_) (a' := ?_) rfl rfl (any_of HT_.out (by kernel_rfl)) (fun _ _ _ h => h) (Or.inl ⟨by rfl, ?_⟩) ?_ ?_
                rotate_left; intro w'; go_simp; with_reducible rfl; rotate_left; simp only [Act.put, sA_, sZ_, sS_, i64_w, i32_w]; rfl
                refine tk_ (i := 7) (N := some 121) (v := ?_) (a' := ?_) rfl rfl (take_ofW HT_.out HW_.out (by kernel_rfl)) (fun _ _ _ h => h) (Or.inl ⟨by rfl, ?_⟩) hHeld ?_ ?_
                rotate_left; rintro w' ⟨s0, s1, s2, s3, s4⟩; go_simp; with_reducible rfl; rotate_left; simp only [Act.put, sA_, sZ_, sS_, i64_w, i32_w]; rfl
                refine tk_ (i := 9) (N := some 123) (v := ?_) (a' := ?_) rfl rfl (take_ofW HT_.out HW_.out (by kernel_rfl)) (fun _ _ _ h => h) (Or.inl ⟨by rfl, ?_⟩) hHeld ?_ ?_
                rotate_left; rintro w' ⟨s0, s1, s2, s3, s4⟩; go_simp; with_reducible rfl; rotate_left; simp only [Act.put, sA_, sZ_, sS_, i64_w, i32_w]; rfl
                refine pu_ (i := 10) (N := some 124) (v := ?_) (a' := ?_) rfl rfl (any_of HT_.out (by kernel_rfl)) (fun _ _ _ h => h) (Or.inl ⟨by rfl, ?_⟩) ?_ ?_
                rotate_left; intro w'; go_simp; with_reducible rfl; rotate_left; simp only [Act.put, sA_, sZ_, sS_, i64_w, i32_w]; rfl
                refine pu_ (i := 11) (N := some 125) (v := ?_) (a' := ?_) rfl rfl (any_of HT_.out (by kernel_rfl)) (fun _ _ _ h => h) (Or.inl ⟨by rfl, ?_⟩) ?_ ?_
                rotate_left; intro w'; go_simp; with_reducible rfl; rotate_left; simp only [Act.put, sA_, sZ_, sS_, i64_w, i32_w]; rfl
                refine pu_ (i := 12) (N := some 126) (v := ?_) (a' := ?_) rfl rfl (any_of HT_.out (by kernel_rfl)) (fun _ _ _ h => h) (Or.inl ⟨by rfl, ?_⟩) ?_ ?_
                rotate_left; intro w'; go_simp; with_reducible rfl; rotate_left; simp only [Act.put, sA_, sZ_, sS_, i64_w, i32_w]; rfl
                refine la_ (i := 13) (N := none) rfl rfl (one_of HT_.out (by kernel_rfl)) (by decide) (fun K hK => ?_)
                refine skip_ (w1 := ?_) (by rfl) rfl ?_ ?_
                rotate_left
                ·go_simp
                 rfl
                refine hK.out _ _ ?_
                clear hK K
                refine done_ (done_of HT_.out (by kernel_rfl)) ?_
                try go_wp2
                (try simp only [← hl5_3])
                go_roundg kj33
                case measure => have := HK1.out; have := HK2.out; have := HK3.out; have := HJ33.out; omega
                case rel => exact ⟨(y363), (wrap64 (x8_3 + 1)), (by first | rfl | (simp; done) | (simp [*]; done)), H', ⟨by have := HK1.out; have := HK2.out; have := HK3.out; have := HJ33.out; omega⟩, ⟨by (try simp only [hl5_2]); (try simp only [hl5_3]); (with_reducible repeat (first | apply Kd.S_alloc | apply Kd.S_drewN | apply Kd.S_drew)); exact Kd.S_mono HQ122.out (fun _ hk => trivial)⟩, ⟨by (try simp only [hl5_2]); (try simp only [hl5_3]); (with_reducible repeat (first | refine blk_drewN ?_ _ | refine blk_drew ?_ | refine blk_alloc ?_ _)); refine blk_far ?_ (by have h_ := Kd.R_ne HL359_0.out BK320.out (by decide); intro e_; exact h_ (by rw [e_]; rfl)) _; (with_reducible repeat (first | refine blk_drewN ?_ _ | refine blk_drew ?_ | refine blk_alloc ?_ _)); exact BK320.out⟩, ⟨by repeat (first | (with_reducible first | exact HB.out | apply below_alloc | apply pw_below_drewN | apply below_drew1 | refine below_set ?_ GB107.out | refine below_set ?_ GE320.out | refine below_set ?_ GE337.out | refine below_set ?_ GE340.out) | exact HB.out)⟩⟩
            ·replace c41 := Bool.eq_false_iff.mpr c41
             subst c41
             have H1 : (impl_purse_table.l1 kj33 a1 x5_3 x6_1 ji12 (wrap64 (x42_2 + 1)) l0_0 l0_1) = some r := by rw [if_neg (show ¬ (false = true) by decide)] at H; exact H
             clear H
             have H := H1
             clear H1
             have H' := Aside0.mk H
             clear H
             go_wp2
             (try simp only [← hl5_2, ← hl5_3])
             go_roundg kj33
             case measure => have := HK1.out; have := HK2.out; have := HK3.out; have := HJ33.out; omega
             case rel => exact ⟨(x5_3), (wrap64 (x42_2 + 1)), rfl, H', ⟨by have := HK1.out; have := HK2.out; have := HK3.out; have := HJ33.out; omega⟩, ⟨by (try simp only [hl5_2]); (try simp only [hl5_3]); (with_reducible repeat (first | apply Kd.S_alloc | apply Kd.S_drewN | apply Kd.S_drew)); exact HO_5.out⟩, ⟨by (try simp only [hl5_2]); (try simp only [hl5_3]); (with_reducible repeat (first | refine blk_drewN ?_ _ | refine blk_drew ?_ | refine blk_alloc ?_ _)); exact BK320.out⟩, ⟨HB.out⟩⟩
       ·rw [if_neg c33] at H
        have c33b0 : decide (x42_2 < ji12) = false := decide_eq_false c33
        clear c33
        have H' := Aside0.mk H
        clear H
        go_wp2
        (try simp only [← hl5_2])
        go_roundg k2
        case measure => have := HK1.out; have := HK2.out; omega
        case rel => exact ⟨(x5_2), (wrap64 (x6_1 - 1)), rfl, H', ⟨by have := HK1.out; have := HK2.out; omega⟩, ⟨by (try simp only [hl5_2]); (with_reducible repeat (first | apply Kd.S_alloc | apply Kd.S_drewN | apply Kd.S_drew)); exact HO_5.out⟩, ⟨by (try simp only [hl5_2]); (with_reducible repeat (first | refine blk_drewN ?_ _ | refine blk_drew ?_ | refine blk_alloc ?_ _)); exact BK320.out⟩, ⟨HB.out⟩⟩
   ·rw [if_neg c11] at H
    have c11b0 : decide (0 ≤ x6_1) = false := decide_eq_false c11
    clear c11
    obtain rfl := Option.some.inj H
    go_wp2
    go_ret
    exact ⟨_, rfl, HO_5.out, HB.out⟩

end Go.Proofs.Ytdeipindfhkioaa.Q
