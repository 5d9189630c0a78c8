-- made by wip/tools/mk.py of this session's repo, by way of the kit's print.py: Lean checks it.
import Derived.Test.YtdeipindfhkioaaQ0
import Derived.Test.YtdeipindfhkioaaQ3
import Derived.Test.YtdeipindfhkioaaQ4
import Derived.Test.YtdeipindfhkioaaQ6
namespace Go.Proofs.Ytdeipindfhkioaa.Q
open Go.RowKit Go.Proofs.YtdeipindfhkioaaW.PrintWords Go.Proofs.YtdeipindfhkioaaW.PrintLast Go.Proofs.YtdeipindfhkioaaW.PrintMore Go.Proofs.YtdeipindfhkioaaMine
attribute [local go_sem] max2_int min2_int max_two min_two max_three min_three max_four min_four   -- for this text's walks alone
set_option linter.unusedVariables false
set_option linter.unusedSimpArgs false

def spec_StampsFor.j0 : Nat → Int → Int → List Int → Bool → List Int → List (List Int) → Option (List Int × Int)
 | 0, _, _, _, _, _, _ => none
 | k + 1, x1, x2, x3, x21, x226000, x226001 => if x21 = true then (some ((([] : List Int)), 1)) else ((spec_PriceOf.f k x226000 x226001 x1 x2).bind fun bt231 => (if bt231.2 = 0 then ((f9z.f k x3 bt231.1).bind fun bt233 => (some (bt233.1, bt233.2.2))) else (some ((([] : List Int)), bt231.2))))
def spec_StampsFor.f (k : Nat) (l0_0 : List Int) (l0_1 : List (List Int)) (a1 : Int) (a2 : Int) (l3 : List Int) : Option (List Int × Int) := (spec_l03Ok.f k l0_0 l0_1).bind fun t226 => (if t226 = true then ((spec_l01Values.f k l3).bind fun t227 => (spec_StampsFor.j0 k a1 a2 l3 (!t227) l0_0 l0_1)) else (spec_StampsFor.j0 k a1 a2 l3 true l0_0 l0_1))
theorem spec_StampsFor.mono_l : ∀ k, (∀ y0 y1 y2 y3 y4 y5, LeO (spec_StampsFor.j0 k y0 y1 y2 y3 y4 y5) (spec_StampsFor.j0 (k + 1) y0 y1 y2 y3 y4 y5))
 | 0 => fun _ _ _ _ _ _ r h => by simp [spec_StampsFor.j0] at h
 | k + 1 => by
  have ih0 := spec_StampsFor.mono_l k
  ·intro y0 y1 y2 y3 y4 y5
   unfold spec_StampsFor.j0
   repeat' first
   | (with_reducible exact ih0 _ _ _ _ _ _)
   | (with_reducible exact f9z.mono _ _ _)
   | (with_reducible exact spec_PriceOf.mono _ _ _ _ _)
   | (with_reducible exact spec_l01Values.mono _ _)
   | (with_reducible exact spec_l03Ok.mono _ _ _)
   | (with_reducible exact LeO.refl _)
   | (with_reducible exact LeO.none _)
   | (with_reducible refine LeO.ite ?_ ?_)
   | (with_reducible refine LeO.bind ?_ (fun _ => ?_))
   | exact ih0 _ _ _ _ _ _
   | exact f9z.mono _ _ _
   | exact spec_PriceOf.mono _ _ _ _ _
   | exact spec_l01Values.mono _ _
   | exact spec_l03Ok.mono _ _ _
   | exact LeO.none _
   | refine LeO.ite ?_ ?_
   | refine LeO.bind ?_ (fun _ => ?_)
theorem spec_StampsFor.mono : ∀ a0 a1 a2 a3 a4 k, LeO (spec_StampsFor.f k a0 a1 a2 a3 a4) (spec_StampsFor.f (k + 1) a0 a1 a2 a3 a4) := by
 intro a0 a1 a2 a3 a4 k
 have ih0 := spec_StampsFor.mono_l k
 unfold spec_StampsFor.f
 repeat' first
   | (with_reducible exact ih0 _ _ _ _ _ _)
   | (with_reducible exact f9z.mono _ _ _)
   | (with_reducible exact spec_PriceOf.mono _ _ _ _ _)
   | (with_reducible exact spec_l01Values.mono _ _)
   | (with_reducible exact spec_l03Ok.mono _ _ _)
   | (with_reducible exact LeO.refl _)
   | (with_reducible exact LeO.none _)
   | (with_reducible refine LeO.ite ?_ ?_)
   | (with_reducible refine LeO.bind ?_ (fun _ => ?_))
   | exact ih0 _ _ _ _ _ _
   | exact f9z.mono _ _ _
   | exact spec_PriceOf.mono _ _ _ _ _
   | exact spec_l01Values.mono _ _
   | exact spec_l03Ok.mono _ _ _
   | exact LeO.none _
   | refine LeO.ite ?_ ?_
   | refine LeO.bind ?_ (fun _ => ?_)
set_option maxHeartbeats 8000000 in
set_option maxRecDepth 100000 in
theorem spec_StampsFor.calls (k : Nat) (A0_0 : Option Addr) (c0_0 : Nat) (l0_0 : List Int) (A0_1 : Option Addr) (c0_1 : Nat) (l0_1 : List (List Int)) (a1 : Int) (a2 : Int) (A3 : Option Addr) (c3 : Nat) (l3 : List Int) (r1 : List Int) (r2 : Int) (w : World) (hr0_0 : Kd.C (Kd.int .i16) w A0_0 l0_0.length l0_0) (hc0_0 : l0_0.length ≤ c0_0) (hr0_1 : Kd.C (Kd.slice 81 (Kd.int .i16)) w A0_1 l0_1.length l0_1) (hc0_1 : l0_1.length ≤ c0_1) (hr3 : Kd.C (Kd.int .i64) w A3 l3.length l3) (hc3 : l3.length ≤ c3) (h : spec_StampsFor.f k l0_0 l0_1 a1 a2 l3 = some (r1, r2)) :
  Calls Try.prog 39 #[.agg #[.slice A0_0 l0_0.length c0_0, .slice A0_1 l0_1.length c0_1], .int .i64 a1, .int .i64 a2, .slice A3 l3.length c3] w fun e w' => ∃ v0_ : Value, e = .returned (.tuple #[v0_, .int .i64 r2]) ∧ Kd.R (Kd.int .i64) 2 w' w.heap.size (fun _ => True) v0_ r1 ∧ Below w.heap.size w w' := by
 have hu38 := Try.underlying38
 have HR0_0 := Aside0.mk hr0_0
 have HC0_0 := Aside0.mk hc0_0
 clear hr0_0 hc0_0
 have HR0_1 := Aside0.mk hr0_1
 have HC0_1 := Aside0.mk hc0_1
 clear hr0_1 hc0_1
 have HR3 := Aside0.mk hr3
 have HC3 := Aside0.mk hc3
 clear hr3 hc3
 have HB := Aside0.mk (Below.refl w.heap.size w)
 have H : ((spec_l03Ok.f k l0_0 l0_1).bind fun t226 => (if t226 = true then ((spec_l01Values.f k l3).bind fun t227 => (spec_StampsFor.j0 k a1 a2 l3 (!t227) l0_0 l0_1)) else (spec_StampsFor.j0 k a1 a2 l3 true l0_0 l0_1))) = some (r1, r2) := h
 clear h
 have HC5 := Aside0.mk H
 clear H
 go_enter Try.func39, Try.ntmps39
 go_upto_region 1 with (first | ((with_reducible refine gate_dst (N := 4) rfl ?_); refine box_event ?hg (N := 4) ?hd (cs := #[.slice A0_0 l0_0.length c0_0, .slice A0_1 l0_1.length c0_1]) (t := 38) ?hr ?_; (case hd => rfl); (case hg => rfl); (case hr => go_simp; try rfl); intro gb225 hg w6 hbox hb; have BK225 := Aside0.mk (hbox); have GW225 := Aside0.mk ((by rw [hg]; exact (below_size HB.out) : w.heap.size ≤ gb225)); have GE225 := Aside0.mk ((by rw [hg]; exact (below_size HB.out) : w.heap.size ≤ gb225)); replace HB := Aside0.mk (below_step HB.out hb); clear hb hbox hg))
 (try simp only [Act.put, sA_, sZ_, sS_])
 go_cut [21] (fun v21 wc => ∃ (kq : Nat) (x21_4 : Bool), v21 = .bool x21_4 ∧ Aside0 (spec_StampsFor.j0 kq a1 a2 l3 x21_4 l0_0 l0_1 = some (r1, r2)) ∧ Aside0 (kq ≤ k) ∧ Aside0 (wc.heap[gb225]? = some (.cells #[(.slice A0_0 l0_0.length c0_0), (.slice A0_1 l0_1.length c0_1)] 38 (0, 0))) ∧ Aside0 (Below w.heap.size w wc))
 case first =>
  have H := HC5.out
  clear HC5
  replace H := Option.bind_eq_some_iff.mp H
  obtain ⟨t226, A70, H⟩ := H
  replace H : (if t226 = true then ((spec_l01Values.f k l3).bind fun t227 => (spec_StampsFor.j0 k a1 a2 l3 (!t227) l0_0 l0_1)) else (spec_StampsFor.j0 k a1 a2 l3 true l0_0 l0_1)) = some (r1, r2) := H
  have A7 := Aside0.mk A70
  clear A70
  by_cases c8 : t226 = true
  ·subst c8
   have H1 : ((spec_l01Values.f k l3).bind fun t227 => (spec_StampsFor.j0 k a1 a2 l3 (!t227) l0_0 l0_1)) = some (r1, r2) := by rw [if_pos rfl] at H; exact H
   clear H
   have H := H1
   clear H1
   replace H := Option.bind_eq_some_iff.mp H
   obtain ⟨t227, A90, H⟩ := H
   replace H : (spec_StampsFor.j0 k a1 a2 l3 (!t227) l0_0 l0_1) = some (r1, r2) := H
   have A9 := Aside0.mk A90
   clear A90
   have H' := Aside0.mk H
   clear H
   go_wp2_with (first | ((with_reducible refine gate_callee (f := 41) rfl ?_); refine goesL_ (some 15) rfl rfl Try.func41 (by kernel_rfl) rfl #[.pointer (some ⟨gb225, 0, none⟩)] rfl (by simp only [List.map_toArray, List.map_cons, List.map_nil]; try rfl) ?_; (with_reducible refine (spec_l03Ok.calls k gb225 A0_0 c0_0 l0_0 A0_1 c0_1 l0_1 true _ ?side1 ?side2 ?side3 ?side4 ?side5 A7.out).mono ?_); (case side1 => exact (Kd.C_below HR0_0.out HB.out)); (case side2 => exact HC0_0.out); (case side3 => exact (Kd.C_below HR0_1.out HB.out)); (case side4 => exact HC0_1.out); (case side5 => (with_reducible repeat (first | refine blk_drewN ?_ _ | refine blk_drew ?_ | refine blk_alloc ?_ _)); exact BK225.out); rintro e w10 ⟨rfl, hb⟩; refine ⟨_, rfl, ?_⟩; replace BK225 := Aside0.mk (blk_below (g := gb225) (o := .cells #[.slice A0_0 l0_0.length c0_0, .slice A0_1 l0_1.length c0_1] 38 (0, 0)) BK225.out hb); replace HB := Aside0.mk (below_step HB.out hb)) | (go_at_call 85; (with_reducible refine (spec_l01Values.calls k _ _ l3 t227 _ ?side1 ?side2 A9.out).mono ?_); (case side1 => exact (Kd.C_below HR3.out HB.out)); (case side2 => exact HC3.out); rintro e w' ⟨rfl, ⟨nd, rfl⟩⟩))
   go_meet
   case rel => exact ⟨_, (!t227), (by first | rfl | (simp; done) | (simp [*]; done)), H', ⟨by first | omega | exact Nat.le_refl _⟩, ⟨by (with_reducible repeat (first | refine blk_drewN ?_ _ | refine blk_drew ?_ | refine blk_alloc ?_ _)); exact BK225.out⟩, ⟨by repeat (first | (with_reducible first | exact HB.out | apply below_alloc | apply pw_below_drewN | apply below_drew1 | refine below_set ?_ GE225.out) | exact HB.out)⟩⟩
  ·replace c8 := Bool.eq_false_iff.mpr c8
   subst c8
   have H1 : (spec_StampsFor.j0 k a1 a2 l3 true l0_0 l0_1) = some (r1, r2) := by rw [if_neg (show ¬ (false = true) by decide)] at H; exact H
   clear H
   have H := H1
   clear H1
   have H' := Aside0.mk H
   clear H
   go_wp2_with (first | ((with_reducible refine gate_callee (f := 41) rfl ?_); refine goesL_ (some 15) rfl rfl Try.func41 (by kernel_rfl) rfl #[.pointer (some ⟨gb225, 0, none⟩)] rfl (by simp only [List.map_toArray, List.map_cons, List.map_nil]; try rfl) ?_; (with_reducible refine (spec_l03Ok.calls k gb225 A0_0 c0_0 l0_0 A0_1 c0_1 l0_1 false _ ?side1 ?side2 ?side3 ?side4 ?side5 A7.out).mono ?_); (case side1 => exact (Kd.C_below HR0_0.out HB.out)); (case side2 => exact HC0_0.out); (case side3 => exact (Kd.C_below HR0_1.out HB.out)); (case side4 => exact HC0_1.out); (case side5 => (with_reducible repeat (first | refine blk_drewN ?_ _ | refine blk_drew ?_ | refine blk_alloc ?_ _)); exact BK225.out); rintro e w11 ⟨rfl, hb⟩; refine ⟨_, rfl, ?_⟩; replace BK225 := Aside0.mk (blk_below (g := gb225) (o := .cells #[.slice A0_0 l0_0.length c0_0, .slice A0_1 l0_1.length c0_1] 38 (0, 0)) BK225.out hb); replace HB := Aside0.mk (below_step HB.out hb)))
   go_meet
   case rel => exact ⟨_, (true), rfl, H', ⟨by first | omega | exact Nat.le_refl _⟩, ⟨BK225.out⟩, ⟨HB.out⟩⟩
 case rest =>
  clear HC5
  try clear p2
  try clear c3
  try clear c4
  try clear c8
  obtain ⟨kq, x21_4, rfl, HA, HJ4, BK225, HB⟩ := hcut
  cases kq with
  | zero => exact absurd HA.out (by simp [spec_StampsFor.j0])
  | succ kj4 =>
   have H := HA.out
   clear HA
   simp only [spec_StampsFor.j0] at H
   by_cases c12 : x21_4 = true
   ·subst c12
    have H1 : (some ((([] : List Int)), 1)) = some (r1, r2) := by rw [if_pos rfl] at H; exact H
    clear H
    have H := H1
    clear H1
    obtain ⟨y228, hy228⟩ : ∃ y_ : List Int, y_ = (([] : List Int)) := ⟨_, rfl⟩
    replace H : (some (y228, 1)) = some (r1, r2) := by rw [hy228]; exact H
    have Ny228 := Aside0.mk hy228
    clear hy228
    simp only [Option.some.injEq, Prod.mk.injEq] at H
    obtain ⟨rfl, rfl⟩ := H
    go_wp2_with (first | ((with_reducible refine gate_dst (N := 22) rfl ?_); refine Kd.R_lit (Kd.int .i64) _ 2 ?hg (N := 22) ?hd (xs := ([] : List Int)) (inner := []) (ok := fun _ => True) (okp := fun _ => True) ?hr ?hp (fun _ hk => hk) trivial (Below.refl _ _) (Nat.le_refl _) (by simp) ?_; (case hd => rfl); (case hg => rfl); (case hr => go_simp; try rfl); (case hp => exact (Reps.none _ _)); intro v229 w13 ho14 hb hg_ hnew_; clear hg_ hnew_; (first | rw [← Ny228.out] at ho14 | (simp only [Int.reduceToNat] at ho14; rw [← Ny228.out] at ho14)); have HO230 := Aside0.mk (Kd.R_lower ho14 (below_size HB.out)); replace BK225 := Aside0.mk (blk_below (g := gb225) (o := .cells #[.slice A0_0 l0_0.length c0_0, .slice A0_1 l0_1.length c0_1] 38 (0, 0)) BK225.out hb); replace HB := Aside0.mk (below_step HB.out hb); clear hb ho14))
    go_ret2
    exact ⟨_, rfl, HO230.out, HB.out⟩
   ·replace c12 := Bool.eq_false_iff.mpr c12
    subst c12
    have H1 : ((spec_PriceOf.f kj4 l0_0 l0_1 a1 a2).bind fun bt231 => (if bt231.2 = 0 then ((f9z.f kj4 l3 bt231.1).bind fun bt233 => (some (bt233.1, bt233.2.2))) else (some ((([] : List Int)), bt231.2)))) = some (r1, r2) := by rw [if_neg (show ¬ (false = true) by decide)] at H; exact H
    clear H
    have H := H1
    clear H1
    replace H := Option.bind_eq_some_iff.mp H
    obtain ⟨⟨t231, t232⟩, A150, H⟩ := H
    replace H : (if t232 = 0 then ((f9z.f kj4 l3 t231).bind fun bt233 => (some (bt233.1, bt233.2.2))) else (some ((([] : List Int)), t232))) = some (r1, r2) := H
    have A15 := Aside0.mk A150
    clear A150
    by_cases c16 : t232 = 0
    ·rw [if_pos c16] at H
     have c16b0 : (t232 == 0) = true := beq_iff_eq.mpr c16
     have c16b1 : (t232 != 0) = false := bne_eq_false_iff_eq.mpr c16
     clear c16
     replace H := Option.bind_eq_some_iff.mp H
     obtain ⟨⟨t233, t234, t235⟩, A170, H⟩ := H
     replace H : (some (t233, t235)) = some (r1, r2) := H
     have A17 := Aside0.mk A170
     clear A170
     simp only [Option.some.injEq, Prod.mk.injEq] at H
     obtain ⟨rfl, rfl⟩ := H
     have hcz18_0 : wc.cell? ⟨gb225, 0, none⟩ = some (.slice A0_0 l0_0.length c0_0) := (blk_cell BK225.out 0).trans rfl
     have hcz18_1 : wc.cell? ⟨gb225, 1, none⟩ = some (.slice A0_1 l0_1.length c0_1) := (blk_cell BK225.out 1).trans rfl
     have hfz18_0 := blk_frozen BK225.out 0
     have hfz18_1 := blk_frozen BK225.out 1
     go_wp2_with (first | ((with_reducible refine gate_callee (f := 86) rfl ?_); refine goesL_ (some 27) rfl rfl Try.func86 (by kernel_rfl) rfl #[.agg #[.slice A0_0 l0_0.length c0_0, .slice A0_1 l0_1.length c0_1], .int .i64 a1, .int .i64 a2] rfl (by simp only [List.map_toArray, List.map_cons, List.map_nil]; try rfl) ?_; (with_reducible refine (spec_PriceOf.calls kj4 _ _ l0_0 _ _ l0_1 a1 a2 t231 t232 _ ?side1 ?side2 ?side3 ?side4 A15.out).mono ?_); (case side1 => exact (Kd.C_below HR0_0.out HB.out)); (case side2 => exact HC0_0.out); (case side3 => exact (Kd.C_below HR0_1.out HB.out)); (case side4 => exact HC0_1.out); rintro e w19 ⟨rfl, hb⟩; refine ⟨_, rfl, ?_⟩; replace BK225 := Aside0.mk (blk_below (g := gb225) (o := .cells #[.slice A0_0 l0_0.length c0_0, .slice A0_1 l0_1.length c0_1] 38 (0, 0)) BK225.out hb); replace HB := Aside0.mk (below_step HB.out hb)) | ((with_reducible refine gate_callee (f := 87) rfl ?_); refine goesL_ (some 37) rfl rfl Try.func87 (by kernel_rfl) rfl #[.slice A3 l3.length c3, .int .i64 t231] rfl (by simp only [List.map_toArray, List.map_cons, List.map_nil]; try rfl) ?_; (with_reducible refine (f9z.calls kj4 _ _ l3 t231 t233 t234 t235 _ ?side1 ?side2 A17.out).mono ?_); (case side1 => exact (Kd.C_below HR3.out HB.out)); (case side2 => exact HC3.out); rintro e w20 ⟨v236, rfl, ho0, hb⟩; refine ⟨_, rfl, ?_⟩; have HO237 := Aside0.mk (Kd.R_lower ho0 (below_size HB.out)); replace BK225 := Aside0.mk (blk_below (g := gb225) (o := .cells #[.slice A0_0 l0_0.length c0_0, .slice A0_1 l0_1.length c0_1] 38 (0, 0)) BK225.out hb); replace HB := Aside0.mk (below_step HB.out hb)))
     go_ret2
     exact ⟨_, rfl, HO237.out, HB.out⟩
    ·rw [if_neg c16] at H
     have c16b0 : (t232 == 0) = false := beq_eq_false_iff_ne.mpr c16
     have c16b1 : (t232 != 0) = true := bne_iff_ne.mpr c16
     obtain ⟨y238, hy238⟩ : ∃ y_ : List Int, y_ = (([] : List Int)) := ⟨_, rfl⟩
     replace H : (some (y238, t232)) = some (r1, r2) := by rw [hy238]; exact H
     have Ny238 := Aside0.mk hy238
     clear hy238
     simp only [Option.some.injEq, Prod.mk.injEq] at H
     obtain ⟨rfl, rfl⟩ := H
     have hcz21_0 : wc.cell? ⟨gb225, 0, none⟩ = some (.slice A0_0 l0_0.length c0_0) := (blk_cell BK225.out 0).trans rfl
     have hcz21_1 : wc.cell? ⟨gb225, 1, none⟩ = some (.slice A0_1 l0_1.length c0_1) := (blk_cell BK225.out 1).trans rfl
     have hfz21_0 := blk_frozen BK225.out 0
     have hfz21_1 := blk_frozen BK225.out 1
     go_wp2_with (first | ((with_reducible refine gate_callee (f := 86) rfl ?_); refine goesL_ (some 27) rfl rfl Try.func86 (by kernel_rfl) rfl #[.agg #[.slice A0_0 l0_0.length c0_0, .slice A0_1 l0_1.length c0_1], .int .i64 a1, .int .i64 a2] rfl (by simp only [List.map_toArray, List.map_cons, List.map_nil]; try rfl) ?_; (with_reducible refine (spec_PriceOf.calls kj4 _ _ l0_0 _ _ l0_1 a1 a2 t231 t232 _ ?side1 ?side2 ?side3 ?side4 A15.out).mono ?_); (case side1 => exact (Kd.C_below HR0_0.out HB.out)); (case side2 => exact HC0_0.out); (case side3 => exact (Kd.C_below HR0_1.out HB.out)); (case side4 => exact HC0_1.out); rintro e w22 ⟨rfl, hb⟩; refine ⟨_, rfl, ?_⟩; replace BK225 := Aside0.mk (blk_below (g := gb225) (o := .cells #[.slice A0_0 l0_0.length c0_0, .slice A0_1 l0_1.length c0_1] 38 (0, 0)) BK225.out hb); replace HB := Aside0.mk (below_step HB.out hb)) | ((with_reducible refine gate_dst (N := 32) rfl ?_); refine Kd.R_lit (Kd.int .i64) _ 2 ?hg (N := 32) ?hd (xs := ([] : List Int)) (inner := []) (ok := fun _ => True) (okp := fun _ => True) ?hr ?hp (fun _ hk => hk) trivial (Below.refl _ _) (Nat.le_refl _) (by simp) ?_; (case hd => rfl); (case hg => rfl); (case hr => go_simp; try rfl); (case hp => exact (Reps.none _ _)); intro v239 w23 ho24 hb hg_ hnew_; clear hg_ hnew_; (first | rw [← Ny238.out] at ho24 | (simp only [Int.reduceToNat] at ho24; rw [← Ny238.out] at ho24)); have HO240 := Aside0.mk (Kd.R_lower ho24 (below_size HB.out)); replace BK225 := Aside0.mk (blk_below (g := gb225) (o := .cells #[.slice A0_0 l0_0.length c0_0, .slice A0_1 l0_1.length c0_1] 38 (0, 0)) BK225.out hb); replace HB := Aside0.mk (below_step HB.out hb); clear hb ho24))
     go_ret2
     exact ⟨_, rfl, HO240.out, HB.out⟩

def impl_within.f (a0 : Int) (a1 : Int) (a2 : Int) : Option (Bool) := if a1 ≤ a0 then (some (decide (a0 ≤ a2))) else (some false)
set_option maxHeartbeats 8000000 in
set_option maxRecDepth 100000 in
theorem impl_within.calls (a0 : Int) (a1 : Int) (a2 : Int) (r : Bool) (w : World) (h : impl_within.f a0 a1 a2 = some r) :
  Calls Try.prog 48 #[.int .i64 a0, .int .i64 a1, .int .i64 a2] w fun e w' => e = .returned (.bool r) ∧ Drawn0 w w' := by
 have H : (if a1 ≤ a0 then (some (decide (a0 ≤ a2))) else (some false)) = some r := h
 clear h
 by_cases c4 : a1 ≤ a0
 ·rw [if_pos c4] at H
  have c4b0 : decide (a1 ≤ a0) = true := decide_eq_true c4
  clear c4
  obtain rfl := Option.some.inj H
  go_enter Try.func48, Try.ntmps48
  go_wp2
  go_ret
  exact ⟨by first | rfl | (simp; done) | (simp [*]; done), by repeat (first | exact Drawn0.refl _ | apply Drawn0.step)⟩
 ·rw [if_neg c4] at H
  have c4b0 : decide (a1 ≤ a0) = false := decide_eq_false c4
  clear c4
  obtain rfl := Option.some.inj H
  go_enter Try.func48, Try.ntmps48
  go_wp2
  go_ret
  exact ⟨by first | rfl | (simp; done) | (simp [*]; done), by repeat (first | exact Drawn0.refl _ | apply Drawn0.step)⟩

def impl_areWithin_1.f (a0 : Int) (a1_0 : Int) (a1_1 : Int) : Option (Bool) := (impl_within.f a0 a1_0 a1_1).bind fun t243 => (some (!t243))
set_option maxHeartbeats 8000000 in
set_option maxRecDepth 100000 in
theorem impl_areWithin_1.calls (a0 : Int) (B1_0 : Nat) (B1_1 : Nat) (a1_0 : Int) (a1_1 : Int) (r : Bool) (w : World) (hkB1_0 : w.heap[B1_0]? = some (.cells #[.int .i64 a1_0] 2 (0, 0))) (hkB1_1 : w.heap[B1_1]? = some (.cells #[.int .i64 a1_1] 2 (0, 0))) (h : impl_areWithin_1.f a0 a1_0 a1_1 = some r) :
  Calls Try.prog 100 #[.int .i64 a0, .pointer (some ⟨B1_0, 0, none⟩), .pointer (some ⟨B1_1, 0, none⟩)] w fun e w' => e = .returned (.bool r) ∧ Below w.heap.size w w' := by
 have BK241 := Aside0.mk hkB1_0
 clear hkB1_0
 have BK242 := Aside0.mk hkB1_1
 clear hkB1_1
 have HB := Aside0.mk (Below.refl w.heap.size w)
 have H : ((impl_within.f a0 a1_0 a1_1).bind fun t243 => (some (!t243))) = some r := h
 clear h
 replace H := Option.bind_eq_some_iff.mp H
 obtain ⟨t243, A30, H⟩ := H
 replace H : (some (!t243)) = some r := H
 have A3 := Aside0.mk A30
 clear A30
 obtain rfl := Option.some.inj H
 have hcz4_0 : w.cell? ⟨B1_0, 0, none⟩ = some (.int .i64 a1_0) := (blk_cell BK241.out 0).trans rfl
 have hfz4_0 := blk_frozen BK241.out 0
 have hcz5_0 : w.cell? ⟨B1_1, 0, none⟩ = some (.int .i64 a1_1) := (blk_cell BK242.out 0).trans rfl
 have hfz5_0 := blk_frozen BK242.out 0
 go_enter Try.func100, Try.ntmps100
 go_wp2_with (first | ((with_reducible refine gate_callee (f := 48) rfl ?_); refine goesL_ (some 8) rfl rfl Try.func48 (by kernel_rfl) rfl #[.int .i64 a0, .int .i64 a1_0, .int .i64 a1_1] rfl (by simp only [List.map_toArray, List.map_cons, List.map_nil]; try rfl) ?_; (with_reducible refine (impl_within.calls a0 a1_0 a1_1 t243 _ A3.out).mono ?_); rintro e w' ⟨rfl, ⟨nd, rfl⟩⟩; refine ⟨_, rfl, ?_⟩))
 go_ret
 exact ⟨by first | rfl | (simp [errW_none, errW_some] <;> rfl) | (simp [*, errW_none, errW_some] <;> rfl), by repeat (first | (with_reducible first | exact HB.out | apply below_alloc | apply pw_below_drewN | apply below_drew1 | refine below_set ?_ GE241.out | refine below_set ?_ GE242.out) | exact HB.out)⟩

set_option maxHeartbeats 4000000 in
theorem f3z.calls (p : Int → Option Bool) (g : Nat) (lb : Array Value) (eg : ∀ args w, (callFunc g args).run Try.prog w = .ok (.enter g args) w) (A0 : Option Addr) (c0 : Nat) (l0 : List Int) (r : Int) (w : World) (hr0 : Kd.C (Kd.int .i64) w A0 l0.length l0)
  (hp : ∀ (W : World) (x : Int) (b : Bool), x ∈ l0 → p x = some b → Below w.heap.size w W → Calls Try.prog g (#[.int .i64 x] ++ lb) W fun e w' => e = .returned (.bool b) ∧ Below w.heap.size w w')
  (h : findO p l0 = some r) :
  Calls Try.prog 82 #[.slice A0 l0.length c0, .func (.func g) #[] lb] w fun e w' => e = .returned (.int .i64 r) ∧ Below w.heap.size w w' := by
 have hb9 : l0.length ≤ 9223372036854775807 := hr0.2.1
 have HR := Aside0.mk hr0
 have HP := Aside0.mk hp
 have HF := Aside0.mk h
 clear hr0 hp h
 go_enter Try.func82, Try.ntmps82
 go_wp2
 go_loopg [5, 8] l0.length (fun gg _ s8 wr => ∃ kk : Nat, kk ≤ l0.length ∧ l0.length - kk ≤ gg ∧ s8 = .int .i64 kk ∧ Aside0 (Below w.heap.size w wr) ∧ Aside0 (∀ x ∈ l0.take kk, p x = some false))
 case atStart => exact ⟨0, Nat.zero_le _, by omega, rfl, ⟨Below.refl _ w⟩, ⟨fun x hx => by simp at hx⟩⟩
 case round =>
  obtain ⟨kk, hkk, hg, rfl, BW, AF⟩ := hrel
  by_cases hlt : kk < l0.length
  ·have hltz : (kk : Int) < (l0.length : Int) := by omega
   obtain ⟨ad, cz, e0, _, hKz, hcz⟩ := Kd.C_get HR.out 0 (kk : Int) (by omega) (by omega)
   obtain rfl : cz = [.int .i64 (rd l0 (kk : Int))] := hKz
   have h0 := hcz 0 _ rfl
   clear hcz; (try clear hKz)
   simp only [show ((Kd.int .i64)).sz = 1 from rfl, Nat.mul_one, Nat.add_zero] at h0
   cases e0
   replace h0 := (BW.out.cell (World.block_lt_of_cell? w _ h0)).trans h0
   simp only [Int.toNat_natCast] at h0
   have hm : rd l0 (kk : Int) ∈ l0 ∧ l0[kk]? = some (rd l0 (kk : Int)) := get_mem 0 hlt
   obtain ⟨bq, hbq⟩ := findO_at p l0 kk _ r hm.2 AF.out HF.out
   have hcall := HP.out wr (rd l0 (kk : Int)) bq hm.1 hbq BW.out
   have hk2 : Aside0 (l0[kk]? = some (rd l0 (kk : Int))) := ⟨hm.2⟩
   have HQ := Aside0.mk hbq
   clear hm hbq
   generalize rd l0 (kk : Int) = y at hcall hk2 HQ h0
   cases bq with
   | true =>
    go_wp2_with (go_at_fn g; refine hcall.mono ?_; rintro e w' ⟨rfl, hb'⟩)
    go_ret
    refine ⟨?_, hb'⟩
    rw [findO_hit p l0 kk y r hk2.out HQ.out AF.out HF.out]
    rfl
   | false =>
    go_wp2_with (go_at_fn g; refine hcall.mono ?_; rintro e w' ⟨rfl, hb'⟩)
    go_roundg (l0.length - (kk + 1))
    case measure => omega
    case rel => exact ⟨kk + 1, by omega, by omega, by go_num, ⟨hb'⟩, ⟨take_step hk2.out HQ.out AF.out⟩⟩
  ·have hltz : ¬ (kk : Int) < (l0.length : Int) := by omega
   have hkl : Aside0 (kk = l0.length) := ⟨by omega⟩
   go_wp2
   go_ret
   refine ⟨?_, BW.out⟩
   rw [findO_miss p l0 r (fun x hx => AF.out x (by rw [hkl.out, List.take_length]; exact hx)) HF.out]
   rfl

set_option maxHeartbeats 4000000 in
theorem f4z.calls (p : Int → Option Bool) (g : Nat) (lb : Array Value) (eg : ∀ args w, (callFunc g args).run Try.prog w = .ok (.enter g args) w) (A0 : Option Addr) (c0 : Nat) (l0 : List Int) (r : Bool) (w : World) (hr0 : Kd.C (Kd.int .i64) w A0 l0.length l0)
  (hp : ∀ (W : World) (x : Int) (b : Bool), x ∈ l0 → p x = some b → Below w.heap.size w W → Calls Try.prog g (#[.int .i64 x] ++ lb) W fun e w' => e = .returned (.bool b) ∧ Below w.heap.size w w')
  (h : anyO p l0 = some r) :
  Calls Try.prog 99 #[.slice A0 l0.length c0, .func (.func g) #[] lb] w fun e w' => e = .returned (.bool r) ∧ Below w.heap.size w w' := by
 obtain ⟨i, hi, hri⟩ := Option.bind_eq_some_iff.1 h
 obtain rfl := Option.some.inj hri
 have hcon := f3z.calls p g lb eg A0 c0 l0 i w hr0 hp hi
 clear hp hr0 eg h hi hri
 go_enter Try.func99, Try.ntmps99
 go_wp2_with (go_at_call 82; refine hcon.mono ?_; rintro e w' ⟨rfl, hb'⟩)
 go_ret
 exact ⟨by first | rfl | simp, hb'⟩

def f5z.f (l0 : List Int) (a1_0 : Int) (a1_1 : Int) : Option (Bool) := anyO (fun x => impl_areWithin_1.f x a1_0 a1_1) l0
set_option maxHeartbeats 4000000 in
theorem f5z.calls (A0 : Option Addr) (c0 : Nat) (l0 : List Int) (B1_0 : Nat) (B1_1 : Nat) (a1_0 : Int) (a1_1 : Int) (r : Bool) (w : World) (hr0 : Kd.C (Kd.int .i64) w A0 l0.length l0) (hc0 : l0.length ≤ c0) (hk1_0 : w.heap[B1_0]? = some (.cells #[.int .i64 a1_0] 2 (0, 0))) (hk1_1 : w.heap[B1_1]? = some (.cells #[.int .i64 a1_1] 2 (0, 0))) (h : f5z.f l0 a1_0 a1_1 = some r) :
  Calls Try.prog 99 #[.slice A0 l0.length c0, .func (.func 100) #[] #[.pointer (some ⟨B1_0, 0, none⟩), .pointer (some ⟨B1_1, 0, none⟩)]] w fun e w' => e = .returned (.bool r) ∧ Below w.heap.size w w' :=
 f4z.calls (fun x => impl_areWithin_1.f x a1_0 a1_1) 100 #[.pointer (some ⟨B1_0, 0, none⟩), .pointer (some ⟨B1_1, 0, none⟩)] (enters_of Try.func100 (by kernel_rfl) rfl) A0 c0 l0 r w hr0 (fun W x b _ hp hb =>
  (impl_areWithin_1.calls x B1_0 B1_1 a1_0 a1_1 b W (blk_below hk1_0 hb) (blk_below hk1_1 hb) hp).mono fun e w' ⟨he, hd⟩ => ⟨he, below_step hb hd⟩) h

def impl_areWithin.f (l0 : List Int) (a1 : Int) (a2 : Int) : Option (Bool) := (f5z.f l0 a1 a2).bind fun t246 => (some (!t246))
set_option maxHeartbeats 8000000 in
set_option maxRecDepth 100000 in
theorem impl_areWithin.calls (A0 : Option Addr) (c0 : Nat) (l0 : List Int) (a1 : Int) (a2 : Int) (r : Bool) (w : World) (hr0 : Kd.C (Kd.int .i64) w A0 l0.length l0) (hc0 : l0.length ≤ c0) (h : impl_areWithin.f l0 a1 a2 = some r) :
  Calls Try.prog 59 #[.slice A0 l0.length c0, .int .i64 a1, .int .i64 a2] w fun e w' => e = .returned (.bool r) ∧ Below w.heap.size w w' := by
 have HR0 := Aside0.mk hr0
 have HC0 := Aside0.mk hc0
 clear hr0 hc0
 have HB := Aside0.mk (Below.refl w.heap.size w)
 have H : ((f5z.f l0 a1 a2).bind fun t246 => (some (!t246))) = some r := h
 clear h
 replace H := Option.bind_eq_some_iff.mp H
 obtain ⟨t246, A40, H⟩ := H
 replace H : (some (!t246)) = some r := H
 have A4 := Aside0.mk A40
 clear A40
 obtain rfl := Option.some.inj H
 go_enter Try.func59, Try.ntmps59
 go_wp2_with (first | ((with_reducible refine gate_dst (N := 4) rfl ?_); refine box_event ?hg (N := 4) ?hd (cs := #[.int .i64 a1]) (t := 2) ?hr ?_; (case hd => rfl); (case hg => rfl); (case hr => go_simp; try rfl); intro gb244 hg w5 hbox hb; have BK244 := Aside0.mk (hbox); have GW244 := Aside0.mk ((by rw [hg]; exact (below_size HB.out) : w.heap.size ≤ gb244)); have GE244 := Aside0.mk ((by rw [hg]; exact (below_size HB.out) : w.heap.size ≤ gb244)); replace HB := Aside0.mk (below_step HB.out hb); clear hb hbox hg) | ((with_reducible refine gate_dst (N := 5) rfl ?_); refine box_event ?hg (N := 5) ?hd (cs := #[.int .i64 a2]) (t := 2) ?hr ?_; (case hd => rfl); (case hg => rfl); (case hr => go_simp; try rfl); intro gb245 hg w6 hbox hb; have BK245 := Aside0.mk (hbox); have GW245 := Aside0.mk ((by rw [hg]; exact (below_size HB.out) : w.heap.size ≤ gb245)); have GE245 := Aside0.mk ((by rw [hg]; exact (below_size HB.out) : w.heap.size ≤ gb245)); replace HB := Aside0.mk (below_step HB.out hb); have NB244_245 := Aside0.mk ((by rw [hg]; exact Nat.ne_of_lt (blk_lt (g := gb244) (o := .cells #[.int .i64 a1] 2 (0, 0)) BK244.out) : gb244 ≠ gb245)); have NB245_244 := Aside0.mk ((by rw [hg]; exact Nat.ne_of_gt (blk_lt (g := gb244) (o := .cells #[.int .i64 a1] 2 (0, 0)) BK244.out) : gb245 ≠ gb244)); replace BK244 := Aside0.mk (blk_below (g := gb244) (o := .cells #[.int .i64 a1] 2 (0, 0)) BK244.out hb); clear hb hbox hg) | ((with_reducible refine gate_callee (f := 99) rfl ?_); refine goesL_ (some 9) rfl rfl Try.func99 (by kernel_rfl) rfl #[.slice A0 l0.length c0, .func (.func 100) #[] #[.pointer (some ⟨gb244, 0, none⟩), .pointer (some ⟨gb245, 0, none⟩)]] rfl (by simp only [List.map_toArray, List.map_cons, List.map_nil]; try rfl) ?_; (with_reducible refine (f5z.calls _ _ l0 gb244 gb245 a1 a2 t246 _ ?side1 ?side2 ?side3 ?side4 A4.out).mono ?_); (case side1 => exact (Kd.C_below HR0.out HB.out)); (case side2 => exact HC0.out); (case side3 => (with_reducible repeat (first | refine blk_drewN ?_ _ | refine blk_drew ?_ | refine blk_alloc ?_ _)); exact BK244.out); (case side4 => (with_reducible repeat (first | refine blk_drewN ?_ _ | refine blk_drew ?_ | refine blk_alloc ?_ _)); exact BK245.out); rintro e w7 ⟨rfl, hb⟩; refine ⟨_, rfl, ?_⟩; replace BK244 := Aside0.mk (blk_below (g := gb244) (o := .cells #[.int .i64 a1] 2 (0, 0)) BK244.out hb); replace BK245 := Aside0.mk (blk_below (g := gb245) (o := .cells #[.int .i64 a2] 2 (0, 0)) BK245.out hb); replace HB := Aside0.mk (below_step HB.out hb)))
 go_ret
 exact ⟨rfl, HB.out⟩

def impl_size_int64.f (l0 : List Int) : Option (Int) := some (l0.length : Int)
set_option maxHeartbeats 8000000 in
set_option maxRecDepth 100000 in
theorem impl_size_int64.calls (A0 : Option Addr) (c0 : Nat) (l0 : List Int) (r : Int) (w : World) (hr0 : Kd.C (Kd.int .i64) w A0 l0.length l0) (hc0 : l0.length ≤ c0) (h : impl_size_int64.f l0 = some r) :
  Calls Try.prog 84 #[.slice A0 l0.length c0] w fun e w' => e = .returned (.int .i64 r) ∧ Drawn0 w w' := by
 have HR0 := Aside0.mk hr0
 have HC0 := Aside0.mk hc0
 clear hr0 hc0
 have H : (some (l0.length : Int)) = some r := h
 clear h
 obtain rfl := Option.some.inj H
 go_enter Try.func84, Try.ntmps84
 go_wp2
 go_ret
 exact ⟨by first | rfl | (simp; done) | (simp [*]; done), by repeat (first | exact Drawn0.refl _ | apply Drawn0.step)⟩

def impl_isRising.l0 : Nat → List Int → Int → Option (Bool)
 | 0, _, _ => none
 | k + 1, x0, x3 => if x3 < (x0.length : Int) then (if 0 ≤ x3 then (if 0 ≤ (wrap64 (x3 - 1)) then (if (wrap64 (x3 - 1)) < (x0.length : Int) then (if (rd x0 x3) ≤ (rd x0 (wrap64 (x3 - 1))) then (some false) else (impl_isRising.l0 k x0 (wrap64 (x3 + 1)))) else (none)) else (none)) else (none)) else (some true)
def impl_isRising.f (k : Nat) (l0 : List Int) : Option (Bool) := impl_isRising.l0 k l0 1
theorem impl_isRising.mono_l : ∀ k, (∀ y0 y1, LeO (impl_isRising.l0 k y0 y1) (impl_isRising.l0 (k + 1) y0 y1))
 | 0 => fun _ _ r h => by simp [impl_isRising.l0] at h
 | k + 1 => by
  have ih0 := impl_isRising.mono_l k
  ·intro y0 y1
   unfold impl_isRising.l0
   repeat' first
   | (with_reducible exact ih0 _ _)
   | (with_reducible exact LeO.refl _)
   | (with_reducible exact LeO.none _)
   | (with_reducible refine LeO.ite ?_ ?_)
   | (with_reducible refine LeO.bind ?_ (fun _ => ?_))
   | exact ih0 _ _
   | exact LeO.none _
   | refine LeO.ite ?_ ?_
   | refine LeO.bind ?_ (fun _ => ?_)
theorem impl_isRising.mono : ∀ a0 k, LeO (impl_isRising.f k a0) (impl_isRising.f (k + 1) a0) := by
 intro a0 k
 have ih0 := impl_isRising.mono_l k
 unfold impl_isRising.f
 repeat' first
   | (with_reducible exact ih0 _ _)
   | (with_reducible exact LeO.refl _)
   | (with_reducible exact LeO.none _)
   | (with_reducible refine LeO.ite ?_ ?_)
   | (with_reducible refine LeO.bind ?_ (fun _ => ?_))
   | exact ih0 _ _
   | exact LeO.none _
   | refine LeO.ite ?_ ?_
   | refine LeO.bind ?_ (fun _ => ?_)
set_option maxHeartbeats 8000000 in
set_option maxRecDepth 100000 in
theorem impl_isRising.calls (k : Nat) (A0 : Option Addr) (c0 : Nat) (l0 : List Int) (r : Bool) (w : World) (hr0 : Kd.C (Kd.int .i64) w A0 l0.length l0) (hc0 : l0.length ≤ c0) (h : impl_isRising.f k l0 = some r) :
  Calls Try.prog 92 #[.slice A0 l0.length c0] w fun e w' => e = .returned (.bool r) ∧ Drawn0 w w' := by
 have HR0 := Aside0.mk hr0
 have HC0 := Aside0.mk hc0
 clear hr0 hc0
 have H : (impl_isRising.l0 k l0 1) = some r := h
 clear h
 have H' := Aside0.mk H
 clear H
 go_enter Try.func92, Try.ntmps92
 go_wp2
 repeat (go_quiet (fail); try go_wp2)
 go_loopg [3] k (fun kq v3 w' => ∃ (x3_1 : Int), v3 = .int .i64 x3_1 ∧ Aside0 (impl_isRising.l0 kq l0 x3_1 = some r) ∧ Aside0 (kq ≤ k) ∧ Drawn0 w w')
 case atStart => exact ⟨(1), rfl, H', ⟨Nat.le_refl _⟩, by repeat (first | exact Drawn0.refl _ | apply Drawn0.step)⟩
 case round =>
  clear H'
  obtain ⟨x3_1, rfl, HA, HK1, ⟨m1, rfl⟩⟩ := hrel
  cases gk with
  | zero => exact absurd HA.out (by simp [impl_isRising.l0])
  | succ k1 =>
   have H := HA.out
   clear HA
   simp only [impl_isRising.l0] at H
   by_cases c2 : x3_1 < (l0.length : Int)
   ·rw [if_pos c2] at H
    have c2b0 : decide (x3_1 < (l0.length : Int)) = true := decide_eq_true c2
    clear c2
    by_cases c3 : 0 ≤ x3_1
    rotate_left
    ·rw [if_neg c3] at H; exact absurd H (by simp)
    rw [if_pos c3] at H
    have c3b0 : decide (0 ≤ x3_1) = true := decide_eq_true c3
    clear c3
    obtain ⟨ji4, hji4⟩ : ∃ j_ : Int, (wrap64 (x3_1 - 1)) = j_ := ⟨_, rfl⟩
    replace H : (if 0 ≤ (ji4) then (if (ji4) < (l0.length : Int) then (if (rd l0 x3_1) ≤ (rd l0 (ji4)) then (some false) else (impl_isRising.l0 k1 l0 (wrap64 (x3_1 + 1)))) else (none)) else (none)) = some r := by first | (rw [hji4] at H; exact H) | (simp only [hji4] at H ⊢; exact H)
    have hji4w : (IntKind.i64.wrap (x3_1 - 1)) = ji4 := (i64_w _).trans hji4
    by_cases c5 : 0 ≤ (ji4)
    rotate_left
    ·rw [if_neg c5] at H; exact absurd H (by simp)
    rw [if_pos c5] at H
    have c5b0 : decide (0 ≤ (ji4)) = true := decide_eq_true c5
    clear c5
    by_cases c6 : (ji4) < (l0.length : Int)
    rotate_left
    ·rw [if_neg c6] at H; exact absurd H (by simp)
    rw [if_pos c6] at H
    have c6b0 : decide ((ji4) < (l0.length : Int)) = true := decide_eq_true c6
    clear c6
    by_cases c7 : (rd l0 x3_1) ≤ (rd l0 (ji4))
    ·rw [if_pos c7] at H
     have c7b0 : decide ((rd l0 x3_1) ≤ (rd l0 (ji4))) = true := decide_eq_true c7
     clear c7
     obtain rfl := Option.some.inj H
     have p247 : 0 ≤ (x3_1 : Int) := of_decide_eq_true (by assumption)
     have q247 : x3_1 < (l0.length : Int) := of_decide_eq_true (by assumption)
     obtain ⟨ad247, e247, hx247_0⟩ := Kd.at_int HR0.out x3_1 p247 q247
     cases e247
     replace p247 := eq_true p247
     replace q247 := eq_true q247
     have p248 : 0 ≤ ((ji4) : Int) := of_decide_eq_true (by assumption)
     have q248 : (ji4) < (l0.length : Int) := of_decide_eq_true (by assumption)
     obtain ⟨ad248, e248, hx248_0⟩ := Kd.at_int HR0.out (ji4) p248 q248
     obtain rfl : ad247 = ad248 := (by injection e248)
     replace p248 := eq_true p248
     replace q248 := eq_true q248
     go_wp2
     repeat (go_quiet (fail); try go_wp2)
     go_ret
     exact ⟨by first | rfl | (simp; done) | (simp only [← hji4] <;> (first | rfl | simp)) | (simp [*]; done), by repeat (first | exact Drawn0.refl _ | apply Drawn0.step)⟩
    ·rw [if_neg c7] at H
     have c7b0 : decide ((rd l0 x3_1) ≤ (rd l0 (ji4))) = false := decide_eq_false c7
     clear c7
     have H' := Aside0.mk H
     clear H
     have p247 : 0 ≤ (x3_1 : Int) := of_decide_eq_true (by assumption)
     have q247 : x3_1 < (l0.length : Int) := of_decide_eq_true (by assumption)
     obtain ⟨ad247, e247, hx247_0⟩ := Kd.at_int HR0.out x3_1 p247 q247
     cases e247
     replace p247 := eq_true p247
     replace q247 := eq_true q247
     have p248 : 0 ≤ ((ji4) : Int) := of_decide_eq_true (by assumption)
     have q248 : (ji4) < (l0.length : Int) := of_decide_eq_true (by assumption)
     obtain ⟨ad248, e248, hx248_0⟩ := Kd.at_int HR0.out (ji4) p248 q248
     obtain rfl : ad247 = ad248 := (by injection e248)
     replace p248 := eq_true p248
     replace q248 := eq_true q248
     go_wp2
     repeat (go_quiet (fail); try go_wp2)
     go_roundg k1
     case measure => have := HK1.out; omega
     case rel => exact ⟨(wrap64 (x3_1 + 1)), rfl, H', ⟨by have := HK1.out; omega⟩, by repeat (first | exact Drawn0.refl _ | apply Drawn0.step)⟩
   ·rw [if_neg c2] at H
    have c2b0 : decide (x3_1 < (l0.length : Int)) = false := decide_eq_false c2
    clear c2
    obtain rfl := Option.some.inj H
    go_wp2
    repeat (go_quiet (fail); try go_wp2)
    go_ret
    exact ⟨by first | rfl | (simp; done) | (simp [*]; done), by repeat (first | exact Drawn0.refl _ | apply Drawn0.step)⟩

def impl_ValidValues.f (k : Nat) (l0 : List Int) : Option (Bool) := (impl_size_int64.f l0).bind fun t249 => ((impl_within.f t249 1 8).bind fun t250 => (if t250 = true then ((impl_areWithin.f l0 1 500).bind fun t251 => (if t251 = true then ((impl_isRising.f k l0).bind fun t252 => (some t252)) else (some false))) else (some false)))
theorem impl_ValidValues.mono : ∀ a0 k, LeO (impl_ValidValues.f k a0) (impl_ValidValues.f (k + 1) a0) := by
 intro a0 k
 unfold impl_ValidValues.f
 repeat' first
   | (with_reducible exact impl_isRising.mono _ _)
   | (with_reducible exact LeO.refl _)
   | (with_reducible exact LeO.none _)
   | (with_reducible refine LeO.ite ?_ ?_)
   | (with_reducible refine LeO.bind ?_ (fun _ => ?_))
   | exact impl_isRising.mono _ _
   | exact LeO.none _
   | refine LeO.ite ?_ ?_
   | refine LeO.bind ?_ (fun _ => ?_)
set_option maxHeartbeats 8000000 in
set_option maxRecDepth 100000 in
theorem impl_ValidValues.calls (k : Nat) (A0 : Option Addr) (c0 : Nat) (l0 : List Int) (r : Bool) (w : World) (hr0 : Kd.C (Kd.int .i64) w A0 l0.length l0) (hc0 : l0.length ≤ c0) (h : impl_ValidValues.f k l0 = some r) :
  Calls Try.prog 88 #[.slice A0 l0.length c0] w fun e w' => e = .returned (.bool r) ∧ Below w.heap.size w w' := by
 have HR0 := Aside0.mk hr0
 have HC0 := Aside0.mk hc0
 clear hr0 hc0
 have HB := Aside0.mk (Below.refl w.heap.size w)
 have H : ((impl_size_int64.f l0).bind fun t249 => ((impl_within.f t249 1 8).bind fun t250 => (if t250 = true then ((impl_areWithin.f l0 1 500).bind fun t251 => (if t251 = true then ((impl_isRising.f k l0).bind fun t252 => (some t252)) else (some false))) else (some false)))) = some r := h
 clear h
 replace H := Option.bind_eq_some_iff.mp H
 obtain ⟨t249, A20, H⟩ := H
 replace H : ((impl_within.f t249 1 8).bind fun t250 => (if t250 = true then ((impl_areWithin.f l0 1 500).bind fun t251 => (if t251 = true then ((impl_isRising.f k l0).bind fun t252 => (some t252)) else (some false))) else (some false))) = some r := H
 have A2 := Aside0.mk A20
 clear A20
 replace H := Option.bind_eq_some_iff.mp H
 obtain ⟨t250, A30, H⟩ := H
 replace H : (if t250 = true then ((impl_areWithin.f l0 1 500).bind fun t251 => (if t251 = true then ((impl_isRising.f k l0).bind fun t252 => (some t252)) else (some false))) else (some false)) = some r := H
 have A3 := Aside0.mk A30
 clear A30
 by_cases c4 : t250 = true
 ·subst c4
  have H1 : ((impl_areWithin.f l0 1 500).bind fun t251 => (if t251 = true then ((impl_isRising.f k l0).bind fun t252 => (some t252)) else (some false))) = some r := by rw [if_pos rfl] at H; exact H
  clear H
  have H := H1
  clear H1
  replace H := Option.bind_eq_some_iff.mp H
  obtain ⟨t251, A50, H⟩ := H
  replace H : (if t251 = true then ((impl_isRising.f k l0).bind fun t252 => (some t252)) else (some false)) = some r := H
  have A5 := Aside0.mk A50
  clear A50
  by_cases c6 : t251 = true
  ·subst c6
   have H1 : ((impl_isRising.f k l0).bind fun t252 => (some t252)) = some r := by rw [if_pos rfl] at H; exact H
   clear H
   have H := H1
   clear H1
   replace H := Option.bind_eq_some_iff.mp H
   obtain ⟨t252, A70, H⟩ := H
   replace H : (some t252) = some r := H
   have A7 := Aside0.mk A70
   clear A70
   obtain rfl := Option.some.inj H
   go_enter Try.func88, Try.ntmps88
   go_wp2_with (first | ((with_reducible refine gate_callee (f := 84) rfl ?_); refine goesL_ (some 4) rfl rfl Try.func84 (by kernel_rfl) rfl #[.slice A0 l0.length c0] rfl (by simp only [List.map_toArray, List.map_cons, List.map_nil]; try rfl) ?_; (with_reducible refine (impl_size_int64.calls _ _ l0 t249 _ ?side1 ?side2 A2.out).mono ?_); (case side1 => exact HR0.out); (case side2 => exact HC0.out); rintro e w' ⟨rfl, ⟨nd, rfl⟩⟩; refine ⟨_, rfl, ?_⟩) | ((with_reducible refine gate_callee (f := 48) rfl ?_); refine goesL_ (some 5) rfl rfl Try.func48 (by kernel_rfl) rfl #[.int .i64 t249, .int .i64 1, .int .i64 8] rfl (by simp only [List.map_toArray, List.map_cons, List.map_nil]; try rfl) ?_; (with_reducible refine (impl_within.calls t249 1 8 true _ A3.out).mono ?_); rintro e w' ⟨rfl, ⟨nd, rfl⟩⟩; refine ⟨_, rfl, ?_⟩) | (go_at_call 59; (with_reducible refine (impl_areWithin.calls _ _ l0 1 500 true _ ?side1 ?side2 A5.out).mono ?_); (case side1 => exact HR0.out); (case side2 => exact HC0.out); rintro e w8 ⟨rfl, hb⟩; replace HB := Aside0.mk (below_step (by repeat (first | (with_reducible first | exact HB.out | apply below_alloc | apply pw_below_drewN | apply below_drew1) | exact HB.out)) hb)) | (go_at_call 92; (with_reducible refine (impl_isRising.calls k _ _ l0 t252 _ ?side1 ?side2 A7.out).mono ?_); (case side1 => exact (Kd.C_below HR0.out HB.out)); (case side2 => exact HC0.out); rintro e w' ⟨rfl, ⟨nd, rfl⟩⟩))
   go_ret
   exact ⟨by first | rfl | (simp [errW_none, errW_some] <;> rfl) | (simp [*, errW_none, errW_some] <;> rfl), by repeat (first | (with_reducible first | exact HB.out | apply below_alloc | apply pw_below_drewN | apply below_drew1) | exact HB.out)⟩
  ·replace c6 := Bool.eq_false_iff.mpr c6
   subst c6
   have H1 : (some false) = some r := by rw [if_neg (show ¬ (false = true) by decide)] at H; exact H
   clear H
   have H := H1
   clear H1
   obtain rfl := Option.some.inj H
   go_enter Try.func88, Try.ntmps88
   go_wp2_with (first | ((with_reducible refine gate_callee (f := 84) rfl ?_); refine goesL_ (some 4) rfl rfl Try.func84 (by kernel_rfl) rfl #[.slice A0 l0.length c0] rfl (by simp only [List.map_toArray, List.map_cons, List.map_nil]; try rfl) ?_; (with_reducible refine (impl_size_int64.calls _ _ l0 t249 _ ?side1 ?side2 A2.out).mono ?_); (case side1 => exact HR0.out); (case side2 => exact HC0.out); rintro e w' ⟨rfl, ⟨nd, rfl⟩⟩; refine ⟨_, rfl, ?_⟩) | ((with_reducible refine gate_callee (f := 48) rfl ?_); refine goesL_ (some 5) rfl rfl Try.func48 (by kernel_rfl) rfl #[.int .i64 t249, .int .i64 1, .int .i64 8] rfl (by simp only [List.map_toArray, List.map_cons, List.map_nil]; try rfl) ?_; (with_reducible refine (impl_within.calls t249 1 8 true _ A3.out).mono ?_); rintro e w' ⟨rfl, ⟨nd, rfl⟩⟩; refine ⟨_, rfl, ?_⟩) | (go_at_call 59; (with_reducible refine (impl_areWithin.calls _ _ l0 1 500 false _ ?side1 ?side2 A5.out).mono ?_); (case side1 => exact HR0.out); (case side2 => exact HC0.out); rintro e w9 ⟨rfl, hb⟩; replace HB := Aside0.mk (below_step (by repeat (first | (with_reducible first | exact HB.out | apply below_alloc | apply pw_below_drewN | apply below_drew1) | exact HB.out)) hb)))
   go_ret
   exact ⟨rfl, HB.out⟩
 ·replace c4 := Bool.eq_false_iff.mpr c4
  subst c4
  have H1 : (some false) = some r := by rw [if_neg (show ¬ (false = true) by decide)] at H; exact H
  clear H
  have H := H1
  clear H1
  obtain rfl := Option.some.inj H
  go_enter Try.func88, Try.ntmps88
  go_wp2_with (first | ((with_reducible refine gate_callee (f := 84) rfl ?_); refine goesL_ (some 4) rfl rfl Try.func84 (by kernel_rfl) rfl #[.slice A0 l0.length c0] rfl (by simp only [List.map_toArray, List.map_cons, List.map_nil]; try rfl) ?_; (with_reducible refine (impl_size_int64.calls _ _ l0 t249 _ ?side1 ?side2 A2.out).mono ?_); (case side1 => exact HR0.out); (case side2 => exact HC0.out); rintro e w' ⟨rfl, ⟨nd, rfl⟩⟩; refine ⟨_, rfl, ?_⟩) | ((with_reducible refine gate_callee (f := 48) rfl ?_); refine goesL_ (some 5) rfl rfl Try.func48 (by kernel_rfl) rfl #[.int .i64 t249, .int .i64 1, .int .i64 8] rfl (by simp only [List.map_toArray, List.map_cons, List.map_nil]; try rfl) ?_; (with_reducible refine (impl_within.calls t249 1 8 false _ A3.out).mono ?_); rintro e w' ⟨rfl, ⟨nd, rfl⟩⟩; refine ⟨_, rfl, ?_⟩))
  go_ret
  exact ⟨by first | rfl | (simp [errW_none, errW_some] <;> rfl) | (simp [*, errW_none, errW_some] <;> rfl), by repeat (first | (with_reducible first | exact HB.out | apply below_alloc | apply pw_below_drewN | apply below_drew1) | exact HB.out)⟩

def f6z.f (a0 : Int) (a1_0 : Int) : Option (Bool) := some (decide ((wrap64 (a0)) ≥ a1_0))
set_option maxHeartbeats 8000000 in
set_option maxRecDepth 100000 in
theorem f6z.calls (a0 : Int) (B1_0 : Nat) (a1_0 : Int) (r : Bool) (w : World) (hkB1_0 : w.heap[B1_0]? = some (.cells #[.int .i64 a1_0] 2 (0, 0))) (h : f6z.f a0 a1_0 = some r) :
  Calls Try.prog 103 #[.int .i16 a0, .pointer (some ⟨B1_0, 0, none⟩)] w fun e w' => e = .returned (.bool r) ∧ Below w.heap.size w w' := by
 have BK253 := Aside0.mk hkB1_0
 clear hkB1_0
 have HB := Aside0.mk (Below.refl w.heap.size w)
 have H : (some (decide ((wrap64 (a0)) ≥ a1_0))) = some r := h
 clear h
 obtain rfl := Option.some.inj H
 have hcz3_0 : w.cell? ⟨B1_0, 0, none⟩ = some (.int .i64 a1_0) := (blk_cell BK253.out 0).trans rfl
 have hfz3_0 := blk_frozen BK253.out 0
 go_enter Try.func103, Try.ntmps103
 go_wp2
 go_ret
 exact ⟨rfl, HB.out⟩

set_option maxHeartbeats 4000000 in
theorem f7z.calls (p : Int → Option Bool) (g : Nat) (lb : Array Value) (eg : ∀ args w, (callFunc g args).run Try.prog w = .ok (.enter g args) w) (A0 : Option Addr) (c0 : Nat) (l0 : List Int) (r : Int) (w : World) (hr0 : Kd.C (Kd.int .i16) w A0 l0.length l0)
  (hp : ∀ (W : World) (x : Int) (b : Bool), x ∈ l0 → p x = some b → Below w.heap.size w W → Calls Try.prog g (#[.int .i16 x] ++ lb) W fun e w' => e = .returned (.bool b) ∧ Below w.heap.size w w')
  (h : findO p l0 = some r) :
  Calls Try.prog 102 #[.slice A0 l0.length c0, .func (.func g) #[] lb] w fun e w' => e = .returned (.int .i64 r) ∧ Below w.heap.size w w' := by
 have hb9 : l0.length ≤ 9223372036854775807 := hr0.2.1
 have HR := Aside0.mk hr0
 have HP := Aside0.mk hp
 have HF := Aside0.mk h
 clear hr0 hp h
 go_enter Try.func102, Try.ntmps102
 go_wp2
 go_loopg [5, 8] l0.length (fun gg _ s8 wr => ∃ kk : Nat, kk ≤ l0.length ∧ l0.length - kk ≤ gg ∧ s8 = .int .i64 kk ∧ Aside0 (Below w.heap.size w wr) ∧ Aside0 (∀ x ∈ l0.take kk, p x = some false))
 case atStart => exact ⟨0, Nat.zero_le _, by omega, rfl, ⟨Below.refl _ w⟩, ⟨fun x hx => by simp at hx⟩⟩
 case round =>
  obtain ⟨kk, hkk, hg, rfl, BW, AF⟩ := hrel
  by_cases hlt : kk < l0.length
  ·have hltz : (kk : Int) < (l0.length : Int) := by omega
   obtain ⟨ad, cz, e0, _, hKz, hcz⟩ := Kd.C_get HR.out 0 (kk : Int) (by omega) (by omega)
   obtain rfl : cz = [.int .i16 (rd l0 (kk : Int))] := hKz
   have h0 := hcz 0 _ rfl
   clear hcz; (try clear hKz)
   simp only [show ((Kd.int .i16)).sz = 1 from rfl, Nat.mul_one, Nat.add_zero] at h0
   cases e0
   replace h0 := (BW.out.cell (World.block_lt_of_cell? w _ h0)).trans h0
   simp only [Int.toNat_natCast] at h0
   have hm : rd l0 (kk : Int) ∈ l0 ∧ l0[kk]? = some (rd l0 (kk : Int)) := get_mem 0 hlt
   obtain ⟨bq, hbq⟩ := findO_at p l0 kk _ r hm.2 AF.out HF.out
   have hcall := HP.out wr (rd l0 (kk : Int)) bq hm.1 hbq BW.out
   have hk2 : Aside0 (l0[kk]? = some (rd l0 (kk : Int))) := ⟨hm.2⟩
   have HQ := Aside0.mk hbq
   clear hm hbq
   generalize rd l0 (kk : Int) = y at hcall hk2 HQ h0
   cases bq with
   | true =>
    go_wp2_with (go_at_fn g; refine hcall.mono ?_; rintro e w' ⟨rfl, hb'⟩)
    go_ret
    refine ⟨?_, hb'⟩
    rw [findO_hit p l0 kk y r hk2.out HQ.out AF.out HF.out]
    rfl
   | false =>
    go_wp2_with (go_at_fn g; refine hcall.mono ?_; rintro e w' ⟨rfl, hb'⟩)
    go_roundg (l0.length - (kk + 1))
    case measure => omega
    case rel => exact ⟨kk + 1, by omega, by omega, by go_num, ⟨hb'⟩, ⟨take_step hk2.out HQ.out AF.out⟩⟩
  ·have hltz : ¬ (kk : Int) < (l0.length : Int) := by omega
   have hkl : Aside0 (kk = l0.length) := ⟨by omega⟩
   go_wp2
   go_ret
   refine ⟨?_, BW.out⟩
   rw [findO_miss p l0 r (fun x hx => AF.out x (by rw [hkl.out, List.take_length]; exact hx)) HF.out]
   rfl

def f8z.f (l0 : List Int) (a1_0 : Int) : Option (Int) := findO (fun x => f6z.f x a1_0) l0
set_option maxHeartbeats 4000000 in
theorem f8z.calls (A0 : Option Addr) (c0 : Nat) (l0 : List Int) (B1_0 : Nat) (a1_0 : Int) (r : Int) (w : World) (hr0 : Kd.C (Kd.int .i16) w A0 l0.length l0) (hc0 : l0.length ≤ c0) (hk1_0 : w.heap[B1_0]? = some (.cells #[.int .i64 a1_0] 2 (0, 0))) (h : f8z.f l0 a1_0 = some r) :
  Calls Try.prog 102 #[.slice A0 l0.length c0, .func (.func 103) #[] #[.pointer (some ⟨B1_0, 0, none⟩)]] w fun e w' => e = .returned (.int .i64 r) ∧ Below w.heap.size w w' :=
 f7z.calls (fun x => f6z.f x a1_0) 103 #[.pointer (some ⟨B1_0, 0, none⟩)] (enters_of Try.func103 (by kernel_rfl) rfl) A0 c0 l0 r w hr0 (fun W x b _ hp hb =>
  (f6z.calls x B1_0 a1_0 b W (blk_below hk1_0 hb) hp).mono fun e w' ⟨he, hd⟩ => ⟨he, below_step hb hd⟩) h

def impl_Table_step.f (l0_0 : List Int) (l0_1 : List (List Int)) (a1 : Int) : Option (Int) := (f8z.f l0_0 a1).bind fun t256 => (some t256)
set_option maxHeartbeats 8000000 in
set_option maxRecDepth 100000 in
theorem impl_Table_step.calls (A0_0 : Option Addr) (c0_0 : Nat) (l0_0 : List Int) (A0_1 : Option Addr) (c0_1 : Nat) (l0_1 : List (List Int)) (a1 : Int) (r : Int) (w : World) (hr0_0 : Kd.C (Kd.int .i16) w A0_0 l0_0.length l0_0) (hc0_0 : l0_0.length ≤ c0_0) (hr0_1 : Kd.C (Kd.slice 81 (Kd.int .i16)) w A0_1 l0_1.length l0_1) (hc0_1 : l0_1.length ≤ c0_1) (h : impl_Table_step.f l0_0 l0_1 a1 = some r) :
  Calls Try.prog 72 #[.agg #[.slice A0_0 l0_0.length c0_0, .slice A0_1 l0_1.length c0_1], .int .i64 a1] w fun e w' => e = .returned (.int .i64 r) ∧ Below w.heap.size w w' := by
 have hu38 := Try.underlying38
 have HR0_0 := Aside0.mk hr0_0
 have HC0_0 := Aside0.mk hc0_0
 clear hr0_0 hc0_0
 have HR0_1 := Aside0.mk hr0_1
 have HC0_1 := Aside0.mk hc0_1
 clear hr0_1 hc0_1
 have HB := Aside0.mk (Below.refl w.heap.size w)
 have H : ((f8z.f l0_0 a1).bind fun t256 => (some t256)) = some r := h
 clear h
 replace H := Option.bind_eq_some_iff.mp H
 obtain ⟨t256, A30, H⟩ := H
 replace H : (some t256) = some r := H
 have A3 := Aside0.mk A30
 clear A30
 obtain rfl := Option.some.inj H
 go_enter Try.func72, Try.ntmps72
 go_wp2_with (first | ((with_reducible refine gate_dst (N := 2) rfl ?_); refine box_event ?hg (N := 2) ?hd (cs := #[.slice A0_0 l0_0.length c0_0, .slice A0_1 l0_1.length c0_1]) (t := 38) ?hr ?_; (case hd => rfl); (case hg => rfl); (case hr => go_simp; try rfl); intro gb254 hg w4 hbox hb; have BK254 := Aside0.mk (hbox); have GW254 := Aside0.mk ((by rw [hg]; exact (below_size HB.out) : w.heap.size ≤ gb254)); have GE254 := Aside0.mk ((by rw [hg]; exact (below_size HB.out) : w.heap.size ≤ gb254)); replace HB := Aside0.mk (below_step HB.out hb); clear hb hbox hg) | ((with_reducible refine gate_dst (N := 3) rfl ?_); refine box_event ?hg (N := 3) ?hd (cs := #[.int .i64 a1]) (t := 2) ?hr ?_; (case hd => rfl); (case hg => rfl); (case hr => go_simp; try rfl); intro gb255 hg w5 hbox hb; have BK255 := Aside0.mk (hbox); have GW255 := Aside0.mk ((by rw [hg]; exact (below_size HB.out) : w.heap.size ≤ gb255)); have GE255 := Aside0.mk ((by rw [hg]; exact (below_size HB.out) : w.heap.size ≤ gb255)); replace HB := Aside0.mk (below_step HB.out hb); have NB254_255 := Aside0.mk ((by rw [hg]; exact Nat.ne_of_lt (blk_lt (g := gb254) (o := .cells #[.slice A0_0 l0_0.length c0_0, .slice A0_1 l0_1.length c0_1] 38 (0, 0)) BK254.out) : gb254 ≠ gb255)); have NB255_254 := Aside0.mk ((by rw [hg]; exact Nat.ne_of_gt (blk_lt (g := gb254) (o := .cells #[.slice A0_0 l0_0.length c0_0, .slice A0_1 l0_1.length c0_1] 38 (0, 0)) BK254.out) : gb255 ≠ gb254)); replace BK254 := Aside0.mk (blk_below (g := gb254) (o := .cells #[.slice A0_0 l0_0.length c0_0, .slice A0_1 l0_1.length c0_1] 38 (0, 0)) BK254.out hb); clear hb hbox hg; have hnb6 := NB254_255.out; have hnc6 := NB255_254.out; have hcz7_0 : w5.cell? ⟨gb254, 0, none⟩ = some (.slice A0_0 l0_0.length c0_0) := (blk_cell BK254.out 0).trans rfl; have hcz7_1 : w5.cell? ⟨gb254, 1, none⟩ = some (.slice A0_1 l0_1.length c0_1) := (blk_cell BK254.out 1).trans rfl; have hfz7_0 := blk_frozen BK254.out 0; have hfz7_1 := blk_frozen BK254.out 1) | ((with_reducible refine gate_callee (f := 102) rfl ?_); refine goesL_ (some 8) rfl rfl Try.func102 (by kernel_rfl) rfl #[.slice A0_0 l0_0.length c0_0, .func (.func 103) #[] #[.pointer (some ⟨gb255, 0, none⟩)]] rfl (by simp only [List.map_toArray, List.map_cons, List.map_nil]; try rfl) ?_; (with_reducible refine (f8z.calls _ _ l0_0 gb255 a1 t256 _ ?side1 ?side2 ?side3 A3.out).mono ?_); (case side1 => exact (Kd.C_below HR0_0.out HB.out)); (case side2 => exact HC0_0.out); (case side3 => (with_reducible repeat (first | refine blk_drewN ?_ _ | refine blk_drew ?_ | refine blk_alloc ?_ _)); exact BK255.out); rintro e w8 ⟨rfl, hb⟩; refine ⟨_, rfl, ?_⟩; replace BK254 := Aside0.mk (blk_below (g := gb254) (o := .cells #[.slice A0_0 l0_0.length c0_0, .slice A0_1 l0_1.length c0_1] 38 (0, 0)) BK254.out hb); replace BK255 := Aside0.mk (blk_below (g := gb255) (o := .cells #[.int .i64 a1] 2 (0, 0)) BK255.out hb); replace HB := Aside0.mk (below_step HB.out hb)))
 go_ret
 exact ⟨rfl, HB.out⟩

def impl_Table_price.f (l0_0 : List Int) (l0_1 : List (List Int)) (a1 : Int) (a2 : Int) : Option (Int × Bool) := (impl_Table_step.f l0_0 l0_1 a2).bind fun t258 => (if t258 < 0 then (some (0, false)) else (if 0 ≤ a1 then (if a1 < (l0_1.length : Int) then (if 0 ≤ t258 then (if t258 < ((rd_L1 l0_1 a1).length : Int) then (some (wrap64 (rd (rd_L1 l0_1 a1) t258), true)) else (none)) else (none)) else (none)) else (none)))
set_option maxHeartbeats 8000000 in
set_option maxRecDepth 100000 in
theorem impl_Table_price.calls (A0_0 : Option Addr) (c0_0 : Nat) (l0_0 : List Int) (A0_1 : Option Addr) (c0_1 : Nat) (l0_1 : List (List Int)) (a1 : Int) (a2 : Int) (r1 : Int) (r2 : Bool) (w : World) (hr0_0 : Kd.C (Kd.int .i16) w A0_0 l0_0.length l0_0) (hc0_0 : l0_0.length ≤ c0_0) (hr0_1 : Kd.C (Kd.slice 81 (Kd.int .i16)) w A0_1 l0_1.length l0_1) (hc0_1 : l0_1.length ≤ c0_1) (h : impl_Table_price.f l0_0 l0_1 a1 a2 = some (r1, r2)) :
  Calls Try.prog 50 #[.agg #[.slice A0_0 l0_0.length c0_0, .slice A0_1 l0_1.length c0_1], .int .i64 a1, .int .i64 a2] w fun e w' => e = .returned (.tuple #[.int .i64 r1, .bool r2]) ∧ Below w.heap.size w w' := by
 have hu38 := Try.underlying38
 have HR0_0 := Aside0.mk hr0_0
 have HC0_0 := Aside0.mk hc0_0
 clear hr0_0 hc0_0
 have HR0_1 := Aside0.mk hr0_1
 have HC0_1 := Aside0.mk hc0_1
 clear hr0_1 hc0_1
 have HB := Aside0.mk (Below.refl w.heap.size w)
 have H : ((impl_Table_step.f l0_0 l0_1 a2).bind fun t258 => (if t258 < 0 then (some (0, false)) else (if 0 ≤ a1 then (if a1 < (l0_1.length : Int) then (if 0 ≤ t258 then (if t258 < ((rd_L1 l0_1 a1).length : Int) then (some (wrap64 (rd (rd_L1 l0_1 a1) t258), true)) else (none)) else (none)) else (none)) else (none)))) = some (r1, r2) := h
 clear h
 replace H := Option.bind_eq_some_iff.mp H
 obtain ⟨t258, A40, H⟩ := H
 replace H : (if t258 < 0 then (some (0, false)) else (if 0 ≤ a1 then (if a1 < (l0_1.length : Int) then (if 0 ≤ t258 then (if t258 < ((rd_L1 l0_1 a1).length : Int) then (some (wrap64 (rd (rd_L1 l0_1 a1) t258), true)) else (none)) else (none)) else (none)) else (none))) = some (r1, r2) := H
 have A4 := Aside0.mk A40
 clear A40
 by_cases c5 : t258 < 0
 ·rw [if_pos c5] at H
  have c5b0 : decide (t258 < 0) = true := decide_eq_true c5
  clear c5
  simp only [Option.some.injEq, Prod.mk.injEq] at H
  obtain ⟨rfl, rfl⟩ := H
  go_enter Try.func50, Try.ntmps50
  go_wp2_with (first | ((with_reducible refine gate_dst (N := 3) rfl ?_); refine box_event ?hg (N := 3) ?hd (cs := #[.slice A0_0 l0_0.length c0_0, .slice A0_1 l0_1.length c0_1]) (t := 38) ?hr ?_; (case hd => rfl); (case hg => rfl); (case hr => go_simp; try rfl); intro gb257 hg w6 hbox hb; have BK257 := Aside0.mk (hbox); have GW257 := Aside0.mk ((by rw [hg]; exact (below_size HB.out) : w.heap.size ≤ gb257)); have GE257 := Aside0.mk ((by rw [hg]; exact (below_size HB.out) : w.heap.size ≤ gb257)); replace HB := Aside0.mk (below_step HB.out hb); clear hb hbox hg; have hcz7_0 : w6.cell? ⟨gb257, 0, none⟩ = some (.slice A0_0 l0_0.length c0_0) := (blk_cell BK257.out 0).trans rfl; have hcz7_1 : w6.cell? ⟨gb257, 1, none⟩ = some (.slice A0_1 l0_1.length c0_1) := (blk_cell BK257.out 1).trans rfl; have hfz7_0 := blk_frozen BK257.out 0; have hfz7_1 := blk_frozen BK257.out 1) | ((with_reducible refine gate_callee (f := 72) rfl ?_); refine goesL_ (some 11) rfl rfl Try.func72 (by kernel_rfl) rfl #[.agg #[.slice A0_0 l0_0.length c0_0, .slice A0_1 l0_1.length c0_1], .int .i64 a2] rfl (by simp only [List.map_toArray, List.map_cons, List.map_nil]; try rfl) ?_; (with_reducible refine (impl_Table_step.calls _ _ l0_0 _ _ l0_1 a2 t258 _ ?side1 ?side2 ?side3 ?side4 A4.out).mono ?_); (case side1 => exact (Kd.C_below HR0_0.out HB.out)); (case side2 => exact HC0_0.out); (case side3 => exact (Kd.C_below HR0_1.out HB.out)); (case side4 => exact HC0_1.out); rintro e w8 ⟨rfl, hb⟩; refine ⟨_, rfl, ?_⟩; replace BK257 := Aside0.mk (blk_below (g := gb257) (o := .cells #[.slice A0_0 l0_0.length c0_0, .slice A0_1 l0_1.length c0_1] 38 (0, 0)) BK257.out hb); replace HB := Aside0.mk (below_step HB.out hb)))
  go_ret2
  exact ⟨rfl, HB.out⟩
 ·rw [if_neg c5] at H
  have c5b0 : decide (t258 < 0) = false := decide_eq_false c5
  clear c5
  by_cases c9 : 0 ≤ a1
  rotate_left
  ·rw [if_neg c9] at H; exact absurd H (by simp)
  rw [if_pos c9] at H
  have c9b0 : decide (0 ≤ a1) = true := decide_eq_true c9
  clear c9
  by_cases c10 : a1 < (l0_1.length : Int)
  rotate_left
  ·rw [if_neg c10] at H; exact absurd H (by simp)
  rw [if_pos c10] at H
  have c10b0 : decide (a1 < (l0_1.length : Int)) = true := decide_eq_true c10
  clear c10
  by_cases c11 : 0 ≤ t258
  rotate_left
  ·rw [if_neg c11] at H; exact absurd H (by simp)
  rw [if_pos c11] at H
  have c11b0 : decide (0 ≤ t258) = true := decide_eq_true c11
  clear c11
  by_cases c12 : t258 < ((rd_L1 l0_1 a1).length : Int)
  rotate_left
  ·rw [if_neg c12] at H; exact absurd H (by simp)
  rw [if_pos c12] at H
  have c12b0 : decide (t258 < ((rd_L1 l0_1 a1).length : Int)) = true := decide_eq_true c12
  clear c12
  simp only [Option.some.injEq, Prod.mk.injEq] at H
  obtain ⟨rfl, rfl⟩ := H
  go_enter Try.func50, Try.ntmps50
  go_wp2_with (first | ((with_reducible refine gate_dst (N := 3) rfl ?_); refine box_event ?hg (N := 3) ?hd (cs := #[.slice A0_0 l0_0.length c0_0, .slice A0_1 l0_1.length c0_1]) (t := 38) ?hr ?_; (case hd => rfl); (case hg => rfl); (case hr => go_simp; try rfl); intro gb257 hg w13 hbox hb; have BK257 := Aside0.mk (hbox); have GW257 := Aside0.mk ((by rw [hg]; exact (below_size HB.out) : w.heap.size ≤ gb257)); have GE257 := Aside0.mk ((by rw [hg]; exact (below_size HB.out) : w.heap.size ≤ gb257)); replace HB := Aside0.mk (below_step HB.out hb); clear hb hbox hg; have hcz14_0 : w13.cell? ⟨gb257, 0, none⟩ = some (.slice A0_0 l0_0.length c0_0) := (blk_cell BK257.out 0).trans rfl; have hcz14_1 : w13.cell? ⟨gb257, 1, none⟩ = some (.slice A0_1 l0_1.length c0_1) := (blk_cell BK257.out 1).trans rfl; have hfz14_0 := blk_frozen BK257.out 0; have hfz14_1 := blk_frozen BK257.out 1) | ((with_reducible refine gate_callee (f := 72) rfl ?_); refine goesL_ (some 11) rfl rfl Try.func72 (by kernel_rfl) rfl #[.agg #[.slice A0_0 l0_0.length c0_0, .slice A0_1 l0_1.length c0_1], .int .i64 a2] rfl (by simp only [List.map_toArray, List.map_cons, List.map_nil]; try rfl) ?_; (with_reducible refine (impl_Table_step.calls _ _ l0_0 _ _ l0_1 a2 t258 _ ?side1 ?side2 ?side3 ?side4 A4.out).mono ?_); (case side1 => exact (Kd.C_below HR0_0.out HB.out)); (case side2 => exact HC0_0.out); (case side3 => exact (Kd.C_below HR0_1.out HB.out)); (case side4 => exact HC0_1.out); rintro e w15 ⟨rfl, hb⟩; refine ⟨_, rfl, ?_⟩; replace BK257 := Aside0.mk (blk_below (g := gb257) (o := .cells #[.slice A0_0 l0_0.length c0_0, .slice A0_1 l0_1.length c0_1] 38 (0, 0)) BK257.out hb); replace HB := Aside0.mk (below_step HB.out hb); have hcz16_0 : w15.cell? ⟨gb257, 0, none⟩ = some (.slice A0_0 l0_0.length c0_0) := (blk_cell BK257.out 0).trans rfl; have hcz16_1 : w15.cell? ⟨gb257, 1, none⟩ = some (.slice A0_1 l0_1.length c0_1) := (blk_cell BK257.out 1).trans rfl; have hfz16_0 := blk_frozen BK257.out 0; have hfz16_1 := blk_frozen BK257.out 1; have p259 : 0 ≤ (a1 : Int) := of_decide_eq_true (by assumption); have q259 : a1 < (l0_1.length : Int) := of_decide_eq_true (by assumption); obtain ⟨ad259, A259_0, c259_0, e259, hx259_0, hl259_0, hi259_0⟩ := at_L1 HR0_1.out a1 p259 q259; cases e259; replace hx259_0 := (HB.out.cell (World.block_lt_of_cell? w _ hx259_0)).trans hx259_0; have HR259_0 := Aside0.mk hi259_0; have HC259_0 := Aside0.mk hl259_0; clear hi259_0 hl259_0; replace p259 := eq_true p259; replace q259 := eq_true q259; have p260 : 0 ≤ (t258 : Int) := of_decide_eq_true (by assumption); have q260 : t258 < ((rd_L1 l0_1 a1).length : Int) := of_decide_eq_true (by assumption); obtain ⟨ad260, e260, hx260_0⟩ := Kd.at_int HR259_0.out t258 p260 q260; cases e260; replace hx260_0 := (HB.out.cell (World.block_lt_of_cell? w _ hx260_0)).trans hx260_0; replace p260 := eq_true p260; replace q260 := eq_true q260))
  go_ret2
  exact ⟨rfl, HB.out⟩
def impl_size_int16S.f (l0 : List (List Int)) : Option (Int) := some (l0.length : Int)
set_option maxHeartbeats 8000000 in
set_option maxRecDepth 100000 in
theorem impl_size_int16S.calls (A0 : Option Addr) (c0 : Nat) (l0 : List (List Int)) (r : Int) (w : World) (hr0 : Kd.C (Kd.slice 81 (Kd.int .i16)) w A0 l0.length l0) (hc0 : l0.length ≤ c0) (h : impl_size_int16S.f l0 = some r) :
  Calls Try.prog 49 #[.slice A0 l0.length c0] w fun e w' => e = .returned (.int .i64 r) ∧ Drawn0 w w' := by
 have HR0 := Aside0.mk hr0
 have HC0 := Aside0.mk hc0
 clear hr0 hc0
 have H : (some (l0.length : Int)) = some r := h
 clear h
 obtain rfl := Option.some.inj H
 go_enter Try.func49, Try.ntmps49
 go_wp2
 go_ret
 exact ⟨by first | rfl | (simp; done) | (simp [*]; done), by repeat (first | exact Drawn0.refl _ | apply Drawn0.step)⟩

def impl_wide_int16.l0 : Nat → List Int → List Int → Int → Int → Option (List Int)
 | 0, _, _, _, _ => none
 | k + 1, x3, x7, x8, x9 => if x9 < x8 then (if 0 ≤ x9 then (if x9 < (x7.length : Int) then (if x3.length < 17592186044416 then (impl_wide_int16.l0 k (x3 ++ [wrap64 (rd x7 x9)]) x7 x8 (wrap64 (x9 + 1))) else (none)) else (none)) else (none)) else (some x3)
def impl_wide_int16.f (k : Nat) (l0 : List Int) : Option (List Int) := impl_wide_int16.l0 k (([] : List Int)) l0 (l0.length : Int) 0
theorem impl_wide_int16.mono_l : ∀ k, (∀ y0 y1 y2 y3, LeO (impl_wide_int16.l0 k y0 y1 y2 y3) (impl_wide_int16.l0 (k + 1) y0 y1 y2 y3))
 | 0 => fun _ _ _ _ r h => by simp [impl_wide_int16.l0] at h
 | k + 1 => by
  have ih0 := impl_wide_int16.mono_l k
  ·intro y0 y1 y2 y3
   unfold impl_wide_int16.l0
   repeat' first
   | (with_reducible exact ih0 _ _ _ _)
   | (with_reducible exact LeO.refl _)
   | (with_reducible exact LeO.none _)
   | (with_reducible refine LeO.ite ?_ ?_)
   | (with_reducible refine LeO.bind ?_ (fun _ => ?_))
   | exact ih0 _ _ _ _
   | exact LeO.none _
   | refine LeO.ite ?_ ?_
   | refine LeO.bind ?_ (fun _ => ?_)
theorem impl_wide_int16.mono : ∀ a0 k, LeO (impl_wide_int16.f k a0) (impl_wide_int16.f (k + 1) a0) := by
 intro a0 k
 have ih0 := impl_wide_int16.mono_l k
 unfold impl_wide_int16.f
 repeat' first
   | (with_reducible exact ih0 _ _ _ _)
   | (with_reducible exact LeO.refl _)
   | (with_reducible exact LeO.none _)
   | (with_reducible refine LeO.ite ?_ ?_)
   | (with_reducible refine LeO.bind ?_ (fun _ => ?_))
   | exact ih0 _ _ _ _
   | exact LeO.none _
   | refine LeO.ite ?_ ?_
   | refine LeO.bind ?_ (fun _ => ?_)
set_option maxHeartbeats 8000000 in
set_option maxRecDepth 100000 in
theorem impl_wide_int16.calls (k : Nat) (A0 : Option Addr) (c0 : Nat) (l0 : List Int) (r : List Int) (w : World) (hr0 : Kd.C (Kd.int .i16) w A0 l0.length l0) (hc0 : l0.length ≤ c0) (h : impl_wide_int16.f k l0 = some r) :
  Calls Try.prog 70 #[.slice A0 l0.length c0] w fun e w' => ∃ v0_ : Value, e = .returned (v0_) ∧ Kd.R (Kd.int .i64) 2 w' w.heap.size (fun _ => True) v0_ r ∧ Below w.heap.size w w' := by
 have HR0 := Aside0.mk hr0
 have HC0 := Aside0.mk hc0
 clear hr0 hc0
 have HB := Aside0.mk (Below.refl w.heap.size w)
 have H : (impl_wide_int16.l0 k (([] : List Int)) l0 (l0.length : Int) 0) = some r := h
 clear h
 obtain ⟨y261, hy261⟩ : ∃ y_ : List Int, y_ = (([] : List Int)) := ⟨_, rfl⟩
 replace H : (impl_wide_int16.l0 k y261 l0 (l0.length : Int) 0) = some r := by rw [hy261]; exact H
 have Ny261 := Aside0.mk hy261
 clear hy261
 have H' := Aside0.mk H
 clear H
 go_enter Try.func70, Try.ntmps70
 go_wp2_with (first | ((with_reducible refine gate_dst (N := 6) rfl ?_); refine Kd.R_lit (Kd.int .i64) _ 2 ?hg (N := 6) ?hd (xs := ([] : List Int)) (inner := []) (ok := fun _ => True) (okp := fun _ => True) ?hr ?hp (fun _ hk => hk) trivial (Below.refl _ _) (Nat.le_refl _) (by simp) ?_; (case hd => rfl); (case hg => rfl); (case hr => go_simp; try rfl); (case hp => exact (Reps.none _ _)); intro v262 w2 ho3 hb hg_ hnew_; clear hg_ hnew_; (first | rw [← Ny261.out] at ho3 | (simp only [Int.reduceToNat] at ho3; rw [← Ny261.out] at ho3)); have HO263 := Aside0.mk (Kd.R_lower ho3 (below_size HB.out)); replace HB := Aside0.mk (below_step HB.out hb); clear hb ho3))
 go_loopg [3, 9] k (fun kq v3 v9 w' => ∃ (x3_1 : List Int) (x9_1 : Int), v9 = .int .i64 x9_1 ∧ Aside0 (impl_wide_int16.l0 kq x3_1 l0 (l0.length : Int) x9_1 = some r) ∧ Aside0 (kq ≤ k) ∧ Aside0 (Kd.R (Kd.int .i64) 2 w' w.heap.size (fun _ => True) v3 x3_1) ∧ Aside0 (Below w.heap.size w w'))
 case atStart => exact ⟨(y261), (0), rfl, H', ⟨Nat.le_refl _⟩, ⟨HO263.out⟩, ⟨HB.out⟩⟩
 case round =>
  clear H'
  try clear p2
  obtain ⟨x3_1, x9_1, rfl, HA, HK1, HO_3, HB⟩ := hrel
  cases gk with
  | zero => exact absurd HA.out (by simp [impl_wide_int16.l0])
  | succ k1 =>
   have H := HA.out
   clear HA
   simp only [impl_wide_int16.l0] at H
   by_cases c4 : x9_1 < (l0.length : Int)
   ·rw [if_pos c4] at H
    have c4b0 : decide (x9_1 < (l0.length : Int)) = true := decide_eq_true c4
    clear c4
    by_cases c5 : 0 ≤ x9_1
    rotate_left
    ·rw [if_neg c5] at H; exact absurd H (by simp)
    rw [if_pos c5] at H
    have c5b0 : decide (0 ≤ x9_1) = true := decide_eq_true c5
    clear c5
    by_cases c6 : x9_1 < (l0.length : Int)
    rotate_left
    ·rw [if_neg c6] at H; exact absurd H (by simp)
    rw [if_pos c6] at H
    have c6b0 : decide (x9_1 < (l0.length : Int)) = true := decide_eq_true c6
    clear c6
    by_cases c7 : x3_1.length < 17592186044416
    rotate_left
    ·rw [if_neg c7] at H; exact absurd H (by simp)
    rw [if_pos c7] at H
    have LMc7 := Aside0.mk c7
    clear c7
    obtain ⟨y265, hy265⟩ : ∃ y_ : List Int, y_ = (x3_1 ++ [wrap64 (rd l0 x9_1)]) := ⟨_, rfl⟩
    replace H : (impl_wide_int16.l0 k1 y265 l0 (l0.length : Int) (wrap64 (x9_1 + 1))) = some r := by rw [hy265]; exact H
    have Ny265 := Aside0.mk hy265
    clear hy265
    have H' := Aside0.mk H
    clear H
    have p264 : 0 ≤ (x9_1 : Int) := of_decide_eq_true (by assumption)
    have q264 : x9_1 < (l0.length : Int) := of_decide_eq_true (by assumption)
    obtain ⟨ad264, e264, hx264_0⟩ := Kd.at_int HR0.out x9_1 p264 q264
    cases e264
    replace hx264_0 := (HB.out.cell (World.block_lt_of_cell? w _ hx264_0)).trans hx264_0
    replace p264 := eq_true p264
    replace q264 := eq_true q264
    go_wp2_with (first | ((with_reducible refine gate_builtin (b := .append) (xs := #[.tmp 13, .tmp 16]) rfl ?_); at_builtin; refine Kd.R_append (Kd.int .i64) (w0 := w) w.heap.size rfl (.tmp 13) (.tmp 16) 34 2 (.int .i64 0) 8 rfl Try.underlying34 info2 rfl (by decide) (by omega) u3 x3_1 (wrap64 (rd l0 x9_1)) [.int .i64 (wrap64 (rd l0 x9_1))] (fun _ => True) (fun _ => False) rfl rfl ?aP (fun _ hk => hk.elim) ?aF ?aO ?aB ?aS ?aL ?_; (case aP => exact rfl); (case aB => exact HB.out); (case aF => exact (fun _ _ => trivial)); (case aO => exact HO_3.out); (case aS => exact (below_size HB.out)); (case aL => have := LMc7.out; omega); intro v266 w8 ho hb hg hat; rw [← Ny265.out] at ho; replace HB := Aside0.mk (hb); have HO267 := Aside0.mk (ho); clear HO_3; clear ho hb hg hat))
    go_roundg k1
    case measure => have := HK1.out; omega
    case rel => exact ⟨(y265), (wrap64 (x9_1 + 1)), rfl, H', ⟨by have := HK1.out; omega⟩, ⟨HO267.out⟩, ⟨HB.out⟩⟩
   ·rw [if_neg c4] at H
    have c4b0 : decide (x9_1 < (l0.length : Int)) = false := decide_eq_false c4
    clear c4
    obtain rfl := Option.some.inj H
    go_wp2
    go_ret
    exact ⟨_, rfl, HO_3.out, HB.out⟩

end Go.Proofs.Ytdeipindfhkioaa.Q
