-- made by wip/tools/mk.py of this session's repo, by way of the kit's print.py: Lean checks it.
import Derived.Test.YtdeipindfhkioaaQ0
import Derived.Test.YtdeipindfhkioaaQ1
import Derived.Test.YtdeipindfhkioaaQ2
import Derived.Test.YtdeipindfhkioaaQ7
import Derived.Test.YtdeipindfhkioaaQ12
namespace Go.Proofs.Ytdeipindfhkioaa.Q
open Go.RowKit Go.Proofs.YtdeipindfhkioaaW.PrintWords Go.Proofs.YtdeipindfhkioaaW.PrintLast Go.Proofs.YtdeipindfhkioaaW.PrintMore Go.Proofs.YtdeipindfhkioaaMine
attribute [local go_sem] max2_int min2_int max_two min_two max_three min_three max_four min_four   -- for this text's walks alone
set_option linter.unusedVariables false
set_option linter.unusedSimpArgs false

mutual
def laws_FnExactStampsFor.j0 : Nat → Int → Int → List Int → List Int → Int → List Int → List Int → Int → Bool → List Int → List (List Int) → List Int → List (List Int) → Option (Bool)
 | 0, _, _, _, _, _, _, _, _, _, _, _, _, _ => none
 | k + 1, x1, x2, x3, x10, x11, x13, x14, x15, x59, x364000, x364001, x385000, x385001 => if x59 = true then (some false) else ((laws_toTable.f k x364000 x364001).bind fun bt393 => ((laws_eqTable.f k x385000 x385001 bt393.1 bt393.2).bind fun t399 => (if t399 = true then ((laws_toInt64S.f k x3).bind fun t400 => ((laws_eqInt64S.f k x13 t400).bind fun t403 => (if t403 = true then ((laws_markTable.f k x385000 x385001 1).bind fun bt404 => ((laws_markInt64S.f k x13 bt404.1).bind fun bt407 => (if bt407.1 < 0 then (laws_FnExactStampsFor.j1 k x1 x2 x3 x10 x11 x14 true x364000 x364001) else ((laws_eqInt64S.f k x14 x10).bind fun t409 => (if t409 = true then (laws_FnExactStampsFor.j1 k x1 x2 x3 x10 x11 x14 (x15 != x11) x364000 x364001) else (laws_FnExactStampsFor.j1 k x1 x2 x3 x10 x11 x14 true x364000 x364001)))))) else (some false)))) else (some false))))
def laws_FnExactStampsFor.j1 : Nat → Int → Int → List Int → List Int → Int → List Int → Bool → List Int → List (List Int) → Option (Bool)
 | 0, _, _, _, _, _, _, _, _, _ => none
 | k + 1, x1, x2, x3, x10, x11, x14, x88, x364000, x364001 => if x88 = true then (some false) else ((laws_markInt64S.f k x14 1).bind fun bt410 => ((laws_heldInt64S.f k bt410.2 1).bind fun t412 => (if t412 < 0 then (some false) else (if t412 = bt410.1 then ((laws_toTable.f k x364000 x364001).bind fun bt413 => ((laws_toInt64S.f k x3).bind fun t419 => ((impl_StampsFor.f k bt413.1 bt413.2 x1 x2 t419).bind fun bt422 => ((laws_eqInt64S.f k bt422.1 x10).bind fun t426 => (if t426 = true then (laws_FnExactStampsFor.j2 k bt410.2 bt410.1 (bt422.2 != x11)) else (laws_FnExactStampsFor.j2 k bt410.2 bt410.1 true)))))) else (some false)))))
def laws_FnExactStampsFor.j2 : Nat → List Int → Int → Bool → Option (Bool)
 | 0, _, _, _ => none
 | k + 1, x14, x17, x118 => if x118 = true then (some false) else ((laws_heldInt64S.f k x14 1).bind fun t427 => (if t427 < 0 then (some false) else (if t427 = x17 then (some true) else (some false))))
end
def laws_FnExactStampsFor.f (k : Nat) (l0_0 : List Int) (l0_1 : List (List Int)) (a1 : Int) (a2 : Int) (l3 : List Int) : Option (Bool) := if (l3.length : Int) > 1048576 then (some true) else ((laws_szTable.f k l0_0 l0_1 1048576).bind fun t364 => (if t364 < 0 then (some true) else ((laws_toTable.f k l0_0 l0_1).bind fun bt365 => ((laws_toInt64S.f k l3).bind fun t371 => ((spec_StampsFor.f k bt365.1 bt365.2 a1 a2 t371).bind fun bt374 => ((laws_toTable.f k l0_0 l0_1).bind fun bt378 => ((laws_toInt64S.f k l3).bind fun t385 => ((impl_StampsFor.f k bt378.1 bt378.2 a1 a2 t385).bind fun bt388 => ((laws_eqInt64S.f k bt388.1 bt374.1).bind fun t392 => (if t392 = true then (laws_FnExactStampsFor.j0 k a1 a2 l3 bt374.1 bt374.2 t385 bt388.1 bt388.2 (bt388.2 != bt374.2) l0_0 l0_1 bt378.1 bt378.2) else (laws_FnExactStampsFor.j0 k a1 a2 l3 bt374.1 bt374.2 t385 bt388.1 bt388.2 true l0_0 l0_1 bt378.1 bt378.2)))))))))))
theorem laws_FnExactStampsFor.mono_l : ∀ k, (∀ y0 y1 y2 y3 y4 y5 y6 y7 y8 y9 y10 y11 y12, LeO (laws_FnExactStampsFor.j0 k y0 y1 y2 y3 y4 y5 y6 y7 y8 y9 y10 y11 y12) (laws_FnExactStampsFor.j0 (k + 1) y0 y1 y2 y3 y4 y5 y6 y7 y8 y9 y10 y11 y12)) ∧ (∀ y0 y1 y2 y3 y4 y5 y6 y7 y8, LeO (laws_FnExactStampsFor.j1 k y0 y1 y2 y3 y4 y5 y6 y7 y8) (laws_FnExactStampsFor.j1 (k + 1) y0 y1 y2 y3 y4 y5 y6 y7 y8)) ∧ (∀ y0 y1 y2, LeO (laws_FnExactStampsFor.j2 k y0 y1 y2) (laws_FnExactStampsFor.j2 (k + 1) y0 y1 y2))
 | 0 => ⟨fun _ _ _ _ _ _ _ _ _ _ _ _ _ r h => by simp [laws_FnExactStampsFor.j0] at h, fun _ _ _ _ _ _ _ _ _ r h => by simp [laws_FnExactStampsFor.j1] at h, fun _ _ _ r h => by simp [laws_FnExactStampsFor.j2] at h⟩
 | k + 1 => by
  obtain ⟨ih0, ih1, ih2⟩ := laws_FnExactStampsFor.mono_l k
  refine ⟨?_, ?_, ?_⟩ <;> intros <;> (first | unfold laws_FnExactStampsFor.j0 | unfold laws_FnExactStampsFor.j1 | unfold laws_FnExactStampsFor.j2) <;> repeat' first
  | (with_reducible exact ih0 _ _ _ _ _ _ _ _ _ _ _ _ _)
  | (with_reducible exact ih1 _ _ _ _ _ _ _ _ _)
  | (with_reducible exact ih2 _ _ _)
  | (with_reducible exact impl_StampsFor.mono _ _ _ _ _ _)
  | (with_reducible exact laws_eqInt64S.mono _ _ _)
  | (with_reducible exact laws_eqTable.mono _ _ _ _ _)
  | (with_reducible exact laws_heldInt64S.mono _ _ _)
  | (with_reducible exact laws_markInt64S.mono _ _ _)
  | (with_reducible exact laws_markTable.mono _ _ _ _)
  | (with_reducible exact laws_szTable.mono _ _ _ _)
  | (with_reducible exact laws_toInt64S.mono _ _)
  | (with_reducible exact laws_toTable.mono _ _ _)
  | (with_reducible exact spec_StampsFor.mono _ _ _ _ _ _)
  | (with_reducible exact LeO.refl _)
  | (with_reducible exact LeO.none _)
  | (with_reducible refine LeO.ite ?_ ?_)
  | (with_reducible refine LeO.bind ?_ (fun _ => ?_))
  | exact ih0 _ _ _ _ _ _ _ _ _ _ _ _ _
  | exact ih1 _ _ _ _ _ _ _ _ _
  | exact ih2 _ _ _
  | exact impl_StampsFor.mono _ _ _ _ _ _
  | exact laws_eqInt64S.mono _ _ _
  | exact laws_eqTable.mono _ _ _ _ _
  | exact laws_heldInt64S.mono _ _ _
  | exact laws_markInt64S.mono _ _ _
  | exact laws_markTable.mono _ _ _ _
  | exact laws_szTable.mono _ _ _ _
  | exact laws_toInt64S.mono _ _
  | exact laws_toTable.mono _ _ _
  | exact spec_StampsFor.mono _ _ _ _ _ _
  | exact LeO.none _
  | refine LeO.ite ?_ ?_
  | refine LeO.bind ?_ (fun _ => ?_)
theorem laws_FnExactStampsFor.mono : ∀ a0 a1 a2 a3 a4 k, LeO (laws_FnExactStampsFor.f k a0 a1 a2 a3 a4) (laws_FnExactStampsFor.f (k + 1) a0 a1 a2 a3 a4) := by
 intro a0 a1 a2 a3 a4 k
 obtain ⟨ih0, ih1, ih2⟩ := laws_FnExactStampsFor.mono_l k
 unfold laws_FnExactStampsFor.f
 repeat' first
   | (with_reducible exact ih0 _ _ _ _ _ _ _ _ _ _ _ _ _)
   | (with_reducible exact ih1 _ _ _ _ _ _ _ _ _)
   | (with_reducible exact ih2 _ _ _)
   | (with_reducible exact impl_StampsFor.mono _ _ _ _ _ _)
   | (with_reducible exact laws_eqInt64S.mono _ _ _)
   | (with_reducible exact laws_eqTable.mono _ _ _ _ _)
   | (with_reducible exact laws_heldInt64S.mono _ _ _)
   | (with_reducible exact laws_markInt64S.mono _ _ _)
   | (with_reducible exact laws_markTable.mono _ _ _ _)
   | (with_reducible exact laws_szTable.mono _ _ _ _)
   | (with_reducible exact laws_toInt64S.mono _ _)
   | (with_reducible exact laws_toTable.mono _ _ _)
   | (with_reducible exact spec_StampsFor.mono _ _ _ _ _ _)
   | (with_reducible exact LeO.refl _)
   | (with_reducible exact LeO.none _)
   | (with_reducible refine LeO.ite ?_ ?_)
   | (with_reducible refine LeO.bind ?_ (fun _ => ?_))
   | exact ih0 _ _ _ _ _ _ _ _ _ _ _ _ _
   | exact ih1 _ _ _ _ _ _ _ _ _
   | exact ih2 _ _ _
   | exact impl_StampsFor.mono _ _ _ _ _ _
   | exact laws_eqInt64S.mono _ _ _
   | exact laws_eqTable.mono _ _ _ _ _
   | exact laws_heldInt64S.mono _ _ _
   | exact laws_markInt64S.mono _ _ _
   | exact laws_markTable.mono _ _ _ _
   | exact laws_szTable.mono _ _ _ _
   | exact laws_toInt64S.mono _ _
   | exact laws_toTable.mono _ _ _
   | exact spec_StampsFor.mono _ _ _ _ _ _
   | exact LeO.none _
   | refine LeO.ite ?_ ?_
   | refine LeO.bind ?_ (fun _ => ?_)
set_option maxHeartbeats 8000000 in
set_option maxRecDepth 100000 in
theorem laws_FnExactStampsFor.calls (k : Nat) (A0_0 : Option Addr) (c0_0 : Nat) (l0_0 : List Int) (A0_1 : Option Addr) (c0_1 : Nat) (l0_1 : List (List Int)) (a1 : Int) (a2 : Int) (A3 : Option Addr) (c3 : Nat) (l3 : List Int) (r : Bool) (w : World) (hr0_0 : Kd.C (Kd.int .i16) w A0_0 l0_0.length l0_0) (hc0_0 : l0_0.length ≤ c0_0) (hr0_1 : Kd.C (Kd.slice 81 (Kd.int .i16)) w A0_1 l0_1.length l0_1) (hc0_1 : l0_1.length ≤ c0_1) (hr3 : Kd.C (Kd.int .i64) w A3 l3.length l3) (hc3 : l3.length ≤ c3) (h : laws_FnExactStampsFor.f k l0_0 l0_1 a1 a2 l3 = some r) :
  Calls Try.prog 11 #[.agg #[.slice A0_0 l0_0.length c0_0, .slice A0_1 l0_1.length c0_1], .int .i64 a1, .int .i64 a2, .slice A3 l3.length c3] w fun e w' => e = .returned (.bool r) ∧ Below w.heap.size w w' := by
 have hu33 := Try.underlying33
 have hu38 := Try.underlying38
 have HR0_0 := Aside0.mk hr0_0
 have HC0_0 := Aside0.mk hc0_0
 clear hr0_0 hc0_0
 have HR0_1 := Aside0.mk hr0_1
 have HC0_1 := Aside0.mk hc0_1
 clear hr0_1 hc0_1
 have HR3 := Aside0.mk hr3
 have HC3 := Aside0.mk hc3
 clear hr3 hc3
 have HB := Aside0.mk (Below.refl w.heap.size w)
 have H : (if (l3.length : Int) > 1048576 then (some true) else ((laws_szTable.f k l0_0 l0_1 1048576).bind fun t364 => (if t364 < 0 then (some true) else ((laws_toTable.f k l0_0 l0_1).bind fun bt365 => ((laws_toInt64S.f k l3).bind fun t371 => ((spec_StampsFor.f k bt365.1 bt365.2 a1 a2 t371).bind fun bt374 => ((laws_toTable.f k l0_0 l0_1).bind fun bt378 => ((laws_toInt64S.f k l3).bind fun t385 => ((impl_StampsFor.f k bt378.1 bt378.2 a1 a2 t385).bind fun bt388 => ((laws_eqInt64S.f k bt388.1 bt374.1).bind fun t392 => (if t392 = true then (laws_FnExactStampsFor.j0 k a1 a2 l3 bt374.1 bt374.2 t385 bt388.1 bt388.2 (bt388.2 != bt374.2) l0_0 l0_1 bt378.1 bt378.2) else (laws_FnExactStampsFor.j0 k a1 a2 l3 bt374.1 bt374.2 t385 bt388.1 bt388.2 true l0_0 l0_1 bt378.1 bt378.2)))))))))))) = some r := h
 clear h
 by_cases c5 : (l3.length : Int) > 1048576
 ·rw [if_pos c5] at H
  have c5b0 : decide (1048576 < (l3.length : Int)) = true := decide_eq_true c5
  have c5b1 : decide (1048576 < l3.length) = true := decide_eq_true (by omega)
  clear c5
  obtain rfl := Option.some.inj H
  go_enter Try.func11, Try.ntmps11
  go_wp2_with (first | ((with_reducible refine gate_dst (N := 4) rfl ?_); refine box_event ?hg (N := 4) ?hd (cs := #[.slice A0_0 l0_0.length c0_0, .slice A0_1 l0_1.length c0_1]) (t := 33) ?hr ?_; (case hd => rfl); (case hg => rfl); (case hr => go_simp; try rfl); intro gb363 hg w6 hbox hb; have BK363 := Aside0.mk (hbox); have GW363 := Aside0.mk ((by rw [hg]; exact (below_size HB.out) : w.heap.size ≤ gb363)); have GE363 := Aside0.mk ((by rw [hg]; exact (below_size HB.out) : w.heap.size ≤ gb363)); replace HB := Aside0.mk (below_step HB.out hb); clear hb hbox hg))
  go_ret
  exact ⟨rfl, HB.out⟩
 ·rw [if_neg c5] at H
  have c5b0 : decide (1048576 < (l3.length : Int)) = false := decide_eq_false c5
  have c5b1 : decide (1048576 < l3.length) = false := decide_eq_false (by omega)
  clear c5
  replace H := Option.bind_eq_some_iff.mp H
  obtain ⟨t364, A70, H⟩ := H
  replace H : (if t364 < 0 then (some true) else ((laws_toTable.f k l0_0 l0_1).bind fun bt365 => ((laws_toInt64S.f k l3).bind fun t371 => ((spec_StampsFor.f k bt365.1 bt365.2 a1 a2 t371).bind fun bt374 => ((laws_toTable.f k l0_0 l0_1).bind fun bt378 => ((laws_toInt64S.f k l3).bind fun t385 => ((impl_StampsFor.f k bt378.1 bt378.2 a1 a2 t385).bind fun bt388 => ((laws_eqInt64S.f k bt388.1 bt374.1).bind fun t392 => (if t392 = true then (laws_FnExactStampsFor.j0 k a1 a2 l3 bt374.1 bt374.2 t385 bt388.1 bt388.2 (bt388.2 != bt374.2) l0_0 l0_1 bt378.1 bt378.2) else (laws_FnExactStampsFor.j0 k a1 a2 l3 bt374.1 bt374.2 t385 bt388.1 bt388.2 true l0_0 l0_1 bt378.1 bt378.2)))))))))) = some r := H
  have A7 := Aside0.mk A70
  clear A70
  by_cases c8 : t364 < 0
  ·rw [if_pos c8] at H
   have c8b0 : decide (t364 < 0) = true := decide_eq_true c8
   clear c8
   obtain rfl := Option.some.inj H
   go_enter Try.func11, Try.ntmps11
   go_wp2_with (first | ((with_reducible refine gate_dst (N := 4) rfl ?_); refine box_event ?hg (N := 4) ?hd (cs := #[.slice A0_0 l0_0.length c0_0, .slice A0_1 l0_1.length c0_1]) (t := 33) ?hr ?_; (case hd => rfl); (case hg => rfl); (case hr => go_simp; try rfl); intro gb363 hg w9 hbox hb; have BK363 := Aside0.mk (hbox); have GW363 := Aside0.mk ((by rw [hg]; exact (below_size HB.out) : w.heap.size ≤ gb363)); have GE363 := Aside0.mk ((by rw [hg]; exact (below_size HB.out) : w.heap.size ≤ gb363)); replace HB := Aside0.mk (below_step HB.out hb); clear hb hbox hg; have hcz10_0 : w9.cell? ⟨gb363, 0, none⟩ = some (.slice A0_0 l0_0.length c0_0) := (blk_cell BK363.out 0).trans rfl; have hcz10_1 : w9.cell? ⟨gb363, 1, none⟩ = some (.slice A0_1 l0_1.length c0_1) := (blk_cell BK363.out 1).trans rfl; have hfz10_0 := blk_frozen BK363.out 0; have hfz10_1 := blk_frozen BK363.out 1) | ((with_reducible refine gate_callee (f := 17) rfl ?_); refine goesL_ (some 26) rfl rfl Try.func17 (by kernel_rfl) rfl #[.agg #[.slice A0_0 l0_0.length c0_0, .slice A0_1 l0_1.length c0_1], .int .i64 1048576] rfl (by simp only [List.map_toArray, List.map_cons, List.map_nil]; try rfl) ?_; (with_reducible refine (laws_szTable.calls k _ _ l0_0 _ _ l0_1 1048576 t364 _ ?side1 ?side2 ?side3 ?side4 A7.out).mono ?_); (case side1 => exact (Kd.C_below HR0_0.out HB.out)); (case side2 => exact HC0_0.out); (case side3 => exact (Kd.C_below HR0_1.out HB.out)); (case side4 => exact HC0_1.out); rintro e w11 ⟨rfl, hb⟩; refine ⟨_, rfl, ?_⟩; replace BK363 := Aside0.mk (blk_below (g := gb363) (o := .cells #[.slice A0_0 l0_0.length c0_0, .slice A0_1 l0_1.length c0_1] 33 (0, 0)) BK363.out hb); replace HB := Aside0.mk (below_step HB.out hb)))
   go_ret
   exact ⟨rfl, HB.out⟩
  ·rw [if_neg c8] at H
   have c8b0 : decide (t364 < 0) = false := decide_eq_false c8
   clear c8
   replace H := Option.bind_eq_some_iff.mp H
   obtain ⟨⟨t365, t368⟩, A120, H⟩ := H
   replace H : ((laws_toInt64S.f k l3).bind fun t371 => ((spec_StampsFor.f k t365 t368 a1 a2 t371).bind fun bt374 => ((laws_toTable.f k l0_0 l0_1).bind fun bt378 => ((laws_toInt64S.f k l3).bind fun t385 => ((impl_StampsFor.f k bt378.1 bt378.2 a1 a2 t385).bind fun bt388 => ((laws_eqInt64S.f k bt388.1 bt374.1).bind fun t392 => (if t392 = true then (laws_FnExactStampsFor.j0 k a1 a2 l3 bt374.1 bt374.2 t385 bt388.1 bt388.2 (bt388.2 != bt374.2) l0_0 l0_1 bt378.1 bt378.2) else (laws_FnExactStampsFor.j0 k a1 a2 l3 bt374.1 bt374.2 t385 bt388.1 bt388.2 true l0_0 l0_1 bt378.1 bt378.2)))))))) = some r := H
   have A12 := Aside0.mk A120
   clear A120
   replace H := Option.bind_eq_some_iff.mp H
   obtain ⟨t371, A130, H⟩ := H
   replace H : ((spec_StampsFor.f k t365 t368 a1 a2 t371).bind fun bt374 => ((laws_toTable.f k l0_0 l0_1).bind fun bt378 => ((laws_toInt64S.f k l3).bind fun t385 => ((impl_StampsFor.f k bt378.1 bt378.2 a1 a2 t385).bind fun bt388 => ((laws_eqInt64S.f k bt388.1 bt374.1).bind fun t392 => (if t392 = true then (laws_FnExactStampsFor.j0 k a1 a2 l3 bt374.1 bt374.2 t385 bt388.1 bt388.2 (bt388.2 != bt374.2) l0_0 l0_1 bt378.1 bt378.2) else (laws_FnExactStampsFor.j0 k a1 a2 l3 bt374.1 bt374.2 t385 bt388.1 bt388.2 true l0_0 l0_1 bt378.1 bt378.2))))))) = some r := H
   have A13 := Aside0.mk A130
   clear A130
   replace H := Option.bind_eq_some_iff.mp H
   obtain ⟨⟨t374, t377⟩, A140, H⟩ := H
   replace H : ((laws_toTable.f k l0_0 l0_1).bind fun bt378 => ((laws_toInt64S.f k l3).bind fun t385 => ((impl_StampsFor.f k bt378.1 bt378.2 a1 a2 t385).bind fun bt388 => ((laws_eqInt64S.f k bt388.1 t374).bind fun t392 => (if t392 = true then (laws_FnExactStampsFor.j0 k a1 a2 l3 t374 t377 t385 bt388.1 bt388.2 (bt388.2 != t377) l0_0 l0_1 bt378.1 bt378.2) else (laws_FnExactStampsFor.j0 k a1 a2 l3 t374 t377 t385 bt388.1 bt388.2 true l0_0 l0_1 bt378.1 bt378.2)))))) = some r := H
   have A14 := Aside0.mk A140
   clear A140
   replace H := Option.bind_eq_some_iff.mp H
   obtain ⟨⟨t378, t381⟩, A150, H⟩ := H
   replace H : ((laws_toInt64S.f k l3).bind fun t385 => ((impl_StampsFor.f k t378 t381 a1 a2 t385).bind fun bt388 => ((laws_eqInt64S.f k bt388.1 t374).bind fun t392 => (if t392 = true then (laws_FnExactStampsFor.j0 k a1 a2 l3 t374 t377 t385 bt388.1 bt388.2 (bt388.2 != t377) l0_0 l0_1 t378 t381) else (laws_FnExactStampsFor.j0 k a1 a2 l3 t374 t377 t385 bt388.1 bt388.2 true l0_0 l0_1 t378 t381))))) = some r := H
   have A15 := Aside0.mk A150
   clear A150
   replace H := Option.bind_eq_some_iff.mp H
   obtain ⟨t385, A160, H⟩ := H
   replace H : ((impl_StampsFor.f k t378 t381 a1 a2 t385).bind fun bt388 => ((laws_eqInt64S.f k bt388.1 t374).bind fun t392 => (if t392 = true then (laws_FnExactStampsFor.j0 k a1 a2 l3 t374 t377 t385 bt388.1 bt388.2 (bt388.2 != t377) l0_0 l0_1 t378 t381) else (laws_FnExactStampsFor.j0 k a1 a2 l3 t374 t377 t385 bt388.1 bt388.2 true l0_0 l0_1 t378 t381)))) = some r := H
   have A16 := Aside0.mk A160
   clear A160
   replace H := Option.bind_eq_some_iff.mp H
   obtain ⟨⟨t388, t391⟩, A170, H⟩ := H
   replace H : ((laws_eqInt64S.f k t388 t374).bind fun t392 => (if t392 = true then (laws_FnExactStampsFor.j0 k a1 a2 l3 t374 t377 t385 t388 t391 (t391 != t377) l0_0 l0_1 t378 t381) else (laws_FnExactStampsFor.j0 k a1 a2 l3 t374 t377 t385 t388 t391 true l0_0 l0_1 t378 t381))) = some r := H
   have A17 := Aside0.mk A170
   clear A170
   have HC18 := Aside0.mk H
   clear H
   go_enter Try.func11, Try.ntmps11
   go_upto_region 11 with (first | ((with_reducible refine gate_dst (N := 4) rfl ?_); refine box_event ?hg (N := 4) ?hd (cs := #[.slice A0_0 l0_0.length c0_0, .slice A0_1 l0_1.length c0_1]) (t := 33) ?hr ?_; (case hd => rfl); (case hg => rfl); (case hr => go_simp; try rfl); intro gb363 hg w19 hbox hb; have BK363 := Aside0.mk (hbox); have GW363 := Aside0.mk ((by rw [hg]; exact (below_size (by repeat (first | (with_reducible first | exact HB.out | apply below_alloc | apply pw_below_drewN | apply below_drew1) | exact HB.out))) : w.heap.size ≤ gb363)); have GE363 := Aside0.mk ((by rw [hg]; exact (below_size (by repeat (first | (with_reducible first | exact HB.out | apply below_alloc | apply pw_below_drewN | apply below_drew1) | exact HB.out))) : w.heap.size ≤ gb363)); replace HB := Aside0.mk (below_step (by repeat (first | (with_reducible first | exact HB.out | apply below_alloc | apply pw_below_drewN | apply below_drew1) | exact HB.out)) hb); clear hb hbox hg; have hcz20_0 : w19.cell? ⟨gb363, 0, none⟩ = some (.slice A0_0 l0_0.length c0_0) := (blk_cell BK363.out 0).trans rfl; have hcz20_1 : w19.cell? ⟨gb363, 1, none⟩ = some (.slice A0_1 l0_1.length c0_1) := (blk_cell BK363.out 1).trans rfl; have hfz20_0 := blk_frozen BK363.out 0; have hfz20_1 := blk_frozen BK363.out 1) | ((with_reducible refine gate_callee (f := 17) rfl ?_); refine goesL_ (some 26) rfl rfl Try.func17 (by kernel_rfl) rfl #[.agg #[.slice A0_0 l0_0.length c0_0, .slice A0_1 l0_1.length c0_1], .int .i64 1048576] rfl (by simp only [List.map_toArray, List.map_cons, List.map_nil]; try rfl) ?_; (with_reducible refine (laws_szTable.calls k _ _ l0_0 _ _ l0_1 1048576 t364 _ ?side1 ?side2 ?side3 ?side4 A7.out).mono ?_); (case side1 => exact (Kd.C_below HR0_0.out HB.out)); (case side2 => exact HC0_0.out); (case side3 => exact (Kd.C_below HR0_1.out HB.out)); (case side4 => exact HC0_1.out); rintro e w21 ⟨rfl, hb⟩; refine ⟨_, rfl, ?_⟩; replace BK363 := Aside0.mk (blk_below (g := gb363) (o := .cells #[.slice A0_0 l0_0.length c0_0, .slice A0_1 l0_1.length c0_1] 33 (0, 0)) (by (with_reducible repeat (first | refine blk_drewN ?_ _ | refine blk_drew ?_ | refine blk_alloc ?_ _)); exact BK363.out) hb); replace HB := Aside0.mk (below_step (by repeat (first | (with_reducible first | exact HB.out | apply below_alloc | apply pw_below_drewN | apply below_drew1 | refine below_set ?_ GE363.out) | exact HB.out)) hb); have hcz22_0 : w21.cell? ⟨gb363, 0, none⟩ = some (.slice A0_0 l0_0.length c0_0) := (blk_cell BK363.out 0).trans rfl; have hcz22_1 : w21.cell? ⟨gb363, 1, none⟩ = some (.slice A0_1 l0_1.length c0_1) := (blk_cell BK363.out 1).trans rfl; have hfz22_0 := blk_frozen BK363.out 0; have hfz22_1 := blk_frozen BK363.out 1) | ((with_reducible refine gate_callee (f := 19) rfl ?_); refine goesL_ (some 31) rfl rfl Try.func19 (by kernel_rfl) rfl #[.agg #[.slice A0_0 l0_0.length c0_0, .slice A0_1 l0_1.length c0_1]] rfl (by simp only [List.map_toArray, List.map_cons, List.map_nil]; try rfl) ?_; (with_reducible refine (laws_toTable.calls k _ _ l0_0 _ _ l0_1 t365 t368 _ ?side1 ?side2 ?side3 ?side4 A12.out).mono ?_); (case side1 => exact (Kd.C_below HR0_0.out HB.out)); (case side2 => exact HC0_0.out); (case side3 => exact (Kd.C_below HR0_1.out HB.out)); (case side4 => exact HC0_1.out); rintro e w23 ⟨v366, v369, rfl, ho0, ho1, hb⟩; refine ⟨_, rfl, ?_⟩; have HO367 := Aside0.mk (Kd.R_lower ho0 (below_size (by repeat (first | (with_reducible first | exact HB.out | apply below_alloc | apply pw_below_drewN | apply below_drew1 | refine below_set ?_ GE363.out) | exact HB.out)))); have HO370 := Aside0.mk (Kd.S_lower ho1 (below_size (by repeat (first | (with_reducible first | exact HB.out | apply below_alloc | apply pw_below_drewN | apply below_drew1 | refine below_set ?_ GE363.out) | exact HB.out)))); replace BK363 := Aside0.mk (blk_below (g := gb363) (o := .cells #[.slice A0_0 l0_0.length c0_0, .slice A0_1 l0_1.length c0_1] 33 (0, 0)) (by (with_reducible repeat (first | refine blk_drewN ?_ _ | refine blk_drew ?_ | refine blk_alloc ?_ _)); exact BK363.out) hb); replace HB := Aside0.mk (below_step (by repeat (first | (with_reducible first | exact HB.out | apply below_alloc | apply pw_below_drewN | apply below_drew1 | refine below_set ?_ GE363.out) | exact HB.out)) hb); (try clear ho1)) | ((with_reducible refine gate_callee (f := 20) rfl ?_); refine goesL_ (some 35) rfl rfl Try.func20 (by kernel_rfl) rfl #[.slice A3 l3.length c3] rfl (by simp only [List.map_toArray, List.map_cons, List.map_nil]; try rfl) ?_; (with_reducible refine (laws_toInt64S.calls k _ _ l3 t371 _ ?side1 ?side2 A13.out).mono ?_); (case side1 => exact (Kd.C_below HR3.out HB.out)); (case side2 => exact HC3.out); rintro e w24 ⟨v372, rfl, ho0, hb⟩; refine ⟨_, rfl, ?_⟩; replace HO367 := Aside0.mk (Kd.R_below (HO367.out) hb); replace HO370 := Aside0.mk (Kd.S_below (HO370.out) hb); have HO373 := Aside0.mk (Kd.R_lower ho0 (below_size (by repeat (first | (with_reducible first | exact HB.out | apply below_alloc | apply pw_below_drewN | apply below_drew1 | refine below_set ?_ GE363.out) | exact HB.out)))); replace BK363 := Aside0.mk (blk_below (g := gb363) (o := .cells #[.slice A0_0 l0_0.length c0_0, .slice A0_1 l0_1.length c0_1] 33 (0, 0)) (by (with_reducible repeat (first | refine blk_drewN ?_ _ | refine blk_drew ?_ | refine blk_alloc ?_ _)); exact BK363.out) hb); replace HB := Aside0.mk (below_step (by repeat (first | (with_reducible first | exact HB.out | apply below_alloc | apply pw_below_drewN | apply below_drew1 | refine below_set ?_ GE363.out) | exact HB.out)) hb); obtain ⟨Ao25, co25, eo25⟩ := Kd.R_slice HO367.out; subst eo25; obtain ⟨Ao26, co26, eo26⟩ := Kd.S_slice HO370.out; subst eo26; obtain ⟨Ao27, co27, eo27⟩ := Kd.R_slice HO373.out; subst eo27) | ((with_reducible refine gate_callee (f := 39) rfl ?_); refine goesL_ (some 36) rfl rfl Try.func39 (by kernel_rfl) rfl #[.agg #[.slice Ao25 t365.length co25, .slice Ao26 t368.length co26], .int .i64 a1, .int .i64 a2, .slice Ao27 t371.length co27] rfl (by simp only [List.map_toArray, List.map_cons, List.map_nil]; try rfl) ?_; (with_reducible refine (spec_StampsFor.calls k _ _ t365 _ _ t368 a1 a2 _ _ t371 t374 t377 _ ?side1 ?side2 ?side3 ?side4 ?side5 ?side6 A14.out).mono ?_); (case side1 => exact (Kd.R_reads' HO367.out).2.2); (case side2 => exact (Kd.R_reads' HO367.out).2.1); (case side3 => exact (Kd.S_reads' HO370.out).2.2); (case side4 => exact (Kd.S_reads' HO370.out).2.1); (case side5 => exact (Kd.R_reads' HO373.out).2.2); (case side6 => exact (Kd.R_reads' HO373.out).2.1); rintro e w28 ⟨v375, rfl, ho0, hb⟩; refine ⟨_, rfl, ?_⟩; replace HO367 := Aside0.mk (Kd.R_below (HO367.out) hb); replace HO370 := Aside0.mk (Kd.S_below (HO370.out) hb); have HO376 := Aside0.mk (Kd.R_lower (Kd.R_new' ho0 (Kd.R_lt (HO373.out))) (below_size (by repeat (first | (with_reducible first | exact HB.out | apply below_alloc | apply pw_below_drewN | apply below_drew1 | refine below_set ?_ GE363.out) | exact HB.out)))); replace HO373 := Aside0.mk (Kd.R_elder' (HO373.out) (Kd.R_base ho0) hb); replace BK363 := Aside0.mk (blk_below (g := gb363) (o := .cells #[.slice A0_0 l0_0.length c0_0, .slice A0_1 l0_1.length c0_1] 33 (0, 0)) (by (with_reducible repeat (first | refine blk_drewN ?_ _ | refine blk_drew ?_ | refine blk_alloc ?_ _)); exact BK363.out) hb); replace HB := Aside0.mk (below_step (by repeat (first | (with_reducible first | exact HB.out | apply below_alloc | apply pw_below_drewN | apply below_drew1 | refine below_set ?_ GE363.out) | exact HB.out)) hb); have hcz29_0 : w28.cell? ⟨gb363, 0, none⟩ = some (.slice A0_0 l0_0.length c0_0) := (blk_cell BK363.out 0).trans rfl; have hcz29_1 : w28.cell? ⟨gb363, 1, none⟩ = some (.slice A0_1 l0_1.length c0_1) := (blk_cell BK363.out 1).trans rfl; have hfz29_0 := blk_frozen BK363.out 0; have hfz29_1 := blk_frozen BK363.out 1) | ((with_reducible refine gate_callee (f := 19) rfl ?_); refine goesL_ (some 40) rfl rfl Try.func19 (by kernel_rfl) rfl #[.agg #[.slice A0_0 l0_0.length c0_0, .slice A0_1 l0_1.length c0_1]] rfl (by simp only [List.map_toArray, List.map_cons, List.map_nil]; try rfl) ?_; (with_reducible refine (laws_toTable.calls k _ _ l0_0 _ _ l0_1 t378 t381 _ ?side1 ?side2 ?side3 ?side4 A15.out).mono ?_); (case side1 => exact (Kd.C_below HR0_0.out HB.out)); (case side2 => exact HC0_0.out); (case side3 => exact (Kd.C_below HR0_1.out HB.out)); (case side4 => exact HC0_1.out); rintro e w30 ⟨v379, v382, rfl, ho0, ho1, hb⟩; refine ⟨_, rfl, ?_⟩; replace HO373 := Aside0.mk (Kd.R_below (HO373.out) hb); replace HO376 := Aside0.mk (Kd.R_below (HO376.out) hb); have HO380 := Aside0.mk (Kd.R_lower (Kd.R_new' ho0 (Kd.R_lt (HO367.out))) (below_size (by repeat (first | (with_reducible first | exact HB.out | apply below_alloc | apply pw_below_drewN | apply below_drew1 | refine below_set ?_ GE363.out) | exact HB.out)))); have HO383 := Aside0.mk (Kd.S_lower (Kd.S_new' (Kd.S_new' ho1 (Kd.R_lt (HO367.out))) (Kd.S_lt (HO370.out))) (below_size (by repeat (first | (with_reducible first | exact HB.out | apply below_alloc | apply pw_below_drewN | apply below_drew1 | refine below_set ?_ GE363.out) | exact HB.out)))); replace HO367 := Aside0.mk (Kd.R_elder' (HO367.out) (Kd.R_base ho0) hb); replace HO370 := Aside0.mk (Kd.S_mono (Kd.S_told (Kd.S_told (Kd.S_old (HO370.out) hb) (Kd.R_base ho0)) (Kd.S_base ho1)) (fun _ h_ => h_.1)); replace BK363 := Aside0.mk (blk_below (g := gb363) (o := .cells #[.slice A0_0 l0_0.length c0_0, .slice A0_1 l0_1.length c0_1] 33 (0, 0)) (by (with_reducible repeat (first | refine blk_drewN ?_ _ | refine blk_drew ?_ | refine blk_alloc ?_ _)); exact BK363.out) hb); replace HB := Aside0.mk (below_step (by repeat (first | (with_reducible first | exact HB.out | apply below_alloc | apply pw_below_drewN | apply below_drew1 | refine below_set ?_ GE363.out) | exact HB.out)) hb); (try clear ho1)) | ((with_reducible refine gate_dst (N := 12) rfl ?_); refine box_event ?hg (N := 12) ?hd (cs := #[.slice none 0 0, .slice none 0 0]) (t := 38) ?hr ?_; (case hd => rfl); (case hg => rfl); (case hr => go_simp; try rfl); intro gb384 hg w31 hbox hb; replace HO367 := Aside0.mk (Kd.R_below (HO367.out) hb); replace HO370 := Aside0.mk (Kd.S_below (HO370.out) hb); replace HO373 := Aside0.mk (Kd.R_below (HO373.out) hb); replace HO376 := Aside0.mk (Kd.R_below (HO376.out) hb); replace HO380 := Aside0.mk (Kd.R_below (HO380.out) hb); replace HO383 := Aside0.mk (Kd.S_below (HO383.out) hb); have BK384 := Aside0.mk (hbox); have GW384 := Aside0.mk ((by rw [hg]; exact (below_size (by repeat (first | (with_reducible first | exact HB.out | apply below_alloc | apply pw_below_drewN | apply below_drew1 | refine below_set ?_ GE363.out) | exact HB.out))) : w.heap.size ≤ gb384)); have GE384 := Aside0.mk ((by rw [hg]; exact (below_size (by repeat (first | (with_reducible first | exact HB.out | apply below_alloc | apply pw_below_drewN | apply below_drew1 | refine below_set ?_ GE363.out) | exact HB.out))) : w.heap.size ≤ gb384)); replace HB := Aside0.mk (below_step (by repeat (first | (with_reducible first | exact HB.out | apply below_alloc | apply pw_below_drewN | apply below_drew1 | refine below_set ?_ GE363.out) | exact HB.out)) hb); have NB363_384 := Aside0.mk ((by rw [hg]; exact Nat.ne_of_lt (blk_lt (g := gb363) (o := .cells #[.slice A0_0 l0_0.length c0_0, .slice A0_1 l0_1.length c0_1] 33 (0, 0)) (by (with_reducible repeat (first | refine blk_drewN ?_ _ | refine blk_drew ?_ | refine blk_alloc ?_ _)); exact BK363.out)) : gb363 ≠ gb384)); have NB384_363 := Aside0.mk ((by rw [hg]; exact Nat.ne_of_gt (blk_lt (g := gb363) (o := .cells #[.slice A0_0 l0_0.length c0_0, .slice A0_1 l0_1.length c0_1] 33 (0, 0)) (by (with_reducible repeat (first | refine blk_drewN ?_ _ | refine blk_drew ?_ | refine blk_alloc ?_ _)); exact BK363.out)) : gb384 ≠ gb363)); replace BK363 := Aside0.mk (blk_below (g := gb363) (o := .cells #[.slice A0_0 l0_0.length c0_0, .slice A0_1 l0_1.length c0_1] 33 (0, 0)) (by (with_reducible repeat (first | refine blk_drewN ?_ _ | refine blk_drew ?_ | refine blk_alloc ?_ _)); exact BK363.out) hb); clear hb hbox hg; obtain ⟨Ao32, co32, eo32⟩ := Kd.R_slice HO380.out; subst eo32; have hnb33 := NB384_363.out; have hnc33 := NB363_384.out; have hcz34_0 : w31.cell? ⟨gb384, 0, none⟩ = some (.slice none 0 0) := (blk_cell BK384.out 0).trans rfl; have hcz34_1 : w31.cell? ⟨gb384, 1, none⟩ = some (.slice none 0 0) := (blk_cell BK384.out 1).trans rfl; have hfz34_0 := blk_frozen BK384.out 0; have hfz34_1 := blk_frozen BK384.out 1; obtain ⟨Ao35, co35, eo35⟩ := Kd.S_slice HO383.out; subst eo35) | ((with_reducible refine gate_callee (f := 20) rfl ?_); refine goesL_ (some 42) rfl rfl Try.func20 (by kernel_rfl) rfl #[.slice A3 l3.length c3] rfl (by simp only [List.map_toArray, List.map_cons, List.map_nil]; try rfl) ?_; (with_reducible refine (laws_toInt64S.calls k _ _ l3 t385 _ ?side1 ?side2 A16.out).mono ?_); (case side1 => exact Kd.C_below HR3.out (by repeat (first | (with_reducible first | exact HB.out | apply below_alloc | apply pw_below_drewN | apply below_drew1 | refine below_set ?_ GE363.out | refine below_set ?_ GE384.out) | exact HB.out))); (case side2 => exact HC3.out); rintro e w36 ⟨v386, rfl, ho0, hb⟩; refine ⟨_, rfl, ?_⟩; replace HO367 := Aside0.mk (Kd.R_below (by (with_reducible repeat (first | apply Kd.R_alloc | apply Kd.R_drewN | apply Kd.R_drew)); exact (Kd.R_mono (Kd.R_far (p := ⟨gb384, 1, none⟩) (Kd.R_far (p := ⟨gb384, 0, none⟩) (Kd.R_types HO367.out BK384.out (by decide)) (fun _ hk => hk.2) (.slice Ao32 t378.length co32)) (fun _ hk => hk.2) (.slice Ao35 t381.length co35)) (fun _ h_ => h_.1))) hb); replace HO370 := Aside0.mk (Kd.S_below (by (with_reducible repeat (first | apply Kd.S_alloc | apply Kd.S_drewN | apply Kd.S_drew)); exact (Kd.S_mono (Kd.S_far (p := ⟨gb384, 1, none⟩) (Kd.S_far (p := ⟨gb384, 0, none⟩) (Kd.S_types HO370.out BK384.out (by decide)) (fun _ hk => hk.2) (.slice Ao32 t378.length co32)) (fun _ hk => hk.2) (.slice Ao35 t381.length co35)) (fun _ h_ => h_.1))) hb); replace HO380 := Aside0.mk (Kd.R_below (by (with_reducible repeat (first | apply Kd.R_alloc | apply Kd.R_drewN | apply Kd.R_drew)); exact (Kd.R_mono (Kd.R_far (p := ⟨gb384, 1, none⟩) (Kd.R_far (p := ⟨gb384, 0, none⟩) (Kd.R_types HO380.out BK384.out (by decide)) (fun _ hk => hk.2) (.slice Ao32 t378.length co32)) (fun _ hk => hk.2) (.slice Ao35 t381.length co35)) (fun _ h_ => h_.1))) hb); replace HO383 := Aside0.mk (Kd.S_below (by (with_reducible repeat (first | apply Kd.S_alloc | apply Kd.S_drewN | apply Kd.S_drew)); exact (Kd.S_mono (Kd.S_far (p := ⟨gb384, 1, none⟩) (Kd.S_far (p := ⟨gb384, 0, none⟩) (Kd.S_types HO383.out BK384.out (by decide)) (fun _ hk => hk.2) (.slice Ao32 t378.length co32)) (fun _ hk => hk.2) (.slice Ao35 t381.length co35)) (fun _ h_ => h_.1))) hb); have HO387 := Aside0.mk (Kd.R_lower (Kd.R_new' (Kd.R_new' ho0 (Kd.R_lt (by (with_reducible repeat (first | apply Kd.R_alloc | apply Kd.R_drewN | apply Kd.R_drew)); exact (Kd.R_mono (Kd.R_far (p := ⟨gb384, 1, none⟩) (Kd.R_far (p := ⟨gb384, 0, none⟩) (Kd.R_types HO373.out BK384.out (by decide)) (fun _ hk => hk.2) (.slice Ao32 t378.length co32)) (fun _ hk => hk.2) (.slice Ao35 t381.length co35)) (fun _ h_ => h_.1))))) (Kd.R_lt (by (with_reducible repeat (first | apply Kd.R_alloc | apply Kd.R_drewN | apply Kd.R_drew)); exact (Kd.R_mono (Kd.R_far (p := ⟨gb384, 1, none⟩) (Kd.R_far (p := ⟨gb384, 0, none⟩) (Kd.R_types HO376.out BK384.out (by decide)) (fun _ hk => hk.2) (.slice Ao32 t378.length co32)) (fun _ hk => hk.2) (.slice Ao35 t381.length co35)) (fun _ h_ => h_.1))))) (below_size (by repeat (first | (with_reducible first | exact HB.out | apply below_alloc | apply pw_below_drewN | apply below_drew1 | refine below_set ?_ GE363.out | refine below_set ?_ GE384.out) | exact HB.out)))); replace HO373 := Aside0.mk (Kd.R_elder' (by (with_reducible repeat (first | apply Kd.R_alloc | apply Kd.R_drewN | apply Kd.R_drew)); exact (Kd.R_mono (Kd.R_far (p := ⟨gb384, 1, none⟩) (Kd.R_far (p := ⟨gb384, 0, none⟩) (Kd.R_types HO373.out BK384.out (by decide)) (fun _ hk => hk.2) (.slice Ao32 t378.length co32)) (fun _ hk => hk.2) (.slice Ao35 t381.length co35)) (fun _ h_ => h_.1))) (Kd.R_base ho0) hb); replace HO376 := Aside0.mk (Kd.R_elder' (by (with_reducible repeat (first | apply Kd.R_alloc | apply Kd.R_drewN | apply Kd.R_drew)); exact (Kd.R_mono (Kd.R_far (p := ⟨gb384, 1, none⟩) (Kd.R_far (p := ⟨gb384, 0, none⟩) (Kd.R_types HO376.out BK384.out (by decide)) (fun _ hk => hk.2) (.slice Ao32 t378.length co32)) (fun _ hk => hk.2) (.slice Ao35 t381.length co35)) (fun _ h_ => h_.1))) (Kd.R_base ho0) hb); replace BK363 := Aside0.mk (blk_below (g := gb363) (o := .cells #[.slice A0_0 l0_0.length c0_0, .slice A0_1 l0_1.length c0_1] 33 (0, 0)) (by (with_reducible repeat (first | refine blk_drewN ?_ _ | refine blk_drew ?_ | refine blk_alloc ?_ _)); refine blk_far ?_ NB363_384.out _; (with_reducible repeat (first | refine blk_drewN ?_ _ | refine blk_drew ?_ | refine blk_alloc ?_ _)); refine blk_far ?_ NB363_384.out _; (with_reducible repeat (first | refine blk_drewN ?_ _ | refine blk_drew ?_ | refine blk_alloc ?_ _)); exact BK363.out) hb); replace BK384 := Aside0.mk (blk_below (g := gb384) (o := .cells #[.slice Ao32 t378.length co32, .slice Ao35 t381.length co35] 38 (0, 0)) (by (with_reducible repeat (first | refine blk_drewN ?_ _ | refine blk_drew ?_ | refine blk_alloc ?_ _)); refine blk_put (cs := #[.slice Ao32 t378.length co32, .slice none 0 0]) ?_ 1 _ rfl; (with_reducible repeat (first | refine blk_drewN ?_ _ | refine blk_drew ?_ | refine blk_alloc ?_ _)); refine blk_put (cs := #[.slice none 0 0, .slice none 0 0]) ?_ 0 _ rfl; (with_reducible repeat (first | refine blk_drewN ?_ _ | refine blk_drew ?_ | refine blk_alloc ?_ _)); exact BK384.out) hb); replace HB := Aside0.mk (below_step (by repeat (first | (with_reducible first | exact HB.out | apply below_alloc | apply pw_below_drewN | apply below_drew1 | refine below_set ?_ GE363.out | refine below_set ?_ GE384.out) | exact HB.out)) hb); have hcz37_0 : w36.cell? ⟨gb384, 0, none⟩ = some (.slice Ao32 t378.length co32) := (blk_cell BK384.out 0).trans rfl; have hcz37_1 : w36.cell? ⟨gb384, 1, none⟩ = some (.slice Ao35 t381.length co35) := (blk_cell BK384.out 1).trans rfl; have hfz37_0 := blk_frozen BK384.out 0; have hfz37_1 := blk_frozen BK384.out 1; obtain ⟨Ao38, co38, eo38⟩ := Kd.R_slice HO387.out; subst eo38) | ((with_reducible refine gate_callee (f := 40) rfl ?_); refine goesL_ (some 48) rfl rfl Try.func40 (by kernel_rfl) rfl #[.agg #[.slice Ao32 t378.length co32, .slice Ao35 t381.length co35], .int .i64 a1, .int .i64 a2, .slice Ao38 t385.length co38] rfl (by simp only [List.map_toArray, List.map_cons, List.map_nil]; try rfl) ?_; (with_reducible refine (impl_StampsFor.calls k _ _ t378 _ _ t381 a1 a2 _ _ t385 t388 t391 _ ?side1 ?side2 ?side3 ?side4 ?side5 ?side6 A17.out).mono ?_); (case side1 => exact (Kd.R_reads' HO380.out).2.2); (case side2 => exact (Kd.R_reads' HO380.out).2.1); (case side3 => exact (Kd.S_reads' HO383.out).2.2); (case side4 => exact (Kd.S_reads' HO383.out).2.1); (case side5 => exact (Kd.R_reads' HO387.out).2.2); (case side6 => exact (Kd.R_reads' HO387.out).2.1); rintro e w39 ⟨v389, rfl, ho0, hb⟩; refine ⟨_, rfl, ?_⟩; replace HO367 := Aside0.mk (Kd.R_below (HO367.out) hb); replace HO370 := Aside0.mk (Kd.S_below (HO370.out) hb); replace HO380 := Aside0.mk (Kd.R_below (HO380.out) hb); replace HO383 := Aside0.mk (Kd.S_below (HO383.out) hb); have HO390 := Aside0.mk (Kd.R_lower (Kd.R_new' (Kd.R_new' (Kd.R_new' ho0 (Kd.R_lt (HO373.out))) (Kd.R_lt (HO376.out))) (Kd.R_lt (HO387.out))) (below_size (by repeat (first | (with_reducible first | exact HB.out | apply below_alloc | apply pw_below_drewN | apply below_drew1 | refine below_set ?_ GE363.out | refine below_set ?_ GE384.out) | exact HB.out)))); replace HO373 := Aside0.mk (Kd.R_elder' (HO373.out) (Kd.R_base ho0) hb); replace HO376 := Aside0.mk (Kd.R_elder' (HO376.out) (Kd.R_base ho0) hb); replace HO387 := Aside0.mk (Kd.R_elder' (HO387.out) (Kd.R_base ho0) hb); replace BK363 := Aside0.mk (blk_below (g := gb363) (o := .cells #[.slice A0_0 l0_0.length c0_0, .slice A0_1 l0_1.length c0_1] 33 (0, 0)) (by (with_reducible repeat (first | refine blk_drewN ?_ _ | refine blk_drew ?_ | refine blk_alloc ?_ _)); exact BK363.out) hb); replace BK384 := Aside0.mk (blk_below (g := gb384) (o := .cells #[.slice Ao32 t378.length co32, .slice Ao35 t381.length co35] 38 (0, 0)) (by (with_reducible repeat (first | refine blk_drewN ?_ _ | refine blk_drew ?_ | refine blk_alloc ?_ _)); exact BK384.out) hb); replace HB := Aside0.mk (below_step (by repeat (first | (with_reducible first | exact HB.out | apply below_alloc | apply pw_below_drewN | apply below_drew1 | refine below_set ?_ GE363.out | refine below_set ?_ GE384.out) | exact HB.out)) hb)))
   (try simp only [Act.put, sA_, sZ_, sS_])
   go_cut [59] (fun v59 wc => ∃ (kq : Nat) (x59_17 : Bool), v59 = .bool x59_17 ∧ Aside0 (laws_FnExactStampsFor.j0 kq a1 a2 l3 t374 t377 t385 t388 t391 x59_17 l0_0 l0_1 t378 t381 = some r) ∧ Aside0 (kq ≤ k) ∧ Aside0 (Kd.R (Kd.int .i64) 2 wc w.heap.size (fun k_ => some k_ ≠ ((.slice Ao38 t385.length co38) : Value).ownBlock ∧ some k_ ≠ (v389 : Value).ownBlock) v375 t374) ∧ Aside0 (Kd.R (Kd.int .i64) 2 wc w.heap.size (fun k_ => some k_ ≠ (v375 : Value).ownBlock ∧ some k_ ≠ (v389 : Value).ownBlock) (.slice Ao38 t385.length co38) t385) ∧ Aside0 (Kd.R (Kd.int .i64) 2 wc w.heap.size (fun k_ => some k_ ≠ (v375 : Value).ownBlock ∧ some k_ ≠ ((.slice Ao38 t385.length co38) : Value).ownBlock) v389 t388) ∧ Aside0 (Kd.R (Kd.int .i16) 81 wc w.heap.size (fun _ => True) (.slice Ao32 t378.length co32) t378) ∧ Aside0 (Kd.S (Kd.slice 81 (Kd.int .i16)) 30 wc w.heap.size (fun k_ => some k_ ≠ ((.slice Ao32 t378.length co32) : Value).ownBlock) (.slice Ao35 t381.length co35) t381) ∧ Aside0 (wc.heap[gb363]? = some (.cells #[(.slice A0_0 l0_0.length c0_0), (.slice A0_1 l0_1.length c0_1)] 33 (0, 0))) ∧ Aside0 (wc.heap[gb384]? = some (.cells #[(.slice Ao32 t378.length co32), (.slice Ao35 t381.length co35)] 38 (0, 0))) ∧ Aside0 (Below w.heap.size w wc))
   case first =>
    have H := HC18.out
    clear HC18
    replace H := Option.bind_eq_some_iff.mp H
    obtain ⟨t392, A400, H⟩ := H
    replace H : (if t392 = true then (laws_FnExactStampsFor.j0 k a1 a2 l3 t374 t377 t385 t388 t391 (t391 != t377) l0_0 l0_1 t378 t381) else (laws_FnExactStampsFor.j0 k a1 a2 l3 t374 t377 t385 t388 t391 true l0_0 l0_1 t378 t381)) = some r := H
    have A40 := Aside0.mk A400
    clear A400
    by_cases c41 : t392 = true
    ·subst c41
     have H1 : (laws_FnExactStampsFor.j0 k a1 a2 l3 t374 t377 t385 t388 t391 (t391 != t377) l0_0 l0_1 t378 t381) = some r := by rw [if_pos rfl] at H; exact H
     clear H
     have H := H1
     clear H1
     have H' := Aside0.mk H
     clear H
     obtain ⟨Ao42, co42, eo42⟩ := Kd.R_slice HO390.out
     subst eo42
     obtain ⟨Ao43, co43, eo43⟩ := Kd.R_slice HO376.out
     subst eo43
     go_wp2_with (first | ((with_reducible refine gate_callee (f := 23) rfl ?_); refine goesL_ (some 53) rfl rfl Try.func23 (by kernel_rfl) rfl #[.slice Ao42 t388.length co42, .slice Ao43 t374.length co43] rfl (by simp only [List.map_toArray, List.map_cons, List.map_nil]; try rfl) ?_; (with_reducible refine (laws_eqInt64S.calls k _ _ t388 _ _ t374 true _ ?side1 ?side2 ?side3 ?side4 A40.out).mono ?_); (case side1 => exact (Kd.R_reads' HO390.out).2.2); (case side2 => exact (Kd.R_reads' HO390.out).2.1); (case side3 => exact (Kd.R_reads' HO376.out).2.2); (case side4 => exact (Kd.R_reads' HO376.out).2.1); rintro e w' ⟨rfl, ⟨nd, rfl⟩⟩; refine ⟨_, rfl, ?_⟩))
     go_meet
     case rel => exact ⟨_, ((t391 != t377)), (by first | rfl | (simp; done) | (simp [*]; done)), H', ⟨by first | omega | exact Nat.le_refl _⟩, ⟨by (with_reducible repeat (first | apply Kd.R_alloc | apply Kd.R_drewN | apply Kd.R_drew)); exact Kd.R_mono HO376.out (fun _ hk => ⟨hk.1.2, hk.2⟩)⟩, ⟨by (with_reducible repeat (first | apply Kd.R_alloc | apply Kd.R_drewN | apply Kd.R_drew)); exact Kd.R_mono HO387.out (fun _ hk => ⟨hk.1.2, hk.2⟩)⟩, ⟨by (with_reducible repeat (first | apply Kd.R_alloc | apply Kd.R_drewN | apply Kd.R_drew)); exact Kd.R_mono HO390.out (fun _ hk => ⟨hk.1.2, hk.2⟩)⟩, ⟨Kd.R_mono HO380.out (fun _ hk => trivial)⟩, ⟨by (with_reducible repeat (first | apply Kd.S_alloc | apply Kd.S_drewN | apply Kd.S_drew)); exact Kd.S_mono HO383.out (fun _ hk => hk.1.1)⟩, ⟨by (with_reducible repeat (first | refine blk_drewN ?_ _ | refine blk_drew ?_ | refine blk_alloc ?_ _)); exact BK363.out⟩, ⟨by (with_reducible repeat (first | refine blk_drewN ?_ _ | refine blk_drew ?_ | refine blk_alloc ?_ _)); exact BK384.out⟩, ⟨by repeat (first | (with_reducible first | exact HB.out | apply below_alloc | apply pw_below_drewN | apply below_drew1 | refine below_set ?_ GE363.out | refine below_set ?_ GE384.out) | exact HB.out)⟩⟩
    ·replace c41 := Bool.eq_false_iff.mpr c41
     subst c41
     have H1 : (laws_FnExactStampsFor.j0 k a1 a2 l3 t374 t377 t385 t388 t391 true l0_0 l0_1 t378 t381) = some r := by rw [if_neg (show ¬ (false = true) by decide)] at H; exact H
     clear H
     have H := H1
     clear H1
     have H' := Aside0.mk H
     clear H
     obtain ⟨Ao44, co44, eo44⟩ := Kd.R_slice HO390.out
     subst eo44
     obtain ⟨Ao45, co45, eo45⟩ := Kd.R_slice HO376.out
     subst eo45
     go_wp2_with (first | ((with_reducible refine gate_callee (f := 23) rfl ?_); refine goesL_ (some 53) rfl rfl Try.func23 (by kernel_rfl) rfl #[.slice Ao44 t388.length co44, .slice Ao45 t374.length co45] rfl (by simp only [List.map_toArray, List.map_cons, List.map_nil]; try rfl) ?_; (with_reducible refine (laws_eqInt64S.calls k _ _ t388 _ _ t374 false _ ?side1 ?side2 ?side3 ?side4 A40.out).mono ?_); (case side1 => exact (Kd.R_reads' HO390.out).2.2); (case side2 => exact (Kd.R_reads' HO390.out).2.1); (case side3 => exact (Kd.R_reads' HO376.out).2.2); (case side4 => exact (Kd.R_reads' HO376.out).2.1); rintro e w' ⟨rfl, ⟨nd, rfl⟩⟩; refine ⟨_, rfl, ?_⟩))
     go_meet
     case rel => exact ⟨_, (true), (by first | rfl | (simp; done) | (simp [*]; done)), H', ⟨by first | omega | exact Nat.le_refl _⟩, ⟨by (with_reducible repeat (first | apply Kd.R_alloc | apply Kd.R_drewN | apply Kd.R_drew)); exact Kd.R_mono HO376.out (fun _ hk => ⟨hk.1.2, hk.2⟩)⟩, ⟨by (with_reducible repeat (first | apply Kd.R_alloc | apply Kd.R_drewN | apply Kd.R_drew)); exact Kd.R_mono HO387.out (fun _ hk => ⟨hk.1.2, hk.2⟩)⟩, ⟨by (with_reducible repeat (first | apply Kd.R_alloc | apply Kd.R_drewN | apply Kd.R_drew)); exact Kd.R_mono HO390.out (fun _ hk => ⟨hk.1.2, hk.2⟩)⟩, ⟨Kd.R_mono HO380.out (fun _ hk => trivial)⟩, ⟨by (with_reducible repeat (first | apply Kd.S_alloc | apply Kd.S_drewN | apply Kd.S_drew)); exact Kd.S_mono HO383.out (fun _ hk => hk.1.1)⟩, ⟨by (with_reducible repeat (first | refine blk_drewN ?_ _ | refine blk_drew ?_ | refine blk_alloc ?_ _)); exact BK363.out⟩, ⟨by (with_reducible repeat (first | refine blk_drewN ?_ _ | refine blk_drew ?_ | refine blk_alloc ?_ _)); exact BK384.out⟩, ⟨by repeat (first | (with_reducible first | exact HB.out | apply below_alloc | apply pw_below_drewN | apply below_drew1 | refine below_set ?_ GE363.out | refine below_set ?_ GE384.out) | exact HB.out)⟩⟩
   case rest =>
    clear HC18
    try clear c1
    try clear c2
    try clear p2
    try clear c3
    try clear c4
    try clear c5
    try clear c5b0
    try clear c5b1
    try clear c8
    try clear c8b0
    try clear c11
    try clear c17
    try clear c19
    try clear c20
    try clear c23
    try clear c33
    try clear c39
    try clear c40
    try clear c41
    try clear hcz10_0
    try clear hcz10_1
    try clear hcz20_0
    try clear hcz20_1
    try clear hcz22_0
    try clear hcz22_1
    try clear hcz29_0
    try clear hcz29_1
    try clear hcz34_0
    try clear hcz34_1
    try clear hcz37_0
    try clear hcz37_1
    try clear hfz10_0
    try clear hfz10_1
    try clear hfz20_0
    try clear hfz20_1
    try clear hfz22_0
    try clear hfz22_1
    try clear hfz29_0
    try clear hfz29_1
    try clear hfz34_0
    try clear hfz34_1
    try clear hfz37_0
    try clear hfz37_1
    obtain ⟨kq, x59_17, rfl, HA, HJ17, HO_10, HO_13, HO_14, HO_385000, HO_385001, BK363, BK384, HB⟩ := hcut
    cases kq with
    | zero => exact absurd HA.out (by simp [laws_FnExactStampsFor.j0])
    | succ kj17 =>
     have H := HA.out
     clear HA
     simp only [laws_FnExactStampsFor.j0] at H
     by_cases c46 : x59_17 = true
     ·subst c46
      have H1 : (some false) = some r := by rw [if_pos rfl] at H; exact H
      clear H
      have H := H1
      clear H1
      obtain rfl := Option.some.inj H
      go_wp2
      go_ret
      exact ⟨rfl, HB.out⟩
     ·replace c46 := Bool.eq_false_iff.mpr c46
      subst c46
      have H1 : ((laws_toTable.f kj17 l0_0 l0_1).bind fun bt393 => ((laws_eqTable.f kj17 t378 t381 bt393.1 bt393.2).bind fun t399 => (if t399 = true then ((laws_toInt64S.f kj17 l3).bind fun t400 => ((laws_eqInt64S.f kj17 t385 t400).bind fun t403 => (if t403 = true then ((laws_markTable.f kj17 t378 t381 1).bind fun bt404 => ((laws_markInt64S.f kj17 t385 bt404.1).bind fun bt407 => (if bt407.1 < 0 then (laws_FnExactStampsFor.j1 kj17 a1 a2 l3 t374 t377 t388 true l0_0 l0_1) else ((laws_eqInt64S.f kj17 t388 t374).bind fun t409 => (if t409 = true then (laws_FnExactStampsFor.j1 kj17 a1 a2 l3 t374 t377 t388 (t391 != t377) l0_0 l0_1) else (laws_FnExactStampsFor.j1 kj17 a1 a2 l3 t374 t377 t388 true l0_0 l0_1)))))) else (some false)))) else (some false)))) = some r := by rw [if_neg (show ¬ (false = true) by decide)] at H; exact H
      clear H
      have H := H1
      clear H1
      replace H := Option.bind_eq_some_iff.mp H
      obtain ⟨⟨t393, t396⟩, A470, H⟩ := H
      replace H : ((laws_eqTable.f kj17 t378 t381 t393 t396).bind fun t399 => (if t399 = true then ((laws_toInt64S.f kj17 l3).bind fun t400 => ((laws_eqInt64S.f kj17 t385 t400).bind fun t403 => (if t403 = true then ((laws_markTable.f kj17 t378 t381 1).bind fun bt404 => ((laws_markInt64S.f kj17 t385 bt404.1).bind fun bt407 => (if bt407.1 < 0 then (laws_FnExactStampsFor.j1 kj17 a1 a2 l3 t374 t377 t388 true l0_0 l0_1) else ((laws_eqInt64S.f kj17 t388 t374).bind fun t409 => (if t409 = true then (laws_FnExactStampsFor.j1 kj17 a1 a2 l3 t374 t377 t388 (t391 != t377) l0_0 l0_1) else (laws_FnExactStampsFor.j1 kj17 a1 a2 l3 t374 t377 t388 true l0_0 l0_1)))))) else (some false)))) else (some false))) = some r := H
      have A47 := Aside0.mk A470
      clear A470
      replace H := Option.bind_eq_some_iff.mp H
      obtain ⟨t399, A480, H⟩ := H
      replace H : (if t399 = true then ((laws_toInt64S.f kj17 l3).bind fun t400 => ((laws_eqInt64S.f kj17 t385 t400).bind fun t403 => (if t403 = true then ((laws_markTable.f kj17 t378 t381 1).bind fun bt404 => ((laws_markInt64S.f kj17 t385 bt404.1).bind fun bt407 => (if bt407.1 < 0 then (laws_FnExactStampsFor.j1 kj17 a1 a2 l3 t374 t377 t388 true l0_0 l0_1) else ((laws_eqInt64S.f kj17 t388 t374).bind fun t409 => (if t409 = true then (laws_FnExactStampsFor.j1 kj17 a1 a2 l3 t374 t377 t388 (t391 != t377) l0_0 l0_1) else (laws_FnExactStampsFor.j1 kj17 a1 a2 l3 t374 t377 t388 true l0_0 l0_1)))))) else (some false)))) else (some false)) = some r := H
      have A48 := Aside0.mk A480
      clear A480
      by_cases c49 : t399 = true
      ·subst c49
       have H1 : ((laws_toInt64S.f kj17 l3).bind fun t400 => ((laws_eqInt64S.f kj17 t385 t400).bind fun t403 => (if t403 = true then ((laws_markTable.f kj17 t378 t381 1).bind fun bt404 => ((laws_markInt64S.f kj17 t385 bt404.1).bind fun bt407 => (if bt407.1 < 0 then (laws_FnExactStampsFor.j1 kj17 a1 a2 l3 t374 t377 t388 true l0_0 l0_1) else ((laws_eqInt64S.f kj17 t388 t374).bind fun t409 => (if t409 = true then (laws_FnExactStampsFor.j1 kj17 a1 a2 l3 t374 t377 t388 (t391 != t377) l0_0 l0_1) else (laws_FnExactStampsFor.j1 kj17 a1 a2 l3 t374 t377 t388 true l0_0 l0_1)))))) else (some false)))) = some r := by rw [if_pos rfl] at H; exact H
       clear H
       have H := H1
       clear H1
       replace H := Option.bind_eq_some_iff.mp H
       obtain ⟨t400, A500, H⟩ := H
       replace H : ((laws_eqInt64S.f kj17 t385 t400).bind fun t403 => (if t403 = true then ((laws_markTable.f kj17 t378 t381 1).bind fun bt404 => ((laws_markInt64S.f kj17 t385 bt404.1).bind fun bt407 => (if bt407.1 < 0 then (laws_FnExactStampsFor.j1 kj17 a1 a2 l3 t374 t377 t388 true l0_0 l0_1) else ((laws_eqInt64S.f kj17 t388 t374).bind fun t409 => (if t409 = true then (laws_FnExactStampsFor.j1 kj17 a1 a2 l3 t374 t377 t388 (t391 != t377) l0_0 l0_1) else (laws_FnExactStampsFor.j1 kj17 a1 a2 l3 t374 t377 t388 true l0_0 l0_1)))))) else (some false))) = some r := H
       have A50 := Aside0.mk A500
       clear A500
       replace H := Option.bind_eq_some_iff.mp H
       obtain ⟨t403, A510, H⟩ := H
       replace H : (if t403 = true then ((laws_markTable.f kj17 t378 t381 1).bind fun bt404 => ((laws_markInt64S.f kj17 t385 bt404.1).bind fun bt407 => (if bt407.1 < 0 then (laws_FnExactStampsFor.j1 kj17 a1 a2 l3 t374 t377 t388 true l0_0 l0_1) else ((laws_eqInt64S.f kj17 t388 t374).bind fun t409 => (if t409 = true then (laws_FnExactStampsFor.j1 kj17 a1 a2 l3 t374 t377 t388 (t391 != t377) l0_0 l0_1) else (laws_FnExactStampsFor.j1 kj17 a1 a2 l3 t374 t377 t388 true l0_0 l0_1)))))) else (some false)) = some r := H
       have A51 := Aside0.mk A510
       clear A510
       by_cases c52 : t403 = true
       ·subst c52
        have H1 : ((laws_markTable.f kj17 t378 t381 1).bind fun bt404 => ((laws_markInt64S.f kj17 t385 bt404.1).bind fun bt407 => (if bt407.1 < 0 then (laws_FnExactStampsFor.j1 kj17 a1 a2 l3 t374 t377 t388 true l0_0 l0_1) else ((laws_eqInt64S.f kj17 t388 t374).bind fun t409 => (if t409 = true then (laws_FnExactStampsFor.j1 kj17 a1 a2 l3 t374 t377 t388 (t391 != t377) l0_0 l0_1) else (laws_FnExactStampsFor.j1 kj17 a1 a2 l3 t374 t377 t388 true l0_0 l0_1)))))) = some r := by rw [if_pos rfl] at H; exact H
        clear H
        have H := H1
        clear H1
        replace H := Option.bind_eq_some_iff.mp H
        obtain ⟨⟨t404, t405, t406⟩, A530, H⟩ := H
        replace H : ((laws_markInt64S.f kj17 t385 t404).bind fun bt407 => (if bt407.1 < 0 then (laws_FnExactStampsFor.j1 kj17 a1 a2 l3 t374 t377 t388 true l0_0 l0_1) else ((laws_eqInt64S.f kj17 t388 t374).bind fun t409 => (if t409 = true then (laws_FnExactStampsFor.j1 kj17 a1 a2 l3 t374 t377 t388 (t391 != t377) l0_0 l0_1) else (laws_FnExactStampsFor.j1 kj17 a1 a2 l3 t374 t377 t388 true l0_0 l0_1))))) = some r := H
        have A53 := Aside0.mk A530
        clear A530
        replace H := Option.bind_eq_some_iff.mp H
        obtain ⟨⟨t407, t408⟩, A540, H⟩ := H
        replace H : (if t407 < 0 then (laws_FnExactStampsFor.j1 kj17 a1 a2 l3 t374 t377 t388 true l0_0 l0_1) else ((laws_eqInt64S.f kj17 t388 t374).bind fun t409 => (if t409 = true then (laws_FnExactStampsFor.j1 kj17 a1 a2 l3 t374 t377 t388 (t391 != t377) l0_0 l0_1) else (laws_FnExactStampsFor.j1 kj17 a1 a2 l3 t374 t377 t388 true l0_0 l0_1)))) = some r := H
        have A54 := Aside0.mk A540
        clear A540
        have HC55 := Aside0.mk H
        clear H
        try go_wp2
        replace HO_10 := Aside0.mk (Kd.R_drew HO_10.out)
        replace HO_13 := Aside0.mk (Kd.R_drew HO_13.out)
        replace HO_14 := Aside0.mk (Kd.R_drew HO_14.out)
        replace HO_385000 := Aside0.mk (Kd.R_drew HO_385000.out)
        replace HO_385001 := Aside0.mk (Kd.S_drew HO_385001.out)
        replace BK363 := Aside0.mk (blk_drew BK363.out)
        replace BK384 := Aside0.mk (blk_drew BK384.out)
        replace HB := Aside0.mk (below_drew1 HB.out)
        refine start_ (n := 5) (S := fun w' => w'.cell? ⟨gb384, 0, none⟩ = some (.slice Ao32 t378.length co32) ∧ w'.cell? ⟨gb384, 1, none⟩ = some (.slice Ao35 t381.length co35) ∧ w'.cell? ⟨gb363, 0, none⟩ = some (.slice A0_0 l0_0.length c0_0) ∧ w'.cell? ⟨gb363, 1, none⟩ = some (.slice A0_1 l0_1.length c0_1)) (ds := []) #[false, false, false, false, false] (by kernel_rfl) rfl rfl ⟨(blk_cell BK384.out 0).trans rfl, (blk_cell BK384.out 1).trans rfl, (blk_cell BK363.out 0).trans rfl, (blk_cell BK363.out 1).trans rfl⟩ (fun hHeld => ?_)
        generalize wc.drew = w56 at HO_10 HO_13 HO_14 HO_385000 HO_385001 BK363 BK384 HB hHeld ⊢
        refine tk_ (i := 0) (N := some 60) (v := ?_) (a' := ?_) rfl rfl (by kernel_rfl) (fun _ _ _ h => h) (Or.inl ⟨by rfl, ?_⟩) hHeld ?_ ?_
        rotate_left; rintro w' ⟨s0, s1, s2, s3⟩; go_simp; with_reducible rfl; rotate_left; simp only [Act.put, sA_, sZ_, sS_, i64_w, i32_w]; rfl
        refine tk_ (i := 1) (N := some 61) (v := ?_) (a' := ?_) rfl rfl (by kernel_rfl) (fun _ _ _ h => h) (Or.inl ⟨by rfl, ?_⟩) hHeld ?_ ?_
        rotate_left; rintro w' ⟨s0, s1, s2, s3⟩; go_simp; with_reducible rfl; rotate_left; simp only [Act.put, sA_, sZ_, sS_, i64_w, i32_w]; rfl
        refine on_ (i := 2) (N := some 62) rfl rfl (by kernel_rfl) (by decide) (fun K hK => ?_)
        refine goes_ Try.func19 (by kernel_rfl) rfl #[.agg #[.slice A0_0 l0_0.length c0_0, .slice A0_1 l0_1.length c0_1]] (by rfl) rfl rfl (by simp only [List.map_toArray, List.map_cons, List.map_nil]; try rfl) ?_
        with_reducible refine (laws_toTable.calls kj17 _ _ l0_0 _ _ l0_1 t393 t396 _ ?side1 ?side2 ?side3 ?side4 A47.out).mono ?_
        (case side1 => exact (Kd.C_below HR0_0.out HB.out))
        (case side2 => exact HC0_0.out)
        (case side3 => exact (Kd.C_below HR0_1.out HB.out))
        (case side4 => exact HC0_1.out)
        rintro e w57 ⟨v394, v397, rfl, ho0, ho1, hb⟩
        refine ⟨_, rfl, ?_⟩
        replace HO_10 := Aside0.mk (Kd.R_below HO_10.out hb)
        replace HO_13 := Aside0.mk (Kd.R_below HO_13.out hb)
        replace HO_14 := Aside0.mk (Kd.R_below HO_14.out hb)
        have HO395 := Aside0.mk (Kd.R_lower (Kd.R_new' ho0 (Kd.R_lt HO_385000.out)) (below_size HB.out))
        have HO398 := Aside0.mk (Kd.S_lower (Kd.S_new' (Kd.S_new' ho1 (Kd.R_lt HO_385000.out)) (Kd.S_lt HO_385001.out)) (below_size HB.out))
        replace HO_385000 := Aside0.mk (Kd.R_elder' HO_385000.out (Kd.R_base ho0) hb)
        replace HO_385001 := Aside0.mk (Kd.S_mono (Kd.S_told (Kd.S_told (Kd.S_old HO_385001.out hb) (Kd.R_base ho0)) (Kd.S_base ho1)) (fun _ h_ => h_.1))
        replace BK363 := Aside0.mk (blk_below (g := gb363) (o := .cells #[.slice A0_0 l0_0.length c0_0, .slice A0_1 l0_1.length c0_1] 33 (0, 0)) BK363.out hb)
        replace BK384 := Aside0.mk (blk_below (g := gb384) (o := .cells #[.slice Ao32 t378.length co32, .slice Ao35 t381.length co35] 38 (0, 0)) BK384.out hb)
        replace HB := Aside0.mk (below_step HB.out hb)
        (try clear hb)
        (try clear hb2)
        (try clear hk)
        (try clear hi)
        (try clear ho0)
        (try clear ho1)
        obtain ⟨Ao58, co58, eo58⟩ := Kd.R_slice HO395.out
        (first | subst eo58 | (injection eo58 with f1_ f2_ f3_; have f4_ := f1_.symm; have f5_ := f3_.symm; clear f1_ f2_ f3_; subst f4_; subst f5_))
        obtain ⟨Ao59, co59, eo59⟩ := Kd.S_slice HO398.out
        (first | subst eo59 | (injection eo59 with f1_ f2_ f3_; have f4_ := f1_.symm; have f5_ := f3_.symm; clear f1_ f2_ f3_; subst f4_; subst f5_))
        refine hK.out _ _ ⟨(blk_cell BK384.out 0).trans rfl, (blk_cell BK384.out 1).trans rfl, (blk_cell BK363.out 0).trans rfl, (blk_cell BK363.out 1).trans rfl⟩ (fun hHeld => ?_)
        clear hK K
        refine norm_ (a' := ?_) ?_ ?_
        rotate_left
        ·show Act.put _ (some 62) _ = _
         simp only [Act.put, sA_, sZ_, sS_, i64_w, i32_w]
         rfl
        refine on_ (i := 3) (N := some 63) rfl rfl (by kernel_rfl) (by decide) (fun K hK => ?_)
        refine goes_ Try.func22 (by kernel_rfl) rfl #[.agg #[.slice Ao32 t378.length co32, .slice Ao35 t381.length co35], .agg #[.slice Ao58 t393.length co58, .slice Ao59 t396.length co59]] (by rfl) rfl rfl (by simp only [List.map_toArray, List.map_cons, List.map_nil]; try rfl) ?_
        with_reducible refine (laws_eqTable.calls kj17 _ _ t378 _ _ t381 _ _ t393 _ _ t396 true _ ?side1 ?side2 ?side3 ?side4 ?side5 ?side6 ?side7 ?side8 A48.out).mono ?_
        (case side1 => exact (Kd.R_reads' HO_385000.out).2.2)
        (case side2 => exact (Kd.R_reads' HO_385000.out).2.1)
        (case side3 => exact (Kd.S_reads' HO_385001.out).2.2)
        (case side4 => exact (Kd.S_reads' HO_385001.out).2.1)
        (case side5 => exact (Kd.R_reads' HO395.out).2.2)
        (case side6 => exact (Kd.R_reads' HO395.out).2.1)
        (case side7 => exact (Kd.S_reads' HO398.out).2.2)
        (case side8 => exact (Kd.S_reads' HO398.out).2.1)
        rintro e w60 ⟨rfl, hb⟩
        refine ⟨_, rfl, ?_⟩
        replace HO_10 := Aside0.mk (Kd.R_below HO_10.out hb)
        replace HO_13 := Aside0.mk (Kd.R_below HO_13.out hb)
        replace HO_14 := Aside0.mk (Kd.R_below HO_14.out hb)
        replace HO_385000 := Aside0.mk (Kd.R_below HO_385000.out hb)
        replace HO_385001 := Aside0.mk (Kd.S_below HO_385001.out hb)
        replace HO395 := Aside0.mk (Kd.R_below HO395.out hb)
        replace HO398 := Aside0.mk (Kd.S_below HO398.out hb)
        replace BK363 := Aside0.mk (blk_below (g := gb363) (o := .cells #[.slice A0_0 l0_0.length c0_0, .slice A0_1 l0_1.length c0_1] 33 (0, 0)) BK363.out hb)
        replace BK384 := Aside0.mk (blk_below (g := gb384) (o := .cells #[.slice Ao32 t378.length co32, .slice Ao35 t381.length co35] 38 (0, 0)) BK384.out hb)
        replace HB := Aside0.mk (below_step HB.out hb)
        (try clear hb)
        (try clear hb2)
        (try clear hk)
        (try clear hi)
        refine hK.out _ _ ⟨(blk_cell BK384.out 0).trans rfl, (blk_cell BK384.out 1).trans rfl, (blk_cell BK363.out 0).trans rfl, (blk_cell BK363.out 1).trans rfl⟩ (fun hHeld => ?_)
        clear hK K
        refine norm_ (a' := ?_) ?_ ?_
        rotate_left
        ·show Act.put _ (some 63) _ = _
         simp only [Act.put, sA_, sZ_, sS_, i64_w, i32_w]
         rfl
        refine pu_ (i := 4) (N := some 64) (v := ?_) (a' := ?_) rfl rfl (by kernel_rfl) (fun _ _ _ h => h) (Or.inl ⟨by rfl, ?_⟩) ?_ ?_
        rotate_left; intro w'; go_simp; with_reducible rfl; rotate_left; simp only [Act.put, sA_, sZ_, sS_, i64_w, i32_w]; rfl
        refine done_ (by kernel_rfl) ?_
        go_upto_region 20 with (first | ((with_reducible refine gate_callee (f := 20) rfl ?_); refine goesL_ (some 67) rfl rfl Try.func20 (by kernel_rfl) rfl #[.slice A3 l3.length c3] rfl (by simp only [List.map_toArray, List.map_cons, List.map_nil]; try rfl) ?_; (with_reducible refine (laws_toInt64S.calls kj17 _ _ l3 t400 _ ?side1 ?side2 A50.out).mono ?_); (case side1 => exact (Kd.C_below HR3.out HB.out)); (case side2 => exact HC3.out); rintro e w61 ⟨v401, rfl, ho0, hb⟩; refine ⟨_, rfl, ?_⟩; replace HO_385000 := Aside0.mk (Kd.R_below HO_385000.out hb); replace HO_385001 := Aside0.mk (Kd.S_below HO_385001.out hb); replace HO395 := Aside0.mk (Kd.R_below HO395.out hb); replace HO398 := Aside0.mk (Kd.S_below HO398.out hb); have HO402 := Aside0.mk (Kd.R_lower (Kd.R_new' (Kd.R_new' (Kd.R_new' ho0 (Kd.R_lt HO_10.out)) (Kd.R_lt HO_13.out)) (Kd.R_lt HO_14.out)) (below_size HB.out)); replace HO_10 := Aside0.mk (Kd.R_elder' HO_10.out (Kd.R_base ho0) hb); replace HO_13 := Aside0.mk (Kd.R_elder' HO_13.out (Kd.R_base ho0) hb); replace HO_14 := Aside0.mk (Kd.R_elder' HO_14.out (Kd.R_base ho0) hb); replace BK363 := Aside0.mk (blk_below (g := gb363) (o := .cells #[.slice A0_0 l0_0.length c0_0, .slice A0_1 l0_1.length c0_1] 33 (0, 0)) BK363.out hb); replace BK384 := Aside0.mk (blk_below (g := gb384) (o := .cells #[.slice Ao32 t378.length co32, .slice Ao35 t381.length co35] 38 (0, 0)) BK384.out hb); replace HB := Aside0.mk (below_step HB.out hb); obtain ⟨Ao62, co62, eo62⟩ := Kd.R_slice HO402.out; subst eo62) | ((with_reducible refine gate_callee (f := 23) rfl ?_); refine goesL_ (some 68) rfl rfl Try.func23 (by kernel_rfl) rfl #[.slice Ao38 t385.length co38, .slice Ao62 t400.length co62] rfl (by simp only [List.map_toArray, List.map_cons, List.map_nil]; try rfl) ?_; (with_reducible refine (laws_eqInt64S.calls kj17 _ _ t385 _ _ t400 true _ ?side1 ?side2 ?side3 ?side4 A51.out).mono ?_); (case side1 => exact (Kd.R_reads' HO_13.out).2.2); (case side2 => exact (Kd.R_reads' HO_13.out).2.1); (case side3 => exact (Kd.R_reads' HO402.out).2.2); (case side4 => exact (Kd.R_reads' HO402.out).2.1); rintro e w' ⟨rfl, ⟨nd, rfl⟩⟩; refine ⟨_, rfl, ?_⟩; have hnb63 := NB384_363.out; have hnc63 := NB363_384.out; have hcz64_0 : w61.cell? ⟨gb384, 0, none⟩ = some (.slice Ao32 t378.length co32) := (blk_cell BK384.out 0).trans rfl; have hcz64_1 : w61.cell? ⟨gb384, 1, none⟩ = some (.slice Ao35 t381.length co35) := (blk_cell BK384.out 1).trans rfl; have hfz64_0 := blk_frozen BK384.out 0; have hfz64_1 := blk_frozen BK384.out 1) | ((with_reducible refine gate_callee (f := 32) rfl ?_); refine goesL_ (some 72) rfl rfl Try.func32 (by kernel_rfl) rfl #[.agg #[.slice Ao32 t378.length co32, .slice Ao35 t381.length co35], .int .i64 1] rfl (by simp only [List.map_toArray, List.map_cons, List.map_nil]; try rfl) ?_; (with_reducible refine (laws_markTable.calls kj17 (fun k_ => some k_ = (.slice Ao32 t378.length co32 : Value).ownBlock) (.slice Ao32 t378.length co32) t378 (fun k_ => ((((((((some k_ ≠ (.slice Ao32 t378.length co32 : Value).ownBlock ∧ some k_ ≠ (.slice Ao58 t393.length co58 : Value).ownBlock) ∧ some k_ ≠ (.slice Ao59 t396.length co59 : Value).ownBlock) ∧ some k_ ≠ (v375 : Value).ownBlock) ∧ some k_ ≠ (.slice Ao38 t385.length co38 : Value).ownBlock) ∧ some k_ ≠ (v389 : Value).ownBlock) ∧ some k_ ≠ (.slice Ao62 t400.length co62 : Value).ownBlock) ∧ k_ ≠ gb363) ∧ k_ ≠ gb384)) (.slice Ao35 t381.length co35) t381 1 t404 t405 t406 w _ ?side1 ?side2 ?side3 ?side4 A53.out).mono ?_); (case side1 => repeat (first | (with_reducible first | exact HB.out | apply below_alloc | apply pw_below_drewN | apply below_drew1 | refine below_set ?_ GE363.out | refine below_set ?_ GE384.out) | exact HB.out)); (case side2 => exact Kd.R_tight rfl HO_385000.out); (case side3 => exact (Kd.S_types (Kd.S_types (Kd.S_apart' (Kd.S_apart' (Kd.S_apart' (Kd.S_apart' HO_385001.out (Kd.R_typed HO_10.out) (by decide)) (Kd.R_typed HO_13.out) (by decide)) (Kd.R_typed HO_14.out) (by decide)) (Kd.R_typed HO402.out) (by decide)) BK363.out (by decide)) BK384.out (by decide))); (case side4 => exact fun k_ e_ => e_.1.1.1.1.1.1.1.1); rintro e w65 ⟨rfl, hy0, hy1, hb, hkp⟩; refine ⟨_, rfl, ?_⟩; replace HO_10 := Aside0.mk (Kd.R_mono (ok' := fun k_ => some k_ ≠ (.slice Ao38 t385.length co38 : Value).ownBlock ∧ some k_ ≠ (v389 : Value).ownBlock ∧ some k_ ≠ (.slice Ao62 t400.length co62 : Value).ownBlock) (Kd.R_keptB ((Kd.R_mono (ok' := fun k_ => ((((some k_ ≠ (.slice Ao38 t385.length co38 : Value).ownBlock ∧ some k_ ≠ (v389 : Value).ownBlock) ∧ some k_ ≠ (.slice Ao62 t400.length co62 : Value).ownBlock) ∧ some k_ ≠ (.slice Ao32 t378.length co32 : Value).ownBlock)) ∧ ¬ ((fun k_ => ((((((((some k_ ≠ (.slice Ao32 t378.length co32 : Value).ownBlock ∧ some k_ ≠ (.slice Ao58 t393.length co58 : Value).ownBlock) ∧ some k_ ≠ (.slice Ao59 t396.length co59 : Value).ownBlock) ∧ some k_ ≠ (v375 : Value).ownBlock) ∧ some k_ ≠ (.slice Ao38 t385.length co38 : Value).ownBlock) ∧ some k_ ≠ (v389 : Value).ownBlock) ∧ some k_ ≠ (.slice Ao62 t400.length co62 : Value).ownBlock) ∧ k_ ≠ gb363) ∧ k_ ≠ gb384)) k_)) (Kd.R_tight2 rfl (Kd.R_apart' HO_10.out (Kd.R_typed HO_385000.out) (by decide))) (fun k_ hk => ⟨hk.2, fun e_ => (e_.1.1.1.1.1.2) hk.1⟩))) hkp (fun k_ hk_ hs_ => Or.elim hs_ (fun e_ => (hk_.1.2) e_) (fun e_ => (hk_.2) e_))) (fun k_ hk_ => ⟨hk_.1.1.1.1.1, hk_.1.1.1.1.2, hk_.1.1.1.2⟩)); replace HO_13 := Aside0.mk (Kd.R_mono (ok' := fun k_ => some k_ ≠ (v375 : Value).ownBlock ∧ some k_ ≠ (v389 : Value).ownBlock ∧ some k_ ≠ (.slice Ao62 t400.length co62 : Value).ownBlock) (Kd.R_keptB ((Kd.R_mono (ok' := fun k_ => ((((some k_ ≠ (v375 : Value).ownBlock ∧ some k_ ≠ (v389 : Value).ownBlock) ∧ some k_ ≠ (.slice Ao62 t400.length co62 : Value).ownBlock) ∧ some k_ ≠ (.slice Ao32 t378.length co32 : Value).ownBlock)) ∧ ¬ ((fun k_ => ((((((((some k_ ≠ (.slice Ao32 t378.length co32 : Value).ownBlock ∧ some k_ ≠ (.slice Ao58 t393.length co58 : Value).ownBlock) ∧ some k_ ≠ (.slice Ao59 t396.length co59 : Value).ownBlock) ∧ some k_ ≠ (v375 : Value).ownBlock) ∧ some k_ ≠ (.slice Ao38 t385.length co38 : Value).ownBlock) ∧ some k_ ≠ (v389 : Value).ownBlock) ∧ some k_ ≠ (.slice Ao62 t400.length co62 : Value).ownBlock) ∧ k_ ≠ gb363) ∧ k_ ≠ gb384)) k_)) (Kd.R_tight2 rfl (Kd.R_apart' HO_13.out (Kd.R_typed HO_385000.out) (by decide))) (fun k_ hk => ⟨hk.2, fun e_ => (e_.1.1.1.1.2) hk.1⟩))) hkp (fun k_ hk_ hs_ => Or.elim hs_ (fun e_ => (hk_.1.2) e_) (fun e_ => (hk_.2) e_))) (fun k_ hk_ => ⟨hk_.1.1.1.1.1, hk_.1.1.1.1.2, hk_.1.1.1.2⟩)); replace HO_14 := Aside0.mk (Kd.R_mono (ok' := fun k_ => some k_ ≠ (v375 : Value).ownBlock ∧ some k_ ≠ (.slice Ao38 t385.length co38 : Value).ownBlock ∧ some k_ ≠ (.slice Ao62 t400.length co62 : Value).ownBlock) (Kd.R_keptB ((Kd.R_mono (ok' := fun k_ => ((((some k_ ≠ (v375 : Value).ownBlock ∧ some k_ ≠ (.slice Ao38 t385.length co38 : Value).ownBlock) ∧ some k_ ≠ (.slice Ao62 t400.length co62 : Value).ownBlock) ∧ some k_ ≠ (.slice Ao32 t378.length co32 : Value).ownBlock)) ∧ ¬ ((fun k_ => ((((((((some k_ ≠ (.slice Ao32 t378.length co32 : Value).ownBlock ∧ some k_ ≠ (.slice Ao58 t393.length co58 : Value).ownBlock) ∧ some k_ ≠ (.slice Ao59 t396.length co59 : Value).ownBlock) ∧ some k_ ≠ (v375 : Value).ownBlock) ∧ some k_ ≠ (.slice Ao38 t385.length co38 : Value).ownBlock) ∧ some k_ ≠ (v389 : Value).ownBlock) ∧ some k_ ≠ (.slice Ao62 t400.length co62 : Value).ownBlock) ∧ k_ ≠ gb363) ∧ k_ ≠ gb384)) k_)) (Kd.R_tight2 rfl (Kd.R_apart' HO_14.out (Kd.R_typed HO_385000.out) (by decide))) (fun k_ hk => ⟨hk.2, fun e_ => (e_.1.1.1.2) hk.1⟩))) hkp (fun k_ hk_ hs_ => Or.elim hs_ (fun e_ => (hk_.1.2) e_) (fun e_ => (hk_.2) e_))) (fun k_ hk_ => ⟨hk_.1.1.1.1.1, hk_.1.1.1.1.2, hk_.1.1.1.2⟩)); replace HO_385001 := Aside0.mk (Kd.S_mono (ok' := fun k_ => ((some k_ ≠ (.slice Ao32 t378.length co32 : Value).ownBlock ∧ some k_ ≠ (.slice Ao58 t393.length co58 : Value).ownBlock) ∧ some k_ ≠ (.slice Ao59 t396.length co59 : Value).ownBlock)) hy1 (fun k_ hk => ⟨⟨hk.1.1.1.1.1.1.1.1, hk.1.1.1.1.1.1.1.2⟩, hk.1.1.1.1.1.1.2⟩)); replace BK363 := Aside0.mk (blk_kept BK363.out hkp (fun hs_ => Or.elim hs_ (fun e_ => (fun e_ => (Kd.R_ne HO_385000.out BK363.out (by decide)) e_) e_) (fun e_ => (fun e_ => (e_.1.2) rfl) e_))); replace BK384 := Aside0.mk (blk_kept BK384.out hkp (fun hs_ => Or.elim hs_ (fun e_ => (fun e_ => (Kd.R_ne HO_385000.out BK384.out (by decide)) e_) e_) (fun e_ => (fun e_ => (e_.2) rfl) e_))); replace HO395 := Aside0.mk (Kd.R_mono (ok' := fun k_ => some k_ ≠ (.slice Ao32 t378.length co32 : Value).ownBlock) (Kd.R_keptB ((Kd.R_mono (ok' := fun k_ => ((True ∧ some k_ ≠ (.slice Ao32 t378.length co32 : Value).ownBlock)) ∧ ¬ ((fun k_ => ((((((((some k_ ≠ (.slice Ao32 t378.length co32 : Value).ownBlock ∧ some k_ ≠ (.slice Ao58 t393.length co58 : Value).ownBlock) ∧ some k_ ≠ (.slice Ao59 t396.length co59 : Value).ownBlock) ∧ some k_ ≠ (v375 : Value).ownBlock) ∧ some k_ ≠ (.slice Ao38 t385.length co38 : Value).ownBlock) ∧ some k_ ≠ (v389 : Value).ownBlock) ∧ some k_ ≠ (.slice Ao62 t400.length co62 : Value).ownBlock) ∧ k_ ≠ gb363) ∧ k_ ≠ gb384)) k_)) (Kd.R_tight2 rfl HO395.out) (fun k_ hk => ⟨hk.2, fun e_ => (e_.1.1.1.1.1.1.1.2) hk.1⟩))) hkp (fun k_ hk_ hs_ => Or.elim hs_ (fun e_ => (hk_.1.2) e_) (fun e_ => (hk_.2) e_))) (fun k_ hk_ => hk_.1.1.2)); replace HO402 := Aside0.mk (Kd.R_mono (ok' := fun k_ => some k_ ≠ (v375 : Value).ownBlock ∧ some k_ ≠ (.slice Ao38 t385.length co38 : Value).ownBlock ∧ some k_ ≠ (v389 : Value).ownBlock) (Kd.R_keptB ((Kd.R_mono (ok' := fun k_ => (((((True ∧ some k_ ≠ (v375 : Value).ownBlock) ∧ some k_ ≠ (.slice Ao38 t385.length co38 : Value).ownBlock) ∧ some k_ ≠ (v389 : Value).ownBlock) ∧ some k_ ≠ (.slice Ao32 t378.length co32 : Value).ownBlock)) ∧ ¬ ((fun k_ => ((((((((some k_ ≠ (.slice Ao32 t378.length co32 : Value).ownBlock ∧ some k_ ≠ (.slice Ao58 t393.length co58 : Value).ownBlock) ∧ some k_ ≠ (.slice Ao59 t396.length co59 : Value).ownBlock) ∧ some k_ ≠ (v375 : Value).ownBlock) ∧ some k_ ≠ (.slice Ao38 t385.length co38 : Value).ownBlock) ∧ some k_ ≠ (v389 : Value).ownBlock) ∧ some k_ ≠ (.slice Ao62 t400.length co62 : Value).ownBlock) ∧ k_ ≠ gb363) ∧ k_ ≠ gb384)) k_)) (Kd.R_tight2 rfl (Kd.R_apart' HO402.out (Kd.R_typed HO_385000.out) (by decide))) (fun k_ hk => ⟨hk.2, fun e_ => (e_.1.1.2) hk.1⟩))) hkp (fun k_ hk_ hs_ => Or.elim hs_ (fun e_ => (hk_.1.2) e_) (fun e_ => (hk_.2) e_))) (fun k_ hk_ => ⟨hk_.1.1.1.1.1.2, hk_.1.1.1.1.2, hk_.1.1.1.2⟩)); replace HO_385000 := Aside0.mk (Kd.R_reok rfl hy0 (fun k_ e_ => HO_385000.out.1 k_ e_)); replace HB := Aside0.mk (hb); clear HO398) | ((with_reducible refine gate_callee (f := 33) rfl ?_); refine goesL_ (some 75) rfl rfl Try.func33 (by kernel_rfl) rfl #[.slice Ao38 t385.length co38, .int .i64 t404] rfl (by simp only [List.map_toArray, List.map_cons, List.map_nil]; try rfl) ?_; (with_reducible refine (laws_markInt64S.calls kj17 (fun k_ => some k_ = (.slice Ao38 t385.length co38 : Value).ownBlock) (.slice Ao38 t385.length co38) t385 t404 t407 t408 w _ ?side1 ?side2 A54.out).mono ?_); (case side1 => repeat (first | (with_reducible first | exact HB.out | apply below_alloc | apply pw_below_drewN | apply below_drew1 | refine below_set ?_ GE363.out | refine below_set ?_ GE384.out) | exact HB.out)); (case side2 => exact Kd.R_tight rfl HO_13.out); rintro e w66 ⟨rfl, hy0, hb, hkp⟩; refine ⟨_, rfl, ?_⟩; replace HO_10 := Aside0.mk (Kd.R_mono (ok' := fun k_ => some k_ ≠ (.slice Ao38 t385.length co38 : Value).ownBlock ∧ some k_ ≠ (v389 : Value).ownBlock ∧ some k_ ≠ (.slice Ao62 t400.length co62 : Value).ownBlock) (Kd.R_keptB (HO_10.out) hkp (fun k_ hk_ hs_ => (hk_.1) hs_)) (fun k_ hk_ => ⟨hk_.1.1, hk_.1.2.1, hk_.1.2.2⟩)); replace HO_14 := Aside0.mk (Kd.R_mono (ok' := fun k_ => some k_ ≠ (v375 : Value).ownBlock ∧ some k_ ≠ (.slice Ao38 t385.length co38 : Value).ownBlock ∧ some k_ ≠ (.slice Ao62 t400.length co62 : Value).ownBlock) (Kd.R_keptB (HO_14.out) hkp (fun k_ hk_ hs_ => (hk_.2.1) hs_)) (fun k_ hk_ => ⟨hk_.1.1, hk_.1.2.1, hk_.1.2.2⟩)); replace HO_385000 := Aside0.mk (Kd.R_mono (ok' := fun k_ => some k_ ≠ (.slice Ao58 t393.length co58 : Value).ownBlock) (Kd.R_keptB ((Kd.R_apart' HO_385000.out (Kd.R_typed HO_13.out) (by decide))) hkp (fun k_ hk_ hs_ => (hk_.2) hs_)) (fun k_ hk_ => hk_.1.1.2)); replace HO_385001 := Aside0.mk (Kd.S_mono (ok' := fun k_ => some k_ ≠ (.slice Ao32 t378.length co32 : Value).ownBlock ∧ some k_ ≠ (.slice Ao58 t393.length co58 : Value).ownBlock) (Kd.S_keptB ((Kd.S_apart' HO_385001.out (Kd.R_typed HO_13.out) (by decide))) hkp (fun k_ hk_ hs_ => (hk_.2) hs_)) (fun k_ hk_ => ⟨hk_.1.1.1.1, hk_.1.1.1.2⟩)); replace BK363 := Aside0.mk (blk_kept BK363.out hkp (fun hs_ => (fun e_ => (Kd.R_ne HO_13.out BK363.out (by decide)) e_) hs_)); replace BK384 := Aside0.mk (blk_kept BK384.out hkp (fun hs_ => (fun e_ => (Kd.R_ne HO_13.out BK384.out (by decide)) e_) hs_)); replace HO395 := Aside0.mk (Kd.R_mono (ok' := fun k_ => some k_ ≠ (.slice Ao32 t378.length co32 : Value).ownBlock) (Kd.R_keptB ((Kd.R_apart' HO395.out (Kd.R_typed HO_13.out) (by decide))) hkp (fun k_ hk_ hs_ => (hk_.2) hs_)) (fun k_ hk_ => hk_.1.1)); replace HO_13 := Aside0.mk (Kd.R_reok rfl hy0 (fun k_ e_ => HO_13.out.1 k_ e_)); replace HO402 := Aside0.mk (Kd.R_mono (ok' := fun k_ => some k_ ≠ (v375 : Value).ownBlock ∧ some k_ ≠ (.slice Ao38 t385.length co38 : Value).ownBlock ∧ some k_ ≠ (v389 : Value).ownBlock) (Kd.R_keptB (HO402.out) hkp (fun k_ hk_ hs_ => (hk_.2.1) hs_)) (fun k_ hk_ => ⟨hk_.1.1, hk_.1.2.1, hk_.1.2.2⟩)); replace HB := Aside0.mk (hb)))
        (try simp only [Act.put, sA_, sZ_, sS_])
        go_cut [88] (fun v88 wc => ∃ (kq : Nat) (x88_54 : Bool), v88 = .bool x88_54 ∧ Aside0 (laws_FnExactStampsFor.j1 kq a1 a2 l3 t374 t377 t388 x88_54 l0_0 l0_1 = some r) ∧ Aside0 (kq ≤ kj17) ∧ Aside0 (Kd.R (Kd.int .i64) 2 wc w.heap.size (fun k_ => some k_ ≠ (v389 : Value).ownBlock) v375 t374) ∧ Aside0 (Kd.R (Kd.int .i64) 2 wc w.heap.size (fun k_ => some k_ ≠ (v375 : Value).ownBlock) v389 t388) ∧ Aside0 (Kd.R (Kd.int .i16) 81 wc w.heap.size (fun _ => True) (.slice Ao32 t378.length co32) t405) ∧ Aside0 (Kd.S (Kd.slice 81 (Kd.int .i16)) 30 wc w.heap.size (fun k_ => some k_ ≠ ((.slice Ao32 t378.length co32) : Value).ownBlock) (.slice Ao35 t381.length co35) t406) ∧ Aside0 (wc.heap[gb363]? = some (.cells #[(.slice A0_0 l0_0.length c0_0), (.slice A0_1 l0_1.length c0_1)] 33 (0, 0))) ∧ Aside0 (wc.heap[gb384]? = some (.cells #[(.slice Ao32 t378.length co32), (.slice Ao35 t381.length co35)] 38 (0, 0))) ∧ Aside0 (Below w.heap.size w wc))
        case first =>
         have H := HC55.out
         clear HC55
         by_cases c67 : t407 < 0
         ·rw [if_pos c67] at H
          have c67b0 : decide (t407 < 0) = true := decide_eq_true c67
          clear c67
          (first | rw [c67b0] | (simp only [i64_w, i32_w]; rw [c67b0]) | skip)
          have H' := Aside0.mk H
          clear H
          go_wp2
          go_meet
          case rel => exact ⟨_, (true), rfl, H', ⟨by have := HJ17.out; first | omega | exact Nat.le_refl _⟩, ⟨by (with_reducible repeat (first | apply Kd.R_alloc | apply Kd.R_drewN | apply Kd.R_drew)); exact Kd.R_mono HO_10.out (fun _ hk => hk.2.1)⟩, ⟨by (with_reducible repeat (first | apply Kd.R_alloc | apply Kd.R_drewN | apply Kd.R_drew)); exact Kd.R_mono HO_14.out (fun _ hk => hk.1)⟩, ⟨Kd.R_mono HO_385000.out (fun _ hk => trivial)⟩, ⟨by (with_reducible repeat (first | apply Kd.S_alloc | apply Kd.S_drewN | apply Kd.S_drew)); exact Kd.S_mono HO_385001.out (fun _ hk => hk.1)⟩, ⟨BK363.out⟩, ⟨BK384.out⟩, ⟨HB.out⟩⟩
         ·rw [if_neg c67] at H
          have c67b0 : decide (t407 < 0) = false := decide_eq_false c67
          clear c67
          (first | rw [c67b0] | (simp only [i64_w, i32_w]; rw [c67b0]) | skip)
          replace H := Option.bind_eq_some_iff.mp H
          obtain ⟨t409, A680, H⟩ := H
          replace H : (if t409 = true then (laws_FnExactStampsFor.j1 kj17 a1 a2 l3 t374 t377 t388 (t391 != t377) l0_0 l0_1) else (laws_FnExactStampsFor.j1 kj17 a1 a2 l3 t374 t377 t388 true l0_0 l0_1)) = some r := H
          have A68 := Aside0.mk A680
          clear A680
          by_cases c69 : t409 = true
          ·subst c69
           have H1 : (laws_FnExactStampsFor.j1 kj17 a1 a2 l3 t374 t377 t388 (t391 != t377) l0_0 l0_1) = some r := by rw [if_pos rfl] at H; exact H
           clear H
           have H := H1
           clear H1
           have H' := Aside0.mk H
           clear H
           obtain ⟨Ao70, co70, eo70⟩ := Kd.R_slice HO_14.out
           subst eo70
           obtain ⟨Ao71, co71, eo71⟩ := Kd.R_slice HO_10.out
           subst eo71
           go_wp2_with (first | (go_at_call 23; (with_reducible refine (laws_eqInt64S.calls kj17 _ _ t388 _ _ t374 true _ ?side1 ?side2 ?side3 ?side4 A68.out).mono ?_); (case side1 => exact (Kd.R_reads' HO_14.out).2.2); (case side2 => exact (Kd.R_reads' HO_14.out).2.1); (case side3 => exact (Kd.R_reads' HO_10.out).2.2); (case side4 => exact (Kd.R_reads' HO_10.out).2.1); rintro e w' ⟨rfl, ⟨nd, rfl⟩⟩))
           go_meet
           case rel => exact ⟨_, ((t391 != t377)), (by first | rfl | (simp; done) | (simp [*]; done)), H', ⟨by have := HJ17.out; first | omega | exact Nat.le_refl _⟩, ⟨by (with_reducible repeat (first | apply Kd.R_alloc | apply Kd.R_drewN | apply Kd.R_drew)); exact Kd.R_mono HO_10.out (fun _ hk => hk.2.1)⟩, ⟨by (with_reducible repeat (first | apply Kd.R_alloc | apply Kd.R_drewN | apply Kd.R_drew)); exact Kd.R_mono HO_14.out (fun _ hk => hk.1)⟩, ⟨Kd.R_mono HO_385000.out (fun _ hk => trivial)⟩, ⟨by (with_reducible repeat (first | apply Kd.S_alloc | apply Kd.S_drewN | apply Kd.S_drew)); exact Kd.S_mono HO_385001.out (fun _ hk => hk.1)⟩, ⟨by (with_reducible repeat (first | refine blk_drewN ?_ _ | refine blk_drew ?_ | refine blk_alloc ?_ _)); exact BK363.out⟩, ⟨by (with_reducible repeat (first | refine blk_drewN ?_ _ | refine blk_drew ?_ | refine blk_alloc ?_ _)); exact BK384.out⟩, ⟨by repeat (first | (with_reducible first | exact HB.out | apply below_alloc | apply pw_below_drewN | apply below_drew1 | refine below_set ?_ GE363.out | refine below_set ?_ GE384.out) | exact HB.out)⟩⟩
          ·replace c69 := Bool.eq_false_iff.mpr c69
           subst c69
           have H1 : (laws_FnExactStampsFor.j1 kj17 a1 a2 l3 t374 t377 t388 true l0_0 l0_1) = some r := by rw [if_neg (show ¬ (false = true) by decide)] at H; exact H
           clear H
           have H := H1
           clear H1
           have H' := Aside0.mk H
           clear H
           obtain ⟨Ao72, co72, eo72⟩ := Kd.R_slice HO_14.out
           subst eo72
           obtain ⟨Ao73, co73, eo73⟩ := Kd.R_slice HO_10.out
           subst eo73
           go_wp2_with (first | (go_at_call 23; (with_reducible refine (laws_eqInt64S.calls kj17 _ _ t388 _ _ t374 false _ ?side1 ?side2 ?side3 ?side4 A68.out).mono ?_); (case side1 => exact (Kd.R_reads' HO_14.out).2.2); (case side2 => exact (Kd.R_reads' HO_14.out).2.1); (case side3 => exact (Kd.R_reads' HO_10.out).2.2); (case side4 => exact (Kd.R_reads' HO_10.out).2.1); rintro e w' ⟨rfl, ⟨nd, rfl⟩⟩))
           go_meet
           case rel => exact ⟨_, (true), (by first | rfl | (simp; done) | (simp [*]; done)), H', ⟨by have := HJ17.out; first | omega | exact Nat.le_refl _⟩, ⟨by (with_reducible repeat (first | apply Kd.R_alloc | apply Kd.R_drewN | apply Kd.R_drew)); exact Kd.R_mono HO_10.out (fun _ hk => hk.2.1)⟩, ⟨by (with_reducible repeat (first | apply Kd.R_alloc | apply Kd.R_drewN | apply Kd.R_drew)); exact Kd.R_mono HO_14.out (fun _ hk => hk.1)⟩, ⟨Kd.R_mono HO_385000.out (fun _ hk => trivial)⟩, ⟨by (with_reducible repeat (first | apply Kd.S_alloc | apply Kd.S_drewN | apply Kd.S_drew)); exact Kd.S_mono HO_385001.out (fun _ hk => hk.1)⟩, ⟨by (with_reducible repeat (first | refine blk_drewN ?_ _ | refine blk_drew ?_ | refine blk_alloc ?_ _)); exact BK363.out⟩, ⟨by (with_reducible repeat (first | refine blk_drewN ?_ _ | refine blk_drew ?_ | refine blk_alloc ?_ _)); exact BK384.out⟩, ⟨by repeat (first | (with_reducible first | exact HB.out | apply below_alloc | apply pw_below_drewN | apply below_drew1 | refine below_set ?_ GE363.out | refine below_set ?_ GE384.out) | exact HB.out)⟩⟩
        case rest =>
         clear HC55
         try clear c1
         try clear c2
         try clear p2
         try clear c3
         try clear c4
         try clear c5
         try clear c5b0
         try clear c5b1
         try clear c6
         try clear c8
         try clear c8b0
         try clear c11
         try clear c17
         try clear c19
         try clear c20
         try clear c22
         try clear c23
         try clear c32
         try clear c33
         try clear c39
         try clear c40
         try clear c41
         try clear c46
         try clear c49
         try clear c52
         try clear c63
         try clear c67
         try clear c67b0
         try clear c69
         try clear hcz10_0
         try clear hcz10_1
         try clear hcz20_0
         try clear hcz20_1
         try clear hcz22_0
         try clear hcz22_1
         try clear hcz29_0
         try clear hcz29_1
         try clear hcz34_0
         try clear hcz34_1
         try clear hcz37_0
         try clear hcz37_1
         try clear hcz64_0
         try clear hcz64_1
         try clear hfz10_0
         try clear hfz10_1
         try clear hfz20_0
         try clear hfz20_1
         try clear hfz22_0
         try clear hfz22_1
         try clear hfz29_0
         try clear hfz29_1
         try clear hfz34_0
         try clear hfz34_1
         try clear hfz37_0
         try clear hfz37_1
         try clear hfz64_0
         try clear hfz64_1
         try clear p2
         obtain ⟨kq, x88_54, rfl, HA, HJ54, HO_10, HO_14, HO_385000, HO_385001, BK363, BK384, HB⟩ := hcut
         have hl385000_54 := (Kd.R_reads' HO_385000.out).1
         rw [hl385000_54] at HO_385000
         (try simp only [hl385000_54])
         (try simp only [hl385000_54] at BK363)
         (try simp only [hl385000_54] at BK384)
         (try simp only [hl385000_54] at HO_10)
         (try simp only [hl385000_54] at HO_14)
         (try simp only [hl385000_54] at HO_385001)
         have hl385001_54 := (Kd.S_reads' HO_385001.out).1
         rw [hl385001_54] at HO_385001
         (try simp only [hl385001_54])
         (try simp only [hl385001_54] at BK363)
         (try simp only [hl385001_54] at BK384)
         (try simp only [hl385001_54] at HO_10)
         (try simp only [hl385001_54] at HO_14)
         (try simp only [hl385001_54] at HO_385000)
         cases kq with
         | zero => exact absurd HA.out (by simp [laws_FnExactStampsFor.j1])
         | succ kj54 =>
          have H := HA.out
          clear HA
          simp only [laws_FnExactStampsFor.j1] at H
          by_cases c74 : x88_54 = true
          ·subst c74
           have H1 : (some false) = some r := by rw [if_pos rfl] at H; exact H
           clear H
           have H := H1
           clear H1
           obtain rfl := Option.some.inj H
           go_wp2
           go_ret
           exact ⟨rfl, HB.out⟩
          ·replace c74 := Bool.eq_false_iff.mpr c74
           subst c74
           have H1 : ((laws_markInt64S.f kj54 t388 1).bind fun bt410 => ((laws_heldInt64S.f kj54 bt410.2 1).bind fun t412 => (if t412 < 0 then (some false) else (if t412 = bt410.1 then ((laws_toTable.f kj54 l0_0 l0_1).bind fun bt413 => ((laws_toInt64S.f kj54 l3).bind fun t419 => ((impl_StampsFor.f kj54 bt413.1 bt413.2 a1 a2 t419).bind fun bt422 => ((laws_eqInt64S.f kj54 bt422.1 t374).bind fun t426 => (if t426 = true then (laws_FnExactStampsFor.j2 kj54 bt410.2 bt410.1 (bt422.2 != t377)) else (laws_FnExactStampsFor.j2 kj54 bt410.2 bt410.1 true)))))) else (some false))))) = some r := by rw [if_neg (show ¬ (false = true) by decide)] at H; exact H
           clear H
           have H := H1
           clear H1
           replace H := Option.bind_eq_some_iff.mp H
           obtain ⟨⟨t410, t411⟩, A750, H⟩ := H
           replace H : ((laws_heldInt64S.f kj54 t411 1).bind fun t412 => (if t412 < 0 then (some false) else (if t412 = t410 then ((laws_toTable.f kj54 l0_0 l0_1).bind fun bt413 => ((laws_toInt64S.f kj54 l3).bind fun t419 => ((impl_StampsFor.f kj54 bt413.1 bt413.2 a1 a2 t419).bind fun bt422 => ((laws_eqInt64S.f kj54 bt422.1 t374).bind fun t426 => (if t426 = true then (laws_FnExactStampsFor.j2 kj54 t411 t410 (bt422.2 != t377)) else (laws_FnExactStampsFor.j2 kj54 t411 t410 true)))))) else (some false)))) = some r := H
           have A75 := Aside0.mk A750
           clear A750
           replace H := Option.bind_eq_some_iff.mp H
           obtain ⟨t412, A760, H⟩ := H
           replace H : (if t412 < 0 then (some false) else (if t412 = t410 then ((laws_toTable.f kj54 l0_0 l0_1).bind fun bt413 => ((laws_toInt64S.f kj54 l3).bind fun t419 => ((impl_StampsFor.f kj54 bt413.1 bt413.2 a1 a2 t419).bind fun bt422 => ((laws_eqInt64S.f kj54 bt422.1 t374).bind fun t426 => (if t426 = true then (laws_FnExactStampsFor.j2 kj54 t411 t410 (bt422.2 != t377)) else (laws_FnExactStampsFor.j2 kj54 t411 t410 true)))))) else (some false))) = some r := H
           have A76 := Aside0.mk A760
           clear A760
           by_cases c77 : t412 < 0
           ·rw [if_pos c77] at H
            have c77b0 : decide (t412 < 0) = true := decide_eq_true c77
            clear c77
            obtain rfl := Option.some.inj H
            obtain ⟨Ao78, co78, eo78⟩ := Kd.R_slice HO_14.out
            subst eo78
            go_wp2_with (first | ((with_reducible refine gate_callee (f := 33) rfl ?_); refine goesL_ (some 91) rfl rfl Try.func33 (by kernel_rfl) rfl #[.slice Ao78 t388.length co78, .int .i64 1] rfl (by simp only [List.map_toArray, List.map_cons, List.map_nil]; try rfl) ?_; (with_reducible refine (laws_markInt64S.calls kj54 (fun k_ => some k_ = (.slice Ao78 t388.length co78 : Value).ownBlock) (.slice Ao78 t388.length co78) t388 1 t410 t411 w _ ?side1 ?side2 A75.out).mono ?_); (case side1 => exact HB.out); (case side2 => exact Kd.R_tight rfl HO_14.out); rintro e w79 ⟨rfl, hy0, hb, hkp⟩; refine ⟨_, rfl, ?_⟩; replace HO_10 := Aside0.mk (Kd.R_mono (ok' := fun k_ => some k_ ≠ (.slice Ao78 t388.length co78 : Value).ownBlock) (Kd.R_keptB (HO_10.out) hkp (fun k_ hk_ hs_ => (hk_) hs_)) (fun k_ hk_ => hk_.1)); replace HO_385000 := Aside0.mk (Kd.R_mono (ok' := fun k_ => True) (Kd.R_keptB ((Kd.R_apart' HO_385000.out (Kd.R_typed HO_14.out) (by decide))) hkp (fun k_ hk_ hs_ => (hk_.2) hs_)) (fun k_ hk_ => trivial)); replace HO_385001 := Aside0.mk (Kd.S_mono (ok' := fun k_ => some k_ ≠ (.slice Ao32 t405.length co32 : Value).ownBlock) (Kd.S_keptB ((Kd.S_apart' HO_385001.out (Kd.R_typed HO_14.out) (by decide))) hkp (fun k_ hk_ hs_ => (hk_.2) hs_)) (fun k_ hk_ => hk_.1.1)); replace BK363 := Aside0.mk (blk_kept BK363.out hkp (fun hs_ => (fun e_ => (Kd.R_ne HO_14.out BK363.out (by decide)) e_) hs_)); replace BK384 := Aside0.mk (blk_kept BK384.out hkp (fun hs_ => (fun e_ => (Kd.R_ne HO_14.out BK384.out (by decide)) e_) hs_)); replace HO_14 := Aside0.mk (Kd.R_reok rfl hy0 (fun k_ e_ => HO_14.out.1 k_ e_)); replace HB := Aside0.mk (hb)) | ((with_reducible refine gate_callee (f := 34) rfl ?_); refine goesL_ (some 94) rfl rfl Try.func34 (by kernel_rfl) rfl #[.slice Ao78 t411.length co78, .int .i64 1] rfl (by (try simp only [List.map_toArray, List.map_cons, List.map_nil]); first | done | (rw [show t411.length = t388.length from (Kd.R_reads' HO_14.out).1.symm] <;> rfl) | rfl | (simp only [List.length_drop, List.length_take]; rfl)) ?_; (with_reducible refine (laws_heldInt64S.calls kj54 _ _ t411 1 t412 _ ?side1 ?side2 A76.out).mono ?_); (case side1 => exact (Kd.R_reads' HO_14.out).2.2); (case side2 => rw [show t411.length = t388.length from (Kd.R_reads' HO_14.out).1.symm]; exact (Kd.R_reads' HO_14.out).2.1); rintro e w' ⟨rfl, ⟨nd, rfl⟩⟩; refine ⟨_, rfl, ?_⟩))
            go_ret
            exact ⟨by first | rfl | (simp [errW_none, errW_some] <;> rfl) | (simp [*, errW_none, errW_some] <;> rfl), by repeat (first | (with_reducible first | exact HB.out | apply below_alloc | apply pw_below_drewN | apply below_drew1 | refine below_set ?_ GE363.out | refine below_set ?_ GE384.out) | exact HB.out)⟩
           ·rw [if_neg c77] at H
            have c77b0 : decide (t412 < 0) = false := decide_eq_false c77
            clear c77
            by_cases c80 : t412 = t410
            ·rw [if_pos c80] at H
             have c80b0 : (t412 == t410) = true := beq_iff_eq.mpr c80
             have c80b1 : (t412 != t410) = false := bne_eq_false_iff_eq.mpr c80
             clear c80
             replace H := Option.bind_eq_some_iff.mp H
             obtain ⟨⟨t413, t416⟩, A810, H⟩ := H
             replace H : ((laws_toInt64S.f kj54 l3).bind fun t419 => ((impl_StampsFor.f kj54 t413 t416 a1 a2 t419).bind fun bt422 => ((laws_eqInt64S.f kj54 bt422.1 t374).bind fun t426 => (if t426 = true then (laws_FnExactStampsFor.j2 kj54 t411 t410 (bt422.2 != t377)) else (laws_FnExactStampsFor.j2 kj54 t411 t410 true))))) = some r := H
             have A81 := Aside0.mk A810
             clear A810
             replace H := Option.bind_eq_some_iff.mp H
             obtain ⟨t419, A820, H⟩ := H
             replace H : ((impl_StampsFor.f kj54 t413 t416 a1 a2 t419).bind fun bt422 => ((laws_eqInt64S.f kj54 bt422.1 t374).bind fun t426 => (if t426 = true then (laws_FnExactStampsFor.j2 kj54 t411 t410 (bt422.2 != t377)) else (laws_FnExactStampsFor.j2 kj54 t411 t410 true)))) = some r := H
             have A82 := Aside0.mk A820
             clear A820
             replace H := Option.bind_eq_some_iff.mp H
             obtain ⟨⟨t422, t425⟩, A830, H⟩ := H
             replace H : ((laws_eqInt64S.f kj54 t422 t374).bind fun t426 => (if t426 = true then (laws_FnExactStampsFor.j2 kj54 t411 t410 (t425 != t377)) else (laws_FnExactStampsFor.j2 kj54 t411 t410 true))) = some r := H
             have A83 := Aside0.mk A830
             clear A830
             have HC84 := Aside0.mk H
             clear H
             obtain ⟨Ao85, co85, eo85⟩ := Kd.R_slice HO_14.out
             subst eo85
             go_upto_region 31 with (first | ((with_reducible refine gate_callee (f := 33) rfl ?_); refine goesL_ (some 91) rfl rfl Try.func33 (by kernel_rfl) rfl #[.slice Ao85 t388.length co85, .int .i64 1] rfl (by simp only [List.map_toArray, List.map_cons, List.map_nil]; try rfl) ?_; (with_reducible refine (laws_markInt64S.calls kj54 (fun k_ => some k_ = (.slice Ao85 t388.length co85 : Value).ownBlock) (.slice Ao85 t388.length co85) t388 1 t410 t411 w _ ?side1 ?side2 A75.out).mono ?_); (case side1 => repeat (first | (with_reducible first | exact HB.out | apply below_alloc | apply pw_below_drewN | apply below_drew1 | refine below_set ?_ GE363.out | refine below_set ?_ GE384.out) | exact HB.out)); (case side2 => exact Kd.R_tight rfl HO_14.out); rintro e w86 ⟨rfl, hy0, hb, hkp⟩; refine ⟨_, rfl, ?_⟩; replace HO_10 := Aside0.mk (Kd.R_mono (ok' := fun k_ => some k_ ≠ (.slice Ao85 t388.length co85 : Value).ownBlock) (Kd.R_keptB (HO_10.out) hkp (fun k_ hk_ hs_ => (hk_) hs_)) (fun k_ hk_ => hk_.1)); replace HO_385000 := Aside0.mk (Kd.R_mono (ok' := fun k_ => True) (Kd.R_keptB ((Kd.R_apart' HO_385000.out (Kd.R_typed HO_14.out) (by decide))) hkp (fun k_ hk_ hs_ => (hk_.2) hs_)) (fun k_ hk_ => trivial)); replace HO_385001 := Aside0.mk (Kd.S_mono (ok' := fun k_ => some k_ ≠ (.slice Ao32 t405.length co32 : Value).ownBlock) (Kd.S_keptB ((Kd.S_apart' HO_385001.out (Kd.R_typed HO_14.out) (by decide))) hkp (fun k_ hk_ hs_ => (hk_.2) hs_)) (fun k_ hk_ => hk_.1.1)); replace BK363 := Aside0.mk (blk_kept (by (with_reducible repeat (first | refine blk_drewN ?_ _ | refine blk_drew ?_ | refine blk_alloc ?_ _)); exact BK363.out) hkp (fun hs_ => (fun e_ => (Kd.R_ne HO_14.out BK363.out (by decide)) e_) hs_)); replace BK384 := Aside0.mk (blk_kept (by (with_reducible repeat (first | refine blk_drewN ?_ _ | refine blk_drew ?_ | refine blk_alloc ?_ _)); exact BK384.out) hkp (fun hs_ => (fun e_ => (Kd.R_ne HO_14.out BK384.out (by decide)) e_) hs_)); replace HO_14 := Aside0.mk (Kd.R_reok rfl hy0 (fun k_ e_ => HO_14.out.1 k_ e_)); replace HB := Aside0.mk (hb)) | ((with_reducible refine gate_callee (f := 34) rfl ?_); refine goesL_ (some 94) rfl rfl Try.func34 (by kernel_rfl) rfl #[.slice Ao85 t411.length co85, .int .i64 1] rfl (by (try simp only [List.map_toArray, List.map_cons, List.map_nil]); first | done | (rw [show t411.length = t388.length from (Kd.R_reads' HO_14.out).1.symm] <;> rfl) | rfl | (simp only [List.length_drop, List.length_take]; rfl)) ?_; (with_reducible refine (laws_heldInt64S.calls kj54 _ _ t411 1 t412 _ ?side1 ?side2 A76.out).mono ?_); (case side1 => exact (Kd.R_reads' HO_14.out).2.2); (case side2 => rw [show t411.length = t388.length from (Kd.R_reads' HO_14.out).1.symm]; exact (Kd.R_reads' HO_14.out).2.1); rintro e w' ⟨rfl, ⟨nd, rfl⟩⟩; refine ⟨_, rfl, ?_⟩; have hnb87 := NB363_384.out; have hnc87 := NB384_363.out; have hcz88_0 : w86.cell? ⟨gb363, 0, none⟩ = some (.slice A0_0 l0_0.length c0_0) := (blk_cell BK363.out 0).trans rfl; have hcz88_1 : w86.cell? ⟨gb363, 1, none⟩ = some (.slice A0_1 l0_1.length c0_1) := (blk_cell BK363.out 1).trans rfl; have hfz88_0 := blk_frozen BK363.out 0; have hfz88_1 := blk_frozen BK363.out 1) | ((with_reducible refine gate_callee (f := 19) rfl ?_); refine goesL_ (some 102) rfl rfl Try.func19 (by kernel_rfl) rfl #[.agg #[.slice A0_0 l0_0.length c0_0, .slice A0_1 l0_1.length c0_1]] rfl (by simp only [List.map_toArray, List.map_cons, List.map_nil]; try rfl) ?_; (with_reducible refine (laws_toTable.calls kj54 _ _ l0_0 _ _ l0_1 t413 t416 _ ?side1 ?side2 ?side3 ?side4 A81.out).mono ?_); (case side1 => repeat (first | exact (Kd.C_below HR0_0.out (by repeat (first | (with_reducible first | exact HB.out | apply below_alloc | apply pw_below_drewN | apply below_drew1 | refine below_set ?_ GE363.out | refine below_set ?_ GE384.out) | exact HB.out))) | (with_reducible refine Kd.C_alloc ?_ _) | (with_reducible refine Kd.C_drewN ?_ _) | (with_reducible refine Kd.C_drew ?_))); (case side2 => exact HC0_0.out); (case side3 => repeat (first | exact (Kd.C_below HR0_1.out (by repeat (first | (with_reducible first | exact HB.out | apply below_alloc | apply pw_below_drewN | apply below_drew1 | refine below_set ?_ GE363.out | refine below_set ?_ GE384.out) | exact HB.out))) | (with_reducible refine Kd.C_alloc ?_ _) | (with_reducible refine Kd.C_drewN ?_ _) | (with_reducible refine Kd.C_drew ?_))); (case side4 => exact HC0_1.out); rintro e w89 ⟨v414, v417, rfl, ho0, ho1, hb⟩; refine ⟨_, rfl, ?_⟩; replace HO_10 := Aside0.mk (Kd.R_below (by (with_reducible repeat (first | apply Kd.R_alloc | apply Kd.R_drewN | apply Kd.R_drew)); exact HO_10.out) hb); replace HO_14 := Aside0.mk (Kd.R_below (by (with_reducible repeat (first | apply Kd.R_alloc | apply Kd.R_drewN | apply Kd.R_drew)); exact HO_14.out) hb); have HO415 := Aside0.mk (Kd.R_lower (Kd.R_new' ho0 (Kd.R_lt (by (with_reducible repeat (first | apply Kd.R_alloc | apply Kd.R_drewN | apply Kd.R_drew)); exact HO_385000.out))) (below_size (by repeat (first | (with_reducible first | exact HB.out | apply below_alloc | apply pw_below_drewN | apply below_drew1 | refine below_set ?_ GE363.out | refine below_set ?_ GE384.out) | exact HB.out)))); have HO418 := Aside0.mk (Kd.S_lower (Kd.S_new' (Kd.S_new' ho1 (Kd.R_lt (by (with_reducible repeat (first | apply Kd.R_alloc | apply Kd.R_drewN | apply Kd.R_drew)); exact HO_385000.out))) (Kd.S_lt (by (with_reducible repeat (first | apply Kd.S_alloc | apply Kd.S_drewN | apply Kd.S_drew)); exact HO_385001.out))) (below_size (by repeat (first | (with_reducible first | exact HB.out | apply below_alloc | apply pw_below_drewN | apply below_drew1 | refine below_set ?_ GE363.out | refine below_set ?_ GE384.out) | exact HB.out)))); replace HO_385000 := Aside0.mk (Kd.R_elder' (by (with_reducible repeat (first | apply Kd.R_alloc | apply Kd.R_drewN | apply Kd.R_drew)); exact HO_385000.out) (Kd.R_base ho0) hb); replace HO_385001 := Aside0.mk (Kd.S_mono (Kd.S_told (Kd.S_told (Kd.S_old (by (with_reducible repeat (first | apply Kd.S_alloc | apply Kd.S_drewN | apply Kd.S_drew)); exact HO_385001.out) hb) (Kd.R_base ho0)) (Kd.S_base ho1)) (fun _ h_ => h_.1)); replace BK363 := Aside0.mk (blk_below (g := gb363) (o := .cells #[.slice A0_0 l0_0.length c0_0, .slice A0_1 l0_1.length c0_1] 33 (0, 0)) (by (with_reducible repeat (first | refine blk_drewN ?_ _ | refine blk_drew ?_ | refine blk_alloc ?_ _)); exact BK363.out) hb); replace BK384 := Aside0.mk (blk_below (g := gb384) (o := .cells #[.slice Ao32 t405.length co32, .slice Ao35 t406.length co35] 38 (0, 0)) (by (with_reducible repeat (first | refine blk_drewN ?_ _ | refine blk_drew ?_ | refine blk_alloc ?_ _)); exact BK384.out) hb); replace HB := Aside0.mk (below_step (by repeat (first | (with_reducible first | exact HB.out | apply below_alloc | apply pw_below_drewN | apply below_drew1 | refine below_set ?_ GE363.out | refine below_set ?_ GE384.out) | exact HB.out)) hb); (try clear ho1)) | ((with_reducible refine gate_callee (f := 20) rfl ?_); refine goesL_ (some 106) rfl rfl Try.func20 (by kernel_rfl) rfl #[.slice A3 l3.length c3] rfl (by simp only [List.map_toArray, List.map_cons, List.map_nil]; try rfl) ?_; (with_reducible refine (laws_toInt64S.calls kj54 _ _ l3 t419 _ ?side1 ?side2 A82.out).mono ?_); (case side1 => exact (Kd.C_below HR3.out HB.out)); (case side2 => exact HC3.out); rintro e w90 ⟨v420, rfl, ho0, hb⟩; refine ⟨_, rfl, ?_⟩; replace HO_385000 := Aside0.mk (Kd.R_below (by (with_reducible repeat (first | apply Kd.R_alloc | apply Kd.R_drewN | apply Kd.R_drew)); exact HO_385000.out) hb); replace HO_385001 := Aside0.mk (Kd.S_below (by (with_reducible repeat (first | apply Kd.S_alloc | apply Kd.S_drewN | apply Kd.S_drew)); exact HO_385001.out) hb); replace HO415 := Aside0.mk (Kd.R_below (by (with_reducible repeat (first | apply Kd.R_alloc | apply Kd.R_drewN | apply Kd.R_drew)); exact HO415.out) hb); replace HO418 := Aside0.mk (Kd.S_below (by (with_reducible repeat (first | apply Kd.S_alloc | apply Kd.S_drewN | apply Kd.S_drew)); exact HO418.out) hb); have HO421 := Aside0.mk (Kd.R_lower (Kd.R_new' (Kd.R_new' ho0 (Kd.R_lt (by (with_reducible repeat (first | apply Kd.R_alloc | apply Kd.R_drewN | apply Kd.R_drew)); exact HO_10.out))) (Kd.R_lt (by (with_reducible repeat (first | apply Kd.R_alloc | apply Kd.R_drewN | apply Kd.R_drew)); exact HO_14.out))) (below_size (by repeat (first | (with_reducible first | exact HB.out | apply below_alloc | apply pw_below_drewN | apply below_drew1 | refine below_set ?_ GE363.out | refine below_set ?_ GE384.out) | exact HB.out)))); replace HO_10 := Aside0.mk (Kd.R_elder' (by (with_reducible repeat (first | apply Kd.R_alloc | apply Kd.R_drewN | apply Kd.R_drew)); exact HO_10.out) (Kd.R_base ho0) hb); replace HO_14 := Aside0.mk (Kd.R_elder' (by (with_reducible repeat (first | apply Kd.R_alloc | apply Kd.R_drewN | apply Kd.R_drew)); exact HO_14.out) (Kd.R_base ho0) hb); replace BK363 := Aside0.mk (blk_below (g := gb363) (o := .cells #[.slice A0_0 l0_0.length c0_0, .slice A0_1 l0_1.length c0_1] 33 (0, 0)) (by (with_reducible repeat (first | refine blk_drewN ?_ _ | refine blk_drew ?_ | refine blk_alloc ?_ _)); exact BK363.out) hb); replace BK384 := Aside0.mk (blk_below (g := gb384) (o := .cells #[.slice Ao32 t405.length co32, .slice Ao35 t406.length co35] 38 (0, 0)) (by (with_reducible repeat (first | refine blk_drewN ?_ _ | refine blk_drew ?_ | refine blk_alloc ?_ _)); exact BK384.out) hb); replace HB := Aside0.mk (below_step (by repeat (first | (with_reducible first | exact HB.out | apply below_alloc | apply pw_below_drewN | apply below_drew1 | refine below_set ?_ GE363.out | refine below_set ?_ GE384.out) | exact HB.out)) hb); obtain ⟨Ao91, co91, eo91⟩ := Kd.R_slice HO415.out; subst eo91; obtain ⟨Ao92, co92, eo92⟩ := Kd.S_slice HO418.out; subst eo92; obtain ⟨Ao93, co93, eo93⟩ := Kd.R_slice HO421.out; subst eo93) | ((with_reducible refine gate_callee (f := 40) rfl ?_); refine goesL_ (some 107) rfl rfl Try.func40 (by kernel_rfl) rfl #[.agg #[.slice Ao91 t413.length co91, .slice Ao92 t416.length co92], .int .i64 a1, .int .i64 a2, .slice Ao93 t419.length co93] rfl (by simp only [List.map_toArray, List.map_cons, List.map_nil]; try rfl) ?_; (with_reducible refine (impl_StampsFor.calls kj54 _ _ t413 _ _ t416 a1 a2 _ _ t419 t422 t425 _ ?side1 ?side2 ?side3 ?side4 ?side5 ?side6 A83.out).mono ?_); (case side1 => exact (Kd.R_reads' HO415.out).2.2); (case side2 => exact (Kd.R_reads' HO415.out).2.1); (case side3 => exact (Kd.S_reads' HO418.out).2.2); (case side4 => exact (Kd.S_reads' HO418.out).2.1); (case side5 => exact (Kd.R_reads' HO421.out).2.2); (case side6 => exact (Kd.R_reads' HO421.out).2.1); rintro e w94 ⟨v423, rfl, ho0, hb⟩; refine ⟨_, rfl, ?_⟩; replace HO_385000 := Aside0.mk (Kd.R_below (by (with_reducible repeat (first | apply Kd.R_alloc | apply Kd.R_drewN | apply Kd.R_drew)); exact HO_385000.out) hb); replace HO_385001 := Aside0.mk (Kd.S_below (by (with_reducible repeat (first | apply Kd.S_alloc | apply Kd.S_drewN | apply Kd.S_drew)); exact HO_385001.out) hb); replace HO415 := Aside0.mk (Kd.R_below (by (with_reducible repeat (first | apply Kd.R_alloc | apply Kd.R_drewN | apply Kd.R_drew)); exact HO415.out) hb); replace HO418 := Aside0.mk (Kd.S_below (by (with_reducible repeat (first | apply Kd.S_alloc | apply Kd.S_drewN | apply Kd.S_drew)); exact HO418.out) hb); have HO424 := Aside0.mk (Kd.R_lower (Kd.R_new' (Kd.R_new' (Kd.R_new' ho0 (Kd.R_lt (by (with_reducible repeat (first | apply Kd.R_alloc | apply Kd.R_drewN | apply Kd.R_drew)); exact HO_10.out))) (Kd.R_lt (by (with_reducible repeat (first | apply Kd.R_alloc | apply Kd.R_drewN | apply Kd.R_drew)); exact HO_14.out))) (Kd.R_lt (by (with_reducible repeat (first | apply Kd.R_alloc | apply Kd.R_drewN | apply Kd.R_drew)); exact HO421.out))) (below_size (by repeat (first | (with_reducible first | exact HB.out | apply below_alloc | apply pw_below_drewN | apply below_drew1 | refine below_set ?_ GE363.out | refine below_set ?_ GE384.out) | exact HB.out)))); replace HO_10 := Aside0.mk (Kd.R_elder' (by (with_reducible repeat (first | apply Kd.R_alloc | apply Kd.R_drewN | apply Kd.R_drew)); exact HO_10.out) (Kd.R_base ho0) hb); replace HO_14 := Aside0.mk (Kd.R_elder' (by (with_reducible repeat (first | apply Kd.R_alloc | apply Kd.R_drewN | apply Kd.R_drew)); exact HO_14.out) (Kd.R_base ho0) hb); replace HO421 := Aside0.mk (Kd.R_elder' (by (with_reducible repeat (first | apply Kd.R_alloc | apply Kd.R_drewN | apply Kd.R_drew)); exact HO421.out) (Kd.R_base ho0) hb); replace BK363 := Aside0.mk (blk_below (g := gb363) (o := .cells #[.slice A0_0 l0_0.length c0_0, .slice A0_1 l0_1.length c0_1] 33 (0, 0)) (by (with_reducible repeat (first | refine blk_drewN ?_ _ | refine blk_drew ?_ | refine blk_alloc ?_ _)); exact BK363.out) hb); replace BK384 := Aside0.mk (blk_below (g := gb384) (o := .cells #[.slice Ao32 t405.length co32, .slice Ao35 t406.length co35] 38 (0, 0)) (by (with_reducible repeat (first | refine blk_drewN ?_ _ | refine blk_drew ?_ | refine blk_alloc ?_ _)); exact BK384.out) hb); replace HB := Aside0.mk (below_step (by repeat (first | (with_reducible first | exact HB.out | apply below_alloc | apply pw_below_drewN | apply below_drew1 | refine below_set ?_ GE363.out | refine below_set ?_ GE384.out) | exact HB.out)) hb)))
             (try simp only [Act.put, sA_, sZ_, sS_])
             go_cut [118] (fun v118 wc => ∃ (kq : Nat) (x118_83 : Bool), v118 = .bool x118_83 ∧ Aside0 (laws_FnExactStampsFor.j2 kq t411 t410 x118_83 = some r) ∧ Aside0 (kq ≤ kj54) ∧ Aside0 (Kd.R (Kd.int .i64) 2 wc w.heap.size (fun _ => True) (.slice Ao85 t388.length co85) t411) ∧ Aside0 (Kd.R (Kd.int .i16) 81 wc w.heap.size (fun _ => True) (.slice Ao32 t405.length co32) t405) ∧ Aside0 (Kd.S (Kd.slice 81 (Kd.int .i16)) 30 wc w.heap.size (fun k_ => some k_ ≠ ((.slice Ao32 t405.length co32) : Value).ownBlock) (.slice Ao35 t406.length co35) t406) ∧ Aside0 (wc.heap[gb363]? = some (.cells #[(.slice A0_0 l0_0.length c0_0), (.slice A0_1 l0_1.length c0_1)] 33 (0, 0))) ∧ Aside0 (wc.heap[gb384]? = some (.cells #[(.slice Ao32 t405.length co32), (.slice Ao35 t406.length co35)] 38 (0, 0))) ∧ Aside0 (Below w.heap.size w wc))
             case first =>
              have H := HC84.out
              clear HC84
              replace H := Option.bind_eq_some_iff.mp H
              obtain ⟨t426, A950, H⟩ := H
              replace H : (if t426 = true then (laws_FnExactStampsFor.j2 kj54 t411 t410 (t425 != t377)) else (laws_FnExactStampsFor.j2 kj54 t411 t410 true)) = some r := H
              have A95 := Aside0.mk A950
              clear A950
              by_cases c96 : t426 = true
              ·subst c96
               have H1 : (laws_FnExactStampsFor.j2 kj54 t411 t410 (t425 != t377)) = some r := by rw [if_pos rfl] at H; exact H
               clear H
               have H := H1
               clear H1
               have H' := Aside0.mk H
               clear H
               obtain ⟨Ao97, co97, eo97⟩ := Kd.R_slice HO424.out
               subst eo97
               obtain ⟨Ao98, co98, eo98⟩ := Kd.R_slice HO_10.out
               subst eo98
               go_wp2_with (first | ((with_reducible refine gate_callee (f := 23) rfl ?_); refine goesL_ (some 112) rfl rfl Try.func23 (by kernel_rfl) rfl #[.slice Ao97 t422.length co97, .slice Ao98 t374.length co98] rfl (by simp only [List.map_toArray, List.map_cons, List.map_nil]; try rfl) ?_; (with_reducible refine (laws_eqInt64S.calls kj54 _ _ t422 _ _ t374 true _ ?side1 ?side2 ?side3 ?side4 A95.out).mono ?_); (case side1 => exact (Kd.R_reads' HO424.out).2.2); (case side2 => exact (Kd.R_reads' HO424.out).2.1); (case side3 => exact (Kd.R_reads' HO_10.out).2.2); (case side4 => exact (Kd.R_reads' HO_10.out).2.1); rintro e w' ⟨rfl, ⟨nd, rfl⟩⟩; refine ⟨_, rfl, ?_⟩))
               go_meet
               case rel => exact ⟨_, ((t425 != t377)), (by first | rfl | (simp; done) | (simp [*]; done)), H', ⟨by have := HJ17.out; have := HJ54.out; first | omega | exact Nat.le_refl _⟩, ⟨by (try simp only [hl385000_54]); (try simp only [hl385001_54]); (with_reducible repeat (first | apply Kd.R_alloc | apply Kd.R_drewN | apply Kd.R_drew)); exact Kd.R_mono HO_14.out (fun _ hk => trivial)⟩, ⟨by (try simp only [hl385000_54]); (try simp only [hl385001_54]); (with_reducible repeat (first | apply Kd.R_alloc | apply Kd.R_drewN | apply Kd.R_drew)); exact Kd.R_mono HO_385000.out (fun _ hk => trivial)⟩, ⟨by (try simp only [hl385000_54]); (try simp only [hl385001_54]); (with_reducible repeat (first | apply Kd.S_alloc | apply Kd.S_drewN | apply Kd.S_drew)); exact Kd.S_mono HO_385001.out (fun _ hk => hk.1.1)⟩, ⟨by (try simp only [hl385000_54]); (try simp only [hl385001_54]); (with_reducible repeat (first | refine blk_drewN ?_ _ | refine blk_drew ?_ | refine blk_alloc ?_ _)); exact BK363.out⟩, ⟨by (try simp only [hl385000_54]); (try simp only [hl385001_54]); (with_reducible repeat (first | refine blk_drewN ?_ _ | refine blk_drew ?_ | refine blk_alloc ?_ _)); exact BK384.out⟩, ⟨by repeat (first | (with_reducible first | exact HB.out | apply below_alloc | apply pw_below_drewN | apply below_drew1 | refine below_set ?_ GE363.out | refine below_set ?_ GE384.out) | exact HB.out)⟩⟩
              ·replace c96 := Bool.eq_false_iff.mpr c96
               subst c96
               have H1 : (laws_FnExactStampsFor.j2 kj54 t411 t410 true) = some r := by rw [if_neg (show ¬ (false = true) by decide)] at H; exact H
               clear H
               have H := H1
               clear H1
               have H' := Aside0.mk H
               clear H
               obtain ⟨Ao99, co99, eo99⟩ := Kd.R_slice HO424.out
               subst eo99
               obtain ⟨Ao100, co100, eo100⟩ := Kd.R_slice HO_10.out
               subst eo100
               go_wp2_with (first | ((with_reducible refine gate_callee (f := 23) rfl ?_); refine goesL_ (some 112) rfl rfl Try.func23 (by kernel_rfl) rfl #[.slice Ao99 t422.length co99, .slice Ao100 t374.length co100] rfl (by simp only [List.map_toArray, List.map_cons, List.map_nil]; try rfl) ?_; (with_reducible refine (laws_eqInt64S.calls kj54 _ _ t422 _ _ t374 false _ ?side1 ?side2 ?side3 ?side4 A95.out).mono ?_); (case side1 => exact (Kd.R_reads' HO424.out).2.2); (case side2 => exact (Kd.R_reads' HO424.out).2.1); (case side3 => exact (Kd.R_reads' HO_10.out).2.2); (case side4 => exact (Kd.R_reads' HO_10.out).2.1); rintro e w' ⟨rfl, ⟨nd, rfl⟩⟩; refine ⟨_, rfl, ?_⟩))
               go_meet
               case rel => exact ⟨_, (true), (by first | rfl | (simp; done) | (simp [*]; done)), H', ⟨by have := HJ17.out; have := HJ54.out; first | omega | exact Nat.le_refl _⟩, ⟨by (try simp only [hl385000_54]); (try simp only [hl385001_54]); (with_reducible repeat (first | apply Kd.R_alloc | apply Kd.R_drewN | apply Kd.R_drew)); exact Kd.R_mono HO_14.out (fun _ hk => trivial)⟩, ⟨by (try simp only [hl385000_54]); (try simp only [hl385001_54]); (with_reducible repeat (first | apply Kd.R_alloc | apply Kd.R_drewN | apply Kd.R_drew)); exact Kd.R_mono HO_385000.out (fun _ hk => trivial)⟩, ⟨by (try simp only [hl385000_54]); (try simp only [hl385001_54]); (with_reducible repeat (first | apply Kd.S_alloc | apply Kd.S_drewN | apply Kd.S_drew)); exact Kd.S_mono HO_385001.out (fun _ hk => hk.1.1)⟩, ⟨by (try simp only [hl385000_54]); (try simp only [hl385001_54]); (with_reducible repeat (first | refine blk_drewN ?_ _ | refine blk_drew ?_ | refine blk_alloc ?_ _)); exact BK363.out⟩, ⟨by (try simp only [hl385000_54]); (try simp only [hl385001_54]); (with_reducible repeat (first | refine blk_drewN ?_ _ | refine blk_drew ?_ | refine blk_alloc ?_ _)); exact BK384.out⟩, ⟨by repeat (first | (with_reducible first | exact HB.out | apply below_alloc | apply pw_below_drewN | apply below_drew1 | refine below_set ?_ GE363.out | refine below_set ?_ GE384.out) | exact HB.out)⟩⟩
             case rest =>
              clear HC84
              try clear c1
              try clear c2
              try clear p2
              try clear c3
              try clear c4
              try clear c5
              try clear c5b0
              try clear c5b1
              try clear c6
              try clear c7
              try clear c8
              try clear c8b0
              try clear c9
              try clear c11
              try clear c17
              try clear c19
              try clear c20
              try clear c22
              try clear c23
              try clear c32
              try clear c33
              try clear c34
              try clear c39
              try clear c40
              try clear c41
              try clear c46
              try clear c49
              try clear c52
              try clear c63
              try clear c67
              try clear c67b0
              try clear c69
              try clear c74
              try clear c77
              try clear c77b0
              try clear c80
              try clear c80b0
              try clear c80b1
              try clear c87
              try clear c96
              try clear hcz10_0
              try clear hcz10_1
              try clear hcz20_0
              try clear hcz20_1
              try clear hcz22_0
              try clear hcz22_1
              try clear hcz29_0
              try clear hcz29_1
              try clear hcz34_0
              try clear hcz34_1
              try clear hcz37_0
              try clear hcz37_1
              try clear hcz64_0
              try clear hcz64_1
              try clear hcz88_0
              try clear hcz88_1
              try clear hfz10_0
              try clear hfz10_1
              try clear hfz20_0
              try clear hfz20_1
              try clear hfz22_0
              try clear hfz22_1
              try clear hfz29_0
              try clear hfz29_1
              try clear hfz34_0
              try clear hfz34_1
              try clear hfz37_0
              try clear hfz37_1
              try clear hfz64_0
              try clear hfz64_1
              try clear hfz88_0
              try clear hfz88_1
              try clear p2
              obtain ⟨kq, x118_83, rfl, HA, HJ83, HO_14, HO_385000, HO_385001, BK363, BK384, HB⟩ := hcut
              have hl14_83 := (Kd.R_reads' HO_14.out).1
              rw [hl14_83] at HO_14
              (try simp only [hl14_83])
              (try simp only [hl14_83] at BK363)
              (try simp only [hl14_83] at BK384)
              (try simp only [hl14_83] at HO_385000)
              (try simp only [hl14_83] at HO_385001)
              cases kq with
              | zero => exact absurd HA.out (by simp [laws_FnExactStampsFor.j2])
              | succ kj83 =>
               have H := HA.out
               clear HA
               simp only [laws_FnExactStampsFor.j2] at H
               by_cases c101 : x118_83 = true
               ·subst c101
                have H1 : (some false) = some r := by rw [if_pos rfl] at H; exact H
                clear H
                have H := H1
                clear H1
                obtain rfl := Option.some.inj H
                go_wp2
                go_ret
                exact ⟨rfl, HB.out⟩
               ·replace c101 := Bool.eq_false_iff.mpr c101
                subst c101
                have H1 : ((laws_heldInt64S.f kj83 t411 1).bind fun t427 => (if t427 < 0 then (some false) else (if t427 = t410 then (some true) else (some false)))) = some r := by rw [if_neg (show ¬ (false = true) by decide)] at H; exact H
                clear H
                have H := H1
                clear H1
                replace H := Option.bind_eq_some_iff.mp H
                obtain ⟨t427, A1020, H⟩ := H
                replace H : (if t427 < 0 then (some false) else (if t427 = t410 then (some true) else (some false))) = some r := H
                have A102 := Aside0.mk A1020
                clear A1020
                by_cases c103 : t427 < 0
                ·rw [if_pos c103] at H
                 have c103b0 : decide (t427 < 0) = true := decide_eq_true c103
                 clear c103
                 obtain rfl := Option.some.inj H
                 go_wp2_with (first | ((with_reducible refine gate_callee (f := 34) rfl ?_); refine goesL_ (some 121) rfl rfl Try.func34 (by kernel_rfl) rfl #[.slice Ao85 t411.length co85, .int .i64 1] rfl (by simp only [List.map_toArray, List.map_cons, List.map_nil]; try rfl) ?_; (with_reducible refine (laws_heldInt64S.calls kj83 _ _ t411 1 t427 _ ?side1 ?side2 A102.out).mono ?_); (case side1 => exact (Kd.R_reads' HO_14.out).2.2); (case side2 => exact (Kd.R_reads' HO_14.out).2.1); rintro e w' ⟨rfl, ⟨nd, rfl⟩⟩; refine ⟨_, rfl, ?_⟩))
                 go_ret
                 exact ⟨by first | rfl | (simp [errW_none, errW_some] <;> rfl) | (simp [*, errW_none, errW_some] <;> rfl), by repeat (first | (with_reducible first | exact HB.out | apply below_alloc | apply pw_below_drewN | apply below_drew1 | refine below_set ?_ GE363.out | refine below_set ?_ GE384.out) | exact HB.out)⟩
                ·rw [if_neg c103] at H
                 have c103b0 : decide (t427 < 0) = false := decide_eq_false c103
                 clear c103
                 by_cases c104 : t427 = t410
                 ·rw [if_pos c104] at H
                  have c104b0 : (t427 == t410) = true := beq_iff_eq.mpr c104
                  have c104b1 : (t427 != t410) = false := bne_eq_false_iff_eq.mpr c104
                  clear c104
                  obtain rfl := Option.some.inj H
                  go_wp2_with (first | ((with_reducible refine gate_callee (f := 34) rfl ?_); refine goesL_ (some 121) rfl rfl Try.func34 (by kernel_rfl) rfl #[.slice Ao85 t411.length co85, .int .i64 1] rfl (by simp only [List.map_toArray, List.map_cons, List.map_nil]; try rfl) ?_; (with_reducible refine (laws_heldInt64S.calls kj83 _ _ t411 1 t427 _ ?side1 ?side2 A102.out).mono ?_); (case side1 => exact (Kd.R_reads' HO_14.out).2.2); (case side2 => exact (Kd.R_reads' HO_14.out).2.1); rintro e w' ⟨rfl, ⟨nd, rfl⟩⟩; refine ⟨_, rfl, ?_⟩))
                  go_ret
                  exact ⟨by first | rfl | (simp [errW_none, errW_some] <;> rfl) | (simp [*, errW_none, errW_some] <;> rfl), by repeat (first | (with_reducible first | exact HB.out | apply below_alloc | apply pw_below_drewN | apply below_drew1 | refine below_set ?_ GE363.out | refine below_set ?_ GE384.out) | exact HB.out)⟩
                 ·rw [if_neg c104] at H
                  have c104b0 : (t427 == t410) = false := beq_eq_false_iff_ne.mpr c104
                  have c104b1 : (t427 != t410) = true := bne_iff_ne.mpr c104
                  obtain rfl := Option.some.inj H
                  go_wp2_with (first | ((with_reducible refine gate_callee (f := 34) rfl ?_); refine goesL_ (some 121) rfl rfl Try.func34 (by kernel_rfl) rfl #[.slice Ao85 t411.length co85, .int .i64 1] rfl (by simp only [List.map_toArray, List.map_cons, List.map_nil]; try rfl) ?_; (with_reducible refine (laws_heldInt64S.calls kj83 _ _ t411 1 t427 _ ?side1 ?side2 A102.out).mono ?_); (case side1 => exact (Kd.R_reads' HO_14.out).2.2); (case side2 => exact (Kd.R_reads' HO_14.out).2.1); rintro e w' ⟨rfl, ⟨nd, rfl⟩⟩; refine ⟨_, rfl, ?_⟩))
                  go_ret
                  exact ⟨by first | rfl | (simp [errW_none, errW_some] <;> rfl) | (simp [*, errW_none, errW_some] <;> rfl), by repeat (first | (with_reducible first | exact HB.out | apply below_alloc | apply pw_below_drewN | apply below_drew1 | refine below_set ?_ GE363.out | refine below_set ?_ GE384.out) | exact HB.out)⟩
            ·rw [if_neg c80] at H
             have c80b0 : (t412 == t410) = false := beq_eq_false_iff_ne.mpr c80
             have c80b1 : (t412 != t410) = true := bne_iff_ne.mpr c80
             obtain rfl := Option.some.inj H
             obtain ⟨Ao105, co105, eo105⟩ := Kd.R_slice HO_14.out
             subst eo105
             go_wp2_with (first | ((with_reducible refine gate_callee (f := 33) rfl ?_); refine goesL_ (some 91) rfl rfl Try.func33 (by kernel_rfl) rfl #[.slice Ao105 t388.length co105, .int .i64 1] rfl (by simp only [List.map_toArray, List.map_cons, List.map_nil]; try rfl) ?_; (with_reducible refine (laws_markInt64S.calls kj54 (fun k_ => some k_ = (.slice Ao105 t388.length co105 : Value).ownBlock) (.slice Ao105 t388.length co105) t388 1 t410 t411 w _ ?side1 ?side2 A75.out).mono ?_); (case side1 => exact HB.out); (case side2 => exact Kd.R_tight rfl HO_14.out); rintro e w106 ⟨rfl, hy0, hb, hkp⟩; refine ⟨_, rfl, ?_⟩; replace HO_10 := Aside0.mk (Kd.R_mono (ok' := fun k_ => some k_ ≠ (.slice Ao105 t388.length co105 : Value).ownBlock) (Kd.R_keptB (HO_10.out) hkp (fun k_ hk_ hs_ => (hk_) hs_)) (fun k_ hk_ => hk_.1)); replace HO_385000 := Aside0.mk (Kd.R_mono (ok' := fun k_ => True) (Kd.R_keptB ((Kd.R_apart' HO_385000.out (Kd.R_typed HO_14.out) (by decide))) hkp (fun k_ hk_ hs_ => (hk_.2) hs_)) (fun k_ hk_ => trivial)); replace HO_385001 := Aside0.mk (Kd.S_mono (ok' := fun k_ => some k_ ≠ (.slice Ao32 t405.length co32 : Value).ownBlock) (Kd.S_keptB ((Kd.S_apart' HO_385001.out (Kd.R_typed HO_14.out) (by decide))) hkp (fun k_ hk_ hs_ => (hk_.2) hs_)) (fun k_ hk_ => hk_.1.1)); replace BK363 := Aside0.mk (blk_kept BK363.out hkp (fun hs_ => (fun e_ => (Kd.R_ne HO_14.out BK363.out (by decide)) e_) hs_)); replace BK384 := Aside0.mk (blk_kept BK384.out hkp (fun hs_ => (fun e_ => (Kd.R_ne HO_14.out BK384.out (by decide)) e_) hs_)); replace HO_14 := Aside0.mk (Kd.R_reok rfl hy0 (fun k_ e_ => HO_14.out.1 k_ e_)); replace HB := Aside0.mk (hb)) | ((with_reducible refine gate_callee (f := 34) rfl ?_); refine goesL_ (some 94) rfl rfl Try.func34 (by kernel_rfl) rfl #[.slice Ao105 t411.length co105, .int .i64 1] rfl (by (try simp only [List.map_toArray, List.map_cons, List.map_nil]); first | done | (rw [show t411.length = t388.length from (Kd.R_reads' HO_14.out).1.symm] <;> rfl) | rfl | (simp only [List.length_drop, List.length_take]; rfl)) ?_; (with_reducible refine (laws_heldInt64S.calls kj54 _ _ t411 1 t412 _ ?side1 ?side2 A76.out).mono ?_); (case side1 => exact (Kd.R_reads' HO_14.out).2.2); (case side2 => rw [show t411.length = t388.length from (Kd.R_reads' HO_14.out).1.symm]; exact (Kd.R_reads' HO_14.out).2.1); rintro e w' ⟨rfl, ⟨nd, rfl⟩⟩; refine ⟨_, rfl, ?_⟩))
             go_ret
             exact ⟨by first | rfl | (simp [errW_none, errW_some] <;> rfl) | (simp [*, errW_none, errW_some] <;> rfl), by repeat (first | (with_reducible first | exact HB.out | apply below_alloc | apply pw_below_drewN | apply below_drew1 | refine below_set ?_ GE363.out | refine below_set ?_ GE384.out) | exact HB.out)⟩
       ·replace c52 := Bool.eq_false_iff.mpr c52
        subst c52
        have H1 : (some false) = some r := by rw [if_neg (show ¬ (false = true) by decide)] at H; exact H
        clear H
        have H := H1
        clear H1
        obtain rfl := Option.some.inj H
        try go_wp2
        replace HO_10 := Aside0.mk (Kd.R_drew HO_10.out)
        replace HO_13 := Aside0.mk (Kd.R_drew HO_13.out)
        replace HO_14 := Aside0.mk (Kd.R_drew HO_14.out)
        replace HO_385000 := Aside0.mk (Kd.R_drew HO_385000.out)
        replace HO_385001 := Aside0.mk (Kd.S_drew HO_385001.out)
        replace BK363 := Aside0.mk (blk_drew BK363.out)
        replace BK384 := Aside0.mk (blk_drew BK384.out)
        replace HB := Aside0.mk (below_drew1 HB.out)
        refine start_ (n := 5) (S := fun w' => w'.cell? ⟨gb384, 0, none⟩ = some (.slice Ao32 t378.length co32) ∧ w'.cell? ⟨gb384, 1, none⟩ = some (.slice Ao35 t381.length co35) ∧ w'.cell? ⟨gb363, 0, none⟩ = some (.slice A0_0 l0_0.length c0_0) ∧ w'.cell? ⟨gb363, 1, none⟩ = some (.slice A0_1 l0_1.length c0_1)) (ds := []) #[false, false, false, false, false] (by kernel_rfl) rfl rfl ⟨(blk_cell BK384.out 0).trans rfl, (blk_cell BK384.out 1).trans rfl, (blk_cell BK363.out 0).trans rfl, (blk_cell BK363.out 1).trans rfl⟩ (fun hHeld => ?_)
        generalize wc.drew = w107 at HO_10 HO_13 HO_14 HO_385000 HO_385001 BK363 BK384 HB hHeld ⊢
        refine tk_ (i := 0) (N := some 60) (v := ?_) (a' := ?_) rfl rfl (by kernel_rfl) (fun _ _ _ h => h) (Or.inl ⟨by rfl, ?_⟩) hHeld ?_ ?_
        rotate_left; rintro w' ⟨s0, s1, s2, s3⟩; go_simp; with_reducible rfl; rotate_left; simp only [Act.put, sA_, sZ_, sS_, i64_w, i32_w]; rfl
        refine tk_ (i := 1) (N := some 61) (v := ?_) (a' := ?_) rfl rfl (by kernel_rfl) (fun _ _ _ h => h) (Or.inl ⟨by rfl, ?_⟩) hHeld ?_ ?_
        rotate_left; rintro w' ⟨s0, s1, s2, s3⟩; go_simp; with_reducible rfl; rotate_left; simp only [Act.put, sA_, sZ_, sS_, i64_w, i32_w]; rfl
        refine on_ (i := 2) (N := some 62) rfl rfl (by kernel_rfl) (by decide) (fun K hK => ?_)
        refine goes_ Try.func19 (by kernel_rfl) rfl #[.agg #[.slice A0_0 l0_0.length c0_0, .slice A0_1 l0_1.length c0_1]] (by rfl) rfl rfl (by simp only [List.map_toArray, List.map_cons, List.map_nil]; try rfl) ?_
        with_reducible refine (laws_toTable.calls kj17 _ _ l0_0 _ _ l0_1 t393 t396 _ ?side1 ?side2 ?side3 ?side4 A47.out).mono ?_
        (case side1 => exact (Kd.C_below HR0_0.out HB.out))
        (case side2 => exact HC0_0.out)
        (case side3 => exact (Kd.C_below HR0_1.out HB.out))
        (case side4 => exact HC0_1.out)
        rintro e w108 ⟨v394, v397, rfl, ho0, ho1, hb⟩
        refine ⟨_, rfl, ?_⟩
        replace HO_10 := Aside0.mk (Kd.R_below HO_10.out hb)
        replace HO_13 := Aside0.mk (Kd.R_below HO_13.out hb)
        replace HO_14 := Aside0.mk (Kd.R_below HO_14.out hb)
        have HO395 := Aside0.mk (Kd.R_lower (Kd.R_new' ho0 (Kd.R_lt HO_385000.out)) (below_size HB.out))
        have HO398 := Aside0.mk (Kd.S_lower (Kd.S_new' (Kd.S_new' ho1 (Kd.R_lt HO_385000.out)) (Kd.S_lt HO_385001.out)) (below_size HB.out))
        replace HO_385000 := Aside0.mk (Kd.R_elder' HO_385000.out (Kd.R_base ho0) hb)
        replace HO_385001 := Aside0.mk (Kd.S_mono (Kd.S_told (Kd.S_told (Kd.S_old HO_385001.out hb) (Kd.R_base ho0)) (Kd.S_base ho1)) (fun _ h_ => h_.1))
        replace BK363 := Aside0.mk (blk_below (g := gb363) (o := .cells #[.slice A0_0 l0_0.length c0_0, .slice A0_1 l0_1.length c0_1] 33 (0, 0)) BK363.out hb)
        replace BK384 := Aside0.mk (blk_below (g := gb384) (o := .cells #[.slice Ao32 t378.length co32, .slice Ao35 t381.length co35] 38 (0, 0)) BK384.out hb)
        replace HB := Aside0.mk (below_step HB.out hb)
        (try clear hb)
        (try clear hb2)
        (try clear hk)
        (try clear hi)
        (try clear ho0)
        (try clear ho1)
        obtain ⟨Ao109, co109, eo109⟩ := Kd.R_slice HO395.out
        (first | subst eo109 | (injection eo109 with f1_ f2_ f3_; have f4_ := f1_.symm; have f5_ := f3_.symm; clear f1_ f2_ f3_; subst f4_; subst f5_))
        obtain ⟨Ao110, co110, eo110⟩ := Kd.S_slice HO398.out
        (first | subst eo110 | (injection eo110 with f1_ f2_ f3_; have f4_ := f1_.symm; have f5_ := f3_.symm; clear f1_ f2_ f3_; subst f4_; subst f5_))
        refine hK.out _ _ ⟨(blk_cell BK384.out 0).trans rfl, (blk_cell BK384.out 1).trans rfl, (blk_cell BK363.out 0).trans rfl, (blk_cell BK363.out 1).trans rfl⟩ (fun hHeld => ?_)
        clear hK K
        refine norm_ (a' := ?_) ?_ ?_
        rotate_left
        ·show Act.put _ (some 62) _ = _
         simp only [Act.put, sA_, sZ_, sS_, i64_w, i32_w]
         rfl
        refine on_ (i := 3) (N := some 63) rfl rfl (by kernel_rfl) (by decide) (fun K hK => ?_)
        refine goes_ Try.func22 (by kernel_rfl) rfl #[.agg #[.slice Ao32 t378.length co32, .slice Ao35 t381.length co35], .agg #[.slice Ao109 t393.length co109, .slice Ao110 t396.length co110]] (by rfl) rfl rfl (by simp only [List.map_toArray, List.map_cons, List.map_nil]; try rfl) ?_
        with_reducible refine (laws_eqTable.calls kj17 _ _ t378 _ _ t381 _ _ t393 _ _ t396 true _ ?side1 ?side2 ?side3 ?side4 ?side5 ?side6 ?side7 ?side8 A48.out).mono ?_
        (case side1 => exact (Kd.R_reads' HO_385000.out).2.2)
        (case side2 => exact (Kd.R_reads' HO_385000.out).2.1)
        (case side3 => exact (Kd.S_reads' HO_385001.out).2.2)
        (case side4 => exact (Kd.S_reads' HO_385001.out).2.1)
        (case side5 => exact (Kd.R_reads' HO395.out).2.2)
        (case side6 => exact (Kd.R_reads' HO395.out).2.1)
        (case side7 => exact (Kd.S_reads' HO398.out).2.2)
        (case side8 => exact (Kd.S_reads' HO398.out).2.1)
        rintro e w111 ⟨rfl, hb⟩
        refine ⟨_, rfl, ?_⟩
        replace HO_10 := Aside0.mk (Kd.R_below HO_10.out hb)
        replace HO_13 := Aside0.mk (Kd.R_below HO_13.out hb)
        replace HO_14 := Aside0.mk (Kd.R_below HO_14.out hb)
        replace HO_385000 := Aside0.mk (Kd.R_below HO_385000.out hb)
        replace HO_385001 := Aside0.mk (Kd.S_below HO_385001.out hb)
        replace HO395 := Aside0.mk (Kd.R_below HO395.out hb)
        replace HO398 := Aside0.mk (Kd.S_below HO398.out hb)
        replace BK363 := Aside0.mk (blk_below (g := gb363) (o := .cells #[.slice A0_0 l0_0.length c0_0, .slice A0_1 l0_1.length c0_1] 33 (0, 0)) BK363.out hb)
        replace BK384 := Aside0.mk (blk_below (g := gb384) (o := .cells #[.slice Ao32 t378.length co32, .slice Ao35 t381.length co35] 38 (0, 0)) BK384.out hb)
        replace HB := Aside0.mk (below_step HB.out hb)
        (try clear hb)
        (try clear hb2)
        (try clear hk)
        (try clear hi)
        refine hK.out _ _ ⟨(blk_cell BK384.out 0).trans rfl, (blk_cell BK384.out 1).trans rfl, (blk_cell BK363.out 0).trans rfl, (blk_cell BK363.out 1).trans rfl⟩ (fun hHeld => ?_)
        clear hK K
        refine norm_ (a' := ?_) ?_ ?_
        rotate_left
        ·show Act.put _ (some 63) _ = _
         simp only [Act.put, sA_, sZ_, sS_, i64_w, i32_w]
         rfl
        refine pu_ (i := 4) (N := some 64) (v := ?_) (a' := ?_) rfl rfl (by kernel_rfl) (fun _ _ _ h => h) (Or.inl ⟨by rfl, ?_⟩) ?_ ?_
        rotate_left; intro w'; go_simp; with_reducible rfl; rotate_left; simp only [Act.put, sA_, sZ_, sS_, i64_w, i32_w]; rfl
        refine done_ (by kernel_rfl) ?_
        try go_wp2_with (first | ((with_reducible refine gate_callee (f := 20) rfl ?_); refine goesL_ (some 67) rfl rfl Try.func20 (by kernel_rfl) rfl #[.slice A3 l3.length c3] rfl (by simp only [List.map_toArray, List.map_cons, List.map_nil]; try rfl) ?_; (with_reducible refine (laws_toInt64S.calls kj17 _ _ l3 t400 _ ?side1 ?side2 A50.out).mono ?_); (case side1 => exact (Kd.C_below HR3.out HB.out)); (case side2 => exact HC3.out); rintro e w112 ⟨v401, rfl, ho0, hb⟩; refine ⟨_, rfl, ?_⟩; replace HO_385000 := Aside0.mk (Kd.R_below HO_385000.out hb); replace HO_385001 := Aside0.mk (Kd.S_below HO_385001.out hb); replace HO395 := Aside0.mk (Kd.R_below HO395.out hb); replace HO398 := Aside0.mk (Kd.S_below HO398.out hb); have HO402 := Aside0.mk (Kd.R_lower (Kd.R_new' (Kd.R_new' (Kd.R_new' ho0 (Kd.R_lt HO_10.out)) (Kd.R_lt HO_13.out)) (Kd.R_lt HO_14.out)) (below_size HB.out)); replace HO_10 := Aside0.mk (Kd.R_elder' HO_10.out (Kd.R_base ho0) hb); replace HO_13 := Aside0.mk (Kd.R_elder' HO_13.out (Kd.R_base ho0) hb); replace HO_14 := Aside0.mk (Kd.R_elder' HO_14.out (Kd.R_base ho0) hb); replace BK363 := Aside0.mk (blk_below (g := gb363) (o := .cells #[.slice A0_0 l0_0.length c0_0, .slice A0_1 l0_1.length c0_1] 33 (0, 0)) BK363.out hb); replace BK384 := Aside0.mk (blk_below (g := gb384) (o := .cells #[.slice Ao32 t378.length co32, .slice Ao35 t381.length co35] 38 (0, 0)) BK384.out hb); replace HB := Aside0.mk (below_step HB.out hb); obtain ⟨Ao113, co113, eo113⟩ := Kd.R_slice HO402.out; subst eo113) | ((with_reducible refine gate_callee (f := 23) rfl ?_); refine goesL_ (some 68) rfl rfl Try.func23 (by kernel_rfl) rfl #[.slice Ao38 t385.length co38, .slice Ao113 t400.length co113] rfl (by simp only [List.map_toArray, List.map_cons, List.map_nil]; try rfl) ?_; (with_reducible refine (laws_eqInt64S.calls kj17 _ _ t385 _ _ t400 false _ ?side1 ?side2 ?side3 ?side4 A51.out).mono ?_); (case side1 => exact (Kd.R_reads' HO_13.out).2.2); (case side2 => exact (Kd.R_reads' HO_13.out).2.1); (case side3 => exact (Kd.R_reads' HO402.out).2.2); (case side4 => exact (Kd.R_reads' HO402.out).2.1); rintro e w' ⟨rfl, ⟨nd, rfl⟩⟩; refine ⟨_, rfl, ?_⟩))
        go_ret
        exact ⟨by first | rfl | (simp [errW_none, errW_some] <;> rfl) | (simp [*, errW_none, errW_some] <;> rfl), by repeat (first | (with_reducible first | exact HB.out | apply below_alloc | apply pw_below_drewN | apply below_drew1 | refine below_set ?_ GE363.out | refine below_set ?_ GE384.out) | exact HB.out)⟩
      ·replace c49 := Bool.eq_false_iff.mpr c49
       subst c49
       have H1 : (some false) = some r := by rw [if_neg (show ¬ (false = true) by decide)] at H; exact H
       clear H
       have H := H1
       clear H1
       obtain rfl := Option.some.inj H
       try go_wp2
       replace HO_10 := Aside0.mk (Kd.R_drew HO_10.out)
       replace HO_13 := Aside0.mk (Kd.R_drew HO_13.out)
       replace HO_14 := Aside0.mk (Kd.R_drew HO_14.out)
       replace HO_385000 := Aside0.mk (Kd.R_drew HO_385000.out)
       replace HO_385001 := Aside0.mk (Kd.S_drew HO_385001.out)
       replace BK363 := Aside0.mk (blk_drew BK363.out)
       replace BK384 := Aside0.mk (blk_drew BK384.out)
       replace HB := Aside0.mk (below_drew1 HB.out)
       refine start_ (n := 5) (S := fun w' => w'.cell? ⟨gb384, 0, none⟩ = some (.slice Ao32 t378.length co32) ∧ w'.cell? ⟨gb384, 1, none⟩ = some (.slice Ao35 t381.length co35) ∧ w'.cell? ⟨gb363, 0, none⟩ = some (.slice A0_0 l0_0.length c0_0) ∧ w'.cell? ⟨gb363, 1, none⟩ = some (.slice A0_1 l0_1.length c0_1)) (ds := []) #[false, false, false, false, false] (by kernel_rfl) rfl rfl ⟨(blk_cell BK384.out 0).trans rfl, (blk_cell BK384.out 1).trans rfl, (blk_cell BK363.out 0).trans rfl, (blk_cell BK363.out 1).trans rfl⟩ (fun hHeld => ?_)
       generalize wc.drew = w114 at HO_10 HO_13 HO_14 HO_385000 HO_385001 BK363 BK384 HB hHeld ⊢
       refine tk_ (i := 0) (N := some 60) (v := ?_) (a' := ?_) rfl rfl (by kernel_rfl) (fun _ _ _ h => h) (Or.inl ⟨by rfl, ?_⟩) hHeld ?_ ?_
       rotate_left; rintro w' ⟨s0, s1, s2, s3⟩; go_simp; with_reducible rfl; rotate_left; simp only [Act.put, sA_, sZ_, sS_, i64_w, i32_w]; rfl
       refine tk_ (i := 1) (N := some 61) (v := ?_) (a' := ?_) rfl rfl (by kernel_rfl) (fun _ _ _ h => h) (Or.inl ⟨by rfl, ?_⟩) hHeld ?_ ?_
       rotate_left; rintro w' ⟨s0, s1, s2, s3⟩; go_simp; with_reducible rfl; rotate_left; simp only [Act.put, sA_, sZ_, sS_, i64_w, i32_w]; rfl
       refine on_ (i := 2) (N := some 62) rfl rfl (by kernel_rfl) (by decide) (fun K hK => ?_)
       refine goes_ Try.func19 (by kernel_rfl) rfl #[.agg #[.slice A0_0 l0_0.length c0_0, .slice A0_1 l0_1.length c0_1]] (by rfl) rfl rfl (by simp only [List.map_toArray, List.map_cons, List.map_nil]; try rfl) ?_
       with_reducible refine (laws_toTable.calls kj17 _ _ l0_0 _ _ l0_1 t393 t396 _ ?side1 ?side2 ?side3 ?side4 A47.out).mono ?_
       (case side1 => exact (Kd.C_below HR0_0.out HB.out))
       (case side2 => exact HC0_0.out)
       (case side3 => exact (Kd.C_below HR0_1.out HB.out))
       (case side4 => exact HC0_1.out)
       rintro e w115 ⟨v394, v397, rfl, ho0, ho1, hb⟩
       refine ⟨_, rfl, ?_⟩
       replace HO_10 := Aside0.mk (Kd.R_below HO_10.out hb)
       replace HO_13 := Aside0.mk (Kd.R_below HO_13.out hb)
       replace HO_14 := Aside0.mk (Kd.R_below HO_14.out hb)
       have HO395 := Aside0.mk (Kd.R_lower (Kd.R_new' ho0 (Kd.R_lt HO_385000.out)) (below_size HB.out))
       have HO398 := Aside0.mk (Kd.S_lower (Kd.S_new' (Kd.S_new' ho1 (Kd.R_lt HO_385000.out)) (Kd.S_lt HO_385001.out)) (below_size HB.out))
       replace HO_385000 := Aside0.mk (Kd.R_elder' HO_385000.out (Kd.R_base ho0) hb)
       replace HO_385001 := Aside0.mk (Kd.S_mono (Kd.S_told (Kd.S_told (Kd.S_old HO_385001.out hb) (Kd.R_base ho0)) (Kd.S_base ho1)) (fun _ h_ => h_.1))
       replace BK363 := Aside0.mk (blk_below (g := gb363) (o := .cells #[.slice A0_0 l0_0.length c0_0, .slice A0_1 l0_1.length c0_1] 33 (0, 0)) BK363.out hb)
       replace BK384 := Aside0.mk (blk_below (g := gb384) (o := .cells #[.slice Ao32 t378.length co32, .slice Ao35 t381.length co35] 38 (0, 0)) BK384.out hb)
       replace HB := Aside0.mk (below_step HB.out hb)
       (try clear hb)
       (try clear hb2)
       (try clear hk)
       (try clear hi)
       (try clear ho0)
       (try clear ho1)
       obtain ⟨Ao116, co116, eo116⟩ := Kd.R_slice HO395.out
       (first | subst eo116 | (injection eo116 with f1_ f2_ f3_; have f4_ := f1_.symm; have f5_ := f3_.symm; clear f1_ f2_ f3_; subst f4_; subst f5_))
       obtain ⟨Ao117, co117, eo117⟩ := Kd.S_slice HO398.out
       (first | subst eo117 | (injection eo117 with f1_ f2_ f3_; have f4_ := f1_.symm; have f5_ := f3_.symm; clear f1_ f2_ f3_; subst f4_; subst f5_))
       refine hK.out _ _ ⟨(blk_cell BK384.out 0).trans rfl, (blk_cell BK384.out 1).trans rfl, (blk_cell BK363.out 0).trans rfl, (blk_cell BK363.out 1).trans rfl⟩ (fun hHeld => ?_)
       clear hK K
       refine norm_ (a' := ?_) ?_ ?_
       rotate_left
       ·show Act.put _ (some 62) _ = _
        simp only [Act.put, sA_, sZ_, sS_, i64_w, i32_w]
        rfl
       refine on_ (i := 3) (N := some 63) rfl rfl (by kernel_rfl) (by decide) (fun K hK => ?_)
       refine goes_ Try.func22 (by kernel_rfl) rfl #[.agg #[.slice Ao32 t378.length co32, .slice Ao35 t381.length co35], .agg #[.slice Ao116 t393.length co116, .slice Ao117 t396.length co117]] (by rfl) rfl rfl (by simp only [List.map_toArray, List.map_cons, List.map_nil]; try rfl) ?_
       with_reducible refine (laws_eqTable.calls kj17 _ _ t378 _ _ t381 _ _ t393 _ _ t396 false _ ?side1 ?side2 ?side3 ?side4 ?side5 ?side6 ?side7 ?side8 A48.out).mono ?_
       (case side1 => exact (Kd.R_reads' HO_385000.out).2.2)
       (case side2 => exact (Kd.R_reads' HO_385000.out).2.1)
       (case side3 => exact (Kd.S_reads' HO_385001.out).2.2)
       (case side4 => exact (Kd.S_reads' HO_385001.out).2.1)
       (case side5 => exact (Kd.R_reads' HO395.out).2.2)
       (case side6 => exact (Kd.R_reads' HO395.out).2.1)
       (case side7 => exact (Kd.S_reads' HO398.out).2.2)
       (case side8 => exact (Kd.S_reads' HO398.out).2.1)
       rintro e w118 ⟨rfl, hb⟩
       refine ⟨_, rfl, ?_⟩
       replace HO_10 := Aside0.mk (Kd.R_below HO_10.out hb)
       replace HO_13 := Aside0.mk (Kd.R_below HO_13.out hb)
       replace HO_14 := Aside0.mk (Kd.R_below HO_14.out hb)
       replace HO_385000 := Aside0.mk (Kd.R_below HO_385000.out hb)
       replace HO_385001 := Aside0.mk (Kd.S_below HO_385001.out hb)
       replace HO395 := Aside0.mk (Kd.R_below HO395.out hb)
       replace HO398 := Aside0.mk (Kd.S_below HO398.out hb)
       replace BK363 := Aside0.mk (blk_below (g := gb363) (o := .cells #[.slice A0_0 l0_0.length c0_0, .slice A0_1 l0_1.length c0_1] 33 (0, 0)) BK363.out hb)
       replace BK384 := Aside0.mk (blk_below (g := gb384) (o := .cells #[.slice Ao32 t378.length co32, .slice Ao35 t381.length co35] 38 (0, 0)) BK384.out hb)
       replace HB := Aside0.mk (below_step HB.out hb)
       (try clear hb)
       (try clear hb2)
       (try clear hk)
       (try clear hi)
       refine hK.out _ _ ⟨(blk_cell BK384.out 0).trans rfl, (blk_cell BK384.out 1).trans rfl, (blk_cell BK363.out 0).trans rfl, (blk_cell BK363.out 1).trans rfl⟩ (fun hHeld => ?_)
       clear hK K
       refine norm_ (a' := ?_) ?_ ?_
       rotate_left
       ·show Act.put _ (some 63) _ = _
        simp only [Act.put, sA_, sZ_, sS_, i64_w, i32_w]
        rfl
       refine pu_ (i := 4) (N := some 64) (v := ?_) (a' := ?_) rfl rfl (by kernel_rfl) (fun _ _ _ h => h) (Or.inl ⟨by rfl, ?_⟩) ?_ ?_
       rotate_left; intro w'; go_simp; with_reducible rfl; rotate_left; simp only [Act.put, sA_, sZ_, sS_, i64_w, i32_w]; rfl
       refine done_ (by kernel_rfl) ?_
       try go_wp2
       go_ret
       exact ⟨rfl, HB.out⟩

/-- The pure statement of laws_FnExactStampsFor. -/
def laws_FnExactStampsFor.Pure : Prop := ∀ (l0_0 : List Int) (l0_1 : List (List Int)) (a1 : Int) (a2 : Int) (l3 : List Int), (l0_0.length ≤ maxLen ∧ l0_0.length * 2 ≤ 140737488351232 ∧ ∀ y0 ∈ l0_0, (Lit.int .i16 y0).wf = true) → (l0_1.length ≤ maxLen ∧ l0_1.length * 24 ≤ 140737488351232 ∧ ∀ y0 ∈ l0_1, y0.length ≤ maxLen ∧ y0.length * 2 ≤ 140737488351232 ∧ ∀ y1 ∈ y0, (Lit.int .i16 y1).wf = true) → ((Lit.int .i64 a1).wf = true) → ((Lit.int .i64 a2).wf = true) → (l3.length ≤ maxLen ∧ l3.length * 8 ≤ 140737488351232 ∧ ∀ y0 ∈ l3, (Lit.int .i64 y0).wf = true) → ∃ k, laws_FnExactStampsFor.f k l0_0 l0_1 a1 a2 l3 = some true

end Go.Proofs.Ytdeipindfhkioaa.Q
