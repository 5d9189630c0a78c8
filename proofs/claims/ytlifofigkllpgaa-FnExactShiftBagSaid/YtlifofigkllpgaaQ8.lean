-- made by wip/tools/mk.py of this session's repo, by way of the kit's print.py: Lean checks it.
import Derived.Test.YtlifofigkllpgaaQ0
import Derived.Test.YtlifofigkllpgaaQ1
import Derived.Test.YtlifofigkllpgaaQ3
import Derived.Test.YtlifofigkllpgaaQ6
import Derived.Test.YtlifofigkllpgaaQ7
namespace Go.Proofs.Ytlifofigkllpgaa.Q
open Go.RowKit Go.Proofs.YtlifofigkllpgaaW.PrintWords Go.Proofs.YtlifofigkllpgaaW.PrintLast Go.Proofs.YtlifofigkllpgaaW.PrintMore Go.Proofs.YtlifofigkllpgaaMine
attribute [local go_sem] max2_int min2_int max_two min_two max_three min_three max_four min_four   -- for this text's walks alone
set_option linter.unusedVariables false
set_option linter.unusedSimpArgs false

/-! ### laws_FnExactShiftBag: function 10 -/
mutual
def laws_FnExactShiftBag.j0 : Nat → List (List Int) → List (List Int) → Int → List (List Int) → List (List Int) → Int → Bool → Int → Int → Option (Bool)
  | 0, _, _, _, _, _, _, _, _, _ => none
  | k + 1, x0, x6, x7, x8, x9, x10, x46, x211000, x211001 => if x46 = true then (some false) else ((laws_toInt64SS.f k x0).bind fun t231 => ((laws_eqInt64SS.f k x8 t231).bind fun t234 => (if t234 = true then ((laws_markInt64SS.f k x8 1).bind fun bt235 => (if bt235.1 < 0 then (laws_FnExactShiftBag.j1 k x0 x6 x7 x9 true x211000 x211001) else ((laws_eqInt64SS.f k x9 x6).bind fun t237 => (if t237 = true then (laws_FnExactShiftBag.j1 k x0 x6 x7 x9 (x10 != x7) x211000 x211001) else (laws_FnExactShiftBag.j1 k x0 x6 x7 x9 true x211000 x211001))))) else (some false))))
def laws_FnExactShiftBag.j1 : Nat → List (List Int) → List (List Int) → Int → List (List Int) → Bool → Int → Int → Option (Bool)
  | 0, _, _, _, _, _, _, _ => none
  | k + 1, x0, x6, x7, x9, x67, x211000, x211001 => if x67 = true then (some false) else ((laws_markInt64SS.f k x9 1).bind fun bt238 => ((laws_heldInt64SS.f k bt238.2 1).bind fun t240 => (if t240 < 0 then (some false) else (if t240 = bt238.1 then ((laws_toInt64SS.f k x0).bind fun t241 => ((laws_toShift.f x211000 x211001).bind fun bt244 => ((impl_ShiftBag.f k t241 bt244.1 bt244.2).bind fun bt246 => ((laws_eqInt64SS.f k bt246.1 x6).bind fun t250 => (if t250 = true then (laws_FnExactShiftBag.j2 k bt238.2 bt238.1 (bt246.2 != x7)) else (laws_FnExactShiftBag.j2 k bt238.2 bt238.1 true)))))) else (some false)))))
def laws_FnExactShiftBag.j2 : Nat → List (List Int) → Int → Bool → Option (Bool)
  | 0, _, _, _ => none
  | k + 1, x9, x12, x95 => if x95 = true then (some false) else ((laws_heldInt64SS.f k x9 1).bind fun t251 => (if t251 < 0 then (some false) else (if t251 = x12 then (some true) else (some false))))
end
def laws_FnExactShiftBag.f (k : Nat) (l0 : List (List Int)) (a1_0 : Int) (a1_1 : Int) : Option (Bool) := (laws_szInt64SS.f k l0 1048576).bind fun t211 => (if t211 < 0 then (some true) else ((laws_toInt64SS.f k l0).bind fun t212 => ((laws_toShift.f a1_0 a1_1).bind fun bt215 => ((spec_ShiftBag.f k t212 bt215.1 bt215.2).bind fun bt217 => ((laws_toInt64SS.f k l0).bind fun t221 => ((laws_toShift.f a1_0 a1_1).bind fun bt224 => ((impl_ShiftBag.f k t221 bt224.1 bt224.2).bind fun bt226 => ((laws_eqInt64SS.f k bt226.1 bt217.1).bind fun t230 => (if t230 = true then (laws_FnExactShiftBag.j0 k l0 bt217.1 bt217.2 t221 bt226.1 bt226.2 (bt226.2 != bt217.2) a1_0 a1_1) else (laws_FnExactShiftBag.j0 k l0 bt217.1 bt217.2 t221 bt226.1 bt226.2 true a1_0 a1_1))))))))))
theorem laws_FnExactShiftBag.mono_l : ∀ k, (∀ y0 y1 y2 y3 y4 y5 y6 y7 y8, LeO (laws_FnExactShiftBag.j0 k y0 y1 y2 y3 y4 y5 y6 y7 y8) (laws_FnExactShiftBag.j0 (k + 1) y0 y1 y2 y3 y4 y5 y6 y7 y8)) ∧ (∀ y0 y1 y2 y3 y4 y5 y6, LeO (laws_FnExactShiftBag.j1 k y0 y1 y2 y3 y4 y5 y6) (laws_FnExactShiftBag.j1 (k + 1) y0 y1 y2 y3 y4 y5 y6)) ∧ (∀ y0 y1 y2, LeO (laws_FnExactShiftBag.j2 k y0 y1 y2) (laws_FnExactShiftBag.j2 (k + 1) y0 y1 y2))
  | 0 => ⟨fun _ _ _ _ _ _ _ _ _ r h => by simp [laws_FnExactShiftBag.j0] at h, fun _ _ _ _ _ _ _ r h => by simp [laws_FnExactShiftBag.j1] at h, fun _ _ _ r h => by simp [laws_FnExactShiftBag.j2] at h⟩
  | k + 1 => by
    obtain ⟨ih0, ih1, ih2⟩ := laws_FnExactShiftBag.mono_l k
    refine ⟨?_, ?_, ?_⟩
    · intro y0 y1 y2 y3 y4 y5 y6 y7 y8
      unfold laws_FnExactShiftBag.j0
      repeat' first
      | (with_reducible exact ih0 _ _ _ _ _ _ _ _ _)
      | (with_reducible exact ih1 _ _ _ _ _ _ _)
      | (with_reducible exact ih2 _ _ _)
      | (with_reducible exact impl_ShiftBag.mono _ _ _ _)
      | (with_reducible exact laws_eqInt64SS.mono _ _ _)
      | (with_reducible exact laws_heldInt64SS.mono _ _ _)
      | (with_reducible exact laws_markInt64SS.mono _ _ _)
      | (with_reducible exact laws_szInt64SS.mono _ _ _)
      | (with_reducible exact laws_toInt64SS.mono _ _)
      | (with_reducible exact spec_ShiftBag.mono _ _ _ _)
      | (with_reducible exact LeO.refl _)
      | (with_reducible exact LeO.none _)
      | (with_reducible refine LeO.ite ?_ ?_)
      | (with_reducible refine LeO.bind ?_ (fun _ => ?_))
      | exact ih0 _ _ _ _ _ _ _ _ _
      | exact ih1 _ _ _ _ _ _ _
      | exact ih2 _ _ _
      | exact impl_ShiftBag.mono _ _ _ _
      | exact laws_eqInt64SS.mono _ _ _
      | exact laws_heldInt64SS.mono _ _ _
      | exact laws_markInt64SS.mono _ _ _
      | exact laws_szInt64SS.mono _ _ _
      | exact laws_toInt64SS.mono _ _
      | exact spec_ShiftBag.mono _ _ _ _
      | exact LeO.none _
      | refine LeO.ite ?_ ?_
      | refine LeO.bind ?_ (fun _ => ?_)
    · intro y0 y1 y2 y3 y4 y5 y6
      unfold laws_FnExactShiftBag.j1
      repeat' first
      | (with_reducible exact ih0 _ _ _ _ _ _ _ _ _)
      | (with_reducible exact ih1 _ _ _ _ _ _ _)
      | (with_reducible exact ih2 _ _ _)
      | (with_reducible exact impl_ShiftBag.mono _ _ _ _)
      | (with_reducible exact laws_eqInt64SS.mono _ _ _)
      | (with_reducible exact laws_heldInt64SS.mono _ _ _)
      | (with_reducible exact laws_markInt64SS.mono _ _ _)
      | (with_reducible exact laws_szInt64SS.mono _ _ _)
      | (with_reducible exact laws_toInt64SS.mono _ _)
      | (with_reducible exact spec_ShiftBag.mono _ _ _ _)
      | (with_reducible exact LeO.refl _)
      | (with_reducible exact LeO.none _)
      | (with_reducible refine LeO.ite ?_ ?_)
      | (with_reducible refine LeO.bind ?_ (fun _ => ?_))
      | exact ih0 _ _ _ _ _ _ _ _ _
      | exact ih1 _ _ _ _ _ _ _
      | exact ih2 _ _ _
      | exact impl_ShiftBag.mono _ _ _ _
      | exact laws_eqInt64SS.mono _ _ _
      | exact laws_heldInt64SS.mono _ _ _
      | exact laws_markInt64SS.mono _ _ _
      | exact laws_szInt64SS.mono _ _ _
      | exact laws_toInt64SS.mono _ _
      | exact spec_ShiftBag.mono _ _ _ _
      | exact LeO.none _
      | refine LeO.ite ?_ ?_
      | refine LeO.bind ?_ (fun _ => ?_)
    · intro y0 y1 y2
      unfold laws_FnExactShiftBag.j2
      repeat' first
      | (with_reducible exact ih0 _ _ _ _ _ _ _ _ _)
      | (with_reducible exact ih1 _ _ _ _ _ _ _)
      | (with_reducible exact ih2 _ _ _)
      | (with_reducible exact impl_ShiftBag.mono _ _ _ _)
      | (with_reducible exact laws_eqInt64SS.mono _ _ _)
      | (with_reducible exact laws_heldInt64SS.mono _ _ _)
      | (with_reducible exact laws_markInt64SS.mono _ _ _)
      | (with_reducible exact laws_szInt64SS.mono _ _ _)
      | (with_reducible exact laws_toInt64SS.mono _ _)
      | (with_reducible exact spec_ShiftBag.mono _ _ _ _)
      | (with_reducible exact LeO.refl _)
      | (with_reducible exact LeO.none _)
      | (with_reducible refine LeO.ite ?_ ?_)
      | (with_reducible refine LeO.bind ?_ (fun _ => ?_))
      | exact ih0 _ _ _ _ _ _ _ _ _
      | exact ih1 _ _ _ _ _ _ _
      | exact ih2 _ _ _
      | exact impl_ShiftBag.mono _ _ _ _
      | exact laws_eqInt64SS.mono _ _ _
      | exact laws_heldInt64SS.mono _ _ _
      | exact laws_markInt64SS.mono _ _ _
      | exact laws_szInt64SS.mono _ _ _
      | exact laws_toInt64SS.mono _ _
      | exact spec_ShiftBag.mono _ _ _ _
      | exact LeO.none _
      | refine LeO.ite ?_ ?_
      | refine LeO.bind ?_ (fun _ => ?_)
theorem laws_FnExactShiftBag.mono : ∀ a0 a1 a2 k, LeO (laws_FnExactShiftBag.f k a0 a1 a2) (laws_FnExactShiftBag.f (k + 1) a0 a1 a2) := by
  intro a0 a1 a2 k
  obtain ⟨ih0, ih1, ih2⟩ := laws_FnExactShiftBag.mono_l k
  unfold laws_FnExactShiftBag.f
  repeat' first
      | (with_reducible exact ih0 _ _ _ _ _ _ _ _ _)
      | (with_reducible exact ih1 _ _ _ _ _ _ _)
      | (with_reducible exact ih2 _ _ _)
      | (with_reducible exact impl_ShiftBag.mono _ _ _ _)
      | (with_reducible exact laws_eqInt64SS.mono _ _ _)
      | (with_reducible exact laws_heldInt64SS.mono _ _ _)
      | (with_reducible exact laws_markInt64SS.mono _ _ _)
      | (with_reducible exact laws_szInt64SS.mono _ _ _)
      | (with_reducible exact laws_toInt64SS.mono _ _)
      | (with_reducible exact spec_ShiftBag.mono _ _ _ _)
      | (with_reducible exact LeO.refl _)
      | (with_reducible exact LeO.none _)
      | (with_reducible refine LeO.ite ?_ ?_)
      | (with_reducible refine LeO.bind ?_ (fun _ => ?_))
      | exact ih0 _ _ _ _ _ _ _ _ _
      | exact ih1 _ _ _ _ _ _ _
      | exact ih2 _ _ _
      | exact impl_ShiftBag.mono _ _ _ _
      | exact laws_eqInt64SS.mono _ _ _
      | exact laws_heldInt64SS.mono _ _ _
      | exact laws_markInt64SS.mono _ _ _
      | exact laws_szInt64SS.mono _ _ _
      | exact laws_toInt64SS.mono _ _
      | exact spec_ShiftBag.mono _ _ _ _
      | exact LeO.none _
      | refine LeO.ite ?_ ?_
      | refine LeO.bind ?_ (fun _ => ?_)
def laws_FnExactShiftBag.T5 : Bool × List (List Nat × List Nat) := (true, [([], []), ([0], [0]), ([], []), ([2, 1], [2]), ([1, 3, 3], [1, 3]), ([4], [4]), ([5], [5]), ([5], [5]), ([6, 4, 0, 1, 2, 3, 4, 5, 6], [6]), ([7, 8, 0, 1, 2, 3, 4, 5, 6, 7, 8], [7])])
def laws_FnExactShiftBag.B5 : List Nat := [0, 1, 0, 7, 15, 31, 63, 63, 127, 511]
theorem laws_FnExactShiftBag.tab5 : rtab .any (opsOf Try.f10 5) = laws_FnExactShiftBag.T5 := by kernel_rfl
theorem laws_FnExactShiftBag.bits5 : waitsOk laws_FnExactShiftBag.T5.2 laws_FnExactShiftBag.B5 = true := by kernel_rfl
def laws_FnExactShiftBag.T24 : Bool × List (List Nat × List Nat) := (true, [([], []), ([0], [0]), ([], []), ([2, 1], [2]), ([1, 3, 3], [1, 3]), ([4], [4]), ([5], [5]), ([5], [5]), ([6, 4, 0, 1, 2, 3, 4, 5, 6], [6]), ([7, 8, 0, 1, 2, 3, 4, 5, 6, 7, 8], [7])])
def laws_FnExactShiftBag.B24 : List Nat := [0, 1, 0, 7, 15, 31, 63, 63, 127, 511]
theorem laws_FnExactShiftBag.tab24 : rtab .any (opsOf Try.f10 24) = laws_FnExactShiftBag.T24 := by kernel_rfl
theorem laws_FnExactShiftBag.bits24 : waitsOk laws_FnExactShiftBag.T24.2 laws_FnExactShiftBag.B24 = true := by kernel_rfl
theorem laws_FnExactShiftBag.age {W w1 : World} (hb : Below W.heap.size W w1) : ∃ N : Nat, N = W.heap.size := ⟨_, rfl⟩
theorem laws_FnExactShiftBag.young {α : Type} {d : Kd α} {e : Nat} {W : World} {base N : Nat} {ok : Nat → Prop} {u : Value} {xs : List α} (h : Kd.S d e W base ok u xs) (hN : N = W.heap.size) : Kd.S d e W base (fun k => ok k ∧ k < N) u xs :=
  Kd.S_mono (Kd.S_bound h) (fun k hk => ⟨hk.1, by have h2 := hk.2.2.1; omega⟩)
set_option maxHeartbeats 8000000 in
set_option maxRecDepth 100000 in
theorem laws_FnExactShiftBag.calls (k : Nat) (A0 : Option Addr) (c0 : Nat) (l0 : List (List Int)) (a1_0 : Int) (a1_1 : Int) (r : Bool) (w : World) (hr0 : Kd.C (Kd.slice 2 (Kd.int .i64)) w A0 l0.length l0) (hc0 : l0.length ≤ c0) (h : laws_FnExactShiftBag.f k l0 a1_0 a1_1 = some r) :
    Calls Try.prog 10 #[.slice A0 l0.length c0, .agg #[.int .i8 a1_0, .int .i8 a1_1]] w fun e w' => e = .returned (.bool r) ∧ Below w.heap.size w w' := by
  have hu43 := Try.underlying43
  have HR0 := Aside0.mk hr0
  have HC0 := Aside0.mk hc0
  clear hr0 hc0
  have HB := Aside0.mk (Below.refl w.heap.size w)
  have H : ((laws_szInt64SS.f k l0 1048576).bind fun t211 => (if t211 < 0 then (some true) else ((laws_toInt64SS.f k l0).bind fun t212 => ((laws_toShift.f a1_0 a1_1).bind fun bt215 => ((spec_ShiftBag.f k t212 bt215.1 bt215.2).bind fun bt217 => ((laws_toInt64SS.f k l0).bind fun t221 => ((laws_toShift.f a1_0 a1_1).bind fun bt224 => ((impl_ShiftBag.f k t221 bt224.1 bt224.2).bind fun bt226 => ((laws_eqInt64SS.f k bt226.1 bt217.1).bind fun t230 => (if t230 = true then (laws_FnExactShiftBag.j0 k l0 bt217.1 bt217.2 t221 bt226.1 bt226.2 (bt226.2 != bt217.2) a1_0 a1_1) else (laws_FnExactShiftBag.j0 k l0 bt217.1 bt217.2 t221 bt226.1 bt226.2 true a1_0 a1_1))))))))))) = some r := h
  clear h
  replace H := Option.bind_eq_some_iff.mp H
  obtain ⟨t211, A30, H⟩ := H
  replace H : (if t211 < 0 then (some true) else ((laws_toInt64SS.f k l0).bind fun t212 => ((laws_toShift.f a1_0 a1_1).bind fun bt215 => ((spec_ShiftBag.f k t212 bt215.1 bt215.2).bind fun bt217 => ((laws_toInt64SS.f k l0).bind fun t221 => ((laws_toShift.f a1_0 a1_1).bind fun bt224 => ((impl_ShiftBag.f k t221 bt224.1 bt224.2).bind fun bt226 => ((laws_eqInt64SS.f k bt226.1 bt217.1).bind fun t230 => (if t230 = true then (laws_FnExactShiftBag.j0 k l0 bt217.1 bt217.2 t221 bt226.1 bt226.2 (bt226.2 != bt217.2) a1_0 a1_1) else (laws_FnExactShiftBag.j0 k l0 bt217.1 bt217.2 t221 bt226.1 bt226.2 true a1_0 a1_1)))))))))) = some r := H
  have A3 := Aside0.mk A30
  clear A30
  by_cases c4 : t211 < 0
  · rw [if_pos c4] at H
    have c4b0 : decide (t211 < 0) = true := decide_eq_true c4
    clear c4
    obtain rfl := Option.some.inj H
    go_enter Try.func10, Try.ntmps10
    go_wp2_with (first | ((with_reducible refine gate_dst (N := 3) rfl ?_); refine box_event ?hg (N := 3) ?hd (cs := #[.int .i8 a1_0, .int .i8 a1_1]) (t := 43) ?hr ?_; (case hd => rfl); (case hg => rfl); (case hr => first | (go_simp; done) | (go_simp; rfl)); intro gb210 hg w5 hbox hb; have n0_ := Aside0.mk (below_step (by repeat (first | (with_reducible first | exact HB.out | apply below_alloc | apply pw_below_drewN | apply below_drew1) | exact HB.out)) hb); have n1_ := Aside0.mk (hbox); have n2_ := Aside0.mk ((by rw [hg]; exact (below_size (by repeat (first | (with_reducible first | exact HB.out | apply below_alloc | apply pw_below_drewN | apply below_drew1) | exact HB.out))) : w.heap.size ≤ gb210)); have n3_ := Aside0.mk ((by rw [hg]; exact (below_size (by repeat (first | (with_reducible first | exact HB.out | apply below_alloc | apply pw_below_drewN | apply below_drew1) | exact HB.out))) : w.heap.size ≤ gb210)); clear HB; have HB := n0_; have BK210 := n1_; have GW210 := n2_; have GE210 := n3_; clear n0_ n1_ n2_ n3_; clear hb hbox hg) | ((with_reducible refine gate_callee (f := 19) rfl ?_); refine goesL_ (some 18) rfl rfl Try.func19 (by kernel_rfl) rfl #[.slice A0 l0.length c0, .int .i64 1048576] rfl (by (try simp only [List.map_toArray, List.map_cons, List.map_nil]); first | done | rfl | (simp only [List.length_drop, List.length_take]; rfl)) ?_; (with_reducible refine (laws_szInt64SS.calls k _ _ l0 1048576 t211 _ ?side1 ?side2 A3.out).mono ?_); (case side1 => repeat (first | exact (Kd.C_below HR0.out HB.out) | (with_reducible refine Kd.C_alloc ?_ _) | (with_reducible refine Kd.C_drewN ?_ _) | (with_reducible refine Kd.C_drew ?_))); (case side2 => exact HC0.out); rintro e w' ⟨rfl, ⟨nd, rfl⟩⟩; refine ⟨_, rfl, ?_⟩))
    go_ret
    exact ⟨by first | rfl | (simp [errW_none, errW_some] <;> rfl) | (simp [*, errW_none, errW_some] <;> rfl), by repeat (first | (with_reducible first | exact HB.out | apply below_alloc | apply pw_below_drewN | apply below_drew1 | refine below_set ?_ GE210.out) | exact HB.out)⟩
  · rw [if_neg c4] at H
    have c4b0 : decide (t211 < 0) = false := decide_eq_false c4
    clear c4
    replace H := Option.bind_eq_some_iff.mp H
    obtain ⟨t212, A60, H⟩ := H
    replace H : ((laws_toShift.f a1_0 a1_1).bind fun bt215 => ((spec_ShiftBag.f k t212 bt215.1 bt215.2).bind fun bt217 => ((laws_toInt64SS.f k l0).bind fun t221 => ((laws_toShift.f a1_0 a1_1).bind fun bt224 => ((impl_ShiftBag.f k t221 bt224.1 bt224.2).bind fun bt226 => ((laws_eqInt64SS.f k bt226.1 bt217.1).bind fun t230 => (if t230 = true then (laws_FnExactShiftBag.j0 k l0 bt217.1 bt217.2 t221 bt226.1 bt226.2 (bt226.2 != bt217.2) a1_0 a1_1) else (laws_FnExactShiftBag.j0 k l0 bt217.1 bt217.2 t221 bt226.1 bt226.2 true a1_0 a1_1)))))))) = some r := H
    have A6 := Aside0.mk A60
    clear A60
    replace H := Option.bind_eq_some_iff.mp H
    obtain ⟨⟨t215, t216⟩, A70, H⟩ := H
    replace H : ((spec_ShiftBag.f k t212 t215 t216).bind fun bt217 => ((laws_toInt64SS.f k l0).bind fun t221 => ((laws_toShift.f a1_0 a1_1).bind fun bt224 => ((impl_ShiftBag.f k t221 bt224.1 bt224.2).bind fun bt226 => ((laws_eqInt64SS.f k bt226.1 bt217.1).bind fun t230 => (if t230 = true then (laws_FnExactShiftBag.j0 k l0 bt217.1 bt217.2 t221 bt226.1 bt226.2 (bt226.2 != bt217.2) a1_0 a1_1) else (laws_FnExactShiftBag.j0 k l0 bt217.1 bt217.2 t221 bt226.1 bt226.2 true a1_0 a1_1))))))) = some r := H
    have A7 := Aside0.mk A70
    clear A70
    replace H := Option.bind_eq_some_iff.mp H
    obtain ⟨⟨t217, t220⟩, A80, H⟩ := H
    replace H : ((laws_toInt64SS.f k l0).bind fun t221 => ((laws_toShift.f a1_0 a1_1).bind fun bt224 => ((impl_ShiftBag.f k t221 bt224.1 bt224.2).bind fun bt226 => ((laws_eqInt64SS.f k bt226.1 t217).bind fun t230 => (if t230 = true then (laws_FnExactShiftBag.j0 k l0 t217 t220 t221 bt226.1 bt226.2 (bt226.2 != t220) a1_0 a1_1) else (laws_FnExactShiftBag.j0 k l0 t217 t220 t221 bt226.1 bt226.2 true a1_0 a1_1)))))) = some r := H
    have A8 := Aside0.mk A80
    clear A80
    replace H := Option.bind_eq_some_iff.mp H
    obtain ⟨t221, A90, H⟩ := H
    replace H : ((laws_toShift.f a1_0 a1_1).bind fun bt224 => ((impl_ShiftBag.f k t221 bt224.1 bt224.2).bind fun bt226 => ((laws_eqInt64SS.f k bt226.1 t217).bind fun t230 => (if t230 = true then (laws_FnExactShiftBag.j0 k l0 t217 t220 t221 bt226.1 bt226.2 (bt226.2 != t220) a1_0 a1_1) else (laws_FnExactShiftBag.j0 k l0 t217 t220 t221 bt226.1 bt226.2 true a1_0 a1_1))))) = some r := H
    have A9 := Aside0.mk A90
    clear A90
    replace H := Option.bind_eq_some_iff.mp H
    obtain ⟨⟨t224, t225⟩, A100, H⟩ := H
    replace H : ((impl_ShiftBag.f k t221 t224 t225).bind fun bt226 => ((laws_eqInt64SS.f k bt226.1 t217).bind fun t230 => (if t230 = true then (laws_FnExactShiftBag.j0 k l0 t217 t220 t221 bt226.1 bt226.2 (bt226.2 != t220) a1_0 a1_1) else (laws_FnExactShiftBag.j0 k l0 t217 t220 t221 bt226.1 bt226.2 true a1_0 a1_1)))) = some r := H
    have A10 := Aside0.mk A100
    clear A100
    replace H := Option.bind_eq_some_iff.mp H
    obtain ⟨⟨t226, t229⟩, A110, H⟩ := H
    replace H : ((laws_eqInt64SS.f k t226 t217).bind fun t230 => (if t230 = true then (laws_FnExactShiftBag.j0 k l0 t217 t220 t221 t226 t229 (t229 != t220) a1_0 a1_1) else (laws_FnExactShiftBag.j0 k l0 t217 t220 t221 t226 t229 true a1_0 a1_1))) = some r := H
    have A11 := Aside0.mk A110
    clear A110
    have HC12 := Aside0.mk H
    clear H
    go_enter Try.func10, Try.ntmps10
    try go_wp2_with (first | ((with_reducible refine gate_dst (N := 3) rfl ?_); refine box_event ?hg (N := 3) ?hd (cs := #[.int .i8 a1_0, .int .i8 a1_1]) (t := 43) ?hr ?_; (case hd => rfl); (case hg => rfl); (case hr => first | (go_simp; done) | (go_simp; rfl)); intro gb210 hg w13 hbox hb; have n0_ := Aside0.mk (below_step (by repeat (first | (with_reducible first | exact HB.out | apply below_alloc | apply pw_below_drewN | apply below_drew1) | exact HB.out)) hb); have n1_ := Aside0.mk (hbox); have n2_ := Aside0.mk ((by rw [hg]; exact (below_size (by repeat (first | (with_reducible first | exact HB.out | apply below_alloc | apply pw_below_drewN | apply below_drew1) | exact HB.out))) : w.heap.size ≤ gb210)); have n3_ := Aside0.mk ((by rw [hg]; exact (below_size (by repeat (first | (with_reducible first | exact HB.out | apply below_alloc | apply pw_below_drewN | apply below_drew1) | exact HB.out))) : w.heap.size ≤ gb210)); clear HB; have HB := n0_; have BK210 := n1_; have GW210 := n2_; have GE210 := n3_; clear n0_ n1_ n2_ n3_; clear hb hbox hg) | ((with_reducible refine gate_callee (f := 19) rfl ?_); refine goesL_ (some 18) rfl rfl Try.func19 (by kernel_rfl) rfl #[.slice A0 l0.length c0, .int .i64 1048576] rfl (by (try simp only [List.map_toArray, List.map_cons, List.map_nil]); first | done | rfl | (simp only [List.length_drop, List.length_take]; rfl)) ?_; (with_reducible refine (laws_szInt64SS.calls k _ _ l0 1048576 t211 _ ?side1 ?side2 A3.out).mono ?_); (case side1 => repeat (first | exact (Kd.C_below HR0.out HB.out) | (with_reducible refine Kd.C_alloc ?_ _) | (with_reducible refine Kd.C_drewN ?_ _) | (with_reducible refine Kd.C_drew ?_))); (case side2 => exact HC0.out); rintro e w' ⟨rfl, ⟨nd, rfl⟩⟩; refine ⟨_, rfl, ?_⟩))
    (try (rw [drewN_self w13]; generalize hq_ : World.drewN w13 _ = w13; have n0_ : Aside0 (w13.heap[gb210]? = some (.cells #[.int .i8 a1_0, .int .i8 a1_1] 43 (0, 0))) := ⟨by rw [← hq_]; exact (by (with_reducible repeat (first | refine blk_drewN ?_ _ | refine blk_drew ?_ | refine blk_alloc ?_ _)); exact BK210.out)⟩; have n1_ : Aside0 (Below w.heap.size w w13) := ⟨by rw [← hq_]; exact (by repeat (first | (with_reducible first | exact HB.out | apply below_alloc | apply pw_below_drewN | apply below_drew1 | refine below_set ?_ GE210.out) | exact HB.out))⟩; clear BK210 HB hq_; have BK210 := n0_; have HB := n1_; clear n0_ n1_))
    have n0_ := Aside0.mk (blk_drew BK210.out)
    have n1_ := Aside0.mk (below_drew1 HB.out)
    clear BK210
    clear HB
    have BK210 := n0_
    have HB := n1_
    clear n0_ n1_
    refine start_ (n := 10) (S := fun w' => w'.cell? ⟨gb210, 0, none⟩ = some (.int .i8 a1_0) ∧ w'.cell? ⟨gb210, 1, none⟩ = some (.int .i8 a1_1)) (ds := []) #[false, false, false, false, false, false, false, false, false, false] (by kernel_rfl) rfl rfl ⟨(blk_cell BK210.out 0).trans rfl, (blk_cell BK210.out 1).trans rfl⟩ (fun hHeld => ?_); refine with_tabW laws_FnExactShiftBag.tab5 laws_FnExactShiftBag.bits5 (fun HT_ HW_ => ?_)
    generalize w13.drew = w14 at BK210 HB hHeld ⊢
    refine pure_ (i := 0) (N := some 22) (v := ?_) (a' := ?_) #[true, false, false, false, false, false, false, false, false, false] rfl rfl (any_of HT_.out (by kernel_rfl)) (fun _ _ _ h => h) (Or.inl ⟨by rfl, ?_⟩) ?_ ?_
    rotate_left
    · intro w'
      go_simp
      with_reducible rfl
    rotate_left
    · simp only [Act.put, List.setIfInBounds_toArray, List.set_cons_zero, List.set_cons_succ, i64_w, i32_w]
      rfl
    refine take_ (i := 2) (N := some 24) (v := ?_) (a' := ?_) #[true, false, true, false, false, false, false, false, false, false] rfl rfl (take_ofW HT_.out HW_.out (by kernel_rfl)) (fun _ _ _ h => h) (Or.inl ⟨by rfl, ?_⟩) hHeld ?_ ?_
    rotate_left
    · rintro w' ⟨s0, s1⟩
      go_simp
      with_reducible rfl
    rotate_left
    · simp only [Act.put, List.setIfInBounds_toArray, List.set_cons_zero, List.set_cons_succ, i64_w, i32_w]
      rfl
    refine one_ (i := 1) (N := some 23) #[true, true, true, false, false, false, false, false, false, false] rfl rfl (one_of HT_.out (by kernel_rfl)) (by decide) (fun K hK => ?_)
    refine goes_ Try.func21 (by kernel_rfl) rfl #[.slice A0 l0.length c0] (by rfl) rfl rfl (by (try simp only [List.map_toArray, List.map_cons, List.map_nil]); first | done | rfl | (simp only [List.length_drop, List.length_take]; rfl)) ?_
    with_reducible refine (laws_toInt64SS.calls k _ _ l0 t212 _ ?side1 ?side2 A6.out).mono ?_
    (case side1 => repeat (first | exact (Kd.C_below HR0.out HB.out) | (with_reducible refine Kd.C_alloc ?_ _) | (with_reducible refine Kd.C_drewN ?_ _) | (with_reducible refine Kd.C_drew ?_)))
    (case side2 => exact HC0.out)
    rintro e w15 ⟨v213, rfl, ho0, hb⟩
    refine ⟨_, rfl, ?_⟩
    have n0_ := Aside0.mk (Kd.S_lower ho0 (below_size (by repeat (first | (with_reducible first | exact HB.out | apply below_alloc | apply pw_below_drewN | apply below_drew1 | refine below_set ?_ GE210.out) | exact HB.out))))
    have n1_ := Aside0.mk (blk_below (g := gb210) (o := .cells #[.int .i8 a1_0, .int .i8 a1_1] 43 (0, 0)) (by (with_reducible repeat (first | refine blk_drewN ?_ _ | refine blk_drew ?_ | refine blk_alloc ?_ _)); exact BK210.out) hb)
    have n2_ := Aside0.mk (below_step (by repeat (first | (with_reducible first | exact HB.out | apply below_alloc | apply pw_below_drewN | apply below_drew1 | refine below_set ?_ GE210.out) | exact HB.out)) hb)
    clear BK210
    clear HB
    have HO214 := n0_
    have BK210 := n1_
    have HB := n2_
    clear n0_ n1_ n2_
    (try clear hb)
    (try clear hb2)
    (try clear hk)
    (try clear hi)
    (try clear ho0)
    refine hK.out _ _ ⟨(blk_cell BK210.out 0).trans rfl, (blk_cell BK210.out 1).trans rfl⟩ (fun hHeld => ?_)
    clear hK K
    refine norm_ (a' := ?_) ?_ ?_
    rotate_left
    · show Act.put _ (some 23) _ = _
      simp only [Act.put, List.setIfInBounds_toArray, List.set_cons_zero, List.set_cons_succ, i64_w, i32_w]
      rfl
    refine one_ (i := 3) (N := some 25) #[true, true, true, true, false, false, false, false, false, false] rfl rfl (one_of HT_.out (by kernel_rfl)) (by decide) (fun K hK => ?_)
    refine goes_ Try.func35 (by kernel_rfl) rfl #[.agg #[.int .i8 a1_0, .int .i8 a1_1]] (by rfl) rfl rfl (by (try simp only [List.map_toArray, List.map_cons, List.map_nil]); first | done | rfl | (simp only [List.length_drop, List.length_take]; rfl)) ?_
    with_reducible refine (laws_toShift.calls a1_0 a1_1 t215 t216 _ A7.out).mono ?_
    rintro e w16 ⟨rfl, hb⟩
    refine ⟨_, rfl, ?_⟩
    have n0_ := Aside0.mk (Kd.S_below (by (with_reducible repeat (first | apply Kd.S_alloc | apply Kd.S_drewN | apply Kd.S_drew)); exact HO214.out) hb)
    have n1_ := Aside0.mk (blk_below (g := gb210) (o := .cells #[.int .i8 a1_0, .int .i8 a1_1] 43 (0, 0)) (by (with_reducible repeat (first | refine blk_drewN ?_ _ | refine blk_drew ?_ | refine blk_alloc ?_ _)); exact BK210.out) hb)
    have n2_ := Aside0.mk (below_step (by repeat (first | (with_reducible first | exact HB.out | apply below_alloc | apply pw_below_drewN | apply below_drew1 | refine below_set ?_ GE210.out) | exact HB.out)) hb)
    clear HO214
    clear BK210
    clear HB
    have HO214 := n0_
    have BK210 := n1_
    have HB := n2_
    clear n0_ n1_ n2_
    (try clear hb)
    (try clear hb2)
    (try clear hk)
    (try clear hi)
    obtain ⟨Ao17, co17, eo17⟩ := Kd.S_slice HO214.out
    (first | subst eo17 | (injection eo17 with f1_ f2_ f3_; have f4_ := f1_.symm; have f5_ := f3_.symm; clear f1_ f2_ f3_; subst f4_; subst f5_))
    refine hK.out _ _ ⟨(blk_cell BK210.out 0).trans rfl, (blk_cell BK210.out 1).trans rfl⟩ (fun hHeld => ?_)
    clear hK K
    refine norm_ (a' := ?_) ?_ ?_
    rotate_left
    · show Act.put _ (some 25) _ = _
      simp only [Act.put, List.setIfInBounds_toArray, List.set_cons_zero, List.set_cons_succ, i64_w, i32_w]
      rfl
    refine one_ (i := 4) (N := some 26) #[true, true, true, true, true, false, false, false, false, false] rfl rfl (one_of HT_.out (by kernel_rfl)) (by decide) (fun K hK => ?_)
    refine goes_ Try.func34 (by kernel_rfl) rfl #[.slice Ao17 t212.length co17, .agg #[.int .i8 t215, .int .i8 t216]] (by rfl) rfl rfl (by (try simp only [List.map_toArray, List.map_cons, List.map_nil]); first | done | rfl | (simp only [List.length_drop, List.length_take]; rfl)) ?_
    with_reducible refine (spec_ShiftBag.calls k _ _ t212 t215 t216 t217 t220 _ ?side1 ?side2 A8.out).mono ?_
    (case side1 => repeat (first | exact (Kd.S_reads' HO214.out).2.2 | (with_reducible refine Kd.C_alloc ?_ _) | (with_reducible refine Kd.C_drewN ?_ _) | (with_reducible refine Kd.C_drew ?_)))
    (case side2 => exact (Kd.S_reads' HO214.out).2.1)
    rintro e w18 ⟨v218, rfl, ho0, hb⟩
    refine ⟨_, rfl, ?_⟩
    have n0_ := Aside0.mk (Kd.S_elder' (by (with_reducible repeat (first | apply Kd.S_alloc | apply Kd.S_drewN | apply Kd.S_drew)); exact HO214.out) (Kd.S_base ho0) hb)
    have n1_ := Aside0.mk (Kd.S_lower (Kd.S_new' ho0 (Kd.S_lt (by (with_reducible repeat (first | apply Kd.S_alloc | apply Kd.S_drewN | apply Kd.S_drew)); exact HO214.out))) (below_size (by repeat (first | (with_reducible first | exact HB.out | apply below_alloc | apply pw_below_drewN | apply below_drew1 | refine below_set ?_ GE210.out) | exact HB.out))))
    have n2_ := Aside0.mk (blk_below (g := gb210) (o := .cells #[.int .i8 a1_0, .int .i8 a1_1] 43 (0, 0)) (by (with_reducible repeat (first | refine blk_drewN ?_ _ | refine blk_drew ?_ | refine blk_alloc ?_ _)); exact BK210.out) hb)
    have n3_ := Aside0.mk (below_step (by repeat (first | (with_reducible first | exact HB.out | apply below_alloc | apply pw_below_drewN | apply below_drew1 | refine below_set ?_ GE210.out) | exact HB.out)) hb)
    clear HO214
    clear BK210
    clear HB
    have HO214 := n0_
    have HO219 := n1_
    have BK210 := n2_
    have HB := n3_
    clear n0_ n1_ n2_ n3_
    (try clear hb)
    (try clear hb2)
    (try clear hk)
    (try clear hi)
    (try clear ho0)
    refine hK.out _ _ ⟨(blk_cell BK210.out 0).trans rfl, (blk_cell BK210.out 1).trans rfl⟩ (fun hHeld => ?_)
    clear hK K
    refine norm_ (a' := ?_) ?_ ?_
    rotate_left
    · show Act.put _ (some 26) _ = _
      simp only [Act.put, List.setIfInBounds_toArray, List.set_cons_zero, List.set_cons_succ, i64_w, i32_w]
      rfl
    refine pure_ (i := 5) (N := some 21) (v := ?_) (a' := ?_) #[true, true, true, true, true, true, false, false, false, false] rfl rfl (any_of HT_.out (by kernel_rfl)) (fun _ _ _ h => h) (Or.inl ⟨by rfl, ?_⟩) ?_ ?_
    rotate_left
    · intro w'
      go_simp
      with_reducible rfl
    rotate_left
    · simp only [Act.put, List.setIfInBounds_toArray, List.set_cons_zero, List.set_cons_succ, i64_w, i32_w]
      rfl
    refine pure_ (i := 6) (N := some 27) (v := ?_) (a' := ?_) #[true, true, true, true, true, true, true, false, false, false] rfl rfl (any_of HT_.out (by kernel_rfl)) (fun _ _ _ h => h) (Or.inl ⟨by rfl, ?_⟩) ?_ ?_
    rotate_left
    · intro w'
      go_simp
      with_reducible rfl
    rotate_left
    · simp only [Act.put, List.setIfInBounds_toArray, List.set_cons_zero, List.set_cons_succ, i64_w, i32_w]
      rfl
    refine pure_ (i := 7) (N := some 28) (v := ?_) (a' := ?_) #[true, true, true, true, true, true, true, true, false, false] rfl rfl (any_of HT_.out (by kernel_rfl)) (fun _ _ _ h => h) (Or.inl ⟨by rfl, ?_⟩) ?_ ?_
    rotate_left
    · intro w'
      go_simp
      with_reducible rfl
    rotate_left
    · simp only [Act.put, List.setIfInBounds_toArray, List.set_cons_zero, List.set_cons_succ, i64_w, i32_w]
      rfl
    refine pure_ (i := 8) (N := some 6) (v := ?_) (a' := ?_) #[true, true, true, true, true, true, true, true, true, false] rfl rfl (any_of HT_.out (by kernel_rfl)) (fun _ _ _ h => h) (Or.inl ⟨by rfl, ?_⟩) ?_ ?_
    rotate_left
    · intro w'
      go_simp
      with_reducible rfl
    rotate_left
    · simp only [Act.put, List.setIfInBounds_toArray, List.set_cons_zero, List.set_cons_succ, i64_w, i32_w]
      rfl
    refine pure_ (i := 9) (N := some 7) (v := ?_) (a' := ?_) #[true, true, true, true, true, true, true, true, true, true] rfl rfl (any_of HT_.out (by kernel_rfl)) (fun _ _ _ h => h) (Or.inl ⟨by rfl, ?_⟩) ?_ ?_
    rotate_left
    · intro w'
      go_simp
      with_reducible rfl
    rotate_left
    · simp only [Act.put, List.setIfInBounds_toArray, List.set_cons_zero, List.set_cons_succ, i64_w, i32_w]
      rfl
    refine done_ (done_of HT_.out (by kernel_rfl)) ?_
    go_upto_region 8 with (first | ((with_reducible refine gate_callee (f := 21) rfl ?_); refine goesL_ (some 30) rfl rfl Try.func21 (by kernel_rfl) rfl #[.slice A0 l0.length c0] rfl (by (try simp only [List.map_toArray, List.map_cons, List.map_nil]); first | done | rfl | (simp only [List.length_drop, List.length_take]; rfl)) ?_; (with_reducible refine (laws_toInt64SS.calls k _ _ l0 t221 _ ?side1 ?side2 A9.out).mono ?_); (case side1 => repeat (first | exact (Kd.C_below HR0.out HB.out) | (with_reducible refine Kd.C_alloc ?_ _) | (with_reducible refine Kd.C_drewN ?_ _) | (with_reducible refine Kd.C_drew ?_))); (case side2 => exact HC0.out); rintro e w19 ⟨v222, rfl, ho0, hb⟩; refine ⟨_, rfl, ?_⟩; obtain ⟨N1, hN1⟩ := laws_FnExactShiftBag.age hb; replace ho0 := Kd.S_mono (Kd.S_bound ho0) (ok' := fun k_ => N1 ≤ k_) (fun k_ hk => by have h_ := hk.2.1; omega); have n0_ := Aside0.mk (Kd.S_elder' (laws_FnExactShiftBag.young (by (with_reducible repeat (first | apply Kd.S_alloc | apply Kd.S_drewN | apply Kd.S_drew)); exact HO214.out) hN1) (Kd.S_base ho0) hb); have n1_ := Aside0.mk (Kd.S_elder' (laws_FnExactShiftBag.young (by (with_reducible repeat (first | apply Kd.S_alloc | apply Kd.S_drewN | apply Kd.S_drew)); exact HO219.out) hN1) (Kd.S_base ho0) hb); have n2_ := Aside0.mk (Kd.S_lower (Kd.S_new' (Kd.S_new' ho0 (Kd.S_lt (by (with_reducible repeat (first | apply Kd.S_alloc | apply Kd.S_drewN | apply Kd.S_drew)); exact HO214.out))) (Kd.S_lt (by (with_reducible repeat (first | apply Kd.S_alloc | apply Kd.S_drewN | apply Kd.S_drew)); exact HO219.out))) (below_size (by repeat (first | (with_reducible first | exact HB.out | apply below_alloc | apply pw_below_drewN | apply below_drew1 | refine below_set ?_ GE210.out) | exact HB.out)))); have n3_ := Aside0.mk (blk_below (g := gb210) (o := .cells #[.int .i8 a1_0, .int .i8 a1_1] 43 (0, 0)) (by (with_reducible repeat (first | refine blk_drewN ?_ _ | refine blk_drew ?_ | refine blk_alloc ?_ _)); exact BK210.out) hb); have n4_ := Aside0.mk (below_step (by repeat (first | (with_reducible first | exact HB.out | apply below_alloc | apply pw_below_drewN | apply below_drew1 | refine below_set ?_ GE210.out) | exact HB.out)) hb); clear HO214; clear HO219; clear BK210; clear HB; have HO214 := n0_; have HO219 := n1_; have HO223 := n2_; have BK210 := n3_; have HB := n4_; clear n0_ n1_ n2_ n3_ n4_; (try clear hb); (try clear hb2); (try clear hk); (try clear hi); (try clear ho0); have hcz20_0 : w19.cell? ⟨gb210, 0, none⟩ = some (.int .i8 a1_0) := (blk_cell BK210.out 0).trans rfl; have hcz20_1 : w19.cell? ⟨gb210, 1, none⟩ = some (.int .i8 a1_1) := (blk_cell BK210.out 1).trans rfl; have hfz20_0 := blk_frozen BK210.out 0; have hfz20_1 := blk_frozen BK210.out 1) | ((with_reducible refine gate_callee (f := 35) rfl ?_); refine goesL_ (some 34) rfl rfl Try.func35 (by kernel_rfl) rfl #[.agg #[.int .i8 a1_0, .int .i8 a1_1]] rfl (by (try simp only [List.map_toArray, List.map_cons, List.map_nil]); first | done | rfl | (simp only [List.length_drop, List.length_take]; rfl)) ?_; (with_reducible refine (laws_toShift.calls a1_0 a1_1 t224 t225 _ A10.out).mono ?_); rintro e w21 ⟨rfl, hb⟩; refine ⟨_, rfl, ?_⟩; have n0_ := Aside0.mk (Kd.S_below (by (with_reducible repeat (first | apply Kd.S_alloc | apply Kd.S_drewN | apply Kd.S_drew)); exact HO214.out) hb); have n1_ := Aside0.mk (Kd.S_below (by (with_reducible repeat (first | apply Kd.S_alloc | apply Kd.S_drewN | apply Kd.S_drew)); exact HO219.out) hb); have n2_ := Aside0.mk (Kd.S_below (by (with_reducible repeat (first | apply Kd.S_alloc | apply Kd.S_drewN | apply Kd.S_drew)); exact HO223.out) hb); have n3_ := Aside0.mk (blk_below (g := gb210) (o := .cells #[.int .i8 a1_0, .int .i8 a1_1] 43 (0, 0)) (by (with_reducible repeat (first | refine blk_drewN ?_ _ | refine blk_drew ?_ | refine blk_alloc ?_ _)); exact BK210.out) hb); have n4_ := Aside0.mk (below_step (by repeat (first | (with_reducible first | exact HB.out | apply below_alloc | apply pw_below_drewN | apply below_drew1 | refine below_set ?_ GE210.out) | exact HB.out)) hb); clear HO214; clear HO219; clear HO223; clear BK210; clear HB; have HO214 := n0_; have HO219 := n1_; have HO223 := n2_; have BK210 := n3_; have HB := n4_; clear n0_ n1_ n2_ n3_ n4_; (try clear hb); (try clear hb2); (try clear hk); (try clear hi); obtain ⟨Ao22, co22, eo22⟩ := Kd.S_slice HO223.out; subst eo22) | ((with_reducible refine gate_callee (f := 36) rfl ?_); refine goesL_ (some 35) rfl rfl Try.func36 (by kernel_rfl) rfl #[.slice Ao22 t221.length co22, .agg #[.int .i8 t224, .int .i8 t225]] rfl (by (try simp only [List.map_toArray, List.map_cons, List.map_nil]); first | done | rfl | (simp only [List.length_drop, List.length_take]; rfl)) ?_; (with_reducible refine (impl_ShiftBag.calls k _ _ t221 t224 t225 t226 t229 _ ?side1 ?side2 A11.out).mono ?_); (case side1 => repeat (first | exact (Kd.S_reads' HO223.out).2.2 | (with_reducible refine Kd.C_alloc ?_ _) | (with_reducible refine Kd.C_drewN ?_ _) | (with_reducible refine Kd.C_drew ?_))); (case side2 => exact (Kd.S_reads' HO223.out).2.1); rintro e w23 ⟨v227, rfl, ho0, hb⟩; refine ⟨_, rfl, ?_⟩; obtain ⟨N2, hN2⟩ := laws_FnExactShiftBag.age hb; replace ho0 := Kd.S_mono (Kd.S_bound ho0) (ok' := fun k_ => N2 ≤ k_) (fun k_ hk => by have h_ := hk.2.1; omega); have n0_ := Aside0.mk (Kd.S_elder' (laws_FnExactShiftBag.young (by (with_reducible repeat (first | apply Kd.S_alloc | apply Kd.S_drewN | apply Kd.S_drew)); exact HO214.out) hN2) (Kd.S_base ho0) hb); have n1_ := Aside0.mk (Kd.S_elder' (laws_FnExactShiftBag.young (by (with_reducible repeat (first | apply Kd.S_alloc | apply Kd.S_drewN | apply Kd.S_drew)); exact HO219.out) hN2) (Kd.S_base ho0) hb); have n2_ := Aside0.mk (Kd.S_elder' (laws_FnExactShiftBag.young (by (with_reducible repeat (first | apply Kd.S_alloc | apply Kd.S_drewN | apply Kd.S_drew)); exact HO223.out) hN2) (Kd.S_base ho0) hb); have n3_ := Aside0.mk (Kd.S_lower (Kd.S_new' (Kd.S_new' (Kd.S_new' ho0 (Kd.S_lt (by (with_reducible repeat (first | apply Kd.S_alloc | apply Kd.S_drewN | apply Kd.S_drew)); exact HO214.out))) (Kd.S_lt (by (with_reducible repeat (first | apply Kd.S_alloc | apply Kd.S_drewN | apply Kd.S_drew)); exact HO219.out))) (Kd.S_lt (by (with_reducible repeat (first | apply Kd.S_alloc | apply Kd.S_drewN | apply Kd.S_drew)); exact HO223.out))) (below_size (by repeat (first | (with_reducible first | exact HB.out | apply below_alloc | apply pw_below_drewN | apply below_drew1 | refine below_set ?_ GE210.out) | exact HB.out)))); have n4_ := Aside0.mk (blk_below (g := gb210) (o := .cells #[.int .i8 a1_0, .int .i8 a1_1] 43 (0, 0)) (by (with_reducible repeat (first | refine blk_drewN ?_ _ | refine blk_drew ?_ | refine blk_alloc ?_ _)); exact BK210.out) hb); have n5_ := Aside0.mk (below_step (by repeat (first | (with_reducible first | exact HB.out | apply below_alloc | apply pw_below_drewN | apply below_drew1 | refine below_set ?_ GE210.out) | exact HB.out)) hb); clear HO214; clear HO219; clear HO223; clear BK210; clear HB; have HO214 := n0_; have HO219 := n1_; have HO223 := n2_; have HO228 := n3_; have BK210 := n4_; have HB := n5_; clear n0_ n1_ n2_ n3_ n4_ n5_; (try clear hb); (try clear hb2); (try clear hk); (try clear hi); (try clear ho0)))
    (try simp only [Act.put, List.setIfInBounds_toArray, List.set_cons_zero, List.set_cons_succ])
    go_cut [46] (fun v46 wc => ∃ (kq : Nat) (x46_11 : Bool), v46 = .bool x46_11 ∧ Aside0 (laws_FnExactShiftBag.j0 kq l0 t217 t220 t221 t226 t229 x46_11 a1_0 a1_1 = some r) ∧ Aside0 (kq ≤ k) ∧ Aside0 (Kd.S (Kd.slice 2 (Kd.int .i64)) 81 wc w.heap.size (fun k_ => (some k_ ≠ ((.slice Ao22 t221.length co22) : Value).ownBlock ∧ some k_ ≠ (v227 : Value).ownBlock) ∧ (k_ < N1 ∧ k_ < N2)) v218 t217) ∧ Aside0 (Kd.S (Kd.slice 2 (Kd.int .i64)) 81 wc w.heap.size (fun k_ => (some k_ ≠ (v218 : Value).ownBlock ∧ some k_ ≠ (v227 : Value).ownBlock) ∧ (N1 ≤ k_ ∧ k_ < N2)) (.slice Ao22 t221.length co22) t221) ∧ Aside0 (Kd.S (Kd.slice 2 (Kd.int .i64)) 81 wc w.heap.size (fun k_ => (some k_ ≠ (v218 : Value).ownBlock ∧ some k_ ≠ ((.slice Ao22 t221.length co22) : Value).ownBlock) ∧ (N2 ≤ k_)) v227 t226) ∧ Aside0 (wc.heap[gb210]? = some (.cells #[.int .i8 a1_0, .int .i8 a1_1] 43 (0, 0))) ∧ Aside0 (Below w.heap.size w wc))
    case first =>
      have H := HC12.out
      clear HC12
      replace H := Option.bind_eq_some_iff.mp H
      obtain ⟨t230, A240, H⟩ := H
      replace H : (if t230 = true then (laws_FnExactShiftBag.j0 k l0 t217 t220 t221 t226 t229 (t229 != t220) a1_0 a1_1) else (laws_FnExactShiftBag.j0 k l0 t217 t220 t221 t226 t229 true a1_0 a1_1)) = some r := H
      have A24 := Aside0.mk A240
      clear A240
      by_cases c25 : t230 = true
      · subst c25
        have H1 : (laws_FnExactShiftBag.j0 k l0 t217 t220 t221 t226 t229 (t229 != t220) a1_0 a1_1) = some r := by rw [if_pos rfl] at H; exact H
        clear H
        have H := H1
        clear H1
        have H' := Aside0.mk H
        clear H
        obtain ⟨Ao26, co26, eo26⟩ := Kd.S_slice HO228.out
        subst eo26
        obtain ⟨Ao27, co27, eo27⟩ := Kd.S_slice HO219.out
        subst eo27
        go_wp2_with (first | ((with_reducible refine gate_callee (f := 23) rfl ?_); refine goesL_ (some 40) rfl rfl Try.func23 (by kernel_rfl) rfl #[.slice Ao26 t226.length co26, .slice Ao27 t217.length co27] rfl (by (try simp only [List.map_toArray, List.map_cons, List.map_nil]); first | done | rfl | (simp only [List.length_drop, List.length_take]; rfl)) ?_; (with_reducible refine (laws_eqInt64SS.calls k _ _ t226 _ _ t217 true _ ?side1 ?side2 ?side3 ?side4 A24.out).mono ?_); (case side1 => repeat (first | exact (Kd.S_reads' HO228.out).2.2 | (with_reducible refine Kd.C_alloc ?_ _) | (with_reducible refine Kd.C_drewN ?_ _) | (with_reducible refine Kd.C_drew ?_))); (case side2 => exact (Kd.S_reads' HO228.out).2.1); (case side3 => repeat (first | exact (Kd.S_reads' HO219.out).2.2 | (with_reducible refine Kd.C_alloc ?_ _) | (with_reducible refine Kd.C_drewN ?_ _) | (with_reducible refine Kd.C_drew ?_))); (case side4 => exact (Kd.S_reads' HO219.out).2.1); rintro e w' ⟨rfl, ⟨nd, rfl⟩⟩; refine ⟨_, rfl, ?_⟩))
        go_meet
        case rel => exact ⟨_, ((t229 != t220)), (by first | rfl | (simp; done) | (simp [*]; done)), H', ⟨by first | omega | exact Nat.le_refl _⟩, ⟨by (with_reducible repeat (first | apply Kd.S_alloc | apply Kd.S_drewN | apply Kd.S_drew)); exact Kd.S_mono HO219.out (fun k_ hk => by ((repeat' apply And.intro) <;> (first | trivial | exact (hk) | exact (hk).1 | exact (hk).2 | exact (hk).1.1 | exact (hk).1.2 | exact (hk).2.1 | exact (hk).2.2 | exact (hk).1.1.1 | exact (hk).1.1.2 | exact (hk).1.2.1 | exact (hk).1.2.2 | exact (hk).2.1.1 | exact (hk).2.1.2 | exact (hk).2.2.1 | exact (hk).2.2.2 | exact (hk).1.1.1.1 | exact (hk).1.1.1.2 | exact (hk).1.1.2.1 | exact (hk).1.1.2.2 | exact (hk).1.2.1.1 | exact (hk).1.2.1.2 | exact (hk).1.2.2.1 | exact (hk).1.2.2.2 | exact (hk).2.1.1.1 | exact (hk).2.1.1.2 | exact (hk).2.1.2.1 | exact (hk).2.1.2.2 | exact (hk).2.2.1.1 | exact (hk).2.2.1.2 | exact (hk).2.2.2.1 | exact (hk).2.2.2.2 | exact (hk).1.1.1.1.1 | exact (hk).1.1.1.1.2 | exact (hk).1.1.1.2.1 | exact (hk).1.1.1.2.2 | exact (hk).1.1.2.1.1 | exact (hk).1.1.2.1.2 | exact (hk).1.1.2.2.1 | exact (hk).1.1.2.2.2 | exact (hk).1.2.1.1.1 | exact (hk).1.2.1.1.2 | exact (hk).1.2.1.2.1 | exact (hk).1.2.1.2.2 | exact (hk).1.2.2.1.1 | exact (hk).1.2.2.1.2 | exact (hk).1.2.2.2.1 | exact (hk).1.2.2.2.2 | exact (hk).2.1.1.1.1 | exact (hk).2.1.1.1.2 | exact (hk).2.1.1.2.1 | exact (hk).2.1.1.2.2 | exact (hk).2.1.2.1.1 | exact (hk).2.1.2.1.2 | exact (hk).2.1.2.2.1 | exact (hk).2.1.2.2.2 | exact (hk).2.2.1.1.1 | exact (hk).2.2.1.1.2 | exact (hk).2.2.1.2.1 | exact (hk).2.2.1.2.2 | exact (hk).2.2.2.1.1 | exact (hk).2.2.2.1.2 | exact (hk).2.2.2.2.1 | exact (hk).2.2.2.2.2 | exact (hk).1.1.1.1.1.1 | exact (hk).1.1.1.1.1.2 | exact (hk).1.1.1.1.2.1 | exact (hk).1.1.1.1.2.2 | exact (hk).1.1.1.2.1.1 | exact (hk).1.1.1.2.1.2 | exact (hk).1.1.1.2.2.1 | exact (hk).1.1.1.2.2.2 | exact (hk).1.1.1.1.1.1.1 | exact (hk).1.1.1.1.1.1.2 | exact (hk).1.1.1.1.1.2.1 | exact (hk).1.1.1.1.1.2.2 | exact (hk).1.1.1.1.2.1.1 | exact (hk).1.1.1.1.2.1.2 | exact (hk).1.1.1.1.2.2.1 | exact (hk).1.1.1.1.2.2.2 | exact (hk).1.1.1.1.1.1.1.1 | exact (hk).1.1.1.1.1.1.1.2 | exact (hk).1.1.1.1.1.1.2.1 | exact (hk).1.1.1.1.1.1.2.2 | exact (hk).1.1.1.1.1.2.1.1 | exact (hk).1.1.1.1.1.2.1.2 | exact (hk).1.1.1.1.1.2.2.1 | exact (hk).1.1.1.1.1.2.2.2 | exact (hk).1.1.1.1.1.1.1.1.1 | exact (hk).1.1.1.1.1.1.1.1.2 | exact (hk).1.1.1.1.1.1.1.2.1 | exact (hk).1.1.1.1.1.1.1.2.2 | exact (hk).1.1.1.1.1.1.2.1.1 | exact (hk).1.1.1.1.1.1.2.1.2 | exact (hk).1.1.1.1.1.1.2.2.1 | exact (hk).1.1.1.1.1.1.2.2.2 | exact (hk).1.1.1.1.1.1.1.1.1.1 | exact (hk).1.1.1.1.1.1.1.1.1.2 | exact (hk).1.1.1.1.1.1.1.1.2.1 | exact (hk).1.1.1.1.1.1.1.1.2.2 | exact (hk).1.1.1.1.1.1.1.2.1.1 | exact (hk).1.1.1.1.1.1.1.2.1.2 | exact (hk).1.1.1.1.1.1.1.2.2.1 | exact (hk).1.1.1.1.1.1.1.2.2.2 | exact (hk).1.1.1.1.1.1.1.1.1.1.1 | exact (hk).1.1.1.1.1.1.1.1.1.1.2 | exact (hk).1.1.1.1.1.1.1.1.1.2.1 | exact (hk).1.1.1.1.1.1.1.1.1.2.2 | exact (hk).1.1.1.1.1.1.1.1.2.1.1 | exact (hk).1.1.1.1.1.1.1.1.2.1.2 | exact (hk).1.1.1.1.1.1.1.1.2.2.1 | exact (hk).1.1.1.1.1.1.1.1.2.2.2)))⟩, ⟨by (with_reducible repeat (first | apply Kd.S_alloc | apply Kd.S_drewN | apply Kd.S_drew)); exact Kd.S_mono HO223.out (fun k_ hk => by ((repeat' apply And.intro) <;> (first | trivial | exact (hk) | exact (hk).1 | exact (hk).2 | exact (hk).1.1 | exact (hk).1.2 | exact (hk).2.1 | exact (hk).2.2 | exact (hk).1.1.1 | exact (hk).1.1.2 | exact (hk).1.2.1 | exact (hk).1.2.2 | exact (hk).2.1.1 | exact (hk).2.1.2 | exact (hk).2.2.1 | exact (hk).2.2.2 | exact (hk).1.1.1.1 | exact (hk).1.1.1.2 | exact (hk).1.1.2.1 | exact (hk).1.1.2.2 | exact (hk).1.2.1.1 | exact (hk).1.2.1.2 | exact (hk).1.2.2.1 | exact (hk).1.2.2.2 | exact (hk).2.1.1.1 | exact (hk).2.1.1.2 | exact (hk).2.1.2.1 | exact (hk).2.1.2.2 | exact (hk).2.2.1.1 | exact (hk).2.2.1.2 | exact (hk).2.2.2.1 | exact (hk).2.2.2.2 | exact (hk).1.1.1.1.1 | exact (hk).1.1.1.1.2 | exact (hk).1.1.1.2.1 | exact (hk).1.1.1.2.2 | exact (hk).1.1.2.1.1 | exact (hk).1.1.2.1.2 | exact (hk).1.1.2.2.1 | exact (hk).1.1.2.2.2 | exact (hk).1.2.1.1.1 | exact (hk).1.2.1.1.2 | exact (hk).1.2.1.2.1 | exact (hk).1.2.1.2.2 | exact (hk).1.2.2.1.1 | exact (hk).1.2.2.1.2 | exact (hk).1.2.2.2.1 | exact (hk).1.2.2.2.2 | exact (hk).2.1.1.1.1 | exact (hk).2.1.1.1.2 | exact (hk).2.1.1.2.1 | exact (hk).2.1.1.2.2 | exact (hk).2.1.2.1.1 | exact (hk).2.1.2.1.2 | exact (hk).2.1.2.2.1 | exact (hk).2.1.2.2.2 | exact (hk).2.2.1.1.1 | exact (hk).2.2.1.1.2 | exact (hk).2.2.1.2.1 | exact (hk).2.2.1.2.2 | exact (hk).2.2.2.1.1 | exact (hk).2.2.2.1.2 | exact (hk).2.2.2.2.1 | exact (hk).2.2.2.2.2 | exact (hk).1.1.1.1.1.1 | exact (hk).1.1.1.1.1.2 | exact (hk).1.1.1.1.2.1 | exact (hk).1.1.1.1.2.2 | exact (hk).1.1.1.2.1.1 | exact (hk).1.1.1.2.1.2 | exact (hk).1.1.1.2.2.1 | exact (hk).1.1.1.2.2.2 | exact (hk).1.1.1.1.1.1.1 | exact (hk).1.1.1.1.1.1.2 | exact (hk).1.1.1.1.1.2.1 | exact (hk).1.1.1.1.1.2.2 | exact (hk).1.1.1.1.2.1.1 | exact (hk).1.1.1.1.2.1.2 | exact (hk).1.1.1.1.2.2.1 | exact (hk).1.1.1.1.2.2.2 | exact (hk).1.1.1.1.1.1.1.1 | exact (hk).1.1.1.1.1.1.1.2 | exact (hk).1.1.1.1.1.1.2.1 | exact (hk).1.1.1.1.1.1.2.2 | exact (hk).1.1.1.1.1.2.1.1 | exact (hk).1.1.1.1.1.2.1.2 | exact (hk).1.1.1.1.1.2.2.1 | exact (hk).1.1.1.1.1.2.2.2 | exact (hk).1.1.1.1.1.1.1.1.1 | exact (hk).1.1.1.1.1.1.1.1.2 | exact (hk).1.1.1.1.1.1.1.2.1 | exact (hk).1.1.1.1.1.1.1.2.2 | exact (hk).1.1.1.1.1.1.2.1.1 | exact (hk).1.1.1.1.1.1.2.1.2 | exact (hk).1.1.1.1.1.1.2.2.1 | exact (hk).1.1.1.1.1.1.2.2.2 | exact (hk).1.1.1.1.1.1.1.1.1.1 | exact (hk).1.1.1.1.1.1.1.1.1.2 | exact (hk).1.1.1.1.1.1.1.1.2.1 | exact (hk).1.1.1.1.1.1.1.1.2.2 | exact (hk).1.1.1.1.1.1.1.2.1.1 | exact (hk).1.1.1.1.1.1.1.2.1.2 | exact (hk).1.1.1.1.1.1.1.2.2.1 | exact (hk).1.1.1.1.1.1.1.2.2.2 | exact (hk).1.1.1.1.1.1.1.1.1.1.1 | exact (hk).1.1.1.1.1.1.1.1.1.1.2 | exact (hk).1.1.1.1.1.1.1.1.1.2.1 | exact (hk).1.1.1.1.1.1.1.1.1.2.2 | exact (hk).1.1.1.1.1.1.1.1.2.1.1 | exact (hk).1.1.1.1.1.1.1.1.2.1.2 | exact (hk).1.1.1.1.1.1.1.1.2.2.1 | exact (hk).1.1.1.1.1.1.1.1.2.2.2)))⟩, ⟨by (with_reducible repeat (first | apply Kd.S_alloc | apply Kd.S_drewN | apply Kd.S_drew)); exact Kd.S_mono HO228.out (fun k_ hk => by ((repeat' apply And.intro) <;> (first | trivial | exact (hk) | exact (hk).1 | exact (hk).2 | exact (hk).1.1 | exact (hk).1.2 | exact (hk).2.1 | exact (hk).2.2 | exact (hk).1.1.1 | exact (hk).1.1.2 | exact (hk).1.2.1 | exact (hk).1.2.2 | exact (hk).2.1.1 | exact (hk).2.1.2 | exact (hk).2.2.1 | exact (hk).2.2.2 | exact (hk).1.1.1.1 | exact (hk).1.1.1.2 | exact (hk).1.1.2.1 | exact (hk).1.1.2.2 | exact (hk).1.2.1.1 | exact (hk).1.2.1.2 | exact (hk).1.2.2.1 | exact (hk).1.2.2.2 | exact (hk).2.1.1.1 | exact (hk).2.1.1.2 | exact (hk).2.1.2.1 | exact (hk).2.1.2.2 | exact (hk).2.2.1.1 | exact (hk).2.2.1.2 | exact (hk).2.2.2.1 | exact (hk).2.2.2.2 | exact (hk).1.1.1.1.1 | exact (hk).1.1.1.1.2 | exact (hk).1.1.1.2.1 | exact (hk).1.1.1.2.2 | exact (hk).1.1.2.1.1 | exact (hk).1.1.2.1.2 | exact (hk).1.1.2.2.1 | exact (hk).1.1.2.2.2 | exact (hk).1.2.1.1.1 | exact (hk).1.2.1.1.2 | exact (hk).1.2.1.2.1 | exact (hk).1.2.1.2.2 | exact (hk).1.2.2.1.1 | exact (hk).1.2.2.1.2 | exact (hk).1.2.2.2.1 | exact (hk).1.2.2.2.2 | exact (hk).2.1.1.1.1 | exact (hk).2.1.1.1.2 | exact (hk).2.1.1.2.1 | exact (hk).2.1.1.2.2 | exact (hk).2.1.2.1.1 | exact (hk).2.1.2.1.2 | exact (hk).2.1.2.2.1 | exact (hk).2.1.2.2.2 | exact (hk).2.2.1.1.1 | exact (hk).2.2.1.1.2 | exact (hk).2.2.1.2.1 | exact (hk).2.2.1.2.2 | exact (hk).2.2.2.1.1 | exact (hk).2.2.2.1.2 | exact (hk).2.2.2.2.1 | exact (hk).2.2.2.2.2 | exact (hk).1.1.1.1.1.1 | exact (hk).1.1.1.1.1.2 | exact (hk).1.1.1.1.2.1 | exact (hk).1.1.1.1.2.2 | exact (hk).1.1.1.2.1.1 | exact (hk).1.1.1.2.1.2 | exact (hk).1.1.1.2.2.1 | exact (hk).1.1.1.2.2.2 | exact (hk).1.1.1.1.1.1.1 | exact (hk).1.1.1.1.1.1.2 | exact (hk).1.1.1.1.1.2.1 | exact (hk).1.1.1.1.1.2.2 | exact (hk).1.1.1.1.2.1.1 | exact (hk).1.1.1.1.2.1.2 | exact (hk).1.1.1.1.2.2.1 | exact (hk).1.1.1.1.2.2.2 | exact (hk).1.1.1.1.1.1.1.1 | exact (hk).1.1.1.1.1.1.1.2 | exact (hk).1.1.1.1.1.1.2.1 | exact (hk).1.1.1.1.1.1.2.2 | exact (hk).1.1.1.1.1.2.1.1 | exact (hk).1.1.1.1.1.2.1.2 | exact (hk).1.1.1.1.1.2.2.1 | exact (hk).1.1.1.1.1.2.2.2 | exact (hk).1.1.1.1.1.1.1.1.1 | exact (hk).1.1.1.1.1.1.1.1.2 | exact (hk).1.1.1.1.1.1.1.2.1 | exact (hk).1.1.1.1.1.1.1.2.2 | exact (hk).1.1.1.1.1.1.2.1.1 | exact (hk).1.1.1.1.1.1.2.1.2 | exact (hk).1.1.1.1.1.1.2.2.1 | exact (hk).1.1.1.1.1.1.2.2.2 | exact (hk).1.1.1.1.1.1.1.1.1.1 | exact (hk).1.1.1.1.1.1.1.1.1.2 | exact (hk).1.1.1.1.1.1.1.1.2.1 | exact (hk).1.1.1.1.1.1.1.1.2.2 | exact (hk).1.1.1.1.1.1.1.2.1.1 | exact (hk).1.1.1.1.1.1.1.2.1.2 | exact (hk).1.1.1.1.1.1.1.2.2.1 | exact (hk).1.1.1.1.1.1.1.2.2.2 | exact (hk).1.1.1.1.1.1.1.1.1.1.1 | exact (hk).1.1.1.1.1.1.1.1.1.1.2 | exact (hk).1.1.1.1.1.1.1.1.1.2.1 | exact (hk).1.1.1.1.1.1.1.1.1.2.2 | exact (hk).1.1.1.1.1.1.1.1.2.1.1 | exact (hk).1.1.1.1.1.1.1.1.2.1.2 | exact (hk).1.1.1.1.1.1.1.1.2.2.1 | exact (hk).1.1.1.1.1.1.1.1.2.2.2)))⟩, ⟨by (with_reducible repeat (first | refine blk_drewN ?_ _ | refine blk_drew ?_ | refine blk_alloc ?_ _)); exact BK210.out⟩, ⟨by repeat (first | (with_reducible first | exact HB.out | apply below_alloc | apply pw_below_drewN | apply below_drew1 | refine below_set ?_ GE210.out) | exact HB.out)⟩⟩
      · replace c25 := Bool.eq_false_iff.mpr c25
        subst c25
        have H1 : (laws_FnExactShiftBag.j0 k l0 t217 t220 t221 t226 t229 true a1_0 a1_1) = some r := by rw [if_neg (show ¬ (false = true) by decide)] at H; exact H
        clear H
        have H := H1
        clear H1
        have H' := Aside0.mk H
        clear H
        obtain ⟨Ao28, co28, eo28⟩ := Kd.S_slice HO228.out
        subst eo28
        obtain ⟨Ao29, co29, eo29⟩ := Kd.S_slice HO219.out
        subst eo29
        go_wp2_with (first | ((with_reducible refine gate_callee (f := 23) rfl ?_); refine goesL_ (some 40) rfl rfl Try.func23 (by kernel_rfl) rfl #[.slice Ao28 t226.length co28, .slice Ao29 t217.length co29] rfl (by (try simp only [List.map_toArray, List.map_cons, List.map_nil]); first | done | rfl | (simp only [List.length_drop, List.length_take]; rfl)) ?_; (with_reducible refine (laws_eqInt64SS.calls k _ _ t226 _ _ t217 false _ ?side1 ?side2 ?side3 ?side4 A24.out).mono ?_); (case side1 => repeat (first | exact (Kd.S_reads' HO228.out).2.2 | (with_reducible refine Kd.C_alloc ?_ _) | (with_reducible refine Kd.C_drewN ?_ _) | (with_reducible refine Kd.C_drew ?_))); (case side2 => exact (Kd.S_reads' HO228.out).2.1); (case side3 => repeat (first | exact (Kd.S_reads' HO219.out).2.2 | (with_reducible refine Kd.C_alloc ?_ _) | (with_reducible refine Kd.C_drewN ?_ _) | (with_reducible refine Kd.C_drew ?_))); (case side4 => exact (Kd.S_reads' HO219.out).2.1); rintro e w' ⟨rfl, ⟨nd, rfl⟩⟩; refine ⟨_, rfl, ?_⟩))
        go_meet
        case rel => exact ⟨_, (true), (by first | rfl | (simp; done) | (simp [*]; done)), H', ⟨by first | omega | exact Nat.le_refl _⟩, ⟨by (with_reducible repeat (first | apply Kd.S_alloc | apply Kd.S_drewN | apply Kd.S_drew)); exact Kd.S_mono HO219.out (fun k_ hk => by ((repeat' apply And.intro) <;> (first | trivial | exact (hk) | exact (hk).1 | exact (hk).2 | exact (hk).1.1 | exact (hk).1.2 | exact (hk).2.1 | exact (hk).2.2 | exact (hk).1.1.1 | exact (hk).1.1.2 | exact (hk).1.2.1 | exact (hk).1.2.2 | exact (hk).2.1.1 | exact (hk).2.1.2 | exact (hk).2.2.1 | exact (hk).2.2.2 | exact (hk).1.1.1.1 | exact (hk).1.1.1.2 | exact (hk).1.1.2.1 | exact (hk).1.1.2.2 | exact (hk).1.2.1.1 | exact (hk).1.2.1.2 | exact (hk).1.2.2.1 | exact (hk).1.2.2.2 | exact (hk).2.1.1.1 | exact (hk).2.1.1.2 | exact (hk).2.1.2.1 | exact (hk).2.1.2.2 | exact (hk).2.2.1.1 | exact (hk).2.2.1.2 | exact (hk).2.2.2.1 | exact (hk).2.2.2.2 | exact (hk).1.1.1.1.1 | exact (hk).1.1.1.1.2 | exact (hk).1.1.1.2.1 | exact (hk).1.1.1.2.2 | exact (hk).1.1.2.1.1 | exact (hk).1.1.2.1.2 | exact (hk).1.1.2.2.1 | exact (hk).1.1.2.2.2 | exact (hk).1.2.1.1.1 | exact (hk).1.2.1.1.2 | exact (hk).1.2.1.2.1 | exact (hk).1.2.1.2.2 | exact (hk).1.2.2.1.1 | exact (hk).1.2.2.1.2 | exact (hk).1.2.2.2.1 | exact (hk).1.2.2.2.2 | exact (hk).2.1.1.1.1 | exact (hk).2.1.1.1.2 | exact (hk).2.1.1.2.1 | exact (hk).2.1.1.2.2 | exact (hk).2.1.2.1.1 | exact (hk).2.1.2.1.2 | exact (hk).2.1.2.2.1 | exact (hk).2.1.2.2.2 | exact (hk).2.2.1.1.1 | exact (hk).2.2.1.1.2 | exact (hk).2.2.1.2.1 | exact (hk).2.2.1.2.2 | exact (hk).2.2.2.1.1 | exact (hk).2.2.2.1.2 | exact (hk).2.2.2.2.1 | exact (hk).2.2.2.2.2 | exact (hk).1.1.1.1.1.1 | exact (hk).1.1.1.1.1.2 | exact (hk).1.1.1.1.2.1 | exact (hk).1.1.1.1.2.2 | exact (hk).1.1.1.2.1.1 | exact (hk).1.1.1.2.1.2 | exact (hk).1.1.1.2.2.1 | exact (hk).1.1.1.2.2.2 | exact (hk).1.1.1.1.1.1.1 | exact (hk).1.1.1.1.1.1.2 | exact (hk).1.1.1.1.1.2.1 | exact (hk).1.1.1.1.1.2.2 | exact (hk).1.1.1.1.2.1.1 | exact (hk).1.1.1.1.2.1.2 | exact (hk).1.1.1.1.2.2.1 | exact (hk).1.1.1.1.2.2.2 | exact (hk).1.1.1.1.1.1.1.1 | exact (hk).1.1.1.1.1.1.1.2 | exact (hk).1.1.1.1.1.1.2.1 | exact (hk).1.1.1.1.1.1.2.2 | exact (hk).1.1.1.1.1.2.1.1 | exact (hk).1.1.1.1.1.2.1.2 | exact (hk).1.1.1.1.1.2.2.1 | exact (hk).1.1.1.1.1.2.2.2 | exact (hk).1.1.1.1.1.1.1.1.1 | exact (hk).1.1.1.1.1.1.1.1.2 | exact (hk).1.1.1.1.1.1.1.2.1 | exact (hk).1.1.1.1.1.1.1.2.2 | exact (hk).1.1.1.1.1.1.2.1.1 | exact (hk).1.1.1.1.1.1.2.1.2 | exact (hk).1.1.1.1.1.1.2.2.1 | exact (hk).1.1.1.1.1.1.2.2.2 | exact (hk).1.1.1.1.1.1.1.1.1.1 | exact (hk).1.1.1.1.1.1.1.1.1.2 | exact (hk).1.1.1.1.1.1.1.1.2.1 | exact (hk).1.1.1.1.1.1.1.1.2.2 | exact (hk).1.1.1.1.1.1.1.2.1.1 | exact (hk).1.1.1.1.1.1.1.2.1.2 | exact (hk).1.1.1.1.1.1.1.2.2.1 | exact (hk).1.1.1.1.1.1.1.2.2.2 | exact (hk).1.1.1.1.1.1.1.1.1.1.1 | exact (hk).1.1.1.1.1.1.1.1.1.1.2 | exact (hk).1.1.1.1.1.1.1.1.1.2.1 | exact (hk).1.1.1.1.1.1.1.1.1.2.2 | exact (hk).1.1.1.1.1.1.1.1.2.1.1 | exact (hk).1.1.1.1.1.1.1.1.2.1.2 | exact (hk).1.1.1.1.1.1.1.1.2.2.1 | exact (hk).1.1.1.1.1.1.1.1.2.2.2)))⟩, ⟨by (with_reducible repeat (first | apply Kd.S_alloc | apply Kd.S_drewN | apply Kd.S_drew)); exact Kd.S_mono HO223.out (fun k_ hk => by ((repeat' apply And.intro) <;> (first | trivial | exact (hk) | exact (hk).1 | exact (hk).2 | exact (hk).1.1 | exact (hk).1.2 | exact (hk).2.1 | exact (hk).2.2 | exact (hk).1.1.1 | exact (hk).1.1.2 | exact (hk).1.2.1 | exact (hk).1.2.2 | exact (hk).2.1.1 | exact (hk).2.1.2 | exact (hk).2.2.1 | exact (hk).2.2.2 | exact (hk).1.1.1.1 | exact (hk).1.1.1.2 | exact (hk).1.1.2.1 | exact (hk).1.1.2.2 | exact (hk).1.2.1.1 | exact (hk).1.2.1.2 | exact (hk).1.2.2.1 | exact (hk).1.2.2.2 | exact (hk).2.1.1.1 | exact (hk).2.1.1.2 | exact (hk).2.1.2.1 | exact (hk).2.1.2.2 | exact (hk).2.2.1.1 | exact (hk).2.2.1.2 | exact (hk).2.2.2.1 | exact (hk).2.2.2.2 | exact (hk).1.1.1.1.1 | exact (hk).1.1.1.1.2 | exact (hk).1.1.1.2.1 | exact (hk).1.1.1.2.2 | exact (hk).1.1.2.1.1 | exact (hk).1.1.2.1.2 | exact (hk).1.1.2.2.1 | exact (hk).1.1.2.2.2 | exact (hk).1.2.1.1.1 | exact (hk).1.2.1.1.2 | exact (hk).1.2.1.2.1 | exact (hk).1.2.1.2.2 | exact (hk).1.2.2.1.1 | exact (hk).1.2.2.1.2 | exact (hk).1.2.2.2.1 | exact (hk).1.2.2.2.2 | exact (hk).2.1.1.1.1 | exact (hk).2.1.1.1.2 | exact (hk).2.1.1.2.1 | exact (hk).2.1.1.2.2 | exact (hk).2.1.2.1.1 | exact (hk).2.1.2.1.2 | exact (hk).2.1.2.2.1 | exact (hk).2.1.2.2.2 | exact (hk).2.2.1.1.1 | exact (hk).2.2.1.1.2 | exact (hk).2.2.1.2.1 | exact (hk).2.2.1.2.2 | exact (hk).2.2.2.1.1 | exact (hk).2.2.2.1.2 | exact (hk).2.2.2.2.1 | exact (hk).2.2.2.2.2 | exact (hk).1.1.1.1.1.1 | exact (hk).1.1.1.1.1.2 | exact (hk).1.1.1.1.2.1 | exact (hk).1.1.1.1.2.2 | exact (hk).1.1.1.2.1.1 | exact (hk).1.1.1.2.1.2 | exact (hk).1.1.1.2.2.1 | exact (hk).1.1.1.2.2.2 | exact (hk).1.1.1.1.1.1.1 | exact (hk).1.1.1.1.1.1.2 | exact (hk).1.1.1.1.1.2.1 | exact (hk).1.1.1.1.1.2.2 | exact (hk).1.1.1.1.2.1.1 | exact (hk).1.1.1.1.2.1.2 | exact (hk).1.1.1.1.2.2.1 | exact (hk).1.1.1.1.2.2.2 | exact (hk).1.1.1.1.1.1.1.1 | exact (hk).1.1.1.1.1.1.1.2 | exact (hk).1.1.1.1.1.1.2.1 | exact (hk).1.1.1.1.1.1.2.2 | exact (hk).1.1.1.1.1.2.1.1 | exact (hk).1.1.1.1.1.2.1.2 | exact (hk).1.1.1.1.1.2.2.1 | exact (hk).1.1.1.1.1.2.2.2 | exact (hk).1.1.1.1.1.1.1.1.1 | exact (hk).1.1.1.1.1.1.1.1.2 | exact (hk).1.1.1.1.1.1.1.2.1 | exact (hk).1.1.1.1.1.1.1.2.2 | exact (hk).1.1.1.1.1.1.2.1.1 | exact (hk).1.1.1.1.1.1.2.1.2 | exact (hk).1.1.1.1.1.1.2.2.1 | exact (hk).1.1.1.1.1.1.2.2.2 | exact (hk).1.1.1.1.1.1.1.1.1.1 | exact (hk).1.1.1.1.1.1.1.1.1.2 | exact (hk).1.1.1.1.1.1.1.1.2.1 | exact (hk).1.1.1.1.1.1.1.1.2.2 | exact (hk).1.1.1.1.1.1.1.2.1.1 | exact (hk).1.1.1.1.1.1.1.2.1.2 | exact (hk).1.1.1.1.1.1.1.2.2.1 | exact (hk).1.1.1.1.1.1.1.2.2.2 | exact (hk).1.1.1.1.1.1.1.1.1.1.1 | exact (hk).1.1.1.1.1.1.1.1.1.1.2 | exact (hk).1.1.1.1.1.1.1.1.1.2.1 | exact (hk).1.1.1.1.1.1.1.1.1.2.2 | exact (hk).1.1.1.1.1.1.1.1.2.1.1 | exact (hk).1.1.1.1.1.1.1.1.2.1.2 | exact (hk).1.1.1.1.1.1.1.1.2.2.1 | exact (hk).1.1.1.1.1.1.1.1.2.2.2)))⟩, ⟨by (with_reducible repeat (first | apply Kd.S_alloc | apply Kd.S_drewN | apply Kd.S_drew)); exact Kd.S_mono HO228.out (fun k_ hk => by ((repeat' apply And.intro) <;> (first | trivial | exact (hk) | exact (hk).1 | exact (hk).2 | exact (hk).1.1 | exact (hk).1.2 | exact (hk).2.1 | exact (hk).2.2 | exact (hk).1.1.1 | exact (hk).1.1.2 | exact (hk).1.2.1 | exact (hk).1.2.2 | exact (hk).2.1.1 | exact (hk).2.1.2 | exact (hk).2.2.1 | exact (hk).2.2.2 | exact (hk).1.1.1.1 | exact (hk).1.1.1.2 | exact (hk).1.1.2.1 | exact (hk).1.1.2.2 | exact (hk).1.2.1.1 | exact (hk).1.2.1.2 | exact (hk).1.2.2.1 | exact (hk).1.2.2.2 | exact (hk).2.1.1.1 | exact (hk).2.1.1.2 | exact (hk).2.1.2.1 | exact (hk).2.1.2.2 | exact (hk).2.2.1.1 | exact (hk).2.2.1.2 | exact (hk).2.2.2.1 | exact (hk).2.2.2.2 | exact (hk).1.1.1.1.1 | exact (hk).1.1.1.1.2 | exact (hk).1.1.1.2.1 | exact (hk).1.1.1.2.2 | exact (hk).1.1.2.1.1 | exact (hk).1.1.2.1.2 | exact (hk).1.1.2.2.1 | exact (hk).1.1.2.2.2 | exact (hk).1.2.1.1.1 | exact (hk).1.2.1.1.2 | exact (hk).1.2.1.2.1 | exact (hk).1.2.1.2.2 | exact (hk).1.2.2.1.1 | exact (hk).1.2.2.1.2 | exact (hk).1.2.2.2.1 | exact (hk).1.2.2.2.2 | exact (hk).2.1.1.1.1 | exact (hk).2.1.1.1.2 | exact (hk).2.1.1.2.1 | exact (hk).2.1.1.2.2 | exact (hk).2.1.2.1.1 | exact (hk).2.1.2.1.2 | exact (hk).2.1.2.2.1 | exact (hk).2.1.2.2.2 | exact (hk).2.2.1.1.1 | exact (hk).2.2.1.1.2 | exact (hk).2.2.1.2.1 | exact (hk).2.2.1.2.2 | exact (hk).2.2.2.1.1 | exact (hk).2.2.2.1.2 | exact (hk).2.2.2.2.1 | exact (hk).2.2.2.2.2 | exact (hk).1.1.1.1.1.1 | exact (hk).1.1.1.1.1.2 | exact (hk).1.1.1.1.2.1 | exact (hk).1.1.1.1.2.2 | exact (hk).1.1.1.2.1.1 | exact (hk).1.1.1.2.1.2 | exact (hk).1.1.1.2.2.1 | exact (hk).1.1.1.2.2.2 | exact (hk).1.1.1.1.1.1.1 | exact (hk).1.1.1.1.1.1.2 | exact (hk).1.1.1.1.1.2.1 | exact (hk).1.1.1.1.1.2.2 | exact (hk).1.1.1.1.2.1.1 | exact (hk).1.1.1.1.2.1.2 | exact (hk).1.1.1.1.2.2.1 | exact (hk).1.1.1.1.2.2.2 | exact (hk).1.1.1.1.1.1.1.1 | exact (hk).1.1.1.1.1.1.1.2 | exact (hk).1.1.1.1.1.1.2.1 | exact (hk).1.1.1.1.1.1.2.2 | exact (hk).1.1.1.1.1.2.1.1 | exact (hk).1.1.1.1.1.2.1.2 | exact (hk).1.1.1.1.1.2.2.1 | exact (hk).1.1.1.1.1.2.2.2 | exact (hk).1.1.1.1.1.1.1.1.1 | exact (hk).1.1.1.1.1.1.1.1.2 | exact (hk).1.1.1.1.1.1.1.2.1 | exact (hk).1.1.1.1.1.1.1.2.2 | exact (hk).1.1.1.1.1.1.2.1.1 | exact (hk).1.1.1.1.1.1.2.1.2 | exact (hk).1.1.1.1.1.1.2.2.1 | exact (hk).1.1.1.1.1.1.2.2.2 | exact (hk).1.1.1.1.1.1.1.1.1.1 | exact (hk).1.1.1.1.1.1.1.1.1.2 | exact (hk).1.1.1.1.1.1.1.1.2.1 | exact (hk).1.1.1.1.1.1.1.1.2.2 | exact (hk).1.1.1.1.1.1.1.2.1.1 | exact (hk).1.1.1.1.1.1.1.2.1.2 | exact (hk).1.1.1.1.1.1.1.2.2.1 | exact (hk).1.1.1.1.1.1.1.2.2.2 | exact (hk).1.1.1.1.1.1.1.1.1.1.1 | exact (hk).1.1.1.1.1.1.1.1.1.1.2 | exact (hk).1.1.1.1.1.1.1.1.1.2.1 | exact (hk).1.1.1.1.1.1.1.1.1.2.2 | exact (hk).1.1.1.1.1.1.1.1.2.1.1 | exact (hk).1.1.1.1.1.1.1.1.2.1.2 | exact (hk).1.1.1.1.1.1.1.1.2.2.1 | exact (hk).1.1.1.1.1.1.1.1.2.2.2)))⟩, ⟨by (with_reducible repeat (first | refine blk_drewN ?_ _ | refine blk_drew ?_ | refine blk_alloc ?_ _)); exact BK210.out⟩, ⟨by repeat (first | (with_reducible first | exact HB.out | apply below_alloc | apply pw_below_drewN | apply below_drew1 | refine below_set ?_ GE210.out) | exact HB.out)⟩⟩
    case rest =>
      clear HC12
      try clear c1
      try clear c2
      try clear p2
      try clear c3
      try clear c4
      try clear c4b0
      try clear c10
      try clear c19
      try clear c21
      try clear c23
      try clear c25
      try clear hcz20_0
      try clear hcz20_1
      try clear hfz20_0
      try clear hfz20_1
      obtain ⟨kq, x46_11, rfl, HA, HJ11, HO_6, HO_8, HO_9, BK210, HB⟩ := hcut
      cases kq with
      | zero => exact absurd HA.out (by simp [laws_FnExactShiftBag.j0])
      | succ kj11 =>
        have H := HA.out
        clear HA
        simp only [laws_FnExactShiftBag.j0] at H
        by_cases c30 : x46_11 = true
        · subst c30
          have H1 : (some false) = some r := by rw [if_pos rfl] at H; exact H
          clear H
          have H := H1
          clear H1
          obtain rfl := Option.some.inj H
          go_wp2
          go_ret
          exact ⟨by first | rfl | (simp [errW_none, errW_some] <;> rfl) | (simp [*, errW_none, errW_some] <;> rfl), by repeat (first | (with_reducible first | exact HB.out | apply below_alloc | apply pw_below_drewN | apply below_drew1 | refine below_set ?_ GE210.out) | exact HB.out)⟩
        · replace c30 := Bool.eq_false_iff.mpr c30
          subst c30
          have H1 : ((laws_toInt64SS.f kj11 l0).bind fun t231 => ((laws_eqInt64SS.f kj11 t221 t231).bind fun t234 => (if t234 = true then ((laws_markInt64SS.f kj11 t221 1).bind fun bt235 => (if bt235.1 < 0 then (laws_FnExactShiftBag.j1 kj11 l0 t217 t220 t226 true a1_0 a1_1) else ((laws_eqInt64SS.f kj11 t226 t217).bind fun t237 => (if t237 = true then (laws_FnExactShiftBag.j1 kj11 l0 t217 t220 t226 (t229 != t220) a1_0 a1_1) else (laws_FnExactShiftBag.j1 kj11 l0 t217 t220 t226 true a1_0 a1_1))))) else (some false)))) = some r := by rw [if_neg (show ¬ (false = true) by decide)] at H; exact H
          clear H
          have H := H1
          clear H1
          replace H := Option.bind_eq_some_iff.mp H
          obtain ⟨t231, A310, H⟩ := H
          replace H : ((laws_eqInt64SS.f kj11 t221 t231).bind fun t234 => (if t234 = true then ((laws_markInt64SS.f kj11 t221 1).bind fun bt235 => (if bt235.1 < 0 then (laws_FnExactShiftBag.j1 kj11 l0 t217 t220 t226 true a1_0 a1_1) else ((laws_eqInt64SS.f kj11 t226 t217).bind fun t237 => (if t237 = true then (laws_FnExactShiftBag.j1 kj11 l0 t217 t220 t226 (t229 != t220) a1_0 a1_1) else (laws_FnExactShiftBag.j1 kj11 l0 t217 t220 t226 true a1_0 a1_1))))) else (some false))) = some r := H
          have A31 := Aside0.mk A310
          clear A310
          replace H := Option.bind_eq_some_iff.mp H
          obtain ⟨t234, A320, H⟩ := H
          replace H : (if t234 = true then ((laws_markInt64SS.f kj11 t221 1).bind fun bt235 => (if bt235.1 < 0 then (laws_FnExactShiftBag.j1 kj11 l0 t217 t220 t226 true a1_0 a1_1) else ((laws_eqInt64SS.f kj11 t226 t217).bind fun t237 => (if t237 = true then (laws_FnExactShiftBag.j1 kj11 l0 t217 t220 t226 (t229 != t220) a1_0 a1_1) else (laws_FnExactShiftBag.j1 kj11 l0 t217 t220 t226 true a1_0 a1_1))))) else (some false)) = some r := H
          have A32 := Aside0.mk A320
          clear A320
          by_cases c33 : t234 = true
          · subst c33
            have H1 : ((laws_markInt64SS.f kj11 t221 1).bind fun bt235 => (if bt235.1 < 0 then (laws_FnExactShiftBag.j1 kj11 l0 t217 t220 t226 true a1_0 a1_1) else ((laws_eqInt64SS.f kj11 t226 t217).bind fun t237 => (if t237 = true then (laws_FnExactShiftBag.j1 kj11 l0 t217 t220 t226 (t229 != t220) a1_0 a1_1) else (laws_FnExactShiftBag.j1 kj11 l0 t217 t220 t226 true a1_0 a1_1))))) = some r := by rw [if_pos rfl] at H; exact H
            clear H
            have H := H1
            clear H1
            replace H := Option.bind_eq_some_iff.mp H
            obtain ⟨⟨t235, t236⟩, A340, H⟩ := H
            replace H : (if t235 < 0 then (laws_FnExactShiftBag.j1 kj11 l0 t217 t220 t226 true a1_0 a1_1) else ((laws_eqInt64SS.f kj11 t226 t217).bind fun t237 => (if t237 = true then (laws_FnExactShiftBag.j1 kj11 l0 t217 t220 t226 (t229 != t220) a1_0 a1_1) else (laws_FnExactShiftBag.j1 kj11 l0 t217 t220 t226 true a1_0 a1_1)))) = some r := H
            have A34 := Aside0.mk A340
            clear A340
            have HC35 := Aside0.mk H
            clear H
            go_upto_region 14 with (first | ((with_reducible refine gate_callee (f := 21) rfl ?_); refine goesL_ (some 49) rfl rfl Try.func21 (by kernel_rfl) rfl #[.slice A0 l0.length c0] rfl (by (try simp only [List.map_toArray, List.map_cons, List.map_nil]); first | done | rfl | (simp only [List.length_drop, List.length_take]; rfl)) ?_; (with_reducible refine (laws_toInt64SS.calls kj11 _ _ l0 t231 _ ?side1 ?side2 A31.out).mono ?_); (case side1 => repeat (first | exact (Kd.C_below HR0.out HB.out) | (with_reducible refine Kd.C_alloc ?_ _) | (with_reducible refine Kd.C_drewN ?_ _) | (with_reducible refine Kd.C_drew ?_))); (case side2 => exact HC0.out); rintro e w36 ⟨v232, rfl, ho0, hb⟩; refine ⟨_, rfl, ?_⟩; have n0_ := Aside0.mk (Kd.S_elder' (by (with_reducible repeat (first | apply Kd.S_alloc | apply Kd.S_drewN | apply Kd.S_drew)); exact HO_6.out) (Kd.S_base ho0) hb); have n1_ := Aside0.mk (Kd.S_elder' (by (with_reducible repeat (first | apply Kd.S_alloc | apply Kd.S_drewN | apply Kd.S_drew)); exact HO_8.out) (Kd.S_base ho0) hb); have n2_ := Aside0.mk (Kd.S_elder' (by (with_reducible repeat (first | apply Kd.S_alloc | apply Kd.S_drewN | apply Kd.S_drew)); exact HO_9.out) (Kd.S_base ho0) hb); have n3_ := Aside0.mk (Kd.S_lower (Kd.S_new' (Kd.S_new' (Kd.S_new' ho0 (Kd.S_lt (by (with_reducible repeat (first | apply Kd.S_alloc | apply Kd.S_drewN | apply Kd.S_drew)); exact HO_6.out))) (Kd.S_lt (by (with_reducible repeat (first | apply Kd.S_alloc | apply Kd.S_drewN | apply Kd.S_drew)); exact HO_8.out))) (Kd.S_lt (by (with_reducible repeat (first | apply Kd.S_alloc | apply Kd.S_drewN | apply Kd.S_drew)); exact HO_9.out))) (below_size (by repeat (first | (with_reducible first | exact HB.out | apply below_alloc | apply pw_below_drewN | apply below_drew1 | refine below_set ?_ GE210.out) | exact HB.out)))); have n4_ := Aside0.mk (blk_below (g := gb210) (o := .cells #[.int .i8 a1_0, .int .i8 a1_1] 43 (0, 0)) (by (with_reducible repeat (first | refine blk_drewN ?_ _ | refine blk_drew ?_ | refine blk_alloc ?_ _)); exact BK210.out) hb); have n5_ := Aside0.mk (below_step (by repeat (first | (with_reducible first | exact HB.out | apply below_alloc | apply pw_below_drewN | apply below_drew1 | refine below_set ?_ GE210.out) | exact HB.out)) hb); clear HO_6; clear HO_8; clear HO_9; clear BK210; clear HB; have HO_6 := n0_; have HO_8 := n1_; have HO_9 := n2_; have HO233 := n3_; have BK210 := n4_; have HB := n5_; clear n0_ n1_ n2_ n3_ n4_ n5_; (try clear hb); (try clear hb2); (try clear hk); (try clear hi); (try clear ho0); obtain ⟨Ao37, co37, eo37⟩ := Kd.S_slice HO233.out; subst eo37) | ((with_reducible refine gate_callee (f := 23) rfl ?_); refine goesL_ (some 50) rfl rfl Try.func23 (by kernel_rfl) rfl #[.slice Ao22 t221.length co22, .slice Ao37 t231.length co37] rfl (by (try simp only [List.map_toArray, List.map_cons, List.map_nil]); first | done | rfl | (simp only [List.length_drop, List.length_take]; rfl)) ?_; (with_reducible refine (laws_eqInt64SS.calls kj11 _ _ t221 _ _ t231 true _ ?side1 ?side2 ?side3 ?side4 A32.out).mono ?_); (case side1 => repeat (first | exact (Kd.S_reads' HO_8.out).2.2 | (with_reducible refine Kd.C_alloc ?_ _) | (with_reducible refine Kd.C_drewN ?_ _) | (with_reducible refine Kd.C_drew ?_))); (case side2 => exact (Kd.S_reads' HO_8.out).2.1); (case side3 => repeat (first | exact (Kd.S_reads' HO233.out).2.2 | (with_reducible refine Kd.C_alloc ?_ _) | (with_reducible refine Kd.C_drewN ?_ _) | (with_reducible refine Kd.C_drew ?_))); (case side4 => exact (Kd.S_reads' HO233.out).2.1); rintro e w' ⟨rfl, ⟨nd, rfl⟩⟩; refine ⟨_, rfl, ?_⟩) | ((with_reducible refine gate_callee (f := 37) rfl ?_); refine goesL_ (some 54) rfl rfl Try.func37 (by kernel_rfl) rfl #[.slice Ao22 t221.length co22, .int .i64 1] rfl (by (try simp only [List.map_toArray, List.map_cons, List.map_nil]); first | done | rfl | (simp only [List.length_drop, List.length_take]; rfl)) ?_; (with_reducible refine (laws_markInt64SS.calls kj11 (fun k_ => (N1 ≤ k_ ∧ k_ < N2) ∧ ((((some k_ ≠ (v218 : Value).ownBlock ∧ some k_ ≠ (v227 : Value).ownBlock) ∧ some k_ ≠ (.slice Ao37 t231.length co37 : Value).ownBlock) ∧ k_ ≠ gb210))) (.slice Ao22 t221.length co22) t221 1 t235 t236 w _ ?side1 ?side2 A34.out).mono ?_); (case side1 => repeat (first | (with_reducible first | exact HB.out | apply below_alloc | apply pw_below_drewN | apply below_drew1 | refine below_set ?_ GE210.out) | exact HB.out)); (case side2 => exact Kd.S_mono (Kd.S_types HO_8.out BK210.out (by decide)) (fun k_ hk => by ((repeat' apply And.intro) <;> (first | trivial | exact (hk) | exact (hk).1 | exact (hk).2 | exact (hk).1.1 | exact (hk).1.2 | exact (hk).2.1 | exact (hk).2.2 | exact (hk).1.1.1 | exact (hk).1.1.2 | exact (hk).1.2.1 | exact (hk).1.2.2 | exact (hk).2.1.1 | exact (hk).2.1.2 | exact (hk).2.2.1 | exact (hk).2.2.2 | exact (hk).1.1.1.1 | exact (hk).1.1.1.2 | exact (hk).1.1.2.1 | exact (hk).1.1.2.2 | exact (hk).1.2.1.1 | exact (hk).1.2.1.2 | exact (hk).1.2.2.1 | exact (hk).1.2.2.2 | exact (hk).2.1.1.1 | exact (hk).2.1.1.2 | exact (hk).2.1.2.1 | exact (hk).2.1.2.2 | exact (hk).2.2.1.1 | exact (hk).2.2.1.2 | exact (hk).2.2.2.1 | exact (hk).2.2.2.2 | exact (hk).1.1.1.1.1 | exact (hk).1.1.1.1.2 | exact (hk).1.1.1.2.1 | exact (hk).1.1.1.2.2 | exact (hk).1.1.2.1.1 | exact (hk).1.1.2.1.2 | exact (hk).1.1.2.2.1 | exact (hk).1.1.2.2.2 | exact (hk).1.2.1.1.1 | exact (hk).1.2.1.1.2 | exact (hk).1.2.1.2.1 | exact (hk).1.2.1.2.2 | exact (hk).1.2.2.1.1 | exact (hk).1.2.2.1.2 | exact (hk).1.2.2.2.1 | exact (hk).1.2.2.2.2 | exact (hk).2.1.1.1.1 | exact (hk).2.1.1.1.2 | exact (hk).2.1.1.2.1 | exact (hk).2.1.1.2.2 | exact (hk).2.1.2.1.1 | exact (hk).2.1.2.1.2 | exact (hk).2.1.2.2.1 | exact (hk).2.1.2.2.2 | exact (hk).2.2.1.1.1 | exact (hk).2.2.1.1.2 | exact (hk).2.2.1.2.1 | exact (hk).2.2.1.2.2 | exact (hk).2.2.2.1.1 | exact (hk).2.2.2.1.2 | exact (hk).2.2.2.2.1 | exact (hk).2.2.2.2.2 | exact (hk).1.1.1.1.1.1 | exact (hk).1.1.1.1.1.2 | exact (hk).1.1.1.1.2.1 | exact (hk).1.1.1.1.2.2 | exact (hk).1.1.1.2.1.1 | exact (hk).1.1.1.2.1.2 | exact (hk).1.1.1.2.2.1 | exact (hk).1.1.1.2.2.2 | exact (hk).1.1.1.1.1.1.1 | exact (hk).1.1.1.1.1.1.2 | exact (hk).1.1.1.1.1.2.1 | exact (hk).1.1.1.1.1.2.2 | exact (hk).1.1.1.1.2.1.1 | exact (hk).1.1.1.1.2.1.2 | exact (hk).1.1.1.1.2.2.1 | exact (hk).1.1.1.1.2.2.2 | exact (hk).1.1.1.1.1.1.1.1 | exact (hk).1.1.1.1.1.1.1.2 | exact (hk).1.1.1.1.1.1.2.1 | exact (hk).1.1.1.1.1.1.2.2 | exact (hk).1.1.1.1.1.2.1.1 | exact (hk).1.1.1.1.1.2.1.2 | exact (hk).1.1.1.1.1.2.2.1 | exact (hk).1.1.1.1.1.2.2.2 | exact (hk).1.1.1.1.1.1.1.1.1 | exact (hk).1.1.1.1.1.1.1.1.2 | exact (hk).1.1.1.1.1.1.1.2.1 | exact (hk).1.1.1.1.1.1.1.2.2 | exact (hk).1.1.1.1.1.1.2.1.1 | exact (hk).1.1.1.1.1.1.2.1.2 | exact (hk).1.1.1.1.1.1.2.2.1 | exact (hk).1.1.1.1.1.1.2.2.2 | exact (hk).1.1.1.1.1.1.1.1.1.1 | exact (hk).1.1.1.1.1.1.1.1.1.2 | exact (hk).1.1.1.1.1.1.1.1.2.1 | exact (hk).1.1.1.1.1.1.1.1.2.2 | exact (hk).1.1.1.1.1.1.1.2.1.1 | exact (hk).1.1.1.1.1.1.1.2.1.2 | exact (hk).1.1.1.1.1.1.1.2.2.1 | exact (hk).1.1.1.1.1.1.1.2.2.2 | exact (hk).1.1.1.1.1.1.1.1.1.1.1 | exact (hk).1.1.1.1.1.1.1.1.1.1.2 | exact (hk).1.1.1.1.1.1.1.1.1.2.1 | exact (hk).1.1.1.1.1.1.1.1.1.2.2 | exact (hk).1.1.1.1.1.1.1.1.2.1.1 | exact (hk).1.1.1.1.1.1.1.1.2.1.2 | exact (hk).1.1.1.1.1.1.1.1.2.2.1 | exact (hk).1.1.1.1.1.1.1.1.2.2.2)))); rintro e w38 ⟨rfl, hy0, hb, hkp⟩; refine ⟨_, rfl, ?_⟩; have n0_ := Aside0.mk ((Kd.S_kept (by (with_reducible repeat (first | apply Kd.S_alloc | apply Kd.S_drewN | apply Kd.S_drew)); exact HO_6.out) hkp (fun k_ hk hs_ => by have a_ : k_ < N1 ∧ k_ < N2 := (by ((repeat' apply And.intro) <;> (first | trivial | exact (hk) | exact (hk).1 | exact (hk).2 | exact (hk).1.1 | exact (hk).1.2 | exact (hk).2.1 | exact (hk).2.2 | exact (hk).1.1.1 | exact (hk).1.1.2 | exact (hk).1.2.1 | exact (hk).1.2.2 | exact (hk).2.1.1 | exact (hk).2.1.2 | exact (hk).2.2.1 | exact (hk).2.2.2 | exact (hk).1.1.1.1 | exact (hk).1.1.1.2 | exact (hk).1.1.2.1 | exact (hk).1.1.2.2 | exact (hk).1.2.1.1 | exact (hk).1.2.1.2 | exact (hk).1.2.2.1 | exact (hk).1.2.2.2 | exact (hk).2.1.1.1 | exact (hk).2.1.1.2 | exact (hk).2.1.2.1 | exact (hk).2.1.2.2 | exact (hk).2.2.1.1 | exact (hk).2.2.1.2 | exact (hk).2.2.2.1 | exact (hk).2.2.2.2 | exact (hk).1.1.1.1.1 | exact (hk).1.1.1.1.2 | exact (hk).1.1.1.2.1 | exact (hk).1.1.1.2.2 | exact (hk).1.1.2.1.1 | exact (hk).1.1.2.1.2 | exact (hk).1.1.2.2.1 | exact (hk).1.1.2.2.2 | exact (hk).1.2.1.1.1 | exact (hk).1.2.1.1.2 | exact (hk).1.2.1.2.1 | exact (hk).1.2.1.2.2 | exact (hk).1.2.2.1.1 | exact (hk).1.2.2.1.2 | exact (hk).1.2.2.2.1 | exact (hk).1.2.2.2.2 | exact (hk).2.1.1.1.1 | exact (hk).2.1.1.1.2 | exact (hk).2.1.1.2.1 | exact (hk).2.1.1.2.2 | exact (hk).2.1.2.1.1 | exact (hk).2.1.2.1.2 | exact (hk).2.1.2.2.1 | exact (hk).2.1.2.2.2 | exact (hk).2.2.1.1.1 | exact (hk).2.2.1.1.2 | exact (hk).2.2.1.2.1 | exact (hk).2.2.1.2.2 | exact (hk).2.2.2.1.1 | exact (hk).2.2.2.1.2 | exact (hk).2.2.2.2.1 | exact (hk).2.2.2.2.2 | exact (hk).1.1.1.1.1.1 | exact (hk).1.1.1.1.1.2 | exact (hk).1.1.1.1.2.1 | exact (hk).1.1.1.1.2.2 | exact (hk).1.1.1.2.1.1 | exact (hk).1.1.1.2.1.2 | exact (hk).1.1.1.2.2.1 | exact (hk).1.1.1.2.2.2 | exact (hk).1.1.1.1.1.1.1 | exact (hk).1.1.1.1.1.1.2 | exact (hk).1.1.1.1.1.2.1 | exact (hk).1.1.1.1.1.2.2 | exact (hk).1.1.1.1.2.1.1 | exact (hk).1.1.1.1.2.1.2 | exact (hk).1.1.1.1.2.2.1 | exact (hk).1.1.1.1.2.2.2 | exact (hk).1.1.1.1.1.1.1.1 | exact (hk).1.1.1.1.1.1.1.2 | exact (hk).1.1.1.1.1.1.2.1 | exact (hk).1.1.1.1.1.1.2.2 | exact (hk).1.1.1.1.1.2.1.1 | exact (hk).1.1.1.1.1.2.1.2 | exact (hk).1.1.1.1.1.2.2.1 | exact (hk).1.1.1.1.1.2.2.2 | exact (hk).1.1.1.1.1.1.1.1.1 | exact (hk).1.1.1.1.1.1.1.1.2 | exact (hk).1.1.1.1.1.1.1.2.1 | exact (hk).1.1.1.1.1.1.1.2.2 | exact (hk).1.1.1.1.1.1.2.1.1 | exact (hk).1.1.1.1.1.1.2.1.2 | exact (hk).1.1.1.1.1.1.2.2.1 | exact (hk).1.1.1.1.1.1.2.2.2 | exact (hk).1.1.1.1.1.1.1.1.1.1 | exact (hk).1.1.1.1.1.1.1.1.1.2 | exact (hk).1.1.1.1.1.1.1.1.2.1 | exact (hk).1.1.1.1.1.1.1.1.2.2 | exact (hk).1.1.1.1.1.1.1.2.1.1 | exact (hk).1.1.1.1.1.1.1.2.1.2 | exact (hk).1.1.1.1.1.1.1.2.2.1 | exact (hk).1.1.1.1.1.1.1.2.2.2 | exact (hk).1.1.1.1.1.1.1.1.1.1.1 | exact (hk).1.1.1.1.1.1.1.1.1.1.2 | exact (hk).1.1.1.1.1.1.1.1.1.2.1 | exact (hk).1.1.1.1.1.1.1.1.1.2.2 | exact (hk).1.1.1.1.1.1.1.1.2.1.1 | exact (hk).1.1.1.1.1.1.1.1.2.1.2 | exact (hk).1.1.1.1.1.1.1.1.2.2.1 | exact (hk).1.1.1.1.1.1.1.1.2.2.2))); have b_ : N1 ≤ k_ ∧ k_ < N2 := hs_.1; omega))); have n1_ := Aside0.mk (Kd.S_mono (ok' := fun k_ => (((some k_ ≠ (v218 : Value).ownBlock ∧ some k_ ≠ (v227 : Value).ownBlock) ∧ some k_ ≠ (.slice Ao37 t231.length co37 : Value).ownBlock)) ∧ (N1 ≤ k_ ∧ k_ < N2)) hy0 (fun k_ hk => by ((repeat' apply And.intro) <;> (first | trivial | exact (hk) | exact (hk).1 | exact (hk).2 | exact (hk).1.1 | exact (hk).1.2 | exact (hk).2.1 | exact (hk).2.2 | exact (hk).1.1.1 | exact (hk).1.1.2 | exact (hk).1.2.1 | exact (hk).1.2.2 | exact (hk).2.1.1 | exact (hk).2.1.2 | exact (hk).2.2.1 | exact (hk).2.2.2 | exact (hk).1.1.1.1 | exact (hk).1.1.1.2 | exact (hk).1.1.2.1 | exact (hk).1.1.2.2 | exact (hk).1.2.1.1 | exact (hk).1.2.1.2 | exact (hk).1.2.2.1 | exact (hk).1.2.2.2 | exact (hk).2.1.1.1 | exact (hk).2.1.1.2 | exact (hk).2.1.2.1 | exact (hk).2.1.2.2 | exact (hk).2.2.1.1 | exact (hk).2.2.1.2 | exact (hk).2.2.2.1 | exact (hk).2.2.2.2 | exact (hk).1.1.1.1.1 | exact (hk).1.1.1.1.2 | exact (hk).1.1.1.2.1 | exact (hk).1.1.1.2.2 | exact (hk).1.1.2.1.1 | exact (hk).1.1.2.1.2 | exact (hk).1.1.2.2.1 | exact (hk).1.1.2.2.2 | exact (hk).1.2.1.1.1 | exact (hk).1.2.1.1.2 | exact (hk).1.2.1.2.1 | exact (hk).1.2.1.2.2 | exact (hk).1.2.2.1.1 | exact (hk).1.2.2.1.2 | exact (hk).1.2.2.2.1 | exact (hk).1.2.2.2.2 | exact (hk).2.1.1.1.1 | exact (hk).2.1.1.1.2 | exact (hk).2.1.1.2.1 | exact (hk).2.1.1.2.2 | exact (hk).2.1.2.1.1 | exact (hk).2.1.2.1.2 | exact (hk).2.1.2.2.1 | exact (hk).2.1.2.2.2 | exact (hk).2.2.1.1.1 | exact (hk).2.2.1.1.2 | exact (hk).2.2.1.2.1 | exact (hk).2.2.1.2.2 | exact (hk).2.2.2.1.1 | exact (hk).2.2.2.1.2 | exact (hk).2.2.2.2.1 | exact (hk).2.2.2.2.2 | exact (hk).1.1.1.1.1.1 | exact (hk).1.1.1.1.1.2 | exact (hk).1.1.1.1.2.1 | exact (hk).1.1.1.1.2.2 | exact (hk).1.1.1.2.1.1 | exact (hk).1.1.1.2.1.2 | exact (hk).1.1.1.2.2.1 | exact (hk).1.1.1.2.2.2 | exact (hk).1.1.1.1.1.1.1 | exact (hk).1.1.1.1.1.1.2 | exact (hk).1.1.1.1.1.2.1 | exact (hk).1.1.1.1.1.2.2 | exact (hk).1.1.1.1.2.1.1 | exact (hk).1.1.1.1.2.1.2 | exact (hk).1.1.1.1.2.2.1 | exact (hk).1.1.1.1.2.2.2 | exact (hk).1.1.1.1.1.1.1.1 | exact (hk).1.1.1.1.1.1.1.2 | exact (hk).1.1.1.1.1.1.2.1 | exact (hk).1.1.1.1.1.1.2.2 | exact (hk).1.1.1.1.1.2.1.1 | exact (hk).1.1.1.1.1.2.1.2 | exact (hk).1.1.1.1.1.2.2.1 | exact (hk).1.1.1.1.1.2.2.2 | exact (hk).1.1.1.1.1.1.1.1.1 | exact (hk).1.1.1.1.1.1.1.1.2 | exact (hk).1.1.1.1.1.1.1.2.1 | exact (hk).1.1.1.1.1.1.1.2.2 | exact (hk).1.1.1.1.1.1.2.1.1 | exact (hk).1.1.1.1.1.1.2.1.2 | exact (hk).1.1.1.1.1.1.2.2.1 | exact (hk).1.1.1.1.1.1.2.2.2 | exact (hk).1.1.1.1.1.1.1.1.1.1 | exact (hk).1.1.1.1.1.1.1.1.1.2 | exact (hk).1.1.1.1.1.1.1.1.2.1 | exact (hk).1.1.1.1.1.1.1.1.2.2 | exact (hk).1.1.1.1.1.1.1.2.1.1 | exact (hk).1.1.1.1.1.1.1.2.1.2 | exact (hk).1.1.1.1.1.1.1.2.2.1 | exact (hk).1.1.1.1.1.1.1.2.2.2 | exact (hk).1.1.1.1.1.1.1.1.1.1.1 | exact (hk).1.1.1.1.1.1.1.1.1.1.2 | exact (hk).1.1.1.1.1.1.1.1.1.2.1 | exact (hk).1.1.1.1.1.1.1.1.1.2.2 | exact (hk).1.1.1.1.1.1.1.1.2.1.1 | exact (hk).1.1.1.1.1.1.1.1.2.1.2 | exact (hk).1.1.1.1.1.1.1.1.2.2.1 | exact (hk).1.1.1.1.1.1.1.1.2.2.2)))); have n2_ := Aside0.mk ((Kd.S_kept (by (with_reducible repeat (first | apply Kd.S_alloc | apply Kd.S_drewN | apply Kd.S_drew)); exact HO_9.out) hkp (fun k_ hk hs_ => by have a_ : N2 ≤ k_ := (by ((repeat' apply And.intro) <;> (first | trivial | exact (hk) | exact (hk).1 | exact (hk).2 | exact (hk).1.1 | exact (hk).1.2 | exact (hk).2.1 | exact (hk).2.2 | exact (hk).1.1.1 | exact (hk).1.1.2 | exact (hk).1.2.1 | exact (hk).1.2.2 | exact (hk).2.1.1 | exact (hk).2.1.2 | exact (hk).2.2.1 | exact (hk).2.2.2 | exact (hk).1.1.1.1 | exact (hk).1.1.1.2 | exact (hk).1.1.2.1 | exact (hk).1.1.2.2 | exact (hk).1.2.1.1 | exact (hk).1.2.1.2 | exact (hk).1.2.2.1 | exact (hk).1.2.2.2 | exact (hk).2.1.1.1 | exact (hk).2.1.1.2 | exact (hk).2.1.2.1 | exact (hk).2.1.2.2 | exact (hk).2.2.1.1 | exact (hk).2.2.1.2 | exact (hk).2.2.2.1 | exact (hk).2.2.2.2 | exact (hk).1.1.1.1.1 | exact (hk).1.1.1.1.2 | exact (hk).1.1.1.2.1 | exact (hk).1.1.1.2.2 | exact (hk).1.1.2.1.1 | exact (hk).1.1.2.1.2 | exact (hk).1.1.2.2.1 | exact (hk).1.1.2.2.2 | exact (hk).1.2.1.1.1 | exact (hk).1.2.1.1.2 | exact (hk).1.2.1.2.1 | exact (hk).1.2.1.2.2 | exact (hk).1.2.2.1.1 | exact (hk).1.2.2.1.2 | exact (hk).1.2.2.2.1 | exact (hk).1.2.2.2.2 | exact (hk).2.1.1.1.1 | exact (hk).2.1.1.1.2 | exact (hk).2.1.1.2.1 | exact (hk).2.1.1.2.2 | exact (hk).2.1.2.1.1 | exact (hk).2.1.2.1.2 | exact (hk).2.1.2.2.1 | exact (hk).2.1.2.2.2 | exact (hk).2.2.1.1.1 | exact (hk).2.2.1.1.2 | exact (hk).2.2.1.2.1 | exact (hk).2.2.1.2.2 | exact (hk).2.2.2.1.1 | exact (hk).2.2.2.1.2 | exact (hk).2.2.2.2.1 | exact (hk).2.2.2.2.2 | exact (hk).1.1.1.1.1.1 | exact (hk).1.1.1.1.1.2 | exact (hk).1.1.1.1.2.1 | exact (hk).1.1.1.1.2.2 | exact (hk).1.1.1.2.1.1 | exact (hk).1.1.1.2.1.2 | exact (hk).1.1.1.2.2.1 | exact (hk).1.1.1.2.2.2 | exact (hk).1.1.1.1.1.1.1 | exact (hk).1.1.1.1.1.1.2 | exact (hk).1.1.1.1.1.2.1 | exact (hk).1.1.1.1.1.2.2 | exact (hk).1.1.1.1.2.1.1 | exact (hk).1.1.1.1.2.1.2 | exact (hk).1.1.1.1.2.2.1 | exact (hk).1.1.1.1.2.2.2 | exact (hk).1.1.1.1.1.1.1.1 | exact (hk).1.1.1.1.1.1.1.2 | exact (hk).1.1.1.1.1.1.2.1 | exact (hk).1.1.1.1.1.1.2.2 | exact (hk).1.1.1.1.1.2.1.1 | exact (hk).1.1.1.1.1.2.1.2 | exact (hk).1.1.1.1.1.2.2.1 | exact (hk).1.1.1.1.1.2.2.2 | exact (hk).1.1.1.1.1.1.1.1.1 | exact (hk).1.1.1.1.1.1.1.1.2 | exact (hk).1.1.1.1.1.1.1.2.1 | exact (hk).1.1.1.1.1.1.1.2.2 | exact (hk).1.1.1.1.1.1.2.1.1 | exact (hk).1.1.1.1.1.1.2.1.2 | exact (hk).1.1.1.1.1.1.2.2.1 | exact (hk).1.1.1.1.1.1.2.2.2 | exact (hk).1.1.1.1.1.1.1.1.1.1 | exact (hk).1.1.1.1.1.1.1.1.1.2 | exact (hk).1.1.1.1.1.1.1.1.2.1 | exact (hk).1.1.1.1.1.1.1.1.2.2 | exact (hk).1.1.1.1.1.1.1.2.1.1 | exact (hk).1.1.1.1.1.1.1.2.1.2 | exact (hk).1.1.1.1.1.1.1.2.2.1 | exact (hk).1.1.1.1.1.1.1.2.2.2 | exact (hk).1.1.1.1.1.1.1.1.1.1.1 | exact (hk).1.1.1.1.1.1.1.1.1.1.2 | exact (hk).1.1.1.1.1.1.1.1.1.2.1 | exact (hk).1.1.1.1.1.1.1.1.1.2.2 | exact (hk).1.1.1.1.1.1.1.1.2.1.1 | exact (hk).1.1.1.1.1.1.1.1.2.1.2 | exact (hk).1.1.1.1.1.1.1.1.2.2.1 | exact (hk).1.1.1.1.1.1.1.1.2.2.2))); have b_ : N1 ≤ k_ ∧ k_ < N2 := hs_.1; omega))); have n3_ := Aside0.mk (blk_kept (by (with_reducible repeat (first | refine blk_drewN ?_ _ | refine blk_drew ?_ | refine blk_alloc ?_ _)); exact BK210.out) hkp (fun hs_ => (fun e_ => (e_.2) rfl) hs_.2)); have n4_ := Aside0.mk ((HO233.out)); have n5_ := Aside0.mk (hb); clear HO_6; clear HO_8; clear HO_9; clear BK210; clear HO233; clear HB; have HO_6 := n0_; have HO_8 := n1_; have HO_9 := n2_; have BK210 := n3_; have HO233 := n4_; have HB := n5_; clear n0_ n1_ n2_ n3_ n4_ n5_; (try clear hb); (try clear hkp); (try clear hy0)))
            (try simp only [Act.put, List.setIfInBounds_toArray, List.set_cons_zero, List.set_cons_succ])
            go_cut [67] (fun v67 wc => ∃ (kq : Nat) (x67_34 : Bool), v67 = .bool x67_34 ∧ Aside0 (laws_FnExactShiftBag.j1 kq l0 t217 t220 t226 x67_34 a1_0 a1_1 = some r) ∧ Aside0 (kq ≤ kj11) ∧ Aside0 (Kd.S (Kd.slice 2 (Kd.int .i64)) 81 wc w.heap.size (fun k_ => (some k_ ≠ (v227 : Value).ownBlock) ∧ (k_ < N1 ∧ k_ < N2)) v218 t217) ∧ Aside0 (Kd.S (Kd.slice 2 (Kd.int .i64)) 81 wc w.heap.size (fun k_ => (some k_ ≠ (v218 : Value).ownBlock) ∧ (N2 ≤ k_)) v227 t226) ∧ Aside0 (wc.heap[gb210]? = some (.cells #[.int .i8 a1_0, .int .i8 a1_1] 43 (0, 0))) ∧ Aside0 (Below w.heap.size w wc))
            case first =>
              have H := HC35.out
              clear HC35
              by_cases c39 : t235 < 0
              · rw [if_pos c39] at H
                have c39b0 : decide (t235 < 0) = true := decide_eq_true c39
                clear c39
                (first | rw [c39b0] | (simp only [i64_w, i32_w]; rw [c39b0]) | skip)
                have H' := Aside0.mk H
                clear H
                go_wp2
                go_meet
                case rel => exact ⟨_, (true), (by first | rfl | (simp; done) | (simp [*]; done)), H', ⟨by have := HJ11.out; first | omega | exact Nat.le_refl _⟩, ⟨by (with_reducible repeat (first | apply Kd.S_alloc | apply Kd.S_drewN | apply Kd.S_drew)); exact Kd.S_mono HO_6.out (fun k_ hk => by ((repeat' apply And.intro) <;> (first | trivial | exact (hk) | exact (hk).1 | exact (hk).2 | exact (hk).1.1 | exact (hk).1.2 | exact (hk).2.1 | exact (hk).2.2 | exact (hk).1.1.1 | exact (hk).1.1.2 | exact (hk).1.2.1 | exact (hk).1.2.2 | exact (hk).2.1.1 | exact (hk).2.1.2 | exact (hk).2.2.1 | exact (hk).2.2.2 | exact (hk).1.1.1.1 | exact (hk).1.1.1.2 | exact (hk).1.1.2.1 | exact (hk).1.1.2.2 | exact (hk).1.2.1.1 | exact (hk).1.2.1.2 | exact (hk).1.2.2.1 | exact (hk).1.2.2.2 | exact (hk).2.1.1.1 | exact (hk).2.1.1.2 | exact (hk).2.1.2.1 | exact (hk).2.1.2.2 | exact (hk).2.2.1.1 | exact (hk).2.2.1.2 | exact (hk).2.2.2.1 | exact (hk).2.2.2.2 | exact (hk).1.1.1.1.1 | exact (hk).1.1.1.1.2 | exact (hk).1.1.1.2.1 | exact (hk).1.1.1.2.2 | exact (hk).1.1.2.1.1 | exact (hk).1.1.2.1.2 | exact (hk).1.1.2.2.1 | exact (hk).1.1.2.2.2 | exact (hk).1.2.1.1.1 | exact (hk).1.2.1.1.2 | exact (hk).1.2.1.2.1 | exact (hk).1.2.1.2.2 | exact (hk).1.2.2.1.1 | exact (hk).1.2.2.1.2 | exact (hk).1.2.2.2.1 | exact (hk).1.2.2.2.2 | exact (hk).2.1.1.1.1 | exact (hk).2.1.1.1.2 | exact (hk).2.1.1.2.1 | exact (hk).2.1.1.2.2 | exact (hk).2.1.2.1.1 | exact (hk).2.1.2.1.2 | exact (hk).2.1.2.2.1 | exact (hk).2.1.2.2.2 | exact (hk).2.2.1.1.1 | exact (hk).2.2.1.1.2 | exact (hk).2.2.1.2.1 | exact (hk).2.2.1.2.2 | exact (hk).2.2.2.1.1 | exact (hk).2.2.2.1.2 | exact (hk).2.2.2.2.1 | exact (hk).2.2.2.2.2 | exact (hk).1.1.1.1.1.1 | exact (hk).1.1.1.1.1.2 | exact (hk).1.1.1.1.2.1 | exact (hk).1.1.1.1.2.2 | exact (hk).1.1.1.2.1.1 | exact (hk).1.1.1.2.1.2 | exact (hk).1.1.1.2.2.1 | exact (hk).1.1.1.2.2.2 | exact (hk).1.1.1.1.1.1.1 | exact (hk).1.1.1.1.1.1.2 | exact (hk).1.1.1.1.1.2.1 | exact (hk).1.1.1.1.1.2.2 | exact (hk).1.1.1.1.2.1.1 | exact (hk).1.1.1.1.2.1.2 | exact (hk).1.1.1.1.2.2.1 | exact (hk).1.1.1.1.2.2.2 | exact (hk).1.1.1.1.1.1.1.1 | exact (hk).1.1.1.1.1.1.1.2 | exact (hk).1.1.1.1.1.1.2.1 | exact (hk).1.1.1.1.1.1.2.2 | exact (hk).1.1.1.1.1.2.1.1 | exact (hk).1.1.1.1.1.2.1.2 | exact (hk).1.1.1.1.1.2.2.1 | exact (hk).1.1.1.1.1.2.2.2 | exact (hk).1.1.1.1.1.1.1.1.1 | exact (hk).1.1.1.1.1.1.1.1.2 | exact (hk).1.1.1.1.1.1.1.2.1 | exact (hk).1.1.1.1.1.1.1.2.2 | exact (hk).1.1.1.1.1.1.2.1.1 | exact (hk).1.1.1.1.1.1.2.1.2 | exact (hk).1.1.1.1.1.1.2.2.1 | exact (hk).1.1.1.1.1.1.2.2.2 | exact (hk).1.1.1.1.1.1.1.1.1.1 | exact (hk).1.1.1.1.1.1.1.1.1.2 | exact (hk).1.1.1.1.1.1.1.1.2.1 | exact (hk).1.1.1.1.1.1.1.1.2.2 | exact (hk).1.1.1.1.1.1.1.2.1.1 | exact (hk).1.1.1.1.1.1.1.2.1.2 | exact (hk).1.1.1.1.1.1.1.2.2.1 | exact (hk).1.1.1.1.1.1.1.2.2.2 | exact (hk).1.1.1.1.1.1.1.1.1.1.1 | exact (hk).1.1.1.1.1.1.1.1.1.1.2 | exact (hk).1.1.1.1.1.1.1.1.1.2.1 | exact (hk).1.1.1.1.1.1.1.1.1.2.2 | exact (hk).1.1.1.1.1.1.1.1.2.1.1 | exact (hk).1.1.1.1.1.1.1.1.2.1.2 | exact (hk).1.1.1.1.1.1.1.1.2.2.1 | exact (hk).1.1.1.1.1.1.1.1.2.2.2)))⟩, ⟨by (with_reducible repeat (first | apply Kd.S_alloc | apply Kd.S_drewN | apply Kd.S_drew)); exact Kd.S_mono HO_9.out (fun k_ hk => by ((repeat' apply And.intro) <;> (first | trivial | exact (hk) | exact (hk).1 | exact (hk).2 | exact (hk).1.1 | exact (hk).1.2 | exact (hk).2.1 | exact (hk).2.2 | exact (hk).1.1.1 | exact (hk).1.1.2 | exact (hk).1.2.1 | exact (hk).1.2.2 | exact (hk).2.1.1 | exact (hk).2.1.2 | exact (hk).2.2.1 | exact (hk).2.2.2 | exact (hk).1.1.1.1 | exact (hk).1.1.1.2 | exact (hk).1.1.2.1 | exact (hk).1.1.2.2 | exact (hk).1.2.1.1 | exact (hk).1.2.1.2 | exact (hk).1.2.2.1 | exact (hk).1.2.2.2 | exact (hk).2.1.1.1 | exact (hk).2.1.1.2 | exact (hk).2.1.2.1 | exact (hk).2.1.2.2 | exact (hk).2.2.1.1 | exact (hk).2.2.1.2 | exact (hk).2.2.2.1 | exact (hk).2.2.2.2 | exact (hk).1.1.1.1.1 | exact (hk).1.1.1.1.2 | exact (hk).1.1.1.2.1 | exact (hk).1.1.1.2.2 | exact (hk).1.1.2.1.1 | exact (hk).1.1.2.1.2 | exact (hk).1.1.2.2.1 | exact (hk).1.1.2.2.2 | exact (hk).1.2.1.1.1 | exact (hk).1.2.1.1.2 | exact (hk).1.2.1.2.1 | exact (hk).1.2.1.2.2 | exact (hk).1.2.2.1.1 | exact (hk).1.2.2.1.2 | exact (hk).1.2.2.2.1 | exact (hk).1.2.2.2.2 | exact (hk).2.1.1.1.1 | exact (hk).2.1.1.1.2 | exact (hk).2.1.1.2.1 | exact (hk).2.1.1.2.2 | exact (hk).2.1.2.1.1 | exact (hk).2.1.2.1.2 | exact (hk).2.1.2.2.1 | exact (hk).2.1.2.2.2 | exact (hk).2.2.1.1.1 | exact (hk).2.2.1.1.2 | exact (hk).2.2.1.2.1 | exact (hk).2.2.1.2.2 | exact (hk).2.2.2.1.1 | exact (hk).2.2.2.1.2 | exact (hk).2.2.2.2.1 | exact (hk).2.2.2.2.2 | exact (hk).1.1.1.1.1.1 | exact (hk).1.1.1.1.1.2 | exact (hk).1.1.1.1.2.1 | exact (hk).1.1.1.1.2.2 | exact (hk).1.1.1.2.1.1 | exact (hk).1.1.1.2.1.2 | exact (hk).1.1.1.2.2.1 | exact (hk).1.1.1.2.2.2 | exact (hk).1.1.1.1.1.1.1 | exact (hk).1.1.1.1.1.1.2 | exact (hk).1.1.1.1.1.2.1 | exact (hk).1.1.1.1.1.2.2 | exact (hk).1.1.1.1.2.1.1 | exact (hk).1.1.1.1.2.1.2 | exact (hk).1.1.1.1.2.2.1 | exact (hk).1.1.1.1.2.2.2 | exact (hk).1.1.1.1.1.1.1.1 | exact (hk).1.1.1.1.1.1.1.2 | exact (hk).1.1.1.1.1.1.2.1 | exact (hk).1.1.1.1.1.1.2.2 | exact (hk).1.1.1.1.1.2.1.1 | exact (hk).1.1.1.1.1.2.1.2 | exact (hk).1.1.1.1.1.2.2.1 | exact (hk).1.1.1.1.1.2.2.2 | exact (hk).1.1.1.1.1.1.1.1.1 | exact (hk).1.1.1.1.1.1.1.1.2 | exact (hk).1.1.1.1.1.1.1.2.1 | exact (hk).1.1.1.1.1.1.1.2.2 | exact (hk).1.1.1.1.1.1.2.1.1 | exact (hk).1.1.1.1.1.1.2.1.2 | exact (hk).1.1.1.1.1.1.2.2.1 | exact (hk).1.1.1.1.1.1.2.2.2 | exact (hk).1.1.1.1.1.1.1.1.1.1 | exact (hk).1.1.1.1.1.1.1.1.1.2 | exact (hk).1.1.1.1.1.1.1.1.2.1 | exact (hk).1.1.1.1.1.1.1.1.2.2 | exact (hk).1.1.1.1.1.1.1.2.1.1 | exact (hk).1.1.1.1.1.1.1.2.1.2 | exact (hk).1.1.1.1.1.1.1.2.2.1 | exact (hk).1.1.1.1.1.1.1.2.2.2 | exact (hk).1.1.1.1.1.1.1.1.1.1.1 | exact (hk).1.1.1.1.1.1.1.1.1.1.2 | exact (hk).1.1.1.1.1.1.1.1.1.2.1 | exact (hk).1.1.1.1.1.1.1.1.1.2.2 | exact (hk).1.1.1.1.1.1.1.1.2.1.1 | exact (hk).1.1.1.1.1.1.1.1.2.1.2 | exact (hk).1.1.1.1.1.1.1.1.2.2.1 | exact (hk).1.1.1.1.1.1.1.1.2.2.2)))⟩, ⟨by (with_reducible repeat (first | refine blk_drewN ?_ _ | refine blk_drew ?_ | refine blk_alloc ?_ _)); exact BK210.out⟩, ⟨by repeat (first | (with_reducible first | exact HB.out | apply below_alloc | apply pw_below_drewN | apply below_drew1 | refine below_set ?_ GE210.out) | exact HB.out)⟩⟩
              · rw [if_neg c39] at H
                have c39b0 : decide (t235 < 0) = false := decide_eq_false c39
                clear c39
                (first | rw [c39b0] | (simp only [i64_w, i32_w]; rw [c39b0]) | skip)
                replace H := Option.bind_eq_some_iff.mp H
                obtain ⟨t237, A400, H⟩ := H
                replace H : (if t237 = true then (laws_FnExactShiftBag.j1 kj11 l0 t217 t220 t226 (t229 != t220) a1_0 a1_1) else (laws_FnExactShiftBag.j1 kj11 l0 t217 t220 t226 true a1_0 a1_1)) = some r := H
                have A40 := Aside0.mk A400
                clear A400
                by_cases c41 : t237 = true
                · subst c41
                  have H1 : (laws_FnExactShiftBag.j1 kj11 l0 t217 t220 t226 (t229 != t220) a1_0 a1_1) = some r := by rw [if_pos rfl] at H; exact H
                  clear H
                  have H := H1
                  clear H1
                  have H' := Aside0.mk H
                  clear H
                  obtain ⟨Ao42, co42, eo42⟩ := Kd.S_slice HO_9.out
                  subst eo42
                  obtain ⟨Ao43, co43, eo43⟩ := Kd.S_slice HO_6.out
                  subst eo43
                  go_wp2_with (first | (go_at_call 23; (with_reducible refine (laws_eqInt64SS.calls kj11 _ _ t226 _ _ t217 true _ ?side1 ?side2 ?side3 ?side4 A40.out).mono ?_); (case side1 => repeat (first | exact (Kd.S_reads' HO_9.out).2.2 | (with_reducible refine Kd.C_alloc ?_ _) | (with_reducible refine Kd.C_drewN ?_ _) | (with_reducible refine Kd.C_drew ?_))); (case side2 => exact (Kd.S_reads' HO_9.out).2.1); (case side3 => repeat (first | exact (Kd.S_reads' HO_6.out).2.2 | (with_reducible refine Kd.C_alloc ?_ _) | (with_reducible refine Kd.C_drewN ?_ _) | (with_reducible refine Kd.C_drew ?_))); (case side4 => exact (Kd.S_reads' HO_6.out).2.1); rintro e w' ⟨rfl, ⟨nd, rfl⟩⟩))
                  go_meet
                  case rel => exact ⟨_, ((t229 != t220)), (by first | rfl | (simp; done) | (simp [*]; done)), H', ⟨by have := HJ11.out; first | omega | exact Nat.le_refl _⟩, ⟨by (with_reducible repeat (first | apply Kd.S_alloc | apply Kd.S_drewN | apply Kd.S_drew)); exact Kd.S_mono HO_6.out (fun k_ hk => by ((repeat' apply And.intro) <;> (first | trivial | exact (hk) | exact (hk).1 | exact (hk).2 | exact (hk).1.1 | exact (hk).1.2 | exact (hk).2.1 | exact (hk).2.2 | exact (hk).1.1.1 | exact (hk).1.1.2 | exact (hk).1.2.1 | exact (hk).1.2.2 | exact (hk).2.1.1 | exact (hk).2.1.2 | exact (hk).2.2.1 | exact (hk).2.2.2 | exact (hk).1.1.1.1 | exact (hk).1.1.1.2 | exact (hk).1.1.2.1 | exact (hk).1.1.2.2 | exact (hk).1.2.1.1 | exact (hk).1.2.1.2 | exact (hk).1.2.2.1 | exact (hk).1.2.2.2 | exact (hk).2.1.1.1 | exact (hk).2.1.1.2 | exact (hk).2.1.2.1 | exact (hk).2.1.2.2 | exact (hk).2.2.1.1 | exact (hk).2.2.1.2 | exact (hk).2.2.2.1 | exact (hk).2.2.2.2 | exact (hk).1.1.1.1.1 | exact (hk).1.1.1.1.2 | exact (hk).1.1.1.2.1 | exact (hk).1.1.1.2.2 | exact (hk).1.1.2.1.1 | exact (hk).1.1.2.1.2 | exact (hk).1.1.2.2.1 | exact (hk).1.1.2.2.2 | exact (hk).1.2.1.1.1 | exact (hk).1.2.1.1.2 | exact (hk).1.2.1.2.1 | exact (hk).1.2.1.2.2 | exact (hk).1.2.2.1.1 | exact (hk).1.2.2.1.2 | exact (hk).1.2.2.2.1 | exact (hk).1.2.2.2.2 | exact (hk).2.1.1.1.1 | exact (hk).2.1.1.1.2 | exact (hk).2.1.1.2.1 | exact (hk).2.1.1.2.2 | exact (hk).2.1.2.1.1 | exact (hk).2.1.2.1.2 | exact (hk).2.1.2.2.1 | exact (hk).2.1.2.2.2 | exact (hk).2.2.1.1.1 | exact (hk).2.2.1.1.2 | exact (hk).2.2.1.2.1 | exact (hk).2.2.1.2.2 | exact (hk).2.2.2.1.1 | exact (hk).2.2.2.1.2 | exact (hk).2.2.2.2.1 | exact (hk).2.2.2.2.2 | exact (hk).1.1.1.1.1.1 | exact (hk).1.1.1.1.1.2 | exact (hk).1.1.1.1.2.1 | exact (hk).1.1.1.1.2.2 | exact (hk).1.1.1.2.1.1 | exact (hk).1.1.1.2.1.2 | exact (hk).1.1.1.2.2.1 | exact (hk).1.1.1.2.2.2 | exact (hk).1.1.1.1.1.1.1 | exact (hk).1.1.1.1.1.1.2 | exact (hk).1.1.1.1.1.2.1 | exact (hk).1.1.1.1.1.2.2 | exact (hk).1.1.1.1.2.1.1 | exact (hk).1.1.1.1.2.1.2 | exact (hk).1.1.1.1.2.2.1 | exact (hk).1.1.1.1.2.2.2 | exact (hk).1.1.1.1.1.1.1.1 | exact (hk).1.1.1.1.1.1.1.2 | exact (hk).1.1.1.1.1.1.2.1 | exact (hk).1.1.1.1.1.1.2.2 | exact (hk).1.1.1.1.1.2.1.1 | exact (hk).1.1.1.1.1.2.1.2 | exact (hk).1.1.1.1.1.2.2.1 | exact (hk).1.1.1.1.1.2.2.2 | exact (hk).1.1.1.1.1.1.1.1.1 | exact (hk).1.1.1.1.1.1.1.1.2 | exact (hk).1.1.1.1.1.1.1.2.1 | exact (hk).1.1.1.1.1.1.1.2.2 | exact (hk).1.1.1.1.1.1.2.1.1 | exact (hk).1.1.1.1.1.1.2.1.2 | exact (hk).1.1.1.1.1.1.2.2.1 | exact (hk).1.1.1.1.1.1.2.2.2 | exact (hk).1.1.1.1.1.1.1.1.1.1 | exact (hk).1.1.1.1.1.1.1.1.1.2 | exact (hk).1.1.1.1.1.1.1.1.2.1 | exact (hk).1.1.1.1.1.1.1.1.2.2 | exact (hk).1.1.1.1.1.1.1.2.1.1 | exact (hk).1.1.1.1.1.1.1.2.1.2 | exact (hk).1.1.1.1.1.1.1.2.2.1 | exact (hk).1.1.1.1.1.1.1.2.2.2 | exact (hk).1.1.1.1.1.1.1.1.1.1.1 | exact (hk).1.1.1.1.1.1.1.1.1.1.2 | exact (hk).1.1.1.1.1.1.1.1.1.2.1 | exact (hk).1.1.1.1.1.1.1.1.1.2.2 | exact (hk).1.1.1.1.1.1.1.1.2.1.1 | exact (hk).1.1.1.1.1.1.1.1.2.1.2 | exact (hk).1.1.1.1.1.1.1.1.2.2.1 | exact (hk).1.1.1.1.1.1.1.1.2.2.2)))⟩, ⟨by (with_reducible repeat (first | apply Kd.S_alloc | apply Kd.S_drewN | apply Kd.S_drew)); exact Kd.S_mono HO_9.out (fun k_ hk => by ((repeat' apply And.intro) <;> (first | trivial | exact (hk) | exact (hk).1 | exact (hk).2 | exact (hk).1.1 | exact (hk).1.2 | exact (hk).2.1 | exact (hk).2.2 | exact (hk).1.1.1 | exact (hk).1.1.2 | exact (hk).1.2.1 | exact (hk).1.2.2 | exact (hk).2.1.1 | exact (hk).2.1.2 | exact (hk).2.2.1 | exact (hk).2.2.2 | exact (hk).1.1.1.1 | exact (hk).1.1.1.2 | exact (hk).1.1.2.1 | exact (hk).1.1.2.2 | exact (hk).1.2.1.1 | exact (hk).1.2.1.2 | exact (hk).1.2.2.1 | exact (hk).1.2.2.2 | exact (hk).2.1.1.1 | exact (hk).2.1.1.2 | exact (hk).2.1.2.1 | exact (hk).2.1.2.2 | exact (hk).2.2.1.1 | exact (hk).2.2.1.2 | exact (hk).2.2.2.1 | exact (hk).2.2.2.2 | exact (hk).1.1.1.1.1 | exact (hk).1.1.1.1.2 | exact (hk).1.1.1.2.1 | exact (hk).1.1.1.2.2 | exact (hk).1.1.2.1.1 | exact (hk).1.1.2.1.2 | exact (hk).1.1.2.2.1 | exact (hk).1.1.2.2.2 | exact (hk).1.2.1.1.1 | exact (hk).1.2.1.1.2 | exact (hk).1.2.1.2.1 | exact (hk).1.2.1.2.2 | exact (hk).1.2.2.1.1 | exact (hk).1.2.2.1.2 | exact (hk).1.2.2.2.1 | exact (hk).1.2.2.2.2 | exact (hk).2.1.1.1.1 | exact (hk).2.1.1.1.2 | exact (hk).2.1.1.2.1 | exact (hk).2.1.1.2.2 | exact (hk).2.1.2.1.1 | exact (hk).2.1.2.1.2 | exact (hk).2.1.2.2.1 | exact (hk).2.1.2.2.2 | exact (hk).2.2.1.1.1 | exact (hk).2.2.1.1.2 | exact (hk).2.2.1.2.1 | exact (hk).2.2.1.2.2 | exact (hk).2.2.2.1.1 | exact (hk).2.2.2.1.2 | exact (hk).2.2.2.2.1 | exact (hk).2.2.2.2.2 | exact (hk).1.1.1.1.1.1 | exact (hk).1.1.1.1.1.2 | exact (hk).1.1.1.1.2.1 | exact (hk).1.1.1.1.2.2 | exact (hk).1.1.1.2.1.1 | exact (hk).1.1.1.2.1.2 | exact (hk).1.1.1.2.2.1 | exact (hk).1.1.1.2.2.2 | exact (hk).1.1.1.1.1.1.1 | exact (hk).1.1.1.1.1.1.2 | exact (hk).1.1.1.1.1.2.1 | exact (hk).1.1.1.1.1.2.2 | exact (hk).1.1.1.1.2.1.1 | exact (hk).1.1.1.1.2.1.2 | exact (hk).1.1.1.1.2.2.1 | exact (hk).1.1.1.1.2.2.2 | exact (hk).1.1.1.1.1.1.1.1 | exact (hk).1.1.1.1.1.1.1.2 | exact (hk).1.1.1.1.1.1.2.1 | exact (hk).1.1.1.1.1.1.2.2 | exact (hk).1.1.1.1.1.2.1.1 | exact (hk).1.1.1.1.1.2.1.2 | exact (hk).1.1.1.1.1.2.2.1 | exact (hk).1.1.1.1.1.2.2.2 | exact (hk).1.1.1.1.1.1.1.1.1 | exact (hk).1.1.1.1.1.1.1.1.2 | exact (hk).1.1.1.1.1.1.1.2.1 | exact (hk).1.1.1.1.1.1.1.2.2 | exact (hk).1.1.1.1.1.1.2.1.1 | exact (hk).1.1.1.1.1.1.2.1.2 | exact (hk).1.1.1.1.1.1.2.2.1 | exact (hk).1.1.1.1.1.1.2.2.2 | exact (hk).1.1.1.1.1.1.1.1.1.1 | exact (hk).1.1.1.1.1.1.1.1.1.2 | exact (hk).1.1.1.1.1.1.1.1.2.1 | exact (hk).1.1.1.1.1.1.1.1.2.2 | exact (hk).1.1.1.1.1.1.1.2.1.1 | exact (hk).1.1.1.1.1.1.1.2.1.2 | exact (hk).1.1.1.1.1.1.1.2.2.1 | exact (hk).1.1.1.1.1.1.1.2.2.2 | exact (hk).1.1.1.1.1.1.1.1.1.1.1 | exact (hk).1.1.1.1.1.1.1.1.1.1.2 | exact (hk).1.1.1.1.1.1.1.1.1.2.1 | exact (hk).1.1.1.1.1.1.1.1.1.2.2 | exact (hk).1.1.1.1.1.1.1.1.2.1.1 | exact (hk).1.1.1.1.1.1.1.1.2.1.2 | exact (hk).1.1.1.1.1.1.1.1.2.2.1 | exact (hk).1.1.1.1.1.1.1.1.2.2.2)))⟩, ⟨by (with_reducible repeat (first | refine blk_drewN ?_ _ | refine blk_drew ?_ | refine blk_alloc ?_ _)); exact BK210.out⟩, ⟨by repeat (first | (with_reducible first | exact HB.out | apply below_alloc | apply pw_below_drewN | apply below_drew1 | refine below_set ?_ GE210.out) | exact HB.out)⟩⟩
                · replace c41 := Bool.eq_false_iff.mpr c41
                  subst c41
                  have H1 : (laws_FnExactShiftBag.j1 kj11 l0 t217 t220 t226 true a1_0 a1_1) = some r := by rw [if_neg (show ¬ (false = true) by decide)] at H; exact H
                  clear H
                  have H := H1
                  clear H1
                  have H' := Aside0.mk H
                  clear H
                  obtain ⟨Ao44, co44, eo44⟩ := Kd.S_slice HO_9.out
                  subst eo44
                  obtain ⟨Ao45, co45, eo45⟩ := Kd.S_slice HO_6.out
                  subst eo45
                  go_wp2_with (first | (go_at_call 23; (with_reducible refine (laws_eqInt64SS.calls kj11 _ _ t226 _ _ t217 false _ ?side1 ?side2 ?side3 ?side4 A40.out).mono ?_); (case side1 => repeat (first | exact (Kd.S_reads' HO_9.out).2.2 | (with_reducible refine Kd.C_alloc ?_ _) | (with_reducible refine Kd.C_drewN ?_ _) | (with_reducible refine Kd.C_drew ?_))); (case side2 => exact (Kd.S_reads' HO_9.out).2.1); (case side3 => repeat (first | exact (Kd.S_reads' HO_6.out).2.2 | (with_reducible refine Kd.C_alloc ?_ _) | (with_reducible refine Kd.C_drewN ?_ _) | (with_reducible refine Kd.C_drew ?_))); (case side4 => exact (Kd.S_reads' HO_6.out).2.1); rintro e w' ⟨rfl, ⟨nd, rfl⟩⟩))
                  go_meet
                  case rel => exact ⟨_, (true), (by first | rfl | (simp; done) | (simp [*]; done)), H', ⟨by have := HJ11.out; first | omega | exact Nat.le_refl _⟩, ⟨by (with_reducible repeat (first | apply Kd.S_alloc | apply Kd.S_drewN | apply Kd.S_drew)); exact Kd.S_mono HO_6.out (fun k_ hk => by ((repeat' apply And.intro) <;> (first | trivial | exact (hk) | exact (hk).1 | exact (hk).2 | exact (hk).1.1 | exact (hk).1.2 | exact (hk).2.1 | exact (hk).2.2 | exact (hk).1.1.1 | exact (hk).1.1.2 | exact (hk).1.2.1 | exact (hk).1.2.2 | exact (hk).2.1.1 | exact (hk).2.1.2 | exact (hk).2.2.1 | exact (hk).2.2.2 | exact (hk).1.1.1.1 | exact (hk).1.1.1.2 | exact (hk).1.1.2.1 | exact (hk).1.1.2.2 | exact (hk).1.2.1.1 | exact (hk).1.2.1.2 | exact (hk).1.2.2.1 | exact (hk).1.2.2.2 | exact (hk).2.1.1.1 | exact (hk).2.1.1.2 | exact (hk).2.1.2.1 | exact (hk).2.1.2.2 | exact (hk).2.2.1.1 | exact (hk).2.2.1.2 | exact (hk).2.2.2.1 | exact (hk).2.2.2.2 | exact (hk).1.1.1.1.1 | exact (hk).1.1.1.1.2 | exact (hk).1.1.1.2.1 | exact (hk).1.1.1.2.2 | exact (hk).1.1.2.1.1 | exact (hk).1.1.2.1.2 | exact (hk).1.1.2.2.1 | exact (hk).1.1.2.2.2 | exact (hk).1.2.1.1.1 | exact (hk).1.2.1.1.2 | exact (hk).1.2.1.2.1 | exact (hk).1.2.1.2.2 | exact (hk).1.2.2.1.1 | exact (hk).1.2.2.1.2 | exact (hk).1.2.2.2.1 | exact (hk).1.2.2.2.2 | exact (hk).2.1.1.1.1 | exact (hk).2.1.1.1.2 | exact (hk).2.1.1.2.1 | exact (hk).2.1.1.2.2 | exact (hk).2.1.2.1.1 | exact (hk).2.1.2.1.2 | exact (hk).2.1.2.2.1 | exact (hk).2.1.2.2.2 | exact (hk).2.2.1.1.1 | exact (hk).2.2.1.1.2 | exact (hk).2.2.1.2.1 | exact (hk).2.2.1.2.2 | exact (hk).2.2.2.1.1 | exact (hk).2.2.2.1.2 | exact (hk).2.2.2.2.1 | exact (hk).2.2.2.2.2 | exact (hk).1.1.1.1.1.1 | exact (hk).1.1.1.1.1.2 | exact (hk).1.1.1.1.2.1 | exact (hk).1.1.1.1.2.2 | exact (hk).1.1.1.2.1.1 | exact (hk).1.1.1.2.1.2 | exact (hk).1.1.1.2.2.1 | exact (hk).1.1.1.2.2.2 | exact (hk).1.1.1.1.1.1.1 | exact (hk).1.1.1.1.1.1.2 | exact (hk).1.1.1.1.1.2.1 | exact (hk).1.1.1.1.1.2.2 | exact (hk).1.1.1.1.2.1.1 | exact (hk).1.1.1.1.2.1.2 | exact (hk).1.1.1.1.2.2.1 | exact (hk).1.1.1.1.2.2.2 | exact (hk).1.1.1.1.1.1.1.1 | exact (hk).1.1.1.1.1.1.1.2 | exact (hk).1.1.1.1.1.1.2.1 | exact (hk).1.1.1.1.1.1.2.2 | exact (hk).1.1.1.1.1.2.1.1 | exact (hk).1.1.1.1.1.2.1.2 | exact (hk).1.1.1.1.1.2.2.1 | exact (hk).1.1.1.1.1.2.2.2 | exact (hk).1.1.1.1.1.1.1.1.1 | exact (hk).1.1.1.1.1.1.1.1.2 | exact (hk).1.1.1.1.1.1.1.2.1 | exact (hk).1.1.1.1.1.1.1.2.2 | exact (hk).1.1.1.1.1.1.2.1.1 | exact (hk).1.1.1.1.1.1.2.1.2 | exact (hk).1.1.1.1.1.1.2.2.1 | exact (hk).1.1.1.1.1.1.2.2.2 | exact (hk).1.1.1.1.1.1.1.1.1.1 | exact (hk).1.1.1.1.1.1.1.1.1.2 | exact (hk).1.1.1.1.1.1.1.1.2.1 | exact (hk).1.1.1.1.1.1.1.1.2.2 | exact (hk).1.1.1.1.1.1.1.2.1.1 | exact (hk).1.1.1.1.1.1.1.2.1.2 | exact (hk).1.1.1.1.1.1.1.2.2.1 | exact (hk).1.1.1.1.1.1.1.2.2.2 | exact (hk).1.1.1.1.1.1.1.1.1.1.1 | exact (hk).1.1.1.1.1.1.1.1.1.1.2 | exact (hk).1.1.1.1.1.1.1.1.1.2.1 | exact (hk).1.1.1.1.1.1.1.1.1.2.2 | exact (hk).1.1.1.1.1.1.1.1.2.1.1 | exact (hk).1.1.1.1.1.1.1.1.2.1.2 | exact (hk).1.1.1.1.1.1.1.1.2.2.1 | exact (hk).1.1.1.1.1.1.1.1.2.2.2)))⟩, ⟨by (with_reducible repeat (first | apply Kd.S_alloc | apply Kd.S_drewN | apply Kd.S_drew)); exact Kd.S_mono HO_9.out (fun k_ hk => by ((repeat' apply And.intro) <;> (first | trivial | exact (hk) | exact (hk).1 | exact (hk).2 | exact (hk).1.1 | exact (hk).1.2 | exact (hk).2.1 | exact (hk).2.2 | exact (hk).1.1.1 | exact (hk).1.1.2 | exact (hk).1.2.1 | exact (hk).1.2.2 | exact (hk).2.1.1 | exact (hk).2.1.2 | exact (hk).2.2.1 | exact (hk).2.2.2 | exact (hk).1.1.1.1 | exact (hk).1.1.1.2 | exact (hk).1.1.2.1 | exact (hk).1.1.2.2 | exact (hk).1.2.1.1 | exact (hk).1.2.1.2 | exact (hk).1.2.2.1 | exact (hk).1.2.2.2 | exact (hk).2.1.1.1 | exact (hk).2.1.1.2 | exact (hk).2.1.2.1 | exact (hk).2.1.2.2 | exact (hk).2.2.1.1 | exact (hk).2.2.1.2 | exact (hk).2.2.2.1 | exact (hk).2.2.2.2 | exact (hk).1.1.1.1.1 | exact (hk).1.1.1.1.2 | exact (hk).1.1.1.2.1 | exact (hk).1.1.1.2.2 | exact (hk).1.1.2.1.1 | exact (hk).1.1.2.1.2 | exact (hk).1.1.2.2.1 | exact (hk).1.1.2.2.2 | exact (hk).1.2.1.1.1 | exact (hk).1.2.1.1.2 | exact (hk).1.2.1.2.1 | exact (hk).1.2.1.2.2 | exact (hk).1.2.2.1.1 | exact (hk).1.2.2.1.2 | exact (hk).1.2.2.2.1 | exact (hk).1.2.2.2.2 | exact (hk).2.1.1.1.1 | exact (hk).2.1.1.1.2 | exact (hk).2.1.1.2.1 | exact (hk).2.1.1.2.2 | exact (hk).2.1.2.1.1 | exact (hk).2.1.2.1.2 | exact (hk).2.1.2.2.1 | exact (hk).2.1.2.2.2 | exact (hk).2.2.1.1.1 | exact (hk).2.2.1.1.2 | exact (hk).2.2.1.2.1 | exact (hk).2.2.1.2.2 | exact (hk).2.2.2.1.1 | exact (hk).2.2.2.1.2 | exact (hk).2.2.2.2.1 | exact (hk).2.2.2.2.2 | exact (hk).1.1.1.1.1.1 | exact (hk).1.1.1.1.1.2 | exact (hk).1.1.1.1.2.1 | exact (hk).1.1.1.1.2.2 | exact (hk).1.1.1.2.1.1 | exact (hk).1.1.1.2.1.2 | exact (hk).1.1.1.2.2.1 | exact (hk).1.1.1.2.2.2 | exact (hk).1.1.1.1.1.1.1 | exact (hk).1.1.1.1.1.1.2 | exact (hk).1.1.1.1.1.2.1 | exact (hk).1.1.1.1.1.2.2 | exact (hk).1.1.1.1.2.1.1 | exact (hk).1.1.1.1.2.1.2 | exact (hk).1.1.1.1.2.2.1 | exact (hk).1.1.1.1.2.2.2 | exact (hk).1.1.1.1.1.1.1.1 | exact (hk).1.1.1.1.1.1.1.2 | exact (hk).1.1.1.1.1.1.2.1 | exact (hk).1.1.1.1.1.1.2.2 | exact (hk).1.1.1.1.1.2.1.1 | exact (hk).1.1.1.1.1.2.1.2 | exact (hk).1.1.1.1.1.2.2.1 | exact (hk).1.1.1.1.1.2.2.2 | exact (hk).1.1.1.1.1.1.1.1.1 | exact (hk).1.1.1.1.1.1.1.1.2 | exact (hk).1.1.1.1.1.1.1.2.1 | exact (hk).1.1.1.1.1.1.1.2.2 | exact (hk).1.1.1.1.1.1.2.1.1 | exact (hk).1.1.1.1.1.1.2.1.2 | exact (hk).1.1.1.1.1.1.2.2.1 | exact (hk).1.1.1.1.1.1.2.2.2 | exact (hk).1.1.1.1.1.1.1.1.1.1 | exact (hk).1.1.1.1.1.1.1.1.1.2 | exact (hk).1.1.1.1.1.1.1.1.2.1 | exact (hk).1.1.1.1.1.1.1.1.2.2 | exact (hk).1.1.1.1.1.1.1.2.1.1 | exact (hk).1.1.1.1.1.1.1.2.1.2 | exact (hk).1.1.1.1.1.1.1.2.2.1 | exact (hk).1.1.1.1.1.1.1.2.2.2 | exact (hk).1.1.1.1.1.1.1.1.1.1.1 | exact (hk).1.1.1.1.1.1.1.1.1.1.2 | exact (hk).1.1.1.1.1.1.1.1.1.2.1 | exact (hk).1.1.1.1.1.1.1.1.1.2.2 | exact (hk).1.1.1.1.1.1.1.1.2.1.1 | exact (hk).1.1.1.1.1.1.1.1.2.1.2 | exact (hk).1.1.1.1.1.1.1.1.2.2.1 | exact (hk).1.1.1.1.1.1.1.1.2.2.2)))⟩, ⟨by (with_reducible repeat (first | refine blk_drewN ?_ _ | refine blk_drew ?_ | refine blk_alloc ?_ _)); exact BK210.out⟩, ⟨by repeat (first | (with_reducible first | exact HB.out | apply below_alloc | apply pw_below_drewN | apply below_drew1 | refine below_set ?_ GE210.out) | exact HB.out)⟩⟩
            case rest =>
              clear HC35
              try clear c1
              try clear c2
              try clear p2
              try clear c3
              try clear c4
              try clear c4b0
              try clear c10
              try clear c19
              try clear c21
              try clear c23
              try clear c25
              try clear c30
              try clear c33
              try clear c34
              try clear c35
              try clear c36
              try clear c37
              try clear c39
              try clear c39b0
              try clear c41
              try clear hcz20_0
              try clear hcz20_1
              try clear hfz20_0
              try clear hfz20_1
              try clear p2
              obtain ⟨kq, x67_34, rfl, HA, HJ34, HO_6, HO_9, BK210, HB⟩ := hcut
              cases kq with
              | zero => exact absurd HA.out (by simp [laws_FnExactShiftBag.j1])
              | succ kj34 =>
                have H := HA.out
                clear HA
                simp only [laws_FnExactShiftBag.j1] at H
                by_cases c46 : x67_34 = true
                · subst c46
                  have H1 : (some false) = some r := by rw [if_pos rfl] at H; exact H
                  clear H
                  have H := H1
                  clear H1
                  obtain rfl := Option.some.inj H
                  go_wp2
                  go_ret
                  exact ⟨by first | rfl | (simp [errW_none, errW_some] <;> rfl) | (simp [*, errW_none, errW_some] <;> rfl), by repeat (first | (with_reducible first | exact HB.out | apply below_alloc | apply pw_below_drewN | apply below_drew1 | refine below_set ?_ GE210.out) | exact HB.out)⟩
                · replace c46 := Bool.eq_false_iff.mpr c46
                  subst c46
                  have H1 : ((laws_markInt64SS.f kj34 t226 1).bind fun bt238 => ((laws_heldInt64SS.f kj34 bt238.2 1).bind fun t240 => (if t240 < 0 then (some false) else (if t240 = bt238.1 then ((laws_toInt64SS.f kj34 l0).bind fun t241 => ((laws_toShift.f a1_0 a1_1).bind fun bt244 => ((impl_ShiftBag.f kj34 t241 bt244.1 bt244.2).bind fun bt246 => ((laws_eqInt64SS.f kj34 bt246.1 t217).bind fun t250 => (if t250 = true then (laws_FnExactShiftBag.j2 kj34 bt238.2 bt238.1 (bt246.2 != t220)) else (laws_FnExactShiftBag.j2 kj34 bt238.2 bt238.1 true)))))) else (some false))))) = some r := by rw [if_neg (show ¬ (false = true) by decide)] at H; exact H
                  clear H
                  have H := H1
                  clear H1
                  replace H := Option.bind_eq_some_iff.mp H
                  obtain ⟨⟨t238, t239⟩, A470, H⟩ := H
                  replace H : ((laws_heldInt64SS.f kj34 t239 1).bind fun t240 => (if t240 < 0 then (some false) else (if t240 = t238 then ((laws_toInt64SS.f kj34 l0).bind fun t241 => ((laws_toShift.f a1_0 a1_1).bind fun bt244 => ((impl_ShiftBag.f kj34 t241 bt244.1 bt244.2).bind fun bt246 => ((laws_eqInt64SS.f kj34 bt246.1 t217).bind fun t250 => (if t250 = true then (laws_FnExactShiftBag.j2 kj34 t239 t238 (bt246.2 != t220)) else (laws_FnExactShiftBag.j2 kj34 t239 t238 true)))))) else (some false)))) = some r := H
                  have A47 := Aside0.mk A470
                  clear A470
                  replace H := Option.bind_eq_some_iff.mp H
                  obtain ⟨t240, A480, H⟩ := H
                  replace H : (if t240 < 0 then (some false) else (if t240 = t238 then ((laws_toInt64SS.f kj34 l0).bind fun t241 => ((laws_toShift.f a1_0 a1_1).bind fun bt244 => ((impl_ShiftBag.f kj34 t241 bt244.1 bt244.2).bind fun bt246 => ((laws_eqInt64SS.f kj34 bt246.1 t217).bind fun t250 => (if t250 = true then (laws_FnExactShiftBag.j2 kj34 t239 t238 (bt246.2 != t220)) else (laws_FnExactShiftBag.j2 kj34 t239 t238 true)))))) else (some false))) = some r := H
                  have A48 := Aside0.mk A480
                  clear A480
                  by_cases c49 : t240 < 0
                  · rw [if_pos c49] at H
                    have c49b0 : decide (t240 < 0) = true := decide_eq_true c49
                    clear c49
                    obtain rfl := Option.some.inj H
                    obtain ⟨Ao50, co50, eo50⟩ := Kd.S_slice HO_9.out
                    subst eo50
                    go_wp2_with (first | ((with_reducible refine gate_callee (f := 37) rfl ?_); refine goesL_ (some 70) rfl rfl Try.func37 (by kernel_rfl) rfl #[.slice Ao50 t226.length co50, .int .i64 1] rfl (by (try simp only [List.map_toArray, List.map_cons, List.map_nil]); first | done | rfl | (simp only [List.length_drop, List.length_take]; rfl)) ?_; (with_reducible refine (laws_markInt64SS.calls kj34 (fun k_ => (N2 ≤ k_) ∧ ((some k_ ≠ (v218 : Value).ownBlock ∧ k_ ≠ gb210))) (.slice Ao50 t226.length co50) t226 1 t238 t239 w _ ?side1 ?side2 A47.out).mono ?_); (case side1 => repeat (first | (with_reducible first | exact HB.out | apply below_alloc | apply pw_below_drewN | apply below_drew1 | refine below_set ?_ GE210.out) | exact HB.out)); (case side2 => exact Kd.S_mono (Kd.S_types HO_9.out BK210.out (by decide)) (fun k_ hk => by ((repeat' apply And.intro) <;> (first | trivial | exact (hk) | exact (hk).1 | exact (hk).2 | exact (hk).1.1 | exact (hk).1.2 | exact (hk).2.1 | exact (hk).2.2 | exact (hk).1.1.1 | exact (hk).1.1.2 | exact (hk).1.2.1 | exact (hk).1.2.2 | exact (hk).2.1.1 | exact (hk).2.1.2 | exact (hk).2.2.1 | exact (hk).2.2.2 | exact (hk).1.1.1.1 | exact (hk).1.1.1.2 | exact (hk).1.1.2.1 | exact (hk).1.1.2.2 | exact (hk).1.2.1.1 | exact (hk).1.2.1.2 | exact (hk).1.2.2.1 | exact (hk).1.2.2.2 | exact (hk).2.1.1.1 | exact (hk).2.1.1.2 | exact (hk).2.1.2.1 | exact (hk).2.1.2.2 | exact (hk).2.2.1.1 | exact (hk).2.2.1.2 | exact (hk).2.2.2.1 | exact (hk).2.2.2.2 | exact (hk).1.1.1.1.1 | exact (hk).1.1.1.1.2 | exact (hk).1.1.1.2.1 | exact (hk).1.1.1.2.2 | exact (hk).1.1.2.1.1 | exact (hk).1.1.2.1.2 | exact (hk).1.1.2.2.1 | exact (hk).1.1.2.2.2 | exact (hk).1.2.1.1.1 | exact (hk).1.2.1.1.2 | exact (hk).1.2.1.2.1 | exact (hk).1.2.1.2.2 | exact (hk).1.2.2.1.1 | exact (hk).1.2.2.1.2 | exact (hk).1.2.2.2.1 | exact (hk).1.2.2.2.2 | exact (hk).2.1.1.1.1 | exact (hk).2.1.1.1.2 | exact (hk).2.1.1.2.1 | exact (hk).2.1.1.2.2 | exact (hk).2.1.2.1.1 | exact (hk).2.1.2.1.2 | exact (hk).2.1.2.2.1 | exact (hk).2.1.2.2.2 | exact (hk).2.2.1.1.1 | exact (hk).2.2.1.1.2 | exact (hk).2.2.1.2.1 | exact (hk).2.2.1.2.2 | exact (hk).2.2.2.1.1 | exact (hk).2.2.2.1.2 | exact (hk).2.2.2.2.1 | exact (hk).2.2.2.2.2 | exact (hk).1.1.1.1.1.1 | exact (hk).1.1.1.1.1.2 | exact (hk).1.1.1.1.2.1 | exact (hk).1.1.1.1.2.2 | exact (hk).1.1.1.2.1.1 | exact (hk).1.1.1.2.1.2 | exact (hk).1.1.1.2.2.1 | exact (hk).1.1.1.2.2.2 | exact (hk).1.1.1.1.1.1.1 | exact (hk).1.1.1.1.1.1.2 | exact (hk).1.1.1.1.1.2.1 | exact (hk).1.1.1.1.1.2.2 | exact (hk).1.1.1.1.2.1.1 | exact (hk).1.1.1.1.2.1.2 | exact (hk).1.1.1.1.2.2.1 | exact (hk).1.1.1.1.2.2.2 | exact (hk).1.1.1.1.1.1.1.1 | exact (hk).1.1.1.1.1.1.1.2 | exact (hk).1.1.1.1.1.1.2.1 | exact (hk).1.1.1.1.1.1.2.2 | exact (hk).1.1.1.1.1.2.1.1 | exact (hk).1.1.1.1.1.2.1.2 | exact (hk).1.1.1.1.1.2.2.1 | exact (hk).1.1.1.1.1.2.2.2 | exact (hk).1.1.1.1.1.1.1.1.1 | exact (hk).1.1.1.1.1.1.1.1.2 | exact (hk).1.1.1.1.1.1.1.2.1 | exact (hk).1.1.1.1.1.1.1.2.2 | exact (hk).1.1.1.1.1.1.2.1.1 | exact (hk).1.1.1.1.1.1.2.1.2 | exact (hk).1.1.1.1.1.1.2.2.1 | exact (hk).1.1.1.1.1.1.2.2.2 | exact (hk).1.1.1.1.1.1.1.1.1.1 | exact (hk).1.1.1.1.1.1.1.1.1.2 | exact (hk).1.1.1.1.1.1.1.1.2.1 | exact (hk).1.1.1.1.1.1.1.1.2.2 | exact (hk).1.1.1.1.1.1.1.2.1.1 | exact (hk).1.1.1.1.1.1.1.2.1.2 | exact (hk).1.1.1.1.1.1.1.2.2.1 | exact (hk).1.1.1.1.1.1.1.2.2.2 | exact (hk).1.1.1.1.1.1.1.1.1.1.1 | exact (hk).1.1.1.1.1.1.1.1.1.1.2 | exact (hk).1.1.1.1.1.1.1.1.1.2.1 | exact (hk).1.1.1.1.1.1.1.1.1.2.2 | exact (hk).1.1.1.1.1.1.1.1.2.1.1 | exact (hk).1.1.1.1.1.1.1.1.2.1.2 | exact (hk).1.1.1.1.1.1.1.1.2.2.1 | exact (hk).1.1.1.1.1.1.1.1.2.2.2)))); rintro e w51 ⟨rfl, hy0, hb, hkp⟩; refine ⟨_, rfl, ?_⟩; have n0_ := Aside0.mk ((Kd.S_kept (by (with_reducible repeat (first | apply Kd.S_alloc | apply Kd.S_drewN | apply Kd.S_drew)); exact HO_6.out) hkp (fun k_ hk hs_ => by have a_ : k_ < N1 ∧ k_ < N2 := (by ((repeat' apply And.intro) <;> (first | trivial | exact (hk) | exact (hk).1 | exact (hk).2 | exact (hk).1.1 | exact (hk).1.2 | exact (hk).2.1 | exact (hk).2.2 | exact (hk).1.1.1 | exact (hk).1.1.2 | exact (hk).1.2.1 | exact (hk).1.2.2 | exact (hk).2.1.1 | exact (hk).2.1.2 | exact (hk).2.2.1 | exact (hk).2.2.2 | exact (hk).1.1.1.1 | exact (hk).1.1.1.2 | exact (hk).1.1.2.1 | exact (hk).1.1.2.2 | exact (hk).1.2.1.1 | exact (hk).1.2.1.2 | exact (hk).1.2.2.1 | exact (hk).1.2.2.2 | exact (hk).2.1.1.1 | exact (hk).2.1.1.2 | exact (hk).2.1.2.1 | exact (hk).2.1.2.2 | exact (hk).2.2.1.1 | exact (hk).2.2.1.2 | exact (hk).2.2.2.1 | exact (hk).2.2.2.2 | exact (hk).1.1.1.1.1 | exact (hk).1.1.1.1.2 | exact (hk).1.1.1.2.1 | exact (hk).1.1.1.2.2 | exact (hk).1.1.2.1.1 | exact (hk).1.1.2.1.2 | exact (hk).1.1.2.2.1 | exact (hk).1.1.2.2.2 | exact (hk).1.2.1.1.1 | exact (hk).1.2.1.1.2 | exact (hk).1.2.1.2.1 | exact (hk).1.2.1.2.2 | exact (hk).1.2.2.1.1 | exact (hk).1.2.2.1.2 | exact (hk).1.2.2.2.1 | exact (hk).1.2.2.2.2 | exact (hk).2.1.1.1.1 | exact (hk).2.1.1.1.2 | exact (hk).2.1.1.2.1 | exact (hk).2.1.1.2.2 | exact (hk).2.1.2.1.1 | exact (hk).2.1.2.1.2 | exact (hk).2.1.2.2.1 | exact (hk).2.1.2.2.2 | exact (hk).2.2.1.1.1 | exact (hk).2.2.1.1.2 | exact (hk).2.2.1.2.1 | exact (hk).2.2.1.2.2 | exact (hk).2.2.2.1.1 | exact (hk).2.2.2.1.2 | exact (hk).2.2.2.2.1 | exact (hk).2.2.2.2.2 | exact (hk).1.1.1.1.1.1 | exact (hk).1.1.1.1.1.2 | exact (hk).1.1.1.1.2.1 | exact (hk).1.1.1.1.2.2 | exact (hk).1.1.1.2.1.1 | exact (hk).1.1.1.2.1.2 | exact (hk).1.1.1.2.2.1 | exact (hk).1.1.1.2.2.2 | exact (hk).1.1.1.1.1.1.1 | exact (hk).1.1.1.1.1.1.2 | exact (hk).1.1.1.1.1.2.1 | exact (hk).1.1.1.1.1.2.2 | exact (hk).1.1.1.1.2.1.1 | exact (hk).1.1.1.1.2.1.2 | exact (hk).1.1.1.1.2.2.1 | exact (hk).1.1.1.1.2.2.2 | exact (hk).1.1.1.1.1.1.1.1 | exact (hk).1.1.1.1.1.1.1.2 | exact (hk).1.1.1.1.1.1.2.1 | exact (hk).1.1.1.1.1.1.2.2 | exact (hk).1.1.1.1.1.2.1.1 | exact (hk).1.1.1.1.1.2.1.2 | exact (hk).1.1.1.1.1.2.2.1 | exact (hk).1.1.1.1.1.2.2.2 | exact (hk).1.1.1.1.1.1.1.1.1 | exact (hk).1.1.1.1.1.1.1.1.2 | exact (hk).1.1.1.1.1.1.1.2.1 | exact (hk).1.1.1.1.1.1.1.2.2 | exact (hk).1.1.1.1.1.1.2.1.1 | exact (hk).1.1.1.1.1.1.2.1.2 | exact (hk).1.1.1.1.1.1.2.2.1 | exact (hk).1.1.1.1.1.1.2.2.2 | exact (hk).1.1.1.1.1.1.1.1.1.1 | exact (hk).1.1.1.1.1.1.1.1.1.2 | exact (hk).1.1.1.1.1.1.1.1.2.1 | exact (hk).1.1.1.1.1.1.1.1.2.2 | exact (hk).1.1.1.1.1.1.1.2.1.1 | exact (hk).1.1.1.1.1.1.1.2.1.2 | exact (hk).1.1.1.1.1.1.1.2.2.1 | exact (hk).1.1.1.1.1.1.1.2.2.2 | exact (hk).1.1.1.1.1.1.1.1.1.1.1 | exact (hk).1.1.1.1.1.1.1.1.1.1.2 | exact (hk).1.1.1.1.1.1.1.1.1.2.1 | exact (hk).1.1.1.1.1.1.1.1.1.2.2 | exact (hk).1.1.1.1.1.1.1.1.2.1.1 | exact (hk).1.1.1.1.1.1.1.1.2.1.2 | exact (hk).1.1.1.1.1.1.1.1.2.2.1 | exact (hk).1.1.1.1.1.1.1.1.2.2.2))); have b_ : N2 ≤ k_ := hs_.1; omega))); have n1_ := Aside0.mk (Kd.S_mono (ok' := fun k_ => (some k_ ≠ (v218 : Value).ownBlock) ∧ (N2 ≤ k_)) hy0 (fun k_ hk => by ((repeat' apply And.intro) <;> (first | trivial | exact (hk) | exact (hk).1 | exact (hk).2 | exact (hk).1.1 | exact (hk).1.2 | exact (hk).2.1 | exact (hk).2.2 | exact (hk).1.1.1 | exact (hk).1.1.2 | exact (hk).1.2.1 | exact (hk).1.2.2 | exact (hk).2.1.1 | exact (hk).2.1.2 | exact (hk).2.2.1 | exact (hk).2.2.2 | exact (hk).1.1.1.1 | exact (hk).1.1.1.2 | exact (hk).1.1.2.1 | exact (hk).1.1.2.2 | exact (hk).1.2.1.1 | exact (hk).1.2.1.2 | exact (hk).1.2.2.1 | exact (hk).1.2.2.2 | exact (hk).2.1.1.1 | exact (hk).2.1.1.2 | exact (hk).2.1.2.1 | exact (hk).2.1.2.2 | exact (hk).2.2.1.1 | exact (hk).2.2.1.2 | exact (hk).2.2.2.1 | exact (hk).2.2.2.2 | exact (hk).1.1.1.1.1 | exact (hk).1.1.1.1.2 | exact (hk).1.1.1.2.1 | exact (hk).1.1.1.2.2 | exact (hk).1.1.2.1.1 | exact (hk).1.1.2.1.2 | exact (hk).1.1.2.2.1 | exact (hk).1.1.2.2.2 | exact (hk).1.2.1.1.1 | exact (hk).1.2.1.1.2 | exact (hk).1.2.1.2.1 | exact (hk).1.2.1.2.2 | exact (hk).1.2.2.1.1 | exact (hk).1.2.2.1.2 | exact (hk).1.2.2.2.1 | exact (hk).1.2.2.2.2 | exact (hk).2.1.1.1.1 | exact (hk).2.1.1.1.2 | exact (hk).2.1.1.2.1 | exact (hk).2.1.1.2.2 | exact (hk).2.1.2.1.1 | exact (hk).2.1.2.1.2 | exact (hk).2.1.2.2.1 | exact (hk).2.1.2.2.2 | exact (hk).2.2.1.1.1 | exact (hk).2.2.1.1.2 | exact (hk).2.2.1.2.1 | exact (hk).2.2.1.2.2 | exact (hk).2.2.2.1.1 | exact (hk).2.2.2.1.2 | exact (hk).2.2.2.2.1 | exact (hk).2.2.2.2.2 | exact (hk).1.1.1.1.1.1 | exact (hk).1.1.1.1.1.2 | exact (hk).1.1.1.1.2.1 | exact (hk).1.1.1.1.2.2 | exact (hk).1.1.1.2.1.1 | exact (hk).1.1.1.2.1.2 | exact (hk).1.1.1.2.2.1 | exact (hk).1.1.1.2.2.2 | exact (hk).1.1.1.1.1.1.1 | exact (hk).1.1.1.1.1.1.2 | exact (hk).1.1.1.1.1.2.1 | exact (hk).1.1.1.1.1.2.2 | exact (hk).1.1.1.1.2.1.1 | exact (hk).1.1.1.1.2.1.2 | exact (hk).1.1.1.1.2.2.1 | exact (hk).1.1.1.1.2.2.2 | exact (hk).1.1.1.1.1.1.1.1 | exact (hk).1.1.1.1.1.1.1.2 | exact (hk).1.1.1.1.1.1.2.1 | exact (hk).1.1.1.1.1.1.2.2 | exact (hk).1.1.1.1.1.2.1.1 | exact (hk).1.1.1.1.1.2.1.2 | exact (hk).1.1.1.1.1.2.2.1 | exact (hk).1.1.1.1.1.2.2.2 | exact (hk).1.1.1.1.1.1.1.1.1 | exact (hk).1.1.1.1.1.1.1.1.2 | exact (hk).1.1.1.1.1.1.1.2.1 | exact (hk).1.1.1.1.1.1.1.2.2 | exact (hk).1.1.1.1.1.1.2.1.1 | exact (hk).1.1.1.1.1.1.2.1.2 | exact (hk).1.1.1.1.1.1.2.2.1 | exact (hk).1.1.1.1.1.1.2.2.2 | exact (hk).1.1.1.1.1.1.1.1.1.1 | exact (hk).1.1.1.1.1.1.1.1.1.2 | exact (hk).1.1.1.1.1.1.1.1.2.1 | exact (hk).1.1.1.1.1.1.1.1.2.2 | exact (hk).1.1.1.1.1.1.1.2.1.1 | exact (hk).1.1.1.1.1.1.1.2.1.2 | exact (hk).1.1.1.1.1.1.1.2.2.1 | exact (hk).1.1.1.1.1.1.1.2.2.2 | exact (hk).1.1.1.1.1.1.1.1.1.1.1 | exact (hk).1.1.1.1.1.1.1.1.1.1.2 | exact (hk).1.1.1.1.1.1.1.1.1.2.1 | exact (hk).1.1.1.1.1.1.1.1.1.2.2 | exact (hk).1.1.1.1.1.1.1.1.2.1.1 | exact (hk).1.1.1.1.1.1.1.1.2.1.2 | exact (hk).1.1.1.1.1.1.1.1.2.2.1 | exact (hk).1.1.1.1.1.1.1.1.2.2.2)))); have n2_ := Aside0.mk (blk_kept (by (with_reducible repeat (first | refine blk_drewN ?_ _ | refine blk_drew ?_ | refine blk_alloc ?_ _)); exact BK210.out) hkp (fun hs_ => (fun e_ => (e_.2) rfl) hs_.2)); have n3_ := Aside0.mk (hb); clear HO_6; clear HO_9; clear BK210; clear HB; have HO_6 := n0_; have HO_9 := n1_; have BK210 := n2_; have HB := n3_; clear n0_ n1_ n2_ n3_; (try clear hb); (try clear hkp); (try clear hy0)) | ((with_reducible refine gate_callee (f := 38) rfl ?_); refine goesL_ (some 73) rfl rfl Try.func38 (by kernel_rfl) rfl #[.slice Ao50 t239.length co50, .int .i64 1] rfl (by (try simp only [List.map_toArray, List.map_cons, List.map_nil]); first | done | (rw [show t239.length = t226.length from (Kd.S_reads' HO_9.out).1.symm] <;> rfl) | rfl | (simp only [List.length_drop, List.length_take]; rfl)) ?_; (with_reducible refine (laws_heldInt64SS.calls kj34 _ _ t239 1 t240 _ ?side1 ?side2 A48.out).mono ?_); (case side1 => repeat (first | exact (Kd.S_reads' HO_9.out).2.2 | (with_reducible refine Kd.C_alloc ?_ _) | (with_reducible refine Kd.C_drewN ?_ _) | (with_reducible refine Kd.C_drew ?_))); (case side2 => rw [show t239.length = t226.length from (Kd.S_reads' HO_9.out).1.symm]; exact (Kd.S_reads' HO_9.out).2.1); rintro e w' ⟨rfl, ⟨nd, rfl⟩⟩; refine ⟨_, rfl, ?_⟩))
                    go_ret
                    exact ⟨by first | rfl | (simp [errW_none, errW_some] <;> rfl) | (simp [*, errW_none, errW_some] <;> rfl), by repeat (first | (with_reducible first | exact HB.out | apply below_alloc | apply pw_below_drewN | apply below_drew1 | refine below_set ?_ GE210.out) | exact HB.out)⟩
                  · rw [if_neg c49] at H
                    have c49b0 : decide (t240 < 0) = false := decide_eq_false c49
                    clear c49
                    by_cases c52 : t240 = t238
                    · rw [if_pos c52] at H
                      have c52b0 : (t240 == t238) = true := beq_iff_eq.mpr c52
                      have c52b1 : (t240 != t238) = false := bne_eq_false_iff_eq.mpr c52
                      clear c52
                      replace H := Option.bind_eq_some_iff.mp H
                      obtain ⟨t241, A530, H⟩ := H
                      replace H : ((laws_toShift.f a1_0 a1_1).bind fun bt244 => ((impl_ShiftBag.f kj34 t241 bt244.1 bt244.2).bind fun bt246 => ((laws_eqInt64SS.f kj34 bt246.1 t217).bind fun t250 => (if t250 = true then (laws_FnExactShiftBag.j2 kj34 t239 t238 (bt246.2 != t220)) else (laws_FnExactShiftBag.j2 kj34 t239 t238 true))))) = some r := H
                      have A53 := Aside0.mk A530
                      clear A530
                      replace H := Option.bind_eq_some_iff.mp H
                      obtain ⟨⟨t244, t245⟩, A540, H⟩ := H
                      replace H : ((impl_ShiftBag.f kj34 t241 t244 t245).bind fun bt246 => ((laws_eqInt64SS.f kj34 bt246.1 t217).bind fun t250 => (if t250 = true then (laws_FnExactShiftBag.j2 kj34 t239 t238 (bt246.2 != t220)) else (laws_FnExactShiftBag.j2 kj34 t239 t238 true)))) = some r := H
                      have A54 := Aside0.mk A540
                      clear A540
                      replace H := Option.bind_eq_some_iff.mp H
                      obtain ⟨⟨t246, t249⟩, A550, H⟩ := H
                      replace H : ((laws_eqInt64SS.f kj34 t246 t217).bind fun t250 => (if t250 = true then (laws_FnExactShiftBag.j2 kj34 t239 t238 (t249 != t220)) else (laws_FnExactShiftBag.j2 kj34 t239 t238 true))) = some r := H
                      have A55 := Aside0.mk A550
                      clear A550
                      have HC56 := Aside0.mk H
                      clear H
                      obtain ⟨Ao57, co57, eo57⟩ := Kd.S_slice HO_9.out
                      subst eo57
                      try go_wp2_with (first | ((with_reducible refine gate_callee (f := 37) rfl ?_); refine goesL_ (some 70) rfl rfl Try.func37 (by kernel_rfl) rfl #[.slice Ao57 t226.length co57, .int .i64 1] rfl (by (try simp only [List.map_toArray, List.map_cons, List.map_nil]); first | done | rfl | (simp only [List.length_drop, List.length_take]; rfl)) ?_; (with_reducible refine (laws_markInt64SS.calls kj34 (fun k_ => (N2 ≤ k_) ∧ ((some k_ ≠ (v218 : Value).ownBlock ∧ k_ ≠ gb210))) (.slice Ao57 t226.length co57) t226 1 t238 t239 w _ ?side1 ?side2 A47.out).mono ?_); (case side1 => repeat (first | (with_reducible first | exact HB.out | apply below_alloc | apply pw_below_drewN | apply below_drew1 | refine below_set ?_ GE210.out) | exact HB.out)); (case side2 => exact Kd.S_mono (Kd.S_types HO_9.out BK210.out (by decide)) (fun k_ hk => by ((repeat' apply And.intro) <;> (first | trivial | exact (hk) | exact (hk).1 | exact (hk).2 | exact (hk).1.1 | exact (hk).1.2 | exact (hk).2.1 | exact (hk).2.2 | exact (hk).1.1.1 | exact (hk).1.1.2 | exact (hk).1.2.1 | exact (hk).1.2.2 | exact (hk).2.1.1 | exact (hk).2.1.2 | exact (hk).2.2.1 | exact (hk).2.2.2 | exact (hk).1.1.1.1 | exact (hk).1.1.1.2 | exact (hk).1.1.2.1 | exact (hk).1.1.2.2 | exact (hk).1.2.1.1 | exact (hk).1.2.1.2 | exact (hk).1.2.2.1 | exact (hk).1.2.2.2 | exact (hk).2.1.1.1 | exact (hk).2.1.1.2 | exact (hk).2.1.2.1 | exact (hk).2.1.2.2 | exact (hk).2.2.1.1 | exact (hk).2.2.1.2 | exact (hk).2.2.2.1 | exact (hk).2.2.2.2 | exact (hk).1.1.1.1.1 | exact (hk).1.1.1.1.2 | exact (hk).1.1.1.2.1 | exact (hk).1.1.1.2.2 | exact (hk).1.1.2.1.1 | exact (hk).1.1.2.1.2 | exact (hk).1.1.2.2.1 | exact (hk).1.1.2.2.2 | exact (hk).1.2.1.1.1 | exact (hk).1.2.1.1.2 | exact (hk).1.2.1.2.1 | exact (hk).1.2.1.2.2 | exact (hk).1.2.2.1.1 | exact (hk).1.2.2.1.2 | exact (hk).1.2.2.2.1 | exact (hk).1.2.2.2.2 | exact (hk).2.1.1.1.1 | exact (hk).2.1.1.1.2 | exact (hk).2.1.1.2.1 | exact (hk).2.1.1.2.2 | exact (hk).2.1.2.1.1 | exact (hk).2.1.2.1.2 | exact (hk).2.1.2.2.1 | exact (hk).2.1.2.2.2 | exact (hk).2.2.1.1.1 | exact (hk).2.2.1.1.2 | exact (hk).2.2.1.2.1 | exact (hk).2.2.1.2.2 | exact (hk).2.2.2.1.1 | exact (hk).2.2.2.1.2 | exact (hk).2.2.2.2.1 | exact (hk).2.2.2.2.2 | exact (hk).1.1.1.1.1.1 | exact (hk).1.1.1.1.1.2 | exact (hk).1.1.1.1.2.1 | exact (hk).1.1.1.1.2.2 | exact (hk).1.1.1.2.1.1 | exact (hk).1.1.1.2.1.2 | exact (hk).1.1.1.2.2.1 | exact (hk).1.1.1.2.2.2 | exact (hk).1.1.1.1.1.1.1 | exact (hk).1.1.1.1.1.1.2 | exact (hk).1.1.1.1.1.2.1 | exact (hk).1.1.1.1.1.2.2 | exact (hk).1.1.1.1.2.1.1 | exact (hk).1.1.1.1.2.1.2 | exact (hk).1.1.1.1.2.2.1 | exact (hk).1.1.1.1.2.2.2 | exact (hk).1.1.1.1.1.1.1.1 | exact (hk).1.1.1.1.1.1.1.2 | exact (hk).1.1.1.1.1.1.2.1 | exact (hk).1.1.1.1.1.1.2.2 | exact (hk).1.1.1.1.1.2.1.1 | exact (hk).1.1.1.1.1.2.1.2 | exact (hk).1.1.1.1.1.2.2.1 | exact (hk).1.1.1.1.1.2.2.2 | exact (hk).1.1.1.1.1.1.1.1.1 | exact (hk).1.1.1.1.1.1.1.1.2 | exact (hk).1.1.1.1.1.1.1.2.1 | exact (hk).1.1.1.1.1.1.1.2.2 | exact (hk).1.1.1.1.1.1.2.1.1 | exact (hk).1.1.1.1.1.1.2.1.2 | exact (hk).1.1.1.1.1.1.2.2.1 | exact (hk).1.1.1.1.1.1.2.2.2 | exact (hk).1.1.1.1.1.1.1.1.1.1 | exact (hk).1.1.1.1.1.1.1.1.1.2 | exact (hk).1.1.1.1.1.1.1.1.2.1 | exact (hk).1.1.1.1.1.1.1.1.2.2 | exact (hk).1.1.1.1.1.1.1.2.1.1 | exact (hk).1.1.1.1.1.1.1.2.1.2 | exact (hk).1.1.1.1.1.1.1.2.2.1 | exact (hk).1.1.1.1.1.1.1.2.2.2 | exact (hk).1.1.1.1.1.1.1.1.1.1.1 | exact (hk).1.1.1.1.1.1.1.1.1.1.2 | exact (hk).1.1.1.1.1.1.1.1.1.2.1 | exact (hk).1.1.1.1.1.1.1.1.1.2.2 | exact (hk).1.1.1.1.1.1.1.1.2.1.1 | exact (hk).1.1.1.1.1.1.1.1.2.1.2 | exact (hk).1.1.1.1.1.1.1.1.2.2.1 | exact (hk).1.1.1.1.1.1.1.1.2.2.2)))); rintro e w58 ⟨rfl, hy0, hb, hkp⟩; refine ⟨_, rfl, ?_⟩; have n0_ := Aside0.mk ((Kd.S_kept (by (with_reducible repeat (first | apply Kd.S_alloc | apply Kd.S_drewN | apply Kd.S_drew)); exact HO_6.out) hkp (fun k_ hk hs_ => by have a_ : k_ < N1 ∧ k_ < N2 := (by ((repeat' apply And.intro) <;> (first | trivial | exact (hk) | exact (hk).1 | exact (hk).2 | exact (hk).1.1 | exact (hk).1.2 | exact (hk).2.1 | exact (hk).2.2 | exact (hk).1.1.1 | exact (hk).1.1.2 | exact (hk).1.2.1 | exact (hk).1.2.2 | exact (hk).2.1.1 | exact (hk).2.1.2 | exact (hk).2.2.1 | exact (hk).2.2.2 | exact (hk).1.1.1.1 | exact (hk).1.1.1.2 | exact (hk).1.1.2.1 | exact (hk).1.1.2.2 | exact (hk).1.2.1.1 | exact (hk).1.2.1.2 | exact (hk).1.2.2.1 | exact (hk).1.2.2.2 | exact (hk).2.1.1.1 | exact (hk).2.1.1.2 | exact (hk).2.1.2.1 | exact (hk).2.1.2.2 | exact (hk).2.2.1.1 | exact (hk).2.2.1.2 | exact (hk).2.2.2.1 | exact (hk).2.2.2.2 | exact (hk).1.1.1.1.1 | exact (hk).1.1.1.1.2 | exact (hk).1.1.1.2.1 | exact (hk).1.1.1.2.2 | exact (hk).1.1.2.1.1 | exact (hk).1.1.2.1.2 | exact (hk).1.1.2.2.1 | exact (hk).1.1.2.2.2 | exact (hk).1.2.1.1.1 | exact (hk).1.2.1.1.2 | exact (hk).1.2.1.2.1 | exact (hk).1.2.1.2.2 | exact (hk).1.2.2.1.1 | exact (hk).1.2.2.1.2 | exact (hk).1.2.2.2.1 | exact (hk).1.2.2.2.2 | exact (hk).2.1.1.1.1 | exact (hk).2.1.1.1.2 | exact (hk).2.1.1.2.1 | exact (hk).2.1.1.2.2 | exact (hk).2.1.2.1.1 | exact (hk).2.1.2.1.2 | exact (hk).2.1.2.2.1 | exact (hk).2.1.2.2.2 | exact (hk).2.2.1.1.1 | exact (hk).2.2.1.1.2 | exact (hk).2.2.1.2.1 | exact (hk).2.2.1.2.2 | exact (hk).2.2.2.1.1 | exact (hk).2.2.2.1.2 | exact (hk).2.2.2.2.1 | exact (hk).2.2.2.2.2 | exact (hk).1.1.1.1.1.1 | exact (hk).1.1.1.1.1.2 | exact (hk).1.1.1.1.2.1 | exact (hk).1.1.1.1.2.2 | exact (hk).1.1.1.2.1.1 | exact (hk).1.1.1.2.1.2 | exact (hk).1.1.1.2.2.1 | exact (hk).1.1.1.2.2.2 | exact (hk).1.1.1.1.1.1.1 | exact (hk).1.1.1.1.1.1.2 | exact (hk).1.1.1.1.1.2.1 | exact (hk).1.1.1.1.1.2.2 | exact (hk).1.1.1.1.2.1.1 | exact (hk).1.1.1.1.2.1.2 | exact (hk).1.1.1.1.2.2.1 | exact (hk).1.1.1.1.2.2.2 | exact (hk).1.1.1.1.1.1.1.1 | exact (hk).1.1.1.1.1.1.1.2 | exact (hk).1.1.1.1.1.1.2.1 | exact (hk).1.1.1.1.1.1.2.2 | exact (hk).1.1.1.1.1.2.1.1 | exact (hk).1.1.1.1.1.2.1.2 | exact (hk).1.1.1.1.1.2.2.1 | exact (hk).1.1.1.1.1.2.2.2 | exact (hk).1.1.1.1.1.1.1.1.1 | exact (hk).1.1.1.1.1.1.1.1.2 | exact (hk).1.1.1.1.1.1.1.2.1 | exact (hk).1.1.1.1.1.1.1.2.2 | exact (hk).1.1.1.1.1.1.2.1.1 | exact (hk).1.1.1.1.1.1.2.1.2 | exact (hk).1.1.1.1.1.1.2.2.1 | exact (hk).1.1.1.1.1.1.2.2.2 | exact (hk).1.1.1.1.1.1.1.1.1.1 | exact (hk).1.1.1.1.1.1.1.1.1.2 | exact (hk).1.1.1.1.1.1.1.1.2.1 | exact (hk).1.1.1.1.1.1.1.1.2.2 | exact (hk).1.1.1.1.1.1.1.2.1.1 | exact (hk).1.1.1.1.1.1.1.2.1.2 | exact (hk).1.1.1.1.1.1.1.2.2.1 | exact (hk).1.1.1.1.1.1.1.2.2.2 | exact (hk).1.1.1.1.1.1.1.1.1.1.1 | exact (hk).1.1.1.1.1.1.1.1.1.1.2 | exact (hk).1.1.1.1.1.1.1.1.1.2.1 | exact (hk).1.1.1.1.1.1.1.1.1.2.2 | exact (hk).1.1.1.1.1.1.1.1.2.1.1 | exact (hk).1.1.1.1.1.1.1.1.2.1.2 | exact (hk).1.1.1.1.1.1.1.1.2.2.1 | exact (hk).1.1.1.1.1.1.1.1.2.2.2))); have b_ : N2 ≤ k_ := hs_.1; omega))); have n1_ := Aside0.mk (Kd.S_mono (ok' := fun k_ => (some k_ ≠ (v218 : Value).ownBlock) ∧ (N2 ≤ k_)) hy0 (fun k_ hk => by ((repeat' apply And.intro) <;> (first | trivial | exact (hk) | exact (hk).1 | exact (hk).2 | exact (hk).1.1 | exact (hk).1.2 | exact (hk).2.1 | exact (hk).2.2 | exact (hk).1.1.1 | exact (hk).1.1.2 | exact (hk).1.2.1 | exact (hk).1.2.2 | exact (hk).2.1.1 | exact (hk).2.1.2 | exact (hk).2.2.1 | exact (hk).2.2.2 | exact (hk).1.1.1.1 | exact (hk).1.1.1.2 | exact (hk).1.1.2.1 | exact (hk).1.1.2.2 | exact (hk).1.2.1.1 | exact (hk).1.2.1.2 | exact (hk).1.2.2.1 | exact (hk).1.2.2.2 | exact (hk).2.1.1.1 | exact (hk).2.1.1.2 | exact (hk).2.1.2.1 | exact (hk).2.1.2.2 | exact (hk).2.2.1.1 | exact (hk).2.2.1.2 | exact (hk).2.2.2.1 | exact (hk).2.2.2.2 | exact (hk).1.1.1.1.1 | exact (hk).1.1.1.1.2 | exact (hk).1.1.1.2.1 | exact (hk).1.1.1.2.2 | exact (hk).1.1.2.1.1 | exact (hk).1.1.2.1.2 | exact (hk).1.1.2.2.1 | exact (hk).1.1.2.2.2 | exact (hk).1.2.1.1.1 | exact (hk).1.2.1.1.2 | exact (hk).1.2.1.2.1 | exact (hk).1.2.1.2.2 | exact (hk).1.2.2.1.1 | exact (hk).1.2.2.1.2 | exact (hk).1.2.2.2.1 | exact (hk).1.2.2.2.2 | exact (hk).2.1.1.1.1 | exact (hk).2.1.1.1.2 | exact (hk).2.1.1.2.1 | exact (hk).2.1.1.2.2 | exact (hk).2.1.2.1.1 | exact (hk).2.1.2.1.2 | exact (hk).2.1.2.2.1 | exact (hk).2.1.2.2.2 | exact (hk).2.2.1.1.1 | exact (hk).2.2.1.1.2 | exact (hk).2.2.1.2.1 | exact (hk).2.2.1.2.2 | exact (hk).2.2.2.1.1 | exact (hk).2.2.2.1.2 | exact (hk).2.2.2.2.1 | exact (hk).2.2.2.2.2 | exact (hk).1.1.1.1.1.1 | exact (hk).1.1.1.1.1.2 | exact (hk).1.1.1.1.2.1 | exact (hk).1.1.1.1.2.2 | exact (hk).1.1.1.2.1.1 | exact (hk).1.1.1.2.1.2 | exact (hk).1.1.1.2.2.1 | exact (hk).1.1.1.2.2.2 | exact (hk).1.1.1.1.1.1.1 | exact (hk).1.1.1.1.1.1.2 | exact (hk).1.1.1.1.1.2.1 | exact (hk).1.1.1.1.1.2.2 | exact (hk).1.1.1.1.2.1.1 | exact (hk).1.1.1.1.2.1.2 | exact (hk).1.1.1.1.2.2.1 | exact (hk).1.1.1.1.2.2.2 | exact (hk).1.1.1.1.1.1.1.1 | exact (hk).1.1.1.1.1.1.1.2 | exact (hk).1.1.1.1.1.1.2.1 | exact (hk).1.1.1.1.1.1.2.2 | exact (hk).1.1.1.1.1.2.1.1 | exact (hk).1.1.1.1.1.2.1.2 | exact (hk).1.1.1.1.1.2.2.1 | exact (hk).1.1.1.1.1.2.2.2 | exact (hk).1.1.1.1.1.1.1.1.1 | exact (hk).1.1.1.1.1.1.1.1.2 | exact (hk).1.1.1.1.1.1.1.2.1 | exact (hk).1.1.1.1.1.1.1.2.2 | exact (hk).1.1.1.1.1.1.2.1.1 | exact (hk).1.1.1.1.1.1.2.1.2 | exact (hk).1.1.1.1.1.1.2.2.1 | exact (hk).1.1.1.1.1.1.2.2.2 | exact (hk).1.1.1.1.1.1.1.1.1.1 | exact (hk).1.1.1.1.1.1.1.1.1.2 | exact (hk).1.1.1.1.1.1.1.1.2.1 | exact (hk).1.1.1.1.1.1.1.1.2.2 | exact (hk).1.1.1.1.1.1.1.2.1.1 | exact (hk).1.1.1.1.1.1.1.2.1.2 | exact (hk).1.1.1.1.1.1.1.2.2.1 | exact (hk).1.1.1.1.1.1.1.2.2.2 | exact (hk).1.1.1.1.1.1.1.1.1.1.1 | exact (hk).1.1.1.1.1.1.1.1.1.1.2 | exact (hk).1.1.1.1.1.1.1.1.1.2.1 | exact (hk).1.1.1.1.1.1.1.1.1.2.2 | exact (hk).1.1.1.1.1.1.1.1.2.1.1 | exact (hk).1.1.1.1.1.1.1.1.2.1.2 | exact (hk).1.1.1.1.1.1.1.1.2.2.1 | exact (hk).1.1.1.1.1.1.1.1.2.2.2)))); have n2_ := Aside0.mk (blk_kept (by (with_reducible repeat (first | refine blk_drewN ?_ _ | refine blk_drew ?_ | refine blk_alloc ?_ _)); exact BK210.out) hkp (fun hs_ => (fun e_ => (e_.2) rfl) hs_.2)); have n3_ := Aside0.mk (hb); clear HO_6; clear HO_9; clear BK210; clear HB; have HO_6 := n0_; have HO_9 := n1_; have BK210 := n2_; have HB := n3_; clear n0_ n1_ n2_ n3_; (try clear hb); (try clear hkp); (try clear hy0)) | ((with_reducible refine gate_callee (f := 38) rfl ?_); refine goesL_ (some 73) rfl rfl Try.func38 (by kernel_rfl) rfl #[.slice Ao57 t239.length co57, .int .i64 1] rfl (by (try simp only [List.map_toArray, List.map_cons, List.map_nil]); first | done | (rw [show t239.length = t226.length from (Kd.S_reads' HO_9.out).1.symm] <;> rfl) | rfl | (simp only [List.length_drop, List.length_take]; rfl)) ?_; (with_reducible refine (laws_heldInt64SS.calls kj34 _ _ t239 1 t240 _ ?side1 ?side2 A48.out).mono ?_); (case side1 => repeat (first | exact (Kd.S_reads' HO_9.out).2.2 | (with_reducible refine Kd.C_alloc ?_ _) | (with_reducible refine Kd.C_drewN ?_ _) | (with_reducible refine Kd.C_drew ?_))); (case side2 => rw [show t239.length = t226.length from (Kd.S_reads' HO_9.out).1.symm]; exact (Kd.S_reads' HO_9.out).2.1); rintro e w' ⟨rfl, ⟨nd, rfl⟩⟩; refine ⟨_, rfl, ?_⟩))
                      (try (rw [drewN_self w58]; generalize hq_ : World.drewN w58 _ = w58; have n0_ : Aside0 (Kd.S (Kd.slice 2 (Kd.int .i64)) 81 w58 w.heap.size (fun k_ => (some k_ ≠ (.slice Ao57 t226.length co57 : Value).ownBlock) ∧ (k_ < N1 ∧ k_ < N2)) v218 t217) := ⟨by rw [← hq_]; exact (by (with_reducible repeat (first | apply Kd.S_alloc | apply Kd.S_drewN | apply Kd.S_drew)); exact HO_6.out)⟩; have n1_ : Aside0 (Kd.S (Kd.slice 2 (Kd.int .i64)) 81 w58 w.heap.size (fun k_ => (some k_ ≠ (v218 : Value).ownBlock) ∧ (N2 ≤ k_)) (.slice Ao57 t226.length co57) t239) := ⟨by rw [← hq_]; exact (by (with_reducible repeat (first | apply Kd.S_alloc | apply Kd.S_drewN | apply Kd.S_drew)); exact HO_9.out)⟩; have n2_ : Aside0 (w58.heap[gb210]? = some (.cells #[.int .i8 a1_0, .int .i8 a1_1] 43 (0, 0))) := ⟨by rw [← hq_]; exact (by (with_reducible repeat (first | refine blk_drewN ?_ _ | refine blk_drew ?_ | refine blk_alloc ?_ _)); exact BK210.out)⟩; have n3_ : Aside0 (Below w.heap.size w w58) := ⟨by rw [← hq_]; exact (by repeat (first | (with_reducible first | exact HB.out | apply below_alloc | apply pw_below_drewN | apply below_drew1 | refine below_set ?_ GE210.out) | exact HB.out))⟩; clear HO_6 HO_9 BK210 HB hq_; have HO_6 := n0_; have HO_9 := n1_; have BK210 := n2_; have HB := n3_; clear n0_ n1_ n2_ n3_))
                      have n0_ := Aside0.mk (Kd.S_drew HO_6.out)
                      have n1_ := Aside0.mk (Kd.S_drew HO_9.out)
                      have n2_ := Aside0.mk (blk_drew BK210.out)
                      have n3_ := Aside0.mk (below_drew1 HB.out)
                      clear HO_6
                      clear HO_9
                      clear BK210
                      clear HB
                      have HO_6 := n0_
                      have HO_9 := n1_
                      have BK210 := n2_
                      have HB := n3_
                      clear n0_ n1_ n2_ n3_
                      refine start_ (n := 10) (S := fun w' => w'.cell? ⟨gb210, 0, none⟩ = some (.int .i8 a1_0) ∧ w'.cell? ⟨gb210, 1, none⟩ = some (.int .i8 a1_1)) (ds := []) #[false, false, false, false, false, false, false, false, false, false] (by kernel_rfl) rfl rfl ⟨(blk_cell BK210.out 0).trans rfl, (blk_cell BK210.out 1).trans rfl⟩ (fun hHeld => ?_); refine with_tabW laws_FnExactShiftBag.tab24 laws_FnExactShiftBag.bits24 (fun HT_ HW_ => ?_)
                      generalize w58.drew = w59 at HO_6 HO_9 BK210 HB hHeld ⊢
                      refine pure_ (i := 0) (N := some 80) (v := ?_) (a' := ?_) #[true, false, false, false, false, false, false, false, false, false] rfl rfl (any_of HT_.out (by kernel_rfl)) (fun _ _ _ h => h) (Or.inl ⟨by rfl, ?_⟩) ?_ ?_
                      rotate_left
                      · intro w'
                        go_simp
                        with_reducible rfl
                      rotate_left
                      · simp only [Act.put, List.setIfInBounds_toArray, List.set_cons_zero, List.set_cons_succ, i64_w, i32_w]
                        rfl
                      refine take_ (i := 2) (N := some 82) (v := ?_) (a' := ?_) #[true, false, true, false, false, false, false, false, false, false] rfl rfl (take_ofW HT_.out HW_.out (by kernel_rfl)) (fun _ _ _ h => h) (Or.inl ⟨by rfl, ?_⟩) hHeld ?_ ?_
                      rotate_left
                      · rintro w' ⟨s0, s1⟩
                        go_simp
                        with_reducible rfl
                      rotate_left
                      · simp only [Act.put, List.setIfInBounds_toArray, List.set_cons_zero, List.set_cons_succ, i64_w, i32_w]
                        rfl
                      refine one_ (i := 1) (N := some 81) #[true, true, true, false, false, false, false, false, false, false] rfl rfl (one_of HT_.out (by kernel_rfl)) (by decide) (fun K hK => ?_)
                      refine goes_ Try.func21 (by kernel_rfl) rfl #[.slice A0 l0.length c0] (by rfl) rfl rfl (by (try simp only [List.map_toArray, List.map_cons, List.map_nil]); first | done | rfl | (simp only [List.length_drop, List.length_take]; rfl)) ?_
                      with_reducible refine (laws_toInt64SS.calls kj34 _ _ l0 t241 _ ?side1 ?side2 A53.out).mono ?_
                      (case side1 => repeat (first | exact (Kd.C_below HR0.out HB.out) | (with_reducible refine Kd.C_alloc ?_ _) | (with_reducible refine Kd.C_drewN ?_ _) | (with_reducible refine Kd.C_drew ?_)))
                      (case side2 => exact HC0.out)
                      rintro e w60 ⟨v242, rfl, ho0, hb⟩
                      refine ⟨_, rfl, ?_⟩
                      have n0_ := Aside0.mk (Kd.S_elder' (by (with_reducible repeat (first | apply Kd.S_alloc | apply Kd.S_drewN | apply Kd.S_drew)); exact HO_6.out) (Kd.S_base ho0) hb)
                      have n1_ := Aside0.mk (Kd.S_elder' (by (with_reducible repeat (first | apply Kd.S_alloc | apply Kd.S_drewN | apply Kd.S_drew)); exact HO_9.out) (Kd.S_base ho0) hb)
                      have n2_ := Aside0.mk (Kd.S_lower (Kd.S_new' (Kd.S_new' ho0 (Kd.S_lt (by (with_reducible repeat (first | apply Kd.S_alloc | apply Kd.S_drewN | apply Kd.S_drew)); exact HO_6.out))) (Kd.S_lt (by (with_reducible repeat (first | apply Kd.S_alloc | apply Kd.S_drewN | apply Kd.S_drew)); exact HO_9.out))) (below_size (by repeat (first | (with_reducible first | exact HB.out | apply below_alloc | apply pw_below_drewN | apply below_drew1 | refine below_set ?_ GE210.out) | exact HB.out))))
                      have n3_ := Aside0.mk (blk_below (g := gb210) (o := .cells #[.int .i8 a1_0, .int .i8 a1_1] 43 (0, 0)) (by (with_reducible repeat (first | refine blk_drewN ?_ _ | refine blk_drew ?_ | refine blk_alloc ?_ _)); exact BK210.out) hb)
                      have n4_ := Aside0.mk (below_step (by repeat (first | (with_reducible first | exact HB.out | apply below_alloc | apply pw_below_drewN | apply below_drew1 | refine below_set ?_ GE210.out) | exact HB.out)) hb)
                      clear HO_6
                      clear HO_9
                      clear BK210
                      clear HB
                      have HO_6 := n0_
                      have HO_9 := n1_
                      have HO243 := n2_
                      have BK210 := n3_
                      have HB := n4_
                      clear n0_ n1_ n2_ n3_ n4_
                      (try clear hb)
                      (try clear hb2)
                      (try clear hk)
                      (try clear hi)
                      (try clear ho0)
                      refine hK.out _ _ ⟨(blk_cell BK210.out 0).trans rfl, (blk_cell BK210.out 1).trans rfl⟩ (fun hHeld => ?_)
                      clear hK K
                      refine norm_ (a' := ?_) ?_ ?_
                      rotate_left
                      · show Act.put _ (some 81) _ = _
                        simp only [Act.put, List.setIfInBounds_toArray, List.set_cons_zero, List.set_cons_succ, i64_w, i32_w]
                        rfl
                      refine one_ (i := 3) (N := some 83) #[true, true, true, true, false, false, false, false, false, false] rfl rfl (one_of HT_.out (by kernel_rfl)) (by decide) (fun K hK => ?_)
                      refine goes_ Try.func35 (by kernel_rfl) rfl #[.agg #[.int .i8 a1_0, .int .i8 a1_1]] (by rfl) rfl rfl (by (try simp only [List.map_toArray, List.map_cons, List.map_nil]); first | done | rfl | (simp only [List.length_drop, List.length_take]; rfl)) ?_
                      with_reducible refine (laws_toShift.calls a1_0 a1_1 t244 t245 _ A54.out).mono ?_
                      rintro e w61 ⟨rfl, hb⟩
                      refine ⟨_, rfl, ?_⟩
                      have n0_ := Aside0.mk (Kd.S_below (by (with_reducible repeat (first | apply Kd.S_alloc | apply Kd.S_drewN | apply Kd.S_drew)); exact HO_6.out) hb)
                      have n1_ := Aside0.mk (Kd.S_below (by (with_reducible repeat (first | apply Kd.S_alloc | apply Kd.S_drewN | apply Kd.S_drew)); exact HO_9.out) hb)
                      have n2_ := Aside0.mk (Kd.S_below (by (with_reducible repeat (first | apply Kd.S_alloc | apply Kd.S_drewN | apply Kd.S_drew)); exact HO243.out) hb)
                      have n3_ := Aside0.mk (blk_below (g := gb210) (o := .cells #[.int .i8 a1_0, .int .i8 a1_1] 43 (0, 0)) (by (with_reducible repeat (first | refine blk_drewN ?_ _ | refine blk_drew ?_ | refine blk_alloc ?_ _)); exact BK210.out) hb)
                      have n4_ := Aside0.mk (below_step (by repeat (first | (with_reducible first | exact HB.out | apply below_alloc | apply pw_below_drewN | apply below_drew1 | refine below_set ?_ GE210.out) | exact HB.out)) hb)
                      clear HO_6
                      clear HO_9
                      clear HO243
                      clear BK210
                      clear HB
                      have HO_6 := n0_
                      have HO_9 := n1_
                      have HO243 := n2_
                      have BK210 := n3_
                      have HB := n4_
                      clear n0_ n1_ n2_ n3_ n4_
                      (try clear hb)
                      (try clear hb2)
                      (try clear hk)
                      (try clear hi)
                      obtain ⟨Ao62, co62, eo62⟩ := Kd.S_slice HO243.out
                      (first | subst eo62 | (injection eo62 with f1_ f2_ f3_; have f4_ := f1_.symm; have f5_ := f3_.symm; clear f1_ f2_ f3_; subst f4_; subst f5_))
                      refine hK.out _ _ ⟨(blk_cell BK210.out 0).trans rfl, (blk_cell BK210.out 1).trans rfl⟩ (fun hHeld => ?_)
                      clear hK K
                      refine norm_ (a' := ?_) ?_ ?_
                      rotate_left
                      · show Act.put _ (some 83) _ = _
                        simp only [Act.put, List.setIfInBounds_toArray, List.set_cons_zero, List.set_cons_succ, i64_w, i32_w]
                        rfl
                      refine one_ (i := 4) (N := some 84) #[true, true, true, true, true, false, false, false, false, false] rfl rfl (one_of HT_.out (by kernel_rfl)) (by decide) (fun K hK => ?_)
                      refine goes_ Try.func36 (by kernel_rfl) rfl #[.slice Ao62 t241.length co62, .agg #[.int .i8 t244, .int .i8 t245]] (by rfl) rfl rfl (by (try simp only [List.map_toArray, List.map_cons, List.map_nil]); first | done | rfl | (simp only [List.length_drop, List.length_take]; rfl)) ?_
                      with_reducible refine (impl_ShiftBag.calls kj34 _ _ t241 t244 t245 t246 t249 _ ?side1 ?side2 A55.out).mono ?_
                      (case side1 => repeat (first | exact (Kd.S_reads' HO243.out).2.2 | (with_reducible refine Kd.C_alloc ?_ _) | (with_reducible refine Kd.C_drewN ?_ _) | (with_reducible refine Kd.C_drew ?_)))
                      (case side2 => exact (Kd.S_reads' HO243.out).2.1)
                      rintro e w63 ⟨v247, rfl, ho0, hb⟩
                      refine ⟨_, rfl, ?_⟩
                      have n0_ := Aside0.mk (Kd.S_elder' (by (with_reducible repeat (first | apply Kd.S_alloc | apply Kd.S_drewN | apply Kd.S_drew)); exact HO_6.out) (Kd.S_base ho0) hb)
                      have n1_ := Aside0.mk (Kd.S_elder' (by (with_reducible repeat (first | apply Kd.S_alloc | apply Kd.S_drewN | apply Kd.S_drew)); exact HO_9.out) (Kd.S_base ho0) hb)
                      have n2_ := Aside0.mk (Kd.S_elder' (by (with_reducible repeat (first | apply Kd.S_alloc | apply Kd.S_drewN | apply Kd.S_drew)); exact HO243.out) (Kd.S_base ho0) hb)
                      have n3_ := Aside0.mk (Kd.S_lower (Kd.S_new' (Kd.S_new' (Kd.S_new' ho0 (Kd.S_lt (by (with_reducible repeat (first | apply Kd.S_alloc | apply Kd.S_drewN | apply Kd.S_drew)); exact HO_6.out))) (Kd.S_lt (by (with_reducible repeat (first | apply Kd.S_alloc | apply Kd.S_drewN | apply Kd.S_drew)); exact HO_9.out))) (Kd.S_lt (by (with_reducible repeat (first | apply Kd.S_alloc | apply Kd.S_drewN | apply Kd.S_drew)); exact HO243.out))) (below_size (by repeat (first | (with_reducible first | exact HB.out | apply below_alloc | apply pw_below_drewN | apply below_drew1 | refine below_set ?_ GE210.out) | exact HB.out))))
                      have n4_ := Aside0.mk (blk_below (g := gb210) (o := .cells #[.int .i8 a1_0, .int .i8 a1_1] 43 (0, 0)) (by (with_reducible repeat (first | refine blk_drewN ?_ _ | refine blk_drew ?_ | refine blk_alloc ?_ _)); exact BK210.out) hb)
                      have n5_ := Aside0.mk (below_step (by repeat (first | (with_reducible first | exact HB.out | apply below_alloc | apply pw_below_drewN | apply below_drew1 | refine below_set ?_ GE210.out) | exact HB.out)) hb)
                      clear HO_6
                      clear HO_9
                      clear HO243
                      clear BK210
                      clear HB
                      have HO_6 := n0_
                      have HO_9 := n1_
                      have HO243 := n2_
                      have HO248 := n3_
                      have BK210 := n4_
                      have HB := n5_
                      clear n0_ n1_ n2_ n3_ n4_ n5_
                      (try clear hb)
                      (try clear hb2)
                      (try clear hk)
                      (try clear hi)
                      (try clear ho0)
                      refine hK.out _ _ ⟨(blk_cell BK210.out 0).trans rfl, (blk_cell BK210.out 1).trans rfl⟩ (fun hHeld => ?_)
                      clear hK K
                      refine norm_ (a' := ?_) ?_ ?_
                      rotate_left
                      · show Act.put _ (some 84) _ = _
                        simp only [Act.put, List.setIfInBounds_toArray, List.set_cons_zero, List.set_cons_succ, i64_w, i32_w]
                        rfl
                      refine pure_ (i := 5) (N := some 79) (v := ?_) (a' := ?_) #[true, true, true, true, true, true, false, false, false, false] rfl rfl (any_of HT_.out (by kernel_rfl)) (fun _ _ _ h => h) (Or.inl ⟨by rfl, ?_⟩) ?_ ?_
                      rotate_left
                      · intro w'
                        go_simp
                        with_reducible rfl
                      rotate_left
                      · simp only [Act.put, List.setIfInBounds_toArray, List.set_cons_zero, List.set_cons_succ, i64_w, i32_w]
                        rfl
                      refine pure_ (i := 6) (N := some 85) (v := ?_) (a' := ?_) #[true, true, true, true, true, true, true, false, false, false] rfl rfl (any_of HT_.out (by kernel_rfl)) (fun _ _ _ h => h) (Or.inl ⟨by rfl, ?_⟩) ?_ ?_
                      rotate_left
                      · intro w'
                        go_simp
                        with_reducible rfl
                      rotate_left
                      · simp only [Act.put, List.setIfInBounds_toArray, List.set_cons_zero, List.set_cons_succ, i64_w, i32_w]
                        rfl
                      refine pure_ (i := 7) (N := some 86) (v := ?_) (a' := ?_) #[true, true, true, true, true, true, true, true, false, false] rfl rfl (any_of HT_.out (by kernel_rfl)) (fun _ _ _ h => h) (Or.inl ⟨by rfl, ?_⟩) ?_ ?_
                      rotate_left
                      · intro w'
                        go_simp
                        with_reducible rfl
                      rotate_left
                      · simp only [Act.put, List.setIfInBounds_toArray, List.set_cons_zero, List.set_cons_succ, i64_w, i32_w]
                        rfl
                      refine pure_ (i := 8) (N := some 14) (v := ?_) (a' := ?_) #[true, true, true, true, true, true, true, true, true, false] rfl rfl (any_of HT_.out (by kernel_rfl)) (fun _ _ _ h => h) (Or.inl ⟨by rfl, ?_⟩) ?_ ?_
                      rotate_left
                      · intro w'
                        go_simp
                        with_reducible rfl
                      rotate_left
                      · simp only [Act.put, List.setIfInBounds_toArray, List.set_cons_zero, List.set_cons_succ, i64_w, i32_w]
                        rfl
                      refine pure_ (i := 9) (N := some 15) (v := ?_) (a' := ?_) #[true, true, true, true, true, true, true, true, true, true] rfl rfl (any_of HT_.out (by kernel_rfl)) (fun _ _ _ h => h) (Or.inl ⟨by rfl, ?_⟩) ?_ ?_
                      rotate_left
                      · intro w'
                        go_simp
                        with_reducible rfl
                      rotate_left
                      · simp only [Act.put, List.setIfInBounds_toArray, List.set_cons_zero, List.set_cons_succ, i64_w, i32_w]
                        rfl
                      refine done_ (done_of HT_.out (by kernel_rfl)) ?_
                      go_upto_region 25 with (fail)
                      go_cut [95] (fun v95 wc => ∃ (kq : Nat) (x95_55 : Bool), v95 = .bool x95_55 ∧ Aside0 (laws_FnExactShiftBag.j2 kq t239 t238 x95_55 = some r) ∧ Aside0 (kq ≤ kj34) ∧ Aside0 (Kd.S (Kd.slice 2 (Kd.int .i64)) 81 wc w.heap.size (fun k_ => (True) ∧ (N2 ≤ k_)) (.slice Ao57 t226.length co57) t239) ∧ Aside0 (wc.heap[gb210]? = some (.cells #[.int .i8 a1_0, .int .i8 a1_1] 43 (0, 0))) ∧ Aside0 (Below w.heap.size w wc))
                      case first =>
                        have H := HC56.out
                        clear HC56
                        replace H := Option.bind_eq_some_iff.mp H
                        obtain ⟨t250, A640, H⟩ := H
                        replace H : (if t250 = true then (laws_FnExactShiftBag.j2 kj34 t239 t238 (t249 != t220)) else (laws_FnExactShiftBag.j2 kj34 t239 t238 true)) = some r := H
                        have A64 := Aside0.mk A640
                        clear A640
                        by_cases c65 : t250 = true
                        · subst c65
                          have H1 : (laws_FnExactShiftBag.j2 kj34 t239 t238 (t249 != t220)) = some r := by rw [if_pos rfl] at H; exact H
                          clear H
                          have H := H1
                          clear H1
                          have H' := Aside0.mk H
                          clear H
                          obtain ⟨Ao66, co66, eo66⟩ := Kd.S_slice HO248.out
                          subst eo66
                          obtain ⟨Ao67, co67, eo67⟩ := Kd.S_slice HO_6.out
                          subst eo67
                          go_wp2_with (first | ((with_reducible refine gate_callee (f := 23) rfl ?_); refine goesL_ (some 89) rfl rfl Try.func23 (by kernel_rfl) rfl #[.slice Ao66 t246.length co66, .slice Ao67 t217.length co67] rfl (by (try simp only [List.map_toArray, List.map_cons, List.map_nil]); first | done | rfl | (simp only [List.length_drop, List.length_take]; rfl)) ?_; (with_reducible refine (laws_eqInt64SS.calls kj34 _ _ t246 _ _ t217 true _ ?side1 ?side2 ?side3 ?side4 A64.out).mono ?_); (case side1 => repeat (first | exact (Kd.S_reads' HO248.out).2.2 | (with_reducible refine Kd.C_alloc ?_ _) | (with_reducible refine Kd.C_drewN ?_ _) | (with_reducible refine Kd.C_drew ?_))); (case side2 => exact (Kd.S_reads' HO248.out).2.1); (case side3 => repeat (first | exact (Kd.S_reads' HO_6.out).2.2 | (with_reducible refine Kd.C_alloc ?_ _) | (with_reducible refine Kd.C_drewN ?_ _) | (with_reducible refine Kd.C_drew ?_))); (case side4 => exact (Kd.S_reads' HO_6.out).2.1); rintro e w' ⟨rfl, ⟨nd, rfl⟩⟩; refine ⟨_, rfl, ?_⟩))
                          go_meet
                          case rel => exact ⟨_, ((t249 != t220)), (by first | rfl | (simp; done) | (simp [*]; done)), H', ⟨by have := HJ11.out; have := HJ34.out; first | omega | exact Nat.le_refl _⟩, ⟨by (with_reducible repeat (first | apply Kd.S_alloc | apply Kd.S_drewN | apply Kd.S_drew)); exact Kd.S_mono HO_9.out (fun k_ hk => by ((repeat' apply And.intro) <;> (first | trivial | exact (hk) | exact (hk).1 | exact (hk).2 | exact (hk).1.1 | exact (hk).1.2 | exact (hk).2.1 | exact (hk).2.2 | exact (hk).1.1.1 | exact (hk).1.1.2 | exact (hk).1.2.1 | exact (hk).1.2.2 | exact (hk).2.1.1 | exact (hk).2.1.2 | exact (hk).2.2.1 | exact (hk).2.2.2 | exact (hk).1.1.1.1 | exact (hk).1.1.1.2 | exact (hk).1.1.2.1 | exact (hk).1.1.2.2 | exact (hk).1.2.1.1 | exact (hk).1.2.1.2 | exact (hk).1.2.2.1 | exact (hk).1.2.2.2 | exact (hk).2.1.1.1 | exact (hk).2.1.1.2 | exact (hk).2.1.2.1 | exact (hk).2.1.2.2 | exact (hk).2.2.1.1 | exact (hk).2.2.1.2 | exact (hk).2.2.2.1 | exact (hk).2.2.2.2 | exact (hk).1.1.1.1.1 | exact (hk).1.1.1.1.2 | exact (hk).1.1.1.2.1 | exact (hk).1.1.1.2.2 | exact (hk).1.1.2.1.1 | exact (hk).1.1.2.1.2 | exact (hk).1.1.2.2.1 | exact (hk).1.1.2.2.2 | exact (hk).1.2.1.1.1 | exact (hk).1.2.1.1.2 | exact (hk).1.2.1.2.1 | exact (hk).1.2.1.2.2 | exact (hk).1.2.2.1.1 | exact (hk).1.2.2.1.2 | exact (hk).1.2.2.2.1 | exact (hk).1.2.2.2.2 | exact (hk).2.1.1.1.1 | exact (hk).2.1.1.1.2 | exact (hk).2.1.1.2.1 | exact (hk).2.1.1.2.2 | exact (hk).2.1.2.1.1 | exact (hk).2.1.2.1.2 | exact (hk).2.1.2.2.1 | exact (hk).2.1.2.2.2 | exact (hk).2.2.1.1.1 | exact (hk).2.2.1.1.2 | exact (hk).2.2.1.2.1 | exact (hk).2.2.1.2.2 | exact (hk).2.2.2.1.1 | exact (hk).2.2.2.1.2 | exact (hk).2.2.2.2.1 | exact (hk).2.2.2.2.2 | exact (hk).1.1.1.1.1.1 | exact (hk).1.1.1.1.1.2 | exact (hk).1.1.1.1.2.1 | exact (hk).1.1.1.1.2.2 | exact (hk).1.1.1.2.1.1 | exact (hk).1.1.1.2.1.2 | exact (hk).1.1.1.2.2.1 | exact (hk).1.1.1.2.2.2 | exact (hk).1.1.1.1.1.1.1 | exact (hk).1.1.1.1.1.1.2 | exact (hk).1.1.1.1.1.2.1 | exact (hk).1.1.1.1.1.2.2 | exact (hk).1.1.1.1.2.1.1 | exact (hk).1.1.1.1.2.1.2 | exact (hk).1.1.1.1.2.2.1 | exact (hk).1.1.1.1.2.2.2 | exact (hk).1.1.1.1.1.1.1.1 | exact (hk).1.1.1.1.1.1.1.2 | exact (hk).1.1.1.1.1.1.2.1 | exact (hk).1.1.1.1.1.1.2.2 | exact (hk).1.1.1.1.1.2.1.1 | exact (hk).1.1.1.1.1.2.1.2 | exact (hk).1.1.1.1.1.2.2.1 | exact (hk).1.1.1.1.1.2.2.2 | exact (hk).1.1.1.1.1.1.1.1.1 | exact (hk).1.1.1.1.1.1.1.1.2 | exact (hk).1.1.1.1.1.1.1.2.1 | exact (hk).1.1.1.1.1.1.1.2.2 | exact (hk).1.1.1.1.1.1.2.1.1 | exact (hk).1.1.1.1.1.1.2.1.2 | exact (hk).1.1.1.1.1.1.2.2.1 | exact (hk).1.1.1.1.1.1.2.2.2 | exact (hk).1.1.1.1.1.1.1.1.1.1 | exact (hk).1.1.1.1.1.1.1.1.1.2 | exact (hk).1.1.1.1.1.1.1.1.2.1 | exact (hk).1.1.1.1.1.1.1.1.2.2 | exact (hk).1.1.1.1.1.1.1.2.1.1 | exact (hk).1.1.1.1.1.1.1.2.1.2 | exact (hk).1.1.1.1.1.1.1.2.2.1 | exact (hk).1.1.1.1.1.1.1.2.2.2 | exact (hk).1.1.1.1.1.1.1.1.1.1.1 | exact (hk).1.1.1.1.1.1.1.1.1.1.2 | exact (hk).1.1.1.1.1.1.1.1.1.2.1 | exact (hk).1.1.1.1.1.1.1.1.1.2.2 | exact (hk).1.1.1.1.1.1.1.1.2.1.1 | exact (hk).1.1.1.1.1.1.1.1.2.1.2 | exact (hk).1.1.1.1.1.1.1.1.2.2.1 | exact (hk).1.1.1.1.1.1.1.1.2.2.2)))⟩, ⟨by (with_reducible repeat (first | refine blk_drewN ?_ _ | refine blk_drew ?_ | refine blk_alloc ?_ _)); exact BK210.out⟩, ⟨by repeat (first | (with_reducible first | exact HB.out | apply below_alloc | apply pw_below_drewN | apply below_drew1 | refine below_set ?_ GE210.out) | exact HB.out)⟩⟩
                        · replace c65 := Bool.eq_false_iff.mpr c65
                          subst c65
                          have H1 : (laws_FnExactShiftBag.j2 kj34 t239 t238 true) = some r := by rw [if_neg (show ¬ (false = true) by decide)] at H; exact H
                          clear H
                          have H := H1
                          clear H1
                          have H' := Aside0.mk H
                          clear H
                          obtain ⟨Ao68, co68, eo68⟩ := Kd.S_slice HO248.out
                          subst eo68
                          obtain ⟨Ao69, co69, eo69⟩ := Kd.S_slice HO_6.out
                          subst eo69
                          go_wp2_with (first | ((with_reducible refine gate_callee (f := 23) rfl ?_); refine goesL_ (some 89) rfl rfl Try.func23 (by kernel_rfl) rfl #[.slice Ao68 t246.length co68, .slice Ao69 t217.length co69] rfl (by (try simp only [List.map_toArray, List.map_cons, List.map_nil]); first | done | rfl | (simp only [List.length_drop, List.length_take]; rfl)) ?_; (with_reducible refine (laws_eqInt64SS.calls kj34 _ _ t246 _ _ t217 false _ ?side1 ?side2 ?side3 ?side4 A64.out).mono ?_); (case side1 => repeat (first | exact (Kd.S_reads' HO248.out).2.2 | (with_reducible refine Kd.C_alloc ?_ _) | (with_reducible refine Kd.C_drewN ?_ _) | (with_reducible refine Kd.C_drew ?_))); (case side2 => exact (Kd.S_reads' HO248.out).2.1); (case side3 => repeat (first | exact (Kd.S_reads' HO_6.out).2.2 | (with_reducible refine Kd.C_alloc ?_ _) | (with_reducible refine Kd.C_drewN ?_ _) | (with_reducible refine Kd.C_drew ?_))); (case side4 => exact (Kd.S_reads' HO_6.out).2.1); rintro e w' ⟨rfl, ⟨nd, rfl⟩⟩; refine ⟨_, rfl, ?_⟩))
                          go_meet
                          case rel => exact ⟨_, (true), (by first | rfl | (simp; done) | (simp [*]; done)), H', ⟨by have := HJ11.out; have := HJ34.out; first | omega | exact Nat.le_refl _⟩, ⟨by (with_reducible repeat (first | apply Kd.S_alloc | apply Kd.S_drewN | apply Kd.S_drew)); exact Kd.S_mono HO_9.out (fun k_ hk => by ((repeat' apply And.intro) <;> (first | trivial | exact (hk) | exact (hk).1 | exact (hk).2 | exact (hk).1.1 | exact (hk).1.2 | exact (hk).2.1 | exact (hk).2.2 | exact (hk).1.1.1 | exact (hk).1.1.2 | exact (hk).1.2.1 | exact (hk).1.2.2 | exact (hk).2.1.1 | exact (hk).2.1.2 | exact (hk).2.2.1 | exact (hk).2.2.2 | exact (hk).1.1.1.1 | exact (hk).1.1.1.2 | exact (hk).1.1.2.1 | exact (hk).1.1.2.2 | exact (hk).1.2.1.1 | exact (hk).1.2.1.2 | exact (hk).1.2.2.1 | exact (hk).1.2.2.2 | exact (hk).2.1.1.1 | exact (hk).2.1.1.2 | exact (hk).2.1.2.1 | exact (hk).2.1.2.2 | exact (hk).2.2.1.1 | exact (hk).2.2.1.2 | exact (hk).2.2.2.1 | exact (hk).2.2.2.2 | exact (hk).1.1.1.1.1 | exact (hk).1.1.1.1.2 | exact (hk).1.1.1.2.1 | exact (hk).1.1.1.2.2 | exact (hk).1.1.2.1.1 | exact (hk).1.1.2.1.2 | exact (hk).1.1.2.2.1 | exact (hk).1.1.2.2.2 | exact (hk).1.2.1.1.1 | exact (hk).1.2.1.1.2 | exact (hk).1.2.1.2.1 | exact (hk).1.2.1.2.2 | exact (hk).1.2.2.1.1 | exact (hk).1.2.2.1.2 | exact (hk).1.2.2.2.1 | exact (hk).1.2.2.2.2 | exact (hk).2.1.1.1.1 | exact (hk).2.1.1.1.2 | exact (hk).2.1.1.2.1 | exact (hk).2.1.1.2.2 | exact (hk).2.1.2.1.1 | exact (hk).2.1.2.1.2 | exact (hk).2.1.2.2.1 | exact (hk).2.1.2.2.2 | exact (hk).2.2.1.1.1 | exact (hk).2.2.1.1.2 | exact (hk).2.2.1.2.1 | exact (hk).2.2.1.2.2 | exact (hk).2.2.2.1.1 | exact (hk).2.2.2.1.2 | exact (hk).2.2.2.2.1 | exact (hk).2.2.2.2.2 | exact (hk).1.1.1.1.1.1 | exact (hk).1.1.1.1.1.2 | exact (hk).1.1.1.1.2.1 | exact (hk).1.1.1.1.2.2 | exact (hk).1.1.1.2.1.1 | exact (hk).1.1.1.2.1.2 | exact (hk).1.1.1.2.2.1 | exact (hk).1.1.1.2.2.2 | exact (hk).1.1.1.1.1.1.1 | exact (hk).1.1.1.1.1.1.2 | exact (hk).1.1.1.1.1.2.1 | exact (hk).1.1.1.1.1.2.2 | exact (hk).1.1.1.1.2.1.1 | exact (hk).1.1.1.1.2.1.2 | exact (hk).1.1.1.1.2.2.1 | exact (hk).1.1.1.1.2.2.2 | exact (hk).1.1.1.1.1.1.1.1 | exact (hk).1.1.1.1.1.1.1.2 | exact (hk).1.1.1.1.1.1.2.1 | exact (hk).1.1.1.1.1.1.2.2 | exact (hk).1.1.1.1.1.2.1.1 | exact (hk).1.1.1.1.1.2.1.2 | exact (hk).1.1.1.1.1.2.2.1 | exact (hk).1.1.1.1.1.2.2.2 | exact (hk).1.1.1.1.1.1.1.1.1 | exact (hk).1.1.1.1.1.1.1.1.2 | exact (hk).1.1.1.1.1.1.1.2.1 | exact (hk).1.1.1.1.1.1.1.2.2 | exact (hk).1.1.1.1.1.1.2.1.1 | exact (hk).1.1.1.1.1.1.2.1.2 | exact (hk).1.1.1.1.1.1.2.2.1 | exact (hk).1.1.1.1.1.1.2.2.2 | exact (hk).1.1.1.1.1.1.1.1.1.1 | exact (hk).1.1.1.1.1.1.1.1.1.2 | exact (hk).1.1.1.1.1.1.1.1.2.1 | exact (hk).1.1.1.1.1.1.1.1.2.2 | exact (hk).1.1.1.1.1.1.1.2.1.1 | exact (hk).1.1.1.1.1.1.1.2.1.2 | exact (hk).1.1.1.1.1.1.1.2.2.1 | exact (hk).1.1.1.1.1.1.1.2.2.2 | exact (hk).1.1.1.1.1.1.1.1.1.1.1 | exact (hk).1.1.1.1.1.1.1.1.1.1.2 | exact (hk).1.1.1.1.1.1.1.1.1.2.1 | exact (hk).1.1.1.1.1.1.1.1.1.2.2 | exact (hk).1.1.1.1.1.1.1.1.2.1.1 | exact (hk).1.1.1.1.1.1.1.1.2.1.2 | exact (hk).1.1.1.1.1.1.1.1.2.2.1 | exact (hk).1.1.1.1.1.1.1.1.2.2.2)))⟩, ⟨by (with_reducible repeat (first | refine blk_drewN ?_ _ | refine blk_drew ?_ | refine blk_alloc ?_ _)); exact BK210.out⟩, ⟨by repeat (first | (with_reducible first | exact HB.out | apply below_alloc | apply pw_below_drewN | apply below_drew1 | refine below_set ?_ GE210.out) | exact HB.out)⟩⟩
                      case rest =>
                        clear HC56
                        try clear c1
                        try clear c2
                        try clear p2
                        try clear c3
                        try clear c4
                        try clear c4b0
                        try clear c5
                        try clear c6
                        try clear c10
                        try clear c19
                        try clear c21
                        try clear c23
                        try clear c25
                        try clear c30
                        try clear c33
                        try clear c34
                        try clear c35
                        try clear c36
                        try clear c37
                        try clear c38
                        try clear c39
                        try clear c39b0
                        try clear c41
                        try clear c46
                        try clear c49
                        try clear c49b0
                        try clear c52
                        try clear c52b0
                        try clear c52b1
                        try clear c65
                        try clear hcz20_0
                        try clear hcz20_1
                        try clear hfz20_0
                        try clear hfz20_1
                        try clear p2
                        obtain ⟨kq, x95_55, rfl, HA, HJ55, HO_9, BK210, HB⟩ := hcut
                        have hl9_55 := (Kd.S_reads' HO_9.out).1
                        rw [hl9_55] at HO_9
                        (try simp only [hl9_55])
                        (try simp only [hl9_55] at BK210)
                        cases kq with
                        | zero => exact absurd HA.out (by simp [laws_FnExactShiftBag.j2])
                        | succ kj55 =>
                          have H := HA.out
                          clear HA
                          simp only [laws_FnExactShiftBag.j2] at H
                          by_cases c70 : x95_55 = true
                          · subst c70
                            have H1 : (some false) = some r := by rw [if_pos rfl] at H; exact H
                            clear H
                            have H := H1
                            clear H1
                            obtain rfl := Option.some.inj H
                            go_wp2
                            go_ret
                            exact ⟨by first | rfl | (simp [errW_none, errW_some] <;> rfl) | (simp [*, errW_none, errW_some] <;> rfl), by repeat (first | (with_reducible first | exact HB.out | apply below_alloc | apply pw_below_drewN | apply below_drew1 | refine below_set ?_ GE210.out) | exact HB.out)⟩
                          · replace c70 := Bool.eq_false_iff.mpr c70
                            subst c70
                            have H1 : ((laws_heldInt64SS.f kj55 t239 1).bind fun t251 => (if t251 < 0 then (some false) else (if t251 = t238 then (some true) else (some false)))) = some r := by rw [if_neg (show ¬ (false = true) by decide)] at H; exact H
                            clear H
                            have H := H1
                            clear H1
                            replace H := Option.bind_eq_some_iff.mp H
                            obtain ⟨t251, A710, H⟩ := H
                            replace H : (if t251 < 0 then (some false) else (if t251 = t238 then (some true) else (some false))) = some r := H
                            have A71 := Aside0.mk A710
                            clear A710
                            by_cases c72 : t251 < 0
                            · rw [if_pos c72] at H
                              have c72b0 : decide (t251 < 0) = true := decide_eq_true c72
                              clear c72
                              obtain rfl := Option.some.inj H
                              go_wp2_with (first | ((with_reducible refine gate_callee (f := 38) rfl ?_); refine goesL_ (some 98) rfl rfl Try.func38 (by kernel_rfl) rfl #[.slice Ao57 t239.length co57, .int .i64 1] rfl (by (try simp only [List.map_toArray, List.map_cons, List.map_nil]); first | done | rfl | (simp only [List.length_drop, List.length_take]; rfl)) ?_; (with_reducible refine (laws_heldInt64SS.calls kj55 _ _ t239 1 t251 _ ?side1 ?side2 A71.out).mono ?_); (case side1 => repeat (first | exact (Kd.S_reads' HO_9.out).2.2 | (with_reducible refine Kd.C_alloc ?_ _) | (with_reducible refine Kd.C_drewN ?_ _) | (with_reducible refine Kd.C_drew ?_))); (case side2 => exact (Kd.S_reads' HO_9.out).2.1); rintro e w' ⟨rfl, ⟨nd, rfl⟩⟩; refine ⟨_, rfl, ?_⟩))
                              go_ret
                              exact ⟨by first | rfl | (simp [errW_none, errW_some] <;> rfl) | (simp [*, errW_none, errW_some] <;> rfl), by repeat (first | (with_reducible first | exact HB.out | apply below_alloc | apply pw_below_drewN | apply below_drew1 | refine below_set ?_ GE210.out) | exact HB.out)⟩
                            · rw [if_neg c72] at H
                              have c72b0 : decide (t251 < 0) = false := decide_eq_false c72
                              clear c72
                              by_cases c73 : t251 = t238
                              · rw [if_pos c73] at H
                                have c73b0 : (t251 == t238) = true := beq_iff_eq.mpr c73
                                have c73b1 : (t251 != t238) = false := bne_eq_false_iff_eq.mpr c73
                                clear c73
                                obtain rfl := Option.some.inj H
                                go_wp2_with (first | ((with_reducible refine gate_callee (f := 38) rfl ?_); refine goesL_ (some 98) rfl rfl Try.func38 (by kernel_rfl) rfl #[.slice Ao57 t239.length co57, .int .i64 1] rfl (by (try simp only [List.map_toArray, List.map_cons, List.map_nil]); first | done | rfl | (simp only [List.length_drop, List.length_take]; rfl)) ?_; (with_reducible refine (laws_heldInt64SS.calls kj55 _ _ t239 1 t251 _ ?side1 ?side2 A71.out).mono ?_); (case side1 => repeat (first | exact (Kd.S_reads' HO_9.out).2.2 | (with_reducible refine Kd.C_alloc ?_ _) | (with_reducible refine Kd.C_drewN ?_ _) | (with_reducible refine Kd.C_drew ?_))); (case side2 => exact (Kd.S_reads' HO_9.out).2.1); rintro e w' ⟨rfl, ⟨nd, rfl⟩⟩; refine ⟨_, rfl, ?_⟩))
                                go_ret
                                exact ⟨by first | rfl | (simp [errW_none, errW_some] <;> rfl) | (simp [*, errW_none, errW_some] <;> rfl), by repeat (first | (with_reducible first | exact HB.out | apply below_alloc | apply pw_below_drewN | apply below_drew1 | refine below_set ?_ GE210.out) | exact HB.out)⟩
                              · rw [if_neg c73] at H
                                have c73b0 : (t251 == t238) = false := beq_eq_false_iff_ne.mpr c73
                                have c73b1 : (t251 != t238) = true := bne_iff_ne.mpr c73
                                obtain rfl := Option.some.inj H
                                go_wp2_with (first | ((with_reducible refine gate_callee (f := 38) rfl ?_); refine goesL_ (some 98) rfl rfl Try.func38 (by kernel_rfl) rfl #[.slice Ao57 t239.length co57, .int .i64 1] rfl (by (try simp only [List.map_toArray, List.map_cons, List.map_nil]); first | done | rfl | (simp only [List.length_drop, List.length_take]; rfl)) ?_; (with_reducible refine (laws_heldInt64SS.calls kj55 _ _ t239 1 t251 _ ?side1 ?side2 A71.out).mono ?_); (case side1 => repeat (first | exact (Kd.S_reads' HO_9.out).2.2 | (with_reducible refine Kd.C_alloc ?_ _) | (with_reducible refine Kd.C_drewN ?_ _) | (with_reducible refine Kd.C_drew ?_))); (case side2 => exact (Kd.S_reads' HO_9.out).2.1); rintro e w' ⟨rfl, ⟨nd, rfl⟩⟩; refine ⟨_, rfl, ?_⟩))
                                go_ret
                                exact ⟨by first | rfl | (simp [errW_none, errW_some] <;> rfl) | (simp [*, errW_none, errW_some] <;> rfl), by repeat (first | (with_reducible first | exact HB.out | apply below_alloc | apply pw_below_drewN | apply below_drew1 | refine below_set ?_ GE210.out) | exact HB.out)⟩
                    · rw [if_neg c52] at H
                      have c52b0 : (t240 == t238) = false := beq_eq_false_iff_ne.mpr c52
                      have c52b1 : (t240 != t238) = true := bne_iff_ne.mpr c52
                      obtain rfl := Option.some.inj H
                      obtain ⟨Ao74, co74, eo74⟩ := Kd.S_slice HO_9.out
                      subst eo74
                      go_wp2_with (first | ((with_reducible refine gate_callee (f := 37) rfl ?_); refine goesL_ (some 70) rfl rfl Try.func37 (by kernel_rfl) rfl #[.slice Ao74 t226.length co74, .int .i64 1] rfl (by (try simp only [List.map_toArray, List.map_cons, List.map_nil]); first | done | rfl | (simp only [List.length_drop, List.length_take]; rfl)) ?_; (with_reducible refine (laws_markInt64SS.calls kj34 (fun k_ => (N2 ≤ k_) ∧ ((some k_ ≠ (v218 : Value).ownBlock ∧ k_ ≠ gb210))) (.slice Ao74 t226.length co74) t226 1 t238 t239 w _ ?side1 ?side2 A47.out).mono ?_); (case side1 => repeat (first | (with_reducible first | exact HB.out | apply below_alloc | apply pw_below_drewN | apply below_drew1 | refine below_set ?_ GE210.out) | exact HB.out)); (case side2 => exact Kd.S_mono (Kd.S_types HO_9.out BK210.out (by decide)) (fun k_ hk => by ((repeat' apply And.intro) <;> (first | trivial | exact (hk) | exact (hk).1 | exact (hk).2 | exact (hk).1.1 | exact (hk).1.2 | exact (hk).2.1 | exact (hk).2.2 | exact (hk).1.1.1 | exact (hk).1.1.2 | exact (hk).1.2.1 | exact (hk).1.2.2 | exact (hk).2.1.1 | exact (hk).2.1.2 | exact (hk).2.2.1 | exact (hk).2.2.2 | exact (hk).1.1.1.1 | exact (hk).1.1.1.2 | exact (hk).1.1.2.1 | exact (hk).1.1.2.2 | exact (hk).1.2.1.1 | exact (hk).1.2.1.2 | exact (hk).1.2.2.1 | exact (hk).1.2.2.2 | exact (hk).2.1.1.1 | exact (hk).2.1.1.2 | exact (hk).2.1.2.1 | exact (hk).2.1.2.2 | exact (hk).2.2.1.1 | exact (hk).2.2.1.2 | exact (hk).2.2.2.1 | exact (hk).2.2.2.2 | exact (hk).1.1.1.1.1 | exact (hk).1.1.1.1.2 | exact (hk).1.1.1.2.1 | exact (hk).1.1.1.2.2 | exact (hk).1.1.2.1.1 | exact (hk).1.1.2.1.2 | exact (hk).1.1.2.2.1 | exact (hk).1.1.2.2.2 | exact (hk).1.2.1.1.1 | exact (hk).1.2.1.1.2 | exact (hk).1.2.1.2.1 | exact (hk).1.2.1.2.2 | exact (hk).1.2.2.1.1 | exact (hk).1.2.2.1.2 | exact (hk).1.2.2.2.1 | exact (hk).1.2.2.2.2 | exact (hk).2.1.1.1.1 | exact (hk).2.1.1.1.2 | exact (hk).2.1.1.2.1 | exact (hk).2.1.1.2.2 | exact (hk).2.1.2.1.1 | exact (hk).2.1.2.1.2 | exact (hk).2.1.2.2.1 | exact (hk).2.1.2.2.2 | exact (hk).2.2.1.1.1 | exact (hk).2.2.1.1.2 | exact (hk).2.2.1.2.1 | exact (hk).2.2.1.2.2 | exact (hk).2.2.2.1.1 | exact (hk).2.2.2.1.2 | exact (hk).2.2.2.2.1 | exact (hk).2.2.2.2.2 | exact (hk).1.1.1.1.1.1 | exact (hk).1.1.1.1.1.2 | exact (hk).1.1.1.1.2.1 | exact (hk).1.1.1.1.2.2 | exact (hk).1.1.1.2.1.1 | exact (hk).1.1.1.2.1.2 | exact (hk).1.1.1.2.2.1 | exact (hk).1.1.1.2.2.2 | exact (hk).1.1.1.1.1.1.1 | exact (hk).1.1.1.1.1.1.2 | exact (hk).1.1.1.1.1.2.1 | exact (hk).1.1.1.1.1.2.2 | exact (hk).1.1.1.1.2.1.1 | exact (hk).1.1.1.1.2.1.2 | exact (hk).1.1.1.1.2.2.1 | exact (hk).1.1.1.1.2.2.2 | exact (hk).1.1.1.1.1.1.1.1 | exact (hk).1.1.1.1.1.1.1.2 | exact (hk).1.1.1.1.1.1.2.1 | exact (hk).1.1.1.1.1.1.2.2 | exact (hk).1.1.1.1.1.2.1.1 | exact (hk).1.1.1.1.1.2.1.2 | exact (hk).1.1.1.1.1.2.2.1 | exact (hk).1.1.1.1.1.2.2.2 | exact (hk).1.1.1.1.1.1.1.1.1 | exact (hk).1.1.1.1.1.1.1.1.2 | exact (hk).1.1.1.1.1.1.1.2.1 | exact (hk).1.1.1.1.1.1.1.2.2 | exact (hk).1.1.1.1.1.1.2.1.1 | exact (hk).1.1.1.1.1.1.2.1.2 | exact (hk).1.1.1.1.1.1.2.2.1 | exact (hk).1.1.1.1.1.1.2.2.2 | exact (hk).1.1.1.1.1.1.1.1.1.1 | exact (hk).1.1.1.1.1.1.1.1.1.2 | exact (hk).1.1.1.1.1.1.1.1.2.1 | exact (hk).1.1.1.1.1.1.1.1.2.2 | exact (hk).1.1.1.1.1.1.1.2.1.1 | exact (hk).1.1.1.1.1.1.1.2.1.2 | exact (hk).1.1.1.1.1.1.1.2.2.1 | exact (hk).1.1.1.1.1.1.1.2.2.2 | exact (hk).1.1.1.1.1.1.1.1.1.1.1 | exact (hk).1.1.1.1.1.1.1.1.1.1.2 | exact (hk).1.1.1.1.1.1.1.1.1.2.1 | exact (hk).1.1.1.1.1.1.1.1.1.2.2 | exact (hk).1.1.1.1.1.1.1.1.2.1.1 | exact (hk).1.1.1.1.1.1.1.1.2.1.2 | exact (hk).1.1.1.1.1.1.1.1.2.2.1 | exact (hk).1.1.1.1.1.1.1.1.2.2.2)))); rintro e w75 ⟨rfl, hy0, hb, hkp⟩; refine ⟨_, rfl, ?_⟩; have n0_ := Aside0.mk ((Kd.S_kept (by (with_reducible repeat (first | apply Kd.S_alloc | apply Kd.S_drewN | apply Kd.S_drew)); exact HO_6.out) hkp (fun k_ hk hs_ => by have a_ : k_ < N1 ∧ k_ < N2 := (by ((repeat' apply And.intro) <;> (first | trivial | exact (hk) | exact (hk).1 | exact (hk).2 | exact (hk).1.1 | exact (hk).1.2 | exact (hk).2.1 | exact (hk).2.2 | exact (hk).1.1.1 | exact (hk).1.1.2 | exact (hk).1.2.1 | exact (hk).1.2.2 | exact (hk).2.1.1 | exact (hk).2.1.2 | exact (hk).2.2.1 | exact (hk).2.2.2 | exact (hk).1.1.1.1 | exact (hk).1.1.1.2 | exact (hk).1.1.2.1 | exact (hk).1.1.2.2 | exact (hk).1.2.1.1 | exact (hk).1.2.1.2 | exact (hk).1.2.2.1 | exact (hk).1.2.2.2 | exact (hk).2.1.1.1 | exact (hk).2.1.1.2 | exact (hk).2.1.2.1 | exact (hk).2.1.2.2 | exact (hk).2.2.1.1 | exact (hk).2.2.1.2 | exact (hk).2.2.2.1 | exact (hk).2.2.2.2 | exact (hk).1.1.1.1.1 | exact (hk).1.1.1.1.2 | exact (hk).1.1.1.2.1 | exact (hk).1.1.1.2.2 | exact (hk).1.1.2.1.1 | exact (hk).1.1.2.1.2 | exact (hk).1.1.2.2.1 | exact (hk).1.1.2.2.2 | exact (hk).1.2.1.1.1 | exact (hk).1.2.1.1.2 | exact (hk).1.2.1.2.1 | exact (hk).1.2.1.2.2 | exact (hk).1.2.2.1.1 | exact (hk).1.2.2.1.2 | exact (hk).1.2.2.2.1 | exact (hk).1.2.2.2.2 | exact (hk).2.1.1.1.1 | exact (hk).2.1.1.1.2 | exact (hk).2.1.1.2.1 | exact (hk).2.1.1.2.2 | exact (hk).2.1.2.1.1 | exact (hk).2.1.2.1.2 | exact (hk).2.1.2.2.1 | exact (hk).2.1.2.2.2 | exact (hk).2.2.1.1.1 | exact (hk).2.2.1.1.2 | exact (hk).2.2.1.2.1 | exact (hk).2.2.1.2.2 | exact (hk).2.2.2.1.1 | exact (hk).2.2.2.1.2 | exact (hk).2.2.2.2.1 | exact (hk).2.2.2.2.2 | exact (hk).1.1.1.1.1.1 | exact (hk).1.1.1.1.1.2 | exact (hk).1.1.1.1.2.1 | exact (hk).1.1.1.1.2.2 | exact (hk).1.1.1.2.1.1 | exact (hk).1.1.1.2.1.2 | exact (hk).1.1.1.2.2.1 | exact (hk).1.1.1.2.2.2 | exact (hk).1.1.1.1.1.1.1 | exact (hk).1.1.1.1.1.1.2 | exact (hk).1.1.1.1.1.2.1 | exact (hk).1.1.1.1.1.2.2 | exact (hk).1.1.1.1.2.1.1 | exact (hk).1.1.1.1.2.1.2 | exact (hk).1.1.1.1.2.2.1 | exact (hk).1.1.1.1.2.2.2 | exact (hk).1.1.1.1.1.1.1.1 | exact (hk).1.1.1.1.1.1.1.2 | exact (hk).1.1.1.1.1.1.2.1 | exact (hk).1.1.1.1.1.1.2.2 | exact (hk).1.1.1.1.1.2.1.1 | exact (hk).1.1.1.1.1.2.1.2 | exact (hk).1.1.1.1.1.2.2.1 | exact (hk).1.1.1.1.1.2.2.2 | exact (hk).1.1.1.1.1.1.1.1.1 | exact (hk).1.1.1.1.1.1.1.1.2 | exact (hk).1.1.1.1.1.1.1.2.1 | exact (hk).1.1.1.1.1.1.1.2.2 | exact (hk).1.1.1.1.1.1.2.1.1 | exact (hk).1.1.1.1.1.1.2.1.2 | exact (hk).1.1.1.1.1.1.2.2.1 | exact (hk).1.1.1.1.1.1.2.2.2 | exact (hk).1.1.1.1.1.1.1.1.1.1 | exact (hk).1.1.1.1.1.1.1.1.1.2 | exact (hk).1.1.1.1.1.1.1.1.2.1 | exact (hk).1.1.1.1.1.1.1.1.2.2 | exact (hk).1.1.1.1.1.1.1.2.1.1 | exact (hk).1.1.1.1.1.1.1.2.1.2 | exact (hk).1.1.1.1.1.1.1.2.2.1 | exact (hk).1.1.1.1.1.1.1.2.2.2 | exact (hk).1.1.1.1.1.1.1.1.1.1.1 | exact (hk).1.1.1.1.1.1.1.1.1.1.2 | exact (hk).1.1.1.1.1.1.1.1.1.2.1 | exact (hk).1.1.1.1.1.1.1.1.1.2.2 | exact (hk).1.1.1.1.1.1.1.1.2.1.1 | exact (hk).1.1.1.1.1.1.1.1.2.1.2 | exact (hk).1.1.1.1.1.1.1.1.2.2.1 | exact (hk).1.1.1.1.1.1.1.1.2.2.2))); have b_ : N2 ≤ k_ := hs_.1; omega))); have n1_ := Aside0.mk (Kd.S_mono (ok' := fun k_ => (some k_ ≠ (v218 : Value).ownBlock) ∧ (N2 ≤ k_)) hy0 (fun k_ hk => by ((repeat' apply And.intro) <;> (first | trivial | exact (hk) | exact (hk).1 | exact (hk).2 | exact (hk).1.1 | exact (hk).1.2 | exact (hk).2.1 | exact (hk).2.2 | exact (hk).1.1.1 | exact (hk).1.1.2 | exact (hk).1.2.1 | exact (hk).1.2.2 | exact (hk).2.1.1 | exact (hk).2.1.2 | exact (hk).2.2.1 | exact (hk).2.2.2 | exact (hk).1.1.1.1 | exact (hk).1.1.1.2 | exact (hk).1.1.2.1 | exact (hk).1.1.2.2 | exact (hk).1.2.1.1 | exact (hk).1.2.1.2 | exact (hk).1.2.2.1 | exact (hk).1.2.2.2 | exact (hk).2.1.1.1 | exact (hk).2.1.1.2 | exact (hk).2.1.2.1 | exact (hk).2.1.2.2 | exact (hk).2.2.1.1 | exact (hk).2.2.1.2 | exact (hk).2.2.2.1 | exact (hk).2.2.2.2 | exact (hk).1.1.1.1.1 | exact (hk).1.1.1.1.2 | exact (hk).1.1.1.2.1 | exact (hk).1.1.1.2.2 | exact (hk).1.1.2.1.1 | exact (hk).1.1.2.1.2 | exact (hk).1.1.2.2.1 | exact (hk).1.1.2.2.2 | exact (hk).1.2.1.1.1 | exact (hk).1.2.1.1.2 | exact (hk).1.2.1.2.1 | exact (hk).1.2.1.2.2 | exact (hk).1.2.2.1.1 | exact (hk).1.2.2.1.2 | exact (hk).1.2.2.2.1 | exact (hk).1.2.2.2.2 | exact (hk).2.1.1.1.1 | exact (hk).2.1.1.1.2 | exact (hk).2.1.1.2.1 | exact (hk).2.1.1.2.2 | exact (hk).2.1.2.1.1 | exact (hk).2.1.2.1.2 | exact (hk).2.1.2.2.1 | exact (hk).2.1.2.2.2 | exact (hk).2.2.1.1.1 | exact (hk).2.2.1.1.2 | exact (hk).2.2.1.2.1 | exact (hk).2.2.1.2.2 | exact (hk).2.2.2.1.1 | exact (hk).2.2.2.1.2 | exact (hk).2.2.2.2.1 | exact (hk).2.2.2.2.2 | exact (hk).1.1.1.1.1.1 | exact (hk).1.1.1.1.1.2 | exact (hk).1.1.1.1.2.1 | exact (hk).1.1.1.1.2.2 | exact (hk).1.1.1.2.1.1 | exact (hk).1.1.1.2.1.2 | exact (hk).1.1.1.2.2.1 | exact (hk).1.1.1.2.2.2 | exact (hk).1.1.1.1.1.1.1 | exact (hk).1.1.1.1.1.1.2 | exact (hk).1.1.1.1.1.2.1 | exact (hk).1.1.1.1.1.2.2 | exact (hk).1.1.1.1.2.1.1 | exact (hk).1.1.1.1.2.1.2 | exact (hk).1.1.1.1.2.2.1 | exact (hk).1.1.1.1.2.2.2 | exact (hk).1.1.1.1.1.1.1.1 | exact (hk).1.1.1.1.1.1.1.2 | exact (hk).1.1.1.1.1.1.2.1 | exact (hk).1.1.1.1.1.1.2.2 | exact (hk).1.1.1.1.1.2.1.1 | exact (hk).1.1.1.1.1.2.1.2 | exact (hk).1.1.1.1.1.2.2.1 | exact (hk).1.1.1.1.1.2.2.2 | exact (hk).1.1.1.1.1.1.1.1.1 | exact (hk).1.1.1.1.1.1.1.1.2 | exact (hk).1.1.1.1.1.1.1.2.1 | exact (hk).1.1.1.1.1.1.1.2.2 | exact (hk).1.1.1.1.1.1.2.1.1 | exact (hk).1.1.1.1.1.1.2.1.2 | exact (hk).1.1.1.1.1.1.2.2.1 | exact (hk).1.1.1.1.1.1.2.2.2 | exact (hk).1.1.1.1.1.1.1.1.1.1 | exact (hk).1.1.1.1.1.1.1.1.1.2 | exact (hk).1.1.1.1.1.1.1.1.2.1 | exact (hk).1.1.1.1.1.1.1.1.2.2 | exact (hk).1.1.1.1.1.1.1.2.1.1 | exact (hk).1.1.1.1.1.1.1.2.1.2 | exact (hk).1.1.1.1.1.1.1.2.2.1 | exact (hk).1.1.1.1.1.1.1.2.2.2 | exact (hk).1.1.1.1.1.1.1.1.1.1.1 | exact (hk).1.1.1.1.1.1.1.1.1.1.2 | exact (hk).1.1.1.1.1.1.1.1.1.2.1 | exact (hk).1.1.1.1.1.1.1.1.1.2.2 | exact (hk).1.1.1.1.1.1.1.1.2.1.1 | exact (hk).1.1.1.1.1.1.1.1.2.1.2 | exact (hk).1.1.1.1.1.1.1.1.2.2.1 | exact (hk).1.1.1.1.1.1.1.1.2.2.2)))); have n2_ := Aside0.mk (blk_kept (by (with_reducible repeat (first | refine blk_drewN ?_ _ | refine blk_drew ?_ | refine blk_alloc ?_ _)); exact BK210.out) hkp (fun hs_ => (fun e_ => (e_.2) rfl) hs_.2)); have n3_ := Aside0.mk (hb); clear HO_6; clear HO_9; clear BK210; clear HB; have HO_6 := n0_; have HO_9 := n1_; have BK210 := n2_; have HB := n3_; clear n0_ n1_ n2_ n3_; (try clear hb); (try clear hkp); (try clear hy0)) | ((with_reducible refine gate_callee (f := 38) rfl ?_); refine goesL_ (some 73) rfl rfl Try.func38 (by kernel_rfl) rfl #[.slice Ao74 t239.length co74, .int .i64 1] rfl (by (try simp only [List.map_toArray, List.map_cons, List.map_nil]); first | done | (rw [show t239.length = t226.length from (Kd.S_reads' HO_9.out).1.symm] <;> rfl) | rfl | (simp only [List.length_drop, List.length_take]; rfl)) ?_; (with_reducible refine (laws_heldInt64SS.calls kj34 _ _ t239 1 t240 _ ?side1 ?side2 A48.out).mono ?_); (case side1 => repeat (first | exact (Kd.S_reads' HO_9.out).2.2 | (with_reducible refine Kd.C_alloc ?_ _) | (with_reducible refine Kd.C_drewN ?_ _) | (with_reducible refine Kd.C_drew ?_))); (case side2 => rw [show t239.length = t226.length from (Kd.S_reads' HO_9.out).1.symm]; exact (Kd.S_reads' HO_9.out).2.1); rintro e w' ⟨rfl, ⟨nd, rfl⟩⟩; refine ⟨_, rfl, ?_⟩))
                      go_ret
                      exact ⟨by first | rfl | (simp [errW_none, errW_some] <;> rfl) | (simp [*, errW_none, errW_some] <;> rfl), by repeat (first | (with_reducible first | exact HB.out | apply below_alloc | apply pw_below_drewN | apply below_drew1 | refine below_set ?_ GE210.out) | exact HB.out)⟩
          · replace c33 := Bool.eq_false_iff.mpr c33
            subst c33
            have H1 : (some false) = some r := by rw [if_neg (show ¬ (false = true) by decide)] at H; exact H
            clear H
            have H := H1
            clear H1
            obtain rfl := Option.some.inj H
            go_wp2_with (first | ((with_reducible refine gate_callee (f := 21) rfl ?_); refine goesL_ (some 49) rfl rfl Try.func21 (by kernel_rfl) rfl #[.slice A0 l0.length c0] rfl (by (try simp only [List.map_toArray, List.map_cons, List.map_nil]); first | done | rfl | (simp only [List.length_drop, List.length_take]; rfl)) ?_; (with_reducible refine (laws_toInt64SS.calls kj11 _ _ l0 t231 _ ?side1 ?side2 A31.out).mono ?_); (case side1 => repeat (first | exact (Kd.C_below HR0.out HB.out) | (with_reducible refine Kd.C_alloc ?_ _) | (with_reducible refine Kd.C_drewN ?_ _) | (with_reducible refine Kd.C_drew ?_))); (case side2 => exact HC0.out); rintro e w76 ⟨v232, rfl, ho0, hb⟩; refine ⟨_, rfl, ?_⟩; have n0_ := Aside0.mk (Kd.S_elder' (by (with_reducible repeat (first | apply Kd.S_alloc | apply Kd.S_drewN | apply Kd.S_drew)); exact HO_6.out) (Kd.S_base ho0) hb); have n1_ := Aside0.mk (Kd.S_elder' (by (with_reducible repeat (first | apply Kd.S_alloc | apply Kd.S_drewN | apply Kd.S_drew)); exact HO_8.out) (Kd.S_base ho0) hb); have n2_ := Aside0.mk (Kd.S_elder' (by (with_reducible repeat (first | apply Kd.S_alloc | apply Kd.S_drewN | apply Kd.S_drew)); exact HO_9.out) (Kd.S_base ho0) hb); have n3_ := Aside0.mk (Kd.S_lower (Kd.S_new' (Kd.S_new' (Kd.S_new' ho0 (Kd.S_lt (by (with_reducible repeat (first | apply Kd.S_alloc | apply Kd.S_drewN | apply Kd.S_drew)); exact HO_6.out))) (Kd.S_lt (by (with_reducible repeat (first | apply Kd.S_alloc | apply Kd.S_drewN | apply Kd.S_drew)); exact HO_8.out))) (Kd.S_lt (by (with_reducible repeat (first | apply Kd.S_alloc | apply Kd.S_drewN | apply Kd.S_drew)); exact HO_9.out))) (below_size (by repeat (first | (with_reducible first | exact HB.out | apply below_alloc | apply pw_below_drewN | apply below_drew1 | refine below_set ?_ GE210.out) | exact HB.out)))); have n4_ := Aside0.mk (blk_below (g := gb210) (o := .cells #[.int .i8 a1_0, .int .i8 a1_1] 43 (0, 0)) (by (with_reducible repeat (first | refine blk_drewN ?_ _ | refine blk_drew ?_ | refine blk_alloc ?_ _)); exact BK210.out) hb); have n5_ := Aside0.mk (below_step (by repeat (first | (with_reducible first | exact HB.out | apply below_alloc | apply pw_below_drewN | apply below_drew1 | refine below_set ?_ GE210.out) | exact HB.out)) hb); clear HO_6; clear HO_8; clear HO_9; clear BK210; clear HB; have HO_6 := n0_; have HO_8 := n1_; have HO_9 := n2_; have HO233 := n3_; have BK210 := n4_; have HB := n5_; clear n0_ n1_ n2_ n3_ n4_ n5_; (try clear hb); (try clear hb2); (try clear hk); (try clear hi); (try clear ho0); obtain ⟨Ao77, co77, eo77⟩ := Kd.S_slice HO233.out; subst eo77) | ((with_reducible refine gate_callee (f := 23) rfl ?_); refine goesL_ (some 50) rfl rfl Try.func23 (by kernel_rfl) rfl #[.slice Ao22 t221.length co22, .slice Ao77 t231.length co77] rfl (by (try simp only [List.map_toArray, List.map_cons, List.map_nil]); first | done | rfl | (simp only [List.length_drop, List.length_take]; rfl)) ?_; (with_reducible refine (laws_eqInt64SS.calls kj11 _ _ t221 _ _ t231 false _ ?side1 ?side2 ?side3 ?side4 A32.out).mono ?_); (case side1 => repeat (first | exact (Kd.S_reads' HO_8.out).2.2 | (with_reducible refine Kd.C_alloc ?_ _) | (with_reducible refine Kd.C_drewN ?_ _) | (with_reducible refine Kd.C_drew ?_))); (case side2 => exact (Kd.S_reads' HO_8.out).2.1); (case side3 => repeat (first | exact (Kd.S_reads' HO233.out).2.2 | (with_reducible refine Kd.C_alloc ?_ _) | (with_reducible refine Kd.C_drewN ?_ _) | (with_reducible refine Kd.C_drew ?_))); (case side4 => exact (Kd.S_reads' HO233.out).2.1); rintro e w' ⟨rfl, ⟨nd, rfl⟩⟩; refine ⟨_, rfl, ?_⟩))
            go_ret
            exact ⟨by first | rfl | (simp [errW_none, errW_some] <;> rfl) | (simp [*, errW_none, errW_some] <;> rfl), by repeat (first | (with_reducible first | exact HB.out | apply below_alloc | apply pw_below_drewN | apply below_drew1 | refine below_set ?_ GE210.out) | exact HB.out)⟩

/-- The pure statement of laws_FnExactShiftBag. -/
def laws_FnExactShiftBag.Pure : Prop := ∀ (l0 : List (List Int)) (a1_0 : Int) (a1_1 : Int), (l0.length ≤ maxLen ∧ l0.length * 24 ≤ 140737488351232 ∧ ∀ y0 ∈ l0, y0.length ≤ maxLen ∧ y0.length * 8 ≤ 140737488351232 ∧ ∀ y1 ∈ y0, (Lit.int .i64 y1).wf = true) → ((Lit.int .i8 a1_0).wf = true) → ((Lit.int .i8 a1_1).wf = true) → ∃ k, laws_FnExactShiftBag.f k l0 a1_0 a1_1 = some true
end Go.Proofs.Ytlifofigkllpgaa.Q
