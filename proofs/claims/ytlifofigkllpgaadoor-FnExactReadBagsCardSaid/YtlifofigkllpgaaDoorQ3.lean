-- made by wip/tools/mk.py of this session's repo, by way of the kit's print.py: Lean checks it.
import Derived.Test.YtlifofigkllpgaaDoorQ0
import Derived.Test.YtlifofigkllpgaaDoorQ1
import Derived.Test.YtlifofigkllpgaaDoorQ2
namespace Go.Proofs.YtlifofigkllpgaaDoor.Q
open Go.RowKit Go.Proofs.YtlifofigkllpgaaDoorW.PrintWords Go.Proofs.YtlifofigkllpgaaDoorW.PrintLast Go.Proofs.YtlifofigkllpgaaDoorW.PrintMore Go.Proofs.YtlifofigkllpgaaDoorMine
attribute [local go_sem] max2_int min2_int max_two min_two max_three min_three max_four min_four   -- for this text's walks alone
set_option linter.unusedVariables false
set_option linter.unusedSimpArgs false

/-! ### laws_markInt64S: function 14 -/
def laws_markInt64S.l0 : Nat → List Int → Int → Int → Option (Int × List Int)
  | 0, _, _, _ => none
  | k + 1, x0, x1, x5 => if x5 < (x0.length : Int) then (if 0 ≤ x5 then (laws_markInt64S.l0 k (x0.set (x5 : Int).toNat x1) (wrap64 (x1 + 1)) (wrap64 (x5 + 1))) else (none)) else (some (x1, x0))
def laws_markInt64S.f (k : Nat) (l0 : List Int) (a1 : Int) : Option (Int × List Int) := laws_markInt64S.l0 k l0 a1 0
theorem laws_markInt64S.mono_l : ∀ k, (∀ y0 y1 y2, LeO (laws_markInt64S.l0 k y0 y1 y2) (laws_markInt64S.l0 (k + 1) y0 y1 y2))
  | 0 => fun _ _ _ r h => by simp [laws_markInt64S.l0] at h
  | k + 1 => by
    have ih0 := laws_markInt64S.mono_l k
    · intro y0 y1 y2
      unfold laws_markInt64S.l0
      repeat' first
      | (with_reducible exact ih0 _ _ _)
      | (with_reducible exact LeO.refl _)
      | (with_reducible exact LeO.none _)
      | (with_reducible refine LeO.ite ?_ ?_)
      | (with_reducible refine LeO.bind ?_ (fun _ => ?_))
      | exact ih0 _ _ _
      | exact LeO.none _
      | refine LeO.ite ?_ ?_
      | refine LeO.bind ?_ (fun _ => ?_)
theorem laws_markInt64S.mono : ∀ a0 a1 k, LeO (laws_markInt64S.f k a0 a1) (laws_markInt64S.f (k + 1) a0 a1) := by
  intro a0 a1 k
  have ih0 := laws_markInt64S.mono_l k
  unfold laws_markInt64S.f
  repeat' first
      | (with_reducible exact ih0 _ _ _)
      | (with_reducible exact LeO.refl _)
      | (with_reducible exact LeO.none _)
      | (with_reducible refine LeO.ite ?_ ?_)
      | (with_reducible refine LeO.bind ?_ (fun _ => ?_))
      | exact ih0 _ _ _
      | exact LeO.none _
      | refine LeO.ite ?_ ?_
      | refine LeO.bind ?_ (fun _ => ?_)
set_option maxHeartbeats 8000000 in
set_option maxRecDepth 100000 in
theorem laws_markInt64S.calls (k : Nat) (P0_ : Nat → Prop) (u9000_ : Value) (l0 : List Int) (a1 : Int) (r1 : Int) (r2 : List Int) (w0 w : World) (hB : Below w0.heap.size w0 w) (ho0 : Kd.R (Kd.int .i64) 2 w w0.heap.size P0_ u9000_ l0) (h : laws_markInt64S.f k l0 a1 = some (r1, r2)) :
    Calls Tryd.prog 14 #[u9000_, .int .i64 a1] w fun e w' => e = .returned (.int .i64 r1) ∧ Kd.R (Kd.int .i64) 2 w' w0.heap.size (fun k_ => (P0_ k_ ∨ w.heap.size ≤ k_)) u9000_ r2 ∧ Below w0.heap.size w0 w' ∧ Kept w w' (fun k_ => P0_ k_) := by
  have HO0 := Aside0.mk (show Kd.R (Kd.int .i64) 2 w w0.heap.size (fun k_ => (P0_ k_ ∨ w.heap.size ≤ k_)) u9000_ l0 from Kd.R_mono ho0 (fun k_ hk => (.inl hk)))
  have HK := Aside0.mk (Kept.refl w (fun k_ => P0_ k_))
  have HW0 := Aside0.mk hB.size
  have HB := Aside0.mk hB
  clear hB
  have H : (laws_markInt64S.l0 k l0 a1 0) = some (r1, r2) := h
  clear h
  have H' := Aside0.mk H
  clear H
  go_enter Tryd.func14, Tryd.ntmps14
  go_wp2
  go_loopg [1, 5] k (fun kq v1 v5 w' => ∃ (x0_1 : List Int) (x1_1 : Int) (x5_1 : Int), v1 = .int .i64 x1_1 ∧ v5 = .int .i64 x5_1 ∧ Aside0 (laws_markInt64S.l0 kq x0_1 x1_1 x5_1 = some (r1, r2)) ∧ Aside0 (kq ≤ k) ∧ Aside0 (Kd.R (Kd.int .i64) 2 w' w0.heap.size (fun k_ => (P0_ k_ ∨ w.heap.size ≤ k_)) u9000_ x0_1) ∧ Aside0 (Kept w w' (fun k_ => P0_ k_)) ∧ Aside0 (Below w0.heap.size w0 w'))
  case atStart => exact ⟨(l0), (a1), (0), (by first | rfl | (simp; done) | (simp [*]; done)), (by first | rfl | (simp; done) | (simp [*]; done)), H', ⟨Nat.le_refl _⟩, ⟨by (with_reducible repeat (first | apply Kd.R_alloc | apply Kd.R_drewN | apply Kd.R_drew)); exact HO0.out⟩, ⟨by repeat (first | (with_reducible first | exact HK.out | apply Kept.alloc | apply Kept.drewN | apply Kept.drew) | exact HK.out)⟩, ⟨by repeat (first | (with_reducible first | exact HB.out | apply below_alloc | apply pw_below_drewN | apply below_drew1) | exact HB.out)⟩⟩
  case round =>
    clear H'
    try clear c1
    try clear p2
    obtain ⟨x0_1, x1_1, x5_1, rfl, rfl, HA, HK1, HO_0, HK, HB⟩ := hrel
    cases gk with
    | zero => exact absurd HA.out (by simp [laws_markInt64S.l0])
    | succ k1 =>
      have H := HA.out
      clear HA
      simp only [laws_markInt64S.l0] at H
      by_cases c3 : x5_1 < (x0_1.length : Int)
      · rw [if_pos c3] at H
        have c3b0 : decide (x5_1 < (x0_1.length : Int)) = true := decide_eq_true c3
        clear c3
        by_cases c4 : 0 ≤ x5_1
        · rw [if_pos c4] at H
          have c4b0 : decide (0 ≤ x5_1) = true := decide_eq_true c4
          clear c4
          obtain ⟨y178, hy178⟩ : ∃ y_ : List Int, y_ = (x0_1.set (x5_1 : Int).toNat x1_1) := ⟨_, rfl⟩
          replace H : (laws_markInt64S.l0 k1 y178 (wrap64 (x1_1 + 1)) (wrap64 (x5_1 + 1))) = some (r1, r2) := by first | (rw [hy178]; with_reducible exact H) | (have H2_ := (Option.bind_some _ _).symm.trans H; rw [hy178]; with_reducible exact H2_) | (have H2_ := (Option.bind_some _ _).symm.trans H; with_reducible exact H2_) | with_reducible exact H | (rw [hy178]; exact H) | exact H
          have Ny178 := Aside0.mk hy178
          clear hy178
          have H' := Aside0.mk H
          clear H
          obtain ⟨Ao6, co6, eo6⟩ := Kd.R_slice HO_0.out
          subst eo6
          have p5 : 0 ≤ (x5_1 : Int) := of_decide_eq_true (by first | (with_reducible assumption) | assumption)
          have q5 : (x5_1 : Int) < ((x0_1.length : Int) : Int) := of_decide_eq_true (by first | (with_reducible assumption) | assumption)
          obtain ⟨go5, co5, eo5, gb5, gl5, cl5, HG5⟩ := Kd.R_form HO_0.out (by omega)
          (first | cases eo5 | (injection eo5 with ea_ en_ ec_; (first | subst ea_ | (injection ea_ with ea_; subst ea_)); subst ec_; clear en_))
          have GB5 := Aside0.mk gb5
          have GG5 := Aside0.mk HG5
          clear gb5 gl5 HG5
          have HMgo5 := Aside0.mk (show (P0_ go5 ∨ w.heap.size ≤ go5) from (HO_0.out.1 _ rfl))
          obtain ⟨hx5_0, hf5_0⟩ := Kd.R_celln 0 HO_0.out (x5_1 : Int) p5 q5
          replace p5 := eq_true p5
          replace q5 := eq_true q5
          have HP7 := Kd.R_putg HO_0.out (x5_1 : Int) x1_1
          go_wp2_with (first | ((with_reducible refine gate_store (t := 2) (p := 15) rfl ?_); refine store_event (t := 2) (p := 15) (v := ?vo_w8) (w1 := (wr.setCell ⟨go5, (x5_1 : Int).toNat, none⟩ (.int .i64 x1_1))) ?hg ?ho ?hn ?hr ?_; (case ho => rfl); (case hg => rfl); (case hn => rfl); (case hr => first | (go_simp; done) | (go_simp; rfl)); intro w8 hw; have hg : wr.grownBy w8 (some go5) := (by rw [hw]; exact HP7.2); have hp_ : Kd.R (Kd.int .i64) 2 w8 w0.heap.size (fun k_ => (P0_ k_ ∨ w.heap.size ≤ k_)) (.slice (some ⟨go5, 0, none⟩) x0_1.length co6) y178 := (by rw [hw, Ny178.out]; exact HP7.1); clear HP7; have n0_ := Aside0.mk (hp_); have n1_ := Aside0.mk ((by rw [hw]; exact below_set (HB.out) GB5.out : Below w0.heap.size w0 w8)); have n2_ := Aside0.mk (Kept.of_grown (S := (fun k_ => P0_ k_)) hg (by repeat (first | (with_reducible first | exact HK.out | apply Kept.alloc | apply Kept.drewN | apply Kept.drew) | exact HK.out)) (fun k_ e_ => (HO_0.out.1 k_ e_))); clear HO_0; clear HB; clear HK; have HO_0 := n0_; have HB := n1_; have HK := n2_; clear n0_ n1_ n2_; clear hg hw hp_))
          go_roundg k1
          case measure => have := HK1.out; omega
          case rel => exact ⟨(y178), (wrap64 (x1_1 + 1)), (wrap64 (x5_1 + 1)), (by first | rfl | (simp; done) | (simp [*]; done)), (by first | rfl | (simp; done) | (simp [*]; done)), H', ⟨by have := HK1.out; omega⟩, ⟨by (with_reducible repeat (first | apply Kd.R_alloc | apply Kd.R_drewN | apply Kd.R_drew)); exact HO_0.out⟩, ⟨by repeat (first | (with_reducible first | exact HK.out | apply Kept.alloc | apply Kept.drewN | apply Kept.drew) | exact HK.out)⟩, ⟨by repeat (first | (with_reducible first | exact HB.out | apply below_alloc | apply pw_below_drewN | apply below_drew1) | exact HB.out)⟩⟩
        · rw [if_neg c4] at H
          exact absurd H (by simp)
      · rw [if_neg c3] at H
        have c3b0 : decide (x5_1 < (x0_1.length : Int)) = false := decide_eq_false c3
        clear c3
        simp only [Option.some.injEq, Prod.mk.injEq] at H
        obtain ⟨rfl, rfl⟩ := H
        obtain ⟨Ao9, co9, eo9⟩ := Kd.R_slice HO_0.out
        subst eo9
        go_wp2
        go_ret
        exact ⟨by first | rfl | (simp [errW_none, errW_some] <;> rfl) | (simp [*, errW_none, errW_some] <;> rfl), by (with_reducible repeat (first | apply Kd.R_alloc | apply Kd.R_drewN | apply Kd.R_drew)); exact HO_0.out, by repeat (first | (with_reducible first | exact HB.out | apply below_alloc | apply pw_below_drewN | apply below_drew1) | exact HB.out), by repeat (first | (with_reducible first | exact HK.out | apply Kept.alloc | apply Kept.drewN | apply Kept.drew) | exact HK.out)⟩

/-! ### laws_markInt64SS: function 7 -/
def laws_markInt64SS.l0 : Nat → List (List Int) → Int → Int → Option (Int × List (List Int))
  | 0, _, _, _ => none
  | k + 1, x0, x1, x5 => if x5 < (x0.length : Int) then (if 0 ≤ x5 then ((laws_markInt64S.f k (x0.getD x5.toNat []) x1).bind fun bt => laws_markInt64SS.l0 k (x0.set x5.toNat bt.2) bt.1 (wrap64 (x5 + 1))) else (none)) else (some (x1, x0))
def laws_markInt64SS.f (k : Nat) (l0 : List (List Int)) (a1 : Int) : Option (Int × List (List Int)) := laws_markInt64SS.l0 k l0 a1 0
theorem laws_markInt64SS.mono_l : ∀ k, (∀ y0 y1 y2, LeO (laws_markInt64SS.l0 k y0 y1 y2) (laws_markInt64SS.l0 (k + 1) y0 y1 y2))
  | 0 => fun _ _ _ r h => by simp [laws_markInt64SS.l0] at h
  | k + 1 => by
    have ih0 := laws_markInt64SS.mono_l k
    intro y0 y1 y2
    unfold laws_markInt64SS.l0
    repeat' first
      | (with_reducible exact ih0 _ _ _)
      | (with_reducible exact laws_markInt64S.mono _ _ _)
      | (with_reducible exact LeO.refl _)
      | (with_reducible exact LeO.none _)
      | (with_reducible refine LeO.ite ?_ ?_)
      | (with_reducible refine LeO.bind ?_ (fun _ => ?_))
      | exact ih0 _ _ _
      | exact laws_markInt64S.mono _ _ _
theorem laws_markInt64SS.mono : ∀ a0 a1 k, LeO (laws_markInt64SS.f k a0 a1) (laws_markInt64SS.f (k + 1) a0 a1) := fun a0 a1 k => laws_markInt64SS.mono_l k a0 a1 0
set_option maxHeartbeats 8000000 in
set_option maxRecDepth 100000 in
theorem laws_markInt64SS.calls (k : Nat) (P0_ : Nat → Prop) (u9000_ : Value) (l0 : List (List Int)) (a1 : Int) (r1 : Int) (r2 : List (List Int)) (w0 w : World) (hB : Below w0.heap.size w0 w) (ho0 : Kd.S (Kd.slice 2 (Kd.int .i64)) 30 w w0.heap.size P0_ u9000_ l0) (h : laws_markInt64SS.f k l0 a1 = some (r1, r2)) :
    Calls Tryd.prog 7 #[u9000_, .int .i64 a1] w fun e w' => e = .returned (.int .i64 r1) ∧ Kd.S (Kd.slice 2 (Kd.int .i64)) 30 w' w0.heap.size P0_ u9000_ r2 ∧ Below w0.heap.size w0 w' ∧ Kept w w' P0_ := by
  have HO0 := Aside0.mk ho0
  have HK := Aside0.mk (Kept.refl w P0_)
  have HB := Aside0.mk hB
  clear hB ho0
  have H' := Aside0.mk (show laws_markInt64SS.l0 k l0 a1 0 = some (r1, r2) from h)
  clear h
  go_enter Tryd.func7, Tryd.ntmps7
  go_wp2
  go_loopg [1, 5] k (fun kq v1 v5 w' => ∃ (x0_1 : List (List Int)) (x1_1 : Int) (x5_1 : Int), v1 = .int .i64 x1_1 ∧ v5 = .int .i64 x5_1 ∧ Aside0 (laws_markInt64SS.l0 kq x0_1 x1_1 x5_1 = some (r1, r2)) ∧ Aside0 (kq ≤ k) ∧ Aside0 (Kd.S (Kd.slice 2 (Kd.int .i64)) 30 w' w0.heap.size P0_ u9000_ x0_1) ∧ Aside0 (Kept w w' P0_) ∧ Aside0 (Below w0.heap.size w0 w'))
  case atStart => exact ⟨l0, a1, 0, rfl, rfl, H', ⟨Nat.le_refl _⟩, ⟨by (with_reducible repeat (first | apply Kd.S_alloc | apply Kd.S_drewN | apply Kd.S_drew)); exact HO0.out⟩, ⟨by (with_reducible repeat (first | exact HK.out | apply Kept.alloc | apply Kept.drewN | apply Kept.drew))⟩, ⟨by (with_reducible repeat (first | exact HB.out | apply below_alloc | apply pw_below_drewN | apply below_drew1))⟩⟩
  case round =>
    clear H'
    obtain ⟨x0_1, x1_1, x5_1, rfl, rfl, HA, HK1, HO_0, HK, HB⟩ := hrel
    obtain ⟨Ao, co, eo⟩ := Kd.S_slice HO_0.out
    subst eo
    cases gk with
    | zero => exact absurd HA.out (by simp [laws_markInt64SS.l0])
    | succ k1 =>
      have H := HA.out
      clear HA
      simp only [laws_markInt64SS.l0] at H
      by_cases c3 : x5_1 < (x0_1.length : Int)
      · rw [if_pos c3] at H
        have c3b0 : decide (x5_1 < (x0_1.length : Int)) = true := decide_eq_true c3
        by_cases c4 : 0 ≤ x5_1
        · rw [if_pos c4] at H
          have c4b0 : decide (0 ≤ x5_1) = true := decide_eq_true c4
          replace H := Option.bind_eq_some_iff.mp H
          obtain ⟨⟨t1, t2⟩, A7, H⟩ := H
          have H' := Aside0.mk (show laws_markInt64SS.l0 k1 (x0_1.set x5_1.toNat t2) t1 (wrap64 (x5_1 + 1)) = some (r1, r2) from H)
          clear H
          obtain ⟨gg, cap, eg, _, _, _⟩ := Kd.S_form HO_0.out (by omega)
          cases eg
          obtain ⟨oki, c, hcl, hM, hcc, hoki, hH⟩ := Kd.S_lend HO_0.out [] x5_1 c4 c3
          obtain ⟨el, hel⟩ : ∃ el : List Int, el = x0_1.getD x5_1.toNat [] := ⟨_, rfl⟩
          rw [← hel] at hM A7
          have A7' := Aside0.mk A7
          clear A7
          clear hel
          obtain ⟨v, rfl, hR⟩ := hM
          obtain ⟨A1, c1, e1⟩ := Kd.R_slice hR
          subst e1
          have hx0 := hcc 0 _ rfl
          simp only [show (Kd.slice 2 (Kd.int .i64)).sz = 1 from rfl, Nat.mul_one, Nat.add_zero] at hx0
          have HR := Aside0.mk hR
          have HH := Aside0.mk hH
          have HQ := Aside0.mk hoki
          clear hcc hH hR hoki hcl
          replace c3 := eq_true c3
          replace c4 := eq_true c4
          go_wp2_with (first | (go_at_call 14; (with_reducible refine (laws_markInt64S.calls k1 oki (.slice A1 el.length c1) el x1_1 t1 t2 w0 _ ?side1 ?side2 A7'.out).mono ?_); (case side1 => (with_reducible repeat (first | exact HB.out | apply below_alloc | apply pw_below_drewN | apply below_drew1))); (case side2 => (with_reducible repeat (first | apply Kd.R_alloc | apply Kd.R_drewN | apply Kd.R_drew)); exact HR.out); rintro e w7 ⟨rfl, hy0, hb, hkp⟩; have n0_ := Aside0.mk (show Kd.S (Kd.slice 2 (Kd.int .i64)) 30 w7 w0.heap.size P0_ (.slice (some ⟨gg, 0, none⟩) x0_1.length _) (x0_1.set x5_1.toNat t2) from Kd.H_back (d := (Kd.slice 2 (Kd.int .i64))) (x' := t2) (Kd.H_step (by (with_reducible repeat (first | apply Kd.H_alloc | apply Kd.H_drewN | apply Kd.H_drew)); exact HH.out) (fun k_ _ hn_ hlt_ => hkp.2 k_ hlt_ hn_)) ⟨_, rfl, Kd.R_reok rfl hy0 (fun k_ e_ => HR.out.1 k_ e_)⟩ (fun _ h_ => h_)); have n1_ := Aside0.mk (Kept.then_ (S := P0_) (by (with_reducible repeat (first | exact HK.out | apply Kept.alloc | apply Kept.drewN | apply Kept.drew))) hkp (fun k_ h_ => .inl (HQ.out k_ h_).1)); have n2_ := Aside0.mk hb; clear HO_0 HK HB hy0 hb hkp; have HO_0 := n0_; have HK := n1_; have HB := n2_; clear n0_ n1_ n2_))
          go_roundg k1
          case measure => have := HK1.out; omega
          case rel => exact ⟨_, t1, wrap64 (x5_1 + 1), (by first | rfl | (simp; done) | (simp [*]; done)), (by first | rfl | (simp; done) | (simp [*]; done)), H', ⟨by have := HK1.out; omega⟩, ⟨by (with_reducible repeat (first | apply Kd.S_alloc | apply Kd.S_drewN | apply Kd.S_drew)); exact HO_0.out⟩, ⟨by (with_reducible repeat (first | exact HK.out | apply Kept.alloc | apply Kept.drewN | apply Kept.drew))⟩, ⟨by (with_reducible repeat (first | exact HB.out | apply below_alloc | apply pw_below_drewN | apply below_drew1))⟩⟩
        · rw [if_neg c4] at H
          exact absurd H (by simp)
      · rw [if_neg c3] at H
        have c3b0 : decide (x5_1 < (x0_1.length : Int)) = false := decide_eq_false c3
        clear c3
        have H2 := Option.some.inj H
        injection H2 with e1_ e2_
        subst e1_
        subst e2_
        go_wp2
        go_ret
        exact ⟨rfl, by (with_reducible repeat (first | apply Kd.S_alloc | apply Kd.S_drewN | apply Kd.S_drew)); exact HO_0.out, by (with_reducible repeat (first | exact HB.out | apply below_alloc | apply pw_below_drewN | apply below_drew1)), by (with_reducible repeat (first | exact HK.out | apply Kept.alloc | apply Kept.drewN | apply Kept.drew))⟩

/-! ### laws_heldInt64S: function 15 -/
def laws_heldInt64S.l0 : Nat → List Int → Int → Int → Option (Int)
  | 0, _, _, _ => none
  | k + 1, x0, x1, x5 => if x5 < (x0.length : Int) then (if 0 ≤ x5 then (if (rd x0 x5) = x1 then (laws_heldInt64S.l0 k x0 (wrap64 (x1 + 1)) (wrap64 (x5 + 1))) else (some (-1))) else (none)) else (some x1)
def laws_heldInt64S.f (k : Nat) (l0 : List Int) (a1 : Int) : Option (Int) := laws_heldInt64S.l0 k l0 a1 0
theorem laws_heldInt64S.mono_l : ∀ k, (∀ y0 y1 y2, LeO (laws_heldInt64S.l0 k y0 y1 y2) (laws_heldInt64S.l0 (k + 1) y0 y1 y2))
  | 0 => fun _ _ _ r h => by simp [laws_heldInt64S.l0] at h
  | k + 1 => by
    have ih0 := laws_heldInt64S.mono_l k
    · intro y0 y1 y2
      unfold laws_heldInt64S.l0
      repeat' first
      | (with_reducible exact ih0 _ _ _)
      | (with_reducible exact LeO.refl _)
      | (with_reducible exact LeO.none _)
      | (with_reducible refine LeO.ite ?_ ?_)
      | (with_reducible refine LeO.bind ?_ (fun _ => ?_))
      | exact ih0 _ _ _
      | exact LeO.none _
      | refine LeO.ite ?_ ?_
      | refine LeO.bind ?_ (fun _ => ?_)
theorem laws_heldInt64S.mono : ∀ a0 a1 k, LeO (laws_heldInt64S.f k a0 a1) (laws_heldInt64S.f (k + 1) a0 a1) := by
  intro a0 a1 k
  have ih0 := laws_heldInt64S.mono_l k
  unfold laws_heldInt64S.f
  repeat' first
      | (with_reducible exact ih0 _ _ _)
      | (with_reducible exact LeO.refl _)
      | (with_reducible exact LeO.none _)
      | (with_reducible refine LeO.ite ?_ ?_)
      | (with_reducible refine LeO.bind ?_ (fun _ => ?_))
      | exact ih0 _ _ _
      | exact LeO.none _
      | refine LeO.ite ?_ ?_
      | refine LeO.bind ?_ (fun _ => ?_)
set_option maxHeartbeats 8000000 in
set_option maxRecDepth 100000 in
theorem laws_heldInt64S.calls (k : Nat) (A0 : Option Addr) (c0 : Nat) (l0 : List Int) (a1 : Int) (r : Int) (w : World) (hr0 : Kd.C (Kd.int .i64) w A0 l0.length l0) (hc0 : l0.length ≤ c0) (h : laws_heldInt64S.f k l0 a1 = some r) :
    Calls Tryd.prog 15 #[.slice A0 l0.length c0, .int .i64 a1] w fun e w' => e = .returned (.int .i64 r) ∧ Drawn0 w w' := by
  have HR0 := Aside0.mk hr0
  have HC0 := Aside0.mk hc0
  clear hr0 hc0
  have H : (laws_heldInt64S.l0 k l0 a1 0) = some r := h
  clear h
  have H' := Aside0.mk H
  clear H
  go_enter Tryd.func15, Tryd.ntmps15
  go_wp2
  go_loopg [1, 5] k (fun kq v1 v5 w' => ∃ (x1_1 : Int) (x5_1 : Int), v1 = .int .i64 x1_1 ∧ v5 = .int .i64 x5_1 ∧ Aside0 (laws_heldInt64S.l0 kq l0 x1_1 x5_1 = some r) ∧ Aside0 (kq ≤ k) ∧ Drawn0 w w')
  case atStart => exact ⟨(a1), (0), (by first | rfl | (simp; done) | (simp [*]; done)), (by first | rfl | (simp; done) | (simp [*]; done)), H', ⟨Nat.le_refl _⟩, by repeat (first | exact Drawn0.refl _ | apply Drawn0.step)⟩
  case round =>
    clear H'
    try clear c1
    try clear p2
    obtain ⟨x1_1, x5_1, rfl, rfl, HA, HK1, ⟨m1, rfl⟩⟩ := hrel
    cases gk with
    | zero => exact absurd HA.out (by simp [laws_heldInt64S.l0])
    | succ k1 =>
      have H := HA.out
      clear HA
      simp only [laws_heldInt64S.l0] at H
      by_cases c3 : x5_1 < (l0.length : Int)
      · rw [if_pos c3] at H
        have c3b0 : decide (x5_1 < (l0.length : Int)) = true := decide_eq_true c3
        clear c3
        by_cases c4 : 0 ≤ x5_1
        · rw [if_pos c4] at H
          have c4b0 : decide (0 ≤ x5_1) = true := decide_eq_true c4
          clear c4
          by_cases c5 : (rd l0 x5_1) = x1_1
          · rw [if_pos c5] at H
            have c5b0 : ((rd l0 x5_1) == x1_1) = true := beq_iff_eq.mpr c5
            have c5b1 : ((rd l0 x5_1) != x1_1) = false := bne_eq_false_iff_eq.mpr c5
            clear c5
            have H' := Aside0.mk H
            clear H
            have p179 : 0 ≤ (x5_1 : Int) := of_decide_eq_true (by first | (with_reducible assumption) | assumption)
            have q179 : x5_1 < (l0.length : Int) := of_decide_eq_true (by first | (with_reducible assumption) | assumption)
            obtain ⟨ad179, e179, hx179_0⟩ := Kd.at_int HR0.out x5_1 p179 q179
            cases e179
            replace p179 := eq_true p179
            replace q179 := eq_true q179
            go_wp2
            go_roundg k1
            case measure => have := HK1.out; omega
            case rel => exact ⟨(wrap64 (x1_1 + 1)), (wrap64 (x5_1 + 1)), (by first | rfl | (simp; done) | (simp [*]; done)), (by first | rfl | (simp; done) | (simp [*]; done)), H', ⟨by have := HK1.out; omega⟩, by repeat (first | exact Drawn0.refl _ | apply Drawn0.step)⟩
          · rw [if_neg c5] at H
            have c5b0 : ((rd l0 x5_1) == x1_1) = false := beq_eq_false_iff_ne.mpr c5
            have c5b1 : ((rd l0 x5_1) != x1_1) = true := bne_iff_ne.mpr c5
            obtain rfl := Option.some.inj H
            have p179 : 0 ≤ (x5_1 : Int) := of_decide_eq_true (by first | (with_reducible assumption) | assumption)
            have q179 : x5_1 < (l0.length : Int) := of_decide_eq_true (by first | (with_reducible assumption) | assumption)
            obtain ⟨ad179, e179, hx179_0⟩ := Kd.at_int HR0.out x5_1 p179 q179
            cases e179
            replace p179 := eq_true p179
            replace q179 := eq_true q179
            go_wp2
            go_ret
            exact ⟨by first | rfl | (simp; done) | (simp [*]; done), by repeat (first | exact Drawn0.refl _ | apply Drawn0.step)⟩
        · rw [if_neg c4] at H
          exact absurd H (by simp)
      · rw [if_neg c3] at H
        have c3b0 : decide (x5_1 < (l0.length : Int)) = false := decide_eq_false c3
        clear c3
        obtain rfl := Option.some.inj H
        go_wp2
        go_ret
        exact ⟨by first | rfl | (simp; done) | (simp [*]; done), by repeat (first | exact Drawn0.refl _ | apply Drawn0.step)⟩

/-! ### laws_heldInt64SS: function 8 -/
def laws_heldInt64SS.l0 : Nat → List (List Int) → Int → Int → Option (Int)
  | 0, _, _, _ => none
  | k + 1, x0, x1, x5 => if x5 < (x0.length : Int) then (if 0 ≤ x5 then ((laws_heldInt64S.f k (rd_L2 x0 x5) x1).bind fun t181 => (if t181 < 0 then (some (-1)) else (laws_heldInt64SS.l0 k x0 t181 (wrap64 (x5 + 1))))) else (none)) else (some x1)
def laws_heldInt64SS.f (k : Nat) (l0 : List (List Int)) (a1 : Int) : Option (Int) := laws_heldInt64SS.l0 k l0 a1 0
theorem laws_heldInt64SS.mono_l : ∀ k, (∀ y0 y1 y2, LeO (laws_heldInt64SS.l0 k y0 y1 y2) (laws_heldInt64SS.l0 (k + 1) y0 y1 y2))
  | 0 => fun _ _ _ r h => by simp [laws_heldInt64SS.l0] at h
  | k + 1 => by
    have ih0 := laws_heldInt64SS.mono_l k
    · intro y0 y1 y2
      unfold laws_heldInt64SS.l0
      repeat' first
      | (with_reducible exact ih0 _ _ _)
      | (with_reducible exact laws_heldInt64S.mono _ _ _)
      | (with_reducible exact LeO.refl _)
      | (with_reducible exact LeO.none _)
      | (with_reducible refine LeO.ite ?_ ?_)
      | (with_reducible refine LeO.bind ?_ (fun _ => ?_))
      | exact ih0 _ _ _
      | exact laws_heldInt64S.mono _ _ _
      | exact LeO.none _
      | refine LeO.ite ?_ ?_
      | refine LeO.bind ?_ (fun _ => ?_)
theorem laws_heldInt64SS.mono : ∀ a0 a1 k, LeO (laws_heldInt64SS.f k a0 a1) (laws_heldInt64SS.f (k + 1) a0 a1) := by
  intro a0 a1 k
  have ih0 := laws_heldInt64SS.mono_l k
  unfold laws_heldInt64SS.f
  repeat' first
      | (with_reducible exact ih0 _ _ _)
      | (with_reducible exact laws_heldInt64S.mono _ _ _)
      | (with_reducible exact LeO.refl _)
      | (with_reducible exact LeO.none _)
      | (with_reducible refine LeO.ite ?_ ?_)
      | (with_reducible refine LeO.bind ?_ (fun _ => ?_))
      | exact ih0 _ _ _
      | exact laws_heldInt64S.mono _ _ _
      | exact LeO.none _
      | refine LeO.ite ?_ ?_
      | refine LeO.bind ?_ (fun _ => ?_)
set_option maxHeartbeats 8000000 in
set_option maxRecDepth 100000 in
theorem laws_heldInt64SS.calls (k : Nat) (A0 : Option Addr) (c0 : Nat) (l0 : List (List Int)) (a1 : Int) (r : Int) (w : World) (hr0 : Kd.C (Kd.slice 2 (Kd.int .i64)) w A0 l0.length l0) (hc0 : l0.length ≤ c0) (h : laws_heldInt64SS.f k l0 a1 = some r) :
    Calls Tryd.prog 8 #[.slice A0 l0.length c0, .int .i64 a1] w fun e w' => e = .returned (.int .i64 r) ∧ Drawn0 w w' := by
  have HR0 := Aside0.mk hr0
  have HC0 := Aside0.mk hc0
  clear hr0 hc0
  have H : (laws_heldInt64SS.l0 k l0 a1 0) = some r := h
  clear h
  have H' := Aside0.mk H
  clear H
  go_enter Tryd.func8, Tryd.ntmps8
  go_wp2
  go_loopg [1, 5] k (fun kq v1 v5 w' => ∃ (x1_1 : Int) (x5_1 : Int), v1 = .int .i64 x1_1 ∧ v5 = .int .i64 x5_1 ∧ Aside0 (laws_heldInt64SS.l0 kq l0 x1_1 x5_1 = some r) ∧ Aside0 (kq ≤ k) ∧ Drawn0 w w')
  case atStart => exact ⟨(a1), (0), (by first | rfl | (simp; done) | (simp [*]; done)), (by first | rfl | (simp; done) | (simp [*]; done)), H', ⟨Nat.le_refl _⟩, by repeat (first | exact Drawn0.refl _ | apply Drawn0.step)⟩
  case round =>
    clear H'
    try clear p2
    obtain ⟨x1_1, x5_1, rfl, rfl, HA, HK1, ⟨m1, rfl⟩⟩ := hrel
    cases gk with
    | zero => exact absurd HA.out (by simp [laws_heldInt64SS.l0])
    | succ k1 =>
      have H := HA.out
      clear HA
      simp only [laws_heldInt64SS.l0] at H
      by_cases c3 : x5_1 < (l0.length : Int)
      · rw [if_pos c3] at H
        have c3b0 : decide (x5_1 < (l0.length : Int)) = true := decide_eq_true c3
        clear c3
        by_cases c4 : 0 ≤ x5_1
        · rw [if_pos c4] at H
          have c4b0 : decide (0 ≤ x5_1) = true := decide_eq_true c4
          clear c4
          replace H := Option.bind_eq_some_iff.mp H
          obtain ⟨t181, A50, H⟩ := H
          replace H : (if t181 < 0 then (some (-1)) else (laws_heldInt64SS.l0 k1 l0 t181 (wrap64 (x5_1 + 1)))) = some r := H
          have A5 := Aside0.mk A50
          clear A50
          by_cases c6 : t181 < 0
          · rw [if_pos c6] at H
            have c6b0 : decide (t181 < 0) = true := decide_eq_true c6
            clear c6
            obtain rfl := Option.some.inj H
            have p180 : 0 ≤ (x5_1 : Int) := of_decide_eq_true (by first | (with_reducible assumption) | assumption)
            have q180 : x5_1 < (l0.length : Int) := of_decide_eq_true (by first | (with_reducible assumption) | assumption)
            obtain ⟨ad180, A180_0, c180_0, e180, hx180_0, hl180_0, hi180_0⟩ := at_L2 HR0.out x5_1 p180 q180
            cases e180
            have HR180_0 := Aside0.mk hi180_0
            have HC180_0 := Aside0.mk hl180_0
            clear hi180_0 hl180_0
            replace p180 := eq_true p180
            replace q180 := eq_true q180
            go_wp2_with (first | ((with_reducible refine gate_callee (f := 15) rfl ?_); refine goesL_ (some 17) rfl rfl Tryd.func15 (by kernel_rfl) rfl #[.slice A180_0 (rd_L2 l0 x5_1).length c180_0, .int .i64 x1_1] rfl (by (try simp only [List.map_toArray, List.map_cons, List.map_nil]); first | done | rfl | (simp only [List.length_drop, List.length_take]; rfl)) ?_; (with_reducible refine (laws_heldInt64S.calls k1 _ _ (rd_L2 l0 x5_1) x1_1 t181 _ ?side1 ?side2 A5.out).mono ?_); (case side1 => repeat (first | exact HR180_0.out | (with_reducible refine Kd.C_alloc ?_ _) | (with_reducible refine Kd.C_drewN ?_ _) | (with_reducible refine Kd.C_drew ?_))); (case side2 => exact HC180_0.out); rintro e w' ⟨rfl, ⟨nd, rfl⟩⟩; refine ⟨_, rfl, ?_⟩))
            go_ret
            exact ⟨by first | rfl | (simp; done) | (simp [*]; done), by repeat (first | exact Drawn0.refl _ | apply Drawn0.step)⟩
          · rw [if_neg c6] at H
            have c6b0 : decide (t181 < 0) = false := decide_eq_false c6
            clear c6
            have H' := Aside0.mk H
            clear H
            have p180 : 0 ≤ (x5_1 : Int) := of_decide_eq_true (by first | (with_reducible assumption) | assumption)
            have q180 : x5_1 < (l0.length : Int) := of_decide_eq_true (by first | (with_reducible assumption) | assumption)
            obtain ⟨ad180, A180_0, c180_0, e180, hx180_0, hl180_0, hi180_0⟩ := at_L2 HR0.out x5_1 p180 q180
            cases e180
            have HR180_0 := Aside0.mk hi180_0
            have HC180_0 := Aside0.mk hl180_0
            clear hi180_0 hl180_0
            replace p180 := eq_true p180
            replace q180 := eq_true q180
            go_wp2_with (first | ((with_reducible refine gate_callee (f := 15) rfl ?_); refine goesL_ (some 17) rfl rfl Tryd.func15 (by kernel_rfl) rfl #[.slice A180_0 (rd_L2 l0 x5_1).length c180_0, .int .i64 x1_1] rfl (by (try simp only [List.map_toArray, List.map_cons, List.map_nil]); first | done | rfl | (simp only [List.length_drop, List.length_take]; rfl)) ?_; (with_reducible refine (laws_heldInt64S.calls k1 _ _ (rd_L2 l0 x5_1) x1_1 t181 _ ?side1 ?side2 A5.out).mono ?_); (case side1 => repeat (first | exact HR180_0.out | (with_reducible refine Kd.C_alloc ?_ _) | (with_reducible refine Kd.C_drewN ?_ _) | (with_reducible refine Kd.C_drew ?_))); (case side2 => exact HC180_0.out); rintro e w' ⟨rfl, ⟨nd, rfl⟩⟩; refine ⟨_, rfl, ?_⟩))
            go_roundg k1
            case measure => have := HK1.out; omega
            case rel => exact ⟨(t181), (wrap64 (x5_1 + 1)), (by first | rfl | (simp; done) | (simp [*]; done)), (by first | rfl | (simp; done) | (simp [*]; done)), H', ⟨by have := HK1.out; omega⟩, by repeat (first | exact Drawn0.refl _ | apply Drawn0.step)⟩
        · rw [if_neg c4] at H
          exact absurd H (by simp)
      · rw [if_neg c3] at H
        have c3b0 : decide (x5_1 < (l0.length : Int)) = false := decide_eq_false c3
        clear c3
        obtain rfl := Option.some.inj H
        go_wp2
        go_ret
        exact ⟨by first | rfl | (simp; done) | (simp [*]; done), by repeat (first | exact Drawn0.refl _ | apply Drawn0.step)⟩

/-! ### laws_FnExactReadBags: function 3 -/
mutual
def laws_FnExactReadBags.j0 : Nat → ByteArray → List (List Int) → Int → List (List Int) → Bool → Option (Bool)
  | 0, _, _, _, _, _ => none
  | k + 1, x0, x3, x4, x5, x32 => if x32 = true then (some false) else ((laws_markInt64SS.f k x5 1).bind fun bt191 => ((laws_heldInt64SS.f k bt191.2 1).bind fun t193 => (if t193 < 0 then (some false) else (if t193 = bt191.1 then ((impl_ReadBags.f k x0).bind fun bt194 => ((laws_eqInt64SS.f k bt194.1 x3).bind fun t198 => (if t198 = true then (laws_FnExactReadBags.j1 k bt191.2 bt191.1 (bt194.2 != x4)) else (laws_FnExactReadBags.j1 k bt191.2 bt191.1 true)))) else (some false)))))
def laws_FnExactReadBags.j1 : Nat → List (List Int) → Int → Bool → Option (Bool)
  | 0, _, _, _ => none
  | k + 1, x5, x7, x57 => if x57 = true then (some false) else ((laws_heldInt64SS.f k x5 1).bind fun t199 => (if t199 < 0 then (some false) else (if t199 = x7 then (some true) else (some false))))
end
def laws_FnExactReadBags.f (k : Nat) (a0 : ByteArray) : Option (Bool) := if (a0.size : Int) > 1048576 then (some true) else ((spec_ReadBags.f k a0).bind fun bt182 => ((impl_ReadBags.f k a0).bind fun bt186 => ((laws_eqInt64SS.f k bt186.1 bt182.1).bind fun t190 => (if t190 = true then (laws_FnExactReadBags.j0 k a0 bt182.1 bt182.2 bt186.1 (bt186.2 != bt182.2)) else (laws_FnExactReadBags.j0 k a0 bt182.1 bt182.2 bt186.1 true)))))
theorem laws_FnExactReadBags.mono_l : ∀ k, (∀ y0 y1 y2 y3 y4, LeO (laws_FnExactReadBags.j0 k y0 y1 y2 y3 y4) (laws_FnExactReadBags.j0 (k + 1) y0 y1 y2 y3 y4)) ∧ (∀ y0 y1 y2, LeO (laws_FnExactReadBags.j1 k y0 y1 y2) (laws_FnExactReadBags.j1 (k + 1) y0 y1 y2))
  | 0 => ⟨fun _ _ _ _ _ r h => by simp [laws_FnExactReadBags.j0] at h, fun _ _ _ r h => by simp [laws_FnExactReadBags.j1] at h⟩
  | k + 1 => by
    obtain ⟨ih0, ih1⟩ := laws_FnExactReadBags.mono_l k
    refine ⟨?_, ?_⟩
    · intro y0 y1 y2 y3 y4
      unfold laws_FnExactReadBags.j0
      repeat' first
      | (with_reducible exact ih0 _ _ _ _ _)
      | (with_reducible exact ih1 _ _ _)
      | (with_reducible exact impl_ReadBags.mono _ _)
      | (with_reducible exact laws_eqInt64SS.mono _ _ _)
      | (with_reducible exact laws_heldInt64SS.mono _ _ _)
      | (with_reducible exact laws_markInt64SS.mono _ _ _)
      | (with_reducible exact spec_ReadBags.mono _ _)
      | (with_reducible exact LeO.refl _)
      | (with_reducible exact LeO.none _)
      | (with_reducible refine LeO.ite ?_ ?_)
      | (with_reducible refine LeO.bind ?_ (fun _ => ?_))
      | exact ih0 _ _ _ _ _
      | exact ih1 _ _ _
      | exact impl_ReadBags.mono _ _
      | exact laws_eqInt64SS.mono _ _ _
      | exact laws_heldInt64SS.mono _ _ _
      | exact laws_markInt64SS.mono _ _ _
      | exact spec_ReadBags.mono _ _
      | exact LeO.none _
      | refine LeO.ite ?_ ?_
      | refine LeO.bind ?_ (fun _ => ?_)
    · intro y0 y1 y2
      unfold laws_FnExactReadBags.j1
      repeat' first
      | (with_reducible exact ih0 _ _ _ _ _)
      | (with_reducible exact ih1 _ _ _)
      | (with_reducible exact impl_ReadBags.mono _ _)
      | (with_reducible exact laws_eqInt64SS.mono _ _ _)
      | (with_reducible exact laws_heldInt64SS.mono _ _ _)
      | (with_reducible exact laws_markInt64SS.mono _ _ _)
      | (with_reducible exact spec_ReadBags.mono _ _)
      | (with_reducible exact LeO.refl _)
      | (with_reducible exact LeO.none _)
      | (with_reducible refine LeO.ite ?_ ?_)
      | (with_reducible refine LeO.bind ?_ (fun _ => ?_))
      | exact ih0 _ _ _ _ _
      | exact ih1 _ _ _
      | exact impl_ReadBags.mono _ _
      | exact laws_eqInt64SS.mono _ _ _
      | exact laws_heldInt64SS.mono _ _ _
      | exact laws_markInt64SS.mono _ _ _
      | exact spec_ReadBags.mono _ _
      | exact LeO.none _
      | refine LeO.ite ?_ ?_
      | refine LeO.bind ?_ (fun _ => ?_)
theorem laws_FnExactReadBags.mono : ∀ a0 k, LeO (laws_FnExactReadBags.f k a0) (laws_FnExactReadBags.f (k + 1) a0) := by
  intro a0 k
  obtain ⟨ih0, ih1⟩ := laws_FnExactReadBags.mono_l k
  unfold laws_FnExactReadBags.f
  repeat' first
      | (with_reducible exact ih0 _ _ _ _ _)
      | (with_reducible exact ih1 _ _ _)
      | (with_reducible exact impl_ReadBags.mono _ _)
      | (with_reducible exact laws_eqInt64SS.mono _ _ _)
      | (with_reducible exact laws_heldInt64SS.mono _ _ _)
      | (with_reducible exact laws_markInt64SS.mono _ _ _)
      | (with_reducible exact spec_ReadBags.mono _ _)
      | (with_reducible exact LeO.refl _)
      | (with_reducible exact LeO.none _)
      | (with_reducible refine LeO.ite ?_ ?_)
      | (with_reducible refine LeO.bind ?_ (fun _ => ?_))
      | exact ih0 _ _ _ _ _
      | exact ih1 _ _ _
      | exact impl_ReadBags.mono _ _
      | exact laws_eqInt64SS.mono _ _ _
      | exact laws_heldInt64SS.mono _ _ _
      | exact laws_markInt64SS.mono _ _ _
      | exact spec_ReadBags.mono _ _
      | exact LeO.none _
      | refine LeO.ite ?_ ?_
      | refine LeO.bind ?_ (fun _ => ?_)
theorem laws_FnExactReadBags.age {W w1 : World} (hb : Below W.heap.size W w1) : ∃ N : Nat, N = W.heap.size := ⟨_, rfl⟩
theorem laws_FnExactReadBags.young {α : Type} {d : Kd α} {e : Nat} {W : World} {base N : Nat} {ok : Nat → Prop} {u : Value} {xs : List α} (h : Kd.S d e W base ok u xs) (hN : N = W.heap.size) : Kd.S d e W base (fun k => ok k ∧ k < N) u xs :=
  Kd.S_mono (Kd.S_bound h) (fun k hk => ⟨hk.1, by have h2 := hk.2.2.1; omega⟩)
set_option maxHeartbeats 8000000 in
set_option maxRecDepth 100000 in
theorem laws_FnExactReadBags.calls (k : Nat) (a0 : ByteArray) (r : Bool) (w : World) (hT_ : TabX w) (h : laws_FnExactReadBags.f k a0 = some r) :
    Calls Tryd.prog 3 #[.string a0] w fun e w' => e = .returned (.bool r) ∧ Below w.heap.size w w' := by
  have HTAB := Aside0.mk hT_
  clear hT_
  have HB := Aside0.mk (Below.refl w.heap.size w)
  have H : (if (a0.size : Int) > 1048576 then (some true) else ((spec_ReadBags.f k a0).bind fun bt182 => ((impl_ReadBags.f k a0).bind fun bt186 => ((laws_eqInt64SS.f k bt186.1 bt182.1).bind fun t190 => (if t190 = true then (laws_FnExactReadBags.j0 k a0 bt182.1 bt182.2 bt186.1 (bt186.2 != bt182.2)) else (laws_FnExactReadBags.j0 k a0 bt182.1 bt182.2 bt186.1 true)))))) = some r := h
  clear h
  by_cases c2 : (a0.size : Int) > 1048576
  · rw [if_pos c2] at H
    have c2b0 : decide (1048576 < (a0.size : Int)) = true := decide_eq_true c2
    have c2b1 : decide (1048576 < a0.size) = true := decide_eq_true (by omega)
    clear c2
    obtain rfl := Option.some.inj H
    go_enter Tryd.func3, Tryd.ntmps3
    go_wp2
    go_ret
    exact ⟨by first | rfl | (simp [errW_none, errW_some] <;> rfl) | (simp [*, errW_none, errW_some] <;> rfl), by repeat (first | (with_reducible first | exact HB.out | apply below_alloc | apply pw_below_drewN | apply below_drew1) | exact HB.out)⟩
  · rw [if_neg c2] at H
    have c2b0 : decide (1048576 < (a0.size : Int)) = false := decide_eq_false c2
    have c2b1 : decide (1048576 < a0.size) = false := decide_eq_false (by omega)
    clear c2
    replace H := Option.bind_eq_some_iff.mp H
    obtain ⟨⟨t182, t183⟩, A30, H⟩ := H
    replace H : ((impl_ReadBags.f k a0).bind fun bt186 => ((laws_eqInt64SS.f k bt186.1 t182).bind fun t190 => (if t190 = true then (laws_FnExactReadBags.j0 k a0 t182 t183 bt186.1 (bt186.2 != t183)) else (laws_FnExactReadBags.j0 k a0 t182 t183 bt186.1 true)))) = some r := H
    have A3 := Aside0.mk A30
    clear A30
    replace H := Option.bind_eq_some_iff.mp H
    obtain ⟨⟨t186, t187⟩, A40, H⟩ := H
    replace H : ((laws_eqInt64SS.f k t186 t182).bind fun t190 => (if t190 = true then (laws_FnExactReadBags.j0 k a0 t182 t183 t186 (t187 != t183)) else (laws_FnExactReadBags.j0 k a0 t182 t183 t186 true))) = some r := H
    have A4 := Aside0.mk A40
    clear A40
    have HC5 := Aside0.mk H
    clear H
    go_enter Tryd.func3, Tryd.ntmps3
    go_upto_region 5 with (first | ((with_reducible refine gate_callee (f := 4) rfl ?_); refine goesL_ (some 16) rfl rfl Tryd.func4 (by kernel_rfl) rfl #[.string a0] rfl (by (try simp only [List.map_toArray, List.map_cons, List.map_nil]); first | done | rfl | (simp only [List.length_drop, List.length_take]; rfl)) ?_; (with_reducible refine (spec_ReadBags.calls k a0 t182 t183 _ A3.out).mono ?_); rintro e w6 ⟨v184, rfl, ho0, hb⟩; refine ⟨_, rfl, ?_⟩; have n0_ := Aside0.mk (Kd.S_lower ho0 (below_size (by repeat (first | (with_reducible first | exact HB.out | apply below_alloc | apply pw_below_drewN | apply below_drew1) | exact HB.out)))); have n1_ := Aside0.mk (below_step (by repeat (first | (with_reducible first | exact HB.out | apply below_alloc | apply pw_below_drewN | apply below_drew1) | exact HB.out)) hb); clear HB; have HO185 := n0_; have HB := n1_; clear n0_ n1_; (try clear hb); (try clear hb2); (try clear hk); (try clear hi); (try clear ho0)) | ((with_reducible refine gate_callee (f := 5) rfl ?_); refine goesL_ (some 21) rfl rfl Tryd.func5 (by kernel_rfl) rfl #[.string a0] rfl (by (try simp only [List.map_toArray, List.map_cons, List.map_nil]); first | done | rfl | (simp only [List.length_drop, List.length_take]; rfl)) ?_; (with_reducible refine (impl_ReadBags.calls k a0 t186 t187 _ ?sideT A4.out).mono ?_); (case sideT => exact TabX.below HTAB.out (by repeat (first | (with_reducible first | exact HB.out | apply below_alloc | apply pw_below_drewN | apply below_drew1) | exact HB.out))); rintro e w7 ⟨v188, rfl, ho0, hb⟩; refine ⟨_, rfl, ?_⟩; obtain ⟨N2, hN2⟩ := laws_FnExactReadBags.age hb; replace ho0 := Kd.S_mono (Kd.S_bound ho0) (ok' := fun k_ => N2 ≤ k_) (fun k_ hk => by have h_ := hk.2.1; omega); have n0_ := Aside0.mk (Kd.S_elder' (laws_FnExactReadBags.young (by (with_reducible repeat (first | apply Kd.S_alloc | apply Kd.S_drewN | apply Kd.S_drew)); exact HO185.out) hN2) (Kd.S_base ho0) hb); have n1_ := Aside0.mk (Kd.S_lower (Kd.S_new' ho0 (Kd.S_lt (by (with_reducible repeat (first | apply Kd.S_alloc | apply Kd.S_drewN | apply Kd.S_drew)); exact HO185.out))) (below_size (by repeat (first | (with_reducible first | exact HB.out | apply below_alloc | apply pw_below_drewN | apply below_drew1) | exact HB.out)))); have n2_ := Aside0.mk (below_step (by repeat (first | (with_reducible first | exact HB.out | apply below_alloc | apply pw_below_drewN | apply below_drew1) | exact HB.out)) hb); clear HO185; clear HB; have HO185 := n0_; have HO189 := n1_; have HB := n2_; clear n0_ n1_ n2_; (try clear hb); (try clear hb2); (try clear hk); (try clear hi); (try clear ho0)))
    (try simp only [Act.put, List.setIfInBounds_toArray, List.set_cons_zero, List.set_cons_succ])
    go_cut [32] (fun v32 wc => ∃ (kq : Nat) (x32_4 : Bool), v32 = .bool x32_4 ∧ Aside0 (laws_FnExactReadBags.j0 kq a0 t182 t183 t186 x32_4 = some r) ∧ Aside0 (kq ≤ k) ∧ Aside0 (Kd.S (Kd.slice 2 (Kd.int .i64)) 30 wc w.heap.size (fun k_ => (some k_ ≠ (v188 : Value).ownBlock) ∧ (k_ < N2)) v184 t182) ∧ Aside0 (Kd.S (Kd.slice 2 (Kd.int .i64)) 30 wc w.heap.size (fun k_ => (some k_ ≠ (v184 : Value).ownBlock) ∧ (N2 ≤ k_)) v188 t186) ∧ Aside0 (Below w.heap.size w wc))
    case first =>
      have H := HC5.out
      clear HC5
      replace H := Option.bind_eq_some_iff.mp H
      obtain ⟨t190, A80, H⟩ := H
      replace H : (if t190 = true then (laws_FnExactReadBags.j0 k a0 t182 t183 t186 (t187 != t183)) else (laws_FnExactReadBags.j0 k a0 t182 t183 t186 true)) = some r := H
      have A8 := Aside0.mk A80
      clear A80
      by_cases c9 : t190 = true
      · subst c9
        have H1 : (laws_FnExactReadBags.j0 k a0 t182 t183 t186 (t187 != t183)) = some r := by rw [if_pos rfl] at H; exact H
        clear H
        have H := H1
        clear H1
        have H' := Aside0.mk H
        clear H
        obtain ⟨Ao10, co10, eo10⟩ := Kd.S_slice HO189.out
        subst eo10
        obtain ⟨Ao11, co11, eo11⟩ := Kd.S_slice HO185.out
        subst eo11
        go_wp2_with (first | ((with_reducible refine gate_callee (f := 6) rfl ?_); refine goesL_ (some 26) rfl rfl Tryd.func6 (by kernel_rfl) rfl #[.slice Ao10 t186.length co10, .slice Ao11 t182.length co11] rfl (by (try simp only [List.map_toArray, List.map_cons, List.map_nil]); first | done | rfl | (simp only [List.length_drop, List.length_take]; rfl)) ?_; (with_reducible refine (laws_eqInt64SS.calls k _ _ t186 _ _ t182 true _ ?side1 ?side2 ?side3 ?side4 A8.out).mono ?_); (case side1 => repeat (first | exact (Kd.S_reads' HO189.out).2.2 | (with_reducible refine Kd.C_alloc ?_ _) | (with_reducible refine Kd.C_drewN ?_ _) | (with_reducible refine Kd.C_drew ?_))); (case side2 => exact (Kd.S_reads' HO189.out).2.1); (case side3 => repeat (first | exact (Kd.S_reads' HO185.out).2.2 | (with_reducible refine Kd.C_alloc ?_ _) | (with_reducible refine Kd.C_drewN ?_ _) | (with_reducible refine Kd.C_drew ?_))); (case side4 => exact (Kd.S_reads' HO185.out).2.1); rintro e w' ⟨rfl, ⟨nd, rfl⟩⟩; refine ⟨_, rfl, ?_⟩))
        go_meet
        case rel => exact ⟨_, ((t187 != t183)), (by first | rfl | (simp; done) | (simp [*]; done)), H', ⟨by first | omega | exact Nat.le_refl _⟩, ⟨by (with_reducible repeat (first | apply Kd.S_alloc | apply Kd.S_drewN | apply Kd.S_drew)); exact Kd.S_mono HO185.out (fun k_ hk => by ((repeat' apply And.intro) <;> (first | trivial | exact (hk) | exact (hk).1 | exact (hk).2 | exact (hk).1.1 | exact (hk).1.2 | exact (hk).2.1 | exact (hk).2.2 | exact (hk).1.1.1 | exact (hk).1.1.2 | exact (hk).1.2.1 | exact (hk).1.2.2 | exact (hk).2.1.1 | exact (hk).2.1.2 | exact (hk).2.2.1 | exact (hk).2.2.2 | exact (hk).1.1.1.1 | exact (hk).1.1.1.2 | exact (hk).1.1.2.1 | exact (hk).1.1.2.2 | exact (hk).1.2.1.1 | exact (hk).1.2.1.2 | exact (hk).1.2.2.1 | exact (hk).1.2.2.2 | exact (hk).2.1.1.1 | exact (hk).2.1.1.2 | exact (hk).2.1.2.1 | exact (hk).2.1.2.2 | exact (hk).2.2.1.1 | exact (hk).2.2.1.2 | exact (hk).2.2.2.1 | exact (hk).2.2.2.2 | exact (hk).1.1.1.1.1 | exact (hk).1.1.1.1.2 | exact (hk).1.1.1.2.1 | exact (hk).1.1.1.2.2 | exact (hk).1.1.2.1.1 | exact (hk).1.1.2.1.2 | exact (hk).1.1.2.2.1 | exact (hk).1.1.2.2.2 | exact (hk).1.2.1.1.1 | exact (hk).1.2.1.1.2 | exact (hk).1.2.1.2.1 | exact (hk).1.2.1.2.2 | exact (hk).1.2.2.1.1 | exact (hk).1.2.2.1.2 | exact (hk).1.2.2.2.1 | exact (hk).1.2.2.2.2 | exact (hk).2.1.1.1.1 | exact (hk).2.1.1.1.2 | exact (hk).2.1.1.2.1 | exact (hk).2.1.1.2.2 | exact (hk).2.1.2.1.1 | exact (hk).2.1.2.1.2 | exact (hk).2.1.2.2.1 | exact (hk).2.1.2.2.2 | exact (hk).2.2.1.1.1 | exact (hk).2.2.1.1.2 | exact (hk).2.2.1.2.1 | exact (hk).2.2.1.2.2 | exact (hk).2.2.2.1.1 | exact (hk).2.2.2.1.2 | exact (hk).2.2.2.2.1 | exact (hk).2.2.2.2.2 | exact (hk).1.1.1.1.1.1 | exact (hk).1.1.1.1.1.2 | exact (hk).1.1.1.1.2.1 | exact (hk).1.1.1.1.2.2 | exact (hk).1.1.1.2.1.1 | exact (hk).1.1.1.2.1.2 | exact (hk).1.1.1.2.2.1 | exact (hk).1.1.1.2.2.2 | exact (hk).1.1.1.1.1.1.1 | exact (hk).1.1.1.1.1.1.2 | exact (hk).1.1.1.1.1.2.1 | exact (hk).1.1.1.1.1.2.2 | exact (hk).1.1.1.1.2.1.1 | exact (hk).1.1.1.1.2.1.2 | exact (hk).1.1.1.1.2.2.1 | exact (hk).1.1.1.1.2.2.2 | exact (hk).1.1.1.1.1.1.1.1 | exact (hk).1.1.1.1.1.1.1.2 | exact (hk).1.1.1.1.1.1.2.1 | exact (hk).1.1.1.1.1.1.2.2 | exact (hk).1.1.1.1.1.2.1.1 | exact (hk).1.1.1.1.1.2.1.2 | exact (hk).1.1.1.1.1.2.2.1 | exact (hk).1.1.1.1.1.2.2.2 | exact (hk).1.1.1.1.1.1.1.1.1 | exact (hk).1.1.1.1.1.1.1.1.2 | exact (hk).1.1.1.1.1.1.1.2.1 | exact (hk).1.1.1.1.1.1.1.2.2 | exact (hk).1.1.1.1.1.1.2.1.1 | exact (hk).1.1.1.1.1.1.2.1.2 | exact (hk).1.1.1.1.1.1.2.2.1 | exact (hk).1.1.1.1.1.1.2.2.2 | exact (hk).1.1.1.1.1.1.1.1.1.1 | exact (hk).1.1.1.1.1.1.1.1.1.2 | exact (hk).1.1.1.1.1.1.1.1.2.1 | exact (hk).1.1.1.1.1.1.1.1.2.2 | exact (hk).1.1.1.1.1.1.1.2.1.1 | exact (hk).1.1.1.1.1.1.1.2.1.2 | exact (hk).1.1.1.1.1.1.1.2.2.1 | exact (hk).1.1.1.1.1.1.1.2.2.2 | exact (hk).1.1.1.1.1.1.1.1.1.1.1 | exact (hk).1.1.1.1.1.1.1.1.1.1.2 | exact (hk).1.1.1.1.1.1.1.1.1.2.1 | exact (hk).1.1.1.1.1.1.1.1.1.2.2 | exact (hk).1.1.1.1.1.1.1.1.2.1.1 | exact (hk).1.1.1.1.1.1.1.1.2.1.2 | exact (hk).1.1.1.1.1.1.1.1.2.2.1 | exact (hk).1.1.1.1.1.1.1.1.2.2.2)))⟩, ⟨by (with_reducible repeat (first | apply Kd.S_alloc | apply Kd.S_drewN | apply Kd.S_drew)); exact Kd.S_mono HO189.out (fun k_ hk => by ((repeat' apply And.intro) <;> (first | trivial | exact (hk) | exact (hk).1 | exact (hk).2 | exact (hk).1.1 | exact (hk).1.2 | exact (hk).2.1 | exact (hk).2.2 | exact (hk).1.1.1 | exact (hk).1.1.2 | exact (hk).1.2.1 | exact (hk).1.2.2 | exact (hk).2.1.1 | exact (hk).2.1.2 | exact (hk).2.2.1 | exact (hk).2.2.2 | exact (hk).1.1.1.1 | exact (hk).1.1.1.2 | exact (hk).1.1.2.1 | exact (hk).1.1.2.2 | exact (hk).1.2.1.1 | exact (hk).1.2.1.2 | exact (hk).1.2.2.1 | exact (hk).1.2.2.2 | exact (hk).2.1.1.1 | exact (hk).2.1.1.2 | exact (hk).2.1.2.1 | exact (hk).2.1.2.2 | exact (hk).2.2.1.1 | exact (hk).2.2.1.2 | exact (hk).2.2.2.1 | exact (hk).2.2.2.2 | exact (hk).1.1.1.1.1 | exact (hk).1.1.1.1.2 | exact (hk).1.1.1.2.1 | exact (hk).1.1.1.2.2 | exact (hk).1.1.2.1.1 | exact (hk).1.1.2.1.2 | exact (hk).1.1.2.2.1 | exact (hk).1.1.2.2.2 | exact (hk).1.2.1.1.1 | exact (hk).1.2.1.1.2 | exact (hk).1.2.1.2.1 | exact (hk).1.2.1.2.2 | exact (hk).1.2.2.1.1 | exact (hk).1.2.2.1.2 | exact (hk).1.2.2.2.1 | exact (hk).1.2.2.2.2 | exact (hk).2.1.1.1.1 | exact (hk).2.1.1.1.2 | exact (hk).2.1.1.2.1 | exact (hk).2.1.1.2.2 | exact (hk).2.1.2.1.1 | exact (hk).2.1.2.1.2 | exact (hk).2.1.2.2.1 | exact (hk).2.1.2.2.2 | exact (hk).2.2.1.1.1 | exact (hk).2.2.1.1.2 | exact (hk).2.2.1.2.1 | exact (hk).2.2.1.2.2 | exact (hk).2.2.2.1.1 | exact (hk).2.2.2.1.2 | exact (hk).2.2.2.2.1 | exact (hk).2.2.2.2.2 | exact (hk).1.1.1.1.1.1 | exact (hk).1.1.1.1.1.2 | exact (hk).1.1.1.1.2.1 | exact (hk).1.1.1.1.2.2 | exact (hk).1.1.1.2.1.1 | exact (hk).1.1.1.2.1.2 | exact (hk).1.1.1.2.2.1 | exact (hk).1.1.1.2.2.2 | exact (hk).1.1.1.1.1.1.1 | exact (hk).1.1.1.1.1.1.2 | exact (hk).1.1.1.1.1.2.1 | exact (hk).1.1.1.1.1.2.2 | exact (hk).1.1.1.1.2.1.1 | exact (hk).1.1.1.1.2.1.2 | exact (hk).1.1.1.1.2.2.1 | exact (hk).1.1.1.1.2.2.2 | exact (hk).1.1.1.1.1.1.1.1 | exact (hk).1.1.1.1.1.1.1.2 | exact (hk).1.1.1.1.1.1.2.1 | exact (hk).1.1.1.1.1.1.2.2 | exact (hk).1.1.1.1.1.2.1.1 | exact (hk).1.1.1.1.1.2.1.2 | exact (hk).1.1.1.1.1.2.2.1 | exact (hk).1.1.1.1.1.2.2.2 | exact (hk).1.1.1.1.1.1.1.1.1 | exact (hk).1.1.1.1.1.1.1.1.2 | exact (hk).1.1.1.1.1.1.1.2.1 | exact (hk).1.1.1.1.1.1.1.2.2 | exact (hk).1.1.1.1.1.1.2.1.1 | exact (hk).1.1.1.1.1.1.2.1.2 | exact (hk).1.1.1.1.1.1.2.2.1 | exact (hk).1.1.1.1.1.1.2.2.2 | exact (hk).1.1.1.1.1.1.1.1.1.1 | exact (hk).1.1.1.1.1.1.1.1.1.2 | exact (hk).1.1.1.1.1.1.1.1.2.1 | exact (hk).1.1.1.1.1.1.1.1.2.2 | exact (hk).1.1.1.1.1.1.1.2.1.1 | exact (hk).1.1.1.1.1.1.1.2.1.2 | exact (hk).1.1.1.1.1.1.1.2.2.1 | exact (hk).1.1.1.1.1.1.1.2.2.2 | exact (hk).1.1.1.1.1.1.1.1.1.1.1 | exact (hk).1.1.1.1.1.1.1.1.1.1.2 | exact (hk).1.1.1.1.1.1.1.1.1.2.1 | exact (hk).1.1.1.1.1.1.1.1.1.2.2 | exact (hk).1.1.1.1.1.1.1.1.2.1.1 | exact (hk).1.1.1.1.1.1.1.1.2.1.2 | exact (hk).1.1.1.1.1.1.1.1.2.2.1 | exact (hk).1.1.1.1.1.1.1.1.2.2.2)))⟩, ⟨by repeat (first | (with_reducible first | exact HB.out | apply below_alloc | apply pw_below_drewN | apply below_drew1) | exact HB.out)⟩⟩
      · replace c9 := Bool.eq_false_iff.mpr c9
        subst c9
        have H1 : (laws_FnExactReadBags.j0 k a0 t182 t183 t186 true) = some r := by rw [if_neg (show ¬ (false = true) by decide)] at H; exact H
        clear H
        have H := H1
        clear H1
        have H' := Aside0.mk H
        clear H
        obtain ⟨Ao12, co12, eo12⟩ := Kd.S_slice HO189.out
        subst eo12
        obtain ⟨Ao13, co13, eo13⟩ := Kd.S_slice HO185.out
        subst eo13
        go_wp2_with (first | ((with_reducible refine gate_callee (f := 6) rfl ?_); refine goesL_ (some 26) rfl rfl Tryd.func6 (by kernel_rfl) rfl #[.slice Ao12 t186.length co12, .slice Ao13 t182.length co13] rfl (by (try simp only [List.map_toArray, List.map_cons, List.map_nil]); first | done | rfl | (simp only [List.length_drop, List.length_take]; rfl)) ?_; (with_reducible refine (laws_eqInt64SS.calls k _ _ t186 _ _ t182 false _ ?side1 ?side2 ?side3 ?side4 A8.out).mono ?_); (case side1 => repeat (first | exact (Kd.S_reads' HO189.out).2.2 | (with_reducible refine Kd.C_alloc ?_ _) | (with_reducible refine Kd.C_drewN ?_ _) | (with_reducible refine Kd.C_drew ?_))); (case side2 => exact (Kd.S_reads' HO189.out).2.1); (case side3 => repeat (first | exact (Kd.S_reads' HO185.out).2.2 | (with_reducible refine Kd.C_alloc ?_ _) | (with_reducible refine Kd.C_drewN ?_ _) | (with_reducible refine Kd.C_drew ?_))); (case side4 => exact (Kd.S_reads' HO185.out).2.1); rintro e w' ⟨rfl, ⟨nd, rfl⟩⟩; refine ⟨_, rfl, ?_⟩))
        go_meet
        case rel => exact ⟨_, (true), (by first | rfl | (simp; done) | (simp [*]; done)), H', ⟨by first | omega | exact Nat.le_refl _⟩, ⟨by (with_reducible repeat (first | apply Kd.S_alloc | apply Kd.S_drewN | apply Kd.S_drew)); exact Kd.S_mono HO185.out (fun k_ hk => by ((repeat' apply And.intro) <;> (first | trivial | exact (hk) | exact (hk).1 | exact (hk).2 | exact (hk).1.1 | exact (hk).1.2 | exact (hk).2.1 | exact (hk).2.2 | exact (hk).1.1.1 | exact (hk).1.1.2 | exact (hk).1.2.1 | exact (hk).1.2.2 | exact (hk).2.1.1 | exact (hk).2.1.2 | exact (hk).2.2.1 | exact (hk).2.2.2 | exact (hk).1.1.1.1 | exact (hk).1.1.1.2 | exact (hk).1.1.2.1 | exact (hk).1.1.2.2 | exact (hk).1.2.1.1 | exact (hk).1.2.1.2 | exact (hk).1.2.2.1 | exact (hk).1.2.2.2 | exact (hk).2.1.1.1 | exact (hk).2.1.1.2 | exact (hk).2.1.2.1 | exact (hk).2.1.2.2 | exact (hk).2.2.1.1 | exact (hk).2.2.1.2 | exact (hk).2.2.2.1 | exact (hk).2.2.2.2 | exact (hk).1.1.1.1.1 | exact (hk).1.1.1.1.2 | exact (hk).1.1.1.2.1 | exact (hk).1.1.1.2.2 | exact (hk).1.1.2.1.1 | exact (hk).1.1.2.1.2 | exact (hk).1.1.2.2.1 | exact (hk).1.1.2.2.2 | exact (hk).1.2.1.1.1 | exact (hk).1.2.1.1.2 | exact (hk).1.2.1.2.1 | exact (hk).1.2.1.2.2 | exact (hk).1.2.2.1.1 | exact (hk).1.2.2.1.2 | exact (hk).1.2.2.2.1 | exact (hk).1.2.2.2.2 | exact (hk).2.1.1.1.1 | exact (hk).2.1.1.1.2 | exact (hk).2.1.1.2.1 | exact (hk).2.1.1.2.2 | exact (hk).2.1.2.1.1 | exact (hk).2.1.2.1.2 | exact (hk).2.1.2.2.1 | exact (hk).2.1.2.2.2 | exact (hk).2.2.1.1.1 | exact (hk).2.2.1.1.2 | exact (hk).2.2.1.2.1 | exact (hk).2.2.1.2.2 | exact (hk).2.2.2.1.1 | exact (hk).2.2.2.1.2 | exact (hk).2.2.2.2.1 | exact (hk).2.2.2.2.2 | exact (hk).1.1.1.1.1.1 | exact (hk).1.1.1.1.1.2 | exact (hk).1.1.1.1.2.1 | exact (hk).1.1.1.1.2.2 | exact (hk).1.1.1.2.1.1 | exact (hk).1.1.1.2.1.2 | exact (hk).1.1.1.2.2.1 | exact (hk).1.1.1.2.2.2 | exact (hk).1.1.1.1.1.1.1 | exact (hk).1.1.1.1.1.1.2 | exact (hk).1.1.1.1.1.2.1 | exact (hk).1.1.1.1.1.2.2 | exact (hk).1.1.1.1.2.1.1 | exact (hk).1.1.1.1.2.1.2 | exact (hk).1.1.1.1.2.2.1 | exact (hk).1.1.1.1.2.2.2 | exact (hk).1.1.1.1.1.1.1.1 | exact (hk).1.1.1.1.1.1.1.2 | exact (hk).1.1.1.1.1.1.2.1 | exact (hk).1.1.1.1.1.1.2.2 | exact (hk).1.1.1.1.1.2.1.1 | exact (hk).1.1.1.1.1.2.1.2 | exact (hk).1.1.1.1.1.2.2.1 | exact (hk).1.1.1.1.1.2.2.2 | exact (hk).1.1.1.1.1.1.1.1.1 | exact (hk).1.1.1.1.1.1.1.1.2 | exact (hk).1.1.1.1.1.1.1.2.1 | exact (hk).1.1.1.1.1.1.1.2.2 | exact (hk).1.1.1.1.1.1.2.1.1 | exact (hk).1.1.1.1.1.1.2.1.2 | exact (hk).1.1.1.1.1.1.2.2.1 | exact (hk).1.1.1.1.1.1.2.2.2 | exact (hk).1.1.1.1.1.1.1.1.1.1 | exact (hk).1.1.1.1.1.1.1.1.1.2 | exact (hk).1.1.1.1.1.1.1.1.2.1 | exact (hk).1.1.1.1.1.1.1.1.2.2 | exact (hk).1.1.1.1.1.1.1.2.1.1 | exact (hk).1.1.1.1.1.1.1.2.1.2 | exact (hk).1.1.1.1.1.1.1.2.2.1 | exact (hk).1.1.1.1.1.1.1.2.2.2 | exact (hk).1.1.1.1.1.1.1.1.1.1.1 | exact (hk).1.1.1.1.1.1.1.1.1.1.2 | exact (hk).1.1.1.1.1.1.1.1.1.2.1 | exact (hk).1.1.1.1.1.1.1.1.1.2.2 | exact (hk).1.1.1.1.1.1.1.1.2.1.1 | exact (hk).1.1.1.1.1.1.1.1.2.1.2 | exact (hk).1.1.1.1.1.1.1.1.2.2.1 | exact (hk).1.1.1.1.1.1.1.1.2.2.2)))⟩, ⟨by (with_reducible repeat (first | apply Kd.S_alloc | apply Kd.S_drewN | apply Kd.S_drew)); exact Kd.S_mono HO189.out (fun k_ hk => by ((repeat' apply And.intro) <;> (first | trivial | exact (hk) | exact (hk).1 | exact (hk).2 | exact (hk).1.1 | exact (hk).1.2 | exact (hk).2.1 | exact (hk).2.2 | exact (hk).1.1.1 | exact (hk).1.1.2 | exact (hk).1.2.1 | exact (hk).1.2.2 | exact (hk).2.1.1 | exact (hk).2.1.2 | exact (hk).2.2.1 | exact (hk).2.2.2 | exact (hk).1.1.1.1 | exact (hk).1.1.1.2 | exact (hk).1.1.2.1 | exact (hk).1.1.2.2 | exact (hk).1.2.1.1 | exact (hk).1.2.1.2 | exact (hk).1.2.2.1 | exact (hk).1.2.2.2 | exact (hk).2.1.1.1 | exact (hk).2.1.1.2 | exact (hk).2.1.2.1 | exact (hk).2.1.2.2 | exact (hk).2.2.1.1 | exact (hk).2.2.1.2 | exact (hk).2.2.2.1 | exact (hk).2.2.2.2 | exact (hk).1.1.1.1.1 | exact (hk).1.1.1.1.2 | exact (hk).1.1.1.2.1 | exact (hk).1.1.1.2.2 | exact (hk).1.1.2.1.1 | exact (hk).1.1.2.1.2 | exact (hk).1.1.2.2.1 | exact (hk).1.1.2.2.2 | exact (hk).1.2.1.1.1 | exact (hk).1.2.1.1.2 | exact (hk).1.2.1.2.1 | exact (hk).1.2.1.2.2 | exact (hk).1.2.2.1.1 | exact (hk).1.2.2.1.2 | exact (hk).1.2.2.2.1 | exact (hk).1.2.2.2.2 | exact (hk).2.1.1.1.1 | exact (hk).2.1.1.1.2 | exact (hk).2.1.1.2.1 | exact (hk).2.1.1.2.2 | exact (hk).2.1.2.1.1 | exact (hk).2.1.2.1.2 | exact (hk).2.1.2.2.1 | exact (hk).2.1.2.2.2 | exact (hk).2.2.1.1.1 | exact (hk).2.2.1.1.2 | exact (hk).2.2.1.2.1 | exact (hk).2.2.1.2.2 | exact (hk).2.2.2.1.1 | exact (hk).2.2.2.1.2 | exact (hk).2.2.2.2.1 | exact (hk).2.2.2.2.2 | exact (hk).1.1.1.1.1.1 | exact (hk).1.1.1.1.1.2 | exact (hk).1.1.1.1.2.1 | exact (hk).1.1.1.1.2.2 | exact (hk).1.1.1.2.1.1 | exact (hk).1.1.1.2.1.2 | exact (hk).1.1.1.2.2.1 | exact (hk).1.1.1.2.2.2 | exact (hk).1.1.1.1.1.1.1 | exact (hk).1.1.1.1.1.1.2 | exact (hk).1.1.1.1.1.2.1 | exact (hk).1.1.1.1.1.2.2 | exact (hk).1.1.1.1.2.1.1 | exact (hk).1.1.1.1.2.1.2 | exact (hk).1.1.1.1.2.2.1 | exact (hk).1.1.1.1.2.2.2 | exact (hk).1.1.1.1.1.1.1.1 | exact (hk).1.1.1.1.1.1.1.2 | exact (hk).1.1.1.1.1.1.2.1 | exact (hk).1.1.1.1.1.1.2.2 | exact (hk).1.1.1.1.1.2.1.1 | exact (hk).1.1.1.1.1.2.1.2 | exact (hk).1.1.1.1.1.2.2.1 | exact (hk).1.1.1.1.1.2.2.2 | exact (hk).1.1.1.1.1.1.1.1.1 | exact (hk).1.1.1.1.1.1.1.1.2 | exact (hk).1.1.1.1.1.1.1.2.1 | exact (hk).1.1.1.1.1.1.1.2.2 | exact (hk).1.1.1.1.1.1.2.1.1 | exact (hk).1.1.1.1.1.1.2.1.2 | exact (hk).1.1.1.1.1.1.2.2.1 | exact (hk).1.1.1.1.1.1.2.2.2 | exact (hk).1.1.1.1.1.1.1.1.1.1 | exact (hk).1.1.1.1.1.1.1.1.1.2 | exact (hk).1.1.1.1.1.1.1.1.2.1 | exact (hk).1.1.1.1.1.1.1.1.2.2 | exact (hk).1.1.1.1.1.1.1.2.1.1 | exact (hk).1.1.1.1.1.1.1.2.1.2 | exact (hk).1.1.1.1.1.1.1.2.2.1 | exact (hk).1.1.1.1.1.1.1.2.2.2 | exact (hk).1.1.1.1.1.1.1.1.1.1.1 | exact (hk).1.1.1.1.1.1.1.1.1.1.2 | exact (hk).1.1.1.1.1.1.1.1.1.2.1 | exact (hk).1.1.1.1.1.1.1.1.1.2.2 | exact (hk).1.1.1.1.1.1.1.1.2.1.1 | exact (hk).1.1.1.1.1.1.1.1.2.1.2 | exact (hk).1.1.1.1.1.1.1.1.2.2.1 | exact (hk).1.1.1.1.1.1.1.1.2.2.2)))⟩, ⟨by repeat (first | (with_reducible first | exact HB.out | apply below_alloc | apply pw_below_drewN | apply below_drew1) | exact HB.out)⟩⟩
    case rest =>
      clear HC5
      try clear c2
      try clear c2b0
      try clear c2b1
      try clear p2
      try clear c3
      try clear c4
      try clear c5
      try clear c6
      try clear c9
      obtain ⟨kq, x32_4, rfl, HA, HJ4, HO_3, HO_5, HB⟩ := hcut
      cases kq with
      | zero => exact absurd HA.out (by simp [laws_FnExactReadBags.j0])
      | succ kj4 =>
        have H := HA.out
        clear HA
        simp only [laws_FnExactReadBags.j0] at H
        by_cases c14 : x32_4 = true
        · subst c14
          have H1 : (some false) = some r := by rw [if_pos rfl] at H; exact H
          clear H
          have H := H1
          clear H1
          obtain rfl := Option.some.inj H
          go_wp2
          go_ret
          exact ⟨by first | rfl | (simp [errW_none, errW_some] <;> rfl) | (simp [*, errW_none, errW_some] <;> rfl), by repeat (first | (with_reducible first | exact HB.out | apply below_alloc | apply pw_below_drewN | apply below_drew1) | exact HB.out)⟩
        · replace c14 := Bool.eq_false_iff.mpr c14
          subst c14
          have H1 : ((laws_markInt64SS.f kj4 t186 1).bind fun bt191 => ((laws_heldInt64SS.f kj4 bt191.2 1).bind fun t193 => (if t193 < 0 then (some false) else (if t193 = bt191.1 then ((impl_ReadBags.f kj4 a0).bind fun bt194 => ((laws_eqInt64SS.f kj4 bt194.1 t182).bind fun t198 => (if t198 = true then (laws_FnExactReadBags.j1 kj4 bt191.2 bt191.1 (bt194.2 != t183)) else (laws_FnExactReadBags.j1 kj4 bt191.2 bt191.1 true)))) else (some false))))) = some r := by rw [if_neg (show ¬ (false = true) by decide)] at H; exact H
          clear H
          have H := H1
          clear H1
          replace H := Option.bind_eq_some_iff.mp H
          obtain ⟨⟨t191, t192⟩, A150, H⟩ := H
          replace H : ((laws_heldInt64SS.f kj4 t192 1).bind fun t193 => (if t193 < 0 then (some false) else (if t193 = t191 then ((impl_ReadBags.f kj4 a0).bind fun bt194 => ((laws_eqInt64SS.f kj4 bt194.1 t182).bind fun t198 => (if t198 = true then (laws_FnExactReadBags.j1 kj4 t192 t191 (bt194.2 != t183)) else (laws_FnExactReadBags.j1 kj4 t192 t191 true)))) else (some false)))) = some r := H
          have A15 := Aside0.mk A150
          clear A150
          replace H := Option.bind_eq_some_iff.mp H
          obtain ⟨t193, A160, H⟩ := H
          replace H : (if t193 < 0 then (some false) else (if t193 = t191 then ((impl_ReadBags.f kj4 a0).bind fun bt194 => ((laws_eqInt64SS.f kj4 bt194.1 t182).bind fun t198 => (if t198 = true then (laws_FnExactReadBags.j1 kj4 t192 t191 (bt194.2 != t183)) else (laws_FnExactReadBags.j1 kj4 t192 t191 true)))) else (some false))) = some r := H
          have A16 := Aside0.mk A160
          clear A160
          by_cases c17 : t193 < 0
          · rw [if_pos c17] at H
            have c17b0 : decide (t193 < 0) = true := decide_eq_true c17
            clear c17
            obtain rfl := Option.some.inj H
            obtain ⟨Ao18, co18, eo18⟩ := Kd.S_slice HO_5.out
            subst eo18
            go_wp2_with (first | ((with_reducible refine gate_callee (f := 7) rfl ?_); refine goesL_ (some 35) rfl rfl Tryd.func7 (by kernel_rfl) rfl #[.slice Ao18 t186.length co18, .int .i64 1] rfl (by (try simp only [List.map_toArray, List.map_cons, List.map_nil]); first | done | rfl | (simp only [List.length_drop, List.length_take]; rfl)) ?_; (with_reducible refine (laws_markInt64SS.calls kj4 (fun k_ => (N2 ≤ k_) ∧ (some k_ ≠ (v184 : Value).ownBlock)) (.slice Ao18 t186.length co18) t186 1 t191 t192 w _ ?side1 ?side2 A15.out).mono ?_); (case side1 => repeat (first | (with_reducible first | exact HB.out | apply below_alloc | apply pw_below_drewN | apply below_drew1) | exact HB.out)); (case side2 => exact Kd.S_mono HO_5.out (fun k_ hk => by ((repeat' apply And.intro) <;> (first | trivial | exact (hk) | exact (hk).1 | exact (hk).2 | exact (hk).1.1 | exact (hk).1.2 | exact (hk).2.1 | exact (hk).2.2 | exact (hk).1.1.1 | exact (hk).1.1.2 | exact (hk).1.2.1 | exact (hk).1.2.2 | exact (hk).2.1.1 | exact (hk).2.1.2 | exact (hk).2.2.1 | exact (hk).2.2.2 | exact (hk).1.1.1.1 | exact (hk).1.1.1.2 | exact (hk).1.1.2.1 | exact (hk).1.1.2.2 | exact (hk).1.2.1.1 | exact (hk).1.2.1.2 | exact (hk).1.2.2.1 | exact (hk).1.2.2.2 | exact (hk).2.1.1.1 | exact (hk).2.1.1.2 | exact (hk).2.1.2.1 | exact (hk).2.1.2.2 | exact (hk).2.2.1.1 | exact (hk).2.2.1.2 | exact (hk).2.2.2.1 | exact (hk).2.2.2.2 | exact (hk).1.1.1.1.1 | exact (hk).1.1.1.1.2 | exact (hk).1.1.1.2.1 | exact (hk).1.1.1.2.2 | exact (hk).1.1.2.1.1 | exact (hk).1.1.2.1.2 | exact (hk).1.1.2.2.1 | exact (hk).1.1.2.2.2 | exact (hk).1.2.1.1.1 | exact (hk).1.2.1.1.2 | exact (hk).1.2.1.2.1 | exact (hk).1.2.1.2.2 | exact (hk).1.2.2.1.1 | exact (hk).1.2.2.1.2 | exact (hk).1.2.2.2.1 | exact (hk).1.2.2.2.2 | exact (hk).2.1.1.1.1 | exact (hk).2.1.1.1.2 | exact (hk).2.1.1.2.1 | exact (hk).2.1.1.2.2 | exact (hk).2.1.2.1.1 | exact (hk).2.1.2.1.2 | exact (hk).2.1.2.2.1 | exact (hk).2.1.2.2.2 | exact (hk).2.2.1.1.1 | exact (hk).2.2.1.1.2 | exact (hk).2.2.1.2.1 | exact (hk).2.2.1.2.2 | exact (hk).2.2.2.1.1 | exact (hk).2.2.2.1.2 | exact (hk).2.2.2.2.1 | exact (hk).2.2.2.2.2 | exact (hk).1.1.1.1.1.1 | exact (hk).1.1.1.1.1.2 | exact (hk).1.1.1.1.2.1 | exact (hk).1.1.1.1.2.2 | exact (hk).1.1.1.2.1.1 | exact (hk).1.1.1.2.1.2 | exact (hk).1.1.1.2.2.1 | exact (hk).1.1.1.2.2.2 | exact (hk).1.1.1.1.1.1.1 | exact (hk).1.1.1.1.1.1.2 | exact (hk).1.1.1.1.1.2.1 | exact (hk).1.1.1.1.1.2.2 | exact (hk).1.1.1.1.2.1.1 | exact (hk).1.1.1.1.2.1.2 | exact (hk).1.1.1.1.2.2.1 | exact (hk).1.1.1.1.2.2.2 | exact (hk).1.1.1.1.1.1.1.1 | exact (hk).1.1.1.1.1.1.1.2 | exact (hk).1.1.1.1.1.1.2.1 | exact (hk).1.1.1.1.1.1.2.2 | exact (hk).1.1.1.1.1.2.1.1 | exact (hk).1.1.1.1.1.2.1.2 | exact (hk).1.1.1.1.1.2.2.1 | exact (hk).1.1.1.1.1.2.2.2 | exact (hk).1.1.1.1.1.1.1.1.1 | exact (hk).1.1.1.1.1.1.1.1.2 | exact (hk).1.1.1.1.1.1.1.2.1 | exact (hk).1.1.1.1.1.1.1.2.2 | exact (hk).1.1.1.1.1.1.2.1.1 | exact (hk).1.1.1.1.1.1.2.1.2 | exact (hk).1.1.1.1.1.1.2.2.1 | exact (hk).1.1.1.1.1.1.2.2.2 | exact (hk).1.1.1.1.1.1.1.1.1.1 | exact (hk).1.1.1.1.1.1.1.1.1.2 | exact (hk).1.1.1.1.1.1.1.1.2.1 | exact (hk).1.1.1.1.1.1.1.1.2.2 | exact (hk).1.1.1.1.1.1.1.2.1.1 | exact (hk).1.1.1.1.1.1.1.2.1.2 | exact (hk).1.1.1.1.1.1.1.2.2.1 | exact (hk).1.1.1.1.1.1.1.2.2.2 | exact (hk).1.1.1.1.1.1.1.1.1.1.1 | exact (hk).1.1.1.1.1.1.1.1.1.1.2 | exact (hk).1.1.1.1.1.1.1.1.1.2.1 | exact (hk).1.1.1.1.1.1.1.1.1.2.2 | exact (hk).1.1.1.1.1.1.1.1.2.1.1 | exact (hk).1.1.1.1.1.1.1.1.2.1.2 | exact (hk).1.1.1.1.1.1.1.1.2.2.1 | exact (hk).1.1.1.1.1.1.1.1.2.2.2)))); rintro e w19 ⟨rfl, hy0, hb, hkp⟩; refine ⟨_, rfl, ?_⟩; have n0_ := Aside0.mk ((Kd.S_kept (by (with_reducible repeat (first | apply Kd.S_alloc | apply Kd.S_drewN | apply Kd.S_drew)); exact HO_3.out) hkp (fun k_ hk hs_ => by have a_ : k_ < N2 := (by ((repeat' apply And.intro) <;> (first | trivial | exact (hk) | exact (hk).1 | exact (hk).2 | exact (hk).1.1 | exact (hk).1.2 | exact (hk).2.1 | exact (hk).2.2 | exact (hk).1.1.1 | exact (hk).1.1.2 | exact (hk).1.2.1 | exact (hk).1.2.2 | exact (hk).2.1.1 | exact (hk).2.1.2 | exact (hk).2.2.1 | exact (hk).2.2.2 | exact (hk).1.1.1.1 | exact (hk).1.1.1.2 | exact (hk).1.1.2.1 | exact (hk).1.1.2.2 | exact (hk).1.2.1.1 | exact (hk).1.2.1.2 | exact (hk).1.2.2.1 | exact (hk).1.2.2.2 | exact (hk).2.1.1.1 | exact (hk).2.1.1.2 | exact (hk).2.1.2.1 | exact (hk).2.1.2.2 | exact (hk).2.2.1.1 | exact (hk).2.2.1.2 | exact (hk).2.2.2.1 | exact (hk).2.2.2.2 | exact (hk).1.1.1.1.1 | exact (hk).1.1.1.1.2 | exact (hk).1.1.1.2.1 | exact (hk).1.1.1.2.2 | exact (hk).1.1.2.1.1 | exact (hk).1.1.2.1.2 | exact (hk).1.1.2.2.1 | exact (hk).1.1.2.2.2 | exact (hk).1.2.1.1.1 | exact (hk).1.2.1.1.2 | exact (hk).1.2.1.2.1 | exact (hk).1.2.1.2.2 | exact (hk).1.2.2.1.1 | exact (hk).1.2.2.1.2 | exact (hk).1.2.2.2.1 | exact (hk).1.2.2.2.2 | exact (hk).2.1.1.1.1 | exact (hk).2.1.1.1.2 | exact (hk).2.1.1.2.1 | exact (hk).2.1.1.2.2 | exact (hk).2.1.2.1.1 | exact (hk).2.1.2.1.2 | exact (hk).2.1.2.2.1 | exact (hk).2.1.2.2.2 | exact (hk).2.2.1.1.1 | exact (hk).2.2.1.1.2 | exact (hk).2.2.1.2.1 | exact (hk).2.2.1.2.2 | exact (hk).2.2.2.1.1 | exact (hk).2.2.2.1.2 | exact (hk).2.2.2.2.1 | exact (hk).2.2.2.2.2 | exact (hk).1.1.1.1.1.1 | exact (hk).1.1.1.1.1.2 | exact (hk).1.1.1.1.2.1 | exact (hk).1.1.1.1.2.2 | exact (hk).1.1.1.2.1.1 | exact (hk).1.1.1.2.1.2 | exact (hk).1.1.1.2.2.1 | exact (hk).1.1.1.2.2.2 | exact (hk).1.1.1.1.1.1.1 | exact (hk).1.1.1.1.1.1.2 | exact (hk).1.1.1.1.1.2.1 | exact (hk).1.1.1.1.1.2.2 | exact (hk).1.1.1.1.2.1.1 | exact (hk).1.1.1.1.2.1.2 | exact (hk).1.1.1.1.2.2.1 | exact (hk).1.1.1.1.2.2.2 | exact (hk).1.1.1.1.1.1.1.1 | exact (hk).1.1.1.1.1.1.1.2 | exact (hk).1.1.1.1.1.1.2.1 | exact (hk).1.1.1.1.1.1.2.2 | exact (hk).1.1.1.1.1.2.1.1 | exact (hk).1.1.1.1.1.2.1.2 | exact (hk).1.1.1.1.1.2.2.1 | exact (hk).1.1.1.1.1.2.2.2 | exact (hk).1.1.1.1.1.1.1.1.1 | exact (hk).1.1.1.1.1.1.1.1.2 | exact (hk).1.1.1.1.1.1.1.2.1 | exact (hk).1.1.1.1.1.1.1.2.2 | exact (hk).1.1.1.1.1.1.2.1.1 | exact (hk).1.1.1.1.1.1.2.1.2 | exact (hk).1.1.1.1.1.1.2.2.1 | exact (hk).1.1.1.1.1.1.2.2.2 | exact (hk).1.1.1.1.1.1.1.1.1.1 | exact (hk).1.1.1.1.1.1.1.1.1.2 | exact (hk).1.1.1.1.1.1.1.1.2.1 | exact (hk).1.1.1.1.1.1.1.1.2.2 | exact (hk).1.1.1.1.1.1.1.2.1.1 | exact (hk).1.1.1.1.1.1.1.2.1.2 | exact (hk).1.1.1.1.1.1.1.2.2.1 | exact (hk).1.1.1.1.1.1.1.2.2.2 | exact (hk).1.1.1.1.1.1.1.1.1.1.1 | exact (hk).1.1.1.1.1.1.1.1.1.1.2 | exact (hk).1.1.1.1.1.1.1.1.1.2.1 | exact (hk).1.1.1.1.1.1.1.1.1.2.2 | exact (hk).1.1.1.1.1.1.1.1.2.1.1 | exact (hk).1.1.1.1.1.1.1.1.2.1.2 | exact (hk).1.1.1.1.1.1.1.1.2.2.1 | exact (hk).1.1.1.1.1.1.1.1.2.2.2))); have b_ : N2 ≤ k_ := hs_.1; omega))); have n1_ := Aside0.mk (Kd.S_mono (ok' := fun k_ => (some k_ ≠ (v184 : Value).ownBlock) ∧ (N2 ≤ k_)) hy0 (fun k_ hk => by ((repeat' apply And.intro) <;> (first | trivial | exact (hk) | exact (hk).1 | exact (hk).2 | exact (hk).1.1 | exact (hk).1.2 | exact (hk).2.1 | exact (hk).2.2 | exact (hk).1.1.1 | exact (hk).1.1.2 | exact (hk).1.2.1 | exact (hk).1.2.2 | exact (hk).2.1.1 | exact (hk).2.1.2 | exact (hk).2.2.1 | exact (hk).2.2.2 | exact (hk).1.1.1.1 | exact (hk).1.1.1.2 | exact (hk).1.1.2.1 | exact (hk).1.1.2.2 | exact (hk).1.2.1.1 | exact (hk).1.2.1.2 | exact (hk).1.2.2.1 | exact (hk).1.2.2.2 | exact (hk).2.1.1.1 | exact (hk).2.1.1.2 | exact (hk).2.1.2.1 | exact (hk).2.1.2.2 | exact (hk).2.2.1.1 | exact (hk).2.2.1.2 | exact (hk).2.2.2.1 | exact (hk).2.2.2.2 | exact (hk).1.1.1.1.1 | exact (hk).1.1.1.1.2 | exact (hk).1.1.1.2.1 | exact (hk).1.1.1.2.2 | exact (hk).1.1.2.1.1 | exact (hk).1.1.2.1.2 | exact (hk).1.1.2.2.1 | exact (hk).1.1.2.2.2 | exact (hk).1.2.1.1.1 | exact (hk).1.2.1.1.2 | exact (hk).1.2.1.2.1 | exact (hk).1.2.1.2.2 | exact (hk).1.2.2.1.1 | exact (hk).1.2.2.1.2 | exact (hk).1.2.2.2.1 | exact (hk).1.2.2.2.2 | exact (hk).2.1.1.1.1 | exact (hk).2.1.1.1.2 | exact (hk).2.1.1.2.1 | exact (hk).2.1.1.2.2 | exact (hk).2.1.2.1.1 | exact (hk).2.1.2.1.2 | exact (hk).2.1.2.2.1 | exact (hk).2.1.2.2.2 | exact (hk).2.2.1.1.1 | exact (hk).2.2.1.1.2 | exact (hk).2.2.1.2.1 | exact (hk).2.2.1.2.2 | exact (hk).2.2.2.1.1 | exact (hk).2.2.2.1.2 | exact (hk).2.2.2.2.1 | exact (hk).2.2.2.2.2 | exact (hk).1.1.1.1.1.1 | exact (hk).1.1.1.1.1.2 | exact (hk).1.1.1.1.2.1 | exact (hk).1.1.1.1.2.2 | exact (hk).1.1.1.2.1.1 | exact (hk).1.1.1.2.1.2 | exact (hk).1.1.1.2.2.1 | exact (hk).1.1.1.2.2.2 | exact (hk).1.1.1.1.1.1.1 | exact (hk).1.1.1.1.1.1.2 | exact (hk).1.1.1.1.1.2.1 | exact (hk).1.1.1.1.1.2.2 | exact (hk).1.1.1.1.2.1.1 | exact (hk).1.1.1.1.2.1.2 | exact (hk).1.1.1.1.2.2.1 | exact (hk).1.1.1.1.2.2.2 | exact (hk).1.1.1.1.1.1.1.1 | exact (hk).1.1.1.1.1.1.1.2 | exact (hk).1.1.1.1.1.1.2.1 | exact (hk).1.1.1.1.1.1.2.2 | exact (hk).1.1.1.1.1.2.1.1 | exact (hk).1.1.1.1.1.2.1.2 | exact (hk).1.1.1.1.1.2.2.1 | exact (hk).1.1.1.1.1.2.2.2 | exact (hk).1.1.1.1.1.1.1.1.1 | exact (hk).1.1.1.1.1.1.1.1.2 | exact (hk).1.1.1.1.1.1.1.2.1 | exact (hk).1.1.1.1.1.1.1.2.2 | exact (hk).1.1.1.1.1.1.2.1.1 | exact (hk).1.1.1.1.1.1.2.1.2 | exact (hk).1.1.1.1.1.1.2.2.1 | exact (hk).1.1.1.1.1.1.2.2.2 | exact (hk).1.1.1.1.1.1.1.1.1.1 | exact (hk).1.1.1.1.1.1.1.1.1.2 | exact (hk).1.1.1.1.1.1.1.1.2.1 | exact (hk).1.1.1.1.1.1.1.1.2.2 | exact (hk).1.1.1.1.1.1.1.2.1.1 | exact (hk).1.1.1.1.1.1.1.2.1.2 | exact (hk).1.1.1.1.1.1.1.2.2.1 | exact (hk).1.1.1.1.1.1.1.2.2.2 | exact (hk).1.1.1.1.1.1.1.1.1.1.1 | exact (hk).1.1.1.1.1.1.1.1.1.1.2 | exact (hk).1.1.1.1.1.1.1.1.1.2.1 | exact (hk).1.1.1.1.1.1.1.1.1.2.2 | exact (hk).1.1.1.1.1.1.1.1.2.1.1 | exact (hk).1.1.1.1.1.1.1.1.2.1.2 | exact (hk).1.1.1.1.1.1.1.1.2.2.1 | exact (hk).1.1.1.1.1.1.1.1.2.2.2)))); have n2_ := Aside0.mk (hb); clear HO_3; clear HO_5; clear HB; have HO_3 := n0_; have HO_5 := n1_; have HB := n2_; clear n0_ n1_ n2_; (try clear hb); (try clear hkp); (try clear hy0)) | ((with_reducible refine gate_callee (f := 8) rfl ?_); refine goesL_ (some 38) rfl rfl Tryd.func8 (by kernel_rfl) rfl #[.slice Ao18 t192.length co18, .int .i64 1] rfl (by (try simp only [List.map_toArray, List.map_cons, List.map_nil]); first | done | (rw [show t192.length = t186.length from (Kd.S_reads' HO_5.out).1.symm] <;> rfl) | rfl | (simp only [List.length_drop, List.length_take]; rfl)) ?_; (with_reducible refine (laws_heldInt64SS.calls kj4 _ _ t192 1 t193 _ ?side1 ?side2 A16.out).mono ?_); (case side1 => repeat (first | exact (Kd.S_reads' HO_5.out).2.2 | (with_reducible refine Kd.C_alloc ?_ _) | (with_reducible refine Kd.C_drewN ?_ _) | (with_reducible refine Kd.C_drew ?_))); (case side2 => rw [show t192.length = t186.length from (Kd.S_reads' HO_5.out).1.symm]; exact (Kd.S_reads' HO_5.out).2.1); rintro e w' ⟨rfl, ⟨nd, rfl⟩⟩; refine ⟨_, rfl, ?_⟩))
            go_ret
            exact ⟨by first | rfl | (simp [errW_none, errW_some] <;> rfl) | (simp [*, errW_none, errW_some] <;> rfl), by repeat (first | (with_reducible first | exact HB.out | apply below_alloc | apply pw_below_drewN | apply below_drew1) | exact HB.out)⟩
          · rw [if_neg c17] at H
            have c17b0 : decide (t193 < 0) = false := decide_eq_false c17
            clear c17
            by_cases c20 : t193 = t191
            · rw [if_pos c20] at H
              have c20b0 : (t193 == t191) = true := beq_iff_eq.mpr c20
              have c20b1 : (t193 != t191) = false := bne_eq_false_iff_eq.mpr c20
              clear c20
              replace H := Option.bind_eq_some_iff.mp H
              obtain ⟨⟨t194, t195⟩, A210, H⟩ := H
              replace H : ((laws_eqInt64SS.f kj4 t194 t182).bind fun t198 => (if t198 = true then (laws_FnExactReadBags.j1 kj4 t192 t191 (t195 != t183)) else (laws_FnExactReadBags.j1 kj4 t192 t191 true))) = some r := H
              have A21 := Aside0.mk A210
              clear A210
              have HC22 := Aside0.mk H
              clear H
              obtain ⟨Ao23, co23, eo23⟩ := Kd.S_slice HO_5.out
              subst eo23
              go_upto_region 16 with (first | ((with_reducible refine gate_callee (f := 7) rfl ?_); refine goesL_ (some 35) rfl rfl Tryd.func7 (by kernel_rfl) rfl #[.slice Ao23 t186.length co23, .int .i64 1] rfl (by (try simp only [List.map_toArray, List.map_cons, List.map_nil]); first | done | rfl | (simp only [List.length_drop, List.length_take]; rfl)) ?_; (with_reducible refine (laws_markInt64SS.calls kj4 (fun k_ => (N2 ≤ k_) ∧ (some k_ ≠ (v184 : Value).ownBlock)) (.slice Ao23 t186.length co23) t186 1 t191 t192 w _ ?side1 ?side2 A15.out).mono ?_); (case side1 => repeat (first | (with_reducible first | exact HB.out | apply below_alloc | apply pw_below_drewN | apply below_drew1) | exact HB.out)); (case side2 => exact Kd.S_mono HO_5.out (fun k_ hk => by ((repeat' apply And.intro) <;> (first | trivial | exact (hk) | exact (hk).1 | exact (hk).2 | exact (hk).1.1 | exact (hk).1.2 | exact (hk).2.1 | exact (hk).2.2 | exact (hk).1.1.1 | exact (hk).1.1.2 | exact (hk).1.2.1 | exact (hk).1.2.2 | exact (hk).2.1.1 | exact (hk).2.1.2 | exact (hk).2.2.1 | exact (hk).2.2.2 | exact (hk).1.1.1.1 | exact (hk).1.1.1.2 | exact (hk).1.1.2.1 | exact (hk).1.1.2.2 | exact (hk).1.2.1.1 | exact (hk).1.2.1.2 | exact (hk).1.2.2.1 | exact (hk).1.2.2.2 | exact (hk).2.1.1.1 | exact (hk).2.1.1.2 | exact (hk).2.1.2.1 | exact (hk).2.1.2.2 | exact (hk).2.2.1.1 | exact (hk).2.2.1.2 | exact (hk).2.2.2.1 | exact (hk).2.2.2.2 | exact (hk).1.1.1.1.1 | exact (hk).1.1.1.1.2 | exact (hk).1.1.1.2.1 | exact (hk).1.1.1.2.2 | exact (hk).1.1.2.1.1 | exact (hk).1.1.2.1.2 | exact (hk).1.1.2.2.1 | exact (hk).1.1.2.2.2 | exact (hk).1.2.1.1.1 | exact (hk).1.2.1.1.2 | exact (hk).1.2.1.2.1 | exact (hk).1.2.1.2.2 | exact (hk).1.2.2.1.1 | exact (hk).1.2.2.1.2 | exact (hk).1.2.2.2.1 | exact (hk).1.2.2.2.2 | exact (hk).2.1.1.1.1 | exact (hk).2.1.1.1.2 | exact (hk).2.1.1.2.1 | exact (hk).2.1.1.2.2 | exact (hk).2.1.2.1.1 | exact (hk).2.1.2.1.2 | exact (hk).2.1.2.2.1 | exact (hk).2.1.2.2.2 | exact (hk).2.2.1.1.1 | exact (hk).2.2.1.1.2 | exact (hk).2.2.1.2.1 | exact (hk).2.2.1.2.2 | exact (hk).2.2.2.1.1 | exact (hk).2.2.2.1.2 | exact (hk).2.2.2.2.1 | exact (hk).2.2.2.2.2 | exact (hk).1.1.1.1.1.1 | exact (hk).1.1.1.1.1.2 | exact (hk).1.1.1.1.2.1 | exact (hk).1.1.1.1.2.2 | exact (hk).1.1.1.2.1.1 | exact (hk).1.1.1.2.1.2 | exact (hk).1.1.1.2.2.1 | exact (hk).1.1.1.2.2.2 | exact (hk).1.1.1.1.1.1.1 | exact (hk).1.1.1.1.1.1.2 | exact (hk).1.1.1.1.1.2.1 | exact (hk).1.1.1.1.1.2.2 | exact (hk).1.1.1.1.2.1.1 | exact (hk).1.1.1.1.2.1.2 | exact (hk).1.1.1.1.2.2.1 | exact (hk).1.1.1.1.2.2.2 | exact (hk).1.1.1.1.1.1.1.1 | exact (hk).1.1.1.1.1.1.1.2 | exact (hk).1.1.1.1.1.1.2.1 | exact (hk).1.1.1.1.1.1.2.2 | exact (hk).1.1.1.1.1.2.1.1 | exact (hk).1.1.1.1.1.2.1.2 | exact (hk).1.1.1.1.1.2.2.1 | exact (hk).1.1.1.1.1.2.2.2 | exact (hk).1.1.1.1.1.1.1.1.1 | exact (hk).1.1.1.1.1.1.1.1.2 | exact (hk).1.1.1.1.1.1.1.2.1 | exact (hk).1.1.1.1.1.1.1.2.2 | exact (hk).1.1.1.1.1.1.2.1.1 | exact (hk).1.1.1.1.1.1.2.1.2 | exact (hk).1.1.1.1.1.1.2.2.1 | exact (hk).1.1.1.1.1.1.2.2.2 | exact (hk).1.1.1.1.1.1.1.1.1.1 | exact (hk).1.1.1.1.1.1.1.1.1.2 | exact (hk).1.1.1.1.1.1.1.1.2.1 | exact (hk).1.1.1.1.1.1.1.1.2.2 | exact (hk).1.1.1.1.1.1.1.2.1.1 | exact (hk).1.1.1.1.1.1.1.2.1.2 | exact (hk).1.1.1.1.1.1.1.2.2.1 | exact (hk).1.1.1.1.1.1.1.2.2.2 | exact (hk).1.1.1.1.1.1.1.1.1.1.1 | exact (hk).1.1.1.1.1.1.1.1.1.1.2 | exact (hk).1.1.1.1.1.1.1.1.1.2.1 | exact (hk).1.1.1.1.1.1.1.1.1.2.2 | exact (hk).1.1.1.1.1.1.1.1.2.1.1 | exact (hk).1.1.1.1.1.1.1.1.2.1.2 | exact (hk).1.1.1.1.1.1.1.1.2.2.1 | exact (hk).1.1.1.1.1.1.1.1.2.2.2)))); rintro e w24 ⟨rfl, hy0, hb, hkp⟩; refine ⟨_, rfl, ?_⟩; have n0_ := Aside0.mk ((Kd.S_kept (by (with_reducible repeat (first | apply Kd.S_alloc | apply Kd.S_drewN | apply Kd.S_drew)); exact HO_3.out) hkp (fun k_ hk hs_ => by have a_ : k_ < N2 := (by ((repeat' apply And.intro) <;> (first | trivial | exact (hk) | exact (hk).1 | exact (hk).2 | exact (hk).1.1 | exact (hk).1.2 | exact (hk).2.1 | exact (hk).2.2 | exact (hk).1.1.1 | exact (hk).1.1.2 | exact (hk).1.2.1 | exact (hk).1.2.2 | exact (hk).2.1.1 | exact (hk).2.1.2 | exact (hk).2.2.1 | exact (hk).2.2.2 | exact (hk).1.1.1.1 | exact (hk).1.1.1.2 | exact (hk).1.1.2.1 | exact (hk).1.1.2.2 | exact (hk).1.2.1.1 | exact (hk).1.2.1.2 | exact (hk).1.2.2.1 | exact (hk).1.2.2.2 | exact (hk).2.1.1.1 | exact (hk).2.1.1.2 | exact (hk).2.1.2.1 | exact (hk).2.1.2.2 | exact (hk).2.2.1.1 | exact (hk).2.2.1.2 | exact (hk).2.2.2.1 | exact (hk).2.2.2.2 | exact (hk).1.1.1.1.1 | exact (hk).1.1.1.1.2 | exact (hk).1.1.1.2.1 | exact (hk).1.1.1.2.2 | exact (hk).1.1.2.1.1 | exact (hk).1.1.2.1.2 | exact (hk).1.1.2.2.1 | exact (hk).1.1.2.2.2 | exact (hk).1.2.1.1.1 | exact (hk).1.2.1.1.2 | exact (hk).1.2.1.2.1 | exact (hk).1.2.1.2.2 | exact (hk).1.2.2.1.1 | exact (hk).1.2.2.1.2 | exact (hk).1.2.2.2.1 | exact (hk).1.2.2.2.2 | exact (hk).2.1.1.1.1 | exact (hk).2.1.1.1.2 | exact (hk).2.1.1.2.1 | exact (hk).2.1.1.2.2 | exact (hk).2.1.2.1.1 | exact (hk).2.1.2.1.2 | exact (hk).2.1.2.2.1 | exact (hk).2.1.2.2.2 | exact (hk).2.2.1.1.1 | exact (hk).2.2.1.1.2 | exact (hk).2.2.1.2.1 | exact (hk).2.2.1.2.2 | exact (hk).2.2.2.1.1 | exact (hk).2.2.2.1.2 | exact (hk).2.2.2.2.1 | exact (hk).2.2.2.2.2 | exact (hk).1.1.1.1.1.1 | exact (hk).1.1.1.1.1.2 | exact (hk).1.1.1.1.2.1 | exact (hk).1.1.1.1.2.2 | exact (hk).1.1.1.2.1.1 | exact (hk).1.1.1.2.1.2 | exact (hk).1.1.1.2.2.1 | exact (hk).1.1.1.2.2.2 | exact (hk).1.1.1.1.1.1.1 | exact (hk).1.1.1.1.1.1.2 | exact (hk).1.1.1.1.1.2.1 | exact (hk).1.1.1.1.1.2.2 | exact (hk).1.1.1.1.2.1.1 | exact (hk).1.1.1.1.2.1.2 | exact (hk).1.1.1.1.2.2.1 | exact (hk).1.1.1.1.2.2.2 | exact (hk).1.1.1.1.1.1.1.1 | exact (hk).1.1.1.1.1.1.1.2 | exact (hk).1.1.1.1.1.1.2.1 | exact (hk).1.1.1.1.1.1.2.2 | exact (hk).1.1.1.1.1.2.1.1 | exact (hk).1.1.1.1.1.2.1.2 | exact (hk).1.1.1.1.1.2.2.1 | exact (hk).1.1.1.1.1.2.2.2 | exact (hk).1.1.1.1.1.1.1.1.1 | exact (hk).1.1.1.1.1.1.1.1.2 | exact (hk).1.1.1.1.1.1.1.2.1 | exact (hk).1.1.1.1.1.1.1.2.2 | exact (hk).1.1.1.1.1.1.2.1.1 | exact (hk).1.1.1.1.1.1.2.1.2 | exact (hk).1.1.1.1.1.1.2.2.1 | exact (hk).1.1.1.1.1.1.2.2.2 | exact (hk).1.1.1.1.1.1.1.1.1.1 | exact (hk).1.1.1.1.1.1.1.1.1.2 | exact (hk).1.1.1.1.1.1.1.1.2.1 | exact (hk).1.1.1.1.1.1.1.1.2.2 | exact (hk).1.1.1.1.1.1.1.2.1.1 | exact (hk).1.1.1.1.1.1.1.2.1.2 | exact (hk).1.1.1.1.1.1.1.2.2.1 | exact (hk).1.1.1.1.1.1.1.2.2.2 | exact (hk).1.1.1.1.1.1.1.1.1.1.1 | exact (hk).1.1.1.1.1.1.1.1.1.1.2 | exact (hk).1.1.1.1.1.1.1.1.1.2.1 | exact (hk).1.1.1.1.1.1.1.1.1.2.2 | exact (hk).1.1.1.1.1.1.1.1.2.1.1 | exact (hk).1.1.1.1.1.1.1.1.2.1.2 | exact (hk).1.1.1.1.1.1.1.1.2.2.1 | exact (hk).1.1.1.1.1.1.1.1.2.2.2))); have b_ : N2 ≤ k_ := hs_.1; omega))); have n1_ := Aside0.mk (Kd.S_mono (ok' := fun k_ => (some k_ ≠ (v184 : Value).ownBlock) ∧ (N2 ≤ k_)) hy0 (fun k_ hk => by ((repeat' apply And.intro) <;> (first | trivial | exact (hk) | exact (hk).1 | exact (hk).2 | exact (hk).1.1 | exact (hk).1.2 | exact (hk).2.1 | exact (hk).2.2 | exact (hk).1.1.1 | exact (hk).1.1.2 | exact (hk).1.2.1 | exact (hk).1.2.2 | exact (hk).2.1.1 | exact (hk).2.1.2 | exact (hk).2.2.1 | exact (hk).2.2.2 | exact (hk).1.1.1.1 | exact (hk).1.1.1.2 | exact (hk).1.1.2.1 | exact (hk).1.1.2.2 | exact (hk).1.2.1.1 | exact (hk).1.2.1.2 | exact (hk).1.2.2.1 | exact (hk).1.2.2.2 | exact (hk).2.1.1.1 | exact (hk).2.1.1.2 | exact (hk).2.1.2.1 | exact (hk).2.1.2.2 | exact (hk).2.2.1.1 | exact (hk).2.2.1.2 | exact (hk).2.2.2.1 | exact (hk).2.2.2.2 | exact (hk).1.1.1.1.1 | exact (hk).1.1.1.1.2 | exact (hk).1.1.1.2.1 | exact (hk).1.1.1.2.2 | exact (hk).1.1.2.1.1 | exact (hk).1.1.2.1.2 | exact (hk).1.1.2.2.1 | exact (hk).1.1.2.2.2 | exact (hk).1.2.1.1.1 | exact (hk).1.2.1.1.2 | exact (hk).1.2.1.2.1 | exact (hk).1.2.1.2.2 | exact (hk).1.2.2.1.1 | exact (hk).1.2.2.1.2 | exact (hk).1.2.2.2.1 | exact (hk).1.2.2.2.2 | exact (hk).2.1.1.1.1 | exact (hk).2.1.1.1.2 | exact (hk).2.1.1.2.1 | exact (hk).2.1.1.2.2 | exact (hk).2.1.2.1.1 | exact (hk).2.1.2.1.2 | exact (hk).2.1.2.2.1 | exact (hk).2.1.2.2.2 | exact (hk).2.2.1.1.1 | exact (hk).2.2.1.1.2 | exact (hk).2.2.1.2.1 | exact (hk).2.2.1.2.2 | exact (hk).2.2.2.1.1 | exact (hk).2.2.2.1.2 | exact (hk).2.2.2.2.1 | exact (hk).2.2.2.2.2 | exact (hk).1.1.1.1.1.1 | exact (hk).1.1.1.1.1.2 | exact (hk).1.1.1.1.2.1 | exact (hk).1.1.1.1.2.2 | exact (hk).1.1.1.2.1.1 | exact (hk).1.1.1.2.1.2 | exact (hk).1.1.1.2.2.1 | exact (hk).1.1.1.2.2.2 | exact (hk).1.1.1.1.1.1.1 | exact (hk).1.1.1.1.1.1.2 | exact (hk).1.1.1.1.1.2.1 | exact (hk).1.1.1.1.1.2.2 | exact (hk).1.1.1.1.2.1.1 | exact (hk).1.1.1.1.2.1.2 | exact (hk).1.1.1.1.2.2.1 | exact (hk).1.1.1.1.2.2.2 | exact (hk).1.1.1.1.1.1.1.1 | exact (hk).1.1.1.1.1.1.1.2 | exact (hk).1.1.1.1.1.1.2.1 | exact (hk).1.1.1.1.1.1.2.2 | exact (hk).1.1.1.1.1.2.1.1 | exact (hk).1.1.1.1.1.2.1.2 | exact (hk).1.1.1.1.1.2.2.1 | exact (hk).1.1.1.1.1.2.2.2 | exact (hk).1.1.1.1.1.1.1.1.1 | exact (hk).1.1.1.1.1.1.1.1.2 | exact (hk).1.1.1.1.1.1.1.2.1 | exact (hk).1.1.1.1.1.1.1.2.2 | exact (hk).1.1.1.1.1.1.2.1.1 | exact (hk).1.1.1.1.1.1.2.1.2 | exact (hk).1.1.1.1.1.1.2.2.1 | exact (hk).1.1.1.1.1.1.2.2.2 | exact (hk).1.1.1.1.1.1.1.1.1.1 | exact (hk).1.1.1.1.1.1.1.1.1.2 | exact (hk).1.1.1.1.1.1.1.1.2.1 | exact (hk).1.1.1.1.1.1.1.1.2.2 | exact (hk).1.1.1.1.1.1.1.2.1.1 | exact (hk).1.1.1.1.1.1.1.2.1.2 | exact (hk).1.1.1.1.1.1.1.2.2.1 | exact (hk).1.1.1.1.1.1.1.2.2.2 | exact (hk).1.1.1.1.1.1.1.1.1.1.1 | exact (hk).1.1.1.1.1.1.1.1.1.1.2 | exact (hk).1.1.1.1.1.1.1.1.1.2.1 | exact (hk).1.1.1.1.1.1.1.1.1.2.2 | exact (hk).1.1.1.1.1.1.1.1.2.1.1 | exact (hk).1.1.1.1.1.1.1.1.2.1.2 | exact (hk).1.1.1.1.1.1.1.1.2.2.1 | exact (hk).1.1.1.1.1.1.1.1.2.2.2)))); have n2_ := Aside0.mk (hb); clear HO_3; clear HO_5; clear HB; have HO_3 := n0_; have HO_5 := n1_; have HB := n2_; clear n0_ n1_ n2_; (try clear hb); (try clear hkp); (try clear hy0)) | ((with_reducible refine gate_callee (f := 8) rfl ?_); refine goesL_ (some 38) rfl rfl Tryd.func8 (by kernel_rfl) rfl #[.slice Ao23 t192.length co23, .int .i64 1] rfl (by (try simp only [List.map_toArray, List.map_cons, List.map_nil]); first | done | (rw [show t192.length = t186.length from (Kd.S_reads' HO_5.out).1.symm] <;> rfl) | rfl | (simp only [List.length_drop, List.length_take]; rfl)) ?_; (with_reducible refine (laws_heldInt64SS.calls kj4 _ _ t192 1 t193 _ ?side1 ?side2 A16.out).mono ?_); (case side1 => repeat (first | exact (Kd.S_reads' HO_5.out).2.2 | (with_reducible refine Kd.C_alloc ?_ _) | (with_reducible refine Kd.C_drewN ?_ _) | (with_reducible refine Kd.C_drew ?_))); (case side2 => rw [show t192.length = t186.length from (Kd.S_reads' HO_5.out).1.symm]; exact (Kd.S_reads' HO_5.out).2.1); rintro e w' ⟨rfl, ⟨nd, rfl⟩⟩; refine ⟨_, rfl, ?_⟩) | ((with_reducible refine gate_callee (f := 5) rfl ?_); refine goesL_ (some 46) rfl rfl Tryd.func5 (by kernel_rfl) rfl #[.string a0] rfl (by (try simp only [List.map_toArray, List.map_cons, List.map_nil]); first | done | rfl | (simp only [List.length_drop, List.length_take]; rfl)) ?_; (with_reducible refine (impl_ReadBags.calls kj4 a0 t194 t195 _ ?sideT A21.out).mono ?_); (case sideT => exact TabX.below HTAB.out (by repeat (first | (with_reducible first | exact HB.out | apply below_alloc | apply pw_below_drewN | apply below_drew1) | exact HB.out))); rintro e w25 ⟨v196, rfl, ho0, hb⟩; refine ⟨_, rfl, ?_⟩; have n0_ := Aside0.mk (Kd.S_elder' (by (with_reducible repeat (first | apply Kd.S_alloc | apply Kd.S_drewN | apply Kd.S_drew)); exact HO_3.out) (Kd.S_base ho0) hb); have n1_ := Aside0.mk (Kd.S_elder' (by (with_reducible repeat (first | apply Kd.S_alloc | apply Kd.S_drewN | apply Kd.S_drew)); exact HO_5.out) (Kd.S_base ho0) hb); have n2_ := Aside0.mk (Kd.S_lower (Kd.S_new' (Kd.S_new' ho0 (Kd.S_lt (by (with_reducible repeat (first | apply Kd.S_alloc | apply Kd.S_drewN | apply Kd.S_drew)); exact HO_3.out))) (Kd.S_lt (by (with_reducible repeat (first | apply Kd.S_alloc | apply Kd.S_drewN | apply Kd.S_drew)); exact HO_5.out))) (below_size (by repeat (first | (with_reducible first | exact HB.out | apply below_alloc | apply pw_below_drewN | apply below_drew1) | exact HB.out)))); have n3_ := Aside0.mk (below_step (by repeat (first | (with_reducible first | exact HB.out | apply below_alloc | apply pw_below_drewN | apply below_drew1) | exact HB.out)) hb); clear HO_3; clear HO_5; clear HB; have HO_3 := n0_; have HO_5 := n1_; have HO197 := n2_; have HB := n3_; clear n0_ n1_ n2_ n3_; (try clear hb); (try clear hb2); (try clear hk); (try clear hi); (try clear ho0)))
              (try simp only [Act.put, List.setIfInBounds_toArray, List.set_cons_zero, List.set_cons_succ])
              go_cut [57] (fun v57 wc => ∃ (kq : Nat) (x57_21 : Bool), v57 = .bool x57_21 ∧ Aside0 (laws_FnExactReadBags.j1 kq t192 t191 x57_21 = some r) ∧ Aside0 (kq ≤ kj4) ∧ Aside0 (Kd.S (Kd.slice 2 (Kd.int .i64)) 30 wc w.heap.size (fun k_ => (True) ∧ (N2 ≤ k_)) (.slice Ao23 t186.length co23) t192) ∧ Aside0 (Below w.heap.size w wc))
              case first =>
                have H := HC22.out
                clear HC22
                replace H := Option.bind_eq_some_iff.mp H
                obtain ⟨t198, A260, H⟩ := H
                replace H : (if t198 = true then (laws_FnExactReadBags.j1 kj4 t192 t191 (t195 != t183)) else (laws_FnExactReadBags.j1 kj4 t192 t191 true)) = some r := H
                have A26 := Aside0.mk A260
                clear A260
                by_cases c27 : t198 = true
                · subst c27
                  have H1 : (laws_FnExactReadBags.j1 kj4 t192 t191 (t195 != t183)) = some r := by rw [if_pos rfl] at H; exact H
                  clear H
                  have H := H1
                  clear H1
                  have H' := Aside0.mk H
                  clear H
                  obtain ⟨Ao28, co28, eo28⟩ := Kd.S_slice HO197.out
                  subst eo28
                  obtain ⟨Ao29, co29, eo29⟩ := Kd.S_slice HO_3.out
                  subst eo29
                  go_wp2_with (first | ((with_reducible refine gate_callee (f := 6) rfl ?_); refine goesL_ (some 51) rfl rfl Tryd.func6 (by kernel_rfl) rfl #[.slice Ao28 t194.length co28, .slice Ao29 t182.length co29] rfl (by (try simp only [List.map_toArray, List.map_cons, List.map_nil]); first | done | rfl | (simp only [List.length_drop, List.length_take]; rfl)) ?_; (with_reducible refine (laws_eqInt64SS.calls kj4 _ _ t194 _ _ t182 true _ ?side1 ?side2 ?side3 ?side4 A26.out).mono ?_); (case side1 => repeat (first | exact (Kd.S_reads' HO197.out).2.2 | (with_reducible refine Kd.C_alloc ?_ _) | (with_reducible refine Kd.C_drewN ?_ _) | (with_reducible refine Kd.C_drew ?_))); (case side2 => exact (Kd.S_reads' HO197.out).2.1); (case side3 => repeat (first | exact (Kd.S_reads' HO_3.out).2.2 | (with_reducible refine Kd.C_alloc ?_ _) | (with_reducible refine Kd.C_drewN ?_ _) | (with_reducible refine Kd.C_drew ?_))); (case side4 => exact (Kd.S_reads' HO_3.out).2.1); rintro e w' ⟨rfl, ⟨nd, rfl⟩⟩; refine ⟨_, rfl, ?_⟩))
                  go_meet
                  case rel => exact ⟨_, ((t195 != t183)), (by first | rfl | (simp; done) | (simp [*]; done)), H', ⟨by have := HJ4.out; first | omega | exact Nat.le_refl _⟩, ⟨by (with_reducible repeat (first | apply Kd.S_alloc | apply Kd.S_drewN | apply Kd.S_drew)); exact Kd.S_mono HO_5.out (fun k_ hk => by ((repeat' apply And.intro) <;> (first | trivial | exact (hk) | exact (hk).1 | exact (hk).2 | exact (hk).1.1 | exact (hk).1.2 | exact (hk).2.1 | exact (hk).2.2 | exact (hk).1.1.1 | exact (hk).1.1.2 | exact (hk).1.2.1 | exact (hk).1.2.2 | exact (hk).2.1.1 | exact (hk).2.1.2 | exact (hk).2.2.1 | exact (hk).2.2.2 | exact (hk).1.1.1.1 | exact (hk).1.1.1.2 | exact (hk).1.1.2.1 | exact (hk).1.1.2.2 | exact (hk).1.2.1.1 | exact (hk).1.2.1.2 | exact (hk).1.2.2.1 | exact (hk).1.2.2.2 | exact (hk).2.1.1.1 | exact (hk).2.1.1.2 | exact (hk).2.1.2.1 | exact (hk).2.1.2.2 | exact (hk).2.2.1.1 | exact (hk).2.2.1.2 | exact (hk).2.2.2.1 | exact (hk).2.2.2.2 | exact (hk).1.1.1.1.1 | exact (hk).1.1.1.1.2 | exact (hk).1.1.1.2.1 | exact (hk).1.1.1.2.2 | exact (hk).1.1.2.1.1 | exact (hk).1.1.2.1.2 | exact (hk).1.1.2.2.1 | exact (hk).1.1.2.2.2 | exact (hk).1.2.1.1.1 | exact (hk).1.2.1.1.2 | exact (hk).1.2.1.2.1 | exact (hk).1.2.1.2.2 | exact (hk).1.2.2.1.1 | exact (hk).1.2.2.1.2 | exact (hk).1.2.2.2.1 | exact (hk).1.2.2.2.2 | exact (hk).2.1.1.1.1 | exact (hk).2.1.1.1.2 | exact (hk).2.1.1.2.1 | exact (hk).2.1.1.2.2 | exact (hk).2.1.2.1.1 | exact (hk).2.1.2.1.2 | exact (hk).2.1.2.2.1 | exact (hk).2.1.2.2.2 | exact (hk).2.2.1.1.1 | exact (hk).2.2.1.1.2 | exact (hk).2.2.1.2.1 | exact (hk).2.2.1.2.2 | exact (hk).2.2.2.1.1 | exact (hk).2.2.2.1.2 | exact (hk).2.2.2.2.1 | exact (hk).2.2.2.2.2 | exact (hk).1.1.1.1.1.1 | exact (hk).1.1.1.1.1.2 | exact (hk).1.1.1.1.2.1 | exact (hk).1.1.1.1.2.2 | exact (hk).1.1.1.2.1.1 | exact (hk).1.1.1.2.1.2 | exact (hk).1.1.1.2.2.1 | exact (hk).1.1.1.2.2.2 | exact (hk).1.1.1.1.1.1.1 | exact (hk).1.1.1.1.1.1.2 | exact (hk).1.1.1.1.1.2.1 | exact (hk).1.1.1.1.1.2.2 | exact (hk).1.1.1.1.2.1.1 | exact (hk).1.1.1.1.2.1.2 | exact (hk).1.1.1.1.2.2.1 | exact (hk).1.1.1.1.2.2.2 | exact (hk).1.1.1.1.1.1.1.1 | exact (hk).1.1.1.1.1.1.1.2 | exact (hk).1.1.1.1.1.1.2.1 | exact (hk).1.1.1.1.1.1.2.2 | exact (hk).1.1.1.1.1.2.1.1 | exact (hk).1.1.1.1.1.2.1.2 | exact (hk).1.1.1.1.1.2.2.1 | exact (hk).1.1.1.1.1.2.2.2 | exact (hk).1.1.1.1.1.1.1.1.1 | exact (hk).1.1.1.1.1.1.1.1.2 | exact (hk).1.1.1.1.1.1.1.2.1 | exact (hk).1.1.1.1.1.1.1.2.2 | exact (hk).1.1.1.1.1.1.2.1.1 | exact (hk).1.1.1.1.1.1.2.1.2 | exact (hk).1.1.1.1.1.1.2.2.1 | exact (hk).1.1.1.1.1.1.2.2.2 | exact (hk).1.1.1.1.1.1.1.1.1.1 | exact (hk).1.1.1.1.1.1.1.1.1.2 | exact (hk).1.1.1.1.1.1.1.1.2.1 | exact (hk).1.1.1.1.1.1.1.1.2.2 | exact (hk).1.1.1.1.1.1.1.2.1.1 | exact (hk).1.1.1.1.1.1.1.2.1.2 | exact (hk).1.1.1.1.1.1.1.2.2.1 | exact (hk).1.1.1.1.1.1.1.2.2.2 | exact (hk).1.1.1.1.1.1.1.1.1.1.1 | exact (hk).1.1.1.1.1.1.1.1.1.1.2 | exact (hk).1.1.1.1.1.1.1.1.1.2.1 | exact (hk).1.1.1.1.1.1.1.1.1.2.2 | exact (hk).1.1.1.1.1.1.1.1.2.1.1 | exact (hk).1.1.1.1.1.1.1.1.2.1.2 | exact (hk).1.1.1.1.1.1.1.1.2.2.1 | exact (hk).1.1.1.1.1.1.1.1.2.2.2)))⟩, ⟨by repeat (first | (with_reducible first | exact HB.out | apply below_alloc | apply pw_below_drewN | apply below_drew1) | exact HB.out)⟩⟩
                · replace c27 := Bool.eq_false_iff.mpr c27
                  subst c27
                  have H1 : (laws_FnExactReadBags.j1 kj4 t192 t191 true) = some r := by rw [if_neg (show ¬ (false = true) by decide)] at H; exact H
                  clear H
                  have H := H1
                  clear H1
                  have H' := Aside0.mk H
                  clear H
                  obtain ⟨Ao30, co30, eo30⟩ := Kd.S_slice HO197.out
                  subst eo30
                  obtain ⟨Ao31, co31, eo31⟩ := Kd.S_slice HO_3.out
                  subst eo31
                  go_wp2_with (first | ((with_reducible refine gate_callee (f := 6) rfl ?_); refine goesL_ (some 51) rfl rfl Tryd.func6 (by kernel_rfl) rfl #[.slice Ao30 t194.length co30, .slice Ao31 t182.length co31] rfl (by (try simp only [List.map_toArray, List.map_cons, List.map_nil]); first | done | rfl | (simp only [List.length_drop, List.length_take]; rfl)) ?_; (with_reducible refine (laws_eqInt64SS.calls kj4 _ _ t194 _ _ t182 false _ ?side1 ?side2 ?side3 ?side4 A26.out).mono ?_); (case side1 => repeat (first | exact (Kd.S_reads' HO197.out).2.2 | (with_reducible refine Kd.C_alloc ?_ _) | (with_reducible refine Kd.C_drewN ?_ _) | (with_reducible refine Kd.C_drew ?_))); (case side2 => exact (Kd.S_reads' HO197.out).2.1); (case side3 => repeat (first | exact (Kd.S_reads' HO_3.out).2.2 | (with_reducible refine Kd.C_alloc ?_ _) | (with_reducible refine Kd.C_drewN ?_ _) | (with_reducible refine Kd.C_drew ?_))); (case side4 => exact (Kd.S_reads' HO_3.out).2.1); rintro e w' ⟨rfl, ⟨nd, rfl⟩⟩; refine ⟨_, rfl, ?_⟩))
                  go_meet
                  case rel => exact ⟨_, (true), (by first | rfl | (simp; done) | (simp [*]; done)), H', ⟨by have := HJ4.out; first | omega | exact Nat.le_refl _⟩, ⟨by (with_reducible repeat (first | apply Kd.S_alloc | apply Kd.S_drewN | apply Kd.S_drew)); exact Kd.S_mono HO_5.out (fun k_ hk => by ((repeat' apply And.intro) <;> (first | trivial | exact (hk) | exact (hk).1 | exact (hk).2 | exact (hk).1.1 | exact (hk).1.2 | exact (hk).2.1 | exact (hk).2.2 | exact (hk).1.1.1 | exact (hk).1.1.2 | exact (hk).1.2.1 | exact (hk).1.2.2 | exact (hk).2.1.1 | exact (hk).2.1.2 | exact (hk).2.2.1 | exact (hk).2.2.2 | exact (hk).1.1.1.1 | exact (hk).1.1.1.2 | exact (hk).1.1.2.1 | exact (hk).1.1.2.2 | exact (hk).1.2.1.1 | exact (hk).1.2.1.2 | exact (hk).1.2.2.1 | exact (hk).1.2.2.2 | exact (hk).2.1.1.1 | exact (hk).2.1.1.2 | exact (hk).2.1.2.1 | exact (hk).2.1.2.2 | exact (hk).2.2.1.1 | exact (hk).2.2.1.2 | exact (hk).2.2.2.1 | exact (hk).2.2.2.2 | exact (hk).1.1.1.1.1 | exact (hk).1.1.1.1.2 | exact (hk).1.1.1.2.1 | exact (hk).1.1.1.2.2 | exact (hk).1.1.2.1.1 | exact (hk).1.1.2.1.2 | exact (hk).1.1.2.2.1 | exact (hk).1.1.2.2.2 | exact (hk).1.2.1.1.1 | exact (hk).1.2.1.1.2 | exact (hk).1.2.1.2.1 | exact (hk).1.2.1.2.2 | exact (hk).1.2.2.1.1 | exact (hk).1.2.2.1.2 | exact (hk).1.2.2.2.1 | exact (hk).1.2.2.2.2 | exact (hk).2.1.1.1.1 | exact (hk).2.1.1.1.2 | exact (hk).2.1.1.2.1 | exact (hk).2.1.1.2.2 | exact (hk).2.1.2.1.1 | exact (hk).2.1.2.1.2 | exact (hk).2.1.2.2.1 | exact (hk).2.1.2.2.2 | exact (hk).2.2.1.1.1 | exact (hk).2.2.1.1.2 | exact (hk).2.2.1.2.1 | exact (hk).2.2.1.2.2 | exact (hk).2.2.2.1.1 | exact (hk).2.2.2.1.2 | exact (hk).2.2.2.2.1 | exact (hk).2.2.2.2.2 | exact (hk).1.1.1.1.1.1 | exact (hk).1.1.1.1.1.2 | exact (hk).1.1.1.1.2.1 | exact (hk).1.1.1.1.2.2 | exact (hk).1.1.1.2.1.1 | exact (hk).1.1.1.2.1.2 | exact (hk).1.1.1.2.2.1 | exact (hk).1.1.1.2.2.2 | exact (hk).1.1.1.1.1.1.1 | exact (hk).1.1.1.1.1.1.2 | exact (hk).1.1.1.1.1.2.1 | exact (hk).1.1.1.1.1.2.2 | exact (hk).1.1.1.1.2.1.1 | exact (hk).1.1.1.1.2.1.2 | exact (hk).1.1.1.1.2.2.1 | exact (hk).1.1.1.1.2.2.2 | exact (hk).1.1.1.1.1.1.1.1 | exact (hk).1.1.1.1.1.1.1.2 | exact (hk).1.1.1.1.1.1.2.1 | exact (hk).1.1.1.1.1.1.2.2 | exact (hk).1.1.1.1.1.2.1.1 | exact (hk).1.1.1.1.1.2.1.2 | exact (hk).1.1.1.1.1.2.2.1 | exact (hk).1.1.1.1.1.2.2.2 | exact (hk).1.1.1.1.1.1.1.1.1 | exact (hk).1.1.1.1.1.1.1.1.2 | exact (hk).1.1.1.1.1.1.1.2.1 | exact (hk).1.1.1.1.1.1.1.2.2 | exact (hk).1.1.1.1.1.1.2.1.1 | exact (hk).1.1.1.1.1.1.2.1.2 | exact (hk).1.1.1.1.1.1.2.2.1 | exact (hk).1.1.1.1.1.1.2.2.2 | exact (hk).1.1.1.1.1.1.1.1.1.1 | exact (hk).1.1.1.1.1.1.1.1.1.2 | exact (hk).1.1.1.1.1.1.1.1.2.1 | exact (hk).1.1.1.1.1.1.1.1.2.2 | exact (hk).1.1.1.1.1.1.1.2.1.1 | exact (hk).1.1.1.1.1.1.1.2.1.2 | exact (hk).1.1.1.1.1.1.1.2.2.1 | exact (hk).1.1.1.1.1.1.1.2.2.2 | exact (hk).1.1.1.1.1.1.1.1.1.1.1 | exact (hk).1.1.1.1.1.1.1.1.1.1.2 | exact (hk).1.1.1.1.1.1.1.1.1.2.1 | exact (hk).1.1.1.1.1.1.1.1.1.2.2 | exact (hk).1.1.1.1.1.1.1.1.2.1.1 | exact (hk).1.1.1.1.1.1.1.1.2.1.2 | exact (hk).1.1.1.1.1.1.1.1.2.2.1 | exact (hk).1.1.1.1.1.1.1.1.2.2.2)))⟩, ⟨by repeat (first | (with_reducible first | exact HB.out | apply below_alloc | apply pw_below_drewN | apply below_drew1) | exact HB.out)⟩⟩
              case rest =>
                clear HC22
                try clear c1
                try clear c2
                try clear c2b0
                try clear c2b1
                try clear p2
                try clear c3
                try clear c4
                try clear c5
                try clear c6
                try clear c7
                try clear c8
                try clear c9
                try clear c14
                try clear c17
                try clear c17b0
                try clear c20
                try clear c20b0
                try clear c20b1
                try clear c27
                try clear p2
                obtain ⟨kq, x57_21, rfl, HA, HJ21, HO_5, HB⟩ := hcut
                have hl5_21 := (Kd.S_reads' HO_5.out).1
                rw [hl5_21] at HO_5
                (try simp only [hl5_21])
                cases kq with
                | zero => exact absurd HA.out (by simp [laws_FnExactReadBags.j1])
                | succ kj21 =>
                  have H := HA.out
                  clear HA
                  simp only [laws_FnExactReadBags.j1] at H
                  by_cases c32 : x57_21 = true
                  · subst c32
                    have H1 : (some false) = some r := by rw [if_pos rfl] at H; exact H
                    clear H
                    have H := H1
                    clear H1
                    obtain rfl := Option.some.inj H
                    go_wp2
                    go_ret
                    exact ⟨by first | rfl | (simp [errW_none, errW_some] <;> rfl) | (simp [*, errW_none, errW_some] <;> rfl), by repeat (first | (with_reducible first | exact HB.out | apply below_alloc | apply pw_below_drewN | apply below_drew1) | exact HB.out)⟩
                  · replace c32 := Bool.eq_false_iff.mpr c32
                    subst c32
                    have H1 : ((laws_heldInt64SS.f kj21 t192 1).bind fun t199 => (if t199 < 0 then (some false) else (if t199 = t191 then (some true) else (some false)))) = some r := by rw [if_neg (show ¬ (false = true) by decide)] at H; exact H
                    clear H
                    have H := H1
                    clear H1
                    replace H := Option.bind_eq_some_iff.mp H
                    obtain ⟨t199, A330, H⟩ := H
                    replace H : (if t199 < 0 then (some false) else (if t199 = t191 then (some true) else (some false))) = some r := H
                    have A33 := Aside0.mk A330
                    clear A330
                    by_cases c34 : t199 < 0
                    · rw [if_pos c34] at H
                      have c34b0 : decide (t199 < 0) = true := decide_eq_true c34
                      clear c34
                      obtain rfl := Option.some.inj H
                      go_wp2_with (first | ((with_reducible refine gate_callee (f := 8) rfl ?_); refine goesL_ (some 60) rfl rfl Tryd.func8 (by kernel_rfl) rfl #[.slice Ao23 t192.length co23, .int .i64 1] rfl (by (try simp only [List.map_toArray, List.map_cons, List.map_nil]); first | done | rfl | (simp only [List.length_drop, List.length_take]; rfl)) ?_; (with_reducible refine (laws_heldInt64SS.calls kj21 _ _ t192 1 t199 _ ?side1 ?side2 A33.out).mono ?_); (case side1 => repeat (first | exact (Kd.S_reads' HO_5.out).2.2 | (with_reducible refine Kd.C_alloc ?_ _) | (with_reducible refine Kd.C_drewN ?_ _) | (with_reducible refine Kd.C_drew ?_))); (case side2 => exact (Kd.S_reads' HO_5.out).2.1); rintro e w' ⟨rfl, ⟨nd, rfl⟩⟩; refine ⟨_, rfl, ?_⟩))
                      go_ret
                      exact ⟨by first | rfl | (simp [errW_none, errW_some] <;> rfl) | (simp [*, errW_none, errW_some] <;> rfl), by repeat (first | (with_reducible first | exact HB.out | apply below_alloc | apply pw_below_drewN | apply below_drew1) | exact HB.out)⟩
                    · rw [if_neg c34] at H
                      have c34b0 : decide (t199 < 0) = false := decide_eq_false c34
                      clear c34
                      by_cases c35 : t199 = t191
                      · rw [if_pos c35] at H
                        have c35b0 : (t199 == t191) = true := beq_iff_eq.mpr c35
                        have c35b1 : (t199 != t191) = false := bne_eq_false_iff_eq.mpr c35
                        clear c35
                        obtain rfl := Option.some.inj H
                        go_wp2_with (first | ((with_reducible refine gate_callee (f := 8) rfl ?_); refine goesL_ (some 60) rfl rfl Tryd.func8 (by kernel_rfl) rfl #[.slice Ao23 t192.length co23, .int .i64 1] rfl (by (try simp only [List.map_toArray, List.map_cons, List.map_nil]); first | done | rfl | (simp only [List.length_drop, List.length_take]; rfl)) ?_; (with_reducible refine (laws_heldInt64SS.calls kj21 _ _ t192 1 t199 _ ?side1 ?side2 A33.out).mono ?_); (case side1 => repeat (first | exact (Kd.S_reads' HO_5.out).2.2 | (with_reducible refine Kd.C_alloc ?_ _) | (with_reducible refine Kd.C_drewN ?_ _) | (with_reducible refine Kd.C_drew ?_))); (case side2 => exact (Kd.S_reads' HO_5.out).2.1); rintro e w' ⟨rfl, ⟨nd, rfl⟩⟩; refine ⟨_, rfl, ?_⟩))
                        go_ret
                        exact ⟨by first | rfl | (simp [errW_none, errW_some] <;> rfl) | (simp [*, errW_none, errW_some] <;> rfl), by repeat (first | (with_reducible first | exact HB.out | apply below_alloc | apply pw_below_drewN | apply below_drew1) | exact HB.out)⟩
                      · rw [if_neg c35] at H
                        have c35b0 : (t199 == t191) = false := beq_eq_false_iff_ne.mpr c35
                        have c35b1 : (t199 != t191) = true := bne_iff_ne.mpr c35
                        obtain rfl := Option.some.inj H
                        go_wp2_with (first | ((with_reducible refine gate_callee (f := 8) rfl ?_); refine goesL_ (some 60) rfl rfl Tryd.func8 (by kernel_rfl) rfl #[.slice Ao23 t192.length co23, .int .i64 1] rfl (by (try simp only [List.map_toArray, List.map_cons, List.map_nil]); first | done | rfl | (simp only [List.length_drop, List.length_take]; rfl)) ?_; (with_reducible refine (laws_heldInt64SS.calls kj21 _ _ t192 1 t199 _ ?side1 ?side2 A33.out).mono ?_); (case side1 => repeat (first | exact (Kd.S_reads' HO_5.out).2.2 | (with_reducible refine Kd.C_alloc ?_ _) | (with_reducible refine Kd.C_drewN ?_ _) | (with_reducible refine Kd.C_drew ?_))); (case side2 => exact (Kd.S_reads' HO_5.out).2.1); rintro e w' ⟨rfl, ⟨nd, rfl⟩⟩; refine ⟨_, rfl, ?_⟩))
                        go_ret
                        exact ⟨by first | rfl | (simp [errW_none, errW_some] <;> rfl) | (simp [*, errW_none, errW_some] <;> rfl), by repeat (first | (with_reducible first | exact HB.out | apply below_alloc | apply pw_below_drewN | apply below_drew1) | exact HB.out)⟩
            · rw [if_neg c20] at H
              have c20b0 : (t193 == t191) = false := beq_eq_false_iff_ne.mpr c20
              have c20b1 : (t193 != t191) = true := bne_iff_ne.mpr c20
              obtain rfl := Option.some.inj H
              obtain ⟨Ao36, co36, eo36⟩ := Kd.S_slice HO_5.out
              subst eo36
              go_wp2_with (first | ((with_reducible refine gate_callee (f := 7) rfl ?_); refine goesL_ (some 35) rfl rfl Tryd.func7 (by kernel_rfl) rfl #[.slice Ao36 t186.length co36, .int .i64 1] rfl (by (try simp only [List.map_toArray, List.map_cons, List.map_nil]); first | done | rfl | (simp only [List.length_drop, List.length_take]; rfl)) ?_; (with_reducible refine (laws_markInt64SS.calls kj4 (fun k_ => (N2 ≤ k_) ∧ (some k_ ≠ (v184 : Value).ownBlock)) (.slice Ao36 t186.length co36) t186 1 t191 t192 w _ ?side1 ?side2 A15.out).mono ?_); (case side1 => repeat (first | (with_reducible first | exact HB.out | apply below_alloc | apply pw_below_drewN | apply below_drew1) | exact HB.out)); (case side2 => exact Kd.S_mono HO_5.out (fun k_ hk => by ((repeat' apply And.intro) <;> (first | trivial | exact (hk) | exact (hk).1 | exact (hk).2 | exact (hk).1.1 | exact (hk).1.2 | exact (hk).2.1 | exact (hk).2.2 | exact (hk).1.1.1 | exact (hk).1.1.2 | exact (hk).1.2.1 | exact (hk).1.2.2 | exact (hk).2.1.1 | exact (hk).2.1.2 | exact (hk).2.2.1 | exact (hk).2.2.2 | exact (hk).1.1.1.1 | exact (hk).1.1.1.2 | exact (hk).1.1.2.1 | exact (hk).1.1.2.2 | exact (hk).1.2.1.1 | exact (hk).1.2.1.2 | exact (hk).1.2.2.1 | exact (hk).1.2.2.2 | exact (hk).2.1.1.1 | exact (hk).2.1.1.2 | exact (hk).2.1.2.1 | exact (hk).2.1.2.2 | exact (hk).2.2.1.1 | exact (hk).2.2.1.2 | exact (hk).2.2.2.1 | exact (hk).2.2.2.2 | exact (hk).1.1.1.1.1 | exact (hk).1.1.1.1.2 | exact (hk).1.1.1.2.1 | exact (hk).1.1.1.2.2 | exact (hk).1.1.2.1.1 | exact (hk).1.1.2.1.2 | exact (hk).1.1.2.2.1 | exact (hk).1.1.2.2.2 | exact (hk).1.2.1.1.1 | exact (hk).1.2.1.1.2 | exact (hk).1.2.1.2.1 | exact (hk).1.2.1.2.2 | exact (hk).1.2.2.1.1 | exact (hk).1.2.2.1.2 | exact (hk).1.2.2.2.1 | exact (hk).1.2.2.2.2 | exact (hk).2.1.1.1.1 | exact (hk).2.1.1.1.2 | exact (hk).2.1.1.2.1 | exact (hk).2.1.1.2.2 | exact (hk).2.1.2.1.1 | exact (hk).2.1.2.1.2 | exact (hk).2.1.2.2.1 | exact (hk).2.1.2.2.2 | exact (hk).2.2.1.1.1 | exact (hk).2.2.1.1.2 | exact (hk).2.2.1.2.1 | exact (hk).2.2.1.2.2 | exact (hk).2.2.2.1.1 | exact (hk).2.2.2.1.2 | exact (hk).2.2.2.2.1 | exact (hk).2.2.2.2.2 | exact (hk).1.1.1.1.1.1 | exact (hk).1.1.1.1.1.2 | exact (hk).1.1.1.1.2.1 | exact (hk).1.1.1.1.2.2 | exact (hk).1.1.1.2.1.1 | exact (hk).1.1.1.2.1.2 | exact (hk).1.1.1.2.2.1 | exact (hk).1.1.1.2.2.2 | exact (hk).1.1.1.1.1.1.1 | exact (hk).1.1.1.1.1.1.2 | exact (hk).1.1.1.1.1.2.1 | exact (hk).1.1.1.1.1.2.2 | exact (hk).1.1.1.1.2.1.1 | exact (hk).1.1.1.1.2.1.2 | exact (hk).1.1.1.1.2.2.1 | exact (hk).1.1.1.1.2.2.2 | exact (hk).1.1.1.1.1.1.1.1 | exact (hk).1.1.1.1.1.1.1.2 | exact (hk).1.1.1.1.1.1.2.1 | exact (hk).1.1.1.1.1.1.2.2 | exact (hk).1.1.1.1.1.2.1.1 | exact (hk).1.1.1.1.1.2.1.2 | exact (hk).1.1.1.1.1.2.2.1 | exact (hk).1.1.1.1.1.2.2.2 | exact (hk).1.1.1.1.1.1.1.1.1 | exact (hk).1.1.1.1.1.1.1.1.2 | exact (hk).1.1.1.1.1.1.1.2.1 | exact (hk).1.1.1.1.1.1.1.2.2 | exact (hk).1.1.1.1.1.1.2.1.1 | exact (hk).1.1.1.1.1.1.2.1.2 | exact (hk).1.1.1.1.1.1.2.2.1 | exact (hk).1.1.1.1.1.1.2.2.2 | exact (hk).1.1.1.1.1.1.1.1.1.1 | exact (hk).1.1.1.1.1.1.1.1.1.2 | exact (hk).1.1.1.1.1.1.1.1.2.1 | exact (hk).1.1.1.1.1.1.1.1.2.2 | exact (hk).1.1.1.1.1.1.1.2.1.1 | exact (hk).1.1.1.1.1.1.1.2.1.2 | exact (hk).1.1.1.1.1.1.1.2.2.1 | exact (hk).1.1.1.1.1.1.1.2.2.2 | exact (hk).1.1.1.1.1.1.1.1.1.1.1 | exact (hk).1.1.1.1.1.1.1.1.1.1.2 | exact (hk).1.1.1.1.1.1.1.1.1.2.1 | exact (hk).1.1.1.1.1.1.1.1.1.2.2 | exact (hk).1.1.1.1.1.1.1.1.2.1.1 | exact (hk).1.1.1.1.1.1.1.1.2.1.2 | exact (hk).1.1.1.1.1.1.1.1.2.2.1 | exact (hk).1.1.1.1.1.1.1.1.2.2.2)))); rintro e w37 ⟨rfl, hy0, hb, hkp⟩; refine ⟨_, rfl, ?_⟩; have n0_ := Aside0.mk ((Kd.S_kept (by (with_reducible repeat (first | apply Kd.S_alloc | apply Kd.S_drewN | apply Kd.S_drew)); exact HO_3.out) hkp (fun k_ hk hs_ => by have a_ : k_ < N2 := (by ((repeat' apply And.intro) <;> (first | trivial | exact (hk) | exact (hk).1 | exact (hk).2 | exact (hk).1.1 | exact (hk).1.2 | exact (hk).2.1 | exact (hk).2.2 | exact (hk).1.1.1 | exact (hk).1.1.2 | exact (hk).1.2.1 | exact (hk).1.2.2 | exact (hk).2.1.1 | exact (hk).2.1.2 | exact (hk).2.2.1 | exact (hk).2.2.2 | exact (hk).1.1.1.1 | exact (hk).1.1.1.2 | exact (hk).1.1.2.1 | exact (hk).1.1.2.2 | exact (hk).1.2.1.1 | exact (hk).1.2.1.2 | exact (hk).1.2.2.1 | exact (hk).1.2.2.2 | exact (hk).2.1.1.1 | exact (hk).2.1.1.2 | exact (hk).2.1.2.1 | exact (hk).2.1.2.2 | exact (hk).2.2.1.1 | exact (hk).2.2.1.2 | exact (hk).2.2.2.1 | exact (hk).2.2.2.2 | exact (hk).1.1.1.1.1 | exact (hk).1.1.1.1.2 | exact (hk).1.1.1.2.1 | exact (hk).1.1.1.2.2 | exact (hk).1.1.2.1.1 | exact (hk).1.1.2.1.2 | exact (hk).1.1.2.2.1 | exact (hk).1.1.2.2.2 | exact (hk).1.2.1.1.1 | exact (hk).1.2.1.1.2 | exact (hk).1.2.1.2.1 | exact (hk).1.2.1.2.2 | exact (hk).1.2.2.1.1 | exact (hk).1.2.2.1.2 | exact (hk).1.2.2.2.1 | exact (hk).1.2.2.2.2 | exact (hk).2.1.1.1.1 | exact (hk).2.1.1.1.2 | exact (hk).2.1.1.2.1 | exact (hk).2.1.1.2.2 | exact (hk).2.1.2.1.1 | exact (hk).2.1.2.1.2 | exact (hk).2.1.2.2.1 | exact (hk).2.1.2.2.2 | exact (hk).2.2.1.1.1 | exact (hk).2.2.1.1.2 | exact (hk).2.2.1.2.1 | exact (hk).2.2.1.2.2 | exact (hk).2.2.2.1.1 | exact (hk).2.2.2.1.2 | exact (hk).2.2.2.2.1 | exact (hk).2.2.2.2.2 | exact (hk).1.1.1.1.1.1 | exact (hk).1.1.1.1.1.2 | exact (hk).1.1.1.1.2.1 | exact (hk).1.1.1.1.2.2 | exact (hk).1.1.1.2.1.1 | exact (hk).1.1.1.2.1.2 | exact (hk).1.1.1.2.2.1 | exact (hk).1.1.1.2.2.2 | exact (hk).1.1.1.1.1.1.1 | exact (hk).1.1.1.1.1.1.2 | exact (hk).1.1.1.1.1.2.1 | exact (hk).1.1.1.1.1.2.2 | exact (hk).1.1.1.1.2.1.1 | exact (hk).1.1.1.1.2.1.2 | exact (hk).1.1.1.1.2.2.1 | exact (hk).1.1.1.1.2.2.2 | exact (hk).1.1.1.1.1.1.1.1 | exact (hk).1.1.1.1.1.1.1.2 | exact (hk).1.1.1.1.1.1.2.1 | exact (hk).1.1.1.1.1.1.2.2 | exact (hk).1.1.1.1.1.2.1.1 | exact (hk).1.1.1.1.1.2.1.2 | exact (hk).1.1.1.1.1.2.2.1 | exact (hk).1.1.1.1.1.2.2.2 | exact (hk).1.1.1.1.1.1.1.1.1 | exact (hk).1.1.1.1.1.1.1.1.2 | exact (hk).1.1.1.1.1.1.1.2.1 | exact (hk).1.1.1.1.1.1.1.2.2 | exact (hk).1.1.1.1.1.1.2.1.1 | exact (hk).1.1.1.1.1.1.2.1.2 | exact (hk).1.1.1.1.1.1.2.2.1 | exact (hk).1.1.1.1.1.1.2.2.2 | exact (hk).1.1.1.1.1.1.1.1.1.1 | exact (hk).1.1.1.1.1.1.1.1.1.2 | exact (hk).1.1.1.1.1.1.1.1.2.1 | exact (hk).1.1.1.1.1.1.1.1.2.2 | exact (hk).1.1.1.1.1.1.1.2.1.1 | exact (hk).1.1.1.1.1.1.1.2.1.2 | exact (hk).1.1.1.1.1.1.1.2.2.1 | exact (hk).1.1.1.1.1.1.1.2.2.2 | exact (hk).1.1.1.1.1.1.1.1.1.1.1 | exact (hk).1.1.1.1.1.1.1.1.1.1.2 | exact (hk).1.1.1.1.1.1.1.1.1.2.1 | exact (hk).1.1.1.1.1.1.1.1.1.2.2 | exact (hk).1.1.1.1.1.1.1.1.2.1.1 | exact (hk).1.1.1.1.1.1.1.1.2.1.2 | exact (hk).1.1.1.1.1.1.1.1.2.2.1 | exact (hk).1.1.1.1.1.1.1.1.2.2.2))); have b_ : N2 ≤ k_ := hs_.1; omega))); have n1_ := Aside0.mk (Kd.S_mono (ok' := fun k_ => (some k_ ≠ (v184 : Value).ownBlock) ∧ (N2 ≤ k_)) hy0 (fun k_ hk => by ((repeat' apply And.intro) <;> (first | trivial | exact (hk) | exact (hk).1 | exact (hk).2 | exact (hk).1.1 | exact (hk).1.2 | exact (hk).2.1 | exact (hk).2.2 | exact (hk).1.1.1 | exact (hk).1.1.2 | exact (hk).1.2.1 | exact (hk).1.2.2 | exact (hk).2.1.1 | exact (hk).2.1.2 | exact (hk).2.2.1 | exact (hk).2.2.2 | exact (hk).1.1.1.1 | exact (hk).1.1.1.2 | exact (hk).1.1.2.1 | exact (hk).1.1.2.2 | exact (hk).1.2.1.1 | exact (hk).1.2.1.2 | exact (hk).1.2.2.1 | exact (hk).1.2.2.2 | exact (hk).2.1.1.1 | exact (hk).2.1.1.2 | exact (hk).2.1.2.1 | exact (hk).2.1.2.2 | exact (hk).2.2.1.1 | exact (hk).2.2.1.2 | exact (hk).2.2.2.1 | exact (hk).2.2.2.2 | exact (hk).1.1.1.1.1 | exact (hk).1.1.1.1.2 | exact (hk).1.1.1.2.1 | exact (hk).1.1.1.2.2 | exact (hk).1.1.2.1.1 | exact (hk).1.1.2.1.2 | exact (hk).1.1.2.2.1 | exact (hk).1.1.2.2.2 | exact (hk).1.2.1.1.1 | exact (hk).1.2.1.1.2 | exact (hk).1.2.1.2.1 | exact (hk).1.2.1.2.2 | exact (hk).1.2.2.1.1 | exact (hk).1.2.2.1.2 | exact (hk).1.2.2.2.1 | exact (hk).1.2.2.2.2 | exact (hk).2.1.1.1.1 | exact (hk).2.1.1.1.2 | exact (hk).2.1.1.2.1 | exact (hk).2.1.1.2.2 | exact (hk).2.1.2.1.1 | exact (hk).2.1.2.1.2 | exact (hk).2.1.2.2.1 | exact (hk).2.1.2.2.2 | exact (hk).2.2.1.1.1 | exact (hk).2.2.1.1.2 | exact (hk).2.2.1.2.1 | exact (hk).2.2.1.2.2 | exact (hk).2.2.2.1.1 | exact (hk).2.2.2.1.2 | exact (hk).2.2.2.2.1 | exact (hk).2.2.2.2.2 | exact (hk).1.1.1.1.1.1 | exact (hk).1.1.1.1.1.2 | exact (hk).1.1.1.1.2.1 | exact (hk).1.1.1.1.2.2 | exact (hk).1.1.1.2.1.1 | exact (hk).1.1.1.2.1.2 | exact (hk).1.1.1.2.2.1 | exact (hk).1.1.1.2.2.2 | exact (hk).1.1.1.1.1.1.1 | exact (hk).1.1.1.1.1.1.2 | exact (hk).1.1.1.1.1.2.1 | exact (hk).1.1.1.1.1.2.2 | exact (hk).1.1.1.1.2.1.1 | exact (hk).1.1.1.1.2.1.2 | exact (hk).1.1.1.1.2.2.1 | exact (hk).1.1.1.1.2.2.2 | exact (hk).1.1.1.1.1.1.1.1 | exact (hk).1.1.1.1.1.1.1.2 | exact (hk).1.1.1.1.1.1.2.1 | exact (hk).1.1.1.1.1.1.2.2 | exact (hk).1.1.1.1.1.2.1.1 | exact (hk).1.1.1.1.1.2.1.2 | exact (hk).1.1.1.1.1.2.2.1 | exact (hk).1.1.1.1.1.2.2.2 | exact (hk).1.1.1.1.1.1.1.1.1 | exact (hk).1.1.1.1.1.1.1.1.2 | exact (hk).1.1.1.1.1.1.1.2.1 | exact (hk).1.1.1.1.1.1.1.2.2 | exact (hk).1.1.1.1.1.1.2.1.1 | exact (hk).1.1.1.1.1.1.2.1.2 | exact (hk).1.1.1.1.1.1.2.2.1 | exact (hk).1.1.1.1.1.1.2.2.2 | exact (hk).1.1.1.1.1.1.1.1.1.1 | exact (hk).1.1.1.1.1.1.1.1.1.2 | exact (hk).1.1.1.1.1.1.1.1.2.1 | exact (hk).1.1.1.1.1.1.1.1.2.2 | exact (hk).1.1.1.1.1.1.1.2.1.1 | exact (hk).1.1.1.1.1.1.1.2.1.2 | exact (hk).1.1.1.1.1.1.1.2.2.1 | exact (hk).1.1.1.1.1.1.1.2.2.2 | exact (hk).1.1.1.1.1.1.1.1.1.1.1 | exact (hk).1.1.1.1.1.1.1.1.1.1.2 | exact (hk).1.1.1.1.1.1.1.1.1.2.1 | exact (hk).1.1.1.1.1.1.1.1.1.2.2 | exact (hk).1.1.1.1.1.1.1.1.2.1.1 | exact (hk).1.1.1.1.1.1.1.1.2.1.2 | exact (hk).1.1.1.1.1.1.1.1.2.2.1 | exact (hk).1.1.1.1.1.1.1.1.2.2.2)))); have n2_ := Aside0.mk (hb); clear HO_3; clear HO_5; clear HB; have HO_3 := n0_; have HO_5 := n1_; have HB := n2_; clear n0_ n1_ n2_; (try clear hb); (try clear hkp); (try clear hy0)) | ((with_reducible refine gate_callee (f := 8) rfl ?_); refine goesL_ (some 38) rfl rfl Tryd.func8 (by kernel_rfl) rfl #[.slice Ao36 t192.length co36, .int .i64 1] rfl (by (try simp only [List.map_toArray, List.map_cons, List.map_nil]); first | done | (rw [show t192.length = t186.length from (Kd.S_reads' HO_5.out).1.symm] <;> rfl) | rfl | (simp only [List.length_drop, List.length_take]; rfl)) ?_; (with_reducible refine (laws_heldInt64SS.calls kj4 _ _ t192 1 t193 _ ?side1 ?side2 A16.out).mono ?_); (case side1 => repeat (first | exact (Kd.S_reads' HO_5.out).2.2 | (with_reducible refine Kd.C_alloc ?_ _) | (with_reducible refine Kd.C_drewN ?_ _) | (with_reducible refine Kd.C_drew ?_))); (case side2 => rw [show t192.length = t186.length from (Kd.S_reads' HO_5.out).1.symm]; exact (Kd.S_reads' HO_5.out).2.1); rintro e w' ⟨rfl, ⟨nd, rfl⟩⟩; refine ⟨_, rfl, ?_⟩))
              go_ret
              exact ⟨by first | rfl | (simp [errW_none, errW_some] <;> rfl) | (simp [*, errW_none, errW_some] <;> rfl), by repeat (first | (with_reducible first | exact HB.out | apply below_alloc | apply pw_below_drewN | apply below_drew1) | exact HB.out)⟩

/-- The pure statement of laws_FnExactReadBags. -/
def laws_FnExactReadBags.Pure : Prop := ∀ (a0 : ByteArray), (a0.size ≤ 140737488351232) → ∃ k, laws_FnExactReadBags.f k a0 = some true
end Go.Proofs.YtlifofigkllpgaaDoor.Q
