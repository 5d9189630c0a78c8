-- made by wip/tools/mk.py of this session's repo, by way of the kit's print.py: Lean checks it.
import Derived.Test.YtdeipindfhkioaaQ0
import Derived.Test.YtdeipindfhkioaaQ8
namespace Go.Proofs.Ytdeipindfhkioaa.Q
open Go.RowKit Go.Proofs.YtdeipindfhkioaaW.PrintWords Go.Proofs.YtdeipindfhkioaaW.PrintLast Go.Proofs.YtdeipindfhkioaaW.PrintMore Go.Proofs.YtdeipindfhkioaaMine
attribute [local go_sem] max2_int min2_int max_two min_two max_three min_three max_four min_four   -- for this text's walks alone
set_option linter.unusedVariables false
set_option linter.unusedSimpArgs false

def putL (xs : List Int) : Nat → List Int → List Int
 | _, [] => xs
 | o, y :: ys => putL (xs.set o y) (o + 1) ys
theorem grownBy_set2 {W W1 W2 : World} {r : Option Nat} (h : W.grownBy W1 r) (h2 : W1.grownBy W2 r) : W.grownBy W2 r :=
 ⟨h2.os.trans h.os, h2.tape.trans h.tape, h2.output.trans h.output, Nat.le_trans h.size h2.size, fun k hk hr => (h2.block k (Nat.lt_of_lt_of_le hk h.size) hr).trans (h.block k hk hr)⟩
theorem rp_cells {e base g n cap : Nat} {ok : Nat → Prop} : ∀ (ys : List Int) (o : Nat) (xs : List Int) (W : World), (Kd.int .i64).R e W base ok (.slice (some ⟨g, 0, none⟩) n cap) xs →
  (Kd.int .i64).R e (W.setCells g o (ys.map (.int .i64))) base ok (.slice (some ⟨g, 0, none⟩) n cap) (putL xs o ys) ∧ W.grownBy (W.setCells g o (ys.map (.int .i64))) (some g)
 | [], o, xs, W, h => ⟨h, ⟨rfl, rfl, rfl, Nat.le_refl _, fun _ _ _ => rfl⟩⟩
 | y :: ys, o, xs, W, h => by
  obtain ⟨h1, h2⟩ := Kd.R_putg h (o : Int) y
  rw [Int.toNat_natCast] at h1 h2
  obtain ⟨h3, h4⟩ := rp_cells ys (o + 1) (xs.set o y) _ h1
  exact ⟨h3, grownBy_set2 h2 h4⟩
/-- What copy leaves in a row behind place i, and how many it takes. -/
def cpy (xs ys : List Int) (i : Nat) : List Int := putL xs i (ys.take (Nat.min ys.length (xs.length - i)))
def cpyN (xs ys : List Int) (i : Nat) : Int := ((Nat.min ys.length (xs.length - i) : Nat) : Int)
section
variable {P : Program} {ops : Array Oper} {rest : List Oper} {o : Oper} {a : Act} {Q : Exit → Act → World → Prop} {w0 W : World} {base : Nat} {ok : Nat → Prop} {v : Value} {xs ys : List Int} {e ty : Nat}
theorem rp_run (hu : P.underlying ty = some (.slice e)) (hz : (P.info? e).map (·.size) = some 1) (t : TypeId) {D S : Option Addr} {dc sc i : Nat}
  (HO : (Kd.int .i64).R e W base ok v xs) (HS : Kd.C (Kd.int .i64) W S ys.length ys) (hD : ∀ g cap, v = .slice (some ⟨g, 0, none⟩) xs.length cap → 0 < xs.length - i → D = some ⟨g, i, none⟩) (HB : Below base w0 W) (hbase : base ≤ W.heap.size) :
  ∃ w1, (Builtin.copy_ #[ty, ty] t #[.slice D (xs.length - i) dc, .slice S ys.length sc]).run P W = .ok (.int .i64 (cpyN xs ys i)) w1 ∧ (Kd.int .i64).R e w1 base ok v (cpy xs ys i) ∧ Below base w0 w1 ∧ W.grownBy w1 v.ownBlock := by
 rcases Nat.eq_zero_or_pos (Nat.min ys.length (xs.length - i)) with h0 | hp
 ·refine ⟨W, ?_, ?_, HB, World.grownBy.refl W _⟩
  ·have := run_copy_none (P := P) W ty ty t e D S (xs.length - i) dc ys.length sc hu hz h0
   unfold cpyN
   rw [h0]; exact this
  ·unfold cpy
   rw [h0, List.take_zero]; exact HO
 ·have hp' : 0 < ys.length ∧ 0 < xs.length - i := by
   have h1 := Nat.min_le_left ys.length (xs.length - i)
   have h2 := Nat.min_le_right ys.length (xs.length - i)
   have h3 : Nat.min ys.length (xs.length - i) = min ys.length (xs.length - i) := rfl
   omega
  obtain ⟨g, cap, rfl, hg, hgw, cells, hcells⟩ := Kd.R_form HO (by omega)
  obtain rfl := hD g cap rfl hp'.2
  obtain ⟨sa, rfl, _⟩ := Kd.at_int HS 0 (by omega) (by omega)
  have hmin : (ys.take (Nat.min ys.length (xs.length - i))).length = Nat.min ys.length (xs.length - i) := by
   rw [List.length_take]; exact Nat.min_eq_left (Nat.min_le_left _ _)
  obtain ⟨h1, h2⟩ := rp_cells (ys.take (Nat.min ys.length (xs.length - i))) i xs W HO
  refine ⟨_, ?_, h1, HB.grown h2 hbase (fun k hk => by cases hk; exact hg), h2⟩
  have hrun := run_copy_cells (P := P) W ty ty t e g i (xs.length - i) dc sa ys.length sc ((ys.take (Nat.min ys.length (xs.length - i))).map (.int .i64)) hu hz (by rw [List.length_map, hmin])
   (fun j v hj => by
    rw [List.getElem?_map] at hj
    obtain ⟨y, hy, rfl⟩ := Option.map_eq_some_iff.1 hj
    have hjl : j < ys.length := by
     have := (List.getElem?_eq_some_iff.1 hy).1
     rw [hmin] at this
     exact Nat.lt_of_lt_of_le this (Nat.min_le_left _ _)
    obtain ⟨ad, he, hc⟩ := Kd.at_int HS (j : Int) (by omega) (by omega)
    injection he with he
    subst he
    rw [Int.toNat_natCast] at hc
    rw [hc]
    unfold rd
    rw [Int.toNat_natCast, List.getD_eq_getElem?_getD]
    rw [List.getElem?_take] at hy
    split at hy
    ·rw [hy]; rfl
    ·cases hy)
   (fun j hj => by
    rw [List.length_map, hmin] at hj
    have := Nat.min_le_right ys.length (xs.length - i)
    have hc := (Kd.R_celln 0 HO ((i + j : Nat) : Int) (by omega) (by have : Nat.min ys.length (xs.length - i) ≤ xs.length - i := Nat.min_le_right _ _; omega)).1
    rw [Int.toNat_natCast] at hc
    rw [hc]; rfl)
   (fun j hj => by
    rw [List.length_map, hmin] at hj
    have hc := (Kd.R_celln 0 HO ((i + j : Nat) : Int) (by omega) (by have : Nat.min ys.length (xs.length - i) ≤ xs.length - i := Nat.min_le_right _ _; omega)).2
    rw [Int.toNat_natCast] at hc
    exact hc)
   (fun v hv => by
    obtain ⟨y, _, rfl⟩ := List.mem_map.1 hv
    rfl)
  rw [List.length_map, hmin] at hrun
  exact hrun
theorem rp_copy (hu : P.underlying ty = some (.slice e)) (hz : (P.info? e).map (·.size) = some 1) (hgd : o.guard = none) (d s : Operand) (ho : o.op = .call { callee := .builtin .copy, args := #[d, s], argTypes := #[ty, ty] }) {D S : Option Addr} {dn dc sn sc i : Nat} (hd : a.eval d = .slice D dn dc) (hs : a.eval s = .slice S sn sc)
  (HO : (Kd.int .i64).R e W base ok v xs) (HS : Kd.C (Kd.int .i64) W S ys.length ys) (hdn : dn = xs.length - i) (hsn : sn = ys.length) (hD : ∀ g cap, v = .slice (some ⟨g, 0, none⟩) xs.length cap → 0 < xs.length - i → D = some ⟨g, i, none⟩) (HB : Below base w0 W) (hbase : base ≤ W.heap.size)
  (h : ∀ w1, (Kd.int .i64).R e w1 base ok v (cpy xs ys i) → Below base w0 w1 → W.grownBy w1 v.ownBlock → wpList P ops Q rest (a.put o.dst (.int .i64 (cpyN xs ys i))) w1) : wpList P ops Q (o :: rest) a W := by
 subst hdn hsn
 obtain ⟨w1, hrun, h1, h2, h3⟩ := rp_run hu hz o.type HO HS hD HB hbase (dc := dc) (sc := sc)
 refine wpList_plain hgd fun K hK => ?_
 unfold Oper.wp execOp
 simp only [ho, resolve, invoke, builtin, Sem.run_bind, Sem.run_pure, Result.andThen_ok, List.map_toArray, List.map_cons, List.map_nil, hd, hs, hrun]
 exact hK _ _ (h w1 h1 h2 h3)
theorem rp_copy_step {Kc : Act → World → Prop} (hw : Region.wanted o (yielded ops a.tmps) = true) (hu : P.underlying ty = some (.slice e)) (hz : (P.info? e).map (·.size) = some 1) (d s : Operand) (ho : o.op = .call { callee := .builtin .copy, args := #[d, s], argTypes := #[ty, ty] }) {D S : Option Addr} {dn dc sn sc i : Nat} (hd : a.eval d = .slice D dn dc) (hs : a.eval s = .slice S sn sc)
  (HO : (Kd.int .i64).R e W base ok v xs) (HS : Kd.C (Kd.int .i64) W S ys.length ys) (hdn : dn = xs.length - i) (hsn : sn = ys.length) (hD : ∀ g cap, v = .slice (some ⟨g, 0, none⟩) xs.length cap → 0 < xs.length - i → D = some ⟨g, i, none⟩) (HB : Below base w0 W) (hbase : base ≤ W.heap.size)
  (h : ∀ w1, (Kd.int .i64).R e w1 base ok v (cpy xs ys i) → Below base w0 w1 → W.grownBy w1 v.ownBlock → Kc (a.put o.dst (.int .i64 (cpyN xs ys i))) w1) :
  if Region.wanted o (yielded ops a.tmps) = true then Oper.wp P o a W Kc Q else Kc (a.put o.dst undef) W := by
 subst hdn hsn
 obtain ⟨w1, hrun, h1, h2, h3⟩ := rp_run hu hz o.type HO HS hD HB hbase (dc := dc) (sc := sc)
 rw [if_pos hw]
 unfold Oper.wp execOp
 simp only [ho, resolve, invoke, builtin, Sem.run_bind, Sem.run_pure, Result.andThen_ok, List.map_toArray, List.map_cons, List.map_nil, hd, hs, hrun]
 exact h w1 h1 h2 h3
end
theorem putL_len : ∀ (ys : List Int) (o : Nat) (xs : List Int), (putL xs o ys).length = xs.length
 | [], _, _ => rfl
 | y :: ys, o, xs => by unfold putL; rw [putL_len ys, List.length_set]
theorem cpy_len (xs ys : List Int) (i : Nat) : (cpy xs ys i).length = xs.length := putL_len _ _ _
mutual
def f10z.j0 : Nat → List Int → Int → Bool → Option (List Int)
 | 0, _, _, _ => none
 | k + 1, x0, x6, x26 => if x26 = true then (none) else (if 0 ≤ (wrap64 (x6)) then (if (wrap64 (x6) : Int).toNat ≤ 35184372088832 then (f10z.l0 k (cpy (List.replicate (wrap64 (x6) : Int).toNat 0) x0 0) (cpyN (List.replicate (wrap64 (x6) : Int).toNat 0) x0 0)) else (none)) else (none))
def f10z.l0 : Nat → List Int → Int → Option (List Int)
 | 0, _, _ => none
 | k + 1, x7, x8 => if x8 < (x7.length : Int) then (if 0 ≤ x8 then (if x8 ≤ (x7.length : Int) then (f10z.l0 k (cpy x7 (x7.take (x8 : Int).toNat) (x8 : Int).toNat) (wrap64 (x8 + (cpyN x7 (x7.take (x8 : Int).toNat) (x8 : Int).toNat)))) else (none)) else (none)) else (some x7)
end
def f10z.f (k : Nat) (l0 : List Int) (a1 : Int) : Option (List Int) := if a1 < 0 then (none) else ((bits_Mul.f (IntKind.u64.wrap ((l0.length : Int))) (IntKind.u64.wrap (a1))).bind fun bt311 => (if bt311.1 > 0 then (f10z.j0 k l0 bt311.2 true) else (f10z.j0 k l0 bt311.2 (decide (bt311.2 > 9223372036854775807)))))
theorem f10z.mono_l : ∀ k, (∀ y0 y1 y2, LeO (f10z.j0 k y0 y1 y2) (f10z.j0 (k + 1) y0 y1 y2)) ∧ (∀ y0 y1, LeO (f10z.l0 k y0 y1) (f10z.l0 (k + 1) y0 y1))
 | 0 => ⟨fun _ _ _ r h => by simp [f10z.j0] at h, fun _ _ r h => by simp [f10z.l0] at h⟩
 | k + 1 => by
  obtain ⟨ih0, ih1⟩ := f10z.mono_l k
  refine ⟨?_, ?_⟩ <;> intros <;> (first | unfold f10z.j0 | unfold f10z.l0) <;> repeat' first
  | (with_reducible exact ih0 _ _ _)
  | (with_reducible exact ih1 _ _)
  | (with_reducible exact LeO.refl _)
  | (with_reducible exact LeO.none _)
  | (with_reducible refine LeO.ite ?_ ?_)
  | (with_reducible refine LeO.bind ?_ (fun _ => ?_))
  | exact ih0 _ _ _
  | exact ih1 _ _
  | exact LeO.none _
  | refine LeO.ite ?_ ?_
  | refine LeO.bind ?_ (fun _ => ?_)
theorem f10z.mono : ∀ a0 a1 k, LeO (f10z.f k a0 a1) (f10z.f (k + 1) a0 a1) := by
 intro a0 a1 k
 obtain ⟨ih0, ih1⟩ := f10z.mono_l k
 unfold f10z.f
 repeat' first
   | (with_reducible exact ih0 _ _ _)
   | (with_reducible exact ih1 _ _)
   | (with_reducible exact LeO.refl _)
   | (with_reducible exact LeO.none _)
   | (with_reducible refine LeO.ite ?_ ?_)
   | (with_reducible refine LeO.bind ?_ (fun _ => ?_))
   | exact ih0 _ _ _
   | exact ih1 _ _
   | exact LeO.none _
   | refine LeO.ite ?_ ?_
   | refine LeO.bind ?_ (fun _ => ?_)
def f10z.T9 : Bool × List (List Nat × List Nat) := (true, [([], []), ([], []), ([], []), ([1, 2], [1, 2]), ([], []), ([], []), ([4, 5], [4, 5]), ([3, 6], [3, 6]), ([0, 7], [0, 7]), ([8, 7, 0, 1, 2, 3, 4, 5, 6, 7, 8], [0, 2, 5, 8])])
def f10z.B9 : List Nat := [0, 0, 0, 6, 0, 0, 48, 126, 255, 511]
theorem f10z.tab9 : rtab .any (opsOf Try.f122 9) = f10z.T9 := by kernel_rfl
theorem f10z.bits9 : waitsOk f10z.T9.2 f10z.B9 = true := by kernel_rfl
set_option maxHeartbeats 8000000 in
set_option maxRecDepth 100000 in
theorem f10z.calls (k : Nat) (A0 : Option Addr) (c0 : Nat) (l0 : List Int) (a1 : Int) (r : List Int) (w : World) (hr0 : Kd.C (Kd.int .i64) w A0 l0.length l0) (hc0 : l0.length ≤ c0) (h : f10z.f k l0 a1 = some r) :
  Calls Try.prog 122 #[.slice A0 l0.length c0, .int .i64 a1] w fun e w' => ∃ v0_ : Value, e = .returned (v0_) ∧ Kd.R (Kd.int .i64) 2 w' w.heap.size (fun _ => True) v0_ r ∧ Below w.heap.size w w' := by
 have HR0 := Aside0.mk hr0
 have HC0 := Aside0.mk hc0
 clear hr0 hc0
 have HB := Aside0.mk (Below.refl w.heap.size w)
 have H : (if a1 < 0 then (none) else ((bits_Mul.f (IntKind.u64.wrap ((l0.length : Int))) (IntKind.u64.wrap (a1))).bind fun bt311 => (if bt311.1 > 0 then (f10z.j0 k l0 bt311.2 true) else (f10z.j0 k l0 bt311.2 (decide (bt311.2 > 9223372036854775807)))))) = some r := h
 clear h
 by_cases c3 : a1 < 0
 ·rw [if_pos c3] at H
  exact absurd H (by simp)
 ·rw [if_neg c3] at H
  have c3b0 : decide (a1 < 0) = false := decide_eq_false c3
  clear c3
  replace H := Option.bind_eq_some_iff.mp H
  obtain ⟨⟨t311, t312⟩, A40, H⟩ := H
  replace H : (if t311 > 0 then (f10z.j0 k l0 t312 true) else (f10z.j0 k l0 t312 (decide (t312 > 9223372036854775807)))) = some r := H
  have A4 := Aside0.mk A40
  clear A40
  have HC5 := Aside0.mk H
  clear H
  go_enter Try.func122, Try.ntmps122
  go_upto_region 4 with (first | ((with_reducible refine gate_callee (f := 126) rfl ?_); refine goesL_ (some 18) rfl rfl Try.func126 (by kernel_rfl) rfl #[.int .u64 (IntKind.u64.wrap ((l0.length : Int))), .int .u64 (IntKind.u64.wrap (a1))] rfl (by simp only [List.map_toArray, List.map_cons, List.map_nil]; try rfl) ?_; (with_reducible refine (bits_Mul.calls (IntKind.u64.wrap ((l0.length : Int))) (IntKind.u64.wrap (a1)) t311 t312 _ A4.out).mono ?_); rintro e w' ⟨rfl, ⟨nd, rfl⟩⟩; refine ⟨_, rfl, ?_⟩))
  (try simp only [Act.put, sA_, sZ_, sS_])
  go_cut [26] (fun v26 wc => ∃ (kq : Nat) (x26_4 : Bool), v26 = .bool x26_4 ∧ Aside0 (f10z.j0 kq l0 t312 x26_4 = some r) ∧ Aside0 (kq ≤ k) ∧ Aside0 (Below w.heap.size w wc))
  case first =>
   have H := HC5.out
   clear HC5
   by_cases c6 : t311 > 0
   ·rw [if_pos c6] at H
    have c6b0 : decide (0 < t311) = true := decide_eq_true c6
    clear c6
    (first | rw [c6b0] | (simp only [i64_w, i32_w]; rw [c6b0]) | skip)
    have H' := Aside0.mk H
    clear H
    go_wp2
    go_meet
    case rel => exact ⟨_, (true), (by first | rfl | (simp; done) | (simp [*]; done)), H', ⟨by first | omega | exact Nat.le_refl _⟩, ⟨by repeat (first | (with_reducible first | exact HB.out | apply below_alloc | apply pw_below_drewN | apply below_drew1) | exact HB.out)⟩⟩
   ·rw [if_neg c6] at H
    have c6b0 : decide (0 < t311) = false := decide_eq_false c6
    clear c6
    (first | rw [c6b0] | (simp only [i64_w, i32_w]; rw [c6b0]) | skip)
    have H' := Aside0.mk H
    clear H
    go_wp2
    go_meet
    case rel => exact ⟨_, (decide (t312 > 9223372036854775807)), (by first | rfl | (simp; done) | (simp [*]; done)), H', ⟨by first | omega | exact Nat.le_refl _⟩, ⟨by repeat (first | (with_reducible first | exact HB.out | apply below_alloc | apply pw_below_drewN | apply below_drew1) | exact HB.out)⟩⟩
  case rest =>
   clear HC5
   try clear c1
   try clear p2
   try clear c3
   try clear c3b0
   try clear c6
   try clear c6b0
   obtain ⟨kq, x26_4, rfl, HA, HJ4, HB⟩ := hcut
   cases kq with
   | zero => exact absurd HA.out (by simp [f10z.j0])
   | succ kj4 =>
    have H := HA.out
    clear HA
    simp only [f10z.j0] at H
    by_cases c7 : x26_4 = true
    ·subst c7
     have H1 : (none) = some r := by rw [if_pos rfl] at H; exact H
     clear H
     have H := H1
     clear H1
     exact absurd H (by simp)
    ·replace c7 := Bool.eq_false_iff.mpr c7
     subst c7
     have H1 : (if 0 ≤ (wrap64 (t312)) then (if (wrap64 (t312) : Int).toNat ≤ 35184372088832 then (f10z.l0 kj4 (cpy (List.replicate (wrap64 (t312) : Int).toNat 0) l0 0) (cpyN (List.replicate (wrap64 (t312) : Int).toNat 0) l0 0)) else (none)) else (none)) = some r := by rw [if_neg (show ¬ (false = true) by decide)] at H; exact H
     clear H
     have H := H1
     clear H1
     obtain ⟨ji8, hji8⟩ : ∃ j_ : Int, (wrap64 (t312)) = j_ := ⟨_, rfl⟩
     replace H : (if 0 ≤ (ji8) then (if (ji8 : Int).toNat ≤ 35184372088832 then (f10z.l0 kj4 (cpy (List.replicate (ji8 : Int).toNat 0) l0 0) (cpyN (List.replicate (ji8 : Int).toNat 0) l0 0)) else (none)) else (none)) = some r := by first | (rw [hji8] at H; exact H) | (simp only [hji8] at H ⊢; exact H)
     have hji8w : (IntKind.i64.wrap (t312)) = ji8 := (i64_w _).trans hji8
     by_cases c9 : 0 ≤ (ji8)
     rotate_left
     ·rw [if_neg c9] at H; exact absurd H (by simp)
     rw [if_pos c9] at H
     have c9b0 := eq_true c9
     have c9b1 : decide (0 ≤ (ji8)) = true := decide_eq_true c9
     clear c9
     by_cases c10 : (ji8 : Int).toNat ≤ 35184372088832
     rotate_left
     ·rw [if_neg c10] at H; exact absurd H (by simp)
     rw [if_pos c10] at H
     have c10b0 := eq_true c10
     have c10b1 : decide ((ji8 : Int).toNat ≤ 35184372088832) = true := decide_eq_true c10
     clear c10
     obtain ⟨y313, hy313⟩ : ∃ y_ : List Int, y_ = (List.replicate (ji8 : Int).toNat 0) := ⟨_, rfl⟩
     replace H : (f10z.l0 kj4 (cpy y313 l0 0) (cpyN y313 l0 0)) = some r := by rw [hy313]; exact H
     have Ny313 := Aside0.mk hy313
     clear hy313
     have H' := Aside0.mk H
     clear H
     go_wp2_with (first | ((with_reducible refine gate_dst (N := 30) rfl ?_); refine Kd.R_make (Kd.int .i64) _ 2 rfl (N := 30) rfl 34 _ _ rfl ji8 rfl rfl Try.underlying34 (.int .i64 0) 8 info2 rfl (by decide) (by omega) 0 (ok := fun _ => True) (okp := fun _ => True) rfl (fun _ hk => hk) trivial (of_decide_eq_true (by assumption)) (Nat.le_trans (Nat.mul_le_mul_right _ (of_decide_eq_true (by assumption) : ji8.toNat ≤ 35184372088832)) (by omega)) (Below.refl _ _) (Nat.le_refl _) ?_; intro v314 w11 ho12 hb hg_ hnew_; clear hg_ hnew_; (first | rw [← Ny313.out] at ho12 | (simp only [Int.reduceToNat] at ho12; rw [← Ny313.out] at ho12)); have HO315 := Aside0.mk (Kd.R_lower ho12 (below_size HB.out)); replace HB := Aside0.mk (below_step HB.out hb); clear hb ho12; obtain ⟨Ao12, co12, eo12⟩ := Kd.R_slice HO315.out; subst eo12) | ((with_reducible refine gate_builtin (b := .copy) (xs := #[.tmp 31, .tmp 32]) rfl ?_); refine rp_copy (w0 := w) (base := w.heap.size) (ok := fun _ => True) Try.underlying34 (by obtain ⟨i_, h_, _, hz_, _⟩ := info_parts info2; rw [h_]; exact congrArg some hz_) rfl (.tmp 31) (.tmp 32) rfl rfl rfl HO315.out (by repeat (first | exact Kd.C_below HR0.out HB.out | (with_reducible refine Kd.C_alloc ?_ _) | (with_reducible refine Kd.C_drewN ?_ _) | (with_reducible refine Kd.C_drew ?_))) rfl rfl (fun g cap_ he_ hp_ => by cases he_; rfl) HB.out (below_size HB.out) ?_; intro w13 ho hb hg; clear hg; have n0_ := Aside0.mk ho; have n1_ := Aside0.mk hb; clear HO315 HB; have HO315 := n0_; have HB := n1_; clear n0_ n1_ ho hb))
     go_loopg [8] kj4 (fun kq v8 w' => ∃ (x7_2 : List Int) (x8_2 : Int), v8 = .int .i64 x8_2 ∧ Aside0 (x7_2.length = y313.length) ∧ Aside0 (f10z.l0 kq x7_2 x8_2 = some r) ∧ Aside0 (kq ≤ kj4) ∧ Aside0 (Kd.R (Kd.int .i64) 2 w' w.heap.size (fun _ => True) (.slice Ao12 y313.length co12) x7_2) ∧ Aside0 (Below w.heap.size w w'))
     case atStart => exact ⟨(cpy y313 l0 0), (cpyN y313 l0 0), rfl, ⟨cpy_len _ _ _⟩, H', ⟨Nat.le_refl _⟩, ⟨HO315.out⟩, ⟨HB.out⟩⟩
     case round =>
      clear H'
      try clear c1
      try clear p2
      try clear c3
      try clear c3b0
      try clear c6
      try clear c6b0
      try clear p6
      try clear c7
      try clear c9
      try clear c9b0
      try clear c9b1
      try clear c10
      try clear c10b0
      try clear c10b1
      try clear c12
      try clear p2
      obtain ⟨x7_2, x8_2, rfl, HLN, HA, HK2, HO_7, HB⟩ := hrel
      cases gk with
      | zero => exact absurd HA.out (by simp [f10z.l0])
      | succ k2 =>
       have H := HA.out
       clear HA
       simp only [f10z.l0] at H
       rw [HLN.out] at H
       by_cases c13 : x8_2 < (y313.length : Int)
       ·rw [if_pos c13] at H
        have c13b0 : decide (x8_2 < (y313.length : Int)) = true := decide_eq_true c13
        clear c13
        by_cases c14 : 0 ≤ x8_2
        rotate_left
        ·rw [if_neg c14] at H; exact absurd H (by simp)
        rw [if_pos c14] at H
        have c14b0 := eq_true c14
        have c14b1 : decide (0 ≤ x8_2) = true := decide_eq_true c14
        clear c14
        by_cases c15 : x8_2 ≤ (y313.length : Int)
        rotate_left
        ·rw [if_neg c15] at H; exact absurd H (by simp)
        rw [if_pos c15] at H
        have c15b0 := eq_true c15
        have c15b1 : decide (x8_2 ≤ (y313.length : Int)) = true := decide_eq_true c15
        clear c15
        obtain ⟨y316, hy316⟩ : ∃ y_ : List Int, y_ = (x7_2.drop (x8_2 : Int).toNat) := ⟨_, rfl⟩
        replace H : (f10z.l0 k2 (cpy x7_2 (x7_2.take (x8_2 : Int).toNat) (x8_2 : Int).toNat) (wrap64 (x8_2 + (cpyN x7_2 (x7_2.take (x8_2 : Int).toNat) (x8_2 : Int).toNat)))) = some r := by first | (rw [hy316]; with_reducible exact H) | (have H2_ := (Option.bind_some _ _).symm.trans H; rw [hy316]; with_reducible exact H2_) | (have H2_ := (Option.bind_some _ _).symm.trans H; with_reducible exact H2_) | with_reducible exact H | (rw [hy316]; exact H) | exact H
        have Ny316 := Aside0.mk hy316
        clear hy316
        have c16b0 := eq_true (of_decide_eq_true (by assumption) : 0 ≤ x8_2)
        have c17b0 := eq_true (of_decide_eq_true (by assumption) : x8_2 ≤ (y313.length : Int))
        obtain ⟨y320, hy320⟩ : ∃ y_ : List Int, y_ = (x7_2.take (x8_2 : Int).toNat) := ⟨_, rfl⟩
        replace H : (f10z.l0 k2 (cpy x7_2 y320 (x8_2 : Int).toNat) (wrap64 (x8_2 + (cpyN x7_2 y320 (x8_2 : Int).toNat)))) = some r := by rw [hy320]; exact H
        have Ny320 := Aside0.mk hy320
        clear hy320
        obtain ⟨y324, hy324⟩ : ∃ y_ : List Int, y_ = (cpy x7_2 y320 (x8_2 : Int).toNat) := ⟨_, rfl⟩
        replace H : (f10z.l0 k2 y324 (wrap64 (x8_2 + (cpyN x7_2 y320 (x8_2 : Int).toNat)))) = some r := by rw [hy324]; exact H
        have Ny324 := Aside0.mk hy324
        clear hy324
        have H' := Aside0.mk H
        clear H
        try go_wp2
        replace HO_7 := Aside0.mk (Kd.R_drew HO_7.out)
        replace HB := Aside0.mk (below_drew1 HB.out)
        have q20 : (x8_2 : Int) ≤ ((y313.length : Int) : Int) := of_decide_eq_true (by assumption)
        obtain ⟨i020, hi020, _, hsz20, _⟩ := info_parts info2
        have hroom20 : y313.length ≤ co12 := (Kd.R_reads' HO_7.out).2.1
        have hC20 : Kd.C (Kd.int .i64) _ Ao12 x7_2.length x7_2 := (Kd.R_reads' HO_7.out).2.2
        have q020 : (0 : Int) ≤ (x8_2 : Int) := of_decide_eq_true (by assumption)
        have hcut20 := cut_from (P := Try.prog) 34 2 .i64 Try.underlying34 hi020 1 hsz20 Ao12 y313.length co12 x8_2 q020 q20
        have hr20 := Kd.C_drop (m := (x8_2 : Int).toNat) (c := co12) hC20 (by have := HLN.out; omega) (by rw [HLN.out]; exact hroom20)
        obtain ⟨A20, hA20⟩ : ∃ A1, A1 = (if co12 = (x8_2 : Int).toNat then Ao12 else (Ao12 : Option Addr).map (·.add ((x8_2 : Int).toNat * 1))) := ⟨_, rfl⟩
        obtain ⟨c20, hc20⟩ : ∃ c1, c1 = co12 - (x8_2 : Int).toNat := ⟨_, rfl⟩
        have hy20 : y316.length = y313.length - (x8_2 : Int).toNat := (by have hln_ := HLN.out; rw [Ny316.out, List.length_drop] <;> omega)
        rw [show (x7_2).drop (x8_2 : Int).toNat = y316 from Ny316.out.symm] at hr20
        replace hr20 : Kd.C (Kd.int .i64) _ A20 y316.length y316 := (by rw [hA20]; exact hr20)
        rw [← hy20, ← hA20, ← hc20] at hcut20
        have HR319 := Aside0.mk hr20
        have HC319 := Aside0.mk (show y316.length ≤ c20 from by rw [hy20, hc20]; exact Nat.sub_le_sub_right hroom20 _)
        clear hr20 hC20 hroom20 hi020 hsz20 hc20
        have KY20 := Aside0.mk hy20
        have KA20 := Aside0.mk hA20
        clear hy20 hA20
        have KL20 := Aside0.mk (show (x8_2 : Int).toNat ≤ y313.length from by omega)
        replace q20 := eq_true q20
        have q21 : (x8_2 : Int) ≤ ((y313.length : Int) : Int) := of_decide_eq_true (by assumption)
        obtain ⟨i021, hi021, _, hsz21, _⟩ := info_parts info2
        have hroom21 : y313.length ≤ co12 := (Kd.R_reads' HO_7.out).2.1
        have hC21 : Kd.C (Kd.int .i64) _ Ao12 x7_2.length x7_2 := (Kd.R_reads' HO_7.out).2.2
        have hcut21 := cut_to (P := Try.prog) 34 2 .i64 Try.underlying34 hi021 Ao12 y313.length co12 x8_2 (of_decide_eq_true (by assumption)) q21 hroom21
        have hr21 := Kd.C_take (m := (x8_2 : Int).toNat) hC21 (by have := HLN.out; omega)
        have hy21 : y320.length = (x8_2 : Int).toNat := (by have hln_ := HLN.out; rw [Ny320.out, List.length_take]; omega)
        rw [← Ny320.out] at hr21
        rw [← hy21] at hcut21
        have HR323 := Aside0.mk hr21
        have HC323 := Aside0.mk (show y320.length ≤ co12 from by omega)
        clear hr21 hC21 hroom21 hi021 hsz21
        have KY21 := Aside0.mk hy21
        clear hy21
        have KL21 := Aside0.mk (show (x8_2 : Int).toNat ≤ y313.length from by omega)
        replace q21 := eq_true q21
        refine start_ (n := 10) (S := fun w' => True) (ds := []) #[false, false, false, false, false, false, false, false, false, false] (by kernel_rfl) rfl rfl trivial (fun hHeld => ?_); refine with_tabW f10z.tab9 f10z.bits9 (fun HT_ HW_ => ?_)
        generalize wr.drew = w19 at HO_7 HB HR319 HR323 hHeld ⊢
        refine pu_ (i := 0) (N := some 38) (v := ?_) (a' := ?_) rfl rfl (any_of HT_.out (by kernel_rfl)) (fun _ _ _ h => h) (Or.inl ⟨by rfl, ?_⟩) ?_ ?_
        rotate_left; intro w'; go_simp; with_reducible rfl; rotate_left; simp only [Act.put, sA_, sZ_, sS_, i64_w, i32_w]; rfl
        refine pu_ (i := 1) (N := some 39) (v := ?_) (a' := ?_) rfl rfl (any_of HT_.out (by kernel_rfl)) (fun _ _ _ h => h) (Or.inl ⟨by rfl, ?_⟩) ?_ ?_
        rotate_left; intro w'; go_simp; with_reducible rfl; rotate_left; simp only [Act.put, sA_, sZ_, sS_, i64_w, i32_w]; rfl
        refine pu_ (i := 2) (N := some 40) (v := ?_) (a' := ?_) rfl rfl (any_of HT_.out (by kernel_rfl)) (fun _ _ _ h => h) (Or.inl ⟨by rfl, ?_⟩) ?_ ?_
        rotate_left; intro w'; go_simp; with_reducible rfl; rotate_left; simp only [Act.put, sA_, sZ_, sS_, i64_w, i32_w]; rfl
        refine pu_ (i := 3) (N := some 41) (v := ?_) (a' := ?_) rfl rfl (any_of HT_.out (by kernel_rfl)) (fun _ _ _ h => h) (Or.inl ⟨by rfl, ?_⟩) ?_ ?_
        rotate_left; intro w'; go_simp; with_reducible rfl; rotate_left; simp only [Act.put, sA_, sZ_, sS_, i64_w, i32_w]; rfl
        refine pu_ (i := 4) (N := some 42) (v := ?_) (a' := ?_) rfl rfl (any_of HT_.out (by kernel_rfl)) (fun _ _ _ h => h) (Or.inl ⟨by rfl, ?_⟩) ?_ ?_
        rotate_left; intro w'; go_simp; with_reducible rfl; rotate_left; simp only [Act.put, sA_, sZ_, sS_, i64_w, i32_w]; rfl
        refine pu_ (i := 5) (N := some 43) (v := ?_) (a' := ?_) rfl rfl (any_of HT_.out (by kernel_rfl)) (fun _ _ _ h => h) (Or.inl ⟨by rfl, ?_⟩) ?_ ?_
        rotate_left; intro w'; go_simp; with_reducible rfl; rotate_left; simp only [Act.put, sA_, sZ_, sS_, i64_w, i32_w]; rfl
        refine pu_ (i := 6) (N := some 44) (v := ?_) (a' := ?_) rfl rfl (any_of HT_.out (by kernel_rfl)) (fun _ _ _ h => h) (Or.inl ⟨by rfl, ?_⟩) ?_ ?_
        rotate_left; intro w'; go_simp; with_reducible rfl; rotate_left; simp only [Act.put, sA_, sZ_, sS_, i64_w, i32_w]; rfl
        refine on_ (i := 7) (N := some 45) rfl rfl (one_of HT_.out (by kernel_rfl)) (by decide) (fun K hK => ?_)
        refine rp_copy_step (w0 := w) (base := w.heap.size) (ok := fun _ => True) (by rfl) Try.underlying34 (by obtain ⟨i_, h_, _, hz_, _⟩ := info_parts info2; rw [h_]; exact congrArg some hz_) (.tmp 41) (.tmp 44) rfl rfl rfl HO_7.out (by repeat (first | exact HR323.out | (with_reducible refine Kd.C_alloc ?_ _) | (with_reducible refine Kd.C_drewN ?_ _) | (with_reducible refine Kd.C_drew ?_))) (KY20.out.trans (by rw [HLN.out])) rfl (fun g cap_ he_ hp_ => by have h_ := KA20.out; have hr_ := (Kd.R_reads' HO_7.out).2.1; injection he_ with ea_ en_ ec_; subst ea_; subst ec_; have hln_ := HLN.out; rw [if_neg (by omega)] at h_; rw [h_, Nat.mul_one, Option.map_some, add_at, Nat.zero_add]) HB.out (below_size HB.out) ?_
        intro w22 ho hb hg
        rw [← Ny324.out] at ho
        replace HO_7 := Aside0.mk (ho)
        replace HB := Aside0.mk (hb)
        clear ho hb hg
        refine hK.out _ _ trivial (fun hHeld => ?_)
        clear hK K
        refine norm_ (a' := ?_) ?_ ?_
        rotate_left
        ·show Act.put _ (some 45) _ = _
         simp only [Act.put, sA_, sZ_, sS_, i64_w, i32_w]
         rfl
        refine pu_ (i := 8) (N := some 46) (v := ?_) (a' := ?_) rfl rfl (any_of HT_.out (by kernel_rfl)) (fun _ _ _ h => h) (Or.inl ⟨by rfl, ?_⟩) ?_ ?_
        rotate_left; intro w'; go_simp; with_reducible rfl; rotate_left; simp only [Act.put, sA_, sZ_, sS_, i64_w, i32_w]; rfl
        refine pu_ (i := 9) (N := some 8) (v := ?_) (a' := ?_) rfl rfl (any_of HT_.out (by kernel_rfl)) (fun _ _ _ h => h) (Or.inl ⟨by rfl, ?_⟩) ?_ ?_
        rotate_left; intro w'; go_simp; with_reducible rfl; rotate_left; simp only [Act.put, sA_, sZ_, sS_, i64_w, i32_w]; rfl
        refine done_ (done_of HT_.out (by kernel_rfl)) ?_
        try go_wp2
        go_roundg k2
        case measure => have := HJ4.out; have := HK2.out; omega
        case rel => exact ⟨y324, (wrap64 (x8_2 + (cpyN x7_2 y320 (x8_2 : Int).toNat))), rfl, ⟨(by rw [Ny324.out]; exact (cpy_len _ _ _).trans HLN.out)⟩, H', ⟨by have := HJ4.out; have := HK2.out; omega⟩, ⟨HO_7.out⟩, ⟨HB.out⟩⟩
       ·rw [if_neg c13] at H
        have c13b0 : decide (x8_2 < (y313.length : Int)) = false := decide_eq_false c13
        clear c13
        obtain rfl := Option.some.inj H
        go_wp2
        go_ret
        exact ⟨_, rfl, HO_7.out, HB.out⟩
def impl_endless.f (k : Nat) (l0 : List Int) : Option (List Int × List Int) := (f10z.f k (([1099511627776] : List Int)) (l0.length : Int)).bind fun t315 => (some (l0, t315))
theorem impl_endless.mono : ∀ a0 k, LeO (impl_endless.f k a0) (impl_endless.f (k + 1) a0) := by
 intro a0 k
 unfold impl_endless.f
 repeat' first
   | (with_reducible exact f10z.mono _ _ _)
   | (with_reducible exact LeO.refl _)
   | (with_reducible exact LeO.none _)
   | (with_reducible refine LeO.ite ?_ ?_)
   | (with_reducible refine LeO.bind ?_ (fun _ => ?_))
   | exact f10z.mono _ _ _
   | exact LeO.none _
   | refine LeO.ite ?_ ?_
   | refine LeO.bind ?_ (fun _ => ?_)
set_option maxHeartbeats 8000000 in
set_option maxRecDepth 100000 in
theorem impl_endless.calls (k : Nat) (P0_ : Nat → Prop) (A0 : Option Addr) (c0 : Nat) (l0 : List Int) (r1 : List Int) (r2 : List Int) (w : World) (hs0 : Kd.V (Kd.int .i64) 2 w w.heap.size (fun k_ => P0_ k_) (.slice A0 l0.length c0) l0) (h : impl_endless.f k l0 = some (r1, r2)) :
  Calls Try.prog 117 #[.slice A0 l0.length c0] w fun e w' => ∃ v0_ v1_ : Value, e = .returned (.agg #[v0_, v1_]) ∧ Kd.V (Kd.int .i64) 2 w' w.heap.size (fun k_ => (P0_ k_ ∨ w.heap.size ≤ k_) ∧ some k_ ≠ (v1_ : Value).ownBlock) v0_ r1 ∧ Kd.R (Kd.int .i64) 2 w' w.heap.size (fun k_ => (w.heap.size ≤ k_)) v1_ r2 ∧ Below w.heap.size w w' := by
 have hu118 := Try.underlying118
 have HO0 := Aside0.mk (show Kd.V (Kd.int .i64) 2 w w.heap.size (fun k_ => (P0_ k_ ∨ w.heap.size ≤ k_)) (.slice A0 l0.length c0) l0 from Kd.V_mono hs0 (fun k_ hk => .inl hk))
 have HB := Aside0.mk (Below.refl w.heap.size w)
 have H : ((f10z.f k (([1099511627776] : List Int)) (l0.length : Int)).bind fun t315 => (some (l0, t315))) = some (r1, r2) := h
 clear h
 obtain ⟨y312, hy312⟩ : ∃ y_ : List Int, y_ = (([1099511627776] : List Int)) := ⟨_, rfl⟩
 replace H : ((f10z.f k y312 (l0.length : Int)).bind fun t315 => (some (l0, t315))) = some (r1, r2) := by rw [hy312]; exact H
 have Ny312 := Aside0.mk hy312
 clear hy312
 replace H := Option.bind_eq_some_iff.mp H
 obtain ⟨t315, A20, H⟩ := H
 replace H : (some (l0, t315)) = some (r1, r2) := H
 have A2 := Aside0.mk A20
 clear A20
 simp only [Option.some.injEq, Prod.mk.injEq] at H
 obtain ⟨rfl, rfl⟩ := H
 go_enter Try.func117, Try.ntmps117
 go_wp2_with (first | ((with_reducible refine gate_dst (N := 2) rfl ?_); refine box_event ?hg (N := 2) ?hd (cs := #[.slice none 0 0, .slice none 0 0]) (t := 118) ?hr ?_; (case hd => rfl); (case hg => rfl); (case hr => go_simp; try rfl); intro gb311 hg w3 hbox hb; replace HO0 := Aside0.mk (Kd.V_below (Kd.V_elderB HO0.out gb311 (Nat.le_of_eq hg.symm)) hb); have BK311 := Aside0.mk (hbox); have GW311 := Aside0.mk ((by rw [hg]; exact (below_size HB.out) : w.heap.size ≤ gb311)); have GE311 := Aside0.mk ((by rw [hg]; exact (below_size HB.out) : w.heap.size ≤ gb311)); replace HB := Aside0.mk (below_step HB.out hb); clear hb hbox hg) | ((with_reducible refine gate_dst (N := 4) rfl ?_); refine Kd.R_lit (Kd.int .i64) _ 2 ?hg (N := 4) ?hd (xs := ([1099511627776] : List Int)) (inner := [.int .i64 1099511627776]) (ok := fun _ => True) (okp := fun _ => True) ?hr ?hp (fun _ hk => hk) trivial (Below.refl _ _) (Nat.le_refl _) (by simp) ?_; (case hd => rfl); (case hg => rfl); (case hr => go_simp; try rfl); (case hp => exact (Reps.one (show Kd.M (Kd.int .i64) _ _ _ 1099511627776 [.int .i64 1099511627776] from rfl) (Reps.none _ _))); intro v313 w4 ho5 hb hg_ hnew_; clear hg_ hnew_; (first | rw [← Ny312.out] at ho5 | (simp only [Int.reduceToNat] at ho5; rw [← Ny312.out] at ho5)); replace HO0 := Aside0.mk (Kd.V_elder' HO0.out (Kd.R_base ho5) hb); have HO314 := Aside0.mk (Kd.R_lower (Kd.R_newM (M := fun k_ => (w.heap.size ≤ k_)) ho5 (below_size HB.out) (fun k_ h_ => h_)) (below_size HB.out)); replace BK311 := Aside0.mk (blk_below (g := gb311) (o := .cells #[.slice none 0 0, .slice none 0 0] 118 (0, 0)) BK311.out hb); replace HB := Aside0.mk (below_step HB.out hb); clear hb ho5; obtain ⟨Ao6, co6, eo6⟩ := Kd.R_slice HO314.out; subst eo6) | ((with_reducible refine gate_callee (f := 122) rfl ?_); refine goesL_ (some 7) rfl rfl Try.func122 (by kernel_rfl) rfl #[.slice Ao6 y312.length co6, .int .i64 (l0.length : Int)] rfl (by simp only [List.map_toArray, List.map_cons, List.map_nil]; try rfl) ?_; (with_reducible refine (f10z.calls k _ _ y312 (l0.length : Int) t315 _ ?side1 ?side2 A2.out).mono ?_); (case side1 => exact (Kd.R_reads' HO314.out).2.2); (case side2 => exact (Kd.R_reads' HO314.out).2.1); rintro e w7 ⟨v316, rfl, ho0, hb⟩; refine ⟨_, rfl, ?_⟩; replace HO0 := Aside0.mk (Kd.V_elder' HO0.out (Kd.R_base ho0) hb); have HO317 := Aside0.mk (Kd.R_lower (Kd.R_new' (Kd.R_newM (M := fun k_ => (w.heap.size ≤ k_)) ho0 (below_size HB.out) (fun k_ h_ => h_)) (Kd.R_lt HO314.out)) (below_size HB.out)); replace HO314 := Aside0.mk (Kd.R_elder' HO314.out (Kd.R_base ho0) hb); replace BK311 := Aside0.mk (blk_below (g := gb311) (o := .cells #[.slice none 0 0, .slice none 0 0] 118 (0, 0)) BK311.out hb); replace HB := Aside0.mk (below_step HB.out hb); obtain ⟨Ao8, co8, eo8⟩ := Kd.R_slice HO317.out; subst eo8; have hcz9_0 : w7.cell? ⟨gb311, 0, none⟩ = some (.slice none 0 0) := (blk_cell BK311.out 0).trans rfl; have hcz9_1 : w7.cell? ⟨gb311, 1, none⟩ = some (.slice none 0 0) := (blk_cell BK311.out 1).trans rfl; have hfz9_0 := blk_frozen BK311.out 0; have hfz9_1 := blk_frozen BK311.out 1))
 refine bodyPost_ret (results_cell_row rfl _ _ gb311 118 #[.slice A0 l0.length c0, .slice Ao8 t315.length co8] (0, 0) _ rfl (by (with_reducible repeat (first | refine blk_drewN ?_ _ | refine blk_drew ?_ | refine blk_alloc ?_ _)); refine blk_put (cs := #[.slice A0 l0.length c0, .slice none 0 0]) ?_ 1 _ rfl; (with_reducible repeat (first | refine blk_drewN ?_ _ | refine blk_drew ?_ | refine blk_alloc ?_ _)); refine blk_put (cs := #[.slice none 0 0, .slice none 0 0]) ?_ 0 _ rfl; (with_reducible repeat (first | refine blk_drewN ?_ _ | refine blk_drew ?_ | refine blk_alloc ?_ _)); exact BK311.out) Try.underlying118 rfl (by kernel_rfl)) rfl ?_
 exact ⟨_, _, by first | rfl | (simp [errW_none, errW_some] <;> rfl) | (simp [*, errW_none, errW_some] <;> rfl), by (with_reducible repeat (first | apply Kd.V_alloc | apply Kd.V_drewN | apply Kd.V_drew)); exact Kd.V_mono (Kd.V_far (p := ⟨gb311, 1, none⟩) (Kd.V_far (p := ⟨gb311, 0, none⟩) (Kd.V_mono HO0.out (fun k_ hk => (⟨hk, hk.1.1.2⟩ : _ ∧ k_ ≠ gb311))) (fun _ hk => hk.2) (.slice A0 l0.length c0)) (fun _ hk => hk.2) (.slice Ao8 t315.length co8)) (fun _ hk => ⟨hk.1.1.1.1, hk.1.2⟩), by (with_reducible repeat (first | apply Kd.R_alloc | apply Kd.R_drewN | apply Kd.R_drew)); exact Kd.R_mono (Kd.R_far (p := ⟨gb311, 1, none⟩) (Kd.R_far (p := ⟨gb311, 0, none⟩) (Kd.R_types HO317.out BK311.out (by decide)) (fun _ hk => hk.2) (.slice A0 l0.length c0)) (fun _ hk => hk.2) (.slice Ao8 t315.length co8)) (fun _ hk => hk.1.1.1), by repeat (first | (with_reducible first | exact HB.out | apply below_alloc | apply pw_below_drewN | apply below_drew1 | refine below_set ?_ GE311.out) | exact HB.out)⟩

end Go.Proofs.Ytdeipindfhkioaa.Q
