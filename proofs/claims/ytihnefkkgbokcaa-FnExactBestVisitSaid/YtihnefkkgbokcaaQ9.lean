-- made by wip/tools/mk.py of this session's repo, by way of the kit's print.py: Lean checks it.
import Derived.Test.YtihnefkkgbokcaaQ0
namespace Go.Proofs.Ytihnefkkgbokcaa.Q
open Go.RowKit Go.Proofs.YtihnefkkgbokcaaW.PrintWords Go.Proofs.YtihnefkkgbokcaaW.PrintLast Go.Proofs.YtihnefkkgbokcaaW.PrintMore Go.Proofs.YtihnefkkgbokcaaMine
attribute [local go_sem] max2_int min2_int max_two min_two max_three min_three max_four min_four   -- for this text's walks alone
set_option linter.unusedVariables false
set_option linter.unusedSimpArgs false

def f0z.l0 : Nat → List Int → List Int → Int → Int → Option (Bool)
 | 0, _, _, _, _ => none
 | k + 1, x0, x1, x12, x13 => if x13 < x12 then (if 0 ≤ x13 then (if x13 < (x0.length : Int) then (if x13 < (x1.length : Int) then (if (rd x0 x13) = (rd x1 x13) then (f0z.l0 k x0 x1 x12 (wrap64 (x13 + 1))) else (some false)) else (none)) else (none)) else (none)) else (some true)
def f0z.f (k : Nat) (l0 : List Int) (l1 : List Int) : Option (Bool) := if (l0.length : Int) = (l1.length : Int) then (f0z.l0 k l0 l1 (l0.length : Int) 0) else (some false)
theorem f0z.mono_l : ∀ k, (∀ y0 y1 y2 y3, LeO (f0z.l0 k y0 y1 y2 y3) (f0z.l0 (k + 1) y0 y1 y2 y3))
 | 0 => fun _ _ _ _ r h => by simp [f0z.l0] at h
 | k + 1 => by
  have ih0 := f0z.mono_l k
  ·intro y0 y1 y2 y3
   unfold f0z.l0
   repeat' first
   | (with_reducible exact ih0 _ _ _ _)
   | (with_reducible exact LeO.refl _)
   | (with_reducible exact LeO.none _)
   | (with_reducible refine LeO.ite ?_ ?_)
   | (with_reducible refine LeO.bind ?_ (fun _ => ?_))
   | exact ih0 _ _ _ _
   | exact LeO.none _
   | refine LeO.ite ?_ ?_
   | refine LeO.bind ?_ (fun _ => ?_)
theorem f0z.mono : ∀ a0 a1 k, LeO (f0z.f k a0 a1) (f0z.f (k + 1) a0 a1) := by
 intro a0 a1 k
 have ih0 := f0z.mono_l k
 unfold f0z.f
 repeat' first
   | (with_reducible exact ih0 _ _ _ _)
   | (with_reducible exact LeO.refl _)
   | (with_reducible exact LeO.none _)
   | (with_reducible refine LeO.ite ?_ ?_)
   | (with_reducible refine LeO.bind ?_ (fun _ => ?_))
   | exact ih0 _ _ _ _
   | exact LeO.none _
   | refine LeO.ite ?_ ?_
   | refine LeO.bind ?_ (fun _ => ?_)
set_option maxHeartbeats 8000000 in
set_option maxRecDepth 100000 in
theorem f0z.calls (k : Nat) (A0 : Option Addr) (c0 : Nat) (l0 : List Int) (A1 : Option Addr) (c1 : Nat) (l1 : List Int) (r : Bool) (w : World) (hr0 : Kd.C (Kd.int .i64) w A0 l0.length l0) (hc0 : l0.length ≤ c0) (hr1 : Kd.C (Kd.int .i64) w A1 l1.length l1) (hc1 : l1.length ≤ c1) (h : f0z.f k l0 l1 = some r) :
  Calls Try.prog 103 #[.slice A0 l0.length c0, .slice A1 l1.length c1] w fun e w' => e = .returned (.bool r) ∧ Drawn0 w w' := by
 have HR0 := Aside0.mk hr0
 have HC0 := Aside0.mk hc0
 clear hr0 hc0
 have HR1 := Aside0.mk hr1
 have HC1 := Aside0.mk hc1
 clear hr1 hc1
 have H : (if (l0.length : Int) = (l1.length : Int) then (f0z.l0 k l0 l1 (l0.length : Int) 0) else (some false)) = some r := h
 clear h
 by_cases c3 : (l0.length : Int) = (l1.length : Int)
 ·rw [if_pos c3] at H
  have c3b0 : ((l0.length : Int) == (l1.length : Int)) = true := beq_iff_eq.mpr c3
  have c3b1 : ((l0.length : Int) != (l1.length : Int)) = false := bne_eq_false_iff_eq.mpr c3
  have c3b2 : (l0.length == l1.length) = true := by first | simpa using c3 | (simp at c3 ⊢; omega)
  clear c3
  have H' := Aside0.mk H
  clear H
  go_enter Try.func103, Try.ntmps103
  go_wp2
  repeat (go_quiet (fail); try go_wp2)
  go_loopg [13] k (fun kq v13 w' => ∃ (x13_1 : Int), v13 = .int .i64 x13_1 ∧ Aside0 (f0z.l0 kq l0 l1 (l0.length : Int) x13_1 = some r) ∧ Aside0 (kq ≤ k) ∧ Drawn0 w w')
  case atStart => exact ⟨(0), (by first | rfl | (simp; done) | (simp [*]; done)), H', ⟨Nat.le_refl _⟩, by repeat (first | exact Drawn0.refl _ | apply Drawn0.step)⟩
  case round =>
   clear H'
   try clear c1
   try clear p2
   try clear c3
   try clear c3b0
   try clear c3b1
   try clear c3b2
   obtain ⟨x13_1, rfl, HA, HK1, ⟨m1, rfl⟩⟩ := hrel
   cases gk with
   | zero => exact absurd HA.out (by simp [f0z.l0])
   | succ k1 =>
    have H := HA.out
    clear HA
    simp only [f0z.l0] at H
    by_cases c4 : x13_1 < (l0.length : Int)
    ·rw [if_pos c4] at H
     have c4b0 : decide (x13_1 < (l0.length : Int)) = true := decide_eq_true c4
     clear c4
     by_cases c5 : 0 ≤ x13_1
     ·rw [if_pos c5] at H
      have c5b0 : decide (0 ≤ x13_1) = true := decide_eq_true c5
      clear c5
      by_cases c6 : x13_1 < (l0.length : Int)
      ·rw [if_pos c6] at H
       have c6b0 : decide (x13_1 < (l0.length : Int)) = true := decide_eq_true c6
       clear c6
       by_cases c7 : x13_1 < (l1.length : Int)
       ·rw [if_pos c7] at H
        have c7b0 : decide (x13_1 < (l1.length : Int)) = true := decide_eq_true c7
        clear c7
        by_cases c8 : (rd l0 x13_1) = (rd l1 x13_1)
        ·rw [if_pos c8] at H
         have c8b0 : ((rd l0 x13_1) == (rd l1 x13_1)) = true := beq_iff_eq.mpr c8
         have c8b1 : ((rd l0 x13_1) != (rd l1 x13_1)) = false := bne_eq_false_iff_eq.mpr c8
         clear c8
         have H' := Aside0.mk H
         clear H
         have p360 : 0 ≤ (x13_1 : Int) := odt_
         have q360 : x13_1 < (l0.length : Int) := odt_
         obtain ⟨ad360, e360, hx360_0⟩ := Kd.at_int HR0.out x13_1 p360 q360
         cases e360
         replace p360 := eq_true p360
         replace q360 := eq_true q360
         have p361 : 0 ≤ (x13_1 : Int) := odt_
         have q361 : x13_1 < (l1.length : Int) := odt_
         obtain ⟨ad361, e361, hx361_0⟩ := Kd.at_int HR1.out x13_1 p361 q361
         cases e361
         replace p361 := eq_true p361
         replace q361 := eq_true q361
         go_wp2
         repeat (go_quiet (fail); try go_wp2)
         go_roundg k1
         case measure => have := HK1.out; omega
         case rel => exact ⟨(wrap64 (x13_1 + 1)), (by first | rfl | (simp; done) | (simp [*]; done)), H', ⟨by have := HK1.out; omega⟩, by repeat (first | exact Drawn0.refl _ | apply Drawn0.step)⟩
        ·rw [if_neg c8] at H
         have c8b0 : ((rd l0 x13_1) == (rd l1 x13_1)) = false := beq_eq_false_iff_ne.mpr c8
         have c8b1 : ((rd l0 x13_1) != (rd l1 x13_1)) = true := bne_iff_ne.mpr c8
         obtain rfl := Option.some.inj H
         have p360 : 0 ≤ (x13_1 : Int) := odt_
         have q360 : x13_1 < (l0.length : Int) := odt_
         obtain ⟨ad360, e360, hx360_0⟩ := Kd.at_int HR0.out x13_1 p360 q360
         cases e360
         replace p360 := eq_true p360
         replace q360 := eq_true q360
         have p361 : 0 ≤ (x13_1 : Int) := odt_
         have q361 : x13_1 < (l1.length : Int) := odt_
         obtain ⟨ad361, e361, hx361_0⟩ := Kd.at_int HR1.out x13_1 p361 q361
         cases e361
         replace p361 := eq_true p361
         replace q361 := eq_true q361
         go_wp2
         repeat (go_quiet (fail); try go_wp2)
         go_ret
         exact ⟨by first | rfl | (simp; done) | (simp [*]; done), by repeat (first | exact Drawn0.refl _ | apply Drawn0.step)⟩
       ·rw [if_neg c7] at H
        exact absurd H (by simp)
      ·rw [if_neg c6] at H
       exact absurd H (by simp)
     ·rw [if_neg c5] at H
      exact absurd H (by simp)
    ·rw [if_neg c4] at H
     have c4b0 : decide (x13_1 < (l0.length : Int)) = false := decide_eq_false c4
     clear c4
     obtain rfl := Option.some.inj H
     go_wp2
     repeat (go_quiet (fail); try go_wp2)
     go_ret
     exact ⟨by first | rfl | (simp; done) | (simp [*]; done), by repeat (first | exact Drawn0.refl _ | apply Drawn0.step)⟩
 ·rw [if_neg c3] at H
  have c3b0 : ((l0.length : Int) == (l1.length : Int)) = false := beq_eq_false_iff_ne.mpr c3
  have c3b1 : ((l0.length : Int) != (l1.length : Int)) = true := bne_iff_ne.mpr c3
  have c3b2 : (l0.length == l1.length) = false := by first | simpa using c3 | (simp at c3 ⊢; omega)
  obtain rfl := Option.some.inj H
  go_enter Try.func103, Try.ntmps103
  go_wp2
  repeat (go_quiet (fail); try go_wp2)
  go_ret
  exact ⟨by first | rfl | (simp; done) | (simp [*]; done), by repeat (first | exact Drawn0.refl _ | apply Drawn0.step)⟩

def impl_isEach.f (k : Nat) (l0 : List Int) (l1 : List Int) : Option (Bool) := if l0.length ≤ 17592186043904 then (f0z.f k (l0.mergeSort fun x y => decide (x ≤ y)) l1) else none
theorem impl_isEach.mono : ∀ a0 a1 k, LeO (impl_isEach.f k a0 a1) (impl_isEach.f (k + 1) a0 a1) := by
 intro a0 a1 k
 unfold impl_isEach.f
 exact LeO.ite (f0z.mono _ _ _) (LeO.none _)
theorem impl_isEach.ints (A0 : Option Addr) (c0 : Nat) (l0 : List Int) (w : World) (h : Kd.C (Kd.int .i64) w A0 l0.length l0) : Iter.Ints w.heap.size w (.slice A0 l0.length c0) l0 := by
 cases hl : l0 with
 | nil => exact .inl ⟨A0, c0, rfl, rfl⟩
 | cons x xs =>
  rw [← hl]
  obtain ⟨_, _, h3⟩ := h
  obtain ⟨ad, rfl, hcell⟩ := h3 (by rw [hl]; simp)
  have hc : ∀ (j : Nat) (y : Int), l0[j]? = some y → w.cell? (ad.add j) = some (.int .i64 y) := by
   intro j y hy
   obtain ⟨c, hs, hk, hcc⟩ := hcell j y hy
   obtain rfl : c = [.int .i64 y] := hk
   have := hcc 0 _ rfl
   simpa [show (Kd.int .i64).sz = 1 from rfl] using this
  have h0 := hc 0 x (by rw [hl]; rfl)
  have hsp : ad.spot = none := by
   have h1 : w.cell? ad = some (.int .i64 x) := by simpa [Addr.add] using h0
   unfold World.cell? at h1
   split at h1
   ·split at h1
    ·cases h1
    ·rename_i hq; cases hsp : ad.spot with
     | none => rfl
     | some s => rw [hsp] at hq; simp at hq
   ·cases h1
  obtain ⟨b, o, sp⟩ := ad
  obtain rfl : sp = none := hsp
  have hc2 : ∀ (j : Nat) (y : Int), l0[j]? = some y → w.cell? ⟨b, o + j, none⟩ = some (.int .i64 y) := by
   intro j y hy
   have := hc j y hy
   unfold Addr.add at this
   by_cases hj : j = 0
   ·subst hj; simpa using this
   ·rw [if_neg hj] at this; exact this
  have hbk : b < w.heap.size := World.block_lt_of_cell? w _ (hc2 0 x (by rw [hl]; rfl))
  exact .inr ⟨b, o, c0, rfl, hbk, fun j hj => by rw [hc2 j l0[j] (List.getElem?_eq_getElem hj), List.getElem?_eq_getElem hj]; rfl⟩
set_option maxHeartbeats 8000000 in
set_option maxRecDepth 100000 in
theorem impl_isEach.calls (k : Nat) (A0 : Option Addr) (c0 : Nat) (l0 : List Int) (A1 : Option Addr) (c1 : Nat) (l1 : List Int) (r : Bool) (w : World) (hr0 : Kd.C (Kd.int .i64) w A0 l0.length l0) (hc0 : l0.length ≤ c0) (hr1 : Kd.C (Kd.int .i64) w A1 l1.length l1) (hc1 : l1.length ≤ c1) (h : impl_isEach.f k l0 l1 = some r) :
  Calls Try.prog 74 #[.slice A0 l0.length c0, .slice A1 l1.length c1] w fun e w' => e = .returned (.bool r) ∧ Below w.heap.size w w' := by
 unfold impl_isEach.f at h
 by_cases hN : l0.length ≤ 17592186043904
 ·rw [if_pos hN] at h
  have hml : (l0.mergeSort fun x y => decide (x ≤ y)).length = l0.length := List.length_mergeSort _
  have hB1 : Below w.heap.size w (w.alloc (.cells #[.slice A0 l0.length c0] 34)) := (Below.refl _ w).alloc (Nat.le_refl _) _
  have hI := impl_isEach.ints A0 c0 l0 _ (Kd.C_below hr0 hB1)
  have hS := Iter.sorted w.heap.size (.slice A0 l0.length c0) l0 (by simp only [maxLen]; omega) (by omega) _ (Go.Boxed.new w 34 (.slice A0 l0.length c0)).cell (by simp) hI
  generalize (l0.mergeSort fun x y => decide (x ≤ y)) = z at h hml hS
  go_enter Try.func74, Try.ntmps74
  go_wp2_with (go_at_call 105; refine (Iter.values A0 l0.length c0 _).mono ?_; rintro e w1 ⟨rfl, rfl⟩)
  refine hS.mono ?_
  rintro e w2 ⟨v, rfl, hrow, hb2⟩
  have hb := hB1.trans (hb2.mono (by simp))
  have hR : Kd.R (Kd.int .i64) 2 w2 _ (fun _ => True) v z := Kd.R_of_own (by rw [hml]; exact hrow) (fun _ _ => trivial)
  obtain ⟨Ao, co, eo⟩ := Kd.R_slice hR
  subst eo
  have hE := f0z.calls k Ao co _ A1 c1 l1 r w2 (Kd.R_reads' hR).2.2 (Kd.R_reads' hR).2.1 (Kd.C_below hr1 hb) hc1 h
  rw [hml] at hE ⊢
  clear hS hI hrow h hR hml
  go_wp2_with (go_at_call 103; refine hE.mono ?_; rintro e w3 ⟨rfl, hd⟩)
  go_ret
  exact ⟨rfl, hb.trans (hd.below.mono hb.size)⟩
 ·rw [if_neg hN] at h; cases h

def impl_bit.f (a0 : Bool) : Option (Int) := if a0 = true then (some 1) else (some 0)
set_option maxHeartbeats 8000000 in
set_option maxRecDepth 100000 in
theorem impl_bit.calls (a0 : Bool) (r : Int) (w : World) (h : impl_bit.f a0 = some r) :
  Calls Try.prog 88 #[.bool a0] w fun e w' => e = .returned (.int .i64 r) ∧ Drawn0 w w' := by
 have H : (if a0 = true then (some 1) else (some 0)) = some r := h
 clear h
 by_cases c2 : a0 = true
 ·subst c2
  have H1 : (some 1) = some r := by rw [if_pos rfl] at H; exact H
  clear H
  have H := H1
  clear H1
  obtain rfl := Option.some.inj H
  go_enter Try.func88, Try.ntmps88
  go_wp2
  go_ret
  exact ⟨by first | rfl | (simp; done) | (simp [*]; done), by repeat (first | exact Drawn0.refl _ | apply Drawn0.step)⟩
 ·replace c2 := Bool.eq_false_iff.mpr c2
  subst c2
  have H1 : (some 0) = some r := by rw [if_neg (show ¬ (false = true) by decide)] at H; exact H
  clear H
  have H := H1
  clear H1
  obtain rfl := Option.some.inj H
  go_enter Try.func88, Try.ntmps88
  go_wp2
  go_ret
  exact ⟨by first | rfl | (simp; done) | (simp [*]; done), by repeat (first | exact Drawn0.refl _ | apply Drawn0.step)⟩

def impl_dig.l0 : Nat → List (S82) → Int → Int → List Int → Bool → List Int → Int → Int → Option (Int × List Int)
 | 0, _, _, _, _, _, _, _, _ => none
 | k + 1, x0, x2, x8, x9, x10, x15, x16, x17 => if x17 < x16 then (if 0 ≤ x17 then (if x17 < (x15.length : Int) then (if 0 ≤ (rd x15 x17) then (if (rd x15 x17) < (x0.length : Int) then (if x10 = true then (if ((wrap64 ((rd_T82 x0 (rd x15 x17)).f0)) = x2) then (impl_dig.l0 k x0 x2 x8 x9 true x15 x16 (wrap64 (x17 + 1))) else (if x9.length < 17592186044416 then ((impl_bit.f true).bind fun t370 => (impl_dig.l0 k x0 x2 (wrap64 (x8 + t370)) (x9 ++ [rd x15 x17]) true x15 x16 (wrap64 (x17 + 1)))) else (none))) else (if ((wrap64 ((rd_T82 x0 (rd x15 x17)).f0)) = x2) then (impl_dig.l0 k x0 x2 x8 x9 ((wrap64 ((rd_T82 x0 (rd x15 x17)).f0)) == x2) x15 x16 (wrap64 (x17 + 1))) else (if x9.length < 17592186044416 then ((impl_bit.f ((wrap64 ((rd_T82 x0 (rd x15 x17)).f0)) == x2)).bind fun t374 => (impl_dig.l0 k x0 x2 (wrap64 (x8 + t374)) (x9 ++ [rd x15 x17]) ((wrap64 ((rd_T82 x0 (rd x15 x17)).f0)) == x2) x15 x16 (wrap64 (x17 + 1)))) else (none)))) else (none)) else (none)) else (none)) else (none)) else (some (x8, x9))
def impl_dig.f (k : Nat) (l0 : List (S82)) (l1 : List Int) (a2 : Int) : Option (Int × List Int) := impl_dig.l0 k l0 a2 0 (([] : List Int)) false l1 (l1.length : Int) 0
theorem impl_dig.mono_l : ∀ k, (∀ y0 y1 y2 y3 y4 y5 y6 y7, LeO (impl_dig.l0 k y0 y1 y2 y3 y4 y5 y6 y7) (impl_dig.l0 (k + 1) y0 y1 y2 y3 y4 y5 y6 y7))
 | 0 => fun _ _ _ _ _ _ _ _ r h => by simp [impl_dig.l0] at h
 | k + 1 => by
  have ih0 := impl_dig.mono_l k
  ·intro y0 y1 y2 y3 y4 y5 y6 y7
   unfold impl_dig.l0
   repeat' first
   | (with_reducible exact ih0 _ _ _ _ _ _ _ _)
   | (with_reducible exact LeO.refl _)
   | (with_reducible exact LeO.none _)
   | (with_reducible refine LeO.ite ?_ ?_)
   | (with_reducible refine LeO.bind ?_ (fun _ => ?_))
   | exact ih0 _ _ _ _ _ _ _ _
   | exact LeO.none _
   | refine LeO.ite ?_ ?_
   | refine LeO.bind ?_ (fun _ => ?_)
theorem impl_dig.mono : ∀ a0 a1 a2 k, LeO (impl_dig.f k a0 a1 a2) (impl_dig.f (k + 1) a0 a1 a2) := by
 intro a0 a1 a2 k
 have ih0 := impl_dig.mono_l k
 unfold impl_dig.f
 repeat' first
   | (with_reducible exact ih0 _ _ _ _ _ _ _ _)
   | (with_reducible exact LeO.refl _)
   | (with_reducible exact LeO.none _)
   | (with_reducible refine LeO.ite ?_ ?_)
   | (with_reducible refine LeO.bind ?_ (fun _ => ?_))
   | exact ih0 _ _ _ _ _ _ _ _
   | exact LeO.none _
   | refine LeO.ite ?_ ?_
   | refine LeO.bind ?_ (fun _ => ?_)
set_option maxHeartbeats 8000000 in
set_option maxRecDepth 100000 in
theorem impl_dig.calls (k : Nat) (A0 : Option Addr) (c0 : Nat) (l0 : List (S82)) (A1 : Option Addr) (c1 : Nat) (l1 : List Int) (a2 : Int) (r1 : Int) (r2 : List Int) (w : World) (hr0 : Kd.C k82 w A0 l0.length l0) (hc0 : l0.length ≤ c0) (hr1 : Kd.C (Kd.int .i64) w A1 l1.length l1) (hc1 : l1.length ≤ c1) (h : impl_dig.f k l0 l1 a2 = some (r1, r2)) :
  Calls Try.prog 77 #[.slice A0 l0.length c0, .slice A1 l1.length c1, .int .i64 a2] w fun e w' => ∃ v1_ : Value, e = .returned (.tuple #[.int .i64 r1, v1_]) ∧ Kd.R (Kd.int .i64) 2 w' w.heap.size (fun _ => True) v1_ r2 ∧ Below w.heap.size w w' := by
 have HR0 := Aside0.mk hr0
 have HC0 := Aside0.mk hc0
 clear hr0 hc0
 have HR1 := Aside0.mk hr1
 have HC1 := Aside0.mk hc1
 clear hr1 hc1
 have HB := Aside0.mk (Below.refl w.heap.size w)
 have H : (impl_dig.l0 k l0 a2 0 (([] : List Int)) false l1 (l1.length : Int) 0) = some (r1, r2) := h
 clear h
 obtain ⟨y362, hy362⟩ : ∃ y_ : List Int, y_ = (([] : List Int)) := ⟨_, rfl⟩
 replace H : (impl_dig.l0 k l0 a2 0 y362 false l1 (l1.length : Int) 0) = some (r1, r2) := by first | (rw [hy362]; with_reducible exact H) | (have H2_ := (Option.bind_some _ _).symm.trans H; rw [hy362]; with_reducible exact H2_) | (have H2_ := (Option.bind_some _ _).symm.trans H; with_reducible exact H2_) | with_reducible exact H | (rw [hy362]; exact H) | exact H
 have Ny362 := Aside0.mk hy362
 clear hy362
 have H' := Aside0.mk H
 clear H
 go_enter Try.func77, Try.ntmps77
 go_wp2_with (first | ((with_reducible refine gate_dst (N := 14) rfl ?_); refine Kd.R_lit (Kd.int .i64) _ 2 ?hg (N := 14) ?hd (xs := ([] : List Int)) (inner := []) (ok := fun _ => True) (okp := fun _ => True) ?hr ?hp (fun _ hk => hk) trivial (Below.refl _ _) (Nat.le_refl _) (by simp) ?_; (case hd => rfl); (case hg => rfl); (case hr => first | (go_simp; done) | (go_simp; rfl)); (case hp => exact (Reps.none _ _)); intro v363 w4 ho5 hb hg_ hnew_; clear hg_ hnew_; (first | rw [← Ny362.out] at ho5 | (simp only [Int.reduceToNat] at ho5; rw [← Ny362.out] at ho5)); have n0_ := Aside0.mk (Kd.R_lower ho5 (below_size (by repeat (first | (with_reducible first | exact HB.out | apply below_alloc | apply pw_below_drewN | apply below_drew1) | exact HB.out)))); have n1_ := Aside0.mk (below_step (by repeat (first | (with_reducible first | exact HB.out | apply below_alloc | apply pw_below_drewN | apply below_drew1) | exact HB.out)) hb); clear HB; have HO364 := n0_; have HB := n1_; clear n0_ n1_; clear hb ho5))
 go_loopg [8, 9, 10, 17] k (fun kq v8 v9 v10 v17 w' => ∃ (x8_1 : Int) (x9_1 : List Int) (x10_1 : Bool) (x17_1 : Int), v8 = .int .i64 x8_1 ∧ v10 = .bool x10_1 ∧ v17 = .int .i64 x17_1 ∧ Aside0 (impl_dig.l0 kq l0 a2 x8_1 x9_1 x10_1 l1 (l1.length : Int) x17_1 = some (r1, r2)) ∧ Aside0 (kq ≤ k) ∧ Aside0 (Kd.R (Kd.int .i64) 2 w' w.heap.size (fun _ => True) v9 x9_1) ∧ Aside0 (Below w.heap.size w w'))
 case atStart => exact ⟨(0), (y362), (false), (0), (by first | rfl | (simp; done) | (simp [*]; done)), (by first | rfl | (simp; done) | (simp [*]; done)), (by first | rfl | (simp; done) | (simp [*]; done)), H', ⟨Nat.le_refl _⟩, ⟨by (with_reducible repeat (first | apply Kd.R_alloc | apply Kd.R_drewN | apply Kd.R_drew)); exact HO364.out⟩, ⟨by repeat (first | (with_reducible first | exact HB.out | apply below_alloc | apply pw_below_drewN | apply below_drew1) | exact HB.out)⟩⟩
 case round =>
  clear H'
  try clear c1
  try clear p2
  obtain ⟨x8_1, x9_1, x10_1, x17_1, rfl, rfl, rfl, HA, HK1, HO_9, HB⟩ := hrel
  cases gk with
  | zero => exact absurd HA.out (by simp [impl_dig.l0])
  | succ k1 =>
   have H := HA.out
   clear HA
   simp only [impl_dig.l0] at H
   by_cases c6 : x17_1 < (l1.length : Int)
   ·rw [if_pos c6] at H
    have c6b0 : decide (x17_1 < (l1.length : Int)) = true := decide_eq_true c6
    clear c6
    by_cases c7 : 0 ≤ x17_1
    ·rw [if_pos c7] at H
     have c7b0 : decide (0 ≤ x17_1) = true := decide_eq_true c7
     clear c7
     by_cases c8 : x17_1 < (l1.length : Int)
     ·rw [if_pos c8] at H
      have c8b0 : decide (x17_1 < (l1.length : Int)) = true := decide_eq_true c8
      clear c8
      by_cases c9 : 0 ≤ (rd l1 x17_1)
      ·rw [if_pos c9] at H
       have c9b0 : decide (0 ≤ (rd l1 x17_1)) = true := decide_eq_true c9
       clear c9
       by_cases c10 : (rd l1 x17_1) < (l0.length : Int)
       ·rw [if_pos c10] at H
        have c10b0 : decide ((rd l1 x17_1) < (l0.length : Int)) = true := decide_eq_true c10
        clear c10
        by_cases c11 : x10_1 = true
        ·subst c11
         have H1 : (if ((wrap64 ((rd_T82 l0 (rd l1 x17_1)).f0)) = a2) then (impl_dig.l0 k1 l0 a2 x8_1 x9_1 true l1 (l1.length : Int) (wrap64 (x17_1 + 1))) else (if x9_1.length < 17592186044416 then ((impl_bit.f true).bind fun t370 => (impl_dig.l0 k1 l0 a2 (wrap64 (x8_1 + t370)) (x9_1 ++ [rd l1 x17_1]) true l1 (l1.length : Int) (wrap64 (x17_1 + 1)))) else (none))) = some (r1, r2) := by rw [if_pos rfl] at H; exact H
         clear H
         have H := H1
         clear H1
         by_cases c12 : ((wrap64 ((rd_T82 l0 (rd l1 x17_1)).f0)) = a2)
         ·rw [if_pos c12] at H
          have c12b0 : ((wrap64 ((rd_T82 l0 (rd l1 x17_1)).f0)) == a2) = true := beq_iff_eq.mpr c12
          have c12b1 : ((wrap64 ((rd_T82 l0 (rd l1 x17_1)).f0)) != a2) = false := bne_eq_false_iff_eq.mpr c12
          clear c12
          have H' := Aside0.mk H
          clear H
          have p365 : 0 ≤ (x17_1 : Int) := odt_
          have q365 : x17_1 < (l1.length : Int) := odt_
          obtain ⟨ad365, e365, hx365_0⟩ := Kd.at_int HR1.out x17_1 p365 q365
          cases e365
          replace hx365_0 := (HB.out.cell (World.block_lt_of_cell? w _ hx365_0)).trans hx365_0
          replace p365 := eq_true p365
          replace q365 := eq_true q365
          have p366 : 0 ≤ ((rd l1 x17_1) : Int) := odt_
          have q366 : (rd l1 x17_1) < (l0.length : Int) := odt_
          obtain ⟨ad366, e366, hx366_0, hx366_1⟩ := at_T82 HR0.out (rd l1 x17_1) p366 q366
          cases e366
          replace hx366_0 := (HB.out.cell (World.block_lt_of_cell? w _ hx366_0)).trans hx366_0
          replace hx366_1 := (HB.out.cell (World.block_lt_of_cell? w _ hx366_1)).trans hx366_1
          replace p366 := eq_true p366
          replace q366 := eq_true q366
          go_wp2
          go_roundg k1
          case measure => have := HK1.out; omega
          case rel => exact ⟨(x8_1), (x9_1), (true), (wrap64 (x17_1 + 1)), (by first | rfl | (simp; done) | (simp [*]; done)), (by first | rfl | (simp; done) | (simp [*]; done)), (by first | rfl | (simp; done) | (simp [*]; done)), H', ⟨by have := HK1.out; omega⟩, ⟨by (with_reducible repeat (first | apply Kd.R_alloc | apply Kd.R_drewN | apply Kd.R_drew)); exact HO_9.out⟩, ⟨by repeat (first | (with_reducible first | exact HB.out | apply below_alloc | apply pw_below_drewN | apply below_drew1) | exact HB.out)⟩⟩
         ·rw [if_neg c12] at H
          have c12b0 : ((wrap64 ((rd_T82 l0 (rd l1 x17_1)).f0)) == a2) = false := beq_eq_false_iff_ne.mpr c12
          have c12b1 : ((wrap64 ((rd_T82 l0 (rd l1 x17_1)).f0)) != a2) = true := bne_iff_ne.mpr c12
          by_cases c13 : x9_1.length < 17592186044416
          ·rw [if_pos c13] at H
           have LMc13 := Aside0.mk c13
           clear c13
           obtain ⟨y367, hy367⟩ : ∃ y_ : List Int, y_ = (x9_1 ++ [rd l1 x17_1]) := ⟨_, rfl⟩
           replace H : ((impl_bit.f true).bind fun t370 => (impl_dig.l0 k1 l0 a2 (wrap64 (x8_1 + t370)) y367 true l1 (l1.length : Int) (wrap64 (x17_1 + 1)))) = some (r1, r2) := by first | (rw [hy367]; with_reducible exact H) | (have H2_ := (Option.bind_some _ _).symm.trans H; rw [hy367]; with_reducible exact H2_) | (have H2_ := (Option.bind_some _ _).symm.trans H; with_reducible exact H2_) | with_reducible exact H | (rw [hy367]; exact H) | exact H
           have Ny367 := Aside0.mk hy367
           clear hy367
           replace H := Option.bind_eq_some_iff.mp H
           obtain ⟨t370, A140, H⟩ := H
           replace H : (impl_dig.l0 k1 l0 a2 (wrap64 (x8_1 + t370)) y367 true l1 (l1.length : Int) (wrap64 (x17_1 + 1))) = some (r1, r2) := H
           have A14 := Aside0.mk A140
           clear A140
           have H' := Aside0.mk H
           clear H
           have p365 : 0 ≤ (x17_1 : Int) := odt_
           have q365 : x17_1 < (l1.length : Int) := odt_
           obtain ⟨ad365, e365, hx365_0⟩ := Kd.at_int HR1.out x17_1 p365 q365
           cases e365
           replace hx365_0 := (HB.out.cell (World.block_lt_of_cell? w _ hx365_0)).trans hx365_0
           replace p365 := eq_true p365
           replace q365 := eq_true q365
           have p366 : 0 ≤ ((rd l1 x17_1) : Int) := odt_
           have q366 : (rd l1 x17_1) < (l0.length : Int) := odt_
           obtain ⟨ad366, e366, hx366_0, hx366_1⟩ := at_T82 HR0.out (rd l1 x17_1) p366 q366
           cases e366
           replace hx366_0 := (HB.out.cell (World.block_lt_of_cell? w _ hx366_0)).trans hx366_0
           replace hx366_1 := (HB.out.cell (World.block_lt_of_cell? w _ hx366_1)).trans hx366_1
           replace p366 := eq_true p366
           replace q366 := eq_true q366
           go_wp2_with (first | ((with_reducible refine gate_builtin (b := .append) (xs := #[.tmp 35, .tmp 37]) rfl ?_); at_builtin; refine Kd.R_append (Kd.int .i64) (w0 := w) w.heap.size rfl (.tmp 35) (.tmp 37) 34 2 (.int .i64 0) 8 rfl Try.underlying34 info2 rfl (by decide) (by omega) u9 x9_1 (rd l1 x17_1) [.int .i64 (rd l1 x17_1)] (fun _ => True) (fun _ => False) rfl rfl ?aP (fun _ hk => hk.elim) ?aF ?aO ?aB ?aS ?aL ?_; (case aP => exact rfl); (case aB => exact (by repeat (first | (with_reducible first | exact HB.out | apply below_alloc | apply pw_below_drewN | apply below_drew1) | exact HB.out))); (case aF => exact (fun _ _ => trivial)); (case aO => exact (by (with_reducible repeat (first | apply Kd.R_alloc | apply Kd.R_drewN | apply Kd.R_drew)); exact HO_9.out)); (case aS => exact (below_size (by repeat (first | (with_reducible first | exact HB.out | apply below_alloc | apply pw_below_drewN | apply below_drew1) | exact HB.out)))); (case aL => have := LMc13.out; omega); intro v368 w15 ho hb hg hat; rw [← Ny367.out] at ho; have n0_ := Aside0.mk (hb); have n1_ := Aside0.mk (ho); clear HB; clear HO_9; have HB := n0_; have HO369 := n1_; clear n0_ n1_; clear ho hb hg hat) | ((with_reducible refine gate_callee (f := 88) rfl ?_); refine goesL_ (some 41) rfl rfl Try.func88 (by kernel_rfl) rfl #[.bool true] rfl (by (try simp only [List.map_toArray, List.map_cons, List.map_nil]); first | done | rfl | (simp only [List.length_drop, List.length_take]; rfl)) ?_; (with_reducible refine (impl_bit.calls true t370 _ A14.out).mono ?_); rintro e w' ⟨rfl, ⟨nd, rfl⟩⟩; refine ⟨_, rfl, ?_⟩))
           go_roundg k1
           case measure => have := HK1.out; omega
           case rel => exact ⟨(wrap64 (x8_1 + t370)), (y367), (true), (wrap64 (x17_1 + 1)), (by first | rfl | (simp; done) | (simp [*]; done)), (by first | rfl | (simp; done) | (simp [*]; done)), (by first | rfl | (simp; done) | (simp [*]; done)), H', ⟨by have := HK1.out; omega⟩, ⟨by (with_reducible repeat (first | apply Kd.R_alloc | apply Kd.R_drewN | apply Kd.R_drew)); exact HO369.out⟩, ⟨by repeat (first | (with_reducible first | exact HB.out | apply below_alloc | apply pw_below_drewN | apply below_drew1) | exact HB.out)⟩⟩
          ·rw [if_neg c13] at H
           exact absurd H (by simp)
        ·replace c11 := Bool.eq_false_iff.mpr c11
         subst c11
         have H1 : (if ((wrap64 ((rd_T82 l0 (rd l1 x17_1)).f0)) = a2) then (impl_dig.l0 k1 l0 a2 x8_1 x9_1 ((wrap64 ((rd_T82 l0 (rd l1 x17_1)).f0)) == a2) l1 (l1.length : Int) (wrap64 (x17_1 + 1))) else (if x9_1.length < 17592186044416 then ((impl_bit.f ((wrap64 ((rd_T82 l0 (rd l1 x17_1)).f0)) == a2)).bind fun t374 => (impl_dig.l0 k1 l0 a2 (wrap64 (x8_1 + t374)) (x9_1 ++ [rd l1 x17_1]) ((wrap64 ((rd_T82 l0 (rd l1 x17_1)).f0)) == a2) l1 (l1.length : Int) (wrap64 (x17_1 + 1)))) else (none))) = some (r1, r2) := by rw [if_neg (show ¬ (false = true) by decide)] at H; exact H
         clear H
         have H := H1
         clear H1
         by_cases c16 : ((wrap64 ((rd_T82 l0 (rd l1 x17_1)).f0)) = a2)
         ·rw [if_pos c16] at H
          have c16b0 : ((wrap64 ((rd_T82 l0 (rd l1 x17_1)).f0)) == a2) = true := beq_iff_eq.mpr c16
          have c16b1 : ((wrap64 ((rd_T82 l0 (rd l1 x17_1)).f0)) != a2) = false := bne_eq_false_iff_eq.mpr c16
          clear c16
          have H' := Aside0.mk H
          clear H
          have p365 : 0 ≤ (x17_1 : Int) := odt_
          have q365 : x17_1 < (l1.length : Int) := odt_
          obtain ⟨ad365, e365, hx365_0⟩ := Kd.at_int HR1.out x17_1 p365 q365
          cases e365
          replace hx365_0 := (HB.out.cell (World.block_lt_of_cell? w _ hx365_0)).trans hx365_0
          replace p365 := eq_true p365
          replace q365 := eq_true q365
          have p366 : 0 ≤ ((rd l1 x17_1) : Int) := odt_
          have q366 : (rd l1 x17_1) < (l0.length : Int) := odt_
          obtain ⟨ad366, e366, hx366_0, hx366_1⟩ := at_T82 HR0.out (rd l1 x17_1) p366 q366
          cases e366
          replace hx366_0 := (HB.out.cell (World.block_lt_of_cell? w _ hx366_0)).trans hx366_0
          replace hx366_1 := (HB.out.cell (World.block_lt_of_cell? w _ hx366_1)).trans hx366_1
          replace p366 := eq_true p366
          replace q366 := eq_true q366
          go_wp2
          go_roundg k1
          case measure => have := HK1.out; omega
          case rel => exact ⟨(x8_1), (x9_1), (((wrap64 ((rd_T82 l0 (rd l1 x17_1)).f0)) == a2)), (wrap64 (x17_1 + 1)), (by first | rfl | (simp; done) | (simp [*]; done)), (by first | rfl | (simp; done) | (simp [*]; done)), (by first | rfl | (simp; done) | (simp [*]; done)), H', ⟨by have := HK1.out; omega⟩, ⟨by (with_reducible repeat (first | apply Kd.R_alloc | apply Kd.R_drewN | apply Kd.R_drew)); exact HO_9.out⟩, ⟨by repeat (first | (with_reducible first | exact HB.out | apply below_alloc | apply pw_below_drewN | apply below_drew1) | exact HB.out)⟩⟩
         ·rw [if_neg c16] at H
          have c16b0 : ((wrap64 ((rd_T82 l0 (rd l1 x17_1)).f0)) == a2) = false := beq_eq_false_iff_ne.mpr c16
          have c16b1 : ((wrap64 ((rd_T82 l0 (rd l1 x17_1)).f0)) != a2) = true := bne_iff_ne.mpr c16
          by_cases c17 : x9_1.length < 17592186044416
          ·rw [if_pos c17] at H
           have LMc17 := Aside0.mk c17
           clear c17
           obtain ⟨y371, hy371⟩ : ∃ y_ : List Int, y_ = (x9_1 ++ [rd l1 x17_1]) := ⟨_, rfl⟩
           replace H : ((impl_bit.f ((wrap64 ((rd_T82 l0 (rd l1 x17_1)).f0)) == a2)).bind fun t374 => (impl_dig.l0 k1 l0 a2 (wrap64 (x8_1 + t374)) y371 ((wrap64 ((rd_T82 l0 (rd l1 x17_1)).f0)) == a2) l1 (l1.length : Int) (wrap64 (x17_1 + 1)))) = some (r1, r2) := by first | (rw [hy371]; with_reducible exact H) | (have H2_ := (Option.bind_some _ _).symm.trans H; rw [hy371]; with_reducible exact H2_) | (have H2_ := (Option.bind_some _ _).symm.trans H; with_reducible exact H2_) | with_reducible exact H | (rw [hy371]; exact H) | exact H
           have Ny371 := Aside0.mk hy371
           clear hy371
           replace H := Option.bind_eq_some_iff.mp H
           obtain ⟨t374, A180, H⟩ := H
           replace H : (impl_dig.l0 k1 l0 a2 (wrap64 (x8_1 + t374)) y371 ((wrap64 ((rd_T82 l0 (rd l1 x17_1)).f0)) == a2) l1 (l1.length : Int) (wrap64 (x17_1 + 1))) = some (r1, r2) := H
           have A18 := Aside0.mk A180
           clear A180
           have H' := Aside0.mk H
           clear H
           have p365 : 0 ≤ (x17_1 : Int) := odt_
           have q365 : x17_1 < (l1.length : Int) := odt_
           obtain ⟨ad365, e365, hx365_0⟩ := Kd.at_int HR1.out x17_1 p365 q365
           cases e365
           replace hx365_0 := (HB.out.cell (World.block_lt_of_cell? w _ hx365_0)).trans hx365_0
           replace p365 := eq_true p365
           replace q365 := eq_true q365
           have p366 : 0 ≤ ((rd l1 x17_1) : Int) := odt_
           have q366 : (rd l1 x17_1) < (l0.length : Int) := odt_
           obtain ⟨ad366, e366, hx366_0, hx366_1⟩ := at_T82 HR0.out (rd l1 x17_1) p366 q366
           cases e366
           replace hx366_0 := (HB.out.cell (World.block_lt_of_cell? w _ hx366_0)).trans hx366_0
           replace hx366_1 := (HB.out.cell (World.block_lt_of_cell? w _ hx366_1)).trans hx366_1
           replace p366 := eq_true p366
           replace q366 := eq_true q366
           go_wp2_with (first | ((with_reducible refine gate_builtin (b := .append) (xs := #[.tmp 35, .tmp 37]) rfl ?_); at_builtin; refine Kd.R_append (Kd.int .i64) (w0 := w) w.heap.size rfl (.tmp 35) (.tmp 37) 34 2 (.int .i64 0) 8 rfl Try.underlying34 info2 rfl (by decide) (by omega) u9 x9_1 (rd l1 x17_1) [.int .i64 (rd l1 x17_1)] (fun _ => True) (fun _ => False) rfl rfl ?aP (fun _ hk => hk.elim) ?aF ?aO ?aB ?aS ?aL ?_; (case aP => exact rfl); (case aB => exact (by repeat (first | (with_reducible first | exact HB.out | apply below_alloc | apply pw_below_drewN | apply below_drew1) | exact HB.out))); (case aF => exact (fun _ _ => trivial)); (case aO => exact (by (with_reducible repeat (first | apply Kd.R_alloc | apply Kd.R_drewN | apply Kd.R_drew)); exact HO_9.out)); (case aS => exact (below_size (by repeat (first | (with_reducible first | exact HB.out | apply below_alloc | apply pw_below_drewN | apply below_drew1) | exact HB.out)))); (case aL => have := LMc17.out; omega); intro v372 w19 ho hb hg hat; rw [← Ny371.out] at ho; have n0_ := Aside0.mk (hb); have n1_ := Aside0.mk (ho); clear HB; clear HO_9; have HB := n0_; have HO373 := n1_; clear n0_ n1_; clear ho hb hg hat) | ((with_reducible refine gate_callee (f := 88) rfl ?_); refine goesL_ (some 41) rfl rfl Try.func88 (by kernel_rfl) rfl #[.bool false] rfl (by (try simp only [List.map_toArray, List.map_cons, List.map_nil]); first | done | rfl | (simp only [List.length_drop, List.length_take]; rfl)) ?_; (with_reducible refine (impl_bit.calls false t374 _ (by have h_ := A18.out; rw [c16b0] at h_; first | exact h_ | (simp only [Bool.not_true, Bool.not_false] at h_; exact h_))).mono ?_); rintro e w' ⟨rfl, ⟨nd, rfl⟩⟩; refine ⟨_, rfl, ?_⟩))
           go_roundg k1
           case measure => have := HK1.out; omega
           case rel => exact ⟨(wrap64 (x8_1 + t374)), (y371), (((wrap64 ((rd_T82 l0 (rd l1 x17_1)).f0)) == a2)), (wrap64 (x17_1 + 1)), (by first | rfl | (simp; done) | (simp [*]; done)), (by first | rfl | (simp; done) | (simp [*]; done)), (by first | rfl | (simp; done) | (simp [*]; done)), H', ⟨by have := HK1.out; omega⟩, ⟨by (with_reducible repeat (first | apply Kd.R_alloc | apply Kd.R_drewN | apply Kd.R_drew)); exact HO373.out⟩, ⟨by repeat (first | (with_reducible first | exact HB.out | apply below_alloc | apply pw_below_drewN | apply below_drew1) | exact HB.out)⟩⟩
          ·rw [if_neg c17] at H
           exact absurd H (by simp)
       ·rw [if_neg c10] at H
        exact absurd H (by simp)
      ·rw [if_neg c9] at H
       exact absurd H (by simp)
     ·rw [if_neg c8] at H
      exact absurd H (by simp)
    ·rw [if_neg c7] at H
     exact absurd H (by simp)
   ·rw [if_neg c6] at H
    have c6b0 : decide (x17_1 < (l1.length : Int)) = false := decide_eq_false c6
    clear c6
    simp only [Option.some.injEq, Prod.mk.injEq] at H
    obtain ⟨rfl, rfl⟩ := H
    go_wp2
    go_ret2
    exact ⟨_, by first | rfl | (simp [errW_none, errW_some] <;> rfl) | (simp [*, errW_none, errW_some] <;> rfl), by (with_reducible repeat (first | apply Kd.R_alloc | apply Kd.R_drewN | apply Kd.R_drew)); exact HO_9.out, by repeat (first | (with_reducible first | exact HB.out | apply below_alloc | apply pw_below_drewN | apply below_drew1) | exact HB.out)⟩

end Go.Proofs.Ytihnefkkgbokcaa.Q
