-- made by wip/tools/mk.py of this session's repo, by way of the kit's print.py: Lean checks it.
import Derived.Test.YtdeipindfhkioaaDoorQ0
import Derived.Test.YtdeipindfhkioaaDoorQ5
namespace Go.Proofs.YtdeipindfhkioaaDoor.Q
open Go.RowKit Go.Proofs.YtdeipindfhkioaaDoorW.PrintWords Go.Proofs.YtdeipindfhkioaaDoorW.PrintLast Go.Proofs.YtdeipindfhkioaaDoorW.PrintMore Go.Proofs.YtdeipindfhkioaaDoorMine
attribute [local go_sem] max2_int min2_int max_two min_two max_three min_three max_four min_four   -- for this text's walks alone
set_option linter.unusedVariables false
set_option linter.unusedSimpArgs false

/-- A line without its end. -/
def lnTrim (z : ByteArray) : ByteArray := ⟨(Lib.trimSuffix (lnLine z).data.toList (⟨#[10]⟩ : ByteArray).data.toList).toArray⟩
theorem lnLine_le (z : ByteArray) : (lnLine z).size ≤ z.size := by
 unfold lnLine
 split
 ·rename_i h
  have := ln_lt z h
  rw [ByteArray.size_extract]; omega
 ·exact Nat.le_refl _
def lnOwn (l : List Int) : List Int := l.map (fun n => IntKind.i16.wrap n)
def impl_ReadTable.l0 : Nat → ByteArray → ByteArray → Bool → List Int → List (List Int) → Option (List Int × List (List Int) × Int)
 | 0, _, _, _, _, _ => none
 | k + 1, s, z, st, x0, x1 => if z.size = 0 then (if s.toList = ([] : List UInt8) then (some ([], [], 5)) else ((impl_TableText.f k x0 x1).bind fun t => (if t.toList = s.toList then (some (x0, x1, 0)) else (some ([], [], 5))))) else ((impl_fields.f k (lnTrim z) (⟨#[32]⟩ : ByteArray) 10000).bind fun bt => (if bt.2 = true then (if bt.1.length ≤ 4294967296 then (if st = true then (if x1.length < 5864062014805 then (impl_ReadTable.l0 k s (lnRest z) true x0 (x1 ++ [lnOwn bt.1])) else (none)) else (impl_ReadTable.l0 k s (lnRest z) true (lnOwn bt.1) x1)) else (none)) else (some ([], [], 5))))
def impl_ReadTable.f (k : Nat) (a0 : ByteArray) : Option (List Int × List (List Int) × Int) := if a0.size ≤ 281474976710656 then (impl_ReadTable.l0 k a0 a0 false [] []) else none
theorem impl_ReadTable.mono_l : ∀ k, (∀ y0 y1 y2 y3 y4, LeO (impl_ReadTable.l0 k y0 y1 y2 y3 y4) (impl_ReadTable.l0 (k + 1) y0 y1 y2 y3 y4))
 | 0 => fun _ _ _ _ _ r h => by simp [impl_ReadTable.l0] at h
 | k + 1 => by
  have ih0 := impl_ReadTable.mono_l k
  intro y0 y1 y2 y3 y4
  unfold impl_ReadTable.l0
  repeat' first
   | (with_reducible exact ih0 _ _ _ _ _)
   | (with_reducible exact impl_TableText.mono _ _ _)
   | (with_reducible exact impl_fields.mono _ _ _ _)
   | (with_reducible exact LeO.refl _)
   | (with_reducible exact LeO.none _)
   | (with_reducible refine LeO.ite ?_ ?_)
   | (with_reducible refine LeO.bind ?_ (fun _ => ?_))
theorem impl_ReadTable.mono : ∀ a0 k, LeO (impl_ReadTable.f k a0) (impl_ReadTable.f (k + 1) a0) := by
 intro a0 k
 unfold impl_ReadTable.f
 exact LeO.ite (impl_ReadTable.mono_l k _ _ _ _ _) (LeO.none _)
theorem getD_ge_ {α : Type} {l : List α} {i : Nat} {z : α} (h : i < l.length) : l[i]? = some (l.getD i z) := by
 rw [List.getD_eq_getElem?_getD, List.getElem?_eq_getElem h]; rfl
theorem Kd.R_some {d : Kd Int} {e : Nat} {w : World} {base : Nat} {ok : Nat → Prop} {A : Option Addr} {n c : Nat} {xs : List Int} (hx : 0 < xs.length) (h : d.R e w base ok (.slice A n c) xs) : ∃ ad, A = some ad := by
 obtain ⟨h1, h2, _, _, h3⟩ := Kd.R_reads' h
 obtain ⟨ad, rfl, _⟩ := h3 (by omega)
 exact ⟨ad, rfl⟩
theorem results_cell2 {fn : Func} {p q : Tmp} {ty ty2 : TypeId} (h : fn.results = #[.cell p ty, .cell q ty2]) (tmps : Array Value) (P : Program) (w : World) :
  (results fn tmps).run P w =
   ((asAddr (tmps.getD p undef)).run P w).andThen fun a w₁ => ((loadVar ty a).run P w₁).andThen fun v w₂ => ((asAddr (tmps.getD q undef)).run P w₂).andThen fun a2 w₃ => ((loadVar ty2 a2).run P w₃).andThen fun v2 w₄ => .ok (.tuple #[v, v2]) w₄ := by
 simp only [results, h]
 simp [Sem.run_bind, Result.andThen]
theorem rt_results {tmps : Array Value} {B2 B3 : Nat} {W : World} {u0 u1 : Value} {n : Int} (h2 : tmps.getD 2 undef = .pointer (some ⟨B2, 0, none⟩)) (h3 : tmps.getD 3 undef = .pointer (some ⟨B3, 0, none⟩)) (b2 : W.heap[B2]? = some (.cells #[u0, u1] 28 (0, 0))) (b3 : W.heap[B3]? = some (.cells #[.int .i64 n] 2 (0, 0))) (v0 : ∃ A n c, u0 = .slice A n c) (v1 : ∃ A n c, u1 = .slice A n c) : (results Tryd.f11 tmps).run Tryd.prog W = .ok (.tuple #[.agg #[u0, u1], .int .i64 n]) W := by
 obtain ⟨A0, n0, c0, rfl⟩ := v0
 obtain ⟨A1, n1, c1, rfl⟩ := v1
 have hu28 := Tryd.underlying28
 have e0 : W.cell? ⟨B2, 0, none⟩ = some (.slice A0 n0 c0) := (blk_cell b2 0).trans rfl
 have e1 : W.cell? ⟨B2, 1, none⟩ = some (.slice A1 n1 c1) := (blk_cell b2 1).trans rfl
 have e2 : W.cell? ⟨B3, 0, none⟩ = some (.int .i64 n) := (blk_cell b3 0).trans rfl
 rw [results_cell2 (show Tryd.f11.results = #[.cell 2 28, .cell 3 2] from rfl), h2, h3]
 go_simp
set_option maxRecDepth 100000 in
theorem rt_end {w W : World} {tmps : Array Value} {B2 B3 D : Nat} {u0 u1 : Value} {r1 : List Int} {r2 : List (List Int)} {r3 : Int} (t2 : tmps.getD 2 undef = .pointer (some ⟨B2, 0, none⟩)) (t3 : tmps.getD 3 undef = .pointer (some ⟨B3, 0, none⟩)) (b2 : W.heap[B2]? = some (.cells #[u0, u1] 28 (0, 0))) (b3 : W.heap[B3]? = some (.cells #[.int .i64 r3] 2 (0, 0))) (hD : W.heap[D]? = some (.deferred (some []))) (hDw : w.heap.size ≤ D)
  (h3 : Kd.R (Kd.int .i16) 49 W (D + 1) (fun _ => True) u0 r1) (h4 : Kd.S (Kd.slice 49 (Kd.int .i16)) 22 W (D + 1) (fun k_ => some k_ ≠ (u0 : Value).ownBlock) u1 r2) (hB : Below w.heap.size w W) :
  bodyPostM Fence.wide 8 Tryd.prog Tryd.f11 (fun e w' => ∃ v0_ v1_ : Value, e = .returned (.tuple #[.agg #[v0_, v1_], .int .i64 r3]) ∧ Kd.R (Kd.int .i16) 49 w' w.heap.size (fun _ => True) v0_ r1 ∧ Kd.S (Kd.slice 49 (Kd.int .i16)) 22 w' w.heap.size (fun k_ => some k_ ≠ (v0_ : Value).ownBlock) v1_ r2 ∧ Below w.heap.size w w') .ret { tmps := tmps, defers := [{ target := .collected D, args := #[] }] } W := by
 have hne2 : B2 ≠ D := by rintro rfl; rw [hD] at b2; cases b2
 have hne3 : B3 ≠ D := by rintro rfl; rw [hD] at b3; cases b3
 refine ⟨by simp, .inl ⟨_, _, rfl, run_takeDeferred hD, ?_⟩⟩
 refine ⟨_, rt_results t2 t3 ((World.putObj_heap_other hne2).trans b2) ((World.putObj_heap_other hne3).trans b3) ?_ ?_, u0, u1, rfl, ?_, ?_, ?_⟩
 ·obtain ⟨A, c, e⟩ := Kd.R_slice h3; exact ⟨A, _, c, e⟩
 ·obtain ⟨A, c, e⟩ := Kd.S_slice h4; exact ⟨A, _, c, e⟩
 ·exact Kd.R_lower (Kd.R_mono (Kd.R_step (Kd.R_bound h3) (fun k hk _ => World.putObj_heap_other (by have := hk.2.1; omega))) (fun _ _ => trivial)) (by omega)
 ·exact Kd.S_lower (Kd.S_mono (Kd.S_step (Kd.S_bound h4) (fun k hk _ => World.putObj_heap_other (by have := hk.2.1; omega))) (fun _ hk => hk.1)) (by omega)
 ·exact hB.grown (grownBy_putObj' _ _ _) hB.size (fun k e => by cases e; exact hDw)
/-- Between two lines: what the table's box holds, and what is still to be told. -/
def RtI (w : World) (s : ByteArray) (r : List Int × List (List Int) × Int) (B2 B3 B4 N : Nat) (z : ByteArray) (W : World) : Prop :=
 ∃ (kq : Nat) (st : Bool) (x0 : List Int) (x1 : List (List Int)) (u0 u1 : Value), impl_ReadTable.l0 kq s z st x0 x1 = some r ∧ ((st = false ∧ u0 = .slice none 0 0) ∨ (st = true ∧ ∃ ad n c, u0 = .slice (some ad) n c)) ∧ Kd.R (Kd.int .i16) 49 W N (fun _ => True) u0 x0 ∧ Kd.S (Kd.slice 49 (Kd.int .i16)) 22 W N (fun k_ => some k_ ≠ (u0 : Value).ownBlock) u1 x1 ∧ W.heap[B4]? = some (.cells #[u0, u1] 28 (0, 0)) ∧ W.heap[B2]? = some (.cells #[.slice none 0 0, .slice none 0 0] 28 (0, 0)) ∧ W.heap[B3]? = some (.cells #[.int .i64 0] 2 (0, 0)) ∧ Below w.heap.size w W
/-- A line has been no line of numbers. -/
def RtX (w : World) (r : List Int × List (List Int) × Int) (B2 B3 : Nat) (W : World) : Prop :=
 r = ([], [], 5) ∧ W.heap[B2]? = some (.cells #[.slice none 0 0, .slice none 0 0] 28 (0, 0)) ∧ W.heap[B3]? = some (.cells #[.int .i64 5] 2 (0, 0)) ∧ Below w.heap.size w W
theorem RtI.grown {w : World} {s z : ByteArray} {r : List Int × List (List Int) × Int} {B2 B3 B4 N : Nat} {A B : World} {row : Option Nat} (h : RtI w s r B2 B3 B4 N z A) (hg : A.grownBy B row) (hr : ∀ k, row = some k → k < N ∧ k ≠ B2 ∧ k ≠ B3 ∧ k ≠ B4 ∧ w.heap.size ≤ k) : RtI w s r B2 B3 B4 N z B := by
 obtain ⟨kq, st, x0, x1, u0, u1, h1, h2, h3, h4, h5, h6, h7, h8⟩ := h
 have hne : ∀ j, (N ≤ j ∨ j = B2 ∨ j = B3 ∨ j = B4) → some j ≠ row := fun j hj e => by
  have := hr j e.symm
  omega
 refine ⟨kq, st, x0, x1, u0, u1, h1, h2, Kd.R_mono (Kd.R_step (Kd.R_bound h3) (fun k hk hlt => hg.block k hlt (hne k (.inl hk.2.1)))) (fun _ _ => trivial), Kd.S_mono (Kd.S_step (Kd.S_bound h4) (fun k hk hlt => hg.block k hlt (hne k (.inl hk.2.1)))) (fun _ hk => hk.1), ?_, ?_, ?_, ?_⟩
 ·exact (hg.block _ (blk_lt h5) (hne _ (.inr (.inr (.inr rfl))))).trans h5
 ·exact (hg.block _ (blk_lt h6) (hne _ (.inr (.inl rfl)))).trans h6
 ·exact (hg.block _ (blk_lt h7) (hne _ (.inr (.inr (.inl rfl))))).trans h7
 ·exact h8.grown hg h8.size (fun k e => (hr k e).2.2.2.2)
theorem RtX.grown {w : World} {r : List Int × List (List Int) × Int} {B2 B3 : Nat} {A B : World} {row : Option Nat} (h : RtX w r B2 B3 A) (hg : A.grownBy B row) (hr : ∀ k, row = some k → k ≠ B2 ∧ k ≠ B3 ∧ w.heap.size ≤ k) : RtX w r B2 B3 B := by
 obtain ⟨h1, h6, h7, h8⟩ := h
 refine ⟨h1, ?_, ?_, ?_⟩
 ·exact (hg.block _ (blk_lt h6) (fun e => (hr _ e.symm).1 rfl)).trans h6
 ·exact (hg.block _ (blk_lt h7) (fun e => (hr _ e.symm).2.1 rfl)).trans h7
 ·exact h8.grown hg h8.size (fun k e => (hr k e).2.2)
theorem RtI.drewN {w : World} {s z : ByteArray} {r : List Int × List (List Int) × Int} {B2 B3 B4 N : Nat} {A : World} (h : RtI w s r B2 B3 B4 N z A) (m : Nat) : RtI w s r B2 B3 B4 N z (A.drewN m) := by
 obtain ⟨kq, st, x0, x1, u0, u1, h1, h2, h3, h4, h5, h6, h7, h8⟩ := h
 exact ⟨kq, st, x0, x1, u0, u1, h1, h2, Kd.R_drewN h3 m, Kd.S_drewN h4 m, blk_drewN h5 m, blk_drewN h6 m, blk_drewN h7 m, pw_below_drewN h8 m⟩
section
attribute [local go_sem] Oper.semAt_some
set_option maxHeartbeats 8000000 in
set_option maxRecDepth 100000 in
theorem impl_ReadTable.calls (k : Nat) (a0 : ByteArray) (r1 : List Int) (r2 : List (List Int)) (r3 : Int) (w : World) (hT_ : TabX w) (h : impl_ReadTable.f k a0 = some (r1, r2, r3)) :
  Calls Tryd.prog 11 #[.string a0] w fun e w' => ∃ v0_ v1_ : Value, e = .returned (.tuple #[.agg #[v0_, v1_], .int .i64 r3]) ∧ Kd.R (Kd.int .i16) 49 w' w.heap.size (fun _ => True) v0_ r1 ∧ Kd.S (Kd.slice 49 (Kd.int .i16)) 22 w' w.heap.size (fun k_ => some k_ ≠ (v0_ : Value).ownBlock) v1_ r2 ∧ Below w.heap.size w w' := by
 have hu28 := Tryd.underlying28
 unfold impl_ReadTable.f at h
 by_cases hsz : a0.size ≤ 281474976710656
 ·rw [if_pos hsz] at h
  have HA := Aside0.mk h
  clear h
  have HT := Aside0.mk hT_
  clear hT_
  refine (callsIn_wide (n := 8)).1 ?_
  refine callsIn_of_wp_marks Tryd.func11 rfl trivial ?_ rfl
  simp only [Tryd.ntmps11, List.size_toArray, List.length_cons, List.length_nil, Nat.reduceAdd, Nat.reduceSub, Array.replicate_succ, Array.replicate_zero, List.push_toArray, List.append_toArray, List.nil_append, List.cons_append]
  refine wpIn_wide.2 ?_
  go_wp2_with (go_at_call 29; refine (strings_Lines_calls a0 _).mono ?_; rintro e w1 ⟨rfl, rfl⟩)
  have HW : ∃ V, ((((w.alloc (.cells #[.slice none 0 0, .slice none 0 0] 28)).alloc (.cells #[.int .i64 0] 2)).alloc (.cells #[.slice none 0 0, .slice none 0 0] 28)).alloc (.cells #[.string a0] 9)) = V := ⟨_, rfl⟩
  obtain ⟨V, hV⟩ := HW
  have hVs : V.heap.size = w.heap.size + 4 := by rw [← hV]; simp
  have HB := Aside0.mk (show Below w.heap.size w V by rw [← hV]; exact below_alloc (below_alloc (below_alloc (below_alloc (Below.refl _ _) _) _) _) _)
  have H2 := Aside0.mk (show V.heap[w.heap.size]? = some (.cells #[.slice none 0 0, .slice none 0 0] 28 (0, 0)) by rw [← hV]; exact blk_alloc (blk_alloc (blk_alloc (blk_new w _) _) _) _)
  have H3 := Aside0.mk (show V.heap[w.heap.size + 1]? = some (.cells #[.int .i64 0] 2 (0, 0)) by rw [← hV]; exact blk_alloc (blk_alloc (by have := blk_new (w.alloc (.cells #[.slice none 0 0, .slice none 0 0] 28)) (.cells #[.int .i64 0] 2); rwa [World.size_alloc] at this) _) _)
  have H4 := Aside0.mk (show V.heap[w.heap.size + 1 + 1]? = some (.cells #[.slice none 0 0, .slice none 0 0] 28 (0, 0)) by rw [← hV]; exact blk_alloc (by have := blk_new ((w.alloc (.cells #[.slice none 0 0, .slice none 0 0] 28)).alloc (.cells #[.int .i64 0] 2)) (.cells #[.slice none 0 0, .slice none 0 0] 28); rwa [World.size_alloc, World.size_alloc] at this) _)
  have H5 := Aside0.mk (show V.heap[w.heap.size + 1 + 1 + 1]? = some (.cells #[.string a0] 9 (0, 0)) by rw [← hV]; have := blk_new (((w.alloc (.cells #[.slice none 0 0, .slice none 0 0] 28)).alloc (.cells #[.int .i64 0] 2)).alloc (.cells #[.slice none 0 0, .slice none 0 0] 28)) (.cells #[.string a0] 9); rwa [World.size_alloc, World.size_alloc, World.size_alloc] at this)
  rw [hV]
  clear hV
  refine (wpIn_wide (n := 8)).1 ?_
  refine lines_loop (by decide) (w.heap.size + 1 + 1 + 1) a0 (by omega) rfl H5.out (RtI w a0 (r1, r2, r3) w.heap.size (w.heap.size + 1) (w.heap.size + 1 + 1) (w.heap.size + 6)) (RtX w (r1, r2, r3) w.heap.size (w.heap.size + 1))
   (fun z A B row hi hg hr => hi.grown hg (fun j e => by rcases hr j e with h | h | h <;> omega))
   (fun z A m hi => hi.drewN m)
   (fun A B row hi hg hr => hi.grown hg (fun j e => by rcases hr j e with h | h | h <;> omega))
   ⟨k, false, [], [], .slice none 0 0, .slice none 0 0, HA.out, .inl ⟨rfl, rfl⟩, Kd.R_nil _ _ _ _ _, Kd.S_nil _ _ _ _ _, H4.out, H2.out, H3.out, HB.out⟩
   (fun x => { tmps := #[.string a0, undef, .pointer (some ⟨w.heap.size, 0, none⟩), .pointer (some ⟨w.heap.size + 1, 0, none⟩), .pointer (some ⟨w.heap.size + 1 + 1, 0, none⟩), .string x, undef, undef, undef, undef, undef, .agg #[.slice none 0 0, .slice none 0 0], .string a0, .func (.func 50) #[] #[.pointer (some ⟨w.heap.size + 1 + 1 + 1, 0, none⟩)], .string x, undef, undef, undef, undef, undef, undef, undef, undef, undef, undef, undef, undef, undef, undef, undef, undef, undef, undef, undef, undef, undef, undef, undef, undef, undef, undef, undef, undef, undef, undef, undef, undef, undef, undef, undef, undef, undef, undef, undef, undef, undef, undef, undef], defers := [] }) ?assign ?body ?done ?stop
  case assign =>
   intro l x W K hK
   refine region_in (by rintro ⟨_, _, h_⟩; exact h_) rfl ?_
   go_wp2
   exact hK
  case done =>
   rintro z W hz ⟨kq, st, x0, x1, u0, u1, h1, h2, h3, h4, h5, h6, h7, h8⟩ hD
   rw [hVs] at hD ⊢
   cases kq with
   | zero => exact absurd h1 (by simp [impl_ReadTable.l0])
   | succ kq =>
    simp only [impl_ReadTable.l0, if_pos hz] at h1
    have hfz2_0 := blk_frozen h6 0
    have hfz2_1 := blk_frozen h6 1
    have hfz3_0 := blk_frozen h7 0
    have hcz2_0 : W.cell? ⟨w.heap.size, 0, none⟩ = some (.slice none 0 0) := (blk_cell h6 0).trans rfl
    have hcz2_1 : W.cell? ⟨w.heap.size, 1, none⟩ = some (.slice none 0 0) := (blk_cell h6 1).trans rfl
    have hcz3_0 : W.cell? ⟨w.heap.size + 1, 0, none⟩ = some (.int .i64 0) := (blk_cell h7 0).trans rfl
    have hcz4_0 : W.cell? ⟨w.heap.size + 1 + 1, 0, none⟩ = some u0 := (blk_cell h5 0).trans rfl
    have hcz4_1 : W.cell? ⟨w.heap.size + 1 + 1, 1, none⟩ = some u1 := (blk_cell h5 1).trans rfl
    by_cases c10 : a0.toList = ([] : List UInt8)
    ·rw [if_pos c10] at h1
     have c10b0 : (a0.toList == ([] : List UInt8)) = true := beq_iff_eq.mpr c10
     have c10b1 : (a0.toList != ([] : List UInt8)) = false := bne_eq_false_iff_eq.mpr c10
     simp only [Option.some.injEq, Prod.mk.injEq] at h1
     obtain ⟨rfl, rfl, rfl⟩ := h1
     go_wp2
     refine rt_end (w := w) (D := w.heap.size + 4) (B2 := w.heap.size) (B3 := w.heap.size + 1) (u0 := .slice none 0 0) (u1 := .slice none 0 0) ?t2a ?t3a ?_ ?_ ?_ (by omega) (Kd.R_nil _ _ _ _ _) (Kd.S_nil _ _ _ _ _) ?_
     case t2a => rfl
     case t3a => rfl
     ·exact blk_far (blk_put (cs := #[.slice none 0 0, .slice none 0 0]) (blk_put (cs := #[.slice none 0 0, .slice none 0 0]) h6 0 _ rfl) 1 _ rfl) (by dsimp only; omega) _
     ·exact blk_put (cs := #[.int .i64 0]) (blk_far (blk_far h7 (by dsimp only; omega) _) (by dsimp only; omega) _) 0 _ rfl
     ·exact (Below.heap_setCell _ _ _ _ (by dsimp only; omega)).trans ((Below.heap_setCell _ _ _ _ (by dsimp only; omega)).trans ((Below.heap_setCell _ _ _ _ (by dsimp only; omega)).trans hD))
     ·exact below_set (below_set (below_set h8 (by omega)) (by omega)) (by omega)
    ·rw [if_neg c10] at h1
     have c10b0 : (a0.toList == ([] : List UInt8)) = false := beq_eq_false_iff_ne.mpr c10
     have c10b1 : (a0.toList != ([] : List UInt8)) = true := bne_iff_ne.mpr c10
     obtain ⟨t, ht, h1⟩ := Option.bind_eq_some_iff.mp h1
     obtain ⟨A0, c0, rfl⟩ := Kd.R_slice h3
     obtain ⟨A1, c1, rfl⟩ := Kd.S_slice h4
     have hC := Aside0.mk (impl_TableText.calls kq A0 c0 x0 A1 c1 x1 t W (Kd.R_reads' h3).2.2 (Kd.R_reads' h3).2.1 (Kd.S_reads' h4).2.2 (Kd.S_reads' h4).2.1 (HT.out.below h8).1 ht)
     by_cases c11 : t.toList = a0.toList
     ·rw [if_pos c11] at h1
      have c11b0 : (t.toList == a0.toList) = true := beq_iff_eq.mpr c11
      have c11b1 : (t.toList != a0.toList) = false := bne_eq_false_iff_eq.mpr c11
      simp only [Option.some.injEq, Prod.mk.injEq] at h1
      obtain ⟨rfl, rfl, rfl⟩ := h1
      go_wp2_with (go_at_call 8; refine hC.out.mono ?_; rintro e w2 ⟨rfl, hb⟩; have h5w := blk_below h5 hb; have h6w := blk_below h6 hb; have h7w := blk_below h7 hb; have hbw := below_step h8 hb; have hDw := (hb.block _ (blk_lt hD)).trans hD; have h3w := Kd.R_below h3 hb; have h4w := Kd.S_below h4 hb; have g20 := blk_frozen h6w 0; have g21 := blk_frozen h6w 1; have g30 := blk_frozen h7w 0; have d20 : w2.cell? ⟨w.heap.size, 0, none⟩ = some (.slice none 0 0) := (blk_cell h6w 0).trans rfl; have d21 : w2.cell? ⟨w.heap.size, 1, none⟩ = some (.slice none 0 0) := (blk_cell h6w 1).trans rfl; have d30 : w2.cell? ⟨w.heap.size + 1, 0, none⟩ = some (.int .i64 0) := (blk_cell h7w 0).trans rfl; have d40 : w2.cell? ⟨w.heap.size + 1 + 1, 0, none⟩ = some (.slice A0 x0.length c0) := (blk_cell h5w 0).trans rfl; have d41 : w2.cell? ⟨w.heap.size + 1 + 1, 1, none⟩ = some (.slice A1 x1.length c1) := (blk_cell h5w 1).trans rfl)
      refine rt_end (w := w) (D := w.heap.size + 4) (B2 := w.heap.size) (B3 := w.heap.size + 1) (u0 := .slice A0 x0.length c0) (u1 := .slice A1 x1.length c1) ?t2b ?t3b ?_ ?_ ?_ (by omega) ?_ ?_ ?_
      case t2b => rfl
      case t3b => rfl
      ·exact blk_far (blk_put (cs := #[.slice A0 x0.length c0, .slice none 0 0]) (blk_put (cs := #[.slice none 0 0, .slice none 0 0]) h6w 0 _ rfl) 1 _ rfl) (by dsimp only; omega) _
      ·exact blk_put (cs := #[.int .i64 0]) (blk_far (blk_far h7w (by dsimp only; omega) _) (by dsimp only; omega) _) 0 _ rfl
      ·exact (Below.heap_setCell _ _ _ _ (by dsimp only; omega)).trans ((Below.heap_setCell _ _ _ _ (by dsimp only; omega)).trans ((Below.heap_setCell _ _ _ _ (by dsimp only; omega)).trans hDw))
      ·have e1 := Kd.R_step (Kd.R_bound h3w) (w1 := ((w2.setCell ⟨w.heap.size, 0, none⟩ (.slice A0 x0.length c0)).setCell ⟨w.heap.size, 1, none⟩ (.slice A1 x1.length c1)).setCell ⟨w.heap.size + 1, 0, none⟩ (.int .i64 0)) (fun k_ hk _ => (Below.heap_setCell _ _ _ _ (by have := hk.2.1; dsimp only; omega)).trans ((Below.heap_setCell _ _ _ _ (by have := hk.2.1; dsimp only; omega)).trans (Below.heap_setCell _ _ _ _ (by have := hk.2.1; dsimp only; omega))))
       exact Kd.R_lower (Kd.R_mono e1 (fun _ _ => trivial)) (by omega)
      ·have e1 := Kd.S_step (Kd.S_bound h4w) (w1 := ((w2.setCell ⟨w.heap.size, 0, none⟩ (.slice A0 x0.length c0)).setCell ⟨w.heap.size, 1, none⟩ (.slice A1 x1.length c1)).setCell ⟨w.heap.size + 1, 0, none⟩ (.int .i64 0)) (fun k_ hk _ => (Below.heap_setCell _ _ _ _ (by have := hk.2.1; dsimp only; omega)).trans ((Below.heap_setCell _ _ _ _ (by have := hk.2.1; dsimp only; omega)).trans (Below.heap_setCell _ _ _ _ (by have := hk.2.1; dsimp only; omega))))
       exact Kd.S_lower (Kd.S_mono e1 (fun _ hk => hk.1)) (by omega)
      ·exact below_set (below_set (below_set hbw (by omega)) (by omega)) (by omega)
     ·rw [if_neg c11] at h1
      have c11b0 : (t.toList == a0.toList) = false := beq_eq_false_iff_ne.mpr c11
      have c11b1 : (t.toList != a0.toList) = true := bne_iff_ne.mpr c11
      simp only [Option.some.injEq, Prod.mk.injEq] at h1
      obtain ⟨rfl, rfl, rfl⟩ := h1
      go_wp2_with (go_at_call 8; refine hC.out.mono ?_; rintro e w2 ⟨rfl, hb⟩; have h5w := blk_below h5 hb; have h6w := blk_below h6 hb; have h7w := blk_below h7 hb; have hbw := below_step h8 hb; have hDw := (hb.block _ (blk_lt hD)).trans hD; have h3w := Kd.R_below h3 hb; have h4w := Kd.S_below h4 hb; have g20 := blk_frozen h6w 0; have g21 := blk_frozen h6w 1; have g30 := blk_frozen h7w 0; have d20 : w2.cell? ⟨w.heap.size, 0, none⟩ = some (.slice none 0 0) := (blk_cell h6w 0).trans rfl; have d21 : w2.cell? ⟨w.heap.size, 1, none⟩ = some (.slice none 0 0) := (blk_cell h6w 1).trans rfl; have d30 : w2.cell? ⟨w.heap.size + 1, 0, none⟩ = some (.int .i64 0) := (blk_cell h7w 0).trans rfl; have d40 : w2.cell? ⟨w.heap.size + 1 + 1, 0, none⟩ = some (.slice A0 x0.length c0) := (blk_cell h5w 0).trans rfl; have d41 : w2.cell? ⟨w.heap.size + 1 + 1, 1, none⟩ = some (.slice A1 x1.length c1) := (blk_cell h5w 1).trans rfl)
      refine rt_end (w := w) (D := w.heap.size + 4) (B2 := w.heap.size) (B3 := w.heap.size + 1) (u0 := .slice none 0 0) (u1 := .slice none 0 0) ?t2c ?t3c ?_ ?_ ?_ (by omega) (Kd.R_nil _ _ _ _ _) (Kd.S_nil _ _ _ _ _) ?_
      case t2c => rfl
      case t3c => rfl
      ·exact blk_far (blk_put (cs := #[.slice none 0 0, .slice none 0 0]) (blk_put (cs := #[.slice none 0 0, .slice none 0 0]) h6w 0 _ rfl) 1 _ rfl) (by dsimp only; omega) _
      ·exact blk_put (cs := #[.int .i64 0]) (blk_far (blk_far h7w (by dsimp only; omega) _) (by dsimp only; omega) _) 0 _ rfl
      ·exact (Below.heap_setCell _ _ _ _ (by dsimp only; omega)).trans ((Below.heap_setCell _ _ _ _ (by dsimp only; omega)).trans ((Below.heap_setCell _ _ _ _ (by dsimp only; omega)).trans hDw))
      ·exact below_set (below_set (below_set hbw (by omega)) (by omega)) (by omega)
  case stop =>
   rintro W ⟨h1, h6, h7, h8⟩ hD
   simp only [Prod.mk.injEq] at h1
   obtain ⟨rfl, rfl, rfl⟩ := h1
   exact rt_end (w := w) (D := V.heap.size) (B2 := w.heap.size) (B3 := w.heap.size + 1) (u0 := .slice none 0 0) (u1 := .slice none 0 0) rfl rfl h6 h7 hD (by omega) (Kd.R_nil _ _ _ _ _) (Kd.S_nil _ _ _ _ _) h8
  case body =>
   rintro z X rl hz hzs ⟨kq, st, x0, x1, u0, u1, h1, h2, h3, h4, h5, h6, h7, h8⟩ hL hD hBs
   cases kq with
   | zero => exact absurd h1 (by simp [impl_ReadTable.l0])
   | succ kq =>
    simp only [impl_ReadTable.l0, if_neg (show ¬ z.size = 0 by omega)] at h1
    obtain ⟨⟨list, ok⟩, hf, h1⟩ := Option.bind_eq_some_iff.mp h1
    have hTr : ∀ W : World, Calls Tryd.prog 31 #[.string (lnLine z), .string ⟨#[10]⟩] W fun e w' => e = .returned (.string (lnTrim z)) ∧ w' = W := fun W => Go.Proofs.Tryd.strings_TrimSuffix (lnLine z) ⟨#[10]⟩ W (by have := lnLine_le z; omega)
    have hFi := Aside0.mk (impl_fields.calls kq (lnTrim z) ⟨#[32]⟩ 10000 list ok X (HT.out.below h8) hf)
    refine wpIn_block (wpIn_seq (region_in ?hq rfl ?_))
    case hq => rintro ⟨_, _, _, (⟨h, _⟩ | ⟨h, _⟩)⟩ <;> cases h
    go_wp2_with (first | (go_at_call 31; refine (hTr _).mono ?_; rintro e w1 ⟨rfl, rfl⟩) | (go_at_call 30; refine hFi.out.mono ?_; rintro e w2 ⟨vl, rfl, hl, hb⟩))
    obtain ⟨Al, cl, rfl⟩ := Kd.R_slice hl
    have hL2 := (hb.block _ (blk_lt hL)).trans hL
    have hD2 := (hb.block _ (blk_lt hD)).trans hD
    have hBs2 := blk_below hBs hb
    have h3w := Kd.R_below h3 hb
    have h4w := Kd.S_below h4 hb
    have h5w := blk_below h5 hb
    have h6w := blk_below h6 hb
    have h7w := blk_below h7 hb
    have h8w := below_step h8 hb
    rw [hL, hD, hBs]
    clear hL hD hBs h3 h4 h5 h6 h7 h8 hFi hTr
    cases ok with
    | false =>
     simp only [Bool.false_eq_true, if_false, Option.some.injEq, Prod.mk.injEq] at h1
     have g20 := blk_frozen h6w 0
     have g21 := blk_frozen h6w 1
     have g30 := blk_frozen h7w 0
     have d20 : w2.cell? ⟨w.heap.size, 0, none⟩ = some (.slice none 0 0) := (blk_cell h6w 0).trans rfl
     have d21 : w2.cell? ⟨w.heap.size, 1, none⟩ = some (.slice none 0 0) := (blk_cell h6w 1).trans rfl
     have d30 : w2.cell? ⟨w.heap.size + 1, 0, none⟩ = some (.int .i64 0) := (blk_cell h7w 0).trans rfl
     obtain ⟨rfl, rfl, rfl⟩ := h1
     gi_wp2
     refine ⟨⟨?_, ?_, ?_⟩, .inr ⟨trivial, rfl, ?_, ?_, ?_⟩⟩
     ·exact (Below.heap_setCell _ _ _ _ (by dsimp only; omega)).trans ((Below.heap_setCell _ _ _ _ (by dsimp only; omega)).trans ((Below.heap_setCell _ _ _ _ (by dsimp only; omega)).trans hL2))
     ·exact (Below.heap_setCell _ _ _ _ (by dsimp only; omega)).trans ((Below.heap_setCell _ _ _ _ (by dsimp only; omega)).trans ((Below.heap_setCell _ _ _ _ (by dsimp only; omega)).trans hD2))
     ·exact blk_far (blk_far (blk_far hBs2 (by dsimp only; omega) _) (by dsimp only; omega) _) (by dsimp only; omega) _
     ·exact blk_far (blk_put (cs := #[.slice none 0 0, .slice none 0 0]) (blk_put (cs := #[.slice none 0 0, .slice none 0 0]) h6w 0 _ rfl) 1 _ rfl) (by dsimp only; omega) _
     ·exact blk_put (cs := #[.int .i64 0]) (blk_far (blk_far h7w (by dsimp only; omega) _) (by dsimp only; omega) _) 0 _ rfl
     ·exact below_set (below_set (below_set h8w (by omega)) (by omega)) (by omega)
    | true =>
     rw [if_pos rfl] at h1
     by_cases hll : list.length ≤ 4294967296
     ·rw [if_pos hll] at h1
      have H1 := Aside0.mk h1
      clear h1
      gi_wp2
      gi_loopw [8, 27] (fun v8 v27 wr => ∃ j : Nat, j ≤ list.length ∧ v27 = .int .i64 (j : Int) ∧ Kd.R (Kd.int .i16) 49 wr w2.heap.size (fun _ => True) v8 (lnOwn (list.take j)) ∧ (∃ ad n c, v8 = .slice (some ad) n c) ∧ Below w2.heap.size w2 wr) (fun _ v27 _ => list.length - (intOf v27).toNat)
      case atStart =>
       refine ⟨0, Nat.zero_le _, rfl, Kd.R_of_own ?_ (fun _ _ => trivial), ⟨_, _, _, rfl⟩, below_alloc (Below.refl _ _) _⟩
       exact World.ownsRow_lit (base := w2.heap.size) (e := 49) (size := 1) w2 #[] 0 (Nat.le_refl _) (by decide) rfl
      case round =>
       obtain ⟨j, hj, rfl, hR, ⟨ad8, n8, c8, rfl⟩, hBr⟩ := hrel
       by_cases hlt : j < list.length
       ·have q30 : ((j : Nat) : Int) < (list.length : Int) := by omega
        have p30 : (0 : Int) ≤ (j : Nat) := by omega
        obtain ⟨ad30, e30, hx30⟩ := Kd.at_int (Kd.R_reads' (Kd.R_below hl hBr)).2.2 ((j : Nat) : Int) p30 q30
        cases e30
        simp only [Int.toNat_natCast] at hx30
        have hnx : lnOwn (list.take (j + 1)) = lnOwn (list.take j) ++ [IntKind.i16.wrap (rd list (j : Int))] := by
         unfold lnOwn rd
         rw [List.take_add_one, Int.toNat_natCast, List.map_append, getD_ge_ (z := 0) hlt]
         rfl
        have hln : (lnOwn (list.take j)).length ≤ 4294967296 := by
         unfold lnOwn
         rw [List.length_map, List.length_take]; omega
        have HR := Aside0.mk hR
        have HBr := Aside0.mk hBr
        clear hR hBr
        gi_wp2_with ((with_reducible refine held_append rfl ?_))
        refine held_in ?hq2 rfl ?_
        case hq2 => rintro ⟨_, _, h_⟩; revert h_; simp only [Exit.then, Exit.inBlock]; rintro ⟨_, (⟨h, _⟩ | ⟨h, _⟩)⟩ <;> cases h
        go_wp2_with (at_builtin; refine Kd.R_append (Kd.int .i16) (w0 := w2) w2.heap.size rfl (.tmp 31) (.tmp 34) 22 49 (.int .i16 0) 2 rfl Tryd.underlying22 info49 rfl (by decide) (by omega) (.slice (some ad8) n8 c8) (lnOwn (list.take j)) (IntKind.i16.wrap (rd list (j : Int))) [.int .i16 (IntKind.i16.wrap (rd list (j : Int)))] (fun _ => True) (fun _ => False) rfl rfl rfl (fun _ hk => hk.elim) (fun _ _ => trivial) HR.out HBr.out HBr.out.size (by omega) ?_; intro v1 w3 ho hb3 hg3 hat3; rw [← hnx] at ho; obtain ⟨A9, c9, e9⟩ := Kd.R_slice ho; subst e9; have hne9 := Kd.R_some (by rw [hnx]; simp) ho)
        obtain ⟨ad9, rfl⟩ := hne9
        have e9_ : (lnOwn (List.take (j + 1) list)).length = (lnOwn (List.take j list)).length + 1 := by rw [hnx, List.length_append]; rfl
        gi_wp2
        rw [e9_] at ho
        go_roundw
        case rel => exact ⟨j + 1, by omega, by simp, ho, ⟨_, _, _, rfl⟩, HBr.out.grown hg3 HBr.out.size (fun k_ hk_ => Kd.R_base HR.out k_ hk_)⟩
        case measure => simp [intOf]; omega
       ·obtain rfl : j = list.length := by omega
        have hL3 := (hBr.block _ (blk_lt hL2)).trans hL2
        have hD3 := (hBr.block _ (blk_lt hD2)).trans hD2
        have hBs3 := blk_below hBs2 hBr
        have h3r := Kd.R_below h3w hBr
        have h4r := Kd.S_below h4w hBr
        have h5r := blk_below h5w hBr
        have h6r := blk_below h6w hBr
        have h7r := blk_below h7w hBr
        have h8r := below_step h8w hBr
        have d40 : wr.cell? ⟨w.heap.size + 1 + 1, 0, none⟩ = some u0 := (blk_cell h5r 0).trans rfl
        have d41 : wr.cell? ⟨w.heap.size + 1 + 1, 1, none⟩ = some u1 := (blk_cell h5r 1).trans rfl
        have g40 := blk_frozen h5r 0
        have g41 := blk_frozen h5r 1
        rw [List.take_length] at hR
        have qn_ : ∀ (W : World) (a : Option Addr) (n c : Nat), (binOp .eql 22 (.slice a n c) (.slice none 0 0)).run Tryd.prog W = .ok (.bool a.isNone) W := fun W a n c => Lib.run_eql_slice_nil W _ _ a n c 0 0 Tryd.underlying22
        have hN : w.heap.size + 6 ≤ w2.heap.size := by have := blk_lt hL2; omega
        have hlt0 : ∀ k_, (u0 : Value).ownBlock = some k_ → k_ < w2.heap.size := Kd.R_lt h3w
        have hlt1 : ∀ k_, (u1 : Value).ownBlock = some k_ → k_ < w2.heap.size := Kd.S_lt h4w
        obtain ⟨A1, c1, rfl⟩ := Kd.S_slice h4r
        rcases h2 with ⟨rfl, rfl⟩ | ⟨rfl, ad, n0, c0, rfl⟩
        ·gi_wp2
         refine ⟨⟨?_, ?_, ?_⟩, .inl ⟨trivial, kq, true, lnOwn list, x1, .slice (some ad8) n8 c8, .slice A1 x1.length c1, ?_, .inr ⟨rfl, _, _, _, rfl⟩, ?_, ?_, ?_, ?_, ?_, ?_⟩⟩
         ·exact (Below.heap_setCell _ _ _ _ (by dsimp only; omega)).trans hL3
         ·exact (Below.heap_setCell _ _ _ _ (by dsimp only; omega)).trans hD3
         ·exact blk_far hBs3 (by dsimp only; omega) _
         ·have := H1.out; rw [if_neg (by decide)] at this; exact this
         ·exact Kd.R_lower (Kd.R_mono (Kd.R_step (Kd.R_bound hR) (fun k_ hk _ => Below.heap_setCell _ _ _ _ (by have := hk.2.1; dsimp only; omega))) (fun _ _ => trivial)) hN
         ·refine Kd.S_mono (Kd.S_step (Kd.S_below (Kd.S_bound h4w) hBr) (fun k_ hk _ => Below.heap_setCell _ _ _ _ (by have := hk.2.1; dsimp only; omega))) (fun k_ hk e_ => ?_)
          have h_ := Kd.R_base hR k_ e_.symm
          have := hk.2.2.1
          omega
         ·exact blk_put (cs := #[.slice none 0 0, .slice A1 x1.length c1]) h5r 0 _ rfl
         ·exact blk_far h6r (by dsimp only; omega) _
         ·exact blk_far h7r (by dsimp only; omega) _
         ·exact below_set h8r (by omega)
        ·have h1' := H1.out
         rw [if_pos rfl] at h1'
         by_cases hx1 : x1.length < 5864062014805
         ·rw [if_pos hx1] at h1'
          have hO : Kd.R (Kd.int .i16) 49 wr (w.heap.size + 6) (fun k_ => some k_ ≠ (.slice (some ad) n0 c0 : Value).ownBlock ∧ some k_ ≠ (.slice A1 x1.length c1 : Value).ownBlock) (.slice (some ad8) n8 c8) (lnOwn list) := Kd.R_lower (Kd.R_mono (Kd.R_bound hR) (fun k_ hk => ⟨fun e_ => by have := hlt0 k_ e_.symm; have := hk.2.1; omega, fun e_ => by have := hlt1 k_ e_.symm; have := hk.2.1; omega⟩)) hN
          gi_wp2_with ((with_reducible refine held_append rfl ?_))
          refine held_in ?hq3 rfl ?_
          case hq3 => rintro ⟨_, _, h_⟩; obtain ⟨_, (⟨h, _⟩ | ⟨h, _⟩)⟩ := h_ <;> cases h
          go_wp2_with (at_builtin; refine Kd.S_append (Kd.slice 49 (Kd.int .i16)) (w0 := wr) (w.heap.size + 6) rfl (.tmp 43) (.tmp 45) 23 22 (.slice none 0 0) 24 rfl Tryd.underlying23 info22 rfl (by decide) (by omega) (.slice A1 x1.length c1) x1 (lnOwn list) [.slice (some ad8) n8 c8] (fun k_ => some k_ ≠ (.slice (some ad) n0 c0 : Value).ownBlock) (fun k_ => some k_ = (.slice (some ad8) n8 c8 : Value).ownBlock) rfl rfl (Kd.M_row (Kd.R_mono (Kd.R_tight rfl hO) (fun _ h_ => h_))) (fun k_ hk_ => hO.1 k_ hk_.symm) (fun k_ hk e_ => by have := hlt0 k_ e_.symm; have := hBr.size; omega) (Kd.S_mono (Kd.S_below (Kd.S_bound h4w) hBr) (fun k_ hk => ⟨hk.1, fun e_ => by have h_ := Kd.R_base hR k_ e_.symm; have := hk.2.2.1; omega⟩)) (Below.refl _ _) (by have := hBr.size; omega) (by omega) ?_; intro v1 w3 ho hb3 hg3 hat3; obtain ⟨A9, c9, e9⟩ := Kd.S_slice ho; subst e9; have hne : ∀ g_, g_ < w.heap.size + 6 → some g_ ≠ (.slice A1 x1.length c1 : Value).ownBlock := (fun g_ hg_ e_ => by have := Kd.S_base h4r g_ e_.symm; omega); have h5z := blk_grown h5r hg3 (hne _ (by omega)); have z40 := blk_frozen h5z 0; have z41 := blk_frozen h5z 1; have y40 : w3.cell? ⟨w.heap.size + 1 + 1, 0, none⟩ = some (.slice (some ad) n0 c0) := (blk_cell h5z 0).trans rfl; have y41 : w3.cell? ⟨w.heap.size + 1 + 1, 1, none⟩ = some (.slice A1 x1.length c1) := (blk_cell h5z 1).trans rfl)
          have e9_ : (x1 ++ [lnOwn list]).length = x1.length + 1 := List.length_append
          rw [e9_] at ho
          have h3z : Kd.R (Kd.int .i16) 49 w3 (w.heap.size + 6) (fun _ => True) (.slice (some ad) n0 c0) x0 := Kd.R_over' h3r (Kd.S_typed h4r) (by decide) hg3
          refine ⟨⟨?_, ?_, ?_⟩, .inl ⟨trivial, kq, true, x0, x1 ++ [lnOwn list], .slice (some ad) n0 c0, .slice A9 (x1.length + 1) c9, h1', .inr ⟨rfl, _, _, _, rfl⟩, ?_, ?_, ?_, ?_, ?_, ?_⟩⟩
          ·exact (Below.heap_setCell _ _ _ _ (by dsimp only; omega)).trans ((hg3.block _ (blk_lt hL3) (hne _ (by omega))).trans hL3)
          ·exact (Below.heap_setCell _ _ _ _ (by dsimp only; omega)).trans ((hg3.block _ (blk_lt hD3) (hne _ (by omega))).trans hD3)
          ·exact blk_far (blk_grown hBs3 hg3 (hne _ (by omega))) (by dsimp only; omega) _
          ·exact Kd.R_mono (Kd.R_step (Kd.R_bound h3z) (fun k_ hk _ => Below.heap_setCell _ _ _ _ (by have := hk.2.1; dsimp only; omega))) (fun _ _ => trivial)
          ·exact Kd.S_mono (Kd.S_step (Kd.S_bound ho) (fun k_ hk _ => Below.heap_setCell _ _ _ _ (by have := hk.2.1; dsimp only; omega))) (fun k_ hk => hk.1)
          ·exact blk_put (cs := #[.slice (some ad) n0 c0, .slice A1 x1.length c1]) h5z 1 _ rfl
          ·exact blk_far (blk_grown h6r hg3 (hne _ (by omega))) (by dsimp only; omega) _
          ·exact blk_far (blk_grown h7r hg3 (hne _ (by omega))) (by dsimp only; omega) _
          ·exact below_set (h8r.grown hg3 h8r.size (fun k_ e_ => by have := Kd.S_base h4r k_ e_; omega)) (by omega)
         ·rw [if_neg hx1] at h1'; cases h1'
     ·rw [if_neg hll] at h1; cases h1
 ·rw [if_neg hsz] at h; cases h
end

def laws_markInt16S.l0 : Nat → List Int → Int → Int → Option (Int × List Int)
 | 0, _, _, _ => none
 | k + 1, x0, x1, x5 => if x5 < (x0.length : Int) then (if 0 ≤ x5 then (laws_markInt16S.l0 k (x0.set (x5 : Int).toNat (IntKind.i16.wrap (x1))) (wrap64 (x1 + 1)) (wrap64 (x5 + 1))) else (none)) else (some (x1, x0))
def laws_markInt16S.f (k : Nat) (l0 : List Int) (a1 : Int) : Option (Int × List Int) := laws_markInt16S.l0 k l0 a1 0
theorem laws_markInt16S.mono_l : ∀ k, (∀ y0 y1 y2, LeO (laws_markInt16S.l0 k y0 y1 y2) (laws_markInt16S.l0 (k + 1) y0 y1 y2))
 | 0 => fun _ _ _ r h => by simp [laws_markInt16S.l0] at h
 | k + 1 => by
  have ih0 := laws_markInt16S.mono_l k
  ·intro y0 y1 y2
   unfold laws_markInt16S.l0
   repeat' first
   | (with_reducible exact ih0 _ _ _)
   | (with_reducible exact LeO.refl _)
   | (with_reducible exact LeO.none _)
   | (with_reducible refine LeO.ite ?_ ?_)
   | (with_reducible refine LeO.bind ?_ (fun _ => ?_))
   | exact ih0 _ _ _
   | exact LeO.none _
   | refine LeO.ite ?_ ?_
   | refine LeO.bind ?_ (fun _ => ?_)
theorem laws_markInt16S.mono : ∀ a0 a1 k, LeO (laws_markInt16S.f k a0 a1) (laws_markInt16S.f (k + 1) a0 a1) := by
 intro a0 a1 k
 have ih0 := laws_markInt16S.mono_l k
 unfold laws_markInt16S.f
 repeat' first
   | (with_reducible exact ih0 _ _ _)
   | (with_reducible exact LeO.refl _)
   | (with_reducible exact LeO.none _)
   | (with_reducible refine LeO.ite ?_ ?_)
   | (with_reducible refine LeO.bind ?_ (fun _ => ?_))
   | exact ih0 _ _ _
   | exact LeO.none _
   | refine LeO.ite ?_ ?_
   | refine LeO.bind ?_ (fun _ => ?_)
set_option maxHeartbeats 8000000 in
set_option maxRecDepth 100000 in
theorem laws_markInt16S.calls (k : Nat) (P0_ : Nat → Prop) (u9000_ : Value) (l0 : List Int) (a1 : Int) (r1 : Int) (r2 : List Int) (w0 w : World) (hB : Below w0.heap.size w0 w) (ho0 : Kd.R (Kd.int .i16) 49 w w0.heap.size P0_ u9000_ l0) (h : laws_markInt16S.f k l0 a1 = some (r1, r2)) :
  Calls Tryd.prog 32 #[u9000_, .int .i64 a1] w fun e w' => e = .returned (.int .i64 r1) ∧ Kd.R (Kd.int .i16) 49 w' w0.heap.size (fun k_ => (P0_ k_ ∨ w.heap.size ≤ k_)) u9000_ r2 ∧ Below w0.heap.size w0 w' ∧ Kept w w' (fun k_ => P0_ k_) := by
 have HO0 := Aside0.mk (show Kd.R (Kd.int .i16) 49 w w0.heap.size (fun k_ => (P0_ k_ ∨ w.heap.size ≤ k_)) u9000_ l0 from Kd.R_mono ho0 (fun k_ hk => (.inl hk)))
 have HK := Aside0.mk (Kept.refl w (fun k_ => P0_ k_))
 have HW0 := Aside0.mk hB.size
 have HB := Aside0.mk hB
 clear hB
 have H : (laws_markInt16S.l0 k l0 a1 0) = some (r1, r2) := h
 clear h
 have H' := Aside0.mk H
 clear H
 go_enter Tryd.func32, Tryd.ntmps32
 go_wp2
 go_loopg [1, 5] k (fun kq v1 v5 w' => ∃ (x0_1 : List Int) (x1_1 : Int) (x5_1 : Int), v1 = .int .i64 x1_1 ∧ v5 = .int .i64 x5_1 ∧ Aside0 (laws_markInt16S.l0 kq x0_1 x1_1 x5_1 = some (r1, r2)) ∧ Aside0 (kq ≤ k) ∧ Aside0 (Kd.R (Kd.int .i16) 49 w' w0.heap.size (fun k_ => (P0_ k_ ∨ w.heap.size ≤ k_)) u9000_ x0_1) ∧ Aside0 (Kept w w' (fun k_ => P0_ k_)) ∧ Aside0 (Below w0.heap.size w0 w'))
 case atStart => exact ⟨(l0), (a1), (0), (by first | rfl | (simp; done) | (simp [*]; done)), (by first | rfl | (simp; done) | (simp [*]; done)), H', ⟨Nat.le_refl _⟩, ⟨by (with_reducible repeat (first | apply Kd.R_alloc | apply Kd.R_drewN | apply Kd.R_drew)); exact HO0.out⟩, ⟨by repeat (first | (with_reducible first | exact HK.out | apply Kept.alloc | apply Kept.drewN | apply Kept.drew) | exact HK.out)⟩, ⟨by repeat (first | (with_reducible first | exact HB.out | apply below_alloc | apply pw_below_drewN | apply below_drew1) | exact HB.out)⟩⟩
 case round =>
  clear H'
  try clear p2
  obtain ⟨x0_1, x1_1, x5_1, rfl, rfl, HA, HK1, HO_0, HK, HB⟩ := hrel
  cases gk with
  | zero => exact absurd HA.out (by simp [laws_markInt16S.l0])
  | succ k1 =>
   have H := HA.out
   clear HA
   simp only [laws_markInt16S.l0] at H
   by_cases c3 : x5_1 < (x0_1.length : Int)
   ·rw [if_pos c3] at H
    have c3b0 : decide (x5_1 < (x0_1.length : Int)) = true := decide_eq_true c3
    clear c3
    by_cases c4 : 0 ≤ x5_1
    ·rw [if_pos c4] at H
     have c4b0 : decide (0 ≤ x5_1) = true := decide_eq_true c4
     clear c4
     obtain ⟨y203, hy203⟩ : ∃ y_ : List Int, y_ = (x0_1.set (x5_1 : Int).toNat (IntKind.i16.wrap (x1_1))) := ⟨_, rfl⟩
     replace H : (laws_markInt16S.l0 k1 y203 (wrap64 (x1_1 + 1)) (wrap64 (x5_1 + 1))) = some (r1, r2) := by first | (rw [hy203]; with_reducible exact H) | (have H2_ := (Option.bind_some _ _).symm.trans H; rw [hy203]; with_reducible exact H2_) | (have H2_ := (Option.bind_some _ _).symm.trans H; with_reducible exact H2_) | with_reducible exact H | (rw [hy203]; exact H) | exact H
     have Ny203 := Aside0.mk hy203
     clear hy203
     have H' := Aside0.mk H
     clear H
     obtain ⟨Ao6, co6, eo6⟩ := Kd.R_slice HO_0.out
     subst eo6
     have p5 : 0 ≤ (x5_1 : Int) := odt_
     have q5 : (x5_1 : Int) < ((x0_1.length : Int) : Int) := odt_
     obtain ⟨go5, co5, eo5, gb5, gl5, cl5, HG5⟩ := Kd.R_form HO_0.out (by omega)
     (first | cases eo5 | (injection eo5 with ea_ en_ ec_; (first | subst ea_ | (injection ea_ with ea_; subst ea_)); subst ec_; clear en_))
     have GB5 := Aside0.mk gb5
     have GG5 := Aside0.mk HG5
     clear gb5 gl5 HG5
     have HMgo5 := Aside0.mk (show (P0_ go5 ∨ w.heap.size ≤ go5) from (HO_0.out.1 _ rfl))
     obtain ⟨hx5_0, hf5_0⟩ := Kd.R_celln 0 HO_0.out (x5_1 : Int) p5 q5
     replace p5 := eq_true p5
     replace q5 := eq_true q5
     have HP7 := Kd.R_putg HO_0.out (x5_1 : Int) (IntKind.i16.wrap (x1_1))
     go_wp2_with (first | ((with_reducible refine gate_store (t := 49) (p := 16) rfl ?_); refine store_event (t := 49) (p := 16) (v := ?vo_w8) (w1 := (wr.setCell ⟨go5, (x5_1 : Int).toNat, none⟩ (.int .i16 (IntKind.i16.wrap (x1_1))))) ?hg ?ho ?hn ?hr ?_; (case ho => rfl); (case hg => rfl); (case hn => rfl); (case hr => first | (go_simp; done) | (go_simp; rfl)); intro w8 hw; have hg : wr.grownBy w8 (some go5) := (by rw [hw]; exact HP7.2); have hp_ : Kd.R (Kd.int .i16) 49 w8 w0.heap.size (fun k_ => (P0_ k_ ∨ w.heap.size ≤ k_)) (.slice (some ⟨go5, 0, none⟩) x0_1.length co6) y203 := (by rw [hw, Ny203.out]; exact HP7.1); clear HP7; have n0_ := Aside0.mk (hp_); have n1_ := Aside0.mk ((by rw [hw]; exact below_set (HB.out) GB5.out : Below w0.heap.size w0 w8)); have n2_ := Aside0.mk (Kept.of_grown (S := (fun k_ => P0_ k_)) hg (by repeat (first | (with_reducible first | exact HK.out | apply Kept.alloc | apply Kept.drewN | apply Kept.drew) | exact HK.out)) (fun k_ e_ => (HO_0.out.1 k_ e_))); clear HO_0; clear HB; clear HK; have HO_0 := n0_; have HB := n1_; have HK := n2_; clear n0_ n1_ n2_; clear hg hw hp_))
     go_roundg k1
     case measure => have := HK1.out; omega
     case rel => exact ⟨(y203), (wrap64 (x1_1 + 1)), (wrap64 (x5_1 + 1)), (by first | rfl | (simp; done) | (simp [*]; done)), (by first | rfl | (simp; done) | (simp [*]; done)), H', ⟨by have := HK1.out; omega⟩, ⟨by (with_reducible repeat (first | apply Kd.R_alloc | apply Kd.R_drewN | apply Kd.R_drew)); exact HO_0.out⟩, ⟨by repeat (first | (with_reducible first | exact HK.out | apply Kept.alloc | apply Kept.drewN | apply Kept.drew) | exact HK.out)⟩, ⟨by repeat (first | (with_reducible first | exact HB.out | apply below_alloc | apply pw_below_drewN | apply below_drew1) | exact HB.out)⟩⟩
    ·rw [if_neg c4] at H
     exact absurd H (by simp)
   ·rw [if_neg c3] at H
    have c3b0 : decide (x5_1 < (x0_1.length : Int)) = false := decide_eq_false c3
    clear c3
    simp only [Option.some.injEq, Prod.mk.injEq] at H
    obtain ⟨rfl, rfl⟩ := H
    obtain ⟨Ao9, co9, eo9⟩ := Kd.R_slice HO_0.out
    subst eo9
    go_wp2
    go_ret
    exact ⟨by first | rfl | (simp [errW_none, errW_some] <;> rfl) | (simp [*, errW_none, errW_some] <;> rfl), by (with_reducible repeat (first | apply Kd.R_alloc | apply Kd.R_drewN | apply Kd.R_drew)); exact HO_0.out, by repeat (first | (with_reducible first | exact HB.out | apply below_alloc | apply pw_below_drewN | apply below_drew1) | exact HB.out), by repeat (first | (with_reducible first | exact HK.out | apply Kept.alloc | apply Kept.drewN | apply Kept.drew) | exact HK.out)⟩

def laws_markInt16SS.l0 : Nat → List (List Int) → Int → Int → Option (Int × List (List Int))
 | 0, _, _, _ => none
 | k + 1, x0, x1, x5 => if x5 < (x0.length : Int) then (if 0 ≤ x5 then ((laws_markInt16S.f k (x0.getD x5.toNat []) x1).bind fun bt => laws_markInt16SS.l0 k (x0.set x5.toNat bt.2) bt.1 (wrap64 (x5 + 1))) else (none)) else (some (x1, x0))
def laws_markInt16SS.f (k : Nat) (l0 : List (List Int)) (a1 : Int) : Option (Int × List (List Int)) := laws_markInt16SS.l0 k l0 a1 0
theorem laws_markInt16SS.mono_l : ∀ k, (∀ y0 y1 y2, LeO (laws_markInt16SS.l0 k y0 y1 y2) (laws_markInt16SS.l0 (k + 1) y0 y1 y2))
 | 0 => fun _ _ _ r h => by simp [laws_markInt16SS.l0] at h
 | k + 1 => by
  have ih0 := laws_markInt16SS.mono_l k
  intro y0 y1 y2
  unfold laws_markInt16SS.l0
  repeat' first
   | (with_reducible exact ih0 _ _ _)
   | (with_reducible exact laws_markInt16S.mono _ _ _)
   | (with_reducible exact LeO.refl _)
   | (with_reducible exact LeO.none _)
   | (with_reducible refine LeO.ite ?_ ?_)
   | (with_reducible refine LeO.bind ?_ (fun _ => ?_))
   | exact ih0 _ _ _
   | exact laws_markInt16S.mono _ _ _
theorem laws_markInt16SS.mono : ∀ a0 a1 k, LeO (laws_markInt16SS.f k a0 a1) (laws_markInt16SS.f (k + 1) a0 a1) := fun a0 a1 k => laws_markInt16SS.mono_l k a0 a1 0
set_option maxHeartbeats 8000000 in
set_option maxRecDepth 100000 in
theorem laws_markInt16SS.calls (k : Nat) (P0_ : Nat → Prop) (u9000_ : Value) (l0 : List (List Int)) (a1 : Int) (r1 : Int) (r2 : List (List Int)) (w0 w : World) (hB : Below w0.heap.size w0 w) (ho0 : Kd.S (Kd.slice 49 (Kd.int .i16)) 22 w w0.heap.size P0_ u9000_ l0) (h : laws_markInt16SS.f k l0 a1 = some (r1, r2)) :
  Calls Tryd.prog 33 #[u9000_, .int .i64 a1] w fun e w' => e = .returned (.int .i64 r1) ∧ Kd.S (Kd.slice 49 (Kd.int .i16)) 22 w' w0.heap.size P0_ u9000_ r2 ∧ Below w0.heap.size w0 w' ∧ Kept w w' P0_ := by
 have HO0 := Aside0.mk ho0
 have HK := Aside0.mk (Kept.refl w P0_)
 have HB := Aside0.mk hB
 clear hB ho0
 have H' := Aside0.mk (show laws_markInt16SS.l0 k l0 a1 0 = some (r1, r2) from h)
 clear h
 go_enter Tryd.func33, Tryd.ntmps33
 go_wp2
 go_loopg [1, 5] k (fun kq v1 v5 w' => ∃ (x0_1 : List (List Int)) (x1_1 : Int) (x5_1 : Int), v1 = .int .i64 x1_1 ∧ v5 = .int .i64 x5_1 ∧ Aside0 (laws_markInt16SS.l0 kq x0_1 x1_1 x5_1 = some (r1, r2)) ∧ Aside0 (kq ≤ k) ∧ Aside0 (Kd.S (Kd.slice 49 (Kd.int .i16)) 22 w' w0.heap.size P0_ u9000_ x0_1) ∧ Aside0 (Kept w w' P0_) ∧ Aside0 (Below w0.heap.size w0 w'))
 case atStart => exact ⟨l0, a1, 0, rfl, rfl, H', ⟨Nat.le_refl _⟩, ⟨by (with_reducible repeat (first | apply Kd.S_alloc | apply Kd.S_drewN | apply Kd.S_drew)); exact HO0.out⟩, ⟨by (with_reducible repeat (first | exact HK.out | apply Kept.alloc | apply Kept.drewN | apply Kept.drew))⟩, ⟨by (with_reducible repeat (first | exact HB.out | apply below_alloc | apply pw_below_drewN | apply below_drew1))⟩⟩
 case round =>
  clear H'
  obtain ⟨x0_1, x1_1, x5_1, rfl, rfl, HA, HK1, HO_0, HK, HB⟩ := hrel
  obtain ⟨Ao, co, eo⟩ := Kd.S_slice HO_0.out
  subst eo
  cases gk with
  | zero => exact absurd HA.out (by simp [laws_markInt16SS.l0])
  | succ k1 =>
   have H := HA.out
   clear HA
   simp only [laws_markInt16SS.l0] at H
   by_cases c3 : x5_1 < (x0_1.length : Int)
   ·rw [if_pos c3] at H
    have c3b0 : decide (x5_1 < (x0_1.length : Int)) = true := decide_eq_true c3
    by_cases c4 : 0 ≤ x5_1
    ·rw [if_pos c4] at H
     have c4b0 : decide (0 ≤ x5_1) = true := decide_eq_true c4
     replace H := Option.bind_eq_some_iff.mp H
     obtain ⟨⟨t1, t2⟩, A7, H⟩ := H
     have H' := Aside0.mk (show laws_markInt16SS.l0 k1 (x0_1.set x5_1.toNat t2) t1 (wrap64 (x5_1 + 1)) = some (r1, r2) from H)
     clear H
     obtain ⟨gg, cap, eg, _, _, _⟩ := Kd.S_form HO_0.out (by omega)
     cases eg
     obtain ⟨oki, c, hcl, hM, hcc, hoki, hH⟩ := Kd.S_lend HO_0.out [] x5_1 c4 c3
     obtain ⟨el, hel⟩ : ∃ el : List Int, el = x0_1.getD x5_1.toNat [] := ⟨_, rfl⟩
     rw [← hel] at hM A7
     have A7' := Aside0.mk A7
     clear A7
     clear hel
     obtain ⟨v, rfl, hR⟩ := hM
     obtain ⟨A1, c1, e1⟩ := Kd.R_slice hR
     subst e1
     have hx0 := hcc 0 _ rfl
     simp only [show (Kd.slice 49 (Kd.int .i16)).sz = 1 from rfl, Nat.mul_one, Nat.add_zero] at hx0
     have HR := Aside0.mk hR
     have HH := Aside0.mk hH
     have HQ := Aside0.mk hoki
     clear hcc hH hR hoki hcl
     replace c3 := eq_true c3
     replace c4 := eq_true c4
     go_wp2_with (first | (go_at_call 32; (with_reducible refine (laws_markInt16S.calls k1 oki (.slice A1 el.length c1) el x1_1 t1 t2 w0 _ ?side1 ?side2 A7'.out).mono ?_); (case side1 => (with_reducible repeat (first | exact HB.out | apply below_alloc | apply pw_below_drewN | apply below_drew1))); (case side2 => (with_reducible repeat (first | apply Kd.R_alloc | apply Kd.R_drewN | apply Kd.R_drew)); exact HR.out); rintro e w7 ⟨rfl, hy0, hb, hkp⟩; have n0_ := Aside0.mk (show Kd.S (Kd.slice 49 (Kd.int .i16)) 22 w7 w0.heap.size P0_ (.slice (some ⟨gg, 0, none⟩) x0_1.length _) (x0_1.set x5_1.toNat t2) from Kd.H_back (d := (Kd.slice 49 (Kd.int .i16))) (x' := t2) (Kd.H_step (by (with_reducible repeat (first | apply Kd.H_alloc | apply Kd.H_drewN | apply Kd.H_drew)); exact HH.out) (fun k_ _ hn_ hlt_ => hkp.2 k_ hlt_ hn_)) ⟨_, rfl, Kd.R_reok rfl hy0 (fun k_ e_ => HR.out.1 k_ e_)⟩ (fun _ h_ => h_)); have n1_ := Aside0.mk (Kept.then_ (S := P0_) (by (with_reducible repeat (first | exact HK.out | apply Kept.alloc | apply Kept.drewN | apply Kept.drew))) hkp (fun k_ h_ => .inl (HQ.out k_ h_).1)); have n2_ := Aside0.mk hb; clear HO_0 HK HB hy0 hb hkp; have HO_0 := n0_; have HK := n1_; have HB := n2_; clear n0_ n1_ n2_))
     go_roundg k1
     case measure => have := HK1.out; omega
     case rel => exact ⟨_, t1, wrap64 (x5_1 + 1), (by first | rfl | (simp; done) | (simp [*]; done)), (by first | rfl | (simp; done) | (simp [*]; done)), H', ⟨by have := HK1.out; omega⟩, ⟨by (with_reducible repeat (first | apply Kd.S_alloc | apply Kd.S_drewN | apply Kd.S_drew)); exact HO_0.out⟩, ⟨by (with_reducible repeat (first | exact HK.out | apply Kept.alloc | apply Kept.drewN | apply Kept.drew))⟩, ⟨by (with_reducible repeat (first | exact HB.out | apply below_alloc | apply pw_below_drewN | apply below_drew1))⟩⟩
    ·rw [if_neg c4] at H
     exact absurd H (by simp)
   ·rw [if_neg c3] at H
    have c3b0 : decide (x5_1 < (x0_1.length : Int)) = false := decide_eq_false c3
    clear c3
    have H2 := Option.some.inj H
    injection H2 with e1_ e2_
    subst e1_
    subst e2_
    go_wp2
    go_ret
    exact ⟨rfl, by (with_reducible repeat (first | apply Kd.S_alloc | apply Kd.S_drewN | apply Kd.S_drew)); exact HO_0.out, by (with_reducible repeat (first | exact HB.out | apply below_alloc | apply pw_below_drewN | apply below_drew1)), by (with_reducible repeat (first | exact HK.out | apply Kept.alloc | apply Kept.drewN | apply Kept.drew))⟩

def laws_markTable.f (k : Nat) (l0_0 : List Int) (l0_1 : List (List Int)) (a1 : Int) : Option (Int × List Int × List (List Int)) := (laws_markInt16S.f k l0_0 a1).bind fun bt => ((laws_markInt16SS.f k l0_1 bt.1).bind fun bu => some (bu.1, bt.2, bu.2))
theorem laws_markTable.mono : ∀ a0 a1 a2 k, LeO (laws_markTable.f k a0 a1 a2) (laws_markTable.f (k + 1) a0 a1 a2) := by
 intro a0 a1 a2 k
 unfold laws_markTable.f
 exact LeO.bind (laws_markInt16S.mono _ _ _) (fun _ => LeO.bind (laws_markInt16SS.mono _ _ _) (fun _ => LeO.refl _))
set_option maxHeartbeats 8000000 in
set_option maxRecDepth 100000 in
theorem laws_markTable.calls (k : Nat) (P0_0_ : Nat → Prop) (u9000_ : Value) (l0_0 : List Int) (P0_1_ : Nat → Prop) (u9001_ : Value) (l0_1 : List (List Int)) (a1 : Int) (r1 : Int) (r2 : List Int) (r3 : List (List Int)) (w0 w : World) (hB : Below w0.heap.size w0 w) (ho0 : Kd.R (Kd.int .i16) 49 w w0.heap.size P0_0_ u9000_ l0_0) (ho1 : Kd.S (Kd.slice 49 (Kd.int .i16)) 22 w w0.heap.size P0_1_ u9001_ l0_1) (hap : ∀ k_, P0_1_ k_ → some k_ ≠ u9000_.ownBlock) (h : laws_markTable.f k l0_0 l0_1 a1 = some (r1, r2, r3)) :
  Calls Tryd.prog 12 #[.agg #[u9000_, u9001_], .int .i64 a1] w fun e w' => e = .returned (.int .i64 r1) ∧ Kd.R (Kd.int .i16) 49 w' w0.heap.size (fun k_ => ((P0_0_ k_ ∨ P0_1_ k_) ∨ w.heap.size ≤ k_)) u9000_ r2 ∧ Kd.S (Kd.slice 49 (Kd.int .i16)) 22 w' w0.heap.size P0_1_ u9001_ r3 ∧ Below w0.heap.size w0 w' ∧ Kept w w' (fun k_ => P0_0_ k_ ∨ P0_1_ k_) := by
 obtain ⟨A0, c0, e0_⟩ := Kd.R_slice ho0
 subst e0_
 obtain ⟨A1, c1, e1_⟩ := Kd.S_slice ho1
 subst e1_
 have hu := Tryd.underlying28
 unfold laws_markTable.f at h
 obtain ⟨⟨t1, t2⟩, hm1, h⟩ := Option.bind_eq_some_iff.mp h
 obtain ⟨⟨t3, t4⟩, hm2, h⟩ := Option.bind_eq_some_iff.mp h
 have h' := Option.some.inj h
 simp only [Prod.mk.injEq] at h'
 obtain ⟨q1, q2, q3⟩ := h'
 subst q1 q2 q3
 clear h
 have M1 := Aside0.mk hm1
 have M2 := Aside0.mk hm2
 have LT := Aside0.mk (Kd.R_lt ho0)
 have AP := Aside0.mk hap
 have HO0 := Aside0.mk (Kd.R_tight2 rfl ho0)
 have HO1 := Aside0.mk ho1
 have HK := Aside0.mk (Kept.refl w (fun k_ => P0_0_ k_ ∨ P0_1_ k_))
 have HB := Aside0.mk hB
 have HW := Aside0.mk (Nat.le_refl w.heap.size)
 clear hm1 hm2 ho0 ho1 hB hap
 go_enter Tryd.func12, Tryd.ntmps12
 go_wp2_with (first | ((with_reducible refine gate_dst (N := 2) rfl ?_); refine box_event ?hg (N := 2) ?hd (cs := #[.slice A0 l0_0.length c0, .slice A1 l0_1.length c1]) (t := 28) ?hr ?_; (case hd => rfl); (case hg => rfl); (case hr => first | (go_simp; done) | (go_simp; rfl)); intro gb hg wb hbox hb; have n0_ := Aside0.mk (Kd.R_below (by (with_reducible repeat (first | apply Kd.R_alloc | apply Kd.R_drewN | apply Kd.R_drew)); exact HO0.out) hb); have n1_ := Aside0.mk (Kd.S_below (by (with_reducible repeat (first | apply Kd.S_alloc | apply Kd.S_drewN | apply Kd.S_drew)); exact HO1.out) hb); have n2_ := Aside0.mk (Kept.below (S := (fun k_ => P0_0_ k_ ∨ P0_1_ k_)) (by (with_reducible repeat (first | exact HK.out | apply Kept.alloc | apply Kept.drewN | apply Kept.drew))) hb); have n3_ := Aside0.mk (below_step (by (with_reducible repeat (first | exact HB.out | apply below_alloc | apply pw_below_drewN | apply below_drew1))) hb); have n4_ := Aside0.mk hbox; have n5_ := Aside0.mk ((by rw [hg]; exact (show Kept w _ (fun k_ => P0_0_ k_ ∨ P0_1_ k_) from by (with_reducible repeat (first | exact HK.out | apply Kept.alloc | apply Kept.drewN | apply Kept.drew))).1) : w.heap.size ≤ gb); clear HO0 HO1 HK HB hb hbox hg; have HO0 := n0_; have HO1 := n1_; have HK := n2_; have HB := n3_; have BK := n4_; have GW := n5_; clear n0_ n1_ n2_ n3_ n4_ n5_; have hcz_0 : wb.cell? ⟨gb, 0, none⟩ = some (.slice A0 l0_0.length c0) := (blk_cell BK.out 0).trans rfl; have hcz_1 : wb.cell? ⟨gb, 1, none⟩ = some (.slice A1 l0_1.length c1) := (blk_cell BK.out 1).trans rfl; have hfz_0 := blk_frozen BK.out 0; have hfz_1 := blk_frozen BK.out 1) | (go_at_call 32; (with_reducible refine (laws_markInt16S.calls k (fun k_ => some k_ = (.slice A0 l0_0.length c0 : Value).ownBlock) (.slice A0 l0_0.length c0) l0_0 a1 t1 t2 w0 _ ?side1 ?side2 M1.out).mono ?_); (case side1 => (with_reducible repeat (first | exact HB.out | apply below_alloc | apply pw_below_drewN | apply below_drew1))); (case side2 => exact Kd.R_tight rfl (by (with_reducible repeat (first | apply Kd.R_alloc | apply Kd.R_drewN | apply Kd.R_drew)); exact HO0.out)); rintro e w7 ⟨rfl, hy0, hb, hkp⟩; have n0_ := Aside0.mk (Kd.R_reok (ok := fun k_ => some k_ = (.slice A0 l0_0.length c0 : Value).ownBlock ∧ P0_0_ k_) rfl hy0 (fun k_ e_ => HO0.out.1 k_ e_)); have n1_ := Aside0.mk (Kd.S_mono (ok' := P0_1_) (Kd.S_keptB (by (with_reducible repeat (first | apply Kd.S_alloc | apply Kd.S_drewN | apply Kd.S_drew)); exact HO1.out) hkp (fun k_ hk_ hs_ => (AP.out k_ hk_) hs_)) (fun k_ hk_ => hk_.1)); have n2_ := Aside0.mk (Kept.then_ (S := (fun k_ => P0_0_ k_ ∨ P0_1_ k_)) (by (with_reducible repeat (first | exact HK.out | apply Kept.alloc | apply Kept.drewN | apply Kept.drew))) hkp (fun k_ hs_ => .inl (.inl (HO0.out.1 k_ hs_.symm).2))); have n3_ := Aside0.mk hb; have n4_ := Aside0.mk (blk_kept (by (with_reducible repeat (first | refine blk_drewN ?_ _ | refine blk_drew ?_ | refine blk_alloc ?_ _)); exact BK.out) hkp (fun hs_ => Nat.not_lt.2 GW.out (LT.out _ hs_.symm))); clear HO0 HO1 HK HB BK hy0 hb hkp hcz_0 hcz_1 hfz_0 hfz_1; have HO0 := n0_; have HO1 := n1_; have HK := n2_; have HB := n3_; have BK := n4_; clear n0_ n1_ n2_ n3_ n4_; have hcz_1 : w7.cell? ⟨gb, 1, none⟩ = some (.slice A1 l0_1.length c1) := (blk_cell BK.out 1).trans rfl; have hfz_1 := blk_frozen BK.out 1) | (go_at_call 33; (with_reducible refine (laws_markInt16SS.calls k P0_1_ (.slice A1 l0_1.length c1) l0_1 t1 t3 t4 w0 _ ?side1 ?side2 M2.out).mono ?_); (case side1 => (with_reducible repeat (first | exact HB.out | apply below_alloc | apply pw_below_drewN | apply below_drew1))); (case side2 => (with_reducible repeat (first | apply Kd.S_alloc | apply Kd.S_drewN | apply Kd.S_drew)); exact HO1.out); rintro e w8 ⟨rfl, hy1, hb, hkp⟩; have n0_ := Aside0.mk (Kd.R_mono (ok' := fun k_ => some k_ = (.slice A0 l0_0.length c0 : Value).ownBlock ∧ P0_0_ k_) (Kd.R_keptB (by (with_reducible repeat (first | apply Kd.R_alloc | apply Kd.R_drewN | apply Kd.R_drew)); exact HO0.out) hkp (fun k_ hk_ hs_ => (AP.out k_ hs_) hk_.1)) (fun k_ hk_ => hk_.1)); have n1_ := Aside0.mk hy1; have n2_ := Aside0.mk (Kept.then_ (S := (fun k_ => P0_0_ k_ ∨ P0_1_ k_)) (by (with_reducible repeat (first | exact HK.out | apply Kept.alloc | apply Kept.drewN | apply Kept.drew))) hkp (fun k_ hs_ => .inl (.inr hs_))); have n3_ := Aside0.mk hb; clear HO0 HO1 HK HB BK hy1 hb hkp hcz_1 hfz_1; have HO0 := n0_; have HO1 := n1_; have HK := n2_; have HB := n3_; clear n0_ n1_ n2_ n3_))
 go_ret
 exact ⟨rfl, by (with_reducible repeat (first | apply Kd.R_alloc | apply Kd.R_drewN | apply Kd.R_drew)); exact Kd.R_mono HO0.out (fun _ hk_ => .inl (.inl hk_.2)), by (with_reducible repeat (first | apply Kd.S_alloc | apply Kd.S_drewN | apply Kd.S_drew)); exact HO1.out, by (with_reducible repeat (first | exact HB.out | apply below_alloc | apply pw_below_drewN | apply below_drew1)), by (with_reducible repeat (first | exact HK.out | apply Kept.alloc | apply Kept.drewN | apply Kept.drew))⟩

def laws_heldInt16S.l0 : Nat → List Int → Int → Int → Option (Int)
 | 0, _, _, _ => none
 | k + 1, x0, x1, x5 => if x5 < (x0.length : Int) then (if 0 ≤ x5 then (if (rd x0 x5) = (IntKind.i16.wrap (x1)) then (laws_heldInt16S.l0 k x0 (wrap64 (x1 + 1)) (wrap64 (x5 + 1))) else (some (-1))) else (none)) else (some x1)
def laws_heldInt16S.f (k : Nat) (l0 : List Int) (a1 : Int) : Option (Int) := laws_heldInt16S.l0 k l0 a1 0
theorem laws_heldInt16S.mono_l : ∀ k, (∀ y0 y1 y2, LeO (laws_heldInt16S.l0 k y0 y1 y2) (laws_heldInt16S.l0 (k + 1) y0 y1 y2))
 | 0 => fun _ _ _ r h => by simp [laws_heldInt16S.l0] at h
 | k + 1 => by
  have ih0 := laws_heldInt16S.mono_l k
  ·intro y0 y1 y2
   unfold laws_heldInt16S.l0
   repeat' first
   | (with_reducible exact ih0 _ _ _)
   | (with_reducible exact LeO.refl _)
   | (with_reducible exact LeO.none _)
   | (with_reducible refine LeO.ite ?_ ?_)
   | (with_reducible refine LeO.bind ?_ (fun _ => ?_))
   | exact ih0 _ _ _
   | exact LeO.none _
   | refine LeO.ite ?_ ?_
   | refine LeO.bind ?_ (fun _ => ?_)
theorem laws_heldInt16S.mono : ∀ a0 a1 k, LeO (laws_heldInt16S.f k a0 a1) (laws_heldInt16S.f (k + 1) a0 a1) := by
 intro a0 a1 k
 have ih0 := laws_heldInt16S.mono_l k
 unfold laws_heldInt16S.f
 repeat' first
   | (with_reducible exact ih0 _ _ _)
   | (with_reducible exact LeO.refl _)
   | (with_reducible exact LeO.none _)
   | (with_reducible refine LeO.ite ?_ ?_)
   | (with_reducible refine LeO.bind ?_ (fun _ => ?_))
   | exact ih0 _ _ _
   | exact LeO.none _
   | refine LeO.ite ?_ ?_
   | refine LeO.bind ?_ (fun _ => ?_)
set_option maxHeartbeats 8000000 in
set_option maxRecDepth 100000 in
theorem laws_heldInt16S.calls (k : Nat) (A0 : Option Addr) (c0 : Nat) (l0 : List Int) (a1 : Int) (r : Int) (w : World) (hr0 : Kd.C (Kd.int .i16) w A0 l0.length l0) (hc0 : l0.length ≤ c0) (h : laws_heldInt16S.f k l0 a1 = some r) :
  Calls Tryd.prog 34 #[.slice A0 l0.length c0, .int .i64 a1] w fun e w' => e = .returned (.int .i64 r) ∧ Drawn0 w w' := by
 have HR0 := Aside0.mk hr0
 have HC0 := Aside0.mk hc0
 clear hr0 hc0
 have H : (laws_heldInt16S.l0 k l0 a1 0) = some r := h
 clear h
 have H' := Aside0.mk H
 clear H
 go_enter Tryd.func34, Tryd.ntmps34
 go_wp2
 go_loopg [1, 5] k (fun kq v1 v5 w' => ∃ (x1_1 : Int) (x5_1 : Int), v1 = .int .i64 x1_1 ∧ v5 = .int .i64 x5_1 ∧ Aside0 (laws_heldInt16S.l0 kq l0 x1_1 x5_1 = some r) ∧ Aside0 (kq ≤ k) ∧ Drawn0 w w')
 case atStart => exact ⟨(a1), (0), (by first | rfl | (simp; done) | (simp [*]; done)), (by first | rfl | (simp; done) | (simp [*]; done)), H', ⟨Nat.le_refl _⟩, by repeat (first | exact Drawn0.refl _ | apply Drawn0.step)⟩
 case round =>
  clear H'
  try clear p2
  obtain ⟨x1_1, x5_1, rfl, rfl, HA, HK1, ⟨m1, rfl⟩⟩ := hrel
  cases gk with
  | zero => exact absurd HA.out (by simp [laws_heldInt16S.l0])
  | succ k1 =>
   have H := HA.out
   clear HA
   simp only [laws_heldInt16S.l0] at H
   by_cases c3 : x5_1 < (l0.length : Int)
   ·rw [if_pos c3] at H
    have c3b0 : decide (x5_1 < (l0.length : Int)) = true := decide_eq_true c3
    clear c3
    by_cases c4 : 0 ≤ x5_1
    ·rw [if_pos c4] at H
     have c4b0 : decide (0 ≤ x5_1) = true := decide_eq_true c4
     clear c4
     by_cases c5 : (rd l0 x5_1) = (IntKind.i16.wrap (x1_1))
     ·rw [if_pos c5] at H
      have c5b0 : ((rd l0 x5_1) == (IntKind.i16.wrap (x1_1))) = true := beq_iff_eq.mpr c5
      have c5b1 : ((rd l0 x5_1) != (IntKind.i16.wrap (x1_1))) = false := bne_eq_false_iff_eq.mpr c5
      clear c5
      have H' := Aside0.mk H
      clear H
      have p204 : 0 ≤ (x5_1 : Int) := odt_
      have q204 : x5_1 < (l0.length : Int) := odt_
      obtain ⟨ad204, e204, hx204_0⟩ := Kd.at_int HR0.out x5_1 p204 q204
      cases e204
      replace p204 := eq_true p204
      replace q204 := eq_true q204
      go_wp2
      go_roundg k1
      case measure => have := HK1.out; omega
      case rel => exact ⟨(wrap64 (x1_1 + 1)), (wrap64 (x5_1 + 1)), (by first | rfl | (simp; done) | (simp [*]; done)), (by first | rfl | (simp; done) | (simp [*]; done)), H', ⟨by have := HK1.out; omega⟩, by repeat (first | exact Drawn0.refl _ | apply Drawn0.step)⟩
     ·rw [if_neg c5] at H
      have c5b0 : ((rd l0 x5_1) == (IntKind.i16.wrap (x1_1))) = false := beq_eq_false_iff_ne.mpr c5
      have c5b1 : ((rd l0 x5_1) != (IntKind.i16.wrap (x1_1))) = true := bne_iff_ne.mpr c5
      obtain rfl := Option.some.inj H
      have p204 : 0 ≤ (x5_1 : Int) := odt_
      have q204 : x5_1 < (l0.length : Int) := odt_
      obtain ⟨ad204, e204, hx204_0⟩ := Kd.at_int HR0.out x5_1 p204 q204
      cases e204
      replace p204 := eq_true p204
      replace q204 := eq_true q204
      go_wp2
      go_ret
      exact ⟨by first | rfl | (simp; done) | (simp [*]; done), by repeat (first | exact Drawn0.refl _ | apply Drawn0.step)⟩
    ·rw [if_neg c4] at H
     exact absurd H (by simp)
   ·rw [if_neg c3] at H
    have c3b0 : decide (x5_1 < (l0.length : Int)) = false := decide_eq_false c3
    clear c3
    obtain rfl := Option.some.inj H
    go_wp2
    go_ret
    exact ⟨by first | rfl | (simp; done) | (simp [*]; done), by repeat (first | exact Drawn0.refl _ | apply Drawn0.step)⟩

def laws_heldInt16SS.l0 : Nat → List (List Int) → Int → Int → Option (Int)
 | 0, _, _, _ => none
 | k + 1, x0, x1, x5 => if x5 < (x0.length : Int) then (if 0 ≤ x5 then ((laws_heldInt16S.f k (rd_L1 x0 x5) x1).bind fun t206 => (if t206 < 0 then (some (-1)) else (laws_heldInt16SS.l0 k x0 t206 (wrap64 (x5 + 1))))) else (none)) else (some x1)
def laws_heldInt16SS.f (k : Nat) (l0 : List (List Int)) (a1 : Int) : Option (Int) := laws_heldInt16SS.l0 k l0 a1 0
theorem laws_heldInt16SS.mono_l : ∀ k, (∀ y0 y1 y2, LeO (laws_heldInt16SS.l0 k y0 y1 y2) (laws_heldInt16SS.l0 (k + 1) y0 y1 y2))
 | 0 => fun _ _ _ r h => by simp [laws_heldInt16SS.l0] at h
 | k + 1 => by
  have ih0 := laws_heldInt16SS.mono_l k
  ·intro y0 y1 y2
   unfold laws_heldInt16SS.l0
   repeat' first
   | (with_reducible exact ih0 _ _ _)
   | (with_reducible exact laws_heldInt16S.mono _ _ _)
   | (with_reducible exact LeO.refl _)
   | (with_reducible exact LeO.none _)
   | (with_reducible refine LeO.ite ?_ ?_)
   | (with_reducible refine LeO.bind ?_ (fun _ => ?_))
   | exact ih0 _ _ _
   | exact laws_heldInt16S.mono _ _ _
   | exact LeO.none _
   | refine LeO.ite ?_ ?_
   | refine LeO.bind ?_ (fun _ => ?_)
theorem laws_heldInt16SS.mono : ∀ a0 a1 k, LeO (laws_heldInt16SS.f k a0 a1) (laws_heldInt16SS.f (k + 1) a0 a1) := by
 intro a0 a1 k
 have ih0 := laws_heldInt16SS.mono_l k
 unfold laws_heldInt16SS.f
 repeat' first
   | (with_reducible exact ih0 _ _ _)
   | (with_reducible exact laws_heldInt16S.mono _ _ _)
   | (with_reducible exact LeO.refl _)
   | (with_reducible exact LeO.none _)
   | (with_reducible refine LeO.ite ?_ ?_)
   | (with_reducible refine LeO.bind ?_ (fun _ => ?_))
   | exact ih0 _ _ _
   | exact laws_heldInt16S.mono _ _ _
   | exact LeO.none _
   | refine LeO.ite ?_ ?_
   | refine LeO.bind ?_ (fun _ => ?_)
set_option maxHeartbeats 8000000 in
set_option maxRecDepth 100000 in
theorem laws_heldInt16SS.calls (k : Nat) (A0 : Option Addr) (c0 : Nat) (l0 : List (List Int)) (a1 : Int) (r : Int) (w : World) (hr0 : Kd.C (Kd.slice 49 (Kd.int .i16)) w A0 l0.length l0) (hc0 : l0.length ≤ c0) (h : laws_heldInt16SS.f k l0 a1 = some r) :
  Calls Tryd.prog 35 #[.slice A0 l0.length c0, .int .i64 a1] w fun e w' => e = .returned (.int .i64 r) ∧ Drawn0 w w' := by
 have HR0 := Aside0.mk hr0
 have HC0 := Aside0.mk hc0
 clear hr0 hc0
 have H : (laws_heldInt16SS.l0 k l0 a1 0) = some r := h
 clear h
 have H' := Aside0.mk H
 clear H
 go_enter Tryd.func35, Tryd.ntmps35
 go_wp2
 go_loopg [1, 5] k (fun kq v1 v5 w' => ∃ (x1_1 : Int) (x5_1 : Int), v1 = .int .i64 x1_1 ∧ v5 = .int .i64 x5_1 ∧ Aside0 (laws_heldInt16SS.l0 kq l0 x1_1 x5_1 = some r) ∧ Aside0 (kq ≤ k) ∧ Drawn0 w w')
 case atStart => exact ⟨(a1), (0), (by first | rfl | (simp; done) | (simp [*]; done)), (by first | rfl | (simp; done) | (simp [*]; done)), H', ⟨Nat.le_refl _⟩, by repeat (first | exact Drawn0.refl _ | apply Drawn0.step)⟩
 case round =>
  clear H'
  try clear p2
  obtain ⟨x1_1, x5_1, rfl, rfl, HA, HK1, ⟨m1, rfl⟩⟩ := hrel
  cases gk with
  | zero => exact absurd HA.out (by simp [laws_heldInt16SS.l0])
  | succ k1 =>
   have H := HA.out
   clear HA
   simp only [laws_heldInt16SS.l0] at H
   by_cases c3 : x5_1 < (l0.length : Int)
   ·rw [if_pos c3] at H
    have c3b0 : decide (x5_1 < (l0.length : Int)) = true := decide_eq_true c3
    clear c3
    by_cases c4 : 0 ≤ x5_1
    ·rw [if_pos c4] at H
     have c4b0 : decide (0 ≤ x5_1) = true := decide_eq_true c4
     clear c4
     replace H := Option.bind_eq_some_iff.mp H
     obtain ⟨t206, A50, H⟩ := H
     replace H : (if t206 < 0 then (some (-1)) else (laws_heldInt16SS.l0 k1 l0 t206 (wrap64 (x5_1 + 1)))) = some r := H
     have A5 := Aside0.mk A50
     clear A50
     by_cases c6 : t206 < 0
     ·rw [if_pos c6] at H
      have c6b0 : decide (t206 < 0) = true := decide_eq_true c6
      clear c6
      obtain rfl := Option.some.inj H
      have p205 : 0 ≤ (x5_1 : Int) := odt_
      have q205 : x5_1 < (l0.length : Int) := odt_
      obtain ⟨ad205, A205_0, c205_0, e205, hx205_0, hl205_0, hi205_0⟩ := at_L1 HR0.out x5_1 p205 q205
      cases e205
      have HR205_0 := Aside0.mk hi205_0
      have HC205_0 := Aside0.mk hl205_0
      clear hi205_0 hl205_0
      replace p205 := eq_true p205
      replace q205 := eq_true q205
      go_wp2_with (first | ((with_reducible refine gate_callee (f := 34) rfl ?_); refine goesL_ (some 17) rfl rfl Tryd.func34 (by kernel_rfl) rfl #[.slice A205_0 (rd_L1 l0 x5_1).length c205_0, .int .i64 x1_1] rfl (by (try simp only [List.map_toArray, List.map_cons, List.map_nil]); first | done | rfl | (simp only [List.length_drop, List.length_take]; rfl)) ?_; (with_reducible refine (laws_heldInt16S.calls k1 _ _ (rd_L1 l0 x5_1) x1_1 t206 _ ?side1 ?side2 A5.out).mono ?_); (case side1 => repeat (first | exact HR205_0.out | (with_reducible refine Kd.C_alloc ?_ _) | (with_reducible refine Kd.C_drewN ?_ _) | (with_reducible refine Kd.C_drew ?_))); (case side2 => exact HC205_0.out); rintro e w' ⟨rfl, ⟨nd, rfl⟩⟩; refine ⟨_, rfl, ?_⟩))
      go_ret
      exact ⟨by first | rfl | (simp; done) | (simp [*]; done), by repeat (first | exact Drawn0.refl _ | apply Drawn0.step)⟩
     ·rw [if_neg c6] at H
      have c6b0 : decide (t206 < 0) = false := decide_eq_false c6
      clear c6
      have H' := Aside0.mk H
      clear H
      have p205 : 0 ≤ (x5_1 : Int) := odt_
      have q205 : x5_1 < (l0.length : Int) := odt_
      obtain ⟨ad205, A205_0, c205_0, e205, hx205_0, hl205_0, hi205_0⟩ := at_L1 HR0.out x5_1 p205 q205
      cases e205
      have HR205_0 := Aside0.mk hi205_0
      have HC205_0 := Aside0.mk hl205_0
      clear hi205_0 hl205_0
      replace p205 := eq_true p205
      replace q205 := eq_true q205
      go_wp2_with (first | ((with_reducible refine gate_callee (f := 34) rfl ?_); refine goesL_ (some 17) rfl rfl Tryd.func34 (by kernel_rfl) rfl #[.slice A205_0 (rd_L1 l0 x5_1).length c205_0, .int .i64 x1_1] rfl (by (try simp only [List.map_toArray, List.map_cons, List.map_nil]); first | done | rfl | (simp only [List.length_drop, List.length_take]; rfl)) ?_; (with_reducible refine (laws_heldInt16S.calls k1 _ _ (rd_L1 l0 x5_1) x1_1 t206 _ ?side1 ?side2 A5.out).mono ?_); (case side1 => repeat (first | exact HR205_0.out | (with_reducible refine Kd.C_alloc ?_ _) | (with_reducible refine Kd.C_drewN ?_ _) | (with_reducible refine Kd.C_drew ?_))); (case side2 => exact HC205_0.out); rintro e w' ⟨rfl, ⟨nd, rfl⟩⟩; refine ⟨_, rfl, ?_⟩))
      go_roundg k1
      case measure => have := HK1.out; omega
      case rel => exact ⟨(t206), (wrap64 (x5_1 + 1)), (by first | rfl | (simp; done) | (simp [*]; done)), (by first | rfl | (simp; done) | (simp [*]; done)), H', ⟨by have := HK1.out; omega⟩, by repeat (first | exact Drawn0.refl _ | apply Drawn0.step)⟩
    ·rw [if_neg c4] at H
     exact absurd H (by simp)
   ·rw [if_neg c3] at H
    have c3b0 : decide (x5_1 < (l0.length : Int)) = false := decide_eq_false c3
    clear c3
    obtain rfl := Option.some.inj H
    go_wp2
    go_ret
    exact ⟨by first | rfl | (simp; done) | (simp [*]; done), by repeat (first | exact Drawn0.refl _ | apply Drawn0.step)⟩

def laws_heldTable.f (k : Nat) (l0_0 : List Int) (l0_1 : List (List Int)) (a1 : Int) : Option (Int) := (laws_heldInt16S.f k l0_0 a1).bind fun t208 => (if t208 < 0 then (some (-1)) else ((laws_heldInt16SS.f k l0_1 t208).bind fun t209 => (if t209 < 0 then (some (-1)) else (some t209))))
theorem laws_heldTable.mono : ∀ a0 a1 a2 k, LeO (laws_heldTable.f k a0 a1 a2) (laws_heldTable.f (k + 1) a0 a1 a2) := by
 intro a0 a1 a2 k
 unfold laws_heldTable.f
 repeat' first
   | (with_reducible exact laws_heldInt16S.mono _ _ _)
   | (with_reducible exact laws_heldInt16SS.mono _ _ _)
   | (with_reducible exact LeO.refl _)
   | (with_reducible exact LeO.none _)
   | (with_reducible refine LeO.ite ?_ ?_)
   | (with_reducible refine LeO.bind ?_ (fun _ => ?_))
   | exact laws_heldInt16S.mono _ _ _
   | exact laws_heldInt16SS.mono _ _ _
   | exact LeO.none _
   | refine LeO.ite ?_ ?_
   | refine LeO.bind ?_ (fun _ => ?_)
set_option maxHeartbeats 8000000 in
set_option maxRecDepth 100000 in
theorem laws_heldTable.calls (k : Nat) (A0_0 : Option Addr) (c0_0 : Nat) (l0_0 : List Int) (A0_1 : Option Addr) (c0_1 : Nat) (l0_1 : List (List Int)) (a1 : Int) (r : Int) (w : World) (hr0_0 : Kd.C (Kd.int .i16) w A0_0 l0_0.length l0_0) (hc0_0 : l0_0.length ≤ c0_0) (hr0_1 : Kd.C (Kd.slice 49 (Kd.int .i16)) w A0_1 l0_1.length l0_1) (hc0_1 : l0_1.length ≤ c0_1) (h : laws_heldTable.f k l0_0 l0_1 a1 = some r) :
  Calls Tryd.prog 13 #[.agg #[.slice A0_0 l0_0.length c0_0, .slice A0_1 l0_1.length c0_1], .int .i64 a1] w fun e w' => e = .returned (.int .i64 r) ∧ Below w.heap.size w w' := by
 have hu28 := Tryd.underlying28
 have HR0_0 := Aside0.mk hr0_0
 have HC0_0 := Aside0.mk hc0_0
 clear hr0_0 hc0_0
 have HR0_1 := Aside0.mk hr0_1
 have HC0_1 := Aside0.mk hc0_1
 clear hr0_1 hc0_1
 have HB := Aside0.mk (Below.refl w.heap.size w)
 have H : ((laws_heldInt16S.f k l0_0 a1).bind fun t208 => (if t208 < 0 then (some (-1)) else ((laws_heldInt16SS.f k l0_1 t208).bind fun t209 => (if t209 < 0 then (some (-1)) else (some t209))))) = some r := h
 clear h
 replace H := Option.bind_eq_some_iff.mp H
 obtain ⟨t208, A30, H⟩ := H
 replace H : (if t208 < 0 then (some (-1)) else ((laws_heldInt16SS.f k l0_1 t208).bind fun t209 => (if t209 < 0 then (some (-1)) else (some t209)))) = some r := H
 have A3 := Aside0.mk A30
 clear A30
 by_cases c4 : t208 < 0
 ·rw [if_pos c4] at H
  have c4b0 : decide (t208 < 0) = true := decide_eq_true c4
  clear c4
  obtain rfl := Option.some.inj H
  go_enter Tryd.func13, Tryd.ntmps13
  go_wp2_with (first | ((with_reducible refine gate_dst (N := 2) rfl ?_); refine box_event ?hg (N := 2) ?hd (cs := #[.slice A0_0 l0_0.length c0_0, .slice A0_1 l0_1.length c0_1]) (t := 28) ?hr ?_; (case hd => rfl); (case hg => rfl); (case hr => first | (go_simp; done) | (go_simp; rfl)); intro gb207 hg w5 hbox hb; have n0_ := Aside0.mk (below_step (by repeat (first | (with_reducible first | exact HB.out | apply below_alloc | apply pw_below_drewN | apply below_drew1) | exact HB.out)) hb); have n1_ := Aside0.mk (hbox); have n2_ := Aside0.mk ((by rw [hg]; exact (below_size (by repeat (first | (with_reducible first | exact HB.out | apply below_alloc | apply pw_below_drewN | apply below_drew1) | exact HB.out))) : w.heap.size ≤ gb207)); have n3_ := Aside0.mk ((by rw [hg]; exact (below_size (by repeat (first | (with_reducible first | exact HB.out | apply below_alloc | apply pw_below_drewN | apply below_drew1) | exact HB.out))) : w.heap.size ≤ gb207)); clear HB; have HB := n0_; have BK207 := n1_; have GW207 := n2_; have GE207 := n3_; clear n0_ n1_ n2_ n3_; clear hb hbox hg; have hcz6_0 : w5.cell? ⟨gb207, 0, none⟩ = some (.slice A0_0 l0_0.length c0_0) := (blk_cell BK207.out 0).trans rfl; have hcz6_1 : w5.cell? ⟨gb207, 1, none⟩ = some (.slice A0_1 l0_1.length c0_1) := (blk_cell BK207.out 1).trans rfl; have hfz6_0 := blk_frozen BK207.out 0; have hfz6_1 := blk_frozen BK207.out 1) | ((with_reducible refine gate_callee (f := 34) rfl ?_); refine goesL_ (some 8) rfl rfl Tryd.func34 (by kernel_rfl) rfl #[.slice A0_0 l0_0.length c0_0, .int .i64 a1] rfl (by (try simp only [List.map_toArray, List.map_cons, List.map_nil]); first | done | rfl | (simp only [List.length_drop, List.length_take]; rfl)) ?_; (with_reducible refine (laws_heldInt16S.calls k _ _ l0_0 a1 t208 _ ?side1 ?side2 A3.out).mono ?_); (case side1 => repeat (first | exact (Kd.C_below HR0_0.out HB.out) | (with_reducible refine Kd.C_alloc ?_ _) | (with_reducible refine Kd.C_drewN ?_ _) | (with_reducible refine Kd.C_drew ?_))); (case side2 => exact HC0_0.out); rintro e w' ⟨rfl, ⟨nd, rfl⟩⟩; refine ⟨_, rfl, ?_⟩))
  go_ret
  exact ⟨by first | rfl | (simp [errW_none, errW_some] <;> rfl) | (simp [*, errW_none, errW_some] <;> rfl), by repeat (first | (with_reducible first | exact HB.out | apply below_alloc | apply pw_below_drewN | apply below_drew1 | refine below_set ?_ GE207.out) | exact HB.out)⟩
 ·rw [if_neg c4] at H
  have c4b0 : decide (t208 < 0) = false := decide_eq_false c4
  clear c4
  replace H := Option.bind_eq_some_iff.mp H
  obtain ⟨t209, A70, H⟩ := H
  replace H : (if t209 < 0 then (some (-1)) else (some t209)) = some r := H
  have A7 := Aside0.mk A70
  clear A70
  by_cases c8 : t209 < 0
  ·rw [if_pos c8] at H
   have c8b0 : decide (t209 < 0) = true := decide_eq_true c8
   clear c8
   obtain rfl := Option.some.inj H
   go_enter Tryd.func13, Tryd.ntmps13
   go_wp2_with (first | ((with_reducible refine gate_dst (N := 2) rfl ?_); refine box_event ?hg (N := 2) ?hd (cs := #[.slice A0_0 l0_0.length c0_0, .slice A0_1 l0_1.length c0_1]) (t := 28) ?hr ?_; (case hd => rfl); (case hg => rfl); (case hr => first | (go_simp; done) | (go_simp; rfl)); intro gb207 hg w9 hbox hb; have n0_ := Aside0.mk (below_step (by repeat (first | (with_reducible first | exact HB.out | apply below_alloc | apply pw_below_drewN | apply below_drew1) | exact HB.out)) hb); have n1_ := Aside0.mk (hbox); have n2_ := Aside0.mk ((by rw [hg]; exact (below_size (by repeat (first | (with_reducible first | exact HB.out | apply below_alloc | apply pw_below_drewN | apply below_drew1) | exact HB.out))) : w.heap.size ≤ gb207)); have n3_ := Aside0.mk ((by rw [hg]; exact (below_size (by repeat (first | (with_reducible first | exact HB.out | apply below_alloc | apply pw_below_drewN | apply below_drew1) | exact HB.out))) : w.heap.size ≤ gb207)); clear HB; have HB := n0_; have BK207 := n1_; have GW207 := n2_; have GE207 := n3_; clear n0_ n1_ n2_ n3_; clear hb hbox hg; have hcz10_0 : w9.cell? ⟨gb207, 0, none⟩ = some (.slice A0_0 l0_0.length c0_0) := (blk_cell BK207.out 0).trans rfl; have hcz10_1 : w9.cell? ⟨gb207, 1, none⟩ = some (.slice A0_1 l0_1.length c0_1) := (blk_cell BK207.out 1).trans rfl; have hfz10_0 := blk_frozen BK207.out 0; have hfz10_1 := blk_frozen BK207.out 1) | ((with_reducible refine gate_callee (f := 34) rfl ?_); refine goesL_ (some 8) rfl rfl Tryd.func34 (by kernel_rfl) rfl #[.slice A0_0 l0_0.length c0_0, .int .i64 a1] rfl (by (try simp only [List.map_toArray, List.map_cons, List.map_nil]); first | done | rfl | (simp only [List.length_drop, List.length_take]; rfl)) ?_; (with_reducible refine (laws_heldInt16S.calls k _ _ l0_0 a1 t208 _ ?side1 ?side2 A3.out).mono ?_); (case side1 => repeat (first | exact (Kd.C_below HR0_0.out HB.out) | (with_reducible refine Kd.C_alloc ?_ _) | (with_reducible refine Kd.C_drewN ?_ _) | (with_reducible refine Kd.C_drew ?_))); (case side2 => exact HC0_0.out); rintro e w' ⟨rfl, ⟨nd, rfl⟩⟩; refine ⟨_, rfl, ?_⟩) | ((with_reducible refine gate_callee (f := 35) rfl ?_); refine goesL_ (some 14) rfl rfl Tryd.func35 (by kernel_rfl) rfl #[.slice A0_1 l0_1.length c0_1, .int .i64 t208] rfl (by (try simp only [List.map_toArray, List.map_cons, List.map_nil]); first | done | rfl | (simp only [List.length_drop, List.length_take]; rfl)) ?_; (with_reducible refine (laws_heldInt16SS.calls k _ _ l0_1 t208 t209 _ ?side1 ?side2 A7.out).mono ?_); (case side1 => repeat (first | exact (Kd.C_below HR0_1.out (by repeat (first | (with_reducible first | exact HB.out | apply below_alloc | apply pw_below_drewN | apply below_drew1 | refine below_set ?_ GE207.out) | exact HB.out))) | (with_reducible refine Kd.C_alloc ?_ _) | (with_reducible refine Kd.C_drewN ?_ _) | (with_reducible refine Kd.C_drew ?_))); (case side2 => exact HC0_1.out); rintro e w' ⟨rfl, ⟨nd, rfl⟩⟩; refine ⟨_, rfl, ?_⟩))
   go_ret
   exact ⟨by first | rfl | (simp [errW_none, errW_some] <;> rfl) | (simp [*, errW_none, errW_some] <;> rfl), by repeat (first | (with_reducible first | exact HB.out | apply below_alloc | apply pw_below_drewN | apply below_drew1 | refine below_set ?_ GE207.out) | exact HB.out)⟩
  ·rw [if_neg c8] at H
   have c8b0 : decide (t209 < 0) = false := decide_eq_false c8
   clear c8
   obtain rfl := Option.some.inj H
   go_enter Tryd.func13, Tryd.ntmps13
   go_wp2_with (first | ((with_reducible refine gate_dst (N := 2) rfl ?_); refine box_event ?hg (N := 2) ?hd (cs := #[.slice A0_0 l0_0.length c0_0, .slice A0_1 l0_1.length c0_1]) (t := 28) ?hr ?_; (case hd => rfl); (case hg => rfl); (case hr => first | (go_simp; done) | (go_simp; rfl)); intro gb207 hg w11 hbox hb; have n0_ := Aside0.mk (below_step (by repeat (first | (with_reducible first | exact HB.out | apply below_alloc | apply pw_below_drewN | apply below_drew1) | exact HB.out)) hb); have n1_ := Aside0.mk (hbox); have n2_ := Aside0.mk ((by rw [hg]; exact (below_size (by repeat (first | (with_reducible first | exact HB.out | apply below_alloc | apply pw_below_drewN | apply below_drew1) | exact HB.out))) : w.heap.size ≤ gb207)); have n3_ := Aside0.mk ((by rw [hg]; exact (below_size (by repeat (first | (with_reducible first | exact HB.out | apply below_alloc | apply pw_below_drewN | apply below_drew1) | exact HB.out))) : w.heap.size ≤ gb207)); clear HB; have HB := n0_; have BK207 := n1_; have GW207 := n2_; have GE207 := n3_; clear n0_ n1_ n2_ n3_; clear hb hbox hg; have hcz12_0 : w11.cell? ⟨gb207, 0, none⟩ = some (.slice A0_0 l0_0.length c0_0) := (blk_cell BK207.out 0).trans rfl; have hcz12_1 : w11.cell? ⟨gb207, 1, none⟩ = some (.slice A0_1 l0_1.length c0_1) := (blk_cell BK207.out 1).trans rfl; have hfz12_0 := blk_frozen BK207.out 0; have hfz12_1 := blk_frozen BK207.out 1) | ((with_reducible refine gate_callee (f := 34) rfl ?_); refine goesL_ (some 8) rfl rfl Tryd.func34 (by kernel_rfl) rfl #[.slice A0_0 l0_0.length c0_0, .int .i64 a1] rfl (by (try simp only [List.map_toArray, List.map_cons, List.map_nil]); first | done | rfl | (simp only [List.length_drop, List.length_take]; rfl)) ?_; (with_reducible refine (laws_heldInt16S.calls k _ _ l0_0 a1 t208 _ ?side1 ?side2 A3.out).mono ?_); (case side1 => repeat (first | exact (Kd.C_below HR0_0.out HB.out) | (with_reducible refine Kd.C_alloc ?_ _) | (with_reducible refine Kd.C_drewN ?_ _) | (with_reducible refine Kd.C_drew ?_))); (case side2 => exact HC0_0.out); rintro e w' ⟨rfl, ⟨nd, rfl⟩⟩; refine ⟨_, rfl, ?_⟩) | ((with_reducible refine gate_callee (f := 35) rfl ?_); refine goesL_ (some 14) rfl rfl Tryd.func35 (by kernel_rfl) rfl #[.slice A0_1 l0_1.length c0_1, .int .i64 t208] rfl (by (try simp only [List.map_toArray, List.map_cons, List.map_nil]); first | done | rfl | (simp only [List.length_drop, List.length_take]; rfl)) ?_; (with_reducible refine (laws_heldInt16SS.calls k _ _ l0_1 t208 t209 _ ?side1 ?side2 A7.out).mono ?_); (case side1 => repeat (first | exact (Kd.C_below HR0_1.out (by repeat (first | (with_reducible first | exact HB.out | apply below_alloc | apply pw_below_drewN | apply below_drew1 | refine below_set ?_ GE207.out) | exact HB.out))) | (with_reducible refine Kd.C_alloc ?_ _) | (with_reducible refine Kd.C_drewN ?_ _) | (with_reducible refine Kd.C_drew ?_))); (case side2 => exact HC0_1.out); rintro e w' ⟨rfl, ⟨nd, rfl⟩⟩; refine ⟨_, rfl, ?_⟩))
   go_ret
   exact ⟨by first | rfl | (simp [errW_none, errW_some] <;> rfl) | (simp [*, errW_none, errW_some] <;> rfl), by repeat (first | (with_reducible first | exact HB.out | apply below_alloc | apply pw_below_drewN | apply below_drew1 | refine below_set ?_ GE207.out) | exact HB.out)⟩

end Go.Proofs.YtdeipindfhkioaaDoor.Q
