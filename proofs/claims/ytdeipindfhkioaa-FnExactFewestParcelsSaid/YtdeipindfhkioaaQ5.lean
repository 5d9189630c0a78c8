-- made by wip/tools/mk.py of this session's repo, by way of the kit's print.py: Lean checks it.
import Derived.Test.YtdeipindfhkioaaQ0
import Derived.Test.YtdeipindfhkioaaQ3
import Derived.Test.YtdeipindfhkioaaQ4
namespace Go.Proofs.Ytdeipindfhkioaa.Q
open Go.RowKit Go.Proofs.YtdeipindfhkioaaW.PrintWords Go.Proofs.YtdeipindfhkioaaW.PrintLast Go.Proofs.YtdeipindfhkioaaW.PrintMore Go.Proofs.YtdeipindfhkioaaMine
attribute [local go_sem] max2_int min2_int max_two min_two max_three min_three max_four min_four   -- for this text's walks alone
set_option linter.unusedVariables false
set_option linter.unusedSimpArgs false

/-! ### impl_itemCode: function 58 -/
def impl_itemCode.f (k : Nat) (l0_0 : List Int) (l0_1 : List (List Int)) (a1 : Int) (l2 : List Int) : Option (Int) := (impl_tableCode.f k l0_0 l0_1 a1 l2).bind fun t223 => (if t223 = 0 then ((impl_unless.f (decide ((l2.length : Int) ≤ 8)) 3).bind fun t224 => (some t224)) else (some t223))
theorem impl_itemCode.mono : ∀ a0 a1 a2 a3 k, LeO (impl_itemCode.f k a0 a1 a2 a3) (impl_itemCode.f (k + 1) a0 a1 a2 a3) := by
 intro a0 a1 a2 a3 k
 unfold impl_itemCode.f
 repeat' first
   | (with_reducible exact impl_tableCode.mono _ _ _ _ _)
   | (with_reducible exact LeO.refl _)
   | (with_reducible exact LeO.none _)
   | (with_reducible refine LeO.ite ?_ ?_)
   | (with_reducible refine LeO.bind ?_ (fun _ => ?_))
   | exact impl_tableCode.mono _ _ _ _ _
   | exact LeO.none _
   | refine LeO.ite ?_ ?_
   | refine LeO.bind ?_ (fun _ => ?_)
set_option maxHeartbeats 8000000 in
set_option maxRecDepth 100000 in
theorem impl_itemCode.calls (k : Nat) (A0_0 : Option Addr) (c0_0 : Nat) (l0_0 : List Int) (A0_1 : Option Addr) (c0_1 : Nat) (l0_1 : List (List Int)) (a1 : Int) (A2 : Option Addr) (c2 : Nat) (l2 : List Int) (r : Int) (w : World) (hr0_0 : Kd.C (Kd.int .i16) w A0_0 l0_0.length l0_0) (hc0_0 : l0_0.length ≤ c0_0) (hr0_1 : Kd.C (Kd.slice 81 (Kd.int .i16)) w A0_1 l0_1.length l0_1) (hc0_1 : l0_1.length ≤ c0_1) (hr2 : Kd.C (Kd.int .i64) w A2 l2.length l2) (hc2 : l2.length ≤ c2) (h : impl_itemCode.f k l0_0 l0_1 a1 l2 = some r) :
  Calls Try.prog 58 #[.agg #[.slice A0_0 l0_0.length c0_0, .slice A0_1 l0_1.length c0_1], .int .i64 a1, .slice A2 l2.length c2] w fun e w' => e = .returned (.int .i64 r) ∧ Below w.heap.size w w' := by
 have hu38 := Try.underlying38
 have HR0_0 := Aside0.mk hr0_0
 have HC0_0 := Aside0.mk hc0_0
 clear hr0_0 hc0_0
 have HR0_1 := Aside0.mk hr0_1
 have HC0_1 := Aside0.mk hc0_1
 clear hr0_1 hc0_1
 have HR2 := Aside0.mk hr2
 have HC2 := Aside0.mk hc2
 clear hr2 hc2
 have HB := Aside0.mk (Below.refl w.heap.size w)
 have H : ((impl_tableCode.f k l0_0 l0_1 a1 l2).bind fun t223 => (if t223 = 0 then ((impl_unless.f (decide ((l2.length : Int) ≤ 8)) 3).bind fun t224 => (some t224)) else (some t223))) = some r := h
 clear h
 replace H := Option.bind_eq_some_iff.mp H
 obtain ⟨t223, A40, H⟩ := H
 replace H : (if t223 = 0 then ((impl_unless.f (decide ((l2.length : Int) ≤ 8)) 3).bind fun t224 => (some t224)) else (some t223)) = some r := H
 have A4 := Aside0.mk A40
 clear A40
 by_cases c5 : t223 = 0
 ·rw [if_pos c5] at H
  have c5b0 : (t223 == 0) = true := beq_iff_eq.mpr c5
  have c5b1 : (t223 != 0) = false := bne_eq_false_iff_eq.mpr c5
  clear c5
  replace H := Option.bind_eq_some_iff.mp H
  obtain ⟨t224, A60, H⟩ := H
  replace H : (some t224) = some r := H
  have A6 := Aside0.mk A60
  clear A60
  obtain rfl := Option.some.inj H
  go_enter Try.func58, Try.ntmps58
  go_wp2_with (first | ((with_reducible refine gate_dst (N := 3) rfl ?_); refine box_event ?hg (N := 3) ?hd (cs := #[.slice A0_0 l0_0.length c0_0, .slice A0_1 l0_1.length c0_1]) (t := 38) ?hr ?_; (case hd => rfl); (case hg => rfl); (case hr => first | (go_simp; done) | (go_simp; rfl)); intro gb222 hg w7 hbox hb; have n0_ := Aside0.mk (below_step (by repeat (first | (with_reducible first | exact HB.out | apply below_alloc | apply pw_below_drewN | apply below_drew1) | exact HB.out)) hb); have n1_ := Aside0.mk (hbox); have n2_ := Aside0.mk ((by rw [hg]; exact (below_size (by repeat (first | (with_reducible first | exact HB.out | apply below_alloc | apply pw_below_drewN | apply below_drew1) | exact HB.out))) : w.heap.size ≤ gb222)); have n3_ := Aside0.mk ((by rw [hg]; exact (below_size (by repeat (first | (with_reducible first | exact HB.out | apply below_alloc | apply pw_below_drewN | apply below_drew1) | exact HB.out))) : w.heap.size ≤ gb222)); clear HB; have HB := n0_; have BK222 := n1_; have GW222 := n2_; have GE222 := n3_; clear n0_ n1_ n2_ n3_; clear hb hbox hg; have hcz8_0 : w7.cell? ⟨gb222, 0, none⟩ = some (.slice A0_0 l0_0.length c0_0) := (blk_cell BK222.out 0).trans rfl; have hcz8_1 : w7.cell? ⟨gb222, 1, none⟩ = some (.slice A0_1 l0_1.length c0_1) := (blk_cell BK222.out 1).trans rfl; have hfz8_0 := blk_frozen BK222.out 0; have hfz8_1 := blk_frozen BK222.out 1) | ((with_reducible refine gate_callee (f := 97) rfl ?_); refine goesL_ (some 11) rfl rfl Try.func97 (by kernel_rfl) rfl #[.agg #[.slice A0_0 l0_0.length c0_0, .slice A0_1 l0_1.length c0_1], .int .i64 a1, .slice A2 l2.length c2] rfl (by (try simp only [List.map_toArray, List.map_cons, List.map_nil]); first | done | rfl | (simp only [List.length_drop, List.length_take]; rfl)) ?_; (with_reducible refine (impl_tableCode.calls k _ _ l0_0 _ _ l0_1 a1 _ _ l2 t223 _ ?side1 ?side2 ?side3 ?side4 ?side5 ?side6 A4.out).mono ?_); (case side1 => repeat (first | exact (Kd.C_below HR0_0.out HB.out) | (with_reducible refine Kd.C_alloc ?_ _) | (with_reducible refine Kd.C_drewN ?_ _) | (with_reducible refine Kd.C_drew ?_))); (case side2 => exact HC0_0.out); (case side3 => repeat (first | exact (Kd.C_below HR0_1.out HB.out) | (with_reducible refine Kd.C_alloc ?_ _) | (with_reducible refine Kd.C_drewN ?_ _) | (with_reducible refine Kd.C_drew ?_))); (case side4 => exact HC0_1.out); (case side5 => repeat (first | exact (Kd.C_below HR2.out HB.out) | (with_reducible refine Kd.C_alloc ?_ _) | (with_reducible refine Kd.C_drewN ?_ _) | (with_reducible refine Kd.C_drew ?_))); (case side6 => exact HC2.out); rintro e w9 ⟨rfl, hb⟩; refine ⟨_, rfl, ?_⟩; have n0_ := Aside0.mk (blk_below (g := gb222) (o := .cells #[.slice A0_0 l0_0.length c0_0, .slice A0_1 l0_1.length c0_1] 38 (0, 0)) (by (with_reducible repeat (first | refine blk_drewN ?_ _ | refine blk_drew ?_ | refine blk_alloc ?_ _)); exact BK222.out) hb); have n1_ := Aside0.mk (below_step (by repeat (first | (with_reducible first | exact HB.out | apply below_alloc | apply pw_below_drewN | apply below_drew1 | refine below_set ?_ GE222.out) | exact HB.out)) hb); clear BK222; clear HB; have BK222 := n0_; have HB := n1_; clear n0_ n1_; (try clear hb); (try clear hb2); (try clear hk); (try clear hi)) | ((with_reducible refine gate_callee (f := 98) rfl ?_); refine goesL_ (some 18) rfl rfl Try.func98 (by kernel_rfl) rfl #[.bool (decide ((l2.length : Int) ≤ 8)), .int .i64 3] rfl (by (try simp only [List.map_toArray, List.map_cons, List.map_nil]); first | done | rfl | (simp only [List.length_drop, List.length_take]; rfl)) ?_; (with_reducible refine (impl_unless.calls (decide ((l2.length : Int) ≤ 8)) 3 t224 _ A6.out).mono ?_); rintro e w' ⟨rfl, ⟨nd, rfl⟩⟩; refine ⟨_, rfl, ?_⟩))
  go_ret
  exact ⟨by first | rfl | (simp [errW_none, errW_some] <;> rfl) | (simp [*, errW_none, errW_some] <;> rfl), by repeat (first | (with_reducible first | exact HB.out | apply below_alloc | apply pw_below_drewN | apply below_drew1 | refine below_set ?_ GE222.out) | exact HB.out)⟩
 ·rw [if_neg c5] at H
  have c5b0 : (t223 == 0) = false := beq_eq_false_iff_ne.mpr c5
  have c5b1 : (t223 != 0) = true := bne_iff_ne.mpr c5
  obtain rfl := Option.some.inj H
  go_enter Try.func58, Try.ntmps58
  go_wp2_with (first | ((with_reducible refine gate_dst (N := 3) rfl ?_); refine box_event ?hg (N := 3) ?hd (cs := #[.slice A0_0 l0_0.length c0_0, .slice A0_1 l0_1.length c0_1]) (t := 38) ?hr ?_; (case hd => rfl); (case hg => rfl); (case hr => first | (go_simp; done) | (go_simp; rfl)); intro gb222 hg w10 hbox hb; have n0_ := Aside0.mk (below_step (by repeat (first | (with_reducible first | exact HB.out | apply below_alloc | apply pw_below_drewN | apply below_drew1) | exact HB.out)) hb); have n1_ := Aside0.mk (hbox); have n2_ := Aside0.mk ((by rw [hg]; exact (below_size (by repeat (first | (with_reducible first | exact HB.out | apply below_alloc | apply pw_below_drewN | apply below_drew1) | exact HB.out))) : w.heap.size ≤ gb222)); have n3_ := Aside0.mk ((by rw [hg]; exact (below_size (by repeat (first | (with_reducible first | exact HB.out | apply below_alloc | apply pw_below_drewN | apply below_drew1) | exact HB.out))) : w.heap.size ≤ gb222)); clear HB; have HB := n0_; have BK222 := n1_; have GW222 := n2_; have GE222 := n3_; clear n0_ n1_ n2_ n3_; clear hb hbox hg; have hcz11_0 : w10.cell? ⟨gb222, 0, none⟩ = some (.slice A0_0 l0_0.length c0_0) := (blk_cell BK222.out 0).trans rfl; have hcz11_1 : w10.cell? ⟨gb222, 1, none⟩ = some (.slice A0_1 l0_1.length c0_1) := (blk_cell BK222.out 1).trans rfl; have hfz11_0 := blk_frozen BK222.out 0; have hfz11_1 := blk_frozen BK222.out 1) | ((with_reducible refine gate_callee (f := 97) rfl ?_); refine goesL_ (some 11) rfl rfl Try.func97 (by kernel_rfl) rfl #[.agg #[.slice A0_0 l0_0.length c0_0, .slice A0_1 l0_1.length c0_1], .int .i64 a1, .slice A2 l2.length c2] rfl (by (try simp only [List.map_toArray, List.map_cons, List.map_nil]); first | done | rfl | (simp only [List.length_drop, List.length_take]; rfl)) ?_; (with_reducible refine (impl_tableCode.calls k _ _ l0_0 _ _ l0_1 a1 _ _ l2 t223 _ ?side1 ?side2 ?side3 ?side4 ?side5 ?side6 A4.out).mono ?_); (case side1 => repeat (first | exact (Kd.C_below HR0_0.out HB.out) | (with_reducible refine Kd.C_alloc ?_ _) | (with_reducible refine Kd.C_drewN ?_ _) | (with_reducible refine Kd.C_drew ?_))); (case side2 => exact HC0_0.out); (case side3 => repeat (first | exact (Kd.C_below HR0_1.out HB.out) | (with_reducible refine Kd.C_alloc ?_ _) | (with_reducible refine Kd.C_drewN ?_ _) | (with_reducible refine Kd.C_drew ?_))); (case side4 => exact HC0_1.out); (case side5 => repeat (first | exact (Kd.C_below HR2.out HB.out) | (with_reducible refine Kd.C_alloc ?_ _) | (with_reducible refine Kd.C_drewN ?_ _) | (with_reducible refine Kd.C_drew ?_))); (case side6 => exact HC2.out); rintro e w12 ⟨rfl, hb⟩; refine ⟨_, rfl, ?_⟩; have n0_ := Aside0.mk (blk_below (g := gb222) (o := .cells #[.slice A0_0 l0_0.length c0_0, .slice A0_1 l0_1.length c0_1] 38 (0, 0)) (by (with_reducible repeat (first | refine blk_drewN ?_ _ | refine blk_drew ?_ | refine blk_alloc ?_ _)); exact BK222.out) hb); have n1_ := Aside0.mk (below_step (by repeat (first | (with_reducible first | exact HB.out | apply below_alloc | apply pw_below_drewN | apply below_drew1 | refine below_set ?_ GE222.out) | exact HB.out)) hb); clear BK222; clear HB; have BK222 := n0_; have HB := n1_; clear n0_ n1_; (try clear hb); (try clear hb2); (try clear hk); (try clear hi)))
  go_ret
  exact ⟨by first | rfl | (simp [errW_none, errW_some] <;> rfl) | (simp [*, errW_none, errW_some] <;> rfl), by repeat (first | (with_reducible first | exact HB.out | apply below_alloc | apply pw_below_drewN | apply below_drew1 | refine below_set ?_ GE222.out) | exact HB.out)⟩

/-! ### f0z: function 103 -/
def f0z.f (a0 : Int) (a1_0 : Int) : Option (Bool) := some (decide ((wrap64 (a0)) ≥ a1_0))
set_option maxHeartbeats 8000000 in
set_option maxRecDepth 100000 in
theorem f0z.calls (a0 : Int) (B1_0 : Nat) (a1_0 : Int) (r : Bool) (w : World) (hkB1_0 : w.heap[B1_0]? = some (.cells #[.int .i64 a1_0] 2 (0, 0))) (h : f0z.f a0 a1_0 = some r) :
  Calls Try.prog 103 #[.int .i16 a0, .pointer (some ⟨B1_0, 0, none⟩)] w fun e w' => e = .returned (.bool r) ∧ Below w.heap.size w w' := by
 have BK225 := Aside0.mk hkB1_0
 clear hkB1_0
 have HB := Aside0.mk (Below.refl w.heap.size w)
 have H : (some (decide ((wrap64 (a0)) ≥ a1_0))) = some r := h
 clear h
 obtain rfl := Option.some.inj H
 have hcz3_0 : w.cell? ⟨B1_0, 0, none⟩ = some (.int .i64 a1_0) := (blk_cell BK225.out 0).trans rfl
 have hfz3_0 := blk_frozen BK225.out 0
 go_enter Try.func103, Try.ntmps103
 go_wp2
 go_ret
 exact ⟨by first | rfl | (simp [errW_none, errW_some] <;> rfl) | (simp [*, errW_none, errW_some] <;> rfl), by repeat (first | (with_reducible first | exact HB.out | apply below_alloc | apply pw_below_drewN | apply below_drew1 | refine below_set ?_ GE225.out) | exact HB.out)⟩

/-! ### f1z: function 102 -/
set_option maxHeartbeats 4000000 in
theorem f1z.calls (p : Int → Option Bool) (g : Nat) (lb : Array Value) (eg : ∀ args w, (callFunc g args).run Try.prog w = .ok (.enter g args) w) (A0 : Option Addr) (c0 : Nat) (l0 : List Int) (r : Int) (w : World) (hr0 : Kd.C (Kd.int .i16) w A0 l0.length l0)
  (hp : ∀ (W : World) (x : Int) (b : Bool), x ∈ l0 → p x = some b → Below w.heap.size w W → Calls Try.prog g (#[.int .i16 x] ++ lb) W fun e w' => e = .returned (.bool b) ∧ Below w.heap.size w w')
  (h : findO p l0 = some r) :
  Calls Try.prog 102 #[.slice A0 l0.length c0, .func (.func g) #[] lb] w fun e w' => e = .returned (.int .i64 r) ∧ Below w.heap.size w w' := by
 have hb9 : l0.length ≤ 9223372036854775807 := hr0.2.1
 have HR := Aside0.mk hr0
 have HP := Aside0.mk hp
 have HF := Aside0.mk h
 clear hr0 hp h
 go_enter Try.func102, Try.ntmps102
 go_wp2
 go_loopg [5, 8] l0.length (fun gg _ s8 wr => ∃ kk : Nat, kk ≤ l0.length ∧ l0.length - kk ≤ gg ∧ s8 = .int .i64 kk ∧ Aside0 (Below w.heap.size w wr) ∧ Aside0 (∀ x ∈ l0.take kk, p x = some false))
 case atStart => exact ⟨0, Nat.zero_le _, by omega, rfl, ⟨Below.refl _ w⟩, ⟨fun x hx => by simp at hx⟩⟩
 case round =>
  obtain ⟨kk, hkk, hg, rfl, BW, AF⟩ := hrel
  by_cases hlt : kk < l0.length
  ·have hltz : (kk : Int) < (l0.length : Int) := by omega
   obtain ⟨ad, cz, e0, _, hKz, hcz⟩ := Kd.C_get HR.out 0 (kk : Int) (by omega) (by omega)
   obtain rfl : cz = [.int .i16 (rd l0 (kk : Int))] := hKz
   have h0 := hcz 0 _ rfl
   clear hcz; (try clear hKz)
   simp only [show ((Kd.int .i16)).sz = 1 from rfl, Nat.mul_one, Nat.add_zero] at h0
   cases e0
   replace h0 := (BW.out.cell (World.block_lt_of_cell? w _ h0)).trans h0
   simp only [Int.toNat_natCast] at h0
   have hm : rd l0 (kk : Int) ∈ l0 ∧ l0[kk]? = some (rd l0 (kk : Int)) := get_mem 0 hlt
   obtain ⟨bq, hbq⟩ := findO_at p l0 kk _ r hm.2 AF.out HF.out
   have hcall := HP.out wr (rd l0 (kk : Int)) bq hm.1 hbq BW.out
   have hk2 : Aside0 (l0[kk]? = some (rd l0 (kk : Int))) := ⟨hm.2⟩
   have HQ := Aside0.mk hbq
   clear hm hbq
   generalize rd l0 (kk : Int) = y at hcall hk2 HQ h0
   cases bq with
   | true =>
    go_wp2_with (go_at_fn g; refine hcall.mono ?_; rintro e w' ⟨rfl, hb'⟩)
    go_ret
    refine ⟨?_, hb'⟩
    rw [findO_hit p l0 kk y r hk2.out HQ.out AF.out HF.out]
    rfl
   | false =>
    go_wp2_with (go_at_fn g; refine hcall.mono ?_; rintro e w' ⟨rfl, hb'⟩)
    go_roundg (l0.length - (kk + 1))
    case measure => omega
    case rel => exact ⟨kk + 1, by omega, by omega, by go_num, ⟨hb'⟩, ⟨take_step hk2.out HQ.out AF.out⟩⟩
  ·have hltz : ¬ (kk : Int) < (l0.length : Int) := by omega
   have hkl : Aside0 (kk = l0.length) := ⟨by omega⟩
   go_wp2
   go_ret
   refine ⟨?_, BW.out⟩
   rw [findO_miss p l0 r (fun x hx => AF.out x (by rw [hkl.out, List.take_length]; exact hx)) HF.out]
   rfl

/-! ### f2z: function 3000102 -/
def f2z.f (l0 : List Int) (a1_0 : Int) : Option (Int) := findO (fun x => f0z.f x a1_0) l0
set_option maxHeartbeats 4000000 in
theorem f2z.calls (A0 : Option Addr) (c0 : Nat) (l0 : List Int) (B1_0 : Nat) (a1_0 : Int) (r : Int) (w : World) (hr0 : Kd.C (Kd.int .i16) w A0 l0.length l0) (hc0 : l0.length ≤ c0) (hk1_0 : w.heap[B1_0]? = some (.cells #[.int .i64 a1_0] 2 (0, 0))) (h : f2z.f l0 a1_0 = some r) :
  Calls Try.prog 102 #[.slice A0 l0.length c0, .func (.func 103) #[] #[.pointer (some ⟨B1_0, 0, none⟩)]] w fun e w' => e = .returned (.int .i64 r) ∧ Below w.heap.size w w' :=
 f1z.calls (fun x => f0z.f x a1_0) 103 #[.pointer (some ⟨B1_0, 0, none⟩)] (enters_of Try.func103 (by kernel_rfl) rfl) A0 c0 l0 r w hr0 (fun W x b _ hp hb =>
  (f0z.calls x B1_0 a1_0 b W (blk_below hk1_0 hb) hp).mono fun e w' ⟨he, hd⟩ => ⟨he, below_step hb hd⟩) h

/-! ### impl_Table_step: function 72 -/
def impl_Table_step.f (l0_0 : List Int) (l0_1 : List (List Int)) (a1 : Int) : Option (Int) := (f2z.f l0_0 a1).bind fun t228 => (some t228)
set_option maxHeartbeats 8000000 in
set_option maxRecDepth 100000 in
theorem impl_Table_step.calls (A0_0 : Option Addr) (c0_0 : Nat) (l0_0 : List Int) (A0_1 : Option Addr) (c0_1 : Nat) (l0_1 : List (List Int)) (a1 : Int) (r : Int) (w : World) (hr0_0 : Kd.C (Kd.int .i16) w A0_0 l0_0.length l0_0) (hc0_0 : l0_0.length ≤ c0_0) (hr0_1 : Kd.C (Kd.slice 81 (Kd.int .i16)) w A0_1 l0_1.length l0_1) (hc0_1 : l0_1.length ≤ c0_1) (h : impl_Table_step.f l0_0 l0_1 a1 = some r) :
  Calls Try.prog 72 #[.agg #[.slice A0_0 l0_0.length c0_0, .slice A0_1 l0_1.length c0_1], .int .i64 a1] w fun e w' => e = .returned (.int .i64 r) ∧ Below w.heap.size w w' := by
 have hu38 := Try.underlying38
 have HR0_0 := Aside0.mk hr0_0
 have HC0_0 := Aside0.mk hc0_0
 clear hr0_0 hc0_0
 have HR0_1 := Aside0.mk hr0_1
 have HC0_1 := Aside0.mk hc0_1
 clear hr0_1 hc0_1
 have HB := Aside0.mk (Below.refl w.heap.size w)
 have H : ((f2z.f l0_0 a1).bind fun t228 => (some t228)) = some r := h
 clear h
 replace H := Option.bind_eq_some_iff.mp H
 obtain ⟨t228, A30, H⟩ := H
 replace H : (some t228) = some r := H
 have A3 := Aside0.mk A30
 clear A30
 obtain rfl := Option.some.inj H
 go_enter Try.func72, Try.ntmps72
 go_wp2_with (first | ((with_reducible refine gate_dst (N := 2) rfl ?_); refine box_event ?hg (N := 2) ?hd (cs := #[.slice A0_0 l0_0.length c0_0, .slice A0_1 l0_1.length c0_1]) (t := 38) ?hr ?_; (case hd => rfl); (case hg => rfl); (case hr => first | (go_simp; done) | (go_simp; rfl)); intro gb226 hg w4 hbox hb; have n0_ := Aside0.mk (below_step (by repeat (first | (with_reducible first | exact HB.out | apply below_alloc | apply pw_below_drewN | apply below_drew1) | exact HB.out)) hb); have n1_ := Aside0.mk (hbox); have n2_ := Aside0.mk ((by rw [hg]; exact (below_size (by repeat (first | (with_reducible first | exact HB.out | apply below_alloc | apply pw_below_drewN | apply below_drew1) | exact HB.out))) : w.heap.size ≤ gb226)); have n3_ := Aside0.mk ((by rw [hg]; exact (below_size (by repeat (first | (with_reducible first | exact HB.out | apply below_alloc | apply pw_below_drewN | apply below_drew1) | exact HB.out))) : w.heap.size ≤ gb226)); clear HB; have HB := n0_; have BK226 := n1_; have GW226 := n2_; have GE226 := n3_; clear n0_ n1_ n2_ n3_; clear hb hbox hg) | ((with_reducible refine gate_dst (N := 3) rfl ?_); refine box_event ?hg (N := 3) ?hd (cs := #[.int .i64 a1]) (t := 2) ?hr ?_; (case hd => rfl); (case hg => rfl); (case hr => first | (go_simp; done) | (go_simp; rfl)); intro gb227 hg w5 hbox hb; have n0_ := Aside0.mk (blk_below (g := gb226) (o := .cells #[.slice A0_0 l0_0.length c0_0, .slice A0_1 l0_1.length c0_1] 38 (0, 0)) (by (with_reducible repeat (first | refine blk_drewN ?_ _ | refine blk_drew ?_ | refine blk_alloc ?_ _)); exact BK226.out) hb); have n1_ := Aside0.mk (below_step (by repeat (first | (with_reducible first | exact HB.out | apply below_alloc | apply pw_below_drewN | apply below_drew1 | refine below_set ?_ GE226.out) | exact HB.out)) hb); have n2_ := Aside0.mk (hbox); have n3_ := Aside0.mk ((by rw [hg]; exact (below_size (by repeat (first | (with_reducible first | exact HB.out | apply below_alloc | apply pw_below_drewN | apply below_drew1 | refine below_set ?_ GE226.out) | exact HB.out))) : w.heap.size ≤ gb227)); have n4_ := Aside0.mk ((by rw [hg]; exact (below_size (by repeat (first | (with_reducible first | exact HB.out | apply below_alloc | apply pw_below_drewN | apply below_drew1 | refine below_set ?_ GE226.out) | exact HB.out))) : w.heap.size ≤ gb227)); have n5_ := Aside0.mk ((by rw [hg]; exact Nat.ne_of_lt (blk_lt (g := gb226) (o := .cells #[.slice A0_0 l0_0.length c0_0, .slice A0_1 l0_1.length c0_1] 38 (0, 0)) (by (with_reducible repeat (first | refine blk_drewN ?_ _ | refine blk_drew ?_ | refine blk_alloc ?_ _)); exact BK226.out)) : gb226 ≠ gb227)); have n6_ := Aside0.mk ((by rw [hg]; exact Nat.ne_of_gt (blk_lt (g := gb226) (o := .cells #[.slice A0_0 l0_0.length c0_0, .slice A0_1 l0_1.length c0_1] 38 (0, 0)) (by (with_reducible repeat (first | refine blk_drewN ?_ _ | refine blk_drew ?_ | refine blk_alloc ?_ _)); exact BK226.out)) : gb227 ≠ gb226)); clear BK226; clear HB; have BK226 := n0_; have HB := n1_; have BK227 := n2_; have GW227 := n3_; have GE227 := n4_; have NB226_227 := n5_; have NB227_226 := n6_; clear n0_ n1_ n2_ n3_ n4_ n5_ n6_; clear hb hbox hg; have hnb6 := NB226_227.out; have hnc6 := NB227_226.out; have hcz7_0 : w5.cell? ⟨gb226, 0, none⟩ = some (.slice A0_0 l0_0.length c0_0) := (blk_cell BK226.out 0).trans rfl; have hcz7_1 : w5.cell? ⟨gb226, 1, none⟩ = some (.slice A0_1 l0_1.length c0_1) := (blk_cell BK226.out 1).trans rfl; have hfz7_0 := blk_frozen BK226.out 0; have hfz7_1 := blk_frozen BK226.out 1) | ((with_reducible refine gate_callee (f := 102) rfl ?_); refine goesL_ (some 8) rfl rfl Try.func102 (by kernel_rfl) rfl #[.slice A0_0 l0_0.length c0_0, .func (.func 103) #[] #[.pointer (some ⟨gb227, 0, none⟩)]] rfl (by (try simp only [List.map_toArray, List.map_cons, List.map_nil]); first | done | rfl | (simp only [List.length_drop, List.length_take]; rfl)) ?_; (with_reducible refine (f2z.calls _ _ l0_0 gb227 a1 t228 _ ?side1 ?side2 ?side3 A3.out).mono ?_); (case side1 => repeat (first | exact (Kd.C_below HR0_0.out HB.out) | (with_reducible refine Kd.C_alloc ?_ _) | (with_reducible refine Kd.C_drewN ?_ _) | (with_reducible refine Kd.C_drew ?_))); (case side2 => exact HC0_0.out); (case side3 => (with_reducible repeat (first | refine blk_drewN ?_ _ | refine blk_drew ?_ | refine blk_alloc ?_ _)); exact BK227.out); rintro e w8 ⟨rfl, hb⟩; refine ⟨_, rfl, ?_⟩; have n0_ := Aside0.mk (blk_below (g := gb226) (o := .cells #[.slice A0_0 l0_0.length c0_0, .slice A0_1 l0_1.length c0_1] 38 (0, 0)) (by (with_reducible repeat (first | refine blk_drewN ?_ _ | refine blk_drew ?_ | refine blk_alloc ?_ _)); exact BK226.out) hb); have n1_ := Aside0.mk (blk_below (g := gb227) (o := .cells #[.int .i64 a1] 2 (0, 0)) (by (with_reducible repeat (first | refine blk_drewN ?_ _ | refine blk_drew ?_ | refine blk_alloc ?_ _)); exact BK227.out) hb); have n2_ := Aside0.mk (below_step (by repeat (first | (with_reducible first | exact HB.out | apply below_alloc | apply pw_below_drewN | apply below_drew1 | refine below_set ?_ GE226.out | refine below_set ?_ GE227.out) | exact HB.out)) hb); clear BK226; clear BK227; clear HB; have BK226 := n0_; have BK227 := n1_; have HB := n2_; clear n0_ n1_ n2_; (try clear hb); (try clear hb2); (try clear hk); (try clear hi)))
 go_ret
 exact ⟨by first | rfl | (simp [errW_none, errW_some] <;> rfl) | (simp [*, errW_none, errW_some] <;> rfl), by repeat (first | (with_reducible first | exact HB.out | apply below_alloc | apply pw_below_drewN | apply below_drew1 | refine below_set ?_ GE226.out | refine below_set ?_ GE227.out) | exact HB.out)⟩

/-! ### f3z: function 101 -/
def f3z.f (a0 : Int) (l1_0 : List Int) (l1_1 : List (List Int)) : Option (Bool) := (impl_Table_step.f l1_0 l1_1 a0).bind fun t230 => (some (decide (t230 < 0)))
set_option maxHeartbeats 8000000 in
set_option maxRecDepth 100000 in
theorem f3z.calls (a0 : Int) (B1_0 : Nat) (A1_0 : Option Addr) (c1_0 : Nat) (l1_0 : List Int) (A1_1 : Option Addr) (c1_1 : Nat) (l1_1 : List (List Int)) (r : Bool) (w : World) (hr1_0 : Kd.C (Kd.int .i16) w A1_0 l1_0.length l1_0) (hc1_0 : l1_0.length ≤ c1_0) (hr1_1 : Kd.C (Kd.slice 81 (Kd.int .i16)) w A1_1 l1_1.length l1_1) (hc1_1 : l1_1.length ≤ c1_1) (hkB1_0 : w.heap[B1_0]? = some (.cells #[.slice A1_0 l1_0.length c1_0, .slice A1_1 l1_1.length c1_1] 38 (0, 0))) (h : f3z.f a0 l1_0 l1_1 = some r) :
  Calls Try.prog 101 #[.int .i64 a0, .pointer (some ⟨B1_0, 0, none⟩)] w fun e w' => e = .returned (.bool r) ∧ Below w.heap.size w w' := by
 have hu38 := Try.underlying38
 have HR1_0 := Aside0.mk hr1_0
 have HC1_0 := Aside0.mk hc1_0
 clear hr1_0 hc1_0
 have HR1_1 := Aside0.mk hr1_1
 have HC1_1 := Aside0.mk hc1_1
 clear hr1_1 hc1_1
 have BK229 := Aside0.mk hkB1_0
 clear hkB1_0
 have HB := Aside0.mk (Below.refl w.heap.size w)
 have H : ((impl_Table_step.f l1_0 l1_1 a0).bind fun t230 => (some (decide (t230 < 0)))) = some r := h
 clear h
 replace H := Option.bind_eq_some_iff.mp H
 obtain ⟨t230, A30, H⟩ := H
 replace H : (some (decide (t230 < 0))) = some r := H
 have A3 := Aside0.mk A30
 clear A30
 obtain rfl := Option.some.inj H
 have hcz4_0 : w.cell? ⟨B1_0, 0, none⟩ = some (.slice A1_0 l1_0.length c1_0) := (blk_cell BK229.out 0).trans rfl
 have hcz4_1 : w.cell? ⟨B1_0, 1, none⟩ = some (.slice A1_1 l1_1.length c1_1) := (blk_cell BK229.out 1).trans rfl
 have hfz4_0 := blk_frozen BK229.out 0
 have hfz4_1 := blk_frozen BK229.out 1
 go_enter Try.func101, Try.ntmps101
 go_wp2_with (first | ((with_reducible refine gate_callee (f := 72) rfl ?_); refine goesL_ (some 6) rfl rfl Try.func72 (by kernel_rfl) rfl #[.agg #[.slice A1_0 l1_0.length c1_0, .slice A1_1 l1_1.length c1_1], .int .i64 a0] rfl (by (try simp only [List.map_toArray, List.map_cons, List.map_nil]); first | done | rfl | (simp only [List.length_drop, List.length_take]; rfl)) ?_; (with_reducible refine (impl_Table_step.calls _ _ l1_0 _ _ l1_1 a0 t230 _ ?side1 ?side2 ?side3 ?side4 A3.out).mono ?_); (case side1 => repeat (first | exact HR1_0.out | (with_reducible refine Kd.C_alloc ?_ _) | (with_reducible refine Kd.C_drewN ?_ _) | (with_reducible refine Kd.C_drew ?_))); (case side2 => exact HC1_0.out); (case side3 => repeat (first | exact HR1_1.out | (with_reducible refine Kd.C_alloc ?_ _) | (with_reducible refine Kd.C_drewN ?_ _) | (with_reducible refine Kd.C_drew ?_))); (case side4 => exact HC1_1.out); rintro e w5 ⟨rfl, hb⟩; refine ⟨_, rfl, ?_⟩; have n0_ := Aside0.mk (blk_below (g := B1_0) (o := .cells #[.slice A1_0 l1_0.length c1_0, .slice A1_1 l1_1.length c1_1] 38 (0, 0)) (by (with_reducible repeat (first | refine blk_drewN ?_ _ | refine blk_drew ?_ | refine blk_alloc ?_ _)); exact BK229.out) hb); have n1_ := Aside0.mk (below_step (by repeat (first | (with_reducible first | exact HB.out | apply below_alloc | apply pw_below_drewN | apply below_drew1 | refine below_set ?_ GE229.out) | exact HB.out)) hb); clear BK229; clear HB; have BK229 := n0_; have HB := n1_; clear n0_ n1_; (try clear hb); (try clear hb2); (try clear hk); (try clear hi)))
 go_ret
 exact ⟨by first | rfl | (simp [errW_none, errW_some] <;> rfl) | (simp [*, errW_none, errW_some] <;> rfl), by repeat (first | (with_reducible first | exact HB.out | apply below_alloc | apply pw_below_drewN | apply below_drew1 | refine below_set ?_ GE229.out) | exact HB.out)⟩

/-! ### f4z: function 4000099 -/
def f4z.f (l0 : List Int) (l1_0 : List Int) (l1_1 : List (List Int)) : Option (Bool) := anyO (fun x => f3z.f x l1_0 l1_1) l0
set_option maxHeartbeats 4000000 in
theorem f4z.calls (A0 : Option Addr) (c0 : Nat) (l0 : List Int) (B1_0 : Nat) (A1_0 : Option Addr) (c1_0 : Nat) (l1_0 : List Int) (A1_1 : Option Addr) (c1_1 : Nat) (l1_1 : List (List Int)) (r : Bool) (w : World) (hr0 : Kd.C (Kd.int .i64) w A0 l0.length l0) (hc0 : l0.length ≤ c0) (hr1_0 : Kd.C (Kd.int .i16) w A1_0 l1_0.length l1_0) (hc1_0 : l1_0.length ≤ c1_0) (hr1_1 : Kd.C (Kd.slice 81 (Kd.int .i16)) w A1_1 l1_1.length l1_1) (hc1_1 : l1_1.length ≤ c1_1) (hk1_0 : w.heap[B1_0]? = some (.cells #[.slice A1_0 l1_0.length c1_0, .slice A1_1 l1_1.length c1_1] 38 (0, 0))) (h : f4z.f l0 l1_0 l1_1 = some r) :
  Calls Try.prog 99 #[.slice A0 l0.length c0, .func (.func 101) #[] #[.pointer (some ⟨B1_0, 0, none⟩)]] w fun e w' => e = .returned (.bool r) ∧ Below w.heap.size w w' :=
 f15z.calls (fun x => f3z.f x l1_0 l1_1) 101 #[.pointer (some ⟨B1_0, 0, none⟩)] (enters_of Try.func101 (by kernel_rfl) rfl) A0 c0 l0 r w hr0 (fun W x b _ hp hb =>
  (f3z.calls x B1_0 A1_0 c1_0 l1_0 A1_1 c1_1 l1_1 b W (Kd.C_below hr1_0 hb) hc1_0 (Kd.C_below hr1_1 hb) hc1_1 (blk_below hk1_0 hb) hp).mono fun e w' ⟨he, hd⟩ => ⟨he, below_step hb hd⟩) h

/-! ### f5z: function 60 -/
def f5z.f (l0_0 : List Int) (l0_1 : List (List Int)) (l1 : List Int) : Option (Bool) := (f4z.f l1 l0_0 l0_1).bind fun t232 => (some (!t232))
set_option maxHeartbeats 8000000 in
set_option maxRecDepth 100000 in
theorem f5z.calls (A0_0 : Option Addr) (c0_0 : Nat) (l0_0 : List Int) (A0_1 : Option Addr) (c0_1 : Nat) (l0_1 : List (List Int)) (A1 : Option Addr) (c1 : Nat) (l1 : List Int) (r : Bool) (w : World) (hr0_0 : Kd.C (Kd.int .i16) w A0_0 l0_0.length l0_0) (hc0_0 : l0_0.length ≤ c0_0) (hr0_1 : Kd.C (Kd.slice 81 (Kd.int .i16)) w A0_1 l0_1.length l0_1) (hc0_1 : l0_1.length ≤ c0_1) (hr1 : Kd.C (Kd.int .i64) w A1 l1.length l1) (hc1 : l1.length ≤ c1) (h : f5z.f l0_0 l0_1 l1 = some r) :
  Calls Try.prog 60 #[.agg #[.slice A0_0 l0_0.length c0_0, .slice A0_1 l0_1.length c0_1], .slice A1 l1.length c1] w fun e w' => e = .returned (.bool r) ∧ Below w.heap.size w w' := by
 have hu38 := Try.underlying38
 have HR0_0 := Aside0.mk hr0_0
 have HC0_0 := Aside0.mk hc0_0
 clear hr0_0 hc0_0
 have HR0_1 := Aside0.mk hr0_1
 have HC0_1 := Aside0.mk hc0_1
 clear hr0_1 hc0_1
 have HR1 := Aside0.mk hr1
 have HC1 := Aside0.mk hc1
 clear hr1 hc1
 have HB := Aside0.mk (Below.refl w.heap.size w)
 have H : ((f4z.f l1 l0_0 l0_1).bind fun t232 => (some (!t232))) = some r := h
 clear h
 replace H := Option.bind_eq_some_iff.mp H
 obtain ⟨t232, A30, H⟩ := H
 replace H : (some (!t232)) = some r := H
 have A3 := Aside0.mk A30
 clear A30
 obtain rfl := Option.some.inj H
 go_enter Try.func60, Try.ntmps60
 go_wp2_with (first | ((with_reducible refine gate_dst (N := 2) rfl ?_); refine box_event ?hg (N := 2) ?hd (cs := #[.slice A0_0 l0_0.length c0_0, .slice A0_1 l0_1.length c0_1]) (t := 38) ?hr ?_; (case hd => rfl); (case hg => rfl); (case hr => first | (go_simp; done) | (go_simp; rfl)); intro gb231 hg w4 hbox hb; have n0_ := Aside0.mk (below_step (by repeat (first | (with_reducible first | exact HB.out | apply below_alloc | apply pw_below_drewN | apply below_drew1) | exact HB.out)) hb); have n1_ := Aside0.mk (hbox); have n2_ := Aside0.mk ((by rw [hg]; exact (below_size (by repeat (first | (with_reducible first | exact HB.out | apply below_alloc | apply pw_below_drewN | apply below_drew1) | exact HB.out))) : w.heap.size ≤ gb231)); have n3_ := Aside0.mk ((by rw [hg]; exact (below_size (by repeat (first | (with_reducible first | exact HB.out | apply below_alloc | apply pw_below_drewN | apply below_drew1) | exact HB.out))) : w.heap.size ≤ gb231)); clear HB; have HB := n0_; have BK231 := n1_; have GW231 := n2_; have GE231 := n3_; clear n0_ n1_ n2_ n3_; clear hb hbox hg) | ((with_reducible refine gate_callee (f := 99) rfl ?_); refine goesL_ (some 7) rfl rfl Try.func99 (by kernel_rfl) rfl #[.slice A1 l1.length c1, .func (.func 101) #[] #[.pointer (some ⟨gb231, 0, none⟩)]] rfl (by (try simp only [List.map_toArray, List.map_cons, List.map_nil]); first | done | rfl | (simp only [List.length_drop, List.length_take]; rfl)) ?_; (with_reducible refine (f4z.calls _ _ l1 gb231 A0_0 c0_0 l0_0 A0_1 c0_1 l0_1 t232 _ ?side1 ?side2 ?side3 ?side4 ?side5 ?side6 ?side7 A3.out).mono ?_); (case side1 => repeat (first | exact (Kd.C_below HR1.out HB.out) | (with_reducible refine Kd.C_alloc ?_ _) | (with_reducible refine Kd.C_drewN ?_ _) | (with_reducible refine Kd.C_drew ?_))); (case side2 => exact HC1.out); (case side3 => repeat (first | exact (Kd.C_below HR0_0.out HB.out) | (with_reducible refine Kd.C_alloc ?_ _) | (with_reducible refine Kd.C_drewN ?_ _) | (with_reducible refine Kd.C_drew ?_))); (case side4 => exact HC0_0.out); (case side5 => repeat (first | exact (Kd.C_below HR0_1.out HB.out) | (with_reducible refine Kd.C_alloc ?_ _) | (with_reducible refine Kd.C_drewN ?_ _) | (with_reducible refine Kd.C_drew ?_))); (case side6 => exact HC0_1.out); (case side7 => (with_reducible repeat (first | refine blk_drewN ?_ _ | refine blk_drew ?_ | refine blk_alloc ?_ _)); exact BK231.out); rintro e w5 ⟨rfl, hb⟩; refine ⟨_, rfl, ?_⟩; have n0_ := Aside0.mk (blk_below (g := gb231) (o := .cells #[.slice A0_0 l0_0.length c0_0, .slice A0_1 l0_1.length c0_1] 38 (0, 0)) (by (with_reducible repeat (first | refine blk_drewN ?_ _ | refine blk_drew ?_ | refine blk_alloc ?_ _)); exact BK231.out) hb); have n1_ := Aside0.mk (below_step (by repeat (first | (with_reducible first | exact HB.out | apply below_alloc | apply pw_below_drewN | apply below_drew1 | refine below_set ?_ GE231.out) | exact HB.out)) hb); clear BK231; clear HB; have BK231 := n0_; have HB := n1_; clear n0_ n1_; (try clear hb); (try clear hb2); (try clear hk); (try clear hi)))
 go_ret
 exact ⟨by first | rfl | (simp [errW_none, errW_some] <;> rfl) | (simp [*, errW_none, errW_some] <;> rfl), by repeat (first | (with_reducible first | exact HB.out | apply below_alloc | apply pw_below_drewN | apply below_drew1 | refine below_set ?_ GE231.out) | exact HB.out)⟩

/-! ### impl_parcelCode: function 69 -/
def impl_parcelCode.f (k : Nat) (l0_0 : List Int) (l0_1 : List (List Int)) (a1 : Int) (l2 : List Int) : Option (Int) := (impl_itemCode.f k l0_0 l0_1 a1 l2).bind fun t234 => (if t234 = 0 then ((f5z.f l0_0 l0_1 l2).bind fun t235 => ((impl_unless.f t235 6).bind fun t236 => (some t236))) else (some t234))
theorem impl_parcelCode.mono : ∀ a0 a1 a2 a3 k, LeO (impl_parcelCode.f k a0 a1 a2 a3) (impl_parcelCode.f (k + 1) a0 a1 a2 a3) := by
 intro a0 a1 a2 a3 k
 unfold impl_parcelCode.f
 repeat' first
   | (with_reducible exact impl_itemCode.mono _ _ _ _ _)
   | (with_reducible exact LeO.refl _)
   | (with_reducible exact LeO.none _)
   | (with_reducible refine LeO.ite ?_ ?_)
   | (with_reducible refine LeO.bind ?_ (fun _ => ?_))
   | exact impl_itemCode.mono _ _ _ _ _
   | exact LeO.none _
   | refine LeO.ite ?_ ?_
   | refine LeO.bind ?_ (fun _ => ?_)
set_option maxHeartbeats 8000000 in
set_option maxRecDepth 100000 in
theorem impl_parcelCode.calls (k : Nat) (A0_0 : Option Addr) (c0_0 : Nat) (l0_0 : List Int) (A0_1 : Option Addr) (c0_1 : Nat) (l0_1 : List (List Int)) (a1 : Int) (A2 : Option Addr) (c2 : Nat) (l2 : List Int) (r : Int) (w : World) (hr0_0 : Kd.C (Kd.int .i16) w A0_0 l0_0.length l0_0) (hc0_0 : l0_0.length ≤ c0_0) (hr0_1 : Kd.C (Kd.slice 81 (Kd.int .i16)) w A0_1 l0_1.length l0_1) (hc0_1 : l0_1.length ≤ c0_1) (hr2 : Kd.C (Kd.int .i64) w A2 l2.length l2) (hc2 : l2.length ≤ c2) (h : impl_parcelCode.f k l0_0 l0_1 a1 l2 = some r) :
  Calls Try.prog 69 #[.agg #[.slice A0_0 l0_0.length c0_0, .slice A0_1 l0_1.length c0_1], .int .i64 a1, .slice A2 l2.length c2] w fun e w' => e = .returned (.int .i64 r) ∧ Below w.heap.size w w' := by
 have hu38 := Try.underlying38
 have HR0_0 := Aside0.mk hr0_0
 have HC0_0 := Aside0.mk hc0_0
 clear hr0_0 hc0_0
 have HR0_1 := Aside0.mk hr0_1
 have HC0_1 := Aside0.mk hc0_1
 clear hr0_1 hc0_1
 have HR2 := Aside0.mk hr2
 have HC2 := Aside0.mk hc2
 clear hr2 hc2
 have HB := Aside0.mk (Below.refl w.heap.size w)
 have H : ((impl_itemCode.f k l0_0 l0_1 a1 l2).bind fun t234 => (if t234 = 0 then ((f5z.f l0_0 l0_1 l2).bind fun t235 => ((impl_unless.f t235 6).bind fun t236 => (some t236))) else (some t234))) = some r := h
 clear h
 replace H := Option.bind_eq_some_iff.mp H
 obtain ⟨t234, A40, H⟩ := H
 replace H : (if t234 = 0 then ((f5z.f l0_0 l0_1 l2).bind fun t235 => ((impl_unless.f t235 6).bind fun t236 => (some t236))) else (some t234)) = some r := H
 have A4 := Aside0.mk A40
 clear A40
 by_cases c5 : t234 = 0
 ·rw [if_pos c5] at H
  have c5b0 : (t234 == 0) = true := beq_iff_eq.mpr c5
  have c5b1 : (t234 != 0) = false := bne_eq_false_iff_eq.mpr c5
  clear c5
  replace H := Option.bind_eq_some_iff.mp H
  obtain ⟨t235, A60, H⟩ := H
  replace H : ((impl_unless.f t235 6).bind fun t236 => (some t236)) = some r := H
  have A6 := Aside0.mk A60
  clear A60
  replace H := Option.bind_eq_some_iff.mp H
  obtain ⟨t236, A70, H⟩ := H
  replace H : (some t236) = some r := H
  have A7 := Aside0.mk A70
  clear A70
  obtain rfl := Option.some.inj H
  go_enter Try.func69, Try.ntmps69
  go_wp2_with (first | ((with_reducible refine gate_dst (N := 3) rfl ?_); refine box_event ?hg (N := 3) ?hd (cs := #[.slice A0_0 l0_0.length c0_0, .slice A0_1 l0_1.length c0_1]) (t := 38) ?hr ?_; (case hd => rfl); (case hg => rfl); (case hr => first | (go_simp; done) | (go_simp; rfl)); intro gb233 hg w8 hbox hb; have n0_ := Aside0.mk (below_step (by repeat (first | (with_reducible first | exact HB.out | apply below_alloc | apply pw_below_drewN | apply below_drew1) | exact HB.out)) hb); have n1_ := Aside0.mk (hbox); have n2_ := Aside0.mk ((by rw [hg]; exact (below_size (by repeat (first | (with_reducible first | exact HB.out | apply below_alloc | apply pw_below_drewN | apply below_drew1) | exact HB.out))) : w.heap.size ≤ gb233)); have n3_ := Aside0.mk ((by rw [hg]; exact (below_size (by repeat (first | (with_reducible first | exact HB.out | apply below_alloc | apply pw_below_drewN | apply below_drew1) | exact HB.out))) : w.heap.size ≤ gb233)); clear HB; have HB := n0_; have BK233 := n1_; have GW233 := n2_; have GE233 := n3_; clear n0_ n1_ n2_ n3_; clear hb hbox hg; have hcz9_0 : w8.cell? ⟨gb233, 0, none⟩ = some (.slice A0_0 l0_0.length c0_0) := (blk_cell BK233.out 0).trans rfl; have hcz9_1 : w8.cell? ⟨gb233, 1, none⟩ = some (.slice A0_1 l0_1.length c0_1) := (blk_cell BK233.out 1).trans rfl; have hfz9_0 := blk_frozen BK233.out 0; have hfz9_1 := blk_frozen BK233.out 1) | ((with_reducible refine gate_callee (f := 58) rfl ?_); refine goesL_ (some 11) rfl rfl Try.func58 (by kernel_rfl) rfl #[.agg #[.slice A0_0 l0_0.length c0_0, .slice A0_1 l0_1.length c0_1], .int .i64 a1, .slice A2 l2.length c2] rfl (by (try simp only [List.map_toArray, List.map_cons, List.map_nil]); first | done | rfl | (simp only [List.length_drop, List.length_take]; rfl)) ?_; (with_reducible refine (impl_itemCode.calls k _ _ l0_0 _ _ l0_1 a1 _ _ l2 t234 _ ?side1 ?side2 ?side3 ?side4 ?side5 ?side6 A4.out).mono ?_); (case side1 => repeat (first | exact (Kd.C_below HR0_0.out HB.out) | (with_reducible refine Kd.C_alloc ?_ _) | (with_reducible refine Kd.C_drewN ?_ _) | (with_reducible refine Kd.C_drew ?_))); (case side2 => exact HC0_0.out); (case side3 => repeat (first | exact (Kd.C_below HR0_1.out HB.out) | (with_reducible refine Kd.C_alloc ?_ _) | (with_reducible refine Kd.C_drewN ?_ _) | (with_reducible refine Kd.C_drew ?_))); (case side4 => exact HC0_1.out); (case side5 => repeat (first | exact (Kd.C_below HR2.out HB.out) | (with_reducible refine Kd.C_alloc ?_ _) | (with_reducible refine Kd.C_drewN ?_ _) | (with_reducible refine Kd.C_drew ?_))); (case side6 => exact HC2.out); rintro e w10 ⟨rfl, hb⟩; refine ⟨_, rfl, ?_⟩; have n0_ := Aside0.mk (blk_below (g := gb233) (o := .cells #[.slice A0_0 l0_0.length c0_0, .slice A0_1 l0_1.length c0_1] 38 (0, 0)) (by (with_reducible repeat (first | refine blk_drewN ?_ _ | refine blk_drew ?_ | refine blk_alloc ?_ _)); exact BK233.out) hb); have n1_ := Aside0.mk (below_step (by repeat (first | (with_reducible first | exact HB.out | apply below_alloc | apply pw_below_drewN | apply below_drew1 | refine below_set ?_ GE233.out) | exact HB.out)) hb); clear BK233; clear HB; have BK233 := n0_; have HB := n1_; clear n0_ n1_; (try clear hb); (try clear hb2); (try clear hk); (try clear hi); have hcz11_0 : w10.cell? ⟨gb233, 0, none⟩ = some (.slice A0_0 l0_0.length c0_0) := (blk_cell BK233.out 0).trans rfl; have hcz11_1 : w10.cell? ⟨gb233, 1, none⟩ = some (.slice A0_1 l0_1.length c0_1) := (blk_cell BK233.out 1).trans rfl; have hfz11_0 := blk_frozen BK233.out 0; have hfz11_1 := blk_frozen BK233.out 1) | ((with_reducible refine gate_callee (f := 60) rfl ?_); refine goesL_ (some 17) rfl rfl Try.func60 (by kernel_rfl) rfl #[.agg #[.slice A0_0 l0_0.length c0_0, .slice A0_1 l0_1.length c0_1], .slice A2 l2.length c2] rfl (by (try simp only [List.map_toArray, List.map_cons, List.map_nil]); first | done | rfl | (simp only [List.length_drop, List.length_take]; rfl)) ?_; (with_reducible refine (f5z.calls _ _ l0_0 _ _ l0_1 _ _ l2 t235 _ ?side1 ?side2 ?side3 ?side4 ?side5 ?side6 A6.out).mono ?_); (case side1 => repeat (first | exact (Kd.C_below HR0_0.out HB.out) | (with_reducible refine Kd.C_alloc ?_ _) | (with_reducible refine Kd.C_drewN ?_ _) | (with_reducible refine Kd.C_drew ?_))); (case side2 => exact HC0_0.out); (case side3 => repeat (first | exact (Kd.C_below HR0_1.out HB.out) | (with_reducible refine Kd.C_alloc ?_ _) | (with_reducible refine Kd.C_drewN ?_ _) | (with_reducible refine Kd.C_drew ?_))); (case side4 => exact HC0_1.out); (case side5 => repeat (first | exact (Kd.C_below HR2.out HB.out) | (with_reducible refine Kd.C_alloc ?_ _) | (with_reducible refine Kd.C_drewN ?_ _) | (with_reducible refine Kd.C_drew ?_))); (case side6 => exact HC2.out); rintro e w12 ⟨rfl, hb⟩; refine ⟨_, rfl, ?_⟩; have n0_ := Aside0.mk (blk_below (g := gb233) (o := .cells #[.slice A0_0 l0_0.length c0_0, .slice A0_1 l0_1.length c0_1] 38 (0, 0)) (by (with_reducible repeat (first | refine blk_drewN ?_ _ | refine blk_drew ?_ | refine blk_alloc ?_ _)); exact BK233.out) hb); have n1_ := Aside0.mk (below_step (by repeat (first | (with_reducible first | exact HB.out | apply below_alloc | apply pw_below_drewN | apply below_drew1 | refine below_set ?_ GE233.out) | exact HB.out)) hb); clear BK233; clear HB; have BK233 := n0_; have HB := n1_; clear n0_ n1_; (try clear hb); (try clear hb2); (try clear hk); (try clear hi)) | ((with_reducible refine gate_callee (f := 98) rfl ?_); refine goesL_ (some 18) rfl rfl Try.func98 (by kernel_rfl) rfl #[.bool t235, .int .i64 6] rfl (by (try simp only [List.map_toArray, List.map_cons, List.map_nil]); first | done | rfl | (simp only [List.length_drop, List.length_take]; rfl)) ?_; (with_reducible refine (impl_unless.calls t235 6 t236 _ A7.out).mono ?_); rintro e w' ⟨rfl, ⟨nd, rfl⟩⟩; refine ⟨_, rfl, ?_⟩))
  go_ret
  exact ⟨by first | rfl | (simp [errW_none, errW_some] <;> rfl) | (simp [*, errW_none, errW_some] <;> rfl), by repeat (first | (with_reducible first | exact HB.out | apply below_alloc | apply pw_below_drewN | apply below_drew1 | refine below_set ?_ GE233.out) | exact HB.out)⟩
 ·rw [if_neg c5] at H
  have c5b0 : (t234 == 0) = false := beq_eq_false_iff_ne.mpr c5
  have c5b1 : (t234 != 0) = true := bne_iff_ne.mpr c5
  obtain rfl := Option.some.inj H
  go_enter Try.func69, Try.ntmps69
  go_wp2_with (first | ((with_reducible refine gate_dst (N := 3) rfl ?_); refine box_event ?hg (N := 3) ?hd (cs := #[.slice A0_0 l0_0.length c0_0, .slice A0_1 l0_1.length c0_1]) (t := 38) ?hr ?_; (case hd => rfl); (case hg => rfl); (case hr => first | (go_simp; done) | (go_simp; rfl)); intro gb233 hg w13 hbox hb; have n0_ := Aside0.mk (below_step (by repeat (first | (with_reducible first | exact HB.out | apply below_alloc | apply pw_below_drewN | apply below_drew1) | exact HB.out)) hb); have n1_ := Aside0.mk (hbox); have n2_ := Aside0.mk ((by rw [hg]; exact (below_size (by repeat (first | (with_reducible first | exact HB.out | apply below_alloc | apply pw_below_drewN | apply below_drew1) | exact HB.out))) : w.heap.size ≤ gb233)); have n3_ := Aside0.mk ((by rw [hg]; exact (below_size (by repeat (first | (with_reducible first | exact HB.out | apply below_alloc | apply pw_below_drewN | apply below_drew1) | exact HB.out))) : w.heap.size ≤ gb233)); clear HB; have HB := n0_; have BK233 := n1_; have GW233 := n2_; have GE233 := n3_; clear n0_ n1_ n2_ n3_; clear hb hbox hg; have hcz14_0 : w13.cell? ⟨gb233, 0, none⟩ = some (.slice A0_0 l0_0.length c0_0) := (blk_cell BK233.out 0).trans rfl; have hcz14_1 : w13.cell? ⟨gb233, 1, none⟩ = some (.slice A0_1 l0_1.length c0_1) := (blk_cell BK233.out 1).trans rfl; have hfz14_0 := blk_frozen BK233.out 0; have hfz14_1 := blk_frozen BK233.out 1) | ((with_reducible refine gate_callee (f := 58) rfl ?_); refine goesL_ (some 11) rfl rfl Try.func58 (by kernel_rfl) rfl #[.agg #[.slice A0_0 l0_0.length c0_0, .slice A0_1 l0_1.length c0_1], .int .i64 a1, .slice A2 l2.length c2] rfl (by (try simp only [List.map_toArray, List.map_cons, List.map_nil]); first | done | rfl | (simp only [List.length_drop, List.length_take]; rfl)) ?_; (with_reducible refine (impl_itemCode.calls k _ _ l0_0 _ _ l0_1 a1 _ _ l2 t234 _ ?side1 ?side2 ?side3 ?side4 ?side5 ?side6 A4.out).mono ?_); (case side1 => repeat (first | exact (Kd.C_below HR0_0.out HB.out) | (with_reducible refine Kd.C_alloc ?_ _) | (with_reducible refine Kd.C_drewN ?_ _) | (with_reducible refine Kd.C_drew ?_))); (case side2 => exact HC0_0.out); (case side3 => repeat (first | exact (Kd.C_below HR0_1.out HB.out) | (with_reducible refine Kd.C_alloc ?_ _) | (with_reducible refine Kd.C_drewN ?_ _) | (with_reducible refine Kd.C_drew ?_))); (case side4 => exact HC0_1.out); (case side5 => repeat (first | exact (Kd.C_below HR2.out HB.out) | (with_reducible refine Kd.C_alloc ?_ _) | (with_reducible refine Kd.C_drewN ?_ _) | (with_reducible refine Kd.C_drew ?_))); (case side6 => exact HC2.out); rintro e w15 ⟨rfl, hb⟩; refine ⟨_, rfl, ?_⟩; have n0_ := Aside0.mk (blk_below (g := gb233) (o := .cells #[.slice A0_0 l0_0.length c0_0, .slice A0_1 l0_1.length c0_1] 38 (0, 0)) (by (with_reducible repeat (first | refine blk_drewN ?_ _ | refine blk_drew ?_ | refine blk_alloc ?_ _)); exact BK233.out) hb); have n1_ := Aside0.mk (below_step (by repeat (first | (with_reducible first | exact HB.out | apply below_alloc | apply pw_below_drewN | apply below_drew1 | refine below_set ?_ GE233.out) | exact HB.out)) hb); clear BK233; clear HB; have BK233 := n0_; have HB := n1_; clear n0_ n1_; (try clear hb); (try clear hb2); (try clear hk); (try clear hi)))
  go_ret
  exact ⟨by first | rfl | (simp [errW_none, errW_some] <;> rfl) | (simp [*, errW_none, errW_some] <;> rfl), by repeat (first | (with_reducible first | exact HB.out | apply below_alloc | apply pw_below_drewN | apply below_drew1 | refine below_set ?_ GE233.out) | exact HB.out)⟩

/-! ### impl_grouped: function 78 -/
@[local go_sem] theorem gr_store_func {P : Program} {w : World} {a : Addr} {m : Mode} (fn : Fn) (first captured : Array Value) : (store a (.func fn first captured) m).run P w = stored P w a (.func fn first captured) m := run_store P w a _ m rfl
set_option maxHeartbeats 4000000 in
set_option maxRecDepth 100000 in
theorem impl_grouped.calls {σ : Type} (may : List Int → Int → Option Bool) (each : σ → List Int → Int → Option (Bool × σ)) (gE gM : Nat) (lE lM : Array Value) (I : σ → World → Prop) (S : Nat → Prop) (base : Nat) (w : World) (n : Int)
  (egE : ∀ args w, (callFunc gE args).run Try.prog w = .ok (.enter gE args) w) (egM : ∀ args w, (callFunc gM args).run Try.prog w = .ok (.enter gM args) w)
  (hI : ∀ s W W', I s W → Below W.heap.size W W' → I s W') (hS : ∀ k, S k → k < w.heap.size)
  (hm : ∀ (W : World) (A : Option Addr) (c : Nat) (xs : List Int) (j : Int) (b : Bool), Kd.C (Kd.int .i64) W A xs.length xs → xs.length ≤ c → Kept w W S → may xs j = some b → Calls Try.prog gM (#[.slice A xs.length c, .int .i64 j] ++ lM) W fun e w' => e = .returned (.bool b) ∧ Below W.heap.size W w')
  (he : ∀ (W : World) (A : Option Addr) (c : Nat) (xs : List Int) (j : Int) (s : σ) (r : Bool × σ), Kd.R (Kd.int .i64) 2 W base (fun k => ¬ S k) (.slice A xs.length c) xs → Kept w W S → base ≤ W.heap.size → I s W → each s xs j = some r → Calls Try.prog gE (#[.slice A xs.length c, .int .i64 j] ++ lE) W fun e w' => e = .returned (.bool r.1) ∧ Kept W w' S ∧ Below base W w' ∧ I r.2 w')
  (hbase : base ≤ w.heap.size) (s : σ) (his : I s w) (d : Nat) (r : Bool × σ) (h : impl_grouped_1.c may each n d s [] 0 = some r) :
  Calls Try.prog 78 #[.int .i64 n, .func (.func gM) #[] lM, .func (.func gE) #[] lE] w fun e w' => (∃ v, e = .returned v) ∧ Kept w w' S ∧ Below base w w' ∧ I r.2 w' := by
 have H := Aside0.mk h
 have HM := Aside0.mk hm
 have HE := Aside0.mk he
 clear h hm he
 have hb0 : (w.alloc (.cells #[.int .i64 n] 3)).heap[w.heap.size]? = some (.cells #[.int .i64 n] 3 (0, 0)) := blk_new _ _
 have hb2 : ((w.alloc (.cells #[.int .i64 n] 3)).alloc (.cells #[.func (.func gM) #[] lM] 91)).heap[w.heap.size + 1]? = some (.cells #[.func (.func gM) #[] lM] 91 (0, 0)) := by have h_ := blk_new (w.alloc (.cells #[.int .i64 n] 3)) (.cells #[.func (.func gM) #[] lM] 91); rw [World.size_alloc] at h_; exact h_
 have hb1 : (((w.alloc (.cells #[.int .i64 n] 3)).alloc (.cells #[.func (.func gM) #[] lM] 91)).alloc (.cells #[.func (.func gE) #[] lE] 91)).heap[w.heap.size + 1 + 1]? = some (.cells #[.func (.func gE) #[] lE] 91 (0, 0)) := by have h_ := blk_new ((w.alloc (.cells #[.int .i64 n] 3)).alloc (.cells #[.func (.func gM) #[] lM] 91)) (.cells #[.func (.func gE) #[] lE] 91); rw [World.size_alloc, World.size_alloc] at h_; exact h_
 have hb3 : ((((w.alloc (.cells #[.int .i64 n] 3)).alloc (.cells #[.func (.func gM) #[] lM] 91)).alloc (.cells #[.func (.func gE) #[] lE] 91)).alloc (.cells #[.nilFunc] 91)).heap[w.heap.size + 1 + 1 + 1]? = some (.cells #[.nilFunc] 91 (0, 0)) := by have h_ := blk_new (((w.alloc (.cells #[.int .i64 n] 3)).alloc (.cells #[.func (.func gM) #[] lM] 91)).alloc (.cells #[.func (.func gE) #[] lE] 91)) (.cells #[.nilFunc] 91); rw [World.size_alloc, World.size_alloc, World.size_alloc] at h_; exact h_
 have hv : ((((w.alloc (.cells #[.int .i64 n] 3)).alloc (.cells #[.func (.func gM) #[] lM] 91)).alloc (.cells #[.func (.func gE) #[] lE] 91)).alloc (.cells #[(Value.func (Fn.func 108) #[] #[.pointer (some ⟨w.heap.size, 0, none⟩), .pointer (some ⟨w.heap.size + 1 + 1, 0, none⟩), .pointer (some ⟨w.heap.size + 1, 0, none⟩), .pointer (some ⟨w.heap.size + 1 + 1 + 1, 0, none⟩)])] 91)).heap[w.heap.size + 1 + 1 + 1]? = some (.cells #[(Value.func (Fn.func 108) #[] #[.pointer (some ⟨w.heap.size, 0, none⟩), .pointer (some ⟨w.heap.size + 1 + 1, 0, none⟩), .pointer (some ⟨w.heap.size + 1, 0, none⟩), .pointer (some ⟨w.heap.size + 1 + 1 + 1, 0, none⟩)])] 91 (0, 0)) := by have h_ := blk_new (((w.alloc (.cells #[.int .i64 n] 3)).alloc (.cells #[.func (.func gM) #[] lM] 91)).alloc (.cells #[.func (.func gE) #[] lE] 91)) (.cells #[(Value.func (Fn.func 108) #[] #[.pointer (some ⟨w.heap.size, 0, none⟩), .pointer (some ⟨w.heap.size + 1 + 1, 0, none⟩), .pointer (some ⟨w.heap.size + 1, 0, none⟩), .pointer (some ⟨w.heap.size + 1 + 1 + 1, 0, none⟩)])] 91); rw [World.size_alloc, World.size_alloc, World.size_alloc] at h_; exact h_
 have hcz : World.cell? ((((w.alloc (.cells #[.int .i64 n] 3)).alloc (.cells #[.func (.func gM) #[] lM] 91)).alloc (.cells #[.func (.func gE) #[] lE] 91)).alloc (.cells #[.nilFunc] 91)) ⟨w.heap.size + 1 + 1 + 1, 0, none⟩ = some .nilFunc := (blk_cell hb3 0).trans rfl
 have hfz : World.frozen? ((((w.alloc (.cells #[.int .i64 n] 3)).alloc (.cells #[.func (.func gM) #[] lM] 91)).alloc (.cells #[.func (.func gE) #[] lE] 91)).alloc (.cells #[.nilFunc] 91)) ⟨w.heap.size + 1 + 1 + 1, 0, none⟩ = false := blk_frozen hb3 0
 have hcy : World.cell? ((((w.alloc (.cells #[.int .i64 n] 3)).alloc (.cells #[.func (.func gM) #[] lM] 91)).alloc (.cells #[.func (.func gE) #[] lE] 91)).alloc (.cells #[(Value.func (Fn.func 108) #[] #[.pointer (some ⟨w.heap.size, 0, none⟩), .pointer (some ⟨w.heap.size + 1 + 1, 0, none⟩), .pointer (some ⟨w.heap.size + 1, 0, none⟩), .pointer (some ⟨w.heap.size + 1 + 1 + 1, 0, none⟩)])] 91)) ⟨w.heap.size + 1 + 1 + 1, 0, none⟩ = some (Value.func (Fn.func 108) #[] #[.pointer (some ⟨w.heap.size, 0, none⟩), .pointer (some ⟨w.heap.size + 1 + 1, 0, none⟩), .pointer (some ⟨w.heap.size + 1, 0, none⟩), .pointer (some ⟨w.heap.size + 1 + 1 + 1, 0, none⟩)]) := (blk_cell hv 0).trans rfl
 have hB2 : Aside0 (Below w.heap.size w ((((w.alloc (.cells #[.int .i64 n] 3)).alloc (.cells #[.func (.func gM) #[] lM] 91)).alloc (.cells #[.func (.func gE) #[] lE] 91)).alloc (.cells #[(Value.func (Fn.func 108) #[] #[.pointer (some ⟨w.heap.size, 0, none⟩), .pointer (some ⟨w.heap.size + 1 + 1, 0, none⟩), .pointer (some ⟨w.heap.size + 1, 0, none⟩), .pointer (some ⟨w.heap.size + 1 + 1 + 1, 0, none⟩)])] 91))) := ⟨(((((Below.refl _ w).alloc (Nat.le_refl _) _).alloc (by simp) _).alloc (by simp; omega) _).alloc (by simp; omega) _)⟩
 have BK0 : Aside0 (((((w.alloc (.cells #[.int .i64 n] 3)).alloc (.cells #[.func (.func gM) #[] lM] 91)).alloc (.cells #[.func (.func gE) #[] lE] 91)).alloc (.cells #[(Value.func (Fn.func 108) #[] #[.pointer (some ⟨w.heap.size, 0, none⟩), .pointer (some ⟨w.heap.size + 1 + 1, 0, none⟩), .pointer (some ⟨w.heap.size + 1, 0, none⟩), .pointer (some ⟨w.heap.size + 1 + 1 + 1, 0, none⟩)])] 91)).heap[w.heap.size]? = _) := ⟨blk_alloc (blk_alloc (blk_alloc hb0 _) _) _⟩
 have BK2 : Aside0 (((((w.alloc (.cells #[.int .i64 n] 3)).alloc (.cells #[.func (.func gM) #[] lM] 91)).alloc (.cells #[.func (.func gE) #[] lE] 91)).alloc (.cells #[(Value.func (Fn.func 108) #[] #[.pointer (some ⟨w.heap.size, 0, none⟩), .pointer (some ⟨w.heap.size + 1 + 1, 0, none⟩), .pointer (some ⟨w.heap.size + 1, 0, none⟩), .pointer (some ⟨w.heap.size + 1 + 1 + 1, 0, none⟩)])] 91)).heap[w.heap.size + 1]? = _) := ⟨blk_alloc (blk_alloc hb2 _) _⟩
 have BK1 : Aside0 (((((w.alloc (.cells #[.int .i64 n] 3)).alloc (.cells #[.func (.func gM) #[] lM] 91)).alloc (.cells #[.func (.func gE) #[] lE] 91)).alloc (.cells #[(Value.func (Fn.func 108) #[] #[.pointer (some ⟨w.heap.size, 0, none⟩), .pointer (some ⟨w.heap.size + 1 + 1, 0, none⟩), .pointer (some ⟨w.heap.size + 1, 0, none⟩), .pointer (some ⟨w.heap.size + 1 + 1 + 1, 0, none⟩)])] 91)).heap[w.heap.size + 1 + 1]? = _) := ⟨blk_alloc hb1 _⟩
 have BK3 := Aside0.mk hv
 clear hb0 hb1 hb2 hb3 hv
 have HI := Aside0.mk hI
 have HS := Aside0.mk hS
 clear hI hS
 go_enter Try.func78, Try.ntmps78
 go_wp2_with (refine goesLV_ (some 9) rfl rfl (g := 108) (lb := #[.pointer (some ⟨w.heap.size, 0, none⟩), .pointer (some ⟨w.heap.size + 1 + 1, 0, none⟩), .pointer (some ⟨w.heap.size + 1, 0, none⟩), .pointer (some ⟨w.heap.size + 1 + 1 + 1, 0, none⟩)]) (enters_ Try.func108 (by kernel_rfl) rfl) #[.slice none 0 0, .int .i64 0] rfl (by rfl) (by (try simp only [List.map_toArray, List.map_cons, List.map_nil]); first | done | rfl) ?_; refine calls_of_args (args' := #[.slice none ([] : List Int).length 0, .int .i64 0, .pointer (some ⟨w.heap.size, 0, none⟩), .pointer (some ⟨w.heap.size + 1 + 1, 0, none⟩), .pointer (some ⟨w.heap.size + 1, 0, none⟩), .pointer (some ⟨w.heap.size + 1 + 1 + 1, 0, none⟩)]) (by simp) ((impl_grouped_1.calls may each gE gM lE lM I S base w n _ _ _ _ egE egM HI.out HS.out (fun h_ => by have := HS.out _ h_; omega) (fun h_ => by have := HS.out _ h_; omega) (fun h_ => by have := HS.out _ h_; omega) (fun h_ => by have := HS.out _ h_; omega) HM.out HE.out d none 0 [] 0 s r _ (Kd.R_nil _ _ _ _ _) (Kept.of_below hB2.out S) (Nat.le_trans hbase hB2.out.size) (HI.out _ _ _ his hB2.out) BK0.out BK1.out BK2.out BK3.out H.out).mono ?_); rintro e w1 ⟨rfl, hk, hb, hi⟩; refine ⟨_, rfl, ?_⟩)
 go_end0
 exact ⟨⟨_, rfl⟩, (Kept.of_below hB2.out S).then_ hk (fun _ h_ => .inl h_), (hB2.out.mono hbase).trans hb, hi⟩

/-! ### f6z: function 105 -/
set_option maxHeartbeats 4000000 in
set_option maxRecDepth 100000 in
theorem f6z.calls (may : List Int → Int → Option Bool) (gM : Nat) (lM : Array Value) (egM : ∀ args w, (callFunc gM args).run Try.prog w = .ok (.enter gM args) w) (A0 : Option Addr) (c0 : Nat) (l0 : List Int) (a1 : Int) (B2_0 B2_1 : Nat) (most : Int) (r : Bool) (w : World)
  (hkB2_0 : w.heap[B2_0]? = some (.cells #[.int .i64 most] 2 (0, 0))) (hkB2_1 : w.heap[B2_1]? = some (.cells #[.func (.func gM) #[] lM] 91 (0, 0)))
  (hm : ∀ b, may l0 a1 = some b → Calls Try.prog gM (#[.slice A0 l0.length c0, .int .i64 a1] ++ lM) w fun e w' => e = .returned (.bool b) ∧ Below w.heap.size w w')
  (h : (if a1 < most then (may l0 a1) else (some false)) = some r) :
  Calls Try.prog 105 #[.slice A0 l0.length c0, .int .i64 a1, .pointer (some ⟨B2_0, 0, none⟩), .pointer (some ⟨B2_1, 0, none⟩)] w fun e w' => e = .returned (.bool r) ∧ Below w.heap.size w w' := by
 have hcz6_0 : w.cell? ⟨B2_0, 0, none⟩ = some (.int .i64 most) := (blk_cell hkB2_0 0).trans rfl
 have hfz6_0 := blk_frozen hkB2_0 0
 have hcz7_0 : w.cell? ⟨B2_1, 0, none⟩ = some (.func (.func gM) #[] lM) := (blk_cell hkB2_1 0).trans rfl
 have hfz7_0 := blk_frozen hkB2_1 0
 have HM := Aside0.mk hm
 clear hm hkB2_0 hkB2_1
 by_cases c4 : a1 < most
 ·rw [if_pos c4] at h
  have c4b0 : decide (a1 < most) = true := decide_eq_true c4
  clear c4
  go_enter Try.func105, Try.ntmps105
  go_wp2_with (refine gate_guard (by rfl) ?_; dsimp only; refine goesLV_ (some 14) rfl rfl (g := gM) (lb := lM) egM #[.slice A0 l0.length c0, .int .i64 a1] rfl (by rfl) (by (try simp only [List.map_toArray, List.map_cons, List.map_nil]); first | done | rfl) ?_; refine (HM.out r h).mono ?_; rintro e w8 ⟨rfl, hb8⟩; refine ⟨_, rfl, ?_⟩)
  go_ret
  exact ⟨by first | rfl | (simp; done), hb8⟩
 ·rw [if_neg c4] at h
  have c4b0 : decide (a1 < most) = false := decide_eq_false c4
  clear c4
  obtain rfl := Option.some.inj h
  go_enter Try.func105, Try.ntmps105
  go_wp2
  go_ret
  exact ⟨by first | rfl | (simp; done), Below.refl _ _⟩

/-! ### f7z: function 106 -/
set_option maxHeartbeats 8000000 in
set_option maxRecDepth 100000 in
theorem f7z.calls (A0 : Option Addr) (c0 n0 : Nat) (a1 : Int) (B2_0 : Nat) (B2_1 : Nat) (v2 : Value) (a2_1 : Bool) (A2 : Option Addr) (n2 c2 : Nat) (hv2 : v2 = .slice A2 n2 c2) (w : World) (hkB2_0 : w.heap[B2_0]? = some (.cells #[v2] 34 (0, 0))) (hkB2_1 : w.heap[B2_1]? = some (.cells #[.bool a2_1] 4 (0, 0))) :
  Calls Try.prog 106 #[.slice A0 n0 c0, .int .i64 a1, .pointer (some ⟨B2_0, 0, none⟩), .pointer (some ⟨B2_1, 0, none⟩)] w fun e w' => e = .returned (.bool false) ∧ w' = (w.setCell ⟨B2_0, 0, none⟩ (.slice A0 n0 c0)).setCell ⟨B2_1, 0, none⟩ (.bool true) := by
 subst hv2
 have hne : B2_0 ≠ B2_1 := blk_ne hkB2_0 hkB2_1 (by decide)
 have hcz4_0 : w.cell? ⟨B2_0, 0, none⟩ = some (.slice A2 n2 c2) := (blk_cell hkB2_0 0).trans rfl
 have hfz4_0 := blk_frozen hkB2_0 0
 have hb1 := blk_far hkB2_1 (p := ⟨B2_0, 0, none⟩) (fun e => hne e.symm) (.slice A0 n0 c0)
 have hcz5_0 : (w.setCell ⟨B2_0, 0, none⟩ (.slice A0 n0 c0)).cell? ⟨B2_1, 0, none⟩ = some (.bool a2_1) := (blk_cell hb1 0).trans rfl
 have hfz5_0 := blk_frozen hb1 0
 clear hb1 hkB2_0 hkB2_1
 go_enter Try.func106, Try.ntmps106
 go_wp2
 go_ret
 exact ⟨rfl, rfl⟩

/-! ### f8z: function 74 -/
/-- What the search does with a list: takes it and stops. -/
def f8z.each (s : List Int × Bool) (xs : List Int) (m : Int) : Option (Bool × (List Int × Bool)) := some (false, (xs, true))
def f8z.may (may : List Int → Int → Option Bool) (most : Int) (xs : List Int) (k : Int) : Option Bool := if k < most then may xs k else some false
def f8z.go (may : List Int → Int → Option Bool) (k : Nat) (n most : Int) : Option (List Int × Bool) :=
 (impl_grouped_1.c (f8z.may may most) f8z.each n k ([], false) [] 0).bind fun r => some r.2
def f8z.l0 (may : List Int → Int → Option Bool) : Nat → Int → Int → Option (List Int × Int × Bool)
 | 0, _, _ => none
 | k + 1, n, most => if most ≤ n then ((f8z.go may k n most).bind fun bt => if bt.2 = true then some (bt.1, most, true) else f8z.l0 may k n (wrap64 (most + 1))) else some ([], 0, false)
def f8z.f (may : List Int → Int → Option Bool) (k : Nat) (n : Int) : Option (List Int × Int × Bool) := f8z.l0 may k n 0
theorem f8z.go_mono {may may' : List Int → Int → Option Bool} (hm : ∀ x y, LeO (may x y) (may' x y)) (k : Nat) (n most : Int) : LeO (f8z.go may k n most) (f8z.go may' (k + 1) n most) := by
 unfold f8z.go
 refine LeO.bind ((impl_grouped_1.mono (fun x y => ?_) (fun _ _ _ => LeO.refl _) _ k).1 _ _ _) (fun _ => LeO.refl _)
 unfold f8z.may
 split
 ·exact hm _ _
 ·exact LeO.refl _
theorem f8z.mono_l {may may' : List Int → Int → Option Bool} (hm : ∀ x y, LeO (may x y) (may' x y)) : ∀ k n most, LeO (f8z.l0 may k n most) (f8z.l0 may' (k + 1) n most)
 | 0 => fun _ _ r h => by simp [f8z.l0] at h
 | k + 1 => fun n most => by
  unfold f8z.l0
  refine LeO.ite (LeO.bind (f8z.go_mono hm k n most) (fun _ => LeO.ite (LeO.refl _) (f8z.mono_l hm k _ _))) (LeO.refl _)
theorem f8z.mono {may may' : List Int → Int → Option Bool} (hm : ∀ x y, LeO (may x y) (may' x y)) (k : Nat) (n : Int) : LeO (f8z.f may k n) (f8z.f may' (k + 1) n) := f8z.mono_l hm k n 0
/-- What the two boxes hold. -/
def f8z.St (base B8 B9 : Nat) (s : List Int × Bool) (W : World) : Prop :=
 ∃ A c, W.heap[B8]? = some (.cells #[.slice A s.1.length c] 34 (0, 0)) ∧ W.heap[B9]? = some (.cells #[.bool s.2] 4 (0, 0)) ∧ Kd.R (Kd.int .i64) 2 W base (fun k => ¬ (k = B8 ∨ k = B9)) (.slice A s.1.length c) s.1
set_option maxHeartbeats 4000000 in
theorem f8z.search (may : List Int → Int → Option Bool) (gM : Nat) (lM : Array Value) (egM : ∀ args w, (callFunc gM args).run Try.prog w = .ok (.enter gM args) w) (k : Nat) (n most : Int) (w : World) (B7 B3 B8 B9 : Nat) (s r : List Int × Bool) (hs : s = ([], false))
  (h : f8z.go may k n most = some r) (W : World) (hB : Below w.heap.size w W)
  (hm : ∀ (W1 : World) (A : Option Addr) (c : Nat) (xs : List Int) (j : Int) (b : Bool), (∀ i, i < w.heap.size → W1.heap[i]? = w.heap[i]?) → Kd.C (Kd.int .i64) W1 A xs.length xs → xs.length ≤ c → may xs j = some b → Calls Try.prog gM (#[.slice A xs.length c, .int .i64 j] ++ lM) W1 fun e w' => e = .returned (.bool b) ∧ Below W1.heap.size W1 w')
  (hb7 : W.heap[B7]? = some (.cells #[.int .i64 most] 2 (0, 0))) (hb3 : W.heap[B3]? = some (.cells #[.func (.func gM) #[] lM] 91 (0, 0)))
  (g8 : w.heap.size ≤ B8) (g9 : w.heap.size ≤ B9) (n7 : ¬ (B7 = B8 ∨ B7 = B9)) (n3 : ¬ (B3 = B8 ∨ B3 = B9)) (n89 : B8 ≠ B9) (hst : f8z.St w.heap.size B8 B9 s W) :
  Calls Try.prog 78 #[.int .i64 n, .func (.func 105) #[] #[.pointer (some ⟨B7, 0, none⟩), .pointer (some ⟨B3, 0, none⟩)], .func (.func 106) #[] #[.pointer (some ⟨B8, 0, none⟩), .pointer (some ⟨B9, 0, none⟩)]] W
   fun e w' => (∃ v, e = .returned v) ∧ Kept W w' (fun k => k = B8 ∨ k = B9) ∧ Below w.heap.size W w' ∧ f8z.St w.heap.size B8 B9 r w' := by
 obtain ⟨⟨b_, r_⟩, h2, hr_⟩ := Option.bind_eq_some_iff.mp h
 obtain rfl := Option.some.inj hr_
 subst hs
 have hlt8 : B8 < W.heap.size := by obtain ⟨_, _, h1, _⟩ := hst; exact blk_lt h1
 have hlt9 : B9 < W.heap.size := by obtain ⟨_, _, _, h1, _⟩ := hst; exact blk_lt h1
 have low : ∀ W', Kept W W' (fun k => k = B8 ∨ k = B9) → ∀ k, k < w.heap.size → W'.heap[k]? = w.heap[k]? := fun W' hk j hj =>
  (hk.2 j (Nat.lt_of_lt_of_le hj hB.size) (by omega)).trans (hB.block j hj)
 refine impl_grouped.calls _ _ 106 105 _ _ (f8z.St w.heap.size B8 B9) (fun k => k = B8 ∨ k = B9) w.heap.size W n (enters_ Try.func106 (by kernel_rfl) rfl) (enters_ Try.func105 (by kernel_rfl) rfl) ?hI ?hS ?hm ?he hB.size _ hst k (b_, r_) h2
 case hI =>
  rintro s W1 W2 ⟨A, c, h1, h2, h3⟩ hb
  exact ⟨A, c, blk_below h1 hb, blk_below h2 hb, Kd.R_below h3 hb⟩
 case hS => intro j hj; omega
 case hm =>
  intro W1 A c xs j b hC hc hk hf
  refine calls_of_args (args' := #[.slice A xs.length c, .int .i64 j, .pointer (some ⟨B7, 0, none⟩), .pointer (some ⟨B3, 0, none⟩)]) (by simp)
   (f6z.calls may gM lM egM A c xs j B7 B3 most b W1 (blk_kept hb7 hk n7) (blk_kept hb3 hk n3) (fun b2 hb2 => hm W1 A c xs j b2 (low W1 hk) hC hc hb2) hf)
 case he =>
  intro W1 A c xs j s1 r1 hR hk hbase hst1 hf
  obtain ⟨A5, c5, h1, h2, h3⟩ := hst1
  obtain rfl := Option.some.inj hf
  refine calls_of_args (args' := #[.slice A xs.length c, .int .i64 j, .pointer (some ⟨B8, 0, none⟩), .pointer (some ⟨B9, 0, none⟩)]) (by simp)
   ((f7z.calls A c xs.length j B8 B9 _ s1.2 A5 s1.1.length c5 rfl W1 h1 h2).mono ?_)
  rintro e w' ⟨rfl, rfl⟩
  refine ⟨rfl, ((Kept.refl W1 _).setCell (p := ⟨B8, 0, none⟩) (.inl (.inl rfl)) _).setCell (p := ⟨B9, 0, none⟩) (.inl (.inr rfl)) _, ((Below.refl _ W1).setCell (p := ⟨B8, 0, none⟩) g8 _).setCell (p := ⟨B9, 0, none⟩) g9 _, A, c, ?_, ?_, ?_⟩
  ·exact blk_far (blk_put h1 0 (.slice A xs.length c) (cs' := #[.slice A xs.length c]) rfl) (p := ⟨B9, 0, none⟩) n89 _
  ·exact blk_put (blk_far h2 (p := ⟨B8, 0, none⟩) (fun e => n89 e.symm) _) 0 (.bool true) (cs' := #[.bool true]) rfl
  ·exact Kd.R_far (p := ⟨B9, 0, none⟩) (Kd.R_far (p := ⟨B8, 0, none⟩) hR (fun j hj e => hj (.inl e)) _) (fun j hj e => hj (.inr e)) _
set_option maxHeartbeats 8000000 in
set_option maxRecDepth 100000 in
theorem f8z.calls (may : List Int → Int → Option Bool) (gM : Nat) (lM : Array Value) (egM : ∀ args w, (callFunc gM args).run Try.prog w = .ok (.enter gM args) w) (k : Nat) (n : Int) (r1 : List Int) (r2 : Int) (r3 : Bool) (w : World)
  (hm : ∀ (W1 : World) (A : Option Addr) (c : Nat) (xs : List Int) (j : Int) (b : Bool), (∀ i, i < w.heap.size → W1.heap[i]? = w.heap[i]?) → Kd.C (Kd.int .i64) W1 A xs.length xs → xs.length ≤ c → may xs j = some b → Calls Try.prog gM (#[.slice A xs.length c, .int .i64 j] ++ lM) W1 fun e w' => e = .returned (.bool b) ∧ Below W1.heap.size W1 w')
  (h : f8z.f may k n = some (r1, r2, r3)) :
  Calls Try.prog 74 #[.int .i64 n, .func (.func gM) #[] lM] w fun e w' => ∃ v0_ : Value, e = .returned (.tuple #[v0_, .int .i64 r2, .bool r3]) ∧ Kd.R (Kd.int .i64) 2 w' w.heap.size (fun _ => True) v0_ r1 ∧ Below w.heap.size w w' := by
 have HB := Aside0.mk (Below.refl w.heap.size w)
 have H' := Aside0.mk (show f8z.l0 may k n 0 = some (r1, r2, r3) from h)
 have HM := Aside0.mk hm
 clear h hm
 go_enter Try.func74, Try.ntmps74
 go_wp2_with (first | ((with_reducible refine gate_dst (N := 3) rfl ?_); refine box_event ?hg (N := 3) ?hd (cs := #[.func (.func gM) #[] lM]) (t := 91) ?hr ?_; (case hd => rfl); (case hg => rfl); (case hr => first | (go_simp; done) | (go_simp; rfl)); intro gb3 hg w3 hbox hb; have n0_ := Aside0.mk ((by rw [hg]; exact below_size (by repeat (first | (with_reducible first | exact HB.out | apply below_alloc | apply pw_below_drewN | apply below_drew1) | exact HB.out))) : w.heap.size ≤ gb3); have n1_ := Aside0.mk (below_step (by repeat (first | (with_reducible first | exact HB.out | apply below_alloc | apply pw_below_drewN | apply below_drew1) | exact HB.out)) hb); have n2_ := Aside0.mk (hbox); clear HB; have GE3 := n0_; have HB := n1_; have BK3 := n2_; clear n0_ n1_ n2_; clear hb hbox hg) | ((with_reducible refine gate_dst (N := 7) rfl ?_); refine box_event ?hg (N := 7) ?hd (cs := #[.int .i64 0]) (t := 2) ?hr ?_; (case hd => rfl); (case hg => rfl); (case hr => first | (go_simp; done) | (go_simp; rfl)); intro gb7 hg w4 hbox hb; have n0_ := Aside0.mk (blk_below (g := gb3) (o := .cells #[.func (.func gM) #[] lM] 91 (0, 0)) (by (with_reducible repeat (first | refine blk_drewN ?_ _ | refine blk_drew ?_ | refine blk_alloc ?_ _)); exact BK3.out) hb); have n1_ := Aside0.mk ((by rw [hg]; exact Nat.ne_of_lt (blk_lt (g := gb3) (o := .cells #[.func (.func gM) #[] lM] 91 (0, 0)) (by (with_reducible repeat (first | refine blk_drewN ?_ _ | refine blk_drew ?_ | refine blk_alloc ?_ _)); exact BK3.out))) : gb3 ≠ gb7); have n2_ := Aside0.mk ((by rw [hg]; exact below_size (by repeat (first | (with_reducible first | exact HB.out | apply below_alloc | apply pw_below_drewN | apply below_drew1 | refine below_set ?_ GE3.out) | exact HB.out))) : w.heap.size ≤ gb7); have n3_ := Aside0.mk (below_step (by repeat (first | (with_reducible first | exact HB.out | apply below_alloc | apply pw_below_drewN | apply below_drew1 | refine below_set ?_ GE3.out) | exact HB.out)) hb); have n4_ := Aside0.mk (hbox); clear BK3; clear HB; have BK3 := n0_; have NB3_7 := n1_; have GE7 := n2_; have HB := n3_; have BK7 := n4_; clear n0_ n1_ n2_ n3_ n4_; clear hb hbox hg; have hcz6_0 : w4.cell? ⟨gb7, 0, none⟩ = some (.int .i64 0) := (blk_cell BK7.out 0).trans rfl; have hfz6_0 := blk_frozen BK7.out 0))
 repeat (go_quiet (fail); try go_wp2)
 go_loopg [7] k (fun kq v7 w' => ∃ (b7 : Nat) (m7 : Int), v7 = .pointer (some ⟨b7, 0, none⟩) ∧ Aside0 (f8z.l0 may kq n m7 = some (r1, r2, r3)) ∧ Aside0 (kq ≤ k) ∧ Aside0 (w'.heap[gb3]? = some (.cells #[.func (.func gM) #[] lM] 91 (0, 0))) ∧ Aside0 (w'.heap[b7]? = some (.cells #[.int .i64 m7] 2 (0, 0))) ∧ Aside0 (gb3 ≠ b7) ∧ Aside0 (w.heap.size ≤ b7) ∧ Aside0 (Below w.heap.size w w'))
 case atStart => exact ⟨gb7, 0, rfl, H', ⟨Nat.le_refl _⟩, ⟨(by (with_reducible repeat (first | refine blk_drewN ?_ _ | refine blk_drew ?_ | refine blk_alloc ?_ _)); refine blk_far ?_ NB3_7.out _; (with_reducible repeat (first | refine blk_drewN ?_ _ | refine blk_drew ?_ | refine blk_alloc ?_ _)); exact BK3.out)⟩, ⟨(by (with_reducible repeat (first | refine blk_drewN ?_ _ | refine blk_drew ?_ | refine blk_alloc ?_ _)); refine blk_put (cs := #[.int .i64 0]) ?_ 0 _ rfl; (with_reducible repeat (first | refine blk_drewN ?_ _ | refine blk_drew ?_ | refine blk_alloc ?_ _)); exact BK7.out)⟩, NB3_7, GE7, ⟨(by repeat (first | (with_reducible first | exact HB.out | apply below_alloc | apply pw_below_drewN | apply below_drew1 | refine below_set ?_ GE7.out) | exact HB.out))⟩⟩
 case round =>
  clear H'
  try clear hcz6_0
  try clear hfz6_0
  clear HB BK3 BK7 NB3_7 GE7
  obtain ⟨b7, m7, rfl, HA, HK1, BK3, BK7, NB3_7, GE7, HB⟩ := hrel
  cases gk with
  | zero => exact absurd HA.out (by simp [f8z.l0])
  | succ k1 =>
   have H := HA.out
   clear HA
   simp only [f8z.l0] at H
   have hcm_ : wr.cell? ⟨b7, 0, none⟩ = some (.int .i64 m7) := (blk_cell BK7.out 0).trans rfl
   by_cases c7 : m7 ≤ n
   ·rw [if_pos c7] at H
    have c7b0 : decide (m7 ≤ n) = true := decide_eq_true c7
    clear c7
    obtain ⟨y, hy⟩ : ∃ y_ : List Int, y_ = (([] : List Int)) := ⟨_, rfl⟩
    have Ny := Aside0.mk hy
    clear hy
    obtain ⟨⟨t8, t9⟩, A80, H⟩ := Option.bind_eq_some_iff.mp H
    have A8 := Aside0.mk A80
    clear A80
    replace H : (if t9 = true then some (t8, m7, true) else f8z.l0 may k1 n (wrap64 (m7 + 1))) = some (r1, r2, r3) := H
    by_cases c9 : t9 = true
    ·subst c9
     rw [if_pos rfl] at H
     simp only [Option.some.injEq, Prod.mk.injEq] at H
     obtain ⟨rfl, rfl, rfl⟩ := H
     go_wp2_with (first | ((with_reducible refine gate_dst (N := 15) rfl ?_); refine Kd.R_lit (Kd.int .i64) _ 2 ?hg (N := 15) ?hd (xs := ([] : List Int)) (inner := []) (ok := fun _ => True) (okp := fun _ => True) ?hr ?hp (fun _ hk => hk) trivial (Below.refl _ _) (Nat.le_refl _) (by simp) ?_; (case hd => rfl); (case hg => rfl); (case hr => first | (go_simp; done) | (go_simp; rfl)); (case hp => exact (Reps.none _ _)); intro v15 w12 ho13 hb hg_ hnew_; clear hg_ hnew_; (first | rw [← Ny.out] at ho13 | (simp only [Int.reduceToNat] at ho13; rw [← Ny.out] at ho13)); have n0_ := Aside0.mk (Kd.R_lower ho13 (below_size (by repeat (first | (with_reducible first | exact HB.out | apply below_alloc | apply pw_below_drewN | apply below_drew1) | exact HB.out)))); have n1_ := Aside0.mk (blk_below (g := gb3) (o := .cells #[.func (.func gM) #[] lM] 91 (0, 0)) (by (with_reducible repeat (first | refine blk_drewN ?_ _ | refine blk_drew ?_ | refine blk_alloc ?_ _)); exact BK3.out) hb); have n2_ := Aside0.mk (blk_below (g := b7) (o := .cells #[.int .i64 m7] 2 (0, 0)) (by (with_reducible repeat (first | refine blk_drewN ?_ _ | refine blk_drew ?_ | refine blk_alloc ?_ _)); exact BK7.out) hb); have n3_ := Aside0.mk (below_step (by repeat (first | (with_reducible first | exact HB.out | apply below_alloc | apply pw_below_drewN | apply below_drew1) | exact HB.out)) hb); clear BK3; clear BK7; clear HB; have HO15 := n0_; have BK3 := n1_; have BK7 := n2_; have HB := n3_; clear n0_ n1_ n2_ n3_; clear hb ho13) | ((with_reducible refine gate_dst (N := 8) rfl ?_); refine box_event ?hg (N := 8) ?hd (cs := #[.slice none 0 0]) (t := 34) ?hr ?_; (case hd => rfl); (case hg => rfl); (case hr => first | (go_simp; done) | (go_simp; rfl)); intro gb8 hg w14 hbox hb; have n0_ := Aside0.mk (blk_below (g := gb3) (o := .cells #[.func (.func gM) #[] lM] 91 (0, 0)) (by (with_reducible repeat (first | refine blk_drewN ?_ _ | refine blk_drew ?_ | refine blk_alloc ?_ _)); exact BK3.out) hb); have n1_ := Aside0.mk (blk_below (g := b7) (o := .cells #[.int .i64 m7] 2 (0, 0)) (by (with_reducible repeat (first | refine blk_drewN ?_ _ | refine blk_drew ?_ | refine blk_alloc ?_ _)); exact BK7.out) hb); have n2_ := Aside0.mk ((by rw [hg]; exact Nat.ne_of_lt (blk_lt (g := gb3) (o := .cells #[.func (.func gM) #[] lM] 91 (0, 0)) (by (with_reducible repeat (first | refine blk_drewN ?_ _ | refine blk_drew ?_ | refine blk_alloc ?_ _)); exact BK3.out))) : gb3 ≠ gb8); have n3_ := Aside0.mk ((by rw [hg]; exact Nat.ne_of_lt (blk_lt (g := b7) (o := .cells #[.int .i64 m7] 2 (0, 0)) (by (with_reducible repeat (first | refine blk_drewN ?_ _ | refine blk_drew ?_ | refine blk_alloc ?_ _)); exact BK7.out))) : b7 ≠ gb8); have n4_ := Aside0.mk ((by rw [hg]; exact below_size (by repeat (first | (with_reducible first | exact HB.out | apply below_alloc | apply pw_below_drewN | apply below_drew1) | exact HB.out))) : w.heap.size ≤ gb8); have n5_ := Aside0.mk (Kd.R_below (by (with_reducible repeat (first | apply Kd.R_alloc | apply Kd.R_drewN | apply Kd.R_drew)); exact HO15.out) hb); have n6_ := Aside0.mk (below_step (by repeat (first | (with_reducible first | exact HB.out | apply below_alloc | apply pw_below_drewN | apply below_drew1) | exact HB.out)) hb); have n7_ := Aside0.mk (hbox); clear BK3; clear BK7; clear HB; clear HO15; have BK3 := n0_; have BK7 := n1_; have NB3_8 := n2_; have NB7_8 := n3_; have GE8 := n4_; have HO15 := n5_; have HB := n6_; have BK8 := n7_; clear n0_ n1_ n2_ n3_ n4_ n5_ n6_ n7_; clear hb hbox hg) | ((with_reducible refine gate_dst (N := 9) rfl ?_); refine box_event ?hg (N := 9) ?hd (cs := #[.bool false]) (t := 4) ?hr ?_; (case hd => rfl); (case hg => rfl); (case hr => first | (go_simp; done) | (go_simp; rfl)); intro gb9 hg w15 hbox hb; have n0_ := Aside0.mk (blk_below (g := gb3) (o := .cells #[.func (.func gM) #[] lM] 91 (0, 0)) (by (with_reducible repeat (first | refine blk_drewN ?_ _ | refine blk_drew ?_ | refine blk_alloc ?_ _)); exact BK3.out) hb); have n1_ := Aside0.mk (blk_below (g := b7) (o := .cells #[.int .i64 m7] 2 (0, 0)) (by (with_reducible repeat (first | refine blk_drewN ?_ _ | refine blk_drew ?_ | refine blk_alloc ?_ _)); exact BK7.out) hb); have n2_ := Aside0.mk (blk_below (g := gb8) (o := .cells #[.slice none 0 0] 34 (0, 0)) (by (with_reducible repeat (first | refine blk_drewN ?_ _ | refine blk_drew ?_ | refine blk_alloc ?_ _)); exact BK8.out) hb); have n3_ := Aside0.mk ((by rw [hg]; exact Nat.ne_of_lt (blk_lt (g := gb3) (o := .cells #[.func (.func gM) #[] lM] 91 (0, 0)) (by (with_reducible repeat (first | refine blk_drewN ?_ _ | refine blk_drew ?_ | refine blk_alloc ?_ _)); exact BK3.out))) : gb3 ≠ gb9); have n4_ := Aside0.mk ((by rw [hg]; exact Nat.ne_of_lt (blk_lt (g := b7) (o := .cells #[.int .i64 m7] 2 (0, 0)) (by (with_reducible repeat (first | refine blk_drewN ?_ _ | refine blk_drew ?_ | refine blk_alloc ?_ _)); exact BK7.out))) : b7 ≠ gb9); have n5_ := Aside0.mk ((by rw [hg]; exact Nat.ne_of_lt (blk_lt (g := gb8) (o := .cells #[.slice none 0 0] 34 (0, 0)) (by (with_reducible repeat (first | refine blk_drewN ?_ _ | refine blk_drew ?_ | refine blk_alloc ?_ _)); exact BK8.out))) : gb8 ≠ gb9); have n6_ := Aside0.mk ((by rw [hg]; exact below_size (by repeat (first | (with_reducible first | exact HB.out | apply below_alloc | apply pw_below_drewN | apply below_drew1 | refine below_set ?_ GE8.out) | exact HB.out))) : w.heap.size ≤ gb9); have n7_ := Aside0.mk (Kd.R_below (by (with_reducible repeat (first | apply Kd.R_alloc | apply Kd.R_drewN | apply Kd.R_drew)); exact HO15.out) hb); have n8_ := Aside0.mk (below_step (by repeat (first | (with_reducible first | exact HB.out | apply below_alloc | apply pw_below_drewN | apply below_drew1 | refine below_set ?_ GE8.out) | exact HB.out)) hb); have n9_ := Aside0.mk (hbox); clear BK3; clear BK7; clear BK8; clear HB; clear HO15; have BK3 := n0_; have BK7 := n1_; have BK8 := n2_; have NB3_9 := n3_; have NB7_9 := n4_; have NB8_9 := n5_; have GE9 := n6_; have HO15 := n7_; have HB := n8_; have BK9 := n9_; clear n0_ n1_ n2_ n3_ n4_ n5_ n6_ n7_ n8_ n9_; clear hb hbox hg; obtain ⟨Ao, co, hz_⟩ := Kd.R_slice HO15.out; subst hz_; have hcz8_0 : w15.cell? ⟨gb8, 0, none⟩ = some (.slice none 0 0) := (blk_cell BK8.out 0).trans rfl; have hfz8_0 := blk_frozen BK8.out 0; have hw16_ := Aside0.mk (blk_far BK9.out (p := ⟨gb8, 0, none⟩) (fun e_ => NB8_9.out e_.symm) (.slice Ao y.length co)); have hcz9_0 : (w15.setCell ⟨gb8, 0, none⟩ (.slice Ao y.length co)).cell? ⟨gb9, 0, none⟩ = some (.bool false) := (blk_cell hw16_.out 0).trans rfl; have hfz9_0 := blk_frozen hw16_.out 0) | (go_at_call 78; refine (f8z.search may gM lM egM k1 n m7 w b7 gb3 gb8 gb9 (y, false) (t8, true) (by rw [Ny.out]) A8.out _ (by repeat (first | (with_reducible first | exact HB.out | apply below_alloc | apply pw_below_drewN | apply below_drew1 | refine below_set ?_ GE8.out | refine below_set ?_ GE9.out) | exact HB.out)) HM.out (by (with_reducible repeat (first | refine blk_drewN ?_ _ | refine blk_drew ?_ | refine blk_alloc ?_ _)); refine blk_far ?_ NB7_9.out _; (with_reducible repeat (first | refine blk_drewN ?_ _ | refine blk_drew ?_ | refine blk_alloc ?_ _)); refine blk_far ?_ NB7_8.out _; (with_reducible repeat (first | refine blk_drewN ?_ _ | refine blk_drew ?_ | refine blk_alloc ?_ _)); exact BK7.out) (by (with_reducible repeat (first | refine blk_drewN ?_ _ | refine blk_drew ?_ | refine blk_alloc ?_ _)); refine blk_far ?_ NB3_9.out _; (with_reducible repeat (first | refine blk_drewN ?_ _ | refine blk_drew ?_ | refine blk_alloc ?_ _)); refine blk_far ?_ NB3_8.out _; (with_reducible repeat (first | refine blk_drewN ?_ _ | refine blk_drew ?_ | refine blk_alloc ?_ _)); exact BK3.out) GE8.out GE9.out (fun h_ => h_.elim NB7_8.out NB7_9.out) (fun h_ => h_.elim NB3_8.out NB3_9.out) NB8_9.out ⟨Ao, co, (by (with_reducible repeat (first | refine blk_drewN ?_ _ | refine blk_drew ?_ | refine blk_alloc ?_ _)); refine blk_far ?_ NB8_9.out _; (with_reducible repeat (first | refine blk_drewN ?_ _ | refine blk_drew ?_ | refine blk_alloc ?_ _)); refine blk_put (cs := #[.slice none 0 0]) ?_ 0 _ rfl; (with_reducible repeat (first | refine blk_drewN ?_ _ | refine blk_drew ?_ | refine blk_alloc ?_ _)); exact BK8.out), blk_put hw16_.out 0 (.bool false) (cs' := #[.bool false]) rfl, Kd.R_mono (Kd.R_far (p := ⟨gb9, 0, none⟩) (Kd.R_far (p := ⟨gb8, 0, none⟩) (Kd.R_types (Kd.R_types HO15.out BK8.out (by decide)) BK9.out (by decide)) (fun _ hk => hk.1.2) (.slice Ao y.length co)) (fun _ hk => hk.2) (.bool false)) (fun k_ hk_ h_ => h_.elim (fun e_ => hk_.1.2 e_) (fun e_ => hk_.2 e_))⟩).mono ?_; rintro e w24 ⟨⟨vr_, rfl⟩, hkp, hbl, Ar, cr, hs1, hs2, hs3⟩; have n0_ := Aside0.mk (Below.trans (by repeat (first | (with_reducible first | exact HB.out | apply below_alloc | apply pw_below_drewN | apply below_drew1 | refine below_set ?_ GE8.out | refine below_set ?_ GE9.out) | exact HB.out)) hbl); have n1_ := Aside0.mk (blk_kept (g := gb3) (o := .cells #[.func (.func gM) #[] lM] 91 (0, 0)) (by (with_reducible repeat (first | refine blk_drewN ?_ _ | refine blk_drew ?_ | refine blk_alloc ?_ _)); refine blk_far ?_ NB3_9.out _; (with_reducible repeat (first | refine blk_drewN ?_ _ | refine blk_drew ?_ | refine blk_alloc ?_ _)); refine blk_far ?_ NB3_8.out _; (with_reducible repeat (first | refine blk_drewN ?_ _ | refine blk_drew ?_ | refine blk_alloc ?_ _)); exact BK3.out) hkp (fun h_ => h_.elim NB3_8.out NB3_9.out)); have n2_ := Aside0.mk (blk_kept (g := b7) (o := .cells #[.int .i64 m7] 2 (0, 0)) (by (with_reducible repeat (first | refine blk_drewN ?_ _ | refine blk_drew ?_ | refine blk_alloc ?_ _)); refine blk_far ?_ NB7_9.out _; (with_reducible repeat (first | refine blk_drewN ?_ _ | refine blk_drew ?_ | refine blk_alloc ?_ _)); refine blk_far ?_ NB7_8.out _; (with_reducible repeat (first | refine blk_drewN ?_ _ | refine blk_drew ?_ | refine blk_alloc ?_ _)); exact BK7.out) hkp (fun h_ => h_.elim NB7_8.out NB7_9.out)); clear HB BK3 BK7 BK8 BK9 HO15; have HB := n0_; have BK3 := n1_; have BK7 := n2_; have BK8 := Aside0.mk hs1; have BK9 := Aside0.mk hs2; have HO15 := Aside0.mk hs3; clear n0_ n1_ n2_ hs1 hs2 hs3 hkp hbl hcz8_0 hfz8_0 hcz9_0 hfz9_0; have hca_ : w24.cell? ⟨gb8, 0, none⟩ = some (.slice Ar t8.length cr) := (blk_cell BK8.out 0).trans rfl; have hcb_ : w24.cell? ⟨gb9, 0, none⟩ = some (.bool true) := (blk_cell BK9.out 0).trans rfl; have hcc_ : w24.cell? ⟨b7, 0, none⟩ = some (.int .i64 m7) := (blk_cell BK7.out 0).trans rfl))
     repeat (go_quiet (fail); try go_wp2)
     go_ret3
     exact ⟨_, rfl, by (with_reducible repeat (first | apply Kd.R_alloc | apply Kd.R_drewN | apply Kd.R_drew)); exact Kd.R_mono HO15.out (fun _ _ => trivial), (by repeat (first | (with_reducible first | exact HB.out | apply below_alloc | apply pw_below_drewN | apply below_drew1) | exact HB.out))⟩
    ·replace c9 := Bool.eq_false_iff.mpr c9
     subst c9
     have H' := Aside0.mk (show f8z.l0 may k1 n (wrap64 (m7 + 1)) = some (r1, r2, r3) from by rw [if_neg (show ¬ (false = true) by decide)] at H; exact H)
     clear H
     go_wp2_with (first | ((with_reducible refine gate_dst (N := 15) rfl ?_); refine Kd.R_lit (Kd.int .i64) _ 2 ?hg (N := 15) ?hd (xs := ([] : List Int)) (inner := []) (ok := fun _ => True) (okp := fun _ => True) ?hr ?hp (fun _ hk => hk) trivial (Below.refl _ _) (Nat.le_refl _) (by simp) ?_; (case hd => rfl); (case hg => rfl); (case hr => first | (go_simp; done) | (go_simp; rfl)); (case hp => exact (Reps.none _ _)); intro v15 w12 ho13 hb hg_ hnew_; clear hg_ hnew_; (first | rw [← Ny.out] at ho13 | (simp only [Int.reduceToNat] at ho13; rw [← Ny.out] at ho13)); have n0_ := Aside0.mk (Kd.R_lower ho13 (below_size (by repeat (first | (with_reducible first | exact HB.out | apply below_alloc | apply pw_below_drewN | apply below_drew1) | exact HB.out)))); have n1_ := Aside0.mk (blk_below (g := gb3) (o := .cells #[.func (.func gM) #[] lM] 91 (0, 0)) (by (with_reducible repeat (first | refine blk_drewN ?_ _ | refine blk_drew ?_ | refine blk_alloc ?_ _)); exact BK3.out) hb); have n2_ := Aside0.mk (blk_below (g := b7) (o := .cells #[.int .i64 m7] 2 (0, 0)) (by (with_reducible repeat (first | refine blk_drewN ?_ _ | refine blk_drew ?_ | refine blk_alloc ?_ _)); exact BK7.out) hb); have n3_ := Aside0.mk (below_step (by repeat (first | (with_reducible first | exact HB.out | apply below_alloc | apply pw_below_drewN | apply below_drew1) | exact HB.out)) hb); clear BK3; clear BK7; clear HB; have HO15 := n0_; have BK3 := n1_; have BK7 := n2_; have HB := n3_; clear n0_ n1_ n2_ n3_; clear hb ho13) | ((with_reducible refine gate_dst (N := 8) rfl ?_); refine box_event ?hg (N := 8) ?hd (cs := #[.slice none 0 0]) (t := 34) ?hr ?_; (case hd => rfl); (case hg => rfl); (case hr => first | (go_simp; done) | (go_simp; rfl)); intro gb8 hg w14 hbox hb; have n0_ := Aside0.mk (blk_below (g := gb3) (o := .cells #[.func (.func gM) #[] lM] 91 (0, 0)) (by (with_reducible repeat (first | refine blk_drewN ?_ _ | refine blk_drew ?_ | refine blk_alloc ?_ _)); exact BK3.out) hb); have n1_ := Aside0.mk (blk_below (g := b7) (o := .cells #[.int .i64 m7] 2 (0, 0)) (by (with_reducible repeat (first | refine blk_drewN ?_ _ | refine blk_drew ?_ | refine blk_alloc ?_ _)); exact BK7.out) hb); have n2_ := Aside0.mk ((by rw [hg]; exact Nat.ne_of_lt (blk_lt (g := gb3) (o := .cells #[.func (.func gM) #[] lM] 91 (0, 0)) (by (with_reducible repeat (first | refine blk_drewN ?_ _ | refine blk_drew ?_ | refine blk_alloc ?_ _)); exact BK3.out))) : gb3 ≠ gb8); have n3_ := Aside0.mk ((by rw [hg]; exact Nat.ne_of_lt (blk_lt (g := b7) (o := .cells #[.int .i64 m7] 2 (0, 0)) (by (with_reducible repeat (first | refine blk_drewN ?_ _ | refine blk_drew ?_ | refine blk_alloc ?_ _)); exact BK7.out))) : b7 ≠ gb8); have n4_ := Aside0.mk ((by rw [hg]; exact below_size (by repeat (first | (with_reducible first | exact HB.out | apply below_alloc | apply pw_below_drewN | apply below_drew1) | exact HB.out))) : w.heap.size ≤ gb8); have n5_ := Aside0.mk (Kd.R_below (by (with_reducible repeat (first | apply Kd.R_alloc | apply Kd.R_drewN | apply Kd.R_drew)); exact HO15.out) hb); have n6_ := Aside0.mk (below_step (by repeat (first | (with_reducible first | exact HB.out | apply below_alloc | apply pw_below_drewN | apply below_drew1) | exact HB.out)) hb); have n7_ := Aside0.mk (hbox); clear BK3; clear BK7; clear HB; clear HO15; have BK3 := n0_; have BK7 := n1_; have NB3_8 := n2_; have NB7_8 := n3_; have GE8 := n4_; have HO15 := n5_; have HB := n6_; have BK8 := n7_; clear n0_ n1_ n2_ n3_ n4_ n5_ n6_ n7_; clear hb hbox hg) | ((with_reducible refine gate_dst (N := 9) rfl ?_); refine box_event ?hg (N := 9) ?hd (cs := #[.bool false]) (t := 4) ?hr ?_; (case hd => rfl); (case hg => rfl); (case hr => first | (go_simp; done) | (go_simp; rfl)); intro gb9 hg w15 hbox hb; have n0_ := Aside0.mk (blk_below (g := gb3) (o := .cells #[.func (.func gM) #[] lM] 91 (0, 0)) (by (with_reducible repeat (first | refine blk_drewN ?_ _ | refine blk_drew ?_ | refine blk_alloc ?_ _)); exact BK3.out) hb); have n1_ := Aside0.mk (blk_below (g := b7) (o := .cells #[.int .i64 m7] 2 (0, 0)) (by (with_reducible repeat (first | refine blk_drewN ?_ _ | refine blk_drew ?_ | refine blk_alloc ?_ _)); exact BK7.out) hb); have n2_ := Aside0.mk (blk_below (g := gb8) (o := .cells #[.slice none 0 0] 34 (0, 0)) (by (with_reducible repeat (first | refine blk_drewN ?_ _ | refine blk_drew ?_ | refine blk_alloc ?_ _)); exact BK8.out) hb); have n3_ := Aside0.mk ((by rw [hg]; exact Nat.ne_of_lt (blk_lt (g := gb3) (o := .cells #[.func (.func gM) #[] lM] 91 (0, 0)) (by (with_reducible repeat (first | refine blk_drewN ?_ _ | refine blk_drew ?_ | refine blk_alloc ?_ _)); exact BK3.out))) : gb3 ≠ gb9); have n4_ := Aside0.mk ((by rw [hg]; exact Nat.ne_of_lt (blk_lt (g := b7) (o := .cells #[.int .i64 m7] 2 (0, 0)) (by (with_reducible repeat (first | refine blk_drewN ?_ _ | refine blk_drew ?_ | refine blk_alloc ?_ _)); exact BK7.out))) : b7 ≠ gb9); have n5_ := Aside0.mk ((by rw [hg]; exact Nat.ne_of_lt (blk_lt (g := gb8) (o := .cells #[.slice none 0 0] 34 (0, 0)) (by (with_reducible repeat (first | refine blk_drewN ?_ _ | refine blk_drew ?_ | refine blk_alloc ?_ _)); exact BK8.out))) : gb8 ≠ gb9); have n6_ := Aside0.mk ((by rw [hg]; exact below_size (by repeat (first | (with_reducible first | exact HB.out | apply below_alloc | apply pw_below_drewN | apply below_drew1 | refine below_set ?_ GE8.out) | exact HB.out))) : w.heap.size ≤ gb9); have n7_ := Aside0.mk (Kd.R_below (by (with_reducible repeat (first | apply Kd.R_alloc | apply Kd.R_drewN | apply Kd.R_drew)); exact HO15.out) hb); have n8_ := Aside0.mk (below_step (by repeat (first | (with_reducible first | exact HB.out | apply below_alloc | apply pw_below_drewN | apply below_drew1 | refine below_set ?_ GE8.out) | exact HB.out)) hb); have n9_ := Aside0.mk (hbox); clear BK3; clear BK7; clear BK8; clear HB; clear HO15; have BK3 := n0_; have BK7 := n1_; have BK8 := n2_; have NB3_9 := n3_; have NB7_9 := n4_; have NB8_9 := n5_; have GE9 := n6_; have HO15 := n7_; have HB := n8_; have BK9 := n9_; clear n0_ n1_ n2_ n3_ n4_ n5_ n6_ n7_ n8_ n9_; clear hb hbox hg; obtain ⟨Ao, co, hz_⟩ := Kd.R_slice HO15.out; subst hz_; have hcz8_0 : w15.cell? ⟨gb8, 0, none⟩ = some (.slice none 0 0) := (blk_cell BK8.out 0).trans rfl; have hfz8_0 := blk_frozen BK8.out 0; have hw16_ := Aside0.mk (blk_far BK9.out (p := ⟨gb8, 0, none⟩) (fun e_ => NB8_9.out e_.symm) (.slice Ao y.length co)); have hcz9_0 : (w15.setCell ⟨gb8, 0, none⟩ (.slice Ao y.length co)).cell? ⟨gb9, 0, none⟩ = some (.bool false) := (blk_cell hw16_.out 0).trans rfl; have hfz9_0 := blk_frozen hw16_.out 0) | (go_at_call 78; refine (f8z.search may gM lM egM k1 n m7 w b7 gb3 gb8 gb9 (y, false) (t8, false) (by rw [Ny.out]) A8.out _ (by repeat (first | (with_reducible first | exact HB.out | apply below_alloc | apply pw_below_drewN | apply below_drew1 | refine below_set ?_ GE8.out | refine below_set ?_ GE9.out) | exact HB.out)) HM.out (by (with_reducible repeat (first | refine blk_drewN ?_ _ | refine blk_drew ?_ | refine blk_alloc ?_ _)); refine blk_far ?_ NB7_9.out _; (with_reducible repeat (first | refine blk_drewN ?_ _ | refine blk_drew ?_ | refine blk_alloc ?_ _)); refine blk_far ?_ NB7_8.out _; (with_reducible repeat (first | refine blk_drewN ?_ _ | refine blk_drew ?_ | refine blk_alloc ?_ _)); exact BK7.out) (by (with_reducible repeat (first | refine blk_drewN ?_ _ | refine blk_drew ?_ | refine blk_alloc ?_ _)); refine blk_far ?_ NB3_9.out _; (with_reducible repeat (first | refine blk_drewN ?_ _ | refine blk_drew ?_ | refine blk_alloc ?_ _)); refine blk_far ?_ NB3_8.out _; (with_reducible repeat (first | refine blk_drewN ?_ _ | refine blk_drew ?_ | refine blk_alloc ?_ _)); exact BK3.out) GE8.out GE9.out (fun h_ => h_.elim NB7_8.out NB7_9.out) (fun h_ => h_.elim NB3_8.out NB3_9.out) NB8_9.out ⟨Ao, co, (by (with_reducible repeat (first | refine blk_drewN ?_ _ | refine blk_drew ?_ | refine blk_alloc ?_ _)); refine blk_far ?_ NB8_9.out _; (with_reducible repeat (first | refine blk_drewN ?_ _ | refine blk_drew ?_ | refine blk_alloc ?_ _)); refine blk_put (cs := #[.slice none 0 0]) ?_ 0 _ rfl; (with_reducible repeat (first | refine blk_drewN ?_ _ | refine blk_drew ?_ | refine blk_alloc ?_ _)); exact BK8.out), blk_put hw16_.out 0 (.bool false) (cs' := #[.bool false]) rfl, Kd.R_mono (Kd.R_far (p := ⟨gb9, 0, none⟩) (Kd.R_far (p := ⟨gb8, 0, none⟩) (Kd.R_types (Kd.R_types HO15.out BK8.out (by decide)) BK9.out (by decide)) (fun _ hk => hk.1.2) (.slice Ao y.length co)) (fun _ hk => hk.2) (.bool false)) (fun k_ hk_ h_ => h_.elim (fun e_ => hk_.1.2 e_) (fun e_ => hk_.2 e_))⟩).mono ?_; rintro e w24 ⟨⟨vr_, rfl⟩, hkp, hbl, Ar, cr, hs1, hs2, hs3⟩; have n0_ := Aside0.mk (Below.trans (by repeat (first | (with_reducible first | exact HB.out | apply below_alloc | apply pw_below_drewN | apply below_drew1 | refine below_set ?_ GE8.out | refine below_set ?_ GE9.out) | exact HB.out)) hbl); have n1_ := Aside0.mk (blk_kept (g := gb3) (o := .cells #[.func (.func gM) #[] lM] 91 (0, 0)) (by (with_reducible repeat (first | refine blk_drewN ?_ _ | refine blk_drew ?_ | refine blk_alloc ?_ _)); refine blk_far ?_ NB3_9.out _; (with_reducible repeat (first | refine blk_drewN ?_ _ | refine blk_drew ?_ | refine blk_alloc ?_ _)); refine blk_far ?_ NB3_8.out _; (with_reducible repeat (first | refine blk_drewN ?_ _ | refine blk_drew ?_ | refine blk_alloc ?_ _)); exact BK3.out) hkp (fun h_ => h_.elim NB3_8.out NB3_9.out)); have n2_ := Aside0.mk (blk_kept (g := b7) (o := .cells #[.int .i64 m7] 2 (0, 0)) (by (with_reducible repeat (first | refine blk_drewN ?_ _ | refine blk_drew ?_ | refine blk_alloc ?_ _)); refine blk_far ?_ NB7_9.out _; (with_reducible repeat (first | refine blk_drewN ?_ _ | refine blk_drew ?_ | refine blk_alloc ?_ _)); refine blk_far ?_ NB7_8.out _; (with_reducible repeat (first | refine blk_drewN ?_ _ | refine blk_drew ?_ | refine blk_alloc ?_ _)); exact BK7.out) hkp (fun h_ => h_.elim NB7_8.out NB7_9.out)); clear HB BK3 BK7 BK8 BK9 HO15; have HB := n0_; have BK3 := n1_; have BK7 := n2_; have BK8 := Aside0.mk hs1; have BK9 := Aside0.mk hs2; have HO15 := Aside0.mk hs3; clear n0_ n1_ n2_ hs1 hs2 hs3 hkp hbl hcz8_0 hfz8_0 hcz9_0 hfz9_0; have hca_ : w24.cell? ⟨gb8, 0, none⟩ = some (.slice Ar t8.length cr) := (blk_cell BK8.out 0).trans rfl; have hcb_ : w24.cell? ⟨gb9, 0, none⟩ = some (.bool false) := (blk_cell BK9.out 0).trans rfl; have hcc_ : w24.cell? ⟨b7, 0, none⟩ = some (.int .i64 m7) := (blk_cell BK7.out 0).trans rfl) | ((with_reducible refine gate_dst (N := 7) rfl ?_); refine box_event ?hg (N := 7) ?hd (cs := #[.int .i64 0]) (t := 2) ?hr ?_; (case hd => rfl); (case hg => rfl); (case hr => first | (go_simp; done) | (go_simp; rfl)); intro gbn hg w30 hbox hb; have n0_ := Aside0.mk (blk_below (g := gb3) (o := .cells #[.func (.func gM) #[] lM] 91 (0, 0)) (by (with_reducible repeat (first | refine blk_drewN ?_ _ | refine blk_drew ?_ | refine blk_alloc ?_ _)); exact BK3.out) hb); have n1_ := Aside0.mk (blk_below (g := b7) (o := .cells #[.int .i64 m7] 2 (0, 0)) (by (with_reducible repeat (first | refine blk_drewN ?_ _ | refine blk_drew ?_ | refine blk_alloc ?_ _)); exact BK7.out) hb); have n2_ := Aside0.mk ((by rw [hg]; exact Nat.ne_of_lt (blk_lt (g := gb3) (o := .cells #[.func (.func gM) #[] lM] 91 (0, 0)) (by (with_reducible repeat (first | refine blk_drewN ?_ _ | refine blk_drew ?_ | refine blk_alloc ?_ _)); exact BK3.out))) : gb3 ≠ gbn); have n3_ := Aside0.mk ((by rw [hg]; exact Nat.ne_of_lt (blk_lt (g := b7) (o := .cells #[.int .i64 m7] 2 (0, 0)) (by (with_reducible repeat (first | refine blk_drewN ?_ _ | refine blk_drew ?_ | refine blk_alloc ?_ _)); exact BK7.out))) : b7 ≠ gbn); have n4_ := Aside0.mk ((by rw [hg]; exact below_size (by repeat (first | (with_reducible first | exact HB.out | apply below_alloc | apply pw_below_drewN | apply below_drew1) | exact HB.out))) : w.heap.size ≤ gbn); have n5_ := Aside0.mk (below_step (by repeat (first | (with_reducible first | exact HB.out | apply below_alloc | apply pw_below_drewN | apply below_drew1) | exact HB.out)) hb); have n6_ := Aside0.mk (hbox); clear BK3; clear BK7; clear HB; have BK3 := n0_; have BK7 := n1_; have NB3_n := n2_; have NB7_n := n3_; have GEn := n4_; have HB := n5_; have BKn := n6_; clear n0_ n1_ n2_ n3_ n4_ n5_ n6_; clear hb hbox hg; have hcd_ : w30.cell? ⟨gbn, 0, none⟩ = some (.int .i64 0) := (blk_cell BKn.out 0).trans rfl; have hfd_ := blk_frozen BKn.out 0; have hwn_ := Aside0.mk (blk_put BKn.out 0 (.int .i64 m7) (cs' := #[.int .i64 m7]) rfl); have hce_ : (w30.setCell ⟨gbn, 0, none⟩ (.int .i64 m7)).cell? ⟨gbn, 0, none⟩ = some (.int .i64 m7) := (blk_cell hwn_.out 0).trans rfl; have hfe_ := blk_frozen hwn_.out 0))
     repeat (go_quiet (fail); try go_wp2)
     go_roundg k1
     case measure => have := HK1.out; omega
     case rel => exact ⟨gbn, wrap64 (m7 + 1), rfl, H', ⟨by have := HK1.out; omega⟩, ⟨(by (with_reducible repeat (first | refine blk_drewN ?_ _ | refine blk_drew ?_ | refine blk_alloc ?_ _)); refine blk_far ?_ NB3_n.out _; (with_reducible repeat (first | refine blk_drewN ?_ _ | refine blk_drew ?_ | refine blk_alloc ?_ _)); refine blk_far ?_ NB3_n.out _; (with_reducible repeat (first | refine blk_drewN ?_ _ | refine blk_drew ?_ | refine blk_alloc ?_ _)); exact BK3.out)⟩, ⟨blk_put hwn_.out 0 _ (cs' := #[.int .i64 (wrap64 (m7 + 1))]) rfl⟩, NB3_n, GEn, ⟨(by repeat (first | (with_reducible first | exact HB.out | apply below_alloc | apply pw_below_drewN | apply below_drew1 | refine below_set ?_ GEn.out) | exact HB.out))⟩⟩
   ·rw [if_neg c7] at H
    have c7b0 : decide (m7 ≤ n) = false := decide_eq_false c7
    clear c7
    simp only [Option.some.injEq, Prod.mk.injEq] at H
    obtain ⟨rfl, rfl, rfl⟩ := H
    go_wp2
    repeat (go_quiet (fail); try go_wp2)
    go_ret3
    exact ⟨_, rfl, Kd.R_nil _ _ _ _ _, (by repeat (first | (with_reducible first | exact HB.out | apply below_alloc | apply pw_below_drewN | apply below_drew1) | exact HB.out))⟩

/-! ### impl_weights: function 61 -/
def impl_weights.l0 : Nat → List Int → List Int → List Int → Int → Int → Option (List Int)
 | 0, _, _, _, _, _ => none
 | k + 1, x0, x5, x9, x10, x11 => if x11 < x10 then (if 0 ≤ x11 then (if x11 < (x9.length : Int) then (if 0 ≤ (rd x9 x11) then (if (rd x9 x11) < (x5.length : Int) then (if x11 < (x0.length : Int) then (impl_weights.l0 k x0 (x5.set ((rd x9 x11) : Int).toNat (wrap64 ((rd x5 (rd x9 x11)) + (rd x0 x11)))) x9 x10 (wrap64 (x11 + 1))) else (none)) else (none)) else (none)) else (none)) else (none)) else (some x5)
def impl_weights.f (k : Nat) (l0 : List Int) (l1 : List Int) : Option (List Int) := if 8 ≤ 35184372088832 then (impl_weights.l0 k l0 (List.replicate 8 0) l1 (l1.length : Int) 0) else (none)
theorem impl_weights.mono_l : ∀ k, (∀ y0 y1 y2 y3 y4, LeO (impl_weights.l0 k y0 y1 y2 y3 y4) (impl_weights.l0 (k + 1) y0 y1 y2 y3 y4))
 | 0 => fun _ _ _ _ _ r h => by simp [impl_weights.l0] at h
 | k + 1 => by
  have ih0 := impl_weights.mono_l k
  ·intro y0 y1 y2 y3 y4
   unfold impl_weights.l0
   repeat' first
   | (with_reducible exact ih0 _ _ _ _ _)
   | (with_reducible exact LeO.refl _)
   | (with_reducible exact LeO.none _)
   | (with_reducible refine LeO.ite ?_ ?_)
   | (with_reducible refine LeO.bind ?_ (fun _ => ?_))
   | exact ih0 _ _ _ _ _
   | exact LeO.none _
   | refine LeO.ite ?_ ?_
   | refine LeO.bind ?_ (fun _ => ?_)
theorem impl_weights.mono : ∀ a0 a1 k, LeO (impl_weights.f k a0 a1) (impl_weights.f (k + 1) a0 a1) := by
 intro a0 a1 k
 have ih0 := impl_weights.mono_l k
 unfold impl_weights.f
 repeat' first
   | (with_reducible exact ih0 _ _ _ _ _)
   | (with_reducible exact LeO.refl _)
   | (with_reducible exact LeO.none _)
   | (with_reducible refine LeO.ite ?_ ?_)
   | (with_reducible refine LeO.bind ?_ (fun _ => ?_))
   | exact ih0 _ _ _ _ _
   | exact LeO.none _
   | refine LeO.ite ?_ ?_
   | refine LeO.bind ?_ (fun _ => ?_)
def impl_weights.T5 : Bool × List (List Nat × List Nat) := (true, [([], []), ([], []), ([0, 1], [0, 1]), ([2], [2]), ([], []), ([], []), ([4, 5], [4, 5]), ([6], [6]), ([3, 7], [3, 7]), ([0, 1, 0, 1, 2, 3, 4, 5, 6, 7, 8], [0, 1]), ([9, 8, 0, 1, 2, 3, 4, 5, 6, 7, 8], [8, 9])])
def impl_weights.B5 : List Nat := [0, 0, 3, 7, 0, 0, 48, 112, 255, 511, 1023]
theorem impl_weights.tab5 : rtab .any (opsOf Try.f61 5) = impl_weights.T5 := by kernel_rfl
theorem impl_weights.bits5 : waitsOk impl_weights.T5.2 impl_weights.B5 = true := by kernel_rfl
set_option maxHeartbeats 8000000 in
set_option maxRecDepth 100000 in
theorem impl_weights.calls (k : Nat) (A0 : Option Addr) (c0 : Nat) (l0 : List Int) (A1 : Option Addr) (c1 : Nat) (l1 : List Int) (r : List Int) (w : World) (hr0 : Kd.C (Kd.int .i64) w A0 l0.length l0) (hc0 : l0.length ≤ c0) (hr1 : Kd.C (Kd.int .i64) w A1 l1.length l1) (hc1 : l1.length ≤ c1) (h : impl_weights.f k l0 l1 = some r) :
  Calls Try.prog 61 #[.slice A0 l0.length c0, .slice A1 l1.length c1] w fun e w' => ∃ v0_ : Value, e = .returned (v0_) ∧ Kd.R (Kd.int .i64) 2 w' w.heap.size (fun _ => True) v0_ r ∧ Below w.heap.size w w' := by
 have HR0 := Aside0.mk hr0
 have HC0 := Aside0.mk hc0
 clear hr0 hc0
 have HR1 := Aside0.mk hr1
 have HC1 := Aside0.mk hc1
 clear hr1 hc1
 have HB := Aside0.mk (Below.refl w.heap.size w)
 have H : (if 8 ≤ 35184372088832 then (impl_weights.l0 k l0 (List.replicate 8 0) l1 (l1.length : Int) 0) else (none)) = some r := h
 clear h
 by_cases c3 : 8 ≤ 35184372088832
 ·rw [if_pos c3] at H
  have c3b0 := eq_true c3
  have c3b1 : decide (8 ≤ 35184372088832) = true := decide_eq_true c3
  clear c3
  obtain ⟨y242, hy242⟩ : ∃ y_ : List Int, y_ = (List.replicate 8 0) := ⟨_, rfl⟩
  replace H : (impl_weights.l0 k l0 y242 l1 (l1.length : Int) 0) = some r := by first | (rw [hy242]; with_reducible exact H) | (have H2_ := (Option.bind_some _ _).symm.trans H; rw [hy242]; with_reducible exact H2_) | (have H2_ := (Option.bind_some _ _).symm.trans H; with_reducible exact H2_) | with_reducible exact H | (rw [hy242]; exact H) | exact H
  have Ny242 := Aside0.mk hy242
  clear hy242
  have H' := Aside0.mk H
  clear H
  go_enter Try.func61, Try.ntmps61
  go_wp2_with (first | ((with_reducible refine gate_dst (N := 8) rfl ?_); refine Kd.R_make (Kd.int .i64) _ 2 rfl (N := 8) rfl 34 _ _ rfl 8 rfl rfl Try.underlying34 (.int .i64 0) 8 info2 rfl (by decide) (by omega) 0 (ok := fun _ => True) (okp := fun _ => True) rfl (fun _ hk => hk) trivial (by omega) (by omega) (Below.refl _ _) (Nat.le_refl _) ?_; intro v243 w4 ho5 hb hg_ hnew_; clear hg_ hnew_; (first | rw [← Ny242.out] at ho5 | (simp only [Int.reduceToNat] at ho5; rw [← Ny242.out] at ho5)); have n0_ := Aside0.mk (Kd.R_lower ho5 (below_size (by repeat (first | (with_reducible first | exact HB.out | apply below_alloc | apply pw_below_drewN | apply below_drew1) | exact HB.out)))); have n1_ := Aside0.mk (below_step (by repeat (first | (with_reducible first | exact HB.out | apply below_alloc | apply pw_below_drewN | apply below_drew1) | exact HB.out)) hb); clear HB; have HO244 := n0_; have HB := n1_; clear n0_ n1_; clear hb ho5))
  go_loopg [11] k (fun kq v11 w' => ∃ (x5_1 : List Int) (x11_1 : Int), v11 = .int .i64 x11_1 ∧ Aside0 (impl_weights.l0 kq l0 x5_1 l1 (l1.length : Int) x11_1 = some r) ∧ Aside0 (kq ≤ k) ∧ Aside0 (Kd.R (Kd.int .i64) 2 w' w.heap.size (fun _ => True) v243 x5_1) ∧ Aside0 (Below w.heap.size w w'))
  case atStart => exact ⟨(y242), (0), (by first | rfl | (simp; done) | (simp [*]; done)), H', ⟨Nat.le_refl _⟩, ⟨by (with_reducible repeat (first | apply Kd.R_alloc | apply Kd.R_drewN | apply Kd.R_drew)); exact HO244.out⟩, ⟨by repeat (first | (with_reducible first | exact HB.out | apply below_alloc | apply pw_below_drewN | apply below_drew1) | exact HB.out)⟩⟩
  case round =>
   clear H'
   try clear c1
   try clear p2
   try clear c3
   try clear c3b0
   try clear c3b1
   obtain ⟨x5_1, x11_1, rfl, HA, HK1, HO_5, HB⟩ := hrel
   cases gk with
   | zero => exact absurd HA.out (by simp [impl_weights.l0])
   | succ k1 =>
    have H := HA.out
    clear HA
    simp only [impl_weights.l0] at H
    by_cases c6 : x11_1 < (l1.length : Int)
    ·rw [if_pos c6] at H
     have c6b0 : decide (x11_1 < (l1.length : Int)) = true := decide_eq_true c6
     clear c6
     by_cases c7 : 0 ≤ x11_1
     ·rw [if_pos c7] at H
      have c7b0 : decide (0 ≤ x11_1) = true := decide_eq_true c7
      clear c7
      by_cases c8 : x11_1 < (l1.length : Int)
      ·rw [if_pos c8] at H
       have c8b0 : decide (x11_1 < (l1.length : Int)) = true := decide_eq_true c8
       clear c8
       by_cases c9 : 0 ≤ (rd l1 x11_1)
       ·rw [if_pos c9] at H
        have c9b0 : decide (0 ≤ (rd l1 x11_1)) = true := decide_eq_true c9
        clear c9
        by_cases c10 : (rd l1 x11_1) < (x5_1.length : Int)
        ·rw [if_pos c10] at H
         have c10b0 : decide ((rd l1 x11_1) < (x5_1.length : Int)) = true := decide_eq_true c10
         clear c10
         by_cases c11 : x11_1 < (l0.length : Int)
         ·rw [if_pos c11] at H
          have c11b0 : decide (x11_1 < (l0.length : Int)) = true := decide_eq_true c11
          clear c11
          obtain ⟨y248, hy248⟩ : ∃ y_ : List Int, y_ = (x5_1.set ((rd l1 x11_1) : Int).toNat (wrap64 ((rd x5_1 (rd l1 x11_1)) + (rd l0 x11_1)))) := ⟨_, rfl⟩
          replace H : (impl_weights.l0 k1 l0 y248 l1 (l1.length : Int) (wrap64 (x11_1 + 1))) = some r := by first | (rw [hy248]; with_reducible exact H) | (have H2_ := (Option.bind_some _ _).symm.trans H; rw [hy248]; with_reducible exact H2_) | (have H2_ := (Option.bind_some _ _).symm.trans H; with_reducible exact H2_) | with_reducible exact H | (rw [hy248]; exact H) | exact H
          have Ny248 := Aside0.mk hy248
          clear hy248
          have H' := Aside0.mk H
          clear H
          have p245 : 0 ≤ (x11_1 : Int) := odt_
          have q245 : x11_1 < (l1.length : Int) := odt_
          obtain ⟨ad245, e245, hx245_0⟩ := Kd.at_int HR1.out x11_1 p245 q245
          cases e245
          replace hx245_0 := (HB.out.cell (World.block_lt_of_cell? w _ hx245_0)).trans hx245_0
          replace p245 := eq_true p245
          replace q245 := eq_true q245
          try go_wp2
          have n0_ := Aside0.mk (Kd.R_drew HO_5.out)
          have n1_ := Aside0.mk (below_drew1 HB.out)
          clear HO_5
          clear HB
          have HO_5 := n0_
          have HB := n1_
          clear n0_ n1_
          obtain ⟨Ao14, co14, eo14⟩ := Kd.R_slice HO_5.out
          (first | subst eo14 | (injection eo14 with f1_ f2_ f3_; have f4_ := f1_.symm; have f5_ := f3_.symm; clear f1_ f2_ f3_; subst f4_; subst f5_))
          have p246 : 0 ≤ ((rd l1 x11_1) : Int) := odt_
          have q246 : (rd l1 x11_1) < (x5_1.length : Int) := odt_
          obtain ⟨ad246, e246, hx246_0⟩ := Kd.at_int (Kd.R_reads' HO_5.out).2.2 (rd l1 x11_1) p246 q246
          cases e246
          replace p246 := eq_true p246
          replace q246 := eq_true q246
          have p247 : 0 ≤ (x11_1 : Int) := odt_
          have q247 : x11_1 < (l0.length : Int) := odt_
          obtain ⟨ad247, e247, hx247_0⟩ := Kd.at_int HR0.out x11_1 p247 q247
          have hw247_0 := hx247_0
          cases e247
          replace hx247_0 := (HB.out.cell (World.block_lt_of_cell? w _ hx247_0)).trans hx247_0
          replace p247 := eq_true p247
          replace q247 := eq_true q247
          have p12 : 0 ≤ ((rd l1 x11_1) : Int) := odt_
          have q12 : ((rd l1 x11_1) : Int) < ((x5_1.length : Int) : Int) := odt_
          obtain ⟨go12, co12, eo12, gb12, gl12, cl12, HG12⟩ := Kd.R_form HO_5.out (by omega)
          (first | cases eo12 | (injection eo12 with ea_ en_ ec_; (first | subst ea_ | (injection ea_ with ea_; subst ea_)); subst ec_; clear en_))
          have GB12 := Aside0.mk gb12
          have GG12 := Aside0.mk HG12
          clear gb12 gl12 HG12
          (first | simp only [add_plain] at hx246_0 | skip)
          obtain ⟨hx12_0, hf12_0⟩ := Kd.R_celln 0 HO_5.out ((rd l1 x11_1) : Int) p12 q12
          replace p12 := eq_true p12
          replace q12 := eq_true q12
          have HP15 := Kd.R_putn HO_5.out ((rd l1 x11_1) : Int) (wrap64 ((rd x5_1 (rd l1 x11_1)) + (rd l0 x11_1)))
          rw [← Ny248.out] at HP15
          have HQ15 := Aside0.mk HP15
          clear HP15
          refine start_ (n := 11) (S := fun w' => w'.cell? ⟨go12, ((rd l1 x11_1)).toNat, none⟩ = some (.int .i64 (rd x5_1 (rd l1 x11_1))) ∧ w'.cell? (ad247.add (x11_1).toNat) = some (.int .i64 (rd l0 x11_1))) (ds := [10]) #[false, false, false, false, false, false, false, false, false, false, false] (by kernel_rfl) rfl rfl ⟨hx246_0, ((HB.out.cell (World.block_lt_of_cell? w _ hw247_0)).trans hw247_0)⟩ (fun hHeld => ?_); refine with_tabW impl_weights.tab5 impl_weights.bits5 (fun HT_ HW_ => ?_)
          generalize wr.drew = w13 at HO_5 HB GG12 HQ15 hf12_0 hx12_0 hx246_0 hx247_0 hHeld ⊢
          refine pure_ (i := 0) (N := some 16) (v := ?_) (a' := ?_) #[true, false, false, false, false, false, false, false, false, false, false] rfl rfl (any_of HT_.out (by kernel_rfl)) (fun _ _ _ h => h) (Or.inl ⟨by rfl, ?_⟩) ?_ ?_
          rotate_left; intro w'; go_simp; with_reducible rfl; rotate_left; simp only [Act.put, sA_, sZ_, sS_, i64_w, i32_w]; rfl
          refine pure_ (i := 1) (N := some 17) (v := ?_) (a' := ?_) #[true, true, false, false, false, false, false, false, false, false, false] rfl rfl (any_of HT_.out (by kernel_rfl)) (fun _ _ _ h => h) (Or.inl ⟨by rfl, ?_⟩) ?_ ?_
          rotate_left; intro w'; go_simp; with_reducible rfl; rotate_left; simp only [Act.put, sA_, sZ_, sS_, i64_w, i32_w]; rfl
          refine pure_ (i := 2) (N := some 18) (v := ?_) (a' := ?_) #[true, true, true, false, false, false, false, false, false, false, false] rfl rfl (any_of HT_.out (by kernel_rfl)) (fun _ _ _ h => h) (Or.inl ⟨by rfl, ?_⟩) ?_ ?_
          rotate_left; intro w'; go_simp; with_reducible rfl; rotate_left; simp only [Act.put, sA_, sZ_, sS_, i64_w, i32_w]; rfl
          refine pure_ (i := 4) (N := some 20) (v := ?_) (a' := ?_) #[true, true, true, false, true, false, false, false, false, false, false] rfl rfl (any_of HT_.out (by kernel_rfl)) (fun _ _ _ h => h) (Or.inl ⟨by rfl, ?_⟩) ?_ ?_
          rotate_left; intro w'; go_simp; with_reducible rfl; rotate_left; simp only [Act.put, sA_, sZ_, sS_, i64_w, i32_w]; rfl
          refine pure_ (i := 5) (N := some 21) (v := ?_) (a' := ?_) #[true, true, true, false, true, true, false, false, false, false, false] rfl rfl (any_of HT_.out (by kernel_rfl)) (fun _ _ _ h => h) (Or.inl ⟨by rfl, ?_⟩) ?_ ?_
          rotate_left; intro w'; go_simp; with_reducible rfl; rotate_left; simp only [Act.put, sA_, sZ_, sS_, i64_w, i32_w]; rfl
          refine pure_ (i := 6) (N := some 22) (v := ?_) (a' := ?_) #[true, true, true, false, true, true, true, false, false, false, false] rfl rfl (any_of HT_.out (by kernel_rfl)) (fun _ _ _ h => h) (Or.inl ⟨by rfl, ?_⟩) ?_ ?_
          rotate_left; intro w'; go_simp; with_reducible rfl; rotate_left; simp only [Act.put, sA_, sZ_, sS_, i64_w, i32_w]; rfl
          refine take_ (i := 3) (N := some 19) (v := ?_) (a' := ?_) #[true, true, true, true, true, true, true, false, false, false, false] rfl rfl (take_ofW HT_.out HW_.out (by kernel_rfl)) (fun _ _ _ h => h) (Or.inl ⟨by rfl, ?_⟩) hHeld ?_ ?_
          rotate_left; rintro w' ⟨s0, s1⟩; go_simp; with_reducible rfl; rotate_left; simp only [Act.put, sA_, sZ_, sS_, i64_w, i32_w]; rfl
          refine take_ (i := 7) (N := some 23) (v := ?_) (a' := ?_) #[true, true, true, true, true, true, true, true, false, false, false] rfl rfl (take_ofW HT_.out HW_.out (by kernel_rfl)) (fun _ _ _ h => h) (Or.inl ⟨by rfl, ?_⟩) hHeld ?_ ?_
          rotate_left; rintro w' ⟨s0, s1⟩; go_simp; with_reducible rfl; rotate_left; simp only [Act.put, sA_, sZ_, sS_, i64_w, i32_w]; rfl
          refine pure_ (i := 8) (N := some 24) (v := ?_) (a' := ?_) #[true, true, true, true, true, true, true, true, true, false, false] rfl rfl (any_of HT_.out (by kernel_rfl)) (fun _ _ _ h => h) (Or.inl ⟨by rfl, ?_⟩) ?_ ?_
          rotate_left; intro w'; go_simp; with_reducible rfl; rotate_left; simp only [Act.put, sA_, sZ_, sS_, i64_w, i32_w]; rfl
          refine pure_ (i := 9) (N := some 25) (v := ?_) (a' := ?_) #[true, true, true, true, true, true, true, true, true, true, false] rfl rfl (any_of HT_.out (by kernel_rfl)) (fun _ _ _ h => h) (Or.inl ⟨by rfl, ?_⟩) ?_ ?_
          rotate_left; intro w'; go_simp; with_reducible rfl; rotate_left; simp only [Act.put, sA_, sZ_, sS_, i64_w, i32_w]; rfl
          refine last_ (i := 10) (N := none) #[true, true, true, true, true, true, true, true, true, true, true] rfl rfl (one_of HT_.out (by kernel_rfl)) (by decide) (fun K hK => ?_)
          refine skip_ (w1 := ?_) (by rfl) rfl ?_ ?_
          rotate_left
          ·go_simp
           rfl
          refine hK.out _ _ ?_
          clear hK K
          refine done_ (done_of HT_.out (by kernel_rfl)) ?_
          try go_wp2
          go_roundg k1
          case measure => have := HK1.out; omega
          case rel => exact ⟨(y248), (wrap64 (x11_1 + 1)), (by first | rfl | (simp; done) | (simp [*]; done)), H', ⟨by have := HK1.out; omega⟩, ⟨by (with_reducible repeat (first | apply Kd.R_alloc | apply Kd.R_drewN | apply Kd.R_drew)); exact HQ15.out⟩, ⟨by repeat (first | (with_reducible first | exact HB.out | apply below_alloc | apply pw_below_drewN | apply below_drew1 | refine below_set ?_ GB12.out) | exact HB.out)⟩⟩
         ·rw [if_neg c11] at H
          exact absurd H (by simp)
        ·rw [if_neg c10] at H
         exact absurd H (by simp)
       ·rw [if_neg c9] at H
        exact absurd H (by simp)
      ·rw [if_neg c8] at H
       exact absurd H (by simp)
     ·rw [if_neg c7] at H
      exact absurd H (by simp)
    ·rw [if_neg c6] at H
     have c6b0 : decide (x11_1 < (l1.length : Int)) = false := decide_eq_false c6
     clear c6
     obtain rfl := Option.some.inj H
     go_wp2
     go_ret
     exact ⟨_, by first | rfl | (simp [errW_none, errW_some] <;> rfl) | (simp [*, errW_none, errW_some] <;> rfl), by (with_reducible repeat (first | apply Kd.R_alloc | apply Kd.R_drewN | apply Kd.R_drew)); exact HO_5.out, by repeat (first | (with_reducible first | exact HB.out | apply below_alloc | apply pw_below_drewN | apply below_drew1) | exact HB.out)⟩
 ·rw [if_neg c3] at H
  exact absurd H (by simp)

/-! ### f9z: function 107 -/
theorem more_ {P : Program} {md : Region.Mode} {ops : Array Oper} {Q : Exit → Act → World → Prop} {S S' : World → Prop} (hm : ∀ w, S' w → S w) {n : Nat} {l : Array Bool} {a : Act} {w : World} (hS : S' w) (h : S' w → wpAnyLast P md ops Q S' [] n l a w) : wpAnyLast P md ops Q S [] n l a w := by
 have key : ∀ (n : Nat) (l : Array Bool) (a : Act) (w : World), S' w → wpAnyLast P md ops Q S' [] n l a w → wpAnyLast P md ops Q S [] n l a w := by
  intro n
  induction n with
  | zero => intro l a w _ h; exact h
  | succ n ih =>
   intro l a w hS h
   refine ⟨h.1, fun i hi => wpOp_mono (fun a' w' h' => ?_) (h.2 i hi)⟩
   have h2 := h'.1 (by simp) hS
   exact ⟨fun _ _ => hm _ h2, ih _ _ _ h2 h'.2⟩
 exact key n l a w hS (h hS)
def f9z.f (k : Nat) (l0 : List Int) (a1 : Int) (l2_0 : List Int) (l2_1 : List (List Int)) (l2_2 : List Int) : Option (Bool) := (impl_weights.f k l2_2 l0).bind fun t253 => (if 0 ≤ a1 then (if a1 < (t253.length : Int) then (if 0 ≤ (l0.length : Int) then (if (l0.length : Int) < (l2_2.length : Int) then ((impl_Table_step.f l2_0 l2_1 (wrap64 ((rd t253 a1) + (rd l2_2 (l0.length : Int))))).bind fun t258 => (some (decide (t258 ≥ 0)))) else (none)) else (none)) else (none)) else (none))
theorem f9z.mono : ∀ a0 a1 a2 a3 a4 k, LeO (f9z.f k a0 a1 a2 a3 a4) (f9z.f (k + 1) a0 a1 a2 a3 a4) := by
 intro a0 a1 a2 a3 a4 k
 unfold f9z.f
 repeat' first
   | (with_reducible exact impl_weights.mono _ _ _)
   | (with_reducible exact LeO.refl _)
   | (with_reducible exact LeO.none _)
   | (with_reducible refine LeO.ite ?_ ?_)
   | (with_reducible refine LeO.bind ?_ (fun _ => ?_))
   | exact impl_weights.mono _ _ _
   | exact LeO.none _
   | refine LeO.ite ?_ ?_
   | refine LeO.bind ?_ (fun _ => ?_)
def f9z.T1 : Bool × List (List Nat × List Nat) := (true, [([], []), ([], []), ([], []), ([1, 2], [1, 2]), ([], []), ([3, 4], [3, 4]), ([5], [5]), ([], []), ([], []), ([8], [8]), ([7, 9], [7, 9]), ([10], [10]), ([6, 11], [6, 11]), ([0, 12, 3], [0, 12]), ([13], [13]), ([14, 13, 0, 1, 2, 3, 4, 5, 6, 7, 8, 9, 10, 11, 12, 13, 14], [14])])
def f9z.B1 : List Nat := [0, 0, 0, 6, 0, 30, 62, 0, 0, 256, 896, 1920, 4094, 8191, 16383, 32767]
theorem f9z.tab1 : rtab .any (opsOf Try.f107 1) = f9z.T1 := by kernel_rfl
theorem f9z.bits1 : waitsOk f9z.T1.2 f9z.B1 = true := by kernel_rfl
set_option maxHeartbeats 8000000 in
set_option maxRecDepth 100000 in
theorem f9z.calls (k : Nat) (A0 : Option Addr) (c0 : Nat) (l0 : List Int) (a1 : Int) (B2_0 : Nat) (B2_1 : Nat) (A2_0 : Option Addr) (c2_0 : Nat) (l2_0 : List Int) (A2_1 : Option Addr) (c2_1 : Nat) (l2_1 : List (List Int)) (A2_2 : Option Addr) (c2_2 : Nat) (l2_2 : List Int) (r : Bool) (w : World) (hr0 : Kd.C (Kd.int .i64) w A0 l0.length l0) (hc0 : l0.length ≤ c0) (hr2_0 : Kd.C (Kd.int .i16) w A2_0 l2_0.length l2_0) (hc2_0 : l2_0.length ≤ c2_0) (hr2_1 : Kd.C (Kd.slice 81 (Kd.int .i16)) w A2_1 l2_1.length l2_1) (hc2_1 : l2_1.length ≤ c2_1) (hr2_2 : Kd.C (Kd.int .i64) w A2_2 l2_2.length l2_2) (hc2_2 : l2_2.length ≤ c2_2) (hkB2_0 : w.heap[B2_0]? = some (.cells #[.slice A2_0 l2_0.length c2_0, .slice A2_1 l2_1.length c2_1] 38 (0, 0))) (hkB2_1 : w.heap[B2_1]? = some (.cells #[.slice A2_2 l2_2.length c2_2] 34 (0, 0))) (h : f9z.f k l0 a1 l2_0 l2_1 l2_2 = some r) :
  Calls Try.prog 107 #[.slice A0 l0.length c0, .int .i64 a1, .pointer (some ⟨B2_0, 0, none⟩), .pointer (some ⟨B2_1, 0, none⟩)] w fun e w' => e = .returned (.bool r) ∧ Below w.heap.size w w' := by
 have hu38 := Try.underlying38
 have HR0 := Aside0.mk hr0
 have HC0 := Aside0.mk hc0
 clear hr0 hc0
 have HR2_0 := Aside0.mk hr2_0
 have HC2_0 := Aside0.mk hc2_0
 clear hr2_0 hc2_0
 have HR2_1 := Aside0.mk hr2_1
 have HC2_1 := Aside0.mk hc2_1
 clear hr2_1 hc2_1
 have HR2_2 := Aside0.mk hr2_2
 have HC2_2 := Aside0.mk hc2_2
 clear hr2_2 hc2_2
 have BK251 := Aside0.mk hkB2_0
 clear hkB2_0
 have BK252 := Aside0.mk hkB2_1
 clear hkB2_1
 have HB := Aside0.mk (Below.refl w.heap.size w)
 have H : ((impl_weights.f k l2_2 l0).bind fun t253 => (if 0 ≤ a1 then (if a1 < (t253.length : Int) then (if 0 ≤ (l0.length : Int) then (if (l0.length : Int) < (l2_2.length : Int) then ((impl_Table_step.f l2_0 l2_1 (wrap64 ((rd t253 a1) + (rd l2_2 (l0.length : Int))))).bind fun t258 => (some (decide (t258 ≥ 0)))) else (none)) else (none)) else (none)) else (none))) = some r := h
 clear h
 replace H := Option.bind_eq_some_iff.mp H
 obtain ⟨t253, A40, H⟩ := H
 replace H : (if 0 ≤ a1 then (if a1 < (t253.length : Int) then (if 0 ≤ (l0.length : Int) then (if (l0.length : Int) < (l2_2.length : Int) then ((impl_Table_step.f l2_0 l2_1 (wrap64 ((rd t253 a1) + (rd l2_2 (l0.length : Int))))).bind fun t258 => (some (decide (t258 ≥ 0)))) else (none)) else (none)) else (none)) else (none)) = some r := H
 have A4 := Aside0.mk A40
 clear A40
 by_cases c5 : 0 ≤ a1
 ·rw [if_pos c5] at H
  have c5b0 : decide (0 ≤ a1) = true := decide_eq_true c5
  clear c5
  by_cases c6 : a1 < (t253.length : Int)
  ·rw [if_pos c6] at H
   have c6b0 : decide (a1 < (t253.length : Int)) = true := decide_eq_true c6
   clear c6
   by_cases c7 : 0 ≤ (l0.length : Int)
   ·rw [if_pos c7] at H
    have c7b0 : decide (0 ≤ (l0.length : Int)) = true := decide_eq_true c7
    have c7b1 : decide (0 ≤ l0.length) = true := decide_eq_true (by omega)
    clear c7
    by_cases c8 : (l0.length : Int) < (l2_2.length : Int)
    ·rw [if_pos c8] at H
     have c8b0 : decide ((l0.length : Int) < (l2_2.length : Int)) = true := decide_eq_true c8
     have c8b1 : decide (l0.length < l2_2.length) = true := decide_eq_true (Int.ofNat_lt.mp c8)
     clear c8
     replace H := Option.bind_eq_some_iff.mp H
     obtain ⟨t258, A90, H⟩ := H
     replace H : (some (decide (t258 ≥ 0))) = some r := H
     have A9 := Aside0.mk A90
     clear A90
     obtain rfl := Option.some.inj H
     go_enter Try.func107, Try.ntmps107
     try go_wp2
     have n0_ := Aside0.mk (blk_drew BK251.out)
     have n1_ := Aside0.mk (blk_drew BK252.out)
     have n2_ := Aside0.mk (below_drew1 HB.out)
     clear BK251
     clear BK252
     clear HB
     have BK251 := n0_
     have BK252 := n1_
     have HB := n2_
     clear n0_ n1_ n2_
     have p257 : 0 ≤ ((l0.length : Int) : Int) := odt_
     have q257 : (l0.length : Int) < (l2_2.length : Int) := odt_
     obtain ⟨ad257, e257, hx257_0⟩ := Kd.at_int HR2_2.out (l0.length : Int) p257 q257
     have hw257_0 := hx257_0
     cases e257
     replace hx257_0 := (HB.out.cell (World.block_lt_of_cell? w _ hx257_0)).trans hx257_0
     (try simp only [Go.IntWalk.toNatUp] at hx257_0)
     replace p257 := eq_true p257
     replace q257 := eq_true q257
     refine start_ (n := 16) (S := fun w' => w'.cell? ⟨B2_0, 0, none⟩ = some (.slice A2_0 l2_0.length c2_0) ∧ w'.cell? ⟨B2_0, 1, none⟩ = some (.slice A2_1 l2_1.length c2_1) ∧ w'.cell? ⟨B2_1, 0, none⟩ = some (.slice (some ad257) l2_2.length c2_2) ∧ w'.cell? (ad257.add l0.length) = some (.int .i64 (rd l2_2 (l0.length : Int)))) (ds := []) #[false, false, false, false, false, false, false, false, false, false, false, false, false, false, false, false] (by kernel_rfl) rfl rfl ⟨(blk_cell BK251.out 0).trans rfl, (blk_cell BK251.out 1).trans rfl, (blk_cell BK252.out 0).trans rfl, ((HB.out.cell (World.block_lt_of_cell? w _ hw257_0)).trans hw257_0)⟩ (fun hHeld => ?_); refine with_tabW f9z.tab1 f9z.bits1 (fun HT_ HW_ => ?_)
     generalize w.drew = w10 at BK251 BK252 HB hx257_0 hHeld ⊢
     refine pure_ (i := 2) (N := some 9) (v := ?_) (a' := ?_) #[false, false, true, false, false, false, false, false, false, false, false, false, false, false, false, false] rfl rfl (any_of HT_.out (by kernel_rfl)) (fun _ _ _ h => h) (Or.inl ⟨by rfl, ?_⟩) ?_ ?_
     rotate_left; intro w'; go_simp; with_reducible rfl; rotate_left; simp only [Act.put, sA_, sZ_, sS_, i64_w, i32_w]; rfl
     refine pure_ (i := 4) (N := some 11) (v := ?_) (a' := ?_) #[false, false, true, false, true, false, false, false, false, false, false, false, false, false, false, false] rfl rfl (any_of HT_.out (by kernel_rfl)) (fun _ _ _ h => h) (Or.inl ⟨by rfl, ?_⟩) ?_ ?_
     rotate_left; intro w'; go_simp; with_reducible rfl; rotate_left; simp only [Act.put, sA_, sZ_, sS_, i64_w, i32_w]; rfl
     refine pure_ (i := 8) (N := some 15) (v := ?_) (a' := ?_) #[false, false, true, false, true, false, false, false, true, false, false, false, false, false, false, false] rfl rfl (any_of HT_.out (by kernel_rfl)) (fun _ _ _ h => h) (Or.inl ⟨by rfl, ?_⟩) ?_ ?_
     rotate_left; intro w'; go_simp; with_reducible rfl; rotate_left; simp only [Act.put, sA_, sZ_, sS_, i64_w, i32_w]; rfl
     refine pure_ (i := 9) (N := some 16) (v := ?_) (a' := ?_) #[false, false, true, false, true, false, false, false, true, true, false, false, false, false, false, false] rfl rfl (any_of HT_.out (by kernel_rfl)) (fun _ _ _ h => h) (Or.inl ⟨by rfl, ?_⟩) ?_ ?_
     rotate_left; intro w'; go_simp; with_reducible rfl; rotate_left; simp only [Act.put, sA_, sZ_, sS_, i64_w, i32_w]; rfl
     refine take_ (i := 0) (N := some 7) (v := ?_) (a' := ?_) #[true, false, true, false, true, false, false, false, true, true, false, false, false, false, false, false] rfl rfl (take_ofW HT_.out HW_.out (by kernel_rfl)) (fun _ _ _ h => h) (Or.inl ⟨by rfl, ?_⟩) hHeld ?_ ?_
     rotate_left; rintro w' ⟨s0, s1, s2, s3⟩; go_simp; with_reducible rfl; rotate_left; simp only [Act.put, sA_, sZ_, sS_, i64_w, i32_w]; rfl
     refine take_ (i := 1) (N := some 8) (v := ?_) (a' := ?_) #[true, true, true, false, true, false, false, false, true, true, false, false, false, false, false, false] rfl rfl (take_ofW HT_.out HW_.out (by kernel_rfl)) (fun _ _ _ h => h) (Or.inl ⟨by rfl, ?_⟩) hHeld ?_ ?_
     rotate_left; rintro w' ⟨s0, s1, s2, s3⟩; go_simp; with_reducible rfl; rotate_left; simp only [Act.put, sA_, sZ_, sS_, i64_w, i32_w]; rfl
     refine take_ (i := 7) (N := some 14) (v := ?_) (a' := ?_) #[true, true, true, false, true, false, false, true, true, true, false, false, false, false, false, false] rfl rfl (take_ofW HT_.out HW_.out (by kernel_rfl)) (fun _ _ _ h => h) (Or.inl ⟨by rfl, ?_⟩) hHeld ?_ ?_
     rotate_left; rintro w' ⟨s0, s1, s2, s3⟩; go_simp; with_reducible rfl; rotate_left; simp only [Act.put, sA_, sZ_, sS_, i64_w, i32_w]; rfl
     refine pure_ (i := 10) (N := some 17) (v := ?_) (a' := ?_) #[true, true, true, false, true, false, false, true, true, true, true, false, false, false, false, false] rfl rfl (any_of HT_.out (by kernel_rfl)) (fun _ _ _ h => h) (Or.inl ⟨by rfl, ?_⟩) ?_ ?_
     rotate_left; intro w'; go_simp; with_reducible rfl; rotate_left; simp only [Act.put, sA_, sZ_, sS_, i64_w, i32_w]; rfl
     refine take_ (i := 11) (N := some 18) (v := ?_) (a' := ?_) #[true, true, true, false, true, false, false, true, true, true, true, true, false, false, false, false] rfl rfl (take_ofW HT_.out HW_.out (by kernel_rfl)) (fun _ _ _ h => h) (Or.inl ⟨by rfl, ?_⟩) hHeld ?_ ?_
     rotate_left; rintro w' ⟨s0, s1, s2, s3⟩; go_simp; with_reducible rfl; rotate_left; simp only [Act.put, sA_, sZ_, sS_, i64_w, i32_w]; rfl
     refine one_ (i := 3) (N := some 10) #[true, true, true, true, true, false, false, true, true, true, true, true, false, false, false, false] rfl rfl (one_of HT_.out (by kernel_rfl)) (by decide) (fun K hK => ?_)
     refine goes_ Try.func61 (by kernel_rfl) rfl #[.slice (some ad257) l2_2.length c2_2, .slice A0 l0.length c0] (by rfl) rfl rfl (by (try simp only [List.map_toArray, List.map_cons, List.map_nil]); first | done | rfl | (simp only [List.length_drop, List.length_take]; rfl)) ?_
     with_reducible refine (impl_weights.calls k _ _ l2_2 _ _ l0 t253 _ ?side1 ?side2 ?side3 ?side4 A4.out).mono ?_
     (case side1 => repeat (first | exact (Kd.C_below HR2_2.out HB.out) | (with_reducible refine Kd.C_alloc ?_ _) | (with_reducible refine Kd.C_drewN ?_ _) | (with_reducible refine Kd.C_drew ?_)))
     (case side2 => exact HC2_2.out)
     (case side3 => repeat (first | exact (Kd.C_below HR0.out HB.out) | (with_reducible refine Kd.C_alloc ?_ _) | (with_reducible refine Kd.C_drewN ?_ _) | (with_reducible refine Kd.C_drew ?_)))
     (case side4 => exact HC0.out)
     rintro e w11 ⟨v254, rfl, ho0, hb⟩
     refine ⟨_, rfl, ?_⟩
     have n0_ := Aside0.mk (Kd.R_lower ho0 (below_size (by repeat (first | (with_reducible first | exact HB.out | apply below_alloc | apply pw_below_drewN | apply below_drew1 | refine below_set ?_ GE251.out | refine below_set ?_ GE252.out) | exact HB.out))))
     have n1_ := Aside0.mk (blk_below (g := B2_0) (o := .cells #[.slice A2_0 l2_0.length c2_0, .slice A2_1 l2_1.length c2_1] 38 (0, 0)) (by (with_reducible repeat (first | refine blk_drewN ?_ _ | refine blk_drew ?_ | refine blk_alloc ?_ _)); exact BK251.out) hb)
     have n2_ := Aside0.mk (blk_below (g := B2_1) (o := .cells #[.slice (some ad257) l2_2.length c2_2] 34 (0, 0)) (by (with_reducible repeat (first | refine blk_drewN ?_ _ | refine blk_drew ?_ | refine blk_alloc ?_ _)); exact BK252.out) hb)
     have n3_ := Aside0.mk (below_step (by repeat (first | (with_reducible first | exact HB.out | apply below_alloc | apply pw_below_drewN | apply below_drew1 | refine below_set ?_ GE251.out | refine below_set ?_ GE252.out) | exact HB.out)) hb)
     clear BK251
     clear BK252
     clear HB
     have HO255 := n0_
     have BK251 := n1_
     have BK252 := n2_
     have HB := n3_
     clear n0_ n1_ n2_ n3_
     (try clear hb)
     (try clear hb2)
     (try clear hk)
     (try clear hi)
     (try clear ho0)
     obtain ⟨Ao12, co12, eo12⟩ := Kd.R_slice HO255.out
     (first | subst eo12 | (injection eo12 with f1_ f2_ f3_; have f4_ := f1_.symm; have f5_ := f3_.symm; clear f1_ f2_ f3_; subst f4_; subst f5_))
     have p256 : 0 ≤ (a1 : Int) := odt_
     have q256 : a1 < (t253.length : Int) := odt_
     obtain ⟨ad256, e256, hx256_0⟩ := Kd.at_int (Kd.R_reads' HO255.out).2.2 a1 p256 q256
     cases e256
     replace p256 := eq_true p256
     replace q256 := eq_true q256
     refine hK.out _ _ ⟨(blk_cell BK251.out 0).trans rfl, (blk_cell BK251.out 1).trans rfl, (blk_cell BK252.out 0).trans rfl, ((HB.out.cell (World.block_lt_of_cell? w _ hw257_0)).trans hw257_0)⟩ (fun hHeld => ?_)
     clear hK K
     refine more_ (S' := fun w' => w'.cell? ⟨B2_0, 0, none⟩ = some (.slice A2_0 l2_0.length c2_0) ∧ w'.cell? ⟨B2_0, 1, none⟩ = some (.slice A2_1 l2_1.length c2_1) ∧ w'.cell? ⟨B2_1, 0, none⟩ = some (.slice (some ad257) l2_2.length c2_2) ∧ w'.cell? (ad257.add l0.length) = some (.int .i64 (rd l2_2 (l0.length : Int))) ∧ w'.cell? (ad256.add (a1).toNat) = some (.int .i64 (rd t253 a1))) (fun _ h_ => ⟨h_.1, h_.2.1, h_.2.2.1, h_.2.2.2.1⟩) ⟨hHeld.1, hHeld.2.1, hHeld.2.2.1, hHeld.2.2.2, hx256_0⟩ (fun hHeld => ?_)
     refine norm_ (a' := ?_) ?_ ?_
     rotate_left
     ·show Act.put _ (some 10) _ = _
      simp only [Act.put, sA_, sZ_, sS_, i64_w, i32_w]
      rfl
     refine pure_ (i := 5) (N := some 12) (v := ?_) (a' := ?_) #[true, true, true, true, true, true, false, true, true, true, true, true, false, false, false, false] rfl rfl (any_of HT_.out (by kernel_rfl)) (fun _ _ _ h => h) (Or.inl ⟨by rfl, ?_⟩) ?_ ?_
     rotate_left; intro w'; go_simp; with_reducible rfl; rotate_left; simp only [Act.put, sA_, sZ_, sS_, i64_w, i32_w]; rfl
     refine take_ (i := 6) (N := some 13) (v := ?_) (a' := ?_) #[true, true, true, true, true, true, true, true, true, true, true, true, false, false, false, false] rfl rfl (take_ofW HT_.out HW_.out (by kernel_rfl)) (fun _ _ _ h => h) (Or.inl ⟨by rfl, ?_⟩) hHeld ?_ ?_
     rotate_left; rintro w' ⟨s0, s1, s2, s3, s4⟩; go_simp; with_reducible rfl; rotate_left; simp only [Act.put, sA_, sZ_, sS_, i64_w, i32_w]; rfl
     refine pure_ (i := 12) (N := some 19) (v := ?_) (a' := ?_) #[true, true, true, true, true, true, true, true, true, true, true, true, true, false, false, false] rfl rfl (any_of HT_.out (by kernel_rfl)) (fun _ _ _ h => h) (Or.inl ⟨by rfl, ?_⟩) ?_ ?_
     rotate_left; intro w'; go_simp; with_reducible rfl; rotate_left; simp only [Act.put, sA_, sZ_, sS_, i64_w, i32_w]; rfl
     refine one_ (i := 13) (N := some 20) #[true, true, true, true, true, true, true, true, true, true, true, true, true, true, false, false] rfl rfl (one_of HT_.out (by kernel_rfl)) (by decide) (fun K hK => ?_)
     refine goes_ Try.func72 (by kernel_rfl) rfl #[.agg #[.slice A2_0 l2_0.length c2_0, .slice A2_1 l2_1.length c2_1], .int .i64 (wrap64 ((rd t253 a1) + (rd l2_2 (l0.length : Int))))] (by rfl) rfl rfl (by (try simp only [List.map_toArray, List.map_cons, List.map_nil]); first | done | rfl | (simp only [List.length_drop, List.length_take]; rfl)) ?_
     with_reducible refine (impl_Table_step.calls _ _ l2_0 _ _ l2_1 (wrap64 ((rd t253 a1) + (rd l2_2 (l0.length : Int)))) t258 _ ?side1 ?side2 ?side3 ?side4 A9.out).mono ?_
     (case side1 => repeat (first | exact (Kd.C_below HR2_0.out HB.out) | (with_reducible refine Kd.C_alloc ?_ _) | (with_reducible refine Kd.C_drewN ?_ _) | (with_reducible refine Kd.C_drew ?_)))
     (case side2 => exact HC2_0.out)
     (case side3 => repeat (first | exact (Kd.C_below HR2_1.out HB.out) | (with_reducible refine Kd.C_alloc ?_ _) | (with_reducible refine Kd.C_drewN ?_ _) | (with_reducible refine Kd.C_drew ?_)))
     (case side4 => exact HC2_1.out)
     rintro e w13 ⟨rfl, hb⟩
     have HS4_ := (hb.cell (World.block_lt_of_cell? _ _ (hHeld.2.2.2.2))).trans (hHeld.2.2.2.2)
     refine ⟨_, rfl, ?_⟩
     have n0_ := Aside0.mk (Kd.R_below (by (with_reducible repeat (first | apply Kd.R_alloc | apply Kd.R_drewN | apply Kd.R_drew)); exact HO255.out) hb)
     have n1_ := Aside0.mk (blk_below (g := B2_0) (o := .cells #[.slice A2_0 l2_0.length c2_0, .slice A2_1 l2_1.length c2_1] 38 (0, 0)) (by (with_reducible repeat (first | refine blk_drewN ?_ _ | refine blk_drew ?_ | refine blk_alloc ?_ _)); exact BK251.out) hb)
     have n2_ := Aside0.mk (blk_below (g := B2_1) (o := .cells #[.slice (some ad257) l2_2.length c2_2] 34 (0, 0)) (by (with_reducible repeat (first | refine blk_drewN ?_ _ | refine blk_drew ?_ | refine blk_alloc ?_ _)); exact BK252.out) hb)
     have n3_ := Aside0.mk (below_step (by repeat (first | (with_reducible first | exact HB.out | apply below_alloc | apply pw_below_drewN | apply below_drew1 | refine below_set ?_ GE251.out | refine below_set ?_ GE252.out) | exact HB.out)) hb)
     clear HO255
     clear BK251
     clear BK252
     clear HB
     have HO255 := n0_
     have BK251 := n1_
     have BK252 := n2_
     have HB := n3_
     clear n0_ n1_ n2_ n3_
     (try clear hb)
     (try clear hb2)
     (try clear hk)
     (try clear hi)
     refine hK.out _ _ ⟨(blk_cell BK251.out 0).trans rfl, (blk_cell BK251.out 1).trans rfl, (blk_cell BK252.out 0).trans rfl, ((HB.out.cell (World.block_lt_of_cell? w _ hw257_0)).trans hw257_0), HS4_⟩ (fun hHeld => ?_)
     clear hK K
     refine norm_ (a' := ?_) ?_ ?_
     rotate_left
     ·show Act.put _ (some 20) _ = _
      simp only [Act.put, sA_, sZ_, sS_, i64_w, i32_w]
      rfl
     refine pure_ (i := 14) (N := some 21) (v := ?_) (a' := ?_) #[true, true, true, true, true, true, true, true, true, true, true, true, true, true, true, false] rfl rfl (any_of HT_.out (by kernel_rfl)) (fun _ _ _ h => h) (Or.inl ⟨by rfl, ?_⟩) ?_ ?_
     rotate_left; intro w'; go_simp; with_reducible rfl; rotate_left; simp only [Act.put, sA_, sZ_, sS_, i64_w, i32_w]; rfl
     refine pure_ (i := 15) (N := some 6) (v := ?_) (a' := ?_) #[true, true, true, true, true, true, true, true, true, true, true, true, true, true, true, true] rfl rfl (any_of HT_.out (by kernel_rfl)) (fun _ _ _ h => h) (Or.inl ⟨by rfl, ?_⟩) ?_ ?_
     rotate_left; intro w'; go_simp; with_reducible rfl; rotate_left; simp only [Act.put, sA_, sZ_, sS_, i64_w, i32_w]; rfl
     refine done_ (done_of HT_.out (by kernel_rfl)) ?_
     try go_wp2
     go_ret
     exact ⟨by first | rfl | (simp [errW_none, errW_some] <;> rfl) | (simp [*, errW_none, errW_some] <;> rfl), by repeat (first | (with_reducible first | exact HB.out | apply below_alloc | apply pw_below_drewN | apply below_drew1 | refine below_set ?_ GE251.out | refine below_set ?_ GE252.out) | exact HB.out)⟩
    ·rw [if_neg c8] at H
     exact absurd H (by simp)
   ·rw [if_neg c7] at H
    exact absurd H (by simp)
  ·rw [if_neg c6] at H
   exact absurd H (by simp)
 ·rw [if_neg c5] at H
  exact absurd H (by simp)

/-! ### f10z: function 75 -/
set_option maxHeartbeats 8000000 in
set_option maxRecDepth 100000 in
theorem f10z.calls (A0 : Option Addr) (c0 : Nat) (l0 : List Int) (A1 : Option Addr) (c1 : Nat) (l1 : List (List Int)) (A2 : Option Addr) (c2 : Nat) (l2 : List Int) (w : World) :
  Calls Try.prog 75 #[.agg #[.slice A0 l0.length c0, .slice A1 l1.length c1], .slice A2 l2.length c2] w fun e w' => ∃ B0 B1 : Nat, e = .returned (.func (.func 107) #[] #[.pointer (some ⟨B0, 0, none⟩), .pointer (some ⟨B1, 0, none⟩)]) ∧ w'.heap[B0]? = some (.cells #[.slice A0 l0.length c0, .slice A1 l1.length c1] 38 (0, 0)) ∧ w'.heap[B1]? = some (.cells #[.slice A2 l2.length c2] 34 (0, 0)) ∧ w.heap.size ≤ B0 ∧ w.heap.size ≤ B1 ∧ Below w.heap.size w w' := by
 have hu38 := Try.underlying38
 have HB := Aside0.mk (Below.refl w.heap.size w)
 go_enter Try.func75, Try.ntmps75
 go_wp2_with (first | ((with_reducible refine gate_dst (N := 2) rfl ?_); refine box_event ?hg (N := 2) ?hd (cs := #[.slice A0 l0.length c0, .slice A1 l1.length c1]) (t := 38) ?hr ?_; (case hd => rfl); (case hg => rfl); (case hr => first | (go_simp; done) | (go_simp; rfl)); intro gb2 hg w3 hbox hb; have n0_ := Aside0.mk ((by rw [hg]; exact below_size (by repeat (first | (with_reducible first | exact HB.out | apply below_alloc | apply pw_below_drewN | apply below_drew1) | exact HB.out))) : w.heap.size ≤ gb2); have n1_ := Aside0.mk (below_step (by repeat (first | (with_reducible first | exact HB.out | apply below_alloc | apply pw_below_drewN | apply below_drew1) | exact HB.out)) hb); have n2_ := Aside0.mk (hbox); clear HB; have GE2 := n0_; have HB := n1_; have BK2 := n2_; clear n0_ n1_ n2_; clear hb hbox hg) | ((with_reducible refine gate_dst (N := 3) rfl ?_); refine box_event ?hg (N := 3) ?hd (cs := #[.slice A2 l2.length c2]) (t := 34) ?hr ?_; (case hd => rfl); (case hg => rfl); (case hr => first | (go_simp; done) | (go_simp; rfl)); intro gb3 hg w4 hbox hb; have n0_ := Aside0.mk (blk_below (g := gb2) (o := .cells #[.slice A0 l0.length c0, .slice A1 l1.length c1] 38 (0, 0)) (by (with_reducible repeat (first | refine blk_drewN ?_ _ | refine blk_drew ?_ | refine blk_alloc ?_ _)); exact BK2.out) hb); have n1_ := Aside0.mk ((by rw [hg]; exact Nat.ne_of_lt (blk_lt (g := gb2) (o := .cells #[.slice A0 l0.length c0, .slice A1 l1.length c1] 38 (0, 0)) (by (with_reducible repeat (first | refine blk_drewN ?_ _ | refine blk_drew ?_ | refine blk_alloc ?_ _)); exact BK2.out))) : gb2 ≠ gb3); have n2_ := Aside0.mk ((by rw [hg]; exact below_size (by repeat (first | (with_reducible first | exact HB.out | apply below_alloc | apply pw_below_drewN | apply below_drew1) | exact HB.out))) : w.heap.size ≤ gb3); have n3_ := Aside0.mk (below_step (by repeat (first | (with_reducible first | exact HB.out | apply below_alloc | apply pw_below_drewN | apply below_drew1) | exact HB.out)) hb); have n4_ := Aside0.mk (hbox); clear BK2; clear HB; have BK2 := n0_; have NB2_3 := n1_; have GE3 := n2_; have HB := n3_; have BK3 := n4_; clear n0_ n1_ n2_ n3_ n4_; clear hb hbox hg))
 repeat (go_quiet (first | ((with_reducible refine gate_dst (N := 2) rfl ?_); refine box_event ?hg (N := 2) ?hd (cs := #[.slice A0 l0.length c0, .slice A1 l1.length c1]) (t := 38) ?hr ?_; (case hd => rfl); (case hg => rfl); (case hr => first | (go_simp; done) | (go_simp; rfl)); intro gb2 hg w3 hbox hb; have n0_ := Aside0.mk ((by rw [hg]; exact below_size (by repeat (first | (with_reducible first | exact HB.out | apply below_alloc | apply pw_below_drewN | apply below_drew1) | exact HB.out))) : w.heap.size ≤ gb2); have n1_ := Aside0.mk (below_step (by repeat (first | (with_reducible first | exact HB.out | apply below_alloc | apply pw_below_drewN | apply below_drew1) | exact HB.out)) hb); have n2_ := Aside0.mk (hbox); clear HB; have GE2 := n0_; have HB := n1_; have BK2 := n2_; clear n0_ n1_ n2_; clear hb hbox hg) | ((with_reducible refine gate_dst (N := 3) rfl ?_); refine box_event ?hg (N := 3) ?hd (cs := #[.slice A2 l2.length c2]) (t := 34) ?hr ?_; (case hd => rfl); (case hg => rfl); (case hr => first | (go_simp; done) | (go_simp; rfl)); intro gb3 hg w4 hbox hb; have n0_ := Aside0.mk (blk_below (g := gb2) (o := .cells #[.slice A0 l0.length c0, .slice A1 l1.length c1] 38 (0, 0)) (by (with_reducible repeat (first | refine blk_drewN ?_ _ | refine blk_drew ?_ | refine blk_alloc ?_ _)); exact BK2.out) hb); have n1_ := Aside0.mk ((by rw [hg]; exact Nat.ne_of_lt (blk_lt (g := gb2) (o := .cells #[.slice A0 l0.length c0, .slice A1 l1.length c1] 38 (0, 0)) (by (with_reducible repeat (first | refine blk_drewN ?_ _ | refine blk_drew ?_ | refine blk_alloc ?_ _)); exact BK2.out))) : gb2 ≠ gb3); have n2_ := Aside0.mk ((by rw [hg]; exact below_size (by repeat (first | (with_reducible first | exact HB.out | apply below_alloc | apply pw_below_drewN | apply below_drew1) | exact HB.out))) : w.heap.size ≤ gb3); have n3_ := Aside0.mk (below_step (by repeat (first | (with_reducible first | exact HB.out | apply below_alloc | apply pw_below_drewN | apply below_drew1) | exact HB.out)) hb); have n4_ := Aside0.mk (hbox); clear BK2; clear HB; have BK2 := n0_; have NB2_3 := n1_; have GE3 := n2_; have HB := n3_; have BK3 := n4_; clear n0_ n1_ n2_ n3_ n4_; clear hb hbox hg)); try go_wp2_with (first | ((with_reducible refine gate_dst (N := 2) rfl ?_); refine box_event ?hg (N := 2) ?hd (cs := #[.slice A0 l0.length c0, .slice A1 l1.length c1]) (t := 38) ?hr ?_; (case hd => rfl); (case hg => rfl); (case hr => first | (go_simp; done) | (go_simp; rfl)); intro gb2 hg w3 hbox hb; have n0_ := Aside0.mk ((by rw [hg]; exact below_size (by repeat (first | (with_reducible first | exact HB.out | apply below_alloc | apply pw_below_drewN | apply below_drew1) | exact HB.out))) : w.heap.size ≤ gb2); have n1_ := Aside0.mk (below_step (by repeat (first | (with_reducible first | exact HB.out | apply below_alloc | apply pw_below_drewN | apply below_drew1) | exact HB.out)) hb); have n2_ := Aside0.mk (hbox); clear HB; have GE2 := n0_; have HB := n1_; have BK2 := n2_; clear n0_ n1_ n2_; clear hb hbox hg) | ((with_reducible refine gate_dst (N := 3) rfl ?_); refine box_event ?hg (N := 3) ?hd (cs := #[.slice A2 l2.length c2]) (t := 34) ?hr ?_; (case hd => rfl); (case hg => rfl); (case hr => first | (go_simp; done) | (go_simp; rfl)); intro gb3 hg w4 hbox hb; have n0_ := Aside0.mk (blk_below (g := gb2) (o := .cells #[.slice A0 l0.length c0, .slice A1 l1.length c1] 38 (0, 0)) (by (with_reducible repeat (first | refine blk_drewN ?_ _ | refine blk_drew ?_ | refine blk_alloc ?_ _)); exact BK2.out) hb); have n1_ := Aside0.mk ((by rw [hg]; exact Nat.ne_of_lt (blk_lt (g := gb2) (o := .cells #[.slice A0 l0.length c0, .slice A1 l1.length c1] 38 (0, 0)) (by (with_reducible repeat (first | refine blk_drewN ?_ _ | refine blk_drew ?_ | refine blk_alloc ?_ _)); exact BK2.out))) : gb2 ≠ gb3); have n2_ := Aside0.mk ((by rw [hg]; exact below_size (by repeat (first | (with_reducible first | exact HB.out | apply below_alloc | apply pw_below_drewN | apply below_drew1) | exact HB.out))) : w.heap.size ≤ gb3); have n3_ := Aside0.mk (below_step (by repeat (first | (with_reducible first | exact HB.out | apply below_alloc | apply pw_below_drewN | apply below_drew1) | exact HB.out)) hb); have n4_ := Aside0.mk (hbox); clear BK2; clear HB; have BK2 := n0_; have NB2_3 := n1_; have GE3 := n2_; have HB := n3_; have BK3 := n4_; clear n0_ n1_ n2_ n3_ n4_; clear hb hbox hg)))
 go_ret
 exact ⟨gb2, gb3, rfl, (by (with_reducible repeat (first | refine blk_drewN ?_ _ | refine blk_drew ?_ | refine blk_alloc ?_ _)); exact BK2.out), (by (with_reducible repeat (first | refine blk_drewN ?_ _ | refine blk_drew ?_ | refine blk_alloc ?_ _)); exact BK3.out), GE2.out, GE3.out, (by repeat (first | (with_reducible first | exact HB.out | apply below_alloc | apply pw_below_drewN | apply below_drew1) | exact HB.out))⟩

/-! ### f11z: function 31 -/
theorem f11z.search (k : Nat) (A0 : Option Addr) (c0 : Nat) (l0 : List Int) (A1 : Option Addr) (c1 : Nat) (l1 : List (List Int)) (A2 : Option Addr) (c2 : Nat) (l2 : List Int) (w : World) (hr0 : Kd.C (Kd.int .i16) w A0 l0.length l0) (hc0 : l0.length ≤ c0) (hr1 : Kd.C (Kd.slice 81 (Kd.int .i16)) w A1 l1.length l1) (hc1 : l1.length ≤ c1) (hr2 : Kd.C (Kd.int .i64) w A2 l2.length l2) (hc2 : l2.length ≤ c2) (B0 B1 : Nat) (r1 : List Int) (r2 : Int) (r3 : Bool)
  (h : f8z.f (fun x y => f9z.f k x y l0 l1 l2) k (l2.length : Int) = some (r1, r2, r3)) (W : World) (hB : Below w.heap.size w W)
  (hb0 : W.heap[B0]? = some (.cells #[.slice A0 l0.length c0, .slice A1 l1.length c1] 38 (0, 0))) (hb1 : W.heap[B1]? = some (.cells #[.slice A2 l2.length c2] 34 (0, 0))) :
  Calls Try.prog 74 #[.int .i64 (l2.length : Int), .func (.func 107) #[] #[.pointer (some ⟨B0, 0, none⟩), .pointer (some ⟨B1, 0, none⟩)]] W
   fun e w' => ∃ v0_ : Value, e = .returned (.tuple #[v0_, .int .i64 r2, .bool r3]) ∧ Kd.R (Kd.int .i64) 2 w' W.heap.size (fun _ => True) v0_ r1 ∧ Below W.heap.size W w' := by
 refine f8z.calls _ 107 _ (enters_ Try.func107 (by kernel_rfl) rfl) k _ r1 r2 r3 W ?_ h
 intro W1 A c xs j b hl hC hc hf
 have low : ∀ i, i < w.heap.size → W1.heap[i]? = w.heap[i]? := fun i hi => (hl i (Nat.lt_of_lt_of_le hi hB.size)).trans (hB.block i hi)
 refine calls_of_args (args' := #[.slice A xs.length c, .int .i64 j, .pointer (some ⟨B0, 0, none⟩), .pointer (some ⟨B1, 0, none⟩)]) (by simp)
  (f9z.calls k A c xs j B0 B1 A0 c0 l0 A1 c1 l1 A2 c2 l2 b W1 hC hc ((Kd.heap_int _).C low hr0) hc0 ((Kd.heap_slice 81 (Kd.heap_int _)).C low hr1) hc1 ((Kd.heap_int _).C low hr2) hc2 ((hl _ (blk_lt hb0)).trans hb0) ((hl _ (blk_lt hb1)).trans hb1) hf)
def f11z.f (k : Nat) (l0_0 : List Int) (l0_1 : List (List Int)) (l1 : List Int) : Option (List Int × Int × Int) := (impl_parcelCode.f k l0_0 l0_1 0 l1).bind fun t254 => (if t254 = 0 then ((f8z.f (fun x y => f9z.f k x y l0_0 l0_1 l1) k (l1.length : Int)).bind fun bt255 => (some (bt255.1, bt255.2.1, 0))) else (some (([] : List Int), 0, t254)))
theorem f11z.mono : ∀ a0 a1 a2 k, LeO (f11z.f k a0 a1 a2) (f11z.f (k + 1) a0 a1 a2) := by
 intro a0 a1 a2 k
 unfold f11z.f
 repeat' first
   | (with_reducible exact f8z.mono (fun _ _ => f9z.mono _ _ _ _ _ _) _ _)
   | (with_reducible exact impl_parcelCode.mono _ _ _ _ _)
   | (with_reducible exact LeO.refl _)
   | (with_reducible exact LeO.none _)
   | (with_reducible refine LeO.ite ?_ ?_)
   | (with_reducible refine LeO.bind ?_ (fun _ => ?_))
   | exact f8z.mono (fun _ _ => f9z.mono _ _ _ _ _ _) _ _
   | exact impl_parcelCode.mono _ _ _ _ _
   | exact LeO.none _
   | refine LeO.ite ?_ ?_
   | refine LeO.bind ?_ (fun _ => ?_)
set_option maxHeartbeats 8000000 in
set_option maxRecDepth 100000 in
theorem f11z.calls (k : Nat) (A0_0 : Option Addr) (c0_0 : Nat) (l0_0 : List Int) (A0_1 : Option Addr) (c0_1 : Nat) (l0_1 : List (List Int)) (A1 : Option Addr) (c1 : Nat) (l1 : List Int) (r1 : List Int) (r2 : Int) (r3 : Int) (w : World) (hr0_0 : Kd.C (Kd.int .i16) w A0_0 l0_0.length l0_0) (hc0_0 : l0_0.length ≤ c0_0) (hr0_1 : Kd.C (Kd.slice 81 (Kd.int .i16)) w A0_1 l0_1.length l0_1) (hc0_1 : l0_1.length ≤ c0_1) (hr1 : Kd.C (Kd.int .i64) w A1 l1.length l1) (hc1 : l1.length ≤ c1) (h : f11z.f k l0_0 l0_1 l1 = some (r1, r2, r3)) :
  Calls Try.prog 31 #[.agg #[.slice A0_0 l0_0.length c0_0, .slice A0_1 l0_1.length c0_1], .slice A1 l1.length c1] w fun e w' => ∃ v0_ : Value, e = .returned (.tuple #[v0_, .int .i64 r2, .int .i64 r3]) ∧ Kd.R (Kd.int .i64) 2 w' w.heap.size (fun _ => True) v0_ r1 ∧ Below w.heap.size w w' := by
 have hu38 := Try.underlying38
 have HR0_0 := Aside0.mk hr0_0
 have HC0_0 := Aside0.mk hc0_0
 clear hr0_0 hc0_0
 have HR0_1 := Aside0.mk hr0_1
 have HC0_1 := Aside0.mk hc0_1
 clear hr0_1 hc0_1
 have HR1 := Aside0.mk hr1
 have HC1 := Aside0.mk hc1
 clear hr1 hc1
 have HB := Aside0.mk (Below.refl w.heap.size w)
 have H : ((impl_parcelCode.f k l0_0 l0_1 0 l1).bind fun t254 => (if t254 = 0 then ((f8z.f (fun x y => f9z.f k x y l0_0 l0_1 l1) k (l1.length : Int)).bind fun bt255 => (some (bt255.1, bt255.2.1, 0))) else (some (([] : List Int), 0, t254)))) = some (r1, r2, r3) := h
 clear h
 replace H := Option.bind_eq_some_iff.mp H
 obtain ⟨t254, A30, H⟩ := H
 replace H : (if t254 = 0 then ((f8z.f (fun x y => f9z.f k x y l0_0 l0_1 l1) k (l1.length : Int)).bind fun bt255 => (some (bt255.1, bt255.2.1, 0))) else (some (([] : List Int), 0, t254))) = some (r1, r2, r3) := H
 have A3 := Aside0.mk A30
 clear A30
 by_cases c4 : t254 = 0
 ·rw [if_pos c4] at H
  have c4b0 : (t254 == 0) = true := beq_iff_eq.mpr c4
  have c4b1 : (t254 != 0) = false := bne_eq_false_iff_eq.mpr c4
  clear c4
  replace H := Option.bind_eq_some_iff.mp H
  obtain ⟨⟨t255, t256, t257⟩, A50, H⟩ := H
  replace H : (some (t255, t256, 0)) = some (r1, r2, r3) := H
  have A5 := Aside0.mk A50
  clear A50
  simp only [Option.some.injEq, Prod.mk.injEq] at H
  obtain ⟨rfl, rfl, rfl⟩ := H
  go_enter Try.func31, Try.ntmps31
  go_wp2_with (first | ((with_reducible refine gate_dst (N := 2) rfl ?_); refine box_event ?hg (N := 2) ?hd (cs := #[.slice A0_0 l0_0.length c0_0, .slice A0_1 l0_1.length c0_1]) (t := 38) ?hr ?_; (case hd => rfl); (case hg => rfl); (case hr => first | (go_simp; done) | (go_simp; rfl)); intro gb253 hg w6 hbox hb; have n0_ := Aside0.mk (below_step (by repeat (first | (with_reducible first | exact HB.out | apply below_alloc | apply pw_below_drewN | apply below_drew1) | exact HB.out)) hb); have n1_ := Aside0.mk (hbox); have n2_ := Aside0.mk ((by rw [hg]; exact (below_size (by repeat (first | (with_reducible first | exact HB.out | apply below_alloc | apply pw_below_drewN | apply below_drew1) | exact HB.out))) : w.heap.size ≤ gb253)); have n3_ := Aside0.mk ((by rw [hg]; exact (below_size (by repeat (first | (with_reducible first | exact HB.out | apply below_alloc | apply pw_below_drewN | apply below_drew1) | exact HB.out))) : w.heap.size ≤ gb253)); clear HB; have HB := n0_; have BK253 := n1_; have GW253 := n2_; have GE253 := n3_; clear n0_ n1_ n2_ n3_; clear hb hbox hg; have hcz7_0 : w6.cell? ⟨gb253, 0, none⟩ = some (.slice A0_0 l0_0.length c0_0) := (blk_cell BK253.out 0).trans rfl; have hcz7_1 : w6.cell? ⟨gb253, 1, none⟩ = some (.slice A0_1 l0_1.length c0_1) := (blk_cell BK253.out 1).trans rfl; have hfz7_0 := blk_frozen BK253.out 0; have hfz7_1 := blk_frozen BK253.out 1) | ((with_reducible refine gate_callee (f := 69) rfl ?_); refine goesL_ (some 13) rfl rfl Try.func69 (by kernel_rfl) rfl #[.agg #[.slice A0_0 l0_0.length c0_0, .slice A0_1 l0_1.length c0_1], .int .i64 0, .slice A1 l1.length c1] rfl (by (try simp only [List.map_toArray, List.map_cons, List.map_nil]); first | done | rfl | (simp only [List.length_drop, List.length_take]; rfl)) ?_; (with_reducible refine (impl_parcelCode.calls k _ _ l0_0 _ _ l0_1 0 _ _ l1 t254 _ ?side1 ?side2 ?side3 ?side4 ?side5 ?side6 A3.out).mono ?_); (case side1 => repeat (first | exact (Kd.C_below HR0_0.out HB.out) | (with_reducible refine Kd.C_alloc ?_ _) | (with_reducible refine Kd.C_drewN ?_ _) | (with_reducible refine Kd.C_drew ?_))); (case side2 => exact HC0_0.out); (case side3 => repeat (first | exact (Kd.C_below HR0_1.out HB.out) | (with_reducible refine Kd.C_alloc ?_ _) | (with_reducible refine Kd.C_drewN ?_ _) | (with_reducible refine Kd.C_drew ?_))); (case side4 => exact HC0_1.out); (case side5 => repeat (first | exact (Kd.C_below HR1.out HB.out) | (with_reducible refine Kd.C_alloc ?_ _) | (with_reducible refine Kd.C_drewN ?_ _) | (with_reducible refine Kd.C_drew ?_))); (case side6 => exact HC1.out); rintro e w8 ⟨rfl, hb⟩; refine ⟨_, rfl, ?_⟩; have n0_ := Aside0.mk (blk_below (g := gb253) (o := .cells #[.slice A0_0 l0_0.length c0_0, .slice A0_1 l0_1.length c0_1] 38 (0, 0)) (by (with_reducible repeat (first | refine blk_drewN ?_ _ | refine blk_drew ?_ | refine blk_alloc ?_ _)); exact BK253.out) hb); have n1_ := Aside0.mk (below_step (by repeat (first | (with_reducible first | exact HB.out | apply below_alloc | apply pw_below_drewN | apply below_drew1 | refine below_set ?_ GE253.out) | exact HB.out)) hb); clear BK253; clear HB; have BK253 := n0_; have HB := n1_; clear n0_ n1_; (try clear hb); (try clear hb2); (try clear hk); (try clear hi); have hcz9_0 : w8.cell? ⟨gb253, 0, none⟩ = some (.slice A0_0 l0_0.length c0_0) := (blk_cell BK253.out 0).trans rfl; have hcz9_1 : w8.cell? ⟨gb253, 1, none⟩ = some (.slice A0_1 l0_1.length c0_1) := (blk_cell BK253.out 1).trans rfl; have hfz9_0 := blk_frozen BK253.out 0; have hfz9_1 := blk_frozen BK253.out 1) | ((with_reducible refine gate_callee (f := 75) rfl ?_); refine goesL_ (some 22) rfl rfl Try.func75 (by kernel_rfl) rfl #[.agg #[.slice A0_0 l0_0.length c0_0, .slice A0_1 l0_1.length c0_1], .slice A1 l1.length c1] rfl (by (try simp only [List.map_toArray, List.map_cons, List.map_nil]); first | done | rfl) ?_; refine (f10z.calls A0_0 c0_0 l0_0 A0_1 c0_1 l0_1 A1 c1 l1 _).mono ?_; rintro e w9 ⟨gm0, gm1, rfl, hm0, hm1, gq0, gq1, hb⟩; refine ⟨_, rfl, ?_⟩; have n0_ := Aside0.mk (blk_below (g := gb253) (o := .cells #[.slice A0_0 l0_0.length c0_0, .slice A0_1 l0_1.length c0_1] 38 (0, 0)) (by (with_reducible repeat (first | refine blk_drewN ?_ _ | refine blk_drew ?_ | refine blk_alloc ?_ _)); exact BK253.out) hb); have n1_ := Aside0.mk (below_step (by repeat (first | (with_reducible first | exact HB.out | apply below_alloc | apply pw_below_drewN | apply below_drew1 | refine below_set ?_ GE253.out) | exact HB.out)) hb); have BKm0 := Aside0.mk hm0; have BKm1 := Aside0.mk hm1; clear BK253 HB; have BK253 := n0_; have HB := n1_; clear n0_ n1_ hb hm0 hm1 gq0 gq1) | ((with_reducible refine gate_callee (f := 74) rfl ?_); refine goesL_ (some 23) rfl rfl Try.func74 (by kernel_rfl) rfl #[.int .i64 (l1.length : Int), .func (.func 107) #[] #[.pointer (some ⟨gm0, 0, none⟩), .pointer (some ⟨gm1, 0, none⟩)]] rfl (by (try simp only [List.map_toArray, List.map_cons, List.map_nil]); first | done | rfl | (simp only [List.length_drop, List.length_take]; rfl)) ?_; refine (f11z.search k A0_0 c0_0 l0_0 A0_1 c0_1 l0_1 A1 c1 l1 w HR0_0.out HC0_0.out HR0_1.out HC0_1.out HR1.out HC1.out gm0 gm1 t255 t256 t257 A5.out _ (by repeat (first | (with_reducible first | exact HB.out | apply below_alloc | apply pw_below_drewN | apply below_drew1 | refine below_set ?_ GE253.out) | exact HB.out)) (by (with_reducible repeat (first | refine blk_drewN ?_ _ | refine blk_drew ?_ | refine blk_alloc ?_ _)); exact BKm0.out) (by (with_reducible repeat (first | refine blk_drewN ?_ _ | refine blk_drew ?_ | refine blk_alloc ?_ _)); exact BKm1.out)).mono ?_; rintro e w10 ⟨v258, rfl, ho0, hb⟩; refine ⟨_, rfl, ?_⟩; have n0_ := Aside0.mk (Kd.R_lower ho0 (below_size (by repeat (first | (with_reducible first | exact HB.out | apply below_alloc | apply pw_below_drewN | apply below_drew1 | refine below_set ?_ GE253.out) | exact HB.out)))); have n1_ := Aside0.mk (blk_below (g := gb253) (o := .cells #[.slice A0_0 l0_0.length c0_0, .slice A0_1 l0_1.length c0_1] 38 (0, 0)) (by (with_reducible repeat (first | refine blk_drewN ?_ _ | refine blk_drew ?_ | refine blk_alloc ?_ _)); exact BK253.out) hb); have n2_ := Aside0.mk (below_step (by repeat (first | (with_reducible first | exact HB.out | apply below_alloc | apply pw_below_drewN | apply below_drew1 | refine below_set ?_ GE253.out) | exact HB.out)) hb); clear BK253; clear HB; have HO259 := n0_; have BK253 := n1_; have HB := n2_; clear n0_ n1_ n2_; (try clear hb); (try clear hb2); (try clear hk); (try clear hi); (try clear ho0)))
  go_ret3
  exact ⟨_, by first | rfl | (simp [errW_none, errW_some] <;> rfl) | (simp [*, errW_none, errW_some] <;> rfl), by (with_reducible repeat (first | apply Kd.R_alloc | apply Kd.R_drewN | apply Kd.R_drew)); exact HO259.out, by repeat (first | (with_reducible first | exact HB.out | apply below_alloc | apply pw_below_drewN | apply below_drew1 | refine below_set ?_ GE253.out) | exact HB.out)⟩
 ·rw [if_neg c4] at H
  have c4b0 : (t254 == 0) = false := beq_eq_false_iff_ne.mpr c4
  have c4b1 : (t254 != 0) = true := bne_iff_ne.mpr c4
  simp only [Option.some.injEq, Prod.mk.injEq] at H
  obtain ⟨rfl, rfl, rfl⟩ := H
  go_enter Try.func31, Try.ntmps31
  go_wp2_with (first | ((with_reducible refine gate_dst (N := 2) rfl ?_); refine box_event ?hg (N := 2) ?hd (cs := #[.slice A0_0 l0_0.length c0_0, .slice A0_1 l0_1.length c0_1]) (t := 38) ?hr ?_; (case hd => rfl); (case hg => rfl); (case hr => first | (go_simp; done) | (go_simp; rfl)); intro gb253 hg w11 hbox hb; have n0_ := Aside0.mk (below_step (by repeat (first | (with_reducible first | exact HB.out | apply below_alloc | apply pw_below_drewN | apply below_drew1) | exact HB.out)) hb); have n1_ := Aside0.mk (hbox); have n2_ := Aside0.mk ((by rw [hg]; exact (below_size (by repeat (first | (with_reducible first | exact HB.out | apply below_alloc | apply pw_below_drewN | apply below_drew1) | exact HB.out))) : w.heap.size ≤ gb253)); have n3_ := Aside0.mk ((by rw [hg]; exact (below_size (by repeat (first | (with_reducible first | exact HB.out | apply below_alloc | apply pw_below_drewN | apply below_drew1) | exact HB.out))) : w.heap.size ≤ gb253)); clear HB; have HB := n0_; have BK253 := n1_; have GW253 := n2_; have GE253 := n3_; clear n0_ n1_ n2_ n3_; clear hb hbox hg; have hcz12_0 : w11.cell? ⟨gb253, 0, none⟩ = some (.slice A0_0 l0_0.length c0_0) := (blk_cell BK253.out 0).trans rfl; have hcz12_1 : w11.cell? ⟨gb253, 1, none⟩ = some (.slice A0_1 l0_1.length c0_1) := (blk_cell BK253.out 1).trans rfl; have hfz12_0 := blk_frozen BK253.out 0; have hfz12_1 := blk_frozen BK253.out 1) | ((with_reducible refine gate_callee (f := 69) rfl ?_); refine goesL_ (some 13) rfl rfl Try.func69 (by kernel_rfl) rfl #[.agg #[.slice A0_0 l0_0.length c0_0, .slice A0_1 l0_1.length c0_1], .int .i64 0, .slice A1 l1.length c1] rfl (by (try simp only [List.map_toArray, List.map_cons, List.map_nil]); first | done | rfl | (simp only [List.length_drop, List.length_take]; rfl)) ?_; (with_reducible refine (impl_parcelCode.calls k _ _ l0_0 _ _ l0_1 0 _ _ l1 t254 _ ?side1 ?side2 ?side3 ?side4 ?side5 ?side6 A3.out).mono ?_); (case side1 => repeat (first | exact (Kd.C_below HR0_0.out HB.out) | (with_reducible refine Kd.C_alloc ?_ _) | (with_reducible refine Kd.C_drewN ?_ _) | (with_reducible refine Kd.C_drew ?_))); (case side2 => exact HC0_0.out); (case side3 => repeat (first | exact (Kd.C_below HR0_1.out HB.out) | (with_reducible refine Kd.C_alloc ?_ _) | (with_reducible refine Kd.C_drewN ?_ _) | (with_reducible refine Kd.C_drew ?_))); (case side4 => exact HC0_1.out); (case side5 => repeat (first | exact (Kd.C_below HR1.out HB.out) | (with_reducible refine Kd.C_alloc ?_ _) | (with_reducible refine Kd.C_drewN ?_ _) | (with_reducible refine Kd.C_drew ?_))); (case side6 => exact HC1.out); rintro e w13 ⟨rfl, hb⟩; refine ⟨_, rfl, ?_⟩; have n0_ := Aside0.mk (blk_below (g := gb253) (o := .cells #[.slice A0_0 l0_0.length c0_0, .slice A0_1 l0_1.length c0_1] 38 (0, 0)) (by (with_reducible repeat (first | refine blk_drewN ?_ _ | refine blk_drew ?_ | refine blk_alloc ?_ _)); exact BK253.out) hb); have n1_ := Aside0.mk (below_step (by repeat (first | (with_reducible first | exact HB.out | apply below_alloc | apply pw_below_drewN | apply below_drew1 | refine below_set ?_ GE253.out) | exact HB.out)) hb); clear BK253; clear HB; have BK253 := n0_; have HB := n1_; clear n0_ n1_; (try clear hb); (try clear hb2); (try clear hk); (try clear hi)))
  go_ret3
  exact ⟨_, by first | rfl | (simp [errW_none, errW_some] <;> rfl) | (simp [*, errW_none, errW_some] <;> rfl), by first | exact Kd.R_nil _ _ _ _ _ | exact Kd.N_nil _ _ _ _ _ | exact Kd.V_nil _ _ _ _ _ | exact Kd.Q_nil _ _ _ _ _ | exact Kd.S_nil _ _ _ _ _, by repeat (first | (with_reducible first | exact HB.out | apply below_alloc | apply pw_below_drewN | apply below_drew1 | refine below_set ?_ GE253.out) | exact HB.out)⟩

/-! ### laws_markInt16S: function 76 -/
def laws_markInt16S.l0 : Nat → List Int → Int → Int → Option (Int × List Int)
 | 0, _, _, _ => none
 | k + 1, x0, x1, x5 => if x5 < (x0.length : Int) then (if 0 ≤ x5 then (laws_markInt16S.l0 k (x0.set (x5 : Int).toNat (IntKind.i16.wrap (x1))) (wrap64 (x1 + 1)) (wrap64 (x5 + 1))) else (none)) else (some (x1, x0))
def laws_markInt16S.f (k : Nat) (l0 : List Int) (a1 : Int) : Option (Int × List Int) := laws_markInt16S.l0 k l0 a1 0
theorem laws_markInt16S.mono_l : ∀ k, (∀ y0 y1 y2, LeO (laws_markInt16S.l0 k y0 y1 y2) (laws_markInt16S.l0 (k + 1) y0 y1 y2))
 | 0 => fun _ _ _ r h => by simp [laws_markInt16S.l0] at h
 | k + 1 => by
  have ih0 := laws_markInt16S.mono_l k
  ·intro y0 y1 y2
   unfold laws_markInt16S.l0
   repeat' first
   | (with_reducible exact ih0 _ _ _)
   | (with_reducible exact LeO.refl _)
   | (with_reducible exact LeO.none _)
   | (with_reducible refine LeO.ite ?_ ?_)
   | (with_reducible refine LeO.bind ?_ (fun _ => ?_))
   | exact ih0 _ _ _
   | exact LeO.none _
   | refine LeO.ite ?_ ?_
   | refine LeO.bind ?_ (fun _ => ?_)
theorem laws_markInt16S.mono : ∀ a0 a1 k, LeO (laws_markInt16S.f k a0 a1) (laws_markInt16S.f (k + 1) a0 a1) := by
 intro a0 a1 k
 have ih0 := laws_markInt16S.mono_l k
 unfold laws_markInt16S.f
 repeat' first
   | (with_reducible exact ih0 _ _ _)
   | (with_reducible exact LeO.refl _)
   | (with_reducible exact LeO.none _)
   | (with_reducible refine LeO.ite ?_ ?_)
   | (with_reducible refine LeO.bind ?_ (fun _ => ?_))
   | exact ih0 _ _ _
   | exact LeO.none _
   | refine LeO.ite ?_ ?_
   | refine LeO.bind ?_ (fun _ => ?_)
set_option maxHeartbeats 8000000 in
set_option maxRecDepth 100000 in
theorem laws_markInt16S.calls (k : Nat) (P0_ : Nat → Prop) (u9000_ : Value) (l0 : List Int) (a1 : Int) (r1 : Int) (r2 : List Int) (w0 w : World) (hB : Below w0.heap.size w0 w) (ho0 : Kd.R (Kd.int .i16) 81 w w0.heap.size P0_ u9000_ l0) (h : laws_markInt16S.f k l0 a1 = some (r1, r2)) :
  Calls Try.prog 76 #[u9000_, .int .i64 a1] w fun e w' => e = .returned (.int .i64 r1) ∧ Kd.R (Kd.int .i16) 81 w' w0.heap.size (fun k_ => (P0_ k_ ∨ w.heap.size ≤ k_)) u9000_ r2 ∧ Below w0.heap.size w0 w' ∧ Kept w w' (fun k_ => P0_ k_) := by
 have HO0 := Aside0.mk (show Kd.R (Kd.int .i16) 81 w w0.heap.size (fun k_ => (P0_ k_ ∨ w.heap.size ≤ k_)) u9000_ l0 from Kd.R_mono ho0 (fun k_ hk => (.inl hk)))
 have HK := Aside0.mk (Kept.refl w (fun k_ => P0_ k_))
 have HW0 := Aside0.mk hB.size
 have HB := Aside0.mk hB
 clear hB
 have H : (laws_markInt16S.l0 k l0 a1 0) = some (r1, r2) := h
 clear h
 have H' := Aside0.mk H
 clear H
 go_enter Try.func76, Try.ntmps76
 go_wp2
 go_loopg [1, 5] k (fun kq v1 v5 w' => ∃ (x0_1 : List Int) (x1_1 : Int) (x5_1 : Int), v1 = .int .i64 x1_1 ∧ v5 = .int .i64 x5_1 ∧ Aside0 (laws_markInt16S.l0 kq x0_1 x1_1 x5_1 = some (r1, r2)) ∧ Aside0 (kq ≤ k) ∧ Aside0 (Kd.R (Kd.int .i16) 81 w' w0.heap.size (fun k_ => (P0_ k_ ∨ w.heap.size ≤ k_)) u9000_ x0_1) ∧ Aside0 (Kept w w' (fun k_ => P0_ k_)) ∧ Aside0 (Below w0.heap.size w0 w'))
 case atStart => exact ⟨(l0), (a1), (0), (by first | rfl | (simp; done) | (simp [*]; done)), (by first | rfl | (simp; done) | (simp [*]; done)), H', ⟨Nat.le_refl _⟩, ⟨by (with_reducible repeat (first | apply Kd.R_alloc | apply Kd.R_drewN | apply Kd.R_drew)); exact HO0.out⟩, ⟨by repeat (first | (with_reducible first | exact HK.out | apply Kept.alloc | apply Kept.drewN | apply Kept.drew) | exact HK.out)⟩, ⟨by repeat (first | (with_reducible first | exact HB.out | apply below_alloc | apply pw_below_drewN | apply below_drew1) | exact HB.out)⟩⟩
 case round =>
  clear H'
  try clear p2
  obtain ⟨x0_1, x1_1, x5_1, rfl, rfl, HA, HK1, HO_0, HK, HB⟩ := hrel
  cases gk with
  | zero => exact absurd HA.out (by simp [laws_markInt16S.l0])
  | succ k1 =>
   have H := HA.out
   clear HA
   simp only [laws_markInt16S.l0] at H
   by_cases c3 : x5_1 < (x0_1.length : Int)
   ·rw [if_pos c3] at H
    have c3b0 : decide (x5_1 < (x0_1.length : Int)) = true := decide_eq_true c3
    clear c3
    by_cases c4 : 0 ≤ x5_1
    ·rw [if_pos c4] at H
     have c4b0 : decide (0 ≤ x5_1) = true := decide_eq_true c4
     clear c4
     obtain ⟨y249, hy249⟩ : ∃ y_ : List Int, y_ = (x0_1.set (x5_1 : Int).toNat (IntKind.i16.wrap (x1_1))) := ⟨_, rfl⟩
     replace H : (laws_markInt16S.l0 k1 y249 (wrap64 (x1_1 + 1)) (wrap64 (x5_1 + 1))) = some (r1, r2) := by first | (rw [hy249]; with_reducible exact H) | (have H2_ := (Option.bind_some _ _).symm.trans H; rw [hy249]; with_reducible exact H2_) | (have H2_ := (Option.bind_some _ _).symm.trans H; with_reducible exact H2_) | with_reducible exact H | (rw [hy249]; exact H) | exact H
     have Ny249 := Aside0.mk hy249
     clear hy249
     have H' := Aside0.mk H
     clear H
     obtain ⟨Ao6, co6, eo6⟩ := Kd.R_slice HO_0.out
     subst eo6
     have p5 : 0 ≤ (x5_1 : Int) := odt_
     have q5 : (x5_1 : Int) < ((x0_1.length : Int) : Int) := odt_
     obtain ⟨go5, co5, eo5, gb5, gl5, cl5, HG5⟩ := Kd.R_form HO_0.out (by omega)
     (first | cases eo5 | (injection eo5 with ea_ en_ ec_; (first | subst ea_ | (injection ea_ with ea_; subst ea_)); subst ec_; clear en_))
     have GB5 := Aside0.mk gb5
     have GG5 := Aside0.mk HG5
     clear gb5 gl5 HG5
     have HMgo5 := Aside0.mk (show (P0_ go5 ∨ w.heap.size ≤ go5) from (HO_0.out.1 _ rfl))
     obtain ⟨hx5_0, hf5_0⟩ := Kd.R_celln 0 HO_0.out (x5_1 : Int) p5 q5
     replace p5 := eq_true p5
     replace q5 := eq_true q5
     have HP7 := Kd.R_putg HO_0.out (x5_1 : Int) (IntKind.i16.wrap (x1_1))
     go_wp2_with (first | ((with_reducible refine gate_store (t := 81) (p := 16) rfl ?_); refine store_event (t := 81) (p := 16) (v := ?vo_w8) (w1 := (wr.setCell ⟨go5, (x5_1 : Int).toNat, none⟩ (.int .i16 (IntKind.i16.wrap (x1_1))))) ?hg ?ho ?hn ?hr ?_; (case ho => rfl); (case hg => rfl); (case hn => rfl); (case hr => first | (go_simp; done) | (go_simp; rfl)); intro w8 hw; have hg : wr.grownBy w8 (some go5) := (by rw [hw]; exact HP7.2); have hp_ : Kd.R (Kd.int .i16) 81 w8 w0.heap.size (fun k_ => (P0_ k_ ∨ w.heap.size ≤ k_)) (.slice (some ⟨go5, 0, none⟩) x0_1.length co6) y249 := (by rw [hw, Ny249.out]; exact HP7.1); clear HP7; have n0_ := Aside0.mk (hp_); have n1_ := Aside0.mk ((by rw [hw]; exact below_set (HB.out) GB5.out : Below w0.heap.size w0 w8)); have n2_ := Aside0.mk (Kept.of_grown (S := (fun k_ => P0_ k_)) hg (by repeat (first | (with_reducible first | exact HK.out | apply Kept.alloc | apply Kept.drewN | apply Kept.drew) | exact HK.out)) (fun k_ e_ => (HO_0.out.1 k_ e_))); clear HO_0; clear HB; clear HK; have HO_0 := n0_; have HB := n1_; have HK := n2_; clear n0_ n1_ n2_; clear hg hw hp_))
     go_roundg k1
     case measure => have := HK1.out; omega
     case rel => exact ⟨(y249), (wrap64 (x1_1 + 1)), (wrap64 (x5_1 + 1)), (by first | rfl | (simp; done) | (simp [*]; done)), (by first | rfl | (simp; done) | (simp [*]; done)), H', ⟨by have := HK1.out; omega⟩, ⟨by (with_reducible repeat (first | apply Kd.R_alloc | apply Kd.R_drewN | apply Kd.R_drew)); exact HO_0.out⟩, ⟨by repeat (first | (with_reducible first | exact HK.out | apply Kept.alloc | apply Kept.drewN | apply Kept.drew) | exact HK.out)⟩, ⟨by repeat (first | (with_reducible first | exact HB.out | apply below_alloc | apply pw_below_drewN | apply below_drew1) | exact HB.out)⟩⟩
    ·rw [if_neg c4] at H
     exact absurd H (by simp)
   ·rw [if_neg c3] at H
    have c3b0 : decide (x5_1 < (x0_1.length : Int)) = false := decide_eq_false c3
    clear c3
    simp only [Option.some.injEq, Prod.mk.injEq] at H
    obtain ⟨rfl, rfl⟩ := H
    obtain ⟨Ao9, co9, eo9⟩ := Kd.R_slice HO_0.out
    subst eo9
    go_wp2
    go_ret
    exact ⟨by first | rfl | (simp [errW_none, errW_some] <;> rfl) | (simp [*, errW_none, errW_some] <;> rfl), by (with_reducible repeat (first | apply Kd.R_alloc | apply Kd.R_drewN | apply Kd.R_drew)); exact HO_0.out, by repeat (first | (with_reducible first | exact HB.out | apply below_alloc | apply pw_below_drewN | apply below_drew1) | exact HB.out), by repeat (first | (with_reducible first | exact HK.out | apply Kept.alloc | apply Kept.drewN | apply Kept.drew) | exact HK.out)⟩

/-! ### laws_markInt16SS: function 77 -/
def laws_markInt16SS.l0 : Nat → List (List Int) → Int → Int → Option (Int × List (List Int))
 | 0, _, _, _ => none
 | k + 1, x0, x1, x5 => if x5 < (x0.length : Int) then (if 0 ≤ x5 then ((laws_markInt16S.f k (x0.getD x5.toNat []) x1).bind fun bt => laws_markInt16SS.l0 k (x0.set x5.toNat bt.2) bt.1 (wrap64 (x5 + 1))) else (none)) else (some (x1, x0))
def laws_markInt16SS.f (k : Nat) (l0 : List (List Int)) (a1 : Int) : Option (Int × List (List Int)) := laws_markInt16SS.l0 k l0 a1 0
theorem laws_markInt16SS.mono_l : ∀ k, (∀ y0 y1 y2, LeO (laws_markInt16SS.l0 k y0 y1 y2) (laws_markInt16SS.l0 (k + 1) y0 y1 y2))
 | 0 => fun _ _ _ r h => by simp [laws_markInt16SS.l0] at h
 | k + 1 => by
  have ih0 := laws_markInt16SS.mono_l k
  intro y0 y1 y2
  unfold laws_markInt16SS.l0
  repeat' first
   | (with_reducible exact ih0 _ _ _)
   | (with_reducible exact laws_markInt16S.mono _ _ _)
   | (with_reducible exact LeO.refl _)
   | (with_reducible exact LeO.none _)
   | (with_reducible refine LeO.ite ?_ ?_)
   | (with_reducible refine LeO.bind ?_ (fun _ => ?_))
   | exact ih0 _ _ _
   | exact laws_markInt16S.mono _ _ _
theorem laws_markInt16SS.mono : ∀ a0 a1 k, LeO (laws_markInt16SS.f k a0 a1) (laws_markInt16SS.f (k + 1) a0 a1) := fun a0 a1 k => laws_markInt16SS.mono_l k a0 a1 0
set_option maxHeartbeats 8000000 in
set_option maxRecDepth 100000 in
theorem laws_markInt16SS.calls (k : Nat) (P0_ : Nat → Prop) (u9000_ : Value) (l0 : List (List Int)) (a1 : Int) (r1 : Int) (r2 : List (List Int)) (w0 w : World) (hB : Below w0.heap.size w0 w) (ho0 : Kd.S (Kd.slice 81 (Kd.int .i16)) 30 w w0.heap.size P0_ u9000_ l0) (h : laws_markInt16SS.f k l0 a1 = some (r1, r2)) :
  Calls Try.prog 77 #[u9000_, .int .i64 a1] w fun e w' => e = .returned (.int .i64 r1) ∧ Kd.S (Kd.slice 81 (Kd.int .i16)) 30 w' w0.heap.size P0_ u9000_ r2 ∧ Below w0.heap.size w0 w' ∧ Kept w w' P0_ := by
 have HO0 := Aside0.mk ho0
 have HK := Aside0.mk (Kept.refl w P0_)
 have HB := Aside0.mk hB
 clear hB ho0
 have H' := Aside0.mk (show laws_markInt16SS.l0 k l0 a1 0 = some (r1, r2) from h)
 clear h
 go_enter Try.func77, Try.ntmps77
 go_wp2
 go_loopg [1, 5] k (fun kq v1 v5 w' => ∃ (x0_1 : List (List Int)) (x1_1 : Int) (x5_1 : Int), v1 = .int .i64 x1_1 ∧ v5 = .int .i64 x5_1 ∧ Aside0 (laws_markInt16SS.l0 kq x0_1 x1_1 x5_1 = some (r1, r2)) ∧ Aside0 (kq ≤ k) ∧ Aside0 (Kd.S (Kd.slice 81 (Kd.int .i16)) 30 w' w0.heap.size P0_ u9000_ x0_1) ∧ Aside0 (Kept w w' P0_) ∧ Aside0 (Below w0.heap.size w0 w'))
 case atStart => exact ⟨l0, a1, 0, rfl, rfl, H', ⟨Nat.le_refl _⟩, ⟨by (with_reducible repeat (first | apply Kd.S_alloc | apply Kd.S_drewN | apply Kd.S_drew)); exact HO0.out⟩, ⟨by (with_reducible repeat (first | exact HK.out | apply Kept.alloc | apply Kept.drewN | apply Kept.drew))⟩, ⟨by (with_reducible repeat (first | exact HB.out | apply below_alloc | apply pw_below_drewN | apply below_drew1))⟩⟩
 case round =>
  clear H'
  obtain ⟨x0_1, x1_1, x5_1, rfl, rfl, HA, HK1, HO_0, HK, HB⟩ := hrel
  obtain ⟨Ao, co, eo⟩ := Kd.S_slice HO_0.out
  subst eo
  cases gk with
  | zero => exact absurd HA.out (by simp [laws_markInt16SS.l0])
  | succ k1 =>
   have H := HA.out
   clear HA
   simp only [laws_markInt16SS.l0] at H
   by_cases c3 : x5_1 < (x0_1.length : Int)
   ·rw [if_pos c3] at H
    have c3b0 : decide (x5_1 < (x0_1.length : Int)) = true := decide_eq_true c3
    by_cases c4 : 0 ≤ x5_1
    ·rw [if_pos c4] at H
     have c4b0 : decide (0 ≤ x5_1) = true := decide_eq_true c4
     replace H := Option.bind_eq_some_iff.mp H
     obtain ⟨⟨t1, t2⟩, A7, H⟩ := H
     have H' := Aside0.mk (show laws_markInt16SS.l0 k1 (x0_1.set x5_1.toNat t2) t1 (wrap64 (x5_1 + 1)) = some (r1, r2) from H)
     clear H
     obtain ⟨gg, cap, eg, _, _, _⟩ := Kd.S_form HO_0.out (by omega)
     cases eg
     obtain ⟨oki, c, hcl, hM, hcc, hoki, hH⟩ := Kd.S_lend HO_0.out [] x5_1 c4 c3
     obtain ⟨el, hel⟩ : ∃ el : List Int, el = x0_1.getD x5_1.toNat [] := ⟨_, rfl⟩
     rw [← hel] at hM A7
     have A7' := Aside0.mk A7
     clear A7
     clear hel
     obtain ⟨v, rfl, hR⟩ := hM
     obtain ⟨A1, c1, e1⟩ := Kd.R_slice hR
     subst e1
     have hx0 := hcc 0 _ rfl
     simp only [show (Kd.slice 81 (Kd.int .i16)).sz = 1 from rfl, Nat.mul_one, Nat.add_zero] at hx0
     have HR := Aside0.mk hR
     have HH := Aside0.mk hH
     have HQ := Aside0.mk hoki
     clear hcc hH hR hoki hcl
     replace c3 := eq_true c3
     replace c4 := eq_true c4
     go_wp2_with (first | (go_at_call 76; (with_reducible refine (laws_markInt16S.calls k1 oki (.slice A1 el.length c1) el x1_1 t1 t2 w0 _ ?side1 ?side2 A7'.out).mono ?_); (case side1 => (with_reducible repeat (first | exact HB.out | apply below_alloc | apply pw_below_drewN | apply below_drew1))); (case side2 => (with_reducible repeat (first | apply Kd.R_alloc | apply Kd.R_drewN | apply Kd.R_drew)); exact HR.out); rintro e w7 ⟨rfl, hy0, hb, hkp⟩; have n0_ := Aside0.mk (show Kd.S (Kd.slice 81 (Kd.int .i16)) 30 w7 w0.heap.size P0_ (.slice (some ⟨gg, 0, none⟩) x0_1.length _) (x0_1.set x5_1.toNat t2) from Kd.H_back (d := (Kd.slice 81 (Kd.int .i16))) (x' := t2) (Kd.H_step (by (with_reducible repeat (first | apply Kd.H_alloc | apply Kd.H_drewN | apply Kd.H_drew)); exact HH.out) (fun k_ _ hn_ hlt_ => hkp.2 k_ hlt_ hn_)) ⟨_, rfl, Kd.R_reok rfl hy0 (fun k_ e_ => HR.out.1 k_ e_)⟩ (fun _ h_ => h_)); have n1_ := Aside0.mk (Kept.then_ (S := P0_) (by (with_reducible repeat (first | exact HK.out | apply Kept.alloc | apply Kept.drewN | apply Kept.drew))) hkp (fun k_ h_ => .inl (HQ.out k_ h_).1)); have n2_ := Aside0.mk hb; clear HO_0 HK HB hy0 hb hkp; have HO_0 := n0_; have HK := n1_; have HB := n2_; clear n0_ n1_ n2_))
     go_roundg k1
     case measure => have := HK1.out; omega
     case rel => exact ⟨_, t1, wrap64 (x5_1 + 1), (by first | rfl | (simp; done) | (simp [*]; done)), (by first | rfl | (simp; done) | (simp [*]; done)), H', ⟨by have := HK1.out; omega⟩, ⟨by (with_reducible repeat (first | apply Kd.S_alloc | apply Kd.S_drewN | apply Kd.S_drew)); exact HO_0.out⟩, ⟨by (with_reducible repeat (first | exact HK.out | apply Kept.alloc | apply Kept.drewN | apply Kept.drew))⟩, ⟨by (with_reducible repeat (first | exact HB.out | apply below_alloc | apply pw_below_drewN | apply below_drew1))⟩⟩
    ·rw [if_neg c4] at H
     exact absurd H (by simp)
   ·rw [if_neg c3] at H
    have c3b0 : decide (x5_1 < (x0_1.length : Int)) = false := decide_eq_false c3
    clear c3
    have H2 := Option.some.inj H
    injection H2 with e1_ e2_
    subst e1_
    subst e2_
    go_wp2
    go_ret
    exact ⟨rfl, by (with_reducible repeat (first | apply Kd.S_alloc | apply Kd.S_drewN | apply Kd.S_drew)); exact HO_0.out, by (with_reducible repeat (first | exact HB.out | apply below_alloc | apply pw_below_drewN | apply below_drew1)), by (with_reducible repeat (first | exact HK.out | apply Kept.alloc | apply Kept.drewN | apply Kept.drew))⟩

/-! ### laws_markTable: function 32 -/
def laws_markTable.f (k : Nat) (l0_0 : List Int) (l0_1 : List (List Int)) (a1 : Int) : Option (Int × List Int × List (List Int)) := (laws_markInt16S.f k l0_0 a1).bind fun bt => ((laws_markInt16SS.f k l0_1 bt.1).bind fun bu => some (bu.1, bt.2, bu.2))
theorem laws_markTable.mono : ∀ a0 a1 a2 k, LeO (laws_markTable.f k a0 a1 a2) (laws_markTable.f (k + 1) a0 a1 a2) := by
 intro a0 a1 a2 k
 unfold laws_markTable.f
 exact LeO.bind (laws_markInt16S.mono _ _ _) (fun _ => LeO.bind (laws_markInt16SS.mono _ _ _) (fun _ => LeO.refl _))
set_option maxHeartbeats 8000000 in
set_option maxRecDepth 100000 in
theorem laws_markTable.calls (k : Nat) (P0_0_ : Nat → Prop) (u9000_ : Value) (l0_0 : List Int) (P0_1_ : Nat → Prop) (u9001_ : Value) (l0_1 : List (List Int)) (a1 : Int) (r1 : Int) (r2 : List Int) (r3 : List (List Int)) (w0 w : World) (hB : Below w0.heap.size w0 w) (ho0 : Kd.R (Kd.int .i16) 81 w w0.heap.size P0_0_ u9000_ l0_0) (ho1 : Kd.S (Kd.slice 81 (Kd.int .i16)) 30 w w0.heap.size P0_1_ u9001_ l0_1) (hap : ∀ k_, P0_1_ k_ → some k_ ≠ u9000_.ownBlock) (h : laws_markTable.f k l0_0 l0_1 a1 = some (r1, r2, r3)) :
  Calls Try.prog 32 #[.agg #[u9000_, u9001_], .int .i64 a1] w fun e w' => e = .returned (.int .i64 r1) ∧ Kd.R (Kd.int .i16) 81 w' w0.heap.size (fun k_ => ((P0_0_ k_ ∨ P0_1_ k_) ∨ w.heap.size ≤ k_)) u9000_ r2 ∧ Kd.S (Kd.slice 81 (Kd.int .i16)) 30 w' w0.heap.size P0_1_ u9001_ r3 ∧ Below w0.heap.size w0 w' ∧ Kept w w' (fun k_ => P0_0_ k_ ∨ P0_1_ k_) := by
 obtain ⟨A0, c0, e0_⟩ := Kd.R_slice ho0
 subst e0_
 obtain ⟨A1, c1, e1_⟩ := Kd.S_slice ho1
 subst e1_
 have hu := Try.underlying38
 unfold laws_markTable.f at h
 obtain ⟨⟨t1, t2⟩, hm1, h⟩ := Option.bind_eq_some_iff.mp h
 obtain ⟨⟨t3, t4⟩, hm2, h⟩ := Option.bind_eq_some_iff.mp h
 have h' := Option.some.inj h
 simp only [Prod.mk.injEq] at h'
 obtain ⟨q1, q2, q3⟩ := h'
 subst q1 q2 q3
 clear h
 have M1 := Aside0.mk hm1
 have M2 := Aside0.mk hm2
 have LT := Aside0.mk (Kd.R_lt ho0)
 have AP := Aside0.mk hap
 have HO0 := Aside0.mk (Kd.R_tight2 rfl ho0)
 have HO1 := Aside0.mk ho1
 have HK := Aside0.mk (Kept.refl w (fun k_ => P0_0_ k_ ∨ P0_1_ k_))
 have HB := Aside0.mk hB
 have HW := Aside0.mk (Nat.le_refl w.heap.size)
 clear hm1 hm2 ho0 ho1 hB hap
 go_enter Try.func32, Try.ntmps32
 go_wp2_with (first | ((with_reducible refine gate_dst (N := 2) rfl ?_); refine box_event ?hg (N := 2) ?hd (cs := #[.slice A0 l0_0.length c0, .slice A1 l0_1.length c1]) (t := 38) ?hr ?_; (case hd => rfl); (case hg => rfl); (case hr => first | (go_simp; done) | (go_simp; rfl)); intro gb hg wb hbox hb; have n0_ := Aside0.mk (Kd.R_below (by (with_reducible repeat (first | apply Kd.R_alloc | apply Kd.R_drewN | apply Kd.R_drew)); exact HO0.out) hb); have n1_ := Aside0.mk (Kd.S_below (by (with_reducible repeat (first | apply Kd.S_alloc | apply Kd.S_drewN | apply Kd.S_drew)); exact HO1.out) hb); have n2_ := Aside0.mk (Kept.below (S := (fun k_ => P0_0_ k_ ∨ P0_1_ k_)) (by (with_reducible repeat (first | exact HK.out | apply Kept.alloc | apply Kept.drewN | apply Kept.drew))) hb); have n3_ := Aside0.mk (below_step (by (with_reducible repeat (first | exact HB.out | apply below_alloc | apply pw_below_drewN | apply below_drew1))) hb); have n4_ := Aside0.mk hbox; have n5_ := Aside0.mk ((by rw [hg]; exact (show Kept w _ (fun k_ => P0_0_ k_ ∨ P0_1_ k_) from by (with_reducible repeat (first | exact HK.out | apply Kept.alloc | apply Kept.drewN | apply Kept.drew))).1) : w.heap.size ≤ gb); clear HO0 HO1 HK HB hb hbox hg; have HO0 := n0_; have HO1 := n1_; have HK := n2_; have HB := n3_; have BK := n4_; have GW := n5_; clear n0_ n1_ n2_ n3_ n4_ n5_; have hcz_0 : wb.cell? ⟨gb, 0, none⟩ = some (.slice A0 l0_0.length c0) := (blk_cell BK.out 0).trans rfl; have hcz_1 : wb.cell? ⟨gb, 1, none⟩ = some (.slice A1 l0_1.length c1) := (blk_cell BK.out 1).trans rfl; have hfz_0 := blk_frozen BK.out 0; have hfz_1 := blk_frozen BK.out 1) | (go_at_call 76; (with_reducible refine (laws_markInt16S.calls k (fun k_ => some k_ = (.slice A0 l0_0.length c0 : Value).ownBlock) (.slice A0 l0_0.length c0) l0_0 a1 t1 t2 w0 _ ?side1 ?side2 M1.out).mono ?_); (case side1 => (with_reducible repeat (first | exact HB.out | apply below_alloc | apply pw_below_drewN | apply below_drew1))); (case side2 => exact Kd.R_tight rfl (by (with_reducible repeat (first | apply Kd.R_alloc | apply Kd.R_drewN | apply Kd.R_drew)); exact HO0.out)); rintro e w7 ⟨rfl, hy0, hb, hkp⟩; have n0_ := Aside0.mk (Kd.R_reok (ok := fun k_ => some k_ = (.slice A0 l0_0.length c0 : Value).ownBlock ∧ P0_0_ k_) rfl hy0 (fun k_ e_ => HO0.out.1 k_ e_)); have n1_ := Aside0.mk (Kd.S_mono (ok' := P0_1_) (Kd.S_keptB (by (with_reducible repeat (first | apply Kd.S_alloc | apply Kd.S_drewN | apply Kd.S_drew)); exact HO1.out) hkp (fun k_ hk_ hs_ => (AP.out k_ hk_) hs_)) (fun k_ hk_ => hk_.1)); have n2_ := Aside0.mk (Kept.then_ (S := (fun k_ => P0_0_ k_ ∨ P0_1_ k_)) (by (with_reducible repeat (first | exact HK.out | apply Kept.alloc | apply Kept.drewN | apply Kept.drew))) hkp (fun k_ hs_ => .inl (.inl (HO0.out.1 k_ hs_.symm).2))); have n3_ := Aside0.mk hb; have n4_ := Aside0.mk (blk_kept (by (with_reducible repeat (first | refine blk_drewN ?_ _ | refine blk_drew ?_ | refine blk_alloc ?_ _)); exact BK.out) hkp (fun hs_ => Nat.not_lt.2 GW.out (LT.out _ hs_.symm))); clear HO0 HO1 HK HB BK hy0 hb hkp hcz_0 hcz_1 hfz_0 hfz_1; have HO0 := n0_; have HO1 := n1_; have HK := n2_; have HB := n3_; have BK := n4_; clear n0_ n1_ n2_ n3_ n4_; have hcz_1 : w7.cell? ⟨gb, 1, none⟩ = some (.slice A1 l0_1.length c1) := (blk_cell BK.out 1).trans rfl; have hfz_1 := blk_frozen BK.out 1) | (go_at_call 77; (with_reducible refine (laws_markInt16SS.calls k P0_1_ (.slice A1 l0_1.length c1) l0_1 t1 t3 t4 w0 _ ?side1 ?side2 M2.out).mono ?_); (case side1 => (with_reducible repeat (first | exact HB.out | apply below_alloc | apply pw_below_drewN | apply below_drew1))); (case side2 => (with_reducible repeat (first | apply Kd.S_alloc | apply Kd.S_drewN | apply Kd.S_drew)); exact HO1.out); rintro e w8 ⟨rfl, hy1, hb, hkp⟩; have n0_ := Aside0.mk (Kd.R_mono (ok' := fun k_ => some k_ = (.slice A0 l0_0.length c0 : Value).ownBlock ∧ P0_0_ k_) (Kd.R_keptB (by (with_reducible repeat (first | apply Kd.R_alloc | apply Kd.R_drewN | apply Kd.R_drew)); exact HO0.out) hkp (fun k_ hk_ hs_ => (AP.out k_ hs_) hk_.1)) (fun k_ hk_ => hk_.1)); have n1_ := Aside0.mk hy1; have n2_ := Aside0.mk (Kept.then_ (S := (fun k_ => P0_0_ k_ ∨ P0_1_ k_)) (by (with_reducible repeat (first | exact HK.out | apply Kept.alloc | apply Kept.drewN | apply Kept.drew))) hkp (fun k_ hs_ => .inl (.inr hs_))); have n3_ := Aside0.mk hb; clear HO0 HO1 HK HB BK hy1 hb hkp hcz_1 hfz_1; have HO0 := n0_; have HO1 := n1_; have HK := n2_; have HB := n3_; clear n0_ n1_ n2_ n3_))
 go_ret
 exact ⟨rfl, by (with_reducible repeat (first | apply Kd.R_alloc | apply Kd.R_drewN | apply Kd.R_drew)); exact Kd.R_mono HO0.out (fun _ hk_ => .inl (.inl hk_.2)), by (with_reducible repeat (first | apply Kd.S_alloc | apply Kd.S_drewN | apply Kd.S_drew)); exact HO1.out, by (with_reducible repeat (first | exact HB.out | apply below_alloc | apply pw_below_drewN | apply below_drew1)), by (with_reducible repeat (first | exact HK.out | apply Kept.alloc | apply Kept.drewN | apply Kept.drew))⟩

/-! ### laws_markInt64S: function 33 -/
def laws_markInt64S.l0 : Nat → List Int → Int → Int → Option (Int × List Int)
 | 0, _, _, _ => none
 | k + 1, x0, x1, x5 => if x5 < (x0.length : Int) then (if 0 ≤ x5 then (laws_markInt64S.l0 k (x0.set (x5 : Int).toNat x1) (wrap64 (x1 + 1)) (wrap64 (x5 + 1))) else (none)) else (some (x1, x0))
def laws_markInt64S.f (k : Nat) (l0 : List Int) (a1 : Int) : Option (Int × List Int) := laws_markInt64S.l0 k l0 a1 0
theorem laws_markInt64S.mono_l : ∀ k, (∀ y0 y1 y2, LeO (laws_markInt64S.l0 k y0 y1 y2) (laws_markInt64S.l0 (k + 1) y0 y1 y2))
 | 0 => fun _ _ _ r h => by simp [laws_markInt64S.l0] at h
 | k + 1 => by
  have ih0 := laws_markInt64S.mono_l k
  ·intro y0 y1 y2
   unfold laws_markInt64S.l0
   repeat' first
   | (with_reducible exact ih0 _ _ _)
   | (with_reducible exact LeO.refl _)
   | (with_reducible exact LeO.none _)
   | (with_reducible refine LeO.ite ?_ ?_)
   | (with_reducible refine LeO.bind ?_ (fun _ => ?_))
   | exact ih0 _ _ _
   | exact LeO.none _
   | refine LeO.ite ?_ ?_
   | refine LeO.bind ?_ (fun _ => ?_)
theorem laws_markInt64S.mono : ∀ a0 a1 k, LeO (laws_markInt64S.f k a0 a1) (laws_markInt64S.f (k + 1) a0 a1) := by
 intro a0 a1 k
 have ih0 := laws_markInt64S.mono_l k
 unfold laws_markInt64S.f
 repeat' first
   | (with_reducible exact ih0 _ _ _)
   | (with_reducible exact LeO.refl _)
   | (with_reducible exact LeO.none _)
   | (with_reducible refine LeO.ite ?_ ?_)
   | (with_reducible refine LeO.bind ?_ (fun _ => ?_))
   | exact ih0 _ _ _
   | exact LeO.none _
   | refine LeO.ite ?_ ?_
   | refine LeO.bind ?_ (fun _ => ?_)
set_option maxHeartbeats 8000000 in
set_option maxRecDepth 100000 in
theorem laws_markInt64S.calls (k : Nat) (P0_ : Nat → Prop) (u9000_ : Value) (l0 : List Int) (a1 : Int) (r1 : Int) (r2 : List Int) (w0 w : World) (hB : Below w0.heap.size w0 w) (ho0 : Kd.R (Kd.int .i64) 2 w w0.heap.size P0_ u9000_ l0) (h : laws_markInt64S.f k l0 a1 = some (r1, r2)) :
  Calls Try.prog 33 #[u9000_, .int .i64 a1] w fun e w' => e = .returned (.int .i64 r1) ∧ Kd.R (Kd.int .i64) 2 w' w0.heap.size (fun k_ => (P0_ k_ ∨ w.heap.size ≤ k_)) u9000_ r2 ∧ Below w0.heap.size w0 w' ∧ Kept w w' (fun k_ => P0_ k_) := by
 have HO0 := Aside0.mk (show Kd.R (Kd.int .i64) 2 w w0.heap.size (fun k_ => (P0_ k_ ∨ w.heap.size ≤ k_)) u9000_ l0 from Kd.R_mono ho0 (fun k_ hk => (.inl hk)))
 have HK := Aside0.mk (Kept.refl w (fun k_ => P0_ k_))
 have HW0 := Aside0.mk hB.size
 have HB := Aside0.mk hB
 clear hB
 have H : (laws_markInt64S.l0 k l0 a1 0) = some (r1, r2) := h
 clear h
 have H' := Aside0.mk H
 clear H
 go_enter Try.func33, Try.ntmps33
 go_wp2
 go_loopg [1, 5] k (fun kq v1 v5 w' => ∃ (x0_1 : List Int) (x1_1 : Int) (x5_1 : Int), v1 = .int .i64 x1_1 ∧ v5 = .int .i64 x5_1 ∧ Aside0 (laws_markInt64S.l0 kq x0_1 x1_1 x5_1 = some (r1, r2)) ∧ Aside0 (kq ≤ k) ∧ Aside0 (Kd.R (Kd.int .i64) 2 w' w0.heap.size (fun k_ => (P0_ k_ ∨ w.heap.size ≤ k_)) u9000_ x0_1) ∧ Aside0 (Kept w w' (fun k_ => P0_ k_)) ∧ Aside0 (Below w0.heap.size w0 w'))
 case atStart => exact ⟨(l0), (a1), (0), (by first | rfl | (simp; done) | (simp [*]; done)), (by first | rfl | (simp; done) | (simp [*]; done)), H', ⟨Nat.le_refl _⟩, ⟨by (with_reducible repeat (first | apply Kd.R_alloc | apply Kd.R_drewN | apply Kd.R_drew)); exact HO0.out⟩, ⟨by repeat (first | (with_reducible first | exact HK.out | apply Kept.alloc | apply Kept.drewN | apply Kept.drew) | exact HK.out)⟩, ⟨by repeat (first | (with_reducible first | exact HB.out | apply below_alloc | apply pw_below_drewN | apply below_drew1) | exact HB.out)⟩⟩
 case round =>
  clear H'
  try clear p2
  obtain ⟨x0_1, x1_1, x5_1, rfl, rfl, HA, HK1, HO_0, HK, HB⟩ := hrel
  cases gk with
  | zero => exact absurd HA.out (by simp [laws_markInt64S.l0])
  | succ k1 =>
   have H := HA.out
   clear HA
   simp only [laws_markInt64S.l0] at H
   by_cases c3 : x5_1 < (x0_1.length : Int)
   ·rw [if_pos c3] at H
    have c3b0 : decide (x5_1 < (x0_1.length : Int)) = true := decide_eq_true c3
    clear c3
    by_cases c4 : 0 ≤ x5_1
    ·rw [if_pos c4] at H
     have c4b0 : decide (0 ≤ x5_1) = true := decide_eq_true c4
     clear c4
     obtain ⟨y250, hy250⟩ : ∃ y_ : List Int, y_ = (x0_1.set (x5_1 : Int).toNat x1_1) := ⟨_, rfl⟩
     replace H : (laws_markInt64S.l0 k1 y250 (wrap64 (x1_1 + 1)) (wrap64 (x5_1 + 1))) = some (r1, r2) := by first | (rw [hy250]; with_reducible exact H) | (have H2_ := (Option.bind_some _ _).symm.trans H; rw [hy250]; with_reducible exact H2_) | (have H2_ := (Option.bind_some _ _).symm.trans H; with_reducible exact H2_) | with_reducible exact H | (rw [hy250]; exact H) | exact H
     have Ny250 := Aside0.mk hy250
     clear hy250
     have H' := Aside0.mk H
     clear H
     obtain ⟨Ao6, co6, eo6⟩ := Kd.R_slice HO_0.out
     subst eo6
     have p5 : 0 ≤ (x5_1 : Int) := odt_
     have q5 : (x5_1 : Int) < ((x0_1.length : Int) : Int) := odt_
     obtain ⟨go5, co5, eo5, gb5, gl5, cl5, HG5⟩ := Kd.R_form HO_0.out (by omega)
     (first | cases eo5 | (injection eo5 with ea_ en_ ec_; (first | subst ea_ | (injection ea_ with ea_; subst ea_)); subst ec_; clear en_))
     have GB5 := Aside0.mk gb5
     have GG5 := Aside0.mk HG5
     clear gb5 gl5 HG5
     have HMgo5 := Aside0.mk (show (P0_ go5 ∨ w.heap.size ≤ go5) from (HO_0.out.1 _ rfl))
     obtain ⟨hx5_0, hf5_0⟩ := Kd.R_celln 0 HO_0.out (x5_1 : Int) p5 q5
     replace p5 := eq_true p5
     replace q5 := eq_true q5
     have HP7 := Kd.R_putg HO_0.out (x5_1 : Int) x1_1
     go_wp2_with (first | ((with_reducible refine gate_store (t := 2) (p := 15) rfl ?_); refine store_event (t := 2) (p := 15) (v := ?vo_w8) (w1 := (wr.setCell ⟨go5, (x5_1 : Int).toNat, none⟩ (.int .i64 x1_1))) ?hg ?ho ?hn ?hr ?_; (case ho => rfl); (case hg => rfl); (case hn => rfl); (case hr => first | (go_simp; done) | (go_simp; rfl)); intro w8 hw; have hg : wr.grownBy w8 (some go5) := (by rw [hw]; exact HP7.2); have hp_ : Kd.R (Kd.int .i64) 2 w8 w0.heap.size (fun k_ => (P0_ k_ ∨ w.heap.size ≤ k_)) (.slice (some ⟨go5, 0, none⟩) x0_1.length co6) y250 := (by rw [hw, Ny250.out]; exact HP7.1); clear HP7; have n0_ := Aside0.mk (hp_); have n1_ := Aside0.mk ((by rw [hw]; exact below_set (HB.out) GB5.out : Below w0.heap.size w0 w8)); have n2_ := Aside0.mk (Kept.of_grown (S := (fun k_ => P0_ k_)) hg (by repeat (first | (with_reducible first | exact HK.out | apply Kept.alloc | apply Kept.drewN | apply Kept.drew) | exact HK.out)) (fun k_ e_ => (HO_0.out.1 k_ e_))); clear HO_0; clear HB; clear HK; have HO_0 := n0_; have HB := n1_; have HK := n2_; clear n0_ n1_ n2_; clear hg hw hp_))
     go_roundg k1
     case measure => have := HK1.out; omega
     case rel => exact ⟨(y250), (wrap64 (x1_1 + 1)), (wrap64 (x5_1 + 1)), (by first | rfl | (simp; done) | (simp [*]; done)), (by first | rfl | (simp; done) | (simp [*]; done)), H', ⟨by have := HK1.out; omega⟩, ⟨by (with_reducible repeat (first | apply Kd.R_alloc | apply Kd.R_drewN | apply Kd.R_drew)); exact HO_0.out⟩, ⟨by repeat (first | (with_reducible first | exact HK.out | apply Kept.alloc | apply Kept.drewN | apply Kept.drew) | exact HK.out)⟩, ⟨by repeat (first | (with_reducible first | exact HB.out | apply below_alloc | apply pw_below_drewN | apply below_drew1) | exact HB.out)⟩⟩
    ·rw [if_neg c4] at H
     exact absurd H (by simp)
   ·rw [if_neg c3] at H
    have c3b0 : decide (x5_1 < (x0_1.length : Int)) = false := decide_eq_false c3
    clear c3
    simp only [Option.some.injEq, Prod.mk.injEq] at H
    obtain ⟨rfl, rfl⟩ := H
    obtain ⟨Ao9, co9, eo9⟩ := Kd.R_slice HO_0.out
    subst eo9
    go_wp2
    go_ret
    exact ⟨by first | rfl | (simp [errW_none, errW_some] <;> rfl) | (simp [*, errW_none, errW_some] <;> rfl), by (with_reducible repeat (first | apply Kd.R_alloc | apply Kd.R_drewN | apply Kd.R_drew)); exact HO_0.out, by repeat (first | (with_reducible first | exact HB.out | apply below_alloc | apply pw_below_drewN | apply below_drew1) | exact HB.out), by repeat (first | (with_reducible first | exact HK.out | apply Kept.alloc | apply Kept.drewN | apply Kept.drew) | exact HK.out)⟩

/-! ### laws_heldInt64S: function 34 -/
def laws_heldInt64S.l0 : Nat → List Int → Int → Int → Option (Int)
 | 0, _, _, _ => none
 | k + 1, x0, x1, x5 => if x5 < (x0.length : Int) then (if 0 ≤ x5 then (if (rd x0 x5) = x1 then (laws_heldInt64S.l0 k x0 (wrap64 (x1 + 1)) (wrap64 (x5 + 1))) else (some (-1))) else (none)) else (some x1)
def laws_heldInt64S.f (k : Nat) (l0 : List Int) (a1 : Int) : Option (Int) := laws_heldInt64S.l0 k l0 a1 0
theorem laws_heldInt64S.mono_l : ∀ k, (∀ y0 y1 y2, LeO (laws_heldInt64S.l0 k y0 y1 y2) (laws_heldInt64S.l0 (k + 1) y0 y1 y2))
 | 0 => fun _ _ _ r h => by simp [laws_heldInt64S.l0] at h
 | k + 1 => by
  have ih0 := laws_heldInt64S.mono_l k
  ·intro y0 y1 y2
   unfold laws_heldInt64S.l0
   repeat' first
   | (with_reducible exact ih0 _ _ _)
   | (with_reducible exact LeO.refl _)
   | (with_reducible exact LeO.none _)
   | (with_reducible refine LeO.ite ?_ ?_)
   | (with_reducible refine LeO.bind ?_ (fun _ => ?_))
   | exact ih0 _ _ _
   | exact LeO.none _
   | refine LeO.ite ?_ ?_
   | refine LeO.bind ?_ (fun _ => ?_)
theorem laws_heldInt64S.mono : ∀ a0 a1 k, LeO (laws_heldInt64S.f k a0 a1) (laws_heldInt64S.f (k + 1) a0 a1) := by
 intro a0 a1 k
 have ih0 := laws_heldInt64S.mono_l k
 unfold laws_heldInt64S.f
 repeat' first
   | (with_reducible exact ih0 _ _ _)
   | (with_reducible exact LeO.refl _)
   | (with_reducible exact LeO.none _)
   | (with_reducible refine LeO.ite ?_ ?_)
   | (with_reducible refine LeO.bind ?_ (fun _ => ?_))
   | exact ih0 _ _ _
   | exact LeO.none _
   | refine LeO.ite ?_ ?_
   | refine LeO.bind ?_ (fun _ => ?_)
set_option maxHeartbeats 8000000 in
set_option maxRecDepth 100000 in
theorem laws_heldInt64S.calls (k : Nat) (A0 : Option Addr) (c0 : Nat) (l0 : List Int) (a1 : Int) (r : Int) (w : World) (hr0 : Kd.C (Kd.int .i64) w A0 l0.length l0) (hc0 : l0.length ≤ c0) (h : laws_heldInt64S.f k l0 a1 = some r) :
  Calls Try.prog 34 #[.slice A0 l0.length c0, .int .i64 a1] w fun e w' => e = .returned (.int .i64 r) ∧ Drawn0 w w' := by
 have HR0 := Aside0.mk hr0
 have HC0 := Aside0.mk hc0
 clear hr0 hc0
 have H : (laws_heldInt64S.l0 k l0 a1 0) = some r := h
 clear h
 have H' := Aside0.mk H
 clear H
 go_enter Try.func34, Try.ntmps34
 go_wp2
 go_loopg [1, 5] k (fun kq v1 v5 w' => ∃ (x1_1 : Int) (x5_1 : Int), v1 = .int .i64 x1_1 ∧ v5 = .int .i64 x5_1 ∧ Aside0 (laws_heldInt64S.l0 kq l0 x1_1 x5_1 = some r) ∧ Aside0 (kq ≤ k) ∧ Drawn0 w w')
 case atStart => exact ⟨(a1), (0), (by first | rfl | (simp; done) | (simp [*]; done)), (by first | rfl | (simp; done) | (simp [*]; done)), H', ⟨Nat.le_refl _⟩, by repeat (first | exact Drawn0.refl _ | apply Drawn0.step)⟩
 case round =>
  clear H'
  try clear p2
  obtain ⟨x1_1, x5_1, rfl, rfl, HA, HK1, ⟨m1, rfl⟩⟩ := hrel
  cases gk with
  | zero => exact absurd HA.out (by simp [laws_heldInt64S.l0])
  | succ k1 =>
   have H := HA.out
   clear HA
   simp only [laws_heldInt64S.l0] at H
   by_cases c3 : x5_1 < (l0.length : Int)
   ·rw [if_pos c3] at H
    have c3b0 : decide (x5_1 < (l0.length : Int)) = true := decide_eq_true c3
    clear c3
    by_cases c4 : 0 ≤ x5_1
    ·rw [if_pos c4] at H
     have c4b0 : decide (0 ≤ x5_1) = true := decide_eq_true c4
     clear c4
     by_cases c5 : (rd l0 x5_1) = x1_1
     ·rw [if_pos c5] at H
      have c5b0 : ((rd l0 x5_1) == x1_1) = true := beq_iff_eq.mpr c5
      have c5b1 : ((rd l0 x5_1) != x1_1) = false := bne_eq_false_iff_eq.mpr c5
      clear c5
      have H' := Aside0.mk H
      clear H
      have p251 : 0 ≤ (x5_1 : Int) := odt_
      have q251 : x5_1 < (l0.length : Int) := odt_
      obtain ⟨ad251, e251, hx251_0⟩ := Kd.at_int HR0.out x5_1 p251 q251
      cases e251
      replace p251 := eq_true p251
      replace q251 := eq_true q251
      go_wp2
      go_roundg k1
      case measure => have := HK1.out; omega
      case rel => exact ⟨(wrap64 (x1_1 + 1)), (wrap64 (x5_1 + 1)), (by first | rfl | (simp; done) | (simp [*]; done)), (by first | rfl | (simp; done) | (simp [*]; done)), H', ⟨by have := HK1.out; omega⟩, by repeat (first | exact Drawn0.refl _ | apply Drawn0.step)⟩
     ·rw [if_neg c5] at H
      have c5b0 : ((rd l0 x5_1) == x1_1) = false := beq_eq_false_iff_ne.mpr c5
      have c5b1 : ((rd l0 x5_1) != x1_1) = true := bne_iff_ne.mpr c5
      obtain rfl := Option.some.inj H
      have p251 : 0 ≤ (x5_1 : Int) := odt_
      have q251 : x5_1 < (l0.length : Int) := odt_
      obtain ⟨ad251, e251, hx251_0⟩ := Kd.at_int HR0.out x5_1 p251 q251
      cases e251
      replace p251 := eq_true p251
      replace q251 := eq_true q251
      go_wp2
      go_ret
      exact ⟨by first | rfl | (simp; done) | (simp [*]; done), by repeat (first | exact Drawn0.refl _ | apply Drawn0.step)⟩
    ·rw [if_neg c4] at H
     exact absurd H (by simp)
   ·rw [if_neg c3] at H
    have c3b0 : decide (x5_1 < (l0.length : Int)) = false := decide_eq_false c3
    clear c3
    obtain rfl := Option.some.inj H
    go_wp2
    go_ret
    exact ⟨by first | rfl | (simp; done) | (simp [*]; done), by repeat (first | exact Drawn0.refl _ | apply Drawn0.step)⟩

end Go.Proofs.Ytdeipindfhkioaa.Q
