-- made by wip/tools/mk.py of this session's repo, by way of the kit's print.py: Lean checks it.
import Derived.Test.YtihnefkkgbokcaaQ0
import Derived.Test.YtihnefkkgbokcaaQ9
namespace Go.Proofs.Ytihnefkkgbokcaa.Q
open Go.RowKit Go.Proofs.YtihnefkkgbokcaaW.PrintWords Go.Proofs.YtihnefkkgbokcaaW.PrintLast Go.Proofs.YtihnefkkgbokcaaW.PrintMore Go.Proofs.YtihnefkkgbokcaaMine
attribute [local go_sem] max2_int min2_int max_two min_two max_three min_three max_four min_four   -- for this text's walks alone
set_option linter.unusedVariables false
set_option linter.unusedSimpArgs false

section
open Go.Maps
theorem zeroPl (w : World) : (zeroValue 2).run Try.prog w = .ok (.int .i64 0) w := by kernel_rfl
theorem laidOutP : laidOutB Try.prog = true := by kernel_rfl
theorem rowPl : (106 : TypeId) < Try.prog.types.size := of_decide_eq_true (by kernel_rfl)
theorem widePl : (match Try.prog.underlying 106 with | some (.array _ _) | some (.struct _) => true | _ => false) = true := by rw [Try.underlying106]
set_option maxRecDepth 100000 in
theorem keyPl : WideMaps.KeyLaw Try.prog 106 := deep_law_laid laidOutP (m := 2) (by omega) rowPl (by kernel_rfl) widePl
theorem keyedPl : Keyed Try.prog 106 := Keyed.of_law keyPl
/-- A place: what is left, and where one stands. -/
def plK (p s : Int) : Value := .agg #[.int .i64 p, .int .i64 s]
noncomputable def plL (p s : Int) : Lit := (keyOf Try.prog 106 (plK p s)).getD (.int .i64 0)
def wfP (x : Int × Int) : Prop := (Lit.int .i64 x.1).wf = true ∧ (Lit.int .i64 x.2).wf = true
theorem keyTy : Try.prog.keyType 106 = true := by kernel_rfl
theorem cells106 : Try.prog.cellsOf 106 = 2 := by kernel_rfl
theorem cells3 : Try.prog.cellsOf 3 = 1 := by kernel_rfl
theorem cells2 : Try.prog.cellsOf 2 = 1 := by kernel_rfl
theorem litsInt (d t : Nat) (hu : Try.prog.underlying t = some (.int .i64)) {x : Int} (hx : (Lit.int .i64 x).wf = true) : Try.prog.keyLits (d + 1) t [.int .i64 x] = some [.int .i64 x] := by
 unfold Program.keyLits
 simp [hu, hx]
theorem plKey {p s : Int} (h : wfP (p, s)) : keyOf Try.prog 106 (plK p s) = some (plL p s) := by
 have h1 : Try.prog.keyLits (Try.prog.types.size + 1) 106 [.int .i64 p, .int .i64 s] = some [.int .i64 p, .int .i64 s] := by
  unfold Program.keyLits
  rw [Try.underlying106]
  simp only [List.length_cons, List.length_nil, cells106, cells3, cells2]
  have hz : ∃ n, Try.prog.types.size = n + 1 := ⟨_, (Nat.sub_add_cancel (Nat.lt_of_le_of_lt (Nat.zero_le _) rowPl)).symm⟩
  obtain ⟨n, hn⟩ := hz
  rw [hn]
  simp [cells3, cells2, litsInt n 3 Try.underlying3 h.1, litsInt n 2 Try.underlying2 h.2]
 have h2 : (keyOf Try.prog 106 (plK p s)).isSome = true := by
  unfold plK keyOf
  rw [Try.underlying106]
  have h3 : (Value.agg #[.int .i64 p, .int .i64 s]).formed Try.prog 106 = true := by simp [Value.formed, Try.underlying106, cells106]
  simp only [keyTy, h3, Bool.and_self, if_true, Value.cells, h1, Option.map_some, Option.isSome_some]
 unfold plL
 cases e : keyOf Try.prog 106 (plK p s) with
 | none => rw [e] at h2; cases h2
 | some l => rfl
set_option maxRecDepth 100000 in
theorem plIs {x : Int × Int} (h : wfP x) : WideAt.IsKeyLit (plL x.1 x.2) := keyedPl.key (plKey h)
theorem plInj {x y : Int × Int} (hx : wfP x) (hy : wfP y) (h : plL x.1 x.2 = plL y.1 y.2) : x = y := by
 have h1 := plKey hx
 have h2 := plKey hy
 rw [h] at h1
 have h3 := keyedPl.inj h1 h2
 unfold plK at h3
 simp only [Value.agg.injEq, Array.mk.injEq, List.cons.injEq, Value.int.injEq, true_and, and_true] at h3
 exact Prod.ext h3.1 h3.2
abbrev PLog := List ((Int × Int) × Int)
noncomputable def bagP (log : PLog) : DataW Unit := log.foldl (fun m e => m.put (plL e.1.1 e.1.2) (.lit (.int .i64 e.2))) (.map [])
theorem bagP_snoc (log : PLog) (e : (Int × Int) × Int) : bagP (log ++ [e]) = (bagP log).put (plL e.1.1 e.1.2) (.lit (.int .i64 e.2)) := by simp [bagP, List.foldl_append]
theorem bagP_isMap (log : PLog) : IsMap (bagP log) := by
 unfold bagP
 suffices hh : ∀ (l : PLog) (D : DataW Unit), IsMap D → IsMap (l.foldl (fun m e => m.put (plL e.1.1 e.1.2) (.lit (.int .i64 e.2))) D) from hh log _ isMap_empty
 intro l
 induction l with
 | nil => intro D h; exact h
 | cons p ps ih => intro D h; exact ih _ (h.put _ _)
set_option maxRecDepth 100000 in
theorem bagP_look {x : Int × Int} (hx : wfP x) (log : PLog) (hl : ∀ e ∈ log, wfP e.1) : (∃ e, e ∈ log ∧ e.1 = x ∧ ∀ z, (bagP log).atKey (plL x.1 x.2) z = .lit (.int .i64 e.2)) ∨ ((∀ e ∈ log, e.1 ≠ x) ∧ ∀ z, (bagP log).atKey (plL x.1 x.2) z = z) := by
 suffices hh : ∀ (n : Nat) (log : PLog), log.length = n → (∀ e ∈ log, wfP e.1) → (∃ e, e ∈ log ∧ e.1 = x ∧ ∀ z, (bagP log).atKey (plL x.1 x.2) z = .lit (.int .i64 e.2)) ∨ ((∀ e ∈ log, e.1 ≠ x) ∧ ∀ z, (bagP log).atKey (plL x.1 x.2) z = z) from hh _ log rfl hl
 intro n
 induction n with
 | zero =>
  intro log hn _
  obtain rfl : log = [] := List.length_eq_zero_iff.1 hn
  exact .inr ⟨fun e he => (by cases he), fun z => rfl⟩
 | succ n ih =>
  intro log hn hw
  obtain ⟨l, p, rfl⟩ : ∃ l p, log = l ++ [p] := by
   have hne : log ≠ [] := fun h => by rw [h] at hn; simp at hn
   exact ⟨log.dropLast, log.getLast hne, (List.dropLast_concat_getLast hne).symm⟩
  have hwp : wfP p.1 := hw p (by simp)
  by_cases e : p.1 = x
  ·refine .inl ⟨p, by simp, e, fun z => ?_⟩
   rw [bagP_snoc, ← e]
   exact atKey_put_same (bagP_isMap l) (plIs hwp) _ _
  ·have hne : plL x.1 x.2 ≠ plL p.1.1 p.1.2 := fun h => e (plInj hx hwp h).symm
   rcases ih l (by simp at hn; exact hn) (fun e he => hw e (by simp [he])) with ⟨q, h1, h2, h3⟩ | ⟨h1, h2⟩
   ·exact .inl ⟨q, by simp [h1], h2, fun z => by rw [bagP_snoc, atKey_put_other hne]; exact h3 z⟩
   ·refine .inr ⟨fun q hq => ?_, fun z => by rw [bagP_snoc, atKey_put_other hne]; exact h2 z⟩
    rcases List.mem_append.1 hq with h3 | h3
    ·exact h1 q h3
    ·rw [List.mem_singleton] at h3; rw [h3]; exact e
end
section
open Go.Maps
variable {P : Program} {ops : Array Oper} {o : Oper} {a : Act} {Q : Exit → Act → World → Prop} {W : World}
theorem lkp_step {Kc : Act → World → Prop} (hw : Region.wanted o (yielded ops a.tmps) = true) (m x : Operand) (t k e : TypeId) (hop : o.op = .lookup t m x true) (q : IntKind) (K : Keyed P k) (ht : P.underlying t = some (.map k e)) (he : P.underlying e = some (.int q)) (hz : (zeroValue e).run P W = .ok (.int q 0) W)
  (b n : Nat) (D : DataW Unit) (hm : a.eval m = .map (some b)) (hown : W.ownsMap P k (plainElem P e) b n D) (key : Value) (kl : Lit) (hx : a.eval x = key) (hkey : keyOf P k key = some kl)
  (h : ∀ c : Int, D.atKey kl (.lit (.int q 0)) = .lit (.int q c) → Kc (a.put o.dst (.tuple #[.int q c, .bool (Maps.has D kl)])) W) :
  if Region.wanted o (yielded ops a.tmps) = true then Oper.wp P o a W Kc Q else Kc (a.put o.dst undef) W := by
 rw [if_pos hw]
 obtain ⟨v, ps, hrun, hv⟩ := hown.look_ok K ht hz (plainElem_int (H := Unit) he (by cases q <;> decide)) hkey
 obtain ⟨c, rfl, hc, hwc⟩ := plainElem_int_inv he hv
 unfold Oper.wp
 simp [execOp, hop, hm, hx, hrun, Result.andThen]
 exact h c (congrArg Prod.fst hc)
theorem mup_step {Kc : Act → World → Prop} (hw : Region.wanted o (yielded ops a.tmps) = true) (m x v : Operand) (t k e : TypeId) (hop : o.op = .mapUpdate t m x v) (q : IntKind) (K : Keyed P k) (ht : P.underlying t = some (.map k e)) (he : P.underlying e = some (.int q))
  (b n : Nat) (D : DataW Unit) (hm : a.eval m = .map (some b)) (hown : W.ownsMap P k (plainElem P e) b n D) (hn : n < maxLen) (key : Value) (kl : Lit) (c : Int) (hx : a.eval x = key) (hv : a.eval v = .int q c) (hc : (Lit.int q c).wf = true) (hkey : keyOf P k key = some kl)
  (h : ∀ W1, W1.ownsMap P k (plainElem P e) b (n + 1) (D.put kl (.lit (.int q c))) → W.grownBy W1 (some b) → Kc (a.put o.dst undef) W1) :
  if Region.wanted o (yielded ops a.tmps) = true then Oper.wp P o a W Kc Q else Kc (a.put o.dst undef) W := by
 rw [if_pos hw]
 obtain ⟨w', hrun, r1, r2⟩ := hown.update K ht hn hkey (plainElem_int (H := Unit) he hc)
 unfold Oper.wp
 simp [execOp, hop, hm, hx, hv, hrun, Result.andThen]
 exact h w' r1 r2
end
section
variable {P : Program} {ops : Array Oper} {Q : Exit → Act → World → Prop}
theorem goesV_ {oi : Oper} {N : Option Tmp} {a : Act} {w : World} {K : Act → World → Prop} {g : Nat} {lb : Array Value} {t : Operand} {xs_ : Array Operand} {ts : Array TypeId} (eg : ∀ args w, (callFunc g args).run P w = .ok (.enter g args) w) (args : Array Value)
  (hw : Region.wanted oi (yielded ops a.tmps) = true) (hN : oi.dst = N) (hop : oi.op = .call { callee := .value t, args := xs_, argTypes := ts }) (hv : a.eval t = .func (.func g) #[] lb) (hargs : xs_.map a.eval = args)
  (h : Calls P g (args ++ lb) w fun e w' => ∃ v, e = .returned v ∧ K (a.put N v) w') : if Region.wanted oi (yielded ops a.tmps) = true then Oper.wp P oi a w K Q else K (a.put N undef) w := by
 refine call_ g (args ++ lb) hw hN ?_ h
 unfold execOp
 simp [hop, resolve, Deferred.ofValue, invoke, hv, hargs, eg]
theorem goesLV_ {rest : List Oper} {oi : Oper} {a : Act} {w : World} (N : Option Tmp) (hd : oi.dst = N) (hg : oi.guard = none) {g : Nat} {lb : Array Value} {t : Operand} {xs_ : Array Operand} {ts : Array TypeId} (eg : ∀ args w, (callFunc g args).run P w = .ok (.enter g args) w) (args : Array Value)
  (hop : oi.op = .call { callee := .value t, args := xs_, argTypes := ts }) (hv : a.eval t = .func (.func g) #[] lb) (hargs : xs_.map a.eval = args)
  (h : Calls P g (args ++ lb) w fun e w' => ∃ v, e = .returned v ∧ wpList P ops Q rest (a.put N v) w') : wpList P ops Q (oi :: rest) a w := by
 refine wpList_plain hg fun K hK => ?_
 have hrun : (execOp a.eval oi).run P w = .ok (.enter g (args ++ lb)) w := by
  unfold execOp
  simp [hop, resolve, Deferred.ofValue, invoke, hv, hargs, eg]
 unfold Oper.wp
 rw [hrun, Oper.upon_enter]
 refine h.mono fun e w'' hh => ?_
 obtain ⟨v, rfl, hk⟩ := hh
 subst hd
 exact hK _ _ hk
end
/-- What a search keeps: all but the state's own blocks; the state. -/
structure GrSt (base : Nat) (S : Nat → Prop) (I : World → Prop) (w W : World) : Prop where
 kept : Kept w W S
 below : Below base w W
 st : I W
theorem GrSt.step {base : Nat} {S : Nat → Prop} {I : World → Prop} {w W W' : World} (h : GrSt base S I w W) (hI : ∀ W W', I W → Below W.heap.size W W' → I W') (hbase : base ≤ w.heap.size) (hb : Below W.heap.size W W') : GrSt base S I w W' :=
 ⟨h.kept.below hb, h.below.trans (hb.mono (Nat.le_trans hbase h.kept.1)), hI _ _ h.st hb⟩
theorem GrSt.refl {base : Nat} {S : Nat → Prop} {I : World → Prop} {w : World} (h : I w) : GrSt base S I w w := ⟨Kept.refl _ _, Below.refl _ _, h⟩
theorem GrSt.trans {base : Nat} {S : Nat → Prop} {I I' : World → Prop} {w W W' : World} (h : GrSt base S I w W) (k : Kept W W' S) (b : Below base W W') (i : I' W') : GrSt base S I' w W' :=
 ⟨h.kept.then_ k (fun _ h => .inl h), h.below.trans b, i⟩
mutual
def impl_BestVisit_1.f : Nat → Int → List Int → Int → List Int → List (S82) → Int → Option (Int × Int)
 | 0, _, _, _, _, _, _ => none
 | k + 1, a0, l1, a2, l3_0, l3_1, a3_2 => impl_BestVisit_1.l0 k a0 l1 a2 (-1) 0 l3_0 (l3_0.length : Int) 0 l3_1 a3_2
def impl_BestVisit_1.l0 : Nat → Int → List Int → Int → Int → Int → List Int → Int → Int → List (S82) → Int → Option (Int × Int)
 | 0, _, _, _, _, _, _, _, _, _, _ => none
 | k + 1, x0, x1, x2, x13, x14, x22, x23, x24, xL, xW => if x24 < x23 then (if 0 ≤ x24 then (if x24 < (x22.length : Int) then (if (Go.bits .and .i64 (shr .i64 x0 x24) 1) = 0 then (impl_BestVisit_1.l0 k x0 x1 x2 x13 x14 x22 x23 (wrap64 (x24 + 1)) xL xW) else ((impl_dig.f k xL x1 (rd x22 x24)).bind fun bt381 => ((impl_BestVisit_1.f k (Go.bits .andNot .i64 x0 (shl .i64 1 x24)) bt381.2 (rd x22 x24) x22 xL xW).bind fun bt387 => (if x13 < 0 then (impl_BestVisit_1.l0 k x0 x1 x2 (rd x22 x24) (wrap64 ((wrap64 ((wrap64 (xW * bt381.1)) + (mx (wrap64 ((rd x22 x24) - x2)) (wrap64 (x2 - (rd x22 x24)))))) + bt387.2)) x22 x23 (wrap64 (x24 + 1)) xL xW) else (if (wrap64 ((wrap64 ((wrap64 (xW * bt381.1)) + (mx (wrap64 ((rd x22 x24) - x2)) (wrap64 (x2 - (rd x22 x24)))))) + bt387.2)) < x14 then (impl_BestVisit_1.l0 k x0 x1 x2 (rd x22 x24) (wrap64 ((wrap64 ((wrap64 (xW * bt381.1)) + (mx (wrap64 ((rd x22 x24) - x2)) (wrap64 (x2 - (rd x22 x24)))))) + bt387.2)) x22 x23 (wrap64 (x24 + 1)) xL xW) else (impl_BestVisit_1.l0 k x0 x1 x2 x13 x14 x22 x23 (wrap64 (x24 + 1)) xL xW)))))) else (none)) else (none)) else (some (x13, x14))
end
theorem impl_BestVisit_1.mono_l : ∀ k, (∀ y0 y1 y2 y3 y4 y5, LeO (impl_BestVisit_1.f k y0 y1 y2 y3 y4 y5) (impl_BestVisit_1.f (k + 1) y0 y1 y2 y3 y4 y5)) ∧ (∀ y0 y1 y2 y3 y4 y5 y6 y7 y8 y9, LeO (impl_BestVisit_1.l0 k y0 y1 y2 y3 y4 y5 y6 y7 y8 y9) (impl_BestVisit_1.l0 (k + 1) y0 y1 y2 y3 y4 y5 y6 y7 y8 y9))
 | 0 => ⟨fun _ _ _ _ _ _ r h => by simp [impl_BestVisit_1.f] at h, fun _ _ _ _ _ _ _ _ _ _ r h => by simp [impl_BestVisit_1.l0] at h⟩
 | k + 1 => by
  obtain ⟨ih0, ih1⟩ := impl_BestVisit_1.mono_l k
  refine ⟨?_, ?_⟩ <;> intros <;> (first | unfold impl_BestVisit_1.f | unfold impl_BestVisit_1.l0) <;> repeat' first
   | (with_reducible exact ih1 _ _ _ _ _ _ _ _ _ _)
   | (with_reducible exact ih0 _ _ _ _ _ _)
   | (with_reducible exact impl_dig.mono _ _ _ _)
   | (with_reducible exact LeO.refl _)
   | (with_reducible exact LeO.none _)
   | (with_reducible refine LeO.ite ?_ ?_)
   | (with_reducible refine LeO.bind ?_ (fun _ => ?_))
   | exact ih1 _ _ _ _ _ _ _ _ _ _
   | exact ih0 _ _ _ _ _ _
   | exact LeO.none _
   | refine LeO.ite ?_ ?_
   | refine LeO.bind ?_ (fun _ => ?_)
theorem impl_BestVisit_1.mono : ∀ a0 a1 a2 a3 a4 a5 k, LeO (impl_BestVisit_1.f k a0 a1 a2 a3 a4 a5) (impl_BestVisit_1.f (k + 1) a0 a1 a2 a3 a4 a5) := fun a0 a1 a2 a3 a4 a5 k => (impl_BestVisit_1.mono_l k).1 a0 a1 a2 a3 a4 a5
theorem impl_BestVisit_1.wf_l : ∀ (k : Nat) (x0 : Int) (x1 : List Int) (x2 x13 x14 : Int) (x22 : List Int) (x23 x24 : Int) (xL : List (S82)) (xW : Int) (r : Int × Int), (Lit.int .i64 x14).wf = true → impl_BestVisit_1.l0 k x0 x1 x2 x13 x14 x22 x23 x24 xL xW = some r → (Lit.int .i64 r.2).wf = true
 | 0, _, _, _, _, _, _, _, _, _, _, _, _, h => by simp [impl_BestVisit_1.l0] at h
 | k + 1, x0, x1, x2, x13, x14, x22, x23, x24, xL, xW, r, hw, h => by
  simp only [impl_BestVisit_1.l0] at h
  split at h
  ·split at h
   ·split at h
    ·split at h
     ·exact impl_BestVisit_1.wf_l k _ _ _ _ _ _ _ _ _ _ _ hw h
     ·obtain ⟨bt381, _, h⟩ := Option.bind_eq_some_iff.mp h
      obtain ⟨bt387, _, h⟩ := Option.bind_eq_some_iff.mp h
      split at h
      ·exact impl_BestVisit_1.wf_l k _ _ _ _ _ _ _ _ _ _ _ (wrap64_wf _) h
      ·split at h
       ·exact impl_BestVisit_1.wf_l k _ _ _ _ _ _ _ _ _ _ _ (wrap64_wf _) h
       ·exact impl_BestVisit_1.wf_l k _ _ _ _ _ _ _ _ _ _ _ hw h
    ·simp at h
   ·simp at h
  ·obtain rfl := Option.some.inj h
   exact hw
theorem impl_BestVisit_1.wf {k : Nat} {a0 : Int} {l1 : List Int} {a2 : Int} {l3_0 : List Int} {l3_1 : List (S82)} {a3_2 : Int} {r : Int × Int} (h : impl_BestVisit_1.f k a0 l1 a2 l3_0 l3_1 a3_2 = some r) : (Lit.int .i64 r.2).wf = true := by
 cases k with
 | zero => simp [impl_BestVisit_1.f] at h
 | succ k => exact impl_BestVisit_1.wf_l k _ _ _ _ _ _ _ _ _ _ _ (by decide) h
/-- What has been stored is right. -/
def impl_BestVisit_1.Good (PL : List Int) (ld : Int → List Int) (all : List Int) (lst : List (S82)) (wt : Int) (log : PLog) : Prop :=
 (log.map (·.1)).Nodup ∧ ∀ e ∈ log, e.1.1 ∈ PL ∧ e.1.2 ∈ all ∧ ∃ k b, impl_BestVisit_1.f k e.1.1 (ld e.1.1) e.1.2 all lst wt = some (b, e.2)
def impl_BestVisit_1.St (PL : List Int) (ld : Int → List Int) (all : List Int) (lst : List (S82)) (wt : Int) (b : Nat) (mu : Int → Nat) (LG0 : PLog) (a0 : Int) (W : World) : Prop :=
 ∃ log : PLog, impl_BestVisit_1.Good PL ld all lst wt log ∧ W.ownsMap Try.prog 106 (plainElem (H := Unit) Try.prog 2) b log.length (bagP log) ∧ ∀ e ∈ log, e ∈ LG0 ∨ mu e.1.1 < mu a0
section
variable {P : Program} {K : TypeId} {R : Value → Option (DataW Unit × List MemPlace)} {b n : Nat} {D : DataW Unit} {w : World}
theorem OM_drewN (h : w.ownsMap P K R b n D) (m : Nat) : (w.drewN m).ownsMap P K R b n D := OM_below h (pw_below_drewN (Below.refl _ _) m)
theorem OM_drew (h : w.ownsMap P K R b n D) : w.drew.ownsMap P K R b n D := OM_below h (below_drew1 (Below.refl _ _))
theorem OM_alloc (h : w.ownsMap P K R b n D) (o : Obj) : (w.alloc o).ownsMap P K R b n D := OM_below h ((Below.refl _ _).alloc (Nat.le_refl _) o)
theorem OM_ne (h : w.ownsMap P K R b n D) {g t : Nat} {cs : Array Value} {f : Nat × Nat} (hg : w.heap[g]? = some (.cells cs t f)) : ¬ g = b := by
 rintro rfl
 obtain ⟨es, cl, hb, _⟩ := h
 rw [hb] at hg
 cases hg
end
theorem rd_mem_ {l : List Int} (i : Int) (h0 : 0 ≤ i) (h1 : i < (l.length : Int)) : rd l i ∈ l := (get_mem 0 (by omega)).1
theorem nd_len {α : Type} [DecidableEq α] : ∀ (l m : List α), l.Nodup → (∀ x ∈ l, x ∈ m) → l.length ≤ m.length
 | [], _, _, _ => Nat.zero_le _
 | x :: xs, m, h, hs => by
  rw [List.nodup_cons] at h
  have hx := hs x List.mem_cons_self
  have h2 := nd_len xs (m.erase x) h.2 (fun y hy => (List.mem_erase_of_ne (fun e => h.1 (by rw [← e]; exact hy))).2 (hs y (List.mem_cons_of_mem _ hy)))
  rw [List.length_erase_of_mem hx] at h2
  have := List.length_pos_of_mem hx
  simp only [List.length_cons]
  omega
theorem fm_len {α β : Type} (all : List β) : ∀ PL : List α, (PL.flatMap fun p => all.map fun s => (p, s)).length = PL.length * all.length
 | [] => by simp
 | q :: qs => by rw [List.flatMap_cons, List.length_append, List.length_map, fm_len all qs, List.length_cons, Nat.add_mul, Nat.one_mul, Nat.add_comm]
theorem impl_BestVisit_1.more {k d : Nat} {a0 : Int} {l1 : List Int} {a2 : Int} {l3_0 : List Int} {l3_1 : List (S82)} {a3_2 : Int} {r : Int × Int} (h : impl_BestVisit_1.f k a0 l1 a2 l3_0 l3_1 a3_2 = some r) : impl_BestVisit_1.f (k + d) a0 l1 a2 l3_0 l3_1 a3_2 = some r := by
 induction d with
 | zero => exact h
 | succ d ih => exact impl_BestVisit_1.mono _ _ _ _ _ _ _ _ ih
section
variable {PL : List Int} {ld : Int → List Int} {all : List Int} {lst : List (S82)} {wt : Int} {b : Nat} {mu : Int → Nat} {LG0 LG LG2 : PLog} {a0 : Int}
theorem impl_BestVisit_1.St_below {W W' : World} (h : impl_BestVisit_1.St PL ld all lst wt b mu LG0 a0 W) (hb : Below W.heap.size W W') : impl_BestVisit_1.St PL ld all lst wt b mu LG0 a0 W' := by
 obtain ⟨log, h1, h2, h3⟩ := h
 exact ⟨log, h1, OM_below h2 hb, h3⟩
theorem impl_BestVisit_1.St_up {W : World} {p : Int} (h : impl_BestVisit_1.St PL ld all lst wt b mu LG p W) (hx : ∀ e ∈ LG, e ∈ LG0 ∨ mu e.1.1 < mu a0) (hm : mu p < mu a0) : impl_BestVisit_1.St PL ld all lst wt b mu LG0 a0 W := by
 obtain ⟨log, h1, h2, h3⟩ := h
 refine ⟨log, h1, h2, fun e he => ?_⟩
 rcases h3 e he with h4 | h4
 ·exact hx e h4
 ·exact .inr (Nat.lt_trans h4 hm)
theorem impl_BestVisit_1.same {k k' : Nat} {p : Int} {l1 : List Int} {s : Int} {r r' : Int × Int} (h : impl_BestVisit_1.f k p l1 s all lst wt = some r) (h' : impl_BestVisit_1.f k' p l1 s all lst wt = some r') : r = r' := by
 have e1 := impl_BestVisit_1.more (d := k') h
 have e2 := impl_BestVisit_1.more (d := k) h'
 rw [Nat.add_comm k' k, e1] at e2
 exact Option.some.inj e2
theorem impl_BestVisit_1.found (hG : impl_BestVisit_1.Good PL ld all lst wt LG) {e : (Int × Int) × Int} (he : e ∈ LG) {p s : Int} (hk : e.1 = (p, s)) {c : Int} (hat : (bagP LG).atKey (plL p s) (.lit (.int .i64 0)) = .lit (.int .i64 e.2)) (hc : (bagP LG).atKey (plL p s) (.lit (.int .i64 0)) = .lit (.int .i64 c)) {k : Nat} {r1 v : Int} (hf : impl_BestVisit_1.f k p (ld p) s all lst wt = some (r1, v)) : c = v := by
 obtain ⟨_, _, k', b', h'⟩ := hG.2 e he
 rw [hk] at h'
 have e1 := impl_BestVisit_1.same h' hf
 rw [hat] at hc
 injection hc with hc
 injection hc with _ hc
 injection e1 with _ e1
 exact hc.symm.trans e1
theorem impl_BestVisit_1.room (hPL : PL.length * all.length < maxLen) (hG : impl_BestVisit_1.Good PL ld all lst wt LG) : LG.length < maxLen := by
 have h := nd_len (LG.map (·.1)) (PL.flatMap fun p => all.map fun s => (p, s)) hG.1 (fun x hx => by
  obtain ⟨e, he, rfl⟩ := List.mem_map.1 hx
  obtain ⟨h1, h2, _⟩ := hG.2 e he
  exact List.mem_flatMap.2 ⟨e.1.1, h1, List.mem_map.2 ⟨e.1.2, h2, rfl⟩⟩)
 have h2 := fm_len all PL
 rw [List.length_map, h2] at h
 exact Nat.lt_of_le_of_lt h hPL
theorem impl_BestVisit_1.put {base : Nat} {w W W1 : World} (h : GrSt base (fun k_ => k_ = b) (impl_BestVisit_1.St PL ld all lst wt b mu LG0 a0) w W) (hbase : base ≤ w.heap.size) (hbb : base ≤ b) (hg : W.grownBy W1 (some b)) {p s v : Int}
  (hown : W1.ownsMap Try.prog 106 (plainElem (H := Unit) Try.prog 2) b (LG2.length + 1) ((bagP LG2).put (plL p s) (.lit (.int .i64 v)))) (hG : impl_BestVisit_1.Good PL ld all lst wt LG2) (hx : ∀ e ∈ LG, e ∈ LG0 ∨ mu e.1.1 < mu a0) (hx2 : ∀ e ∈ LG2, e ∈ LG ∨ mu e.1.1 < mu p)
  (hn : ∀ e ∈ LG, e.1 ≠ (p, s)) (hm : mu p < mu a0) (hp : p ∈ PL) (hs : s ∈ all) {k : Nat} {r1 : Int} (hf : impl_BestVisit_1.f k p (ld p) s all lst wt = some (r1, v)) : GrSt base (fun k_ => k_ = b) (impl_BestVisit_1.St PL ld all lst wt b mu LG0 a0) w W1 := by
 have hn2 : ∀ e ∈ LG2, e.1 ≠ (p, s) := fun e he hk => by
  rcases hx2 e he with h1 | h1
  ·exact hn e h1 hk
  ·rw [hk] at h1; exact Nat.lt_irrefl _ h1
 have hkept : Kept W W1 (fun k_ => k_ = b) := ⟨hg.size, fun i hi hnk => hg.block i hi (fun e => hnk (Option.some.inj e))⟩
 refine ⟨h.kept.then_ hkept (fun _ h => .inl h), h.below.grown hg (Nat.le_trans hbase h.kept.1) (fun k hk => by cases hk; exact hbb), LG2 ++ [((p, s), v)], ⟨?_, fun e he => ?_⟩, ?_, fun e he => ?_⟩
 ·rw [List.map_append, List.map_cons, List.map_nil]
  refine List.nodup_append.2 ⟨hG.1, by simp, fun x hx1 y hy => ?_⟩
  rw [List.mem_singleton] at hy
  obtain ⟨e, he, rfl⟩ := List.mem_map.1 hx1
  rw [hy]; exact hn2 e he
 ·rcases List.mem_append.1 he with h1 | h1
  ·exact hG.2 e h1
  ·rw [List.mem_singleton] at h1; subst h1
   exact ⟨hp, hs, k, r1, hf⟩
 ·rw [bagP_snoc, List.length_append]
  exact hown
 ·rcases List.mem_append.1 he with h1 | h1
  ·rcases hx2 e h1 with h2 | h2
   ·exact hx e h2
   ·exact .inr (Nat.lt_trans h2 hm)
  ·rw [List.mem_singleton] at h1; subst h1
   exact .inr hm
end
def impl_BestVisit_1.T8 : Bool × List (List Nat × List Nat) := (true, [([], []), ([], []), ([], []), ([2], [2]), ([1, 3], [1, 3]), ([], []), ([4, 5], [4, 5]), ([0, 6], [0, 6]), ([7], [7]), ([8], [8]), ([8], [8]), ([9, 0, 1, 2, 3, 4, 5, 6, 7, 8, 9], [9]), ([10, 11, 0, 1, 2, 3, 4, 5, 6, 7, 8, 9, 10, 11], [10])])
def impl_BestVisit_1.B8 : List Nat := [0, 0, 0, 4, 14, 0, 62, 127, 255, 511, 511, 1023, 4095]
theorem impl_BestVisit_1.tab8 : rtab .any (opsOf Try.f79 8) = impl_BestVisit_1.T8 := by kernel_rfl
theorem impl_BestVisit_1.bits8 : waitsOk impl_BestVisit_1.T8.2 impl_BestVisit_1.B8 = true := by kernel_rfl
def impl_BestVisit_1.T10 : Bool × List (List Nat × List Nat) := (true, [([], []), ([], []), ([], []), ([2], [2]), ([1, 3], [1, 3]), ([], []), ([], []), ([0, 4, 5, 6], [0, 4, 5, 6]), ([7], [7]), ([8], [8]), ([8], [8]), ([10, 7, 0, 1, 2, 3, 4, 5, 6, 7, 8, 9, 10], [10])])
def impl_BestVisit_1.B10 : List Nat := [0, 0, 0, 4, 14, 0, 0, 127, 255, 511, 511, 2047]
theorem impl_BestVisit_1.tab10 : rtab .any (opsOf Try.f79 10) = impl_BestVisit_1.T10 := by kernel_rfl
theorem impl_BestVisit_1.bits10 : waitsOk impl_BestVisit_1.T10.2 impl_BestVisit_1.B10 = true := by kernel_rfl
def impl_BestVisit_1.T11 : Bool × List (List Nat × List Nat) := (true, [([], []), ([], []), ([], []), ([2], [2]), ([1, 3], [1, 3]), ([], []), ([4, 5], [4, 5]), ([], []), ([0, 6, 7, 0, 1, 2, 3, 4, 5, 6, 7], [0, 6, 7])])
def impl_BestVisit_1.B11 : List Nat := [0, 0, 0, 4, 14, 0, 62, 0, 255]
theorem impl_BestVisit_1.tab11 : rtab .any (opsOf Try.f79 11) = impl_BestVisit_1.T11 := by kernel_rfl
theorem impl_BestVisit_1.bits11 : waitsOk impl_BestVisit_1.T11.2 impl_BestVisit_1.B11 = true := by kernel_rfl
set_option maxHeartbeats 8000000 in
set_option maxRecDepth 100000 in
theorem impl_BestVisit_1.calls (b base : Nat) (PL : List Int) (ld : Int → List Int) (mu : Int → Nat) (w0 : World) (B3_0 B3_1 B3_2 B3_3 B3_4 : Nat) (A3_0 : Option Addr) (c3_0 : Nat) (l3_0 : List Int) (A3_1 : Option Addr) (c3_1 : Nat) (l3_1 : List (S82)) (a3_2 : Int)
  (hr3_0 : ∀ W_, Kept w0 W_ (fun k_ => k_ = b) → Kd.C (Kd.int .i64) W_ A3_0 l3_0.length l3_0) (hc3_0 : l3_0.length ≤ c3_0) (hr3_1 : ∀ W_, Kept w0 W_ (fun k_ => k_ = b) → Kd.C k82 W_ A3_1 l3_1.length l3_1) (hc3_1 : l3_1.length ≤ c3_1)
  (hld : ∀ p, p ∈ PL → ∀ x : Int, 0 ≤ x → x < (l3_0.length : Int) → ¬ (Go.bits .and .i64 (shr .i64 p x) 1) = 0 → ∀ k t r, impl_dig.f k l3_1 (ld p) (rd l3_0 x) = some (t, r) → (Go.bits .andNot .i64 p (shl .i64 1 x)) ∈ PL ∧ mu (Go.bits .andNot .i64 p (shl .i64 1 x)) < mu p ∧ r = ld (Go.bits .andNot .i64 p (shl .i64 1 x)))
  (hPL : PL.length * l3_0.length < maxLen) (hwP : ∀ p ∈ PL, (Lit.int .i64 p).wf = true) (hwA : ∀ s ∈ l3_0, (Lit.int .i64 s).wf = true) (hbw : b < w0.heap.size) (hbb : base ≤ b) :
  ∀ (k : Nat) (w : World) (LG0 : PLog) (a0 : Int) (A1 : Option Addr) (c1 : Nat) (a2 : Int) (r1 r2 : Int), Kept w0 w (fun k_ => k_ = b) → a0 ∈ PL → (∀ W_, Kept w W_ (fun k_ => k_ = b) → Kd.C (Kd.int .i64) W_ A1 (ld a0).length (ld a0)) → (ld a0).length ≤ c1 →
   w.heap[B3_0]? = some (.cells #[.slice A3_0 l3_0.length c3_0] 34 (0, 0)) → w.heap[B3_1]? = some (.cells #[.slice A3_1 l3_1.length c3_1] 37 (0, 0)) → w.heap[B3_2]? = some (.cells #[.int .i64 a3_2] 2 (0, 0)) → w.heap[B3_3]? = some (.cells #[.map (some b)] 102 (0, 0)) → w.heap[B3_4]? = some (.cells #[.func (.func 79) #[] #[.pointer (some ⟨B3_0, 0, none⟩), .pointer (some ⟨B3_1, 0, none⟩), .pointer (some ⟨B3_2, 0, none⟩), .pointer (some ⟨B3_3, 0, none⟩), .pointer (some ⟨B3_4, 0, none⟩)]] 103 (0, 0)) →
   impl_BestVisit_1.Good PL ld l3_0 l3_1 a3_2 LG0 → w.ownsMap Try.prog 106 (plainElem (H := Unit) Try.prog 2) b LG0.length (bagP LG0) → impl_BestVisit_1.f k a0 (ld a0) a2 l3_0 l3_1 a3_2 = some (r1, r2) →
   Calls Try.prog 79 #[.int .i64 a0, .slice A1 (ld a0).length c1, .int .i64 a2, .pointer (some ⟨B3_0, 0, none⟩), .pointer (some ⟨B3_1, 0, none⟩), .pointer (some ⟨B3_2, 0, none⟩), .pointer (some ⟨B3_3, 0, none⟩), .pointer (some ⟨B3_4, 0, none⟩)] w fun e w' => e = .returned (.tuple #[.int .i64 r1, .int .i64 r2]) ∧ Kept w w' (fun k_ => k_ = b) ∧ Below base w w' ∧ impl_BestVisit_1.St PL ld l3_0 l3_1 a3_2 b mu LG0 a0 w' := by
 intro k
 induction k using Nat.strongRecOn with
 | _ k0 ih =>
 intro w LG0 a0 A1 c1 a2 r1 r2 hk0 hp0 hr1 hc1 hkB3_0 hkB3_1 hkB3_2 hkB3_3 hkB3_4 hgd0 hst0 h
 cases k0 with
 | zero => simp [impl_BestVisit_1.f] at h
 | succ k =>
 have hu106 := Try.underlying106
 have HIH := Aside0.mk ih
 have HK0 := Aside0.mk hk0
 have HLD := Aside0.mk hld
 have HRR1 := Aside0.mk hr1
 have HRR0 := Aside0.mk hr3_0
 have HRRL := Aside0.mk hr3_1
 clear ih hk0 hld hr1 hr3_0 hr3_1
 have HC1 := Aside0.mk hc1
 have HC3_0 := Aside0.mk hc3_0
 have HC3_1 := Aside0.mk hc3_1
 clear hc1 hc3_0 hc3_1
 have hbase : base ≤ w.heap.size := Nat.le_trans hbb (Nat.le_of_lt (Nat.lt_of_lt_of_le hbw HK0.out.1))
 have HBB := Aside0.mk hbase
 have HG := Aside0.mk (GrSt.refl (base := base) (S := fun k_ => k_ = b) (I := impl_BestVisit_1.St PL ld l3_0 l3_1 a3_2 b mu LG0 a0) ⟨LG0, hgd0, hst0, fun e_ he_ => .inl he_⟩)
 clear hst0 hgd0 hbase
 have BK375 := Aside0.mk hkB3_0
 have BK376 := Aside0.mk hkB3_1
 have BK377 := Aside0.mk hkB3_2
 have BK378 := Aside0.mk hkB3_3
 have BK379 := Aside0.mk hkB3_4
 clear hkB3_0 hkB3_1 hkB3_2 hkB3_3 hkB3_4
 have HB := Aside0.mk (Below.refl w.heap.size w)
 obtain ⟨l1, hl1⟩ : ∃ l_ : List Int, l_ = ld a0 := ⟨_, rfl⟩
 rw [← hl1] at h HRR1 HC1 ⊢
 have HL1 := Aside0.mk hl1
 clear hl1
 have HPW := Aside0.mk (And.intro hPL (And.intro hwP hwA))
 have HP0 := Aside0.mk hp0
 have HBW := Aside0.mk (And.intro hbw hbb)
 clear hPL hwP hwA hp0 hbw hbb
 have H : (impl_BestVisit_1.l0 k a0 l1 a2 (-1) 0 l3_0 (l3_0.length : Int) 0 l3_1 a3_2) = some (r1, r2) := h
 clear h
 have H' := Aside0.mk H
 clear H
 have hcz5_0 : w.cell? ⟨B3_0, 0, none⟩ = some (.slice A3_0 l3_0.length c3_0) := (blk_cell BK375.out 0).trans rfl
 have hfz5_0 := blk_frozen BK375.out 0
 go_enter Try.func79, Try.ntmps79
 go_wp2
 go_loopg [13, 14, 24] k (fun kq v13 v14 v24 w' => ∃ (x13_1 : Int) (x14_1 : Int) (x24_1 : Int), v13 = .int .i64 x13_1 ∧ v14 = .int .i64 x14_1 ∧ v24 = .int .i64 x24_1 ∧ Aside0 (impl_BestVisit_1.l0 kq a0 l1 a2 x13_1 x14_1 l3_0 (l3_0.length : Int) x24_1 l3_1 a3_2 = some (r1, r2)) ∧ Aside0 (kq ≤ k) ∧ Aside0 (w'.heap[B3_0]? = some (.cells #[(.slice A3_0 l3_0.length c3_0)] 34 (0, 0))) ∧ Aside0 (w'.heap[B3_1]? = some (.cells #[(.slice A3_1 l3_1.length c3_1)] 37 (0, 0))) ∧ Aside0 (w'.heap[B3_2]? = some (.cells #[.int .i64 a3_2] 2 (0, 0))) ∧ Aside0 (w'.heap[B3_3]? = some (.cells #[.map (some b)] 102 (0, 0))) ∧ Aside0 (w'.heap[B3_4]? = some (.cells #[.func (.func 79) #[] #[.pointer (some ⟨B3_0, 0, none⟩), .pointer (some ⟨B3_1, 0, none⟩), .pointer (some ⟨B3_2, 0, none⟩), .pointer (some ⟨B3_3, 0, none⟩), .pointer (some ⟨B3_4, 0, none⟩)]] 103 (0, 0))) ∧ Aside0 (GrSt base (fun k_ => k_ = b) (impl_BestVisit_1.St PL ld l3_0 l3_1 a3_2 b mu LG0 a0) w w'))
 case atStart => exact ⟨((-1)), (0), (0), (by first | rfl | (simp; done) | (simp [*]; done)), (by first | rfl | (simp; done) | (simp [*]; done)), (by first | rfl | (simp; done) | (simp [*]; done)), H', ⟨Nat.le_refl _⟩, ⟨by (with_reducible repeat (first | refine blk_drewN ?_ _ | refine blk_drew ?_ | refine blk_alloc ?_ _)); exact BK375.out⟩, ⟨by (with_reducible repeat (first | refine blk_drewN ?_ _ | refine blk_drew ?_ | refine blk_alloc ?_ _)); exact BK376.out⟩, ⟨by (with_reducible repeat (first | refine blk_drewN ?_ _ | refine blk_drew ?_ | refine blk_alloc ?_ _)); exact BK377.out⟩, ⟨by (with_reducible repeat (first | refine blk_drewN ?_ _ | refine blk_drew ?_ | refine blk_alloc ?_ _)); exact BK378.out⟩, ⟨by (with_reducible repeat (first | refine blk_drewN ?_ _ | refine blk_drew ?_ | refine blk_alloc ?_ _)); exact BK379.out⟩, ⟨HG.out.step (fun _ _ => impl_BestVisit_1.St_below) HBB.out HB.out⟩⟩
 case round =>
  clear H'
  try clear c1
  try clear p2
  try clear c3
  try clear hcz5_0
  try clear hfz5_0
  try clear HG HB
  obtain ⟨x13_1, x14_1, x24_1, rfl, rfl, rfl, HA, HK1, BK375, BK376, BK377, BK378, BK379, HG⟩ := hrel
  have HR1 := Aside0.mk (HRR1.out wr HG.out.kept)
  have HR3_0 := Aside0.mk (HRR0.out wr (HK0.out.then_ HG.out.kept (fun _ h => .inl h)))
  have HR3_1 := Aside0.mk (HRRL.out wr (HK0.out.then_ HG.out.kept (fun _ h => .inl h)))
  have HB := Aside0.mk (Below.refl wr.heap.size wr)
  obtain ⟨LG, hGood, hMap, hExt⟩ := HG.out.st
  have HGD := Aside0.mk hGood
  have HM := Aside0.mk hMap
  have HEX := Aside0.mk hExt
  clear hGood hMap hExt
  cases gk with
  | zero => exact absurd HA.out (by simp [impl_BestVisit_1.l0])
  | succ k1 =>
   have H := HA.out
   clear HA
   simp only [impl_BestVisit_1.l0] at H
   by_cases c6 : x24_1 < (l3_0.length : Int)
   ·rw [if_pos c6] at H
    have c6b0 : decide (x24_1 < (l3_0.length : Int)) = true := decide_eq_true c6
    clear c6
    by_cases c7 : 0 ≤ x24_1
    rotate_left
    ·rw [if_neg c7] at H; exact absurd H (by simp)
    rw [if_pos c7] at H
    have c7b0 : decide (0 ≤ x24_1) = true := decide_eq_true c7
    clear c7
    by_cases c8 : x24_1 < (l3_0.length : Int)
    rotate_left
    ·rw [if_neg c8] at H; exact absurd H (by simp)
    rw [if_pos c8] at H
    have c8b0 : decide (x24_1 < (l3_0.length : Int)) = true := decide_eq_true c8
    clear c8
    have c9b0 := eq_true (odt_ : 0 ≤ x24_1)
    obtain ⟨ji10, hji10⟩ : ∃ j_ : Int, (shr .i64 a0 x24_1) = j_ := ⟨_, rfl⟩
    replace H : (if (Go.bits .and .i64 (ji10) 1) = 0 then (impl_BestVisit_1.l0 k1 a0 l1 a2 x13_1 x14_1 l3_0 (l3_0.length : Int) (wrap64 (x24_1 + 1)) l3_1 a3_2) else ((impl_dig.f k1 l3_1 l1 (rd l3_0 x24_1)).bind fun bt381 => ((impl_BestVisit_1.f k1 (Go.bits .andNot .i64 a0 (shl .i64 1 x24_1)) bt381.2 (rd l3_0 x24_1) l3_0 l3_1 a3_2).bind fun bt387 => (if x13_1 < 0 then (impl_BestVisit_1.l0 k1 a0 l1 a2 (rd l3_0 x24_1) (wrap64 ((wrap64 ((wrap64 (a3_2 * bt381.1)) + (mx (wrap64 ((rd l3_0 x24_1) - a2)) (wrap64 (a2 - (rd l3_0 x24_1)))))) + bt387.2)) l3_0 (l3_0.length : Int) (wrap64 (x24_1 + 1)) l3_1 a3_2) else (if (wrap64 ((wrap64 ((wrap64 (a3_2 * bt381.1)) + (mx (wrap64 ((rd l3_0 x24_1) - a2)) (wrap64 (a2 - (rd l3_0 x24_1)))))) + bt387.2)) < x14_1 then (impl_BestVisit_1.l0 k1 a0 l1 a2 (rd l3_0 x24_1) (wrap64 ((wrap64 ((wrap64 (a3_2 * bt381.1)) + (mx (wrap64 ((rd l3_0 x24_1) - a2)) (wrap64 (a2 - (rd l3_0 x24_1)))))) + bt387.2)) l3_0 (l3_0.length : Int) (wrap64 (x24_1 + 1)) l3_1 a3_2) else (impl_BestVisit_1.l0 k1 a0 l1 a2 x13_1 x14_1 l3_0 (l3_0.length : Int) (wrap64 (x24_1 + 1)) l3_1 a3_2)))))) = some (r1, r2) := by first | (rw [hji10] at H; exact H) | (simp only [hji10] at H ⊢; exact H)
    have hji10_ : (a0 / 2 ^ min x24_1.toNat 64) = ji10 := hji10
    have hji10z : x24_1 ≤ 64 → (a0 / 2 ^ x24_1.toNat) = ji10 := shr_small hji10
    by_cases c11 : (Go.bits .and .i64 (ji10) 1) = 0
    ·rw [if_pos c11] at H
     have c11b0 : ((Go.bits .and .i64 (ji10) 1) == 0) = true := beq_iff_eq.mpr c11
     have c11b1 : ((Go.bits .and .i64 (ji10) 1) != 0) = false := bne_eq_false_iff_eq.mpr c11
     clear c11
     have H' := Aside0.mk H
     clear H
     have p380 : 0 ≤ (x24_1 : Int) := odt_
     have q380 : x24_1 < (l3_0.length : Int) := odt_
     obtain ⟨ad380, e380, hx380_0⟩ := Kd.at_int HR3_0.out x24_1 p380 q380
     cases e380
     replace p380 := eq_true p380
     replace q380 := eq_true q380
     go_wp2
     go_roundg k1
     case measure => have := HK1.out; omega
     case rel => exact ⟨(x13_1), (x14_1), (wrap64 (x24_1 + 1)), (by first | rfl | (simp; done) | (simp [*]; done)), (by first | rfl | (simp; done) | (simp [*]; done)), (by first | rfl | (simp; done) | (simp [*]; done)), H', ⟨by have := HK1.out; omega⟩, ⟨by (with_reducible repeat (first | refine blk_drewN ?_ _ | refine blk_drew ?_ | refine blk_alloc ?_ _)); exact BK375.out⟩, ⟨by (with_reducible repeat (first | refine blk_drewN ?_ _ | refine blk_drew ?_ | refine blk_alloc ?_ _)); exact BK376.out⟩, ⟨by (with_reducible repeat (first | refine blk_drewN ?_ _ | refine blk_drew ?_ | refine blk_alloc ?_ _)); exact BK377.out⟩, ⟨by (with_reducible repeat (first | refine blk_drewN ?_ _ | refine blk_drew ?_ | refine blk_alloc ?_ _)); exact BK378.out⟩, ⟨by (with_reducible repeat (first | refine blk_drewN ?_ _ | refine blk_drew ?_ | refine blk_alloc ?_ _)); exact BK379.out⟩, ⟨HG.out.step (fun _ _ => impl_BestVisit_1.St_below) HBB.out HB.out⟩⟩
    ·rw [if_neg c11] at H
     have c11b0 : ((Go.bits .and .i64 (ji10) 1) == 0) = false := beq_eq_false_iff_ne.mpr c11
     have c11b1 : ((Go.bits .and .i64 (ji10) 1) != 0) = true := bne_iff_ne.mpr c11
     replace H := Option.bind_eq_some_iff.mp H
     obtain ⟨⟨t381, t382⟩, A120, H⟩ := H
     replace H : ((impl_BestVisit_1.f k1 (Go.bits .andNot .i64 a0 (shl .i64 1 x24_1)) t382 (rd l3_0 x24_1) l3_0 l3_1 a3_2).bind fun bt387 => (if x13_1 < 0 then (impl_BestVisit_1.l0 k1 a0 l1 a2 (rd l3_0 x24_1) (wrap64 ((wrap64 ((wrap64 (a3_2 * t381)) + (mx (wrap64 ((rd l3_0 x24_1) - a2)) (wrap64 (a2 - (rd l3_0 x24_1)))))) + bt387.2)) l3_0 (l3_0.length : Int) (wrap64 (x24_1 + 1)) l3_1 a3_2) else (if (wrap64 ((wrap64 ((wrap64 (a3_2 * t381)) + (mx (wrap64 ((rd l3_0 x24_1) - a2)) (wrap64 (a2 - (rd l3_0 x24_1)))))) + bt387.2)) < x14_1 then (impl_BestVisit_1.l0 k1 a0 l1 a2 (rd l3_0 x24_1) (wrap64 ((wrap64 ((wrap64 (a3_2 * t381)) + (mx (wrap64 ((rd l3_0 x24_1) - a2)) (wrap64 (a2 - (rd l3_0 x24_1)))))) + bt387.2)) l3_0 (l3_0.length : Int) (wrap64 (x24_1 + 1)) l3_1 a3_2) else (impl_BestVisit_1.l0 k1 a0 l1 a2 x13_1 x14_1 l3_0 (l3_0.length : Int) (wrap64 (x24_1 + 1)) l3_1 a3_2)))) = some (r1, r2) := H
     have A12 := Aside0.mk A120
     clear A120
     have HN11 := Aside0.mk c11
     replace H := Option.bind_eq_some_iff.mp H
     obtain ⟨⟨t387, t388⟩, A370, H⟩ := H
     replace H : (if x13_1 < 0 then (impl_BestVisit_1.l0 k1 a0 l1 a2 (rd l3_0 x24_1) (wrap64 ((wrap64 ((wrap64 (a3_2 * t381)) + (mx (wrap64 ((rd l3_0 x24_1) - a2)) (wrap64 (a2 - (rd l3_0 x24_1)))))) + t388)) l3_0 (l3_0.length : Int) (wrap64 (x24_1 + 1)) l3_1 a3_2) else (if (wrap64 ((wrap64 ((wrap64 (a3_2 * t381)) + (mx (wrap64 ((rd l3_0 x24_1) - a2)) (wrap64 (a2 - (rd l3_0 x24_1)))))) + t388)) < x14_1 then (impl_BestVisit_1.l0 k1 a0 l1 a2 (rd l3_0 x24_1) (wrap64 ((wrap64 ((wrap64 (a3_2 * t381)) + (mx (wrap64 ((rd l3_0 x24_1) - a2)) (wrap64 (a2 - (rd l3_0 x24_1)))))) + t388)) l3_0 (l3_0.length : Int) (wrap64 (x24_1 + 1)) l3_1 a3_2) else (impl_BestVisit_1.l0 k1 a0 l1 a2 x13_1 x14_1 l3_0 (l3_0.length : Int) (wrap64 (x24_1 + 1)) l3_1 a3_2))) = some (r1, r2) := H
     obtain ⟨ji13, hji13⟩ : ∃ j_ : Int, (mx (wrap64 ((rd l3_0 x24_1) - a2)) (wrap64 (a2 - (rd l3_0 x24_1)))) = j_ := ⟨_, rfl⟩
     replace H : (if x13_1 < 0 then (impl_BestVisit_1.l0 k1 a0 l1 a2 (rd l3_0 x24_1) (wrap64 ((wrap64 ((wrap64 (a3_2 * t381)) + (ji13))) + t388)) l3_0 (l3_0.length : Int) (wrap64 (x24_1 + 1)) l3_1 a3_2) else (if (wrap64 ((wrap64 ((wrap64 (a3_2 * t381)) + (ji13))) + t388)) < x14_1 then (impl_BestVisit_1.l0 k1 a0 l1 a2 (rd l3_0 x24_1) (wrap64 ((wrap64 ((wrap64 (a3_2 * t381)) + (ji13))) + t388)) l3_0 (l3_0.length : Int) (wrap64 (x24_1 + 1)) l3_1 a3_2) else (impl_BestVisit_1.l0 k1 a0 l1 a2 x13_1 x14_1 l3_0 (l3_0.length : Int) (wrap64 (x24_1 + 1)) l3_1 a3_2))) = some (r1, r2) := by first | (rw [hji13] at H; exact H) | (simp only [hji13] at H ⊢; exact H)
     have hji13_ : (if (wrap64 ((rd l3_0 x24_1) - a2)) < (wrap64 (a2 - (rd l3_0 x24_1))) then (wrap64 (a2 - (rd l3_0 x24_1))) else (wrap64 ((rd l3_0 x24_1) - a2))) = ji13 := hji13
     have c14b0 := eq_true (odt_ : 0 ≤ x24_1)
     obtain ⟨ji15, hji15⟩ : ∃ j_ : Int, (shl .i64 1 x24_1) = j_ := ⟨_, rfl⟩
     rw [hji15] at A370
     have hji15_ : (IntKind.i64.wrap (1 * 2 ^ min x24_1.toNat 64)) = ji15 := hji15
     have hji15z : x24_1 ≤ 64 → (IntKind.i64.wrap (1 * 2 ^ x24_1.toNat)) = ji15 := shl_small hji15
     have hji15u : (IntKind.i64.wrap (2 ^ min x24_1.toNat 64)) = ji15 := by have h_ := hji15_; rw [Int.one_mul] at h_; exact h_
     have hji15v : x24_1 ≤ 64 → (IntKind.i64.wrap (2 ^ x24_1.toNat)) = ji15 := fun hle_ => by have h_ := hji15z hle_; rw [Int.one_mul] at h_; exact h_
     have hji15y : (wrap64 (1 * 2 ^ min x24_1.toNat 64)) = ji15 := (i64_w _).symm.trans hji15_
     have hji15x : x24_1 ≤ 64 → (wrap64 (1 * 2 ^ x24_1.toNat)) = ji15 := fun h_ => (i64_w _).symm.trans (hji15z h_)
     obtain ⟨hPn, hMu, hRn⟩ := HLD.out a0 HP0.out x24_1 odt_ odt_ (by rw [hji10]; exact HN11.out) k1 t381 t382 (by rw [← HL1.out]; exact A12.out)
     rw [hji15] at hPn hRn hMu
     have HPN := Aside0.mk hPn
     have HRN := Aside0.mk hRn
     have HMU := Aside0.mk hMu
     clear hPn hRn hMu
     have A37 := Aside0.mk A370
     clear A370
     have HWF : wfP ((Go.bits .andNot .i64 a0 (ji15)), rd l3_0 x24_1) := ⟨HPW.out.2.1 _ HPN.out, HPW.out.2.2 _ (rd_mem_ x24_1 odt_ odt_)⟩
     have HWK := Aside0.mk HWF
     clear HWF c11
     have H' := Aside0.mk H
     clear H
     have p380 : 0 ≤ (x24_1 : Int) := odt_
     have q380 : x24_1 < (l3_0.length : Int) := odt_
     obtain ⟨ad380, e380, hx380_0⟩ := Kd.at_int HR3_0.out x24_1 p380 q380
     cases e380
     replace p380 := eq_true p380
     replace q380 := eq_true q380
     have hcz42_0 : wr.cell? ⟨B3_1, 0, none⟩ = some (.slice A3_1 l3_1.length c3_1) := (blk_cell BK376.out 0).trans rfl
     have hfz42_0 := blk_frozen BK376.out 0
     try go_wp2_with (first | ((with_reducible refine gate_callee (f := 77) rfl ?_); refine goesL_ (some 38) rfl rfl Try.func77 (by kernel_rfl) rfl #[.slice A3_1 l3_1.length c3_1, .slice A1 l1.length c1, .int .i64 (rd l3_0 x24_1)] rfl (by (try simp only [List.map_toArray, List.map_cons, List.map_nil]); first | done | rfl | (simp only [List.length_drop, List.length_take]; rfl)) ?_; (with_reducible refine (impl_dig.calls k1 _ _ l3_1 _ _ l1 (rd l3_0 x24_1) t381 t382 _ ?side1 ?side2 ?side3 ?side4 A12.out).mono ?_); (case side1 => repeat (first | exact (Kd.C_below HR3_1.out HB.out) | (with_reducible refine Kd.C_alloc ?_ _) | (with_reducible refine Kd.C_drewN ?_ _) | (with_reducible refine Kd.C_drew ?_))); (case side2 => exact HC3_1.out); (case side3 => repeat (first | exact (Kd.C_below HR1.out HB.out) | (with_reducible refine Kd.C_alloc ?_ _) | (with_reducible refine Kd.C_drewN ?_ _) | (with_reducible refine Kd.C_drew ?_))); (case side4 => exact HC1.out); rintro e w43 ⟨v383, rfl, ho0, hb⟩; refine ⟨_, rfl, ?_⟩; have n0_ := Aside0.mk (Kd.R_lower (Kd.R_newB (Kd.R_newB (Kd.R_newB ho0 (g := B3_2) (o := .cells #[.int .i64 a3_2] 2 (0, 0)) (by (with_reducible repeat (first | refine blk_drewN ?_ _ | refine blk_drew ?_ | refine blk_alloc ?_ _)); exact BK377.out)) (g := B3_3) (o := .cells #[.map (some b)] 102 (0, 0)) (by (with_reducible repeat (first | refine blk_drewN ?_ _ | refine blk_drew ?_ | refine blk_alloc ?_ _)); exact BK378.out)) (g := B3_4) (o := .cells #[.func (.func 79) #[] #[.pointer (some ⟨B3_0, 0, none⟩), .pointer (some ⟨B3_1, 0, none⟩), .pointer (some ⟨B3_2, 0, none⟩), .pointer (some ⟨B3_3, 0, none⟩), .pointer (some ⟨B3_4, 0, none⟩)]] 103 (0, 0)) (by (with_reducible repeat (first | refine blk_drewN ?_ _ | refine blk_drew ?_ | refine blk_alloc ?_ _)); exact BK379.out)) (below_size (by repeat (first | (with_reducible first | exact HB.out | apply below_alloc | apply pw_below_drewN | apply below_drew1 | refine below_set ?_ GE375.out | refine below_set ?_ GE376.out | refine below_set ?_ GE377.out | refine below_set ?_ GE378.out | refine below_set ?_ GE379.out) | exact HB.out)))); have n1_ := Aside0.mk (blk_below (g := B3_0) (o := .cells #[.slice (some ad380) l3_0.length c3_0] 34 (0, 0)) (by (with_reducible repeat (first | refine blk_drewN ?_ _ | refine blk_drew ?_ | refine blk_alloc ?_ _)); exact BK375.out) hb); have n2_ := Aside0.mk (blk_below (g := B3_1) (o := .cells #[.slice A3_1 l3_1.length c3_1] 37 (0, 0)) (by (with_reducible repeat (first | refine blk_drewN ?_ _ | refine blk_drew ?_ | refine blk_alloc ?_ _)); exact BK376.out) hb); have n3_ := Aside0.mk (blk_below (g := B3_2) (o := .cells #[.int .i64 a3_2] 2 (0, 0)) (by (with_reducible repeat (first | refine blk_drewN ?_ _ | refine blk_drew ?_ | refine blk_alloc ?_ _)); exact BK377.out) hb); have n4_ := Aside0.mk (blk_below (g := B3_3) (o := .cells #[.map (some b)] 102 (0, 0)) (by (with_reducible repeat (first | refine blk_drewN ?_ _ | refine blk_drew ?_ | refine blk_alloc ?_ _)); exact BK378.out) hb); have n5_ := Aside0.mk (blk_below (g := B3_4) (o := .cells #[.func (.func 79) #[] #[.pointer (some ⟨B3_0, 0, none⟩), .pointer (some ⟨B3_1, 0, none⟩), .pointer (some ⟨B3_2, 0, none⟩), .pointer (some ⟨B3_3, 0, none⟩), .pointer (some ⟨B3_4, 0, none⟩)]] 103 (0, 0)) (by (with_reducible repeat (first | refine blk_drewN ?_ _ | refine blk_drew ?_ | refine blk_alloc ?_ _)); exact BK379.out) hb); have nM_ := Aside0.mk (OM_below (by (with_reducible repeat (first | refine OM_drewN ?_ _ | refine OM_drew ?_ | refine OM_alloc ?_ _)); exact HM.out) hb); have n6_ := Aside0.mk (below_step (by repeat (first | (with_reducible first | exact HB.out | apply below_alloc | apply pw_below_drewN | apply below_drew1 | refine below_set ?_ GE375.out | refine below_set ?_ GE376.out | refine below_set ?_ GE377.out | refine below_set ?_ GE378.out | refine below_set ?_ GE379.out) | exact HB.out)) hb); clear BK375; clear BK376; clear BK377; clear BK378; clear BK379; clear HB; have HO384 := n0_; have BK375 := n1_; have BK376 := n2_; have BK377 := n3_; have BK378 := n4_; have BK379 := n5_; have HB := n6_; clear HM; have HM := nM_; clear nM_; clear n0_ n1_ n2_ n3_ n4_ n5_ n6_; (try clear hb); (try clear hb2); (try clear hk); (try clear hi); (try clear ho0); have hcz44_0 : w43.cell? ⟨B3_2, 0, none⟩ = some (.int .i64 a3_2) := (blk_cell BK377.out 0).trans rfl; have hfz44_0 := blk_frozen BK377.out 0))
     have n0_ := Aside0.mk (Kd.R_drew HO384.out)
     have n1_ := Aside0.mk (blk_drew BK375.out)
     have n2_ := Aside0.mk (blk_drew BK376.out)
     have n3_ := Aside0.mk (blk_drew BK377.out)
     have n4_ := Aside0.mk (blk_drew BK378.out)
     have n5_ := Aside0.mk (blk_drew BK379.out)
     have nM_ := Aside0.mk (OM_drew HM.out)
     have n6_ := Aside0.mk (below_drew1 HB.out)
     clear HO384
     clear BK375
     clear BK376
     clear BK377
     clear BK378
     clear BK379
     clear HB
     have HO384 := n0_
     have BK375 := n1_
     have BK376 := n2_
     have BK377 := n3_
     have BK378 := n4_
     have BK379 := n5_
     have HB := n6_
     clear HM
     have HM := nM_
     clear nM_
     clear n0_ n1_ n2_ n3_ n4_ n5_ n6_
     refine start_ (n := 13) (S := fun w' => w'.cell? ⟨B3_3, 0, none⟩ = some (.map (some b))) (ds := []) #[false, false, false, false, false, false, false, false, false, false, false, false, false] (by kernel_rfl) rfl rfl ((blk_cell BK378.out 0).trans rfl) (fun hHeld => ?_); refine with_tabW impl_BestVisit_1.tab8 impl_BestVisit_1.bits8 (fun HT_ HW_ => ?_)
     generalize w43.drew = w45 at HM HO384 BK375 BK376 BK377 BK378 BK379 HB hHeld ⊢
     refine pure_ (i := 1) (N := some 54) (v := ?_) (a' := ?_) #[false, true, false, false, false, false, false, false, false, false, false, false, false] rfl rfl (any_of HT_.out (by kernel_rfl)) (fun _ _ _ h => h) (Or.inl ⟨by rfl, ?_⟩) ?_ ?_
     rotate_left; intro w'; go_simp; with_reducible rfl; rotate_left; simp only [Act.put, sA_, sZ_, sS_, i64_w, i32_w]; rfl
     refine pure_ (i := 2) (N := some 55) (v := ?_) (a' := ?_) #[false, true, true, false, false, false, false, false, false, false, false, false, false] rfl rfl (any_of HT_.out (by kernel_rfl)) (fun _ _ _ h => h) (Or.inl ⟨by rfl, ?_⟩) ?_ ?_
     rotate_left; intro w'; go_simp; with_reducible rfl; rotate_left; simp only [Act.put, sA_, sZ_, sS_, i64_w, i32_w]; rfl
     refine pure_ (i := 3) (N := some 56) (v := ?_) (a' := ?_) #[false, true, true, true, false, false, false, false, false, false, false, false, false] rfl rfl (any_of HT_.out (by kernel_rfl)) (fun _ _ _ h => h) (Or.inl ⟨by rfl, ?_⟩) ?_ ?_
     rotate_left; intro w'; go_simp; with_reducible rfl; rotate_left; simp only [Act.put, sA_, sZ_, sS_, i64_w, i32_w]; rfl
     refine pure_ (i := 4) (N := some 57) (v := ?_) (a' := ?_) #[false, true, true, true, true, false, false, false, false, false, false, false, false] rfl rfl (any_of HT_.out (by kernel_rfl)) (fun _ _ _ h => h) (Or.inl ⟨by rfl, ?_⟩) ?_ ?_
     rotate_left; intro w'; go_simp; with_reducible rfl; rotate_left; simp only [Act.put, sA_, sZ_, sS_, i64_w, i32_w]; rfl
     refine pure_ (i := 5) (N := some 58) (v := ?_) (a' := ?_) #[false, true, true, true, true, true, false, false, false, false, false, false, false] rfl rfl (any_of HT_.out (by kernel_rfl)) (fun _ _ _ h => h) (Or.inl ⟨by rfl, ?_⟩) ?_ ?_
     rotate_left; intro w'; go_simp; with_reducible rfl; rotate_left; simp only [Act.put, sA_, sZ_, sS_, i64_w, i32_w]; rfl
     refine pure_ (i := 6) (N := some 59) (v := ?_) (a' := ?_) #[false, true, true, true, true, true, true, false, false, false, false, false, false] rfl rfl (any_of HT_.out (by kernel_rfl)) (fun _ _ _ h => h) (Or.inl ⟨by rfl, ?_⟩) ?_ ?_
     rotate_left; intro w'; go_simp; with_reducible rfl; rotate_left; simp only [Act.put, sA_, sZ_, sS_, i64_w, i32_w]; rfl
     refine take_ (i := 0) (N := some 53) (v := ?_) (a' := ?_) #[true, true, true, true, true, true, true, false, false, false, false, false, false] rfl rfl (take_ofW HT_.out HW_.out (by kernel_rfl)) (fun _ _ _ h => h) (Or.inl ⟨by rfl, ?_⟩) hHeld ?_ ?_
     rotate_left
     ·intro w' s0
      go_simp
      with_reducible rfl
     rotate_left
     ·simp only [Act.put, sA_, sZ_, sS_, i64_w, i32_w]
      rfl
     refine one_ (i := 7) (N := some 60) #[true, true, true, true, true, true, true, true, false, false, false, false, false] rfl rfl (one_of HT_.out (by kernel_rfl)) (by decide) (fun K hK => ?_)
     have HLK := Aside0.mk (bagP_look HWK.out LG (fun e_ he_ => ⟨HPW.out.2.1 _ (HGD.out.2 e_ he_).1, HPW.out.2.2 _ (HGD.out.2 e_ he_).2.1⟩))
     rcases HLK.out with ⟨e0_, he0_, hk0_, hat0⟩ | ⟨hn0_, hat0⟩
     ·refine lkp_step (by rfl) (.tmp 53) (.tmp 59) 102 106 2 rfl .i64 keyedPl Try.underlying102 Try.underlying2 (zeroPl _) b LG.length (bagP LG) rfl HM.out (plK (Go.bits .andNot .i64 a0 (ji15)) (rd l3_0 x24_1)) (plL (Go.bits .andNot .i64 a0 (ji15)) (rd l3_0 x24_1)) (by first | rfl | (simp only [hji15]; rfl)) (plKey HWK.out) ?_
      intro cM hat_
      rw [Maps.has_true_of_atKey hat0]
      obtain rfl : t388 = cM := (impl_BestVisit_1.found HGD.out he0_ hk0_ (hat0 _) hat_ (by have h_ := A37.out; rw [HRN.out] at h_; exact h_)).symm
      clear hat_ hat0 he0_ hk0_ HLK
      obtain ⟨w46, hw_⟩ : ∃ w_, w_ = w45 := ⟨_, rfl⟩
      rw [← hw_]
      have hb : Below w45.heap.size w45 w46 := by rw [hw_]; exact Below.refl _ _
      clear hw_
      have n0_ := Aside0.mk (Kd.R_below (by (with_reducible repeat (first | apply Kd.R_alloc | apply Kd.R_drewN | apply Kd.R_drew)); exact HO384.out) hb)
      have n1_ := Aside0.mk (blk_below (g := B3_0) (o := .cells #[.slice (some ad380) l3_0.length c3_0] 34 (0, 0)) (by (with_reducible repeat (first | refine blk_drewN ?_ _ | refine blk_drew ?_ | refine blk_alloc ?_ _)); exact BK375.out) hb)
      have n2_ := Aside0.mk (blk_below (g := B3_1) (o := .cells #[.slice A3_1 l3_1.length c3_1] 37 (0, 0)) (by (with_reducible repeat (first | refine blk_drewN ?_ _ | refine blk_drew ?_ | refine blk_alloc ?_ _)); exact BK376.out) hb)
      have n3_ := Aside0.mk (blk_below (g := B3_2) (o := .cells #[.int .i64 a3_2] 2 (0, 0)) (by (with_reducible repeat (first | refine blk_drewN ?_ _ | refine blk_drew ?_ | refine blk_alloc ?_ _)); exact BK377.out) hb)
      have n4_ := Aside0.mk (blk_below (g := B3_3) (o := .cells #[.map (some b)] 102 (0, 0)) (by (with_reducible repeat (first | refine blk_drewN ?_ _ | refine blk_drew ?_ | refine blk_alloc ?_ _)); exact BK378.out) hb)
      have n5_ := Aside0.mk (blk_below (g := B3_4) (o := .cells #[.func (.func 79) #[] #[.pointer (some ⟨B3_0, 0, none⟩), .pointer (some ⟨B3_1, 0, none⟩), .pointer (some ⟨B3_2, 0, none⟩), .pointer (some ⟨B3_3, 0, none⟩), .pointer (some ⟨B3_4, 0, none⟩)]] 103 (0, 0)) (by (with_reducible repeat (first | refine blk_drewN ?_ _ | refine blk_drew ?_ | refine blk_alloc ?_ _)); exact BK379.out) hb)
      have nM_ := Aside0.mk (OM_below (by (with_reducible repeat (first | refine OM_drewN ?_ _ | refine OM_drew ?_ | refine OM_alloc ?_ _)); exact HM.out) hb)
      have n6_ := Aside0.mk (below_step (by repeat (first | (with_reducible first | exact HB.out | apply below_alloc | apply pw_below_drewN | apply below_drew1 | refine below_set ?_ GE375.out | refine below_set ?_ GE376.out | refine below_set ?_ GE377.out | refine below_set ?_ GE378.out | refine below_set ?_ GE379.out) | exact HB.out)) hb)
      clear HO384
      clear BK375
      clear BK376
      clear BK377
      clear BK378
      clear BK379
      clear HB
      have HO384 := n0_
      have BK375 := n1_
      have BK376 := n2_
      have BK377 := n3_
      have BK378 := n4_
      have BK379 := n5_
      have HB := n6_
      clear HM
      have HM := nM_
      clear nM_
      clear n0_ n1_ n2_ n3_ n4_ n5_ n6_
      (try clear hb)
      (try clear hb2)
      (try clear hk)
      (try clear hi)
      refine hK.out _ _ ((blk_cell BK378.out 0).trans rfl) (fun hHeld => ?_)
      clear hK K
      refine norm_ (a' := ?_) ?_ ?_
      rotate_left
      ·show Act.put _ (some 60) _ = _
       simp only [Act.put, sA_, sZ_, sS_, i64_w, i32_w]
       rfl
      refine pure_ (i := 8) (N := some 52) (v := ?_) (a' := ?_) #[true, true, true, true, true, true, true, true, true, false, false, false, false] rfl rfl (any_of HT_.out (by kernel_rfl)) (fun _ _ _ h => h) (Or.inl ⟨by rfl, ?_⟩) ?_ ?_
      rotate_left; intro w'; go_simp; with_reducible rfl; rotate_left; simp only [Act.put, sA_, sZ_, sS_, i64_w, i32_w]; rfl
      refine pure_ (i := 9) (N := some 61) (v := ?_) (a' := ?_) #[true, true, true, true, true, true, true, true, true, true, false, false, false] rfl rfl (any_of HT_.out (by kernel_rfl)) (fun _ _ _ h => h) (Or.inl ⟨by rfl, ?_⟩) ?_ ?_
      rotate_left; intro w'; go_simp; with_reducible rfl; rotate_left; simp only [Act.put, sA_, sZ_, sS_, i64_w, i32_w]; rfl
      refine pure_ (i := 10) (N := some 62) (v := ?_) (a' := ?_) #[true, true, true, true, true, true, true, true, true, true, true, false, false] rfl rfl (any_of HT_.out (by kernel_rfl)) (fun _ _ _ h => h) (Or.inl ⟨by rfl, ?_⟩) ?_ ?_
      rotate_left; intro w'; go_simp; with_reducible rfl; rotate_left; simp only [Act.put, sA_, sZ_, sS_, i64_w, i32_w]; rfl
      refine pure_ (i := 11) (N := some 20) (v := ?_) (a' := ?_) #[true, true, true, true, true, true, true, true, true, true, true, true, false] rfl rfl (any_of HT_.out (by kernel_rfl)) (fun _ _ _ h => h) (Or.inl ⟨by rfl, ?_⟩) ?_ ?_
      rotate_left; intro w'; go_simp; with_reducible rfl; rotate_left; simp only [Act.put, sA_, sZ_, sS_, i64_w, i32_w]; rfl
      refine pure_ (i := 12) (N := some 21) (v := ?_) (a' := ?_) #[true, true, true, true, true, true, true, true, true, true, true, true, true] rfl rfl (any_of HT_.out (by kernel_rfl)) (fun _ _ _ h => h) (Or.inl ⟨by rfl, ?_⟩) ?_ ?_
      rotate_left; intro w'; go_simp; with_reducible rfl; rotate_left; simp only [Act.put, sA_, sZ_, sS_, i64_w, i32_w]; rfl
      refine done_ (done_of HT_.out (by kernel_rfl)) ?_
      have H := H'.out
      clear H'
      by_cases cA1 : x13_1 < 0
      ·rw [if_pos cA1] at H
       have cA1b0 : decide (x13_1 < 0) = true := decide_eq_true cA1
       clear cA1
       have H' := Aside0.mk H
       clear H
       try go_wp2
       go_roundg k1
       case measure => have := HK1.out; omega
       case rel => exact ⟨(rd l3_0 x24_1), (wrap64 ((wrap64 ((wrap64 (a3_2 * t381)) + (ji13))) + t388)), (wrap64 (x24_1 + 1)), (by first | rfl | (simp; done) | (simp [*]; done)), (by first | rfl | (simp; done) | (simp only [← hji13] <;> (first | rfl | simp)) | (simp [*]; done)), (by first | rfl | (simp; done) | (simp [*]; done)), H', ⟨by have := HK1.out; omega⟩, ⟨by (with_reducible repeat (first | refine blk_drewN ?_ _ | refine blk_drew ?_ | refine blk_alloc ?_ _)); exact BK375.out⟩, ⟨by (with_reducible repeat (first | refine blk_drewN ?_ _ | refine blk_drew ?_ | refine blk_alloc ?_ _)); exact BK376.out⟩, ⟨by (with_reducible repeat (first | refine blk_drewN ?_ _ | refine blk_drew ?_ | refine blk_alloc ?_ _)); exact BK377.out⟩, ⟨by (with_reducible repeat (first | refine blk_drewN ?_ _ | refine blk_drew ?_ | refine blk_alloc ?_ _)); exact BK378.out⟩, ⟨by (with_reducible repeat (first | refine blk_drewN ?_ _ | refine blk_drew ?_ | refine blk_alloc ?_ _)); exact BK379.out⟩, ⟨HG.out.step (fun _ _ => impl_BestVisit_1.St_below) HBB.out HB.out⟩⟩
      ·rw [if_neg cA1] at H
       have cA1b0 : decide (x13_1 < 0) = false := decide_eq_false cA1
       clear cA1
       by_cases cA2 : (wrap64 ((wrap64 ((wrap64 (a3_2 * t381)) + (ji13))) + t388)) < x14_1
       ·rw [if_pos cA2] at H
        have cA2b0 : decide ((wrap64 ((wrap64 ((wrap64 (a3_2 * t381)) + (ji13))) + t388)) < x14_1) = true := decide_eq_true cA2
        clear cA2
        have H' := Aside0.mk H
        clear H
        try go_wp2
        go_roundg k1
        case measure => have := HK1.out; omega
        case rel => exact ⟨(rd l3_0 x24_1), (wrap64 ((wrap64 ((wrap64 (a3_2 * t381)) + (ji13))) + t388)), (wrap64 (x24_1 + 1)), (by first | rfl | (simp; done) | (simp [*]; done)), (by first | rfl | (simp; done) | (simp only [← hji13] <;> (first | rfl | simp)) | (simp [*]; done)), (by first | rfl | (simp; done) | (simp [*]; done)), H', ⟨by have := HK1.out; omega⟩, ⟨by (with_reducible repeat (first | refine blk_drewN ?_ _ | refine blk_drew ?_ | refine blk_alloc ?_ _)); exact BK375.out⟩, ⟨by (with_reducible repeat (first | refine blk_drewN ?_ _ | refine blk_drew ?_ | refine blk_alloc ?_ _)); exact BK376.out⟩, ⟨by (with_reducible repeat (first | refine blk_drewN ?_ _ | refine blk_drew ?_ | refine blk_alloc ?_ _)); exact BK377.out⟩, ⟨by (with_reducible repeat (first | refine blk_drewN ?_ _ | refine blk_drew ?_ | refine blk_alloc ?_ _)); exact BK378.out⟩, ⟨by (with_reducible repeat (first | refine blk_drewN ?_ _ | refine blk_drew ?_ | refine blk_alloc ?_ _)); exact BK379.out⟩, ⟨HG.out.step (fun _ _ => impl_BestVisit_1.St_below) HBB.out HB.out⟩⟩
       ·rw [if_neg cA2] at H
        have cA2b0 : decide ((wrap64 ((wrap64 ((wrap64 (a3_2 * t381)) + (ji13))) + t388)) < x14_1) = false := decide_eq_false cA2
        clear cA2
        have H' := Aside0.mk H
        clear H
        try go_wp2
        go_roundg k1
        case measure => have := HK1.out; omega
        case rel => exact ⟨(x13_1), (x14_1), (wrap64 (x24_1 + 1)), (by first | rfl | (simp; done) | (simp [*]; done)), (by first | rfl | (simp; done) | (simp [*]; done)), (by first | rfl | (simp; done) | (simp [*]; done)), H', ⟨by have := HK1.out; omega⟩, ⟨by (with_reducible repeat (first | refine blk_drewN ?_ _ | refine blk_drew ?_ | refine blk_alloc ?_ _)); exact BK375.out⟩, ⟨by (with_reducible repeat (first | refine blk_drewN ?_ _ | refine blk_drew ?_ | refine blk_alloc ?_ _)); exact BK376.out⟩, ⟨by (with_reducible repeat (first | refine blk_drewN ?_ _ | refine blk_drew ?_ | refine blk_alloc ?_ _)); exact BK377.out⟩, ⟨by (with_reducible repeat (first | refine blk_drewN ?_ _ | refine blk_drew ?_ | refine blk_alloc ?_ _)); exact BK378.out⟩, ⟨by (with_reducible repeat (first | refine blk_drewN ?_ _ | refine blk_drew ?_ | refine blk_alloc ?_ _)); exact BK379.out⟩, ⟨HG.out.step (fun _ _ => impl_BestVisit_1.St_below) HBB.out HB.out⟩⟩
     ·refine lkp_step (by rfl) (.tmp 53) (.tmp 59) 102 106 2 rfl .i64 keyedPl Try.underlying102 Try.underlying2 (zeroPl _) b LG.length (bagP LG) rfl HM.out (plK (Go.bits .andNot .i64 a0 (ji15)) (rd l3_0 x24_1)) (plL (Go.bits .andNot .i64 a0 (ji15)) (rd l3_0 x24_1)) (by first | rfl | (simp only [hji15]; rfl)) (plKey HWK.out) ?_
      intro cM hat_
      rw [Maps.has_false_of_atKey hat0]
      have HNN := Aside0.mk hn0_
      clear hat_ hat0 hn0_ HLK
      obtain ⟨w46, hw_⟩ : ∃ w_, w_ = w45 := ⟨_, rfl⟩
      rw [← hw_]
      have hb : Below w45.heap.size w45 w46 := by rw [hw_]; exact Below.refl _ _
      clear hw_
      have n0_ := Aside0.mk (Kd.R_below (by (with_reducible repeat (first | apply Kd.R_alloc | apply Kd.R_drewN | apply Kd.R_drew)); exact HO384.out) hb)
      have n1_ := Aside0.mk (blk_below (g := B3_0) (o := .cells #[.slice (some ad380) l3_0.length c3_0] 34 (0, 0)) (by (with_reducible repeat (first | refine blk_drewN ?_ _ | refine blk_drew ?_ | refine blk_alloc ?_ _)); exact BK375.out) hb)
      have n2_ := Aside0.mk (blk_below (g := B3_1) (o := .cells #[.slice A3_1 l3_1.length c3_1] 37 (0, 0)) (by (with_reducible repeat (first | refine blk_drewN ?_ _ | refine blk_drew ?_ | refine blk_alloc ?_ _)); exact BK376.out) hb)
      have n3_ := Aside0.mk (blk_below (g := B3_2) (o := .cells #[.int .i64 a3_2] 2 (0, 0)) (by (with_reducible repeat (first | refine blk_drewN ?_ _ | refine blk_drew ?_ | refine blk_alloc ?_ _)); exact BK377.out) hb)
      have n4_ := Aside0.mk (blk_below (g := B3_3) (o := .cells #[.map (some b)] 102 (0, 0)) (by (with_reducible repeat (first | refine blk_drewN ?_ _ | refine blk_drew ?_ | refine blk_alloc ?_ _)); exact BK378.out) hb)
      have n5_ := Aside0.mk (blk_below (g := B3_4) (o := .cells #[.func (.func 79) #[] #[.pointer (some ⟨B3_0, 0, none⟩), .pointer (some ⟨B3_1, 0, none⟩), .pointer (some ⟨B3_2, 0, none⟩), .pointer (some ⟨B3_3, 0, none⟩), .pointer (some ⟨B3_4, 0, none⟩)]] 103 (0, 0)) (by (with_reducible repeat (first | refine blk_drewN ?_ _ | refine blk_drew ?_ | refine blk_alloc ?_ _)); exact BK379.out) hb)
      have nM_ := Aside0.mk (OM_below (by (with_reducible repeat (first | refine OM_drewN ?_ _ | refine OM_drew ?_ | refine OM_alloc ?_ _)); exact HM.out) hb)
      have n6_ := Aside0.mk (below_step (by repeat (first | (with_reducible first | exact HB.out | apply below_alloc | apply pw_below_drewN | apply below_drew1 | refine below_set ?_ GE375.out | refine below_set ?_ GE376.out | refine below_set ?_ GE377.out | refine below_set ?_ GE378.out | refine below_set ?_ GE379.out) | exact HB.out)) hb)
      clear HO384
      clear BK375
      clear BK376
      clear BK377
      clear BK378
      clear BK379
      clear HB
      have HO384 := n0_
      have BK375 := n1_
      have BK376 := n2_
      have BK377 := n3_
      have BK378 := n4_
      have BK379 := n5_
      have HB := n6_
      clear HM
      have HM := nM_
      clear nM_
      clear n0_ n1_ n2_ n3_ n4_ n5_ n6_
      (try clear hb)
      (try clear hb2)
      (try clear hk)
      (try clear hi)
      refine hK.out _ _ ((blk_cell BK378.out 0).trans rfl) (fun hHeld => ?_)
      clear hK K
      refine norm_ (a' := ?_) ?_ ?_
      rotate_left
      ·show Act.put _ (some 60) _ = _
       simp only [Act.put, sA_, sZ_, sS_, i64_w, i32_w]
       rfl
      refine pure_ (i := 8) (N := some 52) (v := ?_) (a' := ?_) #[true, true, true, true, true, true, true, true, true, false, false, false, false] rfl rfl (any_of HT_.out (by kernel_rfl)) (fun _ _ _ h => h) (Or.inl ⟨by rfl, ?_⟩) ?_ ?_
      rotate_left; intro w'; go_simp; with_reducible rfl; rotate_left; simp only [Act.put, sA_, sZ_, sS_, i64_w, i32_w]; rfl
      refine pure_ (i := 9) (N := some 61) (v := ?_) (a' := ?_) #[true, true, true, true, true, true, true, true, true, true, false, false, false] rfl rfl (any_of HT_.out (by kernel_rfl)) (fun _ _ _ h => h) (Or.inl ⟨by rfl, ?_⟩) ?_ ?_
      rotate_left; intro w'; go_simp; with_reducible rfl; rotate_left; simp only [Act.put, sA_, sZ_, sS_, i64_w, i32_w]; rfl
      refine pure_ (i := 10) (N := some 62) (v := ?_) (a' := ?_) #[true, true, true, true, true, true, true, true, true, true, true, false, false] rfl rfl (any_of HT_.out (by kernel_rfl)) (fun _ _ _ h => h) (Or.inl ⟨by rfl, ?_⟩) ?_ ?_
      rotate_left; intro w'; go_simp; with_reducible rfl; rotate_left; simp only [Act.put, sA_, sZ_, sS_, i64_w, i32_w]; rfl
      refine pure_ (i := 11) (N := some 20) (v := ?_) (a' := ?_) #[true, true, true, true, true, true, true, true, true, true, true, true, false] rfl rfl (any_of HT_.out (by kernel_rfl)) (fun _ _ _ h => h) (Or.inl ⟨by rfl, ?_⟩) ?_ ?_
      rotate_left; intro w'; go_simp; with_reducible rfl; rotate_left; simp only [Act.put, sA_, sZ_, sS_, i64_w, i32_w]; rfl
      refine pure_ (i := 12) (N := some 21) (v := ?_) (a' := ?_) #[true, true, true, true, true, true, true, true, true, true, true, true, true] rfl rfl (any_of HT_.out (by kernel_rfl)) (fun _ _ _ h => h) (Or.inl ⟨by rfl, ?_⟩) ?_ ?_
      rotate_left; intro w'; go_simp; with_reducible rfl; rotate_left; simp only [Act.put, sA_, sZ_, sS_, i64_w, i32_w]; rfl
      refine done_ (done_of HT_.out (by kernel_rfl)) ?_
      try go_wp2
      have n0_ := Aside0.mk (Kd.R_drew HO384.out)
      have n1_ := Aside0.mk (blk_drew BK375.out)
      have n2_ := Aside0.mk (blk_drew BK376.out)
      have n3_ := Aside0.mk (blk_drew BK377.out)
      have n4_ := Aside0.mk (blk_drew BK378.out)
      have n5_ := Aside0.mk (blk_drew BK379.out)
      have nM_ := Aside0.mk (OM_drew HM.out)
      have n6_ := Aside0.mk (below_drew1 HB.out)
      clear HO384
      clear BK375
      clear BK376
      clear BK377
      clear BK378
      clear BK379
      clear HB
      have HO384 := n0_
      have BK375 := n1_
      have BK376 := n2_
      have BK377 := n3_
      have BK378 := n4_
      have BK379 := n5_
      have HB := n6_
      clear HM
      have HM := nM_
      clear nM_
      clear n0_ n1_ n2_ n3_ n4_ n5_ n6_
      obtain ⟨Ao48, co48, eo48⟩ := Kd.R_slice HO384.out
      (first | subst eo48 | (injection eo48 with f1_ f2_ f3_; have f4_ := f1_.symm; have f5_ := f3_.symm; clear f1_ f2_ f3_; subst f4_; subst f5_))
      refine start_ (n := 12) (S := fun w' => w'.cell? ⟨B3_4, 0, none⟩ = some (.func (.func 79) #[] #[.pointer (some ⟨B3_0, 0, none⟩), .pointer (some ⟨B3_1, 0, none⟩), .pointer (some ⟨B3_2, 0, none⟩), .pointer (some ⟨B3_3, 0, none⟩), .pointer (some ⟨B3_4, 0, none⟩)])) (ds := []) #[false, false, false, false, false, false, false, false, false, false, false, false] (by kernel_rfl) rfl rfl ((blk_cell BK379.out 0).trans rfl) (fun hHeld => ?_); refine with_tabW impl_BestVisit_1.tab10 impl_BestVisit_1.bits10 (fun HT_ HW_ => ?_)
      generalize w46.drew = w47 at HM HO384 BK375 BK376 BK377 BK378 BK379 HB hHeld ⊢
      refine pure_ (i := 1) (N := some 67) (v := ?_) (a' := ?_) #[false, true, false, false, false, false, false, false, false, false, false, false] rfl rfl (any_of HT_.out (by kernel_rfl)) (fun _ _ _ h => h) (Or.inl ⟨by rfl, ?_⟩) ?_ ?_
      rotate_left; intro w'; go_simp; with_reducible rfl; rotate_left; simp only [Act.put, sA_, sZ_, sS_, i64_w, i32_w]; rfl
      refine pure_ (i := 2) (N := some 68) (v := ?_) (a' := ?_) #[false, true, true, false, false, false, false, false, false, false, false, false] rfl rfl (any_of HT_.out (by kernel_rfl)) (fun _ _ _ h => h) (Or.inl ⟨by rfl, ?_⟩) ?_ ?_
      rotate_left; intro w'; go_simp; with_reducible rfl; rotate_left; simp only [Act.put, sA_, sZ_, sS_, i64_w, i32_w]; rfl
      refine pure_ (i := 3) (N := some 69) (v := ?_) (a' := ?_) #[false, true, true, true, false, false, false, false, false, false, false, false] rfl rfl (any_of HT_.out (by kernel_rfl)) (fun _ _ _ h => h) (Or.inl ⟨by rfl, ?_⟩) ?_ ?_
      rotate_left; intro w'; go_simp; with_reducible rfl; rotate_left; simp only [Act.put, sA_, sZ_, sS_, i64_w, i32_w]; rfl
      refine pure_ (i := 4) (N := some 70) (v := ?_) (a' := ?_) #[false, true, true, true, true, false, false, false, false, false, false, false] rfl rfl (any_of HT_.out (by kernel_rfl)) (fun _ _ _ h => h) (Or.inl ⟨by rfl, ?_⟩) ?_ ?_
      rotate_left; intro w'; go_simp; with_reducible rfl; rotate_left; simp only [Act.put, sA_, sZ_, sS_, i64_w, i32_w]; rfl
      refine pure_ (i := 5) (N := some 71) (v := ?_) (a' := ?_) #[false, true, true, true, true, true, false, false, false, false, false, false] rfl rfl (any_of HT_.out (by kernel_rfl)) (fun _ _ _ h => h) (Or.inl ⟨by rfl, ?_⟩) ?_ ?_
      rotate_left; intro w'; go_simp; with_reducible rfl; rotate_left; simp only [Act.put, sA_, sZ_, sS_, i64_w, i32_w]; rfl
      refine pure_ (i := 6) (N := some 72) (v := ?_) (a' := ?_) #[false, true, true, true, true, true, true, false, false, false, false, false] rfl rfl (any_of HT_.out (by kernel_rfl)) (fun _ _ _ h => h) (Or.inl ⟨by rfl, ?_⟩) ?_ ?_
      rotate_left; intro w'; go_simp; with_reducible rfl; rotate_left; simp only [Act.put, sA_, sZ_, sS_, i64_w, i32_w]; rfl
      refine take_ (i := 0) (N := some 66) (v := ?_) (a' := ?_) #[true, true, true, true, true, true, true, false, false, false, false, false] rfl rfl (take_ofW HT_.out HW_.out (by kernel_rfl)) (fun _ _ _ h => h) (Or.inl ⟨by rfl, ?_⟩) hHeld ?_ ?_
      rotate_left
      ·intro w' s0
       go_simp
       with_reducible rfl
      rotate_left
      ·simp only [Act.put, sA_, sZ_, sS_, i64_w, i32_w]
       rfl
      refine one_ (i := 7) (N := some 73) #[true, true, true, true, true, true, true, true, false, false, false, false] rfl rfl (one_of HT_.out (by kernel_rfl)) (by decide) (fun K hK => ?_)
      refine goesV_ (g := 79) (lb := #[.pointer (some ⟨B3_0, 0, none⟩), .pointer (some ⟨B3_1, 0, none⟩), .pointer (some ⟨B3_2, 0, none⟩), .pointer (some ⟨B3_3, 0, none⟩), .pointer (some ⟨B3_4, 0, none⟩)]) (enters_ Try.func79 (by kernel_rfl) rfl) #[.int .i64 (Go.bits .andNot .i64 a0 (ji15)), .slice Ao48 t382.length co48, .int .i64 (rd l3_0 x24_1)] (by rfl) rfl rfl (by rfl) (by (try simp only [List.map_toArray, List.map_cons, List.map_nil]); first | done | (simp only [hji15]; rfl) | rfl) ?_
      have HG1 := HG.out.step (fun _ _ => impl_BestVisit_1.St_below) HBB.out HB.out
      have hRN := HRN.out
      have hho_ := HO384.out
      rw [hRN] at hho_
      have hbk0 : ¬ B3_0 = b := OM_ne HM.out BK375.out
      have hbk1 : ¬ B3_1 = b := OM_ne HM.out BK376.out
      have hbk2 : ¬ B3_2 = b := OM_ne HM.out BK377.out
      have hbk3 : ¬ B3_3 = b := OM_ne HM.out BK378.out
      have hbk4 : ¬ B3_4 = b := OM_ne HM.out BK379.out
      have hlt_ : b < wr.heap.size := Nat.lt_of_lt_of_le HBW.out.1 (Nat.le_trans HK0.out.1 HG.out.kept.1)
      rw [show t382.length = (ld (Go.bits .andNot .i64 a0 (ji15))).length by rw [hRN]]
      refine calls_of_args (by simp) ((HIH.out k1 (by have := HK1.out; omega) w47 LG (Go.bits .andNot .i64 a0 (ji15)) Ao48 co48 (rd l3_0 x24_1) t387 t388 ((HK0.out.then_ HG1.kept (fun _ h => .inl h))) HPN.out (fun W_ hW_ => (Kd.R_reads' (Kd.R_kept (Kd.R_mono (Kd.R_bound hho_) (fun k_ hk_ hs_ => by have h1_ := hk_.2.1; have h2_ := hlt_; subst hs_; omega)) hW_ (fun _ h => h))).2.2) (by have h_ := (Kd.R_reads' hho_).2.1; exact h_) BK375.out BK376.out BK377.out BK378.out BK379.out HGD.out HM.out (by rw [← hRN]; exact A37.out)).mono ?_)
      rintro e w49 ⟨rfl, hkp, hbl, hst⟩
      refine ⟨_, rfl, ?_⟩
      have HG2 := Aside0.mk (HG1.trans hkp hbl (impl_BestVisit_1.St_up hst HEX.out HMU.out))
      have n1_ := Aside0.mk (blk_kept BK375.out hkp hbk0)
      have n2_ := Aside0.mk (blk_kept BK376.out hkp hbk1)
      have n3_ := Aside0.mk (blk_kept BK377.out hkp hbk2)
      have n4_ := Aside0.mk (blk_kept BK378.out hkp hbk3)
      have n5_ := Aside0.mk (blk_kept BK379.out hkp hbk4)
      clear BK375 BK376 BK377 BK378 BK379 HB HO384 HM hho_
      have BK375 := n1_
      have BK376 := n2_
      have BK377 := n3_
      have BK378 := n4_
      have BK379 := n5_
      have HB := Aside0.mk (Below.refl w49.heap.size w49)
      obtain ⟨LG2, hGood2, hMap2, hExt2⟩ := hst
      have HGD2 := Aside0.mk hGood2
      have HEX2 := Aside0.mk hExt2
      have HM := Aside0.mk hMap2
      clear hExt2 n1_ n2_ n3_ n4_ n5_ hGood2 hMap2 hkp hbl HG1
      refine hK.out _ _ ((blk_cell BK379.out 0).trans rfl) (fun hHeld => ?_)
      clear hK K
      refine norm_ (a' := ?_) ?_ ?_
      rotate_left
      ·show Act.put _ (some 73) _ = _
       simp only [Act.put, sA_, sZ_, sS_, i64_w, i32_w]
       rfl
      refine pure_ (i := 8) (N := some 65) (v := ?_) (a' := ?_) #[true, true, true, true, true, true, true, true, true, false, false, false] rfl rfl (any_of HT_.out (by kernel_rfl)) (fun _ _ _ h => h) (Or.inl ⟨by rfl, ?_⟩) ?_ ?_
      rotate_left; intro w'; go_simp; with_reducible rfl; rotate_left; simp only [Act.put, sA_, sZ_, sS_, i64_w, i32_w]; rfl
      refine pure_ (i := 9) (N := some 74) (v := ?_) (a' := ?_) #[true, true, true, true, true, true, true, true, true, true, false, false] rfl rfl (any_of HT_.out (by kernel_rfl)) (fun _ _ _ h => h) (Or.inl ⟨by rfl, ?_⟩) ?_ ?_
      rotate_left; intro w'; go_simp; with_reducible rfl; rotate_left; simp only [Act.put, sA_, sZ_, sS_, i64_w, i32_w]; rfl
      refine pure_ (i := 10) (N := some 75) (v := ?_) (a' := ?_) #[true, true, true, true, true, true, true, true, true, true, true, false] rfl rfl (any_of HT_.out (by kernel_rfl)) (fun _ _ _ h => h) (Or.inl ⟨by rfl, ?_⟩) ?_ ?_
      rotate_left; intro w'; go_simp; with_reducible rfl; rotate_left; simp only [Act.put, sA_, sZ_, sS_, i64_w, i32_w]; rfl
      refine pure_ (i := 11) (N := some 20) (v := ?_) (a' := ?_) #[true, true, true, true, true, true, true, true, true, true, true, true] rfl rfl (any_of HT_.out (by kernel_rfl)) (fun _ _ _ h => h) (Or.inl ⟨by rfl, ?_⟩) ?_ ?_
      rotate_left; intro w'; go_simp; with_reducible rfl; rotate_left; simp only [Act.put, sA_, sZ_, sS_, i64_w, i32_w]; rfl
      refine done_ (done_of HT_.out (by kernel_rfl)) ?_
      try go_wp2
      have n1_ := Aside0.mk (blk_drew BK375.out)
      have n2_ := Aside0.mk (blk_drew BK376.out)
      have n3_ := Aside0.mk (blk_drew BK377.out)
      have n4_ := Aside0.mk (blk_drew BK378.out)
      have n5_ := Aside0.mk (blk_drew BK379.out)
      have nM_ := Aside0.mk (OM_drew HM.out)
      have n6_ := Aside0.mk (below_drew1 HB.out)
      clear BK375
      clear BK376
      clear BK377
      clear BK378
      clear BK379
      clear HB
      have BK375 := n1_
      have BK376 := n2_
      have BK377 := n3_
      have BK378 := n4_
      have BK379 := n5_
      have HB := n6_
      clear HM
      have HM := nM_
      clear nM_
      clear n1_ n2_ n3_ n4_ n5_ n6_
      refine start_ (n := 9) (S := fun w' => w'.cell? ⟨B3_3, 0, none⟩ = some (.map (some b))) (ds := []) #[false, false, false, false, false, false, false, false, false] (by kernel_rfl) rfl rfl ((blk_cell BK378.out 0).trans rfl) (fun hHeld => ?_); refine with_tabW impl_BestVisit_1.tab11 impl_BestVisit_1.bits11 (fun HT_ HW_ => ?_)
      generalize w49.drew = w50 at HM BK375 BK376 BK377 BK378 BK379 HB hHeld ⊢
      refine pure_ (i := 1) (N := some 77) (v := ?_) (a' := ?_) #[false, true, false, false, false, false, false, false, false] rfl rfl (any_of HT_.out (by kernel_rfl)) (fun _ _ _ h => h) (Or.inl ⟨by rfl, ?_⟩) ?_ ?_
      rotate_left; intro w'; go_simp; with_reducible rfl; rotate_left; simp only [Act.put, sA_, sZ_, sS_, i64_w, i32_w]; rfl
      refine pure_ (i := 2) (N := some 78) (v := ?_) (a' := ?_) #[false, true, true, false, false, false, false, false, false] rfl rfl (any_of HT_.out (by kernel_rfl)) (fun _ _ _ h => h) (Or.inl ⟨by rfl, ?_⟩) ?_ ?_
      rotate_left; intro w'; go_simp; with_reducible rfl; rotate_left; simp only [Act.put, sA_, sZ_, sS_, i64_w, i32_w]; rfl
      refine pure_ (i := 3) (N := some 79) (v := ?_) (a' := ?_) #[false, true, true, true, false, false, false, false, false] rfl rfl (any_of HT_.out (by kernel_rfl)) (fun _ _ _ h => h) (Or.inl ⟨by rfl, ?_⟩) ?_ ?_
      rotate_left; intro w'; go_simp; with_reducible rfl; rotate_left; simp only [Act.put, sA_, sZ_, sS_, i64_w, i32_w]; rfl
      refine pure_ (i := 4) (N := some 80) (v := ?_) (a' := ?_) #[false, true, true, true, true, false, false, false, false] rfl rfl (any_of HT_.out (by kernel_rfl)) (fun _ _ _ h => h) (Or.inl ⟨by rfl, ?_⟩) ?_ ?_
      rotate_left; intro w'; go_simp; with_reducible rfl; rotate_left; simp only [Act.put, sA_, sZ_, sS_, i64_w, i32_w]; rfl
      refine pure_ (i := 5) (N := some 81) (v := ?_) (a' := ?_) #[false, true, true, true, true, true, false, false, false] rfl rfl (any_of HT_.out (by kernel_rfl)) (fun _ _ _ h => h) (Or.inl ⟨by rfl, ?_⟩) ?_ ?_
      rotate_left; intro w'; go_simp; with_reducible rfl; rotate_left; simp only [Act.put, sA_, sZ_, sS_, i64_w, i32_w]; rfl
      refine pure_ (i := 6) (N := some 82) (v := ?_) (a' := ?_) #[false, true, true, true, true, true, true, false, false] rfl rfl (any_of HT_.out (by kernel_rfl)) (fun _ _ _ h => h) (Or.inl ⟨by rfl, ?_⟩) ?_ ?_
      rotate_left; intro w'; go_simp; with_reducible rfl; rotate_left; simp only [Act.put, sA_, sZ_, sS_, i64_w, i32_w]; rfl
      refine pure_ (i := 7) (N := some 83) (v := ?_) (a' := ?_) #[false, true, true, true, true, true, true, true, false] rfl rfl (any_of HT_.out (by kernel_rfl)) (fun _ _ _ h => h) (Or.inl ⟨by rfl, ?_⟩) ?_ ?_
      rotate_left; intro w'; go_simp; with_reducible rfl; rotate_left; simp only [Act.put, sA_, sZ_, sS_, i64_w, i32_w]; rfl
      refine take_ (i := 0) (N := some 76) (v := ?_) (a' := ?_) #[true, true, true, true, true, true, true, true, false] rfl rfl (take_ofW HT_.out HW_.out (by kernel_rfl)) (fun _ _ _ h => h) (Or.inl ⟨by rfl, ?_⟩) hHeld ?_ ?_
      rotate_left
      ·intro w' s0
       go_simp
       with_reducible rfl
      rotate_left
      ·simp only [Act.put, sA_, sZ_, sS_, i64_w, i32_w]
       rfl
      refine one_ (i := 8) (N := none) #[true, true, true, true, true, true, true, true, true] rfl rfl (one_of HT_.out (by kernel_rfl)) (by decide) (fun K hK => ?_)
      have HG3 := Aside0.mk (HG2.out.step (fun _ _ => impl_BestVisit_1.St_below) HBB.out HB.out)
      have hfull := impl_BestVisit_1.room HPW.out.1 HGD2.out
      refine mup_step (by rfl) (.tmp 76) (.tmp 82) (.tmp 83) 102 106 2 rfl .i64 keyedPl Try.underlying102 Try.underlying2 b LG2.length (bagP LG2) rfl HM.out ?mN (plK (Go.bits .andNot .i64 a0 (ji15)) (rd l3_0 x24_1)) (plL (Go.bits .andNot .i64 a0 (ji15)) (rd l3_0 x24_1)) t388 (by first | rfl | (simp only [hji15]; rfl)) rfl (impl_BestVisit_1.wf A37.out) (plKey HWK.out) ?_
      case mN => exact hfull
      intro w51 hown hg
      have n1_ := Aside0.mk (blk_grown (g := B3_0) BK375.out hg (fun e_ => hbk0 (Option.some.inj e_)))
      have n2_ := Aside0.mk (blk_grown (g := B3_1) BK376.out hg (fun e_ => hbk1 (Option.some.inj e_)))
      have n3_ := Aside0.mk (blk_grown (g := B3_2) BK377.out hg (fun e_ => hbk2 (Option.some.inj e_)))
      have n4_ := Aside0.mk (blk_grown (g := B3_3) BK378.out hg (fun e_ => hbk3 (Option.some.inj e_)))
      have n5_ := Aside0.mk (blk_grown (g := B3_4) BK379.out hg (fun e_ => hbk4 (Option.some.inj e_)))
      have HG4 := Aside0.mk (impl_BestVisit_1.put HG3.out HBB.out HBW.out.2 hg hown HGD2.out HEX.out HEX2.out HNN.out HMU.out HPN.out (rd_mem_ x24_1 odt_ odt_) (by have h_ := A37.out; rw [HRN.out] at h_; exact h_))
      clear BK375 BK376 BK377 BK378 BK379 HB HM HG2 HG3 hown hg
      have BK375 := n1_
      have BK376 := n2_
      have BK377 := n3_
      have BK378 := n4_
      have BK379 := n5_
      have HB := Aside0.mk (Below.refl w51.heap.size w51)
      clear n1_ n2_ n3_ n4_ n5_
      refine hK.out _ _ ((blk_cell BK378.out 0).trans rfl) (fun hHeld => ?_)
      clear hK K
      refine done_ (done_of HT_.out (by kernel_rfl)) ?_
      have H := H'.out
      clear H'
      by_cases cA1 : x13_1 < 0
      ·rw [if_pos cA1] at H
       have cA1b0 : decide (x13_1 < 0) = true := decide_eq_true cA1
       clear cA1
       have H' := Aside0.mk H
       clear H
       try go_wp2
       go_roundg k1
       case measure => have := HK1.out; omega
       case rel => exact ⟨(rd l3_0 x24_1), (wrap64 ((wrap64 ((wrap64 (a3_2 * t381)) + (ji13))) + t388)), (wrap64 (x24_1 + 1)), (by first | rfl | (simp; done) | (simp [*]; done)), (by first | rfl | (simp; done) | (simp only [← hji13] <;> (first | rfl | simp)) | (simp [*]; done)), (by first | rfl | (simp; done) | (simp [*]; done)), H', ⟨by have := HK1.out; omega⟩, ⟨by (with_reducible repeat (first | refine blk_drewN ?_ _ | refine blk_drew ?_ | refine blk_alloc ?_ _)); exact BK375.out⟩, ⟨by (with_reducible repeat (first | refine blk_drewN ?_ _ | refine blk_drew ?_ | refine blk_alloc ?_ _)); exact BK376.out⟩, ⟨by (with_reducible repeat (first | refine blk_drewN ?_ _ | refine blk_drew ?_ | refine blk_alloc ?_ _)); exact BK377.out⟩, ⟨by (with_reducible repeat (first | refine blk_drewN ?_ _ | refine blk_drew ?_ | refine blk_alloc ?_ _)); exact BK378.out⟩, ⟨by (with_reducible repeat (first | refine blk_drewN ?_ _ | refine blk_drew ?_ | refine blk_alloc ?_ _)); exact BK379.out⟩, ⟨HG4.out.step (fun _ _ => impl_BestVisit_1.St_below) HBB.out HB.out⟩⟩
      ·rw [if_neg cA1] at H
       have cA1b0 : decide (x13_1 < 0) = false := decide_eq_false cA1
       clear cA1
       by_cases cA2 : (wrap64 ((wrap64 ((wrap64 (a3_2 * t381)) + (ji13))) + t388)) < x14_1
       ·rw [if_pos cA2] at H
        have cA2b0 : decide ((wrap64 ((wrap64 ((wrap64 (a3_2 * t381)) + (ji13))) + t388)) < x14_1) = true := decide_eq_true cA2
        clear cA2
        have H' := Aside0.mk H
        clear H
        try go_wp2
        go_roundg k1
        case measure => have := HK1.out; omega
        case rel => exact ⟨(rd l3_0 x24_1), (wrap64 ((wrap64 ((wrap64 (a3_2 * t381)) + (ji13))) + t388)), (wrap64 (x24_1 + 1)), (by first | rfl | (simp; done) | (simp [*]; done)), (by first | rfl | (simp; done) | (simp only [← hji13] <;> (first | rfl | simp)) | (simp [*]; done)), (by first | rfl | (simp; done) | (simp [*]; done)), H', ⟨by have := HK1.out; omega⟩, ⟨by (with_reducible repeat (first | refine blk_drewN ?_ _ | refine blk_drew ?_ | refine blk_alloc ?_ _)); exact BK375.out⟩, ⟨by (with_reducible repeat (first | refine blk_drewN ?_ _ | refine blk_drew ?_ | refine blk_alloc ?_ _)); exact BK376.out⟩, ⟨by (with_reducible repeat (first | refine blk_drewN ?_ _ | refine blk_drew ?_ | refine blk_alloc ?_ _)); exact BK377.out⟩, ⟨by (with_reducible repeat (first | refine blk_drewN ?_ _ | refine blk_drew ?_ | refine blk_alloc ?_ _)); exact BK378.out⟩, ⟨by (with_reducible repeat (first | refine blk_drewN ?_ _ | refine blk_drew ?_ | refine blk_alloc ?_ _)); exact BK379.out⟩, ⟨HG4.out.step (fun _ _ => impl_BestVisit_1.St_below) HBB.out HB.out⟩⟩
       ·rw [if_neg cA2] at H
        have cA2b0 : decide ((wrap64 ((wrap64 ((wrap64 (a3_2 * t381)) + (ji13))) + t388)) < x14_1) = false := decide_eq_false cA2
        clear cA2
        have H' := Aside0.mk H
        clear H
        try go_wp2
        go_roundg k1
        case measure => have := HK1.out; omega
        case rel => exact ⟨(x13_1), (x14_1), (wrap64 (x24_1 + 1)), (by first | rfl | (simp; done) | (simp [*]; done)), (by first | rfl | (simp; done) | (simp [*]; done)), (by first | rfl | (simp; done) | (simp [*]; done)), H', ⟨by have := HK1.out; omega⟩, ⟨by (with_reducible repeat (first | refine blk_drewN ?_ _ | refine blk_drew ?_ | refine blk_alloc ?_ _)); exact BK375.out⟩, ⟨by (with_reducible repeat (first | refine blk_drewN ?_ _ | refine blk_drew ?_ | refine blk_alloc ?_ _)); exact BK376.out⟩, ⟨by (with_reducible repeat (first | refine blk_drewN ?_ _ | refine blk_drew ?_ | refine blk_alloc ?_ _)); exact BK377.out⟩, ⟨by (with_reducible repeat (first | refine blk_drewN ?_ _ | refine blk_drew ?_ | refine blk_alloc ?_ _)); exact BK378.out⟩, ⟨by (with_reducible repeat (first | refine blk_drewN ?_ _ | refine blk_drew ?_ | refine blk_alloc ?_ _)); exact BK379.out⟩, ⟨HG4.out.step (fun _ _ => impl_BestVisit_1.St_below) HBB.out HB.out⟩⟩
   ·rw [if_neg c6] at H
    have c6b0 : decide (x24_1 < (l3_0.length : Int)) = false := decide_eq_false c6
    clear c6
    simp only [Option.some.injEq, Prod.mk.injEq] at H
    obtain ⟨rfl, rfl⟩ := H
    go_wp2
    go_ret2
    exact ⟨by first | rfl | (simp [errW_none, errW_some] <;> rfl) | (simp [*, errW_none, errW_some] <;> rfl), (HG.out.step (fun _ _ => impl_BestVisit_1.St_below) HBB.out HB.out).kept, (HG.out.step (fun _ _ => impl_BestVisit_1.St_below) HBB.out HB.out).below, (HG.out.step (fun _ _ => impl_BestVisit_1.St_below) HBB.out HB.out).st⟩

end Go.Proofs.Ytihnefkkgbokcaa.Q
