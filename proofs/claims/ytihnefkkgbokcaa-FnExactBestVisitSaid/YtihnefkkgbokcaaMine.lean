
/- Words that the hand-proved contracts and the pure proofs share: the first place at which a predicate holds, a number within bounds. -/
import Derived.Shelf.Abstract
import Derived.Lib.SliceRun
import Derived.Test.YtihnefkkgbokcaaWWords
import Derived.Test.YtihnefkkgbokcaaWLast
import Derived.Test.YtihnefkkgbokcaaWMore
set_option linter.unusedVariables false
namespace Go.Proofs.YtihnefkkgbokcaaMine
open Go.RowKit Go.Proofs.YtihnefkkgbokcaaW.PrintWords

def findO {α : Type} (p : α → Option Bool) : List α → Option Int
 | [] => some (-1)
 | x :: xs => (p x).bind fun b => if b = true then some 0 else (findO p xs).bind fun i => if i < 0 then some (-1) else some (i + 1)
def anyO {α : Type} (p : α → Option Bool) (l : List α) : Option Bool := (findO p l).bind fun i => some (decide (0 ≤ i))
theorem findO_miss {α : Type} (p : α → Option Bool) : ∀ (l : List α) (r : Int), (∀ x ∈ l, p x = some false) → findO p l = some r → r = -1
 | [], r, _, h => by simp [findO] at h; exact h.symm
 | x :: xs, r, hx, h => by
  have h1 := hx x List.mem_cons_self
  unfold findO at h
  rw [h1] at h
  simp only [Option.bind_some, Bool.false_eq_true, if_false] at h
  obtain ⟨i, hi, h⟩ := Option.bind_eq_some_iff.1 h
  have h2 := findO_miss p xs i (fun y hy => hx y (List.mem_cons_of_mem _ hy)) hi
  subst h2
  simp at h; exact h.symm
theorem findO_hit {α : Type} (p : α → Option Bool) : ∀ (l : List α) (k : Nat) (y : α) (r : Int), l[k]? = some y → p y = some true → (∀ x ∈ l.take k, p x = some false) → findO p l = some r → r = (k : Int)
 | [], k, y, r, h, _, _, _ => by simp at h
 | x :: xs, 0, y, r, h, hy, _, hf => by
  simp only [List.getElem?_cons_zero, Option.some.injEq] at h
  subst h
  unfold findO at hf; rw [hy] at hf; simp at hf; exact hf.symm
 | x :: xs, k + 1, y, r, h, hy, hb, hf => by
  have h1 := hb x (by simp)
  unfold findO at hf; rw [h1] at hf
  simp only [Option.bind_some, Bool.false_eq_true, if_false] at hf
  obtain ⟨i, hi, hf⟩ := Option.bind_eq_some_iff.1 hf
  have h2 := findO_hit p xs k y i (by simpa using h) hy (fun z hz => hb z (by simp; exact .inr hz)) hi
  subst h2
  rw [if_neg (by omega)] at hf
  have := Option.some.inj hf
  omega
theorem findO_at {α : Type} (p : α → Option Bool) : ∀ (l : List α) (k : Nat) (y : α) (r : Int), l[k]? = some y → (∀ x ∈ l.take k, p x = some false) → findO p l = some r → ∃ b, p y = some b
 | [], k, y, r, h, _, _ => by simp at h
 | x :: xs, 0, y, r, h, _, hf => by
  simp only [List.getElem?_cons_zero, Option.some.injEq] at h
  subst h
  unfold findO at hf
  obtain ⟨b, hb, _⟩ := Option.bind_eq_some_iff.1 hf
  exact ⟨b, hb⟩
 | x :: xs, k + 1, y, r, h, hb, hf => by
  have h1 := hb x (by simp)
  unfold findO at hf; rw [h1] at hf
  simp only [Option.bind_some, Bool.false_eq_true, if_false] at hf
  obtain ⟨i, hi, _⟩ := Option.bind_eq_some_iff.1 hf
  exact findO_at p xs k y i (by simpa using h) (fun z hz => hb z (by simp; exact .inr hz)) hi
def findI {α : Type} (p : α → Bool) : List α → Int
 | [] => -1
 | x :: xs => if p x then 0 else (if findI p xs < 0 then -1 else findI p xs + 1)
theorem findO_of {α : Type} {p : α → Option Bool} {q : α → Bool} : ∀ l : List α, (∀ x ∈ l, p x = some (q x)) → findO p l = some (findI q l)
 | [], _ => rfl
 | x :: xs, h => by
  have h1 := h x List.mem_cons_self
  have h2 := findO_of xs (fun y hy => h y (List.mem_cons_of_mem _ hy))
  unfold findO findI
  rw [h1, h2]
  simp only [Option.bind_some]
  split
  ·rfl
  ·split <;> rfl
theorem findI_lo {α : Type} (p : α → Bool) : ∀ l : List α, -1 ≤ findI p l
 | [] => by simp [findI]
 | x :: xs => by
  have := findI_lo p xs
  unfold findI; split
  ·omega
  ·split <;> omega
theorem findI_nonneg {α : Type} (p : α → Bool) : ∀ l : List α, decide (0 ≤ findI p l) = l.any p
 | [] => by simp [findI]
 | x :: xs => by
  have h := findI_nonneg p xs
  have h0 := findI_lo p xs
  unfold findI
  cases hx : p x with
  | true => simp [hx]
  | false =>
   simp only [List.any_cons, hx, Bool.false_or, ← h, Bool.false_eq_true, if_false]
   split
   ·rename_i hlt
    rw [decide_eq_false (by omega), decide_eq_false (by omega)]
   ·rw [decide_eq_true (by omega), decide_eq_true (by omega)]
theorem anyO_of {α : Type} {p : α → Option Bool} {q : α → Bool} (l : List α) (h : ∀ x ∈ l, p x = some (q x)) : anyO p l = some (l.any q) := by
 unfold anyO; rw [findO_of l h, Option.bind_some, findI_nonneg]
theorem any_not {α : Type} (p : α → Bool) : ∀ l : List α, l.any (fun x => !p x) = !(l.all p)
 | [] => rfl
 | x :: xs => by simp only [List.any_cons, List.all_cons, any_not p xs, Bool.not_and]
def inR (n lo hi : Int) : Bool := decide (lo ≤ n) && decide (n ≤ hi)
theorem inR_iff {n lo hi : Int} : inR n lo hi = true ↔ lo ≤ n ∧ n ≤ hi := by simp [inR]
theorem inR_some (n lo hi : Int) : (if lo ≤ n then some (decide (n ≤ hi)) else some false) = some (inR n lo hi) := by
 unfold inR; split
 ·rename_i h; simp [h]
 ·rename_i h; simp [h]
theorem get_mem {α : Type} {l : List α} {k : Nat} (z : α) (h : k < l.length) : l.getD k z ∈ l ∧ l[k]? = some (l.getD k z) := by
 rw [List.getD_eq_getElem?_getD, List.getElem?_eq_getElem h]
 exact ⟨List.getElem_mem h, rfl⟩
theorem take_step {α : Type} {l : List α} {k : Nat} {y : α} {P : α → Prop} (h : l[k]? = some y) (hy : P y) (hb : ∀ x ∈ l.take k, P x) : ∀ x ∈ l.take (k + 1), P x := by
 intro x hx
 rw [List.take_add_one, h] at hx
 rcases List.mem_append.1 hx with hx | hx
 ·exact hb x hx
 ·simp at hx; subst hx; exact hy
section
variable {P : Program} {ops : Array Oper} {Q : Exit → Act → World → Prop}
theorem goesV_ {oi : Oper} {N : Option Tmp} {a : Act} {w : World} {K : Act → World → Prop} (op : Operand) (lb : Array Value) {f : FuncId} {fn : Func} {ys : Array Operand} {ts : Array TypeId} (hf : P.funcs[f]? = some fn) (hname : (fn.name == "runtime.NumGoroutine") = false) (hb : fn.body.isSome = true) (args : Array Value)
  (hw : Region.wanted oi (yielded ops a.tmps) = true) (hN : oi.dst = N) (hop : oi.op = .call { callee := .value op, args := ys, argTypes := ts }) (hfun : a.eval op = .func (.func f) #[] lb) (hargs : ys.map a.eval ++ lb = args)
  (h : Calls P f args w fun e w' => ∃ v, e = .returned v ∧ K (a.put N v) w') : if Region.wanted oi (yielded ops a.tmps) = true then Oper.wp P oi a w K Q else K (a.put N undef) w := by
 refine Go.Proofs.YtihnefkkgbokcaaW.PrintLast.call_ f args hw hN ?_ h
 have he := Go.Proofs.YtihnefkkgbokcaaW.PrintLast.enters_ hf hname hb args w
 unfold execOp
 simp [hop, resolve, Deferred.ofValue, invoke, hfun, hargs, he]
end
section
variable {P : Program} {ops : Array Oper} {Q : Exit → Act → World → Prop}
end
/-! ### the tail of an own row set to zeros -/
theorem setCells_app (g : Nat) : ∀ (a b : List Value) (o : Nat) (w : World), w.setCells g o (a ++ b) = (w.setCells g o a).setCells g (o + a.length) b
 | [], b, o, w => rfl
 | x :: a, b, o, w => by
  show (w.setCell ⟨g, o, none⟩ x).setCells g (o + 1) (a ++ b) = ((w.setCell ⟨g, o, none⟩ x).setCells g (o + 1) a).setCells g (o + (a.length + 1)) b
  rw [setCells_app g a b (o + 1)]
  rw [show o + 1 + a.length = o + (a.length + 1) by omega]
theorem R_clear {α : Type} {d : Kd α} {e base : Nat} {ok okp : Nat → Prop} {g n cap : Nat} (z : α) (zc : List Value) (hzl : zc.length = d.sz) (hM : ∀ W, d.M W base okp z zc) (hokp : ∀ k, okp k → ok k ∧ k ≠ g) :
  ∀ (m i : Nat) (W : World) (xs : List α), d.R e W base ok (.slice (some ⟨g, 0, none⟩) n cap) xs → i + m = n → d.R e (W.setCells g (i * d.sz) (List.replicate m zc).flatten) base ok (.slice (some ⟨g, 0, none⟩) n cap) (xs.take i ++ List.replicate m z) ∧ W.grownBy (W.setCells g (i * d.sz) (List.replicate m zc).flatten) (some g) := by
 intro m
 induction m with
 | zero =>
  intro i W xs h hi
  have hn := (Kd.R_reads' h).1
  rw [List.take_of_length_le (by omega)]
  simp only [List.replicate_zero, List.append_nil, List.flatten_nil]
  exact ⟨h, World.grownBy.refl _ _⟩
 | succ m ih =>
  intro i W xs h hi
  have hn := (Kd.R_reads' h).1
  obtain ⟨c, hcl, _, hcc, _⟩ := Kd.R_elem h z (i : Int) (by omega) (by omega)
  have hs := Kd.R_seg h (i : Int) (by omega) (by omega) (seg := zc) (j := 0) hcl hcc (by omega) (x' := z) (by rw [List.take_zero, List.nil_append, List.drop_of_length_le (by omega), List.append_nil]; exact hM W) hokp
  simp only [Int.toNat_natCast, Nat.add_zero] at hs
  have h2 := ih (i + 1) _ _ hs.1 (by omega)
  have e : W.setCells g (i * d.sz) (List.replicate (m + 1) zc).flatten = (W.setCells g (i * d.sz) zc).setCells g ((i + 1) * d.sz) (List.replicate m zc).flatten := by
   rw [List.replicate_succ, List.flatten_cons, setCells_app, hzl, Nat.add_mul, Nat.one_mul]
  rw [e]
  refine ⟨?_, World.grownBy.trans hs.2 h2.2⟩
  have e2 : (xs.set i z).take (i + 1) ++ List.replicate m z = xs.take i ++ List.replicate (m + 1) z := by
   rw [List.take_add_one, List.getElem?_set_self (by omega), List.take_set_of_le (by omega), List.replicate_succ]
   simp
  rw [← e2]; exact h2.1
/-! ### the builtin clear on a slice, elements of any size -/
theorem zeroCells_get (zc : List Value) (n i : Nat) : (Builtin.zeroCells zc.toArray n).toList[i]? = if i < n * zc.length then some (zc.toArray[i % zc.length]!) else none := by
 unfold Builtin.zeroCells
 by_cases h : i < n * zc.length
 ·rw [if_pos h]; simp [h]
 ·rw [if_neg h]; simp; omega
theorem flat_get (zc : List Value) (hp : 0 < zc.length) : ∀ (n i : Nat), (List.replicate n zc).flatten[i]? = if i < n * zc.length then some (zc.toArray[i % zc.length]!) else none
 | 0, i => by simp
 | n + 1, i => by
  rw [List.replicate_succ, List.flatten_cons]
  by_cases h : i < zc.length
  ·rw [List.getElem?_append_left h, if_pos (by rw [Nat.add_mul]; omega), Nat.mod_eq_of_lt h]
   rw [List.getElem?_eq_getElem h]; simp [h]
  ·rw [List.getElem?_append_right (by omega), flat_get zc hp n]
   have e : (i - zc.length) % zc.length = i % zc.length := by
    conv => rhs; rw [show i = (i - zc.length) + zc.length by omega, Nat.add_mod_right]
   rw [e, Nat.add_mul]
   by_cases h2 : i - zc.length < n * zc.length
   ·rw [if_pos h2, if_pos (by omega)]
   ·rw [if_neg h2, if_neg (by omega)]
theorem zeroCells_flat (zc : List Value) (hp : 0 < zc.length) (n : Nat) : (Builtin.zeroCells zc.toArray n).toList = (List.replicate n zc).flatten := by
 apply List.ext_getElem?
 intro i
 rw [zeroCells_get, flat_get zc hp]
theorem run_clear_cells {P : Program} (w : World) (t e ty : TypeId) (z : Value) (zc : List Value) (ht : P.underlying t = some (.slice e)) (hv : ∀ w, (zeroValue e).run P w = .ok z w) (hz : z.cells = zc.toArray) (hp : 0 < zc.length) (h1 : ∀ v ∈ zc, v.oneCell' = true) (b o n c : Nat) (hn : 0 < n)
  (hc : ∀ j, j < n * zc.length → (w.cell? ⟨b, o + j, none⟩).isSome = true) (hf : ∀ j, j < n * zc.length → w.frozen? ⟨b, o + j, none⟩ = false) :
  (Builtin.clear_ #[t] ty #[.slice (some ⟨b, o, none⟩) n c]).run P w = .ok (.tuple #[]) (w.setCells b o (List.replicate n zc).flatten) := by
 have hzc : (Builtin.zeroCells z.cells n).toList = (List.replicate n zc).flatten := by rw [hz]; exact zeroCells_flat zc hp n
 have hl : (List.replicate n zc).flatten.length = n * zc.length := by simp
 have hst := run_storeCells_cells (P := P) b o (List.replicate n zc).flatten 0 w (by rw [hl]; simpa using hc) (by rw [hl]; simpa using hf) (by
  intro v hv'
  obtain ⟨l, hl1, hl2⟩ := List.mem_flatten.1 hv'
  rw [List.eq_of_mem_replicate hl1] at hl2
  exact h1 v hl2)
 simp only [Nat.add_zero] at hst
 obtain ⟨m, rfl⟩ : ∃ m, n = m + 1 := ⟨n - 1, by omega⟩
 simp [Builtin.clear_, run_underlying ht, hv, hzc, hst]
/-! ### clear(s[i:]), s a row of the call's own -/
theorem run_zero {P : Program} {e : TypeId} {i0 : TypeInfo} {z : Value} (hi : P.info? e = some i0) (hz : i0.zero = some z) (w : World) : (zeroValue e).run P w = .ok z w := by
 unfold zeroValue
 simp [typeInfo, hi, hz]
theorem R_clearcut_run {P : Program} {α : Type} (d : Kd α) {W : World} (base : Nat) (t ty e : TypeId) (z : α) (zv : Value) (ht : P.underlying t = some (.slice e)) (hv : ∀ w, (zeroValue e).run P w = .ok zv w) (hzl : zv.cells.size = d.sz) (hp : 0 < d.sz) (hM : ∀ W, d.M W base (fun _ => False) z zv.cells.toList)
  {n c i : Nat} {A0 A : Option Addr} {xs : List α} {ok : Nat → Prop} (HO : d.R e W base ok (.slice A0 n c) xs) (hi : i ≤ n) (hA : A = if c = i then A0 else A0.map (·.add (i * d.sz))) (c2 : Nat) :
  ∃ w1, (Builtin.clear_ #[t] ty #[.slice A (n - i) c2]).run P W = .ok (.tuple #[]) w1 ∧ d.R e w1 base ok (.slice A0 n c) (xs.take i ++ List.replicate (n - i) z) ∧ W.grownBy w1 (Value.slice A0 n c).ownBlock := by
 have hn := (Kd.R_reads' HO).1
 have hnc := (Kd.R_reads' HO).2.1
 have hzl' : zv.cells.toList.length = d.sz := hzl
 by_cases hin : i = n
 ·refine ⟨W, ?_, ?_, World.grownBy.refl _ _⟩
  ·rw [hin, Nat.sub_self]
   cases A <;> simp [Builtin.clear_, run_underlying ht]
  ·rw [hin, Nat.sub_self, List.replicate_zero, List.append_nil, List.take_of_length_le (by omega)]
   exact HO
 ·obtain ⟨g, cap, he, _⟩ := Kd.R_form HO (by omega)
  injection he with ha _ hc
  subst ha; subst hc
  have hA2 : A = some ⟨g, i * d.sz, none⟩ := by
   rw [hA, if_neg (by omega), Option.map_some, add_plain]
  subst hA2
  have hc := R_clear z zv.cells.toList hzl' hM (fun k hk => hk.elim) (n - i) i W xs HO (by omega)
  refine ⟨_, run_clear_cells W t e ty zv zv.cells.toList ht hv (by simp) (by omega) (fun v hv' => d.K_one (d.K_of_M (hM W)) v hv') g (i * d.sz) (n - i) c2 (by omega) ?_ ?_, hc.1, hc.2⟩
  ·intro j hj
   rw [hzl'] at hj
   obtain ⟨q, hq0⟩ : ∃ q, q = j / d.sz := ⟨_, rfl⟩
   have hq : q < n - i := by rw [hq0]; exact Nat.div_lt_of_lt_mul (by rw [Nat.mul_comm]; exact hj)
   obtain ⟨cc, hcl, _, hcc, _⟩ := Kd.R_elem HO z ((i + q : Nat) : Int) (by omega) (by omega)
   have hr : j % d.sz < cc.length := by rw [hcl]; exact Nat.mod_lt _ hp
   have h2 := hcc (j % d.sz) _ (List.getElem?_eq_getElem hr)
   rw [Int.toNat_natCast] at h2
   have e2 : i * d.sz + j = (i + q) * d.sz + j % d.sz := by
    have := Nat.div_add_mod j d.sz
    rw [← hq0] at this
    rw [Nat.add_mul, Nat.mul_comm q]; omega
   rw [e2, h2]; rfl
  ·intro j hj
   obtain ⟨_, _, _, _, hfr⟩ := Kd.R_elem HO z ((i : Nat) : Int) (by omega) (by omega)
   exact hfr j
section
variable {P : Program} {ops : Array Oper} {rest : List Oper} {o : Oper} {a : Act} {Q : Exit → Act → World → Prop} {α : Type}
theorem R_clearcut (d : Kd α) {w0 W : World} (base : Nat) (hgd : o.guard = none) (s : Operand) (t e : TypeId) (ho : o.op = .call { callee := .builtin .clear, args := #[s], argTypes := #[t] })
  (ht : P.underlying t = some (.slice e)) (zv : Value) (bytes : Nat) (hinfo : (P.info? e).map (fun i => (i.zero, i.size, i.bytes)) = some (some zv, d.sz, bytes)) (hz : zv.cells.size = d.sz) (hp : 0 < d.sz) (z : α) (hM : ∀ W, d.M W base (fun _ => False) z zv.cells.toList)
  {n c i m c2 : Nat} {A0 A : Option Addr} {xs : List α} {ok : Nat → Prop} (hs : a.eval s = .slice A m c2) (hA : A = if c = i then A0 else A0.map (·.add (i * d.sz))) (hm : m = n - i) (HO : d.R e W base ok (.slice A0 n c) xs) (hi : i ≤ n) (HB : Below base w0 W) (hbase : base ≤ W.heap.size)
  (h : ∀ w1, d.R e w1 base ok (.slice A0 n c) (xs.take i ++ List.replicate (n - i) z) → Below base w0 w1 → W.grownBy w1 (Value.slice A0 n c).ownBlock → wpList P ops Q rest (a.put o.dst (.tuple #[])) w1) : wpList P ops Q (o :: rest) a W := by
 obtain ⟨i0, hi0, hzz⟩ := Option.map_eq_some_iff.1 hinfo
 simp only [Prod.mk.injEq] at hzz
 subst hm
 obtain ⟨w1, hr, h1, h2⟩ := R_clearcut_run (P := P) d base t o.type e z zv ht (run_zero hi0 hzz.1) hz hp hM HO hi hA c2
 refine wpList_plain hgd fun K hK => ?_
 unfold Oper.wp execOp
 simp only [ho, resolve, invoke, builtin, Sem.run_bind, Sem.run_pure, Result.andThen_ok, List.map_toArray, List.map_cons, List.map_nil, hs, hr]
 exact hK _ _ (h w1 h1 (HB.grown h2 hbase (fun k hk => Kd.R_base HO k hk)) h2)
end
def El (w : World) (p : Addr) (u v : Value) : Prop := w.cell? p = some u ∧ w.cell? ⟨p.block, p.off + 1, none⟩ = some v
theorem El.below {w w1 : World} {p : Addr} {u v : Value} (h : El w p u v) (hb : Below w.heap.size w w1) : El w1 p u v := ⟨(hb.cell (World.block_lt_of_cell? w _ h.1)).trans h.1, (hb.cell (World.block_lt_of_cell? w _ h.2)).trans h.2⟩
theorem El.alloc {w : World} {p : Addr} {u v : Value} (h : El w p u v) (o : Obj) : El (w.alloc o) p u v := h.below ((Below.refl _ w).alloc (Nat.le_refl _) o)
theorem El.drew {w : World} {p : Addr} {u v : Value} (h : El w p u v) : El w.drew p u v := h
theorem El.drewN {w : World} {p : Addr} {u v : Value} (h : El w p u v) (n : Nat) : El (w.drewN n) p u v := h
theorem odt_ {p : Prop} [Decidable p] (h : decide p = true := by first | (with_reducible assumption) | assumption) : p := of_decide_eq_true h
theorem sA_ {α : Type _} {l : List α} {i : Nat} {a : α} : l.toArray.setIfInBounds i a = (l.set i a).toArray := List.setIfInBounds_toArray ..
theorem sZ_ {α : Type _} {xs : List α} {a b : α} : (b :: xs).set 0 a = a :: xs := rfl
theorem sS_ {α : Type _} {xs : List α} {a b : α} {i : Nat} : (b :: xs).set (i + 1) a = b :: xs.set i a := rfl
end Go.Proofs.YtihnefkkgbokcaaMine
