
/- Words that the hand-proved contracts and the pure proofs share: the first place at which a predicate holds, a number within bounds. -/
import Derived.Shelf.Abstract
import Derived.Lib.SliceRun
import Derived.Test.YtdeipindfhkioaaDoorWWords
import Derived.Test.YtdeipindfhkioaaDoorWLast
import Derived.Test.YtdeipindfhkioaaDoorWMore
set_option linter.unusedVariables false
namespace Go.Proofs.YtdeipindfhkioaaDoorMine
open Go.RowKit Go.Proofs.YtdeipindfhkioaaDoorW.PrintWords

def findO {α : Type} (p : α → Option Bool) : List α → Option Int
 | [] => some (-1)
 | x :: xs => (p x).bind fun b => if b = true then some 0 else (findO p xs).bind fun i => if i < 0 then some (-1) else some (i + 1)
def anyO {α : Type} (p : α → Option Bool) (l : List α) : Option Bool := (findO p l).bind fun i => some (decide (0 ≤ i))
theorem findO_miss {α : Type} (p : α → Option Bool) : ∀ (l : List α) (r : Int), (∀ x ∈ l, p x = some false) → findO p l = some r → r = -1
 | [], r, _, h => by simp [findO] at h; exact h.symm
 | x :: xs, r, hx, h => by
  have h1 := hx x List.mem_cons_self
  unfold findO at h
  rw [h1] at h
  simp only [Option.bind_some, Bool.false_eq_true, if_false] at h
  obtain ⟨i, hi, h⟩ := Option.bind_eq_some_iff.1 h
  have h2 := findO_miss p xs i (fun y hy => hx y (List.mem_cons_of_mem _ hy)) hi
  subst h2
  simp at h; exact h.symm
theorem findO_hit {α : Type} (p : α → Option Bool) : ∀ (l : List α) (k : Nat) (y : α) (r : Int), l[k]? = some y → p y = some true → (∀ x ∈ l.take k, p x = some false) → findO p l = some r → r = (k : Int)
 | [], k, y, r, h, _, _, _ => by simp at h
 | x :: xs, 0, y, r, h, hy, _, hf => by
  simp only [List.getElem?_cons_zero, Option.some.injEq] at h
  subst h
  unfold findO at hf; rw [hy] at hf; simp at hf; exact hf.symm
 | x :: xs, k + 1, y, r, h, hy, hb, hf => by
  have h1 := hb x (by simp)
  unfold findO at hf; rw [h1] at hf
  simp only [Option.bind_some, Bool.false_eq_true, if_false] at hf
  obtain ⟨i, hi, hf⟩ := Option.bind_eq_some_iff.1 hf
  have h2 := findO_hit p xs k y i (by simpa using h) hy (fun z hz => hb z (by simp; exact .inr hz)) hi
  subst h2
  rw [if_neg (by omega)] at hf
  have := Option.some.inj hf
  omega
theorem findO_at {α : Type} (p : α → Option Bool) : ∀ (l : List α) (k : Nat) (y : α) (r : Int), l[k]? = some y → (∀ x ∈ l.take k, p x = some false) → findO p l = some r → ∃ b, p y = some b
 | [], k, y, r, h, _, _ => by simp at h
 | x :: xs, 0, y, r, h, _, hf => by
  simp only [List.getElem?_cons_zero, Option.some.injEq] at h
  subst h
  unfold findO at hf
  obtain ⟨b, hb, _⟩ := Option.bind_eq_some_iff.1 hf
  exact ⟨b, hb⟩
 | x :: xs, k + 1, y, r, h, hb, hf => by
  have h1 := hb x (by simp)
  unfold findO at hf; rw [h1] at hf
  simp only [Option.bind_some, Bool.false_eq_true, if_false] at hf
  obtain ⟨i, hi, _⟩ := Option.bind_eq_some_iff.1 hf
  exact findO_at p xs k y i (by simpa using h) (fun z hz => hb z (by simp; exact .inr hz)) hi
theorem findO_mono {α : Type} {p q : α → Option Bool} (h : ∀ x, LeO (p x) (q x)) : ∀ l : List α, LeO (findO p l) (findO q l)
 | [] => LeO.refl _
 | x :: xs => by
  unfold findO
  exact LeO.bind (h x) (fun b => LeO.ite (LeO.refl _) (LeO.bind (findO_mono h xs) (fun _ => LeO.refl _)))
theorem anyO_mono {α : Type} {p q : α → Option Bool} (h : ∀ x, LeO (p x) (q x)) (l : List α) : LeO (anyO p l) (anyO q l) := LeO.bind (findO_mono h l) (fun _ => LeO.refl _)
def findI {α : Type} (p : α → Bool) : List α → Int
 | [] => -1
 | x :: xs => if p x then 0 else (if findI p xs < 0 then -1 else findI p xs + 1)
theorem findO_of {α : Type} {p : α → Option Bool} {q : α → Bool} : ∀ l : List α, (∀ x ∈ l, p x = some (q x)) → findO p l = some (findI q l)
 | [], _ => rfl
 | x :: xs, h => by
  have h1 := h x List.mem_cons_self
  have h2 := findO_of xs (fun y hy => h y (List.mem_cons_of_mem _ hy))
  unfold findO findI
  rw [h1, h2]
  simp only [Option.bind_some]
  split
  ·rfl
  ·split <;> rfl
theorem findI_lo {α : Type} (p : α → Bool) : ∀ l : List α, -1 ≤ findI p l
 | [] => by simp [findI]
 | x :: xs => by
  have := findI_lo p xs
  unfold findI; split
  ·omega
  ·split <;> omega
theorem findI_nonneg {α : Type} (p : α → Bool) : ∀ l : List α, decide (0 ≤ findI p l) = l.any p
 | [] => by simp [findI]
 | x :: xs => by
  have h := findI_nonneg p xs
  have h0 := findI_lo p xs
  unfold findI
  cases hx : p x with
  | true => simp [hx]
  | false =>
   simp only [List.any_cons, hx, Bool.false_or, ← h, Bool.false_eq_true, if_false]
   split
   ·rename_i hlt
    rw [decide_eq_false (by omega), decide_eq_false (by omega)]
   ·rw [decide_eq_true (by omega), decide_eq_true (by omega)]
theorem anyO_of {α : Type} {p : α → Option Bool} {q : α → Bool} (l : List α) (h : ∀ x ∈ l, p x = some (q x)) : anyO p l = some (l.any q) := by
 unfold anyO; rw [findO_of l h, Option.bind_some, findI_nonneg]
theorem any_not {α : Type} (p : α → Bool) : ∀ l : List α, l.any (fun x => !p x) = !(l.all p)
 | [] => rfl
 | x :: xs => by simp only [List.any_cons, List.all_cons, any_not p xs, Bool.not_and]
def inR (n lo hi : Int) : Bool := decide (lo ≤ n) && decide (n ≤ hi)
theorem inR_iff {n lo hi : Int} : inR n lo hi = true ↔ lo ≤ n ∧ n ≤ hi := by simp [inR]
theorem inR_some (n lo hi : Int) : (if lo ≤ n then some (decide (n ≤ hi)) else some false) = some (inR n lo hi) := by
 unfold inR; split
 ·rename_i h; simp [h]
 ·rename_i h; simp [h]
theorem get_mem {α : Type} {l : List α} {k : Nat} (z : α) (h : k < l.length) : l.getD k z ∈ l ∧ l[k]? = some (l.getD k z) := by
 rw [List.getD_eq_getElem?_getD, List.getElem?_eq_getElem h]
 exact ⟨List.getElem_mem h, rfl⟩
theorem take_step {α : Type} {l : List α} {k : Nat} {y : α} {P : α → Prop} (h : l[k]? = some y) (hy : P y) (hb : ∀ x ∈ l.take k, P x) : ∀ x ∈ l.take (k + 1), P x := by
 intro x hx
 rw [List.take_add_one, h] at hx
 rcases List.mem_append.1 hx with hx | hx
 ·exact hb x hx
 ·simp at hx; subst hx; exact hy
section
variable {P : Program} {ops : Array Oper} {Q : Exit → Act → World → Prop}
end
section
variable {P : Program} {ops : Array Oper} {Q : Exit → Act → World → Prop}
end
section
variable {P : Program} {ops : Array Oper} {rest : List Oper} {o : Oper} {a : Act} {Q : Exit → Act → World → Prop} {α : Type}
end
def El (w : World) (p : Addr) (u v : Value) : Prop := w.cell? p = some u ∧ w.cell? ⟨p.block, p.off + 1, none⟩ = some v
theorem El.below {w w1 : World} {p : Addr} {u v : Value} (h : El w p u v) (hb : Below w.heap.size w w1) : El w1 p u v := ⟨(hb.cell (World.block_lt_of_cell? w _ h.1)).trans h.1, (hb.cell (World.block_lt_of_cell? w _ h.2)).trans h.2⟩
theorem El.alloc {w : World} {p : Addr} {u v : Value} (h : El w p u v) (o : Obj) : El (w.alloc o) p u v := h.below ((Below.refl _ w).alloc (Nat.le_refl _) o)
theorem El.drew {w : World} {p : Addr} {u v : Value} (h : El w p u v) : El w.drew p u v := h
theorem El.drewN {w : World} {p : Addr} {u v : Value} (h : El w p u v) (n : Nat) : El (w.drewN n) p u v := h
theorem odt_ {p : Prop} [Decidable p] (h : decide p = true := by first | (with_reducible assumption) | assumption) : p := of_decide_eq_true h
theorem sA_ {α : Type _} {l : List α} {i : Nat} {a : α} : l.toArray.setIfInBounds i a = (l.set i a).toArray := List.setIfInBounds_toArray ..
theorem sZ_ {α : Type _} {xs : List α} {a b : α} : (b :: xs).set 0 a = a :: xs := rfl
theorem sS_ {α : Type _} {xs : List α} {a b : α} {i : Nat} : (b :: xs).set (i + 1) a = b :: xs.set i a := rfl
end Go.Proofs.YtdeipindfhkioaaDoorMine
