/- A text's parts between the places of a byte, by the reference and by the library. -/
import Derived.Test.YtdeipindfhkioaaDoorQ3
import Derived.Test.YtdeipindfhkioaaDoorQ5
import Derived.Test.YtdeipindfhkioaaDoorPureCText
import Derived.Test.YtdeipindfhkioaaDoorPureB0
set_option linter.unusedVariables false
set_option linter.unusedSimpArgs false
namespace Go.Proofs.YtdeipindfhkioaaDoor.Pure
open Go.RowKit Go.Proofs.YtdeipindfhkioaaDoor.Q Go.Proofs.YtdeipindfhkioaaDoorMine Go.Proofs.YtdeipindfhkioaaDoorW.PrintWords Go.Proofs.YtdeipindfhkioaaDoorW.PrintMore
def partsA (c : UInt8) : List UInt8 → List UInt8 → List (List UInt8)
 | a, [] => [a]
 | a, b :: l => if b = c then a :: partsA c [] l else partsA c (a ++ [b]) l
def parts (c : UInt8) (l : List UInt8) : List (List UInt8) := partsA c [] l
theorem partsA_len (c : UInt8) : ∀ (l a : List UInt8), (partsA c a l).length ≤ l.length + 1
 | [], a => by simp [partsA]
 | b :: l, a => by
  unfold partsA
  split
  ·have := partsA_len c l []; simp only [List.length_cons]; omega
  ·have := partsA_len c l (a ++ [b]); simp only [List.length_cons]; omega
theorem partsA_mem (c : UInt8) : ∀ (l a p : List UInt8), p ∈ partsA c a l → p.length ≤ a.length + l.length
 | [], a, p, h => by simp [partsA] at h; subst h; simp
 | b :: l, a, p, h => by
  unfold partsA at h
  split at h
  ·rcases List.mem_cons.1 h with rfl | h
   ·simp
   ·have := partsA_mem c l [] p h; simp at this ⊢; omega
  ·have := partsA_mem c l (a ++ [b]) p h; simp at this ⊢; omega
theorem parts_len (c : UInt8) (l : List UInt8) : (parts c l).length ≤ l.length + 1 := partsA_len c l []
theorem parts_mem {c : UInt8} {l p : List UInt8} (h : p ∈ parts c l) : p.length ≤ l.length := by have := partsA_mem c l [] p h; simpa using this
theorem extract_bs {s : ByteArray} {l : List UInt8} (h : s.data.toList = l) (a b : Nat) : s.extract a b = bsOf ((l.drop a).take (b - a)) := by rw [Lib.extract_eq, h]; rfl
theorem bt_at_list {s : ByteArray} {l : List UInt8} (h : s.data.toList = l) {i : Nat} (hi : i < l.length) : bt s (i : Int) = ((l.getD i 0).toNat : Int) := by
 have hs : i < s.size := by rw [← data_length, h]; exact hi
 rw [← bt_at s (i : Int) (by simpa using hs)]
 subst h
 rw [List.getD_eq_getElem?_getD, List.getElem?_eq_getElem hi]
 simp [ByteArray.getElem_eq_getElem_data]
theorem take_grow {l : List UInt8} {b i : Nat} (hb : b ≤ i) (hi : i < l.length) : (l.drop b).take (i + 1 - b) = (l.drop b).take (i - b) ++ [l.getD i 0] := by
 rw [show i + 1 - b = (i - b) + 1 by omega, List.take_add_one, List.getElem?_drop, show b + (i - b) = i by omega, getD_ge (z := 0) hi]; rfl
theorem specSplit {s : ByteArray} {l : List UInt8} (h : s.data.toList = l) (hl : l.length ≤ 2097152) (c : UInt8) : Ev (fun k => spec_l01Split.f k s (c.toNat : Int)) ((parts c l).map bsOf) := by
 have hsz : (s.size : Int) = (l.length : Int) := by rw [← h, data_length]
 have hsn : s.size = l.length := by omega
 unfold spec_l01Split.f
 suffices hh : ∀ (d i : Nat), i + d = l.length → ∀ (b : Nat) (done : List ByteArray), b ≤ i → done.length ≤ i → Ev (fun k => spec_l01Split.l0 k s (c.toNat : Int) done (b : Int) (i : Int)) (done ++ (partsA c ((l.drop b).take (i - b)) (l.drop i)).map bsOf) by
  have := hh l.length 0 (by omega) 0 [] (by omega) (by simp)
  simpa [parts] using this
 intro d
 induction d with
 | zero =>
  intro i hi b done hb hd
  have e : s.extract b s.size = bsOf ((l.drop b).take (i - b)) := by rw [extract_bs h, hsn, ← hi, Nat.add_zero]
  rw [show l.drop i = [] from List.drop_eq_nil_of_le (by omega)]
  refine Ev.step (f := fun _ => some (done ++ [s.extract b s.size])) (fun k => ?_) (Ev.eq (Ev.now _) (by rw [e]; rfl))
  simp only [spec_l01Split.l0]
  rw [if_neg (by omega), if_pos (by omega), if_pos (by omega), if_pos (by omega), Int.toNat_natCast]
 | succ d ih =>
  intro i hi b done hb hd
  have hbt := bt_at_list h (show i < l.length by omega)
  rw [drop_step 0 (show i < l.length by omega)]
  unfold partsA
  by_cases hc : l.getD i 0 = c
  ·rw [if_pos hc]
   have hc' : bt s (i : Int) = (c.toNat : Int) := by rw [hbt, hc]
   refine Ev.step (f := fun k => spec_l01Split.l0 k s (c.toNat : Int) (done ++ [s.extract b i]) ((i + 1 : Nat) : Int) ((i + 1 : Nat) : Int)) (fun k => ?_) (Ev.eq (ih (i + 1) (by omega) (i + 1) _ (by omega) (by rw [List.length_append, List.length_singleton]; omega)) ?_)
   ·simp only [spec_l01Split.l0]
    rw [if_pos (by omega), if_pos (by omega), if_pos hc', if_pos (by omega), if_pos (by omega), if_pos (by omega), if_pos (by omega), wrap_sm (i := (i : Int) + 1) (by omega) (by omega), Int.toNat_natCast, Int.toNat_natCast]; rfl
   ·rw [extract_bs h]; simp
  ·rw [if_neg hc]
   have hc' : ¬ bt s (i : Int) = (c.toNat : Int) := by rw [hbt]; intro e; exact hc (UInt8.toNat_inj.1 (by omega))
   refine Ev.step (f := fun k => spec_l01Split.l0 k s (c.toNat : Int) done (b : Int) ((i + 1 : Nat) : Int)) (fun k => ?_) (Ev.eq (ih (i + 1) (by omega) b done (by omega) (by omega)) ?_)
   ·simp only [spec_l01Split.l0]
    rw [if_pos (by omega), if_pos (by omega), if_neg hc', wrap_sm (i := (i : Int) + 1) (by omega) (by omega)]; rfl
   ·rw [take_grow hb (by omega)]
/-! ### the library's -/
theorem index_spec (c : UInt8) : ∀ (l a : List UInt8), (Lib.index l [c] = -1 ∧ l.count c = 0 ∧ partsA c a l = [a ++ l]) ∨ (∃ i : Nat, Lib.index l [c] = (i : Int) ∧ i < l.length ∧ l.count c = 1 + (l.drop (i + 1)).count c ∧ partsA c a l = (a ++ l.take i) :: partsA c [] (l.drop (i + 1)))
 | [], a => .inl ⟨rfl, rfl, by simp [partsA]⟩
 | b :: l, a => by
  have hp : ([c].isPrefixOf (b :: l)) = (c == b) := by simp [List.isPrefixOf]
  by_cases h : b = c
  ·subst h
   refine .inr ⟨0, ?_, by simp, by simp; omega, by simp [partsA]⟩
   unfold Lib.index; rw [hp]; simp
  ·have hcb : (c == b) = false := beq_eq_false_iff_ne.2 (fun e => h e.symm)
   rcases index_spec c l (a ++ [b]) with ⟨h1, h2, h3⟩ | ⟨i, h1, h2, h3, h4⟩
   ·refine .inl ⟨?_, ?_, ?_⟩
    ·unfold Lib.index; rw [hp, hcb, h1]; simp
    ·rw [List.count_cons, h2]; simp [h]
    ·show (if b = c then a :: partsA c [] l else partsA c (a ++ [b]) l) = _
     rw [if_neg h, h3]; simp
   ·refine .inr ⟨i + 1, ?_, by simp; omega, ?_, ?_⟩
    ·unfold Lib.index
     rw [hp, hcb, h1, if_neg (by simp)]
     have : ((i : Int) == -1) = false := beq_eq_false_iff_ne.2 (by omega)
     rw [this]; simp
    ·rw [List.count_cons, h3]; simp [h]
    ·show (if b = c then a :: partsA c [] l else partsA c (a ++ [b]) l) = _
     rw [if_neg h, h4]; simp
theorem splitK_parts (c : UInt8) : ∀ (n : Nat) (l : List UInt8), l.length ≤ n → Lib.splitK [c] 0 (l.count c) l = parts c l
 | 0, l, h => by
  obtain rfl : l = [] := List.length_eq_zero_iff.1 (by omega)
  rfl
 | n + 1, l, h => by
  unfold parts
  rcases index_spec c l [] with ⟨h1, h2, h3⟩ | ⟨i, h1, h2, h3, h4⟩
  ·rw [h2, h3]; rfl
  ·rw [h3, h4, Nat.add_comm 1 _, Lib.splitK]
   have : (Lib.index l [c] == -1) = false := by rw [h1]; exact beq_eq_false_iff_ne.2 (by omega)
   rw [this, h1]
   have ih := splitK_parts c n (l.drop (i + 1)) (by rw [List.length_drop]; omega)
   simp only [Bool.false_eq_true, if_false, Int.toNat_natCast, Nat.add_zero, List.nil_append, List.length_singleton]
   rw [ih]; rfl
theorem implSplit {s : ByteArray} {l : List UInt8} (h : s.data.toList = l) (hl : l.length ≤ 2097152) (c : UInt8) : strings_Split.f s ⟨#[c]⟩ = some ((parts c l).map bsOf) := by
 have hsn : s.size = l.length := by rw [← h, data_length]
 unfold strings_Split.f
 rw [if_pos (show 1 ≤ (⟨#[c]⟩ : ByteArray).size from Nat.le_refl 1), if_pos (by omega)]
 congr 1
 have h1 : (Lib.splitB ⟨#[c]⟩ 0 (Lib.countB s ⟨#[c]⟩) s).map (·.data.toList) = parts c l := by
  rw [Lib.splitB_data, show Lib.countB s ⟨#[c]⟩ = Lib.count s.data.toList [c] from rfl, Lib.count_one, h]
  exact splitK_parts c l.length l (Nat.le_refl _)
 rw [← h1, List.map_map]
 have e : ∀ x : ByteArray, (bsOf ∘ fun y : ByteArray => y.data.toList) x = id x := fun x => bsOf_data x
 rw [show (bsOf ∘ fun y : ByteArray => y.data.toList) = id from funext e, List.map_id]
/-- What is built by appending, unless one element fails. -/
theorem buildok_ev {α β ρ : Type} (L : Nat → List β → Int → Option ρ) (x : List α) (z : α) (conv : α → β) (ok : α → Bool) (no yes : ρ)
  (hno : ∀ m s, m < x.length → s.length = m → ok (x.getD m z) = false → Ev (fun k => L k s (m : Int)) no)
  (hyes : ∀ m s, m < x.length → s.length = m → ok (x.getD m z) = true → ∀ r, Ev (fun k => L k (s ++ [conv (x.getD m z)]) ((m + 1 : Nat) : Int)) r → Ev (fun k => L k s (m : Int)) r)
  (hend : x.all ok = true → Ev (fun k => L k (x.map conv) (x.length : Int)) yes) : Ev (fun k => L k [] 0) (if x.all ok = true then yes else no) := by
 suffices hh : ∀ (d m : Nat), m + d = x.length → (x.take m).all ok = true → Ev (fun k => L k ((x.take m).map conv) (m : Int)) (if (x.drop m).all ok = true then yes else no) from hh x.length 0 (by omega) rfl
 intro d
 induction d with
 | zero =>
  intro m hm ha
  obtain rfl : m = x.length := by omega
  rw [List.drop_eq_nil_of_le (by omega)]
  rw [List.take_length] at ha ⊢
  exact hend ha
 | succ d ih =>
  intro m hm ha
  rw [drop_step z (by omega), List.all_cons]
  cases hq : ok (x.getD m z) with
  | true =>
   have e : x.take (m + 1) = x.take m ++ [x.getD m z] := by rw [List.take_add_one, getD_ge (z := z) (by omega)]; rfl
   refine Ev.eq (hyes m _ (by omega) (by simp; omega) hq _ (Ev.eq (Ev.congr (fun k => ?_) (ih (m + 1) (by omega) (by rw [e, List.all_append, ha, List.all_cons, hq]; rfl))) rfl)) (by simp)
   rw [e, List.map_append]; rfl
  | false => exact Ev.eq (hno m _ (by omega) (by simp; omega) hq) (by simp)
end Go.Proofs.YtdeipindfhkioaaDoor.Pure
