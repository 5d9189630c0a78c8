/- A text's lines, as strings.Lines gives them, and its parts. -/
import Derived.Test.YtdeipindfhkioaaDoorQ3
import Derived.Test.YtdeipindfhkioaaDoorQ5
import Derived.Test.YtdeipindfhkioaaDoorQ6
import Derived.Test.YtdeipindfhkioaaDoorPureCPart
import Derived.Test.YtdeipindfhkioaaDoorPureCJoin
set_option linter.unusedVariables false
set_option linter.unusedSimpArgs false
namespace Go.Proofs.YtdeipindfhkioaaDoor.Pure
open Go.RowKit Go.Proofs.YtdeipindfhkioaaDoor.Q Go.Proofs.YtdeipindfhkioaaDoorMine Go.Proofs.YtdeipindfhkioaaDoorW.PrintWords Go.Proofs.YtdeipindfhkioaaDoorW.PrintMore
theorem idx_parts (c : UInt8) : ∀ (l a : List UInt8), (Lib.indexByte l c = -1 ∧ partsA c a l = [a ++ l]) ∨ (∃ i : Nat, Lib.indexByte l c = (i : Int) ∧ i < l.length ∧ l[i]? = some c ∧ partsA c a l = (a ++ l.take i) :: partsA c [] (l.drop (i + 1)))
 | [], a => .inl ⟨rfl, by simp [partsA]⟩
 | b :: l, a => by
  by_cases h : b = c
  ·subst h
   refine .inr ⟨0, ?_, by simp, by simp, by simp [partsA]⟩
   unfold Lib.indexByte; simp
  ·have hcb : (b == c) = false := beq_eq_false_iff_ne.2 h
   rcases idx_parts c l (a ++ [b]) with ⟨h1, h3⟩ | ⟨i, h1, h2, h3, h4⟩
   ·refine .inl ⟨?_, ?_⟩
    ·unfold Lib.indexByte; rw [hcb, h1]; simp
    ·show (if b = c then a :: partsA c [] l else partsA c (a ++ [b]) l) = _
     rw [if_neg h, h3]; simp
   ·refine .inr ⟨i + 1, ?_, by simp; omega, by simpa using h3, ?_⟩
    ·unfold Lib.indexByte
     rw [hcb, h1, if_neg (by simp)]
     have : ((i : Int) == -1) = false := beq_eq_false_iff_ne.2 (by omega)
     rw [this]; simp
    ·show (if b = c then a :: partsA c [] l else partsA c (a ++ [b]) l) = _
     rw [if_neg h, h4]; simp
theorem partsA_ne (c : UInt8) : ∀ (l a : List UInt8), partsA c a l ≠ []
 | [], a => by simp [partsA]
 | b :: l, a => by
  unfold partsA
  split
  ·simp
  ·exact partsA_ne c l _
/-- The lines, without their ends. -/
def lnsOf (ps : List (List UInt8)) : List (List UInt8) := if ps.getLast? = some [] then ps.dropLast else ps
theorem lnsOf_cons (p : List UInt8) {ps : List (List UInt8)} (h : ps ≠ []) : lnsOf (p :: ps) = p :: lnsOf ps := by
 unfold lnsOf
 obtain ⟨q, qs, rfl⟩ := List.exists_cons_of_ne_nil h
 rw [List.getLast?_cons_cons, List.dropLast_cons_of_ne_nil h]
 split <;> rfl
def lns (q : List UInt8) : List (List UInt8) := lnsOf (parts 10 q)
theorem lns_nil : lns [] = [] := rfl
theorem lns_one {q : List UInt8} (h : Lib.indexByte q 10 = -1) (hq : q ≠ []) : lns q = [q] := by
 rcases idx_parts 10 q [] with ⟨_, h2⟩ | ⟨i, h1, _⟩
 ·unfold lns parts lnsOf
  rw [h2]
  simp [hq]
 ·rw [h1] at h; omega
theorem lns_more {q : List UInt8} {i : Nat} (h : Lib.indexByte q 10 = (i : Int)) : i < q.length ∧ q[i]? = some 10 ∧ lns q = q.take i :: lns (q.drop (i + 1)) := by
 rcases idx_parts 10 q [] with ⟨h1, _⟩ | ⟨j, h1, h2, h3, h4⟩
 ·rw [h1] at h; omega
 ·obtain rfl : j = i := by omega
  refine ⟨h2, h3, ?_⟩
  unfold lns parts
  rw [h4, List.nil_append, lnsOf_cons _ (partsA_ne _ _ _)]
theorem lns_len (q : List UInt8) : (lns q).length ≤ q.length + 1 := by
 have := parts_len 10 q
 unfold lns lnsOf
 split
 ·rw [List.length_dropLast]; omega
 ·exact this
theorem lns_mem {q p : List UInt8} (h : p ∈ lns q) : p.length ≤ q.length := by
 refine parts_mem (c := 10) ?_
 unfold lns lnsOf at h
 split at h
 ·exact (List.dropLast_sublist _).subset h
 ·exact h
/-- Lines that end the text give it back. -/
theorem parts_whole (c : UInt8) : ∀ (l a : List UInt8), (partsA c a l).getLast? = some [] → ((partsA c a l).dropLast.map (· ++ [c])).flatten = a ++ l
 | [], a, h => by
  simp [partsA] at h ⊢
  exact h
 | b :: l, a, h => by
  unfold partsA at h ⊢
  split
  ·rename_i e
   subst e
   rw [if_pos rfl] at h
   obtain ⟨q, qs, hq⟩ := List.exists_cons_of_ne_nil (partsA_ne b l [])
   rw [hq, List.getLast?_cons_cons, ← hq] at h
   rw [List.dropLast_cons_of_ne_nil (partsA_ne b l []), List.map_cons, List.flatten_cons, parts_whole b l [] h]
   simp
  ·rename_i e
   rw [if_neg e] at h
   rw [parts_whole c l (a ++ [b]) h]
   simp
/-- Parts joined by their byte give the text back. -/
theorem parts_join (c : UInt8) : ∀ (l a : List UInt8), Lib.join (partsA c a l) [c] = a ++ l
 | [], a => by simp [partsA, Lib.join_cons, joinTail_nil]
 | b :: l, a => by
  unfold partsA
  split
  ·rename_i e
   subst e
   have ih := parts_join b l []
   obtain ⟨q, qs, hq⟩ := List.exists_cons_of_ne_nil (partsA_ne b l [])
   rw [hq] at ih ⊢
   rw [Lib.join_cons] at ih ⊢
   rw [joinTail_cons, List.append_assoc, ih]
   simp
  ·rw [parts_join c l (a ++ [b])]; simp
theorem trim_line {q : List UInt8} {i : Nat} (h : q[i]? = some 10) (hi : i < q.length) : Lib.trimSuffix (q.take (i + 1)) [10] = q.take i := by
 have e : q.take (i + 1) = q.take i ++ [10] := by rw [List.take_add_one, h]; rfl
 unfold Lib.trimSuffix Lib.hasSuffix
 rw [e, if_pos (by simp [List.isSuffixOf_iff_suffix]), List.length_append]
 simp
theorem trim_none {q : List UInt8} (h : Lib.indexByte q 10 = -1) : Lib.trimSuffix q [10] = q := by
 unfold Lib.trimSuffix Lib.hasSuffix
 split
 ·rename_i hs
  rw [List.isSuffixOf_iff_suffix] at hs
  obtain ⟨t, rfl⟩ := hs
  have := Lib.indexByte_none h t.length
  rw [List.getElem?_append_right (Nat.le_refl _)] at this
  simp at this
 ·rfl
end Go.Proofs.YtdeipindfhkioaaDoor.Pure
