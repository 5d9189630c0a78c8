/- An insertion sort of distinct numbers by a strict total order comes to the one sorted list. No memory, no Go. -/
import Derived.Test.YtdeipindfhkioaaPureB0
set_option linter.unusedVariables false
set_option linter.unusedSimpArgs false
namespace Go.Proofs.YtdeipindfhkioaaMine
open Go.RowKit Go.Proofs.YtdeipindfhkioaaW.PrintWords
/-- Two lists in strict order with the same elements are one. -/
theorem sorted_one {lt : Int → Int → Bool} (hasym : ∀ a b, lt a b = true → lt b a = true → False) : ∀ (l m : List Int), l.Pairwise (fun a b => lt a b = true) → m.Pairwise (fun a b => lt a b = true) → l.Perm m → l = m
 | [], m, _, _, h => by rw [List.Perm.nil_eq h]
 | a :: l, [], _, _, h => by have := h.length_eq; simp at this
 | a :: l, b :: m, hl, hm, h => by
  have hl' := List.pairwise_cons.1 hl
  have hm' := List.pairwise_cons.1 hm
  have e : a = b := by
   have ha : a ∈ b :: m := h.subset List.mem_cons_self
   have hb : b ∈ a :: l := h.symm.subset List.mem_cons_self
   rcases List.mem_cons.1 ha with e | ha
   ·exact e
   ·rcases List.mem_cons.1 hb with e | hb
    ·exact e.symm
    ·exact (hasym a b (hl'.1 b hb) (hm'.1 a ha)).elim
  subst e
  rw [sorted_one hasym l m hl'.2 hm'.2 (List.Perm.cons_inv h)]
theorem insSort {ρ : Type} (L0 : Nat → List Int → Int → Option ρ) (L1 : Nat → List Int → Int → Int → Option ρ) (lt : Int → Int → Bool) (V : Int → Prop) (x0 : List Int) (r : ρ)
  (hasym : ∀ a b, lt a b = true → lt b a = true → False) (htrans : ∀ a b c, lt a b = true → lt b c = true → lt a c = true) (htot : ∀ a b, V a → V b → a ≠ b → lt a b = false → lt b a = true)
  (hV : ∀ a ∈ x0, V a) (hnd : x0.Nodup)
  (hgo : ∀ (x : List Int) (i : Nat), x.length = x0.length → i < x0.length → Ev (fun k => L1 k x (i : Int) (i : Int)) r → Ev (fun k => L0 k x (i : Int)) r)
  (hend : ∀ (x : List Int) (i : Nat), x.length = x0.length → x0.length ≤ i → x.Pairwise (fun a b => lt a b = true) → x.Perm x0 → Ev (fun k => L0 k x (i : Int)) r)
  (hstop : ∀ (x : List Int) (i : Nat), x.length = x0.length → i < x0.length → Ev (fun k => L0 k x ((i + 1 : Nat) : Int)) r → Ev (fun k => L1 k x (i : Int) 0) r)
  (hless : ∀ (x : List Int) (i j : Nat), x.length = x0.length → i < x0.length → j + 1 < x0.length → V (x.getD (j + 1) 0) → V (x.getD j 0) → lt (x.getD (j + 1) 0) (x.getD j 0) = true → Ev (fun k => L1 k ((x.set (j + 1) (x.getD j 0)).set j (x.getD (j + 1) 0)) (i : Int) (j : Int)) r → Ev (fun k => L1 k x (i : Int) ((j + 1 : Nat) : Int)) r)
  (hmore : ∀ (x : List Int) (i j : Nat), x.length = x0.length → i < x0.length → j + 1 < x0.length → V (x.getD (j + 1) 0) → V (x.getD j 0) → lt (x.getD (j + 1) 0) (x.getD j 0) = false → Ev (fun k => L0 k x ((i + 1 : Nat) : Int)) r → Ev (fun k => L1 k x (i : Int) ((j + 1 : Nat) : Int)) r) :
  ∀ i : Nat, i ≤ 1 → Ev (fun k => L0 k x0 (i : Int)) r := by
 -- from a sorted head of length i on
 have houter : ∀ (d i : Nat), x0.length ≤ i + d → ∀ (p s : List Int), p.length = min i x0.length → (p ++ s).Perm x0 → p.Pairwise (fun a b => lt a b = true) → Ev (fun k => L0 k (p ++ s) (i : Int)) r := by
  intro d
  induction d with
  | zero =>
   intro i hi p s hp hps hs
   have hlen := hps.length_eq
   rw [List.length_append] at hlen
   have : s = [] := List.length_eq_zero_iff.1 (by omega)
   subst this
   rw [List.append_nil] at *
   exact hend p i (by omega) (by omega) hs hps
  | succ d ih =>
   intro i hi p s hp hps hs
   have hlen := hps.length_eq
   rw [List.length_append] at hlen
   by_cases hin : i < x0.length
   ·cases s with
    | nil => simp at hlen; omega
    | cons y s =>
     refine hgo _ i (by rw [List.length_append]; exact hlen) hin ?_
     -- y goes down through p; q has been passed
     have hinner : ∀ (e : Nat) (p' q : List Int), p'.length = e → (p' ++ q).length = i → (∀ z ∈ q, lt y z = true) → (p' ++ q).Pairwise (fun a b => lt a b = true) → (p' ++ y :: (q ++ s)).Perm x0 → Ev (fun k => L1 k (p' ++ y :: (q ++ s)) (i : Int) (e : Int)) r := by
      intro e
      induction e with
      | zero =>
       intro p' q hp' hpq hq hsort hperm
       have : p' = [] := List.length_eq_zero_iff.1 hp'
       subst this
       rw [List.nil_append] at *
       refine hstop _ i (hperm.length_eq) hin ?_
       have := ih (i + 1) (by omega) (y :: q) s (by simp only [List.length_cons]; omega) (by simpa using hperm) (List.pairwise_cons.2 ⟨hq, hsort⟩)
       simpa using this
      | succ e ihe =>
       intro p' q hp' hpq hq hsort hperm
       obtain ⟨p'', z, rfl⟩ : ∃ p'' z, p' = p'' ++ [z] := ⟨p'.dropLast, p'.getLast (by intro h; rw [h] at hp'; simp at hp'), (List.dropLast_concat_getLast _).symm⟩
       have hl'' : p''.length = e := by simp at hp'; omega
       have hx : (p'' ++ [z]) ++ y :: (q ++ s) = p'' ++ z :: y :: (q ++ s) := by simp
       rw [hx] at hperm ⊢
       have g1 : (p'' ++ z :: y :: (q ++ s)).getD (e + 1) 0 = y := by
        rw [List.getD_eq_getElem?_getD, List.getElem?_append_right (by omega)]
        rw [show e + 1 - p''.length = 1 by omega]; rfl
       have g0 : (p'' ++ z :: y :: (q ++ s)).getD e 0 = z := by
        rw [List.getD_eq_getElem?_getD, List.getElem?_append_right (by omega)]
        rw [show e - p''.length = 0 by omega]; rfl
       have hmy : y ∈ x0 := hperm.subset (by simp)
       have hmz : z ∈ x0 := hperm.subset (by simp)
       have hne : y ≠ z := by
        have hn := (hperm.nodup_iff).2 hnd
        have h2 := (List.nodup_append.1 hn).2.1
        rw [List.nodup_cons] at h2
        intro e'; exact h2.1 (by rw [e']; exact List.mem_cons_self)
       have hlx := hperm.length_eq
       have hlx' : p''.length + (q.length + s.length + 1 + 1) = x0.length := by simpa using hlx
       cases hc : lt y z with
       | true =>
        refine hless _ i e hlx hin (by omega) (by rw [g1]; exact hV y hmy) (by rw [g0]; exact hV z hmz) (by rw [g1, g0]; exact hc) ?_
        rw [g1, g0]
        have hset : ((p'' ++ z :: y :: (q ++ s)).set (e + 1) z).set e y = p'' ++ y :: ((z :: q) ++ s) := by
         rw [List.set_append_right _ _ (by omega), List.set_append_right _ _ (by omega), show e + 1 - p''.length = 1 by omega, show e - p''.length = 0 by omega]; simp
        rw [hset]
        refine ihe p'' (z :: q) hl'' (by simp at hpq ⊢; omega) (fun u hu => ?_) (by simpa using hsort) (List.Perm.trans (List.Perm.append_left p'' (List.Perm.swap _ _ _)) hperm)
        rcases List.mem_cons.1 hu with rfl | hu
        ·exact hc
        ·exact hq u hu
       | false =>
        have hzy := htot y z (hV y hmy) (hV z hmz) hne hc
        refine hmore _ i e hlx hin (by omega) (by rw [g1]; exact hV y hmy) (by rw [g0]; exact hV z hmz) (by rw [g1, g0]; exact hc) ?_
        have hs' := ih (i + 1) (by omega) (p'' ++ z :: y :: q) s (by simp at hpq ⊢; omega) (by simpa using hperm) ?_
        ·simpa using hs'
        ·have h1 : (p'' ++ z :: q).Pairwise (fun a b => lt a b = true) := by simpa using hsort
         obtain ⟨ha, hb, hcx⟩ := List.pairwise_append.1 h1
         obtain ⟨hb1, hb2⟩ := List.pairwise_cons.1 hb
         refine List.pairwise_append.2 ⟨ha, List.pairwise_cons.2 ⟨fun u hu => ?_, List.pairwise_cons.2 ⟨hq, hb2⟩⟩, fun u hu v hv => ?_⟩
         ·rcases List.mem_cons.1 hu with rfl | hu
          ·exact hzy
          ·exact hb1 u hu
         ·have huz := hcx u hu z List.mem_cons_self
          rcases List.mem_cons.1 hv with rfl | hv
          ·exact huz
          ·rcases List.mem_cons.1 hv with rfl | hv
           ·exact htrans u z _ huz hzy
           ·exact htrans u z v huz (hb1 v hv)
     have := hinner i p [] (by omega) (by simp; omega) (by simp) (by simpa using hs) (by simpa using hps)
     simpa using this
   ·have : s = [] := List.length_eq_zero_iff.1 (by omega)
    subst this
    rw [List.append_nil] at *
    exact hend p i (by omega) (by omega) hs hps
 intro i hi
 have hl : (x0.take i).length = min i x0.length := List.length_take
 have := houter x0.length i (by omega) (x0.take i) (x0.drop i) hl (by rw [List.take_append_drop]) (by
  have : (x0.take i).length ≤ 1 := by omega
  match h : x0.take i, this with
  | [], _ => exact List.Pairwise.nil
  | [a], _ => exact List.pairwise_singleton _ _)
 rwa [List.take_append_drop] at this
end Go.Proofs.YtdeipindfhkioaaMine
