/- An insertion sort that is stable: where what came first may be told from what came later. No memory, no Go. -/
import Derived.Test.YtdeipindfhkioaaPureB1
set_option linter.unusedVariables false
set_option linter.unusedSimpArgs false
namespace Go.Proofs.YtdeipindfhkioaaMine
open Go.RowKit Go.Proofs.YtdeipindfhkioaaW.PrintWords
theorem insSortB {ρ : Type} (L0 : Nat → List Int → Int → Option ρ) (L1 : Nat → List Int → Int → Int → Option ρ) (lt cm : Int → Int → Bool) (B : Int → Int → Prop) (x0 : List Int) (r : ρ)
  (htrans : ∀ a b c, lt a b = true → lt b c = true → lt a c = true) (h1 : ∀ z y, B z y → cm y z = true → lt y z = true) (h2 : ∀ z y, B z y → cm y z = false → lt z y = true) (hB : x0.Pairwise B)
  (hgo : ∀ (x : List Int) (i : Nat), x.length = x0.length → i < x0.length → Ev (fun k => L1 k x (i : Int) (i : Int)) r → Ev (fun k => L0 k x (i : Int)) r)
  (hend : ∀ (x : List Int) (i : Nat), x.length = x0.length → x0.length ≤ i → x.Pairwise (fun a b => lt a b = true) → x.Perm x0 → Ev (fun k => L0 k x (i : Int)) r)
  (hstop : ∀ (x : List Int) (i : Nat), x.length = x0.length → i < x0.length → Ev (fun k => L0 k x ((i + 1 : Nat) : Int)) r → Ev (fun k => L1 k x (i : Int) 0) r)
  (hless : ∀ (x : List Int) (i j : Nat), x.length = x0.length → i < x0.length → j + 1 < x0.length → x.getD (j + 1) 0 ∈ x0 → x.getD j 0 ∈ x0 → cm (x.getD (j + 1) 0) (x.getD j 0) = true → Ev (fun k => L1 k ((x.set (j + 1) (x.getD j 0)).set j (x.getD (j + 1) 0)) (i : Int) (j : Int)) r → Ev (fun k => L1 k x (i : Int) ((j + 1 : Nat) : Int)) r)
  (hmore : ∀ (x : List Int) (i j : Nat), x.length = x0.length → i < x0.length → j + 1 < x0.length → x.getD (j + 1) 0 ∈ x0 → x.getD j 0 ∈ x0 → cm (x.getD (j + 1) 0) (x.getD j 0) = false → Ev (fun k => L0 k x ((i + 1 : Nat) : Int)) r → Ev (fun k => L1 k x (i : Int) ((j + 1 : Nat) : Int)) r) :
  ∀ i : Nat, i ≤ 1 → Ev (fun k => L0 k x0 (i : Int)) r := by
 have houter : ∀ (d i : Nat), x0.length ≤ i + d → ∀ p : List Int, p.Perm (x0.take i) → p.Pairwise (fun a b => lt a b = true) → Ev (fun k => L0 k (p ++ x0.drop i) (i : Int)) r := by
  intro d
  induction d with
  | zero =>
   intro i hi p hp hs
   have hd : x0.drop i = [] := List.drop_eq_nil_of_le (by omega)
   have ht : x0.take i = x0 := List.take_of_length_le (by omega)
   rw [hd, List.append_nil]
   rw [ht] at hp
   exact hend p i hp.length_eq (by omega) hs hp
  | succ d ih =>
   intro i hi p hp hs
   by_cases hin : i < x0.length
   ·have hpl : p.length = i := by rw [hp.length_eq, List.length_take]; omega
    obtain ⟨y, hy⟩ : ∃ y, y = x0.getD i 0 := ⟨_, rfl⟩
    have hdr : x0.drop i = y :: x0.drop (i + 1) := by rw [hy]; exact drop_step 0 hin
    have htk : x0.take (i + 1) = x0.take i ++ [y] := by rw [List.take_add_one, getD_ge (z := (0 : Int)) hin, hy]; rfl
    have hmem : ∀ z, z ∈ x0.take i ∨ z = y → z ∈ x0 := by
     rintro z (h | h)
     ·exact List.mem_of_mem_take h
     ·rw [h, hy]; exact (get_mem (0 : Int) hin).1
    have hBy : ∀ z ∈ x0.take i, B z y := by
     have h := hB
     rw [← List.take_append_drop i x0, hdr] at h
     exact fun z hz => (List.pairwise_append.1 h).2.2 z hz y List.mem_cons_self
    rw [hdr]
    have hlen : ∀ p' q : List Int, (p' ++ q).Perm (x0.take i) → (p' ++ y :: (q ++ x0.drop (i + 1))).length = x0.length := by
     intro p' q h
     have := h.length_eq
     simp only [List.length_append, List.length_take, List.length_cons, List.length_drop] at this ⊢; omega
    refine hgo _ i (by have := hlen p [] (by simpa using hp); simpa using this) hin ?_
    have hinner : ∀ (e : Nat) (p' q : List Int), p'.length = e → (p' ++ q).Perm (x0.take i) → (∀ z ∈ q, lt y z = true) → (p' ++ q).Pairwise (fun a b => lt a b = true) → Ev (fun k => L1 k (p' ++ y :: (q ++ x0.drop (i + 1))) (i : Int) (e : Int)) r := by
     intro e
     induction e with
     | zero =>
      intro p' q hp' hpq hq hsort
      have : p' = [] := List.length_eq_zero_iff.1 hp'
      subst this
      rw [List.nil_append] at *
      refine hstop _ i (by have := hlen [] q hpq; simpa using this) hin ?_
      have := ih (i + 1) (by omega) (y :: q) (by rw [htk]; exact (List.Perm.cons y hpq).trans (List.perm_append_singleton y _).symm) (List.pairwise_cons.2 ⟨hq, hsort⟩)
      simpa using this
     | succ e ihe =>
      intro p' q hp' hpq hq hsort
      obtain ⟨p'', z, rfl⟩ : ∃ p'' z, p' = p'' ++ [z] := ⟨p'.dropLast, p'.getLast (by intro h; rw [h] at hp'; simp at hp'), (List.dropLast_concat_getLast _).symm⟩
      have hl'' : p''.length = e := by simp at hp'; omega
      have hlx := hlen _ _ hpq
      have hx : (p'' ++ [z]) ++ y :: (q ++ x0.drop (i + 1)) = p'' ++ z :: y :: (q ++ x0.drop (i + 1)) := by simp
      rw [hx] at hlx ⊢
      have g1 : (p'' ++ z :: y :: (q ++ x0.drop (i + 1))).getD (e + 1) 0 = y := by
       rw [List.getD_eq_getElem?_getD, List.getElem?_append_right (by omega)]
       rw [show e + 1 - p''.length = 1 by omega]; rfl
      have g0 : (p'' ++ z :: y :: (q ++ x0.drop (i + 1))).getD e 0 = z := by
       rw [List.getD_eq_getElem?_getD, List.getElem?_append_right (by omega)]
       rw [show e - p''.length = 0 by omega]; rfl
      have hz : z ∈ x0.take i := hpq.subset (by simp)
      have hb := hBy z hz
      have he : e + 1 < x0.length := by
       have := hpq.length_eq
       simp only [List.length_append, List.length_take, List.length_cons, List.length_nil] at this; omega
      cases hc : cm y z with
      | true =>
       refine hless _ i e hlx hin he (by rw [g1]; exact hmem y (.inr rfl)) (by rw [g0]; exact hmem z (.inl hz)) (by rw [g1, g0]; exact hc) ?_
       rw [g1, g0]
       have hset : ((p'' ++ z :: y :: (q ++ x0.drop (i + 1))).set (e + 1) z).set e y = p'' ++ y :: ((z :: q) ++ x0.drop (i + 1)) := by
        rw [List.set_append_right _ _ (by omega), List.set_append_right _ _ (by omega), show e + 1 - p''.length = 1 by omega, show e - p''.length = 0 by omega]; simp
       rw [hset]
       refine ihe p'' (z :: q) hl'' (by simpa using hpq) (fun u hu => ?_) (by simpa using hsort)
       rcases List.mem_cons.1 hu with rfl | hu
       ·exact h1 _ y hb hc
       ·exact hq u hu
      | false =>
       have hzy := h2 z y hb hc
       refine hmore _ i e hlx hin he (by rw [g1]; exact hmem y (.inr rfl)) (by rw [g0]; exact hmem z (.inl hz)) (by rw [g1, g0]; exact hc) ?_
       have hs' := ih (i + 1) (by omega) (p'' ++ z :: y :: q) ?_ ?_
       ·simpa using hs'
       ·rw [htk]
        have hm : ((p'' ++ [z]) ++ y :: q).Perm (y :: ((p'' ++ [z]) ++ q)) := List.perm_middle
        have h3 := (hm.trans (List.Perm.cons y hpq)).trans (List.perm_append_singleton y _).symm
        simpa using h3
       ·have h3 : (p'' ++ z :: q).Pairwise (fun a b => lt a b = true) := by simpa using hsort
        obtain ⟨ha, hb', hcx⟩ := List.pairwise_append.1 h3
        obtain ⟨hb1, hb2⟩ := List.pairwise_cons.1 hb'
        refine List.pairwise_append.2 ⟨ha, List.pairwise_cons.2 ⟨fun u hu => ?_, List.pairwise_cons.2 ⟨hq, hb2⟩⟩, fun u hu v hv => ?_⟩
        ·rcases List.mem_cons.1 hu with rfl | hu
         ·exact hzy
         ·exact hb1 u hu
        ·have huz := hcx u hu z List.mem_cons_self
         rcases List.mem_cons.1 hv with rfl | hv
         ·exact huz
         ·rcases List.mem_cons.1 hv with rfl | hv
          ·exact htrans u z _ huz hzy
          ·exact htrans u z v huz (hb1 v hv)
    have := hinner i p [] hpl (by simpa using hp) (by simp) (by simpa using hs)
    simpa using this
   ·have hd : x0.drop i = [] := List.drop_eq_nil_of_le (by omega)
    have ht : x0.take i = x0 := List.take_of_length_le (by omega)
    rw [hd, List.append_nil]
    rw [ht] at hp
    exact hend p i hp.length_eq (by omega) hs hp
 intro i hi
 have := houter x0.length i (by omega) (x0.take i) (List.Perm.refl _) (by
  have hl : (x0.take i).length ≤ 1 := by rw [List.length_take]; omega
  match h : x0.take i, hl with
  | [], _ => exact List.Pairwise.nil
  | [a], _ => exact List.pairwise_singleton _ _)
 rwa [List.take_append_drop] at this
end Go.Proofs.YtdeipindfhkioaaMine
