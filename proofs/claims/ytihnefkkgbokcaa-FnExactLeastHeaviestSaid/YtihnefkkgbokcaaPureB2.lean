/- An insertion sort of numbers, whether they are distinct or not; what is left of a sorted list when equal neighbours are one. No memory, no Go. -/
import Derived.Test.YtihnefkkgbokcaaPureB0
set_option linter.unusedVariables false
set_option linter.unusedSimpArgs false
namespace Go.Proofs.YtihnefkkgbokcaaMine
open Go.RowKit Go.Proofs.YtihnefkkgbokcaaW.PrintWords
theorem insSortLe {ρ : Type} (L0 : Nat → List Int → Int → Option ρ) (L1 : Nat → List Int → Int → Int → Option ρ) (lt : Int → Int → Bool) (le : Int → Int → Prop) (x0 : List Int) (r : ρ)
    (h1 : ∀ a b, lt a b = true → le a b) (h2 : ∀ a b, lt a b = false → le b a) (htrans : ∀ a b c, le a b → le b c → le a c)
    (hgo : ∀ (x : List Int) (i : Nat), x.length = x0.length → i < x0.length → Ev (fun k => L1 k x (i : Int) (i : Int)) r → Ev (fun k => L0 k x (i : Int)) r)
    (hend : ∀ (x : List Int) (i : Nat), x.length = x0.length → x0.length ≤ i → x.Pairwise le → x.Perm x0 → Ev (fun k => L0 k x (i : Int)) r)
    (hstop : ∀ (x : List Int) (i : Nat), x.length = x0.length → i < x0.length → Ev (fun k => L0 k x ((i + 1 : Nat) : Int)) r → Ev (fun k => L1 k x (i : Int) 0) r)
    (hless : ∀ (x : List Int) (i j : Nat), x.length = x0.length → i < x0.length → j + 1 < x0.length → lt (x.getD (j + 1) 0) (x.getD j 0) = true → Ev (fun k => L1 k ((x.set (j + 1) (x.getD j 0)).set j (x.getD (j + 1) 0)) (i : Int) (j : Int)) r → Ev (fun k => L1 k x (i : Int) ((j + 1 : Nat) : Int)) r)
    (hmore : ∀ (x : List Int) (i j : Nat), x.length = x0.length → i < x0.length → j + 1 < x0.length → lt (x.getD (j + 1) 0) (x.getD j 0) = false → Ev (fun k => L0 k x ((i + 1 : Nat) : Int)) r → Ev (fun k => L1 k x (i : Int) ((j + 1 : Nat) : Int)) r) :
    ∀ i : Nat, i ≤ 1 → Ev (fun k => L0 k x0 (i : Int)) r := by
  -- from a sorted head of length i on
  have houter : ∀ (d i : Nat), x0.length ≤ i + d → ∀ (p s : List Int), p.length = min i x0.length → (p ++ s).Perm x0 → p.Pairwise le → Ev (fun k => L0 k (p ++ s) (i : Int)) r := by
    intro d
    induction d with
    | zero =>
      intro i hi p s hp hps hs
      have hlen := hps.length_eq
      rw [List.length_append] at hlen
      have : s = [] := List.length_eq_zero_iff.1 (by omega)
      subst this
      rw [List.append_nil] at *
      exact hend p i (by omega) (by omega) hs hps
    | succ d ih =>
      intro i hi p s hp hps hs
      have hlen := hps.length_eq
      rw [List.length_append] at hlen
      by_cases hin : i < x0.length
      · cases s with
        | nil => simp at hlen; omega
        | cons y s =>
          refine hgo _ i (by rw [List.length_append]; exact hlen) hin ?_
          -- y goes down through p; q has been passed
          have hinner : ∀ (e : Nat) (p' q : List Int), p'.length = e → (p' ++ q).length = i → (∀ z ∈ q, le y z) → (p' ++ q).Pairwise le → (p' ++ y :: (q ++ s)).Perm x0 → Ev (fun k => L1 k (p' ++ y :: (q ++ s)) (i : Int) (e : Int)) r := by
            intro e
            induction e with
            | zero =>
              intro p' q hp' hpq hq hsort hperm
              have : p' = [] := List.length_eq_zero_iff.1 hp'
              subst this
              rw [List.nil_append] at *
              refine hstop _ i (hperm.length_eq) hin ?_
              have := ih (i + 1) (by omega) (y :: q) s (by simp only [List.length_cons]; omega) (by simpa using hperm) (List.pairwise_cons.2 ⟨hq, hsort⟩)
              simpa using this
            | succ e ihe =>
              intro p' q hp' hpq hq hsort hperm
              obtain ⟨p'', z, rfl⟩ : ∃ p'' z, p' = p'' ++ [z] := ⟨p'.dropLast, p'.getLast (by intro h; rw [h] at hp'; simp at hp'), (List.dropLast_concat_getLast _).symm⟩
              have hl'' : p''.length = e := by simp at hp'; omega
              have hx : (p'' ++ [z]) ++ y :: (q ++ s) = p'' ++ z :: y :: (q ++ s) := by simp
              rw [hx] at hperm ⊢
              have g1 : (p'' ++ z :: y :: (q ++ s)).getD (e + 1) 0 = y := by
                rw [List.getD_eq_getElem?_getD, List.getElem?_append_right (by omega)]
                rw [show e + 1 - p''.length = 1 by omega]; rfl
              have g0 : (p'' ++ z :: y :: (q ++ s)).getD e 0 = z := by
                rw [List.getD_eq_getElem?_getD, List.getElem?_append_right (by omega)]
                rw [show e - p''.length = 0 by omega]; rfl
              have hlx := hperm.length_eq
              have hlx' : p''.length + (q.length + s.length + 1 + 1) = x0.length := by simpa using hlx
              cases hc : lt y z with
              | true =>
                refine hless _ i e hlx hin (by omega) (by rw [g1, g0]; exact hc) ?_
                rw [g1, g0]
                have hset : ((p'' ++ z :: y :: (q ++ s)).set (e + 1) z).set e y = p'' ++ y :: ((z :: q) ++ s) := by
                  rw [List.set_append_right _ _ (by omega), List.set_append_right _ _ (by omega), show e + 1 - p''.length = 1 by omega, show e - p''.length = 0 by omega]; simp
                rw [hset]
                refine ihe p'' (z :: q) hl'' (by simp at hpq ⊢; omega) (fun u hu => ?_) (by simpa using hsort) (List.Perm.trans (List.Perm.append_left p'' (List.Perm.swap _ _ _)) hperm)
                rcases List.mem_cons.1 hu with rfl | hu
                · exact h1 y _ hc
                · exact hq u hu
              | false =>
                have hzy := h2 y z hc
                refine hmore _ i e hlx hin (by omega) (by rw [g1, g0]; exact hc) ?_
                have hs' := ih (i + 1) (by omega) (p'' ++ z :: y :: q) s (by simp at hpq ⊢; omega) (by simpa using hperm) ?_
                · simpa using hs'
                · have h3 : (p'' ++ z :: q).Pairwise le := by simpa using hsort
                  obtain ⟨ha, hb, hcx⟩ := List.pairwise_append.1 h3
                  obtain ⟨hb1, hb2⟩ := List.pairwise_cons.1 hb
                  refine List.pairwise_append.2 ⟨ha, List.pairwise_cons.2 ⟨fun u hu => ?_, List.pairwise_cons.2 ⟨hq, hb2⟩⟩, fun u hu v hv => ?_⟩
                  · rcases List.mem_cons.1 hu with rfl | hu
                    · exact hzy
                    · exact hb1 u hu
                  · have huz := hcx u hu z List.mem_cons_self
                    rcases List.mem_cons.1 hv with rfl | hv
                    · exact huz
                    · rcases List.mem_cons.1 hv with rfl | hv
                      · exact htrans u z _ huz hzy
                      · exact htrans u z v huz (hb1 v hv)
          have := hinner i p [] (by omega) (by simp; omega) (by simp) (by simpa using hs) (by simpa using hps)
          simpa using this
      · have : s = [] := List.length_eq_zero_iff.1 (by omega)
        subst this
        rw [List.append_nil] at *
        exact hend p i (by omega) (by omega) hs hps
  intro i hi
  have hl : (x0.take i).length = min i x0.length := List.length_take
  have := houter x0.length i (by omega) (x0.take i) (x0.drop i) hl (by rw [List.take_append_drop]) (by
    have : (x0.take i).length ≤ 1 := by omega
    match h : x0.take i, this with
    | [], _ => exact List.Pairwise.nil
    | [a], _ => exact List.pairwise_singleton _ _)
  rwa [List.take_append_drop] at this
/-- Of a list behind p those that differ from the one before. -/
def ddF : Int → List Int → List Int
  | _, [] => []
  | p, a :: t => if a = p then ddF a t else a :: ddF a t
def cpt (x : List Int) : List Int := x.take 1 ++ ddF (x.getD 0 0) (x.drop 1)
theorem ddF_sorted : ∀ (t : List Int) (p : Int), (∀ a ∈ t, p ≤ a) → t.Pairwise (· ≤ ·) → (ddF p t).Pairwise (· < ·) ∧ ∀ a, a ∈ ddF p t ↔ a ∈ t ∧ a ≠ p
  | [], p, _, _ => by simp [ddF]
  | b :: t, p, hp, hs => by
    obtain ⟨hb, ht⟩ := List.pairwise_cons.1 hs
    obtain ⟨i1, i2⟩ := ddF_sorted t b hb ht
    unfold ddF
    by_cases e : b = p
    · rw [if_pos e]
      refine ⟨i1, fun a => ?_⟩
      rw [i2, List.mem_cons, e]
      constructor
      · exact fun h => ⟨.inr h.1, h.2⟩
      · rintro ⟨h | h, h2⟩
        · exact (h2 h).elim
        · exact ⟨h, h2⟩
    · rw [if_neg e]
      have hpb := hp b List.mem_cons_self
      refine ⟨List.pairwise_cons.2 ⟨fun a ha => ?_, i1⟩, fun a => ?_⟩
      · obtain ⟨h1, h2⟩ := (i2 a).1 ha
        have := hb a h1; omega
      · rw [List.mem_cons, i2, List.mem_cons]
        constructor
        · rintro (h | ⟨h, h2⟩)
          · exact ⟨.inl h, by omega⟩
          · have := hb a h; exact ⟨.inr h, by omega⟩
        · rintro ⟨h | h, h2⟩
          · exact .inl h
          · by_cases e2 : a = b
            · exact .inl e2
            · exact .inr ⟨h, e2⟩
theorem cpt_sorted {x : List Int} (hs : x.Pairwise (· ≤ ·)) : (cpt x).Pairwise (· < ·) ∧ ∀ a, a ∈ cpt x ↔ a ∈ x := by
  cases x with
  | nil => simp [cpt, ddF]
  | cons b t =>
    obtain ⟨hb, ht⟩ := List.pairwise_cons.1 hs
    obtain ⟨i1, i2⟩ := ddF_sorted t b hb ht
    have e : cpt (b :: t) = b :: ddF b t := rfl
    rw [e]
    refine ⟨List.pairwise_cons.2 ⟨fun a ha => ?_, i1⟩, fun a => ?_⟩
    · obtain ⟨h1, h2⟩ := (i2 a).1 ha
      have := hb a h1; omega
    · rw [List.mem_cons, i2, List.mem_cons]
      constructor
      · rintro (h | ⟨h, _⟩)
        · exact .inl h
        · exact .inr h
      · rintro (h | h)
        · exact .inl h
        · by_cases e2 : a = b
          · exact .inl e2
          · exact .inr ⟨h, e2⟩
/-- Two strictly rising lists with the same elements are one. -/
theorem rising_one : ∀ (l m : List Int), l.Pairwise (· < ·) → m.Pairwise (· < ·) → (∀ a, a ∈ l ↔ a ∈ m) → l = m
  | [], [], _, _, _ => rfl
  | [], b :: m, _, _, h => by have := (h b).2 List.mem_cons_self; simp at this
  | a :: l, [], _, _, h => by have := (h a).1 List.mem_cons_self; simp at this
  | a :: l, b :: m, hl, hm, h => by
    obtain ⟨hl1, hl2⟩ := List.pairwise_cons.1 hl
    obtain ⟨hm1, hm2⟩ := List.pairwise_cons.1 hm
    have e : a = b := by
      rcases List.mem_cons.1 ((h a).1 List.mem_cons_self) with e | ha
      · exact e
      · rcases List.mem_cons.1 ((h b).2 List.mem_cons_self) with e | hb
        · exact e.symm
        · have := hl1 b hb; have := hm1 a ha; omega
    subst e
    rw [rising_one l m hl2 hm2 (fun c => ?_)]
    constructor
    · intro hc
      have := hl1 c hc
      rcases List.mem_cons.1 ((h c).1 (List.mem_cons_of_mem _ hc)) with e | hc'
      · omega
      · exact hc'
    · intro hc
      have := hm1 c hc
      rcases List.mem_cons.1 ((h c).2 (List.mem_cons_of_mem _ hc)) with e | hc'
      · omega
      · exact hc'
end Go.Proofs.YtihnefkkgbokcaaMine
