/- DearestClass: the reference and the program. -/
import Derived.Test.YtehphbaobhnfjaaQ25
import Derived.Test.YtehphbaobhnfjaaPureC5k
import Derived.Test.YtehphbaobhnfjaaPureC5f
import Derived.Test.YtehphbaobhnfjaaPureC5m
set_option linter.unusedVariables false
set_option linter.unusedSimpArgs false
namespace Go.Proofs.Ytehphbaobhnfjaa.Pure
open Go.RowKit Go.Proofs.Ytehphbaobhnfjaa.Q Go.Proofs.YtehphbaobhnfjaaMine Go.Proofs.YtehphbaobhnfjaaW.PrintWords Go.Proofs.YtehphbaobhnfjaaW.PrintMore
section
variable {l : List (S63)} {m : List (S43)}
/-- The first class with the greatest duty. -/
def dear (l : List (S63)) (v g how : Int) : Nat → Int → Int → List (S63) → Int × Int × Int
  | _, b, t, [] => (b, t, 0)
  | i, b, t, c :: cs => if chg c v g how > t then dear l v g how (i + 1) (i : Int) (chg c v g how) cs else dear l v g how (i + 1) b t cs
theorem dear_first {L : List (S63)} {v g how : Int} {c : S63} {cs : List (S63)} (h : chg c v g how > -1) : dear L v g how 0 0 (-1) (c :: cs) = dear L v g how 1 0 (chg c v g how) cs := by
  rw [dear, if_pos h]; rfl
def rDear (l : List (S63)) (v g how : Int) : Int × Int × Int :=
  if okCs l = true then (if (inR v 0 1000000 && (inR g 0 1000000 && inR how 0 3)) = true then dear l v g how 0 0 (-1) l else (0, 0, 2)) else (0, 0, 1)
theorem okCs_bd (h : okCs l = true) : (1 ≤ l.length ∧ l.length ≤ 8) ∧ ∀ c ∈ l, okC c = true := by
  unfold okCs at h
  simp only [Bool.and_eq_true, inR_iff, List.all_eq_true] at h
  exact ⟨⟨by omega, by omega⟩, h.2⟩
theorem specDearLoop (q : ∀ c ∈ l, okC c = true) (hl : l.length ≤ 2097152) {v g how : Int} (v0 : 0 ≤ v) (v1 : v ≤ 1000000) (g0 : 0 ≤ g) (g1 : g ≤ 1000000) :
    ∀ (d j : Nat), j + d = l.length → ∀ b t, Ev (fun k => spec_DearestClass.l0 k l v g how b t (j : Int)) (dear l v g how j b t (l.drop j)) := by
  intro d
  induction d with
  | zero =>
    intro j hj b t
    rw [List.drop_eq_nil_of_le (by omega)]
    exact Ev.step (f := fun _ => some (b, t, 0)) (fun k => by simp only [spec_DearestClass.l0]; rw [if_neg (by omega)]) (Ev.now _)
  | succ d ih =>
    intro j hj b t
    have hx := (get_mem z63 (show j < l.length by omega)).1
    have hc := specChg (q _ hx) v0 (show v ≤ 1000000000 by omega) g0 (show g ≤ 1000000000 by omega) (how := how)
    rw [drop_step z63 (by omega)]
    unfold dear
    have hstep : ∀ k, spec_DearestClass.l0 (k + 1) l v g how b t (j : Int) = if chg (l.getD j z63) v g how > t then spec_DearestClass.l0 k l v g how (j : Int) (chg (l.getD j z63) v g how) ((j + 1 : Nat) : Int) else spec_DearestClass.l0 k l v g how b t ((j + 1 : Nat) : Int) := by
      intro k
      simp only [spec_DearestClass.l0]
      rw [if_pos (by omega), if_pos (by omega)]
      unfold rd_T63
      rw [Int.toNat_natCast, hc, Option.bind_some, wrap_sm (i := (j : Int) + 1) (by omega) (by omega)]
      rfl
    refine Ev.step hstep ?_
    by_cases h : chg (l.getD j z63) v g how > t
    · simp only [if_pos h]; exact ih (j + 1) (by omega) _ _
    · simp only [if_neg h]; exact ih (j + 1) (by omega) _ _
theorem implDearLoop (q : ∀ c ∈ l, okC c = true) (hl : l.length ≤ 2097152) {v g how : Int} (v0 : 0 ≤ v) (v1 : v ≤ 1000000) (g0 : 0 ≤ g) (g1 : g ≤ 1000000) (w0 : 0 ≤ how) (w3 : how ≤ 3) :
    ∀ (d j : Nat), j + d = l.length → ∀ b t, Ev (fun k => impl_DearestClass.l0 k v g how b t l (l.length : Int) (j : Int)) (dear l v g how j b t (l.drop j)) := by
  intro d
  induction d with
  | zero =>
    intro j hj b t
    rw [List.drop_eq_nil_of_le (by omega)]
    exact Ev.step (f := fun _ => some (b, t, 0)) (fun k => by simp only [impl_DearestClass.l0]; rw [if_neg (by omega)]) (Ev.now _)
  | succ d ih =>
    intro j hj b t
    have hx := (get_mem z63 (show j < l.length by omega)).1
    have hc := implChg (q _ hx) v0 (show v ≤ 1000000000 by omega) g0 (show g ≤ 1000000000 by omega) w0 w3
    rw [drop_step z63 (by omega)]
    unfold dear
    have hstep : ∀ k, impl_DearestClass.l0 (k + 1) v g how b t l (l.length : Int) (j : Int) = (impl_Class_duty.f k (l.getD j z63).f0 (l.getD j z63).f1 (l.getD j z63).f2 (l.getD j z63).f3 v g how).bind fun r =>
        if r > t then impl_DearestClass.l0 k v g how (j : Int) r l (l.length : Int) ((j + 1 : Nat) : Int) else impl_DearestClass.l0 k v g how b t l (l.length : Int) ((j + 1 : Nat) : Int) := by
      intro k
      simp only [impl_DearestClass.l0]
      rw [if_pos (show (j : Int) < (l.length : Int) by omega), if_pos (show (0 : Int) ≤ (j : Int) by omega), if_pos (show (j : Int) < (l.length : Int) by omega)]
      unfold rd_T63
      rw [Int.toNat_natCast, wrap_sm (i := (j : Int) + 1) (by omega) (by omega)]
      rfl
    refine Ev.step hstep ?_
    refine Ev.bind hc ?_
    by_cases h : chg (l.getD j z63) v g how > t
    · simp only [if_pos h]; exact ih (j + 1) (by omega) _ _
    · simp only [if_neg h]; exact ih (j + 1) (by omega) _ _
theorem specDearestClass (hl : l.length ≤ 2097152) (hc : ∀ x ∈ l, wfClass x) (v g how : Int) : Ev (fun k => spec_DearestClass.f k l v g how) (rDear l v g how) := by
  have hj : ∀ k, spec_DearestClass.j0 (k + 1) l v g how true = some (0, 0, 2) := fun k => by simp [spec_DearestClass.j0]
  unfold spec_DearestClass.f rDear
  refine Ev.bind (specCs hl hc) ?_
  cases ho : okCs l with
  | false => simp only [Bool.false_eq_true, if_false]; exact Ev.now _
  | true =>
    obtain ⟨⟨n1, n2⟩, q⟩ := okCs_bd ho
    simp only [if_true, decl_eq, l05How_eq, Option.bind_some]
    cases hv : inR v 0 1000000 with
    | false => simp only [Bool.false_eq_true, if_false, Bool.false_and]; exact Ev.step hj (Ev.now _)
    | true =>
      cases hg : inR g 0 1000000 with
      | false => simp only [Bool.false_eq_true, if_false, if_true, Bool.false_and, Bool.and_false]; exact Ev.step hj (Ev.now _)
      | true =>
        cases hh : inR how 0 3 with
        | false => simp only [Bool.false_eq_true, if_false, if_true, Bool.and_false, Bool.not_false]; exact Ev.step hj (Ev.now _)
        | true =>
          obtain ⟨v0, v1⟩ := inR_iff.1 hv
          obtain ⟨g0, g1⟩ := inR_iff.1 hg
          simp only [if_true, Bool.and_self, Bool.not_true]
          have hx := (get_mem z63 (show 0 < l.length by omega)).1
          have hc := specChg (q _ hx) v0 (show v ≤ 1000000000 by omega) g0 (show g ≤ 1000000000 by omega) (how := how)
          have hb := chg_bd (q _ hx) v0 (show v ≤ 1000000000 by omega) g0 (show g ≤ 1000000000 by omega) (how := how)
          refine Ev.step (f := fun k => spec_DearestClass.l0 k l v g how 0 (chg (l.getD 0 z63) v g how) ((1 : Nat) : Int)) (fun k => ?_) (Ev.eq (specDearLoop q hl v0 v1 g0 g1 (l.length - 1) 1 (by omega) 0 _) ?_)
          · simp only [spec_DearestClass.j0]
            rw [if_neg (by simp), if_pos (by omega)]
            unfold rd_T63
            rw [Int.toNat_zero, hc]; rfl
          · have h0 : l = l.getD 0 z63 :: l.drop 1 := by have := drop_step (l := l) (i := 0) z63 (by omega); simpa using this
            have h1 := dear_first (L := l) (v := v) (g := g) (how := how) (c := l.getD 0 z63) (cs := l.drop 1) (by omega)
            rw [← h0] at h1
            exact h1.symm
theorem implDearestClass (hl : l.length ≤ 2097152) (hc : ∀ x ∈ l, wfClass x) (v g how : Int) : Ev (fun k => impl_DearestClass.f k l v g how) (rDear l v g how) := by
  unfold impl_DearestClass.f rDear
  have e0 : okF l [] = okCs l := by unfold okF; simp
  simp only [implFormCode hl hc (m := []) (by simp) (by simp), Option.bind_some, e0, within_eq]
  cases ho : okCs l with
  | false => simp only [Bool.false_eq_true, if_false]; exact Ev.now _
  | true =>
    obtain ⟨⟨n1, n2⟩, q⟩ := okCs_bd ho
    simp only [if_true]
    cases hh : inR how 0 3 with
    | false => simp only [Bool.false_eq_true, if_false, Bool.and_false]; exact Ev.now _
    | true =>
      cases hv : inR v 0 1000000 with
      | false => simp only [Bool.false_eq_true, if_false, if_true, Bool.false_and]; exact Ev.now _
      | true =>
        cases hg : inR g 0 1000000 with
        | false => simp only [Bool.false_eq_true, if_false, if_true, Bool.false_and, Bool.and_false]; exact Ev.now _
        | true =>
          obtain ⟨v0, v1⟩ := inR_iff.1 hv
          obtain ⟨g0, g1⟩ := inR_iff.1 hg
          obtain ⟨w0, w3⟩ := inR_iff.1 hh
          simp only [if_true, Bool.and_self]
          exact implDearLoop q hl v0 v1 g0 g1 w0 w3 l.length 0 (by omega) 0 (-1)
end
end Go.Proofs.Ytehphbaobhnfjaa.Pure
