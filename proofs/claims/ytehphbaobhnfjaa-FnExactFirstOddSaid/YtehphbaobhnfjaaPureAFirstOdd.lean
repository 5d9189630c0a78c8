/- FirstOdd: the reference and the program. -/
import Derived.Test.YtehphbaobhnfjaaQ26
import Derived.Test.YtehphbaobhnfjaaPureC5a
import Derived.Test.YtehphbaobhnfjaaPureC5s
import Derived.Test.YtehphbaobhnfjaaPureC5m
set_option linter.unusedVariables false
set_option linter.unusedSimpArgs false
namespace Go.Proofs.Ytehphbaobhnfjaa.Pure
open Go.RowKit Go.Proofs.Ytehphbaobhnfjaa.Q Go.Proofs.YtehphbaobhnfjaaMine Go.Proofs.YtehphbaobhnfjaaW.PrintWords Go.Proofs.YtehphbaobhnfjaaW.PrintMore
section
variable {l : List (S63)} {m : List (S43)}
/-- The first line whose unit's value is odd. -/
def oddI (lo hi : Int) (m : List (S43)) : Int := findI (fun x => !inR (wrap64 (Int.tdiv (wrap64 x.f2) (wrap64 x.f1))) lo hi) m
def rOdd (l : List (S63)) (m : List (S43)) (lo hi : Int) : Int × Int :=
  if okF l m = true then (if (inR lo 0 hi && inR hi 0 1000000) = true then (if oddI lo hi m < 0 then (0, 6) else (oddI lo hi m, 0)) else (0, 2)) else (0, 1)
theorem specOddLoop (n : Int) (q : ∀ x ∈ m, okL n x = true) (hm : m.length ≤ 2097152) (lo hi : Int) :
    ∀ (d j : Nat), j + d = m.length → Ev (fun k => spec_FirstOdd.l0 k m lo hi (j : Int)) (if oddI lo hi (m.drop j) < 0 then (0, 6) else (oddI lo hi (m.drop j) + (j : Int), 0)) := by
  intro d
  induction d with
  | zero =>
    intro j hj
    rw [List.drop_eq_nil_of_le (by omega)]
    exact Ev.step (f := fun _ => some (0, 6)) (fun k => by simp only [spec_FirstOdd.l0]; rw [if_neg (by omega)]) (Ev.now _)
  | succ d ih =>
    intro j hj
    have hx := (get_mem z43 (show j < m.length by omega)).1
    obtain ⟨_, ⟨b1, b2⟩, _⟩ := okL_bd (q _ hx)
    rw [drop_step z43 (by omega)]
    have hlo : -1 ≤ oddI lo hi (m.drop (j + 1)) := findI_lo _ _
    have hne : ¬ wrap64 (m.getD j z43).f1 = 0 := by rw [wrap_id (by omega) (by omega)]; omega
    have hstep : ∀ k, spec_FirstOdd.l0 (k + 1) m lo hi (j : Int) = if inR (wrap64 (Int.tdiv (wrap64 (m.getD j z43).f2) (wrap64 (m.getD j z43).f1))) lo hi = true then spec_FirstOdd.l0 k m lo hi ((j + 1 : Nat) : Int) else some ((j : Int), 0) := by
      intro k
      simp only [spec_FirstOdd.l0]
      rw [if_pos (by omega), if_pos (by omega)]
      unfold rd_T43
      rw [Int.toNat_natCast, if_neg hne, l00In_eq, Option.bind_some, wrap_sm (i := (j : Int) + 1) (by omega) (by omega)]
      rfl
    refine Ev.step hstep ?_
    cases hb : inR (wrap64 (Int.tdiv (wrap64 (m.getD j z43).f2) (wrap64 (m.getD j z43).f1))) lo hi with
    | true =>
      simp only [if_true]
      refine Ev.eq (ih (j + 1) (by omega)) ?_
      have e1 : ∀ xs, oddI lo hi (m.getD j z43 :: xs) = if oddI lo hi xs < 0 then -1 else oddI lo hi xs + 1 := fun xs => by
        show findI _ (_ :: _) = _
        rw [findI]
        simp only [hb, Bool.not_true, Bool.false_eq_true, if_false]
        rfl
      rw [e1]
      by_cases h : oddI lo hi (m.drop (j + 1)) < 0
      · simp only [if_pos h]; rw [if_pos (by omega)]
      · simp only [if_neg h]; rw [if_neg (by omega)]; congr 1; omega
    | false =>
      simp only [Bool.false_eq_true, if_false]
      refine Ev.eq (Ev.now _) ?_
      have e1 : ∀ xs, oddI lo hi (m.getD j z43 :: xs) = 0 := fun xs => by
        show findI _ (_ :: _) = _
        rw [findI]
        simp only [hb, Bool.not_false, if_true]
      rw [e1, if_neg (by omega)]; congr 1; omega
theorem specFirstOdd (hl : l.length ≤ 2097152) (hc : ∀ x ∈ l, wfClass x) (hm : m.length ≤ 2097152) (hf : ∀ x ∈ m, wfLine x) (lo hi : Int) : Ev (fun k => spec_FirstOdd.f k l m lo hi) (rOdd l m lo hi) := by
  have hj : ∀ k c, ¬ c = 0 → spec_FirstOdd.j0 (k + 1) m lo hi c = some (0, c) := fun k c h => by simp only [spec_FirstOdd.j0]; rw [if_neg h]
  unfold spec_FirstOdd.f rOdd
  simp only [decl_eq, Option.bind_some]
  have bad : (inR lo 0 hi && inR hi 0 1000000) = false → Ev (fun k => (spec_l05Asked.f k l m false).bind fun t => spec_FirstOdd.j0 k m lo hi t) (if okF l m = true then (if (inR lo 0 hi && inR hi 0 1000000) = true then (if oddI lo hi m < 0 then (0, 6) else (oddI lo hi m, 0)) else (0, 2)) else (0, 1)) := by
    intro hb
    rw [hb]
    refine Ev.bind (specAsked hl hc hm hf _) ?_
    cases okF l m
    · exact Ev.step (fun k => hj k 1 (by omega)) (Ev.now _)
    · exact Ev.step (fun k => hj k 2 (by omega)) (Ev.now _)
  cases h1 : inR lo 0 1000000 with
  | false =>
    simp only [Bool.false_eq_true, if_false]
    refine bad ?_
    rw [Bool.and_eq_false_iff]
    rcases inR_false.1 h1 with h | h
    · exact .inl (inR_false.2 (.inl h))
    · by_cases h' : hi ≤ 1000000
      · exact .inl (inR_false.2 (.inr (by omega)))
      · exact .inr (inR_false.2 (.inr (by omega)))
  | true =>
    obtain ⟨p1, p2⟩ := inR_iff.1 h1
    cases h2 : inR hi 0 1000000 with
    | false =>
      simp only [Bool.false_eq_true, if_false, if_true]
      have := bad (by rw [h2, Bool.and_false])
      rw [h2] at this
      exact this
    | true =>
      obtain ⟨p3, p4⟩ := inR_iff.1 h2
      simp only [if_true, Bool.and_true]
      refine Ev.bind (specAsked hl hc hm hf _) ?_
      by_cases hle : lo ≤ hi
      · have e1 : inR lo 0 hi = true := inR_iff.2 ⟨p1, hle⟩
        rw [e1]
        simp only [decide_eq_true hle, if_true]
        cases ho : okF l m with
        | false => simp only [Bool.false_eq_true, if_false]; exact Ev.step (fun k => hj k 1 (by omega)) (Ev.now _)
        | true =>
          obtain ⟨_, _, _, q2⟩ := okF_bd ho
          simp only [if_true]
          refine Ev.step (f := fun k => spec_FirstOdd.l0 k m lo hi ((0 : Nat) : Int)) (fun k => by simp only [spec_FirstOdd.j0, if_true]; rfl) (Ev.eq (specOddLoop _ q2 hm lo hi m.length 0 (by omega)) ?_)
          rw [List.drop_zero]
          split
          · rfl
          · congr 1; omega
      · have e1 : inR lo 0 hi = false := inR_false.2 (.inr (by omega))
        rw [e1]
        simp only [decide_eq_false hle, Bool.false_eq_true, if_false]
        cases okF l m
        · exact Ev.step (fun k => hj k 1 (by omega)) (Ev.now _)
        · exact Ev.step (fun k => hj k 2 (by omega)) (Ev.now _)
theorem implFirstOdd (hl : l.length ≤ 2097152) (hc : ∀ x ∈ l, wfClass x) (hm : m.length ≤ 2097152) (hf : ∀ x ∈ m, wfLine x) (lo hi : Int) : Ev (fun k => impl_FirstOdd.f k l m lo hi) (rOdd l m lo hi) := by
  have hj : ∀ k a b, impl_FirstOdd.j0 (k + 1) m true a b = some (0, 2) := fun k a b => by simp [impl_FirstOdd.j0]
  unfold impl_FirstOdd.f rOdd
  simp only [implF hl hc hf, within_eq, Option.bind_some]
  cases ho : okF l m with
  | false => simp only [Bool.false_eq_true, if_false]; exact Ev.now _
  | true =>
    obtain ⟨_, _, _, q2⟩ := okF_bd ho
    simp only [if_true]
    cases h1 : inR lo 0 hi with
    | false => simp only [Bool.false_eq_true, if_false, Bool.false_and]; exact Ev.step (fun k => hj k _ _) (Ev.now _)
    | true =>
      cases h2 : inR hi 0 1000000 with
      | false => simp only [Bool.false_eq_true, if_false, if_true, Bool.and_false, Bool.not_false]; exact Ev.step (fun k => hj k _ _) (Ev.now _)
      | true =>
        simp only [if_true, Bool.and_self, Bool.not_true]
        have hcl : ∀ x ∈ m, impl_FirstOdd_1.f x.f0 x.f1 x.f2 x.f3 lo hi = some (!inR (wrap64 (Int.tdiv (wrap64 x.f2) (wrap64 x.f1))) lo hi) := by
          intro x hx
          obtain ⟨_, ⟨b1, b2⟩, _⟩ := okL_bd (q2 _ hx)
          unfold impl_FirstOdd_1.f
          rw [if_neg (by rw [wrap_id (by omega) (by omega)]; omega), within_eq]; rfl
        refine Ev.step (f := fun _ => some (if oddI lo hi m < 0 then (0, 6) else (oddI lo hi m, 0))) (fun k => ?_) (Ev.now _)
        simp only [impl_FirstOdd.j0, Bool.false_eq_true, if_false]
        unfold slices_IndexFunc_Line_at_impl_FirstOdd_1.f
        rw [findO_of (q := fun x => !inR (wrap64 (Int.tdiv (wrap64 x.f2) (wrap64 x.f1))) lo hi) m hcl, Option.bind_some]
        show (if oddI lo hi m < 0 then _ else _) = _
        split <;> rfl
end
end Go.Proofs.Ytehphbaobhnfjaa.Pure
