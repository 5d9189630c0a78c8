/- The duty of a form. -/
import Derived.Test.YtnefepgfmmnbpaaQ2
import Derived.Test.YtnefepgfmmnbpaaQ4
import Derived.Test.YtnefepgfmmnbpaaPureC5k
set_option linter.unusedVariables false
set_option linter.unusedSimpArgs false
namespace Go.Proofs.Ytnefepgfmmnbpaa.Pure
open Go.RowKit Go.Proofs.Ytnefepgfmmnbpaa.Q Go.Proofs.YtnefepgfmmnbpaaMine Go.Proofs.YtnefepgfmmnbpaaW.PrintWords Go.Proofs.YtnefepgfmmnbpaaW.PrintMore
/-- The duty of a form. -/
def dty (l : List (S56)) (m : List (S54)) (how : Int) : Int := m.foldl (fun s x => wrap64 (s + chg (l.getD x.f0.toNat z56) x.f2 x.f3 how)) 0
theorem line_at {l : List (S56)} {m : List (S54)} (hl : ∀ c ∈ l, okC c = true) (h : ∀ x ∈ m, okL (l.length : Int) x = true) {i : Int} (h0 : 0 ≤ i) (hi : i < (m.length : Int)) :
  ∃ x, rd_T54 m i = x ∧ m.getD i.toNat z54 = x ∧ 0 ≤ x.f0 ∧ x.f0 < (l.length : Int) ∧ 1 ≤ x.f1 ∧ x.f1 ≤ 1000 ∧ (0 ≤ x.f2 ∧ x.f2 ≤ 1000000) ∧ (0 ≤ x.f3 ∧ x.f3 ≤ 1000000) ∧ rd_T56 l x.f0 = l.getD x.f0.toNat z56 ∧ okC (l.getD x.f0.toNat z56) = true := by
 have hx := (get_mem z54 (show i.toNat < m.length by omega)).1
 obtain ⟨⟨a1, a2⟩, ⟨b1, b2⟩, c1, d1⟩ := okL_bd (h _ hx)
 have hc := (get_mem z56 (show (m.getD i.toNat z54).f0.toNat < l.length by omega)).1
 exact ⟨m.getD i.toNat z54, rfl, rfl, a1, by omega, b1, b2, c1, d1, rfl, hl _ hc⟩
theorem specDty {l : List (S56)} {m : List (S54)} (hm : m.length ≤ 2097152) (hl : ∀ c ∈ l, okC c = true) (h : ∀ x ∈ m, okL (l.length : Int) x = true) (how : Int) : Ev (fun k => spec_l05Duty.f k l m how) (dty l m how) := by
 unfold spec_l05Duty.f dty
 refine fold_all (spec_l05Duty.l0 · l m how · ·) m z54 (by omega) _ id (fun k s i h0 h1 => ?_) 0
 simp only [spec_l05Duty.l0]
 by_cases hi : i < (m.length : Int)
 ·obtain ⟨x, e1, e2, p1, p2, p3, p4, p5, p6, e3, p7⟩ := line_at hl h h0 hi
  simp only [if_pos hi, if_pos h0, e1, e2, if_pos p1, if_pos p2, e3, wrap_id (i := x.f2) (by omega) (by omega), wrap_id (i := x.f3) (by omega) (by omega), specChg p7 p5.1 (show x.f2 ≤ 1000000000 by omega) p6.1 (show x.f3 ≤ 1000000000 by omega), Option.bind_some]
 ·simp only [if_neg hi, id]
theorem implDty {l : List (S56)} {m : List (S54)} (hm : m.length ≤ 2097152) (hl : ∀ c ∈ l, okC c = true) (h : ∀ x ∈ m, okL (l.length : Int) x = true) {how : Int} (w0 : 0 ≤ how) (w3 : how ≤ 3) : Ev (fun k => impl_duty.f k l m how) (dty l m how) := by
 unfold impl_duty.f dty
 have : ∀ (d j : Nat), j + d = m.length → ∀ s, Ev (fun k => impl_duty.l0 k l how s m (m.length : Int) (j : Int)) ((m.drop j).foldl (fun s x => wrap64 (s + chg (l.getD x.f0.toNat z56) x.f2 x.f3 how)) s) := by
  intro d
  induction d with
  | zero =>
   intro j hj s
   rw [List.drop_eq_nil_of_le (by omega)]
   exact Ev.step (f := fun _ => some s) (fun k => by simp only [impl_duty.l0]; rw [if_neg (by omega)]) (Ev.now _)
  | succ d ih =>
   intro j hj s
   rw [drop_step z54 (by omega), List.foldl_cons]
   obtain ⟨x, e1, e2, p1, p2, p3, p4, p5, p6, e3, p7⟩ := line_at hl h (show (0 : Int) ≤ (j : Int) by omega) (show (j : Int) < (m.length : Int) by omega)
   rw [Int.toNat_natCast] at e2
   rw [e2]
   have hstep : ∀ k, impl_duty.l0 (k + 1) l how s m (m.length : Int) (j : Int) = (impl_Class_duty.f k (l.getD x.f0.toNat z56).f0 (l.getD x.f0.toNat z56).f1 (l.getD x.f0.toNat z56).f2 (l.getD x.f0.toNat z56).f3 x.f2 x.f3 how).bind fun t => impl_duty.l0 k l how (wrap64 (s + t)) m (m.length : Int) ((j + 1 : Nat) : Int) := by
    intro k
    simp only [impl_duty.l0]
    rw [if_pos (show (j : Int) < (m.length : Int) by omega), if_pos (show (0 : Int) ≤ (j : Int) by omega), if_pos (show (j : Int) < (m.length : Int) by omega)]
    simp only [e1, if_pos p1, if_pos p2, e3, wrap_id (i := x.f2) (by omega) (by omega), wrap_id (i := x.f3) (by omega) (by omega)]
    rw [wrap_sm (i := (j : Int) + 1) (by omega) (by omega)]
    rfl
   refine Ev.step hstep ?_
   exact Ev.bind (implChg p7 p5.1 (by omega) p6.1 (by omega) w0 w3) (ih (j + 1) (by omega) _)
 exact this m.length 0 (by omega) 0
end Go.Proofs.Ytnefepgfmmnbpaa.Pure
