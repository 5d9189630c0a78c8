/- When classes and forms are valid, by the reference and by the program: one plain word each. -/
import Derived.Test.YtnefepgfmmnbpaaQ1
import Derived.Test.YtnefepgfmmnbpaaQ4
import Derived.Test.YtnefepgfmmnbpaaPureC50
import Derived.Test.YtnefepgfmmnbpaaPureToClass
import Derived.Test.YtnefepgfmmnbpaaPureToLine
set_option linter.unusedVariables false
set_option linter.unusedSimpArgs false
namespace Go.Proofs.Ytnefepgfmmnbpaa.Pure
open Go.RowKit Go.Proofs.Ytnefepgfmmnbpaa.Q Go.Proofs.YtnefepgfmmnbpaaMine Go.Proofs.YtnefepgfmmnbpaaW.PrintWords
def okC (x : S56) : Bool := inR x.f1 1 1000 && (inR x.f0 0 x.f1 && (inR x.f2 0 100 && inR x.f3 0 1000000))
def okCs (l : List (S56)) : Bool := inR (l.length : Int) 1 8 && l.all okC
def okL (n : Int) (x : S54) : Bool := inR x.f0 0 (n - 1) && (inR x.f1 1 1000 && (inR x.f2 0 1000000 && inR x.f3 0 1000000))
def okF (l : List (S56)) (m : List (S54)) : Bool := okCs l && (decide ((m.length : Int) ≤ 10) && m.all (okL (l.length : Int)))
theorem implClass1 {x : S56} (h : wfClass x) : f3z.f x.f0 x.f1 x.f2 x.f3 = some (!okC x) := by
 obtain ⟨h0, h1, h2, h3⟩ := h
 have := wf_i16 h0; have := wf_i16 h1; have := wf_i16 h2; have := wf_i32 h3
 unfold f3z.f okC
 simp only [within_eq, Option.bind_some]
 rw [wrap_id (i := x.f0) (by omega) (by omega), wrap_id (i := x.f1) (by omega) (by omega), wrap_id (i := x.f2) (by omega) (by omega), wrap_id (i := x.f3) (by omega) (by omega)]
 cases inR x.f1 1 1000 <;> cases inR x.f0 0 x.f1 <;> cases inR x.f2 0 100 <;> cases inR x.f3 0 1000000 <;> rfl
theorem implCs {l : List (S56)} (h : ∀ x ∈ l, wfClass x) : f7z.f l = some (okCs l) := by
 unfold f7z.f impl_size_Class.f f6z.f okCs
 rw [anyO_of (q := fun x => !okC x) l (fun x hx => implClass1 (h x hx)), any_not]
 simp only [within_eq, Option.bind_some, Bool.not_not]
 cases inR (l.length : Int) 1 8 <;> simp
theorem implLine1 {l : List (S56)} (hl : l.length ≤ 2097152) {x : S54} (h : wfLine x) : impl_ValidForm_1.f x.f0 x.f1 x.f2 x.f3 l = some (!okL (l.length : Int) x) := by
 obtain ⟨h0, h1, h2, h3⟩ := h
 have := wf_i8 h0; have := wf_i16 h1; have := wf_i32 h2; have := wf_i32 h3
 unfold impl_ValidForm_1.f impl_size_Class.f okL
 simp only [within_eq, Option.bind_some]
 rw [wrap_id (i := x.f0) (by omega) (by omega), wrap_id (i := x.f1) (by omega) (by omega), wrap_id (i := x.f2) (by omega) (by omega), wrap_id (i := x.f3) (by omega) (by omega), wrap_id (i := (l.length : Int) - 1) (by omega) (by omega)]
 cases inR x.f0 0 ((l.length : Int) - 1) <;> cases inR x.f1 1 1000 <;> cases inR x.f2 0 1000000 <;> cases inR x.f3 0 1000000 <;> rfl
theorem implF {l : List (S56)} {m : List (S54)} (hl : l.length ≤ 2097152) (h : ∀ x ∈ l, wfClass x) (h' : ∀ x ∈ m, wfLine x) : impl_ValidForm.f l m = some (okF l m) := by
 unfold impl_ValidForm.f f10z.f okF
 rw [implCs h, anyO_of (q := fun x => !okL (l.length : Int) x) m (fun x hx => implLine1 hl (h' x hx)), any_not]
 simp only [Option.bind_some, Bool.not_not]
 cases okCs l with
 | false => rfl
 | true =>
  by_cases hm : (m.length : Int) ≤ 10
  ·simp [hm]
  ·simp [hm]
theorem specCs {l : List (S56)} (hl : l.length ≤ 2097152) (h : ∀ x ∈ l, wfClass x) : Ev (fun k => spec_l05Classes.f k l) (okCs l) := by
 unfold spec_l05Classes.f
 refine Ev.eq (all_all (spec_l05Classes.l0 · l ·) l z56 (by omega) okC false (inR (l.length : Int) 1 8) (fun k i h0 h1 => ?_)) ?_
 ·simp only [spec_l05Classes.l0]
  by_cases hi : i < (l.length : Int)
  ·have hm := (get_mem z56 (show i.toNat < l.length by omega)).1
   obtain ⟨w0, w1, w2, w3⟩ := h _ hm
   have := wf_i16 w0; have := wf_i16 w1; have := wf_i16 w2; have := wf_i32 w3
   simp only [if_pos hi, if_pos h0, l00In_eq, Option.bind_some]
   unfold rd_T56
   generalize l.getD i.toNat z56 = x at *
   rw [wrap_id (i := x.f1) (by omega) (by omega), wrap_id (i := x.f2) (by omega) (by omega), wrap_id (i := x.f3) (by omega) (by omega)]
   unfold okC
   cases inR x.f1 1 1000 with
   | false => simp
   | true =>
    by_cases c1 : x.f0 < 0
    ·have e : inR x.f0 0 x.f1 = false := inR_false.2 (.inl c1)
     simp [c1, e]
    ·by_cases c2 : x.f0 > x.f1
     ·have e : inR x.f0 0 x.f1 = false := inR_false.2 (.inr c2)
      simp [c1, c2, e]
     ·have e : inR x.f0 0 x.f1 = true := inR_iff.2 ⟨by omega, by omega⟩
      simp only [if_pos, if_neg c1, if_neg c2, e, Bool.true_and]
      cases inR x.f2 0 100 <;> cases inR x.f3 0 1000000 <;> simp
  ·simp only [if_neg hi, l00In_eq, Option.bind_some]
 ·unfold okCs
  cases l.all okC <;> simp
theorem specLine {n : Int} (hn : 0 ≤ n) (hn1 : n ≤ 2097152) {x : S54} (h : wfLine x) : spec_l05Line.f n x.f0 x.f1 x.f2 x.f3 = some (okL n x) := by
 obtain ⟨h0, h1, h2, h3⟩ := h
 have := wf_i8 h0; have := wf_i16 h1; have := wf_i32 h2; have := wf_i32 h3
 unfold spec_l05Line.f spec_l05Declared.f okL
 simp only [l00In_eq, Option.bind_some]
 rw [wrap_id (i := x.f0) (by omega) (by omega), wrap_id (i := x.f1) (by omega) (by omega), wrap_id (i := x.f2) (by omega) (by omega), wrap_id (i := x.f3) (by omega) (by omega), wrap_id (i := n - 1) (by omega) (by omega)]
 cases inR x.f0 0 (n - 1) <;> cases inR x.f1 1 1000 <;> cases inR x.f2 0 1000000 <;> cases inR x.f3 0 1000000 <;> rfl
theorem specF {l : List (S56)} {m : List (S54)} (hl : l.length ≤ 2097152) (hm : m.length ≤ 2097152) (h : ∀ x ∈ l, wfClass x) (h' : ∀ x ∈ m, wfLine x) : Ev (fun k => spec_l05Ok.f k l m) (okF l m) := by
 have hloop : Ev (fun k => spec_l05Ok.l0 k l m 0) (if m.all (okL (l.length : Int)) = true then true else false) := by
  refine all_all (spec_l05Ok.l0 · l m ·) m z54 (by omega) (okL (l.length : Int)) false true (fun k i h0 h1 => ?_)
  simp only [spec_l05Ok.l0]
  by_cases hi : i < (m.length : Int)
  ·have hx := (get_mem z54 (show i.toNat < m.length by omega)).1
   simp only [if_pos hi, if_pos h0]
   unfold rd_T54
   rw [specLine (by omega) (by omega) (h' _ hx), Option.bind_some]
  ·simp only [if_neg hi]
 unfold spec_l05Ok.f
 refine Ev.bind (specCs hl h) ?_
 unfold okF
 cases okCs l with
 | false =>
  refine Ev.step (f := fun _ => some false) (fun k => ?_) (Ev.eq (Ev.now _) (by simp))
  simp [spec_l05Ok.j0]
 | true =>
  by_cases hm' : (m.length : Int) ≤ 10
  ·refine Ev.step (f := fun k => spec_l05Ok.l0 k l m 0) (fun k => ?_) (Ev.eq hloop (by rw [decide_eq_true hm']; cases m.all (okL (l.length : Int)) <;> rfl))
   simp only [if_true, spec_l05Ok.j0]
   rw [if_neg (by simp; omega)]
  ·refine Ev.step (f := fun _ => some false) (fun k => ?_) (Ev.eq (Ev.now _) (by simp [hm']))
   simp only [if_true, spec_l05Ok.j0]
   rw [if_pos (by simp; omega)]
theorem okC_bd {c : S56} (h : okC c = true) : (1 ≤ c.f1 ∧ c.f1 ≤ 1000) ∧ (0 ≤ c.f0 ∧ c.f0 ≤ c.f1) ∧ (0 ≤ c.f2 ∧ c.f2 ≤ 100) ∧ (0 ≤ c.f3 ∧ c.f3 ≤ 1000000) := by
 unfold okC at h
 simp only [Bool.and_eq_true, inR_iff] at h
 exact ⟨h.1, h.2.1, h.2.2.1, h.2.2.2⟩
theorem okL_bd {n : Int} {x : S54} (h : okL n x = true) : (0 ≤ x.f0 ∧ x.f0 ≤ n - 1) ∧ (1 ≤ x.f1 ∧ x.f1 ≤ 1000) ∧ (0 ≤ x.f2 ∧ x.f2 ≤ 1000000) ∧ (0 ≤ x.f3 ∧ x.f3 ≤ 1000000) := by
 unfold okL at h
 simp only [Bool.and_eq_true, inR_iff] at h
 exact ⟨h.1, h.2.1, h.2.2.1, h.2.2.2⟩
theorem okF_bd {l : List (S56)} {m : List (S54)} (h : okF l m = true) : (1 ≤ l.length ∧ l.length ≤ 8) ∧ (∀ c ∈ l, okC c = true) ∧ m.length ≤ 10 ∧ ∀ x ∈ m, okL (l.length : Int) x = true := by
 unfold okF okCs at h
 simp only [Bool.and_eq_true, inR_iff, decide_eq_true_eq, List.all_eq_true] at h
 exact ⟨⟨by omega, by omega⟩, h.1.2, by omega, h.2.2⟩
end Go.Proofs.Ytnefepgfmmnbpaa.Pure
