/- FormText: the reference and the program. -/
import Derived.Test.YtnefepgfmmnbpaaDoorQ2
import Derived.Test.YtnefepgfmmnbpaaDoorQ5
import Derived.Test.YtnefepgfmmnbpaaDoorPureC5a
import Derived.Test.YtnefepgfmmnbpaaDoorPureCText
import Derived.Test.YtnefepgfmmnbpaaDoorPureB0
set_option linter.unusedVariables false
set_option linter.unusedSimpArgs false
namespace Go.Proofs.YtnefepgfmmnbpaaDoor.Pure
open Go.RowKit Go.Proofs.YtnefepgfmmnbpaaDoor.Q Go.Proofs.YtnefepgfmmnbpaaDoorMine Go.Proofs.YtnefepgfmmnbpaaDoorW.PrintWords Go.Proofs.YtnefepgfmmnbpaaDoorW.PrintMore
def lineB (x : S48) : List UInt8 := Lib.decDigits x.f0.toNat ++ [58] ++ Lib.decDigits x.f1.toNat ++ [120] ++ Lib.decDigits x.f2.toNat ++ [47] ++ Lib.decDigits x.f3.toNat ++ [10]
def linesB (m : List (S48)) : List UInt8 := (m.map lineB).flatten
def fineL (x : S48) : Prop := (0 ≤ x.f0 ∧ x.f0 ≤ 7) ∧ (1 ≤ x.f1 ∧ x.f1 ≤ 1000) ∧ (0 ≤ x.f2 ∧ x.f2 ≤ 1000000) ∧ (0 ≤ x.f3 ∧ x.f3 ≤ 1000000)
theorem okF_fine {l : List (S43)} {m : List (S48)} (h : okF l m = true) : m.length ≤ 10 ∧ ∀ x ∈ m, fineL x := by
  obtain ⟨h1, _, h3, h4⟩ := okF_bd h
  exact ⟨h3, fun x hx => by have := okL_bd (h4 x hx); exact ⟨by omega, by omega, by omega, by omega⟩⟩
theorem lineB_len {x : S48} (h : fineL x) : (lineB x).length ≤ 80 := by
  obtain ⟨a, b, c, d⟩ := h
  have h1 := dec_len20 x.f0 (by omega) (by omega)
  have h2 := dec_len20 x.f1 (by omega) (by omega)
  have h3 := dec_len20 x.f2 (by omega) (by omega)
  have h4 := dec_len20 x.f3 (by omega) (by omega)
  unfold lineB
  simp only [List.length_append, List.length_singleton]; omega
theorem lineB_app (acc : List UInt8) (x : S48) : bsOf acc ++ (bsOf (Lib.decDigits x.f0.toNat) ++ bsOf [58] ++ bsOf (Lib.decDigits x.f1.toNat) ++ bsOf [120] ++ bsOf (Lib.decDigits x.f2.toNat) ++ bsOf [47] ++ bsOf (Lib.decDigits x.f3.toNat) ++ bsOf [10]) = bsOf (acc ++ lineB x) := by
  unfold lineB
  simp only [bsOf_append, List.append_assoc]
/-- A loop that puts one line behind the other. -/
theorem lines_ev (L : Nat → ByteArray → Int → Option ByteArray) (m : List (S48)) (hn : m.length ≤ 10) (hf : ∀ x ∈ m, fineL x)
    (hstep : ∀ i acc, i < m.length → fineL (m.getD i z48) → acc.length ≤ 1000 → ∀ r, Ev (fun k => L k (bsOf (acc ++ lineB (m.getD i z48))) ((i + 1 : Nat) : Int)) r → Ev (fun k => L k (bsOf acc) (i : Int)) r)
    (hend : ∀ x, Ev (fun k => L k x (m.length : Int)) x) : Ev (fun k => L k (bsOf []) 0) (bsOf (linesB m)) := by
  suffices hh : ∀ (d i : Nat), i + d = m.length → ∀ acc : List UInt8, acc.length ≤ 80 * i → Ev (fun k => L k (bsOf acc) (i : Int)) (bsOf (acc ++ linesB (m.drop i))) from hh m.length 0 (by omega) [] (by simp)
  intro d
  induction d with
  | zero =>
    intro i hi acc hacc
    obtain rfl : i = m.length := by omega
    rw [List.drop_eq_nil_of_le (by omega)]
    exact Ev.eq (hend _) (by simp [linesB])
  | succ d ih =>
    intro i hi acc hacc
    have hx := hf _ (get_mem z48 (show i < m.length by omega)).1
    have hl := lineB_len hx
    refine hstep i acc (by omega) hx (by omega) _ (Ev.eq (ih (i + 1) (by omega) _ (by rw [List.length_append]; omega)) ?_)
    rw [drop_step z48 (show i < m.length by omega)]
    simp [linesB]
def rFormText (l : List (S43)) (m : List (S48)) : ByteArray := if okF l m = true then bsOf (linesB m) else ⟨#[]⟩
theorem implFormLines {m : List (S48)} (hn : m.length ≤ 10) (hf : ∀ x ∈ m, fineL x) : Ev (fun k => impl_FormText.l0 k (⟨#[]⟩ : ByteArray) m (m.length : Int) 0) (bsOf (linesB m)) := by
  refine lines_ev (fun k x i => impl_FormText.l0 k x m (m.length : Int) i) m hn hf (fun i acc hi hx hacc r hr => ?_) (fun x => ?_)
  · obtain ⟨a, b, c, d⟩ := hx
    have hd1 := dec_len20 (m.getD i z48).f0 (by omega) (by omega)
    have hd2 := dec_len20 (m.getD i z48).f1 (by omega) (by omega)
    have hd3 := dec_len20 (m.getD i z48).f2 (by omega) (by omega)
    have hd4 := dec_len20 (m.getD i z48).f3 (by omega) (by omega)
    rw [← lineB_app] at hr
    have e : ∀ k, impl_FormText.l0 (k + 1) (bsOf acc) m (m.length : Int) (i : Int) = _ := fun k => by
      simp only [impl_FormText.l0]
      rw [if_pos (by omega), if_pos (by omega), if_pos (by omega), show rd_T48 m (i : Int) = m.getD i z48 from rfl, wrap_id (i := (m.getD i z48).f0) (by omega) (by omega), wrap_id (i := (m.getD i z48).f1) (by omega) (by omega), wrap_id (i := (m.getD i z48).f2) (by omega) (by omega), wrap_id (i := (m.getD i z48).f3) (by omega) (by omega), wrap_sm (i := (i : Int) + 1) (by omega) (by omega)]
    refine Ev.step e ?_
    clear e
    generalize m.getD i z48 = x at *
    rw [implDecimal (n := x.f0) (by omega) (by omega), implDecimal (n := x.f1) (by omega) (by omega), implDecimal (n := x.f2) (by omega) (by omega), implDecimal (n := x.f3) (by omega) (by omega)]
    simp only [Option.bind_some, lit_bs, Builder_WriteString.f]
    refine Ev.pos (by simp only [ByteArray.size_append, bsOf_size, List.length_singleton]; omega) ?_
    refine Ev.pos (by simp only [ByteArray.size_append, bsOf_size, List.length_singleton]; omega) ?_
    refine Ev.pos (by simp only [ByteArray.size_append, bsOf_size, List.length_singleton]; omega) ?_
    refine Ev.pos (by simp only [ByteArray.size_append, bsOf_size, List.length_singleton]; omega) ?_
    refine Ev.pos (by simp only [ByteArray.size_append, bsOf_size, List.length_singleton]; omega) ?_
    refine Ev.pos (by simp only [ByteArray.size_append, bsOf_size, List.length_singleton]; omega) ?_
    refine Ev.pos (by simp only [ByteArray.size_append, bsOf_size, List.length_singleton]; omega) ?_
    refine Ev.bind (a := bsOf acc ++ (bsOf (Lib.decDigits x.f0.toNat) ++ bsOf [58] ++ bsOf (Lib.decDigits x.f1.toNat) ++ bsOf [120] ++ bsOf (Lib.decDigits x.f2.toNat) ++ bsOf [47] ++ bsOf (Lib.decDigits x.f3.toNat) ++ bsOf [10])) (Ev.val fun k => if_pos (by simp only [ByteArray.size_append, bsOf_size, List.length_singleton]; omega)) ?_
    exact hr
  · refine Ev.step (f := fun _ => some x) (fun k => ?_) (Ev.now _)
    simp only [impl_FormText.l0]; rw [if_neg (by omega)]; rfl
theorem specFormLines {m : List (S48)} (hn : m.length ≤ 10) (hf : ∀ x ∈ m, fineL x) : Ev (fun k => spec_l05Text.f k m) (bsOf (linesB m)) := by
  unfold spec_l05Text.f
  refine lines_ev (fun k x i => spec_l05Text.l0 k m x i) m hn hf (fun i acc hi hx hacc r hr => ?_) (fun x => ?_)
  · obtain ⟨a, b, c, d⟩ := hx
    have hd1 := dec_len20 (m.getD i z48).f0 (by omega) (by omega)
    have hd2 := dec_len20 (m.getD i z48).f1 (by omega) (by omega)
    have hd3 := dec_len20 (m.getD i z48).f2 (by omega) (by omega)
    have hd4 := dec_len20 (m.getD i z48).f3 (by omega) (by omega)
    rw [← lineB_app] at hr
    have e : ∀ k, spec_l05Text.l0 (k + 1) m (bsOf acc) (i : Int) = _ := fun k => by
      simp only [spec_l05Text.l0]
      rw [if_pos (by omega), if_pos (by omega), show rd_T48 m (i : Int) = m.getD i z48 from rfl, wrap_id (i := (m.getD i z48).f0) (by omega) (by omega), wrap_id (i := (m.getD i z48).f1) (by omega) (by omega), wrap_id (i := (m.getD i z48).f2) (by omega) (by omega), wrap_id (i := (m.getD i z48).f3) (by omega) (by omega), wrap_sm (i := (i : Int) + 1) (by omega) (by omega)]
    refine Ev.step e ?_
    clear e
    generalize m.getD i z48 = x at *
    simp only [lit_bs]
    refine Ev.bind (specDec (n := x.f0) (by omega) (by omega)) (Ev.pos (by simp only [ByteArray.size_append, bsOf_size, List.length_singleton]; omega) ?_)
    refine Ev.bind (specDec (n := x.f1) (by omega) (by omega)) (Ev.pos (by simp only [ByteArray.size_append, bsOf_size, List.length_singleton]; omega) (Ev.pos (by simp only [ByteArray.size_append, bsOf_size, List.length_singleton]; omega) ?_))
    refine Ev.bind (specDec (n := x.f2) (by omega) (by omega)) (Ev.pos (by simp only [ByteArray.size_append, bsOf_size, List.length_singleton]; omega) (Ev.pos (by simp only [ByteArray.size_append, bsOf_size, List.length_singleton]; omega) ?_))
    refine Ev.bind (specDec (n := x.f3) (by omega) (by omega)) (Ev.pos (by simp only [ByteArray.size_append, bsOf_size, List.length_singleton]; omega) (Ev.pos (by simp only [ByteArray.size_append, bsOf_size, List.length_singleton]; omega) (Ev.pos (by simp only [ByteArray.size_append, bsOf_size, List.length_singleton]; omega) ?_)))
    exact hr
  · refine Ev.step (f := fun _ => some x) (fun k => ?_) (Ev.now _)
    simp only [spec_l05Text.l0]; rw [if_neg (by omega)]
section
variable {l : List (S43)} {m : List (S48)}
theorem specFormText (hl : l.length ≤ 2097152) (hc : ∀ x ∈ l, wfClass x) (hm : m.length ≤ 2097152) (hf : ∀ x ∈ m, wfLine x) : Ev (fun k => spec_FormText.f k l m) (rFormText l m) := by
  unfold spec_FormText.f rFormText
  refine Ev.bind (specF hl hm hc hf) ?_
  cases ho : okF l m with
  | false => exact Ev.now _
  | true =>
    obtain ⟨h1, h2⟩ := okF_fine ho
    simp only [if_true]
    exact Ev.bind (specFormLines h1 h2) (Ev.now _)
theorem implFormText (hl : l.length ≤ 2097152) (hc : ∀ x ∈ l, wfClass x) (hm : m.length ≤ 2097152) (hf : ∀ x ∈ m, wfLine x) : Ev (fun k => impl_FormText.f k l m) (rFormText l m) := by
  unfold impl_FormText.f rFormText
  simp only [implF hl hc hf, Option.bind_some]
  cases ho : okF l m with
  | false => exact Ev.now _
  | true =>
    obtain ⟨h1, h2⟩ := okF_fine ho
    simp only [if_true]
    exact implFormLines h1 h2
end
end Go.Proofs.YtnefepgfmmnbpaaDoor.Pure
