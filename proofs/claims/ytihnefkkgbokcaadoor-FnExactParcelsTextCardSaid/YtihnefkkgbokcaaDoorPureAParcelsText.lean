/- ParcelsText: the reference and the program. -/
import Derived.Test.YtihnefkkgbokcaaDoorQ3
import Derived.Test.YtihnefkkgbokcaaDoorQ4
import Derived.Test.YtihnefkkgbokcaaDoorPureCParcels
import Derived.Test.YtihnefkkgbokcaaDoorPureCText
import Derived.Test.YtihnefkkgbokcaaDoorPureB0
set_option linter.unusedVariables false
set_option linter.unusedSimpArgs false
namespace Go.Proofs.YtihnefkkgbokcaaDoor.Pure
open Go.RowKit Go.Proofs.YtihnefkkgbokcaaDoor.Q Go.Proofs.YtihnefkkgbokcaaDoorMine Go.Proofs.YtihnefkkgbokcaaDoorW.PrintWords Go.Proofs.YtihnefkkgbokcaaDoorW.PrintMore
def wordP (x : S40) : List UInt8 := Lib.decDigits x.f0.toNat ++ [58] ++ Lib.decDigits x.f1.toNat
def txtPs (l : List (S40)) : ByteArray := bsOf (Lib.join (l.map wordP) [32])
theorem okP_bd {x : S40} (h : okP x = true) : (0 ≤ x.f0 ∧ x.f0 ≤ 8) ∧ (1 ≤ x.f1 ∧ x.f1 ≤ 5000) := by
  unfold okP at h; simp only [Bool.and_eq_true, inR_iff] at h; exact h
theorem okPs_bd {l : List (S40)} (h : okPs l = true) : l.length ≤ 10 ∧ ∀ x ∈ l, (0 ≤ x.f0 ∧ x.f0 ≤ 8) ∧ (1 ≤ x.f1 ∧ x.f1 ≤ 5000) := by
  unfold okPs at h; simp only [Bool.and_eq_true, decide_eq_true_eq, List.all_eq_true] at h
  exact ⟨by omega, fun x hx => okP_bd (h.2 x hx)⟩
theorem wordP_len {x : S40} (h : (0 ≤ x.f0 ∧ x.f0 ≤ 8) ∧ (1 ≤ x.f1 ∧ x.f1 ≤ 5000)) : (wordP x).length ≤ 39 := by
  have h1 := dec_len20 x.f0 (by omega) (by omega)
  have h2 := dec_len20 x.f1 (by omega) (by omega)
  unfold wordP
  simp only [List.length_append, List.length_singleton]; omega
def rParcelsText (l : List (S40)) : ByteArray := if okPs l = true then txtPs l else ⟨#[]⟩
theorem implParcelsText {l : List (S40)} (hl : l.length ≤ 2097152) (h : ∀ x ∈ l, wfParcel x) : Ev (fun k => impl_ParcelsText.f k l) (rParcelsText l) := by
  unfold impl_ParcelsText.f rParcelsText
  simp only [impl_okValidParcels h, Option.bind_some]
  cases ho : okPs l with
  | false => exact Ev.now _
  | true =>
    obtain ⟨hn, hb⟩ := okPs_bd ho
    simp only [if_true]
    have hj : strings_Join.f (l.map (fun x => bsOf (wordP x))) (⟨#[32]⟩ : ByteArray) = some (txtPs l) := by
      unfold strings_Join.f
      rw [if_pos (by rw [List.length_map]; omega), List.map_map]
      have e : l.map ((·.data.toList) ∘ fun x => bsOf (wordP x)) = l.map wordP := List.map_congr_left (fun x _ => by simp [bsOf])
      rw [e, show (⟨#[32]⟩ : ByteArray).data.toList = [32] from rfl]
      have := join_le (sep := [32]) (c := 39) (l.map wordP) (fun y hy => by obtain ⟨x, hx, rfl⟩ := List.mem_map.1 hy; exact wordP_len (hb x hx))
      rw [List.length_map, List.length_singleton] at this
      rw [if_pos (by omega)]; rfl
    refine build_ev (fun k s i => impl_ParcelsText.l0 k s l (l.length : Int) i) l z40 (fun x => bsOf (wordP x)) (fun _ => txtPs l) (fun m s hm hs r hr => ?_) ?_
    · have hx := hb _ (get_mem z40 hm).1
      refine Ev.step (fun k => ?_) hr
      simp only [impl_ParcelsText.l0]
      rw [if_pos (by omega), if_pos (by omega), if_pos (by omega), show rd_T40 l (m : Int) = l.getD m z40 from rfl]
      generalize l.getD m z40 = x at *
      have h1 := dec_len20 x.f0 (by omega) (by omega)
      have h2 := dec_len20 x.f1 (by omega) (by omega)
      rw [wrap_id (i := x.f0) (by omega) (by omega), wrap_id (i := x.f1) (by omega) (by omega), implDecimal (n := x.f0) (by omega) (by omega), implDecimal (n := x.f1) (by omega) (by omega), Option.bind_some, Option.bind_some]
      rw [if_pos (by rw [bsOf_size]; omega), show (⟨#[58]⟩ : ByteArray) = bsOf [58] from rfl, bsOf_append, if_pos (by rw [bsOf_size, bsOf_size, List.length_append, List.length_singleton]; omega), if_pos (by omega), bsOf_append, wrap_sm (i := (m : Int) + 1) (by omega) (by omega)]; rfl
    · refine Ev.step (f := fun _ => some (txtPs l)) (fun k => ?_) (Ev.now _)
      simp only [impl_ParcelsText.l0]; rw [if_neg (by omega), hj]; rfl
theorem specL04Text {l : List (S40)} (hn : l.length ≤ 10) (hb : ∀ x ∈ l, (0 ≤ x.f0 ∧ x.f0 ≤ 8) ∧ (1 ≤ x.f1 ∧ x.f1 ≤ 5000)) : Ev (fun k => spec_l04Text.f k l) (txtPs l) := by
  unfold spec_l04Text.f
  have hall : ∀ (d m : Nat), m + d = l.length → 0 < m → ∀ acc : List UInt8, acc.length ≤ 40 * m → Ev (fun k => spec_l04Text.l0 k l (bsOf acc) (m : Int)) (bsOf (acc ++ Lib.joinTail [32] ((l.drop m).map wordP))) := by
    intro d
    induction d with
    | zero =>
      intro m hm h0 acc hacc
      rw [List.drop_eq_nil_of_le (by omega)]
      refine Ev.step (f := fun _ => some (bsOf acc)) (fun k => ?_) (Ev.eq (Ev.now _) (by simp [Lib.joinTail]))
      simp only [spec_l04Text.l0]; rw [if_neg (by omega)]
    | succ d ih =>
      intro m hm h0 acc hacc
      have hx := hb _ (get_mem z40 (show m < l.length by omega)).1
      have hw := wordP_len hx
      have hd : (l.drop m).map wordP = wordP (l.getD m z40) :: (l.drop (m + 1)).map wordP := by rw [drop_step z40 (show m < l.length by omega), List.map_cons]
      rw [hd, joinTail_cons]
      have e : ∀ k, spec_l04Text.l0 (k + 1) l (bsOf acc) (m : Int) = (spec_Decimal.f k (l.getD m z40).f0).bind fun t => if t.size + 1 ≤ 9223372036854775807 then (spec_Decimal.f k (l.getD m z40).f1).bind fun u => if (t ++ (⟨#[58]⟩ : ByteArray)).size + u.size ≤ 9223372036854775807 then (if (bsOf acc ++ (⟨#[32]⟩ : ByteArray)).size + ((t ++ (⟨#[58]⟩ : ByteArray)) ++ u).size ≤ 9223372036854775807 then spec_l04Text.l0 k l ((bsOf acc ++ (⟨#[32]⟩ : ByteArray)) ++ ((t ++ (⟨#[58]⟩ : ByteArray)) ++ u)) ((m + 1 : Nat) : Int) else none) else none else none := by
        intro k
        simp only [spec_l04Text.l0]
        rw [if_pos (by omega), if_pos (by omega), if_pos (by rw [bsOf_size]; omega), if_pos (by omega), show rd_T40 l (m : Int) = l.getD m z40 from rfl, wrap_id (i := (l.getD m z40).f0) (by omega) (by omega), wrap_id (i := (l.getD m z40).f1) (by omega) (by omega), wrap_sm (i := (m : Int) + 1) (by omega) (by omega)]; rfl
      refine Ev.step e ?_
      generalize l.getD m z40 = x at *
      have h1 := dec_len20 x.f0 (by omega) (by omega)
      have h2 := dec_len20 x.f1 (by omega) (by omega)
      refine Ev.bind (specDec (n := x.f0) (by omega) (by omega)) ?_
      simp only [if_pos (show (bsOf (Lib.decDigits x.f0.toNat)).size + 1 ≤ 9223372036854775807 by rw [bsOf_size]; omega)]
      refine Ev.bind (specDec (n := x.f1) (by omega) (by omega)) ?_
      rw [show (⟨#[58]⟩ : ByteArray) = bsOf [58] from rfl, show (⟨#[32]⟩ : ByteArray) = bsOf [32] from rfl, bsOf_append, bsOf_append, bsOf_append, bsOf_append]
      simp only [if_pos (show (bsOf (Lib.decDigits x.f0.toNat ++ [58])).size + (bsOf (Lib.decDigits x.f1.toNat)).size ≤ 9223372036854775807 by rw [bsOf_size, bsOf_size, List.length_append, List.length_singleton]; omega), if_pos (show (bsOf (acc ++ [32])).size + (bsOf (Lib.decDigits x.f0.toNat ++ [58] ++ Lib.decDigits x.f1.toNat)).size ≤ 9223372036854775807 by rw [bsOf_size, bsOf_size, List.length_append, List.length_append, List.length_append, List.length_singleton, List.length_singleton]; omega)]
      refine Ev.eq (ih (m + 1) (by omega) (by omega) (acc ++ [32] ++ wordP x) (by rw [List.length_append, List.length_append, List.length_singleton]; omega)) ?_
      simp [List.append_assoc]
  unfold txtPs
  cases hl' : l with
  | nil =>
    refine Ev.step (f := fun _ => some (bsOf [])) (fun k => ?_) (Ev.now _)
    simp only [spec_l04Text.l0]; rw [if_neg (by simp)]; rfl
  | cons y r =>
    rw [← hl']
    have h0l : 0 < l.length := by rw [hl']; simp
    have hx := hb _ (get_mem z40 h0l).1
    have hy : l.getD 0 z40 = y := by rw [hl']; rfl
    have e : ∀ k, spec_l04Text.l0 (k + 1) l (⟨#[]⟩ : ByteArray) 0 = (spec_Decimal.f k y.f0).bind fun t => if t.size + 1 ≤ 9223372036854775807 then (spec_Decimal.f k y.f1).bind fun u => if (t ++ (⟨#[58]⟩ : ByteArray)).size + u.size ≤ 9223372036854775807 then (if (⟨#[]⟩ : ByteArray).size + ((t ++ (⟨#[58]⟩ : ByteArray)) ++ u).size ≤ 9223372036854775807 then spec_l04Text.l0 k l ((⟨#[]⟩ : ByteArray) ++ ((t ++ (⟨#[58]⟩ : ByteArray)) ++ u)) ((1 : Nat) : Int) else none) else none else none := by
      intro k
      rw [hy] at hx
      simp only [spec_l04Text.l0]
      rw [if_pos (by omega), if_neg (by omega), if_pos (by omega), show rd_T40 l 0 = y from hy, wrap_id (i := y.f0) (by omega) (by omega), wrap_id (i := y.f1) (by omega) (by omega), show wrap64 (0 + 1) = ((1 : Nat) : Int) from by unfold wrap64; omega]
    rw [hy] at hx
    refine Ev.step e ?_
    have h1 := dec_len20 y.f0 (by omega) (by omega)
    have h2 := dec_len20 y.f1 (by omega) (by omega)
    refine Ev.bind (specDec (n := y.f0) (by omega) (by omega)) ?_
    simp only [if_pos (show (bsOf (Lib.decDigits y.f0.toNat)).size + 1 ≤ 9223372036854775807 by rw [bsOf_size]; omega)]
    refine Ev.bind (specDec (n := y.f1) (by omega) (by omega)) ?_
    rw [show (⟨#[58]⟩ : ByteArray) = bsOf [58] from rfl, show (⟨#[]⟩ : ByteArray) = bsOf [] from rfl, bsOf_append, bsOf_append, bsOf_append]
    simp only [if_pos (show (bsOf (Lib.decDigits y.f0.toNat ++ [58])).size + (bsOf (Lib.decDigits y.f1.toNat)).size ≤ 9223372036854775807 by rw [bsOf_size, bsOf_size, List.length_append, List.length_singleton]; omega), if_pos (show (bsOf []).size + (bsOf (Lib.decDigits y.f0.toNat ++ [58] ++ Lib.decDigits y.f1.toNat)).size ≤ 9223372036854775807 by rw [bsOf_size, bsOf_size, List.length_append, List.length_append, List.length_singleton, List.length_nil]; omega)]
    have hw := wordP_len hx
    refine Ev.eq (hall (l.length - 1) 1 (by omega) (by omega) ([] ++ wordP y) (by rw [List.length_append, List.length_nil]; omega)) ?_
    rw [hl', List.map_cons, Lib.join_cons]; rfl
theorem specParcelsText {l : List (S40)} (hl : l.length ≤ 2097152) (h : ∀ x ∈ l, wfParcel x) : Ev (fun k => spec_ParcelsText.f k l) (rParcelsText l) := by
  unfold spec_ParcelsText.f rParcelsText
  refine Ev.bind (spec_okValidParcels hl h) ?_
  cases ho : okPs l with
  | false => exact Ev.now _
  | true =>
    obtain ⟨hn, hb⟩ := okPs_bd ho
    simp only [if_true]
    exact Ev.bind (specL04Text hn hb) (Ev.now _)
end Go.Proofs.YtihnefkkgbokcaaDoor.Pure
