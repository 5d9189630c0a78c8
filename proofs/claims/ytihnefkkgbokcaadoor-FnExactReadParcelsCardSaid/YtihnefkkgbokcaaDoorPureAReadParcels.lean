/- ReadParcels: the reference and the program. -/
import Derived.Test.YtihnefkkgbokcaaDoorQ2
import Derived.Test.YtihnefkkgbokcaaDoorQ3
import Derived.Test.YtihnefkkgbokcaaDoorPureCParcels
import Derived.Test.YtihnefkkgbokcaaDoorPureCFields
set_option linter.unusedVariables false
set_option linter.unusedSimpArgs false
namespace Go.Proofs.YtihnefkkgbokcaaDoor.Pure
open Go.RowKit Go.Proofs.YtihnefkkgbokcaaDoor.Q Go.Proofs.YtihnefkkgbokcaaDoorMine Go.Proofs.YtihnefkkgbokcaaDoorW.PrintWords Go.Proofs.YtihnefkkgbokcaaDoorW.PrintMore
/-- A parcel of a word. -/
def wordR (l : List UInt8) : Option (Int × Int) :=
  match parts 58 l with
  | [p, q] => if (numS p).2 = true ∧ (numS q).2 = true ∧ (numS p).1 ≤ 8 ∧ (numS q).1 ≤ 5000 then some ((numS p).1, (numS q).1) else none
  | _ => none
def okR (w : ByteArray) : Bool := (wordR w.data.toList).isSome
def cvR (w : ByteArray) : S40 := ⟨((wordR w.data.toList).getD (0, 0)).1, ((wordR w.data.toList).getD (0, 0)).2⟩
theorem numS_nonneg (l : List UInt8) : 0 ≤ (numS l).1 := by unfold numS; split <;> simp
theorem wordR_some {l : List UInt8} {x : Int × Int} (h : wordR l = some x) : ∃ p q, parts 58 l = [p, q] ∧ (numS p).2 = true ∧ (numS q).2 = true ∧ (numS p).1 ≤ 8 ∧ (numS q).1 ≤ 5000 ∧ x = ((numS p).1, (numS q).1) := by
  unfold wordR at h
  split at h
  · rename_i p q e
    split at h
    · rename_i hh
      exact ⟨p, q, e, hh.1, hh.2.1, hh.2.2.1, hh.2.2.2, (Option.some.inj h).symm⟩
    · cases h
  · cases h
theorem cvR_bd {w : ByteArray} (h : okR w = true) : (0 ≤ (cvR w).f0 ∧ (cvR w).f0 ≤ 8) ∧ (0 ≤ (cvR w).f1 ∧ (cvR w).f1 ≤ 5000) := by
  obtain ⟨x, hx⟩ := Option.isSome_iff_exists.1 h
  obtain ⟨p, q, _, _, _, h1, h2, rfl⟩ := wordR_some hx
  have a := numS_nonneg p
  have b := numS_nonneg q
  unfold cvR
  rw [hx]
  exact ⟨⟨a, h1⟩, ⟨b, h2⟩⟩
theorem wf_bd8 {n : Int} (h0 : 0 ≤ n) (h1 : n ≤ 127) : (Lit.int .i8 n).wf = true := by simp [Lit.wf, IntKind.min, IntKind.max, IntKind.signed, IntKind.bits]; omega
theorem wf_bd16 {n : Int} (h0 : 0 ≤ n) (h1 : n ≤ 32767) : (Lit.int .i16 n).wf = true := by simp [Lit.wf, IntKind.min, IntKind.max, IntKind.signed, IntKind.bits]; omega
theorem cvR_wf {w : ByteArray} (h : okR w = true) : wfParcel (cvR w) := by
  have := cvR_bd h
  exact ⟨wf_bd8 (by omega) (by omega), wf_bd16 (by omega) (by omega)⟩
def wordsR (l : List UInt8) : List ByteArray := (parts 32 l).map bsOf
def rReadParcels (l : List UInt8) : List (S40) × Int := if l = [] then ([], 0) else if (wordsR l).all okR = true then (if okPs ((wordsR l).map cvR) = true then ((wordsR l).map cvR, 0) else ([], 5)) else ([], 5)
theorem wordsR_len {l : List UInt8} (hl : l.length ≤ 1048576) : (wordsR l).length ≤ 2097152 := by unfold wordsR; rw [List.length_map]; have := parts_len 32 l; omega
theorem wordsR_get {l : List UInt8} (hl : l.length ≤ 1048576) {m : Nat} (hm : m < (wordsR l).length) : ((wordsR l).getD m ByteArray.empty).data.toList.length ≤ 1048576 := by
  have := (get_mem ByteArray.empty hm).1
  obtain ⟨p, hp, e⟩ := List.mem_map.1 this
  have := parts_mem hp
  rw [← e, bsOf_list]; omega
theorem all_wf {l : List UInt8} (ha : (wordsR l).all okR = true) : ∀ x ∈ (wordsR l).map cvR, wfParcel x := by
  intro x hx
  obtain ⟨w, hw, rfl⟩ := List.mem_map.1 hx
  exact cvR_wf (List.all_eq_true.1 ha w hw)
theorem two_of_len {α : Type} {l : List α} (h : (l.length : Int) = 2) : ∃ p q, l = [p, q] := by
  match l, h with
  | [p, q], _ => exact ⟨p, q, rfl⟩
  | [], h => simp at h
  | [_], h => simp at h
  | _ :: _ :: _ :: _, h => simp at h; omega
theorem implReadWords {l : List UInt8} (hl : l.length ≤ 1048576) : Ev (fun k => impl_ReadParcels.l0 k [] (wordsR l) ((wordsR l).length : Int) 0) (if (wordsR l).all okR = true then (if okPs ((wordsR l).map cvR) = true then ((wordsR l).map cvR, 0) else ([], 5)) else ([], 5)) := by
  have hwl := wordsR_len hl
  refine buildok_ev (fun k t i => impl_ReadParcels.l0 k t (wordsR l) ((wordsR l).length : Int) i) (wordsR l) ByteArray.empty cvR okR (([] : List (S40)), (5 : Int)) _ (fun m t hm ht hq => ?_) (fun m t hm ht hq r hr => ?_) (fun ha => ?_)
  · have hlen := wordsR_get hl hm
    generalize hw : (wordsR l).getD m ByteArray.empty = w at *
    have hf := implFields (s := w) rfl (by omega) 58 (most := 5000) (by omega)
    refine Ev.step (f := fun k => (impl_fields.f k w (⟨#[58]⟩ : ByteArray) 5000).bind fun bt => if bt.2 = true then (if (bt.1.length : Int) = 2 then (if 0 < (bt.1.length : Int) then (if (rd bt.1 0) ≥ 9 then (some (([] : List (S40)), (5 : Int))) else (if 1 < (bt.1.length : Int) then (if t.length < 35184372088832 then (impl_ReadParcels.l0 k (t ++ [(⟨IntKind.i8.wrap (rd bt.1 0), IntKind.i16.wrap (rd bt.1 1)⟩ : S40)]) (wordsR l) ((wordsR l).length : Int) (wrap64 ((m : Int) + 1))) else none) else none)) else none) else (some (([] : List (S40)), 5))) else (some (([] : List (S40)), 5))) (fun k => ?_) (Ev.bind hf ?_)
    · simp only [impl_ReadParcels.l0]
      rw [if_pos (by omega), if_pos (by omega), if_pos (by omega), show rdOf ByteArray.empty (wordsR l) (m : Int) = w from hw]
    · unfold fldL
      by_cases ha : (parts 58 w.data.toList).all (fun p => (numB p 5000).2) = true
      · rw [if_pos ha]
        refine Ev.pos rfl ?_
        by_cases h2 : (((parts 58 w.data.toList).map fun p => (numB p 5000).1).length : Int) = 2
        · refine Ev.pos h2 (Ev.pos (by rw [h2]; omega) ?_)
          obtain ⟨p, q, hpq⟩ := two_of_len (by rw [List.length_map] at h2; exact h2 : ((parts 58 w.data.toList).length : Int) = 2)
          rw [hpq] at ha ⊢
          simp only [List.all_cons, List.all_nil, Bool.and_true, Bool.and_eq_true, num_both (show (5000 : Int) ≤ 999999999 by omega)] at ha
          have hp : (numS p).2 = true ∧ (numS p).1 ≤ 5000 := by have h_ := ha.1; split at h_ <;> first | assumption | cases h_
          have hq2 : (numS q).2 = true ∧ (numS q).1 ≤ 5000 := by have h_ := ha.2; split at h_ <;> first | assumption | cases h_
          refine Ev.pos ?_ (Ev.now _)
          show (numB p 5000).1 ≥ 9
          rw [num_both (by omega), if_pos hp]
          unfold okR wordR at hq
          rw [hpq] at hq
          simp only [hp.1, hq2.1, hq2.2, and_true, true_and] at hq
          split at hq
          · cases hq
          · show (numS p).1 ≥ 9; omega
        · exact Ev.neg h2 (Ev.now _)
      · rw [if_neg ha]
        exact Ev.neg (by simp) (Ev.now _)
  · have hlen := wordsR_get hl hm
    generalize hw : (wordsR l).getD m ByteArray.empty = w at *
    have hf := implFields (s := w) rfl (by omega) 58 (most := 5000) (by omega)
    obtain ⟨x, hx⟩ := Option.isSome_iff_exists.1 hq
    obtain ⟨p, q, hpq, hp, hq2, h8, h5, hxe⟩ := wordR_some hx
    have hbp : numB p 5000 = ((numS p).1, true) := by rw [num_both (by omega), if_pos ⟨hp, by omega⟩]
    have hbq : numB q 5000 = ((numS q).1, true) := by rw [num_both (by omega), if_pos ⟨hq2, by omega⟩]
    have hfl : fldL (parts 58 w.data.toList) 5000 = ([(numS p).1, (numS q).1], true) := by
      unfold fldL; rw [hpq]; simp [hbp, hbq]
    rw [hfl] at hf
    have h0 := numS_nonneg p
    have h1 := numS_nonneg q
    have hcv : cvR w = ⟨(numS p).1, (numS q).1⟩ := by unfold cvR; rw [hx, hxe]; rfl
    refine Ev.step (f := fun k => (impl_fields.f k w (⟨#[58]⟩ : ByteArray) 5000).bind fun bt => if bt.2 = true then (if (bt.1.length : Int) = 2 then (if 0 < (bt.1.length : Int) then (if (rd bt.1 0) ≥ 9 then (some (([] : List (S40)), (5 : Int))) else (if 1 < (bt.1.length : Int) then (if t.length < 35184372088832 then (impl_ReadParcels.l0 k (t ++ [(⟨IntKind.i8.wrap (rd bt.1 0), IntKind.i16.wrap (rd bt.1 1)⟩ : S40)]) (wordsR l) ((wordsR l).length : Int) (wrap64 ((m : Int) + 1))) else none) else none)) else none) else (some (([] : List (S40)), 5))) else (some (([] : List (S40)), 5))) (fun k => ?_) (Ev.bind hf ?_)
    · simp only [impl_ReadParcels.l0]
      rw [if_pos (by omega), if_pos (by omega), if_pos (by omega), show rdOf ByteArray.empty (wordsR l) (m : Int) = w from hw]
    · refine Ev.pos rfl (Ev.pos rfl (Ev.pos (by simp) (Ev.neg ?_ (Ev.pos (by simp) (Ev.pos (by omega) ?_)))))
      · show ¬ (numS p).1 ≥ 9; omega
      · show Ev (fun k => impl_ReadParcels.l0 k (t ++ [(⟨IntKind.i8.wrap (numS p).1, IntKind.i16.wrap (numS q).1⟩ : S40)]) (wordsR l) ((wordsR l).length : Int) (wrap64 ((m : Int) + 1))) r
        rw [IntWalk.i8_in _ (by omega), IntWalk.i16_in _ (by omega), wrap_sm (i := (m : Int) + 1) (by omega) (by omega), ← hcv]
        exact hr
  · refine Ev.step (f := fun _ => (impl_ValidParcels.f ((wordsR l).map cvR)).bind fun t => if t = true then some ((wordsR l).map cvR, (0 : Int)) else some ([], 5)) (fun k => ?_) ?_
    · simp only [impl_ReadParcels.l0]; rw [if_neg (by omega)]
    · simp only [impl_okValidParcels (all_wf ha), Option.bind_some]
      split <;> exact Ev.now _
theorem specReadWords {l : List UInt8} (hl : l.length ≤ 1048576) : Ev (fun k => spec_ReadParcels.l0 k [] (wordsR l) 0) (if (wordsR l).all okR = true then (if okPs ((wordsR l).map cvR) = true then ((wordsR l).map cvR, 0) else ([], 5)) else ([], 5)) := by
  have hwl := wordsR_len hl
  have e : ∀ (w : ByteArray) (m : Nat) (t : List (S40)) (hm : m < (wordsR l).length) (hw : (wordsR l).getD m ByteArray.empty = w) (k : Nat), spec_ReadParcels.l0 (k + 1) t (wordsR l) (m : Int) = (spec_l01Split.f k w 58).bind fun t125 => if (t125.length : Int) = 2 then (if 0 < (t125.length : Int) then ((spec_l01Number.f k (rdOf ByteArray.empty t125 0)).bind fun bt132 => if 1 < (t125.length : Int) then ((spec_l01Number.f k (rdOf ByteArray.empty t125 1)).bind fun bt135 => if bt132.2 = true then (if bt135.2 = true then (if bt132.1 ≥ 9 then (some ((([] : List (S40))), (5 : Int))) else (if bt135.1 > 5000 then (some ((([] : List (S40))), 5)) else (if t.length < 35184372088832 then (spec_ReadParcels.l0 k (t ++ [(⟨IntKind.i8.wrap (bt132.1), IntKind.i16.wrap (bt135.1)⟩ : S40)]) (wordsR l) (wrap64 ((m : Int) + 1))) else none))) else (some ((([] : List (S40))), 5))) else (some ((([] : List (S40))), 5))) else none) else none) else (some ((([] : List (S40))), 5)) := by
    intro w m t hm hw k
    simp only [spec_ReadParcels.l0]
    rw [if_pos (by omega), if_pos (by omega), show rdOf ByteArray.empty (wordsR l) (m : Int) = w from hw]
  refine buildok_ev (fun k t i => spec_ReadParcels.l0 k t (wordsR l) i) (wordsR l) ByteArray.empty cvR okR (([] : List (S40)), (5 : Int)) _ (fun m t hm ht hq => ?_) (fun m t hm ht hq r hr => ?_) (fun ha => ?_)
  · have hlen := wordsR_get hl hm
    generalize hw : (wordsR l).getD m ByteArray.empty = w at *
    refine Ev.step (e w m t hm hw) (Ev.bind (specSplit (s := w) rfl (by omega) 58) ?_)
    by_cases h2 : (((parts 58 w.data.toList).map bsOf).length : Int) = 2
    · obtain ⟨p, q, hpq⟩ := two_of_len (by rw [List.length_map] at h2; exact h2 : ((parts 58 w.data.toList).length : Int) = 2)
      have hpl : p.length ≤ 1048576 := by have := parts_mem (show p ∈ parts 58 w.data.toList by rw [hpq]; simp); omega
      have hql : q.length ≤ 1048576 := by have := parts_mem (show q ∈ parts 58 w.data.toList by rw [hpq]; simp); omega
      refine Ev.pos h2 (Ev.pos (by rw [h2]; omega) ?_)
      rw [hpq]
      refine Ev.bind (specNumber (s := bsOf p) (bsOf_list p) (by omega)) (Ev.pos (by simp) (Ev.bind (specNumber (s := bsOf q) (bsOf_list q) (by omega)) ?_))
      unfold okR wordR at hq
      rw [hpq] at hq
      by_cases a1 : (numS p).2 = true
      · refine Ev.pos a1 ?_
        by_cases a2 : (numS q).2 = true
        · refine Ev.pos a2 ?_
          by_cases a3 : (numS p).1 ≥ 9
          · exact Ev.pos a3 (Ev.now _)
          · refine Ev.neg a3 ?_
            by_cases a4 : (numS q).1 > 5000
            · exact Ev.pos a4 (Ev.now _)
            · simp only [a1, a2, true_and] at hq
              rw [if_pos ⟨by omega, by omega⟩] at hq
              cases hq
        · exact Ev.neg a2 (Ev.now _)
      · exact Ev.neg a1 (Ev.now _)
    · exact Ev.neg h2 (Ev.now _)
  · have hlen := wordsR_get hl hm
    generalize hw : (wordsR l).getD m ByteArray.empty = w at *
    obtain ⟨x, hx⟩ := Option.isSome_iff_exists.1 hq
    obtain ⟨p, q, hpq, hp, hq2, h8, h5, hxe⟩ := wordR_some hx
    have hpl : p.length ≤ 1048576 := by have := parts_mem (show p ∈ parts 58 w.data.toList by rw [hpq]; simp); omega
    have hql : q.length ≤ 1048576 := by have := parts_mem (show q ∈ parts 58 w.data.toList by rw [hpq]; simp); omega
    have h0 := numS_nonneg p
    have h1 := numS_nonneg q
    have hcv : cvR w = ⟨(numS p).1, (numS q).1⟩ := by unfold cvR; rw [hx, hxe]; rfl
    refine Ev.step (e w m t hm hw) (Ev.bind (specSplit (s := w) rfl (by omega) 58) ?_)
    rw [hpq]
    refine Ev.pos rfl (Ev.pos (by simp) (Ev.bind (specNumber (s := bsOf p) (bsOf_list p) (by omega)) (Ev.pos (by simp) (Ev.bind (specNumber (s := bsOf q) (bsOf_list q) (by omega)) ?_))))
    refine Ev.pos hp (Ev.pos hq2 (Ev.neg (by omega) (Ev.neg (by omega) (Ev.pos (by omega) ?_))))
    rw [IntWalk.i8_in _ (by omega), IntWalk.i16_in _ (by omega), wrap_sm (i := (m : Int) + 1) (by omega) (by omega), ← hcv]
    exact hr
  · refine Ev.step (f := fun k => (spec_l04Ok.f k ((wordsR l).map cvR)).bind fun t => if t = true then some ((wordsR l).map cvR, (0 : Int)) else some ([], 5)) (fun k => ?_) (Ev.bind (spec_okValidParcels (by rw [List.length_map]; exact hwl) (all_wf ha)) ?_)
    · simp only [spec_ReadParcels.l0]; rw [if_neg (by omega)]
    · split <;> exact Ev.now _
theorem implReadParcels {s : ByteArray} (hs : s.data.toList.length ≤ 1048576) : Ev (fun k => impl_ReadParcels.f k s) (rReadParcels s.data.toList) := by
  unfold impl_ReadParcels.f rReadParcels
  simp only [Option.bind_some]
  by_cases h0 : s.data.toList = []
  · rw [if_pos h0]; exact Ev.pos (list_nil.2 h0) (Ev.now _)
  · rw [if_neg h0]
    refine Ev.neg (fun e => h0 (list_nil.1 e)) ?_
    simp only [implSplit (s := s) rfl (by omega) 32, Option.bind_some]
    exact implReadWords hs
theorem specReadParcels {s : ByteArray} (hs : s.data.toList.length ≤ 1048576) : Ev (fun k => spec_ReadParcels.f k s) (rReadParcels s.data.toList) := by
  unfold spec_ReadParcels.f rReadParcels
  simp only [Option.bind_some]
  by_cases h0 : s.data.toList = []
  · rw [if_pos h0]; exact Ev.pos (list_nil.2 h0) (Ev.now _)
  · rw [if_neg h0]
    refine Ev.neg (fun e => h0 (list_nil.1 e)) (Ev.bind (specSplit (s := s) rfl (by omega) 32) ?_)
    exact specReadWords hs
theorem rReadParcels_len {l : List UInt8} (hl : l.length ≤ 1048576) : (rReadParcels l).1.length ≤ 2097152 := by
  unfold rReadParcels
  have := wordsR_len hl
  split
  · simp
  · split
    · split
      · rw [List.length_map]; exact this
      · simp
    · simp
end Go.Proofs.YtihnefkkgbokcaaDoor.Pure
