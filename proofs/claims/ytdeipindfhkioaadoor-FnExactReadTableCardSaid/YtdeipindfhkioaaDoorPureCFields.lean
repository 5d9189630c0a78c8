/- The numbers of a text between which a byte stands, by the program. -/
import Derived.Test.YtdeipindfhkioaaDoorQ5
import Derived.Test.YtdeipindfhkioaaDoorPureCNum
import Derived.Test.YtdeipindfhkioaaDoorPureCPart
set_option linter.unusedVariables false
set_option linter.unusedSimpArgs false
namespace Go.Proofs.YtdeipindfhkioaaDoor.Pure
open Go.RowKit Go.Proofs.YtdeipindfhkioaaDoor.Q Go.Proofs.YtdeipindfhkioaaDoorMine Go.Proofs.YtdeipindfhkioaaDoorW.PrintWords Go.Proofs.YtdeipindfhkioaaDoorW.PrintMore
def fldL (ws : List (List UInt8)) (most : Int) : List Int × Bool := if ws.all (fun w => (numB w most).2) = true then (ws.map (fun w => (numB w most).1), true) else ([], false)
theorem implFields {s : ByteArray} {l : List UInt8} (h : s.data.toList = l) (hl : l.length ≤ 2097152) (c : UInt8) {most : Int} (hm : most ≤ 9223372036854775807) : Ev (fun k => impl_fields.f k s ⟨#[c]⟩ most) (fldL (parts c l) most) := by
 unfold impl_fields.f fldL
 simp only [implSplit h hl c, Option.bind_some]
 have hpl := parts_len c l
 have hx : ((parts c l).map bsOf).length ≤ 2097153 := by rw [List.length_map]; omega
 refine Ev.eq (buildok_ev (fun k t i => impl_fields.l0 k most t ((parts c l).map bsOf) (((parts c l).map bsOf).length : Int) i) ((parts c l).map bsOf) ByteArray.empty (fun w => (numB w.data.toList most).1) (fun w => (numB w.data.toList most).2) (([] : List Int), false) ((parts c l).map fun w => (numB w most).1, true) (fun m t hm' ht hq => ?_) (fun m t hm' ht hq r hr => ?_) (fun ha => ?_)) ?_
 ·have hw : (((parts c l).map bsOf).getD m ByteArray.empty).size ≤ 281474976710656 := by
   have := (get_mem ByteArray.empty hm').1
   obtain ⟨p, hp, e⟩ := List.mem_map.1 this
   have := parts_mem hp
   rw [← e, bsOf_size]; omega
  refine Ev.step (f := fun _ => some (([] : List Int), false)) (fun k => ?_) (Ev.now _)
  simp only [impl_fields.l0]
  rw [if_pos (by omega), if_pos (by omega), if_pos (by omega), show rdOf ByteArray.empty ((parts c l).map bsOf) (m : Int) = ((parts c l).map bsOf).getD m ByteArray.empty from rfl, implNumber hw hm, Option.bind_some, if_neg (by rw [hq]; simp)]
 ·have hw : (((parts c l).map bsOf).getD m ByteArray.empty).size ≤ 281474976710656 := by
   have := (get_mem ByteArray.empty hm').1
   obtain ⟨p, hp, e⟩ := List.mem_map.1 this
   have := parts_mem hp
   rw [← e, bsOf_size]; omega
  refine Ev.step (fun k => ?_) hr
  simp only [impl_fields.l0]
  rw [if_pos (by omega), if_pos (by omega), if_pos (by omega), show rdOf ByteArray.empty ((parts c l).map bsOf) (m : Int) = ((parts c l).map bsOf).getD m ByteArray.empty from rfl, implNumber hw hm, Option.bind_some, if_pos hq, if_pos (by omega), wrap_sm (i := (m : Int) + 1) (by omega) (by omega)]; rfl
 ·refine Ev.step (f := fun _ => some (((parts c l).map bsOf).map (fun w => (numB w.data.toList most).1), true)) (fun k => ?_) (Ev.eq (Ev.now _) ?_)
  ·simp only [impl_fields.l0]; rw [if_neg (by omega)]
  ·rw [List.map_map]; congr 1
 ·rw [List.all_map]
  have e : ((fun w : ByteArray => (numB w.data.toList most).2) ∘ bsOf) = fun w => (numB w most).2 := by funext p; simp [bsOf]
  rw [e]
end Go.Proofs.YtdeipindfhkioaaDoor.Pure
