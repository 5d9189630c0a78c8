/- Decimal texts, by the reference. -/
import Derived.Test.YtdeipindfhkioaaDoorQ1
import Derived.Test.YtdeipindfhkioaaDoorPureCText
set_option linter.unusedVariables false
set_option linter.unusedSimpArgs false
namespace Go.Proofs.YtdeipindfhkioaaDoor.Pure
open Go.RowKit Go.Proofs.YtdeipindfhkioaaDoor.Q Go.Proofs.YtdeipindfhkioaaDoorMine Go.Proofs.YtdeipindfhkioaaDoorW.PrintWords Go.Proofs.YtdeipindfhkioaaDoorW.PrintMore
theorem specDecimal : ∀ (u : Nat) (n : Int), n = (u : Int) → n ≤ 9223372036854775807 → Ev (fun k => spec_Decimal.f k n) (bsOf (Lib.decDigits u)) := by
  intro u
  induction u using Nat.strongRecOn with
  | _ u ih =>
    intro n hn h1
    rw [Lib.decDigits]
    split
    · rename_i hu
      refine Ev.step (f := fun _ => some (strOfNums [(wrap64 (48 + n)) % 256])) (fun k => ?_) (Ev.eq (Ev.now _) ?_)
      · simp only [spec_Decimal.f]
        rw [if_pos (by omega), show Int.tmod n 10 = n by rw [Int.tmod_eq_emod_of_nonneg (by omega)]; omega]
      · rw [wrap_sm (by omega) (by omega), show (48 + n) % 256 = ((48 + u : Nat) : Int) by omega]
        show bsOf [UInt8.ofNat ((48 + u : Nat) : Int).toNat] = _
        rw [Int.toNat_natCast]
    · rename_i hu
      have h10 : Int.tdiv n 10 = ((u / 10 : Nat) : Int) := by rw [Int.tdiv_eq_ediv_of_nonneg (by omega)]; omega
      have hl := dec_len20 n (by omega) h1
      have hl2 : (Lib.decDigits (u / 10)).length ≤ 19 := dec_len 18 (u / 10) (by omega)
      refine Ev.step (f := fun k => (spec_Decimal.f k ((u / 10 : Nat) : Int)).bind fun t => (some ([(wrap64 (48 + (Int.tmod n 10))) % 256] : List Int)).bind fun y => if t.size + (strOfNums y).size ≤ 9223372036854775807 then some (t ++ strOfNums y) else none) (fun k => ?_) (Ev.bind (ih (u / 10) (by omega) _ rfl (by omega)) ?_)
      · simp only [spec_Decimal.f]
        rw [if_neg (by omega), h10, wrap_sm (i := ((u / 10 : Nat) : Int)) (by omega) (by omega)]
      · rw [Option.bind_some]
        refine Ev.eq (Ev.val (r := bsOf (Lib.decDigits (u / 10)) ++ strOfNums [(wrap64 (48 + (Int.tmod n 10))) % 256]) (fun k => if_pos ?_)) ?_
        · rw [bsOf_size, strOfNums_size, List.length_singleton]; omega
        · rw [show Int.tmod n 10 = ((u % 10 : Nat) : Int) by rw [Int.tmod_eq_emod_of_nonneg (by omega)]; omega, wrap_sm (by omega) (by omega), show (48 + ((u % 10 : Nat) : Int)) % 256 = ((48 + u % 10 : Nat) : Int) by omega]
          show bsOf _ ++ bsOf [UInt8.ofNat ((48 + u % 10 : Nat) : Int).toNat] = _
          rw [Int.toNat_natCast, bsOf_append]
theorem specDec {n : Int} (h0 : 0 ≤ n) (h1 : n ≤ 9223372036854775807) : Ev (fun k => spec_Decimal.f k n) (bsOf (Lib.decDigits n.toNat)) := specDecimal n.toNat n (by omega) h1
end Go.Proofs.YtdeipindfhkioaaDoor.Pure
