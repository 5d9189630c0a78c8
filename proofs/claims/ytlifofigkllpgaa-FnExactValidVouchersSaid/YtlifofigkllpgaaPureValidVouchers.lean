/- ValidVouchers returns what the reference returns, for all arguments. -/
import Derived.Test.YtlifofigkllpgaaQ6
import Derived.Test.YtlifofigkllpgaaPureAValidVouchers
import Derived.Test.YtlifofigkllpgaaPureToVoucher
set_option linter.unusedVariables false
set_option linter.unusedSimpArgs false
namespace Go.Proofs.Ytlifofigkllpgaa.Pure
open Go.RowKit Go.Proofs.Ytlifofigkllpgaa.Q Go.Proofs.YtlifofigkllpgaaMine Go.Proofs.YtlifofigkllpgaaW.PrintWords
theorem ValidVouchers : laws_FnExactValidVouchers.Pure := by
  intro l0 ⟨_, hb0, hw0⟩
  apply Ev.rounds
  unfold laws_FnExactValidVouchers.f
  simp only [szVoucherS l0 (by omega) (1048576) (by omega) (by omega), Option.bind_some]
  by_cases g0 : (1048576 : Int) - (l0.length : Int) < 0
  · simp only [if_pos g0, if_pos (show (-1 : Int) < 0 by omega)]; exact Ev.now _
  simp only [if_neg g0]
  have hl0 : (l0.map cvVoucher).length ≤ 2097152 := by rw [List.length_map]; omega
  have hc0 := wfsVoucher (l := l0) hw0
  have hS := specValidVouchers hl0 hc0
  have hI := implValidVouchers hl0 hc0
  repeat (first | exact Ev.now _ | (with_reducible refine Ev.bind hS ?_) | (with_reducible refine Ev.bind hI ?_) | (with_reducible refine Ev.bind (toVoucherS l0 (by omega)) ?_) | (with_reducible refine Ev.bind (eqVoucherS _ hl0) ?_) | simp only [if_true, eq_self_iff_true, bne_self_eq_false, Bool.false_eq_true, if_false, Option.bind_some])
end Go.Proofs.Ytlifofigkllpgaa.Pure
