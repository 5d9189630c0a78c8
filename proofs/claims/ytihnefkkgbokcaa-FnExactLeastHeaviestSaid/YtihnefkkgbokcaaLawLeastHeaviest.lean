/- The statement FnExactLeastHeaviest, out of its pure form: for all arguments the function returns true, and they read as before. -/
import Derived.Test.YtihnefkkgbokcaaRows
import Derived.Test.YtihnefkkgbokcaaQ6
import Derived.Test.YtihnefkkgbokcaaPureLeastHeaviest
import Derived.Test.YtihnefkkgbokcaaOpens
import Derived.WalkKit
import Derived.ProofKit
import Derived.OpenShut
import Derived.ShutString
import Derived.ChangeOld
import Derived.Below
import Derived.SizedLaws
import Derived.Carry
namespace Go.Proofs.Ytihnefkkgbokcaa.fnExactLeastHeaviest
open Go.ChangeShapes Go.WideShapes Go.ChangeAt Go.RowKit Go.Proofs.Ytihnefkkgbokcaa.Open Go.Proofs.YtihnefkkgbokcaaW.PrintWords Go.Proofs.Ytihnefkkgbokcaa.Q
set_option linter.unusedVariables false
set_option maxRecDepth 100000 in
theorem lifted (os : Os) (started : os.Started) (H : Type) (enc : TypeId × Value → H) :
    ReturnsInHanded {} Try.checked os 6 .any (Rows.fnExactLeastHeaviestSpec.pre6 enc Try.prog Try.f6 Rows.fnExactLeastHeaviestRow.domain false) (Rows.fnExactLeastHeaviestSpec.post enc Try.prog Try.f6 false true false false) := by
  refine returnsInHanded_of_change_sized (C := Try.checked) own started (by kernel_rfl) Try.func6
    (ChangeSpec.witness6 (enc := enc) (C := Try.checked) false ⟨#[], #[(.slice none 0 0), (.int .i64 0)], []⟩ 8 (by kernel_rfl) (by kernel_rfl) (by kernel_rfl) (by kernel_rfl)) ?_
  intro W base args ds gs before hval0 hW hcnd hsz0 _
  have hsz : (DataW.weightsEach Try.prog (Try.f6.params.toList ++ Rows.fnExactLeastHeaviestSpec.plain.varTypes Try.prog) (ds ++ gs)).all (· ≤ reachBytes) = true := hsz0
  have hval : ∀ (j : Nat) t v, Try.f6.params[j]? = some t → args[j]? = some v → Value.okWide Try.prog W .any base t v := hval0
  have hW' := hW
  obtain ⟨p, q, hA0, hV, rfl, hfz, hnd⟩ := hW
  have hA : DataW.TrodAll enc Try.prog W 0 (fun _ => true) true Try.f6.params.toList args.toList ds p := hA0
  rw [Try.params6] at hA hval hsz
  obtain ⟨v0, vs0, d0, ds0, p0, q0, hargs, rfl, rfl, h0, r0⟩ := trodAll_cons hA
  obtain ⟨v1, vs1, d1, ds1, p1, q1, rfl, rfl, rfl, h1, r1⟩ := trodAll_cons r0
  obtain ⟨rfl, rfl, rfl⟩ := trodAll_nil r1
  obtain rfl : args = #[v0, v1] := by cases args; simp_all
  obtain ⟨rfl, rfl⟩ := trodVars_none hV
  have b0 := h0
  obtain ⟨x0, K0, w0⟩ := open_arg op32 hsz (j := 0) (t := 32) rfl rfl h0
  obtain ⟨A0, len0, c0, rfl⟩ := okWide_slice Try.underlying32 (hval 0 32 v0 rfl rfl)
  obtain ⟨A0_, c0_, e0, hc0, hr0⟩ := K0
  simp only [Value.cells, List.cons.injEq, Value.slice.injEq, and_true] at e0
  obtain ⟨rfl, rfl, rfl⟩ := e0
  have b1 := h1
  obtain ⟨x1, K1, w1⟩ := open_arg op2 hsz (j := 1) (t := 2) rfl rfl h1
  obtain ⟨a1, rfl, rfl, rfl, y1⟩ := open_int Try.underlying2 (hval 1 2 v1 rfl rfl) h1
  obtain rfl : x1 = a1 := by have e_ : [Value.int .i64 a1] = [Value.int .i64 x1] := K1; injection e_ with e_ _; injection e_; first | (symm; assumption) | rfl
  obtain ⟨k, hp⟩ := Pure.LeastHeaviest x0 x1 w0 w1
  clear hA0 hval0 hsz0 hsz
  refine (Q.laws_FnExactLeastHeaviest.calls k A0 c0 x0 x1 true W hr0 hc0 hp).mono fun e W' he_ => ?_
  obtain ⟨he, hd⟩ := he_
  subst he
  have bel : Below W.heap.size W W' := hd
  exact ⟨_, rfl, _, _, _, [], _, [], hW', trodAll_mk1 (shut_bool Try.underlying4 _), (trodAll_cons_mk (Below.trod laidOut (by kernel_rfl) (of_decide_eq_true (by kernel_rfl)) b0 bel (trod_below b0)) (trodAll_cons_mk (Below.trod laidOut (by kernel_rfl) (of_decide_eq_true (by kernel_rfl)) b1 bel (trod_below b1)) trodAll_mk0)), rfl, bel.frame _, fun h => by cases h⟩
theorem over : Rows.fnExactLeastHeaviestRow.holds Try.pinned (OpenSpec.ofChange Rows.fnExactLeastHeaviestSpec) :=
  OpenClaim.holds_of_wide 6 Try.f6 rfl rfl rfl rfl rfl rfl rfl ⟨rfl, rfl, rfl, rfl, rfl⟩ rfl rfl rfl rfl rfl (by kernel_rfl) Try.func6 (by kernel_rfl)
    (of_decide_eq_true (by kernel_rfl)) (by unfold Func.isWrapper; first | (rw [if_pos (by decide +kernel)]; kernel_rfl) | (rw [if_neg (by decide +kernel)]; exact ⟨rfl, rfl⟩))
    (fun os started H enc _ => lifted os started H enc)
end Go.Proofs.Ytihnefkkgbokcaa.fnExactLeastHeaviest
namespace Go.Proofs.Ytihnefkkgbokcaa
/-- FnExactLeastHeaviest: for all arguments. -/
theorem fnExactLeastHeaviest_holds : Rows.FnExactLeastHeaviestSaid := fnExactLeastHeaviest.over
#print axioms fnExactLeastHeaviest_holds
end Go.Proofs.Ytihnefkkgbokcaa
