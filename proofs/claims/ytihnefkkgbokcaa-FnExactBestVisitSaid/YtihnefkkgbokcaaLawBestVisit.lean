/- The statement FnExactBestVisit, out of its pure form: for all arguments the function returns true, and they read as before. -/
import Derived.Test.YtihnefkkgbokcaaRows
import Derived.Test.YtihnefkkgbokcaaQ12
import Derived.Test.YtihnefkkgbokcaaPureBestVisit
import Derived.Test.YtihnefkkgbokcaaOpens
import Derived.WalkKit
import Derived.ProofKit
import Derived.OpenShut
import Derived.ShutString
import Derived.ChangeOld
import Derived.Below
import Derived.SizedLaws
import Derived.Carry
namespace Go.Proofs.Ytihnefkkgbokcaa.fnExactBestVisit
open Go.ChangeShapes Go.WideShapes Go.ChangeAt Go.RowKit Go.Proofs.Ytihnefkkgbokcaa.Open Go.Proofs.YtihnefkkgbokcaaW.PrintWords Go.Proofs.Ytihnefkkgbokcaa.Q Go.Proofs.YtihnefkkgbokcaaMine
set_option linter.unusedVariables false
set_option maxRecDepth 100000 in
theorem lifted (os : Os) (started : os.Started) (H : Type) (enc : TypeId × Value → H) :
  ReturnsInHanded {} Try.checked os 10 .any (Rows.fnExactBestVisitSpec.pre6 enc Try.prog Try.f10 Rows.fnExactBestVisitRow.domain false) (Rows.fnExactBestVisitSpec.post enc Try.prog Try.f10 false true false false) := by
 refine returnsInHanded_of_change_sized (C := Try.checked) own started (by kernel_rfl) Try.func10
  (ChangeSpec.witness6 (enc := enc) (C := Try.checked) false ⟨#[], #[(.slice none 0 0), (.slice none 0 0), (.int .i64 0)], []⟩ 8 (by kernel_rfl) (by kernel_rfl) (by kernel_rfl) (by kernel_rfl)) ?_
 intro W base args ds gs before hval0 hW hcnd hsz0 _
 have hsz : (DataW.weightsEach Try.prog (Try.f10.params.toList ++ Rows.fnExactBestVisitSpec.plain.varTypes Try.prog) (ds ++ gs)).all (· ≤ reachBytes) = true := hsz0
 have hval : ∀ (j : Nat) t v, Try.f10.params[j]? = some t → args[j]? = some v → Value.okWide Try.prog W .any base t v := hval0
 have hW' := hW
 obtain ⟨p, q, hA0, hV, rfl, hfz, hnd⟩ := hW
 have hA : DataW.TrodAll enc Try.prog W 0 (fun _ => true) true Try.f10.params.toList args.toList ds p := hA0
 rw [Try.params10] at hA hval hsz
 obtain ⟨v0, vs0, d0, ds0, p0, q0, hargs, rfl, rfl, h0, r0⟩ := trodAll_cons hA
 obtain ⟨v1, vs1, d1, ds1, p1, q1, rfl, rfl, rfl, h1, r1⟩ := trodAll_cons r0
 obtain ⟨v2, vs2, d2, ds2, p2, q2, rfl, rfl, rfl, h2, r2⟩ := trodAll_cons r1
 obtain ⟨rfl, rfl, rfl⟩ := trodAll_nil r2
 obtain rfl : args = #[v0, v1, v2] := by cases args; simp_all
 obtain ⟨rfl, rfl⟩ := trodVars_none hV
 have b0 := h0
 obtain ⟨x0, K0, w0⟩ := open_arg op32 hsz (j := 0) (t := 32) rfl rfl h0
 obtain ⟨A0, len0, c0, rfl⟩ := okWide_slice Try.underlying32 (hval 0 32 v0 rfl rfl)
 obtain ⟨A0_, c0_, e0, hc0, hr0⟩ := K0
 simp only [Value.cells, List.cons.injEq, Value.slice.injEq, and_true] at e0
 obtain ⟨rfl, rfl, rfl⟩ := e0
 have b1 := h1
 obtain ⟨x1, K1, w1⟩ := open_arg op34 hsz (j := 1) (t := 34) rfl rfl h1
 obtain ⟨A1, len1, c1, rfl⟩ := okWide_slice Try.underlying34 (hval 1 34 v1 rfl rfl)
 obtain ⟨A1_, c1_, e1, hc1, hr1⟩ := K1
 simp only [Value.cells, List.cons.injEq, Value.slice.injEq, and_true] at e1
 obtain ⟨rfl, rfl, rfl⟩ := e1
 have b2 := h2
 obtain ⟨x2, K2, w2⟩ := open_arg op2 hsz (j := 2) (t := 2) rfl rfl h2
 obtain ⟨a2, rfl, rfl, rfl, y2⟩ := open_int Try.underlying2 (hval 2 2 v2 rfl rfl) h2
 obtain rfl : x2 = a2 := by have e_ : [Value.int .i64 a2] = [Value.int .i64 x2] := K2; injection e_ with e_ _; injection e_; first | (symm; assumption) | rfl
 obtain ⟨k, hp⟩ := Pure.BestVisit x0 x1 x2 w0 w1 w2
 clear hA0 hval0 hsz0 hsz
 refine (Q.laws_FnExactBestVisit.calls k A0 c0 x0 A1 c1 x1 x2 true W hr0 hc0 hr1 hc1 hp).mono fun e W' he_ => ?_
 obtain ⟨he, hd⟩ := he_
 subst he
 have bel : Below W.heap.size W W' := hd
 exact ⟨_, rfl, _, _, _, [], _, [], hW', trodAll_mk1 (shut_bool Try.underlying4 _), (trodAll_cons_mk (Below.trod laidOut (by kernel_rfl) (of_decide_eq_true (by kernel_rfl)) b0 bel (trod_below b0)) (trodAll_cons_mk (Below.trod laidOut (by kernel_rfl) (of_decide_eq_true (by kernel_rfl)) b1 bel (trod_below b1)) (trodAll_cons_mk (Below.trod laidOut (by kernel_rfl) (of_decide_eq_true (by kernel_rfl)) b2 bel (trod_below b2)) trodAll_mk0))), rfl, bel.frame _, fun h => by cases h⟩
theorem over : Rows.fnExactBestVisitRow.holds Try.pinned (OpenSpec.ofChange Rows.fnExactBestVisitSpec) :=
 OpenClaim.holds_of_wide 10 Try.f10 rfl rfl rfl rfl rfl rfl rfl ⟨rfl, rfl, rfl, rfl, rfl⟩ rfl rfl rfl rfl rfl (by kernel_rfl) Try.func10 (by kernel_rfl)
  (of_decide_eq_true (by kernel_rfl)) (by unfold Func.isWrapper; first | (rw [if_pos (by decide +kernel)]; kernel_rfl) | (rw [if_neg (by decide +kernel)]; exact ⟨rfl, rfl⟩))
  (fun os started H enc _ => lifted os started H enc)
end Go.Proofs.Ytihnefkkgbokcaa.fnExactBestVisit
namespace Go.Proofs.Ytihnefkkgbokcaa
/-- FnExactBestVisit: for all arguments. -/
theorem fnExactBestVisit_holds : Rows.FnExactBestVisitSaid := fnExactBestVisit.over
#print axioms fnExactBestVisit_holds
end Go.Proofs.Ytihnefkkgbokcaa
