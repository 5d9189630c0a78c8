/- The statement FnExactStampsFor, out of its pure form: for all arguments the function returns true, and they read as before. -/
import Derived.Test.YtdeipindfhkioaaRows
import Derived.Test.YtdeipindfhkioaaQ13
import Derived.Test.YtdeipindfhkioaaPureStampsFor
import Derived.Test.YtdeipindfhkioaaOpens
import Derived.WalkKit
import Derived.ProofKit
import Derived.OpenShut
import Derived.ShutString
import Derived.ChangeOld
import Derived.Below
import Derived.SizedLaws
import Derived.Carry
namespace Go.Proofs.Ytdeipindfhkioaa.fnExactStampsFor
open Go.ChangeShapes Go.WideShapes Go.ChangeAt Go.RowKit Go.Proofs.Ytdeipindfhkioaa.Open Go.Proofs.YtdeipindfhkioaaW.PrintWords Go.Proofs.Ytdeipindfhkioaa.Q Go.Proofs.YtdeipindfhkioaaMine
set_option linter.unusedVariables false
set_option maxRecDepth 100000 in
theorem lifted (os : Os) (started : os.Started) (H : Type) (enc : TypeId × Value → H) :
  ReturnsInHanded {} Try.checked os 11 .any (Rows.fnExactStampsForSpec.pre6 enc Try.prog Try.f11 Rows.fnExactStampsForRow.domain false) (Rows.fnExactStampsForSpec.post enc Try.prog Try.f11 false true false false) := by
 refine returnsInHanded_of_change_sized (C := Try.checked) own started (by kernel_rfl) Try.func11
  (ChangeSpec.witness6 (enc := enc) (C := Try.checked) false ⟨#[], #[(.agg #[(.slice none 0 0), (.slice none 0 0)]), (.int .i64 0), (.int .i64 0), (.slice none 0 0)], []⟩ 8 (by kernel_rfl) (by kernel_rfl) (by kernel_rfl) (by kernel_rfl)) ?_
 intro W base args ds gs before hval0 hW hcnd hsz0 _
 have hsz : (DataW.weightsEach Try.prog (Try.f11.params.toList ++ Rows.fnExactStampsForSpec.plain.varTypes Try.prog) (ds ++ gs)).all (· ≤ reachBytes) = true := hsz0
 have hval : ∀ (j : Nat) t v, Try.f11.params[j]? = some t → args[j]? = some v → Value.okWide Try.prog W .any base t v := hval0
 have hW' := hW
 obtain ⟨p, q, hA0, hV, rfl, hfz, hnd⟩ := hW
 have hA : DataW.TrodAll enc Try.prog W 0 (fun _ => true) true Try.f11.params.toList args.toList ds p := hA0
 rw [Try.params11] at hA hval hsz
 obtain ⟨v0, vs0, d0, ds0, p0, q0, hargs, rfl, rfl, h0, r0⟩ := trodAll_cons hA
 obtain ⟨v1, vs1, d1, ds1, p1, q1, rfl, rfl, rfl, h1, r1⟩ := trodAll_cons r0
 obtain ⟨v2, vs2, d2, ds2, p2, q2, rfl, rfl, rfl, h2, r2⟩ := trodAll_cons r1
 obtain ⟨v3, vs3, d3, ds3, p3, q3, rfl, rfl, rfl, h3, r3⟩ := trodAll_cons r2
 obtain ⟨rfl, rfl, rfl⟩ := trodAll_nil r3
 obtain rfl : args = #[v0, v1, v2, v3] := by cases args; simp_all
 obtain ⟨rfl, rfl⟩ := trodVars_none hV
 have b0 := h0
 obtain ⟨x0, K0, w0⟩ := open_arg op33 hsz (j := 0) (t := 33) rfl rfl h0
 obtain ⟨cs0, rfl, hs0⟩ := okWide_struct Try.underlying33 (hval 0 33 v0 rfl rfl)
 obtain ⟨cs0⟩ := cs0
 have K0' := K0
 obtain ⟨A0_0, c0_0, A0_1, c0_1, E0, hc0_0, hr0_0, hc0_1, hr0_1⟩ := k33_open (x := x0) K0
 simp only [Value.cells] at E0
 subst E0
 have b1 := h1
 obtain ⟨x1, K1, w1⟩ := open_arg op2 hsz (j := 1) (t := 2) rfl rfl h1
 obtain ⟨a1, rfl, rfl, rfl, y1⟩ := open_int Try.underlying2 (hval 1 2 v1 rfl rfl) h1
 obtain rfl : x1 = a1 := by have e_ : [Value.int .i64 a1] = [Value.int .i64 x1] := K1; injection e_ with e_ _; injection e_; first | (symm; assumption) | rfl
 have b2 := h2
 obtain ⟨x2, K2, w2⟩ := open_arg op2 hsz (j := 2) (t := 2) rfl rfl h2
 obtain ⟨a2, rfl, rfl, rfl, y2⟩ := open_int Try.underlying2 (hval 2 2 v2 rfl rfl) h2
 obtain rfl : x2 = a2 := by have e_ : [Value.int .i64 a2] = [Value.int .i64 x2] := K2; injection e_ with e_ _; injection e_; first | (symm; assumption) | rfl
 have b3 := h3
 obtain ⟨x3, K3, w3⟩ := open_arg op34 hsz (j := 3) (t := 34) rfl rfl h3
 obtain ⟨A3, len3, c3, rfl⟩ := okWide_slice Try.underlying34 (hval 3 34 v3 rfl rfl)
 obtain ⟨A3_, c3_, e3, hc3, hr3⟩ := K3
 simp only [Value.cells, List.cons.injEq, Value.slice.injEq, and_true] at e3
 obtain ⟨rfl, rfl, rfl⟩ := e3
 obtain ⟨k, hp⟩ := Pure.StampsFor (x0.f0) (x0.f1) x1 x2 x3 w0.1 w0.2 w1 w2 w3
 clear hA0 hval0 hsz0 hsz
 refine (Q.laws_FnExactStampsFor.calls k A0_0 c0_0 (x0.f0) A0_1 c0_1 (x0.f1) x1 x2 A3 c3 x3 true W hr0_0 hc0_0 hr0_1 hc0_1 hr3 hc3 hp).mono fun e W' he_ => ?_
 obtain ⟨he, hd⟩ := he_
 subst he
 have bel : Below W.heap.size W W' := hd
 exact ⟨_, rfl, _, _, _, [], _, [], hW', trodAll_mk1 (shut_bool Try.underlying4 _), (trodAll_cons_mk (Below.trod laidOut (by kernel_rfl) (of_decide_eq_true (by kernel_rfl)) b0 bel (trod_below b0)) (trodAll_cons_mk (Below.trod laidOut (by kernel_rfl) (of_decide_eq_true (by kernel_rfl)) b1 bel (trod_below b1)) (trodAll_cons_mk (Below.trod laidOut (by kernel_rfl) (of_decide_eq_true (by kernel_rfl)) b2 bel (trod_below b2)) (trodAll_cons_mk (Below.trod laidOut (by kernel_rfl) (of_decide_eq_true (by kernel_rfl)) b3 bel (trod_below b3)) trodAll_mk0)))), rfl, bel.frame _, fun h => by cases h⟩
theorem over : Rows.fnExactStampsForRow.holds Try.pinned (OpenSpec.ofChange Rows.fnExactStampsForSpec) :=
 OpenClaim.holds_of_wide 11 Try.f11 rfl rfl rfl rfl rfl rfl rfl ⟨rfl, rfl, rfl, rfl, rfl⟩ rfl rfl rfl rfl rfl (by kernel_rfl) Try.func11 (by kernel_rfl)
  (of_decide_eq_true (by kernel_rfl)) (by unfold Func.isWrapper; first | (rw [if_pos (by decide +kernel)]; kernel_rfl) | (rw [if_neg (by decide +kernel)]; exact ⟨rfl, rfl⟩))
  (fun os started H enc _ => lifted os started H enc)
end Go.Proofs.Ytdeipindfhkioaa.fnExactStampsFor
namespace Go.Proofs.Ytdeipindfhkioaa
/-- FnExactStampsFor: for all arguments. -/
theorem fnExactStampsFor_holds : Rows.FnExactStampsForSaid := fnExactStampsFor.over
#print axioms fnExactStampsFor_holds
end Go.Proofs.Ytdeipindfhkioaa
