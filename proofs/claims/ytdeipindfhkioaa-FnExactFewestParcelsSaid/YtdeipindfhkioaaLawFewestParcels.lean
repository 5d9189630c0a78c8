/- The statement FnExactFewestParcels, out of its pure form: for all arguments the function returns true, and they read as before. -/
import Derived.Test.YtdeipindfhkioaaRows
import Derived.Test.YtdeipindfhkioaaQ6
import Derived.Test.YtdeipindfhkioaaPureFewestParcels
import Derived.Test.YtdeipindfhkioaaOpens
import Derived.WalkKit
import Derived.ProofKit
import Derived.OpenShut
import Derived.ShutString
import Derived.ChangeOld
import Derived.Below
import Derived.SizedLaws
import Derived.Carry
namespace Go.Proofs.Ytdeipindfhkioaa.fnExactFewestParcels
open Go.ChangeShapes Go.WideShapes Go.ChangeAt Go.RowKit Go.Proofs.Ytdeipindfhkioaa.Open Go.Proofs.YtdeipindfhkioaaW.PrintWords Go.Proofs.Ytdeipindfhkioaa.Q Go.Proofs.YtdeipindfhkioaaMine
set_option linter.unusedVariables false
set_option maxRecDepth 100000 in
theorem lifted (os : Os) (started : os.Started) (H : Type) (enc : TypeId × Value → H) :
  ReturnsInHanded {} Try.checked os 8 .any (Rows.fnExactFewestParcelsSpec.pre6 enc Try.prog Try.f8 Rows.fnExactFewestParcelsRow.domain false) (Rows.fnExactFewestParcelsSpec.post enc Try.prog Try.f8 false true false false) := by
 refine returnsInHanded_of_change_sized (C := Try.checked) own started (by kernel_rfl) Try.func8
  (ChangeSpec.witness6 (enc := enc) (C := Try.checked) false ⟨#[], #[(.agg #[(.slice none 0 0), (.slice none 0 0)]), (.slice none 0 0)], []⟩ 8 (by kernel_rfl) (by kernel_rfl) (by kernel_rfl) (by kernel_rfl)) ?_
 intro W base args ds gs before hval0 hW hcnd hsz0 _
 have hsz : (DataW.weightsEach Try.prog (Try.f8.params.toList ++ Rows.fnExactFewestParcelsSpec.plain.varTypes Try.prog) (ds ++ gs)).all (· ≤ reachBytes) = true := hsz0
 have hval : ∀ (j : Nat) t v, Try.f8.params[j]? = some t → args[j]? = some v → Value.okWide Try.prog W .any base t v := hval0
 have hW' := hW
 obtain ⟨p, q, hA0, hV, rfl, hfz, hnd⟩ := hW
 have hA : DataW.TrodAll enc Try.prog W 0 (fun _ => true) true Try.f8.params.toList args.toList ds p := hA0
 rw [Try.params8] at hA hval hsz
 obtain ⟨v0, vs0, d0, ds0, p0, q0, hargs, rfl, rfl, h0, r0⟩ := trodAll_cons hA
 obtain ⟨v1, vs1, d1, ds1, p1, q1, rfl, rfl, rfl, h1, r1⟩ := trodAll_cons r0
 obtain ⟨rfl, rfl, rfl⟩ := trodAll_nil r1
 obtain rfl : args = #[v0, v1] := by cases args; simp_all
 obtain ⟨rfl, rfl⟩ := trodVars_none hV
 have b0 := h0
 obtain ⟨x0, K0, w0⟩ := open_arg op33 hsz (j := 0) (t := 33) rfl rfl h0
 obtain ⟨cs0, rfl, hs0⟩ := okWide_struct Try.underlying33 (hval 0 33 v0 rfl rfl)
 obtain ⟨cs0⟩ := cs0
 have K0' := K0
 obtain ⟨A0_0, c0_0, A0_1, c0_1, E0, hc0_0, hr0_0, hc0_1, hr0_1⟩ := k33_open (x := x0) K0
 simp only [Value.cells] at E0
 subst E0
 have b1 := h1
 obtain ⟨x1, K1, w1⟩ := open_arg op34 hsz (j := 1) (t := 34) rfl rfl h1
 obtain ⟨A1, len1, c1, rfl⟩ := okWide_slice Try.underlying34 (hval 1 34 v1 rfl rfl)
 obtain ⟨A1_, c1_, e1, hc1, hr1⟩ := K1
 simp only [Value.cells, List.cons.injEq, Value.slice.injEq, and_true] at e1
 obtain ⟨rfl, rfl, rfl⟩ := e1
 obtain ⟨k, hp⟩ := Pure.FewestParcels (x0.f0) (x0.f1) x1 w0.1 w0.2 w1
 clear hA0 hval0 hsz0 hsz
 refine (Q.laws_FnExactFewestParcels.calls k A0_0 c0_0 (x0.f0) A0_1 c0_1 (x0.f1) A1 c1 x1 true W hr0_0 hc0_0 hr0_1 hc0_1 hr1 hc1 hp).mono fun e W' he_ => ?_
 obtain ⟨he, hd⟩ := he_
 subst he
 have bel : Below W.heap.size W W' := hd
 exact ⟨_, rfl, _, _, _, [], _, [], hW', trodAll_mk1 (shut_bool Try.underlying4 _), (trodAll_cons_mk (Below.trod laidOut (by kernel_rfl) (of_decide_eq_true (by kernel_rfl)) b0 bel (trod_below b0)) (trodAll_cons_mk (Below.trod laidOut (by kernel_rfl) (of_decide_eq_true (by kernel_rfl)) b1 bel (trod_below b1)) trodAll_mk0)), rfl, bel.frame _, fun h => by cases h⟩
theorem over : Rows.fnExactFewestParcelsRow.holds Try.pinned (OpenSpec.ofChange Rows.fnExactFewestParcelsSpec) :=
 OpenClaim.holds_of_wide 8 Try.f8 rfl rfl rfl rfl rfl rfl rfl ⟨rfl, rfl, rfl, rfl, rfl⟩ rfl rfl rfl rfl rfl (by kernel_rfl) Try.func8 (by kernel_rfl)
  (of_decide_eq_true (by kernel_rfl)) (by unfold Func.isWrapper; first | (rw [if_pos (by decide +kernel)]; kernel_rfl) | (rw [if_neg (by decide +kernel)]; exact ⟨rfl, rfl⟩))
  (fun os started H enc _ => lifted os started H enc)
end Go.Proofs.Ytdeipindfhkioaa.fnExactFewestParcels
namespace Go.Proofs.Ytdeipindfhkioaa
/-- FnExactFewestParcels: for all arguments. -/
theorem fnExactFewestParcels_holds : Rows.FnExactFewestParcelsSaid := fnExactFewestParcels.over
#print axioms fnExactFewestParcels_holds
end Go.Proofs.Ytdeipindfhkioaa
