/- The statement FnExactParcelsText, out of its pure form: for all arguments the function returns true, and they read as before. -/
import Derived.Test.YtihnefkkgbokcaaDoorCards
import Derived.Test.YtihnefkkgbokcaaDoorTie
import Derived.Deep.DeepHandedRow
import Derived.Lib.LaidTab
import Derived.LaidMore
import Derived.Lay
import Derived.SevenTiedAt
import Derived.Stop.Joined
import Derived.Test.YtihnefkkgbokcaaDoorRows
import Derived.Test.YtihnefkkgbokcaaDoorQ4
import Derived.Test.YtihnefkkgbokcaaDoorPureParcelsText
import Derived.Test.YtihnefkkgbokcaaDoorOpens
import Derived.WalkKit
import Derived.ProofKit
import Derived.OpenShut
import Derived.ShutString
import Derived.ChangeOld
import Derived.Below
import Derived.SizedLaws
import Derived.Carry
namespace Go.Proofs.YtihnefkkgbokcaaDoor.fnExactParcelsText
open Go.ChangeShapes Go.WideShapes Go.ChangeAt Go.RowKit Go.Proofs.YtihnefkkgbokcaaDoor.Open Go.Proofs.YtihnefkkgbokcaaDoorW.PrintWords Go.Proofs.YtihnefkkgbokcaaDoor.Q Go.Proofs.YtihnefkkgbokcaaDoorMine
set_option linter.unusedVariables false
set_option maxRecDepth 100000 in
theorem lifted (os : Os) (started : os.Started) (H : Type) (enc : TypeId × Value → H) (F : Stop.Interp) :
    ReturnsInHanded {} Tryd.checked os 4 .any ((OpenSpec.ofChange Rows.fnExactParcelsTextSpec).preRow enc Tryd.prog Tryd.f4 Rows.fnExactParcelsTextRow.domain false Rows.fnExactParcelsTextRow.laid) (((OpenSpec.ofChange Rows.fnExactParcelsTextSpec).at F).post enc Tryd.prog Tryd.f4 false true false false) := by
  refine returnsInHanded_of_row (C := Tryd.checked) (s := OpenSpec.ofChange Rows.fnExactParcelsTextSpec) own started (by kernel_rfl) Tryd.func4
    (ChangeSpec.witness_shaped (enc := enc) (C := Tryd.checked) (os := os) (s := Rows.fnExactParcelsTextSpec) (X := fun w _ => laidMetH Tryd.prog Rows.fnExactParcelsTextRow.laid w) false (World.laidAll Tryd.prog os Rows.fnExactParcelsTextRow.laid) #[(.slice none 0 0)] 8 (World.laidAll_os _ _ _)
      (World.shaped_of_ZipB (by kernel_rfl) (by kernel_rfl)) (by kernel_rfl) (by kernel_rfl) (by kernel_rfl)
      (by rw [MakeChecks.laidMetH_plain _ _ _ (by kernel_rfl)]; exact laidMet_laidAll _ (by kernel_rfl) (by kernel_rfl))) ?_
  intro W base args ds gs before hval0 hW hcnd _ hsz0 hL hSh _
  rw [MakeChecks.laidMetH_plain _ _ _ (by kernel_rfl)] at hL
  have hT_ : TabF W := tabF_of_reads (by have h_ := holdsVar_of hL (n := "internal/strconv.uint64pow10") (d := Rows.laid_internal_strconv_uint64pow10) (.tail _ (.tail _ (.head _))); rw [show Rows.laid_internal_strconv_uint64pow10 = Lib.tabData (H := Unit) .u64 Lib.pow10Tab from by kernel_rfl] at h_; exact h_)
  have hsz0' := hsz0
  have hsz : (DataW.weightsEach Tryd.prog (Tryd.f4.params.toList ++ Rows.fnExactParcelsTextSpec.plain.varTypes Tryd.prog) (ds ++ gs)).all (· ≤ reachBytes) = true := hsz0
  have hval : ∀ (j : Nat) t v, Tryd.f4.params[j]? = some t → args[j]? = some v → Value.okWide Tryd.prog W .any base t v := hval0
  have hW' := hW
  obtain ⟨p, q, hA0, hV, rfl, hfz, hnd⟩ := hW
  have hA : DataW.TrodAll enc Tryd.prog W 0 (fun _ => true) true Tryd.f4.params.toList args.toList ds p := hA0
  rw [Tryd.params4] at hA hval hsz
  obtain ⟨v0, vs0, d0, ds0, p0, q0, hargs, rfl, rfl, h0, r0⟩ := trodAll_cons hA
  obtain ⟨rfl, rfl, rfl⟩ := trodAll_nil r0
  obtain rfl : args = #[v0] := by cases args; simp_all
  obtain ⟨rfl, rfl⟩ := trodVars_none hV
  have b0 := h0
  obtain ⟨x0, K0, w0⟩ := open_arg op28 hsz (j := 0) (t := 28) rfl rfl h0
  obtain ⟨A0, len0, c0, rfl⟩ := okWide_slice Tryd.underlying28 (hval 0 28 v0 rfl rfl)
  obtain ⟨A0_, c0_, e0, hc0, hr0⟩ := K0
  simp only [Value.cells, List.cons.injEq, Value.slice.injEq, and_true] at e0
  obtain ⟨rfl, rfl, rfl⟩ := e0
  obtain ⟨k, hp⟩ := Pure.ParcelsText x0 w0
  clear hA0 hval0 hsz0 hsz
  refine (Q.laws_FnExactParcelsText.calls k A0 c0 x0 true W hr0 hc0 hT_ hp).mono fun e W' he_ => ?_
  obtain ⟨he, hd⟩ := he_
  subst he
  have bel : Below W.heap.size W W' := hd
  exact ⟨_, rfl, _, _, _, [], _, [], hW', trodAll_mk1 (shut_bool Tryd.underlying4 _), (trodAll_cons_mk (Below.trod laidOut (by kernel_rfl) (of_decide_eq_true (by kernel_rfl)) b0 bel (trod_below b0)) trodAll_mk0), rfl, bel.frame _, fun h => by cases h⟩
theorem over : Rows.fnExactParcelsTextRow.holds Tryd.pinned (OpenSpec.ofChange Rows.fnExactParcelsTextSpec) :=
  OpenClaim.holds_of_cond 4 Tryd.f4 rfl rfl rfl rfl rfl rfl rfl ⟨rfl, rfl, rfl, rfl, rfl⟩ rfl rfl rfl rfl rfl (by kernel_rfl) Tryd.func4 (by kernel_rfl)
    (of_decide_eq_true (by kernel_rfl)) (by unfold Func.isWrapper; first | (rw [if_pos (by decide +kernel)]; kernel_rfl) | (rw [if_neg (by decide +kernel)]; exact ⟨rfl, rfl⟩))
    (fun os started H enc _ F => by rw [OpenClaim.pre_eq_preRow]; exact lifted os started H enc F)
theorem plain (f : FuncId) (fn : Func) (hf : Tryd.pinned.checked.prog.funcNamed "loop.example/g01366/laws.FnExactParcelsText" = some f) (hfn : Tryd.pinned.checked.prog.funcs[f]? = some fn) :
    true = Tryd.pinned.checked.prog.looks [] ∧ ∀ (j : Nat) t, fn.params[j]? = some t → Tryd.pinned.checked.prog.wantsStandIn t = false := by
  obtain rfl : f = 4 := Option.some.inj ((show Tryd.prog.funcNamed "loop.example/g01366/laws.FnExactParcelsText" = some 4 by kernel_rfl).symm.trans hf) |>.symm
  obtain rfl : fn = Tryd.f4 := (Option.some.inj (Tryd.func4.symm.trans hfn)).symm
  refine ⟨by kernel_rfl, fun j t ht => ?_⟩
  rw [Tryd.params4] at ht
  have hm : t ∈ [28] := by simpa using Array.mem_of_getElem? ht
  have hall : ([28].all fun u => !Tryd.prog.wantsStandIn u) = true := by kernel_rfl
  exact (show Tryd.prog.wantsStandIn t = false by simpa using List.all_eq_true.1 hall t hm)
end Go.Proofs.YtihnefkkgbokcaaDoor.fnExactParcelsText
namespace Go.Proofs.YtihnefkkgbokcaaDoor
/-- FnExactParcelsText: for all arguments; the tied card. -/
theorem fnExactParcelsText_holds : Rows.FnExactParcelsTextCardSaid :=
  Claim7.holds_tied_plain_at .later [] _ _ _ _ fnExactParcelsText.over (fun _ h => by cases h) (by kernel_rfl) (fun _ h => by cases h) fnExactParcelsText_row_tie rfl ⟨rfl, rfl⟩ (by kernel_rfl) rfl fnExactParcelsText.plain (by kernel_rfl)
#print axioms fnExactParcelsText_holds
end Go.Proofs.YtihnefkkgbokcaaDoor
