/- The statement FnExactTableText, out of its pure form: for all arguments the function returns true, and they read as before. -/
import Derived.Test.YtdeipindfhkioaaDoorCards
import Derived.Test.YtdeipindfhkioaaDoorTie
import Derived.Deep.DeepHandedRow
import Derived.Lib.LaidTab
import Derived.LaidMore
import Derived.Lay
import Derived.SevenTiedAt
import Derived.Stop.Joined
import Derived.Test.YtdeipindfhkioaaDoorRows
import Derived.Test.YtdeipindfhkioaaDoorQ3
import Derived.Test.YtdeipindfhkioaaDoorPureTableText
import Derived.Test.YtdeipindfhkioaaDoorOpens
import Derived.WalkKit
import Derived.ProofKit
import Derived.OpenShut
import Derived.ShutString
import Derived.ChangeOld
import Derived.Below
import Derived.SizedLaws
import Derived.Carry
namespace Go.Proofs.YtdeipindfhkioaaDoor.fnExactTableText
open Go.ChangeShapes Go.WideShapes Go.ChangeAt Go.RowKit Go.Proofs.YtdeipindfhkioaaDoor.Open Go.Proofs.YtdeipindfhkioaaDoorW.PrintWords Go.Proofs.YtdeipindfhkioaaDoor.Q Go.Proofs.YtdeipindfhkioaaDoorMine
set_option linter.unusedVariables false
set_option maxRecDepth 100000 in
theorem lifted (os : Os) (started : os.Started) (H : Type) (enc : TypeId × Value → H) (F : Stop.Interp) :
    ReturnsInHanded {} Tryd.checked os 3 .any ((OpenSpec.ofChange Rows.fnExactTableTextSpec).preRow enc Tryd.prog Tryd.f3 Rows.fnExactTableTextRow.domain false Rows.fnExactTableTextRow.laid) (((OpenSpec.ofChange Rows.fnExactTableTextSpec).at F).post enc Tryd.prog Tryd.f3 false true false false) := by
  refine returnsInHanded_of_row (C := Tryd.checked) (s := OpenSpec.ofChange Rows.fnExactTableTextSpec) own started (by kernel_rfl) Tryd.func3
    (ChangeSpec.witness_shaped (enc := enc) (C := Tryd.checked) (os := os) (s := Rows.fnExactTableTextSpec) (X := fun w _ => laidMetH Tryd.prog Rows.fnExactTableTextRow.laid w) false (World.laidAll Tryd.prog os Rows.fnExactTableTextRow.laid) #[(.agg #[(.slice none 0 0), (.slice none 0 0)])] 8 (World.laidAll_os _ _ _)
      (World.shaped_of_ZipB (by kernel_rfl) (by kernel_rfl)) (by kernel_rfl) (by kernel_rfl) (by kernel_rfl)
      (by rw [MakeChecks.laidMetH_plain _ _ _ (by kernel_rfl)]; exact laidMet_laidAll _ (by kernel_rfl) (by kernel_rfl))) ?_
  intro W base args ds gs before hval0 hW hcnd _ hsz0 hL hSh _
  rw [MakeChecks.laidMetH_plain _ _ _ (by kernel_rfl)] at hL
  have hT_ : TabF W := tabF_of_reads (by have h_ := holdsVar_of hL (n := "internal/strconv.uint64pow10") (d := Rows.laid_internal_strconv_uint64pow10) (.tail _ (.tail _ (.head _))); rw [show Rows.laid_internal_strconv_uint64pow10 = Lib.tabData (H := Unit) .u64 Lib.pow10Tab from by kernel_rfl] at h_; exact h_)
  have hsz0' := hsz0
  have hsz : (DataW.weightsEach Tryd.prog (Tryd.f3.params.toList ++ Rows.fnExactTableTextSpec.plain.varTypes Tryd.prog) (ds ++ gs)).all (· ≤ reachBytes) = true := hsz0
  have hval : ∀ (j : Nat) t v, Tryd.f3.params[j]? = some t → args[j]? = some v → Value.okWide Tryd.prog W .any base t v := hval0
  have hW' := hW
  obtain ⟨p, q, hA0, hV, rfl, hfz, hnd⟩ := hW
  have hA : DataW.TrodAll enc Tryd.prog W 0 (fun _ => true) true Tryd.f3.params.toList args.toList ds p := hA0
  rw [Tryd.params3] at hA hval hsz
  obtain ⟨v0, vs0, d0, ds0, p0, q0, hargs, rfl, rfl, h0, r0⟩ := trodAll_cons hA
  obtain ⟨rfl, rfl, rfl⟩ := trodAll_nil r0
  obtain rfl : args = #[v0] := by cases args; simp_all
  obtain ⟨rfl, rfl⟩ := trodVars_none hV
  have b0 := h0
  obtain ⟨x0, K0, w0⟩ := open_arg op25 hsz (j := 0) (t := 25) rfl rfl h0
  obtain ⟨cs0, rfl, hs0⟩ := okWide_struct Tryd.underlying25 (hval 0 25 v0 rfl rfl)
  obtain ⟨cs0⟩ := cs0
  have K0' := K0
  obtain ⟨A0_0, c0_0, A0_1, c0_1, E0, hc0_0, hr0_0, hc0_1, hr0_1⟩ := k25_open (x := x0) K0
  simp only [Value.cells] at E0
  subst E0
  obtain ⟨k, hp⟩ := Pure.TableText (x0.f0) (x0.f1) w0.1 w0.2
  clear hA0 hval0 hsz0 hsz
  refine (Q.laws_FnExactTableText.calls k A0_0 c0_0 (x0.f0) A0_1 c0_1 (x0.f1) true W hr0_0 hc0_0 hr0_1 hc0_1 hT_ hp).mono fun e W' he_ => ?_
  obtain ⟨he, hd⟩ := he_
  subst he
  have bel : Below W.heap.size W W' := hd
  exact ⟨_, rfl, _, _, _, [], _, [], hW', trodAll_mk1 (shut_bool Tryd.underlying4 _), (trodAll_cons_mk (Below.trod laidOut (by kernel_rfl) (of_decide_eq_true (by kernel_rfl)) b0 bel (trod_below b0)) trodAll_mk0), rfl, bel.frame _, fun h => by cases h⟩
theorem over : Rows.fnExactTableTextRow.holds Tryd.pinned (OpenSpec.ofChange Rows.fnExactTableTextSpec) :=
  OpenClaim.holds_of_cond 3 Tryd.f3 rfl rfl rfl rfl rfl rfl rfl ⟨rfl, rfl, rfl, rfl, rfl⟩ rfl rfl rfl rfl rfl (by kernel_rfl) Tryd.func3 (by kernel_rfl)
    (of_decide_eq_true (by kernel_rfl)) (by unfold Func.isWrapper; first | (rw [if_pos (by decide +kernel)]; kernel_rfl) | (rw [if_neg (by decide +kernel)]; exact ⟨rfl, rfl⟩))
    (fun os started H enc _ F => by rw [OpenClaim.pre_eq_preRow]; exact lifted os started H enc F)
theorem plain (f : FuncId) (fn : Func) (hf : Tryd.pinned.checked.prog.funcNamed "loop.example/g01366/laws.FnExactTableText" = some f) (hfn : Tryd.pinned.checked.prog.funcs[f]? = some fn) :
    true = Tryd.pinned.checked.prog.looks [] ∧ ∀ (j : Nat) t, fn.params[j]? = some t → Tryd.pinned.checked.prog.wantsStandIn t = false := by
  obtain rfl : f = 3 := Option.some.inj ((show Tryd.prog.funcNamed "loop.example/g01366/laws.FnExactTableText" = some 3 by kernel_rfl).symm.trans hf) |>.symm
  obtain rfl : fn = Tryd.f3 := (Option.some.inj (Tryd.func3.symm.trans hfn)).symm
  refine ⟨by kernel_rfl, fun j t ht => ?_⟩
  rw [Tryd.params3] at ht
  have hm : t ∈ [25] := by simpa using Array.mem_of_getElem? ht
  have hall : ([25].all fun u => !Tryd.prog.wantsStandIn u) = true := by kernel_rfl
  exact (show Tryd.prog.wantsStandIn t = false by simpa using List.all_eq_true.1 hall t hm)
end Go.Proofs.YtdeipindfhkioaaDoor.fnExactTableText
namespace Go.Proofs.YtdeipindfhkioaaDoor
/-- FnExactTableText: for all arguments; the tied card. -/
theorem fnExactTableText_holds : Rows.FnExactTableTextCardSaid :=
  Claim7.holds_tied_plain_at .later [] _ _ _ _ fnExactTableText.over (fun _ h => by cases h) (by kernel_rfl) (fun _ h => by cases h) fnExactTableText_row_tie rfl ⟨rfl, rfl⟩ (by kernel_rfl) rfl fnExactTableText.plain (by kernel_rfl)
#print axioms fnExactTableText_holds
end Go.Proofs.YtdeipindfhkioaaDoor
