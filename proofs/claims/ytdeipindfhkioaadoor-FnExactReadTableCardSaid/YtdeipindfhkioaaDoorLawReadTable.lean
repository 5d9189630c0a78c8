/- The statement FnExactReadTable, out of its pure form: for all arguments the function returns true, and they read as before. -/
import Derived.Test.YtdeipindfhkioaaDoorCards
import Derived.Test.YtdeipindfhkioaaDoorTie
import Derived.Deep.DeepHandedRow
import Derived.Lib.LaidTab
import Derived.LaidMore
import Derived.Lay
import Derived.SevenTiedAt
import Derived.Stop.Joined
import Derived.Test.YtdeipindfhkioaaDoorRows
import Derived.Test.YtdeipindfhkioaaDoorQ7
import Derived.Test.YtdeipindfhkioaaDoorPureReadTable
import Derived.Test.YtdeipindfhkioaaDoorOpens
import Derived.WalkKit
import Derived.ProofKit
import Derived.OpenShut
import Derived.ShutString
import Derived.ChangeOld
import Derived.Below
import Derived.SizedLaws
import Derived.Carry
namespace Go.Proofs.YtdeipindfhkioaaDoor.fnExactReadTable
open Go.ChangeShapes Go.WideShapes Go.ChangeAt Go.RowKit Go.Proofs.YtdeipindfhkioaaDoor.Open Go.Proofs.YtdeipindfhkioaaDoorW.PrintWords Go.Proofs.YtdeipindfhkioaaDoor.Q Go.Proofs.YtdeipindfhkioaaDoorMine
set_option linter.unusedVariables false
set_option maxRecDepth 100000 in
theorem lifted (os : Os) (started : os.Started) (H : Type) (enc : TypeId × Value → H) (F : Stop.Interp) :
  ReturnsInHanded {} Tryd.checked os 4 .any ((OpenSpec.ofChange Rows.fnExactReadTableSpec).preRow enc Tryd.prog Tryd.f4 Rows.fnExactReadTableRow.domain false Rows.fnExactReadTableRow.laid) (((OpenSpec.ofChange Rows.fnExactReadTableSpec).at F).post enc Tryd.prog Tryd.f4 false true false false) := by
 refine returnsInHanded_of_row (C := Tryd.checked) (s := OpenSpec.ofChange Rows.fnExactReadTableSpec) own started (by kernel_rfl) Tryd.func4
  (ChangeSpec.witness_shaped (enc := enc) (C := Tryd.checked) (os := os) (s := Rows.fnExactReadTableSpec) (X := fun w _ => laidMetH Tryd.prog Rows.fnExactReadTableRow.laid w) false (World.laidAll Tryd.prog os Rows.fnExactReadTableRow.laid) #[(.string ⟨#[]⟩)] 8 (World.laidAll_os _ _ _)
   (World.shaped_of_ZipB (by kernel_rfl) (by kernel_rfl)) (by kernel_rfl) (by kernel_rfl) (by kernel_rfl)
   (by rw [MakeChecks.laidMetH_plain _ _ _ (by kernel_rfl)]; exact laidMet_laidAll _ (by kernel_rfl) (by kernel_rfl))) ?_
 intro W base args ds gs before hval0 hW hcnd _ hsz0 hL hSh _
 rw [MakeChecks.laidMetH_plain _ _ _ (by kernel_rfl)] at hL
 have hT_ : TabF W := tabF_of_reads (by have h_ := holdsVar_of hL (n := "internal/strconv.uint64pow10") (d := Rows.laid_internal_strconv_uint64pow10) (.tail _ (.tail _ (.head _))); rw [show Rows.laid_internal_strconv_uint64pow10 = Lib.tabData (H := Unit) .u64 Lib.pow10Tab from by kernel_rfl] at h_; exact h_)
 replace hT_ : TabX W := ⟨hT_, iface_cell (n := "strconv.ErrSyntax") (by kernel_rfl) (by kernel_rfl) ⟨_, Tryd.underlying52⟩ (holdsVar_of hL (n := "strconv.ErrSyntax") (d := Rows.laid_strconv_ErrSyntax) (.tail _ (.tail _ (.tail _ (.tail _ (.tail _ (.head _))))))), iface_cell (n := "strconv.ErrRange") (by kernel_rfl) (by kernel_rfl) ⟨_, Tryd.underlying52⟩ (holdsVar_of hL (n := "strconv.ErrRange") (d := Rows.laid_strconv_ErrRange) (.tail _ (.tail _ (.tail _ (.tail _ (.head _)))))), maxLen_of_shaped hSh⟩
 have hsz0' := hsz0
 have hsz : (DataW.weightsEach Tryd.prog (Tryd.f4.params.toList ++ Rows.fnExactReadTableSpec.plain.varTypes Tryd.prog) (ds ++ gs)).all (· ≤ reachBytes) = true := hsz0
 have hval : ∀ (j : Nat) t v, Tryd.f4.params[j]? = some t → args[j]? = some v → Value.okWide Tryd.prog W .any base t v := hval0
 have hW' := hW
 obtain ⟨p, q, hA0, hV, rfl, hfz, hnd⟩ := hW
 have hA : DataW.TrodAll enc Tryd.prog W 0 (fun _ => true) true Tryd.f4.params.toList args.toList ds p := hA0
 rw [Tryd.params4] at hA hval hsz
 obtain ⟨v0, vs0, d0, ds0, p0, q0, hargs, rfl, rfl, h0, r0⟩ := trodAll_cons hA
 obtain ⟨rfl, rfl, rfl⟩ := trodAll_nil r0
 obtain rfl : args = #[v0] := by cases args; simp_all
 obtain ⟨rfl, rfl⟩ := trodVars_none hV
 have b0 := h0
 obtain ⟨x0, K0, w0⟩ := open_arg op9 hsz (j := 0) (t := 9) rfl rfl h0
 obtain ⟨a0, rfl, rfl, rfl, y0⟩ := Go.ChangeMaps.open_string Tryd.underlying9 (hval 0 9 v0 rfl rfl) h0
 obtain rfl : x0 = a0 := by have e_ : [Value.string a0] = [Value.string x0] := K0; injection e_ with e_ _; injection e_; first | (symm; assumption) | rfl
 obtain ⟨k, hp⟩ := Pure.ReadTable x0 w0
 clear hA0 hval0 hsz0 hsz
 refine (Q.laws_FnExactReadTable.calls k x0 true W  hT_ hp).mono fun e W' he_ => ?_
 obtain ⟨he, hd⟩ := he_
 subst he
 have bel : Below W.heap.size W W' := hd
 exact ⟨_, rfl, _, _, _, [], _, [], hW', trodAll_mk1 (shut_bool Tryd.underlying4 _), (trodAll_cons_mk (Below.trod laidOut (by kernel_rfl) (of_decide_eq_true (by kernel_rfl)) b0 bel (trod_below b0)) trodAll_mk0), rfl, bel.frame _, fun h => by cases h⟩
theorem over : Rows.fnExactReadTableRow.holds Tryd.pinned (OpenSpec.ofChange Rows.fnExactReadTableSpec) :=
 OpenClaim.holds_of_cond 4 Tryd.f4 rfl rfl rfl rfl rfl rfl rfl ⟨rfl, rfl, rfl, rfl, rfl⟩ rfl rfl rfl rfl rfl (by kernel_rfl) Tryd.func4 (by kernel_rfl)
  (of_decide_eq_true (by kernel_rfl)) (by unfold Func.isWrapper; first | (rw [if_pos (by decide +kernel)]; kernel_rfl) | (rw [if_neg (by decide +kernel)]; exact ⟨rfl, rfl⟩))
  (fun os started H enc _ F => by rw [OpenClaim.pre_eq_preRow]; exact lifted os started H enc F)
theorem plain (f : FuncId) (fn : Func) (hf : Tryd.pinned.checked.prog.funcNamed "loop.example/g01366/laws.FnExactReadTable" = some f) (hfn : Tryd.pinned.checked.prog.funcs[f]? = some fn) :
  true = Tryd.pinned.checked.prog.looks [] ∧ ∀ (j : Nat) t, fn.params[j]? = some t → Tryd.pinned.checked.prog.wantsStandIn t = false := by
 obtain rfl : f = 4 := Option.some.inj ((show Tryd.prog.funcNamed "loop.example/g01366/laws.FnExactReadTable" = some 4 by kernel_rfl).symm.trans hf) |>.symm
 obtain rfl : fn = Tryd.f4 := (Option.some.inj (Tryd.func4.symm.trans hfn)).symm
 refine ⟨by kernel_rfl, fun j t ht => ?_⟩
 rw [Tryd.params4] at ht
 have hm : t ∈ [9] := by simpa using Array.mem_of_getElem? ht
 have hall : ([9].all fun u => !Tryd.prog.wantsStandIn u) = true := by kernel_rfl
 exact (show Tryd.prog.wantsStandIn t = false by simpa using List.all_eq_true.1 hall t hm)
end Go.Proofs.YtdeipindfhkioaaDoor.fnExactReadTable
namespace Go.Proofs.YtdeipindfhkioaaDoor
/-- FnExactReadTable: for all arguments; the tied card. -/
theorem fnExactReadTable_holds : Rows.FnExactReadTableCardSaid :=
 Claim7.holds_tied_plain_at .later [] _ _ _ _ fnExactReadTable.over (fun _ h => by cases h) (by kernel_rfl) (fun _ h => by cases h) fnExactReadTable_row_tie rfl ⟨rfl, rfl⟩ (by kernel_rfl) rfl fnExactReadTable.plain (by kernel_rfl)
#print axioms fnExactReadTable_holds
end Go.Proofs.YtdeipindfhkioaaDoor
