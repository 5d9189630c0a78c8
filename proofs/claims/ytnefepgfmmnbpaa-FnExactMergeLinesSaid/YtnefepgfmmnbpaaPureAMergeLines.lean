/- MergeLines: the reference and the program. -/
import Derived.Test.YtnefepgfmmnbpaaQ1
import Derived.Test.YtnefepgfmmnbpaaQ2
import Derived.Test.YtnefepgfmmnbpaaQ6
import Derived.Test.YtnefepgfmmnbpaaPureC5z
set_option linter.unusedVariables false
set_option linter.unusedSimpArgs false
namespace Go.Proofs.Ytnefepgfmmnbpaa.Pure
open Go.RowKit Go.Proofs.Ytnefepgfmmnbpaa.Q Go.Proofs.YtnefepgfmmnbpaaMine Go.Proofs.YtnefepgfmmnbpaaW.PrintWords Go.Proofs.YtnefepgfmmnbpaaW.PrintMore
section
variable {l : List (S56)} {m : List (S54)}
/-- The lines of a class, as one. -/
def mrg (m : List (S54)) (c : Nat) : S54 := ⟨(c : Int), cnt (flt m (c : Int)), wor (flt m (c : Int)), grm (flt m (c : Int))⟩
def mg1 (m : List (S54)) (c : Nat) : List (S54) := if (flt m (c : Int)).length > 0 then [mrg m c] else []
def mgs (m : List (S54)) (cs : List Nat) : List (S54) := cs.flatMap (mg1 m)
def rMergeLines (l : List (S56)) (m : List (S54)) : List (S54) × Int :=
  if okF l m = true then (if (mgs m (List.range l.length)).all (okL (l.length : Int)) = true then (mgs m (List.range l.length), 0) else ([], 3)) else ([], 1)
theorem mg1_len (m : List (S54)) (c : Nat) : (mg1 m c).length ≤ 1 := by unfold mg1; split <;> simp
theorem mgs_len (m : List (S54)) : ∀ cs : List Nat, (mgs m cs).length ≤ cs.length
  | [] => by simp [mgs]
  | c :: cs => by
    have h := mgs_len m cs
    have h1 := mg1_len m c
    unfold mgs at h ⊢
    rw [List.flatMap_cons, List.length_append]
    simp only [List.length_cons]; omega
theorem cnt_bd {n : Int} {g : List (S54)} (h : ∀ x ∈ g, okL n x = true) (hg : g.length ≤ 10) : (g.length : Int) ≤ cnt g ∧ cnt g ≤ 10000 := by
  suffices hh : ∀ (g : List (S54)) (a : Int), (∀ x ∈ g, okL n x = true) → 0 ≤ a → a + 1000 * (g.length : Int) ≤ 1000000 → a + (g.length : Int) ≤ g.foldl (fun s x => wrap64 (s + wrap64 x.f1)) a ∧ g.foldl (fun s x => wrap64 (s + wrap64 x.f1)) a ≤ a + 1000 * (g.length : Int) by
    have := hh g 0 h (by omega) (by omega)
    unfold cnt; omega
  intro g
  induction g with
  | nil => intro a _ h0 _; simp
  | cons x xs ih =>
    intro a hx h0 h1
    obtain ⟨_, ⟨p0, p1⟩, _⟩ := okL_bd (hx x List.mem_cons_self)
    simp only [List.length_cons] at h1 ⊢
    rw [List.foldl_cons, wrap_id (i := x.f1) (by omega) (by omega), wrap_id (i := a + x.f1) (by omega) (by omega)]
    obtain ⟨q0, q1⟩ := ih (a + x.f1) (fun y hy => hx y (List.mem_cons_of_mem _ hy)) (by omega) (by omega)
    omega
theorem cnt16 {n : Int} : ∀ (g : List (S54)) (a : Int), (∀ x ∈ g, okL n x = true) → 0 ≤ a → a + 1000 * (g.length : Int) ≤ 30000 → g.foldl (fun s x => IntKind.i16.wrap (s + x.f1)) a = g.foldl (fun s x => wrap64 (s + wrap64 x.f1)) a
  | [], _, _, _, _ => rfl
  | x :: xs, a, hx, h0, h1 => by
    obtain ⟨_, ⟨p0, p1⟩, _⟩ := okL_bd (hx x List.mem_cons_self)
    simp only [List.length_cons] at h1
    rw [List.foldl_cons, List.foldl_cons, wrap_id (i := x.f1) (by omega) (by omega), wrap_id (i := a + x.f1) (by omega) (by omega)]
    have e : IntKind.i16.wrap (a + x.f1) = a + x.f1 := by simp [IntKind.wrap, IntKind.signed, IntKind.bits]; omega
    rw [e]
    exact cnt16 xs _ (fun y hy => hx y (List.mem_cons_of_mem _ hy)) (by omega) (by omega)
/-- When the lines of a class make a line. -/
theorem mrg_ok (hl : l.length ≤ 8) (hm : m.length ≤ 10) (q2 : ∀ x ∈ m, okL (l.length : Int) x = true) {c : Nat} (hc : c < l.length) (hp : (flt m (c : Int)).length > 0) :
    okL (l.length : Int) (mrg m c) = (decide (cnt (flt m (c : Int)) ≤ 1000) && (inR (wor (flt m (c : Int))) 0 1000000 && inR (grm (flt m (c : Int))) 0 1000000)) := by
  have h1 := cnt_bd (flt_ok (c := (c : Int)) q2) (Nat.le_trans (flt_len m _) hm)
  unfold okL mrg
  simp only
  have e1 : inR (c : Int) 0 ((l.length : Int) - 1) = true := inR_iff.2 ⟨by omega, by omega⟩
  rw [e1, Bool.true_and]
  congr 1
  unfold inR
  rw [decide_eq_true (by omega), Bool.true_and]
theorem declared_eq (n : Int) : spec_l05Declared.f n = some (inR n 0 1000000) := by
  unfold spec_l05Declared.f
  rw [l00In_eq]; rfl
theorem specMergeLines (hl : l.length ≤ 2097152) (hc : ∀ x ∈ l, wfClass x) (hm : m.length ≤ 2097152) (hf : ∀ x ∈ m, wfLine x) : Ev (fun k => spec_MergeLines.f k l m) (rMergeLines l m) := by
  unfold spec_MergeLines.f rMergeLines
  simp only [Option.bind_some]
  refine Ev.bind (specF hl hm hc hf) ?_
  cases ho : okF l m with
  | false => simp only [Bool.false_eq_true, if_false]; exact Ev.now _
  | true =>
    obtain ⟨⟨_, q0⟩, q1, q3, q2⟩ := okF_bd ho
    simp only [if_true]
    rw [List.range_eq_range']
    suffices hh : ∀ (d j : Nat), j + d = l.length → ∀ out : List (S54), out.length ≤ j → Ev (fun k => spec_MergeLines.l0 k l m out (j : Int)) (if (mgs m (List.range' j d)).all (okL (l.length : Int)) = true then (out ++ mgs m (List.range' j d), 0) else ([], 3)) from hh l.length 0 (by omega) [] (Nat.zero_le _)
    intro d
    induction d with
    | zero =>
      intro j hj out ho
      refine Ev.step (f := fun _ => some (out, 0)) (fun k => ?_) (Ev.eq (Ev.now _) (by simp [mgs]))
      simp only [spec_MergeLines.l0]; rw [if_neg (by omega)]
    | succ d ih =>
      intro j hj out ho
      have hg := flt_len m (j : Int)
      have hgo := flt_ok (c := (j : Int)) q2
      obtain ⟨⟨b1, b2⟩, b3, b4⟩ := wor_bd hgo (by omega)
      have hcb := cnt_bd hgo (by omega)
      have hstep : ∀ k, spec_MergeLines.l0 (k + 1) l m out (j : Int) = ((spec_l05Sums.f k m (j : Int)).bind fun bt126 => (if bt126.1 = 0 then (spec_MergeLines.l0 k l m out ((j + 1 : Nat) : Int)) else (if bt126.2.1 > 1000 then (some ((([] : List (S54))), 3)) else ((spec_l05Declared.f bt126.2.2.1).bind fun t134 => (if t134 = true then ((spec_l05Declared.f bt126.2.2.2).bind fun t135 => (if t135 = true then (if out.length < 11728124029610 then (spec_MergeLines.l0 k l m (out ++ [(⟨IntKind.i8.wrap ((j : Int)), IntKind.i16.wrap (bt126.2.1), wrap32 (bt126.2.2.1), wrap32 (bt126.2.2.2)⟩ : S54)]) ((j + 1 : Nat) : Int)) else (none)) else (some ((([] : List (S54))), 3)))) else (some ((([] : List (S54))), 3))))))) := by
        intro k
        simp only [spec_MergeLines.l0]
        rw [if_pos (by omega), wrap_sm (i := (j : Int) + 1) (by omega) (by omega)]
        rfl
      refine Ev.step hstep (Ev.bind (specSums hm _) ?_)
      have hcons : mgs m (List.range' j (d + 1)) = mg1 m j ++ mgs m (List.range' (j + 1) d) := by
        unfold mgs; rw [List.range'_succ, List.flatMap_cons]
      rw [hcons, List.all_append]
      by_cases hz : (flt m (j : Int)).length > 0
      · have h1 : mg1 m j = [mrg m j] := by unfold mg1; rw [if_pos hz]
        have hok := mrg_ok (l := l) q0 q3 q2 (c := j) (by omega) hz
        simp only [if_neg (show ¬ ((flt m (j : Int)).length : Int) = 0 by omega), declared_eq, Option.bind_some]
        rw [h1, List.all_cons, List.all_nil, Bool.and_true, hok]
        by_cases g1 : cnt (flt m (j : Int)) > 1000
        · simp only [if_pos g1, decide_eq_false (show ¬ cnt (flt m (j : Int)) ≤ 1000 by omega), Bool.false_and, Bool.false_eq_true, if_false]; exact Ev.now _
        · simp only [if_neg g1, decide_eq_true (show cnt (flt m (j : Int)) ≤ 1000 by omega), Bool.true_and]
          cases g2 : inR (wor (flt m (j : Int))) 0 1000000 with
          | false => simp only [Bool.false_and, Bool.false_eq_true, if_false]; exact Ev.now _
          | true =>
            cases g3 : inR (grm (flt m (j : Int))) 0 1000000 with
            | false => simp only [if_true, Bool.and_false, Bool.false_and, Bool.false_eq_true, if_false]; exact Ev.now _
            | true =>
              simp only [if_true, Bool.true_and, if_pos (show out.length < 11728124029610 by omega)]
              have e8 : IntKind.i8.wrap (j : Int) = (j : Int) := by simp [IntKind.wrap, IntKind.signed, IntKind.bits]; omega
              have e16 : IntKind.i16.wrap (cnt (flt m (j : Int))) = cnt (flt m (j : Int)) := by simp [IntKind.wrap, IntKind.signed, IntKind.bits]; omega
              have e32 : wrap32 (wor (flt m (j : Int))) = wor (flt m (j : Int)) := by unfold wrap32; omega
              have e32' : wrap32 (grm (flt m (j : Int))) = grm (flt m (j : Int)) := by unfold wrap32; omega
              rw [e8, e16, e32, e32']
              refine Ev.eq (ih (j + 1) (by omega) (out ++ [mrg m j]) (by simp; omega)) ?_
              rw [List.append_assoc]
      · have h1 : mg1 m j = [] := by unfold mg1; rw [if_neg hz]
        simp only [if_pos (show ((flt m (j : Int)).length : Int) = 0 by omega)]
        rw [h1, List.all_nil, Bool.true_and, List.nil_append]
        exact ih (j + 1) (by omega) out (by omega)
/-- What becomes of a class's lines. -/
def cvG (g : List (S54)) : S54 := ⟨(g.getD 0 z54).f0, g.foldl (fun s x => IntKind.i16.wrap (s + x.f1)) 0, wrap32 (wor g), wrap32 (grm g)⟩
theorem byc_map (hl : l.length ≤ 8) (hm : m.length ≤ 10) (q2 : ∀ x ∈ m, okL (l.length : Int) x = true) : ∀ (cs : List Nat) (out : List (List (S54))), (∀ c ∈ cs, c < l.length) → (cs.foldl (addc m) out).map cvG = out.map cvG ++ mgs m cs
  | [], out, _ => by simp [mgs]
  | c :: cs, out, hc => by
    rw [List.foldl_cons, byc_map hl hm q2 cs _ (fun c hcm => hc c (List.mem_cons_of_mem _ hcm))]
    unfold mgs addc
    rw [List.flatMap_cons]
    by_cases hz : (flt m (c : Int)).length > 0
    · have hgo := flt_ok (c := (c : Int)) q2
      have hg := flt_len m (c : Int)
      obtain ⟨⟨b1, b2⟩, b3, b4⟩ := wor_bd hgo (by omega)
      have e : cvG (flt m (c : Int)) = mrg m c := by
        unfold cvG mrg
        rw [flt_head hl q2 hz, cnt16 _ 0 hgo (by omega) (by omega)]
        have e32 : wrap32 (wor (flt m (c : Int))) = wor (flt m (c : Int)) := by unfold wrap32; omega
        have e32' : wrap32 (grm (flt m (c : Int))) = grm (flt m (c : Int)) := by unfold wrap32; omega
        rw [e32, e32']; rfl
      rw [if_pos hz, List.map_append, List.map_cons, List.map_nil, e]
      unfold mg1
      rw [if_pos hz, List.append_assoc]
    · rw [if_neg hz]
      unfold mg1
      rw [if_neg hz, List.nil_append]
theorem implMergeLines (hl : l.length ≤ 2097152) (hc : ∀ x ∈ l, wfClass x) (hm : m.length ≤ 2097152) (hf : ∀ x ∈ m, wfLine x) : Ev (fun k => impl_MergeLines.f k l m) (rMergeLines l m) := by
  unfold impl_MergeLines.f rMergeLines
  simp only [implF hl hc hf, Option.bind_some]
  cases ho : okF l m with
  | false => simp only [Bool.false_eq_true, if_false]; exact Ev.now _
  | true =>
    obtain ⟨⟨_, q0⟩, q1, q3, q2⟩ := okF_bd ho
    simp only [if_true]
    refine Ev.bind (implByClass hl hm) ?_
    have hbl := byc_len (m := m) (List.range l.length) []
    have hmap := byc_map (l := l) q0 q3 q2 (List.range l.length) [] (fun c hcm => List.mem_range.1 hcm)
    simp only [List.map_nil, List.nil_append] at hmap
    have hmem := byc_mem (m := m) (List.range l.length) []
    unfold byc
    simp only [List.length_nil, List.length_range, Nat.zero_add] at hbl
    generalize (List.range l.length).foldl (addc m) [] = B at hbl hmap hmem ⊢
    have hmg := mgs_len m (List.range l.length)
    rw [List.length_range] at hmg
    refine Ev.eq (build_ev (fun k s i => impl_MergeLines.l0 k l s B (B.length : Int) i) B [] cvG (fun out => if out.all (okL (l.length : Int)) = true then (out, (0 : Int)) else ([], 3)) (fun j s hj hs r hr => ?_) ?_) (by rw [hmap])
    · have hg := hmem _ (get_mem [] hj).1
      have hgm : ∃ c, B.getD j [] = flt m (c : Int) ∧ 0 < (B.getD j []).length := by
        rcases hg with h | ⟨c, _, h2, h3⟩
        · simp at h
        · exact ⟨c, h2, h3⟩
      obtain ⟨c, hgc, hgp⟩ := hgm
      have hgl : (B.getD j []).length ≤ 10 := by rw [hgc]; exact Nat.le_trans (flt_len m _) q3
      have erd : rd_L7 B (j : Int) = B.getD j [] := rfl
      have e0 : ∀ g : List (S54), rd_T54 g 0 = g.getD 0 z54 := fun g => rfl
      generalize B.getD j [] = g at hr hgp hgl erd
      refine Ev.step (f := fun k => (impl_worth.f k g).bind fun bt => impl_MergeLines.l1 k l s 0 B (B.length : Int) (j : Int) (g.getD 0 z54).f0 (wrap32 bt.1) (wrap32 bt.2) g (g.length : Int) 0) (fun k => ?_) (Ev.bind (implWor (by omega)) ?_)
      · simp only [impl_MergeLines.l0]
        rw [if_pos (by omega), if_pos (by omega), if_pos (by omega), erd]
        simp only [e0, if_pos (show (0 : Int) < (g.length : Int) by omega)]
      · refine fold_in (fun k (a : Int) i => impl_MergeLines.l1 k l s a B (B.length : Int) (j : Int) (g.getD 0 z54).f0 (wrap32 (wor g)) (wrap32 (grm g)) g (g.length : Int) i) g z54 (fun _ _ => True) (fun _ a x => IntKind.i16.wrap (a + x.f1)) r (fun q a hq _ => ⟨trivial, fun r' hr' => ?_⟩) 0 trivial (fun _ => ?_)
        · refine Ev.step (f := fun k => impl_MergeLines.l1 k l s (IntKind.i16.wrap (a + (g.getD q z54).f1)) B (B.length : Int) (j : Int) (g.getD 0 z54).f0 (wrap32 (wor g)) (wrap32 (grm g)) g (g.length : Int) ((q + 1 : Nat) : Int)) (fun k => ?_) hr'
          simp only [impl_MergeLines.l1]
          rw [if_pos (by omega), if_pos (by omega), if_pos (by omega), wrap_sm (i := (q : Int) + 1) (by omega) (by omega)]
          rfl
        · rw [foldi_foldl]
          refine Ev.step (f := fun k => impl_MergeLines.l0 k l (s ++ [cvG g]) B (B.length : Int) ((j + 1 : Nat) : Int)) (fun k => ?_) hr
          simp only [impl_MergeLines.l1]
          rw [if_neg (by omega), if_pos (by omega), wrap_sm (i := (j : Int) + 1) (by omega) (by omega)]
          rfl
    · rw [hmap]
      have hwf : ∀ x ∈ mgs m (List.range l.length), wfLine x := fun x hx => by
        obtain ⟨c, hcm, hx2⟩ := List.mem_flatMap.1 hx
        have hcl := List.mem_range.1 hcm
        unfold mg1 at hx2
        split at hx2
        · rw [List.mem_singleton] at hx2
          subst hx2
          have hgo := flt_ok (c := (c : Int)) q2
          have hg := flt_len m (c : Int)
          obtain ⟨⟨b1, b2⟩, b3, b4⟩ := wor_bd hgo (by omega)
          have hcb := cnt_bd hgo (by omega)
          unfold wfLine mrg
          simp only [Lit.wf, IntKind.min, IntKind.max, IntKind.signed, IntKind.bits]
          refine ⟨?_, ?_, ?_, ?_⟩ <;> simp <;> omega
        · simp at hx2
      have hF := implF (l := l) (m := mgs m (List.range l.length)) hl hc hwf
      refine Ev.step (f := fun _ => if okF l (mgs m (List.range l.length)) = true then some (mgs m (List.range l.length), (0 : Int)) else some ([], 3)) (fun k => ?_) ?_
      · simp only [impl_MergeLines.l0]
        rw [if_neg (by omega), hF, Option.bind_some]
      · have e : okF l (mgs m (List.range l.length)) = (mgs m (List.range l.length)).all (okL (l.length : Int)) := by
          unfold okF at ho ⊢
          rw [Bool.and_eq_true] at ho
          rw [ho.1, Bool.true_and, decide_eq_true (by omega), Bool.true_and]
        rw [e]
        split <;> exact Ev.now _
theorem rMergeLines_length : (rMergeLines l m).1.length ≤ 2097152 := by
  unfold rMergeLines
  have hmg := mgs_len m (List.range l.length)
  rw [List.length_range] at hmg
  cases ho : okF l m with
  | false => simp
  | true =>
    obtain ⟨⟨_, q0⟩, _⟩ := okF_bd ho
    simp only [if_true]
    split <;> simp <;> omega
end
end Go.Proofs.Ytnefepgfmmnbpaa.Pure
