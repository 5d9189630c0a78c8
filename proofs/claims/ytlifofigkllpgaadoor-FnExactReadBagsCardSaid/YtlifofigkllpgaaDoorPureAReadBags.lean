/- ReadBags: the reference and the program. -/
import Derived.Test.YtlifofigkllpgaaDoorQ1
import Derived.Test.YtlifofigkllpgaaDoorQ2
import Derived.Test.YtlifofigkllpgaaDoorPureCBags
import Derived.Test.YtlifofigkllpgaaDoorPureCPart
set_option linter.unusedVariables false
set_option linter.unusedSimpArgs false
namespace Go.Proofs.YtlifofigkllpgaaDoor.Pure
open Go.RowKit Go.Proofs.YtlifofigkllpgaaDoor.Q Go.Proofs.YtlifofigkllpgaaDoorMine Go.Proofs.YtlifofigkllpgaaDoorW.PrintWords Go.Proofs.YtlifofigkllpgaaDoorW.PrintMore
def digB (b : UInt8) : Bool := decide (48 ≤ b.toNat ∧ b.toNat ≤ 57)
def bagB (b : UInt8) : Int := (b.toNat : Int) - 48
def digW (w : ByteArray) : Bool := w.data.toList.all digB
def bagW (w : ByteArray) : List Int := w.data.toList.map bagB
def wordsB (l : List UInt8) : List ByteArray := (parts 47 l).map bsOf
def rReadBags (l : List UInt8) : List (List Int) × Int := if okBs ((wordsB l).map bagW) = true then ((wordsB l).map bagW, 0) else ([], 5)
theorem wordsB_len {l : List UInt8} (hl : l.length ≤ 1048576) : (wordsB l).length ≤ 2097152 := by unfold wordsB; rw [List.length_map]; have := parts_len 47 l; omega
theorem wordsB_mem {l : List UInt8} (hl : l.length ≤ 1048576) {w : ByteArray} (hw : w ∈ wordsB l) : w.data.toList.length ≤ 1048576 := by
  obtain ⟨p, hp, e⟩ := List.mem_map.1 hw
  have := parts_mem hp
  rw [← e, bsOf_list]; omega
theorem wordsB_get {l : List UInt8} (hl : l.length ≤ 1048576) {m : Nat} (hm : m < (wordsB l).length) : ((wordsB l).getD m ByteArray.empty).data.toList.length ≤ 1048576 := wordsB_mem hl (get_mem ByteArray.empty hm).1
theorem bagsW_row {l : List UInt8} (hl : l.length ≤ 1048576) : ∀ y ∈ (wordsB l).map bagW, y.length ≤ 2097152 := by
  intro y hy
  obtain ⟨w, hw, rfl⟩ := List.mem_map.1 hy
  have := wordsB_mem hl hw
  unfold bagW; rw [List.length_map]; omega
theorem dig_of_ok {l : List UInt8} (h : okBs ((wordsB l).map bagW) = true) : (wordsB l).all digW = true := by
  unfold okBs at h
  rw [Bool.and_eq_true] at h
  obtain ⟨h1, h2⟩ := h
  unfold inR at h1
  simp only [Bool.and_eq_true, decide_eq_true_eq] at h1
  refine List.all_eq_true.2 fun w hw => List.all_eq_true.2 fun b hb => ?_
  have h3 := List.all_eq_true.1 h2 (bagW w) (List.mem_map.2 ⟨w, hw, rfl⟩)
  unfold okB at h3
  rw [Bool.and_eq_true] at h3
  have h4 := List.all_eq_true.1 h3.2 (bagB b) (List.mem_map.2 ⟨b, hb, rfl⟩)
  unfold inR bagB at h4
  simp only [Bool.and_eq_true, decide_eq_true_eq] at h4
  unfold digB
  exact decide_eq_true (by omega)
theorem specWord {words : List ByteArray} {w : ByteArray} {m : Nat} {s : List (List Int)} (hm : m < words.length) (hw : words.getD m ByteArray.empty = w) (hs : s.length = m) (hwl : words.length ≤ 2097152) (hlen : w.data.toList.length ≤ 1048576) (r : List (List Int) × Int)
    (hr : digW w = true → Ev (fun k => spec_ReadBags.l0 k words (s ++ [bagW w]) ((m + 1 : Nat) : Int)) r) : Ev (fun k => spec_ReadBags.l1 k words s (m : Int) [] 0) (if digW w = true then r else ([], 5)) := by
  have hsz : w.size = w.data.toList.length := by rw [data_length]
  refine buildok_ev (fun k t i => spec_ReadBags.l1 k words s (m : Int) t i) w.data.toList 0 bagB digB (([] : List (List Int)), (5 : Int)) r (fun i t hi ht hq => ?_) (fun i t hi ht hq q hq' => ?_) (fun ha => ?_)
  · have hbt := bt_at_list (s := w) rfl hi
    refine Ev.step (f := fun _ => some (([] : List (List Int)), (5 : Int))) (fun k => ?_) (Ev.now _)
    simp only [spec_ReadBags.l1]
    rw [if_pos (by omega), if_pos (by omega), show rdOf ByteArray.empty words (m : Int) = w from hw, if_pos (by omega), if_pos (by omega), hbt]
    unfold digB at hq
    have hq2 := of_decide_eq_false hq
    by_cases h48 : ((w.data.toList.getD i 0).toNat : Int) < 48
    · rw [if_pos h48]
    · rw [if_neg h48, if_pos (by omega)]
  · have hbt := bt_at_list (s := w) rfl hi
    refine Ev.step (f := fun k => spec_ReadBags.l1 k words s (m : Int) (t ++ [bagB (w.data.toList.getD i 0)]) ((i + 1 : Nat) : Int)) (fun k => ?_) hq'
    simp only [spec_ReadBags.l1]
    unfold digB at hq
    have hq2 := of_decide_eq_true hq
    rw [if_pos (by omega), if_pos (by omega), show rdOf ByteArray.empty words (m : Int) = w from hw, if_pos (by omega), if_pos (by omega), hbt, if_neg (by omega), if_neg (by omega), if_pos (by omega), wrap_sm (i := (i : Int) + 1) (by omega) (by omega), Int.emod_eq_of_lt (by omega) (by omega)]
    rfl
  · refine Ev.step (f := fun k => spec_ReadBags.l0 k words (s ++ [bagW w]) ((m + 1 : Nat) : Int)) (fun k => ?_) (hr ha)
    simp only [spec_ReadBags.l1]
    rw [if_pos (by omega), if_pos (by omega), show rdOf ByteArray.empty words (m : Int) = w from hw, if_neg (by omega), if_pos (by omega), wrap_sm (i := (m : Int) + 1) (by omega) (by omega)]
    rfl
theorem specReadBags {s : ByteArray} (hs : s.data.toList.length ≤ 1048576) : Ev (fun k => spec_ReadBags.f k s) (rReadBags s.data.toList) := by
  unfold spec_ReadBags.f
  refine Ev.bind (specSplit (s := s) rfl (by omega) 47) ?_
  have hwl := wordsB_len hs
  have hg := fun m hm => wordsB_get (l := s.data.toList) hs (m := m) hm
  have hb := specBags (l := (wordsB s.data.toList).map bagW) (by rw [List.length_map]; exact hwl) (bagsW_row hs)
  have hd := dig_of_ok (l := s.data.toList)
  unfold rReadBags
  show Ev (fun k => spec_ReadBags.l0 k (wordsB s.data.toList) [] 0) _
  generalize wordsB s.data.toList = words at *
  refine Ev.eq (buildok_ev (fun k t i => spec_ReadBags.l0 k words t i) words ByteArray.empty bagW digW (([] : List (List Int)), (5 : Int)) (if okBs (words.map bagW) = true then (words.map bagW, 0) else ([], 5)) (fun m t hm ht hq => ?_) (fun m t hm ht hq r hr => ?_) (fun ha => ?_)) ?_
  · refine Ev.step (f := fun k => spec_ReadBags.l1 k words t (m : Int) [] 0) (fun k => ?_) ?_
    · simp only [spec_ReadBags.l0]; rw [if_pos (by omega)]
    · exact Ev.eq (specWord hm rfl ht hwl (hg m hm) ([], 5) (fun h => by rw [hq] at h; cases h)) (by simp)
  · refine Ev.step (f := fun k => spec_ReadBags.l1 k words t (m : Int) [] 0) (fun k => ?_) ?_
    · simp only [spec_ReadBags.l0]; rw [if_pos (by omega)]
    · exact Ev.eq (specWord hm rfl ht hwl (hg m hm) r (fun _ => hr)) (by rw [if_pos hq])
  · refine Ev.step (f := fun k => (spec_l04Bags.f k (words.map bagW)).bind fun t => if t = true then some (words.map bagW, (0 : Int)) else some ([], 5)) (fun k => ?_) (Ev.bind hb ?_)
    · simp only [spec_ReadBags.l0]; rw [if_neg (by omega)]
    · split <;> exact Ev.now _
  · by_cases h : okBs (words.map bagW) = true
    · rw [if_pos (hd h)]
    · rw [if_neg h]; simp
theorem implWord {words : List ByteArray} {w : ByteArray} {m : Nat} {s : List (List Int)} (hm : m < words.length) (hs : s.length = m) (hwl : words.length ≤ 2097152) (hlen : w.data.toList.length ≤ 1048576) (r : List (List Int) × Int)
    (hr : Ev (fun k => impl_ReadBags.l0 k (s ++ [bagW w]) words (words.length : Int) ((m + 1 : Nat) : Int)) r) : Ev (fun k => impl_ReadBags.l1 k s w [] words (words.length : Int) (m : Int) (w.size : Int) 0) r := by
  have hsz : w.size = w.data.toList.length := by rw [data_length]
  refine Ev.eq (buildok_ev (fun k t i => impl_ReadBags.l1 k s w t words (words.length : Int) (m : Int) (w.size : Int) i) w.data.toList 0 bagB (fun _ => true) (([] : List (List Int)), (5 : Int)) r (fun i t hi ht hq => by cases hq) (fun i t hi ht hq q hq' => ?_) (fun ha => ?_)) (by rw [if_pos (List.all_eq_true.2 (fun _ _ => rfl))])
  · have hbt := bt_at_list (s := w) rfl hi
    have hlt := UInt8.toNat_lt (w.data.toList.getD i 0)
    refine Ev.step (f := fun k => impl_ReadBags.l1 k s w (t ++ [bagB (w.data.toList.getD i 0)]) words (words.length : Int) (m : Int) (w.size : Int) ((i + 1 : Nat) : Int)) (fun k => ?_) hq'
    simp only [impl_ReadBags.l1]
    rw [if_pos (by omega), if_pos (by omega), if_pos (by omega), if_pos (by omega), hbt, wrap_sm (i := ((w.data.toList.getD i 0).toNat : Int)) (by omega) (by omega), wrap_sm (i := ((w.data.toList.getD i 0).toNat : Int) - 48) (by omega) (by omega), wrap_sm (i := (i : Int) + 1) (by omega) (by omega)]
    rfl
  · refine Ev.step (f := fun k => impl_ReadBags.l0 k (s ++ [bagW w]) words (words.length : Int) ((m + 1 : Nat) : Int)) (fun k => ?_) hr
    simp only [impl_ReadBags.l1]
    rw [if_neg (by omega), if_pos (by omega), wrap_sm (i := (m : Int) + 1) (by omega) (by omega)]
    rfl
theorem implReadBags {s : ByteArray} (hs : s.data.toList.length ≤ 1048576) : Ev (fun k => impl_ReadBags.f k s) (rReadBags s.data.toList) := by
  unfold impl_ReadBags.f
  rw [show (⟨#[47]⟩ : ByteArray) = ⟨#[(47 : UInt8)]⟩ from rfl, implSplit (s := s) rfl (by omega) 47]
  simp only [Option.bind_some]
  have hwl := wordsB_len hs
  have hg := fun m hm => wordsB_get (l := s.data.toList) hs (m := m) hm
  have hb := implBags (l := (wordsB s.data.toList).map bagW) (by rw [List.length_map]; exact hwl)
  unfold rReadBags
  show Ev (fun k => impl_ReadBags.l0 k [] (wordsB s.data.toList) ((wordsB s.data.toList).length : Int) 0) _
  generalize wordsB s.data.toList = words at *
  refine Ev.eq (buildok_ev (fun k t i => impl_ReadBags.l0 k t words (words.length : Int) i) words ByteArray.empty bagW (fun _ => true) (([] : List (List Int)), (5 : Int)) (if okBs (words.map bagW) = true then (words.map bagW, 0) else ([], 5)) (fun m t hm ht hq => by cases hq) (fun m t hm ht hq r hr => ?_) (fun ha => ?_)) (by rw [if_pos (List.all_eq_true.2 (fun _ _ => rfl))])
  · refine Ev.step (f := fun k => impl_ReadBags.l1 k t (words.getD m ByteArray.empty) [] words (words.length : Int) (m : Int) ((words.getD m ByteArray.empty).size : Int) 0) (fun k => ?_) (implWord hm ht hwl (hg m hm) r hr)
    simp only [impl_ReadBags.l0]; rw [if_pos (by omega), if_pos (by omega), if_pos (by omega)]; rfl
  · refine Ev.step (f := fun _ => if okBs (words.map bagW) = true then some (words.map bagW, (0 : Int)) else some ([], 5)) (fun k => ?_) ?_
    · simp only [impl_ReadBags.l0]; rw [if_neg (by omega), hb]; rfl
    · split <;> exact Ev.now _
theorem rReadBags_len {l : List UInt8} (hl : l.length ≤ 1048576) : (rReadBags l).1.length ≤ 2097152 ∧ ∀ y ∈ (rReadBags l).1, y.length ≤ 2097152 := by
  unfold rReadBags
  split
  · exact ⟨by rw [List.length_map]; exact wordsB_len hl, bagsW_row hl⟩
  · exact ⟨by simp, fun y hy => by cases hy⟩
end Go.Proofs.YtlifofigkllpgaaDoor.Pure
