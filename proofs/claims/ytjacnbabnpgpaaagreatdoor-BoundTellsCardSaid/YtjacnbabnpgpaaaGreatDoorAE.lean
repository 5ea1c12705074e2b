/- Contracts: the document's items and fragments. -/
import Derived.Test.YtjacnbabnpgpaaaGreatDoorAD
import Derived.Test.YtjacnbabnpgpaaaGreatDoorM
import Derived.Test.YtjacnbabnpgpaaaGreatDoorD
namespace Go.Proofs.YtjacnbabnpgpaaaGreatDoor
noncomputable section
open Go Go.Abs
set_option maxRecDepth 100000
def lenI (x : ItemS) : Prop := x.name.length ≤ 9223372036854775807 ∧ x.over.length ≤ 9223372036854775807 ∧ x.after.length ≤ 9223372036854775807 ∧ ∀ s ∈ x.after, s.length ≤ 9223372036854775807
theorem all_takeN {α : Type} {p : α → Bool} {s : List α} {i : Nat} (hi : i < s.length) (h : (s.take i).all p = true) (hc : p s[i] = true) : (s.take (i + 1)).all p = true := by
  rw [List.take_add_one, List.getElem?_eq_getElem hi, List.all_append, h]
  simp [hc]
theorem all_notN {α : Type} {p : α → Bool} {s : List α} {i : Nat} (hi : i < s.length) (hc : p s[i] = false) : s.all p = false := by
  rw [← Bool.not_eq_true, List.all_eq_true]
  intro h
  have := h _ (List.getElem_mem hi)
  rw [hc] at this; cases this
theorem refItem_ok {h : Heap} {name over : List UInt8} {kind width quota : Int} {after : List (List UInt8)} {ab : Bool} (hl : lenI ⟨name, kind, after, over, width, quota⟩) : Cal E f_foremanref09_item [.agg (itA name kind ab after over width quota)] h (.nrm, .d (.b (fitsI ⟨name, kind, after, over, width, quota⟩)), h) := by
  obtain ⟨hl1, hl2, hl3, hl4⟩ := hl
  simp only at hl1 hl2 hl3 hl4
  refine .w n_foremanref09_item rfl (ds := [.agg [.s name, .i .u8 kind, .sl ab after.length (after.map .s), .s over, .i .i64 width, .i .i64 quota]]) (bor := false) rfl ?_
  refine .callv (fun h => refName_ok (h := h) hl1) (by kernel_rfl) ?_
  refine .br (!isName name) (by kernel_rfl) (fun e => .retB false (by kernel_rfl) ?_) (fun e1 => ?_)
  · simp only [Bool.not_eq_true'] at e; simp [fitsI, e]
  simp only [Bool.not_eq_false'] at e1
  refine .br (iLt 20 (.ofNat after.length)) (by kernel_rfl) (fun e => .retB false (by kernel_rfl) ?_) (fun e2 => ?_)
  · rw [iLt_iff] at e; simp only [Int.ofNat_eq_natCast] at e
    unfold fitsI; rw [decide_eq_false (by show ¬ after.length ≤ 20; omega)]; simp
  rw [iLt_not] at e2; simp only [Int.ofNat_eq_natCast] at e2
  refine .br (iLt quota 0) (by kernel_rfl) (fun e => .retB false (by kernel_rfl) ?_) (fun e3 => ?_)
  · rw [iLt_iff] at e
    have h0 : within quota 400 = false := by unfold within; rw [decide_eq_false (by omega : ¬ 0 ≤ quota)]; rfl
    simp [fitsI, h0]
  rw [iLt_not] at e3
  refine .br (iLt 400 quota) (by kernel_rfl) (fun e => .retB false (by kernel_rfl) ?_) (fun e4 => ?_)
  · rw [iLt_iff] at e
    have h0 : within quota 400 = false := by unfold within; rw [decide_eq_false (by omega : ¬ quota ≤ 400), Bool.and_false]
    simp [fitsI, h0]
  rw [iLt_not] at e4
  refine .loop false (fun m tm g => ∃ i, i + m = after.length ∧ (after.take i).all isName = true ∧ g = Heap.empty.push (.cells false t_Item (itA name kind ab after over width quota)) ∧ St 67 [(1, .ptr 0 0), (3, mkI i)] tm) after.length (by kernel_rfl)
    ⟨0, by omega, rfl, by kernel_rfl, .of (by kernel_rfl) ⟨by kernel_rfl, by kernel_rfl, trivial⟩⟩ ?_
  rintro m tm _ ⟨i, him, hall, rfl, g', rfl⟩
  refine .br (iLt (.ofNat i) (.ofNat after.length)) (by kernel_rfl) (fun e => ?_) (fun e => ?_)
  · have hi : i < after.length := by rw [iLt_iff] at e; simpa using e
    obtain ⟨m, rfl⟩ : ∃ k, m = k + 1 := ⟨m - 1, by omega⟩
    refine .opv (iaS_sl (k := .i64) (z := 1) (b := ab) (n := after.length) (cs := after.map .s) (j := i) rfl hi) (by kernel_rfl) ?_
    refine .opv (load_bx1 E (b := ab) (cs := after.map .s) (j := i) (x := .s after[i]) (by rw [List.getElem?_map, List.getElem?_eq_getElem hi]; rfl)) (by kernel_rfl) ?_
    refine .callv (fun h => refName_ok (h := h) (s := after[i]) (hl4 _ (List.getElem_mem hi))) (by kernel_rfl) ?_
    refine .br (!isName after[i]) (by kernel_rfl) (fun e => ?_) (fun e => ?_)
    · simp only [Bool.not_eq_true'] at e
      refine .out false 0 (by kernel_rfl) (.retB false (by kernel_rfl) ?_)
      unfold fitsI; rw [all_notN hi e]; simp
    · simp only [Bool.not_eq_false'] at e
      refine .next m (by kernel_rfl) (by omega) ⟨i + 1, by omega, all_takeN hi hall e, by kernel_rfl, .of (by kernel_rfl) ⟨by kernel_rfl, ?_, trivial⟩⟩
      exact Eq.trans (b := .d (.i .i64 (wrap .i64 (.ofNat i + 1)))) (by kernel_rfl) (inc63 (by omega))
  have : m = 0 := by rw [iLt_not] at e; simp only [Int.ofNat_eq_natCast] at e; omega
  subst this
  have hin : i = after.length := by omega
  subst hin
  rw [List.take_length] at hall
  refine .out false 1 (by kernel_rfl) ?_
  have hpre : fitsI ⟨name, kind, after, over, width, quota⟩ = (if kind = 0 then decide (over = []) && decide (width = 0) else if kind = 1 then isName over && within width 40 else false) := by
    have h0 : within quota 400 = true := by unfold within; rw [decide_eq_true e3, decide_eq_true e4]; rfl
    simp only [fitsI, e1, hall, h0, decide_eq_true (show after.length ≤ 20 by omega), Bool.and_self, Bool.true_and]
  rw [hpre]
  refine .br (iEq kind 0) (by kernel_rfl) (fun e => ?_) (fun e5 => ?_)
  · rw [if_pos (iEq_iff.1 e)]
    refine .br (strEq over []) (by kernel_rfl) (fun e6 => ?_) (fun e6 => ?_)
    · refine .retB (iEq width 0) (by kernel_rfl) ?_
      rw [iEq_dec, decide_eq_true (strEq_iff.1 e6), Bool.true_and]
    · refine .retB false (by kernel_rfl) ?_
      rw [strEq_dec] at e6
      rw [e6]; rfl
  rw [if_neg (iEq_not.1 e5)]
  refine .br (iEq kind 1) (by kernel_rfl) (fun e6 => ?_) (fun e6 => ?_)
  rotate_left
  · rw [if_neg (iEq_not.1 e6)]
    exact .ret rfl (by kernel_rfl)
  rw [if_pos (iEq_iff.1 e6)]
  refine .callv (fun h => refName_ok (h := h) hl2) (by kernel_rfl) ?_
  refine .br (isName over) (by kernel_rfl) (fun e7 => ?_) (fun e7 => .retB false (by kernel_rfl) (by rw [e7]; rfl))
  refine .br (!(iLt width 0)) (by kernel_rfl) (fun e8 => ?_) (fun e8 => .retB false (by kernel_rfl) ?_)
  · refine .retB (!(iLt 40 width)) (by kernel_rfl) ?_
    rw [Bool.not_eq_true', iLt_not] at e8
    unfold within
    rw [e7, decide_eq_true e8, iLt_dec, Bool.true_and, Bool.true_and, Bool.eq_iff_iff, Bool.not_eq_true', decide_eq_false_iff_not, decide_eq_true_eq]
    omega
  · rw [Bool.not_eq_false', iLt_iff] at e8
    unfold within
    rw [decide_eq_false (by omega : ¬ 0 ≤ width)]; simp
theorem refFrag_ok {h : Heap} {fb : Bool} {l : List ItemS} {fcs : List DV} (hl : fcs.length = l.length * 6) (hcs : ∀ i (hi : i < l.length), ItemR l[i] (chunk fcs 6 i)) (hln : l.length ≤ 9223372036854775807) (hli : ∀ x ∈ l, lenI x) : Cal E f_foremanref09_Right [.d (.sl fb l.length fcs)] h (.nrm, .d (.b (rightF l)), h) := by
  refine .w n_foremanref09_Right rfl (ds := [.sl fb l.length fcs]) (bor := false) rfl ?_
  refine .loop false (fun m tm _ => ∃ i, i + m = l.length ∧ (l.take i).all fitsI = true ∧ St 19 [(0, .d (.sl fb l.length fcs)), (3, mkI i)] tm) l.length (by kernel_rfl)
    ⟨0, by omega, rfl, .of (by kernel_rfl) ⟨by kernel_rfl, by kernel_rfl, trivial⟩⟩ ?_
  rintro m tm g ⟨i, him, hall, g', rfl⟩
  refine .br (iLt (.ofNat i) (.ofNat l.length)) (by kernel_rfl) (fun e => ?_) (fun e => ?_)
  · have hi : i < l.length := by rw [iLt_iff] at e; simpa using e
    obtain ⟨m, rfl⟩ : ∃ k, m = k + 1 := ⟨m - 1, by omega⟩
    have hld := load_bx E (b := fb) hl hi
    obtain ⟨ab, hlit, _⟩ := hcs i hi
    have hxi := hli l[i] (List.getElem_mem hi)
    have good : fitsI l[i] = true → (l.take (i + 1)).all fitsI = true := fun hc => all_takeN hi hall hc
    have bad : fitsI l[i] = false → rightF l = false := fun hc => by unfold rightF; rw [all_notN hi hc, Bool.and_false]
    generalize l[i] = x at hlit hxi good bad
    obtain ⟨name, kind, after, over, width, quota⟩ := x
    simp only at hlit
    rw [hlit] at hld
    refine .opv (iaS_sl (k := .i64) (z := 6) (b := fb) (n := l.length) (cs := fcs) (j := i) rfl hi) (by kernel_rfl) ?_
    refine .opv hld (by kernel_rfl) ?_
    refine .callv (fun h => refItem_ok (h := h) (ab := ab) hxi) (by kernel_rfl) ?_
    refine .br (!fitsI ⟨name, kind, after, over, width, quota⟩) (by kernel_rfl) (fun e => ?_) (fun e => ?_)
    · simp only [Bool.not_eq_true'] at e
      exact .out false 0 (by kernel_rfl) (.retB false (by kernel_rfl) (bad e).symm)
    · simp only [Bool.not_eq_false'] at e
      refine .next m (by kernel_rfl) (by omega) ⟨i + 1, by omega, good e, .of (by kernel_rfl) ⟨by kernel_rfl, ?_, trivial⟩⟩
      exact Eq.trans (b := .d (.i .i64 (wrap .i64 (.ofNat i + 1)))) (by kernel_rfl) (inc63 (by omega))
  · have : m = 0 := by rw [iLt_not] at e; simp only [Int.ofNat_eq_natCast] at e; omega
    subst this
    have hin : i = l.length := by omega
    subst hin
    rw [List.take_length] at hall
    refine .out false 1 (by kernel_rfl) ?_
    refine .retB (!(iLt 40 (.ofNat l.length))) (by kernel_rfl) ?_
    unfold rightF
    rw [hall, Bool.and_true, iLt_dec, Bool.eq_iff_iff, Bool.not_eq_true', decide_eq_false_iff_not, decide_eq_true_eq]
    simp only [Int.ofNat_eq_natCast]; omega
end
end Go.Proofs.YtjacnbabnpgpaaaGreatDoor
