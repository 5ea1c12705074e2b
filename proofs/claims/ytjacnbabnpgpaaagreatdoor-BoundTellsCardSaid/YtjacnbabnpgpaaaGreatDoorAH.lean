/- Contracts: the document's operations: which ones are right. -/
import Derived.Test.YtjacnbabnpgpaaaGreatDoorAG
import Derived.Test.YtjacnbabnpgpaaaGreatDoorY
namespace Go.Proofs.YtjacnbabnpgpaaaGreatDoor
noncomputable section
open Go Go.Abs
set_option maxRecDepth 100000
section
variable {w tok k n q : Int} {id vs : List UInt8} {vb : Bool} {vl : List ValS} {vcs : List DV} {fb : Bool} {l : List ItemS} {fcs : List DV}
theorem refOp1 {h : Heap} (hv : ValR (.mk k n vs vl) [.i .u8 k, .i .i64 n, .s vs, .sl vb vl.length vcs]) (hp : partsV (.mk k n vs vl) ≤ 1000000) (hid : id.length ≤ 9223372036854775807) (hF1 : fcs.length = l.length * 6) (hF2 : ∀ i (hi : i < l.length), ItemR l[i] (chunk fcs 6 i)) (hF3 : l.length ≤ 9223372036854775807) (hF4 : ∀ x ∈ l, lenI x) : Cal E f_foremanref10_Right [.agg (aO 1 tok k n q id vs vb vl vcs fb l fcs)] h (.nrm, .d (.b (rightO (oO 1 tok k n q id vs vl l))), h) := by
  have hk : rightO (oO 1 tok k n q id vs vl l) = rightK true true false false false (oO 1 tok k n q id vs vl l) := rfl
  rw [hk]
  have hz : zeroV (.mk k n vs vl) = sameZ k n vs vl.length := rfl
  refine .w n_foremanref10_Right rfl (ds := [.agg (dO 1 tok k n q id vs vb vl vcs fb l fcs)]) (bor := false) rfl ?_
  refine .br false (by kernel_rfl) (fun e => by cases e) (fun _ => ?_)
  refine .br false (by kernel_rfl) (fun e => by cases e) (fun _ => ?_)
  refine .br true (by kernel_rfl) (fun _ => ?_) (fun e => by cases e)
  refine .callv (fun h => refFrag_ok (h := h) (fb := fb) hF1 hF2 hF3 hF4) (by kernel_rfl) ?_
  refine .br (rightF l) (by kernel_rfl) (fun e1 => ?_) (fun e => .retB false (by kernel_rfl) (by simp only [rightK, e, Bool.false_and, Bool.and_false]))
  refine .br (!(iLt q 0)) (by kernel_rfl) (fun e2 => ?_) (fun e => .retB false (by kernel_rfl) (by simp only [rightK, e, Bool.false_and, Bool.and_false]))
  refine .br (!(iLt 400 q)) (by kernel_rfl) (fun e3 => ?_) (fun e => .retB false (by kernel_rfl) (by simp only [rightK, e, Bool.false_and, Bool.and_false]))
  refine .br (strEq id []) (by kernel_rfl) (fun e4 => ?_) (fun e => .retB false (by kernel_rfl) (by simp only [rightK, e, Bool.false_and, Bool.and_false]))
  refine .br (iEq tok 0) (by kernel_rfl) (fun e5 => ?_) (fun e => .retB false (by kernel_rfl) (by simp only [rightK, e, Bool.false_and, Bool.and_false]))
  refine .callv (fun h => refNone_ok (h := h) (k := k) (n := n) (s := vs) (b := vb) (m := vl.length) (cs := vcs)) (by kernel_rfl) ?_
  refine .retB (sameZ k n vs vl.length) (by kernel_rfl) ?_
  simp only [rightK, e1, e2, e3, e4, e5, hz, Bool.true_and]
theorem refOp2 {h : Heap} (hv : ValR (.mk k n vs vl) [.i .u8 k, .i .i64 n, .s vs, .sl vb vl.length vcs]) (hp : partsV (.mk k n vs vl) ≤ 1000000) (hid : id.length ≤ 9223372036854775807) (hF1 : fcs.length = l.length * 6) (hF2 : ∀ i (hi : i < l.length), ItemR l[i] (chunk fcs 6 i)) (hF3 : l.length ≤ 9223372036854775807) (hF4 : ∀ x ∈ l, lenI x) : Cal E f_foremanref10_Right [.agg (aO 2 tok k n q id vs vb vl vcs fb l fcs)] h (.nrm, .d (.b (rightO (oO 2 tok k n q id vs vl l))), h) := by
  have hk : rightO (oO 2 tok k n q id vs vl l) = rightK false false true false false (oO 2 tok k n q id vs vl l) := rfl
  rw [hk]
  have hz : zeroV (.mk k n vs vl) = sameZ k n vs vl.length := rfl
  refine .w n_foremanref10_Right rfl (ds := [.agg (dO 2 tok k n q id vs vb vl vcs fb l fcs)]) (bor := false) rfl ?_
  refine .br false (by kernel_rfl) (fun e => by cases e) (fun _ => ?_)
  refine .br false (by kernel_rfl) (fun e => by cases e) (fun _ => ?_)
  refine .br false (by kernel_rfl) (fun e => by cases e) (fun _ => ?_)
  refine .callv (fun h => refID_ok (h := h) (s := id) hid) (by kernel_rfl) ?_
  refine .br (!okID id) (by kernel_rfl) (fun e => .retB false (by kernel_rfl) ?_) (fun e1 => ?_)
  · rw [Bool.not_eq_true'] at e; simp only [rightK, e, Bool.false_and, Bool.and_false]
  rw [Bool.not_eq_false'] at e1
  refine .br (!iEq q 0) (by kernel_rfl) (fun e => .retB false (by kernel_rfl) ?_) (fun e2 => ?_)
  · rw [Bool.not_eq_true'] at e; simp only [rightK, e, Bool.false_and, Bool.and_false]
  rw [Bool.not_eq_false'] at e2
  refine .br false (by kernel_rfl) (fun e => by cases e) (fun _ => ?_)
  refine .br false (by kernel_rfl) (fun e => by cases e) (fun _ => ?_)
  refine .br (iEq tok 0) (by kernel_rfl) (fun e3 => ?_) (fun e => .retB false (by kernel_rfl) (by simp only [rightK, e, Bool.false_and, Bool.and_false]))
  refine .callv (fun h => refNone_ok (h := h) (k := k) (n := n) (s := vs) (b := vb) (m := vl.length) (cs := vcs)) (by kernel_rfl) ?_
  refine .br (sameZ k n vs vl.length) (by kernel_rfl) (fun e4 => ?_) (fun e => .retB false (by kernel_rfl) (by simp only [rightK, hz, e, Bool.false_and, Bool.and_false]))
  refine .retB (iEq (.ofNat l.length) 0) (by kernel_rfl) ?_
  simp only [rightK, e1, e2, e3, e4, hz, Bool.true_and, Bool.and_true]
theorem refOp3 {h : Heap} (hv : ValR (.mk k n vs vl) [.i .u8 k, .i .i64 n, .s vs, .sl vb vl.length vcs]) (hp : partsV (.mk k n vs vl) ≤ 1000000) (hid : id.length ≤ 9223372036854775807) (hF1 : fcs.length = l.length * 6) (hF2 : ∀ i (hi : i < l.length), ItemR l[i] (chunk fcs 6 i)) (hF3 : l.length ≤ 9223372036854775807) (hF4 : ∀ x ∈ l, lenI x) : Cal E f_foremanref10_Right [.agg (aO 3 tok k n q id vs vb vl vcs fb l fcs)] h (.nrm, .d (.b (rightO (oO 3 tok k n q id vs vl l))), h) := by
  have hk : rightO (oO 3 tok k n q id vs vl l) = rightK true false true true true (oO 3 tok k n q id vs vl l) := rfl
  rw [hk]
  have hz : zeroV (.mk k n vs vl) = sameZ k n vs vl.length := rfl
  refine .w n_foremanref10_Right rfl (ds := [.agg (dO 3 tok k n q id vs vb vl vcs fb l fcs)]) (bor := false) rfl ?_
  refine .br false (by kernel_rfl) (fun e => by cases e) (fun _ => ?_)
  refine .br false (by kernel_rfl) (fun e => by cases e) (fun _ => ?_)
  refine .br false (by kernel_rfl) (fun e => by cases e) (fun _ => ?_)
  refine .callv (fun h => refID_ok (h := h) (s := id) hid) (by kernel_rfl) ?_
  refine .br (!okID id) (by kernel_rfl) (fun e => .retB false (by kernel_rfl) ?_) (fun e1 => ?_)
  · rw [Bool.not_eq_true'] at e; simp only [rightK, e, Bool.false_and, Bool.and_false]
  rw [Bool.not_eq_false'] at e1
  refine .br (!iEq q 0) (by kernel_rfl) (fun e => .retB false (by kernel_rfl) ?_) (fun e2 => ?_)
  · rw [Bool.not_eq_true'] at e; simp only [rightK, e, Bool.false_and, Bool.and_false]
  rw [Bool.not_eq_false'] at e2
  refine .br true (by kernel_rfl) (fun _ => ?_) (fun e => by cases e)
  refine .br (!(iLt tok 1)) (by kernel_rfl) (fun e3 => ?_) (fun e => .retB false (by kernel_rfl) (by simp only [rightK, e, Bool.false_and, Bool.and_false]))
  refine .callv (args := [.agg (vA k n vs vb vl.length vcs)]) (refVal_ok hv hp) (by kernel_rfl) ?_
  refine .br (rightV (.mk k n vs vl)) (by kernel_rfl) (fun e4 => ?_) (fun e => .retB false (by kernel_rfl) (by simp only [rightK, e, Bool.false_and, Bool.and_false]))
  refine .callv (fun h => refFrag_ok (h := h) (fb := fb) hF1 hF2 hF3 hF4) (by kernel_rfl) ?_
  refine .retB (rightF l) (by kernel_rfl) ?_
  simp only [rightK, e1, e2, e3, e4, Bool.true_and, Bool.and_true]
theorem refOp4 {h : Heap} (hv : ValR (.mk k n vs vl) [.i .u8 k, .i .i64 n, .s vs, .sl vb vl.length vcs]) (hp : partsV (.mk k n vs vl) ≤ 1000000) (hid : id.length ≤ 9223372036854775807) (hF1 : fcs.length = l.length * 6) (hF2 : ∀ i (hi : i < l.length), ItemR l[i] (chunk fcs 6 i)) (hF3 : l.length ≤ 9223372036854775807) (hF4 : ∀ x ∈ l, lenI x) : Cal E f_foremanref10_Right [.agg (aO 4 tok k n q id vs vb vl vcs fb l fcs)] h (.nrm, .d (.b (rightO (oO 4 tok k n q id vs vl l))), h) := by
  have hk : rightO (oO 4 tok k n q id vs vl l) = rightK false false true true false (oO 4 tok k n q id vs vl l) := rfl
  rw [hk]
  have hz : zeroV (.mk k n vs vl) = sameZ k n vs vl.length := rfl
  refine .w n_foremanref10_Right rfl (ds := [.agg (dO 4 tok k n q id vs vb vl vcs fb l fcs)]) (bor := false) rfl ?_
  refine .br false (by kernel_rfl) (fun e => by cases e) (fun _ => ?_)
  refine .br false (by kernel_rfl) (fun e => by cases e) (fun _ => ?_)
  refine .br false (by kernel_rfl) (fun e => by cases e) (fun _ => ?_)
  refine .callv (fun h => refID_ok (h := h) (s := id) hid) (by kernel_rfl) ?_
  refine .br (!okID id) (by kernel_rfl) (fun e => .retB false (by kernel_rfl) ?_) (fun e1 => ?_)
  · rw [Bool.not_eq_true'] at e; simp only [rightK, e, Bool.false_and, Bool.and_false]
  rw [Bool.not_eq_false'] at e1
  refine .br (!iEq q 0) (by kernel_rfl) (fun e => .retB false (by kernel_rfl) ?_) (fun e2 => ?_)
  · rw [Bool.not_eq_true'] at e; simp only [rightK, e, Bool.false_and, Bool.and_false]
  rw [Bool.not_eq_false'] at e2
  refine .br false (by kernel_rfl) (fun e => by cases e) (fun _ => ?_)
  refine .br true (by kernel_rfl) (fun _ => ?_) (fun e => by cases e)
  refine .br (!(iLt tok 1)) (by kernel_rfl) (fun e3 => ?_) (fun e => .retB false (by kernel_rfl) (by simp only [rightK, e, Bool.false_and, Bool.and_false]))
  refine .callv (fun h => refNone_ok (h := h) (k := k) (n := n) (s := vs) (b := vb) (m := vl.length) (cs := vcs)) (by kernel_rfl) ?_
  refine .br (sameZ k n vs vl.length) (by kernel_rfl) (fun e4 => ?_) (fun e => .retB false (by kernel_rfl) (by simp only [rightK, hz, e, Bool.false_and, Bool.and_false]))
  refine .retB (iEq (.ofNat l.length) 0) (by kernel_rfl) ?_
  simp only [rightK, e1, e2, e3, e4, hz, Bool.true_and, Bool.and_true]
theorem refOp5 {h : Heap} (hv : ValR (.mk k n vs vl) [.i .u8 k, .i .i64 n, .s vs, .sl vb vl.length vcs]) (hp : partsV (.mk k n vs vl) ≤ 1000000) (hid : id.length ≤ 9223372036854775807) (hF1 : fcs.length = l.length * 6) (hF2 : ∀ i (hi : i < l.length), ItemR l[i] (chunk fcs 6 i)) (hF3 : l.length ≤ 9223372036854775807) (hF4 : ∀ x ∈ l, lenI x) : Cal E f_foremanref10_Right [.agg (aO 5 tok k n q id vs vb vl vcs fb l fcs)] h (.nrm, .d (.b (rightO (oO 5 tok k n q id vs vl l))), h) := by
  have hk : rightO (oO 5 tok k n q id vs vl l) = rightK false false true false false (oO 5 tok k n q id vs vl l) := rfl
  rw [hk]
  have hz : zeroV (.mk k n vs vl) = sameZ k n vs vl.length := rfl
  refine .w n_foremanref10_Right rfl (ds := [.agg (dO 5 tok k n q id vs vb vl vcs fb l fcs)]) (bor := false) rfl ?_
  refine .br false (by kernel_rfl) (fun e => by cases e) (fun _ => ?_)
  refine .br false (by kernel_rfl) (fun e => by cases e) (fun _ => ?_)
  refine .br false (by kernel_rfl) (fun e => by cases e) (fun _ => ?_)
  refine .callv (fun h => refID_ok (h := h) (s := id) hid) (by kernel_rfl) ?_
  refine .br (!okID id) (by kernel_rfl) (fun e => .retB false (by kernel_rfl) ?_) (fun e1 => ?_)
  · rw [Bool.not_eq_true'] at e; simp only [rightK, e, Bool.false_and, Bool.and_false]
  rw [Bool.not_eq_false'] at e1
  refine .br (!iEq q 0) (by kernel_rfl) (fun e => .retB false (by kernel_rfl) ?_) (fun e2 => ?_)
  · rw [Bool.not_eq_true'] at e; simp only [rightK, e, Bool.false_and, Bool.and_false]
  rw [Bool.not_eq_false'] at e2
  refine .br false (by kernel_rfl) (fun e => by cases e) (fun _ => ?_)
  refine .br false (by kernel_rfl) (fun e => by cases e) (fun _ => ?_)
  refine .br (iEq tok 0) (by kernel_rfl) (fun e3 => ?_) (fun e => .retB false (by kernel_rfl) (by simp only [rightK, e, Bool.false_and, Bool.and_false]))
  refine .callv (fun h => refNone_ok (h := h) (k := k) (n := n) (s := vs) (b := vb) (m := vl.length) (cs := vcs)) (by kernel_rfl) ?_
  refine .br (sameZ k n vs vl.length) (by kernel_rfl) (fun e4 => ?_) (fun e => .retB false (by kernel_rfl) (by simp only [rightK, hz, e, Bool.false_and, Bool.and_false]))
  refine .retB (iEq (.ofNat l.length) 0) (by kernel_rfl) ?_
  simp only [rightK, e1, e2, e3, e4, hz, Bool.true_and, Bool.and_true]
theorem refOp_bad {h : Heap} (hw : w < 1 ∨ 5 < w) : Cal E f_foremanref10_Right [.agg (aO w tok k n q id vs vb vl vcs fb l fcs)] h (.nrm, .d (.b (rightO (oO w tok k n q id vs vl l))), h) := by
  have hk : rightO (oO w tok k n q id vs vl l) = false := by
    unfold rightO
    rw [if_neg (by show ¬ w = 1; omega), if_neg (by show ¬ w = 2; omega), if_neg (by show ¬ w = 3; omega), if_neg (by show ¬ w = 4; omega), if_neg (by show ¬ w = 5; omega)]
  rw [hk]
  refine .w n_foremanref10_Right rfl (ds := [.agg (dO w tok k n q id vs vb vl vcs fb l fcs)]) (bor := false) rfl ?_
  refine .br (iLt w 1) (by kernel_rfl) (fun _ => .ret rfl (by kernel_rfl)) (fun e => ?_)
  rw [iLt_not] at e
  refine .br (iLt 5 w) (by kernel_rfl) (fun _ => .ret rfl (by kernel_rfl)) (fun e2 => ?_)
  rw [iLt_not] at e2
  omega
theorem refOp_ok {h : Heap} (hv : ValR (.mk k n vs vl) [.i .u8 k, .i .i64 n, .s vs, .sl vb vl.length vcs]) (hp : partsV (.mk k n vs vl) ≤ 1000000) (hid : id.length ≤ 9223372036854775807) (hF1 : fcs.length = l.length * 6) (hF2 : ∀ i (hi : i < l.length), ItemR l[i] (chunk fcs 6 i)) (hF3 : l.length ≤ 9223372036854775807) (hF4 : ∀ x ∈ l, lenI x) : Cal E f_foremanref10_Right [.agg (aO w tok k n q id vs vb vl vcs fb l fcs)] h (.nrm, .d (.b (rightO (oO w tok k n q id vs vl l))), h) := by
  by_cases hw : w < 1 ∨ 5 < w
  · exact refOp_bad hw
  have : w = 1 ∨ w = 2 ∨ w = 3 ∨ w = 4 ∨ w = 5 := by omega
  rcases this with rfl | rfl | rfl | rfl | rfl
  · exact refOp1 hv hp hid hF1 hF2 hF3 hF4
  · exact refOp2 hv hp hid hF1 hF2 hF3 hF4
  · exact refOp3 hv hp hid hF1 hF2 hF3 hF4
  · exact refOp4 hv hp hid hF1 hF2 hF3 hF4
  · exact refOp5 hv hp hid hF1 hF2 hF3 hF4
end
end
end Go.Proofs.YtjacnbabnpgpaaaGreatDoor
