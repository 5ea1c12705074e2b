/- Contracts: how long an operation is, by the document. -/
import Derived.Test.YtjacnbabnpgpaaaGreatDoorAH
import Derived.Test.YtjacnbabnpgpaaaGreatDoorAO
namespace Go.Proofs.YtjacnbabnpgpaaaGreatDoor
noncomputable section
open Go Go.Abs
set_option maxRecDepth 100000
section
variable {w tok k n q : Int} {id vs : List UInt8} {vb : Bool} {vl : List ValS} {vcs : List DV} {fb : Bool} {l : List ItemS} {fcs : List DV}
theorem cutF_ne0 : ∀ k bs, ∀ r ∈ cutF k bs, r.length ≠ 0 := by
  intro k
  induction k with
  | zero => intro bs r hr; cases hr
  | succ k ih =>
    intro bs r hr
    unfold cutF at hr
    split at hr
    · cases hr
    · rename_i hn
      have h0 : bs.length ≠ 0 := fun e => hn (List.length_eq_zero_iff.1 e)
      rcases List.mem_cons.1 hr with rfl | hr
      · rw [List.length_take]; omega
      · exact ih _ r hr
def zero9 : List UInt8 := [0, 0, 0, 0, 0, 0, 0, 0, 0]
theorem longZ {o : OpS} : longR (cutB (zero9 ++ opB o)) = longO o := by
  unfold longR longO cutB
  rw [cutF_count _ _ (Nat.le_refl _), cutF_sum _ _ (Nat.le_refl _), List.length_append]
  show 11 + 9 * ((9 + (opB o).length + 4095) / 4096) + (9 + (opB o).length) = _
  omega
theorem rowsZ {o : OpS} (hlen : (opB o).length ≤ 4000000) : Rows (cutB (zero9 ++ opB o)) := by
  have h9 : (zero9 ++ opB o).length = 9 + (opB o).length := List.length_append
  have hc : (cutB (zero9 ++ opB o)).length = ((zero9 ++ opB o).length + 4095) / 4096 := cutF_count _ _ (Nat.le_refl _)
  exact ⟨by omega, by omega, fun r hr => cutF_le _ _ r hr⟩
theorem refLong0 {h : Heap} (hr : rightO (oO w tok k n q id vs vl l) = false) (hv : ValR (.mk k n vs vl) [.i .u8 k, .i .i64 n, .s vs, .sl vb vl.length vcs]) (hp : partsV (.mk k n vs vl) ≤ 1000000) (hid : id.length ≤ 9223372036854775807) (hF1 : fcs.length = l.length * 6) (hF2 : ∀ i (hi : i < l.length), ItemR l[i] (chunk fcs 6 i)) (hF3 : l.length ≤ 9223372036854775807) (hF4 : ∀ x ∈ l, lenI x) : Cal E f_foremanref29_Long [.agg (aO w tok k n q id vs vb vl vcs fb l fcs)] h (.nrm, .d (.i .i64 0), h) := by
  refine .w n_foremanref29_Long rfl (ds := [.agg (dO w tok k n q id vs vb vl vcs fb l fcs)]) (bor := false) rfl ?_
  refine .callv (fun h => hr ▸ refOp_ok (w := w) (tok := tok) (q := q) (fb := fb) (h := h) hv hp hid hF1 hF2 hF3 hF4) (by kernel_rfl) ?_
  refine .br true (by kernel_rfl) (fun _ => ?_) (fun e => by cases e)
  exact .ret rfl (by kernel_rfl)
theorem refLong1 {h : Heap} (hr : rightO (oO w tok k n q id vs vl l) = true) (hv : ValR (.mk k n vs vl) [.i .u8 k, .i .i64 n, .s vs, .sl vb vl.length vcs]) (hp : partsV (.mk k n vs vl) ≤ 1000000) (hid : id.length ≤ 9223372036854775807) (htk : R64 tok) (hq : R64 q) (hF1 : fcs.length = l.length * 6) (hF2 : ∀ i (hi : i < l.length), ItemR l[i] (chunk fcs 6 i)) (hF3 : l.length ≤ 9223372036854775807) (hF4 : ∀ x ∈ l, lenI x) : Cal E f_foremanref29_Long [.agg (aO w tok k n q id vs vb vl vcs fb l fcs)] h (.nrm, .d (.i .i64 (.ofNat (longO (oO w tok k n q id vs vl l)))), h) := by
  have hlen := Nat.le_trans (opB_le hr) (by decide : 39694 ≤ 100000)
  have h0 := opB_ne hr
  obtain ⟨H, hH⟩ : ∃ H : Heap, H = Heap.empty.push (.cells false t_Op (aO w tok k n q id vs vb vl vcs fb l fcs)) := ⟨_, rfl⟩
  refine .w n_foremanref29_Long rfl (ds := [.agg (dO w tok k n q id vs vb vl vcs fb l fcs)]) (bor := false) rfl ?_
  refine .callv (fun h => hr ▸ refOp_ok (w := w) (tok := tok) (q := q) (fb := fb) (h := h) hv hp hid hF1 hF2 hF3 hF4) (by kernel_rfl) ?_
  refine .br false (by kernel_rfl) (fun e => by cases e) (fun _ => ?_)
  refine .call (refOpB_ok (w := w) (tok := tok) (q := q) (fb := fb) (h := (Heap.empty.push (.cells false t_Op (aO w tok k n q id vs vb vl vcs fb l fcs))).push .dead) hr hv htk hq hF1 hF2) (by kernel_rfl) ?_
  have g1 : ((ownH ((Heap.empty.push (.cells false t_Op (aO w tok k n q id vs vb vl vcs fb l fcs))).push .dead)).set 1 (.cells false t_uint8 ((bytesD zero9).map .d))).get 1 = some (.cells false t_uint8 ((bytesD zero9).map .d)) := rfl
  have a1 := app_srefx (bytes := 1) (b := 1) (n := 9) (k := (opB (oO w tok k n q id vs vl l)).length) (y := ownB ((Heap.empty.push (.cells false t_Op (aO w tok k n q id vs vb vl vcs fb l fcs))).push .dead) (opB (oO w tok k n q id vs vl l))) g1 rfl (rowView_bytes _) (by omega) (by omega) h0 (okCells_bytes _)
  refine .op a1 (by kernel_rfl) ?_
  have hcat : (bytesD zero9).map AV.d ++ (bytesD (opB (oO w tok k n q id vs vl l))).map AV.d = (bytesD (zero9 ++ opB (oO w tok k n q id vs vl l))).map .d := by rw [bytesD_append, List.map_append]
  rw [hcat]
  have h9 : (zero9 ++ opB (oO w tok k n q id vs vl l)).length = 9 + (opB (oO w tok k n q id vs vl l)).length := List.length_append
  have g2 := push_n ((ownH ((Heap.empty.push (.cells false t_Op (aO w tok k n q id vs vb vl vcs fb l fcs))).push .dead)).set 1 (.cells false t_uint8 ((bytesD zero9).map .d))) (.cells false t_uint8 ((bytesD (zero9 ++ opB (oO w tok k n q id vs vl l))).map .d))
  rw [← h9]
  obtain ⟨v', h', hc, t, g, rfl⟩ := refCut_ok (m := (zero9 ++ opB (oO w tok k n q id vs vl l)).length) (ex := false) (by omega) (by omega) (Nat.le_refl _) g2
  refine .call hc (by kernel_rfl) ?_
  obtain ⟨out, ho, hp2⟩ := refBatch_ok (h := h') (args := [.app t g (cutB (zero9 ++ opB (oO w tok k n q id vs vl l))).length (rowsD (cutB (zero9 ++ opB (oO w tok k n q id vs vl l))))]) (bor := false) (b := false) (rowsZ (Nat.le_trans hlen (by decide))) (fun r hr => cutF_ne0 _ _ r hr) rfl
  rw [longZ] at ho
  refine .call hp2 (by kernel_rfl) ?_
  rw [← ho]
  exact .ret rfl (by kernel_rfl)
end
end
end Go.Proofs.YtjacnbabnpgpaaaGreatDoor
