/- Contracts: replay.Rows. -/
import Derived.Test.YtjacnbabnpgpaaaGreatDoorN
import Derived.Test.YtjacnbabnpgpaaaGreatDoorQ
namespace Go.Proofs.YtjacnbabnpgpaaaGreatDoor
noncomputable section
open Go Go.Abs
set_option maxRecDepth 100000
def aheadB (ep : UInt8) : List UInt8 := [1, ep, 0, 0, 0, 0, 0, 0, 0]
abbrev entA (ep : Int) (w tok k n q : Int) (id vs : List UInt8) (vb : Bool) (vl : List ValS) (vcs : List DV) (fb : Bool) (l : List ItemS) (fcs : List DV) : List AV := [.d (.i .u8 1), .d (.i .u64 ep), .d (.i .u8 w), .d (.s id), .d (.i .i64 tok), .d (.i .u8 k), .d (.i .i64 n), .d (.s vs), .d (.sl vb vl.length vcs), .d (.sl fb l.length fcs), .d (.i .i64 q), .d (.i .i64 0), .d (.i .i64 0), .d (.i .i64 0), .d (.i .i64 0), .d (.i .i64 0), .d (.i .i64 0), .nilsl, .d (.i .i64 0)]
abbrev entD (ep : Int) (w tok k n q : Int) (id vs : List UInt8) (vb : Bool) (vl : List ValS) (vcs : List DV) (fb : Bool) (l : List ItemS) (fcs : List DV) : List DV := [.i .u8 1, .i .u64 ep, .i .u8 w, .s id, .i .i64 tok, .i .u8 k, .i .i64 n, .s vs, .sl vb vl.length vcs, .sl fb l.length fcs, .i .i64 q, .i .i64 0, .i .i64 0, .i .i64 0, .i .i64 0, .i .i64 0, .i .i64 0, .nsl, .i .i64 0]
def rowsO (ep : UInt8) (o : OpS) : List (List UInt8) := cutB (aheadB ep ++ opB o)
theorem cutF_count : ∀ k bs, bs.length ≤ k → (cutF k bs).length = (bs.length + 4095) / 4096 := by
  intro k
  induction k with
  | zero =>
    intro bs h
    rw [List.length_eq_zero_iff.1 (Nat.le_zero.1 h)]; rfl
  | succ k ih =>
    intro bs h
    unfold cutF
    by_cases hn : bs = []
    · rw [if_pos hn, hn]; rfl
    · have h0 : bs.length ≠ 0 := fun e => hn (List.length_eq_zero_iff.1 e)
      rw [if_neg hn, List.length_cons, ih _ (by rw [List.length_drop]; omega), List.length_drop]
      omega
theorem rowsO_len (ep : UInt8) (o : OpS) : (rowsO ep o).length = ((opB o).length + 4104) / 4096 := by
  unfold rowsO cutB
  rw [cutF_count _ _ (Nat.le_refl _), List.length_append]
  show (9 + (opB o).length + 4095) / 4096 = _
  congr 1; omega
theorem opB_ne {o : OpS} (h : rightO o = true) : (opB o).length ≠ 0 := by
  have h1 := (numB_len 1).1
  have h2 := (numB_len 2).1
  have h3 := (numB_len 3).1
  have h4 := (numB_len 4).1
  have h5 := (numB_len 5).1
  rcases rightO_kind h with e | e | e | e | e
  all_goals
    simp only [opB, e]
    simp only [List.length_append, reduceIte, show ¬ (2 : Int) = 1 by decide, show ¬ (3 : Int) = 1 by decide, show ¬ (3 : Int) = 2 by decide, show ¬ (4 : Int) = 1 by decide, show ¬ (4 : Int) = 2 by decide, show ¬ (4 : Int) = 3 by decide, show ¬ (5 : Int) = 1 by decide, show ¬ (5 : Int) = 2 by decide, show ¬ (5 : Int) = 3 by decide, show ¬ (5 : Int) = 4 by decide]
    omega
theorem ahead0ss {h : Heap} {w tok k n q : Int} {id vs : List UInt8} {vb : Bool} {vl : List ValS} {vcs : List DV} {fb : Bool} {l : List ItemS} {fcs : List DV} : Cal E f_replay_ahead [.agg (entA 0 w tok k n q id vs vb vl vcs fb l fcs)] h (.nrm, .sref h.n 0 1 9 9 false, h.push (.cells false t_uint8 ((bytesD (aheadB 0)).map .d))) := ⟨80, by kernel_rfl⟩
theorem rest0ss {h : Heap} {w tok k n q : Int} {id vs : List UInt8} {vb : Bool} {vl : List ValS} {vcs : List DV} {fb : Bool} {l : List ItemS} {fcs : List DV} (ho : OpR (oO w tok k n q id vs vl l) (dO w tok k n q id vs vb vl vcs fb l fcs)) :
    (rightO (oO w tok k n q id vs vl l) = false → Cal E f_replay_rest [.agg (entA 0 w tok k n q id vs vb vl vcs fb l fcs)] h (.nrm, .tup [.nilsl, .d (.i .i64 2)], h)) ∧ (rightO (oO w tok k n q id vs vl l) = true → Cal E f_replay_rest [.agg (entA 0 w tok k n q id vs vb vl vcs fb l fcs)] h (.nrm, .tup [ownB h (opB (oO w tok k n q id vs vl l)), .d (.i .i64 0)], ownH h)) := by
  constructor
  · intro hr
    refine .w n_replay_rest rfl (ds := [.agg (entD 0 w tok k n q id vs vb vl vcs fb l fcs)]) (bor := false) rfl ?_
    refine .br true (by kernel_rfl) (fun _ => ?_) (fun e => by cases e)
    refine .callv (fun h => (opBytes_ok (h := h) (bor := false) (args := [.agg (aO w tok k n q id vs vb vl vcs fb l fcs)]) ho rfl).1 hr) (by kernel_rfl) ?_
    exact .retT2 (fun _ => adopt1_nil ..) (fun _ => adopt1_d _ _ _ rfl) (by kernel_rfl)
  · intro hr
    refine .w n_replay_rest rfl (ds := [.agg (entD 0 w tok k n q id vs vb vl vcs fb l fcs)]) (bor := false) rfl ?_
    refine .br true (by kernel_rfl) (fun _ => ?_) (fun e => by cases e)
    refine .call ((opBytes_ok (h := (Heap.empty.push (.cells false t_Entry (entA 0 w tok k n q id vs vb vl vcs fb l fcs)))) (bor := false) (args := [.agg (aO w tok k n q id vs vb vl vcs fb l fcs)]) ho rfl).2 hr) (by kernel_rfl) ?_
    exact .retFT (t := (Heap.empty.push (.cells false t_Entry (entA 0 w tok k n q id vs vb vl vcs fb l fcs))).n) (g := 0) (push_n (Heap.empty.push (.cells false t_Entry (entA 0 w tok k n q id vs vb vl vcs fb l fcs))) _) (cleanL_bytes _) rfl (by kernel_rfl) (by kernel_rfl)
theorem rows0ss {h : Heap} {w tok k n q : Int} {id vs : List UInt8} {vb : Bool} {vl : List ValS} {vcs : List DV} {fb : Bool} {l : List ItemS} {fcs : List DV} (ho : OpR (oO w tok k n q id vs vl l) (dO w tok k n q id vs vb vl vcs fb l fcs)) :
    (rightO (oO w tok k n q id vs vl l) = false → Cal E f_replay_Rows [.agg (entA 0 w tok k n q id vs vb vl vcs fb l fcs)] h (.nrm, .tup [.nilsl, .d (.i .i64 2)], h)) ∧ (rightO (oO w tok k n q id vs vl l) = true → Cal E f_replay_Rows [.agg (entA 0 w tok k n q id vs vb vl vcs fb l fcs)] h (.nrm, .tup [.app h.n 0 (rowsO 0 (oO w tok k n q id vs vl l)).length (rowsD (rowsO 0 (oO w tok k n q id vs vl l))), .d (.i .i64 0)], h.push (.tok 0 t_s_uint8))) := by
  constructor
  · intro hr
    refine .w n_replay_Rows rfl (ds := [.agg (entD 0 w tok k n q id vs vb vl vcs fb l fcs)]) (bor := false) rfl ?_
    refine .callv (fun h => (rest0ss (h := h) ho).1 hr) (by kernel_rfl) ?_
    refine .br true (by kernel_rfl) (fun _ => ?_) (fun e => by cases e)
    exact .retT2 (fun _ => adopt1_nil ..) (fun _ => adopt1_d _ _ _ rfl) (by kernel_rfl)
  · intro hr
    have hk : (opB (oO w tok k n q id vs vl l)).length ≠ 0 := opB_ne hr
    have hlen := opB_le hr
    have hcut := rowsO_len 0 (oO w tok k n q id vs vl l)
    refine .w n_replay_Rows rfl (ds := [.agg (entD 0 w tok k n q id vs vb vl vcs fb l fcs)]) (bor := false) rfl ?_
    refine .call ((rest0ss (h := (Heap.empty.push (.cells false t_Entry (entA 0 w tok k n q id vs vb vl vcs fb l fcs)))) ho).2 hr) (by kernel_rfl) ?_
    refine .br false (by kernel_rfl) (fun e => by cases e) (fun _ => ?_)
    refine .call (ahead0ss (h := (ownH (Heap.empty.push (.cells false t_Entry (entA 0 w tok k n q id vs vb vl vcs fb l fcs))))) (w := w) (tok := tok) (k := k) (n := n) (q := q) (id := id) (vs := vs) (vb := vb) (vl := vl) (vcs := vcs) (fb := fb) (l := l) (fcs := fcs)) (by kernel_rfl) ?_
    have hs : SrcR ((ownH (Heap.empty.push (.cells false t_Entry (entA 0 w tok k n q id vs vb vl vcs fb l fcs)))).push (.cells false t_uint8 ((bytesD (aheadB 0)).map .d))) 1 (ownB (Heap.empty.push (.cells false t_Entry (entA 0 w tok k n q id vs vb vl vcs fb l fcs))) (opB (oO w tok k n q id vs vl l))) (opB (oO w tok k n q id vs vl l)).length (bytesD (opB (oO w tok k n q id vs vl l))) := rowView_bytes _
    refine .op (app_sref (bytes := 1) (n := 9) (push_n (ownH (Heap.empty.push (.cells false t_Entry (entA 0 w tok k n q id vs vb vl vcs fb l fcs)))) (.cells false t_uint8 ((bytesD (aheadB 0)).map .d))) rfl hs (by omega) (by omega) hk (okCells_bytes _)) (by kernel_rfl) ?_
    have hcu : Cal E f_batch_Cut [.sref ((ownH (Heap.empty.push (.cells false t_Entry (entA 0 w tok k n q id vs vb vl vcs fb l fcs)))).push (.cells false t_uint8 ((bytesD (aheadB 0)).map .d))).n 0 1 (9 + (opB (oO w tok k n q id vs vl l)).length) (9 + (opB (oO w tok k n q id vs vl l)).length) false] ((((ownH (Heap.empty.push (.cells false t_Entry (entA 0 w tok k n q id vs vb vl vcs fb l fcs)))).push (.cells false t_uint8 ((bytesD (aheadB 0)).map .d))).set (ownH (Heap.empty.push (.cells false t_Entry (entA 0 w tok k n q id vs vb vl vcs fb l fcs)))).n .dead).push (.cells false t_uint8 ((bytesD (aheadB 0)).map .d ++ (bytesD (opB (oO w tok k n q id vs vl l))).map .d))) (.nrm, .app ((((ownH (Heap.empty.push (.cells false t_Entry (entA 0 w tok k n q id vs vb vl vcs fb l fcs)))).push (.cells false t_uint8 ((bytesD (aheadB 0)).map .d))).set (ownH (Heap.empty.push (.cells false t_Entry (entA 0 w tok k n q id vs vb vl vcs fb l fcs)))).n .dead).push (.cells false t_uint8 ((bytesD (aheadB 0)).map .d ++ (bytesD (opB (oO w tok k n q id vs vl l))).map .d))).n 0 (rowsO 0 (oO w tok k n q id vs vl l)).length (rowsD (rowsO 0 (oO w tok k n q id vs vl l))), (((((ownH (Heap.empty.push (.cells false t_Entry (entA 0 w tok k n q id vs vb vl vcs fb l fcs)))).push (.cells false t_uint8 ((bytesD (aheadB 0)).map .d))).set (ownH (Heap.empty.push (.cells false t_Entry (entA 0 w tok k n q id vs vb vl vcs fb l fcs)))).n .dead).push (.cells false t_uint8 ((bytesD (aheadB 0)).map .d ++ (bytesD (opB (oO w tok k n q id vs vl l))).map .d))).push (.tok 0 t_s_uint8))) := by
      refine cut_ok (bor := true) (b := true) (bs := aheadB 0 ++ opB (oO w tok k n q id vs vl l)) (fun e => by cases e) (by rw [List.length_append]; show 9 + _ ≤ _; omega) ?_
      rw [List.length_append]
      exact strip_sref (fr := false) (e := t_uint8) (by rw [bytesD_append, List.map_append]; exact push_n (((ownH (Heap.empty.push (.cells false t_Entry (entA 0 w tok k n q id vs vb vl vcs fb l fcs)))).push (.cells false t_uint8 ((bytesD (aheadB 0)).map .d))).set (ownH (Heap.empty.push (.cells false t_Entry (entA 0 w tok k n q id vs vb vl vcs fb l fcs)))).n .dead) _) (by rw [List.length_append]; rfl)
    refine .call hcu (by kernel_rfl) ?_
    refine .br (iLt 1024 (.ofNat (rowsO 0 (oO w tok k n q id vs vl l)).length)) (by kernel_rfl) (fun e => ?_) (fun _ => ?_)
    · rw [iLt_iff] at e; simp only [Int.ofNat_eq_natCast] at e; omega
    exact .retFT (t := ((((ownH (Heap.empty.push (.cells false t_Entry (entA 0 w tok k n q id vs vb vl vcs fb l fcs)))).push (.cells false t_uint8 ((bytesD (aheadB 0)).map .d))).set (ownH (Heap.empty.push (.cells false t_Entry (entA 0 w tok k n q id vs vb vl vcs fb l fcs)))).n .dead).push (.cells false t_uint8 ((bytesD (aheadB 0)).map .d ++ (bytesD (opB (oO w tok k n q id vs vl l))).map .d))).n) (g := 0) (push_n ((((ownH (Heap.empty.push (.cells false t_Entry (entA 0 w tok k n q id vs vb vl vcs fb l fcs)))).push (.cells false t_uint8 ((bytesD (aheadB 0)).map .d))).set (ownH (Heap.empty.push (.cells false t_Entry (entA 0 w tok k n q id vs vb vl vcs fb l fcs)))).n .dead).push (.cells false t_uint8 ((bytesD (aheadB 0)).map .d ++ (bytesD (opB (oO w tok k n q id vs vl l))).map .d))) _) (cleanL_rows _) rfl (by kernel_rfl) (by kernel_rfl)
end
end Go.Proofs.YtjacnbabnpgpaaaGreatDoor
