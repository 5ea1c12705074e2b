/- Contracts: bound.Long. -/
import Derived.Test.YtjacnbabnpgpaaaGreatDoorO
namespace Go.Proofs.YtjacnbabnpgpaaaGreatDoor
noncomputable section
open Go Go.Abs
set_option maxRecDepth 100000
theorem cutF_le : ∀ k bs, ∀ r ∈ cutF k bs, r.length ≤ 4096 := by
  intro k
  induction k with
  | zero => intro bs r hr; cases hr
  | succ k ih =>
    intro bs r hr
    unfold cutF at hr
    split at hr
    · cases hr
    · rcases List.mem_cons.1 hr with rfl | hr
      · rw [List.length_take]; omega
      · exact ih _ r hr
def sumL : List (List UInt8) → Nat
  | [] => 0
  | r :: l => r.length + sumL l
theorem sumL_append : ∀ a b, sumL (a ++ b) = sumL a + sumL b
  | [], b => by simp [sumL]
  | r :: a, b => by
    show r.length + sumL (a ++ b) = r.length + sumL a + sumL b
    rw [sumL_append a b]; omega
theorem cutF_sum : ∀ k bs, bs.length ≤ k → sumL (cutF k bs) = bs.length := by
  intro k
  induction k with
  | zero => intro bs h; rw [List.length_eq_zero_iff.1 (Nat.le_zero.1 h)]; rfl
  | succ k ih =>
    intro bs h
    unfold cutF
    by_cases hn : bs = []
    · rw [if_pos hn, hn]; rfl
    · have h0 : bs.length ≠ 0 := fun e => hn (List.length_eq_zero_iff.1 e)
      rw [if_neg hn]
      show (bs.take 4096).length + sumL (cutF k (bs.drop 4096)) = _
      rw [ih _ (by rw [List.length_drop]; omega), List.length_drop, List.length_take]
      omega
structure Rows (rows : List (List UInt8)) : Prop where
  n0 : rows.length ≠ 0
  n1 : rows.length ≤ 1024
  le : ∀ r ∈ rows, r.length ≤ 4096
theorem long1_ok {h : Heap} {b : Bool} {n : Nat} {cs : List DV} : Cal E f_batch_wrong_1 [.d (.sl b n cs)] h (.nrm, .d (.b (iLt 4096 (.ofNat n))), h) := by
  refine .w n_batch_wrong_1 rfl (ds := [.sl b n cs]) (bor := false) rfl ?_
  exact .ret rfl (by kernel_rfl)
theorem wrong_ok {h : Heap} {args : List AV} {bor b : Bool} {rows : List (List UInt8)} (hr : Rows rows) (ha : stripArgs h args = some ([.sl b rows.length (rowsD rows)], bor)) : Cal E f_batch_wrong args h (.nrm, .d (.i .i64 0), h) := by
  obtain ⟨h0, h1, hle⟩ := hr
  refine .w n_batch_wrong rfl ha ?_
  refine .br (iEq (.ofNat rows.length) 0) (by kernel_rfl) (fun e => ?_) (fun _ => ?_)
  · rw [iEq_iff] at e; simp only [Int.ofNat_eq_natCast] at e; omega
  refine .br (iLt 1024 (.ofNat rows.length)) (by kernel_rfl) (fun e => ?_) (fun _ => ?_)
  · rw [iLt_iff] at e; simp only [Int.ofNat_eq_natCast] at e; omega
  have hc : ∀ h, Cal E f_slices_ContainsFunc_bytes [.d (.sl b rows.length (rowsD rows)), .d (.fn (.func f_batch_wrong_1) [] [])] h (.nrm, .d (.b false), h) := fun h => by
    have := cont_bytes (h := h) (b := b) (n := rows.length) (cs := rowsD rows) (g := f_batch_wrong_1) (q := fun i => iLt 4096 (.ofNat (rows.getD i []).length)) (args := [.d (.sl b rows.length (rowsD rows)), .d (.fn (.func f_batch_wrong_1) [] [])]) (bor := false) rfl (by rw [rowsD_length, Nat.mul_one]) (by omega) (fun i hi h => by
      have e : (rowsD rows).getD i .nsl = rowD (rows.getD i []) := by
        rw [List.getD_eq_getElem?_getD, List.getD_eq_getElem?_getD, List.getElem?_eq_getElem hi]
        unfold rowsD
        rw [List.getElem?_map, List.getElem?_eq_getElem hi]; rfl
      rw [e]
      exact long1_ok)
    rwa [decide_eq_true (fun j hj => by
      rw [iLt_not]
      have : rows.getD j [] ∈ rows := by
        rw [List.getD_eq_getElem?_getD, List.getElem?_eq_getElem hj]; exact List.getElem_mem hj
      have := hle _ this
      simp only [Int.ofNat_eq_natCast]; omega)] at this
  refine .callv hc (by kernel_rfl) ?_
  refine .br false (by kernel_rfl) (fun e => by cases e) (fun _ => ?_)
  exact .ret rfl (by kernel_rfl)
theorem recLong_ok {h : Heap} {n : Nat} (hn : n ≤ 4096) : Cal E f_rec_Long [.d (.i .i64 (.ofNat n))] h (.nrm, .d (.i .i64 (.ofNat (9 + n))), h) := by
  refine .w n_rec_Long rfl (ds := [.i .i64 (.ofNat n)]) (bor := false) rfl ?_
  refine .br (iLt (.ofNat n) 0) (by kernel_rfl) (fun e => ?_) (fun _ => ?_)
  · rw [iLt_iff] at e; simp only [Int.ofNat_eq_natCast] at e; omega
  refine .br (iLt 4096 (.ofNat n)) (by kernel_rfl) (fun e => ?_) (fun _ => ?_)
  · rw [iLt_iff] at e; simp only [Int.ofNat_eq_natCast] at e; omega
  refine .retI (wrap .i64 (9 + .ofNat n)) (by kernel_rfl) ?_
  rw [wrap64 (by simp only [Int.ofNat_eq_natCast]; omega) (by simp only [Int.ofNat_eq_natCast]; omega)]
  simp only [Int.ofNat_eq_natCast]; omega
def longR (rows : List (List UInt8)) : Nat := 11 + 9 * rows.length + sumL rows
theorem sumL_le {rows : List (List UInt8)} (h : ∀ r ∈ rows, r.length ≤ 4096) : sumL rows ≤ 4096 * rows.length := by
  induction rows with
  | nil => exact Nat.le_refl _
  | cons r l ih =>
    have := h r (List.mem_cons_self ..)
    have := ih fun r hr => h r (List.mem_cons_of_mem _ hr)
    show r.length + sumL l ≤ 4096 * (l.length + 1)
    omega
theorem batchLong_ok {h : Heap} {args : List AV} {bor b : Bool} {rows : List (List UInt8)} (hr : Rows rows) (ha : stripArgs h args = some ([.sl b rows.length (rowsD rows)], bor)) : Cal E f_batch_Long args h (.nrm, .tup [.d (.i .i64 (.ofNat (longR rows))), .d (.i .i64 0)], h) := by
  refine .w n_batch_Long rfl ha ?_
  refine .callv (fun h => wrong_ok (h := h) (b := b) (bor := false) (args := [.d (.sl b rows.length (rowsD rows))]) hr rfl) (by kernel_rfl) ?_
  refine .br false (by kernel_rfl) (fun e => by cases e) (fun _ => ?_)
  refine .callv (fun h => recLong_ok (h := h) (n := 2) (by omega)) (by kernel_rfl) ?_
  obtain ⟨h0, h1, hle⟩ := hr
  refine .loop false (fun m tm h => ∃ i, i + m = rows.length ∧ St 27 [(5, .d (.i .i64 (.ofNat (11 + 9 * i + sumL (rows.take i))))), (14, .d (.sl b rows.length (rowsD rows))), (15, mkI rows.length), (16, mkI i)] tm) rows.length (by kernel_rfl)
    ⟨0, by omega, .of (by kernel_rfl) ⟨by kernel_rfl, by kernel_rfl, by kernel_rfl, by kernel_rfl, trivial⟩⟩ ?_
  rintro m tm h' ⟨i, him, g', rfl⟩
  have hle2 : sumL (rows.take i) ≤ 4096 * (rows.take i).length := sumL_le fun r hr => hle r (List.mem_of_mem_take hr)
  rw [List.length_take] at hle2
  refine .br (iLt (.ofNat i) (.ofNat rows.length)) (by kernel_rfl) (fun e => ?_) (fun e => ?_)
  · have hi : i < rows.length := by rw [iLt_iff] at e; simpa using e
    obtain ⟨m, rfl⟩ : ∃ k, m = k + 1 := ⟨m - 1, by omega⟩
    refine .opv (iaS_sl (k := .i64) (z := 1) (b := b) (n := rows.length) (cs := rowsD rows) (j := i) rfl hi) (by kernel_rfl) ?_
    refine .opv (load_bx1 E (b := b) (cs := rowsD rows) (j := i) (x := rowD rows[i]) (by unfold rowsD; rw [List.getElem?_map, List.getElem?_eq_getElem hi]; rfl)) (by kernel_rfl) ?_
    have hr := hle rows[i] (List.getElem_mem hi)
    refine .callv (fun h => recLong_ok (h := h) (n := rows[i].length) hr) (by kernel_rfl) ?_
    have hs : sumL (rows.take (i + 1)) = sumL (rows.take i) + rows[i].length := by
      rw [List.take_add_one, List.getElem?_eq_getElem hi, sumL_append]; rfl
    refine .next m (by kernel_rfl) (by omega) ⟨i + 1, by omega, .of (by kernel_rfl) ⟨?_, by kernel_rfl, by kernel_rfl, ?_, trivial⟩⟩
    · refine Eq.trans (b := .d (.i .i64 (wrap .i64 (.ofNat (11 + 9 * i + sumL (rows.take i)) + .ofNat (9 + rows[i].length))))) (by kernel_rfl) ?_
      rw [wrap64 (by simp only [Int.ofNat_eq_natCast]; omega) (by simp only [Int.ofNat_eq_natCast]; omega), hs]
      congr 2
      simp only [Int.ofNat_eq_natCast]; omega
    · exact Eq.trans (b := .d (.i .i64 (wrap .i64 (.ofNat i + 1)))) (by kernel_rfl) (by rw [wrap64 (by simp only [Int.ofNat_eq_natCast]; omega) (by simp only [Int.ofNat_eq_natCast]; omega)]; rfl)
  · have : m = 0 := by rw [iLt_not] at e; simp only [Int.ofNat_eq_natCast] at e; omega
    subst this
    refine .out false 1 (by kernel_rfl) ?_
    have hin : i = rows.length := by omega
    subst hin
    refine .retT2 (a := .d (.i .i64 (.ofNat (longR rows)))) (fun _ => adopt1_d _ _ _ rfl) (fun _ => adopt1_d _ _ _ rfl) ?_
    unfold longR
    rw [List.take_length]
    kernel_rfl
theorem rowsO_rows {ep : UInt8} {o : OpS} (hlen : (opB o).length ≤ 4000000) : Rows (rowsO ep o) := by
  have := rowsO_len ep o
  refine ⟨by omega, by omega, ?_⟩
  intro r hr
  exact cutF_le _ _ r hr
def longO (o : OpS) : Nat := 20 + 9 * (((opB o).length + 4104) / 4096) + (opB o).length
theorem longR_rowsO {ep : UInt8} {o : OpS} : longR (rowsO ep o) = longO o := by
  unfold longR longO
  rw [rowsO_len]
  have : sumL (rowsO ep o) = 9 + (opB o).length := by
    unfold rowsO cutB
    rw [cutF_sum _ _ (Nat.le_refl _), List.length_append]; rfl
  rw [this]; omega
theorem blongss {h : Heap} {args : List AV} {bor : Bool} {w tok k n q : Int} {id vs : List UInt8} {vb : Bool} {vl : List ValS} {vcs : List DV} {fb : Bool} {l : List ItemS} {fcs : List DV} (ho : OpR (oO w tok k n q id vs vl l) (dO w tok k n q id vs vb vl vcs fb l fcs)) (ha : stripArgs h args = some ([.agg (dO w tok k n q id vs vb vl vcs fb l fcs)], bor)) :
    (rightO (oO w tok k n q id vs vl l) = false → Cal E f_bound_Long args h (.nrm, .tup [.d (.i .i64 0), .d (.i .i64 2)], h)) ∧ (rightO (oO w tok k n q id vs vl l) = true → Cal E f_bound_Long args h (.nrm, .tup [.d (.i .i64 (.ofNat (longO (oO w tok k n q id vs vl l)))), .d (.i .i64 0)], h)) := by
  constructor
  · intro hr
    refine .w n_bound_Long rfl ha ?_
    refine .callv (fun h => (rows0ss (h := h) ho).1 hr) (by kernel_rfl) ?_
    refine .br true (by kernel_rfl) (fun _ => ?_) (fun e => by cases e)
    exact .retT2 (fun _ => adopt1_d _ _ _ rfl) (fun _ => adopt1_d _ _ _ rfl) (by kernel_rfl)
  · intro hr
    refine .w n_bound_Long rfl ha ?_
    refine .call ((rows0ss (h := (Heap.empty.push (.cells false t_Op (aO w tok k n q id vs vb vl vcs fb l fcs)))) ho).2 hr) (by kernel_rfl) ?_
    refine .br false (by kernel_rfl) (fun e => by cases e) (fun _ => ?_)
    refine .callv (fun h => batchLong_ok (h := h) (b := false) (bor := false) (rows := rowsO 0 (oO w tok k n q id vs vl l)) (args := [.app (Heap.empty.push (.cells false t_Op (aO w tok k n q id vs vb vl vcs fb l fcs))).n 0 (rowsO 0 (oO w tok k n q id vs vl l)).length (rowsD (rowsO 0 (oO w tok k n q id vs vl l)))]) (rowsO_rows (Nat.le_trans (opB_le hr) (by decide))) rfl) (by kernel_rfl) ?_
    rw [longR_rowsO]
    exact .retT2 (fun _ => adopt1_d _ _ _ rfl) (fun _ => adopt1_d _ _ _ rfl) (by kernel_rfl)
theorem boundLong_ok {h : Heap} {args : List AV} {bor : Bool} {o : OpS} {cs : List DV} (ho : OpR o cs) (ha : stripArgs h args = some ([.agg cs], bor)) :
    (rightO o = false → Cal E f_bound_Long args h (.nrm, .tup [.d (.i .i64 0), .d (.i .i64 2)], h)) ∧ (rightO o = true → Cal E f_bound_Long args h (.nrm, .tup [.d (.i .i64 (.ofNat (longO o))), .d (.i .i64 0)], h)) := by
  obtain ⟨w, id, tok, v, l, q⟩ := o
  have ho' := ho
  obtain ⟨vcs, F, rfl, hv, hF, _⟩ := ho'
  cases hv with
  | sl k n vs vl vb vcs hl2 hcs hkn =>
  rcases hF with ⟨⟨rfl, hx⟩ | ⟨fb, fcs, rfl, hF1, hF2⟩, hne⟩
  · exact absurd rfl hne
  · exact blongss ho ha
end
end Go.Proofs.YtjacnbabnpgpaaaGreatDoor
