/- Contracts: op.Bytes. -/
import Derived.Test.YtjacnbabnpgpaaaGreatDoorS
namespace Go.Proofs.YtjacnbabnpgpaaaGreatDoor
noncomputable section
open Go Go.Abs
set_option maxRecDepth 100000
theorem rightO_kind {o : OpS} (h : rightO o = true) : o.what = 1 ∨ o.what = 2 ∨ o.what = 3 ∨ o.what = 4 ∨ o.what = 5 := by
  unfold rightO at h
  split at h
  · exact .inl ‹_›
  split at h
  · exact .inr (.inl ‹_›)
  split at h
  · exact .inr (.inr (.inl ‹_›))
  split at h
  · exact .inr (.inr (.inr (.inl ‹_›)))
  split at h
  · exact .inr (.inr (.inr (.inr ‹_›)))
  · cases h
theorem opBytesss {h : Heap} {args : List AV} {bor : Bool} {w tok k n q : Int} {id vs : List UInt8} {vb : Bool} {vl : List ValS} {vcs : List DV} {fb : Bool} {l : List ItemS} {fcs : List DV} (ho : OpR (oO w tok k n q id vs vl l) (dO w tok k n q id vs vb vl vcs fb l fcs)) (hv : ValR (.mk k n vs vl) [.i .u8 k, .i .i64 n, .s vs, .sl vb vl.length vcs]) (hF : ItemsR l (.sl fb l.length fcs)) (htok : R64 tok) (hq : R64 q) (ha : stripArgs h args = some ([.agg (dO w tok k n q id vs vb vl vcs fb l fcs)], bor)) :
    (rightO (oO w tok k n q id vs vl l) = false → Cal E f_op_Bytes args h (.nrm, .tup [.nilsl, .d (.i .i64 2)], h)) ∧ (rightO (oO w tok k n q id vs vl l) = true → Cal E f_op_Bytes args h (.nrm, .tup [ownB h (opB (oO w tok k n q id vs vl l)), .d (.i .i64 0)], ownH h)) := by
  constructor
  · intro hr
    refine .w n_op_Bytes rfl ha ?_
    refine .callv (fun h => opRight_ok (h := h) (bor := false) (args := [.agg (aO w tok k n q id vs vb vl vcs fb l fcs)]) ho rfl) (by kernel_rfl) ?_
    refine .br (!rightO (oO w tok k n q id vs vl l)) (by kernel_rfl) (fun _ => ?_) (fun e => by rw [hr] at e; cases e)
    exact .retT2 (fun _ => adopt1_nil ..) (fun _ => adopt1_d _ _ _ rfl) (by kernel_rfl)
  · intro hr
    refine .w n_op_Bytes rfl ha ?_
    refine .callv (fun h => opRight_ok (h := h) (bor := false) (args := [.agg (aO w tok k n q id vs vb vl vcs fb l fcs)]) ho rfl) (by kernel_rfl) ?_
    refine .br (!rightO (oO w tok k n q id vs vl l)) (by kernel_rfl) (fun e => by rw [hr] at e; cases e) (fun _ => ?_)
    have hlen := opB_le hr
    have hkind : w = 1 ∨ w = 2 ∨ w = 3 ∨ w = 4 ∨ w = 5 := rightO_kind hr
    rcases hkind with rfl | rfl | rfl | rfl | rfl
    · have hb : opB (oO 1 tok k n q id vs vl l) = ([] : List UInt8) ++ numB 1 ++ fragB l ++ numB q := by simp [opB]
      rw [hb] at hlen ⊢
      have hw1 := numB_len 1
      have hid := textB_len id
      have htk := numB_len tok
      have hqk := numB_len q
      refine .callv (fun h => of_lit (h := h) (args := [.d (.i .u8 1)]) 3 rfl (by omega) (by omega) rfl) (by kernel_rfl) ?_
      refine .call (num_ok (h := (Heap.empty.push (.cells false t_Op (aO 1 tok k n q id vs vb vl vcs fb l fcs)))) (args := [.nilsl, .d (.i .i64 1)]) (bs := []) (L := .nsl) (n := 1) (bor := false) (.inl ⟨rfl, rfl⟩) (by omega) (by omega) (by simp) rfl) (by kernel_rfl) ?_
      refine .br false (by kernel_rfl) (fun e => by cases e) (fun _ => ?_)
      refine .br false (by kernel_rfl) (fun e => by cases e) (fun _ => ?_)
      refine .br false (by kernel_rfl) (fun e => by cases e) (fun _ => ?_)
      refine .br true (by kernel_rfl) (fun _ => ?_) (fun e => by cases e)
      refine .call (fragPut_ok (h := (ownH (Heap.empty.push (.cells false t_Op (aO 1 tok k n q id vs vb vl vcs fb l fcs))))) (args := [appB (Heap.empty.push (.cells false t_Op (aO 1 tok k n q id vs vb vl vcs fb l fcs))).n (([] : List UInt8) ++ numB 1), .d (.sl fb l.length fcs)]) (bs := ([] : List UInt8) ++ numB 1) (L := slB (([] : List UInt8) ++ numB 1)) (F := .sl fb l.length fcs) (l := l) (bor := false) (.inr ⟨false, rfl⟩) hF (by simp only [List.length_append, List.length_nil] at hlen ⊢; omega) rfl) (by kernel_rfl) ?_
      refine .br true (by kernel_rfl) (fun _ => ?_) (fun e => by cases e)
      refine .call (num_ok (h := (ownH (ownH (Heap.empty.push (.cells false t_Op (aO 1 tok k n q id vs vb vl vcs fb l fcs)))))) (args := [appB (ownH (Heap.empty.push (.cells false t_Op (aO 1 tok k n q id vs vb vl vcs fb l fcs)))).n (([] : List UInt8) ++ numB 1 ++ fragB l), .d (.i .i64 q)]) (bs := ([] : List UInt8) ++ numB 1 ++ fragB l) (L := slB (([] : List UInt8) ++ numB 1 ++ fragB l)) (n := q) (bor := false) (.inr ⟨false, rfl⟩) hq.1 hq.2 (by simp only [List.length_append, List.length_nil] at hlen ⊢; omega) rfl) (by kernel_rfl) ?_
      exact .retFT (t := (ownH (ownH (Heap.empty.push (.cells false t_Op (aO 1 tok k n q id vs vb vl vcs fb l fcs))))).n) (g := 0) (push_n (ownH (ownH (Heap.empty.push (.cells false t_Op (aO 1 tok k n q id vs vb vl vcs fb l fcs))))) _) (cleanL_bytes _) rfl (by kernel_rfl) (by kernel_rfl)
    · have hb : opB (oO 2 tok k n q id vs vl l) = ([] : List UInt8) ++ numB 2 ++ textB id := by simp [opB]
      rw [hb] at hlen ⊢
      have hw1 := numB_len 2
      have hid := textB_len id
      have htk := numB_len tok
      have hqk := numB_len q
      refine .callv (fun h => of_lit (h := h) (args := [.d (.i .u8 2)]) 4 rfl (by omega) (by omega) rfl) (by kernel_rfl) ?_
      refine .call (num_ok (h := (Heap.empty.push (.cells false t_Op (aO 2 tok k n q id vs vb vl vcs fb l fcs)))) (args := [.nilsl, .d (.i .i64 2)]) (bs := []) (L := .nsl) (n := 2) (bor := false) (.inl ⟨rfl, rfl⟩) (by omega) (by omega) (by simp) rfl) (by kernel_rfl) ?_
      refine .br true (by kernel_rfl) (fun _ => ?_) (fun e => by cases e)
      refine .call (text_ok (h := (ownH (Heap.empty.push (.cells false t_Op (aO 2 tok k n q id vs vb vl vcs fb l fcs))))) (args := [appB (Heap.empty.push (.cells false t_Op (aO 2 tok k n q id vs vb vl vcs fb l fcs))).n (([] : List UInt8) ++ numB 2), .d (.s id)]) (bs := ([] : List UInt8) ++ numB 2) (L := slB (([] : List UInt8) ++ numB 2)) (s := id) (bor := false) (.inr ⟨false, rfl⟩) (by simp only [List.length_append, List.length_nil] at hlen ⊢; omega) rfl) (by kernel_rfl) ?_
      refine .br false (by kernel_rfl) (fun e => by cases e) (fun _ => ?_)
      refine .br false (by kernel_rfl) (fun e => by cases e) (fun _ => ?_)
      refine .br false (by kernel_rfl) (fun e => by cases e) (fun _ => ?_)
      refine .br false (by kernel_rfl) (fun e => by cases e) (fun _ => ?_)
      exact .retFT (t := (ownH (Heap.empty.push (.cells false t_Op (aO 2 tok k n q id vs vb vl vcs fb l fcs)))).n) (g := 0) (push_n (ownH (Heap.empty.push (.cells false t_Op (aO 2 tok k n q id vs vb vl vcs fb l fcs)))) _) (cleanL_bytes _) rfl (by kernel_rfl) (by kernel_rfl)
    · have hb : opB (oO 3 tok k n q id vs vl l) = ([] : List UInt8) ++ numB 3 ++ textB id ++ numB tok ++ valB (.mk k n vs vl) ++ fragB l := by simp [opB]
      rw [hb] at hlen ⊢
      have hw1 := numB_len 3
      have hid := textB_len id
      have htk := numB_len tok
      have hqk := numB_len q
      refine .callv (fun h => of_lit (h := h) (args := [.d (.i .u8 3)]) 29 rfl (by omega) (by omega) rfl) (by kernel_rfl) ?_
      refine .call (num_ok (h := (Heap.empty.push (.cells false t_Op (aO 3 tok k n q id vs vb vl vcs fb l fcs)))) (args := [.nilsl, .d (.i .i64 3)]) (bs := []) (L := .nsl) (n := 3) (bor := false) (.inl ⟨rfl, rfl⟩) (by omega) (by omega) (by simp) rfl) (by kernel_rfl) ?_
      refine .br true (by kernel_rfl) (fun _ => ?_) (fun e => by cases e)
      refine .call (text_ok (h := (ownH (Heap.empty.push (.cells false t_Op (aO 3 tok k n q id vs vb vl vcs fb l fcs))))) (args := [appB (Heap.empty.push (.cells false t_Op (aO 3 tok k n q id vs vb vl vcs fb l fcs))).n (([] : List UInt8) ++ numB 3), .d (.s id)]) (bs := ([] : List UInt8) ++ numB 3) (L := slB (([] : List UInt8) ++ numB 3)) (s := id) (bor := false) (.inr ⟨false, rfl⟩) (by simp only [List.length_append, List.length_nil] at hlen ⊢; omega) rfl) (by kernel_rfl) ?_
      refine .br true (by kernel_rfl) (fun _ => ?_) (fun e => by cases e)
      refine .call (num_ok (h := (ownH (ownH (Heap.empty.push (.cells false t_Op (aO 3 tok k n q id vs vb vl vcs fb l fcs)))))) (args := [appB (ownH (Heap.empty.push (.cells false t_Op (aO 3 tok k n q id vs vb vl vcs fb l fcs)))).n (([] : List UInt8) ++ numB 3 ++ textB id), .d (.i .i64 tok)]) (bs := ([] : List UInt8) ++ numB 3 ++ textB id) (L := slB (([] : List UInt8) ++ numB 3 ++ textB id)) (n := tok) (bor := false) (.inr ⟨false, rfl⟩) htok.1 htok.2 (by simp only [List.length_append, List.length_nil] at hlen ⊢; omega) rfl) (by kernel_rfl) ?_
      refine .br true (by kernel_rfl) (fun _ => ?_) (fun e => by cases e)
      refine .call (putR_ok hv (ownH (ownH (ownH (Heap.empty.push (.cells false t_Op (aO 3 tok k n q id vs vb vl vcs fb l fcs)))))) [appB (ownH (ownH (Heap.empty.push (.cells false t_Op (aO 3 tok k n q id vs vb vl vcs fb l fcs))))).n (([] : List UInt8) ++ numB 3 ++ textB id ++ numB tok), .agg [.d (.i .u8 k), .d (.i .i64 n), .d (.s vs), .d (.sl vb vl.length vcs)]] false (([] : List UInt8) ++ numB 3 ++ textB id ++ numB tok) (slB (([] : List UInt8) ++ numB 3 ++ textB id ++ numB tok)) (.inr ⟨false, rfl⟩) (by simp only [List.length_append, List.length_nil] at hlen ⊢; omega) rfl) (by kernel_rfl) ?_
      refine .br true (by kernel_rfl) (fun _ => ?_) (fun e => by cases e)
      refine .call (fragPut_ok (h := (ownH (ownH (ownH (ownH (Heap.empty.push (.cells false t_Op (aO 3 tok k n q id vs vb vl vcs fb l fcs)))))))) (args := [appB (ownH (ownH (ownH (Heap.empty.push (.cells false t_Op (aO 3 tok k n q id vs vb vl vcs fb l fcs)))))).n (([] : List UInt8) ++ numB 3 ++ textB id ++ numB tok ++ valB (.mk k n vs vl)), .d (.sl fb l.length fcs)]) (bs := ([] : List UInt8) ++ numB 3 ++ textB id ++ numB tok ++ valB (.mk k n vs vl)) (L := slB (([] : List UInt8) ++ numB 3 ++ textB id ++ numB tok ++ valB (.mk k n vs vl))) (F := .sl fb l.length fcs) (l := l) (bor := false) (.inr ⟨false, rfl⟩) hF (by simp only [List.length_append, List.length_nil] at hlen ⊢; omega) rfl) (by kernel_rfl) ?_
      refine .br false (by kernel_rfl) (fun e => by cases e) (fun _ => ?_)
      exact .retFT (t := (ownH (ownH (ownH (ownH (Heap.empty.push (.cells false t_Op (aO 3 tok k n q id vs vb vl vcs fb l fcs))))))).n) (g := 0) (push_n (ownH (ownH (ownH (ownH (Heap.empty.push (.cells false t_Op (aO 3 tok k n q id vs vb vl vcs fb l fcs))))))) _) (cleanL_bytes _) rfl (by kernel_rfl) (by kernel_rfl)
    · have hb : opB (oO 4 tok k n q id vs vl l) = ([] : List UInt8) ++ numB 4 ++ textB id ++ numB tok := by simp [opB]
      rw [hb] at hlen ⊢
      have hw1 := numB_len 4
      have hid := textB_len id
      have htk := numB_len tok
      have hqk := numB_len q
      refine .callv (fun h => of_lit (h := h) (args := [.d (.i .u8 4)]) 12 rfl (by omega) (by omega) rfl) (by kernel_rfl) ?_
      refine .call (num_ok (h := (Heap.empty.push (.cells false t_Op (aO 4 tok k n q id vs vb vl vcs fb l fcs)))) (args := [.nilsl, .d (.i .i64 4)]) (bs := []) (L := .nsl) (n := 4) (bor := false) (.inl ⟨rfl, rfl⟩) (by omega) (by omega) (by simp) rfl) (by kernel_rfl) ?_
      refine .br true (by kernel_rfl) (fun _ => ?_) (fun e => by cases e)
      refine .call (text_ok (h := (ownH (Heap.empty.push (.cells false t_Op (aO 4 tok k n q id vs vb vl vcs fb l fcs))))) (args := [appB (Heap.empty.push (.cells false t_Op (aO 4 tok k n q id vs vb vl vcs fb l fcs))).n (([] : List UInt8) ++ numB 4), .d (.s id)]) (bs := ([] : List UInt8) ++ numB 4) (L := slB (([] : List UInt8) ++ numB 4)) (s := id) (bor := false) (.inr ⟨false, rfl⟩) (by simp only [List.length_append, List.length_nil] at hlen ⊢; omega) rfl) (by kernel_rfl) ?_
      refine .br true (by kernel_rfl) (fun _ => ?_) (fun e => by cases e)
      refine .call (num_ok (h := (ownH (ownH (Heap.empty.push (.cells false t_Op (aO 4 tok k n q id vs vb vl vcs fb l fcs)))))) (args := [appB (ownH (Heap.empty.push (.cells false t_Op (aO 4 tok k n q id vs vb vl vcs fb l fcs)))).n (([] : List UInt8) ++ numB 4 ++ textB id), .d (.i .i64 tok)]) (bs := ([] : List UInt8) ++ numB 4 ++ textB id) (L := slB (([] : List UInt8) ++ numB 4 ++ textB id)) (n := tok) (bor := false) (.inr ⟨false, rfl⟩) htok.1 htok.2 (by simp only [List.length_append, List.length_nil] at hlen ⊢; omega) rfl) (by kernel_rfl) ?_
      refine .br false (by kernel_rfl) (fun e => by cases e) (fun _ => ?_)
      refine .br false (by kernel_rfl) (fun e => by cases e) (fun _ => ?_)
      refine .br false (by kernel_rfl) (fun e => by cases e) (fun _ => ?_)
      exact .retFT (t := (ownH (ownH (Heap.empty.push (.cells false t_Op (aO 4 tok k n q id vs vb vl vcs fb l fcs))))).n) (g := 0) (push_n (ownH (ownH (Heap.empty.push (.cells false t_Op (aO 4 tok k n q id vs vb vl vcs fb l fcs))))) _) (cleanL_bytes _) rfl (by kernel_rfl) (by kernel_rfl)
    · have hb : opB (oO 5 tok k n q id vs vl l) = ([] : List UInt8) ++ numB 5 ++ textB id := by simp [opB]
      rw [hb] at hlen ⊢
      have hw1 := numB_len 5
      have hid := textB_len id
      have htk := numB_len tok
      have hqk := numB_len q
      refine .callv (fun h => of_lit (h := h) (args := [.d (.i .u8 5)]) 4 rfl (by omega) (by omega) rfl) (by kernel_rfl) ?_
      refine .call (num_ok (h := (Heap.empty.push (.cells false t_Op (aO 5 tok k n q id vs vb vl vcs fb l fcs)))) (args := [.nilsl, .d (.i .i64 5)]) (bs := []) (L := .nsl) (n := 5) (bor := false) (.inl ⟨rfl, rfl⟩) (by omega) (by omega) (by simp) rfl) (by kernel_rfl) ?_
      refine .br true (by kernel_rfl) (fun _ => ?_) (fun e => by cases e)
      refine .call (text_ok (h := (ownH (Heap.empty.push (.cells false t_Op (aO 5 tok k n q id vs vb vl vcs fb l fcs))))) (args := [appB (Heap.empty.push (.cells false t_Op (aO 5 tok k n q id vs vb vl vcs fb l fcs))).n (([] : List UInt8) ++ numB 5), .d (.s id)]) (bs := ([] : List UInt8) ++ numB 5) (L := slB (([] : List UInt8) ++ numB 5)) (s := id) (bor := false) (.inr ⟨false, rfl⟩) (by simp only [List.length_append, List.length_nil] at hlen ⊢; omega) rfl) (by kernel_rfl) ?_
      refine .br false (by kernel_rfl) (fun e => by cases e) (fun _ => ?_)
      refine .br false (by kernel_rfl) (fun e => by cases e) (fun _ => ?_)
      refine .br false (by kernel_rfl) (fun e => by cases e) (fun _ => ?_)
      refine .br false (by kernel_rfl) (fun e => by cases e) (fun _ => ?_)
      exact .retFT (t := (ownH (Heap.empty.push (.cells false t_Op (aO 5 tok k n q id vs vb vl vcs fb l fcs)))).n) (g := 0) (push_n (ownH (Heap.empty.push (.cells false t_Op (aO 5 tok k n q id vs vb vl vcs fb l fcs)))) _) (cleanL_bytes _) rfl (by kernel_rfl) (by kernel_rfl)
theorem opBytes_ok {h : Heap} {args : List AV} {bor : Bool} {o : OpS} {cs : List DV} (ho : OpR o cs) (ha : stripArgs h args = some ([.agg cs], bor)) :
    (rightO o = false → Cal E f_op_Bytes args h (.nrm, .tup [.nilsl, .d (.i .i64 2)], h)) ∧ (rightO o = true → Cal E f_op_Bytes args h (.nrm, .tup [ownB h (opB o), .d (.i .i64 0)], ownH h)) := by
  obtain ⟨w, id, tok, v, l, q⟩ := o
  have ho' := ho
  obtain ⟨vcs, F, rfl, hv, hF, hw, htok, hq⟩ := ho'
  cases hv with
  | sl k n vs vl vb vcs hl2 hcs hkn =>
  rcases hF with ⟨⟨rfl, hx⟩ | ⟨fb, fcs, rfl, hF1, hF2⟩, hne⟩
  · exact absurd rfl hne
  · exact opBytesss ho (.sl k n vs vl vb vcs hl2 hcs hkn) (.inr ⟨fb, fcs, rfl, hF1, hF2⟩) htok hq ha
end
end Go.Proofs.YtjacnbabnpgpaaaGreatDoor
