/- Contracts: value.Put. -/
import Derived.Test.YtjacnbabnpgpaaaGreatDoorK
namespace Go.Proofs.YtjacnbabnpgpaaaGreatDoor
noncomputable section
open Go Go.Abs
set_option maxRecDepth 100000
mutual
def valB : ValS → List UInt8
  | .mk k n s l => numB k ++ (if k = 0 then numB n else if k = 1 then textB s else numB (.ofNat l.length) ++ valsB l)
def valsB : List ValS → List UInt8
  | [] => []
  | v :: l => valB v ++ valsB l
end
theorem valsB_append : ∀ a b : List ValS, valsB (a ++ b) = valsB a ++ valsB b
  | [], _ => rfl
  | v :: a, b => by
    show valB v ++ valsB (a ++ b) = (valB v ++ valsB a) ++ valsB b
    rw [valsB_append a b, List.append_assoc]
theorem valB_pos (v : ValS) : 1 ≤ (valB v).length := by
  cases v with
  | mk k n s l =>
    unfold valB
    have := (numB_len k).1
    rw [List.length_append]; omega
theorem valsB_len : ∀ l : List ValS, l.length ≤ (valsB l).length
  | [] => Nat.le_refl _
  | v :: l => by
    have := valB_pos v
    have := valsB_len l
    show l.length + 1 ≤ (valB v ++ valsB l).length
    rw [List.length_append]; omega
theorem wrap_R8 {k : Int} (h : R8 k) : wrap .i64 k = k := wrap64 (by have := h.1; omega) (by have := h.2; omega)
def PutAt (v : ValS) (cs : List DV) : Prop := ∀ (h : Heap) (args : List AV) (bor : Bool) (bs : List UInt8) (L : DV), BytR bs L → (bs ++ valB v).length ≤ 70000000000000 → stripArgs h args = some ([L, .agg cs], bor) → Cal E f_value_Put args h (.nrm, ownB h (bs ++ valB v), ownH h)
theorem put0S {h : Heap} {args : List AV} {bor : Bool} {k n : Int} {s : List UInt8} {vb : Bool} {l : List ValS} {vcs : List DV} (hl : vcs.length = l.length * 4) (hcs : ∀ i (hi : i < l.length), ValR l[i] (chunk vcs 4 i)) (ih : ∀ i (hi : i < l.length), PutAt l[i] (chunk vcs 4 i)) (hkn : R8 k ∧ R64 n) (hlen : (([] : List UInt8) ++ valB (.mk k n s l)).length ≤ 70000000000000) (ha : stripArgs h args = some ([.nsl, .agg [.i .u8 k, .i .i64 n, .s s, .sl vb l.length vcs]], bor)) : Cal E f_value_Put args h (.nrm, ownB h (([] : List UInt8) ++ valB (.mk k n s l)), ownH h) := by
  obtain ⟨⟨hk0, hk1⟩, hn0, hn1⟩ := hkn
  have hw : wrap .i64 k = k := wrap_R8 ⟨hk0, hk1⟩
  have hkl := numB_len k
  have hlen0 := hlen
  rw [List.length_append] at hlen
  have hvl : (valB (.mk k n s l)).length = (numB k).length + (if k = 0 then numB n else if k = 1 then textB s else numB (.ofNat (l).length) ++ valsB l).length := by rw [valB, List.length_append]
  refine .w n_value_Put rfl ha ?_
  have hN : Cal E f_wire_Num [.nilsl, .d (.i .i64 (wrap .i64 k))] (Heap.empty.push (.cells false t_Value [.d (.i .u8 k), .d (.i .i64 n), .d (.s s), .d (.sl vb l.length vcs)])) (.nrm, ownB (Heap.empty.push (.cells false t_Value [.d (.i .u8 k), .d (.i .i64 n), .d (.s s), .d (.sl vb l.length vcs)])) (([] : List UInt8) ++ numB k), ownH (Heap.empty.push (.cells false t_Value [.d (.i .u8 k), .d (.i .i64 n), .d (.s s), .d (.sl vb l.length vcs)]))) := by
    rw [hw]; exact num_ok (bs := ([] : List UInt8)) (L := .nsl) (bor := false) (.inl ⟨rfl, rfl⟩) (by omega) (by omega) (by omega) rfl
  refine .call hN (by kernel_rfl) ?_
  refine .br (iEq k 0) (by kernel_rfl) (fun e => ?_) (fun e0 => ?_)
  · rw [iEq_iff] at e
    rw [if_pos e] at hvl
    refine .call (num_ok (h := ownH (Heap.empty.push (.cells false t_Value [.d (.i .u8 k), .d (.i .i64 n), .d (.s s), .d (.sl vb l.length vcs)]))) (args := [appB (Heap.empty.push (.cells false t_Value [.d (.i .u8 k), .d (.i .i64 n), .d (.s s), .d (.sl vb l.length vcs)])).n (([] : List UInt8) ++ numB k), .d (.i .i64 n)]) (bs := (([] : List UInt8) ++ numB k)) (L := slB (([] : List UInt8) ++ numB k)) (n := n) (bor := false) (.inr ⟨false, rfl⟩) hn0 hn1 (by rw [List.length_append]; omega) rfl) (by kernel_rfl) ?_
    rw [show valB (.mk k n s l) = numB k ++ numB n by rw [valB, if_pos e], ← List.append_assoc]
    exact .retF (t := (ownH (Heap.empty.push (.cells false t_Value [.d (.i .u8 k), .d (.i .i64 n), .d (.s s), .d (.sl vb l.length vcs)]))).n) (g := 0) (push_n (ownH (Heap.empty.push (.cells false t_Value [.d (.i .u8 k), .d (.i .i64 n), .d (.s s), .d (.sl vb l.length vcs)]))) _) (cleanL_bytes _) (by kernel_rfl) (by kernel_rfl)
  rw [iEq_not] at e0
  refine .br (iEq k 1) (by kernel_rfl) (fun e => ?_) (fun e1 => ?_)
  · rw [iEq_iff] at e
    have hv : valB (.mk k n s l) = numB k ++ textB s := by rw [valB, if_neg e0, if_pos e]
    have hs : s.length ≤ (textB s).length := by unfold textB; rw [List.length_append]; omega
    rw [if_neg e0, if_pos e] at hvl
    refine .call (text_ok (h := ownH (Heap.empty.push (.cells false t_Value [.d (.i .u8 k), .d (.i .i64 n), .d (.s s), .d (.sl vb l.length vcs)]))) (args := [appB (Heap.empty.push (.cells false t_Value [.d (.i .u8 k), .d (.i .i64 n), .d (.s s), .d (.sl vb l.length vcs)])).n (([] : List UInt8) ++ numB k), .d (.s s)]) (bs := (([] : List UInt8) ++ numB k)) (L := slB (([] : List UInt8) ++ numB k)) (s := s) (bor := false) (.inr ⟨false, rfl⟩) (by rw [List.length_append]; omega) rfl) (by kernel_rfl) ?_
    rw [hv, ← List.append_assoc]
    exact .retF (t := (ownH (Heap.empty.push (.cells false t_Value [.d (.i .u8 k), .d (.i .i64 n), .d (.s s), .d (.sl vb l.length vcs)]))).n) (g := 0) (push_n (ownH (Heap.empty.push (.cells false t_Value [.d (.i .u8 k), .d (.i .i64 n), .d (.s s), .d (.sl vb l.length vcs)]))) _) (cleanL_bytes _) (by kernel_rfl) (by kernel_rfl)
  rw [iEq_not] at e1
  have hv : valB (.mk k n s l) = numB k ++ (numB (.ofNat (l).length) ++ valsB l) := by rw [valB, if_neg e0, if_neg e1]
  rw [if_neg e0, if_neg e1, List.length_append] at hvl
  have hll := numB_len (.ofNat (l).length)
  have hln := valsB_len l
  refine .call (num_ok (h := ownH (Heap.empty.push (.cells false t_Value [.d (.i .u8 k), .d (.i .i64 n), .d (.s s), .d (.sl vb l.length vcs)]))) (args := [appB (Heap.empty.push (.cells false t_Value [.d (.i .u8 k), .d (.i .i64 n), .d (.s s), .d (.sl vb l.length vcs)])).n (([] : List UInt8) ++ numB k), .d (.i .i64 (.ofNat l.length))]) (bs := (([] : List UInt8) ++ numB k)) (L := slB (([] : List UInt8) ++ numB k)) (n := .ofNat l.length) (bor := false) (.inr ⟨false, rfl⟩) (by simp only [Int.ofNat_eq_natCast]; omega) (by simp only [Int.ofNat_eq_natCast]; omega) (by rw [List.length_append]; omega) rfl) (by kernel_rfl) ?_
  refine .loop true (fun m tm g => ∃ i t, i + m = l.length ∧ g.get t = some (.tok 0 t_uint8) ∧ St 44 [(5, appB t ((([] : List UInt8) ++ numB k ++ numB (.ofNat l.length)) ++ valsB (l.take i))), (33, .d (.sl vb l.length vcs)), (34, mkI l.length), (35, mkI i)] tm) l.length (by kernel_rfl)
    ⟨0, (ownH (Heap.empty.push (.cells false t_Value [.d (.i .u8 k), .d (.i .i64 n), .d (.s s), .d (.sl vb l.length vcs)]))).n, by omega, ?_, .of (by kernel_rfl) ⟨?_, by kernel_rfl, by kernel_rfl, by kernel_rfl, trivial⟩⟩ ?_
  · exact Eq.trans (b := (ownH (ownH (Heap.empty.push (.cells false t_Value [.d (.i .u8 k), .d (.i .i64 n), .d (.s s), .d (.sl vb l.length vcs)])))).get (ownH (Heap.empty.push (.cells false t_Value [.d (.i .u8 k), .d (.i .i64 n), .d (.s s), .d (.sl vb l.length vcs)]))).n) (by kernel_rfl) (push_n _ _)
  · exact Eq.trans (b := appB (ownH (Heap.empty.push (.cells false t_Value [.d (.i .u8 k), .d (.i .i64 n), .d (.s s), .d (.sl vb l.length vcs)]))).n (([] : List UInt8) ++ numB k ++ numB (.ofNat l.length))) (by kernel_rfl) (by rw [List.take_zero, show valsB [] = [] from rfl, List.append_nil])
  rintro m tm g ⟨i, t, him, ht, g', rfl⟩
  refine .br (iLt (.ofNat i) (.ofNat l.length)) (by kernel_rfl) (fun e => ?_) (fun e => ?_)
  · have hi : i < l.length := by rw [iLt_iff] at e; simpa using e
    obtain ⟨m, rfl⟩ : ∃ k, m = k + 1 := ⟨m - 1, by omega⟩
    have hld := load_bx E (b := vb) hl hi
    have ihi := ih i hi
    obtain ⟨k', n', s', b', m', cs', hlit⟩ := (hcs i hi).lit
    rw [hlit] at hld ihi
    refine .opv (iaS_sl (k := .i64) (z := 4) (b := vb) (n := l.length) (cs := vcs) (j := i) rfl hi) (by kernel_rfl) ?_
    refine .opv hld (by kernel_rfl) ?_
    have g1 := push_n g (.cells false t_Value [.d (.i .u8 0), .d (.i .i64 0), .d (.s []), .nilsl])
    refine .op (store_ptr (n := 4) (off := 0) (x := .agg [.d (.i .u8 k'), .d (.i .i64 n'), .d (.s s'), .d (.sl b' m' cs')]) g1 rfl) (by kernel_rfl) ?_
    have g2 := Heap.get_set_self (b' := .cells false t_Value [.d (.i .u8 k'), .d (.i .i64 n'), .d (.s s'), .d (.sl b' m' cs')]) g1
    refine .op (load_ptr E (ag := true) (n := 4) (off := 0) g2 rfl rfl) (by kernel_rfl) ?_
    have hpre : valsB l = valsB (l.take i) ++ (valB l[i] ++ valsB (l.drop (i + 1))) := by
      conv => lhs; rw [← List.take_append_drop i l, List.drop_eq_getElem_cons hi, valsB_append]
      rfl
    have hpl := congrArg List.length hpre
    rw [List.length_append, List.length_append] at hpl
    have hc := ihi ((g.push (.cells false t_Value [.d (.i .u8 0), .d (.i .i64 0), .d (.s []), .nilsl])).set g.n (.cells false t_Value [.d (.i .u8 k'), .d (.i .i64 n'), .d (.s s'), .d (.sl b' m' cs')])) [appB t ((([] : List UInt8) ++ numB k ++ numB (.ofNat l.length)) ++ valsB (l.take i)), .agg [.d (.i .u8 k'), .d (.i .i64 n'), .d (.s s'), .d (.sl b' m' cs')]] false ((([] : List UInt8) ++ numB k ++ numB (.ofNat l.length)) ++ valsB (l.take i)) (slB ((([] : List UInt8) ++ numB k ++ numB (.ofNat l.length)) ++ valsB (l.take i))) (.inr ⟨false, rfl⟩) (by simp only [List.length_append] at hlen hvl hpl ⊢; omega) rfl
    have hP : ((([] : List UInt8) ++ numB k ++ numB (.ofNat l.length)) ++ valsB (l.take i)) ++ valB l[i] = (([] : List UInt8) ++ numB k ++ numB (.ofNat l.length)) ++ valsB (l.take (i + 1)) := by
      rw [List.take_add_one, List.getElem?_eq_getElem hi, valsB_append, List.append_assoc]
      simp only [Option.toList, valsB, List.append_nil]
    rw [hP] at hc
    refine .call hc (by kernel_rfl) ?_
    refine .next m (by kernel_rfl) (by omega) ⟨i + 1, g.n + 1, by omega, Eq.trans (b := (ownH ((g.push (.cells false t_Value [.d (.i .u8 0), .d (.i .i64 0), .d (.s []), .nilsl])).set g.n (.cells false t_Value [.d (.i .u8 k'), .d (.i .i64 n'), .d (.s s'), .d (.sl b' m' cs')]))).get ((g.push (.cells false t_Value [.d (.i .u8 0), .d (.i .i64 0), .d (.s []), .nilsl])).set g.n (.cells false t_Value [.d (.i .u8 k'), .d (.i .i64 n'), .d (.s s'), .d (.sl b' m' cs')])).n) (by kernel_rfl) (push_n _ _), .of (by kernel_rfl) ⟨by kernel_rfl, by kernel_rfl, by kernel_rfl, ?_, trivial⟩⟩
    exact Eq.trans (b := .d (.i .i64 (wrap .i64 (.ofNat i + 1)))) (by kernel_rfl) (by rw [wrap64 (by simp only [Int.ofNat_eq_natCast]; omega) (by simp only [Int.ofNat_eq_natCast]; omega)]; rfl)
  · have : m = 0 := by rw [iLt_not] at e; simp only [Int.ofNat_eq_natCast] at e; omega
    subst this
    refine .out true 2 (by kernel_rfl) ?_
    have hin : i = l.length := by omega
    have hfin : ((([] : List UInt8) ++ numB k ++ numB (.ofNat l.length)) ++ valsB (l.take i)) = ([] : List UInt8) ++ valB (.mk k n s l) := by rw [hin, List.take_length, hv]; simp only [List.append_assoc]
    rw [← hfin]
    exact .retF (t := t) (g := 0) ht (cleanL_bytes _) (by kernel_rfl) (by kernel_rfl)
theorem putSS {h : Heap} {args : List AV} {bor : Bool} {k n : Int} {s : List UInt8} {b : Bool} {bs : List UInt8} {vb : Bool} {l : List ValS} {vcs : List DV} (hl : vcs.length = l.length * 4) (hcs : ∀ i (hi : i < l.length), ValR l[i] (chunk vcs 4 i)) (ih : ∀ i (hi : i < l.length), PutAt l[i] (chunk vcs 4 i)) (hkn : R8 k ∧ R64 n) (hlen : (bs ++ valB (.mk k n s l)).length ≤ 70000000000000) (ha : stripArgs h args = some ([.sl b bs.length (bytesD bs), .agg [.i .u8 k, .i .i64 n, .s s, .sl vb l.length vcs]], bor)) : Cal E f_value_Put args h (.nrm, ownB h (bs ++ valB (.mk k n s l)), ownH h) := by
  obtain ⟨⟨hk0, hk1⟩, hn0, hn1⟩ := hkn
  have hw : wrap .i64 k = k := wrap_R8 ⟨hk0, hk1⟩
  have hkl := numB_len k
  have hlen0 := hlen
  rw [List.length_append] at hlen
  have hvl : (valB (.mk k n s l)).length = (numB k).length + (if k = 0 then numB n else if k = 1 then textB s else numB (.ofNat (l).length) ++ valsB l).length := by rw [valB, List.length_append]
  refine .w n_value_Put rfl ha ?_
  have hN : Cal E f_wire_Num [.d (.sl b bs.length (bytesD bs)), .d (.i .i64 (wrap .i64 k))] (Heap.empty.push (.cells false t_Value [.d (.i .u8 k), .d (.i .i64 n), .d (.s s), .d (.sl vb l.length vcs)])) (.nrm, ownB (Heap.empty.push (.cells false t_Value [.d (.i .u8 k), .d (.i .i64 n), .d (.s s), .d (.sl vb l.length vcs)])) (bs ++ numB k), ownH (Heap.empty.push (.cells false t_Value [.d (.i .u8 k), .d (.i .i64 n), .d (.s s), .d (.sl vb l.length vcs)]))) := by
    rw [hw]; exact num_ok (bs := bs) (L := .sl b bs.length (bytesD bs)) (bor := false) (.inr ⟨b, rfl⟩) (by omega) (by omega) (by omega) rfl
  refine .call hN (by kernel_rfl) ?_
  refine .br (iEq k 0) (by kernel_rfl) (fun e => ?_) (fun e0 => ?_)
  · rw [iEq_iff] at e
    rw [if_pos e] at hvl
    refine .call (num_ok (h := ownH (Heap.empty.push (.cells false t_Value [.d (.i .u8 k), .d (.i .i64 n), .d (.s s), .d (.sl vb l.length vcs)]))) (args := [appB (Heap.empty.push (.cells false t_Value [.d (.i .u8 k), .d (.i .i64 n), .d (.s s), .d (.sl vb l.length vcs)])).n (bs ++ numB k), .d (.i .i64 n)]) (bs := (bs ++ numB k)) (L := slB (bs ++ numB k)) (n := n) (bor := false) (.inr ⟨false, rfl⟩) hn0 hn1 (by rw [List.length_append]; omega) rfl) (by kernel_rfl) ?_
    rw [show valB (.mk k n s l) = numB k ++ numB n by rw [valB, if_pos e], ← List.append_assoc]
    exact .retF (t := (ownH (Heap.empty.push (.cells false t_Value [.d (.i .u8 k), .d (.i .i64 n), .d (.s s), .d (.sl vb l.length vcs)]))).n) (g := 0) (push_n (ownH (Heap.empty.push (.cells false t_Value [.d (.i .u8 k), .d (.i .i64 n), .d (.s s), .d (.sl vb l.length vcs)]))) _) (cleanL_bytes _) (by kernel_rfl) (by kernel_rfl)
  rw [iEq_not] at e0
  refine .br (iEq k 1) (by kernel_rfl) (fun e => ?_) (fun e1 => ?_)
  · rw [iEq_iff] at e
    have hv : valB (.mk k n s l) = numB k ++ textB s := by rw [valB, if_neg e0, if_pos e]
    have hs : s.length ≤ (textB s).length := by unfold textB; rw [List.length_append]; omega
    rw [if_neg e0, if_pos e] at hvl
    refine .call (text_ok (h := ownH (Heap.empty.push (.cells false t_Value [.d (.i .u8 k), .d (.i .i64 n), .d (.s s), .d (.sl vb l.length vcs)]))) (args := [appB (Heap.empty.push (.cells false t_Value [.d (.i .u8 k), .d (.i .i64 n), .d (.s s), .d (.sl vb l.length vcs)])).n (bs ++ numB k), .d (.s s)]) (bs := (bs ++ numB k)) (L := slB (bs ++ numB k)) (s := s) (bor := false) (.inr ⟨false, rfl⟩) (by rw [List.length_append]; omega) rfl) (by kernel_rfl) ?_
    rw [hv, ← List.append_assoc]
    exact .retF (t := (ownH (Heap.empty.push (.cells false t_Value [.d (.i .u8 k), .d (.i .i64 n), .d (.s s), .d (.sl vb l.length vcs)]))).n) (g := 0) (push_n (ownH (Heap.empty.push (.cells false t_Value [.d (.i .u8 k), .d (.i .i64 n), .d (.s s), .d (.sl vb l.length vcs)]))) _) (cleanL_bytes _) (by kernel_rfl) (by kernel_rfl)
  rw [iEq_not] at e1
  have hv : valB (.mk k n s l) = numB k ++ (numB (.ofNat (l).length) ++ valsB l) := by rw [valB, if_neg e0, if_neg e1]
  rw [if_neg e0, if_neg e1, List.length_append] at hvl
  have hll := numB_len (.ofNat (l).length)
  have hln := valsB_len l
  refine .call (num_ok (h := ownH (Heap.empty.push (.cells false t_Value [.d (.i .u8 k), .d (.i .i64 n), .d (.s s), .d (.sl vb l.length vcs)]))) (args := [appB (Heap.empty.push (.cells false t_Value [.d (.i .u8 k), .d (.i .i64 n), .d (.s s), .d (.sl vb l.length vcs)])).n (bs ++ numB k), .d (.i .i64 (.ofNat l.length))]) (bs := (bs ++ numB k)) (L := slB (bs ++ numB k)) (n := .ofNat l.length) (bor := false) (.inr ⟨false, rfl⟩) (by simp only [Int.ofNat_eq_natCast]; omega) (by simp only [Int.ofNat_eq_natCast]; omega) (by rw [List.length_append]; omega) rfl) (by kernel_rfl) ?_
  refine .loop true (fun m tm g => ∃ i t, i + m = l.length ∧ g.get t = some (.tok 0 t_uint8) ∧ St 44 [(5, appB t ((bs ++ numB k ++ numB (.ofNat l.length)) ++ valsB (l.take i))), (33, .d (.sl vb l.length vcs)), (34, mkI l.length), (35, mkI i)] tm) l.length (by kernel_rfl)
    ⟨0, (ownH (Heap.empty.push (.cells false t_Value [.d (.i .u8 k), .d (.i .i64 n), .d (.s s), .d (.sl vb l.length vcs)]))).n, by omega, ?_, .of (by kernel_rfl) ⟨?_, by kernel_rfl, by kernel_rfl, by kernel_rfl, trivial⟩⟩ ?_
  · exact Eq.trans (b := (ownH (ownH (Heap.empty.push (.cells false t_Value [.d (.i .u8 k), .d (.i .i64 n), .d (.s s), .d (.sl vb l.length vcs)])))).get (ownH (Heap.empty.push (.cells false t_Value [.d (.i .u8 k), .d (.i .i64 n), .d (.s s), .d (.sl vb l.length vcs)]))).n) (by kernel_rfl) (push_n _ _)
  · exact Eq.trans (b := appB (ownH (Heap.empty.push (.cells false t_Value [.d (.i .u8 k), .d (.i .i64 n), .d (.s s), .d (.sl vb l.length vcs)]))).n (bs ++ numB k ++ numB (.ofNat l.length))) (by kernel_rfl) (by rw [List.take_zero, show valsB [] = [] from rfl, List.append_nil])
  rintro m tm g ⟨i, t, him, ht, g', rfl⟩
  refine .br (iLt (.ofNat i) (.ofNat l.length)) (by kernel_rfl) (fun e => ?_) (fun e => ?_)
  · have hi : i < l.length := by rw [iLt_iff] at e; simpa using e
    obtain ⟨m, rfl⟩ : ∃ k, m = k + 1 := ⟨m - 1, by omega⟩
    have hld := load_bx E (b := vb) hl hi
    have ihi := ih i hi
    obtain ⟨k', n', s', b', m', cs', hlit⟩ := (hcs i hi).lit
    rw [hlit] at hld ihi
    refine .opv (iaS_sl (k := .i64) (z := 4) (b := vb) (n := l.length) (cs := vcs) (j := i) rfl hi) (by kernel_rfl) ?_
    refine .opv hld (by kernel_rfl) ?_
    have g1 := push_n g (.cells false t_Value [.d (.i .u8 0), .d (.i .i64 0), .d (.s []), .nilsl])
    refine .op (store_ptr (n := 4) (off := 0) (x := .agg [.d (.i .u8 k'), .d (.i .i64 n'), .d (.s s'), .d (.sl b' m' cs')]) g1 rfl) (by kernel_rfl) ?_
    have g2 := Heap.get_set_self (b' := .cells false t_Value [.d (.i .u8 k'), .d (.i .i64 n'), .d (.s s'), .d (.sl b' m' cs')]) g1
    refine .op (load_ptr E (ag := true) (n := 4) (off := 0) g2 rfl rfl) (by kernel_rfl) ?_
    have hpre : valsB l = valsB (l.take i) ++ (valB l[i] ++ valsB (l.drop (i + 1))) := by
      conv => lhs; rw [← List.take_append_drop i l, List.drop_eq_getElem_cons hi, valsB_append]
      rfl
    have hpl := congrArg List.length hpre
    rw [List.length_append, List.length_append] at hpl
    have hc := ihi ((g.push (.cells false t_Value [.d (.i .u8 0), .d (.i .i64 0), .d (.s []), .nilsl])).set g.n (.cells false t_Value [.d (.i .u8 k'), .d (.i .i64 n'), .d (.s s'), .d (.sl b' m' cs')])) [appB t ((bs ++ numB k ++ numB (.ofNat l.length)) ++ valsB (l.take i)), .agg [.d (.i .u8 k'), .d (.i .i64 n'), .d (.s s'), .d (.sl b' m' cs')]] false ((bs ++ numB k ++ numB (.ofNat l.length)) ++ valsB (l.take i)) (slB ((bs ++ numB k ++ numB (.ofNat l.length)) ++ valsB (l.take i))) (.inr ⟨false, rfl⟩) (by simp only [List.length_append] at hlen hvl hpl ⊢; omega) rfl
    have hP : ((bs ++ numB k ++ numB (.ofNat l.length)) ++ valsB (l.take i)) ++ valB l[i] = (bs ++ numB k ++ numB (.ofNat l.length)) ++ valsB (l.take (i + 1)) := by
      rw [List.take_add_one, List.getElem?_eq_getElem hi, valsB_append, List.append_assoc]
      simp only [Option.toList, valsB, List.append_nil]
    rw [hP] at hc
    refine .call hc (by kernel_rfl) ?_
    refine .next m (by kernel_rfl) (by omega) ⟨i + 1, g.n + 1, by omega, Eq.trans (b := (ownH ((g.push (.cells false t_Value [.d (.i .u8 0), .d (.i .i64 0), .d (.s []), .nilsl])).set g.n (.cells false t_Value [.d (.i .u8 k'), .d (.i .i64 n'), .d (.s s'), .d (.sl b' m' cs')]))).get ((g.push (.cells false t_Value [.d (.i .u8 0), .d (.i .i64 0), .d (.s []), .nilsl])).set g.n (.cells false t_Value [.d (.i .u8 k'), .d (.i .i64 n'), .d (.s s'), .d (.sl b' m' cs')])).n) (by kernel_rfl) (push_n _ _), .of (by kernel_rfl) ⟨by kernel_rfl, by kernel_rfl, by kernel_rfl, ?_, trivial⟩⟩
    exact Eq.trans (b := .d (.i .i64 (wrap .i64 (.ofNat i + 1)))) (by kernel_rfl) (by rw [wrap64 (by simp only [Int.ofNat_eq_natCast]; omega) (by simp only [Int.ofNat_eq_natCast]; omega)]; rfl)
  · have : m = 0 := by rw [iLt_not] at e; simp only [Int.ofNat_eq_natCast] at e; omega
    subst this
    refine .out true 2 (by kernel_rfl) ?_
    have hin : i = l.length := by omega
    have hfin : ((bs ++ numB k ++ numB (.ofNat l.length)) ++ valsB (l.take i)) = bs ++ valB (.mk k n s l) := by rw [hin, List.take_length, hv]; simp only [List.append_assoc]
    rw [← hfin]
    exact .retF (t := t) (g := 0) ht (cleanL_bytes _) (by kernel_rfl) (by kernel_rfl)
theorem putR_ok {v : ValS} {cs : List DV} (hv : ValR v cs) : PutAt v cs := by
  induction hv with
  | sl k n s l b cs hl hcs hkn ih =>
  intro h args bor bs L hL hlen ha
  rcases hL with ⟨rfl, rfl⟩ | ⟨b2, rfl⟩
  · exact put0S hl hcs ih hkn hlen ha
  · exact putSS hl hcs ih hkn hlen ha
end
end Go.Proofs.YtjacnbabnpgpaaaGreatDoor
