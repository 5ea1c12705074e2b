/- Contracts: the document's values and fragments, as bytes. -/
import Derived.Test.YtjacnbabnpgpaaaGreatDoorAI
import Derived.Test.YtjacnbabnpgpaaaGreatDoorM
import Derived.Test.YtjacnbabnpgpaaaGreatDoorAF
namespace Go.Proofs.YtjacnbabnpgpaaaGreatDoor
noncomputable section
open Go Go.Abs
set_option maxRecDepth 100000
theorem app_own {g : Heap} {bs bs2 : List UInt8} {v : AV} (hf : FA t_uint8 bs.length (bytesD bs) v g) (hl : (bs ++ bs2).length ≤ 70000000000000) :
    ∃ v' g', s_app (ownH g) [] t_uint8 1 1 false (.c v) (.c (ownB g bs2)) = .val v' g' ∧ FA t_uint8 (bs ++ bs2).length (bytesD (bs ++ bs2)) v' g' ∧ ∀ i e c, g.get i = some (.cells false e c) → g'.get i = some (.cells false e c) := by
  rw [List.length_append] at hl
  have hf2 : FA t_uint8 bs.length (bytesD bs) v (ownH g) := hf.keep fun t g ht => (push_of ht _).trans ht.symm
  obtain ⟨v', h2, hs, hf3, hk, _⟩ := app_fa (sz := 1) (bytes := 1) (k := bs2.length) (l := bytesD bs2) (y := ownB g bs2) hf2 (by rw [bytesD_length, Nat.mul_one]) (rowView_bytes bs2) (by omega) (by omega) (fun e => by rw [List.length_eq_zero_iff.1 e]; rfl) (okCells_bytes _)
  refine ⟨v', h2, hs, by rw [bytesD_append, List.length_append]; exact hf3, fun i e c hg => ?_⟩
  have hg2 := push_of hg (.tok 0 t_uint8)
  rw [hk.2 i (get_lt hg2) (fun t g n cs ev hit => ?_)]
  · exact hg2
  · subst ev hit
    rcases hf2 with ⟨_, _, e | e⟩ | ⟨t1, g1, e, ht1⟩
    · cases e
    · cases e
    · cases e
      have := hg2.symm.trans ht1
      cases this
theorem app_tok {h : Heap} {t g n k : Nat} {cs l : List DV} {y : AV} (ht : h.get t = some (.tok g t_uint8)) (hs : SrcR h 1 y k l) (hk : k ≠ 0) (hl : n + k ≤ 70000000000000) (ho : okCells (l.map .d) = true) :
    s_app h [] t_uint8 1 1 false (.c (.app t g n cs)) (.c y) = .val (.app t (g + 1) (n + k) (cs ++ l)) (h.set t (.tok (g + 1) t_uint8)) := by
  have hc : (Nat.ble ((n + k) * 1) 70368744177664 && Nat.ble (n + k) 70368744177664 && okCells (l.map .d)) = true := by
    simp only [Bool.and_eq_true, Nat.ble_eq]; exact ⟨⟨by omega, by omega⟩, ho⟩
  obtain ⟨k, rfl⟩ : ∃ j, k = j + 1 := ⟨k - 1, by omega⟩
  unfold s_app
  simp only [X.ev]
  rw [hs]
  simp only [lenOf, hc, appA, ht, frzL_d, Nat.beq_refl, Bool.and_self, show Nat.beq t_uint8 t_uint8 = true from rfl, oh]
def RefPut (v : ValS) (cs : List DV) : Prop := (valB v).length ≤ 60000000000000 → ∀ h, Cal E f_foremanref08_Bytes [.agg (cs.map .d)] h (.nrm, ownB h (valB v), ownH h)
theorem refBytes_ok {v : ValS} {cs : List DV} (hv : ValR v cs) : RefPut v cs := by
  induction hv with
  | sl k n s l b cs hl hcs hkn ih =>
  intro hlen h
  obtain ⟨⟨hk0, hk1⟩, hn0, hn1⟩ := hkn
  have hw : wrap .i64 k = k := wrap_R8 ⟨hk0, hk1⟩
  have hkl := numB_len k
  have hvl : (valB (.mk k n s l)).length = (numB k).length + (if k = 0 then numB n else if k = 1 then textB s else numB (.ofNat l.length) ++ valsB l).length := by rw [valB, List.length_append]
  refine .w n_foremanref08_Bytes rfl (ds := [.agg [.i .u8 k, .i .i64 n, .s s, .sl b l.length cs]]) (bor := false) rfl ?_
  have hN : Cal E f_foremanref07_Num [.d (.i .i64 (wrap .i64 k))] (Heap.empty.push (.cells false t_Value (vA k n s b l.length cs))) (.nrm, ownB (Heap.empty.push (.cells false t_Value (vA k n s b l.length cs))) (numB k), ownH (Heap.empty.push (.cells false t_Value (vA k n s b l.length cs)))) := by
    rw [hw]; exact refNum_ok (by omega) (by omega)
  refine .call hN (by kernel_rfl) ?_
  refine .br (iEq k 0) (by kernel_rfl) (fun e => ?_) (fun e0 => ?_)
  · have e := iEq_iff.1 e
    have hnl := numB_len n
    refine .call (refNum_ok (h := ownH (Heap.empty.push (.cells false t_Value (vA k n s b l.length cs)))) hn0 hn1) (by kernel_rfl) ?_
    refine .op (app_tok (h := ownH (ownH (Heap.empty.push (.cells false t_Value (vA k n s b l.length cs))))) (t := 1) (g := 0) (n := (numB k).length) (k := (numB n).length) (cs := bytesD (numB k)) (l := bytesD (numB n)) (y := ownB (ownH (Heap.empty.push (.cells false t_Value (vA k n s b l.length cs)))) (numB n)) rfl (rowView_bytes _) (by omega) (by omega) (okCells_bytes _)) (by kernel_rfl) ?_
    rw [show valB (.mk k n s l) = numB k ++ numB n by rw [valB, if_pos e], ← bytesD_append, ← List.length_append]
    exact .retF (t := 1) (g := 1) (h1 := (ownH (ownH (Heap.empty.push (.cells false t_Value (vA k n s b l.length cs))))).set 1 (.tok 1 t_uint8)) rfl (cleanL_bytes _) (by kernel_rfl) (by kernel_rfl)
  have e0 := iEq_not.1 e0
  refine .br (iEq k 1) (by kernel_rfl) (fun e => ?_) (fun e1 => ?_)
  · have e := iEq_iff.1 e
    have hnl := textB_len s
    rw [if_neg e0, if_pos e] at hvl
    refine .call (refText_ok (h := ownH (Heap.empty.push (.cells false t_Value (vA k n s b l.length cs)))) (s := s) (by omega)) (by kernel_rfl) ?_
    refine .op (app_tok (h := ownH (ownH (Heap.empty.push (.cells false t_Value (vA k n s b l.length cs))))) (t := 1) (g := 0) (n := (numB k).length) (k := (textB s).length) (cs := bytesD (numB k)) (l := bytesD (textB s)) (y := ownB (ownH (Heap.empty.push (.cells false t_Value (vA k n s b l.length cs)))) (textB s)) rfl (rowView_bytes _) (by omega) (by omega) (okCells_bytes _)) (by kernel_rfl) ?_
    rw [show valB (.mk k n s l) = numB k ++ textB s by rw [valB, if_neg e0, if_pos e], ← bytesD_append, ← List.length_append]
    exact .retF (t := 1) (g := 1) (h1 := (ownH (ownH (Heap.empty.push (.cells false t_Value (vA k n s b l.length cs))))).set 1 (.tok 1 t_uint8)) rfl (cleanL_bytes _) (by kernel_rfl) (by kernel_rfl)
  have e1 := iEq_not.1 e1
  have hv : valB (.mk k n s l) = numB k ++ numB (.ofNat l.length) ++ valsB l := by rw [valB, if_neg e0, if_neg e1, List.append_assoc]
  rw [if_neg e0, if_neg e1, List.length_append] at hvl
  have hll := numB_len (.ofNat l.length)
  have hln := valsB_len l
  refine .call (refNum_ok (h := ownH (Heap.empty.push (.cells false t_Value (vA k n s b l.length cs)))) (n := .ofNat l.length) (by simp only [Int.ofNat_eq_natCast]; omega) (by simp only [Int.ofNat_eq_natCast]; omega)) (by kernel_rfl) ?_
  refine .op (app_tok (h := ownH (ownH (Heap.empty.push (.cells false t_Value (vA k n s b l.length cs))))) (t := 1) (g := 0) (n := (numB k).length) (k := (numB (.ofNat l.length)).length) (cs := bytesD (numB k)) (l := bytesD (numB (.ofNat l.length))) (y := ownB (ownH (Heap.empty.push (.cells false t_Value (vA k n s b l.length cs)))) (numB (.ofNat l.length))) rfl (rowView_bytes _) (by omega) (by omega) (okCells_bytes _)) (by kernel_rfl) ?_
  refine .loop true (fun m tm g => ∃ i v, i + m = l.length ∧ g.get 0 = some (.cells false t_Value (vA k n s b l.length cs)) ∧ FA t_uint8 (numB k ++ numB (.ofNat l.length) ++ valsB (l.take i)).length (bytesD (numB k ++ numB (.ofNat l.length) ++ valsB (l.take i))) v g ∧ St 47 [(1, .ptr 0 0), (3, v), (4, mkI i)] tm) l.length (by kernel_rfl)
    ⟨0, .app 1 1 ((numB k).length + (numB (.ofNat l.length)).length) (bytesD (numB k) ++ bytesD (numB (.ofNat l.length))), by omega, by kernel_rfl, ?_, .of (by kernel_rfl) ⟨by kernel_rfl, by kernel_rfl, by kernel_rfl, trivial⟩⟩ ?_
  · rw [List.take_zero, show valsB [] = [] from rfl, List.append_nil, bytesD_append, List.length_append]
    have : ∀ x : Heap, x = (ownH (ownH (Heap.empty.push (.cells false t_Value (vA k n s b l.length cs))))).set 1 (.tok 1 t_uint8) → FA t_uint8 ((numB k).length + (numB (.ofNat l.length)).length) (bytesD (numB k) ++ bytesD (numB (.ofNat l.length))) (.app 1 1 ((numB k).length + (numB (.ofNat l.length)).length) (bytesD (numB k) ++ bytesD (numB (.ofNat l.length)))) x := fun x e => e ▸ .inr ⟨_, _, rfl, rfl⟩
    exact this _ (by kernel_rfl)
  rintro m tm g ⟨i, v, him, hbox, hf, g', rfl⟩
  refine .op (load_ptr E (ag := false) (n := 1) (off := 3) hbox rfl rfl) (by kernel_rfl) ?_
  refine .br (iLt (.ofNat i) (.ofNat l.length)) (by kernel_rfl) (fun e => ?_) (fun e => ?_)
  · have hi : i < l.length := by rw [iLt_iff] at e; simpa using e
    obtain ⟨m, rfl⟩ : ∃ k, m = k + 1 := ⟨m - 1, by omega⟩
    have hld := load_bx E (b := b) hl hi
    have hpre : valsB l = valsB (l.take i) ++ (valB l[i] ++ valsB (l.drop (i + 1))) := by
      conv => lhs; rw [← List.take_append_drop i l, List.drop_eq_getElem_cons hi, valsB_append]
      rfl
    have hpl := congrArg List.length hpre
    rw [List.length_append, List.length_append] at hpl
    have hnext : numB k ++ numB (.ofNat l.length) ++ valsB (l.take i) ++ valB l[i] = numB k ++ numB (.ofNat l.length) ++ valsB (l.take (i + 1)) := by
      rw [List.take_add_one, List.getElem?_eq_getElem hi, valsB_append, List.append_assoc]
      simp only [Option.toList, valsB, List.append_nil]
    have ihi := ih i hi (by omega)
    obtain ⟨k', n', s', b', m', cs', hlit⟩ := (hcs i hi).lit
    rw [hlit] at hld ihi
    refine .op (load_ptr E (ag := false) (n := 1) (off := 3) hbox rfl rfl) (by kernel_rfl) ?_
    refine .opv (iaS_sl (k := .i64) (z := 4) (b := b) (n := l.length) (cs := cs) (j := i) rfl hi) (by kernel_rfl) ?_
    refine .opv hld (by kernel_rfl) ?_
    refine .call (args := [.agg (vA k' n' s' b' m' cs')]) (ihi g) (by kernel_rfl) ?_
    obtain ⟨v', g2, hs, hf2, hkeep⟩ := app_own (bs2 := valB l[i]) hf (by rw [hnext]; simp only [List.length_append]; have := congrArg List.length hnext; simp only [List.length_append] at this; omega)
    refine .op hs (by kernel_rfl) ?_
    rw [hnext] at hf2
    refine .next m (by kernel_rfl) (by omega) ⟨i + 1, v', by omega, Eq.trans (b := g2.get 0) (by kernel_rfl) (hkeep _ _ _ hbox), ?_, .of (by kernel_rfl) ⟨by kernel_rfl, by kernel_rfl, ?_, trivial⟩⟩
    · have : ∀ x : Heap, x = g2 → FA t_uint8 (numB k ++ numB (.ofNat l.length) ++ valsB (l.take (i + 1))).length (bytesD (numB k ++ numB (.ofNat l.length) ++ valsB (l.take (i + 1)))) v' x := fun x e => e ▸ hf2
      exact this _ (by kernel_rfl)
    · exact Eq.trans (b := .d (.i .i64 (wrap .i64 (.ofNat i + 1)))) (by kernel_rfl) (inc63 (by omega))
  · have : m = 0 := by rw [iLt_not] at e; simp only [Int.ofNat_eq_natCast] at e; omega
    subst this
    have hin : i = l.length := by omega
    subst hin
    rw [List.take_length, ← hv] at hf
    refine .out true 1 (by kernel_rfl) ?_
    obtain ⟨t, gg, rfl, ht⟩ := hf.app (by have := valB_pos (.mk k n s l); omega)
    exact .retF ht (cleanL_bytes _) (by kernel_rfl) (by kernel_rfl)
end
end Go.Proofs.YtjacnbabnpgpaaaGreatDoor
