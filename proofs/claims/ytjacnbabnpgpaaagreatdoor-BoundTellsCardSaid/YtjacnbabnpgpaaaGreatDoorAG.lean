/- Contracts: the document's values and operations: which ones are right. -/
import Derived.Test.YtjacnbabnpgpaaaGreatDoorAF
import Derived.Test.YtjacnbabnpgpaaaGreatDoorAE
import Derived.Test.YtjacnbabnpgpaaaGreatDoorV
namespace Go.Proofs.YtjacnbabnpgpaaaGreatDoor
noncomputable section
open Go Go.Abs
set_option maxRecDepth 100000
theorem kinds_ok {v : ValS} {cs : List DV} (hv : ValR v cs) : ∀ h, Cal E f_foremanref08_kinds [.agg (cs.map .d)] h (.nrm, .d (.b (kindsV v)), h) := by
  induction hv with
  | sl k n s l b cs hl hcs hkn ih =>
  intro h
  have hk : kindsV (.mk k n s l) = (plainB k n s l.length && kindsL l) := rfl
  have hempty : l.length = 0 → kindsL l = true := fun e => by rw [List.length_eq_zero_iff.1 e]; rfl
  refine .w n_foremanref08_kinds rfl (ds := [.agg [.i .u8 k, .i .i64 n, .s s, .sl b l.length cs]]) (bor := false) rfl ?_
  refine .br (iEq k 0) (by kernel_rfl) (fun e => ?_) (fun e0 => ?_)
  · have e := iEq_iff.1 e
    have hp : plainB k n s l.length = (decide (s = []) && decide (l.length = 0)) := by unfold plainB; rw [if_pos e]
    refine .br (strEq s []) (by kernel_rfl) (fun e2 => ?_) (fun e2 => .retB false (by kernel_rfl) ?_)
    · refine .retB (iEq (.ofNat l.length) 0) (by kernel_rfl) ?_
      rw [hk, hp, decide_eq_true (strEq_iff.1 e2), iEq_dec, ofNat_zero, Bool.true_and]
      by_cases h0 : l.length = 0
      · rw [hempty h0, Bool.and_true]
      · rw [decide_eq_false h0]; rfl
    · rw [strEq_dec] at e2
      rw [hk, hp, e2]; rfl
  have e0 := iEq_not.1 e0
  refine .br (iEq k 1) (by kernel_rfl) (fun e => ?_) (fun e1 => ?_)
  · have e := iEq_iff.1 e
    have hp : plainB k n s l.length = (decide (n = 0) && decide (l.length = 0) && decide (s.length ≤ 100)) := by unfold plainB; rw [if_neg e0, if_pos e]
    refine .br (iEq n 0) (by kernel_rfl) (fun e2 => ?_) (fun e2 => .retB false (by kernel_rfl) ?_)
    · refine .br (iEq (.ofNat l.length) 0) (by kernel_rfl) (fun e3 => ?_) (fun e3 => .retB false (by kernel_rfl) ?_)
      · rw [iEq_dec, ofNat_zero] at e3
        refine .retB (!(iLt 100 (.ofNat s.length))) (by kernel_rfl) ?_
        rw [hk, hp, decide_eq_true (iEq_iff.1 e2), e3, hempty (of_decide_eq_true e3), show (100 : Int) = .ofNat 100 from rfl, notLt, Bool.true_and, Bool.true_and, Bool.and_true]
      · rw [iEq_dec, ofNat_zero] at e3
        rw [hk, hp, e3, Bool.and_false]; rfl
    · rw [iEq_dec] at e2
      rw [hk, hp, e2]; rfl
  have e1 := iEq_not.1 e1
  refine .br (!(iEq k 2)) (by kernel_rfl) (fun e => .retB false (by kernel_rfl) ?_) (fun e2 => ?_)
  · rw [Bool.not_eq_true', iEq_not] at e
    rw [hk]; unfold plainB; rw [if_neg e0, if_neg e1, if_neg e]; rfl
  rw [Bool.not_eq_false', iEq_iff] at e2
  have hp : plainB k n s l.length = (decide (n = 0) && decide (s = []) && decide (l.length ≤ 40)) := by unfold plainB; rw [if_neg e0, if_neg e1, if_pos e2]
  refine .br (!(iEq n 0)) (by kernel_rfl) (fun e => .retB false (by kernel_rfl) ?_) (fun e3 => ?_)
  · rw [Bool.not_eq_true', iEq_dec] at e
    rw [hk, hp, e]; rfl
  rw [Bool.not_eq_false', iEq_dec] at e3
  refine .br (!(strEq s [])) (by kernel_rfl) (fun e => .retB false (by kernel_rfl) ?_) (fun e4 => ?_)
  · rw [Bool.not_eq_true', strEq_dec] at e
    rw [hk, hp, e, Bool.and_false]; rfl
  rw [Bool.not_eq_false', strEq_dec] at e4
  refine .br (iLt 40 (.ofNat l.length)) (by kernel_rfl) (fun e => .retB false (by kernel_rfl) ?_) (fun e5 => ?_)
  · rw [iLt_iff] at e; simp only [Int.ofNat_eq_natCast] at e
    rw [hk, hp, decide_eq_false (by omega : ¬ l.length ≤ 40), Bool.and_false]; rfl
  rw [iLt_not] at e5; simp only [Int.ofNat_eq_natCast] at e5
  have hk2 : kindsV (.mk k n s l) = kindsL l := by rw [hk, hp, e3, e4, decide_eq_true (by omega : l.length ≤ 40)]; rfl
  rw [hk2]
  refine .loop false (fun m tm g => ∃ i, i + m = l.length ∧ kindsL (l.take i) = true ∧ g = Heap.empty.push (.cells false t_Value (vA k n s b l.length cs)) ∧ St 67 [(1, .ptr 0 0), (3, mkI i)] tm) l.length (by kernel_rfl)
    ⟨0, by omega, rfl, by kernel_rfl, .of (by kernel_rfl) ⟨by kernel_rfl, by kernel_rfl, trivial⟩⟩ ?_
  rintro m tm _ ⟨i, him, hall, rfl, g', rfl⟩
  refine .br (iLt (.ofNat i) (.ofNat l.length)) (by kernel_rfl) (fun e => ?_) (fun e => ?_)
  · have hi : i < l.length := by rw [iLt_iff] at e; simpa using e
    obtain ⟨m, rfl⟩ : ∃ k, m = k + 1 := ⟨m - 1, by omega⟩
    have hld := load_bx E (b := b) hl hi
    have ihi := ih i hi
    obtain ⟨k', n', s', b', m', cs', hlit⟩ := (hcs i hi).lit
    rw [hlit] at hld ihi
    refine .opv (iaS_sl (k := .i64) (z := 4) (b := b) (n := l.length) (cs := cs) (j := i) rfl hi) (by kernel_rfl) ?_
    refine .opv hld (by kernel_rfl) ?_
    refine .callv (args := [.agg (vA k' n' s' b' m' cs')]) ihi (by kernel_rfl) ?_
    refine .br (!kindsV l[i]) (by kernel_rfl) (fun e => ?_) (fun e => ?_)
    · rw [Bool.not_eq_true'] at e
      exact .out false 0 (by kernel_rfl) (.retB false (by kernel_rfl) (kindsL_bad hi e).symm)
    · rw [Bool.not_eq_false'] at e
      refine .next m (by kernel_rfl) (by omega) ⟨i + 1, by omega, by rw [kindsL_take hi, hall, e]; rfl, by kernel_rfl, .of (by kernel_rfl) ⟨by kernel_rfl, ?_, trivial⟩⟩
      exact Eq.trans (b := .d (.i .i64 (wrap .i64 (.ofNat i + 1)))) (by kernel_rfl) (inc63 (by omega))
  · have : m = 0 := by rw [iLt_not] at e; simp only [Int.ofNat_eq_natCast] at e; omega
    subst this
    have hin : i = l.length := by omega
    subst hin
    rw [List.take_length] at hall
    exact .out false 1 (by kernel_rfl) (.retB true (by kernel_rfl) hall.symm)
theorem refVal_ok {v : ValS} {cs : List DV} (hv : ValR v cs) (hp : partsV v ≤ 1000000) (h : Heap) : Cal E f_foremanref08_Right [.agg (cs.map .d)] h (.nrm, .d (.b (rightV v)), h) := by
  have h1 := kinds_ok hv
  have h2 := deep_ok hv hp
  have h3 := parts_ok hv hp
  rw [rightV_iff]
  obtain ⟨k', n', s', b', m', cs', rfl⟩ := hv.lit
  refine .w n_foremanref08_Right rfl (ds := [.agg [.i .u8 k', .i .i64 n', .s s', .sl b' m' cs']]) (bor := false) rfl ?_
  refine .callv (args := [.agg (vA k' n' s' b' m' cs')]) h1 (by kernel_rfl) ?_
  refine .br (kindsV v) (by kernel_rfl) (fun e => ?_) (fun e => .retB false (by kernel_rfl) (by rw [e]; rfl))
  refine .callv (args := [.agg (vA k' n' s' b' m' cs')]) h2 (by kernel_rfl) ?_
  refine .br (!(iLt 6 (.ofNat (deepV v)))) (by kernel_rfl) (fun e2 => ?_) (fun e2 => .retB false (by kernel_rfl) ?_)
  · refine .callv (args := [.agg (vA k' n' s' b' m' cs')]) h3 (by kernel_rfl) ?_
    refine .retB (!(iLt 200 (.ofNat (partsV v)))) (by kernel_rfl) ?_
    rw [show (6 : Int) = .ofNat 6 from rfl, notLt] at e2
    rw [e, e2, show (200 : Int) = .ofNat 200 from rfl, notLt]; rfl
  · rw [show (6 : Int) = .ofNat 6 from rfl, notLt] at e2
    rw [e2, Bool.false_and, Bool.and_false]
theorem refNone_ok {h : Heap} {k n : Int} {s : List UInt8} {b : Bool} {m : Nat} {cs : List DV} : Cal E f_foremanref10_none [.agg (vA k n s b m cs)] h (.nrm, .d (.b (sameZ k n s m)), h) := by
  have hs : ∀ h, Cal E f_foremanref08_Same [.agg (vA k n s b m cs), .agg [.d (.i .u8 0), .d (.i .i64 0), .d (.s []), .nilsl]] h (.nrm, .d (.b (sameZ k n s m)), h) := fun h => by
    refine .w n_foremanref08_Same rfl (ds := [.agg [.i .u8 k, .i .i64 n, .s s, .sl b m cs], .agg [.i .u8 0, .i .i64 0, .s [], .nsl]]) (bor := false) rfl ?_
    refine .br (!(iEq k 0)) (by kernel_rfl) (fun e => .retB false (by kernel_rfl) ?_) (fun e1 => ?_)
    · rw [Bool.not_eq_true'] at e; unfold sameZ; rw [e]; rfl
    rw [Bool.not_eq_false'] at e1
    refine .br (!(iEq n 0)) (by kernel_rfl) (fun e => .retB false (by kernel_rfl) ?_) (fun e2 => ?_)
    · rw [Bool.not_eq_true'] at e; unfold sameZ; rw [e, Bool.false_and, Bool.and_false]
    rw [Bool.not_eq_false'] at e2
    refine .br (!(strEq s [])) (by kernel_rfl) (fun e => .retB false (by kernel_rfl) ?_) (fun e3 => ?_)
    · rw [Bool.not_eq_true'] at e; unfold sameZ; rw [e, Bool.false_and, Bool.and_false, Bool.and_false]
    rw [Bool.not_eq_false'] at e3
    refine .br (!(iEq (.ofNat m) 0)) (by kernel_rfl) (fun e => .retB false (by kernel_rfl) ?_) (fun e4 => ?_)
    · rw [Bool.not_eq_true'] at e; unfold sameZ; rw [e, Bool.and_false, Bool.and_false, Bool.and_false]
    rw [Bool.not_eq_false'] at e4
    have h0 : sameZ k n s m = true := by unfold sameZ; rw [e1, e2, e3, e4]; rfl
    rw [h0]
    have hm : m = 0 := by have := iEq_iff.1 e4; simp only [Int.ofNat_eq_natCast] at this; omega
    subst hm
    refine .loop false (fun j tm g => g = (Heap.empty.push (.cells false t_Value (vA k n s b 0 cs))).push (.cells false t_Value [.d (.i .u8 0), .d (.i .i64 0), .d (.s []), .nilsl]) ∧ St 53 [(2, .ptr 0 0), (3, .ptr 1 0), (5, mkI 0)] tm) 0 (by kernel_rfl)
      ⟨by kernel_rfl, .of (by kernel_rfl) ⟨by kernel_rfl, by kernel_rfl, by kernel_rfl, trivial⟩⟩ ?_
    rintro j tm _ ⟨rfl, g', rfl⟩
    refine .br false (by kernel_rfl) (fun e => by cases e) (fun _ => ?_)
    exact .out false 1 (by kernel_rfl) (.ret rfl (by kernel_rfl))
  refine .w n_foremanref10_none rfl (ds := [.agg [.i .u8 k, .i .i64 n, .s s, .sl b m cs]]) (bor := false) rfl ?_
  refine .callv hs (by kernel_rfl) ?_
  exact .ret rfl (by kernel_rfl)
mutual
def fewV : ValS → Nat → Int
  | .mk _ _ _ l, d => if d = 0 then 1000000 else fewL l (d - 1) 1
def fewL : List ValS → Nat → Int → Int
  | [], _, r => r
  | v :: l, d, r => if iLt 1000000 (wrap .i64 (r + fewV v d)) = true then wrap .i64 (r + fewV v d) else fewL l d (wrap .i64 (r + fewV v d))
end
mutual
theorem fewV_is : ∀ (v : ValS) (d : Nat), d ≤ 20 → 0 ≤ fewV v d ∧ fewV v d ≤ 1000000 * (d + 1) ∧ (fewV v d ≤ 999999 → (partsV v : Int) = fewV v d)
  | .mk k n s l, d, hd => by
    unfold fewV partsV
    by_cases h : d = 0
    · rw [if_pos h]
      exact ⟨by omega, by omega, fun h => by omega⟩
    · rw [if_neg h]
      have := fewL_is l (d - 1) 1 (by omega) (by omega) (by omega)
      refine ⟨by omega, by omega, fun h => ?_⟩
      have := this.2.2 h
      omega
theorem fewL_is : ∀ (l : List ValS) (d : Nat) (r : Int), d ≤ 20 → 0 ≤ r → r ≤ 1000000 → 0 ≤ fewL l d r ∧ fewL l d r ≤ 1000000 * (d + 2) ∧ (fewL l d r ≤ 999999 → r + (partsL l : Int) = fewL l d r)
  | [], d, r, hd, h0, h1 => by
    unfold fewL partsL
    exact ⟨h0, by omega, fun _ => by omega⟩
  | v :: l, d, r, hd, h0, h1 => by
    have hv := fewV_is v d hd
    have hw : wrap .i64 (r + fewV v d) = r + fewV v d := wrap64 (by omega) (by omega)
    unfold fewL
    rw [hw]
    by_cases h : iLt 1000000 (r + fewV v d) = true
    · rw [if_pos h]
      rw [iLt_iff] at h
      exact ⟨by omega, by omega, fun h => by omega⟩
    · rw [if_neg h]
      rw [Bool.not_eq_true, iLt_not] at h
      have hl := fewL_is l d (r + fewV v d) hd (by omega) h
      refine ⟨hl.1, hl.2.1, fun h2 => ?_⟩
      have h3 := hl.2.2 h2
      have h4 := hv.2.2 (by omega)
      show r + ((partsV v + partsL l : Nat) : Int) = _
      omega
end
theorem fewX_ok {v : ValS} {cs : List DV} (hv : ValR v cs) : lenV v → ∀ d : Nat, d ≤ 1000 → ∀ h, Cal E f_foremanlaw08_few [.agg (cs.map .d), .d (.i .i64 (.ofNat d))] h (.nrm, .d (.i .i64 (fewV v d)), h) := by
  induction hv with
  | sl k n s l b cs hl hcs hkn ih =>
  rintro ⟨hlen, hlv⟩ d hd h
  refine .w n_foremanlaw08_few rfl (ds := [.agg [.i .u8 k, .i .i64 n, .s s, .sl b l.length cs], .i .i64 (.ofNat d)]) (bor := false) rfl ?_
  refine .br (iEq (.ofNat d) 0) (by kernel_rfl) (fun e => .retI 1000000 (by kernel_rfl) ?_) (fun e0 => ?_)
  · have := iEq_iff.1 e
    unfold fewV; rw [if_pos (by simp only [Int.ofNat_eq_natCast] at this; omega)]
  rw [iEq_not] at e0
  have hd0 : d ≠ 0 := fun e => e0 (by rw [e]; rfl)
  have hgoal : fewV (.mk k n s l) d = fewL l (d - 1) 1 := by unfold fewV; rw [if_neg hd0]
  rw [hgoal]
  refine .loop true (fun m tm _ => ∃ i r, i + m = l.length ∧ fewL (l.drop i) (d - 1) r = fewL l (d - 1) 1 ∧ St 28 [(1, .d (.i .i64 (.ofNat d))), (5, .d (.i .i64 r)), (11, .d (.sl b l.length cs)), (12, mkI l.length), (13, mkI i)] tm) l.length (by kernel_rfl)
    ⟨0, 1, by omega, rfl, .of (by kernel_rfl) ⟨by kernel_rfl, by kernel_rfl, by kernel_rfl, by kernel_rfl, by kernel_rfl, trivial⟩⟩ ?_
  rintro m tm g ⟨i, r, him, hR, g', rfl⟩
  refine .br (iLt (.ofNat i) (.ofNat l.length)) (by kernel_rfl) (fun e => ?_) (fun e => ?_)
  · have hi : i < l.length := by rw [iLt_iff] at e; simpa using e
    obtain ⟨m, rfl⟩ : ∃ k, m = k + 1 := ⟨m - 1, by omega⟩
    have hld := load_bx E (b := b) hl hi
    have ihi := ih i hi (lenVs_get hlv i hi) (d - 1) (by omega)
    obtain ⟨k', n', s', b', m', cs', hlit⟩ := (hcs i hi).lit
    rw [hlit] at hld ihi
    rw [List.drop_eq_getElem_cons hi, fewL] at hR
    refine .opv (iaS_sl (k := .i64) (z := 4) (b := b) (n := l.length) (cs := cs) (j := i) rfl hi) (by kernel_rfl) ?_
    refine .opv hld (by kernel_rfl) ?_
    have g1 := push_n g (.cells false t_Value [.d (.i .u8 0), .d (.i .i64 0), .d (.s []), .nilsl])
    refine .op (store_ptr (n := 4) (off := 0) (x := .agg (vA k' n' s' b' m' cs')) g1 rfl) (by kernel_rfl) ?_
    have g2 := Heap.get_set_self (b' := .cells false t_Value (vA k' n' s' b' m' cs')) g1
    refine .op (load_ptr E (ag := true) (n := 4) (off := 0) g2 rfl rfl) (by kernel_rfl) ?_
    have hw : wrap .i64 (.ofNat d - 1) = .ofNat (d - 1) := by
      rw [wrap64 (by simp only [Int.ofNat_eq_natCast]; omega) (by simp only [Int.ofNat_eq_natCast]; omega)]
      simp only [Int.ofNat_eq_natCast]; omega
    rw [← hw] at ihi
    refine .callv (args := [.agg (vA k' n' s' b' m' cs'), .d (.i .i64 (wrap .i64 (.ofNat d - 1)))]) ihi (by kernel_rfl) ?_
    refine .br (iLt 1000000 (wrap .i64 (r + fewV l[i] (d - 1)))) (by kernel_rfl) (fun e2 => ?_) (fun e2 => ?_)
    · rw [if_pos e2] at hR
      exact .out true 0 (by kernel_rfl) (.retI (wrap .i64 (r + fewV l[i] (d - 1))) (by kernel_rfl) hR)
    · rw [if_neg (by rw [e2]; exact fun e => by cases e)] at hR
      refine .next m (by kernel_rfl) (by omega) ⟨i + 1, wrap .i64 (r + fewV l[i] (d - 1)), by omega, hR, .of (by kernel_rfl) ⟨by kernel_rfl, by kernel_rfl, by kernel_rfl, by kernel_rfl, ?_, trivial⟩⟩
      exact Eq.trans (b := .d (.i .i64 (wrap .i64 (.ofNat i + 1)))) (by kernel_rfl) (inc63 (by omega))
  · have : m = 0 := by rw [iLt_not] at e; simp only [Int.ofNat_eq_natCast] at e; omega
    subst this
    rw [List.drop_eq_nil_of_le (by omega)] at hR
    exact .out true 1 (by kernel_rfl) (.retI r (by kernel_rfl) hR)
theorem Few8X {h : Heap} {v : ValS} {cs : List DV} (hv : ValR v cs) (hn : lenV v) : Cal E f_foremanlaw08_Few [.agg (cs.map .d)] h (.nrm, .d (.b (!(iLt 600 (fewV v 20)))), h) := by
  have hf := fewX_ok hv hn 20 (by omega)
  obtain ⟨k', n', s', b', m', cs', rfl⟩ := hv.lit
  refine .w n_foremanlaw08_Few rfl (ds := [.agg [.i .u8 k', .i .i64 n', .s s', .sl b' m' cs']]) (bor := false) rfl ?_
  refine .callv (args := [.agg (vA k' n' s' b' m' cs'), .d (.i .i64 20)]) hf (by kernel_rfl) ?_
  exact .ret rfl (by kernel_rfl)
theorem few_parts {v : ValS} (h : (!(iLt 600 (fewV v 20))) = true) : partsV v ≤ 600 := by
  rw [Bool.not_eq_true', iLt_not] at h
  have := (fewV_is v 20 (by omega)).2.2 (by omega)
  omega
end
end Go.Proofs.YtjacnbabnpgpaaaGreatDoor
