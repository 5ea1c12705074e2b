/- Contracts: the document's values; the plain law beside the program's. -/
import Derived.Test.YtjacnbabnpgpaaaGreatDoorAB
import Derived.Test.YtjacnbabnpgpaaaGreatDoorH
namespace Go.Proofs.YtjacnbabnpgpaaaGreatDoor
noncomputable section
open Go Go.Abs
set_option maxRecDepth 100000
mutual
def partsV : ValS → Nat
  | .mk _ _ _ l => 1 + partsL l
def partsL : List ValS → Nat
  | [] => 0
  | v :: l => partsV v + partsL l
end
mutual
def deepV : ValS → Nat
  | .mk _ _ _ l => deepL l + 1
def deepL : List ValS → Nat
  | [] => 0
  | v :: l => max (deepV v) (deepL l)
end
mutual
def kindsV : ValS → Bool
  | .mk k n s l => plainB k n s l.length && kindsL l
def kindsL : List ValS → Bool
  | [] => true
  | v :: l => kindsV v && kindsL l
end
mutual
theorem fitV_iff : ∀ (v : ValS) (d : Nat) (r : Int), 0 ≤ r → fitV v d r = (if kindsV v = true ∧ deepV v ≤ d ∧ (partsV v : Int) ≤ r then some (r - partsV v) else none)
  | .mk k n s l, d, r, h0 => by
    have hl := fitL_iff l (d - 1) (r - 1)
    unfold fitV
    split
    · rename_i hc
      rw [if_neg]
      rintro ⟨h1, h2, h3⟩
      unfold kindsV at h1
      rw [Bool.and_eq_true] at h1
      rw [Bool.or_eq_true, Bool.or_eq_true, decide_eq_true_eq, decide_eq_true_eq, h1.1] at hc
      unfold partsV at h3
      unfold deepV at h2
      rcases hc with (h | h) | h
      · omega
      · omega
      · cases h
    · rename_i hc
      rw [Bool.or_eq_false_iff, Bool.or_eq_false_iff, decide_eq_false_iff_not, decide_eq_false_iff_not] at hc
      have hp : plainB k n s l.length = true := by simpa using hc.2
      rw [hl (by omega)]
      unfold kindsV deepV partsV
      rw [hp, Bool.true_and]
      by_cases h : kindsL l = true ∧ deepL l ≤ d - 1 ∧ (partsL l : Int) ≤ r - 1
      · rw [if_pos h, if_pos ⟨h.1, by have := h.2.1; omega, by have := h.2.2; omega⟩]
        congr 1; omega
      · rw [if_neg h, if_neg (fun h2 => h ⟨h2.1, by have := h2.2.1; omega, by have := h2.2.2; omega⟩)]
theorem fitL_iff : ∀ (l : List ValS) (d : Nat) (r : Int), 0 ≤ r → fitL l d r = (if kindsL l = true ∧ deepL l ≤ d ∧ (partsL l : Int) ≤ r then some (r - partsL l) else none)
  | [], d, r, h0 => by
    unfold fitL kindsL deepL partsL
    rw [if_pos ⟨rfl, by omega, by omega⟩]
    congr 1; omega
  | v :: l, d, r, h0 => by
    unfold fitL
    rw [fitV_iff v d r h0]
    by_cases hv : kindsV v = true ∧ deepV v ≤ d ∧ (partsV v : Int) ≤ r
    · rw [if_pos hv]
      show fitL l d (r - partsV v) = _
      rw [fitL_iff l d (r - partsV v) (by have := hv.2.2; omega)]
      rw [show kindsL (v :: l) = (kindsV v && kindsL l) from rfl, show deepL (v :: l) = max (deepV v) (deepL l) from rfl, show partsL (v :: l) = partsV v + partsL l from rfl, hv.1, Bool.true_and]
      by_cases h : kindsL l = true ∧ deepL l ≤ d ∧ (partsL l : Int) ≤ r - partsV v
      · rw [if_pos h, if_pos ⟨h.1, by have := h.2.1; have := hv.2.1; omega, by have := h.2.2; omega⟩]
        congr 1; omega
      · rw [if_neg h, if_neg (fun h2 => h ⟨h2.1, by have := h2.2.1; omega, by have := h2.2.2; omega⟩)]
    · rw [if_neg hv]
      show none = _
      rw [show kindsL (v :: l) = (kindsV v && kindsL l) from rfl, show deepL (v :: l) = max (deepV v) (deepL l) from rfl, show partsL (v :: l) = partsV v + partsL l from rfl, if_neg]
      rintro ⟨h1, h2, h3⟩
      rw [Bool.and_eq_true] at h1
      exact hv ⟨h1.1, by omega, by omega⟩
end
theorem rightV_iff (v : ValS) : rightV v = (kindsV v && (decide (deepV v ≤ 6) && decide (partsV v ≤ 200))) := by
  unfold rightV
  rw [fitV_iff v 6 200 (by omega)]
  by_cases h : kindsV v = true ∧ deepV v ≤ 6 ∧ (partsV v : Int) ≤ 200
  · rw [if_pos h, h.1, decide_eq_true h.2.1, decide_eq_true (by have := h.2.2; omega : partsV v ≤ 200)]; rfl
  · rw [if_neg h]
    show false = _
    rw [eq_comm, ← Bool.not_eq_true, Bool.and_eq_true, Bool.and_eq_true, decide_eq_true_eq, decide_eq_true_eq]
    exact fun h2 => h ⟨h2.1, h2.2.1, by have := h2.2.2; omega⟩
mutual
theorem deep_parts : ∀ v : ValS, deepV v ≤ partsV v
  | .mk _ _ _ l => by
    have := deep_partsL l
    unfold deepV partsV; omega
theorem deep_partsL : ∀ l : List ValS, deepL l ≤ partsL l
  | [] => Nat.le_refl _
  | v :: l => by
    have := deep_parts v
    have := deep_partsL l
    unfold deepL partsL; omega
end
theorem partsL_get : ∀ {l : List ValS} {i : Nat} (hi : i < l.length), partsV l[i] ≤ partsL l
  | v :: l, 0, _ => by unfold partsL; show partsV v ≤ _; omega
  | v :: l, i + 1, hi => by
    have := partsL_get (l := l) (i := i) (by simpa using hi)
    unfold partsL
    show partsV (l[i]'(by simpa using hi)) ≤ _
    omega
theorem partsL_take : ∀ {l : List ValS} {i : Nat} (hi : i < l.length), partsL (l.take (i + 1)) = partsL (l.take i) + partsV l[i]
  | v :: l, 0, _ => by
    show partsV v + partsL (l.take 0) = 0 + partsV v
    rw [List.take_zero]; unfold partsL; omega
  | v :: l, i + 1, hi => by
    have := partsL_take (l := l) (i := i) (by simpa using hi)
    show partsV v + partsL (l.take (i + 1)) = partsV v + partsL (l.take i) + partsV (l[i]'(by simpa using hi))
    omega
theorem partsL_le : ∀ {l : List ValS} {i : Nat}, partsL (l.take i) ≤ partsL l
  | [], i => by rw [List.take_nil]; exact Nat.le_refl _
  | v :: l, 0 => Nat.zero_le _
  | v :: l, i + 1 => by
    have := partsL_le (l := l) (i := i)
    show partsV v + partsL (l.take i) ≤ partsV v + partsL l
    omega
theorem len_parts : ∀ l : List ValS, l.length ≤ partsL l
  | [] => Nat.le_refl _
  | v :: l => by
    have := len_parts l
    have : 1 ≤ partsV v := by cases v; unfold partsV; omega
    unfold partsL
    rw [List.length_cons]; omega
theorem deepL_take : ∀ {l : List ValS} {i : Nat} (hi : i < l.length), deepL (l.take (i + 1)) = max (deepL (l.take i)) (deepV l[i])
  | v :: l, 0, _ => by
    show max (deepV v) (deepL (l.take 0)) = max 0 (deepV v)
    rw [List.take_zero]; unfold deepL; omega
  | v :: l, i + 1, hi => by
    have := deepL_take (l := l) (i := i) (by simpa using hi)
    show max (deepV v) (deepL (l.take (i + 1))) = max (max (deepV v) (deepL (l.take i))) (deepV (l[i]'(by simpa using hi)))
    omega
theorem kindsL_take : ∀ {l : List ValS} {i : Nat} (hi : i < l.length), kindsL (l.take (i + 1)) = (kindsL (l.take i) && kindsV l[i])
  | v :: l, 0, _ => by
    show (kindsV v && kindsL (l.take 0)) = (true && kindsV v)
    rw [List.take_zero]; unfold kindsL; rw [Bool.and_true, Bool.true_and]
  | v :: l, i + 1, hi => by
    have := kindsL_take (l := l) (i := i) (by simpa using hi)
    show (kindsV v && kindsL (l.take (i + 1))) = (kindsV v && kindsL (l.take i) && kindsV (l[i]'(by simpa using hi)))
    rw [this, Bool.and_assoc]
theorem kindsL_bad : ∀ {l : List ValS} {i : Nat} (hi : i < l.length), kindsV l[i] = false → kindsL l = false
  | v :: l, 0, _, h => by unfold kindsL; rw [show kindsV v = false from h]; rfl
  | v :: l, i + 1, hi, h => by
    have := kindsL_bad (l := l) (i := i) (by simpa using hi) h
    unfold kindsL; rw [this, Bool.and_false]
abbrev vA (k n : Int) (s : List UInt8) (b : Bool) (m : Nat) (cs : List DV) : List AV := [.d (.i .u8 k), .d (.i .i64 n), .d (.s s), .d (.sl b m cs)]
theorem parts_ok {v : ValS} {cs : List DV} (hv : ValR v cs) : partsV v ≤ 1000000 → ∀ h, Cal E f_foremanref08_Parts [.agg (cs.map .d)] h (.nrm, .d (.i .i64 (.ofNat (partsV v))), h) := by
  induction hv with
  | sl k n s l b cs hl hcs hkn ih =>
  intro hp h
  unfold partsV at hp ⊢
  have hlen := len_parts l
  refine .w n_foremanref08_Parts rfl (ds := [.agg [.i .u8 k, .i .i64 n, .s s, .sl b l.length cs]]) (bor := false) rfl ?_
  refine .loop false (fun m tm g => ∃ i, i + m = l.length ∧ g = Heap.empty.push (.cells false t_Value (vA k n s b l.length cs)) ∧ St 21 [(1, .ptr 0 0), (3, .d (.i .i64 (.ofNat (1 + partsL (l.take i))))), (4, mkI i)] tm) l.length (by kernel_rfl)
    ⟨0, by omega, by kernel_rfl, .of (by kernel_rfl) ⟨by kernel_rfl, by kernel_rfl, by kernel_rfl, trivial⟩⟩ ?_
  rintro m tm _ ⟨i, him, rfl, g', rfl⟩
  refine .br (iLt (.ofNat i) (.ofNat l.length)) (by kernel_rfl) (fun e => ?_) (fun e => ?_)
  · have hi : i < l.length := by rw [iLt_iff] at e; simpa using e
    obtain ⟨m, rfl⟩ : ∃ k, m = k + 1 := ⟨m - 1, by omega⟩
    have hld := load_bx E (b := b) hl hi
    have ht := partsL_take hi
    have ht2 := partsL_le (l := l) (i := i + 1)
    have ihi := ih i hi (by have := partsL_get hi; omega)
    obtain ⟨k', n', s', b', m', cs', hlit⟩ := (hcs i hi).lit
    rw [hlit] at hld ihi
    refine .opv (iaS_sl (k := .i64) (z := 4) (b := b) (n := l.length) (cs := cs) (j := i) rfl hi) (by kernel_rfl) ?_
    refine .opv hld (by kernel_rfl) ?_
    refine .callv (args := [.agg (vA k' n' s' b' m' cs')]) ihi (by kernel_rfl) ?_
    refine .next m (by kernel_rfl) (by omega) ⟨i + 1, by omega, by kernel_rfl, .of (by kernel_rfl) ⟨by kernel_rfl, ?_, ?_, trivial⟩⟩
    · refine Eq.trans (b := .d (.i .i64 (wrap .i64 (.ofNat (1 + partsL (l.take i)) + .ofNat (partsV l[i]))))) (by kernel_rfl) ?_
      rw [wrap64 (by simp only [Int.ofNat_eq_natCast]; omega) (by simp only [Int.ofNat_eq_natCast]; omega), ht]
      congr 2
      simp only [Int.ofNat_eq_natCast]; omega
    · exact Eq.trans (b := .d (.i .i64 (wrap .i64 (.ofNat i + 1)))) (by kernel_rfl) (inc63 (by omega))
  · have : m = 0 := by rw [iLt_not] at e; simp only [Int.ofNat_eq_natCast] at e; omega
    subst this
    have hin : i = l.length := by omega
    subst hin
    refine .out false 1 (by kernel_rfl) (.retI (.ofNat (1 + partsL (l.take l.length))) (by kernel_rfl) ?_)
    rw [List.take_length]
theorem deep_ok {v : ValS} {cs : List DV} (hv : ValR v cs) : partsV v ≤ 1000000 → ∀ h, Cal E f_foremanref08_Deep [.agg (cs.map .d)] h (.nrm, .d (.i .i64 (.ofNat (deepV v))), h) := by
  induction hv with
  | sl k n s l b cs hl hcs hkn ih =>
  intro hp h
  have hdp := deep_partsL l
  unfold partsV at hp
  unfold deepV
  have hlen := len_parts l
  refine .w n_foremanref08_Deep rfl (ds := [.agg [.i .u8 k, .i .i64 n, .s s, .sl b l.length cs]]) (bor := false) rfl ?_
  refine .loop false (fun m tm g => ∃ i, i + m = l.length ∧ g = Heap.empty.push (.cells false t_Value (vA k n s b l.length cs)) ∧ St 25 [(1, .ptr 0 0), (3, .d (.i .i64 (.ofNat (deepL (l.take i))))), (4, mkI i)] tm) l.length (by kernel_rfl)
    ⟨0, by omega, by kernel_rfl, .of (by kernel_rfl) ⟨by kernel_rfl, by kernel_rfl, by kernel_rfl, trivial⟩⟩ ?_
  rintro m tm _ ⟨i, him, rfl, g', rfl⟩
  refine .br (iLt (.ofNat i) (.ofNat l.length)) (by kernel_rfl) (fun e => ?_) (fun e => ?_)
  · have hi : i < l.length := by rw [iLt_iff] at e; simpa using e
    obtain ⟨m, rfl⟩ : ∃ k, m = k + 1 := ⟨m - 1, by omega⟩
    have hld := load_bx E (b := b) hl hi
    have ht := deepL_take hi
    have ihi := ih i hi (by have := partsL_get hi; omega)
    obtain ⟨k', n', s', b', m', cs', hlit⟩ := (hcs i hi).lit
    rw [hlit] at hld ihi
    refine .opv (iaS_sl (k := .i64) (z := 4) (b := b) (n := l.length) (cs := cs) (j := i) rfl hi) (by kernel_rfl) ?_
    refine .opv hld (by kernel_rfl) ?_
    refine .callv (args := [.agg (vA k' n' s' b' m' cs')]) ihi (by kernel_rfl) ?_
    refine .br (iLt (.ofNat (deepL (l.take i))) (.ofNat (deepV l[i]))) (by kernel_rfl) (fun e2 => ?_) (fun e2 => ?_)
    · rw [iLt_iff] at e2; simp only [Int.ofNat_eq_natCast] at e2
      refine .next m (by kernel_rfl) (by omega) ⟨i + 1, by omega, by kernel_rfl, .of (by kernel_rfl) ⟨by kernel_rfl, ?_, ?_, trivial⟩⟩
      · exact Eq.trans (b := .d (.i .i64 (.ofNat (deepV l[i])))) (by kernel_rfl) (by rw [ht, Nat.max_eq_right (by omega)])
      · exact Eq.trans (b := .d (.i .i64 (wrap .i64 (.ofNat i + 1)))) (by kernel_rfl) (inc63 (by omega))
    · rw [iLt_not] at e2; simp only [Int.ofNat_eq_natCast] at e2
      refine .next m (by kernel_rfl) (by omega) ⟨i + 1, by omega, by kernel_rfl, .of (by kernel_rfl) ⟨by kernel_rfl, ?_, ?_, trivial⟩⟩
      · exact Eq.trans (b := .d (.i .i64 (.ofNat (deepL (l.take i))))) (by kernel_rfl) (by rw [ht, Nat.max_eq_left (by omega)])
      · exact Eq.trans (b := .d (.i .i64 (wrap .i64 (.ofNat i + 1)))) (by kernel_rfl) (inc63 (by omega))
  · have : m = 0 := by rw [iLt_not] at e; simp only [Int.ofNat_eq_natCast] at e; omega
    subst this
    have hin : i = l.length := by omega
    subst hin
    refine .out false 1 (by kernel_rfl) (.retI (wrap .i64 (.ofNat (deepL (l.take l.length)) + 1)) (by kernel_rfl) ?_)
    rw [List.take_length, wrap64 (by simp only [Int.ofNat_eq_natCast]; omega) (by simp only [Int.ofNat_eq_natCast]; omega)]; rfl
end
end Go.Proofs.YtjacnbabnpgpaaaGreatDoor
