/- Contracts: the document's names and ids. -/
import Derived.Test.YtjacnbabnpgpaaaGreatDoorB
import Derived.Test.YtjacnbabnpgpaaaGreatDoorE
import Derived.Test.YtjacnbabnpgpaaaGreatDoorAB
namespace Go.Proofs.YtjacnbabnpgpaaaGreatDoor
noncomputable section
open Go Go.Abs
set_option maxRecDepth 100000
theorem isLet_iff (c : UInt8) : isLet c = ((decide (97 ≤ c.toNat) && decide (c.toNat ≤ 122)) || (decide (48 ≤ c.toNat) && decide (c.toNat ≤ 57)) || decide (c.toNat = 95)) := by
  have : ∀ n : Nat, n < 256 → isLet (UInt8.ofNat n) = ((decide (97 ≤ n) && decide (n ≤ 122)) || (decide (48 ≤ n) && decide (n ≤ 57)) || decide (n = 95)) := by
    have h : (List.range 256).all (fun n => isLet (UInt8.ofNat n) == ((decide (97 ≤ n) && decide (n ≤ 122)) || (decide (48 ≤ n) && decide (n ≤ 57)) || decide (n = 95))) = true := by kernel_rfl
    intro n hn
    rw [List.all_eq_true] at h
    simpa using h n (by simpa using hn)
  have h2 := this c.toNat c.toNat_lt
  rwa [UInt8.ofNat_toNat] at h2
theorem all_take {p : UInt8 → Bool} {s : List UInt8} {i : Nat} (hi : i < s.length) (h : (s.take i).all p = true) (hc : p s[i] = true) : (s.take (i + 1)).all p = true := by
  rw [List.take_add_one, List.getElem?_eq_getElem hi, List.all_append, h]
  simp [hc]
theorem all_not {p : UInt8 → Bool} {s : List UInt8} {i : Nat} (hi : i < s.length) (hc : p s[i] = false) : s.all p = false := by
  rw [← Bool.not_eq_true, List.all_eq_true]
  intro h
  have := h _ (List.getElem_mem hi)
  rw [hc] at this; cases this
theorem refName_ok {h : Heap} {s : List UInt8} (hl : s.length ≤ 9223372036854775807) : Cal E f_foremanref09_Name [.d (.s s)] h (.nrm, .d (.b (isName s)), h) := by
  refine .w n_foremanref09_Name rfl (ds := [.s s]) (bor := false) rfl ?_
  refine .loop false (fun m tm _ => ∃ i, i + m = s.length ∧ (s.take i).all isLet = true ∧ St 41 [(0, .d (.s s)), (3, mkI i)] tm) s.length (by kernel_rfl)
    ⟨0, by omega, rfl, .of (by kernel_rfl) ⟨by kernel_rfl, by kernel_rfl, trivial⟩⟩ ?_
  rintro m tm g ⟨i, him, hall, g', rfl⟩
  refine .br (iLt (.ofNat i) (.ofNat s.length)) (by kernel_rfl) (fun e => ?_) (fun e => ?_)
  rotate_left
  · have : m = 0 := by rw [iLt_not] at e; simp only [Int.ofNat_eq_natCast] at e; omega
    subst this
    have hin : i = s.length := by omega
    subst hin
    rw [List.take_length] at hall
    refine .out false 1 (by kernel_rfl) ?_
    refine .br (!(iLt (.ofNat s.length) 1)) (by kernel_rfl) (fun e1 => ?_) (fun e1 => ?_)
    · refine .retB (!(iLt 20 (.ofNat s.length))) (by kernel_rfl) ?_
      rw [Bool.not_eq_true', iLt_not] at e1
      simp only [Int.ofNat_eq_natCast] at e1
      unfold isName
      rw [hall, iLt_dec, decide_eq_true (by omega : 1 ≤ s.length), Bool.true_and, Bool.and_true, Bool.eq_iff_iff, Bool.not_eq_true', decide_eq_false_iff_not, decide_eq_true_eq]
      simp only [Int.ofNat_eq_natCast]; omega
    · refine .retB false (by kernel_rfl) ?_
      rw [Bool.not_eq_false', iLt_iff] at e1
      simp only [Int.ofNat_eq_natCast] at e1
      unfold isName
      rw [decide_eq_false (by omega : ¬ 1 ≤ s.length)]; rfl
  have hi : i < s.length := by rw [iLt_iff] at e; simpa using e
  obtain ⟨m, rfl⟩ : ∃ k, m = k + 1 := ⟨m - 1, by omega⟩
  have hlet := isLet_iff s[i]
  have good : isLet s[i] = true → (s.take (i + 1)).all isLet = true := fun hc => all_take hi hall hc
  have bad : isLet s[i] = false → isName s = false := fun hc => by
    unfold isName; rw [all_not hi hc, Bool.and_false]
  have hix := List.getElem?_eq_getElem hi
  generalize s[i] = c at hlet good bad hix
  obtain ⟨z, hz⟩ : ∃ z : Int, z = .ofNat c.toNat := ⟨_, rfl⟩
  have hz2 : z = (c.toNat : Int) := hz
  have hval : ∀ h, s_ixS h [] (.c (.d (.s s))) (.c (.d (.i .i64 (.ofNat i)))) = .val (.d (.i .u8 z)) h := fun h => by
    rw [hz2]; exact ixS_get (k := .i64) (j := i) rfl hix h
  refine .opv hval (by kernel_rfl) ?_
  refine .br (!(iLt z 97)) (by kernel_rfl) (fun t1 => ?_) (fun t1 => ?_)
  · rw [Bool.not_eq_true', iLt_not] at t1
    refine .br (!(iLt 122 z)) (by kernel_rfl) (fun t2 => ?_) (fun t2 => ?_)
    · rw [Bool.not_eq_true', iLt_not] at t2
      refine .next m (by kernel_rfl) (by omega) ⟨i + 1, by omega, good ?_, .of (by kernel_rfl) ⟨by kernel_rfl, ?_, trivial⟩⟩
      · rw [hlet]; rw [Bool.or_eq_true, Bool.or_eq_true, Bool.and_eq_true, Bool.and_eq_true]; simp only [decide_eq_true_eq]; omega
      · exact Eq.trans (b := .d (.i .i64 (wrap .i64 (.ofNat i + 1)))) (by kernel_rfl) (inc63 (by omega))
    · rw [Bool.not_eq_false', iLt_iff] at t2
      refine .br (!(iLt z 48)) (by kernel_rfl) (fun t3 => ?_) (fun t3 => ?_)
      · rw [Bool.not_eq_true', iLt_not] at t3
        refine .br (!(iLt 57 z)) (by kernel_rfl) (fun t4 => ?_) (fun t4 => ?_)
        · rw [Bool.not_eq_true', iLt_not] at t4
          refine .next m (by kernel_rfl) (by omega) ⟨i + 1, by omega, good ?_, .of (by kernel_rfl) ⟨by kernel_rfl, ?_, trivial⟩⟩
          · rw [hlet]; rw [Bool.or_eq_true, Bool.or_eq_true, Bool.and_eq_true, Bool.and_eq_true]; simp only [decide_eq_true_eq]; omega
          · exact Eq.trans (b := .d (.i .i64 (wrap .i64 (.ofNat i + 1)))) (by kernel_rfl) (inc63 (by omega))
        · rw [Bool.not_eq_false', iLt_iff] at t4
          refine .br (!(iEq z 95)) (by kernel_rfl) (fun t5 => ?_) (fun t5 => ?_)
          · rw [Bool.not_eq_true', iEq_not] at t5
            exact .out false 0 (by kernel_rfl) (.retB false (by kernel_rfl) (bad (by rw [hlet]; rw [Bool.or_eq_false_iff, Bool.or_eq_false_iff, Bool.and_eq_false_iff, Bool.and_eq_false_iff]; simp only [decide_eq_false_iff_not]; omega)).symm)
          · rw [Bool.not_eq_false', iEq_iff] at t5
            refine .next m (by kernel_rfl) (by omega) ⟨i + 1, by omega, good ?_, .of (by kernel_rfl) ⟨by kernel_rfl, ?_, trivial⟩⟩
            · rw [hlet]; rw [Bool.or_eq_true, Bool.or_eq_true, Bool.and_eq_true, Bool.and_eq_true]; simp only [decide_eq_true_eq]; omega
            · exact Eq.trans (b := .d (.i .i64 (wrap .i64 (.ofNat i + 1)))) (by kernel_rfl) (inc63 (by omega))
      · rw [Bool.not_eq_false', iLt_iff] at t3
        refine .br (!(iEq z 95)) (by kernel_rfl) (fun t5 => ?_) (fun t5 => ?_)
        · rw [Bool.not_eq_true', iEq_not] at t5
          exact .out false 0 (by kernel_rfl) (.retB false (by kernel_rfl) (bad (by rw [hlet]; rw [Bool.or_eq_false_iff, Bool.or_eq_false_iff, Bool.and_eq_false_iff, Bool.and_eq_false_iff]; simp only [decide_eq_false_iff_not]; omega)).symm)
        · rw [Bool.not_eq_false', iEq_iff] at t5
          refine .next m (by kernel_rfl) (by omega) ⟨i + 1, by omega, good ?_, .of (by kernel_rfl) ⟨by kernel_rfl, ?_, trivial⟩⟩
          · rw [hlet]; rw [Bool.or_eq_true, Bool.or_eq_true, Bool.and_eq_true, Bool.and_eq_true]; simp only [decide_eq_true_eq]; omega
          · exact Eq.trans (b := .d (.i .i64 (wrap .i64 (.ofNat i + 1)))) (by kernel_rfl) (inc63 (by omega))
  · rw [Bool.not_eq_false', iLt_iff] at t1
    refine .br (!(iLt z 48)) (by kernel_rfl) (fun t3 => ?_) (fun t3 => ?_)
    · rw [Bool.not_eq_true', iLt_not] at t3
      refine .br (!(iLt 57 z)) (by kernel_rfl) (fun t4 => ?_) (fun t4 => ?_)
      · rw [Bool.not_eq_true', iLt_not] at t4
        refine .next m (by kernel_rfl) (by omega) ⟨i + 1, by omega, good ?_, .of (by kernel_rfl) ⟨by kernel_rfl, ?_, trivial⟩⟩
        · rw [hlet]; rw [Bool.or_eq_true, Bool.or_eq_true, Bool.and_eq_true, Bool.and_eq_true]; simp only [decide_eq_true_eq]; omega
        · exact Eq.trans (b := .d (.i .i64 (wrap .i64 (.ofNat i + 1)))) (by kernel_rfl) (inc63 (by omega))
      · rw [Bool.not_eq_false', iLt_iff] at t4
        refine .br (!(iEq z 95)) (by kernel_rfl) (fun t5 => ?_) (fun t5 => ?_)
        · rw [Bool.not_eq_true', iEq_not] at t5
          exact .out false 0 (by kernel_rfl) (.retB false (by kernel_rfl) (bad (by rw [hlet]; rw [Bool.or_eq_false_iff, Bool.or_eq_false_iff, Bool.and_eq_false_iff, Bool.and_eq_false_iff]; simp only [decide_eq_false_iff_not]; omega)).symm)
        · rw [Bool.not_eq_false', iEq_iff] at t5
          refine .next m (by kernel_rfl) (by omega) ⟨i + 1, by omega, good ?_, .of (by kernel_rfl) ⟨by kernel_rfl, ?_, trivial⟩⟩
          · rw [hlet]; rw [Bool.or_eq_true, Bool.or_eq_true, Bool.and_eq_true, Bool.and_eq_true]; simp only [decide_eq_true_eq]; omega
          · exact Eq.trans (b := .d (.i .i64 (wrap .i64 (.ofNat i + 1)))) (by kernel_rfl) (inc63 (by omega))
    · rw [Bool.not_eq_false', iLt_iff] at t3
      refine .br (!(iEq z 95)) (by kernel_rfl) (fun t5 => ?_) (fun t5 => ?_)
      · rw [Bool.not_eq_true', iEq_not] at t5
        exact .out false 0 (by kernel_rfl) (.retB false (by kernel_rfl) (bad (by rw [hlet]; rw [Bool.or_eq_false_iff, Bool.or_eq_false_iff, Bool.and_eq_false_iff, Bool.and_eq_false_iff]; simp only [decide_eq_false_iff_not]; omega)).symm)
      · rw [Bool.not_eq_false', iEq_iff] at t5
        refine .next m (by kernel_rfl) (by omega) ⟨i + 1, by omega, good ?_, .of (by kernel_rfl) ⟨by kernel_rfl, ?_, trivial⟩⟩
        · rw [hlet]; rw [Bool.or_eq_true, Bool.or_eq_true, Bool.and_eq_true, Bool.and_eq_true]; simp only [decide_eq_true_eq]; omega
        · exact Eq.trans (b := .d (.i .i64 (wrap .i64 (.ofNat i + 1)))) (by kernel_rfl) (inc63 (by omega))
theorem badC_iff (c : UInt8) : badC c = (decide ((c.toNat : Int) < 33) || decide (126 < (c.toNat : Int))) := rfl
theorem refID_ok {h : Heap} {s : List UInt8} (hl : s.length ≤ 9223372036854775807) : Cal E f_foremanref10_ID [.d (.s s)] h (.nrm, .d (.b (okID s)), h) := by
  refine .w n_foremanref10_ID rfl (ds := [.s s]) (bor := false) rfl ?_
  refine .loop false (fun m tm _ => ∃ i, i + m = s.length ∧ (s.take i).all (fun c => !badC c) = true ∧ St 28 [(0, .d (.s s)), (3, mkI i)] tm) s.length (by kernel_rfl)
    ⟨0, by omega, rfl, .of (by kernel_rfl) ⟨by kernel_rfl, by kernel_rfl, trivial⟩⟩ ?_
  rintro m tm g ⟨i, him, hall, g', rfl⟩
  refine .br (iLt (.ofNat i) (.ofNat s.length)) (by kernel_rfl) (fun e => ?_) (fun e => ?_)
  rotate_left
  · have : m = 0 := by rw [iLt_not] at e; simp only [Int.ofNat_eq_natCast] at e; omega
    subst this
    have hin : i = s.length := by omega
    subst hin
    rw [List.take_length] at hall
    refine .out false 1 (by kernel_rfl) ?_
    refine .br (!(iLt (.ofNat s.length) 1)) (by kernel_rfl) (fun e1 => ?_) (fun e1 => ?_)
    · refine .retB (!(iLt 400 (.ofNat s.length))) (by kernel_rfl) ?_
      rw [Bool.not_eq_true', iLt_not] at e1
      simp only [Int.ofNat_eq_natCast] at e1
      unfold okID
      rw [hall, iLt_dec, decide_eq_true (by omega : 1 ≤ s.length), Bool.true_and, Bool.and_true, Bool.eq_iff_iff, Bool.not_eq_true', decide_eq_false_iff_not, decide_eq_true_eq]
      simp only [Int.ofNat_eq_natCast]; omega
    · refine .retB false (by kernel_rfl) ?_
      rw [Bool.not_eq_false', iLt_iff] at e1
      simp only [Int.ofNat_eq_natCast] at e1
      unfold okID
      rw [decide_eq_false (by omega : ¬ 1 ≤ s.length)]; rfl
  have hi : i < s.length := by rw [iLt_iff] at e; simpa using e
  obtain ⟨m, rfl⟩ : ∃ k, m = k + 1 := ⟨m - 1, by omega⟩
  have hlet := badC_iff s[i]
  have good : badC s[i] = false → (s.take (i + 1)).all (fun c => !badC c) = true := fun hc => all_take hi hall (by rw [hc]; rfl)
  have bad : badC s[i] = true → okID s = false := fun hc => by
    unfold okID; rw [all_not (p := fun c => !badC c) hi (by rw [hc]; rfl), Bool.and_false]
  have hix := List.getElem?_eq_getElem hi
  generalize s[i] = c at hlet good bad hix
  obtain ⟨z, hz⟩ : ∃ z : Int, z = .ofNat c.toNat := ⟨_, rfl⟩
  have hz2 : z = (c.toNat : Int) := hz
  rw [← hz2] at hlet
  have hval : ∀ h, s_ixS h [] (.c (.d (.s s))) (.c (.d (.i .i64 (.ofNat i)))) = .val (.d (.i .u8 z)) h := fun h => by
    rw [hz2]; exact ixS_get (k := .i64) (j := i) rfl hix h
  refine .opv hval (by kernel_rfl) ?_
  refine .br (iLt z 33) (by kernel_rfl) (fun t => ?_) (fun t => ?_)
  · rw [iLt_iff] at t
    exact .out false 0 (by kernel_rfl) (.retB false (by kernel_rfl) (bad (by rw [hlet]; simp [t])).symm)
  rw [iLt_not] at t
  refine .opv hval (by kernel_rfl) ?_
  refine .br (iLt 126 z) (by kernel_rfl) (fun t2 => ?_) (fun t2 => ?_)
  · rw [iLt_iff] at t2
    exact .out false 0 (by kernel_rfl) (.retB false (by kernel_rfl) (bad (by rw [hlet]; simp [t2])).symm)
  rw [iLt_not] at t2
  refine .next m (by kernel_rfl) (by omega) ⟨i + 1, by omega, good ?_, .of (by kernel_rfl) ⟨by kernel_rfl, ?_, trivial⟩⟩
  · rw [hlet, Bool.or_eq_false_iff, decide_eq_false_iff_not, decide_eq_false_iff_not]; omega
  · exact Eq.trans (b := .d (.i .i64 (wrap .i64 (.ofNat i + 1)))) (by kernel_rfl) (inc63 (by omega))
end
end Go.Proofs.YtjacnbabnpgpaaaGreatDoor
