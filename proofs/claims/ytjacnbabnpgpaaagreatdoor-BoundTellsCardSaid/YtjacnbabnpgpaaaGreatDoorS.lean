/- The plain law: no operation of a right form has more bytes than that. -/
import Derived.Test.YtjacnbabnpgpaaaGreatDoorM
import Derived.Test.YtjacnbabnpgpaaaGreatDoorH
namespace Go.Proofs.YtjacnbabnpgpaaaGreatDoor
noncomputable section
open Go Go.Abs
set_option maxRecDepth 100000
def opB (o : OpS) : List UInt8 := if o.what = 1 then numB 1 ++ fragB o.frag ++ numB o.quota else if o.what = 2 then numB 2 ++ textB o.id else if o.what = 3 then numB 3 ++ textB o.id ++ numB o.token ++ valB o.val ++ fragB o.frag else if o.what = 4 then numB 4 ++ textB o.id ++ numB o.token else if o.what = 5 then numB 5 ++ textB o.id else []
theorem grp_one {k u : Nat} (h : u < 128) : (grp (k + 1) u).length = 1 := by
  unfold grp
  rw [show Nat.blt u 128 = true by rw [Nat.blt_eq]; exact h]; rfl
theorem grp_two {k u : Nat} (h : u < 16384) : (grp (k + 2) u).length ≤ 2 := by
  unfold grp
  split
  · show 1 ≤ 2; omega
  · rw [List.length_cons, grp_one (by omega)]; exact Nat.le_refl _
theorem numB_one {n : Int} (h0 : 0 ≤ n) (h : n ≤ 63) : (numB n).length = 1 := by
  obtain ⟨a, rfl⟩ : ∃ a : Nat, n = .ofNat a := ⟨n.toNat, by simp only [Int.ofNat_eq_natCast]; omega⟩
  simp only [Int.ofNat_eq_natCast] at h
  exact grp_one (by show 2 * a < 128; omega)
theorem numB_two {n : Int} (h0 : 0 ≤ n) (h : n ≤ 8191) : (numB n).length ≤ 2 := by
  obtain ⟨a, rfl⟩ : ∃ a : Nat, n = .ofNat a := ⟨n.toNat, by simp only [Int.ofNat_eq_natCast]; omega⟩
  simp only [Int.ofNat_eq_natCast] at h
  exact grp_two (by show 2 * a < 16384; omega)
theorem textB_one {s : List UInt8} (h : s.length ≤ 63) : (textB s).length = 1 + s.length := by
  unfold textB
  rw [List.length_append, numB_one (by simp only [Int.ofNat_eq_natCast]; omega) (by simp only [Int.ofNat_eq_natCast]; omega)]
theorem textB_two {s : List UInt8} (h : s.length ≤ 8191) : (textB s).length ≤ 2 + s.length := by
  unfold textB
  rw [List.length_append]
  have := numB_two (n := .ofNat s.length) (by simp only [Int.ofNat_eq_natCast]; omega) (by simp only [Int.ofNat_eq_natCast]; omega)
  omega
mutual
theorem valB_le : ∀ (v : ValS) (d : Nat) (r r' : Int), fitV v d r = some r' → r' ≤ r - 1 ∧ ((valB v).length : Int) ≤ 103 * (r - r')
  | .mk k n s l, d, r, r', h => by
    unfold fitV at h
    split at h
    · cases h
    · rename_i hc
      rw [Bool.or_eq_false_iff, Bool.or_eq_false_iff] at hc
      have hp : plainB k n s l.length = true := by simpa using hc.2
      have hl := valsB_le l (d - 1) (r - 1) r' h
      have hk : k = 0 ∨ k = 1 ∨ k = 2 := by
        unfold plainB at hp
        split at hp
        · exact .inl ‹_›
        split at hp
        · exact .inr (.inl ‹_›)
        split at hp
        · exact .inr (.inr ‹_›)
        · cases hp
      refine ⟨by omega, ?_⟩
      unfold valB
      rw [List.length_append]
      rcases hk with rfl | rfl | rfl
      · have := numB_one (n := 0) (by omega) (by omega)
        have := (numB_len n).2
        rw [if_pos rfl]; omega
      · have h1 := numB_one (n := 1) (by omega) (by omega)
        have hs : s.length ≤ 100 := by
          unfold plainB at hp
          rw [if_neg (by omega), if_pos rfl] at hp
          simp only [Bool.and_eq_true, decide_eq_true_eq] at hp
          exact hp.2
        have := textB_two (s := s) (by omega)
        rw [if_neg (by omega), if_pos rfl]; omega
      · have h1 := numB_one (n := 2) (by omega) (by omega)
        have hs : l.length ≤ 40 := by
          unfold plainB at hp
          rw [if_neg (by omega), if_neg (by omega), if_pos rfl] at hp
          simp only [Bool.and_eq_true, decide_eq_true_eq] at hp
          exact hp.2
        have h2 := numB_one (n := .ofNat l.length) (by simp only [Int.ofNat_eq_natCast]; omega) (by simp only [Int.ofNat_eq_natCast]; omega)
        rw [if_neg (by omega), if_neg (by omega), List.length_append]
        have := hl.2
        omega
theorem valsB_le : ∀ (l : List ValS) (d : Nat) (r r' : Int), fitL l d r = some r' → r' ≤ r ∧ ((valsB l).length : Int) ≤ 103 * (r - r')
  | [], d, r, r', h => by
    unfold fitL at h
    cases h
    unfold valsB
    simp
  | v :: l, d, r, r', h => by
    unfold fitL at h
    split at h
    · cases h
    · rename_i x hx
      have h1 := valB_le v d r x hx
      have h2 := valsB_le l d x r' h
      unfold valsB
      rw [List.length_append]
      omega
end
theorem fitV_nonneg {v : ValS} {d : Nat} {r r' : Int} (h : fitV v d r = some r') : 0 ≤ r' := by
  have key : (∀ (v : ValS) (d : Nat) (r r' : Int), fitV v d r = some r' → 0 ≤ r') := by
    intro v
    induction v using ValS.rec (motive_2 := fun l => ∀ (d : Nat) (r r' : Int), 0 ≤ r → fitL l d r = some r' → 0 ≤ r') with
    | mk k n s l ih =>
      intro d r r' h
      unfold fitV at h
      split at h
      · cases h
      · rename_i hc
        rw [Bool.or_eq_false_iff, Bool.or_eq_false_iff, decide_eq_false_iff_not] at hc
        exact ih (d - 1) (r - 1) r' (by omega) h
    | nil =>
      rename_i r r' h0 h
      unfold fitL at h
      cases h; exact h0
    | cons v l ih1 ih2 =>
      rename_i d r r' h0 h
      unfold fitL at h
      split at h
      · cases h
      · rename_i x hx
        exact ih2 d x r' (ih1 d r x hx) h
  exact key v d r r' h
theorem rightV_le {v : ValS} (h : rightV v = true) : (valB v).length ≤ 20600 := by
  unfold rightV at h
  cases hf : fitV v 6 200 with
  | none => rw [hf] at h; cases h
  | some r' =>
    have h1 := valB_le v 6 200 r' hf
    have h2 := fitV_nonneg hf
    omega
theorem name_le {s : List UInt8} (h : isName s = true) : (textB s).length ≤ 21 := by
  unfold isName at h
  simp only [Bool.and_eq_true, decide_eq_true_eq] at h
  rw [textB_one (by omega)]; omega
theorem names_le : ∀ {l : List (List UInt8)}, l.all isName = true → (strsB l).length ≤ 21 * l.length
  | [], _ => by simp [strsB]
  | s :: l, h => by
    rw [List.all_cons, Bool.and_eq_true] at h
    have := name_le h.1
    have := names_le h.2
    unfold strsB
    rw [List.length_append, List.length_cons]; omega
theorem within_iff {n m : Int} (h : within n m = true) : 0 ≤ n ∧ n ≤ m := by
  unfold within at h
  simpa using h
theorem item_le {x : ItemS} (h : fitsI x = true) : (itemB x).length ≤ 467 := by
  unfold fitsI at h
  simp only [Bool.and_eq_true, decide_eq_true_eq] at h
  obtain ⟨⟨⟨⟨h1, h2⟩, h3⟩, h4⟩, h5⟩ := h
  have e1 := name_le h1
  have e3 := within_iff h3
  have e4 := names_le h4
  have e6 := numB_one (n := .ofNat x.after.length) (by simp only [Int.ofNat_eq_natCast]; omega) (by simp only [Int.ofNat_eq_natCast]; omega)
  have e7 := numB_two (n := x.quota) e3.1 (by omega)
  unfold itemB
  simp only [List.length_append]
  by_cases hk : x.kind = 0
  · have e8 := numB_one (n := x.kind) (by omega) (by omega)
    rw [if_neg (by omega)]
    simp only [List.length_nil]; omega
  · rw [if_neg hk] at h5
    by_cases hk1 : x.kind = 1
    · rw [if_pos hk1, Bool.and_eq_true] at h5
      have e8 := numB_one (n := x.kind) (by omega) (by omega)
      have e9 := name_le h5.1
      have e10 := within_iff h5.2
      have e11 := numB_one (n := x.width) e10.1 (by omega)
      rw [if_pos hk1, List.length_append]; omega
    · rw [if_neg hk1] at h5; cases h5
theorem items_le : ∀ {l : List ItemS}, l.all fitsI = true → (itemsB l).length ≤ 467 * l.length
  | [], _ => by simp [itemsB]
  | s :: l, h => by
    rw [List.all_cons, Bool.and_eq_true] at h
    have := item_le h.1
    have := items_le h.2
    unfold itemsB
    rw [List.length_append, List.length_cons]; omega
theorem frag_le {l : List ItemS} (h : rightF l = true) : (fragB l).length ≤ 18681 := by
  unfold rightF at h
  rw [Bool.and_eq_true, decide_eq_true_eq] at h
  have := items_le h.2
  have e := numB_one (n := .ofNat l.length) (by simp only [Int.ofNat_eq_natCast]; omega) (by simp only [Int.ofNat_eq_natCast]; omega)
  unfold fragB
  rw [List.length_append]; omega
theorem id_le {s : List UInt8} (h : okID s = true) : (textB s).length ≤ 402 := by
  unfold okID at h
  simp only [Bool.and_eq_true, decide_eq_true_eq] at h
  have := textB_two (s := s) (by omega)
  omega
theorem opB_le {o : OpS} (h : rightO o = true) : (opB o).length ≤ 39694 := by
  have n1 := numB_one (n := 1) (by omega) (by omega)
  have n2 := numB_one (n := 2) (by omega) (by omega)
  have n3 := numB_one (n := 3) (by omega) (by omega)
  have n4 := numB_one (n := 4) (by omega) (by omega)
  have n5 := numB_one (n := 5) (by omega) (by omega)
  have nt := (numB_len o.token).2
  unfold rightO at h
  split at h
  · rename_i e
    simp only [rightK, Bool.and_eq_true] at h
    have hf := frag_le h.1
    have hq := (numB_len o.quota).2
    unfold opB
    rw [if_pos e]
    simp only [List.length_append]; omega
  split at h
  · rename_i e0 e
    simp only [rightK, Bool.and_eq_true] at h
    have hi := id_le h.2.2.1
    unfold opB
    rw [if_neg e0, if_pos e]
    simp only [List.length_append]; omega
  split at h
  · rename_i e0 e1 e
    simp only [rightK, Bool.and_eq_true] at h
    have hf := frag_le h.1
    have hi := id_le h.2.2.1
    have hv := rightV_le h.2.2.2.2
    unfold opB
    rw [if_neg e0, if_neg e1, if_pos e]
    simp only [List.length_append]; omega
  split at h
  · rename_i e0 e1 e2 e
    simp only [rightK, Bool.and_eq_true] at h
    have hi := id_le h.2.2.1
    unfold opB
    rw [if_neg e0, if_neg e1, if_neg e2, if_pos e]
    simp only [List.length_append]; omega
  split at h
  · rename_i e0 e1 e2 e3 e
    simp only [rightK, Bool.and_eq_true] at h
    have hi := id_le h.2.2.1
    unfold opB
    rw [if_neg e0, if_neg e1, if_neg e2, if_neg e3, if_pos e]
    simp only [List.length_append]; omega
  · cases h
end
end Go.Proofs.YtjacnbabnpgpaaaGreatDoor
