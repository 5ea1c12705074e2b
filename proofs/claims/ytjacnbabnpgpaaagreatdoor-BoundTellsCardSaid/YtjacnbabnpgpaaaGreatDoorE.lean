/- Contracts: op.ID and other small ones of op. -/
import Derived.Test.YtjacnbabnpgpaaaGreatDoorNm
import Derived.Test.YtjacnbabnpgpaaaGreatDoorZE
namespace Go.Proofs.YtjacnbabnpgpaaaGreatDoor
noncomputable section
open Go Go.Abs
set_option maxRecDepth 100000
def badR (r : Int) : Bool := decide (r < 33) || decide (126 < r)
theorem other_ok {h : Heap} (r : Int) : Cal E f_op_ID_1 [.d (.i .i32 r)] h (.nrm, .d (.b (badR r)), h) := by
  refine .w n_op_ID_1 rfl rfl ?_
  refine .br (iLt r 33) (by kernel_rfl) (fun e => .retB true (by kernel_rfl) ?_) (fun e => ?_)
  · rw [iLt_iff] at e; simp [badR, e]
  · refine .retB (iLt 126 r) (by kernel_rfl) ?_
    rw [iLt_dec] at e ⊢
    simp only [badR, e, Bool.false_or]
def badC (c : UInt8) : Bool := badR c.toNat
def idxBad : List UInt8 → Nat → Int
  | [], _ => -1
  | c :: s, p => if badC c then .ofNat p else idxBad s (p + 1)
theorem idxBad_neg (s : List UInt8) (p : Nat) : iLt (idxBad s p) 0 = s.all (fun c => !badC c) := by
  induction s generalizing p with
  | nil => rfl
  | cons c s ih =>
    unfold idxBad
    by_cases h : badC c = true
    · rw [if_pos h]; simp [h]; rfl
    · rw [if_neg h, ih]; simp [h]
def HS (q : List UInt8) (p : Nat) : Heap := ⟨.nd (some (.sit q p)) .lf .lf, 1⟩
theorem indexOther_ok {h : Heap} {args : List AV} {bor : Bool} {s : List UInt8} (ha : stripArgs h args = some ([.s s, .fn (.func f_op_ID_1) [] [], .b true], bor)) : Cal E f_strings_indexFunc args h (.nrm, .d (.i .i64 (idxBad s 0)), h) := by
  refine .w n_strings_indexFunc rfl ha ?_
  refine .loop false (fun m tm h => ∃ q p, m = q.length ∧ idxBad q p = idxBad s 0 ∧ St 21 [(1, .d (.fn (.func f_op_ID_1) [] [])), (2, .d (.b true)), (10, .itr 0)] tm ∧ h = HS q p) s.length (by kernel_rfl)
    ⟨s, 0, rfl, rfl, .of (by kernel_rfl) ⟨by kernel_rfl, by kernel_rfl, by kernel_rfl, trivial⟩, by kernel_rfl⟩ ?_
  rintro m tm h' ⟨q, p, rfl, hR, ⟨g, rfl⟩, rfl⟩
  cases q with
  | nil =>
    refine .op (nxt_nil (h := HS [] p) (b := 0) (p := p) rfl) (by kernel_rfl) ?_
    refine .br false (by kernel_rfl) (fun e => by cases e) (fun _ => ?_)
    refine .out false 1 (by kernel_rfl) (.retI (-1) (by kernel_rfl) ?_)
    rw [← hR]; rfl
  | cons c q =>
    by_cases hc : c.toNat < 128
    · refine .op (nxt_cons (h := HS (c :: q) p) (b := 0) (p := p) rfl (utf8_ascii hc)) (by kernel_rfl) ?_
      refine .br true (by kernel_rfl) (fun _ => ?_) (fun e => by cases e)
      refine .callv (fun h => other_ok (h := h) c.toNat) (by kernel_rfl) ?_
      refine .br (badR c.toNat == true) (by kernel_rfl) (fun e => ?_) (fun e => ?_)
      · refine .out false 0 (by kernel_rfl) (.retI (.ofNat p) (by kernel_rfl) ?_)
        have e : badR c.toNat = true := by simpa using e
        rw [← hR, idxBad, if_pos (show badC c = true from e)]
      · refine .next q.length (by kernel_rfl) (by simp) ⟨q, p + 1, rfl, ?_, .of (by kernel_rfl) ⟨by kernel_rfl, by kernel_rfl, by kernel_rfl, trivial⟩, by kernel_rfl⟩
        have e : badR c.toNat = false := by simpa using e
        rw [← hR, idxBad, if_neg (show ¬ badC c = true from fun h => by have h : badR c.toNat = true := h; rw [h] at e; cases e)]
    · obtain ⟨r, w, hd, hr⟩ := utf8_big (c := c) (s := q) (p := p) (by omega)
      refine .op (nxt_cons (h := HS (c :: q) p) (b := 0) (p := p) rfl hd) (by kernel_rfl) ?_
      refine .br true (by kernel_rfl) (fun _ => ?_) (fun e => by cases e)
      refine .callv (fun h => other_ok (h := h) r) (by kernel_rfl) ?_
      refine .br (badR r == true) (by kernel_rfl) (fun e => ?_) (fun e => ?_)
      · refine .out false 0 (by kernel_rfl) (.retI (.ofNat p) (by kernel_rfl) ?_)
        rw [← hR, idxBad, if_pos (show badC c = true by simp only [badC, badR, Bool.or_eq_true, decide_eq_true_eq]; omega)]
      · exfalso
        have : badR r = true := by simp [badR]; omega
        rw [this] at e; cases e
def okID (s : List UInt8) : Bool := decide (1 ≤ s.length) && decide (s.length ≤ 400) && s.all (fun c => !badC c)
theorem opID_ok {h : Heap} {args : List AV} {bor : Bool} {s : List UInt8} (ha : stripArgs h args = some ([.s s], bor)) : Cal E f_op_ID args h (.nrm, .d (.b (okID s)), h) := by
  have h1 : ∀ h, Cal E f_strings_IndexFunc [.d (.s s), .d (.fn (.func f_op_ID_1) [] [])] h (.nrm, .d (.i .i64 (idxBad s 0)), h) := fun h => by
    refine .w n_strings_IndexFunc rfl (ds := [.s s, .fn (.func f_op_ID_1) [] []]) (bor := false) rfl ?_
    refine .callv (fun h => indexOther_ok (h := h) (s := s) (args := [.d (.s s), .d (.fn (.func f_op_ID_1) [] []), .d (.b true)]) rfl) (by kernel_rfl) ?_
    exact .ret rfl (by kernel_rfl)
  have h2 : ∀ h, Cal E f_strings_ContainsFunc [.d (.s s), .d (.fn (.func f_op_ID_1) [] [])] h (.nrm, .d (.b (!(iLt (idxBad s 0) 0))), h) := fun h => by
    refine .w n_strings_ContainsFunc rfl (ds := [.s s, .fn (.func f_op_ID_1) [] []]) (bor := false) rfl ?_
    refine .callv h1 (by kernel_rfl) ?_
    exact .ret rfl (by kernel_rfl)
  refine .w n_op_ID rfl ha ?_
  refine .br (!(iLt (.ofNat s.length) 1)) (by kernel_rfl) (fun e => ?_) (fun e => .retB false (by kernel_rfl) ?_)
  · refine .br (!(iLt 400 (.ofNat s.length))) (by kernel_rfl) (fun e2 => ?_) (fun e2 => .retB false (by kernel_rfl) ?_)
    · refine .callv h2 (by kernel_rfl) ?_
      refine .retB (!(!(iLt (idxBad s 0) 0))) (by kernel_rfl) ?_
      rw [Bool.not_eq_true', iLt_not] at e e2
      simp only [Int.ofNat_eq_natCast] at e e2
      rw [Bool.not_not, idxBad_neg]
      simp [okID, show 1 ≤ s.length by omega, show s.length ≤ 400 by omega]
    · rw [Bool.not_eq_false', iLt_iff] at e2
      simp only [Int.ofNat_eq_natCast] at e2
      simp [okID, show ¬ s.length ≤ 400 by omega]
  · rw [Bool.not_eq_false', iLt_iff] at e
    simp only [Int.ofNat_eq_natCast] at e
    simp [okID, show ¬ 1 ≤ s.length by omega]
def ofK (w : Int) : Nat := if w = 1 then 3 else if w = 2 then 4 else if w = 3 then 29 else if w = 4 then 12 else if w = 5 then 4 else 0
theorem of_ok {h : Heap} {args : List AV} {bor : Bool} {w : Int} (hw : 0 ≤ w) (hw2 : w ≤ 255) (ha : stripArgs h args = some ([.i .u8 w], bor)) : Cal E f_op_of args h (.nrm, .d (.i .u8 (ofK w)), h) := by
  refine .w n_op_of rfl ha ?_
  by_cases h6 : w < 6
  · have : w = 0 ∨ w = 1 ∨ w = 2 ∨ w = 3 ∨ w = 4 ∨ w = 5 := by omega
    rcases this with rfl | rfl | rfl | rfl | rfl | rfl
    all_goals
      refine .br false (by kernel_rfl) (fun e => by cases e) (fun _ => ?_)
    · refine .opv (iaA_glob (k := .u8) (n := 6) (z := 1) (b := 0) (off := 0) (j := 0) rfl (by omega)) (by kernel_rfl) (.ret rfl (by kernel_rfl))
    · refine .opv (iaA_glob (k := .u8) (n := 6) (z := 1) (b := 0) (off := 0) (j := 1) rfl (by omega)) (by kernel_rfl) (.ret rfl (by kernel_rfl))
    · refine .opv (iaA_glob (k := .u8) (n := 6) (z := 1) (b := 0) (off := 0) (j := 2) rfl (by omega)) (by kernel_rfl) (.ret rfl (by kernel_rfl))
    · refine .opv (iaA_glob (k := .u8) (n := 6) (z := 1) (b := 0) (off := 0) (j := 3) rfl (by omega)) (by kernel_rfl) (.ret rfl (by kernel_rfl))
    · refine .opv (iaA_glob (k := .u8) (n := 6) (z := 1) (b := 0) (off := 0) (j := 4) rfl (by omega)) (by kernel_rfl) (.ret rfl (by kernel_rfl))
    · refine .opv (iaA_glob (k := .u8) (n := 6) (z := 1) (b := 0) (off := 0) (j := 5) rfl (by omega)) (by kernel_rfl) (.ret rfl (by kernel_rfl))
  · refine .br (!(iLt (wrap .i64 w) 6)) (by kernel_rfl) (fun _ => .retI 0 (by kernel_rfl) ?_) (fun e => ?_)
    · unfold ofK
      rw [if_neg (by omega), if_neg (by omega), if_neg (by omega), if_neg (by omega), if_neg (by omega)]; rfl
    · exfalso
      rw [wrap64 (by omega) (by omega), Bool.not_eq_false', iLt_iff] at e
      omega
theorem either_ok {h : Heap} {args : List AV} {bor : Bool} {a b c : Bool} (ha : stripArgs h args = some ([.b a, .b b, .b c], bor)) : Cal E f_op_either args h (.nrm, .d (.b (if a then b else c)), h) := by
  refine .w n_op_either rfl ha ?_
  refine .br a (by kernel_rfl) (fun e => .retB b (by kernel_rfl) (by rw [e]; rfl)) (fun e => .retB c (by kernel_rfl) (by rw [e]; rfl))
end
end Go.Proofs.YtjacnbabnpgpaaaGreatDoor
