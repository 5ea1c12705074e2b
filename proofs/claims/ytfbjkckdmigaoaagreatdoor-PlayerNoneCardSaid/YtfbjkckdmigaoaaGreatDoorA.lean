/- Parts of a text, line by line; contracts: strings.Index, strings.Count of a line's end. -/
import Derived.Test.YtfbjkckdmigaoaaGreatDoorAwS
import Derived.Test.YtfbjkckdmigaoaaGreatDoorZE
namespace Go.Proofs.YtfbjkckdmigaoaaGreatDoor
open Go Go.Abs
set_option maxRecDepth 100000
noncomputable section
def parts : List UInt8 → List (List UInt8)
  | [] => [[]]
  | b :: r => match Nat.beq b.toNat 10 with
    | true => [] :: parts r
    | false => match parts r with
      | [] => [[b]]
      | p :: q => (b :: p) :: q
theorem parts_cnt : ∀ (s : List UInt8) (n : Nat),cntByte 10 s n + 1 = n + (parts s).length := by
  intro s
  induction s with
  | nil => intro n; rfl
  | cons b r ih =>
    intro n
    unfold cntByte parts
    cases Nat.beq b.toNat 10 with
    | true => simp only [List.length_cons]; rw [ih]; omega
    | false =>
      simp only
      rw [ih]
      cases hp : parts r with
      | nil => have := ih 0; rw [hp] at this; simp at this
      | cons p q => rfl
theorem cnt_le : ∀ (s : List UInt8) (n : Nat),cntByte 10 s n ≤ n + s.length := by
  intro s
  induction s with
  | nil => intro n; exact Nat.le_refl _
  | cons b r ih =>
    intro n
    unfold cntByte
    cases Nat.beq b.toNat 10 with
    | true => have := ih (n + 1); simp only [List.length_cons]; omega
    | false => have := ih n; simp only [List.length_cons]; omega
theorem parts_ne (s : List UInt8) : parts s ≠ [] := by
  intro e
  have := parts_cnt s 0
  rw [e] at this
  simp at this
theorem idx_cases : ∀ (s : List UInt8) (i : Nat),(idxByte 10 s i = -1 ∧ parts s = [s]) ∨ ∃ m,idxByte 10 s i = .ofNat (i + m) ∧ m < s.length ∧ parts s = s.take m :: parts (s.drop (m + 1)) := by
  intro s
  induction s with
  | nil => intro i; exact .inl ⟨rfl,rfl⟩
  | cons b r ih =>
    intro i
    unfold idxByte
    cases hb : Nat.beq b.toNat 10 with
    | true => refine .inr ⟨0,rfl,by simp,?_⟩; simp [parts,hb]
    | false =>
      rcases ih (i + 1) with ⟨h1,h2⟩ | ⟨m,h1,h2,h3⟩
      · exact .inl ⟨h1,by simp [parts,hb,h2]⟩
      · refine .inr ⟨m + 1,by simp only [h1]; congr 1; omega,by simp; omega,?_⟩
        simp [parts,hb,h3]
theorem fn23 : E.fn 23 = some a23 := by kernel_rfl
theorem fn49 : E.fn 49 = some a49 := by kernel_rfl
theorem fn85 : E.fn 85 = some a85 := by kernel_rfl
theorem fn22 : E.fn 22 = some a22 := by kernel_rfl
theorem ixb_ok (s : List UInt8) (h : Heap) : Cal E 85 [.d (.s s),.d (.i .u8 10)] h (.nrm,.d (.i .i64 (idxByte 10 s 0)),h) := by
  refine .w fn85 rfl rfl ?_
  refine .opR (by kernel_rfl) ?_
  exact .ret rfl (by kernel_rfl)
theorem six_ok (s : List UInt8) (h : Heap) : Cal E 49 [.d (.s s),.d (.s [10])] h (.nrm,.d (.i .i64 (idxByte 10 s 0)),h) := by
  refine .w fn49 rfl rfl ?_
  refine .br false (by kernel_rfl) (fun e => nomatch e) (fun _ => ?_)
  refine .br (strEq [10] s) (by kernel_rfl) (fun e => ?_) (fun e => ?_)
  · have : [10] = s := by simpa [strEq] using e
    subst this
    exact .ret rfl (by kernel_rfl)
  · refine .br true (by kernel_rfl) (fun _ => ?_) (fun e => nomatch e)
    refine .opR (by kernel_rfl) ?_
    refine .callv (ixb_ok s) (by kernel_rfl) ?_
    exact .ret rfl (by kernel_rfl)
theorem index_ok (s : List UInt8) (h : Heap) : Cal E 23 [.d (.s s),.d (.s [10])] h (.nrm,.d (.i .i64 (idxByte 10 s 0)),h) := by
  refine .w fn23 rfl rfl ?_
  refine .callv (six_ok s) (by kernel_rfl) ?_
  exact .ret rfl (by kernel_rfl)
theorem count_ok (s : List UInt8) (h : Heap) : Cal E 22 [.d (.s s),.d (.s [10])] h (.nrm,.d (.i .i64 (.ofNat (cntByte 10 s 0))),h) := by
  refine .w fn22 rfl rfl ?_
  refine .br false (by kernel_rfl) (fun e => nomatch e) (fun _ => ?_)
  refine .br true (by kernel_rfl) (fun _ => ?_) (fun e => nomatch e)
  refine .opR (by kernel_rfl) ?_
  refine .opR (by kernel_rfl) ?_
  exact .ret rfl (by kernel_rfl)
end
end Go.Proofs.YtfbjkckdmigaoaaGreatDoor
