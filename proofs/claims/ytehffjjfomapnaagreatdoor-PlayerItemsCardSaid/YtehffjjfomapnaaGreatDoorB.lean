/- Contracts: names. -/
import Derived.Test.YtehffjjfomapnaaGreatDoorNm
import Derived.Test.YtehffjjfomapnaaGreatDoorZE
namespace Go.Proofs.YtehffjjfomapnaaGreatDoor
noncomputable section
open Go Go.Abs
set_option maxRecDepth 100000
def letters : List UInt8 := [97,98,99,100,101,102,103,104,105,106,107,108,109,110,111,112,113,114,115,116,117,118,119,120,121,122,48,49,50,51,52,53,54,55,56,57,95]
def isLet (b : UInt8) : Bool := letters.contains b
def letC : List AV := (List.range 256).map fun i => .d (.b (isLet (UInt8.ofNat i)))
theorem letC_get (b : UInt8) : readN letC (0 + b.toNat * 1) 1 = some [.d (.b (isLet b))] := by
 rw [readN_eq,if_pos (by have := b.toNat_lt; simp [letC]; omega)]
 have hb := b.toNat_lt
 have : letC.drop (0 + b.toNat * 1) = .d (.b (isLet (UInt8.ofNat b.toNat))) :: letC.drop (b.toNat + 1) := by
  rw [Nat.zero_add,Nat.mul_one,List.drop_eq_getElem_cons (by simpa [letC] using hb)]
  simp [letC]
 rw [this]; simp
theorem contains_ok {h : Heap} {e : TypeId} (b : UInt8) (hg : h.get 0 = some (.cells false e letC)) : Cal E f_strings_asciiSet_contains [.ptr 0 0,.d (byteD b)] h (.nrm,.d (.b (isLet b)),h) := by
 refine .wr n_strings_asciiSet_contains (.inr rfl) ?_
 refine .opv (iaA_ptr (k := .u8) (n := 256) (z := 1) (b := 0) (off := 0) rfl b.toNat_lt) (by kernel_rfl) ?_
 refine .op (load_ptr E (ag := false) (n := 1) hg (letC_get b) rfl) (by kernel_rfl) ?_
 exact .retR (by kernel_rfl) (by kernel_rfl)
def H0 : Heap := ⟨.nd (some (.cells false t_strings_asciiSet letC)) .lf .lf,1⟩
theorem sub1 {n : Nat} (h : n < 9223372036854775808) : wrap .i64 (Int.ofNat (n + 1) - 1) = Int.ofNat n := by
 rw [show (Int.ofNat (n + 1) - 1 : Int) = Int.ofNat n by simp only [Int.ofNat_eq_natCast]; omega]
 exact wrap64 (by simp only [Int.ofNat_eq_natCast]; omega) (by simp only [Int.ofNat_eq_natCast]; omega)
theorem trimRight_ok (s : List UInt8) (hs : s.length < 9223372036854775808) : ∃ r,Cal E f_strings_trimRightASCII [.d (.s s),.ptr 0 0] H0 (.nrm,.d (.s r),H0) ∧ (r = [] ↔ s.all isLet = true) ∧ (r ≠ [] → r.all isLet = false) ∧ r.length ≤ s.length := by
 let r := (s.reverse.dropWhile isLet).reverse
 have hr : ∀ l : List UInt8,(l.dropWhile isLet = [] ↔ l.all isLet = true) ∧ (l.dropWhile isLet ≠ [] → (l.dropWhile isLet).all isLet = false) := by
  intro l
  induction l with
  | nil => simp
  | cons a l ih =>
   by_cases ha : isLet a = true
   ·simp only [List.dropWhile_cons,ha,if_true,List.all_cons,Bool.true_and]; exact ih
   ·simp only [List.dropWhile_cons,ha,List.all_cons]; simp [ha]
 refine ⟨r,?_,?_,?_,?_⟩
 ·refine .wr n_strings_trimRightASCII (.inr rfl) ?_
  refine .loop false (fun n tm h => ∃ q,n = q.length ∧ q.length ≤ s.length ∧ (q.reverse.dropWhile isLet).reverse = r ∧ St 22 [(0,.d (.s q)),(1,.ptr 0 0)] tm ∧ h = H0) s.length (by kernel_rfl) ⟨s,rfl,Nat.le_refl _,rfl,.of (by kernel_rfl) ⟨by kernel_rfl,by kernel_rfl,trivial⟩,by kernel_rfl⟩ ?_
  rintro n tm h ⟨q,rfl,hq,hqr,⟨g,rfl⟩,rfl⟩
  refine .br (iLt 0 (.ofNat q.length)) (by kernel_rfl) (fun e => ?_) (fun e => ?_)
  ·obtain ⟨p,b,rfl⟩ : ∃ p b,q = p ++ [b] := by
    rw [iLt_iff] at e
    refine ⟨q.dropLast,q.getLast (fun h0 => by subst h0; simp at e),(List.dropLast_concat_getLast _).symm⟩
   have hl : (p ++ [b]).length = p.length + 1 := by simp
   have hx : wrap .i64 (Int.ofNat (p ++ [b]).length - 1) = .ofNat p.length := by rw [hl]; exact sub1 (by omega)
   refine .opv (ixS_get (k := .i64) (s := p ++ [b]) (b := b) hx (by simp)) (by kernel_rfl) ?_
   refine .call (contains_ok (h := H0) b rfl) (by kernel_rfl) ?_
   refine .br (!(isLet b)) (by kernel_rfl) (fun e2 => ?_) (fun e2 => ?_)
   ·simp only [Bool.not_eq_true'] at e2
    refine .out false 1 (by kernel_rfl) ?_
    have : p ++ [b] = r := by rw [← hqr]; simp [List.dropWhile_cons,e2]
    rw [← this]
    exact .retR (by kernel_rfl) (by kernel_rfl)
   ·simp only [Bool.not_eq_false'] at e2
    refine .opv (slStr_to (k := .i64) (s := p ++ [b]) hx (by simp)) (by kernel_rfl) ?_
    have ht : (p ++ [b]).take p.length = p := by simp
    rw [ht]
    refine .next p.length (by kernel_rfl) (by simp) ⟨p,rfl,by omega,?_,.of (by kernel_rfl) ⟨by kernel_rfl,by kernel_rfl,trivial⟩,by kernel_rfl⟩
    rw [← hqr]; simp [List.dropWhile_cons,e2]
  ·have : q = [] := by
    rw [iLt_not] at e
    have : q.length = 0 := by simp only [Int.ofNat_eq_natCast] at e; omega
    exact List.eq_nil_of_length_eq_zero this
   subst this
   refine .out false 1 (by kernel_rfl) ?_
   rw [← hqr]
   exact .retR (by kernel_rfl) (by kernel_rfl)
 ·show (s.reverse.dropWhile isLet).reverse = [] ↔ _
  rw [List.reverse_eq_nil_iff,(hr s.reverse).1,List.all_reverse]
 ·intro hn
  show ((s.reverse.dropWhile isLet).reverse).all isLet = false
  rw [List.all_reverse]
  exact (hr s.reverse).2 (fun h0 => hn (by show (s.reverse.dropWhile isLet).reverse = []; rw [h0]; rfl))
 ·show ((s.reverse.dropWhile isLet).reverse).length ≤ _
  rw [List.length_reverse]
  exact Nat.le_trans (List.dropWhile_sublist _).length_le (by simp)
theorem trimLeft_ok (s : List UInt8) : Cal E f_strings_trimLeftASCII [.d (.s s),.ptr 0 0] H0 (.nrm,.d (.s (s.dropWhile isLet)),H0) := by
 refine .wr n_strings_trimLeftASCII (.inr rfl) ?_
 refine .loop false (fun n tm h => ∃ q,n = q.length ∧ q.dropWhile isLet = s.dropWhile isLet ∧ St 16 [(0,.d (.s q)),(1,.ptr 0 0)] tm ∧ h = H0) s.length (by kernel_rfl) ⟨s,rfl,rfl,.of (by kernel_rfl) ⟨by kernel_rfl,by kernel_rfl,trivial⟩,by kernel_rfl⟩ ?_
 rintro n tm h ⟨q,rfl,hqr,⟨g,rfl⟩,rfl⟩
 refine .br (iLt 0 (.ofNat q.length)) (by kernel_rfl) (fun e => ?_) (fun e => ?_)
 ·obtain ⟨b,p,rfl⟩ : ∃ b p,q = b :: p := by
   rw [iLt_iff] at e
   cases q with
   | nil => simp at e
   | cons b p => exact ⟨b,p,rfl⟩
  refine .opv (ixS_get (k := .i64) (s := b :: p) (b := b) (j := 0) rfl rfl) (by kernel_rfl) ?_
  refine .call (contains_ok (h := H0) b rfl) (by kernel_rfl) ?_
  refine .br (!(isLet b)) (by kernel_rfl) (fun e2 => ?_) (fun e2 => ?_)
  ·simp only [Bool.not_eq_true'] at e2
   refine .out false 1 (by kernel_rfl) ?_
   rw [← hqr,List.dropWhile_cons,if_neg (by simp [e2])]
   exact .retR (by kernel_rfl) (by kernel_rfl)
  ·simp only [Bool.not_eq_false'] at e2
   refine .opv (slStr_from (k := .i64) (s := b :: p) (a := 1) rfl (by simp)) (by kernel_rfl) ?_
   refine .next p.length (by kernel_rfl) (by simp) ⟨p,rfl,?_,.of (by kernel_rfl) ⟨by kernel_rfl,by kernel_rfl,trivial⟩,by kernel_rfl⟩
   rw [← hqr,List.dropWhile_cons,if_pos e2]
 ·have : q = [] := by
   rw [iLt_not] at e
   have : q.length = 0 := by simp only [Int.ofNat_eq_natCast] at e; omega
   exact List.eq_nil_of_length_eq_zero this
  subst this
  refine .out false 1 (by kernel_rfl) ?_
  rw [← hqr]
  exact .retR (by kernel_rfl) (by kernel_rfl)

theorem set_ok (h : Heap) : Cal E f_strings_makeASCIISet [.d (.s letters)] h (.nrm,.tup [.agg letC,.d (.b true)],h) := by
 exact Cal.of (n := 100000) (by kernel_rfl)
theorem dw_nil (l : List UInt8) : l.dropWhile isLet = [] ↔ l.all isLet = true := by
 induction l with
 | nil => simp
 | cons a l ih =>
  by_cases ha : isLet a = true
  ·simp only [List.dropWhile_cons,ha,if_true,List.all_cons,Bool.true_and]; exact ih
  ·simp [List.dropWhile_cons,ha]
theorem trim_ok {h : Heap} {args : List AV} {bor : Bool} {s : List UInt8} (ha : stripArgs h args = some ([.s s,.s letters],bor)) (hs : s.length < 9223372036854775808) : ∃ r,Cal E f_strings_Trim args h (.nrm,.d (.s r),h) ∧ (r = [] ↔ s.all isLet = true) := by
 obtain ⟨r,hr,hr1,hr2,_⟩ := trimRight_ok s hs
 by_cases hs0 : s = []
 ·subst hs0
  refine ⟨[],.w n_strings_Trim (by kernel_rfl) ha ?_,by simp⟩
  refine .br true (by kernel_rfl) (fun e => ?_) (fun e => by cases e)
  exact .ret rfl (by kernel_rfl)
 ·refine ⟨r.dropWhile isLet,.w n_strings_Trim (by kernel_rfl) ha ?_,?_⟩
  ·refine .br (strEq s []) (by kernel_rfl) (fun e => absurd (strEq_iff.1 e) hs0) (fun e => ?_)
   refine .br false (by kernel_rfl) (fun e => by cases e) (fun e => ?_)
   refine .br false (by kernel_rfl) (fun e => by cases e) (fun e => ?_)
   refine .callv set_ok (by kernel_rfl) ?_
   refine .br true (by kernel_rfl) (fun e => ?_) (fun e => by cases e)
   refine .call hr (by kernel_rfl) ?_
   refine .call (trimLeft_ok r) (by kernel_rfl) ?_
   exact .ret rfl (by kernel_rfl)
  ·constructor
   ·intro h0
    refine hr1.1 ?_
    by_cases hn : r = []
    ·exact hn
    ·have := hr2 hn
     rw [(dw_nil r).1 h0] at this; cases this
   ·intro h0
    rw [hr1.2 h0]; rfl
def isName (s : List UInt8) : Bool := decide (1 ≤ s.length) && decide (s.length ≤ 20) && s.all isLet
theorem name_ok {h : Heap} {args : List AV} {bor : Bool} {s : List UInt8} (ha : stripArgs h args = some ([.s s],bor)) : Cal E f_frag_Name args h (.nrm,.d (.b (isName s)),h) := by
 refine .w n_frag_Name (by kernel_rfl) ha ?_
 refine .br (!(iLt (.ofNat s.length) 1)) (by kernel_rfl) (fun e => ?_) (fun e => ?_)
 ·refine .br (!(iLt 20 (.ofNat s.length))) (by kernel_rfl) (fun e2 => ?_) (fun e2 => ?_)
  ·rw [Bool.not_eq_true',iLt_not] at e e2
   simp only [Int.ofNat_eq_natCast] at e e2
   obtain ⟨r,hr,hr1⟩ := trim_ok (h := .empty) (args := [.d (.s s),.d (.s letters)]) (s := s) rfl (by omega)
   refine .call hr (by kernel_rfl) ?_
   refine .retB (strEq r []) (by kernel_rfl) ?_
   rw [strEq_dec,Bool.eq_iff_iff]
   simp only [decide_eq_true_eq,hr1,isName,Bool.and_eq_true]
   constructor
   ·intro h0; exact ⟨⟨by omega,by omega⟩,h0⟩
   ·intro h0; exact h0.2
  ·refine .retB false (by kernel_rfl) ?_
   rw [Bool.not_eq_false',iLt_iff] at e2
   simp only [Int.ofNat_eq_natCast] at e2
   have : ¬ s.length ≤ 20 := by omega
   simp [isName,this]
 ·refine .retB false (by kernel_rfl) ?_
  rw [Bool.not_eq_false',iLt_iff] at e
  simp only [Int.ofNat_eq_natCast] at e
  have : ¬ 1 ≤ s.length := by omega
  simp [isName,this]
def within (n m : Int) : Bool := decide (0 ≤ n) && decide (n ≤ m)
theorem within_ok {h : Heap} {args : List AV} {bor : Bool} {n m : Int} (ha : stripArgs h args = some ([.i .i64 n,.i .i64 m],bor)) : Cal E f_frag_within args h (.nrm,.d (.b (within n m)),h) := by
 refine .w n_frag_within (by kernel_rfl) ha ?_
 refine .br (!(iLt n 0)) (by kernel_rfl) (fun e => ?_) (fun e => ?_)
 ·refine .retB (!(iLt m n)) (by kernel_rfl) ?_
  rw [Bool.not_eq_true',iLt_not] at e
  rw [iLt_dec]
  by_cases hm : n ≤ m
  ·simp [within,e,hm,show ¬ m < n by omega]
  ·simp [within,e,hm,show m < n by omega]
 ·refine .retB false (by kernel_rfl) ?_
  rw [Bool.not_eq_false',iLt_iff] at e
  have : ¬ 0 ≤ n := by omega
  simp [within,this]
end
end Go.Proofs.YtehffjjfomapnaaGreatDoor
