/- Contracts: slices.IndexFunc, slices.ContainsFunc, upon data. -/
import Derived.Test.YtehffjjfomapnaaGreatDoorNm
import Derived.Test.YtehffjjfomapnaaGreatDoorZE
namespace Go.Proofs.YtehffjjfomapnaaGreatDoor
noncomputable section
open Go Go.Abs
set_option maxRecDepth 100000
theorem idx_string {h : Heap} {args : List AV} {bor b : Bool} {n : Nat} {cs : List DV} {g : Nat} {q : Nat → Bool} (ha : stripArgs h args = some ([.sl b n cs,.fn (.func g) [] []],bor)) (hl : cs.length = n * 1) (hn : n < 9223372036854775808)
  (hq : ∀ i,i < n → ∀ h,Cal E g [.d (cs.getD i .nsl)] h (.nrm,.d (.b (q i)),h)) : Cal E f_slices_IndexFunc_string args h (.nrm,.d (.i .i64 (fidx q 0 n)),h) := by
 refine .w n_slices_IndexFunc_string (by kernel_rfl) ha ?_
 refine .loop false (fun m tm h => ∃ i,i + m = n ∧ fidx q i m = fidx q 0 n ∧ St 19 [(0,.d (.sl b n cs)),(1,.d (.fn (.func g) [] [])),(7,mkI n),(8,mkI i)] tm) n (by kernel_rfl)
  ⟨0,by omega,rfl,.of (by kernel_rfl) ⟨by kernel_rfl,by kernel_rfl,by kernel_rfl,by kernel_rfl,trivial⟩⟩ ?_
 rintro m tm h' ⟨i,him,hR,g',rfl⟩
 refine .br (iLt (.ofNat i) (.ofNat n)) (by kernel_rfl) (fun e => ?_) (fun e => ?_)
 ·have hi : i < n := by rw [iLt_iff] at e; simpa using e
  obtain ⟨m,rfl⟩ : ∃ k,m = k + 1 := ⟨m - 1,by omega⟩
  refine .opv (iaS_sl (k := .i64) (z := 1) (b := b) (n := n) (cs := cs) (j := i) rfl hi) (by kernel_rfl) ?_
  refine .opv (load_bx1 E (b := b) (cs := cs) (j := i) (x := cs.getD i .nsl) (by rw [List.getD_eq_getElem?_getD,List.getElem?_eq_getElem (by omega)]; rfl)) (by kernel_rfl) ?_
  refine .callv (hq i hi) (by kernel_rfl) ?_
  refine .br (q i) (by kernel_rfl) (fun e2 => ?_) (fun e2 => ?_)
  ·refine .out false 0 (by kernel_rfl) (.retI (.ofNat i) (by kernel_rfl) ?_)
   rw [← hR]; simp [fidx,e2]
  ·refine .next m (by kernel_rfl) (by omega) ⟨i + 1,by omega,?_,.of (by kernel_rfl) ⟨by kernel_rfl,by kernel_rfl,by kernel_rfl,?_,trivial⟩⟩
   ·rw [← hR]; simp [fidx,e2]
   ·exact Eq.trans (b := .d (.i .i64 (wrap .i64 (.ofNat i + 1)))) (by kernel_rfl) (by rw [wrap64 (by simp only [Int.ofNat_eq_natCast]; omega) (by simp only [Int.ofNat_eq_natCast]; omega)]; rfl)
 ·have : m = 0 := by rw [iLt_not] at e; simp only [Int.ofNat_eq_natCast] at e; omega
  subst this
  refine .out false 1 (by kernel_rfl) (.retI (-1) (by kernel_rfl) ?_)
  rw [← hR]; rfl
theorem idx0_string {h : Heap} {args : List AV} {bor : Bool} {g : Nat} (ha : stripArgs h args = some ([.nsl,.fn (.func g) [] []],bor)) : Cal E f_slices_IndexFunc_string args h (.nrm,.d (.i .i64 (-1)),h) := by
 refine .w n_slices_IndexFunc_string (by kernel_rfl) ha ?_
 refine .loop false (fun _ tm _ => St 19 [(7,mkI 0),(8,mkI 0)] tm) 0 (by kernel_rfl) (.of (by kernel_rfl) ⟨by kernel_rfl,by kernel_rfl,trivial⟩) ?_
 rintro m tm h' ⟨g',rfl⟩
 refine .br false (by kernel_rfl) (fun e => by cases e) (fun e => ?_)
 refine .out false 1 (by kernel_rfl) (.ret rfl (by kernel_rfl))
theorem cont_string {h : Heap} {args : List AV} {bor b : Bool} {n : Nat} {cs : List DV} {g : Nat} {q : Nat → Bool} (ha : stripArgs h args = some ([.sl b n cs,.fn (.func g) [] []],bor)) (hl : cs.length = n * 1) (hn : n < 9223372036854775808)
  (hq : ∀ i,i < n → ∀ h,Cal E g [.d (cs.getD i .nsl)] h (.nrm,.d (.b (q i)),h)) : Cal E f_slices_ContainsFunc_string args h (.nrm,.d (.b (!decide (∀ j,j < n → q j = false))),h) := by
 refine .w n_slices_ContainsFunc_string (by kernel_rfl) ha ?_
 refine .callv (fun h => idx_string (b := b) (n := n) (cs := cs) (g := g) (q := q) (h := h) (args := [.d (.sl b n cs),.d (.fn (.func g) [] [])]) rfl hl hn hq) (by kernel_rfl) ?_
 exact .retB (!(iLt (fidx q 0 n) 0)) (by kernel_rfl) (by rw [fidx_all])
theorem cont0_string {h : Heap} {args : List AV} {bor : Bool} {g : Nat} (ha : stripArgs h args = some ([.nsl,.fn (.func g) [] []],bor)) : Cal E f_slices_ContainsFunc_string args h (.nrm,.d (.b false),h) := by
 refine .w n_slices_ContainsFunc_string (by kernel_rfl) ha ?_
 refine .callv (fun h => idx0_string (g := g) (h := h) (args := [.nilsl,.d (.fn (.func g) [] [])]) rfl) (by kernel_rfl) ?_
 exact .ret rfl (by kernel_rfl)
theorem idx_Item {h : Heap} {args : List AV} {bor b : Bool} {n : Nat} {cs : List DV} {g : Nat} {q : Nat → Bool} (ha : stripArgs h args = some ([.sl b n cs,.fn (.func g) [] []],bor)) (hl : cs.length = n * 6) (hn : n < 9223372036854775808)
  (hq : ∀ i,i < n → ∀ h,Cal E g [.agg ((chunk cs 6 i).map .d)] h (.nrm,.d (.b (q i)),h)) : Cal E f_slices_IndexFunc_Item args h (.nrm,.d (.i .i64 (fidx q 0 n)),h) := by
 refine .w n_slices_IndexFunc_Item (by kernel_rfl) ha ?_
 refine .loop false (fun m tm h => ∃ i,i + m = n ∧ fidx q i m = fidx q 0 n ∧ St 19 [(0,.d (.sl b n cs)),(1,.d (.fn (.func g) [] [])),(7,mkI n),(8,mkI i)] tm) n (by kernel_rfl)
  ⟨0,by omega,rfl,.of (by kernel_rfl) ⟨by kernel_rfl,by kernel_rfl,by kernel_rfl,by kernel_rfl,trivial⟩⟩ ?_
 rintro m tm h' ⟨i,him,hR,g',rfl⟩
 refine .br (iLt (.ofNat i) (.ofNat n)) (by kernel_rfl) (fun e => ?_) (fun e => ?_)
 ·have hi : i < n := by rw [iLt_iff] at e; simpa using e
  obtain ⟨m,rfl⟩ : ∃ k,m = k + 1 := ⟨m - 1,by omega⟩
  refine .opv (iaS_sl (k := .i64) (z := 6) (b := b) (n := n) (cs := cs) (j := i) rfl hi) (by kernel_rfl) ?_
  refine .opv (load_bx E (z := 6) (b := b) (cs := cs) (j := i) hl hi) (by kernel_rfl) ?_
  refine .callv (hq i hi) (by kernel_rfl) ?_
  refine .br (q i) (by kernel_rfl) (fun e2 => ?_) (fun e2 => ?_)
  ·refine .out false 0 (by kernel_rfl) (.retI (.ofNat i) (by kernel_rfl) ?_)
   rw [← hR]; simp [fidx,e2]
  ·refine .next m (by kernel_rfl) (by omega) ⟨i + 1,by omega,?_,.of (by kernel_rfl) ⟨by kernel_rfl,by kernel_rfl,by kernel_rfl,?_,trivial⟩⟩
   ·rw [← hR]; simp [fidx,e2]
   ·exact Eq.trans (b := .d (.i .i64 (wrap .i64 (.ofNat i + 1)))) (by kernel_rfl) (by rw [wrap64 (by simp only [Int.ofNat_eq_natCast]; omega) (by simp only [Int.ofNat_eq_natCast]; omega)]; rfl)
 ·have : m = 0 := by rw [iLt_not] at e; simp only [Int.ofNat_eq_natCast] at e; omega
  subst this
  refine .out false 1 (by kernel_rfl) (.retI (-1) (by kernel_rfl) ?_)
  rw [← hR]; rfl
theorem idx0_Item {h : Heap} {args : List AV} {bor : Bool} {g : Nat} (ha : stripArgs h args = some ([.nsl,.fn (.func g) [] []],bor)) : Cal E f_slices_IndexFunc_Item args h (.nrm,.d (.i .i64 (-1)),h) := by
 refine .w n_slices_IndexFunc_Item (by kernel_rfl) ha ?_
 refine .loop false (fun _ tm _ => St 19 [(7,mkI 0),(8,mkI 0)] tm) 0 (by kernel_rfl) (.of (by kernel_rfl) ⟨by kernel_rfl,by kernel_rfl,trivial⟩) ?_
 rintro m tm h' ⟨g',rfl⟩
 refine .br false (by kernel_rfl) (fun e => by cases e) (fun e => ?_)
 refine .out false 1 (by kernel_rfl) (.ret rfl (by kernel_rfl))
theorem cont_Item {h : Heap} {args : List AV} {bor b : Bool} {n : Nat} {cs : List DV} {g : Nat} {q : Nat → Bool} (ha : stripArgs h args = some ([.sl b n cs,.fn (.func g) [] []],bor)) (hl : cs.length = n * 6) (hn : n < 9223372036854775808)
  (hq : ∀ i,i < n → ∀ h,Cal E g [.agg ((chunk cs 6 i).map .d)] h (.nrm,.d (.b (q i)),h)) : Cal E f_slices_ContainsFunc_Item args h (.nrm,.d (.b (!decide (∀ j,j < n → q j = false))),h) := by
 refine .w n_slices_ContainsFunc_Item (by kernel_rfl) ha ?_
 refine .callv (fun h => idx_Item (b := b) (n := n) (cs := cs) (g := g) (q := q) (h := h) (args := [.d (.sl b n cs),.d (.fn (.func g) [] [])]) rfl hl hn hq) (by kernel_rfl) ?_
 exact .retB (!(iLt (fidx q 0 n) 0)) (by kernel_rfl) (by rw [fidx_all])
theorem cont0_Item {h : Heap} {args : List AV} {bor : Bool} {g : Nat} (ha : stripArgs h args = some ([.nsl,.fn (.func g) [] []],bor)) : Cal E f_slices_ContainsFunc_Item args h (.nrm,.d (.b false),h) := by
 refine .w n_slices_ContainsFunc_Item (by kernel_rfl) ha ?_
 refine .callv (fun h => idx0_Item (g := g) (h := h) (args := [.nilsl,.d (.fn (.func g) [] [])]) rfl) (by kernel_rfl) ?_
 exact .ret rfl (by kernel_rfl)
end
end Go.Proofs.YtehffjjfomapnaaGreatDoor
