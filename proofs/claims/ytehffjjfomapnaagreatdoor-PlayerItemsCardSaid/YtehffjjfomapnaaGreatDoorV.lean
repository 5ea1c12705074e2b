/- Contracts: whether values and fragments are light: some bool. -/
import Derived.Test.YtehffjjfomapnaaGreatDoorF
import Derived.Test.YtehffjjfomapnaaGreatDoorZE
namespace Go.Proofs.YtehffjjfomapnaaGreatDoor
noncomputable section
open Go Go.Abs
set_option maxRecDepth 100000
theorem inc64' {i : Nat} (h : i < 9223372036854775807) : (AV.d (.i .i64 (wrap .i64 (.ofNat i + 1)))) = mkI (i + 1) := by
 rw [wrap64 (by simp only [Int.ofNat_eq_natCast]; omega) (by simp only [Int.ofNat_eq_natCast]; omega)]; rfl
theorem Few9_ok {h : Heap} {args : List AV} {bor fb : Bool} {l : List ItemS} {fcs : List DV} (hl : fcs.length = l.length * 6) (hcs : ∀ i (hi : i < l.length),ItemR l[i] (chunk fcs 6 i)) (hln : l.length ≤ 9223372036854775807) (hla : ∀ x ∈ l,x.after.length ≤ 9223372036854775807) (ha : stripArgs h args = some ([.sl fb l.length fcs],bor)) :
  ∃ x,(∃ b,x = .b b) ∧ Cal E f_foremanlaw09_Few args h (.nrm,.d x,h) := by
 refine Cal.wx n_foremanlaw09_Few (by kernel_rfl) ha ?_
 refine .loop true (fun m tm _ => ∃ i,i + m = l.length ∧ St 44 [(0,.d (.sl fb l.length fcs)),(7,.d (.sl fb l.length fcs)),(8,mkI l.length),(9,mkI i)] tm) l.length (by kernel_rfl)
  ⟨0,by omega,.of (by kernel_rfl) ⟨by kernel_rfl,by kernel_rfl,by kernel_rfl,by kernel_rfl,trivial⟩⟩ ?_
 rintro m tm g ⟨i,him,g',rfl⟩
 refine .br (iLt (.ofNat i) (.ofNat l.length)) (by kernel_rfl) (fun e => ?_) (fun e => ?_)
 rotate_left
 ·have : m = 0 := by rw [iLt_not] at e; simp only [Int.ofNat_eq_natCast] at e; omega
  subst this
  refine .out true 1 (by kernel_rfl) ?_
  exact .retD (.b (!(iLt 60 (.ofNat l.length)))) rfl (by kernel_rfl) ⟨_,rfl⟩
 have hi : i < l.length := by rw [iLt_iff] at e; simpa using e
 obtain ⟨m,rfl⟩ : ∃ k,m = k + 1 := ⟨m - 1,by omega⟩
 have hld := load_bx E (b := fb) hl hi
 obtain ⟨ab,hlit,_⟩ := hcs i hi
 have haf := hla l[i] (List.getElem_mem hi)
 generalize l[i] = x at hlit haf
 obtain ⟨name,kind,after,over,width,quota⟩ := x
 simp only at hlit haf
 rw [hlit] at hld
 refine .opv (iaS_sl (k := .i64) (z := 6) (b := fb) (n := l.length) (cs := fcs) (j := i) rfl hi) (by kernel_rfl) ?_
 refine .opv hld (by kernel_rfl) ?_
 have g1 := push_n g (.cells false t_Item [.d (.s []),.d (.i .u8 0),.nilsl,.d (.s []),.d (.i .i64 0),.d (.i .i64 0)])
 refine .op (store_ptr (n := 6) (off := 0) (x := .agg [.d (.s name),.d (.i .u8 kind),.d (.sl ab after.length (after.map .s)),.d (.s over),.d (.i .i64 width),.d (.i .i64 quota)]) g1 rfl) (by kernel_rfl) ?_
 have g2 := Heap.get_set_self (b' := .cells false t_Item [.d (.s name),.d (.i .u8 kind),.d (.sl ab after.length (after.map .s)),.d (.s over),.d (.i .i64 width),.d (.i .i64 quota)]) g1
 refine .op (load_ptr E (ag := false) (n := 1) (off := 2) g2 rfl rfl) (by kernel_rfl) ?_
 refine .br (iLt 40 (.ofNat after.length)) (by kernel_rfl) (fun _ => ?_) (fun _ => ?_)
 ·exact .out true 0 (by kernel_rfl) (.retD (.b false) rfl (by kernel_rfl) ⟨_,rfl⟩)
 refine .op (load_ptr E (ag := false) (n := 1) (off := 0) g2 rfl rfl) (by kernel_rfl) ?_
 refine .br (iLt 100 (.ofNat name.length)) (by kernel_rfl) (fun _ => ?_) (fun _ => ?_)
 ·exact .out true 0 (by kernel_rfl) (.retD (.b false) rfl (by kernel_rfl) ⟨_,rfl⟩)
 refine .op (load_ptr E (ag := false) (n := 1) (off := 3) g2 rfl rfl) (by kernel_rfl) ?_
 refine .br (iLt 100 (.ofNat over.length)) (by kernel_rfl) (fun _ => ?_) (fun _ => ?_)
 ·exact .out true 0 (by kernel_rfl) (.retD (.b false) rfl (by kernel_rfl) ⟨_,rfl⟩)
 refine .op (load_ptr E (ag := false) (n := 1) (off := 2) g2 rfl rfl) (by kernel_rfl) ?_
 refine .loop true (fun m tm _ => ∃ j,j + m = after.length ∧ St 44 [(0,.d (.sl fb l.length fcs)),(7,.d (.sl fb l.length fcs)),(8,mkI l.length),(9,mkI i),(30,.d (.sl ab after.length (after.map .s))),(31,mkI after.length),(32,mkI j)] tm) after.length (by kernel_rfl)
  ⟨0,by omega,.of (by kernel_rfl) ⟨by kernel_rfl,by kernel_rfl,by kernel_rfl,by kernel_rfl,by kernel_rfl,by kernel_rfl,by kernel_rfl,trivial⟩⟩ ?_
 rintro r tm f ⟨j,hjr,g'',rfl⟩
 refine .br (iLt (.ofNat j) (.ofNat after.length)) (by kernel_rfl) (fun e => ?_) (fun e => ?_)
 ·have hj : j < after.length := by rw [iLt_iff] at e; simpa using e
  obtain ⟨r,rfl⟩ : ∃ k,r = k + 1 := ⟨r - 1,by omega⟩
  refine .opv (iaS_sl (k := .i64) (z := 1) (b := ab) (n := after.length) (cs := after.map .s) (j := j) rfl hj) (by kernel_rfl) ?_
  refine .opv (load_bx1 E (b := ab) (cs := after.map .s) (j := j) (x := .s after[j]) (by rw [List.getElem?_map,List.getElem?_eq_getElem hj]; rfl)) (by kernel_rfl) ?_
  refine .br (iLt 100 (.ofNat after[j].length)) (by kernel_rfl) (fun _ => ?_) (fun _ => ?_)
  ·exact .out true 0 (by kernel_rfl) (.out true 0 (by kernel_rfl) (.retD (.b false) rfl (by kernel_rfl) ⟨_,rfl⟩))
  ·refine .next r (by kernel_rfl) (by omega) ⟨j + 1,by omega,.of (by kernel_rfl) ⟨by kernel_rfl,by kernel_rfl,by kernel_rfl,by kernel_rfl,by kernel_rfl,by kernel_rfl,?_,trivial⟩⟩
   exact Eq.trans (b := .d (.i .i64 (wrap .i64 (.ofNat j + 1)))) (by kernel_rfl) (inc64' (by omega))
 ·refine .out true 3 (by kernel_rfl) ?_
  refine .next m (by kernel_rfl) (by omega) ⟨i + 1,by omega,.of (by kernel_rfl) ⟨by kernel_rfl,by kernel_rfl,by kernel_rfl,?_,trivial⟩⟩
  exact Eq.trans (b := .d (.i .i64 (wrap .i64 (.ofNat i + 1)))) (by kernel_rfl) (inc64' (by omega))
end
end Go.Proofs.YtehffjjfomapnaaGreatDoor
