/- Contracts: frag.Right. -/
import Derived.Test.YtehffjjfomapnaaGreatDoorB
import Derived.Test.YtehffjjfomapnaaGreatDoorC
namespace Go.Proofs.YtehffjjfomapnaaGreatDoor
noncomputable section
open Go Go.Abs
set_option maxRecDepth 100000
theorem notName_ok {h : Heap} {args : List AV} {bor : Bool} {s : List UInt8} (ha : stripArgs h args = some ([.s s],bor)) : Cal E f_frag_fits_1 args h (.nrm,.d (.b (!isName s)),h) := by
 refine .w n_frag_fits_1 (by kernel_rfl) ha ?_
 refine .callv (fun h => name_ok (h := h) (args := [.d (.s s)]) rfl) (by kernel_rfl) ?_
 exact .ret rfl (by kernel_rfl)
theorem contNames {h : Heap} {args : List AV} {bor : Bool} {xs : List (List UInt8)} {L : DV} (hL : StrR xs L) (hn : xs.length < 9223372036854775808) (ha : stripArgs h args = some ([L,.fn (.func f_frag_fits_1) [] []],bor)) :
    Cal E f_slices_ContainsFunc_string args h (.nrm,.d (.b (!xs.all isName)),h) := by
  obtain ⟨rfl,rfl⟩ | ⟨b,rfl⟩ := hL
  · exact cont0_string ha
  · have := cont_string (q := fun i => !isName (xs.getD i [])) ha (by simp) hn (fun i hi h => by
      have hx : (xs.map DV.s).getD i .nsl = .s (xs.getD i []) := by
        simp only [List.getD_eq_getElem?_getD,List.getElem?_map,List.getElem?_eq_getElem hi]; rfl
      rw [hx]
      exact notName_ok rfl)
    rw [show (!xs.all isName) = (!decide (∀ j,j < xs.length → (!isName (xs.getD j [])) = false)) from ?_]
    · exact this
    · congr 1
      rw [Bool.eq_iff_iff,decide_eq_true_eq,List.all_eq_true]
      constructor
      · intro h j hj
        rw [List.getD_eq_getElem?_getD,List.getElem?_eq_getElem hj]
        simp only [Option.getD_some,Bool.not_eq_false']
        exact h _ (List.getElem_mem hj)
      · intro h x hx
        obtain ⟨j,hj,rfl⟩ := List.getElem_of_mem hx
        have := h j hj
        rw [List.getD_eq_getElem?_getD,List.getElem?_eq_getElem hj] at this
        simpa using this
def fitsI (x : ItemS) : Bool := isName x.name && decide (x.after.length ≤ 20) && within x.quota 400 && x.after.all isName && (if x.kind = 0 then decide (x.over = []) && decide (x.width = 0) else if x.kind = 1 then isName x.over && within x.width 40 else false)
theorem fitsS {h : Heap} {args : List AV} {bor : Bool} {after : List (List UInt8)} {b : Bool} {name over : List UInt8} {kind width quota : Int} (ha : stripArgs h args = some ([.agg [.s name,.i .u8 kind,(.sl b after.length (after.map .s)),.s over,.i .i64 width,.i .i64 quota]],bor)) : Cal E f_frag_fits args h (.nrm,.d (.b (fitsI ⟨name,kind,after,over,width,quota⟩)),h) := by
 refine .w n_frag_fits (by kernel_rfl) ha ?_
 refine .callv (fun h => name_ok (h := h) (args := [.d (.s name)]) rfl) (by kernel_rfl) ?_
 refine .br (!isName name) (by kernel_rfl) (fun e => .retB false (by kernel_rfl) ?_) (fun e => ?_)
 ·simp only [Bool.not_eq_true'] at e; simp [fitsI,e]
 simp only [Bool.not_eq_false'] at e
 refine .br (iLt 20 (.ofNat after.length)) (by kernel_rfl) (fun e2 => .retB false (by kernel_rfl) ?_) (fun e2 => ?_)
 ·rw [iLt_iff] at e2; simp only [Int.ofNat_eq_natCast] at e2; simp [fitsI,show ¬ after.length ≤ 20 by omega]
 rw [iLt_not] at e2; simp only [Int.ofNat_eq_natCast] at e2; have e2 : after.length ≤ 20 := by omega
 refine .callv (fun h => within_ok (h := h) (n := quota) (m := 400) (args := [.d (.i .i64 quota),.d (.i .i64 400)]) rfl) (by kernel_rfl) ?_
 refine .br (!within quota 400) (by kernel_rfl) (fun e3 => .retB false (by kernel_rfl) ?_) (fun e3 => ?_)
 ·simp only [Bool.not_eq_true'] at e3; simp [fitsI,e3]
 simp only [Bool.not_eq_false'] at e3
 refine .callv (fun h => contNames (h := h) (args := [.d (.sl b after.length (after.map .s)),.d (.fn (.func f_frag_fits_1) [] [])]) (xs := after) (.inr ⟨b,rfl⟩) (by omega) rfl) (by kernel_rfl) ?_
 refine .br (!List.all after isName) (by kernel_rfl) (fun e4 => .retB false (by kernel_rfl) ?_) (fun e4 => ?_)
 ·simp only [Bool.not_eq_true'] at e4; simp only [fitsI,e4,Bool.and_false,Bool.false_and]
 simp only [Bool.not_eq_false'] at e4
 refine .br (iEq kind 0) (by kernel_rfl) (fun e5 => ?_) (fun e5 => ?_)
 ·rw [iEq_iff] at e5
  refine .br (strEq over []) (by kernel_rfl) (fun e6 => ?_) (fun e6 => .retB false (by kernel_rfl) ?_)
  ·refine .retB (iEq width 0) (by kernel_rfl) ?_
   rw [strEq_iff] at e6
   simp only [fitsI,e,e2,e3,e4,e5,e6,iEq_dec]; simp
  ·rw [strEq_dec] at e6
   simp only [fitsI,e5,e6]; simp
 ·rw [iEq_not] at e5
  refine .br (iEq kind 1) (by kernel_rfl) (fun e6 => ?_) (fun e6 => .retB false (by kernel_rfl) ?_)
  ·rw [iEq_iff] at e6
   refine .callv (fun h => name_ok (h := h) (args := [.d (.s over)]) rfl) (by kernel_rfl) ?_
   refine .br (isName over) (by kernel_rfl) (fun e7 => ?_) (fun e7 => .retB false (by kernel_rfl) ?_)
   ·refine .callv (fun h => within_ok (h := h) (n := width) (m := 40) (args := [.d (.i .i64 width),.d (.i .i64 40)]) rfl) (by kernel_rfl) ?_
    refine .ret rfl ?_
    rw [show fitsI ⟨name,kind,after,over,width,quota⟩ = within width 40 by simp only [fitsI,e,e2,e3,e4,e6,e7]; simp]
    kernel_rfl
   ·simp only [fitsI,e6,e7]; simp
  ·rw [iEq_not] at e6
   simp only [fitsI,if_neg e5,if_neg e6,Bool.and_false]
theorem fits_ok {h : Heap} {args : List AV} {bor : Bool} {x : ItemS} {cs : List DV} (hx : ItemR x cs) (ha : stripArgs h args = some ([.agg cs],bor)) : Cal E f_frag_fits args h (.nrm,.d (.b (fitsI x)),h) := by
 obtain ⟨name,kind,after,over,width,quota⟩ := x
 obtain ⟨b,rfl,_⟩ := hx
 exact fitsS ha
theorem notFits_ok {h : Heap} {x : ItemS} {cs : List DV} (hx : ItemR x cs) : Cal E f_frag_Right_1 [.agg (cs.map .d)] h (.nrm,.d (.b (!fitsI x)),h) := by
 obtain ⟨name,kind,after,over,width,quota⟩ := x
 have hx' := hx
 obtain ⟨b,rfl,_⟩ := hx
 have ha : stripArgs h [.agg ([.s name,.i .u8 kind,.sl b after.length (after.map .s),.s over,.i .i64 width,.i .i64 quota].map .d)] = some ([.agg [.s name,.i .u8 kind,.sl b after.length (after.map .s),.s over,.i .i64 width,.i .i64 quota]],false || false) := strip_cons (borrow_agg _) strip_nil
 refine .w n_frag_Right_1 (by kernel_rfl) ha ?_
 refine .callv (fun h => fits_ok (h := h) hx' (bor := false) (args := [.agg [.d (.s name),.d (.i .u8 kind),.d (.sl b after.length (after.map .s)),.d (.s over),.d (.i .i64 width),.d (.i .i64 quota)]]) rfl) (by kernel_rfl) ?_
 exact .ret rfl (by kernel_rfl)
def rightF (l : List ItemS) : Bool := decide (l.length ≤ 40) && l.all fitsI
theorem fragRight_ok {h : Heap} {args : List AV} {bor : Bool} {l : List ItemS} {L : DV} (hL : ItemsR l L) (ha : stripArgs h args = some ([L],bor)) : Cal E f_frag_Right args h (.nrm,.d (.b (rightF l)),h) := by
 obtain ⟨rfl,rfl⟩ | ⟨b,cs,rfl,hl,hi⟩ := hL
 ·refine .w n_frag_Right (by kernel_rfl) ha ?_
  refine .br true (by kernel_rfl) (fun _ => ?_) (fun e => by cases e)
  refine .callv (fun h => cont0_Item (h := h) (g := f_frag_Right_1) (args := [.nilsl,.d (.fn (.func f_frag_Right_1) [] [])]) rfl) (by kernel_rfl) ?_
  exact .ret rfl (by kernel_rfl)
 ·refine .w n_frag_Right (by kernel_rfl) ha ?_
  refine .br (!(iLt 40 (.ofNat l.length))) (by kernel_rfl) (fun e => ?_) (fun e => .retB false (by kernel_rfl) ?_)
  ·rw [Bool.not_eq_true',iLt_not] at e
   simp only [Int.ofNat_eq_natCast] at e
   refine .callv (fun h => cont_Item (h := h) (b := b) (n := l.length) (cs := cs) (g := f_frag_Right_1) (q := fun i => !fitsI (l.getD i ⟨[],0,[],[],0,0⟩)) (args := [.d (.sl b l.length cs),.d (.fn (.func f_frag_Right_1) [] [])]) rfl hl (by omega) (fun i hi' h => ?_)) (by kernel_rfl) ?_
   ·have : l.getD i ⟨[],0,[],[],0,0⟩ = l[i] := by rw [List.getD_eq_getElem?_getD,List.getElem?_eq_getElem hi']; rfl
    rw [this]
    exact notFits_ok (hi i hi')
   ·refine .ret rfl ?_
    rw [show rightF l = !(!decide (∀ j,j < l.length → (!fitsI (l.getD j ⟨[],0,[],[],0,0⟩)) = false)) from ?_]
    ·kernel_rfl
    ·simp only [rightF,show l.length ≤ 40 by omega,decide_true,Bool.true_and,Bool.not_not]
     rw [Bool.eq_iff_iff,decide_eq_true_eq,List.all_eq_true]
     constructor
     ·intro h j hj
      rw [List.getD_eq_getElem?_getD,List.getElem?_eq_getElem hj]
      simp only [Option.getD_some,Bool.not_eq_false']
      exact h _ (List.getElem_mem hj)
     ·intro h x hx
      obtain ⟨j,hj,rfl⟩ := List.getElem_of_mem hx
      have := h j hj
      rw [List.getD_eq_getElem?_getD,List.getElem?_eq_getElem hj] at this
      simpa using this
  ·rw [Bool.not_eq_false',iLt_iff] at e
   simp only [Int.ofNat_eq_natCast] at e
   simp [rightF,show ¬ l.length ≤ 40 by omega]
end
end Go.Proofs.YtehffjjfomapnaaGreatDoor
