/- Contracts: slices.Equal of texts, frag.same, frag.Same. -/
import Derived.Test.YtehffjjfomapnaaGreatDoorCE
import Derived.Test.YtehffjjfomapnaaGreatDoorV
namespace Go.Proofs.YtehffjjfomapnaaGreatDoor
open Go Go.Abs
set_option maxRecDepth 100000
set_option maxHeartbeats 0
noncomputable section
theorem eqStr_ok {h : Heap} {args : List AV} {bor b1 b2 : Bool} {xs ys : List (List UInt8)} (hn : xs.length < 9223372036854775807) (ha : stripArgs h args = some ([.sl b1 xs.length (xs.map .s),.sl b2 ys.length (ys.map .s)],bor)) :
  Cal E f_slices_Equal_string args h (.nrm,.d (.b (decide (xs = ys))),h) := by
 refine .w n_slices_Equal_string (by kernel_rfl) ha ?_
 refine .br (!(iEq (.ofNat xs.length) (.ofNat ys.length))) (by kernel_rfl) (fun e => ?_) (fun e => ?_)
 ·have e : xs.length ≠ ys.length := by
   intro he
   rw [he] at e
   have : iEq (.ofNat ys.length) (.ofNat ys.length) = true := by rw [iEq_iff]
   rw [this] at e; cases e
  refine .retB false (by kernel_rfl) ?_
  rw [decide_eq_false (fun he => e (by rw [he]))]
 have hl : xs.length = ys.length := by
  have e : iEq (.ofNat xs.length) (.ofNat ys.length) = true := by simpa using e
  rw [iEq_iff] at e; exact Int.ofNat.inj e
 clear e
 refine .loop false (fun m tm h => ∃ i,i + m = xs.length ∧ xs.take i = ys.take i ∧ St 26 [(0,.d (.sl b1 xs.length (xs.map .s))),(1,.d (.sl b2 ys.length (ys.map .s))),(12,mkI xs.length),(13,mkI i)] tm) xs.length (by kernel_rfl)
  ⟨0,by omega,rfl,.of (by kernel_rfl) ⟨by kernel_rfl,by kernel_rfl,by kernel_rfl,by kernel_rfl,trivial⟩⟩ ?_
 rintro m tm h' ⟨i,him,hR,g',rfl⟩
 refine .br (iLt (.ofNat i) (.ofNat xs.length)) (by kernel_rfl) (fun e => ?_) (fun e => ?_)
 ·have hi : i < xs.length := by rw [iLt_iff] at e; simpa using e
  have hi2 : i < ys.length := by omega
  obtain ⟨m,rfl⟩ : ∃ k,m = k + 1 := ⟨m - 1,by omega⟩
  refine .opv (iaS_sl (k := .i64) (z := 1) (b := b1) (n := xs.length) (cs := xs.map .s) (j := i) rfl hi) (by kernel_rfl) ?_
  refine .opv (load_bx1 E (b := b1) (cs := xs.map .s) (j := i) (x := .s xs[i]) (by rw [List.getElem?_map,List.getElem?_eq_getElem hi]; rfl)) (by kernel_rfl) ?_
  refine .opv (iaS_sl (k := .i64) (z := 1) (b := b2) (n := ys.length) (cs := ys.map .s) (j := i) rfl hi2) (by kernel_rfl) ?_
  refine .opv (load_bx1 E (b := b2) (cs := ys.map .s) (j := i) (x := .s ys[i]) (by rw [List.getElem?_map,List.getElem?_eq_getElem hi2]; rfl)) (by kernel_rfl) ?_
  refine .br (!(strEq xs[i] ys[i])) (by kernel_rfl) (fun e2 => ?_) (fun e2 => ?_)
  ·have e2 : xs[i] ≠ ys[i] := by simpa [strEq] using e2
   refine .out false 0 (by kernel_rfl) (.retB false (by kernel_rfl) ?_)
   rw [decide_eq_false (fun he => e2 (by subst he; rfl))]
  ·have e2 : xs[i] = ys[i] := by simpa [strEq] using e2
   refine .next m (by kernel_rfl) (by omega) ⟨i + 1,by omega,?_,.of (by kernel_rfl) ⟨by kernel_rfl,by kernel_rfl,by kernel_rfl,?_,trivial⟩⟩
   ·rw [List.take_add_one,List.take_add_one,hR,List.getElem?_eq_getElem hi,List.getElem?_eq_getElem hi2,e2]
   ·exact Eq.trans (b := .d (.i .i64 (wrap .i64 (.ofNat i + 1)))) (by kernel_rfl) (inc64' (by omega))
 ·have : m = 0 := by rw [iLt_not] at e; simp only [Int.ofNat_eq_natCast] at e; omega
  subst this
  have hxy : xs = ys := by
   have h1 : xs.take i = xs := List.take_of_length_le (by omega)
   have h2 : ys.take i = ys := List.take_of_length_le (by omega)
   rw [← h1,hR,h2]
  refine .out false 1 (by kernel_rfl) (.retB true (by kernel_rfl) ?_)
  rw [decide_eq_true hxy]
def sameI (x y : ItemS) : Bool := strEq x.name y.name && iEq x.kind y.kind && decide (x.after = y.after) && strEq x.over y.over && iEq x.width y.width && iEq x.quota y.quota
theorem sameI_iff {x y : ItemS} : sameI x y = true ↔ x = y := by
 obtain ⟨a,b,c,d,e,f⟩ := x
 obtain ⟨a',b',c',d',e',f'⟩ := y
 simp only [sameI,Bool.and_eq_true,strEq_iff,iEq_iff,decide_eq_true_eq,ItemS.mk.injEq]
 constructor
 ·rintro ⟨⟨⟨⟨⟨h1,h2⟩,h3⟩,h4⟩,h5⟩,h6⟩; exact ⟨h1,h2,h3,h4,h5,h6⟩
 ·rintro ⟨h1,h2,h3,h4,h5,h6⟩; exact ⟨⟨⟨⟨⟨h1,h2⟩,h3⟩,h4⟩,h5⟩,h6⟩
theorem sameS {h : Heap} {args : List AV} {bor b b' : Bool} {x y : ItemS} (hn : x.after.length < 9223372036854775807)
  (ha : stripArgs h args = some ([.agg (icD x (.sl b x.after.length (x.after.map .s))),.agg (icD y (.sl b' y.after.length (y.after.map .s)))],bor)) : Cal E f_frag_same args h (.nrm,.d (.b (sameI x y)),h) := by
 obtain ⟨name,kind,after,over,width,quota⟩ := x
 obtain ⟨name',kind',after',over',width',quota'⟩ := y
 unfold sameI
 simp only [icD] at ha hn ⊢
 refine .w n_frag_same (by kernel_rfl) ha ?_
 refine .br (strEq name name') (by kernel_rfl) (fun e1 => ?_) (fun e1 => .retB false (by kernel_rfl) (by rw [e1]; rfl))
 refine .br (iEq kind kind') (by kernel_rfl) (fun e2 => ?_) (fun e2 => .retB false (by kernel_rfl) (by rw [e2,Bool.and_false]; rfl))
 refine .callv (fun h => eqStr_ok (h := h) (b1 := b) (b2 := b') (xs := after) (ys := after') (args := [.d (.sl b after.length (after.map .s)),.d (.sl b' after'.length (after'.map .s))]) hn rfl) (by kernel_rfl) ?_
 refine .br (decide (after = after')) (by kernel_rfl) (fun e3 => ?_) (fun e3 => .retB false (by kernel_rfl) (by rw [e3,Bool.and_false]; rfl))
 refine .br (strEq over over') (by kernel_rfl) (fun e4 => ?_) (fun e4 => .retB false (by kernel_rfl) (by rw [e4,Bool.and_false]; rfl))
 refine .br (iEq width width') (by kernel_rfl) (fun e5 => ?_) (fun e5 => .retB false (by kernel_rfl) (by rw [e5,Bool.and_false]; rfl))
 refine .retB (iEq quota quota') (by kernel_rfl) ?_
 rw [e1,e2,e3,e4,e5]; rfl
theorem same_ok {h : Heap} {x y : ItemS} {cs ds : List DV} (hn : x.after.length < 9223372036854775807) (hx : ItemR x cs) (hy : ItemR y ds) : Cal E f_frag_same [.agg (cs.map .d),.agg (ds.map .d)] h (.nrm,.d (.b (sameI x y)),h) := by
 obtain ⟨b,rfl,_⟩ := hx
 obtain ⟨b',rfl,_⟩ := hy
 exact sameS (bor := false || (false || false)) hn (strip_cons (borrow_agg _) (strip_cons (borrow_agg _) strip_nil))
def sameL : List ItemS → List ItemS → Bool
 | [],[] => true
 | x :: l,y :: m => sameI x y && sameL l m
 | _,_ => false
theorem sameL_len : ∀ {l m : List ItemS},l.length ≠ m.length → sameL l m = false
 | [],[],h => absurd rfl h
 | [],_ :: _,_ => rfl
 | _ :: _,[],_ => rfl
 | x :: l,y :: m,h => by
  show (sameI x y && sameL l m) = false
  rw [sameL_len (l := l) (m := m) (by simpa using h),Bool.and_false]
theorem ItemR.lit {x : ItemS} {cs : List DV} (h : ItemR x cs) : ∃ n k b m ns o w q,cs = [.s n,.i .u8 k,.sl b m ns,.s o,.i .i64 w,.i .i64 q] := by
 obtain ⟨b,rfl,_⟩ := h
 exact ⟨_,_,_,_,_,_,_,_,rfl⟩
theorem eqItems_ok {h : Heap} {args : List AV} {bor b1 b2 : Bool} {l m : List ItemS} {cs ds : List DV} (hl : cs.length = l.length * 6) (hcs : ∀ i (hi : i < l.length),ItemR l[i] (chunk cs 6 i)) (hl2 : ds.length = m.length * 6) (hds : ∀ i (hi : i < m.length),ItemR m[i] (chunk ds 6 i))
  (hn : l.length < 9223372036854775807) (hla : ∀ x ∈ l,x.after.length < 9223372036854775807) (ha : stripArgs h args = some ([.sl b1 l.length cs,.sl b2 m.length ds,.fn (.func f_frag_same) [] []],bor)) :
  Cal E f_slices_EqualFunc_Item args h (.nrm,.d (.b (sameL l m)),h) := by
 refine .w n_slices_EqualFunc_Item (by kernel_rfl) ha ?_
 refine .br (!(iEq (.ofNat l.length) (.ofNat m.length))) (by kernel_rfl) (fun e => ?_) (fun e => ?_)
 ·have e : l.length ≠ m.length := by
   intro he
   rw [he] at e
   have : iEq (.ofNat m.length) (.ofNat m.length) = true := by rw [iEq_iff]
   rw [this] at e; cases e
  refine .retB false (by kernel_rfl) ?_
  rw [sameL_len e]
 have hlm : l.length = m.length := by
  have e : iEq (.ofNat l.length) (.ofNat m.length) = true := by simpa using e
  rw [iEq_iff] at e; exact Int.ofNat.inj e
 clear e
 refine .loop true (fun k tm h => ∃ i,i + k = l.length ∧ sameL (l.drop i) (m.drop i) = sameL l m ∧ St 32 [(0,.d (.sl b1 l.length cs)),(1,.d (.sl b2 m.length ds)),(2,.d (.fn (.func f_frag_same) [] [])),(15,.d (.sl b1 l.length cs)),(16,mkI l.length),(17,mkI i)] tm) l.length (by kernel_rfl)
  ⟨0,by omega,rfl,.of (by kernel_rfl) ⟨by kernel_rfl,by kernel_rfl,by kernel_rfl,by kernel_rfl,by kernel_rfl,by kernel_rfl,trivial⟩⟩ ?_
 rintro k tm g ⟨i,hik,hR,g',rfl⟩
 refine .br (iLt (.ofNat i) (.ofNat l.length)) (by kernel_rfl) (fun e => ?_) (fun e => ?_)
 rotate_left
 ·have : k = 0 := by rw [iLt_not] at e; simp only [Int.ofNat_eq_natCast] at e; omega
  subst this
  refine .out true 1 (by kernel_rfl) (.retB true (by kernel_rfl) ?_)
  rw [← hR,List.drop_eq_nil_of_le (by omega),List.drop_eq_nil_of_le (by omega)]
  rfl
 have hi : i < l.length := by rw [iLt_iff] at e; simpa using e
 have hi2 : i < m.length := by omega
 obtain ⟨k,rfl⟩ : ∃ j,k = j + 1 := ⟨k - 1,by omega⟩
 have hx := hcs i hi
 have hy := hds i hi2
 have hxa := hla l[i] (List.getElem_mem hi)
 have hld := load_bx E (b := b1) hl hi
 have hld2 := load_bx E (b := b2) hl2 hi2
 rw [List.drop_eq_getElem_cons hi,List.drop_eq_getElem_cons hi2] at hR
 have hR : (sameI l[i] m[i] && sameL (l.drop (i + 1)) (m.drop (i + 1))) = sameL l m := hR
 have hc : ∀ h,Cal E f_frag_same [.agg ((chunk cs 6 i).map .d),.agg ((chunk ds 6 i).map .d)] h (.nrm,.d (.b (sameI l[i] m[i])),h) := fun h => same_ok hxa hx hy
 generalize sameI l[i] m[i] = sm at hR hc
 obtain ⟨n1,k1,a1,m1,s1,o1,w1,q1,e1⟩ := ItemR.lit hx
 obtain ⟨n2,k2,a2,m2,s2,o2,w2,q2,e2⟩ := ItemR.lit hy
 rw [e1] at hld hc
 rw [e2] at hld2 hc
 refine .opv (iaS_sl (k := .i64) (z := 6) (b := b1) (n := l.length) (cs := cs) (j := i) rfl hi) (by kernel_rfl) ?_
 refine .opv hld (by kernel_rfl) ?_
 have p1 := push_n g (.cells false t_Item zC)
 refine .op (store_ptr (n := 6) (off := 0) (x := .agg [.d (.s n1),.d (.i .u8 k1),.d (.sl a1 m1 s1),.d (.s o1),.d (.i .i64 w1),.d (.i .i64 q1)]) p1 rfl) (by kernel_rfl) ?_
 have p2 := Heap.get_set_self (b' := .cells false t_Item [.d (.s n1),.d (.i .u8 k1),.d (.sl a1 m1 s1),.d (.s o1),.d (.i .i64 w1),.d (.i .i64 q1)]) p1
 refine .opv (iaS_sl (k := .i64) (z := 6) (b := b2) (n := m.length) (cs := ds) (j := i) rfl hi2) (by kernel_rfl) ?_
 refine .opv hld2 (by kernel_rfl) ?_
 have p3 := push_n ((g.push (.cells false t_Item zC)).set g.n (.cells false t_Item [.d (.s n1),.d (.i .u8 k1),.d (.sl a1 m1 s1),.d (.s o1),.d (.i .i64 w1),.d (.i .i64 q1)])) (.cells false t_Item zC)
 refine .op (store_ptr (n := 6) (off := 0) (x := .agg [.d (.s n2),.d (.i .u8 k2),.d (.sl a2 m2 s2),.d (.s o2),.d (.i .i64 w2),.d (.i .i64 q2)]) p3 rfl) (by kernel_rfl) ?_
 have p4 := Heap.get_set_self (b' := .cells false t_Item [.d (.s n2),.d (.i .u8 k2),.d (.sl a2 m2 s2),.d (.s o2),.d (.i .i64 w2),.d (.i .i64 q2)]) p3
 have p5 := push_of p2 (.cells false t_Item zC)
 have p6 : ((((g.push (.cells false t_Item zC)).set g.n (.cells false t_Item [.d (.s n1),.d (.i .u8 k1),.d (.sl a1 m1 s1),.d (.s o1),.d (.i .i64 w1),.d (.i .i64 q1)])).push (.cells false t_Item zC)).set (g.n + 1) (.cells false t_Item [.d (.s n2),.d (.i .u8 k2),.d (.sl a2 m2 s2),.d (.s o2),.d (.i .i64 w2),.d (.i .i64 q2)])).get g.n = some (.cells false t_Item [.d (.s n1),.d (.i .u8 k1),.d (.sl a1 m1 s1),.d (.s o1),.d (.i .i64 w1),.d (.i .i64 q1)]) := by
  rw [Heap.get_set_ne (by omega)]; exact p5
 refine .op (load_ptr E (ag := true) (n := 6) (off := 0) p6 rfl rfl) (by kernel_rfl) ?_
 refine .op (load_ptr E (ag := true) (n := 6) (off := 0) p4 rfl rfl) (by kernel_rfl) ?_
 refine .callv hc (by kernel_rfl) ?_
 refine .br (!sm) (by kernel_rfl) (fun e3 => ?_) (fun e3 => ?_)
 ·have e3 : sm = false := by simpa using e3
  refine .out true 0 (by kernel_rfl) (.retB false (by kernel_rfl) ?_)
  rw [← hR,e3]; rfl
 ·have e3 : sm = true := by simpa using e3
  refine .next k (by kernel_rfl) (by omega) ⟨i + 1,by omega,?_,.of (by kernel_rfl) ⟨by kernel_rfl,by kernel_rfl,by kernel_rfl,by kernel_rfl,by kernel_rfl,?_,trivial⟩⟩
  ·rw [← hR,e3]; rfl
  ·exact Eq.trans (b := .d (.i .i64 (wrap .i64 (.ofNat i + 1)))) (by kernel_rfl) (inc64' (by omega))
theorem fragSame_ok {h : Heap} {args : List AV} {bor b1 b2 : Bool} {l m : List ItemS} {cs ds : List DV} (hl : cs.length = l.length * 6) (hcs : ∀ i (hi : i < l.length),ItemR l[i] (chunk cs 6 i)) (hl2 : ds.length = m.length * 6) (hds : ∀ i (hi : i < m.length),ItemR m[i] (chunk ds 6 i))
  (hn : l.length < 9223372036854775807) (hla : ∀ x ∈ l,x.after.length < 9223372036854775807) (ha : stripArgs h args = some ([.sl b1 l.length cs,.sl b2 m.length ds],bor)) : Cal E f_frag_Same args h (.nrm,.d (.b (sameL l m)),h) := by
 refine .w n_frag_Same (by kernel_rfl) ha ?_
 refine .callv (fun h => eqItems_ok (h := h) (b1 := b1) (b2 := b2) (l := l) (m := m) (cs := cs) (ds := ds) (args := [.d (.sl b1 l.length cs),.d (.sl b2 m.length ds),.d (.fn (.func f_frag_same) [] [])]) hl hcs hl2 hds hn hla rfl) (by kernel_rfl) ?_
 exact .ret rfl (by kernel_rfl)
end
end Go.Proofs.YtehffjjfomapnaaGreatDoor
