/- Contracts: value.Same. -/
import Derived.Test.YtgjhldabffjiaaaGreatDoorDH
import Derived.Test.YtgjhldabffjiaaaGreatDoorDC
namespace Go.Proofs.YtgjhldabffjiaaaGreatDoor
open Go Go.Abs
set_option maxRecDepth 100000
set_option maxHeartbeats 0
noncomputable section
mutual
def eqV:ValS→ValS→Bool
 | .mk k n s l,.mk k' n' s' l'=> iEq k k' && iEq n n' && strEq s s' && yg l l'
def yg:List ValS→List ValS→Bool
 |[],[]=> true
 |v::l,w::m=> eqV v w && yg l m
 |_,_=> false
end
mutual
theorem D9:∀v w:ValS,eqV v w=true↔v=w
 | .mk k n s l,.mk k' n' s' l'=> by
  simp only [eqV,Bool.and_eq_true,iEq_iff,pO,Is l l',ValS.mk.injEq]
  constructor
  ·rintro ⟨⟨⟨a,b⟩,c⟩,d⟩; exact ⟨a,b,c,d⟩
  ·rintro ⟨a,b,c,d⟩; exact ⟨⟨⟨a,b⟩,c⟩,d⟩
theorem Is:∀l m:List ValS,yg l m=true↔l=m
 |[],[]=> by simp [yg]
 |[],_::_=> by simp [yg]
 |_::_,[]=> by simp [yg]
 |v::l,w::m=> by simp only [yg,Bool.and_eq_true,D9 v w,Is l m,List.cons.injEq]
end
theorem Iu:∀{l m:List ValS},l.length≠m.length→yg l m=false
 |[],[],h=> absurd rfl h
 |[],_::_,_=> by simp [yg]
 |_::_,[],_=> by simp [yg]
 |x::l,y::m,h=> by
  simp only [yg]
  rw [Iu (l:=l) (m:=m) (by simpa using h),Bool.and_false]
def NB (v:ValS) (cs:List DV):Prop:=∀(w:ValS) (ds:List DV),ValR w ds→∀h,Cal E nT [.agg (cs.map .d),.agg (ds.map .d)] h (.nrm,.d (.b (eqV v w)),h)
theorem FX {h:Heap} {args:List AV} {bor b1 b2:Bool} {l m:List ValS} {cs ds:List DV} (hl:cs.length=l.length*4) (hcs:∀i (hi:i < l.length),ValR l[i] (chunk cs 4 i)) (ih:∀i (hi:i < l.length),NB l[i] (chunk cs 4 i)) (hl2:ds.length=m.length*4) (hds:∀i (hi:i < m.length),ValR m[i] (chunk ds 4 i))
  (hn:l.length≤9223372036854775807) (ha:stripArgs h args=some ([.sl b1 l.length cs,.sl b2 m.length ds,.fn (.func nT) [] []],bor)):
  Cal E ny args h (.nrm,.d (.b (yg l m)),h):=by
 refine .w uy (by kernel_rfl) ha ?_
 refine .br (!(iEq (.ofNat l.length) (.ofNat m.length))) (by kernel_rfl) (fun e=> ?_) (fun e=> ?_)
 ·have e:l.length≠m.length:=by
   intro he
   rw [he] at e
   have:iEq (.ofNat m.length) (.ofNat m.length)=true:=by rw [iEq_iff]
   rw [this] at e; cases e
  refine .sI false (by kernel_rfl) ?_
  rw [Iu e]
 have hlm:l.length=m.length:=by
  have e:iEq (.ofNat l.length) (.ofNat m.length)=true:=by simpa using e
  rw [iEq_iff] at e; exact Int.ofNat.inj e
 clear e
 refine .loop true (fun k tm h=> ∃i,i+k=l.length∧yg (l.drop i) (m.drop i)=yg l m∧St 32 [(0,.d (.sl b1 l.length cs)),(1,.d (.sl b2 m.length ds)),(2,.d (.fn (.func nT) [] [])),(15,.d (.sl b1 l.length cs)),(16,mkI l.length),(17,mkI i)] tm) l.length (by kernel_rfl)
  ⟨0,by omega,rfl,.of (by kernel_rfl) ⟨by kernel_rfl,by kernel_rfl,by kernel_rfl,by kernel_rfl,by kernel_rfl,by kernel_rfl,trivial⟩⟩ ?_
 rintro k tm g ⟨i,hik,hR,g',rfl⟩
 refine .br (iLt (.ofNat i) (.ofNat l.length)) (by kernel_rfl) (fun e=> ?_) (fun e=> ?_)
 rotate_left
 ·have:k=0:=by rw [tV] at e; simp only [Int.ofNat_eq_natCast] at e; omega
  subst this
  refine .out true 1 (by kernel_rfl) (.sI true (by kernel_rfl) ?_)
  rw [←hR,List.drop_eq_nil_of_le (by omega),List.drop_eq_nil_of_le (by omega)]
  simp [yg]
 have hi:i < l.length:=by rw [o8] at e; simpa using e
 have hi2:i < m.length:=by omega
 obtain ⟨k,rfl⟩:∃j,k=j+1:=⟨k - 1,by omega⟩
 have hx:=hcs i hi
 have hy:=hds i hi2
 have hld:=BX E (b:=b1) hl hi
 have Vx:=BX E (b:=b2) hl2 hi2
 rw [List.drop_eq_getElem_cons hi,List.drop_eq_getElem_cons hi2] at hR
 simp only [yg] at hR
 have hc:=ih i hi _ _ hy
 generalize eqV l[i] m[i]=sm at hR hc
 obtain ⟨k1,n1,s1,a1,m1,c1,e1⟩:=hx.lit
 obtain ⟨k2,n2,s2,a2,m2,c2,e2⟩:=hy.lit
 rw [e1] at hld hc
 rw [e2] at Vx hc
 refine .opv (Bh (k:= .i64) (z:=4) (b:=b1) (n:=l.length) (cs:=cs) (j:=i) rfl hi) (by kernel_rfl) ?_
 refine .opv hld (by kernel_rfl) ?_
 have p1:=push_n g (.cells false t_Value zV)
 refine .op (store_ptr (n:=4) (off:=0) (x:= .agg [.d (.i .u8 k1),.d (.i .i64 n1),.d (.s s1),.d (.sl a1 m1 c1)]) p1 rfl) (by kernel_rfl) ?_
 have p2:=Heap.get_set_self (b':= .cells false t_Value [.d (.i .u8 k1),.d (.i .i64 n1),.d (.s s1),.d (.sl a1 m1 c1)]) p1
 refine .opv (Bh (k:= .i64) (z:=4) (b:=b2) (n:=m.length) (cs:=ds) (j:=i) rfl hi2) (by kernel_rfl) ?_
 refine .opv Vx (by kernel_rfl) ?_
 have p3:=push_n ((g.push (.cells false t_Value zV)).set g.n (.cells false t_Value [.d (.i .u8 k1),.d (.i .i64 n1),.d (.s s1),.d (.sl a1 m1 c1)])) (.cells false t_Value zV)
 refine .op (store_ptr (n:=4) (off:=0) (x:= .agg [.d (.i .u8 k2),.d (.i .i64 n2),.d (.s s2),.d (.sl a2 m2 c2)]) p3 rfl) (by kernel_rfl) ?_
 have p4:=Heap.get_set_self (b':= .cells false t_Value [.d (.i .u8 k2),.d (.i .i64 n2),.d (.s s2),.d (.sl a2 m2 c2)]) p3
 have p5:=push_of p2 (.cells false t_Value zV)
 have p6:((((g.push (.cells false t_Value zV)).set g.n (.cells false t_Value [.d (.i .u8 k1),.d (.i .i64 n1),.d (.s s1),.d (.sl a1 m1 c1)])).push (.cells false t_Value zV)).set (g.n+1) (.cells false t_Value [.d (.i .u8 k2),.d (.i .i64 n2),.d (.s s2),.d (.sl a2 m2 c2)])).get g.n=some (.cells false t_Value [.d (.i .u8 k1),.d (.i .i64 n1),.d (.s s1),.d (.sl a1 m1 c1)]):=by
  rw [Heap.get_set_ne (by omega)]; exact p5
 refine .op (iR E (ag:=true) (n:=4) (off:=0) p6 rfl rfl) (by kernel_rfl) ?_
 refine .op (iR E (ag:=true) (n:=4) (off:=0) p4 rfl rfl) (by kernel_rfl) ?_
 refine .oU hc (by kernel_rfl) ?_
 refine .br (!sm) (by kernel_rfl) (fun e3=> ?_) (fun e3=> ?_)
 ·have e3:sm=false:=by simpa using e3
  refine .out true 0 (by kernel_rfl) (.sI false (by kernel_rfl) ?_)
  rw [←hR,e3]; rfl
 ·have e3:sm=true:=by simpa using e3
  refine .next k (by kernel_rfl) (by omega) ⟨i+1,by omega,?_,.of (by kernel_rfl) ⟨by kernel_rfl,by kernel_rfl,by kernel_rfl,by kernel_rfl,by kernel_rfl,?_,trivial⟩⟩
  ·rw [←hR,e3]; rfl
  ·exact Eq.trans (b:= .d (.i .i64 (wrap .i64 (.ofNat i+1)))) (by kernel_rfl) (KY (by omega))
theorem JV {h:Heap} {args:List AV} {bor b1:Bool} {n:Nat} {cs:List DV} (ha:stripArgs h args=some ([.sl b1 n cs,.nsl,.fn (.func nT) [] []],bor)):Cal E ny args h (.nrm,.d (.b (decide (n=0))),h):=by
 refine .w uy (by kernel_rfl) ha ?_
 refine .br (!(iEq (.ofNat n) 0)) (by kernel_rfl) (fun e=> ?_) (fun e=> ?_)
 ·refine .sI false (by kernel_rfl) ?_
  by_cases hn:n=0
  ·subst hn; cases e
  ·simp [hn]
 ·have hn:n=0:=by
   have e:iEq (.ofNat n) 0=true:=by simpa using e
   rw [iEq_iff] at e; exact Int.ofNat.inj e
  subst hn
  refine .loop true (fun _ tm h=> St 32 [(16,mkI 0),(17,mkI 0)] tm) 0 (by kernel_rfl) (.of (by kernel_rfl) ⟨by kernel_rfl,by kernel_rfl,trivial⟩) ?_
  rintro k tm g ⟨g',rfl⟩
  refine .br false (by kernel_rfl) (fun e=> nomatch e) (fun _=> ?_)
  exact .out true 1 (by kernel_rfl) (.sI true (by kernel_rfl) rfl)
theorem KZ {h:Heap} {args:List AV} {bor b1 b2:Bool} {k n k' n':Int} {s s':List UInt8} {l m:List ValS} {cs ds:List DV} (hc:∀h,Cal E ny [.d (.sl b1 l.length cs),.d (.sl b2 m.length ds),.d (.fn (.func nT) [] [])] h (.nrm,.d (.b (yg l m)),h))
  (ha:stripArgs h args=some ([.agg [.i .u8 k,.i .i64 n,.s s,.sl b1 l.length cs],.agg [.i .u8 k',.i .i64 n',.s s',.sl b2 m.length ds]],bor)):Cal E nT args h (.nrm,.d (.b (eqV (.mk k n s l) (.mk k' n' s' m))),h):=by
 unfold eqV
 refine .w BZ (by kernel_rfl) ha ?_
 refine .br (iEq k k') (by kernel_rfl) (fun e1=> ?_) (fun e1=> .sI false (by kernel_rfl) (by rw [e1]; rfl))
 refine .br (iEq n n') (by kernel_rfl) (fun e2=> ?_) (fun e2=> .sI false (by kernel_rfl) (by rw [e2,Bool.and_false]; rfl))
 refine .br (strEq s s') (by kernel_rfl) (fun e3=> ?_) (fun e3=> .sI false (by kernel_rfl) (by rw [e3,Bool.and_false]; rfl))
 refine .oU hc (by kernel_rfl) ?_
 refine .sI (yg l m) (by kernel_rfl) ?_
 rw [e1,e2,e3]; rfl
theorem Qw {h:Heap} {args:List AV} {bor b1:Bool} {k n k' n':Int} {s s':List UInt8} {l:List ValS} {cs:List DV}
  (ha:stripArgs h args=some ([.agg [.i .u8 k,.i .i64 n,.s s,.sl b1 l.length cs],.agg [.i .u8 k',.i .i64 n',.s s',.nsl]],bor)):Cal E nT args h (.nrm,.d (.b (eqV (.mk k n s l) (.mk k' n' s' []))),h):=by
 unfold eqV
 have hz:decide (l.length=0)=yg l []:=by cases l <;> simp [yg]
 have hc:∀h,Cal E ny [.d (.sl b1 l.length cs),.nilsl,.d (.fn (.func nT) [] [])] h (.nrm,.d (.b (yg l [])),h):=fun h=> by rw [←hz]; exact JV (bor:=false) rfl
 refine .w BZ (by kernel_rfl) ha ?_
 refine .br (iEq k k') (by kernel_rfl) (fun e1=> ?_) (fun e1=> .sI false (by kernel_rfl) (by rw [e1]; rfl))
 refine .br (iEq n n') (by kernel_rfl) (fun e2=> ?_) (fun e2=> .sI false (by kernel_rfl) (by rw [e2,Bool.and_false]; rfl))
 refine .br (strEq s s') (by kernel_rfl) (fun e3=> ?_) (fun e3=> .sI false (by kernel_rfl) (by rw [e3,Bool.and_false]; rfl))
 refine .oU hc (by kernel_rfl) ?_
 refine .sI (yg l []) (by kernel_rfl) ?_
 rw [e1,e2,e3]; rfl
theorem NC {v:ValS} {cs:List DV} (hv:ValR v cs) (hlv:Bi v):NB v cs:=by
 induction hv with
 |sl k n s l b vcs hl hcs hkn ih=>
 intro w ds hw h
 obtain ⟨k',n',s',m,b',wcs,hl2,hds,_⟩:=hw
 exact KZ (bor:=false || (false || false)) (fun h=> FX (bor:=false) hl hcs (fun i hi=> ih i hi (yY hlv.2 i hi)) hl2 hds hlv.1 rfl) (strip_cons (zy _) (strip_cons (zy _) strip_nil))
theorem Qx {h:Heap} {args:List AV} {bor:Bool} {v w:ValS} {cs ds:List DV} (hv:ValR v cs) (hlv:Bi v) (hw:ValT w ds) (ha:stripArgs h args=some ([.agg cs,.agg ds],bor)):Cal E nT args h (.nrm,.d (.b (eqV v w)),h):=by
 obtain ⟨k,n,s,l,b,vcs,hl,hcs,_⟩:=hv
 rcases hw with hw | ⟨k',n',s',rfl,rfl,_⟩
 ·obtain ⟨k',n',s',m,b',wcs,hl2,hds,_⟩:=hw
  exact KZ (fun h=> FX (bor:=false) hl hcs (fun i hi=> NC (hcs i hi) (yY hlv.2 i hi)) hl2 hds hlv.1 rfl) ha
 ·exact Qw ha
end
end Go.Proofs.YtgjhldabffjiaaaGreatDoor
