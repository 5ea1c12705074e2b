/- What a value is shown as; contracts: value.show, value.Show. -/
import Derived.Test.YtgjhldabffjiaaaGreatDoorDA
import Derived.Test.YtgjhldabffjiaaaGreatDoorI
namespace Go.Proofs.YtgjhldabffjiaaaGreatDoor
open Go Go.Abs
set_option maxRecDepth 100000
noncomputable section
def Qs:List UInt8:=[48,49,50,51,52,53,54,55,56,57,65,66,67,68,69,70]
def Eh (n:Nat):UInt8:=Qs.getD n 0
def Iq (c:UInt8):Bool:=iLt 32 (.ofNat c.toNat) && !(iLt 126 (.ofNat c.toNat)) && !(iEq (.ofNat c.toNat) 34) && !(iEq (.ofNat c.toNat) 37)
def rD (c:UInt8):List UInt8:=match Iq c with
 |true=> [c]
 |false=> [37,Eh (c.toNat / 16),Eh (c.toNat % 16)]
mutual
def showV:ValS→List UInt8
 | .mk k n s l=> if k=0 then wT n else if k=1 then 34::(s.flatMap rD++ [34]) else 91::(rQ l++ [93])
def rQ:List ValS→List UInt8
 |[]=> []
 |v::r=> showV v++nW r
def nW:List ValS→List UInt8
 |[]=> []
 |v::r=> 44::(showV v++nW r)
end
theorem Ei:∀(l:List ValS) (v:ValS),nW (l++ [v])=nW l++44::showV v
 |[],v=> by simp [nW]
 |a::l,v=> by
  show 44::(showV a++nW (l++ [v]))=(44::(showV a++nW l))++44::showV v
  rw [Ei l v]; simp
theorem JS:∀(l:List ValS) (v:ValS),rQ (l++ [v])=rQ l++(if l=[] then [] else [44])++showV v
 |[],v=> by simp [rQ,nW]
 |a::l,v=> by
  show showV a++nW (l++ [v])=(showV a++nW l)++_++_
  rw [Ei l v]; simp
theorem Ej {l:List ValS} {i:Nat} (hi:i < l.length):rQ (l.take (i+1))=rQ (l.take i)++(if iLt 0 (.ofNat i) then [44] else [])++showV l[i]:=by
 rw [List.take_add_one,List.getElem?_eq_getElem hi]
 simp only [Option.toList]
 rw [JS]
 congr 2
 by_cases h0:i=0
 ·subst h0; rfl
 ·have:l.take i≠[]:=by
   intro e
   have:=congrArg List.length e
   rw [List.length_take] at this
   have:min i l.length=0:=this
   omega
  rw [if_neg this,if_pos]
  rw [o8]; simp; omega
theorem Md:∀l:List ValS,(nW l).length=(rQ l).length+(if l=[] then 0 else 1)
 |[]=> rfl
 |v::r=> by simp [nW,rQ]
theorem Nw:∀{l:List ValS} {i:Nat} (hi:i < l.length),(rQ (l.take i)).length+(showV l[i]).length+1≤(rQ l).length+1
 |l,i,hi=> by
  have h1:=Ej hi
  have h2:∀(a b:List ValS),(rQ a).length≤(rQ (a++b)).length:=by
   intro a b
   have hr:∀a b:List ValS,(nW a).length≤(nW (a++b)).length:=by
    intro a
    induction a with
    |nil=> intro b; simp [nW]
    |cons x a ih=>
     intro b
     have:=ih b
     simp only [List.cons_append,nW,List.length_cons,List.length_append]; omega
   cases a with
   |nil=> simp [rQ]
   |cons x a=>
    have:=hr a b
    simp only [List.cons_append,rQ,List.length_append]; omega
  have h3:=h2 (l.take (i+1)) (l.drop (i+1))
  rw [List.take_append_drop] at h3
  have h4:=congrArg List.length h1
  simp only [List.length_append] at h4
  omega
structure BO (b:Nat) (bs:List UInt8) (h0 h:Heap):Prop where
 p:Bld b bs h
 o:Oth b h0 h
theorem BO.at {b:Nat} {bs cs:List UInt8} {h0 h h':Heap} (e:h=h') (x:BO b bs h0 h') (hc:cs=bs):BO b cs h0 h:=by subst e hc; exact x
theorem Bld.push {b:Nat} {bs:List UInt8} {h:Heap} (x:Bld b bs h) (k:Blk):Bld b bs (h.push k):=by
 obtain ⟨a,v,hg,ha,hv⟩:=x
 exact ⟨a,v,push_of hg k,ha,hv.keep fun t g ht=> push_of ht k⟩
theorem Bld.lt {b:Nat} {bs:List UInt8} {h:Heap} (x:Bld b bs h):b < h.n:=by
 obtain ⟨a,v,hg,_⟩:=x
 exact get_lt hg
theorem Bld.Tx {b:Nat} {bs:List UInt8} {h:Heap} (x:Bld b bs h) {q:Nat} {k y:Blk} (hq:h.get q=some y) (hy:∀g,y≠ .tok g 5) (hb:q≠b):Bld b bs (h.set q k):=by
 obtain ⟨a,v,hg,ha,hv⟩:=x
 refine ⟨a,v,by rw [Heap.get_set_ne hb]; exact hg,ha,hv.keep fun t g ht=> ?_⟩
 rw [Heap.get_set_ne (fun e=> by subst e; rw [hq] at ht; cases ht; exact hy _ rfl)]; exact ht
theorem BO.push {b:Nat} {bs:List UInt8} {h0 h:Heap} (x:BO b bs h0 h) (k:Blk):BO b bs h0 (h.push k):=⟨x.p.push k,fun i y hy hn ht=> push_of (x.o i y hy hn ht) k⟩
theorem BO.Tx {b:Nat} {bs:List UInt8} {h0 h:Heap} (x:BO b bs h0 h) {q:Nat} {k y:Blk} (hq:h.get q=some y) (hy:∀g,y≠ .tok g 5) (hb:q≠b) (hn:h0.n≤q):BO b bs h0 (h.set q k):=
 ⟨x.p.Tx hq hy hb,fun i z hz hi ht=> by rw [Heap.get_set_ne (fun e=> by subst e; have:=get_lt hz; omega)]; exact x.o i z hz hi ht⟩
theorem BO.wb {b:Nat} {bs:List UInt8} {h0 h:Heap} (x:BO b bs h0 h) (c:UInt8) (hl:bs.length≤70000000000000):∃h',Cal E o9 [.ptr b 0,.d (byteD c)] h (.nrm,.d .nili,h')∧BO b (bs++ [c]) h0 h'∧Oth b h h':=by
 obtain ⟨h',hc,hB,hO⟩:=Vu x.p c (by omega)
 exact ⟨h',hc,⟨hB,x.o.trans hO⟩,hO⟩
theorem Ty {v:Int} (h0: -9223372036854775808≤v) (h1:v≤9223372036854775807) (h:Heap):yx E h [] 33 .Bg [.c (.d (.i .i64 v)),.c (.d (.i .i64 (.ofNat 10)))]= .val (.d (.s (wT v))) h:=by
 have hp:E.pr 33=true:=by kernel_rfl
 have hr:inR .i64 v=true:=Sq h0 (by omega)
 simp only [yx,hp,List.map,X.ev,JU,hr,ov]
 rfl
theorem Qt (v:Int):wT v≠[]:=by
 cases v with
 |ofNat u=>
  show yc 20 u []≠[]
  have:∀(f u:Nat) (acc:List UInt8),acc≠[]∨0 < f→yc f u acc≠[]:=by
   intro f
   induction f with
   |zero=> intro u acc h; rcases h with h | h; exact h; omega
   |succ f ih=>
    intro u acc _
    rw [qJ]
    split
    ·simp
    ·exact ih _ _ (.inl (by simp))
  exact this 20 u [] (.inr (by omega))
 |negSucc u=> simp [wT]
theorem Vw (u:Nat):Nat.land u 15=u % 16:=Nat.and_two_pow_sub_one_eq_mod u 4
theorem Ny {j:Nat} (hj:j < 16):Qs[j]? =some (Eh j):=by
 have:j=0∨j=1∨j=2∨j=3∨j=4∨j=5∨j=6∨j=7∨j=8∨j=9∨j=10∨j=11∨j=12∨j=13∨j=14∨j=15:=by omega
 rcases this with rfl | rfl | rfl | rfl | rfl | rfl | rfl | rfl | rfl | rfl | rfl | rfl | rfl | rfl | rfl | rfl <;> rfl
def Tz (v:ValS) (cs:List DV):Prop:=∀(b:Nat) (bs:List UInt8) (h:Heap),Bld b bs h→bs.length+(showV v).length≤60000000000000→∃h',Cal E u6 [.ptr b 0,.agg (cs.map .d)] h (.nrm,.tup [],h')∧BO b (bs++showV v) h h'
def chF (s:List UInt8) (i b:Nat):List (Nat×AV):=[(0,.ptr b 0),(43,.d (.sl false s.length (bytesD s))),(44,mkI s.length),(45,mkI i)]
theorem KY {i:Nat} (h:i < 9223372036854775807):(AV.d (.i .i64 (wrap .i64 (.ofNat i+1))))=mkI (i+1):=by
 rw [wrap64 (by simp only [Int.ofNat_eq_natCast]; omega) (by simp only [Int.ofNat_eq_natCast]; omega)]; rfl
end
end Go.Proofs.YtgjhldabffjiaaaGreatDoor
