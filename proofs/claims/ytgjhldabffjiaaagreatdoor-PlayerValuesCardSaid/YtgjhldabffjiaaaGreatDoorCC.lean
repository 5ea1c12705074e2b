/- Contracts: a strings.Builder in a shared heap: copyCheck, WriteString, String. -/
import Derived.Test.YtgjhldabffjiaaaGreatDoorCB
namespace Go.Proofs.YtgjhldabffjiaaaGreatDoor
open Go Go.Abs
set_option maxRecDepth 100000
noncomputable section
def Im (bs:List UInt8) (v:AV) (h:Heap):Prop:=(bs=[]∧v= .nilsl)∨(bs≠[]∧∃t g,v= .app t g bs.length (bytesD bs)∧h.get t=some (.tok g 5))
theorem Im.fa {bs:List UInt8} {v:AV} {h:Heap} (r:Im bs v h):FA 5 bs.length (bytesD bs) v h:=by
 rcases r with ⟨rfl,rfl⟩ | ⟨_,t,g,rfl,ht⟩
 ·exact .inl ⟨rfl,rfl,.inr rfl⟩
 ·exact .inr ⟨t,g,rfl,ht⟩
theorem Im.keep {bs:List UInt8} {v:AV} {h h':Heap} (r:Im bs v h) (k:∀t g,h.get t=some (.tok g 5)→h'.get t=some (.tok g 5)):Im bs v h':=by
 rcases r with r | ⟨hb,t,g,rfl,ht⟩
 ·exact .inl r
 ·exact .inr ⟨hb,t,g,rfl,k t g ht⟩
structure Bld (b:Nat) (bs:List UInt8) (h:Heap):Prop where
 p:∃a v,h.get b=some (.cells false jQ [a,v])∧(a= .d .sG∨a= .ptr b 0)∧Im bs v h
def Oth (b:Nat) (h h':Heap):Prop:=∀i x,h.get i=some x→i≠b→(∀g,x≠ .tok g 5)→h'.get i=some x
theorem Oth.refl (b:Nat) (h:Heap):Oth b h h:=fun _ _ hx _ _=> hx
theorem Oth.trans {b:Nat} {h1 h2 h3:Heap} (p:Oth b h1 h2) (q:Oth b h2 h3):Oth b h1 h3:=fun i x hx hn ht=> q i x (p i x hx hn ht) hn ht
theorem Nu (b o:Nat) (h:Heap):wS h [] .neq .ptr (.c (.ptr b o)) (.c (.ptr b o))= .val (.d (.b false)) h:=by
 have he:Abs.ptrEq (.ptr b o) (.ptr b o)=some true:=by simp only [Abs.ptrEq,Nat.beq_refl]
 have hq:eqA .ptr (.ptr b o) (.ptr b o)=some true:=he
 simp only [wS,X.ev,Mb,wm,DX,Tw,hq]
 rfl
theorem GC {b:Nat} {bs:List UInt8} {h:Heap} (hb:Bld b bs h):∃h' v,Cal E rO [.ptr b 0] h (.nrm,.tup [],h')∧h'.get b=some (.cells false jQ [.ptr b 0,v])∧Im bs v h'∧Oth b h h':=by
 obtain ⟨a,v,hg,rfl | rfl,hv⟩:=hb
 ·have hg2:(h.set b (.cells false jQ [.ptr b 0,v])).get b=some (.cells false jQ [.ptr b 0,v]):=Heap.get_set_self hg
  refine ⟨h.set b (.cells false jQ [.ptr b 0,v]),v,?_,hg2,hv.keep (fun t g ht=> ?_),fun i x hx hn _=> by rw [Heap.get_set_ne (Ne.symm hn)]; exact hx⟩
  ·refine .wr rP (.inr rfl) ?_
   refine .op (iR E (ag:=false) (n:=1) (off:=0) hg rfl rfl) (by kernel_rfl) ?_
   refine .opR (by kernel_rfl) ?_
   refine .br true (by kernel_rfl) (fun _=> ?_) (fun e=> nomatch e)
   refine .op (v:= .ptr b 0) (h':=h) (by show Am h [] none (.c (.ptr b 0))=_; simp only [Am,X.ev,hg]; rfl) (by kernel_rfl) ?_
   refine .opR (by kernel_rfl) ?_
   refine .op (v:= .ptr b 0) (h':=h) (by show Am h [] (some (jQ,2)) (.c (.ptr b 0))=_; simp only [Am,X.ev,hg]; rfl) (by kernel_rfl) ?_
   refine .op (store_ptr (n:=1) (off:=0) (x:= .ptr b 0) hg rfl) (by kernel_rfl) ?_
   exact .yU (by kernel_rfl) (by kernel_rfl)
  ·rw [Heap.get_set_ne (fun e=> by subst e; rw [hg] at ht; cases ht)]; exact ht
 ·refine ⟨h,v,?_,hg,hv,.refl _ _⟩
  refine .wr rP (.inr rfl) ?_
  refine .op (iR E (ag:=false) (n:=1) (off:=0) hg rfl rfl) (by kernel_rfl) ?_
  refine .opR (by kernel_rfl) ?_
  refine .br false (by kernel_rfl) (fun e=> nomatch e) (fun _=> ?_)
  refine .op (iR E (ag:=false) (n:=1) (off:=0) hg rfl rfl) (by kernel_rfl) ?_
  refine .opv (Nu b 0) (by kernel_rfl) ?_
  refine .br false (by kernel_rfl) (fun e=> nomatch e) (fun _=> ?_)
  exact .yU (by kernel_rfl) (by kernel_rfl)
theorem Qr (h:Heap) (s:List UInt8):Io h 1 (.d (.s s)) s.length (bytesD s):=rfl
theorem Vs {b:Nat} {bs:List UInt8} {h:Heap} (hb:Bld b bs h) (s:List UInt8) (hs:s≠[]) (hl:bs.length+s.length≤70368744177664):
  ∃h',Cal E qL [.ptr b 0,.d (.s s)] h (.nrm,.tup [mkI s.length,.d .nili],h')∧Bld b (bs++s) h'∧Oth b h h':=by
 obtain ⟨h1,v,hc,hg,hv,ho⟩:=GC hb
 have hsl:s.length≠0:=fun e=> hs (List.eq_nil_of_length_eq_zero e)
 obtain ⟨v',h2,he,hf,hk,ht0⟩:=JR (sz:=1) (bytes:=1) hv.fa (by rw [pG,Nat.mul_one]) (Qr h1 s) (by omega) (by omega) (fun e=> absurd e hsl) (yK s)
 obtain ⟨t,g,rfl,ht⟩:=ht0 hsl
 clear ht0
 have hg2:h2.get b=some (.cells false jQ [.ptr b 0,v]):=by
  rw [hk.2 b (get_lt hg) (fun t g n cs e hit=> ?_)]
  ·exact hg
  ·subst e hit
   rcases hv with ⟨_,e⟩ | ⟨_,t1,g1,e,ht1⟩
   ·cases e
   ·cases e
    rw [hg] at ht1; cases ht1
 have htb:t≠b:=fun e=> by subst e; rw [hg2] at ht; cases ht
 refine ⟨h2.set b (.cells false jQ [.ptr b 0,.app t g (bs.length+s.length) (bytesD bs++bytesD s)]),?_,⟨_,_,Heap.get_set_self hg2,.inr rfl,.inr ⟨by simp [hs],t,g,?_,?_⟩⟩,?_⟩
 ·refine .wr wz (.inl (by kernel_rfl)) ?_
  refine .call hc (by kernel_rfl) ?_
  refine .op (iR E (ag:=false) (n:=1) (off:=1) hg rfl rfl) (by kernel_rfl) ?_
  refine .op he (by kernel_rfl) ?_
  refine .op (store_ptr (n:=1) (off:=1) (x:= .app t g (bs.length+s.length) (bytesD bs++bytesD s)) hg2 rfl) (by kernel_rfl) ?_
  exact .yU (by kernel_rfl) (by kernel_rfl)
 ·rw [yL,List.length_append]
 ·rw [Heap.get_set_ne (Ne.symm htb)]; exact ht
 ·intro i x hx hn htk
  have hx1:=ho i x hx hn htk
  rw [Heap.get_set_ne (Ne.symm hn),hk.2 i (get_lt hx1) (fun t g n cs e hit=> ?_)]
  ·exact hx1
  ·subst e hit
   rcases hv with ⟨_,e⟩ | ⟨_,t1,g1,e,ht1⟩
   ·cases e
   ·cases e
    rw [hx1] at ht1; cases ht1
    exact htk _ rfl
theorem Mc (bs:List UInt8):(bytesD bs).all isB=true:=by
 simp only [bytesD,List.all_map,List.all_eq_true]
 intro x _
 show Nat.blt x.toNat 256=true
 rw [Nat.blt_eq]; exact x.toNat_lt
theorem yM (bs:List UInt8):qm (bytesD bs)=some bs:=by
 induction bs with
 |nil=> rfl
 |cons a r ih=>
  show (match GD (byteD a) with | some b=> (match qm (bytesD r) with | some l=> some (b::l) | none=> none) | none=> none)=_
  rw [ih]
  show some (UInt8.ofNat a.toNat::r)=_
  rw [UInt8.ofNat_toNat]
theorem Nv {b:Nat} {bs:List UInt8} {h:Heap} (hb:Bld b bs h) (hl:bs.length≤70368744177664):∃h',Cal E uq [.ptr b 0] h (.nrm,.d (.s bs),h')∧∀i x,h.get i=some x→(∀g,x≠ .tok g 5)→h'.get i=some x:=by
 obtain ⟨a,v,hg,_,hv⟩:=hb
 rcases hv with ⟨rfl,rfl⟩ | ⟨hne,t,g,rfl,ht⟩
 ·refine ⟨h,?_,fun _ _ hx _=> hx⟩
  refine .wr uw (.inr rfl) ?_
  refine .rd2 (iR E (ag:=false) (n:=1) (off:=1) hg rfl rfl) (iR E (ag:=false) (n:=1) (off:=1) hg rfl rfl) (by kernel_rfl) ?_
  refine .op (v:= .d .sG) (h':=h) rfl (by kernel_rfl) ?_
  refine .rd3 (iR E (ag:=false) (n:=1) (off:=1) hg rfl rfl) (iR E (ag:=false) (n:=1) (off:=1) hg rfl rfl) (iR E (ag:=false) (n:=1) (off:=1) hg rfl rfl) (by kernel_rfl) ?_
  refine .opR (by kernel_rfl) ?_
  exact .yU (by kernel_rfl) (by kernel_rfl)
 ·have hu:BS h [] 5 (.c (.x_ t g 5 (bytesD bs))) (.c (mkI bs.length))= .val (.d (.s bs)) (h.set t (.tok (g+1) 5)):=by
   obtain ⟨k,hk⟩:∃k,bs.length=k+1:=⟨bs.length - 1,by have:=List.length_pos_iff.2 hne; omega⟩
   have htk:(bytesD bs).take (k+1)=bytesD bs:=List.take_of_length_le (by rw [pG]; omega)
   have hle:Nat.ble (bytesD bs).length 70368744177664=true:=by rw [Nat.ble_eq,pG]; exact hl
   have hle2:Nat.ble (k+1) (bytesD bs).length=true:=by rw [Nat.ble_eq,pG]; omega
   simp only [BS,X.ev,mkI,Int.ofNat_eq_natCast,hk]
   simp only [ht,htk,hle,hle2,Mc,yM,Nat.beq_refl,show Nat.beq 5 5=true from rfl,Bool.and_self]
  refine ⟨h.set t (.tok (g+1) 5),?_,fun i x hx hn=> by rw [Heap.get_set_ne (fun e=> by subst e; rw [ht] at hx; cases hx; exact hn _ rfl)]; exact hx⟩
  obtain ⟨k,hk⟩:∃k,bs.length=k+1:=⟨bs.length - 1,by have:=List.length_pos_iff.2 hne; omega⟩
  refine .wr uw (.inr rfl) ?_
  refine .rd2 (iR E (ag:=false) (n:=1) (off:=1) hg rfl rfl) (iR E (ag:=false) (n:=1) (off:=1) hg rfl rfl) (by kernel_rfl) ?_
  refine .op (v:= .x_ t g 5 (bytesD bs)) (h':=h) (by show BU h [] (.c (.app t g bs.length (bytesD bs)))=_; rw [hk]; simp only [BU,X.ev,ht,Nat.beq_refl]) (by kernel_rfl) ?_
  refine .rd3 (iR E (ag:=false) (n:=1) (off:=1) hg rfl rfl) (iR E (ag:=false) (n:=1) (off:=1) hg rfl rfl) (iR E (ag:=false) (n:=1) (off:=1) hg rfl rfl) (by kernel_rfl) ?_
  refine .op hu (by kernel_rfl) ?_
  exact .yU (by kernel_rfl) (by kernel_rfl)
end
end Go.Proofs.YtgjhldabffjiaaaGreatDoor
