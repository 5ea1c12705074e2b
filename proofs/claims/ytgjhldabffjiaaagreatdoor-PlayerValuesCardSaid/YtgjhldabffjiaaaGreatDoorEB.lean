/- Contracts: strings.TrimLeft of digits; player.reader.take, text. -/
import Derived.Test.YtgjhldabffjiaaaGreatDoorEA
import Derived.Test.YtgjhldabffjiaaaGreatDoorDH
namespace Go.Proofs.YtgjhldabffjiaaaGreatDoor
open Go Go.Abs
set_option maxRecDepth 100000
set_option maxHeartbeats 0
noncomputable section
def GI:List AV:=(List.range 256).map fun i=> .d (.b (isNum (UInt8.ofNat i)))
theorem NP (b:UInt8):readN GI (0+b.toNat*1) 1=some [.d (.b (isNum b))]:=by
 rw [B6,if_pos (by have:=b.toNat_lt; simp [GI]; omega)]
 have hb:=b.toNat_lt
 have:GI.drop (0+b.toNat*1)= .d (.b (isNum (UInt8.ofNat b.toNat)))::GI.drop (b.toNat+1):=by
  rw [Nat.zero_add,Nat.mul_one,List.drop_eq_getElem_cons (by simpa [GI] using hb)]
  simp [GI]
 rw [this]; simp
theorem GJ {h:Heap} {e:TypeId} (b:UInt8) (hg:h.get 0=some (.cells false e GI)):Cal E rT [.ptr 0 0,.d (byteD b)] h (.nrm,.d (.b (isNum b)),h):=by
 refine .wr w9 (.inr rfl) ?_
 refine .opv (QE (k:= .u8) (n:=256) (z:=1) (b:=0) (off:=0) rfl b.toNat_lt) (by kernel_rfl) ?_
 refine .op (iR E (ag:=false) (n:=1) hg (NP b) rfl) (by kernel_rfl) ?_
 exact .yU (by kernel_rfl) (by kernel_rfl)
def HN0:Heap:=⟨.nd (some (.cells false Bj GI)) .lf .lf,1⟩
theorem GK (s:List UInt8):Cal E uR [.d (.s s),.ptr 0 0] HN0 (.nrm,.d (.s (s.dropWhile isNum)),HN0):=by
 refine .wr y7 (.inr rfl) ?_
 refine .loop false (fun n tm h=> ∃q,n=q.length∧q.dropWhile isNum=s.dropWhile isNum∧St 16 [(0,.d (.s q)),(1,.ptr 0 0)] tm∧h=HN0) s.length (by kernel_rfl) ⟨s,rfl,rfl,.of (by kernel_rfl) ⟨by kernel_rfl,by kernel_rfl,trivial⟩,by kernel_rfl⟩ ?_
 rintro n tm h ⟨q,rfl,hqr,⟨g,rfl⟩,rfl⟩
 refine .br (iLt 0 (.ofNat q.length)) (by kernel_rfl) (fun e=> ?_) (fun e=> ?_)
 ·obtain ⟨b,p,rfl⟩:∃b p,q=b::p:=by
   rw [o8] at e
   cases q with
   |nil=> simp at e
   |cons b p=> exact ⟨b,p,rfl⟩
  refine .opv (zw (k:= .i64) (s:=b::p) (b:=b) (j:=0) rfl rfl) (by kernel_rfl) ?_
  refine .call (GJ (h:=HN0) b rfl) (by kernel_rfl) ?_
  refine .br (!(isNum b)) (by kernel_rfl) (fun e2=> ?_) (fun e2=> ?_)
  ·simp only [Bool.not_eq_true'] at e2
   refine .out false 1 (by kernel_rfl) ?_
   rw [←hqr,List.dropWhile_cons,if_neg (by simp [e2])]
   exact .yU (by kernel_rfl) (by kernel_rfl)
  ·simp only [Bool.not_eq_false'] at e2
   refine .opv (uK (k:= .i64) (s:=b::p) (a:=1) rfl (by simp)) (by kernel_rfl) ?_
   refine .next p.length (by kernel_rfl) (by simp) ⟨p,rfl,?_,.of (by kernel_rfl) ⟨by kernel_rfl,by kernel_rfl,trivial⟩,by kernel_rfl⟩
   rw [←hqr,List.dropWhile_cons,if_pos e2]
 ·have:q=[]:=by
   rw [tV] at e
   have:q.length=0:=by simp only [Int.ofNat_eq_natCast] at e; omega
   exact List.eq_nil_of_length_eq_zero this
  subst this
  refine .out false 1 (by kernel_rfl) ?_
  rw [←hqr]
  exact .yU (by kernel_rfl) (by kernel_rfl)
theorem QF (h:Heap):Cal E zA [.d (.s JW)] h (.nrm,.tup [.agg GI,.d (.b true)],h):=by
 exact Cal.of (n:=100000) (by kernel_rfl)
theorem NQ (s:List UInt8) (h:Heap):Cal E xJ [.d (.s s),.d (.s JW)] h (.nrm,.d (.s (s.dropWhile isNum)),h):=by
 by_cases hs0:s=[]
 ·subst hs0
  refine .w xK (by kernel_rfl) rfl ?_
  refine W.brT (by kernel_rfl) ?_
  exact .ret rfl (by kernel_rfl)
 ·refine .w xK (by kernel_rfl) rfl ?_
  refine .br (strEq s []) (by kernel_rfl) (fun e=> absurd (pO.1 e) hs0) (fun e=> ?_)
  refine W.brF (by kernel_rfl) ?_
  refine W.brF (by kernel_rfl) ?_
  refine .oU QF (by kernel_rfl) ?_
  refine W.brT (by kernel_rfl) ?_
  refine .call (GK s) (by kernel_rfl) ?_
  exact .ret rfl (by kernel_rfl)
def RD (h:Heap) (rb:Nat) (s:List UInt8):Prop:=h.get rb=some (.cells false t_player_reader [.d (.s s)])
def brk:AV:= .ifc t_player_broken (.agg [])
structure FrR (rb:Nat) (h h':Heap):Prop where
 n:h.n≤h'.n
 o:Oth rb h h'
theorem FrR.refl (rb:Nat) (h:Heap):FrR rb h h:=⟨Nat.le_refl _,.refl _ _⟩
theorem FrR.trans {rb:Nat} {h h1 h2:Heap} (a:FrR rb h h1) (b:FrR rb h1 h2):FrR rb h h2:=⟨Nat.le_trans a.n b.n,a.o.trans b.o⟩
theorem FrR.set (rb:Nat) (h:Heap) (k:Blk):FrR rb h (h.set rb k):=⟨Nat.le_refl _,fun i y hy hi _=> by rw [Heap.get_set_ne (Ne.symm hi)]; exact hy⟩
theorem FrR.push (rb:Nat) (h:Heap) (k:Blk):FrR rb h (h.push k):=⟨Nat.le_succ _,fun i y hy _ _=> push_of hy k⟩
theorem RD.set {h:Heap} {rb:Nat} {s:List UInt8} (hr:RD h rb s) (r:List UInt8):RD (h.set rb (.cells false t_player_reader [.d (.s r)])) rb r:=Heap.get_set_self hr
theorem take_cons {h:Heap} {rb:Nat} {c:UInt8} {r:List UInt8} (hr:RD h rb (c::r)):Cal E sK [.ptr rb 0] h (.nrm,.d (byteD c),h.set rb (.cells false t_player_reader [.d (.s r)])):=by
 refine .wr wB (.inr rfl) ?_
 refine .op (u_ (E:=E) hr) (by kernel_rfl) ?_
 refine W.brF (by kernel_rfl) ?_
 refine .op (u_ (E:=E) hr) (by kernel_rfl) ?_
 refine .opv (zw (k:= .i64) (s:=c::r) (j:=0) (b:=c) rfl rfl) (by kernel_rfl) ?_
 refine .op (u_ (E:=E) hr) (by kernel_rfl) ?_
 refine .opv (uK (k:= .i64) (s:=c::r) (a:=1) rfl (by simp)) (by kernel_rfl) ?_
 refine .op (store_ptr (n:=1) (off:=0) (x:= .d (.s ((c::r).drop 1))) hr rfl) (by kernel_rfl) ?_
 exact .yU (by kernel_rfl) (by kernel_rfl)
theorem take_nil {h:Heap} {rb:Nat} (hr:RD h rb []):Cal E sK [.ptr rb 0] h (.pan brk,.und,h):=by
 have := Cal.wo (N := fun _ _ => False) (P := fun x h' => x = brk ∧ h' = h) wB (args := [.ptr rb 0]) (h := h) (.inr rfl) (by
  refine .op (u_ (E:=E) hr) (by kernel_rfl) ?_
  refine W.brT (by kernel_rfl) ?_
  exact .panN (x:=brk) (by kernel_rfl) ⟨rfl,by kernel_rfl⟩)
 rcases this with ⟨_,_,_,h⟩ | ⟨x,h',hc,rfl,rfl⟩
 ·exact h.elim
 ·exact hc
theorem outP {E:Env} {Q:Ex→List AV→Heap→Prop} {c:Cfg} (m:Bool) {x:AV} {I:Nat→List AV→Heap→Prop} {n:Nat} {ks:List KF} (he:(adO E c).p (adv E c).TH=(adO E c).q (some x)) (w:W E Q (.fin (.pan x) ks ⟨m,[]⟩ (adv E c).tm (adv E c).hp)):W E (Round I n (wK E Q ks)) c:=
 .pan he (by have:=W.fin m w; exact this)
theorem NR {k j:IntKind} {s:List UInt8} {a b:Nat} {x y:Int} (hx:x= .ofNat a) (hy:y= .ofNat b) (ha:a≤b) (hb:b≤s.length):∀h:Heap,qE h [] (.c (.d (.s s))) (some (.c (.d (.i k x)))) (some (.c (.d (.i j y))))= .val (.d (.s (wC s a b))) h:=by
 intro h
 subst hx hy
 simp only [qE,X.ev,An,wO,wm]
 rw [show (Nat.ble a b && Nat.ble b s.length)=true from by simp [ha,hb]]
theorem IF:∀l:List DV,stripL (l.map .d)=some l
 |[]=> rfl
 |d::l=> by
  show (match strip (.d d) with | some d=> (match stripL (l.map .d) with | some l=> some (d::l) | none=> none) | none=> none)=_
  rw [IF l]; rfl
theorem TI {h:Heap} {s:List UInt8} {v:AV} (hv:FA zx s.length (bytesD s) v h):vJ h [] (.c v)= .val (.d (.s s)) h:=by
 have hsv:slView h 1 v=some (s.length,(bytesD s).map .d):=by
  rcases hv with ⟨h0,h1,rfl | rfl⟩ | ⟨t,g,rfl,_⟩
  ·obtain rfl:=List.eq_nil_of_length_eq_zero h0; rfl
  ·obtain rfl:=List.eq_nil_of_length_eq_zero h0; rfl
  ·show zB 1 s.length (bytesD s)=_
   unfold zB
   rw [pG,Nat.mul_one,Nat.beq_refl]
 simp only [vJ,X.ev,hsv,IF,yM]
theorem TJ {h:Heap} {q:Nat} {bs:List UInt8} {v:AV} {c:UInt8} (hv:FA zx bs.length (bytesD bs) v h) (hq:h.get q=some (.cells false 5 [.d (byteD c)])) (hl:bs.length+1≤70368744177664):
  ∃v' h',s_app h [] 5 1 1 false (.c v) (.c (.sref q 0 1 1 1 true))= .val v' h'∧FA zx (bs++ [c]).length (bytesD (bs++ [c])) v' h'∧h.n≤h'.n∧∀i y,h.get i=some y→(∀g,y≠ .tok g 5)→h'.get i=some y:=by
 have src:Io h 1 (.sref q 0 1 1 1 true) ([c]:List UInt8).length (bytesD [c]):=Ip (bs:=[c]) hq
 obtain ⟨v',h',he,hf,hk,_⟩:=JR (sz:=1) (bytes:=1) hv (by rw [pG,Nat.mul_one]) src (by simp; omega) (by simp; omega) (fun e=> by cases e) (yK [c])
 refine ⟨v',h',he,?_,hk.1,fun i y hy hn=> ?_⟩
 ·rw [yL,List.length_append]; exact hf
 ·rw [hk.2 i (get_lt hy) (fun t g n cs e hit=> ?_)]
  ·exact hy
  ·subst e hit
   rcases hv with ⟨_,_,e | e⟩ | ⟨t1,g1,e,ht1⟩
   ·cases e
   ·cases e
   ·cases e
    rw [hy] at ht1; cases ht1
    exact hn _ rfl
def TxN (rb:Nat) (h:Heap) (s:List UInt8) (v:AV) (h':Heap):Prop:=∃t r,Dv s=some (t,r)∧v= .d (.s t)∧RD h' rb r∧FrR rb h h'
def TxP (rb:Nat) (h:Heap) (s:List UInt8) (x:AV) (h':Heap):Prop:=Dv s=none∧x=brk∧FrR rb h h'
structure TxH (rb:Nat) (h:Heap) (b out:List UInt8) (v:AV) (g:Heap):Prop where
 f:FA zx out.length (bytesD out) v g
 r:RD g rb b
 o:FrR rb h g
theorem TxH.at {rb:Nat} {h:Heap} {b out:List UInt8} {v:AV} {g g2:Heap} (e:g=g2) (x:TxH rb h b out v g2):TxH rb h b out v g:=e▸x
theorem FrR.at {rb:Nat} {h g g2:Heap} (e:g=g2) (x:FrR rb h g2):FrR rb h g:=e▸x
theorem RD.at {rb:Nat} {s:List UInt8} {g g2:Heap} (e:g=g2) (x:RD g2 rb s):RD g rb s:=e▸x
theorem TxH.more {rb:Nat} {h g:Heap} {b out:List UInt8} {v:AV} (x:TxH rb h b out v g) {c:UInt8} {d:DV} (hd:d=byteD c) (hl:out.length+1≤70368744177664):
  ∃v' h',s_app ((g.push .dead).set g.n (.cells false 5 [.d d])) [] 5 1 1 false (.c v) (.c (.sref g.n 0 1 1 1 true))= .val v' h'∧TxH rb h b (out++ [c]) v' h':=by
 subst hd
 have keep:∀i y,g.get i=some y→((g.push .dead).set g.n (.cells false 5 [.d (byteD c)])).get i=some y:=fun i y hy=> by
  rw [Heap.get_set_ne (by have:=get_lt hy; omega)]; exact push_of hy _
 obtain ⟨v',h',he,hf,hn,hk⟩:=TJ (h:=(g.push .dead).set g.n (.cells false 5 [.d (byteD c)])) (q:=g.n) (c:=c) (x.f.keep fun t k ht=> by rw [keep _ _ ht,ht]) (Heap.get_set_self (push_n g .dead)) hl
 have hgn:g.n≤((g.push .dead).set g.n (.cells false 5 [.d (byteD c)])).n:=Nat.le_succ _
 exact ⟨v',h',he,hf,hk rb _ (keep _ _ x.r) (fun _ e=> nomatch e),x.o.trans ⟨Nat.le_trans hgn hn,fun i y hy _ ht=> hk i y (keep _ _ hy) ht⟩⟩
theorem NS {b mx:Nat}:∀{l:List UInt8} {n k:Nat},n≤mx→puV b mx l n=some k→k≤mx
 |[],n,k,hn,h=> by rw [puV] at h; injection h with h; omega
 |c::r,n,k,hn,h=> by
  rw [puV] at h
  split at h
  ·split at h
   ·rename_i hd; exact NS hd.2 h
   ·cases h
  ·cases h
theorem QG {k:Nat} (h:k≤255):(DV.i .u8 (wrap .u8 (.ofNat k)))=byteD (UInt8.ofNat k):=by
 show _=DV.i .u8 (.ofNat (UInt8.ofNat k).toNat)
 rw [UInt8.toNat_ofNat',Nat.mod_eq_of_lt (by omega)]
 unfold wrap
 rw [inR8 (by omega)]
theorem QI {rb:Nat} {h:Heap} {s:List UInt8} (hr:RD h rb s) (hl:s.length≤60000000000000):
    (∃v h',Cal E sM [.ptr rb 0] h (.nrm,v,h')∧TxN rb h s v h')∨∃x h',Cal E sM [.ptr rb 0] h (.pan x,.und,h')∧TxP rb h s x h':=by
  refine Cal.wo Ao (.inr rfl) ?_
  refine .op (u_ (E:=E) hr) (by kernel_rfl) ?_
  refine .oU (Tv 34 (s:=s) (by omega)) (by kernel_rfl) ?_
  have hcl:=Il 34 s
  have hT:Dv s=if (uZ 34 s).2.2 then (Ah (uZ 34 s).1.length (uZ 34 s).1).map (·,(uZ 34 s).2.1) else none:=rfl
  generalize uZ 34 s=w at hcl hT ⊢
  obtain ⟨a,b,f⟩:=w
  simp only at hcl hT
  refine .br (!f) (by kernel_rfl) (fun e=> ?_) (fun e=> ?_)
  · exact .panN (x:=brk) (by kernel_rfl) ⟨by rw [hT,if_neg (by simpa using e)],rfl,.at (by kernel_rfl) (.refl _ _)⟩
  rw [if_pos (by simpa using e)] at hT
  refine .op (store_ptr (n:=1) (off:=0) (x:= .d (.s b)) hr rfl) (by kernel_rfl) ?_
  refine .loop true (fun n tm g=> ∃cur out v,cur.length≤n∧out.length+cur.length≤a.length∧Ah a.length a=(Ah n cur).map (out++ ·)∧TxH rb h b out v g∧St 62 [(0,.ptr rb 0),(3,.d (.s cur)),(6,v)] tm) a.length (by kernel_rfl)
    ⟨a,[],.nilsl,Nat.le_refl _,by simp,by simp,.at (by kernel_rfl) ⟨.inl ⟨rfl,rfl,.inr rfl⟩,hr.set b,.set _ _ _⟩,.of (by kernel_rfl) ⟨by kernel_rfl,by kernel_rfl,by kernel_rfl,trivial⟩⟩ ?_
  rintro n tm g ⟨cur,out,v,hn,hlen,hd,hx,g',rfl⟩
  refine .br (!(strEq cur [])) (by kernel_rfl) (fun e=> ?_) (fun e=> ?_)
  rotate_left
  · have : cur = [] := by have e : strEq cur [] = true := by simpa using e
                          exact pO.1 e
    subst this
    refine .out true 1 (by kernel_rfl) ?_
    refine .op (TI hx.f) (by kernel_rfl) ?_
    have hz:Ah n []=some []:=by cases n <;> rfl
    rw [hz] at hd
    refine .retN (v:= .d (.s out)) (by kernel_rfl) ⟨out,b,by rw [hT,hd]; simp,rfl,.at (by kernel_rfl) hx.r,.at (by kernel_rfl) hx.o⟩
  obtain ⟨c,r,hc⟩:∃c r,cur=c::r:=by
    cases cur with
    |nil=> simp [strEq] at e
    |cons c r=> exact ⟨c,r,rfl⟩
  have h0:cur[0]? =some c:=by rw [hc]; rfl
  have h1l:1≤cur.length:=by rw [hc]; simp
  obtain ⟨m,rfl⟩:∃k,n=k+1:=⟨n - 1,by omega⟩
  refine .opv (zw (k:= .i64) (s:=cur) (j:=0) (b:=c) rfl h0) (by kernel_rfl) ?_
  refine .br (!(iEq (.ofNat c.toNat) 37)) (by kernel_rfl) (fun e2=> ?_) (fun e2=> ?_)
  · have TL:c≠37:=fun e=> by rw [e] at e2; cases e2
    refine .opv (zw (k:= .i64) (s:=cur) (j:=0) (b:=c) rfl h0) (by kernel_rfl) ?_
    obtain ⟨v',h',he,hx'⟩:=hx.more (c:=c) rfl (by omega)
    refine .op he (by kernel_rfl) ?_
    refine .opv (uK (k:= .i64) (s:=cur) (a:=1) rfl h1l) (by kernel_rfl) ?_
    refine .next m (by kernel_rfl) (by omega) ⟨cur.drop 1,out++ [c],v',by simp; omega,by simp; omega,?_,.at (by kernel_rfl) hx',.of (by kernel_rfl) ⟨by kernel_rfl,by kernel_rfl,by kernel_rfl,trivial⟩⟩
    rw [hd,hc,Ah,if_neg TL]
    simp [Option.map_map,Function.comp_def]
  · have TL:c=37:=by
      have e2:iEq (.ofNat c.toNat) 37=true:=by simpa using e2
      rw [iEq_iff] at e2
      exact UInt8.toNat_inj.1 (by have:(c.toNat:Int)=37:=e2; show c.toNat=37; omega)
    subst TL
    refine .br (iLt (.ofNat cur.length) 3) (by kernel_rfl) (fun e3=> ?_) (fun e3=> ?_)
    · have hlt:cur.length < 3:=by
        rw [o8] at e3
        have:(cur.length:Int) < 3:=e3
        omega
      have hz:Ah (m+1) cur=none:=by
        rw [hc] at hlt ⊢
        rw [Ah,if_pos rfl]
        cases r with
        |nil=> rfl
        |cons x r=> cases r with
          |nil=> rfl
          |cons y r=> simp at hlt; omega
      rw [hz] at hd
      exact outP true (x:=brk) (by kernel_rfl) (.panN (x:=brk) (by kernel_rfl) ⟨by rw [hT,hd]; rfl,rfl,.at (by kernel_rfl) hx.o⟩)
    have h3l:3≤cur.length:=by
      rw [tV] at e3
      have:(3:Int)≤cur.length:=e3
      omega
    obtain ⟨x,y,r,rfl⟩:∃x y r',r=x::y::r':=by
      rw [hc] at h3l
      cases r with
      |nil=> simp at h3l
      |cons x r=> cases r with
        |nil=> simp at h3l
        |cons y r=> exact ⟨x,y,r,rfl⟩
    refine .opv (NR (k:= .i64) (j:= .i64) (s:=cur) (a:=1) (b:=3) rfl rfl (by omega) h3l) (by kernel_rfl) ?_
    have hcut:wC cur 1 3=[x,y]:=by rw [hc]; rfl
    obtain ⟨w,h2,VD,hh,hm⟩:=NJ (s:=wC cur 1 3) (by rw [hcut]; simp) g
    subst hh
    rw [if_neg (by rw [hcut]; simp)] at hm
    cases hp:puV 16 255 [x,y] 0 with
    |none=>
      rw [hcut,hp] at hm
      obtain ⟨z,rfl⟩:=hm
      refine .call VD (by kernel_rfl) ?_
      refine W.brT (by kernel_rfl) ?_
      have hz:Ah (m+1) cur=none:=by rw [hc,Ah,if_pos rfl]; simp only [QC,hp]
      rw [hz] at hd
      exact outP true (x:=brk) (by kernel_rfl) (.panN (x:=brk) (by kernel_rfl) ⟨by rw [hT,hd]; rfl,rfl,.at (by kernel_rfl) hx.o⟩)
    |some k=>
      have hk:=NS (by omega) hp
      rw [hcut,hp] at hm
      have hm:w= .tup [.d (.i .u64 (.ofNat k)),.d .nili]:=hm
      subst hm
      refine .call VD (by kernel_rfl) ?_
      refine W.brF (by kernel_rfl) ?_
      obtain ⟨v',h',he,hx'⟩:=hx.more (c:=UInt8.ofNat k) (QG hk) (by omega)
      refine .op he (by kernel_rfl) ?_
      refine .opv (uK (k:= .i64) (s:=cur) (a:=3) rfl h3l) (by kernel_rfl) ?_
      refine .next m (by kernel_rfl) (by omega) ⟨cur.drop 3,out++ [UInt8.ofNat k],v',by simp; omega,by simp; omega,?_,.at (by kernel_rfl) hx',.of (by kernel_rfl) ⟨by kernel_rfl,by kernel_rfl,by kernel_rfl,trivial⟩⟩
      rw [hd,hc,Ah,if_pos rfl]
      simp [QC,hp,Option.map_map,Function.comp_def]
end
end Go.Proofs.YtgjhldabffjiaaaGreatDoor
