/- Contracts: value.show, value.Show. -/
import Derived.Test.YtgjhldabffjiaaaGreatDoorDB
import Derived.Test.YtgjhldabffjiaaaGreatDoorZF
namespace Go.Proofs.YtgjhldabffjiaaaGreatDoor
open Go Go.Abs
set_option maxRecDepth 100000
set_option maxHeartbeats 0
noncomputable section
theorem Me (s:List UInt8) (i:Nat):((s.take i).flatMap rD).length≤(s.flatMap rD).length:=by
 have:s.flatMap rD=(s.take i).flatMap rD++(s.drop i).flatMap rD:=by rw [←List.flatMap_append,List.take_append_drop]
 rw [this,List.length_append]; omega
theorem Mf {s:List UInt8} {i:Nat} (hi:i < s.length):(s.take (i+1)).flatMap rD=(s.take i).flatMap rD++rD s[i]:=by
 rw [List.take_add_one,List.getElem?_eq_getElem hi]
 simp only [Option.toList,List.flatMap_append,List.flatMap_cons,List.flatMap_nil,List.append_nil]
theorem TA (c:UInt8):∀h,yX h [] (.c (.d (.s Qs))) (.c (.d (.i .u8 (.ofNat (c.toNat / 16)))))= .val (.d (byteD (Eh (c.toNat / 16)))) h:=zw rfl (Ny (by have:=c.toNat_lt; omega))
theorem TB (c:UInt8):Abs.bits .and .u8 (.ofNat c.toNat) (.ofNat 15)= .ofNat (c.toNat % 16):=by
 have h1:inR .u8 (.ofNat c.toNat)=true:=by show Nat.blt c.toNat 256=true; rw [Nat.blt_eq]; exact c.toNat_lt
 rw [←Vw]
 simp only [Abs.bits,h1,isAN]
 rfl
theorem TC (c:UInt8):∀h,yX h [] (.c (.d (.s Qs))) (.c (.d (.i .u8 (Abs.bits .and .u8 (.ofNat c.toNat) (.ofNat 15)))))= .val (.d (byteD (Eh (c.toNat % 16)))) h:=zw (TB c) (Ny (by omega))
theorem abK (c:UInt8) (h:Heap):wS h [] .shr .bool (.c (.d (.i .u8 (.ofNat c.toNat)))) (.c (.d (.i .u64 (.ofNat 4))))= .val (.d (.i .u8 (.ofNat (c.toNat / 16)))) h:=TD rfl
theorem BO.new {b:Nat} {bs:List UInt8} {h0 g:Heap} (x:BO b bs h0 g) (y k:Blk) (hy:∀g,y≠ .tok g 5):BO b bs h0 ((g.push y).set g.n k):=by
 have hb:g.n≠b:=by have:=x.p.lt; omega
 refine ⟨(x.p.push y).Tx (push_n g y) hy hb,fun i z hz hi ht=> ?_⟩
 have hg:=x.o i z hz hi ht
 rw [Heap.get_set_ne (by have:=get_lt hg; omega)]
 exact push_of hg y
theorem byte_at {s:List UInt8} {i:Nat} (hi:i < s.length):(bytesD s)[i]? =some (byteD s[i]):=by simp [bytesD,hi]
theorem Sr {b q:Nat} {bs:List UInt8} {h g0:Heap} {k n:Int} {s:List UInt8} {l:List ValS} {LA:AV} {tm0:List AV} (x0:BO b bs h g0) (g1:g0.get q=some (.cells false t_Value [.d (.i .u8 k),.d (.i .i64 n),.d (.s s),LA])) (hqb:q≠b) (hkn:R64 n) (hk:k=0∨k=1)
  (hlen:bs.length+(showV (.mk k n s l)).length≤60000000000000) (ht:St 78 [(0,.ptr b 0),(3,.ptr q 0)] tm0):
  W E (OutP E wY.results (fun v h'=> v= .tup []∧BO b (bs++showV (.mk k n s l)) h h') (fun _ _=> False)) (.run (tl wY.body 1) [] ⟨true,[]⟩ tm0 g0):=by
 obtain ⟨g0',rfl⟩:=ht
 obtain ⟨hn0,hn1⟩:=hkn
 refine .op (iR E (ag:=false) (n:=1) (off:=0) g1 rfl rfl) (by kernel_rfl) ?_
 refine .br (iEq k 0) (by kernel_rfl) (fun e=> ?_) (fun e0=> ?_)
 ·rw [iEq_iff] at e
  rw [showV,if_pos e] at hlen ⊢
  refine .op (iR E (ag:=false) (n:=1) (off:=1) g1 rfl rfl) (by kernel_rfl) ?_
  refine .opv (Ty hn0 (by omega)) (by kernel_rfl) ?_
  obtain ⟨h1,hc,hB,hO⟩:=Vs x0.p (wT n) (Qt n) (by omega)
  refine .call hc (by kernel_rfl) ?_
  exact .retN (by kernel_rfl) ⟨rfl,.at (by kernel_rfl) ⟨hB,x0.o.trans hO⟩ rfl⟩
 rw [rR] at e0
 refine .br (iEq k 1) (by kernel_rfl) (fun e=> ?_) (fun e1=> ?_)
 ·rw [iEq_iff] at e
  have hV:showV (.mk k n s l)=34::(s.flatMap rD++ [34]):=by rw [showV,if_neg e0,if_pos e]
  rw [hV] at hlen ⊢
  simp only [List.length_cons,List.length_append,List.length_nil] at hlen
  obtain ⟨h1,hc,x1,o1⟩:=x0.wb 34 (by omega)
  refine .call hc (by kernel_rfl) ?_
  have g2:=o1 _ _ g1 hqb (fun _ e=> nomatch e)
  refine .op (iR E (ag:=false) (n:=1) (off:=2) g2 rfl rfl) (by kernel_rfl) ?_
  have hle:s.length≤(s.flatMap rD).length:=by
   have:∀s:List UInt8,s.length≤(s.flatMap rD).length:=by
    intro s
    induction s with
    |nil=> exact Nat.le_refl _
    |cons c r ih=>
     rw [List.flatMap_cons,List.length_append]
     have:1≤(rD c).length:=by unfold rD; split <;> simp
     simp only [List.length_cons]
     omega
   exact this s
  refine .loop true (fun m tm g=> ∃i,i+m=s.length∧BO b (bs++34::(s.take i).flatMap rD) h g∧St 78 (chF s i b) tm) s.length (by kernel_rfl) ⟨0,by omega,.at (by kernel_rfl) x1 (by simp),.of (by kernel_rfl) ⟨by kernel_rfl,by kernel_rfl,by kernel_rfl,by kernel_rfl,trivial⟩⟩ ?_
  rintro m tm g ⟨i,him,x,g',rfl⟩
  refine .br (iLt (.ofNat i) (.ofNat s.length)) (by kernel_rfl) (fun e=> ?_) (fun e=> ?_)
  ·have hi:i < s.length:=by rw [o8] at e; simpa using e
   obtain ⟨m,rfl⟩:∃k,m=k+1:=⟨m - 1,by omega⟩
   have hx:=byte_at hi
   have hnx:=Mf hi
   have hfl:=Me s i
   generalize s[i]=c at hx hnx
   have hc256:=c.toNat_lt
   refine .opv (Bh (k:= .i64) (z:=1) (b:=false) (n:=s.length) (cs:=bytesD s) (j:=i) rfl hi) (by kernel_rfl) ?_
   refine .opv (Ir E (b:=false) (x:=byteD c) hx) (by kernel_rfl) ?_
   refine .br (iLt 32 (.ofNat c.toNat)) (by kernel_rfl) (fun e1=> .br (!(iLt 126 (.ofNat c.toNat))) (by kernel_rfl) (fun e2=> .br (!(iEq (.ofNat c.toNat) 34)) (by kernel_rfl) (fun e3=> .br (!(iEq (.ofNat c.toNat) 37)) (by kernel_rfl) (fun e4=> ?self) (fun e4=> ?x4)) (fun e3=> ?x3)) (fun e2=> ?x2)) (fun e1=> ?x1)
   case self=>
    have he:rD c=[c]:=by
     have hs:Iq c=true:=by unfold Iq; rw [e1,e2,e3,e4]; rfl
     unfold rD; rw [hs]
    obtain ⟨h2,hc2,x2,_⟩:=x.wb c (by simp only [List.length_append,List.length_cons,List.length_nil]; omega)
    refine .call hc2 (by kernel_rfl) ?_
    refine .next m (by kernel_rfl) (by omega) ⟨i+1,by omega,.at (by kernel_rfl) x2 (by rw [hnx,he]; simp),.of (by kernel_rfl) ⟨by kernel_rfl,by kernel_rfl,by kernel_rfl,?_,trivial⟩⟩
    exact Eq.trans (b:= .d (.i .i64 (wrap .i64 (.ofNat i+1)))) (by kernel_rfl) (KY (by omega))
   all_goals
    have he:rD c=[37,Eh (c.toNat / 16),Eh (c.toNat % 16)]:=by
     have hs:Iq c=false:=by unfold Iq; first | (rw [e1,e2,e3,e4]; rfl) | (rw [e1,e2,e3]; rfl) | (rw [e1,e2]; rfl) | (rw [e1]; rfl)
     unfold rD; rw [hs]
    refine .opv (abK c) (by kernel_rfl) ?_
    refine .opv (TA c) (by kernel_rfl) ?_
    refine .opv (TC c) (by kernel_rfl) ?_
    have hgb:g.n≠b:=by have:=x.p.lt; omega
    have xs:=x.new .dead (.cells false zx [.d (byteD 37),.d (byteD (Eh (c.toNat / 16))),.d (byteD (Eh (c.toNat % 16)))]) (fun _ e=> nomatch e)
    obtain ⟨h2,hc2,hB2,hO2⟩:=Vv (s:=[37,Eh (c.toNat / 16),Eh (c.toNat % 16)]) (q:=g.n) (m:=3) (ex:=true) xs.p (Heap.get_set_self (push_n g .dead)) hgb (by simp) (by simp only [List.length_append,List.length_cons,List.length_nil]; omega)
    refine .call hc2 (by kernel_rfl) ?_
    refine .next m (by kernel_rfl) (by omega) ⟨i+1,by omega,.at (by kernel_rfl) ⟨hB2,xs.o.trans hO2⟩ (by rw [hnx,he]; simp),.of (by kernel_rfl) ⟨by kernel_rfl,by kernel_rfl,by kernel_rfl,?_,trivial⟩⟩
    exact Eq.trans (b:= .d (.i .i64 (wrap .i64 (.ofNat i+1)))) (by kernel_rfl) (KY (by omega))
  ·have:m=0:=by rw [tV] at e; simp only [Int.ofNat_eq_natCast] at e; omega
   subst this
   obtain rfl:i=s.length:=by omega
   refine .out true 4 (by kernel_rfl) ?_
   rw [List.take_length] at x
   obtain ⟨h2,hc2,x2,_⟩:=x.wb 34 (by simp only [List.length_append,List.length_cons,List.length_nil]; omega)
   refine .call hc2 (by kernel_rfl) ?_
   exact .retN (by kernel_rfl) ⟨rfl,.at (by kernel_rfl) x2 (by simp)⟩
 ·rw [rR] at e1
  omega
theorem Qu {v:ValS} {cs:List DV} (hv:ValR v cs) (hlv:Bi v):Tz v cs:=by
 induction hv with
 |sl k n s l vb vcs hl hcs hkn ih=>
 intro b bs h hb hlen
 have g1:=push_n h (.cells false t_Value [.d (.i .u8 k),.d (.i .i64 n),.d (.s s),.d (.sl vb l.length vcs)])
 have x0:BO b bs h (h.push (.cells false t_Value [.d (.i .u8 k),.d (.i .i64 n),.d (.s s),.d (.sl vb l.length vcs)])):=⟨hb.push _,fun i y hy _ _=> push_of hy _⟩
 have hbl:=hb.lt
 have goal:∃v h',Cal E u6 [.ptr b 0,.agg [.d (.i .u8 k),.d (.i .i64 n),.d (.s s),.d (.sl vb l.length vcs)]] h (.nrm,v,h')∧(v= .tup []∧BO b (bs++showV (.mk k n s l)) h h'):=by
  refine Cal.we BV (.inr rfl) ?_
  by_cases hk:k=0∨k=1
  ·refine .top true 0 (tl wY.body 1) [] (h.push (.cells false t_Value [.d (.i .u8 k),.d (.i .i64 n),.d (.s s),.d (.sl vb l.length vcs)])) (by kernel_rfl) ?_
   exact Sr x0 g1 (by omega) hkn.2 hk hlen (.of (by kernel_rfl) ⟨by kernel_rfl,by kernel_rfl,trivial⟩)
  have e0:k≠0:=fun e=> hk (.inl e)
  have e1:k≠1:=fun e=> hk (.inr e)
  refine .op (iR E (ag:=false) (n:=1) (off:=0) g1 rfl rfl) (by kernel_rfl) ?_
  refine .br (iEq k 0) (by kernel_rfl) (fun e=> absurd (iEq_iff.1 e) e0) (fun _=> ?_)
  refine .br (iEq k 1) (by kernel_rfl) (fun e=> absurd (iEq_iff.1 e) e1) (fun _=> ?_)
  have hV:showV (.mk k n s l)=91::(rQ l++ [93]):=by rw [showV,if_neg e0,if_neg e1]
  rw [hV] at hlen ⊢
  simp only [List.length_cons,List.length_append,List.length_nil] at hlen
  obtain ⟨h1,hc,x1,o1⟩:=x0.wb 91 (by omega)
  refine .call hc (by kernel_rfl) ?_
  have g2:=o1 _ _ g1 (by omega) (fun _ e=> nomatch e)
  refine .op (iR E (ag:=false) (n:=1) (off:=3) g2 rfl rfl) (by kernel_rfl) ?_
  refine .loop true (fun m tm g=> ∃i,i+m=l.length∧BO b (bs++91::rQ (l.take i)) h g∧St 78 [(0,.ptr b 0),(13,.d (.sl vb l.length vcs)),(14,mkI l.length),(15,mkI i)] tm) l.length (by kernel_rfl) ⟨0,by omega,.at (by kernel_rfl) x1 (by simp [rQ]),.of (by kernel_rfl) ⟨by kernel_rfl,by kernel_rfl,by kernel_rfl,by kernel_rfl,trivial⟩⟩ ?_
  rintro m tm g ⟨i,him,x,g',rfl⟩
  refine .br (iLt (.ofNat i) (.ofNat l.length)) (by kernel_rfl) (fun e=> ?_) (fun e=> ?_)
  ·have hi:i < l.length:=by rw [o8] at e; simpa using e
   obtain ⟨m,rfl⟩:∃k,m=k+1:=⟨m - 1,by omega⟩
   have hld:=BX E (b:=vb) hl hi
   have ihi:=ih i hi (yY hlv.2 i hi)
   have hnx:=Ej hi
   have hsz:=Nw hi
   have hL:l.length≤9223372036854775807:=hlv.1
   obtain ⟨k',n',s',b',m',cs',hlit⟩:=(hcs i hi).lit
   rw [hlit] at hld ihi
   generalize l[i]=w at ihi hnx hsz
   refine .opv (Bh (k:= .i64) (z:=4) (b:=vb) (n:=l.length) (cs:=vcs) (j:=i) rfl hi) (by kernel_rfl) ?_
   refine .opv hld (by kernel_rfl) ?_
   have q1:=push_n g (.cells false t_Value [.d (.i .u8 0),.d (.i .i64 0),.d (.s []),.nilsl])
   refine .op (store_ptr (n:=4) (off:=0) (x:= .agg [.d (.i .u8 k'),.d (.i .i64 n'),.d (.s s'),.d (.sl b' m' cs')]) q1 rfl) (by kernel_rfl) ?_
   have q2:=Heap.get_set_self (b':= .cells false t_Value [.d (.i .u8 k'),.d (.i .i64 n'),.d (.s s'),.d (.sl b' m' cs')]) q1
   have xs:=x.new (.cells false t_Value [.d (.i .u8 0),.d (.i .i64 0),.d (.s []),.nilsl]) (.cells false t_Value [.d (.i .u8 k'),.d (.i .i64 n'),.d (.s s'),.d (.sl b' m' cs')]) (fun _ e=> nomatch e)
   have hgb:g.n≠b:=by have:=x.p.lt; omega
   have hinc:(AV.d (.i .i64 (wrap .i64 (.ofNat i+1))))=mkI (i+1):=KY (by omega)
   refine .br (iLt 0 (.ofNat i)) (by kernel_rfl) (fun e1=> ?_) (fun e1=> ?_)
   ·rw [e1,if_pos rfl] at hnx
    obtain ⟨h2,hc2,x2,o2⟩:=xs.wb 44 (by simp only [List.length_append,List.length_cons,List.length_nil]; omega)
    refine .call hc2 (by kernel_rfl) ?_
    have q3:=o2 _ _ q2 hgb (fun _ e=> nomatch e)
    refine .op (iR E (ag:=true) (n:=4) (off:=0) q3 rfl rfl) (by kernel_rfl) ?_
    obtain ⟨h3,hc3,x3⟩:=ihi b _ h2 x2.p (by simp only [List.length_append,List.length_cons,List.length_nil]; omega)
    refine .call hc3 (by kernel_rfl) ?_
    refine .next m (by kernel_rfl) (by omega) ⟨i+1,by omega,.at (by kernel_rfl) ⟨x3.p,x2.o.trans x3.o⟩ (by rw [hnx]; simp),.of (by kernel_rfl) ⟨by kernel_rfl,by kernel_rfl,by kernel_rfl,?_,trivial⟩⟩
    exact Eq.trans (b:= .d (.i .i64 (wrap .i64 (.ofNat i+1)))) (by kernel_rfl) hinc
   ·rw [e1,if_neg (by simp)] at hnx
    refine .op (iR E (ag:=true) (n:=4) (off:=0) q2 rfl rfl) (by kernel_rfl) ?_
    obtain ⟨h3,hc3,x3⟩:=ihi b _ _ xs.p (by simp only [List.length_append,List.length_cons,List.length_nil]; omega)
    refine .call hc3 (by kernel_rfl) ?_
    refine .next m (by kernel_rfl) (by omega) ⟨i+1,by omega,.at (by kernel_rfl) ⟨x3.p,xs.o.trans x3.o⟩ (by rw [hnx]; simp),.of (by kernel_rfl) ⟨by kernel_rfl,by kernel_rfl,by kernel_rfl,?_,trivial⟩⟩
    exact Eq.trans (b:= .d (.i .i64 (wrap .i64 (.ofNat i+1)))) (by kernel_rfl) hinc
  ·have:m=0:=by rw [tV] at e; simp only [Int.ofNat_eq_natCast] at e; omega
   subst this
   obtain rfl:i=l.length:=by omega
   refine .out true 2 (by kernel_rfl) ?_
   rw [List.take_length] at x
   obtain ⟨h2,hc2,x2,_⟩:=x.wb 93 (by simp only [List.length_append,List.length_cons,List.length_nil]; omega)
   refine .call hc2 (by kernel_rfl) ?_
   exact .retN (by kernel_rfl) ⟨rfl,.at (by kernel_rfl) x2 (by simp)⟩
 obtain ⟨v,h',hc,rfl,hB⟩:=goal
 exact ⟨h',hc,hB⟩
theorem Nz {k n:Int} {s:List UInt8} {b:Nat} {bs:List UInt8} {h:Heap} (hn:R64 n) (hb:Bld b bs h) (hlen:bs.length+(showV (.mk k n s [])).length≤60000000000000):
  ∃h',Cal E u6 [.ptr b 0,.agg [.d (.i .u8 k),.d (.i .i64 n),.d (.s s),.nilsl]] h (.nrm,.tup [],h')∧BO b (bs++showV (.mk k n s [])) h h':=by
 have g1:=push_n h (.cells false t_Value [.d (.i .u8 k),.d (.i .i64 n),.d (.s s),.nilsl])
 have x0:BO b bs h (h.push (.cells false t_Value [.d (.i .u8 k),.d (.i .i64 n),.d (.s s),.nilsl])):=⟨hb.push _,fun i y hy _ _=> push_of hy _⟩
 have hbl:=hb.lt
 have goal:∃v h',Cal E u6 [.ptr b 0,.agg [.d (.i .u8 k),.d (.i .i64 n),.d (.s s),.nilsl]] h (.nrm,v,h')∧(v= .tup []∧BO b (bs++showV (.mk k n s [])) h h'):=by
  refine Cal.we BV (.inr rfl) ?_
  by_cases hk:k=0∨k=1
  ·refine .top true 0 (tl wY.body 1) [] (h.push (.cells false t_Value [.d (.i .u8 k),.d (.i .i64 n),.d (.s s),.nilsl])) (by kernel_rfl) ?_
   exact Sr x0 g1 (by omega) hn hk hlen (.of (by kernel_rfl) ⟨by kernel_rfl,by kernel_rfl,trivial⟩)
  have e0:k≠0:=fun e=> hk (.inl e)
  have e1:k≠1:=fun e=> hk (.inr e)
  refine .op (iR E (ag:=false) (n:=1) (off:=0) g1 rfl rfl) (by kernel_rfl) ?_
  refine .br (iEq k 0) (by kernel_rfl) (fun e=> absurd (iEq_iff.1 e) e0) (fun _=> ?_)
  refine .br (iEq k 1) (by kernel_rfl) (fun e=> absurd (iEq_iff.1 e) e1) (fun _=> ?_)
  have hV:showV (.mk k n s [])=[91,93]:=by rw [showV,if_neg e0,if_neg e1]; rfl
  rw [hV] at hlen ⊢
  simp only [List.length_cons,List.length_nil] at hlen
  obtain ⟨h1,hc,x1,o1⟩:=x0.wb 91 (by omega)
  refine .call hc (by kernel_rfl) ?_
  have g2:=o1 _ _ g1 (by omega) (fun _ e=> nomatch e)
  refine .op (iR E (ag:=false) (n:=1) (off:=3) g2 rfl rfl) (by kernel_rfl) ?_
  refine .loop true (fun _ tm g=> BO b (bs++ [91]) h g∧St 78 [(0,.ptr b 0),(14,mkI 0),(15,mkI 0)] tm) 0 (by kernel_rfl) ⟨.at (by kernel_rfl) x1 rfl,.of (by kernel_rfl) ⟨by kernel_rfl,by kernel_rfl,by kernel_rfl,trivial⟩⟩ ?_
  rintro m tm g ⟨x,g',rfl⟩
  refine .br false (by kernel_rfl) (fun e=> nomatch e) (fun _=> ?_)
  refine .out true 2 (by kernel_rfl) ?_
  obtain ⟨h2,hc2,x2,_⟩:=x.wb 93 (by simp only [List.length_append,List.length_cons,List.length_nil]; omega)
  refine .call hc2 (by kernel_rfl) ?_
  exact .retN (by kernel_rfl) ⟨rfl,.at (by kernel_rfl) x2 (by simp)⟩
 obtain ⟨v,h',hc,rfl,hB⟩:=goal
 exact ⟨h',hc,hB⟩
theorem Qv {h:Heap} {args:List AV} {bor:Bool} {v:ValS} {cs:List DV} (hv:ValR v cs) (hlv:Bi v) (hl:(showV v).length≤60000000000000) (ha:stripArgs h args=some ([.agg cs],bor)):Cal E wZ args h (.nrm,.d (.s (showV v)),h):=by
 have hs:=Qu hv hlv
 obtain ⟨k,n,s,b,m,ds,rfl⟩:=hv.lit
 refine .w BY (by kernel_rfl) ha ?_
 have hB:Bld 1 [] ((Heap.empty.push (.cells false t_Value [.d (.i .u8 k),.d (.i .i64 n),.d (.s s),.d (.sl b m ds)])).push (.cells false jQ [.d .sG,.nilsl])):=⟨.d .sG,.nilsl,rfl,.inl rfl,.inl ⟨rfl,rfl⟩⟩
 obtain ⟨h1,hc,x⟩:=hs 1 [] _ hB (by simpa using hl)
 refine .call hc (by kernel_rfl) ?_
 obtain ⟨h2,hc2,_⟩:=Nv x.p (by simp only [List.nil_append]; omega)
 rw [List.nil_append] at hc2
 refine .call hc2 (by kernel_rfl) ?_
 exact .ret rfl (by kernel_rfl)
theorem NA {h:Heap} {args:List AV} {bor:Bool} {k n:Int} {s:List UInt8} (hn:R64 n) (hl:(showV (.mk k n s [])).length≤60000000000000) (ha:stripArgs h args=some ([.agg [.i .u8 k,.i .i64 n,.s s,.nsl]],bor)):Cal E wZ args h (.nrm,.d (.s (showV (.mk k n s []))),h):=by
 refine .w BY (by kernel_rfl) ha ?_
 have hB:Bld 1 [] ((Heap.empty.push (.cells false t_Value [.d (.i .u8 k),.d (.i .i64 n),.d (.s s),.nilsl])).push (.cells false jQ [.d .sG,.nilsl])):=⟨.d .sG,.nilsl,rfl,.inl rfl,.inl ⟨rfl,rfl⟩⟩
 obtain ⟨h1,hc,x⟩:=Nz (k:=k) (s:=s) hn hB (by simpa using hl)
 refine .call hc (by kernel_rfl) ?_
 obtain ⟨h2,hc2,_⟩:=Nv x.p (by simp only [List.nil_append]; omega)
 rw [List.nil_append] at hc2
 refine .call hc2 (by kernel_rfl) ?_
 exact .ret rfl (by kernel_rfl)
end
end Go.Proofs.YtgjhldabffjiaaaGreatDoor
