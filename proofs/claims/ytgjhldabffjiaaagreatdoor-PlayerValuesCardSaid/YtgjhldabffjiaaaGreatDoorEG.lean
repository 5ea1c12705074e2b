/- PlayerValues, upon awake. -/
import Derived.Test.YtgjhldabffjiaaaGreatDoorEF
import Derived.Test.YtgjhldabffjiaaaGreatDoorV
namespace Go.Proofs.YtgjhldabffjiaaaGreatDoor
open Go Go.Abs
set_option maxRecDepth 100000
set_option maxHeartbeats 0
noncomputable section
theorem GR {q:EqK} {a b:List UInt8} (hl:a.length+b.length≤70368744177664):∀h:Heap,wS h [] .add q (.c (.d (.s a))) (.c (.d (.s b)))= .val (.d (.s (a++b))) h:=fun h=> by
 show ov h (IG .add a b)=_
 unfold IG
 have:Nat.ble (a.length+b.length) 70368744177664=true:=by rw [Nat.ble_eq]; exact hl
 simp only [this,ov]
theorem K9 {g:Heap} {b:Nat} {c:UInt8} (hg:g.get b=some (.cells false 5 [.d (byteD c)])):vJ g [] (.c (.sref b 0 1 1 1 true))= .val (.d (.s [c])) g:=by
 have hsv:slView g 1 (.sref b 0 1 1 1 true)=some (1,[.d (byteD c)]):=by
  show (match g.get b with | some (.cells _ _ cs)=> (match readN cs 0 (1*1) with | some l=> some (1,l) | none=> none) | _=> none)=_
  rw [hg]; rfl
 have h1:stripL [.d (byteD c)]=some [byteD c]:=rfl
 have h2:qm [byteD c]=some [c]:=yM [c]
 simp only [vJ,X.ev,hsv,h1,h2]
theorem TN {q:EqK} {a n:Nat} {x y:Int} (hx:x= .ofNat a) (hy:y= .ofNat (n+1)):∀h:Heap,wS h [] .rem q (.c (.d (.i .i64 x))) (.c (.d (.i .i64 y)))= .val (.d (.i .i64 (.ofNat (a % (n+1))))) h:=by
 intro h
 subst hx hy
 show ov h (Mb .rem q (.d (.i .i64 (.ofNat a))) (.d (.i .i64 (.ofNat (n+1)))))=_
 unfold Mb
 simp only [wm,arith]
 rfl
theorem TO:∀{v:ValS} {cs:List DV},ValR v cs→okV v:=by
 intro v cs h
 induction h with
 |sl k n s l b vcs hl hcs hkn ih=>
  refine ⟨hkn.1,hkn.2,?_⟩
  have:∀l:List ValS,(∀i (hi:i < l.length),Abs.okV l[i])→okVs l:=by
   intro l
   induction l with
   |nil=> intro _; exact trivial
   |cons v l ihl=> intro h; exact ⟨h 0 (by simp),ihl fun i hi=> h (i+1) (by simp; omega)⟩
  exact this l ih
theorem II {v:ValS} (hr:rightV v=true) (ho:okV v):valueF (showV v)=some v:=by
 have:=(yZ hr).2.2 ho [] (fun c e=> by cases e)
 rw [List.append_nil] at this
 unfold valueF
 rw [this]
 simp only [hr,Bool.true_and]
 rw [if_pos (pO.2 rfl)]
theorem Aq {s:List UInt8} {w:ValS} (h:valueF s=some w):rightV w=true∧showV w=s:=by
 unfold valueF at h
 split at h
 ·split at h
  ·rename_i he
   injection h with h
   subst h
   rw [Bool.and_eq_true,pO] at he
   exact he
  ·cases h
 ·cases h
structure VlG (hh:Heap) (s:List UInt8) (k n:Int) (s':List UInt8) (LA:AV) (x:Bool) (h':Heap):Prop where
 c:Cal E vg [.d (.s s)] hh (.nrm,.tup [.agg (vB k n s' LA),.d (.b x)],h')
 ok:(Nat.beq (cellsOf (.agg (vB k n s' LA))).length 4 && Nat.ble (0+4) zV.length && !((cellsOf (.agg (vB k n s' LA))).any Abs.isAgg))=true
 f:FrA hh h'
 no:x=false→valueF s=none
 v:x=true→∃w,valueF s=some w∧VR (hh.n≤·) h' 6 w (vB k n s' LA)
theorem AM (hh:Heap) {s:List UInt8} (hl:s.length≤1000000000000):∃k n s' LA x h',VlG hh s k n s' LA x h':=by
 obtain ⟨v,h',hc,hF,hm⟩:=NY (h:=hh) hl
 cases hv:valueF s with
 |none=>
  rw [hv] at hm
  subst hm
  exact ⟨0,0,[],.nilsl,false,h',⟨hc,rfl,hF,fun _=> hv,fun e=> nomatch e⟩⟩
 |some w=>
  rw [hv] at hm
  obtain ⟨cs,rfl,hvr⟩:=hm
  obtain ⟨k,n,s',LA,rfl,hLA⟩:=hvr.lit
  exact ⟨k,n,s',LA,true,h',⟨hc,by rcases hLA with rfl | ⟨_,_,_,rfl⟩ <;> rfl,hF,(fun e=> nomatch e),fun _=> ⟨w,hv,hvr⟩⟩⟩
section
variable {k n : Int} {s : List UInt8} {l : List ValS} {b : Bool} {cs : List DV}
structure LV (k n:Int) (s:List UInt8) (b:Bool) (m:Nat) (cs:List DV) (hh:Heap):Prop where
 g:hh.get 0=some (.cells false t_Value (vB k n s (.d (.sl b m cs))))
theorem LV.at {m:Nat} {g g2:Heap} (e:g=g2) (x:LV k n s b m cs g2):LV k n s b m cs g:=e▸x
theorem LV.fr {m:Nat} {g g2:Heap} (x:LV k n s b m cs g) (f:FrA g g2):LV k n s b m cs g2:=⟨f.o _ _ x.g (fun _ e=> nomatch e)⟩
theorem LV.put {m : Nat} {g : Heap} (x : LV k n s b m cs g) (y z : Blk) : LV k n s b m cs ((g.push y).set g.n z) := ⟨by
 have:=get_lt x.g
 rw [Heap.get_set_ne (by omega)]; exact push_of x.g y⟩
theorem LV.set {m:Nat} {g:Heap} (x:LV k n s b m cs g) {i:Nat} (hi:i≠0) (z:Blk):LV k n s b m cs (g.set i z):=⟨by rw [Heap.get_set_ne hi]; exact x.g⟩
theorem GU {G:Heap} {m:Nat}:stripArgs G [.agg (vB k n s (.d (.sl b m cs)))]=some ([.agg [.i .u8 k,.i .i64 n,.s s,.sl b m cs]],false):=
 strip_cons (zy [.i .u8 k,.i .i64 n,.s s,.sl b m cs]) strip_nil
theorem J4 {G:Heap} {P:Nat→Prop} {w:ValS} {cs2:List AV} (hv:ValR (.mk k n s l) [.i .u8 k,.i .i64 n,.s s,.sl b l.length cs]) (hlv:Bi (.mk k n s l)) (hw:VR P G 6 w cs2):
  Cal E nT [.agg (vB k n s (.d (.sl b l.length cs))),.agg cs2] G (.nrm,.d (.b (eqV (.mk k n s l) w)),G):=by
 obtain ⟨ds,b2,e,t⟩:=hw.borrow
 exact Qx hv hlv t (strip_cons (zy [.i .u8 k,.i .i64 n,.s s,.sl b l.length cs]) (strip_cons e strip_nil))
variable (sF : ∀ h,Cal E Ar [] h (.nrm,.d (.b true),h)) (hv : ValR (.mk k n s l) [.i .u8 k,.i .i64 n,.s s,.sl b l.length cs]) (hlv : Bi (.mk k n s l)) (hr : rightV (.mk k n s l) = true) (h : Heap)
include sF hv hlv hr in
theorem VF {tm:List AV} {hh:Heap} {j:Nat} (hL:LV k n s b l.length cs hh) (hj:j≤(showV (.mk k n s l)).length) (ht:St 116 [(4,.ptr 0 0),(11,.d (.s (showV (.mk k n s l)))),(14,mkI j)] tm):
  W E (Ab E dS.results false h (.d (.b true)) h) (.run (tl dS.body 10) [] ⟨true,[]⟩ tm hh):=by
 have hlen:=(yZ hr).1
 obtain ⟨g,rfl⟩:=ht
 generalize hS:showV (.mk k n s l)=S at*
 refine .br (iLt (.ofNat j) (.ofNat S.length)) (by kernel_rfl) (fun e=> ?_) (fun _=> ?_)
 rotate_left
 ·refine .oU sF (by kernel_rfl) ?_
  exact .ret rfl (by kernel_rfl)
 have hjl:j < S.length:=by rw [o8] at e; simpa using e
 refine .opv (BR (k:= .i64) (s:=S) (a:=j) rfl (by omega)) (by kernel_rfl) ?_
 refine .opv (uK (k:= .i64) (s:=S) (a:=j+1) (x:=wrap .i64 (.ofNat j+1)) (by rw [wrap64 (by simp only [Int.ofNat_eq_natCast]; omega) (by simp only [Int.ofNat_eq_natCast]; omega)]; rfl) (by omega)) (by kernel_rfl) ?_
 refine .opv (GR (q:= .bad) (a:=S.take j) (b:=S.drop (j+1)) (by simp; omega)) (by kernel_rfl) ?_
 obtain ⟨k2,n2,s2,LA,x,h2,z⟩:=AM (hh.push .dead) (s:=S.take j++S.drop (j+1)) (by simp; omega)
 refine .call z.c (by kernel_rfl) ?_
 have hn0:hh.n≠0:=by have:=get_lt hL.g; omega
 have hd:h2.get hh.n=some .dead:=z.f.o _ _ (push_n hh _) (fun _ e=> nomatch e)
 have hz:(h2.set hh.n (.cells false t_Value zV)).get hh.n=some (.cells false t_Value zV):=Heap.get_set_self hd
 refine .op (store_ptr (n:=4) (off:=0) (x:= .agg (vB k2 n2 s2 LA)) hz z.ok) (by kernel_rfl) ?_
 have hG:((h2.set hh.n (.cells false t_Value zV)).set hh.n (.cells false t_Value (vB k2 n2 s2 LA))).get hh.n=some (.cells false t_Value (vB k2 n2 s2 LA)):=Heap.get_set_self hz
 have hL2:LV k n s b l.length cs ((h2.set hh.n (.cells false t_Value zV)).set hh.n (.cells false t_Value (vB k2 n2 s2 LA))):=((hL.fr ((FrA.push hh _).trans z.f)).set hn0 _).set hn0 _
 cases x with
 |false=>
  refine W.brF (by kernel_rfl) ?_
  refine .oU sF (by kernel_rfl) ?_
  exact .ret rfl (by kernel_rfl)
 |true=>
  refine W.brT (by kernel_rfl) ?_
  obtain ⟨w,hw,hvr⟩:=z.v rfl
  have hne:eqV (.mk k n s l) w=false:=by
   rw [←Bool.not_eq_true,D9]
   intro e
   have h1:=(Aq hw).2
   rw [←e,hS] at h1
   have:=congrArg List.length h1
   simp at this
   omega
  have abM : VR (fun i => hh.n + 1 ≤ i) ((h2.set hh.n (.cells false t_Value zV)).set hh.n (.cells false t_Value (vB k2 n2 s2 LA))) 6 w (vB k2 n2 s2 LA) := hvr.mono fun i y hi hy => ⟨hi,by
   have hi:hh.n+1≤i:=hi
   have hne:hh.n≠i:=by omega
   exact (Heap.get_set_ne hne).trans ((Heap.get_set_ne hne).trans hy)⟩
  have hsame:=J4 hv hlv abM
  rw [hne] at hsame
  refine .op (iR E (ag:=true) (n:=4) (off:=0) hL2.g rfl rfl) (by kernel_rfl) ?_
  refine .op (iR E (ag:=true) (n:=4) (off:=0) hG rfl rfl) (by kernel_rfl) ?_
  refine .call hsame (by kernel_rfl) ?_
  refine W.brF (by kernel_rfl) ?_
  refine .oU sF (by kernel_rfl) ?_
  exact .ret rfl (by kernel_rfl)
theorem VR.put {P:Nat→Prop} {g:Heap} {d:Nat} {w:ValS} {c:List AV} (x:VR P g d w c) (y z:Blk):VR P ((g.push y).set g.n z) d w c:=
 x.mono fun i u hi hu => ⟨hi,by
  have:=get_lt hu
  exact (Heap.get_set_ne (show g.n≠i by omega)).trans (push_of hu y)⟩
include sF hv hlv hr in
theorem pv9 {tm:List AV} {hh:Heap} {j:Nat} {m:List UInt8} (hL:LV k n s b l.length cs hh) (hj:j≤(showV (.mk k n s l)).length) (hm:m.length=(showV (.mk k n s l)).length+1) (ht:St 116 [(4,.ptr 0 0),(11,.d (.s (showV (.mk k n s l)))),(14,mkI j),(15,.d (.s m))] tm):
  W E (Ab E dS.results false h (.d (.b true)) h) (.run (tl dS.body 9) [] ⟨true,[]⟩ tm hh):=by
 have hlen:=(yZ hr).1
 obtain ⟨g,rfl⟩:=ht
 generalize hS:showV (.mk k n s l)=S at*
 obtain ⟨k2,n2,s2,LA,x,h2,z⟩:=AM hh (s:=m) (by omega)
 refine .call z.c (by kernel_rfl) ?_
 have hz:=push_n h2 (.cells false t_Value zV)
 refine .op (store_ptr (n:=4) (off:=0) (x:= .agg (vB k2 n2 s2 LA)) hz z.ok) (by kernel_rfl) ?_
 have hG:((h2.push (.cells false t_Value zV)).set h2.n (.cells false t_Value (vB k2 n2 s2 LA))).get h2.n=some (.cells false t_Value (vB k2 n2 s2 LA)):=Heap.get_set_self hz
 have hL2:LV k n s b l.length cs ((h2.push (.cells false t_Value zV)).set h2.n (.cells false t_Value (vB k2 n2 s2 LA))):=(hL.fr z.f).put _ _
 cases x with
 |false=>
  refine W.brF (by kernel_rfl) ?_
  refine .top true 0 (tl dS.body 10) [] ((h2.push (.cells false t_Value zV)).set h2.n (.cells false t_Value (vB k2 n2 s2 LA))) (by kernel_rfl) ?_
  exact VF sF hv hlv hr h hL2 (by rw [hS]; exact hj) (.of (by kernel_rfl) ⟨by kernel_rfl,by rw [hS]; kernel_rfl,by kernel_rfl,trivial⟩)
 |true=>
  refine W.brT (by kernel_rfl) ?_
  obtain ⟨w,hw,hvr⟩:=z.v rfl
  have hne:eqV (.mk k n s l) w=false:=by
   rw [←Bool.not_eq_true,D9]
   intro e
   have h1:=(Aq hw).2
   rw [←e,hS] at h1
   have:=congrArg List.length h1
   omega
  have hsame:=J4 hv hlv (hvr.put (.cells false t_Value zV) (.cells false t_Value (vB k2 n2 s2 LA)))
  rw [hne] at hsame
  refine .op (iR E (ag:=true) (n:=4) (off:=0) hL2.g rfl rfl) (by kernel_rfl) ?_
  refine .op (iR E (ag:=true) (n:=4) (off:=0) hG rfl rfl) (by kernel_rfl) ?_
  refine .call hsame (by kernel_rfl) ?_
  refine W.brF (by kernel_rfl) ?_
  refine .top true 0 (tl dS.body 10) [] ((h2.push (.cells false t_Value zV)).set h2.n (.cells false t_Value (vB k2 n2 s2 LA))) (by kernel_rfl) ?_
  exact VF sF hv hlv hr h hL2 (by rw [hS]; exact hj) (.of (by kernel_rfl) ⟨by kernel_rfl,by rw [hS]; kernel_rfl,by kernel_rfl,trivial⟩)
include sF hv hlv hr in
theorem pv7 {tm:List AV} {hh:Heap} {a:Nat} {c:UInt8} (ha:a < 65536) (hL:LV k n s b l.length cs hh) (ht:St 116 [(2,.d (byteD c)),(3,.d (.i .u16 (.ofNat a))),(4,.ptr 0 0),(11,.d (.s (showV (.mk k n s l))))] tm):
  W E (Ab E dS.results false h (.d (.b true)) h) (.run (tl dS.body 7) [] ⟨true,[]⟩ tm hh):=by
 have hlen:=(yZ hr).1
 obtain ⟨g,rfl⟩:=ht
 generalize hS:showV (.mk k n s l)=S at*
 refine .opv (TN (q:= .bad) (a:=a) (n:=S.length) (x:=wrap .i64 (.ofNat a)) (y:=wrap .i64 (.ofNat S.length+1)) (by rw [wrap64 (by simp only [Int.ofNat_eq_natCast]; omega) (by simp only [Int.ofNat_eq_natCast]; omega)]) (by rw [wrap64 (by simp only [Int.ofNat_eq_natCast]; omega) (by simp only [Int.ofNat_eq_natCast]; omega)]; rfl)) (by kernel_rfl) ?_
 have hj:a % (S.length+1)≤S.length:=by have:=Nat.mod_lt a (show S.length+1 > 0 by omega); omega
 generalize a % (S.length+1)=j at hj ⊢
 refine .opv (BR (k:= .i64) (s:=S) (a:=j) rfl hj) (by kernel_rfl) ?_
 have hb:=Heap.get_set_self (b':= .cells false 5 [.d (byteD c)]) (push_n hh .dead)
 refine .rd2 (K9 hb) (K9 hb) (by kernel_rfl) ?_
 refine .opv (GR (q:= .bad) (a:=S.take j) (b:=[c]) (by simp; omega)) (by kernel_rfl) ?_
 refine .opv (uK (k:= .i64) (s:=S) (a:=j) rfl hj) (by kernel_rfl) ?_
 refine .opv (GR (q:= .bad) (a:=S.take j++ [c]) (b:=S.drop j) (by simp; omega)) (by kernel_rfl) ?_
 refine .top true 0 (tl dS.body 9) [] ((hh.push .dead).set hh.n (.cells false 5 [.d (byteD c)])) (by kernel_rfl) ?_
 exact pv9 sF hv hlv hr h (m:=S.take j++ [c]++S.drop j) (hL.put _ _) (by rw [hS]; exact hj) (by rw [hS]; simp; omega) (.of (by kernel_rfl) ⟨by kernel_rfl,by rw [hS]; kernel_rfl,by kernel_rfl,by kernel_rfl,trivial⟩)
include sF hv hlv hr in
theorem pv5 {tm:List AV} {hh:Heap} {a:Nat} {c:UInt8} (ha:a < 65536) (hL:LV k n s b l.length cs hh) (ht:St 116 [(2,.d (byteD c)),(3,.d (.i .u16 (.ofNat a))),(4,.ptr 0 0),(11,.d (.s (showV (.mk k n s l))))] tm):
  W E (Ab E dS.results false h (.d (.b true)) h) (.run (tl dS.body 5) [] ⟨true,[]⟩ tm hh):=by
 have hlen:=(yZ hr).1
 have hvF:=II hr (TO hv)
 obtain ⟨g,rfl⟩:=ht
 generalize hS:showV (.mk k n s l)=S at*
 obtain ⟨k2,n2,s2,LA,x,h2,z⟩:=AM hh (s:=S) (by omega)
 obtain rfl:x=true:=by
  cases x with
  |true=> rfl
  |false=> rw [z.no rfl] at hvF; cases hvF
 refine .call z.c (by kernel_rfl) ?_
 have hz:=push_n h2 (.cells false t_Value zV)
 refine .op (store_ptr (n:=4) (off:=0) (x:= .agg (vB k2 n2 s2 LA)) hz z.ok) (by kernel_rfl) ?_
 have hG:((h2.push (.cells false t_Value zV)).set h2.n (.cells false t_Value (vB k2 n2 s2 LA))).get h2.n=some (.cells false t_Value (vB k2 n2 s2 LA)):=Heap.get_set_self hz
 have hL2:LV k n s b l.length cs ((h2.push (.cells false t_Value zV)).set h2.n (.cells false t_Value (vB k2 n2 s2 LA))):=(hL.fr z.f).put _ _
 obtain ⟨w,hw,hvr⟩:=z.v rfl
 rw [hvF] at hw
 injection hw with hw
 subst hw
 have hsame:=J4 hv hlv (hvr.put (.cells false t_Value zV) (.cells false t_Value (vB k2 n2 s2 LA)))
 rw [(D9 _ _).2 rfl] at hsame
 refine W.brF (by kernel_rfl) ?_
 refine .op (iR E (ag:=true) (n:=4) (off:=0) hL2.g rfl rfl) (by kernel_rfl) ?_
 refine .op (iR E (ag:=true) (n:=4) (off:=0) hG rfl rfl) (by kernel_rfl) ?_
 refine .call hsame (by kernel_rfl) ?_
 refine W.brF (by kernel_rfl) ?_
 refine .top true 0 (tl dS.body 7) [] ((h2.push (.cells false t_Value zV)).set h2.n (.cells false t_Value (vB k2 n2 s2 LA))) (by kernel_rfl) ?_
 exact pv7 sF hv hlv hr h (c:=c) ha hL2 (.of (by kernel_rfl) ⟨by kernel_rfl,by kernel_rfl,by kernel_rfl,by rw [hS]; kernel_rfl,trivial⟩)
include sF hv hlv in
theorem pv3 {tm:List AV} {hh:Heap} {a:Nat} {c:UInt8} (ha:a < 65536) (hL:LV k n s b l.length cs hh) (ht:St 116 [(2,.d (byteD c)),(3,.d (.i .u16 (.ofNat a))),(4,.ptr 0 0)] tm):
  W E (Ab E dS.results false h (.d (.b true)) h) (.run (tl dS.body 3) [] ⟨true,[]⟩ tm hh):=by
 obtain ⟨g,rfl⟩:=ht
 refine .op (iR E (ag:=true) (n:=4) (off:=0) hL.g rfl rfl) (by kernel_rfl) ?_
 refine .call (h1:=hh) (Dw hv GU) (by kernel_rfl) ?_
 refine .br (!(rightV (.mk k n s l))) (by kernel_rfl) (fun e=> ?_) (fun e=> ?_)
 ·refine .oU sF (by kernel_rfl) ?_
  exact .ret rfl (by kernel_rfl)
 have hr:rightV (.mk k n s l)=true:=by simpa using e
 refine .op (iR E (ag:=true) (n:=4) (off:=0) hL.g rfl rfl) (by kernel_rfl) ?_
 refine .call (h1:=hh) (NW (.inl hv) hr GU) (by kernel_rfl) ?_
 refine .top true 0 (tl dS.body 5) [] hh (by kernel_rfl) ?_
 exact pv5 sF hv hlv hr h (c:=c) ha hL (.of (by kernel_rfl) ⟨by kernel_rfl,by kernel_rfl,by kernel_rfl,by kernel_rfl,trivial⟩)
include sF hv hlv in
theorem pv2 {tm:List AV} {hh:Heap} {a:Nat} {c:UInt8} {t:List UInt8} (htl:t.length≤300) (ha:a < 65536) (hL:LV k n s b l.length cs hh) (ht:St 116 [(1,.d (.s t)),(2,.d (byteD c)),(3,.d (.i .u16 (.ofNat a))),(4,.ptr 0 0)] tm):
  W E (Ab E dS.results false h (.d (.b true)) h) (.run (tl dS.body 2) [] ⟨true,[]⟩ tm hh):=by
 obtain ⟨g,rfl⟩:=ht
 obtain ⟨k2,n2,s2,LA,x,h2,z⟩:=AM hh (s:=t) (by omega)
 refine .call z.c (by kernel_rfl) ?_
 have hz:=push_n h2 (.cells false t_Value zV)
 refine .op (store_ptr (n:=4) (off:=0) (x:= .agg (vB k2 n2 s2 LA)) hz z.ok) (by kernel_rfl) ?_
 have hG:((h2.push (.cells false t_Value zV)).set h2.n (.cells false t_Value (vB k2 n2 s2 LA))).get h2.n=some (.cells false t_Value (vB k2 n2 s2 LA)):=Heap.get_set_self hz
 have hL2:LV k n s b l.length cs ((h2.push (.cells false t_Value zV)).set h2.n (.cells false t_Value (vB k2 n2 s2 LA))):=(hL.fr z.f).put _ _
 cases x with
 |false=>
  refine W.brF (by kernel_rfl) ?_
  refine .top true 0 (tl dS.body 3) [] ((h2.push (.cells false t_Value zV)).set h2.n (.cells false t_Value (vB k2 n2 s2 LA))) (by kernel_rfl) ?_
  exact pv3 sF hv hlv h (c:=c) ha hL2 (.of (by kernel_rfl) ⟨by kernel_rfl,by kernel_rfl,by kernel_rfl,trivial⟩)
 |true=>
  refine W.brT (by kernel_rfl) ?_
  obtain ⟨w,hw,hvr⟩:=z.v rfl
  obtain ⟨h1,h3⟩:=Aq hw
  obtain ⟨ds,b2,hst,hT⟩:=(hvr.put (.cells false t_Value zV) (.cells false t_Value (vB k2 n2 s2 LA))).strip
  have hsh:=NW hT h1 hst
  have hri:=NV hT hst
  rw [h3] at hsh
  rw [h1] at hri
  refine .op (iR E (ag:=true) (n:=4) (off:=0) hG rfl rfl) (by kernel_rfl) ?_
  refine .call hsh (by kernel_rfl) ?_
  refine .br (!(strEq t t)) (by kernel_rfl) (fun e=> ?_) (fun _=> ?_)
  ·rw [pO.2 rfl] at e; cases e
  refine .op (iR E (ag:=true) (n:=4) (off:=0) hG rfl rfl) (by kernel_rfl) ?_
  refine .call hri (by kernel_rfl) ?_
  refine W.brF (by kernel_rfl) ?_
  refine .top true 0 (tl dS.body 3) [] ((h2.push (.cells false t_Value zV)).set h2.n (.cells false t_Value (vB k2 n2 s2 LA))) (by kernel_rfl) ?_
  exact pv3 sF hv hlv h (c:=c) ha hL2 (.of (by kernel_rfl) ⟨by kernel_rfl,by kernel_rfl,by kernel_rfl,trivial⟩)
include sF hv hlv in
theorem Mm {args:List AV} {a:Nat} {c:UInt8} {t:List UInt8} (ha:a < 65536) (hs:stripArgs h args=some ([.agg [.i .u8 k,.i .i64 n,.s s,.sl b l.length cs],.s t,byteD c,.i .u16 (.ofNat a)],false)):
  Cal E rU args h (.nrm,.d (.b true),h):=by
 refine .w w_ (by kernel_rfl) hs ?_
 refine .top true 0 (tl dS.body 1) [] (Heap.empty.push (.cells false t_Value (vB k n s (.d (.sl b l.length cs))))) (by kernel_rfl) ?_
 have hL:LV k n s b l.length cs (Heap.empty.push (.cells false t_Value (vB k n s (.d (.sl b l.length cs))))):=⟨rfl⟩
 generalize Heap.empty.push (.cells false t_Value (vB k n s (.d (.sl b l.length cs))))=hh at hL ⊢
 refine .op (iR E (ag:=true) (n:=4) (off:=0) hL.g rfl rfl) (by kernel_rfl) ?_
 obtain ⟨_,⟨x,rfl⟩,hc⟩:=QM (h:=hh) hv hlv GU
 refine .call hc (by kernel_rfl) ?_
 refine .br (!x) (by kernel_rfl) (fun _=> ?_) (fun _=> ?_)
 ·refine .oU sF (by kernel_rfl) ?_
  exact .ret rfl (by kernel_rfl)
 refine .br (iLt 300 (.ofNat t.length)) (by kernel_rfl) (fun _=> ?_) (fun e=> ?_)
 ·refine .oU sF (by kernel_rfl) ?_
  exact .ret rfl (by kernel_rfl)
 have htl:t.length≤300:=by
  rw [tV] at e
  have:(t.length:Int)≤300:=e
  omega
 refine .top true 0 (tl dS.body 2) [] hh (by kernel_rfl) ?_
 exact pv2 sF hv hlv h (c:=c) htl ha hL (.of (by kernel_rfl) ⟨by kernel_rfl,by kernel_rfl,by kernel_rfl,by kernel_rfl,trivial⟩)
end
end
end Go.Proofs.YtgjhldabffjiaaaGreatDoor
