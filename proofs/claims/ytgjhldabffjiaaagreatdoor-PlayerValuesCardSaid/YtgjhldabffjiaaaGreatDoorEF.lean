/- Contract: player.Value. -/
import Derived.Test.YtgjhldabffjiaaaGreatDoorED
namespace Go.Proofs.YtgjhldabffjiaaaGreatDoor
open Go Go.Abs
set_option maxRecDepth 100000
set_option maxHeartbeats 0
noncomputable section
def rdN (h:Heap):Nat→Nat→Nat→Nat→Option (List DV)
 |0=> fun _ _ _=> none
 |k+1=> rdBlk (rdN h k) h
theorem borrowWL_app (rd:Nat→Nat→Nat→Option (List DV)):∀{a b:List AV} {x y:List DV} {p q:Bool},borrowWL rd a=some (x,p)→borrowWL rd b=some (y,q)→∃r,borrowWL rd (a++b)=some (x++y,r)
 |[],b,x,y,p,q,h1,h2=> by
  rw [borrowWL] at h1
  cases h1
  exact ⟨q,h2⟩
 |v::a,b,x,y,p,q,h1,h2=> by
  rw [borrowWL] at h1
  split at h1
  ·rename_i d x1 hv
   split at h1
   ·rename_i l y1 hl
    injection h1 with h1
    injection h1 with h1 _
    subst h1
    obtain ⟨r,hr⟩:=borrowWL_app rd hl h2
    exact ⟨x1 || r,by rw [List.cons_append,borrowWL,hv,hr]; rfl⟩
   ·cases h1
  ·cases h1
theorem valT_norm {w:ValS} {ds:List DV} (h:ValT w ds):ValR w (ds.map norm)∧ds.length=4:=by
 rcases h with h | ⟨k,n,s,rfl,rfl,h1,h2⟩
 ·cases h with
  |sl k n s l b cs hl hcs hr=> exact ⟨.sl k n s l b cs hl hcs hr,rfl⟩
 ·exact ⟨.sl k n s [] false [] rfl (fun i hi=> absurd hi (by simp)) ⟨h1,h2⟩,rfl⟩
theorem VR.rd {P:Nat→Prop} {h:Heap}:∀{d m:Nat} {w:ValS} {cs:List AV},VR P h d w cs→d≤m+1→∃ds b,borrowWL (rdN h m) cs=some (ds,b)∧ValT w ds:=by
  intro d
  induction d with
  |zero=> intro m w cs x; exact x.elim
  |succ d ih=>
    intro m w cs x hd
    cases w with
    |mk k n s l=>
    obtain ⟨h1,h2,LA,rfl,hL⟩:=x
    rcases hL with ⟨rfl,rfl⟩ | ⟨b,ex,bcs,rfl,hp,hg,hl,hne,hi⟩
    · exact ⟨[.i .u8 k,.i .i64 n,.s s,.nsl],_,rfl,.inr ⟨k,n,s,rfl,rfl,h1,h2⟩⟩
    · have hd0:d≠0:=fun e=> by
        subst e
        cases l with
        |nil=> exact hne rfl
        |cons v l=> exact (hi 0 (by simp)).elim
      obtain ⟨m,rfl⟩:∃e,m=e+1:=⟨m - 1,by omega⟩
      have key:∀(l:List ValS) (bcs:List AV),bcs.length=l.length*4→(∀i (hi:i < l.length),VR P h d l[i] (chunkA bcs i))→∃ds b,borrowWL (rdN h m) bcs=some (ds,b)∧ds.length=l.length*4∧∀i (hi:i < l.length),ValR l[i] (chunk (ds.map norm) 4 i):=by
        intro l
        induction l with
        |nil=>
          intro bcs hl _
          obtain rfl:=List.eq_nil_of_length_eq_zero hl
          exact ⟨[],false,rfl,rfl,fun i hi=> absurd hi (by simp)⟩
        |cons v l ihl=>
          intro bcs hl hi
          have hb:bcs=bcs.take 4++bcs.drop 4:=(List.take_append_drop 4 bcs).symm
          simp only [List.length_cons] at hl
          have h0:=hi 0 (by simp)
          have hc0:chunkA bcs 0=bcs.take 4:=by unfold chunkA; rw [Nat.zero_mul,List.drop_zero]
          rw [hc0] at h0
          obtain ⟨ds1,b1,e1,t1⟩:=ih h0 (m:=m) (by omega)
          obtain ⟨ds2,b2,e2,l2,t2⟩ := ihl (bcs.drop 4) (by rw [List.length_drop]; omega) (fun i hi' => by
            have:=hi (i+1) (by simp; omega)
            have hcc:chunkA bcs (i+1)=chunkA (bcs.drop 4) i:=by unfold chunkA; rw [List.drop_drop,show 4+i*4=(i+1)*4 by omega]
            rw [hcc] at this
            exact this)
          obtain ⟨r,er⟩:=borrowWL_app _ e1 e2
          rw [←hb] at er
          obtain ⟨n1,n2⟩:=valT_norm t1
          refine ⟨ds1++ds2,r,er,by simp; omega,fun i hi'=> ?_⟩
          cases i with
          |zero=>
            have:chunk ((ds1++ds2).map norm) 4 0=ds1.map norm:=by
              unfold chunk
              rw [Nat.zero_mul,List.drop_zero,List.map_append,List.take_append_of_le_length (by simp [n2]),List.take_of_length_le (by simp [n2])]
            rw [this]; exact n1
          |succ i=>
            have:chunk ((ds1++ds2).map norm) 4 (i+1)=chunk (ds2.map norm) 4 i:=by
              unfold chunk
              rw [List.map_append,List.drop_append,List.drop_of_length_le (by simp [n2]; omega),List.nil_append,List.length_map,n2,show (i+1)*4 - 4=i*4 by omega]
            rw [this]
            exact t2 i (by simpa using hi')
      obtain ⟨ds,b',e,hdl,hv⟩:=key l bcs hl hi
      have r2:readN bcs 0 (l.length*4)=some bcs:=by have:=readN_all bcs; rwa [hl] at this
      have hrd:rdN h (m+1) b 0 (l.length*4)=some (ds.map norm):=by
        show rdBlk (rdN h m) h b 0 (l.length*4)=_
        unfold rdBlk
        simp only [hg,r2,e]
      refine ⟨[.i .u8 k,.i .i64 n,.s s,.sl true l.length (ds.map norm)],true,?_,.inl (.sl k n s l true (ds.map norm) (by simp [hdl]) hv ⟨h1,h2⟩)⟩
      simp only [borrowWL,borrowW,hrd,Bool.false_or,Bool.or_false]
theorem VR.borrow {P:Nat→Prop} {h:Heap} {w:ValS} {cs:List AV} (x:VR P h 6 w cs):∃ds b,borrow h (.agg cs)=some (.agg ds,b)∧ValT w ds:=by
 obtain ⟨ds,b,e,t⟩:=x.rd (m:=7) (by omega)
 refine ⟨ds,b,?_,t⟩
 show borrowW (rd3 h) (.agg cs)=_
 have:rd3 h=rdN h 7:=rfl
 rw [borrowW,this,e]
theorem VR.strip {P:Nat→Prop} {h:Heap} {w:ValS} {cs:List AV} (x:VR P h 6 w cs):∃ds b,stripArgs h [.agg cs]=some ([.agg ds],b)∧ValT w ds:=by
 obtain ⟨ds,b,e,t⟩:=x.borrow
 exact ⟨ds,b || false,strip_cons e strip_nil,t⟩
theorem VR.okV {P:Nat→Prop} {h:Heap}:∀{d:Nat} {w:ValS} {cs:List AV},VR P h d w cs→okV w:=by
 intro d
 induction d with
 |zero=> intro w cs x; exact x.elim
 |succ d ih=>
  intro w cs x
  cases w with
  |mk k n s l=>
  obtain ⟨h1,h2,LA,rfl,hL⟩:=x
  refine ⟨h1,h2,?_⟩
  rcases hL with ⟨rfl,rfl⟩ | ⟨b,ex,bcs,rfl,hp,hg,hl,hne,hi⟩
  ·exact trivial
  ·have:∀l:List ValS,(∀i (hi:i < l.length),Abs.okV l[i])→okVs l:=by
    intro l
    induction l with
    |nil=> intro _; exact trivial
    |cons v l ihl=> intro h; exact ⟨h 0 (by simp),ihl fun i hi=> h (i+1) (by simp; omega)⟩
   exact this l fun i hi'=> ih (hi i hi')
def valueF (s:List UInt8):Option ValS:=match readV 6 s with
 |some (w,_)=> if rightV w && strEq (showV w) s then some w else none
 |none=> none
structure FrA (h h':Heap):Prop where
 n:h.n≤h'.n
 o:∀i y,h.get i=some y→(∀g,y≠ .tok g 5)→h'.get i=some y
theorem FrA.refl (h:Heap):FrA h h:=⟨Nat.le_refl _,fun _ _ hy _=> hy⟩
theorem FrA.trans {h h1 h2:Heap} (a:FrA h h1) (b:FrA h1 h2):FrA h h2:=⟨Nat.le_trans a.n b.n,fun i y hy ht=> b.o i y (a.o i y hy ht) ht⟩
theorem FrA.push (h:Heap) (k:Blk):FrA h (h.push k):=⟨Nat.le_succ _,fun i y hy _=> push_of hy k⟩
theorem FrA.set {h h' : Heap} (x : FrA h h') {a : Nat} (ha : h.n ≤ a) (k : Blk) : FrA h (h'.set a k) := ⟨x.n,fun i y hy ht => by
 rw [Heap.get_set_ne (by have:=get_lt hy; omega)]; exact x.o i y hy ht⟩
theorem FrA.rd {h h1 h':Heap} {rb:Nat} (x:FrA h h1) (y:FrR rb h1 h') (hrb:h.n≤rb):FrA h h':=⟨Nat.le_trans x.n y.n,fun i z hz ht=> y.o i z (x.o i z hz ht) (by have:=get_lt hz; omega) ht⟩
def VlN (h:Heap) (s:List UInt8) (v:AV) (h':Heap):Prop:=FrA h h'∧match valueF s with
 |some w=> ∃cs,v= .tup [.agg cs,.d (.b true)]∧VR (h.n≤·) h' 6 w cs
 |none=> v= .tup [.agg zV,.d (.b false)]
def VlQ (h:Heap) (s:List UInt8) (tm2:List AV) (ex2:Ex) (tm3:List AV) (h3:Heap):Prop:=(ex2= .nrm∨ex2= .ret)∧(∃v2,Abs.results E h3 tm3 c_player_Value_1.results=some v2)∧∃v,Abs.results E h3 tm2 c_player_Value.results=some v∧VlN h s v h3
theorem VlQ.of {h h2 h3:Heap} {s:List UInt8} {tm2 tm3:List AV} {v:AV} (e:h3=h2) (hr:Abs.results E h2 tm2 c_player_Value.results=some v) (hN:VlN h s v h2):VlQ h s tm2 .nrm tm3 h3:=by
 subst e
 exact ⟨.inl rfl,⟨.tup [],by kernel_rfl⟩,v,hr,hN⟩
theorem resVal {h3:Heap} {tm2:List AV} {a b:Nat} {f1 f2:Bool} {e1 e2:TypeId} {cs:List AV} {x:AV} (t2:getL tm2 2= .ptr a 0) (t3:getL tm2 3= .ptr b 0) (ga:h3.get a=some (.cells f1 e1 cs)) (hl:cs.length=4) (gb:h3.get b=some (.cells f2 e2 [x])):
  Abs.results E h3 tm2 c_player_Value.results=some (.tup [.agg cs,x]):=by
 have r1:readN cs 0 4=some cs:=by have:=readN_all cs; rwa [hl] at this
 have hrs:c_player_Value.results=[.cell 2 true 4,.cell 3 false 1]:=by kernel_rfl
 generalize c_player_Value.results=rs at hrs
 subst hrs
 have h1:resV E h3 tm2 (.cell 2 true 4)=some (.agg cs):=by simp only [resV,t2,loadA,ga,r1,one]
 have h2:resV E h3 tm2 (.cell 3 false 1)=some x:=by
  simp only [resV,t3,loadA,gb]
  rfl
 show (match (match resV E h3 tm2 (.cell 2 true 4) with | some v=> (match (match resV E h3 tm2 (.cell 3 false 1) with | some v=> some [v] | none=> none) with | some l=> some (v::l) | none=> none) | none=> none) with | some [v]=> some v | some l=> some (.tup l) | none=> none)=_
 rw [h1,h2]
theorem vl_nrm {h h2:Heap} {s:List UInt8} {tm2:List AV} {a b:Nat} {v:AV} (hr:Abs.results E h2 tm2 c_player_Value.results=some v) (hN:VlN h s v h2):
  W E (VlQ h s tm2) (.run (tl c_player_Value_1.body 1) [] ⟨true,[]⟩ (setL (enterT c_player_Value_1.ntmps [.ptr a 0,.ptr b 0]) 5 ((none:Option AV).getD (.d .nili))) h2):=by
 refine W.brT (by kernel_rfl) ?_
 exact .done 0 (by kernel_rfl) (.of (by kernel_rfl) hr hN)
def vlH (h:Heap):Heap:=(h.push (.cells false t_Value zV)).push (.cells false 4 [.d (.b false)])
theorem vl_pan {h h2:Heap} {s:List UInt8} {tm2:List AV} {rb:Nat} (hv:readV 6 s=none) (t2:getL tm2 2= .ptr h.n 0) (t3:getL tm2 3= .ptr (h.n+1) 0) (hf:FrR rb (vlH h) h2) (hrb:h.n+2≤rb):
  W E (VlQ h s tm2) (.run (tl c_player_Value_1.body 1) [] ⟨true,[]⟩ (setL (enterT c_player_Value_1.ntmps [.ptr h.n 0,.ptr (h.n+1) 0]) 5 ((some brk:Option AV).getD (.d .nili))) h2):=by
 have ga:h2.get h.n=some (.cells false t_Value zV):=hf.o _ _ (push_of (push_n h _) _) (by omega) (fun _ e=> nomatch e)
 have gb:h2.get (h.n+1)=some (.cells false 4 [.d (.b false)]):=hf.o _ _ (push_n (h.push _) _) (by omega) (fun _ e=> nomatch e)
 have gn:h.n+2≤h2.n:=hf.n
 refine W.brF (by kernel_rfl) ?_
 refine W.brT (by kernel_rfl) ?_
 have g1:=push_n h2 (.cells false t_player_broken [])
 refine .op (store_ptr (n:=0) (off:=0) (x:= .agg []) g1 rfl) (by kernel_rfl) ?_
 have ga2:((h2.push (.cells false t_player_broken [])).set h2.n (.cells false t_player_broken [])).get h.n=some (.cells false t_Value zV):=(Heap.get_set_ne (by omega)).trans (push_of ga _)
 have gb2:((h2.push (.cells false t_player_broken [])).set h2.n (.cells false t_player_broken [])).get (h.n+1)=some (.cells false 4 [.d (.b false)]):=(Heap.get_set_ne (by omega)).trans (push_of gb _)
 refine .op (store_ptr (n:=4) (off:=0) (x:= .agg zV) ga2 rfl) (by kernel_rfl) ?_
 have gb3:=(Heap.get_set_ne (b':= .cells false t_Value zV) (show h.n≠h.n+1 by omega)).trans gb2
 refine .op (store_ptr (n:=1) (off:=0) (x:= .d (.b false)) gb3 rfl) (by kernel_rfl) ?_
 have ga3:=Heap.get_set_self (b':= .cells false t_Value zV) ga2
 have ga4:=(Heap.get_set_ne (b':= .cells false 4 [.d (.b false)]) (show h.n+1≠h.n by omega)).trans ga3
 have gb4:=Heap.get_set_self (b':= .cells false 4 [.d (.b false)]) gb3
 have hF:FrA h (vlH h):=(FrA.push h _).trans (.push _ _)
 have hF2:=(((hF.rd hf (by omega)).trans (.push h2 (.cells false t_player_broken []))).set (a:=h2.n) (by omega) (.cells false t_player_broken []))
 have hF3:=(hF2.set (a:=h.n) (Nat.le_refl _) (.cells false t_Value zV)).set (a:=h.n+1) (by omega) (.cells false 4 [.d (.b false)])
 refine .done 0 (by kernel_rfl) (.of (h2:=_) (by kernel_rfl) (resVal t2 t3 ga4 rfl gb4) ⟨hF3,?_⟩)
 rw [show valueF s=none by unfold valueF; rw [hv]]
end
end Go.Proofs.YtgjhldabffjiaaaGreatDoor
namespace Go.Proofs.YtgjhldabffjiaaaGreatDoor
open Go Go.Abs
set_option maxRecDepth 100000
set_option maxHeartbeats 0
noncomputable section
theorem NV {h:Heap} {args:List AV} {bor:Bool} {w:ValS} {ds:List DV} (t:ValT w ds) (ha:stripArgs h args=some ([.agg ds],bor)):Cal E vX args h (.nrm,.d (.b (rightV w)),h):=by
 rcases t with t | ⟨k,n,s,rfl,rfl,_⟩
 ·exact Dw t ha
 ·exact GN ha
theorem NW {h:Heap} {args:List AV} {bor:Bool} {w:ValS} {ds:List DV} (t:ValT w ds) (hr:rightV w=true) (ha:stripArgs h args=some ([.agg ds],bor)):Cal E wZ args h (.nrm,.d (.s (showV w)),h):=by
 obtain ⟨h1,h2,_⟩:=yZ hr
 rcases t with t | ⟨k,n,s,rfl,rfl,_,hn⟩
 ·exact Qv t h2 (by omega) ha
 ·exact NA hn (by omega) ha
def VE (h:Heap) (s:List UInt8):List AV:=setL (setL (enterT 20 [.d (.s s)]) 2 (.ptr h.n 0)) 3 (.ptr (h.n+1) 0)
def abL (h:Heap) (s:List UInt8):List AV:=setL (VE h s) 4 (.fn (.func tX) [] [.ptr h.n 0,.ptr (h.n+1) 0])
def VlD (h:Heap) (s:List UInt8) (ex:Ex) (tm2:List AV) (h2:Heap):Prop:=∃p:Option AV,((ex= .nrm∨ex= .ret)∧p=none∨∃v,ex= .pan v∧p=some v)∧K8 ex tm2=false∧
 W E (VlQ h s tm2) (.run (tl c_player_Value_1.body 1) [] ⟨true,[]⟩ (setL (enterT c_player_Value_1.ntmps [.ptr h.n 0,.ptr (h.n+1) 0]) 5 (p.getD (.d .nili))) h2)
theorem GQ {h hp:Heap} {s:List UInt8} {c:Cfg} {f1 f2:Bool} {e1 e2:TypeId} {cs:List AV} {x:AV} (he:(adO E c).p (adv E c).ex=(adO E c).q (some 1)) (hh:(adv E c).hp=hp) (t2:getL (adv E c).tm 2= .ptr h.n 0) (t3:getL (adv E c).tm 3= .ptr (h.n+1) 0)
  (ga:hp.get h.n=some (.cells f1 e1 cs)) (hl:cs.length=4) (gb:hp.get (h.n+1)=some (.cells f2 e2 [x])) (hN:VlN h s (.tup [.agg cs,x]) hp):W E (VlD h s) c:=by
 subst hh
 exact .done 1 he ⟨none,.inl ⟨.inr rfl,rfl⟩,rfl,vl_nrm (resVal t2 t3 ga hl gb) hN⟩
theorem NY {h:Heap} {s:List UInt8} (hl:s.length≤1000000000000):∃v h',Cal E vg [.d (.s s)] h (.nrm,v,h')∧VlN h s v h':=by
 refine Cal.defer (f:=vg) (g:=tX) (dst:=5) (fn:=c_player_Value) (gn:=c_player_Value_1) (A:=c_player_Value.body.fst) (B:=(tl c_player_Value.body 1).fst) (R:=tl c_player_Value.body 2) (S:=tl c_player_Value_1.body 1) (l:=[.ptr h.n 0,.ptr (h.n+1) 0]) (gf:= .fn (.func tX) [] [.ptr h.n 0,.ptr (h.n+1) 0])
  (h0:=vlH h) (h1:=vlH h) (tm0:=VE h s) (tm1:=abL h s) (N:=VlN h s) Ep (.inl (by kernel_rfl)) (by kernel_rfl) (by kernel_rfl) (by kernel_rfl) (by kernel_rfl) CY (by kernel_rfl) (?_:W E (VlD h s) _)
 have hF:FrA h (vlH h):=(FrA.push h _).trans (.push _ _)
 have hr:RD ((vlH h).push (.cells false t_player_reader [.d (.s s)])) (h.n+2) s:=push_n (vlH h) _
 rcases NU 6 (by omega) (h.n+2) _ s hr hl with ⟨v,h2,hc,w,r,hw,hr2,hf,cs,rfl,hvr⟩ | ⟨x,h2,hc,hw,rfl,hf⟩
 rotate_left
 ·exact .Su hc (by kernel_rfl) ⟨some brk,.inr ⟨brk,rfl,rfl⟩,by kernel_rfl,vl_pan hw (by kernel_rfl) (by kernel_rfl) ((FrR.push _ (vlH h) _).trans hf) (Nat.le_refl _)⟩
 have hvF:valueF s=if rightV w && strEq (showV w) s then some w else none:=by unfold valueF; rw [hw]
 obtain ⟨k',n',s',LA,rfl,hLA⟩:=hvr.lit
 have hf:=(FrR.push (h.n+2) (vlH h) _).trans hf
 have ga:h2.get h.n=some (.cells false t_Value zV):=hf.o _ _ (push_of (push_n h _) _) (by omega) (fun _ e=> nomatch e)
 have gb:h2.get (h.n+1)=some (.cells false 4 [.d (.b false)]):=hf.o _ _ (push_n (h.push _) _) (by omega) (fun _ e=> nomatch e)
 have gn:h.n+2≤h2.n:=hf.n
 have hF2:FrA h h2:=hF.rd hf (by omega)
 refine .call hc (by kernel_rfl) ?_
 have ok1:(Nat.beq (cellsOf (.agg (vB k' n' s' LA))).length 4 && Nat.ble (0+4) zV.length && !((cellsOf (.agg (vB k' n' s' LA))).any Abs.isAgg))=true:=by rcases hLA with rfl | ⟨_,_,_,rfl⟩ <;> rfl
 have ok2:(Nat.beq (cellsOf (.agg (vB k' n' s' LA))).length 4 && Nat.ble (0+4) (vB k' n' s' LA).length && !((cellsOf (.agg (vB k' n' s' LA))).any Abs.isAgg))=true:=by rcases hLA with rfl | ⟨_,_,_,rfl⟩ <;> rfl
 refine .op (store_ptr (n:=4) (off:=0) (x:= .agg (vB k' n' s' LA)) ga ok1) (by kernel_rfl) ?_
 have ga1:(h2.set h.n (.cells false t_Value (vB k' n' s' LA))).get h.n=some (.cells false t_Value (vB k' n' s' LA)):=Heap.get_set_self ga
 have gb1:(h2.set h.n (.cells false t_Value (vB k' n' s' LA))).get (h.n+1)=some (.cells false 4 [.d (.b false)]):=(Heap.get_set_ne (by omega)).trans gb
 have hF3:FrA h (h2.set h.n (.cells false t_Value (vB k' n' s' LA))):=hF2.set (Nat.le_refl _) _
 have hv1:VR (h.n+3≤·) (h2.set h.n (.cells false t_Value (vB k' n' s' LA))) 6 w (vB k' n' s' LA):=hvr.mono fun j y hj hy=> ⟨hj,(Heap.get_set_ne (by have:h.n+3≤j:=hj; omega)).trans hy⟩
 obtain ⟨ds,bor,ha,ht⟩:=hv1.strip
 have zero:∀{G:Heap},valueF s=none→FrA h G→VlN h s (.tup [.agg zV,.d (.b false)]) G:=fun e hG=> ⟨hG,by rw [e]⟩
 have gaz:((h2.set h.n (.cells false t_Value (vB k' n' s' LA))).set h.n (.cells false t_Value zV)).get h.n=some (.cells false t_Value zV):=Heap.get_set_self ga1
 have gbz:((h2.set h.n (.cells false t_Value (vB k' n' s' LA))).set h.n (.cells false t_Value zV)).get (h.n+1)=some (.cells false 4 [.d (.b false)]):=(Heap.get_set_ne (by omega)).trans gb1
 have gay:(((h2.set h.n (.cells false t_Value (vB k' n' s' LA))).set h.n (.cells false t_Value zV)).set (h.n+1) (.cells false 4 [.d (.b false)])).get h.n=some (.cells false t_Value zV):=(Heap.get_set_ne (by omega)).trans gaz
 have gby:(((h2.set h.n (.cells false t_Value (vB k' n' s' LA))).set h.n (.cells false t_Value zV)).set (h.n+1) (.cells false 4 [.d (.b false)])).get (h.n+1)=some (.cells false 4 [.d (.b false)]):=Heap.get_set_self gbz
 have hFz:FrA h (((h2.set h.n (.cells false t_Value (vB k' n' s' LA))).set h.n (.cells false t_Value zV)).set (h.n+1) (.cells false 4 [.d (.b false)])):=(hF3.set (Nat.le_refl _) _).set (by omega) _
 refine .op (iR E (ag:=true) (n:=4) (off:=0) ga1 rfl rfl) (by kernel_rfl) ?_
 refine .call (NV ht ha) (by kernel_rfl) ?_
 refine .br (!(rightV w)) (by kernel_rfl) (fun e=> ?_) (fun e=> ?_)
 ·have e:rightV w=false:=by simpa using e
  refine .op (store_ptr (n:=4) (off:=0) (x:= .agg zV) ga1 rfl) (by kernel_rfl) ?_
  refine .op (store_ptr (n:=1) (off:=0) (x:= .d (.b false)) gbz rfl) (by kernel_rfl) ?_
  exact GQ (by kernel_rfl) (by kernel_rfl) (by kernel_rfl) (by kernel_rfl) gay rfl gby (zero (by rw [hvF,e]; rfl) hFz)
 have e:rightV w=true:=by simpa using e
 refine .op (iR E (ag:=true) (n:=4) (off:=0) ga1 rfl rfl) (by kernel_rfl) ?_
 refine .call (NW ht e ha) (by kernel_rfl) ?_
 refine .br (!(strEq (showV w) s)) (by kernel_rfl) (fun e2=> ?_) (fun e2=> ?_)
 ·have e2:strEq (showV w) s=false:=by simpa using e2
  refine .op (store_ptr (n:=4) (off:=0) (x:= .agg zV) ga1 rfl) (by kernel_rfl) ?_
  refine .op (store_ptr (n:=1) (off:=0) (x:= .d (.b false)) gbz rfl) (by kernel_rfl) ?_
  exact GQ (by kernel_rfl) (by kernel_rfl) (by kernel_rfl) (by kernel_rfl) gay rfl gby (zero (by rw [hvF,e,e2]; rfl) hFz)
 have e2:strEq (showV w) s=true:=by simpa using e2
 refine .op (iR E (ag:=true) (n:=4) (off:=0) ga1 rfl rfl) (by kernel_rfl) ?_
 refine .op (store_ptr (n:=4) (off:=0) (x:= .agg (vB k' n' s' LA)) ga1 ok2) (by kernel_rfl) ?_
 have ga4:((h2.set h.n (.cells false t_Value (vB k' n' s' LA))).set h.n (.cells false t_Value (vB k' n' s' LA))).get h.n=some (.cells false t_Value (vB k' n' s' LA)):=Heap.get_set_self ga1
 have gb4:((h2.set h.n (.cells false t_Value (vB k' n' s' LA))).set h.n (.cells false t_Value (vB k' n' s' LA))).get (h.n+1)=some (.cells false 4 [.d (.b false)]):=(Heap.get_set_ne (by omega)).trans gb1
 refine .op (store_ptr (n:=1) (off:=0) (x:= .d (.b true)) gb4 rfl) (by kernel_rfl) ?_
 have ga5:(((h2.set h.n (.cells false t_Value (vB k' n' s' LA))).set h.n (.cells false t_Value (vB k' n' s' LA))).set (h.n+1) (.cells false 4 [.d (.b true)])).get h.n=some (.cells false t_Value (vB k' n' s' LA)):=(Heap.get_set_ne (by omega)).trans ga4
 have gb5:(((h2.set h.n (.cells false t_Value (vB k' n' s' LA))).set h.n (.cells false t_Value (vB k' n' s' LA))).set (h.n+1) (.cells false 4 [.d (.b true)])).get (h.n+1)=some (.cells false 4 [.d (.b true)]):=Heap.get_set_self gb4
 refine GQ (by kernel_rfl) (by kernel_rfl) (by kernel_rfl) (by kernel_rfl) ga5 rfl gb5 ⟨(hF3.set (Nat.le_refl _) _).set (by omega) _,?_⟩
 rw [hvF,e,e2]
 exact ⟨_,rfl,hv1.mono fun j y hj hy=> ⟨by have:h.n+3≤j:=hj; omega,(Heap.get_set_ne (by have:h.n+3≤j:=hj; omega)).trans ((Heap.get_set_ne (by have:h.n+3≤j:=hj; omega)).trans hy)⟩⟩
end
end Go.Proofs.YtgjhldabffjiaaaGreatDoor
