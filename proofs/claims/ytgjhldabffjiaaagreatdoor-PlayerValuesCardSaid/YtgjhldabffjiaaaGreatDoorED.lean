/- Contracts: player.reader.list, value. -/
import Derived.Test.YtgjhldabffjiaaaGreatDoorEB
namespace Go.Proofs.YtgjhldabffjiaaaGreatDoor
open Go Go.Abs
set_option maxRecDepth 100000
set_option maxHeartbeats 0
noncomputable section
def chunkA (cs:List AV) (i:Nat):List AV:=(cs.drop (i*4)).take 4
def VR (P:Nat→Prop) (h:Heap):Nat→ValS→List AV→Prop
 |0,_,_=> False
 | d + 1,.mk k n s l,cs => R8 k ∧ R64 n ∧ ∃ LA,cs = [.d (.i .u8 k),.d (.i .i64 n),.d (.s s),LA] ∧ ((l = [] ∧ LA = .nilsl) ∨
   ∃b ex bcs,LA= .sref b 0 4 l.length l.length ex∧P b∧h.get b=some (.cells false t_Value bcs)∧bcs.length=l.length*4∧l≠[]∧∀i (hi:i < l.length),VR P h d l[i] (chunkA bcs i))
theorem VR.mono {P Q:Nat→Prop} {h h':Heap} (k:∀b y,P b→h.get b=some (.cells false t_Value y)→Q b∧h'.get b=some (.cells false t_Value y)):∀{d:Nat} {v:ValS} {cs:List AV},VR P h d v cs→VR Q h' d v cs:=by
 intro d
 induction d with
 |zero=> intro v cs x; exact x
 |succ d ih=>
  intro v cs x
  cases v with
  |mk kk n s l=>
  obtain ⟨h1,h2,LA,e,hL⟩:=x
  refine ⟨h1,h2,LA,e,?_⟩
  rcases hL with hL | ⟨b,ex,bcs,e1,hp,hg,hl,hne,hi⟩
  ·exact .inl hL
  ·exact .inr ⟨b,ex,bcs,e1,(k b bcs hp hg).1,(k b bcs hp hg).2,hl,hne,fun i hi'=> ih (hi i hi')⟩
theorem VR.lit {P:Nat→Prop} {h:Heap} {d:Nat} {v:ValS} {cs:List AV} (x:VR P h d v cs):∃k n s LA,cs=[.d (.i .u8 k),.d (.i .i64 n),.d (.s s),LA]∧(LA= .nilsl∨∃b m ex,LA= .sref b 0 4 m m ex):=by
 cases d with
 |zero=> exact x.elim
 |succ d=>
 cases v with
 |mk k n s l=>
 obtain ⟨_,_,LA,e,hL⟩:=x
 refine ⟨k,n,s,LA,e,?_⟩
 rcases hL with ⟨_,e⟩ | ⟨b,ex,_,e,_⟩
 ·exact .inl e
 ·exact .inr ⟨b,_,ex,e⟩
def AccR (N:Nat) (d:Nat) (l:List ValS) (b:Nat) (h:Heap):Prop:=∃bcs,N≤b∧h.get b=some (.cells false t_Value bcs)∧bcs.length=l.length*4∧l≠[]∧∀i (hi:i < l.length),VR (fun j=> N≤j∧j≠b) h d l[i] (chunkA bcs i)
theorem app_v {h:Heap} {b q n:Nat} {ex:Bool} {bcs cs:List AV} (hb:h.get b=some (.cells false t_Value bcs)) (hbl:bcs.length=n*4) (hq:h.get q=some (.cells false t_Value cs)) (hcl:cs.length=4) (ho:okCells cs=true) (hn:(n+1)*56≤70368744177664):
  ∃h',s_app h [] t_Value 4 56 false (.c (.sref b 0 4 n n ex)) (.c (.sref q 0 4 1 1 true))= .val (.sref h.n 0 4 (n+1) (n+1) false) h'∧h'.get h.n=some (.cells false t_Value (bcs++cs))∧h.n≤h'.n∧∀i y,i≠b→h.get i=some y→h'.get i=some y:=by
 have r1:readN cs 0 (1*4)=some cs:=by have:=readN_all cs; rwa [hcl] at this
 have r2:readN bcs 0 (n*4)=some bcs:=by have:=readN_all bcs; rwa [hbl] at this
 have hs:srcView h 4 (.sref q 0 4 1 1 true)=some (1,cs):=by
  show slView h 4 (.sref q 0 4 1 1 true)=_
  unfold slView
  simp only [hq,r1]
 have hc:(Nat.ble ((n+1)*56) 70368744177664 && Nat.ble (n+1) 70368744177664 && okCells cs)=true:=by
  simp only [Bool.and_eq_true,Nat.ble_eq]; exact ⟨⟨hn,by omega⟩,ho⟩
 have hbl2:Nat.ble (n+1) n=false:=by rw [←Bool.not_eq_true,Nat.ble_eq]; omega
 have hd:s_app h [] t_Value 4 56 false (.c (.sref b 0 4 n n ex)) (.c (.sref q 0 4 1 1 true))=oh (appA h t_Value 4 false (.sref b 0 4 n n ex) 1 cs):=by
  unfold s_app
  simp only [X.ev,hs,lenOf,hc]
 rw [hd]
 cases ex with
 |true=>
  refine ⟨h.push (.cells false t_Value (bcs++cs)),?_,push_n h _,Nat.le_succ _,fun i y _ hy=> push_of hy _⟩
  simp only [appA,hb,r2,hbl2,show Nat.beq t_Value t_Value=true from rfl,show Nat.beq 4 4=true from rfl,Bool.and_self,oh]
 |false=>
  refine ⟨(h.set b .dead).push (.cells false t_Value (bcs++cs)),?_,push_n (h.set b .dead) _,Nat.le_succ _,fun i y hi hy=> push_of ((Heap.get_set_ne (Ne.symm hi)).trans hy) _⟩
  simp only [appA,hb,r2,hbl2,show Nat.beq t_Value t_Value=true from rfl,show Nat.beq 4 4=true from rfl,show Nat.beq 0 0=true from rfl,Bool.and_self,Bool.not_true,Bool.or_self,oh]
def VaN (rb:Nat) (h:Heap) (d:Nat) (s:List UInt8) (v:AV) (h':Heap):Prop:=∃w r,readV d s=some (w,r)∧RD h' rb r∧FrR rb h h'∧∃cs,v= .agg cs∧VR (h.n≤·) h' d w cs
def VaP (rb:Nat) (h:Heap) (d:Nat) (s:List UInt8) (x:AV) (h':Heap):Prop:=readV d s=none∧x=brk∧FrR rb h h'
def ValAt (d:Nat):Prop:=∀(rb:Nat) (h:Heap) (s:List UInt8),RD h rb s→s.length≤1000000000000→
 (∃v h',Cal E f_player_reader_value [.ptr rb 0,.d (.i .i64 (.ofNat d))] h (.nrm,v,h')∧VaN rb h d s v h')∨∃x h',Cal E f_player_reader_value [.ptr rb 0,.d (.i .i64 (.ofNat d))] h (.pan x,.und,h')∧VaP rb h d s x h'
def LiN (rb:Nat) (h:Heap) (d:Nat) (s:List UInt8) (v:AV) (h':Heap):Prop:=∃l r,readL (readV d) s=some (l,r)∧RD h' rb r∧FrR rb h h'∧((l=[]∧v= .nilsl)∨∃b ex,v= .sref b 0 4 l.length l.length ex∧AccR h.n d l b h')
def LiP (rb:Nat) (h:Heap) (d:Nat) (s:List UInt8) (x:AV) (h':Heap):Prop:=readL (readV d) s=none∧x=brk∧FrR rb h h'
structure LiH (rb:Nat) (h:Heap) (d:Nat) (r:List UInt8) (acc:List ValS) (b:Nat) (g:Heap):Prop where
 r:RD g rb r
 f:FrR rb h g
 a:AccR h.n d acc b g
theorem LiH.at {rb:Nat} {h:Heap} {d:Nat} {r:List UInt8} {acc:List ValS} {b:Nat} {g g2:Heap} (e:g=g2) (x:LiH rb h d r acc b g2):LiH rb h d r acc b g:=e▸x
theorem AccR.at {N d b:Nat} {l:List ValS} {g g2:Heap} (e:g=g2) (x:AccR N d l b g2):AccR N d l b g:=e▸x
def liI (rb:Nat) (h:Heap) (d:Nat) (s:List UInt8) (n:Nat) (tm:List AV) (g:Heap):Prop:=∃r acc b ex,r.length≤n∧acc.length+r.length≤s.length+1∧readL (readV d) s=readM (readV d) n r acc∧LiH rb h d r acc b g∧
 St 32 [(0,.ptr rb 0),(1,.d (.i .i64 (.ofNat d))),(5,.sref b 0 4 acc.length acc.length ex)] tm
theorem outC {E:Env} {Q:Ex→List AV→Heap→Prop} {c:Cfg} (m:Bool) {f:FuncId} {args:List AV} {h1:Heap} {x v:AV} {h':Heap} {I:Nat→List AV→Heap→Prop} {n:Nat} {ks:List KF} (hc:Cal E f args h1 (.pan x,v,h')) (he:(adO E c).p (adv E c).callP=(adO E c).q (some (f,args,h1))) (w:∀tm,W E Q (.fin (.pan x) ks ⟨m,[]⟩ tm h')):W E (Round I n (wK E Q ks)) c:=
 .callP hc he fun tm=> (by have:=W.fin m (w tm); exact this)
theorem RD.ne {h:Heap} {rb b:Nat} {s:List UInt8} {y:List AV} (hr:RD h rb s) (hb:h.get b=some (.cells false t_Value y)):b≠rb:=fun e=> by
 subst e
 rw [hr] at hb
 injection hb with hb
 injection hb with _ e2 _
 exact absurd e2 (by decide)
theorem chunkA_l {a b:List AV} {n i:Nat} (ha:a.length=n*4) (hi:i < n):chunkA (a++b) i=chunkA a i:=by
 unfold chunkA
 rw [List.drop_append_of_le_length (by omega),List.take_append_of_le_length (by rw [List.length_drop]; omega)]
theorem chunkA_r {a b:List AV} {n:Nat} (ha:a.length=n*4) (hb:b.length=4):chunkA (a++b) n=b:=by
 unfold chunkA
 rw [List.drop_append,List.drop_of_length_le (by omega),show n*4 - a.length=0 by omega,List.drop_zero,List.nil_append,List.take_of_length_le (by omega)]
theorem li_loop {d:Nat} (hv:ValAt d) {rb:Nat} {h g0:Heap} {s:List UInt8} {n0:Nat} {tm0:List AV} (hl:s.length≤1000000000000) (hI:liI rb h d s n0 tm0 g0):
  W E (OutP E c_player_reader_list.results (LiN rb h d s) (LiP rb h d s)) (.run (tl c_player_reader_list.body 3) [] ⟨true,[]⟩ tm0 g0):=by
 obtain ⟨r0,acc0,b0,ex0,z1,z2,z3,z4,g0',rfl⟩:=hI
 refine .loop true (liI rb h d s) n0 (by kernel_rfl) ⟨r0,acc0,b0,ex0,z1,z2,z3,.at (by kernel_rfl) z4,.of (by kernel_rfl) ⟨by kernel_rfl,by kernel_rfl,by kernel_rfl,trivial⟩⟩ ?_
 rintro n tm g ⟨r,acc,b,ex,hrn,hal,hrd,⟨hr,hf,bcs,hb,hgb,hbl,hne,hel⟩,g',rfl⟩
 cases r with
 |nil=>
  refine outC true (take_nil hr) (by kernel_rfl) fun tm=> .panN (x:=brk) (by kernel_rfl) ⟨?_,rfl,.at (by kernel_rfl) hf⟩
  rw [hrd]; cases n <;> rfl
 |cons c r=>
 obtain ⟨n,rfl⟩:∃k,n=k+1:=⟨n - 1,by simp at hrn; omega⟩
 refine .call (take_cons hr) (by kernel_rfl) ?_
 have hbr:b≠rb:=hr.ne hgb
 have hf1:=hf.trans (.set rb g (.cells false t_player_reader [.d (.s r)]))
 have hr1:=hr.set r
 refine .br (iEq (.ofNat c.toNat) 93) (by kernel_rfl) (fun e=> ?_) (fun e93=> ?_)
 ·have hc:c=93:=UInt8.toNat_inj.1 (by rw [iEq_iff] at e; have:(c.toNat:Int)=93:=e; show c.toNat=93; omega)
  subst hc
  refine .out true 0 (by kernel_rfl) (.retN (v:= .sref b 0 4 acc.length acc.length ex) (by kernel_rfl) ⟨acc,r,by rw [hrd,readM,if_pos rfl],.at (by kernel_rfl) hr1,.at (by kernel_rfl) hf1,.inr ⟨b,ex,rfl,.at (g2:=g.set rb (.cells false t_player_reader [.d (.s r)])) (by kernel_rfl) ?_⟩⟩)
  refine ⟨bcs,hb,(Heap.get_set_ne (Ne.symm hbr)).trans hgb,hbl,hne,fun i hi=> (hel i hi).mono fun j y hj hy=> ⟨hj,(Heap.get_set_ne (Ne.symm (hr.ne hy))).trans hy⟩⟩
 have hc93:c≠93:=fun e=> by rw [e] at e93; cases e93
 refine .br (iEq (.ofNat c.toNat) 44) (by kernel_rfl) (fun e=> ?_) (fun e44=> ?_)
 rotate_left
 ·have hc44:c≠44:=fun e=> by rw [e] at e44; cases e44
  refine outP true (x:=brk) (by kernel_rfl) (.panN (x:=brk) (by kernel_rfl) ⟨?_,rfl,.at (by kernel_rfl) hf1⟩)
  rw [hrd,readM,if_neg hc93,if_neg hc44]
 have hc:c=44:=UInt8.toNat_inj.1 (by rw [iEq_iff] at e; have:(c.toNat:Int)=44:=e; show c.toNat=44; omega)
 subst hc
 simp only [List.length_cons] at hrn hal
 rcases hv rb _ r hr1 (by omega) with ⟨v,h2,hc,w,r2,hw,hr2,hf2,cs,rfl,hvr⟩ | ⟨x,h2,hc,hw,rfl,hf2⟩
 rotate_left
 ·refine outC true hc (by kernel_rfl) fun tm=> .panN (x:=brk) (by kernel_rfl) ⟨?_,rfl,.at (by kernel_rfl) (hf1.trans hf2)⟩
  rw [hrd,readM,if_neg (by decide),if_pos rfl,hw]
 have hlen:=readV_len _ _ _ _ hw
 obtain ⟨k',n',s',LA,rfl,hLA⟩:=hvr.lit
 have gb2:h2.get b=some (.cells false t_Value bcs):=hf2.o b _ ((Heap.get_set_ne (Ne.symm hbr)).trans hgb) hbr (fun _ e=> nomatch e)
 have ho:okCells [.d (.i .u8 k'),.d (.i .i64 n'),.d (.s s'),LA]=true:=by rcases hLA with rfl | ⟨_,_,_,rfl⟩ <;> rfl
 obtain ⟨h4,he,hg4,hn4,hk4⟩:=app_v (h:=h2.push (.cells false t_Value [.d (.i .u8 k'),.d (.i .i64 n'),.d (.s s'),LA])) (ex:=ex) (n:=acc.length) (push_of gb2 _) hbl (push_n h2 _) rfl ho (by omega)
 have hgn:h.n≤g.n:=hf.n
 have hbg:b < g.n:=get_lt hgb
 have hg2n:g.n≤h2.n:=hf2.n
 have fin:LiH rb h d r2 (acc++ [w]) (h2.n+1) h4:=by
  refine ⟨hk4 rb _ (Ne.symm hbr) (push_of hr2 _),⟨Nat.le_trans (hf1.trans hf2).n (Nat.le_trans (Nat.le_succ _) hn4),fun i y hy hi ht=> hk4 i y (by have:=get_lt hy; omega) (push_of ((hf1.trans hf2).o i y hy hi ht) _)⟩,bcs++ [.d (.i .u8 k'),.d (.i .i64 n'),.d (.s s'),LA],by omega,hg4,by simp; omega,by simp,fun i hi=> ?_⟩
  ·have keep:∀j y,h.n≤j→j≠b→h2.get j=some (.cells false t_Value y)→(h.n≤j∧j≠h2.n+1)∧h4.get j=some (.cells false t_Value y):=fun j y hj hjb hy=> by
    have:=get_lt hy
    exact ⟨⟨hj,by omega⟩,hk4 j _ hjb (push_of hy _)⟩
   by_cases hia:i < acc.length
   ·rw [chunkA_l hbl hia,List.getElem_append_left hia]
    refine (hel i hia).mono fun j y hj hy=> keep j y hj.1 hj.2 ?_
    have hjr:=hr.ne hy
    exact hf2.o j _ ((Heap.get_set_ne (Ne.symm hjr)).trans hy) hjr (fun _ e=> nomatch e)
   ·have hi':i=acc.length:=by simp at hi; omega
    subst hi'
    rw [chunkA_r hbl rfl]
    have hw2:(acc++ [w])[acc.length]=w:=by simp
    rw [hw2]
    exact hvr.mono fun j y hj hy=> keep j y (Nat.le_trans hgn hj) (by have:g.n≤j:=hj; omega) hy
 rcases hLA with rfl | ⟨b2,m2,ex2,rfl⟩
 all_goals
  refine .call hc (by kernel_rfl) ?_
  refine .op he (by kernel_rfl) ?_
  refine .next n (by kernel_rfl) (by omega) ⟨r2,acc++ [w],h2.n+1,false,by omega,by simp; omega,by rw [hrd,readM,if_neg (by decide),if_pos rfl,hw],.at (by kernel_rfl) fin,.of (by kernel_rfl) ⟨by kernel_rfl,by kernel_rfl,?_,trivial⟩⟩
  exact Eq.trans (b:= .sref (h2.n+1) 0 4 (acc.length+1) (acc.length+1) false) (by kernel_rfl) (by simp)
end
end Go.Proofs.YtgjhldabffjiaaaGreatDoor
namespace Go.Proofs.YtgjhldabffjiaaaGreatDoor
open Go Go.Abs
set_option maxRecDepth 100000
set_option maxHeartbeats 0
noncomputable section
theorem GL {s:List UInt8} {c:UInt8} (e:(s.head? ==some c)=true):∃r,s=c::r:=by
 cases s with
 |nil=> cases e
 |cons b r=> simp at e; exact ⟨r,by rw [e]⟩
theorem GM {s:List UInt8} {c:UInt8} (e:(s.head? ==some c)=false):s.head? ≠some c:=by simpa using e
theorem LiH.first {d:Nat} {rb:Nat} {h h1:Heap} {r:List UInt8} {w:ValS} {cs:List AV} (hr:RD h1 rb r) (hf:FrR rb h h1) (hvr:VR (h.n≤·) h1 d w cs) (hl:cs.length=4):LiH rb h d r [w] h1.n (h1.push (.cells false t_Value cs)):=by
 refine ⟨push_of hr _,hf.trans (.push _ _ _),cs,hf.n,push_n h1 _,hl,by simp,fun i hi=> ?_⟩
 have:i=0:=by simp at hi; omega
 subst this
 have:chunkA cs 0=cs:=by unfold chunkA; rw [Nat.zero_mul,List.drop_zero,List.take_of_length_le (by omega)]
 rw [this]
 exact hvr.mono fun j y hj hy=> ⟨⟨hj,by have:=get_lt hy; omega⟩,push_of hy _⟩
theorem QJ {d:Nat} (hv:ValAt d) {rb:Nat} {h:Heap} {s:List UInt8} (hr:RD h rb s) (hl:s.length≤1000000000000):
  (∃v h',Cal E sN [.ptr rb 0,.d (.i .i64 (.ofNat d))] h (.nrm,v,h')∧LiN rb h d s v h')∨∃x h',Cal E sN [.ptr rb 0,.d (.i .i64 (.ofNat d))] h (.pan x,.und,h')∧LiP rb h d s x h':=by
 refine Cal.wo Ap (.inr rfl) ?_
 refine .op (u_ (E:=E) hr) (by kernel_rfl) ?_
 refine .oU (GG 93 (s:=s) (by omega)) (by kernel_rfl) ?_
 refine .br (s.head? ==some 93) (by kernel_rfl) (fun e=> ?_) (fun e=> ?_)
 ·obtain ⟨r,rfl⟩:=GL e
  refine .call (take_cons hr) (by kernel_rfl) ?_
  exact .retN (v:= .nilsl) (by kernel_rfl) ⟨[],r,by rw [readL,if_pos List.head?_cons]; rfl,.at (by kernel_rfl) (hr.set r),.at (by kernel_rfl) (.set _ _ (.cells false t_player_reader [.d (.s r)])),.inl ⟨rfl,rfl⟩⟩
 have hno:=GM e
 rcases hv rb h s hr hl with ⟨v,h1,hc,w,r,hw,hr1,hf1,cs,rfl,hvr⟩ | ⟨x,h1,hc,hw,rfl,hf1⟩
 rotate_left
 ·refine .NT hc (by kernel_rfl) ⟨by rw [readL,if_neg hno,hw],rfl,hf1⟩
 have hlen:=readV_len _ _ _ _ hw
 obtain ⟨k',n',s',LA,rfl,hLA⟩:=hvr.lit
 have fin:=LiH.first hr1 hf1 hvr rfl
 obtain ⟨G,hG⟩:∃G,G=h1.push (.cells false t_Value [.d (.i .u8 k'),.d (.i .i64 n'),.d (.s s'),LA]):=⟨_,rfl⟩
 rw [←hG] at fin
 rcases hLA with rfl | ⟨b2,m2,ex2,rfl⟩
 all_goals
  refine .call hc (by kernel_rfl) ?_
  refine .top true 0 (tl c_player_reader_list.body 3) [] G (by rw [hG]; kernel_rfl) ?_
  exact li_loop hv hl (n0:=r.length) ⟨r,[w],h1.n,true,Nat.le_refl _,by simp; omega,by rw [readL,if_neg hno,hw],fin,.of (by kernel_rfl) ⟨by kernel_rfl,by kernel_rfl,by kernel_rfl,trivial⟩⟩
theorem FrR.new {rb a : Nat} {h h2 : Heap} {k : Blk} (x : FrR rb h h2) (ha : h.n ≤ a) : FrR rb h (h2.set a k) := ⟨x.n,fun i y hy hi ht => by
 rw [Heap.get_set_ne (by have:=get_lt hy; omega)]; exact x.o i y hy hi ht⟩
theorem RD.new {rb a:Nat} {h2:Heap} {k:Blk} {s:List UInt8} (x:RD h2 rb s) (ha:rb≠a):RD (h2.set a k) rb s:=(Heap.get_set_ne (Ne.symm ha)).trans x
theorem VaN.at {rb d:Nat} {h g g2:Heap} {s:List UInt8} {v:AV} (e:g=g2) (x:VaN rb h d s v g2):VaN rb h d s v g:=e▸x
theorem QK {s:List UInt8} {v:Int} (hl:s.length≤281474976710656) (e:Lib.atoiAll s= .ok v) (h:Heap):yx E h [] 31 .wD [.c (.d (.s s)),.c (.d (.i .i64 (.ofNat 10))),.c (.d (.i .i64 (.ofNat 64)))]= .val (.tup [.d (.i .i64 v),.d .nili]) h:=by
 have hb:(Nat.ble s.length 281474976710656 && Nat.beq 10 10 && Nat.beq 64 64)=true:=by rw [show Nat.ble s.length 281474976710656=true by rw [Nat.ble_eq]; exact hl]; rfl
 have hp:E.pr 31=true:=by kernel_rfl
 simp only [yx,hp,List.map,X.ev,JU,hb,e,ov]
theorem QL {s:List UInt8} (hl:s.length≤281474976710656) (e:∀v,Lib.atoiAll s≠ .ok v):∃z,∀h,yx E h [] 31 .wD [.c (.d (.s s)),.c (.d (.i .i64 (.ofNat 10))),.c (.d (.i .i64 (.ofNat 64)))]= .val (.tup [.d (.i .i64 z),TE]) h:=by
 have hb:(Nat.ble s.length 281474976710656 && Nat.beq 10 10 && Nat.beq 64 64)=true:=by rw [show Nat.ble s.length 281474976710656=true by rw [Nat.ble_eq]; exact hl]; rfl
 have hp:E.pr 31=true:=by kernel_rfl
 cases ha:Lib.atoiAll s with
 |ok v=> exact absurd ha (e v)
 |range=> exact ⟨Lib.atoiSat s,fun h=> by simp only [yx,hp,List.map,X.ev,JU,hb,ha,ov]; rfl⟩
 |_=> exact ⟨0,fun h=> by simp only [yx,hp,List.map,X.ev,JU,hb,ha,ov]; rfl⟩
theorem TM {s:List UInt8} {v:Int} (e:Lib.atoiAll s= .ok v):R64 v:=by
 unfold Lib.atoiAll at e
 split at e
 ·cases e
 ·simp only at e
  split at e
  ·cases e
  ·cases e
  ·split at e
   ·cases e
   ·split at e
    ·cases e
    ·injection e with e
     subst e
     constructor <;> split <;> omega
theorem K7 (p:UInt8→Bool):∀s:List UInt8,s.take (s.takeWhile p).length=s.takeWhile p∧s.length=(s.takeWhile p).length+(s.dropWhile p).length
 |[]=> ⟨rfl,rfl⟩
 |c::s=> by
  have:=K7 p s
  rw [List.takeWhile_cons,List.dropWhile_cons]
  split
  ·simp only [List.length_cons,List.take_succ_cons,this.1,true_and]; omega
  ·simp
theorem NU:∀d,d≤1000→ValAt d:=by
 intro d
 induction d with
 |zero=>
  intro _ rb h s hr hl
  refine Cal.wo vK (.inr rfl) ?_
  refine W.brT (by kernel_rfl) ?_
  exact .panN (x:=brk) (by kernel_rfl) ⟨rfl,rfl,.at (by kernel_rfl) (.push _ _ (.cells false t_Value zV))⟩
 |succ d ih=>
  intro hd rb h s hr hl
  have ih:=ih (by omega)
  have hrA:RD (h.push (.cells false t_Value zV)) rb s:=push_of hr _
  have hfA:FrR rb h (h.push (.cells false t_Value zV)):= .push _ _ _
  have gA:(h.push (.cells false t_Value zV)).get h.n=some (.cells false t_Value zV):=push_n h _
  have hrb:rb≠h.n:=by have:=get_lt hr; omega
  refine Cal.wo vK (.inr rfl) ?_
  refine W.brF (by kernel_rfl) ?_
  refine .op (u_ (E:=E) hrA) (by kernel_rfl) ?_
  refine .oU (GG 34 (s:=s) (by omega)) (by kernel_rfl) ?_
  refine .br (s.head? ==some 34) (by kernel_rfl) (fun e=> ?_) (fun e34=> ?_)
  ·obtain ⟨r,rfl⟩:=GL e
   refine .call (take_cons hrA) (by kernel_rfl) ?_
   have hf1:=hfA.trans (.set rb _ (.cells false t_player_reader [.d (.s r)]))
   simp only [List.length_cons] at hl
   rcases QI (hrA.set r) (by omega) with ⟨v,h2,hc,t,r2,hT,rfl,hr2,hf2⟩ | ⟨x,h2,hc,hT,rfl,hf2⟩
   ·refine .call hc (by kernel_rfl) ?_
    have g2:h2.get h.n=some (.cells false t_Value zV):=hf2.o _ _ ((Heap.get_set_ne hrb).trans gA) (Ne.symm hrb) (fun _ e=> nomatch e)
    refine .op (store_ptr (n:=4) (off:=0) (x:= .agg (vB 1 0 t .nilsl)) g2 rfl) (by kernel_rfl) ?_
    refine QB (t:=4) (n:=4) (hp:=h2.set h.n (.cells false t_Value (vB 1 0 t .nilsl))) 1 (.inr rfl) (by kernel_rfl) (by kernel_rfl) (by kernel_rfl) (by kernel_rfl) (Heap.get_set_self g2) rfl ?_
    exact ⟨.mk 1 0 t [],r2,by rw [readV,if_pos List.head?_cons,List.tail_cons,hT],hr2.new hrb,(hf1.trans hf2).new (Nat.le_refl _),_,rfl,⟨by decide,by decide⟩,⟨by decide,by decide⟩,_,rfl,.inl ⟨rfl,rfl⟩⟩
   ·refine .NT hc (by kernel_rfl) ⟨by rw [readV,if_pos List.head?_cons,List.tail_cons,hT],rfl,hf1.trans hf2⟩
  have n34:=GM e34
  refine .op (u_ (E:=E) hrA) (by kernel_rfl) ?_
  refine .oU (GG 91 (s:=s) (by omega)) (by kernel_rfl) ?_
  refine .br (s.head? ==some 91) (by kernel_rfl) (fun e=> ?_) (fun e91=> ?_)
  ·obtain ⟨r,rfl⟩:=GL e
   refine .call (take_cons hrA) (by kernel_rfl) ?_
   have hf1:=hfA.trans (.set rb _ (.cells false t_player_reader [.d (.s r)]))
   simp only [List.length_cons] at hl
   have hw:wrap .i64 (.ofNat (d+1) - 1)= .ofNat d:=by
    rw [wrap64 (by simp only [Int.ofNat_eq_natCast]; omega) (by simp only [Int.ofNat_eq_natCast]; omega)]
    simp only [Int.ofNat_eq_natCast]; omega
   rcases QJ ih (hrA.set r) (by omega) with ⟨v,h2,hc,l,r2,hL,hr2,hf2,hV⟩ | ⟨x,h2,hc,hL,rfl,hf2⟩
   ·rw [←hw] at hc
    refine .call hc (by kernel_rfl) ?_
    have g2:h2.get h.n=some (.cells false t_Value zV):=hf2.o _ _ ((Heap.get_set_ne hrb).trans gA) (Ne.symm hrb) (fun _ e=> nomatch e)
    have hrd:readV (d+1) (91::r)=some (.mk 2 0 [] l,r2):=by rw [readV,if_neg n34,if_pos List.head?_cons,List.tail_cons,hL]
    rcases hV with ⟨rfl,rfl⟩ | ⟨b,ex,rfl,bcs,hb,hgb,hbl,hne,hel⟩
    ·refine .op (store_ptr (n:=4) (off:=0) (x:= .agg (vB 2 0 [] .nilsl)) g2 rfl) (by kernel_rfl) ?_
     refine QB (t:=4) (n:=4) (hp:=h2.set h.n (.cells false t_Value (vB 2 0 [] .nilsl))) 1 (.inr rfl) (by kernel_rfl) (by kernel_rfl) (by kernel_rfl) (by kernel_rfl) (Heap.get_set_self g2) rfl ?_
     exact ⟨_,r2,hrd,hr2.new hrb,(hf1.trans hf2).new (Nat.le_refl _),_,rfl,⟨by decide,by decide⟩,⟨by decide,by decide⟩,_,rfl,.inl ⟨rfl,rfl⟩⟩
    ·refine .op (store_ptr (n:=4) (off:=0) (x:= .agg (vB 2 0 [] (.sref b 0 4 l.length l.length ex))) g2 rfl) (by kernel_rfl) ?_
     refine QB (t:=4) (n:=4) (hp:=h2.set h.n (.cells false t_Value (vB 2 0 [] (.sref b 0 4 l.length l.length ex)))) 1 (.inr rfl) (by kernel_rfl) (by kernel_rfl) (by kernel_rfl) (by kernel_rfl) (Heap.get_set_self g2) rfl ?_
     have keep:∀j y,h.n+1≤j→h2.get j=some (.cells false t_Value y)→h.n≤j∧(h2.set h.n (.cells false t_Value (vB 2 0 [] (.sref b 0 4 l.length l.length ex)))).get j=some (.cells false t_Value y):=fun j y hj hy=> ⟨by omega,by rw [Heap.get_set_ne (by omega)]; exact hy⟩
     exact ⟨_,r2,hrd,hr2.new hrb,(hf1.trans hf2).new (Nat.le_refl _),_,rfl,⟨by decide,by decide⟩,⟨by decide,by decide⟩,_,rfl,.inr ⟨b,ex,bcs,rfl,(keep b bcs hb hgb).1,(keep b bcs hb hgb).2,hbl,hne,fun i hi=> (hel i hi).mono fun j y hj hy=> keep j y hj.1 hy⟩⟩
   ·rw [←hw] at hc
    refine .NT hc (by kernel_rfl) ⟨by rw [readV,if_neg n34,if_pos List.head?_cons,List.tail_cons,hL],rfl,hf1.trans hf2⟩
  have n91:=GM e91
  refine .op (u_ (E:=E) hrA) (by kernel_rfl) ?_
  refine .oU (NQ s) (by kernel_rfl) ?_
  obtain ⟨htk,hlen⟩:=K7 isNum s
  have hrI:readV (d+1) s=match B5 s with | some (n,r)=> some (.mk 0 n [] [],r) | none=> none:=by rw [readV,if_neg n34,if_neg n91]; rfl
  have hI:B5 s=match Lib.atoiAll (s.takeWhile isNum) with | .ok n=> some (n,s.dropWhile isNum) | _=> none:=rfl
  have hsl:∀g,qE g [] (.c (.d (.s s))) none (some (.c (.d (.i .i64 (wrap .i64 (.ofNat s.length - .ofNat (s.dropWhile isNum).length))))))= .val (.d (.s (s.takeWhile isNum))) g:=by
   intro g
   have:=BR (k:= .i64) (s:=s) (a:=(s.takeWhile isNum).length) (x:=wrap .i64 (.ofNat s.length - .ofNat (s.dropWhile isNum).length)) (by rw [wrap64 (by simp only [Int.ofNat_eq_natCast]; omega) (by simp only [Int.ofNat_eq_natCast]; omega)]; simp only [Int.ofNat_eq_natCast]; omega) (by omega) g
   rwa [htk] at this
  refine .rd2 (u_ (E:=E) hrA) (u_ (E:=E) hrA) (by kernel_rfl) ?_
  refine .rd2 (u_ (E:=E) hrA) (u_ (E:=E) hrA) (by kernel_rfl) ?_
  refine .opv hsl (by kernel_rfl) ?_
  by_cases hv:∃v,Lib.atoiAll (s.takeWhile isNum)= .ok v
  ·obtain ⟨v,hv⟩:=hv
   have hrv:=TM hv
   rw [hv] at hI
   refine .opv (QK (by omega) hv) (by kernel_rfl) ?_
   refine W.brF (by kernel_rfl) ?_
   refine .op (store_ptr (n:=1) (off:=0) (x:= .d (.s (s.dropWhile isNum))) hrA rfl) (by kernel_rfl) ?_
   have g2:((h.push (.cells false t_Value zV)).set rb (.cells false t_player_reader [.d (.s (s.dropWhile isNum))])).get h.n=some (.cells false t_Value zV):=(Heap.get_set_ne hrb).trans gA
   refine .op (store_ptr (n:=4) (off:=0) (x:= .agg (vB 0 v [] .nilsl)) g2 rfl) (by kernel_rfl) ?_
   refine QB (t:=4) (n:=4) (hp:=((h.push (.cells false t_Value zV)).set rb (.cells false t_player_reader [.d (.s (s.dropWhile isNum))])).set h.n (.cells false t_Value (vB 0 v [] .nilsl))) 1 (.inr rfl) (by kernel_rfl) (by kernel_rfl) (by kernel_rfl) (by kernel_rfl) (Heap.get_set_self g2) rfl ?_
   exact ⟨.mk 0 v [] [],s.dropWhile isNum,by rw [hrI,hI],(hrA.set _).new hrb,(hfA.trans (.set rb _ _)).new (Nat.le_refl _),_,rfl,⟨by decide,by decide⟩,hrv,_,rfl,.inl ⟨rfl,rfl⟩⟩
  ·have hv:∀v,Lib.atoiAll (s.takeWhile isNum)≠ .ok v:=fun v e=> hv ⟨v,e⟩
   obtain ⟨z,hz⟩:=QL (by omega) hv
   refine .opv hz (by kernel_rfl) ?_
   refine W.brT (by kernel_rfl) ?_
   refine .panN (x:=brk) (by kernel_rfl) ⟨?_,rfl,.at (by kernel_rfl) hfA⟩
   rw [hrI,hI]
   cases ha:Lib.atoiAll (s.takeWhile isNum) with
   |ok v=> exact absurd ha (hv v)
   |range=> rfl
   |_=> rfl
end
end Go.Proofs.YtgjhldabffjiaaaGreatDoor
