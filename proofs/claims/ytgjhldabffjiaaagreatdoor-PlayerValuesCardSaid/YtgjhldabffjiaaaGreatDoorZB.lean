/- Part 2 of a general layer: a deterministic machine over the model's code, and that what it comes to the model comes to. Conditions: those of each theorem. -/
import Derived.Test.YtgjhldabffjiaaaGreatDoorZA
import Derived.Laws.BytesString
import Derived.Laws.Tables
import Derived.Laws.Rows
import Derived.Laws.IdiomStrings
import Derived.Laws.RangeString
import Derived.Laws.Runes
import Derived.Laws.AppendOwn
import Derived.Lib.UnsafeStr
import Derived.Lib.Bytealg
noncomputable section
namespace Go.Abs
section
variable {P : Program} {mu : List String} {G : Nat → List DV} {cx : Cx} {h : Heap} {w : World}

theorem OL (I:Inv P mu G cx h w) {x:X} {tm:List AV} {v:Value} (hv:bY cx w (x.ev tm) v):
  jR P mu G cx h w (IS h tm x) (.ok (.value v) w):= .look I rfl hv

theorem OM (I:Inv P mu G cx h w) {c a b:X} {tm:List AV} {c' a' b':Value} (hc:bY cx w (c.ev tm) c') (ha:bY cx w (a.ev tm) a') (hb:bY cx w (b.ev tm) b'):
  jR P mu G cx h w (uN h tm c a b) ((do pure (Next.value (if ←asBool c' then a' else b')):Sem Next).run P w):=by
 unfold uN
 split
 ·rename_i hh
  unfold B8 at hh
  split at hh
  ·rename_i x he
   rw [he] at hc
   cases hh
   have:=hc.wE; subst this
   exact .look I (v':=a') (by simp [asBool]) ha
  ·cases hh
 ·rename_i hh
  unfold B8 at hh
  split at hh
  ·rename_i x he
   rw [he] at hc
   cases hh
   have:=hc.wE; subst this
   exact .look I (v':=b') (by simp [asBool]) hb
  ·cases hh
 ·trivial

theorem UM (I:Inv P mu G cx h w) {op:UnOp} {x:X} {tm:List AV} {v:Value} (hv:bY cx w (x.ev tm) v):
  jR P mu G cx h w (FC h tm op x) ((do pure (Next.value (←Op.unary op v)):Sem Next).run P w):=by
 unfold FC
 refine .ov I (fun r hr=> ?_)
 unfold unA at hr
 split at hr
 ·rename_i k n he
  rw [he] at hv
  have:=hv.Ea; subst this
  cases hr
  rw [uJ]
  exact ⟨_,by simp [Op.unary,Op.intArith],.d _ _ (.i _ _)⟩
 ·rename_i k n he
  rw [he] at hv
  have:=hv.Ea; subst this
  cases hr
  rw [Cm,Gd]
  exact ⟨_,rfl,.d _ _ (.i _ _)⟩
 ·rename_i b he
  rw [he] at hv
  have:=hv.wE; subst this
  cases hr
  exact ⟨_,rfl,.d _ _ (.b _)⟩
 ·cases hr

theorem Ry (I:Inv P mu G cx h w) {s d:TypeId} {j k:IntKind} (hs:P.underlying s=some (.int j)) (hd:P.underlying d=some (.int k)) {x:X} {tm:List AV} {v:Value} (hv:bY cx w (x.ev tm) v):
  jR P mu G cx h w (B_ h tm k x) ((do pure (Next.value (←convert s d v)):Sem Next).run P w):=by
 unfold B_
 split
 ·rename_i l n hi
  obtain ⟨_,rfl⟩:=xP hi hv
  rw [uJ]
  exact .look I (v':= .int k (k.wrap n)) (by simp [convert,run_underlying hs,run_underlying hd,Conv.intToInt]) (.d _ _ (.i _ _))
 ·trivial

theorem ON (I:Inv P mu G cx h w) {t:TypeId} {d:TypeDesc} (ht:P.underlying t=some d) (hn:∀ms,d≠ .interface ms) {x:X} {tm:List AV} {v:Value} (hv:bY cx w (x.ev tm) v):
  jR P mu G cx h w (Bt h tm t x) ((do pure (Next.value (←Instr.makeInterface t v)):Sem Next).run P w):=by
 refine .look I (v':= .iface t v) ?_ (.ifc t _ v hv)
 unfold Instr.makeInterface
 simp only [Sem.run_bind,run_underlying ht,Result.andThen_ok]
 cases d <;> first | rfl | (exact absurd rfl (hn _))

theorem OO (I:Inv P mu G cx h w) {i:Nat} {x:X} {tm:List AV} {v:Value} (hv:bY cx w (x.ev tm) v):
  jR P mu G cx h w (zI h tm x i) ((do pure (Next.value (←Instr.extract v i)):Sem Next).run P w):=by
 unfold zI
 split
 ·rename_i l he
  rw [he] at hv
  cases hv with
  |tup _ cs' hc h2=>
  split
  ·rename_i a ha
   obtain ⟨hi,rfl⟩:=List.getElem?_eq_some_iff.1 ha
   have:=h2 i hi
   refine .look I (v':=cs'.getD i undef) ?_ this
   have hi':i < cs'.size:=by omega
   simp [Instr.extract,Array.getD_eq_getD_getElem?,hi']
  ·trivial
 ·trivial

theorem Gg {a:AV} {n:Nat} {v:Value} (hl:lenOf a=some n) (hv:bY cx w a v):∃ad c,v= .slice ad n c:=by
 unfold lenOf at hl
 split at hl
 ·cases hl
  cases hv with
  |d _ _ hd=> cases hd with
   |sl0 _ a c=> exact ⟨_,_,rfl⟩
   |sl=> exact ⟨_,_,rfl⟩
 ·cases hl
  cases hv
  exact ⟨_,_,rfl⟩
 ·cases hl
  cases hv with
  |app _ _ _ _ _ hd=> cases hd with
   |sl0 _ a c=> exact ⟨_,_,rfl⟩
   |sl=> exact ⟨_,_,rfl⟩
 ·cases hl
  cases hv with
  |full _ _ _ a hd=> exact ⟨_,_,rfl⟩
 ·cases hl
  cases hv with
  |sref=> exact ⟨_,_,rfl⟩
 ·cases hl

theorem OP (I:Inv P mu G cx h w) {t ty:TypeId} {ts:Array TypeId} (hts:ts[0]? =some t) (hu:P.underlying t=some .string)
  {x:X} {tm:List AV} {v:Value} (hv:bY cx w (x.ev tm) v):jR P mu G cx h w (vM h tm 0 x) ((do pure (Next.value (←Builtin.len_ ts ty #[v])):Sem Next).run P w):=by
 unfold vM
 simp only
 split
 ·rename_i s hs
  obtain ⟨sb,rfl,e⟩:=Az hs hv
  have:sb.size=s.length:=by rw [←e]; simp
  exact .look I (v':=goInt s.length) (by simp [Builtin.len_,hts,run_underlying hu,this]) (rY _)
 ·trivial
theorem OQ (I:Inv P mu G cx h w) {t e ty:TypeId} {ts:Array TypeId} (hts:ts[0]? =some t) (hu:P.underlying t=some (.slice e))
  {x:X} {tm:List AV} {v:Value} (hv:bY cx w (x.ev tm) v):jR P mu G cx h w (vM h tm 1 x) ((do pure (Next.value (←Builtin.len_ ts ty #[v])):Sem Next).run P w):=by
 unfold vM
 simp only
 split
 ·rename_i n hl
  obtain ⟨ad,c,rfl⟩:=Gg hl hv
  exact .look I (v':=goInt n) (by simp [Builtin.len_,hts,run_underlying hu]) (rY n)
 ·trivial
theorem OR (I:Inv P mu G cx h w) {t k e ty:TypeId} {ts:Array TypeId} (hts:ts[0]? =some t) (hu:P.underlying t=some (.map k e))
  {x:X} {tm:List AV} {v:Value} (hv:bY cx w (x.ev tm) v):jR P mu G cx h w (vM h tm 2 x) ((do pure (Next.value (←Builtin.len_ ts ty #[v])):Sem Next).run P w):=by
 unfold vM
 simp only
 split
 ·rename_i he
  rw [he] at hv
  have:=zf hv; subst this
  exact .look I (v':=goInt 0) (by simp [Builtin.len_,hts,run_underlying hu]) (rY 0)
 ·rename_i b he
  rw [he] at hv
  cases hv with
  |uo _ c base hr=>
  split
  ·rename_i es hb
   obtain ⟨c',hr',ents,clock,hm,hsz,_⟩:=I.heap b _ hb
   rw [hr] at hr'; cases hr'
   refine .look I (v':=goInt es.length) ?_ (rY _)
   have:(getObj c).run P w= .ok (.map ents clock) w:=by simp [getObj,Sem.run,hm]
   simp [Builtin.len_,hts,run_underlying hu,this,hsz]
  ·trivial
 ·trivial
theorem Co (I:Inv P mu G cx h w) {t ty:TypeId} {ts:Array TypeId} {n:Nat} (hts:ts[0]? =some t)
  (hu:(∃e,P.underlying t=some (.array n e))∨∃a e,P.underlying t=some (.pointer a)∧P.underlying a=some (.array n e)) {v:Value}:
  jR P mu G cx h w (C8 h n) ((do pure (Next.value (←Builtin.len_ ts ty #[v])):Sem Next).run P w)∧jR P mu G cx h w (C8 h n) ((do pure (Next.value (←Builtin.cap_ ts ty #[v])):Sem Next).run P w):=by
 unfold C8
 rcases hu with ⟨e,hu⟩ | ⟨a,e,hu,hu2⟩
 ·exact ⟨.look I (v':=goInt n) (by cases v <;> simp [Builtin.len_,hts,run_underlying hu]) (rY n),.look I (v':=goInt n) (by cases v <;> simp [Builtin.cap_,hts,run_underlying hu]) (rY n)⟩
 ·exact ⟨.look I (v':=goInt n) (by cases v <;> simp [Builtin.len_,hts,run_underlying hu,run_underlying hu2]) (rY n),.look I (v':=goInt n) (by cases v <;> simp [Builtin.cap_,hts,run_underlying hu,run_underlying hu2]) (rY n)⟩
theorem Rz (I:Inv P mu G cx h w) {t e ty:TypeId} {ts:Array TypeId} (hts:ts[0]? =some t) (hu:P.underlying t=some (.slice e))
  {x:X} {tm:List AV} {v:Value} (hv:bY cx w (x.ev tm) v):jR P mu G cx h w (Ce h tm x) ((do pure (Next.value (←Builtin.cap_ ts ty #[v])):Sem Next).run P w):=by
 unfold Ce
 split
 ·rename_i he
  rw [he] at hv
  have:=oO hv; subst this
  exact .look I (v':=goInt 0) (by simp [Builtin.cap_,hts,run_underlying hu]) (rY 0)
 ·rename_i b n cs he
  rw [he] at hv
  cases hv with
  |full _ _ _ a hd=> exact .look I (v':=goInt n) (by simp [Builtin.cap_,hts,run_underlying hu]) (rY n)
 ·rename_i b off sz n m he
  rw [he] at hv
  cases hv with
  |sref _ _ _ _ _ _ c base cap a hr hn hm hex ha=>
   have:=hex rfl; subst this
   exact .look I (v':=goInt cap) (by simp [Builtin.cap_,hts,run_underlying hu]) (rY cap)
 ·trivial

theorem run_sliceBound {v:Value} {y i:Nat} {k:IntKind} (hv:v= .int k (.ofNat i)) (hi:i≤y) (code:BoundsCode):(Instr.sliceBound v y code).run P w= .ok i w:=by
 subst hv
 have:(0:Int)≤(i:Int)∧(i:Int)≤(y:Int):=⟨by omega,by omega⟩
 simp [Instr.sliceBound,asIntOf,this.1]
 intro hh; omega

theorem BD (b:Bool) {len cap l hh m:Nat} {lo hi mx:Option Value} (hl:(lo=none∧l=0)∨∃v k,lo=some v∧v= .int k (.ofNat l)) (hh':(hi=none∧mx=none∧hh=len)∨∃v k,hi=some v∧v= .int k (.ofNat hh))
  (hm:(mx=none∧m=cap)∨∃v k,mx=some v∧v= .int k (.ofNat m)) (h1:l≤hh) (h2:hh≤m) (h3:m≤cap):(Instr.sliceBounds b len cap lo hi mx).run P w= .ok (l,hh,m) w:=by
 unfold Instr.sliceBounds
 rcases hm with ⟨rfl,rfl⟩ | ⟨vm,km,rfl,hvm⟩
 ·rcases hh' with ⟨rfl,_,rfl⟩ | ⟨vh,kh,rfl,hvh⟩
  ·rcases hl with ⟨rfl,rfl⟩ | ⟨vl,kl,rfl,hvl⟩
   ·simp
   ·simp [run_sliceBound hvl h1]
  ·rcases hl with ⟨rfl,rfl⟩ | ⟨vl,kl,rfl,hvl⟩
   ·simp [run_sliceBound hvh h2]
   ·simp [run_sliceBound hvh h2,run_sliceBound hvl h1]
 ·rcases hh' with ⟨_,hc,_⟩ | ⟨vh,kh,rfl,hvh⟩
  ·cases hc
  ·rcases hl with ⟨rfl,rfl⟩ | ⟨vl,kl,rfl,hvl⟩
   ·simp [run_sliceBound hvh h2,run_sliceBound hvm h3]
   ·simp [run_sliceBound hvh h2,run_sliceBound hvl h1,run_sliceBound hvm h3]
end
end Go.Abs

namespace Go.Abs
section
variable {P : Program} {mu : List String} {G : Nat → List DV} {cx : Cx} {h : Heap} {w : World}

theorem m_ {a b:Nat} (e:Nat.beq a b=true):a=b:=Nat.eq_of_beq_eq_true e

inductive BE (cx:Cx) (w:World) (tm:List AV):Option X→Option Value→Prop
 |none:BE cx w tm none none
 |some (x:X) (v:Value) (h:bY cx w (x.ev tm) v):BE cx w tm (some x) (some v)

theorem BE.isSome {tm:List AV} {x:Option X} {v:Option Value} (h:BE cx w tm x v):x.isSome=v.isSome:=by cases h <;> rfl

theorem zi {tm:List AV} {x:Option X} {v:Option Value} {d n:Nat} (h:BE cx w tm x v) (hn:An tm d x=some n):
  (v=none∧n=d)∨∃u k,v=some u∧u= .int k (.ofNat n):=by
 cases h with
 |none=> simp [An] at hn; exact .inl ⟨rfl,hn.symm⟩
 |some x u hu=>
  simp [An] at hn
  obtain ⟨k,e⟩:=sS hn hu
  exact .inr ⟨u,k,rfl,e⟩

def oN (tm:List AV):Option X→Option (Option Nat)
 |none=> some none
 |some y=> (wO (y.ev tm)).map some
theorem OS {tm:List AV} {x:Option X} {v:Option Value} {r:Option Nat} (h:BE cx w tm x v) (hn:oN tm x=some r):
  (v=none∧r=none)∨∃u k n,v=some u∧u= .int k (.ofNat n)∧r=some n:=by
 cases h with
 |none=> simp [oN] at hn; exact .inl ⟨rfl,hn.symm⟩
 |some x u hu=>
  simp only [oN,Option.map_eq_some_iff] at hn
  obtain ⟨n,hn,e⟩:=hn
  obtain ⟨k,e'⟩:=sS hn hu
  exact .inr ⟨u,k,n,rfl,e',e.symm⟩

theorem Cq {α:Type} (l:List α) (a b i:Nat) (hi:i < (wC l a b).length):∃h:a+i < l.length,(wC l a b)[i]=l[a+i]:=by
 unfold wC at hi ⊢
 simp only [List.length_take,List.length_drop] at hi
 refine ⟨by omega,?_⟩
 simp
theorem I9 {α:Type} (l:List α) (a:Nat):wC l a a=[]:=by unfold wC; simp

theorem kM.cut {F:Bool→Nat→Nat→Prop} {b:Bool} {n cap lo hi m sz:Nat} {cs:List DV} {a:Option Addr} (hd:kM w F (.sl b n cs) (.slice a n cap)) (h1:lo≤hi) (h2:hi≤n) (h3:hi≤m):
  kM w F (.sl b (hi - lo) (wC cs (lo*sz) (hi*sz))) (.slice (if m=lo then a else a.map (·.add (lo*sz))) (hi - lo) (m - lo)):=by
 by_cases e:hi=lo
 ·subst e
  rw [I9,Nat.sub_self]
  exact .sl0 _ _ _
 ·cases hd with
  |sl0=> omega
  |sl _ _ _ c o _ vs hn hc k1 k2=>
   have:¬m=lo:=by omega
   rw [if_neg this]
   show kM w F _ (.slice (some ((⟨c,o,none⟩:Addr).add (lo*sz))) _ _)
   rw [addr_add]
   refine .sl _ _ _ c (o+lo*sz) _ (fun i=> vs (lo*sz+i)) (by omega) (by omega) (fun i hi=> ?_) (fun i hi=> ?_)
   ·obtain ⟨hl,_⟩:=Cq _ _ _ i hi
    rw [Nat.add_assoc]
    exact k1 _ hl
   ·obtain ⟨hl,e⟩:=Cq _ _ _ i hi
    rw [e]
    exact k2 _ hl

theorem map_add_zero (a:Option Addr):a.map (fun x=> x.add 0)=a:=by
 cases a with
 |none=> rfl
 |some a=> simp [Addr.add]

theorem I_ {F:Bool→Nat→Nat→Prop} {b:Bool} {n:Nat} {cs:List DV} {v:Value} (hd:kM w F (.sl b n cs) v):∃a cap,v= .slice a n cap∧n≤cap∧kM w F (.sl b n cs) (.slice a n cap):=by
 cases hd with
 |sl0 _ a cap=> exact ⟨a,cap,rfl,Nat.zero_le _,.sl0 _ _ _⟩
 |sl _ _ _ c o cap vs hn hc h1 h2=> exact ⟨_,cap,rfl,hc,.sl _ _ _ c o cap vs hn hc h1 h2⟩

theorem Ja {t e:TypeId} {size:Nat} (hu:P.underlying t=some (.slice e)) (hz:mP P e=some size) {a:Option Addr} {n cap l hh m:Nat} {lo hi mx:Option Value}
  (hl:(lo=none∧l=0)∨∃v k,lo=some v∧v= .int k (.ofNat l)) (hhi:(hi=none∧mx=none∧hh=n)∨∃v k,hi=some v∧v= .int k (.ofNat hh))
  (hm:(mx=none∧m=cap)∨∃v k,mx=some v∧v= .int k (.ofNat m)) (h1:l≤hh) (h2:hh≤m) (h3:m≤cap):
  (Instr.sliceAt t (.slice a n cap) lo hi mx).run P w= .ok (.slice (if m=l then a else a.map (·.add (l*size))) (hh - l) (m - l)) w:=by
 unfold Instr.sliceAt
 simp only [Sem.run_bind,run_underlying hu,Result.andThen_ok]
 unfold Instr.slice
 simp only [Sem.run_bind,run_underlying hu,Result.andThen_ok,BD true hl hhi hm h1 h2 h3,jY hz,Sem.run_pure]

theorem OT (I:Inv P mu G cx h w) {t e:TypeId} {size:Nat} (hu:P.underlying t=some (.slice e)) (hz:mP P e=some size) {x:X} {lo hi mx:Option X} {tm:List AV} {x':Value} {lo' hi' mx':Option Value}
  (hg:(mx.isSome && hi.isNone)=false) (hv:bY cx w (x.ev tm) x') (hlo:BE cx w tm lo lo') (hhi:BE cx w tm hi hi') (hmx:BE cx w tm mx mx'):
  jR P mu G cx h w (yQ h tm size x lo hi mx) ((do pure (Next.value (←Instr.sliceAt t x' lo' hi' mx')):Sem Next).run P w):=by
 unfold yQ
 show jR P mu G cx h w (match An tm 0 lo,oN tm hi,oN tm mx with | some l,some hh,some mm=> _ | _,_,_=> _) _
 split
 ·rename_i l hh mm e1 e2 e3
  refine .ov I (fun v hs=> ?_)
  have i1:=zi hlo e1
  have i2:=OS hhi e2
  have i3:=OS hmx e3
  have hnn:¬(mx'.isSome=true∧hi'=none):=by
   intro ⟨q1,q2⟩
   rw [←hmx.isSome] at q1
   have:=hhi.isSome
   rw [q2] at this
   cases hi with
   |none=> simp [q1] at hg
   |some y=> simp at this
  -- the run,once the bounds are known
  have run:∀(a:Option Addr) (n cap:Nat) (h1:l≤hh.getD n) (h2:hh.getD n≤mm.getD cap) (h3:mm.getD cap≤cap),x'= .slice a n cap→
    (do pure (Next.value (←Instr.sliceAt t x' lo' hi' mx')):Sem Next).run P w= .ok (.value (.slice (if mm.getD cap=l then a else a.map (·.add (l*size))) (hh.getD n - l) (mm.getD cap - l))) w:=by
   intro a n cap h1 h2 h3 ex
   subst ex
   have:=Ja (P:=P) (w:=w) (a:=a) (n:=n) (cap:=cap) (l:=l) (hh:=hh.getD n) (m:=mm.getD cap) (lo:=lo') (hi:=hi') (mx:=mx') hu hz i1 ?_ ?_ h1 h2 h3
   ·simp only [Sem.run_bind,this,Result.andThen_ok,Sem.run_pure]
   ·rcases i2 with ⟨rfl,rfl⟩ | ⟨u,k,n',rfl,hu',rfl⟩
    ·refine .inl ⟨rfl,?_,rfl⟩
     cases mx' with
     |none=> rfl
     |some _=> exact absurd ⟨rfl,rfl⟩ hnn
    ·exact .inr ⟨u,k,rfl,hu'⟩
   ·rcases i3 with ⟨rfl,rfl⟩ | ⟨u,k,n',rfl,hu',rfl⟩
    ·exact .inl ⟨rfl,rfl⟩
    ·exact .inr ⟨u,k,rfl,hu'⟩
  unfold Ou at hs
  split at hs
  ·rename_i b off z n m ex he
   rw [he] at hv
   simp only at hs
   split at hs
   ·rename_i hb
    cases hs
    simp only [Bool.and_eq_true] at hb
    obtain ⟨⟨⟨b1,b2⟩,b3⟩,b4⟩:=hb
    have b1:=jB b1; have b2:=jB b2; have b3:=jB b3
    have b4:=m_ b4
    cases b4
    cases hv with
    |sref _ _ _ _ _ _ c base cap a hr hn hm hex ha hzz=>
     have hcap:mm.getD m≤mm.getD cap∧mm.getD cap≤cap:=by cases mm <;> simp at* <;> omega
     refine ⟨_,run a n cap b1 (by omega) hcap.2 rfl,?_⟩
     refine .sref _ _ _ _ _ _ c base _ _ hr (by omega) (by omega) (fun hx=> ?_) ?_ (fun hx=> ?_)
     ·cases mm with
      |none=> simp at hx; have:=hex hx; subst this; rfl
      |some q=> rfl
     ·by_cases e:mm.getD cap=l
      ·rw [if_pos e]
       right
       refine ⟨by omega,?_⟩
       rcases ha with rfl | ⟨_,h⟩
       ·rfl
       ·exact h
      ·rw [if_neg e]
       left
       rcases ha with rfl | ⟨h0,_⟩
       ·show some ((⟨c,base+off,none⟩:Addr).add (l*size))=_
        rw [addr_add,Nat.add_assoc]
       ·omega
     ·simp only [Bool.or_eq_false_iff] at hx
      obtain ⟨arr,t,fz,z1,z2,z3⟩:=hzz hx.1
      refine ⟨arr,t,fz,z1,?_,by omega⟩
      have e1:l*size+(mm.getD cap - l)*size=mm.getD cap*size:=by rw [←Nat.add_mul]; congr 1; omega
      have e2:mm.getD cap*size≤cap*size:=Nat.mul_le_mul_right _ hcap.2
      omega
   ·cases hs
  ·rename_i xx hnot
   -- slices as data
   have key:∀(b:Bool) (n:Nat) (cs:List DV) (a:Option Addr) (cap:Nat),kM w cx.F (.sl b n cs) (.slice a n cap)→n≤cap→x'= .slice a n cap→
     l≤hh.getD n→hh.getD n≤mm.getD n→mm.getD n≤n→
     ∃v',(do pure (Next.value (←Instr.sliceAt t x' lo' hi' mx')):Sem Next).run P w= .ok (.value v') w∧
      kM w cx.F (.sl b (hh.getD n - l) (wC cs (l*size) (hh.getD n*size))) v'∧
      (∃a',v'= .slice a' (hh.getD n - l) (mm.getD cap - l))∧(l=0→mm=none→hh.getD n=n→v'=x'):=by
    intro b n cs a cap hd hc ex h1 h2 h3
    have hcap:mm.getD n≤mm.getD cap∧mm.getD cap≤cap:=by cases mm <;> simp at* <;> omega
    refine ⟨_,run a n cap h1 (by omega) hcap.2 ex,hd.cut h1 (by omega) (by omega),⟨_,rfl⟩,fun l0 m0 hn=> ?_⟩
    subst l0; subst m0
    rw [hn,ex]
    simp only [Option.getD_none,Nat.zero_mul,Nat.sub_zero,map_add_zero,ite_self]
   have aaR:x.ev tm= .nilsl→l≤hh.getD 0→hh.getD 0≤mm.getD 0→mm.getD 0≤0→
     (do pure (Next.value (←Instr.sliceAt t x' lo' hi' mx')):Sem Next).run P w= .ok (.value (.slice none 0 0)) w:=by
    intro e h1 h2 h3
    rw [e] at hv
    have hx:=oO hv
    rw [run none 0 0 h1 h2 h3 hx]
    have e1:l=0:=by omega
    have e2:hh.getD 0=0:=by omega
    have e3:mm.getD 0=0:=by omega
    simp [e1,e2,e3]
   have hfull:∀(b:Bool) (n:Nat) (cs:List DV) (v':Value),kM w cx.F (.sl b n cs) v'→(∃a',v'= .slice a' n n)→bY cx w (.full b n cs) v':=by
    intro b n cs v' hd ⟨a',e⟩
    subst e
    exact .full _ _ _ _ hd
   cases hx:x.ev tm with
   |nilsl=>
    rw [hx] at hs
    cases mm with
    |none=>
     simp only at hs
     split at hs
     ·rename_i hb
      cases hs
      simp only [Bool.and_eq_true] at hb
      exact ⟨_,aaR hx (jB hb.1) (jB hb.2) (Nat.le_refl _),.nilsl⟩
     ·cases hs
    |some m=>
     simp only at hs
     split at hs
     ·rename_i hb
      cases hs
      simp only [Bool.and_eq_true] at hb
      exact ⟨_,aaR hx (jB hb.1.1) (jB hb.1.2) (jB hb.2),.nilsl⟩
     ·cases hs
   |d dd=>
    rw [hx] at hs
    cases dd with
    |sl b n cs=>
     have hv':=hv
     rw [hx] at hv'
     cases hv' with
     |d _ _ hd=>
     obtain ⟨a,cap,rfl,hc,hd⟩:=I_ hd
     cases mm with
     |none=>
      simp only at hs
      split at hs
      ·rename_i hb
       simp only [Bool.and_eq_true] at hb
       obtain ⟨v',r1,r2,r3,r4⟩:=key b n cs a cap hd hc rfl (jB hb.1) (jB hb.2) (Nat.le_refl _)
       refine ⟨v',r1,?_⟩
       cases hb2:(Nat.beq l 0 && Nat.beq (hh.getD n) n) with
       |true=>
        rw [hb2] at hs
        cases hs
        simp only [Bool.and_eq_true] at hb2
        rw [r4 (m_ hb2.1) rfl (m_ hb2.2)]
        exact .d _ _ hd
       |false=>
        rw [hb2] at hs
        cases hs
        exact .d _ _ r2
      ·cases hs
     |some m=>
      simp only at hs
      split at hs
      ·rename_i hb
       simp only [Bool.and_eq_true] at hb
       obtain ⟨v',r1,r2,r3,r4⟩:=key b n cs a cap hd hc rfl (jB hb.1.1) (jB hb.1.2) (jB hb.2)
       refine ⟨v',r1,?_⟩
       cases hb2:Nat.beq (hh.getD n) m with
       |true=>
        rw [hb2] at hs
        cases hs
        have hb2:=m_ hb2
        simp only [Option.getD_some] at r3
        rw [←hb2] at r3
        exact hfull _ _ _ _ r2 r3
       |false=>
        rw [hb2] at hs
        cases hs
        exact .d _ _ r2
      ·cases hs
    |_=> simp at hs
   |app tk g n cs=>
    rw [hx] at hs
    have hv':=hv
    rw [hx] at hv'
    cases hv' with
    |app _ _ _ _ _ hd κ hk hg hc0=>
    obtain ⟨a,cap,rfl,hc,hd⟩:=I_ hd
    cases mm with
    |none=>
     simp only at hs
     split at hs
     ·rename_i hb
      simp only [Bool.and_eq_true] at hb
      obtain ⟨v',r1,r2,r3,r4⟩:=key false n cs a cap hd hc rfl (jB hb.1) (jB hb.2) (Nat.le_refl _)
      refine ⟨v',r1,?_⟩
      cases hb2:(Nat.beq l 0 && Nat.beq (hh.getD n) n) with
      |true=>
       rw [hb2] at hs
       cases hs
       simp only [Bool.and_eq_true] at hb2
       rw [r4 (m_ hb2.1) rfl (m_ hb2.2)]
       rw [hx] at hv
       exact hv
      |false=>
       rw [hb2] at hs
       cases hs
       exact .d _ _ r2
     ·cases hs
    |some m=>
     simp only at hs
     split at hs
     ·rename_i hb
      simp only [Bool.and_eq_true] at hb
      obtain ⟨v',r1,r2,r3,r4⟩:=key false n cs a cap hd hc rfl (jB hb.1.1) (jB hb.1.2) (jB hb.2)
      refine ⟨v',r1,?_⟩
      cases hb2:Nat.beq (hh.getD n) m with
      |true=>
       rw [hb2] at hs
       cases hs
       have hb2:=m_ hb2
       simp only [Option.getD_some] at r3
       rw [←hb2] at r3
       exact hfull _ _ _ _ r2 r3
      |false=>
       rw [hb2] at hs
       cases hs
       exact .d _ _ r2
     ·cases hs
   |full b n cs=>
    rw [hx] at hs
    have hv':=hv
    rw [hx] at hv'
    cases hv' with
    |full _ _ _ a hd=>
    cases mm with
    |none=>
     simp only at hs
     split at hs
     ·rename_i hb
      simp only [Bool.and_eq_true] at hb
      obtain ⟨v',r1,r2,r3,r4⟩:=key b n cs a n hd (Nat.le_refl _) rfl (jB hb.1) (jB hb.2) (Nat.le_refl _)
      refine ⟨v',r1,?_⟩
      cases hb2:(Nat.beq l 0 && Nat.beq (hh.getD n) n) with
      |true=>
       rw [hb2] at hs
       cases hs
       simp only [Bool.and_eq_true] at hb2
       rw [r4 (m_ hb2.1) rfl (m_ hb2.2)]
       rw [hx] at hv
       exact hv
      |false=>
       rw [hb2] at hs
       simp only at hs
       split at hs
       ·rename_i hb3
        cases hs
        have hb3:=m_ hb3
        simp only [Option.getD_none] at r3
        refine hfull _ _ _ _ r2 ?_
        obtain ⟨a',e⟩:=r3
        exact ⟨a',by rw [e,hb3]⟩
       ·cases hs
        exact .d _ _ r2
     ·cases hs
    |some m=>
     simp only at hs
     split at hs
     ·rename_i hb
      simp only [Bool.and_eq_true] at hb
      obtain ⟨v',r1,r2,r3,r4⟩:=key b n cs a n hd (Nat.le_refl _) rfl (jB hb.1.1) (jB hb.1.2) (jB hb.2)
      refine ⟨v',r1,?_⟩
      cases hb2:Nat.beq (hh.getD n) m with
      |true=>
       rw [hb2] at hs
       cases hs
       have hb2:=m_ hb2
       simp only [Option.getD_some] at r3
       rw [←hb2] at r3
       exact hfull _ _ _ _ r2 r3
      |false=>
       rw [hb2] at hs
       cases hs
       exact .d _ _ r2
     ·cases hs
   |_=> rw [hx] at hs; simp at hs
 ·trivial
end
end Go.Abs

namespace Go.Abs
section
variable {P : Program} {mu : List String} {G : Nat → List DV} {cx : Cx} {h : Heap} {w : World}

theorem Cr (s:ByteArray) (l r:Nat):(s.extract l r).data.toList=wC s.data.toList l r:=by
 unfold wC
 rw [ByteArray.data_extract,Array.toList_extract]

theorem MF (I:Inv P mu G cx h w) {t:TypeId} (hu:P.underlying t=some .string) {x:X} {lo hi:Option X} {tm:List AV} {x':Value} {lo' hi':Option Value}
    (hv:bY cx w (x.ev tm) x') (hlo:BE cx w tm lo lo') (hhi:BE cx w tm hi hi'):
    jR P mu G cx h w (qE h tm x lo hi) ((do pure (Next.value (←Instr.sliceAt t x' lo' hi' none)):Sem Next).run P w):=by
  unfold qE
  split
  · rename_i s he
    rw [he] at hv
    obtain ⟨sb,rfl,hs⟩:=hv.AU
    split
    · rename_i l r e1 e2
      split
      · rename_i hb
        simp only [Bool.and_eq_true] at hb
        have h1:=jB hb.1
        have h2:=jB hb.2
        have hsz:sb.size=s.length:=by rw [←hs]; simp
        have:=BD (P:=P) (w:=w) false (len:=sb.size) (cap:=sb.size) (l:=l) (hh:=r) (m:=sb.size) (lo:=lo') (hi:=hi') (mx:=none) (zi hlo e1)
          (by rcases zi hhi e2 with ⟨q1,q2⟩ | q
              · exact .inl ⟨q1,rfl,by omega⟩
              · exact .inr q) (.inl ⟨rfl,rfl⟩) h1 (by omega) (Nat.le_refl _)
        refine .look I (v':= .string (sb.extract l r)) ?_ (.d _ _ (.s _ _ ?_))
        · unfold Instr.sliceAt
          simp only [Sem.run_bind,run_underlying hu,Result.andThen_ok]
          unfold Instr.slice
          simp only [Sem.run_bind,run_underlying hu,Result.andThen_ok,Option.isSome_none,Bool.false_eq_true,if_false,this,Sem.run_pure]
        · rw [Cr,hs]
      · trivial
    · trivial
  · trivial

theorem MG (I:Inv P mu G cx h w) {t e:TypeId} {n size:Nat} (hu:P.underlying t=some (.array n e)) (hz:mP P e=some size) {x:X} {lo hi mx:Option X} {tm:List AV} {x':Value} {lo' hi' mx':Option Value}
  (hg:(mx.isSome && hi.isNone)=false) (hv:bY cx w (x.ev tm) x') (hlo:BE cx w tm lo lo') (hhi:BE cx w tm hi hi') (hmx:BE cx w tm mx mx'):
  jR P mu G cx h w (zG h tm n size x lo hi mx) ((do pure (Next.value (←Instr.sliceAt t x' lo' hi' mx')):Sem Next).run P w):=by
 unfold zG
 split
 ·rename_i l r m e1 e2 e3
  split
  ·rename_i hb
   simp only [Bool.and_eq_true] at hb
   have h1:=jB hb.1.1
   have h2:=jB hb.1.2
   have h3:=jB hb.2
   have i1:=zi hlo e1
   have i2:=zi hhi e2
   have i3:=zi hmx e3
   have hrun := BD (P := P) (w := w) false (len := n) (cap := n) (l := l) (hh := r) (m := m) (lo := lo') (hi := hi') (mx := mx') i1 (by
    rcases i2 with ⟨q1,q2⟩ | q
    ·refine .inl ⟨q1,?_,q2⟩
     cases hmx with
     |none=> rfl
     |some y _ _=> cases hhi with
      |none=> simp at hg
      |some _ _ _=> simp at q1
    ·exact .inr q) i3 h1 h2 h3
   have run:∀c o,(do pure (Next.value (←Instr.sliceAt t (.pointer (some ⟨c,o,none⟩)) lo' hi' mx')):Sem Next).run P w
     = .ok (.value (.slice (some (if m=l then ⟨c,o,none⟩ else ⟨c,o+l*size,none⟩)) (r - l) (m - l))) w:=by
    intro c o
    unfold Instr.sliceAt
    simp only [Sem.run_bind,run_underlying hu,Result.andThen_ok,Instr.sureAddr,Sem.run_pure,hrun,jY hz,addr_add]
   split
   ·rename_i b off he
    rw [he] at hv
    obtain ⟨c,base,hr,rfl⟩:=hv.q_
    refine .look I (run _ _) (.sref _ _ _ _ _ _ c base _ _ hr (by omega) (Nat.le_refl _) (fun _=> rfl) ?_ (fun hx=> by cases hx))
    by_cases e:m=l
    ·right; exact ⟨by omega,rfl⟩
    ·left; rw [if_neg e,Nat.add_assoc]
   ·rename_i b cs off he
    rw [he] at hv
    obtain ⟨c,o,rfl,hcell⟩:=hv.EL
    split
    ·rename_i hlen
     have hlen:=jB hlen
     have hd:kM w cx.F (.sl b (r - l) (wC cs (off+l*size) (off+r*size))) (.slice (some (if m=l then ⟨c,o+off,none⟩ else ⟨c,o+off+l*size,none⟩)) (r - l) (m - l)):=by
      by_cases e:r=l
      ·subst e
       rw [I9,Nat.sub_self]
       exact .sl0 _ _ _
      ·have hne:¬m=l:=by omega
       rw [if_neg hne]
       refine .sl _ _ _ c _ _ (fun i=> (w.cell? ⟨c,o+off+l*size+i,none⟩).getD undef) (by omega) (by omega) (fun i hi=> ?_) (fun i hi=> ?_)
       ·obtain ⟨hl,_⟩:=Cq _ _ _ i hi
        obtain ⟨v',k1,k2,k3⟩:=hcell _ hl
        have eo:o+off+l*size+i=o+(off+l*size+i):=by omega
        rw [eo,k1]
        exact ⟨rfl,k2⟩
       ·obtain ⟨hl,e⟩:=Cq _ _ _ i hi
        obtain ⟨v',k1,k2,k3⟩:=hcell _ hl
        have eo:o+off+l*size+i=o+(off+l*size+i):=by omega
        rw [e,eo,k1]
        exact k3
     refine .look I (run _ _) ?_
     cases hb2:Nat.beq r m with
     |true=>
      have:=m_ hb2
      subst this
      exact .full _ _ _ _ hd
     |false=> exact .d _ _ hd
    ·trivial
   ·trivial
  ·trivial
 ·trivial

theorem Kk (I:Inv P mu G cx h w) {x:X} {tm:List AV} {x':Value} (hv:bY cx w (x.ev tm) x') (ρ:Operand→Value) {o:Oper} {y:Operand} (ho:o.op= .nilCheck y) (hy:ρ y=x'):
  jR P mu G cx h w (vw h tm x) ((execOp ρ o).run P w):=by
 have run:∀v,x'=v→(match v with | .pointer none | .nilIface | .nilFunc=> False | .func f _ _=> Lg f=true | _=> True)→(execOp ρ o).run P w= .ok (.value v) w:=by
  intro v e hq
  subst e
  unfold execOp
  rw [ho]
  simp only [hy]
  cases x' <;> simp at hq ⊢
  ·rename_i a
   cases a with
   |none=> simp at hq
   |some a=> simp
  ·rename_i f fs cs
   cases f with
   |method m=> simp [Lg] at hq
   |_=> simp
 unfold vw
 split
 ·rename_i b o' he
  rw [he] at hv
  obtain ⟨c,base,hr,rfl⟩:=hv.q_
  exact .look I (run _ rfl trivial) (.ptr _ _ c base hr)
 ·rename_i b o' he
  rw [he] at hv
  cases hv
  exact .look I (run _ rfl trivial) (.kQ _ _)
 ·rename_i b cs o' he
  rw [he] at hv
  obtain ⟨c,oo,rfl,_⟩:=hv.EL
  exact .look I (run _ rfl trivial) hv
 ·rename_i f fs cs he
  rw [he] at hv
  split
  ·rename_i hok
   cases hv with
   |fn _ _ _ fs' cs' h1 h2 h3 h4 h5=> exact .look I (run _ rfl hok) (.fn _ _ _ fs' cs' h1 h2 h3 h4 h5)
   |yld l c base hr=> exact .look I (run _ rfl hok) (.yld l c base hr)
  ·trivial
 ·rename_i f fs cs he
  rw [he] at hv
  split
  ·rename_i hok
   cases hv with
   |d _ _ hd=> cases hd with
    |fn _ _ _ fs' cs' h1 h2 h3 h4=> exact .look I (run _ rfl hok) (.d _ _ (.fn _ _ _ fs' cs' h1 h2 h3 h4))
  ·trivial
 ·rename_i t a he
  rw [he] at hv
  cases hv with
  |ifc _ _ v hh=> exact .look I (run _ rfl trivial) (.ifc _ _ v hh)
 ·rename_i t a he
  rw [he] at hv
  cases hv with
  |d _ _ hd=> cases hd with
   |ifc _ _ v hh=> exact .look I (run _ rfl trivial) (.d _ _ (.ifc _ _ v hh))
 ·trivial

theorem OU {d:DV} {v:Value} (h:kM w cx.F d v):bY cx w (inj1 d) v:=by
 unfold inj1
 split
 ·cases h; exact .nilsl
 ·exact .d _ _ h
theorem Ec {d:DV} {v:Value} (h:kM w cx.F d v):bY cx w (inj d) v:=by
 unfold inj
 split
 ·cases h with
  |agg cs cs' hc h2=>
   refine .agg _ cs' (by simp [hc]) (fun i hi=> ?_)
   rw [List.getElem_map]
   exact OU (h2 i (by simpa using hi))
 ·cases h; exact .nilsl
 ·exact .d _ _ h

theorem Jb {t:TypeId} {ag:Bool} {zs:List AV} {z:AV} (hf:Mw P t ag=true) (hz:nP P t=some zs) (ho:one ag zs=some z):
  ∃v,(zeroValue t).run P w= .ok v w∧bY cx w z v:=by
 unfold Mw at hf
 unfold nP at hz
 cases hi:P.info? t with
 |none=> rw [hi] at hz; cases hz
 |some i=>
  rw [hi] at hz hf
  simp only at hz hf
  cases hzv:i.zero with
  |none=> rw [hzv] at hz; cases hz
  |some zv=>
   rw [hzv] at hz hf
   simp only at hz
   have hrun:(zeroValue t).run P w= .ok zv w:=by
    unfold zeroValue
    simp only [Sem.run_bind,run_typeInfo w hi,Result.andThen_ok,hzv,Sem.run_pure]
   refine ⟨zv,hrun,?_⟩
   split at hz
   ·rename_i l hcv
    cases hz
    have hrel:=EK cx w 8 zv _ hcv
    obtain ⟨cs',e,_⟩:=hrel.zU
    subst e
    simp only at hf
    subst hf
    simp [one] at ho
    subst ho
    exact hrel
   ·rename_i v' hne hcv
    cases hz
    have hrel:=EK cx w 8 zv _ hcv
    cases zv with
    |agg cs=>
     exfalso
     simp only [cV,Option.map_eq_some_iff] at hcv
     obtain ⟨l,_,e⟩:=hcv
     exact hne l e.symm
    |_=>
     simp at hf
     subst hf
     simp [one] at ho
     subst ho
     exact hrel
   ·cases hz

theorem RA (I:Inv P mu G cx h w) {t xt:TypeId} {d:TypeDesc} {ag ok:Bool} {zs:List AV} (ht:P.underlying t=some d) (hn:∀ms,d≠ .interface ms) (hf:Mw P t ag=true) (hz:nP P t=some zs)
  {x:X} {tm:List AV} {x':Value} (hv:bY cx w (x.ev tm) x'):
  jR P mu G cx h w (Cc h tm t ag zs ok x) ((do pure (Next.value (←Instr.typeAssert x' xt t ok)):Sem Next).run P w):=by
 have OV:∀(a:AV) (v:Value) (b:Bool),bY cx w a v→bY cx w (.tup [a,.d (.b b)]) (.tuple #[v,.bool b]):=by
  intro a v b ha
  refine .tup _ _ rfl (fun i hi=> ?_)
  match i,hi with
  |0,_=> exact ha
  |1,_=> exact .d _ _ (.b b)
  |_+2,hi=> simp at hi; omega
 have good:∀(a:AV) (v:Value),bY cx w a v→x'= .iface t v→jR P mu G cx h w (.val (match ok with | true=> .tup [a,.d (.b true)] | false=> a) h) ((do pure (Next.value (←Instr.typeAssert x' xt t ok)):Sem Next).run P w):=by
  intro a v ha e
  subst e
  refine .look I (v':=if ok then .tuple #[v,.bool true] else v) ?_ ?_
  ·unfold Instr.typeAssert
   simp only [Sem.run_bind,run_underlying ht,Result.andThen_ok]
   cases d <;> first | (simp only [if_true,Sem.run_pure,Result.andThen_ok]; done) | (exact absurd rfl (hn _)) | simp
  ·cases ok
   ·exact ha
   ·exact OV _ _ _ ha
 have bad:∀(z:AV),one ag zs=some z→ok=true→(x'= .nilIface∨∃u v,u≠t∧x'= .iface u v)→jR P mu G cx h w (.val (.tup [z,.d (.b false)]) h) ((do pure (Next.value (←Instr.typeAssert x' xt t ok)):Sem Next).run P w):=by
  intro z ho eo e
  subst eo
  obtain ⟨v,h1,h2⟩:=Jb (P:=P) (w:=w) (cx:=cx) hf hz ho
  refine .look I (v':= .tuple #[v,.bool false]) ?_ (OV _ _ _ h2)
  rcases e with e | ⟨u,v',hne,e⟩
  ·subst e
   unfold Instr.typeAssert
   simp only [Sem.run_bind,run_underlying ht,Result.andThen_ok]
   cases d <;> first | (exact absurd rfl (hn _)) | simp [h1]
  ·subst e
   unfold Instr.typeAssert
   simp only [Sem.run_bind,run_underlying ht,Result.andThen_ok]
   cases d <;> first | (exact absurd rfl (hn _)) | simp [h1,hne]
 unfold Cc
 split
 ·rename_i u a he
  rw [he] at hv
  cases hv with
  |ifc _ _ v ha=>
  split
  ·rename_i hu
   have:=m_ hu
   subst this
   exact good _ _ ha rfl
  ·rename_i hu
   split
   ·rename_i z ho
    exact bad _ ho rfl (.inr ⟨u,v,fun e=> by subst e; simp at hu,rfl⟩)
   ·trivial
 ·rename_i u a he
  rw [he] at hv
  cases hv with
  |d _ _ hd=> cases hd with
   |ifc _ _ v ha=>
   split
   ·rename_i hu
    have:=m_ hu
    subst this
    exact good _ _ (Ec ha) rfl
   ·rename_i hu
    split
    ·rename_i z ho
     exact bad _ ho rfl (.inr ⟨u,v,fun e=> by subst e; simp at hu,rfl⟩)
    ·trivial
 ·rename_i he
  rw [he] at hv
  cases hv with
  |d _ _ hd=>
  cases hd
  split
  ·rename_i z ho
   exact bad _ ho rfl (.inl rfl)
  ·trivial
 ·trivial
end
end Go.Abs

namespace Go.Abs
section
variable {P : Program} {mu : List String} {G : Nat → List DV} {cx : Cx} {h : Heap} {w : World}

mutual
theorem AX:∀{a:AV} {d:DV} {v:Value},strip a=some d→bY cx w a v→kM w cx.F d v:=by
 intro a d v hs hv
 cases a with
 |d x=> simp only [strip,Option.some.injEq] at hs; subst hs; cases hv with | d _ _ h=> exact h
 |nilsl=> simp only [strip,Option.some.injEq] at hs; subst hs; cases hv; exact .sl0 _ _ _
 |app t g n cs=> simp only [strip,Option.some.injEq] at hs; subst hs; cases hv with | app _ _ _ _ _ h=> exact h
 |full b n cs=> simp only [strip,Option.some.injEq] at hs; subst hs; cases hv with | full _ _ _ a h=> exact h
 |fn f fs cs=>
  simp only [strip] at hs
  split at hs
  ·rename_i hok
   split at hs
   ·rename_i l1 h1
    split at hs
    ·rename_i l2 h2
     cases hs
     cases hv with
     |fn _ _ _ fs' cs' hf hc r1 r2 hy=>
      obtain ⟨e1,k1⟩:=uP h1 r1
      obtain ⟨e2,k2⟩:=uP h2 r2
      exact .fn _ _ _ fs' cs' (by rw [hf,e1]) (by rw [hc,e2]) k1 k2
     |yld l c base hr=> simp [Ba] at hok
    ·cases hs
   ·cases hs
  ·cases hs
 |ifc t a=>
  simp only [strip] at hs
  split at hs
  ·rename_i d h1
   cases hs
   cases hv with
   |ifc _ _ v h=> exact .ifc _ _ _ (AX h1 h)
  ·cases hs
 |agg cs=>
  simp only [strip] at hs
  split at hs
  ·rename_i l h1
   cases hs
   cases hv with
   |agg _ cs' hc r=>
    obtain ⟨e1,k1⟩:=uP h1 r
    exact .agg _ cs' (by rw [hc,e1]) k1
  ·cases hs
 |_=> simp [strip] at hs
theorem uP:∀{l:List AV} {ds:List DV} {g:Nat→Value},stripL l=some ds→(∀i (hi:i < l.length),bY cx w l[i] (g i))→
  l.length=ds.length∧∀i (hi:i < ds.length),kM w cx.F ds[i] (g i):=by
 intro l ds g hs hr
 cases l with
 |nil=> simp only [stripL,Option.some.injEq] at hs; subst hs; exact ⟨rfl,fun i hi=> absurd hi (by simp)⟩
 |cons a r=>
  simp only [stripL] at hs
  split at hs
  ·rename_i d h1
   split at hs
   ·rename_i l2 h2
    cases hs
    have := uP (g := fun i => g (i + 1)) h2 (fun i hi => by
     have:=hr (i+1) (by simp; omega)
     simpa using this)
    refine ⟨by simp [this.1],fun i hi=> ?_⟩
    cases i with
    |zero=> exact AX h1 (by have:=hr 0 (by simp); simpa using this)
    |succ i=> simpa using this.2 i (by simpa using hi)
   ·cases hs
  ·cases hs
end

theorem De {kt:TypeId} {kk:KK} (hk:C_ P kt=some kk) {a b:DV} {r:Bool} (he:Dy kk a b=some r) {a' b':Value} (ha:kM w cx.F a a') (hb:kM w cx.F b b'):
  (Op.equal kt a' b').run P w= .ok r w:=by
 unfold C_ at hk
 split at hk
 ·rename_i k hk1
  cases hk
  exact t_ (vS hk1 9999 he (.d _ _ ha) (.d _ _ hb))
 ·split at hk
  ·rename_i hs
   simp only [Option.map_eq_some_iff] at hk
   obtain ⟨ks,hk1,rfl⟩:=hk
   simp only [Bool.and_eq_true,Bool.not_eq_true'] at hs
   simp only [Dy] at he
   split at he
   ·split at he
    ·cases ha with
     |agg xs xs' hx1 hx2=> cases hb with
      |agg ys ys' hy1 hy2=>
       have:=Cn (P:=P) (w:=w) (cx:=cx) hs.1 hs.2 hk1 he (a':= .agg xs') (b':= .agg ys')
        (.agg _ xs' (by simp [hx1]) (fun i hi=> by rw [List.getElem_map]; exact .d _ _ (hx2 i (by simpa using hi))))
        (.agg _ ys' (by simp [hy1]) (fun i hi=> by rw [List.getElem_map]; exact .d _ _ (hy2 i (by simpa using hi))))
       obtain ⟨_,_,e1,e2,h3⟩:=this
       exact t_ h3
    ·cases he
   ·cases he
  ·cases hk

theorem ER {α:Type} (f:α→PUnit→Sem (ForInStep PUnit)):∀(l:List α),(∀x∈l,(f x ()).run P w= .ok (.yield ()) w)→(forIn l PUnit.unit f).run P w= .ok () w:=by
 intro l
 induction l with
 |nil=> intro _; simp
 |cons x l ih=>
  intro hf
  simp only [List.forIn_cons,Sem.run_bind,hf x (by simp),Result.andThen_ok]
  exact ih (fun y hy=> hf y (by simp [hy]))

theorem Bf (e:Bool) (n:Nat) {t:TypeId} {k:TK} (v:Value) (ht:BA P t=some k):(Instr.checkKey e (n+1) t v).run P w= .ok () w:=by
 unfold BA at ht
 unfold Instr.checkKey
 split at ht <;> first | cases ht; done | (rename_i hu; simp only [Sem.run_bind,run_underlying hu,Result.andThen_ok]; cases v <;> rfl)

theorem mapM_len {α β:Type} (f:α→Option β):∀(l:List α) (r:List β),l.mapM f=some r→l.length=r.length∧∀i (hi:i < l.length) ,∃y,f l[i]=some y:=by
 intro l
 induction l with
 |nil=> intro r h; simp at h; subst h; exact ⟨rfl,fun i hi=> absurd hi (by simp)⟩
 |cons x l ih=>
  intro r h
  rw [List.mapM_cons] at h
  cases hx:f x with
  |none=> rw [hx] at h; cases h
  |some y=>
   rw [hx] at h
   cases hl:l.mapM f with
   |none=> rw [hl] at h; cases h
   |some r'=>
    rw [hl] at h; cases h
    obtain ⟨e1,e2⟩:=ih r' hl
    refine ⟨by simp [e1],fun i hi=> ?_⟩
    cases i with
    |zero=> exact ⟨y,hx⟩
    |succ i=> exact e2 i (by simpa using hi)

theorem vZ {kt:TypeId} {kk:KK} (hk:C_ P kt=some kk) {a:DV} (he:Gb kk a=true) {a':Value} (ha:kM w cx.F a a') (e:Bool):
  (Instr.checkKey e 10000 kt a').run P w= .ok () w:=by
 unfold C_ at hk
 split at hk
 ·rename_i k hk1
  exact Bf e 9999 a' hk1
 ·split at hk
  ·rename_i hs
   simp only [Option.map_eq_some_iff] at hk
   obtain ⟨ks,hk1,rfl⟩:=hk
   simp only [Bool.and_eq_true,Bool.not_eq_true'] at hs
   obtain ⟨hu,hf⟩:=EP hs.1
   simp only [Gb] at he
   split at he
   ·rename_i l
    have hl:=m_ he
    cases ha with
    |agg _ xs' hx1 hx2=>
     have hk':((P.fieldsOf kt).toList.mapM fun f=> BA P f.type)=some ks:=by
      unfold IZ at hk1
      rw [hu] at hk1
      exact hk1
     obtain ⟨e1,e2⟩:=mapM_len _ _ _ hk'
     have key:∀n,(Instr.checkKey e (n+1+1) kt (.agg xs')).run P w= .ok () w:=by
      intro n
      unfold Instr.checkKey
      simp only [Sem.run_bind,run_underlying hu,Result.andThen_ok]
      rw [←Array.forIn_toList]
      rw [ER _ _ (fun f hf'=> ?_)]
      ·rfl
      obtain ⟨i,hi,rfl⟩:=List.getElem_of_mem hf'
      obtain ⟨y,hy⟩:=e2 i hi
      obtain ⟨n1,n2,n3⟩:=hf i hi
      have hlt:i < xs'.size:=by omega
      have px:(part (P.fieldsOf kt).toList[i].type xs' (P.fieldsOf kt).toList[i].offset).run P w= .ok (xs'.getD i undef) w:=by
       rw [n2,Nat.zero_add]; unfold part
       simp only [Sem.run_bind,uO n3,Result.andThen_ok,Bool.false_eq_true,if_false]
       simp [Array.getD_eq_getD_getElem?,hlt]
      simp only [n1,ne_eq,not_false_eq_true,if_true,Sem.run_bind,px,Result.andThen_ok,Bf e n _ hy,Sem.run_pure]
     exact key 9998
   ·cases he
  ·cases hk

theorem Jc {kk:KK} {a b:DV} {r:Bool} (h:Dy kk a b=some r):Gb kk a=true:=by
 cases kk with
 |one k=> rfl
 |many ks=>
  simp only [Dy] at h
  split at h
  ·rename_i x
   split at h
   ·rename_i y
    have:∀(ks:List TK) (x y:List AV) (r:Bool),allEq ks x y=some r→x.length=ks.length:=by
     intro ks
     induction ks with
     |nil=> intro x y r h; cases x <;> cases y <;> simp [allEq] at h ⊢
     |cons k ks ih=>
      intro x y r h
      cases x with
      |nil=> cases y <;> simp [allEq] at h
      |cons a x=> cases y with
       |nil=> simp [allEq] at h
       |cons b y=>
        simp only [allEq] at h
        split at h
        ·split at h
         ·rename_i h2
          simp [ih _ _ _ h2]
         ·cases h
        ·cases h
    have:=this _ _ _ _ h
    simp only [Gb,List.length_map] at this ⊢
    rw [this]
    simp
   ·cases h
  ·cases h

theorem Ct {kk:KK} {k:DV}:∀{es:List (DV×AV)} {i:Nat} {r},yC kk k es i=some r→Gb kk k=true:=by
 intro es
 induction es with
 |nil=>
  intro i r h
  simp only [yC] at h
  split at h
  ·assumption
  ·cases h
 |cons x es ih=>
  intro i r h
  obtain ⟨a,v⟩:=x
  simp only [yC] at h
  split at h
  ·rename_i he; exact Jc he
  ·exact ih h
  ·cases h

def Dz (cx:Cx) (w:World) (es:List (DV×AV)) (l:List MapEntry):Prop:=
 l.length=es.length∧∀i (hi:i < es.length) (hj:i < l.length),kM w cx.F es[i].1 l[i].key∧bY cx w es[i].2 l[i].val

theorem Dz.tail {e:DV×AV} {es:List (DV×AV)} {m:MapEntry} {l:List MapEntry} (h:Dz cx w (e::es) (m::l)):Dz cx w es l:=
 ⟨by simpa using h.1,fun i hi hj=> h.2 (i+1) (by simp; omega) (by simp; omega)⟩

def RB (cx:Cx) (w:World) (es:List (DV×AV)):Option (Nat×AV)→Option (Nat×Value)→Prop
 |none,none=> True
 |some (i,v),some (j,v')=> i=j∧bY cx w v v'∧∃k,es[i]? =some (k,v)
 |_,_=> False

theorem Jd {kt:TypeId} {d:TypeDesc} (hd:P.underlying kt=some d) (n:Nat) {a b:Value} {q:Bool} (hq:Instr.sameNow d a b=some q):
  (Op.equalIn (n+1) kt a b).run P w= .ok q w:=by
 unfold Instr.sameNow at hq
 split at hq
 ·split at hq
  ·rename_i hkk; cases hq; subst hkk
   simp [Op.equalIn,run_underlying hd]
  ·cases hq
 ·cases hq; simp [Op.equalIn,run_underlying hd]
 ·cases hq; simp [Op.equalIn,run_underlying hd]
 ·cases hq

theorem ES {kt:TypeId} {kk:KK} (hk:C_ P kt=some kk) {k:DV} {k':Value} (hr:kM w cx.F k k'):∀(es:List (DV×AV)) (l:List MapEntry) (i:Nat) (r:Option (Nat×AV)),
  Dz cx w es l→yC kk k es i=some r→∃r',(Instr.findAsking kt k' l i).run P w= .ok r' w∧
   (match r,r' with
    |none,none=> True
    |some (a,v),some (b,v')=> a=b∧bY cx w v v'∧i≤a∧∃q,es[a - i]? =some (q,v)
    |_,_=> False)∧(∀d,P.underlying kt=some d→∀q,Instr.findNow d k' l i=some q→q=r'):=by
 intro es
 induction es with
 |nil=>
  intro l i r he hf
  have:l=[]:=by have:=he.1; simpa using this
  subst this
  simp only [yC] at hf
  split at hf
  ·cases hf
   exact ⟨none,rfl,trivial,fun d hd q hq=> by simp [Instr.findNow] at hq; exact hq.symm⟩
  ·cases hf
 |cons e es ih=>
  intro l i r he hf
  cases l with
  |nil=> have:=he.1; simp at this
  |cons m l=>
  obtain ⟨a,v⟩:=e
  have h0:=he.2 0 (by simp) (by simp)
  simp only [List.getElem_cons_zero] at h0
  simp only [yC] at hf
  have aaS:∀d,P.underlying kt=some d→∀r,Dy kk k a=some r→∀q,Instr.sameNow d k' m.key=some q→q=r:=by
   intro d hd r hkr q hq
   have h1:=De (P:=P) (w:=w) (cx:=cx) hk hkr hr h0.1
   have h2:∀n,(Op.equalIn (n+1) kt k' m.key).run P w= .ok q w:=fun n=> Jd hd n hq
   have h3:=h2 9999
   have:(Op.equal kt k' m.key).run P w= .ok q w:=h3
   rw [h1] at this
   cases this
   rfl
  split at hf
  ·rename_i heq
   cases hf
   have h1:=De (P:=P) (w:=w) (cx:=cx) hk heq hr h0.1
   refine ⟨some (i,m.val),?_,⟨rfl,h0.2,Nat.le_refl _,a,by simp⟩,fun d hd q hq=> ?_⟩
   ·unfold Instr.findAsking
    simp [h1]
   ·unfold Instr.findNow at hq
    split at hq
    ·cases hq; rfl
    ·rename_i hs; have:=aaS d hd _ heq _ hs; cases this
    ·cases hq
  ·rename_i heq
   have h1:=De (P:=P) (w:=w) (cx:=cx) hk heq hr h0.1
   obtain ⟨r',k1,k2,k3⟩:=ih l (i+1) r he.tail hf
   refine ⟨r',?_,?_,fun d hd q hq=> ?_⟩
   ·unfold Instr.findAsking
    simp only [Sem.run_bind,h1,Result.andThen_ok,Bool.false_eq_true,if_false]
    exact k1
   ·cases r with
    |none=> cases r' with
     |none=> trivial
     |some _=> exact k2
    |some av=>
     cases r' with
     |none=> exact k2
     |some bv=>
      obtain ⟨a1,v1⟩:=av
      obtain ⟨b1,w1⟩:=bv
      obtain ⟨q1,q2,q3,q,q4⟩:=k2
      refine ⟨q1,q2,by omega,q,?_⟩
      rw [show a1 - i=(a1 - (i+1))+1 by omega]
      simpa using q4
   ·unfold Instr.findNow at hq
    split at hq
    ·rename_i hs; have:=aaS d hd _ heq _ hs; cases this
    ·exact k3 d hd q hq
    ·cases hq
  ·cases hf

theorem AY {kt:TypeId} {kk:KK} (hk:C_ P kt=some kk) {d:TypeDesc} (hd:P.underlying kt=some d) {k:DV} {k':Value} (hr:kM w cx.F k k') {es:List (DV×AV)} {l:List MapEntry} {r:Option (Nat×AV)}
  (he:Dz cx w es l) (hf:yC kk k es 0=some r):∃r',(Instr.findKey kt k' l).run P w= .ok r' w∧RB cx w es r r':=by
 obtain ⟨r',h1,h2,h3⟩:=ES hk hr es l 0 r he hf
 refine ⟨r',?_,?_⟩
 ·unfold Instr.findKey
  simp only [Sem.run_bind,run_underlying hd,Result.andThen_ok]
  cases hq:Instr.findNow d k' l 0 with
  |none=> exact h1
  |some q=> rw [h3 d hd q hq]; rfl
 ·cases r with
  |none=> cases r' with
   |none=> trivial
   |some _=> exact h2
  |some av=> cases r' with
   |none=> exact h2
   |some bv=>
    obtain ⟨q1,q2,q3,q⟩:=h2
    exact ⟨q1,q2,by simpa using q⟩

theorem ET {t kt e:TypeId} (hu:P.underlying t=some (.map kt e)) {m' k':Value} {ents:Array MapEntry}
  (hm:(m'= .map none∧ents= #[])∨∃c clock,m'= .map (some c)∧w.heap[c]? =some (.map ents clock)) (hck:∀b,(Instr.checkKey b 10000 kt k').run P w= .ok () w)
  {r':Option (Nat×Value)} (hf:(Instr.findKey kt k' ents.toList).run P w= .ok r' w) {v':Value} {b:Bool}
  (hv:(∃i,r'=some (i,v')∧b=true)∨(r'=none∧b=false∧(zeroValue e).run P w= .ok v' w)) (ok:Bool):
  (do pure (Next.value (←Instr.lookup t m' k' ok)):Sem Next).run P w= .ok (.value (if ok then .tuple #[v',.bool b] else v')) w:=by
 have:(Instr.lookup t m' k' ok).run P w= .ok (if ok then .tuple #[v',.bool b] else v') w:=by
  unfold Instr.lookup
  rcases hm with ⟨rfl,rfl⟩ | ⟨c,clock,rfl,hh⟩
  ·rcases hv with ⟨i,rfl,rfl⟩ | ⟨rfl,rfl,hz⟩
   ·simp only [Sem.run_bind,run_underlying hu,Result.andThen_ok,Sem.run_pure,hck,hf]
   ·simp only [Sem.run_bind,run_underlying hu,Result.andThen_ok,Sem.run_pure,hck,hf,hz]
  ·have hg:(getObj c).run P w= .ok (.map ents clock) w:=by simp [getObj,Sem.run,hh]
   rcases hv with ⟨i,rfl,rfl⟩ | ⟨rfl,rfl,hz⟩
   ·simp only [Sem.run_bind,run_underlying hu,Result.andThen_ok,hg,Sem.run_pure,hck,hf]
   ·simp only [Sem.run_bind,run_underlying hu,Result.andThen_ok,hg,Sem.run_pure,hck,hf,hz]
 simp [this]

theorem OW (I:Inv P mu G cx h w) {a:AV} {es:List (DV×AV)}
  (hes:(match a with | .d .xN=> some [] | .uo b=> (match h.get b with | some (.map es)=> some es | _=> none) | _=> none)=some es) {m':Value} (hm:bY cx w a m'):
  ∃ents:Array MapEntry,Dz cx w es ents.toList∧((m'= .map none∧ents= #[])∨∃c clock,m'= .map (some c)∧w.heap[c]? =some (.map ents clock)):=by
 split at hes
 ·cases hes
  have:=zf hm; subst this
  exact ⟨#[],⟨rfl,fun i hi=> absurd hi (by simp)⟩,.inl ⟨rfl,rfl⟩⟩
 ·rename_i b
  split at hes
  ·rename_i es' hb
   cases hes
   cases hm with
   |uo _ c base hr=>
   obtain ⟨c',hr',ents,clock,hh,hsz,hrel⟩:=I.heap b _ hb
   rw [hr] at hr'; cases hr'
   refine ⟨ents,⟨by simpa using hsz,fun i hi hj=> ?_⟩,.inr ⟨c,clock,rfl,hh⟩⟩
   have:=hrel i hi
   have hi':i < ents.size:=by omega
   simpa [Array.getD_eq_getD_getElem?,hi'] using this
  ·cases hes
 ·cases hes

theorem OX (I:Inv P mu G cx h w) {t kt e:TypeId} {kk:KK} {ag ok:Bool} {zs:List AV} (hu:P.underlying t=some (.map kt e)) (hk:C_ P kt=some kk) (hkd:∃d,P.underlying kt=some d) (hf:Mw P e ag=true) (hz:nP P e=some zs)
  {m k:X} {tm:List AV} {m' k':Value} (hm:bY cx w (m.ev tm) m') (hkr:bY cx w (k.ev tm) k'):
  jR P mu G cx h w (vC h tm kk ag zs ok m k) ((do pure (Next.value (←Instr.lookup t m' k' ok)):Sem Next).run P w):=by
 have OV:∀(a:AV) (v:Value) (b:Bool),bY cx w a v→bY cx w (match ok with | true=> .tup [a,.d (.b b)] | false=> a) (if ok then .tuple #[v,.bool b] else v):=by
  intro a v b ha
  cases ok
  ·exact ha
  ·refine .tup _ _ rfl (fun i hi=> ?_)
   match i,hi with
   |0,_=> exact ha
   |1,_=> exact .d _ _ (.b b)
   |_+2,hi=> simp at hi; omega
 unfold vC
 split
 ·trivial
 ·rename_i kd acp
  have FH:=AX acp hkr
  simp only
  split
  ·trivial
  ·rename_i es hes
   obtain ⟨ents,he,hm'⟩:=OW I hes hm
   obtain ⟨d,hd⟩:=hkd
   split
   ·rename_i r q i v hfk
    obtain ⟨r',q1,q2⟩:=AY hk hd FH he hfk
    cases r' with
    |none=> exact q2.elim
    |some bv=>
     obtain ⟨j,v'⟩:=bv
     obtain ⟨_,q3,_⟩:=q2
     exact .look I (ET hu hm' (fun b=> vZ hk (Ct hfk) FH b) q1 (v':=v') (b:=true) (.inl ⟨j,rfl,rfl⟩) ok) (OV _ _ _ q3)
   ·rename_i r hfk
    obtain ⟨r',q1,q2⟩:=AY hk hd FH he hfk
    cases r' with
    |some _=> exact q2.elim
    |none=>
    split
    ·rename_i z ho
     obtain ⟨zv,z1,z2⟩:=Jb (P:=P) (w:=w) (cx:=cx) hf hz ho
     exact .look I (ET hu hm' (fun b=> vZ hk (Ct hfk) FH b) q1 (v':=zv) (b:=false) (.inr ⟨rfl,rfl,z1⟩) ok) (OV _ _ _ z2)
    ·trivial
   ·trivial
end
end Go.Abs

namespace Go.Abs
section
variable {P : Program} {mu : List String} {G : Nat → List DV} {cx : Cx} {h : Heap} {w : World}

theorem Gh {a:AV} {v:Value} (hn:isAgg a=false) (hv:bY cx w a v):v.oneCell'=true:=by
 cases hv with
 |d x v h=> cases h <;> first | rfl | (simp [isAgg] at hn)
 |app _ _ _ _ _ h=> cases h <;> rfl
 |agg=> simp [isAgg] at hn
 |tup=> simp [isAgg] at hn
 |und=> simp [isAgg] at hn
 |_=> rfl

theorem Hf {v:Value} (h:v.oneCell'=true):v.cells= #[v]:=by
 cases v <;> first | rfl | (simp [Value.oneCell'] at h)

structure jg (cx:Cx) (w:World) (l:List AV) (vs:List Value):Prop where
 len:vs.length=l.length
 rel:∀i (hi:i < l.length),bY cx w l[i] (vs.getD i undef)

theorem jg.one {l:List AV} {vs:List Value} (h:jg cx w l vs) (ha:l.any Abs.isAgg=false):∀v∈vs,v.oneCell'=true:=by
 intro v hv
 obtain ⟨i,hi,rfl⟩:=List.getElem_of_mem hv
 have h1:=h.rel i (by rw [←h.len]; exact hi)
 rw [List.any_eq_false] at ha
 have h2:=ha (l[i]'(by rw [←h.len]; exact hi)) (List.getElem_mem _)
 have:vs.getD i undef=vs[i]:=by simp [List.getD,hi]
 rw [this] at h1
 exact Gh (by simpa using h2) h1

theorem jg.ext {cx':Cx} {w':World} (e:Ext cx w cx' w') {l:List AV} {vs:List Value} (h:jg cx w l vs):jg cx' w' l vs:=
 ⟨h.len,fun i hi=> (h.rel i hi).ext e⟩

theorem jg.append {l m:List AV} {vs us:List Value} (h:jg cx w l vs) (k:jg cx w m us):jg cx w (l++m) (vs++us):=by
 refine ⟨by simp [h.len,k.len],fun i hi=> ?_⟩
 by_cases e:i < l.length
 ·rw [List.getElem_append_left e]
  have:=h.rel i e
  have e':i < vs.length:=by rw [h.len]; exact e
  simpa [List.getD,List.getElem?_append_left e'] using this
 ·have e2:i - l.length < m.length:=by simp at hi; omega
  rw [List.getElem_append_right (by omega)]
  have:=k.rel (i - l.length) e2
  have e':vs.length≤i:=by rw [h.len]; omega
  rw [List.getD,List.getElem?_append_right e',h.len]
  exact this

theorem yE {a:AV} {v:Value} (hv:bY cx w a v) (ha:(cellsOf a).any isAgg=false):jg cx w (cellsOf a) v.cells.toList:=by
 by_cases e:∃cs,a= .agg cs
 ·obtain ⟨cs,rfl⟩:=e
  obtain ⟨cs',rfl,hc,h2⟩:=hv.zU
  refine ⟨by simp [Value.cells,cellsOf,hc],fun i hi=> ?_⟩
  have:=h2 i hi
  simp only [Array.getD_eq_getD_getElem?] at this
  show bY cx w cs[i] _
  simpa [Value.cells,List.getD] using this
 ·have hc:cellsOf a=[a]:=by
   unfold cellsOf
   split
   ·exact absurd ⟨_,rfl⟩ e
   ·rfl
  rw [hc] at ha ⊢
  simp only [List.any_cons,List.any_nil,Bool.or_false] at ha
  rw [Hf (Gh ha hv)]
  refine ⟨rfl,fun i hi=> ?_⟩
  have:i=0:=by simp at hi; exact hi
  subst this
  simpa [List.getD] using hv

theorem zk (cs:List AV) (off:Nat) (l:List AV):(y8 cs off l).length=cs.length:=by
 induction l generalizing cs off with
 |nil=> rfl
 |cons a r ih=> rw [y8,ih,zQ]; simp

theorem Df (l:List AV):∀(cs:List AV) (off j:Nat),off+l.length≤cs.length→(y8 cs off l)[j]? =if off≤j∧j < off+l.length then l[j - off]? else cs[j]? :=by
 induction l with
 |nil=>
  intro cs off j _
  have:¬(off≤j∧j < off+([]:List AV).length):=by simp only [List.length_nil]; omega
  rw [if_neg this]; rfl
 |cons a r ih=>
  intro cs off j hl
  simp only [List.length_cons] at hl
  rw [y8,ih _ _ _ (by rw [zQ]; simp; omega),zQ]
  by_cases e:j=off
  ·subst e
   have h1:¬(j+1≤j∧j < j+1+r.length):=by omega
   have h2:j≤j∧j < j+(a::r).length:=⟨Nat.le_refl _,by simp⟩
   have h3:j < cs.length:=by omega
   rw [if_neg h1,if_pos h2]
   simp [h3]
  ·by_cases e2:off≤j∧j < off+(a::r).length
   ·have e3:=e2; simp only [List.length_cons] at e3
    have h1:off+1≤j∧j < off+1+r.length:=by omega
    rw [if_pos h1,if_pos e2,show j - off=(j - (off+1))+1 by omega]
    simp
   ·have e3:=e2; simp only [List.length_cons] at e3
    have h1:¬(off+1≤j∧j < off+1+r.length):=by omega
    rw [if_neg h1,if_neg e2,List.getElem?_set_ne (by omega)]

theorem Lr (vs:List Value):∀(k:Nat) (cells:Array Value) (off j:Nat),off+k+vs.length≤cells.size→
  ((vs.zipIdx k).foldl (fun cs (p:Value×Nat)=> cs.setIfInBounds (off+p.2) p.1) cells).size=cells.size∧
  ((vs.zipIdx k).foldl (fun cs (p:Value×Nat)=> cs.setIfInBounds (off+p.2) p.1) cells)[j]? =if off+k≤j∧j < off+k+vs.length then vs[j - (off+k)]? else cells[j]? :=by
 induction vs with
 |nil=>
  intro k cells off j _
  have:¬(off+k≤j∧j < off+k+([]:List Value).length):=by simp only [List.length_nil]; omega
  rw [if_neg this]; exact ⟨rfl,rfl⟩
 |cons a r ih=>
  intro k cells off j hl
  simp only [List.length_cons] at hl
  rw [List.zipIdx_cons,List.foldl_cons]
  obtain ⟨i1,i2⟩:=ih (k+1) (cells.setIfInBounds (off+k) a) off j (by simp; omega)
  refine ⟨by rw [i1]; simp,?_⟩
  rw [i2]
  by_cases e:j=off+k
  ·subst e
   have h1:¬(off+(k+1)≤off+k∧off+k < off+(k+1)+r.length):=by omega
   have h2:off+k≤off+k∧off+k < off+k+(a::r).length:=⟨Nat.le_refl _,by simp⟩
   have h3:off+k < cells.size:=by omega
   rw [if_neg h1,if_pos h2]
   simp [h3]
  ·by_cases e2:off+k≤j∧j < off+k+(a::r).length
   ·have e3:=e2; simp only [List.length_cons] at e3
    have h1:off+(k+1)≤j∧j < off+(k+1)+r.length:=by omega
    rw [if_pos h1,if_pos e2,show j - (off+k)=(j - (off+(k+1)))+1 by omega]
    simp
   ·have e3:=e2; simp only [List.length_cons] at e3
    have h1:¬(off+(k+1)≤j∧j < off+(k+1)+r.length):=by omega
    rw [if_neg h1,if_neg e2,Array.getElem?_setIfInBounds_ne (by omega)]

theorem jg.put {cs l:List AV} {cells:Array Value} {vs:Array Value} (hc:jg cx w cs cells.toList) (hl:jg cx w l vs.toList) {off:Nat} (h:off+l.length≤cs.length):
  jg cx w (y8 cs off l) (vs.zipIdx.foldl (fun cs (c,j)=> cs.setIfInBounds (off+j) c) cells).toList:=by
 have hvl:vs.size=l.length:=by have:=hl.len; simpa using this
 have hcl:cells.size=cs.length:=by have:=hc.len; simpa using this
 have hz:vs.zipIdx.foldl (fun cs (c,j)=> cs.setIfInBounds (off+j) c) cells=(vs.toList.zipIdx 0).foldl (fun cs (p:Value×Nat)=> cs.setIfInBounds (off+p.2) p.1) cells:=by
  rw [←Array.foldl_toList]
  simp [Array.toList_zipIdx]
 rw [hz]
 have hb:off+0+vs.toList.length≤cells.size:=by simp; omega
 refine ⟨by simp [(Lr vs.toList 0 cells off 0 hb).1,zk,hcl],fun i hi=> ?_⟩
 have h1:=(Lr vs.toList 0 cells off i hb).2
 have h2:=Df l cs off i h
 rw [zk] at hi
 simp only [Nat.add_zero] at h1
 have hg:(y8 cs off l)[i]? =some ((y8 cs off l)[i]'(by rw [zk]; exact hi)):=by simp [zk,hi]
 have e3:vs.toList.length=l.length:=hl.len
 rw [e3] at h1
 rw [List.getD,Array.getElem?_toList,h1]
 by_cases e:off≤i∧i < off+l.length
 ·rw [if_pos e] at h2 ⊢
  have hlt:i - off < l.length:=by omega
  rw [List.getElem?_eq_getElem hlt] at h2
  rw [h2] at hg
  have:=hl.rel (i - off) hlt
  have e5:=Option.some.inj hg
  rw [←e5]
  simpa [List.getD] using this
 ·rw [if_neg e] at h2 ⊢
  rw [List.getElem?_eq_getElem hi] at h2
  rw [h2] at hg
  have:=hc.rel i hi
  have e5:=Option.some.inj hg
  rw [←e5]
  simpa [List.getD] using this

theorem Cu {tm:List AV} {place:Nat→Option (Nat×Nat)}:∀(ps:List (Nat×Nat×X)) (qs:List (Nat×Value)) (cs cs2:List AV) (cells:Array Value),
  qs.length=ps.length→(∀i (hi:i < ps.length) (hj:i < qs.length),place qs[i].1=some (ps[i].1,ps[i].2.1)∧bY cx w (ps[i].2.2.ev tm) qs[i].2)→
  jg cx w cs cells.toList→uD tm cs ps=some cs2→∃EU,Instr.fill place cells qs=some EU∧jg cx w cs2 EU.toList:=by
 intro ps
 induction ps with
 |nil=>
  intro qs cs cs2 cells hl _ hc hr
  have:qs=[]:=by simpa using hl
  subst this
  simp [uD] at hr; subst hr
  exact ⟨cells,rfl,hc⟩
 |cons p ps ih=>
  intro qs cs cs2 cells hl hp hc hr
  cases qs with
  |nil=> simp at hl
  |cons q qs=>
  obtain ⟨off,sz,x⟩:=p
  obtain ⟨qi,qv⟩:=q
  have h0:=hp 0 (by simp) (by simp)
  simp only [List.getElem_cons_zero] at h0
  simp only [uD] at hr
  split at hr
  ·rename_i hb
   simp only [Bool.and_eq_true,Bool.not_eq_true'] at hb
   obtain ⟨⟨b1,b2⟩,b3⟩:=hb
   have b1:=m_ b1
   have b2:=jB b2
   have hcl:=yE h0.2 b3
   have hv:qv.cells.size=sz:=by have:=hcl.len; simp at this; omega
   have hcs:cells.size=cs.length:=by have:=hc.len; simpa using this
   obtain ⟨c2,f1,f2⟩:=ih qs _ cs2 _ (by simpa using hl) (fun i hi hj=> hp (i+1) (by simp; omega) (by simp; omega)) (hc.put hcl (off:=off) (by omega)) hr
   refine ⟨c2,?_,f2⟩
   unfold Instr.fill
   simp only [h0.1]
   have:(qv.cells.size≠sz || off+qv.cells.size > cells.size)=false:=by simp; omega
   simp only [this,Bool.false_eq_true,if_false]
   exact f1
  ·cases hr

theorem sU {t:TypeId} {zs:List AV} (hz:nP P t=some zs):∃z,(zeroValue t).run P w= .ok z w∧jg cx w zs z.cells.toList:=by
  unfold nP at hz
  cases hi:P.info? t with
  |none=> rw [hi] at hz; cases hz
  |some i=>
    rw [hi] at hz
    simp only at hz
    cases hzv:i.zero with
    |none=> rw [hzv] at hz; cases hz
    |some zv=>
      rw [hzv] at hz
      simp only at hz
      have hrun:(zeroValue t).run P w= .ok zv w:=by
        unfold zeroValue
        simp only [Sem.run_bind,run_typeInfo w hi,Result.andThen_ok,hzv,Sem.run_pure]
      refine ⟨zv,hrun,?_⟩
      split at hz
      · rename_i l hcv
        cases hz
        obtain ⟨cs',rfl,e1,e2⟩:=(EK cx w 8 zv _ hcv).zU
        exact ⟨by simp [Value.cells,e1],fun i hi=> by have:=e2 i hi; simpa [Value.cells,List.getD,Array.getD_eq_getD_getElem?] using this⟩
      · rename_i v' hne hcv
        cases hz
        have hrel:=EK cx w 8 zv _ hcv
        have:zv.cells= #[zv]:=by
          cases zv with
          |agg cs=>
            exfalso
            simp only [cV,Option.map_eq_some_iff] at hcv
            obtain ⟨l,_,e⟩:=hcv
            exact hne l e.symm
          |_=> rfl
        rw [this]
        exact ⟨rfl, fun i hi => by have : i = 0 := by simpa using hi
                                   subst this; simpa [List.getD] using hrel⟩
      · cases hz

theorem OY {α β:Type} (f:α→Option β):∀(l:List α) (r:List β),l.mapM f=some r→∀(i:Nat) x,l[i]? =some x→∃y,f x=some y∧r[i]? =some y:=by
 intro l
 induction l with
 |nil=> intro r h i x hi; simp at hi
 |cons x l ih=>
  intro r h i y hi
  rw [List.mapM_cons] at h
  cases hx:f x with
  |none=> rw [hx] at h; cases h
  |some z=>
   rw [hx] at h
   cases hl:l.mapM f with
   |none=> rw [hl] at h; cases h
   |some r'=>
    rw [hl] at h; cases h
    cases i with
    |zero=> simp at hi; subst hi; exact ⟨z,hx,by simp⟩
    |succ i=> simpa using ih r' hl i y (by simpa using hi)

theorem Gi (I:Inv P mu G cx h w) {t:TypeId} {zs:List AV} {tm:List AV} {ps:List (Nat×Nat×X)} {qs:Array (Nat×Value)} (hz:nP P t=some zs)
    (hp:qs.size=ps.length) (hr:∀i (hi:i < ps.length) (hj:i < qs.size),bY cx w (ps[i].2.2.ev tm) qs[i].2)
    (ht : (∃ fs : Array Field, P.underlying t = some (.struct fs) ∧ (placesOf P fs).isSome = true ∧
            ∀i (hi:i < ps.length) (hj:i < qs.size),∃f,fs[qs[i].1]? =some f∧ps[i].1=f.offset∧mP P f.type=some ps[i].2.1)∨
          ∃n e s,P.underlying t=some (.array n e)∧mP P e=some s∧∀i (hi:i < ps.length) (hj:i < qs.size),ps[i].1=qs[i].1*s∧ps[i].2.1=s):
    jR P mu G cx h w (zF h tm zs ps) ((do pure (Next.value (←Instr.build t qs)):Sem Next).run P w):=by
  unfold zF
  split
  · rename_i cs hcs
    obtain ⟨it,z,hit,hiz,z2⟩:∃it z,P.info? t=some it∧it.zero=some z∧jg cx w zs z.cells.toList:=by
      obtain ⟨z,z1,z2⟩:=sU (P:=P) (w:=w) (cx:=cx) hz
      unfold nP at hz
      cases hi:P.info? t with
      |none=> rw [hi] at hz; cases hz
      |some it=>
        rw [hi] at hz
        simp only at hz
        cases hzv:it.zero with
        |none=> rw [hzv] at hz; cases hz
        |some zv=>
          have:z=zv:=by
            unfold zeroValue at z1
            simp only [Sem.run_bind,run_typeInfo w hi,Result.andThen_ok,hzv,Sem.run_pure] at z1
            cases z1; rfl
          subst this
          exact ⟨it,z,rfl,hzv,z2⟩
    have hagg:∀EU:Array Value,jg cx w cs EU.toList→bY cx w (.agg cs) (.agg EU):=by
      intro c2 hc
      refine .agg _ _ (by have:=hc.len; simpa using this) (fun i hi=> ?_)
      have:=hc.rel i hi
      simpa [List.getD,Array.getD_eq_getD_getElem?] using this
    have fin:∀c2:Array Value,P.built t qs.toList=some c2→jg cx w cs c2.toList→jR P mu G cx h w (.val (.agg cs) h) ((do pure (Next.value (←Instr.build t qs)):Sem Next).run P w):=by
      intro c2 h1 h2
      refine .look I (v':= .agg c2) ?_ (hagg c2 h2)
      simp only [Sem.run_bind,run_build w t qs c2 h1,Result.andThen_ok,Sem.run_pure]
    rcases ht with ⟨fs,hu,hs,hf⟩ | ⟨n,e,s,hu,hs,hf⟩
    · obtain ⟨places,hpl⟩:=Option.isSome_iff_exists.1 hs
      obtain ⟨c2,f1,f2⟩ := Cu (cx := cx) (w := w) (tm := tm) (place := (places.toArray[·]?)) ps qs.toList zs cs z.cells (by simpa using hp) (fun i hi hj => by
        have hj':i < qs.size:=by simpa using hj
        obtain ⟨f,g1,g2,g3⟩:=hf i hi hj'
        obtain ⟨y,g4,g5⟩:=OY _ _ _ hpl qs[i].1 f (by simpa using g1)
        obtain ⟨inf,i1,i2⟩:=zS g3
        rw [i1] at g4
        simp only [Option.map_some,Option.some.injEq] at g4
        refine ⟨?_,by simpa using hr i hi hj'⟩
        simp only [Array.getElem_toList]
        show places.toArray[qs[i].fst]? =_
        rw [List.getElem?_toArray,g5,←g4,g2,i2]) z2 hcs
      refine fin c2 ?_ f2
      unfold Program.built
      unfold placesOf at hpl
      simp only [hit,hu,hiz,hpl]
      exact f1
    · obtain ⟨c2,f1,f2⟩ := Cu (cx := cx) (w := w) (tm := tm) (place := fun i => some (i * s,s)) ps qs.toList zs cs z.cells (by simpa using hp) (fun i hi hj => by
        have hj':i < qs.size:=by simpa using hj
        obtain ⟨g1,g2⟩:=hf i hi hj'
        refine ⟨?_,by simpa using hr i hi hj'⟩
        simp only [Array.getElem_toList]
        rw [g1,g2]) z2 hcs
      refine fin c2 ?_ f2
      obtain ⟨ie,i1,i2⟩:=zS hs
      unfold Program.built
      simp only [hit,hu,hiz,i1,i2]
      exact f1
  · trivial

theorem vT (I:Inv P mu G cx h w) {sz n:Nat} {l:List AV} {a:AV} {v:Value} (hs:slView h sz a=some (n,l)) (hv:bY cx w a v):
  ∃ad cap,v= .slice ad n cap∧l.length=n*sz∧(0 < l.length→∃c o,ad=some ⟨c,o,none⟩∧∀i (hi:i < l.length),∃u,w.cell? ⟨c,o+i,none⟩=some u∧bY cx w l[i] u):=by
 have row:∀{b:Bool} {n':Nat} {cs:List DV} {v:Value},zB sz n' cs=some (n,l)→kM w cx.F (.sl b n' cs) v→
   ∃ad cap,v= .slice ad n cap∧l.length=n*sz∧(0 < l.length→∃c o,ad=some ⟨c,o,none⟩∧∀i (hi:i < l.length),∃u,w.cell? ⟨c,o+i,none⟩=some u∧bY cx w l[i] u):=by
  intro b n' cs v hr hd
  unfold zB at hr
  split at hr
  ·rename_i hb
   have hb:=m_ hb
   cases hr
   cases hd with
   |sl0 _ a cap=> exact ⟨a,cap,rfl,by simp,fun h=> by simp at h⟩
   |sl _ _ _ c o cap vs hn hc h1 h2=>
    refine ⟨_,cap,rfl,by simpa using hb,fun _=> ⟨c,o,rfl,fun i hi=> ?_⟩⟩
    have hi':i < cs.length:=by simpa using hi
    refine ⟨vs i,(h1 i hi').1,?_⟩
    rw [List.getElem_map]
    exact .d _ _ (h2 i hi')
  ·cases hr
 unfold slView at hs
 split at hs
 ·cases hv with
  |d _ _ hd=> exact row hs hd
 ·cases hs
  have:=oO hv; subst this
  exact ⟨none,0,rfl,by simp,fun h=> by simp at h⟩
 ·cases hv with
  |app _ _ _ _ _ hd=> exact row hs hd
 ·cases hv with
  |full _ _ _ a hd=> exact row hs hd
 ·rename_i b off z n' m ex
  split at hs
  ·rename_i fr e cs hb
   split at hs
   ·rename_i l' hrd
    cases hs
    obtain ⟨r1,r2,r3,r4⟩:=pU hrd
    cases hv with
    |sref _ _ _ _ _ _ c base cap a hr hn hm hex ha=>
     refine ⟨a,cap,rfl,r3,fun hl=> ?_⟩
     obtain ⟨c',base',hr',_,hcell⟩:=I.heap b _ hb
     rw [hr] at hr'; cases hr'
     rcases ha with rfl | ⟨h0,_⟩
     ·refine ⟨c,base+off,rfl,fun i hi=> ?_⟩
      obtain ⟨u,u1,u2,_⟩:=hcell (off+i) (by omega)
      refine ⟨u,by rw [Nat.add_assoc]; exact u1,?_⟩
      rw [r4 i hi (by omega)]; exact u2
     ·have:n=0:=by omega
      subst this
      rw [Nat.zero_mul] at r3; omega
   ·cases hs
  ·cases hs
 ·cases hs

theorem wG {l:List AV} {c o:Nat} (hc:∀i (hi:i < l.length),∃u,w.cell? ⟨c,o+i,none⟩=some u∧bY cx w l[i] u):
  ∃arr:Array Value,(loadCells ⟨c,o,none⟩ l.length).run P w= .ok arr w∧jg cx w l arr.toList:=by
 refine ⟨((List.range l.length).map fun j=> (w.cell? ⟨c,o+j,none⟩).getD undef).toArray,run_loadCells w _ _ _ (fun j hj=> ?_),by simp,fun i hi=> ?_⟩
 ·obtain ⟨u,u1,_⟩:=hc j hj
  rw [addr_add,u1]; rfl
 ·obtain ⟨u,u1,u2⟩:=hc i hi
  simp only [List.getD]
  simp [hi,u1]
  exact u2

theorem EV (I:Inv P mu G cx h w) {sz n:Nat} {l:List AV} {a:AV} {v:Value} (hs:slView h sz a=some (n,l)) (hv:bY cx w a v):
  ∃arr:Array Value,(Builtin.firstCells sz n v).run P w= .ok arr w∧jg cx w l arr.toList:=by
 obtain ⟨ad,cap,rfl,hl,hc⟩:=vT I hs hv
 by_cases e:0 < l.length
 ·obtain ⟨c,o,rfl,hcc⟩:=hc e
  obtain ⟨arr,h1,h2⟩:=wG (P:=P) hcc
  exact ⟨arr,by show (loadCells _ (n*sz)).run P w=_; rw [←hl]; exact h1,h2⟩
 ·have:l=[]:=List.eq_nil_of_length_eq_zero (by omega)
  subst this
  refine ⟨#[],?_,⟨rfl,fun i hi=> absurd hi (by simp)⟩⟩
  cases ad with
  |none=> rfl
  |some a=>
   show (loadCells a (n*sz)).run P w=_
   rw [←hl]
   simp [loadCells,loadCellsFrom]
end
end Go.Abs

namespace Go.Abs
section
variable {P : Program} {mu : List String} {G : Nat → List DV} {cx : Cx} {h : Heap} {w : World}

theorem MH (s:ByteArray) (b:UInt8):(s.push b).data.toList=s.data.toList++ [b]:=by
 simp [ByteArray.data_push]

theorem DC (ns:List Int):∀(r:ByteArray),(ns.foldl (fun r n=> r.push (UInt8.ofNat n.toNat)) r).data.toList=r.data.toList++ns.map fun n=> UInt8.ofNat n.toNat:=by
 induction ns with
 |nil=> intro r; simp
 |cons n ns ih=> intro r; rw [List.foldl_cons,ih,MH]; simp

theorem DD:∀{ds:List DV} {s:List UInt8} {vs:List Value},qm ds=some s→vs.length=ds.length→(∀i (hi:i < ds.length),kM w cx.F ds[i] (vs.getD i undef))→
  ∃ns:List Int,vs=ns.map (Value.int .u8)∧ns.map (fun n=> UInt8.ofNat n.toNat)=s:=by
 intro ds
 induction ds with
 |nil=>
  intro s vs hu hl _
  simp [qm] at hu; subst hu
  have:vs=[]:=by simpa using hl
  subst this
  exact ⟨[],rfl,rfl⟩
 |cons d ds ih=>
  intro s vs hu hl hr
  cases vs with
  |nil=> simp at hl
  |cons v vs=>
  simp only [qm] at hu
  split at hu
  ·rename_i b hb
   split at hu
   ·rename_i r hr'
    cases hu
    obtain ⟨ns,rfl,h2⟩:=ih hr' (by simpa using hl) (fun i hi=> by have:=hr (i+1) (by simp; omega); simpa using this)
    have h0:=hr 0 (by simp)
    simp only [List.getElem_cons_zero,List.getD_cons_zero] at h0
    unfold GD at hb
    split at hb
    ·rename_i n
     cases hb
     cases h0
     exact ⟨.ofNat n::ns,rfl,by simp [h2]⟩
    ·cases hb
   ·cases hu
  ·cases hu

theorem RE (I:Inv P mu G cx h w) {s d e:TypeId} (hs:P.underlying s=some (.slice e)) (he:P.underlying e=some (.int .u8)) (hd:P.underlying d=some .string) {x:X} {tm:List AV} {v:Value} (hv:bY cx w (x.ev tm) v):
  jR P mu G cx h w (vJ h tm x) ((do pure (Next.value (←convert s d v)):Sem Next).run P w):=by
 unfold vJ
 split
 ·rename_i n l hl
  split
  ·rename_i ds hds
   split
   ·rename_i b hb
    obtain ⟨ad,cap,rfl,hlen,hc⟩:=vT I hl hv
    rw [Nat.mul_one] at hlen
    have done:∀sb:ByteArray,sb.data.toList=b→(Conv.bytesToString (.slice ad n cap)).run P w= .ok (.string sb) w→
      jR P mu G cx h w (.val (.d (.s b)) h) ((do pure (Next.value (←convert s d (.slice ad n cap))):Sem Next).run P w):=by
     intro sb h1 h2
     refine .look I (v':= .string sb) ?_ (.d _ _ (.s _ _ h1))
     simp only [Sem.run_bind,run_convert_bytes_string w s d e ad n cap hs he hd,h2,Result.andThen_ok,Sem.run_pure]
    by_cases e0:0 < l.length
    ·obtain ⟨c,o,rfl,hcc⟩:=hc e0
     obtain ⟨arr,h1,h2⟩:=wG (P:=P) hcc
     rw [hlen] at h1
     obtain ⟨g1,g2⟩:=uP (cx:=cx) (w:=w) (g:=fun i=> arr.toList.getD i undef) hds h2.rel
     obtain ⟨ns,n1,n2⟩:=DD hb (vs:=arr.toList) (by rw [h2.len,g1]) g2
     have harr:arr=(ns.map (Value.int .u8)).toArray:=by rw [←n1]
     rw [harr] at h1
     exact done _ (by rw [DC,←n2]; rfl) (run_bytesToString w _ n cap ns h1)
    ·have:l=[]:=List.eq_nil_of_length_eq_zero (by omega)
     subst this
     simp only [stripL,Option.some.injEq] at hds
     subst hds
     simp only [qm,Option.some.injEq] at hb
     subst hb
     have n0:n=0:=by simpa using hlen.symm
     subst n0
     refine done .empty rfl ?_
     cases ad with
     |none=> rfl
     |some a=>
      have:=run_bytesToString (P:=P) w a 0 cap [] (by simp [loadCells,loadCellsFrom])
      simpa using this
   ·trivial
  ·trivial
 ·trivial

theorem OZ (I:Inv P mu G cx h w) {l:List X} {tm:List AV} {args:Array Value} {ts:Array TypeId} {ty:TypeId} (hl:args.size=l.length) (hr:∀i (hi:i < l.length),bY cx w (l[i].ev tm) (args.getD i undef)):
  jR P mu G cx h w (Kg h tm l) ((do pure (Next.value (←Builtin.min_ ts ty args)):Sem Next).run P w)∧
  jR P mu G cx h w (Kh h tm l) ((do pure (Next.value (←Builtin.max_ ts ty args)):Sem Next).run P w):=by
 have key:∀(k:IntKind) (a:Int) (k2:IntKind) (b:Int),l.map (fun x=> wm (x.ev tm))=[some (k,a),some (k2,b)]→args= #[.int k a,.int k2 b]:=by
  intro k a k2 b hm
  match l,hl,hr,hm with
  |[],_,_,hm=> simp at hm
  |[_],_,_,hm=> simp at hm
  |_::_::_::_,_,_,hm=> simp at hm
  |[x,y],hl,hr,hm=>
   simp only [List.map_cons,List.map_nil,List.cons.injEq,and_true] at hm
   have h0:=(xP hm.1 (hr 0 (by simp))).2
   have h1:=(xP hm.2 (hr 1 (by simp))).2
   obtain ⟨la⟩:=args
   simp only [List.size_toArray,List.length_cons,List.length_nil] at hl
   match la,hl with
   |[p,q],_=>
    simp [Array.getD] at h0 h1
    rw [h0,h1]
 constructor
 ·unfold Kg
  split
  ·rename_i k a k2 b hm
   have:=key k a k2 b hm
   subst this
   refine .look I (v':= .int k (if b < a then b else a)) ?_ ?_
   ·simp [Builtin.min_,Builtin.min2]
   ·rw [Dc]
    by_cases e:b < a
    ·simp [e]; exact .d _ _ (.i _ _)
    ·simp [e]; exact .d _ _ (.i _ _)
  ·trivial
 ·unfold Kh
  split
  ·rename_i k a k2 b hm
   have:=key k a k2 b hm
   subst this
   refine .look I (v':= .int k (if b > a then b else a)) ?_ ?_
   ·simp [Builtin.max_,Builtin.max2]
   ·rw [Dc]
    by_cases e:a < b
    ·simp [e]; exact .d _ _ (.i _ _)
    ·simp [e]; exact .d _ _ (.i _ _)
  ·trivial

theorem O0 (I:Inv P mu G cx h w) {f:Fn} (hf:∀l,f≠ .yield l) {fs cs:List X} {tm:List AV} {fs' cs':Array Value} (h1:fs'.size=fs.length) (h2:cs'.size=cs.length)
  (r1:∀i (hi:i < fs.length),bY cx w (fs[i].ev tm) (fs'.getD i undef)) (r2:∀i (hi:i < cs.length),bY cx w (cs[i].ev tm) (cs'.getD i undef)):
  jR P mu G cx h w (EC h tm f fs cs) ((do pure (Next.value (←Instr.makeFunc f fs' cs')):Sem Next).run P w):=by
 refine .look I (v':= .func f fs' cs') rfl (.fn _ _ _ _ _ (by simp [h1]) (by simp [h2]) (fun i hi=> ?_) (fun i hi=> ?_) hf)
 ·rw [List.getElem_map]; exact r1 i (by simpa using hi)
 ·rw [List.getElem_map]; exact r2 i (by simpa using hi)

theorem RF (I:Inv P mu G cx h w) {t e:TypeId} {n:Nat} (hu:P.underlying t=some (.array n e)) {x:X} {tm:List AV} {v:Value} (hv:bY cx w (x.ev tm) v):
  jR P mu G cx h w (Cf h tm n x) ((do pure (Next.value (←Instr.arrayAt t v)):Sem Next).run P w):=by
 have run:∀a len cap,n≤len→(do pure (Next.value (←Instr.arrayAt t (.slice a len cap))):Sem Next).run P w= .ok (.value (.pointer a)) w:=by
  intro a len cap hl
  have:¬len < n:=by omega
  simp [Instr.arrayAt,run_underlying hu,this]
 have row:∀{b:Bool} {k:Nat} {cs:List DV} {v:Value},kM w cx.F (.sl b k cs) v→n≤k→0 < n→
   jR P mu G cx h w (.val (.d (.bx b cs 0)) h) ((do pure (Next.value (←Instr.arrayAt t v)):Sem Next).run P w):=by
  intro b k cs v hd h1 h2
  cases hd with
  |sl0=> omega
  |sl _ _ _ c o cap vs hn hc k1 k2=> exact .look I (run _ _ _ h1) (.d _ _ (.bx b cs 0 c o vs k1 k2))
 unfold Cf
 split
 ·rename_i b off z k m ex he
  rw [he] at hv
  split
  ·rename_i hb
   simp only [Bool.and_eq_true] at hb
   have hb2:=ru hb.2
   have hb:=jB hb.1
   cases hv with
   |sref _ _ _ _ _ _ c base cap a hr hn hm hex ha=>
    rcases ha with rfl | ⟨h0,h1⟩
    ·exact .look I (run _ _ _ hb) (.ptr _ _ c base hr)
    ·omega
  ·trivial
 ·rename_i b k cs he
  rw [he] at hv
  split
  ·rename_i hb
   simp only [Bool.and_eq_true] at hb
   cases hv with
   |d _ _ hd=> exact row hd (jB hb.1) (ru hb.2)
  ·trivial
 ·rename_i tk g k cs he
  rw [he] at hv
  split
  ·rename_i hb
   simp only [Bool.and_eq_true] at hb
   cases hv with
   |app _ _ _ _ _ hd=> exact row hd (jB hb.1) (ru hb.2)
  ·trivial
 ·rename_i b k cs he
  rw [he] at hv
  split
  ·rename_i hb
   simp only [Bool.and_eq_true] at hb
   cases hv with
   |full _ _ _ a hd=> exact row hd (jB hb.1) (ru hb.2)
  ·trivial
 ·trivial
end
end Go.Abs

namespace Go.Abs
section
variable {P : Program} {mu : List String} {G : Nat → List DV} {cx : Cx} {h : Heap} {w : World}

theorem Ext.grow (I:Inv P mu G cx h w) {w':World} {o:Obj} (hw:w'.heap=w.heap.push o) (hio:w'.os=w.os∧w'.output=w.output:=by exact ⟨rfl,rfl⟩):Ext cx w cx w' where
 size:=by rw [hw]; simp
 ρ _ _ hp:=hp
 K t κ hk:=⟨κ,hk,Nat.le_refl _,fun _=> rfl⟩
 Z _ _ z:=z
 B _ _:=Iff.rfl
 cell c o hz:=cell_of_heap (by rw [hw,kZ _ _ _ (zlt I hz)]) o none
 el c arr e fz hh:=⟨arr,fz,by rw [hw,kZ _ _ _ (Array.getElem?_eq_some_iff.1 hh).1]; exact hh,rfl⟩
 lp c L hh:=⟨L,by rw [hw,kZ _ _ _ (Array.getElem?_eq_some_iff.1 hh).1]; exact hh⟩
 io:=hio

theorem Ext.Ls (I:Inv P mu G cx h w) {w':World} {o:Obj} (hw:w'.heap=w.heap.push o) (p:Option (Nat×Nat)) (k:Option Tk) (hio:w'.os=w.os∧w'.output=w.output:=by exact ⟨rfl,rfl⟩):Ext cx w (cx.add h.n p k) w':=by
 have e1:=Ext.Db I p k
 have e2:=Ext.grow I hw hio
 exact {size:=e2.size,ρ:=e1.ρ,K:=e1.K,Z:=e1.Z,B:=e1.B,cell:=e2.cell,el:=e2.el,lp:=e2.lp,io:=hio}

theorem Cv {w w':World} {arr:Array Value} {e:TypeId} {fz:Nat×Nat} (hw:w'.heap=w.heap.push (.cells arr e fz)) (i:Nat) (hi:i < arr.size):
  w'.cell? ⟨w.heap.size,i,none⟩=some (arr.getD i undef):=by
 have:w'.heap[w.heap.size]? =some (.cells arr e fz):=by rw [hw]; simp
 simp [World.cell?,this,Array.getD_eq_getD_getElem?,hi]

theorem BF {w w':World} {arr:Array Value} {e:TypeId} (hw:w'.heap=w.heap.push (.cells arr e (0,0))) (i:Nat):w'.frozen? ⟨w.heap.size,i,none⟩=false:=by
 have:w'.heap[w.heap.size]? =some (.cells arr e (0,0)):=by rw [hw]; simp
 exact frozen_of_row w' _ i arr e this

theorem Inv.xC (I:Inv P mu G cx h w) {w':World} {e:TypeId} {arr:Array Value} (hw:w'.heap=w.heap.push (.cells arr e (0,0))) {cs:List AV}
  (hr:∀i (hi:i < cs.length),i < arr.size∧bY cx w cs[i] (arr.getD i undef)) (hio:w'.os=w.os∧w'.output=w.output:=by exact ⟨rfl,rfl⟩):
  Inv P mu G (cx.add h.n (some (w.heap.size,0)) none) (h.push (.cells false e cs)) w'∧Stp cx h w (cx.add h.n (some (w.heap.size,0)) none) (h.push (.cells false e cs)) w':=by
 have ext:=Ext.Ls I hw (some (w.heap.size,0)) none hio
 refine I.push _ _ _ _ hw (fun c base hp=> by cases hp; rfl) (fun c base hp=> by cases hp; rfl) (fun κ c base hk=> by cases hk) ?_ hio
 refine ⟨w.heap.size,0,by rw [Cx.qpρ]; simp,⟨arr,(0,0),by rw [hw]; simp,fun _=> rfl⟩,fun i hi=> ?_⟩
 obtain ⟨h1,h2⟩:=hr i hi
 exact ⟨_,by rw [Nat.zero_add]; exact Cv hw i h1,h2.ext ext,(fun f=> by cases f),(fun _=> by rw [Nat.zero_add]; exact BF hw i)⟩

theorem jg.at {cs:List AV} {arr:Array Value} (hc:jg cx w cs arr.toList):∀i (hi:i < cs.length),i < arr.size∧bY cx w cs[i] (arr.getD i undef):=by
 intro i hi
 have:=hc.len
 refine ⟨by simp at this; omega,?_⟩
 have:=hc.rel i hi
 simpa [List.getD,Array.getD_eq_getD_getElem?] using this

theorem jR.made {v:AV} {v':Value} {r:Result Next} {cx':Cx} {h':Heap} {w':World} (hi:Inv P mu G cx' h' w'∧Stp cx h w cx' h' w') (hr:r= .ok (.value v') w') (hv:bY cx' w' v v'):
  jR P mu G cx h w (.val v h') r:=⟨cx',w',hi.1,hi.2,.inl ⟨v',hr,hv⟩⟩

theorem nX (e:TypeId) (arr:Array Value):(newRow e arr).run P w= .ok ⟨w.heap.size,0,none⟩ {w with heap:=w.heap.push (.cells arr e (0,0))}:=by
 simp [newRow]

theorem MI (I:Inv P mu G cx h w) {e:TypeId} {zs:List AV} (hz:nP P e=some zs):
  jR P mu G cx h w (Lh h e zs) ((do pure (Next.value (←Instr.alloc e true (.tuple #[]))):Sem Next).run P w):=by
 obtain ⟨z,z1,z2⟩:=sU (P:=P) (w:=w) (cx:=cx) hz
 have hp:=I.xC (w':={w with heap:=w.heap.push (.cells z.cells e (0,0))}) rfl z2.at
 refine .made hp (v':= .pointer (some ⟨w.heap.size,0,none⟩)) ?_ ?_
 ·unfold Instr.alloc
  simp only [Sem.run_bind,z1,Result.andThen_ok,newVar,nX,Sem.run_pure]
 ·have:=bY.ptr (cx:=cx.add h.n (some (w.heap.size,0)) none) (w:={w with heap:=w.heap.push (.cells z.cells e (0,0))}) h.n 0 w.heap.size 0 (by rw [Cx.qpρ]; simp)
  exact this

theorem RG (I:Inv P mu G cx h w) {e:TypeId} {x:X} {tm:List AV} {v:Value} (hv:bY cx w (x.ev tm) v):
  jR P mu G cx h w (Ez h tm e x) ((do pure (Next.value (←Instr.box e v)):Sem Next).run P w):=by
 unfold Ez
 split
 ·rename_i hk
  have hcl:=yE hv (by simpa [okCells] using hk)
  have hp:=I.xC (w':={w with heap:=w.heap.push (.cells v.cells e (0,0))}) rfl hcl.at
  refine .made hp (v':= .pointer (some ⟨w.heap.size,0,none⟩)) ?_ ?_
  ·unfold Instr.box
   simp only [Sem.run_bind,newVar,nX,Result.andThen_ok,Sem.run_pure]
  ·have:=bY.ptr (cx:=cx.add h.n (some (w.heap.size,0)) none) (w:={w with heap:=w.heap.push (.cells v.cells e (0,0))}) h.n 0 w.heap.size 0 (by rw [Cx.qpρ]; simp)
   exact this
 ·trivial

theorem vE (zs:List AV) (n:Nat):(vv zs n).length=n*zs.length:=by
 induction n with
 |zero=> simp [vv]
 |succ n ih=> simp [vv,ih,Nat.add_mul]; omega

theorem Je (zs:List AV):∀(n i:Nat) (hi:i < (vv zs n).length),∃hj:i % zs.length < zs.length,(vv zs n)[i]=zs[i % zs.length]:=by
 intro n
 induction n with
 |zero=> intro i hi; simp [vv] at hi
 |succ n ih=>
  intro i hi
  have hl:=hi
  rw [vE] at hl
  have hz:0 < zs.length:=by
   rcases Nat.eq_zero_or_pos zs.length with e | e
   ·rw [e] at hl; simp at hl
   ·exact e
  refine ⟨Nat.mod_lt _ hz,?_⟩
  simp only [vv]
  by_cases e:i < zs.length
  ·rw [List.getElem_append_left e]
   congr 1
   exact (Nat.mod_eq_of_lt e).symm
  ·rw [List.getElem_append_right (by omega)]
   obtain ⟨h1,h2⟩:=ih (i - zs.length) (by rw [vE]; rw [Nat.add_mul] at hl; omega)
   rw [h2]
   congr 1
   exact (Nat.mod_eq_sub_mod (by omega)).symm

theorem xD {zs:List AV} {z:Array Value} (hz:jg cx w zs z.toList) (n:Nat) {m:Nat} (hm:m=n*z.size):
  jg cx w (vv zs n) (((Array.range m).map (fun i=> z[i % z.size]!)).toList)∧jg cx w (vv zs n) (Builtin.zeroCells z n).toList:=by
 have hl:z.size=zs.length:=by have:=hz.len; simpa using this
 have key:jg cx w (vv zs n) (((Array.range m).map (fun i=> z[i % z.size]!)).toList):=by
  refine ⟨by simp [vE,hm,hl],fun i hi=> ?_⟩
  obtain ⟨h1,h2⟩:=Je zs n i hi
  rw [h2]
  have:=hz.rel _ h1
  rw [vE,←hl] at hi
  have hi':i < m:=by omega
  have h3:i % z.size < z.size:=by rw [hl]; exact h1
  have e1:((Array.map (fun i=> z[i % z.size]!) (Array.range m)).toList.getD i undef)=z.toList.getD (i % zs.length) undef:=by
   rw [←hl]
   simp [List.getD,hi',h3]
  rw [e1]
  exact this
 exact ⟨key,by subst hm; exact key⟩

theorem Gj (I:Inv P mu G cx h w) {t:TypeId} {r:Option Value} (hr:r=none∨((∃k n,r=some (.int k n))∧∃a b,P.underlying t=some (.map a b))):
  jR P mu G cx h w (Li h) ((do pure (Next.value (←Instr.makeMap t r)):Sem Next).run P w):=by
 have hp:=I.push (w':={w with heap:=w.heap.push (.map #[] 0)}) (.map #[] 0) (.map []) (some (w.heap.size,0)) none rfl (fun c base hp=> by cases hp; rfl) (fun c base hp=> by cases hp; rfl) (fun κ c base hk=> by cases hk)
  ⟨w.heap.size,by rw [Cx.qpρ]; simp,#[],0,by simp,rfl,fun i hi=> absurd hi (by simp)⟩
 refine .made hp (v':= .map (some w.heap.size)) ?_ ?_
 ·rcases hr with rfl | ⟨⟨k,n,rfl⟩,a,b,hu⟩
  ·simp [Instr.makeMap]
  ·simp [Instr.makeMap,run_underlying hu,asInt,asIntOf]
 ·exact bY.uo (cx:=cx.add h.n (some (w.heap.size,0)) none) (w:={w with heap:=w.heap.push (.map #[] 0)}) h.n w.heap.size 0 (by rw [Cx.qpρ]; simp)
end
end Go.Abs

namespace Go.Abs
section
variable {P : Program} {mu : List String} {G : Nat → List DV} {cx : Cx} {h : Heap} {w : World}

theorem RH (I:Inv P mu G cx h w) {t e:TypeId} {size n:Nat} {zs:List AV} {tm:List AV} {ps:List (Nat×Nat×X)} {qs:Array (Nat×Value)} (hu:P.underlying t=some (.slice e)) (hsz:mP P e=some size) (hz:nP P e=some zs) (hzs:zs.length=size)
    (hn:n*size≤65536) (hp:qs.size=ps.length) (hr:∀i (hi:i < ps.length) (hj:i < qs.size),bY cx w (ps[i].2.2.ev tm) qs[i].2)
    (hf:∀i (hi:i < ps.length) (hj:i < qs.size),ps[i].1=qs[i].1*size∧ps[i].2.1=size):
    jR P mu G cx h w (IT h tm e size n zs ps) ((do pure (Next.value (←Instr.buildSlice t n qs)):Sem Next).run P w):=by
  unfold IT
  split
  · rename_i cs hcs
    obtain ⟨z,z1,z2⟩:=sU (P:=P) (w:=w) (cx:=cx) hz
    have hzl:z.cells.size=size:=by have:=z2.len; simp at this; omega
    obtain ⟨zz,zz1,zz2⟩:∃zz:Array Value,((n*size=0∧zz= #[])∨(¬n*size=0∧zz=z.cells))∧jg cx w (vv zs n) ((Array.range (n*size)).map (fun i=> zz[i % zz.size]!)).toList:=by
      by_cases e0:n*size=0
      · refine ⟨#[],.inl ⟨e0,rfl⟩,?_⟩
        have hl:(vv zs n).length=0:=by rw [vE,hzs]; exact e0
        refine ⟨by simp [hl,e0],fun i hi=> by omega⟩
      · refine ⟨z.cells,.inr ⟨e0,rfl⟩,?_⟩
        have:=(xD z2 n (m:=n*size) (by rw [hzl])).1
        exact this
    obtain ⟨c2,f1,f2⟩ := Cu (cx := cx) (w := w) (tm := tm) (place := fun i => some (i * size,size)) ps qs.toList (vv zs n) cs _ (by simpa using hp) (fun i hi hj => by
      have hj':i < qs.size:=by simpa using hj
      obtain ⟨g1,g2⟩:=hf i hi hj'
      refine ⟨?_,by simpa using hr i hi hj'⟩
      simp only [Array.getElem_toList]
      rw [g1,g2]) zz2 hcs
    have hpc:=I.xC (w':={w with heap:=w.heap.push (.cells c2 e (0,0))}) rfl f2.at
    refine .made hpc (v':= .slice (some ⟨w.heap.size,0,none⟩) n n) ?_ ?_
    · unfold Instr.buildSlice
      have:¬(n*size > 2 ^ 24):=by omega
      rcases zz1 with ⟨e0,rfl⟩ | ⟨e0,rfl⟩
      · rw [e0] at f1 this
        simp only [Sem.run_bind,run_underlying hu,Result.andThen_ok,jY hsz,this,if_false,e0,if_true,Sem.run_pure,f1,nX]
      · simp only [Sem.run_bind,run_underlying hu,Result.andThen_ok,jY hsz,this,if_false,e0,z1,Sem.run_pure,f1,nX]
    · exact bY.sref (cx:=cx.add h.n (some (w.heap.size,0)) none) (w:={w with heap:=w.heap.push (.cells c2 e (0,0))}) _ _ _ _ _ _ w.heap.size 0 n _ (by rw [Cx.qpρ]; simp) (Nat.le_refl _) (Nat.le_refl _) (fun _=> rfl) (.inl rfl) (fun hx=> by cases hx)
  · trivial

theorem wrap_i64_small {n:Nat} (h:n≤140737488355328):IntKind.i64.wrap (n:Int)=(n:Int):=wrap_small n (by omega) (by omega)

theorem O1 (I:Inv P mu G cx h w) {t e:TypeId} {size bytes:Nat} {zs:List AV} {tm:List AV} {l c:X} {l' c':Value} (hu:P.underlying t=some (.slice e)) (hsz:mP P e=some size) (hby:byT P e=some bytes) (hz:nP P e=some zs) (hzs:zs.length=size)
  (hl:bY cx w (l.ev tm) l') (hc:bY cx w (c.ev tm) c'):
  jR P mu G cx h w (Bu h tm e size bytes zs l c) ((do pure (Next.value (←Instr.makeSlice t l' c')):Sem Next).run P w):=by
 unfold Bu
 split
 ·rename_i n m e1 e2
  split
  ·rename_i hb
   simp only [Bool.and_eq_true] at hb
   have h1:=jB hb.1.1
   have h2:=jB hb.1.2
   have h3:=jB hb.2
   obtain ⟨k1,rfl⟩:=sS e1 hl
   obtain ⟨k2,rfl⟩:=sS e2 hc
   obtain ⟨z,z1,z2⟩:=sU (P:=P) (w:=w) (cx:=cx) hz
   have hzl:z.cells.size=size:=by have:=z2.len; simp at this; omega
   obtain ⟨zz,zz1,zz2⟩:∃zz:Array Value,((m*size=0∧zz= #[])∨(¬m*size=0∧zz=z.cells))∧jg cx w (vv zs m) ((Array.range (m*size)).map (fun i=> zz[i % zz.size]!)).toList:=by
    by_cases e0:m*size=0
    ·refine ⟨#[],.inl ⟨e0,rfl⟩,?_⟩
     have hl:(vv zs m).length=0:=by rw [vE,hzs]; exact e0
     refine ⟨by simp [hl,e0],fun i hi=> by omega⟩
    ·refine ⟨z.cells,.inr ⟨e0,rfl⟩,?_⟩
     have:=(xD z2 m (m:=m*size) (by rw [hzl])).1
     exact this
   have hpc:=I.xC (w':={w with heap:=w.heap.push (.cells ((Array.range (m*size)).map (fun i=> zz[i % zz.size]!)) e (0,0))}) rfl zz2.at
   have hbi:∃i,P.info? e=some i∧i.bytes=bytes:=by
    unfold byT at hby
    cases hi:P.info? e with
    |none=> rw [hi] at hby; cases hby
    |some i=> rw [hi] at hby; cases hby; exact ⟨i,rfl,rfl⟩
   obtain ⟨inf,i1,i2⟩:=hbi
   refine .made hpc (v':= .slice (some ⟨w.heap.size,0,none⟩) n m) ?_ ?_
   ·unfold Instr.makeSlice
    have w1:=wrap_i64_small (n:=n) (by omega)
    have w2:=wrap_i64_small (n:=m) (by omega)
    have t1:¬((bytes:Int)*(m:Int) > 2 ^ 48):=by
     have:((m*bytes:Nat):Int)≤140737488355328:=by omega
     rw [Int.natCast_mul,Int.mul_comm] at this
     omega
    have t2:¬((m:Int) < 0):=by omega
    have t3:¬((n:Int) < 0):=by omega
    have t4:¬((n:Int) > (m:Int)):=by omega
    rcases zz1 with ⟨e0,rfl⟩ | ⟨e0,rfl⟩
    ·simp only [Sem.run_bind,run_underlying hu,Result.andThen_ok,asInt,asIntOf,Sem.run_pure,run_typeInfo w i1,i2,Int.ofNat_eq_natCast,w1,w2,t1,t2,t3,t4,decide_false,Bool.or_false,Bool.false_eq_true,if_false,run_askRoom,jY hsz,Int.toNat_natCast,e0,if_true,nX]
    ·simp only [Sem.run_bind,run_underlying hu,Result.andThen_ok,asInt,asIntOf,Sem.run_pure,run_typeInfo w i1,i2,Int.ofNat_eq_natCast,w1,w2,t1,t2,t3,t4,decide_false,Bool.or_false,Bool.false_eq_true,if_false,run_askRoom,jY hsz,Int.toNat_natCast,e0,z1,nX]
   ·exact bY.sref (cx:=cx.add h.n (some (w.heap.size,0)) none) (w:={w with heap:=w.heap.push (.cells ((Array.range (m*size)).map (fun i=> zz[i % zz.size]!)) e (0,0))}) _ _ _ _ _ _ w.heap.size 0 m _ (by rw [Cx.qpρ]; simp) h1 (Nat.le_refl _) (fun _=> rfl) (.inl rfl) (fun hx=> by cases hx)
  ·trivial
 ·trivial

theorem RI (I:Inv P mu G cx h w) {t:TypeId} (hu:P.underlying t=some .string) {x:X} {tm:List AV} {v:Value} (hv:bY cx w (x.ev tm) v):
  jR P mu G cx h w (ED h tm true x) ((do pure (Next.value (←Instr.range t v)):Sem Next).run P w):=by
 unfold ED
 split
 ·rename_i s _ he
  rw [he] at hv
  obtain ⟨sb,rfl,hs⟩:=hv.AU
  have hp:=I.push (w':={w with heap:=w.heap.push (.stringIter sb 0)}) (.stringIter sb 0) (.sit s 0) (some (w.heap.size,0)) none rfl (fun c base hp=> by cases hp; rfl) (fun c base hp=> by cases hp; rfl) (fun κ c base hk=> by cases hk)
   ⟨w.heap.size,sb,by rw [Cx.qpρ]; simp,by simp,Nat.zero_le _,by simpa using hs⟩
  refine .made hp (v':= .pointer (some ⟨w.heap.size,0,none⟩)) ?_ ?_
  ·unfold Instr.range
   simp only [Sem.run_bind,run_underlying hu,Result.andThen_ok,Sem.run_pure,run_newObj]
  ·exact bY.itr (cx:=cx.add h.n (some (w.heap.size,0)) none) (w:={w with heap:=w.heap.push (.stringIter sb 0)}) h.n w.heap.size 0 (by rw [Cx.qpρ]; simp)
 ·trivial

theorem RJ (I:Inv P mu G cx h w) {ty:TypeId} {x:X} {tm:List AV} {v:Value} (hv:bY cx w (x.ev tm) v):
  jR P mu G cx h w (EE h tm true x) ((do pure (Next.value (←Instr.next v true ty)):Sem Next).run P w):=by
 unfold EE
 split
 ·rename_i b _ he
  rw [he] at hv
  cases hv with
  |itr _ c base hr=>
  split
  ·rename_i pos hb
   obtain ⟨c',s0,hr',hh,hpos,hs⟩:=I.heap b _ hb
   rw [hr] at hr'; cases hr'
   have hg:(getObj c).run P w= .ok (.stringIter s0 pos) w:=by simp [getObj,Sem.run,hh]
   have hlt:¬pos < s0.size:=by
    have:=congrArg List.length hs
    simp at this
    omega
   refine .look I (v':= .tuple #[.bool false]) ?_ (.tup _ _ rfl (fun i hi=> ?_))
   ·unfold Instr.next
    simp only [Sem.run_bind,hg,Result.andThen_ok,hlt,if_false,Sem.run_pure]
   ·have:i=0:=by simpa using hi
    subst this
    exact .d _ _ (.b _)
  ·rename_i b1 s1 pos hb0
   obtain ⟨c',s0,hr',hh,hpos,hs⟩:=I.heap b _ hb0
   rw [hr] at hr'; cases hr'
   have hg:(getObj c).run P w= .ok (.stringIter s0 pos) w:=by simp [getObj,Sem.run,hh]
   have hlt:pos < s0.size:=by
    have:=congrArg List.length hs
    simp at this
    omega
   split
   ·rename_i r wd hd
    have hb:∀j (hj:pos+j < s0.size),(b1::s1)[j]? =some (s0[pos+j]):=by
     intro j hj
     rw [←hs,List.getElem?_drop]
     have hlt':pos+j < s0.data.toList.length:=by simpa using hj
     rw [List.getElem?_eq_getElem hlt']
     rfl
    have hsz:s0.size - pos=Nat.succ s1.length:=by
     have:=congrArg List.length hs
     simp at this
     have:s0.size - pos=s1.length+1:=by simpa using this
     exact this
    have hg1:∀j,(s0.get! (pos+(j+1)))=s1.getD j 0:=by
     intro j
     by_cases hj:pos+(j+1) < s0.size
     ·have:=hb (j+1) hj
      rw [List.getElem?_cons_succ] at this
      rw [List.getD_eq_getElem?_getD,this]
      show s0.data[pos+(j+1)]! =_
      rw [getElem!_pos s0.data _ hj]
      rfl
     ·have h1:s1[j]? =none:=by
       rw [List.getElem?_eq_none_iff]
       omega
      rw [List.getD_eq_getElem?_getD,h1]
      show s0.data[pos+(j+1)]! =_
      rw [getElem!_neg s0.data _ hj]
      rfl
    have hg0:s0.get! pos=b1:=by
     have:=hb 0 (by simpa using hlt)
     simp only [List.getElem?_cons_zero,Option.some.injEq,Nat.add_zero] at this
     rw [this]
     show s0.data[pos]! =_
     rw [getElem!_pos s0.data _ hlt]
     rfl
    have hdec:Utf8.decode s0 pos=(r,wd):=by
     rw [Lib.decode_at,hsz,hg0,hg1 0,hg1 1,hg1 2]
     simp only [SE] at hd
     split at hd
     ·rename_i hasc
      cases hd
      unfold Lib.decodeN
      rw [if_pos (ru hasc)]
     ·exact Option.some.inj hd
    have hw:wd≤s0.size - pos:=by
     rw [hsz]
     have:=hdec
     rw [Lib.decode_at,hsz] at this
     generalize (s0.get! pos).toNat=x0,(s0.get! (pos+1)).toNat=x1,(s0.get! (pos+2)).toNat=x2,(s0.get! (pos+3)).toNat=x3 at this
     have h2:wd=(Lib.decodeN (Nat.succ s1.length) x0 x1 x2 x3).2:=by rw [this]
     rw [h2]
     unfold Lib.decodeN
     repeat' split
     all_goals simp only
     all_goals omega
    have hset:(setObj c (.stringIter s0 (pos+wd))).run P w= .ok () {w with heap:=w.heap.setIfInBounds c (.stringIter s0 (pos+wd))}:=by simp [setObj,Sem.run,hh]
    have hcl:c < w.heap.size:=(Array.getElem?_eq_some_iff.1 hh).1
    have ht:=I.OD (w':={w with heap:=w.heap.setIfInBounds c (.stringIter s0 (pos+wd))}) hb0 rfl (fun _ _=> by simp) hr (x':= .sit ((b1::s1).drop wd) (pos+wd)) (fun _ _=> by simp) (by simp)
     (fun i hi=> by simp [Ne.symm hi]) (fun arr e fz hx=> by rw [hh] at hx; cases hx) (fun L hL=> by rw [hh] at hL; cases hL)
     (fun _=> ⟨c,s0,hr,by simp [hcl],by omega,by rw [←hs]; simp⟩)
    refine .made ht (v':= .tuple #[.bool true,goInt pos,.int .i32 r]) ?_ (.tup _ _ rfl (fun i hi=> ?_))
    ·unfold Instr.next
     simp only [Sem.run_bind,hg,Result.andThen_ok,hlt,if_true,Sem.run_pure,hdec,hset]
    ·match i,hi with
     |0,_=> exact .d _ _ (.b _)
     |1,_=> exact rY pos
     |2,_=> exact .d _ _ (.i _ _)
     |_+3,hi=> simp at hi; omega
   ·trivial
  ·trivial
 ·trivial
end
end Go.Abs

namespace Go.Abs
section
variable {P : Program} {mu : List String} {G : Nat → List DV} {cx : Cx} {h : Heap} {w : World}

theorem wH (c:Nat):∀(vs:List Value) (o:Nat) (w:World),(w.setCells c o vs).os=w.os∧(w.setCells c o vs).output=w.output:=by
 intro vs
 induction vs with
 |nil=> intro o w; exact ⟨rfl,rfl⟩
 |cons v vs ih=>
  intro o w
  obtain ⟨i1,i2⟩:=ih (o+1) (w.setCell ⟨c,o,none⟩ v)
  exact ⟨i1.trans rfl,i2.trans rfl⟩

theorem om (c:Nat):∀(vs:List Value) (o:Nat) (w:World),(w.setCells c o vs).heap.size=w.heap.size∧(∀i,i≠c→(w.setCells c o vs).heap[i]? =w.heap[i]?)∧
  (∀(arr:Array Value) (e:TypeId) (fz:Nat×Nat),w.heap[c]? =some (Obj.cells arr e fz)→∃arr':Array Value,arr'.size=arr.size∧(w.setCells c o vs).heap[c]? =some (Obj.cells arr' e fz)):=by
 intro vs
 induction vs with
 |nil=> intro o w; exact ⟨rfl,fun _ _=> rfl,fun arr e fz hh=> ⟨arr,rfl,hh⟩⟩
 |cons v r ih=>
  intro o w
  obtain ⟨i1,i2,i3⟩:=ih (o+1) (w.setCell ⟨c,o,none⟩ v)
  rw [World.setCells]
  refine ⟨by rw [i1]; simp [World.setCell],fun i hi=> ?_,fun arr e fz hh=> ?_⟩
  ·rw [i2 i hi]
   simp [World.setCell,Array.getElem?_modify,Ne.symm hi]
  ·obtain ⟨a2,s2,h2⟩:=i3 (arr.setIfInBounds o v) e fz (by simp [World.setCell,Array.getElem?_modify,hh])
   exact ⟨a2,by rw [s2]; simp,h2⟩

theorem Inv.write (I:Inv P mu G cx h w) {b c base off:Nat} {e:TypeId} {cs l:List AV} {vs:List Value} (hb:h.get b=some (.cells false e cs)) (hr:cx.ρ b=some (c,base))
  (hl:jg cx w l vs) (hoff:off+l.length≤cs.length) (h1:∀v∈vs,v.oneCell'=true):
  (storeCells ⟨c,base+off,none⟩ vs).run P w= .ok () (w.setCells c (base+off) vs)∧
  Inv P mu G cx (h.set b (.cells false e (y8 cs off l))) (w.setCells c (base+off) vs)∧Stp cx h w cx (h.set b (.cells false e (y8 cs off l))) (w.setCells c (base+off) vs):=by
 obtain ⟨c',base',hr',⟨arr,fz,harr⟩,hcell⟩:=I.heap b _ hb
 rw [hr] at hr'; cases hr'
 have hc:∀j,j < vs.length→(w.cell? ⟨c,base+off+j,none⟩).isSome=true∧w.frozen? ⟨c,base+off+j,none⟩=false:=by
  intro j hj
  rw [hl.len] at hj
  obtain ⟨v,v1,_,_,v4⟩:=hcell (off+j) (by omega)
  rw [Nat.add_assoc]
  exact ⟨by rw [v1]; rfl,v4 rfl⟩
 obtain ⟨s1,s2,s3⟩:=om c vs (base+off) w
 refine ⟨?_,?_⟩
 ·have:=run_storeCells_cells (P:=P) c (base+off) vs 0 w (fun j hj=> by simpa using (hc j hj).1) (fun j hj=> by simpa using (hc j hj).2) h1
  simpa using this
 ·refine I.OD hb rfl (fun _ _=> by simp) hr (fun _ _=> by simp) s1 s2 (fun a e' f hh=> ?_) (fun L hL=> by rw [harr.1] at hL; cases hL) (fun ext=> ?_) (wH _ _ _ _)
  ·obtain ⟨a',sz',h2⟩:=s3 a e' f hh
   exact ⟨a',f,h2,sz'⟩
  ·obtain ⟨a',_,h2⟩:=s3 arr e fz harr.1
   refine ⟨c,base,hr,⟨a',fz,h2,harr.2⟩,fun i hi=> ?_⟩
   rw [zk] at hi
   have hget:=Df l cs off i hoff
   have hi2:i < (y8 cs off l).length:=by rw [zk]; exact hi
   rw [List.getElem?_eq_getElem hi2] at hget
   by_cases e0:off≤i∧i < off+l.length
   ·rw [if_pos e0] at hget
    have hlt:i - off < l.length:=by omega
    rw [List.getElem?_eq_getElem hlt] at hget
    have he:=Option.some.inj hget
    have hin:=World.cell?_setCells_in c vs (base+off) w (fun j hj=> (hc j hj).1) (i - off) (by rw [hl.len]; exact hlt)
    rw [show base+off+(i - off)=base+i by omega] at hin
    refine ⟨_,hin,?_,(fun f=> by cases f),(fun _=> ?_)⟩
    ·rw [he]
     have:=hl.rel (i - off) hlt
     have hvl:i - off < vs.length:=by rw [hl.len]; exact hlt
     simp only [List.getD,List.getElem?_eq_getElem hvl,Option.getD_some] at this
     exact this.ext ext
    ·rw [World.frozen?_setCells]
     obtain ⟨_,_,_,_,v4⟩:=hcell i hi
     exact v4 rfl
   ·rw [if_neg e0,List.getElem?_eq_getElem hi] at hget
    have he:=Option.some.inj hget
    obtain ⟨v,v1,v2,_,v4⟩:=hcell i hi
    refine ⟨v,?_,by rw [he]; exact v2.ext ext,(fun f=> by cases f),(fun _=> by rw [World.frozen?_setCells]; exact v4 rfl)⟩
    rw [World.cell?_setCells_out c vs (base+off) w _ (fun _ _=> ?_)]
    ·exact v1
    ·show base+i < base+off∨base+off+vs.length≤base+i
     rw [hl.len]; omega

theorem jR.did {r:Result Next} {cx':Cx} {h':Heap} {w':World} (hi:Inv P mu G cx' h' w'∧Stp cx h w cx' h' w') (hr:r= .ok .skip w'):
  jR P mu G cx h w (.val .und h') r:=⟨cx',w',hi.1,hi.2,.inr ⟨hr,rfl⟩⟩

theorem MJ (I:Inv P mu G cx h w) {t:TypeId} {n:Nat} (hs:mP P t=some n) {a x:X} {tm:List AV} {a' x':Value} (ha:bY cx w (a.ev tm) a') (hx:bY cx w (x.ev tm) x'):
  jR P mu G cx h w (xq h tm n a x) ((do Instr.storeAt t a' x'; pure Next.skip:Sem Next).run P w):=by
 unfold xq
 split
 ·rename_i h' hh
  unfold Ke at hh
  split at hh
  ·rename_i b off he
   rw [he] at ha
   obtain ⟨c,base,hr,rfl⟩:=ha.q_
   split at hh
   ·rename_i e cs hb
    simp only at hh
    split at hh
    ·rename_i hk
     cases hh
     simp only [Bool.and_eq_true,Bool.not_eq_true'] at hk
     have k1:=m_ hk.1.1
     have k2:=jB hk.1.2
     have hcl:=yE hx hk.2
     have hone:=hcl.one hk.2
     obtain ⟨q1,q2⟩:=I.write (off:=off) hb hr hcl (by omega) hone
     refine .did q2 ?_
     have hsz:x'.cells.size=n:=by have:=hcl.len; simp at this; omega
     unfold Instr.storeAt storeVar
     simp only [Instr.sureAddr,Sem.run_bind,Sem.run_pure,Result.andThen_ok,jY hs,hsz,ne_eq,not_true_eq_false,if_false,q1]
    ·cases hh
   ·cases hh
  ·cases hh
 ·trivial
end
end Go.Abs

namespace Go.Abs
section
variable {P : Program} {mu : List String} {G : Nat → List DV} {cx : Cx} {h : Heap} {w : World}

theorem DF {k:TK} {a b:DV} (he:vP k (.d a) (.d b)=some true):a=b:=by
 cases k with
 |b=>
  cases a <;> simp [vP] at he
  cases b <;> simp at he
  subst he; rfl
 |i=>
  simp only [vP] at he
  split at he
  ·rename_i j x hx
   split at he
   ·rename_i l y hy
    split at he
    ·rename_i hk
     have:=(BC _ _).1 hk; subst this
     rw [EM] at he
     simp at he; subst he
     unfold wm at hx hy
     split at hx
     ·rename_i e1; cases e1; cases hx
      split at hy
      ·rename_i e2; cases e2; cases hy; rfl
      ·cases hy
     ·cases hx
    ·cases he
   ·cases he
  ·cases he
 |s=>
  simp only [vP] at he
  split at he
  ·rename_i x hx
   split at he
   ·rename_i y hy
    have hxy:x=y:=by simpa [strEq] using he
    subst hxy
    unfold DX at hx hy
    split at hx
    ·rename_i e1; cases e1; cases hx
     split at hy
     ·rename_i e2; cases e2; cases hy; rfl
     ·cases hy
    ·cases hx
   ·cases he
  ·cases he

theorem Kl:∀{ks:List TK} {x y:List DV},allEq ks (x.map .d) (y.map .d)=some true→x=y:=by
 intro ks
 induction ks with
 |nil=> intro x y h; cases x <;> cases y <;> simp [allEq] at h ⊢
 |cons k ks ih=>
  intro x y h
  cases x with
  |nil=> cases y <;> simp [allEq] at h
  |cons a x=> cases y with
   |nil=> simp [allEq] at h
   |cons b y=>
    simp only [List.map_cons,allEq] at h
    split at h
    ·rename_i r1 h1
     split at h
     ·rename_i r2 h2
      simp only [Option.some.injEq,Bool.and_eq_true] at h
      obtain ⟨e1,e2⟩:=h
      subst e1; subst e2
      rw [DF h1,ih h2]
     ·cases h
    ·cases h

theorem Km {kk:KK} {a b:DV} (he:Dy kk a b=some true):a=b:=by
 cases kk with
 |one k=> exact DF he
 |many ks=>
  simp only [Dy] at he
  split at he
  ·split at he
   ·rw [Kl he]
   ·cases he
  ·cases he

theorem O3 {kk:KK} {k:DV}:∀{es:List (DV×AV)} {i j:Nat} {v:AV},yC kk k es i=some (some (j,v))→i≤j∧es[j - i]? =some (k,v):=by
 intro es
 induction es with
 |nil=> intro i j v h; simp only [yC] at h; split at h <;> cases h
 |cons x es ih=>
  intro i j v h
  obtain ⟨a,u⟩:=x
  simp only [yC] at h
  split at h
  ·rename_i he
   cases h
   rw [Km he]
   simp
  ·obtain ⟨h1,h2⟩:=ih h
   refine ⟨by omega,?_⟩
   rw [show j - i=(j - (i+1))+1 by omega]
   simpa using h2
  ·cases h

theorem RL:∀(es:List (DV×AV)) (i:Nat) (k:DV) (u v:AV),es[i]? =some (k,u)→Ra es i v=es.set i (k,v):=by
 intro es
 induction es with
 |nil=> intro i k u v h; simp at h
 |cons x es ih=>
  intro i k u v h
  cases i with
  |zero=> obtain ⟨a,b⟩:=x; simp at h; obtain ⟨rfl,rfl⟩:=h; rfl
  |succ i=> simp only [Ra,List.set_cons_succ]; rw [ih i k u v (by simpa using h)]
theorem Inv.O4 (I:Inv P mu G cx h w) {b c base:Nat} {es es':List (DV×AV)} {ents Gl:Array MapEntry} {clock clock':Nat} (hb:h.get b=some (.map es)) (hr:cx.ρ b=some (c,base))
  (hh:w.heap[c]? =some (.map ents clock)) {w':World} (hw:w'.heap=w.heap.setIfInBounds c (.map Gl clock')) (he:Dz cx w es' Gl.toList) (hio:w'.os=w.os∧w'.output=w.output:=by exact ⟨rfl,rfl⟩):
  Inv P mu G cx (h.set b (.map es')) w'∧Stp cx h w cx (h.set b (.map es')) w':=by
 have hcl:c < w.heap.size:=(Array.getElem?_eq_some_iff.1 hh).1
 have hb0:=I.sep.base0 _ _ _ hr
 subst hb0
 refine I.OD hb rfl (fun _ _=> by simp) hr (fun _ _=> by simp) (by rw [hw]; simp) (fun i hi=> by rw [hw]; simp [Ne.symm hi]) (fun arr e fz hx=> by rw [hh] at hx; cases hx) (fun L hL=> by rw [hh] at hL; cases hL) (fun ext=> ?_) hio
 refine ⟨c,hr,Gl,clock',by rw [hw]; simp [hcl],by have:=he.1; simpa using this,fun i hi=> ?_⟩
 have hl:=he.1
 have hi':i < Gl.size:=by simp at hl; omega
 have:=he.2 i hi (by simpa using hi')
 simp only [Array.getElem_toList] at this
 simp only [Array.getD_eq_getD_getElem?,Array.getElem?_eq_getElem hi',Option.getD_some]
 exact ⟨this.1.ext ext,this.2.ext ext⟩

theorem EW {c:Nat} {ents:Array MapEntry} {clock:Nat} (hh:w.heap[c]? =some (.map ents clock)):(getObj c).run P w= .ok (.map ents clock) w:=by simp [getObj,Sem.run,hh]
theorem EX {c:Nat} {ents:Array MapEntry} {clock:Nat} (hh:w.heap[c]? =some (.map ents clock)) (o:Obj):(setObj c o).run P w= .ok () {w with heap:=w.heap.setIfInBounds c o}:=by simp [setObj,Sem.run,hh]

theorem run_keyThatStays (old new:Value):∃k w',(Instr.keyThatStays old new).run P w= .ok k w'∧w'.heap=w.heap∧(k=old∨k=new)∧(w'.os=w.os∧w'.output=w.output):=by
 unfold Instr.keyThatStays
 split
 ·exact ⟨new,w,rfl,rfl,.inr rfl,rfl,rfl⟩
 ·simp only [Sem.run_bind,run_choose]
  split
  ·exact ⟨_,w,rfl,rfl,by simp⟩
  ·refine ⟨_,_,rfl,rfl,?_,rfl,rfl⟩
   split
   ·exact .inr rfl
   ·exact .inl rfl

theorem Jf (I:Inv P mu G cx h w) {t kt e:TypeId} {kk:KK} (hu:P.underlying t=some (.map kt e)) (hk:C_ P kt=some kk) {d:TypeDesc} (hd:P.underlying kt=some d)
    {m k v:X} {tm:List AV} {m' k' v':Value} (hm:bY cx w (m.ev tm) m') (hkr:bY cx w (k.ev tm) k') (hv:bY cx w (v.ev tm) v'):
    jR P mu G cx h w (Bv h tm kk m k v) ((do Instr.mapUpdate t m' k' v'; pure Next.skip:Sem Next).run P w):=by
  unfold Bv
  split
  · rename_i b kd hmb hkd
    have FH:=AX hkd hkr
    split
    · rename_i es hb
      rw [hmb] at hm
      cases hm with
      |uo _ c base hr=>
      obtain ⟨c',hr',ents,clock,hh,hsz,hrel⟩:=I.heap b _ hb
      rw [hr] at hr'; cases hr'
      have he : Dz cx w es ents.toList := ⟨by simpa using hsz,fun i hi hj => by
        have:=hrel i hi
        have hi':i < ents.size:=by omega
        simpa [Array.getD_eq_getD_getElem?,hi'] using this⟩
      split
      · rename_i i u hf
        obtain ⟨r',q1,q2⟩:=AY hk hd FH he hf
        cases r' with
        |none=> exact q2.elim
        |some bv=>
          obtain ⟨j,u'⟩:=bv
          obtain ⟨ej,_,_⟩:=q2
          subst ej
          obtain ⟨_,hat⟩:=O3 hf
          rw [Nat.sub_zero] at hat
          have hil:i < es.length:=(List.getElem?_eq_some_iff.1 hat).1
          have hie:i < ents.size:=by omega
          have heq:es[i]=(kd,u):=(List.getElem?_eq_some_iff.1 hat).2
          obtain ⟨kw,w1,g1,g2,g3,g4⟩:=run_keyThatStays (P:=P) (w:=w) (((ents[i]?).map (·.key)).getD k') k'
          have hold:kM w cx.F kd (((ents[i]?).map (·.key)).getD k'):=by
            have:=(he.2 i hil (by simpa using hie)).1
            rw [heq] at this
            simpa [hie] using this
          have hkw:kM w cx.F kd kw:=by rcases g3 with rfl | rfl <;> assumption
          have hh1:w1.heap[c]? =some (.map ents clock):=by rw [g2]; exact hh
          refine .did (I.O4 (Gl:=ents.modify i fun e=> {e with key:=kw,val:=v'}) (clock':=clock) hb hr hh (w':={w1 with heap:=w1.heap.setIfInBounds c (.map (ents.modify i fun e=> {e with key:=kw,val:=v'}) clock)}) (by rw [g2]) ?_ g4) ?_
          · rw [RL es i kd u _ hat]
            refine ⟨by simp [hsz],fun j hj hj'=> ?_⟩
            simp only [List.length_set] at hj
            have hje:j < ents.size:=by omega
            by_cases e0:i=j
            · subst e0
              simp only [List.getElem_set_self,Array.getElem_toList,Array.getElem_modify,if_true]
              exact ⟨hkw,hv⟩
            · simp only [List.getElem_set_ne e0,Array.getElem_toList,Array.getElem_modify,e0,if_false]
              have:=he.2 j hj (by simpa using hje)
              simpa using this
          · unfold Instr.mapUpdate
            simp only [Sem.run_bind,run_underlying hu,Result.andThen_ok,EW hh,vZ hk (Ct hf) FH,q1,g1,EX hh1,Sem.run_pure]
      · rename_i hf
        obtain ⟨r',q1,q2⟩:=AY hk hd FH he hf
        cases r' with
        |some _=> exact q2.elim
        |none=>
        refine .did (I.O4 (Gl:=ents.push {key:=k',val:=v',born:=clock}) (clock':=clock+1) hb hr hh (w':={w with heap:=w.heap.setIfInBounds c (.map (ents.push {key:=k',val:=v',born:=clock}) (clock+1))}) rfl ?_) ?_
        · refine ⟨by simp [hsz],fun j hj hj'=> ?_⟩
          by_cases e0:j < es.length
          · have hje:j < ents.size:=by omega
            have:=he.2 j e0 (by simpa using hje)
            have e1:(ents.push {key:=k',val:=v',born:=clock}).toList[j]'hj'=ents[j]:=by
              rw [Array.getElem_toList]; exact Array.getElem_push_lt hje
            rw [e1,List.getElem_append_left e0]
            simpa using this
          · have ej:j=es.length:=by simp at hj; omega
            subst ej
            have:es.length=ents.size:=hsz.symm
            simp only [List.getElem_append_right (Nat.le_refl _),Nat.sub_self,List.getElem_cons_zero,Array.getElem_toList]
            simp [Array.getElem_push,this]
            exact ⟨FH,hv⟩
        · unfold Instr.mapUpdate
          simp only [Sem.run_bind,run_underlying hu,Result.andThen_ok,EW hh,vZ hk (Ct hf) FH,q1,EX hh,Sem.run_pure]
      · trivial
    · trivial
  · trivial

end
end Go.Abs

namespace Go.Abs
section
variable {P : Program} {mu : List String} {G : Nat → List DV} {cx : Cx} {h : Heap} {w : World}

theorem jg.take {l:List AV} {vs:List Value} (h:jg cx w l vs) (n:Nat):jg cx w (l.take n) (vs.take n):=by
 refine ⟨by simp [h.len],fun i hi=> ?_⟩
 simp only [List.length_take] at hi
 have:=h.rel i (by omega)
 have hi':i < n:=by omega
 simpa [List.getD,List.getElem?_take,hi'] using this

theorem D5 (I:Inv P mu G cx h w) {sz n:Nat} {l:List AV} {a:AV} {v:Value} (hs:slView h sz a=some (n,l)) (hv:bY cx w a v) {m:Nat} (hm:m≤n):
  ∃arr:Array Value,(Builtin.firstCells sz m v).run P w= .ok arr w∧jg cx w (l.take (m*sz)) arr.toList:=by
 obtain ⟨ad,cap,rfl,hl,hc⟩:=vT I hs hv
 have hle:m*sz≤l.length:=by rw [hl]; exact Nat.mul_le_mul_right _ hm
 have hlen:(l.take (m*sz)).length=m*sz:=by simp; omega
 by_cases e:0 < m*sz
 ·obtain ⟨c,o,rfl,hcc⟩:=hc (by omega)
  obtain ⟨arr,h1,h2⟩ := wG (P := P) (w := w) (cx := cx) (l := l.take (m * sz)) (c := c) (o := o) (fun i hi => by
   obtain ⟨u,u1,u2⟩:=hcc i (by omega)
   exact ⟨u,u1,by rw [List.getElem_take]; exact u2⟩)
  rw [hlen] at h1
  exact ⟨arr,h1,h2⟩
 ·have e0:m*sz=0:=by omega
  rw [e0]
  refine ⟨#[],?_,⟨rfl,fun i hi=> by simp at hi⟩⟩
  cases ad with
  |none=> rfl
  |some a=>
   show (loadCells a (m*sz)).run P w=_
   rw [e0]
   simp [loadCells,loadCellsFrom]

theorem MK {s:ByteArray} {l:List UInt8} (hs:s.data.toList=l) (m:Nat):jg cx w (((bytesD l).map AV.d).take m) ((s.extract 0 m).data.map fun b=> Value.int .u8 b.toNat).toList:=by
 have h1:(s.extract 0 m).data.toList=l.take m:=by rw [Cr,hs]; simp [wC]
 have h2:((s.extract 0 m).data.map fun b=> Value.int .u8 b.toNat).toList=(l.take m).map fun b=> Value.int .u8 (b.toNat:Int):=by
  rw [Array.toList_map,h1]
 rw [h2]
 refine ⟨by simp [bytesD],fun i hi=> ?_⟩
 simp only [List.length_take,List.length_map,bytesD] at hi
 have hi':i < l.length:=by omega
 have hi2:i < m:=by omega
 have e1:((bytesD l).map AV.d)[i]? =some (.d (byteD l[i])):=by simp [bytesD,hi']
 have e2:(((bytesD l).map AV.d).take m)[i]? =some (.d (byteD l[i])):=by rw [List.getElem?_take,if_pos hi2,e1]
 rw [List.getElem?_eq_some_iff] at e2
 obtain ⟨_,e3⟩:=e2
 rw [e3]
 simp only [List.getD]
 simp [hi',hi2]
 exact .d _ _ (.i _ _)

theorem yF (I:Inv P mu G cx h w) {sz n:Nat} {l:List AV} {a:AV} {v:Value} (hs:srcView h sz a=some (n,l)) (hv:bY cx w a v):
  (Builtin.lenOf v).run P w= .ok n w∧l.length=n*sz∧∀m,m≤n→∃arr:Array Value,(Builtin.firstCells sz m v).run P w= .ok arr w∧jg cx w (l.take (m*sz)) arr.toList:=by
 unfold srcView at hs
 split at hs
 ·rename_i s
  obtain ⟨sb,rfl,hsb⟩:=hv.AU
  split at hs
  ·rename_i h1
   have h1:=m_ h1
   cases hs
   subst h1
   have hsz:sb.size=s.length:=by rw [←hsb]; simp
   refine ⟨by simp [Builtin.lenOf,hsz],by simp [bytesD],fun m hm=> ⟨_,rfl,?_⟩⟩
   rw [Nat.mul_one]
   exact MK hsb m
  ·cases hs
 ·obtain ⟨ad,cap,rfl,hl,_⟩:=vT I hs hv
  exact ⟨rfl,hl,fun m hm=> D5 I hs hv hm⟩

theorem O5 (I:Inv P mu G cx h w) {t e ty:TypeId} {ts:Array TypeId} {size:Nat} (hts:ts[0]? =some t) (hu:P.underlying t=some (.slice e)) (hsz:mP P e=some size)
  {x y:X} {tm:List AV} {x' y':Value} (hx:bY cx w (x.ev tm) x') (hy:bY cx w (y.ev tm) y'):
  jR P mu G cx h w (By h tm size x y) ((do pure (Next.value (←Builtin.copy_ ts ty #[x',y'])):Sem Next).run P w):=by
 unfold By
 split
 ·rename_i k l b off z n m ex hs he
  rw [he] at hx
  obtain ⟨s1,s2,s3⟩:=yF I hs hy
  split
  ·rename_i el cs hb
   simp only
   split
   ·rename_i hk
    simp only [Bool.and_eq_true] at hk
    have hoff:=jB hk.1
    obtain ⟨arr,f1,f2⟩:=s3 (min k n) (Nat.min_le_left _ _)
    have hone:=f2.one (by simpa [okCells] using hk.2)
    have hll:(l.take (min k n*size)).length=min k n*size:=by
     have:min k n*size≤l.length:=by rw [s2]; exact Nat.mul_le_mul_right _ (Nat.min_le_left _ _)
     simp; omega
    cases hx with
    |sref _ _ _ _ _ _ c base cap a hr hn hm hex ha=>
     obtain ⟨q1,q2⟩:=I.write (off:=off) hb hr f2 (by omega) hone
     have hrun:∀ad,a=some ad→(storeCells ad arr.toList).run P w= .ok () (w.setCells c (base+off) arr.toList):=by
      intro ad e0
      rcases ha with e1 | ⟨h0,_⟩
      ·rw [e1] at e0; cases e0; exact q1
      ·have hn0:n=0:=by omega
       subst hn0
       have:arr.toList=[]:=List.eq_nil_of_length_eq_zero (by rw [f2.len]; simp)
       rw [this]; rfl
     have hsome:a.isSome=true:=by rcases ha with rfl | ⟨_,h⟩ <;> first | rfl | exact h
     obtain ⟨ad,rfl⟩:=Option.isSome_iff_exists.1 hsome
     have hrun:=hrun ad rfl
     refine .made q2 (v':=goInt ((min k n:Nat):Int)) ?_ (rY _)
     unfold Builtin.copy_
     have hmin:Nat.min k n=min k n:=rfl
     simp [hts,run_underlying hu,jY hsz,s1,f1,hrun]
   ·trivial
  ·trivial
 ·rename_i k l v hs _
  obtain ⟨s1,s2,s3⟩:=yF I hs hy
  split
  ·rename_i hl
   obtain ⟨ad,c,rfl⟩:=Gg hl hx
   obtain ⟨arr,f1,f2⟩:=s3 0 (Nat.zero_le _)
   have:arr= #[]:=by
    have:=f2.len
    simp at this
    exact this
   subst this
   refine .look I (v':=goInt 0) ?_ (rY _)
   unfold Builtin.copy_
   cases ad <;> simp [hts,run_underlying hu,jY hsz,s1,f1,storeCells]
  ·trivial
 ·trivial

end
end Go.Abs

namespace Go.Abs
section
variable {P : Program} {mu : List String} {G : Nat → List DV}

theorem jE.O6 {cx:Cx} {h:Heap} {b c:Nat} (ho:jE cx h b c):h.get b≠some .dead:=by
 cases ho with
 |blk x base hb ho2 _ _=> intro e; rw [hb] at e; cases e; simp [vD] at ho2
 |tok g e κ base hb _ _=> intro e'; rw [hb] at e'; cases e'

def Cx.freeze (cx:Cx) (c base n:Nat):Cx:={cx with Z:=fun c' o=> cx.Z c' o∨(c'=c∧base≤o∧o < base+n)}

theorem Inv.O7 {cx:Cx} {h:Heap} {w:World} (I:Inv P mu G cx h w) {b c base:Nat} {e:TypeId} {ds:List DV} (hb:h.get b=some .dead)
  (hr:cx.ρ b=some (c,base)) (hno:(∀b',¬jE cx h b' c)∨∀i,i < ds.length→cx.Z c (base+i))
  (hel:∃(arr:Array Value) (fz:Nat×Nat),w.heap[c]? =some (Obj.cells arr e fz))
  (hd:∀i (hi:i < ds.length),∃v,w.cell? ⟨c,base+i,none⟩=some v∧kM w cx.F ds[i] v):
  Inv P mu G (cx.freeze c base ds.length) (h.set b (.cells true e (ds.map .d))) w∧Ext cx w (cx.freeze c base ds.length) w∧
  ∀b' c',jE (cx.freeze c base ds.length) (h.set b (.cells true e (ds.map .d))) b' c'→jE cx h b' c':=by
 have ext : Ext cx w (cx.freeze c base ds.length) w := {
  size:=Nat.le_refl _
  ρ:=fun _ _ h=> h
  K:=fun _ κ h=> ⟨κ,h,Nat.le_refl _,fun _=> rfl⟩
  Z:=fun _ _ z=> .inl z
  B:=fun _ _=> Iff.rfl
  cell:=fun _ _ _=> rfl
  el:=fun _ arr _ fz h=> ⟨arr,fz,h,rfl⟩
  lp:=fun _ L h=> ⟨L,h⟩
  io:=⟨rfl,rfl⟩}
 have hget:∀b' z,(h.set b (.cells true e (ds.map .d))).get b'=some z→(b'=b∧z= .cells true e (ds.map .d))∨(b≠b'∧h.get b'=some z):=by
  intro b' z hz
  by_cases k:b=b'
  ·subst k; rw [Heap.get_set_self hb] at hz; cases hz; exact .inl ⟨rfl,rfl⟩
  ·rw [Heap.get_set_ne k] at hz; exact .inr ⟨k,hz⟩
 have iU:∀b' c',jE (cx.freeze c base ds.length) (h.set b (.cells true e (ds.map .d))) b' c'→
   b'≠b∧jE cx h b' c'∧(h.set b (.cells true e (ds.map .d))).get b'=h.get b':=by
  intro b' c' ho'
  cases ho' with
  |blk z lX hb' ho2 ht2 hr'=>
   rcases hget b' z hb' with ⟨_,e'⟩ | ⟨n,e'⟩
   ·subst e'; simp [vD] at ho2
   ·exact ⟨Ne.symm n,.blk z lX e' ho2 ht2 hr',by rw [hb',e']⟩
  |tok g e1 κ lX hb' hκ hpl=>
   rcases hget b' _ hb' with ⟨_,e'⟩ | ⟨n,e'⟩
   ·cases e'
   ·exact ⟨Ne.symm n,.tok g e1 κ lX e' hκ hpl,by rw [hb',e']⟩
 have SK:∀c' o,(cx.freeze c base ds.length).Z c' o→cx.Z c' o∨(c'=c∧(∀b',¬jE cx h b' c)∧base≤o∧o < base+ds.length):=by
  intro c' o z
  rcases z with z | ⟨ec,l1,l2⟩
  ·exact .inl z
  ·rcases hno with hno | hz
   ·exact .inr ⟨ec,hno,l1,l2⟩
   ·subst ec
    have:=hz (o - base) (by omega)
    rw [show base+(o - base)=o by omega] at this
    exact .inl this
 refine ⟨⟨fun b' z hz=> ?_,?_,fun g i hi=> ?_⟩,ext,fun b' c' ho=> (iU b' c' ho).2.1⟩
 ·rcases hget b' z hz with ⟨e1,e2⟩ | ⟨n,e'⟩
  ·subst e1; subst e2
   refine ⟨c,base,hr,(by obtain ⟨arr,fz,q⟩:=hel; exact ⟨arr,fz,q,fun k=> by cases k⟩),fun i hi=> ?_⟩
   have hi':i < ds.length:=by simpa using hi
   obtain ⟨v,v1,v2⟩:=hd i hi'
   refine ⟨v,v1,?_,fun _=> .inr ⟨rfl,by omega,by omega⟩,fun k=> by cases k⟩
   rw [List.getElem_map]
   exact .d _ _ (v2.ext ext)
  ·exact tZ.oD ext (fun _ _ _ _=> rfl) (fun κ hκ _=> ⟨hκ,fun _ _ _=> rfl⟩) (I.heap b' z e')
 ·exact {
   inj:=fun b1 b2 c' h1 h2=> I.sep.inj b1 b2 c' (iU _ _ h1).2.1 (iU _ _ h2).2.1
   nof:=fun b' c' ho' hn o=> by
    obtain ⟨n,o1,eg⟩:=iU b' c' ho'
    have:=I.sep.nof b' c' o1 (fun g e hh=> hn g e (by rw [eg]; exact hh)) o
    refine ⟨fun z=> ?_,this.2⟩
    rcases SK c' o z with z | ⟨ec,hno,_⟩
    ·exact this.1 z
    ·subst ec; exact hno b' o1
   p9:=fun t g e1 κ c' lX hb' hκ hpl o z=> by
    rcases hget t _ hb' with ⟨_,e'⟩ | ⟨n,e'⟩
    ·cases e'
    ·rcases z with z | z
     ·rcases SK c' o z with z | ⟨ec,hno,_⟩
      ·exact I.sep.p9 t g e1 κ c' lX e' hκ hpl o (.inl z)
      ·subst ec; exact absurd (.tok g e1 κ lX e' hκ hpl) (hno t)
     ·exact I.sep.p9 t g e1 κ c' lX e' hκ hpl o (.inr z)
   lt:=I.sep.lt
   base0:=I.sep.base0
   ltK:=I.sep.ltK
   new:=fun b' hb'=> I.sep.new b' hb'
   zc:=fun c' o z=> by
    rcases z with (z | ⟨ec,l1,l2⟩) | z
    ·exact I.sep.zc c' o (.inl z)
    ·subst ec
     obtain ⟨v,v1,_⟩:=hd (o - base) (by omega)
     rw [show base+(o - base)=o by omega] at v1
     rw [v1]; rfl
    ·exact I.sep.zc c' o (.inr z)}
 ·obtain ⟨v,v1,v2,v3⟩:=I.kQ g i hi
  exact ⟨v,v1,.inl v2,v3.ext ext⟩

structure Jg (cx:Cx) (h:Heap) (cx':Cx) (h':Heap):Prop where
 n:h'.n=h.n
 ρ:cx'.ρ=cx.ρ
 K:cx'.K=cx.K
 oth:∀b,(∀fr e cs,h.get b≠some (.cells fr e cs))→h'.get b=h.get b

theorem Jg.refl (cx:Cx) (h:Heap):Jg cx h cx h:=⟨rfl,rfl,rfl,fun _ _=> rfl⟩
theorem Jg.trans {c1 c2 c3:Cx} {h1 h2 h3:Heap} (a:Jg c1 h1 c2 h2) (b:Jg c2 h2 c3 h3):Jg c1 h1 c3 h3:=
 ⟨by rw [b.n,a.n],by rw [b.ρ,a.ρ],by rw [b.K,a.K],fun x hx=> by rw [b.oth x (fun fr e cs=> by rw [a.oth x hx]; exact hx fr e cs),a.oth x hx]⟩

def O8 (P:Program) (mu:List String) (G:Nat→List DV) (fz:Heap→Nat→Nat→Nat→Option (List DV×Heap)):Prop:=
 ∀(h:Heap) (b off n:Nat) (ds:List DV) (h':Heap),fz h b off n=some (ds,h')→∀(cx:Cx) (w:World),Inv P mu G cx h w→∃cx',Inv P mu G cx' h' w∧Stp cx h w cx' h' w∧Jg cx h cx' h'∧ds.length=n∧
  ∃c base,cx.ρ b=some (c,base)∧∀i (hi:i < ds.length),∃v,w.cell? ⟨c,base+off+i,none⟩=some v∧cx'.F false c (base+off+i)∧kM w cx'.F ds[i] v

def Dg (P:Program) (mu:List String) (G:Nat→List DV) (cx:Cx) (h:Heap) (w:World) (h':Heap) (R:Cx→Prop):Prop:=
 ∃cx',Inv P mu G cx' h' w∧Stp cx h w cx' h' w∧Jg cx h cx' h'∧R cx'

theorem Dg.same {cx:Cx} {h:Heap} {w:World} {R:Cx→Prop} (I:Inv P mu G cx h w) (hr:R cx):Dg P mu G cx h w h R:=
 ⟨cx,I,.refl _ _ _,.refl _ _,hr⟩

mutual
theorem EY {fz:Heap→Nat→Nat→Nat→Option (List DV×Heap)} (hfz:O8 P mu G fz) {a:AV} {d:DV} {v:Value} {cx:Cx} {h h':Heap} {w:World} (I:Inv P mu G cx h w)
  (hs:yP fz h a=some (d,h')) (hv:bY cx w a v):Dg P mu G cx h w h' fun cx'=> kM w cx'.F d v:=by
 cases a with
 |d x=> simp only [yP,Option.some.injEq,Prod.mk.injEq] at hs; obtain ⟨rfl,rfl⟩:=hs; cases hv with | d _ _ hd=> exact .same I hd
 |nilsl=> simp only [yP,Option.some.injEq,Prod.mk.injEq] at hs; obtain ⟨rfl,rfl⟩:=hs; cases hv; exact .same I (.sl0 _ _ _)
 |app t g n cs=> simp only [yP,Option.some.injEq,Prod.mk.injEq] at hs; obtain ⟨rfl,rfl⟩:=hs; cases hv with | app _ _ _ _ _ hd=> exact .same I hd
 |full b n cs=> simp only [yP,Option.some.injEq,Prod.mk.injEq] at hs; obtain ⟨rfl,rfl⟩:=hs; cases hv with | full _ _ _ a hd=> exact .same I hd
 |sref b off sz n m ex=>
  simp only [yP] at hs
  split at hs
  ·rename_i ds h1 hf
   simp only [Option.some.injEq,Prod.mk.injEq] at hs
   obtain ⟨rfl,rfl⟩:=hs
   obtain ⟨cx',I',s',f',hl,c,base,hr,hc⟩:=hfz _ _ _ _ _ _ hf cx w I
   refine ⟨cx',I',s',f',?_⟩
   cases hv with
   |sref _ _ _ _ _ _ c' base' cap a' hr' hn hm hex ha=>
    rw [hr] at hr'; cases hr'
    rcases Nat.eq_zero_or_pos n with e0 | e0
    ·subst e0
     have:ds=[]:=List.eq_nil_of_length_eq_zero (by rw [hl]; simp)
     subst this
     exact .sl0 _ _ _
    ·have ea:a'=some ⟨c,base+off,none⟩:=by
      rcases ha with e1 | ⟨e1,_⟩
      ·exact e1
      ·omega
     subst ea
     exact .sl false n ds c (base+off) cap (fun i=> (w.cell? ⟨c,base+off+i,none⟩).getD undef) e0 (by omega)
      (fun i hi => by
       obtain ⟨v,v1,v2,_⟩:=hc i hi
       exact ⟨by rw [v1]; rfl,v2⟩)
      (fun i hi => by
       obtain ⟨v,v1,_,v3⟩:=hc i hi
       rw [v1]; exact v3)
  ·cases hs
 |agg cs=>
  simp only [yP] at hs
  split at hs
  ·rename_i l h1 hf
   simp only [Option.some.injEq,Prod.mk.injEq] at hs
   obtain ⟨rfl,rfl⟩:=hs
   cases hv with
   |agg _ cs' hc h2=>
    obtain ⟨cx',I',s',f',hl,hr⟩:=zm hfz I hf (g:=fun i=> cs'.getD i undef) h2
    exact ⟨cx',I',s',f',.agg _ _ (by rw [hc,hl]) hr⟩
  ·cases hs
 |ifc t a=>
  simp only [yP] at hs
  split at hs
  ·rename_i l h1 hf
   simp only [Option.some.injEq,Prod.mk.injEq] at hs
   obtain ⟨rfl,rfl⟩:=hs
   cases hv with
   |ifc _ _ v' hv'=>
    obtain ⟨cx',I',s',f',hr⟩:=EY hfz I hf hv'
    exact ⟨cx',I',s',f',.ifc _ _ _ hr⟩
  ·cases hs
 |fn g fs cs=>
  simp only [yP] at hs
  split at hs
  ·rename_i hok
   split at hs
   ·rename_i l1 h1 hf1
    split at hs
    ·rename_i l2 h2 hf2
     simp only [Option.some.injEq,Prod.mk.injEq] at hs
     obtain ⟨rfl,rfl⟩:=hs
     cases hv with
     |fn _ _ _ fs' cs' e1 e2 r1 r2=>
      obtain ⟨cx1,I1,s1,f1,hl1,hr1⟩:=zm hfz I hf1 (g:=fun i=> fs'.getD i undef) r1
      obtain ⟨cx2,I2,s2,f2,hl2,hr2⟩:=zm hfz I1 hf2 (g:=fun i=> cs'.getD i undef) (fun i hi=> (r2 i hi).ext s1.ext)
      exact ⟨cx2,I2,s1.trans s2,f1.trans f2,.fn _ _ _ _ _ (by rw [e1,hl1]) (by rw [e2,hl2]) (fun i hi=> (hr1 i hi).ext s2.ext) hr2⟩
     |yld l c base h=> simp [Ba] at hok
    ·cases hs
   ·cases hs
  ·cases hs
 |ptr _ _=> simp [yP] at hs
 |kQ _ _=> simp [yP] at hs
 |x_ _ _ _ _=> simp [yP] at hs
 |tup _=> simp [yP] at hs
 |uo _=> simp [yP] at hs
 |itr _=> simp [yP] at hs
 |und=> simp [yP] at hs
theorem zm {fz:Heap→Nat→Nat→Nat→Option (List DV×Heap)} (hfz:O8 P mu G fz) {l:List AV} {ds:List DV} {cx:Cx} {h h':Heap} {w:World} (I:Inv P mu G cx h w)
  (hs:Dx fz h l=some (ds,h')) {g:Nat→Value} (hv:∀i (hi:i < l.length),bY cx w l[i] (g i)):
  Dg P mu G cx h w h' fun cx'=> l.length=ds.length∧∀i (hi:i < ds.length),kM w cx'.F ds[i] (g i):=by
 cases l with
 |nil=> simp only [Dx,Option.some.injEq,Prod.mk.injEq] at hs; obtain ⟨rfl,rfl⟩:=hs; exact .same I ⟨rfl,fun i hi=> absurd hi (by simp)⟩
 |cons a r=>
  simp only [Dx] at hs
  split at hs
  ·rename_i d h1 hf1
   split at hs
   ·rename_i l2 h2 hf2
    simp only [Option.some.injEq,Prod.mk.injEq] at hs
    obtain ⟨rfl,rfl⟩:=hs
    obtain ⟨cx1,I1,s1,f1,hr1⟩:=EY hfz I hf1 (hv 0 (by simp))
    obtain ⟨cx2,I2,s2,f2,hl2,hr2⟩:=zm hfz I1 hf2 (g:=fun i=> g (i+1)) (fun i hi=> (hv (i+1) (by simpa using hi)).ext s1.ext)
    refine ⟨cx2,I2,s1.trans s2,f1.trans f2,by simp [hl2],fun i hi=> ?_⟩
    cases i with
    |zero=> exact hr1.ext s2.ext
    |succ i=> exact hr2 i (by simpa using hi)
   ·cases hs
  ·cases hs
end

theorem xQ {fz:Heap→Nat→Nat→Nat→Option (List DV×Heap)} (hfz:O8 P mu G fz):O8 P mu G (B7 fz):=by
  intro h b off n ds h' hs cx w I
  unfold B7 at hs
  split at hs
  · rename_i fr e cs hb
    split at hs
    · rename_i ds1 h1 hf
      split at hs
      · rename_i hle
        simp only [Option.some.injEq,Prod.mk.injEq] at hs
        obtain ⟨rfl,rfl⟩:=hs
        have hle:=jB hle
        obtain ⟨c,base,hr,hel,hcell⟩:=I.heap b _ hb
        obtain ⟨I0,s0⟩:=I.kill b
        obtain ⟨cx1,I1,s1,f1,hl,hd⟩ := zm hfz I0 hf (g := fun i => (w.cell? ⟨c,base + i,none⟩).getD undef) (fun i hi => by
          obtain ⟨v,v1,v2,_⟩:=hcell i hi
          rw [v1]; exact v2)
        have hb1:h1.get b=some .dead:=by
          rw [f1.oth b (fun fr e cs=> by rw [Heap.get_set_self hb]; simp)]
          exact Heap.get_set_self hb
        have clt:c < w.heap.size:=I.sep.lt _ _ _ hr
        have acr:∀b',jE cx1 h1 b' c→∃b'',jE cx h b'' c∧b''≠b:=by
          intro b' ho
          obtain ⟨b1,ho1⟩:=s1.fr.owns b' c ho clt
          obtain ⟨b2,ho2⟩:=s0.fr.owns b1 c ho1 clt
          refine ⟨b1,?_,fun e1=> ?_⟩
          · cases ho1 with
            |blk x Jh hb1 ho1 ht1 hr1=>
              have ne:b≠b1:=fun e1=> by subst e1; rw [Heap.get_set_self hb] at hb1; cases hb1; simp [vD] at ho1
              rw [Heap.get_set_ne ne] at hb1
              exact .blk x Jh hb1 ho1 ht1 hr1
            |tok g e κ Jh hb1 hκ hpl=>
              have ne:b≠b1:=fun e1=> by subst e1; rw [Heap.get_set_self hb] at hb1; cases hb1
              rw [Heap.get_set_ne ne] at hb1
              exact .tok g e κ Jh hb1 hκ hpl
          · subst e1
            exact ho1.O6 (Heap.get_set_self hb)
        obtain ⟨I2,e2,o2⟩ := I1.O7 (ds := ds1) (e := e) hb1 (by rw [f1.ρ]; exact hr) (by
          cases fr with
          |false=>
            refine .inl fun b' ho=> ?_
            obtain ⟨b'',ho2,ne⟩:=acr b' ho
            exact ne (I.sep.inj _ _ _ ho2 (.blk _ base hb rfl (fun _ _=> by simp) hr))
          |true=>
            refine .inr fun i hi=> s1.ext.Z _ _ (s0.ext.Z _ _ ?_)
            obtain ⟨v,_,_,v3,_⟩:=hcell i (by rw [hl]; exact hi)
            exact v3 rfl) (by obtain ⟨arr,fz,q,_⟩:=hel; exact ⟨arr,fz,q⟩) (fun i hi=> by
          obtain ⟨v,v1,_⟩:=hcell i (by rw [hl]; exact hi)
          refine ⟨v,v1,?_⟩
          have:=hd i hi
          rw [v1] at this; exact this)
        have hlen:((ds1.drop off).take n).length=n:=by simp; omega
        refine ⟨_,I2,⟨(s0.trans s1).ext.trans e2,⟨fun _ _ _=> rfl,fun b' c' ho hc'=> ?_,fun c' o z=> ?_,?_,fun b' hb'=> ?_,fun b' hb'=> by show cx1.ρ b'=_; rw [f1.ρ]⟩⟩,⟨?_,f1.ρ,f1.K,fun b' hb'=> ?_⟩,hlen,c,base,hr,fun i hi=> ?_⟩
        · exact (s0.trans s1).fr.owns b' c' (o2 b' c' ho) hc'
        · rcases z with z | ⟨ec,l1,l2⟩
          · exact (s0.trans s1).fr.z c' o z
          · subst ec
            cases fr with
            |false=> exact .inr (.inr ⟨b,.blk _ base hb rfl (fun _ _=> by simp) hr⟩)
            |true=>
              obtain ⟨v,_,_,v3,_⟩:=hcell (o - base) (by rw [hl]; omega)
              have:=v3 rfl
              rw [show base+(o - base)=o by omega] at this
              exact .inl this
        · rw [Heap.Cj]; exact (s0.trans s1).fr.hn
        · have ne:b≠b':=fun e=> by subst e; rw [hb] at hb'; cases hb'
          rw [Heap.get_set_ne ne]; exact (s0.trans s1).fr.dd b' hb'
        · rw [Heap.Cj,f1.n,Heap.Cj]
        · have ne:b≠b':=fun e1=> by subst e1; exact hb' _ _ _ hb
          rw [Heap.get_set_ne ne,f1.oth b' (fun fr e cs=> by rw [Heap.get_set_ne ne]; exact hb' fr e cs),Heap.get_set_ne ne]
        · rw [hlen] at hi
          obtain ⟨v,v1,_⟩:=hcell (off+i) (by rw [hl]; omega)
          refine ⟨v,by rw [Nat.add_assoc]; exact v1,.inl (.inr ⟨rfl,by omega,by omega⟩),?_⟩
          have hd':=hd (off+i) (by omega)
          rw [v1] at hd'
          have:=hd'.ext e2
          simpa [List.getElem_take,List.getElem_drop] using this
      · cases hs
    · cases hs
  · cases hs

theorem O9:O8 P mu G fz3:=xQ (xQ (xQ (xQ (xQ (xQ (xQ (fun _ _ _ _ _ _ hs=> by cases hs)))))))

theorem RN {a:AV} {d:DV} {v:Value} {cx:Cx} {h h':Heap} {w:World} (I:Inv P mu G cx h w) (hs:frz h a=some (d,h')) (hv:bY cx w a v):
  Dg P mu G cx h w h' fun cx'=> kM w cx'.F d v:=by
 unfold frz at hs
 split at hs
 ·simp only [Option.some.injEq,Prod.mk.injEq] at hs; obtain ⟨rfl,rfl⟩:=hs
  cases hv with | d _ _ hd=> exact .same I hd
 ·exact EY O9 I hs hv

theorem ML (h:Heap) (a:AV) (r:List AV):FB h (a::r)=match frz h a with
  |some (d,h1)=> match FB h1 r with
   |some (l,h2)=> some (d::l,h2)
   |none=> none
  |none=> none:=rfl

theorem EZ:∀{l:List AV} {ds:List DV} {cx:Cx} {h h':Heap} {w:World},Inv P mu G cx h w→FB h l=some (ds,h')→∀{g:Nat→Value},(∀i (hi:i < l.length),bY cx w l[i] (g i))→
  Dg P mu G cx h w h' fun cx'=> l.length=ds.length∧∀i (hi:i < ds.length),kM w cx'.F ds[i] (g i):=by
 intro l
 induction l with
 |nil=> intro ds cx h h' w I hs g hv; cases hs; exact .same I ⟨rfl,fun i hi=> absurd hi (by simp)⟩
 |cons a r ih=>
  intro ds cx h h' w I hs g hv
  rw [ML] at hs
  split at hs
  ·rename_i d h1 hf1
   split at hs
   ·rename_i l2 h2 hf2
    simp only [Option.some.injEq,Prod.mk.injEq] at hs
    obtain ⟨rfl,rfl⟩:=hs
    obtain ⟨cx1,I1,s1,f1,hr1⟩:=RN I hf1 (hv 0 (by simp))
    obtain ⟨cx2,I2,s2,f2,hl2,hr2⟩:=ih I1 hf2 (g:=fun i=> g (i+1)) (fun i hi=> (hv (i+1) (by simpa using hi)).ext s1.ext)
    refine ⟨cx2,I2,s1.trans s2,f1.trans f2,by simp [hl2],fun i hi=> ?_⟩
    cases i with
    |zero=> exact hr1.ext s2.ext
    |succ i=> exact hr2 i (by simpa using hi)
   ·cases hs
  ·cases hs
end
end Go.Abs

namespace Go.Abs
section
variable {P : Program} {mu : List String} {G : Nat → List DV}

def Cx.Dh (cx:Cx) (zn:Nat→Nat→Prop):Cx:={cx with Z:=fun c o=> cx.Z c o∨zn c o}

theorem Inv.Dh {cx:Cx} {h:Heap} {w w':World} (I:Inv P mu G cx h w) (zn:Nat→Nat→Prop)
  (hs:w.heap.size≤w'.heap.size) (hold:∀c:Nat,c < w.heap.size→w'.heap[c]? =w.heap[c]?)
  (hz:∀c o,zn c o→w.heap.size≤c∧(w'.cell? ⟨c,o,none⟩).isSome=true) (hio:w'.os=w.os∧w'.output=w.output:=by exact ⟨rfl,rfl⟩):
  Inv P mu G (cx.Dh zn) h w'∧Stp cx h w (cx.Dh zn) h w':=by
 have zl:∀c o,cx.Z c o∨cx.B c o→c < w.heap.size:=fun c o hz=> zlt I hz
 have ext : Ext cx w (cx.Dh zn) w' := {
  size:=hs
  ρ:=fun b q hb=> hb
  K:=fun t κ hκ=> ⟨κ,hκ,Nat.le_refl _,fun _=> rfl⟩
  Z:=fun _ _ z=> .inl z
  B:=fun _ _=> Iff.rfl
  cell:=fun c o z=> cell_of_heap (hold c (zl c o z)) o none
  el:=fun c arr e fz hh=> ⟨arr,fz,by rw [hold c (Array.getElem?_eq_some_iff.1 hh).1]; exact hh,rfl⟩
  lp:=fun c L hh=> ⟨L,by rw [hold c (Array.getElem?_eq_some_iff.1 hh).1]; exact hh⟩
  io:=hio}
 have iU:∀b c,jE (cx.Dh zn) h b c→jE cx h b c:=by
  intro b c ho
  cases ho with
  |blk y base hb ho ht' hr=> exact .blk y base hb ho ht' hr
  |tok g e κ base hb hκ hpl=> exact .tok g e κ base hb hκ hpl
 refine ⟨⟨fun b y hb=> ?_,?_,?_⟩,⟨ext,?_⟩⟩
 ·exact tZ.oD ext (fun c base hr _=> hold c (I.sep.lt b c base hr)) (fun κ hκ _=> ⟨hκ,fun c base hpl=> hold c (I.sep.ltK b κ c base hκ hpl)⟩) (I.heap b y hb)
 ·exact {
   inj:=fun b1 b2 c h1 h2=> I.sep.inj b1 b2 c (iU _ _ h1) (iU _ _ h2)
   nof:=fun b c ho hn o=> by
    have:=I.sep.nof b c (iU _ _ ho) hn o
    refine ⟨fun z=> ?_,this.2⟩
    rcases z with z | z
    ·exact this.1 z
    ·have:=(hz c o z).1; have:=jE.lt I (iU _ _ ho); omega
   p9:=fun t g e κ c base hb hκ hpl o z=> by
    rcases z with (z | z) | z
    ·exact I.sep.p9 t g e κ c base hb hκ hpl o (.inl z)
    ·have:=(hz c o z).1; have:=I.sep.ltK t κ c base hκ hpl; omega
    ·exact I.sep.p9 t g e κ c base hb hκ hpl o (.inr z)
   base0:=I.sep.base0
   lt:=fun b c base hr=> Nat.lt_of_lt_of_le (I.sep.lt b c base hr) hs
   ltK:=fun b κ c base hr hpl=> Nat.lt_of_lt_of_le (I.sep.ltK b κ c base hr hpl) hs
   new:=I.sep.new
   zc:=fun c o z=> by
    rcases z with (z | z) | z
    ·rw [cell_of_heap (hold c (zl c o (.inl z)))]; exact I.sep.zc c o (.inl z)
    ·exact (hz c o z).2
    ·rw [cell_of_heap (hold c (zl c o (.inr z)))]; exact I.sep.zc c o (.inr z)}
 ·intro g i hi
  obtain ⟨v,v1,v2,v3⟩:=I.kQ g i hi
  exact ⟨v,by rw [cell_of_heap (hold g (zl g i (.inl v2)))]; exact v1,.inl v2,v3.ext ext⟩
 ·exact {
   kept:=fun c hc _=> hold c hc
   owns:=fun b c ho hc=> ⟨b,iU b c ho⟩
   z:=fun c o z=> by
    rcases z with z | z
    ·exact .inl z
    ·exact .inr (.inl (hz c o z).1)
   hn:=Nat.le_refl _
   dd:=fun _ h=> h
   rr:=fun _ _=> rfl}

theorem Inv.O_ {cx:Cx} {h:Heap} {w w':World} (I:Inv P mu G cx h w) {e:TypeId} {arr:Array Value} {ds:List DV} {n cap sz:Nat} (hw:w'.heap=w.heap.push (.cells arr e (0,0)))
  (hsz:mP P e=some sz) (hl:ds.length=n*sz) (ha:arr.size=cap*sz) (hn:n≤cap)
  (hd:∀i (hi:i < ds.length),kM w cx.F ds[i] (arr.getD i undef)) (hio:w'.os=w.os∧w'.output=w.output:=by exact ⟨rfl,rfl⟩):
  ∃cx',Inv P mu G cx' (h.push (.tok 0 e)) w'∧Stp cx h w cx' (h.push (.tok 0 e)) w'∧bY cx' w' (.app h.n 0 n ds) (.slice (some ⟨w.heap.size,0,none⟩) n cap):=by
 let κ:Tk:=⟨0,some (w.heap.size,0),n,cap,sz⟩
 let zn:Nat→Nat→Prop:=fun c o=> c=w.heap.size∧o < n*sz
 let cx':Cx:=(cx.add h.n none (some κ)).Dh zn
 have hold:∀c:Nat,c < w.heap.size→w'.heap[c]? =w.heap[c]? :=fun c hc=> by rw [hw,kZ _ _ _ hc]
 have hs:w'.heap.size=w.heap.size+1:=by rw [hw]; simp
 have adJ:n*sz≤cap*sz:=Nat.mul_le_mul_right _ hn
 have zl:∀c o,cx.Z c o∨cx.B c o→c < w.heap.size:=fun c o hz=> zlt I hz
 have nK:cx.K h.n=none:=(I.sep.new h.n (Nat.le_refl _)).2
 have nρ:cx.ρ h.n=none:=(I.sep.new h.n (Nat.le_refl _)).1
 have hK:∀b,cx'.K b=if b=h.n then some κ else cx.K b:=fun b=> rfl
 have hρ:∀b,cx'.ρ b=if b=h.n then none else cx.ρ b:=fun b=> rfl
 have ext : Ext cx w cx' w' := {
  size:=by omega
  ρ:=fun b q hb=> by
   rw [hρ]
   by_cases e:b=h.n
   ·subst e; rw [nρ] at hb; cases hb
   ·simp [e,hb]
  K := fun t κ1 hκ => ⟨κ1,by
   rw [hK]
   by_cases e:t=h.n
   ·subst e; rw [nK] at hκ; cases hκ
   ·simp [e,hκ],Nat.le_refl _,fun _=> rfl⟩
  Z:=fun _ _ z=> .inl z
  B:=fun _ _=> Iff.rfl
  cell:=fun c o z=> cell_of_heap (hold c (zl c o z)) o none
  el:=fun c arr e fz hh=> ⟨arr,fz,by rw [hold c (Array.getElem?_eq_some_iff.1 hh).1]; exact hh,rfl⟩
  lp:=fun c L hh=> ⟨L,by rw [hold c (Array.getElem?_eq_some_iff.1 hh).1]; exact hh⟩
  io:=hio}
 have iU:∀b c,jE cx' (h.push (.tok 0 e)) b c→(b=h.n∧c=w.heap.size)∨(b < h.n∧jE cx h b c):=by
  intro b c ho
  cases ho with
  |blk y base hb ho ht' hr=>
   rw [Heap.jk] at hb
   rw [hρ] at hr
   by_cases e:b=h.n
   ·simp [e] at hr
   ·simp only [e,if_false] at hb hr
    exact .inr ⟨Heap.kH hb,.blk y base hb ho ht' hr⟩
  |tok g e κ1 base hb hκ hpl=>
   rw [Heap.jk] at hb
   rw [hK] at hκ
   by_cases e':b=h.n
   ·simp only [e',if_true,Option.some.injEq] at hκ
    subst hκ
    cases hpl
    exact .inl ⟨e',rfl⟩
   ·simp only [e',if_false] at hb hκ
    exact .inr ⟨Heap.kH hb,.tok g e κ1 base hb hκ hpl⟩
 have hcell:∀i,i < cap*sz→w'.cell? ⟨w.heap.size,i,none⟩=some (arr.getD i undef):=fun i hi=> Cv hw i (by omega)
 refine ⟨cx',⟨fun b y hb=> ?_,?_,?_⟩,⟨ext,?_⟩,?_⟩
 ·rw [Heap.jk] at hb
  by_cases eb:b=h.n
  ·simp only [eb,if_true,Option.some.injEq] at hb
   subst hb
   refine ⟨κ,by rw [hK]; simp [eb],rfl,⟨hsz,fun k=> by cases k⟩,hn,fun c base hp=> ?_⟩
   cases hp
   refine ⟨rfl,⟨arr,(0,0),by rw [hw]; simp,.inl rfl⟩,fun j hj=> ?_⟩
   rw [Nat.zero_add]
   exact ⟨by rw [hcell j hj]; rfl,fun _=> BF hw j⟩
  ·simp only [eb,if_false] at hb
   refine tZ.oD ext (fun c base hr _=> hold c (I.sep.lt b c base hr)) (fun κ hκ _=> ⟨?_,fun c base hpl=> hold c (I.sep.ltK b κ c base hκ hpl)⟩) (I.heap b y hb)
   rw [hK]; simp [eb,hκ]
 ·exact {
   inj:=fun b1 b2 c h1 h2=> by
    rcases iU b1 c h1 with ⟨e1,c1⟩ | ⟨l1,o1⟩ <;> rcases iU b2 c h2 with ⟨e2,c2⟩ | ⟨l2,o2⟩
    ·rw [e1,e2]
    ·have:=jE.lt I o2; omega
    ·have:=jE.lt I o1; omega
    ·exact I.sep.inj b1 b2 c o1 o2
   nof:=fun b c ho hn o=> by
    rcases iU b c ho with ⟨eb,ec⟩ | ⟨l,o1⟩
    ·subst eb
     exact absurd (by rw [Heap.jk]; simp) (hn 0 e)
    ·have:=I.sep.nof b c o1 (fun g e hb=> hn g e (by rw [Heap.jk,if_neg (Nat.ne_of_lt l)]; exact hb)) o
     refine ⟨fun z=> ?_,this.2⟩
     rcases z with z | ⟨z,_⟩
     ·exact this.1 z
     ·have:=jE.lt I o1; omega
   p9:=fun t g e κ1 c base hb hκ hpl o z=> by
    rw [Heap.jk] at hb
    rw [hK] at hκ
    by_cases e':t=h.n
    ·simp only [e',if_true,Option.some.injEq] at hκ
     subst hκ
     cases hpl
     rcases z with (z | ⟨_,z⟩) | z
     ·have:=zl _ _ (.inl z); omega
     ·show o < 0+n*sz; omega
     ·have:=zl _ _ (.inr z); omega
    ·simp only [e',if_false] at hb hκ
     rcases z with (z | ⟨z,_⟩) | z
     ·exact I.sep.p9 t g e κ1 c base hb hκ hpl o (.inl z)
     ·have:=I.sep.ltK t κ1 c base hκ hpl; omega
     ·exact I.sep.p9 t g e κ1 c base hb hκ hpl o (.inr z)
   base0:=fun b c base hr=> by
    rw [hρ] at hr
    by_cases e:b=h.n
    ·simp [e] at hr
    ·simp only [e,if_false] at hr; exact I.sep.base0 b c base hr
   lt:=fun b c base hr=> by
    rw [hρ] at hr
    by_cases e:b=h.n
    ·simp [e] at hr
    ·simp only [e,if_false] at hr; have:=I.sep.lt b c base hr; omega
   ltK:=fun b κ1 c base hr hpl=> by
    rw [hK] at hr
    by_cases e:b=h.n
    ·simp only [e,if_true,Option.some.injEq] at hr; subst hr; cases hpl; omega
    ·simp only [e,if_false] at hr; have:=I.sep.ltK b κ1 c base hr hpl; omega
   new:=fun b hb=> by
    simp only [Heap.BB] at hb
    have e:b≠h.n:=by omega
    rw [hρ,hK]; simp only [e,if_false]
    exact I.sep.new b (by omega)
   zc:=fun c o z=> by
    rcases z with (z | ⟨ec,z⟩) | z
    ·rw [cell_of_heap (hold c (zl c o (.inl z)))]; exact I.sep.zc c o (.inl z)
    ·subst ec; rw [hcell o (by omega)]; rfl
    ·rw [cell_of_heap (hold c (zl c o (.inr z)))]; exact I.sep.zc c o (.inr z)}
 ·intro g i hi
  obtain ⟨v,v1,v2,v3⟩:=I.kQ g i hi
  exact ⟨v,by rw [cell_of_heap (hold g (zl g i (.inl v2)))]; exact v1,.inl v2,v3.ext ext⟩
 ·exact {
   kept:=fun c hc _=> hold c hc
   owns:=fun b c ho hc=> by
    rcases iU b c ho with ⟨_,ec⟩ | ⟨_,o1⟩
    ·omega
    ·exact ⟨b,o1⟩
   z:=fun c o z=> by
    rcases z with z | ⟨ec,_⟩
    ·exact .inl z
    ·exact .inr (.inl (by omega))
   hn:=by simp
   dd:=fun b' hb'=> by rw [Heap.jk,if_neg (Nat.ne_of_lt (Heap.kH hb'))]; exact hb'
   rr:=fun b' hb'=> by rw [hρ,if_neg (Nat.ne_of_lt hb')]}
 ·refine .app h.n 0 n ds _ ?_ κ (by rw [hK]; simp) (Nat.le_refl _) (fun _=> ⟨rfl,hl,rfl⟩)
  rcases Nat.eq_zero_or_pos n with e0 | e0
  ·subst e0
   have:ds=[]:=List.eq_nil_of_length_eq_zero (by rw [hl]; simp)
   subst this
   exact .sl0 _ _ _
  ·exact .sl false n ds w.heap.size 0 cap (fun i=> arr.getD i undef) e0 hn
    (fun i hi=> ⟨by rw [Nat.zero_add]; exact hcell i (by omega),.inl (.inr ⟨rfl,by omega⟩)⟩)
    (fun i hi=> (hd i hi).ext ext)
end
end Go.Abs

namespace Go.Abs
section
variable {P : Program} {mu : List String} {G : Nat → List DV} {cx : Cx} {h : Heap} {w : World}

theorem jE.congr {h1 h2:Heap} (hg:∀b,h1.get b=h2.get b) {b c:Nat} (ho:jE cx h1 b c):jE cx h2 b c:=by
 cases ho with
 |blk y base hb ho ht' hr=> exact .blk y base (by rw [←hg]; exact hb) ho ht' hr
 |tok g e κ base hb hκ hpl=> exact .tok g e κ base (by rw [←hg]; exact hb) hκ hpl

theorem Inv.congr {h1 h2:Heap} (hn:h1.n=h2.n) (hg:∀b,h1.get b=h2.get b) (I:Inv P mu G cx h1 w):Inv P mu G cx h2 w:=by
 have hg':∀b,h2.get b=h1.get b:=fun b=> (hg b).symm
 refine ⟨fun b x hb=> I.heap b x (by rw [hg]; exact hb),?_,I.kQ⟩
 exact {
  inj:=fun b1 b2 c o1 o2=> I.sep.inj b1 b2 c (o1.congr hg') (o2.congr hg')
  nof:=fun b c o1 hh=> I.sep.nof b c (o1.congr hg') (fun g e=> by rw [hg]; exact hh g e)
  p9:=fun t g e κ c base hb=> I.sep.p9 t g e κ c base (by rw [hg]; exact hb)
  base0:=I.sep.base0
  lt:=I.sep.lt
  ltK:=I.sep.ltK
  new:=fun b hb=> I.sep.new b (by rw [hn]; exact hb)
  zc:=I.sep.zc}

theorem Stp.congr {cx0:Cx} {h0:Heap} {w0:World} {h1 h2:Heap} (hn:h1.n=h2.n) (hg:∀b,h1.get b=h2.get b) (s:Stp cx0 h0 w0 cx h1 w):Stp cx0 h0 w0 cx h2 w:=
 ⟨s.ext,⟨s.fr.kept,fun b c ho hc=> s.fr.owns b c (ho.congr (fun b=> (hg b).symm)) hc,s.fr.z,by rw [←hn]; exact s.fr.hn,fun b hb=> by rw [←hg]; exact s.fr.dd b hb,s.fr.rr⟩⟩

theorem Pb {a:AV} {n:Nat} {v:Value} (hl:lenOf a=some n) (hv:bY cx w a v):∃ad c,v= .slice ad n c∧n≤c:=by
 have data:∀{b:Bool} {m:Nat} {cs:List DV} {v:Value},kM w cx.F (.sl b m cs) v→∃ad c,v= .slice ad m c∧m≤c:=by
  intro b m cs v hd
  cases hd with
  |sl0 _ a cap=> exact ⟨a,cap,rfl,Nat.zero_le _⟩
  |sl _ _ _ c o cap vs hn hc _ _=> exact ⟨_,cap,rfl,hc⟩
 unfold lenOf at hl
 split at hl <;> simp only [Option.some.injEq,reduceCtorEq] at hl
 ·subst hl; cases hv with | d _ _ hd=> exact data hd
 ·subst hl; cases hv; exact ⟨none,0,rfl,Nat.le_refl _⟩
 ·subst hl; cases hv with | app _ _ _ _ _ hd=> exact data hd
 ·subst hl; cases hv with | full _ _ _ a hd=> exact ⟨a,_,rfl,Nat.le_refl _⟩
 ·subst hl; cases hv with | sref _ _ _ _ _ _ c base cap a hr hn hm=> exact ⟨a,cap,rfl,by omega⟩

def Hg (P:Program) (ts:Array TypeId) (ty:TypeId) (size k:Nat) (y:Value) (w:World) (news:List Value):Prop:=
 ∀(base:Option Addr) (n cap:Nat),n+k≤cap→(Builtin.append_ ts ty #[.slice base n cap,y]).run P w=
  ((do (match base with | some a=> storeCells (a.add (n*size)) news | none=> pure ()); pure (.slice base (n+k) cap)):Sem Value).run P w
def Cw (P:Program) (ts:Array TypeId) (ty e:TypeId) (size bytes:Nat) (z:Array Value) (k:Nat) (y:Value) (w:World) (news:List Value):Prop:=
 ∀(base:Option Addr) (n cap:Nat) (olds:Array Value),cap < n+k→(n+k)*bytes≤70368744177664→n+k≤70368744177664→
  (Builtin.firstCells size n (.slice base n cap)).run P w.drew= .ok olds w.drew→
  (Builtin.append_ ts ty #[.slice base n cap,y]).run P w= .ok (.slice (some ⟨w.heap.size,0,none⟩) (n+k) (grownCap w (n+k) cap e))
   (w.drew.alloc (.cells (olds++news.toArray++Builtin.zeroCells z (grownCap w (n+k) cap e - (n+k))) e))

theorem Kn {ts:Array TypeId} {t t1 ty e:TypeId} {d1:TypeDesc} {size k:Nat} (h0:ts[0]? =some t) (h1:ts[1]? =some t1) (hu:P.underlying t=some (.slice e))
  (hu1:P.underlying t1=some d1) (hd:∀q,d1≠ .int q) (hsz:mP P e=some size) {y:Value} {arr:Array Value} (hl:(Builtin.lenOf y).run P w= .ok k w)
  (hf:(Builtin.firstCells size k y).run P w= .ok arr w):Hg P ts ty size k y w arr.toList:=by
 intro base n cap hr
 cases base <;> simp [Builtin.append_,h0,h1,run_underlying hu,run_underlying hu1,jY hsz,hl,hr,hf]

theorem Ko {ts:Array TypeId} {t t1 ty e:TypeId} {d1:TypeDesc} {i:TypeInfo} {z:Value} {k:Nat} (h0:ts[0]? =some t) (h1:ts[1]? =some t1) (hu:P.underlying t=some (.slice e))
  (hu1:P.underlying t1=some d1) (hd:∀q,d1≠ .int q) (hi:P.info? e=some i) (hz0:i.zero=some z) {y:Value} {arr:Array Value} (hl:(Builtin.lenOf y).run P w= .ok k w)
  (hf:(Builtin.firstCells i.size k y).run P w.drew= .ok arr w.drew):Cw P ts ty e i.size i.bytes z.cells k y w arr.toList:=by
 intro base n cap olds hg hb hn hold
 have hr:¬(n+k≤cap):=by omega
 have h63:¬(9223372036854775807 < ((n:Int)+(k:Int))):=by omega
 have hb2:=growslice_fits (need:=n+k) (old:=cap) (bytes:=i.bytes) (by omega) (by omega)
 have h48:¬(281474976710656 < Builtin.nextslicecap (n+k) cap*i.bytes):=by omega
 simp [Builtin.append_,h0,h1,run_underlying hu,run_underlying hu1,sizeOf,typeInfo,zeroValue,hi,hz0,hl,hr,h63,h48,Question.forced,hf,hold,newRow,grownCap]

theorem FI {ts:Array TypeId} {t t1 ty e:TypeId} {q kd:IntKind} {i:TypeInfo} {z:Value} {k:Nat} (h0:ts[0]? =some t) (h1:ts[1]? =some t1) (hu:P.underlying t=some (.slice e))
  (hu1:P.underlying t1=some (.int q)) (hi:P.info? e=some i) (hz0:i.zero=some z) (hk:k*i.bytes≤70368744177664) (hk2:k≤70368744177664) (hzz:z.cells.size=i.size):
  Hg P ts ty i.size k (.int kd (k:Int)) w (Builtin.zeroCells z.cells k).toList:=by
 intro base n cap hr
 have w1:=wrap_i64_small (n:=k) (by omega)
 have t1:¬((281474976710656:Int) < (k:Int)*(i.bytes:Int)):=by
  have:((k*i.bytes:Nat):Int)≤70368744177664:=by omega
  rw [Int.natCast_mul] at this
  omega
 have t3:¬((k:Int) < 0):=by omega
 by_cases e0:k*i.size=0
 ·have:Builtin.zeroCells z.cells k= #[]:=by
   unfold Builtin.zeroCells
   rw [hzz,e0]; simp
  rw [this]
  cases base <;> simp [Builtin.append_,h0,h1,run_underlying hu,run_underlying hu1,sizeOf,typeInfo,zeroValue,hi,hz0,asInt,asIntOf,w1,t3,t1,hr,e0]
 ·cases base <;> simp [Builtin.append_,h0,h1,run_underlying hu,run_underlying hu1,sizeOf,typeInfo,zeroValue,hi,hz0,asInt,asIntOf,w1,t3,t1,hr,e0]

theorem FJ {ts:Array TypeId} {t t1 ty e:TypeId} {q kd:IntKind} {i:TypeInfo} {z:Value} {k:Nat} (h0:ts[0]? =some t) (h1:ts[1]? =some t1) (hu:P.underlying t=some (.slice e))
  (hu1:P.underlying t1=some (.int q)) (hi:P.info? e=some i) (hz0:i.zero=some z) (hk:k*i.bytes≤70368744177664) (hk2:k≤70368744177664) (hzz:z.cells.size=i.size):
  Cw P ts ty e i.size i.bytes z.cells k (.int kd (k:Int)) w (Builtin.zeroCells z.cells k).toList:=by
 intro base n cap olds hg hb hn hold
 have w1:=wrap_i64_small (n:=k) (by omega)
 have t1:¬((281474976710656:Int) < (k:Int)*(i.bytes:Int)):=by
  have:((k*i.bytes:Nat):Int)≤70368744177664:=by omega
  rw [Int.natCast_mul] at this
  omega
 have t3:¬((k:Int) < 0):=by omega
 have hr:¬(n+k≤cap):=by omega
 have h63:¬(9223372036854775807 < ((n:Int)+(k:Int))):=by omega
 have hb2:=growslice_fits (need:=n+k) (old:=cap) (bytes:=i.bytes) (by omega) (by omega)
 have h48:¬(281474976710656 < Builtin.nextslicecap (n+k) cap*i.bytes):=by omega
 by_cases e0:k*i.size=0
 ·have:Builtin.zeroCells z.cells k= #[]:=by
   unfold Builtin.zeroCells
   rw [hzz,e0]; simp
  rw [this]
  simp [Builtin.append_,h0,h1,run_underlying hu,run_underlying hu1,sizeOf,typeInfo,zeroValue,hi,hz0,asInt,asIntOf,w1,t3,t1,hr,h63,h48,Question.forced,hold,newRow,grownCap,e0]
 ·simp [Builtin.append_,h0,h1,run_underlying hu,run_underlying hu1,sizeOf,typeInfo,zeroValue,hi,hz0,asInt,asIntOf,w1,t3,t1,hr,h63,h48,Question.forced,hold,newRow,grownCap,e0]

def BG (P:Program) (mu:List String) (G:Nat→List DV) (cx:Cx) (h:Heap) (w:World) (v:AV) (h':Heap) (r:Result Value):Prop:=
 ∃cx' w' v',r= .ok v' w'∧Inv P mu G cx' h' w'∧Stp cx h w cx' h' w'∧bY cx' w' v v'

theorem Di {Cy l:List AV} {olds:Array Value} {news:List Value} (h1:jg cx w Cy olds.toList) (h2:jg cx w l news) (Z:Array Value):
  ∀i (hi:i < (Cy++l).length),i < (olds++news.toArray++Z).size∧bY cx w (Cy++l)[i] ((olds++news.toArray++Z).getD i undef):=by
 intro i hi
 have hc:=h1.append h2
 have hlen:=hc.len
 have hs:i < (olds.toList++news).length:=by rw [hlen]; exact hi
 refine ⟨by simp at hs; simp; omega,?_⟩
 have:=hc.rel i hi
 have e1:(olds++news.toArray++Z).getD i undef=(olds.toList++news).getD i undef:=by
  have e2:(olds++news.toArray++Z).toList=(olds.toList++news)++Z.toList:=by simp
  rw [Array.getD_eq_getD_getElem?,←Array.getElem?_toList,e2,List.getElem?_append_left hs,List.getD]
 rw [e1]; exact this

theorem sV (z:Array Value) (n:Nat):(Builtin.zeroCells z n).size=n*z.size:=by simp [Builtin.zeroCells]

theorem xE (I:Inv P mu G cx h w):Inv P mu G cx h w.drew∧Stp cx h w cx h w.drew:=I.same rfl

theorem zX (I:Inv P mu G cx h w) {ts:Array TypeId} {ty e:TypeId} {size bytes k n cap:Nat} {z:Array Value} {y:Value} {news:List Value} {l Cy:List AV} {base:Option Addr} {olds:Array Value}
  (hg:Cw P ts ty e size bytes z k y w news) (hn:jg cx w.drew l news) (hk:l.length=k*size) (hzz:z.size=size) (ho:jg cx w.drew Cy olds.toList) (hol:Cy.length=n*size)
  (hf:(Builtin.firstCells size n (.slice base n cap)).run P w.drew= .ok olds w.drew) (hc:cap < n+k) (hb:(n+k)*bytes≤70368744177664) (hb2:n+k≤70368744177664):
  BG P mu G cx h w (.sref h.n 0 size (n+k) (n+k) false) (h.push (.cells false e (Cy++l))) ((Builtin.append_ ts ty #[.slice base n cap,y]).run P w):=by
 have hrun:=hg base n cap olds hc hb hb2 hf
 obtain ⟨I',s'⟩:=xE I
 have hge:=grownCap_ge w (n+k) cap e
 have Pd:olds.size=n*size:=by have:=ho.len; simp at this; omega
 have hn':news.length=k*size:=by have:=hn.len; omega
 have hp:=I'.xC (e:=e) (arr:=olds++news.toArray++Builtin.zeroCells z (grownCap w (n+k) cap e - (n+k))) (w':=w.drew.alloc (.cells (olds++news.toArray++Builtin.zeroCells z (grownCap w (n+k) cap e - (n+k))) e)) rfl (cs:=Cy++l) (Di ho hn _)
 refine ⟨_,_,_,hrun,hp.1,s'.trans hp.2,?_⟩
 refine .sref _ _ _ _ _ _ w.heap.size 0 _ _ (by rw [Cx.qpρ]; simp) (Nat.le_refl _) hge (fun k=> by cases k) (.inl rfl) (fun _=> ?_)
 refine ⟨_,_,(0,0),by show (w.drew.heap.push _)[w.drew.heap.size]? =_; rw [Array.getElem?_push_size],?_,(show _≤maxLen from grownCap_le_maxLen w _ _ _ (by unfold maxLen; omega))⟩
 simp only [Array.size_append,sV,Pd,hzz,List.size_toArray,hn']
 have e1:grownCap w (n+k) cap e*size=n*size+k*size+(grownCap w (n+k) cap e - (n+k))*size:=by
  rw [←Nat.add_mul,←Nat.add_mul]; congr 1; omega
 omega

theorem Ji (I:Inv P mu G cx h w) {ts:Array TypeId} {ty e:TypeId} {size bytes k n cap:Nat} {z:Array Value} {y:Value} {news:List Value} {l:List AV} {Cy ds:List DV} {base:Option Addr} {olds:Array Value} {h1:Heap}
    (hg:Cw P ts ty e size bytes z k y w news) (hn:jg cx w.drew l news) (hk:l.length=k*size) (hzz:z.size=size) (hsz:mP P e=some size)
    (hf:(Builtin.firstCells size n (.slice base n cap)).run P w.drew= .ok olds w.drew) (ho:jg cx w.drew (Cy.map .d) olds.toList) (hol:Cy.length=n*size)
    (hc:cap < n+k) (hb:(n+k)*bytes≤70368744177664) (hb2:n+k≤70368744177664) (hfz:FB h l=some (ds,h1)):
    BG P mu G cx h w (.app h1.n 0 (n+k) (Cy++ds)) (h1.push (.tok 0 e)) ((Builtin.append_ ts ty #[.slice base n cap,y]).run P w):=by
  have hrun:=hg base n cap olds hc hb hb2 hf
  obtain ⟨I',s'⟩:=xE I
  have hge:=grownCap_ge w (n+k) cap e
  have Pd:olds.size=n*size:=by have:=ho.len; simp at this; omega
  have hn':news.length=k*size:=by have:=hn.len; omega
  obtain ⟨cx1,I1,s1,f1,hl1,hd1⟩:=EZ I' hfz (g:=fun i=> news.getD i undef) hn.rel
  have hds : jg cx1 w.drew (ds.map .d) news := ⟨by rw [hn',List.length_map,← hl1,hk],fun i hi => by
    rw [List.getElem_map]
    exact .d _ _ (hd1 i (by simpa using hi))⟩
  have hall:=Di (ho.ext s1.ext) hds (Builtin.zeroCells z (grownCap w (n+k) cap e - (n+k)))
  have e1:grownCap w (n+k) cap e*size=n*size+k*size+(grownCap w (n+k) cap e - (n+k))*size:=by
    rw [←Nat.add_mul,←Nat.add_mul]; congr 1; omega
  obtain ⟨cx2,I2,s2,v2⟩:=I1.O_ (e:=e) (arr:=olds++news.toArray++Builtin.zeroCells z (grownCap w (n+k) cap e - (n+k))) (w':=w.drew.alloc (.cells (olds++news.toArray++Builtin.zeroCells z (grownCap w (n+k) cap e - (n+k))) e)) rfl
    (ds := Cy ++ ds) (n := n + k) (cap := grownCap w (n + k) cap e) hsz (by rw [List.length_append,hol,← hl1,hk,Nat.add_mul]) (by simp [sV,Pd,hzz,hn']; omega) hge (fun i hi => by
      obtain ⟨_,q⟩:=hall i (by rw [←List.map_append]; simpa using hi)
      simp only [←List.map_append,List.getElem_map] at q
      cases q with
      |d _ _ hd=> exact hd)
  exact ⟨cx2,_,_,hrun,I2,(s'.trans s1).trans s2,v2⟩
end
end Go.Abs

namespace Go.Abs
section
variable {P : Program} {mu : List String} {G : Nat → List DV} {cx : Cx} {h : Heap} {w : World}

theorem wI {arr:Array Value} {e:TypeId} {fz:Nat×Nat} {c:Nat} (hh:w.heap[c]? =some (.cells arr e fz)) (hf:fz.1=fz.2) (o:Nat):w.frozen? ⟨c,o,none⟩=false:=by
 simp only [World.frozen?,hh]
 have:¬(fz.1≤o∧o < fz.2):=by omega
 simpa using this

theorem Inv.Dj (I:Inv P mu G cx h w) {b c base off:Nat} {e:TypeId} {cs l:List AV} {vs:List Value} {arr:Array Value} {fz:Nat×Nat} (hb:h.get b=some (.cells false e cs)) (hr:cx.ρ b=some (c,base))
  (hl:jg cx w l vs) (hoff:off≤cs.length) (hh:w.heap[c]? =some (.cells arr e fz)) (hlen:base+off+l.length≤arr.size) (h1:∀v∈vs,v.oneCell'=true):
  (storeCells ⟨c,base+off,none⟩ vs).run P w= .ok () (w.setCells c (base+off) vs)∧
  Inv P mu G cx (h.set b (.cells false e (cs.take off++l))) (w.setCells c (base+off) vs)∧Stp cx h w cx (h.set b (.cells false e (cs.take off++l))) (w.setCells c (base+off) vs):=by
 obtain ⟨c',base',hr',⟨arr',fz',harr,hfz⟩,hcell⟩:=I.heap b _ hb
 rw [hr] at hr'; cases hr'
 rw [hh] at harr; cases harr
 have hc:∀j,j < vs.length→(w.cell? ⟨c,base+off+j,none⟩).isSome=true∧w.frozen? ⟨c,base+off+j,none⟩=false:=by
  intro j hj
  rw [hl.len] at hj
  refine ⟨?_,wI hh (hfz rfl) _⟩
  have hx:base+off+j < arr.size:=by omega
  simp [World.cell?,hh,hx]
 obtain ⟨s1,s2,s3⟩:=om c vs (base+off) w
 refine ⟨?_,?_⟩
 ·have:=run_storeCells_cells (P:=P) c (base+off) vs 0 w (fun j hj=> by simpa using (hc j hj).1) (fun j hj=> by simpa using (hc j hj).2) h1
  simpa using this
 ·refine I.OD hb rfl (fun _ _=> by simp) hr (fun _ _=> by simp) s1 s2 (fun a e' f hh=> ?_) (fun L hL=> by rw [hh] at hL; cases hL) (fun ext=> ?_) (wH _ _ _ _)
  ·obtain ⟨a',sz',h2⟩:=s3 a e' f hh
   exact ⟨a',f,h2,sz'⟩
  ·obtain ⟨a',_,h2⟩:=s3 arr e fz hh
   refine ⟨c,base,hr,⟨a',fz,h2,hfz⟩,fun i hi=> ?_⟩
   simp only [List.length_append,List.length_take,Nat.min_eq_left hoff] at hi
   by_cases e0:off≤i
   ·have hlt:i - off < l.length:=by omega
    have hin:=World.cell?_setCells_in c vs (base+off) w (fun j hj=> (hc j hj).1) (i - off) (by rw [hl.len]; exact hlt)
    rw [show base+off+(i - off)=base+i by omega] at hin
    refine ⟨_,hin,?_,(fun f=> by cases f),(fun _=> by rw [World.frozen?_setCells]; exact wI hh (hfz rfl) _)⟩
    rw [List.getElem_append_right (by simp; omega)]
    have:=hl.rel (i - off) hlt
    have hvl:i - off < vs.length:=by rw [hl.len]; exact hlt
    simp only [List.getD,List.getElem?_eq_getElem hvl,Option.getD_some] at this
    simp only [List.length_take,Nat.min_eq_left hoff]
    exact this.ext ext
   ·obtain ⟨v,v1,v2,_,v4⟩:=hcell i (by omega)
    refine ⟨v,?_,?_,(fun f=> by cases f),(fun _=> by rw [World.frozen?_setCells]; exact v4 rfl)⟩
    ·rw [World.cell?_setCells_out c vs (base+off) w _ (fun _ _=> ?_)]
     ·exact v1
     ·show base+i < base+off∨base+off+vs.length≤base+i
      omega
    ·rw [List.getElem_append_left (by simp; omega),List.getElem_take]
     exact v2.ext ext

theorem E4 {b:Bool} {n size:Nat} {cs:List DV} {base:Option Addr} {cap:Nat} (hd:kM w cx.F (.sl b n cs) (.slice base n cap)) (hl:cs.length=n*size):
  ∃olds:Array Value,(Builtin.firstCells size n (.slice base n cap)).run P w= .ok olds w∧jg cx w (cs.map .d) olds.toList:=by
 by_cases e:0 < cs.length
 ·cases hd with
  |sl0 _ a cap=> simp at e
  |sl _ _ _ c o cap vs hn hc h1 h2=>
   obtain ⟨arr,q1,q2⟩ := wG (P := P) (w := w) (cx := cx) (l := cs.map .d) (c := c) (o := o) (fun i hi => by
    have hi':i < cs.length:=by simpa using hi
    exact ⟨vs i,(h1 i hi').1,by rw [List.getElem_map]; exact .d _ _ (h2 i hi')⟩)
   rw [List.length_map,hl] at q1
   exact ⟨arr,q1,q2⟩
 ·have e0:cs=[]:=List.eq_nil_of_length_eq_zero (by omega)
  subst e0
  have e1:n*size=0:=by simpa using hl.symm
  refine ⟨#[],?_,⟨rfl,fun i hi=> by simp at hi⟩⟩
  cases base with
  |none=> rfl
  |some a=>
   show (loadCells a (n*size)).run P w=_
   rw [e1]
   simp [loadCells,loadCellsFrom]

theorem Pe {F:Bool→Nat→Nat→Prop} {b:Bool} {n n' c o cap:Nat} {cs:List DV} {v:Value} (hd:kM w F (.sl b n cs) v) (hv:v= .slice (some ⟨c,o,none⟩) n' cap):
  ∀i (hi:i < cs.length),∃u,w.cell? ⟨c,o+i,none⟩=some u∧F b c (o+i)∧kM w F cs[i] u:=by
 intro i hi
 cases hd with
 |sl0=> simp at hi
 |sl _ _ _ c0 o0 _ vs hn0 hc0 d1 d2=>
  cases hv
  exact ⟨vs i,(d1 i hi).1,(d1 i hi).2,d2 i hi⟩

theorem Jj (I:Inv P mu G cx h w) {ts:Array TypeId} {ty e:TypeId} {size bytes k n:Nat} {m:Bool} {z:Array Value} {y:Value} {l:List AV} {a v:AV} {h':Heap} {x':Value}
    (hsz:mP P e=some size) (hzz:z.size=size) (hk:l.length=k*size) (hok:okCells l=true)
    (hroom:∃news,jg cx w l news∧Hg P ts ty size k y w news) (hgrow:∃news,jg cx w.drew l news∧Cw P ts ty e size bytes z k y w news)
    (hb:(n+k)*bytes≤70368744177664) (hb2:n+k≤70368744177664) (hx:bY cx w a x') (hn:lenOf a=some n) (hA:appA h e size m a k l=some (v,h')):
    BG P mu G cx h w v h' ((Builtin.append_ ts ty #[x',y]).run P w):=by
  obtain ⟨ad,cap,rfl,hle⟩:=Pb hn hx
  obtain ⟨news,hnews,hr⟩:=hroom
  obtain ⟨Lt,AB,hg⟩:=hgrow
  have hone:=hnews.one (by simpa [okCells] using hok)
  have hnl:news.length=k*size:=by rw [hnews.len,hk]
  obtain ⟨ID,sD⟩:=xE I
  unfold appA at hA
  split at hA
  · -- nothing is appended
    simp only [Option.some.injEq,Prod.mk.injEq] at hA
    obtain ⟨rfl,rfl⟩:=hA
    have hnil:news=[]:=List.eq_nil_of_length_eq_zero (by rw [hnl]; simp)
    subst hnil
    refine ⟨cx,w,.slice ad n cap,?_,I,.refl _ _ _,hx⟩
    rw [hr ad n cap (by omega)]
    cases ad <;> simp [storeCells]
  · rename_i k0
    have adD:0 < k:=Nat.pos_of_ne_zero k0
    split at hA
    · rename_i b off zz n' mm ex
      simp only [lenOf,Option.some.injEq] at hn
      subst hn
      split at hA
      · rename_i fr e' cs hbk
        split at hA
        · rename_i old hrd
          split at hA
          · rename_i wQ
            simp only [Bool.and_eq_true] at wQ
            have he:=m_ wQ.1
            have hzs:=m_ wQ.2
            cases he; cases hzs
            have aaT:slView h size (.sref b off size n' mm ex)=some (n',old):=by simp [slView,hbk,hrd]
            obtain ⟨r1,r2,r3,r4⟩:=pU hrd
            obtain ⟨olds,ho1,ho2⟩:=EV ID aaT (hx.ext sD.ext)
            cases hx with
            |sref _ _ _ _ _ _ c base _ _ zY hnm hmc hex UN hzr=>
              split at hA
              · rename_i hfit
                have hfit:=jB hfit
                split at hA
                · cases hA
                · rename_i hfr
                  simp only [Bool.or_eq_false_iff,Bool.not_eq_false'] at hfr
                  obtain ⟨hfr,hlen⟩:=hfr
                  subst hfr
                  have hlen:=jB hlen
                  simp only [Option.some.injEq,Prod.mk.injEq] at hA
                  obtain ⟨rfl,rfl⟩:=hA
                  obtain ⟨q1,q2,q3⟩:=I.write (off:=off+n'*size) hbk zY hnews (by omega) hone
                  have Jk:ad=some ⟨c,base+off,none⟩:=by
                    rcases UN with e1 | ⟨e1,_⟩
                    · exact e1
                    · omega
                  subst Jk
                  refine ⟨cx,_,.slice (some ⟨c,base+off,none⟩) (n'+k) cap,?_,q2,q3,?_⟩
                  · rw [hr _ n' cap (by omega)]
                    simp only [addr_add,Nat.add_assoc] at q1 ⊢
                    simp [q1]
                  · have hx':=bY.ext q3.ext (.sref b off size n' mm ex c base cap _ zY hnm hmc hex UN hzr)
                    cases hx' with
                    |sref _ _ _ _ _ _ c' base' _ _ aaU hnm' acs acu Jk acv=>
                      exact .sref b off size (n'+k) mm ex c' base' cap _ aaU hfit acs acu Jk acv
              · rename_i hfit
                have hfit:mm < n'+k:=by
                  have:=Nat.not_le.1 (fun hh=> by rw [Nat.ble_eq_true_of_le hh] at hfit; cases hfit)
                  exact this
                split at hA
                · -- a row that is full
                  have hcm:=hex rfl
                  subst hcm
                  simp only [Option.some.injEq,Prod.mk.injEq] at hA
                  obtain ⟨rfl,rfl⟩:=hA
                  exact zX I hg AB hk hzz ho2 r3 ho1 hfit hb hb2
                · split at hA
                  · cases hA
                  · rename_i hfr
                    simp only [Bool.or_eq_false_iff,Bool.not_eq_false'] at hfr
                    obtain ⟨hfr,hoff⟩:=hfr
                    subst hfr
                    have hoff:=m_ hoff
                    subst hoff
                    simp only [Option.some.injEq,Prod.mk.injEq] at hA
                    obtain ⟨rfl,rfl⟩:=hA
                    by_cases hcap:n'+k≤cap
                    · -- in place
                      have Jk:ad=some ⟨c,base+0,none⟩:=by
                        rcases UN with e1 | ⟨e1,_⟩
                        · exact e1
                        · omega
                      subst Jk
                      have hb0:=I.sep.base0 _ _ _ zY
                      subst hb0
                      obtain ⟨arr,et,fz,z1,z2⟩:=hzr rfl
                      obtain ⟨c2,lX,hr2,⟨FE,fz2,ha2,_⟩,_⟩:=I.heap b _ hbk
                      rw [zY] at hr2; cases hr2
                      rw [z1] at ha2; cases ha2
                      have hsp:(n'+k)*size≤cap*size:=Nat.mul_le_mul_right _ hcap
                      rw [Nat.add_mul] at hsp
                      obtain ⟨q1,q2,q3⟩:=I.Dj (off:=n'*size) hbk zY hnews (by omega) z1 (by rw [hk]; omega) hone
                      have hold:cs.take (n'*size)=old:=by rw [r2]; simp
                      rw [hold] at q2 q3
                      obtain ⟨s1,s2,s3⟩:=om c news (0+n'*size) w
                      have hB:=q2.heap b _ (Heap.get_set_self hbk)
                      obtain ⟨p2,p3⟩ := q2.rename (y := .cells false e (old ++ l)) (Heap.get_set_self hbk) rfl (fun _ _ => by simp) zY (fun _ _ => by simp) rfl (by
                        obtain ⟨c3,aaV,hr3,UO,hc3⟩:=hB
                        rw [zY] at hr3; cases hr3
                        refine ⟨c,0,by rw [Cx.qpρ]; simp,UO,fun i hi=> ?_⟩
                        obtain ⟨u,u1,u2,u3,u4⟩:=hc3 i hi
                        exact ⟨u,u1,u2.ext (Ext.Db q2 _ _),(fun f=> by cases f),u4⟩)
                      have hgeq:∀b',(((h.set b (.cells false e (old++l))).set b .dead).push (.cells false e (old++l))).get b'=((h.set b .dead).push (.cells false e (old++l))).get b':=by
                        intro b'
                        simp only [Heap.jk,Heap.Cj,Heap.zP]
                        by_cases e1:b'=h.n
                        · simp [e1]
                        · simp only [e1,if_false]
                          by_cases e2:b=b'∧b' < h.n
                          · simp [e2]
                          · simp [e2]
                      refine ⟨_,_,.slice (some ⟨c,0+0,none⟩) (n'+k) cap,?_,p2.congr (by rfl) hgeq,(q3.trans p3).congr (by rfl) hgeq,?_⟩
                      · rw [hr _ n' cap (by omega)]
                        simp only [addr_add,Nat.add_zero,Nat.zero_add] at q1 ⊢
                        simp [q1]
                      · refine .sref _ 0 size (n'+k) (n'+k) false c 0 cap _ (by rw [Cx.qpρ]; simp) (Nat.le_refl _) hcap (fun k=> by cases k) (.inl rfl) (fun _=> ?_)
                        obtain ⟨arr',a1,a2⟩:=s3 arr e fz z1
                        exact ⟨arr',e,fz,a2,by rw [a1]; simpa using z2.1,z2.2⟩
                    · -- in a new row
                      obtain ⟨Ik,sk⟩:=I.kill b
                      obtain ⟨cx2,w2,v2,o1,o2,o3,o4⟩:=zX Ik hg AB hk hzz ho2 r3 ho1 (by omega) hb hb2
                      exact ⟨cx2,w2,v2,o1,o2,sk.trans o3,o4⟩
          · cases hA
        · cases hA
      · cases hA
    · -- onto a token
      rename_i t g n' cs
      simp only [lenOf,Option.some.injEq] at hn
      subst hn
      split at hA
      · rename_i g' e' htk
        split at hA
        · rename_i wQ
          simp only [Bool.and_eq_true] at wQ
          have hge:=m_ wQ.1
          have he:=m_ wQ.2
          cases hge; cases he
          split at hA
          · rename_i ds h1 hfz
            simp only [Option.some.injEq,Prod.mk.injEq] at hA
            obtain ⟨rfl,rfl⟩:=hA
            cases hx with
            |app _ _ _ _ _ hd κ hK hgg hfits=>
              obtain ⟨κ0,k1,k2,⟨k3,k3'⟩,k4,k5⟩:=I.heap t _ htk
              rw [hK] at k1; cases k1
              rw [hsz] at k3
              have k3:=Option.some.inj k3
              obtain ⟨f1,f2,f3⟩:=hfits k2.symm
              subst f1
              rw [←k3] at f2
              by_cases hcap:κ.n+k≤κ.cap
              · -- in place
                obtain ⟨cx1,I1,s1,fr1,hl1,hd1⟩:=EZ I hfz (g:=fun i=> news.getD i undef) hnews.rel
                cases hpl:κ.pl with
                |none=> have:=(k3' hpl).2; omega
                |some p=>
                  obtain ⟨c,b0⟩:=p
                  obtain ⟨e0,⟨arr,fz,a1,a2⟩,a3⟩:=k5 c b0 hpl
                  subst e0
                  rw [hpl] at f3
                  simp only [Value.slice.injEq,true_and] at f3
                  obtain ⟨rfl,rfl⟩:=f3
                  have hsp:(κ.n+k)*size≤κ.cap*size:=Nat.mul_le_mul_right _ hcap
                  rw [Nat.add_mul] at hsp
                  have hcs:∀j,j < news.length→(w.cell? ⟨c,0+κ.n*size+j,none⟩).isSome=true∧w.frozen? ⟨c,0+κ.n*size+j,none⟩=false:=by
                    intro j hj
                    have:=a3 (κ.n*size+j) (by rw [←k3]; omega)
                    rw [Nat.add_assoc]
                    exact ⟨this.1,this.2 (by rw [←k3]; omega)⟩
                  have q1:=run_storeCells_cells (P:=P) c (0+κ.n*size) news 0 w (fun j hj=> by simpa using (hcs j hj).1) (fun j hj=> by simpa using (hcs j hj).2) hone
                  obtain ⟨s1',s2',s3'⟩:=om c news (0+κ.n*size) w
                  have UP:h1.get t=some (.tok κ.gen e):=by rw [fr1.oth t (fun fr e cs=> by rw [htk]; simp)]; rw [htk,k2]
                  have hK1:cx1.K t=some κ:=by rw [fr1.K]; exact hK
                  obtain ⟨arr',a1s,a1'⟩:=s3' arr e fz a1
                  have hout:∀o,o < κ.n*size→(w.setCells c (0+κ.n*size) news).cell? ⟨c,o,none⟩=w.cell? ⟨c,o,none⟩:=by
                    intro o ho
                    rw [World.cell?_setCells_out c news (0+κ.n*size) w _ (fun _ _=> ?_)]
                    show o < 0+κ.n*size∨_
                    left; omega
                  obtain ⟨J,sJ⟩:=I1.tok (κ':=⟨κ.gen+1,some (c,0),κ.n+k,κ.cap,κ.sz⟩) (c:=c) UP hK1 rfl rfl rfl (.inl ⟨0,hpl⟩) (by rw [s1']; exact Nat.le_refl _)
                    (by rw [s1']; exact (Array.getElem?_eq_some_iff.1 a1).1) (fun i hi _=> s2' i hi)
                    (fun b1 _=> ⟨by rw [←k3]; exact Nat.mul_le_mul_right _ (by show κ.n≤κ.n+k; omega),fun o ho=> hout o (by rw [k3]; exact ho)⟩)
                    ⟨arr',fz,a1',a2.imp id (fun q=> Nat.le_trans q (Nat.mul_le_mul_right _ (by show κ.n≤κ.n+k; omega)))⟩ hcap
                    (fun b1 _ ar ar' fz1 fz2 m1 m2 => by
                      rw [a1] at m1; cases m1
                      rw [a1'] at m2; cases m2
                      exact a1s)
                    (fun j hj => by
                      rw [World.frozen?_setCells]
                      have q:=a3 j hj
                      rw [Nat.zero_add] at q
                      refine ⟨?_,fun acw=> q.2 (Nat.le_trans (Nat.mul_le_mul_right _ (by show κ.n≤κ.n+k; omega)) acw)⟩
                      by_cases hin:κ.n*size≤j∧j < κ.n*size+news.length
                      · have:=World.cell?_setCells_in c news (0+κ.n*size) w (fun j hj=> (hcs j hj).1) (j - κ.n*size) (by omega)
                        rw [show 0+κ.n*size+(j - κ.n*size)=j by omega] at this
                        rw [this]; rfl
                      · rw [World.cell?_setCells_out c news (0+κ.n*size) w _ (fun _ _=> ?_)]
                        · exact q.1
                        · show j < 0+κ.n*size∨0+κ.n*size+news.length≤j
                          omega) (wH _ _ _ _)
                  refine ⟨cx1.step t ⟨κ.gen+1,some (c,0),κ.n+k,κ.cap,κ.sz⟩ c,w.setCells c (0+κ.n*size) news,.slice (some ⟨c,0,none⟩) (κ.n+k) κ.cap,?_,?_,?_,?_⟩
                  · rw [hr _ κ.n κ.cap hcap]
                    simp only [Nat.zero_add,Nat.add_zero] at q1
                    simp [addr_add,q1]
                  · rw [←k2]; exact J
                  · rw [←k2]; exact s1.trans sJ
                  · have hds:∀i,i < ds.length→(w.setCells c (0+κ.n*size) news).cell? ⟨c,0+κ.n*size+i,none⟩=some (news.getD i undef):=by
                      intro i hi
                      have hi':i < news.length:=by rw [hnews.len,hl1]; exact hi
                      rw [World.cell?_setCells_in c news (0+κ.n*size) w (fun j hj=> (hcs j hj).1) i hi']
                      simp [List.getD,hi']
                    refine .app t (g+1) (κ.n+k) (cs++ds) _ ?_ ⟨κ.gen+1,some (c,0),κ.n+k,κ.cap,κ.sz⟩ (by show (if t=t then _ else _)=_; simp) (by show g+1≤κ.gen+1; omega) (fun _=> ⟨rfl,?_,rfl⟩)
                    · refine .sl false (κ.n+k) (cs++ds) c 0 κ.cap (fun i=> ((w.setCells c (0+κ.n*size) news).cell? ⟨c,i,none⟩).getD undef) (by omega) hcap (fun i hi=> ?_) (fun i hi=> ?_)
                      · have hi2:i < κ.n*size+k*size:=by simp only [List.length_append,f2,←hl1,hk] at hi; exact hi
                        refine ⟨?_,.inl (.inr ⟨rfl,?_⟩)⟩
                        · rw [Nat.zero_add i]
                          by_cases e1:i < κ.n*size
                          · rw [hout i e1]
                            have q:=(a3 i (by rw [←k3]; omega)).1
                            rw [Nat.zero_add] at q
                            obtain ⟨u,hu⟩:=Option.isSome_iff_exists.1 q
                            rw [hu]; rfl
                          · have:=hds (i - κ.n*size) (by rw [←hl1,hk]; omega)
                            rw [show 0+κ.n*size+(i - κ.n*size)=i by omega] at this
                            rw [this]; rfl
                        · show 0+i < (κ.n+k)*κ.sz
                          rw [←k3,Nat.add_mul]; omega
                      · have hi2:i < κ.n*size+k*size:=by simp only [List.length_append,f2,←hl1,hk] at hi; exact hi
                        by_cases e1:i < κ.n*size
                        · rw [List.getElem_append_left (by omega)]
                          obtain ⟨u,u1,_,u3⟩:=Pe hd rfl i (by omega)
                          rw [Nat.zero_add] at u1
                          rw [hout i e1,u1]
                          exact (u3.ext s1.ext).ext sJ.ext
                        · rw [List.getElem_append_right (by omega)]
                          have hj:i - cs.length < ds.length:=by rw [f2,←hl1,hk]; omega
                          have q:=hds (i - κ.n*size) (by rw [f2] at hj; exact hj)
                          rw [show 0+κ.n*size+(i - κ.n*size)=i by omega] at q
                          rw [q]
                          have:=hd1 (i - cs.length) hj
                          simp only [f2] at this ⊢
                          exact this.ext sJ.ext
                    · show (cs++ds).length=(κ.n+k)*κ.sz
                      rw [List.length_append,f2,←hl1,hk,←k3,Nat.add_mul]
              · -- in a new row
                have hcl:cap < κ.n+k:=by
                  cases hpl:κ.pl with
                  |none=>
                    rw [hpl] at f3
                    obtain ⟨a0,f3⟩:=f3
                    simp only [Value.slice.injEq] at f3
                    omega
                  |some p=>
                    obtain ⟨c,b0⟩:=p
                    rw [hpl] at f3
                    simp only [Value.slice.injEq,true_and] at f3
                    omega
                obtain ⟨olds,o1,o2⟩:=E4 (P:=P) (hd.ext sD.ext) f2
                have hrun:=hg ad κ.n cap olds hcl hb hb2 o1
                have hge:=grownCap_ge w (κ.n+k) cap e
                generalize hgc:grownCap w (κ.n+k) cap e=gc at hrun hge
                have Pd:olds.size=κ.n*size:=by have:=o2.len; simp at this; omega
                have hn':Lt.length=k*size:=by have:=AB.len; omega
                obtain ⟨cx1,I1,s1,fr1,hl1,hd1⟩:=EZ ID hfz (g:=fun i=> Lt.getD i undef) AB.rel
                have hds : jg cx1 w.drew (ds.map .d) Lt := ⟨by rw [hn',List.length_map,← hl1,hk],fun i hi => by
                  rw [List.getElem_map]
                  exact .d _ _ (hd1 i (by simpa using hi))⟩
                have hall:=Di (o2.ext s1.ext) hds (Builtin.zeroCells z (gc - (κ.n+k)))
                generalize aaW:olds++Lt.toArray++Builtin.zeroCells z (gc - (κ.n+k))=arr at hrun hall
                have e1:gc*size=κ.n*size+k*size+(gc - (κ.n+k))*size:=by
                  rw [←Nat.add_mul,←Nat.add_mul]; congr 1; omega
                have aaX:arr.size=gc*size:=by rw [←aaW]; simp [sV,Pd,hzz,hn']; omega
                have hheap:(w.drew.alloc (.cells arr e)).heap=w.drew.heap.push (.cells arr e (0,0)):=rfl
                have UQ:w.drew.heap.size=w.heap.size:=rfl
                have UP:h1.get t=some (.tok κ.gen e):=by rw [fr1.oth t (fun fr e cs=> by rw [htk]; simp)]; rw [htk,k2]
                have hK1:cx1.K t=some κ:=by rw [fr1.K]; exact hK
                have hsp:(κ.n+k)*size≤gc*size:=Nat.mul_le_mul_right _ hge
                obtain ⟨J,sJ⟩:=I1.tok (w':=w.drew.alloc (.cells arr e)) (κ':=⟨κ.gen+1,some (w.heap.size,0),κ.n+k,gc,κ.sz⟩) (c:=w.heap.size) UP hK1 rfl rfl rfl (.inr rfl) (by rw [hheap]; simp)
                  (by rw [hheap]; simp) (fun i _ hi=> by rw [hheap]; exact kZ _ _ _ hi)
                  (fun b0 hb0=> absurd (I1.sep.ltK t κ _ _ hK1 hb0) (by rw [UQ]; omega))
                  ⟨arr,(0,0),by rw [hheap]; exact Array.getElem?_push_size,.inl rfl⟩ hge
                  (fun b0 hb0=> absurd (I1.sep.ltK t κ _ _ hK1 hb0) (by rw [UQ]; omega))
                  (fun j hj => by
                    have hj':j < arr.size:=by rw [aaX]; rw [←k3] at hj; exact hj
                    have q:=Cv (w:=w.drew) (w':=w.drew.alloc (.cells arr e)) hheap j hj'
                    rw [UQ] at q
                    exact ⟨by rw [q]; rfl,fun _=> BF (w:=w.drew) (w':=w.drew.alloc (.cells arr e)) hheap j⟩)
                refine ⟨cx1.step t ⟨κ.gen+1,some (w.heap.size,0),κ.n+k,gc,κ.sz⟩ w.heap.size,_,_,hrun,?_,?_,?_⟩
                · rw [←k2]; exact J
                · rw [←k2]; exact (sD.trans s1).trans sJ
                · refine .app t (g+1) (κ.n+k) (cs++ds) _ ?_ ⟨κ.gen+1,some (w.heap.size,0),κ.n+k,gc,κ.sz⟩ (by show (if t=t then _ else _)=_; simp) (by show g+1≤κ.gen+1; omega) (fun _=> ⟨rfl,?_,rfl⟩)
                  · have hlen:(cs++ds).length=(κ.n+k)*size:=by rw [List.length_append,f2,←hl1,hk,Nat.add_mul]
                    refine .sl false (κ.n+k) (cs++ds) w.heap.size 0 gc (fun i=> arr.getD i undef) (by omega) hge (fun i hi=> ?_) (fun i hi=> ?_)
                    · refine ⟨?_,.inl (.inr ⟨rfl,?_⟩)⟩
                      · rw [Nat.zero_add i]
                        exact Cv (w:=w.drew) (w':=w.drew.alloc (.cells arr e)) hheap i (by rw [aaX]; omega)
                      · show 0+i < (κ.n+k)*κ.sz
                        rw [←k3]; omega
                    · obtain ⟨_,q⟩:=hall i (by rw [←List.map_append]; simpa using hi)
                      simp only [←List.map_append,List.getElem_map] at q
                      cases q with
                      |d _ _ hd=> exact hd.ext sJ.ext
                  · show (cs++ds).length=(κ.n+k)*κ.sz
                    rw [List.length_append,f2,←hl1,hk,←k3,Nat.add_mul]
          · cases hA
        · cases hA
      · cases hA
    · -- onto nil
      simp only [lenOf,Option.some.injEq] at hn
      subst hn
      have hnil:=oO hx
      simp only [Value.slice.injEq] at hnil
      obtain ⟨rfl,-,rfl⟩:=hnil
      have h0:(Builtin.firstCells size 0 (.slice none 0 0)).run P w.drew= .ok #[] w.drew:=rfl
      have hcn:jg cx w.drew [] (#[]:Array Value).toList:=⟨rfl,fun i hi=> by simp at hi⟩
      have hcells:BG P mu G cx h w (.sref h.n 0 size k k false) (h.push (.cells false e l)) ((Builtin.append_ ts ty #[.slice none 0 0,y]).run P w):=by
        have:=zX I hg AB hk hzz hcn (by simp) h0 (by omega) hb hb2
        simpa using this
      cases m with
      |true=>
        simp only [Option.some.injEq,Prod.mk.injEq] at hA
        obtain ⟨rfl,rfl⟩:=hA
        exact hcells
      |false=>
        simp only at hA
        split at hA
        · rename_i ds h1 hfz
          simp only [Option.some.injEq,Prod.mk.injEq] at hA
          obtain ⟨rfl,rfl⟩:=hA
          have:=Ji I hg AB hk hzz hsz h0 (Cy:=[]) hcn (by simp) (by omega) hb hb2 hfz
          simpa using this
        · simp only [Option.some.injEq,Prod.mk.injEq] at hA
          obtain ⟨rfl,rfl⟩:=hA
          exact hcells
    · -- onto a full row
      rename_i bor n' cs
      simp only [lenOf,Option.some.injEq] at hn
      subst hn
      split at hA
      · rename_i hcl
        have hcl:=m_ hcl
        cases hx with
        |full _ _ _ _ hd=>
          obtain ⟨olds,o1,o2⟩:=E4 (P:=P) (hd.ext sD.ext) hcl
          have hcells:BG P mu G cx h w (.sref h.n 0 size (cap+k) (cap+k) false) (h.push (.cells false e (cs.map .d++l))) ((Builtin.append_ ts ty #[.slice ad cap cap,y]).run P w):=
            zX I hg AB hk hzz o2 (by simpa using hcl) o1 (by omega) hb hb2
          cases m with
          |true=>
            simp only [Option.some.injEq,Prod.mk.injEq] at hA
            obtain ⟨rfl,rfl⟩:=hA
            exact hcells
          |false=>
            simp only at hA
            split at hA
            · rename_i ds h1 hfz
              simp only [Option.some.injEq,Prod.mk.injEq] at hA
              obtain ⟨rfl,rfl⟩:=hA
              exact Ji I hg AB hk hzz hsz o1 o2 hcl (by omega) hb hb2 hfz
            · simp only [Option.some.injEq,Prod.mk.injEq] at hA
              obtain ⟨rfl,rfl⟩:=hA
              exact hcells
      · cases hA
    · cases hA
end
end Go.Abs

namespace Go.Abs
section
variable {P : Program} {mu : List String} {G : Nat → List DV} {cx : Cx} {h : Heap} {w : World}

theorem SL {t:TypeId} {zs:List AV} {size bytes:Nat} (hz:nP P t=some zs) (hsz:mP P t=some size) (hby:byT P t=some bytes):
  ∃i z,P.info? t=some i∧i.zero=some z∧i.size=size∧i.bytes=bytes∧∀(cx:Cx) (w:World),jg cx w zs z.cells.toList:=by
 unfold mP at hsz; unfold byT at hby
 cases hi:P.info? t with
 |none=> rw [hi] at hsz; cases hsz
 |some i=>
  rw [hi] at hsz hby
  cases hsz; cases hby
  unfold nP at hz
  rw [hi] at hz
  simp only at hz
  cases hzz:i.zero with
  |none=> rw [hzz] at hz; cases hz
  |some z=>
   refine ⟨i,z,rfl,hzz,rfl,rfl,fun cx w=> ?_⟩
   obtain ⟨z',z1,z2⟩:=sU (P:=P) (w:=w) (cx:=cx) (t:=t) (zs:=zs) (by unfold nP; rw [hi]; exact hz)
   have:(zeroValue t).run P w= .ok z w:=by simp [zeroValue,typeInfo,hi,hzz]
   rw [this] at z1
   cases z1
   exact z2

theorem BG.op {v:AV} {h':Heap} {r:Sem Value} (ha:BG P mu G cx h w v h' (r.run P w)):jR P mu G cx h w (.val v h') ((do pure (Next.value (←r)):Sem Next).run P w):=by
 obtain ⟨cx',w',v',o1,o2,o3,o4⟩:=ha
 exact ⟨cx',w',o2,o3,.inl ⟨v',by simp [o1],o4⟩⟩

theorem Lu (I:Inv P mu G cx h w) {t t1 e ty:TypeId} {d1:TypeDesc} {ts:Array TypeId} {size bytes:Nat} {zs:List AV} {m:Bool} (h0:ts[0]? =some t) (h1:ts[1]? =some t1) (hu:P.underlying t=some (.slice e))
  (hu1:P.underlying t1=some d1) (hd:∀q,d1≠ .int q) (hsz:mP P e=some size) (hby:byT P e=some bytes) (hz:nP P e=some zs) (hzs:zs.length=size)
  {x y:X} {tm:List AV} {x' y':Value} (hx:bY cx w (x.ev tm) x') (hy:bY cx w (y.ev tm) y'):
  jR P mu G cx h w (s_app h tm e size bytes m x y) ((do pure (Next.value (←Builtin.append_ ts ty #[x',y'])):Sem Next).run P w):=by
 unfold s_app
 split
 ·rename_i k l n hs hn
  split
  ·rename_i hc
   simp only [Bool.and_eq_true] at hc
   have c1:=jB hc.1.1
   have c2:=jB hc.1.2
   obtain ⟨i,z,i1,i2,i3,i4,i5⟩:=SL hz hsz hby
   subst i3; subst i4
   have hzz:z.cells.size=i.size:=by have:=(i5 cx w).len; simp at this; omega
   unfold oh
   split
   ·rename_i v h' hA
    obtain ⟨ID,sD⟩:=xE I
    obtain ⟨s1,s2,s3⟩:=yF I hs hy
    obtain ⟨t1',t2,t3⟩:=yF ID hs (hy.ext sD.ext)
    obtain ⟨a1,f1,f2⟩:=s3 k (Nat.le_refl _)
    obtain ⟨a2,g1,g2⟩:=t3 k (Nat.le_refl _)
    rw [←s2,List.take_length] at f2
    rw [←s2,List.take_length] at g2
    exact (Jj I hsz hzz s2 hc.2 ⟨_,f2,Kn h0 h1 hu hu1 hd hsz s1 f1⟩ ⟨_,g2,Ko h0 h1 hu hu1 hd i1 i2 s1 g1⟩ c1 c2 hx hn hA).op
   ·trivial
  ·trivial
 ·trivial

theorem Pf (I:Inv P mu G cx h w) {t t1 e ty:TypeId} {q:IntKind} {ts:Array TypeId} {size bytes:Nat} {zs:List AV} (h0:ts[0]? =some t) (h1:ts[1]? =some t1) (hu:P.underlying t=some (.slice e))
  (hu1:P.underlying t1=some (.int q)) (hsz:mP P e=some size) (hby:byT P e=some bytes) (hz:nP P e=some zs) (hzs:zs.length=size)
  {x y:X} {tm:List AV} {x' y':Value} (hx:bY cx w (x.ev tm) x') (hy:bY cx w (y.ev tm) y'):
  jR P mu G cx h w (Bw h tm e size bytes zs x y) ((do pure (Next.value (←Builtin.append_ ts ty #[x',y'])):Sem Next).run P w):=by
 unfold Bw
 split
 ·rename_i k n hk hn
  split
  ·rename_i hc
   simp only [Bool.and_eq_true] at hc
   have c1:=jB hc.1.1
   have c2:=jB hc.1.2
   obtain ⟨i,z,i1,i2,i3,i4,i5⟩:=SL hz hsz hby
   subst i3; subst i4
   have hzz:z.cells.size=i.size:=by have:=(i5 cx w).len; simp at this; omega
   have kb:k*i.bytes≤70368744177664:=Nat.le_trans (Nat.mul_le_mul_right _ (Nat.le_add_left k n)) c1
   obtain ⟨kd,rfl⟩:=sS hk hy
   unfold oh
   split
   ·rename_i v h' hA
    refine (Jj I (l:=vv zs k) hsz hzz (by rw [vE,hzs]) ?_ ⟨_,(xD (i5 cx w) k rfl).2,FI h0 h1 hu hu1 i1 i2 kb (by omega) hzz⟩ ⟨_,(xD (i5 cx w.drew) k rfl).2,FJ h0 h1 hu hu1 i1 i2 kb (by omega) hzz⟩ c1 c2 hx hn hA).op
    have h3:=hc.2
    simp only [okCells,Bool.not_eq_true',List.any_eq_false] at h3 ⊢
    intro a ha
    obtain ⟨j,hj,rfl⟩:=List.getElem_of_mem ha
    obtain ⟨p1,p2⟩:=Je zs k j hj
    rw [p2]
    exact h3 _ (List.getElem_mem _)
   ·trivial
  ·trivial
 ·trivial
end
end Go.Abs

namespace Go.Abs
section
variable {P : Program} {mu : List String} {G : Nat → List DV} {cx : Cx} {h : Heap} {w : World}

theorem RO (I:Inv P mu G cx h w) {s d e:TypeId} (hs:P.underlying s=some .string) (hd:P.underlying d=some (.slice e)) (he:P.underlying e=some (.int .u8)) {x:X} {tm:List AV} {v:Value} (hv:bY cx w (x.ev tm) v):
  jR P mu G cx h w (EB h tm e x) ((do pure (Next.value (←convert s d v)):Sem Next).run P w):=by
 unfold EB
 split
 ·rename_i l hx
  rw [hx] at hv
  obtain ⟨sb,rfl,hl⟩:=hv.AU
  have hsz:sb.size=l.length:=by rw [←hl]; simp
  have hrun:=run_bytes_of_string (P:=P) w s d e sb hs hd he
  have hge:=grownCap_ge w sb.size 0 e
  generalize grownCap w sb.size 0 e=cap at hrun hge
  generalize hw':w.drew.alloc (.cells (bytesRow sb cap) e ((bytesRow sb cap).size,(bytesRow sb cap).size+1))=w' at hrun
  have hheap:w'.heap=w.heap.push (.cells (bytesRow sb cap) e ((bytesRow sb cap).size,(bytesRow sb cap).size+1)):=by rw [←hw']; rfl
  have hcell:∀i (hi:i < l.length),w'.cell? ⟨w.heap.size,i,none⟩=some (.int .u8 (l[i].toNat:Int)):=by
   intro i hi
   have hi':i < sb.data.size:=by rw [←hl] at hi; simpa using hi
   have h1:w'.heap[w.heap.size]? =some (.cells (bytesRow sb cap) e ((bytesRow sb cap).size,(bytesRow sb cap).size+1)):=by rw [hheap]; simp
   have h2:=bytesRow_at sb cap i hi'
   simp only [World.cell?,h1,h2]
   subst hl
   simp
  obtain ⟨I',s'⟩:=I.Dh (w':=w') (fun c o=> c=w.heap.size∧o < l.length) (by rw [hheap]; simp) (fun c hc=> by rw [hheap]; exact kZ _ _ _ hc) (fun c o ⟨hc,ho⟩=> ⟨by omega,by rw [hc,hcell o ho]; rfl⟩) (by rw [←hw']; exact ⟨rfl,rfl⟩)
  refine ⟨_,w',I',s',.inl ⟨.slice (some ⟨w.heap.size,0,none⟩) sb.size cap,by simp [hrun],?_⟩⟩
  rw [hsz] at hge ⊢
  refine .d _ _ ?_
  rcases Nat.eq_zero_or_pos l.length with e0 | e0
  ·have:l=[]:=List.eq_nil_of_length_eq_zero e0
   subst this
   exact .sl0 _ _ _
  ·exact .sl false l.length (bytesD l) w.heap.size 0 cap (fun i=> .int .u8 ((l.getD i 0).toNat:Int)) e0 hge
    (fun i hi => by
     have hi':i < l.length:=by simpa [bytesD] using hi
     refine ⟨?_,.inl (.inr ⟨rfl,by omega⟩)⟩
     rw [Nat.zero_add,hcell i hi']
     simp [List.getD,hi'])
    (fun i hi => by
     have hi':i < l.length:=by simpa [bytesD] using hi
     simp only [bytesD,List.getElem_map,List.getD,List.getElem?_eq_getElem hi',Option.getD_some]
     exact .i _ _)
 ·trivial

theorem AF {c o:Nat} {arr:Array Value} {e:TypeId} {fz:Nat×Nat} (hh:w.heap[c]? =some (.cells arr e fz)):(Conv.seenAt ⟨c,o,none⟩).run P w= .ok ⟨c,o,none⟩ w:=by
 simp [Conv.seenAt,viewAt,World.shape?,hh]

theorem D6 (d:Nat) (t:TypeId):sameLayout P (d+1) t t=true:=by simp [sameLayout]

theorem Kq {t:TypeId} {n:Nat} (h:mP P t=some n):P.cellsOf t=n:=by
 unfold mP at h
 unfold Program.cellsOf
 rw [h]; rfl

theorem Lv (I:Inv P mu G cx h w) {s d t:TypeId} {u:Option (TypeId×Nat)} {n:Nat} (hsz:mP P t=some n)
  (hsd:(u=none∧n≠0∧P.underlying s=some (.pointer t)∧P.underlying d=some .unsafePointer)∨(u=some (t,n)∧P.underlying s=some .unsafePointer∧P.underlying d=some (.pointer t)))
  {x:X} {tm:List AV} {v:Value} (hv:bY cx w (x.ev tm) v):
  jR P mu G cx h w (Am h tm u x) ((do pure (Next.value (←convert s d v)):Sem Next).run P w):=by
 unfold Am
 split
 ·rename_i b o hx
  rw [hx] at hv
  split
  ·rename_i fr e cs hb
   split
   ·rename_i hc
    obtain ⟨c,base,hr,rfl⟩:=hv.q_
    have hb0:=I.sep.base0 _ _ _ hr
    subst hb0
    obtain ⟨c',base',hr',⟨arr,fz,harr,_⟩,hcell⟩:=I.heap b _ hb
    rw [hr] at hr'; cases hr'
    have hle:cs.length≤arr.size:=by
     rcases Nat.eq_zero_or_pos cs.length with e0 | e0
     ·omega
     ·obtain ⟨v,v1,_⟩:=hcell (cs.length - 1) (by omega)
      simp only [World.cell?,harr] at v1
      have:=(Array.getElem?_eq_some_iff.1 v1).1
      omega
    refine .look I (v':= .pointer (some ⟨c,0+o,none⟩)) ?_ hv
    rcases hsd with ⟨rfl,h0,hs,hd⟩ | ⟨rfl,hs,hd⟩
    ·have hc:o < cs.length:=by simpa [Nat.blt,Nat.succ_le_iff] using hc
     have hn:¬(arr.size≤0+o):=by omega
     have h1:=AF (P:=P) (o:=0+o) harr
     have h2:(cellsIn c).run P w= .ok (some arr.size) w:=by simp [cellsIn,World.shape?,harr]
     simp only [Nat.zero_add] at hn h1 ⊢
     simp [convert,run_underlying hs,run_underlying hd,Conv.unsafePointer,h1,h2,jY hsz,h0,hn]
    ·simp only [Bool.and_eq_true] at hc
     obtain ⟨⟨⟨c1,c2⟩,c3⟩,c4⟩:=hc
     have c1:=m_ c1
     have c2:=m_ c2
     have c3:0 < n:=by simpa [Nat.blt,Nat.succ_le_iff] using c3
     have c4:=jB c4
     subst c2
     cases c1
     have h1:=AF (P:=P) (o:=0+0) harr
     have acy:∃dd,P.depth=dd+2:=⟨2*(P.types.size+Made.depth),rfl⟩
     obtain ⟨dd,hdd⟩:=acy
     have h2:(variablesAt ⟨c,0+0,none⟩ t 1).run P w= .ok true w:=by
      have hl:liesAt P P.depth t (arr.size / P.cellsOf t) 0 t 1=true:=by
       rw [hdd]
       have hn0:n≠0:=by omega
       have hq:1≤arr.size / n:=(Nat.le_div_iff_mul_le c3).2 (by omega)
       have hsl:sameLayout P (dd+2) t t=true:=D6 _ _
       simp [liesAt,rowAt,Kq hsz,hn0,hq,hsl,hdd]
      simp [variablesAt,World.shape?,harr,hl]
     simp only [Nat.zero_add] at h1 h2 ⊢
     simp [convert,run_underlying hs,run_underlying hd,Conv.unsafePointer,h1,h2,jY hsz]
   ·trivial
  ·trivial
 ·trivial

theorem Gm (_I:Inv P mu G cx h w) {x:X} {tm:List AV} {v:Value} (hv:bY cx w (x.ev tm) v):
  jR P mu G cx h w (zJ tm x) ((do pure (Next.value (←Instr.panic v)):Sem Next).run P w):=by
 unfold zJ
 split
 ·rename_i t a hx
  rw [hx] at hv
  obtain ⟨v',rfl,hv'⟩:=Eb hv
  exact ⟨_,by simp [Instr.panic],hv⟩
 ·rename_i t a hx
  rw [hx] at hv
  obtain ⟨v',rfl,hv'⟩:=EO hv
  exact ⟨_,by simp [Instr.panic],hv⟩
 ·trivial

theorem lI {f:FuncId} (hf:Enters P f) (args:Array Value):(callFunc f args).run P w= .ok (.enter f args) w:=by
 obtain ⟨fn,c,h1,h2,h3⟩:=hf
 simp [callFunc,h1,h2,h3]

theorem MM (_I:Inv P mu G cx h w) {f:FuncId} {xs:List X} {tm:List AV} {args:Array Value} (hl:args.size=xs.length) (hr:∀i (hi:i < xs.length),bY cx w (xs[i].ev tm) (args.getD i undef)):
  jR P mu G cx h w (GZ tm f xs) ((do let d ←Deferred.ofValue (.func (.func f) #[] #[]) args; invoke d.target d.args:Sem Next).run P w):=by
 refine ⟨args,fun hf=> ?_,by simpa using hl,fun i hi=> ?_⟩
 ·simp [Deferred.ofValue,invoke,lI hf]
 ·rw [List.getElem_map]; exact hr i (by simpa using hi)

theorem vF {a b:List AV} {a' b':Array Value} (ha:a'.size=a.length) (hb:b'.size=b.length) (ra:∀i (hi:i < a.length),bY cx w a[i] (a'.getD i undef)) (rb:∀i (hi:i < b.length),bY cx w b[i] (b'.getD i undef)):
  (a'++b').size=(a++b).length∧∀i (hi:i < (a++b).length),bY cx w (a++b)[i] ((a'++b').getD i undef):=by
 refine ⟨by simp [ha,hb],fun i hi=> ?_⟩
 by_cases e:i < a.length
 ·rw [List.getElem_append_left e]
  have:=ra i e
  have e':i < a'.size:=by omega
  simpa [Array.getD_eq_getD_getElem?,Array.getElem?_append_left e'] using this
 ·rw [List.getElem_append_right (by omega)]
  have:=rb (i - a.length) (by simp at hi; omega)
  have e':a'.size≤i:=by omega
  have e2:(a'++b').getD i undef=b'.getD (i - a.length) undef:=by
   simp [Array.getD_eq_getD_getElem?,Array.getElem?_append_right e',ha]
  rw [e2]; exact this

theorem run_getLoop {c:Nat} {L:Loop} (hL:w.heap[c]? =some (Obj.loop L)):(Instr.getLoop c).run P w= .ok L w:=by
 have hg:(getObj c).run P w= .ok (.loop L) w:=by simp [getObj,Sem.run,hL]
 simp [Instr.getLoop,hg]

theorem Lx (I:Inv P mu G cx h w) {f:AV} {f':Value} {as:List AV} {args:Array Value} (hf:bY cx w f f') (hl:args.size=as.length) (hr:∀i (hi:i < as.length),bY cx w as[i] (args.getD i undef)):
    jR P mu G cx h w (tgt f as) ((do let d ←Deferred.ofValue f' args; invoke d.target d.args:Sem Next).run P w):=by
  unfold tgt
  split
  · rename_i g fs cs
    cases hf with
    |d _ _ hd=>
      cases hd with
      |fn _ _ _ fs' cs' e1 e2 r1 r2=>
        obtain ⟨p1,p2⟩ := vF (a := fs.map inj) (b := as) (a' := fs') (b' := args) (by simp [e1]) hl (fun i hi => by
          rw [List.getElem_map]; exact Ec (r1 i (by simpa using hi))) hr
        obtain ⟨q1,q2⟩ := vF (b := cs.map inj) (b' := cs') p1 (by simp [e2]) p2 (fun i hi => by
          rw [List.getElem_map]; exact Ec (r2 i (by simpa using hi)))
        exact ⟨_,fun hE=> by simp [Deferred.ofValue,invoke,lI hE],q1,q2⟩
  · rename_i g fs cs
    cases hf with
    |fn _ _ _ fs' cs' e1 e2 r1 r2 hy=>
      obtain ⟨p1,p2⟩:=vF (a:=fs) (b:=as) (a':=fs') (b':=args) e1 hl r1 hr
      obtain ⟨q1,q2⟩:=vF (b:=cs) (b':=cs') p1 e2 p2 r2
      exact ⟨_,fun hE=> by simp [Deferred.ofValue,invoke,lI hE],q1,q2⟩
  · rename_i l fs cs
    cases hf with
    |fn _ _ _ fs' cs' e1 e2 r1 r2 hy=> exact absurd rfl (hy l)
    |yld _ c base hr'=>
      refine ⟨args,hl,hr,fun st pd f tm ps asg body hb=> ?_⟩
      obtain ⟨c2,L,k1,k2,_⟩:=I.heap l _ hb
      rw [hr'] at k1; cases k1
      refine ⟨c,L,hr',k2,fun hp=> ?_⟩
      have hg:(Instr.getLoop c).run P w= .ok L w:=run_getLoop k2
      simp [Deferred.ofValue,invoke,Instr.yield,hg,hp]
  · trivial
end
end Go.Abs

namespace Go.Abs
section
variable {P : Program} {mu : List String} {G : Nat → List DV} {cx : Cx} {h : Heap} {w : World}

theorem Pg {ts:Array TypeId} {ty:TypeId} {cs:Array Bool} {args:Array Value}:builtin .unsafeSliceData ts ty cs args=(do pure (Next.value (←Builtin.unsafeSliceData_ ts ty args))):=rfl
theorem Ph {ts:Array TypeId} {ty:TypeId} {cs:Array Bool} {args:Array Value}:builtin .unsafeString ts ty cs args=(do pure (Next.value (←Builtin.unsafeString_ ts ty args))):=rfl

theorem RP (I:Inv P mu G cx h w) {ts:Array TypeId} {ty:TypeId} {consts:Array Bool} {x:X} {tm:List AV} {v:Value} (hx:bY cx w (x.ev tm) v):
  jR P mu G cx h w (BU h tm x) ((builtin .unsafeSliceData ts ty consts #[v]).run P w):=by
 unfold BU
 split
 ·rename_i hxe
  rw [hxe] at hx
  cases hx
  exact .look I (v':= .pointer none) (by rw [Pg,Sem.run_bind,Lib.run_unsafeSliceData_nil]; rfl) (.d _ _ .sG)
 ·rename_i t g n cs hxe
  rw [hxe] at hx
  split
  ·rename_i g' e htk
   split
   ·rename_i hg
    have hg:=m_ hg
    subst hg
    cases hx with
    |app _ _ _ _ _ hd κ hK hgg hfits=>
     obtain ⟨κ0,k1,k2,⟨k3,k3'⟩,k4,k5⟩:=I.heap t _ htk
     rw [hK] at k1; cases k1
     obtain ⟨f1,f2,f3⟩:=hfits k2.symm
     cases hpl:κ.pl with
     |none=> have:=k3' hpl; omega
     |some p=>
      obtain ⟨c,b0⟩:=p
      obtain ⟨e0,_,_⟩:=k5 c b0 hpl
      subst e0
      rw [hpl] at f3
      simp only at f3
      subst f3
      have hcap:κ.cap≠0:=by omega
      refine .look I (v':= .pointer (some ⟨c,0,none⟩)) ?_ ?_
      ·rw [Pg,Sem.run_bind,Lib.run_unsafeSliceData_row _ _ _ _ _ _ hcap]; rfl
      ·refine .x_ t g e cs c κ hK hgg (fun _=> hpl) ?_
       cases hd with
       |sl _ _ _ c0 o0 _ vs hn0 hc0 d1 d2=> exact kM.bx false cs 0 c 0 vs d1 d2
   ·trivial
  ·trivial
 ·trivial

theorem E5:∀{ds:List DV} {s:List UInt8},qm ds=some s→ds.all isB=true→ds=s.map fun x=> DV.i .u8 (.ofNat x.toNat):=by
 intro ds
 induction ds with
 |nil=> intro s hu _; simp [qm] at hu; subst hu; rfl
 |cons d ds ih=>
  intro s hu ha
  simp only [List.all_cons,Bool.and_eq_true] at ha
  simp only [qm] at hu
  split at hu
  ·rename_i b hb
   split at hu
   ·rename_i r hr
    cases hu
    rw [List.map_cons,←ih hr ha.2]
    congr 1
    have h1:=ha.1
    unfold isB at h1
    unfold GD at hb
    split at hb
    ·rename_i n
     cases hb
     have h1:=ru h1
     congr 2
     simp [Nat.mod_eq_of_lt h1]
    ·cases hb
   ·cases hu
  ·cases hu

theorem Jl {c n:Nat} {arr:Array Value} {e:TypeId} {fz:Nat×Nat} (hh:w.heap[c]? =some (Obj.cells arr e fz)) (h0:n≠0):
  (w.freeze ⟨c,0,none⟩ n).heap.size=w.heap.size∧(∀i,i≠c→(w.freeze ⟨c,0,none⟩ n).heap[i]? =w.heap[i]?)∧((w.freeze ⟨c,0,none⟩ n).os=w.os∧(w.freeze ⟨c,0,none⟩ n).output=w.output)∧
  ∃fz',(w.freeze ⟨c,0,none⟩ n).heap[c]? =some (Obj.cells arr e fz')∧∀m,n≤m→(fz.1=fz.2∨fz.2≤m)→fz'.2≤m:=by
 unfold World.freeze
 rw [if_neg h0]
 refine ⟨by simp,fun i hi=> by simp [Array.getElem?_modify,Ne.symm hi],⟨rfl,rfl⟩,?_⟩
 obtain ⟨lo,hi⟩:=fz
 simp only [Array.getElem?_modify,if_true,hh,Option.map_some]
 refine ⟨_,rfl,fun m hm hf=> ?_⟩
 by_cases e:lo=hi
 ·simp [e]; omega
 ·have e':(lo==hi)=false:=by simpa using e
  simp only [e',Bool.false_eq_true,if_false,Nat.zero_add]
  rcases hf with hf | hf
  ·exact absurd hf e
  ·exact Nat.max_le.2 ⟨hf,hm⟩

theorem RQ (I:Inv P mu G cx h w) {pt it ty el:TypeId} {consts:Array Bool} (hp:P.underlying pt=some (.pointer el)) (hc1:P.cellsOf el=1) {x n:X} {tm:List AV} {v k:Value} (hx:bY cx w (x.ev tm) v) (hn:bY cx w (n.ev tm) k):
    jR P mu G cx h w (BS h tm el x n) ((builtin .unsafeString #[pt,it] ty consts #[v,k]).run P w):=by
  unfold BS
  split
  · rename_i k hne
    rw [hne] at hn
    cases hn with
    |d _ _ hn=>
    cases hn
    split
    · split
      · rename_i t g e cs hxe
        rw [hxe] at hx
        cases hx with
        |x_ _ _ _ _ c κ hK hgg hpl hd=>
          refine .look I (v':= .string .empty) ?_ (.d _ _ (.s _ _ rfl))
          rw [Ph]
          have:=Lib.run_unsafeString_none (P:=P) (w:=w) pt it ty (some ⟨c,0,none⟩)
          simp only [Sem.run_bind]
          erw [this]
          rfl
      · rename_i hxe
        rw [hxe] at hx
        cases hx with
        |d _ _ hd=>
          cases hd
          refine .look I (v':= .string .empty) ?_ (.d _ _ (.s _ _ rfl))
          rw [Ph]
          have:=Lib.run_unsafeString_none (P:=P) (w:=w) pt it ty none
          simp only [Sem.run_bind]
          erw [this]
          rfl
      · trivial
    · rename_i k'
      split
      · rename_i t g e0 cs hxe
        rw [hxe] at hx
        split
        · rename_i g' e' htk
          split
          · rename_i wQ
            simp only [Bool.and_eq_true] at wQ
            obtain ⟨⟨⟨⟨h1,h2⟩,h3⟩,h4⟩,h5⟩:=wQ
            have h1:=m_ h1
            have h2:=m_ h2
            have h3:=jB h3
            have h4:=jB h4
            subst h1
            subst h2
            split
            · rename_i s hs
              have hst:=E5 hs h5
              have hsl:s.length=k'+1:=by
                have:=congrArg List.length hst
                simp at this; omega
              cases hx with
              |x_ _ _ _ _ c κ hK hgg hpl hd=>
                obtain ⟨κ0,k1,k2,⟨k3,k3'⟩,k4,k5⟩:=I.heap t _ htk
                rw [hK] at k1; cases k1
                have hpl:=hpl k2.symm
                obtain ⟨_,⟨arr,fz,a1,a2⟩,a3⟩:=k5 c 0 hpl
                generalize hpv:Value.pointer (some ⟨c,0,none⟩)=pv at hd
                cases hd with
                |bx _ _ _ c0 o vs d1 d2=>
                simp only [Value.pointer.injEq,Option.some.injEq,Addr.mk.injEq,Nat.add_zero,and_true] at hpv
                obtain ⟨rfl,rfl⟩:=hpv
                simp only [Nat.zero_add] at d1
                have hk':k' < cs.length:=h3
                have hin:k'+1≤κ.n*κ.sz:=by
                  have:=I.sep.p9 t _ _ κ c 0 htk hK hpl k' (.inl ((d1 k' hk').2.elim id (fun q=> by cases q.1)))
                  omega
                have harr:k' < arr.size:=by
                  have:=(d1 k' hk').1
                  simp only [World.cell?,a1] at this
                  exact (Array.getElem?_eq_some_iff.1 (by simpa using this)).1
                have hrun := Lib.run_unsafeString_row (P := P) (w := w) pt it ty _ hp hc1 c arr.size (by simp [World.shape?,a1]) s (fun e => by rw [e] at hsl; simp at hsl) (by omega) (by omega) (fun j x hj => by
                  have hjl:j < s.length:=(List.getElem?_eq_some_iff.1 hj).1
                  have hjc:j < cs.length:=by omega
                  have e1:cs[j]= .i .u8 (.ofNat x.toNat):=by
                    have e2:(cs.take (k'+1))[j]? =some (DV.i .u8 (.ofNat x.toNat)):=by rw [hst,List.getElem?_map,hj]; rfl
                    rw [List.getElem?_take,if_pos (by omega),List.getElem?_eq_getElem hjc] at e2
                    exact Option.some.inj e2
                  have e3:=d2 j hjc
                  rw [e1] at e3
                  rw [addr_add,Nat.zero_add,(d1 j hjc).1]
                  generalize vs j=u at e3
                  cases e3
                  rfl)
                rw [hsl] at hrun
                obtain ⟨q1,q2,q3,fz',q4,q5⟩:=Jl (w:=w) (n:=k'+1) a1 (by omega)
                have q5:=q5 (κ.n*κ.sz) hin a2
                obtain ⟨J,sJ⟩:=I.tok (w':=w.freeze ⟨c,0,none⟩ (k'+1)) (κ':=⟨κ.gen+1,some (c,0),κ.n,κ.cap,κ.sz⟩) (c:=c) htk hK (by rw [k2]) rfl rfl (.inl ⟨0,hpl⟩) (by rw [q1]; exact Nat.le_refl _)
                  (by rw [q1]; exact (Array.getElem?_eq_some_iff.1 a1).1) (fun i hi _=> q2 i hi)
                  (fun b1 _=> ⟨Nat.le_refl _,fun o _=> by simp [World.cell?,a1,q4]⟩)
                  ⟨arr,fz',q4,.inr q5⟩ k4
                  (fun b1 _ ar ar' f1 f2 m1 m2 => by
                    rw [a1] at m1; cases m1
                    rw [q4] at m2; cases m2
                    rfl)
                  (fun j hj => by
                    have q:=a3 j hj
                    rw [Nat.zero_add] at q
                    refine ⟨?_,fun hge=> ?_⟩
                    · have:=q.1
                      simp only [World.cell?,a1] at this
                      simpa [World.cell?,q4] using this
                    · simp only [World.frozen?,q4]
                      have hge:κ.n*κ.sz≤j:=hge
                      have:¬j < fz'.2:=by omega
                      simp [this]) q3
                refine ⟨_,_,J,sJ,.inl ⟨.string ⟨s.toArray⟩,?_,.d _ _ (.s _ _ (by simp))⟩⟩
                rw [Ph]
                simp only [Sem.run_bind]
                erw [hrun]
                rfl
            · trivial
          · trivial
        · trivial
      · trivial
  · trivial

theorem Kr {c:Nat} (hc:c < 256):∀(l:List UInt8) (i:Nat),uX c l i=if Lib.indexByte l (UInt8.ofNat c)= -1 then -1 else Lib.indexByte l (UInt8.ofNat c)+i:=by
 intro l
 induction l with
 |nil=> intro i; rfl
 |cons b l ih=>
  intro i
  have hge:=Lib.indexByte_ge l (UInt8.ofNat c)
  have hb:Nat.beq b.toNat c=(b==UInt8.ofNat c):=by
   rw [Bool.eq_iff_iff,Nat.beq_eq,beq_iff_eq]
   constructor
   ·intro e; rw [←e]; simp
   ·intro e; rw [e]; simp [Nat.mod_eq_of_lt hc]
  unfold uX Lib.indexByte
  rw [hb]
  cases b==UInt8.ofNat c with
  |true=> simp
  |false=>
   simp only [Bool.false_eq_true,if_false]
   rw [ih]
   by_cases e:Lib.indexByte l (UInt8.ofNat c)= -1
   ·simp [e]
   ·have e2:(Lib.indexByte l (UInt8.ofNat c)== -1)=false:=by simpa using e
    rw [if_neg e,e2]
    simp only [Bool.false_eq_true,if_false]
    rw [if_neg (by omega)]
    omega
end
end Go.Abs

namespace Go.Abs
section
variable {P : Program} {mu : List String} {G : Nat → List DV} {cx : Cx} {h : Heap} {w : World}

theorem AZ {kt:TypeId} {kk:KK} (hk:C_ P kt=some kk):∃d,P.underlying kt=some d:=by
 unfold C_ at hk
 cases hu:P.underlying kt with
 |some d=> exact ⟨d,rfl⟩
 |none=>
  have h1:BA P kt=none:=by unfold BA; rw [hu]
  have h2:EI P kt=false:=by unfold EI; rw [hu]
  rw [h1,h2] at hk
  simp at hk

theorem Ks {tm:List AV} {a:Act} (ht:uF cx w tm a.tmps) {lo:Option Operand} {l:Option X} (hl:(match lo with | none=> some none | some y=> (cX y).map some)=some l):BE cx w tm l (lo.map a.eval):=by
 cases lo with
 |none=> simp only [Option.some.injEq] at hl; subst hl; exact .none
 |some y=>
  simp only [Option.map_eq_some_iff] at hl
  obtain ⟨x,hx,rfl⟩:=hl
  exact .some x _ (zR ht hx)

theorem zZ {α:Type} {l:List α} {β:Type} {f:α→Option β} {r:List β} (hm:l.mapM f=some r):l.length=r.length∧∀i (hi:i < r.length) (hj:i < l.length),f l[i]=some r[i]:=by
 induction l generalizing r with
 |nil=> simp at hm; subst hm; exact ⟨rfl,fun i hi=> absurd hi (by simp)⟩
 |cons x l ih=>
  rw [List.mapM_cons] at hm
  cases hx:f x with
  |none=> rw [hx] at hm; cases hm
  |some y=>
   rw [hx] at hm
   cases hl:l.mapM f with
   |none=> rw [hl] at hm; cases hm
   |some r'=>
    rw [hl] at hm
    cases hm
    obtain ⟨e1,e2⟩:=ih hl
    refine ⟨by simp [e1],fun i hi hj=> ?_⟩
    cases i with
    |zero=> exact hx
    |succ i=> exact e2 i (by simpa using hi) (by simpa using hj)

theorem wJ {tm:List AV} {a:Act} (ht:uF cx w tm a.tmps) {as:Array Operand} {xs:List X} (hx:as.toList.mapM cX=some xs):
  (as.map a.eval).size=xs.length∧∀i (hi:i < xs.length),bY cx w (xs[i].ev tm) ((as.map a.eval).getD i undef):=by
 obtain ⟨e1,e2⟩:=Rk ht hx
 refine ⟨by simpa using e1,fun i hi=> ?_⟩
 have:=e2 i hi
 have e:(as.map a.eval)=(as.toList.map a.eval).toArray:=by
  apply Array.ext'; simp
 rw [e]; exact this

theorem FL (I:Inv P mu G cx h w) {E:Env} {mu':List String} {me:String} {b:Builtin} {ts:Array TypeId} {ty:TypeId} {xs:List X} {c:COp} (hc:sQ P mu' me b ts xs=some c) (hb:allowed c=true)
  {tm:List AV} {consts:Array Bool} {args:Array Value} (hl:args.size=xs.length) (hr:∀i (hi:i < xs.length),bY cx w (xs[i].ev tm) (args.getD i undef)):
  jR P mu G cx h w (gI c E h tm) ((builtin b ts ty consts args).run P w):=by
 have one:∀x,xs=[x]→∃v,args= #[v]∧bY cx w (x.ev tm) v:=by
  rintro x rfl
  refine ⟨args.getD 0 undef,?_,hr 0 (by simp)⟩
  apply Array.ext
  ·simpa using hl
  ·intro i h1 h2
   have:i=0:=by simp at h2; omega
   subst this
   simp [Array.getD,h1]
 have two:∀x y,xs=[x,y]→∃v u,args= #[v,u]∧bY cx w (x.ev tm) v∧bY cx w (y.ev tm) u:=by
  rintro x y rfl
  refine ⟨args.getD 0 undef,args.getD 1 undef,?_,hr 0 (by simp),hr 1 (by simp)⟩
  apply Array.ext
  ·simpa using hl
  ·intro i h1 h2
   have:i=0∨i=1:=by simp at h2; omega
   rcases this with rfl | rfl <;> simp [Array.getD,h1]
 unfold sQ at hc
 split at hc
 ·
  rename_i x y
  obtain ⟨x',y',rfl,hx,hy⟩:=two x y rfl
  split at hc
  ·rename_i e hu
   split at hc
   ·rename_i s n zs hs hn hz
    split at hc
    ·rename_i hzs
     simp only [Option.bind_eq_some_iff] at hu
     obtain ⟨t,h0,hu⟩:=hu
     split at hc
     ·rename_i q hu1
      simp only [Option.bind_eq_some_iff] at hu1
      obtain ⟨t1,h1,hu1⟩:=hu1
      cases hc
      exact Pf I h0 h1 hu hu1 hs hn hz hzs hx hy
     ·rename_i d hd hu1
      simp only [Option.bind_eq_some_iff] at hu1
      obtain ⟨t1,h1,hu1⟩:=hu1
      cases hc
      exact Lu I h0 h1 hu hu1 (fun q e=> hd q e) hs hn hz hzs hx hy
     ·cases hc
    ·cases hc
   ·cases hc
  ·cases hc
 ·
  rename_i x
  obtain ⟨x',rfl,hx⟩:=one x rfl
  split at hc <;> (try cases hc) <;> rename_i hu <;> simp only [Option.bind_eq_some_iff] at hu <;> obtain ⟨t,h0,hu⟩:=hu
  ·exact OP I h0 hu hx
  ·exact OQ I h0 hu hx
  ·exact OR I h0 hu hx
  ·exact (Co I h0 (.inl ⟨_,hu⟩)).1
  ·split at hc
   ·rename_i hu2
    cases hc
    exact (Co I h0 (.inr ⟨_,_,hu,hu2⟩)).1
   ·cases hc
 ·
  rename_i x
  obtain ⟨x',rfl,hx⟩:=one x rfl
  split at hc <;> (try cases hc) <;> rename_i hu <;> simp only [Option.bind_eq_some_iff] at hu <;> obtain ⟨t,h0,hu⟩:=hu
  ·exact Rz I h0 hu hx
  ·exact (Co I h0 (.inl ⟨_,hu⟩)).2
  ·split at hc
   ·rename_i hu2
    cases hc
    exact (Co I h0 (.inr ⟨_,_,hu,hu2⟩)).2
   ·cases hc
 ·
  rename_i x y
  obtain ⟨x',y',rfl,hx,hy⟩:=two x y rfl
  split at hc
  ·rename_i e hu
   simp only [Option.bind_eq_some_iff] at hu
   obtain ⟨t,h0,hu⟩:=hu
   simp only [Option.map_eq_some_iff] at hc
   obtain ⟨s,hs,rfl⟩:=hc
   exact O5 I h0 hu hs hx hy
  ·cases hc
 ·
  rename_i x y
  obtain ⟨x',y',rfl,hx,hy⟩:=two x y rfl
  split at hc
  ·rename_i kt e hu
   simp only [Option.bind_eq_some_iff] at hu
   obtain ⟨t,h0,hu⟩:=hu
   simp only [Option.bind_eq_bind,Option.bind_eq_some_iff,Option.some.injEq] at hc
   obtain ⟨kk,hk,rfl⟩:=hc
   obtain ⟨d,hd⟩:=AZ hk
   exact absurd hb Bool.false_ne_true
  ·cases hc
 ·cases hc; exact (OZ I hl hr).1
 ·cases hc; exact (OZ I hl hr).2
 ·
  rename_i x
  obtain ⟨x',rfl,hx⟩:=one x rfl
  cases hc
  exact Gm I hx
 ·cases hc
  exact (rfl:(builtin .recover ts ty consts args).run P w=_)
 ·rename_i x
  obtain ⟨x',rfl,hx⟩:=one x rfl
  cases hc
  exact RP I hx
 ·rename_i x y
  obtain ⟨x',y',rfl,hx,hy⟩:=two x y rfl
  split at hc
  ·rename_i pt it hts
   split at hc
   ·rename_i el hp
    split at hc
    ·rename_i hc1
     cases hc
     have:ts= #[pt,it]:=by apply Array.ext'; simpa using hts
     subst this
     exact RQ I hp hc1 hx hy
    ·cases hc
   ·cases hc
  ·cases hc
 ·
  rename_i x
  obtain ⟨x',rfl,hx⟩:=one x rfl
  split at hc
  ·rename_i e hu
   simp only [Option.bind_eq_some_iff] at hu
   obtain ⟨t,h0,hu⟩:=hu
   simp only [Option.bind_eq_bind,Option.bind_eq_some_iff] at hc
   obtain ⟨s,hs,zs,hz,hc⟩:=hc
   split at hc
   ·rename_i hzs
    cases hc
    exact absurd hb Bool.false_ne_true
   ·cases hc
  ·cases hc
 ·cases hc

theorem FM (I:Inv P mu G cx h w) {E:Env} {s d:TypeId} {x:X} {c:COp} (hc:uE P s d x=some c) (hb:allowed c=true) {tm:List AV} {v:Value} (hv:bY cx w (x.ev tm) v):
  jR P mu G cx h w (gI c E h tm) ((do pure (Next.value (←convert s d v)):Sem Next).run P w):=by
 unfold uE at hc
 split at hc
 ·rename_i h1 h2; cases hc; exact Ry I h1 h2 hv
 ·rename_i h1 h2; cases hc; exact absurd hb Bool.false_ne_true
 ·rename_i e h1 h2
  split at hc
  ·rename_i h3; cases hc; exact RO I h1 h2 h3 hv
  ·cases hc
 ·rename_i e h1 h2
  split at hc
  ·rename_i h3; cases hc; exact RE I h1 h3 h2 hv
  ·cases hc
 ·rename_i h1 h2; cases hc; exact absurd hb Bool.false_ne_true
 ·rename_i t h1 h2
  split at hc
  ·rename_i n h3
   cases hc
   exact Lv I h3 (.inl ⟨rfl,by omega,h1,h2⟩) hv
  ·cases hc
 ·rename_i t h1 h2
  simp only [Option.bind_eq_bind,Option.bind_eq_some_iff,Option.some.injEq] at hc
  obtain ⟨n,h3,rfl⟩:=hc
  exact Lv I h3 (.inr ⟨rfl,h1,h2⟩) hv
 ·cases hc

theorem Jm (I:Inv P mu G cx h w) {E:Env} (hE:E.kQ=G) {mu':List String} {me:String} {o:Oper} {c:COp} (hc:yS P mu' me o=some c) (hb:allowed c=true)
  {a:Act} {tm:List AV} (ht:uF cx w tm a.tmps):jR P mu G cx h w (gI c E h tm) ((execOp a.eval o).run P w):=by
 unfold yS at hc
 have hx:∀{y:Operand} {x:X},cX y=some x→bY cx w (x.ev tm) (a.eval y):=fun h=> zR ht h
 split at hc
 ·rename_i x hop
  simp only [Option.map_eq_some_iff] at hc
  obtain ⟨y,hy,rfl⟩:=hc
  unfold execOp; rw [hop]
  exact OL I (hx hy)
 ·rename_i x hop
  simp only [Option.map_eq_some_iff] at hc
  obtain ⟨y,hy,rfl⟩:=hc
  unfold execOp; rw [hop]
  exact OL I (hx hy)
 ·rename_i hop
  simp only [Option.bind_eq_bind,Option.bind_eq_some_iff,Option.some.injEq] at hc
  obtain ⟨y1,h1,y2,h2,y3,h3,rfl⟩:=hc
  unfold execOp; rw [hop]
  exact OM I (hx h1) (hx h2) (hx h3)
 ·rename_i hop
  simp only [Option.bind_eq_bind,Option.bind_eq_some_iff,Option.some.injEq] at hc
  obtain ⟨zs,h1,rfl⟩:=hc
  unfold execOp; rw [hop]
  exact MI I h1
 ·rename_i hop
  simp only [Option.bind_eq_bind,Option.bind_eq_some_iff,Option.some.injEq] at hc
  obtain ⟨y,h1,rfl⟩:=hc
  unfold execOp; rw [hop]
  exact RG I (hx h1)
 ·
  rename_i t ps hop
  simp only [Option.bind_eq_bind,Option.bind_eq_some_iff] at hc
  obtain ⟨zs,hz,hc⟩:=hc
  unfold execOp; rw [hop]
  split at hc
  ·rename_i fs hu
   simp only [Option.bind_eq_some_iff] at hc
   obtain ⟨l,hl,hc⟩:=hc
   split at hc
   ·rename_i hpl
    cases hc
    obtain ⟨m1,m2⟩:=zZ hl
    have hsz:(ps.map fun (p:Nat×Operand)=> (p.1,a.eval p.2)).size=l.length:=by simpa using m1
    have key:∀i (hi:i < l.length) (hj:i < (ps.map fun (p:Nat×Operand)=> (p.1,a.eval p.2)).size),bY cx w (l[i].2.2.ev tm) (ps.map fun (p:Nat×Operand)=> (p.1,a.eval p.2))[i].2∧
      ∃f,fs[(ps.map fun (p:Nat×Operand)=> (p.1,a.eval p.2))[i].1]? =some f∧l[i].1=f.offset∧mP P f.type=some l[i].2.1:=by
     intro i hi hj
     have:=m2 i hi (by omega)
     simp only [Option.bind_eq_some_iff,Option.some.injEq] at this
     obtain ⟨f,hf,s,hs,y,hy,e⟩:=this
     have hj':i < ps.size:=by simpa using hj
     simp only [Array.getElem_map]
     rw [Array.getElem_toList] at hf hy
     refine ⟨by rw [←e]; exact hx hy,f,hf,by rw [←e],by rw [←e]; exact hs⟩
    exact Gi I hz hsz (fun i hi hj=> (key i hi hj).1) (.inl ⟨fs,hu,hpl,fun i hi hj=> (key i hi hj).2⟩)
   ·cases hc
  ·rename_i n e hu
   simp only [Option.bind_eq_some_iff] at hc
   obtain ⟨s,hs,l,hl,hc⟩:=hc
   cases hc
   obtain ⟨m1,m2⟩:=zZ hl
   have hsz:(ps.map fun (p:Nat×Operand)=> (p.1,a.eval p.2)).size=l.length:=by simpa using m1
   have key:∀i (hi:i < l.length) (hj:i < (ps.map fun (p:Nat×Operand)=> (p.1,a.eval p.2)).size),bY cx w (l[i].2.2.ev tm) (ps.map fun (p:Nat×Operand)=> (p.1,a.eval p.2))[i].2∧
     l[i].1=(ps.map fun (p:Nat×Operand)=> (p.1,a.eval p.2))[i].1*s∧l[i].2.1=s:=by
    intro i hi hj
    have:=m2 i hi (by omega)
    simp only [Option.bind_eq_some_iff,Option.some.injEq] at this
    obtain ⟨y,hy,e⟩:=this
    have hj':i < ps.size:=by simpa using hj
    simp only [Array.getElem_map]
    rw [Array.getElem_toList] at hy e
    exact ⟨by rw [←e]; exact hx hy,by rw [←e],by rw [←e]⟩
   exact Gi I hz hsz (fun i hi hj=> (key i hi hj).1) (.inr ⟨n,e,s,hu,hs,fun i hi hj=> (key i hi hj).2⟩)
  ·cases hc
 ·
  rename_i t n ps hop
  unfold execOp; rw [hop]
  split at hc
  ·rename_i e hu
   simp only [Option.bind_eq_bind,Option.bind_eq_some_iff] at hc
   obtain ⟨s,hs,zs,hz,l,hl,hc⟩:=hc
   split at hc
   ·rename_i hcnd
    cases hc
    obtain ⟨m1,m2⟩:=zZ hl
    have hsz:(ps.map fun (p:Nat×Operand)=> (p.1,a.eval p.2)).size=l.length:=by simpa using m1
    have key:∀i (hi:i < l.length) (hj:i < (ps.map fun (p:Nat×Operand)=> (p.1,a.eval p.2)).size),bY cx w (l[i].2.2.ev tm) (ps.map fun (p:Nat×Operand)=> (p.1,a.eval p.2))[i].2∧
      l[i].1=(ps.map fun (p:Nat×Operand)=> (p.1,a.eval p.2))[i].1*s∧l[i].2.1=s:=by
     intro i hi hj
     have:=m2 i hi (by omega)
     simp only [Option.bind_eq_some_iff,Option.some.injEq] at this
     obtain ⟨y,hy,e⟩:=this
     have hj':i < ps.size:=by simpa using hj
     simp only [Array.getElem_map]
     rw [Array.getElem_toList] at hy e
     exact ⟨by rw [←e]; exact hx hy,by rw [←e],by rw [←e]⟩
    exact RH I hu hs hz hcnd.2 hcnd.1 hsz (fun i hi hj=> (key i hi hj).1) (fun i hi hj=> (key i hi hj).2)
   ·cases hc
  ·cases hc
 ·
  rename_i t y hop
  simp only [Option.bind_eq_bind,Option.bind_eq_some_iff,Option.some.injEq] at hc
  obtain ⟨ag,ha,n,hn,x,hy,rfl⟩:=hc
  unfold execOp; rw [hop]
  show jR P mu G cx h w (ov h (loadA E.kQ h ag n (x.ev tm))) _
  rw [hE]
  refine jR.ov I (fun v hl=> ?_)
  obtain ⟨v',h1,h2⟩:=Ck I ha hn (hx hy) hl
  exact ⟨v',by simp [h1],h2⟩
 ·
  rename_i hop
  simp only [Option.bind_eq_bind,Option.bind_eq_some_iff,Option.some.injEq] at hc
  obtain ⟨n,hn,y1,h1,y2,h2,rfl⟩:=hc
  unfold execOp; rw [hop]
  exact MJ I hn (hx h1) (hx h2)
 ·
  rename_i y hop
  simp only [Option.map_eq_some_iff] at hc
  obtain ⟨x,hy,rfl⟩:=hc
  exact Kk I (hx hy) a.eval hop rfl
 ·
  rename_i hop
  simp only [Option.bind_eq_bind,Option.bind_eq_some_iff,Option.some.injEq] at hc
  obtain ⟨y1,h1,y2,h2,rfl⟩:=hc
  unfold execOp; rw [hop]
  exact Rx I rfl (hx h1) (hx h2)
 ·rename_i hop
  simp only [Option.bind_eq_bind,Option.bind_eq_some_iff,Option.some.injEq] at hc
  obtain ⟨y1,h1,rfl⟩:=hc
  unfold execOp; rw [hop]
  exact UM I (hx h1)
 ·
  rename_i hop
  simp only [Option.bind_eq_bind,Option.bind_eq_some_iff] at hc
  obtain ⟨y1,h1,hc⟩:=hc
  unfold execOp; rw [hop]
  exact FM I hc hb (hx h1)
 ·
  rename_i hop
  unfold execOp; rw [hop]
  split at hc
  ·cases hc
  ·rename_i d hn hu
   simp only [Option.bind_eq_bind,Option.bind_eq_some_iff,Option.some.injEq] at hc
   obtain ⟨y1,h1,rfl⟩:=hc
   exact ON I hu (fun ms e=> hn ms e) (hx h1)
  ·cases hc
 ·
  rename_i hop
  unfold execOp; rw [hop]
  split at hc
  ·rename_i hf
   simp only [Option.bind_eq_bind,Option.bind_eq_some_iff,Option.some.injEq] at hc
   obtain ⟨l1,h1,l2,h2,rfl⟩:=hc
   obtain ⟨a1,a2⟩:=wJ ht h1
   obtain ⟨b1,b2⟩:=wJ ht h2
   exact O0 I (fun l e=> by subst e; simp [Ba] at hf) a1 b1 a2 b2
  ·cases hc
 ·rename_i hop
  cases hc
  unfold execOp; rw [hop]
  exact Gj I (.inl rfl)
 ·rename_i hop
  unfold execOp; rw [hop]
  split at hc
  ·rename_i hu
   cases hc
   exact Gj I (.inr ⟨⟨_,_,rfl⟩,_,_,hu⟩)
  ·cases hc
 ·
  rename_i hop
  unfold execOp; rw [hop]
  split at hc
  ·rename_i e hu
   simp only [Option.bind_eq_bind,Option.bind_eq_some_iff] at hc
   obtain ⟨s,hs,zs,hz,hc⟩:=hc
   split at hc
   ·rename_i hzs
    simp only [Option.bind_eq_some_iff,Option.some.injEq] at hc
    obtain ⟨n,hn,y1,h1,y2,h2,rfl⟩:=hc
    exact O1 I hu hs hn hz hzs (hx h1) (hx h2)
   ·cases hc
  ·cases hc
 ·
  rename_i t x lo hi mx hop
  unfold execOp; rw [hop]
  simp only [Option.bind_eq_bind,Option.bind_eq_some_iff] at hc
  obtain ⟨l,hl,r,hr,m,hm,hc⟩:=hc
  have rl:=Ks ht hl
  have rr:=Ks ht hr
  have rm:=Ks ht hm
  split at hc
  ·cases hc
  ·rename_i hmr
   have hg:(m.isSome && r.isNone)=false:=by
    cases hmm:m.isSome <;> cases hrr:r.isNone <;> simp_all
   split at hc
   ·rename_i hu
    split at hc
    ·cases hc
    ·rename_i hmx
     simp only [Option.bind_eq_some_iff,Option.some.injEq] at hc
     obtain ⟨y,hy,rfl⟩:=hc
     have:mx=none:=by cases mx <;> simp at hmx ⊢
     subst this
     exact MF I hu (hx hy) rl rr
   ·rename_i e hu
    simp only [Option.bind_eq_some_iff,Option.some.injEq] at hc
    obtain ⟨s,hs,y,hy,rfl⟩:=hc
    exact OT I hu hs hg (hx hy) rl rr rm
   ·rename_i n e hu
    simp only [Option.bind_eq_some_iff,Option.some.injEq] at hc
    obtain ⟨s,hs,y,hy,rfl⟩:=hc
    exact MG I hu hs hg (hx hy) rl rr rm
   ·cases hc
 ·
  rename_i hop
  unfold execOp; rw [hop]
  split at hc
  ·rename_i hu
   simp only [Option.bind_eq_bind,Option.bind_eq_some_iff,Option.some.injEq] at hc
   obtain ⟨y,hy,rfl⟩:=hc
   exact RF I hu (hx hy)
  ·cases hc
 ·
  rename_i hop
  unfold execOp; rw [hop]
  split at hc
  ·rename_i hu
   simp only [Option.bind_eq_bind,Option.bind_eq_some_iff] at hc
   obtain ⟨fd,hf,z,hz,hc⟩:=hc
   split at hc
   ·cases hc
   ·rename_i h0
    simp only [Option.bind_eq_some_iff,Option.some.injEq] at hc
    obtain ⟨y,hy,rfl⟩:=hc
    exact OI I hu hf hz h0 (hx hy)
  ·cases hc
 ·
  rename_i hop
  unfold execOp; rw [hop]
  split at hc
  ·rename_i hu
   simp only [Option.bind_eq_bind,Option.bind_eq_some_iff,Option.some.injEq] at hc
   obtain ⟨fd,hf,ag,ha,n,hn,y,hy,rfl⟩:=hc
   exact Rn I hu hf ha hn (hx hy)
  ·cases hc
 ·
  rename_i hop
  unfold execOp; rw [hop]
  split at hc
  ·rename_i hu
   simp only [Option.bind_eq_bind,Option.bind_eq_some_iff] at hc
   obtain ⟨s,hs,hc⟩:=hc
   split at hc
   ·cases hc
   ·simp only [Option.bind_eq_some_iff,Option.some.injEq] at hc
    obtain ⟨y1,h1,y2,h2,rfl⟩:=hc
    exact Ro I hu hs (hx h1) (hx h2)
  ·rename_i hu
   simp only [Option.bind_eq_bind,Option.bind_eq_some_iff] at hc
   obtain ⟨s,hs,hc⟩:=hc
   split at hc
   ·cases hc
   ·simp only [Option.bind_eq_some_iff,Option.some.injEq] at hc
    obtain ⟨y1,h1,y2,h2,rfl⟩:=hc
    exact Rp I hu hs (hx h1) (hx h2)
  ·cases hc
 ·
  rename_i hop
  unfold execOp; rw [hop]
  split at hc
  ·rename_i hu
   simp only [Option.bind_eq_bind,Option.bind_eq_some_iff,Option.some.injEq] at hc
   obtain ⟨y1,h1,y2,h2,rfl⟩:=hc
   exact Rs I hu (hx h1) (hx h2)
  ·rename_i hu
   simp only [Option.bind_eq_bind,Option.bind_eq_some_iff,Option.some.injEq] at hc
   obtain ⟨s,hs,ag,ha,s2,hs2,y1,h1,y2,h2,rfl⟩:=hc
   rw [hs] at hs2; cases hs2
   exact Rq I hu hs ha (hx h1) (hx h2)
  ·cases hc
 ·
  rename_i hop
  unfold execOp; rw [hop]
  split at hc
  ·rename_i kt e hu
   simp only [Option.bind_eq_bind,Option.bind_eq_some_iff] at hc
   obtain ⟨ag,ha,hc⟩:=hc
   split at hc
   ·rename_i hf
    simp only [Option.bind_eq_some_iff,Option.some.injEq] at hc
    obtain ⟨kk,hk,zs,hz,y1,h1,y2,h2,rfl⟩:=hc
    exact OX I hu hk (AZ hk) hf hz (hx h1) (hx h2)
   ·cases hc
  ·cases hc
 ·
  rename_i hop
  unfold execOp; rw [hop]
  split at hc
  ·rename_i kt e hu
   simp only [Option.bind_eq_bind,Option.bind_eq_some_iff,Option.some.injEq] at hc
   obtain ⟨kk,hk,y1,h1,y2,h2,y3,h3,rfl⟩:=hc
   obtain ⟨d,hd⟩:=AZ hk
   exact Jf I hu hk hd (hx h1) (hx h2) (hx h3)
  ·cases hc
 ·
  rename_i hop
  unfold execOp; rw [hop]
  split at hc
  ·rename_i kt e hu
   simp only [Option.bind_eq_bind,Option.bind_eq_some_iff,Option.some.injEq] at hc
   obtain ⟨kk,hk,y1,h1,y2,h2,y3,h3,rfl⟩:=hc
   obtain ⟨d,hd⟩:=AZ hk
   exact Jf I hu hk hd (hx h1) (hx h2) (hx h3)
  ·cases hc
 ·
  rename_i t x hop
  unfold execOp; rw [hop]
  simp only [Option.bind_eq_bind,Option.bind_eq_some_iff,Option.some.injEq] at hc
  obtain ⟨y1,h1,rfl⟩:=hc
  cases hu:P.underlying t with
  |some d=>
   cases d with
   |string=> exact RI I hu (hx h1)
   |_=> trivial
  |none=> trivial
 ·
  rename_i x s hop
  unfold execOp; rw [hop]
  simp only [Option.bind_eq_bind,Option.bind_eq_some_iff,Option.some.injEq] at hc
  obtain ⟨y1,h1,rfl⟩:=hc
  cases s with
  |true=> exact RJ I (hx h1)
  |false=> trivial
 ·
  rename_i x hop
  simp only [Option.bind_eq_bind,Option.bind_eq_some_iff,Option.some.injEq] at hc
  obtain ⟨y1,h1,rfl⟩:=hc
  simp [allowed] at hb
 ·
  rename_i hop
  unfold execOp; rw [hop]
  split at hc
  ·cases hc
  ·rename_i d hn hu
   simp only [Option.bind_eq_bind,Option.bind_eq_some_iff] at hc
   obtain ⟨ag,ha,hc⟩:=hc
   split at hc
   ·rename_i hf
    simp only [Option.bind_eq_some_iff,Option.some.injEq] at hc
    obtain ⟨zs,hz,y1,h1,rfl⟩:=hc
    exact RA I hu (fun ms e=> hn ms e) hf hz (hx h1)
   ·cases hc
  ·cases hc
 ·
  rename_i hop
  unfold execOp; rw [hop]
  simp only [Option.bind_eq_bind,Option.bind_eq_some_iff,Option.some.injEq] at hc
  obtain ⟨y1,h1,rfl⟩:=hc
  exact OO I (hx h1)
 ·
  rename_i c' hop
  unfold execOp; rw [hop]
  simp only [resolve]
  split at hc
  ·
   rename_i f zC
   rw [zC]
   simp only [Option.bind_eq_bind,Option.bind_eq_some_iff] at hc
   obtain ⟨xs,hxs,hc⟩:=hc
   obtain ⟨a1,a2⟩:=wJ ht hxs
   have base:jR P mu G cx h w (gI (.F9 f xs) E h tm) ((do let d ←Deferred.ofValue (a.eval (.func f)) (c'.args.map a.eval); invoke d.target d.args:Sem Next).run P w):=MM I a1 a2
   split at hc
   ·rename_i fn hfn
    split at hc
    ·rename_i body hbody
     split at hc
     ·split at hc
      ·split at hc
       ·split at hc
        ·cases hc; simp [allowed] at hb
        ·cases hc
       ·cases hc
      ·cases hc
     ·split at hc
      ·split at hc
       ·split at hc
        ·cases hc; simp [allowed] at hb
        ·cases hc
       ·cases hc
      ·split at hc
       ·split at hc
        ·simp only [Option.bind_eq_some_iff,Option.some.injEq] at hc
         obtain ⟨s,hs,zs,hz,rfl⟩:=hc
         simp [allowed] at hb
        ·cases hc
       ·split at hc
        ·split at hc
         ·split at hc
          ·split at hc
           ·split at hc
            ·cases hc; simp [allowed] at hb
            ·cases hc
           ·cases hc
          ·cases hc
         ·cases hc
        ·split at hc
         ·cases hc; simp [allowed] at hb
         ·cases hc
          exact base
    ·simp only [Option.map_eq_some_iff] at hc
     obtain ⟨p,hp,rfl⟩:=hc
     simp [allowed] at hb
   ·cases hc
  ·
   rename_i y hnf zC
   rw [zC]
   simp only [Option.bind_eq_bind,Option.bind_eq_some_iff,Option.some.injEq] at hc
   obtain ⟨y1,h1,xs,hxs,rfl⟩:=hc
   obtain ⟨a1,a2⟩:=wJ ht hxs
   refine Lx I (hx h1) (by simpa using a1) (fun i hi=> ?_)
   rw [List.getElem_map]
   exact a2 i (by simpa using hi)
  ·simp only [Option.bind_eq_bind,Option.bind_eq_some_iff,Option.some.injEq] at hc
   obtain ⟨y1,h1,xs,hxs,rfl⟩:=hc
   simp [allowed] at hb
  ·
   rename_i b zC
   rw [zC]
   simp only [Option.bind_eq_bind,Option.bind_eq_some_iff] at hc
   obtain ⟨xs,hxs,hc⟩:=hc
   obtain ⟨a1,a2⟩:=wJ ht hxs
   simp only [pure_bind,invoke]
   exact FL I hc hb a1 a2
 ·
  rename_i hop
  unfold execOp; rw [hop]
  simp only [Option.bind_eq_bind,Option.bind_eq_some_iff,Option.some.injEq] at hc
  obtain ⟨y1,h1,rfl⟩:=hc
  exact Gm I (hx h1)
 ·
  rename_i c' hop
  unfold execOp; rw [hop]
  split at hc
  ·rename_i y zC
   simp only [Option.bind_eq_bind,Option.bind_eq_some_iff,Option.some.injEq] at hc
   obtain ⟨y1,h1,xs,hxs,rfl⟩:=hc
   obtain ⟨a1,a2⟩:=wJ ht hxs
   have hv:=hx h1
   simp only [resolve,zC]
   show jR P mu G cx h w (IW tm y1 xs) _
   have fin:∀f g fs cs,y1.ev tm=f→a.eval y= .func g fs cs→jR P mu G cx h w (.dfr f (xs.map (X.ev tm))) ((do pure (.defer (←Deferred.ofValue (a.eval y) (c'.args.map a.eval))):Sem Next).run P w):=by
    intro f g fs cs e1 e2
    rw [e1] at hv
    refine ⟨g,fs,cs,c'.args.map a.eval,?_,e2▸hv,by simpa using a1,fun i hi=> ?_⟩
    ·rw [e2]; simp [Deferred.ofValue]
    ·rw [List.getElem_map]; exact a2 i (by simpa using hi)
   unfold IW
   split
   ·rename_i g fs cs e
    split
    ·rename_i hok
     have hv':=hv
     rw [e] at hv'
     generalize hq:a.eval y=q at hv'
     cases hv' with
     |fn _ _ _ fs' cs' _ _ _ _ _=> rw [←hq]; exact fin _ _ _ _ e hq
     |yld=> simp [Ba] at hok
    ·trivial
   ·rename_i g fs cs e
    split
    ·rename_i hok
     have hv':=hv
     rw [e] at hv'
     generalize hq:a.eval y=q at hv'
     cases hv' with
     |d _ _ hd=> cases hd with
      |fn _ _ _ fs' cs' _ _ _ _=> rw [←hq]; exact fin _ _ _ _ e hq
    ·trivial
   ·trivial
  ·cases hc
 ·cases hc
end
end Go.Abs
end
