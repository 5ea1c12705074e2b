/- Part 5 of a general layer: a deterministic machine over the model's code, and that what it comes to the model comes to. Conditions: those of each theorem. -/
import Derived.Test.YtgjhldabffjiaaaGreatDoorZD
import Derived.Orders
import Derived.ChangeArms
import Derived.DataReads
import Derived.ChangeSame
import Derived.ChangeReads
import Derived.KernelRfl
noncomputable section
namespace Go.Abs
section
variable {n : Nat} {b : List Nat} {rJ : List (Nat × Nat)}

theorem Dp {x m:Nat} (h:Rf x m=true) (j:Nat) (hj:x.testBit j=true):m.testBit j=true:=by
 have e:=Nat.eq_of_beq_eq_true h
 have:(x &&& m).testBit j=true:=by show (Nat.land x m).testBit j=true; rw [e]; exact hj
 rw [Nat.testBit_and] at this
 simp only [Bool.and_eq_true] at this
 exact this.2

theorem nJ (x k j:Nat):(Nat.lor x (2 ^ k)).testBit j=(x.testBit j || decide (k=j)):=by
 show (x ||| 2 ^ k).testBit j=_
 rw [Nat.testBit_or,Nat.testBit_two_pow]

structure Head (n:Nat) (b:List Nat) (rJ:List (Nat×Nat)) (d:DOp) (seen ef pend:Nat):Prop where
 lt:d.no < n
 bef:∀j,(b.getD d.no 0).testBit j=true→seen.testBit j=true
 new:seen.testBit d.no=false
 chain:d.eff=true→(∀j,ef.testBit j=true→(b.getD d.no 0).testBit j=true)∧∀j,pend.testBit j=true→(b.getD d.no 0).testBit j=true
 looks:∀t∈tmpsOf d,∀j,(t,j)∈rJ→(b.getD d.no 0).testBit j=true∨(b.getD j 0).testBit d.no=true∨j=d.no

theorem pV {d:DOp} {r:List DOp} {seen ef pend:Nat} (h:qX n b rJ (d::r) seen ef pend=true):
  Head n b rJ d seen ef pend∧qX n b rJ r (Nat.lor seen (2 ^ d.no)) (if d.eff then Nat.lor ef (2 ^ d.no) else ef) (if d.eff then 0 else Nat.lor pend (2 ^ d.no))=true:=by
 simp only [qX,Bool.and_eq_true,Bool.not_eq_true'] at h
 obtain ⟨⟨⟨⟨⟨h1,h2⟩,h3⟩,h4⟩,h5⟩,h6⟩:=h
 refine ⟨⟨ru h1,Dp h2,h3,fun e=> ?_,fun t ht j hj=> ?_⟩,?_⟩
 ·rw [e] at h4
  simp only [Bool.and_eq_true] at h4
  exact ⟨Dp h4.1,Dp h4.2⟩
 ·rw [List.all_eq_true] at h5
  have:=h5 t ht
  rw [List.all_eq_true] at this
  have:=this (t,j) hj
  simp only [Bool.or_eq_true,Bool.not_eq_true'] at this
  rcases this with ((h | h) | h) | h
  ·rw [Nat.beq_refl] at h; cases h
  ·exact .inl h
  ·exact .inr (.inl h)
  ·exact .inr (.inr (m_ h))
 ·cases he:d.eff <;> rw [he] at h6 <;> simpa using h6

theorem ug:∀{L:List DOp} {seen ef pend:Nat},qX n b rJ L seen ef pend=true→∀x∈L,seen.testBit x.no=false:=by
 intro L
 induction L with
 |nil=> intro seen ef pend _ x hx; cases hx
 |cons d r ih=>
  intro seen ef pend h x hx
  obtain ⟨hd,hr⟩:=pV h
  rcases List.mem_cons.1 hx with rfl | hx
  ·exact hd.new
  ·have:=ih hr x hx
   rw [nJ] at this
   simp only [Bool.or_eq_false_iff] at this
   exact this.1

theorem HZ:∀{L:List DOp} {seen ef pend:Nat},qX n b rJ L seen ef pend=true→∀i,i < n→seen.testBit i=true∨∃x∈L,x.no=i:=by
 intro L
 induction L with
 |nil=>
  intro seen ef pend h i hi
  have e:=Nat.eq_of_beq_eq_true h
  left
  rw [e,Nat.testBit_two_pow_sub_one]
  simpa using hi
 |cons d r ih=>
  intro seen ef pend h i hi
  obtain ⟨_,hr⟩:=pV h
  rcases ih hr i hi with h1 | ⟨x,hx,e⟩
  ·rw [nJ] at h1
   simp only [Bool.or_eq_true,decide_eq_true_eq] at h1
   rcases h1 with h1 | h1
   ·exact .inl h1
   ·exact .inr ⟨d,by simp,h1⟩
  ·exact .inr ⟨x,List.mem_cons_of_mem _ hx,e⟩

theorem U2:∀{L:List DOp} {seen ef pend:Nat},qX n b rJ L seen ef pend=true→∀x∈L,x.no < n:=by
 intro L
 induction L with
 |nil=> intro seen ef pend _ x hx; cases hx
 |cons d r ih=>
  intro seen ef pend h x hx
  obtain ⟨hd,hr⟩:=pV h
  rcases List.mem_cons.1 hx with rfl | hx
  ·exact hd.lt
  ·exact ih hr x hx

theorem R7:∀{L:List DOp} {seen ef pend:Nat},qX n b rJ L seen ef pend=true→∀x∈L,∀y∈L,x.no=y.no→x=y:=by
 intro L
 induction L with
 |nil=> intro seen ef pend _ x hx; cases hx
 |cons d r ih=>
  intro seen ef pend h x hx y hy e
  obtain ⟨hd,hr⟩:=pV h
  have hne:∀z∈r,z.no≠d.no:=by
   intro z hz e
   have:=ug hr z hz
   rw [nJ,e] at this
   simp at this
  rcases List.mem_cons.1 hx with hx1 | hx1 <;> rcases List.mem_cons.1 hy with hy1 | hy1
  ·rw [hx1,hy1]
  ·subst hx1; exact absurd e.symm (hne y hy1)
  ·subst hy1; exact absurd e (hne x hx1)
  ·exact ih hr x hx1 y hy1 e

def Cl (b:List Nat) (S:Nat→Bool):Prop:=∀i j,S i=true→(b.getD i 0).testBit j=true→S j=true

theorem Cl.add {S:Nat→Bool} (h:Cl b S) {i:Nat} (hb:∀j,(b.getD i 0).testBit j=true→S j=true):Cl b (fun j=> S j || decide (j=i)):=by
 intro a j ha hj
 simp only [Bool.or_eq_true,decide_eq_true_eq] at ha ⊢
 rcases ha with ha | rfl
 ·exact .inl (h a j ha hj)
 ·exact .inl (hb j hj)

theorem DK {S:Nat→Bool} (hS:Cl b S) {d:DOp} {L2:List DOp} (hd:∀j,(b.getD d.no 0).testBit j=true→S j=true) (he:d.eff=true):∀{L1:List DOp} {seen ef pend:Nat},qX n b rJ (L1++d::L2) seen ef pend=true→
  (∀j,pend.testBit j=true→S j=true)∧(∀x∈L1,S x.no=true)∧∀j,ef.testBit j=true→S j=true:=by
 intro L1
 induction L1 with
 |nil=>
  intro seen ef pend h
  obtain ⟨hh,_⟩:=pV h
  obtain ⟨c1,c2⟩:=hh.chain he
  exact ⟨fun j hj=> hd j (c2 j hj),(fun x hx=> by cases hx),fun j hj=> hd j (c1 j hj)⟩
 |cons x r ih=>
  intro seen ef pend h
  obtain ⟨hh,hr⟩:=pV h
  obtain ⟨i1,i2,i3⟩:=ih hr
  cases hx:x.eff with
  |true=>
   rw [hx] at i3
   simp only [if_true] at i3
   have hxS:S x.no=true:=i3 x.no (by rw [nJ]; simp)
   refine ⟨fun j hj=> ?_,fun y hy=> ?_,fun j hj=> i3 j (by rw [nJ,hj]; rfl)⟩
   ·exact hS _ _ hxS ((hh.chain hx).2 j hj)
   ·rcases List.mem_cons.1 hy with rfl | hy
    ·exact hxS
    ·exact i2 y hy
  |false=>
   rw [hx] at i1 i3
   simp only [Bool.false_eq_true,if_false] at i1 i3
   refine ⟨fun j hj=> i1 j (by rw [nJ,hj]; rfl),fun y hy=> ?_,i3⟩
   rcases List.mem_cons.1 hy with rfl | hy
   ·exact i1 y.no (by rw [nJ]; simp)
   ·exact i2 y hy

theorem PI {S:Nat→Bool}:∀{L:List DOp} {seen ef pend:Nat},qX n b rJ L seen ef pend=true→(∀j,seen.testBit j=true→S j=true)→∀i,i < n→S i=false→
  ∃x,x < n∧S x=false∧∀j,(b.getD x 0).testBit j=true→S j=true:=by
 intro L
 induction L with
 |nil=>
  intro seen ef pend h hs i hi hn
  rcases HZ h i hi with h1 | ⟨x,hx,_⟩
  ·rw [hs i h1] at hn; cases hn
  ·cases hx
 |cons d r ih=>
  intro seen ef pend h hs i hi hn
  obtain ⟨hh,hr⟩:=pV h
  cases hd:S d.no with
  |false=> exact ⟨d.no,hh.lt,hd,fun j hj=> hs j (hh.bef j hj)⟩
  |true=>
   refine ih hr (fun j hj=> ?_) i hi hn
   rw [nJ] at hj
   simp only [Bool.or_eq_true,decide_eq_true_eq] at hj
   rcases hj with hj | rfl
   ·exact hs j hj
   ·exact hd

inductive Gs (n:Nat) (b:List Nat):(Nat→Bool)→List Nat→Prop
 |nil (S:Nat→Bool) (h:∀i,i < n→S i=true):Gs n b S []
 |cons (S:Nat→Bool) (i:Nat) (r:List Nat) (hi:i < n) (hn:S i=false) (hb:∀j,(b.getD i 0).testBit j=true→S j=true) (hr:Gs n b (fun j=> S j || decide (j=i)) r):Gs n b S (i::r)
end

theorem Gt (acc:List Nat):∀(es:List Edge) (s j:Nat),(es.foldl (fun s e=> if Region.binds .any e then s ||| 2 ^ e.on ||| acc.getD e.on 0 else s) s).testBit j=true↔
  s.testBit j=true∨∃e∈es,Region.binds .any e=true∧(j=e.on∨(acc.getD e.on 0).testBit j=true):=by
 intro es
 induction es with
 |nil=> intro s j; simp
 |cons e es ih=>
  intro s j
  rw [List.foldl_cons,ih]
  by_cases hb:Region.binds .any e=true
  ·rw [if_pos hb]
   rw [Nat.testBit_or,Nat.testBit_or,Nat.testBit_two_pow]
   simp only [Bool.or_eq_true,decide_eq_true_eq,List.mem_cons,exists_eq_or_imp,hb,true_and]
   constructor
   ·rintro (((h | h) | h) | h)
    ·exact .inl h
    ·exact .inr (.inl (.inl h.symm))
    ·exact .inr (.inl (.inr h))
    ·exact .inr (.inr h)
   ·rintro (h | (h | h) | h)
    ·exact .inl (.inl (.inl h))
    ·exact .inl (.inl (.inr h.symm))
    ·exact .inl (.inr h)
    ·exact .inr h
  ·rw [if_neg hb]
   simp only [List.mem_cons,exists_eq_or_imp,hb]
   simp

theorem Fb:∀(l:List Oper) (acc:List Nat),(Af l acc).length=acc.length+l.length∧(∀i,i < acc.length→(Af l acc).getD i 0=acc.getD i 0)∧
  ∀k (hk:k < l.length),(Af l acc).getD (acc.length+k) 0=bitsOf l[k] ((Af l acc).take (acc.length+k)):=by
 intro l
 induction l with
 |nil=> intro acc; exact ⟨rfl,fun i _=> rfl,fun k hk=> by cases hk⟩
 |cons o r ih=>
  intro acc
  obtain ⟨i1,i2,i3⟩:=ih (acc++ [bitsOf o acc])
  have hg:Af (o::r) acc=Af r (acc++ [bitsOf o acc]):=rfl
  rw [hg]
  have hlen:(acc++ [bitsOf o acc]).length=acc.length+1:=by simp
  rw [hlen] at i1 i2 i3
  have htake:∀m,m≤acc.length→(Af r (acc++ [bitsOf o acc])).take m=acc.take m:=by
   intro m hm
   apply List.ext_getElem
   ·simp [i1]; omega
   ·intro k h1 h2
    have hk:k < acc.length:=by simp at h2; omega
    have:=i2 k (by omega)
    have e1:(Af r (acc++ [bitsOf o acc])).getD k 0=(Af r (acc++ [bitsOf o acc]))[k]'(by omega):=by simp [List.getD,show k < (Af r (acc++ [bitsOf o acc])).length by omega]
    have e2:(acc++ [bitsOf o acc]).getD k 0=acc[k]:=by simp [List.getD,List.getElem?_append_left hk,hk]
    rw [e1,e2] at this
    simpa using this
  refine ⟨by rw [i1]; simp; omega,fun i hi=> ?_,fun k hk=> ?_⟩
  ·rw [i2 i (by omega)]
   simp [List.getD,List.getElem?_append_left hi]
  ·cases k with
   |zero=>
    rw [Nat.add_zero,i2 acc.length (by omega),htake _ (Nat.le_refl _),List.take_length]
    simp [List.getD]
   |succ k=>
    have:=i3 k (by simpa using hk)
    rw [show acc.length+(k+1)=acc.length+1+k by omega]
    exact this

theorem PK {ops:Array Oper} {i j:Nat} (hi:i < ops.size):((nI ops).getD i 0).testBit j=true→∃e∈ops[i].after,Region.binds .any e=true∧(j=e.on∨((nI ops).getD e.on 0).testBit j=true):=by
 intro h
 obtain ⟨i1,_,i3⟩:=Fb ops.toList []
 have:=i3 i (by simpa using hi)
 simp only [List.length_nil,Nat.zero_add,Array.getElem_toList] at this
 unfold nI at h
 rw [this] at h
 unfold bitsOf at h
 rw [Gt] at h
 rcases h with h | ⟨e,he,hb,h⟩
 ·simp at h
 ·refine ⟨e,by simpa using he,hb,h.imp id (fun h=> ?_)⟩
  unfold nI
  simp only [List.getD,List.getElem?_take] at h
  split at h
  ·simpa [List.getD] using h
  ·simp at h
theorem PL {ops:Array Oper} {i:Nat} (hi:i < ops.size) {e:Edge} (he:e∈ops[i].after) (hb:Region.binds .any e=true):((nI ops).getD i 0).testBit e.on=true:=by
 obtain ⟨i1,_,i3⟩:=Fb ops.toList []
 have:=i3 i (by simpa using hi)
 simp only [List.length_nil,Nat.zero_add,Array.getElem_toList] at this
 unfold nI
 rw [this]
 unfold bitsOf
 rw [Gt]
 exact .inr ⟨e,by simpa using he,hb,.inl rfl⟩

theorem M7 {α:Type} {p q:α→Bool}:∀{l:List α},(∀x∈l,q x=true→p x=true)→(∃x∈l,p x=true∧q x=false)→l.countP q < l.countP p:=by
 intro l
 induction l with
 |nil=> rintro _ ⟨x,hx,_⟩; cases hx
 |cons a r ih=>
  rintro h ⟨x,hx,h1,h2⟩
  have hle:r.countP q≤r.countP p:=List.countP_mono_left (fun y hy=> h y (List.mem_cons_of_mem _ hy))
  rw [List.countP_cons,List.countP_cons]
  rcases List.mem_cons.1 hx with rfl | hx
  ·rw [h1,h2]; simp; omega
  ·have:=ih (fun y hy=> h y (List.mem_cons_of_mem _ hy)) ⟨x,hx,h1,h2⟩
   have ha:=h a (by simp)
   cases hq:q a with
   |true=> rw [ha hq]; simp; omega
   |false=> cases p a <;> simp <;> omega

theorem PM {ops:Array Oper} {rJ:List (Nat×Nat)} {L:List DOp} (hc:qX ops.size (nI ops) rJ L 0 0 0=true):∀(fuel t:Nat) (listed:Array Bool),listed.size=ops.size→Cl (nI ops) (fun j=> listed.getD j false)→
  (List.range ops.size).countP (fun i=> !listed.getD i false)≤fuel→Gs ops.size (nI ops) (fun j=> listed.getD j false) (Region.linearise.go .any ops fuel t listed []):=by
 intro fuel
 induction fuel with
 |zero=>
  intro t listed hsz hcl hcnt
  refine .nil _ (fun i hi=> ?_)
  have h0:(List.range ops.size).countP (fun i=> !listed.getD i false)=0:=by omega
  rw [List.countP_eq_zero] at h0
  have:=h0 i (by simpa using hi)
  simpa using this
 |succ fuel ih=>
  intro t listed hsz hcl hcnt
  simp only [Region.linearise.go]
  change Gs _ _ _ (match (Region.ready .any ops listed)[t % (Region.ready .any ops listed).length]? with
   |some i=> Region.linearise.go .any ops fuel (t / (Region.ready .any ops listed).length) (listed.setIfInBounds i true) [i]
   |none=> [].reverse)
  have hdef:∀j,j < ops.size→listed.getD j true=listed.getD j false:=by
   intro j hj
   simp [Array.getD_eq_getD_getElem?,show j < listed.size by omega]
  cases hi:(Region.ready .any ops listed)[t % (Region.ready .any ops listed).length]? with
  |none=>
   have hnil:Region.ready .any ops listed=[]:=by
    cases hr:Region.ready .any ops listed with
    |nil=> rfl
    |cons x xs=>
     rw [hr] at hi
     have hlt:t % (x::xs).length < (x::xs).length:=Nat.mod_lt _ (by simp)
     simp at hi
     simp at hlt
     omega
   refine .nil _ (fun i hlt=> ?_)
   cases hS:listed.getD i false with
   |true=> rfl
   |false=>
    obtain ⟨x,x1,x2,x3⟩:=PI (S:=fun j=> listed.getD j false) hc (fun j hj=> by simp at hj) i hlt hS
    have:x∈Region.ready .any ops listed:=by
     rw [mem_ready]
     refine ⟨by rw [hdef x x1]; exact x2,ops[x],Array.getElem?_eq_getElem x1,fun e he hb=> x3 _ (PL x1 he hb)⟩
    rw [hnil] at this
    cases this
  |some i=>
   have hmem:=List.mem_of_getElem? hi
   rw [mem_ready] at hmem
   obtain ⟨m1,o,m2,m3⟩:=hmem
   have hlt:i < ops.size:=(Array.getElem?_eq_some_iff.1 m2).1
   have hoe:ops[i]=o:=(Array.getElem?_eq_some_iff.1 m2).2
   rw [hdef i hlt] at m1
   simp only
   rw [linearise_go_acc,List.reverse_singleton,List.singleton_append]
   have hb:∀j,((nI ops).getD i 0).testBit j=true→listed.getD j false=true:=by
    intro j hj
    obtain ⟨e,e1,e2,e3⟩:=PK hlt hj
    rw [hoe] at e1
    have:=m3 e e1 e2
    rcases e3 with rfl | e3
    ·exact this
    ·exact hcl _ _ this e3
   have hset:(fun j=> (listed.setIfInBounds i true).getD j false)=fun j=> listed.getD j false || decide (j=i):=by
    funext j
    by_cases e:j=i
    ·subst e
     simp [Array.getD_eq_getD_getElem?,show j < listed.size by omega]
    ·simp [Array.getD_eq_getD_getElem?,Array.getElem?_setIfInBounds_ne (Ne.symm e),e]
   refine .cons _ i _ hlt m1 hb ?_
   rw [←hset]
   refine ih _ _ (by simp [hsz]) ?_ ?_
   ·rw [hset]; exact hcl.add hb
   ·have:(List.range ops.size).countP (fun j=> !(listed.setIfInBounds i true).getD j false) < (List.range ops.size).countP (fun j=> !listed.getD j false):=by
     refine M7 (fun j _ hj=> ?_) ⟨i,by simpa using hlt,by simpa using m1,?_⟩
     ·have:=congrFun hset j
      rw [this] at hj
      simp only [Bool.not_eq_true',Bool.or_eq_false_iff] at hj ⊢
      exact hj.1
     ·have:=congrFun hset i
      rw [this]
      simp
    omega
end Go.Abs

namespace Go.Abs
section
variable {P : Program} {G : Nat → List DV}

def Cx.setρ (cx:Cx) (B:Nat) (p:Nat×Nat):Cx:={cx with ρ:=fun x=> if x=B then some p else cx.ρ x}

theorem Inv.assign {cx:Cx} {h:Heap} {w w':World} (I:Inv P [] G cx h w) {B:Nat} {o:Obj} (hb:h.get B=some .dead) (hr:cx.ρ B=none) (hw:w'.heap=w.heap.push o) (hio:w'.os=w.os∧w'.output=w.output:=by exact ⟨rfl,rfl⟩):
  Inv P [] G (cx.setρ B (w.heap.size,0)) h w'∧Ext cx w (cx.setρ B (w.heap.size,0)) w'∧∀b c,jE (cx.setρ B (w.heap.size,0)) h b c→jE cx h b c:=by
 have hold:∀c:Nat,c < w.heap.size→w'.heap[c]? =w.heap[c]? :=fun c hc=> by rw [hw,kZ _ _ _ hc]
 have hs:w'.heap.size=w.heap.size+1:=by rw [hw]; simp
 have hρ:∀x,(cx.setρ B (w.heap.size,0)).ρ x=if x=B then some (w.heap.size,0) else cx.ρ x:=fun _=> rfl
 have ext : Ext cx w (cx.setρ B (w.heap.size,0)) w' := {
  size:=by omega
  ρ:=fun b q hq=> by
   rw [hρ]
   by_cases e:b=B
   ·subst e; rw [hr] at hq; cases hq
   ·simp [e,hq]
  K:=fun t κ hκ=> ⟨κ,hκ,Nat.le_refl _,fun _=> rfl⟩
  Z:=fun _ _ z=> z
  B:=fun _ _=> Iff.rfl
  cell:=fun c o z=> cell_of_heap (hold c (zlt I z)) o none
  el:=fun c arr e fz hh=> ⟨arr,fz,by rw [hold c (Array.getElem?_eq_some_iff.1 hh).1]; exact hh,rfl⟩
  lp:=fun c L hh=> ⟨L,by rw [hold c (Array.getElem?_eq_some_iff.1 hh).1]; exact hh⟩
  io:=hio}
 have iU:∀b c,jE (cx.setρ B (w.heap.size,0)) h b c→jE cx h b c:=by
  intro b c ho
  cases ho with
  |blk x base hb' ho ht hr'=>
   rw [hρ] at hr'
   by_cases e:b=B
   ·subst e; rw [hb] at hb'; cases hb'; simp [vD] at ho
   ·rw [if_neg e] at hr'; exact .blk x base hb' ho ht hr'
  |tok g e κ base hb' hκ hp=> exact .tok g e κ base hb' hκ hp
 refine ⟨⟨fun b x hb'=> ?_,?_,fun g i hi=> ?_⟩,ext,iU⟩
 ·exact tZ.oD ext (fun c base hr' _=> hold c (I.sep.lt b c base hr')) (fun κ hκ _=> ⟨hκ,fun c base hpl=> hold c (I.sep.ltK b κ c base hκ hpl)⟩) (I.heap b x hb')
 ·exact {
   inj:=fun b1 b2 c o1 o2=> I.sep.inj b1 b2 c (iU _ _ o1) (iU _ _ o2)
   nof:=fun b c ho hn=> I.sep.nof b c (iU b c ho) hn
   p9:=I.sep.p9
   base0:=fun b c base hr'=> by
    rw [hρ] at hr'
    by_cases e:b=B
    ·simp only [e,if_true,Option.some.injEq,Prod.mk.injEq] at hr'; exact hr'.2.symm
    ·rw [if_neg e] at hr'; exact I.sep.base0 b c base hr'
   lt:=fun b c base hr'=> by
    rw [hρ] at hr'
    by_cases e:b=B
    ·simp only [e,if_true,Option.some.injEq,Prod.mk.injEq] at hr'; omega
    ·rw [if_neg e] at hr'; have:=I.sep.lt b c base hr'; omega
   ltK:=fun b κ c base hκ hpl=> by have:=I.sep.ltK b κ c base hκ hpl; omega
   new:=fun b hb'=> by
    have:b≠B:=by have:=Heap.kH hb; omega
    rw [hρ,if_neg this]
    exact I.sep.new b hb'
   zc:=fun c o z=> by rw [cell_of_heap (hold c (zlt I z))]; exact I.sep.zc c o z}
 ·obtain ⟨v,v1,v2,v3⟩:=I.kQ g i hi
  exact ⟨v,by rw [cell_of_heap (hold g (zlt I (.inl v2)))]; exact v1,v2,v3.ext ext⟩

theorem Inv.PN {cx:Cx} {h:Heap} {w:World} (I:Inv P [] G cx h w) {B c:Nat} {e:TypeId} {cs:List AV} {arr:Array Value} (hb:h.get B=some .dead) (hr:cx.ρ B=some (c,0)) (hh:w.heap[c]? =some (.cells arr e (0,0)))
  (hno:∀b,¬jE cx h b c) (hz:∀o,¬cx.Z c o∧¬cx.B c o) (hc:∀i (hi:i < cs.length),i < arr.size∧bY cx w cs[i] (arr.getD i undef)):
  Inv P [] G cx (h.set B (.cells false e cs)) w∧∀b c',jE cx (h.set B (.cells false e cs)) b c'→jE cx h b c'∨c'=c:=by
 have hget:∀b' z,(h.set B (.cells false e cs)).get b'=some z→(b'=B∧z= .cells false e cs)∨(B≠b'∧h.get b'=some z):=by
  intro b' z hz
  by_cases k:B=b'
  ·subst k; rw [Heap.get_set_self hb] at hz; cases hz; exact .inl ⟨rfl,rfl⟩
  ·rw [Heap.get_set_ne k] at hz; exact .inr ⟨k,hz⟩
 have iU:∀b' c',jE cx (h.set B (.cells false e cs)) b' c'→(b'=B∧c'=c)∨(B≠b'∧jE cx h b' c'):=by
  intro b' c' ho'
  cases ho' with
  |blk z lX hb' ho2 ht2 hr'=>
   rcases hget b' z hb' with ⟨rfl,_⟩ | ⟨k,e'⟩
   ·rw [hr] at hr'; cases hr'; exact .inl ⟨rfl,rfl⟩
   ·exact .inr ⟨k,.blk z lX e' ho2 ht2 hr'⟩
  |tok g e1 κ lX hb' hκ hpl=>
   rcases hget b' _ hb' with ⟨_,e'⟩ | ⟨k,e'⟩
   ·cases e'
   ·exact .inr ⟨k,.tok g e1 κ lX e' hκ hpl⟩
 refine ⟨⟨fun b' z hz=> ?_,?_,I.kQ⟩,fun b' c' ho=> ?_⟩
 ·rcases hget b' z hz with ⟨rfl,rfl⟩ | ⟨k,e'⟩
  ·refine ⟨c,0,hr,⟨arr,(0,0),hh,fun _=> rfl⟩,fun i hi=> ?_⟩
   obtain ⟨h1,h2⟩:=hc i hi
   refine ⟨arr.getD i undef,?_,h2,(fun f=> by cases f),(fun _=> ?_)⟩
   ·rw [Nat.zero_add]; simp [World.cell?,hh,Array.getD_eq_getD_getElem?,h1]
   ·rw [Nat.zero_add]; exact frozen_of_row w c i arr e hh
  ·exact I.heap b' z e'
 ·exact {
   inj:=fun b1 b2 c' h1 h2=> by
    rcases iU b1 c' h1 with ⟨e1,c1⟩ | ⟨_,o1⟩ <;> rcases iU b2 c' h2 with ⟨e2,c2⟩ | ⟨_,o2⟩
    ·rw [e1,e2]
    ·subst c1; exact absurd o2 (hno b2)
    ·subst c2; exact absurd o1 (hno b1)
    ·exact I.sep.inj b1 b2 c' o1 o2
   nof:=fun b' c' ho' hn o=> by
    rcases iU b' c' ho' with ⟨e1,c1⟩ | ⟨k,o1⟩
    ·subst c1; exact hz o
    ·exact I.sep.nof b' c' o1 (fun g e hh=> hn g e (by rw [Heap.get_set_ne k]; exact hh)) o
   p9:=fun t g e1 κ c' lX hb' hκ hpl o z=> by
    rcases hget t _ hb' with ⟨_,e'⟩ | ⟨k,e'⟩
    ·cases e'
    ·exact I.sep.p9 t g e1 κ c' lX e' hκ hpl o z
   base0:=I.sep.base0
   lt:=I.sep.lt
   ltK:=I.sep.ltK
   new:=fun b' hb'=> I.sep.new b' hb'
   zc:=I.sep.zc}
 ·rcases iU b' c' ho with ⟨_,h1⟩ | ⟨_,h1⟩
  ·exact .inr h1
  ·exact .inl h1

theorem FR {cx0:Cx} {h0:Heap} {w:World}:∀(m:Nat) {h:Heap},Inv P [] G cx0 h w→Stp cx0 h0 w cx0 h w→Inv P [] G cx0 (nH h m) w∧Stp cx0 h0 w cx0 (nH h m) w∧(nH h m).n=h.n+m∧
    (∀b,b < h.n→(nH h m).get b=h.get b)∧∀r,r < m→(nH h m).get (h.n+r)=some .dead:=by
  intro m
  induction m with
  |zero=> intro h I S; exact ⟨I,S,rfl,fun _ _=> rfl,fun r hr=> absurd hr (by omega)⟩
  |succ m ih=>
    intro h I S
    have hown:∀b c,jE cx0 (h.push .dead) b c→jE cx0 h b c∧b < h.n:=by
      intro b c ho
      cases ho with
      |blk x base hb ho ht hr=>
        rw [Heap.jk] at hb
        by_cases e:b=h.n
        · rw [if_pos e] at hb; cases hb; simp [vD] at ho
        · rw [if_neg e] at hb; exact ⟨.blk x base hb ho ht hr,Heap.kH hb⟩
      |tok g e' κ base hb hκ hp=>
        rw [Heap.jk] at hb
        by_cases e:b=h.n
        · rw [if_pos e] at hb; cases hb
        · rw [if_neg e] at hb; exact ⟨.tok g e' κ base hb hκ hp,Heap.kH hb⟩
    have J:Inv P [] G cx0 (h.push .dead) w:=by
      refine ⟨fun b x hb=> ?_,?_,I.kQ⟩
      · rw [Heap.jk] at hb
        by_cases e:b=h.n
        · rw [if_pos e] at hb; cases hb; trivial
        · rw [if_neg e] at hb; exact I.heap b x hb
      · exact {
          inj:=fun b1 b2 c o1 o2=> I.sep.inj b1 b2 c (hown _ _ o1).1 (hown _ _ o2).1
          nof:=fun b c ho hn o=> I.sep.nof b c (hown b c ho).1 (fun g e hb=> hn g e (by rw [Heap.jk,if_neg (Nat.ne_of_lt (hown b c ho).2)]; exact hb)) o
          p9:=fun t g e κ c base hb hκ hpl o z=> by
            rw [Heap.jk] at hb
            by_cases e:t=h.n
            · rw [if_pos e] at hb; cases hb
            · rw [if_neg e] at hb; exact I.sep.p9 t g _ κ c base hb hκ hpl o z
          base0:=I.sep.base0
          lt:=I.sep.lt
          ltK:=I.sep.ltK
          new:=fun b hb=> I.sep.new b (by simp at hb; omega)
          zc:=I.sep.zc}
    have S' : Stp cx0 h0 w cx0 (h.push .dead) w := ⟨.refl _ _,⟨fun _ _ _ => rfl,fun b c ho hc => S.fr.owns b c (hown b c ho).1 hc,fun c o z => .inl z,by have := S.fr.hn; simp only [Heap.BB]; omega,
      fun b hb=> by
        have:=S.fr.dd b hb
        rw [Heap.jk,if_neg (Nat.ne_of_lt (Heap.kH this))]; exact this,fun _ _=> rfl⟩⟩
    obtain ⟨q1,q2,q3,q4,q5⟩:=ih J S'
    refine ⟨q1,q2,by show (nH (h.push .dead) m).n=_; rw [q3]; simp; omega,fun b hb=> ?_,fun r hr=> ?_⟩
    · show (nH (h.push .dead) m).get b=_
      rw [q4 b (by simp; omega),Heap.jk,if_neg (Nat.ne_of_lt hb)]
    · show (nH (h.push .dead) m).get (h.n+r)=_
      cases r with
      |zero=> rw [Nat.add_zero,q4 h.n (by simp),Heap.jk,if_pos rfl]
      |succ r=>
        have:=q5 r (by omega)
        simp only [Heap.BB] at this
        rw [show h.n+(r+1)=h.n+1+r by omega]; exact this
end
end Go.Abs

namespace Go.Abs
section
variable {E : Env} {fP : AC → Fr → Heap → Res}

theorem H6 (n0:Nat) (d:DOp) (r:List DOp) (sn:List (Nat×Heap)) (fr:Fr) (h:Heap):oM E fP n0 (d::r) sn fr h=doD E fP d n0 r (oM E fP n0 r) sn fr h:=rfl

theorem M8 (l:List AV) (d t:Nat) (x:AV):getL (setL l d x) t=if d=t∧d < l.length then x else getL l t:=by
 rw [yD,zQ,yD]
 simp only [List.getD,List.getElem?_set]
 by_cases e:d=t
 ·subst e
  by_cases hl:d < l.length
  ·simp [hl]
  ·simp [hl]
 ·simp [e]
theorem PO (l:List AV) (d:Nat) (x:AV):(setL l d x).length=l.length:=by rw [zQ]; simp
theorem Fe (fr:Fr) (o:Option Nat) (x:AV):(lW fr o x).tmps.length=fr.tmps.length:=by cases o <;> simp [lW,PO]
theorem xH (fr:Fr) (o:Option Nat) (x:AV) (t:Nat):getL (lW fr o x).tmps t=if o=some t∧t < fr.tmps.length then x else getL fr.tmps t:=by
 cases o with
 |none=> simp [lW]
 |some d=>
  show getL (setL fr.tmps d x) t=_
  rw [M8]
  by_cases e:d=t
  ·subst e; simp
  ·simp [e]

theorem Gu {d:DOp} {n0:Nat} {k:List (Nat×Heap)→Fr→Heap→Res} {sn:List (Nat×Heap)} {fr:Fr} {h:Heap} {R} (hr:doP E d n0 k sn fr h=some R):
  (∃r,d.rsv=some r∧∃v blk,pR d.o.op fr.tmps (n0+r)=some (v,blk)∧k (Av (n0+r) blk sn) (lW fr d.o.dst v) (h.set (n0+r) blk)=some R)∨
  (d.rsv=none∧still d.o.op=true∧∃v h',gI d.o.op E h fr.tmps= .val v h'∧(mI fr.tmps d.o.op=true→pE E fr.tmps d.o.op v d.bnd sn=true)∧k sn (lW fr d.o.dst v) h=some R):=by
 unfold doP at hr
 split at hr
 ·rename_i r hrs
  split at hr
  ·rename_i v blk hp
   exact .inl ⟨r,hrs,v,blk,hp,hr⟩
  ·cases hr
 ·rename_i hrs
  split at hr
  ·rename_i hst
   split at hr
   ·rename_i v h' hs
    split at hr
    ·rename_i hd
     exact .inr ⟨hrs,hst,v,h',hs,(fun e=> by rw [hd] at e; cases e),hr⟩
    ·rename_i hd
     split at hr
     ·rename_i hro
      exact .inr ⟨hrs,hst,v,h',hs,(fun _=> hro),hr⟩
     ·cases hr
   ·cases hr
  ·cases hr
theorem M9 {d:DOp} {n0:Nat} {L:List DOp} {k:List (Nat×Heap)→Fr→Heap→Res} {sn:List (Nat×Heap)} {fr:Fr} {h:Heap} {R} (hr:doD E fP d n0 L k sn fr h=some R):
  (wanted fr.tmps d.o.guard=false∧k sn (lW fr d.o.dst .und) h=some R)∨
  (wanted fr.tmps d.o.guard=true∧d.eff=false∧doP E d n0 k sn fr h=some R)∨
  (wanted fr.tmps d.o.guard = true ∧ d.eff = true ∧ ∃ v h',k ((d.no,h') :: sn) (lW fr d.o.dst v) h' = some R ∧ (gI d.o.op E h fr.tmps = .val v h' ∨
   (∃f args,gI d.o.op E h fr.tmps= .call f args∧call E fP f args h=some (.nrm,v,h'))∨∃l args,gI d.o.op E h fr.tmps= .yield l args∧round fP l args h=some (.nrm,v,h')))∨
  (wanted fr.tmps d.o.guard=true∧d.eff=true∧∃f args v u h' R',gI d.o.op E h fr.tmps= .call f args∧call E fP f args h=some (.pan v,u,h')∧yR E n0 d.no L sn (lW fr d.o.dst .und) h=some R'∧R=(.pan v,⟨[],fr.defs,fr.pan⟩,h')):=by
 unfold doD at hr
 split at hr
 ·rename_i hw
  split at hr
  ·rename_i he
   exact .inr (.inl ⟨hw,he,hr⟩)
  ·rename_i he
   cases hs:gI d.o.op E h fr.tmps with
   |val v h'=>
    rw [hs] at hr
    exact .inr (.inr (.inl ⟨hw,he,v,h',hr,.inl rfl⟩))
   |call f args=>
    rw [hs] at hr
    simp only [doE] at hr
    split at hr
    ·rename_i v h' hc
     exact .inr (.inr (.inl ⟨hw,he,v,h',hr,.inr (.inl ⟨f,args,rfl,hc⟩)⟩))
    ·rename_i v u h' hc
     split at hr
     ·rename_i R' hp
      cases hr
      exact .inr (.inr (.inr ⟨hw,he,f,args,v,u,h',R',rfl,hc,hp,rfl⟩))
     ·cases hr
    ·cases hr
   |yield l args=>
    rw [hs] at hr
    simp only [doE] at hr
    split at hr
    ·rename_i v h' hc
     exact .inr (.inr (.inl ⟨hw,he,v,h',hr,.inr (.inr ⟨l,args,rfl,hc⟩)⟩))
    ·cases hr
   |pan v=> rw [hs] at hr; cases hr
   |uT=> rw [hs] at hr; cases hr
   |dfr f args=> rw [hs] at hr; cases hr
   |bad=> rw [hs] at hr; cases hr
 ·rename_i hw
  exact .inl ⟨hw,hr⟩

inductive CR (E:Env) (fP:AC→Fr→Heap→Res) (n0:Nat) (b:List Nat) (pn:Option (Nat×AV×Heap)) (frF:Fr) (hF:Heap):List DOp→List (Nat×Heap)→Fr→Heap→Prop
 |nil (sn:List (Nat×Heap)):CR E fP n0 b pn frF hF [] sn frF hF
 |off (d:DOp) (r:List DOp) (sn:List (Nat×Heap)) (fr:Fr) (h:Heap) (hp:∀v x,pn≠some (d.no,v,x)) (hw:wanted fr.tmps d.o.guard=false) (hr:CR E fP n0 b pn frF hF r sn (lW fr d.o.dst .und) h):CR E fP n0 b pn frF hF (d::r) sn fr h
 |psh (d:DOp) (r:List DOp) (sn:List (Nat×Heap)) (fr:Fr) (h:Heap) (hp:∀v x,pn≠some (d.no,v,x)) (hw:wanted fr.tmps d.o.guard=true) (he:d.eff=false) (q:Nat) (hq:d.rsv=some q) (v:AV) (blk:Blk) (hb:pR d.o.op fr.tmps (n0+q)=some (v,blk))
   (hr:CR E fP n0 b pn frF hF r (Av (n0+q) blk sn) (lW fr d.o.dst v) (h.set (n0+q) blk)):CR E fP n0 b pn frF hF (d::r) sn fr h
 |stl (d:DOp) (r:List DOp) (sn:List (Nat×Heap)) (fr:Fr) (h:Heap) (hp:∀v x,pn≠some (d.no,v,x)) (hw:wanted fr.tmps d.o.guard=true) (he:d.eff=false) (hq:d.rsv=none) (hst:still d.o.op=true) (v:AV) (h':Heap) (hs:gI d.o.op E h fr.tmps= .val v h')
   (ho:mI fr.tmps d.o.op=true→pE E fr.tmps d.o.op v d.bnd sn=true) (hr:CR E fP n0 b pn frF hF r sn (lW fr d.o.dst v) h):CR E fP n0 b pn frF hF (d::r) sn fr h
 |eff (d:DOp) (r:List DOp) (sn:List (Nat×Heap)) (fr:Fr) (h:Heap) (hp:∀v x,pn≠some (d.no,v,x)) (hw:wanted fr.tmps d.o.guard=true) (he:d.eff=true) (v:AV) (h':Heap) (hr:CR E fP n0 b pn frF hF r ((d.no,h')::sn) (lW fr d.o.dst v) h')
   (hs:gI d.o.op E h fr.tmps= .val v h'∨(∃f args,gI d.o.op E h fr.tmps= .call f args∧call E fP f args h=some (.nrm,v,h'))∨∃l args,gI d.o.op E h fr.tmps= .yield l args∧round fP l args h=some (.nrm,v,h')):CR E fP n0 b pn frF hF (d::r) sn fr h
 |gon (d:DOp) (r:List DOp) (sn:List (Nat×Heap)) (fr:Fr) (h:Heap) (hp:∀v x,pn≠some (d.no,v,x)) (p:Nat) (v:AV) (x:Heap) (hx:pn=some (p,v,x)) (hb:(b.getD d.no 0).testBit p=true) (hr:CR E fP n0 b pn frF hF r sn (lW fr d.o.dst .und) h):CR E fP n0 b pn frF hF (d::r) sn fr h
 |pan (d:DOp) (r:List DOp) (sn:List (Nat×Heap)) (fr:Fr) (h:Heap) (v u:AV) (x:Heap) (hp:pn=some (d.no,v,x)) (hw:wanted fr.tmps d.o.guard=true) (he:d.eff=true) (f:FuncId) (args:List AV) (hs:gI d.o.op E h fr.tmps= .call f args)
   (hc:call E fP f args h=some (.pan v,u,x)) (hr:CR E fP n0 b pn frF hF r sn (lW fr d.o.dst .und) h):CR E fP n0 b pn frF hF (d::r) sn fr h

section
variable {n0 : Nat} {b : List Nat} {pn : Option (Nat × AV × Heap)} {frF : Fr} {hF : Heap}
theorem CR.Fg {d:DOp} {L:List DOp} {sn:List (Nat×Heap)} {fr:Fr} {h:Heap} (hr:CR E fP n0 b pn frF hF (d::L) sn fr h):
  (wanted fr.tmps d.o.guard=false∧CR E fP n0 b pn frF hF L sn (lW fr d.o.dst .und) h)∨
  (wanted fr.tmps d.o.guard=true∧d.eff=false∧∃r,d.rsv=some r∧∃v blk,pR d.o.op fr.tmps (n0+r)=some (v,blk)∧CR E fP n0 b pn frF hF L (Av (n0+r) blk sn) (lW fr d.o.dst v) (h.set (n0+r) blk))∨
  (wanted fr.tmps d.o.guard=true∧d.eff=false∧d.rsv=none∧still d.o.op=true∧∃v h',gI d.o.op E h fr.tmps= .val v h'∧(mI fr.tmps d.o.op=true→pE E fr.tmps d.o.op v d.bnd sn=true)∧CR E fP n0 b pn frF hF L sn (lW fr d.o.dst v) h)∨
  (wanted fr.tmps d.o.guard = true ∧ d.eff = true ∧ ∃ v h',CR E fP n0 b pn frF hF L ((d.no,h') :: sn) (lW fr d.o.dst v) h' ∧ (gI d.o.op E h fr.tmps = .val v h' ∨
   (∃f args,gI d.o.op E h fr.tmps= .call f args∧call E fP f args h=some (.nrm,v,h'))∨∃l args,gI d.o.op E h fr.tmps= .yield l args∧round fP l args h=some (.nrm,v,h')))∨
  ((∃p v x,pn=some (p,v,x)∧((b.getD d.no 0).testBit p=true∨d.no=p))∧CR E fP n0 b pn frF hF L sn (lW fr d.o.dst .und) h):=by
 cases hr with
 |off _ _ _ _ _ hp hw hr=> exact .inl ⟨hw,hr⟩
 |psh _ _ _ _ _ hp hw he q hq v blk hb hr=> exact .inr (.inl ⟨hw,he,q,hq,v,blk,hb,hr⟩)
 |stl _ _ _ _ _ hp hw he hq hst v h' hs ho hr=> exact .inr (.inr (.inl ⟨hw,he,hq,hst,v,h',hs,ho,hr⟩))
 |eff _ _ _ _ _ hp hw he v h' hr hs=> exact .inr (.inr (.inr (.inl ⟨hw,he,v,h',hr,hs⟩)))
 |gon _ _ _ _ _ hp p v x hx hb hr=> exact .inr (.inr (.inr (.inr ⟨⟨p,v,x,hx,.inl hb⟩,hr⟩)))
 |pan _ _ _ _ _ v u x hp hw he f args hs hc hr=> exact .inr (.inr (.inr (.inr ⟨⟨d.no,v,x,hp,.inr rfl⟩,hr⟩)))
theorem CR.at {d:DOp} {L:List DOp} {sn:List (Nat×Heap)} {fr:Fr} {h:Heap} (hr:CR E fP n0 b pn frF hF (d::L) sn fr h) {v:AV} {x:Heap} (hx:pn=some (d.no,v,x)):
  wanted fr.tmps d.o.guard=true∧∃f args u,gI d.o.op E h fr.tmps= .call f args∧call E fP f args h=some (.pan v,u,x):=by
 cases hr with
 |off _ _ _ _ _ hp=> exact absurd hx (hp _ _)
 |psh _ _ _ _ _ hp=> exact absurd hx (hp _ _)
 |stl _ _ _ _ _ hp=> exact absurd hx (hp _ _)
 |eff _ _ _ _ _ hp=> exact absurd hx (hp _ _)
 |gon _ _ _ _ _ hp=> exact absurd hx (hp _ _)
 |pan _ _ _ _ _ v' u x' hp hw he f args hs hc hr=>
  rw [hx] at hp
  cases hp
  exact ⟨hw,f,args,u,hs,hc⟩
theorem CR.next {d:DOp} {L:List DOp} {sn:List (Nat×Heap)} {fr:Fr} {h:Heap} (hr:CR E fP n0 b pn frF hF (d::L) sn fr h):∃v sn' h',CR E fP n0 b pn frF hF L sn' (lW fr d.o.dst v) h':=by
 rcases hr.Fg with ⟨_,h1⟩ | ⟨_,_,r,_,v,blk,_,h1⟩ | ⟨_,_,_,_,v,h',_,_,h1⟩ | ⟨_,_,v,h',h1,_⟩ | ⟨_,h1⟩ <;> exact ⟨_,_,_,h1⟩

theorem run_end:∀(L:List DOp) (sn:List (Nat×Heap)) (fr:Fr) (h:Heap),CR E fP n0 b pn frF hF L sn fr h→
  frF.defs=fr.defs∧frF.pan=fr.pan∧frF.tmps.length=fr.tmps.length∧∀t,(∀d∈L,d.o.dst≠some t)→getL frF.tmps t=getL fr.tmps t:=by
 intro L
 induction L with
 |nil=> intro sn fr h hr; cases hr; exact ⟨rfl,rfl,rfl,fun _ _=> rfl⟩
 |cons d r ih=>
  intro sn fr h hr
  obtain ⟨v,sn',h',h1⟩:=hr.next
  obtain ⟨e2,e3,e4,e5⟩:=ih _ _ _ h1
  refine ⟨by rw [e2,zo],by rw [e3,uG],by rw [e4,Fe],fun t ht=> ?_⟩
  rw [e5 t (fun d' hd'=> ht d' (List.mem_cons_of_mem _ hd')),xH]
  rw [if_neg]
  exact fun hh=> ht d (by simp) hh.1
end
theorem U3 {n:Nat} {b:List Nat} {rJ:List (Nat×Nat)}:∀{L:List DOp} {seen ef pend:Nat},qX n b rJ L seen ef pend=true→∀x∈L,x.eff=true→∀j,ef.testBit j=true→(b.getD x.no 0).testBit j=true:=by
 intro L
 induction L with
 |nil=> intro seen ef pend _ x hx; cases hx
 |cons d r ih=>
  intro seen ef pend h x hx he j hj
  obtain ⟨hh,hr⟩:=pV h
  rcases List.mem_cons.1 hx with rfl | hx
  ·exact (hh.chain he).1 j hj
  ·refine ih hr x hx he j ?_
   split
   ·rw [nJ,hj]; rfl
   ·exact hj
theorem R9 {n0 j:Nat} {b:List Nat} {v:AV} {x:Heap}:∀(L:List DOp) (sn:List (Nat×Heap)) (fr frF:Fr) (h hF:Heap) (ex:Ex),yR E n0 j L sn fr h=some (ex,frF,hF)→(∀d∈L,d.no≠j)→(∀d∈L,d.eff=true→(b.getD d.no 0).testBit j=true)→
  (∀d∈L,vQ j d.bnd=true→(b.getD d.no 0).testBit j=true)→CR E fP n0 b (some (j,v,x)) frF hF L sn fr h:=by
 intro L
 induction L with
 |nil=> intro sn fr frF h hF ex hr _ _ _; cases hr; exact .nil _
 |cons d r ih=>
  intro sn fr frF h hF ex hr hn he hb
  have hne:∀(v':AV) (x':Heap),some (j,v,x)≠some (d.no,v',x'):=fun v' x' e=> by cases e; exact hn d (by simp) rfl
  have hn':∀d∈r,d.no≠j:=fun d hd=> hn d (List.mem_cons_of_mem _ hd)
  have he':∀d∈r,d.eff=true→(b.getD d.no 0).testBit j=true:=fun d hd=> he d (List.mem_cons_of_mem _ hd)
  have hb':∀d∈r,vQ j d.bnd=true→(b.getD d.no 0).testBit j=true:=fun d hd=> hb d (List.mem_cons_of_mem _ hd)
  have hr : (match d.eff || vQ j d.bnd with
   |true=> yR E n0 j r sn (lW fr d.o.dst .und) h
   |false=> match wanted fr.tmps d.o.guard with
    |true=> doP E d n0 (yR E n0 j r) sn fr h
    |false=> yR E n0 j r sn (lW fr d.o.dst .und) h)=some (ex,frF,hF):=hr
  split at hr
  ·rename_i hc
   refine .gon d r sn fr h hne j v x rfl ?_ (ih _ _ _ _ _ _ hr hn' he' hb')
   simp only [Bool.or_eq_true] at hc
   exact hc.elim (he d (by simp)) (hb d (by simp))
  ·rename_i hc
   simp only [Bool.or_eq_false_iff] at hc
   split at hr
   ·rename_i hw
    rcases Gu hr with ⟨q,h1,v',blk,h2,h3⟩ | ⟨h1,h2,v',h',h3,h4,h5⟩
    ·exact .psh d r sn fr h hne hw hc.1 q h1 v' blk h2 (ih _ _ _ _ _ _ h3 hn' he' hb')
    ·exact .stl d r sn fr h hne hw hc.1 h1 h2 v' h' h3 h4 (ih _ _ _ _ _ _ h5 hn' he' hb')
   ·rename_i hw
    exact .off d r sn fr h hne hw (ih _ _ _ _ _ _ hr hn' he' hb')
theorem U4 {n n0:Nat} {b:List Nat} {rJ:List (Nat×Nat)}:∀(L:List DOp) (sn:List (Nat×Heap)) (fr frR:Fr) (h hR:Heap) (ex:Ex),oM E fP n0 L sn fr h=some (ex,frR,hR)→∀{seen ef pend:Nat},qX n b rJ L seen ef pend=true→
  (∀d∈L,∀j,vQ j d.bnd=true→(b.getD d.no 0).testBit j=true)→
  (ex= .nrm∧CR E fP n0 b none frR hR L sn fr h)∨∃v d frF hF,ex= .pan v∧frR=⟨[],fr.defs,fr.pan⟩∧d∈L∧d.eff=true∧CR E fP n0 b (some (d.no,v,hR)) frF hF L sn fr h:=by
 intro L
 induction L with
 |nil=> intro sn fr frR h hR ex hr _ _ _ _ _; cases hr; exact .inl ⟨rfl,.nil _⟩
 |cons d r ih=>
  intro sn fr frR h hR ex hr seen ef pend hc hb
  rw [H6] at hr
  obtain ⟨hh,hcr⟩:=pV hc
  have hb':∀d∈r,∀j,vQ j d.bnd=true→(b.getD d.no 0).testBit j=true:=fun d hd=> hb d (List.mem_cons_of_mem _ hd)
  have hnd:∀y∈r,y.no≠d.no:=fun y hy e=> by
   have h2:=ug hcr y hy
   rw [nJ,e] at h2
   simp at h2
  have go:∀sn1 v1 h1,oM E fP n0 r sn1 (lW fr d.o.dst v1) h1=some (ex,frR,hR)→(∀pn frF hF,(∀v x,pn≠some (d.no,v,x))→CR E fP n0 b pn frF hF r sn1 (lW fr d.o.dst v1) h1→CR E fP n0 b pn frF hF (d::r) sn fr h)→
    (ex= .nrm∧CR E fP n0 b none frR hR (d::r) sn fr h)∨∃v d' frF hF,ex= .pan v∧frR=⟨[],fr.defs,fr.pan⟩∧d'∈d::r∧d'.eff=true∧CR E fP n0 b (some (d'.no,v,hR)) frF hF (d::r) sn fr h:=by
   intro sn1 v1 h1 hr1 hk
   rcases ih _ _ _ _ _ _ hr1 hcr hb' with ⟨e,acP⟩ | ⟨v,d',frF,hF,e1,e2,e3,e4,e5⟩
   ·exact .inl ⟨e,hk _ _ _ (fun v x e=> by cases e) acP⟩
   ·exact .inr ⟨v,d',frF,hF,e1,by rw [e2,zo,uG],List.mem_cons_of_mem _ e3,e4,hk _ _ _ (fun v' x' e=> by injection e with e; injection e with e _; exact hnd d' e3 e) e5⟩
  rcases M9 hr with ⟨w1,h1⟩ | ⟨w1,w2,h1⟩ | ⟨w1,w2,v,h',h1,h2⟩ | ⟨w1,w2,f,args,v,u,h',R',h1,h2,h3,h4⟩
  ·exact go _ _ _ h1 fun pn frF hF hp hk=> .off d r sn fr h hp w1 hk
  ·rcases Gu h1 with ⟨q,h2,v,blk,h3,h4⟩ | ⟨h2,h3,v,h',h4,h5,h6⟩
   ·exact go _ _ _ h4 fun pn frF hF hp hk=> .psh d r sn fr h hp w1 w2 q h2 v blk h3 hk
   ·exact go _ _ _ h6 fun pn frF hF hp hk=> .stl d r sn fr h hp w1 w2 h2 h3 v h' h4 h5 hk
  ·exact go _ _ _ h1 fun pn frF hF hp hk=> .eff d r sn fr h hp w1 w2 v h' hk h2
  ·cases h4
   obtain ⟨ex',frF,hF⟩:=R'
   refine .inr ⟨v,d,frF,hF,rfl,rfl,by simp,w2,.pan d r sn fr h v u _ rfl w1 w2 f args h1 h2 (R9 r _ _ _ _ _ _ h3 hnd (fun y hy he=> ?_) (fun y hy hm=> hb' y hy _ hm))⟩
   refine U3 hcr y hy he d.no ?_
   rw [w2]
   simp only [if_true]
   rw [nJ]
   simp

def Agree (b:List Nat) (rJ:List (Nat×Nat)) (tm0 tmF:List AV) (d:DOp) (tm:List AV):Prop:=
 ∀t∈tmpsOf d,((∃j,(t,j)∈rJ∧(b.getD d.no 0).testBit j=true)→getL tm t=getL tmF t)∧((∀j,(t,j)∈rJ→(b.getD d.no 0).testBit j=false)→getL tm t=getL tm0 t)

theorem Agree.ev {b:List Nat} {rJ:List (Nat×Nat)} {tm0 tmF tm tm':List AV} {d:DOp} (h:Agree b rJ tm0 tmF d tm) (h':Agree b rJ tm0 tmF d tm'):∀x∈d.o.op.xs,x.ev tm=x.ev tm':=by
 intro x hx
 cases x with
 |c a=> rfl
 |t k=>
  have hk:k∈tmpsOf d:=by
   unfold tmpsOf
   exact List.mem_append_left _ (List.mem_filterMap.2 ⟨.t k,hx,rfl⟩)
  obtain ⟨a1,a2⟩:=h k hk
  obtain ⟨b1,b2⟩:=h' k hk
  show getL tm k=getL tm' k
  by_cases e:∃j,(k,j)∈rJ∧(b.getD d.no 0).testBit j=true
  ·rw [a1 e,b1 e]
  ·have:∀j,(k,j)∈rJ→(b.getD d.no 0).testBit j=false:=fun j hj=> by
    cases hq:(b.getD d.no 0).testBit j with
    |false=> rfl
    |true=> exact absurd ⟨j,hj,hq⟩ e
   rw [a2 this,b2 this]

theorem Agree.wanted {b:List Nat} {rJ:List (Nat×Nat)} {tm0 tmF tm tm':List AV} {d:DOp} (h:Agree b rJ tm0 tmF d tm) (h':Agree b rJ tm0 tmF d tm'):Abs.wanted tm d.o.guard=Abs.wanted tm' d.o.guard:=by
 cases hg:d.o.guard with
 |none=> rfl
 |some g=>
  obtain ⟨k,want⟩:=g
  have hk:k∈tmpsOf d:=by
   unfold tmpsOf
   rw [hg]
   exact List.mem_append_right _ (by simp)
  obtain ⟨a1,a2⟩:=h k hk
  obtain ⟨b1,b2⟩:=h' k hk
  have:getL tm k=getL tm' k:=by
   by_cases e:∃j,(k,j)∈rJ∧(b.getD d.no 0).testBit j=true
   ·rw [a1 e,b1 e]
   ·have:∀j,(k,j)∈rJ→(b.getD d.no 0).testBit j=false:=fun j hj=> by
     cases hq:(b.getD d.no 0).testBit j with
     |false=> rfl
     |true=> exact absurd ⟨j,hj,hq⟩ e
    rw [a2 this,b2 this]
  simp only [Abs.wanted,this]

theorem JC:∀{l:List Nat},G6 l=true→l.Nodup:=by
 intro l
 induction l with
 |nil=> intro _; exact List.nodup_nil
 |cons a r ih=>
  intro h
  simp only [G6,Bool.and_eq_true,Bool.not_eq_true'] at h
  refine List.nodup_cons.2 ⟨fun hm=> ?_,ih h.2⟩
  have key:∀(r:List Nat),a∈r→vQ a r=true:=by
   intro r
   induction r with
   |nil=> intro h; cases h
   |cons x r ih2=>
    intro h
    simp only [vQ]
    split
    ·rfl
    ·rename_i hx
     rcases List.mem_cons.1 h with rfl | h
     ·rw [Nat.beq_refl] at hx; cases hx
     ·exact ih2 h
  rw [key r hm] at h
  cases h.1

theorem CJ {Lf:List DOp} {d:DOp} (hd:d∈Lf) {t:Nat} (ht:d.o.dst=some t):(t,d.no)∈dstsOf Lf:=List.mem_filterMap.2 ⟨d,hd,by simp [ht]⟩
theorem DL {Lf:List DOp} {t j:Nat} (h:(t,j)∈dstsOf Lf):∃d∈Lf,d.no=j∧d.o.dst=some t:=by
 obtain ⟨d,hd,e⟩:=List.mem_filterMap.1 h
 cases hq:d.o.dst with
 |none=> rw [hq] at e; cases e
 |some t'=> rw [hq] at e; cases e; exact ⟨d,hd,rfl,hq⟩

theorem CK {Lf:List DOp} (hn:((dstsOf Lf).map (·.1)).Nodup) {d d':DOp} (hd:d∈Lf) (hd':d'∈Lf) {t:Nat} (h:d.o.dst=some t) (h':d'.o.dst=some t):d.no=d'.no:=by
 have m1:=CJ hd h
 have m2:=CJ hd' h'
 have key:∀(l:List (Nat×Nat)),(l.map (·.1)).Nodup→∀t i j,(t,i)∈l→(t,j)∈l→i=j:=by
  intro l
  induction l with
  |nil=> intro _ t i j h; cases h
  |cons p r ih=>
   intro hn t i j h1 h2
   rw [List.map_cons,List.nodup_cons] at hn
   rcases List.mem_cons.1 h1 with e1 | h1 <;> rcases List.mem_cons.1 h2 with e2 | h2
   ·rw [←e1] at e2; cases e2; rfl
   ·exact absurd (List.mem_map.2 ⟨(t,j),h2,by rw [←e1]⟩) hn.1
   ·exact absurd (List.mem_map.2 ⟨(t,i),h1,by rw [←e2]⟩) hn.1
   ·exact ih hn.2 t i j h1 h2
 exact key _ hn t _ _ m1 m2

structure H7 (E:Env) (fP:AC→Fr→Heap→Res) (n n0:Nat) (b:List Nat) (Lf:List DOp) (tm0:List AV) (frF:Fr) (hF:Heap) (pn:Option (Nat×AV×Heap)) (L:List DOp) (seen ef pend:Nat) (sn:List (Nat×Heap)) (fr:Fr) (h:Heap):Prop where
 run:CR E fP n0 b pn frF hF L sn fr h
 chk:qX n b (dstsOf Lf) L seen ef pend=true
 cl:Cl b seen.testBit
 sub:∀d∈L,d∈Lf
 old:∀d∈L,∀t,d.o.dst=some t→getL fr.tmps t=getL tm0 t
 non:∀t,(∀d∈Lf,d.o.dst≠some t)→getL fr.tmps t=getL tm0 t
 len:fr.tmps.length=tm0.length

variable {n n0 : Nat} {b : List Nat} {Lf : List DOp} {tm0 : List AV} {frF : Fr} {hF : Heap} {pn : Option (Nat × AV × Heap)}

theorem H7.agree (hn:((dstsOf Lf).map (·.1)).Nodup) (hall:∀x∈Lf,∀y∈Lf,x.no=y.no→x=y) (acQ:∀x∈Lf,x.no < n) {d:DOp} {L:List DOp} {seen ef pend:Nat} {sn:List (Nat×Heap)} {fr:Fr} {h:Heap}
  (C:H7 E fP n n0 b Lf tm0 frF hF pn (d::L) seen ef pend sn fr h):Agree b (dstsOf Lf) tm0 frF.tmps d fr.tmps:=by
 obtain ⟨hh,_⟩:=pV C.chk
 have hdf:=C.sub d (by simp)
 intro t ht
 refine ⟨fun ⟨j,hj,hbj⟩=> ?_,fun hnone=> ?_⟩
 ·obtain ⟨d',hd',e1,e2⟩:=DL hj
  have aba:=hh.bef j hbj
  refine ((run_end _ _ _ _ C.run).2.2.2 t (fun x hx e=> ?_)).symm
  have:=CK hn (C.sub x hx) hd' e e2
  have hx2:=ug C.chk x hx
  rw [this,e1,aba] at hx2
  cases hx2
 ·by_cases hw:∃d'∈Lf,d'.o.dst=some t
  ·obtain ⟨d',hd',e⟩:=hw
   have hm:=CJ hd' e
   rcases hh.looks t ht _ hm with h1 | h1 | h1
   ·rw [hnone _ hm] at h1; cases h1
   ·
    have hns:seen.testBit d'.no=false:=by
     cases hq:seen.testBit d'.no with
     |false=> rfl
     |true=>
      have:=C.cl _ _ hq h1
      rw [hh.new] at this; cases this
    have hin:d'∈d::L:=by
     have hlt:d'.no < n:=acQ d' hd'
     rcases HZ C.chk _ hlt with h2 | ⟨x,hx,e2⟩
     ·rw [hns] at h2; cases h2
     ·have:=hall x (C.sub x hx) d' hd' e2
      rw [←this]; exact hx
    exact C.old d' hin t e
   ·have:=hall d' hd' d hdf h1
    subst this
    exact C.old d' (by simp) t e
  ·exact C.non t (fun d' hd' e=> hw ⟨d',hd',e⟩)
end
end Go.Abs

namespace Go.Abs
open Go
def H8:COp→Bool
 | .load _ _ _=> true
 | .b2s _=> true
 |_=> false
section
variable {P : Program} {mu : List String} {G : Nat → List DV} {cx : Cx} {h : Heap} {w : World}
theorem DN {mu:List String} {me:String} {b:Builtin} {ts:Array TypeId} {args:List X} {c:COp} (hc:sQ P mu me b ts args=some c):H8 c=false:=by
  unfold sQ at hc
  repeat' split at hc
  all_goals first
    |(cases hc; done)
    |(injection hc with hc; subst hc; rfl)
    | (simp only [Option.map_eq_some_iff,Option.bind_eq_bind,Option.bind_eq_some_iff] at hc
       obtain ⟨_,_,hc⟩:=hc
       first
       |(subst hc; rfl)
       |(injection hc with hc; subst hc; rfl)
       |(obtain ⟨_,_,hc⟩:=hc; split at hc <;> first | (cases hc; done) | (injection hc with hc; subst hc; rfl)))
theorem U5 (I:Inv P mu G cx h w) {s d e:TypeId} (hs:P.underlying s=some (.slice e)) (he:P.underlying e=some (.int .u8)) (hd:P.underlying d=some .string) {x:X} {tm:List AV} {v:Value} (hv:bY cx w (x.ev tm) v) {u:AV} {h':Heap} (hr:vJ h tm x= .val u h'):
  ∃v',((do pure (Next.value (←convert s d v)):Sem Next).run P w)= .ok (.value v') w∧bY cx w u v':=by
 unfold vJ at hr
 split at hr
 ·rename_i n l hl
  split at hr
  ·rename_i ds hds
   split at hr
   ·rename_i b hb
    obtain ⟨ad,cap,rfl,hlen,hc⟩:=vT I hl hv
    rw [Nat.mul_one] at hlen
    cases hr
    have done:∀sb:ByteArray,sb.data.toList=b→(Conv.bytesToString (.slice ad n cap)).run P w= .ok (.string sb) w→
      ∃v',((do pure (Next.value (←convert s d (.slice ad n cap))):Sem Next).run P w)= .ok (.value v') w∧bY cx w (.d (.s b)) v':=by
     intro sb h1 h2
     refine ⟨.string sb,?_,(.d _ _ (.s _ _ h1))⟩
     simp only [Sem.run_bind,run_convert_bytes_string w s d e ad n cap hs he hd,h2,Result.andThen_ok,Sem.run_pure]
    by_cases e0:0 < l.length
    ·obtain ⟨c,o,rfl,hcc⟩:=hc e0
     obtain ⟨arr,h1,h2⟩:=wG (P:=P) hcc
     rw [hlen] at h1
     obtain ⟨g1,g2⟩:=uP (cx:=cx) (w:=w) (g:=fun i=> arr.toList.getD i undef) hds h2.rel
     obtain ⟨ns,n1,n2⟩:=DD hb (vs:=arr.toList) (by rw [h2.len,g1]) g2
     have harr:arr=(ns.map (Value.int .u8)).toArray:=by rw [←n1]
     rw [harr] at h1
     exact done _ (by rw [DC,←n2]; rfl) (run_bytesToString w _ n cap ns h1)
    ·have:l=[]:=List.eq_nil_of_length_eq_zero (by omega)
     subst this
     simp only [stripL,Option.some.injEq] at hds
     subst hds
     simp only [qm,Option.some.injEq] at hb
     subst hb
     have n0:n=0:=by simpa using hlen.symm
     subst n0
     refine done .empty rfl ?_
     cases ad with
     |none=> rfl
     |some a=>
      have:=run_bytesToString (P:=P) w a 0 cap [] (by simp [loadCells,loadCellsFrom])
      simpa using this
   ·cases hr
  ·cases hr
 ·cases hr
theorem DO {s d:TypeId} {x:X} {c:COp} (hc:uE P s d x=some c) (hk:H8 c=true):c= .b2s x∧∃e,P.underlying s=some (.slice e)∧P.underlying e=some (.int .u8)∧P.underlying d=some .string:=by
 unfold uE at hc
 split at hc
 ·cases hc; cases hk
 ·cases hc; cases hk
 ·split at hc
  ·cases hc; cases hk
  ·cases hc
 ·rename_i e h1 h2
  split at hc
  ·rename_i h3; cases hc; exact ⟨rfl,e,h1,h3,h2⟩
  ·cases hc
 ·cases hc; cases hk
 ·split at hc
  ·cases hc; cases hk
  ·cases hc
 ·simp only [Option.bind_eq_bind,Option.bind_eq_some_iff,Option.some.injEq] at hc
  obtain ⟨_,_,rfl⟩:=hc
  cases hk
 ·cases hc
def M_ (o:Option COp):Prop:=∀c,o=some c→H8 c=false
theorem LP:M_ none:=fun _ h=> by cases h
theorem LQ {c:COp} (h:H8 c=false):M_ (some c):=fun _ e=> by cases e; exact h
theorem LU {α:Type} {o:Option α} {f:α→Option COp} (h:∀x,M_ (f x)):M_ (o >>=f):=fun c e=> by
 cases o with
 |none=> cases e
 |some x=> exact h x c e
theorem PR {α:Type} {o:Option α} {f:α→COp} (h:∀x,H8 (f x)=false):M_ (o.map f):=fun c e=> by
 cases o with
 |none=> cases e
 |some x=> cases e; exact h x
theorem LW {o:Option COp} {c:COp} (hc:o=some c) (h:M_ o):H8 c=false:=h c hc
theorem Na (I:Inv P mu G cx h w) {E:Env} (hE:E.kQ=G) {mu':List String} {me:String} {o:Oper} {c:COp} (hc:yS P mu' me o=some c) (hk:H8 c=true)
  {a:Act} {tm:List AV} (ht:uF cx w tm a.tmps) {u:AV} {h':Heap} (hr:gI c E h tm= .val u h'):∃v',(execOp a.eval o).run P w= .ok (.value v') w∧bY cx w u v':=by
 have hx:∀{y:Operand} {x:X},cX y=some x→bY cx w (x.ev tm) (a.eval y):=fun h=> zR ht h
 unfold yS at hc
 split at hc
 case h_8 t y hop=>
  simp only [Option.bind_eq_bind,Option.bind_eq_some_iff,Option.some.injEq] at hc
  obtain ⟨ag,ha,n,hn,x,hy,rfl⟩:=hc
  unfold execOp; rw [hop]
  have hr:ov h (loadA E.kQ h ag n (x.ev tm))= .val u h':=hr
  rw [hE] at hr
  cases hl:loadA G h ag n (x.ev tm) with
  |none=> rw [hl] at hr; cases hr
  |some v=>
   rw [hl] at hr
   cases hr
   obtain ⟨v',h1,h2⟩:=Ck I ha hn (hx hy) hl
   exact ⟨v',by simp [h1],h2⟩
 case h_13 s d y hop=>
  simp only [Option.bind_eq_bind,Option.bind_eq_some_iff] at hc
  obtain ⟨x,hy,hc⟩:=hc
  obtain ⟨rfl,e,h1,h2,h3⟩:=DO hc hk
  unfold execOp; rw [hop]
  exact U5 I h1 h2 h3 (hx hy) hr
 all_goals
  refine absurd hk ?_
  rw [Bool.not_eq_true]
  refine LW hc ?_
  repeat' first
   |exact LP
   |exact LQ rfl
   |exact fun _ e=> DN e
   |refine LU fun _=> ?_
   |exact PR fun _=> rfl
   |split
theorem U6 {mu':List String} {me:String} {o:Oper} {c:COp} (hc:yS P mu' me o=some c) (hk:H8 c=true) {a:Act} {tm:List AV} (ht:uF cx w tm a.tmps):∃x v',c.xs=[x]∧bY cx w (x.ev tm) v':=by
 have hx:∀{y:Operand} {x:X},cX y=some x→bY cx w (x.ev tm) (a.eval y):=fun h=> zR ht h
 unfold yS at hc
 split at hc
 case h_8 t y hop=>
  simp only [Option.bind_eq_bind,Option.bind_eq_some_iff,Option.some.injEq] at hc
  obtain ⟨ag,ha,n,hn,x,hy,rfl⟩:=hc
  exact ⟨x,_,rfl,hx hy⟩
 case h_13 s d y hop=>
  simp only [Option.bind_eq_bind,Option.bind_eq_some_iff] at hc
  obtain ⟨x,hy,hc⟩:=hc
  obtain ⟨rfl,_⟩:=DO hc hk
  exact ⟨x,_,rfl,hx hy⟩
 all_goals
  refine absurd hk ?_
  rw [Bool.not_eq_true]
  refine LW hc ?_
  repeat' first
   |exact LP
   |exact LQ rfl
   |exact fun _ e=> DN e
   |refine LU fun _=> ?_
   |exact PR fun _=> rfl
   |split
theorem R_ {c:COp} {tm:List AV} (hk:mI tm c=true):∃b,(∀(E:Env) (h1 h2:Heap) (v:AV) (hh:Heap),h1.get b=h2.get b→gI c E h1 tm= .val v hh→∃hh',gI c E h2 tm= .val v hh')∧
  ((H8 c=true∧∃x,c.xs=[x]∧((∃off,x.ev tm= .ptr b off)∨∃off sz n m ex,x.ev tm= .sref b off sz n m ex))∨(∀(E:Env) (h1:Heap) (f:Bool) (e:TypeId) (cs:List AV) (v:AV) (hh:Heap),h1.get b=some (.cells f e cs)→gI c E h1 tm≠ .val v hh)):=by
 cases c with
 |load ag n a=>
  simp only [mI] at hk
  split at hk
  ·rename_i b off hx
   refine ⟨b,fun E h1 h2 v hh e hs=> ?_,.inl ⟨rfl,a,rfl,.inl ⟨off,hx⟩⟩⟩
   have hs:ov h1 (loadA E.kQ h1 ag n (a.ev tm))= .val v hh:=hs
   show ∃hh',ov h2 (loadA E.kQ h2 ag n (a.ev tm))= .val v hh'
   have:loadA E.kQ h2 ag n (a.ev tm)=loadA E.kQ h1 ag n (a.ev tm):=by rw [hx]; simp only [loadA,e]
   rw [this]
   cases hl:loadA E.kQ h1 ag n (a.ev tm) with
   |none=> rw [hl] at hs; cases hs
   |some u=> rw [hl] at hs; cases hs; exact ⟨h2,rfl⟩
  ·cases hk
 |b2s x=>
  simp only [mI] at hk
  split at hk
  ·rename_i b off sz n m ex hx
   refine ⟨b,fun E h1 h2 v hh e hs=> ?_,.inl ⟨rfl,x,rfl,.inr ⟨off,sz,n,m,ex,hx⟩⟩⟩
   have hs:vJ h1 tm x= .val v hh:=hs
   show ∃hh',vJ h2 tm x= .val v hh'
   have:slView h2 1 (x.ev tm)=slView h1 1 (x.ev tm):=by rw [hx]; simp only [slView,e]
   unfold vJ at hs ⊢
   rw [this]
   split at hs
   ·split at hs
    ·split at hs
     ·cases hs
      exact ⟨h2,by simp_all⟩
     ·cases hs
    ·cases hs
   ·cases hs
  ·cases hk
 |look kk ag zs ok m k=>
  simp only [mI] at hk
  split at hk
  ·rename_i b hx
   refine ⟨b,fun E h1 h2 v hh e hs=> ?_,.inr fun E h1 f e cs v hh hg hs=> ?_⟩
   ·have hs:vC h1 tm kk ag zs ok m k= .val v hh:=hs
    show ∃hh',vC h2 tm kk ag zs ok m k= .val v hh'
    unfold vC at hs ⊢
    rw [hx] at hs ⊢
    simp only [←e] 
    revert hs
    repeat' split
    all_goals intro hs
    all_goals first
     |(cases hs; done)
     |(cases hs; exact ⟨h2,rfl⟩)
     |simp_all
   ·have hs:vC h1 tm kk ag zs ok m k= .val v hh:=hs
    unfold vC at hs
    rw [hx] at hs
    simp only [hg] at hs
    revert hs
    repeat' split
    all_goals intro hs; cases hs
  ·cases hk
 |len k x=>
  simp only [mI] at hk
  split at hk
  ·rename_i b hx
   refine ⟨b,fun E h1 h2 v hh e hs=> ?_,.inr fun E h1 f e cs v hh hg hs=> ?_⟩
   ·have hs:vM h1 tm k x= .val v hh:=hs
    show ∃hh',vM h2 tm k x= .val v hh'
    unfold vM at hs ⊢
    rw [hx] at hs ⊢
    match k with
    |0=> simp [DX] at hs
    |1=> simp [lenOf] at hs
    |k+2=>
     simp only [←e]
     simp only at hs
     split at hs
     ·cases hs; rename_i hg; exact ⟨h2,by simp [hg]⟩
     ·cases hs
   ·have hs:vM h1 tm k x= .val v hh:=hs
    unfold vM at hs
    rw [hx] at hs
    match k with
    |0=> simp [DX] at hs
    |1=> simp [lenOf] at hs
    |k+2=> simp [hg] at hs
  ·cases hk
 |_=> cases hk
def yT (u:List (Nat×Blk)) (h:Heap):Heap:=u.foldl (fun h p=> h.set p.1 p.2) h
theorem Fh:∀(u:List (Nat×Blk)) (h:Heap) (b:Nat),(∀p∈u,∃y,h.get p.1=some y)→(yT u h).get b=h.get b∨∃p∈u,p.1=b∧(yT u h).get b=some p.2
 |[],_,_,_=> .inl rfl
 |p::u,h,b,hu=> by
  obtain ⟨y,hy⟩:=hu p (by simp)
  have ih := Fh u (h.set p.1 p.2) b (fun q hq => by
   obtain ⟨z,hz⟩:=hu q (List.mem_cons_of_mem _ hq)
   by_cases e:p.1=q.1
   ·rw [←e]; exact ⟨_,Heap.get_set_self hy⟩
   ·exact ⟨z,(Heap.get_set_ne e).trans hz⟩)
  show (yT u (h.set p.1 p.2)).get b=h.get b∨∃q∈p::u,q.1=b∧(yT u (h.set p.1 p.2)).get b=some q.2
  rcases ih with ih | ⟨q,hq,e,ih⟩
  ·by_cases e:p.1=b
   ·subst e
    exact .inr ⟨p,by simp,rfl,by rw [ih]; exact Heap.get_set_self hy⟩
   ·exact .inl (by rw [ih]; exact Heap.get_set_ne e)
  ·exact .inr ⟨q,List.mem_cons_of_mem _ hq,e,ih⟩
end
end Go.Abs

namespace Go.Abs
section
variable {P : Program} {G : Nat → List DV} {E : Env} {fP : AC → Fr → Heap → Res}

structure SOk (P:Program) (ops:Array Oper) (mu:List String) (me:String) (Lf:List DOp) (m:Nat):Prop where
 nod:((dstsOf Lf).map (·.1)).Nodup
 inj:∀x∈Lf,∀y∈Lf,x.no=y.no→x=y
 lt:∀x∈Lf,x.no < ops.size
 op:∀x∈Lf,x.o=aop P mu me ops (ops.getD x.no default)
 rsv:∀x∈Lf,∀r,x.rsv=some r→r < m∧zM x.o.op=true
 U7:∀x∈Lf,∀y∈Lf,∀r,x.rsv=some r→y.rsv=some r→x=y
 bnd:∀x∈Lf,∀j,vQ j x.bnd=true→((nI ops).getD x.no 0).testBit j=true

variable {ops : Array Oper} {mu : List String} {me : String} {Lf : List DOp} {m n0 : Nat} {tm0 : List AV} {frF : Fr} {hF : Heap} {pn : Option (Nat × AV × Heap)}

theorem H7.next (K:SOk P ops mu me Lf m) {d:DOp} {r:List DOp} {seen ef pend:Nat} {sn sn':List (Nat×Heap)} {fr:Fr} {h h':Heap} {v:AV} (C:H7 E fP ops.size n0 (nI ops) Lf tm0 frF hF pn (d::r) seen ef pend sn fr h)
  (hr:CR E fP n0 (nI ops) pn frF hF r sn' (lW fr d.o.dst v) h'):∃DR ef' Gv,DR=Nat.lor seen (2 ^ d.no)∧H7 E fP ops.size n0 (nI ops) Lf tm0 frF hF pn r DR ef' Gv sn' (lW fr d.o.dst v) h':=by
 obtain ⟨hh,hc⟩:=pV C.chk
 refine ⟨_,_,_,rfl,⟨hr,hc,fun i j hi hj=> ?_,fun x hx=> C.sub x (List.mem_cons_of_mem _ hx),fun x hx t ht=> ?_,fun t ht=> ?_,by rw [Fe]; exact C.len⟩⟩
 ·rw [nJ] at hi ⊢
  simp only [Bool.or_eq_true,decide_eq_true_eq] at hi ⊢
  rcases hi with hi | rfl
  ·exact .inl (C.cl _ _ hi hj)
  ·exact .inl (hh.bef j hj)
 ·rw [xH,if_neg]
  ·exact C.old x (List.mem_cons_of_mem _ hx) t ht
  ·intro e
   have:=CK K.nod (C.sub d (by simp)) (C.sub x (List.mem_cons_of_mem _ hx)) e.1 ht
   have h2:=ug hc x hx
   rw [nJ,this] at h2
   simp at h2
 ·rw [xH,if_neg]
  ·exact C.non t ht
  ·exact fun e=> ht d (C.sub d (by simp)) e.1

theorem FU {tm tm':List AV} {o:COp} {v:AV} {bnd:List Nat} (h:∀x∈o.xs,x.ev tm=x.ev tm'):∀l,pE E tm o v bnd l=pE E tm' o v bnd l:=by
 intro l
 induction l with
 |nil=> rfl
 |cons p r ih=>
  obtain ⟨j,hb⟩:=p
  simp only [pE,yJ (E:=E) (hp:=hb) h,ih]

def Gw (u:List (Nat×Blk)) (sn:List (Nat×Heap)):List (Nat×Heap):=sn.map fun p=> (p.1,yT u p.2)
theorem Nb (u:List (Nat×Blk)) (b:Nat) (x:Blk) (sn:List (Nat×Heap)):Gw u (Av b x sn)=Gw ((b,x)::u) sn:=by
 induction sn with
 |nil=> rfl
 |cons p r ih=>
  show (p.1,yT u (p.2.set b x))::Gw u (Av b x r)=_
  rw [ih]; rfl
theorem Nc (sn:List (Nat×Heap)):Gw [] sn=sn:=by
 induction sn with
 |nil=> rfl
 |cons p r ih=>
  show (p.1,p.2)::Gw [] r=_
  rw [ih]
def SV (ops:Array Oper) (Lf:List DOp) (tm0:List AV) (frF:Fr) (n0:Nat) (L:List DOp) (p:Nat×Blk):Prop:=
 ∃e∈L,∃q V tm',e.rsv=some q∧p.1=n0+q∧Agree (nI ops) (dstsOf Lf) tm0 frF.tmps e tm'∧wanted tm' e.o.guard=true∧pR e.o.op tm' (n0+q)=some (V,p.2)
def Says (E:Env) (ops:Array Oper) (Lf:List DOp) (tm0:List AV) (frF:Fr) (n0:Nat) (L:List DOp) (sn:List (Nat×Heap)) (d:DOp) (tm:List AV):Prop:=
  (wanted tm d.o.guard=false→∀t,d.o.dst=some t→t < tm0.length→getL frF.tmps t= .und)∧
  (wanted tm d.o.guard=true→d.eff=false→∀r,d.rsv=some r→∃v blk,pR d.o.op tm (n0+r)=some (v,blk)∧∀t,d.o.dst=some t→t < tm0.length→getL frF.tmps t=v)∧
  (wanted tm d.o.guard = true → d.eff = false → d.rsv = none → still d.o.op = true ∧ ∃ v CO upd h1 h',gI d.o.op E h1 tm = .val v h' ∧ (mI tm d.o.op = true → pE E tm d.o.op v d.bnd (CO ++ Gw upd sn) = true) ∧
   (∀p∈CO,∃e∈L,e.no=p.1∧e.eff=true∧∀tm',Agree (nI ops) (dstsOf Lf) tm0 frF.tmps e tm'→wanted tm' e.o.guard=true)∧(∀p∈upd,SV ops Lf tm0 frF n0 L p)∧∀t,d.o.dst=some t→t < tm0.length→getL frF.tmps t=v)

theorem BL (K:SOk P ops mu me Lf m):∀(L:List DOp) (seen ef pend:Nat) (sn:List (Nat×Heap)) (fr:Fr) (h:Heap),H7 E fP ops.size n0 (nI ops) Lf tm0 frF hF pn L seen ef pend sn fr h→∀d∈L,(∀p v x,pn=some (p,v,x)→d.no≠p∧((nI ops).getD d.no 0).testBit p=false)→∀tm,Agree (nI ops) (dstsOf Lf) tm0 frF.tmps d tm→
  Says E ops Lf tm0 frF n0 L sn d tm:=by
 intro L
 induction L with
 |nil=> intro seen ef pend sn fr h _ d hd; cases hd
 |cons x r ih=>
  intro seen ef pend sn fr h C d hd hgn tm hag
  have hax:=C.agree K.nod K.inj K.lt
  have hrun:=C.run
  -- the acR value in the end
  have hend:∀v sn' h',CR E fP n0 (nI ops) pn frF hF r sn' (lW fr x.o.dst v) h'→∀t,x.o.dst=some t→t < tm0.length→getL frF.tmps t=v:=by
   intro v sn' h' hr t ht hlt
   obtain ⟨_,_,_,_,C'⟩:=C.next K hr
   rw [(run_end _ _ _ _ hr).2.2.2 t (fun y hy e=> ?_),xH,if_pos ⟨ht,by rw [C.len]; exact hlt⟩]
   have:=CK K.nod (C.sub x (by simp)) (C'.sub y hy) ht e
   have h2:=ug (pV C.chk).2 y hy
   rw [nJ,this] at h2
   simp at h2
  rcases List.mem_cons.1 hd with hdx | hd
  ·subst hdx
   have hev:=hag.ev hax
   have hwt:=hag.wanted hax
   rcases hrun.Fg with ⟨w1,h1⟩ | ⟨w1,w2,q,w3,v,blk,w4,h1⟩ | ⟨w1,w2,w3,w4,v,h',w5,w6,h1⟩ | ⟨w1,w2,v,h',h1,_⟩ | ⟨⟨p,v,y,w1,w2⟩,h1⟩
   ·refine ⟨fun _=> hend _ _ _ h1,fun hw=> ?_,fun hw=> ?_⟩
    ·rw [hwt,w1] at hw; cases hw
    ·rw [hwt,w1] at hw; cases hw
   ·refine ⟨fun hw=> ?_,fun _ _ r' hr'=> ?_,fun _ _ hr'=> ?_⟩
    ·rw [hwt,w1] at hw; cases hw
    ·rw [w3] at hr'; cases hr'
     exact ⟨v,blk,by rw [CG hev]; exact w4,hend _ _ _ h1⟩
    ·rw [w3] at hr'; cases hr'
   ·refine ⟨fun hw=> ?_,fun _ _ r' hr'=> ?_,fun _ _ _=> ⟨w4,v,[],[],h,h',by rw [yJ hev]; exact w5,fun hd=> ?_,(fun p hp=> by cases hp),(fun p hp=> by cases hp),hend _ _ _ h1⟩⟩
    ·rw [hwt,w1] at hw; cases hw
    ·rw [w3] at hr'; cases hr'
    ·rw [Nc,List.nil_append,FU hev]
     exact w6 (by rw [←FQ hev]; exact hd)
   ·refine ⟨fun hw=> ?_,fun _ he=> ?_,fun _ he=> ?_⟩
    ·rw [hwt,w1] at hw; cases hw
    ·rw [w2] at he; cases he
    ·rw [w2] at he; cases he
   ·obtain ⟨g1,g2⟩:=hgn _ _ _ w1
    rcases w2 with w2 | w2
    ·rw [g2] at w2; cases w2
    ·exact absurd w2 g1
  ·
   have go:∀v sn' h',CR E fP n0 (nI ops) pn frF hF r sn' (lW fr x.o.dst v) h'→(sn'=sn∨((∃h2,sn'=(x.no,h2)::sn)∧x.eff=true∧wanted fr.tmps x.o.guard=true)∨∃q V blk,sn'=Av (n0+q) blk sn∧x.rsv=some q∧wanted fr.tmps x.o.guard=true∧pR x.o.op fr.tmps (n0+q)=some (V,blk))→Says E ops Lf tm0 frF n0 (x::r) sn d tm:=by
    intro v sn' h' hr hsn
    obtain ⟨_,_,_,_,C'⟩:=C.next K hr
    obtain ⟨i1,i2,i3⟩:=ih _ _ _ _ _ _ C' d hd hgn tm hag
    refine ⟨i1,i2,fun a1 a2 a3=> ?_⟩
    obtain ⟨j1,v2,CO,upd,hh1,hh2,j2,j3,j4,j6,j5⟩:=i3 a1 a2 a3
    refine ⟨j1,v2,?_⟩
    have up:∀p∈upd,SV ops Lf tm0 frF n0 (x::r) p:=fun p hp=> by
     obtain ⟨e,q1,q2⟩:=j6 p hp
     exact ⟨e,List.mem_cons_of_mem _ q1,q2⟩
    have sw:∀p∈CO,∃e∈x::r,e.no=p.1∧e.eff=true∧∀tm',Agree (nI ops) (dstsOf Lf) tm0 frF.tmps e tm'→wanted tm' e.o.guard=true:=fun p hp=> by
     obtain ⟨e,q1,q2⟩:=j4 p hp
     exact ⟨e,List.mem_cons_of_mem _ q1,q2⟩
    rcases hsn with rfl | ⟨⟨h2,rfl⟩,he,hwx⟩ | ⟨q,V,blk,rfl,hq,hwx,hpu⟩
    ·exact ⟨CO,upd,hh1,hh2,j2,j3,sw,up,j5⟩
    ·refine ⟨CO++ [(x.no,yT upd h2)],upd,hh1,hh2,j2,fun hd=> ?_,fun p hp=> ?_,up,j5⟩
     ·rw [List.append_assoc]; exact j3 hd
     ·rcases List.mem_append.1 hp with hp | hp
      ·exact sw p hp
      ·have:p=(x.no,yT upd h2):=by simpa using hp
       subst this
       exact ⟨x,by simp,rfl,he,fun tm' Sa=> by rw [Sa.wanted hax]; exact hwx⟩
    ·refine ⟨CO,(n0+q,blk)::upd,hh1,hh2,j2,fun hd=> by rw [←Nb]; exact j3 hd,sw,fun p hp=> ?_,j5⟩
     rcases List.mem_cons.1 hp with rfl | hp
     ·exact ⟨x,by simp,q,V,fr.tmps,hq,rfl,hax,hwx,hpu⟩
     ·exact up p hp
   rcases hrun.Fg with ⟨w1,h1⟩ | ⟨w1,w2,q,w3,v,blk,w4,h1⟩ | ⟨w1,w2,w3,w4,v,h',w5,w6,h1⟩ | ⟨w1,w2,v,h',h1,_⟩ | ⟨⟨p,v,y,w1,w2⟩,h1⟩
   ·exact go _ _ _ h1 (.inl rfl)
   ·exact go _ _ _ h1 (.inr (.inr ⟨q,v,blk,rfl,w3,w1,w4⟩))
   ·exact go _ _ _ h1 (.inl rfl)
   ·exact go _ _ _ h1 (.inr (.inl ⟨⟨_,rfl⟩,w2,w1⟩))
   ·exact go _ _ _ h1 (.inl rfl)

def Made (ops:Array Oper) (Lf:List DOp) (tm0:List AV) (frF:Fr) (n0 s0:Nat) (d:DOp) (r:Nat) (cx:Cx) (h:Heap) (w:World):Prop:=
 ∃(c:Nat) (e:TypeId) (cs:List AV) (arr:Array Value),cx.ρ (n0+r)=some (c,0)∧s0≤c∧w.heap[c]? =some (.cells arr e (0,0))∧(∀b,¬jE cx h b c)∧(∀o,¬cx.Z c o∧¬cx.B c o)∧
  (∀i (hi:i < cs.length),i < arr.size∧bY cx w cs[i] (arr.getD i undef))∧∀tm,Agree (nI ops) (dstsOf Lf) tm0 frF.tmps d tm→∃V,pR d.o.op tm (n0+r)=some (V,.cells false e cs)

theorem Made.stp {s0:Nat} {d:DOp} {r:Nat} {cx cx':Cx} {h h':Heap} {w w':World} (M:Made ops Lf tm0 frF n0 s0 d r cx h w) (S:Stp cx h w cx' h' w'):Made ops Lf tm0 frF n0 s0 d r cx' h' w':=by
 obtain ⟨c,e,cs,arr,m1,m2,m3,m4,m5,m6,m7⟩:=M
 have hlt:=(Array.getElem?_eq_some_iff.1 m3).1
 refine ⟨c,e,cs,arr,S.ext.ρ _ _ m1,m2,by rw [S.fr.kept c hlt m4]; exact m3,fun b ho=> ?_,fun o=> ⟨fun z=> ?_,fun z=> (m5 o).2 ((S.ext.B c o).2 z)⟩,fun i hi=> ⟨(m6 i hi).1,(m6 i hi).2.ext S.ext⟩,m7⟩
 ·obtain ⟨b',h1⟩:=S.fr.owns b c ho hlt
  exact m4 b' h1
 ·rcases S.fr.z c o z with h1 | h1 | ⟨b',h1⟩
  ·exact (m5 o).1 h1
  ·omega
  ·exact m4 b' h1

structure Aside (ops:Array Oper) (Lf:List DOp) (tm0:List AV) (frF:Fr) (n0 s0:Nat) (S:Nat→Bool) (L:List DOp) (cx:Cx) (h:Heap) (w:World):Prop where
 dead:∀d∈L,∀r,d.rsv=some r→h.get (n0+r)=some .dead
 none:∀d∈L,∀r,d.rsv=some r→S d.no=false→cx.ρ (n0+r)=none
 made:∀d∈L,∀r,d.rsv=some r→S d.no=true→(∃tm,Agree (nI ops) (dstsOf Lf) tm0 frF.tmps d tm∧wanted tm d.o.guard=true)→Made ops Lf tm0 frF n0 s0 d r cx h w
 dist:∀d∈L,∀d'∈L,∀r r' c,d.rsv=some r→d'.rsv=some r'→cx.ρ (n0+r)=some (c,0)→cx.ρ (n0+r')=some (c,0)→d=d'

theorem Aside.stp {s0:Nat} {S:Nat→Bool} {L:List DOp} {cx cx':Cx} {h h':Heap} {w w':World} (A:Aside ops Lf tm0 frF n0 s0 S L cx h w) (St:Stp cx h w cx' h' w'):Aside ops Lf tm0 frF n0 s0 S L cx' h' w':=by
 have hr:∀d∈L,∀r,d.rsv=some r→cx'.ρ (n0+r)=cx.ρ (n0+r):=fun d hd r hr=> St.fr.rr _ (Heap.kH (A.dead d hd r hr))
 exact {
  dead:=fun d hd r hr=> St.fr.dd _ (A.dead d hd r hr)
  none:=fun d hd r h1 hS=> by rw [hr d hd r h1]; exact A.none d hd r h1 hS
  made:=fun d hd r h1 hS hw=> (A.made d hd r h1 hS hw).stp St
  dist:=fun d hd d' hd' r r' c h1 h2 h3 h4=> A.dist d hd d' hd' r r' c h1 h2 (by rw [←hr d hd r h1]; exact h3) (by rw [←hr d' hd' r' h2]; exact h4)}

theorem lJ.owns {cx:Cx} {h h':Heap} {w:World} {s0:Nat} {fs:List (AV×List AV)} {ds:List Deferred} {c:Nat} {o:Obj} (hc:w.heap[c]? =some o) (ho:∀ds,o≠ .deferred ds) (hown:∀b c',jE cx h' b c'→(∃b',jE cx h b' c')∨c'=c) (D:lJ cx h w s0 fs ds):lJ cx h' w s0 fs ds:=by
 induction D with
 |nil=> exact .nil
 |mark r fs ds hm hn _ ih=>
  refine .mark r fs ds ⟨hm.1,hm.2.1,fun b hb=> ?_⟩ hn ih
  rcases hown b r hb with ⟨b',h1⟩ | h1
  ·exact hm.2.2 b' h1
  ·subst h1
   rw [hm.2.1] at hc
   cases hc
   exact ho _ rfl
 |call f args g fs' cs' args' fs ds hf hl ha _ ih=> exact .call f args g fs' cs' args' fs ds hf hl ha ih

def LX (P:Program) (G:Nat→List DV) (E:Env) (fP:AC→Fr→Heap→Res) (ops:Array Oper) (Lf:List DOp) (tm0:List AV) (frF:Fr) (hF:Heap) (pn:Option (Nat×AV×Heap)) (n0 s0:Nat) (S:Nat→Bool) (cx0:Cx) (h0:Heap) (w0:World) (cx:Cx) (w:World) (ds:List Deferred)
  (L2:List DOp):Prop:=
  ∃sn DR ef' Gv fr' h',H7 E fP ops.size n0 (nI ops) Lf tm0 frF hF pn L2 DR ef' Gv sn fr' h'∧Inv P [] G cx h' w∧Stp cx0 h0 w0 cx h' w∧lJ cx h' w s0 fr'.defs ds∧Aside ops Lf tm0 frF n0 w0.heap.size S L2 cx h' w∧
   (∀j,DR.testBit j=true→S j=true)

theorem BM (K:SOk P ops mu me Lf m) {S:Nat→Bool} {cx cx0:Cx} {h0:Heap} {w w0:World} {s0:Nat} {ds:List Deferred} {L2:List DOp} (hn0:h0.n=n0) (hcl:Cl (nI ops) S) (hnp:∀p v x,pn=some (p,v,x)→S p=false):∀(L1:List DOp) (seen ef pend:Nat) (sn:List (Nat×Heap)) (fr:Fr) (h:Heap),H7 E fP ops.size n0 (nI ops) Lf tm0 frF hF pn (L1++L2) seen ef pend sn fr h→
  (∀x∈L1,S x.no=true)→(∀x∈L1,x.eff=true→∀tm,Agree (nI ops) (dstsOf Lf) tm0 frF.tmps x tm→wanted tm x.o.guard=false)→Inv P [] G cx h w→Stp cx0 h0 w0 cx h w→lJ cx h w s0 fr.defs ds→Aside ops Lf tm0 frF n0 w0.heap.size S (L1++L2) cx h w→
  (∀j,seen.testBit j=true→S j=true)→
  LX P G E fP ops Lf tm0 frF hF pn n0 s0 S cx0 h0 w0 cx w ds L2:=by
 intro L1
 induction L1 with
 |nil=> intro seen ef pend sn fr h C _ _ I St D A hsn; exact ⟨sn,seen,ef,pend,fr,h,C,I,St,D,A,hsn⟩
 |cons x r ih=>
  intro seen ef pend sn fr h C hS hW I St D A hsn
  have hax:=C.agree K.nod K.inj K.lt
  have hrun:=C.run
  rw [List.cons_append] at hrun
  have hxS:=hS x (by simp)
  have abb:∀j,(Nat.lor seen (2 ^ x.no)).testBit j=true→S j=true:=by
   intro j hj
   rw [nJ] at hj
   simp only [Bool.or_eq_true,decide_eq_true_eq] at hj
   rcases hj with hj | rfl
   ·exact hsn j hj
   ·exact hxS
  have A' : Aside ops Lf tm0 frF n0 w0.heap.size S (r ++ L2) cx h w := ⟨fun d hd => A.dead d (List.mem_cons_of_mem _ hd),fun d hd => A.none d (List.mem_cons_of_mem _ hd),fun d hd => A.made d (List.mem_cons_of_mem _ hd),
   fun d hd d' hd'=> A.dist d (List.mem_cons_of_mem _ hd) d' (List.mem_cons_of_mem _ hd')⟩
  have same:∀v,CR E fP n0 (nI ops) pn frF hF (r++L2) sn (lW fr x.o.dst v) h→LX P G E fP ops Lf tm0 frF hF pn n0 s0 S cx0 h0 w0 cx w ds L2:=fun v h1=> by
   obtain ⟨_,_,_,rfl,C'⟩:=C.next K h1
   exact ih _ _ _ _ _ _ C' (fun y hy=> hS y (List.mem_cons_of_mem _ hy)) (fun y hy=> hW y (List.mem_cons_of_mem _ hy)) I St (by rw [zo]; exact D) A' abb
  rcases hrun.Fg with ⟨w1,h1⟩ | ⟨w1,w2,q,w3,v,blk,w4,h1⟩ | ⟨w1,w2,w3,w4,v,h',w5,w6,h1⟩ | ⟨w1,w2,v,h',h1,_⟩ | ⟨⟨p,v,y,w1,w2⟩,h1⟩
  ·exact same _ h1
  ·obtain ⟨c,e,cs,arr,m1,m2,m3,m4,m5,m6,m7⟩:=A.made x (by simp) q w3 hxS ⟨fr.tmps,hax,w1⟩
   obtain ⟨V,hV⟩:=m7 fr.tmps hax
   rw [w4] at hV
   cases hV
   have abc:=A.dead x (by simp) q w3
   obtain ⟨J,oJ⟩:=I.PN abc m1 m3 m4 m5 m6
   obtain ⟨_,_,_,rfl,C'⟩:=C.next K h1
   have adK:=(Array.getElem?_eq_some_iff.1 m3).1
   have adL:h0.n≤h.n:=St.fr.hn
   have St':Stp cx0 h0 w0 cx (h.set (n0+q) (.cells false e cs)) w∨True:= .inr trivial
   have hdf:=lJ.owns (h':=h.set (n0+q) (.cells false e cs)) m3 (fun ds=> by simp) (fun b c' ho=> (oJ b c' ho).imp (fun h=> ⟨b,h⟩) id) D
   have hne:∀d∈r++L2,∀q',d.rsv=some q'→q'≠q:=by
    intro d hd q' hq' e'
    subst e'
    have:=K.U7 d (C.sub d (List.mem_cons_of_mem _ hd)) x (C.sub x (by simp)) q' hq' w3
    subst this
    have h2:=ug (pV C.chk).2 d hd
    rw [nJ] at h2
    simp at h2
   refine ih _ _ _ _ _ _ C' (fun y hy=> hS y (List.mem_cons_of_mem _ hy)) (fun y hy=> hW y (List.mem_cons_of_mem _ hy)) J ?_ (by rw [zo]; exact hdf) ?_ abb
   ·exact ⟨St.ext,⟨St.fr.kept,fun b c' ho hlt => by
     rcases oJ b c' ho with h2 | h2
     ·exact St.fr.owns b c' h2 hlt
     ·omega,St.fr.z,by rw [Heap.Cj]; exact St.fr.hn,fun b hb=> by
     have hd:=St.fr.dd b hb
     have:n0+q≠b:=fun e'=> by have:=Heap.kH hb; omega
     rw [Heap.get_set_ne this]; exact hd,St.fr.rr⟩⟩
   ·exact {
     dead:=fun d hd r' hr'=> by rw [Heap.get_set_ne (fun e'=> hne d hd r' hr' (by omega))]; exact A'.dead d hd r' hr'
     none:=A'.none
     made:=fun d hd r' hr' hSd hw=> by
      obtain ⟨c2,e2,cs2,FE,k1,k2,k3,k4,k5,k6,k7⟩:=A'.made d hd r' hr' hSd hw
      refine ⟨c2,e2,cs2,FE,k1,k2,k3,fun b ho=> ?_,k5,k6,k7⟩
      rcases oJ b c2 ho with h2 | h2
      ·exact k4 b h2
      ·subst h2
       have:=A.dist d (List.mem_cons_of_mem _ hd) x (by simp) r' q c2 hr' w3 k1 m1
       subst this
       have h3:=ug (pV C.chk).2 d hd
       rw [nJ] at h3
       simp at h3
     dist:=A'.dist}
  ·exact same _ h1
  ·have:=hW x (by simp) w2 fr.tmps hax
   rw [this] at w1; cases w1
  ·have h2:=hnp _ _ _ w1
   rcases w2 with w2 | w2
   ·rw [hcl _ _ hxS w2] at h2; cases h2
   ·rw [←w2,hxS] at h2; cases h2
end
end Go.Abs

namespace Go.Abs
section
variable {P : Program} {G : Nat → List DV} {E : Env} {fP : AC → Fr → Heap → Res} {mu : List String} {me : String} {ops : Array Oper}

theorem JD {j:Nat}:∀{l:List Nat},vQ j l=true→j∈l:=by
 intro l
 induction l with
 |nil=> intro h; cases h
 |cons a r ih=>
  intro h
  simp only [vQ] at h
  split at h
  ·rename_i e; rw [m_ e]; simp
  ·exact List.mem_cons_of_mem _ (ih h)

theorem PS (b : List Nat) : ∀ (is ef : List Nat) (q : Nat), (∀ x ∈ dMk P mu me ops b is ef q, x.o = aop P mu me ops (ops.getD x.no default) ∧ (∀ r, x.rsv = some r → q ≤ r ∧ r < q + y_ (dMk P mu me ops b is ef q) ∧ zM x.o.op = true) ∧
      (∀j,vQ j x.bnd=true→(b.getD x.no 0).testBit j=true))∧
    ∀x∈dMk P mu me ops b is ef q,∀y∈dMk P mu me ops b is ef q,∀r,x.rsv=some r→y.rsv=some r→x=y:=by
  intro is
  induction is with
  |nil=> intro ef q; exact ⟨(fun x hx=> by cases hx),(fun x hx=> by cases hx)⟩
  |cons i r ih=>
    intro ef q
    unfold dMk
    simp only
    split
    · obtain ⟨h1,h2⟩:=ih (i::ef) q
      have hn:y_ (⟨aop P mu me ops (ops.getD i default),i,true,[],none⟩::dMk P mu me ops b r (i::ef) q)=y_ (dMk P mu me ops b r (i::ef) q):=by simp [y_]
      refine ⟨fun x hx=> ?_,fun x hx y hy k hk hk'=> ?_⟩
      · rw [hn]
        rcases List.mem_cons.1 hx with rfl | hx
        · exact ⟨rfl,(fun r hr=> by cases hr),(fun j hj=> by cases hj)⟩
        · exact h1 x hx
      · rcases List.mem_cons.1 hx with rfl | hx
        · cases hk
        · rcases List.mem_cons.1 hy with rfl | hy
          · cases hk'
          · exact h2 x hx y hy k hk hk'
    · split
      · rename_i hp
        obtain ⟨h1,h2⟩:=ih ef (q+1)
        have hn:y_ (⟨aop P mu me ops (ops.getD i default),i,false,ef.filter (fun j=> Nat.testBit (b.getD i 0) j),some q⟩::dMk P mu me ops b r ef (q+1))=y_ (dMk P mu me ops b r ef (q+1))+1:=by simp [y_]
        refine ⟨fun x hx=> ?_,fun x hx y hy k hk hk'=> ?_⟩
        · rw [hn]
          rcases List.mem_cons.1 hx with rfl | hx
          · exact ⟨rfl,(fun r hr=> by cases hr; exact ⟨Nat.le_refl _,by omega,hp⟩),fun j hj=> (List.mem_filter.1 (JD hj)).2⟩
          · obtain ⟨a1,a2,a3⟩:=h1 x hx
            exact ⟨a1,(fun r hr=> by obtain ⟨b1,b2,b3⟩:=a2 r hr; exact ⟨by omega,by omega,b3⟩),a3⟩
        · rcases List.mem_cons.1 hx with rfl | hx <;> rcases List.mem_cons.1 hy with rfl | hy
          · rfl
          · cases hk
            have:=((h1 y hy).2.1 _ hk').1
            omega
          · cases hk'
            have:=((h1 x hx).2.1 _ hk).1
            omega
          · exact h2 x hx y hy k hk hk'
      · obtain ⟨h1,h2⟩:=ih ef q
        have hn:y_ (⟨aop P mu me ops (ops.getD i default),i,false,ef.filter (fun j=> Nat.testBit (b.getD i 0) j),none⟩::dMk P mu me ops b r ef q)=y_ (dMk P mu me ops b r ef q):=by simp [y_]
        refine ⟨fun x hx=> ?_,fun x hx y hy k hk hk'=> ?_⟩
        · rw [hn]
          rcases List.mem_cons.1 hx with rfl | hx
          · refine ⟨rfl,(fun r hr=> by cases hr),fun j hj=> ?_⟩
            have:=JD hj
            exact (List.mem_filter.1 this).2
          · exact h1 x hx
        · rcases List.mem_cons.1 hx with rfl | hx
          · cases hk
          · rcases List.mem_cons.1 hy with rfl | hy
            · cases hk'
            · exact h2 x hx y hy k hk hk'

theorem U8 (hc:Oz ops.size (nI ops) (DZ P mu me ops)=true):SOk P ops mu me (DZ P mu me ops) (y_ (DZ P mu me ops)):=by
 simp only [Oz,Bool.and_eq_true] at hc
 obtain ⟨h1,h2⟩:=PS (P:=P) (mu:=mu) (me:=me) (ops:=ops) (nI ops) (Oy ops) [] 0
 exact {
  nod:=JC hc.1
  inj:=R7 hc.2
  lt:=U2 hc.2
  op:=fun x hx=> (h1 x hx).1
  rsv:=fun x hx r hr=> by
   obtain ⟨_,a2,a3⟩:=(h1 x hx).2.1 r hr
   rw [Nat.zero_add] at a2
   exact ⟨a2,a3⟩
  U7:=h2
  bnd:=fun x hx=> (h1 x hx).2.2}

theorem Nf {n:Nat} {b:List Nat} {rJ:List (Nat×Nat)}:∀{L:List DOp} {seen ef pend:Nat},qX n b rJ L seen ef pend=true→∀d∈L,∀t∈tmpsOf d,∀j,(t,j)∈rJ→(b.getD d.no 0).testBit j=true∨(b.getD j 0).testBit d.no=true∨j=d.no:=by
 intro L
 induction L with
 |nil=> intro seen ef pend _ d hd; cases hd
 |cons x r ih=>
  intro seen ef pend h d hd
  obtain ⟨hh,hr⟩:=pV h
  rcases List.mem_cons.1 hd with rfl | hd
  ·exact hh.looks
  ·exact ih hr d hd

theorem JE {l:List AV} {t:Nat} (h:l.length≤t):getL l t= .und:=by rw [yD]; simp [List.getD,List.getElem?_eq_none h]

structure JF (Lf:List DOp) (tm0 tmF:List AV) (S:Nat→Bool) (tm:List AV):Prop where
 len:tm.length=tm0.length
 U9:tmF.length=tm0.length
 don:∀d∈Lf,∀t,d.o.dst=some t→S d.no=true→getL tm t=getL tmF t
 old:∀d∈Lf,∀t,d.o.dst=some t→S d.no=false→getL tm t=getL tm0 t
 non:∀t,(∀d∈Lf,d.o.dst≠some t)→getL tm t=getL tm0 t

def JG (tm:List AV) (o:Option Nat) (x:AV):List AV:=(lW ⟨tm,[],none⟩ o x).tmps
theorem PT (tm:List AV) (o:Option Nat) (x:AV):(JG tm o x).length=tm.length:=Fe _ _ _
theorem Dq (tm:List AV) (o:Option Nat) (x:AV) (t:Nat):getL (JG tm o x) t=if o=some t∧t < tm.length then x else getL tm t:=xH _ _ _ _

theorem JF.put {m:Nat} {Lf:List DOp} (K:SOk P ops mu me Lf m) {tm0 tmF:List AV} {S:Nat→Bool} {tm:List AV} (T:JF Lf tm0 tmF S tm) {d:DOp} (hd:d∈Lf) {v:AV} (hv:∀t,d.o.dst=some t→t < tm0.length→getL tmF t=v):
  JF Lf tm0 tmF (fun j=> S j || decide (j=d.no)) (JG tm d.o.dst v):=by
 refine ⟨by rw [PT]; exact T.len,T.U9,fun x hx t ht hS=> ?_,fun x hx t ht hS=> ?_,fun t ht=> ?_⟩
 ·rw [Dq]
  simp only [Bool.or_eq_true,decide_eq_true_eq] at hS
  by_cases e:d.o.dst=some t
  ·by_cases hl:t < tm.length
   ·rw [if_pos ⟨e,hl⟩,hv t e (by rw [←T.len]; exact hl)]
   ·rw [if_neg (fun h=> hl h.2),JE (by omega),JE (by rw [T.U9,←T.len]; omega)]
  ·rw [if_neg (fun h=> e h.1)]
   rcases hS with hS | hS
   ·exact T.don x hx t ht hS
   ·have:=K.inj x hx d hd hS
    subst this
    exact absurd ht e
 ·simp only [Bool.or_eq_false_iff,decide_eq_false_iff_not] at hS
  rw [Dq,if_neg]
  ·exact T.old x hx t ht hS.1
  ·intro h
   exact hS.2 (CK K.nod hx hd ht h.1)
 ·rw [Dq,if_neg]
  ·exact T.non t ht
  ·exact fun h=> ht d hd h.1

theorem JF.agree {m:Nat} {Lf:List DOp} (_K:SOk P ops mu me Lf m) (hc:qX ops.size (nI ops) (dstsOf Lf) Lf 0 0 0=true) {tm0 tmF:List AV} {S:Nat→Bool} {tm:List AV} (T:JF Lf tm0 tmF S tm) (hcl:Cl (nI ops) S) {d:DOp} (hd:d∈Lf) (hS:S d.no=false)
  (hb:∀j,((nI ops).getD d.no 0).testBit j=true→S j=true):Agree (nI ops) (dstsOf Lf) tm0 tmF d tm:=by
 intro t ht
 refine ⟨fun ⟨j,hj,hbj⟩=> ?_,fun hnone=> ?_⟩
 ·obtain ⟨x,hx,e1,e2⟩:=DL hj
  exact T.don x hx t e2 (by rw [e1]; exact hb j hbj)
 ·by_cases hw:∃x∈Lf,x.o.dst=some t
  ·obtain ⟨x,hx,e⟩:=hw
   have hm:=CJ hx e
   refine T.old x hx t e ?_
   rcases Nf hc d hd t ht _ hm with h1 | h1 | h1
   ·rw [hnone _ hm] at h1; cases h1
   ·cases hq:S x.no with
    |false=> rfl
    |true=> rw [hcl _ _ hq h1] at hS; cases hS
   ·rw [h1]; exact hS
  ·exact T.non t (fun x hx e=> hw ⟨x,hx,e⟩)

theorem JF.final {Lf:List DOp} {tm0 tmF:List AV} {S:Nat→Bool} {tm:List AV} (T:JF Lf tm0 tmF S tm) (hS:∀d∈Lf,S d.no=true) (hn:∀t,(∀d∈Lf,d.o.dst≠some t)→getL tmF t=getL tm0 t) (t:Nat):getL tm t=getL tmF t:=by
 by_cases hw:∃x∈Lf,x.o.dst=some t
 ·obtain ⟨x,hx,e⟩:=hw
  exact T.don x hx t e (hS x hx)
 ·have:∀d∈Lf,d.o.dst≠some t:=fun x hx e=> hw ⟨x,hx,e⟩
  rw [T.non t this,hn t this]

theorem uF.put {cx:Cx} {w:World} {tm:List AV} {a:Act} (h:uF cx w tm a.tmps) (o:Option Nat) {x:AV} {v:Value} (hv:bY cx w x v):uF cx w (JG tm o x) (a.put o v).tmps:=by
 cases o with
 |none=> exact h
 |some d=> exact h.set d hv

theorem Act.put_defers (a:Act) (o:Option Nat) (v:Value):(a.put o v).defers=a.defers:=by cases o <;> rfl

theorem JH {tm:List AV} {o:COp} {v:AV} {bnd:List Nat} {j:Nat} {h:Heap} {sn:List (Nat×Heap)}:∀(CO:List (Nat×Heap)),pE E tm o v bnd (CO++(j,h)::sn)=true→(∀p∈CO,vQ p.1 bnd=false)→∃h',gI o E h tm= .val v h':=by
 intro CO
 induction CO with
 |nil=>
  intro hr _
  simp only [List.nil_append,pE] at hr
  split at hr
  ·rename_i v' h' hs
   split at hr
   ·rename_i he
    rw [hs,xG he]; exact ⟨_,rfl⟩
   ·cases hr
  ·cases hr
 |cons p r ih=>
  obtain ⟨i,hb⟩:=p
  intro hr hm
  simp only [List.cons_append,pE] at hr
  have hp:=hm (i,hb) (by simp)
  simp only at hp
  rw [hp] at hr
  split at hr
  ·split at hr
   ·exact ih hr (fun q hq=> hm q (by simp [hq]))
   ·cases hr
  ·cases hr

theorem lJ.gen {cx cx':Cx} {h h':Heap} {w w':World} {s0:Nat} (he:Ext cx w cx' w') (hk:∀c,c < w.heap.size→(∀b,¬jE cx h b c)→w'.heap[c]? =w.heap[c]?) (ho:∀b c,jE cx' h' b c→c < w.heap.size→∃b',jE cx h b' c)
  {fs:List (AV×List AV)} {ds:List Deferred} (D:lJ cx h w s0 fs ds):lJ cx' h' w' s0 fs ds:=by
 induction D with
 |nil=> exact .nil
 |mark r fs ds hm hn _ ih=>
  obtain ⟨m1,m2,m3⟩:=hm
  have hlt:=(Array.getElem?_eq_some_iff.1 m2).1
  refine .mark r fs ds ⟨m1,by rw [hk r hlt m3]; exact m2,fun b hb=> ?_⟩ hn ih
  obtain ⟨b',h1⟩:=ho b r hb hlt
  exact m3 b' h1
 |call f args g fs' cs' args' fs ds hf hl ha _ ih=> exact .call f args g fs' cs' args' fs ds (hf.ext he) hl (fun i hi=> (ha i hi).ext he) ih
end
end Go.Abs

namespace Go.Abs
section
variable {P : Program} {G : Nat → List DV} {E : Env} {fP : AC → Fr → Heap → Res} {ops : Array Oper} {mu : List String} {me : String} {Lf : List DOp} {m n0 s0 : Nat} {tm0 : List AV} {frF : Fr} {hF : Heap} {pn : Option (Nat × AV × Heap)} {cx0 : Cx} {h0 : Heap} {w0 : World}

structure Aj (P:Program) (G:Nat→List DV) (E:Env) (fP:AC→Fr→Heap→Res) (ops:Array Oper) (Lf:List DOp) (tm0:List AV) (frF:Fr) (hF:Heap) (pn:Option (Nat×AV×Heap)) (n0 s0:Nat) (cx0:Cx) (h0:Heap) (w0:World)
  (S:Nat→Bool) (L:List DOp) (sn:List (Nat×Heap)) (fr:Fr) (tmS:List AV) (cx:Cx) (h:Heap) (w:World) (a:Act):Prop where
 can:∃seen ef pend,H7 E fP ops.size n0 (nI ops) Lf tm0 frF hF pn L seen ef pend sn fr h∧∀j,seen.testBit j=true→S j=true
 top:∃j sn',sn=(j,h)::sn'
 eff:∀x∈L,x.eff=true→S x.no=true→∃tm,Agree (nI ops) (dstsOf Lf) tm0 frF.tmps x tm∧wanted tm x.o.guard=false
 cl:Cl (nI ops) S
 np:∀p v x,pn=some (p,v,x)→S p=false
 I:Inv P [] G cx h w
 St:Stp cx0 h0 w0 cx h w
 D:lJ cx h w s0 fr.defs a.defers
 A:Aside ops Lf tm0 frF n0 w0.heap.size S L cx h w
 tm:JF Lf tm0 frF.tmps S tmS
 T:uF cx w tmS a.tmps

def more (S:Nat→Bool) (i:Nat):Nat→Bool:=fun j=> S j || decide (j=i)
theorem rH {S:Nat→Bool} {i j:Nat}:more S i j=true↔S j=true∨j=i:=by simp [more]
theorem vW {S:Nat→Bool} {i j:Nat}:more S i j=false↔S j=false∧j≠i:=by simp [more]

theorem Aside.more {S:Nat→Bool} {L:List DOp} {s1 i:Nat} {cx:Cx} {h:Heap} {w:World} (A:Aside ops Lf tm0 frF n0 s1 S L cx h w)
  (hd:∀d∈L,d.no=i→∀r,d.rsv=some r→¬∃tm,Agree (nI ops) (dstsOf Lf) tm0 frF.tmps d tm∧wanted tm d.o.guard=true):Aside ops Lf tm0 frF n0 s1 (more S i) L cx h w where
 dead:=A.dead
 none:=fun d hdL r hr hS=> A.none d hdL r hr (vW.1 hS).1
 made:=fun d hdL r hr hS hw=> by
  rcases rH.1 hS with h1 | h1
  ·exact A.made d hdL r hr h1 hw
  ·exact absurd hw (hd d hdL h1 r hr)
 dist:=A.dist

theorem LY {o:Oper}:(aop P mu me ops o).dst=o.dst:=by unfold aop; split <;> rfl

theorem Aj.find {S:Nat→Bool} {L:List DOp} {sn:List (Nat×Heap)} {fr:Fr} {tmS:List AV} {cx:Cx} {h:Heap} {w:World} {a:Act} (W:Aj P G E fP ops Lf tm0 frF hF pn n0 s0 cx0 h0 w0 S L sn fr tmS cx h w a) {i:Nat} (hi:i < ops.size) (hn:S i=false):
  ∃d∈L,d.no=i:=by
 obtain ⟨seen,ef,pend,C,hs⟩:=W.can
 rcases HZ C.chk i hi with h1 | h1
 ·rw [hs i h1] at hn; cases hn
 ·exact h1

theorem CP {S:Nat→Bool} {d:DOp} (np:∀p v x,pn=some (p,v,x)→S p=false) (hnp:∀p v x,pn=some (p,v,x)→p≠d.no) (hb:∀j,((nI ops).getD d.no 0).testBit j=true→S j=true):
  ∀p v x,pn=some (p,v,x)→d.no≠p∧((nI ops).getD d.no 0).testBit p=false:=fun p v x e=> ⟨fun e'=> hnp p v x e e'.symm,by
 cases h:((nI ops).getD d.no 0).testBit p with
 |false=> rfl
 |true=> have:=hb p h; rw [np p v x e] at this; cases this⟩

theorem KM (K:SOk P ops mu me Lf m) (hc0:qX ops.size (nI ops) (dstsOf Lf) Lf 0 0 0=true) {b:Frame} {S:Nat→Bool} {L:List DOp} {sn:List (Nat×Heap)} {fr:Fr} {tmS:List AV} {cx:Cx} {h:Heap} {w:World} {a:Act}
  (W:Aj P G E fP ops Lf tm0 frF hF pn n0 s0 cx0 h0 w0 S L sn fr tmS cx h w a) {d:DOp} (hd:d∈L) (hnp:∀p v x,pn=some (p,v,x)→p≠d.no) (hn:S d.no=false) (hb:∀j,((nI ops).getD d.no 0).testBit j=true→S j=true) (hw:wanted tmS d.o.guard=false):
  ∃L' sn' fr' x9 cx' h' w' a',Aj P G E fP ops Lf tm0 frF hF pn n0 s0 cx0 h0 w0 (more S d.no) L' sn' fr' x9 cx' h' w' a'∧
   ∀rest k cs,Steps P (lone (b.atR a (.inRegion ops (d.no::rest)::k)) cs w) (lone (b.atR a' (.inRegion ops rest::k)) cs w'):=by
 obtain ⟨seen,ef,pend,C,hs⟩:=W.can
 have hdf:=C.sub d hd
 have hag:=W.tm.agree K hc0 W.cl hdf hn hb
 obtain ⟨f1,_,_⟩:=BL K L seen ef pend sn fr h C d hd (CP W.np hnp hb) tmS hag
 have hi:=K.lt d hdf
 have ho:ops[d.no]? =some ops[d.no]:=Array.getElem?_eq_getElem hi
 have hod:ops.getD d.no default=ops[d.no]:=by rw [Array.getD_eq_getD_getElem?,ho]; rfl
 have hop:=K.op d hdf
 rw [hod] at hop
 refine ⟨L,sn,fr,JG tmS d.o.dst .und,cx,h,w,a.put d.o.dst undef,?_,fun rest k cs=> ?_⟩
 ·exact {
   can:=⟨seen,ef,pend,C,fun j hj=> rH.2 (.inl (hs j hj))⟩
   top:=W.top
   eff:=fun x hx he hS=> by
    rcases rH.1 hS with h1 | h1
    ·exact W.eff x hx he h1
    ·have:=K.inj x (C.sub x hx) d hdf h1
     subst this
     exact ⟨tmS,hag,hw⟩
   cl:=W.cl.add hb
   np:=fun p v x e=> vW.2 ⟨W.np p v x e,hnp p v x e⟩
   I:=W.I
   St:=W.St
   D:=by rw [Act.put_defers]; exact W.D
   A := W.A.more (fun x hx e r hr ⟨tm,h1,h2⟩ => by
    have:=K.inj x (C.sub x hx) d hdf e
    subst this
    rw [h1.wanted hag,hw] at h2
    cases h2)
   tm:=W.tm.put K hdf (f1 hw)
   T:=W.T.put _ .und}
 ·have hg:∃g,guardOf ops ops[d.no]=some g∧d.o.guard=g:=by
   unfold aop at hop
   split at hop
   ·rename_i g hg; exact ⟨g,hg,by rw [hop]⟩
   ·rw [hop] at hw; cases hw
  obtain ⟨g,hg,hg'⟩:=hg
  have hwant:=BH W.T hg
  rw [←hg',hw] at hwant
  have hs:=stepR_op_skip (P:=P) (b:=b) (a:=a) (k:=k) (cs:=cs) (w:=w) (ops:=ops) (i:=d.no) (rest:=rest) (by simp [ho,←hwant])
  simp only [ho,Option.bind_some] at hs
  have hdst:d.o.dst=ops[d.no].dst:=by rw [hop,LY]
  rw [hdst]
  exact .one hs

theorem LZ (K:SOk P ops mu me Lf m) {b:Frame} (hpl:b.roundOf.isSome=true→∀i,i < ops.size→q8 (ops.getD i default).op=true) {tmS:List AV} {cx:Cx} {w:World} {a:Act} (T:uF cx w tmS a.tmps) {d:DOp} (hdf:d∈Lf) (hw:wanted tmS d.o.guard=true)
  (hbad:d.o.op≠ .bad):∃(o:Oper) (c:COp),yS P mu me o=some c∧(allowed c || wW c)=true∧d.o.op=c∧
   (∀rest k cs,stepG P true {frame:=b.atR a (.inRegion ops (d.no::rest)::k),callers:=cs,status:= .running,dying:=none} w=stepG.apply P true (b.atR a (.inRegion ops (d.no::rest)::k)) cs none (execOp a.eval o) w)∧
   ∀rest k (a:Act) v,(b.atR a (.inRegion ops (d.no::rest)::k)).finish v=b.atR (a.put d.o.dst v) (.inRegion ops rest::k):=by
 have hi:=K.lt d hdf
 have ho:ops[d.no]? =some ops[d.no]:=Array.getElem?_eq_getElem hi
 have hod:ops.getD d.no default=ops[d.no]:=by rw [Array.getD_eq_getD_getElem?,ho]; rfl
 have hop:=K.op d hdf
 rw [hod] at hop
 have hpl:=fun hb=> hpl hb d.no hi
 rw [hod] at hpl
 have hdst:d.o.dst=ops[d.no].dst:=by rw [hop,LY]
 generalize hoo:ops[d.no]=o at ho hop hpl hdst
 unfold aop at hop
 split at hop
 ·rename_i g hg
  have e1:d.o.op=cOp P mu me o:=by rw [hop]
  have e2:d.o.guard=g:=by rw [hop]
  have hwant:=BH T hg
  rw [←e2,hw] at hwant
  rcases Jr (P:=P) (mu:=mu) (me:=me) (o:=o) with ⟨c,hc,hal,heq⟩ | heq
  ·refine ⟨o,c,hc,hal,by rw [e1,heq],fun rest k cs=> ?_,fun rest k a v=> ?_⟩
   ·rw [stepGR_op ho hwant.symm,semAt_plain hpl]
   ·rw [Frame.finish_atR,ho,hdst]; rfl
  ·rw [e1,heq] at hbad; exact absurd rfl hbad
 ·rw [hop] at hbad; exact absurd rfl hbad

theorem KN (K:SOk P ops mu me Lf m) (hc0:qX ops.size (nI ops) (dstsOf Lf) Lf 0 0 0=true) (hn0:h0.n=n0) {b:Frame} (hpl:b.roundOf.isSome=true→∀i,i < ops.size→q8 (ops.getD i default).op=true)
    {S:Nat→Bool} {L:List DOp} {sn:List (Nat×Heap)} {fr:Fr} {tmS:List AV} {cx:Cx} {h:Heap} {w:World} {a:Act}
    (W:Aj P G E fP ops Lf tm0 frF hF pn n0 s0 cx0 h0 w0 S L sn fr tmS cx h w a) {d:DOp} (hd:d∈L) (hnp:∀p v x,pn=some (p,v,x)→p≠d.no) (hn:S d.no=false) (hb:∀j,((nI ops).getD d.no 0).testBit j=true→S j=true) (hw:wanted tmS d.o.guard=true) (he:d.eff=false) {r:Nat} (hr:d.rsv=some r):
    ∃L' sn' fr' x9 cx' h' w' a',Aj P G E fP ops Lf tm0 frF hF pn n0 s0 cx0 h0 w0 (more S d.no) L' sn' fr' x9 cx' h' w' a'∧
      ∀rest k cs,Steps P (lone (b.atR a (.inRegion ops (d.no::rest)::k)) cs w) (lone (b.atR a' (.inRegion ops rest::k)) cs w'):=by
  obtain ⟨seen,ef,pend,C,hs⟩:=W.can
  have hdf:=C.sub d hd
  have hag:=W.tm.agree K hc0 W.cl hdf hn hb
  obtain ⟨_,f2,_⟩:=BL K L seen ef pend sn fr h C d hd (CP W.np hnp hb) tmS hag
  obtain ⟨v,blk,hp,hv⟩:=f2 hw he r hr
  have hip:=(K.rsv d hdf r hr).2
  obtain ⟨o,c,hc,hal,heq,hgo,hfin⟩:=LZ K (b:=b) hpl W.T hdf hw (by intro e; rw [e] at hip; cases hip)
  rw [heq] at hp hip
  obtain ⟨e,cs,arr,u,rfl,hrun,hcs,hvu⟩:=KE hc W.T hip hp
  have hρ:=W.A.none d hd r hr hn
  obtain ⟨J,X,oJ⟩:=W.I.assign (o:= .cells arr e (0,0)) (w':={w with heap:=w.heap.push (.cells arr e (0,0))}) (W.A.dead d hd r hr) hρ rfl
  generalize hw1:({w with heap:=w.heap.push (.cells arr e (0,0))}:World)=w1 at hrun J X hvu
  have abd:w1.heap=w.heap.push (.cells arr e (0,0)):=by rw [←hw1]
  have hold:∀c:Nat,c < w.heap.size→w1.heap[c]? =w.heap[c]? :=fun c hc=> by rw [abd,kZ _ _ _ hc]
  have hnew:w1.heap[w.heap.size]? =some (.cells arr e (0,0)):=by rw [abd]; simp
  have hsetρ:∀x,(cx.setρ (n0+r) (w.heap.size,0)).ρ x=if x=n0+r then some (w.heap.size,0) else cx.ρ x:=fun _=> rfl
  have acS:=hvu _ w1 (show (cx.setρ (n0+r) (w.heap.size,0)).ρ (n0+r)=some (w.heap.size,0) by rw [hsetρ,if_pos rfl])
  have hne:∀x∈L,∀q,x.rsv=some q→x.no≠d.no→n0+q≠n0+r:=by
    intro x hx q hq hxd e'
    have:q=r:=by omega
    subst this
    exact hxd (by rw [K.U7 x (C.sub x hx) d hdf q hq hr])
  have hs0:w0.heap.size≤w.heap.size:=W.St.ext.size
  refine ⟨L,sn,fr,JG tmS d.o.dst v,cx.setρ (n0+r) (w.heap.size,0),h,w1,a.put d.o.dst u,?_,fun rest k cs=> ?_⟩
  · exact {
      can:=⟨seen,ef,pend,C,fun j hj=> rH.2 (.inl (hs j hj))⟩
      top:=W.top
      eff:=fun x hx hxe hS=> by
        rcases rH.1 hS with h1 | h1
        · exact W.eff x hx hxe h1
        · have:=K.inj x (C.sub x hx) d hdf h1
          subst this
          rw [he] at hxe; cases hxe
      cl:=W.cl.add hb
      np:=fun p v x e=> vW.2 ⟨W.np p v x e,hnp p v x e⟩
      I:=J
      St := ⟨W.St.ext.trans X,⟨fun c hc ho => by rw [hold c (by omega)]; exact W.St.fr.kept c hc ho,fun b' c ho hc => W.St.fr.owns b' c (oJ b' c ho) hc,fun c o z => W.St.fr.z c o z,W.St.fr.hn,W.St.fr.dd,
        fun b' hb'=> by rw [hsetρ,if_neg (by omega)]; exact W.St.fr.rr b' hb'⟩⟩
      D:=by
        rw [Act.put_defers]
        exact W.D.gen X (fun c hc _=> hold c hc) (fun b' c ho _=> ⟨b',oJ b' c ho⟩)
      A := {
        dead:=W.A.dead
        none:=fun x hx q hq hS=> by
          obtain ⟨h1,h2⟩:=vW.1 hS
          rw [hsetρ,if_neg (hne x hx q hq h2)]
          exact W.A.none x hx q hq h1
        made:=fun x hx q hq hS hwx=> by
          by_cases hxd:x.no=d.no
          · have:=K.inj x (C.sub x hx) d hdf hxd
            subst this
            rw [hr] at hq
            cases hq
            refine ⟨w.heap.size,e,cs,arr,by rw [hsetρ,if_pos rfl],hs0,hnew,fun b' ho=> ?_,fun o'=> ⟨fun z=> ?_,fun z=> ?_⟩,fun i hi=> ⟨(hcs i hi).1,(hcs i hi).2.ext X⟩,fun tm htm=> ⟨v,?_⟩⟩
            · have:=jE.lt W.I (oJ b' _ ho); omega
            · have:=zlt W.I (c:=w.heap.size) (o:=o') (.inl z); omega
            · have:=zlt W.I (c:=w.heap.size) (o:=o') (.inr z); omega
            · rw [heq,CG (tm:=tm) (tm':=tmS) (by rw [←heq]; exact htm.ev hag)]; exact hp
          · have h1:S x.no=true:=by
              rcases rH.1 hS with h1 | h1
              · exact h1
              · exact absurd h1 hxd
            obtain ⟨c2,e2,cs2,FE,k1,k2,k3,k4,k5,k6,k7⟩:=W.A.made x hx q hq h1 hwx
            have hlt:=(Array.getElem?_eq_some_iff.1 k3).1
            exact ⟨c2,e2,cs2,FE,by rw [hsetρ,if_neg (hne x hx q hq hxd)]; exact k1,k2,by rw [hold c2 hlt]; exact k3,fun b' ho=> k4 b' (oJ b' _ ho),k5,fun i hi=> ⟨(k6 i hi).1,(k6 i hi).2.ext X⟩,k7⟩
        dist:=fun x hx y hy q q' c hq hq' h1 h2=> by
          rw [hsetρ] at h1 h2
          by_cases hxd:x.no=d.no
          · have:=K.inj x (C.sub x hx) d hdf hxd
            subst this
            by_cases hyd:y.no=x.no
            · exact (K.inj y (C.sub y hy) x hdf hyd).symm
            · rw [hr] at hq; cases hq
              rw [if_pos rfl] at h1
              rw [if_neg (hne y hy q' hq' hyd)] at h2
              cases h1
              have:=W.I.sep.lt _ _ _ h2
              omega
          · rw [if_neg (hne x hx q hq hxd)] at h1
            by_cases hyd:y.no=d.no
            · have:=K.inj y (C.sub y hy) d hdf hyd
              subst this
              rw [hr] at hq'; cases hq'
              rw [if_pos rfl] at h2
              cases h2
              have:=W.I.sep.lt _ _ _ h1
              omega
            · rw [if_neg (hne y hy q' hq' hyd)] at h2
              exact W.A.dist x hx y hy q q' c hq hq' h1 h2}
      tm:=W.tm.put K hdf hv
      T:=(W.T.ext X).put _ acS}
  · exact .one (step_lone_go (by rw [hgo,←hfin]; simp [stepG.apply,hrun]))

theorem JI (hE:EOk P G E) (K:SOk P ops mu me Lf m) (hc0:qX ops.size (nI ops) (dstsOf Lf) Lf 0 0 0=true) {b:Frame} (hpl:b.roundOf.isSome=true→∀i,i < ops.size→q8 (ops.getD i default).op=true)
    {S:Nat→Bool} {L:List DOp} {sn:List (Nat×Heap)} {fr:Fr} {tmS:List AV} {cx:Cx} {h:Heap} {w:World} {a:Act}
    (W:Aj P G E fP ops Lf tm0 frF hF pn n0 s0 cx0 h0 w0 S L sn fr tmS cx h w a) {d:DOp} (hd:d∈L) (hnp:∀p v x,pn=some (p,v,x)→p≠d.no) (hn:S d.no=false) (hb:∀j,((nI ops).getD d.no 0).testBit j=true→S j=true) (hw:wanted tmS d.o.guard=true) (he:d.eff=false) (hr:d.rsv=none):
    ∃L' sn' fr' x9 cx' h' w' a',Aj P G E fP ops Lf tm0 frF hF pn n0 s0 cx0 h0 w0 (more S d.no) L' sn' fr' x9 cx' h' w' a'∧
      ∀rest k cs,Steps P (lone (b.atR a (.inRegion ops (d.no::rest)::k)) cs w) (lone (b.atR a' (.inRegion ops rest::k)) cs w'):=by
  obtain ⟨seen,ef,pend,C,hs⟩:=W.can
  have hdf:=C.sub d hd
  have hag:=W.tm.agree K hc0 W.cl hdf hn hb
  obtain ⟨_,_,f3⟩:=BL K L seen ef pend sn fr h C d hd (CP W.np hnp hb) tmS hag
  obtain ⟨hst,v,CO,upd,h1,h',hsA,hro,hsn,hup,hv⟩:=f3 hw he hr
  obtain ⟨jt,snt,htop⟩:=W.top
  obtain ⟨o,c,hc,hal,heq,hgo,hfin⟩:=LZ K (b:=b) hpl W.T hdf hw (by intro e; rw [e] at hst; cases hst)
  have acT:allowed c=true:=by
    cases hl:wW c with
    |false=> simpa [hl] using hal
    |true=>
      rw [heq] at hst
      exfalso
      cases c <;> first | (simp [wW] at hl; done) | (simp [still] at hst; done)
  have go:∀cx1 w1,Inv P [] G cx1 h w1→Stp cx h w cx1 h w1→∀v',bY cx1 w1 v v'→(∀rest k cs,Steps P (lone (b.atR a (.inRegion ops (d.no::rest)::k)) cs w) (lone (b.atR (a.put d.o.dst v') (.inRegion ops rest::k)) cs w1))→
      ∃L' sn' fr' x9 cx' h' w' a',Aj P G E fP ops Lf tm0 frF hF pn n0 s0 cx0 h0 w0 (more S d.no) L' sn' fr' x9 cx' h' w' a'∧
        ∀rest k cs,Steps P (lone (b.atR a (.inRegion ops (d.no::rest)::k)) cs w) (lone (b.atR a' (.inRegion ops rest::k)) cs w'):=by
    intro cx1 w1 I1 S1 v' hv' hsteps
    refine ⟨L,sn,fr,JG tmS d.o.dst v,cx1,h,w1,a.put d.o.dst v',?_,hsteps⟩
    exact {
      can:=⟨seen,ef,pend,C,fun j hj=> rH.2 (.inl (hs j hj))⟩
      top:=W.top
      eff:=fun x hx hxe hS=> by
        rcases rH.1 hS with h1 | h1
        · exact W.eff x hx hxe h1
        · have:=K.inj x (C.sub x hx) d hdf h1
          subst this
          rw [he] at hxe; cases hxe
      cl:=W.cl.add hb
      np:=fun p v x e=> vW.2 ⟨W.np p v x e,hnp p v x e⟩
      I:=I1
      St:=W.St.trans S1
      D:=by rw [Act.put_defers]; exact W.D.stp S1
      A := (W.A.stp S1).more (fun x hx e r hr' _ => by
        have:=K.inj x (C.sub x hx) d hdf e
        subst this
        rw [hr] at hr'; cases hr')
      tm:=W.tm.put K hdf hv
      T:=(W.T.ext S1.ext).put _ hv'}
  have plain : gI d.o.op E h tmS = .val v h → ∃ L' sn' fr' x9 cx' h' w' a', Aj P G E fP ops Lf tm0 frF hF pn n0 s0 cx0 h0 w0 (more S d.no) L' sn' fr' x9 cx' h' w' a' ∧
        ∀rest k cs,Steps P (lone (b.atR a (.inRegion ops (d.no::rest)::k)) cs w) (lone (b.atR a' (.inRegion ops rest::k)) cs w'):=by
    intro hsA'
    rw [heq] at hsA'
    have hout:=Jm W.I hE.kQ hc acT W.T
    rw [hsA'] at hout
    obtain ⟨cx1,w1,I1,S1,hres⟩:=hout
    rcases hres with ⟨v',hrun,hv'⟩ | ⟨hrun,rfl⟩
    · exact go cx1 w1 I1 S1 v' hv' (fun rest k cs=> .one (step_lone_go (by rw [hgo,←hfin]; simp [stepG.apply,hrun])))
    · exact go cx1 w1 I1 S1 undef .und (fun rest k cs=> .one (step_lone_go (by rw [hgo,←hfin]; simp [stepG.apply,hrun])))
  cases hdp:mI tmS d.o.op with
  |false=> exact plain (by rw [HY (h1:=h1) hst hdp,hsA]; rfl)
  |true=>
    have hr1:=hro hdp
    rw [htop] at hr1
    obtain ⟨h2,h3⟩ := JH (h := yT upd h) CO hr1 (fun p hp => by
      cases hm:vQ p.1 d.bnd with
      |false=> rfl
      |true=>
        exfalso
        obtain ⟨x,hx,e1,e2,e3⟩:=hsn p hp
        have:=hb p.1 (K.bnd d hdf p.1 hm)
        obtain ⟨tm,t1,t2⟩:=W.eff x hx e2 (by rw [e1]; exact this)
        rw [e3 tm t1] at t2
        cases t2)
    obtain ⟨rb,hroot,hkind⟩:=R_ hdp
    rcases Fh upd h rb (fun p hp => by
      obtain ⟨e,heL,q,V,tm',hq,e1,_⟩:=hup p hp
      exact ⟨_,by rw [e1]; exact W.A.dead e heL q hq⟩) with hs | ⟨p,hp,e1,hs⟩
    · obtain ⟨h4,h5⟩:=hroot E _ _ _ _ hs h3
      exact plain (by rw [h5,KG hst h5])
    · obtain ⟨e,heL,q,V,tm',hq,e2,Sa,hw',hpu⟩:=hup p hp
      have hcells:∃e3 cs3,p.2= .cells false e3 cs3:=by
        have hip:=(K.rsv e (C.sub e heL) q hq).2
        generalize e.o.op=oo at hpu hip
        generalize p.2=blk at hpu
        cases oo <;> simp only [zM,Bool.false_eq_true] at hip
        all_goals
          revert hpu
          simp only [pR]
          repeat' split
          all_goals intro hpu
          all_goals first
            |(cases hpu; exact ⟨_,_,rfl⟩)
            |(cases hpu; done)
      rcases hkind with ⟨hrd,x,hxs,hxe⟩ | hno
      rotate_left
      · obtain ⟨e3,cs3,e4⟩:=hcells
        exact absurd h3 (hno E _ _ _ _ _ _ (by rw [hs,e4]))
      rw [heq] at hrd hxs h3 hroot
      obtain ⟨x2,u2,hx2,hv2⟩:=U6 hc hrd W.T
      rw [hxs] at hx2
      injection hx2 with hx2 _
      subst hx2
      have hρ:∃c2 base,cx.ρ rb=some (c2,base):=by
        rcases hxe with ⟨off,hxe⟩ | ⟨off,sz,n,m,ex,hxe⟩
        · rw [hxe] at hv2
          obtain ⟨c2,base,h4,_⟩:=hv2.q_
          exact ⟨c2,base,h4⟩
        · rw [hxe] at hv2
          cases hv2 with
          |sref _ _ _ _ _ _ c2 base cap a h4=> exact ⟨c2,base,h4⟩
      obtain ⟨c2,base,hρ⟩:=hρ
      have hrb:rb=n0+q:=by rw [←e1,e2]
      have hSe:S e.no=true:=by
        cases hq2:S e.no with
        |true=> rfl
        |false=>
          have:=W.A.none e heL q hq hq2
          rw [←hrb,hρ] at this; cases this
      obtain ⟨c3,e3,cs3,arr,m1,m2,m3,m4,m5,m6,m7⟩:=W.A.made e heL q hq hSe ⟨tm',Sa,hw'⟩
      obtain ⟨V2,hV2⟩:=m7 tm' Sa
      rw [hpu] at hV2
      injection hV2 with hV2
      injection hV2 with _ hV2
      obtain ⟨J,_⟩:=W.I.PN (W.A.dead e heL q hq) m1 m3 m4 m5 m6
      obtain ⟨h4,h5⟩:=hroot E (yT upd h) (h.set (n0+q) (.cells false e3 cs3)) _ _ (by rw [hs,hV2,hrb]; exact (Heap.get_set_self (W.A.dead e heL q hq)).symm) h3
      obtain ⟨v',hrun,hv'⟩:=Na J hE.kQ hc hrd W.T h5
      exact go cx w W.I (.refl _ _ _) v' hv' (fun rest k cs=> .one (step_lone_go (by rw [hgo,←hfin]; simp [stepG.apply,hrun])))
end
end Go.Abs

namespace Go.Abs
section
variable {P : Program} {G : Nat → List DV} {E : Env} {fP : AC → Fr → Heap → Res} {ops : Array Oper} {mu : List String} {me : String} {Lf : List DOp} {m n0 s0 : Nat} {tm0 : List AV} {frF : Fr} {hF : Heap} {pn : Option (Nat × AV × Heap)} {cx0 : Cx} {h0 : Heap} {w0 : World}

theorem Ng (hE:EOk P G E) (hC:yI P G E fP) (hR:xR P G fP) (K:SOk P ops mu me Lf m) (hc0:qX ops.size (nI ops) (dstsOf Lf) Lf 0 0 0=true) (hn0:h0.n=n0) {b:Frame}
  (hpl:b.roundOf.isSome=true→∀i,i < ops.size→q8 (ops.getD i default).op=true)
  {S:Nat→Bool} {L:List DOp} {sn:List (Nat×Heap)} {fr:Fr} {tmS:List AV} {cx:Cx} {h:Heap} {w:World} {a:Act}
  (W:Aj P G E fP ops Lf tm0 frF hF pn n0 s0 cx0 h0 w0 S L sn fr tmS cx h w a) {d:DOp} (hd:d∈L) (hnp:∀p v x,pn=some (p,v,x)→p≠d.no) (hn:S d.no=false) (hb:∀j,((nI ops).getD d.no 0).testBit j=true→S j=true) (hw:wanted tmS d.o.guard=true) (he:d.eff=true) (rest:List Nat) (k:List Item) (cs:List Frame):
  ∃L' sn' fr' x9 cx' h' w' a',Aj P G E fP ops Lf tm0 frF hF pn n0 s0 cx0 h0 w0 (more S d.no) L' sn' fr' x9 cx' h' w' a'∧
   Steps P (lone (b.atR a (.inRegion ops (d.no::rest)::k)) cs w) (lone (b.atR a' (.inRegion ops rest::k)) cs w'):=by
 obtain ⟨seen,ef,pend,C,hs⟩:=W.can
 have hdf:=C.sub d hd
 have hag:=W.tm.agree K hc0 W.cl hdf hn hb
 have hsub:=C.sub
 have heff:=W.eff
 obtain ⟨L1,L2,rfl⟩:=List.append_of_mem hd
 have hL1:=(DK W.cl hb he C.chk).2.1
 obtain ⟨sn1,DR,ef',Gv,fr',h',C',I',St',D',A',hs'⟩ := BM (G := G) (s0 := s0) (cx0 := cx0) (w0 := w0) K hn0 W.cl W.np L1 seen ef pend sn fr h C hL1 (fun x hx hxe tm htm => by
  obtain ⟨tm',t1,t2⟩:=heff x (List.mem_append_left _ hx) hxe (hL1 x hx)
  rw [htm.wanted t1]; exact t2) W.I W.St W.D W.A hs
 have hax:=C'.agree K.nod K.inj K.lt
 have hrun:=C'.run
 have hwx:wanted fr'.tmps d.o.guard=true:=by rw [hax.wanted hag]; exact hw
 rcases hrun.Fg with ⟨w1,h1⟩ | ⟨w1,w2,q,w3,v,blk,w4,h1⟩ | ⟨w1,w2,w3,w4,v,h2,w5,w6,h1⟩ | ⟨w1,w2,v,h2,h1,hst⟩ | ⟨⟨p,v,y,w1,w2⟩,h1⟩
 ·rw [hwx] at w1; cases w1
 ·rw [he] at w2; cases w2
 ·rw [he] at w2; cases w2
 rotate_left
 ·obtain ⟨g1,g2⟩:=CP W.np hnp hb _ _ _ w1
  rcases w2 with w2 | w2
  ·rw [g2] at w2; cases w2
  ·exact absurd w2 g1
 obtain ⟨_,ef2,abe,rfl,C2⟩:=C'.next K h1
 have hsA:gI d.o.op E h' fr'.tmps=gI d.o.op E h' tmS:=yJ (hax.ev hag)
 rw [hsA] at hst
 have hbad:d.o.op≠ .bad:=by
  intro e
  rw [e] at hst
  rcases hst with e | ⟨f,args,e,_⟩ | ⟨l,args,e,_⟩ <;> cases e
 obtain ⟨o,c,hc,hal,heq,hgo,hfin⟩:=LZ K (b:=b) hpl W.T hdf hw hbad
 rw [heq] at hst
 have abf:=Dk hE.lib I' hE.kQ hE.Fy hc hal W.T
 have hvF:∀t,d.o.dst=some t→t < tm0.length→getL frF.tmps t=v:=by
  intro t ht hlt
  rw [(run_end _ _ _ _ h1).2.2.2 t (fun y hy e=> ?_),xH,if_pos ⟨ht,by rw [C'.len]; exact hlt⟩]
  have:=CK K.nod hdf (C2.sub y hy) ht e
  have h2:=ug C2.chk y hy
  rw [nJ,this] at h2
  simp at h2
 have hnot:∀x∈L2,x.no≠d.no:=fun x hx e=> by
  have h2:=ug C2.chk x hx
  rw [nJ,e] at h2
  simp at h2
 have fin:∀cx1 w1 v',Inv P [] G cx1 h2 w1→Stp cx h' w cx1 h2 w1→bY cx1 w1 v v'→(Steps P (lone (b.atR a (.inRegion ops (d.no::rest)::k)) cs w) (lone (b.atR (a.put d.o.dst v') (.inRegion ops rest::k)) cs w1))→
   ∃L' sn' fr' x9 cx' h' w' a',Aj P G E fP ops Lf tm0 frF hF pn n0 s0 cx0 h0 w0 (more S d.no) L' sn' fr' x9 cx' h' w' a'∧
    Steps P (lone (b.atR a (.inRegion ops (d.no::rest)::k)) cs w) (lone (b.atR a' (.inRegion ops rest::k)) cs w'):=by
  intro cx1 w1 v' I1 S1 hv' hsteps
  refine ⟨L2,(d.no,h2)::sn1,lW fr' d.o.dst v,JG tmS d.o.dst v,cx1,h2,w1,a.put d.o.dst v',?_,hsteps⟩
  have A2 : Aside ops Lf tm0 frF n0 w0.heap.size S L2 cx h' w := ⟨fun d hd => A'.dead d (List.mem_cons_of_mem _ hd),fun d hd => A'.none d (List.mem_cons_of_mem _ hd),fun d hd => A'.made d (List.mem_cons_of_mem _ hd),
   fun d hd d' hd'=> A'.dist d (List.mem_cons_of_mem _ hd) d' (List.mem_cons_of_mem _ hd')⟩
  exact {
   can := ⟨_,ef2,abe,C2,fun j hj => by
    rw [nJ] at hj
    simp only [Bool.or_eq_true,decide_eq_true_eq] at hj
    exact rH.2 (hj.imp (hs' j) Eq.symm)⟩
   top:=⟨_,_,rfl⟩
   eff:=fun x hx hxe hS=> by
    rcases rH.1 hS with h1 | h1
    ·exact heff x (List.mem_append_right _ (List.mem_cons_of_mem _ hx)) hxe h1
    ·exact absurd h1 (hnot x hx)
   cl:=W.cl.add hb
   np:=fun p v x e=> vW.2 ⟨W.np p v x e,hnp p v x e⟩
   I:=I1
   St:=St'.trans S1
   D:=by rw [Act.put_defers,zo]; exact D'.stp S1
   A:=(A2.stp S1).more (fun x hx e=> absurd e (hnot x hx))
   tm:=W.tm.put K hdf hvF
   T:=(W.T.ext S1.ext).put _ hv'}
 rcases abf with hout | ⟨v0,h0',hs0,f,args',hrun,Kw⟩
 rotate_left
 ·have hst:gI c E h' tmS= .val v h2:=by
   rcases hst with e | ⟨f,args,e,_⟩ | ⟨l,args,e,_⟩
   ·exact e
   ·rw [hs0] at e; cases e
   ·rw [hs0] at e; cases e
  rw [hs0] at hst
  cases hst
  obtain ⟨_,w1,fr1,⟨cx1,v',I1,S1,hv,rfl⟩,hst,hfn,hlv⟩:=Kw (b.atR a (.inRegion ops (d.no::rest)::k)::cs)
  have henter:step P (lone (b.atR a (.inRegion ops (d.no::rest)::k)) cs w)= .next (lone (Frame.enter P f args' .normal) (b.atR a (.inRegion ops (d.no::rest)::k)::cs) w):=
   step_lone_go (by rw [hgo]; simp [stepG.apply,hrun,Frame.atR])
  have hleave:=step_leave_returned (c:=b.atR a (.inRegion ops (d.no::rest)::k)) (cs:=cs) hlv
  rw [hfin] at hleave
  exact fin cx1 w1 v' I1 S1 hv (.head henter (hst.trans (.one hleave)))
 rcases hst with hst | ⟨f,args,hst,hcall⟩ | ⟨l,args,hst,wR⟩
 ·rw [hst] at hout
  obtain ⟨cx1,w1,I1,S1,hres⟩:=hout
  rcases hres with ⟨v',hrun,hv'⟩ | ⟨hrun,rfl⟩
  ·exact fin cx1 w1 v' I1 S1 hv' (.one (step_lone_go (by rw [hgo,←hfin]; simp [stepG.apply,hrun])))
  ·exact fin cx1 w1 undef I1 S1 .und (.one (step_lone_go (by rw [hgo,←hfin]; simp [stepG.apply,hrun])))
 ·rw [hst] at hout
  obtain ⟨args',hrun,hl,ha⟩:=hout
  obtain ⟨hent,hcs⟩:=hC _ _ _ _ _ _ hcall cx w args' I' hl ha
  obtain ⟨cx1,w1,fr1,I1,S1,hst,hfn,hlv⟩:=hcs (b.atR a (.inRegion ops (d.no::rest)::k)::cs)
  rcases hlv with ⟨_,v',hv,hlv⟩ | ⟨_,e,_⟩
  ·have henter:step P (lone (b.atR a (.inRegion ops (d.no::rest)::k)) cs w)= .next (lone (Frame.enter P f args' .normal) (b.atR a (.inRegion ops (d.no::rest)::k)::cs) w):=
    step_lone_go (by rw [hgo]; simp [stepG.apply,hrun hent,Frame.atR])
   have hleave:=step_leave_returned (c:=b.atR a (.inRegion ops (d.no::rest)::k)) (cs:=cs) hlv
   rw [hfin] at hleave
   exact fin cx1 w1 v' I1 S1 hv (.head henter (hst.trans (.one hleave)))
  ·cases e
 ·rw [hst] at hout
  obtain ⟨args',hl,ha,hloop⟩:=hout
  obtain ⟨st,pd,f,tm',ps,asg,body,hg⟩:=Gn wR
  obtain ⟨c',Lp,zY,hL,hrun⟩:=hloop _ _ _ _ _ _ _ hg
  obtain ⟨hsz,hcs⟩:=hR _ _ _ _ _ _ wR cx w args' I' hl ha c' Lp zY hL
  obtain ⟨cx1,w1,I1,S1,hlv⟩:=hcs (b.atR a (.inRegion ops (d.no::rest)::k)) cs
  rcases hlv with ⟨_,v',hv,abg⟩ | ⟨_,e,_⟩
  ·have henter:step P (lone (b.atR a (.inRegion ops (d.no::rest)::k)) cs w)=
     .next (lone (Frame.round c' Lp.fn ((Lp.params.zip args').foldl (fun tmps (t,a)=> tmps.setIfInBounds t a) Lp.tmps) Lp.assign Lp.body .normal) (b.atR a (.inRegion ops (d.no::rest)::k)::cs) w):=
    step_lone_go (by rw [hgo]; simp [stepG.apply,hrun hsz,Frame.atR])
   rw [hfin] at abg
   exact fin cx1 w1 v' I1 S1 hv (.head henter abg)
  ·cases e

theorem abh (hE:EOk P G E) (hC:yI P G E fP) (hR:xR P G fP) (K:SOk P ops mu me Lf m) (hc0:qX ops.size (nI ops) (dstsOf Lf) Lf 0 0 0=true) (hn0:h0.n=n0) {b:Frame}
  (hpl:b.roundOf.isSome=true→∀i,i < ops.size→q8 (ops.getD i default).op=true)
  {S:Nat→Bool} {L:List DOp} {sn:List (Nat×Heap)} {fr:Fr} {tmS:List AV} {cx:Cx} {h:Heap} {w:World} {a:Act}
  (W:Aj P G E fP ops Lf tm0 frF hF pn n0 s0 cx0 h0 w0 S L sn fr tmS cx h w a) {i:Nat} (hi:i < ops.size) (hnp:∀p v x,pn=some (p,v,x)→p≠i) (hn:S i=false) (hb:∀j,((nI ops).getD i 0).testBit j=true→S j=true) (rest:List Nat) (k:List Item) (cs:List Frame):
  ∃L' sn' fr' x9 cx' h' w' a',Aj P G E fP ops Lf tm0 frF hF pn n0 s0 cx0 h0 w0 (more S i) L' sn' fr' x9 cx' h' w' a'∧
   Steps P (lone (b.atR a (.inRegion ops (i::rest)::k)) cs w) (lone (b.atR a' (.inRegion ops rest::k)) cs w'):=by
 obtain ⟨d,hd,rfl⟩:=W.find hi hn
 cases hw:wanted tmS d.o.guard with
 |false=>
  obtain ⟨L',sn',fr',x9,cx',h',w',a',h1,h2⟩:=KM (b:=b) K hc0 W hd hnp hn hb hw
  exact ⟨L',sn',fr',x9,cx',h',w',a',h1,h2 rest k cs⟩
 |true=>
  cases he:d.eff with
  |true=> exact Ng hE hC hR K hc0 hn0 hpl W hd hnp hn hb hw he rest k cs
  |false=>
   cases hr:d.rsv with
   |none=>
    obtain ⟨L',sn',fr',x9,cx',h',w',a',h1,h2⟩:=JI hE K hc0 hpl W hd hnp hn hb hw he hr
    exact ⟨L',sn',fr',x9,cx',h',w',a',h1,h2 rest k cs⟩
   |some r=>
    obtain ⟨L',sn',fr',x9,cx',h',w',a',h1,h2⟩:=KN K hc0 hn0 hpl W hd hnp hn hb hw he hr
    exact ⟨L',sn',fr',x9,cx',h',w',a',h1,h2 rest k cs⟩

theorem Nh (hE:EOk P G E) (hC:yI P G E fP) (K:SOk P ops mu me Lf m) (hc0:qX ops.size (nI ops) (dstsOf Lf) Lf 0 0 0=true) (hn0:h0.n=n0) {b:Frame}
  (hpl:b.roundOf.isSome=true→∀i,i < ops.size→q8 (ops.getD i default).op=true)
  {S:Nat→Bool} {L:List DOp} {sn:List (Nat×Heap)} {fr:Fr} {tmS:List AV} {cx:Cx} {h:Heap} {w:World} {a:Act}
  (W:Aj P G E fP ops Lf tm0 frF hF pn n0 s0 cx0 h0 w0 S L sn fr tmS cx h w a) {d:DOp} (hd:d∈L) {v:AV} {hP:Heap} (hp:pn=some (d.no,v,hP)) (he:d.eff=true) (hb:∀j,((nI ops).getD d.no 0).testBit j=true→S j=true) (rest:List Nat) (k:List Item) (cs:List Frame):
  ∃cx' w' a' todo v',Inv P [] G cx' hP w'∧Stp cx0 h0 w0 cx' hP w'∧lJ cx' hP w' s0 frF.defs a'.defers∧bY cx' w' v v'∧
   Steps P (lone (b.atR a (.inRegion ops (d.no::rest)::k)) cs w) (lone {b.atR a' todo with mode:= .panicking [{v:=v',recovered:=false}]} cs w'):=by
 obtain ⟨seen,ef,pend,C,hs⟩:=W.can
 have hdf:=C.sub d hd
 have hn:=W.np _ _ _ hp
 have hag:=W.tm.agree K hc0 W.cl hdf hn hb
 have hsub:=C.sub
 have heff:=W.eff
 obtain ⟨L1,L2,rfl⟩:=List.append_of_mem hd
 have hL1:=(DK W.cl hb he C.chk).2.1
 obtain ⟨sn1,DR,ef',Gv,fr',h',C',I',St',D',A',hs'⟩ := BM (G := G) (s0 := s0) (cx0 := cx0) (w0 := w0) K hn0 W.cl W.np L1 seen ef pend sn fr h C hL1 (fun x hx hxe tm htm => by
  obtain ⟨tm',t1,t2⟩:=heff x (List.mem_append_left _ hx) hxe (hL1 x hx)
  rw [htm.wanted t1]; exact t2) W.I W.St W.D W.A hs
 have hax:=C'.agree K.nod K.inj K.lt
 have hrun:=C'.run
 obtain ⟨hwx,f,args,u,hst,hcall⟩:=hrun.at hp
 have hw:wanted tmS d.o.guard=true:=by rw [hag.wanted hax]; exact hwx
 rw [show gI d.o.op E h' fr'.tmps=gI d.o.op E h' tmS from yJ (hax.ev hag)] at hst
 have hbad:d.o.op≠ .bad:=by
  intro e
  rw [e] at hst
  cases hst
 obtain ⟨o,c,hc,hal,heq,hgo,hfin⟩:=LZ K (b:=b) hpl W.T hdf hw hbad
 rw [heq] at hst
 have hD:frF.defs=fr'.defs:=(run_end _ _ _ _ hrun).1
 rcases Dk hE.lib I' hE.kQ hE.Fy hc hal W.T with hout | ⟨v0,h0',hs0,_⟩
 ·rw [hst] at hout
  obtain ⟨args',abj,hl,ha⟩:=hout
  obtain ⟨hent,hcs⟩:=hC _ _ _ _ _ _ hcall cx w args' I' hl ha
  obtain ⟨cx1,w1,fr1,I1,S1,acU,hfn,hlv⟩:=hcs (b.atR a (.inRegion ops (d.no::rest)::k)::cs)
  rcases hlv with ⟨e,_⟩ | ⟨v1,e,v',hv,hlv⟩
  ·cases e
  ·cases e
   have henter:step P (lone (b.atR a (.inRegion ops (d.no::rest)::k)) cs w)= .next (lone (Frame.enter P f args' .normal) (b.atR a (.inRegion ops (d.no::rest)::k)::cs) w):=
    step_lone_go (by rw [hgo]; simp [stepG.apply,abj hent,Frame.atR])
   have hleave:=step_leave_panicked (c:=b.atR a (.inRegion ops (d.no::rest)::k)) (cs:=cs) hlv
   rw [Frame.raise_atR] at hleave
   exact ⟨cx1,w1,a,_,v',I1,St'.trans S1,by rw [hD]; exact D'.stp S1,hv,.head henter (acU.trans (.one hleave))⟩
 ·rw [hs0] at hst; cases hst

theorem abk (hE:EOk P G E) (hC:yI P G E fP) (hR:xR P G fP) (K:SOk P ops mu me Lf m) (hc0:qX ops.size (nI ops) (dstsOf Lf) Lf 0 0 0=true) (hn0:h0.n=n0) {b:Frame}
    (hpl:b.roundOf.isSome=true→∀i,i < ops.size→q8 (ops.getD i default).op=true) (hnF:∀t,(∀d∈Lf,d.o.dst≠some t)→getL frF.tmps t=getL tm0 t) (hpn:∀p v x,pn=some (p,v,x)→p < ops.size∧∀d∈Lf,d.no=p→d.eff=true) (k:List Item) (cs:List Frame):
    ∀(S:Nat→Bool) (sch:List Nat),Gs ops.size (nI ops) S sch→∀(L:List DOp) (sn:List (Nat×Heap)) (fr:Fr) (tmS:List AV) (cx:Cx) (h:Heap) (w:World) (a:Act),Aj P G E fP ops Lf tm0 frF hF pn n0 s0 cx0 h0 w0 S L sn fr tmS cx h w a→
    (pn=none∧∃cx' w' a',Inv P [] G cx' hF w'∧Stp cx0 h0 w0 cx' hF w'∧uF cx' w' frF.tmps a'.tmps∧lJ cx' hF w' s0 frF.defs a'.defers∧Steps P (lone (b.atR a (.inRegion ops sch::k)) cs w) (lone (b.atR a' k) cs w'))∨
    ∃p v hP,pn=some (p,v,hP)∧∃cx' w' a' todo v',Inv P [] G cx' hP w'∧Stp cx0 h0 w0 cx' hP w'∧lJ cx' hP w' s0 frF.defs a'.defers∧bY cx' w' v v'∧
      Steps P (lone (b.atR a (.inRegion ops sch::k)) cs w) (lone {b.atR a' todo with mode:= .panicking [{v:=v',recovered:=false}]} cs w'):=by
  intro S sch hS
  induction hS with
  |nil S hall=>
    intro L sn fr tmS cx h w a W
    have hnone:pn=none:=by
      cases hq:pn with
      |none=> rfl
      |some q=>
        obtain ⟨p,v,x⟩:=q
        have:=W.np p v x hq
        rw [hall p (hpn p v x hq).1] at this; cases this
    refine .inl ⟨hnone,?_⟩
    obtain ⟨seen,ef,pend,C,hs⟩:=W.can
    have hLS:∀x∈L,S x.no=true:=fun x hx=> hall x.no (K.lt x (C.sub x hx))
    obtain ⟨sn1,DR,ef',Gv,fr',h',C',I',St',D',A',hs'⟩ := BM (G := G) (s0 := s0) (cx0 := cx0) (w0 := w0) (L2 := []) K hn0 W.cl W.np L seen ef pend sn fr h (by rw [List.append_nil]; exact C) hLS (fun x hx hxe tm htm => by
      obtain ⟨tm',t1,t2⟩:=W.eff x hx hxe (hLS x hx)
      rw [htm.wanted t1]; exact t2) W.I W.St W.D (by rw [List.append_nil]; exact W.A) hs
    have hrun:=C'.run
    cases hrun
    refine ⟨cx,w,a,I',St',⟨?_,fun t=> ?_⟩,D',.one stepR_region_end⟩
    · rw [W.T.size,W.tm.len,W.tm.U9]
    · rw [←W.tm.final (fun d hd=> hall d.no (K.lt d hd)) hnF]
      exact W.T.rel t
  |cons S i r hi hn hb hr ih=>
    intro L sn fr tmS cx h w a W
    by_cases hq:∃v x,pn=some (i,v,x)
    · obtain ⟨v,hP,hq⟩:=hq
      obtain ⟨d,hd,rfl⟩:=W.find hi hn
      obtain ⟨seen,ef,pend,C,_⟩:=W.can
      obtain ⟨cx',w',a',todo,v',q1,q2,q3,q4,q5⟩:=Nh hE hC K hc0 hn0 hpl W hd hq ((hpn _ _ _ hq).2 d (C.sub d hd) rfl) hb r k cs
      exact .inr ⟨d.no,v,hP,hq,cx',w',a',todo,v',q1,q2,q3,q4,q5⟩
    · obtain ⟨L',sn',fr',x9,cx',h',w',a',W',hst⟩:=abh hE hC hR K hc0 hn0 hpl W hi (fun p v x e e'=> hq ⟨v,x,by rw [e,e']⟩) hn hb r k cs
      rcases ih L' sn' fr' x9 cx' h' w' a' W' with ⟨q0,cx2,w2,a2,q1,q2,q3,q4,q5⟩ | ⟨p,v,hP,q0,cx2,w2,a2,todo,v',q1,q2,q3,q4,q5⟩
      · exact .inl ⟨q0,cx2,w2,a2,q1,q2,q3,q4,hst.trans q5⟩
      · exact .inr ⟨p,v,hP,q0,cx2,w2,a2,todo,v',q1,q2,q3,q4,hst.trans q5⟩

theorem KO (hE:EOk P G E) (hC:yI P G E fP) (hR:xR P G fP) (hmo:P.follows .mixedOrders=true):LG P G E fP:=by
  intro mu me id ops fr fr' h h' ex hr cx w a s0 b k cs I F Pr hpl
  have hr:oW (if Oz ops.size (nI ops) (DZ P mu me ops) then AC.Fz (y_ (DZ P mu me ops)) (DZ P mu me ops) else AC.bad) E fP fr h=some (ex,fr',h'):=hr
  split at hr
  case isFalse=> cases hr
  rename_i wQ
  have K:=U8 wQ
  have hc0:qX ops.size (nI ops) (dstsOf (DZ P mu me ops)) (DZ P mu me ops) 0 0 0=true:=by
    simp only [Oz,Bool.and_eq_true] at wQ; exact wQ.2
  generalize DZ P mu me ops=Lf at hr K hc0 wQ
  have hr:oM E fP h.n Lf [(1000000,nH h (y_ Lf))] fr (nH h (y_ Lf))=some (ex,fr',h'):=hr
  have hcr:∃pn frF hF,CR E fP h.n (nI ops) pn frF hF Lf [(1000000,nH h (y_ Lf))] fr (nH h (y_ Lf))∧(∀p v x,pn=some (p,v,x)→p < ops.size∧∀d∈Lf,d.no=p→d.eff=true)∧
      ((pn=none∧ex= .nrm∧fr'=frF∧h'=hF)∨∃p v,pn=some (p,v,h')∧ex= .pan v∧fr'=⟨[],fr.defs,fr.pan⟩):=by
    rcases U4 Lf _ _ _ _ _ _ hr hc0 K.bnd with ⟨e1,e2⟩ | ⟨v,d,frF,hF,e1,e2,e3,e4,e5⟩
    · exact ⟨none,fr',h',e2,(fun p v x e=> by cases e),.inl ⟨rfl,e1,rfl,rfl⟩⟩
    · exact ⟨some (d.no,v,h'),frF,hF,e5,(fun p v x e=> by cases e; exact ⟨K.lt d e3,fun y hy e=> by rw [K.inj y hy d e3 e]; exact e4⟩),.inr ⟨d.no,v,rfl,e1,e2⟩⟩
  obtain ⟨pn,frF,hF,hr,hpn,hfin⟩:=hcr
  obtain ⟨e2,e3,e4,e5⟩:=run_end _ _ _ _ hr
  obtain ⟨I1,S1⟩:=I.same (w':={w with drawn:=w.drawn+1}) rfl
  generalize hw1:({w with drawn:=w.drawn+1}:World)=w1 at I1 S1
  obtain ⟨I2,S2,q3,q4,q5⟩:=FR (y_ Lf) I1 (.refl cx h w1)
  have acV:b.roundOf.isSome=true→∀i,i < ops.size→q8 (ops.getD i default).op=true:=fun hb i hi=> by
    have:=hpl hb
    simp only [pF,List.all_eq_true] at this
    have h2 := this (ops.getD i default) (by
      have:ops.getD i default=ops[i]:=by simp [hi]
      rw [this]; exact Array.getElem_mem_toList hi)
    exact h2
  have abl := PM hc0 ops.size (w.tape w.drawn (.order b.fn id)) (Array.replicate ops.size false) (by simp) (fun i j hi _ => by
    have hi:(Array.replicate ops.size false).getD i false=true:=hi
    rw [Array.getD_eq_getD_getElem?] at hi
    simp only [Array.getElem?_replicate] at hi
    split at hi <;> simp at hi) (by
      refine Nat.le_trans List.countP_le_length (by simp))
  have hS0:(fun j=> (Array.replicate ops.size false).getD j false)=fun _=> false:=by
    funext j
    rw [Array.getD_eq_getD_getElem?]
    simp only [Array.getElem?_replicate]
    split <;> rfl
  rw [hS0] at abl
  have W : Aj P G E fP ops Lf fr.tmps frF hF pn h.n s0 cx h w1 (fun _ => false) Lf [(1000000,nH h (y_ Lf))] fr fr.tmps cx (nH h (y_ Lf)) w1 a := {
    can:=⟨0,0,0,⟨hr,hc0,(fun i j hi _=> by simp at hi),fun d hd=> hd,fun _ _ _ _=> rfl,fun _ _=> rfl,rfl⟩,fun j hj=> by simp at hj⟩
    top:=⟨_,_,rfl⟩
    eff:=fun x _ _ hS=> by cases hS
    cl:=fun i j hi _=> by cases hi
    np:=fun _ _ _ _=> rfl
    I:=I2
    St:=S2
    D:=(F.defs.stp S1).stp S2
    A := {
      dead:=fun d hd r hr=> q5 r (K.rsv d hd r hr).1
      none:=fun d hd r hr _=> (I.sep.new (h.n+r) (by omega)).1
      made:=fun d hd r hr hS=> by cases hS
      dist:=fun d hd d' hd' r r' c _ _ h1 _=> by rw [(I.sep.new (h.n+r) (by omega)).1] at h1; cases h1}
    tm:=⟨rfl,e4,(fun _ _ _ _ hS=> by cases hS),fun _ _ _ _ _=> rfl,fun _ _=> rfl⟩
    T:=F.tmps.ext S1.ext}
  have start:∀m,Steps P (lone (b.atR a (.inRegion ops (Region.linearise.go .any ops ops.size (w.tape w.drawn (.order b.fn id)) (Array.replicate ops.size false) [])::k)) cs w1) m→Steps P (lone (b.atR a (.code (.region id ops true)::k)) cs w) m:=fun m hm=> by
    refine .head stepR_region_draw ?_
    rw [hmo,hw1]
    have:Region.schedule true ops (w.tape w.drawn (.order b.fn id))=Region.linearise.go .any ops ops.size (w.tape w.drawn (.order b.fn id)) (Array.replicate ops.size false) []:=by
      simp [Region.schedule,Region.linearise]
    rw [this]
    exact hm
  rcases abk (b:=b) hE hC hR K hc0 rfl acV e5 hpn k cs _ _ abl _ _ _ _ _ _ _ _ W with ⟨hn,cx',w',a',r1,r2,r3,r4,r5⟩ | ⟨p,v,hP,hq,cx',w',a',todo,v',r1,r2,r3,r4,r5⟩
  · rcases hfin with ⟨_,rfl,rfl,rfl⟩ | ⟨p,v,e,_⟩
    · exact ⟨cx',w',a',cs,r1,S1.trans r2,⟨.inl r3,r4,Nat.le_trans F.le (Nat.le_trans S1.ext.size r2.ext.size)⟩,by rw [e3]; exact .refl _ _,start _ r5⟩
    · rw [hn] at e; cases e
  · rcases hfin with ⟨e,_⟩ | ⟨p2,v2,e,rfl,rfl⟩
    · rw [hq] at e; cases e
    · rw [hq] at e
      cases e
      exact ⟨cx',w',a',cs,r1,S1.trans r2,⟨.inr ⟨⟨v,rfl⟩,rfl⟩,by rw [e2] at r3; exact r3,Nat.le_trans F.le (Nat.le_trans S1.ext.size r2.ext.size)⟩,.refl _ _,todo,v',r4,start _ r5⟩
end
end Go.Abs

namespace Go.Abs
section
variable {P : Program} {G : Nat → List DV} {E : Env}

theorem Sb (hE:EOk P G E) (hmo:P.follows .mixedOrders=true):∀n,Snd P G (mz E n):=by
 intro n
 induction n with
 |zero=> intro mu me c fr fr' h h' ex hr; cases hr
 |succ n ih=>
  have hC:=Fa hE ih
  have hR:=Ju hE ih
  exact Po hE ih hC hR (KO hE hC hR hmo)

theorem H9 (hE:EOk P G E) (hmo:P.follows .mixedOrders=true) {n:Nat} {f:FuncId} {args:List AV} {h h':Heap} {v:AV} (hr:qj E n f args h=some (.nrm,v,h')) {cx:Cx} {w:World} {args':Array Value} (I:Inv P [] G cx h w)
  (hl:args'.size=args.length) (ha:∀i (hi:i < args.length),bY cx w args[i] (args'.getD i undef)):
  Calls P f args' w fun e w'=> ∃cx' v',Inv P [] G cx' h' w'∧Stp cx h w cx' h' w'∧bY cx' w' v v'∧e= .returned v':=by
 intro cs
 obtain ⟨_,hcs⟩:=Fa hE (Sb hE hmo n) f args h _ v h' hr cx w args' I hl ha
 obtain ⟨cx',w',fr,I',S',hst,hfn,hlv⟩:=hcs cs
 rcases hlv with ⟨_,v',hv,hlv⟩ | ⟨_,e,_⟩
 ·exact ⟨.returned v',w',fr,⟨cx',v',I',S',hv,rfl⟩,hst,hfn,hlv⟩
 ·cases e
end
end Go.Abs

namespace Go.Abs
section
variable {P : Program} {H : Type} {enc : TypeId × Value → H} {w : World} {spare : Nat → Bool} {held : Bool}

inductive yO (P:Program):TypeId→List DV→Prop
 |bool (t:TypeId) (x:Bool) (ht:P.underlying t=some .bool):yO P t [.b x]
 |int (t:TypeId) (k:IntKind) (n:Int) (ht:P.underlying t=some (.int k)) (hw:k.min≤n∧n≤k.max):yO P t [.i k n]
 |str (t:TypeId) (s:List UInt8) (ht:P.underlying t=some .string) (hs:s.length≤maxLen):yO P t [.s s]
 |sl (t e:TypeId) (n:Nat) (cells:List DV) (ht:P.underlying t=some (.slice e)) (hn:n≤maxLen) (hl:cells.length=n*P.cellsOf e) (h:∀i,i < n→yO P e ((cells.drop (i*P.cellsOf e)).take (P.cellsOf e))):yO P t [.sl true n cells]
 |arr (t e:TypeId) (n:Nat) (cells:List DV) (ht:P.underlying t=some (.array n e)) (hl:cells.length=n*P.cellsOf e) (h:∀i,i < n→yO P e ((cells.drop (i*P.cellsOf e)).take (P.cellsOf e))):yO P t cells
 |struct (t:TypeId) (fs:Array Field) (cs:List DV) (ht:P.underlying t=some (.struct fs)) (hl:cs.length=P.cellsOf t) (h:∀f∈fs.toList,yO P f.type ((cs.drop f.offset).take (P.cellsOf f.type))):yO P t cs

def tiled (P:Program):List Field→Nat→Nat→Bool
 |[],o,n=> Nat.beq o n
 |f::r,o,n=> Nat.beq f.offset o && tiled P r (o+P.cellsOf f.type) n
def zD (P:Program) (ts:List TypeId):Bool:=ts.all fun t=> match P.underlying t with
 |some .bool | some (.int _) | some .string=> Nat.beq (P.cellsOf t) 1
 |some (.slice e)=> ts.contains e && Nat.blt 0 (P.cellsOf e) && Nat.beq (P.cellsOf t) 1
 |some (.array n e)=> ts.contains e && Nat.beq (P.cellsOf t) (n*P.cellsOf e)
 |some (.struct fs)=> fs.toList.all (fun f=> ts.contains f.type) && tiled P fs.toList 0 (P.cellsOf t)
 |_=> false

mutual
def uH {H:Type}:DataW H→List DV
 | .lit (.bool b)=> [.b b]
 | .lit (.int k n)=> [.i k n]
 | .lit (.string s)=> [.s s]
 | .nil=> [.sl true 0 []]
 | .slice es _=> [.sl true es.length (vN es)]
 | .agg ps=> vN ps
 |_=> []
def vN {H:Type}:List (DataW H)→List DV
 |[]=> []
 |d::r=> uH d++vN r
end

theorem Gx {sz:Nat}:∀(l:List (DataW H)),(∀x∈l,(uH x).length=sz)→(vN l).length=l.length*sz:=by
 intro l
 induction l with
 |nil=> intro _; simp [vN]
 |cons a r ih=>
  intro h
  rw [vN,List.length_append,ih (fun x hx=> h x (by simp [hx])),h a (by simp)]
  simp [Nat.succ_mul]; omega
theorem BN {sz:Nat}:∀(l:List (DataW H)),(∀x∈l,(uH x).length=sz)→∀i (hi:i < l.length),((vN l).drop (i*sz)).take sz=uH l[i]:=by
 intro l
 induction l with
 |nil=> intro _ i hi; cases hi
 |cons a r ih=>
  intro h i hi
  have ha:=h a (by simp)
  rw [vN]
  cases i with
  |zero=>
   rw [Nat.zero_mul,List.drop_zero,List.take_append_of_le_length (by omega),List.take_of_length_le (by omega)]
   rfl
  |succ i=>
   rw [List.drop_append,List.drop_eq_nil_of_le (by rw [Nat.succ_mul]; omega),List.nil_append,ha,show (i+1)*sz - sz=i*sz by rw [Nat.succ_mul]; omega]
   exact ih (fun x hx=> h x (by simp [hx])) i (by simpa using hi)
theorem Gy {sz:Nat} (l:List (DataW H)) (h:∀x∈l,(uH x).length=sz) {i r:Nat} (hi:i < l.length) (hr:r < sz):(vN l)[i*sz+r]? =(uH l[i])[r]? :=by
 rw [←BN l h i hi,List.getElem?_take,if_pos hr,List.getElem?_drop]

theorem cell_spot {a:Addr} {v:Value} (h:w.cell? a=some v):a.spot=none:=by
 unfold World.cell? at h
 split at h
 ·split at h
  ·cases h
  ·rename_i hs; simpa using hs
 ·cases h

def DT (P:Program) (w:World) (t:TypeId) (cs:List Value) (d:DataW H) (ps:List MemPlace):Prop:=
 (uH d).length=cs.length∧cs.length=P.cellsOf t∧yO P t (uH d)∧∀F:Bool→Nat→Nat→Prop,(∀c o,MemPlace.cell c o∈ps→F true c o)→∀i (hi:i < (uH d).length),kM w F (uH d)[i] (cs.getD i undef)

theorem KP {ts:List TypeId} {n0:Nat} {cs:List Value} {fuel:Nat} (ih:∀t cs (d:DataW H) ps,DataW.trod enc P w 0 spare held fuel t cs=some (d,ps)→t∈ts→DT P w t cs d ps):∀(fs:List Field) (o:Nat) (xs:List (DataW H×List MemPlace)),
  tiled P fs o n0=true→(∀f∈fs,f.type∈ts)→(fs.mapM fun f=> DataW.trod enc P w 0 spare held fuel f.type ((cs.drop f.offset).take (P.cellsOf f.type)))=some xs→
  (vN (xs.map (·.1))).length+o=n0∧(∀f∈fs,o≤f.offset∧yO P f.type (((vN (xs.map (·.1))).drop (f.offset - o)).take (P.cellsOf f.type)))∧
   ∀F:Bool→Nat→Nat→Prop,(∀c o,MemPlace.cell c o∈xs.flatMap (·.2)→F true c o)→∀i (hi:i < (vN (xs.map (·.1))).length),kM w F (vN (xs.map (·.1)))[i] (cs.getD (o+i) undef):=by
 intro fs
 induction fs with
 |nil=>
  intro o xs ht _ hm
  simp only [tiled] at ht
  have:=Nat.eq_of_beq_eq_true ht
  have hx:xs=[]:=by simpa using hm.symm
  subst hx
  exact ⟨by simpa [vN] using this,(fun f hf=> by cases hf),(fun F hF i hi=> by simp [vN] at hi)⟩
 |cons f r ihr=>
  intro o xs ht hmem hm
  simp only [tiled,Bool.and_eq_true] at ht
  have ho:=Nat.eq_of_beq_eq_true ht.1
  rw [List.mapM_cons] at hm
  simp only [Option.bind_eq_bind,Option.bind_eq_some_iff,Option.pure_def,Option.some.injEq] at hm
  obtain ⟨x,hx,ys,hys,rfl⟩:=hm
  obtain ⟨d,ps⟩:=x
  obtain ⟨l1,l2,ty1,r1⟩:=ih _ _ _ _ hx (hmem f (by simp))
  obtain ⟨m1,m2,r2⟩:=ihr _ _ ht.2 (fun g hg=> hmem g (List.mem_cons_of_mem _ hg)) hys
  have hlen:(uH d).length=P.cellsOf f.type:=by rw [l1,l2]
  simp only [List.map_cons,vN]
  refine ⟨by rw [List.length_append]; omega,fun g hg=> ?_,fun F hF i hi=> ?_⟩
  ·rcases List.mem_cons.1 hg with rfl | hg
   ·refine ⟨by omega,?_⟩
    rw [show g.offset - o=0 by omega,List.drop_zero,List.take_append_of_le_length (by omega),List.take_of_length_le (by omega)]
    exact ty1
   ·obtain ⟨q1,q2⟩:=m2 g hg
    refine ⟨by omega,?_⟩
    rw [List.drop_append,List.drop_eq_nil_of_le (by omega),List.nil_append]
    rw [show g.offset - o - (uH d).length=g.offset - (o+P.cellsOf f.type) by omega]
    exact q2
  ·by_cases h1:i < (uH d).length
   ·rw [List.getElem_append_left h1]
    have:=r1 F (fun c o' h=> hF c o' (by rw [List.flatMap_cons]; exact List.mem_append_left _ h)) i h1
    rw [List.getD_eq_getElem?_getD,List.getElem?_take,if_pos (by omega),List.getElem?_drop,ho] at this
    rw [List.getD_eq_getElem?_getD]
    exact this
   ·rw [List.getElem_append_right (by omega)]
    have := r2 F (fun c o' h => hF c o' (by
     rw [List.flatMap_cons]; exact List.mem_append_right _ h)) (i - (uH d).length) (by rw [List.length_append] at hi; omega)
    rw [show o+P.cellsOf f.type+(i - (uH d).length)=o+i by omega] at this
    exact this

theorem Gz {ts:List TypeId} (hc:zD P ts=true):∀(fuel:Nat) (t:TypeId) (cs:List Value) (d:DataW H) (ps:List MemPlace),DataW.trod enc P w 0 spare held fuel t cs=some (d,ps)→t∈ts→DT P w t cs d ps:=by
 intro fuel
 induction fuel with
 |zero=> intro t cs d ps h; simp [DataW.trod] at h
 |succ fuel ih=>
  intro t cs d ps h ht
  have hct:=List.all_eq_true.1 hc t ht
  cases hu:P.underlying t with
  |none=> rw [hu] at hct; cases hct
  |some u=>
   rw [hu] at hct
   cases u <;> simp only [Bool.false_eq_true] at hct
   case bool=>
    have hone:=Nat.eq_of_beq_eq_true hct
    unfold DataW.trod at h
    rw [hu] at h
    split at h <;> simp_all
    obtain ⟨rfl,rfl⟩:=h
    refine ⟨rfl,by simp [hone],.bool t _ hu,fun F hF i hi=> ?_⟩
    have:i=0:=by simpa [uH] using hi
    subst this
    exact .b _
   case int k=>
    have hone:=Nat.eq_of_beq_eq_true hct
    unfold DataW.trod at h
    rw [hu] at h
    split at h <;> simp_all
    obtain ⟨⟨rfl,hw⟩,rfl,rfl⟩:=h
    refine ⟨rfl,by simp [hone],.int t _ _ hu ?_,fun F hF i hi=> ?_⟩
    ·simpa [Lit.wf] using hw
    ·have:i=0:=by simpa [uH] using hi
     subst this
     exact .i _ _
   case string=>
    have hone:=Nat.eq_of_beq_eq_true hct
    unfold DataW.trod at h
    rw [hu] at h
    split at h <;> simp_all
    obtain ⟨hs,rfl,rfl⟩:=h
    refine ⟨rfl,by simp [hone],.str t _ hu (by rw [show ∀b:ByteArray,b.data.toList.length=b.size from fun b=> by simp]; exact hs),fun F hF i hi=> ?_⟩
    have:i=0:=by simpa [uH] using hi
    subst this
    exact .s _ _ rfl
   case slice e=>
    simp only [Bool.and_eq_true] at hct
    obtain ⟨⟨he,hpos⟩,hone⟩:=hct
    have he:e∈ts:=by simpa using he
    have hpos:0 < P.cellsOf e:=ru hpos
    have hone:=Nat.eq_of_beq_eq_true hone
    rcases DataW.trod_slice hu h with ⟨rfl,h0⟩ | ⟨a,len,cap,elems,rest,n,hfu,rfl,hx,hb,hl,hm,hlen,hel,_,_⟩
    ·cases h0
     refine ⟨rfl,by simp [hone],.sl t e 0 [] hu (by unfold maxLen; omega) (by simp) (fun i hi=> absurd hi (by omega)),fun F hF i hi=> ?_⟩
     have:i=0:=by simpa [uH] using hi
     subst this
     exact .sl0 _ _ _
    ·cases hfu
     cases hx
     have hsub:∀i (hi:i < elems.length),∃(vs:List Value),w.cells? 0 (a.add (i*P.cellsOf e)) (P.cellsOf e)=some vs∧DT P w e vs elems[i].1 elems[i].2:=by
      intro i hi
      have h1:=hel i (by omega)
      rw [List.getElem?_eq_getElem hi,Option.bind_eq_some_iff] at h1
      obtain ⟨vs,v1,v2⟩:=h1
      exact ⟨vs,v1,ih e vs elems[i].1 elems[i].2 v2 he⟩
     have hLl:∀x∈elems.map (·.1),(uH x).length=P.cellsOf e:=by
      intro x hx
      obtain ⟨y,hy,rfl⟩:=List.mem_map.1 hx
      obtain ⟨i,hi,rfl⟩:=List.mem_iff_getElem.1 hy
      obtain ⟨vs,_,o1,o2,_⟩:=hsub i hi
      rw [o1,o2]
     have hcl:=Gx _ hLl
     simp only [List.length_map] at hcl
     subst hlen
     simp only [DT,uH,List.length_map]
     refine ⟨rfl,by simp [hone],.sl t e _ _ hu (by omega) hcl (fun i hi=> ?_),fun F hF i hi=> ?_⟩
     ·rw [BN _ hLl i (by simp; omega)]
      obtain ⟨vs,_,o1,o2,o3,_⟩:=hsub i (by omega)
      simpa using o3
     ·have:i=0:=by simpa using hi
      subst this
      show kM w F (.sl true elems.length (vN (elems.map (·.1)))) (.slice (some a) elems.length cap)
      by_cases hz:elems.length=0
      ·have:elems=[]:=List.eq_nil_of_length_eq_zero hz
       subst this
       exact .sl0 _ _ _
      ·have hspot:a.spot=none:=by
        obtain ⟨vs,v1,_⟩:=hsub 0 (by omega)
        obtain ⟨_,k2,k3⟩:=World.cells?_some v1
        have k4:=k3 0 hpos
        rw [List.getElem?_eq_getElem (by omega)] at k4
        have:=cell_spot k4
        simpa [Addr.add] using this
       obtain ⟨c,o,sp⟩:=a
       simp only at hspot
       subst hspot
       have key:∀j,j < (vN (elems.map (·.1))).length→∃i r,i < elems.length∧r < P.cellsOf e∧j=i*P.cellsOf e+r:=by
        intro j hj
        rw [hcl] at hj
        refine ⟨j / P.cellsOf e,j % P.cellsOf e,?_,Nat.mod_lt _ hpos,?_⟩
        ·exact Nat.div_lt_of_lt_mul (by rw [Nat.mul_comm]; exact hj)
        ·rw [Nat.mul_comm]; exact (Nat.div_add_mod j _).symm
       have hcell:∀i (hi:i < elems.length) r,r < P.cellsOf e→∃vs,DT P w e vs elems[i].1 elems[i].2∧w.cell? ⟨c,o+(i*P.cellsOf e+r),none⟩=some (vs.getD r undef):=by
        intro i hi r hr
        obtain ⟨vs,v1,v2⟩:=hsub i hi
        obtain ⟨_,k2,k3⟩:=World.cells?_some v1
        have k4:=k3 r hr
        rw [List.getElem?_eq_getElem (by omega)] at k4
        have e1:((⟨c,o,none⟩:Addr).add (i*P.cellsOf e)).add r=⟨c,o+(i*P.cellsOf e+r),none⟩:=by
         unfold Addr.add
         split <;> split <;> simp <;> omega
        rw [e1] at k4
        refine ⟨vs,v2,?_⟩
        rw [k4]
        simp [List.getD,show r < vs.length by omega]
       refine .sl true elems.length _ c o cap (fun j=> (w.cell? ⟨c,o+j,none⟩).getD undef) (by omega) hl (fun j hj=> ?_) (fun j hj=> ?_)
       ·obtain ⟨i,r,h1,h2,rfl⟩:=key j hj
        obtain ⟨vs,_,q⟩:=hcell i h1 r h2
        refine ⟨by rw [q]; rfl,hF _ _ ?_⟩
        refine List.mem_append_left _ ?_
        unfold MemPlace.row
        refine List.mem_map.2 ⟨i*P.cellsOf e+r,?_,rfl⟩
        rw [List.mem_range]
        have h3:i*P.cellsOf e+P.cellsOf e≤elems.length*P.cellsOf e:=by rw [←Nat.succ_mul]; exact Nat.mul_le_mul_right _ h1
        have h4:elems.length*P.cellsOf e≤(elems.length+rest.length)*P.cellsOf e:=Nat.mul_le_mul_right _ (by omega)
        omega
       ·obtain ⟨i,r,h1,h2,rfl⟩:=key j hj
        obtain ⟨vs,⟨o1,o2,o3,o4⟩,q⟩:=hcell i h1 r h2
        have hg:=Gy (elems.map (·.1)) hLl (i:=i) (r:=r) (by simp; omega) h2
        rw [List.getElem?_eq_getElem hj] at hg
        simp only [List.getElem_map] at hg
        have hr':r < (uH elems[i].1).length:=by omega
        rw [List.getElem?_eq_getElem hr'] at hg
        have hg:=Option.some.inj hg
        rw [hg]
        simp only [q,Option.getD_some]
        refine o4 F (fun c' o' hm=> hF c' o' ?_) r hr'
        refine List.mem_append_right _ ?_
        rw [List.mem_flatMap]
        exact ⟨elems[i],List.mem_append_left _ (List.getElem_mem h1),hm⟩
   case array n e=>
    simp only [Bool.and_eq_true] at hct
    obtain ⟨he,hsz⟩:=hct
    have he:e∈ts:=by simpa using he
    have hsz:=Nat.eq_of_beq_eq_true hsz
    unfold DataW.trod at h
    rw [hu] at h
    simp only at h
    split at h
    ·rename_i hl
     rw [Option.map_eq_some_iff] at h
     obtain ⟨xs,hxs,hxe⟩:=h
     cases hxe
     have hlen:xs.length=n:=by simpa using mapM_some_length hxs
     have hsub:∀i (hi:i < xs.length),DT P w e ((cs.drop (i*P.cellsOf e)).take (P.cellsOf e)) xs[i].1 xs[i].2:=by
      intro i hi
      have:=mapM_some_get hxs i i (List.getElem?_range (by omega))
      rw [List.getElem?_eq_getElem hi] at this
      exact ih e _ _ _ this he
     have hLl:∀x∈xs.map (·.1),(uH x).length=P.cellsOf e:=by
      intro x hx
      obtain ⟨y,hy,rfl⟩:=List.mem_map.1 hx
      obtain ⟨i,hi,rfl⟩:=List.mem_iff_getElem.1 hy
      obtain ⟨o1,o2,_⟩:=hsub i hi
      rw [o1,o2]
     have hcl:=Gx _ hLl
     simp only [List.length_map,hlen] at hcl
     simp only [DT,uH]
     refine ⟨by omega,by omega,.arr t e n _ hu hcl (fun i hi=> ?_),fun F hF j hj=> ?_⟩
     ·rw [BN _ hLl i (by simp; omega)]
      have:=(hsub i (by omega)).2.2.1
      simpa using this
     ·have hpos:0 < P.cellsOf e:=by
       rcases Nat.eq_zero_or_pos (P.cellsOf e) with h0 | h0
       ·rw [hcl,h0] at hj; omega
       ·exact h0
      have h1:j / P.cellsOf e < xs.length:=by exact Nat.div_lt_of_lt_mul (by rw [Nat.mul_comm,hlen,←hcl]; exact hj)
      have h2:j % P.cellsOf e < P.cellsOf e:=Nat.mod_lt _ hpos
      have hj':j=j / P.cellsOf e*P.cellsOf e+j % P.cellsOf e:=by rw [Nat.mul_comm]; exact (Nat.div_add_mod j _).symm
      generalize j / P.cellsOf e=i at h1 hj'
      generalize j % P.cellsOf e=r at h2 hj'
      subst hj'
      obtain ⟨o1,o2,o3,o4⟩:=hsub i h1
      have hg:=Gy (xs.map (·.1)) hLl (i:=i) (r:=r) (by simp; omega) h2
      rw [List.getElem?_eq_getElem hj] at hg
      simp only [List.getElem_map] at hg
      have hr':r < (uH xs[i].1).length:=by omega
      rw [List.getElem?_eq_getElem hr'] at hg
      have hg:=Option.some.inj hg
      rw [hg]
      have:=o4 F (fun c' o' hm=> hF c' o' (by rw [List.mem_flatMap]; exact ⟨xs[i],List.getElem_mem h1,hm⟩)) r hr'
      rw [List.getD_eq_getElem?_getD,List.getElem?_take,if_pos h2,List.getElem?_drop] at this
      rw [List.getD_eq_getElem?_getD]
      exact this
    ·cases h
   case struct fs=>
    simp only [Bool.and_eq_true,List.all_eq_true] at hct
    obtain ⟨h1,h2⟩:=hct
    unfold DataW.trod at h
    rw [hu] at h
    simp only at h
    split at h
    ·rename_i hl
     rw [Option.map_eq_some_iff] at h
     obtain ⟨xs,hxs,he⟩:=h
     cases he
     obtain ⟨m1,m2,m3⟩:=KP (P:=P) (w:=w) (ts:=ts) (fun t cs d ps hh ht=> ih t cs d ps hh ht) fs.toList 0 xs h2 (fun f hf=> by simpa using h1 f hf) hxs
     simp only [DT,uH]
     refine ⟨by omega,hl,.struct t fs _ hu (by omega) (fun f hf=> ?_),fun F hF i hi=> ?_⟩
     ·have:=(m2 f hf).2
      rw [Nat.sub_zero] at this
      exact this
     ·have:=m3 F hF i hi
      rw [Nat.zero_add] at this
      exact this
    ·cases h
end
end Go.Abs

namespace Go.Abs
section
variable {P : Program} {H : Type} {enc : TypeId × Value → H} {w : World} {held : Bool}

theorem Sc {ts:List TypeId} (hc:zD P ts=true) {sp:Nat→Bool}:∀(n:Nat) (t:TypeId) (cs:List Value) (x:DataW H×List MemPlace),
  DataW.trod enc P w 0 (fun _=> true) held n t cs=some x→t∈ts→(∀p∈x.2,sp p.block=true)→DataW.trod enc P w 0 sp held n t cs=some x:=by
 intro n
 induction n with
 |zero=> intro t cs x h; simp [DataW.trod] at h
 |succ n ih=>
  intro t cs x h ht hs
  have hct:=List.all_eq_true.1 hc t ht
  rw [DataW.trod_step] at h ⊢
  unfold DataW.trodStep at h ⊢
  split at h
  case h_8 e a len cap hu=>
   rw [hu] at hct
   simp only [Bool.and_eq_true] at hct
   obtain ⟨⟨he,hpos⟩,_⟩:=hct
   have he:e∈ts:=by simpa using he
   have hpos:0 < P.cellsOf e:=ru hpos
   simp only at h ⊢
   split at h
   ·rename_i hcnd
    rw [if_pos hcnd]
    simp only [Option.map_eq_some_iff,Option.bind_eq_some_iff] at h ⊢
    obtain ⟨elems,hel,rest,hrest,rfl⟩:=h
    simp only [if_true] at hrest
    have hlen:elems.length=len:=by simpa using mapM_some_length hel
    have hrl:rest.length=cap - len:=by simpa using mapM_some_length hrest
    have one:∀(i:Nat) (y:DataW H×List MemPlace),y∈elems++rest→(w.cells? 0 (a.add (i*P.cellsOf e)) (P.cellsOf e)).bind (DataW.trod enc P w 0 (fun _=> true) held n e)=some y→
      (w.cells? 0 (a.add (i*P.cellsOf e)) (P.cellsOf e)).bind (DataW.trod enc P w 0 sp held n e)=some y:=by
     intro i y hy hv
     simp only [Option.bind_eq_some_iff] at hv ⊢
     obtain ⟨cs',hc',hy'⟩:=hv
     refine ⟨cs',hc',ih _ _ _ hy' he (fun p hp=> hs p ?_)⟩
     simp only [List.mem_append,List.mem_flatMap]
     right
     exact ⟨y,by simpa using hy,hp⟩
    refine ⟨elems,mapM_carry hel (fun i y _ hy=> one i y (by simp [hy])),rest,?_,rfl⟩
    by_cases hsp:sp a.block=true
    ·rw [if_pos hsp]
     exact mapM_carry hrest (fun j y _ hy=> one (len+j) y (by simp [hy]))
    ·rw [if_neg hsp]
     have hz:(elems.length+rest.length)*P.cellsOf e=0:=by
      rcases Nat.eq_zero_or_pos ((elems.length+rest.length)*P.cellsOf e) with e0 | e0
      ·exact e0
      ·exfalso
       refine hsp (hs (.cell a.block (a.off+0)) ?_)
       simp only [List.mem_append]
       left
       exact MemPlace.mem_row.2 ⟨0,e0,rfl⟩
     have:elems.length+rest.length=0:=by
      rcases Nat.mul_eq_zero.1 hz with e0 | e0
      ·exact e0
      ·omega
     have:rest=[]:=List.eq_nil_of_length_eq_zero (by omega)
     rw [this]
   ·cases h
  case h_9 fs hu=>
   rw [hu] at hct
   simp only [Bool.and_eq_true,List.all_eq_true] at hct
   split at h
   ·rename_i hcnd
    rw [if_pos hcnd]
    simp only [Option.map_eq_some_iff] at h ⊢
    obtain ⟨xs,hx,rfl⟩:=h
    exact ⟨xs,mapM_carry hx (fun f y hf hy hv=> ih _ _ _ hv (by simpa using hct.1 f hf) (fun p hp=> hs p (List.mem_flatMap.2 ⟨y,hy,hp⟩))),rfl⟩
   ·cases h
  case h_10 k e hu=>
   rw [hu] at hct
   simp only [Bool.and_eq_true] at hct
   split at h
   ·rename_i hcnd
    rw [if_pos hcnd]
    simp only [Option.map_eq_some_iff] at h ⊢
    obtain ⟨xs,hx,rfl⟩:=h
    exact ⟨xs,mapM_carry hx (fun f y hf hy hv=> ih _ _ _ hv (by simpa using hct.1) (fun p hp=> hs p (List.mem_flatMap.2 ⟨y,hy,hp⟩))),rfl⟩
   ·cases h
  all_goals first
   |exact h
   |(rename_i hu _; rw [hu] at hct; cases hct)
   |(rename_i hu; rw [hu] at hct; cases hct)
   |(rename_i hu _ _; rw [hu] at hct; cases hct)

theorem KQ {ts:List TypeId} (hc:zD P ts=true) {sp:Nat→Bool} {w':World}:∀{us:List TypeId} {vs:List Value} {ds:List (DataW H)} {ps:List MemPlace},DataW.TrodAll enc P w 0 (fun _=> true) held us vs ds ps→(∀t∈us,t∈ts)→(∀p∈ps,w.sameAt w' p)→(∀p∈ps,sp p.block=true)→
  DataW.TrodAll enc P w' 0 sp held us vs ds ps:=by
 intro us
 induction us with
 |nil=>
  intro vs ds ps h _ _ _
  cases vs <;> cases ds <;> simp [DataW.TrodAll] at h ⊢
  exact h
 |cons t us ih=>
  intro vs ds ps h hm hs hsp
  cases vs with
  |nil=> simp [DataW.TrodAll] at h
  |cons v vs=>
  cases ds with
  |nil=> simp [DataW.TrodAll] at h
  |cons d ds=>
  obtain ⟨p,q,⟨n,hn⟩,h2,rfl⟩:=h
  refine ⟨p,q,⟨n,?_⟩,ih h2 (fun u hu=> hm u (by simp [hu])) (fun x hx=> hs x (by simp [hx])) (fun x hx=> hsp x (by simp [hx])),rfl⟩
  exact DataW.trod_carry n t _ _ (Sc hc n t _ _ hn (hm t (by simp)) (fun x hx=> hsp x (by simp [hx]))) (fun x hx=> hs x (by simp [hx]))

theorem Mq {f:Func} {s:ChangeSpec} {apart fresh handsOn again:Bool} {W W':World} {args:Array Value} {ds gs:List (DataW H)} {before:List MemPlace} {ts:List TypeId} {tb:TypeId} (hc:zD P ts=true) (hts:∀t∈f.params.toList,t∈ts)
  (hvars:s.vars=[]) (hres:(s.fn H ds).results=[.lit (.bool true)]) (hargs:(s.fn H ds).args=ds) (hvs:(s.fn H ds).vars=[]) (hrt:f.resultTypes= #[tb]) (htb:P.underlying tb=some .bool)
  (hW:DataW.Whole enc P f.params.toList s.vars apart W args.toList ds gs before) (hk:∀c:Nat,c < W.heap.size→W'.heap[c]? =W.heap[c]?) (hio:W'.os=W.os∧W'.output=W.output):
  s.post enc P f apart fresh handsOn again W args (.bool true) W':=by
 have hW0:=hW
 obtain ⟨p,q,hA,hV,rfl,hfz,hnd⟩:=hW
 rw [hvars] at hV
 have hq:q=[]:=by
  cases gs with
  |nil=> simpa [DataW.TrodVars] using hV
  |cons=> simp [DataW.TrodVars] at hV
 subst hq
 have hgs:gs=[]:=by
  cases gs with
  |nil=> rfl
  |cons=> simp [DataW.TrodVars] at hV
 subst hgs
 have hds:ds++([]:List (DataW H))=ds:=List.append_nil ds
 rw [←hds] at hres hvs
 have hargs:(s.fn H (ds++ [])).args=ds:=by rw [hds]; exact hargs
 simp only [List.append_nil] at hfz hnd hW0
 have hlt:∀x∈p,x.block < W.heap.size:=fun x hx=> hW0.lt x hx
 have hsame:∀x∈p,W.sameAt W' x:=by
  intro x hx
  have:=hk x.block (hlt x hx)
  cases x with
  |cell b off=> simp only [World.sameAt,World.cell?]; simp only [MemPlace.block] at this; rw [this]
  |map b=> exact this
 have hA':∀sp:Nat→Bool,(∀x∈p,sp x.block=true)→DataW.TrodAll enc P W' 0 sp true f.params.toList args.toList ds p:=fun sp hsp=> KQ hc hA hts hsame hsp
 have hR:∀(b:Nat) (sp:Nat→Bool) (hd:Bool),DataW.TrodAll enc P W' b sp hd f.resultTypes.toList ((Value.bool true).resultList f.resultTypes.size) (s.fn H (ds++ [])).results []:=by
  intro b sp hd
  rw [hres,hrt]
  refine ⟨[],[],⟨1,?_⟩,rfl,rfl⟩
  simp [Value.cells,DataW.trod,htb]
 have hv':∀sp:Nat→Bool,DataW.TrodVars enc P W' sp s.vars (s.fn H (ds++ [])).vars []:=fun sp=> by rw [hvars,hvs]; rfl
 have hold:∀x∈p,(fun b=> decide (b < W.heap.size)) x.block=true:=fun x hx=> by simpa using hlt x hx
 refine ⟨ds,[],p++ [],[],p,[],by simpa using hW0,hR _ _ _,?_,?_,?_,fun _=> ?_⟩
 ·rw [hargs]; exact hA' _ hold
 ·exact hv' _
 ·refine ⟨hio.1,hio.2,fun i hi=> ?_⟩
  rw [hk i hi]
  split <;> simp_all
 ·refine ⟨?_,_,_,([]++p)++ [],⟨[]++p,[],ChangeShapes.trodAll_append (hargs▸hA' _ (fun _ _=> rfl)) (hR _ _ _),hv' _,rfl,?_,?_⟩,?_⟩
  ·intro j t r h1 h2
   rw [hrt] at h1 h2
   have hj:j=0:=by
    have:=(Array.getElem?_eq_some_iff.1 h1).1
    simp at this; omega
   subst hj
   simp at h1 h2
   subst h1
   have:r= .bool true:=by
    cases h2; rfl
   subst this
   simp [Value.okWide,htb,Cell.okWide,Cell.ok]
  ·intro b off hp
   have hp:MemPlace.cell b off∈p:=by simpa using hp
   have h0:=hfz b off hp
   have:=hk b (hlt _ hp)
   simp only [World.frozen?] at h0 ⊢
   rw [this]; exact h0
  ·intro ha
   have:=hnd ha
   simpa using this
  ·intro x hx _
   simpa using hx

theorem kM.here {F:Bool→Nat→Nat→Prop} {d:DV} {v:Value} (h:kM w F d v):kM w (fun b c o=> F b c o∧(w.cell? ⟨c,o,none⟩).isSome=true) d v:=by
 induction h with
 |b x=> exact .b x
 |i k n=> exact .i k n
 |s x s h=> exact .s x s h
 |sG=> exact .sG
 |yj=> exact .yj
 |nili=> exact .nili
 |xN=> exact .xN
 |nsl=> exact .nsl
 |sl0 b a cap=> exact .sl0 b a cap
 |sl b n cells c o cap vs hn hc h1 h2 ih=> exact .sl b n cells c o cap vs hn hc (fun i hi=> ⟨(h1 i hi).1,(h1 i hi).2,by rw [(h1 i hi).1]; rfl⟩) ih
 |bx b cells off c o vs h1 h2 ih=> exact .bx b cells off c o vs (fun i hi=> ⟨(h1 i hi).1,(h1 i hi).2,by rw [(h1 i hi).1]; rfl⟩) ih
 |fn f fs cs fs' cs' hf hc h1 h2 i1 i2=> exact .fn f fs cs fs' cs' hf hc i1 i2
 |ifc t d v h ih=> exact .ifc t d v ih
 |agg cs cs' hc h2 ih=> exact .agg cs cs' hc ih

def cx0 (G:Nat→List DV) (w:World) (before:List MemPlace):Cx:=⟨fun _=> none,fun _=> none,fun c o=> o < (G c).length,fun c o=> MemPlace.cell c o∈before∧(w.cell? ⟨c,o,none⟩).isSome=true⟩

theorem inv0 {G:Nat→List DV} {before:List MemPlace} (hg:∀g i (h:i < (G g).length),∃v,w.cell? ⟨g,i,none⟩=some v∧(∀F,kM w F (G g)[i] v)∧∃(arr:Array Value) (e:TypeId) (fz:Nat×Nat),w.heap[g]? =some (Obj.cells arr e fz)∧arr.size=(G g).length):Inv P [] G (cx0 G w before) .empty w:=by
 have he:∀b,Heap.empty.get b=none:=by
  intro b
  cases hb:Heap.empty.get b with
  |none=> rfl
  |some x=> exact absurd (Heap.kH hb) (by show ¬b < 0; omega)
 have SX:∀b c,¬jE (cx0 G w before) .empty b c:=by
  intro b c ho
  cases ho with
  |blk x base hb=> rw [he] at hb; cases hb
  |tok g e κ base hb=> rw [he] at hb; cases hb
 refine ⟨fun b x hb=> absurd ((he b).symm.trans hb) (by simp),?_,fun g i h=> ?_⟩
 ·exact {
   inj:=fun b1 b2 c h=> absurd h (SX _ _)
   nof:=fun b c h=> absurd h (SX _ _)
   p9:=fun t g e κ c base hb=> absurd ((he t).symm.trans hb) (by simp)
   base0:=fun b c base h=> by cases h
   lt:=fun b c base h=> by cases h
   ltK:=fun t κ c base h=> by cases h
   new:=fun b _=> ⟨rfl,rfl⟩
   zc:=fun c o h=> by
    rcases h with h | h
    ·obtain ⟨v,h1,_⟩:=hg c o h
     rw [h1]; rfl
    ·exact h.2}
 ·obtain ⟨v,h1,h2,h3⟩:=hg g i h
  exact ⟨v,h1,h,h2 _,h3⟩

theorem Q7 {G:Nat→List DV} {ts:List TypeId} (hc:zD P ts=true) {t:TypeId} (ht:t∈ts) {v:Value} {d:DataW H} {ps before:List MemPlace} {sp:Nat→Bool} (h:DataW.Trod enc P w 0 sp held t v d ps) (hp:∀p∈ps,p∈before) {cs:Array Value} (hv:v= .agg cs):
  bY (cx0 G w before) w (.d (.agg (uH d))) v∧yO P t (uH d):=by
 obtain ⟨n,hn⟩:=h
 obtain ⟨o1,o2,o3,o4⟩:=Gz hc n t _ d ps hn ht
 subst hv
 have hcs:(Value.agg cs).cells.toList=cs.toList:=rfl
 rw [hcs] at o1 o4
 refine ⟨.d _ _ (.agg _ _ (by simpa using o1.symm) (fun i hi=> ?_)),o3⟩
 have h1:=(o4 (fun b c o=> b=true∧MemPlace.cell c o∈ps) (fun c o hm=> ⟨rfl,hm⟩) i hi).here
 have h2:=h1.mono (w':=w) (F':=(cx0 G w before).F) (fun b c o q=> .inr ⟨q.1.1,hp _ q.1.2,q.2⟩) (fun _ _ _ _=> rfl)
 have:cs.toList.getD i undef=cs.getD i undef:=by
  rw [List.getD_eq_getElem?_getD,Array.getD_eq_getD_getElem?]; simp
 rw [this] at h2
 exact h2

theorem Eu {G:Nat→List DV} {ts:List TypeId} (hc:zD P ts=true) {t:TypeId} (ht:t∈ts) {v:Value} {d:DataW H} {ps before:List MemPlace} {sp:Nat→Bool} (h:DataW.Trod enc P w 0 sp held t v d ps) (hp:∀p∈ps,p∈before) (hv:v.cells.toList=[v]):
  yO P t (uH d)∧∀x,uH d=[x]→bY (cx0 G w before) w (.d x) v:=by
 obtain ⟨n,hn⟩:=h
 obtain ⟨o1,o2,o3,o4⟩:=Gz hc n t _ d ps hn ht
 refine ⟨o3,fun x hx=> ?_⟩
 rw [hv] at o4
 have hi:0 < (uH d).length:=by rw [hx]; simp
 have h1:=(o4 (fun b c o=> b=true∧MemPlace.cell c o∈ps) (fun c o hm=> ⟨rfl,hm⟩) 0 hi).here
 have h2:=h1.mono (w':=w) (F':=(cx0 G w before).F) (fun b c o q=> .inr ⟨q.1.1,hp _ q.1.2,q.2⟩) (fun _ _ _ _=> rfl)
 have e1:(uH d)[0]=x:=by simp [hx]
 have e2:[v].getD 0 undef=v:=rfl
 rw [e1,e2] at h2
 exact .d _ _ h2


theorem J8 {G:Nat→List DV} {E:Env} (hE:EOk P G E) (hmo:P.follows .mixedOrders=true) {f:FuncId} {as1:List AV} {h':Heap} (hr:Cal E f as1 .empty (.nrm,.d (.b true),h')) {before:List MemPlace}
  (hg:∀g i (h:i < (G g).length),∃v,w.cell? ⟨g,i,none⟩=some v∧(∀F,kM w F (G g)[i] v)∧∃(arr:Array Value) (e:TypeId) (fz:Nat×Nat),w.heap[g]? =some (Obj.cells arr e fz)∧arr.size=(G g).length) {args:Array Value} (hl:args.size=as1.length) (ha:∀i (hi:i < as1.length),bY (cx0 G w before) w as1[i] (args.getD i undef)):
  Calls P f args w fun e w'=> e= .returned (.bool true)∧(∀c:Nat,c < w.heap.size→w'.heap[c]? =w.heap[c]?)∧w'.os=w.os∧w'.output=w.output:=by
 obtain ⟨n,hn⟩:=hr
 refine (H9 hE hmo hn (inv0 hg) hl ha).mono ?_
 rintro e w' ⟨cx',v',I',S',hv,rfl⟩
 cases hv with
 |d _ _ hv=>
 cases hv
 refine ⟨rfl,fun c hc=> S'.fr.kept c hc (fun b ho=> ?_),S'.ext.io⟩
 have he:∀b,Heap.empty.get b=none:=by
  intro b
  cases hb:Heap.empty.get b with
  |none=> rfl
  |some x=> exact absurd (Heap.kH hb) (by show ¬b < 0; omega)
 cases ho with
 |blk x base hb=> rw [he] at hb; cases hb
 |tok g e κ base hb=> rw [he] at hb; cases hb
end
end Go.Abs

namespace Go.Abs
noncomputable section

inductive KF where
 |seq (b:AC)
 |blk (id:Nat)
structure Dec where
 m:Bool
 l:List (Nat×Bool)
inductive Cfg where
 |run (c:AC) (ks:List KF) (d:Dec) (tm:List AV) (h:Heap)
 |ops (l:List AOp) (ks:List KF) (d:Dec) (tm:List AV) (h:Heap)
 |FV (n0:Nat) (l:List DOp) (sn:List (Nat×Heap)) (ks:List KF) (d:Dec) (tm:List AV) (h:Heap)
 |fin (ex:Ex) (ks:List KF) (d:Dec) (tm:List AV) (h:Heap)
inductive Ev where
 |go (c:Cfg)
 |br (x:Bool) (k:Bool→Cfg)
 |call (p:List AV×(List AV→Option (List (AV×St1)))) (f:FuncId) (args:List AV) (h:Heap) (k:AV→Heap→Cfg)
 |yld (l:Nat) (args:List AV) (h:Heap) (k:AV→Heap→Cfg)
 |loop (a:AC) (ks:List KF) (tm:List AV) (h:Heap)
 |yt (g:X) (ps:List Nat) (asg body:AC) (ks:List KF) (tm:List AV) (h:Heap)
 |done (ex:Ex) (tm:List AV) (h:Heap)
 |op (s:St1) (h:Heap) (k:AV→Heap→Cfg)
 |chk (a b:List AV) (c:Cfg)
 |rdo (l:List St1) (k:AV→Cfg)
 |stuck

def SY (l : List (Nat × Bool)) (t : Nat) : Option Bool := List.rec none (fun p _ ih => match Nat.beq p.1 t with
 |true=> some p.2
 |false=> ih) l
def PV (l : List (Nat × Bool)) (t : Nat) : List (Nat × Bool) := List.rec [] (fun p _ ih => match Nat.beq p.1 t with
 |true=> ih
 |false=> p::ih) l
def PW (d:Dec) (t:Nat):Option Bool:=SY d.l t
def Sd (d:Dec) (t:Nat):Dec:=⟨d.m,PV d.l t⟩
def Dec.add (d:Dec) (t:Nat) (y:Bool):Dec:=⟨d.m,(t,y)::d.l⟩
def CQ (d:Dec):X→Option Bool
 | .t t=> PW d t
 | .c (.d (.b x))=> some x
 |_=> none
def Ni (d:Dec) (o:COp):Option Bool:=match o with
 | .mv x=> CQ d x
 | .un .not x=> match CQ d x with
  |some b=> some (!b)
  |none=> none
 | .pick c a b=> match CQ d c with
  |some true=> CQ d a
  |some false=> CQ d b
  |none=> none
 |_=> none
def decP (d:Dec) (dst:Option Nat) (b:Option Bool) (tm:List AV):Dec:=match dst with
 |none=> d
 |some t=> match b with
  |none=> Sd d t
  |some b=> match getL tm t with
   | .und=> Sd d t
   |_=> (Sd d t).add t b

def brT (t:Nat) (tm:List AV) (k:Bool→List AV→Cfg):Ev:=match getL tm t with
 | .d (.b x)=> .br x (fun y=> k y (setL tm t (.d (.b y))))
 |_=> .stuck
def PX (t:Nat) (tm:List AV) (off:Cfg) (k:Bool→List AV→Cfg):Ev:=match getL tm t with
 | .und=> .go off
 | .d (.b x)=> .br x (fun y=> k y (setL tm t (.d (.b y))))
 |_=> .stuck
def stops (m:Bool) (o:COp) (tm:List AV):Bool:=match o with
 | .iaS _ _ _ | .iaA _ _ _ _ | .ixA _ _ _ _ _ _ | .ixS _ _ | .Kc _ _ _ _ _ | .Ey _ _ _ | .b2s _ | .clone _ _ _ _ _ _ | .grow _ _ _ _ _ | .Be _ _ _ _ _ | .Ms _ _ _ _ _ _ | .look _ _ _ _ _ _ | .On _ _ _ _ | .nxt _ _ | .copy _ _ _ | .Et _ _ _ | .lib _ _ _
 | .app _ _ _ _ _ _ | .Oq _ _ _ _ _ _ | .IM _ _ _ _ _ _ | .uss _ _ _ | .del _ _ _ | .mn _ | .mx _=> true
 | .load _ _ a=> match a.ev tm with
  | .d (.bx _ _ _)=> true
  | .ptr _ _=> m
  |_=> false
 | .store _ _ _ | .cvP _ _ | .ssd _=> m
 | .bin b k x _=> match k with
  | .ptr=> m
  |_=> match b with
   | .shl | .shr | .quo | .rem=> true
   | .add=> match x.ev tm with
    | .d (.s _)=> true
    |_=> false
   |_=> false
 |_=> false
section
variable (E : Env)

def opK (r:List AOp) (ks:List KF) (d:Dec) (dst:Option Nat) (b:Option Bool) (tm:List AV) (v:AV) (h:Heap):Cfg:=
 .ops r ks (decP d dst b (q9 tm dst v)) (q9 tm dst v) h
def Fj (op:COp) (dst:Option Nat) (r:List AOp) (ks:List KF) (d:Dec) (tm:List AV) (h:Heap) (self:Dec→List AV→Cfg):Ev:=
 let plain:Ev:=match stops d.m op tm with
  |true=> .op (gI op E h tm) h (fun v h'=> opK r ks d dst none tm v h')
  |false=> match gI op E h tm with
   | .val v h'=> .go (opK r ks d dst (Ni d op) tm v h')
   | .call f args=> .call (tm,fun _=> some []) f args h (fun v h'=> opK r ks d dst none tm v h')
   | .yield l args=> .yld l args h (fun v h'=> opK r ks d dst none tm v h')
   | .pan v=> .done (.pan v) tm h
   |_=> .stuck
 match op with
 | .pick c a b=> match CQ d c with
  |some true=> .go (opK r ks d dst (CQ d a) tm (a.ev tm) h)
  |some false=> .go (opK r ks d dst (CQ d b) tm (b.ev tm) h)
  |none=> match c with
   | .t t=> brT t tm (fun y tm'=> self (d.add t y) tm')
   |_=> .stuck
 |_=> plain
def H_ (l:List AOp) (ks:List KF) (d:Dec) (tm:List AV) (h:Heap):Ev:=match l with
 |[]=> .go (.fin .nrm ks d tm h)
 |⟨dst,op,g⟩::r=> match g with
  |none=> Fj E op dst r ks d tm h (fun d' tm'=> .ops l ks d' tm' h)
  |some (t,b)=> match PW d t with
   |none=> PX t tm (opK r ks d dst none tm .und h) (fun y tm'=> .ops l ks (d.add t y) tm' h)
   |some true=> match b with
    |true=> Fj E op dst r ks d tm h (fun d' tm'=> .ops l ks d' tm' h)
    |false=> .go (opK r ks d dst none tm .und h)
   |some false=> match b with
    |false=> Fj E op dst r ks d tm h (fun d' tm'=> .ops l ks d' tm' h)
    |true=> .go (opK r ks d dst none tm .und h)

def Fp (tm : List AV) (o : COp) (bnd : List Nat) (l : List (Nat × Heap)) : Option (List AV) := List.rec (some []) (fun p _ ih => match gI o E p.2 tm with
 | .val v' _=> match vQ p.1 bnd with
  |true=> some [v']
  |false=> match ih with
   |some l=> some (v'::l)
   |none=> none
 |_=> none) l
def Dr (tm : List AV) (o : COp) (bnd : List Nat) (l : List (Nat × Heap)) : List St1 := List.rec [] (fun p _ ih => gI o E p.2 tm :: (match vQ p.1 bnd with
 |true=> []
 |false=> ih)) l
def KR (v:AV) (l:List AV):List AV:=List.rec [] (fun _ _ ih=> v::ih) l
def U_ (vs:List AV) (k:AV→List AV→Option (List (AV×St1))):Option (List (AV×St1)):=match vs with
 |v::r=> k v r
 |[]=> none
def abm (a:List (AV×St1)) (r:Option (List (AV×St1))):Option (List (AV×St1)):=match r with
 |some x=> some (a++x)
 |none=> none
def JJ (n0 j:Nat) (l:List DOp) (sn:List (Nat×Heap)) (tm:List AV) (h:Heap) (vs:List AV):Option (List (AV×St1)):=
 List.rec (motive := fun _ => List (Nat × Heap) → List AV → Heap → List AV → Option (List (AV × St1))) (fun _ _ _ _ => some []) (fun x _ ih sn tm h vs => match x.eff || vQ j x.bnd with
  |true=> ih sn (q9 tm x.o.dst .und) h vs
  |false=> match wanted tm x.o.guard with
   |false=> ih sn (q9 tm x.o.dst .und) h vs
   |true=> match x.rsv with
    |some q=> match pR x.o.op tm (n0+q) with
     |some (v,blk)=> ih (Av (n0+q) blk sn) (q9 tm x.o.dst v) (h.set (n0+q) blk) vs
     |none=> none
    |none=> match still x.o.op with
     |false=> none
     |true=> match mI tm x.o.op with
      |true=> U_ vs fun v r=> abm ((gI x.o.op E h tm::Dr E tm x.o.op x.bnd sn).map fun s=> (v,s)) (ih sn (q9 tm x.o.dst v) h r)
      |false=> match gI x.o.op E h tm with
       | .val v _=> ih sn (q9 tm x.o.dst v) h vs
       |_=> none) l sn tm h vs
def CU (n0:Nat) (r:List DOp) (sn:List (Nat×Heap)) (ks:List KF) (d:Dec) (dst:Option Nat) (b:Option Bool) (tm:List AV) (v:AV) (h:Heap):Cfg:=
 .FV n0 r sn ks (decP d dst b (q9 tm dst v)) (q9 tm dst v) h
def CV (n0:Nat) (o:DOp) (r:List DOp) (sn:List (Nat×Heap)) (ks:List KF) (d:Dec) (tm:List AV) (h:Heap) (self:Dec→List AV→Cfg):Ev:=match o.eff with
  |true=> match stops d.m o.o.op tm with
   |true=> .op (gI o.o.op E h tm) h (fun v h'=> CU n0 r ((o.no,h')::sn) ks d o.o.dst none tm v h')
   |false=> match gI o.o.op E h tm with
    | .val v h'=> .go (CU n0 r ((o.no,h')::sn) ks d o.o.dst none tm v h')
    | .call f args=> .call ([],JJ E n0 o.no r sn (q9 tm o.o.dst .und) h) f args h (fun v h'=> CU n0 r ((o.no,h')::sn) ks d o.o.dst none tm v h')
    | .yield l args=> .yld l args h (fun v h'=> CU n0 r ((o.no,h')::sn) ks d o.o.dst none tm v h')
    |_=> .stuck
  |false=> match o.rsv with
    |some q=> match pR o.o.op tm (n0+q) with
      |some (v,blk)=> .go (CU n0 r (Av (n0+q) blk sn) ks d o.o.dst none tm v (h.set (n0+q) blk))
      |none=> .stuck
    |none=> match still o.o.op with
      |false=> .stuck
      |true=>
        let plain:Ev:=match stops d.m o.o.op tm && !(mI tm o.o.op) with
         |true=> .op (gI o.o.op E h tm) h (fun v _=> CU n0 r sn ks d o.o.dst none tm v h)
         |false=> match d.m && mI tm o.o.op with
         |true=> .rdo (gI o.o.op E h tm::Dr E tm o.o.op o.bnd sn) (fun v=> CU n0 r sn ks d o.o.dst none tm v h)
         |false=> match gI o.o.op E h tm with
          | .val v _=> match mI tm o.o.op with
            |false=> .go (CU n0 r sn ks d o.o.dst (Ni d o.o.op) tm v h)
            |true=> match Fp E tm o.o.op o.bnd sn with
              |some vs=> .chk (KR v vs) vs (CU n0 r sn ks d o.o.dst (Ni d o.o.op) tm v h)
              |none=> .stuck
          |_=> .stuck
        match o.o.op with
        | .pick c a b=> match CQ d c with
          |some true=> .go (CU n0 r sn ks d o.o.dst (CQ d a) tm (a.ev tm) h)
          |some false=> .go (CU n0 r sn ks d o.o.dst (CQ d b) tm (b.ev tm) h)
          |none=> match c with
            | .t t=> brT t tm (fun y tm'=> self (d.add t y) tm')
            |_=> .stuck
        |_=> plain
def Fq (n0:Nat) (l:List DOp) (sn:List (Nat×Heap)) (ks:List KF) (d:Dec) (tm:List AV) (h:Heap):Ev:=match l with
 |[]=> .go (.fin .nrm ks d tm h)
 |o::r=> match o.o.guard with
  |none=> CV E n0 o r sn ks d tm h (fun d' tm'=> .FV n0 l sn ks d' tm' h)
  |some (t,b)=> match PW d t with
   |none=> PX t tm (CU n0 r sn ks d o.o.dst none tm .und h) (fun y tm'=> .FV n0 l sn ks (d.add t y) tm' h)
   |some true=> match b with
    |true=> CV E n0 o r sn ks d tm h (fun d' tm'=> .FV n0 l sn ks d' tm' h)
    |false=> .go (CU n0 r sn ks d o.o.dst none tm .und h)
   |some false=> match b with
    |false=> CV E n0 o r sn ks d tm h (fun d' tm'=> .FV n0 l sn ks d' tm' h)
    |true=> .go (CU n0 r sn ks d o.o.dst none tm .und h)

def Ia (c:AC) (ks:List KF) (d:Dec) (tm:List AV) (h:Heap):Ev:=match c with
 | .skip=> .go (.fin .nrm ks d tm h)
 | .reg l=> .go (.ops l ks d tm h)
 | .Fz m l=> .go (.FV h.n l [(1000000,nH h m)] ks d tm (nH h m))
 | .seq a b=> .go (.run a (.seq b::ks) d tm h)
 | .cond c a b=> match CQ d c with
  |some true=> .go (.run a ks d tm h)
  |some false=> .go (.run b ks d tm h)
  |none=> match c with
   | .t t=> brT t tm (fun y tm'=> .run (.cond c a b) ks (d.add t y) tm' h)
   |_=> .stuck
 | .blk id a=> .go (.run a (.blk id::ks) d tm h)
 | .loop a=> .loop a ks tm h
 | .yt g ps asg body=> .yt g ps asg body ks tm h
 | .exit id=> .go (.fin (.exit id) ks d tm h)
 | .ret=> .go (.fin .ret ks d tm h)
 | .bad=> .stuck
def Ib (ex:Ex) (ks:List KF) (d:Dec) (tm:List AV) (h:Heap):Ev:=match ks with
 |[]=> .done ex tm h
 | .seq b::r=> match ex with
  | .nrm=> .go (.run b r d tm h)
  |ex=> .go (.fin ex r d tm h)
 | .blk id::r=> match ex with
  | .exit j=> match Nat.beq j id with
   |true=> .go (.fin .nrm r d tm h)
   |false=> .go (.fin (.exit j) r d tm h)
  |ex=> .go (.fin ex r d tm h)
def step1 (c:Cfg):Ev:=match c with
 | .run c ks d tm h=> Ia c ks d tm h
 | .ops l ks d tm h=> H_ E l ks d tm h
 | .FV n0 l sn ks d tm h=> Fq E n0 l sn ks d tm h
 | .fin ex ks d tm h=> Ib ex ks d tm h
structure rM where
 a:List (List AV)
 b:List (List AV)
 e:Ev
def rM.add (a b:List AV) (o:rM):rM:=match o with
 |⟨x,y,e⟩=> ⟨a::x,b::y,e⟩
def Ic (n : Nat) (c : Cfg) : rM := Nat.rec (motive := fun _ => Cfg → rM) (fun c => ⟨[],[],.go c⟩) (fun _ ih c => match step1 E c with
 | .go c'=> ih c'
 | .chk a b c'=> rM.add a b (ih c')
 |e=> ⟨[],[],e⟩) n c
end

section
variable (E : Env) (Q : Ex → List AV → Heap → Prop)
def wK:List KF→Ex→List AV→Heap→Prop
 |[]=> Q
 | .seq b::r=> UF E b (wK r)
 | .blk id::r=> Ll id (wK r)
def DOk (d:Dec) (tm:List AV):Prop:=∀p∈d.l,getL tm p.1= .d (.b p.2)
def sem:Cfg→Prop
 | .run c ks d tm h=> DOk d tm→wpC E c tm h (wK E Q ks)
 | .ops l ks d tm h=> DOk d tm→wpC E (.reg l) tm h (wK E Q ks)
 | .FV n0 l sn ks d tm h=> DOk d tm→WD E n0 l sn ⟨tm,[],none⟩ h (fun ex fr h=> ∃tm',fr=⟨tm',[],none⟩∧wK E Q ks ex tm' h)
 | .fin ex ks d tm h=> DOk d tm→wK E Q ks ex tm h
def Wd (c:Cfg):Prop:=sem E Q c
def Rnd (E:Env) (l:Nat) (args:List AV) (h:Heap) (r:Ex×AV×Heap):Prop:=∃n,round (mz E n) l args h=some r
def evW:Ev→Prop
 | .go c=> Wd E Q c
 | .br x k=> (x=true→Wd E Q (k true))∧(x=false→Wd E Q (k false))
 | .call p f args h k=> (∃v h',Cal E f args h (.nrm,v,h')∧Wd E Q (k v h'))∨(∃vs l,p.2 vs=some l∧(∀x∈l,∃h',x.2= .val x.1 h')∧∃x v h',Cal E f args h (.pan x,v,h')∧Q (.pan x) p.1 h')
 | .yld l args h k=> ∃v h',Rnd E l args h (.nrm,v,h')∧Wd E Q (k v h')
 | .loop a ks tm h=> wpC E (.loop a) tm h (wK E Q ks)
 | .yt g ps asg body ks tm h=> wpC E (.yt g ps asg body) tm h (wK E Q ks)
 | .done ex tm h=> Q ex tm h
 | .op s _ k=> ∃v h',s= .val v h'∧Wd E Q (k v h')
 | .chk a b c=> a=b∧Wd E Q c
 | .rdo l k=> ∃v,(∀s∈l,∃h',s= .val v h')∧Wd E Q (k v)
 | .stuck=> False
end

section
variable {E : Env} {Q : Ex → List AV → Heap → Prop}
theorem L3 {d:Dec} {tm:List AV} (ok:DOk d tm) {t:Nat} {b:Bool} (h:PW d t=some b):getL tm t= .d (.b b):=by
 obtain ⟨m,d⟩:=d
 induction d with
 |nil=> cases h
 |cons p d ih=>
  have h:(match Nat.beq p.1 t with | true=> some p.2 | false=> SY d t)=some b:=h
  split at h
  ·rename_i e
   cases h
   rw [←Nat.eq_of_beq_eq_true e]
   exact ok p (by simp)
  ·exact ih (fun q hq=> ok q (List.mem_cons_of_mem _ hq)) h
theorem qH {d:Dec} {tm:List AV} (ok:DOk d tm) {x:X} {b:Bool} (h:CQ d x=some b):x.ev tm= .d (.b b):=by
 unfold CQ at h
 split at h
 ·exact L3 ok h
 ·cases h; rfl
 ·cases h
theorem Ie {d:Dec} {tm:List AV} (ok:DOk d tm) {o:COp} {b:Bool} (h:Ni d o=some b) {hp:Heap} {v:AV} {h':Heap} (hs:gI o E hp tm= .val v h'):v= .d (.b b):=by
 unfold Ni at h
 split at h
 ·have e:=qH ok h
  simp only [gI,IS,e,St1.val.injEq] at hs
  exact hs.1.symm
 ·rename_i x
  split at h
  ·rename_i c hc
   cases h
   have e:=qH ok hc
   simp only [gI,FC,e,unA,ov,St1.val.injEq] at hs
   exact hs.1.symm
  ·cases h
 ·rename_i c x y
  split at h
  ·rename_i hc
   have e:=qH ok hc
   have e2:=qH ok h
   simp only [gI,uN,e,B8,e2,St1.val.injEq] at hs
   exact hs.1.symm
  ·rename_i hc
   have e:=qH ok hc
   have e2:=qH ok h
   simp only [gI,uN,e,B8,e2,St1.val.injEq] at hs
   exact hs.1.symm
  ·cases h
 ·cases h
theorem Ig {d:Dec} {tm:List AV} (ok:DOk d tm) (t:Nat) (v:AV):DOk (Sd d t) (setL tm t v):=by
 obtain ⟨m,d⟩:=d
 induction d with
 |nil=> intro p hp; cases hp
 |cons q d ih=>
  intro p hp
  have hp:p∈(match Nat.beq q.1 t with | true=> PV d t | false=> q::PV d t):=hp
  have ih:=ih (fun q hq=> ok q (List.mem_cons_of_mem _ hq))
  split at hp
  ·exact ih p hp
  ·rename_i e
   rcases List.mem_cons.1 hp with rfl | hp
   ·rw [I5,if_neg (fun h=> by subst h; simp at e)]
    exact ok p (by simp)
   ·exact ih p hp
theorem nU {d:Dec} {tm:List AV} (ok:DOk d tm) (dst:Option Nat) (b:Option Bool) (v:AV) (hb:∀x,b=some x→v= .d (.b x)):DOk (decP d dst b (q9 tm dst v)) (q9 tm dst v):=by
 unfold decP
 cases dst with
 |none=> exact ok
 |some t=>
  cases b with
  |none=> exact Ig ok t v
  |some x=>
   have hv:=hb x rfl
   subst hv
   simp only
   split
   ·exact Ig ok t _
   ·rename_i hu
    intro p hp
    rcases List.mem_cons.1 hp with rfl | hp
    ·simp only [q9] at hu ⊢
     rw [I5] at hu ⊢
     simp only [if_true] at hu ⊢
     split
     ·rfl
     ·rename_i hl
      rw [if_neg hl] at hu
      have:getL tm t= .und:=by
       have key:∀(l:List AV) (t:Nat),¬t < l.length→getL l t= .und:=by
        intro l
        induction l with
        |nil=> intro t _; exact Ot t
        |cons a r ih=>
         intro t ht
         cases t with
         |zero=> simp at ht
         |succ t=> rw [vO]; exact ih t (by simp at ht; omega)
       exact key tm t hl
      exact absurd this hu
    ·exact Ig ok t _ p hp
theorem GA:∀(l:List AV) (t:Nat) (v:AV),getL l t=v→setL l t v=l:=by
 intro l
 induction l with
 |nil=> intro t v _; exact IQ t v
 |cons a r ih=>
  intro t v h
  cases t with
  |zero=> rw [AQ] at h; rw [Ga,h]
  |succ t=> rw [vO] at h; rw [C7,ih t v h]
theorem Ih {t:Nat} {tm:List AV} {k:Bool→List AV→Cfg} (he:evW E Q (brT t tm k)):∃y,getL tm t= .d (.b y)∧Wd E Q (k y tm):=by
 unfold brT at he
 split at he
 ·rename_i x hx
  obtain ⟨h1,h2⟩:=he
  refine ⟨x,hx,?_⟩
  cases x with
  |true=>
   have h3:Wd E Q (k true (setL tm t (.d (.b true)))):=h1 rfl
   rwa [GA _ _ _ hx] at h3
  |false=>
   have h3:Wd E Q (k false (setL tm t (.d (.b false)))):=h2 rfl
   rwa [GA _ _ _ hx] at h3
 ·exact he.elim
theorem L5 {t:Nat} {tm:List AV} {off:Cfg} {k:Bool→List AV→Cfg} (he:evW E Q (PX t tm off k)):(getL tm t= .und∧Wd E Q off)∨∃y,getL tm t= .d (.b y)∧Wd E Q (k y tm):=by
 by_cases hu:getL tm t= .und
 ·unfold PX at he; rw [hu] at he
  exact .inl ⟨hu,he⟩
 ·refine .inr (Ih (t:=t) (k:=k) ?_)
  unfold PX at he
  unfold brT
  split at he
  ·rename_i e; exact absurd e hu
  ·rename_i x e; rw [e]; exact he
  ·exact he.elim
theorem DOk.cons {d:Dec} {tm:List AV} (ok:DOk d tm) {t:Nat} {y:Bool} (h:getL tm t= .d (.b y)):DOk (d.add t y) tm:=by
 intro p hp
 rcases List.mem_cons.1 hp with rfl | hp
 ·exact h
 ·exact ok p hp

theorem wpR.val {dst:Option Nat} {op:COp} {g:Option (Nat×Bool)} {r:List AOp} {tm:List AV} {h h1:Heap} {v:AV} (hw:wanted tm g=true) (hs:gI op E h tm= .val v h1) (w:wpC E (.reg r) (q9 tm dst v) h1 Q):wpC E (.reg (⟨dst,op,g⟩::r)) tm h Q:=by
 obtain ⟨n,ex,fr',h',hr,q⟩:=w
 cases n with
 |zero=> cases hr
 |succ n=>
 refine WC.reg (.val hw hs ?_)
 refine ⟨n,ex,fr',h',?_,q⟩
 cases dst <;> exact hr
theorem wpR.off {dst:Option Nat} {op:COp} {g:Option (Nat×Bool)} {r:List AOp} {tm:List AV} {h:Heap} (hw:wanted tm g=false) (w:wpC E (.reg r) (q9 tm dst .und) h Q):wpC E (.reg (⟨dst,op,g⟩::r)) tm h Q:=by
 obtain ⟨n,ex,fr',h',hr,q⟩:=w
 cases n with
 |zero=> cases hr
 |succ n=>
 refine WC.reg (.off hw ?_)
 refine ⟨n,ex,fr',h',?_,q⟩
 cases dst <;> exact hr
theorem wpR.call {dst:Option Nat} {op:COp} {g:Option (Nat×Bool)} {r:List AOp} {tm:List AV} {h h1:Heap} {f:FuncId} {args:List AV} {v:AV} (hw:wanted tm g=true) (hs:gI op E h tm= .call f args) (hc:Cal E f args h (.nrm,v,h1))
  (w:wpC E (.reg r) (q9 tm dst v) h1 Q):wpC E (.reg (⟨dst,op,g⟩::r)) tm h Q:=by
 obtain ⟨n,ex,fr',h',hr,q⟩:=w
 cases n with
 |zero=> cases hr
 |succ n=>
 refine WC.reg (.call hw hs hc ?_)
 refine ⟨n,ex,fr',h',?_,q⟩
 cases dst <;> exact hr
theorem wpR.yld {dst:Option Nat} {op:COp} {g:Option (Nat×Bool)} {r:List AOp} {tm:List AV} {h h1:Heap} {l:Nat} {args:List AV} {v:AV} (hw:wanted tm g=true) (hs:gI op E h tm= .yield l args) (hc:Rnd E l args h (.nrm,v,h1))
  (w:wpC E (.reg r) (q9 tm dst v) h1 Q):wpC E (.reg (⟨dst,op,g⟩::r)) tm h Q:=by
 obtain ⟨n,ex,fr',h',hr,q⟩:=w
 obtain ⟨m,hm⟩:=hc
 cases n with
 |zero=> cases hr
 |succ n=>
 have hr:qy E (mz E n) r ⟨q9 tm dst v,[],none⟩ h1=some (ex,fr',h'):=hr
 refine WC.reg ⟨max m n,ex,fr',h',?_,q⟩
 show yu E (mz E (max m n)) ⟨dst,op,g⟩ (qy E (mz E (max m n)) r) ⟨tm,[],none⟩ h=_
 have hm:=zN (pZ (Nat.le_max_left m n)) hm
 simp only [yu,hw,hs,Ai,hm,C9]
 have:=Ay (pZ (Nat.le_max_right m n)) _ _ _ _ hr
 cases dst <;> exact this
theorem Fu {x:AV} {tm:List AV} {h:Heap} (q:Q (.pan x) tm h):∀ks,wK E Q ks (.pan x) tm h
 |[]=> q
 | .seq _::r=> Fu q r
 | .blk _::r=> Fu q r
theorem wpR.pan {dst:Option Nat} {op:COp} {g:Option (Nat×Bool)} {r:List AOp} {tm:List AV} {h:Heap} {v:AV} (hw:wanted tm g=true) (hs:gI op E h tm= .pan v) (q:Q (.pan v) tm h):wpC E (.reg (⟨dst,op,g⟩::r)) tm h Q:=by
 refine WC.reg ⟨0,.pan v,⟨tm,[],none⟩,h,?_,tm,rfl,q⟩
 show yu E (mz E 0) ⟨dst,op,g⟩ (qy E (mz E 0) r) ⟨tm,[],none⟩ h=_
 simp only [yu,hw,hs,Ai]
theorem wpR.callP {dst:Option Nat} {op:COp} {g:Option (Nat×Bool)} {r:List AOp} {tm:List AV} {h h1:Heap} {f:FuncId} {args:List AV} {x v:AV} (hw:wanted tm g=true) (hs:gI op E h tm= .call f args) (hc:Cal E f args h (.pan x,v,h1)) (q:Q (.pan x) tm h1):
  wpC E (.reg (⟨dst,op,g⟩::r)) tm h Q:=by
 obtain ⟨n,hn⟩:=hc
 refine WC.reg ⟨n,.pan x,⟨tm,[],none⟩,h1,?_,tm,rfl,q⟩
 show yu E (mz E n) ⟨dst,op,g⟩ (qy E (mz E n) r) ⟨tm,[],none⟩ h=_
 unfold qj at hn
 simp only [yu,hw,hs,Ai,hn,C9]
theorem wpR.nil {tm:List AV} {h:Heap} (q:Q .nrm tm h):wpC E (.reg []) tm h Q:=WC.reg (.nil ⟨tm,rfl,q⟩)

theorem sW {d:Dec} {tm:List AV} (ok:DOk d tm) {t:Nat} {y b:Bool} (h:PW d t=some y):wanted tm (some (t,b))=(y==b):=by
 have:=L3 ok h
 simp only [wanted,this]
 cases y <;> cases b <;> rfl
theorem qI {x:Bool} (h:(none:Option Bool)=some x):False:=by cases h

theorem Dt {op:COp} {dst:Option Nat} {g:Option (Nat×Bool)} {r:List AOp} {ks:List KF} {d:Dec} {tm:List AV} {h:Heap} {self:Dec→List AV→Cfg} (ok:DOk d tm) (hw:wanted tm g=true)
  (hself:∀d',DOk d' tm→Wd E Q (self d' tm)→wpC E (.reg (⟨dst,op,g⟩::r)) tm h (wK E Q ks)) (he:evW E Q (Fj E op dst r ks d tm h self)):wpC E (.reg (⟨dst,op,g⟩::r)) tm h (wK E Q ks):=by
 have plain : evW E Q (match stops d.m op tm with
  |true=> .op (gI op E h tm) h (fun v h'=> opK r ks d dst none tm v h')
  |false=> match gI op E h tm with
   | .val v h'=> .go (opK r ks d dst (Ni d op) tm v h')
   | .call f args=> .call (tm,fun _=> some []) f args h (fun v h'=> opK r ks d dst none tm v h')
   | .yield l args=> .yld l args h (fun v h'=> opK r ks d dst none tm v h')
   | .pan v=> .done (.pan v) tm h
   |_=> .stuck)→wpC E (.reg (⟨dst,op,g⟩::r)) tm h (wK E Q ks):=by
  intro he
  split at he
  ·obtain ⟨v,h',hs,hk⟩:=he
   exact wpR.val hw hs (hk (nU ok dst none v fun x hx=> (qI hx).elim))
  split at he
  ·rename_i v h' hs
   exact wpR.val hw hs (he (nU ok dst _ v fun x hx=> Ie ok hx hs))
  ·rename_i f args hs
   rcases he with ⟨v,h',hc,hk⟩ | ⟨_,_,_,_,x,v,h',hc,q⟩
   ·exact wpR.call hw hs hc (hk (nU ok dst none v fun x hx=> (qI hx).elim))
   ·exact wpR.callP hw hs hc (Fu q ks)
  ·rename_i l args hs
   obtain ⟨v,h',hc,hk⟩:=he
   exact wpR.yld hw hs hc (hk (nU ok dst none v fun x hx=> (qI hx).elim))
  ·rename_i v hs
   exact wpR.pan hw hs (Fu he ks)
  ·exact he.elim
 unfold Fj at he
 simp only at he
 split at he
 ·rename_i c a b
  split at he
  ·rename_i hc
   exact wpR.val (v:=a.ev tm) (h1:=h) hw (by simp only [gI,uN,qH ok hc,B8]) (he (nU ok dst _ _ fun x hx=> qH ok hx))
  ·rename_i hc
   exact wpR.val (v:=b.ev tm) (h1:=h) hw (by simp only [gI,uN,qH ok hc,B8]) (he (nU ok dst _ _ fun x hx=> qH ok hx))
  ·split at he
   ·rename_i t
    obtain ⟨y,hy,hk⟩:=Ih he
    exact hself _ (ok.cons hy) hk
   ·exact he.elim
 ·exact plain he

theorem KS {l:List AOp} {ks:List KF} {d:Dec} {tm:List AV} {h:Heap} (he:evW E Q (H_ E l ks d tm h)):Wd E Q (.ops l ks d tm h):=by
 intro ok
 unfold H_ at he
 split at he
 ·exact wpR.nil (he ok)
 ·rename_i dst op g r
  split at he
  ·exact Dt ok rfl (fun d' ok' hk=> by exact hk ok') he
  ·rename_i t b
   split at he
   ·rcases L5 he with ⟨hu,hk⟩ | ⟨y,hy,hk⟩
    ·exact wpR.off (by simp only [wanted,hu]) (hk (nU ok dst none _ fun x hx=> (qI hx).elim))
    ·exact hk (ok.cons hy)
   ·rename_i hd
    split at he
    ·exact Dt ok (sW ok hd) (fun d' ok' hk=> by exact hk ok') he
    ·exact wpR.off (sW ok hd) (he (nU ok dst none _ fun x hx=> (qI hx).elim))
   ·rename_i hd
    split at he
    ·exact Dt ok (sW ok hd) (fun d' ok' hk=> by exact hk ok') he
    ·exact wpR.off (sW ok hd) (he (nU ok dst none _ fun x hx=> (qI hx).elim))

variable {PQ : Ex → Fr → Heap → Prop}
theorem WD.nil {n0:Nat} {sn:List (Nat×Heap)} {fr:Fr} {h:Heap} (q:PQ .nrm fr h):WD E n0 [] sn fr h PQ:=⟨0,_,_,_,rfl,q⟩
theorem WD.off {n0:Nat} {o:DOp} {r:List DOp} {sn:List (Nat×Heap)} {tm:List AV} {h:Heap} (hw:wanted tm o.o.guard=false) (k:WD E n0 r sn ⟨q9 tm o.o.dst .und,[],none⟩ h PQ):WD E n0 (o::r) sn ⟨tm,[],none⟩ h PQ:=by
 obtain ⟨n,ex,fr',h',h1,h2⟩:=k
 refine ⟨n,ex,fr',h',?_,h2⟩
 show doD E (mz E n) o n0 r (oM E (mz E n) n0 r) sn ⟨tm,[],none⟩ h=_
 simp only [doD,hw]
 cases hd:o.o.dst <;> rw [hd] at h1 <;> exact h1
theorem WD.eff {n0:Nat} {o:DOp} {r:List DOp} {sn:List (Nat×Heap)} {tm:List AV} {h h1:Heap} {v:AV} (hw:wanted tm o.o.guard=true) (he:o.eff=true) (hs:gI o.o.op E h tm= .val v h1) (k:WD E n0 r ((o.no,h1)::sn) ⟨q9 tm o.o.dst v,[],none⟩ h1 PQ):
  WD E n0 (o::r) sn ⟨tm,[],none⟩ h PQ:=by
 obtain ⟨n,ex,fr',h',k1,k2⟩:=k
 refine ⟨n,ex,fr',h',?_,k2⟩
 show doD E (mz E n) o n0 r (oM E (mz E n) n0 r) sn ⟨tm,[],none⟩ h=_
 simp only [doD,hw,he,hs,doE]
 cases hd:o.o.dst <;> rw [hd] at k1 <;> exact k1
theorem WD.call {n0:Nat} {o:DOp} {r:List DOp} {sn:List (Nat×Heap)} {tm:List AV} {h h1:Heap} {f:FuncId} {args:List AV} {v:AV} (hw:wanted tm o.o.guard=true) (he:o.eff=true) (hs:gI o.o.op E h tm= .call f args) (hc:Cal E f args h (.nrm,v,h1))
  (k:WD E n0 r ((o.no,h1)::sn) ⟨q9 tm o.o.dst v,[],none⟩ h1 PQ):WD E n0 (o::r) sn ⟨tm,[],none⟩ h PQ:=by
 obtain ⟨n,ex,fr',h',k1,k2⟩:=k
 obtain ⟨m,hm⟩:=hc
 refine ⟨max m n,ex,fr',h',?_,k2⟩
 show doD E (mz E (max m n)) o n0 r (oM E (mz E (max m n)) n0 r) sn ⟨tm,[],none⟩ h=_
 have hm:=Cal.le (Nat.le_max_left m n) hm
 unfold qj at hm
 have k1:=zO (pZ (Nat.le_max_right m n)) _ _ _ _ _ k1
 simp only [doD,hw,he,hs,doE,hm]
 cases hd:o.o.dst <;> rw [hd] at k1 <;> exact k1
theorem WD.callP {n0:Nat} {o:DOp} {r:List DOp} {sn:List (Nat×Heap)} {tm:List AV} {h h1:Heap} {f:FuncId} {args:List AV} {x v:AV} (hw:wanted tm o.o.guard=true) (he:o.eff=true) (hs:gI o.o.op E h tm= .call f args) (hc:Cal E f args h (.pan x,v,h1))
  (hp:∃R,yR E n0 o.no r sn ⟨q9 tm o.o.dst .und,[],none⟩ h=some R) (q:PQ (.pan x) ⟨[],[],none⟩ h1):WD E n0 (o::r) sn ⟨tm,[],none⟩ h PQ:=by
 obtain ⟨m,hm⟩:=hc
 obtain ⟨R,hp⟩:=hp
 refine ⟨m,.pan x,⟨[],[],none⟩,h1,?_,q⟩
 show doD E (mz E m) o n0 r (oM E (mz E m) n0 r) sn ⟨tm,[],none⟩ h=_
 unfold qj at hm
 have hp:yR E n0 o.no r sn (lW ⟨tm,[],none⟩ o.o.dst .und) h=some R:=by
  cases hd:o.o.dst <;> rw [hd] at hp <;> exact hp
 simp only [doD,hw,he,hs,doE,hm,hp]
theorem WD.yld {n0:Nat} {o:DOp} {r:List DOp} {sn:List (Nat×Heap)} {tm:List AV} {h h1:Heap} {l:Nat} {args:List AV} {v:AV} (hw:wanted tm o.o.guard=true) (he:o.eff=true) (hs:gI o.o.op E h tm= .yield l args) (hc:Rnd E l args h (.nrm,v,h1))
  (k:WD E n0 r ((o.no,h1)::sn) ⟨q9 tm o.o.dst v,[],none⟩ h1 PQ):WD E n0 (o::r) sn ⟨tm,[],none⟩ h PQ:=by
 obtain ⟨n,ex,fr',h',k1,k2⟩:=k
 obtain ⟨m,hm⟩:=hc
 refine ⟨max m n,ex,fr',h',?_,k2⟩
 show doD E (mz E (max m n)) o n0 r (oM E (mz E (max m n)) n0 r) sn ⟨tm,[],none⟩ h=_
 have hm:=zN (pZ (Nat.le_max_left m n)) hm
 have k1:=zO (pZ (Nat.le_max_right m n)) _ _ _ _ _ k1
 simp only [doD,hw,he,hs,doE,hm]
 cases hd:o.o.dst <;> rw [hd] at k1 <;> exact k1
theorem WD.psh {n0 q:Nat} {o:DOp} {r:List DOp} {sn:List (Nat×Heap)} {tm:List AV} {h:Heap} {v:AV} {blk:Blk} (hw:wanted tm o.o.guard=true) (he:o.eff=false) (hq:o.rsv=some q) (hs:pR o.o.op tm (n0+q)=some (v,blk)) (k:WD E n0 r (Av (n0+q) blk sn) ⟨q9 tm o.o.dst v,[],none⟩ (h.set (n0+q) blk) PQ):
  WD E n0 (o::r) sn ⟨tm,[],none⟩ h PQ:=by
 obtain ⟨n,ex,fr',h',k1,k2⟩:=k
 refine ⟨n,ex,fr',h',?_,k2⟩
 show doD E (mz E n) o n0 r (oM E (mz E n) n0 r) sn ⟨tm,[],none⟩ h=_
 simp only [doD,hw,he,doP,hq,hs]
 cases hd:o.o.dst <;> rw [hd] at k1 <;> exact k1
theorem WD.still {n0:Nat} {o:DOp} {r:List DOp} {sn:List (Nat×Heap)} {tm:List AV} {h h1:Heap} {v:AV} (hw:wanted tm o.o.guard=true) (he:o.eff=false) (hq:o.rsv=none) (hst:still o.o.op=true) (hs:gI o.o.op E h tm= .val v h1)
  (hd:mI tm o.o.op=false∨pE E tm o.o.op v o.bnd sn=true) (k:WD E n0 r sn ⟨q9 tm o.o.dst v,[],none⟩ h PQ):WD E n0 (o::r) sn ⟨tm,[],none⟩ h PQ:=by
 obtain ⟨n,ex,fr',h',k1,k2⟩:=k
 refine ⟨n,ex,fr',h',?_,k2⟩
 show doD E (mz E n) o n0 r (oM E (mz E n) n0 r) sn ⟨tm,[],none⟩ h=_
 simp only [doD,hw,he,doP,hq,hst,hs]
 have k1:oM E (mz E n) n0 r sn (lW ⟨tm,[],none⟩ o.o.dst v) h=some (ex,fr',h'):=by
  cases hd:o.o.dst <;> rw [hd] at k1 <;> exact k1
 cases hx:mI tm o.o.op with
 |false=> exact k1
 |true=>
  rcases hd with hd | hd
  ·rw [hx] at hd; cases hd
  ·simp only [hd]; exact k1

theorem JK {tm:List AV} {o:COp} {v:AV} {bnd:List Nat}:∀{l:List (Nat×Heap)} {vs:List AV},Fp E tm o bnd l=some vs→KR v vs=vs→pE E tm o v bnd l=true:=by
 intro l
 induction l with
 |nil=> intro vs _ _; rfl
 |cons p r ih=>
  obtain ⟨j,hb⟩:=p
  intro vs h e
  have h:(match gI o E hb tm with | .val v' _=> (match vQ j bnd with | true=> some [v'] | false=> (match Fp E tm o bnd r with | some l=> some (v'::l) | none=> none)) | _=> none)=some vs:=h
  unfold pE
  split at h
  ·rename_i v' h1 hs
   rw [hs]
   split at h
   ·rename_i hm
    cases h
    have e:v::([]:List AV)=[v']:=e
    cases e
    simp only [zu,hm]
   ·rename_i hm
    split at h
    ·rename_i l hl
     cases h
     have e:v::KR v l=v'::l:=e
     injection e with e1 e2
     subst e1
     simp only [zu,hm]
     exact ih hl e2
    ·cases h
  ·cases h
theorem GB {tm:List AV} {o:COp} {v:AV} {bnd:List Nat}:∀{l:List (Nat×Heap)},(∀s∈Dr E tm o bnd l,∃h',s= .val v h')→pE E tm o v bnd l=true:=by
 intro l
 induction l with
 |nil=> intro _; rfl
 |cons p r ih=>
  obtain ⟨j,hb⟩:=p
  intro h
  have hd:Dr E tm o bnd ((j,hb)::r)=gI o E hb tm::(match vQ j bnd with | true=> [] | false=> Dr E tm o bnd r):=rfl
  rw [hd] at h
  obtain ⟨h',hs⟩:=h _ (List.mem_cons_self ..)
  unfold pE
  rw [hs]
  simp only [zu]
  cases hm:vQ j bnd with
  |true=> rfl
  |false=>
   rw [hm] at h
   exact ih fun s hx=> h s (List.mem_cons_of_mem _ hx)
theorem Se {n0 j:Nat}:∀{l:List DOp} {sn:List (Nat×Heap)} {tm:List AV} {h:Heap} {vs:List AV} {a:List (AV×St1)},JJ E n0 j l sn tm h vs=some a→(∀x∈a,∃h',x.2= .val x.1 h')→∃R,yR E n0 j l sn ⟨tm,[],none⟩ h=some R:=by
 intro l
 induction l with
 |nil=> intro sn tm h vs a _ _; exact ⟨_,rfl⟩
 |cons x r ih=>
  intro sn tm h vs a hr e
  have hr : (match x.eff || vQ j x.bnd with
   |true=> JJ E n0 j r sn (q9 tm x.o.dst .und) h vs
   |false=> match wanted tm x.o.guard with
    |false=> JJ E n0 j r sn (q9 tm x.o.dst .und) h vs
    |true=> match x.rsv with
     |some q=> match pR x.o.op tm (n0+q) with
      |some (v,blk)=> JJ E n0 j r (Av (n0+q) blk sn) (q9 tm x.o.dst v) (h.set (n0+q) blk) vs
      |none=> none
     |none=> match still x.o.op with
      |false=> none
      |true=> match mI tm x.o.op with
       |true=> U_ vs fun v r'=> abm ((gI x.o.op E h tm::Dr E tm x.o.op x.bnd sn).map fun s=> (v,s)) (JJ E n0 j r sn (q9 tm x.o.dst v) h r')
       |false=> match gI x.o.op E h tm with
        | .val v _=> JJ E n0 j r sn (q9 tm x.o.dst v) h vs
        |_=> none)=some a:=hr
  have put:∀v,lW ⟨tm,[],none⟩ x.o.dst v=⟨q9 tm x.o.dst v,[],none⟩:=fun v=> by cases x.o.dst <;> rfl
  show ∃ R,(match x.eff || vQ j x.bnd with
   |true=> yR E n0 j r sn (lW ⟨tm,[],none⟩ x.o.dst .und) h
   |false=> match wanted tm x.o.guard with
    |true=> doP E x n0 (yR E n0 j r) sn ⟨tm,[],none⟩ h
    |false=> yR E n0 j r sn (lW ⟨tm,[],none⟩ x.o.dst .und) h)=some R
  simp only [put]
  split at hr
  ·exact ih hr e
  ·split at hr
   ·rename_i hw
    simp only [hw]
    exact ih hr e
   ·rename_i hw
    simp only [hw]
    unfold doP
    split at hr
    ·rename_i q hq
     split at hr
     ·rename_i v blk hb
      simp only [hq,hb,put]
      exact ih hr e
     ·cases hr
    ·rename_i hq
     split at hr
     ·cases hr
     ·rename_i hst
      split at hr
      ·rename_i hd
       cases vs with
       |cons v r'=>
        simp only [U_] at hr
        cases hp:JJ E n0 j r sn (q9 tm x.o.dst v) h r' with
        |none=> rw [hp] at hr; cases hr
        |some a'=>
         rw [hp] at hr
         cases hr
         obtain ⟨h1,hs⟩:=e (v,gI x.o.op E h tm) (by simp)
         have hro:pE E tm x.o.op v x.bnd sn=true:=GB fun s hs=> e (v,s) (by simp [hs])
         simp only at hs
         simp only [hq,hst,hs,hd,put,hro]
         exact ih hp fun y hy=> e y (List.mem_append_right _ hy)
       |nil=> cases hr
      ·rename_i hd
       split at hr
       ·rename_i v h1 hs
        simp only [hq,hst,hs,hd,put]
        exact ih hr e
       ·cases hr
theorem BP {n0:Nat} {o:DOp} {r:List DOp} {sn:List (Nat×Heap)} {ks:List KF} {d:Dec} {tm:List AV} {h:Heap} {self:Dec→List AV→Cfg} (ok:DOk d tm) (hw:wanted tm o.o.guard=true)
  (hself:∀d',DOk d' tm→Wd E Q (self d' tm)→WD E n0 (o::r) sn ⟨tm,[],none⟩ h (fun ex fr h=> ∃tm',fr=⟨tm',[],none⟩∧wK E Q ks ex tm' h)) (he:evW E Q (CV E n0 o r sn ks d tm h self)):
  WD E n0 (o::r) sn ⟨tm,[],none⟩ h (fun ex fr h=> ∃tm',fr=⟨tm',[],none⟩∧wK E Q ks ex tm' h):=by
 unfold CV at he
 split at he
 ·rename_i hef
  split at he
  ·obtain ⟨v,h',hs,hk⟩:=he
   exact .eff hw hef hs (hk (nU ok o.o.dst none v fun x hx=> (qI hx).elim))
  split at he
  ·rename_i v h' hs
   exact .eff hw hef hs (he (nU ok o.o.dst none v fun x hx=> (qI hx).elim))
  ·rename_i f args hs
   rcases he with ⟨v,h',hc,hk⟩ | ⟨vs,a,e,e2,x,v,h',hc,q⟩
   ·exact .call hw hef hs hc (hk (nU ok o.o.dst none v fun x hx=> (qI hx).elim))
   ·exact .callP hw hef hs hc (Se e e2) ⟨_,rfl,Fu q ks⟩
  ·rename_i l args hs
   obtain ⟨v,h',hc,hk⟩:=he
   exact .yld hw hef hs hc (hk (nU ok o.o.dst none v fun x hx=> (qI hx).elim))
  ·exact he.elim
 ·rename_i hef
  split at he
  ·rename_i q hq
   split at he
   ·rename_i v blk hs
    exact .psh hw hef hq hs (he (nU ok o.o.dst none v fun x hx=> (qI hx).elim))
   ·exact he.elim
  ·rename_i hq
   split at he
   ·exact he.elim
   ·rename_i hst
    simp only at he
    split at he
    ·rename_i c a b hop
     split at he
     ·rename_i hc
      have hs:gI o.o.op E h tm= .val (a.ev tm) h:=by simp only [hop,gI,uN,qH ok hc,B8]
      exact .still hw hef hq hst hs (.inl (by rw [hop]; rfl)) (he (nU ok o.o.dst _ _ fun x hx=> qH ok hx))
     ·rename_i hc
      have hs:gI o.o.op E h tm= .val (b.ev tm) h:=by simp only [hop,gI,uN,qH ok hc,B8]
      exact .still hw hef hq hst hs (.inl (by rw [hop]; rfl)) (he (nU ok o.o.dst _ _ fun x hx=> qH ok hx))
     ·split at he
      ·rename_i t
       obtain ⟨y,hy,hk⟩:=Ih he
       exact hself _ (ok.cons hy) hk
      ·exact he.elim
    ·split at he
     ·rename_i hsd
      obtain ⟨v,h',hs,hk⟩:=he
      simp only [Bool.and_eq_true,Bool.not_eq_true'] at hsd
      exact .still hw hef hq hst hs (.inl hsd.2) (hk (nU ok o.o.dst none v fun x hx=> (qI hx).elim))
     split at he
     ·obtain ⟨v,hs,hk⟩:=he
      obtain ⟨h1,hs1⟩:=hs _ (List.mem_cons_self ..)
      exact .still hw hef hq hst hs1 (.inr (GB fun s hx=> hs s (List.mem_cons_of_mem _ hx))) (hk (nU ok o.o.dst none v fun x hx=> (qI hx).elim))
     split at he
     ·rename_i v h1 hs
      split at he
      ·rename_i hdp
       exact .still hw hef hq hst hs (.inl hdp) (he (nU ok o.o.dst _ v fun x hx=> Ie ok hx hs))
      ·split at he
       ·rename_i vs hrd
        exact .still hw hef hq hst hs (.inr (JK hrd he.1)) (he.2 (nU ok o.o.dst _ v fun x hx=> Ie ok hx hs))
       ·exact he.elim
     ·exact he.elim

theorem JL {n0:Nat} {l:List DOp} {sn:List (Nat×Heap)} {ks:List KF} {d:Dec} {tm:List AV} {h:Heap} (he:evW E Q (Fq E n0 l sn ks d tm h)):Wd E Q (.FV n0 l sn ks d tm h):=by
 intro ok
 unfold Fq at he
 split at he
 ·exact .nil ⟨tm,rfl,he ok⟩
 ·rename_i o r
  split at he
  ·rename_i hg
   exact BP ok (by rw [hg]; rfl) (fun d' ok' hk=> by exact hk ok') he
  ·rename_i t b hg
   split at he
   ·rcases L5 he with ⟨hu,hk⟩ | ⟨y,hy,hk⟩
    ·exact .off (by rw [hg]; simp only [wanted,hu]) (hk (nU ok o.o.dst none _ fun x hx=> (qI hx).elim))
    ·exact hk (ok.cons hy)
   ·rename_i hd
    split at he
    ·exact BP ok (by rw [hg]; exact sW ok hd) (fun d' ok' hk=> by exact hk ok') he
    ·exact .off (by rw [hg]; exact sW ok hd) (he (nU ok o.o.dst none _ fun x hx=> (qI hx).elim))
   ·rename_i hd
    split at he
    ·exact BP ok (by rw [hg]; exact sW ok hd) (fun d' ok' hk=> by exact hk ok') he
    ·exact .off (by rw [hg]; exact sW ok hd) (he (nU ok o.o.dst none _ fun x hx=> (qI hx).elim))

theorem KT {c:AC} {ks:List KF} {d:Dec} {tm:List AV} {h:Heap} (he:evW E Q (Ia c ks d tm h)):Wd E Q (.run c ks d tm h):=by
 intro ok
 unfold Ia at he
 split at he
 ·exact .skip (he ok)
 ·exact he ok
 ·exact WC.Fz (he ok)
 ·exact .seq (he ok)
 ·rename_i x a b
  split at he
  ·rename_i hc
   exact .cond (qH ok hc) (fun _=> he ok) (fun e=> by cases e)
  ·rename_i hc
   exact .cond (qH ok hc) (fun e=> by cases e) (fun _=> he ok)
  ·split at he
   ·obtain ⟨y,hy,hk⟩:=Ih he
    exact hk (ok.cons hy)
   ·exact he.elim
 ·exact .blk (he ok)
 ·exact he
 ·exact he
 ·exact .exit (he ok)
 ·exact .ret (he ok)
 ·exact he.elim
theorem KU {ex:Ex} {ks:List KF} {d:Dec} {tm:List AV} {h:Heap} (he:evW E Q (Ib ex ks d tm h)):Wd E Q (.fin ex ks d tm h):=by
 intro ok
 unfold Ib at he
 split at he
 ·exact he
 ·split at he
  ·exact he ok
  ·have:=he ok
   simp only [wK]
   cases ex with
   |nrm=> rename_i hn; exact absurd rfl hn
   |ret=> exact this
   |exit j=> exact this
   |pan v=> exact this
 ·split at he
  ·rename_i id r j
   simp only [wK,Ll]
   split at he
   ·rename_i hb
    rw [if_pos (Nat.eq_of_beq_eq_true hb)]
    exact he ok
   ·rename_i hb
    rw [if_neg (fun e=> by subst e; simp at hb)]
    exact he ok
  ·rename_i hn
   have:=he ok
   simp only [wK]
   cases ex with
   |nrm=> exact this
   |ret=> exact this
   |exit j=> exact absurd rfl (hn j)
   |pan v=> exact this
theorem JM {c:Cfg} (he:evW E Q (step1 E c)):Wd E Q c:=by
 cases c with
 |run c ks d tm h=> exact KT he
 |ops l ks d tm h=> exact KS he
 |FV n0 l sn ks d tm h=> exact JL he
 |fin ex ks d tm h=> exact KU he
theorem p8:∀(n:Nat) (c:Cfg),(Ic E n c).a=(Ic E n c).b→evW E Q (Ic E n c).e→Wd E Q c:=by
 intro n
 induction n with
 |zero=> intro c _ he; exact he
 |succ n ih=>
  intro c ho he
  have hd:Ic E (n+1) c=(match step1 E c with | .go c'=> Ic E n c' | .chk a b c'=> rM.add a b (Ic E n c') | e=> ⟨[],[],e⟩):=rfl
  rw [hd] at ho he
  apply JM
  split at he
  ·rename_i c' hc
   rw [hc] at ho ⊢; exact ih c' ho he
  ·rename_i a b c' hc
   rw [hc] at ho ⊢
   have ho:a::(Ic E n c').a=b::(Ic E n c').b:=ho
   injection ho with h1 h2
   exact ⟨h1,ih c' h2 he⟩
  ·exact he
end
end
end Go.Abs

namespace Go.Abs
noncomputable section
def adO (E:Env) (c:Cfg):rM:=Ic E 100000 c
def adv (E:Env) (c:Cfg):Ev:=(adO E c).e
def rM.p {α:Type} (o:rM) (x:α):List (List AV)×α:=(o.a,x)
def rM.q {α:Type} (o:rM) (x:α):List (List AV)×α:=(o.b,x)
theorem rM.pq {α:Type} {o:rM} {x y:α} (h:o.p x=o.q y):o.a=o.b∧x=y:=by injection h with h1 h2; exact ⟨h1,h2⟩

def Ev.brX:Ev→Option Bool
 | .br x _=> some x
 |_=> none
def Ev.brK:Ev→Bool→Cfg
 | .br _ k=> k
 |_=> fun _=> .run .bad [] ⟨false,[]⟩ [] .empty
def Ev.S7:Ev→Option (FuncId×List AV×Heap)
 | .call _ f l h _=> some (f,l,h)
 |_=> none
def Ev.Fv:Ev→AV→Heap→Cfg
 | .call _ _ _ _ k=> k
 | .yld _ _ _ k=> k
 | .op _ _ k=> k
 |_=> fun _ _=> .run .bad [] ⟨false,[]⟩ [] .empty
def Ev.acW:Ev→Option (Nat×List AV×Heap)
 | .yld f l h _=> some (f,l,h)
 |_=> none
def Ev.callP:Ev→Option (FuncId×List AV×Heap)
 | .call p f l h _=> match p.2 [] with
  |some []=> some (f,l,h)
  |_=> none
 |_=> none
def Ev.TH:Ev→Option AV
 | .done ex _ _=> match ex with
  | .pan v=> some v
  |_=> none
 |_=> none
def Ev.abn:Ev→List AV
 | .call p _ _ _ _=> p.1
 |_=> []
def Ev.PY:Ev→Heap
 | .call _ _ _ h _=> h
 |_=> .empty
def Ev.rdL:Ev→Option (List St1)
 | .rdo l _=> some l
 |_=> none
def Ev.rdK:Ev→AV→Cfg
 | .rdo _ k=> k
 |_=> fun _=> .run .bad [] ⟨false,[]⟩ [] .empty
def Ev.opS:Ev→Option St1
 | .op s _ _=> some s
 |_=> none
def Ev.opH:Ev→Heap
 | .op _ h _=> h
 |_=> .empty
def Ev.isL:Ev→Bool
 | .loop _ _ _ _=> true
 |_=> false
def Ev.acX:Ev→Bool
 | .yt _ _ _ _ _ _ _=> true
 |_=> false
def Ev.code:Ev→AC
 | .loop a _ _ _=> a
 | .yt g ps a b _ _ _=> .yt g ps a b
 |_=> .bad
def Ev.ks:Ev→List KF
 | .loop _ ks _ _=> ks
 | .yt _ _ _ _ ks _ _=> ks
 |_=> []
def Ev.tm:Ev→List AV
 | .loop _ _ tm _=> tm
 | .yt _ _ _ _ _ tm _=> tm
 | .done _ tm _=> tm
 |_=> []
def Ev.hp:Ev→Heap
 | .loop _ _ _ h=> h
 | .yt _ _ _ _ _ _ h=> h
 | .done _ _ h=> h
 |_=> .empty
def Ev.ex:Ev→Option Nat
 | .done ex _ _=> match ex with
  | .pan _=> none
  |ex=> some (U1 ex)
 |_=> none

structure W (E:Env) (Q:Ex→List AV→Heap→Prop) (c:Cfg):Prop where
 s:Wd E Q c

section
variable {E : Env} {Q : Ex → List AV → Heap → Prop} {c : Cfg}
theorem W.br (x:Bool) (hx:(adO E c).p (adv E c).brX=(adO E c).q (some x)) (t:x=true→W E Q ((adv E c).brK true)) (f:x=false→W E Q ((adv E c).brK false)):W E Q c:=by
 obtain ⟨ho,hx⟩:=rM.pq hx
 constructor
 refine p8 100000 _ ho ?_
 show evW E Q (adv E c)
 revert hx t f
 cases adv E c <;> intro t f hx <;> cases hx
 exact ⟨fun e=> (t e).s,fun e=> (f e).s⟩
theorem W.call {f:FuncId} {args:List AV} {h1:Heap} {v:AV} {h':Heap} (hc:Cal E f args h1 (.nrm,v,h')) (he:(adO E c).p (adv E c).S7=(adO E c).q (some (f,args,h1))) (w:W E Q ((adv E c).Fv v h')):W E Q c:=by
 obtain ⟨ho,he⟩:=rM.pq he
 constructor
 refine p8 100000 _ ho ?_
 show evW E Q (adv E c)
 revert he w
 cases adv E c <;> intro w he <;> cases he
 exact .inl ⟨v,h',hc,w.s⟩
theorem W.Su {f:FuncId} {args:List AV} {h1:Heap} {x v:AV} {h':Heap} (hc:Cal E f args h1 (.pan x,v,h')) (he:(adO E c).p (adv E c).callP=(adO E c).q (some (f,args,h1))) (q:Q (.pan x) (adv E c).abn h'):W E Q c:=by
 obtain ⟨ho,he⟩:=rM.pq he
 constructor
 refine p8 100000 _ ho ?_
 show evW E Q (adv E c)
 revert he q
 cases adv E c <;> intro q he <;> try cases he
 rename_i p f l h k
 cases hp:p.2 [] with
 |none=> simp only [Ev.callP,hp] at he; cases he
 |some a=>
  cases a with
  |cons _ _=> simp only [Ev.callP,hp] at he; cases he
  |nil=>
   simp only [Ev.callP,hp] at he
   cases he
   exact .inr ⟨_,_,hp,(fun x hx=> by cases hx),x,v,h',hc,q⟩
theorem W.callP {f:FuncId} {args:List AV} {h1:Heap} {x v:AV} {h':Heap} (hc:Cal E f args h1 (.pan x,v,h')) (he:(adO E c).p (adv E c).callP=(adO E c).q (some (f,args,h1))) (q:∀tm,Q (.pan x) tm h'):W E Q c:= .Su hc he (q _)
theorem W.pan {x:AV} (he:(adO E c).p (adv E c).TH=(adO E c).q (some x)) (q:Q (.pan x) (adv E c).tm (adv E c).hp):W E Q c:=by
 obtain ⟨ho,he⟩:=rM.pq he
 constructor
 refine p8 100000 _ ho ?_
 show evW E Q (adv E c)
 revert he q
 cases adv E c <;> intro q he <;> try cases he
 rename_i ex tm h
 cases ex <;> cases he
 exact q
theorem W.oU {f:FuncId} {args:List AV} {v:AV} (hc:∀h,Cal E f args h (.nrm,v,h)) (he:(adO E c).p (adv E c).S7=(adO E c).q (some (f,args,(adv E c).PY))) (w:W E Q ((adv E c).Fv v (adv E c).PY)):W E Q c:= .call (hc _) he w
theorem W.yld {f:Nat} {args:List AV} {h1:Heap} {v:AV} {h':Heap} (hc:Rnd E f args h1 (.nrm,v,h')) (he:(adO E c).p (adv E c).acW=(adO E c).q (some (f,args,h1))) (w:W E Q ((adv E c).Fv v h')):W E Q c:=by
 obtain ⟨ho,he⟩:=rM.pq he
 constructor
 refine p8 100000 _ ho ?_
 show evW E Q (adv E c)
 revert he w
 cases adv E c <;> intro w he <;> cases he
 exact ⟨v,h',hc,w.s⟩
theorem W.op {s:St1} {v:AV} {h':Heap} (hs:s= .val v h') (he:(adO E c).p (adv E c).opS=(adO E c).q (some s)) (w:W E Q ((adv E c).Fv v h')):W E Q c:=by
 obtain ⟨ho,he⟩:=rM.pq he
 constructor
 refine p8 100000 _ ho ?_
 show evW E Q (adv E c)
 revert he w
 cases adv E c <;> intro w he <;> cases he
 exact ⟨v,h',hs,w.s⟩
theorem W.rdo {l:List St1} {v:AV} (hs:∀s∈l,∃h',s= .val v h') (he:(adO E c).p (adv E c).rdL=(adO E c).q (some l)) (w:W E Q ((adv E c).rdK v)):W E Q c:=by
 obtain ⟨ho,he⟩:=rM.pq he
 constructor
 refine p8 100000 _ ho ?_
 show evW E Q (adv E c)
 revert w he
 cases adv E c <;> intro w he <;> cases he
 exact ⟨v,hs,w.s⟩
theorem W.rd2 {s1 s2:St1} {v:AV} {x1 x2:Heap} (h1:s1= .val v x1) (h2:s2= .val v x2) (he:(adO E c).p (adv E c).rdL=(adO E c).q (some [s1,s2])) (w:W E Q ((adv E c).rdK v)):W E Q c:=
 .rdo (l := [s1,s2]) (fun s hx => by
  rcases List.mem_cons.1 hx with rfl | hx
  ·exact ⟨_,h1⟩
  ·rcases List.mem_cons.1 hx with rfl | hx
   ·exact ⟨_,h2⟩
   ·cases hx) he w
theorem W.rd3 {s1 s2 s3:St1} {v:AV} {x1 x2 x3:Heap} (h1:s1= .val v x1) (h2:s2= .val v x2) (h3:s3= .val v x3) (he:(adO E c).p (adv E c).rdL=(adO E c).q (some [s1,s2,s3])) (w:W E Q ((adv E c).rdK v)):W E Q c:=
 .rdo (l := [s1,s2,s3]) (fun s hx => by
  rcases List.mem_cons.1 hx with rfl | hx
  ·exact ⟨_,h1⟩
  ·rcases List.mem_cons.1 hx with rfl | hx
   ·exact ⟨_,h2⟩
   ·rcases List.mem_cons.1 hx with rfl | hx
    ·exact ⟨_,h3⟩
    ·cases hx) he w
theorem W.opv {f:Heap→St1} {v:AV} (hs:∀h,f h= .val v h) (he:(adO E c).p (adv E c).opS=(adO E c).q (some (f (adv E c).opH))) (w:W E Q ((adv E c).Fv v (adv E c).opH)):W E Q c:= .op (hs _) he w
theorem W.done (k:Nat) (he:(adO E c).p (adv E c).ex=(adO E c).q (some k)) (q:Q (R5 k) (adv E c).tm (adv E c).hp):W E Q c:=by
 obtain ⟨ho,he⟩:=rM.pq he
 constructor
 refine p8 100000 _ ho ?_
 show evW E Q (adv E c)
 revert he q
 cases adv E c <;> intro q he <;> try cases he
 rename_i ex tm h
 cases ex <;> cases he <;> exact q
theorem W.loop (m:Bool) (I:Nat→List AV→Heap→Prop) (n:Nat) (hl:(adO E c).p (adv E c).isL=(adO E c).q true) (i0:I n (adv E c).tm (adv E c).hp) (step:∀n tm h,I n tm h→W E (Round I n (wK E Q (adv E c).ks)) (.run (adv E c).code [] ⟨m,[]⟩ tm h)):W E Q c:=by
 obtain ⟨ho,hl⟩:=rM.pq hl
 constructor
 refine p8 100000 _ ho ?_
 show evW E Q (adv E c)
 revert hl i0 step
 cases adv E c <;> intro i0 step hl <;> try cases hl
 rename_i a ks tm h
 exact wpC.loop I (fun n tm h hi=> (step n tm h hi).s (fun _ hp=> by cases hp)) n tm h i0
theorem W.yt (hl:(adO E c).p (adv E c).acX=(adO E c).q true) (w:wpC E (adv E c).code (adv E c).tm (adv E c).hp (wK E Q (adv E c).ks)):W E Q c:=by
 obtain ⟨ho,hl⟩:=rM.pq hl
 constructor
 refine p8 100000 _ ho ?_
 show evW E Q (adv E c)
 revert hl w
 cases adv E c <;> intro w hl <;> try cases hl
 exact w
theorem W.fin (m:Bool) {ex:Ex} {ks:List KF} {tm:List AV} {h:Heap} (w:W E Q (.fin ex ks ⟨m,[]⟩ tm h)):wK E Q ks ex tm h:=w.s (fun _ hp=> by cases hp)
theorem W.run (m:Bool) {a:AC} {tm:List AV} {h:Heap} (w:W E Q (.run a [] ⟨m,[]⟩ tm h)):wpC E a tm h Q:=w.s (fun _ hp=> by cases hp)
theorem W.mono {Q':Ex→List AV→Heap→Prop} {m:Bool} {a:AC} {tm:List AV} {h:Heap} (w:W E Q' (.run a [] ⟨m,[]⟩ tm h)) (k:∀ex tm h,Q' ex tm h→Q ex tm h):W E Q (.run a [] ⟨m,[]⟩ tm h):=⟨fun ok=> wpC.mono (w.s ok) k⟩

theorem W.out (m:Bool) (k:Nat) {I:Nat→List AV→Heap→Prop} {n:Nat} {ks:List KF} (he:(adO E c).p (adv E c).ex=(adO E c).q (some (k+1))) (w:W E Q (.fin (R5 (k+1)) ks ⟨m,[]⟩ (adv E c).tm (adv E c).hp)):W E (Round I n (wK E Q ks)) c:=by
 refine .done (k+1) he ?_
 have:=W.fin m w
 cases k <;> exact this
theorem W.next (m:Nat) {I:Nat→List AV→Heap→Prop} {n:Nat} {R:Ex→List AV→Heap→Prop} (he:(adO E c).p (adv E c).ex=(adO E c).q (some 0)) (lt:m < n) (i:I m (adv E c).tm (adv E c).hp):W E (Round I n R) c:= .done 0 he ⟨m,lt,i⟩
def Ab (E:Env) (rs:List RV) (bor:Bool) (h:Heap) (v':AV) (h':Heap) (ex:Ex) (tm:List AV) (h1:Heap):Prop:=(ex= .nrm∨ex= .ret)∧∃v h2,results E h1 tm rs=some v∧y9 bor h1 h v=some (v',h2,h')
theorem Cal.w {f:FuncId} {fn:AFn} {args:List AV} {h:Heap} {ds:List DV} {bor:Bool} {v':AV} {h':Heap} (hf:E.fn f=some fn) (hr:fn.ref=false) (ha:stripArgs h args=some (ds,bor))
  (w:W E (Ab E fn.results bor h v' h') (.run fn.body [] ⟨false,[]⟩ (enterT fn.ntmps (ds.map inj)) .empty)):Cal E f args h (.nrm,v',h'):=by
 obtain ⟨n,ex,fr',h1,hrun,tm',rfl,q1,v,h2,q2,q3⟩:=w.s (fun _ hp=> by cases hp)
 refine ⟨n,?_⟩
 unfold qj Abs.call
 simp only [hf,hr,ha]
 have:qZ E (mz E n) f (ds.map inj) none .empty=some (.nrm,v,h1,none):=by
  unfold qZ
  simp only [hf,hrun]
  rcases q1 with rfl | rfl <;> simp only [q2]
 rw [this]
 simp only [q3]
def JQ (E:Env) (rs:List RV) (v':AV) (h':Heap) (ex:Ex) (tm:List AV) (h1:Heap):Prop:=(ex= .nrm∨ex= .ret)∧results E h1 tm rs=some v'∧h1=h'
theorem Cal.wr {f:FuncId} {fn:AFn} {args:List AV} {h:Heap} {v':AV} {h':Heap} (hf:E.fn f=some fn) (hr:fn.ref=true∨stripArgs h args=none)
  (w:W E (JQ E fn.results v' h') (.run fn.body [] ⟨true,[]⟩ (enterT fn.ntmps args) h)):Cal E f args h (.nrm,v',h'):=by
 obtain ⟨n,ex,fr',h1,hrun,tm',rfl,q1,q2,rfl⟩:=w.s (fun _ hp=> by cases hp)
 refine ⟨n,?_⟩
 unfold qj Abs.call
 have:qZ E (mz E n) f args none h=some (.nrm,v',h1,none):=by
  unfold qZ
  simp only [hf,hrun]
  rcases q1 with rfl | rfl <;> simp only [q2]
 simp only [hf]
 rcases hr with hr | hr
 ·simp only [hr,this]
 ·cases e:fn.ref with
  |true=> simp only [this]
  |false=> simp only [hr,this]

def Ev.res (E:Env) (rs:List RV) (ev:Ev):Option AV:=match ev with
 | .done ex tm h=> match ex with
  | .nrm=> results E h tm rs
  | .ret=> results E h tm rs
  |_=> none
 |_=> none
theorem DU (bor:Bool) (h1 h:Heap) {x:DV} (hx:clean x=true):y9 bor h1 h (.d x)=some (.d x,h1,h):=by
 unfold y9
 simp only [Bz,hx]
 cases bor <;> rfl
theorem W.JN {rs:List RV} {v:AV} (he:(adO E c).p ((adv E c).res E rs)=(adO E c).q (some v)) (q:∀ex tm h1,(ex= .nrm∨ex= .ret)→results E h1 tm rs=some v→Q ex tm h1):W E Q c:=by
 obtain ⟨ho,he⟩:=rM.pq he
 constructor
 refine p8 100000 _ ho ?_
 show evW E Q (adv E c)
 revert he
 cases adv E c <;> intro he <;> try cases he
 rename_i ex tm h
 cases ex with
 |nrm=> exact q _ _ _ (.inl rfl) he
 |ret=> exact q _ _ _ (.inr rfl) he
 |exit j=> cases he
 |pan v=> cases he
theorem W.ret {rs:List RV} {bor:Bool} {h:Heap} {x:DV} (hx:clean x=true) (he:(adO E c).p ((adv E c).res E rs)=(adO E c).q (some (.d x))):W E (Ab E rs bor h (.d x) h) c:=
 .JN he fun _ _ _ e r=> ⟨e,_,_,r,DU bor _ h hx⟩
def PZ (l : List (Nat × AV)) (g : Nat → AV) (i : Nat) : AV := List.rec (g i) (fun p _ ih => match Nat.beq p.1 i with
 |true=> p.2
 |false=> ih) l
def frL (f:Nat→AV) (n:Nat):Nat→List AV:=Nat.rec (fun _=> []) (fun _ ih i=> f i::ih (Nat.succ i)) n
def fr (n:Nat) (l:List (Nat×AV)) (g:Nat→AV):List AV:=frL (PZ l g) n 0
def P4 (tm:List AV):List (Nat×AV)→Prop
 |[]=> True
 |p::r=> getL tm p.1=p.2∧P4 tm r
theorem JO {tm:List AV}:∀{l:List (Nat×AV)},P4 tm l→∀i,PZ l (getL tm) i=getL tm i:=by
 intro l
 induction l with
 |nil=> intro _ i; rfl
 |cons p r ih=>
  intro ⟨h1,h2⟩ i
  show (match Nat.beq p.1 i with | true=> p.2 | false=> PZ r (getL tm) i)=_
  split
  ·rename_i e
   rw [←h1,Nat.eq_of_beq_eq_true e]
  ·exact ih h2 i
theorem Sg {tm:List AV} {f:Nat→AV} (hf:∀i,f i=getL tm i):∀(n i:Nat),n+i=tm.length→frL f n i=tm.drop i:=by
 intro n
 induction n with
 |zero=>
  intro i hi
  show []=_
  rw [List.drop_eq_nil_of_le (by omega)]
 |succ n ih=>
  intro i hi
  show f i::frL f n (i+1)=_
  rw [ih (i+1) (by omega),hf i]
  have hlt:i < tm.length:=by omega
  rw [List.drop_eq_getElem_cons hlt]
  congr 1
  have key:∀(l:List AV) (i:Nat) (h:i < l.length),getL l i=l[i]:=by
   intro l
   induction l with
   |nil=> intro i h; simp at h
   |cons a r ih=>
    intro i h
    cases i with
    |zero=> exact AQ a r
    |succ i=> rw [vO]; exact ih i (by simpa using h)
  exact key tm i hlt
def St (n:Nat) (l:List (Nat×AV)) (tm:List AV):Prop:=∃g,tm=fr n l g
theorem St.of {n:Nat} {l:List (Nat×AV)} {tm:List AV} (hl:Nat.beq tm.length n=true) (h:P4 tm l):St n l tm:=by
 refine ⟨getL tm,?_⟩
 unfold fr
 rw [Sg (JO h) n 0 (by rw [Nat.eq_of_beq_eq_true hl]; rfl)]
 rfl
end
end
end Go.Abs

namespace Go.Abs
theorem iEq_iff {a b:Int}:iEq a b=true↔a=b:=by
 cases a <;> cases b <;> simp [iEq] <;> omega
theorem rR {a b:Int}:iEq a b=false↔a≠b:=by
 rw [←Bool.not_eq_true,iEq_iff]
theorem AN (a b:Int):iEq a b=decide (a=b):=by
 rw [Bool.eq_iff_iff,iEq_iff]; simp
theorem o8 {a b:Int}:iLt a b=true↔a < b:=by
 cases a with
 |ofNat a=> cases b with
  |ofNat b=>
   show Nat.blt a b=true↔_
   rw [Nat.blt_eq]; simp
  |negSucc b=>
   simp only [iLt,Int.ofNat_eq_natCast]
   constructor
   ·intro h; cases h
   ·intro h; exfalso; omega
 |negSucc a=> cases b with
  |ofNat b=>
   simp only [iLt,Int.ofNat_eq_natCast,true_iff]
   omega
  |negSucc b=>
   show Nat.blt b a=true↔_
   rw [Nat.blt_eq]
   omega
theorem tV {a b:Int}:iLt a b=false↔b≤a:=by
 rw [←Bool.not_eq_true,o8]; omega
theorem QO (a b:Int):iLt a b=decide (a < b):=by
 rw [Bool.eq_iff_iff,o8]; simp
theorem pO {a b:List UInt8}:strEq a b=true↔a=b:=by
 unfold strEq; simp
theorem AO (a b:List UInt8):strEq a b=decide (a=b):=by
 rw [Bool.eq_iff_iff,pO]; simp
theorem Sq {n:Int} (h0: -9223372036854775808≤n) (h1:n < 9223372036854775808):inR .i64 n=true:=by
 cases n with
 |ofNat a=>
  show Nat.blt a _=true
  rw [Nat.blt_eq]; simp only [Int.ofNat_eq_natCast] at h1; omega
 |negSucc a=>
  show Nat.blt a _=true
  rw [Nat.blt_eq]; omega
theorem wrap64 {n:Int} (h0: -9223372036854775808≤n) (h1:n < 9223372036854775808):wrap .i64 n=n:=by
 unfold wrap; rw [Sq h0 h1]

def chunk (cs:List DV) (z i:Nat):List DV:=(cs.drop (i*z)).take z
theorem DW {cs:List DV} {m j z:Nat} (hl:cs.length=m*z) (hj:j < m):readN (cs.map .d) (j*z) z=some ((chunk cs z j).map .d):=by
 have hle:j*z+z≤m*z:=by rw [←Nat.succ_mul]; exact Nat.mul_le_mul_right _ hj
 rw [B6,if_pos (by simp [hl]; omega),←List.map_drop,←List.map_take]; rfl
section
variable (E : Env) {k : IntKind}
theorem Bh {z:Nat} {b:Bool} {n:Nat} {cs:List DV} {j:Nat} {x:Int} (hx:x= .ofNat j) (hj:j < n):∀h:Heap,As h [] z (.c (.d (.sl b n cs))) (.c (.d (.i k x)))= .val (.d (.bx b cs (j*z))) h:=by
 intro h
 subst hx
 simp only [As,X.ev,mkI,wO,wm]
 rw [show Nat.blt j n=true from by rw [Nat.blt_eq]; exact hj]
theorem BX {z:Nat} {b:Bool} {n:Nat} {cs:List DV} {j:Nat} (hl:cs.length=n*z) (hj:j < n):∀h:Heap,uM E h [] true z (.c (.d (.bx b cs (j*z))))= .val (.agg ((chunk cs z j).map .d)) h:=by
 intro h
 simp only [uM,X.ev,loadA,DW hl hj,one,ov]
theorem Ir {b:Bool} {cs:List DV} {j:Nat} {x:DV} (hx:cs[j]? =some x):∀h:Heap,uM E h [] false 1 (.c (.d (.bx b cs (j*1))))= .val (.d x) h:=by
 intro h
 have hl:cs.length=cs.length*1:=by omega
 have hj:j < cs.length:=(List.getElem?_eq_some_iff.1 hx).1
 have hc:chunk cs 1 j=[x]:=by
  unfold chunk
  rw [Nat.mul_one,List.drop_eq_getElem_cons hj,(List.getElem?_eq_some_iff.1 hx).2]; rfl
 simp only [uM,X.ev,loadA,DW hl hj,hc,one,ov,List.map]
theorem iR {h:Heap} {ag:Bool} {n b off:Nat} {fr:Bool} {e:TypeId} {cs l:List AV} {v:AV} (hg:h.get b=some (.cells fr e cs)) (hr:readN cs off n=some l) (ho:one ag l=some v):uM E h [] ag n (.c (.ptr b off))= .val v h:=by
 simp only [uM,X.ev,loadA,hg,hr,ho,ov]
theorem store_ptr {h:Heap} {n b off:Nat} {e:TypeId} {cs:List AV} {x:AV} (hg:h.get b=some (.cells false e cs)) (hc:(Nat.beq (cellsOf x).length n && Nat.ble (off+n) cs.length && !((cellsOf x).any isAgg))=true):
  xq h [] n (.c (.ptr b off)) (.c x)= .val .und (h.set b (.cells false e (y8 cs off (cellsOf x)))):=by
 simp only [xq,X.ev,Ke,hg,hc]
theorem zw {s:List UInt8} {j:Nat} {b:UInt8} {x:Int} (hx:x= .ofNat j) (hb:s[j]? =some b):∀h:Heap,yX h [] (.c (.d (.s s))) (.c (.d (.i k x)))= .val (.d (byteD b)) h:=by
 intro h
 subst hx
 simp only [yX,X.ev,mkI,wO,wm,hb]
theorem QE {n z b off j:Nat} {x:Int} (hx:x= .ofNat j) (hj:j < n):∀h:Heap,Au h [] n z (.c (.ptr b off)) (.c (.d (.i k x)))= .val (.ptr b (off+j*z)) h:=by
 intro h
 subst hx
 simp only [Au,X.ev,wO,wm]
 rw [show Nat.blt j n=true from by rw [Nat.blt_eq]; exact hj]
theorem uK {s:List UInt8} {a:Nat} {x:Int} (hx:x= .ofNat a) (ha:a≤s.length):∀h:Heap,qE h [] (.c (.d (.s s))) (some (.c (.d (.i k x)))) none= .val (.d (.s (s.drop a))) h:=by
 intro h
 subst hx
 simp only [qE,X.ev,An,mkI,wO,wm]
 rw [show (Nat.ble a s.length && Nat.ble s.length s.length)=true from by simp [ha]]
 simp only [wC]
 rw [List.take_of_length_le (by simp)]
theorem BR {s:List UInt8} {a:Nat} {x:Int} (hx:x= .ofNat a) (ha:a≤s.length):∀h:Heap,qE h [] (.c (.d (.s s))) none (some (.c (.d (.i k x))))= .val (.d (.s (s.take a))) h:=by
 intro h
 subst hx
 simp only [qE,X.ev,An,mkI,wO,wm]
 rw [show (Nat.ble 0 a && Nat.ble a s.length)=true from by simp [ha]]
 simp only [wC,List.drop_zero,Nat.sub_zero]
end

section
variable {h : Heap}
theorem CW (rd:Nat→Nat→Nat→Option (List DV)):∀l:List DV,borrowWL rd (l.map .d)=some (l,false)
 |[]=> by simp only [List.map,borrowWL]
 |x::l=> by simp only [List.map,borrowWL,borrowW,CW rd l,Bool.or_false]
theorem zy (l:List DV):borrow h (.agg (l.map .d))=some (.agg l,false):=by
 simp only [borrow,borrowW,CW]
theorem strip_cons {a:AV} {d:DV} {x:Bool} {r:List AV} {ds:List DV} {y:Bool} (h1:borrow h a=some (d,x)) (h2:stripArgs h r=some (ds,y)):stripArgs h (a::r)=some (d::ds,x || y):=by
 show (match borrow h a with | some (d,x)=> (match stripArgs h r with | some (l,y)=> some (d::l,x || y) | none=> none) | none=> none)=_
 rw [h1]; simp only; rw [h2]
theorem strip_nil:stripArgs h []=some ([],false):=rfl
end

section
variable {E : Env} {c : Cfg}
theorem W.sI {rs:List RV} {bor:Bool} {h:Heap} (b':Bool) {b:Bool} (he:(adO E c).p ((adv E c).res E rs)=(adO E c).q (some (.d (.b b')))) (hb:b'=b):W E (Ab E rs bor h (.d (.b b)) h) c:=by
 subst hb; exact .ret rfl he
theorem W.abJ {rs:List RV} {bor:Bool} {h:Heap} {k:IntKind} (n':Int) {n:Int} (he:(adO E c).p ((adv E c).res E rs)=(adO E c).q (some (.d (.i k n')))) (hb:n'=n):W E (Ab E rs bor h (.d (.i k n)) h) c:=by
 subst hb; exact .ret rfl he
theorem W.yU {rs:List RV} {v':AV} {h':Heap} (he:(adO E c).p ((adv E c).res E rs)=(adO E c).q (some v')) (hh:(adv E c).hp=h'):W E (JQ E rs v' h') c:=by
 obtain ⟨ho,he⟩:=rM.pq he
 constructor
 refine p8 100000 _ ho ?_
 show evW E _ (adv E c)
 revert he hh
 cases adv E c <;> intro hh he <;> try cases he
 rename_i ex tm h
 cases ex with
 |nrm=> exact ⟨.inl rfl,he,hh⟩
 |ret=> exact ⟨.inr rfl,he,hh⟩
 |exit j=> cases he
 |pan v=> cases he
def Er (E:Env) (rs:List RV) (P:AV→Heap→Prop) (ex:Ex) (tm:List AV) (h1:Heap):Prop:=(ex= .nrm∨ex= .ret)∧∃v,results E h1 tm rs=some v∧P v h1
theorem Cal.wrx {P:AV→Heap→Prop} {f:FuncId} {fn:AFn} {args:List AV} {h:Heap} (hf:E.fn f=some fn) (hr:fn.ref=true∨stripArgs h args=none)
  (w:W E (Er E fn.results P) (.run fn.body [] ⟨true,[]⟩ (enterT fn.ntmps args) h)):∃v' h',Cal E f args h (.nrm,v',h')∧P v' h':=by
 obtain ⟨n,ex,fr',h1,hrun,tm',rfl,q1,v,q2,q3⟩:=w.s (fun _ hp=> by cases hp)
 refine ⟨v,h1,.wr hf hr ⟨fun _=> ⟨n,ex,_,h1,hrun,tm',rfl,q1,q2,rfl⟩⟩,q3⟩
theorem W.Er {rs:List RV} {P:AV→Heap→Prop} (v:AV) (he:(adO E c).p ((adv E c).res E rs)=(adO E c).q (some v)) (hp:P v (adv E c).hp):W E (Er E rs P) c:=by
 obtain ⟨ho,he⟩:=rM.pq he
 constructor
 refine p8 100000 _ ho ?_
 show evW E _ (adv E c)
 revert he hp
 cases adv E c <;> intro hp he <;> try cases he
 rename_i ex tm h
 cases ex with
 |nrm=> exact ⟨.inl rfl,v,he,hp⟩
 |ret=> exact ⟨.inr rfl,v,he,hp⟩
 |exit j=> cases he
 |pan v=> cases he
def J9 (E:Env) (rs:List RV) (P:DV→Prop) (ex:Ex) (tm:List AV) (h1:Heap):Prop:=(ex= .nrm∨ex= .ret)∧∃x,clean x=true∧results E h1 tm rs=some (.d x)∧P x
theorem Cal.wx {P:DV→Prop} {f:FuncId} {fn:AFn} {args:List AV} {h:Heap} {ds:List DV} {bor:Bool} (hf:E.fn f=some fn) (hr:fn.ref=false) (ha:stripArgs h args=some (ds,bor))
  (w:W E (J9 E fn.results P) (.run fn.body [] ⟨false,[]⟩ (enterT fn.ntmps (ds.map inj)) .empty)):∃x,P x∧Cal E f args h (.nrm,.d x,h):=by
 obtain ⟨n,ex,fr',h1,hrun,tm',rfl,q1,x,qc,q2,q3⟩:=w.s (fun _ hp=> by cases hp)
 exact ⟨x,q3,.w hf hr ha ⟨fun _=> ⟨n,ex,_,h1,hrun,tm',rfl,q1,.d x,h1,q2,DU bor h1 h qc⟩⟩⟩
theorem W.J9 {rs:List RV} {P:DV→Prop} (x:DV) (hx:clean x=true) (he:(adO E c).p ((adv E c).res E rs)=(adO E c).q (some (.d x))) (hp:P x):W E (J9 E rs P) c:=
 .JN he fun _ _ _ e r=> ⟨e,x,hx,r,hp⟩
end
end Go.Abs

namespace Go.Abs
structure Vr where
 name:List UInt8
 kind:Int
 after:List (List UInt8)
 over:List UInt8
 width:Int
 Sn:Int
def R64 (n:Int):Prop:= -9223372036854775808≤n∧n < 9223372036854775808
def R8 (n:Int):Prop:=0≤n∧n≤255
inductive ValS where
 |mk (k n:Int) (s:List UInt8) (l:List ValS)
inductive ValR:ValS→List DV→Prop
 |sl (k n:Int) (s:List UInt8) (l:List ValS) (b:Bool) (cs:List DV) (hl:cs.length=l.length*4) (h:∀i (hi:i < l.length),ValR l[i] (chunk cs 4 i)) (hr:R8 k∧R64 n):ValR (.mk k n s l) [.i .u8 k,.i .i64 n,.s s,.sl b l.length cs]
def ValT (v:ValS) (cs:List DV):Prop:=ValR v cs∨∃k n s,v= .mk k n s []∧cs=[.i .u8 k,.i .i64 n,.s s,.nsl]∧R8 k∧R64 n
theorem ValR.lit {v:ValS} {cs:List DV} (h:ValR v cs):∃k n s b m cs',cs=[.i .u8 k,.i .i64 n,.s s,.sl b m cs']:=by
 cases h; exact ⟨_,_,_,_,_,_,rfl⟩
end Go.Abs
end
