/- Part 3 of a general layer: a deterministic machine over the model's code, and that what it comes to the model comes to. Conditions: those of each theorem. -/
import Derived.Test.YtgjhldabffjiaaaGreatDoorZB
import Derived.RangeFuncNested
import Derived.Shelf.Strings.Builder2
noncomputable section
namespace Go.Abs
section
variable {P : Program} {G : Nat → List DV}

def Hl (cx:Cx) (h:Heap) (w:World) (s0 r:Nat):Prop:=s0≤r∧w.heap[r]? =some (.deferred (some []))∧∀b,¬jE cx h b r

inductive lJ (cx:Cx) (h:Heap) (w:World) (s0:Nat):List (AV×List AV)→List Deferred→Prop
 |nil:lJ cx h w s0 [] []
 |mark (r:Nat) (fs:List (AV×List AV)) (ds:List Deferred) (hm:Hl cx h w s0 r) (hn:∀d∈ds,d.target≠ .collected r) (hr:lJ cx h w s0 fs ds):
   lJ cx h w s0 fs ({target:= .collected r,args:= #[]}::ds)
 |call (f:AV) (args:List AV) (g:Fn) (fs' cs' args':Array Value) (fs:List (AV×List AV)) (ds:List Deferred) (hf:bY cx w f (.func g fs' cs')) (hl:args'.size=args.length)
   (ha:∀i (hi:i < args.length),bY cx w args[i] (args'.getD i undef)) (hr:lJ cx h w s0 fs ds):lJ cx h w s0 ((f,args)::fs) ({target:= .fn g cs',args:=fs'++args'}::ds)

theorem Hl.stp {cx cx':Cx} {h h':Heap} {w w':World} {s0 r:Nat} (s:Stp cx h w cx' h' w') (m:Hl cx h w s0 r):Hl cx' h' w' s0 r:=by
 obtain ⟨m1,m2,m3⟩:=m
 have hlt:=(Array.getElem?_eq_some_iff.1 m2).1
 refine ⟨m1,by rw [s.fr.kept r hlt m3]; exact m2,fun b ho=> ?_⟩
 obtain ⟨b',hb'⟩:=s.fr.owns b r ho hlt
 exact m3 b' hb'

theorem lJ.stp {cx cx':Cx} {h h':Heap} {w w':World} {s0:Nat} (s:Stp cx h w cx' h' w') {fs:List (AV×List AV)} {ds:List Deferred} (d:lJ cx h w s0 fs ds):lJ cx' h' w' s0 fs ds:=by
 induction d with
 |nil=> exact .nil
 |mark r fs ds hm hn _ ih=> exact .mark r fs ds (hm.stp s) hn ih
 |call f args g fs' cs' args' fs ds hf hl ha _ ih=> exact .call f args g fs' cs' args' fs ds (hf.ext s.ext) hl (fun i hi=> (ha i hi).ext s.ext) ih

structure AI (cx:Cx) (h:Heap) (w:World) (s0:Nat) (fr:Fr) (a:Act):Prop where
 tmps:uF cx w fr.tmps a.tmps
 defs:lJ cx h w s0 fr.defs a.defers
 le:s0≤w.heap.size

theorem AI.stp {cx cx':Cx} {h h':Heap} {w w':World} {s0:Nat} {fr:Fr} {a:Act} (s:Stp cx h w cx' h' w') (f:AI cx h w s0 fr a):AI cx' h' w' s0 fr a:=
 ⟨f.tmps.ext s.ext,f.defs.stp s,Nat.le_trans f.le s.ext.size⟩

theorem AI.put {cx:Cx} {h:Heap} {w:World} {s0:Nat} {fr:Fr} {a:Act} (f:AI cx h w s0 fr a) (dst:Option Nat) {x:AV} {v:Value} (hv:bY cx w x v):AI cx h w s0 (lW fr dst x) (a.put dst v):=by
 cases dst with
 |none=> exact f
 |some d=> exact ⟨f.tmps.set d hv,f.defs,f.le⟩

structure LB (cx:Cx) (h:Heap) (w:World) (s0:Nat) (ex:Ex) (fr:Fr) (a:Act):Prop where
 tmps:uF cx w fr.tmps a.tmps∨((∃v,ex= .pan v)∧fr.tmps=[])
 defs:lJ cx h w s0 fr.defs a.defers
 le:s0≤w.heap.size
theorem AI.e {cx:Cx} {h:Heap} {w:World} {s0:Nat} {ex:Ex} {fr:Fr} {a:Act} (f:AI cx h w s0 fr a):LB cx h w s0 ex fr a:=⟨.inl f.tmps,f.defs,f.le⟩
theorem LB.f {cx:Cx} {h:Heap} {w:World} {s0:Nat} {ex:Ex} {fr:Fr} {a:Act} (f:LB cx h w s0 ex fr a) (hn:∀v,ex≠ .pan v):AI cx h w s0 fr a:=
 ⟨f.tmps.elim id fun ⟨⟨v,e⟩,_⟩=> absurd e (hn v),f.defs,f.le⟩

theorem uG (fr:Fr) (dst:Option Nat) (x:AV):(lW fr dst x).pan=fr.pan:=by cases dst <;> rfl
theorem zo (fr:Fr) (dst:Option Nat) (x:AV):(lW fr dst x).defs=fr.defs:=by cases dst <;> rfl

def z8 (cx:Cx) (w:World) (b:Frame) (cs:List Frame):Option AV→Prop
 |none=> ∀fr:Frame,fr.kind=b.kind→tryRecover fr cs=none
 |some v=> b.kind= .deferred∧b.roundOf=none∧∃c rest v' older,cs=c::rest∧c.mode= .panicking ({v:=v',recovered:=false}::older)∧bY cx w v v'

def zq (pan:Option AV) (cs:List Frame) (MN:Option AV) (cs':List Frame):Prop:=
 (MN=pan∧cs'=cs)∨∃v c rest v' older,pan=some v∧MN=none∧cs=c::rest∧c.mode= .panicking ({v:=v',recovered:=false}::older)∧
  cs'={c with mode:= .panicking ({v:=v',recovered:=true}::older)}::rest

theorem zq.refl (pan:Option AV) (cs:List Frame):zq pan cs pan cs:= .inl ⟨rfl,rfl⟩
theorem zq.trans {p1 p2 p3:Option AV} {c1 c2 c3:List Frame} (a:zq p1 c1 p2 c2) (b:zq p2 c2 p3 c3):zq p1 c1 p3 c3:=by
 rcases a with ⟨rfl,rfl⟩ | ⟨v,c,rest,v',older,e1,e2,e3,e4,e5⟩
 ·exact b
 ·rcases b with ⟨rfl,rfl⟩ | ⟨v2,_,_,_,_,f1,_⟩
  ·exact .inr ⟨v,c,rest,v',older,e1,e2,e3,e4,e5⟩
  ·rw [e2] at f1; cases f1

theorem yG {fr:Frame} (hk:fr.kind= .normal) (cs:List Frame):tryRecover fr cs=none:=by
 unfold tryRecover; split <;> simp_all

theorem z8.next {cx cx':Cx} {w w':World} {b:Frame} {cs cs':List Frame} {pan MN:Option AV} (p:z8 cx w b cs pan) (e:Ext cx w cx' w') (c:zq pan cs MN cs'):z8 cx' w' b cs' MN:=by
 rcases c with ⟨rfl,rfl⟩ | ⟨v,c,rest,v',older,e1,e2,e3,e4,e5⟩
 ·cases MN with
  |none=> exact p
  |some v=>
   obtain ⟨h1,h2,c,rest,v',older,h3,h4,h5⟩:=p
   exact ⟨h1,h2,c,rest,v',older,h3,h4,h5.ext e⟩
 ·subst e1; subst e2; subst e5
  obtain ⟨h1,h2,c2,adE,v2,acz,h3,h4,h5⟩:=p
  intro fr hk
  rw [h1] at hk
  simp [tryRecover,hk]

def Arr (P:Program) (m:Machine) (b:Frame) (k:List Item) (cs:List Frame) (cx:Cx) (a:Act) (w:World):Ex→Prop
 | .nrm=> Steps P m (lone (b.atR a k) cs w)
 | .exit id=> (∀k',exitTo id k=some k'→Steps P m (lone (b.atR a k') cs w))∧
   (b.roundOf.isSome=true→exitTo id k=none→∃k1,exitTo id k1=none∧Steps P m (lone (b.atR a (.code (.exit id)::k1)) cs w))
 | .ret=> (b.roundOf=none→∃todo,Steps P m (lone {b.atR a todo with mode:= .returning} cs w))∧
   (b.roundOf.isSome=true→∃k1,Steps P m (lone (b.atR a (.code .ret::k1)) cs w))
 | .pan v=> ∃todo v',bY cx w v v'∧Steps P m (lone {b.atR a todo with mode:= .panicking [{v:=v',recovered:=false}]} cs w)

theorem Arr.of_steps {m m1:Machine} {b:Frame} {k:List Item} {cs:List Frame} {cx:Cx} {a:Act} {w:World} {ex:Ex} (h:Steps P m m1) (h':Arr P m1 b k cs cx a w ex):Arr P m b k cs cx a w ex:=by
 cases ex with
 |nrm=> exact h.trans h'
 |exit id=> exact ⟨fun k' hk=> h.trans (h'.1 k' hk),fun hr hk=> let ⟨k1,h1,h2⟩:=h'.2 hr hk; ⟨k1,h1,h.trans h2⟩⟩
 |ret=> exact ⟨fun hr=> let ⟨todo,hs⟩:=h'.1 hr; ⟨todo,h.trans hs⟩,fun hr=> let ⟨k1,hs⟩:=h'.2 hr; ⟨k1,h.trans hs⟩⟩
 |pan v=> obtain ⟨todo,v',h1,h2⟩:=h'; exact ⟨todo,v',h1,h.trans h2⟩

theorem Arr.pass {m:Machine} {b:Frame} {x:Item} {k:List Item} {cs:List Frame} {cx:Cx} {a:Act} {w:World} {ex:Ex} (hx:x.plain=true) (he:ex≠ .nrm) (h:Arr P m b (x::k) cs cx a w ex):
  Arr P m b k cs cx a w ex:=by
 cases ex with
 |nrm=> exact absurd rfl he
 |exit id=> exact ⟨fun k' hk=> h.1 k' (by rw [exitTo_plain hx]; exact hk),fun hr hk=> h.2 hr (by rw [exitTo_plain hx]; exact hk)⟩
 |ret=> exact h
 |pan v=> exact h

def Out (P:Program) (G:Nat→List DV) (s0:Nat) (cx:Cx) (h:Heap) (w:World) (pan:Option AV) (b:Frame) (k:List Item) (cs:List Frame) (m:Machine) (ex:Ex) (fr':Fr) (h':Heap):Prop:=
 ∃cx' w' a' cs',Inv P [] G cx' h' w'∧Stp cx h w cx' h' w'∧LB cx' h' w' s0 ex fr' a'∧zq pan cs fr'.pan cs'∧Arr P m b k cs' cx' a' w' ex

theorem Out.of_steps {s0:Nat} {cx:Cx} {h:Heap} {w:World} {pan:Option AV} {b:Frame} {k:List Item} {cs:List Frame} {m m1:Machine} {ex:Ex} {fr':Fr} {h':Heap} (hs:Steps P m m1)
  (o:Out P G s0 cx h w pan b k cs m1 ex fr' h'):Out P G s0 cx h w pan b k cs m ex fr' h':=by
 obtain ⟨cx',w',a',cs',o1,o2,o3,o4,o5⟩:=o
 exact ⟨cx',w',a',cs',o1,o2,o3,o4,o5.of_steps hs⟩

theorem Out.from {s0:Nat} {cx cx1:Cx} {h h1:Heap} {w w1:World} {pan aaY:Option AV} {b:Frame} {k:List Item} {cs cs1:List Frame} {m:Machine} {ex:Ex} {fr':Fr} {h':Heap}
  (s:Stp cx h w cx1 h1 w1) (c:zq pan cs aaY cs1) (o:Out P G s0 cx1 h1 w1 aaY b k cs1 m ex fr' h'):Out P G s0 cx h w pan b k cs m ex fr' h':=by
 obtain ⟨cx',w',a',cs',o1,o2,o3,o4,o5⟩:=o
 exact ⟨cx',w',a',cs',o1,s.trans o2,o3,c.trans o4,o5⟩

theorem bY.of_bool {cx:Cx} {w:World} {a:AV} {x:Bool} (h:bY cx w a (.bool x)):a= .d (.b x):=by
 cases h with
 |d _ _ hd=> cases hd; rfl
 |app _ _ _ _ _ hd=> cases hd

theorem Jn {a:Array Value} {t:Nat} {v:Value} (h:a[t]? =some v):a.getD t undef=v:=by
 rw [Array.getD_eq_getD_getElem?,h]; rfl

theorem BH {cx:Cx} {w:World} {tm:List AV} {a:Act} (ht:uF cx w tm a.tmps) {ops:Array Oper} {o:Oper} {g:Option (Nat×Bool)} (hg:guardOf ops o=some g):
  wanted tm g=Region.wanted o (yielded ops a.tmps):=by
 unfold guardOf at hg
 split at hg
 ·rename_i hn
  cases hg
  simp [wanted,Region.wanted,hn]
 ·rename_i j b hn
  split at hg
  ·rename_i t hd
   cases hg
   have hrel:=ht.rel t
   simp only [Region.wanted,hn,yielded,hd,Option.bind_some,wanted]
   cases hv:a.tmps[t]? with
   |none=>
    have:a.tmps.getD t undef=undef:=by rw [Array.getD_eq_getD_getElem?,hv]; rfl
    rw [this] at hrel
    cases hq:getL tm t with
    |d x=>
     rw [hq] at hrel
     cases hrel with
     |d _ _ hd=> cases x <;> first | (cases hd; done) | simp
    |_=> simp
   |some v=>
    rw [Jn hv] at hrel
    cases v with
    |bool x=>
     have:=hrel.of_bool
     rw [this]
     cases x <;> cases b <;> rfl
    |_=>
     cases hq:getL tm t with
     |d x=>
      rw [hq] at hrel
      cases x with
      |b x=>
       cases hrel with
       |d _ _ hd=> cases hd
      |_=> simp
     |_=> simp
  ·cases hg

end
end Go.Abs

namespace Go.Proofs
open Go.Shelf Go.RowKit
variable {P : Program} {ρ : Ren}

theorem MO {w:World} {b o:Nat} {v:Value} {x:Obj} (hlt:b < w.heap.size):((w.setCell ⟨b,o,none⟩ v).alloc x).heap=((w.alloc x).setCell ⟨b,o,none⟩ v).heap:=by
 apply Array.ext_getElem?
 intro i
 simp only [World.setCell,World.alloc,Array.getElem?_push,Array.getElem?_modify,Array.size_modify]
 by_cases e:i=w.heap.size
 ·have:b≠i:=by omega
  simp [e,show b≠w.heap.size by omega]
 ·simp [e]

set_option maxHeartbeats 2000000 in
set_option maxRecDepth 1000000 in
theorem grow.run (L:Lays.n241 P ρ) (X:Builder.Extra P ρ) (b n:Nat) (w:World) (hlt:b < w.heap.size) (h1:w.cell? ⟨b,1,none⟩=some (.slice none 0 0)) (hf:w.frozen? ⟨b,1,none⟩=false) (hn:n≤281474976710656):
  Calls P (ρ.f 241) #[.pointer (some ⟨b,0,none⟩),.int .i64 n] w fun e w'=> e= .returned (.tuple #[])∧∃cs:Array Value,n≤cs.size∧cs.size≤maxLen∧
   w'.heap=((w.alloc (.cells cs (ρ.t 5))).setCell ⟨b,1,none⟩ (.slice (some ⟨w.heap.size,0,none⟩) 0 cs.size)).heap∧w'.os=w.os∧w'.output=w.output:=by
 obtain ⟨cs,hrun,hle,hmax⟩:=Lib.run_makeNoZero (P:=P) w.drew #[(ρ.t 3)] (ρ.t 37) (ρ.t 5) L.t37 n hn
 have hw:IntKind.i64.wrap (IntKind.i64.wrap 0+(n:Int))=n:=by
  rw [IntKind.wrap_i64,IntKind.wrap_i64]
  omega
 have hcall:(callFunc (ρ.f 277) #[.int .i64 (IntKind.i64.wrap (IntKind.i64.wrap 0+(n:Int)))]).run P w.drew= .ok (.value (.slice (some ⟨w.drew.heap.size,0,none⟩) n cs.size)) (w.drew.drew.drew.alloc (.cells cs (ρ.t 5))):=by
  rw [hw,run_callFunc_extern L.f277 (by kernel_rfl) (by kernel_rfl) (by kernel_rfl) (e:=Extern.BytealgMakeNoZero.makeNoZero #[(ρ.t 3)] #[(ρ.t 37)]) (by kernel_rfl),hrun]
  rfl
 have c1:w.drew.cell? ⟨b,1,none⟩=some (.slice none 0 0):=h1
 have hold:(w.alloc (.cells cs (ρ.t 5))).heap[b]? =w.heap[b]? :=Lib.alloc_old w _ b hlt
 have c2:(w.alloc (.cells cs (ρ.t 5))).cell? ⟨b,1,none⟩=some (.slice none 0 0):=by
  rw [←h1]; unfold World.cell?; simp only [hold]
 have f2:(w.alloc (.cells cs (ρ.t 5))).frozen? ⟨b,1,none⟩=false:=by
  rw [←hf]; unfold World.frozen?; simp only [hold]
 have hcopy:∀W:World,(Builtin.copy_ #[(ρ.t 37),(ρ.t 37)] (ρ.t 3) #[.slice (some ⟨w.heap.size,0,none⟩) 0 cs.size,.slice none 0 0]).run P W= .ok (goInt 0) W:=
  fun W=> run_copy_none W (ρ.t 37) (ρ.t 37) (ρ.t 3) (ρ.t 5) _ _ 0 cs.size 0 0 L.t37 X.sizeByte rfl
 clear hw
 have mixed:=L.mixed
 have t72:=L.t72; have a72:=L.a72; have z72:=L.z72; have v72:=L.v72; have u72:=run_underlying L.t72
 have t70:=L.t70; have a70:=L.a70; have z70:=L.z70; have v70:=L.v70; have u70:=run_underlying L.t70
 have t37:=L.t37; have a37:=L.a37; have z37:=L.z37; have v37:=L.v37; have u37:=run_underlying L.t37
 have t3:=L.t3; have a3:=L.a3; have z3:=L.z3; have v3:=L.v3; have u3:=run_underlying L.t3
 have t5:=X.t5; have a5:=X.a5; have z5:=X.z5; have v5:=X.v5; have u5:=run_underlying X.t5
 have hmx:=hmax (by unfold maxLen; omega)
 go_enter L.f241,Body.n241_ntmps ρ
 go_wp2
 go_region_o
 all_goals (go_wp2; go_end0; exact ⟨rfl,cs,hle,hmx,by first | rfl | exact MO hlt,rfl,rfl⟩)

end Go.Proofs
end
