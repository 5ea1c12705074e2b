/- Part 4 of a general layer: a deterministic machine over the model's code, and that what it comes to the model comes to. Conditions: those of each theorem. -/
import Derived.Test.YtgjhldabffjiaaaGreatDoorZC
import Derived.Shelf.SlicesE.Clone
import Derived.Shelf.Spec.SlicesInsert
import Derived.Shelf.Spec.SlicesInsertGrow
import Derived.Shelf.Strconv.AtoiAll
import Derived.Shelf.Strconv.Itoa4
import Derived.Shelf.Strconv.ToErrorRange
import Derived.Shelf.Strconv.ToError
import Derived.Shelf.Strconv.ParseIntPublic10
import Derived.Lib.ParseIntBTie
noncomputable section
namespace Go.Proofs
open Go.Shelf Go.RowKit Go.Lib
variable {P : Program} {ρ : Ren}

set_option maxHeartbeats 2000000 in
set_option maxRecDepth 100000 in
theorem Clone.run (L:SlLaysE0.n41 P ρ) {size:Nat} (z23:∀w,(Go.sizeOf (ρ.t 23)).run P w= .ok size w):∃ty,∀(a:Addr) (n c:Nat) (w:World) (v':Value) (w':World),
  (Builtin.append_ #[ρ.t 22,ρ.t 22] ty #[.slice (some ⟨w.heap.size,0,none⟩) 0 0,.slice (some a) n c]).run P (w.alloc (.cells #[] (ρ.t 23)))= .ok v' w'→
  Calls P (ρ.f 41) #[.slice (some a) n c] w fun e w2=> e= .returned v'∧w2=w':=by
 refine ⟨ρ.t 22,?_⟩
 intro a n c w v' w' hrun
 have mixed:=L.mixed; have t4:=L.t4; have a4:=L.a4; have z4:=L.z4; have v4:=L.v4; have t22:=L.t22; have a22:=L.a22; have z22:=L.z22; have v22:=L.v22
 have q22:∀(w:World) (a:Option Addr) (n c n' c':Nat),(binOp .eql (ρ.t 22) (.slice a n c) (.slice none n' c')).run P w= .ok (.bool a.isNone) w:=fun w a n c n' c'=> Lib.run_eql_slice_nil w _ _ a n c n' c' L.t22
 have u22:∀w,Sem.run P (underlying (ρ.t 22)) w= .ok (TypeDesc.slice (ρ.t 23)) w:=run_underlying t22
 obtain ⟨_,_,FG⟩:=L.f41
 go_enter FG,SlBodyN.n41_ntmps ρ
 go_wp2_with (at_builtin; refine Lib.wpList_append_run _ rfl _ _ _ _ rfl _ _ rfl rfl _ _ hrun ?_)
 go_ret
 exact ⟨rfl,rfl⟩
end Go.Proofs

namespace Go.Abs
open Go.Shelf
section
variable {P : Program} {ρ : Ren} {G : Nat → List DV} {cx : Cx} {h : Heap} {w : World} {E : Env}

def BI (P:Program) (G:Nat→List DV) (cx:Cx) (h:Heap) (w:World) (s:St1) (r:Result Next):Prop:=
 jR P [] G cx h w s r∨∃v h',s= .val v h'∧∃f args,r= .ok (.enter f args) w∧Calls P f args w fun e w'=> ∃cx' v',Inv P [] G cx' h' w'∧Stp cx h w cx' h' w'∧bY cx' w' v v'∧e= .returned v'

def Ed (P:Program) (f:FuncId) (e:TypeId):Prop:=Enters P f∧∃ρ,Proofs.SlLaysE0.n41 P ρ∧ρ.f 41=f∧ρ.t 23=e
def Cz (P:Program) (f:FuncId) (e:TypeId):Prop:=Enters P f∧∃ρ,Proofs.Lays2.n21 P ρ∧ρ.f 21=f∧ρ.t 3=e
def AJ (P:Program) (f:FuncId):Prim→Prop
 | .indexByte=> ∀(s:ByteArray) (c:Int) (w:World),(callFunc f #[.string s,.int .u8 c]).run P w= .ok (.value (.int .i64 (Lib.indexByte s.data.toList c.toNat.toUInt8))) w
 | .vo=> ∀(v:Value) (w:World),(callFunc f #[v]).run P w= .ok (.value v) w
 | .count=> ∀(s:ByteArray) (c:Int) (w:World),(callFunc f #[.string s,.int .u8 c]).run P w= .ok (.value (.int .i64 (Lib.countByte s.data.toList c.toNat.toUInt8))) w
 |_=> False
def Ho (P:Program) (f:FuncId) (e:TypeId):Prop:=Enters P f∧∃ρ,Proofs.Lays.n241 P ρ∧Proofs.Builder.Extra P ρ∧ρ.f 241=f∧ρ.t 5=e

theorem Kt {sz:Nat} {a:AV} {r} (hs:slView h sz a=some r):srcView h sz a=some r:=by
 unfold srcView
 split
 ·simp [slView] at hs
 ·exact hs

theorem MP {tm:List AV} {e:TypeId} {size bytes:Nat} {m:Bool} {x y:X} {st:St1} (hs:s_app h tm e size bytes m x y=st):(∃v h',st= .val v h')∨st= .bad:=by
 unfold s_app at hs
 split at hs
 ·split at hs
  ·generalize appA h e size m (x.ev tm) _ _=o at hs
   cases o with
   |none=> exact .inr hs.symm
   |some p=> exact .inl ⟨_,_,hs.symm⟩
  ·exact .inr hs.symm
 ·exact .inr hs.symm

theorem MQ (I:Inv P [] G cx h w) {f:FuncId} {e:TypeId} (S:Ed P f e) {size bytes:Nat} {zs:List AV} {mu:Bool} (hsz:mP P e=some size) (hby:byT P e=some bytes) (hz:nP P e=some zs) (hzs:zs.length=size)
  {x:X} {tm:List AV} {v:Value} (hx:bY cx w (x.ev tm) v):BI P G cx h w (xu E h tm f e size bytes mu x) ((callFunc f #[v]).run P w):=by
 obtain ⟨hent,ρ,L,rfl,rfl⟩:=S
 rw [lI hent]
 unfold xu
 split
 ·split
  ·rename_i r hs
   obtain ⟨n,l⟩:=r
   obtain ⟨ad,cap,rfl,hl,hcells⟩:=vT I hs hx
   cases ad with
   |none=>
    have hd0:∀{b:Bool} {m:Nat} {cs:List DV},kM w cx.F (.sl b m cs) (.slice none n cap)→n=0:=by
     intro b m cs hd
     cases hd
     rfl
    have hn0:n=0:=by
     generalize hq:x.ev tm=q at hs hx
     unfold slView at hs
     split at hs
     ·cases hx with | d _ _ hd=> exact hd0 hd
     ·cases hx; rfl
     ·cases hx with | app _ _ _ _ _ hd=> exact hd0 hd
     ·cases hx with | full _ _ _ _ hd=> exact hd0 hd
     ·cases hx with
      |sref _ _ _ _ _ _ c base _ _ _ _ _ _ ha _=>
       rcases ha with ha | ⟨_,ha⟩
       ·cases ha
       ·cases ha
     ·cases hs
    subst hn0
    have hl0:l=[]:=List.eq_nil_of_length_eq_zero (by rw [hl]; simp)
    subst hl0
    have hst:s_app h tm (ρ.t 23) size bytes mu (.c (.full false 0 [])) x= .val (.full false 0 []) h:=by
     unfold s_app
     rw [Kt hs]
     simp [lenOf,X.ev,okCells,appA,oh]
    refine .inr ⟨_,_,hst,_,_,rfl,?_⟩
    refine (Proofs.AnyE.slices_Clone_nil L 0 cap w).mono ?_
    rintro e w3 ⟨rfl,rfl⟩
    exact ⟨cx,_,I,.refl _ _ _,.full _ _ _ _ (.sl0 _ _ _),rfl⟩
   |some a=>
    obtain ⟨ty,hcl⟩:=Proofs.Clone.run L (jY hsz)
    obtain ⟨I1,S1⟩:=I.Dh (w':=w.alloc (.cells #[] (ρ.t 23))) (fun _ _=> False) (by show w.heap.size≤(w.heap.push _).size; simp) (fun c hc=> kZ _ _ _ hc) (fun _ _ f=> f.elim)
    have hx1:=hx.ext S1.ext
    have hy1:bY (cx.Dh fun _ _=> False) (w.alloc (.cells #[] (ρ.t 23))) ((X.c (.full false 0 [])).ev tm) (.slice (some ⟨w.heap.size,0,none⟩) 0 0):= .full _ _ _ _ (.sl0 _ _ _)
    have hout:=Lu I1 (t:=ρ.t 22) (t1:=ρ.t 22) (ts:= #[ρ.t 22,ρ.t 22]) (ty:=ty) (m:=mu) rfl rfl L.t22 L.t22 (fun q e=> by cases e) hsz hby hz hzs hy1 hx1
    generalize hst:s_app h tm (ρ.t 23) size bytes mu (.c (.full false 0 [])) x=st at hout
    cases st with
    |val v0 h'=>
     obtain ⟨cx2,w2,I2,S2,hres⟩:=hout
     have hrun:∃v',(Builtin.append_ #[ρ.t 22,ρ.t 22] ty #[.slice (some ⟨w.heap.size,0,none⟩) 0 0,.slice (some a) n cap]).run P (w.alloc (.cells #[] (ρ.t 23)))= .ok v' w2∧bY cx2 w2 v0 v':=by
      rcases hres with ⟨v',hr,hv⟩ | ⟨hr,_⟩
      ·refine ⟨v',?_,hv⟩
       rw [Sem.run_bind] at hr
       cases hq:(Builtin.append_ #[ρ.t 22,ρ.t 22] ty #[.slice (some ⟨w.heap.size,0,none⟩) 0 0,.slice (some a) n cap]).run P (w.alloc (.cells #[] (ρ.t 23))) with
       |ok u w3=> rw [hq] at hr; simp only [Result.andThen_ok,Sem.run_pure,Result.ok.injEq,Next.value.injEq] at hr; rw [hr.1,hr.2]
       |halt s=> rw [hq] at hr; cases hr
      ·rw [Sem.run_bind] at hr
       cases hq:(Builtin.append_ #[ρ.t 22,ρ.t 22] ty #[.slice (some ⟨w.heap.size,0,none⟩) 0 0,.slice (some a) n cap]).run P (w.alloc (.cells #[] (ρ.t 23))) with
       |ok u w3=> rw [hq] at hr; simp at hr
       |halt s=> rw [hq] at hr; cases hr
     obtain ⟨v',hrun,hv⟩:=hrun
     refine .inr ⟨v0,h',rfl,_,_,rfl,?_⟩
     refine (hcl a n cap w v' w2 hrun).mono ?_
     rintro e w3 ⟨rfl,rfl⟩
     exact ⟨cx2,v',I2,S1.trans S2,hv,rfl⟩
    |bad=> exact .inl trivial
    |_=> rcases MP hst with ⟨v,h',e⟩ | e <;> cases e
  ·exact .inl trivial
 ·exact .inl trivial
theorem LC (I:Inv P [] G cx h w) {e:TypeId} {arr:Array Value} {w':World} (hw:w'.heap=w.heap.push (.cells arr e (0,0))) (hio:w'.os=w.os∧w'.output=w.output) {cs:List AV} {n cap:Nat}
  (hr:∀i (hi:i < cs.length),i < arr.size∧bY cx w cs[i] (arr.getD i undef)) (hcap:n≤cap) (harr:cap≤arr.size) (hmx:cap≤maxLen):
  ∃cx',Inv P [] G cx' (h.push (.cells false e cs)) w'∧Stp cx h w cx' (h.push (.cells false e cs)) w'∧bY cx' w' (.sref h.n 0 1 n n false) (.slice (some ⟨w.heap.size,0,none⟩) n cap):=by
 obtain ⟨J,S⟩:=I.xC hw hr hio
 exact ⟨_,J,S,.sref _ _ _ _ _ _ w.heap.size 0 cap _ (by rw [Cx.qpρ]; simp) (Nat.le_refl _) hcap (fun k=> by cases k) (.inl rfl) (fun _=> ⟨arr,e,(0,0),by rw [hw]; simp,by simpa using harr,hmx⟩)⟩

theorem MR {cs:List AV} {l:List Value} (hc:jg cx w cs l) (Z:Array Value):∀i (hi:i < cs.length),i < (l.toArray++Z).size∧bY cx w cs[i] ((l.toArray++Z).getD i undef):=by
 intro i hi
 have hl:=hc.len
 have hi':i < l.length:=by omega
 refine ⟨by simp; omega,?_⟩
 have:=hc.rel i hi
 rw [Array.getD_eq_getD_getElem?,Array.getElem?_append_left (by simpa using hi')]
 simpa [List.getD] using this

theorem RS {old:List AV} {CS:List Value} (hc:jg cx w old CS) {y:DV} {u:Value} (hy:bY cx w (.d y) u) (j:Nat):jg cx w (old.take j++ .d y::old.drop j) (CS.take j++u::CS.drop j):=by
 have h1:jg cx w (old.take j) (CS.take j):=by
  refine ⟨by simp [hc.len],fun i hi=> ?_⟩
  have hi2:i < j∧i < old.length:=by simp at hi; omega
  have:=hc.rel i hi2.2
  have hl:=hc.len
  simpa [List.getD,List.getElem?_take,hi2.1] using this
 have h2:jg cx w (old.drop j) (CS.drop j):=by
  refine ⟨by simp [hc.len],fun i hi=> ?_⟩
  have hi2:j+i < old.length:=by simp at hi; omega
  have:=hc.rel (j+i) hi2
  simpa [List.getD,List.getElem?_drop] using this
 refine h1.append (jg.append (l:=[.d y]) (m:=old.drop j) (vs:=[u]) (us:=CS.drop j) ⟨rfl,fun i hi=> ?_⟩ h2)
 have:i=0:=by simpa using hi
 subst this
 exact hy

theorem CB (L:Proofs.Lays2.n21 P ρ) (I:Inv P [] G cx h w) {base:Option Addr} {n cap j:Nat} {old:List AV} {CS:List Value} (hcls:jg cx w old CS) (hn:old.length=n) (hj:j≤n) (hroom:cap < n+1) (hnc:n≤cap)
    (hbase:n=0∨∃c o,base=some ⟨c,o,none⟩∧∀i v,CS[i]? =some v→w.cell? ⟨c,o+i,none⟩=some v) (hnil:base=none→n=0) (hsm:n≤1000000) (hone:∀v∈CS,v.oneCell'=true)
    {cv ov FN:Nat} {u:Value} {y:DV} (hu:w.cell? ⟨cv,ov,none⟩=some u) (hy:bY cx w (.d y) u) (h1:u.oneCell'=true):
    Calls P (ρ.f 21) #[.slice base n cap,.int .i64 j,.slice (some ⟨cv,ov,none⟩) 1 FN] w fun e w'=> ∃cx' v',Inv P [] G cx' (h.push (.cells false (ρ.t 3) (old.take j++ .d y::old.drop j))) w'∧
      Stp cx h w cx' (h.push (.cells false (ρ.t 3) (old.take j++ .d y::old.drop j))) w'∧bY cx' w' (.sref h.n 0 1 (n+1) (n+1) false) v'∧e= .returned v':=by
  have hcl:CS.length=n:=by rw [hcls.len,hn]
  have hvs:∀j v,[u][j]? =some v→w.cell? ⟨cv,ov+j,none⟩=some v:=by
    intro j v hj
    cases j with
    |zero=> simp at hj; subst hj; simpa using hu
    |succ j=> simp at hj
  have h1v:∀v∈[u],v.oneCell'=true:=by simpa using h1
  obtain ⟨ID,SD⟩:=xE I
  have hge:=grownCap_ge w (n+1) cap (ρ.t 3)
  have hmx:=grownCap_le_maxLen w (n+1) cap (ρ.t 3) (by unfold maxLen; omega)
  have hins:=RS hcls hy j
  by_cases hjn:j=n
  · subst hjn
    have hc := Proofs.Any2.slices_Insert_int_end_grow L base j cap cv ov 1 FN CS [u] w (by omega) hnc hroom (by omega) hcl rfl hnil (fun a ha i v hi => by
      rcases hbase with e0 | ⟨c,o,e0,hb⟩
      · have:CS=[]:=List.eq_nil_of_length_eq_zero (by omega)
        rw [this] at hi; simp at hi
      · rw [e0] at ha; cases ha
        rw [addr_add]; exact hb i v hi) hvs h1v
    refine hc.mono ?_
    rintro e w3 ⟨rfl,rfl⟩
    have e1:CS++ [u]=CS.take j++u::CS.drop j:=by rw [List.take_of_length_le (by omega),List.drop_of_length_le (by omega)]
    obtain ⟨cx',J,S,V⟩:=LC (n:=j+1) (cap:=grownCap w (j+1) cap (ρ.t 3)) ID (w':=w.drew.alloc (.cells ((CS++ [u]).toArray++Builtin.zeroCells (Value.int .i64 0).cells (grownCap w (j+1) cap (ρ.t 3) - (j+1))) (ρ.t 3))) rfl ⟨rfl,rfl⟩
      (cs := old.take j ++ .d y :: old.drop j) (by rw [e1]; exact MR (hins.ext SD.ext) _) hge (by
        simp only [Array.size_append,List.size_toArray,List.length_append,sV,List.length_singleton,hcl]
        have:(Value.int .i64 0).cells.size=1:=rfl
        rw [this]; omega) hmx
    exact ⟨cx',_,J,SD.trans S,V,rfl⟩
  · have hjn:j < n:=by omega
    obtain ⟨c,o,rfl,hb⟩:=hbase.resolve_left (by omega)
    have hc:=Proofs.Any2.slices_Insert_int_grow L c o n cap j cv ov 1 FN CS [u] w hjn (by omega) hnc hroom (by omega) hcl rfl hb hvs hone h1v
    refine hc.mono ?_
    rintro e w3 ⟨rfl,rfl⟩
    generalize hA:((CS.take j).toArray++Builtin.zeroCells (Value.int .i64 0).cells (n+1 - j)++Builtin.zeroCells (Value.int .i64 0).cells (grownCap w (n+1) cap (ρ.t 3) - (n+1)))=A
    have hAs:A.size=grownCap w (n+1) cap (ρ.t 3):=by
      rw [←hA]
      have:(Value.int .i64 0).cells.size=1:=rfl
      simp only [Array.size_append,List.size_toArray,List.length_take,sV,hcl,this]
      omega
    have hAj:∀i,i < j→A[i]? =CS[i]? :=by
      intro i hi
      rw [←hA,Array.append_assoc,Array.getElem?_append_left (by simp; omega)]
      simp [hi]
    generalize hW0:((w.alloc (.cells A (ρ.t 3))).drew)=W0
    have w0h:W0.heap=w.heap.push (.cells A (ρ.t 3) (0,0)):=by rw [←hW0]; rfl
    have aaZ:W0.os=w.os∧W0.output=w.output:=by rw [←hW0]; exact ⟨rfl,rfl⟩
    have w0N:W0.heap[w.heap.size]? =some (.cells A (ρ.t 3) (0,0)):=by rw [w0h]; simp
    obtain ⟨s1,s2,s3⟩:=om w.heap.size [u] j W0
    obtain ⟨A1,a1s,a1h⟩:=s3 A (ρ.t 3) (0,0) w0N
    obtain ⟨t1,t2,t3⟩:=om w.heap.size (CS.drop j) (j+1) (W0.setCells w.heap.size j [u]).drew
    obtain ⟨A2,a2s,a2h⟩:=t3 A1 (ρ.t 3) (0,0) a1h
    have hheap:((W0.setCells w.heap.size j [u]).drew.setCells w.heap.size (j+1) (CS.drop j)).heap=w.heap.push (.cells A2 (ρ.t 3) (0,0)):=by
      apply Array.ext_getElem?
      intro i
      by_cases e:i=w.heap.size
      · subst e; rw [a2h]; simp
      · rw [t2 i e]
        show (W0.setCells w.heap.size j [u]).heap[i]? =_
        rw [s2 i e,w0h,Array.getElem?_push,Array.getElem?_push]
        simp [e]
    have hio:((W0.setCells w.heap.size j [u]).drew.setCells w.heap.size (j+1) (CS.drop j)).os=w.os∧((W0.setCells w.heap.size j [u]).drew.setCells w.heap.size (j+1) (CS.drop j)).output=w.output:=by
      have q1:=wH w.heap.size (CS.drop j) (j+1) (W0.setCells w.heap.size j [u]).drew
      have q2:=wH w.heap.size [u] j W0
      exact ⟨(q1.1.trans q2.1).trans aaZ.1,(q1.2.trans q2.2).trans aaZ.2⟩
    have UR:∀i,((W0.setCells w.heap.size j [u]).drew.setCells w.heap.size (j+1) (CS.drop j)).cell? ⟨w.heap.size,i,none⟩=A2[i]? :=by
      intro i; simp [World.cell?,a2h]
    have hcell1:∀i,(W0.setCells w.heap.size j [u]).drew.cell? ⟨w.heap.size,i,none⟩=A1[i]? :=by
      intro i; show (W0.setCells w.heap.size j [u]).cell? _=_; simp [World.cell?,a1h]
    have hcell0:∀i,W0.cell? ⟨w.heap.size,i,none⟩=A[i]? :=by
      intro i; simp [World.cell?,w0N]
    have hdl:(CS.drop j).length=n - j:=by rw [List.length_drop,hcl]
    have hget:∀i,i < n+1→A2[i]? =(CS.take j++u::CS.drop j)[i]? :=by
      intro i hi
      rw [←UR]
      by_cases e1:i < j+1
      · rw [World.cell?_setCells_out w.heap.size (CS.drop j) (j+1) _ _ (fun _ _=> .inl e1)]
        show (W0.setCells w.heap.size j [u]).cell? _=_
        by_cases e2:i=j
        · subst e2
          have := World.cell?_setCells_in w.heap.size [u] i W0 (fun k hk => by
            have:k=0:=by simpa using hk
            subst this
            rw [Nat.add_zero,hcell0,Array.getElem?_eq_getElem (by omega)]; rfl) 0 (by simp)
          simp only [Nat.add_zero] at this
          rw [this,List.getElem?_append_right (by simp; omega)]
          simp [hcl,Nat.min_eq_left hj]
        · rw [World.cell?_setCells_out w.heap.size [u] j _ _ (fun _ _=> .inl (by show i < j; omega)),hcell0,hAj i (by omega),List.getElem?_append_left (by simp; omega)]
          simp [show i < j by omega]
      · have := World.cell?_setCells_in w.heap.size (CS.drop j) (j + 1) (W0.setCells w.heap.size j [u]).drew (fun k hk => by
          rw [hcell1,Array.getElem?_eq_getElem (by omega)]; rfl) (i - (j+1)) (by omega)
        rw [show j+1+(i - (j+1))=i by omega] at this
        rw [this,List.getElem?_append_right (by simp; omega)]
        have e3:i - (CS.take j).length=(i - (j+1))+1:=by simp [hcl,Nat.min_eq_left hj]; omega
        rw [e3,List.getElem?_cons_succ,List.getElem?_eq_getElem (by omega)]
    have hlen:(old.take j++ .d y::old.drop j).length=n+1:=by simp [hn]; omega
    obtain ⟨cx',J,S,V⟩ := LC (n := n + 1) (cap := grownCap w (n + 1) cap (ρ.t 3)) I hheap hio (cs := old.take j ++ .d y :: old.drop j) (fun i hi => by
      rw [hlen] at hi
      refine ⟨by omega,?_⟩
      have:=hins.rel i (by rw [hlen]; exact hi)
      rw [List.getD_eq_getElem?_getD,←hget i hi] at this
      simpa [Array.getD_eq_getD_getElem?] using this) hge (by omega) hmx
    exact ⟨cx',_,J,S,V,rfl⟩
theorem MS (L:Proofs.Lays2.n21 P ρ) (I:Inv P [] G cx h w) {b c n cap j:Nat} {cs old:List AV} {arr:Array Value} {fz:Nat×Nat} (hb:h.get b=some (.cells false (ρ.t 3) cs)) (hr:cx.ρ b=some (c,0)) (hh:w.heap[c]? =some (.cells arr (ρ.t 3) fz))
    (hfz:fz.1=fz.2) (hold:readN cs 0 n=some old) (hj:j≤n) (hfit:n+1≤cap) (hcap:cap≤arr.size) (hmx:cap≤maxLen) (hok:okCells old=true)
    {cv ov FN kv:Nat} {tv:TypeId} {u:Value} {y:DV} (hne:cv≠c) (hu:w.cell? ⟨cv,ov,none⟩=some u) (hy:bY cx w (.d y) u) (h1:u.oneCell'=true) (hsh:w.shape? cv=some (tv,kv)) (hf1:w.frozen? ⟨cv,ov,none⟩=false) (hf2:w.frozen? ⟨cv,kv,none⟩=false):
    Calls P (ρ.f 21) #[.slice (some ⟨c,0,none⟩) n cap,.int .i64 j,.slice (some ⟨cv,ov,none⟩) 1 FN] w fun e w'=> ∃cx' v',Inv P [] G cx' ((h.set b .dead).push (.cells false (ρ.t 3) (old.take j++ .d y::old.drop j))) w'∧
      Stp cx h w cx' ((h.set b .dead).push (.cells false (ρ.t 3) (old.take j++ .d y::old.drop j))) w'∧bY cx' w' (.sref h.n 0 1 (n+1) (n+1) false) v'∧e= .returned v':=by
  have hvs:∀j v,[u][j]? =some v→w.cell? ⟨cv,ov+j,none⟩=some v:=by
    intro j v hj
    cases j with
    |zero=> simp at hj; subst hj; simpa using hu
    |succ j=> simp at hj
  have h1v:∀v∈[u],v.oneCell'=true:=by simpa using h1
  obtain ⟨r1,r2,r3,r4⟩:=pU hold
  have hold':old=cs.take n:=by rw [r2]; simp
  obtain ⟨c',base',hr',_,hcell⟩:=I.heap b _ hb
  rw [hr] at hr'; cases hr'
  have hcl:jg cx w (cs.take n) ((List.range n).map fun i=> (w.cell? ⟨c,0+i,none⟩).getD undef):=by
    refine ⟨by simp; omega,fun i hi=> ?_⟩
    have hi':i < n∧i < cs.length:=by simp at hi; omega
    obtain ⟨v,v1,v2,_,_⟩:=hcell i hi'.2
    rw [List.getElem_take]
    have:((List.range n).map fun i=> (w.cell? ⟨c,0+i,none⟩).getD undef).getD i undef=v:=by
      rw [List.getD_eq_getElem?_getD,List.getElem?_map,List.getElem?_range hi'.1]
      simp only [Option.map_some,Option.getD_some,v1]
    rw [this]; exact v2
  rw [←hold'] at hcl
  generalize hCS:((List.range n).map fun i=> (w.cell? ⟨c,0+i,none⟩).getD undef)=CS at hcl
  have acA:CS.length=n:=by rw [←hCS]; simp
  have hcs:∀i v,CS[i]? =some v→w.cell? ⟨c,0+i,none⟩=some v:=by
    intro i v hi
    rw [←hCS,List.getElem?_map] at hi
    have hin:i < n:=by
      have:=(List.getElem?_eq_some_iff.1 (show CS[i]? =some v by rw [←hCS,List.getElem?_map]; exact hi)).1
      omega
    rw [List.getElem?_range hin,Option.map_some] at hi
    obtain ⟨x,x1,_⟩:=hcell i (by omega)
    rw [x1] at hi ⊢
    simpa using hi
  have hone:=hcl.one (by simpa [okCells] using hok)
  have Pj:∀i,i < n+1→(w.cell? ⟨c,0+i,none⟩).isSome=true:=by
    intro i hi
    simp only [World.cell?,hh,Nat.zero_add]
    rw [Array.getElem?_eq_getElem (by omega)]; rfl
  have aa0:∀i,w.frozen? ⟨c,i,none⟩=false:=fun i=> wI hh hfz i
  have hyl : jg cx w [.d y] [u] := ⟨rfl,fun i hi => by
    have:i=0:=by simpa using hi
    subst this; exact hy⟩
  -- the block is renamed
  have fin:∀(w3:World) (h3:Heap),Inv P [] G cx h3 w3→Stp cx h w cx h3 w3→h3.n=h.n→h3.get b=some (.cells false (ρ.t 3) (old.take j++ .d y::old.drop j))→(∀b',b'≠b→h3.get b'=h.get b')→(∃arr' fz',w3.heap[c]? =some (Obj.cells arr' (ρ.t 3) fz')∧arr'.size=arr.size)→
      ∃cx' v',Inv P [] G cx' ((h.set b .dead).push (.cells false (ρ.t 3) (old.take j++ .d y::old.drop j))) w3∧
      Stp cx h w cx' ((h.set b .dead).push (.cells false (ρ.t 3) (old.take j++ .d y::old.drop j))) w3∧bY cx' w3 (.sref h.n 0 1 (n+1) (n+1) false) v'∧Ending.returned (.slice (some ⟨c,0,none⟩) (n+1) cap)= .returned v':=by
    intro w3 h3 q2 q3 hn3 hb3 ho3 ⟨arr',fz',ha',hs'⟩
    have hB:=q2.heap b _ hb3
    obtain ⟨p2,p3⟩ := q2.rename (y := .cells false (ρ.t 3) (old.take j ++ .d y :: old.drop j)) hb3 rfl (fun _ _ => by simp) hr (fun _ _ => by simp) rfl (by
      obtain ⟨c3,aaV,hr3,UO,hc3⟩:=hB
      rw [hr] at hr3; cases hr3
      refine ⟨c,0,by rw [Cx.qpρ]; simp,UO,fun i hi=> ?_⟩
      obtain ⟨u,u1,u2,u3,u4⟩:=hc3 i hi
      exact ⟨u,u1,u2.ext (Ext.Db q2 _ _),(fun f=> by cases f),u4⟩)
    have hgeq:∀b',((h3.set b .dead).push (.cells false (ρ.t 3) (old.take j++ .d y::old.drop j))).get b'=((h.set b .dead).push (.cells false (ρ.t 3) (old.take j++ .d y::old.drop j))).get b':=by
      intro b'
      simp only [Heap.jk,Heap.Cj,Heap.zP,hn3]
      by_cases e1:b'=h.n
      · simp [e1]
      · simp only [e1,if_false]
        by_cases e2:b=b'∧b' < h.n
        · simp [e2]
        · rw [if_neg e2,if_neg e2]
          by_cases e3:b'=b
          · subst e3
            have:=Heap.kH hb
            exact absurd ⟨rfl,this⟩ e2
          · exact ho3 b' e3
    have hnn:((h3.set b .dead).push (.cells false (ρ.t 3) (old.take j++ .d y::old.drop j))).n=((h.set b .dead).push (.cells false (ρ.t 3) (old.take j++ .d y::old.drop j))).n:=by
      simp [hn3]
    refine ⟨_,_,p2.congr hnn hgeq,(q3.trans p3).congr hnn hgeq,?_,rfl⟩
    rw [←hn3]
    exact .sref _ 0 1 (n+1) (n+1) false c 0 cap _ (by rw [Cx.qpρ]; simp) (Nat.le_refl _) hfit (fun k=> by cases k) (.inl rfl) (fun _=> ⟨arr',_,fz',ha',by omega,hmx⟩)
  by_cases hjn:j=n
  · subst hjn
    have hc := Proofs.Any2.slices_Insert_int_end_room L c 0 j cap cv ov 1 FN [u] w (by omega) hfit (by unfold maxLen at hmx; omega) rfl (fun i hi => by
        have:i=0:=by omega
        subst this
        have:=Pj j (by omega); simpa using this) (fun i _=> aa0 _) hvs h1v
    refine hc.mono ?_
    rintro e w3 ⟨rfl,rfl⟩
    obtain ⟨_,q2,q3⟩:=I.Dj (off:=j) hb hr hyl (by omega) hh (by simp; omega) h1v
    obtain ⟨s1,s2,s3⟩:=om c [u] (0+j) w
    obtain ⟨A1,a1,a2⟩:=s3 arr (ρ.t 3) fz hh
    have e1:old.take j++ .d y::old.drop j=cs.take j++ [.d y]:=by rw [List.take_of_length_le (by omega),List.drop_of_length_le (by omega),hold']
    refine fin _ _ q2 q3 rfl ?_ (fun b' hb'=> Heap.get_set_ne (Ne.symm hb')) ⟨A1,fz,a2,a1⟩
    rw [e1]; exact Heap.get_set_self hb
  · have hjn:j < n:=by omega
    have hc:=Proofs.Any2.slices_Insert_int_shift L c 0 n cap j cv ov 1 FN CS [u] w hjn (by omega) hfit (by unfold maxLen at hmx; omega) hne acA rfl hcs Pj (fun i _=> aa0 _) hvs hone h1v tv (ρ.t 3) kv arr.size hsh (by simp [World.shape?,hh]) (by omega) hf1 hf2
    refine hc.mono ?_
    rintro e w3 ⟨rfl,rfl⟩
    obtain ⟨ID,SD⟩:=xE I
    have hdrop:jg cx w (old.drop j) (CS.drop j):=by
      refine ⟨by simp [hcl.len],fun i hi=> ?_⟩
      have hi2:j+i < old.length:=by simp at hi; omega
      have:=hcl.rel (j+i) hi2
      simpa [List.getD,List.getElem?_drop] using this
    obtain ⟨_,q2,q3⟩:=ID.Dj (off:=j+1) hb hr (hdrop.ext SD.ext) (by omega) (show w.drew.heap[c]? =_ from hh) (by simp; omega) (fun v hv=> hone v (List.mem_of_mem_drop hv))
    have hb2:(h.set b (.cells false (ρ.t 3) (cs.take (j+1)++old.drop j))).get b=some (.cells false (ρ.t 3) (cs.take (j+1)++old.drop j)):=Heap.get_set_self hb
    obtain ⟨_,q4,q5⟩:=q2.write (off:=j) hb2 hr ((hyl.ext SD.ext).ext q3.ext) (by simp; omega) h1v
    obtain ⟨s1,s2,s3⟩:=om c (CS.drop j) (0+(j+1)) w.drew
    obtain ⟨A1,a1,a2⟩:=s3 arr (ρ.t 3) fz hh
    obtain ⟨t1,t2,t3⟩:=om c [u] (0+j) (w.drew.setCells c (0+(j+1)) (CS.drop j))
    obtain ⟨A2,a3,a4⟩:=t3 A1 (ρ.t 3) fz a2
    have e1:y8 (cs.take (j+1)++old.drop j) j [.d y]=old.take j++ .d y::old.drop j:=by
      apply List.ext_getElem?
      intro i
      rw [Df _ _ _ _ (by simp; omega)]
      by_cases k1:i < j
      · rw [if_neg (by omega),List.getElem?_append_left (by simp; omega),List.getElem?_append_left (by simp; omega),hold']
        simp [k1,show i < j+1 by omega,show i < n by omega]
      · by_cases k2:i=j
        · subst k2
          rw [if_pos (by simp),List.getElem?_append_right (by simp; omega)]
          simp [r3,Nat.min_eq_left hj]
        · rw [if_neg (by simp; omega),List.getElem?_append_right (by simp; omega),List.getElem?_append_right (by simp; omega)]
          have z1:(cs.take (j+1)).length=j+1:=by simp; omega
          have z2:(old.take j).length=j:=by simp; omega
          rw [z1,z2,show i - j=(i - (j+1))+1 by omega,List.getElem?_cons_succ]
    refine fin _ _ q4 (SD.trans (q3.trans q5)) rfl ?_ (fun b' hb'=> ?_) ⟨A2,fz,a4,by rw [a3,a1]⟩
    · rw [Heap.get_set_self hb2,e1]
    · rw [Heap.get_set_ne (Ne.symm hb'),Heap.get_set_ne (Ne.symm hb')]

theorem MU (I:Inv P [] G cx h w) {f:FuncId} {e:TypeId} (S:Cz P f e) {x i v:X} {tm:List AV} {x' i' v':Value} (hx:bY cx w (x.ev tm) x') (hi:bY cx w (i.ev tm) i') (hv:bY cx w (v.ev tm) v'):
    BI P G cx h w (xw E h tm f e x i v) ((callFunc f #[x',i',v']).run P w):=by
  obtain ⟨hent,ρ,L,rfl,rfl⟩:=S
  rw [lI hent]
  unfold xw
  split
  · split
    · rename_i j b2 off2 z2 n2 m2 ex2 hie hve
      rw [hie] at hi
      rw [hve] at hv
      cases hi with
      |d _ _ hi=>
      cases hi
      split
      · rename_i fr2 e2 c2 hz2 hb2
        simp only [Bool.and_eq_true] at hz2
        have acB:=m_ hz2.1
        have acC:=m_ hz2.2
        subst acB
        subst acC
        split
        · rename_i y acD
          cases hv with
          |sref _ _ _ _ _ _ cv adF FN av hrv hnv hmv hev hav hzv=>
          obtain ⟨cv',acE,aa1,⟨FE,fz2,hh2,aa2⟩,hc2⟩:=I.heap b2 _ hb2
          rw [hrv] at aa1; cases aa1
          have hb0:=I.sep.base0 _ _ _ hrv
          subst hb0
          have acF:av=some ⟨cv,0+off2,none⟩:=by
            rcases hav with e | ⟨e,_⟩
            · exact e
            · omega
          subst acF
          obtain ⟨r1,r2,r3,r4⟩:=pU acD
          obtain ⟨u,u1,u2,_,u4⟩:=hc2 off2 (by omega)
          have hyu:bY cx w (.d y) u:=by
            have:=r4 0 (by simp) (by omega)
            simp only [List.getElem_cons_zero,Nat.add_zero] at this
            rw [this]; exact u2
          have hone : okCells [.d y] = true → u.oneCell' = true := fun hk => (jg.one (cx := cx) (w := w) (l := [.d y]) (vs := [u]) ⟨rfl,fun i hi => by
            have:i=0:=by simpa using hi
            subst this; exact hyu⟩ (by simpa [okCells] using hk)) u (by simp)
          split
          · rename_i hxe
            rw [hxe] at hx
            cases hx
            split
            · rename_i wQ
              simp only [Bool.and_eq_true] at wQ
              have hj:=m_ wQ.1
              subst hj
              refine .inr ⟨_,_,rfl,_,_,rfl,?_⟩
              exact CB L I (n:=0) (old:=[]) (CS:=[]) ⟨rfl,fun i hi=> by simp at hi⟩ rfl (Nat.le_refl _) (by omega) (Nat.le_refl _) (.inl rfl) (fun _=> rfl) (by omega) (by simp) u1 hyu (hone wQ.2)
            · exact .inl trivial
          · rename_i bb n cs hxe
            rw [hxe] at hx
            split
            · rename_i wQ
              simp only [Bool.and_eq_true] at wQ
              obtain ⟨⟨⟨⟨k1,k2⟩,k3⟩,k4⟩,k5⟩:=wQ
              have k1:=jB k1
              have k2:=m_ k2
              have k3:=jB k3
              cases hx with
              |full _ _ _ a hd=>
                refine .inr ⟨_,_,rfl,_,_,rfl,?_⟩
                cases hd with
                |sl0 _ _ _=> exact CB L I (n:=0) (old:=[]) (CS:=[]) ⟨rfl,fun i hi=> by simp at hi⟩ rfl k1 (by omega) (Nat.le_refl _) (.inl rfl) (fun _=> rfl) k3 (by simp) u1 hyu (hone k4)
                |sl _ _ _ c o _ vs hn0 hc0 d1 d2=>
                  have hcls:jg cx w (cs.map .d) ((List.range n).map vs):=by
                    refine ⟨by simp; omega,fun i hi=> ?_⟩
                    have hi':i < cs.length:=by simpa using hi
                    rw [List.getElem_map,List.getD_eq_getElem?_getD,List.getElem?_map,List.getElem?_range (by omega)]
                    exact .d _ _ (d2 i hi')
                  refine CB L I hcls (by simpa using k2) k1 (by omega) (Nat.le_refl _) (.inr ⟨c,o,rfl,fun i v hi=> ?_⟩) (fun e=> by cases e) k3 (hcls.one (by simpa [okCells] using k5)) u1 hyu (hone k4)
                  have hin:i < n:=by have:=(List.getElem?_eq_some_iff.1 hi).1; simpa using this
                  rw [List.getElem?_map,List.getElem?_range hin] at hi
                  cases hi
                  exact (d1 i (by omega)).1
            · exact .inl trivial
          · rename_i b off z n m ex hxe
            rw [hxe] at hx
            split
            · rename_i fr e' cs hbk
              split
              · rename_i old hold
                split
                · rename_i wQ
                  simp only [Bool.and_eq_true,Bool.not_eq_true',Bool.or_eq_false_iff] at wQ
                  obtain ⟨⟨⟨⟨⟨⟨⟨k1,k2⟩,k3⟩,⟨⟨k4,k5⟩,k6⟩⟩,k7⟩,k8⟩,k9⟩,k10⟩:=wQ
                  have k1:=jB k1
                  have k2:=m_ k2
                  have k3:=m_ k3
                  have k7:=m_ k7
                  have k8:=jB k8
                  subst k2 k3 k4 k5 k7
                  have hbb:b≠b2:=by
                    intro e; subst e; simp at k6
                  cases hx with
                  |sref _ _ _ _ _ _ c base cap a hr hn hm he ha hz=>
                    have hb0:=I.sep.base0 _ _ _ hr
                    subst hb0
                    obtain ⟨arr,et,fz,z1,z2,z3⟩:=hz rfl
                    obtain ⟨c',base',hr',⟨arr',fz',hh',acG⟩,hcell⟩:=I.heap b _ hbk
                    rw [hr] at hr'; cases hr'
                    rw [z1] at hh'; cases hh'
                    obtain ⟨q1,q2,q3,q4⟩:=pU hold
                    refine .inr ⟨_,_,rfl,_,_,rfl,?_⟩
                    by_cases hfit:n+1≤cap
                    · have ha':a=some ⟨c,0,none⟩:=by
                        rcases ha with e | ⟨e,_⟩
                        · simpa using e
                        · omega
                      subst ha'
                      have hne:cv≠c:=by
                        intro ee
                        subst ee
                        exact hbb (I.sep.inj b b2 _ (.blk _ 0 hbk rfl (fun _ _=> by simp) hr) (.blk _ 0 hb2 rfl (fun _ _=> by simp) hrv))
                      exact MS L I hbk hr z1 (acG rfl) hold k1 hfit (by omega) z3 k10 hne u1 hyu (hone k9) (show w.shape? cv=some (e2,FE.size) by simp [World.shape?,hh2]) (wI hh2 (aa2 rfl) _) (wI hh2 (aa2 rfl) _)
                    · obtain ⟨Ik,sk⟩:=I.kill b
                      have hcls:jg cx w old ((List.range n).map fun i=> (w.cell? ⟨c,0+i,none⟩).getD undef):=by
                        refine ⟨by simp [q3],fun i hi=> ?_⟩
                        obtain ⟨v,v1,v2,_,_⟩:=hcell i (by omega)
                        have e1:=q4 i hi (by omega)
                        rw [e1]
                        simp only [Nat.zero_add] at v1 ⊢
                        have:((List.range n).map fun i=> (w.cell? ⟨c,i,none⟩).getD undef).getD i undef=v:=by
                          rw [List.getD_eq_getElem?_getD,List.getElem?_map,List.getElem?_range (by omega)]
                          simp only [Option.map_some,Option.getD_some,v1]
                        rw [this]; exact v2
                      have hres := CB L Ik (FN := FN) hcls q3 k1 (by omega) (by omega) (base := a) (cap := cap) (by
                        by_cases e0:n=0
                        · exact .inl e0
                        · right
                          have ha':a=some ⟨c,0,none⟩:=by
                            rcases ha with e | ⟨e,_⟩
                            · simpa using e
                            · omega
                          refine ⟨c,0,ha',fun i v hi=> ?_⟩
                          have hin:i < n:=by have:=(List.getElem?_eq_some_iff.1 hi).1; simpa using this
                          rw [List.getElem?_map,List.getElem?_range hin] at hi
                          obtain ⟨x,x1,_⟩:=hcell i (by omega)
                          simp only [Option.map_some,x1,Option.getD_some,Option.some.injEq] at hi
                          rw [←hi]; exact x1) (fun e0=> by
                        rcases ha with e | ⟨_,e⟩
                        · rw [e] at e0; cases e0
                        · rw [e0] at e; cases e) k8 (hcls.one (by simpa [okCells] using k10)) u1 hyu (hone k9)
                      refine hres.mono ?_
                      rintro e w3 ⟨cx',v',p1,p2,p3,p4⟩
                      exact ⟨cx',v',p1,sk.trans p2,p3,p4⟩
                · exact .inl trivial
              · exact .inl trivial
            · exact .inl trivial
          · exact .inl trivial
        · exact .inl trivial
      · exact .inl trivial
    · exact .inl trivial
  · exact .inl trivial

theorem Ku {c:Nat} (hc:c < 256):∀(l:List UInt8) (i:Nat),B9 c l i=i+Lib.countByte l (UInt8.ofNat c):=by
 intro l
 induction l with
 |nil=> intro i; rfl
 |cons b l ih=>
  intro i
  have hb:Nat.beq b.toNat c=(b==UInt8.ofNat c):=by
   rw [Bool.eq_iff_iff,Nat.beq_eq,beq_iff_eq]
   constructor
   ·intro e; rw [←e]; simp
   ·intro e; rw [e]; simp [Nat.mod_eq_of_lt hc]
  unfold B9
  rw [hb]
  unfold Lib.countByte at ih ⊢
  rw [List.count_cons]
  cases b==UInt8.ofNat c with
  |true=> simp only [ih,if_true]; omega
  |false=> simp [ih]

def Bl:List DV:=(List.range 20).map fun i=> .i .u64 (.ofNat (10 ^ i))
def SN (P:Program) (G:Nat→List DV) (te te0:TypeId) (f:FuncId):C4→Prop
 | .itoa=> Enters P f∧∃ρ,Proofs.LaysM.n171 P ρ∧ρ.f 171=f∧G (ρ.g 17)=Bl
 | .Bg=> Enters P f∧∃ρ,Proofs.LaysM.n173 P ρ∧ρ.f 173=f∧G (ρ.g 17)=Bl
 | .atoi=> Enters P f∧∃ρ,Proofs.LaysC.n172 P ρ∧ρ.f 172=f∧ρ.t 168=te∧(∃t,G (ρ.g 15)=[.ifc t (.bx false [] 0)])∧∃t,G (ρ.g 16)=[.ifc t (.bx false [] 0)]
 | .C5=> Enters P f∧∃ρ,Proofs.LaysM.n316 P ρ∧ρ.f 316=f
 | .wD=> Enters P f∧∃ρ,Proofs.LaysC.n174 P ρ∧ρ.f 174=f∧ρ.t 168=te∧(∃t,G (ρ.g 15)=[.ifc t (.bx false [] 0)])∧∃t,G (ρ.g 16)=[.ifc t (.bx false [] 0)]
 | .El=> Enters P f∧∃ρ,Proofs.LaysC.n245 P ρ∧ρ.f 245=f∧ρ.t 168=te∧ρ.t 167=te0∧(∃t,G (ρ.g 15)=[.ifc t (.bx false [] 0)])∧∃t,G (ρ.g 16)=[.ifc t (.bx false [] 0)]

theorem qJ (f u:Nat) (acc:List UInt8):yc (f+1) u acc=if u < 10 then UInt8.ofNat (48+u)::acc else yc f (u / 10) (UInt8.ofNat (48+u % 10)::acc):=by
 by_cases hb:u < 10
 ·have:Nat.blt u 10=true:=by rw [Nat.blt_eq]; exact hb
  rw [if_pos hb]
  show (match Nat.blt u 10 with | true=> UInt8.ofNat (48+u)::acc | false=> yc f (Nat.div u 10) (UInt8.ofNat (48+Nat.mod u 10)::acc))=_
  rw [this]
 ·have:Nat.blt u 10=false:=by rw [←Bool.not_eq_true,Nat.blt_eq]; exact hb
  rw [if_neg hb]
  show (match Nat.blt u 10 with | true=> UInt8.ofNat (48+u)::acc | false=> yc f (Nat.div u 10) (UInt8.ofNat (48+Nat.mod u 10)::acc))=_
  rw [this]
  rfl
theorem LD:∀(f u:Nat) (acc:List UInt8),u < 10 ^ (f+1)→yc (f+1) u acc=Lib.decDigits u++acc:=by
 intro f
 induction f with
 |zero=>
  intro u acc h
  have hu:u < 10:=by simpa using h
  rw [qJ,if_pos hu,Lib.decDigits,dif_pos hu]; rfl
 |succ f ih=>
  intro u acc h
  rw [qJ,Lib.decDigits]
  by_cases hu:u < 10
  ·rw [if_pos hu,dif_pos hu]; rfl
  ·rw [if_neg hu,dif_neg hu,ih _ _ (by rw [Nat.pow_succ] at h; omega)]
   simp
theorem Jo {n:Int} (h0: -9223372036854775808≤n) (h1:n≤9223372036854775807):wT n=Lib.itoa n:=by
 unfold Lib.itoa
 cases n with
 |ofNat u=>
  show yc 20 u []=_
  rw [if_neg (by simp only [Int.ofNat_eq_natCast]; omega),LD _ _ _ (by simp only [Int.ofNat_eq_natCast] at h1; omega),List.append_nil]
  rfl
 |negSucc u=>
  show 45::yc 20 (u+1) []=_
  rw [if_pos (by omega),LD _ _ _ (by omega),List.append_nil]
  rfl
theorem LF {n:Int} (h:inR .i64 n=true): -9223372036854775808≤n∧n≤9223372036854775807:=by
 cases n with
 |ofNat u=> have:=ru (show Nat.blt u 9223372036854775808=true from h); simp only [Int.ofNat_eq_natCast]; omega
 |negSucc u=> have:=ru (show Nat.blt u 9223372036854775808=true from h); omega

theorem Pk (I:Inv P [] G cx h w) {g:Nat} {name:String} (hn:P.globalNamed name=some g) (hg:G g=Bl):Lib.TabIs P w name .u64 Lib.pow10Tab:=by
 have hl:(G g).length=20:=by rw [hg]; rfl
 obtain ⟨v,v1,v2,v3⟩:=I.kQ g 0 (by omega)
 obtain ⟨arr,e,fz,a1,a2⟩:=v3.a
 unfold Lib.TabIs World.var?
 rw [hn,Option.bind_some,a1]
 show some arr=_
 congr 1
 apply Array.ext
 ·rw [a2,hl]; simp [Lib.pow10Tab]
 ·intro i h1 h2
  obtain ⟨v,v1,_,v3⟩:=I.kQ g i (by omega)
  have hi:i < 20:=by omega
  have hd:(G g)[i]'(by omega)= .i .u64 (.ofNat (10 ^ i)):=by simp [hg,Bl]
  have hv:=v3.d
  rw [hd] at hv
  cases hv
  have hc:w.cell? ⟨g,i,none⟩=arr[i]? :=by simp [World.cell?,a1]
  rw [hc,Array.getElem?_eq_getElem h1] at v1
  injection v1 with v1
  rw [v1]
  simp [Lib.pow10Tab]

theorem Inv.more (I:Inv P [] G cx h w) {w':World} (hs:w.heap.size≤w'.heap.size) (hold:∀c:Nat,c < w.heap.size→w'.heap[c]? =w.heap[c]?) (hio:w'.os=w.os∧w'.output=w.output):
  ∃cx',Inv P [] G cx' h w'∧Stp cx h w cx' h w':=
 ⟨_,I.Dh (w':=w') (fun _ _=> False) hs hold (fun _ _ f=> f.elim) hio⟩
theorem Inv.SO (I:Inv P [] G cx h w) {w':World} {k:Nat} {os:Array Obj} (e:w'=Sort.grow (w.drewN k) os):∃cx',Inv P [] G cx' h w'∧Stp cx h w cx' h w':=by
 subst e
 refine I.more ?_ (fun c hc=> ?_) ⟨rfl,rfl⟩
 ·show w.heap.size≤(w.heap++os).size
  rw [Array.size_append]; omega
 ·show (w.heap++os)[c]? =_
  exact Array.getElem?_append_left hc

theorem RU (hG:E.kQ=G) (I:Inv P [] G cx h w) {f:FuncId} {k:C4} (S:E.pr f=true→SN P E.kQ E.err E.UD f k) {xs:List X} {tm:List AV} {args:Array Value} (hl:args.size=xs.length) (hr:∀i (hi:i < xs.length),bY cx w (xs[i].ev tm) (args.getD i undef)):
  BI P G cx h w (yx E h tm f k xs) ((callFunc f args).run P w):=by
 have one:∀x,xs=[x]→∃v,args= #[v]∧bY cx w (x.ev tm) v:=by
  rintro x rfl
  refine ⟨args.getD 0 undef,?_,hr 0 (by simp)⟩
  apply Array.ext
  ·simpa using hl
  ·intro i h1 h2
   have:i=0:=by simp at h2; omega
   subst this
   simp [Array.getD,h1]
 have two:∀x y,xs=[x,y]→∃v u,args= #[v,u]∧bY cx w (x.ev tm) v∧bY cx w (y.ev tm) u:=by
  rintro x y rfl
  refine ⟨args.getD 0 undef,args.getD 1 undef,?_,hr 0 (by simp),hr 1 (by simp)⟩
  apply Array.ext
  ·simpa using hl
  ·intro i h1 h2
   have:i=0∨i=1:=by simp at h2; omega
   rcases this with rfl | rfl <;> simp [Array.getD,h1]
 unfold yx
 split
 ·rename_i hpr
  have S:=S hpr
  rw [hG] at S
  unfold JU
  split
  ·
   rename_i n hmap _
   obtain ⟨x,rfl,hx⟩:∃x,xs=[x]∧x.ev tm= .d (.i .i64 n):=by
    cases xs with
    |nil=> simp at hmap
    |cons x xs=> cases xs with
     |nil=> exact ⟨x,rfl,by simpa using hmap⟩
     |cons y ys=> simp at hmap
   obtain ⟨v,rfl,hv⟩:=one x rfl
   rw [hx] at hv
   cases hv with
   |d _ _ hv=>
   cases hv
   split
   ·rename_i hin
    obtain ⟨b0,b1⟩:=LF hin
    obtain ⟨hent,ρ,L,rfl,hg⟩:=S
    rw [lI hent]
    refine .inr ⟨_,_,rfl,_,_,rfl,?_⟩
    refine (Proofs.Any.strconv_Itoa L n b0 b1 w (Pk I L.m17 hg)).mono ?_
    rintro e w' ⟨rfl,k,os,hw⟩
    obtain ⟨cx',J,T⟩:=I.SO hw
    exact ⟨cx',_,J,T,.d _ _ (.s _ _ (by rw [Jo b0 b1])),rfl⟩
   ·exact .inl trivial
  ·
   rename_i n b hmap _
   obtain ⟨x,y,rfl,hx,hy⟩:∃x y,xs=[x,y]∧x.ev tm= .d (.i .i64 n)∧y.ev tm= .d (.i .i64 (.ofNat b)):=by
    cases xs with
    |nil=> simp at hmap
    |cons x xs=> cases xs with
     |nil=> simp at hmap
     |cons y ys=> cases ys with
      |nil=> exact ⟨x,y,rfl,by simpa using hmap⟩
      |cons z zs=> simp at hmap
   obtain ⟨v,u,rfl,hv,hu⟩:=two x y rfl
   rw [hx] at hv
   rw [hy] at hu
   cases hv with
   |d _ _ hv=>
   cases hv
   cases hu with
   |d _ _ hu=>
   cases hu
   split
   ·rename_i hin
    simp only [Bool.and_eq_true] at hin
    obtain ⟨b0,b1⟩:=LF hin.1
    have hb:=m_ hin.2
    subst hb
    obtain ⟨hent,ρ,L,rfl,hg⟩:=S
    rw [lI hent]
    refine .inr ⟨_,_,rfl,_,_,rfl,?_⟩
    refine (Proofs.Any.strconv_FormatInt_10 L n b0 b1 w (Pk I L.m17 hg)).mono ?_
    rintro e w' ⟨rfl,k,os,hw⟩
    obtain ⟨cx',J,T⟩:=I.SO hw
    exact ⟨cx',_,J,T,.d _ _ (.s _ _ (by rw [Jo b0 b1])),rfl⟩
   ·exact .inl trivial
  ·
   rename_i s hmap _
   obtain ⟨x,rfl,hx⟩:∃x,xs=[x]∧x.ev tm= .d (.s s):=by
    cases xs with
    |nil=> simp at hmap
    |cons x xs=> cases xs with
     |nil=> exact ⟨x,rfl,by simpa using hmap⟩
     |cons y ys=> simp at hmap
   obtain ⟨v,rfl,hv⟩:=one x rfl
   rw [hx] at hv
   cases hv with
   |d _ _ hv=>
   cases hv with
   |s _ sb hsb=>
   split
   ·rename_i hin
    have hle:=jB hin
    have hsz:sb.size=s.length:=by rw [←hsb]; simp
    obtain ⟨hent,ρ,L,rfl,het,⟨t1,hg1⟩,t2,hg2⟩:=S
    rw [←het]
    rw [lI hent]
    have cell:∀{g:Nat} {t:TypeId},G g=[.ifc t (.bx false [] 0)]→∃ev,w.cell? ⟨g,0,none⟩=some ev∧(ev= .nilIface∨∃te pe,ev= .iface te pe):=by
     intro g t hg
     obtain ⟨v,v1,_,v3⟩:=I.kQ g 0 (by rw [hg]; simp)
     refine ⟨v,v1,.inr ?_⟩
     have hd:=v3.d
     simp only [hg,List.getElem_cons_zero] at hd
     cases hd
     exact ⟨_,_,rfl⟩
    obtain ⟨e1,c1,i1⟩:=cell hg1
    obtain ⟨e2,c2,i2⟩:=cell hg2
    have err:∀(z:Int) (N:Nat) (cx':Cx) (w':World),bY cx' w' (.tup [.d (.i .i64 z),.d (.ifc (ρ.t 168) (.bx false [] 0))]) (.tuple #[.int .i64 z,.iface (ρ.t 168) (.pointer (some ⟨N,0,none⟩))]):=by
     intro z N cx' w'
     refine .tup _ _ rfl (fun i hi=> ?_)
     have:i=0∨i=1:=by simp at hi; omega
     rcases this with rfl | rfl
     ·exact .d _ _ (.i _ _)
     ·exact .d _ _ (.ifc _ _ _ (.bx false [] 0 N 0 (fun _=> undef) (fun i hi=> absurd hi (by simp)) (fun i hi=> absurd hi (by simp))))
    cases ha:Lib.atoiAll s with
    |ok v=>
     refine .inr ⟨_,_,rfl,_,_,rfl,?_⟩
     refine (Proofs.Any.strconv_Atoi_ok L sb (by omega) v (by rw [hsb]; exact ha) w).mono ?_
     rintro e w' ⟨rfl,hw⟩
     have:∃cx',Inv P [] G cx' h w'∧Stp cx h w cx' h w':=by
      rcases hw with rfl | ⟨t,rfl⟩
      ·exact ⟨cx,I,.refl _ _ _⟩
      ·refine I.more (w':=Lib.bytesWorld w (ρ.t 5) t) ?_ (fun c hc=> ?_) ⟨rfl,rfl⟩
       ·simp [Lib.bytesWorld,World.freeze]
       ·show ((w.heap.push _).modify w.heap.size _)[c]? =_
        rw [Array.getElem?_modify,if_neg (by omega),Array.getElem?_push,if_neg (by omega)]
     obtain ⟨cx',J,T⟩:=this
     refine ⟨cx',_,J,T,.tup _ _ rfl (fun i hi=> ?_),rfl⟩
     have:i=0∨i=1:=by simp at hi; omega
     rcases this with rfl | rfl
     ·exact .d _ _ (.i _ _)
     ·exact .d _ _ .nili
    |range=>
     refine .inr ⟨_,_,rfl,_,_,rfl,?_⟩
     refine (Proofs.Any.strconv_Atoi_range L sb (by omega) (by rw [hsb]; exact ha) e2 w c2 i2).mono ?_
     rintro e w' ⟨N,rfl,_,_,hb⟩
     obtain ⟨cx',J,T⟩:=I.more hb.size (fun c hc=> hb.block c hc) ⟨hb.os,hb.output⟩
     exact ⟨cx',_,J,T,by rw [hsb]; exact err _ _ _ _,rfl⟩
    |_=>
     refine .inr ⟨_,_,rfl,_,_,rfl,?_⟩
     refine (Proofs.Any.strconv_Atoi_syntax L sb (by omega) (by rw [hsb]; exact ha) e1 w c1 i1).mono ?_
     rintro e w' ⟨N,rfl,_,_,hb⟩
     obtain ⟨cx',J,T⟩:=I.more hb.size (fun c hc=> hb.block c hc) ⟨hb.os,hb.output⟩
     exact ⟨cx',_,J,T,err _ _ _ _,rfl⟩
   ·exact .inl trivial
  ·
   rename_i s b c hmap _
   obtain ⟨x1,x2,x3,rfl,hx1,hx2,hx3⟩:∃x1 x2 x3,xs=[x1,x2,x3]∧x1.ev tm= .d (.s s)∧x2.ev tm= .d (.i .i64 (.ofNat b))∧x3.ev tm= .d (.i .i64 (.ofNat c)):=by
    match xs,hmap with
    |[x1,x2,x3],h=>
     simp only [List.map_cons,List.map_nil,List.cons.injEq,and_true] at h
     exact ⟨x1,x2,x3,rfl,h⟩
    |[],h=> simp at h
    |[_],h=> simp at h
    |[_,_],h=> simp at h
    |_::_::_::_::_,h=> simp at h
   have hargs:args= #[args.getD 0 undef,args.getD 1 undef,args.getD 2 undef]:=by
    apply Array.ext
    ·simpa using hl
    ·intro i h1 h2
     have:i=0∨i=1∨i=2:=by simp at h2; omega
     rcases this with rfl | rfl | rfl <;> simp [Array.getD,h1]
   have v1:bY cx w (x1.ev tm) _:=hr 0 (by simp)
   have v2:bY cx w (x2.ev tm) _:=hr 1 (by simp)
   have v3:bY cx w (x3.ev tm) _:=hr 2 (by simp)
   rw [hx1] at v1
   rw [hx2] at v2
   rw [hx3] at v3
   rw [hargs]
   generalize args.getD 0 undef=u1 at v1 ⊢
   generalize args.getD 1 undef=u2 at v2 ⊢
   generalize args.getD 2 undef=u3 at v3 ⊢
   cases v1 with
   |d _ _ v1=>
   cases v1 with
   |s _ sb hsb=>
   cases v2 with
   |d _ _ v2=>
   cases v2
   cases v3 with
   |d _ _ v3=>
   cases v3
   split
   ·rename_i hin
    simp only [Bool.and_eq_true] at hin
    obtain ⟨⟨hin,hb⟩,hc⟩:=hin
    have hle:=jB hin
    have hb:=m_ hb
    have hc:=m_ hc
    subst hb
    subst hc
    have hsz:sb.size=s.length:=by rw [←hsb]; simp
    obtain ⟨hent,ρ,L,rfl,het,⟨t1,hg1⟩,t2,hg2⟩:=S
    rw [←het]
    rw [lI hent]
    have cell:∀{g:Nat} {t:TypeId},G g=[.ifc t (.bx false [] 0)]→∃ev,w.cell? ⟨g,0,none⟩=some ev∧(ev= .nilIface∨∃te pe,ev= .iface te pe):=by
     intro g t hg
     obtain ⟨v,v1,_,v3⟩:=I.kQ g 0 (by rw [hg]; simp)
     refine ⟨v,v1,.inr ?_⟩
     have hd:=v3.d
     simp only [hg,List.getElem_cons_zero] at hd
     cases hd
     exact ⟨_,_,rfl⟩
    obtain ⟨e1,c1,i1⟩:=cell hg1
    obtain ⟨e2,c2,i2⟩:=cell hg2
    have hp:Lib.parseIntB 64 sb.data.toList=Lib.atoiAll s:=by rw [Lib.parseIntB_64,hsb]
    have acH:Lib.intSat 64 sb.data.toList=Lib.atoiSat s:=by rw [Lib.intSat_64,hsb]
    have err:∀(z:Int) (N:Nat) (cx':Cx) (w':World),bY cx' w' (.tup [.d (.i .i64 z),.d (.ifc (ρ.t 168) (.bx false [] 0))]) (.tuple #[.int .i64 z,.iface (ρ.t 168) (.pointer (some ⟨N,0,none⟩))]):=by
     intro z N cx' w'
     refine .tup _ _ rfl (fun i hi=> ?_)
     have:i=0∨i=1:=by simp at hi; omega
     rcases this with rfl | rfl
     ·exact .d _ _ (.i _ _)
     ·exact .d _ _ (.ifc _ _ _ (.bx false [] 0 N 0 (fun _=> undef) (fun i hi=> absurd hi (by simp)) (fun i hi=> absurd hi (by simp))))
    cases ha:Lib.atoiAll s with
    |ok v=>
     refine .inr ⟨_,_,rfl,_,_,rfl,?_⟩
     refine (Proofs.Any.strconv_ParseInt_10_at64_ok L sb (by omega) v (by rw [hp]; exact ha) w).mono ?_
     rintro e w' ⟨rfl,hw⟩
     have:∃cx',Inv P [] G cx' h w'∧Stp cx h w cx' h w':=by
      rcases hw with rfl | ⟨t,rfl⟩
      ·exact ⟨cx,I,.refl _ _ _⟩
      ·refine I.more (w':=Lib.bytesWorld w (ρ.t 5) t) ?_ (fun c hc=> ?_) ⟨rfl,rfl⟩
       ·simp [Lib.bytesWorld,World.freeze]
       ·show ((w.heap.push _).modify w.heap.size _)[c]? =_
        rw [Array.getElem?_modify,if_neg (by omega),Array.getElem?_push,if_neg (by omega)]
     obtain ⟨cx',J,T⟩:=this
     refine ⟨cx',_,J,T,.tup _ _ rfl (fun i hi=> ?_),rfl⟩
     have:i=0∨i=1:=by simp at hi; omega
     rcases this with rfl | rfl
     ·exact .d _ _ (.i _ _)
     ·exact .d _ _ .nili
    |range=>
     refine .inr ⟨_,_,rfl,_,_,rfl,?_⟩
     refine (Proofs.Any.strconv_ParseInt_10_at64_range L sb (by omega) (by rw [hp]; exact ha) e2 w c2 i2).mono ?_
     rintro e w' ⟨N,rfl,_,_,hb⟩
     obtain ⟨cx',J,T⟩:=I.more hb.size (fun c hc=> hb.block c hc) ⟨hb.os,hb.output⟩
     exact ⟨cx',_,J,T,by rw [acH]; exact err _ _ _ _,rfl⟩
    |_=>
     refine .inr ⟨_,_,rfl,_,_,rfl,?_⟩
     refine (Proofs.Any.strconv_ParseInt_10_at64_syntax L sb (by omega) (by rw [hp]; exact ha) e1 w c1 i1).mono ?_
     rintro e w' ⟨N,rfl,_,_,hb⟩
     obtain ⟨cx',J,T⟩:=I.more hb.size (fun c hc=> hb.block c hc) ⟨hb.os,hb.output⟩
     exact ⟨cx',_,J,T,err _ _ _ _,rfl⟩
   ·exact .inl trivial
  ·
   rename_i s hmap _
   obtain ⟨x,rfl,hx⟩:∃x,xs=[x]∧x.ev tm= .d (.s s):=by
    cases xs with
    |nil=> simp at hmap
    |cons x xs=> cases xs with
     |nil=> exact ⟨x,rfl,by simpa using hmap⟩
     |cons y ys=> simp at hmap
   obtain ⟨v,rfl,hv⟩:=one x rfl
   rw [hx] at hv
   cases hv with
   |d _ _ hv=>
   cases hv with
   |s _ sb hsb=>
   split
   ·rename_i hin
    have hle:=jB hin
    have hsz:sb.size=s.length:=by rw [←hsb]; simp
    obtain ⟨hent,ρ,L,rfl⟩:=S
    rw [lI hent]
    refine .inr ⟨_,_,rfl,_,_,rfl,?_⟩
    refine (Proofs.Any.stringslite_Clone L sb w (by omega)).mono ?_
    rintro e w' ⟨rfl,hb⟩
    obtain ⟨cx',J,T⟩:=I.more hb.size (fun c hc=> hb.block c hc) ⟨hb.os,hb.output⟩
    exact ⟨cx',_,J,T,.d _ _ (.s _ _ hsb),rfl⟩
   ·exact .inl trivial
  ·
   rename_i fs s n1 n2 ty k hmap _
   obtain ⟨x1,x2,x3,x4,x5,rfl,hx1,hx2,hx3,hx4,hx5⟩:∃x1 x2 x3 x4 x5,xs=[x1,x2,x3,x4,x5]∧x1.ev tm= .d (.s fs)∧x2.ev tm= .d (.s s)∧x3.ev tm= .d (.i .i64 n1)∧x4.ev tm= .d (.i .i64 n2)∧x5.ev tm= .ifc ty (.d (.i .i64 k)):=by
    match xs,hmap with
    |[x1,x2,x3,x4,x5],h=>
     simp only [List.map_cons,List.map_nil,List.cons.injEq,and_true] at h
     exact ⟨x1,x2,x3,x4,x5,rfl,h⟩
    |[],h=> simp at h
    |[_],h=> simp at h
    |[_,_],h=> simp at h
    |[_,_,_],h=> simp at h
    |[_,_,_,_],h=> simp at h
    |_::_::_::_::_::_::_,h=> simp at h
   have hargs:args= #[args.getD 0 undef,args.getD 1 undef,args.getD 2 undef,args.getD 3 undef,args.getD 4 undef]:=by
    apply Array.ext
    ·simpa using hl
    ·intro i h1 h2
     have:i=0∨i=1∨i=2∨i=3∨i=4:=by simp at h2; omega
     rcases this with rfl | rfl | rfl | rfl | rfl <;> simp [Array.getD,h1]
   have v1:bY cx w (x1.ev tm) _:=hr 0 (by simp)
   have v2:bY cx w (x2.ev tm) _:=hr 1 (by simp)
   have v3:bY cx w (x3.ev tm) _:=hr 2 (by simp)
   have v4:bY cx w (x4.ev tm) _:=hr 3 (by simp)
   have v5:bY cx w (x5.ev tm) _:=hr 4 (by simp)
   rw [hx1] at v1
   rw [hx2] at v2
   rw [hx3] at v3
   rw [hx4] at v4
   rw [hx5] at v5
   rw [hargs]
   generalize args.getD 0 undef=u1 at v1 ⊢
   generalize args.getD 1 undef=u2 at v2 ⊢
   generalize args.getD 2 undef=u3 at v3 ⊢
   generalize args.getD 3 undef=u4 at v4 ⊢
   generalize args.getD 4 undef=u5 at v5 ⊢
   cases v1 with
   |d _ _ v1=>
   cases v1 with
   |s _ fb hfb=>
   cases v2 with
   |d _ _ v2=>
   cases v2 with
   |s _ sb hsb=>
   cases v3 with
   |d _ _ v3=>
   cases v3
   cases v4 with
   |d _ _ v4=>
   cases v4
   cases v5 with
   |ifc _ _ u v5=>
   cases v5 with
   |d _ _ v5=>
   cases v5
   split
   ·rename_i hin
    simp only [Bool.and_eq_true,Bool.or_eq_true] at hin
    obtain ⟨⟨hty,hle⟩,hk⟩:=hin
    have hi:∀{a b:Int},iEq a b=true→a=b:=by
     intro a b e
     cases a <;> cases b <;> first | cases e | exact congrArg _ (m_ e)
    have hk:k=1∨k=2:=hk.imp hi hi
    have hty:=m_ hty
    have hle:=jB hle
    have hsz:sb.size=s.length:=by rw [←hsb]; simp
    obtain ⟨hent,ρ,L,rfl,het,acI,⟨t1,hg1⟩,t2,hg2⟩:=S
    rw [←het]
    subst hty
    rw [←acI]
    rw [lI hent]
    have cell:∀{g:Nat} {t:TypeId},G g=[.ifc t (.bx false [] 0)]→∃ev,w.cell? ⟨g,0,none⟩=some ev∧(ev= .nilIface∨∃te pe,ev= .iface te pe):=by
     intro g t hg
     obtain ⟨v,v1,_,v3⟩:=I.kQ g 0 (by rw [hg]; simp)
     refine ⟨v,v1,.inr ?_⟩
     have hd:=v3.d
     simp only [hg,List.getElem_cons_zero] at hd
     cases hd
     exact ⟨_,_,rfl⟩
    obtain ⟨e1,c1,i1⟩:=cell hg1
    obtain ⟨e2,c2,i2⟩:=cell hg2
    refine .inr ⟨_,_,rfl,_,_,rfl,?_⟩
    rcases hk with rfl | rfl
    ·refine (Proofs.Any.strconv_toError_range L fb sb n1 n2 e2 w (by omega) c2 i2).mono ?_
     rintro e w' ⟨N,rfl,_,_,hb⟩
     obtain ⟨cx',J,T⟩:=I.more hb.size (fun c hc=> hb.block c hc) ⟨hb.os,hb.output⟩
     exact ⟨cx',_,J,T,.d _ _ (.ifc _ _ _ (.bx false [] 0 N 0 (fun _=> undef) (fun i hi=> absurd hi (by simp)) (fun i hi=> absurd hi (by simp)))),rfl⟩
    ·refine (Proofs.Any.strconv_toError_syntax L fb sb n1 n2 e1 w (by omega) c1 i1).mono ?_
     rintro e w' ⟨N,rfl,_,_,hb⟩
     obtain ⟨cx',J,T⟩:=I.more hb.size (fun c hc=> hb.block c hc) ⟨hb.os,hb.output⟩
     exact ⟨cx',_,J,T,.d _ _ (.ifc _ _ _ (.bx false [] 0 N 0 (fun _=> undef) (fun i hi=> absurd hi (by simp)) (fun i hi=> absurd hi (by simp)))),rfl⟩
   ·exact .inl trivial
  ·exact .inl trivial
 ·exact .inl trivial

theorem MV (I:Inv P [] G cx h w) {f:FuncId} {e:TypeId} (S:E.pr f=true→Ho P f e) {x n:X} {tm:List AV} {v u:Value} (hx:bY cx w (x.ev tm) v) (hn:bY cx w (n.ev tm) u):
  BI P G cx h w (zK E h tm f e x n) ((callFunc f #[v,u]).run P w):=by
 unfold zK
 split
 ·rename_i hpr
  obtain ⟨hent,ρ,L,X,rfl,rfl⟩:=S hpr
  rw [lI hent]
  split
  ·rename_i b k he hk
   rw [he] at hx; rw [hk] at hn
   obtain ⟨c,base,hr,rfl⟩:=hx.q_
   have hb0:=I.sep.base0 _ _ _ hr
   subst hb0
   cases hn with
   |d _ _ hn=>
   cases hn
   split
   ·rename_i eb cs hle hb
    split
    ·rename_i hrd
     have hle:=jB hle
     obtain ⟨r1,r2,r3,r4⟩:=pU hrd
     obtain ⟨c',base',hr',⟨arr,fz,harr,hfz⟩,hcell⟩:=I.heap b _ hb
     rw [hr] at hr'; cases hr'
     obtain ⟨x1,y1,y2,_,y4⟩:=hcell 1 (by omega)
     have hcs:cs[1]'(by omega)= .nilsl:=(r4 0 (by simp) (by omega)).symm
     rw [hcs] at y2
     cases y2
     have hlt:=I.sep.lt _ _ _ hr
     have hsz5:mP P (ρ.t 5)=some 1:=X.sizeByte
     refine .inr ⟨_,_,rfl,_,_,rfl,?_⟩
     refine (Proofs.grow.run L X c k w hlt (by simpa using y1) (by simpa using y4 rfl) hle).mono ?_
     rintro e w' ⟨rfl,row,q1,q2,q3,q4,q5⟩
     obtain ⟨cx1,J,T,V⟩:=I.O_ (w':=w.alloc (.cells row (ρ.t 5))) (e:=ρ.t 5) (arr:=row) (ds:=[]) (n:=0) (cap:=row.size) (sz:=1) rfl hsz5 rfl (by simp) (Nat.zero_le _) (fun i hi=> absurd hi (by simp)) ⟨rfl,rfl⟩
     have hne:b≠h.n:=Nat.ne_of_lt (Heap.kH hb)
     have hb1:(h.push (.tok 0 (ρ.t 5))).get b=some (.cells false eb cs):=by rw [Heap.jk]; simp [hne,hb]
     have hr1:=T.ext.ρ _ _ hr
     have hcl : jg cx1 (w.alloc (.cells row (ρ.t 5))) [.app h.n 0 0 []] [.slice (some ⟨w.heap.size,0,none⟩) 0 row.size] := ⟨rfl,fun i hi => by
      have:i=0:=by simpa using hi
      subst this; exact V⟩
     obtain ⟨_,J2,T2⟩:=J.write (off:=1) hb1 hr1 hcl (by simp; omega) (by simp [Value.oneCell'])
     obtain ⟨J3,T3⟩:=J2.same (w':=w') (by rw [q3]; rfl) ⟨q4,q5⟩
     exact ⟨_,_,J3,(T.trans T2).trans T3,.tup _ _ rfl (fun i hi=> absurd hi (by simp)),rfl⟩
    ·exact .inl trivial
   ·exact .inl trivial
  ·exact .inl trivial
 ·exact .inl trivial

theorem RX (I:Inv P [] G cx h w) (hG:E.kQ=G) (hM:E.Fy=Bn P) {m:String} {x:X} {xs:List X} {tm:List AV} {v:Value} {args:Array Value} (hx:bY cx w (x.ev tm) v) (hl:args.size=xs.length) (hr:∀i (hi:i < xs.length),bY cx w (xs[i].ev tm) (args.getD i undef)):
    jR P [] G cx h w (IU E h tm x m xs) ((callMethod v m args).run P w):=by
  obtain ⟨d,hd⟩:∃d,P.types.size+Made.depth=d+1:=⟨P.types.size+99,rfl⟩
  have fin:∀(u:AV) (u':Value),bY cx w u u'→(#[u']++args).size=(u::xs.map (X.ev tm)).length∧∀i (hi:i < (u::xs.map (X.ev tm)).length),bY cx w (u::xs.map (X.ev tm))[i] ((#[u']++args).getD i undef):=by
    intro u u' hu
    exact vF (a := [u]) (b := xs.map (X.ev tm)) (a' := #[u']) (b' := args) rfl (by simpa using hl) (fun i hi => by
      have:i=0:=by simpa using hi
      subst this; exact hu) (fun i hi=> by rw [List.getElem_map]; exact hr i (by simpa using hi))
  unfold IU
  split
  · rename_i t b off hxe
    rw [hxe] at hx
    obtain ⟨v',rfl,hv'⟩:=Eb hx
    obtain ⟨c,base,hr',rfl⟩:=hv'.q_
    rw [hM]
    have SQ:∀{f o z},Bn P t m=some (f,o,z)→∃i y pr,P.info? t=some i∧i.methods.find? (·.name==m)=some y∧y.func=some (f,pr)∧
        ((y.path = #[] ∧ pr = true ∧ o = 0 ∧ z = none ∧ ∃ e,P.underlying t = some (.pointer e)) ∨
         ∃s fs fd e n ag,y.path= #[s]∧pr=false∧P.underlying s.struct=some (.struct fs)∧s.deref=true∧fs[s.index]? =some fd∧P.underlying fd.type=some (.slice e)∧mP P fd.type=some (n+1)∧yw P fd.type=some ag∧o=fd.offset∧z=some (ag,n+1)):=by
      intro f o z hm
      unfold Bn at hm
      simp only [Option.bind_eq_bind,Option.bind_eq_some_iff] at hm
      obtain ⟨i,hi,y,hy,⟨f',pr⟩,hf,hm⟩:=hm
      refine ⟨i,y,pr,hi,hy,?_⟩
      simp only at hm
      split at hm
      · rename_i hp
        split at hm
        · rename_i e hu
          cases hm
          exact ⟨hf,.inl ⟨by apply Array.ext'; exact hp,rfl,rfl,rfl,_,hu⟩⟩
        · cases hm
      · rename_i s hp
        split at hm
        · rename_i fs hu hde
          simp only [Option.bind_eq_some_iff] at hm
          obtain ⟨fd,hfd,hm⟩:=hm
          split at hm
          · rename_i e n h1 h2
            simp only [Option.bind_eq_some_iff,Option.some.injEq,Prod.mk.injEq] at hm
            obtain ⟨ag,hag,rfl,rfl,rfl⟩:=hm
            exact ⟨hf,.inr ⟨s,fs,fd,e,n,ag,by apply Array.ext'; exact hp,rfl,hu,hde,hfd,h1,h2,hag,rfl,rfl⟩⟩
          · cases hm
        · cases hm
      · cases hm
    split
    · rename_i f o hm
      obtain ⟨i,y,pr,hi,hy,hf,⟨hp,rfl,rfl,_,e,hu⟩ | ⟨s,fs,fd,e,n,ag,hp,rfl,h1,h2,h3,h4,h5,h6,rfl,hz⟩⟩:=SQ hm
      · refine ⟨#[.pointer (some ⟨c,base+off,none⟩)]++args,fun hE=> ?_,?_⟩
        · have:(method (d+1) t (.pointer (some ⟨c,base+off,none⟩)) m).run P w= .ok (f,.pointer (some ⟨c,base+off,none⟩)) w:=by
            simp [method,run_typeInfo w hi,hy,hp,hf,follow,receiverAt,run_underlying hu,Place.get]
          simp [callMethod,hd,this,lI hE]
        · exact fin _ _ (by simpa using hv')
      · cases hz
    · rename_i f o ag' n' hm
      obtain ⟨i,y,pr,hi,hy,hf,⟨hp,rfl,rfl,hz,e,hu⟩ | ⟨s,fs,fd,e,n,ag,hp,rfl,h1,h2,h3,h4,h5,h6,rfl,hz⟩⟩:=SQ hm
      · cases hz
      · cases hz
        split
        · rename_i u hload
          rw [hG] at hload
          have hv2:bY cx w (.ptr b (off+fd.offset)) (.pointer (some ⟨c,base+off+fd.offset,none⟩)):=by
            rw [Nat.add_assoc]; exact .ptr _ _ _ _ hr'
          obtain ⟨u',l1,l2⟩:=Ck I h6 h5 hv2 hload
          have l1':(loadVar fd.type ⟨c,base+off+fd.offset,none⟩).run P w= .ok u' w:=by
            simpa [Instr.loadAt,Instr.sureAddr] using l1
          refine ⟨#[u']++args,fun hE=> ?_,fin _ _ l2⟩
          have:(method (d+1) t (.pointer (some ⟨c,base+off,none⟩)) m).run P w= .ok (f,u') w:=by
            simp [method,run_typeInfo w hi,hy,hp,hf,follow,h1,h2,h3,receiverAt,run_underlying h1,run_underlying h4,Place.get,fieldPlace,asAddr,jY h5,Addr.add]
            rw [show (if fd.offset=0 then (⟨c,base+off,none⟩:Addr) else ⟨c,base+off+fd.offset,none⟩)=⟨c,base+off+fd.offset,none⟩ by split <;> simp_all,l1']
            rfl
          simp [callMethod,hd,this,lI hE]
        · trivial
    · trivial
  · trivial

theorem Pm (I:Inv P [] G cx h w) {f:FuncId} {p:Prim} (S:E.pr f=true→AJ P f p) {xs:List X} {tm:List AV} {args:Array Value} (hl:args.size=xs.length) (hr:∀i (hi:i < xs.length),bY cx w (xs[i].ev tm) (args.getD i undef)):
  BI P G cx h w (Al E h tm f p xs) ((callFunc f args).run P w):=by
 have one:∀x,xs=[x]→∃v,args= #[v]∧bY cx w (x.ev tm) v:=by
  rintro x rfl
  refine ⟨args.getD 0 undef,?_,hr 0 (by simp)⟩
  apply Array.ext
  ·simpa using hl
  ·intro i h1 h2
   have:i=0:=by simp at h2; omega
   subst this
   simp [Array.getD,h1]
 have two:∀x y,xs=[x,y]→∃v u,args= #[v,u]∧bY cx w (x.ev tm) v∧bY cx w (y.ev tm) u:=by
  rintro x y rfl
  refine ⟨args.getD 0 undef,args.getD 1 undef,?_,hr 0 (by simp),hr 1 (by simp)⟩
  apply Array.ext
  ·simpa using hl
  ·intro i h1 h2
   have:i=0∨i=1:=by simp at h2; omega
   rcases this with rfl | rfl <;> simp [Array.getD,h1]
 unfold Al
 split
 ·rename_i hpr
  have S:=S hpr
  left
  cases p with
  |indexByte=>
   unfold KW
   split
   ·rename_i p' args' s c hp hmap
    cases xs with
    |nil=> simp at hmap
    |cons x xs=>
    cases xs with
    |nil=> simp at hmap
    |cons y xs=>
    cases xs with
    |cons z xs=> simp at hmap
    |nil=>
    obtain ⟨v,u,rfl,hv,hu⟩:=two x y rfl
    simp only [List.map_cons,List.map_nil,List.cons.injEq,and_true] at hmap
    rw [hmap.1] at hv
    rw [hmap.2] at hu
    split
    ·rename_i hc
     have hc:=ru hc
     cases hv with
     |d _ _ hv=>
     cases hu with
     |d _ _ hu=>
     cases hu
     cases hv with
     |s _ s' hs=>
     refine .look I (v':= .int .i64 (Lib.indexByte s'.data.toList (UInt8.ofNat c))) ?_ ?_
     ·rw [S s' (Int.ofNat c) w]; rfl
     ·rw [Kr hc,←hs]
      have:(if Lib.indexByte s'.data.toList (UInt8.ofNat c)= -1 then (-1:Int) else Lib.indexByte s'.data.toList (UInt8.ofNat c)+(0:Nat))=Lib.indexByte s'.data.toList (UInt8.ofNat c):=by
       split
       ·rename_i e; exact e.symm
       ·simp
      rw [this]
      exact .d _ _ (.i _ _)
    ·trivial
   all_goals first | trivial | (rename_i e; cases e) | skip
  |vo=>
   cases xs with
   |nil=> trivial
   |cons x xs=>
   cases xs with
   |cons y xs=> trivial
   |nil=>
    obtain ⟨v,rfl,hv⟩:=one x rfl
    exact .look I (S v w) hv
  |index=> exact S.elim
  |count=>
   unfold KW
   split
   ·rename_i e _; cases e
   ·rename_i e _; cases e
   ·rename_i p' args' s c hp hmap
    cases xs with
    |nil=> simp at hmap
    |cons x xs=>
    cases xs with
    |nil=> simp at hmap
    |cons y xs=>
    cases xs with
    |cons z xs=> simp at hmap
    |nil=>
    obtain ⟨v,u,rfl,hv,hu⟩:=two x y rfl
    simp only [List.map_cons,List.map_nil,List.cons.injEq,and_true] at hmap
    rw [hmap.1] at hv
    rw [hmap.2] at hu
    split
    ·rename_i hc
     have hc:=ru hc
     cases hv with
     |d _ _ hv=>
     cases hu with
     |d _ _ hu=>
     cases hu
     cases hv with
     |s _ s' hs=>
     refine .look I (v':= .int .i64 (Lib.countByte s'.data.toList (UInt8.ofNat c))) ?_ ?_
     ·rw [S s' (Int.ofNat c) w]; rfl
     ·rw [Ku hc,←hs,Nat.zero_add]
      exact .d _ _ (.i _ _)
    ·trivial
   all_goals first | trivial | (rename_i e; cases e) | skip
  |overlaps=> exact S.elim
  |makeNoZero e=> exact S.elim
 ·exact .inl trivial
theorem Ed.of (L:Proofs.SlLaysE0.n41 P ρ) {f:FuncId} {fn:Func} {e:TypeId} (hf:ρ.f 41=f) (hfn:P.funcs[f]? =some fn) (hb:fn.body.isSome=true) (hnm:(fn.name== "runtime.NumGoroutine")=false) (hp:fn.params[0]? =some (ρ.t 22)) (hpar:(fn.params[0]?).bind P.underlying=some (.slice e)):Ed P f e:=by
 obtain ⟨c,hc⟩:=Option.isSome_iff_exists.1 hb
 rw [hp,Option.bind_some,L.t22] at hpar
 cases hpar
 exact ⟨⟨fn,c,hfn,hc,by simpa using hnm⟩,ρ,L,hf,rfl⟩
theorem Cz.of (L:Proofs.Lays2.n21 P ρ) {f:FuncId} {fn:Func} {e:TypeId} (hf:ρ.f 21=f) (hfn:P.funcs[f]? =some fn) (hb:fn.body.isSome=true) (hnm:(fn.name== "runtime.NumGoroutine")=false) (hp:fn.params[0]? =some (ρ.t 22)) (hpar:(fn.params[0]?).bind P.underlying=some (.slice e)):Cz P f e:=by
 obtain ⟨c,hc⟩:=Option.isSome_iff_exists.1 hb
 rw [hp,Option.bind_some,L.t22] at hpar
 cases hpar
 exact ⟨⟨fn,c,hfn,hc,by simpa using hnm⟩,ρ,L,hf,rfl⟩
theorem AJ.vo {f:FuncId} {fn:Func} (hf:P.funcs[f]? =some fn) (hname:(fn.name== "runtime.NumGoroutine")=false) (hb:fn.body.isNone=true) (hn:Extern.findNext fn=none) (he:Extern.find fn=some Extern.AbiNoEscape.same):AJ P f .vo:=by
 intro v w
 rw [run_callFunc_extern hf hname hb hn he]
 rfl
theorem AJ.indexByte {f:FuncId} {fn:Func} (hf:P.funcs[f]? =some fn) (hname:(fn.name== "runtime.NumGoroutine")=false) (hb:fn.body.isNone=true) (hn:Extern.findNext fn=none) (he:Extern.find fn=some Extern.BytealgIndexByte.indexByte):AJ P f .indexByte:=by
 intro s c w
 rw [run_callFunc_extern hf hname hb hn he,Lib.run_indexByteString]
 rfl

theorem AJ.count {f:FuncId} {fn:Func} (hf:P.funcs[f]? =some fn) (hname:(fn.name== "runtime.NumGoroutine")=false) (hb:fn.body.isNone=true) (hn:Extern.findNext fn=none) (he:Extern.find fn=some Extern.BytealgCount.count):AJ P f .count:=by
 intro s c w
 rw [run_callFunc_extern hf hname hb hn he,Lib.run_countString]
 rfl
theorem Ho.of (L:Proofs.Lays.n241 P ρ) (X:Proofs.Builder.Extra P ρ) {f:FuncId} {fn:Func} {bt eb:TypeId} {fs:Array Field} (hf:ρ.f 241=f) (hfn:P.funcs[f]? =some fn) (hb:fn.body.isSome=true) (hnm:(fn.name== "runtime.NumGoroutine")=false) (hp:fn.params[0]? =some (ρ.t 70))
  (h1:(fn.params[0]?).bind P.underlying=some (.pointer bt)) (h2:P.underlying bt=some (.struct fs)) (h3:((fs[1]?).bind fun f=> P.underlying f.type)=some (.slice eb)):Ho P f eb:=by
 obtain ⟨c,hc⟩:=Option.isSome_iff_exists.1 hb
 rw [hp,Option.bind_some,L.t70] at h1
 cases h1
 rw [L.t72] at h2
 cases h2
 have h3:P.underlying (ρ.t 37)=some (.slice eb):=h3
 rw [L.t37] at h3
 cases h3
 exact ⟨⟨fn,c,hfn,hc,by simpa using hnm⟩,ρ,L,X,hf,rfl⟩

structure Lb (P:Program) (E:Env):Prop where
 clone:∀f fn e,E.pr f=true→P.funcs[f]? =some fn→fn.name.startsWith "slices.Clone[" =true→(fn.params[0]?).bind P.underlying=some (.slice e)→Ed P f e
 Be:∀f fn e,E.pr f=true→P.funcs[f]? =some fn→fn.name.startsWith "slices.Insert[" =true→(fn.params[0]?).bind P.underlying=some (.slice e)→Cz P f e
 Et:∀f fn p,E.pr f=true→P.funcs[f]? =some fn→fn.body=none→Ox P fn.name fn=some p→AJ P f p
 lib:∀f fn k,E.pr f=true→P.funcs[f]? =some fn→SG fn.name=some k→SN P E.kQ E.err E.UD f k
 grow:∀f fn bt fs eb,E.pr f=true→P.funcs[f]? =some fn→(fn.name== "(*strings.Builder).grow")=true→(fn.params[0]?).bind P.underlying=some (.pointer bt)→P.underlying bt=some (.struct fs)→((fs[1]?).bind fun f=> P.underlying f.type)=some (.slice eb)→Ho P f eb

theorem Hq {mu:List String} {me:String} {b:Builtin} {ts:Array TypeId} {xs:List X} {c:COp} (hc:sQ P mu me b ts xs=some c):wW c=false:=by
 unfold sQ at hc
 revert hc
 (repeat' split) <;> simp [Option.bind_eq_some_iff] <;> (intros; subst_vars; rfl)

def yH (o:Option COp):Prop:=∀d,o=some d→wW d=false
theorem yH.bind {α:Type} {o:Option α} {f:α→Option COp} (h:∀a,yH (f a)):yH (o >>=f):=by
 intro d hd
 simp only [Option.bind_eq_bind,Option.bind_eq_some_iff] at hd
 obtain ⟨a,_,ha⟩:=hd
 exact h a d ha
theorem yH.map {α:Type} {o:Option α} {f:α→COp} (h:∀a,wW (f a)=false):yH (o.map f):=by
 intro d hd
 simp only [Option.map_eq_some_iff] at hd
 obtain ⟨a,_,rfl⟩:=hd
 exact h a
theorem yH.some {x:COp} (h:wW x=false):yH (some x):=by
 intro d hd; cases hd; exact h
theorem yH.none:yH none:=by intro d hd; cases hd
theorem yH.ite {c:Prop} [Decidable c] {a b:Option COp} (h:yH a) (k:yH b):yH (if c then a else b):=by
 split
 ·exact h
 ·exact k

theorem RY {mu:List String} {me:String} {o:Oper} {c:COp} (hc:yS P mu me o=some c) (hl:wW c=true):∃c',o.op= .call c'∧((∃f,c'.callee= .value (.func f))∨∃r m,c'.callee= .invoke r m):=by
 have bad:∀{o:Option COp},o=some c→yH o→False:=fun h k=> by
  have:=k c h; rw [hl] at this; cases this
 unfold yS at hc
 split at hc
 case h_33 c' hop=>
  split at hc
  ·rename_i f zC; exact ⟨c',hop,.inl ⟨f,zC⟩⟩
  ·exfalso; refine bad hc ?_; exact .bind fun _=> .bind fun _=> .some rfl
  ·rename_i r m zC; exact ⟨c',hop,.inr ⟨r,m,zC⟩⟩
  ·exfalso; refine bad hc ?_; exact .bind fun _=> fun d hd=> Hq hd
 all_goals
  exfalso
  refine bad hc ?_
  clear hc bad hl
  try unfold uE
  repeat' first
   |exact .none
   |exact .some rfl
   |exact .map (fun _=> rfl)
   |refine .bind (fun _=> ?_)
   |refine .ite ?_ ?_
   |split

theorem MW (hL:Lb P E) (hG:E.kQ=G) (hM:E.Fy=Bn P) (I:Inv P [] G cx h w) {mu':List String} {me:String} {o:Oper} {c:COp} (hc:yS P mu' me o=some c) (hb:wW c=true) {a:Act} {tm:List AV} (ht:uF cx w tm a.tmps):
  BI P G cx h w (gI c E h tm) ((execOp a.eval o).run P w):=by
 obtain ⟨c',hop,⟨f,zC⟩ | ⟨r,m,zC⟩⟩:=RY hc hb
 rotate_left
 ·unfold yS at hc
  rw [hop] at hc
  simp only at hc
  rw [zC] at hc
  simp only [Option.bind_eq_bind,Option.bind_eq_some_iff,Option.some.injEq] at hc
  obtain ⟨x,hx,xs,hxs,rfl⟩:=hc
  obtain ⟨a1,a2⟩:=wJ ht hxs
  have hrun:(execOp a.eval o).run P w=(callMethod (a.eval r) m (c'.args.map a.eval)).run P w:=by
   unfold execOp
   rw [hop]
   simp only [resolve,zC]
   simp [invoke]
   rw [show (#[a.eval r]++Array.map a.eval c'.args)[0]? =some (a.eval r) from by rw [Array.getElem?_append_left (by simp)]; rfl]
   rw [show (Array.map a.eval c'.args).extract 0 c'.args.size=Array.map a.eval c'.args from by rw [←Array.size_map (f:=a.eval)]; exact Array.extract_size]
  rw [hrun]
  exact .inl (RX I hG hM (zR ht hx) a1 a2)
 unfold yS at hc
 rw [hop] at hc
 simp only at hc
 rw [zC] at hc
 simp only [Option.bind_eq_bind,Option.bind_eq_some_iff] at hc
 obtain ⟨xs,hxs,hc⟩:=hc
 obtain ⟨a1,a2⟩:=wJ ht hxs
 have hrun:(execOp a.eval o).run P w=(callFunc f (c'.args.map a.eval)).run P w:=by
  unfold execOp
  rw [hop]
  simp only [resolve,zC]
  simp [Deferred.ofValue,invoke,Act.eval]
 rw [hrun]
 have one:∀x,xs=[x]→∃v,c'.args.map a.eval= #[v]∧bY cx w (x.ev tm) v:=by
  rintro x rfl
  refine ⟨(c'.args.map a.eval).getD 0 undef,?_,a2 0 (by simp)⟩
  apply Array.ext
  ·simpa using a1
  ·intro i h1 h2
   have:i=0:=by simp at h2; omega
   subst this
   rw [Array.getD_eq_getD_getElem?,Array.getElem?_eq_getElem h1]; rfl
 have two:∀x y,xs=[x,y]→∃v u,c'.args.map a.eval= #[v,u]∧bY cx w (x.ev tm) v∧bY cx w (y.ev tm) u:=by
  rintro x y rfl
  refine ⟨(c'.args.map a.eval).getD 0 undef,(c'.args.map a.eval).getD 1 undef,?_,a2 0 (by simp),a2 1 (by simp)⟩
  apply Array.ext
  ·simpa using a1
  ·intro i h1 h2
   have:i=0∨i=1:=by simp at h2; omega
   have hg:∀k (hk:k < (c'.args.map a.eval).size),(c'.args.map a.eval)[k]=(c'.args.map a.eval).getD k undef:=fun k hk=> by rw [Array.getD_eq_getD_getElem?,Array.getElem?_eq_getElem hk]; rfl
   rcases this with rfl | rfl <;> (rw [hg _ h1]; rfl)
 have three:∀x y z,xs=[x,y,z]→∃v u t,c'.args.map a.eval= #[v,u,t]∧bY cx w (x.ev tm) v∧bY cx w (y.ev tm) u∧bY cx w (z.ev tm) t:=by
  rintro x y z rfl
  refine ⟨(c'.args.map a.eval).getD 0 undef,(c'.args.map a.eval).getD 1 undef,(c'.args.map a.eval).getD 2 undef,?_,a2 0 (by simp),a2 1 (by simp),a2 2 (by simp)⟩
  apply Array.ext
  ·simpa using a1
  ·intro i h1 h2
   have:i=0∨i=1∨i=2:=by simp at h2; omega
   have hg:∀k (hk:k < (c'.args.map a.eval).size),(c'.args.map a.eval)[k]=(c'.args.map a.eval).getD k undef:=fun k hk=> by rw [Array.getD_eq_getD_getElem?,Array.getElem?_eq_getElem hk]; rfl
   rcases this with rfl | rfl | rfl <;> (rw [hg _ h1]; rfl)
 split at hc
 ·rename_i fn hfn
  split at hc
  ·rename_i body hbody
   split at hc
   ·rename_i hname
    split at hc
    ·rename_i e x hpar
     split at hc
     ·rename_i s n zs hs hn hz
      split at hc
      ·rename_i hzs
       cases hc
       obtain ⟨v,hv,hx⟩:=one x rfl
       rw [hv]
       by_cases hp:E.pr f=true
       ·exact MQ I (hL.clone f fn e hp hfn hname hpar) hs hn hz hzs hx
       ·left
        show jR _ _ _ _ _ _ (xu E h tm f e s n _ x) _
        unfold xu
        rw [Bool.not_eq_true] at hp
        rw [hp]; trivial
      ·cases hc
     ·cases hc
    ·cases hc
   ·split at hc
    ·rename_i hname
     split at hc
     ·rename_i e x i v hpar
      split at hc
      ·cases hc
       obtain ⟨x',i',v',hv,h1,h2,h3⟩:=three x i v rfl
       rw [hv]
       by_cases hp:E.pr f=true
       ·exact MU I (hL.Be f fn e hp hfn hname hpar) h1 h2 h3
       ·left
        show jR _ _ _ _ _ _ (xw E h tm f e x i v) _
        unfold xw
        rw [Bool.not_eq_true] at hp
        rw [hp]; trivial
      ·cases hc
     ·cases hc
    ·split at hc
     ·split at hc
      ·simp only [Option.bind_eq_some_iff,Option.some.injEq] at hc
       obtain ⟨s,hs,zs,hz,rfl⟩:=hc
       simp [wW] at hb
      ·cases hc
     ·split at hc
      ·rename_i hgn
       split at hc
       ·split at hc
        ·rename_i hpt
         split at hc
         ·rename_i fs hfs
          split at hc
          ·rename_i eb heb
           cases hc
           obtain ⟨v',u',hv,h1,h2⟩:=two _ _ rfl
           rw [hv]
           exact MV I (fun hp=> hL.grow f fn _ fs eb hp hfn hgn hpt hfs heb) h1 h2
          ·cases hc
         ·cases hc
        ·cases hc
       ·cases hc
      ·split at hc
       ·rename_i k hk
        cases hc
        exact RU hG I (fun hp=> hL.lib f fn k hp hfn hk) a1 a2
       ·cases hc; simp [wW] at hb
  ·rename_i hbody
   simp only [Option.map_eq_some_iff] at hc
   obtain ⟨p,hp,rfl⟩:=hc
   exact Pm I (fun h1=> hL.Et f fn p h1 hfn hbody hp) a1 a2
 ·cases hc

theorem Dk (hL:Lb P E) (I:Inv P [] G cx h w) (hE:E.kQ=G) (hM:E.Fy=Bn P) {mu':List String} {me:String} {o:Oper} {c:COp} (hc:yS P mu' me o=some c) (hb:(allowed c || wW c)=true) {a:Act} {tm:List AV} (ht:uF cx w tm a.tmps):
  BI P G cx h w (gI c E h tm) ((execOp a.eval o).run P w):=by
 cases hl:wW c with
 |true=> exact MW hL hE hM I hc hl ht
 |false=> exact .inl (Jm I hE hc (by simpa [hl] using hb) ht)
end
end Go.Abs

namespace Go.Abs
section
variable {P : Program} {G : Nat → List DV} {E : Env} {fP : AC → Fr → Heap → Res}

theorem Jp {c:COp} {E:Env} {h:Heap} {tm:List AV}:gI c E h tm= .uT→c= .uT:=by
  cases c <;> simp only [gI] <;> intro hh <;> first
    |rfl
    |trivial
    | (exfalso; revert hh
       try simp only [uN,Ez,zF,IT,uM,xq,vw,wS,FC,B_,EA,Am,EB,vJ,Bu,yQ,qE,zG,zH,Ca,As,Au,
         Cb,yX,vC,Bv,ED,EE,Cc,zI,G4,IU,Al,yx,vM,Ce,s_app,Bw,By,IV,Kg,Kh,zJ,IW,BU,BS,xu,EF,xw,EG,zK,
         EH,Cf,IX,ov,oh,tgt]
       (repeat' split) <;> (intro hh; cases hh))

theorem E6 {P:Program} {mu:List String} {me:String} {b:Builtin} {ts:Array TypeId} {xs:List X} (hc:sQ P mu me b ts xs=some .uT):b= .recover:=by
 unfold sQ at hc
 split at hc <;> first
  |rfl
  |(exfalso; revert hc; (repeat' split) <;> simp [Option.bind_eq_some_iff])

theorem Kv {P:Program} {mu:List String} {me:String} {o:Oper} (hc:yS P mu me o=some .uT):q8 o.op=false:=by
 unfold yS at hc
 split at hc
 all_goals first
  |(exfalso; revert hc; (repeat' split) <;> simp [Option.bind_eq_some_iff,uE]; done)
  |skip
 ·exfalso
  simp only [Option.bind_eq_bind,Option.bind_eq_some_iff] at hc
  obtain ⟨x,_,hc⟩:=hc
  unfold uE at hc
  revert hc
  (repeat' split) <;> simp [Option.bind_eq_some_iff]
 ·rename_i c hop
  split at hc
  ·exfalso
   simp only [Option.bind_eq_bind,Option.bind_eq_some_iff] at hc
   obtain ⟨x,_,hc⟩:=hc
   revert hc
   (repeat' split) <;> simp [Option.bind_eq_some_iff]
  ·exfalso; simp [Option.bind_eq_some_iff] at hc
  ·exfalso; simp [Option.bind_eq_some_iff] at hc
  ·rename_i b hb
   simp only [Option.bind_eq_bind,Option.bind_eq_some_iff] at hc
   obtain ⟨x,_,hc⟩:=hc
   have:=E6 hc
   subst this
   rw [hop]
   simp [q8,hb]

structure EOk (P:Program) (G:Nat→List DV) (E:Env):Prop where
 kQ:E.kQ=G
 fn:∀f fn',E.fn f=some fn'→∃fn mu extra,P.funcs[f]? =some fn∧cF P mu extra fn=some fn'
 Fy:E.Fy=Bn P
 lib:Lb P E

def yI (P:Program) (G:Nat→List DV) (E:Env) (fP:AC→Fr→Heap→Res):Prop:=
 ∀(f:FuncId) (args:List AV) (h:Heap) (ex:Ex) (v:AV) (h':Heap),call E fP f args h=some (ex,v,h')→∀(cx:Cx) (w:World) (args':Array Value),Inv P [] G cx h w→
  args'.size=args.length→(∀i (hi:i < args.length),bY cx w args[i] (args'.getD i undef))→Enters P f∧∀cs:List Frame,∃cx' w' fr,Inv P [] G cx' h' w'∧Stp cx h w cx' h' w'∧
   Steps P (lone (Frame.enter P f args' .normal) cs w) (lone fr cs w')∧fr.fn=f∧
   ((ex= .nrm∧∃v',bY cx' w' v v'∧fr.leaving P w' (.returned v'))∨∃v0,ex= .pan v0∧∃v',bY cx' w' v0 v'∧fr.leaving P w' (.panicked [{v:=v',recovered:=false}]))

def xR (P:Program) (G:Nat→List DV) (fP:AC→Fr→Heap→Res):Prop:=
 ∀(l:Nat) (args:List AV) (h:Heap) (ex:Ex) (v:AV) (h':Heap),round fP l args h=some (ex,v,h')→∀(cx:Cx) (w:World) (args':Array Value),Inv P [] G cx h w→
  args'.size=args.length→(∀i (hi:i < args.length),bY cx w args[i] (args'.getD i undef))→∀(c:Nat) (L:Loop),cx.ρ l=some (c,0)→w.heap[c]? =some (.loop L)→args'.size=L.params.size∧
   ∀(fr0:Frame) (cs:List Frame),∃cx' w',Inv P [] G cx' h' w'∧Stp cx h w cx' h' w'∧
    ((ex = .nrm ∧ ∃ v',bY cx' w' v v' ∧
      Steps P (lone (Frame.round c L.fn ((L.params.zip args').foldl (fun tmps (t,a)=> tmps.setIfInBounds t a) L.tmps) L.assign L.body .normal) (fr0::cs) w) (lone (fr0.finish v') cs w'))∨
     ∃v0,ex= .pan v0∧∃v',bY cx' w' v0 v'∧
      Steps P (lone (Frame.round c L.fn ((L.params.zip args').foldl (fun tmps (t,a)=> tmps.setIfInBounds t a) L.tmps) L.assign L.body .normal) (fr0::cs) w) (lone (fr0.raise [{v:=v',recovered:=false}]) cs w'))

theorem Jq (o:AOp) (r:List AOp) (fr:Fr) (h:Heap):qy E fP (o::r) fr h=yu E fP o (qy E fP r) fr h:=rfl

theorem Jr {mu:List String} {me:String} {o:Oper}:(∃c,yS P mu me o=some c∧(allowed c || wW c)=true∧cOp P mu me o=c)∨cOp P mu me o= .bad:=by
 unfold cOp
 cases hc:yS P mu me o with
 |none=> exact .inr rfl
 |some c=>
  simp only
  by_cases ha:(allowed c || wW c)=true
  ·rw [if_pos ha]; exact .inl ⟨c,rfl,ha,rfl⟩
  ·rw [if_neg ha]; exact .inr rfl

theorem semAt_plain {b:Frame} {a:Act} {o:Oper} (h:b.roundOf.isSome=true→q8 o.op=true):o.semAt b.roundOf a.eval=execOp a.eval o:=by
 cases hb:b.roundOf with
 |none=> rfl
 |some l=>
  refine Oper.semAt_eq _ _ _ (fun c e=> ?_)
  have:=h (by rw [hb]; rfl)
  rw [e] at this
  simp [q8] at this

theorem Gn {l:Nat} {args:List AV} {h:Heap} {r} (hr:round fP l args h=some r):∃st pd f tm ps asg body,h.get l=some (.loop st pd f tm ps asg body):=by
 unfold round at hr
 split at hr
 ·rename_i hg; exact ⟨_,_,_,_,_,_,_,hg⟩
 ·cases hr

theorem MX (hE:EOk P G E) (hC:yI P G E fP) (hR:xR P G fP) {mu:List String} {me:String} {ops:Array Oper}:∀(is:List Nat) (fr fr':Fr) (h h':Heap) (ex:Ex),(∀i∈is,i < ops.size)→
  qy E fP (is.map fun i=> aop P mu me ops (ops.getD i default)) fr h=some (ex,fr',h')→∀(cx:Cx) (w:World) (a:Act) (s0:Nat) (b:Frame) (k:List Item) (cs:List Frame),Inv P [] G cx h w→AI cx h w s0 fr a→
  z8 cx w b cs fr.pan→(b.roundOf.isSome=true→∀i,i < ops.size→q8 (ops.getD i default).op=true)→Out P G s0 cx h w fr.pan b k cs (lone (b.atR a (.inRegion ops is::k)) cs w) ex fr' h':=by
 intro is
 induction is with
 |nil=>
  intro fr fr' h h' ex _ hr cx w a s0 b k cs I F Pr _
  cases hr
  exact ⟨cx,w,a,cs,I,.refl _ _ _,F.e,.refl _ _,Steps.one stepR_region_end⟩
 |cons i rest ih=>
  intro fr fr' h h' ex hlt hr cx w a s0 b k cs I F Pr hpl
  have hi:=hlt i (by simp)
  have hrest:∀j∈rest,j < ops.size:=fun j hj=> hlt j (by simp [hj])
  have ho:ops[i]? =some ops[i]:=Array.getElem?_eq_getElem hi
  have hod:ops.getD i default=ops[i]:=by rw [Array.getD_eq_getD_getElem?,ho]; rfl
  generalize hoo:ops[i]=o at ho hod
  rw [List.map_cons,Jq,hod] at hr
  have aa3:b.roundOf.isSome=true→q8 o.op=true:=fun hb=> by have:=hpl hb i hi; rw [hod] at this; exact this
  obtain ⟨tm,dfs,pn⟩:=fr
  unfold aop at hr
  split at hr
  ·rename_i g hg
   have hwant:=BH F.tmps hg
   simp only [yu] at hr
   split at hr
   ·
    rename_i hw
    have hw':Region.wanted o (yielded ops a.tmps)=true:=by rw [←hwant]; exact hw
    have hgo:=stepGR_op (P:=P) (b:=b) (a:=a) (k:=k) (cs:=cs) (w:=w) (rest:=rest) ho hw'
    rw [semAt_plain aa3] at hgo
    have hfin:∀(a:Act) v,(b.atR a (.inRegion ops (i::rest)::k)).finish v=b.atR (a.put o.dst v) (.inRegion ops rest::k):=by
     intro a v; rw [Frame.finish_atR,ho]; rfl
    rcases Jr (P:=P) (mu:=mu) (me:=me) (o:=o) with ⟨c,hc,hal,heq⟩ | heq
    ·rw [heq] at hr
     have hout:=Dk hE.lib I hE.kQ hE.Fy hc hal F.tmps
     generalize hs:gI c E h tm=s at hr hout
     rcases hout with hout | ⟨v,h1,rfl,f,args',hrun,Kw⟩
     rotate_left
     ·obtain ⟨_,w1,fr1,⟨cx1,v',I1,S1,hv,rfl⟩,hst,hfn,hlv⟩:=Kw (b.atR a (.inRegion ops (i::rest)::k)::cs)
      have henter:step P (lone (b.atR a (.inRegion ops (i::rest)::k)) cs w)= .next (lone (Frame.enter P f args' .normal) (b.atR a (.inRegion ops (i::rest)::k)::cs) w):=
       step_lone_go (by rw [hgo]; simp [stepG.apply,hrun,Frame.atR])
      have hleave:=step_leave_returned (c:=b.atR a (.inRegion ops (i::rest)::k)) (cs:=cs) hlv
      rw [hfin] at hleave
      have F1:=(F.stp S1).put o.dst hv
      have xS:=uG ⟨tm,dfs,pn⟩ o.dst v
      have Pr1:z8 cx1 w1 b cs (lW ⟨tm,dfs,pn⟩ o.dst v).pan:=by rw [xS]; exact Pr.next S1.ext (.refl _ _)
      have:=ih _ _ _ _ _ hrest hr cx1 w1 _ s0 b k cs I1 F1 Pr1 hpl
      rw [xS] at this
      exact Out.of_steps (.head henter (hst.trans (.one hleave))) (this.from S1 (.refl _ _))
     cases s with
     |val v h1=>
      obtain ⟨cx1,w1,I1,S1,hres⟩:=hout
      have go:∀v',bY cx1 w1 v v'→(step P (lone (b.atR a (.inRegion ops (i::rest)::k)) cs w)= .next (lone (b.atR (a.put o.dst v') (.inRegion ops rest::k)) cs w1))→
        Out P G s0 cx h w pn b k cs (lone (b.atR a (.inRegion ops (i::rest)::k)) cs w) ex fr' h':=by
       intro v' hv hstep
       have F1:=(F.stp S1).put o.dst hv
       have xS:=uG ⟨tm,dfs,pn⟩ o.dst v
       have Pr1:z8 cx1 w1 b cs (lW ⟨tm,dfs,pn⟩ o.dst v).pan:=by rw [xS]; exact Pr.next S1.ext (.refl _ _)
       have:=ih _ _ _ _ _ hrest hr cx1 w1 _ s0 b k cs I1 F1 Pr1 hpl
       rw [xS] at this
       exact Out.of_steps (.one hstep) (this.from S1 (.refl _ _))
      rcases hres with ⟨v',hrun,hv⟩ | ⟨hrun,rfl⟩
      ·exact go v' hv (step_lone_go (by rw [hgo,←hfin]; simp [stepG.apply,hrun]))
      ·exact go undef .und (step_lone_go (by rw [hgo,←hfin]; simp [stepG.apply,hrun]))
     |call f args=>
      obtain ⟨args',hrun,hl,ha⟩:=hout
      simp only [Ai,C9] at hr
      split at hr
      ·rename_i v h1 hcall
       obtain ⟨hent,hcs⟩:=hC _ _ _ _ _ _ hcall cx w args' I hl ha
       obtain ⟨cx1,w1,fr1,I1,S1,hst,hfn,hlv⟩:=hcs (b.atR a (.inRegion ops (i::rest)::k)::cs)
       rcases hlv with ⟨_,v',hv,hlv⟩ | ⟨_,e,_⟩
       ·have henter:step P (lone (b.atR a (.inRegion ops (i::rest)::k)) cs w)= .next (lone (Frame.enter P f args' .normal) (b.atR a (.inRegion ops (i::rest)::k)::cs) w):=
         step_lone_go (by rw [hgo]; simp [stepG.apply,hrun hent,Frame.atR])
        have hleave:=step_leave_returned (c:=b.atR a (.inRegion ops (i::rest)::k)) (cs:=cs) hlv
        rw [hfin] at hleave
        have F1:=(F.stp S1).put o.dst hv
        have xS:=uG ⟨tm,dfs,pn⟩ o.dst v
        have Pr1:z8 cx1 w1 b cs (lW ⟨tm,dfs,pn⟩ o.dst v).pan:=by rw [xS]; exact Pr.next S1.ext (.refl _ _)
        have:=ih _ _ _ _ _ hrest hr cx1 w1 _ s0 b k cs I1 F1 Pr1 hpl
        rw [xS] at this
        exact Out.of_steps (.head henter (hst.trans (.one hleave))) (this.from S1 (.refl _ _))
       ·cases e
      ·rename_i v0 x h1 hcall
       cases hr
       obtain ⟨hent,hcs⟩:=hC _ _ _ _ _ _ hcall cx w args' I hl ha
       obtain ⟨cx1,w1,fr1,I1,S1,hst,hfn,hlv⟩:=hcs (b.atR a (.inRegion ops (i::rest)::k)::cs)
       rcases hlv with ⟨e,_⟩ | ⟨v1,e,v',hv,hlv⟩
       ·cases e
       ·cases e
        have henter:step P (lone (b.atR a (.inRegion ops (i::rest)::k)) cs w)= .next (lone (Frame.enter P f args' .normal) (b.atR a (.inRegion ops (i::rest)::k)::cs) w):=
         step_lone_go (by rw [hgo]; simp [stepG.apply,hrun hent,Frame.atR])
        have hleave:=step_leave_panicked (c:=b.atR a (.inRegion ops (i::rest)::k)) (cs:=cs) hlv
        rw [Frame.raise_atR] at hleave
        exact ⟨cx1,w1,a,cs,I1,S1,(F.stp S1).e,.refl _ _,_,v',hv,.head henter (hst.trans (.one hleave))⟩
      ·cases hr
     |yield l args=>
      obtain ⟨args',hl,ha,hloop⟩:=hout
      simp only [Ai,C9] at hr
      have hgen:∀r,round fP l args h=some r→∃c L,cx.ρ l=some (c,0)∧w.heap[c]? =some (Obj.loop L)∧
        (args'.size=L.params.size→(execOp a.eval o).run P w= .ok (.round c L.fn ((L.params.zip args').foldl (fun tmps (t,a)=> tmps.setIfInBounds t a) L.tmps) L.assign L.body) w):=by
       intro r wR
       obtain ⟨st,pd,f,tm',ps,asg,body,hg⟩:=Gn wR
       exact hloop _ _ _ _ _ _ _ hg
      split at hr
      ·rename_i v h1 wR
       obtain ⟨c,L,zY,hL,hrun⟩:=hgen _ wR
       obtain ⟨hsz,hcs⟩:=hR _ _ _ _ _ _ wR cx w args' I hl ha c L zY hL
       obtain ⟨cx1,w1,I1,S1,hlv⟩:=hcs (b.atR a (.inRegion ops (i::rest)::k)) cs
       rcases hlv with ⟨_,v',hv,hst⟩ | ⟨_,e,_⟩
       ·have henter:step P (lone (b.atR a (.inRegion ops (i::rest)::k)) cs w)=
          .next (lone (Frame.round c L.fn ((L.params.zip args').foldl (fun tmps (t,a)=> tmps.setIfInBounds t a) L.tmps) L.assign L.body .normal) (b.atR a (.inRegion ops (i::rest)::k)::cs) w):=
         step_lone_go (by rw [hgo]; simp [stepG.apply,hrun hsz,Frame.atR])
        rw [hfin] at hst
        have F1:=(F.stp S1).put o.dst hv
        have xS:=uG ⟨tm,dfs,pn⟩ o.dst v
        have Pr1:z8 cx1 w1 b cs (lW ⟨tm,dfs,pn⟩ o.dst v).pan:=by rw [xS]; exact Pr.next S1.ext (.refl _ _)
        have:=ih _ _ _ _ _ hrest hr cx1 w1 _ s0 b k cs I1 F1 Pr1 hpl
        rw [xS] at this
        exact Out.of_steps (.head henter hst) (this.from S1 (.refl _ _))
       ·cases e
      ·rename_i v0 x h1 wR
       cases hr
       obtain ⟨c,L,zY,hL,hrun⟩:=hgen _ wR
       obtain ⟨hsz,hcs⟩:=hR _ _ _ _ _ _ wR cx w args' I hl ha c L zY hL
       obtain ⟨cx1,w1,I1,S1,hlv⟩:=hcs (b.atR a (.inRegion ops (i::rest)::k)) cs
       rcases hlv with ⟨e,_⟩ | ⟨v1,e,v',hv,hst⟩
       ·cases e
       ·cases e
        have henter:step P (lone (b.atR a (.inRegion ops (i::rest)::k)) cs w)=
          .next (lone (Frame.round c L.fn ((L.params.zip args').foldl (fun tmps (t,a)=> tmps.setIfInBounds t a) L.tmps) L.assign L.body .normal) (b.atR a (.inRegion ops (i::rest)::k)::cs) w):=
         step_lone_go (by rw [hgo]; simp [stepG.apply,hrun hsz,Frame.atR])
        rw [Frame.raise_atR] at hst
        exact ⟨cx1,w1,a,cs,I1,S1,(F.stp S1).e,.refl _ _,_,v',hv,.head henter hst⟩
      ·cases hr
     |pan v=>
      obtain ⟨v',hrun,hv⟩:=hout
      cases hr
      refine ⟨cx,w,a,cs,I,.refl _ _ _,F.e,.refl _ _,.inRegion ops (i::rest)::k,v',hv,.one (step_lone_go ?_)⟩
      rw [hgo,←Frame.raise_atR]; simp [stepG.apply,hrun]
     |uT=>
      have hrun:(execOp a.eval o).run P w= .ok .recover w:=hout
      simp only [Ai,D_] at hr
      cases pn with
      |some v=>
       obtain ⟨p1,p2,c,rst,v',older,p3,p4,p5⟩:=Pr
       subst p3
       simp only at hr
       have htr:tryRecover (b.atR a (.inRegion ops (i::rest)::k)) (c::rst)=some (v',{c with mode:= .panicking ({v:=v',recovered:=true}::older)}::rst):=by
        simp [tryRecover,Frame.atR,p1,p4]
       have hro:(b.atR a (.inRegion ops (i::rest)::k)).roundOf=none:=p2
       have hstep:step P (lone (b.atR a (.inRegion ops (i::rest)::k)) (c::rst) w)=
         .next (lone (b.atR (a.put o.dst v') (.inRegion ops rest::k)) ({c with mode:= .panicking ({v:=v',recovered:=true}::older)}::rst) w):=
        step_lone_go (by rw [hgo,←hfin]; simp [stepG.apply,hrun,hro,htr])
       have aa4:zq (some v) (c::rst) none ({c with mode:= .panicking ({v:=v',recovered:=true}::older)}::rst):= .inr ⟨v,c,rst,v',older,rfl,rfl,rfl,p4,rfl⟩
       have F0:AI cx h w s0 ⟨tm,dfs,none⟩ a:=⟨F.tmps,F.defs,F.le⟩
       have F1:=F0.put o.dst p5
       have xS:=uG ⟨tm,dfs,none⟩ o.dst v
       have Pr0:z8 cx w b (c::rst) (some v):=⟨p1,p2,c,rst,v',older,rfl,p4,p5⟩
       have Pr1:z8 cx w b ({c with mode:= .panicking ({v:=v',recovered:=true}::older)}::rst) (lW ⟨tm,dfs,none⟩ o.dst v).pan:=by
        rw [xS]; exact Pr0.next (.refl _ _) aa4
       have:=ih _ _ _ _ _ hrest hr cx w _ s0 b k _ I F1 Pr1 hpl
       rw [xS] at this
       exact Out.of_steps (.one hstep) (this.from (.refl _ _ _) aa4)
      |none=>
       have hro:b.roundOf=none:=by
        cases hb:b.roundOf with
        |none=> rfl
        |some l=>
         have:=aa3 (by rw [hb]; rfl)
         exfalso
         rw [Jp hs] at hc
         rw [Kv hc] at this
         cases this
       have htr:tryRecover (b.atR a (.inRegion ops (i::rest)::k)) cs=none:=Pr _ rfl
       have acJ:(b.atR a (.inRegion ops (i::rest)::k)).roundOf=none:=hro
       have hstep:step P (lone (b.atR a (.inRegion ops (i::rest)::k)) cs w)= .next (lone (b.atR (a.put o.dst .nilIface) (.inRegion ops rest::k)) cs w):=
        step_lone_go (by rw [hgo,←hfin]; simp [stepG.apply,hrun,acJ,htr])
       have F1:=F.put o.dst (x:= .d .nili) (v:= .nilIface) (.d _ _ .nili)
       have xS:=uG ⟨tm,dfs,none⟩ o.dst (.d .nili)
       have Pr1:z8 cx w b cs (lW ⟨tm,dfs,none⟩ o.dst (.d .nili)).pan:=by rw [xS]; exact Pr
       have:=ih _ _ _ _ _ hrest hr cx w _ s0 b k cs I F1 Pr1 hpl
       rw [xS] at this
       exact Out.of_steps (.one hstep) this
     |dfr f args=>
      obtain ⟨g',fs',cs',args',hrun,hf,hl,ha⟩:=hout
      simp only [Ai] at hr
      have hstep:step P (lone (b.atR a (.inRegion ops (i::rest)::k)) cs w)=
        .next (lone (b.atR ({a with defers:={target:= .fn g' cs',args:=fs'++args'}::a.defers}.put o.dst undef) (.inRegion ops rest::k)) cs w):=by
       refine step_lone_go ?_
       have:=hfin {a with defers:={target:= .fn g' cs',args:=fs'++args'}::a.defers} undef
       rw [hgo]; simp only [stepG.apply,Sem.runT_eq,hrun,GStep.bare_after]
       exact congrArg (fun fr=> GStep.go {frame:=fr,callers:=cs,status:= .running,dying:=none} w) this
      have F0:AI cx h w s0 ⟨tm,(f,args)::dfs,pn⟩ {a with defers:={target:= .fn g' cs',args:=fs'++args'}::a.defers}:=⟨F.tmps,.call f args g' fs' cs' args' _ _ hf hl ha F.defs,F.le⟩
      have F1:=F0.put o.dst (x:= .und) (v:=undef) .und
      have xS:=uG ⟨tm,(f,args)::dfs,pn⟩ o.dst .und
      have Pr1:z8 cx w b cs (lW ⟨tm,(f,args)::dfs,pn⟩ o.dst .und).pan:=by rw [xS]; exact Pr
      have:=ih _ _ _ _ _ hrest hr cx w _ s0 b k cs I F1 Pr1 hpl
      rw [xS] at this
      exact Out.of_steps (.one hstep) this
     |bad=> cases hr
    ·rw [heq] at hr
     cases hr
   ·
    rename_i hw
    have hw':Region.wanted o (yielded ops a.tmps)=false:=by rw [←hwant]; exact hw
    have hs:=stepR_op_skip (P:=P) (b:=b) (a:=a) (k:=k) (cs:=cs) (w:=w) (ops:=ops) (i:=i) (rest:=rest) (by simp [ho,hw'])
    simp only [ho,Option.bind_some] at hs
    have F1:=F.put o.dst (x:= .und) (v:=undef) .und
    have xS:=uG ⟨tm,dfs,pn⟩ o.dst .und
    have Pr1:z8 cx w b cs (lW ⟨tm,dfs,pn⟩ o.dst .und).pan:=by rw [xS]; exact Pr
    have:=ih _ _ _ _ _ hrest hr cx w _ s0 b k cs I F1 Pr1 hpl
    rw [xS] at this
    exact Out.of_steps (.one hs) this
  ·cases hr
end
end Go.Abs

namespace Go.Abs
section
variable {P : Program} {G : Nat → List DV} {E : Env} {fP : AC → Fr → Heap → Res}

theorem Ky (cx:Cx):cx.Dh (fun _ _=> False)=cx:=by
 unfold Cx.Dh
 simp

def Ee (w:World) (b:Frame):Prop:=∀l,b.roundOf=some l→∃L:Loop,w.heap[l]? =some (.loop L)

theorem Ee.next {cx cx':Cx} {w w':World} {b:Frame} (r:Ee w b) (e:Ext cx w cx' w'):Ee w' b:=fun l hl=> by
 obtain ⟨L,hL⟩:=r l hl
 exact e.lp l L hL

def Snd (P:Program) (G:Nat→List DV) (fP:AC→Fr→Heap→Res):Prop:=
 ∀(mu:List String) (me:String) (c:Code) (fr fr':Fr) (h h':Heap) (ex:Ex),fP (cC P mu me c) fr h=some (ex,fr',h')→∀(cx:Cx) (w:World) (a:Act) (s0:Nat) (b:Frame) (k:List Item) (cs:List Frame),
  Inv P [] G cx h w→AI cx h w s0 fr a→z8 cx w b cs fr.pan→(b.roundOf.isSome=true→pF c=true)→Ee w b→(P.funcs[b.fn]?).isSome=true→
  Out P G s0 cx h w fr.pan b k cs (lone (b.atR a (.code c::k)) cs w) ex fr' h'∧
  ∀body,c= .loop body→Out P G s0 cx h w fr.pan b k cs (lone (b.atR a (.code body:: .inLoop body::k)) cs w) ex fr' h'

def LG (P:Program) (G:Nat→List DV) (E:Env) (fP:AC→Fr→Heap→Res):Prop:=
 ∀(mu:List String) (me:String) (id:Nat) (ops:Array Oper) (fr fr':Fr) (h h':Heap) (ex:Ex),oW (cC P mu me (.region id ops true)) E fP fr h=some (ex,fr',h')→
  ∀(cx:Cx) (w:World) (a:Act) (s0:Nat) (b:Frame) (k:List Item) (cs:List Frame),Inv P [] G cx h w→AI cx h w s0 fr a→z8 cx w b cs fr.pan→(b.roundOf.isSome=true→pF (.region id ops true)=true)→
  Out P G s0 cx h w fr.pan b k cs (lone (b.atR a (.code (.region id ops true)::k)) cs w) ex fr' h'

theorem Arr.exit {b:Frame} {a:Act} {k:List Item} {cs:List Frame} {cx:Cx} {w:World} (id:Nat):Arr P (lone (b.atR a (.code (.exit id)::k)) cs w) b k cs cx a w (.exit id):=
 ⟨fun _ hk=> .one (stepR_exit hk),fun _ hk=> ⟨k,hk,.refl _ _⟩⟩
theorem Arr.ret {b:Frame} {a:Act} {k:List Item} {cs:List Frame} {cx:Cx} {w:World}:Arr P (lone (b.atR a (.code .ret::k)) cs w) b k cs cx a w .ret:=
 ⟨fun hn=> ⟨_,.one (stepR_ret hn)⟩,fun _=> ⟨k,.refl _ _⟩⟩

theorem Dl {α:Type} (ops:Array Oper) (f:Oper→α):ops.toList.map f=(List.range ops.size).map fun i=> f (ops.getD i default):=by
 apply List.ext_getElem
 ·simp
 ·intro i h1 h2
  have hi:i < ops.size:=by simpa using h1
  simp [hi]

theorem lJ.Pn {cx:Cx} {h:Heap} {w:World} {s0:Nat} {fs:List (AV×List AV)} {ds:List Deferred} (d:lJ cx h w s0 fs ds):∀e∈ds,∀r,e.target= .collected r→r < w.heap.size:=by
 induction d with
 |nil=> intro e he; cases he
 |mark r fs ds hm hn _ ih=>
  intro e he r' hr
  rcases List.mem_cons.1 he with rfl | he
  ·cases hr; exact (Array.getElem?_eq_some_iff.1 hm.2.1).1
  ·exact ih e he r' hr
 |call f args g fs' cs' args' fs ds _ _ _ _ ih=>
  intro e he r' hr
  rcases List.mem_cons.1 he with rfl | he
  ·cases hr
  ·exact ih e he r' hr

theorem Js {cx:Cx} {h:Heap} {w:World} (I:Inv P [] G cx h w) {f:AV} {f':Value} {asx args2:List AV} {args:Array Value} {g:FuncId} (ht:tgt f asx= .call g args2) (hf:bY cx w f f') (hl:args.size=asx.length)
  (hr:∀i (hi:i < asx.length),bY cx w asx[i] (args.getD i undef)) (hE:Enters P g):
  ∃fs cs:Array Value,f'= .func (.func g) fs cs∧(fs++args++cs).size=args2.length∧(∀i (hi:i < args2.length),bY cx w args2[i] ((fs++args++cs).getD i undef)):=by
 have hs:=Lx (w:=w) I hf hl hr
 rw [ht] at hs
 obtain ⟨args',hrun,h1,h2⟩:=hs
 have hrun:=hrun hE
 have key:∃fs cs:Array Value,f'= .func (.func g) fs cs:=by
  unfold tgt at ht
  split at ht
  ·cases ht
   cases hf with
   |d _ _ hd=> cases hd with
    |fn _ _ _ fs' cs' _ _ _ _=> exact ⟨fs',cs',rfl⟩
  ·cases ht
   cases hf with
   |fn _ _ _ fs' cs' _ _ _ _ _=> exact ⟨fs',cs',rfl⟩
  ·cases ht
  ·cases ht
 obtain ⟨fs,cs,rfl⟩:=key
 refine ⟨fs,cs,rfl,?_⟩
 have:args'=fs++args++cs:=by
  simp [Deferred.ofValue,invoke,lI hE] at hrun
  rw [←hrun,Array.append_assoc]
 rw [←this]
 exact ⟨h1,h2⟩

theorem Inv.Hr {cx:Cx} {h:Heap} {w:World} (I:Inv P [] G cx h w) {l c f:Nat} {L L':Loop} {st st':LSt} {pd pd':Mt} {tm:List AV} {ps:List Nat} {asg body:AC} (hb:h.get l=some (.loop st pd f tm ps asg body)) (hr:cx.ρ l=some (c,0))
  (hL:w.heap[c]? =some (.loop L)) (h1:L'.state=st'.of) (h2:L'.pending=pd'.of) (h3:L'.params=L.params) (h4:L'.tmps=L.tmps) (h5:L'.assign=L.assign) (h6:L'.body=L.body) (h7:L'.fn=L.fn):
  Inv P [] G cx (h.set l (.loop st' pd' f tm ps asg body)) (w.putObj c (.loop L'))∧Stp cx h w cx (h.set l (.loop st' pd' f tm ps asg body)) (w.putObj c (.loop L')):=by
 have hlt:=(Array.getElem?_eq_some_iff.1 hL).1
 obtain ⟨c',L2,k1,k2,k3,k4,k5,k6,k7,k8⟩:=I.heap l _ hb
 rw [hr] at k1; cases k1
 rw [hL] at k2; cases k2
 refine I.OD hb rfl (fun _ _=> by simp) hr (fun _ _=> by simp) (by simp) (fun i hi=> World.putObj_heap_other hi) (fun arr e fz hh=> by rw [hL] at hh; cases hh) (fun L0 hL0=> ⟨L',World.putObj_heap_same hlt⟩) (fun ext=> ?_)
 refine ⟨c,L',hr,World.putObj_heap_same hlt,h1,h2,by rw [h3]; exact k5,by rw [h4]; exact k6,fun i hi=> by rw [h4]; exact (k7 i hi).ext ext,?_⟩
 obtain ⟨kf,mu',nm,q1,q2,q3,q4⟩:=k8
 exact ⟨by rw [h7]; exact kf,mu',nm,by rw [h5]; exact q1,by rw [h6]; exact q2,by rw [h5]; exact q3,by rw [h6]; exact q4⟩

theorem Ht {mu extra:List String} {fn:Func} {fn':AFn} (hf:cF P mu extra fn=some fn'):∃c,fn.body=some c∧fn.name≠ "runtime.NumGoroutine" ∧fn'.ntmps=fn.ntmps∧fn'.results=fn.results.toList.map (cR P)∧
  fn'.body=cC P mu fn.name c∧∀t ty,ResultVar.cell t ty∈fn.results.toList→(yw P ty).isSome=true∧(mP P ty).isSome=true:=by
 unfold cF at hf
 split at hf
 ·cases hf
 ·rename_i c hc
  split at hf
  ·cases hf
  ·rename_i hcond
   cases hf
   simp only [Bool.or_eq_true,not_or,decide_eq_true_eq,Bool.not_eq_true,Bool.not_eq_false',List.all_eq_true] at hcond
   refine ⟨c,hc,hcond.1,rfl,rfl,rfl,fun t ty hm=> ?_⟩
   have:=hcond.2 _ hm
   simpa using this

theorem xU (hE:EOk P G E) {f:FuncId} {args:List AV} {h:Heap} {r} (hc:call E fP f args h=some r):Enters P f:=by
 unfold call at hc
 split at hc
 ·cases hc
 ·rename_i fn' hf
  obtain ⟨fn,mu,extra,h1,h2⟩:=hE.fn f fn' hf
  obtain ⟨c,h3,h4,_⟩:=Ht h2
  exact ⟨fn,c,h1,h3,h4⟩

theorem Po (hE:EOk P G E) (ih:Snd P G fP) (hC:yI P G E fP) (hR:xR P G fP) (hD:LG P G E fP):Snd P G (fun c fr h=> oW c E fP fr h):=by
  intro mu me c fr fr' h h' ex hr cx w a s0 b k cs I F Pr hpl hro hfun
  cases c with
  |skip=>
    refine ⟨?_,fun _ e=> by cases e⟩
    cases hr
    exact ⟨cx,w,a,cs,I,.refl _ _ _,F.e,.refl _ _,.one stepR_skip⟩
  |region id ops d=>
    refine ⟨?_,fun _ e=> by cases e⟩
    cases d with
    |true=> exact hD mu me id ops fr fr' h h' ex hr cx w a s0 b k cs I F Pr hpl
    |false=>
      have hr':qy E fP (ops.toList.map (aop P mu me ops)) fr h=some (ex,fr',h'):=hr
      rw [Dl] at hr'
      refine Out.of_steps (.one stepR_region) (MX hE hC hR _ _ _ _ _ _ (fun i hi=> by simpa using hi) hr' cx w a s0 b k cs I F Pr (fun hb i hi=> ?_))
      have:=hpl hb
      simp only [pF,List.all_eq_true] at this
      have h2 := this (ops.getD i default) (by
        have:ops.getD i default=ops[i]:=by simp [hi]
        rw [this]; exact Array.getElem_mem_toList hi)
      exact h2
  |seq x y=>
    refine ⟨?_,fun _ e=> by cases e⟩
    have hr':Ae (fP (cC P mu me y)) (fP (cC P mu me x) fr h)=some (ex,fr',h'):=hr
    have US:b.roundOf.isSome=true→pF x=true:=fun hb=> by have:=hpl hb; simp only [pF,Bool.and_eq_true] at this; exact this.1
    have UT:b.roundOf.isSome=true→pF y=true:=fun hb=> by have:=hpl hb; simp only [pF,Bool.and_eq_true] at this; exact this.2
    cases hx:fP (cC P mu me x) fr h with
    |none=> rw [hx] at hr'; cases hr'
    |some r=>
      obtain ⟨ex1,fr1,h1⟩:=r
      rw [hx] at hr'
      obtain ⟨⟨cx1,w1,a1,cs1,I1,S1,F1,C1,A1⟩,_⟩:=ih mu me x fr fr1 h h1 ex1 hx cx w a s0 b (.code y::k) cs I F Pr US hro hfun
      by_cases hn:ex1= .nrm
      · subst hn
        obtain ⟨o,_⟩:=ih mu me y fr1 fr' h1 h' ex hr' cx1 w1 a1 s0 b k cs1 I1 (F1.f (fun _ e=> by cases e)) (Pr.next S1.ext C1) UT (hro.next S1.ext) hfun
        exact Out.of_steps (.head stepR_seq A1) (o.from S1 C1)
      · have hr2:some (ex1,fr1,h1)=some (ex,fr',h'):=by
          cases ex1 <;> first | exact absurd rfl hn | exact hr'
        cases hr2
        exact Out.of_steps (.one stepR_seq) ⟨cx1,w1,a1,cs1,I1,S1,F1,C1,A1.pass rfl hn⟩
  |cond c x y=>
    refine ⟨?_,fun _ e=> by cases e⟩
    have US:b.roundOf.isSome=true→pF x=true:=fun hb=> by have:=hpl hb; simp only [pF,Bool.and_eq_true] at this; exact this.1
    have UT:b.roundOf.isSome=true→pF y=true:=fun hb=> by have:=hpl hb; simp only [pF,Bool.and_eq_true] at this; exact this.2
    simp only [cC] at hr
    split at hr
    · rename_i xc hxc
      simp only [oW,condC] at hr
      have hv:=zR F.tmps hxc
      split at hr
      · rename_i t hev
        rw [hev] at hv
        have hv:=hv.wE
        split at hr
        · obtain ⟨o,_⟩:=ih mu me x fr fr' h h' ex hr cx w a s0 b k cs I F Pr US hro hfun
          exact Out.of_steps (.one (stepR_cond hv)) o
        · obtain ⟨o,_⟩:=ih mu me y fr fr' h h' ex hr cx w a s0 b k cs I F Pr UT hro hfun
          exact Out.of_steps (.one (stepR_cond hv)) o
      · cases hr
    · cases hr
  |block id x=>
    refine ⟨?_,fun _ e=> by cases e⟩
    have hr':Ch id (fP (cC P mu me x) fr h)=some (ex,fr',h'):=hr
    cases hx:fP (cC P mu me x) fr h with
    |none=> rw [hx] at hr'; cases hr'
    |some r=>
      obtain ⟨ex1,fr1,h1⟩:=r
      rw [hx] at hr'
      obtain ⟨⟨cx1,w1,a1,cs1,I1,S1,F1,C1,A1⟩,_⟩:=ih mu me x fr fr1 h h1 ex1 hx cx w a s0 b (.inBlock id::k) cs I F Pr (fun hb=> hpl hb) hro hfun
      cases ex1 with
      |nrm=>
        cases hr'
        exact ⟨cx1,w1,a1,cs1,I1,S1,F1,C1,.head stepR_block (Steps.trans A1 (.one stepR_inBlock))⟩
      |exit j=>
        simp only [Ch] at hr'
        split at hr'
        · rename_i hj
          have hj:=m_ hj
          subst hj
          cases hr'
          exact ⟨cx1,w1,a1,cs1,I1,S1,(F1.f (fun _ e=> by cases e)).e,C1,.head stepR_block (A1.1 k (by simp [exitTo]))⟩
        · rename_i hj
          cases hr'
          have hne:(id==j)=false:=by
            cases hq:id==j with
            |false=> rfl
            | true => have : id = j := by simpa using hq
                      subst this
                      rw [Nat.beq_refl] at hj; cases hj
          have hx':exitTo j (.inBlock id::k)=exitTo j k:=by simp [exitTo,hne]
          refine ⟨cx1,w1,a1,cs1,I1,S1,F1,C1,fun k' hk=> .head stepR_block (A1.1 k' (by rw [hx']; exact hk)),fun hb hk=> ?_⟩
          obtain ⟨k1,q1,q2⟩:=A1.2 hb (by rw [hx']; exact hk)
          exact ⟨k1,q1,.head stepR_block q2⟩
      |ret=>
        cases hr'
        exact ⟨cx1,w1,a1,cs1,I1,S1,F1,C1,Arr.of_steps (.one stepR_block) A1⟩
      |pan v=>
        cases hr'
        exact ⟨cx1,w1,a1,cs1,I1,S1,F1,C1,Arr.of_steps (ex:= .pan v) (k:=k) (.one stepR_block) A1⟩
  |loop x=>
    have hr':Ae (fP (cC P mu me (.loop x))) (fP (cC P mu me x) fr h)=some (ex,fr',h'):=hr
    have key:Out P G s0 cx h w fr.pan b k cs (lone (b.atR a (.code x:: .inLoop x::k)) cs w) ex fr' h':=by
      cases hx:fP (cC P mu me x) fr h with
      |none=> rw [hx] at hr'; cases hr'
      |some r=>
        obtain ⟨ex1,fr1,h1⟩:=r
        rw [hx] at hr'
        obtain ⟨⟨cx1,w1,a1,cs1,I1,S1,F1,C1,A1⟩,_⟩:=ih mu me x fr fr1 h h1 ex1 hx cx w a s0 b (.inLoop x::k) cs I F Pr (fun hb=> hpl hb) hro hfun
        by_cases hn:ex1= .nrm
        · subst hn
          obtain ⟨_,o⟩:=ih mu me (.loop x) fr1 fr' h1 h' ex hr' cx1 w1 a1 s0 b k cs1 I1 (F1.f (fun _ e=> by cases e)) (Pr.next S1.ext C1) hpl (hro.next S1.ext) hfun
          exact Out.of_steps (Steps.trans A1 (.one stepR_inLoop)) ((o x rfl).from S1 C1)
        · have hr2:some (ex1,fr1,h1)=some (ex,fr',h'):=by
            cases ex1 <;> first | exact absurd rfl hn | exact hr'
          cases hr2
          exact ⟨cx1,w1,a1,cs1,I1,S1,F1,C1,A1.pass rfl hn⟩
    refine ⟨Out.of_steps (.one stepR_loop) key,fun body e=> ?_⟩
    cases e
    exact key
  |exit id=>
    refine ⟨?_,fun _ e=> by cases e⟩
    cases hr
    exact ⟨cx,w,a,cs,I,.refl _ _ _,F.e,.refl _ _,Arr.exit id⟩
  |ret=>
    refine ⟨?_,fun _ e=> by cases e⟩
    cases hr
    exact ⟨cx,w,a,cs,I,.refl _ _ _,F.e,.refl _ _,Arr.ret⟩
  |rangeFunc g ps asg body=>
    refine ⟨?_,fun _ e=> by cases e⟩
    simp only [cC] at hr
    split at hr
    · rename_i xg hxg
      split at hr
      · rename_i hplain
        simp only [Bool.and_eq_true] at hplain
        simp only [oW,Lj] at hr
        split at hr
        · rename_i f args UU
          -- the acK record is laid
          obtain ⟨lc,mk,w1,hent,hw1,hmk,hL⟩:∃(lc:Nat) (mk:List Deferred) (w1:World),(Instr.enterLoop b.fn a.tmps ps asg body b.roundOf).run P w= .ok (lc,mk) w1∧
              (∃ w0 : World,∃ L : Loop,((w0 = w ∧ mk = []) ∨ (w0 = w.alloc (.deferred (some [])) ∧ mk = [{ target := .collected w.heap.size,args := #[] }])) ∧ lc = w0.heap.size ∧ w1 = w0.alloc (.loop L) ∧
                L.state= .ready∧L.pending=none∧L.params=ps∧L.tmps=a.tmps∧L.assign=asg∧L.body=body∧L.fn=b.fn)∧True∧True:=by
            cases hb:b.roundOf with
            |none=>
              have:=run_enterLoop_outer (P:=P) (w:=w) b.fn a.tmps ps asg body
              refine ⟨_,_,_,this,⟨_,_,.inr ⟨rfl,rfl⟩,?_,rfl,rfl,rfl,rfl,rfl,rfl,rfl,rfl⟩,trivial,trivial⟩
              simp
            |some l0=>
              obtain ⟨L0,hL0⟩:=hro l0 hb
              have:=run_enterLoop_inner (P:=P) hL0 b.fn a.tmps ps asg body
              exact ⟨_,_,_,this,⟨_,_,.inl ⟨rfl,rfl⟩,rfl,rfl,rfl,rfl,rfl,rfl,rfl,rfl,rfl⟩,trivial,trivial⟩
          obtain ⟨w0,L,hw0,rfl,rfl,l1,l2,l3,l4,l5,l6,l7⟩:=hw1
          have h0:Inv P [] G cx h w0∧Stp cx h w cx h w0:=by
            rcases hw0 with ⟨rfl,_⟩ | ⟨rfl,_⟩
            · exact ⟨I,.refl _ _ _⟩
            · have:=I.Dh (w':=w.alloc (.deferred (some []))) (fun _ _=> False) (by simp) (fun c hc=> by show (w.heap.push _)[c]? =_; exact kZ _ _ _ hc) (fun _ _ h=> h.elim)
              rw [Ky] at this
              exact this
          obtain ⟨I0,S0⟩:=h0
          have hpush:=I0.push (w':=w0.alloc (.loop L)) (.loop L) (.loop .ready .none 0 fr.tmps ps.toList (cC P mu me asg) (cC P mu me body)) (some (w0.heap.size,0)) none rfl (fun c base hp=> by cases hp; rfl) (fun c base hp=> by cases hp; rfl)
            (fun κ c base hk => by cases hk) ⟨w0.heap.size,L,by rw [Cx.qpρ]; simp,World.alloc_heap_new w0 _,by rw [l1]; rfl,by rw [l2]; rfl,by rw [l3],by rw [l4]; exact F.tmps.size,fun i hi => by
              have q:=F.tmps.rel i
              rw [yD] at q
              rw [l4]
              have e1:fr.tmps.getD i AV.und=fr.tmps[i]:=by simp [List.getD,hi]
              rw [e1] at q
              exact (q.ext S0.ext).ext (Ext.Ls I0 rfl _ _),by rw [l7]; exact hfun,mu,me,by rw [l5],by rw [l6],by rw [l5]; exact hplain.1,by rw [l6]; exact hplain.2⟩
          obtain ⟨I1,S1⟩:=hpush
          have S01:=S0.trans S1
          have hgv:=(zR F.tmps hxg).ext S01.ext
          have hyv:∀i (hi:i < [AV.fn (.yield h.n) [] []].length),bY (cx.add h.n (some (w0.heap.size,0)) none) (w0.alloc (.loop L)) [AV.fn (.yield h.n) [] []][i] (#[Value.func (.yield w0.heap.size) #[] #[]].getD i undef):=by
            intro i hi
            have:i=0:=by simpa using hi
            subst this
            exact .yld h.n w0.heap.size 0 (by rw [Cx.qpρ]; simp)
          -- the deferred calls
          have F1:AI (cx.add h.n (some (w0.heap.size,0)) none) (h.push (.loop .ready .none 0 fr.tmps ps.toList (cC P mu me asg) (cC P mu me body))) (w0.alloc (.loop L)) s0 fr {a with defers:=mk++a.defers}:=by
            have FF:=F.stp S01
            rcases hw0 with ⟨rfl,rfl⟩ | ⟨rfl,rfl⟩
            · exact FF
            · refine ⟨FF.tmps,.mark _ _ _ ⟨F.le,?_,fun b' ho=> ?_⟩ (fun d hd e=> ?_) FF.defs,FF.le⟩
              · show ((w.heap.push _).push _)[w.heap.size]? =_
                rw [kZ _ _ _ (by simp)]
                simp
              · obtain ⟨b2,ho2⟩:=S1.fr.owns b' _ ho (by simp)
                have := jE.lt I (S0.fr.owns b2 w.heap.size ho2 (by
                  have:=jE.lt I0 ho2
                  simp at this
                  exact absurd (jE.lt I (show jE cx h b2 w.heap.size from ho2)) (Nat.lt_irrefl _))).choose_spec
                omega
              · have:=F.defs.Pn d hd _ e
                omega
          have Pr1:=Pr.next S01.ext (.refl fr.pan cs)
          simp only [C9] at hr
          have enter:Enters P f→∃args':Array Value,args'.size=args.length∧(∀i (hi:i < args.length),bY (cx.add h.n (some (w0.heap.size,0)) none) (w0.alloc (.loop L)) args[i] (args'.getD i undef))∧
              step P (lone (b.atR a (.code (.rangeFunc g ps asg body)::k)) cs w)=
                .next (lone (Frame.enter P f args' .normal) (b.atR {a with defers:=mk++a.defers} (.inRangeFunc w0.heap.size::k)::cs) (w0.alloc (.loop L))):=by
            intro hEn
            obtain ⟨fs,cs',e1,e2,e3⟩:=Js I1 UU hgv (args:= #[.func (.yield w0.heap.size) #[] #[]]) rfl hyv hEn
            refine ⟨fs++ #[.func (.yield w0.heap.size) #[] #[]]++cs',e2,e3,?_⟩
            refine stepR_rangeFunc (w₁':=w0.alloc (.loop L)) (d:={target:= .fn (.func f) cs',args:=fs++ #[.func (.yield w0.heap.size) #[] #[]]}) hent ?_ ?_
            · simp only [resolve]
              rw [e1]
              simp [Deferred.ofValue,Act.eval]
            · simp [invoke,lI hEn]
          split at hr
          · -- it has come back
            rename_i v h1 hcall
            have Pp:Enters P f:=xU hE hcall
            obtain ⟨args',e2,e3,hstep⟩:=enter Pp
            obtain ⟨_,hcs⟩:=hC _ _ _ _ _ _ hcall _ _ args' I1 e2 e3
            obtain ⟨cx2,w2,fr2,I2,S2,hst,hfn,hlv⟩:=hcs (b.atR {a with defers:=mk++a.defers} (.inRangeFunc w0.heap.size::k)::cs)
            rcases hlv with ⟨_,v',hv,hlv⟩ | ⟨_,e,_⟩
            · have hleave:=step_leave_returned (c:=b.atR {a with defers:=mk++a.defers} (.inRangeFunc w0.heap.size::k)) (cs:=cs) hlv
              rw [finish_atR_inRangeFunc] at hleave
              have F2:=F1.stp S2
              simp only [endLoop,lW] at hr
              split at hr
              · rename_i st pd f2 tm2 ps2 Ow IY hg
                obtain ⟨c2,L2,k1,k2,k3,k4,_⟩:=I2.heap h.n _ hg
                have zY:cx2.ρ h.n=some (w0.heap.size,0):=S2.ext.ρ _ _ (by rw [Cx.qpρ]; simp)
                rw [zY] at k1; cases k1
                have fin:st≠ .busy→Inv P [] G cx2 (h1.set h.n (.loop .exhausted pd f2 tm2 ps2 Ow IY)) (w2.putObj w0.heap.size (.loop {L2 with state:= .exhausted}))∧
                    Stp cx2 h1 w2 cx2 (h1.set h.n (.loop .exhausted pd f2 tm2 ps2 Ow IY)) (w2.putObj w0.heap.size (.loop {L2 with state:= .exhausted}))∧
                    step P (lone (b.atR {a with defers:=mk++a.defers} (.endRangeFunc w0.heap.size::k)) cs w2)=
                      .next (lone (b.atR {a with defers:=mk++a.defers} ((pd.of.map Item.code).toList++k)) cs (w2.putObj w0.heap.size (.loop {L2 with state:= .exhausted}))):=by
                  intro CE
                  obtain ⟨q1,q2⟩:=I2.Hr (L':={L2 with state:= .exhausted}) (st':= .exhausted) (pd':=pd) hg zY k2 rfl k4 rfl rfl rfl rfl rfl
                  refine ⟨q1,q2,?_⟩
                  have:=run_endLoop (P:=P) k2 (by rw [k3]; cases st <;> simp [LSt.of] at CE ⊢)
                  rw [←k4]
                  exact stepR_endRangeFunc this
                have done:∀(exx:Ex),st≠ .busy→(∀w3,Arr P (lone (b.atR {a with defers:=mk++a.defers} ((pd.of.map Item.code).toList++k)) cs w3) b k cs cx2 {a with defers:=mk++a.defers} w3 exx)→
                    Out P G s0 cx h w fr.pan b k cs (lone (b.atR a (.code (.rangeFunc g ps asg body)::k)) cs w) exx fr (h1.set h.n (.loop .exhausted pd f2 tm2 ps2 Ow IY)):=by
                  intro exx CE harr
                  obtain ⟨q1,q2,q3⟩:=fin CE
                  exact ⟨cx2,_,_,cs,q1,(S01.trans S2).trans q2,(F2.stp q2).e,.refl _ _,(harr _).of_steps (.head hstep (hst.trans (.head hleave (.one q3))))⟩
                split at hr
                · cases hr
                · rename_i CE
                  have CE:st≠ .busy:=fun e=> CE e
                  split at hr
                  · cases hr
                    exact done .nrm CE (fun w3=> .refl _ _)
                  · cases hr
                    exact done (.exit _) CE (fun w3=> Arr.exit _)
                  · cases hr
                    exact done .ret CE (fun w3=> Arr.ret)
              · cases hr
            · cases e
          · -- it has passed on a panic
            rename_i v0 x h1 hcall
            cases hr
            have Pp:Enters P f:=xU hE hcall
            obtain ⟨args',e2,e3,hstep⟩:=enter Pp
            obtain ⟨_,hcs⟩:=hC _ _ _ _ _ _ hcall _ _ args' I1 e2 e3
            obtain ⟨cx2,w2,fr2,I2,S2,hst,hfn,hlv⟩:=hcs (b.atR {a with defers:=mk++a.defers} (.inRangeFunc w0.heap.size::k)::cs)
            rcases hlv with ⟨e,_⟩ | ⟨v1,e,v',hv,hlv⟩
            · cases e
            · cases e
              have hleave:=step_leave_panicked (c:=b.atR {a with defers:=mk++a.defers} (.inRangeFunc w0.heap.size::k)) (cs:=cs) hlv
              rw [Frame.raise_atR] at hleave
              exact ⟨cx2,w2,_,cs,I2,S01.trans S2,(F1.stp S2).e,.refl _ _,_,v',hv,.head hstep (hst.trans (.one hleave))⟩
          · cases hr
        · cases hr
      · cases hr
    · cases hr
  |label l=> cases hr
  |scope x=> cases hr
  |goto l=> cases hr
  |refuse why=> cases hr
end
end Go.Abs

namespace Go.Abs
section
variable {P : Program} {G : Nat → List DV} {E : Env} {fP : AC → Fr → Heap → Res}

theorem E7 {t:TypeId} {a v:Value} {w:World} (hl:(Instr.loadAt t a).run P w= .ok v w):(do loadVar t (←asAddr a):Sem Value).run P w= .ok v w:=by
 cases a with
 |pointer p=>
  cases p with
  |some a=> simpa [Instr.loadAt,Instr.sureAddr,asAddr] using hl
  |none=> simp [Instr.loadAt,Instr.sureAddr] at hl
 |_=> simp [Instr.loadAt,Instr.sureAddr] at hl

def Hu (tmps:Array Value):ResultVar→Sem Value
 | .tmp t=> pure (tmps.getD t undef)
 | .cell a t=> do loadVar t (←asAddr (tmps.getD a undef))

theorem Pq {cx:Cx} {h:Heap} {w:World} (I:Inv P [] G cx h w) (hg:E.kQ=G) {tm:List AV} {tmps:Array Value} (ht:uF cx w tm tmps):∀(rs:List ResultVar) (l:List AV),
  (∀t ty,ResultVar.cell t ty∈rs→(yw P ty).isSome=true∧(mP P ty).isSome=true)→L_ E h tm (rs.map (cR P))=some l→
  ∃vs:List Value,(rs.mapM (Hu tmps)).run P w= .ok vs w∧vs.length=l.length∧
   ∀i (hi:i < l.length),bY cx w l[i] (vs.getD i undef):=by
 intro rs
 induction rs with
 |nil=> intro l _ hl; cases hl; exact ⟨[],by simp,rfl,fun i hi=> absurd hi (by simp)⟩
 |cons r rs ih=>
  intro l hok hl
  simp only [List.map_cons,L_] at hl
  split at hl
  ·rename_i v hv
   split at hl
   ·rename_i l' hl'
    cases hl
    obtain ⟨vs,h1,h2,h3⟩:=ih l' (fun t ty hm=> hok t ty (List.mem_cons_of_mem _ hm)) hl'
    have hd:∃u,(Hu tmps r).run P w= .ok u w∧bY cx w v u:=by
     cases r with
     |tmp t=> cases hv; exact ⟨_,by simp [Hu],ht.rel t⟩
     |cell t ty=>
      obtain ⟨o1,o2⟩:=hok t ty (by simp)
      obtain ⟨ag,ha⟩:=Option.isSome_iff_exists.1 o1
      obtain ⟨n,hn⟩:=Option.isSome_iff_exists.1 o2
      simp only [cR,resV,ha,hn,Option.getD_some] at hv
      rw [hg] at hv
      obtain ⟨u,u1,u2⟩:=Ck I ha hn (ht.rel t) hv
      exact ⟨u,E7 u1,u2⟩
    obtain ⟨u,u1,u2⟩:=hd
    refine ⟨u::vs,?_,by simp [h2],fun i hi=> ?_⟩
    ·rw [List.mapM_cons]
     simp only [Sem.run_bind,u1,Result.andThen_ok,h1,Sem.run_pure]
    ·cases i with
     |zero=> exact u2
     |succ i=> simpa [List.getD] using h3 i (by simpa using hi)
   ·cases hl
  ·cases hl

theorem DI {cx:Cx} {h:Heap} {w:World} (I:Inv P [] G cx h w) (hg:E.kQ=G) {tm:List AV} {tmps:Array Value} (ht:uF cx w tm tmps) {fn:Func} {v:AV}
  (hok:∀t ty,ResultVar.cell t ty∈fn.results.toList→(yw P ty).isSome=true∧(mP P ty).isSome=true) (hr:results E h tm (fn.results.toList.map (cR P))=some v):
  ∃v',(Go.results fn tmps).run P w= .ok v' w∧bY cx w v v':=by
 unfold results at hr
 have key:∀l,L_ E h tm (fn.results.toList.map (cR P))=some l→∃vs:List Value,(Go.results fn tmps).run P w= .ok (if h:vs.toArray.size=1 then vs.toArray[0] else .tuple vs.toArray) w∧vs.length=l.length∧∀i (hi:i < l.length),bY cx w l[i] (vs.getD i undef):=by
  intro l hl
  obtain ⟨vs,h1,h2,h3⟩:=Pq I hg ht _ l hok hl
  refine ⟨vs,?_,h2,h3⟩
  have e:Go.results fn tmps=(do let vs ←fn.results.mapM (Hu tmps); pure (if h:vs.size=1 then vs[0] else .tuple vs)):=by
   unfold Go.results
   congr 1
  rw [e,Array.mapM_eq_mapM_toList]
  simp only [Sem.run_bind,map_eq_pure_bind,h1,Result.andThen_ok,Sem.run_pure]
 split at hr
 ·rename_i u hl
  cases hr
  obtain ⟨vs,h1,h2,h3⟩:=key _ hl
  have h4:vs.length=1:=h2
  obtain ⟨x,rfl⟩:=List.length_eq_one_iff.1 h4
  exact ⟨x,by simpa using h1,by simpa using h3 0 (by simp)⟩
 ·rename_i l hne hl
  cases hr
  obtain ⟨vs,h1,h2,h3⟩:=key _ hl
  have hne':¬vs.toArray.size=1:=by
   intro e
   have:l.length=1:=by rw [←h2]; simpa using e
   obtain ⟨x,rfl⟩:=List.length_eq_one_iff.1 this
   exact hne x rfl
  rw [dif_neg hne'] at h1
  refine ⟨_,h1,.tup _ _ (by simpa using h2) (fun i hi=> ?_)⟩
  have:=h3 i hi
  simpa [Array.getD_eq_getD_getElem?,List.getD] using this
 ·cases hr

theorem Inv.putObj {cx:Cx} {h:Heap} {w:World} (I:Inv P [] G cx h w) {r:Nat} {ds:Option (List Deferred)} {o:Obj} (hr:w.heap[r]? =some (.deferred ds)) (hno:∀b,¬jE cx h b r):
  Inv P [] G cx h (w.putObj r o)∧Ext cx w cx (w.putObj r o)∧∀{cx0:Cx} {h0:Heap} {w0:World},Stp cx0 h0 w0 cx h w→w0.heap.size≤r→Stp cx0 h0 w0 cx h (w.putObj r o):=by
 have hoth:∀c:Nat,c≠r→(w.putObj r o).heap[c]? =w.heap[c]? :=fun c hc=> World.putObj_heap_other hc
 have znr:∀c o',cx.Z c o'∨cx.B c o'→c≠r:=by
  intro c o' z e
  subst e
  have:=I.sep.zc c o' z
  simp [World.cell?,hr] at this
 have ext : Ext cx w cx (w.putObj r o) := {
  size:=by simp
  ρ:=fun _ _ h=> h
  K:=fun _ κ h=> ⟨κ,h,Nat.le_refl _,fun _=> rfl⟩
  Z:=fun _ _ z=> z
  B:=fun _ _=> Iff.rfl
  cell:=fun c o' z=> cell_of_heap (hoth c (znr c o' z)) o' none
  el:=fun c arr e fz hh=> ⟨arr,fz,by rw [hoth c (fun e'=> by subst e'; rw [hr] at hh; cases hh)]; exact hh,rfl⟩
  lp:=fun c L hh=> ⟨L,by rw [hoth c (fun e'=> by subst e'; rw [hr] at hh; cases hh)]; exact hh⟩
  io:=⟨rfl,rfl⟩}
 refine ⟨⟨fun b x hb=> ?_,?_,fun g i hi=> ?_⟩,ext,fun s hs=> ⟨?_,?_⟩⟩
 ·have hB:=I.heap b x hb
  cases x with
  |cells fr el cs=>
   obtain ⟨c,base,h1,⟨arr,fz,h2,hfz⟩,h3⟩:=hB
   refine tZ.oD ext (fun c2 b2 hr2 _=> ?_) (fun κ _ ⟨g,t,hh⟩=> by cases hh) ⟨c,base,h1,⟨arr,fz,h2,hfz⟩,h3⟩
   rw [h1] at hr2; cases hr2
   exact hoth c (fun e=> by subst e; rw [hr] at h2; cases h2)
  |tok g el=>
   refine tZ.oD ext (fun c2 b2 hr2 hh=> absurd rfl (hh g el)) (fun κ hκ _=> ⟨hκ,fun c2 lX hpl=> hoth c2 (fun e=> ?_)⟩) hB
   subst e
   exact hno b (.tok g el κ lX hb hκ hpl)
  |dead=> trivial
  |map es=> exact tZ.oD ext (fun c2 b2 hr2 _=> hoth c2 (fun e=> by subst e; exact hno b (.blk _ b2 hb rfl (fun _ _=> by simp) hr2))) (fun κ _ ⟨g,t,hh⟩=> by cases hh) hB
  |loop st pend f tmps ps asg body=> exact tZ.oD ext (fun c2 b2 hr2 _=> hoth c2 (fun e=> by subst e; exact hno b (.blk _ b2 hb rfl (fun _ _=> by simp) hr2))) (fun κ _ ⟨g,t,hh⟩=> by cases hh) hB
  |sit s pos=> exact tZ.oD ext (fun c2 b2 hr2 _=> hoth c2 (fun e=> by subst e; exact hno b (.blk _ b2 hb rfl (fun _ _=> by simp) hr2))) (fun κ _ ⟨g,t,hh⟩=> by cases hh) hB
 ·exact {
   inj:=I.sep.inj
   nof:=I.sep.nof
   p9:=I.sep.p9
   base0:=I.sep.base0
   lt:=fun b c base hr=> by simpa using I.sep.lt b c base hr
   ltK:=fun b κ c base hr hpl=> by simpa using I.sep.ltK b κ c base hr hpl
   new:=I.sep.new
   zc:=fun c o' z=> by rw [cell_of_heap (hoth c (znr c o' z))]; exact I.sep.zc c o' z}
 ·obtain ⟨v,v1,v2,v3⟩:=I.kQ g i hi
  exact ⟨v,by rw [cell_of_heap (hoth g (znr g i (.inl v2)))]; exact v1,v2,v3.ext ext⟩
 ·exact s.ext.trans ext
 ·exact ⟨fun c hc hn=> by rw [hoth c (by omega)]; exact s.fr.kept c hc hn,s.fr.owns,s.fr.z,s.fr.hn,s.fr.dd,s.fr.rr⟩

def FO (cx:Cx) (w:World):Option AV→FrameMode→Prop
 |none,u=> u= .returning
 |some v,u=> ∃v',u= .panicking [{v:=v',recovered:=false}]∧bY cx w v v'

theorem FO.ext {cx cx':Cx} {w w':World} {p:Option AV} {u:FrameMode} (e:Ext cx w cx' w') (m:FO cx w p u):FO cx' w' p u:=by
 cases p with
 |none=> exact m
 |some v=> obtain ⟨v',h1,h2⟩:=m; exact ⟨v',h1,h2.ext e⟩

theorem FO.run {cx:Cx} {w:World} {p:Option AV} {u:FrameMode} (m:FO cx w p u):u≠ .run:=by
 cases p with
 |none=> rw [show u= .returning from m]; simp
 |some v=> obtain ⟨v',h1,_⟩:=m; rw [h1]; simp

theorem DJ {cx0:Cx} {h0:Heap} {w0:World} {s0:Nat} (hs0:s0=w0.heap.size):∀(ds:List Deferred) (cx:Cx) (h:Heap) (w:World),lJ cx h w s0 [] ds→Inv P [] G cx h w→Stp cx0 h0 w0 cx h w→
  ∀(fr:Frame) (cs:List Frame),fr.mode≠ .run→fr.defers=ds→
  ∃w',Inv P [] G cx h w'∧Stp cx0 h0 w0 cx h w'∧Ext cx w cx w'∧Steps P (lone fr cs w) (lone {fr with defers:=[]} cs w'):=by
 intro ds
 induction ds with
 |nil=>
  intro cx h w _ I S fr cs _ hd
  refine ⟨w,I,S,.refl _ _,?_⟩
  have:({fr with defers:=[]}:Frame)=fr:=by cases fr; cases hd; rfl
  rw [this]
  exact .refl _ _
 |cons d ds ih=>
  intro cx h w hdr I S fr cs hm hd
  cases hdr with
  |mark r _ _ hmk hn hrest=>
   obtain ⟨m1,m2,m3⟩:=hmk
   obtain ⟨p1,p2,p3⟩:=I.putObj (o:= .deferred none) m2 m3
   have hstep:=step_collected (cs:=cs) hm hd rfl (run_takeDeferred (P:=P) m2)
   have hrest':lJ cx h (w.putObj r (.deferred none)) s0 [] ds:=by
    have gen:∀(fs:List (AV×List AV)) (ds:List Deferred),lJ cx h w s0 fs ds→(∀d∈ds,d.target≠ .collected r)→lJ cx h (w.putObj r (.deferred none)) s0 fs ds:=by
     intro fs ds hdr
     induction hdr with
     |nil=> intro _; exact .nil
     |mark r' fs ds hm' hn' _ ih2=>
      intro hne
      refine .mark r' fs ds ⟨hm'.1,?_,hm'.2.2⟩ hn' (ih2 (fun d hd=> hne d (List.mem_cons_of_mem _ hd)))
      rw [World.putObj_heap_other]
      ·exact hm'.2.1
      ·intro e; subst e; exact hne {target:= .collected r',args:= #[]} (by simp) rfl
     |call f args g fs' cs' args' fs ds hf hl ha _ ih2=>
      intro hne
      exact .call f args g fs' cs' args' fs ds (hf.ext p2) hl (fun i hi=> (ha i hi).ext p2) (ih2 (fun d hd=> hne d (List.mem_cons_of_mem _ hd)))
    exact gen [] ds hrest hn
   obtain ⟨w',q1,q2,q3,q4⟩:=ih cx h _ hrest' p1 (p3 S (by omega)) {fr with defers:=[]++ds} cs hm rfl
   exact ⟨w',q1,q2,p2.trans q3,.head hstep q4⟩
end
end Go.Abs

namespace Go.Abs
section
variable {P : Program} {G : Nat → List DV} {E : Env} {fP : AC → Fr → Heap → Res}

theorem UW (n:Nat):rep n=List.replicate n .und:=by
 induction n with
 |zero=> rfl
 |succ n ih=> show AV.und::rep n=_; rw [ih]; rfl

theorem MY {cx:Cx} {w:World} {n:Nat} {args:List AV} {args':Array Value} (hl:args'.size=args.length) (hr:∀i (hi:i < args.length),bY cx w args[i] (args'.getD i undef)):
  uF cx w (enterT n args) (args'++Array.replicate (n - args'.size) undef):=by
 unfold enterT
 rw [UW,hl]
 refine ⟨by simp [hl],fun t=> ?_⟩
 rw [yD]
 by_cases h1:t < args.length
 ·have e1:(args++List.replicate (n - args.length) AV.und).getD t .und=args[t]:=by simp [List.getD,List.getElem?_append_left h1,h1]
  have h1':t < args'.size:=by omega
  have e2:(args'++Array.replicate (n - args.length) undef).getD t undef=args'.getD t undef:=by
   simp [Array.getD_eq_getD_getElem?,Array.getElem?_append_left h1']
  rw [e1,e2]
  exact hr t h1
 ·have e1:(args++List.replicate (n - args.length) AV.und).getD t .und= .und:=by
   simp only [List.getD,List.getElem?_append_right (Nat.le_of_not_lt h1),List.getElem?_replicate]
   split <;> rfl
  have e2:(args'++Array.replicate (n - args.length) undef).getD t undef=undef:=by
   have h1':args'.size≤t:=by omega
   simp only [Array.getD_eq_getD_getElem?,Array.getElem?_append_right h1',Array.getElem?_replicate]
   split <;> rfl
  rw [e1,e2]
  exact .und

def LH:Ex→Option (Option AV)
 | .nrm | .ret=> some none
 | .pan v=> some (some v)
 | .exit _=> none

theorem E8 (hS:Snd P G fP) {mu:List String} {f:FuncId} {fn:Func} {c:Code} (hf:P.funcs[f]? =some fn) (hb:fn.body=some c) {args:List AV} {p:Option AV} {h h1:Heap} {ex:Ex} {fr1:Fr}
  (hr:fP (cC P mu fn.name c) ⟨enterT fn.ntmps args,[],p⟩ h=some (ex,fr1,h1)) {q:Option AV} (hq:LH ex=some q) {cx:Cx} {w:World} {args':Array Value} (I:Inv P [] G cx h w) (hl:args'.size=args.length)
  (ha:∀i (hi:i < args.length),bY cx w args[i] (args'.getD i undef)) {kd:CallKind} {cs:List Frame} (hp:z8 cx w {(default:Frame) with fn:=f,kind:=kd,roundOf:=none} cs p):
  ∃cx1 w1 cs1 frX,Inv P [] G cx1 h1 w1∧Stp cx h w cx1 h1 w1∧zq p cs fr1.pan cs1∧Steps P (lone (Frame.enter P f args' kd) cs w) (lone frX cs1 w1)∧frX.fn=f∧frX.kind=kd∧frX.roundOf=none∧(uF cx1 w1 fr1.tmps frX.tmps∨((∃v,ex= .pan v)∧fr1.tmps=[]))∧
   lJ cx1 h1 w1 w.heap.size fr1.defs frX.defers∧FO cx1 w1 q frX.mode:=by
 let b:Frame:={(default:Frame) with fn:=f,kind:=kd,roundOf:=none}
 have henter:Frame.enter P f args' kd=b.atR {tmps:=args'++Array.replicate (fn.ntmps - args'.size) undef,defers:=[]} [.code c]:=by
  simp [Frame.enter,Frame.atR,hf,hb,b]
 have F:AI cx h w w.heap.size ⟨enterT fn.ntmps args,[],p⟩ {tmps:=args'++Array.replicate (fn.ntmps - args'.size) undef,defers:=[]}:=⟨MY hl ha,.nil,Nat.le_refl _⟩
 obtain ⟨⟨cx1,w1,a1,cs1,I1,S1,F1,C1,A1⟩,_⟩:=hS mu fn.name c _ _ _ _ _ hr cx w _ w.heap.size b [] cs I F hp (fun hh=> by simp [b] at hh) (fun l hh=> by simp [b] at hh) (by simp [b,hf])
 rw [←henter] at A1
 cases ex with
 |nrm=>
  cases hq
  exact ⟨cx1,w1,cs1,{b.atR a1 [] with mode:= .returning},I1,S1,C1,Steps.trans A1 (.one (stepR_end rfl)),rfl,rfl,rfl,F1.tmps,F1.defs,rfl⟩
 |ret=>
  cases hq
  obtain ⟨todo,hst⟩:=A1.1 rfl
  exact ⟨cx1,w1,cs1,{b.atR a1 todo with mode:= .returning},I1,S1,C1,hst,rfl,rfl,rfl,F1.tmps,F1.defs,rfl⟩
 |pan v=>
  cases hq
  obtain ⟨todo,v',hv,hst⟩:=A1
  exact ⟨cx1,w1,cs1,{b.atR a1 todo with mode:= .panicking [{v:=v',recovered:=false}]},I1,S1,C1,hst,rfl,rfl,rfl,F1.tmps,F1.defs,v',rfl,hv⟩
 |exit id=> cases hq

def Hw (E:Env) (fP:AC→Fr→Heap→Res) (g:FuncId) (l:List AV) (p:Option AV) (h:Heap):Option (Ex×AV×Heap×Option AV):=match E.fn g with
 |none=> none
 |some gn=> match fP gn.body ⟨enterT gn.ntmps l,[],p⟩ h with
  |some (ex,fr,h2)=> match fr.defs,ex with
   |[],.nrm | [],.ret=> match results E h2 fr.tmps gn.results with
    |some v=> some (.nrm,v,h2,fr.pan)
    |none=> none
   |_,_=> none
  |none=> none

theorem Kz {g:FuncId} {l:List AV} {p:Option AV} {h:Heap} {r} (hd:Hw E fP g l p h=some r):∃gn ex fr h2 v,E.fn g=some gn∧fP gn.body ⟨enterT gn.ntmps l,[],p⟩ h=some (ex,fr,h2)∧fr.defs=[]∧LH ex=some none∧
  results E h2 fr.tmps gn.results=some v∧r=(.nrm,v,h2,fr.pan):=by
 unfold Hw at hd
 split at hd
 ·cases hd
 ·rename_i gn hg
  split at hd
  ·rename_i ex fr h2 hr
   split at hd
   ·rename_i h3
    split at hd
    ·rename_i v hv
     cases hd
     exact ⟨gn,.nrm,fr,h2,v,hg,hr,h3,rfl,hv,rfl⟩
    ·cases hd
   ·rename_i h3
    split at hd
    ·rename_i v hv
     cases hd
     exact ⟨gn,.ret,fr,h2,v,hg,hr,h3,rfl,hv,rfl⟩
    ·cases hd
   ·cases hd
  ·cases hd

theorem Jt {cx:Cx} {w:World} {p p':Option AV} {c:Frame} {cs cs':List Frame} (hm:FO cx w p c.mode) (hc:zq p (c::cs) p' cs'):∃c',cs'=c'::cs∧{c' with mode:=settle c'.mode}=({c with mode:=settle c'.mode}:Frame)∧FO cx w p' (settle c'.mode):=by
 rcases hc with ⟨rfl,rfl⟩ | ⟨v,c2,rest,v',older,e1,e2,e3,e4,e5⟩
 ·refine ⟨c,rfl,rfl,?_⟩
  cases p' with
  |none=>
   have:c.mode= .returning:=hm
   rw [this]; rfl
  |some v=>
   obtain ⟨v',h1,h2⟩:=hm
   rw [h1]
   exact ⟨v',rfl,h2⟩
 ·cases e3
  subst e1; subst e2
  obtain ⟨v2,h1,h2⟩:=hm
  rw [h1] at e4
  cases e4
  refine ⟨_,e5,rfl,?_⟩
  show settle (.panicking [{v:=v',recovered:=true}])= .returning
  rfl

theorem KA (hE:EOk P G E) (hS:Snd P G fP) {cx0:Cx} {h0:Heap} {w0:World} {s0:Nat} (hs0:s0=w0.heap.size):∀(ds:List Deferred) (fs:List (AV×List AV)) (cx:Cx) (h:Heap) (w:World) (p p':Option AV) (h':Heap),
  lJ cx h w s0 fs ds→vY (Hw E fP) fs p h=some (p',h')→Inv P [] G cx h w→Stp cx0 h0 w0 cx h w→∀(fr:Frame) (cs:List Frame),FO cx w p fr.mode→fr.defers=ds→
  ∃cx' w' u,Inv P [] G cx' h' w'∧Stp cx0 h0 w0 cx' h' w'∧Ext cx w cx' w'∧FO cx' w' p' u∧Steps P (lone fr cs w) (lone {fr with defers:=[],mode:=u} cs w'):=by
 intro ds
 induction ds with
 |nil=>
  intro fs cx h w p p' h' hdr hrun I S fr cs hm hd
  cases hdr
  cases hrun
  refine ⟨cx,w,fr.mode,I,S,.refl _ _,hm,?_⟩
  have:({fr with defers:=[],mode:=fr.mode}:Frame)=fr:=by cases fr; cases hd; rfl
  rw [this]
  exact .refl _ _
 |cons d ds ih=>
  intro fs cx h w p p' h' hdr hrun I S fr cs hm hd
  cases hdr with
  |mark r _ _ hmk hn hrest=>
   obtain ⟨m1,m2,m3⟩:=hmk
   obtain ⟨p1,p2,p3⟩:=I.putObj (o:= .deferred none) m2 m3
   have hstep:=step_collected (cs:=cs) hm.run hd rfl (run_takeDeferred (P:=P) m2)
   have hrest':lJ cx h (w.putObj r (.deferred none)) s0 fs ds:=by
    have gen:∀(fs:List (AV×List AV)) (ds:List Deferred),lJ cx h w s0 fs ds→(∀d∈ds,d.target≠ .collected r)→lJ cx h (w.putObj r (.deferred none)) s0 fs ds:=by
     intro fs ds hdr
     induction hdr with
     |nil=> intro _; exact .nil
     |mark r' fs ds hm' hn' _ ih2=>
      intro hne
      refine .mark r' fs ds ⟨hm'.1,?_,hm'.2.2⟩ hn' (ih2 (fun d hd=> hne d (List.mem_cons_of_mem _ hd)))
      rw [World.putObj_heap_other]
      ·exact hm'.2.1
      ·intro e; subst e; exact hne {target:= .collected r',args:= #[]} (by simp) rfl
     |call f args g fs' cs' args' fs ds hf hl ha _ ih2=>
      intro hne
      exact .call f args g fs' cs' args' fs ds (hf.ext p2) hl (fun i hi=> (ha i hi).ext p2) (ih2 (fun d hd=> hne d (List.mem_cons_of_mem _ hd)))
    exact gen fs ds hrest hn
   obtain ⟨cx',w',u,q1,q2,q3,q4,q5⟩:=ih fs cx h _ p p' h' hrest' hrun p1 (p3 S (by omega)) {fr with defers:=[]++ds} cs (hm.ext p2) rfl
   exact ⟨cx',w',u,q1,q2,p2.trans q3,q4,.head hstep q5⟩
  |call f args g fs' cs' args' fs2 _ hf hl ha hrest=>
   simp only [vY] at hrun
   split at hrun
   ·rename_i gid l UU
    split at hrun
    ·rename_i v1 h1 p1 hcall
     obtain ⟨gn,ex,frg,h2,v2,e1,e2,e3,e4,e5,e6⟩:=Kz hcall
     cases e6
     obtain ⟨fn,mu,extra,hfn,hcf⟩:=hE.fn _ _ e1
     obtain ⟨c,hbody,hname,hnt,hres,hbd,hok⟩:=Ht hcf
     have hEn:Enters P gid:=⟨fn,c,hfn,hbody,hname⟩
     obtain ⟨fs0,cs0,q1,q2,q3⟩:=Js I UU hf hl ha hEn
     cases q1
     have hinv:(invoke (.fn (.func gid) cs') (fs'++args')).run P w= .ok (.enter gid (fs'++args'++cs')) w:=by
      simp [invoke,lI hEn]
     have hstep:=step_defer (P:=P) (cs:=cs) (w:=w) hm.run hd rfl hinv
     rw [hbd,hnt] at e2
     have hPR:z8 cx w {(default:Frame) with fn:=gid,kind:= .deferred,roundOf:=none} ({fr with defers:=ds}::cs) p:=by
      cases p with
      |none=>
       intro fr0 hk
       have hmode:fr.mode= .returning:=hm
       have hk':fr0.kind= .deferred:=hk
       simp [tryRecover,hk',hmode]
      |some v=>
       obtain ⟨v',hm1,hm2⟩:=hm
       exact ⟨rfl,rfl,{fr with defers:=ds},cs,v',[],rfl,hm1,hm2⟩
     obtain ⟨cx1,w1,cs1,frX,I1,S1,C1,st1,x1,x2,x3,T1,D1,M1⟩:=E8 hS hfn hbody e2 e4 I q2 q3 hPR
     rw [e3] at D1
     obtain ⟨w2,I2,S2,X2,st2⟩:=DJ (s0:=w.heap.size) rfl _ cx1 h1 w1 D1 I1 S1 frX cs1 M1.run rfl
     have T2:=(T1.elim id fun ⟨⟨v,e⟩,_⟩=> by subst e; cases e4).ext X2
     rw [hres] at e5
     obtain ⟨v',r1,r2⟩:=DI I2 hE.kQ T2 hok e5
     have UX:frX.mode= .returning:=M1
     have hgo:({frX with defers:=[]}:Frame).going P w2 (.returned v'):=⟨UX,rfl,fn,by rw [x1]; exact hfn,r1⟩
     obtain ⟨c',hc1,hc2,hc3⟩:=Jt (c:={fr with defers:=ds}) (hm.ext (S1.ext.trans X2)) C1
     subst hc1
     have hret:=step_going_returned (cs:=cs) (c:=c') (show ({frX with defers:=[]}:Frame).kind= .deferred from x2) hgo
     rw [hc2] at hret
     have S02:=S.trans S2
     have hrest':lJ cx1 h1 w2 s0 fs2 ds:=hrest.stp S2
     obtain ⟨cx',w',u,y1,y2,y3,y4,y5⟩:=ih fs2 cx1 h1 w2 _ p' h' hrest' hrun I2 S02 {fr with defers:=ds,mode:=settle c'.mode} cs hc3 rfl
     exact ⟨cx',w',u,y1,y2,S2.ext.trans y3,y4,.head hstep (st1.trans (st2.trans (.head hret y5)))⟩
    ·cases hrun
   ·cases hrun

theorem MZ {f:FuncId} {args:List AV} {p:Option AV} {h:Heap} {r} (hc:qZ E fP f args p h=some r):∃fn ex fr h1 q p1 h2,E.fn f=some fn∧fP fn.body ⟨enterT fn.ntmps args,[],p⟩ h=some (ex,fr,h1)∧LH ex=some q∧
  vY (Hw E fP) fr.defs q h1=some (p1,h2)∧((p1=none∧K8 ex fr.tmps=false∧∃v,results E h2 fr.tmps fn.results=some v∧r=(.nrm,v,h2,fr.pan))∨∃v,p1=some v∧r=(.pan v,.und,h2,fr.pan)):=by
 unfold qZ at hc
 split at hc
 ·cases hc
 ·rename_i fn hf
  split at hc
  ·rename_i ex fr h1 hr
   split at hc
   ·rename_i hds
    split at hc
    ·split at hc
     ·rename_i v hv
      cases hc
      exact ⟨fn,.nrm,fr,h1,none,none,h1,hf,hr,rfl,by rw [hds]; rfl,.inl ⟨rfl,rfl,v,hv,rfl⟩⟩
     ·cases hc
    ·split at hc
     ·rename_i v hv
      cases hc
      exact ⟨fn,.ret,fr,h1,none,none,h1,hf,hr,rfl,by rw [hds]; rfl,.inl ⟨rfl,rfl,v,hv,rfl⟩⟩
     ·cases hc
    ·rename_i v
     cases hc
     exact ⟨fn,.pan v,fr,h1,some v,some v,h1,hf,hr,rfl,by rw [hds]; rfl,.inr ⟨v,rfl,rfl⟩⟩
    ·cases hc
   ·have hq:∀q,(match ex with | .nrm | .ret=> some none | .pan v=> some (some v) | .exit _=> none)=some q→LH ex=some q:=by
     intro q hq; cases ex <;> exact hq
    split at hc
    ·cases hc
    ·rename_i q hq'
     have hq':=hq _ hq'
     split at hc
     ·rename_i h2 hrd
      split at hc
      ·cases hc
      ·rename_i hl
       split at hc
       ·rename_i v hv
        cases hc
        exact ⟨fn,ex,fr,h1,q,none,h2,hf,hr,hq',hrd,.inl ⟨rfl,hl,v,hv,rfl⟩⟩
       ·cases hc
     ·rename_i v h2 hrd
      cases hc
      exact ⟨fn,ex,fr,h1,q,some v,h2,hf,hr,hq',hrd,.inr ⟨v,rfl,rfl⟩⟩
     ·cases hc
  ·cases hc

theorem z_ (hE:EOk P G E) (hS:Snd P G fP) {f:FuncId} {args:List AV} {h h':Heap} {ex:Ex} {v:AV} {pp:Option AV} (hc:qZ E fP f args none h=some (ex,v,h',pp)) {cx:Cx} {w:World} {args':Array Value} (I:Inv P [] G cx h w)
  (hl:args'.size=args.length) (ha:∀i (hi:i < args.length),bY cx w args[i] (args'.getD i undef)) (cs:List Frame):∃cx' w' fr,Inv P [] G cx' h' w'∧Stp cx h w cx' h' w'∧
   Steps P (lone (Frame.enter P f args' .normal) cs w) (lone fr cs w')∧fr.fn=f∧
   ((ex= .nrm∧∃v',bY cx' w' v v'∧fr.leaving P w' (.returned v'))∨∃v0,ex= .pan v0∧∃v',bY cx' w' v0 v'∧fr.leaving P w' (.panicked [{v:=v',recovered:=false}])):=by
 obtain ⟨fn',ex1,fr1,h1,q,p1,h2,e1,e2,e3,e4,e5⟩:=MZ hc
 obtain ⟨fn,mu,extra,hfn,hcf⟩:=hE.fn _ _ e1
 obtain ⟨c,hbody,hname,hnt,hres,hbd,hok⟩:=Ht hcf
 rw [hbd,hnt] at e2
 obtain ⟨cx1,w1,cs1,frX,I1,S1,C1,st1,x1,x2,x3,T1,D1,M1⟩:=E8 (kd:= .normal) (cs:=cs) hS hfn hbody e2 e3 I hl ha (fun fr hk=> yG hk cs)
 have hcs:cs1=cs:=by
  rcases C1 with ⟨_,e⟩ | ⟨v,_,_,_,_,e,_⟩
  ·exact e
  ·cases e
 subst hcs
 obtain ⟨cx2,w2,u,I2,S2,X2,M2,st2⟩:=KA hE hS rfl _ _ cx1 h1 w1 _ _ _ D1 e4 I1 S1 frX cs1 M1 rfl
 rcases e5 with ⟨rfl,hlo,v2,hv2,hr⟩ | ⟨v2,rfl,hr⟩
 ·cases hr
  have hu:u= .returning:=M2
  subst hu
  rw [hres] at hv2
  obtain ⟨v',r1,r2⟩:=DI I2 hE.kQ ((T1.elim id fun ⟨⟨v,e⟩,e'⟩=> by rw [e,e'] at hlo; cases hlo).ext X2) hok hv2
  exact ⟨cx2,w2,_,I2,S2,st1.trans st2,x1,.inl ⟨rfl,v',r2,rfl,rfl,x2,fn,by show P.funcs[frX.fn]? =_; rw [x1]; exact hfn,r1⟩⟩
 ·cases hr
  obtain ⟨v',hu,hv⟩:=M2
  subst hu
  exact ⟨cx2,w2,_,I2,S2,st1.trans st2,x1,.inr ⟨v2,rfl,v',hv,rfl,rfl,fn,by show P.funcs[frX.fn]? =_; rw [x1]; exact hfn⟩⟩
end
end Go.Abs

namespace Go.Abs
section
variable {P : Program} {G : Nat → List DV} {E : Env} {fP : AC → Fr → Heap → Res}

theorem Pt {cx:Cx} {w:World}:∀(ps:List Nat) (args:List AV) (args':List Value) (tm tm':List AV) (tmps:Array Value),Re ps args tm=some tm'→args'.length=args.length→(∀i (hi:i < args.length),bY cx w args[i] (args'.getD i undef))→
    uF cx w tm tmps→ps.length=args.length∧uF cx w tm' ((ps.zip args').foldl (fun t (x:Nat×Value)=> t.setIfInBounds x.1 x.2) tmps):=by
  intro ps
  induction ps with
  |nil=>
    intro args args' tm tm' tmps h hl ha ht
    cases args with
    |nil=> cases h; exact ⟨rfl,by simpa using ht⟩
    |cons a r=> cases h
  |cons p ps ih=>
    intro args args' tm tm' tmps h hl ha ht
    cases args with
    |nil=> cases h
    |cons a r=>
      cases args' with
      |nil=> simp at hl
      |cons v r'=>
        have h0:=ha 0 (by simp)
        obtain ⟨e1,e2⟩ := ih r r' _ tm' _ h (by simpa using hl) (fun i hi => by
          have h2:r'.getD i undef=(v::r').getD (i+1) undef:=by simp [List.getD]
          rw [h2]; exact ha (i+1) (by simpa using hi)) (ht.set p h0)
        exact ⟨by simp [e1],by simpa using e2⟩

theorem M0 (ps:Array Nat) (args:Array Value) (tmps:Array Value):(ps.zip args).foldl (fun tmps (t,a)=> tmps.setIfInBounds t a) tmps=(ps.toList.zip args.toList).foldl (fun t (x:Nat×Value)=> t.setIfInBounds x.1 x.2) tmps:=by
 rw [←Array.foldl_toList]
 simp

theorem Ju (_hE:EOk P G E) (hS:Snd P G fP):xR P G fP:=by
  intro l args h ex v h' hr cx w args' I hl ha c L zY hL
  unfold round at hr
  split at hr
  · rename_i pd f tmps ps asg body hg
    split at hr
    · rename_i tm htm
      obtain ⟨c2,L2,k1,k2,k3,k4,k5,k6,k7,kf,mu',nm,kc1,kc2,kp1,kp2⟩:=I.heap l _ hg
      rw [zY] at k1; cases k1
      rw [hL] at k2; cases k2
      have hT : uF cx w tmps L.tmps := ⟨k6,fun t => by
        rw [yD]
        by_cases ht:t < tmps.length
        · have e1:tmps.getD t AV.und=tmps[t]:=by simp [List.getD,ht]
          rw [e1]; exact k7 t ht
        · have e1:tmps.getD t AV.und= .und:=by simp [List.getD,ht]
          have e2:L.tmps.getD t undef=undef:=by simp [Array.getD_eq_getD_getElem?,show ¬t < L.tmps.size by omega]
          rw [e1,e2]; exact .und⟩
      obtain ⟨pl,hT2⟩ := Pt ps args args'.toList tmps tm L.tmps htm (by simpa using hl) (fun i hi => by
        have:=ha i hi
        simpa [Array.getD_eq_getD_getElem?,List.getD] using this) hT
      have hsz:args'.size=L.params.size:=by
        have:L.params.toList.length=ps.length:=by rw [k5]
        simp at this; omega
      refine ⟨hsz,fun fr0 cs=> ?_⟩
      have acL:(L.params.zip args').foldl (fun tmps (t,a)=> tmps.setIfInBounds t a) L.tmps=(ps.zip args'.toList).foldl (fun t (x:Nat×Value)=> t.setIfInBounds x.1 x.2) L.tmps:=by
        rw [M0,k5]
      rw [←acL] at hT2
      generalize (L.params.zip args').foldl (fun tmps (t,a)=> tmps.setIfInBounds t a) L.tmps=Jv at hT2 ⊢
      let b:Frame:={(default:Frame) with fn:=L.fn,kind:= .normal,roundOf:=some c}
      have wR:Frame.round c L.fn Jv L.assign L.body .normal=b.atR ⟨Jv,[]⟩ [.code L.assign,.beginRound,.code L.body]:=rfl
      rw [wR]
      have hcs:∀{pan:Option AV} {cs1:List Frame},zq none (fr0::cs) pan cs1→pan=none∧cs1=fr0::cs:=by
        intro pan cs1 hc
        rcases hc with ⟨e1,e2⟩ | ⟨v,_,_,_,_,e,_⟩
        · exact ⟨e1,e2⟩
        · cases e
      have hPR:∀{cx:Cx} {w:World},z8 cx w b (fr0::cs) none:=fun fr hk=> yG hk _
      have F0:AI cx h w w.heap.size ⟨tm,[],none⟩ ⟨Jv,[]⟩:=⟨hT2,.nil,Nat.le_refl _⟩
      unfold AR at hr
      split at hr
      · rename_i fr1 h1 aa5
        rw [←kc1] at aa5
        obtain ⟨⟨cx1,w1,a1,cs1,I1,S1,F1,C1,A1⟩,-⟩:=hS mu' nm L.assign _ _ _ _ _ aa5 cx w ⟨Jv,[]⟩ w.heap.size b [.beginRound,.code L.body] (fr0::cs) I F0 hPR (fun _=> kp1) (fun l0 hl0=> by cases hl0; exact ⟨L,hL⟩) kf
        obtain ⟨hp1,rfl⟩:=hcs C1
        split at hr
        · rename_i pd1 f1 tm1 ps1 acM aa6 hg1
          obtain ⟨c1,L1,j1,j2,j3,j4,j5,j6,j7,j8⟩:=I1.heap l _ hg1
          have Pv:=S1.ext.ρ _ _ zY
          rw [Pv] at j1; cases j1
          have UY:=stepR_beginRound (P:=P) (b:=b) (a:=a1) (k:=[.code L.body]) (cs:=fr0::cs) (w:=w1) rfl (run_beginRound (P:=P) j2 j3)
          obtain ⟨I2,S2⟩:=I1.Hr (L':={L1 with state:= .busy}) (st':= .busy) (pd':=pd1) hg1 Pv j2 rfl j4 rfl rfl rfl rfl rfl
          have S12:=S1.trans S2
          have F2:=(F1.f (fun _ e=> by cases e)).stp S2
          cases hbody:fP body fr1 (h1.set l (.loop .busy pd1 f1 tm1 ps1 acM aa6)) with
          |none=> rw [hbody] at hr; cases hr
          |some res=>
            obtain ⟨ex2,fr2,h2⟩:=res
            rw [hbody] at hr
            rw [←kc2] at hbody
            have Pr2:z8 cx1 (w1.putObj c (.loop {L1 with state:= .busy})) b (fr0::cs) fr1.pan:=by rw [hp1]; exact hPR
            obtain ⟨⟨cx3,w3,a3,cs3,I3,S3,F3,C3,A3⟩,-⟩:=hS mu' nm L.body _ _ _ _ _ hbody cx1 _ a1 w.heap.size b [] (fr0::cs) I2 F2 Pr2 (fun _=> kp2)
              (fun l0 hl0=> by cases hl0; exact ⟨_,World.putObj_heap_same (Array.getElem?_eq_some_iff.1 j2).1⟩) kf
            rw [hp1] at C3
            obtain ⟨hp3,rfl⟩:=hcs C3
            have S13:=S12.trans S3
            have SS:=S3.ext.ρ _ _ Pv
            have pre:Steps P (lone (b.atR ⟨Jv,[]⟩ [.code L.assign,.beginRound,.code L.body]) (fr0::cs) w) (lone (b.atR a1 [.code L.body]) (fr0::cs) (w1.putObj c (.loop {L1 with state:= .busy}))):=
              Steps.trans A1 (.one UY)
            have fin:∀(pd':Mt) (st':LSt) (jump:Option Code),pd'.of=jump→st'.of=(if jump.isNone then .ready else .done)→∀st4 pd4 f4 tm4 ps4 RZ LJ,h2.get l=some (.loop st4 pd4 f4 tm4 ps4 RZ LJ)→
                ∃w4,(Instr.endRound c jump).run P w3= .ok (.bool jump.isNone) w4∧Inv P [] G cx3 (h2.set l (.loop st' pd' f4 tm4 ps4 RZ LJ)) w4∧Stp cx h w cx3 (h2.set l (.loop st' pd' f4 tm4 ps4 RZ LJ)) w4:=by
              intro pd' st' jump hpd hst st4 pd4 f4 tm4 ps4 RZ LJ hg4
              obtain ⟨c4,L4,i1,i2,_⟩:=I3.heap l _ hg4
              rw [SS] at i1; cases i1
              obtain ⟨q1,q2⟩:=I3.Hr (L':={L4 with state:=if jump.isNone then .ready else .done,pending:=jump}) (st':=st') (pd':=pd') hg4 SS i2 hst.symm hpd.symm rfl rfl rfl rfl rfl
              exact ⟨_,run_endRound jump i2,q1,S13.trans q2⟩
            simp only [endRound] at hr
            split at hr
            · rename_i hds
              split at hr
              · -- a panic
                rename_i v0
                cases hr
                obtain ⟨todo,v',hv,hst⟩:=A3
                have D3:=F3.defs
                rw [hds] at D3
                obtain ⟨w4,I4,S4,X4,st4⟩:=DJ (cx0:=cx) (h0:=h) (w0:=w) rfl _ cx3 _ w3 D3 I3 S13 {b.atR a3 todo with mode:= .panicking [{v:=v',recovered:=false}]} (fr0::cs) (by simp) rfl
                obtain ⟨fnn,acN⟩:=Option.isSome_iff_exists.1 kf
                have hleave:=step_leave_panicked (P:=P) (c:=fr0) (cs:=cs) (w:=w4) (fr:={{b.atR a3 todo with mode:= .panicking [{v:=v',recovered:=false}]} with defers:=[]}) (chain:=[{v:=v',recovered:=false}]) ⟨rfl,rfl,fnn,acN⟩
                exact ⟨cx3,w4,I4,S4,.inr ⟨v0,rfl,v',hv.ext X4,pre.trans (hst.trans (st4.trans (.one hleave)))⟩⟩
              · split at hr
                · rename_i hg4
                  cases hr
                  obtain ⟨w4,r4,I4,S4⟩:=fin .none .ready none rfl rfl _ _ _ _ _ _ _ hg4
                  exact ⟨cx3,w4,I4,S4,.inl ⟨rfl,_,.d _ _ (.b true),pre.trans (Steps.trans A3 (.one (stepR_round_end rfl rfl r4)))⟩⟩
                · cases hr
              · split at hr
                · rename_i hg4
                  cases hr
                  obtain ⟨w4,r4,I4,S4⟩:=fin .ret .done (some .ret) rfl rfl _ _ _ _ _ _ _ hg4
                  obtain ⟨k1,hst⟩:=A3.2 rfl
                  exact ⟨cx3,w4,I4,S4,.inl ⟨rfl,_,.d _ _ (.b false),pre.trans (hst.trans (.one (stepR_round_ret rfl rfl r4)))⟩⟩
                · cases hr
              · rename_i id
                split at hr
                · rename_i hg4
                  cases hr
                  obtain ⟨w4,r4,I4,S4⟩:=fin (.exit id) .done (some (.exit id)) rfl rfl _ _ _ _ _ _ _ hg4
                  obtain ⟨k1,hk1,hst⟩:=A3.2 rfl rfl
                  exact ⟨cx3,w4,I4,S4,.inl ⟨rfl,_,.d _ _ (.b false),pre.trans (hst.trans (.one (stepR_round_exit rfl rfl hk1 r4)))⟩⟩
                · cases hr
            · cases hr
        · cases hr
      · cases hr
    · cases hr
  · cases hr
end
end Go.Abs

namespace Go.Abs
section
variable {P : Program} {G : Nat → List DV}

def Pw (cx:Cx) (w:World) (F':Bool→Nat→Nat→Prop) (rd:Nat→Nat→Nat→Option (List DV)):Prop:=
 ∀(b off n:Nat) (ds:List DV),rd b off n=some ds→ds.length=n∧∀c base,cx.ρ b=some (c,base)→∀i (hi:i < ds.length),∃v,w.cell? ⟨c,base+off+i,none⟩=some v∧kM w F' ds[i] v

mutual
theorem AL {cx:Cx} {w:World} {F':Bool→Nat→Nat→Prop} (hF:∀b c o,cx.F b c o→F' b c o) (hB:∀c o,(w.cell? ⟨c,o,none⟩).isSome=true→F' true c o) {rd:Nat→Nat→Nat→Option (List DV)} (hrd:Pw cx w F' rd) {a:AV} {d:DV} {x:Bool} {v:Value}
  (hs:borrowW rd a=some (d,x)) (hv:bY cx w a v):kM w F' d v:=by
 cases a with
 |d y=> simp only [borrowW,Option.some.injEq,Prod.mk.injEq] at hs; obtain ⟨rfl,rfl⟩:=hs; cases hv with | d _ _ hd=> exact hd.mono hF (fun _ _ _ _=> rfl)
 |nilsl=> simp only [borrowW,Option.some.injEq,Prod.mk.injEq] at hs; obtain ⟨rfl,rfl⟩:=hs; cases hv; exact .nsl
 |app t g n cs=> simp only [borrowW,Option.some.injEq,Prod.mk.injEq] at hs; obtain ⟨rfl,rfl⟩:=hs; cases hv with | app _ _ _ _ _ hd=> exact hd.mono hF (fun _ _ _ _=> rfl)
 |full b n cs=> simp only [borrowW,Option.some.injEq,Prod.mk.injEq] at hs; obtain ⟨rfl,rfl⟩:=hs; cases hv with | full _ _ _ a hd=> exact hd.mono hF (fun _ _ _ _=> rfl)
 |sref b off sz n m ex=>
  simp only [borrowW] at hs
  split at hs
  ·rename_i ds hr
   simp only [Option.some.injEq,Prod.mk.injEq] at hs
   obtain ⟨rfl,rfl⟩:=hs
   obtain ⟨hl,hc⟩:=hrd _ _ _ _ hr
   cases hv with
   |sref _ _ _ _ _ _ c' base' cap a' hr' hn hm hex ha=>
    have hc:=hc c' base' hr'
    rcases Nat.eq_zero_or_pos n with e0 | e0
    ·subst e0
     have:ds=[]:=List.eq_nil_of_length_eq_zero (by rw [hl]; simp)
     subst this
     exact .sl0 _ _ _
    ·have ea:a'=some ⟨c',base'+off,none⟩:=by
      rcases ha with e1 | ⟨e1,_⟩
      ·exact e1
      ·omega
     subst ea
     exact .sl true n ds c' (base'+off) cap (fun i=> (w.cell? ⟨c',base'+off+i,none⟩).getD undef) e0 (by omega)
      (fun i hi => by
       obtain ⟨v,v1,_⟩:=hc i hi
       exact ⟨by rw [v1]; rfl,hB _ _ (by rw [v1]; rfl)⟩)
      (fun i hi => by
       obtain ⟨v,v1,v3⟩:=hc i hi
       rw [v1]; exact v3)
  ·cases hs
 |agg cs=>
  simp only [borrowW] at hs
  split at hs
  ·rename_i l y hf
   simp only [Option.some.injEq,Prod.mk.injEq] at hs
   obtain ⟨rfl,rfl⟩:=hs
   cases hv with
   |agg _ cs' hc h2=>
    obtain ⟨hl,hr⟩:=uf hF hB hrd hf (g:=fun i=> cs'.getD i undef) h2
    exact .agg _ _ (by rw [hc,hl]) hr
  ·cases hs
 |ifc t a=>
  simp only [borrowW] at hs
  split at hs
  ·rename_i l y hf
   simp only [Option.some.injEq,Prod.mk.injEq] at hs
   obtain ⟨rfl,rfl⟩:=hs
   cases hv with
   |ifc _ _ v' hv'=> exact .ifc _ _ _ (AL hF hB hrd hf hv')
  ·cases hs
 |fn g fs cs=>
  simp only [borrowW] at hs
  split at hs
  ·rename_i hok
   split at hs
   ·rename_i l1 h1 hf1
    split at hs
    ·rename_i l2 h2 hf2
     simp only [Option.some.injEq,Prod.mk.injEq] at hs
     obtain ⟨rfl,rfl⟩:=hs
     cases hv with
     |fn _ _ _ fs' cs' e1 e2 r1 r2=>
      obtain ⟨hl1,hr1⟩:=uf hF hB hrd hf1 (g:=fun i=> fs'.getD i undef) r1
      obtain ⟨hl2,hr2⟩:=uf hF hB hrd hf2 (g:=fun i=> cs'.getD i undef) r2
      exact .fn _ _ _ _ _ (by rw [e1,hl1]) (by rw [e2,hl2]) hr1 hr2
     |yld l c base h=> simp [Ba] at hok
    ·cases hs
   ·cases hs
  ·cases hs
 |ptr _ _=> simp [borrowW] at hs
 |kQ _ _=> simp [borrowW] at hs
 |x_ _ _ _ _=> simp [borrowW] at hs
 |tup _=> simp [borrowW] at hs
 |uo _=> simp [borrowW] at hs
 |itr _=> simp [borrowW] at hs
 |und=> simp [borrowW] at hs
theorem uf {cx:Cx} {w:World} {F':Bool→Nat→Nat→Prop} (hF:∀b c o,cx.F b c o→F' b c o) (hB:∀c o,(w.cell? ⟨c,o,none⟩).isSome=true→F' true c o) {rd:Nat→Nat→Nat→Option (List DV)} (hrd:Pw cx w F' rd) {l:List AV} {ds:List DV} {x:Bool}
  (hs:borrowWL rd l=some (ds,x)) {g:Nat→Value} (hv:∀i (hi:i < l.length),bY cx w l[i] (g i)):l.length=ds.length∧∀i (hi:i < ds.length),kM w F' ds[i] (g i):=by
 cases l with
 |nil=> simp only [borrowWL,Option.some.injEq,Prod.mk.injEq] at hs; obtain ⟨rfl,rfl⟩:=hs; exact ⟨rfl,fun i hi=> absurd hi (by simp)⟩
 |cons a r=>
  simp only [borrowWL] at hs
  split at hs
  ·rename_i d y hf1
   split at hs
   ·rename_i l2 z hf2
    simp only [Option.some.injEq,Prod.mk.injEq] at hs
    obtain ⟨rfl,rfl⟩:=hs
    have hr1:=AL hF hB hrd hf1 (hv 0 (by simp))
    obtain ⟨hl2,hr2⟩:=uf hF hB hrd hf2 (g:=fun i=> g (i+1)) (fun i hi=> hv (i+1) (by simpa using hi))
    refine ⟨by simp [hl2],fun i hi=> ?_⟩
    cases i with
    |zero=> exact hr1
    |succ i=> exact hr2 i (by simpa using hi)
   ·cases hs
  ·cases hs
end

mutual
theorem Aa {cx:Cx} {w:World} {rd:Nat→Nat→Nat→Option (List DV)} {a:AV} {d:DV} {v:Value} (hs:borrowW rd a=some (d,false)) (hv:bY cx w a v):kM w cx.F d v:=by
 cases a with
 |d y=> simp only [borrowW,Option.some.injEq,Prod.mk.injEq] at hs; obtain ⟨rfl,_⟩:=hs; cases hv with | d _ _ hd=> exact hd
 |nilsl=> simp only [borrowW,Option.some.injEq,Prod.mk.injEq] at hs; obtain ⟨rfl,_⟩:=hs; cases hv; exact .nsl
 |app t g n cs=> simp only [borrowW,Option.some.injEq,Prod.mk.injEq] at hs; obtain ⟨rfl,_⟩:=hs; cases hv with | app _ _ _ _ _ hd=> exact hd
 |full b n cs=> simp only [borrowW,Option.some.injEq,Prod.mk.injEq] at hs; obtain ⟨rfl,_⟩:=hs; cases hv with | full _ _ _ a hd=> exact hd
 |sref b off sz n m ex=>
  simp only [borrowW] at hs
  split at hs
  ·simp at hs
  ·cases hs
 |agg cs=>
  simp only [borrowW] at hs
  split at hs
  ·rename_i l y hf
   simp only [Option.some.injEq,Prod.mk.injEq] at hs
   obtain ⟨rfl,rfl⟩:=hs
   cases hv with
   |agg _ cs' hc h2=>
    obtain ⟨hl,hr⟩:=v_ hf (g:=fun i=> cs'.getD i undef) h2
    exact .agg _ _ (by rw [hc,hl]) hr
  ·cases hs
 |ifc t a=>
  simp only [borrowW] at hs
  split at hs
  ·rename_i l y hf
   simp only [Option.some.injEq,Prod.mk.injEq] at hs
   obtain ⟨rfl,rfl⟩:=hs
   cases hv with
   |ifc _ _ v' hv'=> exact .ifc _ _ _ (Aa hf hv')
  ·cases hs
 |fn g fs cs=>
  simp only [borrowW] at hs
  split at hs
  ·rename_i hok
   split at hs
   ·rename_i l1 h1 hf1
    split at hs
    ·rename_i l2 h2 hf2
     simp only [Option.some.injEq,Prod.mk.injEq,Bool.or_eq_false_iff] at hs
     obtain ⟨rfl,rfl,rfl⟩:=hs
     cases hv with
     |fn _ _ _ fs' cs' e1 e2 r1 r2=>
      obtain ⟨hl1,hr1⟩:=v_ hf1 (g:=fun i=> fs'.getD i undef) r1
      obtain ⟨hl2,hr2⟩:=v_ hf2 (g:=fun i=> cs'.getD i undef) r2
      exact .fn _ _ _ _ _ (by rw [e1,hl1]) (by rw [e2,hl2]) hr1 hr2
     |yld l c base h=> simp [Ba] at hok
    ·cases hs
   ·cases hs
  ·cases hs
 |ptr _ _=> simp [borrowW] at hs
 |kQ _ _=> simp [borrowW] at hs
 |x_ _ _ _ _=> simp [borrowW] at hs
 |tup _=> simp [borrowW] at hs
 |uo _=> simp [borrowW] at hs
 |itr _=> simp [borrowW] at hs
 |und=> simp [borrowW] at hs
theorem v_ {cx:Cx} {w:World} {rd:Nat→Nat→Nat→Option (List DV)} {l:List AV} {ds:List DV} (hs:borrowWL rd l=some (ds,false)) {g:Nat→Value} (hv:∀i (hi:i < l.length),bY cx w l[i] (g i)):
  l.length=ds.length∧∀i (hi:i < ds.length),kM w cx.F ds[i] (g i):=by
 cases l with
 |nil=> simp only [borrowWL,Option.some.injEq,Prod.mk.injEq] at hs; obtain ⟨rfl,_⟩:=hs; exact ⟨rfl,fun i hi=> absurd hi (by simp)⟩
 |cons a r=>
  simp only [borrowWL] at hs
  split at hs
  ·rename_i d y hf1
   split at hs
   ·rename_i l2 z hf2
    simp only [Option.some.injEq,Prod.mk.injEq,Bool.or_eq_false_iff] at hs
    obtain ⟨rfl,rfl,rfl⟩:=hs
    have hr1:=Aa hf1 (hv 0 (by simp))
    obtain ⟨hl2,hr2⟩:=v_ hf2 (g:=fun i=> g (i+1)) (fun i hi=> hv (i+1) (by simpa using hi))
    refine ⟨by simp [hl2],fun i hi=> ?_⟩
    cases i with
    |zero=> exact hr1
    |succ i=> exact hr2 i (by simpa using hi)
   ·cases hs
  ·cases hs
end

theorem Px {w:World} {F:Bool→Nat→Nat→Prop} {d:DV} {v:Value} (h:kM w F d v):kM w F (norm d) v:=by
 cases d <;> first | exact h | (cases h; exact .sl0 _ _ _)

theorem xV {cx:Cx} {h:Heap} {w:World} (I:Inv P [] G cx h w) {F':Bool→Nat→Nat→Prop} (hF:∀b c o,cx.F b c o→F' b c o) (hB:∀c o,(w.cell? ⟨c,o,none⟩).isSome=true→F' true c o) {rd:Nat→Nat→Nat→Option (List DV)} (hrd:Pw cx w F' rd):Pw cx w F' (rdBlk rd h):=by
 intro b off n ds hs
 unfold rdBlk at hs
 split at hs
 ·rename_i fr e cs hb
  split at hs
  ·rename_i l hl
   split at hs
   ·rename_i ds' x hw
    cases hs
    obtain ⟨r1,r2,r3,r4⟩:=pU hl
    have hlen:l.length=ds'.length:=by
     have:=uf (cx:=cx) (w:=w) (F':=F') hF hB hrd hw (g:=fun i=> (w.cell? ⟨0,i,none⟩).getD undef)
     -- abr alone
     clear this
     have gen:∀(l:List AV) (ds:List DV) (x:Bool),borrowWL rd l=some (ds,x)→l.length=ds.length:=by
      intro l
      induction l with
      |nil=> intro ds x h; simp only [borrowWL,Option.some.injEq,Prod.mk.injEq] at h; obtain ⟨rfl,_⟩:=h; rfl
      |cons a r ih=>
       intro ds x h
       simp only [borrowWL] at h
       split at h
       ·split at h
        ·rename_i q1 q2
         simp only [Option.some.injEq,Prod.mk.injEq] at h
         obtain ⟨rfl,_⟩:=h
         simp [ih _ _ q2]
        ·cases h
       ·cases h
     exact gen _ _ _ hw
    refine ⟨by rw [List.length_map,←hlen,r3],fun c base hr i hi=> ?_⟩
    obtain ⟨c',base',hr',_,hcell⟩:=I.heap b _ hb
    rw [hr] at hr'; cases hr'
    obtain ⟨_,hd⟩ := uf hF hB hrd hw (g := fun i => (w.cell? ⟨c,base + off + i,none⟩).getD undef) (fun i hi => by
     obtain ⟨v,v1,v2,_⟩:=hcell (off+i) (by omega)
     rw [r4 i hi (by omega),Nat.add_assoc,v1]; exact v2)
    have hi':i < ds'.length:=by simpa using hi
    obtain ⟨v,v1,_⟩:=hcell (off+i) (by omega)
    refine ⟨v,by rw [Nat.add_assoc]; exact v1,?_⟩
    have:=hd i hi'
    rw [Nat.add_assoc,v1] at this
    rw [List.getElem_map]
    exact Px this
   ·cases hs
  ·cases hs
 ·cases hs

theorem UZ {cx:Cx} {h:Heap} {w:World} (I:Inv P [] G cx h w) {F':Bool→Nat→Nat→Prop} (hF:∀b c o,cx.F b c o→F' b c o) (hB:∀c o,(w.cell? ⟨c,o,none⟩).isSome=true→F' true c o):Pw cx w F' (rd3 h):=
 xV I hF hB (xV I hF hB (xV I hF hB (xV I hF hB (xV I hF hB (xV I hF hB (xV I hF hB (fun _ _ _ _ hs=> by cases hs)))))))

theorem KB {cx:Cx} {h:Heap} {w:World} (I:Inv P [] G cx h w) {F':Bool→Nat→Nat→Prop} (hF:∀b c o,cx.F b c o→F' b c o) {a:AV} {d:DV} {x:Bool} {v:Value} (hB:x=true→∀c o,(w.cell? ⟨c,o,none⟩).isSome=true→F' true c o)
  (hs:borrow h a=some (d,x)) (hv:bY cx w a v):kM w F' d v:=by
 unfold borrow at hs
 have gen:borrowW (rd3 h) a=some (d,x)→kM w F' d v:=by
  intro hs
  cases x with
  |true=> exact AL hF (hB rfl) (UZ I hF (hB rfl)) hs hv
  |false=> exact (Aa hs hv).mono hF (fun _ _ _ _=> rfl)
 split at hs
 ·exact gen hs
 ·exact gen hs
 ·exact gen hs
 ·exact gen hs
 ·cases hs
 ·exact gen hs

theorem E9 (h:Heap) (a:AV) (r:List AV):stripArgs h (a::r)=match borrow h a with
  |some (d,x)=> match stripArgs h r with
   |some (l,y)=> some (d::l,x || y)
   |none=> none
  |none=> none:=rfl

theorem FP {cx:Cx} {h:Heap} {w:World} (I:Inv P [] G cx h w) {F':Bool→Nat→Nat→Prop} (hF:∀b c o,cx.F b c o→F' b c o):∀{l:List AV} {ds:List DV} {x:Bool},(x=true→∀c o,(w.cell? ⟨c,o,none⟩).isSome=true→F' true c o)→
  stripArgs h l=some (ds,x)→∀{g:Nat→Value},(∀i (hi:i < l.length),bY cx w l[i] (g i))→l.length=ds.length∧∀i (hi:i < ds.length),kM w F' ds[i] (g i):=by
 intro l
 induction l with
 |nil=> intro ds x _ hs g hv; cases hs; exact ⟨rfl,fun i hi=> absurd hi (by simp)⟩
 |cons a r ih=>
  intro ds x hB hs g hv
  rw [E9] at hs
  split at hs
  ·rename_i d y h1
   split at hs
   ·rename_i l2 z h2
    cases hs
    have hr1:=KB I hF (fun e=> hB (by simp [e])) h1 (hv 0 (by simp))
    obtain ⟨hl2,hr2⟩:=ih (fun e=> hB (by simp [e])) h2 (g:=fun i=> g (i+1)) (fun i hi=> hv (i+1) (by simpa using hi))
    refine ⟨by simp [hl2],fun i hi=> ?_⟩
    cases i with
    |zero=> exact hr1
    |succ i=> exact hr2 i (by simpa using hi)
   ·cases hs
  ·cases hs

def Cx.own (cx:Cx) (B:Nat→Nat→Prop):Cx:={ρ:=fun _=> none,K:=fun _=> none,Z:=cx.Z,B:=B}

theorem jE.empty {cx:Cx} {b c:Nat} (ho:jE cx Heap.empty b c):False:=by
 cases ho with
 |blk x base hb _ _ _=> simp at hb
 |tok g e κ base hb _ _=> simp at hb

theorem Inv.own {cx:Cx} {h:Heap} {w:World} (I:Inv P [] G cx h w) {B:Nat→Nat→Prop} (h1:∀c o,cx.B c o→B c o) (h2:∀c o,B c o→(w.cell? ⟨c,o,none⟩).isSome=true):Inv P [] G (cx.own B) .empty w:=by
 refine ⟨fun b x hb=> by simp at hb,?_,fun g i hi=> ?_⟩
 ·exact {
   inj:=fun b1 b2 c o1 _=> o1.empty.elim
   nof:=fun b c ho _=> ho.empty.elim
   p9:=fun t g e κ c base hb=> by simp at hb
   base0:=fun b c base hr=> by cases hr
   lt:=fun b c base hr=> by cases hr
   ltK:=fun t κ c base hk=> by cases hk
   new:=fun b _=> ⟨rfl,rfl⟩
   zc:=fun c o z=> z.elim (fun z=> I.sep.zc c o (.inl z)) (fun z=> h2 c o z)}
 ·obtain ⟨v,v1,v2,v3⟩:=I.kQ g i hi
  exact ⟨v,v1,v2,v3.d.mono (fun b c o hf=> hf.imp id (fun ⟨e,z⟩=> ⟨e,h1 c o z⟩)) (fun _ _ _ _=> rfl),v3.a⟩

theorem Inv.back {cx cx1:Cx} {h h1:Heap} {w w1:World} {B:Nat→Nat→Prop} (I:Inv P [] G cx h w) (I1:Inv P [] G cx1 h1 w1) (S:Stp (cx.own B) .empty w cx1 h1 w1):
  Inv P [] G {cx with Z:=cx1.Z} h w1∧Stp cx h w {cx with Z:=cx1.Z} h w1∧(∀b c,jE cx1 h1 b c→w.heap.size≤c)∧(∀c o,cx1.Z c o→cx.Z c o∨w.heap.size≤c):=by
 have hk:∀c:Nat,c < w.heap.size→w1.heap[c]? =w.heap[c]? :=fun c hc=> S.fr.kept c hc (fun b ho=> ho.empty)
 have hown:∀b c,jE cx1 h1 b c→w.heap.size≤c:=by
  intro b c ho
  rcases Nat.lt_or_ge c w.heap.size with hc | hc
  ·obtain ⟨b',hb'⟩:=S.fr.owns b c ho hc
   exact hb'.empty.elim
  ·exact hc
 have hz:∀c o,cx1.Z c o→cx.Z c o∨w.heap.size≤c:=by
  intro c o z
  rcases S.fr.z c o z with z | z | ⟨b,hb⟩
  ·exact .inl z
  ·exact .inr z
  ·exact hb.empty.elim
 have hz2:∀c o,cx.Z c o→cx1.Z c o:=fun c o z=> S.ext.Z c o z
 have ext : Ext cx w { cx with Z := cx1.Z } w1 := {
  size:=S.ext.size
  ρ:=fun _ _ h=> h
  K:=fun _ κ h=> ⟨κ,h,Nat.le_refl _,fun _=> rfl⟩
  Z:=hz2
  B:=fun _ _=> Iff.rfl
  cell:=fun c o z=> cell_of_heap (hk c (zlt I z)) o none
  el:=fun c arr e fz hh=> ⟨arr,fz,by rw [hk c (Array.getElem?_eq_some_iff.1 hh).1]; exact hh,rfl⟩
  lp:=fun c L hh=> ⟨L,by rw [hk c (Array.getElem?_eq_some_iff.1 hh).1]; exact hh⟩
  io:=S.ext.io}
 have iU:∀b c,jE {cx with Z:=cx1.Z} h b c→jE cx h b c:=by
  intro b c ho
  cases ho with
  |blk x base hb ho ht hr=> exact .blk x base hb ho ht hr
  |tok g e κ base hb hκ hp=> exact .tok g e κ base hb hκ hp
 refine ⟨⟨fun b x hb=> ?_,?_,fun g i hi=> ?_⟩,⟨ext,⟨fun c hc _=> hk c hc,fun b c ho _=> ⟨b,iU b c ho⟩,fun c o z=> (hz c o z).imp id .inl,Nat.le_refl _,fun _ h=> h,fun _ _=> rfl⟩⟩,hown,hz⟩
 ·exact tZ.oD ext (fun c base hr _=> hk c (I.sep.lt b c base hr)) (fun κ hκ _=> ⟨hκ,fun c base hpl=> hk c (I.sep.ltK b κ c base hκ hpl)⟩) (I.heap b x hb)
 ·exact {
   inj:=fun b1 b2 c o1 o2=> I.sep.inj b1 b2 c (iU _ _ o1) (iU _ _ o2)
   nof:=fun b c ho hn o=> by
    have:=I.sep.nof b c (iU b c ho) hn o
    refine ⟨fun z=> ?_,this.2⟩
    rcases hz c o z with z | z
    ·exact this.1 z
    ·have:=jE.lt I (iU b c ho); omega
   p9:=fun t g e κ c base hb hκ hpl o z=> by
    rcases z with z | z
    ·rcases hz c o z with z | z
     ·exact I.sep.p9 t g e κ c base hb hκ hpl o (.inl z)
     ·have:=I.sep.ltK t κ c base hκ hpl; omega
    ·exact I.sep.p9 t g e κ c base hb hκ hpl o (.inr z)
   base0:=I.sep.base0
   lt:=fun b c base hr=> Nat.lt_of_lt_of_le (I.sep.lt b c base hr) S.ext.size
   ltK:=fun b κ c base hr hpl=> Nat.lt_of_lt_of_le (I.sep.ltK b κ c base hr hpl) S.ext.size
   new:=I.sep.new
   zc:=fun c o z=> by
    rcases z with z | z
    ·exact I1.sep.zc c o (.inl z)
    ·rw [cell_of_heap (hk c (zlt I (.inr z)))]; exact I.sep.zc c o (.inr z)}
 ·obtain ⟨v,v1,v2,v3⟩:=I.kQ g i hi
  exact ⟨v,by rw [cell_of_heap (hk g (zlt I (.inl v2)))]; exact v1,hz2 _ _ v2,v3.ext ext⟩
end
end Go.Abs

namespace Go.Abs
section
variable {P : Program} {G : Nat → List DV}

theorem Inv.take {cx:Cx} {h:Heap} {w:World} (I:Inv P [] G cx h w) (x:Blk) (p:Option (Nat×Nat)) (k:Option Tk) (hp:∀c base,p=some (c,base)→c < w.heap.size∧base=0)
  (hown:∀c,jE (cx.add h.n p k) (h.push x) h.n c→(∀b,¬jE cx h b c)∧((∀g e,x≠ .tok g e)→∀o,¬cx.Z c o∧¬cx.B c o))
  (hk:∀κ c base,k=some κ→κ.pl=some (c,base)→c < w.heap.size∧∀o,cx.Z c o∨cx.B c o→o < base+κ.n*κ.sz) (hx:tZ P [] (cx.add h.n p k) w h.n x):
  Inv P [] G (cx.add h.n p k) (h.push x) w∧Ext cx w (cx.add h.n p k) w∧∀b c,jE (cx.add h.n p k) (h.push x) b c→(b=h.n∧jE (cx.add h.n p k) (h.push x) h.n c)∨(b < h.n∧jE cx h b c):=by
 have ext:=Ext.Db I p k
 have iU:∀b c,jE (cx.add h.n p k) (h.push x) b c→(b=h.n∧jE (cx.add h.n p k) (h.push x) h.n c)∨(b < h.n∧jE cx h b c):=by
  intro b c ho
  by_cases e:b=h.n
  ·subst e; exact .inl ⟨rfl,ho⟩
  ·right
   cases ho with
   |blk y base hb ho ht' hr=>
    rw [Heap.jk,if_neg e] at hb
    rw [Cx.qpρ,if_neg e] at hr
    exact ⟨Heap.kH hb,.blk y base hb ho ht' hr⟩
   |tok g e' κ base hb hκ hpl=>
    rw [Heap.jk,if_neg e] at hb
    rw [Cx.uj,if_neg e] at hκ
    exact ⟨Heap.kH hb,.tok g e' κ base hb hκ hpl⟩
 refine ⟨⟨fun b y hb=> ?_,?_,fun g i hi=> ?_⟩,ext,iU⟩
 ·rw [Heap.jk] at hb
  by_cases e:b=h.n
  ·simp only [e,if_true,Option.some.injEq] at hb
   subst hb; subst e; exact hx
  ·simp only [e,if_false] at hb
   refine tZ.oD ext (fun c base hr _=> rfl) (fun κ hκ _=> ⟨?_,fun c base hpl=> rfl⟩) (I.heap b y hb)
   rw [Cx.uj]; simp [e,hκ]
 ·exact {
   inj:=fun b1 b2 c h1 h2=> by
    rcases iU b1 c h1 with ⟨e1,c1⟩ | ⟨l1,o1⟩ <;> rcases iU b2 c h2 with ⟨e2,c2⟩ | ⟨l2,o2⟩
    ·rw [e1,e2]
    ·exact absurd o2 ((hown c c1).1 b2)
    ·exact absurd o1 ((hown c c2).1 b1)
    ·exact I.sep.inj b1 b2 c o1 o2
   nof:=fun b c ho hn o=> by
    rcases iU b c ho with ⟨e,c1⟩ | ⟨l,o1⟩
    ·subst e
     exact (hown c c1).2 (fun g e he=> hn g e (by rw [Heap.jk,if_pos rfl,he])) o
    ·refine I.sep.nof b c o1 (fun g e hb=> hn g e ?_) o
     rw [Heap.jk,if_neg (Nat.ne_of_lt l)]; exact hb
   p9:=fun t g e κ c base hb hκ hpl o z=> by
    rw [Heap.jk] at hb
    rw [Cx.uj] at hκ
    by_cases e':t=h.n
    ·simp only [e',if_true] at hκ
     exact (hk κ c base hκ hpl).2 o z
    ·simp only [e',if_false] at hb hκ
     exact I.sep.p9 t g e κ c base hb hκ hpl o z
   base0:=fun b c base hr=> by
    rw [Cx.qpρ] at hr
    by_cases e:b=h.n
    ·simp only [e,if_true] at hr; exact (hp c base hr).2
    ·simp only [e,if_false] at hr; exact I.sep.base0 b c base hr
   lt:=fun b c base hr=> by
    rw [Cx.qpρ] at hr
    by_cases e:b=h.n
    ·simp only [e,if_true] at hr; exact (hp c base hr).1
    ·simp only [e,if_false] at hr; exact I.sep.lt b c base hr
   ltK:=fun b κ c base hr hpl=> by
    rw [Cx.uj] at hr
    by_cases e:b=h.n
    ·simp only [e,if_true] at hr; exact (hk κ c base hr hpl).1
    ·simp only [e,if_false] at hr; exact I.sep.ltK b κ c base hr hpl
   new:=fun b hb=> by
    simp only [Heap.BB] at hb
    have e:b≠h.n:=by omega
    rw [Cx.qpρ,Cx.uj]; simp only [e,if_false]
    exact I.sep.new b (by omega)
   zc:=I.sep.zc}
 ·obtain ⟨v,v1,v2,v3⟩:=I.kQ g i hi
  exact ⟨v,v1,v2,v3.ext ext⟩

theorem Inv.aa7 {cx:Cx} {h:Heap} {w:World} (I:Inv P [] G cx h w) {Z':Nat→Nat→Prop} (h1:∀c o,cx.Z c o→Z' c o) (h2:∀c o,Z' c o→cx.Z c o∨((w.cell? ⟨c,o,none⟩).isSome=true∧∀b,¬jE cx h b c)):
  Inv P [] G {cx with Z:=Z'} h w∧Ext cx w {cx with Z:=Z'} w∧∀b c,jE {cx with Z:=Z'} h b c→jE cx h b c:=by
 have ext:Ext cx w {cx with Z:=Z'} w:=⟨Nat.le_refl _,fun _ _ h=> h,fun _ κ h=> ⟨κ,h,Nat.le_refl _,fun _=> rfl⟩,h1,fun _ _=> Iff.rfl,fun _ _ _=> rfl,fun _ arr _ fz h=> ⟨arr,fz,h,rfl⟩,fun _ L h=> ⟨L,h⟩,rfl,rfl⟩
 have iU:∀b c,jE {cx with Z:=Z'} h b c→jE cx h b c:=by
  intro b c ho
  cases ho with
  |blk x base hb ho ht hr=> exact .blk x base hb ho ht hr
  |tok g e κ base hb hκ hp=> exact .tok g e κ base hb hκ hp
 refine ⟨⟨fun b x hb=> ?_,?_,fun g i hi=> ?_⟩,ext,iU⟩
 ·exact tZ.oD ext (fun c base hr _=> rfl) (fun κ hκ _=> ⟨hκ,fun c base hpl=> rfl⟩) (I.heap b x hb)
 ·exact {
   inj:=fun b1 b2 c o1 o2=> I.sep.inj b1 b2 c (iU _ _ o1) (iU _ _ o2)
   nof:=fun b c ho hn o=> by
    have:=I.sep.nof b c (iU b c ho) hn o
    refine ⟨fun z=> ?_,this.2⟩
    rcases h2 c o z with z | ⟨_,z⟩
    ·exact this.1 z
    ·exact z b (iU b c ho)
   p9:=fun t g e κ c base hb hκ hpl o z=> by
    rcases z with z | z
    ·rcases h2 c o z with z | ⟨_,z⟩
     ·exact I.sep.p9 t g e κ c base hb hκ hpl o (.inl z)
     ·exact absurd (.tok g e κ base hb hκ hpl) (z t)
    ·exact I.sep.p9 t g e κ c base hb hκ hpl o (.inr z)
   base0:=I.sep.base0
   lt:=I.sep.lt
   ltK:=I.sep.ltK
   new:=I.sep.new
   zc:=fun c o z=> by
    rcases z with z | z
    ·rcases h2 c o z with z | ⟨z,_⟩
     ·exact I.sep.zc c o (.inl z)
     ·exact z
    ·exact I.sep.zc c o (.inr z)}
 ·obtain ⟨v,v1,v2,v3⟩:=I.kQ g i hi
  exact ⟨v,v1,h1 _ _ v2,v3.ext ext⟩

theorem xW:∀{l:List DV},uk l=true→∀i (hi:i < l.length),clean l[i]=true:=by
 intro l
 induction l with
 |nil=> intro _ i hi; cases hi
 |cons d r ih=>
  intro h i hi
  simp only [uk,Bool.and_eq_true] at h
  cases i with
  |zero=> exact h.1
  |succ i=> exact ih h.2 i (by simpa using hi)

theorem kM.clean {w:World} {F F':Bool→Nat→Nat→Prop} (hF:∀c o,F false c o→F' false c o) {d:DV} {v:Value} (h:kM w F d v):Abs.clean d=true→kM w F' d v:=by
 induction h with
 |b x=> intro _; exact .b x
 |i k n=> intro _; exact .i k n
 |s x s h=> intro _; exact .s x s h
 |sG=> intro _; exact .sG
 |yj=> intro _; exact .yj
 |nili=> intro _; exact .nili
 |xN=> intro _; exact .xN
 |nsl=> intro _; exact .nsl
 |sl0 b a cap=> intro _; exact .sl0 b a cap
 |sl b n cells c o cap vs hn hc h1 _ ih=>
  intro hc'
  simp only [Abs.clean,Bool.and_eq_true,Bool.not_eq_true'] at hc'
  obtain ⟨rfl,hcl⟩:=hc'
  exact .sl false n cells c o cap vs hn hc (fun i hi=> ⟨(h1 i hi).1,hF _ _ (h1 i hi).2⟩) (fun i hi=> ih i hi (xW hcl i hi))
 |bx b cells off c o vs h1 _ ih=>
  intro hc'
  simp only [Abs.clean,Bool.and_eq_true,Bool.not_eq_true'] at hc'
  obtain ⟨rfl,hcl⟩:=hc'
  exact .bx false cells off c o vs (fun i hi=> ⟨(h1 i hi).1,hF _ _ (h1 i hi).2⟩) (fun i hi=> ih i hi (xW hcl i hi))
 |fn f fs cs fs' cs' hf hc _ _ ih1 ih2=>
  intro hc'
  simp only [Abs.clean,Bool.and_eq_true] at hc'
  exact .fn f fs cs fs' cs' hf hc (fun i hi=> ih1 i hi (xW hc'.1 i hi)) (fun i hi=> ih2 i hi (xW hc'.2 i hi))
 |ifc t d v _ ih=> intro hc'; exact .ifc t d v (ih hc')
 |agg cs cs' hc _ ih=> intro hc'; exact .agg cs cs' hc (fun i hi=> ih i hi (xW hc' i hi))

structure Two (P:Program) (G:Nat→List DV) (bor:Bool) (cx1:Cx) (h1:Heap) (cx2:Cx) (h2:Heap) (w:World):Prop where
 I1:Inv P [] G cx1 h1 w
 I2:Inv P [] G cx2 h2 w
 z:∀c o,cx1.Z c o↔cx2.Z c o
 dis:∀b1 b2 c,jE cx1 h1 b1 c→¬jE cx2 h2 b2 c
 nb:∀b c o,jE cx1 h1 b c→¬cx2.B c o
 bb:bor=true∨∀c o,cx1.B c o→cx2.B c o

theorem Two.conv {bor:Bool} {cx1 cx2:Cx} {h1 h2:Heap} {w:World} (T:Two P G bor cx1 h1 cx2 h2 w) {d:DV} {v:Value} (hc:(bor && !clean d)=false) (h:kM w cx1.F d v):kM w cx2.F d v:=by
 cases bor with
 |true=>
  have:clean d=true:=by simpa using hc
  exact h.clean (fun c o hf => by
   rcases hf with z | ⟨e,_⟩
   ·exact .inl ((T.z c o).1 z)
   ·cases e) this
 |false=>
  have hb:=T.bb.resolve_left (by simp)
  exact h.mono (fun b c o hf=> hf.imp (T.z c o).1 (fun ⟨e,z⟩=> ⟨e,hb c o z⟩)) (fun _ _ _ _=> rfl)

structure Mvd (P:Program) (G:Nat→List DV) (bor:Bool) (cx1:Cx) (h1:Heap) (cx2:Cx) (h2:Heap) (w:World) (Hy:Cx) (h1':Heap) (Dm:Cx) (h2':Heap):Prop where
 two:Two P G bor Hy h1' Dm h2' w
 e1:Ext cx1 w Hy w
 e2:Ext cx2 w Dm w
 KC:∀b c,jE Hy h1' b c→∃b',jE cx1 h1 b' c
 M3:∀b c,jE Dm h2' b c→(∃b',jE cx2 h2 b' c)∨∃b',jE cx1 h1 b' c
 zz:∀c o,Dm.Z c o→cx2.Z c o∨∃b',jE cx1 h1 b' c
 hn:h2.n≤h2'.n
 dd:∀b,h2.get b=some .dead→h2'.get b=some .dead
 rr:∀b,b < h2.n→Dm.ρ b=cx2.ρ b

theorem Mvd.refl {bor:Bool} {cx1 cx2:Cx} {h1 h2:Heap} {w:World} (T:Two P G bor cx1 h1 cx2 h2 w):Mvd P G bor cx1 h1 cx2 h2 w cx1 h1 cx2 h2:=
 ⟨T,.refl _ _,.refl _ _,fun b _c h=> ⟨b,h⟩,fun b _c h=> .inl ⟨b,h⟩,fun _ _ z=> .inl z,Nat.le_refl _,fun _ h=> h,fun _ _=> rfl⟩

theorem Mvd.trans {bor:Bool} {a1 a2 b1 b2 c1 c2:Cx} {ha1 ha2 hb1 hb2 hc1 hc2:Heap} {w:World} (m:Mvd P G bor a1 ha1 a2 ha2 w b1 hb1 b2 hb2) (n:Mvd P G bor b1 hb1 b2 hb2 w c1 hc1 c2 hc2):Mvd P G bor a1 ha1 a2 ha2 w c1 hc1 c2 hc2 where
 two:=n.two
 e1:=m.e1.trans n.e1
 e2:=m.e2.trans n.e2
 KC b c h:=by obtain ⟨b',h'⟩:=n.KC b c h; exact m.KC b' c h'
 M3 b c h:=by
  rcases n.M3 b c h with ⟨b',h'⟩ | ⟨b',h'⟩
  ·exact m.M3 b' c h'
  ·exact .inr (m.KC b' c h')
 zz c o z:=by
  rcases n.zz c o z with z | ⟨b',h'⟩
  ·exact m.zz c o z
  ·exact .inr (m.KC b' c h')
 hn:=Nat.le_trans m.hn n.hn
 dd b hb:=n.dd b (m.dd b hb)
 rr b hb:=(n.rr b (Nat.lt_of_lt_of_le hb m.hn)).trans (m.rr b hb)

theorem Two.kill {bor:Bool} {cx1 cx2:Cx} {h1 h2:Heap} {w:World} (T:Two P G bor cx1 h1 cx2 h2 w) (b:Nat):
  Two P G bor cx1 (h1.set b .dead) cx2 h2 w∧(∀b' c,jE cx1 (h1.set b .dead) b' c→jE cx1 h1 b' c∧((∃x,h1.get b=some x)→b'≠b)):=by
 have own:∀b' c,jE cx1 (h1.set b .dead) b' c→jE cx1 h1 b' c∧((∃x,h1.get b=some x)→b'≠b):=by
  intro b' c ho
  have hget:∀x,(h1.set b .dead).get b'=some x→x≠ .dead→h1.get b'=some x∧((∃x,h1.get b=some x)→b'≠b):=by
   intro x hx hd
   rw [Heap.zP] at hx
   by_cases e:b=b'∧b' < h1.n
   ·rw [if_pos e] at hx; cases hx; exact absurd rfl hd
   ·rw [if_neg e] at hx
    refine ⟨hx,fun ⟨y,hy⟩ e'=> ?_⟩
    subst e'
    exact e ⟨rfl,Heap.kH hy⟩
  cases ho with
  |blk x base hb ho ht hr=>
   obtain ⟨q1,q2⟩:=hget x hb (fun e=> by subst e; simp [vD] at ho)
   exact ⟨.blk x base q1 ho ht hr,q2⟩
  |tok g e κ base hb hκ hp=>
   obtain ⟨q1,q2⟩:=hget _ hb (fun e=> by cases e)
   exact ⟨.tok g e κ base q1 hκ hp,q2⟩
 exact ⟨⟨(T.I1.kill b).1,T.I2,T.z,fun b1 b2 c o1=> T.dis b1 b2 c (own _ _ o1).1,fun b c o ho=> T.nb b c o (own _ _ ho).1,T.bb⟩,own⟩

def Py (P:Program) (G:Nat→List DV) (bor:Bool) (mv:Heap→Heap→Nat→Option (Nat×Heap×Heap)):Prop:=
 ∀(h1 h2:Heap) (b b':Nat) (h1' h2':Heap),mv h1 h2 b=some (b',h1',h2')→∀(cx1 cx2:Cx) (w:World),Two P G bor cx1 h1 cx2 h2 w→∃Hy Dm,Mvd P G bor cx1 h1 cx2 h2 w Hy h1' Dm h2'∧
  ∀c base,cx1.ρ b=some (c,base)→Dm.ρ b'=some (c,base)

def CF (P:Program) (G:Nat→List DV) (bor:Bool) (cx1:Cx) (h1:Heap) (cx2:Cx) (h2:Heap) (w:World) (h1' h2':Heap) (R:Cx→Prop):Prop:=∃Hy Dm,Mvd P G bor cx1 h1 cx2 h2 w Hy h1' Dm h2'∧R Dm

theorem CF.same {bor:Bool} {cx1 cx2:Cx} {h1 h2:Heap} {w:World} {R:Cx→Prop} (T:Two P G bor cx1 h1 cx2 h2 w) (hr:R cx2):CF P G bor cx1 h1 cx2 h2 w h1 h2 R:=⟨cx1,cx2,.refl T,hr⟩

theorem Two.R3 {bor:Bool} {cx1 cx2:Cx} {h1 h2:Heap} {w:World} (T:Two P G bor cx1 h1 cx2 h2 w) {t g n:Nat} {e:TypeId} {cs:List DV} {v:Value} (hb:h1.get t=some (.tok g e)) (hv:bY cx1 w (.app t g n cs) v) (hc:(bor && !uk cs)=false):
    CF P G bor cx1 h1 cx2 h2 w (h1.set t .dead) (h2.push (.tok 0 e)) fun cx'=> bY cx' w (.app h2.n 0 n cs) v:=by
  cases hv with
  |app _ _ _ _ _ hd κ hK hg hfit=>
    obtain ⟨κ0,k1,k2,k3,k4,k5⟩:=T.I1.heap t _ hb
    rw [hK] at k1; cases k1
    have hfit:=hfit k2.symm
    obtain ⟨TK,own⟩:=T.kill t
    have hd2:kM w cx2.F (.sl false n cs) v:=T.conv (by simpa [clean] using hc) hd
    have hun:∀c base,κ.pl=some (c,base)→(∀b,¬jE cx2 h2 b c)∧(∀b,¬jE cx1 (h1.set t .dead) b c)∧c < w.heap.size∧∀o,cx2.Z c o∨cx2.B c o→o < base+κ.n*κ.sz:=by
      intro c base hp
      have ho:jE cx1 h1 t c:= .tok g e κ base hb hK hp
      refine ⟨fun b=> T.dis t b c ho,fun b ho'=> ?_,T.I1.sep.ltK t κ c base hK hp,fun o z=> ?_⟩
      · obtain ⟨o1,o2⟩:=own b c ho'
        exact o2 ⟨_,hb⟩ (T.I1.sep.inj _ _ _ o1 ho)
      · rcases z with z | z
        · exact T.I1.sep.p9 t g e κ c base hb hK hp o (.inl ((T.z c o).2 z))
        · exact absurd z (T.nb t c o ho)
    let κ':Tk:={κ with gen:=0}
    obtain ⟨J,eJ,oJ⟩ := T.I2.take (.tok 0 e) none (some κ') (fun _ _ h => by cases h) (fun c ho => by
        cases ho with
        |blk x base hb' ho2 ht hr=> rw [Cx.qpρ] at hr; simp at hr
        |tok g' e' κ2 base hb' hκ hp=>
          rw [Cx.uj] at hκ; simp at hκ; subst hκ
          exact ⟨(hun c base hp).1,fun hh=> absurd rfl (hh 0 e)⟩)
      (fun κ2 c base hk hp=> by cases hk; exact ⟨(hun c base hp).2.2.1,(hun c base hp).2.2.2⟩)
      ⟨κ',by rw [Cx.uj]; simp,rfl,k3,k4,k5⟩
    refine ⟨cx1,cx2.add h2.n none (some κ'),⟨⟨TK.I1,J,T.z,fun b1 b2 c o1 o2=> ?_,fun b c o ho=> TK.nb b c o ho,T.bb⟩,.refl _ _,eJ,fun b c ho=> ⟨b,(own b c ho).1⟩,fun b c ho=> ?_,fun c o z=> .inl z,by simp,fun b hb'=> by rw [Heap.jk,if_neg (Nat.ne_of_lt (Heap.kH hb'))]; exact hb',fun b hb'=> by rw [Cx.qpρ,if_neg (Nat.ne_of_lt hb')]⟩,?_⟩
    · rcases oJ b2 c o2 with ⟨_,o2⟩ | ⟨_,o2⟩
      · cases o2 with
        |blk x base hb' ho2 ht hr=> rw [Cx.qpρ] at hr; simp at hr
        |tok g' e' κ2 base hb' hκ hp=>
          rw [Cx.uj] at hκ; simp at hκ; subst hκ
          exact (hun c base hp).2.1 b1 o1
      · exact TK.dis b1 b2 c o1 o2
    · rcases oJ b c ho with ⟨_,o2⟩ | ⟨_,o2⟩
      · cases o2 with
        |blk x base hb' ho2 ht hr=> rw [Cx.qpρ] at hr; simp at hr
        |tok g' e' κ2 base hb' hκ hp=>
          rw [Cx.uj] at hκ; simp at hκ; subst hκ
          exact .inr ⟨t,.tok g e κ base hb hK hp⟩
      · exact .inl ⟨b,o2⟩
    · exact .app h2.n 0 n cs v (hd2.ext eJ) κ' (by rw [Cx.uj]; simp) (Nat.le_refl _) (fun _=> hfit)

mutual
theorem BJ {bor:Bool} {mv:Heap→Heap→Nat→Option (Nat×Heap×Heap)} (hmv:Py P G bor mv) {a a':AV} {v:Value} {cx1 cx2:Cx} {h1 h2 h1' h2':Heap} {w:World} (T:Two P G bor cx1 h1 cx2 h2 w)
  (hs:qY bor mv h1 h2 a=some (a',h1',h2')) (hv:bY cx1 w a v):CF P G bor cx1 h1 cx2 h2 w h1' h2' fun cx'=> bY cx' w a' v:=by
 cases a with
 |d x=>
  simp only [qY] at hs
  split at hs
  ·cases hs
  ·rename_i hc
   cases hs
   cases hv with | d _ _ hd=> exact .same T (.d _ _ (T.conv hc hd))
 |nilsl=> simp only [qY] at hs; cases hs; cases hv; exact .same T .nilsl
 |app t g n cs=>
  have plain:(bor && !uk cs)=false→CF P G bor cx1 h1 cx2 h2 w h1 h2 fun cx'=> bY cx' w (.d (.sl false n cs)) v:=by
   intro hc
   cases hv with
   |app _ _ _ _ _ hd=> exact .same T (.d _ _ (T.conv (by simpa [clean] using hc) hd))
  simp only [qY] at hs
  split at hs
  ·rename_i g' e hb
   split at hs
   ·rename_i hg
    have hg:=m_ hg
    subst hg
    split at hs
    ·cases hs
    ·rename_i hc
     cases hs
     exact T.R3 hb hv hc
   ·split at hs
    ·cases hs
    ·rename_i hc
     cases hs
     exact plain hc
  ·split at hs
   ·cases hs
   ·rename_i hc
    cases hs
    exact plain hc
 |full b n cs=>
  simp only [qY] at hs
  split at hs
  ·cases hs
  ·rename_i hc
   cases hs
   cases hv with
   |full _ _ _ a hd=>
    refine .same T (.full _ _ _ a (T.conv ?_ hd))
    cases bor <;> cases b <;> simp_all [clean]
 |sref b off sz n m ex=>
  simp only [qY] at hs
  split at hs
  ·rename_i b' q1 q2 hm
   cases hs
   cases hv with
   |sref _ _ _ _ _ _ c base cap a hr hn hm' hex ha hz=>
    obtain ⟨Hy,Dm,M,hρ⟩:=hmv _ _ _ _ _ _ hm cx1 cx2 w T
    exact ⟨Hy,Dm,M,.sref b' off sz n m ex c base cap a (hρ c base hr) hn hm' hex ha hz⟩
  ·cases hs
 |ptr b off=>
  simp only [qY] at hs
  split at hs
  ·rename_i dd hf hfz
   split at hs
   ·rename_i e cs hb
    split at hs
    ·rename_i ds hst
     split at hs
     ·cases hs
     ·rename_i hc
      cases hs
      simp only [yP] at hfz
      split at hfz
      ·rename_i ds0 hf0 acO
       cases hfz
       obtain ⟨cxf,If,Sf,Ff,_⟩:=O9 (P:=P) (mu:=[]) (G:=G) _ _ _ _ _ _ acO cx1 w T.I1
       obtain ⟨c,base,hr,_,hcell⟩:=If.heap b _ hb
       have hr1:cx1.ρ b=some (c,base):=by rw [←Ff.ρ]; exact hr
       have hnew:∀c o,cxf.Z c o→cx1.Z c o∨∃b,jE cx1 h1 b c:=by
        intro c o z
        rcases Sf.fr.z c o z with z' | z' | z'
        ·exact .inl z'
        ·have:=zlt If (.inl z); omega
        ·exact .inr z'
       obtain ⟨J,eJ,oJ⟩ := T.I2.aa7 (Z' := cxf.Z) (fun c o z => Sf.ext.Z c o ((T.z c o).2 z)) (fun c o z => by
        rcases hnew c o z with z' | ⟨b',z'⟩
        ·exact .inl ((T.z c o).1 z')
        ·exact .inr ⟨If.sep.zc c o (.inl z),fun b2=> T.dis b' b2 c z'⟩)
       have hown1:∀b c,jE cxf h1' b c→∃b',jE cx1 h1 b' c:=fun b c ho=> Sf.fr.owns b c ho (jE.lt If ho)
       have T' : Two P G bor cxf h1' { cx2 with Z := cxf.Z } h2 w := ⟨If,J,fun _ _ => Iff.rfl,fun b1 b2 c o1 o2 => by
         obtain ⟨b',o1'⟩:=hown1 b1 c o1
         exact T.dis b' b2 c o1' (oJ b2 c o2),fun b c o ho=> by
         obtain ⟨b',o1'⟩:=hown1 b c ho
         exact T.nb b' c o o1',T.bb.imp id (fun hb c o z=> hb c o ((Sf.ext.B c o).2 z))⟩
       refine ⟨cxf,{cx2 with Z:=cxf.Z},⟨T',Sf.ext,eJ,hown1,fun b c ho=> .inl ⟨b,oJ b c ho⟩,fun c o z=> (hnew c o z).imp (T.z c o).1 id,Nat.le_refl _,fun _ h=> h,fun _ _=> rfl⟩,?_⟩
       obtain ⟨hl,hd⟩ := uP (cx := cxf) (w := w) (g := fun i => (w.cell? ⟨c,base + i,none⟩).getD undef) hst (fun i hi => by
        obtain ⟨u,u1,u2,_⟩:=hcell i hi
        rw [u1]; exact u2)
       obtain ⟨c',base',hr',rfl⟩:=hv.q_
       rw [hr1] at hr'; cases hr'
       refine .d _ _ (T'.conv (by simpa [clean] using hc) ?_)
       exact .bx false ds off c base (fun i => (w.cell? ⟨c,base + i,none⟩).getD undef) (fun i hi => by
        obtain ⟨u,u1,_,u3,_⟩:=hcell i (by omega)
        exact ⟨by rw [u1]; rfl,.inl (u3 rfl)⟩) hd
      ·cases hfz
    ·cases hs
   ·cases hs
  ·cases hs
 |agg cs=>
  simp only [qY] at hs
  split at hs
  ·rename_i l q1 q2 hf
   cases hs
   cases hv with
   |agg _ cs' hc h2=>
    obtain ⟨c1,c2,M,hl,hr⟩:=uU hmv T hf (g:=fun i=> cs'.getD i undef) h2
    exact ⟨c1,c2,M,.agg _ _ (by rw [hc,hl]) hr⟩
  ·cases hs
 |tup cs=>
  simp only [qY] at hs
  split at hs
  ·rename_i l q1 q2 hf
   cases hs
   cases hv with
   |tup _ cs' hc h2=>
    obtain ⟨c1,c2,M,hl,hr⟩:=uU hmv T hf (g:=fun i=> cs'.getD i undef) h2
    exact ⟨c1,c2,M,.tup _ _ (by rw [hc,hl]) hr⟩
  ·cases hs
 |ifc t a=>
  simp only [qY] at hs
  split at hs
  ·rename_i l q1 q2 hf
   cases hs
   cases hv with
   |ifc _ _ v' hv'=>
    obtain ⟨c1,c2,M,hr⟩:=BJ hmv T hf hv'
    exact ⟨c1,c2,M,.ifc _ _ _ hr⟩
  ·cases hs
 |fn g fs cs=>
  simp only [qY] at hs
  split at hs
  ·rename_i hok
   split at hs
   ·rename_i l1 q1 q2 hf1
    split at hs
    ·rename_i l2 q3 q4 hf2
     cases hs
     cases hv with
     |fn _ _ _ fs' cs' e1 e2 r1 r2 hy=>
      obtain ⟨c1,c2,M1,hl1,hr1⟩:=uU hmv T hf1 (g:=fun i=> fs'.getD i undef) r1
      obtain ⟨c3,c4,M2,hl2,hr2⟩:=uU hmv M1.two hf2 (g:=fun i=> cs'.getD i undef) (fun i hi=> (r2 i hi).ext M1.e1)
      exact ⟨c3,c4,M1.trans M2,.fn _ _ _ _ _ (by rw [e1,hl1]) (by rw [e2,hl2]) (fun i hi=> (hr1 i hi).ext M2.e2) hr2 hy⟩
     |yld l c base h=> simp [Ba] at hok
    ·cases hs
   ·cases hs
  ·cases hs
 |kQ g o=> simp only [qY] at hs; cases hs; cases hv; exact .same T (.kQ _ _)
 |x_ _ _ _ _=> simp [qY] at hs
 |uo _=> simp [qY] at hs
 |itr _=> simp [qY] at hs
 |und=> simp [qY] at hs
theorem uU {bor:Bool} {mv:Heap→Heap→Nat→Option (Nat×Heap×Heap)} (hmv:Py P G bor mv) {l l':List AV} {cx1 cx2:Cx} {h1 h2 h1' h2':Heap} {w:World} (T:Two P G bor cx1 h1 cx2 h2 w)
  (hs:xA bor mv h1 h2 l=some (l',h1',h2')) {g:Nat→Value} (hv:∀i (hi:i < l.length),bY cx1 w l[i] (g i)):
  CF P G bor cx1 h1 cx2 h2 w h1' h2' fun cx'=> l.length=l'.length∧∀i (hi:i < l'.length),bY cx' w l'[i] (g i):=by
 cases l with
 |nil=> simp only [xA] at hs; cases hs; exact .same T ⟨rfl,fun i hi=> absurd hi (by simp)⟩
 |cons a r=>
  simp only [xA] at hs
  split at hs
  ·rename_i d q1 q2 hf1
   split at hs
   ·rename_i l2 q3 q4 hf2
    cases hs
    obtain ⟨c1,c2,M1,hr1⟩:=BJ hmv T hf1 (hv 0 (by simp))
    obtain ⟨c3,c4,M2,hl2,hr2⟩:=uU hmv M1.two hf2 (g:=fun i=> g (i+1)) (fun i hi=> (hv (i+1) (by simpa using hi)).ext M1.e1)
    refine ⟨c3,c4,M1.trans M2,by simp [hl2],fun i hi=> ?_⟩
    cases i with
    |zero=> exact hr1.ext M2.e2
    |succ i=> exact hr2 i (by simpa using hi)
   ·cases hs
  ·cases hs
end
end
end Go.Abs

namespace Go.Abs
section
variable {P : Program} {G : Nat → List DV} {E : Env} {fP : AC → Fr → Heap → Res}

theorem Two.Gp {bor:Bool} {cx1 cx2:Cx} {h1 h2:Heap} {w:World} (T:Two P G bor cx1 h1 cx2 h2 w) {c:Nat} {fr:Bool} {e:TypeId} {l:List AV} (hc:c < w.heap.size)
    (hel:∃(arr:Array Value) (fz:Nat×Nat),w.heap[c]? =some (Obj.cells arr e fz)∧(fr=false→fz.1=fz.2))
    (hcell:∀i (hi:i < l.length),∃v,w.cell? ⟨c,0+i,none⟩=some v∧bY cx2 w l[i] v∧(fr=true→cx2.Z c (0+i))∧(fr=false→w.frozen? ⟨c,0+i,none⟩=false))
    (hun:fr=false→(∀b,¬jE cx1 h1 b c)∧(∀b,¬jE cx2 h2 b c)∧∀o,¬cx2.Z c o∧¬cx2.B c o):
    Two P G bor cx1 h1 (cx2.add h2.n (some (c,0)) none) (h2.push (.cells fr e l)) w∧Ext cx2 w (cx2.add h2.n (some (c,0)) none) w∧
      ∀b c',jE (cx2.add h2.n (some (c,0)) none) (h2.push (.cells fr e l)) b c'→(∃b',jE cx2 h2 b' c')∨(c'=c∧fr=false):=by
  have ext:=Ext.Db T.I2 (some (c,0)) none
  have hnew:∀c',jE (cx2.add h2.n (some (c,0)) none) (h2.push (.cells fr e l)) h2.n c'→c'=c∧fr=false:=by
    intro c' ho
    cases ho with
    |blk x base hb ho ht hr=>
      rw [Heap.jk,if_pos rfl] at hb
      cases hb
      rw [Cx.qpρ,if_pos rfl] at hr
      cases hr
      exact ⟨rfl,by simpa [vD] using ho⟩
    |tok g e' κ base hb hκ hp=> rw [Heap.jk,if_pos rfl] at hb; cases hb
  obtain ⟨J,eJ,oJ⟩ := T.I2.take (.cells fr e l) (some (c,0)) none (fun c' base h => by cases h; exact ⟨hc,rfl⟩) (fun c' ho => by
      obtain ⟨rfl,hf⟩:=hnew c' ho
      obtain ⟨_,q2,q3⟩:=hun hf
      exact ⟨q2,fun _=> q3⟩) (fun κ c' base hk=> by cases hk)
    ⟨c,0,by rw [Cx.qpρ]; simp,hel,fun i hi => by
      obtain ⟨v,v1,v2,v3,v4⟩:=hcell i hi
      exact ⟨v,v1,v2.ext ext,v3,v4⟩⟩
  refine ⟨⟨T.I1,J,T.z,fun b1 b2 c' o1 o2=> ?_,T.nb,T.bb⟩,eJ,fun b c' ho=> ?_⟩
  · rcases oJ b2 c' o2 with ⟨_,o2⟩ | ⟨_,o2⟩
    · obtain ⟨rfl,hf⟩:=hnew c' o2
      exact (hun hf).1 b1 o1
    · exact T.dis b1 b2 c' o1 o2
  · rcases oJ b c' ho with ⟨_,o2⟩ | ⟨_,o2⟩
    · exact .inr (hnew c' o2)
    · exact .inl ⟨b,o2⟩

theorem Pz {bor:Bool}:∀{cs:List AV},Rc bor cs=true→∀i (hi:i < cs.length),∃x,cs[i]= .d x∧(bor && !clean x)=false:=by
 intro cs
 induction cs with
 |nil=> intro _ i hi; cases hi
 |cons a r ih=>
  intro h i hi
  simp only [Rc] at h
  split at h
  ·rename_i x
   split at h
   ·cases h
   ·rename_i hc
    cases i with
    |zero=> exact ⟨x,rfl,hc⟩
    |succ i=> exact ih h i (by simpa using hi)
  ·cases h

theorem xX {bor:Bool} {mv:Heap→Heap→Nat→Option (Nat×Heap×Heap)} (hmv:Py P G bor mv):Py P G bor (Cg bor mv):=by
 intro h1 h2 b b' h1' h2' hs cx1 cx2 w T
 unfold Cg at hs
 split at hs
 ·rename_i fr e cs hb
  obtain ⟨c,base,hr,hel,hcell⟩:=T.I1.heap b _ hb
  have hb0:=T.I1.sep.base0 _ _ _ hr
  subst hb0
  have hc:=T.I1.sep.lt _ _ _ hr
  obtain ⟨TK,own⟩:=T.kill b
  have hown:fr=false→jE cx1 h1 b c:=fun hf=> by subst hf; exact .blk _ 0 hb rfl (fun _ _=> by simp) hr
  have hnz:fr=false→∀o,¬cx2.Z c o∧¬cx2.B c o:=fun hf o=> by
   have:=T.I1.sep.nof b c (hown hf) (fun g e hh=> by rw [hb] at hh; cases hh) o
   exact ⟨fun z=> this.1 ((T.z c o).2 z),T.nb b c o (hown hf)⟩
  have hk1:fr=false→∀b2,¬jE cx1 (h1.set b .dead) b2 c:=fun hf b2 ho=> by
   obtain ⟨o1,o2⟩:=own b2 c ho
   exact o2 ⟨_,hb⟩ (T.I1.sep.inj _ _ _ o1 (hown hf))
  have hk2:fr=false→∀b2,¬jE cx2 h2 b2 c:=fun hf b2=> T.dis b b2 c (hown hf)
  split at hs
  ·rename_i had
   cases hs
   obtain ⟨T',e',o'⟩ := TK.Gp (fr := fr) (e := e) (l := cs) hc hel (fun i hi => by
    obtain ⟨v,v1,v2,v3,v4⟩:=hcell i hi
    obtain ⟨x,hx,hcl⟩:=Pz had i hi
    refine ⟨v,v1,?_,fun hf=> (T.z _ _).1 (v3 hf),v4⟩
    rw [hx] at v2 ⊢
    cases v2 with
    |d _ _ hd=> exact .d _ _ (T.conv hcl hd)) (fun hf=> ⟨hk1 hf,hk2 hf,hnz hf⟩)
   refine ⟨cx1,cx2.add h2.n (some (c,0)) none,⟨T',.refl _ _,e',fun b1 c1 ho=> ⟨b1,(own b1 c1 ho).1⟩,fun b1 c1 ho=> ?_,fun c o z=> .inl z,by simp,fun b hb'=> by rw [Heap.jk,if_neg (Nat.ne_of_lt (Heap.kH hb'))]; exact hb',fun b hb'=> by rw [Cx.qpρ,if_neg (Nat.ne_of_lt hb')]⟩,fun c1 Jh hr1=> ?_⟩
   ·rcases o' b1 c1 ho with h | ⟨rfl,hf⟩
    ·exact .inl h
    ·exact .inr ⟨b,hown hf⟩
   ·rw [hr] at hr1; cases hr1; rw [Cx.qpρ]; simp
  ·split at hs
   ·rename_i l q1 q2 hw
    cases hs
    obtain ⟨a1,a2,M,hl,hrel⟩ := uU hmv TK hw (g := fun i => (w.cell? ⟨c,0 + i,none⟩).getD undef) (fun i hi => by
     obtain ⟨v,v1,v2,_⟩:=hcell i hi
     rw [v1]; exact v2)
    have hun:fr=false→(∀b,¬jE a1 h1' b c)∧(∀b,¬jE a2 q2 b c)∧∀o,¬a2.Z c o∧¬a2.B c o:=by
     intro hf
     refine ⟨fun b2 ho=> ?_,fun b2 ho=> ?_,fun o=> ⟨fun z=> ?_,fun z=> ?_⟩⟩
     ·obtain ⟨b3,h3⟩:=M.KC b2 c ho
      exact hk1 hf b3 h3
     ·rcases M.M3 b2 c ho with ⟨b3,h3⟩ | ⟨b3,h3⟩
      ·exact hk2 hf b3 h3
      ·exact hk1 hf b3 h3
     ·rcases M.zz c o z with h | ⟨b3,h3⟩
      ·exact (hnz hf o).1 h
      ·exact hk1 hf b3 h3
     ·exact (hnz hf o).2 ((M.e2.B c o).2 z)
    obtain ⟨T',e',o'⟩ := M.two.Gp (c := c) (fr := fr) (e := e) (l := l) hc hel (fun i hi => by
     obtain ⟨v,v1,v2,v3,v4⟩:=hcell i (by omega)
     refine ⟨v,v1,?_,fun hf=> M.e2.Z _ _ ((T.z _ _).1 (v3 hf)),v4⟩
     have:=hrel i hi
     rw [v1] at this; exact this) hun
    refine ⟨a1,a2.add q2.n (some (c,0)) none,⟨T',M.e1,M.e2.trans e',fun b1 c1 ho=> ?_,fun b1 c1 ho=> ?_,fun c o z=> ?_,?_,fun b hb'=> ?_,fun b hb'=> ?_⟩,fun c1 Jh hr1=> ?_⟩
    ·obtain ⟨b3,h3⟩:=M.KC b1 c1 ho
     exact ⟨b3,(own b3 c1 h3).1⟩
    ·rcases o' b1 c1 ho with ⟨b3,h3⟩ | ⟨rfl,hf⟩
     ·rcases M.M3 b3 c1 h3 with h | ⟨b4,h4⟩
      ·exact .inl h
      ·exact .inr ⟨b4,(own b4 c1 h4).1⟩
     ·exact .inr ⟨b,hown hf⟩
    ·rcases M.zz c o z with h | ⟨b4,h4⟩
     ·exact .inl h
     ·exact .inr ⟨b4,(own b4 c h4).1⟩
    ·have:=M.hn
     simp only [Heap.BB]
     omega
    ·have hq:=M.dd b hb'
     rw [Heap.jk,if_neg (Nat.ne_of_lt (Heap.kH hq))]; exact hq
    ·rw [Cx.qpρ,if_neg (Nat.ne_of_lt (Nat.lt_of_lt_of_le hb' M.hn))]; exact M.rr b hb'
    ·rw [hr] at hr1; cases hr1; rw [Cx.qpρ]; simp
   ·cases hs
 ·cases hs

theorem U0 {bor:Bool}:Py P G bor (mv3 bor):=xX (xX (xX (xX (xX (xX (xX (fun _ _ _ _ _ _ hs=> by cases hs)))))))

theorem E_ {bor:Bool} {a a':AV} {v:Value} {cx1 cx2:Cx} {h1 h2 h1' h2':Heap} {w:World} (T:Two P G bor cx1 h1 cx2 h2 w) (hs:Bz bor h1 h2 a=some (a',h1',h2')) (hv:bY cx1 w a v):
  CF P G bor cx1 h1 cx2 h2 w h1' h2' fun cx'=> bY cx' w a' v:=by
 unfold Bz at hs
 split at hs
 ·split at hs
  ·cases hs
  ·rename_i hc
   cases hs
   cases hv with | d _ _ hd=> exact .same T (.d _ _ (T.conv hc hd))
 ·cases hs; cases hv; exact .same T .nilsl
 ·exact BJ U0 T hs hv

noncomputable def Hz (bor:Bool) (l:List AV):Heap→Heap→Option (List AV×Heap×Heap):=
 List.rec (motive:=fun _=> Heap→Heap→Option (List AV×Heap×Heap)) (fun h1 h=> some ([],h1,h))
   (fun a _ ih h1 h => match Bz bor h1 h a with
    |some (v,a1,b1)=> match ih a1 b1 with
     |some (l,a2,b2)=> some (v::l,a2,b2)
     |none=> none
    |none=> none) l
theorem Jw (bor : Bool) (a : AV) (r : List AV) (h1 h : Heap) : Hz bor (a :: r) h1 h = match Bz bor h1 h a with
        |some (v,a1,b1)=> match Hz bor r a1 b1 with
          |some (l,a2,b2)=> some (v::l,a2,b2)
          |none=> none
        |none=> none:=rfl

theorem KD {bor:Bool}:∀{l l':List AV} {cx1 cx2:Cx} {h1 h2 h1' h2':Heap} {w:World},Two P G bor cx1 h1 cx2 h2 w→Hz bor l h1 h2=some (l',h1',h2')→∀{g:Nat→Value},(∀i (hi:i < l.length),bY cx1 w l[i] (g i))→
  CF P G bor cx1 h1 cx2 h2 w h1' h2' fun cx'=> l.length=l'.length∧∀i (hi:i < l'.length),bY cx' w l'[i] (g i):=by
 intro l
 induction l with
 |nil=> intro l' cx1 cx2 h1 h2 h1' h2' w T hs g hv; cases hs; exact .same T ⟨rfl,fun i hi=> absurd hi (by simp)⟩
 |cons a r ih=>
  intro l' cx1 cx2 h1 h2 h1' h2' w T hs g hv
  rw [Jw] at hs
  split at hs
  ·rename_i d q1 q2 hf1
   split at hs
   ·rename_i l2 q3 q4 hf2
    cases hs
    obtain ⟨c1,c2,M1,hr1⟩:=E_ T hf1 (hv 0 (by simp))
    obtain ⟨c3,c4,M2,hl2,hr2⟩:=ih M1.two hf2 (g:=fun i=> g (i+1)) (fun i hi=> (hv (i+1) (by simpa using hi)).ext M1.e1)
    refine ⟨c3,c4,M1.trans M2,by simp [hl2],fun i hi=> ?_⟩
    cases i with
    |zero=> exact hr1.ext M2.e2
    |succ i=> exact hr2 i (by simpa using hi)
   ·cases hs
  ·cases hs

theorem M4 {bor:Bool} {a a':AV} {v:Value} {cx1 cx2:Cx} {h1 h2 h1' h2':Heap} {w:World} (T:Two P G bor cx1 h1 cx2 h2 w) (hs:y9 bor h1 h2 a=some (a',h1',h2')) (hv:bY cx1 w a v):
  CF P G bor cx1 h1 cx2 h2 w h1' h2' fun cx'=> bY cx' w a' v:=by
 unfold y9 at hs
 split at hs
 ·rename_i l
  change (match Hz bor l h1 h2 with | some (l,a,b)=> some (AV.tup l,a,b) | none=> none)=_ at hs
  split at hs
  ·rename_i l2 q1 q2 hf
   cases hs
   cases hv with
   |tup _ cs' hc h2=>
    obtain ⟨c1,c2,M,hl,hr⟩:=KD T hf (g:=fun i=> cs'.getD i undef) h2
    exact ⟨c1,c2,M,.tup _ _ (by rw [hc,hl]) hr⟩
  ·cases hs
 ·exact E_ T hs hv

mutual
theorem BK {cx1 cx2:Cx} {w:World} (hz:∀c o,cx1.Z c o→cx2.Z c o) {a:AV} {v:Value} (hc:sP a=true) (hv:bY cx1 w a v):bY cx2 w a v:=by
 have hF:∀c o,cx1.F false c o→cx2.F false c o:=fun c o hf=> by
  rcases hf with z | ⟨e,_⟩
  ·exact .inl (hz c o z)
  ·cases e
 cases a with
 |d x=> cases hv with | d _ _ hd=> exact .d _ _ (hd.clean hF (by simpa [sP] using hc))
 |nilsl=> cases hv; exact .nilsl
 |full b n cs=> cases hv with | full _ _ _ a hd=> exact .full _ _ _ a (hd.clean hF (by simpa [sP,clean] using hc))
 |kQ g o=> cases hv; exact .kQ _ _
 |ifc t a=> cases hv with | ifc _ _ v' hv'=> exact .ifc _ _ _ (BK hz (by simpa [sP] using hc) hv')
 |agg l=> cases hv with | agg _ cs' h1 h2=> exact .agg _ _ h1 (wL hz (by simpa [sP] using hc) h2)
 |tup l=> cases hv with | tup _ cs' h1 h2=> exact .tup _ _ h1 (wL hz (by simpa [sP] using hc) h2)
 |fn g fs cs=>
  simp only [sP,Bool.and_eq_true] at hc
  cases hv with
  |fn _ _ _ fs' cs' e1 e2 r1 r2 hy=> exact .fn _ _ _ _ _ e1 e2 (wL hz hc.1.2 r1) (wL hz hc.2 r2) hy
  |yld=> simp [Ba] at hc
 |app _ _ _ _=> simp [sP] at hc
 |ptr _ _=> simp [sP] at hc
 |sref _ _ _ _ _ _=> simp [sP] at hc
 |x_ _ _ _ _=> simp [sP] at hc
 |uo _=> simp [sP] at hc
 |itr _=> simp [sP] at hc
 |und=> simp [sP] at hc
theorem wL {cx1 cx2:Cx} {w:World} (hz:∀c o,cx1.Z c o→cx2.Z c o) {l:List AV} {g:Nat→Value} (hc:zL l=true) (hv:∀i (hi:i < l.length),bY cx1 w l[i] (g i)):∀i (hi:i < l.length),bY cx2 w l[i] (g i):=by
 cases l with
 |nil=> intro i hi; cases hi
 |cons a r=>
  simp only [zL,Bool.and_eq_true] at hc
  intro i hi
  cases i with
  |zero=> exact BK hz hc.1 (hv 0 (by simp))
  |succ i=> exact wL hz (g:=fun i=> g (i+1)) hc.2 (fun j hj=> hv (j+1) (by simpa using hj)) i (by simpa using hi)
end

theorem Fa (hE:EOk P G E) (hS:Snd P G fP):yI P G E fP:=by
 intro f args h ex v h' hc cx w args' I hl ha
 refine ⟨xU hE hc,fun cs=> ?_⟩
 unfold call at hc
 split at hc
 ·cases hc
 ·rename_i fn' hf
  split at hc
  ·
   rename_i ds bor hst
   have hst:stripArgs h args=some (ds,bor):=by
    split at hst
    ·cases hst
    ·exact hst
   -- the aa8 context
   let B:Nat→Nat→Prop:=fun c o=> match bor with
    |true=> (w.cell? ⟨c,o,none⟩).isSome=true
    |false=> cx.B c o
   have hB1:∀c o,cx.B c o→B c o:=fun c o z=> by
    cases bor with
    |true=> exact I.sep.zc c o (.inr z)
    |false=> exact z
   have hB2:∀c o,B c o→(w.cell? ⟨c,o,none⟩).isSome=true:=fun c o z=> by
    cases bor with
    |true=> exact z
    |false=> exact I.sep.zc c o (.inr z)
   have J:=I.own hB1 hB2
   obtain ⟨hl2,hd⟩:=FP I (F':=(cx.own B).F) (fun b c o hf=> hf.imp id (fun ⟨e,z⟩=> ⟨e,hB1 c o z⟩)) (fun e c o z=> .inr ⟨rfl,by subst e; exact z⟩) hst (g:=fun i=> args'.getD i undef) ha
   have hargs:∀i (hi:i < (ds.map inj).length),bY (cx.own B) w (ds.map inj)[i] (args'.getD i undef):=fun i hi=> by
    rw [List.getElem_map]
    exact Ec (hd i (by simpa using hi))
   split at hc
   ·rename_i v1 h1 pp hcall
    split at hc
    ·rename_i v2 q1 h2 had
     cases hc
     obtain ⟨cx1,w1,fr,I1,S1,st,hfn,hlv⟩:=z_ hE hS hcall J (by simp [hl,hl2]) hargs cs
     rcases hlv with ⟨_,v',hv,hlv⟩ | ⟨_,e,_⟩
     ·obtain ⟨I2,S2,hown,hz⟩:=I.back I1 S1
      have T : Two P G bor cx1 h1 { cx with Z := cx1.Z } h w1 := ⟨I1,I2,fun _ _ => Iff.rfl,fun b1 b2 c o1 o2 => by
        have:=hown b1 c o1
        have:c < w.heap.size:=by
         cases o2 with
         |blk x base hb ho ht hr=> exact I.sep.lt _ _ _ hr
         |tok g e κ base hb hκ hp=> exact I.sep.ltK _ _ _ _ hκ hp
        omega,fun b c o ho z=> by
        have:=hown b c ho
        have:=zlt I (o:=o) (.inr z)
        omega,by
        cases bor with
        |true=> exact .inl rfl
        |false=> exact .inr (fun c o z=> (S1.ext.B c o).2 z)⟩
      obtain ⟨c1,c2,M,hr⟩:=M4 T had hv
      refine ⟨c2,w1,fr,M.two.I2,⟨S2.ext.trans M.e2,⟨S2.fr.kept,fun b c ho hc=> ?_,fun c o z=> ?_,Nat.le_trans S2.fr.hn M.hn,fun b hb=> M.dd b (S2.fr.dd b hb),fun b hb=> (M.rr b (Nat.lt_of_lt_of_le hb S2.fr.hn)).trans (S2.fr.rr b hb)⟩⟩,st,hfn,.inl ⟨rfl,v',hr,hlv⟩⟩
      ·rcases M.M3 b c ho with ⟨b',h'⟩ | ⟨b',h'⟩
       ·exact S2.fr.owns b' c h' hc
       ·have:=hown b' c h'; omega
      ·rcases M.zz c o z with z | ⟨b',h'⟩
       ·exact S2.fr.z c o z
       ·exact .inr (.inl (hown b' c h'))
     ·cases e
    ·cases hc
   ·rename_i v1 v1' h1 pp hcall
    split at hc
    ·rename_i hcl
     cases hc
     obtain ⟨cx1,w1,fr,I1,S1,st,hfn,hlv⟩:=z_ hE hS hcall J (by simp [hl,hl2]) hargs cs
     rcases hlv with ⟨e,_⟩ | ⟨v0,e,v',hv,hlv⟩
     ·cases e
     ·cases e
      obtain ⟨I2,S2,hown,hz⟩:=I.back I1 S1
      exact ⟨_,w1,fr,I2,S2,st,hfn,.inr ⟨_,rfl,v',BK (cx1:=cx1) (cx2:={cx with Z:=cx1.Z}) (fun _ _ z=> z) hcl hv,hlv⟩⟩
    ·cases hc
   ·cases hc
  ·
   split at hc
   ·rename_i ex2 v2 h2 pp hcall
    cases hc
    exact z_ hE hS hcall I hl ha cs
   ·cases hc
end
end Go.Abs

namespace Go.Abs
section
variable {P : Program} {G : Nat → List DV} {cx : Cx} {w : World}

def n_ (o:Option COp):Prop:=∀c,o=some c→zM c=false
theorem n_.none:n_ none:=fun _ h=> by cases h
theorem n_.some {c:COp} (h:zM c=false):n_ (some c):=fun _ e=> by cases e; exact h
theorem n_.bind {α:Type} {x:Option α} {f:α→Option COp} (h:∀a,n_ (f a)):n_ (x.bind f):=fun c e=> by
 cases x with
 |none=> cases e
 |some a=> exact h a c e
theorem n_.bind' {α:Type} {x:Option α} {f:α→Option COp} (h:∀a,n_ (f a)):n_ (x >>=f):=n_.bind h
theorem n_.map {α:Type} {x:Option α} {f:α→COp} (h:∀a,zM (f a)=false):n_ (x.map f):=fun c e=> by
 cases x with
 |none=> cases e
 |some a=> cases e; exact h a

theorem D7 (mu:List String) (me:String) (b:Builtin) (ts:Array TypeId) (xs:List X):n_ (sQ P mu me b ts xs):=by
 unfold sQ
 repeat' first
  |exact n_.none
  |exact n_.some rfl
  |exact n_.map (fun _=> rfl)
  |(refine n_.bind' (fun _=> ?_))
  |split

theorem D8 (s d:TypeId) (x:X):n_ (uE P s d x):=by
 unfold uE
 repeat' first
  |exact n_.none
  |exact n_.some rfl
  |(refine n_.bind' (fun _=> ?_))
  |split

theorem M5 {o:Oper} {c:COp} {mu:List String} {me:String} (hc:yS P mu me o=some c) (hp:zM c=true):
  (∃e zs,c= .alloc e zs∧o.op= .alloc e∧nP P e=some zs)∨(∃e x y,c= .box e y∧o.op= .box e x∧cX x=some y)∨
  (∃ t e s n ps zs l,c = .bsl e s n zs l ∧ o.op = .buildSlice t n ps ∧ P.underlying t = some (.slice e) ∧ mP P e = some s ∧ nP P e = some zs ∧
   (ps.toList.mapM fun (i,x)=> do some (i*s,s,←cX x))=some l∧n*s≤65536∧zs.length=s)∨
  (∃t e s by_ zs l l' k k',c= .IM e s by_ zs l' k'∧o.op= .makeSlice t l k∧P.underlying t=some (.slice e)∧mP P e=some s∧byT P e=some by_∧nP P e=some zs∧zs.length=s∧cX l=some l'∧cX k=some k'):=by
 unfold yS at hc
 split at hc
 case h_4=>
  rename_i hop
  simp only [Option.bind_eq_bind,Option.bind_eq_some_iff,Option.some.injEq] at hc
  obtain ⟨zs',hz,rfl⟩:=hc
  exact .inl ⟨_,_,rfl,hop,hz⟩
 case h_5=>
  rename_i hop
  simp only [Option.bind_eq_bind,Option.bind_eq_some_iff,Option.some.injEq] at hc
  obtain ⟨y,hy,rfl⟩:=hc
  exact .inr (.inl ⟨_,_,_,rfl,hop,hy⟩)
 case h_7=>
  rename_i hop
  split at hc
  ·rename_i e hu
   simp only [Option.bind_eq_bind,Option.bind_eq_some_iff] at hc
   obtain ⟨s,hs,zs,hz,l,hl,hc⟩:=hc
   split at hc
   ·rename_i hcnd
    cases hc
    exact .inr (.inr (.inl ⟨_,_,_,_,_,_,_,rfl,hop,hu,hs,hz,hl,hcnd.1,hcnd.2⟩))
   ·cases hc
  ·cases hc
 case h_18=>
  rename_i hop
  split at hc
  ·rename_i e hu
   simp only [Option.bind_eq_bind,Option.bind_eq_some_iff] at hc
   obtain ⟨s,hs,zs,hz,hc⟩:=hc
   split at hc
   ·rename_i hzs
    simp only [Option.bind_eq_some_iff,Option.some.injEq] at hc
    obtain ⟨n,hn,y1,h1,y2,h2,rfl⟩:=hc
    exact .inr (.inr (.inr ⟨_,_,_,_,_,_,_,_,_,rfl,hop,hu,hs,hn,hz,hzs,h1,h2⟩))
   ·cases hc
  ·cases hc
 all_goals
  exfalso
  have key:=fun (hn:n_ _)=> hn c hc
  refine absurd hp ?_
  rw [key ?_]
  ·simp
  ·repeat' first
    |exact n_.none
    |exact n_.some rfl
    |exact n_.map (fun _=> rfl)
    |exact D7 _ _ _ _ _
    |exact D8 _ _ _
    |(refine n_.bind' (fun _=> ?_))
    |split

def R4 (_P:Program) (cx:Cx) (w:World) (v:AV) (blk:Blk) (b:Nat) (r:Result Next):Prop:=
 ∃(e:TypeId) (cs:List AV) (arr:Array Value) (u:Value),blk= .cells false e cs∧r= .ok (.value u) {w with heap:=w.heap.push (.cells arr e (0,0))}∧(∀i (hi:i < cs.length),i < arr.size∧bY cx w cs[i] (arr.getD i undef))∧
  ∀(cx':Cx) (w':World),cx'.ρ b=some (w.heap.size,0)→bY cx' w' v u

theorem LK (b c:Nat):∀(cx':Cx) (w':World),cx'.ρ b=some (c,0)→bY cx' w' (.ptr b 0) (.pointer (some ⟨c,0,none⟩)):=fun _cx' _w' h=> .ptr b 0 c 0 h
theorem Jy (b c size n m:Nat) (hnm:n≤m):∀(cx':Cx) (w':World),cx'.ρ b=some (c,0)→bY cx' w' (.sref b 0 size n m true) (.slice (some ⟨c,0,none⟩) n m):=fun cx' w' h=>
 .sref b 0 size n m true c 0 m _ h hnm (Nat.le_refl _) (fun _=> rfl) (.inl rfl) (fun hx=> by cases hx)

theorem KE {o:Oper} {c:COp} {mu:List String} {me:String} (hc:yS P mu me o=some c) {a:Act} {tm:List AV} (ht:uF cx w tm a.tmps) {b:Nat} {v:AV} {blk:Blk} (hip:zM c=true) (hp:pR c tm b=some (v,blk)):
    R4 P cx w v blk b ((execOp a.eval o).run P w):=by
  have hx:∀{y:Operand} {x:X},cX y=some x→bY cx w (x.ev tm) (a.eval y):=fun h=> zR ht h
  rcases M5 hc hip with ⟨e,zs,rfl,hop,hz⟩ | ⟨e,x,y,rfl,hop,hy⟩ | ⟨t,e,size,n,ps,zs,l,rfl,hop,hu,hsz,hz,hl,hn,hzs⟩ | ⟨t,e,size,bytes,zs,l,l',k,k',rfl,hop,hu,hsz,hby,hz,hzs,h1,h2⟩
  · cases hp
    obtain ⟨z,z1,z2⟩:=sU (P:=P) (w:=w) (cx:=cx) hz
    refine ⟨_,_,z.cells,.pointer (some ⟨w.heap.size,0,none⟩),rfl,?_,z2.at,LK b _⟩
    unfold execOp; rw [hop]
    simp only [Instr.alloc,Sem.run_bind,z1,Result.andThen_ok,newVar,nX,Sem.run_pure]
  · simp only [pR] at hp
    split at hp
    · rename_i hk
      cases hp
      have hcl:=yE (hx hy) (by simpa [okCells] using hk)
      refine ⟨_,_,_,.pointer (some ⟨w.heap.size,0,none⟩),rfl,?_,hcl.at,LK b _⟩
      unfold execOp; rw [hop]
      simp only [Instr.box,Sem.run_bind,newVar,nX,Result.andThen_ok,Sem.run_pure]
    · cases hp
  · simp only [pR] at hp
    split at hp
    · rename_i cs hcs
      cases hp
      obtain ⟨m1,m2⟩:=zZ hl
      obtain ⟨z,z1,z2⟩:=sU (P:=P) (w:=w) (cx:=cx) hz
      have hzl:z.cells.size=size:=by have:=z2.len; simp at this; omega
      obtain ⟨zz,zz1,zz2⟩:∃zz:Array Value,((n*size=0∧zz= #[])∨(¬n*size=0∧zz=z.cells))∧jg cx w (vv zs n) ((Array.range (n*size)).map (fun i=> zz[i % zz.size]!)).toList:=by
        by_cases e0:n*size=0
        · refine ⟨#[],.inl ⟨e0,rfl⟩,?_⟩
          have hl:(vv zs n).length=0:=by rw [vE,hzs]; exact e0
          refine ⟨by simp [hl,e0],fun i hi=> by omega⟩
        · refine ⟨z.cells,.inr ⟨e0,rfl⟩,?_⟩
          have:=(xD z2 n (m:=n*size) (by rw [hzl])).1
          exact this
      obtain ⟨c2,f1,f2⟩ := Cu (cx := cx) (w := w) (tm := tm) (place := fun i => some (i * size,size)) l (ps.map fun (p : Nat × Operand) => (p.1,a.eval p.2)).toList (vv zs n) cs _ (by simpa using m1) (fun i hi hj => by
        have hj':i < ps.size:=by simpa using hj
        have:=m2 i hi (by simpa using hj')
        simp only [Option.bind_eq_bind,Option.bind_eq_some_iff,Option.some.injEq] at this
        obtain ⟨y,hy,e⟩:=this
        rw [Array.getElem_toList] at hy e
        simp only [Array.getElem_toList,Array.getElem_map]
        rw [←e]
        exact ⟨rfl,hx hy⟩) zz2 hcs
      refine ⟨_,_,c2,.slice (some ⟨w.heap.size,0,none⟩) n n,rfl,?_,f2.at,Jy b _ _ _ _ (Nat.le_refl _)⟩
      unfold execOp; rw [hop]
      show (do pure (Next.value (←Instr.buildSlice t n (ps.map fun (p:Nat×Operand)=> (p.1,a.eval p.2)))):Sem Next).run P w=_
      unfold Instr.buildSlice
      have:¬(n*size > 2 ^ 24):=by omega
      rcases zz1 with ⟨e0,rfl⟩ | ⟨e0,rfl⟩
      · rw [e0] at f1 this
        simp only [Sem.run_bind,run_underlying hu,Result.andThen_ok,jY hsz,this,if_false,e0,if_true,Sem.run_pure,f1,nX]
      · simp only [Sem.run_bind,run_underlying hu,Result.andThen_ok,jY hsz,this,if_false,e0,z1,Sem.run_pure,f1,nX]
    · cases hp
  · simp only [pR] at hp
    split at hp
    · rename_i n m e1 e2
      split at hp
      · rename_i hb
        cases hp
        simp only [Bool.and_eq_true] at hb
        have b1:=jB hb.1.1
        have b2:=jB hb.1.2
        have b3:=jB hb.2
        obtain ⟨k1,hk1⟩:=sS e1 (hx h1)
        obtain ⟨k2,hk2⟩:=sS e2 (hx h2)
        obtain ⟨z,z1,z2⟩:=sU (P:=P) (w:=w) (cx:=cx) hz
        have hzl:z.cells.size=size:=by have:=z2.len; simp at this; omega
        obtain ⟨zz,zz1,zz2⟩:∃zz:Array Value,((m*size=0∧zz= #[])∨(¬m*size=0∧zz=z.cells))∧jg cx w (vv zs m) ((Array.range (m*size)).map (fun i=> zz[i % zz.size]!)).toList:=by
          by_cases e0:m*size=0
          · refine ⟨#[],.inl ⟨e0,rfl⟩,?_⟩
            have hl:(vv zs m).length=0:=by rw [vE,hzs]; exact e0
            refine ⟨by simp [hl,e0],fun i hi=> by omega⟩
          · refine ⟨z.cells,.inr ⟨e0,rfl⟩,?_⟩
            have:=(xD z2 m (m:=m*size) (by rw [hzl])).1
            exact this
        obtain ⟨inf,i1,i2⟩:∃i,P.info? e=some i∧i.bytes=bytes:=by
          unfold byT at hby
          cases hi:P.info? e with
          |none=> rw [hi] at hby; cases hby
          |some i=> rw [hi] at hby; cases hby; exact ⟨i,rfl,rfl⟩
        refine ⟨_,_,_,.slice (some ⟨w.heap.size,0,none⟩) n m,rfl,?_,zz2.at,Jy b _ _ _ _ b1⟩
        unfold execOp; rw [hop]
        simp only [hk1,hk2]
        unfold Instr.makeSlice
        have w1:=wrap_i64_small (n:=n) (by omega)
        have w2:=wrap_i64_small (n:=m) (by omega)
        have t1:¬((bytes:Int)*(m:Int) > 2 ^ 48):=by
          have:((m*bytes:Nat):Int)≤140737488355328:=by omega
          rw [Int.natCast_mul,Int.mul_comm] at this
          omega
        have t2:¬((m:Int) < 0):=by omega
        have t3:¬((n:Int) < 0):=by omega
        have t4:¬((n:Int) > (m:Int)):=by omega
        rcases zz1 with ⟨e0,rfl⟩ | ⟨e0,rfl⟩
        · simp only [Sem.run_bind,run_underlying hu,Result.andThen_ok,asInt,asIntOf,Sem.run_pure,run_typeInfo w i1,i2,Int.ofNat_eq_natCast,w1,w2,t1,t2,t3,t4,decide_false,Bool.or_false,Bool.false_eq_true,if_false,run_askRoom,jY hsz,Int.toNat_natCast,e0,if_true,nX]
        · simp only [Sem.run_bind,run_underlying hu,Result.andThen_ok,asInt,asIntOf,Sem.run_pure,run_typeInfo w i1,i2,Int.ofNat_eq_natCast,w1,w2,t1,t2,t3,t4,decide_false,Bool.or_false,Bool.false_eq_true,if_false,run_askRoom,jY hsz,Int.toNat_natCast,e0,z1,nX]
      · cases hp
    · cases hp
end
end Go.Abs

namespace Go.Abs

theorem xY {tm tm':List AV}:∀(ps:List (Nat×Nat×X)) (cs:List AV),(∀p∈ps,p.2.2.ev tm=p.2.2.ev tm')→uD tm cs ps=uD tm' cs ps:=by
 intro ps
 induction ps with
 |nil=> intro cs _; rfl
 |cons p ps ih=>
  intro cs h
  obtain ⟨off,sz,x⟩:=p
  have h0:=h (off,sz,x) (by simp)
  simp only at h0
  simp only [uD,h0]
  split
  ·exact ih _ (fun q hq=> h q (by simp [hq]))
  ·rfl

theorem vU {tm tm':List AV} {d:Nat} {o:Option X} (h:∀x∈o.toList,x.ev tm=x.ev tm'):An tm d o=An tm' d o:=by
 cases o with
 |none=> rfl
 |some x=> simp only [An]; rw [h x (by simp)]
theorem qw {tm tm':List AV} {l:List X} (h:∀x∈l,x.ev tm=x.ev tm'):l.map (X.ev tm)=l.map (X.ev tm'):=List.map_congr_left h

theorem yJ {c:COp} {E:Env} {hp:Heap} {tm tm':List AV} (h:∀x∈c.xs,x.ev tm=x.ev tm'):gI c E hp tm=gI c E hp tm':=by
  cases c <;> simp only [COp.xs,List.mem_cons,List.not_mem_nil,or_false,forall_eq_or_imp,forall_eq,List.mem_append,List.mem_map] at h
  case build zs ps=>
    simp only [gI,zF,xY ps zs (fun p hp=> h _ ⟨p,hp,rfl⟩)]
  case bsl e size n zs ps=>
    simp only [gI,IT,xY ps _ (fun p hp=> h _ ⟨p,hp,rfl⟩)]
  case Mr f fs cs=>
    simp only [gI,EC,qw (l:=fs) (fun x hx=> h x (.inl hx)),qw (l:=cs) (fun x hx=> h x (.inr hx))]
  case Kc size x lo hi mx=>
    have e1:=vU (o:=lo) (d:=0) (fun x hx=> h.2 x (.inl (.inl hx)))
    have e2:∀y,hi=some y→y.ev tm=y.ev tm':=fun y e=> h.2 y (.inl (.inr (by simp [e])))
    have e3:∀y,mx=some y→y.ev tm=y.ev tm':=fun y e=> h.2 y (.inr (by simp [e]))
    cases hi with
    |none=> cases mx with
      |none=> simp only [gI,yQ,h.1,e1]
      |some z=> simp only [gI,yQ,h.1,e1,e3 z rfl]
    |some y=> cases mx with
      |none=> simp only [gI,yQ,h.1,e1,e2 y rfl]
      |some z=> simp only [gI,yQ,h.1,e1,e2 y rfl,e3 z rfl]
  case Ey x lo hi=>
    simp only [gI,qE,h.1,vU (o:=lo) (fun x hx=> h.2 x (.inl hx)),vU (o:=hi) (fun x hx=> h.2 x (.inr hx))]
  case F8 n size x lo hi mx=>
    simp only [gI,zG,h.1,vU (o:=lo) (fun x hx=> h.2 x (.inl (.inl hx))),vU (o:=hi) (fun x hx=> h.2 x (.inl (.inr hx))),vU (o:=mx) (fun x hx=> h.2 x (.inr hx))]
  case F9 f args=> simp only [gI,GZ,qw h]
  case oU f args=> simp only [gI,G4,h.1,qw h.2]
  case inv x m args=> simp only [gI,IU,h.1,qw h.2]
  case Et p args=> simp only [gI,Al,qw h]
  case lib k args=> simp only [gI,yx,qw h]
  case dfr f args=> simp only [gI,IW,h.1,qw h.2]
  case clone f e s n m x=>
    have hc:(X.c (.full false 0 [])).ev tm=(X.c (.full false 0 [])).ev tm':=rfl
    simp only [gI,xu,s_app,h,hc]
  case mn l=> simp only [gI,Kg,List.map_congr_left (fun x hx=> congrArg wm (h x hx))]
  case mx l=> simp only [gI,Kh,List.map_congr_left (fun x hx=> congrArg wm (h x hx))]
  all_goals
    first
    |rfl
    | (simp only [gI,IS,uN,Ez,uM,xq,vw,wS,FC,B_,EA,Am,EB,vJ,Bt,Bu,zH,Ca,As,Au,Cb,yX,vC,Bv,ED,EE,Cc,zI,vM,Ce,s_app,Bw,
        By,IV,zJ,BU,BS,EF,xw,EG,zK,EH,Cf,IX,h]; done)
    | (simp only [gI,IS,uN,Ez,uM,xq,vw,wS,FC,B_,EA,Am,EB,vJ,Bt,Bu,zH,Ca,As,Au,Cb,yX,vC,Bv,ED,EE,Cc,zI,vM,Ce,s_app,Bw,
        By,IV,zJ,BU,BS,xu,EF,xw,EG,zK,EH,Cf,IX,h.1,h.2.1,h.2.2]; done)
    | (obtain ⟨h1,h2⟩ := h
       simp only [gI,IS,uN,Ez,uM,xq,vw,wS,FC,B_,EA,Am,EB,vJ,Bt,Bu,zH,Ca,As,Au,Cb,yX,vC,Bv,ED,EE,Cc,zI,vM,Ce,s_app,Bw,
        By,IV,zJ,BU,BS,xu,EF,xw,EG,zK,EH,Cf,IX,h1,h2]; done)
    |skip

theorem CG {c:COp} {b:Nat} {tm tm':List AV} (h:∀x∈c.xs,x.ev tm=x.ev tm'):pR c tm b=pR c tm' b:=by
 cases c <;> simp only [COp.xs,List.mem_cons,List.not_mem_nil,or_false,forall_eq_or_imp,forall_eq,List.mem_append,List.mem_map] at h <;> first
  |rfl
  |(simp only [pR,h]; done)
  |(obtain ⟨h1,h2⟩:=h; simp only [pR,h1,h2]; done)
  |(simp only [pR,xY _ _ (fun p hp=> h _ ⟨p,hp,rfl⟩)]; done)

theorem FQ {c:COp} {tm tm':List AV} (h:∀x∈c.xs,x.ev tm=x.ev tm'):mI tm c=mI tm' c:=by
 cases c <;> simp only [COp.xs,List.mem_cons,List.not_mem_nil,or_false,forall_eq_or_imp,forall_eq,List.mem_append,List.mem_map] at h <;> first
  |rfl
  |(simp only [mI,h]; done)
  |(obtain ⟨h1,h2⟩:=h; simp only [mI,h1,h2]; done)

theorem KG {c:COp} {E:Env} {h h':Heap} {tm:List AV} {v:AV} (hs:still c=true) (hr:gI c E h tm= .val v h'):h'=h:=by
 cases c <;> simp only [still,Bool.false_eq_true] at hs <;> revert hr <;>
  simp only [gI,IS,uN,uM,vw,wS,FC,B_,EA,vJ,Bt,EC,zF,yQ,qE,zG,zH,Ca,As,Au,Cb,yX,vC,Cc,zI,vM,C8,Ce,Kg,Kh,EH,Cf,ov] <;>
  (repeat' split) <;> (intro hr; cases hr) <;> rfl

def HV (h:Heap):St1→St1
 | .val v _=> .val v h
 |s=> s

theorem HY {c:COp} {E:Env} {h1 h2:Heap} {tm:List AV} (hs:still c=true) (hd:mI tm c=false):gI c E h2 tm=HV h2 (gI c E h1 tm):=by
 cases c <;> simp only [still,Bool.false_eq_true] at hs
 case load ag n a=>
  simp only [gI,uM]
  have:loadA E.kQ h2 ag n (a.ev tm)=loadA E.kQ h1 ag n (a.ev tm):=by
   simp only [mI] at hd
   unfold loadA
   split
   ·rename_i hx; rw [hx] at hd; cases hd
   ·rfl
   ·rfl
   ·rfl
  rw [this]
  cases loadA E.kQ h1 ag n (a.ev tm) <;> rfl
 case look kk ag zs ok m k=>
  simp only [mI] at hd
  simp only [gI,vC]
  cases hm:m.ev tm
  case uo b=> rw [hm] at hd; cases hd
  case d x=>
   cases hk:strip (k.ev tm) with
   |none=> rfl
   |some kd=> cases x <;> simp only <;> (repeat' split) <;> first | rfl | simp_all [HV]
  all_goals
   cases hk:strip (k.ev tm) with
   |none=> rfl
   |some kd=> rfl
 case len k x=>
  simp only [mI] at hd
  simp only [gI,vM]
  cases hm:x.ev tm <;> rw [hm] at hd <;> first
   |(cases hd; done)
   |((repeat' split) <;> first | rfl | simp_all)
 case b2s x=>
  simp only [mI] at hd
  simp only [gI,vJ]
  have:slView h2 1 (x.ev tm)=slView h1 1 (x.ev tm):=by
   cases hm:x.ev tm <;> rw [hm] at hd <;> first
    |(cases hd; done)
    |(unfold slView; split <;> first | rfl | simp_all)
  rw [this]
  (repeat' split) <;> first | rfl | simp_all [HV]
 all_goals
  simp only [gI,IS,uN,vw,wS,FC,B_,EA,Bt,EC,zF,yQ,qE,zG,zH,Ca,As,Au,Cb,yX,Cc,zI,C8,Ce,Kg,Kh,EH,Cf,ov]
  first
  |rfl
  |((repeat' split) <;> first | rfl | simp_all [HV])

theorem Jz {j k:IntKind} (h:Br j k=true):j=k:=by
 have:=Nat.eq_of_beq_eq_true h
 cases j <;> cases k <;> simp [GX] at this <;> rfl
theorem PC {x y:Int} (h:iEq x y=true):x=y:=by
 cases x <;> cases y <;> simp [iEq] at h <;> simp [h]
theorem Gq {f g:Fn} (h:Mv f g=true):f=g:=by
 unfold Mv at h
 split at h
 ·rw [Nat.eq_of_beq_eq_true h]
 ·rw [Nat.eq_of_beq_eq_true h]
 ·exact of_decide_eq_true h
theorem Gr (f:Fn):Mv f f=true:=by
 unfold Mv
 split
 ·simp_all
 ·simp_all
 ·simp_all
theorem KH {x y:List UInt8} (h:strEq x y=true):x=y:=by simpa [strEq] using h

mutual
theorem A7 {a b:DV} (h:tY a b=true):a=b:=by
 cases a with
 |b x=> cases b <;> simp [tY] at h <;> simp [h]
 |i k n=>
  cases b with
  |i k' n'=>
   simp only [tY,Bool.and_eq_true] at h
   rw [Jz h.1,PC h.2]
  |_=> simp [tY] at h
 |s x=>
  cases b with
  |s y=> simp only [tY] at h; rw [KH h]
  |_=> simp [tY] at h
 |sG=> cases b <;> simp [tY] at h <;> rfl
 |yj=> cases b <;> simp [tY] at h <;> rfl
 |nili=> cases b <;> simp [tY] at h <;> rfl
 |xN=> cases b <;> simp [tY] at h <;> rfl
 |nsl=> cases b <;> simp [tY] at h <;> rfl
 |sl p n x=>
  cases b with
  |sl q m y=>
   simp only [tY,Bool.and_eq_true,beq_iff_eq] at h
   rw [h.1.1,m_ h.1.2,rz h.2]
  |_=> simp [tY] at h
 |bx p x n=>
  cases b with
  |bx q y m=>
   simp only [tY,Bool.and_eq_true,beq_iff_eq] at h
   rw [h.1.1,m_ h.1.2,rz h.2]
  |_=> simp [tY] at h
 |fn f x y=>
  cases b with
  |fn g u v=>
   simp only [tY,Bool.and_eq_true] at h
   rw [Gq h.1.1,rz h.1.2,rz h.2]
  |_=> simp [tY] at h
 |ifc t x=>
  cases b with
  |ifc u y=>
   simp only [tY,Bool.and_eq_true] at h
   rw [show t=u from m_ h.1,A7 h.2]
  |_=> simp [tY] at h
 |agg x=>
  cases b with
  |agg y=> simp only [tY] at h; rw [rz h]
  |_=> simp [tY] at h
theorem rz {a b:List DV} (h:xO a b=true):a=b:=by
 cases a with
 |nil=> cases b with
  |nil=> rfl
  |cons _ _=> simp [xO] at h
 |cons x r=> cases b with
  |nil=> simp [xO] at h
  |cons y q=>
   simp only [xO,Bool.and_eq_true] at h
   rw [A7 h.1,rz h.2]
end
mutual
theorem xG {a b:AV} (h:oV a b=true):a=b:=by
 cases a with
 |d x=>
  cases b with
  |d y=> simp only [oV] at h; rw [A7 h]
  |_=> simp [oV] at h
 |nilsl=> cases b <;> simp [oV] at h <;> rfl
 |app t g n x=>
  cases b with
  |app u k m y=>
   simp only [oV,Bool.and_eq_true] at h
   rw [m_ h.1.1.1,m_ h.1.1.2,m_ h.1.2,rz h.2]
  |_=> simp [oV] at h
 |full p n x=>
  cases b with
  |full q m y=>
   simp only [oV,Bool.and_eq_true,beq_iff_eq] at h
   rw [h.1.1,m_ h.1.2,rz h.2]
  |_=> simp [oV] at h
 |ptr x y=>
  cases b with
  |ptr u v=>
   simp only [oV,Bool.and_eq_true] at h
   rw [m_ h.1,m_ h.2]
  |_=> simp [oV] at h
 |kQ x y=>
  cases b with
  |kQ u v=>
   simp only [oV,Bool.and_eq_true] at h
   rw [m_ h.1,m_ h.2]
  |_=> simp [oV] at h
 |sref x1 x2 x3 x4 x5 x6=>
  cases b with
  |sref y1 y2 y3 y4 y5 y6=>
   simp only [oV,Bool.and_eq_true,beq_iff_eq] at h
   rw [m_ h.1.1.1.1.1,m_ h.1.1.1.1.2,m_ h.1.1.1.2,m_ h.1.1.2,m_ h.1.2,h.2]
  |_=> simp [oV] at h
 |ifc t x=>
  cases b with
  |ifc u y=>
   simp only [oV,Bool.and_eq_true] at h
   rw [show t=u from m_ h.1,xG h.2]
  |_=> simp [oV] at h
 |agg x=>
  cases b with
  |agg y=> simp only [oV] at h; rw [vV h]
  |_=> simp [oV] at h
 |tup x=>
  cases b with
  |tup y=> simp only [oV] at h; rw [vV h]
  |_=> simp [oV] at h
 |uo x=>
  cases b with
  |uo y=> simp only [oV] at h; rw [m_ h]
  |_=> simp [oV] at h
 |fn f x y=>
  cases b with
  |fn g u v=>
   simp only [oV,Bool.and_eq_true] at h
   rw [Gq h.1.1,vV h.1.2,vV h.2]
  |_=> simp [oV] at h
 |x_ t g e x=>
  cases b with
  |x_ u k f y=>
   simp only [oV,Bool.and_eq_true] at h
   rw [m_ h.1.1.1,m_ h.1.1.2,show e=f from m_ h.1.2,rz h.2]
  |_=> simp [oV] at h
 |itr x=>
  cases b with
  |itr y=> simp only [oV] at h; rw [m_ h]
  |_=> simp [oV] at h
 |und=> cases b <;> simp [oV] at h <;> rfl
theorem vV {a b:List AV} (h:Ad a b=true):a=b:=by
 cases a with
 |nil=> cases b with
  |nil=> rfl
  |cons _ _=> simp [Ad] at h
 |cons x r=> cases b with
  |nil=> simp [Ad] at h
  |cons y q=>
   simp only [Ad,Bool.and_eq_true] at h
   rw [xG h.1,vV h.2]
end
theorem JA (k:IntKind):Br k k=true:=by cases k <;> rfl
theorem PD (x:Int):iEq x x=true:=by cases x <;> simp [iEq]
mutual
theorem Dn:∀a:DV,tY a a=true
 | .b x=> by simp [tY]
 | .i k n=> by simp [tY,JA,PD]
 | .s x=> by simp [tY,strEq]
 | .sG=> rfl
 | .yj=> rfl
 | .nili=> rfl
 | .xN=> rfl
 | .nsl=> rfl
 | .sl _ _ x=> by simp [tY,rA x]
 | .bx _ x _=> by simp [tY,rA x]
 | .agg x=> by simp [tY,rA x]
 | .ifc _ x=> by simp [tY,Dn x]
 | .fn f a b=> by simp [tY,Gr,rA a,rA b]
theorem rA:∀a:List DV,xO a a=true
 |[]=> rfl
 |a::r=> by simp [xO,Dn a,rA r]
end
mutual
theorem zu:∀a:AV,oV a a=true
 | .d x=> by simp [oV,Dn]
 | .nilsl=> rfl
 | .app _ _ _ x=> by simp [oV,rA]
 | .full _ _ x=> by simp [oV,rA]
 | .ptr _ _=> by simp [oV]
 | .kQ _ _=> by simp [oV]
 | .sref _ _ _ _ _ _=> by simp [oV]
 | .x_ _ _ e x=> by simp [oV,rA,show Nat.beq e e=true from Nat.beq_refl e]
 | .fn f a b=> by simp [oV,Gr,xZ a,xZ b]
 | .ifc t a=> by simp [oV,zu a,show Nat.beq t t=true from Nat.beq_refl t]
 | .agg x=> by simp [oV,xZ x]
 | .tup x=> by simp [oV,xZ x]
 | .uo _=> by simp [oV]
 | .itr _=> by simp [oV]
 | .und=> rfl
theorem xZ:∀a:List AV,Ad a a=true
 |[]=> rfl
 |a::r=> by simp [Ad,zu a,xZ r]
end
end Go.Abs

namespace Go.Abs
def upd (h:Heap):List (Nat×Blk)→Heap
 |[]=> h
 | (i,b) :: r => upd (match Nat.blt i h.n with
  |true=> h.set i b
  |false=> h.push b) r
def LM:List (DV×AV)→List (DV×AV)→Bool
 |[],[]=> true
 |(a,x)::r,(b,y)::s=> tY a b && oV x y && LM r s
 |_,_=> false
def PE:Blk→Blk→Bool
 | .cells f e c,.cells f' e' c'=> (f==f') && Nat.beq e e' && Ad c c'
 | .tok g e,.tok g' e'=> Nat.beq g g' && Nat.beq e e'
 | .map x,.map y=> LM x y
 | .dead,.dead=> true
 |_,_=> false
def KI:Option Blk→Option Blk→Bool
 |none,none=> true
 |some a,some b=> PE a b
 |_,_=> false
def PG:Tr Blk→Tr Blk→Bool
 | .lf,.lf=> true
 | .nd v l r,.nd v' l' r'=> KI v v' && PG l l' && PG r r'
 |_,_=> false
def Eg (a b:Heap):Bool:=PG a.t b.t && Nat.beq a.n b.n
theorem KJ:∀{x y:List (DV×AV)},LM x y=true→x=y:=by
 intro x
 induction x with
 |nil=> intro y h; cases y with
  |nil=> rfl
  |cons b s=> cases h
 |cons a r ih=>
  intro y h
  cases y with
  |nil=> cases h
  |cons b s=>
   obtain ⟨a1,a2⟩:=a
   obtain ⟨b1,b2⟩:=b
   simp only [LM,Bool.and_eq_true] at h
   rw [A7 h.1.1,xG h.1.2,ih h.2]
theorem KL {a b:Blk} (h:PE a b=true):a=b:=by
 unfold PE at h
 split at h
 ·simp only [Bool.and_eq_true,beq_iff_eq] at h
  rw [h.1.1,Nat.eq_of_beq_eq_true h.1.2,vV h.2]
 ·simp only [Bool.and_eq_true] at h
  rw [Nat.eq_of_beq_eq_true h.1,Nat.eq_of_beq_eq_true h.2]
 ·rw [KJ h]
 ·rfl
 ·cases h
theorem JB {a b:Option Blk} (h:KI a b=true):a=b:=by
 unfold KI at h
 split at h
 ·rfl
 ·rw [KL h]
 ·cases h
theorem M6:∀{a b:Tr Blk},PG a b=true→a=b:=by
 intro a
 induction a with
 |lf=> intro b h; cases b with
  |lf=> rfl
  |nd=> cases h
 |nd v l r il ir=>
  intro b h
  cases b with
  |lf=> cases h
  |nd v' l' r'=>
   simp only [PG,Bool.and_eq_true] at h
   rw [JB h.1.1,il h.1.2,ir h.2]
theorem Ak {a b:Heap} (h:Eg a b=true):a=b:=by
 simp only [Eg,Bool.and_eq_true] at h
 cases a; cases b
 simp only at h
 rw [M6 h.1,Nat.eq_of_beq_eq_true h.2]
def Np (r:G5) (v:AV) (h:Heap):Bool:=match r with
 |some (.nrm,v',h')=> oV v' v && Eg h' h
 |_=> false
theorem Cal.chk {E:Env} {n:Nat} {f:FuncId} {args:List AV} {h h':Heap} {v:AV} (hc:Np (qj E n f args h) v h'=true):Cal E f args h (.nrm,v,h'):=by
 refine ⟨n,?_⟩
 unfold Np at hc
 split at hc
 ·rename_i hr
  simp only [Bool.and_eq_true] at hc
  rw [hr,xG hc.1,Ak hc.2]
 ·cases hc
end Go.Abs

namespace Go.Abs
def AC.fst:AC→AC
 | .seq a _=> a
 | .blk _ a=> a
 | .loop a=> a
 |_=> .bad
def AC.snd:AC→AC
 | .seq _ b=> b
 |_=> .bad
def AC.ops:AC→List AOp
 | .reg l=> l
 |_=> []
def AC.rfs:AC→List AC
 | .seq a b=> a.rfs++b.rfs
 | .cond _ a b=> a.rfs++b.rfs
 | .blk _ a=> a.rfs
 | .loop a=> a.rfs
 | .yt g ps a b=> .yt g ps a b::(a.rfs++b.rfs)
 |_=> []
def To (c:AC) (k:Nat):AC:=c.rfs.getD k .bad
def AC.asg:AC→AC
 | .yt _ _ a _=> a
 |_=> .bad
def AC.bdy:AC→AC
 | .yt _ _ _ b=> b
 |_=> .bad
def AC.prs:AC→List Nat
 | .yt _ ps _ _=> ps
 |_=> []
def U1:Ex→Nat
 | .nrm=> 0
 | .ret=> 1
 | .exit n=> n+2
 | .pan _=> 1000000
def R5:Nat→Ex
 |0=> .nrm
 |1=> .ret
 |n+2=> .exit n
def Fw:List AV→List AV→Bool
 |[],[]=> true
 | .und::r,.und::s=> Fw r s
 |a::r,b::s=> oV a b && Fw r s
 |_,_=> false
theorem FW:∀{a b:List AV},Fw a b=true→a=b:=by
 intro a
 induction a with
 |nil=> intro b h; cases b with
  |nil=> rfl
  |cons=> simp [Fw] at h
 |cons x r ih=>
  intro b h
  cases b with
  |nil=> simp [Fw] at h
  |cons y s=>
   by_cases hu:x= .und∧y= .und
   ·obtain ⟨rfl,rfl⟩:=hu
    simp only [Fw] at h
    rw [ih h]
   ·have:oV x y=true∧Fw r s=true:=by
     unfold Fw at h
     split at h <;> simp_all
    rw [xG this.1,ih this.2]
def Ef (r:Res) (e:Nat) (tm:List AV) (h:Heap):Bool:=match r with
 |some (ex,⟨tm',[],none⟩,h')=> Nat.beq (U1 ex) e && Nat.blt e 1000000 && Fw tm' tm && Eg h' h
 |_=> false
theorem Ij {r:Res} {e:Nat} {tm:List AV} {h:Heap} (hc:Ef r e tm h=true):r=some (R5 e,⟨tm,[],none⟩,h):=by
 unfold Ef at hc
 split at hc
 ·rename_i ex tm' h'
  simp only [Bool.and_eq_true] at hc
  obtain ⟨⟨⟨h1,h2⟩,h3⟩,h4⟩:=hc
  have h1:=Nat.eq_of_beq_eq_true h1
  have h2:e < 1000000:=Nat.le_of_ble_eq_true h2
  rw [FW h3,Ak h4]
  subst h1
  cases ex with
  |nrm=> rfl
  |ret=> rfl
  |exit n=> rfl
  |pan v=> simp only [U1] at h2; omega
 ·cases hc
def isN:Res→Bool
 |some (.nrm,⟨_,[],none⟩,_)=> true
 |_=> false
def aa9:Res→List AV
 |some (_,⟨tm,_,_⟩,_)=> tm
 |_=> []
def aa_:Res→Heap
 |some (_,_,h)=> h
 |_=> .empty
theorem R6 {r:Res} (hc:isN r=true):r=some (.nrm,⟨aa9 r,[],none⟩,aa_ r):=by
 unfold isN at hc
 split at hc
 ·rfl
 ·cases hc
section
variable {E : Env} {n : Nat} {c : AC} {tm tm' : List AV} {h h' : Heap} {Q : Ex → List AV → Heap → Prop}
theorem wpC.run {ex:Ex} (hr:mz E n c ⟨tm,[],none⟩ h=some (ex,⟨tm',[],none⟩,h')) (q:Q ex tm' h'):wpC E c tm h Q:=⟨n,_,_,_,hr,_,rfl,q⟩
theorem wpC.chk {e:Nat} (hc:Ef (mz E n c ⟨tm,[],none⟩ h) e tm' h'=true) (q:Q (R5 e) tm' h'):wpC E c tm h Q:= .run (Ij hc) q
theorem wpC.nrm (hc:isN (mz E n c ⟨tm,[],none⟩ h)=true) (q:Q .nrm (aa9 (mz E n c ⟨tm,[],none⟩ h)) (aa_ (mz E n c ⟨tm,[],none⟩ h))):wpC E c tm h Q:= .run (R6 hc) q
theorem wpC.rnd {a:AC} (w:wpC E a tm h (UF E (.loop a) Q)):wpC E (.loop a) tm h Q:=by
 refine WC.loop (WC.mono w ?_)
 rintro ex fr h ⟨tm',rfl,q⟩
 refine ⟨fun e=> ?_,fun e=> ⟨tm',rfl,?_⟩⟩
 ·subst e; exact q
 ·cases ex <;> first | exact absurd rfl e | exact q
theorem wpC.op {dst:Option Nat} {op:COp} {g:Option (Nat×Bool)} {r:List AOp} {c:AC} {v:AV} {h1:Heap} (hw:wanted tm g=true) (hs:gI op E h tm= .val v h1) (w:wpC E (.seq (.reg r) c) (q9 tm dst v) h1 Q):
  wpC E (.seq (.reg (⟨dst,op,g⟩::r)) c) tm h Q:=by
 obtain ⟨n,ex,fr',h',hr,q⟩:=w
 cases n with
 |zero=> cases hr
 |succ n=>
 rw [mY] at hr
 simp only [oW] at hr
 cases n with
 |zero=> cases hr
 |succ n=>
 rw [mY n (.reg r)] at hr
 simp only [oW] at hr
 have hput:lW ⟨tm,[],none⟩ dst v=⟨q9 tm dst v,[],none⟩:=by cases dst <;> rfl
 refine ⟨n+2,ex,fr',h',?_,q⟩
 rw [mY]
 simp only [oW]
 rw [mY n (.reg _)]
 simp only [oW]
 have:qy E (mz E n) (⟨dst,op,g⟩::r) ⟨tm,[],none⟩ h=qy E (mz E n) r ⟨q9 tm dst v,[],none⟩ h1:=by
  show yu E (mz E n) ⟨dst,op,g⟩ (qy E (mz E n) r) ⟨tm,[],none⟩ h=_
  simp only [yu,hw,hs,Ai,hput]
 rw [this]
 exact hr
end
end Go.Abs
end
