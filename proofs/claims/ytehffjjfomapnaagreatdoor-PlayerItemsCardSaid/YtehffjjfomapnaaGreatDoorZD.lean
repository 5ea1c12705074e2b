/- Part 4 of a general layer: a deterministic machine over the model's code, and that what it comes to the model comes to. Conditions: those of each theorem. -/
import Derived.Test.YtehffjjfomapnaaGreatDoorZC
import Derived.Shelf.SlicesE.Clone
import Derived.Shelf.Spec.SlicesInsert
import Derived.Shelf.Spec.SlicesInsertGrow
import Derived.Shelf.Strconv.AtoiAll
import Derived.Shelf.Strconv.Itoa4
import Derived.Orders
noncomputable section
namespace Go.Proofs
open Go.Shelf Go.RowKit Go.Lib
variable {P : Program} {ρ : Ren}

set_option maxHeartbeats 2000000 in
set_option maxRecDepth 100000 in
theorem Clone.run (L : SlLaysE0.n41 P ρ) {size : Nat} (z23 : ∀ w,(Go.sizeOf (ρ.t 23)).run P w = .ok size w) : ∃ ty,∀ (a : Addr) (n c : Nat) (w : World) (v' : Value) (w' : World),
  (Builtin.append_ #[ρ.t 22,ρ.t 22] ty #[.slice (some ⟨w.heap.size,0,none⟩) 0 0,.slice (some a) n c]).run P (w.alloc (.cells #[] (ρ.t 23))) = .ok v' w' →
  Calls P (ρ.f 41) #[.slice (some a) n c] w fun e w2 => e = .returned v' ∧ w2 = w' := by
 refine ⟨ρ.t 22,?_⟩
 intro a n c w v' w' hrun
 have mixed := L.mixed; have t4 := L.t4; have a4 := L.a4; have z4 := L.z4; have v4 := L.v4; have t22 := L.t22; have a22 := L.a22; have z22 := L.z22; have v22 := L.v22
 have q22 : ∀ (w : World) (a : Option Addr) (n c n' c' : Nat),(binOp .eql (ρ.t 22) (.slice a n c) (.slice none n' c')).run P w = .ok (.bool a.isNone) w := fun w a n c n' c' => Lib.run_eql_slice_nil w _ _ a n c n' c' L.t22
 have u22 : ∀ w,Sem.run P (underlying (ρ.t 22)) w = .ok (TypeDesc.slice (ρ.t 23)) w := run_underlying t22
 obtain ⟨_,_,FG⟩ := L.f41
 go_enter FG,SlBodyN.n41_ntmps ρ
 go_wp2_with (at_builtin; refine Lib.wpList_append_run _ rfl _ _ _ _ rfl _ _ rfl rfl _ _ hrun ?_)
 go_ret
 exact ⟨rfl,rfl⟩
end Go.Proofs

namespace Go.Abs
open Go.Shelf
section
variable {P : Program} {ρ : Ren} {G : Nat → List DV} {cx : Cx} {h : Heap} {w : World} {E : Env}

def OpOutE (P : Program) (G : Nat → List DV) (cx : Cx) (h : Heap) (w : World) (s : St1) (r : Result Next) : Prop :=
 OpOut P [] G cx h w s r ∨ ∃ v h',s = .val v h' ∧ ∃ f args,r = .ok (.enter f args) w ∧ Calls P f args w fun e w' => ∃ cx' v',Inv P [] G cx' h' w' ∧ Stp cx h w cx' h' w' ∧ VRel cx' w' v v' ∧ e = .returned v'

def IsClone (P : Program) (f : FuncId) (e : TypeId) : Prop := Enters P f ∧ ∃ ρ,Proofs.SlLaysE0.n41 P ρ ∧ ρ.f 41 = f ∧ ρ.t 23 = e
def IsInsert (P : Program) (f : FuncId) (e : TypeId) : Prop := Enters P f ∧ ∃ ρ,Proofs.Lays2.n21 P ρ ∧ ρ.f 21 = f ∧ ρ.t 3 = e
def IsPrim (P : Program) (f : FuncId) : Prim → Prop
 | .indexByte => ∀ (s : ByteArray) (c : Int) (w : World),(callFunc f #[.string s,.int .u8 c]).run P w = .ok (.value (.int .i64 (Lib.indexByte s.data.toList c.toNat.toUInt8))) w
 | .noEscape => ∀ (v : Value) (w : World),(callFunc f #[v]).run P w = .ok (.value v) w
 | .count => ∀ (s : ByteArray) (c : Int) (w : World),(callFunc f #[.string s,.int .u8 c]).run P w = .ok (.value (.int .i64 (Lib.countByte s.data.toList c.toNat.toUInt8))) w
 | _ => False
def IsGrow (P : Program) (f : FuncId) (e : TypeId) : Prop := Enters P f ∧ ∃ ρ,Proofs.Lays.n241 P ρ ∧ Proofs.Builder.Extra P ρ ∧ ρ.f 241 = f ∧ ρ.t 5 = e

theorem srcView_of {sz : Nat} {a : AV} {r} (hs : slView h sz a = some r) : srcView h sz a = some r := by
 unfold srcView
 split
 ·simp [slView] at hs
 ·exact hs

theorem s_app_val {tm : List AV} {e : TypeId} {size bytes : Nat} {m : Bool} {x y : X} {st : St1} (hs : s_app h tm e size bytes m x y = st) : (∃ v h',st = .val v h') ∨ st = .bad := by
 unfold s_app at hs
 split at hs
 ·split at hs
  ·generalize appA h e size m (x.ev tm) _ _ = o at hs
   cases o with
   | none => exact .inr hs.symm
   | some p => exact .inl ⟨_,_,hs.symm⟩
  ·exact .inr hs.symm
 ·exact .inr hs.symm

theorem snd_clone (I : Inv P [] G cx h w) {f : FuncId} {e : TypeId} (S : IsClone P f e) {size bytes : Nat} {zs : List AV} {mu : Bool} (hsz : szOf P e = some size) (hby : byT P e = some bytes) (hz : zCells P e = some zs) (hzs : zs.length = size)
  {x : X} {tm : List AV} {v : Value} (hx : VRel cx w (x.ev tm) v) : OpOutE P G cx h w (s_clone E h tm f e size bytes mu x) ((callFunc f #[v]).run P w) := by
 obtain ⟨hent,ρ,L,rfl,rfl⟩ := S
 rw [run_callFunc hent]
 unfold s_clone
 split
 ·split
  ·rename_i r hs
   obtain ⟨n,l⟩ := r
   obtain ⟨ad,cap,rfl,hl,hcells⟩ := slView_rel I hs hx
   cases ad with
   | none =>
    have hd0 : ∀ {b : Bool} {m : Nat} {cs : List DV},DRel w cx.F (.sl b m cs) (.slice none n cap) → n = 0 := by
     intro b m cs hd
     cases hd
     rfl
    have hn0 : n = 0 := by
     generalize hq : x.ev tm = q at hs hx
     unfold slView at hs
     split at hs
     ·cases hx with | d _ _ hd => exact hd0 hd
     ·cases hx; rfl
     ·cases hx with | app _ _ _ _ _ hd => exact hd0 hd
     ·cases hx with | full _ _ _ _ hd => exact hd0 hd
     ·cases hx with
      | sref _ _ _ _ _ _ c base _ _ _ _ _ _ ha _ =>
       rcases ha with ha | ⟨_,ha⟩
       ·cases ha
       ·cases ha
     ·cases hs
    subst hn0
    have hl0 : l = [] := List.eq_nil_of_length_eq_zero (by rw [hl]; simp)
    subst hl0
    have hst : s_app h tm (ρ.t 23) size bytes mu (.c (.full false 0 [])) x = .val (.full false 0 []) h := by
     unfold s_app
     rw [srcView_of hs]
     simp [lenOf,X.ev,okCells,appA,oh]
    refine .inr ⟨_,_,hst,_,_,rfl,?_⟩
    refine (Proofs.AnyE.slices_Clone_nil L 0 cap w).mono ?_
    rintro e w3 ⟨rfl,rfl⟩
    exact ⟨cx,_,I,.refl _ _ _,.full _ _ _ _ (.sl0 _ _ _),rfl⟩
   | some a =>
    obtain ⟨ty,hcl⟩ := Proofs.Clone.run L (run_sizeOf' hsz)
    obtain ⟨I1,S1⟩ := I.addZ (w' := w.alloc (.cells #[] (ρ.t 23))) (fun _ _ => False) (by show w.heap.size ≤ (w.heap.push _).size; simp) (fun c hc => getElem?_push_old _ _ _ hc) (fun _ _ f => f.elim)
    have hx1 := hx.ext S1.ext
    have hy1 : VRel (cx.addZ fun _ _ => False) (w.alloc (.cells #[] (ρ.t 23))) ((X.c (.full false 0 [])).ev tm) (.slice (some ⟨w.heap.size,0,none⟩) 0 0) := .full _ _ _ _ (.sl0 _ _ _)
    have hout := snd_app I1 (t := ρ.t 22) (t1 := ρ.t 22) (ts := #[ρ.t 22,ρ.t 22]) (ty := ty) (m := mu) rfl rfl L.t22 L.t22 (fun q e => by cases e) hsz hby hz hzs hy1 hx1
    generalize hst : s_app h tm (ρ.t 23) size bytes mu (.c (.full false 0 [])) x = st at hout
    cases st with
    | val v0 h' =>
     obtain ⟨cx2,w2,I2,S2,hres⟩ := hout
     have hrun : ∃ v',(Builtin.append_ #[ρ.t 22,ρ.t 22] ty #[.slice (some ⟨w.heap.size,0,none⟩) 0 0,.slice (some a) n cap]).run P (w.alloc (.cells #[] (ρ.t 23))) = .ok v' w2 ∧ VRel cx2 w2 v0 v' := by
      rcases hres with ⟨v',hr,hv⟩ | ⟨hr,_⟩
      ·refine ⟨v',?_,hv⟩
       rw [Sem.run_bind] at hr
       cases hq : (Builtin.append_ #[ρ.t 22,ρ.t 22] ty #[.slice (some ⟨w.heap.size,0,none⟩) 0 0,.slice (some a) n cap]).run P (w.alloc (.cells #[] (ρ.t 23))) with
       | ok u w3 => rw [hq] at hr; simp only [Result.andThen_ok,Sem.run_pure,Result.ok.injEq,Next.value.injEq] at hr; rw [hr.1,hr.2]
       | halt s => rw [hq] at hr; cases hr
      ·rw [Sem.run_bind] at hr
       cases hq : (Builtin.append_ #[ρ.t 22,ρ.t 22] ty #[.slice (some ⟨w.heap.size,0,none⟩) 0 0,.slice (some a) n cap]).run P (w.alloc (.cells #[] (ρ.t 23))) with
       | ok u w3 => rw [hq] at hr; simp at hr
       | halt s => rw [hq] at hr; cases hr
     obtain ⟨v',hrun,hv⟩ := hrun
     refine .inr ⟨v0,h',rfl,_,_,rfl,?_⟩
     refine (hcl a n cap w v' w2 hrun).mono ?_
     rintro e w3 ⟨rfl,rfl⟩
     exact ⟨cx2,v',I2,S1.trans S2,hv,rfl⟩
    | bad => exact .inl trivial
    | _ => rcases s_app_val hst with ⟨v,h',e⟩ | e <;> cases e
  ·exact .inl trivial
 ·exact .inl trivial
theorem new_row (I : Inv P [] G cx h w) {e : TypeId} {arr : Array Value} {w' : World} (hw : w'.heap = w.heap.push (.cells arr e (0,0))) (hio : w'.os = w.os ∧ w'.output = w.output) {cs : List AV} {n cap : Nat}
  (hr : ∀ i (hi : i < cs.length),i < arr.size ∧ VRel cx w cs[i] (arr.getD i undef)) (hcap : n ≤ cap) (harr : cap ≤ arr.size) (hmx : cap ≤ maxLen) :
  ∃ cx',Inv P [] G cx' (h.push (.cells false e cs)) w' ∧ Stp cx h w cx' (h.push (.cells false e cs)) w' ∧ VRel cx' w' (.sref h.n 0 1 n n false) (.slice (some ⟨w.heap.size,0,none⟩) n cap) := by
 obtain ⟨J,S⟩ := I.pushCells hw hr hio
 exact ⟨_,J,S,.sref _ _ _ _ _ _ w.heap.size 0 cap _ (by rw [Cx.add_ρ]; simp) (Nat.le_refl _) hcap (fun k => by cases k) (.inl rfl) (fun _ => ⟨arr,e,(0,0),by rw [hw]; simp,by simpa using harr,hmx⟩)⟩

theorem arr_front {cs : List AV} {l : List Value} (hc : ClsRel cx w cs l) (Z : Array Value) : ∀ i (hi : i < cs.length),i < (l.toArray ++ Z).size ∧ VRel cx w cs[i] ((l.toArray ++ Z).getD i undef) := by
 intro i hi
 have hl := hc.len
 have hi' : i < l.length := by omega
 refine ⟨by simp; omega,?_⟩
 have := hc.rel i hi
 rw [Array.getD_eq_getD_getElem?,Array.getElem?_append_left (by simpa using hi')]
 simpa [List.getD] using this

theorem ins_rel {old : List AV} {CS : List Value} (hc : ClsRel cx w old CS) {y : DV} {u : Value} (hy : VRel cx w (.d y) u) (j : Nat) : ClsRel cx w (old.take j ++ .d y :: old.drop j) (CS.take j ++ u :: CS.drop j) := by
 have h1 : ClsRel cx w (old.take j) (CS.take j) := by
  refine ⟨by simp [hc.len],fun i hi => ?_⟩
  have hi2 : i < j ∧ i < old.length := by simp at hi; omega
  have := hc.rel i hi2.2
  have hl := hc.len
  simpa [List.getD,List.getElem?_take,hi2.1] using this
 have h2 : ClsRel cx w (old.drop j) (CS.drop j) := by
  refine ⟨by simp [hc.len],fun i hi => ?_⟩
  have hi2 : j + i < old.length := by simp at hi; omega
  have := hc.rel (j + i) hi2
  simpa [List.getD,List.getElem?_drop] using this
 refine h1.append (ClsRel.append (l := [.d y]) (m := old.drop j) (vs := [u]) (us := CS.drop j) ⟨rfl,fun i hi => ?_⟩ h2)
 have : i = 0 := by simpa using hi
 subst this
 exact hy

theorem ins_grow (L : Proofs.Lays2.n21 P ρ) (I : Inv P [] G cx h w) {base : Option Addr} {n cap j : Nat} {old : List AV} {CS : List Value} (hcls : ClsRel cx w old CS) (hn : old.length = n) (hj : j ≤ n) (hroom : cap < n + 1) (hnc : n ≤ cap)
    (hbase : n = 0 ∨ ∃ c o,base = some ⟨c,o,none⟩ ∧ ∀ i v,CS[i]? = some v → w.cell? ⟨c,o + i,none⟩ = some v) (hnil : base = none → n = 0) (hsm : n ≤ 1000000) (hone : ∀ v ∈ CS,v.oneCell' = true)
    {cv ov capv : Nat} {u : Value} {y : DV} (hu : w.cell? ⟨cv,ov,none⟩ = some u) (hy : VRel cx w (.d y) u) (h1 : u.oneCell' = true) :
    Calls P (ρ.f 21) #[.slice base n cap,.int .i64 j,.slice (some ⟨cv,ov,none⟩) 1 capv] w fun e w' => ∃ cx' v',Inv P [] G cx' (h.push (.cells false (ρ.t 3) (old.take j ++ .d y :: old.drop j))) w' ∧
      Stp cx h w cx' (h.push (.cells false (ρ.t 3) (old.take j ++ .d y :: old.drop j))) w' ∧ VRel cx' w' (.sref h.n 0 1 (n + 1) (n + 1) false) v' ∧ e = .returned v' := by
  have hcl : CS.length = n := by rw [hcls.len,hn]
  have hvs : ∀ j v,[u][j]? = some v → w.cell? ⟨cv,ov + j,none⟩ = some v := by
    intro j v hj
    cases j with
    | zero => simp at hj; subst hj; simpa using hu
    | succ j => simp at hj
  have h1v : ∀ v ∈ [u],v.oneCell' = true := by simpa using h1
  obtain ⟨ID,SD⟩ := drew_same I
  have hge := grownCap_ge w (n + 1) cap (ρ.t 3)
  have hmx := grownCap_le_maxLen w (n + 1) cap (ρ.t 3) (by unfold maxLen; omega)
  have hins := ins_rel hcls hy j
  by_cases hjn : j = n
  · subst hjn
    have hc := Proofs.Any2.slices_Insert_int_end_grow L base j cap cv ov 1 capv CS [u] w (by omega) hnc hroom (by omega) hcl rfl hnil (fun a ha i v hi => by
      rcases hbase with e0 | ⟨c,o,e0,hb⟩
      · have : CS = [] := List.eq_nil_of_length_eq_zero (by omega)
        rw [this] at hi; simp at hi
      · rw [e0] at ha; cases ha
        rw [addr_add]; exact hb i v hi) hvs h1v
    refine hc.mono ?_
    rintro e w3 ⟨rfl,rfl⟩
    have e1 : CS ++ [u] = CS.take j ++ u :: CS.drop j := by rw [List.take_of_length_le (by omega),List.drop_of_length_le (by omega)]
    obtain ⟨cx',J,S,V⟩ := new_row (n := j + 1) (cap := grownCap w (j + 1) cap (ρ.t 3)) ID (w' := w.drew.alloc (.cells ((CS ++ [u]).toArray ++ Builtin.zeroCells (Value.int .i64 0).cells (grownCap w (j + 1) cap (ρ.t 3) - (j + 1))) (ρ.t 3))) rfl ⟨rfl,rfl⟩
      (cs := old.take j ++ .d y :: old.drop j) (by rw [e1]; exact arr_front (hins.ext SD.ext) _) hge (by
        simp only [Array.size_append,List.size_toArray,List.length_append,zeroCells_size,List.length_singleton,hcl]
        have : (Value.int .i64 0).cells.size = 1 := rfl
        rw [this]; omega) hmx
    exact ⟨cx',_,J,SD.trans S,V,rfl⟩
  · have hjn : j < n := by omega
    obtain ⟨c,o,rfl,hb⟩ := hbase.resolve_left (by omega)
    have hc := Proofs.Any2.slices_Insert_int_grow L c o n cap j cv ov 1 capv CS [u] w hjn (by omega) hnc hroom (by omega) hcl rfl hb hvs hone h1v
    refine hc.mono ?_
    rintro e w3 ⟨rfl,rfl⟩
    generalize hA : ((CS.take j).toArray ++ Builtin.zeroCells (Value.int .i64 0).cells (n + 1 - j) ++ Builtin.zeroCells (Value.int .i64 0).cells (grownCap w (n + 1) cap (ρ.t 3) - (n + 1))) = A
    have hAs : A.size = grownCap w (n + 1) cap (ρ.t 3) := by
      rw [← hA]
      have : (Value.int .i64 0).cells.size = 1 := rfl
      simp only [Array.size_append,List.size_toArray,List.length_take,zeroCells_size,hcl,this]
      omega
    have hAj : ∀ i,i < j → A[i]? = CS[i]? := by
      intro i hi
      rw [← hA,Array.append_assoc,Array.getElem?_append_left (by simp; omega)]
      simp [hi]
    generalize hW0 : ((w.alloc (.cells A (ρ.t 3))).drew) = W0
    have w0h : W0.heap = w.heap.push (.cells A (ρ.t 3) (0,0)) := by rw [← hW0]; rfl
    have w0io : W0.os = w.os ∧ W0.output = w.output := by rw [← hW0]; exact ⟨rfl,rfl⟩
    have w0N : W0.heap[w.heap.size]? = some (.cells A (ρ.t 3) (0,0)) := by rw [w0h]; simp
    obtain ⟨s1,s2,s3⟩ := setCells_heap w.heap.size [u] j W0
    obtain ⟨A1,a1s,a1h⟩ := s3 A (ρ.t 3) (0,0) w0N
    obtain ⟨t1,t2,t3⟩ := setCells_heap w.heap.size (CS.drop j) (j + 1) (W0.setCells w.heap.size j [u]).drew
    obtain ⟨A2,a2s,a2h⟩ := t3 A1 (ρ.t 3) (0,0) a1h
    have hheap : ((W0.setCells w.heap.size j [u]).drew.setCells w.heap.size (j + 1) (CS.drop j)).heap = w.heap.push (.cells A2 (ρ.t 3) (0,0)) := by
      apply Array.ext_getElem?
      intro i
      by_cases e : i = w.heap.size
      · subst e; rw [a2h]; simp
      · rw [t2 i e]
        show (W0.setCells w.heap.size j [u]).heap[i]? = _
        rw [s2 i e,w0h,Array.getElem?_push,Array.getElem?_push]
        simp [e]
    have hio : ((W0.setCells w.heap.size j [u]).drew.setCells w.heap.size (j + 1) (CS.drop j)).os = w.os ∧ ((W0.setCells w.heap.size j [u]).drew.setCells w.heap.size (j + 1) (CS.drop j)).output = w.output := by
      have q1 := setCells_io w.heap.size (CS.drop j) (j + 1) (W0.setCells w.heap.size j [u]).drew
      have q2 := setCells_io w.heap.size [u] j W0
      exact ⟨(q1.1.trans q2.1).trans w0io.1,(q1.2.trans q2.2).trans w0io.2⟩
    have hcellA : ∀ i,((W0.setCells w.heap.size j [u]).drew.setCells w.heap.size (j + 1) (CS.drop j)).cell? ⟨w.heap.size,i,none⟩ = A2[i]? := by
      intro i; simp [World.cell?,a2h]
    have hcell1 : ∀ i,(W0.setCells w.heap.size j [u]).drew.cell? ⟨w.heap.size,i,none⟩ = A1[i]? := by
      intro i; show (W0.setCells w.heap.size j [u]).cell? _ = _; simp [World.cell?,a1h]
    have hcell0 : ∀ i,W0.cell? ⟨w.heap.size,i,none⟩ = A[i]? := by
      intro i; simp [World.cell?,w0N]
    have hdl : (CS.drop j).length = n - j := by rw [List.length_drop,hcl]
    have hget : ∀ i,i < n + 1 → A2[i]? = (CS.take j ++ u :: CS.drop j)[i]? := by
      intro i hi
      rw [← hcellA]
      by_cases e1 : i < j + 1
      · rw [World.cell?_setCells_out w.heap.size (CS.drop j) (j + 1) _ _ (fun _ _ => .inl e1)]
        show (W0.setCells w.heap.size j [u]).cell? _ = _
        by_cases e2 : i = j
        · subst e2
          have := World.cell?_setCells_in w.heap.size [u] i W0 (fun k hk => by
            have : k = 0 := by simpa using hk
            subst this
            rw [Nat.add_zero,hcell0,Array.getElem?_eq_getElem (by omega)]; rfl) 0 (by simp)
          simp only [Nat.add_zero] at this
          rw [this,List.getElem?_append_right (by simp; omega)]
          simp [hcl,Nat.min_eq_left hj]
        · rw [World.cell?_setCells_out w.heap.size [u] j _ _ (fun _ _ => .inl (by show i < j; omega)),hcell0,hAj i (by omega),List.getElem?_append_left (by simp; omega)]
          simp [show i < j by omega]
      · have := World.cell?_setCells_in w.heap.size (CS.drop j) (j + 1) (W0.setCells w.heap.size j [u]).drew (fun k hk => by
          rw [hcell1,Array.getElem?_eq_getElem (by omega)]; rfl) (i - (j + 1)) (by omega)
        rw [show j + 1 + (i - (j + 1)) = i by omega] at this
        rw [this,List.getElem?_append_right (by simp; omega)]
        have e3 : i - (CS.take j).length = (i - (j + 1)) + 1 := by simp [hcl,Nat.min_eq_left hj]; omega
        rw [e3,List.getElem?_cons_succ,List.getElem?_eq_getElem (by omega)]
    have hlen : (old.take j ++ .d y :: old.drop j).length = n + 1 := by simp [hn]; omega
    obtain ⟨cx',J,S,V⟩ := new_row (n := n + 1) (cap := grownCap w (n + 1) cap (ρ.t 3)) I hheap hio (cs := old.take j ++ .d y :: old.drop j) (fun i hi => by
      rw [hlen] at hi
      refine ⟨by omega,?_⟩
      have := hins.rel i (by rw [hlen]; exact hi)
      rw [List.getD_eq_getElem?_getD,← hget i hi] at this
      simpa [Array.getD_eq_getD_getElem?] using this) hge (by omega) hmx
    exact ⟨cx',_,J,S,V,rfl⟩
theorem ins_place (L : Proofs.Lays2.n21 P ρ) (I : Inv P [] G cx h w) {b c n cap j : Nat} {cs old : List AV} {arr : Array Value} {fz : Nat × Nat} (hb : h.get b = some (.cells false (ρ.t 3) cs)) (hr : cx.ρ b = some (c,0)) (hh : w.heap[c]? = some (.cells arr (ρ.t 3) fz))
    (hfz : fz.1 = fz.2) (hold : readN cs 0 n = some old) (hj : j ≤ n) (hfit : n + 1 ≤ cap) (hcap : cap ≤ arr.size) (hmx : cap ≤ maxLen) (hok : okCells old = true)
    {cv ov capv kv : Nat} {tv : TypeId} {u : Value} {y : DV} (hne : cv ≠ c) (hu : w.cell? ⟨cv,ov,none⟩ = some u) (hy : VRel cx w (.d y) u) (h1 : u.oneCell' = true) (hsh : w.shape? cv = some (tv,kv)) (hf1 : w.frozen? ⟨cv,ov,none⟩ = false) (hf2 : w.frozen? ⟨cv,kv,none⟩ = false) :
    Calls P (ρ.f 21) #[.slice (some ⟨c,0,none⟩) n cap,.int .i64 j,.slice (some ⟨cv,ov,none⟩) 1 capv] w fun e w' => ∃ cx' v',Inv P [] G cx' ((h.set b .dead).push (.cells false (ρ.t 3) (old.take j ++ .d y :: old.drop j))) w' ∧
      Stp cx h w cx' ((h.set b .dead).push (.cells false (ρ.t 3) (old.take j ++ .d y :: old.drop j))) w' ∧ VRel cx' w' (.sref h.n 0 1 (n + 1) (n + 1) false) v' ∧ e = .returned v' := by
  have hvs : ∀ j v,[u][j]? = some v → w.cell? ⟨cv,ov + j,none⟩ = some v := by
    intro j v hj
    cases j with
    | zero => simp at hj; subst hj; simpa using hu
    | succ j => simp at hj
  have h1v : ∀ v ∈ [u],v.oneCell' = true := by simpa using h1
  obtain ⟨r1,r2,r3,r4⟩ := readN_some hold
  have hold' : old = cs.take n := by rw [r2]; simp
  obtain ⟨c',base',hr',_,hcell⟩ := I.heap b _ hb
  rw [hr] at hr'; cases hr'
  have hcl : ClsRel cx w (cs.take n) ((List.range n).map fun i => (w.cell? ⟨c,0 + i,none⟩).getD undef) := by
    refine ⟨by simp; omega,fun i hi => ?_⟩
    have hi' : i < n ∧ i < cs.length := by simp at hi; omega
    obtain ⟨v,v1,v2,_,_⟩ := hcell i hi'.2
    rw [List.getElem_take]
    have : ((List.range n).map fun i => (w.cell? ⟨c,0 + i,none⟩).getD undef).getD i undef = v := by
      rw [List.getD_eq_getElem?_getD,List.getElem?_map,List.getElem?_range hi'.1]
      simp only [Option.map_some,Option.getD_some,v1]
    rw [this]; exact v2
  rw [← hold'] at hcl
  generalize hCS : ((List.range n).map fun i => (w.cell? ⟨c,0 + i,none⟩).getD undef) = CS at hcl
  have hcsl : CS.length = n := by rw [← hCS]; simp
  have hcs : ∀ i v,CS[i]? = some v → w.cell? ⟨c,0 + i,none⟩ = some v := by
    intro i v hi
    rw [← hCS,List.getElem?_map] at hi
    have hin : i < n := by
      have := (List.getElem?_eq_some_iff.1 (show CS[i]? = some v by rw [← hCS,List.getElem?_map]; exact hi)).1
      omega
    rw [List.getElem?_range hin,Option.map_some] at hi
    obtain ⟨x,x1,_⟩ := hcell i (by omega)
    rw [x1] at hi ⊢
    simpa using hi
  have hone := hcl.one (by simpa [okCells] using hok)
  have hspace : ∀ i,i < n + 1 → (w.cell? ⟨c,0 + i,none⟩).isSome = true := by
    intro i hi
    simp only [World.cell?,hh,Nat.zero_add]
    rw [Array.getElem?_eq_getElem (by omega)]; rfl
  have hfrz : ∀ i,w.frozen? ⟨c,i,none⟩ = false := fun i => frozen_none hh hfz i
  have hyl : ClsRel cx w [.d y] [u] := ⟨rfl,fun i hi => by
    have : i = 0 := by simpa using hi
    subst this; exact hy⟩
  -- the block is renamed
  have fin : ∀ (w3 : World) (h3 : Heap),Inv P [] G cx h3 w3 → Stp cx h w cx h3 w3 → h3.n = h.n → h3.get b = some (.cells false (ρ.t 3) (old.take j ++ .d y :: old.drop j)) → (∀ b',b' ≠ b → h3.get b' = h.get b') → (∃ arr' fz',w3.heap[c]? = some (Obj.cells arr' (ρ.t 3) fz') ∧ arr'.size = arr.size) →
      ∃ cx' v',Inv P [] G cx' ((h.set b .dead).push (.cells false (ρ.t 3) (old.take j ++ .d y :: old.drop j))) w3 ∧
      Stp cx h w cx' ((h.set b .dead).push (.cells false (ρ.t 3) (old.take j ++ .d y :: old.drop j))) w3 ∧ VRel cx' w3 (.sref h.n 0 1 (n + 1) (n + 1) false) v' ∧ Ending.returned (.slice (some ⟨c,0,none⟩) (n + 1) cap) = .returned v' := by
    intro w3 h3 q2 q3 hn3 hb3 ho3 ⟨arr',fz',ha',hs'⟩
    have hB := q2.heap b _ hb3
    obtain ⟨p2,p3⟩ := q2.rename (y := .cells false (ρ.t 3) (old.take j ++ .d y :: old.drop j)) hb3 rfl (fun _ _ => by simp) hr (fun _ _ => by simp) rfl (by
      obtain ⟨c3,base3,hr3,hel3,hc3⟩ := hB
      rw [hr] at hr3; cases hr3
      refine ⟨c,0,by rw [Cx.add_ρ]; simp,hel3,fun i hi => ?_⟩
      obtain ⟨u,u1,u2,u3,u4⟩ := hc3 i hi
      exact ⟨u,u1,u2.ext (Ext.addNew q2 _ _),(fun f => by cases f),u4⟩)
    have hgeq : ∀ b',((h3.set b .dead).push (.cells false (ρ.t 3) (old.take j ++ .d y :: old.drop j))).get b' = ((h.set b .dead).push (.cells false (ρ.t 3) (old.take j ++ .d y :: old.drop j))).get b' := by
      intro b'
      simp only [Heap.get_push,Heap.n_set,Heap.get_set,hn3]
      by_cases e1 : b' = h.n
      · simp [e1]
      · simp only [e1,if_false]
        by_cases e2 : b = b' ∧ b' < h.n
        · simp [e2]
        · rw [if_neg e2,if_neg e2]
          by_cases e3 : b' = b
          · subst e3
            have := Heap.lt_of_get hb
            exact absurd ⟨rfl,this⟩ e2
          · exact ho3 b' e3
    have hnn : ((h3.set b .dead).push (.cells false (ρ.t 3) (old.take j ++ .d y :: old.drop j))).n = ((h.set b .dead).push (.cells false (ρ.t 3) (old.take j ++ .d y :: old.drop j))).n := by
      simp [hn3]
    refine ⟨_,_,p2.congr hnn hgeq,(q3.trans p3).congr hnn hgeq,?_,rfl⟩
    rw [← hn3]
    exact .sref _ 0 1 (n + 1) (n + 1) false c 0 cap _ (by rw [Cx.add_ρ]; simp) (Nat.le_refl _) hfit (fun k => by cases k) (.inl rfl) (fun _ => ⟨arr',_,fz',ha',by omega,hmx⟩)
  by_cases hjn : j = n
  · subst hjn
    have hc := Proofs.Any2.slices_Insert_int_end_room L c 0 j cap cv ov 1 capv [u] w (by omega) hfit (by unfold maxLen at hmx; omega) rfl (fun i hi => by
        have : i = 0 := by omega
        subst this
        have := hspace j (by omega); simpa using this) (fun i _ => hfrz _) hvs h1v
    refine hc.mono ?_
    rintro e w3 ⟨rfl,rfl⟩
    obtain ⟨_,q2,q3⟩ := I.writeMore (off := j) hb hr hyl (by omega) hh (by simp; omega) h1v
    obtain ⟨s1,s2,s3⟩ := setCells_heap c [u] (0 + j) w
    obtain ⟨A1,a1,a2⟩ := s3 arr (ρ.t 3) fz hh
    have e1 : old.take j ++ .d y :: old.drop j = cs.take j ++ [.d y] := by rw [List.take_of_length_le (by omega),List.drop_of_length_le (by omega),hold']
    refine fin _ _ q2 q3 rfl ?_ (fun b' hb' => Heap.get_set_ne (Ne.symm hb')) ⟨A1,fz,a2,a1⟩
    rw [e1]; exact Heap.get_set_self hb
  · have hjn : j < n := by omega
    have hc := Proofs.Any2.slices_Insert_int_shift L c 0 n cap j cv ov 1 capv CS [u] w hjn (by omega) hfit (by unfold maxLen at hmx; omega) hne hcsl rfl hcs hspace (fun i _ => hfrz _) hvs hone h1v tv (ρ.t 3) kv arr.size hsh (by simp [World.shape?,hh]) (by omega) hf1 hf2
    refine hc.mono ?_
    rintro e w3 ⟨rfl,rfl⟩
    obtain ⟨ID,SD⟩ := drew_same I
    have hdrop : ClsRel cx w (old.drop j) (CS.drop j) := by
      refine ⟨by simp [hcl.len],fun i hi => ?_⟩
      have hi2 : j + i < old.length := by simp at hi; omega
      have := hcl.rel (j + i) hi2
      simpa [List.getD,List.getElem?_drop] using this
    obtain ⟨_,q2,q3⟩ := ID.writeMore (off := j + 1) hb hr (hdrop.ext SD.ext) (by omega) (show w.drew.heap[c]? = _ from hh) (by simp; omega) (fun v hv => hone v (List.mem_of_mem_drop hv))
    have hb2 : (h.set b (.cells false (ρ.t 3) (cs.take (j + 1) ++ old.drop j))).get b = some (.cells false (ρ.t 3) (cs.take (j + 1) ++ old.drop j)) := Heap.get_set_self hb
    obtain ⟨_,q4,q5⟩ := q2.write (off := j) hb2 hr ((hyl.ext SD.ext).ext q3.ext) (by simp; omega) h1v
    obtain ⟨s1,s2,s3⟩ := setCells_heap c (CS.drop j) (0 + (j + 1)) w.drew
    obtain ⟨A1,a1,a2⟩ := s3 arr (ρ.t 3) fz hh
    obtain ⟨t1,t2,t3⟩ := setCells_heap c [u] (0 + j) (w.drew.setCells c (0 + (j + 1)) (CS.drop j))
    obtain ⟨A2,a3,a4⟩ := t3 A1 (ρ.t 3) fz a2
    have e1 : putL (cs.take (j + 1) ++ old.drop j) j [.d y] = old.take j ++ .d y :: old.drop j := by
      apply List.ext_getElem?
      intro i
      rw [putL_get? _ _ _ _ (by simp; omega)]
      by_cases k1 : i < j
      · rw [if_neg (by omega),List.getElem?_append_left (by simp; omega),List.getElem?_append_left (by simp; omega),hold']
        simp [k1,show i < j + 1 by omega,show i < n by omega]
      · by_cases k2 : i = j
        · subst k2
          rw [if_pos (by simp),List.getElem?_append_right (by simp; omega)]
          simp [r3,Nat.min_eq_left hj]
        · rw [if_neg (by simp; omega),List.getElem?_append_right (by simp; omega),List.getElem?_append_right (by simp; omega)]
          have z1 : (cs.take (j + 1)).length = j + 1 := by simp; omega
          have z2 : (old.take j).length = j := by simp; omega
          rw [z1,z2,show i - j = (i - (j + 1)) + 1 by omega,List.getElem?_cons_succ]
    refine fin _ _ q4 (SD.trans (q3.trans q5)) rfl ?_ (fun b' hb' => ?_) ⟨A2,fz,a4,by rw [a3,a1]⟩
    · rw [Heap.get_set_self hb2,e1]
    · rw [Heap.get_set_ne (Ne.symm hb'),Heap.get_set_ne (Ne.symm hb')]

theorem snd_insrt (I : Inv P [] G cx h w) {f : FuncId} {e : TypeId} (S : IsInsert P f e) {x i v : X} {tm : List AV} {x' i' v' : Value} (hx : VRel cx w (x.ev tm) x') (hi : VRel cx w (i.ev tm) i') (hv : VRel cx w (v.ev tm) v') :
    OpOutE P G cx h w (s_insrt E h tm f e x i v) ((callFunc f #[x',i',v']).run P w) := by
  obtain ⟨hent,ρ,L,rfl,rfl⟩ := S
  rw [run_callFunc hent]
  unfold s_insrt
  split
  · split
    · rename_i j b2 off2 z2 n2 m2 ex2 hie hve
      rw [hie] at hi
      rw [hve] at hv
      cases hi with
      | d _ _ hi =>
      cases hi
      split
      · rename_i fr2 e2 c2 hz2 hb2
        simp only [Bool.and_eq_true] at hz2
        have hz2' := nbeq hz2.1
        have hn2' := nbeq hz2.2
        subst hz2'
        subst hn2'
        split
        · rename_i y hrd2
          cases hv with
          | sref _ _ _ _ _ _ cv basev capv av hrv hnv hmv hev hav hzv =>
          obtain ⟨cv',basev',hrv',⟨arr2,fz2,hh2,hfz2⟩,hc2⟩ := I.heap b2 _ hb2
          rw [hrv] at hrv'; cases hrv'
          have hb0 := I.sep.base0 _ _ _ hrv
          subst hb0
          have hav' : av = some ⟨cv,0 + off2,none⟩ := by
            rcases hav with e | ⟨e,_⟩
            · exact e
            · omega
          subst hav'
          obtain ⟨r1,r2,r3,r4⟩ := readN_some hrd2
          obtain ⟨u,u1,u2,_,u4⟩ := hc2 off2 (by omega)
          have hyu : VRel cx w (.d y) u := by
            have := r4 0 (by simp) (by omega)
            simp only [List.getElem_cons_zero,Nat.add_zero] at this
            rw [this]; exact u2
          have hone : okCells [.d y] = true → u.oneCell' = true := fun hk => (ClsRel.one (cx := cx) (w := w) (l := [.d y]) (vs := [u]) ⟨rfl,fun i hi => by
            have : i = 0 := by simpa using hi
            subst this; exact hyu⟩ (by simpa [okCells] using hk)) u (by simp)
          split
          · rename_i hxe
            rw [hxe] at hx
            cases hx
            split
            · rename_i hchk
              simp only [Bool.and_eq_true] at hchk
              have hj := nbeq hchk.1
              subst hj
              refine .inr ⟨_,_,rfl,_,_,rfl,?_⟩
              exact ins_grow L I (n := 0) (old := []) (CS := []) ⟨rfl,fun i hi => by simp at hi⟩ rfl (Nat.le_refl _) (by omega) (Nat.le_refl _) (.inl rfl) (fun _ => rfl) (by omega) (by simp) u1 hyu (hone hchk.2)
            · exact .inl trivial
          · rename_i bb n cs hxe
            rw [hxe] at hx
            split
            · rename_i hchk
              simp only [Bool.and_eq_true] at hchk
              obtain ⟨⟨⟨⟨k1,k2⟩,k3⟩,k4⟩,k5⟩ := hchk
              have k1 := ble_le k1
              have k2 := nbeq k2
              have k3 := ble_le k3
              cases hx with
              | full _ _ _ a hd =>
                refine .inr ⟨_,_,rfl,_,_,rfl,?_⟩
                cases hd with
                | sl0 _ _ _ => exact ins_grow L I (n := 0) (old := []) (CS := []) ⟨rfl,fun i hi => by simp at hi⟩ rfl k1 (by omega) (Nat.le_refl _) (.inl rfl) (fun _ => rfl) k3 (by simp) u1 hyu (hone k4)
                | sl _ _ _ c o _ vs hn0 hc0 d1 d2 =>
                  have hcls : ClsRel cx w (cs.map .d) ((List.range n).map vs) := by
                    refine ⟨by simp; omega,fun i hi => ?_⟩
                    have hi' : i < cs.length := by simpa using hi
                    rw [List.getElem_map,List.getD_eq_getElem?_getD,List.getElem?_map,List.getElem?_range (by omega)]
                    exact .d _ _ (d2 i hi')
                  refine ins_grow L I hcls (by simpa using k2) k1 (by omega) (Nat.le_refl _) (.inr ⟨c,o,rfl,fun i v hi => ?_⟩) (fun e => by cases e) k3 (hcls.one (by simpa [okCells] using k5)) u1 hyu (hone k4)
                  have hin : i < n := by have := (List.getElem?_eq_some_iff.1 hi).1; simpa using this
                  rw [List.getElem?_map,List.getElem?_range hin] at hi
                  cases hi
                  exact (d1 i (by omega)).1
            · exact .inl trivial
          · rename_i b off z n m ex hxe
            rw [hxe] at hx
            split
            · rename_i fr e' cs hbk
              split
              · rename_i old hold
                split
                · rename_i hchk
                  simp only [Bool.and_eq_true,Bool.not_eq_true',Bool.or_eq_false_iff] at hchk
                  obtain ⟨⟨⟨⟨⟨⟨⟨k1,k2⟩,k3⟩,⟨⟨k4,k5⟩,k6⟩⟩,k7⟩,k8⟩,k9⟩,k10⟩ := hchk
                  have k1 := ble_le k1
                  have k2 := nbeq k2
                  have k3 := nbeq k3
                  have k7 := nbeq k7
                  have k8 := ble_le k8
                  subst k2 k3 k4 k5 k7
                  have hbb : b ≠ b2 := by
                    intro e; subst e; simp at k6
                  cases hx with
                  | sref _ _ _ _ _ _ c base cap a hr hn hm he ha hz =>
                    have hb0 := I.sep.base0 _ _ _ hr
                    subst hb0
                    obtain ⟨arr,et,fz,z1,z2,z3⟩ := hz rfl
                    obtain ⟨c',base',hr',⟨arr',fz',hh',hfz'⟩,hcell⟩ := I.heap b _ hbk
                    rw [hr] at hr'; cases hr'
                    rw [z1] at hh'; cases hh'
                    obtain ⟨q1,q2,q3,q4⟩ := readN_some hold
                    refine .inr ⟨_,_,rfl,_,_,rfl,?_⟩
                    by_cases hfit : n + 1 ≤ cap
                    · have ha' : a = some ⟨c,0,none⟩ := by
                        rcases ha with e | ⟨e,_⟩
                        · simpa using e
                        · omega
                      subst ha'
                      have hne : cv ≠ c := by
                        intro ee
                        subst ee
                        exact hbb (I.sep.inj b b2 _ (.blk _ 0 hbk rfl (fun _ _ => by simp) hr) (.blk _ 0 hb2 rfl (fun _ _ => by simp) hrv))
                      exact ins_place L I hbk hr z1 (hfz' rfl) hold k1 hfit (by omega) z3 k10 hne u1 hyu (hone k9) (show w.shape? cv = some (e2,arr2.size) by simp [World.shape?,hh2]) (frozen_none hh2 (hfz2 rfl) _) (frozen_none hh2 (hfz2 rfl) _)
                    · obtain ⟨Ik,sk⟩ := I.kill b
                      have hcls : ClsRel cx w old ((List.range n).map fun i => (w.cell? ⟨c,0 + i,none⟩).getD undef) := by
                        refine ⟨by simp [q3],fun i hi => ?_⟩
                        obtain ⟨v,v1,v2,_,_⟩ := hcell i (by omega)
                        have e1 := q4 i hi (by omega)
                        rw [e1]
                        simp only [Nat.zero_add] at v1 ⊢
                        have : ((List.range n).map fun i => (w.cell? ⟨c,i,none⟩).getD undef).getD i undef = v := by
                          rw [List.getD_eq_getElem?_getD,List.getElem?_map,List.getElem?_range (by omega)]
                          simp only [Option.map_some,Option.getD_some,v1]
                        rw [this]; exact v2
                      have hres := ins_grow L Ik (capv := capv) hcls q3 k1 (by omega) (by omega) (base := a) (cap := cap) (by
                        by_cases e0 : n = 0
                        · exact .inl e0
                        · right
                          have ha' : a = some ⟨c,0,none⟩ := by
                            rcases ha with e | ⟨e,_⟩
                            · simpa using e
                            · omega
                          refine ⟨c,0,ha',fun i v hi => ?_⟩
                          have hin : i < n := by have := (List.getElem?_eq_some_iff.1 hi).1; simpa using this
                          rw [List.getElem?_map,List.getElem?_range hin] at hi
                          obtain ⟨x,x1,_⟩ := hcell i (by omega)
                          simp only [Option.map_some,x1,Option.getD_some,Option.some.injEq] at hi
                          rw [← hi]; exact x1) (fun e0 => by
                        rcases ha with e | ⟨_,e⟩
                        · rw [e] at e0; cases e0
                        · rw [e0] at e; cases e) k8 (hcls.one (by simpa [okCells] using k10)) u1 hyu (hone k9)
                      refine hres.mono ?_
                      rintro e w3 ⟨cx',v',p1,p2,p3,p4⟩
                      exact ⟨cx',v',p1,sk.trans p2,p3,p4⟩
                · exact .inl trivial
              · exact .inl trivial
            · exact .inl trivial
          · exact .inl trivial
        · exact .inl trivial
      · exact .inl trivial
    · exact .inl trivial
  · exact .inl trivial

theorem cntByte_eq {c : Nat} (hc : c < 256) : ∀ (l : List UInt8) (i : Nat),cntByte c l i = i + Lib.countByte l (UInt8.ofNat c) := by
 intro l
 induction l with
 | nil => intro i; rfl
 | cons b l ih =>
  intro i
  have hb : Nat.beq b.toNat c = (b == UInt8.ofNat c) := by
   rw [Bool.eq_iff_iff,Nat.beq_eq,beq_iff_eq]
   constructor
   ·intro e; rw [← e]; simp
   ·intro e; rw [e]; simp [Nat.mod_eq_of_lt hc]
  unfold cntByte
  rw [hb]
  unfold Lib.countByte at ih ⊢
  rw [List.count_cons]
  cases b == UInt8.ofNat c with
  | true => simp only [ih,if_true]; omega
  | false => simp [ih]

def pow10D : List DV := (List.range 20).map fun i => .i .u64 (.ofNat (10 ^ i))
def IsLib (P : Program) (G : Nat → List DV) (te : TypeId) (f : FuncId) : LibK → Prop
 | .itoa => Enters P f ∧ ∃ ρ,Proofs.LaysM.n171 P ρ ∧ ρ.f 171 = f ∧ G (ρ.g 17) = pow10D
 | .fmtInt => Enters P f ∧ ∃ ρ,Proofs.LaysM.n173 P ρ ∧ ρ.f 173 = f ∧ G (ρ.g 17) = pow10D
 | .atoi => Enters P f ∧ ∃ ρ,Proofs.LaysC.n172 P ρ ∧ ρ.f 172 = f ∧ ρ.t 168 = te ∧ (∃ t,G (ρ.g 15) = [.ifc t (.bx false [] 0)]) ∧ ∃ t,G (ρ.g 16) = [.ifc t (.bx false [] 0)]

theorem digs_succ (f u : Nat) (acc : List UInt8) : digs (f + 1) u acc = if u < 10 then UInt8.ofNat (48 + u) :: acc else digs f (u / 10) (UInt8.ofNat (48 + u % 10) :: acc) := by
 by_cases hb : u < 10
 ·have : Nat.blt u 10 = true := by rw [Nat.blt_eq]; exact hb
  rw [if_pos hb]
  show (match Nat.blt u 10 with | true => UInt8.ofNat (48 + u) :: acc | false => digs f (Nat.div u 10) (UInt8.ofNat (48 + Nat.mod u 10) :: acc)) = _
  rw [this]
 ·have : Nat.blt u 10 = false := by rw [← Bool.not_eq_true,Nat.blt_eq]; exact hb
  rw [if_neg hb]
  show (match Nat.blt u 10 with | true => UInt8.ofNat (48 + u) :: acc | false => digs f (Nat.div u 10) (UInt8.ofNat (48 + Nat.mod u 10) :: acc)) = _
  rw [this]
  rfl
theorem digs_eq : ∀ (f u : Nat) (acc : List UInt8),u < 10 ^ (f + 1) → digs (f + 1) u acc = Lib.decDigits u ++ acc := by
 intro f
 induction f with
 | zero =>
  intro u acc h
  have hu : u < 10 := by simpa using h
  rw [digs_succ,if_pos hu,Lib.decDigits,dif_pos hu]; rfl
 | succ f ih =>
  intro u acc h
  rw [digs_succ,Lib.decDigits]
  by_cases hu : u < 10
  ·rw [if_pos hu,dif_pos hu]; rfl
  ·rw [if_neg hu,dif_neg hu,ih _ _ (by rw [Nat.pow_succ] at h; omega)]
   simp
theorem itoaA_eq {n : Int} (h0 : -9223372036854775808 ≤ n) (h1 : n ≤ 9223372036854775807) : itoaA n = Lib.itoa n := by
 unfold Lib.itoa
 cases n with
 | ofNat u =>
  show digs 20 u [] = _
  rw [if_neg (by simp only [Int.ofNat_eq_natCast]; omega),digs_eq _ _ _ (by simp only [Int.ofNat_eq_natCast] at h1; omega),List.append_nil]
  rfl
 | negSucc u =>
  show 45 :: digs 20 (u + 1) [] = _
  rw [if_pos (by omega),digs_eq _ _ _ (by omega),List.append_nil]
  rfl
theorem inR_i64 {n : Int} (h : inR .i64 n = true) : -9223372036854775808 ≤ n ∧ n ≤ 9223372036854775807 := by
 cases n with
 | ofNat u => have := blt_lt (show Nat.blt u 9223372036854775808 = true from h); simp only [Int.ofNat_eq_natCast]; omega
 | negSucc u => have := blt_lt (show Nat.blt u 9223372036854775808 = true from h); omega

theorem tab_of (I : Inv P [] G cx h w) {g : Nat} {name : String} (hn : P.globalNamed name = some g) (hg : G g = pow10D) : Lib.TabIs P w name .u64 Lib.pow10Tab := by
 have hl : (G g).length = 20 := by rw [hg]; rfl
 obtain ⟨v,v1,v2,v3⟩ := I.glob g 0 (by omega)
 obtain ⟨arr,e,fz,a1,a2⟩ := v3.a
 unfold Lib.TabIs World.var?
 rw [hn,Option.bind_some,a1]
 show some arr = _
 congr 1
 apply Array.ext
 ·rw [a2,hl]; simp [Lib.pow10Tab]
 ·intro i h1 h2
  obtain ⟨v,v1,_,v3⟩ := I.glob g i (by omega)
  have hi : i < 20 := by omega
  have hd : (G g)[i]'(by omega) = .i .u64 (.ofNat (10 ^ i)) := by simp [hg,pow10D]
  have hv := v3.d
  rw [hd] at hv
  cases hv
  have hc : w.cell? ⟨g,i,none⟩ = arr[i]? := by simp [World.cell?,a1]
  rw [hc,Array.getElem?_eq_getElem h1] at v1
  injection v1 with v1
  rw [v1]
  simp [Lib.pow10Tab]

theorem Inv.more (I : Inv P [] G cx h w) {w' : World} (hs : w.heap.size ≤ w'.heap.size) (hold : ∀ c : Nat,c < w.heap.size → w'.heap[c]? = w.heap[c]?) (hio : w'.os = w.os ∧ w'.output = w.output) :
  ∃ cx',Inv P [] G cx' h w' ∧ Stp cx h w cx' h w' :=
 ⟨_,I.addZ (w' := w') (fun _ _ => False) hs hold (fun _ _ f => f.elim) hio⟩
theorem Inv.moreG (I : Inv P [] G cx h w) {w' : World} {k : Nat} {os : Array Obj} (e : w' = Sort.grow (w.drewN k) os) : ∃ cx',Inv P [] G cx' h w' ∧ Stp cx h w cx' h w' := by
 subst e
 refine I.more ?_ (fun c hc => ?_) ⟨rfl,rfl⟩
 ·show w.heap.size ≤ (w.heap ++ os).size
  rw [Array.size_append]; omega
 ·show (w.heap ++ os)[c]? = _
  exact Array.getElem?_append_left hc

theorem snd_lib (hG : E.glob = G) (I : Inv P [] G cx h w) {f : FuncId} {k : LibK} (S : E.pr f = true → IsLib P E.glob E.err f k) {xs : List X} {tm : List AV} {args : Array Value} (hl : args.size = xs.length) (hr : ∀ i (hi : i < xs.length),VRel cx w (xs[i].ev tm) (args.getD i undef)) :
  OpOutE P G cx h w (s_lib E h tm f k xs) ((callFunc f args).run P w) := by
 have one : ∀ x,xs = [x] → ∃ v,args = #[v] ∧ VRel cx w (x.ev tm) v := by
  rintro x rfl
  refine ⟨args.getD 0 undef,?_,hr 0 (by simp)⟩
  apply Array.ext
  ·simpa using hl
  ·intro i h1 h2
   have : i = 0 := by simp at h2; omega
   subst this
   simp [Array.getD,h1]
 have two : ∀ x y,xs = [x,y] → ∃ v u,args = #[v,u] ∧ VRel cx w (x.ev tm) v ∧ VRel cx w (y.ev tm) u := by
  rintro x y rfl
  refine ⟨args.getD 0 undef,args.getD 1 undef,?_,hr 0 (by simp),hr 1 (by simp)⟩
  apply Array.ext
  ·simpa using hl
  ·intro i h1 h2
   have : i = 0 ∨ i = 1 := by simp at h2; omega
   rcases this with rfl | rfl <;> simp [Array.getD,h1]
 unfold s_lib
 split
 ·rename_i hpr
  have S := S hpr
  rw [hG] at S
  unfold libA
  split
  ·
   rename_i n hmap _
   obtain ⟨x,rfl,hx⟩ : ∃ x,xs = [x] ∧ x.ev tm = .d (.i .i64 n) := by
    cases xs with
    | nil => simp at hmap
    | cons x xs => cases xs with
     | nil => exact ⟨x,rfl,by simpa using hmap⟩
     | cons y ys => simp at hmap
   obtain ⟨v,rfl,hv⟩ := one x rfl
   rw [hx] at hv
   cases hv with
   | d _ _ hv =>
   cases hv
   split
   ·rename_i hin
    obtain ⟨b0,b1⟩ := inR_i64 hin
    obtain ⟨hent,ρ,L,rfl,hg⟩ := S
    rw [run_callFunc hent]
    refine .inr ⟨_,_,rfl,_,_,rfl,?_⟩
    refine (Proofs.Any.strconv_Itoa L n b0 b1 w (tab_of I L.m17 hg)).mono ?_
    rintro e w' ⟨rfl,k,os,hw⟩
    obtain ⟨cx',J,T⟩ := I.moreG hw
    exact ⟨cx',_,J,T,.d _ _ (.s _ _ (by rw [itoaA_eq b0 b1])),rfl⟩
   ·exact .inl trivial
  ·
   rename_i n b hmap _
   obtain ⟨x,y,rfl,hx,hy⟩ : ∃ x y,xs = [x,y] ∧ x.ev tm = .d (.i .i64 n) ∧ y.ev tm = .d (.i .i64 (.ofNat b)) := by
    cases xs with
    | nil => simp at hmap
    | cons x xs => cases xs with
     | nil => simp at hmap
     | cons y ys => cases ys with
      | nil => exact ⟨x,y,rfl,by simpa using hmap⟩
      | cons z zs => simp at hmap
   obtain ⟨v,u,rfl,hv,hu⟩ := two x y rfl
   rw [hx] at hv
   rw [hy] at hu
   cases hv with
   | d _ _ hv =>
   cases hv
   cases hu with
   | d _ _ hu =>
   cases hu
   split
   ·rename_i hin
    simp only [Bool.and_eq_true] at hin
    obtain ⟨b0,b1⟩ := inR_i64 hin.1
    have hb := nbeq hin.2
    subst hb
    obtain ⟨hent,ρ,L,rfl,hg⟩ := S
    rw [run_callFunc hent]
    refine .inr ⟨_,_,rfl,_,_,rfl,?_⟩
    refine (Proofs.Any.strconv_FormatInt_10 L n b0 b1 w (tab_of I L.m17 hg)).mono ?_
    rintro e w' ⟨rfl,k,os,hw⟩
    obtain ⟨cx',J,T⟩ := I.moreG hw
    exact ⟨cx',_,J,T,.d _ _ (.s _ _ (by rw [itoaA_eq b0 b1])),rfl⟩
   ·exact .inl trivial
  ·
   rename_i s hmap _
   obtain ⟨x,rfl,hx⟩ : ∃ x,xs = [x] ∧ x.ev tm = .d (.s s) := by
    cases xs with
    | nil => simp at hmap
    | cons x xs => cases xs with
     | nil => exact ⟨x,rfl,by simpa using hmap⟩
     | cons y ys => simp at hmap
   obtain ⟨v,rfl,hv⟩ := one x rfl
   rw [hx] at hv
   cases hv with
   | d _ _ hv =>
   cases hv with
   | s _ sb hsb =>
   split
   ·rename_i hin
    have hle := ble_le hin
    have hsz : sb.size = s.length := by rw [← hsb]; simp
    obtain ⟨hent,ρ,L,rfl,het,⟨t1,hg1⟩,t2,hg2⟩ := S
    rw [← het]
    rw [run_callFunc hent]
    have cell : ∀ {g : Nat} {t : TypeId},G g = [.ifc t (.bx false [] 0)] → ∃ ev,w.cell? ⟨g,0,none⟩ = some ev ∧ (ev = .nilIface ∨ ∃ te pe,ev = .iface te pe) := by
     intro g t hg
     obtain ⟨v,v1,_,v3⟩ := I.glob g 0 (by rw [hg]; simp)
     refine ⟨v,v1,.inr ?_⟩
     have hd := v3.d
     simp only [hg,List.getElem_cons_zero] at hd
     cases hd
     exact ⟨_,_,rfl⟩
    obtain ⟨e1,c1,i1⟩ := cell hg1
    obtain ⟨e2,c2,i2⟩ := cell hg2
    have err : ∀ (z : Int) (N : Nat) (cx' : Cx) (w' : World),VRel cx' w' (.tup [.d (.i .i64 z),.d (.ifc (ρ.t 168) (.bx false [] 0))]) (.tuple #[.int .i64 z,.iface (ρ.t 168) (.pointer (some ⟨N,0,none⟩))]) := by
     intro z N cx' w'
     refine .tup _ _ rfl (fun i hi => ?_)
     have : i = 0 ∨ i = 1 := by simp at hi; omega
     rcases this with rfl | rfl
     ·exact .d _ _ (.i _ _)
     ·exact .d _ _ (.ifc _ _ _ (.bx false [] 0 N 0 (fun _ => undef) (fun i hi => absurd hi (by simp)) (fun i hi => absurd hi (by simp))))
    cases ha : Lib.atoiAll s with
    | ok v =>
     refine .inr ⟨_,_,rfl,_,_,rfl,?_⟩
     refine (Proofs.Any.strconv_Atoi_ok L sb (by omega) v (by rw [hsb]; exact ha) w).mono ?_
     rintro e w' ⟨rfl,hw⟩
     have : ∃ cx',Inv P [] G cx' h w' ∧ Stp cx h w cx' h w' := by
      rcases hw with rfl | ⟨t,rfl⟩
      ·exact ⟨cx,I,.refl _ _ _⟩
      ·refine I.more (w' := Lib.bytesWorld w (ρ.t 5) t) ?_ (fun c hc => ?_) ⟨rfl,rfl⟩
       ·simp [Lib.bytesWorld,World.freeze]
       ·show ((w.heap.push _).modify w.heap.size _)[c]? = _
        rw [Array.getElem?_modify,if_neg (by omega),Array.getElem?_push,if_neg (by omega)]
     obtain ⟨cx',J,T⟩ := this
     refine ⟨cx',_,J,T,.tup _ _ rfl (fun i hi => ?_),rfl⟩
     have : i = 0 ∨ i = 1 := by simp at hi; omega
     rcases this with rfl | rfl
     ·exact .d _ _ (.i _ _)
     ·exact .d _ _ .nili
    | range =>
     refine .inr ⟨_,_,rfl,_,_,rfl,?_⟩
     refine (Proofs.Any.strconv_Atoi_range L sb (by omega) (by rw [hsb]; exact ha) e2 w c2 i2).mono ?_
     rintro e w' ⟨N,rfl,_,_,hb⟩
     obtain ⟨cx',J,T⟩ := I.more hb.size (fun c hc => hb.block c hc) ⟨hb.os,hb.output⟩
     exact ⟨cx',_,J,T,by rw [hsb]; exact err _ _ _ _,rfl⟩
    | _ =>
     refine .inr ⟨_,_,rfl,_,_,rfl,?_⟩
     refine (Proofs.Any.strconv_Atoi_syntax L sb (by omega) (by rw [hsb]; exact ha) e1 w c1 i1).mono ?_
     rintro e w' ⟨N,rfl,_,_,hb⟩
     obtain ⟨cx',J,T⟩ := I.more hb.size (fun c hc => hb.block c hc) ⟨hb.os,hb.output⟩
     exact ⟨cx',_,J,T,err _ _ _ _,rfl⟩
   ·exact .inl trivial
  ·exact .inl trivial
 ·exact .inl trivial

theorem snd_bgrow (I : Inv P [] G cx h w) {f : FuncId} {e : TypeId} (S : E.pr f = true → IsGrow P f e) {x n : X} {tm : List AV} {v u : Value} (hx : VRel cx w (x.ev tm) v) (hn : VRel cx w (n.ev tm) u) :
  OpOutE P G cx h w (s_bgrow E h tm f e x n) ((callFunc f #[v,u]).run P w) := by
 unfold s_bgrow
 split
 ·rename_i hpr
  obtain ⟨hent,ρ,L,X,rfl,rfl⟩ := S hpr
  rw [run_callFunc hent]
  split
  ·rename_i b k he hk
   rw [he] at hx; rw [hk] at hn
   obtain ⟨c,base,hr,rfl⟩ := hx.ptr_inv
   have hb0 := I.sep.base0 _ _ _ hr
   subst hb0
   cases hn with
   | d _ _ hn =>
   cases hn
   split
   ·rename_i eb cs hle hb
    split
    ·rename_i hrd
     have hle := ble_le hle
     obtain ⟨r1,r2,r3,r4⟩ := readN_some hrd
     obtain ⟨c',base',hr',⟨arr,fz,harr,hfz⟩,hcell⟩ := I.heap b _ hb
     rw [hr] at hr'; cases hr'
     obtain ⟨x1,y1,y2,_,y4⟩ := hcell 1 (by omega)
     have hcs : cs[1]'(by omega) = .nilsl := (r4 0 (by simp) (by omega)).symm
     rw [hcs] at y2
     cases y2
     have hlt := I.sep.lt _ _ _ hr
     have hsz5 : szOf P (ρ.t 5) = some 1 := X.sizeByte
     refine .inr ⟨_,_,rfl,_,_,rfl,?_⟩
     refine (Proofs.grow.run L X c k w hlt (by simpa using y1) (by simpa using y4 rfl) hle).mono ?_
     rintro e w' ⟨rfl,row,q1,q2,q3,q4,q5⟩
     obtain ⟨cx1,J,T,V⟩ := I.newTok (w' := w.alloc (.cells row (ρ.t 5))) (e := ρ.t 5) (arr := row) (ds := []) (n := 0) (cap := row.size) (sz := 1) rfl hsz5 rfl (by simp) (Nat.zero_le _) (fun i hi => absurd hi (by simp)) ⟨rfl,rfl⟩
     have hne : b ≠ h.n := Nat.ne_of_lt (Heap.lt_of_get hb)
     have hb1 : (h.push (.tok 0 (ρ.t 5))).get b = some (.cells false eb cs) := by rw [Heap.get_push]; simp [hne,hb]
     have hr1 := T.ext.ρ _ _ hr
     have hcl : ClsRel cx1 (w.alloc (.cells row (ρ.t 5))) [.app h.n 0 0 []] [.slice (some ⟨w.heap.size,0,none⟩) 0 row.size] := ⟨rfl,fun i hi => by
      have : i = 0 := by simpa using hi
      subst this; exact V⟩
     obtain ⟨_,J2,T2⟩ := J.write (off := 1) hb1 hr1 hcl (by simp; omega) (by simp [Value.oneCell'])
     obtain ⟨J3,T3⟩ := J2.same (w' := w') (by rw [q3]; rfl) ⟨q4,q5⟩
     exact ⟨_,_,J3,(T.trans T2).trans T3,.tup _ _ rfl (fun i hi => absurd hi (by simp)),rfl⟩
    ·exact .inl trivial
   ·exact .inl trivial
  ·exact .inl trivial
 ·exact .inl trivial

theorem snd_inv (I : Inv P [] G cx h w) (hG : E.glob = G) (hM : E.meth = methOf P) {m : String} {x : X} {xs : List X} {tm : List AV} {v : Value} {args : Array Value} (hx : VRel cx w (x.ev tm) v) (hl : args.size = xs.length) (hr : ∀ i (hi : i < xs.length),VRel cx w (xs[i].ev tm) (args.getD i undef)) :
    OpOut P [] G cx h w (s_inv E h tm x m xs) ((callMethod v m args).run P w) := by
  obtain ⟨d,hd⟩ : ∃ d,P.types.size + Made.depth = d + 1 := ⟨P.types.size + 99,rfl⟩
  have fin : ∀ (u : AV) (u' : Value),VRel cx w u u' → (#[u'] ++ args).size = (u :: xs.map (X.ev tm)).length ∧ ∀ i (hi : i < (u :: xs.map (X.ev tm)).length),VRel cx w (u :: xs.map (X.ev tm))[i] ((#[u'] ++ args).getD i undef) := by
    intro u u' hu
    exact getD_append3 (a := [u]) (b := xs.map (X.ev tm)) (a' := #[u']) (b' := args) rfl (by simpa using hl) (fun i hi => by
      have : i = 0 := by simpa using hi
      subst this; exact hu) (fun i hi => by rw [List.getElem_map]; exact hr i (by simpa using hi))
  unfold s_inv
  split
  · rename_i t b off hxe
    rw [hxe] at hx
    obtain ⟨v',rfl,hv'⟩ := ifc_inv hx
    obtain ⟨c,base,hr',rfl⟩ := hv'.ptr_inv
    rw [hM]
    have hmeth : ∀ {f o z},methOf P t m = some (f,o,z) → ∃ i y pr,P.info? t = some i ∧ i.methods.find? (·.name == m) = some y ∧ y.func = some (f,pr) ∧
        ((y.path = #[] ∧ pr = true ∧ o = 0 ∧ z = none ∧ ∃ e,P.underlying t = some (.pointer e)) ∨
         ∃ s fs fd e n ag,y.path = #[s] ∧ pr = false ∧ P.underlying s.struct = some (.struct fs) ∧ s.deref = true ∧ fs[s.index]? = some fd ∧ P.underlying fd.type = some (.slice e) ∧ szOf P fd.type = some (n + 1) ∧ aggT P fd.type = some ag ∧ o = fd.offset ∧ z = some (ag,n + 1)) := by
      intro f o z hm
      unfold methOf at hm
      simp only [Option.bind_eq_bind,Option.bind_eq_some_iff] at hm
      obtain ⟨i,hi,y,hy,⟨f',pr⟩,hf,hm⟩ := hm
      refine ⟨i,y,pr,hi,hy,?_⟩
      simp only at hm
      split at hm
      · rename_i hp
        split at hm
        · rename_i e hu
          cases hm
          exact ⟨hf,.inl ⟨by apply Array.ext'; exact hp,rfl,rfl,rfl,_,hu⟩⟩
        · cases hm
      · rename_i s hp
        split at hm
        · rename_i fs hu hde
          simp only [Option.bind_eq_some_iff] at hm
          obtain ⟨fd,hfd,hm⟩ := hm
          split at hm
          · rename_i e n h1 h2
            simp only [Option.bind_eq_some_iff,Option.some.injEq,Prod.mk.injEq] at hm
            obtain ⟨ag,hag,rfl,rfl,rfl⟩ := hm
            exact ⟨hf,.inr ⟨s,fs,fd,e,n,ag,by apply Array.ext'; exact hp,rfl,hu,hde,hfd,h1,h2,hag,rfl,rfl⟩⟩
          · cases hm
        · cases hm
      · cases hm
    split
    · rename_i f o hm
      obtain ⟨i,y,pr,hi,hy,hf,⟨hp,rfl,rfl,_,e,hu⟩ | ⟨s,fs,fd,e,n,ag,hp,rfl,h1,h2,h3,h4,h5,h6,rfl,hz⟩⟩ := hmeth hm
      · refine ⟨#[.pointer (some ⟨c,base + off,none⟩)] ++ args,fun hE => ?_,?_⟩
        · have : (method (d + 1) t (.pointer (some ⟨c,base + off,none⟩)) m).run P w = .ok (f,.pointer (some ⟨c,base + off,none⟩)) w := by
            simp [method,run_typeInfo w hi,hy,hp,hf,follow,receiverAt,run_underlying hu,Place.get]
          simp [callMethod,hd,this,run_callFunc hE]
        · exact fin _ _ (by simpa using hv')
      · cases hz
    · rename_i f o ag' n' hm
      obtain ⟨i,y,pr,hi,hy,hf,⟨hp,rfl,rfl,hz,e,hu⟩ | ⟨s,fs,fd,e,n,ag,hp,rfl,h1,h2,h3,h4,h5,h6,rfl,hz⟩⟩ := hmeth hm
      · cases hz
      · cases hz
        split
        · rename_i u hload
          rw [hG] at hload
          have hv2 : VRel cx w (.ptr b (off + fd.offset)) (.pointer (some ⟨c,base + off + fd.offset,none⟩)) := by
            rw [Nat.add_assoc]; exact .ptr _ _ _ _ hr'
          obtain ⟨u',l1,l2⟩ := snd_load I h6 h5 hv2 hload
          have l1' : (loadVar fd.type ⟨c,base + off + fd.offset,none⟩).run P w = .ok u' w := by
            simpa [Instr.loadAt,Instr.sureAddr] using l1
          refine ⟨#[u'] ++ args,fun hE => ?_,fin _ _ l2⟩
          have : (method (d + 1) t (.pointer (some ⟨c,base + off,none⟩)) m).run P w = .ok (f,u') w := by
            simp [method,run_typeInfo w hi,hy,hp,hf,follow,h1,h2,h3,receiverAt,run_underlying h1,run_underlying h4,Place.get,fieldPlace,asAddr,run_sizeOf' h5,Addr.add]
            rw [show (if fd.offset = 0 then (⟨c,base + off,none⟩ : Addr) else ⟨c,base + off + fd.offset,none⟩) = ⟨c,base + off + fd.offset,none⟩ by split <;> simp_all,l1']
            rfl
          simp [callMethod,hd,this,run_callFunc hE]
        · trivial
    · trivial
  · trivial

theorem snd_prim (I : Inv P [] G cx h w) {f : FuncId} {p : Prim} (S : E.pr f = true → IsPrim P f p) {xs : List X} {tm : List AV} {args : Array Value} (hl : args.size = xs.length) (hr : ∀ i (hi : i < xs.length),VRel cx w (xs[i].ev tm) (args.getD i undef)) :
  OpOutE P G cx h w (s_prim E h tm f p xs) ((callFunc f args).run P w) := by
 have one : ∀ x,xs = [x] → ∃ v,args = #[v] ∧ VRel cx w (x.ev tm) v := by
  rintro x rfl
  refine ⟨args.getD 0 undef,?_,hr 0 (by simp)⟩
  apply Array.ext
  ·simpa using hl
  ·intro i h1 h2
   have : i = 0 := by simp at h2; omega
   subst this
   simp [Array.getD,h1]
 have two : ∀ x y,xs = [x,y] → ∃ v u,args = #[v,u] ∧ VRel cx w (x.ev tm) v ∧ VRel cx w (y.ev tm) u := by
  rintro x y rfl
  refine ⟨args.getD 0 undef,args.getD 1 undef,?_,hr 0 (by simp),hr 1 (by simp)⟩
  apply Array.ext
  ·simpa using hl
  ·intro i h1 h2
   have : i = 0 ∨ i = 1 := by simp at h2; omega
   rcases this with rfl | rfl <;> simp [Array.getD,h1]
 unfold s_prim
 split
 ·rename_i hpr
  have S := S hpr
  left
  cases p with
  | indexByte =>
   unfold primA
   split
   ·rename_i p' args' s c hp hmap
    cases xs with
    | nil => simp at hmap
    | cons x xs =>
    cases xs with
    | nil => simp at hmap
    | cons y xs =>
    cases xs with
    | cons z xs => simp at hmap
    | nil =>
    obtain ⟨v,u,rfl,hv,hu⟩ := two x y rfl
    simp only [List.map_cons,List.map_nil,List.cons.injEq,and_true] at hmap
    rw [hmap.1] at hv
    rw [hmap.2] at hu
    split
    ·rename_i hc
     have hc := blt_lt hc
     cases hv with
     | d _ _ hv =>
     cases hu with
     | d _ _ hu =>
     cases hu
     cases hv with
     | s _ s' hs =>
     refine .look I (v' := .int .i64 (Lib.indexByte s'.data.toList (UInt8.ofNat c))) ?_ ?_
     ·rw [S s' (Int.ofNat c) w]; rfl
     ·rw [idxByte_eq hc,← hs]
      have : (if Lib.indexByte s'.data.toList (UInt8.ofNat c) = -1 then (-1 : Int) else Lib.indexByte s'.data.toList (UInt8.ofNat c) + (0 : Nat)) = Lib.indexByte s'.data.toList (UInt8.ofNat c) := by
       split
       ·rename_i e; exact e.symm
       ·simp
      rw [this]
      exact .d _ _ (.i _ _)
    ·trivial
   all_goals first | trivial | (rename_i e; cases e) | skip
  | noEscape =>
   cases xs with
   | nil => trivial
   | cons x xs =>
   cases xs with
   | cons y xs => trivial
   | nil =>
    obtain ⟨v,rfl,hv⟩ := one x rfl
    exact .look I (S v w) hv
  | index => exact S.elim
  | count =>
   unfold primA
   split
   ·rename_i e _; cases e
   ·rename_i e _; cases e
   ·rename_i p' args' s c hp hmap
    cases xs with
    | nil => simp at hmap
    | cons x xs =>
    cases xs with
    | nil => simp at hmap
    | cons y xs =>
    cases xs with
    | cons z xs => simp at hmap
    | nil =>
    obtain ⟨v,u,rfl,hv,hu⟩ := two x y rfl
    simp only [List.map_cons,List.map_nil,List.cons.injEq,and_true] at hmap
    rw [hmap.1] at hv
    rw [hmap.2] at hu
    split
    ·rename_i hc
     have hc := blt_lt hc
     cases hv with
     | d _ _ hv =>
     cases hu with
     | d _ _ hu =>
     cases hu
     cases hv with
     | s _ s' hs =>
     refine .look I (v' := .int .i64 (Lib.countByte s'.data.toList (UInt8.ofNat c))) ?_ ?_
     ·rw [S s' (Int.ofNat c) w]; rfl
     ·rw [cntByte_eq hc,← hs,Nat.zero_add]
      exact .d _ _ (.i _ _)
    ·trivial
   all_goals first | trivial | (rename_i e; cases e) | skip
  | overlaps => exact S.elim
  | makeNoZero e => exact S.elim
 ·exact .inl trivial
theorem IsClone.of (L : Proofs.SlLaysE0.n41 P ρ) {f : FuncId} {fn : Func} {e : TypeId} (hf : ρ.f 41 = f) (hfn : P.funcs[f]? = some fn) (hb : fn.body.isSome = true) (hnm : (fn.name == "runtime.NumGoroutine") = false) (hp : fn.params[0]? = some (ρ.t 22)) (hpar : (fn.params[0]?).bind P.underlying = some (.slice e)) : IsClone P f e := by
 obtain ⟨c,hc⟩ := Option.isSome_iff_exists.1 hb
 rw [hp,Option.bind_some,L.t22] at hpar
 cases hpar
 exact ⟨⟨fn,c,hfn,hc,by simpa using hnm⟩,ρ,L,hf,rfl⟩
theorem IsInsert.of (L : Proofs.Lays2.n21 P ρ) {f : FuncId} {fn : Func} {e : TypeId} (hf : ρ.f 21 = f) (hfn : P.funcs[f]? = some fn) (hb : fn.body.isSome = true) (hnm : (fn.name == "runtime.NumGoroutine") = false) (hp : fn.params[0]? = some (ρ.t 22)) (hpar : (fn.params[0]?).bind P.underlying = some (.slice e)) : IsInsert P f e := by
 obtain ⟨c,hc⟩ := Option.isSome_iff_exists.1 hb
 rw [hp,Option.bind_some,L.t22] at hpar
 cases hpar
 exact ⟨⟨fn,c,hfn,hc,by simpa using hnm⟩,ρ,L,hf,rfl⟩
theorem IsPrim.noEscape {f : FuncId} {fn : Func} (hf : P.funcs[f]? = some fn) (hname : (fn.name == "runtime.NumGoroutine") = false) (hb : fn.body.isNone = true) (hn : Extern.findNext fn = none) (he : Extern.find fn = some Extern.AbiNoEscape.same) : IsPrim P f .noEscape := by
 intro v w
 rw [run_callFunc_extern hf hname hb hn he]
 rfl
theorem IsPrim.indexByte {f : FuncId} {fn : Func} (hf : P.funcs[f]? = some fn) (hname : (fn.name == "runtime.NumGoroutine") = false) (hb : fn.body.isNone = true) (hn : Extern.findNext fn = none) (he : Extern.find fn = some Extern.BytealgIndexByte.indexByte) : IsPrim P f .indexByte := by
 intro s c w
 rw [run_callFunc_extern hf hname hb hn he,Lib.run_indexByteString]
 rfl

theorem IsPrim.count {f : FuncId} {fn : Func} (hf : P.funcs[f]? = some fn) (hname : (fn.name == "runtime.NumGoroutine") = false) (hb : fn.body.isNone = true) (hn : Extern.findNext fn = none) (he : Extern.find fn = some Extern.BytealgCount.count) : IsPrim P f .count := by
 intro s c w
 rw [run_callFunc_extern hf hname hb hn he,Lib.run_countString]
 rfl
theorem IsGrow.of (L : Proofs.Lays.n241 P ρ) (X : Proofs.Builder.Extra P ρ) {f : FuncId} {fn : Func} {bt eb : TypeId} {fs : Array Field} (hf : ρ.f 241 = f) (hfn : P.funcs[f]? = some fn) (hb : fn.body.isSome = true) (hnm : (fn.name == "runtime.NumGoroutine") = false) (hp : fn.params[0]? = some (ρ.t 70))
  (h1 : (fn.params[0]?).bind P.underlying = some (.pointer bt)) (h2 : P.underlying bt = some (.struct fs)) (h3 : ((fs[1]?).bind fun f => P.underlying f.type) = some (.slice eb)) : IsGrow P f eb := by
 obtain ⟨c,hc⟩ := Option.isSome_iff_exists.1 hb
 rw [hp,Option.bind_some,L.t70] at h1
 cases h1
 rw [L.t72] at h2
 cases h2
 have h3 : P.underlying (ρ.t 37) = some (.slice eb) := h3
 rw [L.t37] at h3
 cases h3
 exact ⟨⟨fn,c,hfn,hc,by simpa using hnm⟩,ρ,L,X,hf,rfl⟩

structure LibOk (P : Program) (E : Env) : Prop where
 clone : ∀ f fn e,E.pr f = true → P.funcs[f]? = some fn → fn.name.startsWith "slices.Clone[" = true → (fn.params[0]?).bind P.underlying = some (.slice e) → IsClone P f e
 insrt : ∀ f fn e,E.pr f = true → P.funcs[f]? = some fn → fn.name.startsWith "slices.Insert[" = true → (fn.params[0]?).bind P.underlying = some (.slice e) → IsInsert P f e
 prim : ∀ f fn p,E.pr f = true → P.funcs[f]? = some fn → fn.body = none → primOf P fn.name fn = some p → IsPrim P f p
 lib : ∀ f fn k,E.pr f = true → P.funcs[f]? = some fn → libOf fn.name = some k → IsLib P E.glob E.err f k
 grow : ∀ f fn bt fs eb,E.pr f = true → P.funcs[f]? = some fn → (fn.name == "(*strings.Builder).grow") = true → (fn.params[0]?).bind P.underlying = some (.pointer bt) → P.underlying bt = some (.struct fs) → ((fs[1]?).bind fun f => P.underlying f.type) = some (.slice eb) → IsGrow P f eb

theorem cBuiltin_lib {mu : List String} {me : String} {b : Builtin} {ts : Array TypeId} {xs : List X} {c : COp} (hc : cBuiltin P mu me b ts xs = some c) : libOp c = false := by
 unfold cBuiltin at hc
 revert hc
 (repeat' split) <;> simp [Option.bind_eq_some_iff] <;> (intros; subst_vars; rfl)

def NoLib (o : Option COp) : Prop := ∀ d,o = some d → libOp d = false
theorem NoLib.bind {α : Type} {o : Option α} {f : α → Option COp} (h : ∀ a,NoLib (f a)) : NoLib (o >>= f) := by
 intro d hd
 simp only [Option.bind_eq_bind,Option.bind_eq_some_iff] at hd
 obtain ⟨a,_,ha⟩ := hd
 exact h a d ha
theorem NoLib.map {α : Type} {o : Option α} {f : α → COp} (h : ∀ a,libOp (f a) = false) : NoLib (o.map f) := by
 intro d hd
 simp only [Option.map_eq_some_iff] at hd
 obtain ⟨a,_,rfl⟩ := hd
 exact h a
theorem NoLib.some {x : COp} (h : libOp x = false) : NoLib (some x) := by
 intro d hd; cases hd; exact h
theorem NoLib.none : NoLib none := by intro d hd; cases hd
theorem NoLib.ite {c : Prop} [Decidable c] {a b : Option COp} (h : NoLib a) (k : NoLib b) : NoLib (if c then a else b) := by
 split
 ·exact h
 ·exact k

theorem lib_inv {mu : List String} {me : String} {o : Oper} {c : COp} (hc : cOpP P mu me o = some c) (hl : libOp c = true) : ∃ c',o.op = .call c' ∧ ((∃ f,c'.callee = .value (.func f)) ∨ ∃ r m,c'.callee = .invoke r m) := by
 have bad : ∀ {o : Option COp},o = some c → NoLib o → False := fun h k => by
  have := k c h; rw [hl] at this; cases this
 unfold cOpP at hc
 split at hc
 case h_33 c' hop =>
  split at hc
  ·rename_i f hcal; exact ⟨c',hop,.inl ⟨f,hcal⟩⟩
  ·exfalso; refine bad hc ?_; exact .bind fun _ => .bind fun _ => .some rfl
  ·rename_i r m hcal; exact ⟨c',hop,.inr ⟨r,m,hcal⟩⟩
  ·exfalso; refine bad hc ?_; exact .bind fun _ => fun d hd => cBuiltin_lib hd
 all_goals
  exfalso
  refine bad hc ?_
  clear hc bad hl
  try unfold cConvert
  repeat' first
   | exact .none
   | exact .some rfl
   | exact .map (fun _ => rfl)
   | refine .bind (fun _ => ?_)
   | refine .ite ?_ ?_
   | split

theorem lib_sound (hL : LibOk P E) (hG : E.glob = G) (hM : E.meth = methOf P) (I : Inv P [] G cx h w) {mu' : List String} {me : String} {o : Oper} {c : COp} (hc : cOpP P mu' me o = some c) (hb : libOp c = true) {a : Act} {tm : List AV} (ht : TRel cx w tm a.tmps) :
  OpOutE P G cx h w (stepA c E h tm) ((execOp a.eval o).run P w) := by
 obtain ⟨c',hop,⟨f,hcal⟩ | ⟨r,m,hcal⟩⟩ := lib_inv hc hb
 rotate_left
 ·unfold cOpP at hc
  rw [hop] at hc
  simp only at hc
  rw [hcal] at hc
  simp only [Option.bind_eq_bind,Option.bind_eq_some_iff,Option.some.injEq] at hc
  obtain ⟨x,hx,xs,hxs,rfl⟩ := hc
  obtain ⟨a1,a2⟩ := args_rel ht hxs
  have hrun : (execOp a.eval o).run P w = (callMethod (a.eval r) m (c'.args.map a.eval)).run P w := by
   unfold execOp
   rw [hop]
   simp only [resolve,hcal]
   simp [invoke]
   rw [show (#[a.eval r] ++ Array.map a.eval c'.args)[0]? = some (a.eval r) from by rw [Array.getElem?_append_left (by simp)]; rfl]
   rw [show (Array.map a.eval c'.args).extract 0 c'.args.size = Array.map a.eval c'.args from by rw [← Array.size_map (f := a.eval)]; exact Array.extract_size]
  rw [hrun]
  exact .inl (snd_inv I hG hM (cX_rel ht hx) a1 a2)
 unfold cOpP at hc
 rw [hop] at hc
 simp only at hc
 rw [hcal] at hc
 simp only [Option.bind_eq_bind,Option.bind_eq_some_iff] at hc
 obtain ⟨xs,hxs,hc⟩ := hc
 obtain ⟨a1,a2⟩ := args_rel ht hxs
 have hrun : (execOp a.eval o).run P w = (callFunc f (c'.args.map a.eval)).run P w := by
  unfold execOp
  rw [hop]
  simp only [resolve,hcal]
  simp [Deferred.ofValue,invoke,Act.eval]
 rw [hrun]
 have one : ∀ x,xs = [x] → ∃ v,c'.args.map a.eval = #[v] ∧ VRel cx w (x.ev tm) v := by
  rintro x rfl
  refine ⟨(c'.args.map a.eval).getD 0 undef,?_,a2 0 (by simp)⟩
  apply Array.ext
  ·simpa using a1
  ·intro i h1 h2
   have : i = 0 := by simp at h2; omega
   subst this
   rw [Array.getD_eq_getD_getElem?,Array.getElem?_eq_getElem h1]; rfl
 have two : ∀ x y,xs = [x,y] → ∃ v u,c'.args.map a.eval = #[v,u] ∧ VRel cx w (x.ev tm) v ∧ VRel cx w (y.ev tm) u := by
  rintro x y rfl
  refine ⟨(c'.args.map a.eval).getD 0 undef,(c'.args.map a.eval).getD 1 undef,?_,a2 0 (by simp),a2 1 (by simp)⟩
  apply Array.ext
  ·simpa using a1
  ·intro i h1 h2
   have : i = 0 ∨ i = 1 := by simp at h2; omega
   have hg : ∀ k (hk : k < (c'.args.map a.eval).size),(c'.args.map a.eval)[k] = (c'.args.map a.eval).getD k undef := fun k hk => by rw [Array.getD_eq_getD_getElem?,Array.getElem?_eq_getElem hk]; rfl
   rcases this with rfl | rfl <;> (rw [hg _ h1]; rfl)
 have three : ∀ x y z,xs = [x,y,z] → ∃ v u t,c'.args.map a.eval = #[v,u,t] ∧ VRel cx w (x.ev tm) v ∧ VRel cx w (y.ev tm) u ∧ VRel cx w (z.ev tm) t := by
  rintro x y z rfl
  refine ⟨(c'.args.map a.eval).getD 0 undef,(c'.args.map a.eval).getD 1 undef,(c'.args.map a.eval).getD 2 undef,?_,a2 0 (by simp),a2 1 (by simp),a2 2 (by simp)⟩
  apply Array.ext
  ·simpa using a1
  ·intro i h1 h2
   have : i = 0 ∨ i = 1 ∨ i = 2 := by simp at h2; omega
   have hg : ∀ k (hk : k < (c'.args.map a.eval).size),(c'.args.map a.eval)[k] = (c'.args.map a.eval).getD k undef := fun k hk => by rw [Array.getD_eq_getD_getElem?,Array.getElem?_eq_getElem hk]; rfl
   rcases this with rfl | rfl | rfl <;> (rw [hg _ h1]; rfl)
 split at hc
 ·rename_i fn hfn
  split at hc
  ·rename_i body hbody
   split at hc
   ·rename_i hname
    split at hc
    ·rename_i e x hpar
     split at hc
     ·rename_i s n zs hs hn hz
      split at hc
      ·rename_i hzs
       cases hc
       obtain ⟨v,hv,hx⟩ := one x rfl
       rw [hv]
       by_cases hp : E.pr f = true
       ·exact snd_clone I (hL.clone f fn e hp hfn hname hpar) hs hn hz hzs hx
       ·left
        show OpOut _ _ _ _ _ _ (s_clone E h tm f e s n _ x) _
        unfold s_clone
        rw [Bool.not_eq_true] at hp
        rw [hp]; trivial
      ·cases hc
     ·cases hc
    ·cases hc
   ·split at hc
    ·rename_i hname
     split at hc
     ·rename_i e x i v hpar
      split at hc
      ·cases hc
       obtain ⟨x',i',v',hv,h1,h2,h3⟩ := three x i v rfl
       rw [hv]
       by_cases hp : E.pr f = true
       ·exact snd_insrt I (hL.insrt f fn e hp hfn hname hpar) h1 h2 h3
       ·left
        show OpOut _ _ _ _ _ _ (s_insrt E h tm f e x i v) _
        unfold s_insrt
        rw [Bool.not_eq_true] at hp
        rw [hp]; trivial
      ·cases hc
     ·cases hc
    ·split at hc
     ·split at hc
      ·simp only [Option.bind_eq_some_iff,Option.some.injEq] at hc
       obtain ⟨s,hs,zs,hz,rfl⟩ := hc
       simp [libOp] at hb
      ·cases hc
     ·split at hc
      ·rename_i hgn
       split at hc
       ·split at hc
        ·rename_i hpt
         split at hc
         ·rename_i fs hfs
          split at hc
          ·rename_i eb heb
           cases hc
           obtain ⟨v',u',hv,h1,h2⟩ := two _ _ rfl
           rw [hv]
           exact snd_bgrow I (fun hp => hL.grow f fn _ fs eb hp hfn hgn hpt hfs heb) h1 h2
          ·cases hc
         ·cases hc
        ·cases hc
       ·cases hc
      ·split at hc
       ·rename_i k hk
        cases hc
        exact snd_lib hG I (fun hp => hL.lib f fn k hp hfn hk) a1 a2
       ·cases hc; simp [libOp] at hb
  ·rename_i hbody
   simp only [Option.map_eq_some_iff] at hc
   obtain ⟨p,hp,rfl⟩ := hc
   exact snd_prim I (fun h1 => hL.prim f fn p h1 hfn hbody hp) a1 a2
 ·cases hc

theorem op_soundE (hL : LibOk P E) (I : Inv P [] G cx h w) (hE : E.glob = G) (hM : E.meth = methOf P) {mu' : List String} {me : String} {o : Oper} {c : COp} (hc : cOpP P mu' me o = some c) (hb : (allowed c || libOp c) = true) {a : Act} {tm : List AV} (ht : TRel cx w tm a.tmps) :
  OpOutE P G cx h w (stepA c E h tm) ((execOp a.eval o).run P w) := by
 cases hl : libOp c with
 | true => exact lib_sound hL hE hM I hc hl ht
 | false => exact .inl (op_sound I hE hc (by simpa [hl] using hb) ht)
end
end Go.Abs

namespace Go.Abs
section
variable {P : Program} {G : Nat → List DV} {E : Env} {runC : AC → Fr → Heap → Res}

theorem stepA_recov {c : COp} {E : Env} {h : Heap} {tm : List AV} : stepA c E h tm = .recov → c = .recov := by
  cases c <;> simp only [stepA] <;> intro hh <;> first
    | rfl
    | trivial
    | (exfalso; revert hh
       try simp only [s_pick,s_box,s_build,s_bsl,s_load,s_store,s_nilchk,s_bin,s_un,s_cvi,s_cvS,s_cvP,s_s2b,s_b2s,s_mksl,s_slSl,s_slStr,s_slArr,s_fadd,s_fld,s_iaS,s_iaA,
         s_ixA,s_ixS,s_look,s_mupd,s_rng,s_nxt,s_tas,s_extr,s_callv,s_inv,s_prim,s_lib,s_len,s_cap,s_app,s_appz,s_copy,s_del,s_mn,s_mx,s_panic,s_dfr,s_ssd,s_uss,s_clone,s_grow,s_insrt,s_delt,s_bgrow,
         s_i2s,s_s2a,s_clr,ov,oh,tgt]
       (repeat' split) <;> (intro hh; cases hh))

theorem cBuiltin_recov {P : Program} {mu : List String} {me : String} {b : Builtin} {ts : Array TypeId} {xs : List X} (hc : cBuiltin P mu me b ts xs = some .recov) : b = .recover := by
 unfold cBuiltin at hc
 split at hc <;> first
  | rfl
  | (exfalso; revert hc; (repeat' split) <;> simp [Option.bind_eq_some_iff])

theorem cOpP_recov {P : Program} {mu : List String} {me : String} {o : Oper} (hc : cOpP P mu me o = some .recov) : plainOp o.op = false := by
 unfold cOpP at hc
 split at hc
 all_goals first
  | (exfalso; revert hc; (repeat' split) <;> simp [Option.bind_eq_some_iff,cConvert]; done)
  | skip
 ·exfalso
  simp only [Option.bind_eq_bind,Option.bind_eq_some_iff] at hc
  obtain ⟨x,_,hc⟩ := hc
  unfold cConvert at hc
  revert hc
  (repeat' split) <;> simp [Option.bind_eq_some_iff]
 ·rename_i c hop
  split at hc
  ·exfalso
   simp only [Option.bind_eq_bind,Option.bind_eq_some_iff] at hc
   obtain ⟨x,_,hc⟩ := hc
   revert hc
   (repeat' split) <;> simp [Option.bind_eq_some_iff]
  ·exfalso; simp [Option.bind_eq_some_iff] at hc
  ·exfalso; simp [Option.bind_eq_some_iff] at hc
  ·rename_i b hb
   simp only [Option.bind_eq_bind,Option.bind_eq_some_iff] at hc
   obtain ⟨x,_,hc⟩ := hc
   have := cBuiltin_recov hc
   subst this
   rw [hop]
   simp [plainOp,hb]

structure EOk (P : Program) (G : Nat → List DV) (E : Env) : Prop where
 glob : E.glob = G
 fn : ∀ f fn',E.fn f = some fn' → ∃ fn mu extra,P.funcs[f]? = some fn ∧ cF P mu extra fn = some fn'
 meth : E.meth = methOf P
 lib : LibOk P E

def CallSnd (P : Program) (G : Nat → List DV) (E : Env) (runC : AC → Fr → Heap → Res) : Prop :=
 ∀ (f : FuncId) (args : List AV) (h : Heap) (ex : Ex) (v : AV) (h' : Heap),call E runC f args h = some (ex,v,h') → ∀ (cx : Cx) (w : World) (args' : Array Value),Inv P [] G cx h w →
  args'.size = args.length → (∀ i (hi : i < args.length),VRel cx w args[i] (args'.getD i undef)) → Enters P f ∧ ∀ cs : List Frame,∃ cx' w' fr,Inv P [] G cx' h' w' ∧ Stp cx h w cx' h' w' ∧
   Steps P (lone (Frame.enter P f args' .normal) cs w) (lone fr cs w') ∧ fr.fn = f ∧
   ((ex = .nrm ∧ ∃ v',VRel cx' w' v v' ∧ fr.leaving P w' (.returned v')) ∨ ∃ v0,ex = .pan v0 ∧ ∃ v',VRel cx' w' v0 v' ∧ fr.leaving P w' (.panicked [{ v := v',recovered := false }]))

def RoundSnd (P : Program) (G : Nat → List DV) (runC : AC → Fr → Heap → Res) : Prop :=
 ∀ (l : Nat) (args : List AV) (h : Heap) (ex : Ex) (v : AV) (h' : Heap),round runC l args h = some (ex,v,h') → ∀ (cx : Cx) (w : World) (args' : Array Value),Inv P [] G cx h w →
  args'.size = args.length → (∀ i (hi : i < args.length),VRel cx w args[i] (args'.getD i undef)) → ∀ (c : Nat) (L : Loop),cx.ρ l = some (c,0) → w.heap[c]? = some (.loop L) → args'.size = L.params.size ∧
   ∀ (fr0 : Frame) (cs : List Frame),∃ cx' w',Inv P [] G cx' h' w' ∧ Stp cx h w cx' h' w' ∧
    ((ex = .nrm ∧ ∃ v',VRel cx' w' v v' ∧
      Steps P (lone (Frame.round c L.fn ((L.params.zip args').foldl (fun tmps (t,a) => tmps.setIfInBounds t a) L.tmps) L.assign L.body .normal) (fr0 :: cs) w) (lone (fr0.finish v') cs w')) ∨
     ∃ v0,ex = .pan v0 ∧ ∃ v',VRel cx' w' v0 v' ∧
      Steps P (lone (Frame.round c L.fn ((L.params.zip args').foldl (fun tmps (t,a) => tmps.setIfInBounds t a) L.tmps) L.assign L.body .normal) (fr0 :: cs) w) (lone (fr0.raise [{ v := v',recovered := false }]) cs w'))

theorem runOps_cons (o : AOp) (r : List AOp) (fr : Fr) (h : Heap) : runOps E runC (o :: r) fr h = doOp E runC o (runOps E runC r) fr h := rfl

theorem cOp_some {mu : List String} {me : String} {o : Oper} : (∃ c,cOpP P mu me o = some c ∧ (allowed c || libOp c) = true ∧ cOp P mu me o = c) ∨ cOp P mu me o = .bad := by
 unfold cOp
 cases hc : cOpP P mu me o with
 | none => exact .inr rfl
 | some c =>
  simp only
  by_cases ha : (allowed c || libOp c) = true
  ·rw [if_pos ha]; exact .inl ⟨c,rfl,ha,rfl⟩
  ·rw [if_neg ha]; exact .inr rfl

theorem semAt_plain {b : Frame} {a : Act} {o : Oper} (h : b.roundOf.isSome = true → plainOp o.op = true) : o.semAt b.roundOf a.eval = execOp a.eval o := by
 cases hb : b.roundOf with
 | none => rfl
 | some l =>
  refine Oper.semAt_eq _ _ _ (fun c e => ?_)
  have := h (by rw [hb]; rfl)
  rw [e] at this
  simp [plainOp] at this

theorem round_get {l : Nat} {args : List AV} {h : Heap} {r} (hr : round runC l args h = some r) : ∃ st pd f tm ps asg body,h.get l = some (.loop st pd f tm ps asg body) := by
 unfold round at hr
 split at hr
 ·rename_i hg; exact ⟨_,_,_,_,_,_,_,hg⟩
 ·cases hr

theorem reg_sound (hE : EOk P G E) (hC : CallSnd P G E runC) (hR : RoundSnd P G runC) {mu : List String} {me : String} {ops : Array Oper} : ∀ (is : List Nat) (fr fr' : Fr) (h h' : Heap) (ex : Ex),(∀ i ∈ is,i < ops.size) →
  runOps E runC (is.map fun i => aop P mu me ops (ops.getD i default)) fr h = some (ex,fr',h') → ∀ (cx : Cx) (w : World) (a : Act) (s0 : Nat) (b : Frame) (k : List Item) (cs : List Frame),Inv P [] G cx h w → FRel cx h w s0 fr a →
  PRel cx w b cs fr.pan → (b.roundOf.isSome = true → ∀ i,i < ops.size → plainOp (ops.getD i default).op = true) → Out P G s0 cx h w fr.pan b k cs (lone (b.atR a (.inRegion ops is :: k)) cs w) ex fr' h' := by
 intro is
 induction is with
 | nil =>
  intro fr fr' h h' ex _ hr cx w a s0 b k cs I F Pr _
  cases hr
  exact ⟨cx,w,a,cs,I,.refl _ _ _,F,.refl _ _,Steps.one stepR_region_end⟩
 | cons i rest ih =>
  intro fr fr' h h' ex hlt hr cx w a s0 b k cs I F Pr hpl
  have hi := hlt i (by simp)
  have hrest : ∀ j ∈ rest,j < ops.size := fun j hj => hlt j (by simp [hj])
  have ho : ops[i]? = some ops[i] := Array.getElem?_eq_getElem hi
  have hod : ops.getD i default = ops[i] := by rw [Array.getD_eq_getD_getElem?,ho]; rfl
  generalize hoo : ops[i] = o at ho hod
  rw [List.map_cons,runOps_cons,hod] at hr
  have hplo : b.roundOf.isSome = true → plainOp o.op = true := fun hb => by have := hpl hb i hi; rw [hod] at this; exact this
  obtain ⟨tm,dfs,pn⟩ := fr
  unfold aop at hr
  split at hr
  ·rename_i g hg
   have hwant := wanted_rel F.tmps hg
   simp only [doOp] at hr
   split at hr
   ·
    rename_i hw
    have hw' : Region.wanted o (yielded ops a.tmps) = true := by rw [← hwant]; exact hw
    have hgo := stepGR_op (P := P) (b := b) (a := a) (k := k) (cs := cs) (w := w) (rest := rest) ho hw'
    rw [semAt_plain hplo] at hgo
    have hfin : ∀ (a : Act) v,(b.atR a (.inRegion ops (i :: rest) :: k)).finish v = b.atR (a.put o.dst v) (.inRegion ops rest :: k) := by
     intro a v; rw [Frame.finish_atR,ho]; rfl
    rcases cOp_some (P := P) (mu := mu) (me := me) (o := o) with ⟨c,hc,hal,heq⟩ | heq
    ·rw [heq] at hr
     have hout := op_soundE hE.lib I hE.glob hE.meth hc hal F.tmps
     generalize hs : stepA c E h tm = s at hr hout
     rcases hout with hout | ⟨v,h1,rfl,f,args',hrun,hcalls⟩
     rotate_left
     ·obtain ⟨_,w1,fr1,⟨cx1,v',I1,S1,hv,rfl⟩,hst,hfn,hlv⟩ := hcalls (b.atR a (.inRegion ops (i :: rest) :: k) :: cs)
      have henter : step P (lone (b.atR a (.inRegion ops (i :: rest) :: k)) cs w) = .next (lone (Frame.enter P f args' .normal) (b.atR a (.inRegion ops (i :: rest) :: k) :: cs) w) :=
       step_lone_go (by rw [hgo]; simp [stepG.apply,hrun,Frame.atR])
      have hleave := step_leave_returned (c := b.atR a (.inRegion ops (i :: rest) :: k)) (cs := cs) hlv
      rw [hfin] at hleave
      have F1 := (F.stp S1).put o.dst hv
      have hpan := putD_pan ⟨tm,dfs,pn⟩ o.dst v
      have Pr1 : PRel cx1 w1 b cs (putD ⟨tm,dfs,pn⟩ o.dst v).pan := by rw [hpan]; exact Pr.next S1.ext (.refl _ _)
      have := ih _ _ _ _ _ hrest hr cx1 w1 _ s0 b k cs I1 F1 Pr1 hpl
      rw [hpan] at this
      exact Out.of_steps (.head henter (hst.trans (.one hleave))) (this.from S1 (.refl _ _))
     cases s with
     | val v h1 =>
      obtain ⟨cx1,w1,I1,S1,hres⟩ := hout
      have go : ∀ v',VRel cx1 w1 v v' → (step P (lone (b.atR a (.inRegion ops (i :: rest) :: k)) cs w) = .next (lone (b.atR (a.put o.dst v') (.inRegion ops rest :: k)) cs w1)) →
        Out P G s0 cx h w pn b k cs (lone (b.atR a (.inRegion ops (i :: rest) :: k)) cs w) ex fr' h' := by
       intro v' hv hstep
       have F1 := (F.stp S1).put o.dst hv
       have hpan := putD_pan ⟨tm,dfs,pn⟩ o.dst v
       have Pr1 : PRel cx1 w1 b cs (putD ⟨tm,dfs,pn⟩ o.dst v).pan := by rw [hpan]; exact Pr.next S1.ext (.refl _ _)
       have := ih _ _ _ _ _ hrest hr cx1 w1 _ s0 b k cs I1 F1 Pr1 hpl
       rw [hpan] at this
       exact Out.of_steps (.one hstep) (this.from S1 (.refl _ _))
      rcases hres with ⟨v',hrun,hv⟩ | ⟨hrun,rfl⟩
      ·exact go v' hv (step_lone_go (by rw [hgo,← hfin]; simp [stepG.apply,hrun]))
      ·exact go undef .und (step_lone_go (by rw [hgo,← hfin]; simp [stepG.apply,hrun]))
     | call f args =>
      obtain ⟨args',hrun,hl,ha⟩ := hout
      simp only [doSt,kRes] at hr
      split at hr
      ·rename_i v h1 hcall
       obtain ⟨hent,hcs⟩ := hC _ _ _ _ _ _ hcall cx w args' I hl ha
       obtain ⟨cx1,w1,fr1,I1,S1,hst,hfn,hlv⟩ := hcs (b.atR a (.inRegion ops (i :: rest) :: k) :: cs)
       rcases hlv with ⟨_,v',hv,hlv⟩ | ⟨_,e,_⟩
       ·have henter : step P (lone (b.atR a (.inRegion ops (i :: rest) :: k)) cs w) = .next (lone (Frame.enter P f args' .normal) (b.atR a (.inRegion ops (i :: rest) :: k) :: cs) w) :=
         step_lone_go (by rw [hgo]; simp [stepG.apply,hrun hent,Frame.atR])
        have hleave := step_leave_returned (c := b.atR a (.inRegion ops (i :: rest) :: k)) (cs := cs) hlv
        rw [hfin] at hleave
        have F1 := (F.stp S1).put o.dst hv
        have hpan := putD_pan ⟨tm,dfs,pn⟩ o.dst v
        have Pr1 : PRel cx1 w1 b cs (putD ⟨tm,dfs,pn⟩ o.dst v).pan := by rw [hpan]; exact Pr.next S1.ext (.refl _ _)
        have := ih _ _ _ _ _ hrest hr cx1 w1 _ s0 b k cs I1 F1 Pr1 hpl
        rw [hpan] at this
        exact Out.of_steps (.head henter (hst.trans (.one hleave))) (this.from S1 (.refl _ _))
       ·cases e
      ·rename_i v0 x h1 hcall
       cases hr
       obtain ⟨hent,hcs⟩ := hC _ _ _ _ _ _ hcall cx w args' I hl ha
       obtain ⟨cx1,w1,fr1,I1,S1,hst,hfn,hlv⟩ := hcs (b.atR a (.inRegion ops (i :: rest) :: k) :: cs)
       rcases hlv with ⟨e,_⟩ | ⟨v1,e,v',hv,hlv⟩
       ·cases e
       ·cases e
        have henter : step P (lone (b.atR a (.inRegion ops (i :: rest) :: k)) cs w) = .next (lone (Frame.enter P f args' .normal) (b.atR a (.inRegion ops (i :: rest) :: k) :: cs) w) :=
         step_lone_go (by rw [hgo]; simp [stepG.apply,hrun hent,Frame.atR])
        have hleave := step_leave_panicked (c := b.atR a (.inRegion ops (i :: rest) :: k)) (cs := cs) hlv
        rw [Frame.raise_atR] at hleave
        exact ⟨cx1,w1,a,cs,I1,S1,F.stp S1,.refl _ _,_,v',hv,.head henter (hst.trans (.one hleave))⟩
      ·cases hr
     | yield l args =>
      obtain ⟨args',hl,ha,hloop⟩ := hout
      simp only [doSt,kRes] at hr
      have hgen : ∀ r,round runC l args h = some r → ∃ c L,cx.ρ l = some (c,0) ∧ w.heap[c]? = some (Obj.loop L) ∧
        (args'.size = L.params.size → (execOp a.eval o).run P w = .ok (.round c L.fn ((L.params.zip args').foldl (fun tmps (t,a) => tmps.setIfInBounds t a) L.tmps) L.assign L.body) w) := by
       intro r hround
       obtain ⟨st,pd,f,tm',ps,asg,body,hg⟩ := round_get hround
       exact hloop _ _ _ _ _ _ _ hg
      split at hr
      ·rename_i v h1 hround
       obtain ⟨c,L,hrho,hL,hrun⟩ := hgen _ hround
       obtain ⟨hsz,hcs⟩ := hR _ _ _ _ _ _ hround cx w args' I hl ha c L hrho hL
       obtain ⟨cx1,w1,I1,S1,hlv⟩ := hcs (b.atR a (.inRegion ops (i :: rest) :: k)) cs
       rcases hlv with ⟨_,v',hv,hst⟩ | ⟨_,e,_⟩
       ·have henter : step P (lone (b.atR a (.inRegion ops (i :: rest) :: k)) cs w) =
          .next (lone (Frame.round c L.fn ((L.params.zip args').foldl (fun tmps (t,a) => tmps.setIfInBounds t a) L.tmps) L.assign L.body .normal) (b.atR a (.inRegion ops (i :: rest) :: k) :: cs) w) :=
         step_lone_go (by rw [hgo]; simp [stepG.apply,hrun hsz,Frame.atR])
        rw [hfin] at hst
        have F1 := (F.stp S1).put o.dst hv
        have hpan := putD_pan ⟨tm,dfs,pn⟩ o.dst v
        have Pr1 : PRel cx1 w1 b cs (putD ⟨tm,dfs,pn⟩ o.dst v).pan := by rw [hpan]; exact Pr.next S1.ext (.refl _ _)
        have := ih _ _ _ _ _ hrest hr cx1 w1 _ s0 b k cs I1 F1 Pr1 hpl
        rw [hpan] at this
        exact Out.of_steps (.head henter hst) (this.from S1 (.refl _ _))
       ·cases e
      ·rename_i v0 x h1 hround
       cases hr
       obtain ⟨c,L,hrho,hL,hrun⟩ := hgen _ hround
       obtain ⟨hsz,hcs⟩ := hR _ _ _ _ _ _ hround cx w args' I hl ha c L hrho hL
       obtain ⟨cx1,w1,I1,S1,hlv⟩ := hcs (b.atR a (.inRegion ops (i :: rest) :: k)) cs
       rcases hlv with ⟨e,_⟩ | ⟨v1,e,v',hv,hst⟩
       ·cases e
       ·cases e
        have henter : step P (lone (b.atR a (.inRegion ops (i :: rest) :: k)) cs w) =
          .next (lone (Frame.round c L.fn ((L.params.zip args').foldl (fun tmps (t,a) => tmps.setIfInBounds t a) L.tmps) L.assign L.body .normal) (b.atR a (.inRegion ops (i :: rest) :: k) :: cs) w) :=
         step_lone_go (by rw [hgo]; simp [stepG.apply,hrun hsz,Frame.atR])
        rw [Frame.raise_atR] at hst
        exact ⟨cx1,w1,a,cs,I1,S1,F.stp S1,.refl _ _,_,v',hv,.head henter hst⟩
      ·cases hr
     | pan v =>
      obtain ⟨v',hrun,hv⟩ := hout
      cases hr
      refine ⟨cx,w,a,cs,I,.refl _ _ _,F,.refl _ _,.inRegion ops (i :: rest) :: k,v',hv,.one (step_lone_go ?_)⟩
      rw [hgo,← Frame.raise_atR]; simp [stepG.apply,hrun]
     | recov =>
      have hrun : (execOp a.eval o).run P w = .ok .recover w := hout
      simp only [doSt,doRecov] at hr
      cases pn with
      | some v =>
       obtain ⟨p1,p2,c,rst,v',older,p3,p4,p5⟩ := Pr
       subst p3
       simp only at hr
       have htr : tryRecover (b.atR a (.inRegion ops (i :: rest) :: k)) (c :: rst) = some (v',{ c with mode := .panicking ({ v := v',recovered := true } :: older) } :: rst) := by
        simp [tryRecover,Frame.atR,p1,p4]
       have hro : (b.atR a (.inRegion ops (i :: rest) :: k)).roundOf = none := p2
       have hstep : step P (lone (b.atR a (.inRegion ops (i :: rest) :: k)) (c :: rst) w) =
         .next (lone (b.atR (a.put o.dst v') (.inRegion ops rest :: k)) ({ c with mode := .panicking ({ v := v',recovered := true } :: older) } :: rst) w) :=
        step_lone_go (by rw [hgo,← hfin]; simp [stepG.apply,hrun,hro,htr])
       have hcsr : CsRel (some v) (c :: rst) none ({ c with mode := .panicking ({ v := v',recovered := true } :: older) } :: rst) := .inr ⟨v,c,rst,v',older,rfl,rfl,rfl,p4,rfl⟩
       have F0 : FRel cx h w s0 ⟨tm,dfs,none⟩ a := ⟨F.tmps,F.defs,F.le⟩
       have F1 := F0.put o.dst p5
       have hpan := putD_pan ⟨tm,dfs,none⟩ o.dst v
       have Pr0 : PRel cx w b (c :: rst) (some v) := ⟨p1,p2,c,rst,v',older,rfl,p4,p5⟩
       have Pr1 : PRel cx w b ({ c with mode := .panicking ({ v := v',recovered := true } :: older) } :: rst) (putD ⟨tm,dfs,none⟩ o.dst v).pan := by
        rw [hpan]; exact Pr0.next (.refl _ _) hcsr
       have := ih _ _ _ _ _ hrest hr cx w _ s0 b k _ I F1 Pr1 hpl
       rw [hpan] at this
       exact Out.of_steps (.one hstep) (this.from (.refl _ _ _) hcsr)
      | none =>
       have hro : b.roundOf = none := by
        cases hb : b.roundOf with
        | none => rfl
        | some l =>
         have := hplo (by rw [hb]; rfl)
         exfalso
         rw [stepA_recov hs] at hc
         rw [cOpP_recov hc] at this
         cases this
       have htr : tryRecover (b.atR a (.inRegion ops (i :: rest) :: k)) cs = none := Pr _ rfl
       have hro' : (b.atR a (.inRegion ops (i :: rest) :: k)).roundOf = none := hro
       have hstep : step P (lone (b.atR a (.inRegion ops (i :: rest) :: k)) cs w) = .next (lone (b.atR (a.put o.dst .nilIface) (.inRegion ops rest :: k)) cs w) :=
        step_lone_go (by rw [hgo,← hfin]; simp [stepG.apply,hrun,hro',htr])
       have F1 := F.put o.dst (x := .d .nili) (v := .nilIface) (.d _ _ .nili)
       have hpan := putD_pan ⟨tm,dfs,none⟩ o.dst (.d .nili)
       have Pr1 : PRel cx w b cs (putD ⟨tm,dfs,none⟩ o.dst (.d .nili)).pan := by rw [hpan]; exact Pr
       have := ih _ _ _ _ _ hrest hr cx w _ s0 b k cs I F1 Pr1 hpl
       rw [hpan] at this
       exact Out.of_steps (.one hstep) this
     | dfr f args =>
      obtain ⟨g',fs',cs',args',hrun,hf,hl,ha⟩ := hout
      simp only [doSt] at hr
      have hstep : step P (lone (b.atR a (.inRegion ops (i :: rest) :: k)) cs w) =
        .next (lone (b.atR ({ a with defers := { target := .fn g' cs',args := fs' ++ args' } :: a.defers }.put o.dst undef) (.inRegion ops rest :: k)) cs w) := by
       refine step_lone_go ?_
       have := hfin { a with defers := { target := .fn g' cs',args := fs' ++ args' } :: a.defers } undef
       rw [hgo]; simp only [stepG.apply,Sem.runT_eq,hrun,GStep.bare_after]
       exact congrArg (fun fr => GStep.go { frame := fr,callers := cs,status := .running,dying := none } w) this
      have F0 : FRel cx h w s0 ⟨tm,(f,args) :: dfs,pn⟩ { a with defers := { target := .fn g' cs',args := fs' ++ args' } :: a.defers } := ⟨F.tmps,.call f args g' fs' cs' args' _ _ hf hl ha F.defs,F.le⟩
      have F1 := F0.put o.dst (x := .und) (v := undef) .und
      have hpan := putD_pan ⟨tm,(f,args) :: dfs,pn⟩ o.dst .und
      have Pr1 : PRel cx w b cs (putD ⟨tm,(f,args) :: dfs,pn⟩ o.dst .und).pan := by rw [hpan]; exact Pr
      have := ih _ _ _ _ _ hrest hr cx w _ s0 b k cs I F1 Pr1 hpl
      rw [hpan] at this
      exact Out.of_steps (.one hstep) this
     | bad => cases hr
    ·rw [heq] at hr
     cases hr
   ·
    rename_i hw
    have hw' : Region.wanted o (yielded ops a.tmps) = false := by rw [← hwant]; exact hw
    have hs := stepR_op_skip (P := P) (b := b) (a := a) (k := k) (cs := cs) (w := w) (ops := ops) (i := i) (rest := rest) (by simp [ho,hw'])
    simp only [ho,Option.bind_some] at hs
    have F1 := F.put o.dst (x := .und) (v := undef) .und
    have hpan := putD_pan ⟨tm,dfs,pn⟩ o.dst .und
    have Pr1 : PRel cx w b cs (putD ⟨tm,dfs,pn⟩ o.dst .und).pan := by rw [hpan]; exact Pr
    have := ih _ _ _ _ _ hrest hr cx w _ s0 b k cs I F1 Pr1 hpl
    rw [hpan] at this
    exact Out.of_steps (.one hs) this
  ·cases hr
end
end Go.Abs

namespace Go.Abs
section
variable {P : Program} {G : Nat → List DV} {E : Env} {runC : AC → Fr → Heap → Res}

theorem addZ_false (cx : Cx) : cx.addZ (fun _ _ => False) = cx := by
 unfold Cx.addZ
 simp

def RoundOk (w : World) (b : Frame) : Prop := ∀ l,b.roundOf = some l → ∃ L : Loop,w.heap[l]? = some (.loop L)

theorem RoundOk.next {cx cx' : Cx} {w w' : World} {b : Frame} (r : RoundOk w b) (e : Ext cx w cx' w') : RoundOk w' b := fun l hl => by
 obtain ⟨L,hL⟩ := r l hl
 exact e.lp l L hL

def Snd (P : Program) (G : Nat → List DV) (runC : AC → Fr → Heap → Res) : Prop :=
 ∀ (mu : List String) (me : String) (c : Code) (fr fr' : Fr) (h h' : Heap) (ex : Ex),runC (cC P mu me c) fr h = some (ex,fr',h') → ∀ (cx : Cx) (w : World) (a : Act) (s0 : Nat) (b : Frame) (k : List Item) (cs : List Frame),
  Inv P [] G cx h w → FRel cx h w s0 fr a → PRel cx w b cs fr.pan → (b.roundOf.isSome = true → plainC c = true) → RoundOk w b → (P.funcs[b.fn]?).isSome = true →
  Out P G s0 cx h w fr.pan b k cs (lone (b.atR a (.code c :: k)) cs w) ex fr' h' ∧
  ∀ body,c = .loop body → Out P G s0 cx h w fr.pan b k cs (lone (b.atR a (.code body :: .inLoop body :: k)) cs w) ex fr' h'

def DregSnd (P : Program) (G : Nat → List DV) (E : Env) (runC : AC → Fr → Heap → Res) : Prop :=
 ∀ (mu : List String) (me : String) (id : Nat) (ops : Array Oper) (fr fr' : Fr) (h h' : Heap) (ex : Ex),stepC (cC P mu me (.region id ops true)) E runC fr h = some (ex,fr',h') →
  ∀ (cx : Cx) (w : World) (a : Act) (s0 : Nat) (b : Frame) (k : List Item) (cs : List Frame),Inv P [] G cx h w → FRel cx h w s0 fr a → PRel cx w b cs fr.pan → (b.roundOf.isSome = true → plainC (.region id ops true) = true) →
  Out P G s0 cx h w fr.pan b k cs (lone (b.atR a (.code (.region id ops true) :: k)) cs w) ex fr' h'

theorem Arr.exit {b : Frame} {a : Act} {k : List Item} {cs : List Frame} {cx : Cx} {w : World} (id : Nat) : Arr P (lone (b.atR a (.code (.exit id) :: k)) cs w) b k cs cx a w (.exit id) :=
 ⟨fun _ hk => .one (stepR_exit hk),fun _ hk => ⟨k,hk,.refl _ _⟩⟩
theorem Arr.ret {b : Frame} {a : Act} {k : List Item} {cs : List Frame} {cx : Cx} {w : World} : Arr P (lone (b.atR a (.code .ret :: k)) cs w) b k cs cx a w .ret :=
 ⟨fun hn => ⟨_,.one (stepR_ret hn)⟩,fun _ => ⟨k,.refl _ _⟩⟩

theorem toList_map_range {α : Type} (ops : Array Oper) (f : Oper → α) : ops.toList.map f = (List.range ops.size).map fun i => f (ops.getD i default) := by
 apply List.ext_getElem
 ·simp
 ·intro i h1 h2
  have hi : i < ops.size := by simpa using h1
  simp [hi]

theorem DefsRel.marks_lt {cx : Cx} {h : Heap} {w : World} {s0 : Nat} {fs : List (AV × List AV)} {ds : List Deferred} (d : DefsRel cx h w s0 fs ds) : ∀ e ∈ ds,∀ r,e.target = .collected r → r < w.heap.size := by
 induction d with
 | nil => intro e he; cases he
 | mark r fs ds hm hn _ ih =>
  intro e he r' hr
  rcases List.mem_cons.1 he with rfl | he
  ·cases hr; exact (Array.getElem?_eq_some_iff.1 hm.2.1).1
  ·exact ih e he r' hr
 | call f args g fs' cs' args' fs ds _ _ _ _ ih =>
  intro e he r' hr
  rcases List.mem_cons.1 he with rfl | he
  ·cases hr
  ·exact ih e he r' hr

theorem tgt_call {cx : Cx} {h : Heap} {w : World} (I : Inv P [] G cx h w) {f : AV} {f' : Value} {asx args2 : List AV} {args : Array Value} {g : FuncId} (ht : tgt f asx = .call g args2) (hf : VRel cx w f f') (hl : args.size = asx.length)
  (hr : ∀ i (hi : i < asx.length),VRel cx w asx[i] (args.getD i undef)) (hE : Enters P g) :
  ∃ fs cs : Array Value,f' = .func (.func g) fs cs ∧ (fs ++ args ++ cs).size = args2.length ∧ (∀ i (hi : i < args2.length),VRel cx w args2[i] ((fs ++ args ++ cs).getD i undef)) := by
 have hs := snd_tgt (w := w) I hf hl hr
 rw [ht] at hs
 obtain ⟨args',hrun,h1,h2⟩ := hs
 have hrun := hrun hE
 have key : ∃ fs cs : Array Value,f' = .func (.func g) fs cs := by
  unfold tgt at ht
  split at ht
  ·cases ht
   cases hf with
   | d _ _ hd => cases hd with
    | fn _ _ _ fs' cs' _ _ _ _ => exact ⟨fs',cs',rfl⟩
  ·cases ht
   cases hf with
   | fn _ _ _ fs' cs' _ _ _ _ _ => exact ⟨fs',cs',rfl⟩
  ·cases ht
  ·cases ht
 obtain ⟨fs,cs,rfl⟩ := key
 refine ⟨fs,cs,rfl,?_⟩
 have : args' = fs ++ args ++ cs := by
  simp [Deferred.ofValue,invoke,run_callFunc hE] at hrun
  rw [← hrun,Array.append_assoc]
 rw [← this]
 exact ⟨h1,h2⟩

theorem Inv.loopSet {cx : Cx} {h : Heap} {w : World} (I : Inv P [] G cx h w) {l c f : Nat} {L L' : Loop} {st st' : LSt} {pd pd' : Pend} {tm : List AV} {ps : List Nat} {asg body : AC} (hb : h.get l = some (.loop st pd f tm ps asg body)) (hr : cx.ρ l = some (c,0))
  (hL : w.heap[c]? = some (.loop L)) (h1 : L'.state = st'.of) (h2 : L'.pending = pd'.of) (h3 : L'.params = L.params) (h4 : L'.tmps = L.tmps) (h5 : L'.assign = L.assign) (h6 : L'.body = L.body) (h7 : L'.fn = L.fn) :
  Inv P [] G cx (h.set l (.loop st' pd' f tm ps asg body)) (w.putObj c (.loop L')) ∧ Stp cx h w cx (h.set l (.loop st' pd' f tm ps asg body)) (w.putObj c (.loop L')) := by
 have hlt := (Array.getElem?_eq_some_iff.1 hL).1
 obtain ⟨c',L2,k1,k2,k3,k4,k5,k6,k7,k8⟩ := I.heap l _ hb
 rw [hr] at k1; cases k1
 rw [hL] at k2; cases k2
 refine I.turn hb rfl (fun _ _ => by simp) hr (fun _ _ => by simp) (by simp) (fun i hi => World.putObj_heap_other hi) (fun arr e fz hh => by rw [hL] at hh; cases hh) (fun L0 hL0 => ⟨L',World.putObj_heap_same hlt⟩) (fun ext => ?_)
 refine ⟨c,L',hr,World.putObj_heap_same hlt,h1,h2,by rw [h3]; exact k5,by rw [h4]; exact k6,fun i hi => by rw [h4]; exact (k7 i hi).ext ext,?_⟩
 obtain ⟨kf,mu',nm,q1,q2,q3,q4⟩ := k8
 exact ⟨by rw [h7]; exact kf,mu',nm,by rw [h5]; exact q1,by rw [h6]; exact q2,by rw [h5]; exact q3,by rw [h6]; exact q4⟩

theorem cF_some {mu extra : List String} {fn : Func} {fn' : AFn} (hf : cF P mu extra fn = some fn') : ∃ c,fn.body = some c ∧ fn.name ≠ "runtime.NumGoroutine" ∧ fn'.ntmps = fn.ntmps ∧ fn'.results = fn.results.toList.map (cR P) ∧
  fn'.body = cC P mu fn.name c ∧ ∀ t ty,ResultVar.cell t ty ∈ fn.results.toList → (aggT P ty).isSome = true ∧ (szOf P ty).isSome = true := by
 unfold cF at hf
 split at hf
 ·cases hf
 ·rename_i c hc
  split at hf
  ·cases hf
  ·rename_i hcond
   cases hf
   simp only [Bool.or_eq_true,not_or,decide_eq_true_eq,Bool.not_eq_true,Bool.not_eq_false',List.all_eq_true] at hcond
   refine ⟨c,hc,hcond.1,rfl,rfl,rfl,fun t ty hm => ?_⟩
   have := hcond.2 _ hm
   simpa using this

theorem enters_of_call (hE : EOk P G E) {f : FuncId} {args : List AV} {h : Heap} {r} (hc : call E runC f args h = some r) : Enters P f := by
 unfold call at hc
 split at hc
 ·cases hc
 ·rename_i fn' hf
  obtain ⟨fn,mu,extra,h1,h2⟩ := hE.fn f fn' hf
  obtain ⟨c,h3,h4,_⟩ := cF_some h2
  exact ⟨fn,c,h1,h3,h4⟩

theorem snd_succ (hE : EOk P G E) (ih : Snd P G runC) (hC : CallSnd P G E runC) (hR : RoundSnd P G runC) (hD : DregSnd P G E runC) : Snd P G (fun c fr h => stepC c E runC fr h) := by
  intro mu me c fr fr' h h' ex hr cx w a s0 b k cs I F Pr hpl hro hfun
  cases c with
  | skip =>
    refine ⟨?_,fun _ e => by cases e⟩
    cases hr
    exact ⟨cx,w,a,cs,I,.refl _ _ _,F,.refl _ _,.one stepR_skip⟩
  | region id ops d =>
    refine ⟨?_,fun _ e => by cases e⟩
    cases d with
    | true => exact hD mu me id ops fr fr' h h' ex hr cx w a s0 b k cs I F Pr hpl
    | false =>
      have hr' : runOps E runC (ops.toList.map (aop P mu me ops)) fr h = some (ex,fr',h') := hr
      rw [toList_map_range] at hr'
      refine Out.of_steps (.one stepR_region) (reg_sound hE hC hR _ _ _ _ _ _ (fun i hi => by simpa using hi) hr' cx w a s0 b k cs I F Pr (fun hb i hi => ?_))
      have := hpl hb
      simp only [plainC,List.all_eq_true] at this
      have h2 := this (ops.getD i default) (by
        have : ops.getD i default = ops[i] := by simp [hi]
        rw [this]; exact Array.getElem_mem_toList hi)
      exact h2
  | seq x y =>
    refine ⟨?_,fun _ e => by cases e⟩
    have hr' : thenC (runC (cC P mu me y)) (runC (cC P mu me x) fr h) = some (ex,fr',h') := hr
    have hplx : b.roundOf.isSome = true → plainC x = true := fun hb => by have := hpl hb; simp only [plainC,Bool.and_eq_true] at this; exact this.1
    have hply : b.roundOf.isSome = true → plainC y = true := fun hb => by have := hpl hb; simp only [plainC,Bool.and_eq_true] at this; exact this.2
    cases hx : runC (cC P mu me x) fr h with
    | none => rw [hx] at hr'; cases hr'
    | some r =>
      obtain ⟨ex1,fr1,h1⟩ := r
      rw [hx] at hr'
      obtain ⟨⟨cx1,w1,a1,cs1,I1,S1,F1,C1,A1⟩,_⟩ := ih mu me x fr fr1 h h1 ex1 hx cx w a s0 b (.code y :: k) cs I F Pr hplx hro hfun
      by_cases hn : ex1 = .nrm
      · subst hn
        obtain ⟨o,_⟩ := ih mu me y fr1 fr' h1 h' ex hr' cx1 w1 a1 s0 b k cs1 I1 F1 (Pr.next S1.ext C1) hply (hro.next S1.ext) hfun
        exact Out.of_steps (.head stepR_seq A1) (o.from S1 C1)
      · have hr2 : some (ex1,fr1,h1) = some (ex,fr',h') := by
          cases ex1 <;> first | exact absurd rfl hn | exact hr'
        cases hr2
        exact Out.of_steps (.one stepR_seq) ⟨cx1,w1,a1,cs1,I1,S1,F1,C1,A1.pass rfl hn⟩
  | cond c x y =>
    refine ⟨?_,fun _ e => by cases e⟩
    have hplx : b.roundOf.isSome = true → plainC x = true := fun hb => by have := hpl hb; simp only [plainC,Bool.and_eq_true] at this; exact this.1
    have hply : b.roundOf.isSome = true → plainC y = true := fun hb => by have := hpl hb; simp only [plainC,Bool.and_eq_true] at this; exact this.2
    simp only [cC] at hr
    split at hr
    · rename_i xc hxc
      simp only [stepC,condC] at hr
      have hv := cX_rel F.tmps hxc
      split at hr
      · rename_i t hev
        rw [hev] at hv
        have hv := hv.bool_inv
        split at hr
        · obtain ⟨o,_⟩ := ih mu me x fr fr' h h' ex hr cx w a s0 b k cs I F Pr hplx hro hfun
          exact Out.of_steps (.one (stepR_cond hv)) o
        · obtain ⟨o,_⟩ := ih mu me y fr fr' h h' ex hr cx w a s0 b k cs I F Pr hply hro hfun
          exact Out.of_steps (.one (stepR_cond hv)) o
      · cases hr
    · cases hr
  | block id x =>
    refine ⟨?_,fun _ e => by cases e⟩
    have hr' : outOf id (runC (cC P mu me x) fr h) = some (ex,fr',h') := hr
    cases hx : runC (cC P mu me x) fr h with
    | none => rw [hx] at hr'; cases hr'
    | some r =>
      obtain ⟨ex1,fr1,h1⟩ := r
      rw [hx] at hr'
      obtain ⟨⟨cx1,w1,a1,cs1,I1,S1,F1,C1,A1⟩,_⟩ := ih mu me x fr fr1 h h1 ex1 hx cx w a s0 b (.inBlock id :: k) cs I F Pr (fun hb => hpl hb) hro hfun
      cases ex1 with
      | nrm =>
        cases hr'
        exact ⟨cx1,w1,a1,cs1,I1,S1,F1,C1,.head stepR_block (Steps.trans A1 (.one stepR_inBlock))⟩
      | exit j =>
        simp only [outOf] at hr'
        split at hr'
        · rename_i hj
          have hj := nbeq hj
          subst hj
          cases hr'
          exact ⟨cx1,w1,a1,cs1,I1,S1,F1,C1,.head stepR_block (A1.1 k (by simp [exitTo]))⟩
        · rename_i hj
          cases hr'
          have hne : (id == j) = false := by
            cases hq : id == j with
            | false => rfl
            | true => have : id = j := by simpa using hq
                      subst this
                      rw [Nat.beq_refl] at hj; cases hj
          have hx' : exitTo j (.inBlock id :: k) = exitTo j k := by simp [exitTo,hne]
          refine ⟨cx1,w1,a1,cs1,I1,S1,F1,C1,fun k' hk => .head stepR_block (A1.1 k' (by rw [hx']; exact hk)),fun hb hk => ?_⟩
          obtain ⟨k1,q1,q2⟩ := A1.2 hb (by rw [hx']; exact hk)
          exact ⟨k1,q1,.head stepR_block q2⟩
      | ret =>
        cases hr'
        exact ⟨cx1,w1,a1,cs1,I1,S1,F1,C1,Arr.of_steps (.one stepR_block) A1⟩
      | pan v =>
        cases hr'
        exact ⟨cx1,w1,a1,cs1,I1,S1,F1,C1,Arr.of_steps (ex := .pan v) (k := k) (.one stepR_block) A1⟩
  | loop x =>
    have hr' : thenC (runC (cC P mu me (.loop x))) (runC (cC P mu me x) fr h) = some (ex,fr',h') := hr
    have key : Out P G s0 cx h w fr.pan b k cs (lone (b.atR a (.code x :: .inLoop x :: k)) cs w) ex fr' h' := by
      cases hx : runC (cC P mu me x) fr h with
      | none => rw [hx] at hr'; cases hr'
      | some r =>
        obtain ⟨ex1,fr1,h1⟩ := r
        rw [hx] at hr'
        obtain ⟨⟨cx1,w1,a1,cs1,I1,S1,F1,C1,A1⟩,_⟩ := ih mu me x fr fr1 h h1 ex1 hx cx w a s0 b (.inLoop x :: k) cs I F Pr (fun hb => hpl hb) hro hfun
        by_cases hn : ex1 = .nrm
        · subst hn
          obtain ⟨_,o⟩ := ih mu me (.loop x) fr1 fr' h1 h' ex hr' cx1 w1 a1 s0 b k cs1 I1 F1 (Pr.next S1.ext C1) hpl (hro.next S1.ext) hfun
          exact Out.of_steps (Steps.trans A1 (.one stepR_inLoop)) ((o x rfl).from S1 C1)
        · have hr2 : some (ex1,fr1,h1) = some (ex,fr',h') := by
            cases ex1 <;> first | exact absurd rfl hn | exact hr'
          cases hr2
          exact ⟨cx1,w1,a1,cs1,I1,S1,F1,C1,A1.pass rfl hn⟩
    refine ⟨Out.of_steps (.one stepR_loop) key,fun body e => ?_⟩
    cases e
    exact key
  | exit id =>
    refine ⟨?_,fun _ e => by cases e⟩
    cases hr
    exact ⟨cx,w,a,cs,I,.refl _ _ _,F,.refl _ _,Arr.exit id⟩
  | ret =>
    refine ⟨?_,fun _ e => by cases e⟩
    cases hr
    exact ⟨cx,w,a,cs,I,.refl _ _ _,F,.refl _ _,Arr.ret⟩
  | rangeFunc g ps asg body =>
    refine ⟨?_,fun _ e => by cases e⟩
    simp only [cC] at hr
    split at hr
    · rename_i xg hxg
      split at hr
      · rename_i hplain
        simp only [Bool.and_eq_true] at hplain
        simp only [stepC,rfunC] at hr
        split at hr
        · rename_i f args htgt
          -- the loop's record is laid
          obtain ⟨lc,mk,w1,hent,hw1,hmk,hL⟩ : ∃ (lc : Nat) (mk : List Deferred) (w1 : World),(Instr.enterLoop b.fn a.tmps ps asg body b.roundOf).run P w = .ok (lc,mk) w1 ∧
              (∃ w0 : World,∃ L : Loop,((w0 = w ∧ mk = []) ∨ (w0 = w.alloc (.deferred (some [])) ∧ mk = [{ target := .collected w.heap.size,args := #[] }])) ∧ lc = w0.heap.size ∧ w1 = w0.alloc (.loop L) ∧
                L.state = .ready ∧ L.pending = none ∧ L.params = ps ∧ L.tmps = a.tmps ∧ L.assign = asg ∧ L.body = body ∧ L.fn = b.fn) ∧ True ∧ True := by
            cases hb : b.roundOf with
            | none =>
              have := run_enterLoop_outer (P := P) (w := w) b.fn a.tmps ps asg body
              refine ⟨_,_,_,this,⟨_,_,.inr ⟨rfl,rfl⟩,?_,rfl,rfl,rfl,rfl,rfl,rfl,rfl,rfl⟩,trivial,trivial⟩
              simp
            | some l0 =>
              obtain ⟨L0,hL0⟩ := hro l0 hb
              have := run_enterLoop_inner (P := P) hL0 b.fn a.tmps ps asg body
              exact ⟨_,_,_,this,⟨_,_,.inl ⟨rfl,rfl⟩,rfl,rfl,rfl,rfl,rfl,rfl,rfl,rfl,rfl⟩,trivial,trivial⟩
          obtain ⟨w0,L,hw0,rfl,rfl,l1,l2,l3,l4,l5,l6,l7⟩ := hw1
          have h0 : Inv P [] G cx h w0 ∧ Stp cx h w cx h w0 := by
            rcases hw0 with ⟨rfl,_⟩ | ⟨rfl,_⟩
            · exact ⟨I,.refl _ _ _⟩
            · have := I.addZ (w' := w.alloc (.deferred (some []))) (fun _ _ => False) (by simp) (fun c hc => by show (w.heap.push _)[c]? = _; exact getElem?_push_old _ _ _ hc) (fun _ _ h => h.elim)
              rw [addZ_false] at this
              exact this
          obtain ⟨I0,S0⟩ := h0
          have hpush := I0.push (w' := w0.alloc (.loop L)) (.loop L) (.loop .ready .none 0 fr.tmps ps.toList (cC P mu me asg) (cC P mu me body)) (some (w0.heap.size,0)) none rfl (fun c base hp => by cases hp; rfl) (fun c base hp => by cases hp; rfl)
            (fun κ c base hk => by cases hk) ⟨w0.heap.size,L,by rw [Cx.add_ρ]; simp,World.alloc_heap_new w0 _,by rw [l1]; rfl,by rw [l2]; rfl,by rw [l3],by rw [l4]; exact F.tmps.size,fun i hi => by
              have q := F.tmps.rel i
              rw [getL_eq] at q
              rw [l4]
              have e1 : fr.tmps.getD i AV.und = fr.tmps[i] := by simp [List.getD,hi]
              rw [e1] at q
              exact (q.ext S0.ext).ext (Ext.addGrow I0 rfl _ _),by rw [l7]; exact hfun,mu,me,by rw [l5],by rw [l6],by rw [l5]; exact hplain.1,by rw [l6]; exact hplain.2⟩
          obtain ⟨I1,S1⟩ := hpush
          have S01 := S0.trans S1
          have hgv := (cX_rel F.tmps hxg).ext S01.ext
          have hyv : ∀ i (hi : i < [AV.fn (.yield h.n) [] []].length),VRel (cx.add h.n (some (w0.heap.size,0)) none) (w0.alloc (.loop L)) [AV.fn (.yield h.n) [] []][i] (#[Value.func (.yield w0.heap.size) #[] #[]].getD i undef) := by
            intro i hi
            have : i = 0 := by simpa using hi
            subst this
            exact .yld h.n w0.heap.size 0 (by rw [Cx.add_ρ]; simp)
          -- the deferred calls
          have F1 : FRel (cx.add h.n (some (w0.heap.size,0)) none) (h.push (.loop .ready .none 0 fr.tmps ps.toList (cC P mu me asg) (cC P mu me body))) (w0.alloc (.loop L)) s0 fr { a with defers := mk ++ a.defers } := by
            have FF := F.stp S01
            rcases hw0 with ⟨rfl,rfl⟩ | ⟨rfl,rfl⟩
            · exact FF
            · refine ⟨FF.tmps,.mark _ _ _ ⟨F.le,?_,fun b' ho => ?_⟩ (fun d hd e => ?_) FF.defs,FF.le⟩
              · show ((w.heap.push _).push _)[w.heap.size]? = _
                rw [getElem?_push_old _ _ _ (by simp)]
                simp
              · obtain ⟨b2,ho2⟩ := S1.fr.owns b' _ ho (by simp)
                have := Owns.lt I (S0.fr.owns b2 w.heap.size ho2 (by
                  have := Owns.lt I0 ho2
                  simp at this
                  exact absurd (Owns.lt I (show Owns cx h b2 w.heap.size from ho2)) (Nat.lt_irrefl _))).choose_spec
                omega
              · have := F.defs.marks_lt d hd _ e
                omega
          have Pr1 := Pr.next S01.ext (.refl fr.pan cs)
          simp only [kRes] at hr
          have enter : Enters P f → ∃ args' : Array Value,args'.size = args.length ∧ (∀ i (hi : i < args.length),VRel (cx.add h.n (some (w0.heap.size,0)) none) (w0.alloc (.loop L)) args[i] (args'.getD i undef)) ∧
              step P (lone (b.atR a (.code (.rangeFunc g ps asg body) :: k)) cs w) =
                .next (lone (Frame.enter P f args' .normal) (b.atR { a with defers := mk ++ a.defers } (.inRangeFunc w0.heap.size :: k) :: cs) (w0.alloc (.loop L))) := by
            intro hEn
            obtain ⟨fs,cs',e1,e2,e3⟩ := tgt_call I1 htgt hgv (args := #[.func (.yield w0.heap.size) #[] #[]]) rfl hyv hEn
            refine ⟨fs ++ #[.func (.yield w0.heap.size) #[] #[]] ++ cs',e2,e3,?_⟩
            refine stepR_rangeFunc (w₁' := w0.alloc (.loop L)) (d := { target := .fn (.func f) cs',args := fs ++ #[.func (.yield w0.heap.size) #[] #[]] }) hent ?_ ?_
            · simp only [resolve]
              rw [e1]
              simp [Deferred.ofValue,Act.eval]
            · simp [invoke,run_callFunc hEn]
          split at hr
          · -- it has come back
            rename_i v h1 hcall
            have hent1 : Enters P f := enters_of_call hE hcall
            obtain ⟨args',e2,e3,hstep⟩ := enter hent1
            obtain ⟨_,hcs⟩ := hC _ _ _ _ _ _ hcall _ _ args' I1 e2 e3
            obtain ⟨cx2,w2,fr2,I2,S2,hst,hfn,hlv⟩ := hcs (b.atR { a with defers := mk ++ a.defers } (.inRangeFunc w0.heap.size :: k) :: cs)
            rcases hlv with ⟨_,v',hv,hlv⟩ | ⟨_,e,_⟩
            · have hleave := step_leave_returned (c := b.atR { a with defers := mk ++ a.defers } (.inRangeFunc w0.heap.size :: k)) (cs := cs) hlv
              rw [finish_atR_inRangeFunc] at hleave
              have F2 := F1.stp S2
              simp only [endLoop,putD] at hr
              split at hr
              · rename_i st pd f2 tm2 ps2 asg2 body2 hg
                obtain ⟨c2,L2,k1,k2,k3,k4,_⟩ := I2.heap h.n _ hg
                have hrho : cx2.ρ h.n = some (w0.heap.size,0) := S2.ext.ρ _ _ (by rw [Cx.add_ρ]; simp)
                rw [hrho] at k1; cases k1
                have fin : st ≠ .busy → Inv P [] G cx2 (h1.set h.n (.loop .exhausted pd f2 tm2 ps2 asg2 body2)) (w2.putObj w0.heap.size (.loop { L2 with state := .exhausted })) ∧
                    Stp cx2 h1 w2 cx2 (h1.set h.n (.loop .exhausted pd f2 tm2 ps2 asg2 body2)) (w2.putObj w0.heap.size (.loop { L2 with state := .exhausted })) ∧
                    step P (lone (b.atR { a with defers := mk ++ a.defers } (.endRangeFunc w0.heap.size :: k)) cs w2) =
                      .next (lone (b.atR { a with defers := mk ++ a.defers } ((pd.of.map Item.code).toList ++ k)) cs (w2.putObj w0.heap.size (.loop { L2 with state := .exhausted }))) := by
                  intro hbusy
                  obtain ⟨q1,q2⟩ := I2.loopSet (L' := { L2 with state := .exhausted }) (st' := .exhausted) (pd' := pd) hg hrho k2 rfl k4 rfl rfl rfl rfl rfl
                  refine ⟨q1,q2,?_⟩
                  have := run_endLoop (P := P) k2 (by rw [k3]; cases st <;> simp [LSt.of] at hbusy ⊢)
                  rw [← k4]
                  exact stepR_endRangeFunc this
                have done : ∀ (exx : Ex),st ≠ .busy → (∀ w3,Arr P (lone (b.atR { a with defers := mk ++ a.defers } ((pd.of.map Item.code).toList ++ k)) cs w3) b k cs cx2 { a with defers := mk ++ a.defers } w3 exx) →
                    Out P G s0 cx h w fr.pan b k cs (lone (b.atR a (.code (.rangeFunc g ps asg body) :: k)) cs w) exx fr (h1.set h.n (.loop .exhausted pd f2 tm2 ps2 asg2 body2)) := by
                  intro exx hbusy harr
                  obtain ⟨q1,q2,q3⟩ := fin hbusy
                  exact ⟨cx2,_,_,cs,q1,(S01.trans S2).trans q2,F2.stp q2,.refl _ _,(harr _).of_steps (.head hstep (hst.trans (.head hleave (.one q3))))⟩
                split at hr
                · cases hr
                · rename_i hbusy
                  have hbusy : st ≠ .busy := fun e => hbusy e
                  split at hr
                  · cases hr
                    exact done .nrm hbusy (fun w3 => .refl _ _)
                  · cases hr
                    exact done (.exit _) hbusy (fun w3 => Arr.exit _)
                  · cases hr
                    exact done .ret hbusy (fun w3 => Arr.ret)
              · cases hr
            · cases e
          · -- it has passed on a panic
            rename_i v0 x h1 hcall
            cases hr
            have hent1 : Enters P f := enters_of_call hE hcall
            obtain ⟨args',e2,e3,hstep⟩ := enter hent1
            obtain ⟨_,hcs⟩ := hC _ _ _ _ _ _ hcall _ _ args' I1 e2 e3
            obtain ⟨cx2,w2,fr2,I2,S2,hst,hfn,hlv⟩ := hcs (b.atR { a with defers := mk ++ a.defers } (.inRangeFunc w0.heap.size :: k) :: cs)
            rcases hlv with ⟨e,_⟩ | ⟨v1,e,v',hv,hlv⟩
            · cases e
            · cases e
              have hleave := step_leave_panicked (c := b.atR { a with defers := mk ++ a.defers } (.inRangeFunc w0.heap.size :: k)) (cs := cs) hlv
              rw [Frame.raise_atR] at hleave
              exact ⟨cx2,w2,_,cs,I2,S01.trans S2,F1.stp S2,.refl _ _,_,v',hv,.head hstep (hst.trans (.one hleave))⟩
          · cases hr
        · cases hr
      · cases hr
    · cases hr
  | label l => cases hr
  | scope x => cases hr
  | goto l => cases hr
  | refuse why => cases hr
end
end Go.Abs

namespace Go.Abs
section
variable {P : Program} {G : Nat → List DV} {E : Env} {runC : AC → Fr → Heap → Res}

theorem asAddr_of_load {t : TypeId} {a v : Value} {w : World} (hl : (Instr.loadAt t a).run P w = .ok v w) : (do loadVar t (← asAddr a) : Sem Value).run P w = .ok v w := by
 cases a with
 | pointer p =>
  cases p with
  | some a => simpa [Instr.loadAt,Instr.sureAddr,asAddr] using hl
  | none => simp [Instr.loadAt,Instr.sureAddr] at hl
 | _ => simp [Instr.loadAt,Instr.sureAddr] at hl

def resOne (tmps : Array Value) : ResultVar → Sem Value
 | .tmp t => pure (tmps.getD t undef)
 | .cell a t => do loadVar t (← asAddr (tmps.getD a undef))

theorem resL_rel {cx : Cx} {h : Heap} {w : World} (I : Inv P [] G cx h w) (hg : E.glob = G) {tm : List AV} {tmps : Array Value} (ht : TRel cx w tm tmps) : ∀ (rs : List ResultVar) (l : List AV),
  (∀ t ty,ResultVar.cell t ty ∈ rs → (aggT P ty).isSome = true ∧ (szOf P ty).isSome = true) → resL E h tm (rs.map (cR P)) = some l →
  ∃ vs : List Value,(rs.mapM (resOne tmps)).run P w = .ok vs w ∧ vs.length = l.length ∧
   ∀ i (hi : i < l.length),VRel cx w l[i] (vs.getD i undef) := by
 intro rs
 induction rs with
 | nil => intro l _ hl; cases hl; exact ⟨[],by simp,rfl,fun i hi => absurd hi (by simp)⟩
 | cons r rs ih =>
  intro l hok hl
  simp only [List.map_cons,resL] at hl
  split at hl
  ·rename_i v hv
   split at hl
   ·rename_i l' hl'
    cases hl
    obtain ⟨vs,h1,h2,h3⟩ := ih l' (fun t ty hm => hok t ty (List.mem_cons_of_mem _ hm)) hl'
    have hd : ∃ u,(resOne tmps r).run P w = .ok u w ∧ VRel cx w v u := by
     cases r with
     | tmp t => cases hv; exact ⟨_,by simp [resOne],ht.rel t⟩
     | cell t ty =>
      obtain ⟨o1,o2⟩ := hok t ty (by simp)
      obtain ⟨ag,ha⟩ := Option.isSome_iff_exists.1 o1
      obtain ⟨n,hn⟩ := Option.isSome_iff_exists.1 o2
      simp only [cR,resV,ha,hn,Option.getD_some] at hv
      rw [hg] at hv
      obtain ⟨u,u1,u2⟩ := snd_load I ha hn (ht.rel t) hv
      exact ⟨u,asAddr_of_load u1,u2⟩
    obtain ⟨u,u1,u2⟩ := hd
    refine ⟨u :: vs,?_,by simp [h2],fun i hi => ?_⟩
    ·rw [List.mapM_cons]
     simp only [Sem.run_bind,u1,Result.andThen_ok,h1,Sem.run_pure]
    ·cases i with
     | zero => exact u2
     | succ i => simpa [List.getD] using h3 i (by simpa using hi)
   ·cases hl
  ·cases hl

theorem results_rel {cx : Cx} {h : Heap} {w : World} (I : Inv P [] G cx h w) (hg : E.glob = G) {tm : List AV} {tmps : Array Value} (ht : TRel cx w tm tmps) {fn : Func} {v : AV}
  (hok : ∀ t ty,ResultVar.cell t ty ∈ fn.results.toList → (aggT P ty).isSome = true ∧ (szOf P ty).isSome = true) (hr : results E h tm (fn.results.toList.map (cR P)) = some v) :
  ∃ v',(Go.results fn tmps).run P w = .ok v' w ∧ VRel cx w v v' := by
 unfold results at hr
 have key : ∀ l,resL E h tm (fn.results.toList.map (cR P)) = some l → ∃ vs : List Value,(Go.results fn tmps).run P w = .ok (if h : vs.toArray.size = 1 then vs.toArray[0] else .tuple vs.toArray) w ∧ vs.length = l.length ∧ ∀ i (hi : i < l.length),VRel cx w l[i] (vs.getD i undef) := by
  intro l hl
  obtain ⟨vs,h1,h2,h3⟩ := resL_rel I hg ht _ l hok hl
  refine ⟨vs,?_,h2,h3⟩
  have e : Go.results fn tmps = (do let vs ← fn.results.mapM (resOne tmps); pure (if h : vs.size = 1 then vs[0] else .tuple vs)) := by
   unfold Go.results
   congr 1
  rw [e,Array.mapM_eq_mapM_toList]
  simp only [Sem.run_bind,map_eq_pure_bind,h1,Result.andThen_ok,Sem.run_pure]
 split at hr
 ·rename_i u hl
  cases hr
  obtain ⟨vs,h1,h2,h3⟩ := key _ hl
  have h4 : vs.length = 1 := h2
  obtain ⟨x,rfl⟩ := List.length_eq_one_iff.1 h4
  exact ⟨x,by simpa using h1,by simpa using h3 0 (by simp)⟩
 ·rename_i l hne hl
  cases hr
  obtain ⟨vs,h1,h2,h3⟩ := key _ hl
  have hne' : ¬ vs.toArray.size = 1 := by
   intro e
   have : l.length = 1 := by rw [← h2]; simpa using e
   obtain ⟨x,rfl⟩ := List.length_eq_one_iff.1 this
   exact hne x rfl
  rw [dif_neg hne'] at h1
  refine ⟨_,h1,.tup _ _ (by simpa using h2) (fun i hi => ?_)⟩
  have := h3 i hi
  simpa [Array.getD_eq_getD_getElem?,List.getD] using this
 ·cases hr

theorem Inv.putObj {cx : Cx} {h : Heap} {w : World} (I : Inv P [] G cx h w) {r : Nat} {ds : Option (List Deferred)} {o : Obj} (hr : w.heap[r]? = some (.deferred ds)) (hno : ∀ b,¬ Owns cx h b r) :
  Inv P [] G cx h (w.putObj r o) ∧ Ext cx w cx (w.putObj r o) ∧ ∀ {cx0 : Cx} {h0 : Heap} {w0 : World},Stp cx0 h0 w0 cx h w → w0.heap.size ≤ r → Stp cx0 h0 w0 cx h (w.putObj r o) := by
 have hoth : ∀ c : Nat,c ≠ r → (w.putObj r o).heap[c]? = w.heap[c]? := fun c hc => World.putObj_heap_other hc
 have znr : ∀ c o',cx.Z c o' ∨ cx.B c o' → c ≠ r := by
  intro c o' z e
  subst e
  have := I.sep.zc c o' z
  simp [World.cell?,hr] at this
 have ext : Ext cx w cx (w.putObj r o) := {
  size := by simp
  ρ := fun _ _ h => h
  K := fun _ κ h => ⟨κ,h,Nat.le_refl _,fun _ => rfl⟩
  Z := fun _ _ z => z
  B := fun _ _ => Iff.rfl
  cell := fun c o' z => cell_of_heap (hoth c (znr c o' z)) o' none
  el := fun c arr e fz hh => ⟨arr,fz,by rw [hoth c (fun e' => by subst e'; rw [hr] at hh; cases hh)]; exact hh,rfl⟩
  lp := fun c L hh => ⟨L,by rw [hoth c (fun e' => by subst e'; rw [hr] at hh; cases hh)]; exact hh⟩
  io := ⟨rfl,rfl⟩ }
 refine ⟨⟨fun b x hb => ?_,?_,fun g i hi => ?_⟩,ext,fun s hs => ⟨?_,?_⟩⟩
 ·have hB := I.heap b x hb
  cases x with
  | cells fr el cs =>
   obtain ⟨c,base,h1,⟨arr,fz,h2,hfz⟩,h3⟩ := hB
   refine BRel.ext_of ext (fun c2 b2 hr2 _ => ?_) (fun κ _ ⟨g,t,hh⟩ => by cases hh) ⟨c,base,h1,⟨arr,fz,h2,hfz⟩,h3⟩
   rw [h1] at hr2; cases hr2
   exact hoth c (fun e => by subst e; rw [hr] at h2; cases h2)
  | tok g el =>
   refine BRel.ext_of ext (fun c2 b2 hr2 hh => absurd rfl (hh g el)) (fun κ hκ _ => ⟨hκ,fun c2 base2 hpl => hoth c2 (fun e => ?_)⟩) hB
   subst e
   exact hno b (.tok g el κ base2 hb hκ hpl)
  | dead => trivial
  | map es => exact BRel.ext_of ext (fun c2 b2 hr2 _ => hoth c2 (fun e => by subst e; exact hno b (.blk _ b2 hb rfl (fun _ _ => by simp) hr2))) (fun κ _ ⟨g,t,hh⟩ => by cases hh) hB
  | loop st pend f tmps ps asg body => exact BRel.ext_of ext (fun c2 b2 hr2 _ => hoth c2 (fun e => by subst e; exact hno b (.blk _ b2 hb rfl (fun _ _ => by simp) hr2))) (fun κ _ ⟨g,t,hh⟩ => by cases hh) hB
  | sit s pos => exact BRel.ext_of ext (fun c2 b2 hr2 _ => hoth c2 (fun e => by subst e; exact hno b (.blk _ b2 hb rfl (fun _ _ => by simp) hr2))) (fun κ _ ⟨g,t,hh⟩ => by cases hh) hB
 ·exact {
   inj := I.sep.inj
   nof := I.sep.nof
   tokf := I.sep.tokf
   base0 := I.sep.base0
   lt := fun b c base hr => by simpa using I.sep.lt b c base hr
   ltK := fun b κ c base hr hpl => by simpa using I.sep.ltK b κ c base hr hpl
   new := I.sep.new
   zc := fun c o' z => by rw [cell_of_heap (hoth c (znr c o' z))]; exact I.sep.zc c o' z }
 ·obtain ⟨v,v1,v2,v3⟩ := I.glob g i hi
  exact ⟨v,by rw [cell_of_heap (hoth g (znr g i (.inl v2)))]; exact v1,v2,v3.ext ext⟩
 ·exact s.ext.trans ext
 ·exact ⟨fun c hc hn => by rw [hoth c (by omega)]; exact s.fr.kept c hc hn,s.fr.owns,s.fr.z,s.fr.hn,s.fr.dd,s.fr.rr⟩

def MRel (cx : Cx) (w : World) : Option AV → FrameMode → Prop
 | none,u => u = .returning
 | some v,u => ∃ v',u = .panicking [{ v := v',recovered := false }] ∧ VRel cx w v v'

theorem MRel.ext {cx cx' : Cx} {w w' : World} {p : Option AV} {u : FrameMode} (e : Ext cx w cx' w') (m : MRel cx w p u) : MRel cx' w' p u := by
 cases p with
 | none => exact m
 | some v => obtain ⟨v',h1,h2⟩ := m; exact ⟨v',h1,h2.ext e⟩

theorem MRel.run {cx : Cx} {w : World} {p : Option AV} {u : FrameMode} (m : MRel cx w p u) : u ≠ .run := by
 cases p with
 | none => rw [show u = .returning from m]; simp
 | some v => obtain ⟨v',h1,_⟩ := m; rw [h1]; simp

theorem marks_steps {cx0 : Cx} {h0 : Heap} {w0 : World} {s0 : Nat} (hs0 : s0 = w0.heap.size) : ∀ (ds : List Deferred) (cx : Cx) (h : Heap) (w : World),DefsRel cx h w s0 [] ds → Inv P [] G cx h w → Stp cx0 h0 w0 cx h w →
  ∀ (fr : Frame) (cs : List Frame),fr.mode ≠ .run → fr.defers = ds →
  ∃ w',Inv P [] G cx h w' ∧ Stp cx0 h0 w0 cx h w' ∧ Ext cx w cx w' ∧ Steps P (lone fr cs w) (lone { fr with defers := [] } cs w') := by
 intro ds
 induction ds with
 | nil =>
  intro cx h w _ I S fr cs _ hd
  refine ⟨w,I,S,.refl _ _,?_⟩
  have : ({ fr with defers := [] } : Frame) = fr := by cases fr; cases hd; rfl
  rw [this]
  exact .refl _ _
 | cons d ds ih =>
  intro cx h w hdr I S fr cs hm hd
  cases hdr with
  | mark r _ _ hmk hn hrest =>
   obtain ⟨m1,m2,m3⟩ := hmk
   obtain ⟨p1,p2,p3⟩ := I.putObj (o := .deferred none) m2 m3
   have hstep := step_collected (cs := cs) hm hd rfl (run_takeDeferred (P := P) m2)
   have hrest' : DefsRel cx h (w.putObj r (.deferred none)) s0 [] ds := by
    have gen : ∀ (fs : List (AV × List AV)) (ds : List Deferred),DefsRel cx h w s0 fs ds → (∀ d ∈ ds,d.target ≠ .collected r) → DefsRel cx h (w.putObj r (.deferred none)) s0 fs ds := by
     intro fs ds hdr
     induction hdr with
     | nil => intro _; exact .nil
     | mark r' fs ds hm' hn' _ ih2 =>
      intro hne
      refine .mark r' fs ds ⟨hm'.1,?_,hm'.2.2⟩ hn' (ih2 (fun d hd => hne d (List.mem_cons_of_mem _ hd)))
      rw [World.putObj_heap_other]
      ·exact hm'.2.1
      ·intro e; subst e; exact hne { target := .collected r',args := #[] } (by simp) rfl
     | call f args g fs' cs' args' fs ds hf hl ha _ ih2 =>
      intro hne
      exact .call f args g fs' cs' args' fs ds (hf.ext p2) hl (fun i hi => (ha i hi).ext p2) (ih2 (fun d hd => hne d (List.mem_cons_of_mem _ hd)))
    exact gen [] ds hrest hn
   obtain ⟨w',q1,q2,q3,q4⟩ := ih cx h _ hrest' p1 (p3 S (by omega)) { fr with defers := [] ++ ds } cs hm rfl
   exact ⟨w',q1,q2,p2.trans q3,.head hstep q4⟩
end
end Go.Abs

namespace Go.Abs
section
variable {P : Program} {G : Nat → List DV} {E : Env} {runC : AC → Fr → Heap → Res}

theorem rep_eq (n : Nat) : rep n = List.replicate n .und := by
 induction n with
 | zero => rfl
 | succ n ih => show AV.und :: rep n = _; rw [ih]; rfl

theorem enter_rel {cx : Cx} {w : World} {n : Nat} {args : List AV} {args' : Array Value} (hl : args'.size = args.length) (hr : ∀ i (hi : i < args.length),VRel cx w args[i] (args'.getD i undef)) :
  TRel cx w (enterT n args) (args' ++ Array.replicate (n - args'.size) undef) := by
 unfold enterT
 rw [rep_eq,hl]
 refine ⟨by simp [hl],fun t => ?_⟩
 rw [getL_eq]
 by_cases h1 : t < args.length
 ·have e1 : (args ++ List.replicate (n - args.length) AV.und).getD t .und = args[t] := by simp [List.getD,List.getElem?_append_left h1,h1]
  have h1' : t < args'.size := by omega
  have e2 : (args' ++ Array.replicate (n - args.length) undef).getD t undef = args'.getD t undef := by
   simp [Array.getD_eq_getD_getElem?,Array.getElem?_append_left h1']
  rw [e1,e2]
  exact hr t h1
 ·have e1 : (args ++ List.replicate (n - args.length) AV.und).getD t .und = .und := by
   simp only [List.getD,List.getElem?_append_right (Nat.le_of_not_lt h1),List.getElem?_replicate]
   split <;> rfl
  have e2 : (args' ++ Array.replicate (n - args.length) undef).getD t undef = undef := by
   have h1' : args'.size ≤ t := by omega
   simp only [Array.getD_eq_getD_getElem?,Array.getElem?_append_right h1',Array.getElem?_replicate]
   split <;> rfl
  rw [e1,e2]
  exact .und

def exPan : Ex → Option (Option AV)
 | .nrm | .ret => some none
 | .pan v => some (some v)
 | .exit _ => none

theorem body_sound (hS : Snd P G runC) {mu : List String} {f : FuncId} {fn : Func} {c : Code} (hf : P.funcs[f]? = some fn) (hb : fn.body = some c) {args : List AV} {p : Option AV} {h h1 : Heap} {ex : Ex} {fr1 : Fr}
  (hr : runC (cC P mu fn.name c) ⟨enterT fn.ntmps args,[],p⟩ h = some (ex,fr1,h1)) {q : Option AV} (hq : exPan ex = some q) {cx : Cx} {w : World} {args' : Array Value} (I : Inv P [] G cx h w) (hl : args'.size = args.length)
  (ha : ∀ i (hi : i < args.length),VRel cx w args[i] (args'.getD i undef)) {kd : CallKind} {cs : List Frame} (hp : PRel cx w { (default : Frame) with fn := f,kind := kd,roundOf := none } cs p) :
  ∃ cx1 w1 cs1 frX,Inv P [] G cx1 h1 w1 ∧ Stp cx h w cx1 h1 w1 ∧ CsRel p cs fr1.pan cs1 ∧ Steps P (lone (Frame.enter P f args' kd) cs w) (lone frX cs1 w1) ∧ frX.fn = f ∧ frX.kind = kd ∧ frX.roundOf = none ∧ TRel cx1 w1 fr1.tmps frX.tmps ∧
   DefsRel cx1 h1 w1 w.heap.size fr1.defs frX.defers ∧ MRel cx1 w1 q frX.mode := by
 let b : Frame := { (default : Frame) with fn := f,kind := kd,roundOf := none }
 have henter : Frame.enter P f args' kd = b.atR { tmps := args' ++ Array.replicate (fn.ntmps - args'.size) undef,defers := [] } [.code c] := by
  simp [Frame.enter,Frame.atR,hf,hb,b]
 have F : FRel cx h w w.heap.size ⟨enterT fn.ntmps args,[],p⟩ { tmps := args' ++ Array.replicate (fn.ntmps - args'.size) undef,defers := [] } := ⟨enter_rel hl ha,.nil,Nat.le_refl _⟩
 obtain ⟨⟨cx1,w1,a1,cs1,I1,S1,F1,C1,A1⟩,_⟩ := hS mu fn.name c _ _ _ _ _ hr cx w _ w.heap.size b [] cs I F hp (fun hh => by simp [b] at hh) (fun l hh => by simp [b] at hh) (by simp [b,hf])
 rw [← henter] at A1
 cases ex with
 | nrm =>
  cases hq
  exact ⟨cx1,w1,cs1,{ b.atR a1 [] with mode := .returning },I1,S1,C1,Steps.trans A1 (.one (stepR_end rfl)),rfl,rfl,rfl,F1.tmps,F1.defs,rfl⟩
 | ret =>
  cases hq
  obtain ⟨todo,hst⟩ := A1.1 rfl
  exact ⟨cx1,w1,cs1,{ b.atR a1 todo with mode := .returning },I1,S1,C1,hst,rfl,rfl,rfl,F1.tmps,F1.defs,rfl⟩
 | pan v =>
  cases hq
  obtain ⟨todo,v',hv,hst⟩ := A1
  exact ⟨cx1,w1,cs1,{ b.atR a1 todo with mode := .panicking [{ v := v',recovered := false }] },I1,S1,C1,hst,rfl,rfl,rfl,F1.tmps,F1.defs,v',rfl,hv⟩
 | exit id => cases hq

def deferF (E : Env) (runC : AC → Fr → Heap → Res) (g : FuncId) (l : List AV) (p : Option AV) (h : Heap) : Option (Ex × AV × Heap × Option AV) := match E.fn g with
 | none => none
 | some gn => match runC gn.body ⟨enterT gn.ntmps l,[],p⟩ h with
  | some (ex,fr,h2) => match fr.defs,ex with
   | [],.nrm | [],.ret => match results E h2 fr.tmps gn.results with
    | some v => some (.nrm,v,h2,fr.pan)
    | none => none
   | _,_ => none
  | none => none

theorem deferF_inv {g : FuncId} {l : List AV} {p : Option AV} {h : Heap} {r} (hd : deferF E runC g l p h = some r) : ∃ gn ex fr h2 v,E.fn g = some gn ∧ runC gn.body ⟨enterT gn.ntmps l,[],p⟩ h = some (ex,fr,h2) ∧ fr.defs = [] ∧ exPan ex = some none ∧
  results E h2 fr.tmps gn.results = some v ∧ r = (.nrm,v,h2,fr.pan) := by
 unfold deferF at hd
 split at hd
 ·cases hd
 ·rename_i gn hg
  split at hd
  ·rename_i ex fr h2 hr
   split at hd
   ·rename_i h3
    split at hd
    ·rename_i v hv
     cases hd
     exact ⟨gn,.nrm,fr,h2,v,hg,hr,h3,rfl,hv,rfl⟩
    ·cases hd
   ·rename_i h3
    split at hd
    ·rename_i v hv
     cases hd
     exact ⟨gn,.ret,fr,h2,v,hg,hr,h3,rfl,hv,rfl⟩
    ·cases hd
   ·cases hd
  ·cases hd

theorem settle_next {cx : Cx} {w : World} {p p' : Option AV} {c : Frame} {cs cs' : List Frame} (hm : MRel cx w p c.mode) (hc : CsRel p (c :: cs) p' cs') : ∃ c',cs' = c' :: cs ∧ { c' with mode := settle c'.mode } = ({ c with mode := settle c'.mode } : Frame) ∧ MRel cx w p' (settle c'.mode) := by
 rcases hc with ⟨rfl,rfl⟩ | ⟨v,c2,rest,v',older,e1,e2,e3,e4,e5⟩
 ·refine ⟨c,rfl,rfl,?_⟩
  cases p' with
  | none =>
   have : c.mode = .returning := hm
   rw [this]; rfl
  | some v =>
   obtain ⟨v',h1,h2⟩ := hm
   rw [h1]
   exact ⟨v',rfl,h2⟩
 ·cases e3
  subst e1; subst e2
  obtain ⟨v2,h1,h2⟩ := hm
  rw [h1] at e4
  cases e4
  refine ⟨_,e5,rfl,?_⟩
  show settle (.panicking [{ v := v',recovered := true }]) = .returning
  rfl

theorem defs_steps (hE : EOk P G E) (hS : Snd P G runC) {cx0 : Cx} {h0 : Heap} {w0 : World} {s0 : Nat} (hs0 : s0 = w0.heap.size) : ∀ (ds : List Deferred) (fs : List (AV × List AV)) (cx : Cx) (h : Heap) (w : World) (p p' : Option AV) (h' : Heap),
  DefsRel cx h w s0 fs ds → runDefs (deferF E runC) fs p h = some (p',h') → Inv P [] G cx h w → Stp cx0 h0 w0 cx h w → ∀ (fr : Frame) (cs : List Frame),MRel cx w p fr.mode → fr.defers = ds →
  ∃ cx' w' u,Inv P [] G cx' h' w' ∧ Stp cx0 h0 w0 cx' h' w' ∧ Ext cx w cx' w' ∧ MRel cx' w' p' u ∧ Steps P (lone fr cs w) (lone { fr with defers := [],mode := u } cs w') := by
 intro ds
 induction ds with
 | nil =>
  intro fs cx h w p p' h' hdr hrun I S fr cs hm hd
  cases hdr
  cases hrun
  refine ⟨cx,w,fr.mode,I,S,.refl _ _,hm,?_⟩
  have : ({ fr with defers := [],mode := fr.mode } : Frame) = fr := by cases fr; cases hd; rfl
  rw [this]
  exact .refl _ _
 | cons d ds ih =>
  intro fs cx h w p p' h' hdr hrun I S fr cs hm hd
  cases hdr with
  | mark r _ _ hmk hn hrest =>
   obtain ⟨m1,m2,m3⟩ := hmk
   obtain ⟨p1,p2,p3⟩ := I.putObj (o := .deferred none) m2 m3
   have hstep := step_collected (cs := cs) hm.run hd rfl (run_takeDeferred (P := P) m2)
   have hrest' : DefsRel cx h (w.putObj r (.deferred none)) s0 fs ds := by
    have gen : ∀ (fs : List (AV × List AV)) (ds : List Deferred),DefsRel cx h w s0 fs ds → (∀ d ∈ ds,d.target ≠ .collected r) → DefsRel cx h (w.putObj r (.deferred none)) s0 fs ds := by
     intro fs ds hdr
     induction hdr with
     | nil => intro _; exact .nil
     | mark r' fs ds hm' hn' _ ih2 =>
      intro hne
      refine .mark r' fs ds ⟨hm'.1,?_,hm'.2.2⟩ hn' (ih2 (fun d hd => hne d (List.mem_cons_of_mem _ hd)))
      rw [World.putObj_heap_other]
      ·exact hm'.2.1
      ·intro e; subst e; exact hne { target := .collected r',args := #[] } (by simp) rfl
     | call f args g fs' cs' args' fs ds hf hl ha _ ih2 =>
      intro hne
      exact .call f args g fs' cs' args' fs ds (hf.ext p2) hl (fun i hi => (ha i hi).ext p2) (ih2 (fun d hd => hne d (List.mem_cons_of_mem _ hd)))
    exact gen fs ds hrest hn
   obtain ⟨cx',w',u,q1,q2,q3,q4,q5⟩ := ih fs cx h _ p p' h' hrest' hrun p1 (p3 S (by omega)) { fr with defers := [] ++ ds } cs (hm.ext p2) rfl
   exact ⟨cx',w',u,q1,q2,p2.trans q3,q4,.head hstep q5⟩
  | call f args g fs' cs' args' fs2 _ hf hl ha hrest =>
   simp only [runDefs] at hrun
   split at hrun
   ·rename_i gid l htgt
    split at hrun
    ·rename_i v1 h1 p1 hcall
     obtain ⟨gn,ex,frg,h2,v2,e1,e2,e3,e4,e5,e6⟩ := deferF_inv hcall
     cases e6
     obtain ⟨fn,mu,extra,hfn,hcf⟩ := hE.fn _ _ e1
     obtain ⟨c,hbody,hname,hnt,hres,hbd,hok⟩ := cF_some hcf
     have hEn : Enters P gid := ⟨fn,c,hfn,hbody,hname⟩
     obtain ⟨fs0,cs0,q1,q2,q3⟩ := tgt_call I htgt hf hl ha hEn
     cases q1
     have hinv : (invoke (.fn (.func gid) cs') (fs' ++ args')).run P w = .ok (.enter gid (fs' ++ args' ++ cs')) w := by
      simp [invoke,run_callFunc hEn]
     have hstep := step_defer (P := P) (cs := cs) (w := w) hm.run hd rfl hinv
     rw [hbd,hnt] at e2
     have hPR : PRel cx w { (default : Frame) with fn := gid,kind := .deferred,roundOf := none } ({ fr with defers := ds } :: cs) p := by
      cases p with
      | none =>
       intro fr0 hk
       have hmode : fr.mode = .returning := hm
       have hk' : fr0.kind = .deferred := hk
       simp [tryRecover,hk',hmode]
      | some v =>
       obtain ⟨v',hm1,hm2⟩ := hm
       exact ⟨rfl,rfl,{ fr with defers := ds },cs,v',[],rfl,hm1,hm2⟩
     obtain ⟨cx1,w1,cs1,frX,I1,S1,C1,st1,x1,x2,x3,T1,D1,M1⟩ := body_sound hS hfn hbody e2 e4 I q2 q3 hPR
     rw [e3] at D1
     obtain ⟨w2,I2,S2,X2,st2⟩ := marks_steps (s0 := w.heap.size) rfl _ cx1 h1 w1 D1 I1 S1 frX cs1 M1.run rfl
     have T2 := T1.ext X2
     rw [hres] at e5
     obtain ⟨v',r1,r2⟩ := results_rel I2 hE.glob T2 hok e5
     have hmodeX : frX.mode = .returning := M1
     have hgo : ({ frX with defers := [] } : Frame).going P w2 (.returned v') := ⟨hmodeX,rfl,fn,by rw [x1]; exact hfn,r1⟩
     obtain ⟨c',hc1,hc2,hc3⟩ := settle_next (c := { fr with defers := ds }) (hm.ext (S1.ext.trans X2)) C1
     subst hc1
     have hret := step_going_returned (cs := cs) (c := c') (show ({ frX with defers := [] } : Frame).kind = .deferred from x2) hgo
     rw [hc2] at hret
     have S02 := S.trans S2
     have hrest' : DefsRel cx1 h1 w2 s0 fs2 ds := hrest.stp S2
     obtain ⟨cx',w',u,y1,y2,y3,y4,y5⟩ := ih fs2 cx1 h1 w2 _ p' h' hrest' hrun I2 S02 { fr with defers := ds,mode := settle c'.mode } cs hc3 rfl
     exact ⟨cx',w',u,y1,y2,S2.ext.trans y3,y4,.head hstep (st1.trans (st2.trans (.head hret y5)))⟩
    ·cases hrun
   ·cases hrun

theorem callIn_eq {f : FuncId} {args : List AV} {p : Option AV} {h : Heap} {r} (hc : callIn E runC f args p h = some r) : ∃ fn ex fr h1 q p1 h2,E.fn f = some fn ∧ runC fn.body ⟨enterT fn.ntmps args,[],p⟩ h = some (ex,fr,h1) ∧ exPan ex = some q ∧
  runDefs (deferF E runC) fr.defs q h1 = some (p1,h2) ∧ ((p1 = none ∧ ∃ v,results E h2 fr.tmps fn.results = some v ∧ r = (.nrm,v,h2,fr.pan)) ∨ ∃ v,p1 = some v ∧ r = (.pan v,.und,h2,fr.pan)) := by
 unfold callIn at hc
 split at hc
 ·cases hc
 ·rename_i fn hf
  split at hc
  ·rename_i ex fr h1 hr
   split at hc
   ·rename_i hds
    split at hc
    ·split at hc
     ·rename_i v hv
      cases hc
      exact ⟨fn,.nrm,fr,h1,none,none,h1,hf,hr,rfl,by rw [hds]; rfl,.inl ⟨rfl,v,hv,rfl⟩⟩
     ·cases hc
    ·split at hc
     ·rename_i v hv
      cases hc
      exact ⟨fn,.ret,fr,h1,none,none,h1,hf,hr,rfl,by rw [hds]; rfl,.inl ⟨rfl,v,hv,rfl⟩⟩
     ·cases hc
    ·rename_i v
     cases hc
     exact ⟨fn,.pan v,fr,h1,some v,some v,h1,hf,hr,rfl,by rw [hds]; rfl,.inr ⟨v,rfl,rfl⟩⟩
    ·cases hc
   ·have hq : ∀ q,(match ex with | .nrm | .ret => some none | .pan v => some (some v) | .exit _ => none) = some q → exPan ex = some q := by
     intro q hq; cases ex <;> exact hq
    split at hc
    ·cases hc
    ·rename_i q hq'
     have hq' := hq _ hq'
     split at hc
     ·rename_i h2 hrd
      split at hc
      ·rename_i v hv
       cases hc
       exact ⟨fn,ex,fr,h1,q,none,h2,hf,hr,hq',hrd,.inl ⟨rfl,v,hv,rfl⟩⟩
      ·cases hc
     ·rename_i v h2 hrd
      cases hc
      exact ⟨fn,ex,fr,h1,q,some v,h2,hf,hr,hq',hrd,.inr ⟨v,rfl,rfl⟩⟩
     ·cases hc
  ·cases hc

theorem callIn_sound (hE : EOk P G E) (hS : Snd P G runC) {f : FuncId} {args : List AV} {h h' : Heap} {ex : Ex} {v : AV} {pp : Option AV} (hc : callIn E runC f args none h = some (ex,v,h',pp)) {cx : Cx} {w : World} {args' : Array Value} (I : Inv P [] G cx h w)
  (hl : args'.size = args.length) (ha : ∀ i (hi : i < args.length),VRel cx w args[i] (args'.getD i undef)) (cs : List Frame) : ∃ cx' w' fr,Inv P [] G cx' h' w' ∧ Stp cx h w cx' h' w' ∧
   Steps P (lone (Frame.enter P f args' .normal) cs w) (lone fr cs w') ∧ fr.fn = f ∧
   ((ex = .nrm ∧ ∃ v',VRel cx' w' v v' ∧ fr.leaving P w' (.returned v')) ∨ ∃ v0,ex = .pan v0 ∧ ∃ v',VRel cx' w' v0 v' ∧ fr.leaving P w' (.panicked [{ v := v',recovered := false }])) := by
 obtain ⟨fn',ex1,fr1,h1,q,p1,h2,e1,e2,e3,e4,e5⟩ := callIn_eq hc
 obtain ⟨fn,mu,extra,hfn,hcf⟩ := hE.fn _ _ e1
 obtain ⟨c,hbody,hname,hnt,hres,hbd,hok⟩ := cF_some hcf
 rw [hbd,hnt] at e2
 obtain ⟨cx1,w1,cs1,frX,I1,S1,C1,st1,x1,x2,x3,T1,D1,M1⟩ := body_sound (kd := .normal) (cs := cs) hS hfn hbody e2 e3 I hl ha (fun fr hk => tryRecover_normal hk cs)
 have hcs : cs1 = cs := by
  rcases C1 with ⟨_,e⟩ | ⟨v,_,_,_,_,e,_⟩
  ·exact e
  ·cases e
 subst hcs
 obtain ⟨cx2,w2,u,I2,S2,X2,M2,st2⟩ := defs_steps hE hS rfl _ _ cx1 h1 w1 _ _ _ D1 e4 I1 S1 frX cs1 M1 rfl
 rcases e5 with ⟨rfl,v2,hv2,hr⟩ | ⟨v2,rfl,hr⟩
 ·cases hr
  have hu : u = .returning := M2
  subst hu
  rw [hres] at hv2
  obtain ⟨v',r1,r2⟩ := results_rel I2 hE.glob (T1.ext X2) hok hv2
  exact ⟨cx2,w2,_,I2,S2,st1.trans st2,x1,.inl ⟨rfl,v',r2,rfl,rfl,x2,fn,by show P.funcs[frX.fn]? = _; rw [x1]; exact hfn,r1⟩⟩
 ·cases hr
  obtain ⟨v',hu,hv⟩ := M2
  subst hu
  exact ⟨cx2,w2,_,I2,S2,st1.trans st2,x1,.inr ⟨v2,rfl,v',hv,rfl,rfl,fn,by show P.funcs[frX.fn]? = _; rw [x1]; exact hfn⟩⟩
end
end Go.Abs

namespace Go.Abs
section
variable {P : Program} {G : Nat → List DV} {E : Env} {runC : AC → Fr → Heap → Res}

theorem putP_rel {cx : Cx} {w : World} : ∀ (ps : List Nat) (args : List AV) (args' : List Value) (tm tm' : List AV) (tmps : Array Value),putP ps args tm = some tm' → args'.length = args.length → (∀ i (hi : i < args.length),VRel cx w args[i] (args'.getD i undef)) →
    TRel cx w tm tmps → ps.length = args.length ∧ TRel cx w tm' ((ps.zip args').foldl (fun t (x : Nat × Value) => t.setIfInBounds x.1 x.2) tmps) := by
  intro ps
  induction ps with
  | nil =>
    intro args args' tm tm' tmps h hl ha ht
    cases args with
    | nil => cases h; exact ⟨rfl,by simpa using ht⟩
    | cons a r => cases h
  | cons p ps ih =>
    intro args args' tm tm' tmps h hl ha ht
    cases args with
    | nil => cases h
    | cons a r =>
      cases args' with
      | nil => simp at hl
      | cons v r' =>
        have h0 := ha 0 (by simp)
        obtain ⟨e1,e2⟩ := ih r r' _ tm' _ h (by simpa using hl) (fun i hi => by
          have h2 : r'.getD i undef = (v :: r').getD (i + 1) undef := by simp [List.getD]
          rw [h2]; exact ha (i + 1) (by simpa using hi)) (ht.set p h0)
        exact ⟨by simp [e1],by simpa using e2⟩

theorem zip_foldl (ps : Array Nat) (args : Array Value) (tmps : Array Value) : (ps.zip args).foldl (fun tmps (t,a) => tmps.setIfInBounds t a) tmps = (ps.toList.zip args.toList).foldl (fun t (x : Nat × Value) => t.setIfInBounds x.1 x.2) tmps := by
 rw [← Array.foldl_toList]
 simp

theorem round_sound (_hE : EOk P G E) (hS : Snd P G runC) : RoundSnd P G runC := by
  intro l args h ex v h' hr cx w args' I hl ha c L hrho hL
  unfold round at hr
  split at hr
  · rename_i pd f tmps ps asg body hg
    split at hr
    · rename_i tm htm
      obtain ⟨c2,L2,k1,k2,k3,k4,k5,k6,k7,kf,mu',nm,kc1,kc2,kp1,kp2⟩ := I.heap l _ hg
      rw [hrho] at k1; cases k1
      rw [hL] at k2; cases k2
      have hT : TRel cx w tmps L.tmps := ⟨k6,fun t => by
        rw [getL_eq]
        by_cases ht : t < tmps.length
        · have e1 : tmps.getD t AV.und = tmps[t] := by simp [List.getD,ht]
          rw [e1]; exact k7 t ht
        · have e1 : tmps.getD t AV.und = .und := by simp [List.getD,ht]
          have e2 : L.tmps.getD t undef = undef := by simp [Array.getD_eq_getD_getElem?,show ¬ t < L.tmps.size by omega]
          rw [e1,e2]; exact .und⟩
      obtain ⟨pl,hT2⟩ := putP_rel ps args args'.toList tmps tm L.tmps htm (by simpa using hl) (fun i hi => by
        have := ha i hi
        simpa [Array.getD_eq_getD_getElem?,List.getD] using this) hT
      have hsz : args'.size = L.params.size := by
        have : L.params.toList.length = ps.length := by rw [k5]
        simp at this; omega
      refine ⟨hsz,fun fr0 cs => ?_⟩
      have hzip : (L.params.zip args').foldl (fun tmps (t,a) => tmps.setIfInBounds t a) L.tmps = (ps.zip args'.toList).foldl (fun t (x : Nat × Value) => t.setIfInBounds x.1 x.2) L.tmps := by
        rw [zip_foldl,k5]
      rw [← hzip] at hT2
      generalize (L.params.zip args').foldl (fun tmps (t,a) => tmps.setIfInBounds t a) L.tmps = tmps' at hT2 ⊢
      let b : Frame := { (default : Frame) with fn := L.fn,kind := .normal,roundOf := some c }
      have hround : Frame.round c L.fn tmps' L.assign L.body .normal = b.atR ⟨tmps',[]⟩ [.code L.assign,.beginRound,.code L.body] := rfl
      rw [hround]
      have hcs : ∀ {pan : Option AV} {cs1 : List Frame},CsRel none (fr0 :: cs) pan cs1 → pan = none ∧ cs1 = fr0 :: cs := by
        intro pan cs1 hc
        rcases hc with ⟨e1,e2⟩ | ⟨v,_,_,_,_,e,_⟩
        · exact ⟨e1,e2⟩
        · cases e
      have hPR : ∀ {cx : Cx} {w : World},PRel cx w b (fr0 :: cs) none := fun fr hk => tryRecover_normal hk _
      have F0 : FRel cx h w w.heap.size ⟨tm,[],none⟩ ⟨tmps',[]⟩ := ⟨hT2,.nil,Nat.le_refl _⟩
      unfold roundIn at hr
      split at hr
      · rename_i fr1 h1 hasg
        rw [← kc1] at hasg
        obtain ⟨⟨cx1,w1,a1,cs1,I1,S1,F1,C1,A1⟩,-⟩ := hS mu' nm L.assign _ _ _ _ _ hasg cx w ⟨tmps',[]⟩ w.heap.size b [.beginRound,.code L.body] (fr0 :: cs) I F0 hPR (fun _ => kp1) (fun l0 hl0 => by cases hl0; exact ⟨L,hL⟩) kf
        obtain ⟨hp1,rfl⟩ := hcs C1
        split at hr
        · rename_i pd1 f1 tm1 ps1 asg1 body1 hg1
          obtain ⟨c1,L1,j1,j2,j3,j4,j5,j6,j7,j8⟩ := I1.heap l _ hg1
          have hrho1 := S1.ext.ρ _ _ hrho
          rw [hrho1] at j1; cases j1
          have hbegin := stepR_beginRound (P := P) (b := b) (a := a1) (k := [.code L.body]) (cs := fr0 :: cs) (w := w1) rfl (run_beginRound (P := P) j2 j3)
          obtain ⟨I2,S2⟩ := I1.loopSet (L' := { L1 with state := .busy }) (st' := .busy) (pd' := pd1) hg1 hrho1 j2 rfl j4 rfl rfl rfl rfl rfl
          have S12 := S1.trans S2
          have F2 := F1.stp S2
          cases hbody : runC body fr1 (h1.set l (.loop .busy pd1 f1 tm1 ps1 asg1 body1)) with
          | none => rw [hbody] at hr; cases hr
          | some res =>
            obtain ⟨ex2,fr2,h2⟩ := res
            rw [hbody] at hr
            rw [← kc2] at hbody
            have Pr2 : PRel cx1 (w1.putObj c (.loop { L1 with state := .busy })) b (fr0 :: cs) fr1.pan := by rw [hp1]; exact hPR
            obtain ⟨⟨cx3,w3,a3,cs3,I3,S3,F3,C3,A3⟩,-⟩ := hS mu' nm L.body _ _ _ _ _ hbody cx1 _ a1 w.heap.size b [] (fr0 :: cs) I2 F2 Pr2 (fun _ => kp2)
              (fun l0 hl0 => by cases hl0; exact ⟨_,World.putObj_heap_same (Array.getElem?_eq_some_iff.1 j2).1⟩) kf
            rw [hp1] at C3
            obtain ⟨hp3,rfl⟩ := hcs C3
            have S13 := S12.trans S3
            have hrho3 := S3.ext.ρ _ _ hrho1
            have pre : Steps P (lone (b.atR ⟨tmps',[]⟩ [.code L.assign,.beginRound,.code L.body]) (fr0 :: cs) w) (lone (b.atR a1 [.code L.body]) (fr0 :: cs) (w1.putObj c (.loop { L1 with state := .busy }))) :=
              Steps.trans A1 (.one hbegin)
            have fin : ∀ (pd' : Pend) (st' : LSt) (jump : Option Code),pd'.of = jump → st'.of = (if jump.isNone then .ready else .done) → ∀ st4 pd4 f4 tm4 ps4 asg4 body4,h2.get l = some (.loop st4 pd4 f4 tm4 ps4 asg4 body4) →
                ∃ w4,(Instr.endRound c jump).run P w3 = .ok (.bool jump.isNone) w4 ∧ Inv P [] G cx3 (h2.set l (.loop st' pd' f4 tm4 ps4 asg4 body4)) w4 ∧ Stp cx h w cx3 (h2.set l (.loop st' pd' f4 tm4 ps4 asg4 body4)) w4 := by
              intro pd' st' jump hpd hst st4 pd4 f4 tm4 ps4 asg4 body4 hg4
              obtain ⟨c4,L4,i1,i2,_⟩ := I3.heap l _ hg4
              rw [hrho3] at i1; cases i1
              obtain ⟨q1,q2⟩ := I3.loopSet (L' := { L4 with state := if jump.isNone then .ready else .done,pending := jump }) (st' := st') (pd' := pd') hg4 hrho3 i2 hst.symm hpd.symm rfl rfl rfl rfl rfl
              exact ⟨_,run_endRound jump i2,q1,S13.trans q2⟩
            simp only [endRound] at hr
            split at hr
            · rename_i hds
              split at hr
              · -- a panic
                rename_i v0
                cases hr
                obtain ⟨todo,v',hv,hst⟩ := A3
                have D3 := F3.defs
                rw [hds] at D3
                obtain ⟨w4,I4,S4,X4,st4⟩ := marks_steps (cx0 := cx) (h0 := h) (w0 := w) rfl _ cx3 _ w3 D3 I3 S13 { b.atR a3 todo with mode := .panicking [{ v := v',recovered := false }] } (fr0 :: cs) (by simp) rfl
                obtain ⟨fnn,hfnn⟩ := Option.isSome_iff_exists.1 kf
                have hleave := step_leave_panicked (P := P) (c := fr0) (cs := cs) (w := w4) (fr := { { b.atR a3 todo with mode := .panicking [{ v := v',recovered := false }] } with defers := [] }) (chain := [{ v := v',recovered := false }]) ⟨rfl,rfl,fnn,hfnn⟩
                exact ⟨cx3,w4,I4,S4,.inr ⟨v0,rfl,v',hv.ext X4,pre.trans (hst.trans (st4.trans (.one hleave)))⟩⟩
              · split at hr
                · rename_i hg4
                  cases hr
                  obtain ⟨w4,r4,I4,S4⟩ := fin .none .ready none rfl rfl _ _ _ _ _ _ _ hg4
                  exact ⟨cx3,w4,I4,S4,.inl ⟨rfl,_,.d _ _ (.b true),pre.trans (Steps.trans A3 (.one (stepR_round_end rfl rfl r4)))⟩⟩
                · cases hr
              · split at hr
                · rename_i hg4
                  cases hr
                  obtain ⟨w4,r4,I4,S4⟩ := fin .ret .done (some .ret) rfl rfl _ _ _ _ _ _ _ hg4
                  obtain ⟨k1,hst⟩ := A3.2 rfl
                  exact ⟨cx3,w4,I4,S4,.inl ⟨rfl,_,.d _ _ (.b false),pre.trans (hst.trans (.one (stepR_round_ret rfl rfl r4)))⟩⟩
                · cases hr
              · rename_i id
                split at hr
                · rename_i hg4
                  cases hr
                  obtain ⟨w4,r4,I4,S4⟩ := fin (.exit id) .done (some (.exit id)) rfl rfl _ _ _ _ _ _ _ hg4
                  obtain ⟨k1,hk1,hst⟩ := A3.2 rfl rfl
                  exact ⟨cx3,w4,I4,S4,.inl ⟨rfl,_,.d _ _ (.b false),pre.trans (hst.trans (.one (stepR_round_exit rfl rfl hk1 r4)))⟩⟩
                · cases hr
            · cases hr
        · cases hr
      · cases hr
    · cases hr
  · cases hr
end
end Go.Abs

namespace Go.Abs
section
variable {P : Program} {G : Nat → List DV}

def RdOk (cx : Cx) (w : World) (F' : Bool → Nat → Nat → Prop) (rd : Nat → Nat → Nat → Option (List DV)) : Prop :=
 ∀ (b off n : Nat) (ds : List DV),rd b off n = some ds → ds.length = n ∧ ∀ c base,cx.ρ b = some (c,base) → ∀ i (hi : i < ds.length),∃ v,w.cell? ⟨c,base + off + i,none⟩ = some v ∧ DRel w F' ds[i] v

mutual
theorem borrowW_rel {cx : Cx} {w : World} {F' : Bool → Nat → Nat → Prop} (hF : ∀ b c o,cx.F b c o → F' b c o) (hB : ∀ c o,(w.cell? ⟨c,o,none⟩).isSome = true → F' true c o) {rd : Nat → Nat → Nat → Option (List DV)} (hrd : RdOk cx w F' rd) {a : AV} {d : DV} {x : Bool} {v : Value}
  (hs : borrowW rd a = some (d,x)) (hv : VRel cx w a v) : DRel w F' d v := by
 cases a with
 | d y => simp only [borrowW,Option.some.injEq,Prod.mk.injEq] at hs; obtain ⟨rfl,rfl⟩ := hs; cases hv with | d _ _ hd => exact hd.mono hF (fun _ _ _ _ => rfl)
 | nilsl => simp only [borrowW,Option.some.injEq,Prod.mk.injEq] at hs; obtain ⟨rfl,rfl⟩ := hs; cases hv; exact .nsl
 | app t g n cs => simp only [borrowW,Option.some.injEq,Prod.mk.injEq] at hs; obtain ⟨rfl,rfl⟩ := hs; cases hv with | app _ _ _ _ _ hd => exact hd.mono hF (fun _ _ _ _ => rfl)
 | full b n cs => simp only [borrowW,Option.some.injEq,Prod.mk.injEq] at hs; obtain ⟨rfl,rfl⟩ := hs; cases hv with | full _ _ _ a hd => exact hd.mono hF (fun _ _ _ _ => rfl)
 | sref b off sz n m ex =>
  simp only [borrowW] at hs
  split at hs
  ·rename_i ds hr
   simp only [Option.some.injEq,Prod.mk.injEq] at hs
   obtain ⟨rfl,rfl⟩ := hs
   obtain ⟨hl,hc⟩ := hrd _ _ _ _ hr
   cases hv with
   | sref _ _ _ _ _ _ c' base' cap a' hr' hn hm hex ha =>
    have hc := hc c' base' hr'
    rcases Nat.eq_zero_or_pos n with e0 | e0
    ·subst e0
     have : ds = [] := List.eq_nil_of_length_eq_zero (by rw [hl]; simp)
     subst this
     exact .sl0 _ _ _
    ·have ea : a' = some ⟨c',base' + off,none⟩ := by
      rcases ha with e1 | ⟨e1,_⟩
      ·exact e1
      ·omega
     subst ea
     exact .sl true n ds c' (base' + off) cap (fun i => (w.cell? ⟨c',base' + off + i,none⟩).getD undef) e0 (by omega)
      (fun i hi => by
       obtain ⟨v,v1,_⟩ := hc i hi
       exact ⟨by rw [v1]; rfl,hB _ _ (by rw [v1]; rfl)⟩)
      (fun i hi => by
       obtain ⟨v,v1,v3⟩ := hc i hi
       rw [v1]; exact v3)
  ·cases hs
 | agg cs =>
  simp only [borrowW] at hs
  split at hs
  ·rename_i l y hf
   simp only [Option.some.injEq,Prod.mk.injEq] at hs
   obtain ⟨rfl,rfl⟩ := hs
   cases hv with
   | agg _ cs' hc h2 =>
    obtain ⟨hl,hr⟩ := borrowWL_rel hF hB hrd hf (g := fun i => cs'.getD i undef) h2
    exact .agg _ _ (by rw [hc,hl]) hr
  ·cases hs
 | ifc t a =>
  simp only [borrowW] at hs
  split at hs
  ·rename_i l y hf
   simp only [Option.some.injEq,Prod.mk.injEq] at hs
   obtain ⟨rfl,rfl⟩ := hs
   cases hv with
   | ifc _ _ v' hv' => exact .ifc _ _ _ (borrowW_rel hF hB hrd hf hv')
  ·cases hs
 | fn g fs cs =>
  simp only [borrowW] at hs
  split at hs
  ·rename_i hok
   split at hs
   ·rename_i l1 h1 hf1
    split at hs
    ·rename_i l2 h2 hf2
     simp only [Option.some.injEq,Prod.mk.injEq] at hs
     obtain ⟨rfl,rfl⟩ := hs
     cases hv with
     | fn _ _ _ fs' cs' e1 e2 r1 r2 =>
      obtain ⟨hl1,hr1⟩ := borrowWL_rel hF hB hrd hf1 (g := fun i => fs'.getD i undef) r1
      obtain ⟨hl2,hr2⟩ := borrowWL_rel hF hB hrd hf2 (g := fun i => cs'.getD i undef) r2
      exact .fn _ _ _ _ _ (by rw [e1,hl1]) (by rw [e2,hl2]) hr1 hr2
     | yld l c base h => simp [okFn] at hok
    ·cases hs
   ·cases hs
  ·cases hs
 | ptr _ _ => simp [borrowW] at hs
 | glob _ _ => simp [borrowW] at hs
 | tptr _ _ _ _ => simp [borrowW] at hs
 | tup _ => simp [borrowW] at hs
 | mapr _ => simp [borrowW] at hs
 | itr _ => simp [borrowW] at hs
 | und => simp [borrowW] at hs
theorem borrowWL_rel {cx : Cx} {w : World} {F' : Bool → Nat → Nat → Prop} (hF : ∀ b c o,cx.F b c o → F' b c o) (hB : ∀ c o,(w.cell? ⟨c,o,none⟩).isSome = true → F' true c o) {rd : Nat → Nat → Nat → Option (List DV)} (hrd : RdOk cx w F' rd) {l : List AV} {ds : List DV} {x : Bool}
  (hs : borrowWL rd l = some (ds,x)) {g : Nat → Value} (hv : ∀ i (hi : i < l.length),VRel cx w l[i] (g i)) : l.length = ds.length ∧ ∀ i (hi : i < ds.length),DRel w F' ds[i] (g i) := by
 cases l with
 | nil => simp only [borrowWL,Option.some.injEq,Prod.mk.injEq] at hs; obtain ⟨rfl,rfl⟩ := hs; exact ⟨rfl,fun i hi => absurd hi (by simp)⟩
 | cons a r =>
  simp only [borrowWL] at hs
  split at hs
  ·rename_i d y hf1
   split at hs
   ·rename_i l2 z hf2
    simp only [Option.some.injEq,Prod.mk.injEq] at hs
    obtain ⟨rfl,rfl⟩ := hs
    have hr1 := borrowW_rel hF hB hrd hf1 (hv 0 (by simp))
    obtain ⟨hl2,hr2⟩ := borrowWL_rel hF hB hrd hf2 (g := fun i => g (i + 1)) (fun i hi => hv (i + 1) (by simpa using hi))
    refine ⟨by simp [hl2],fun i hi => ?_⟩
    cases i with
    | zero => exact hr1
    | succ i => exact hr2 i (by simpa using hi)
   ·cases hs
  ·cases hs
end

mutual
theorem borrowW_none {cx : Cx} {w : World} {rd : Nat → Nat → Nat → Option (List DV)} {a : AV} {d : DV} {v : Value} (hs : borrowW rd a = some (d,false)) (hv : VRel cx w a v) : DRel w cx.F d v := by
 cases a with
 | d y => simp only [borrowW,Option.some.injEq,Prod.mk.injEq] at hs; obtain ⟨rfl,_⟩ := hs; cases hv with | d _ _ hd => exact hd
 | nilsl => simp only [borrowW,Option.some.injEq,Prod.mk.injEq] at hs; obtain ⟨rfl,_⟩ := hs; cases hv; exact .nsl
 | app t g n cs => simp only [borrowW,Option.some.injEq,Prod.mk.injEq] at hs; obtain ⟨rfl,_⟩ := hs; cases hv with | app _ _ _ _ _ hd => exact hd
 | full b n cs => simp only [borrowW,Option.some.injEq,Prod.mk.injEq] at hs; obtain ⟨rfl,_⟩ := hs; cases hv with | full _ _ _ a hd => exact hd
 | sref b off sz n m ex =>
  simp only [borrowW] at hs
  split at hs
  ·simp at hs
  ·cases hs
 | agg cs =>
  simp only [borrowW] at hs
  split at hs
  ·rename_i l y hf
   simp only [Option.some.injEq,Prod.mk.injEq] at hs
   obtain ⟨rfl,rfl⟩ := hs
   cases hv with
   | agg _ cs' hc h2 =>
    obtain ⟨hl,hr⟩ := borrowWL_none hf (g := fun i => cs'.getD i undef) h2
    exact .agg _ _ (by rw [hc,hl]) hr
  ·cases hs
 | ifc t a =>
  simp only [borrowW] at hs
  split at hs
  ·rename_i l y hf
   simp only [Option.some.injEq,Prod.mk.injEq] at hs
   obtain ⟨rfl,rfl⟩ := hs
   cases hv with
   | ifc _ _ v' hv' => exact .ifc _ _ _ (borrowW_none hf hv')
  ·cases hs
 | fn g fs cs =>
  simp only [borrowW] at hs
  split at hs
  ·rename_i hok
   split at hs
   ·rename_i l1 h1 hf1
    split at hs
    ·rename_i l2 h2 hf2
     simp only [Option.some.injEq,Prod.mk.injEq,Bool.or_eq_false_iff] at hs
     obtain ⟨rfl,rfl,rfl⟩ := hs
     cases hv with
     | fn _ _ _ fs' cs' e1 e2 r1 r2 =>
      obtain ⟨hl1,hr1⟩ := borrowWL_none hf1 (g := fun i => fs'.getD i undef) r1
      obtain ⟨hl2,hr2⟩ := borrowWL_none hf2 (g := fun i => cs'.getD i undef) r2
      exact .fn _ _ _ _ _ (by rw [e1,hl1]) (by rw [e2,hl2]) hr1 hr2
     | yld l c base h => simp [okFn] at hok
    ·cases hs
   ·cases hs
  ·cases hs
 | ptr _ _ => simp [borrowW] at hs
 | glob _ _ => simp [borrowW] at hs
 | tptr _ _ _ _ => simp [borrowW] at hs
 | tup _ => simp [borrowW] at hs
 | mapr _ => simp [borrowW] at hs
 | itr _ => simp [borrowW] at hs
 | und => simp [borrowW] at hs
theorem borrowWL_none {cx : Cx} {w : World} {rd : Nat → Nat → Nat → Option (List DV)} {l : List AV} {ds : List DV} (hs : borrowWL rd l = some (ds,false)) {g : Nat → Value} (hv : ∀ i (hi : i < l.length),VRel cx w l[i] (g i)) :
  l.length = ds.length ∧ ∀ i (hi : i < ds.length),DRel w cx.F ds[i] (g i) := by
 cases l with
 | nil => simp only [borrowWL,Option.some.injEq,Prod.mk.injEq] at hs; obtain ⟨rfl,_⟩ := hs; exact ⟨rfl,fun i hi => absurd hi (by simp)⟩
 | cons a r =>
  simp only [borrowWL] at hs
  split at hs
  ·rename_i d y hf1
   split at hs
   ·rename_i l2 z hf2
    simp only [Option.some.injEq,Prod.mk.injEq,Bool.or_eq_false_iff] at hs
    obtain ⟨rfl,rfl,rfl⟩ := hs
    have hr1 := borrowW_none hf1 (hv 0 (by simp))
    obtain ⟨hl2,hr2⟩ := borrowWL_none hf2 (g := fun i => g (i + 1)) (fun i hi => hv (i + 1) (by simpa using hi))
    refine ⟨by simp [hl2],fun i hi => ?_⟩
    cases i with
    | zero => exact hr1
    | succ i => exact hr2 i (by simpa using hi)
   ·cases hs
  ·cases hs
end

theorem norm_rel {w : World} {F : Bool → Nat → Nat → Prop} {d : DV} {v : Value} (h : DRel w F d v) : DRel w F (norm d) v := by
 cases d <;> first | exact h | (cases h; exact .sl0 _ _ _)

theorem rdBlk_ok {cx : Cx} {h : Heap} {w : World} (I : Inv P [] G cx h w) {F' : Bool → Nat → Nat → Prop} (hF : ∀ b c o,cx.F b c o → F' b c o) (hB : ∀ c o,(w.cell? ⟨c,o,none⟩).isSome = true → F' true c o) {rd : Nat → Nat → Nat → Option (List DV)} (hrd : RdOk cx w F' rd) : RdOk cx w F' (rdBlk rd h) := by
 intro b off n ds hs
 unfold rdBlk at hs
 split at hs
 ·rename_i fr e cs hb
  split at hs
  ·rename_i l hl
   split at hs
   ·rename_i ds' x hw
    cases hs
    obtain ⟨r1,r2,r3,r4⟩ := readN_some hl
    have hlen : l.length = ds'.length := by
     have := borrowWL_rel (cx := cx) (w := w) (F' := F') hF hB hrd hw (g := fun i => (w.cell? ⟨0,i,none⟩).getD undef)
     -- lengths alone
     clear this
     have gen : ∀ (l : List AV) (ds : List DV) (x : Bool),borrowWL rd l = some (ds,x) → l.length = ds.length := by
      intro l
      induction l with
      | nil => intro ds x h; simp only [borrowWL,Option.some.injEq,Prod.mk.injEq] at h; obtain ⟨rfl,_⟩ := h; rfl
      | cons a r ih =>
       intro ds x h
       simp only [borrowWL] at h
       split at h
       ·split at h
        ·rename_i q1 q2
         simp only [Option.some.injEq,Prod.mk.injEq] at h
         obtain ⟨rfl,_⟩ := h
         simp [ih _ _ q2]
        ·cases h
       ·cases h
     exact gen _ _ _ hw
    refine ⟨by rw [List.length_map,← hlen,r3],fun c base hr i hi => ?_⟩
    obtain ⟨c',base',hr',_,hcell⟩ := I.heap b _ hb
    rw [hr] at hr'; cases hr'
    obtain ⟨_,hd⟩ := borrowWL_rel hF hB hrd hw (g := fun i => (w.cell? ⟨c,base + off + i,none⟩).getD undef) (fun i hi => by
     obtain ⟨v,v1,v2,_⟩ := hcell (off + i) (by omega)
     rw [r4 i hi (by omega),Nat.add_assoc,v1]; exact v2)
    have hi' : i < ds'.length := by simpa using hi
    obtain ⟨v,v1,_⟩ := hcell (off + i) (by omega)
    refine ⟨v,by rw [Nat.add_assoc]; exact v1,?_⟩
    have := hd i hi'
    rw [Nat.add_assoc,v1] at this
    rw [List.getElem_map]
    exact norm_rel this
   ·cases hs
  ·cases hs
 ·cases hs

theorem rd3_ok {cx : Cx} {h : Heap} {w : World} (I : Inv P [] G cx h w) {F' : Bool → Nat → Nat → Prop} (hF : ∀ b c o,cx.F b c o → F' b c o) (hB : ∀ c o,(w.cell? ⟨c,o,none⟩).isSome = true → F' true c o) : RdOk cx w F' (rd3 h) :=
 rdBlk_ok I hF hB (rdBlk_ok I hF hB (rdBlk_ok I hF hB (fun _ _ _ _ hs => by cases hs)))

theorem borrow_rel {cx : Cx} {h : Heap} {w : World} (I : Inv P [] G cx h w) {F' : Bool → Nat → Nat → Prop} (hF : ∀ b c o,cx.F b c o → F' b c o) {a : AV} {d : DV} {x : Bool} {v : Value} (hB : x = true → ∀ c o,(w.cell? ⟨c,o,none⟩).isSome = true → F' true c o)
  (hs : borrow h a = some (d,x)) (hv : VRel cx w a v) : DRel w F' d v := by
 unfold borrow at hs
 have gen : borrowW (rd3 h) a = some (d,x) → DRel w F' d v := by
  intro hs
  cases x with
  | true => exact borrowW_rel hF (hB rfl) (rd3_ok I hF (hB rfl)) hs hv
  | false => exact (borrowW_none hs hv).mono hF (fun _ _ _ _ => rfl)
 split at hs
 ·exact gen hs
 ·exact gen hs
 ·exact gen hs
 ·exact gen hs
 ·cases hs
 ·exact gen hs

theorem stripArgs_cons (h : Heap) (a : AV) (r : List AV) : stripArgs h (a :: r) = match borrow h a with
  | some (d,x) => match stripArgs h r with
   | some (l,y) => some (d :: l,x || y)
   | none => none
  | none => none := rfl

theorem stripArgs_rel {cx : Cx} {h : Heap} {w : World} (I : Inv P [] G cx h w) {F' : Bool → Nat → Nat → Prop} (hF : ∀ b c o,cx.F b c o → F' b c o) : ∀ {l : List AV} {ds : List DV} {x : Bool},(x = true → ∀ c o,(w.cell? ⟨c,o,none⟩).isSome = true → F' true c o) →
  stripArgs h l = some (ds,x) → ∀ {g : Nat → Value},(∀ i (hi : i < l.length),VRel cx w l[i] (g i)) → l.length = ds.length ∧ ∀ i (hi : i < ds.length),DRel w F' ds[i] (g i) := by
 intro l
 induction l with
 | nil => intro ds x _ hs g hv; cases hs; exact ⟨rfl,fun i hi => absurd hi (by simp)⟩
 | cons a r ih =>
  intro ds x hB hs g hv
  rw [stripArgs_cons] at hs
  split at hs
  ·rename_i d y h1
   split at hs
   ·rename_i l2 z h2
    cases hs
    have hr1 := borrow_rel I hF (fun e => hB (by simp [e])) h1 (hv 0 (by simp))
    obtain ⟨hl2,hr2⟩ := ih (fun e => hB (by simp [e])) h2 (g := fun i => g (i + 1)) (fun i hi => hv (i + 1) (by simpa using hi))
    refine ⟨by simp [hl2],fun i hi => ?_⟩
    cases i with
    | zero => exact hr1
    | succ i => exact hr2 i (by simpa using hi)
   ·cases hs
  ·cases hs

def Cx.own (cx : Cx) (B : Nat → Nat → Prop) : Cx := { ρ := fun _ => none,K := fun _ => none,Z := cx.Z,B := B }

theorem Owns.empty {cx : Cx} {b c : Nat} (ho : Owns cx Heap.empty b c) : False := by
 cases ho with
 | blk x base hb _ _ _ => simp at hb
 | tok g e κ base hb _ _ => simp at hb

theorem Inv.own {cx : Cx} {h : Heap} {w : World} (I : Inv P [] G cx h w) {B : Nat → Nat → Prop} (h1 : ∀ c o,cx.B c o → B c o) (h2 : ∀ c o,B c o → (w.cell? ⟨c,o,none⟩).isSome = true) : Inv P [] G (cx.own B) .empty w := by
 refine ⟨fun b x hb => by simp at hb,?_,fun g i hi => ?_⟩
 ·exact {
   inj := fun b1 b2 c o1 _ => o1.empty.elim
   nof := fun b c ho _ => ho.empty.elim
   tokf := fun t g e κ c base hb => by simp at hb
   base0 := fun b c base hr => by cases hr
   lt := fun b c base hr => by cases hr
   ltK := fun t κ c base hk => by cases hk
   new := fun b _ => ⟨rfl,rfl⟩
   zc := fun c o z => z.elim (fun z => I.sep.zc c o (.inl z)) (fun z => h2 c o z) }
 ·obtain ⟨v,v1,v2,v3⟩ := I.glob g i hi
  exact ⟨v,v1,v2,v3.d.mono (fun b c o hf => hf.imp id (fun ⟨e,z⟩ => ⟨e,h1 c o z⟩)) (fun _ _ _ _ => rfl),v3.a⟩

theorem Inv.back {cx cx1 : Cx} {h h1 : Heap} {w w1 : World} {B : Nat → Nat → Prop} (I : Inv P [] G cx h w) (I1 : Inv P [] G cx1 h1 w1) (S : Stp (cx.own B) .empty w cx1 h1 w1) :
  Inv P [] G { cx with Z := cx1.Z } h w1 ∧ Stp cx h w { cx with Z := cx1.Z } h w1 ∧ (∀ b c,Owns cx1 h1 b c → w.heap.size ≤ c) ∧ (∀ c o,cx1.Z c o → cx.Z c o ∨ w.heap.size ≤ c) := by
 have hk : ∀ c : Nat,c < w.heap.size → w1.heap[c]? = w.heap[c]? := fun c hc => S.fr.kept c hc (fun b ho => ho.empty)
 have hown : ∀ b c,Owns cx1 h1 b c → w.heap.size ≤ c := by
  intro b c ho
  rcases Nat.lt_or_ge c w.heap.size with hc | hc
  ·obtain ⟨b',hb'⟩ := S.fr.owns b c ho hc
   exact hb'.empty.elim
  ·exact hc
 have hz : ∀ c o,cx1.Z c o → cx.Z c o ∨ w.heap.size ≤ c := by
  intro c o z
  rcases S.fr.z c o z with z | z | ⟨b,hb⟩
  ·exact .inl z
  ·exact .inr z
  ·exact hb.empty.elim
 have hz2 : ∀ c o,cx.Z c o → cx1.Z c o := fun c o z => S.ext.Z c o z
 have ext : Ext cx w { cx with Z := cx1.Z } w1 := {
  size := S.ext.size
  ρ := fun _ _ h => h
  K := fun _ κ h => ⟨κ,h,Nat.le_refl _,fun _ => rfl⟩
  Z := hz2
  B := fun _ _ => Iff.rfl
  cell := fun c o z => cell_of_heap (hk c (zlt I z)) o none
  el := fun c arr e fz hh => ⟨arr,fz,by rw [hk c (Array.getElem?_eq_some_iff.1 hh).1]; exact hh,rfl⟩
  lp := fun c L hh => ⟨L,by rw [hk c (Array.getElem?_eq_some_iff.1 hh).1]; exact hh⟩
  io := S.ext.io }
 have ownold : ∀ b c,Owns { cx with Z := cx1.Z } h b c → Owns cx h b c := by
  intro b c ho
  cases ho with
  | blk x base hb ho ht hr => exact .blk x base hb ho ht hr
  | tok g e κ base hb hκ hp => exact .tok g e κ base hb hκ hp
 refine ⟨⟨fun b x hb => ?_,?_,fun g i hi => ?_⟩,⟨ext,⟨fun c hc _ => hk c hc,fun b c ho _ => ⟨b,ownold b c ho⟩,fun c o z => (hz c o z).imp id .inl,Nat.le_refl _,fun _ h => h,fun _ _ => rfl⟩⟩,hown,hz⟩
 ·exact BRel.ext_of ext (fun c base hr _ => hk c (I.sep.lt b c base hr)) (fun κ hκ _ => ⟨hκ,fun c base hpl => hk c (I.sep.ltK b κ c base hκ hpl)⟩) (I.heap b x hb)
 ·exact {
   inj := fun b1 b2 c o1 o2 => I.sep.inj b1 b2 c (ownold _ _ o1) (ownold _ _ o2)
   nof := fun b c ho hn o => by
    have := I.sep.nof b c (ownold b c ho) hn o
    refine ⟨fun z => ?_,this.2⟩
    rcases hz c o z with z | z
    ·exact this.1 z
    ·have := Owns.lt I (ownold b c ho); omega
   tokf := fun t g e κ c base hb hκ hpl o z => by
    rcases z with z | z
    ·rcases hz c o z with z | z
     ·exact I.sep.tokf t g e κ c base hb hκ hpl o (.inl z)
     ·have := I.sep.ltK t κ c base hκ hpl; omega
    ·exact I.sep.tokf t g e κ c base hb hκ hpl o (.inr z)
   base0 := I.sep.base0
   lt := fun b c base hr => Nat.lt_of_lt_of_le (I.sep.lt b c base hr) S.ext.size
   ltK := fun b κ c base hr hpl => Nat.lt_of_lt_of_le (I.sep.ltK b κ c base hr hpl) S.ext.size
   new := I.sep.new
   zc := fun c o z => by
    rcases z with z | z
    ·exact I1.sep.zc c o (.inl z)
    ·rw [cell_of_heap (hk c (zlt I (.inr z)))]; exact I.sep.zc c o (.inr z) }
 ·obtain ⟨v,v1,v2,v3⟩ := I.glob g i hi
  exact ⟨v,by rw [cell_of_heap (hk g (zlt I (.inl v2)))]; exact v1,hz2 _ _ v2,v3.ext ext⟩
end
end Go.Abs

namespace Go.Abs
section
variable {P : Program} {G : Nat → List DV}

theorem Inv.take {cx : Cx} {h : Heap} {w : World} (I : Inv P [] G cx h w) (x : Blk) (p : Option (Nat × Nat)) (k : Option Tk) (hp : ∀ c base,p = some (c,base) → c < w.heap.size ∧ base = 0)
  (hown : ∀ c,Owns (cx.add h.n p k) (h.push x) h.n c → (∀ b,¬ Owns cx h b c) ∧ ((∀ g e,x ≠ .tok g e) → ∀ o,¬ cx.Z c o ∧ ¬ cx.B c o))
  (hk : ∀ κ c base,k = some κ → κ.pl = some (c,base) → c < w.heap.size ∧ ∀ o,cx.Z c o ∨ cx.B c o → o < base + κ.n * κ.sz) (hx : BRel P [] (cx.add h.n p k) w h.n x) :
  Inv P [] G (cx.add h.n p k) (h.push x) w ∧ Ext cx w (cx.add h.n p k) w ∧ ∀ b c,Owns (cx.add h.n p k) (h.push x) b c → (b = h.n ∧ Owns (cx.add h.n p k) (h.push x) h.n c) ∨ (b < h.n ∧ Owns cx h b c) := by
 have ext := Ext.addNew I p k
 have ownold : ∀ b c,Owns (cx.add h.n p k) (h.push x) b c → (b = h.n ∧ Owns (cx.add h.n p k) (h.push x) h.n c) ∨ (b < h.n ∧ Owns cx h b c) := by
  intro b c ho
  by_cases e : b = h.n
  ·subst e; exact .inl ⟨rfl,ho⟩
  ·right
   cases ho with
   | blk y base hb ho ht' hr =>
    rw [Heap.get_push,if_neg e] at hb
    rw [Cx.add_ρ,if_neg e] at hr
    exact ⟨Heap.lt_of_get hb,.blk y base hb ho ht' hr⟩
   | tok g e' κ base hb hκ hpl =>
    rw [Heap.get_push,if_neg e] at hb
    rw [Cx.add_K,if_neg e] at hκ
    exact ⟨Heap.lt_of_get hb,.tok g e' κ base hb hκ hpl⟩
 refine ⟨⟨fun b y hb => ?_,?_,fun g i hi => ?_⟩,ext,ownold⟩
 ·rw [Heap.get_push] at hb
  by_cases e : b = h.n
  ·simp only [e,if_true,Option.some.injEq] at hb
   subst hb; subst e; exact hx
  ·simp only [e,if_false] at hb
   refine BRel.ext_of ext (fun c base hr _ => rfl) (fun κ hκ _ => ⟨?_,fun c base hpl => rfl⟩) (I.heap b y hb)
   rw [Cx.add_K]; simp [e,hκ]
 ·exact {
   inj := fun b1 b2 c h1 h2 => by
    rcases ownold b1 c h1 with ⟨e1,c1⟩ | ⟨l1,o1⟩ <;> rcases ownold b2 c h2 with ⟨e2,c2⟩ | ⟨l2,o2⟩
    ·rw [e1,e2]
    ·exact absurd o2 ((hown c c1).1 b2)
    ·exact absurd o1 ((hown c c2).1 b1)
    ·exact I.sep.inj b1 b2 c o1 o2
   nof := fun b c ho hn o => by
    rcases ownold b c ho with ⟨e,c1⟩ | ⟨l,o1⟩
    ·subst e
     exact (hown c c1).2 (fun g e he => hn g e (by rw [Heap.get_push,if_pos rfl,he])) o
    ·refine I.sep.nof b c o1 (fun g e hb => hn g e ?_) o
     rw [Heap.get_push,if_neg (Nat.ne_of_lt l)]; exact hb
   tokf := fun t g e κ c base hb hκ hpl o z => by
    rw [Heap.get_push] at hb
    rw [Cx.add_K] at hκ
    by_cases e' : t = h.n
    ·simp only [e',if_true] at hκ
     exact (hk κ c base hκ hpl).2 o z
    ·simp only [e',if_false] at hb hκ
     exact I.sep.tokf t g e κ c base hb hκ hpl o z
   base0 := fun b c base hr => by
    rw [Cx.add_ρ] at hr
    by_cases e : b = h.n
    ·simp only [e,if_true] at hr; exact (hp c base hr).2
    ·simp only [e,if_false] at hr; exact I.sep.base0 b c base hr
   lt := fun b c base hr => by
    rw [Cx.add_ρ] at hr
    by_cases e : b = h.n
    ·simp only [e,if_true] at hr; exact (hp c base hr).1
    ·simp only [e,if_false] at hr; exact I.sep.lt b c base hr
   ltK := fun b κ c base hr hpl => by
    rw [Cx.add_K] at hr
    by_cases e : b = h.n
    ·simp only [e,if_true] at hr; exact (hk κ c base hr hpl).1
    ·simp only [e,if_false] at hr; exact I.sep.ltK b κ c base hr hpl
   new := fun b hb => by
    simp only [Heap.n_push] at hb
    have e : b ≠ h.n := by omega
    rw [Cx.add_ρ,Cx.add_K]; simp only [e,if_false]
    exact I.sep.new b (by omega)
   zc := I.sep.zc }
 ·obtain ⟨v,v1,v2,v3⟩ := I.glob g i hi
  exact ⟨v,v1,v2,v3.ext ext⟩

theorem Inv.moreZ {cx : Cx} {h : Heap} {w : World} (I : Inv P [] G cx h w) {Z' : Nat → Nat → Prop} (h1 : ∀ c o,cx.Z c o → Z' c o) (h2 : ∀ c o,Z' c o → cx.Z c o ∨ ((w.cell? ⟨c,o,none⟩).isSome = true ∧ ∀ b,¬ Owns cx h b c)) :
  Inv P [] G { cx with Z := Z' } h w ∧ Ext cx w { cx with Z := Z' } w ∧ ∀ b c,Owns { cx with Z := Z' } h b c → Owns cx h b c := by
 have ext : Ext cx w { cx with Z := Z' } w := ⟨Nat.le_refl _,fun _ _ h => h,fun _ κ h => ⟨κ,h,Nat.le_refl _,fun _ => rfl⟩,h1,fun _ _ => Iff.rfl,fun _ _ _ => rfl,fun _ arr _ fz h => ⟨arr,fz,h,rfl⟩,fun _ L h => ⟨L,h⟩,rfl,rfl⟩
 have ownold : ∀ b c,Owns { cx with Z := Z' } h b c → Owns cx h b c := by
  intro b c ho
  cases ho with
  | blk x base hb ho ht hr => exact .blk x base hb ho ht hr
  | tok g e κ base hb hκ hp => exact .tok g e κ base hb hκ hp
 refine ⟨⟨fun b x hb => ?_,?_,fun g i hi => ?_⟩,ext,ownold⟩
 ·exact BRel.ext_of ext (fun c base hr _ => rfl) (fun κ hκ _ => ⟨hκ,fun c base hpl => rfl⟩) (I.heap b x hb)
 ·exact {
   inj := fun b1 b2 c o1 o2 => I.sep.inj b1 b2 c (ownold _ _ o1) (ownold _ _ o2)
   nof := fun b c ho hn o => by
    have := I.sep.nof b c (ownold b c ho) hn o
    refine ⟨fun z => ?_,this.2⟩
    rcases h2 c o z with z | ⟨_,z⟩
    ·exact this.1 z
    ·exact z b (ownold b c ho)
   tokf := fun t g e κ c base hb hκ hpl o z => by
    rcases z with z | z
    ·rcases h2 c o z with z | ⟨_,z⟩
     ·exact I.sep.tokf t g e κ c base hb hκ hpl o (.inl z)
     ·exact absurd (.tok g e κ base hb hκ hpl) (z t)
    ·exact I.sep.tokf t g e κ c base hb hκ hpl o (.inr z)
   base0 := I.sep.base0
   lt := I.sep.lt
   ltK := I.sep.ltK
   new := I.sep.new
   zc := fun c o z => by
    rcases z with z | z
    ·rcases h2 c o z with z | ⟨z,_⟩
     ·exact I.sep.zc c o (.inl z)
     ·exact z
    ·exact I.sep.zc c o (.inr z) }
 ·obtain ⟨v,v1,v2,v3⟩ := I.glob g i hi
  exact ⟨v,v1,h1 _ _ v2,v3.ext ext⟩

theorem cleanL_get : ∀ {l : List DV},cleanL l = true → ∀ i (hi : i < l.length),clean l[i] = true := by
 intro l
 induction l with
 | nil => intro _ i hi; cases hi
 | cons d r ih =>
  intro h i hi
  simp only [cleanL,Bool.and_eq_true] at h
  cases i with
  | zero => exact h.1
  | succ i => exact ih h.2 i (by simpa using hi)

theorem DRel.clean {w : World} {F F' : Bool → Nat → Nat → Prop} (hF : ∀ c o,F false c o → F' false c o) {d : DV} {v : Value} (h : DRel w F d v) : Abs.clean d = true → DRel w F' d v := by
 induction h with
 | b x => intro _; exact .b x
 | i k n => intro _; exact .i k n
 | s x s h => intro _; exact .s x s h
 | nilp => intro _; exact .nilp
 | nilf => intro _; exact .nilf
 | nili => intro _; exact .nili
 | nilm => intro _; exact .nilm
 | nsl => intro _; exact .nsl
 | sl0 b a cap => intro _; exact .sl0 b a cap
 | sl b n cells c o cap vs hn hc h1 _ ih =>
  intro hc'
  simp only [Abs.clean,Bool.and_eq_true,Bool.not_eq_true'] at hc'
  obtain ⟨rfl,hcl⟩ := hc'
  exact .sl false n cells c o cap vs hn hc (fun i hi => ⟨(h1 i hi).1,hF _ _ (h1 i hi).2⟩) (fun i hi => ih i hi (cleanL_get hcl i hi))
 | bx b cells off c o vs h1 _ ih =>
  intro hc'
  simp only [Abs.clean,Bool.and_eq_true,Bool.not_eq_true'] at hc'
  obtain ⟨rfl,hcl⟩ := hc'
  exact .bx false cells off c o vs (fun i hi => ⟨(h1 i hi).1,hF _ _ (h1 i hi).2⟩) (fun i hi => ih i hi (cleanL_get hcl i hi))
 | fn f fs cs fs' cs' hf hc _ _ ih1 ih2 =>
  intro hc'
  simp only [Abs.clean,Bool.and_eq_true] at hc'
  exact .fn f fs cs fs' cs' hf hc (fun i hi => ih1 i hi (cleanL_get hc'.1 i hi)) (fun i hi => ih2 i hi (cleanL_get hc'.2 i hi))
 | ifc t d v _ ih => intro hc'; exact .ifc t d v (ih hc')
 | agg cs cs' hc _ ih => intro hc'; exact .agg cs cs' hc (fun i hi => ih i hi (cleanL_get hc' i hi))

structure Two (P : Program) (G : Nat → List DV) (bor : Bool) (cx1 : Cx) (h1 : Heap) (cx2 : Cx) (h2 : Heap) (w : World) : Prop where
 I1 : Inv P [] G cx1 h1 w
 I2 : Inv P [] G cx2 h2 w
 z : ∀ c o,cx1.Z c o ↔ cx2.Z c o
 dis : ∀ b1 b2 c,Owns cx1 h1 b1 c → ¬ Owns cx2 h2 b2 c
 nb : ∀ b c o,Owns cx1 h1 b c → ¬ cx2.B c o
 bb : bor = true ∨ ∀ c o,cx1.B c o → cx2.B c o

theorem Two.conv {bor : Bool} {cx1 cx2 : Cx} {h1 h2 : Heap} {w : World} (T : Two P G bor cx1 h1 cx2 h2 w) {d : DV} {v : Value} (hc : (bor && !clean d) = false) (h : DRel w cx1.F d v) : DRel w cx2.F d v := by
 cases bor with
 | true =>
  have : clean d = true := by simpa using hc
  exact h.clean (fun c o hf => by
   rcases hf with z | ⟨e,_⟩
   ·exact .inl ((T.z c o).1 z)
   ·cases e) this
 | false =>
  have hb := T.bb.resolve_left (by simp)
  exact h.mono (fun b c o hf => hf.imp (T.z c o).1 (fun ⟨e,z⟩ => ⟨e,hb c o z⟩)) (fun _ _ _ _ => rfl)

structure Mvd (P : Program) (G : Nat → List DV) (bor : Bool) (cx1 : Cx) (h1 : Heap) (cx2 : Cx) (h2 : Heap) (w : World) (cx1' : Cx) (h1' : Heap) (cx2' : Cx) (h2' : Heap) : Prop where
 two : Two P G bor cx1' h1' cx2' h2' w
 e1 : Ext cx1 w cx1' w
 e2 : Ext cx2 w cx2' w
 own1 : ∀ b c,Owns cx1' h1' b c → ∃ b',Owns cx1 h1 b' c
 own2 : ∀ b c,Owns cx2' h2' b c → (∃ b',Owns cx2 h2 b' c) ∨ ∃ b',Owns cx1 h1 b' c
 zz : ∀ c o,cx2'.Z c o → cx2.Z c o ∨ ∃ b',Owns cx1 h1 b' c
 hn : h2.n ≤ h2'.n
 dd : ∀ b,h2.get b = some .dead → h2'.get b = some .dead
 rr : ∀ b,b < h2.n → cx2'.ρ b = cx2.ρ b

theorem Mvd.refl {bor : Bool} {cx1 cx2 : Cx} {h1 h2 : Heap} {w : World} (T : Two P G bor cx1 h1 cx2 h2 w) : Mvd P G bor cx1 h1 cx2 h2 w cx1 h1 cx2 h2 :=
 ⟨T,.refl _ _,.refl _ _,fun b _c h => ⟨b,h⟩,fun b _c h => .inl ⟨b,h⟩,fun _ _ z => .inl z,Nat.le_refl _,fun _ h => h,fun _ _ => rfl⟩

theorem Mvd.trans {bor : Bool} {a1 a2 b1 b2 c1 c2 : Cx} {ha1 ha2 hb1 hb2 hc1 hc2 : Heap} {w : World} (m : Mvd P G bor a1 ha1 a2 ha2 w b1 hb1 b2 hb2) (n : Mvd P G bor b1 hb1 b2 hb2 w c1 hc1 c2 hc2) : Mvd P G bor a1 ha1 a2 ha2 w c1 hc1 c2 hc2 where
 two := n.two
 e1 := m.e1.trans n.e1
 e2 := m.e2.trans n.e2
 own1 b c h := by obtain ⟨b',h'⟩ := n.own1 b c h; exact m.own1 b' c h'
 own2 b c h := by
  rcases n.own2 b c h with ⟨b',h'⟩ | ⟨b',h'⟩
  ·exact m.own2 b' c h'
  ·exact .inr (m.own1 b' c h')
 zz c o z := by
  rcases n.zz c o z with z | ⟨b',h'⟩
  ·exact m.zz c o z
  ·exact .inr (m.own1 b' c h')
 hn := Nat.le_trans m.hn n.hn
 dd b hb := n.dd b (m.dd b hb)
 rr b hb := (n.rr b (Nat.lt_of_lt_of_le hb m.hn)).trans (m.rr b hb)

theorem Two.kill {bor : Bool} {cx1 cx2 : Cx} {h1 h2 : Heap} {w : World} (T : Two P G bor cx1 h1 cx2 h2 w) (b : Nat) :
  Two P G bor cx1 (h1.set b .dead) cx2 h2 w ∧ (∀ b' c,Owns cx1 (h1.set b .dead) b' c → Owns cx1 h1 b' c ∧ ((∃ x,h1.get b = some x) → b' ≠ b)) := by
 have own : ∀ b' c,Owns cx1 (h1.set b .dead) b' c → Owns cx1 h1 b' c ∧ ((∃ x,h1.get b = some x) → b' ≠ b) := by
  intro b' c ho
  have hget : ∀ x,(h1.set b .dead).get b' = some x → x ≠ .dead → h1.get b' = some x ∧ ((∃ x,h1.get b = some x) → b' ≠ b) := by
   intro x hx hd
   rw [Heap.get_set] at hx
   by_cases e : b = b' ∧ b' < h1.n
   ·rw [if_pos e] at hx; cases hx; exact absurd rfl hd
   ·rw [if_neg e] at hx
    refine ⟨hx,fun ⟨y,hy⟩ e' => ?_⟩
    subst e'
    exact e ⟨rfl,Heap.lt_of_get hy⟩
  cases ho with
  | blk x base hb ho ht hr =>
   obtain ⟨q1,q2⟩ := hget x hb (fun e => by subst e; simp [owning] at ho)
   exact ⟨.blk x base q1 ho ht hr,q2⟩
  | tok g e κ base hb hκ hp =>
   obtain ⟨q1,q2⟩ := hget _ hb (fun e => by cases e)
   exact ⟨.tok g e κ base q1 hκ hp,q2⟩
 exact ⟨⟨(T.I1.kill b).1,T.I2,T.z,fun b1 b2 c o1 => T.dis b1 b2 c (own _ _ o1).1,fun b c o ho => T.nb b c o (own _ _ ho).1,T.bb⟩,own⟩

def MvOk (P : Program) (G : Nat → List DV) (bor : Bool) (mv : Heap → Heap → Nat → Option (Nat × Heap × Heap)) : Prop :=
 ∀ (h1 h2 : Heap) (b b' : Nat) (h1' h2' : Heap),mv h1 h2 b = some (b',h1',h2') → ∀ (cx1 cx2 : Cx) (w : World),Two P G bor cx1 h1 cx2 h2 w → ∃ cx1' cx2',Mvd P G bor cx1 h1 cx2 h2 w cx1' h1' cx2' h2' ∧
  ∀ c base,cx1.ρ b = some (c,base) → cx2'.ρ b' = some (c,base)

def AdOut (P : Program) (G : Nat → List DV) (bor : Bool) (cx1 : Cx) (h1 : Heap) (cx2 : Cx) (h2 : Heap) (w : World) (h1' h2' : Heap) (R : Cx → Prop) : Prop := ∃ cx1' cx2',Mvd P G bor cx1 h1 cx2 h2 w cx1' h1' cx2' h2' ∧ R cx2'

theorem AdOut.same {bor : Bool} {cx1 cx2 : Cx} {h1 h2 : Heap} {w : World} {R : Cx → Prop} (T : Two P G bor cx1 h1 cx2 h2 w) (hr : R cx2) : AdOut P G bor cx1 h1 cx2 h2 w h1 h2 R := ⟨cx1,cx2,.refl T,hr⟩

theorem Two.takeTok {bor : Bool} {cx1 cx2 : Cx} {h1 h2 : Heap} {w : World} (T : Two P G bor cx1 h1 cx2 h2 w) {t g n : Nat} {e : TypeId} {cs : List DV} {v : Value} (hb : h1.get t = some (.tok g e)) (hv : VRel cx1 w (.app t g n cs) v) (hc : (bor && !cleanL cs) = false) :
    AdOut P G bor cx1 h1 cx2 h2 w (h1.set t .dead) (h2.push (.tok 0 e)) fun cx' => VRel cx' w (.app h2.n 0 n cs) v := by
  cases hv with
  | app _ _ _ _ _ hd κ hK hg hfit =>
    obtain ⟨κ0,k1,k2,k3,k4,k5⟩ := T.I1.heap t _ hb
    rw [hK] at k1; cases k1
    have hfit := hfit k2.symm
    obtain ⟨TK,own⟩ := T.kill t
    have hd2 : DRel w cx2.F (.sl false n cs) v := T.conv (by simpa [clean] using hc) hd
    have hun : ∀ c base,κ.pl = some (c,base) → (∀ b,¬ Owns cx2 h2 b c) ∧ (∀ b,¬ Owns cx1 (h1.set t .dead) b c) ∧ c < w.heap.size ∧ ∀ o,cx2.Z c o ∨ cx2.B c o → o < base + κ.n * κ.sz := by
      intro c base hp
      have ho : Owns cx1 h1 t c := .tok g e κ base hb hK hp
      refine ⟨fun b => T.dis t b c ho,fun b ho' => ?_,T.I1.sep.ltK t κ c base hK hp,fun o z => ?_⟩
      · obtain ⟨o1,o2⟩ := own b c ho'
        exact o2 ⟨_,hb⟩ (T.I1.sep.inj _ _ _ o1 ho)
      · rcases z with z | z
        · exact T.I1.sep.tokf t g e κ c base hb hK hp o (.inl ((T.z c o).2 z))
        · exact absurd z (T.nb t c o ho)
    let κ' : Tk := { κ with gen := 0 }
    obtain ⟨J,eJ,oJ⟩ := T.I2.take (.tok 0 e) none (some κ') (fun _ _ h => by cases h) (fun c ho => by
        cases ho with
        | blk x base hb' ho2 ht hr => rw [Cx.add_ρ] at hr; simp at hr
        | tok g' e' κ2 base hb' hκ hp =>
          rw [Cx.add_K] at hκ; simp at hκ; subst hκ
          exact ⟨(hun c base hp).1,fun hh => absurd rfl (hh 0 e)⟩)
      (fun κ2 c base hk hp => by cases hk; exact ⟨(hun c base hp).2.2.1,(hun c base hp).2.2.2⟩)
      ⟨κ',by rw [Cx.add_K]; simp,rfl,k3,k4,k5⟩
    refine ⟨cx1,cx2.add h2.n none (some κ'),⟨⟨TK.I1,J,T.z,fun b1 b2 c o1 o2 => ?_,fun b c o ho => TK.nb b c o ho,T.bb⟩,.refl _ _,eJ,fun b c ho => ⟨b,(own b c ho).1⟩,fun b c ho => ?_,fun c o z => .inl z,by simp,fun b hb' => by rw [Heap.get_push,if_neg (Nat.ne_of_lt (Heap.lt_of_get hb'))]; exact hb',fun b hb' => by rw [Cx.add_ρ,if_neg (Nat.ne_of_lt hb')]⟩,?_⟩
    · rcases oJ b2 c o2 with ⟨_,o2⟩ | ⟨_,o2⟩
      · cases o2 with
        | blk x base hb' ho2 ht hr => rw [Cx.add_ρ] at hr; simp at hr
        | tok g' e' κ2 base hb' hκ hp =>
          rw [Cx.add_K] at hκ; simp at hκ; subst hκ
          exact (hun c base hp).2.1 b1 o1
      · exact TK.dis b1 b2 c o1 o2
    · rcases oJ b c ho with ⟨_,o2⟩ | ⟨_,o2⟩
      · cases o2 with
        | blk x base hb' ho2 ht hr => rw [Cx.add_ρ] at hr; simp at hr
        | tok g' e' κ2 base hb' hκ hp =>
          rw [Cx.add_K] at hκ; simp at hκ; subst hκ
          exact .inr ⟨t,.tok g e κ base hb hK hp⟩
      · exact .inl ⟨b,o2⟩
    · exact .app h2.n 0 n cs v (hd2.ext eJ) κ' (by rw [Cx.add_K]; simp) (Nat.le_refl _) (fun _ => hfit)

mutual
theorem adoptW_rel {bor : Bool} {mv : Heap → Heap → Nat → Option (Nat × Heap × Heap)} (hmv : MvOk P G bor mv) {a a' : AV} {v : Value} {cx1 cx2 : Cx} {h1 h2 h1' h2' : Heap} {w : World} (T : Two P G bor cx1 h1 cx2 h2 w)
  (hs : adoptW bor mv h1 h2 a = some (a',h1',h2')) (hv : VRel cx1 w a v) : AdOut P G bor cx1 h1 cx2 h2 w h1' h2' fun cx' => VRel cx' w a' v := by
 cases a with
 | d x =>
  simp only [adoptW] at hs
  split at hs
  ·cases hs
  ·rename_i hc
   cases hs
   cases hv with | d _ _ hd => exact .same T (.d _ _ (T.conv hc hd))
 | nilsl => simp only [adoptW] at hs; cases hs; cases hv; exact .same T .nilsl
 | app t g n cs =>
  have plain : (bor && !cleanL cs) = false → AdOut P G bor cx1 h1 cx2 h2 w h1 h2 fun cx' => VRel cx' w (.d (.sl false n cs)) v := by
   intro hc
   cases hv with
   | app _ _ _ _ _ hd => exact .same T (.d _ _ (T.conv (by simpa [clean] using hc) hd))
  simp only [adoptW] at hs
  split at hs
  ·rename_i g' e hb
   split at hs
   ·rename_i hg
    have hg := nbeq hg
    subst hg
    split at hs
    ·cases hs
    ·rename_i hc
     cases hs
     exact T.takeTok hb hv hc
   ·split at hs
    ·cases hs
    ·rename_i hc
     cases hs
     exact plain hc
  ·split at hs
   ·cases hs
   ·rename_i hc
    cases hs
    exact plain hc
 | full b n cs =>
  simp only [adoptW] at hs
  split at hs
  ·cases hs
  ·rename_i hc
   cases hs
   cases hv with
   | full _ _ _ a hd =>
    refine .same T (.full _ _ _ a (T.conv ?_ hd))
    cases bor <;> cases b <;> simp_all [clean]
 | sref b off sz n m ex =>
  simp only [adoptW] at hs
  split at hs
  ·rename_i b' q1 q2 hm
   cases hs
   cases hv with
   | sref _ _ _ _ _ _ c base cap a hr hn hm' hex ha hz =>
    obtain ⟨cx1',cx2',M,hρ⟩ := hmv _ _ _ _ _ _ hm cx1 cx2 w T
    exact ⟨cx1',cx2',M,.sref b' off sz n m ex c base cap a (hρ c base hr) hn hm' hex ha hz⟩
  ·cases hs
 | ptr b off =>
  simp only [adoptW] at hs
  split at hs
  ·rename_i dd hf hfz
   split at hs
   ·rename_i e cs hb
    split at hs
    ·rename_i ds hst
     split at hs
     ·cases hs
     ·rename_i hc
      cases hs
      simp only [frzW] at hfz
      split at hfz
      ·rename_i ds0 hf0 hfz0
       cases hfz
       obtain ⟨cxf,If,Sf,Ff,_⟩ := fz3_ok (P := P) (mu := []) (G := G) _ _ _ _ _ _ hfz0 cx1 w T.I1
       obtain ⟨c,base,hr,_,hcell⟩ := If.heap b _ hb
       have hr1 : cx1.ρ b = some (c,base) := by rw [← Ff.ρ]; exact hr
       have hnew : ∀ c o,cxf.Z c o → cx1.Z c o ∨ ∃ b,Owns cx1 h1 b c := by
        intro c o z
        rcases Sf.fr.z c o z with z' | z' | z'
        ·exact .inl z'
        ·have := zlt If (.inl z); omega
        ·exact .inr z'
       obtain ⟨J,eJ,oJ⟩ := T.I2.moreZ (Z' := cxf.Z) (fun c o z => Sf.ext.Z c o ((T.z c o).2 z)) (fun c o z => by
        rcases hnew c o z with z' | ⟨b',z'⟩
        ·exact .inl ((T.z c o).1 z')
        ·exact .inr ⟨If.sep.zc c o (.inl z),fun b2 => T.dis b' b2 c z'⟩)
       have hown1 : ∀ b c,Owns cxf h1' b c → ∃ b',Owns cx1 h1 b' c := fun b c ho => Sf.fr.owns b c ho (Owns.lt If ho)
       have T' : Two P G bor cxf h1' { cx2 with Z := cxf.Z } h2 w := ⟨If,J,fun _ _ => Iff.rfl,fun b1 b2 c o1 o2 => by
         obtain ⟨b',o1'⟩ := hown1 b1 c o1
         exact T.dis b' b2 c o1' (oJ b2 c o2),fun b c o ho => by
         obtain ⟨b',o1'⟩ := hown1 b c ho
         exact T.nb b' c o o1',T.bb.imp id (fun hb c o z => hb c o ((Sf.ext.B c o).2 z))⟩
       refine ⟨cxf,{ cx2 with Z := cxf.Z },⟨T',Sf.ext,eJ,hown1,fun b c ho => .inl ⟨b,oJ b c ho⟩,fun c o z => (hnew c o z).imp (T.z c o).1 id,Nat.le_refl _,fun _ h => h,fun _ _ => rfl⟩,?_⟩
       obtain ⟨hl,hd⟩ := stripL_rel (cx := cxf) (w := w) (g := fun i => (w.cell? ⟨c,base + i,none⟩).getD undef) hst (fun i hi => by
        obtain ⟨u,u1,u2,_⟩ := hcell i hi
        rw [u1]; exact u2)
       obtain ⟨c',base',hr',rfl⟩ := hv.ptr_inv
       rw [hr1] at hr'; cases hr'
       refine .d _ _ (T'.conv (by simpa [clean] using hc) ?_)
       exact .bx false ds off c base (fun i => (w.cell? ⟨c,base + i,none⟩).getD undef) (fun i hi => by
        obtain ⟨u,u1,_,u3,_⟩ := hcell i (by omega)
        exact ⟨by rw [u1]; rfl,.inl (u3 rfl)⟩) hd
      ·cases hfz
    ·cases hs
   ·cases hs
  ·cases hs
 | agg cs =>
  simp only [adoptW] at hs
  split at hs
  ·rename_i l q1 q2 hf
   cases hs
   cases hv with
   | agg _ cs' hc h2 =>
    obtain ⟨c1,c2,M,hl,hr⟩ := adoptWL_rel hmv T hf (g := fun i => cs'.getD i undef) h2
    exact ⟨c1,c2,M,.agg _ _ (by rw [hc,hl]) hr⟩
  ·cases hs
 | tup cs =>
  simp only [adoptW] at hs
  split at hs
  ·rename_i l q1 q2 hf
   cases hs
   cases hv with
   | tup _ cs' hc h2 =>
    obtain ⟨c1,c2,M,hl,hr⟩ := adoptWL_rel hmv T hf (g := fun i => cs'.getD i undef) h2
    exact ⟨c1,c2,M,.tup _ _ (by rw [hc,hl]) hr⟩
  ·cases hs
 | ifc t a =>
  simp only [adoptW] at hs
  split at hs
  ·rename_i l q1 q2 hf
   cases hs
   cases hv with
   | ifc _ _ v' hv' =>
    obtain ⟨c1,c2,M,hr⟩ := adoptW_rel hmv T hf hv'
    exact ⟨c1,c2,M,.ifc _ _ _ hr⟩
  ·cases hs
 | fn g fs cs =>
  simp only [adoptW] at hs
  split at hs
  ·rename_i hok
   split at hs
   ·rename_i l1 q1 q2 hf1
    split at hs
    ·rename_i l2 q3 q4 hf2
     cases hs
     cases hv with
     | fn _ _ _ fs' cs' e1 e2 r1 r2 hy =>
      obtain ⟨c1,c2,M1,hl1,hr1⟩ := adoptWL_rel hmv T hf1 (g := fun i => fs'.getD i undef) r1
      obtain ⟨c3,c4,M2,hl2,hr2⟩ := adoptWL_rel hmv M1.two hf2 (g := fun i => cs'.getD i undef) (fun i hi => (r2 i hi).ext M1.e1)
      exact ⟨c3,c4,M1.trans M2,.fn _ _ _ _ _ (by rw [e1,hl1]) (by rw [e2,hl2]) (fun i hi => (hr1 i hi).ext M2.e2) hr2 hy⟩
     | yld l c base h => simp [okFn] at hok
    ·cases hs
   ·cases hs
  ·cases hs
 | glob g o => simp only [adoptW] at hs; cases hs; cases hv; exact .same T (.glob _ _)
 | tptr _ _ _ _ => simp [adoptW] at hs
 | mapr _ => simp [adoptW] at hs
 | itr _ => simp [adoptW] at hs
 | und => simp [adoptW] at hs
theorem adoptWL_rel {bor : Bool} {mv : Heap → Heap → Nat → Option (Nat × Heap × Heap)} (hmv : MvOk P G bor mv) {l l' : List AV} {cx1 cx2 : Cx} {h1 h2 h1' h2' : Heap} {w : World} (T : Two P G bor cx1 h1 cx2 h2 w)
  (hs : adoptWL bor mv h1 h2 l = some (l',h1',h2')) {g : Nat → Value} (hv : ∀ i (hi : i < l.length),VRel cx1 w l[i] (g i)) :
  AdOut P G bor cx1 h1 cx2 h2 w h1' h2' fun cx' => l.length = l'.length ∧ ∀ i (hi : i < l'.length),VRel cx' w l'[i] (g i) := by
 cases l with
 | nil => simp only [adoptWL] at hs; cases hs; exact .same T ⟨rfl,fun i hi => absurd hi (by simp)⟩
 | cons a r =>
  simp only [adoptWL] at hs
  split at hs
  ·rename_i d q1 q2 hf1
   split at hs
   ·rename_i l2 q3 q4 hf2
    cases hs
    obtain ⟨c1,c2,M1,hr1⟩ := adoptW_rel hmv T hf1 (hv 0 (by simp))
    obtain ⟨c3,c4,M2,hl2,hr2⟩ := adoptWL_rel hmv M1.two hf2 (g := fun i => g (i + 1)) (fun i hi => (hv (i + 1) (by simpa using hi)).ext M1.e1)
    refine ⟨c3,c4,M1.trans M2,by simp [hl2],fun i hi => ?_⟩
    cases i with
    | zero => exact hr1.ext M2.e2
    | succ i => exact hr2 i (by simpa using hi)
   ·cases hs
  ·cases hs
end
end
end Go.Abs

namespace Go.Abs
section
variable {P : Program} {G : Nat → List DV} {E : Env} {runC : AC → Fr → Heap → Res}

theorem Two.takeCells {bor : Bool} {cx1 cx2 : Cx} {h1 h2 : Heap} {w : World} (T : Two P G bor cx1 h1 cx2 h2 w) {c : Nat} {fr : Bool} {e : TypeId} {l : List AV} (hc : c < w.heap.size)
    (hel : ∃ (arr : Array Value) (fz : Nat × Nat),w.heap[c]? = some (Obj.cells arr e fz) ∧ (fr = false → fz.1 = fz.2))
    (hcell : ∀ i (hi : i < l.length),∃ v,w.cell? ⟨c,0 + i,none⟩ = some v ∧ VRel cx2 w l[i] v ∧ (fr = true → cx2.Z c (0 + i)) ∧ (fr = false → w.frozen? ⟨c,0 + i,none⟩ = false))
    (hun : fr = false → (∀ b,¬ Owns cx1 h1 b c) ∧ (∀ b,¬ Owns cx2 h2 b c) ∧ ∀ o,¬ cx2.Z c o ∧ ¬ cx2.B c o) :
    Two P G bor cx1 h1 (cx2.add h2.n (some (c,0)) none) (h2.push (.cells fr e l)) w ∧ Ext cx2 w (cx2.add h2.n (some (c,0)) none) w ∧
      ∀ b c',Owns (cx2.add h2.n (some (c,0)) none) (h2.push (.cells fr e l)) b c' → (∃ b',Owns cx2 h2 b' c') ∨ (c' = c ∧ fr = false) := by
  have ext := Ext.addNew T.I2 (some (c,0)) none
  have hnew : ∀ c',Owns (cx2.add h2.n (some (c,0)) none) (h2.push (.cells fr e l)) h2.n c' → c' = c ∧ fr = false := by
    intro c' ho
    cases ho with
    | blk x base hb ho ht hr =>
      rw [Heap.get_push,if_pos rfl] at hb
      cases hb
      rw [Cx.add_ρ,if_pos rfl] at hr
      cases hr
      exact ⟨rfl,by simpa [owning] using ho⟩
    | tok g e' κ base hb hκ hp => rw [Heap.get_push,if_pos rfl] at hb; cases hb
  obtain ⟨J,eJ,oJ⟩ := T.I2.take (.cells fr e l) (some (c,0)) none (fun c' base h => by cases h; exact ⟨hc,rfl⟩) (fun c' ho => by
      obtain ⟨rfl,hf⟩ := hnew c' ho
      obtain ⟨_,q2,q3⟩ := hun hf
      exact ⟨q2,fun _ => q3⟩) (fun κ c' base hk => by cases hk)
    ⟨c,0,by rw [Cx.add_ρ]; simp,hel,fun i hi => by
      obtain ⟨v,v1,v2,v3,v4⟩ := hcell i hi
      exact ⟨v,v1,v2.ext ext,v3,v4⟩⟩
  refine ⟨⟨T.I1,J,T.z,fun b1 b2 c' o1 o2 => ?_,T.nb,T.bb⟩,eJ,fun b c' ho => ?_⟩
  · rcases oJ b2 c' o2 with ⟨_,o2⟩ | ⟨_,o2⟩
    · obtain ⟨rfl,hf⟩ := hnew c' o2
      exact (hun hf).1 b1 o1
    · exact T.dis b1 b2 c' o1 o2
  · rcases oJ b c' ho with ⟨_,o2⟩ | ⟨_,o2⟩
    · exact .inr (hnew c' o2)
    · exact .inl ⟨b,o2⟩

theorem allD_get {bor : Bool} : ∀ {cs : List AV},allD bor cs = true → ∀ i (hi : i < cs.length),∃ x,cs[i] = .d x ∧ (bor && !clean x) = false := by
 intro cs
 induction cs with
 | nil => intro _ i hi; cases hi
 | cons a r ih =>
  intro h i hi
  simp only [allD] at h
  split at h
  ·rename_i x
   split at h
   ·cases h
   ·rename_i hc
    cases i with
    | zero => exact ⟨x,rfl,hc⟩
    | succ i => exact ih h i (by simpa using hi)
  ·cases h

theorem mvBlk_ok {bor : Bool} {mv : Heap → Heap → Nat → Option (Nat × Heap × Heap)} (hmv : MvOk P G bor mv) : MvOk P G bor (mvBlk bor mv) := by
 intro h1 h2 b b' h1' h2' hs cx1 cx2 w T
 unfold mvBlk at hs
 split at hs
 ·rename_i fr e cs hb
  obtain ⟨c,base,hr,hel,hcell⟩ := T.I1.heap b _ hb
  have hb0 := T.I1.sep.base0 _ _ _ hr
  subst hb0
  have hc := T.I1.sep.lt _ _ _ hr
  obtain ⟨TK,own⟩ := T.kill b
  have hown : fr = false → Owns cx1 h1 b c := fun hf => by subst hf; exact .blk _ 0 hb rfl (fun _ _ => by simp) hr
  have hnz : fr = false → ∀ o,¬ cx2.Z c o ∧ ¬ cx2.B c o := fun hf o => by
   have := T.I1.sep.nof b c (hown hf) (fun g e hh => by rw [hb] at hh; cases hh) o
   exact ⟨fun z => this.1 ((T.z c o).2 z),T.nb b c o (hown hf)⟩
  have hk1 : fr = false → ∀ b2,¬ Owns cx1 (h1.set b .dead) b2 c := fun hf b2 ho => by
   obtain ⟨o1,o2⟩ := own b2 c ho
   exact o2 ⟨_,hb⟩ (T.I1.sep.inj _ _ _ o1 (hown hf))
  have hk2 : fr = false → ∀ b2,¬ Owns cx2 h2 b2 c := fun hf b2 => T.dis b b2 c (hown hf)
  split at hs
  ·rename_i had
   cases hs
   obtain ⟨T',e',o'⟩ := TK.takeCells (fr := fr) (e := e) (l := cs) hc hel (fun i hi => by
    obtain ⟨v,v1,v2,v3,v4⟩ := hcell i hi
    obtain ⟨x,hx,hcl⟩ := allD_get had i hi
    refine ⟨v,v1,?_,fun hf => (T.z _ _).1 (v3 hf),v4⟩
    rw [hx] at v2 ⊢
    cases v2 with
    | d _ _ hd => exact .d _ _ (T.conv hcl hd)) (fun hf => ⟨hk1 hf,hk2 hf,hnz hf⟩)
   refine ⟨cx1,cx2.add h2.n (some (c,0)) none,⟨T',.refl _ _,e',fun b1 c1 ho => ⟨b1,(own b1 c1 ho).1⟩,fun b1 c1 ho => ?_,fun c o z => .inl z,by simp,fun b hb' => by rw [Heap.get_push,if_neg (Nat.ne_of_lt (Heap.lt_of_get hb'))]; exact hb',fun b hb' => by rw [Cx.add_ρ,if_neg (Nat.ne_of_lt hb')]⟩,fun c1 base1 hr1 => ?_⟩
   ·rcases o' b1 c1 ho with h | ⟨rfl,hf⟩
    ·exact .inl h
    ·exact .inr ⟨b,hown hf⟩
   ·rw [hr] at hr1; cases hr1; rw [Cx.add_ρ]; simp
  ·split at hs
   ·rename_i l q1 q2 hw
    cases hs
    obtain ⟨a1,a2,M,hl,hrel⟩ := adoptWL_rel hmv TK hw (g := fun i => (w.cell? ⟨c,0 + i,none⟩).getD undef) (fun i hi => by
     obtain ⟨v,v1,v2,_⟩ := hcell i hi
     rw [v1]; exact v2)
    have hun : fr = false → (∀ b,¬ Owns a1 h1' b c) ∧ (∀ b,¬ Owns a2 q2 b c) ∧ ∀ o,¬ a2.Z c o ∧ ¬ a2.B c o := by
     intro hf
     refine ⟨fun b2 ho => ?_,fun b2 ho => ?_,fun o => ⟨fun z => ?_,fun z => ?_⟩⟩
     ·obtain ⟨b3,h3⟩ := M.own1 b2 c ho
      exact hk1 hf b3 h3
     ·rcases M.own2 b2 c ho with ⟨b3,h3⟩ | ⟨b3,h3⟩
      ·exact hk2 hf b3 h3
      ·exact hk1 hf b3 h3
     ·rcases M.zz c o z with h | ⟨b3,h3⟩
      ·exact (hnz hf o).1 h
      ·exact hk1 hf b3 h3
     ·exact (hnz hf o).2 ((M.e2.B c o).2 z)
    obtain ⟨T',e',o'⟩ := M.two.takeCells (c := c) (fr := fr) (e := e) (l := l) hc hel (fun i hi => by
     obtain ⟨v,v1,v2,v3,v4⟩ := hcell i (by omega)
     refine ⟨v,v1,?_,fun hf => M.e2.Z _ _ ((T.z _ _).1 (v3 hf)),v4⟩
     have := hrel i hi
     rw [v1] at this; exact this) hun
    refine ⟨a1,a2.add q2.n (some (c,0)) none,⟨T',M.e1,M.e2.trans e',fun b1 c1 ho => ?_,fun b1 c1 ho => ?_,fun c o z => ?_,?_,fun b hb' => ?_,fun b hb' => ?_⟩,fun c1 base1 hr1 => ?_⟩
    ·obtain ⟨b3,h3⟩ := M.own1 b1 c1 ho
     exact ⟨b3,(own b3 c1 h3).1⟩
    ·rcases o' b1 c1 ho with ⟨b3,h3⟩ | ⟨rfl,hf⟩
     ·rcases M.own2 b3 c1 h3 with h | ⟨b4,h4⟩
      ·exact .inl h
      ·exact .inr ⟨b4,(own b4 c1 h4).1⟩
     ·exact .inr ⟨b,hown hf⟩
    ·rcases M.zz c o z with h | ⟨b4,h4⟩
     ·exact .inl h
     ·exact .inr ⟨b4,(own b4 c h4).1⟩
    ·have := M.hn
     simp only [Heap.n_push]
     omega
    ·have hq := M.dd b hb'
     rw [Heap.get_push,if_neg (Nat.ne_of_lt (Heap.lt_of_get hq))]; exact hq
    ·rw [Cx.add_ρ,if_neg (Nat.ne_of_lt (Nat.lt_of_lt_of_le hb' M.hn))]; exact M.rr b hb'
    ·rw [hr] at hr1; cases hr1; rw [Cx.add_ρ]; simp
   ·cases hs
 ·cases hs

theorem mv3_ok {bor : Bool} : MvOk P G bor (mv3 bor) := mvBlk_ok (mvBlk_ok (mvBlk_ok (fun _ _ _ _ _ _ hs => by cases hs)))

theorem adopt1_rel {bor : Bool} {a a' : AV} {v : Value} {cx1 cx2 : Cx} {h1 h2 h1' h2' : Heap} {w : World} (T : Two P G bor cx1 h1 cx2 h2 w) (hs : adopt1 bor h1 h2 a = some (a',h1',h2')) (hv : VRel cx1 w a v) :
  AdOut P G bor cx1 h1 cx2 h2 w h1' h2' fun cx' => VRel cx' w a' v := by
 unfold adopt1 at hs
 split at hs
 ·split at hs
  ·cases hs
  ·rename_i hc
   cases hs
   cases hv with | d _ _ hd => exact .same T (.d _ _ (T.conv hc hd))
 ·cases hs; cases hv; exact .same T .nilsl
 ·exact adoptW_rel mv3_ok T hs hv

noncomputable def adoptL (bor : Bool) (l : List AV) : Heap → Heap → Option (List AV × Heap × Heap) :=
 List.rec (motive := fun _ => Heap → Heap → Option (List AV × Heap × Heap)) (fun h1 h => some ([],h1,h))
   (fun a _ ih h1 h => match adopt1 bor h1 h a with
    | some (v,a1,b1) => match ih a1 b1 with
     | some (l,a2,b2) => some (v :: l,a2,b2)
     | none => none
    | none => none) l
theorem adoptL_cons (bor : Bool) (a : AV) (r : List AV) (h1 h : Heap) : adoptL bor (a :: r) h1 h = match adopt1 bor h1 h a with
        | some (v,a1,b1) => match adoptL bor r a1 b1 with
          | some (l,a2,b2) => some (v :: l,a2,b2)
          | none => none
        | none => none := rfl

theorem adoptL_rel {bor : Bool} : ∀ {l l' : List AV} {cx1 cx2 : Cx} {h1 h2 h1' h2' : Heap} {w : World},Two P G bor cx1 h1 cx2 h2 w → adoptL bor l h1 h2 = some (l',h1',h2') → ∀ {g : Nat → Value},(∀ i (hi : i < l.length),VRel cx1 w l[i] (g i)) →
  AdOut P G bor cx1 h1 cx2 h2 w h1' h2' fun cx' => l.length = l'.length ∧ ∀ i (hi : i < l'.length),VRel cx' w l'[i] (g i) := by
 intro l
 induction l with
 | nil => intro l' cx1 cx2 h1 h2 h1' h2' w T hs g hv; cases hs; exact .same T ⟨rfl,fun i hi => absurd hi (by simp)⟩
 | cons a r ih =>
  intro l' cx1 cx2 h1 h2 h1' h2' w T hs g hv
  rw [adoptL_cons] at hs
  split at hs
  ·rename_i d q1 q2 hf1
   split at hs
   ·rename_i l2 q3 q4 hf2
    cases hs
    obtain ⟨c1,c2,M1,hr1⟩ := adopt1_rel T hf1 (hv 0 (by simp))
    obtain ⟨c3,c4,M2,hl2,hr2⟩ := ih M1.two hf2 (g := fun i => g (i + 1)) (fun i hi => (hv (i + 1) (by simpa using hi)).ext M1.e1)
    refine ⟨c3,c4,M1.trans M2,by simp [hl2],fun i hi => ?_⟩
    cases i with
    | zero => exact hr1.ext M2.e2
    | succ i => exact hr2 i (by simpa using hi)
   ·cases hs
  ·cases hs

theorem adopt_rel {bor : Bool} {a a' : AV} {v : Value} {cx1 cx2 : Cx} {h1 h2 h1' h2' : Heap} {w : World} (T : Two P G bor cx1 h1 cx2 h2 w) (hs : adopt bor h1 h2 a = some (a',h1',h2')) (hv : VRel cx1 w a v) :
  AdOut P G bor cx1 h1 cx2 h2 w h1' h2' fun cx' => VRel cx' w a' v := by
 unfold adopt at hs
 split at hs
 ·rename_i l
  change (match adoptL bor l h1 h2 with | some (l,a,b) => some (AV.tup l,a,b) | none => none) = _ at hs
  split at hs
  ·rename_i l2 q1 q2 hf
   cases hs
   cases hv with
   | tup _ cs' hc h2 =>
    obtain ⟨c1,c2,M,hl,hr⟩ := adoptL_rel T hf (g := fun i => cs'.getD i undef) h2
    exact ⟨c1,c2,M,.tup _ _ (by rw [hc,hl]) hr⟩
  ·cases hs
 ·exact adopt1_rel T hs hv

mutual
theorem cleanA_rel {cx1 cx2 : Cx} {w : World} (hz : ∀ c o,cx1.Z c o → cx2.Z c o) {a : AV} {v : Value} (hc : cleanA a = true) (hv : VRel cx1 w a v) : VRel cx2 w a v := by
 have hF : ∀ c o,cx1.F false c o → cx2.F false c o := fun c o hf => by
  rcases hf with z | ⟨e,_⟩
  ·exact .inl (hz c o z)
  ·cases e
 cases a with
 | d x => cases hv with | d _ _ hd => exact .d _ _ (hd.clean hF (by simpa [cleanA] using hc))
 | nilsl => cases hv; exact .nilsl
 | full b n cs => cases hv with | full _ _ _ a hd => exact .full _ _ _ a (hd.clean hF (by simpa [cleanA,clean] using hc))
 | glob g o => cases hv; exact .glob _ _
 | ifc t a => cases hv with | ifc _ _ v' hv' => exact .ifc _ _ _ (cleanA_rel hz (by simpa [cleanA] using hc) hv')
 | agg l => cases hv with | agg _ cs' h1 h2 => exact .agg _ _ h1 (cleanAL_rel hz (by simpa [cleanA] using hc) h2)
 | tup l => cases hv with | tup _ cs' h1 h2 => exact .tup _ _ h1 (cleanAL_rel hz (by simpa [cleanA] using hc) h2)
 | fn g fs cs =>
  simp only [cleanA,Bool.and_eq_true] at hc
  cases hv with
  | fn _ _ _ fs' cs' e1 e2 r1 r2 hy => exact .fn _ _ _ _ _ e1 e2 (cleanAL_rel hz hc.1.2 r1) (cleanAL_rel hz hc.2 r2) hy
  | yld => simp [okFn] at hc
 | app _ _ _ _ => simp [cleanA] at hc
 | ptr _ _ => simp [cleanA] at hc
 | sref _ _ _ _ _ _ => simp [cleanA] at hc
 | tptr _ _ _ _ => simp [cleanA] at hc
 | mapr _ => simp [cleanA] at hc
 | itr _ => simp [cleanA] at hc
 | und => simp [cleanA] at hc
theorem cleanAL_rel {cx1 cx2 : Cx} {w : World} (hz : ∀ c o,cx1.Z c o → cx2.Z c o) {l : List AV} {g : Nat → Value} (hc : cleanAL l = true) (hv : ∀ i (hi : i < l.length),VRel cx1 w l[i] (g i)) : ∀ i (hi : i < l.length),VRel cx2 w l[i] (g i) := by
 cases l with
 | nil => intro i hi; cases hi
 | cons a r =>
  simp only [cleanAL,Bool.and_eq_true] at hc
  intro i hi
  cases i with
  | zero => exact cleanA_rel hz hc.1 (hv 0 (by simp))
  | succ i => exact cleanAL_rel hz (g := fun i => g (i + 1)) hc.2 (fun j hj => hv (j + 1) (by simpa using hj)) i (by simpa using hi)
end

theorem call_sound (hE : EOk P G E) (hS : Snd P G runC) : CallSnd P G E runC := by
 intro f args h ex v h' hc cx w args' I hl ha
 refine ⟨enters_of_call hE hc,fun cs => ?_⟩
 unfold call at hc
 split at hc
 ·cases hc
 ·rename_i fn' hf
  split at hc
  ·
   rename_i ds bor hst
   have hst : stripArgs h args = some (ds,bor) := by
    split at hst
    ·cases hst
    ·exact hst
   -- the callee's context
   let B : Nat → Nat → Prop := fun c o => match bor with
    | true => (w.cell? ⟨c,o,none⟩).isSome = true
    | false => cx.B c o
   have hB1 : ∀ c o,cx.B c o → B c o := fun c o z => by
    cases bor with
    | true => exact I.sep.zc c o (.inr z)
    | false => exact z
   have hB2 : ∀ c o,B c o → (w.cell? ⟨c,o,none⟩).isSome = true := fun c o z => by
    cases bor with
    | true => exact z
    | false => exact I.sep.zc c o (.inr z)
   have J := I.own hB1 hB2
   obtain ⟨hl2,hd⟩ := stripArgs_rel I (F' := (cx.own B).F) (fun b c o hf => hf.imp id (fun ⟨e,z⟩ => ⟨e,hB1 c o z⟩)) (fun e c o z => .inr ⟨rfl,by subst e; exact z⟩) hst (g := fun i => args'.getD i undef) ha
   have hargs : ∀ i (hi : i < (ds.map inj).length),VRel (cx.own B) w (ds.map inj)[i] (args'.getD i undef) := fun i hi => by
    rw [List.getElem_map]
    exact inj_rel (hd i (by simpa using hi))
   split at hc
   ·rename_i v1 h1 pp hcall
    split at hc
    ·rename_i v2 q1 h2 had
     cases hc
     obtain ⟨cx1,w1,fr,I1,S1,st,hfn,hlv⟩ := callIn_sound hE hS hcall J (by simp [hl,hl2]) hargs cs
     rcases hlv with ⟨_,v',hv,hlv⟩ | ⟨_,e,_⟩
     ·obtain ⟨I2,S2,hown,hz⟩ := I.back I1 S1
      have T : Two P G bor cx1 h1 { cx with Z := cx1.Z } h w1 := ⟨I1,I2,fun _ _ => Iff.rfl,fun b1 b2 c o1 o2 => by
        have := hown b1 c o1
        have : c < w.heap.size := by
         cases o2 with
         | blk x base hb ho ht hr => exact I.sep.lt _ _ _ hr
         | tok g e κ base hb hκ hp => exact I.sep.ltK _ _ _ _ hκ hp
        omega,fun b c o ho z => by
        have := hown b c ho
        have := zlt I (o := o) (.inr z)
        omega,by
        cases bor with
        | true => exact .inl rfl
        | false => exact .inr (fun c o z => (S1.ext.B c o).2 z)⟩
      obtain ⟨c1,c2,M,hr⟩ := adopt_rel T had hv
      refine ⟨c2,w1,fr,M.two.I2,⟨S2.ext.trans M.e2,⟨S2.fr.kept,fun b c ho hc => ?_,fun c o z => ?_,Nat.le_trans S2.fr.hn M.hn,fun b hb => M.dd b (S2.fr.dd b hb),fun b hb => (M.rr b (Nat.lt_of_lt_of_le hb S2.fr.hn)).trans (S2.fr.rr b hb)⟩⟩,st,hfn,.inl ⟨rfl,v',hr,hlv⟩⟩
      ·rcases M.own2 b c ho with ⟨b',h'⟩ | ⟨b',h'⟩
       ·exact S2.fr.owns b' c h' hc
       ·have := hown b' c h'; omega
      ·rcases M.zz c o z with z | ⟨b',h'⟩
       ·exact S2.fr.z c o z
       ·exact .inr (.inl (hown b' c h'))
     ·cases e
    ·cases hc
   ·rename_i v1 v1' h1 pp hcall
    split at hc
    ·rename_i hcl
     cases hc
     obtain ⟨cx1,w1,fr,I1,S1,st,hfn,hlv⟩ := callIn_sound hE hS hcall J (by simp [hl,hl2]) hargs cs
     rcases hlv with ⟨e,_⟩ | ⟨v0,e,v',hv,hlv⟩
     ·cases e
     ·cases e
      obtain ⟨I2,S2,hown,hz⟩ := I.back I1 S1
      exact ⟨_,w1,fr,I2,S2,st,hfn,.inr ⟨_,rfl,v',cleanA_rel (cx1 := cx1) (cx2 := { cx with Z := cx1.Z }) (fun _ _ z => z) hcl hv,hlv⟩⟩
    ·cases hc
   ·cases hc
  ·
   split at hc
   ·rename_i ex2 v2 h2 pp hcall
    cases hc
    exact callIn_sound hE hS hcall I hl ha cs
   ·cases hc
end
end Go.Abs

namespace Go.Abs
section
variable {P : Program} {G : Nat → List DV} {cx : Cx} {w : World}

def NoPush (o : Option COp) : Prop := ∀ c,o = some c → isPush c = false
theorem NoPush.none : NoPush none := fun _ h => by cases h
theorem NoPush.some {c : COp} (h : isPush c = false) : NoPush (some c) := fun _ e => by cases e; exact h
theorem NoPush.bind {α : Type} {x : Option α} {f : α → Option COp} (h : ∀ a,NoPush (f a)) : NoPush (x.bind f) := fun c e => by
 cases x with
 | none => cases e
 | some a => exact h a c e
theorem NoPush.bind' {α : Type} {x : Option α} {f : α → Option COp} (h : ∀ a,NoPush (f a)) : NoPush (x >>= f) := NoPush.bind h
theorem NoPush.map {α : Type} {x : Option α} {f : α → COp} (h : ∀ a,isPush (f a) = false) : NoPush (x.map f) := fun c e => by
 cases x with
 | none => cases e
 | some a => cases e; exact h a

theorem cBuiltin_noPush (mu : List String) (me : String) (b : Builtin) (ts : Array TypeId) (xs : List X) : NoPush (cBuiltin P mu me b ts xs) := by
 unfold cBuiltin
 repeat' first
  | exact NoPush.none
  | exact NoPush.some rfl
  | exact NoPush.map (fun _ => rfl)
  | (refine NoPush.bind' (fun _ => ?_))
  | split

theorem cConvert_noPush (s d : TypeId) (x : X) : NoPush (cConvert P s d x) := by
 unfold cConvert
 repeat' first
  | exact NoPush.none
  | exact NoPush.some rfl
  | (refine NoPush.bind' (fun _ => ?_))
  | split

theorem cOpP_push {o : Oper} {c : COp} {mu : List String} {me : String} (hc : cOpP P mu me o = some c) (hp : isPush c = true) :
  (∃ e zs,c = .alloc e zs ∧ o.op = .alloc e ∧ zCells P e = some zs) ∨ (∃ e x y,c = .box e y ∧ o.op = .box e x ∧ cX x = some y) ∨
  (∃ t e s n ps zs l,c = .bsl e s n zs l ∧ o.op = .buildSlice t n ps ∧ P.underlying t = some (.slice e) ∧ szOf P e = some s ∧ zCells P e = some zs ∧
   (ps.toList.mapM fun (i,x) => do some (i * s,s,← cX x)) = some l ∧ n * s ≤ 65536 ∧ zs.length = s) ∨
  (∃ t e s by_ zs l l' k k',c = .mksl e s by_ zs l' k' ∧ o.op = .makeSlice t l k ∧ P.underlying t = some (.slice e) ∧ szOf P e = some s ∧ byT P e = some by_ ∧ zCells P e = some zs ∧ zs.length = s ∧ cX l = some l' ∧ cX k = some k') := by
 unfold cOpP at hc
 split at hc
 case h_4 =>
  rename_i hop
  simp only [Option.bind_eq_bind,Option.bind_eq_some_iff,Option.some.injEq] at hc
  obtain ⟨zs',hz,rfl⟩ := hc
  exact .inl ⟨_,_,rfl,hop,hz⟩
 case h_5 =>
  rename_i hop
  simp only [Option.bind_eq_bind,Option.bind_eq_some_iff,Option.some.injEq] at hc
  obtain ⟨y,hy,rfl⟩ := hc
  exact .inr (.inl ⟨_,_,_,rfl,hop,hy⟩)
 case h_7 =>
  rename_i hop
  split at hc
  ·rename_i e hu
   simp only [Option.bind_eq_bind,Option.bind_eq_some_iff] at hc
   obtain ⟨s,hs,zs,hz,l,hl,hc⟩ := hc
   split at hc
   ·rename_i hcnd
    cases hc
    exact .inr (.inr (.inl ⟨_,_,_,_,_,_,_,rfl,hop,hu,hs,hz,hl,hcnd.1,hcnd.2⟩))
   ·cases hc
  ·cases hc
 case h_18 =>
  rename_i hop
  split at hc
  ·rename_i e hu
   simp only [Option.bind_eq_bind,Option.bind_eq_some_iff] at hc
   obtain ⟨s,hs,zs,hz,hc⟩ := hc
   split at hc
   ·rename_i hzs
    simp only [Option.bind_eq_some_iff,Option.some.injEq] at hc
    obtain ⟨n,hn,y1,h1,y2,h2,rfl⟩ := hc
    exact .inr (.inr (.inr ⟨_,_,_,_,_,_,_,_,_,rfl,hop,hu,hs,hn,hz,hzs,h1,h2⟩))
   ·cases hc
  ·cases hc
 all_goals
  exfalso
  have key := fun (hn : NoPush _) => hn c hc
  refine absurd hp ?_
  rw [key ?_]
  ·simp
  ·repeat' first
    | exact NoPush.none
    | exact NoPush.some rfl
    | exact NoPush.map (fun _ => rfl)
    | exact cBuiltin_noPush _ _ _ _ _
    | exact cConvert_noPush _ _ _
    | (refine NoPush.bind' (fun _ => ?_))
    | split

def PushOut (_P : Program) (cx : Cx) (w : World) (v : AV) (blk : Blk) (b : Nat) (r : Result Next) : Prop :=
 ∃ (e : TypeId) (cs : List AV) (arr : Array Value) (u : Value),blk = .cells false e cs ∧ r = .ok (.value u) { w with heap := w.heap.push (.cells arr e (0,0)) } ∧ (∀ i (hi : i < cs.length),i < arr.size ∧ VRel cx w cs[i] (arr.getD i undef)) ∧
  ∀ (cx' : Cx) (w' : World),cx'.ρ b = some (w.heap.size,0) → VRel cx' w' v u

theorem ptr_new (b c : Nat) : ∀ (cx' : Cx) (w' : World),cx'.ρ b = some (c,0) → VRel cx' w' (.ptr b 0) (.pointer (some ⟨c,0,none⟩)) := fun _cx' _w' h => .ptr b 0 c 0 h
theorem sref_new (b c size n m : Nat) (hnm : n ≤ m) : ∀ (cx' : Cx) (w' : World),cx'.ρ b = some (c,0) → VRel cx' w' (.sref b 0 size n m true) (.slice (some ⟨c,0,none⟩) n m) := fun cx' w' h =>
 .sref b 0 size n m true c 0 m _ h hnm (Nat.le_refl _) (fun _ => rfl) (.inl rfl) (fun hx => by cases hx)

theorem push_sound {o : Oper} {c : COp} {mu : List String} {me : String} (hc : cOpP P mu me o = some c) {a : Act} {tm : List AV} (ht : TRel cx w tm a.tmps) {b : Nat} {v : AV} {blk : Blk} (hip : isPush c = true) (hp : pushAt c tm b = some (v,blk)) :
    PushOut P cx w v blk b ((execOp a.eval o).run P w) := by
  have hx : ∀ {y : Operand} {x : X},cX y = some x → VRel cx w (x.ev tm) (a.eval y) := fun h => cX_rel ht h
  rcases cOpP_push hc hip with ⟨e,zs,rfl,hop,hz⟩ | ⟨e,x,y,rfl,hop,hy⟩ | ⟨t,e,size,n,ps,zs,l,rfl,hop,hu,hsz,hz,hl,hn,hzs⟩ | ⟨t,e,size,bytes,zs,l,l',k,k',rfl,hop,hu,hsz,hby,hz,hzs,h1,h2⟩
  · cases hp
    obtain ⟨z,z1,z2⟩ := zCells_inv (P := P) (w := w) (cx := cx) hz
    refine ⟨_,_,z.cells,.pointer (some ⟨w.heap.size,0,none⟩),rfl,?_,z2.at,ptr_new b _⟩
    unfold execOp; rw [hop]
    simp only [Instr.alloc,Sem.run_bind,z1,Result.andThen_ok,newVar,run_newRow',Sem.run_pure]
  · simp only [pushAt] at hp
    split at hp
    · rename_i hk
      cases hp
      have hcl := cellsOf_rel (hx hy) (by simpa [okCells] using hk)
      refine ⟨_,_,_,.pointer (some ⟨w.heap.size,0,none⟩),rfl,?_,hcl.at,ptr_new b _⟩
      unfold execOp; rw [hop]
      simp only [Instr.box,Sem.run_bind,newVar,run_newRow',Result.andThen_ok,Sem.run_pure]
    · cases hp
  · simp only [pushAt] at hp
    split at hp
    · rename_i cs hcs
      cases hp
      obtain ⟨m1,m2⟩ := mapM_pairs hl
      obtain ⟨z,z1,z2⟩ := zCells_inv (P := P) (w := w) (cx := cx) hz
      have hzl : z.cells.size = size := by have := z2.len; simp at this; omega
      obtain ⟨zz,zz1,zz2⟩ : ∃ zz : Array Value,((n * size = 0 ∧ zz = #[]) ∨ (¬ n * size = 0 ∧ zz = z.cells)) ∧ ClsRel cx w (repZ zs n) ((Array.range (n * size)).map (fun i => zz[i % zz.size]!)).toList := by
        by_cases e0 : n * size = 0
        · refine ⟨#[],.inl ⟨e0,rfl⟩,?_⟩
          have hl : (repZ zs n).length = 0 := by rw [repZ_len,hzs]; exact e0
          refine ⟨by simp [hl,e0],fun i hi => by omega⟩
        · refine ⟨z.cells,.inr ⟨e0,rfl⟩,?_⟩
          have := (zeros_rel z2 n (m := n * size) (by rw [hzl])).1
          exact this
      obtain ⟨c2,f1,f2⟩ := fill_rel (cx := cx) (w := w) (tm := tm) (place := fun i => some (i * size,size)) l (ps.map fun (p : Nat × Operand) => (p.1,a.eval p.2)).toList (repZ zs n) cs _ (by simpa using m1) (fun i hi hj => by
        have hj' : i < ps.size := by simpa using hj
        have := m2 i hi (by simpa using hj')
        simp only [Option.bind_eq_bind,Option.bind_eq_some_iff,Option.some.injEq] at this
        obtain ⟨y,hy,e⟩ := this
        rw [Array.getElem_toList] at hy e
        simp only [Array.getElem_toList,Array.getElem_map]
        rw [← e]
        exact ⟨rfl,hx hy⟩) zz2 hcs
      refine ⟨_,_,c2,.slice (some ⟨w.heap.size,0,none⟩) n n,rfl,?_,f2.at,sref_new b _ _ _ _ (Nat.le_refl _)⟩
      unfold execOp; rw [hop]
      show (do pure (Next.value (← Instr.buildSlice t n (ps.map fun (p : Nat × Operand) => (p.1,a.eval p.2)))) : Sem Next).run P w = _
      unfold Instr.buildSlice
      have : ¬ (n * size > 2 ^ 24) := by omega
      rcases zz1 with ⟨e0,rfl⟩ | ⟨e0,rfl⟩
      · rw [e0] at f1 this
        simp only [Sem.run_bind,run_underlying hu,Result.andThen_ok,run_sizeOf' hsz,this,if_false,e0,if_true,Sem.run_pure,f1,run_newRow']
      · simp only [Sem.run_bind,run_underlying hu,Result.andThen_ok,run_sizeOf' hsz,this,if_false,e0,z1,Sem.run_pure,f1,run_newRow']
    · cases hp
  · simp only [pushAt] at hp
    split at hp
    · rename_i n m e1 e2
      split at hp
      · rename_i hb
        cases hp
        simp only [Bool.and_eq_true] at hb
        have b1 := ble_le hb.1.1
        have b2 := ble_le hb.1.2
        have b3 := ble_le hb.2
        obtain ⟨k1,hk1⟩ := natA_inv e1 (hx h1)
        obtain ⟨k2,hk2⟩ := natA_inv e2 (hx h2)
        obtain ⟨z,z1,z2⟩ := zCells_inv (P := P) (w := w) (cx := cx) hz
        have hzl : z.cells.size = size := by have := z2.len; simp at this; omega
        obtain ⟨zz,zz1,zz2⟩ : ∃ zz : Array Value,((m * size = 0 ∧ zz = #[]) ∨ (¬ m * size = 0 ∧ zz = z.cells)) ∧ ClsRel cx w (repZ zs m) ((Array.range (m * size)).map (fun i => zz[i % zz.size]!)).toList := by
          by_cases e0 : m * size = 0
          · refine ⟨#[],.inl ⟨e0,rfl⟩,?_⟩
            have hl : (repZ zs m).length = 0 := by rw [repZ_len,hzs]; exact e0
            refine ⟨by simp [hl,e0],fun i hi => by omega⟩
          · refine ⟨z.cells,.inr ⟨e0,rfl⟩,?_⟩
            have := (zeros_rel z2 m (m := m * size) (by rw [hzl])).1
            exact this
        obtain ⟨inf,i1,i2⟩ : ∃ i,P.info? e = some i ∧ i.bytes = bytes := by
          unfold byT at hby
          cases hi : P.info? e with
          | none => rw [hi] at hby; cases hby
          | some i => rw [hi] at hby; cases hby; exact ⟨i,rfl,rfl⟩
        refine ⟨_,_,_,.slice (some ⟨w.heap.size,0,none⟩) n m,rfl,?_,zz2.at,sref_new b _ _ _ _ b1⟩
        unfold execOp; rw [hop]
        simp only [hk1,hk2]
        unfold Instr.makeSlice
        have w1 := wrap_i64_small (n := n) (by omega)
        have w2 := wrap_i64_small (n := m) (by omega)
        have t1 : ¬ ((bytes : Int) * (m : Int) > 2 ^ 48) := by
          have : ((m * bytes : Nat) : Int) ≤ 140737488355328 := by omega
          rw [Int.natCast_mul,Int.mul_comm] at this
          omega
        have t2 : ¬ ((m : Int) < 0) := by omega
        have t3 : ¬ ((n : Int) < 0) := by omega
        have t4 : ¬ ((n : Int) > (m : Int)) := by omega
        rcases zz1 with ⟨e0,rfl⟩ | ⟨e0,rfl⟩
        · simp only [Sem.run_bind,run_underlying hu,Result.andThen_ok,asInt,asIntOf,Sem.run_pure,run_typeInfo w i1,i2,Int.ofNat_eq_natCast,w1,w2,t1,t2,t3,t4,decide_false,Bool.or_false,Bool.false_eq_true,if_false,run_askRoom,run_sizeOf' hsz,Int.toNat_natCast,e0,if_true,run_newRow']
        · simp only [Sem.run_bind,run_underlying hu,Result.andThen_ok,asInt,asIntOf,Sem.run_pure,run_typeInfo w i1,i2,Int.ofNat_eq_natCast,w1,w2,t1,t2,t3,t4,decide_false,Bool.or_false,Bool.false_eq_true,if_false,run_askRoom,run_sizeOf' hsz,Int.toNat_natCast,e0,z1,run_newRow']
      · cases hp
    · cases hp
end
end Go.Abs

namespace Go.Abs

theorem runParts_congr {tm tm' : List AV} : ∀ (ps : List (Nat × Nat × X)) (cs : List AV),(∀ p ∈ ps,p.2.2.ev tm = p.2.2.ev tm') → runParts tm cs ps = runParts tm' cs ps := by
 intro ps
 induction ps with
 | nil => intro cs _; rfl
 | cons p ps ih =>
  intro cs h
  obtain ⟨off,sz,x⟩ := p
  have h0 := h (off,sz,x) (by simp)
  simp only at h0
  simp only [runParts,h0]
  split
  ·exact ih _ (fun q hq => h q (by simp [hq]))
  ·rfl

theorem optN_congr {tm tm' : List AV} {d : Nat} {o : Option X} (h : ∀ x ∈ o.toList,x.ev tm = x.ev tm') : optN tm d o = optN tm' d o := by
 cases o with
 | none => rfl
 | some x => simp only [optN]; rw [h x (by simp)]
theorem map_ev_congr {tm tm' : List AV} {l : List X} (h : ∀ x ∈ l,x.ev tm = x.ev tm') : l.map (X.ev tm) = l.map (X.ev tm') := List.map_congr_left h

theorem stepA_congr {c : COp} {E : Env} {hp : Heap} {tm tm' : List AV} (h : ∀ x ∈ c.xs,x.ev tm = x.ev tm') : stepA c E hp tm = stepA c E hp tm' := by
  cases c <;> simp only [COp.xs,List.mem_cons,List.not_mem_nil,or_false,forall_eq_or_imp,forall_eq,List.mem_append,List.mem_map] at h
  case build zs ps =>
    simp only [stepA,s_build,runParts_congr ps zs (fun p hp => h _ ⟨p,hp,rfl⟩)]
  case bsl e size n zs ps =>
    simp only [stepA,s_bsl,runParts_congr ps _ (fun p hp => h _ ⟨p,hp,rfl⟩)]
  case mkfn f fs cs =>
    simp only [stepA,s_mkfn,map_ev_congr (l := fs) (fun x hx => h x (.inl hx)),map_ev_congr (l := cs) (fun x hx => h x (.inr hx))]
  case slSl size x lo hi mx =>
    have e1 := optN_congr (o := lo) (d := 0) (fun x hx => h.2 x (.inl (.inl hx)))
    have e2 : ∀ y,hi = some y → y.ev tm = y.ev tm' := fun y e => h.2 y (.inl (.inr (by simp [e])))
    have e3 : ∀ y,mx = some y → y.ev tm = y.ev tm' := fun y e => h.2 y (.inr (by simp [e]))
    cases hi with
    | none => cases mx with
      | none => simp only [stepA,s_slSl,h.1,e1]
      | some z => simp only [stepA,s_slSl,h.1,e1,e3 z rfl]
    | some y => cases mx with
      | none => simp only [stepA,s_slSl,h.1,e1,e2 y rfl]
      | some z => simp only [stepA,s_slSl,h.1,e1,e2 y rfl,e3 z rfl]
  case slStr x lo hi =>
    simp only [stepA,s_slStr,h.1,optN_congr (o := lo) (fun x hx => h.2 x (.inl hx)),optN_congr (o := hi) (fun x hx => h.2 x (.inr hx))]
  case slArr n size x lo hi mx =>
    simp only [stepA,s_slArr,h.1,optN_congr (o := lo) (fun x hx => h.2 x (.inl (.inl hx))),optN_congr (o := hi) (fun x hx => h.2 x (.inl (.inr hx))),optN_congr (o := mx) (fun x hx => h.2 x (.inr hx))]
  case callf f args => simp only [stepA,s_callf,map_ev_congr h]
  case callv f args => simp only [stepA,s_callv,h.1,map_ev_congr h.2]
  case inv x m args => simp only [stepA,s_inv,h.1,map_ev_congr h.2]
  case prim p args => simp only [stepA,s_prim,map_ev_congr h]
  case lib k args => simp only [stepA,s_lib,map_ev_congr h]
  case dfr f args => simp only [stepA,s_dfr,h.1,map_ev_congr h.2]
  case clone f e s n m x =>
    have hc : (X.c (.full false 0 [])).ev tm = (X.c (.full false 0 [])).ev tm' := rfl
    simp only [stepA,s_clone,s_app,h,hc]
  case mn l => simp only [stepA,s_mn,List.map_congr_left (fun x hx => congrArg intA (h x hx))]
  case mx l => simp only [stepA,s_mx,List.map_congr_left (fun x hx => congrArg intA (h x hx))]
  all_goals
    first
    | rfl
    | (simp only [stepA,s_mv,s_pick,s_box,s_load,s_store,s_nilchk,s_bin,s_un,s_cvi,s_cvS,s_cvP,s_s2b,s_b2s,s_mkif,s_mksl,s_fadd,s_fld,s_iaS,s_iaA,s_ixA,s_ixS,s_look,s_mupd,s_rng,s_nxt,s_tas,s_extr,s_len,s_cap,s_app,s_appz,
        s_copy,s_del,s_panic,s_ssd,s_uss,s_grow,s_insrt,s_delt,s_bgrow,s_i2s,s_s2a,s_clr,h]; done)
    | (simp only [stepA,s_mv,s_pick,s_box,s_load,s_store,s_nilchk,s_bin,s_un,s_cvi,s_cvS,s_cvP,s_s2b,s_b2s,s_mkif,s_mksl,s_fadd,s_fld,s_iaS,s_iaA,s_ixA,s_ixS,s_look,s_mupd,s_rng,s_nxt,s_tas,s_extr,s_len,s_cap,s_app,s_appz,
        s_copy,s_del,s_panic,s_ssd,s_uss,s_clone,s_grow,s_insrt,s_delt,s_bgrow,s_i2s,s_s2a,s_clr,h.1,h.2.1,h.2.2]; done)
    | (obtain ⟨h1,h2⟩ := h
       simp only [stepA,s_mv,s_pick,s_box,s_load,s_store,s_nilchk,s_bin,s_un,s_cvi,s_cvS,s_cvP,s_s2b,s_b2s,s_mkif,s_mksl,s_fadd,s_fld,s_iaS,s_iaA,s_ixA,s_ixS,s_look,s_mupd,s_rng,s_nxt,s_tas,s_extr,s_len,s_cap,s_app,s_appz,
        s_copy,s_del,s_panic,s_ssd,s_uss,s_clone,s_grow,s_insrt,s_delt,s_bgrow,s_i2s,s_s2a,s_clr,h1,h2]; done)
    | skip

theorem pushAt_congr {c : COp} {b : Nat} {tm tm' : List AV} (h : ∀ x ∈ c.xs,x.ev tm = x.ev tm') : pushAt c tm b = pushAt c tm' b := by
 cases c <;> simp only [COp.xs,List.mem_cons,List.not_mem_nil,or_false,forall_eq_or_imp,forall_eq,List.mem_append,List.mem_map] at h <;> first
  | rfl
  | (simp only [pushAt,h]; done)
  | (obtain ⟨h1,h2⟩ := h; simp only [pushAt,h1,h2]; done)
  | (simp only [pushAt,runParts_congr _ _ (fun p hp => h _ ⟨p,hp,rfl⟩)]; done)

theorem heapDep_congr {c : COp} {tm tm' : List AV} (h : ∀ x ∈ c.xs,x.ev tm = x.ev tm') : heapDep tm c = heapDep tm' c := by
 cases c <;> simp only [COp.xs,List.mem_cons,List.not_mem_nil,or_false,forall_eq_or_imp,forall_eq,List.mem_append,List.mem_map] at h <;> first
  | rfl
  | (simp only [heapDep,h]; done)
  | (obtain ⟨h1,h2⟩ := h; simp only [heapDep,h1,h2]; done)

theorem still_same {c : COp} {E : Env} {h h' : Heap} {tm : List AV} {v : AV} (hs : still c = true) (hr : stepA c E h tm = .val v h') : h' = h := by
 cases c <;> simp only [still,Bool.false_eq_true] at hs <;> revert hr <;>
  simp only [stepA,s_mv,s_pick,s_load,s_nilchk,s_bin,s_un,s_cvi,s_cvS,s_b2s,s_mkif,s_mkfn,s_build,s_slSl,s_slStr,s_slArr,s_fadd,s_fld,s_iaS,s_iaA,s_ixA,s_ixS,s_look,s_tas,s_extr,s_len,s_lenK,s_cap,s_mn,s_mx,s_i2s,s_s2a,ov] <;>
  (repeat' split) <;> (intro hr; cases hr) <;> rfl

def reheap (h : Heap) : St1 → St1
 | .val v _ => .val v h
 | s => s

theorem still_reheap {c : COp} {E : Env} {h1 h2 : Heap} {tm : List AV} (hs : still c = true) (hd : heapDep tm c = false) : stepA c E h2 tm = reheap h2 (stepA c E h1 tm) := by
 cases c <;> simp only [still,Bool.false_eq_true] at hs
 case load ag n a =>
  simp only [stepA,s_load]
  have : loadA E.glob h2 ag n (a.ev tm) = loadA E.glob h1 ag n (a.ev tm) := by
   simp only [heapDep] at hd
   unfold loadA
   split
   ·rename_i hx; rw [hx] at hd; cases hd
   ·rfl
   ·rfl
   ·rfl
  rw [this]
  cases loadA E.glob h1 ag n (a.ev tm) <;> rfl
 case look kk ag zs ok m k =>
  simp only [heapDep] at hd
  simp only [stepA,s_look]
  cases hm : m.ev tm
  case mapr b => rw [hm] at hd; cases hd
  case d x =>
   cases hk : strip (k.ev tm) with
   | none => rfl
   | some kd => cases x <;> simp only <;> (repeat' split) <;> first | rfl | simp_all [reheap]
  all_goals
   cases hk : strip (k.ev tm) with
   | none => rfl
   | some kd => rfl
 case len k x =>
  simp only [heapDep] at hd
  simp only [stepA,s_len]
  cases hm : x.ev tm <;> rw [hm] at hd <;> first
   | (cases hd; done)
   | ((repeat' split) <;> first | rfl | simp_all)
 case b2s x =>
  simp only [heapDep] at hd
  simp only [stepA,s_b2s]
  have : slView h2 1 (x.ev tm) = slView h1 1 (x.ev tm) := by
   cases hm : x.ev tm <;> rw [hm] at hd <;> first
    | (cases hd; done)
    | (unfold slView; split <;> first | rfl | simp_all)
  rw [this]
  (repeat' split) <;> first | rfl | simp_all [reheap]
 all_goals
  simp only [stepA,s_mv,s_pick,s_nilchk,s_bin,s_un,s_cvi,s_cvS,s_mkif,s_mkfn,s_build,s_slSl,s_slStr,s_slArr,s_fadd,s_fld,s_iaS,s_iaA,s_ixA,s_ixS,s_tas,s_extr,s_lenK,s_cap,s_mn,s_mx,s_i2s,s_s2a,ov]
  first
  | rfl
  | ((repeat' split) <;> first | rfl | simp_all [reheap])

theorem kindEq_true {j k : IntKind} (h : kindEq j k = true) : j = k := by
 have := Nat.eq_of_beq_eq_true h
 cases j <;> cases k <;> simp [kindNo] at this <;> rfl
theorem iEq_true {x y : Int} (h : iEq x y = true) : x = y := by
 cases x <;> cases y <;> simp [iEq] at h <;> simp [h]
theorem fnEq_true {f g : Fn} (h : fnEq f g = true) : f = g := by
 unfold fnEq at h
 split at h
 ·rw [Nat.eq_of_beq_eq_true h]
 ·rw [Nat.eq_of_beq_eq_true h]
 ·exact of_decide_eq_true h
theorem fnEq_refl (f : Fn) : fnEq f f = true := by
 unfold fnEq
 split
 ·simp_all
 ·simp_all
 ·simp_all
theorem strEq_true {x y : List UInt8} (h : strEq x y = true) : x = y := by simpa [strEq] using h

mutual
theorem dvEq_true {a b : DV} (h : dvEq a b = true) : a = b := by
 cases a with
 | b x => cases b <;> simp [dvEq] at h <;> simp [h]
 | i k n =>
  cases b with
  | i k' n' =>
   simp only [dvEq,Bool.and_eq_true] at h
   rw [kindEq_true h.1,iEq_true h.2]
  | _ => simp [dvEq] at h
 | s x =>
  cases b with
  | s y => simp only [dvEq] at h; rw [strEq_true h]
  | _ => simp [dvEq] at h
 | nilp => cases b <;> simp [dvEq] at h <;> rfl
 | nilf => cases b <;> simp [dvEq] at h <;> rfl
 | nili => cases b <;> simp [dvEq] at h <;> rfl
 | nilm => cases b <;> simp [dvEq] at h <;> rfl
 | nsl => cases b <;> simp [dvEq] at h <;> rfl
 | sl p n x =>
  cases b with
  | sl q m y =>
   simp only [dvEq,Bool.and_eq_true,beq_iff_eq] at h
   rw [h.1.1,nbeq h.1.2,dvEqL_true h.2]
  | _ => simp [dvEq] at h
 | bx p x n =>
  cases b with
  | bx q y m =>
   simp only [dvEq,Bool.and_eq_true,beq_iff_eq] at h
   rw [h.1.1,nbeq h.1.2,dvEqL_true h.2]
  | _ => simp [dvEq] at h
 | fn f x y =>
  cases b with
  | fn g u v =>
   simp only [dvEq,Bool.and_eq_true] at h
   rw [fnEq_true h.1.1,dvEqL_true h.1.2,dvEqL_true h.2]
  | _ => simp [dvEq] at h
 | ifc t x =>
  cases b with
  | ifc u y =>
   simp only [dvEq,Bool.and_eq_true] at h
   rw [show t = u from nbeq h.1,dvEq_true h.2]
  | _ => simp [dvEq] at h
 | agg x =>
  cases b with
  | agg y => simp only [dvEq] at h; rw [dvEqL_true h]
  | _ => simp [dvEq] at h
theorem dvEqL_true {a b : List DV} (h : dvEqL a b = true) : a = b := by
 cases a with
 | nil => cases b with
  | nil => rfl
  | cons _ _ => simp [dvEqL] at h
 | cons x r => cases b with
  | nil => simp [dvEqL] at h
  | cons y q =>
   simp only [dvEqL,Bool.and_eq_true] at h
   rw [dvEq_true h.1,dvEqL_true h.2]
end
mutual
theorem avEq_true {a b : AV} (h : avEq a b = true) : a = b := by
 cases a with
 | d x =>
  cases b with
  | d y => simp only [avEq] at h; rw [dvEq_true h]
  | _ => simp [avEq] at h
 | nilsl => cases b <;> simp [avEq] at h <;> rfl
 | app t g n x =>
  cases b with
  | app u k m y =>
   simp only [avEq,Bool.and_eq_true] at h
   rw [nbeq h.1.1.1,nbeq h.1.1.2,nbeq h.1.2,dvEqL_true h.2]
  | _ => simp [avEq] at h
 | full p n x =>
  cases b with
  | full q m y =>
   simp only [avEq,Bool.and_eq_true,beq_iff_eq] at h
   rw [h.1.1,nbeq h.1.2,dvEqL_true h.2]
  | _ => simp [avEq] at h
 | ptr x y =>
  cases b with
  | ptr u v =>
   simp only [avEq,Bool.and_eq_true] at h
   rw [nbeq h.1,nbeq h.2]
  | _ => simp [avEq] at h
 | glob x y =>
  cases b with
  | glob u v =>
   simp only [avEq,Bool.and_eq_true] at h
   rw [nbeq h.1,nbeq h.2]
  | _ => simp [avEq] at h
 | sref x1 x2 x3 x4 x5 x6 =>
  cases b with
  | sref y1 y2 y3 y4 y5 y6 =>
   simp only [avEq,Bool.and_eq_true,beq_iff_eq] at h
   rw [nbeq h.1.1.1.1.1,nbeq h.1.1.1.1.2,nbeq h.1.1.1.2,nbeq h.1.1.2,nbeq h.1.2,h.2]
  | _ => simp [avEq] at h
 | ifc t x =>
  cases b with
  | ifc u y =>
   simp only [avEq,Bool.and_eq_true] at h
   rw [show t = u from nbeq h.1,avEq_true h.2]
  | _ => simp [avEq] at h
 | agg x =>
  cases b with
  | agg y => simp only [avEq] at h; rw [avEqL_true h]
  | _ => simp [avEq] at h
 | tup x =>
  cases b with
  | tup y => simp only [avEq] at h; rw [avEqL_true h]
  | _ => simp [avEq] at h
 | mapr x =>
  cases b with
  | mapr y => simp only [avEq] at h; rw [nbeq h]
  | _ => simp [avEq] at h
 | fn f x y =>
  cases b with
  | fn g u v =>
   simp only [avEq,Bool.and_eq_true] at h
   rw [fnEq_true h.1.1,avEqL_true h.1.2,avEqL_true h.2]
  | _ => simp [avEq] at h
 | tptr t g e x =>
  cases b with
  | tptr u k f y =>
   simp only [avEq,Bool.and_eq_true] at h
   rw [nbeq h.1.1.1,nbeq h.1.1.2,show e = f from nbeq h.1.2,dvEqL_true h.2]
  | _ => simp [avEq] at h
 | itr x =>
  cases b with
  | itr y => simp only [avEq] at h; rw [nbeq h]
  | _ => simp [avEq] at h
 | und => cases b <;> simp [avEq] at h <;> rfl
theorem avEqL_true {a b : List AV} (h : avEqL a b = true) : a = b := by
 cases a with
 | nil => cases b with
  | nil => rfl
  | cons _ _ => simp [avEqL] at h
 | cons x r => cases b with
  | nil => simp [avEqL] at h
  | cons y q =>
   simp only [avEqL,Bool.and_eq_true] at h
   rw [avEq_true h.1,avEqL_true h.2]
end
theorem kindEq_refl (k : IntKind) : kindEq k k = true := by cases k <;> rfl
theorem iEq_refl (x : Int) : iEq x x = true := by cases x <;> simp [iEq]
mutual
theorem dvEq_refl : ∀ a : DV,dvEq a a = true
 | .b x => by simp [dvEq]
 | .i k n => by simp [dvEq,kindEq_refl,iEq_refl]
 | .s x => by simp [dvEq,strEq]
 | .nilp => rfl
 | .nilf => rfl
 | .nili => rfl
 | .nilm => rfl
 | .nsl => rfl
 | .sl _ _ x => by simp [dvEq,dvEqL_refl x]
 | .bx _ x _ => by simp [dvEq,dvEqL_refl x]
 | .agg x => by simp [dvEq,dvEqL_refl x]
 | .ifc _ x => by simp [dvEq,dvEq_refl x]
 | .fn f a b => by simp [dvEq,fnEq_refl,dvEqL_refl a,dvEqL_refl b]
theorem dvEqL_refl : ∀ a : List DV,dvEqL a a = true
 | [] => rfl
 | a :: r => by simp [dvEqL,dvEq_refl a,dvEqL_refl r]
end
mutual
theorem avEq_refl : ∀ a : AV,avEq a a = true
 | .d x => by simp [avEq,dvEq_refl]
 | .nilsl => rfl
 | .app _ _ _ x => by simp [avEq,dvEqL_refl]
 | .full _ _ x => by simp [avEq,dvEqL_refl]
 | .ptr _ _ => by simp [avEq]
 | .glob _ _ => by simp [avEq]
 | .sref _ _ _ _ _ _ => by simp [avEq]
 | .tptr _ _ e x => by simp [avEq,dvEqL_refl,show Nat.beq e e = true from Nat.beq_refl e]
 | .fn f a b => by simp [avEq,fnEq_refl,avEqL_refl a,avEqL_refl b]
 | .ifc t a => by simp [avEq,avEq_refl a,show Nat.beq t t = true from Nat.beq_refl t]
 | .agg x => by simp [avEq,avEqL_refl x]
 | .tup x => by simp [avEq,avEqL_refl x]
 | .mapr _ => by simp [avEq]
 | .itr _ => by simp [avEq]
 | .und => rfl
theorem avEqL_refl : ∀ a : List AV,avEqL a a = true
 | [] => rfl
 | a :: r => by simp [avEqL,avEq_refl a,avEqL_refl r]
end
end Go.Abs

namespace Go.Abs
def upd (h : Heap) : List (Nat × Blk) → Heap
 | [] => h
 | (i,b) :: r => upd (match Nat.blt i h.n with
  | true => h.set i b
  | false => h.push b) r
def mapEq : List (DV × AV) → List (DV × AV) → Bool
 | [],[] => true
 | (a,x) :: r,(b,y) :: s => dvEq a b && avEq x y && mapEq r s
 | _,_ => false
def blkEq : Blk → Blk → Bool
 | .cells f e c,.cells f' e' c' => (f == f') && Nat.beq e e' && avEqL c c'
 | .tok g e,.tok g' e' => Nat.beq g g' && Nat.beq e e'
 | .map x,.map y => mapEq x y
 | .dead,.dead => true
 | _,_ => false
def oblkEq : Option Blk → Option Blk → Bool
 | none,none => true
 | some a,some b => blkEq a b
 | _,_ => false
def trEq : Tr Blk → Tr Blk → Bool
 | .lf,.lf => true
 | .nd v l r,.nd v' l' r' => oblkEq v v' && trEq l l' && trEq r r'
 | _,_ => false
def heapEq (a b : Heap) : Bool := trEq a.t b.t && Nat.beq a.n b.n
theorem mapEq_true : ∀ {x y : List (DV × AV)},mapEq x y = true → x = y := by
 intro x
 induction x with
 | nil => intro y h; cases y with
  | nil => rfl
  | cons b s => cases h
 | cons a r ih =>
  intro y h
  cases y with
  | nil => cases h
  | cons b s =>
   obtain ⟨a1,a2⟩ := a
   obtain ⟨b1,b2⟩ := b
   simp only [mapEq,Bool.and_eq_true] at h
   rw [dvEq_true h.1.1,avEq_true h.1.2,ih h.2]
theorem blkEq_true {a b : Blk} (h : blkEq a b = true) : a = b := by
 unfold blkEq at h
 split at h
 ·simp only [Bool.and_eq_true,beq_iff_eq] at h
  rw [h.1.1,Nat.eq_of_beq_eq_true h.1.2,avEqL_true h.2]
 ·simp only [Bool.and_eq_true] at h
  rw [Nat.eq_of_beq_eq_true h.1,Nat.eq_of_beq_eq_true h.2]
 ·rw [mapEq_true h]
 ·rfl
 ·cases h
theorem oblkEq_true {a b : Option Blk} (h : oblkEq a b = true) : a = b := by
 unfold oblkEq at h
 split at h
 ·rfl
 ·rw [blkEq_true h]
 ·cases h
theorem trEq_true : ∀ {a b : Tr Blk},trEq a b = true → a = b := by
 intro a
 induction a with
 | lf => intro b h; cases b with
  | lf => rfl
  | nd => cases h
 | nd v l r il ir =>
  intro b h
  cases b with
  | lf => cases h
  | nd v' l' r' =>
   simp only [trEq,Bool.and_eq_true] at h
   rw [oblkEq_true h.1.1,il h.1.2,ir h.2]
theorem heapEq_true {a b : Heap} (h : heapEq a b = true) : a = b := by
 simp only [heapEq,Bool.and_eq_true] at h
 cases a; cases b
 simp only at h
 rw [trEq_true h.1,Nat.eq_of_beq_eq_true h.2]
def chkC (r : CRes) (v : AV) (h : Heap) : Bool := match r with
 | some (.nrm,v',h') => avEq v' v && heapEq h' h
 | _ => false
theorem Cal.chk {E : Env} {n : Nat} {f : FuncId} {args : List AV} {h h' : Heap} {v : AV} (hc : chkC (callTop E n f args h) v h' = true) : Cal E f args h (.nrm,v,h') := by
 refine ⟨n,?_⟩
 unfold chkC at hc
 split at hc
 ·rename_i hr
  simp only [Bool.and_eq_true] at hc
  rw [hr,avEq_true hc.1,heapEq_true hc.2]
 ·cases hc
end Go.Abs

namespace Go.Abs
def AC.fst : AC → AC
 | .seq a _ => a
 | .blk _ a => a
 | .loop a => a
 | _ => .bad
def AC.snd : AC → AC
 | .seq _ b => b
 | _ => .bad
def AC.ops : AC → List AOp
 | .reg l => l
 | _ => []
def AC.rfs : AC → List AC
 | .seq a b => a.rfs ++ b.rfs
 | .cond _ a b => a.rfs ++ b.rfs
 | .blk _ a => a.rfs
 | .loop a => a.rfs
 | .rfun g ps a b => .rfun g ps a b :: (a.rfs ++ b.rfs)
 | _ => []
def rfAt (c : AC) (k : Nat) : AC := c.rfs.getD k .bad
def AC.asg : AC → AC
 | .rfun _ _ a _ => a
 | _ => .bad
def AC.bdy : AC → AC
 | .rfun _ _ _ b => b
 | _ => .bad
def AC.prs : AC → List Nat
 | .rfun _ ps _ _ => ps
 | _ => []
def exNo : Ex → Nat
 | .nrm => 0
 | .ret => 1
 | .exit n => n + 2
 | .pan _ => 1000000
def noEx : Nat → Ex
 | 0 => .nrm
 | 1 => .ret
 | n + 2 => .exit n
def tmEq : List AV → List AV → Bool
 | [],[] => true
 | .und :: r,.und :: s => tmEq r s
 | a :: r,b :: s => avEq a b && tmEq r s
 | _,_ => false
theorem tmEq_true : ∀ {a b : List AV},tmEq a b = true → a = b := by
 intro a
 induction a with
 | nil => intro b h; cases b with
  | nil => rfl
  | cons => simp [tmEq] at h
 | cons x r ih =>
  intro b h
  cases b with
  | nil => simp [tmEq] at h
  | cons y s =>
   by_cases hu : x = .und ∧ y = .und
   ·obtain ⟨rfl,rfl⟩ := hu
    simp only [tmEq] at h
    rw [ih h]
   ·have : avEq x y = true ∧ tmEq r s = true := by
     unfold tmEq at h
     split at h <;> simp_all
    rw [avEq_true this.1,ih this.2]
def chkR (r : Res) (e : Nat) (tm : List AV) (h : Heap) : Bool := match r with
 | some (ex,⟨tm',[],none⟩,h') => Nat.beq (exNo ex) e && Nat.blt e 1000000 && tmEq tm' tm && heapEq h' h
 | _ => false
theorem chkR_run {r : Res} {e : Nat} {tm : List AV} {h : Heap} (hc : chkR r e tm h = true) : r = some (noEx e,⟨tm,[],none⟩,h) := by
 unfold chkR at hc
 split at hc
 ·rename_i ex tm' h'
  simp only [Bool.and_eq_true] at hc
  obtain ⟨⟨⟨h1,h2⟩,h3⟩,h4⟩ := hc
  have h1 := Nat.eq_of_beq_eq_true h1
  have h2 : e < 1000000 := Nat.le_of_ble_eq_true h2
  rw [tmEq_true h3,heapEq_true h4]
  subst h1
  cases ex with
  | nrm => rfl
  | ret => rfl
  | exit n => rfl
  | pan v => simp only [exNo] at h2; omega
 ·cases hc
def isN : Res → Bool
 | some (.nrm,⟨_,[],none⟩,_) => true
 | _ => false
def tmOf : Res → List AV
 | some (_,⟨tm,_,_⟩,_) => tm
 | _ => []
def hpOf : Res → Heap
 | some (_,_,h) => h
 | _ => .empty
theorem isN_run {r : Res} (hc : isN r = true) : r = some (.nrm,⟨tmOf r,[],none⟩,hpOf r) := by
 unfold isN at hc
 split at hc
 ·rfl
 ·cases hc
section
variable {E : Env} {n : Nat} {c : AC} {tm tm' : List AV} {h h' : Heap} {Q : Ex → List AV → Heap → Prop}
theorem wpC.run {ex : Ex} (hr : runF E n c ⟨tm,[],none⟩ h = some (ex,⟨tm',[],none⟩,h')) (q : Q ex tm' h') : wpC E c tm h Q := ⟨n,_,_,_,hr,_,rfl,q⟩
theorem wpC.chk {e : Nat} (hc : chkR (runF E n c ⟨tm,[],none⟩ h) e tm' h' = true) (q : Q (noEx e) tm' h') : wpC E c tm h Q := .run (chkR_run hc) q
theorem wpC.nrm (hc : isN (runF E n c ⟨tm,[],none⟩ h) = true) (q : Q .nrm (tmOf (runF E n c ⟨tm,[],none⟩ h)) (hpOf (runF E n c ⟨tm,[],none⟩ h))) : wpC E c tm h Q := .run (isN_run hc) q
theorem wpC.rnd {a : AC} (w : wpC E a tm h (Then E (.loop a) Q)) : wpC E (.loop a) tm h Q := by
 refine WC.loop (WC.mono w ?_)
 rintro ex fr h ⟨tm',rfl,q⟩
 refine ⟨fun e => ?_,fun e => ⟨tm',rfl,?_⟩⟩
 ·subst e; exact q
 ·cases ex <;> first | exact absurd rfl e | exact q
theorem wpC.op {dst : Option Nat} {op : COp} {g : Option (Nat × Bool)} {r : List AOp} {c : AC} {v : AV} {h1 : Heap} (hw : wanted tm g = true) (hs : stepA op E h tm = .val v h1) (w : wpC E (.seq (.reg r) c) (setD tm dst v) h1 Q) :
  wpC E (.seq (.reg (⟨dst,op,g⟩ :: r)) c) tm h Q := by
 obtain ⟨n,ex,fr',h',hr,q⟩ := w
 cases n with
 | zero => cases hr
 | succ n =>
 rw [runF_succ] at hr
 simp only [stepC] at hr
 cases n with
 | zero => cases hr
 | succ n =>
 rw [runF_succ n (.reg r)] at hr
 simp only [stepC] at hr
 have hput : putD ⟨tm,[],none⟩ dst v = ⟨setD tm dst v,[],none⟩ := by cases dst <;> rfl
 refine ⟨n + 2,ex,fr',h',?_,q⟩
 rw [runF_succ]
 simp only [stepC]
 rw [runF_succ n (.reg _)]
 simp only [stepC]
 have : runOps E (runF E n) (⟨dst,op,g⟩ :: r) ⟨tm,[],none⟩ h = runOps E (runF E n) r ⟨setD tm dst v,[],none⟩ h1 := by
  show doOp E (runF E n) ⟨dst,op,g⟩ (runOps E (runF E n) r) ⟨tm,[],none⟩ h = _
  simp only [doOp,hw,hs,doSt,hput]
 rw [this]
 exact hr
end
end Go.Abs

namespace Go.Abs
section
variable {n : Nat} {b : List Nat} {dsts : List (Nat × Nat)}

theorem subB_spec {x m : Nat} (h : subB x m = true) (j : Nat) (hj : x.testBit j = true) : m.testBit j = true := by
 have e := Nat.eq_of_beq_eq_true h
 have : (x &&& m).testBit j = true := by show (Nat.land x m).testBit j = true; rw [e]; exact hj
 rw [Nat.testBit_and] at this
 simp only [Bool.and_eq_true] at this
 exact this.2

theorem lor_spec (x k j : Nat) : (Nat.lor x (2 ^ k)).testBit j = (x.testBit j || decide (k = j)) := by
 show (x ||| 2 ^ k).testBit j = _
 rw [Nat.testBit_or,Nat.testBit_two_pow]

structure Head (n : Nat) (b : List Nat) (dsts : List (Nat × Nat)) (d : DOp) (seen ef pend : Nat) : Prop where
 lt : d.no < n
 bef : ∀ j,(b.getD d.no 0).testBit j = true → seen.testBit j = true
 new : seen.testBit d.no = false
 chain : d.eff = true → (∀ j,ef.testBit j = true → (b.getD d.no 0).testBit j = true) ∧ ∀ j,pend.testBit j = true → (b.getD d.no 0).testBit j = true
 looks : ∀ t ∈ tmpsOf d,∀ j,(t,j) ∈ dsts → (b.getD d.no 0).testBit j = true ∨ (b.getD j 0).testBit d.no = true ∨ j = d.no

theorem chk_cons {d : DOp} {r : List DOp} {seen ef pend : Nat} (h : chkGo n b dsts (d :: r) seen ef pend = true) :
  Head n b dsts d seen ef pend ∧ chkGo n b dsts r (Nat.lor seen (2 ^ d.no)) (if d.eff then Nat.lor ef (2 ^ d.no) else ef) (if d.eff then 0 else Nat.lor pend (2 ^ d.no)) = true := by
 simp only [chkGo,Bool.and_eq_true,Bool.not_eq_true'] at h
 obtain ⟨⟨⟨⟨⟨h1,h2⟩,h3⟩,h4⟩,h5⟩,h6⟩ := h
 refine ⟨⟨blt_lt h1,subB_spec h2,h3,fun e => ?_,fun t ht j hj => ?_⟩,?_⟩
 ·rw [e] at h4
  simp only [Bool.and_eq_true] at h4
  exact ⟨subB_spec h4.1,subB_spec h4.2⟩
 ·rw [List.all_eq_true] at h5
  have := h5 t ht
  rw [List.all_eq_true] at this
  have := this (t,j) hj
  simp only [Bool.or_eq_true,Bool.not_eq_true'] at this
  rcases this with ((h | h) | h) | h
  ·rw [Nat.beq_refl] at h; cases h
  ·exact .inl h
  ·exact .inr (.inl h)
  ·exact .inr (.inr (nbeq h))
 ·cases he : d.eff <;> rw [he] at h6 <;> simpa using h6

theorem chk_notin : ∀ {L : List DOp} {seen ef pend : Nat},chkGo n b dsts L seen ef pend = true → ∀ x ∈ L,seen.testBit x.no = false := by
 intro L
 induction L with
 | nil => intro seen ef pend _ x hx; cases hx
 | cons d r ih =>
  intro seen ef pend h x hx
  obtain ⟨hd,hr⟩ := chk_cons h
  rcases List.mem_cons.1 hx with rfl | hx
  ·exact hd.new
  ·have := ih hr x hx
   rw [lor_spec] at this
   simp only [Bool.or_eq_false_iff] at this
   exact this.1

theorem chk_all : ∀ {L : List DOp} {seen ef pend : Nat},chkGo n b dsts L seen ef pend = true → ∀ i,i < n → seen.testBit i = true ∨ ∃ x ∈ L,x.no = i := by
 intro L
 induction L with
 | nil =>
  intro seen ef pend h i hi
  have e := Nat.eq_of_beq_eq_true h
  left
  rw [e,Nat.testBit_two_pow_sub_one]
  simpa using hi
 | cons d r ih =>
  intro seen ef pend h i hi
  obtain ⟨_,hr⟩ := chk_cons h
  rcases ih hr i hi with h1 | ⟨x,hx,e⟩
  ·rw [lor_spec] at h1
   simp only [Bool.or_eq_true,decide_eq_true_eq] at h1
   rcases h1 with h1 | h1
   ·exact .inl h1
   ·exact .inr ⟨d,by simp,h1⟩
  ·exact .inr ⟨x,List.mem_cons_of_mem _ hx,e⟩

theorem chk_lt : ∀ {L : List DOp} {seen ef pend : Nat},chkGo n b dsts L seen ef pend = true → ∀ x ∈ L,x.no < n := by
 intro L
 induction L with
 | nil => intro seen ef pend _ x hx; cases hx
 | cons d r ih =>
  intro seen ef pend h x hx
  obtain ⟨hd,hr⟩ := chk_cons h
  rcases List.mem_cons.1 hx with rfl | hx
  ·exact hd.lt
  ·exact ih hr x hx

theorem chk_inj : ∀ {L : List DOp} {seen ef pend : Nat},chkGo n b dsts L seen ef pend = true → ∀ x ∈ L,∀ y ∈ L,x.no = y.no → x = y := by
 intro L
 induction L with
 | nil => intro seen ef pend _ x hx; cases hx
 | cons d r ih =>
  intro seen ef pend h x hx y hy e
  obtain ⟨hd,hr⟩ := chk_cons h
  have hne : ∀ z ∈ r,z.no ≠ d.no := by
   intro z hz e
   have := chk_notin hr z hz
   rw [lor_spec,e] at this
   simp at this
  rcases List.mem_cons.1 hx with hx1 | hx1 <;> rcases List.mem_cons.1 hy with hy1 | hy1
  ·rw [hx1,hy1]
  ·subst hx1; exact absurd e.symm (hne y hy1)
  ·subst hy1; exact absurd e (hne x hx1)
  ·exact ih hr x hx1 y hy1 e

def Cl (b : List Nat) (S : Nat → Bool) : Prop := ∀ i j,S i = true → (b.getD i 0).testBit j = true → S j = true

theorem Cl.add {S : Nat → Bool} (h : Cl b S) {i : Nat} (hb : ∀ j,(b.getD i 0).testBit j = true → S j = true) : Cl b (fun j => S j || decide (j = i)) := by
 intro a j ha hj
 simp only [Bool.or_eq_true,decide_eq_true_eq] at ha ⊢
 rcases ha with ha | rfl
 ·exact .inl (h a j ha hj)
 ·exact .inl (hb j hj)

theorem chk_advance {S : Nat → Bool} (hS : Cl b S) {d : DOp} {L2 : List DOp} (hd : ∀ j,(b.getD d.no 0).testBit j = true → S j = true) (he : d.eff = true) : ∀ {L1 : List DOp} {seen ef pend : Nat},chkGo n b dsts (L1 ++ d :: L2) seen ef pend = true →
  (∀ j,pend.testBit j = true → S j = true) ∧ (∀ x ∈ L1,S x.no = true) ∧ ∀ j,ef.testBit j = true → S j = true := by
 intro L1
 induction L1 with
 | nil =>
  intro seen ef pend h
  obtain ⟨hh,_⟩ := chk_cons h
  obtain ⟨c1,c2⟩ := hh.chain he
  exact ⟨fun j hj => hd j (c2 j hj),(fun x hx => by cases hx),fun j hj => hd j (c1 j hj)⟩
 | cons x r ih =>
  intro seen ef pend h
  obtain ⟨hh,hr⟩ := chk_cons h
  obtain ⟨i1,i2,i3⟩ := ih hr
  cases hx : x.eff with
  | true =>
   rw [hx] at i3
   simp only [if_true] at i3
   have hxS : S x.no = true := i3 x.no (by rw [lor_spec]; simp)
   refine ⟨fun j hj => ?_,fun y hy => ?_,fun j hj => i3 j (by rw [lor_spec,hj]; rfl)⟩
   ·exact hS _ _ hxS ((hh.chain hx).2 j hj)
   ·rcases List.mem_cons.1 hy with rfl | hy
    ·exact hxS
    ·exact i2 y hy
  | false =>
   rw [hx] at i1 i3
   simp only [Bool.false_eq_true,if_false] at i1 i3
   refine ⟨fun j hj => i1 j (by rw [lor_spec,hj]; rfl),fun y hy => ?_,i3⟩
   rcases List.mem_cons.1 hy with rfl | hy
   ·exact i1 y.no (by rw [lor_spec]; simp)
   ·exact i2 y hy

theorem chk_next {S : Nat → Bool} : ∀ {L : List DOp} {seen ef pend : Nat},chkGo n b dsts L seen ef pend = true → (∀ j,seen.testBit j = true → S j = true) → ∀ i,i < n → S i = false →
  ∃ x,x < n ∧ S x = false ∧ ∀ j,(b.getD x 0).testBit j = true → S j = true := by
 intro L
 induction L with
 | nil =>
  intro seen ef pend h hs i hi hn
  rcases chk_all h i hi with h1 | ⟨x,hx,_⟩
  ·rw [hs i h1] at hn; cases hn
  ·cases hx
 | cons d r ih =>
  intro seen ef pend h hs i hi hn
  obtain ⟨hh,hr⟩ := chk_cons h
  cases hd : S d.no with
  | false => exact ⟨d.no,hh.lt,hd,fun j hj => hs j (hh.bef j hj)⟩
  | true =>
   refine ih hr (fun j hj => ?_) i hi hn
   rw [lor_spec] at hj
   simp only [Bool.or_eq_true,decide_eq_true_eq] at hj
   rcases hj with hj | rfl
   ·exact hs j hj
   ·exact hd

inductive Sched (n : Nat) (b : List Nat) : (Nat → Bool) → List Nat → Prop
 | nil (S : Nat → Bool) (h : ∀ i,i < n → S i = true) : Sched n b S []
 | cons (S : Nat → Bool) (i : Nat) (r : List Nat) (hi : i < n) (hn : S i = false) (hb : ∀ j,(b.getD i 0).testBit j = true → S j = true) (hr : Sched n b (fun j => S j || decide (j = i)) r) : Sched n b S (i :: r)
end

theorem fold_bits (acc : List Nat) : ∀ (es : List Edge) (s j : Nat),(es.foldl (fun s e => if Region.binds .any e then s ||| 2 ^ e.on ||| acc.getD e.on 0 else s) s).testBit j = true ↔
  s.testBit j = true ∨ ∃ e ∈ es,Region.binds .any e = true ∧ (j = e.on ∨ (acc.getD e.on 0).testBit j = true) := by
 intro es
 induction es with
 | nil => intro s j; simp
 | cons e es ih =>
  intro s j
  rw [List.foldl_cons,ih]
  by_cases hb : Region.binds .any e = true
  ·rw [if_pos hb]
   rw [Nat.testBit_or,Nat.testBit_or,Nat.testBit_two_pow]
   simp only [Bool.or_eq_true,decide_eq_true_eq,List.mem_cons,exists_eq_or_imp,hb,true_and]
   constructor
   ·rintro (((h | h) | h) | h)
    ·exact .inl h
    ·exact .inr (.inl (.inl h.symm))
    ·exact .inr (.inl (.inr h))
    ·exact .inr (.inr h)
   ·rintro (h | (h | h) | h)
    ·exact .inl (.inl (.inl h))
    ·exact .inl (.inl (.inr h.symm))
    ·exact .inl (.inr h)
    ·exact .inr h
  ·rw [if_neg hb]
   simp only [List.mem_cons,exists_eq_or_imp,hb]
   simp

theorem befGo_spec : ∀ (l : List Oper) (acc : List Nat),(befGo l acc).length = acc.length + l.length ∧ (∀ i,i < acc.length → (befGo l acc).getD i 0 = acc.getD i 0) ∧
  ∀ k (hk : k < l.length),(befGo l acc).getD (acc.length + k) 0 = bitsOf l[k] ((befGo l acc).take (acc.length + k)) := by
 intro l
 induction l with
 | nil => intro acc; exact ⟨rfl,fun i _ => rfl,fun k hk => by cases hk⟩
 | cons o r ih =>
  intro acc
  obtain ⟨i1,i2,i3⟩ := ih (acc ++ [bitsOf o acc])
  have hg : befGo (o :: r) acc = befGo r (acc ++ [bitsOf o acc]) := rfl
  rw [hg]
  have hlen : (acc ++ [bitsOf o acc]).length = acc.length + 1 := by simp
  rw [hlen] at i1 i2 i3
  have htake : ∀ m,m ≤ acc.length → (befGo r (acc ++ [bitsOf o acc])).take m = acc.take m := by
   intro m hm
   apply List.ext_getElem
   ·simp [i1]; omega
   ·intro k h1 h2
    have hk : k < acc.length := by simp at h2; omega
    have := i2 k (by omega)
    have e1 : (befGo r (acc ++ [bitsOf o acc])).getD k 0 = (befGo r (acc ++ [bitsOf o acc]))[k]'(by omega) := by simp [List.getD,show k < (befGo r (acc ++ [bitsOf o acc])).length by omega]
    have e2 : (acc ++ [bitsOf o acc]).getD k 0 = acc[k] := by simp [List.getD,List.getElem?_append_left hk,hk]
    rw [e1,e2] at this
    simpa using this
  refine ⟨by rw [i1]; simp; omega,fun i hi => ?_,fun k hk => ?_⟩
  ·rw [i2 i (by omega)]
   simp [List.getD,List.getElem?_append_left hi]
  ·cases k with
   | zero =>
    rw [Nat.add_zero,i2 acc.length (by omega),htake _ (Nat.le_refl _),List.take_length]
    simp [List.getD]
   | succ k =>
    have := i3 k (by simpa using hk)
    rw [show acc.length + (k + 1) = acc.length + 1 + k by omega]
    exact this

theorem bef_step {ops : Array Oper} {i j : Nat} (hi : i < ops.size) : ((befL ops).getD i 0).testBit j = true → ∃ e ∈ ops[i].after,Region.binds .any e = true ∧ (j = e.on ∨ ((befL ops).getD e.on 0).testBit j = true) := by
 intro h
 obtain ⟨i1,_,i3⟩ := befGo_spec ops.toList []
 have := i3 i (by simpa using hi)
 simp only [List.length_nil,Nat.zero_add,Array.getElem_toList] at this
 unfold befL at h
 rw [this] at h
 unfold bitsOf at h
 rw [fold_bits] at h
 rcases h with h | ⟨e,he,hb,h⟩
 ·simp at h
 ·refine ⟨e,by simpa using he,hb,h.imp id (fun h => ?_)⟩
  unfold befL
  simp only [List.getD,List.getElem?_take] at h
  split at h
  ·simpa [List.getD] using h
  ·simp at h
theorem bef_edge {ops : Array Oper} {i : Nat} (hi : i < ops.size) {e : Edge} (he : e ∈ ops[i].after) (hb : Region.binds .any e = true) : ((befL ops).getD i 0).testBit e.on = true := by
 obtain ⟨i1,_,i3⟩ := befGo_spec ops.toList []
 have := i3 i (by simpa using hi)
 simp only [List.length_nil,Nat.zero_add,Array.getElem_toList] at this
 unfold befL
 rw [this]
 unfold bitsOf
 rw [fold_bits]
 exact .inr ⟨e,by simpa using he,hb,.inl rfl⟩

theorem countP_lt {α : Type} {p q : α → Bool} : ∀ {l : List α},(∀ x ∈ l,q x = true → p x = true) → (∃ x ∈ l,p x = true ∧ q x = false) → l.countP q < l.countP p := by
 intro l
 induction l with
 | nil => rintro _ ⟨x,hx,_⟩; cases hx
 | cons a r ih =>
  rintro h ⟨x,hx,h1,h2⟩
  have hle : r.countP q ≤ r.countP p := List.countP_mono_left (fun y hy => h y (List.mem_cons_of_mem _ hy))
  rw [List.countP_cons,List.countP_cons]
  rcases List.mem_cons.1 hx with rfl | hx
  ·rw [h1,h2]; simp; omega
  ·have := ih (fun y hy => h y (List.mem_cons_of_mem _ hy)) ⟨x,hx,h1,h2⟩
   have ha := h a (by simp)
   cases hq : q a with
   | true => rw [ha hq]; simp; omega
   | false => cases p a <;> simp <;> omega

theorem sched_go {ops : Array Oper} {dsts : List (Nat × Nat)} {L : List DOp} (hc : chkGo ops.size (befL ops) dsts L 0 0 0 = true) : ∀ (fuel t : Nat) (listed : Array Bool),listed.size = ops.size → Cl (befL ops) (fun j => listed.getD j false) →
  (List.range ops.size).countP (fun i => !listed.getD i false) ≤ fuel → Sched ops.size (befL ops) (fun j => listed.getD j false) (Region.linearise.go .any ops fuel t listed []) := by
 intro fuel
 induction fuel with
 | zero =>
  intro t listed hsz hcl hcnt
  refine .nil _ (fun i hi => ?_)
  have h0 : (List.range ops.size).countP (fun i => !listed.getD i false) = 0 := by omega
  rw [List.countP_eq_zero] at h0
  have := h0 i (by simpa using hi)
  simpa using this
 | succ fuel ih =>
  intro t listed hsz hcl hcnt
  simp only [Region.linearise.go]
  change Sched _ _ _ (match (Region.ready .any ops listed)[t % (Region.ready .any ops listed).length]? with
   | some i => Region.linearise.go .any ops fuel (t / (Region.ready .any ops listed).length) (listed.setIfInBounds i true) [i]
   | none => [].reverse)
  have hdef : ∀ j,j < ops.size → listed.getD j true = listed.getD j false := by
   intro j hj
   simp [Array.getD_eq_getD_getElem?,show j < listed.size by omega]
  cases hi : (Region.ready .any ops listed)[t % (Region.ready .any ops listed).length]? with
  | none =>
   have hnil : Region.ready .any ops listed = [] := by
    cases hr : Region.ready .any ops listed with
    | nil => rfl
    | cons x xs =>
     rw [hr] at hi
     have hlt : t % (x :: xs).length < (x :: xs).length := Nat.mod_lt _ (by simp)
     simp at hi
     simp at hlt
     omega
   refine .nil _ (fun i hlt => ?_)
   cases hS : listed.getD i false with
   | true => rfl
   | false =>
    obtain ⟨x,x1,x2,x3⟩ := chk_next (S := fun j => listed.getD j false) hc (fun j hj => by simp at hj) i hlt hS
    have : x ∈ Region.ready .any ops listed := by
     rw [mem_ready]
     refine ⟨by rw [hdef x x1]; exact x2,ops[x],Array.getElem?_eq_getElem x1,fun e he hb => x3 _ (bef_edge x1 he hb)⟩
    rw [hnil] at this
    cases this
  | some i =>
   have hmem := List.mem_of_getElem? hi
   rw [mem_ready] at hmem
   obtain ⟨m1,o,m2,m3⟩ := hmem
   have hlt : i < ops.size := (Array.getElem?_eq_some_iff.1 m2).1
   have hoe : ops[i] = o := (Array.getElem?_eq_some_iff.1 m2).2
   rw [hdef i hlt] at m1
   simp only
   rw [linearise_go_acc,List.reverse_singleton,List.singleton_append]
   have hb : ∀ j,((befL ops).getD i 0).testBit j = true → listed.getD j false = true := by
    intro j hj
    obtain ⟨e,e1,e2,e3⟩ := bef_step hlt hj
    rw [hoe] at e1
    have := m3 e e1 e2
    rcases e3 with rfl | e3
    ·exact this
    ·exact hcl _ _ this e3
   have hset : (fun j => (listed.setIfInBounds i true).getD j false) = fun j => listed.getD j false || decide (j = i) := by
    funext j
    by_cases e : j = i
    ·subst e
     simp [Array.getD_eq_getD_getElem?,show j < listed.size by omega]
    ·simp [Array.getD_eq_getD_getElem?,Array.getElem?_setIfInBounds_ne (Ne.symm e),e]
   refine .cons _ i _ hlt m1 hb ?_
   rw [← hset]
   refine ih _ _ (by simp [hsz]) ?_ ?_
   ·rw [hset]; exact hcl.add hb
   ·have : (List.range ops.size).countP (fun j => !(listed.setIfInBounds i true).getD j false) < (List.range ops.size).countP (fun j => !listed.getD j false) := by
     refine countP_lt (fun j _ hj => ?_) ⟨i,by simpa using hlt,by simpa using m1,?_⟩
     ·have := congrFun hset j
      rw [this] at hj
      simp only [Bool.not_eq_true',Bool.or_eq_false_iff] at hj ⊢
      exact hj.1
     ·have := congrFun hset i
      rw [this]
      simp
    omega
end Go.Abs
end
