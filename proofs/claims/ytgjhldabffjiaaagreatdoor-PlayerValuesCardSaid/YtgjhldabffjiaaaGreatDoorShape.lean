/- What a value, a text, a byte and a place that come in are like, by their types. -/
import Derived.Test.YtgjhldabffjiaaaGreatDoorEG
import Derived.Test.YtgjhldabffjiaaaGreatDoorProg
import Derived.Test.YtgjhldabffjiaaaGreatDoorZF
namespace Go.Proofs.YtgjhldabffjiaaaGreatDoor
noncomputable section
open Go Go.Abs
set_option maxRecDepth 100000
theorem co5:Tryz.prog.cellsOf 5=1:=by kernel_rfl
theorem co9:Tryz.prog.cellsOf 9=1:=by kernel_rfl
theorem co2:Tryz.prog.cellsOf 2=1:=by kernel_rfl
theorem ab3:Tryz.prog.cellsOf 22=1:=by kernel_rfl
theorem Uy:Tryz.prog.cellsOf 24=4:=by kernel_rfl
theorem Uz {t:TypeId} {k:IntKind} (hu:Tryz.prog.underlying t=some (.int k)) {l:List DV} (h:yO Tryz.prog t l):∃n,l=[.i k n]∧(k.min≤n∧n≤k.max):=by
 cases h with
 |int _ k' n ht hw=> rw [hu] at ht; cases ht; exact ⟨n,rfl,hw⟩
 |bool _ x ht=> rw [hu] at ht; cases ht
 |str _ s ht hs=> rw [hu] at ht; cases ht
 |sl _ e n cells ht=> rw [hu] at ht; cases ht
 |arr _ e n cells ht=> rw [hu] at ht; cases ht
 |struct _ fs cs ht=> rw [hu] at ht; cases ht
theorem Sz {l:List DV} (h:yO Tryz.prog 5 l):∃n,l=[.i .u8 n]∧R8 n:=by
 obtain ⟨n,e,h1,h2⟩:=Uz Tryz.underlying5 h
 exact ⟨n,e,h1,h2⟩
theorem r64 {n:Int} (h:IntKind.min .i64≤n∧n≤IntKind.max .i64):R64 n:=by
 have h1:(-9223372036854775808:Int)≤n:=h.1
 have h2:n≤9223372036854775807:=h.2
 exact ⟨h1,by omega⟩
theorem ty_64 {l:List DV} (h:yO Tryz.prog 2 l):∃n,l=[.i .i64 n]∧R64 n:=by
 obtain ⟨n,e,h1⟩:=Uz Tryz.underlying2 h
 exact ⟨n,e,r64 h1⟩
theorem Oh {t:TypeId} (hu:Tryz.prog.underlying t=some .string) {l:List DV} (h:yO Tryz.prog t l):∃s,l=[.s s]:=by
 cases h with
 |int _ k' n ht hw=> rw [hu] at ht; cases ht
 |bool _ x ht=> rw [hu] at ht; cases ht
 |str _ s ht hs=> exact ⟨s,rfl⟩
 |sl _ e n cells ht=> rw [hu] at ht; cases ht
 |arr _ e n cells ht=> rw [hu] at ht; cases ht
 |struct _ fs cs ht=> rw [hu] at ht; cases ht
theorem aaG {t e:TypeId} (hu:Tryz.prog.underlying t=some (.slice e)) {l:List DV} (h:yO Tryz.prog t l):
  ∃n cells,l=[.sl true n cells]∧n≤9223372036854775807∧cells.length=n*Tryz.prog.cellsOf e∧∀i,i < n→yO Tryz.prog e ((cells.drop (i*Tryz.prog.cellsOf e)).take (Tryz.prog.cellsOf e)):=by
 cases h with
 |int _ k' n ht hw=> rw [hu] at ht; cases ht
 |bool _ x ht=> rw [hu] at ht; cases ht
 |str _ s ht hs=> rw [hu] at ht; cases ht
 |sl _ e' n cells ht hn hl h=> rw [hu] at ht; cases ht; exact ⟨n,cells,rfl,hn,hl,h⟩
 |arr _ e n cells ht=> rw [hu] at ht; cases ht
 |struct _ fs cs ht=> rw [hu] at ht; cases ht
theorem Uv {l:List DV} (h:yO Tryz.prog 25 l):∃a:Nat,l=[.i .u16 (.ofNat a)]∧a < 65536:=by
 obtain ⟨n,e,h1,h2⟩:=Uz Tryz.underlying25 h
 have h1:(0:Int)≤n:=h1
 have h2:n≤65535:=h2
 exact ⟨n.toNat,by rw [e,Int.ofNat_eq_natCast,Int.toNat_of_nonneg h1],by omega⟩
theorem Oi {n:Int} (h:R8 n):∃c:UInt8,DV.i .u8 n=byteD c:=by
 have h1:(0:Int)≤n:=h.1
 have h2:n≤255:=h.2
 refine ⟨UInt8.ofNat n.toNat,?_⟩
 unfold byteD
 rw [UInt8.toNat_ofNat',Nat.mod_eq_of_lt (by omega),Int.toNat_of_nonneg h1]
theorem ab4 {l:List DV} (h:l.length=4):∃a b c d,l=[a,b,c,d]:=by
 match l,h with
 |[a,b,c,d],_=> exact ⟨a,b,c,d,rfl⟩
theorem IK:∀{l:List ValS},(∀v∈l,Bi v)→F6 l
 |[],_=> trivial
 |v::l,h=> ⟨h v (List.mem_cons_self ..),IK fun x hx=> h x (List.mem_cons_of_mem _ hx)⟩
theorem Q8 {α:Type} [Inhabited α] {n:Nat} {Q:Nat→α→Prop} (h:∀i,i < n→∃x,Q i x):∃l:List α,l.length=n∧∀i (hi:i < l.length),Q i l[i]:=by
 refine ⟨(List.range n).map fun i=> if hi:i < n then Classical.choose (h i hi) else default,by rw [List.length_map,List.length_range],fun i hi=> ?_⟩
 have hi':i < n:=by rw [List.length_map,List.length_range] at hi; exact hi
 rw [List.getElem_map,List.getElem_range,dif_pos hi']
 exact Classical.choose_spec (h i hi')
theorem ab0:∀{t:TypeId} {l:List DV},yO Tryz.prog t l→(t=24→∃v,ValR v l∧Bi v)∧(t=22→∀n cells,l=[.sl true n cells]→∃vs:List ValS,vs.length=n∧(∀i (hi:i < vs.length),ValR vs[i] (chunk cells 4 i))∧F6 vs):=by
 intro t l h
 induction h with
 |bool t x ht=> exact ⟨fun e=> (by subst e; rw [Tryz.underlying24] at ht; cases ht),fun e=> (by subst e; rw [Tryz.underlying22] at ht; cases ht)⟩
 |int t k n ht hw=> exact ⟨fun e=> (by subst e; rw [Tryz.underlying24] at ht; cases ht),fun e=> (by subst e; rw [Tryz.underlying22] at ht; cases ht)⟩
 |str t s ht hs=> exact ⟨fun e=> (by subst e; rw [Tryz.underlying24] at ht; cases ht),fun e=> (by subst e; rw [Tryz.underlying22] at ht; cases ht)⟩
 |arr t e n cells ht hl h ih=> exact ⟨fun e=> (by subst e; rw [Tryz.underlying24] at ht; cases ht),fun e=> (by subst e; rw [Tryz.underlying22] at ht; cases ht)⟩
 |sl t e n cells ht hn hl h ih=>
  refine ⟨fun e=> (by subst e; rw [Tryz.underlying24] at ht; cases ht),fun e=> ?_⟩
  subst e
  rw [Tryz.underlying22] at ht
  cases ht
  rintro n' ab5 he
  cases he
  haveI:Inhabited ValS:=⟨.mk 0 0 [] []⟩
  obtain ⟨vs,h1,h2⟩ := Q8 (n := n) (Q := fun i v => ValR v (chunk cells 4 i) ∧ Bi v) (fun i hi => by
   have:=(ih i hi).1 rfl
   rw [Uy] at this
   exact this)
  refine ⟨vs,h1,fun i hi=> (h2 i hi).1,IK fun v hv=> ?_⟩
  obtain ⟨i,hi,rfl⟩:=List.getElem_of_mem hv
  exact (h2 i hi).2
 |struct t fs cs ht hl h ih=>
  refine ⟨fun e=> ?_,fun e=> (by subst e; rw [Tryz.underlying22] at ht; cases ht)⟩
  subst e
  rw [Tryz.underlying24] at ht
  cases ht
  rw [Uy] at hl
  obtain ⟨a,b,c,d,rfl⟩:=ab4 hl
  have h1:=h {name:= "Kind",type:=5,offset:=0,embedded:=false,tag:= "",pkgPath:= "",byteOffset:=0} (by simp)
  have h2:=h {name:= "N",type:=2,offset:=1,embedded:=false,tag:= "",pkgPath:= "",byteOffset:=8} (by simp)
  have h3:=h {name:= "S",type:=9,offset:=2,embedded:=false,tag:= "",pkgPath:= "",byteOffset:=16} (by simp)
  have h4:=h {name:= "L",type:=22,offset:=3,embedded:=false,tag:= "",pkgPath:= "",byteOffset:=32} (by simp)
  have i4:=(ih {name:= "L",type:=22,offset:=3,embedded:=false,tag:= "",pkgPath:= "",byteOffset:=32} (by simp)).2 rfl
  simp only [co5,co2,co9,ab3,List.drop_zero,List.drop_succ_cons,List.take_succ_cons,List.take_zero] at h1 h2 h3 h4 i4
  obtain ⟨k,h1,hk⟩:=Sz h1
  obtain ⟨n,h2,hn⟩:=ty_64 h2
  obtain ⟨s,h3⟩:=Oh Tryz.underlying9 h3
  obtain ⟨m,cells,h4,hm,hcl,_⟩:=aaG Tryz.underlying22 h4
  cases h1; cases h2; cases h3; cases h4
  rw [Uy] at hcl
  obtain ⟨vs,rfl,hv,hlv⟩:=i4 _ _ rfl
  exact ⟨.mk k n s vs,.sl k n s vs true cells hcl hv ⟨hk,hn⟩,hm,hlv⟩
theorem J7 {v:ValS} {l:List DV} (h:ValR v l):∃k n s vs b cs,v= .mk k n s vs∧l=[.i .u8 k,.i .i64 n,.s s,.sl b vs.length cs]:=by
 cases h with
 |sl k n s vs b cs h1 h2 h3=> exact ⟨k,n,s,vs,b,cs,rfl,rfl⟩
theorem closed:zD Tryz.prog [24,5,9,2,22,25]=true:=by kernel_rfl
end
end Go.Proofs.YtgjhldabffjiaaaGreatDoor
