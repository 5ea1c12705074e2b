/- What an item, and a text, that come in are like, by their types. -/
import Derived.Test.YtehffjjfomapnaaGreatDoorCG
import Derived.Test.YtehffjjfomapnaaGreatDoorProg
import Derived.Test.YtehffjjfomapnaaGreatDoorZE
namespace Go.Proofs.YtehffjjfomapnaaGreatDoor
noncomputable section
open Go Go.Abs
set_option maxRecDepth 100000
theorem co5 : Tryz.prog.cellsOf 5 = 1 := by kernel_rfl
theorem co9 : Tryz.prog.cellsOf 9 = 1 := by kernel_rfl
theorem co3 : Tryz.prog.cellsOf 3 = 1 := by kernel_rfl
theorem co22 : Tryz.prog.cellsOf 22 = 1 := by kernel_rfl
theorem co24 : Tryz.prog.cellsOf 24 = 6 := by kernel_rfl
theorem ty_i {t : TypeId} {k : IntKind} (hu : Tryz.prog.underlying t = some (.int k)) {l : List DV} (h : TyOk Tryz.prog t l) : ∃ n,l = [.i k n] ∧ (k.min ≤ n ∧ n ≤ k.max) := by
  cases h with
  | int _ k' n ht hw => rw [hu] at ht; cases ht; exact ⟨n,rfl,hw⟩
  | bool _ x ht => rw [hu] at ht; cases ht
  | str _ s ht hs => rw [hu] at ht; cases ht
  | sl _ e n cells ht => rw [hu] at ht; cases ht
  | arr _ e n cells ht => rw [hu] at ht; cases ht
  | struct _ fs cs ht => rw [hu] at ht; cases ht
theorem ty_u8 {l : List DV} (h : TyOk Tryz.prog 5 l) : ∃ n,l = [.i .u8 n] ∧ R8 n := by
  obtain ⟨n,e,h1,h2⟩ := ty_i Tryz.underlying5 h
  exact ⟨n,e,h1,h2⟩
theorem r64 {n : Int} (h : IntKind.min .i64 ≤ n ∧ n ≤ IntKind.max .i64) : R64 n := by
  have h1 : (-9223372036854775808 : Int) ≤ n := h.1
  have h2 : n ≤ 9223372036854775807 := h.2
  exact ⟨h1,by omega⟩
theorem ty_int {l : List DV} (h : TyOk Tryz.prog 3 l) : ∃ n,l = [.i .i64 n] ∧ R64 n := by
  obtain ⟨n,e,h1⟩ := ty_i Tryz.underlying3 h
  exact ⟨n,e,r64 h1⟩
theorem ty_str {t : TypeId} (hu : Tryz.prog.underlying t = some .string) {l : List DV} (h : TyOk Tryz.prog t l) : ∃ s,l = [.s s] := by
  cases h with
  | int _ k' n ht hw => rw [hu] at ht; cases ht
  | bool _ x ht => rw [hu] at ht; cases ht
  | str _ s ht hs => exact ⟨s,rfl⟩
  | sl _ e n cells ht => rw [hu] at ht; cases ht
  | arr _ e n cells ht => rw [hu] at ht; cases ht
  | struct _ fs cs ht => rw [hu] at ht; cases ht
theorem ty_sl {t e : TypeId} (hu : Tryz.prog.underlying t = some (.slice e)) {l : List DV} (h : TyOk Tryz.prog t l) :
    ∃ n cells,l = [.sl true n cells] ∧ n ≤ 9223372036854775807 ∧ cells.length = n * Tryz.prog.cellsOf e ∧ ∀ i,i < n → TyOk Tryz.prog e ((cells.drop (i * Tryz.prog.cellsOf e)).take (Tryz.prog.cellsOf e)) := by
  cases h with
  | int _ k' n ht hw => rw [hu] at ht; cases ht
  | bool _ x ht => rw [hu] at ht; cases ht
  | str _ s ht hs => rw [hu] at ht; cases ht
  | sl _ e' n cells ht hn hl h => rw [hu] at ht; cases ht; exact ⟨n,cells,rfl,hn,hl,h⟩
  | arr _ e n cells ht => rw [hu] at ht; cases ht
  | struct _ fs cs ht => rw [hu] at ht; cases ht
theorem ty_struct {t : TypeId} {fs : Array Field} (hu : Tryz.prog.underlying t = some (.struct fs)) {l : List DV} (h : TyOk Tryz.prog t l) :
    l.length = Tryz.prog.cellsOf t ∧ ∀ f ∈ fs.toList,TyOk Tryz.prog f.type ((l.drop f.offset).take (Tryz.prog.cellsOf f.type)) := by
  cases h with
  | int _ k' n ht hw => rw [hu] at ht; cases ht
  | bool _ x ht => rw [hu] at ht; cases ht
  | str _ s ht hs => rw [hu] at ht; cases ht
  | sl _ e n cells ht => rw [hu] at ht; cases ht
  | arr _ e n cells ht => rw [hu] at ht; cases ht
  | struct _ fs' cs ht hl h => rw [hu] at ht; cases ht; exact ⟨hl,h⟩
theorem len6 {l : List DV} (h : l.length = 6) : ∃ a b c d e f,l = [a,b,c,d,e,f] := by
  match l,h with
  | [a,b,c,d,e,f],_ => exact ⟨a,b,c,d,e,f,rfl⟩
theorem list_of {α : Type} [Inhabited α] {n : Nat} {Q : Nat → α → Prop} (h : ∀ i,i < n → ∃ x,Q i x) : ∃ l : List α,l.length = n ∧ ∀ i (hi : i < l.length),Q i l[i] := by
  refine ⟨(List.range n).map fun i => if hi : i < n then Classical.choose (h i hi) else default,by rw [List.length_map,List.length_range],fun i hi => ?_⟩
  have hi' : i < n := by rw [List.length_map,List.length_range] at hi; exact hi
  rw [List.getElem_map,List.getElem_range,dif_pos hi']
  exact Classical.choose_spec (h i hi')
theorem it_of {l : List DV} (h : TyOk Tryz.prog 24 l) : ∃ x,ItemR x l ∧ x.after.length ≤ 9223372036854775807 := by
  obtain ⟨hl,h⟩ := ty_struct Tryz.underlying24 h
  rw [co24] at hl
  obtain ⟨a,b,c,d,e,f,rfl⟩ := len6 hl
  have h1 := h { name := "Name",type := 9,offset := 0,embedded := false,tag := "",pkgPath := "",byteOffset := 0 } (by simp)
  have h2 := h { name := "Kind",type := 5,offset := 1,embedded := false,tag := "",pkgPath := "",byteOffset := 16 } (by simp)
  have h3 := h { name := "After",type := 22,offset := 2,embedded := false,tag := "",pkgPath := "",byteOffset := 24 } (by simp)
  have h4 := h { name := "Over",type := 9,offset := 3,embedded := false,tag := "",pkgPath := "",byteOffset := 48 } (by simp)
  have h5 := h { name := "Width",type := 3,offset := 4,embedded := false,tag := "",pkgPath := "",byteOffset := 64 } (by simp)
  have h6 := h { name := "Quota",type := 3,offset := 5,embedded := false,tag := "",pkgPath := "",byteOffset := 72 } (by simp)
  simp only [co5,co3,co9,co22,List.drop_zero,List.drop_succ_cons,List.take_succ_cons,List.take_zero] at h1 h2 h3 h4 h5 h6
  obtain ⟨s1,h1⟩ := ty_str Tryz.underlying9 h1
  obtain ⟨k,h2,hk⟩ := ty_u8 h2
  obtain ⟨m,cells,h3,hm,hcl,hst⟩ := ty_sl Tryz.underlying22 h3
  obtain ⟨s2,h4⟩ := ty_str Tryz.underlying9 h4
  obtain ⟨w,h5,hw⟩ := ty_int h5
  obtain ⟨q,h6,hq⟩ := ty_int h6
  cases h1; cases h2; cases h3; cases h4; cases h5; cases h6
  rw [co9,Nat.mul_one] at hcl
  obtain ⟨af,ha,hs⟩ := list_of (n := m) (Q := fun i s => (cells.drop i).take 1 = [.s s]) (fun i hi => by
    have := ty_str Tryz.underlying9 (hst i hi)
    rw [co9,Nat.mul_one] at this
    exact this)
  have he : cells = af.map .s := by
    refine List.ext_getElem (by rw [List.length_map,ha,hcl]) fun i h1 h2 => ?_
    have hi : i < af.length := by rw [ha,← hcl]; exact h1
    have := hs i hi
    rw [List.drop_eq_getElem_cons h1] at this
    simp only [List.take_succ_cons,List.take_zero,List.cons.injEq,and_true] at this
    rw [this,List.getElem_map]
  subst ha he
  exact ⟨⟨s1,k,af,s2,w,q⟩,⟨true,rfl,hk,hw,hq⟩,hm⟩
theorem closed : closedT Tryz.prog [24,5,9,3,22] = true := by kernel_rfl
end
end Go.Proofs.YtehffjjfomapnaaGreatDoor
