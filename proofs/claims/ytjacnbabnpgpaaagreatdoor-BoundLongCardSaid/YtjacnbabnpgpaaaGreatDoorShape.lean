/- What an operation that comes in is like, by its type. -/
import Derived.Test.YtjacnbabnpgpaaaGreatDoorY
import Derived.Test.YtjacnbabnpgpaaaGreatDoorProg
import Derived.Test.YtjacnbabnpgpaaaGreatDoorZE
namespace Go.Proofs.YtjacnbabnpgpaaaGreatDoor
noncomputable section
open Go Go.Abs
set_option maxRecDepth 100000
theorem co5 : Tryz.prog.cellsOf 5 = 1 := by kernel_rfl
theorem co9 : Tryz.prog.cellsOf 9 = 1 := by kernel_rfl
theorem co2 : Tryz.prog.cellsOf 2 = 1 := by kernel_rfl
theorem co3 : Tryz.prog.cellsOf 3 = 1 := by kernel_rfl
theorem co27 : Tryz.prog.cellsOf 27 = 1 := by kernel_rfl
theorem co29 : Tryz.prog.cellsOf 29 = 4 := by kernel_rfl
theorem co30 : Tryz.prog.cellsOf 30 = 1 := by kernel_rfl
theorem co32 : Tryz.prog.cellsOf 32 = 9 := by kernel_rfl
theorem co58 : Tryz.prog.cellsOf 58 = 1 := by kernel_rfl
theorem co60 : Tryz.prog.cellsOf 60 = 6 := by kernel_rfl
theorem ty_i {t : TypeId} {k : IntKind} (hu : Tryz.prog.underlying t = some (.int k)) {l : List DV} (h : TyOk Tryz.prog t l) : ∃ n, l = [.i k n] ∧ (k.min ≤ n ∧ n ≤ k.max) := by
  cases h with
  | int _ k' n ht hw => rw [hu] at ht; cases ht; exact ⟨n, rfl, hw⟩
  | bool _ x ht => rw [hu] at ht; cases ht
  | str _ s ht hs => rw [hu] at ht; cases ht
  | sl _ e n cells ht => rw [hu] at ht; cases ht
  | arr _ e n cells ht => rw [hu] at ht; cases ht
  | struct _ fs cs ht => rw [hu] at ht; cases ht
theorem ty_u8 {l : List DV} (h : TyOk Tryz.prog 5 l) : ∃ n, l = [.i .u8 n] ∧ R8 n := by
  obtain ⟨n, e, h1, h2⟩ := ty_i Tryz.underlying5 h
  exact ⟨n, e, h1, h2⟩
theorem r64 {n : Int} (h : IntKind.min .i64 ≤ n ∧ n ≤ IntKind.max .i64) : R64 n := by
  have h1 : (-9223372036854775808 : Int) ≤ n := h.1
  have h2 : n ≤ 9223372036854775807 := h.2
  exact ⟨h1, by omega⟩
theorem ty_64 {l : List DV} (h : TyOk Tryz.prog 2 l) : ∃ n, l = [.i .i64 n] ∧ R64 n := by
  obtain ⟨n, e, h1⟩ := ty_i Tryz.underlying2 h
  exact ⟨n, e, r64 h1⟩
theorem ty_int {l : List DV} (h : TyOk Tryz.prog 3 l) : ∃ n, l = [.i .i64 n] ∧ R64 n := by
  obtain ⟨n, e, h1⟩ := ty_i Tryz.underlying3 h
  exact ⟨n, e, r64 h1⟩
theorem ty_str {t : TypeId} (hu : Tryz.prog.underlying t = some .string) {l : List DV} (h : TyOk Tryz.prog t l) : ∃ s, l = [.s s] := by
  cases h with
  | int _ k' n ht hw => rw [hu] at ht; cases ht
  | bool _ x ht => rw [hu] at ht; cases ht
  | str _ s ht hs => exact ⟨s, rfl⟩
  | sl _ e n cells ht => rw [hu] at ht; cases ht
  | arr _ e n cells ht => rw [hu] at ht; cases ht
  | struct _ fs cs ht => rw [hu] at ht; cases ht
theorem ty_sl {t e : TypeId} (hu : Tryz.prog.underlying t = some (.slice e)) {l : List DV} (h : TyOk Tryz.prog t l) :
    ∃ n cells, l = [.sl true n cells] ∧ n ≤ 9223372036854775807 ∧ cells.length = n * Tryz.prog.cellsOf e ∧ ∀ i, i < n → TyOk Tryz.prog e ((cells.drop (i * Tryz.prog.cellsOf e)).take (Tryz.prog.cellsOf e)) := by
  cases h with
  | int _ k' n ht hw => rw [hu] at ht; cases ht
  | bool _ x ht => rw [hu] at ht; cases ht
  | str _ s ht hs => rw [hu] at ht; cases ht
  | sl _ e' n cells ht hn hl h => rw [hu] at ht; cases ht; exact ⟨n, cells, rfl, hn, hl, h⟩
  | arr _ e n cells ht => rw [hu] at ht; cases ht
  | struct _ fs cs ht => rw [hu] at ht; cases ht
theorem ty_struct {t : TypeId} {fs : Array Field} (hu : Tryz.prog.underlying t = some (.struct fs)) {l : List DV} (h : TyOk Tryz.prog t l) :
    l.length = Tryz.prog.cellsOf t ∧ ∀ f ∈ fs.toList, TyOk Tryz.prog f.type ((l.drop f.offset).take (Tryz.prog.cellsOf f.type)) := by
  cases h with
  | int _ k' n ht hw => rw [hu] at ht; cases ht
  | bool _ x ht => rw [hu] at ht; cases ht
  | str _ s ht hs => rw [hu] at ht; cases ht
  | sl _ e n cells ht => rw [hu] at ht; cases ht
  | arr _ e n cells ht => rw [hu] at ht; cases ht
  | struct _ fs' cs ht hl h => rw [hu] at ht; cases ht; exact ⟨hl, h⟩
theorem len4 {l : List DV} (h : l.length = 4) : ∃ a b c d, l = [a, b, c, d] := by
  match l, h with
  | [a, b, c, d], _ => exact ⟨a, b, c, d, rfl⟩
theorem len6 {l : List DV} (h : l.length = 6) : ∃ a b c d e f, l = [a, b, c, d, e, f] := by
  match l, h with
  | [a, b, c, d, e, f], _ => exact ⟨a, b, c, d, e, f, rfl⟩
theorem len9 {l : List DV} (h : l.length = 9) : ∃ a b c d e f g i j, l = [a, b, c, d, e, f, g, i, j] := by
  match l, h with
  | [a, b, c, d, e, f, g, i, j], _ => exact ⟨a, b, c, d, e, f, g, i, j, rfl⟩
theorem lenVs_of : ∀ {l : List ValS}, (∀ v ∈ l, lenV v) → lenVs l
  | [], _ => trivial
  | v :: l, h => ⟨h v (List.mem_cons_self ..), lenVs_of fun x hx => h x (List.mem_cons_of_mem _ hx)⟩
theorem list_of {α : Type} [Inhabited α] {n : Nat} {Q : Nat → α → Prop} (h : ∀ i, i < n → ∃ x, Q i x) : ∃ l : List α, l.length = n ∧ ∀ i (hi : i < l.length), Q i l[i] := by
  refine ⟨(List.range n).map fun i => if hi : i < n then Classical.choose (h i hi) else default, by rw [List.length_map, List.length_range], fun i hi => ?_⟩
  have hi' : i < n := by rw [List.length_map, List.length_range] at hi; exact hi
  rw [List.getElem_map, List.getElem_range, dif_pos hi']
  exact Classical.choose_spec (h i hi')
theorem v_of : ∀ {t : TypeId} {l : List DV}, TyOk Tryz.prog t l → (t = 29 → ∃ v, ValR v l ∧ lenV v) ∧ (t = 27 → ∀ n cells, l = [.sl true n cells] → ∃ vs : List ValS, vs.length = n ∧ (∀ i (hi : i < vs.length), ValR vs[i] (chunk cells 4 i)) ∧ lenVs vs) := by
  intro t l h
  induction h with
  | bool t x ht => exact ⟨fun e => (by subst e; rw [Tryz.underlying29] at ht; cases ht), fun e => (by subst e; rw [Tryz.underlying27] at ht; cases ht)⟩
  | int t k n ht hw => exact ⟨fun e => (by subst e; rw [Tryz.underlying29] at ht; cases ht), fun e => (by subst e; rw [Tryz.underlying27] at ht; cases ht)⟩
  | str t s ht hs => exact ⟨fun e => (by subst e; rw [Tryz.underlying29] at ht; cases ht), fun e => (by subst e; rw [Tryz.underlying27] at ht; cases ht)⟩
  | arr t e n cells ht hl h ih => exact ⟨fun e => (by subst e; rw [Tryz.underlying29] at ht; cases ht), fun e => (by subst e; rw [Tryz.underlying27] at ht; cases ht)⟩
  | sl t e n cells ht hn hl h ih =>
    refine ⟨fun e => (by subst e; rw [Tryz.underlying29] at ht; cases ht), fun e => ?_⟩
    subst e
    rw [Tryz.underlying27] at ht
    cases ht
    rintro n' cells' he
    cases he
    haveI : Inhabited ValS := ⟨.mk 0 0 [] []⟩
    obtain ⟨vs, h1, h2⟩ := list_of (n := n) (Q := fun i v => ValR v (chunk cells 4 i) ∧ lenV v) (fun i hi => by
      have := (ih i hi).1 rfl
      rw [co29] at this
      exact this)
    refine ⟨vs, h1, fun i hi => (h2 i hi).1, lenVs_of fun v hv => ?_⟩
    obtain ⟨i, hi, rfl⟩ := List.getElem_of_mem hv
    exact (h2 i hi).2
  | struct t fs cs ht hl h ih =>
    refine ⟨fun e => ?_, fun e => (by subst e; rw [Tryz.underlying27] at ht; cases ht)⟩
    subst e
    rw [Tryz.underlying29] at ht
    cases ht
    rw [co29] at hl
    obtain ⟨a, b, c, d, rfl⟩ := len4 hl
    have h1 := h { name := "Kind", type := 5, offset := 0, embedded := false, tag := "", pkgPath := "", byteOffset := 0 } (by simp)
    have h2 := h { name := "N", type := 2, offset := 1, embedded := false, tag := "", pkgPath := "", byteOffset := 8 } (by simp)
    have h3 := h { name := "S", type := 9, offset := 2, embedded := false, tag := "", pkgPath := "", byteOffset := 16 } (by simp)
    have h4 := h { name := "L", type := 27, offset := 3, embedded := false, tag := "", pkgPath := "", byteOffset := 32 } (by simp)
    have i4 := (ih { name := "L", type := 27, offset := 3, embedded := false, tag := "", pkgPath := "", byteOffset := 32 } (by simp)).2 rfl
    simp only [co5, co2, co9, co27, List.drop_zero, List.drop_succ_cons, List.take_succ_cons, List.take_zero] at h1 h2 h3 h4 i4
    obtain ⟨k, h1, hk⟩ := ty_u8 h1
    obtain ⟨n, h2, hn⟩ := ty_64 h2
    obtain ⟨s, h3⟩ := ty_str Tryz.underlying9 h3
    obtain ⟨m, cells, h4, hm, hcl, _⟩ := ty_sl Tryz.underlying27 h4
    cases h1; cases h2; cases h3; cases h4
    rw [co29] at hcl
    obtain ⟨vs, rfl, hv, hlv⟩ := i4 _ _ rfl
    exact ⟨.mk k n s vs, .sl k n s vs true cells hcl hv ⟨hk, hn⟩, hm, hlv⟩
theorem it_of {l : List DV} (h : TyOk Tryz.prog 60 l) : ∃ x, ItemR x l ∧ x.after.length ≤ 9223372036854775807 := by
  obtain ⟨hl, h⟩ := ty_struct Tryz.underlying60 h
  rw [co60] at hl
  obtain ⟨a, b, c, d, e, f, rfl⟩ := len6 hl
  have h1 := h { name := "Name", type := 9, offset := 0, embedded := false, tag := "", pkgPath := "", byteOffset := 0 } (by simp)
  have h2 := h { name := "Kind", type := 5, offset := 1, embedded := false, tag := "", pkgPath := "", byteOffset := 16 } (by simp)
  have h3 := h { name := "After", type := 58, offset := 2, embedded := false, tag := "", pkgPath := "", byteOffset := 24 } (by simp)
  have h4 := h { name := "Over", type := 9, offset := 3, embedded := false, tag := "", pkgPath := "", byteOffset := 48 } (by simp)
  have h5 := h { name := "Width", type := 3, offset := 4, embedded := false, tag := "", pkgPath := "", byteOffset := 64 } (by simp)
  have h6 := h { name := "Quota", type := 3, offset := 5, embedded := false, tag := "", pkgPath := "", byteOffset := 72 } (by simp)
  simp only [co5, co3, co9, co58, List.drop_zero, List.drop_succ_cons, List.take_succ_cons, List.take_zero] at h1 h2 h3 h4 h5 h6
  obtain ⟨s1, h1⟩ := ty_str Tryz.underlying9 h1
  obtain ⟨k, h2, hk⟩ := ty_u8 h2
  obtain ⟨m, cells, h3, hm, hcl, hst⟩ := ty_sl Tryz.underlying58 h3
  obtain ⟨s2, h4⟩ := ty_str Tryz.underlying9 h4
  obtain ⟨w, h5, hw⟩ := ty_int h5
  obtain ⟨q, h6, hq⟩ := ty_int h6
  cases h1; cases h2; cases h3; cases h4; cases h5; cases h6
  rw [co9, Nat.mul_one] at hcl
  obtain ⟨af, ha, hs⟩ := list_of (n := m) (Q := fun i s => (cells.drop i).take 1 = [.s s]) (fun i hi => by
    have := ty_str Tryz.underlying9 (hst i hi)
    rw [co9, Nat.mul_one] at this
    exact this)
  have he : cells = af.map .s := by
    refine List.ext_getElem (by rw [List.length_map, ha, hcl]) fun i h1 h2 => ?_
    have hi : i < af.length := by rw [ha, ← hcl]; exact h1
    have := hs i hi
    rw [List.drop_eq_getElem_cons h1] at this
    simp only [List.take_succ_cons, List.take_zero, List.cons.injEq, and_true] at this
    rw [this, List.getElem_map]
  subst ha he
  exact ⟨⟨s1, k, af, s2, w, q⟩, ⟨true, rfl, hk, hw, hq⟩, hm⟩
theorem in_of {l : List DV} (h : TyOk Tryz.prog 32 l) : ∃ o, InO o l := by
  obtain ⟨hl, h⟩ := ty_struct Tryz.underlying32 h
  rw [co32] at hl
  obtain ⟨a, b, c, d, e, f, g, i, j, rfl⟩ := len9 hl
  have h1 := h { name := "What", type := 5, offset := 0, embedded := false, tag := "", pkgPath := "", byteOffset := 0 } (by simp)
  have h2 := h { name := "ID", type := 9, offset := 1, embedded := false, tag := "", pkgPath := "", byteOffset := 8 } (by simp)
  have h3 := h { name := "Token", type := 2, offset := 2, embedded := false, tag := "", pkgPath := "", byteOffset := 24 } (by simp)
  have h4 := h { name := "Value", type := 29, offset := 3, embedded := false, tag := "", pkgPath := "", byteOffset := 32 } (by simp)
  have h5 := h { name := "Frag", type := 30, offset := 7, embedded := false, tag := "", pkgPath := "", byteOffset := 88 } (by simp)
  have h6 := h { name := "Quota", type := 3, offset := 8, embedded := false, tag := "", pkgPath := "", byteOffset := 112 } (by simp)
  simp only [co5, co2, co3, co9, co29, co30, List.drop_zero, List.drop_succ_cons, List.take_succ_cons, List.take_zero] at h1 h2 h3 h4 h5 h6
  obtain ⟨w, h1, hw⟩ := ty_u8 h1
  obtain ⟨id, h2⟩ := ty_str Tryz.underlying9 h2
  obtain ⟨tok, h3, htk⟩ := ty_64 h3
  obtain ⟨v, hv, hlv⟩ := (v_of h4).1 rfl
  obtain ⟨fm, fcs, h5, hfm, hfl, hf⟩ := ty_sl Tryz.underlying30 h5
  obtain ⟨q, h6, hq⟩ := ty_int h6
  cases h1; cases h2; cases h3; cases h5; cases h6
  rw [co60] at hfl hf
  haveI : Inhabited ItemS := ⟨⟨[], 0, [], [], 0, 0⟩⟩
  obtain ⟨l, h1, h2⟩ := list_of (n := fm) (Q := fun i x => ItemR x (chunk fcs 6 i) ∧ x.after.length ≤ 9223372036854775807) (fun i hi => it_of (hf i hi))
  subst h1
  refine ⟨⟨w, id, tok, v, l, q⟩, ⟨⟨[d, e, f, g], .sl true l.length fcs, rfl, hv, ⟨.inr ⟨true, fcs, rfl, hfl, fun i hi => (h2 i hi).1⟩, fun e => by cases e⟩, hw, htk, hq⟩, hlv, hfm, fun x hx => ?_⟩⟩
  obtain ⟨i, hi, rfl⟩ := List.getElem_of_mem hx
  exact (h2 i hi).2
theorem closed : closedT Tryz.prog [32, 5, 9, 2, 29, 30, 3, 27, 60, 58] = true := by kernel_rfl
end
end Go.Proofs.YtjacnbabnpgpaaaGreatDoor
