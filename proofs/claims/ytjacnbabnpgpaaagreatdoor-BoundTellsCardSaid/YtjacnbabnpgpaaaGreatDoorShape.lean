/- What a state and an operation that come in are like, by their types. -/
import Derived.Test.YtjacnbabnpgpaaaGreatDoorAS
import Derived.Test.YtjacnbabnpgpaaaGreatDoorProg
import Derived.Test.YtjacnbabnpgpaaaGreatDoorZE
namespace Go.Proofs.YtjacnbabnpgpaaaGreatDoor
noncomputable section
open Go Go.Abs
set_option maxRecDepth 100000
theorem co5 : Tryz.prog.cellsOf 5 = 1 := by kernel_rfl
theorem co9 : Tryz.prog.cellsOf 9 = 1 := by kernel_rfl
theorem co2 : Tryz.prog.cellsOf 2 = 1 := by kernel_rfl
theorem co3 : Tryz.prog.cellsOf 3 = 1 := by kernel_rfl
theorem co27 : Tryz.prog.cellsOf 27 = 1 := by kernel_rfl
theorem co29 : Tryz.prog.cellsOf 29 = 4 := by kernel_rfl
theorem co23 : Tryz.prog.cellsOf 23 = 5 := by kernel_rfl
theorem co24 : Tryz.prog.cellsOf 24 = 1 := by kernel_rfl
theorem co26 : Tryz.prog.cellsOf 26 = 8 := by kernel_rfl
theorem co43 : Tryz.prog.cellsOf 43 = 1 := by kernel_rfl
theorem co45 : Tryz.prog.cellsOf 45 = 16 := by kernel_rfl
theorem co30 : Tryz.prog.cellsOf 30 = 1 := by kernel_rfl
theorem co32 : Tryz.prog.cellsOf 32 = 9 := by kernel_rfl
theorem co58 : Tryz.prog.cellsOf 58 = 1 := by kernel_rfl
theorem co60 : Tryz.prog.cellsOf 60 = 6 := by kernel_rfl
theorem ty_i {t : TypeId} {k : IntKind} (hu : Tryz.prog.underlying t = some (.int k)) {l : List DV} (h : TyOk Tryz.prog t l) : ∃ n, l = [.i k n] ∧ (k.min ≤ n ∧ n ≤ k.max) := by
  cases h with
  | int _ k' n ht hw => rw [hu] at ht; cases ht; exact ⟨n, rfl, hw⟩
  | bool _ x ht => rw [hu] at ht; cases ht
  | str _ s ht hs => rw [hu] at ht; cases ht
  | sl _ e n cells ht => rw [hu] at ht; cases ht
  | arr _ e n cells ht => rw [hu] at ht; cases ht
  | struct _ fs cs ht => rw [hu] at ht; cases ht
theorem ty_u8 {l : List DV} (h : TyOk Tryz.prog 5 l) : ∃ n, l = [.i .u8 n] ∧ R8 n := by
  obtain ⟨n, e, h1, h2⟩ := ty_i Tryz.underlying5 h
  exact ⟨n, e, h1, h2⟩
theorem r64 {n : Int} (h : IntKind.min .i64 ≤ n ∧ n ≤ IntKind.max .i64) : R64 n := by
  have h1 : (-9223372036854775808 : Int) ≤ n := h.1
  have h2 : n ≤ 9223372036854775807 := h.2
  exact ⟨h1, by omega⟩
theorem ty_64 {l : List DV} (h : TyOk Tryz.prog 2 l) : ∃ n, l = [.i .i64 n] ∧ R64 n := by
  obtain ⟨n, e, h1⟩ := ty_i Tryz.underlying2 h
  exact ⟨n, e, r64 h1⟩
theorem ty_int {l : List DV} (h : TyOk Tryz.prog 3 l) : ∃ n, l = [.i .i64 n] ∧ R64 n := by
  obtain ⟨n, e, h1⟩ := ty_i Tryz.underlying3 h
  exact ⟨n, e, r64 h1⟩
theorem ty_str {t : TypeId} (hu : Tryz.prog.underlying t = some .string) {l : List DV} (h : TyOk Tryz.prog t l) : ∃ s, l = [.s s] ∧ s.length ≤ 9223372036854775807 := by
  cases h with
  | int _ k' n ht hw => rw [hu] at ht; cases ht
  | bool _ x ht => rw [hu] at ht; cases ht
  | str _ s ht hs => exact ⟨s, rfl, hs⟩
  | sl _ e n cells ht => rw [hu] at ht; cases ht
  | arr _ e n cells ht => rw [hu] at ht; cases ht
  | struct _ fs cs ht => rw [hu] at ht; cases ht
theorem ty_sl {t e : TypeId} (hu : Tryz.prog.underlying t = some (.slice e)) {l : List DV} (h : TyOk Tryz.prog t l) :
    ∃ n cells, l = [.sl true n cells] ∧ n ≤ 9223372036854775807 ∧ cells.length = n * Tryz.prog.cellsOf e ∧ ∀ i, i < n → TyOk Tryz.prog e ((cells.drop (i * Tryz.prog.cellsOf e)).take (Tryz.prog.cellsOf e)) := by
  cases h with
  | int _ k' n ht hw => rw [hu] at ht; cases ht
  | bool _ x ht => rw [hu] at ht; cases ht
  | str _ s ht hs => rw [hu] at ht; cases ht
  | sl _ e' n cells ht hn hl h => rw [hu] at ht; cases ht; exact ⟨n, cells, rfl, hn, hl, h⟩
  | arr _ e n cells ht => rw [hu] at ht; cases ht
  | struct _ fs cs ht => rw [hu] at ht; cases ht
theorem ty_struct {t : TypeId} {fs : Array Field} (hu : Tryz.prog.underlying t = some (.struct fs)) {l : List DV} (h : TyOk Tryz.prog t l) :
    l.length = Tryz.prog.cellsOf t ∧ ∀ f ∈ fs.toList, TyOk Tryz.prog f.type ((l.drop f.offset).take (Tryz.prog.cellsOf f.type)) := by
  cases h with
  | int _ k' n ht hw => rw [hu] at ht; cases ht
  | bool _ x ht => rw [hu] at ht; cases ht
  | str _ s ht hs => rw [hu] at ht; cases ht
  | sl _ e n cells ht => rw [hu] at ht; cases ht
  | arr _ e n cells ht => rw [hu] at ht; cases ht
  | struct _ fs' cs ht hl h => rw [hu] at ht; cases ht; exact ⟨hl, h⟩
theorem len4 {l : List DV} (h : l.length = 4) : ∃ a b c d, l = [a, b, c, d] := by
  match l, h with
  | [a, b, c, d], _ => exact ⟨a, b, c, d, rfl⟩
theorem len6 {l : List DV} (h : l.length = 6) : ∃ a b c d e f, l = [a, b, c, d, e, f] := by
  match l, h with
  | [a, b, c, d, e, f], _ => exact ⟨a, b, c, d, e, f, rfl⟩
theorem len9 {l : List DV} (h : l.length = 9) : ∃ a b c d e f g i j, l = [a, b, c, d, e, f, g, i, j] := by
  match l, h with
  | [a, b, c, d, e, f, g, i, j], _ => exact ⟨a, b, c, d, e, f, g, i, j, rfl⟩
theorem lenVs_of : ∀ {l : List ValS}, (∀ v ∈ l, lenV v) → lenVs l
  | [], _ => trivial
  | v :: l, h => ⟨h v (List.mem_cons_self ..), lenVs_of fun x hx => h x (List.mem_cons_of_mem _ hx)⟩
theorem list_of {α : Type} [Inhabited α] {n : Nat} {Q : Nat → α → Prop} (h : ∀ i, i < n → ∃ x, Q i x) : ∃ l : List α, l.length = n ∧ ∀ i (hi : i < l.length), Q i l[i] := by
  refine ⟨(List.range n).map fun i => if hi : i < n then Classical.choose (h i hi) else default, by rw [List.length_map, List.length_range], fun i hi => ?_⟩
  have hi' : i < n := by rw [List.length_map, List.length_range] at hi; exact hi
  rw [List.getElem_map, List.getElem_range, dif_pos hi']
  exact Classical.choose_spec (h i hi')
theorem v_of : ∀ {t : TypeId} {l : List DV}, TyOk Tryz.prog t l → (t = 29 → ∃ v, ValR v l ∧ lenV v) ∧ (t = 27 → ∀ n cells, l = [.sl true n cells] → ∃ vs : List ValS, vs.length = n ∧ (∀ i (hi : i < vs.length), ValR vs[i] (chunk cells 4 i)) ∧ lenVs vs) := by
  intro t l h
  induction h with
  | bool t x ht => exact ⟨fun e => (by subst e; rw [Tryz.underlying29] at ht; cases ht), fun e => (by subst e; rw [Tryz.underlying27] at ht; cases ht)⟩
  | int t k n ht hw => exact ⟨fun e => (by subst e; rw [Tryz.underlying29] at ht; cases ht), fun e => (by subst e; rw [Tryz.underlying27] at ht; cases ht)⟩
  | str t s ht hs => exact ⟨fun e => (by subst e; rw [Tryz.underlying29] at ht; cases ht), fun e => (by subst e; rw [Tryz.underlying27] at ht; cases ht)⟩
  | arr t e n cells ht hl h ih => exact ⟨fun e => (by subst e; rw [Tryz.underlying29] at ht; cases ht), fun e => (by subst e; rw [Tryz.underlying27] at ht; cases ht)⟩
  | sl t e n cells ht hn hl h ih =>
    refine ⟨fun e => (by subst e; rw [Tryz.underlying29] at ht; cases ht), fun e => ?_⟩
    subst e
    rw [Tryz.underlying27] at ht
    cases ht
    rintro n' cells' he
    cases he
    haveI : Inhabited ValS := ⟨.mk 0 0 [] []⟩
    obtain ⟨vs, h1, h2⟩ := list_of (n := n) (Q := fun i v => ValR v (chunk cells 4 i) ∧ lenV v) (fun i hi => by
      have := (ih i hi).1 rfl
      rw [co29] at this
      exact this)
    refine ⟨vs, h1, fun i hi => (h2 i hi).1, lenVs_of fun v hv => ?_⟩
    obtain ⟨i, hi, rfl⟩ := List.getElem_of_mem hv
    exact (h2 i hi).2
  | struct t fs cs ht hl h ih =>
    refine ⟨fun e => ?_, fun e => (by subst e; rw [Tryz.underlying27] at ht; cases ht)⟩
    subst e
    rw [Tryz.underlying29] at ht
    cases ht
    rw [co29] at hl
    obtain ⟨a, b, c, d, rfl⟩ := len4 hl
    have h1 := h { name := "Kind", type := 5, offset := 0, embedded := false, tag := "", pkgPath := "", byteOffset := 0 } (by simp)
    have h2 := h { name := "N", type := 2, offset := 1, embedded := false, tag := "", pkgPath := "", byteOffset := 8 } (by simp)
    have h3 := h { name := "S", type := 9, offset := 2, embedded := false, tag := "", pkgPath := "", byteOffset := 16 } (by simp)
    have h4 := h { name := "L", type := 27, offset := 3, embedded := false, tag := "", pkgPath := "", byteOffset := 32 } (by simp)
    have i4 := (ih { name := "L", type := 27, offset := 3, embedded := false, tag := "", pkgPath := "", byteOffset := 32 } (by simp)).2 rfl
    simp only [co5, co2, co9, co27, List.drop_zero, List.drop_succ_cons, List.take_succ_cons, List.take_zero] at h1 h2 h3 h4 i4
    obtain ⟨k, h1, hk⟩ := ty_u8 h1
    obtain ⟨n, h2, hn⟩ := ty_64 h2
    obtain ⟨s, h3, _⟩ := ty_str Tryz.underlying9 h3
    obtain ⟨m, cells, h4, hm, hcl, _⟩ := ty_sl Tryz.underlying27 h4
    cases h1; cases h2; cases h3; cases h4
    rw [co29] at hcl
    obtain ⟨vs, rfl, hv, hlv⟩ := i4 _ _ rfl
    exact ⟨.mk k n s vs, .sl k n s vs true cells hcl hv ⟨hk, hn⟩, hm, hlv⟩
theorem it_of {l : List DV} (h : TyOk Tryz.prog 60 l) : ∃ x, ItemR x l ∧ lenI x := by
  obtain ⟨hl, h⟩ := ty_struct Tryz.underlying60 h
  rw [co60] at hl
  obtain ⟨a, b, c, d, e, f, rfl⟩ := len6 hl
  have h1 := h { name := "Name", type := 9, offset := 0, embedded := false, tag := "", pkgPath := "", byteOffset := 0 } (by simp)
  have h2 := h { name := "Kind", type := 5, offset := 1, embedded := false, tag := "", pkgPath := "", byteOffset := 16 } (by simp)
  have h3 := h { name := "After", type := 58, offset := 2, embedded := false, tag := "", pkgPath := "", byteOffset := 24 } (by simp)
  have h4 := h { name := "Over", type := 9, offset := 3, embedded := false, tag := "", pkgPath := "", byteOffset := 48 } (by simp)
  have h5 := h { name := "Width", type := 3, offset := 4, embedded := false, tag := "", pkgPath := "", byteOffset := 64 } (by simp)
  have h6 := h { name := "Quota", type := 3, offset := 5, embedded := false, tag := "", pkgPath := "", byteOffset := 72 } (by simp)
  simp only [co5, co3, co9, co58, List.drop_zero, List.drop_succ_cons, List.take_succ_cons, List.take_zero] at h1 h2 h3 h4 h5 h6
  obtain ⟨s1, h1, hs1⟩ := ty_str Tryz.underlying9 h1
  obtain ⟨k, h2, hk⟩ := ty_u8 h2
  obtain ⟨m, cells, h3, hm, hcl, hst⟩ := ty_sl Tryz.underlying58 h3
  obtain ⟨s2, h4, hs2⟩ := ty_str Tryz.underlying9 h4
  obtain ⟨w, h5, hw⟩ := ty_int h5
  obtain ⟨q, h6, hq⟩ := ty_int h6
  cases h1; cases h2; cases h3; cases h4; cases h5; cases h6
  rw [co9, Nat.mul_one] at hcl
  obtain ⟨af, ha, hs⟩ := list_of (n := m) (Q := fun i s => (cells.drop i).take 1 = [.s s] ∧ s.length ≤ 9223372036854775807) (fun i hi => by
    have := ty_str Tryz.underlying9 (hst i hi)
    rw [co9, Nat.mul_one] at this
    exact this)
  have he : cells = af.map .s := by
    refine List.ext_getElem (by rw [List.length_map, ha, hcl]) fun i h1 h2 => ?_
    have hi : i < af.length := by rw [ha, ← hcl]; exact h1
    have := (hs i hi).1
    rw [List.drop_eq_getElem_cons h1] at this
    simp only [List.take_succ_cons, List.take_zero, List.cons.injEq, and_true] at this
    rw [this, List.getElem_map]
  subst ha he
  refine ⟨⟨s1, k, af, s2, w, q⟩, ⟨true, rfl, hk, hw, hq⟩, hs1, hs2, hm, fun s hsm => ?_⟩
  obtain ⟨i, hi, rfl⟩ := List.getElem_of_mem hsm
  exact (hs i hi).2
theorem in_of {l : List DV} (h : TyOk Tryz.prog 32 l) : ∃ o, InX o l := by
  obtain ⟨hl, h⟩ := ty_struct Tryz.underlying32 h
  rw [co32] at hl
  obtain ⟨a, b, c, d, e, f, g, i, j, rfl⟩ := len9 hl
  have h1 := h { name := "What", type := 5, offset := 0, embedded := false, tag := "", pkgPath := "", byteOffset := 0 } (by simp)
  have h2 := h { name := "ID", type := 9, offset := 1, embedded := false, tag := "", pkgPath := "", byteOffset := 8 } (by simp)
  have h3 := h { name := "Token", type := 2, offset := 2, embedded := false, tag := "", pkgPath := "", byteOffset := 24 } (by simp)
  have h4 := h { name := "Value", type := 29, offset := 3, embedded := false, tag := "", pkgPath := "", byteOffset := 32 } (by simp)
  have h5 := h { name := "Frag", type := 30, offset := 7, embedded := false, tag := "", pkgPath := "", byteOffset := 88 } (by simp)
  have h6 := h { name := "Quota", type := 3, offset := 8, embedded := false, tag := "", pkgPath := "", byteOffset := 112 } (by simp)
  simp only [co5, co2, co3, co9, co29, co30, List.drop_zero, List.drop_succ_cons, List.take_succ_cons, List.take_zero] at h1 h2 h3 h4 h5 h6
  obtain ⟨w, h1, hw⟩ := ty_u8 h1
  obtain ⟨id, h2, _⟩ := ty_str Tryz.underlying9 h2
  obtain ⟨tok, h3, htk⟩ := ty_64 h3
  obtain ⟨v, hv, hlv⟩ := (v_of h4).1 rfl
  obtain ⟨fm, fcs, h5, hfm, hfl, hf⟩ := ty_sl Tryz.underlying30 h5
  obtain ⟨q, h6, hq⟩ := ty_int h6
  cases h1; cases h2; cases h3; cases h5; cases h6
  rw [co60] at hfl hf
  haveI : Inhabited ItemS := ⟨⟨[], 0, [], [], 0, 0⟩⟩
  obtain ⟨l, h1, h2⟩ := list_of (n := fm) (Q := fun i x => ItemR x (chunk fcs 6 i) ∧ lenI x) (fun i hi => it_of (hf i hi))
  subst h1
  refine ⟨⟨w, id, tok, v, l, q⟩, ⟨⟨[d, e, f, g], .sl true l.length fcs, rfl, hv, ⟨.inr ⟨true, fcs, rfl, hfl, fun i hi => (h2 i hi).1⟩, fun e => by cases e⟩, hw, htk, hq⟩, hlv, hfm, fun x hx => ?_⟩⟩
  obtain ⟨i, hi, rfl⟩ := List.getElem_of_mem hx
  exact (h2 i hi).2
theorem len16 {l : List DV} (h : l.length = 16) : ∃ y0 y1 y2 y3 y4 y5 y6 y7 y8 y9 y10 y11 y12 y13 y14 y15, l = [y0, y1, y2, y3, y4, y5, y6, y7, y8, y9, y10, y11, y12, y13, y14, y15] := by
  match l, h with
  | [y0, y1, y2, y3, y4, y5, y6, y7, y8, y9, y10, y11, y12, y13, y14, y15], _ => exact ⟨y0, y1, y2, y3, y4, y5, y6, y7, y8, y9, y10, y11, y12, y13, y14, y15, rfl⟩
theorem len8 {l : List DV} (h : l.length = 8) : ∃ a b c d e f g i, l = [a, b, c, d, e, f, g, i] := by
  match l, h with
  | [a, b, c, d, e, f, g, i], _ => exact ⟨a, b, c, d, e, f, g, i, rfl⟩
theorem n_of {l : List DV} (h : TyOk Tryz.prog 45 l) : NodeL l := by
  obtain ⟨hl, h⟩ := ty_struct Tryz.underlying45 h
  rw [co45] at hl
  obtain ⟨y0, y1, y2, y3, y4, y5, y6, y7, y8, y9, y10, y11, y12, y13, y14, y15, rfl⟩ := len16 hl
  have h0 := h { name := "ID", type := 9, offset := 0, embedded := false, tag := "", pkgPath := "", byteOffset := 0 } (by simp)
  have h1 := h { name := "Name", type := 9, offset := 1, embedded := false, tag := "", pkgPath := "", byteOffset := 16 } (by simp)
  have h2 := h { name := "Kind", type := 5, offset := 2, embedded := false, tag := "", pkgPath := "", byteOffset := 32 } (by simp)
  have h3 := h { name := "Flow", type := 3, offset := 3, embedded := false, tag := "", pkgPath := "", byteOffset := 40 } (by simp)
  have h4 := h { name := "Owner", type := 3, offset := 4, embedded := false, tag := "", pkgPath := "", byteOffset := 48 } (by simp)
  have h5 := h { name := "At", type := 3, offset := 5, embedded := false, tag := "", pkgPath := "", byteOffset := 56 } (by simp)
  have h6 := h { name := "After", type := 43, offset := 6, embedded := false, tag := "", pkgPath := "", byteOffset := 64 } (by simp)
  have h7 := h { name := "Width", type := 3, offset := 7, embedded := false, tag := "", pkgPath := "", byteOffset := 88 } (by simp)
  have h8 := h { name := "Quota", type := 3, offset := 8, embedded := false, tag := "", pkgPath := "", byteOffset := 96 } (by simp)
  have h9 := h { name := "Stand", type := 5, offset := 9, embedded := false, tag := "", pkgPath := "", byteOffset := 104 } (by simp)
  have h10 := h { name := "Fails", type := 3, offset := 10, embedded := false, tag := "", pkgPath := "", byteOffset := 112 } (by simp)
  have h11 := h { name := "Token", type := 2, offset := 11, embedded := false, tag := "", pkgPath := "", byteOffset := 120 } (by simp)
  have h12 := h { name := "Value", type := 29, offset := 12, embedded := false, tag := "", pkgPath := "", byteOffset := 128 } (by simp)
  simp only [co5, co2, co3, co9, co29, co43, List.drop_zero, List.drop_succ_cons, List.take_succ_cons, List.take_zero] at h0 h1 h2 h3 h4 h5 h6 h7 h8 h9 h10 h11 h12
  obtain ⟨s0, h0, _⟩ := ty_str Tryz.underlying9 h0
  obtain ⟨s1, h1, _⟩ := ty_str Tryz.underlying9 h1
  obtain ⟨x2, h2, r2⟩ := ty_u8 h2
  obtain ⟨x3, h3, _⟩ := ty_int h3
  obtain ⟨x4, h4, _⟩ := ty_int h4
  obtain ⟨x5, h5, _⟩ := ty_int h5
  obtain ⟨am, acs, h6, ham, hal, hac⟩ := ty_sl Tryz.underlying43 h6
  rw [co3] at hal hac
  obtain ⟨x7, h7, _⟩ := ty_int h7
  obtain ⟨x8, h8, _⟩ := ty_int h8
  obtain ⟨x9, h9, r9⟩ := ty_u8 h9
  obtain ⟨x10, h10, _⟩ := ty_int h10
  obtain ⟨x11, h11, _⟩ := ty_64 h11
  obtain ⟨v, hv, hlv⟩ := (v_of h12).1 rfl
  obtain ⟨vk, vn, vs, vb, vm, vcs, hlit⟩ := hv.lit
  cases h0; cases h1; cases h2; cases h3; cases h4; cases h5; cases h6; cases h7; cases h8; cases h9; cases h10; cases h11
  simp only [List.cons.injEq, and_true] at hlit
  obtain ⟨rfl, rfl, rfl, rfl⟩ := hlit
  refine ⟨s0, s1, x2, x3, x4, x5, true, am, acs, x7, x8, x9, x10, x11, vk, vn, vs, vb, vm, vcs, rfl, r2, r9, by rw [hal, Nat.mul_one], ham, fun c hc => ?_, v, hv, hlv⟩
  obtain ⟨i, hi, rfl⟩ := List.getElem_of_mem hc
  obtain ⟨y, hy, _⟩ := ty_int (hac i (by omega))
  rw [Nat.mul_one, List.drop_eq_getElem_cons hi] at hy
  simp only [List.take_succ_cons, List.take_zero, List.cons.injEq, and_true] at hy
  exact ⟨y, hy⟩
theorem s_of {l : List DV} (h : TyOk Tryz.prog 26 l) : ∃ (c1 c2 c3 c4 c5 nf : Int) (nn : Nat) (ncs : List DV) (tk : Int), l = sD c1 c2 c3 c4 c5 nf true nn ncs tk ∧ NodesR nn ncs := by
  obtain ⟨hl, h⟩ := ty_struct Tryz.underlying26 h
  rw [co26] at hl
  obtain ⟨a, b, c, d, e, f, g, i, rfl⟩ := len8 hl
  have h0 := h { name := "Config", type := 23, offset := 0, embedded := false, tag := "", pkgPath := "", byteOffset := 0 } (by simp)
  have h1 := h { name := "Flows", type := 3, offset := 5, embedded := false, tag := "", pkgPath := "", byteOffset := 40 } (by simp)
  have h2 := h { name := "Nodes", type := 24, offset := 6, embedded := false, tag := "", pkgPath := "", byteOffset := 48 } (by simp)
  have h3 := h { name := "Token", type := 2, offset := 7, embedded := false, tag := "", pkgPath := "", byteOffset := 72 } (by simp)
  simp only [co23, co3, co24, co2, List.drop_zero, List.drop_succ_cons, List.take_succ_cons, List.take_zero] at h0 h1 h2 h3
  obtain ⟨_, hc⟩ := ty_struct Tryz.underlying23 h0
  have g0 := hc { name := "Quota", type := 3, offset := 0, embedded := false, tag := "", pkgPath := "", byteOffset := 0 } (by simp)
  have g1 := hc { name := "Depth", type := 3, offset := 1, embedded := false, tag := "", pkgPath := "", byteOffset := 8 } (by simp)
  have g2 := hc { name := "Width", type := 3, offset := 2, embedded := false, tag := "", pkgPath := "", byteOffset := 16 } (by simp)
  have g3 := hc { name := "Retry", type := 3, offset := 3, embedded := false, tag := "", pkgPath := "", byteOffset := 24 } (by simp)
  have g4 := hc { name := "Flows", type := 3, offset := 4, embedded := false, tag := "", pkgPath := "", byteOffset := 32 } (by simp)
  simp only [co3, List.drop_zero, List.drop_succ_cons, List.take_succ_cons, List.take_zero] at g0 g1 g2 g3 g4
  obtain ⟨c0, g0, _⟩ := ty_int g0
  obtain ⟨c1, g1, _⟩ := ty_int g1
  obtain ⟨c2, g2, _⟩ := ty_int g2
  obtain ⟨c3, g3, _⟩ := ty_int g3
  obtain ⟨c4, g4, _⟩ := ty_int g4
  obtain ⟨nf, h1, _⟩ := ty_int h1
  obtain ⟨nn, ncs, h2, hnn, hnl, hnc⟩ := ty_sl Tryz.underlying24 h2
  obtain ⟨tk, h3, _⟩ := ty_64 h3
  cases g0; cases g1; cases g2; cases g3; cases g4; cases h1; cases h2; cases h3
  rw [co45] at hnl hnc
  exact ⟨c0, c1, c2, c3, c4, nf, nn, ncs, tk, rfl, hnl, hnn, fun i hi => n_of (hnc i hi)⟩
theorem closed : closedT Tryz.prog [26, 32, 5, 9, 2, 29, 30, 3, 27, 60, 58, 23, 24, 45, 43] = true := by kernel_rfl
end
end Go.Proofs.YtjacnbabnpgpaaaGreatDoor
