/- What an operation, and a length, that come in are like, by their types. -/
import Derived.Test.YtenpedmcbmlmkaaGreatDoorLaw
import Derived.Test.YtenpedmcbmlmkaaGreatDoorZE
namespace Go.Proofs.YtenpedmcbmlmkaaGreatDoor
noncomputable section
open Go Go.Abs
set_option maxRecDepth 100000
theorem c5 : Tryz.prog.cellsOf 5 = 1 := by kernel_rfl
theorem c9 : Tryz.prog.cellsOf 9 = 1 := by kernel_rfl
theorem c2 : Tryz.prog.cellsOf 2 = 1 := by kernel_rfl
theorem c3 : Tryz.prog.cellsOf 3 = 1 := by kernel_rfl
theorem c22 : Tryz.prog.cellsOf 22 = 1 := by kernel_rfl
theorem c24 : Tryz.prog.cellsOf 24 = 4 := by kernel_rfl
theorem c25 : Tryz.prog.cellsOf 25 = 1 := by kernel_rfl
theorem c27 : Tryz.prog.cellsOf 27 = 9 := by kernel_rfl
theorem c61 : Tryz.prog.cellsOf 61 = 1 := by kernel_rfl
theorem c63 : Tryz.prog.cellsOf 63 = 6 := by kernel_rfl

theorem ty_int {t : TypeId} {k : IntKind} (hu : Tryz.prog.underlying t = some (.int k)) {l : List DV} (h : TyOk Tryz.prog t l) : ∃ n, l = [.i k n] := by
  cases h with
  | int _ k' n ht hw => rw [hu] at ht; cases ht; exact ⟨n, rfl⟩
  | bool _ x ht => rw [hu] at ht; cases ht
  | str _ s ht hs => rw [hu] at ht; cases ht
  | sl _ e n cells ht => rw [hu] at ht; cases ht
  | arr _ e n cells ht => rw [hu] at ht; cases ht
  | struct _ fs cs ht => rw [hu] at ht; cases ht
theorem ty_int64 {t : TypeId} (hu : Tryz.prog.underlying t = some (.int .i64)) {l : List DV} (h : TyOk Tryz.prog t l) : ∃ n, l = [.i .i64 n] ∧ n ≤ 9223372036854775807 := by
  cases h with
  | int _ k' n ht hw => rw [hu] at ht; cases ht; exact ⟨n, rfl, hw.2⟩
  | bool _ x ht => rw [hu] at ht; cases ht
  | str _ s ht hs => rw [hu] at ht; cases ht
  | sl _ e n cells ht => rw [hu] at ht; cases ht
  | arr _ e n cells ht => rw [hu] at ht; cases ht
  | struct _ fs cs ht => rw [hu] at ht; cases ht
theorem ty_str {t : TypeId} (hu : Tryz.prog.underlying t = some .string) {l : List DV} (h : TyOk Tryz.prog t l) : ∃ s, l = [.s s] := by
  cases h with
  | int _ k' n ht hw => rw [hu] at ht; cases ht
  | bool _ x ht => rw [hu] at ht; cases ht
  | str _ s ht hs => exact ⟨s, rfl⟩
  | sl _ e n cells ht => rw [hu] at ht; cases ht
  | arr _ e n cells ht => rw [hu] at ht; cases ht
  | struct _ fs cs ht => rw [hu] at ht; cases ht
theorem ty_sl {t e : TypeId} (hu : Tryz.prog.underlying t = some (.slice e)) {l : List DV} (h : TyOk Tryz.prog t l) :
    ∃ n cells, l = [.sl true n cells] ∧ n ≤ 9223372036854775807 ∧ cells.length = n * Tryz.prog.cellsOf e ∧ ∀ i, i < n → TyOk Tryz.prog e ((cells.drop (i * Tryz.prog.cellsOf e)).take (Tryz.prog.cellsOf e)) := by
  cases h with
  | int _ k' n ht hw => rw [hu] at ht; cases ht
  | bool _ x ht => rw [hu] at ht; cases ht
  | str _ s ht hs => rw [hu] at ht; cases ht
  | sl _ e' n cells ht hn hl h => rw [hu] at ht; cases ht; exact ⟨n, cells, rfl, hn, hl, h⟩
  | arr _ e n cells ht => rw [hu] at ht; cases ht
  | struct _ fs cs ht => rw [hu] at ht; cases ht
theorem ty_struct {t : TypeId} {fs : Array Field} (hu : Tryz.prog.underlying t = some (.struct fs)) {l : List DV} (h : TyOk Tryz.prog t l) :
    l.length = Tryz.prog.cellsOf t ∧ ∀ f ∈ fs.toList, TyOk Tryz.prog f.type ((l.drop f.offset).take (Tryz.prog.cellsOf f.type)) := by
  cases h with
  | int _ k' n ht hw => rw [hu] at ht; cases ht
  | bool _ x ht => rw [hu] at ht; cases ht
  | str _ s ht hs => rw [hu] at ht; cases ht
  | sl _ e n cells ht => rw [hu] at ht; cases ht
  | arr _ e n cells ht => rw [hu] at ht; cases ht
  | struct _ fs' cs ht hl h => rw [hu] at ht; cases ht; exact ⟨hl, h⟩

theorem len4 {l : List DV} (h : l.length = 4) : ∃ a b c d, l = [a, b, c, d] := by
  match l, h with
  | [a, b, c, d], _ => exact ⟨a, b, c, d, rfl⟩
theorem len6 {l : List DV} (h : l.length = 6) : ∃ a b c d e f, l = [a, b, c, d, e, f] := by
  match l, h with
  | [a, b, c, d, e, f], _ => exact ⟨a, b, c, d, e, f, rfl⟩
theorem len9 {l : List DV} (h : l.length = 9) : ∃ a b c d e f g i j, l = [a, b, c, d, e, f, g, i, j] := by
  match l, h with
  | [a, b, c, d, e, f, g, i, j], _ => exact ⟨a, b, c, d, e, f, g, i, j, rfl⟩

/-- A value's cells. -/
theorem vt_of : ∀ {t : TypeId} {l : List DV}, TyOk Tryz.prog t l → (t = 24 → VT l) ∧ (t = 22 → ∀ n cells, l = [.sl true n cells] → ∀ i, i < n → VT ((cells.drop (i * 4)).take 4)) := by
  intro t l h
  induction h with
  | bool t x ht => exact ⟨fun e => (by subst e; rw [Tryz.underlying24] at ht; cases ht), fun e => (by subst e; rw [Tryz.underlying22] at ht; cases ht)⟩
  | int t k n ht hw => exact ⟨fun e => (by subst e; rw [Tryz.underlying24] at ht; cases ht), fun e => (by subst e; rw [Tryz.underlying22] at ht; cases ht)⟩
  | str t s ht hs => exact ⟨fun e => (by subst e; rw [Tryz.underlying24] at ht; cases ht), fun e => (by subst e; rw [Tryz.underlying22] at ht; cases ht)⟩
  | arr t e n cells ht hl h ih => exact ⟨fun e => (by subst e; rw [Tryz.underlying24] at ht; cases ht), fun e => (by subst e; rw [Tryz.underlying22] at ht; cases ht)⟩
  | sl t e n cells ht hn hl h ih =>
    refine ⟨fun e => (by subst e; rw [Tryz.underlying24] at ht; cases ht), fun e => ?_⟩
    subst e
    rw [Tryz.underlying22] at ht
    cases ht
    rintro n' cells' he i hi
    cases he
    have := (ih i hi).1 rfl
    rw [c24] at this
    exact this
  | struct t fs cs ht hl h ih =>
    refine ⟨fun e => ?_, fun e => (by subst e; rw [Tryz.underlying22] at ht; cases ht)⟩
    subst e
    rw [Tryz.underlying24] at ht
    cases ht
    rw [c24] at hl
    obtain ⟨a, b, c, d, rfl⟩ := len4 hl
    have h1 := h { name := "Kind", type := 5, offset := 0, embedded := false, tag := "", pkgPath := "", byteOffset := 0 } (by simp)
    have h2 := h { name := "N", type := 2, offset := 1, embedded := false, tag := "", pkgPath := "", byteOffset := 8 } (by simp)
    have h3 := h { name := "S", type := 9, offset := 2, embedded := false, tag := "", pkgPath := "", byteOffset := 16 } (by simp)
    have h4 := h { name := "L", type := 22, offset := 3, embedded := false, tag := "", pkgPath := "", byteOffset := 32 } (by simp)
    have i4 := (ih { name := "L", type := 22, offset := 3, embedded := false, tag := "", pkgPath := "", byteOffset := 32 } (by simp)).2 rfl
    simp only [c5, c2, c9, c22, List.drop_zero, List.drop_succ_cons, List.take_succ_cons, List.take_zero] at h1 h2 h3 h4 i4
    obtain ⟨k, h1⟩ := ty_int Tryz.underlying5 h1
    obtain ⟨n, h2⟩ := ty_int Tryz.underlying2 h2
    obtain ⟨s, h3⟩ := ty_str Tryz.underlying9 h3
    obtain ⟨m, cells, h4, hm, hcl, _⟩ := ty_sl Tryz.underlying22 h4
    cases h1; cases h2; cases h3; cases h4
    rw [c24] at hcl
    exact .mk k n s m cells hm hcl (i4 _ _ rfl)

theorem it_of {l : List DV} (h : TyOk Tryz.prog 63 l) : IT l := by
  obtain ⟨hl, h⟩ := ty_struct Tryz.underlying63 h
  rw [c63] at hl
  obtain ⟨a, b, c, d, e, f, rfl⟩ := len6 hl
  have h1 := h { name := "Name", type := 9, offset := 0, embedded := false, tag := "", pkgPath := "", byteOffset := 0 } (by simp)
  have h2 := h { name := "Kind", type := 5, offset := 1, embedded := false, tag := "", pkgPath := "", byteOffset := 16 } (by simp)
  have h3 := h { name := "After", type := 61, offset := 2, embedded := false, tag := "", pkgPath := "", byteOffset := 24 } (by simp)
  have h4 := h { name := "Over", type := 9, offset := 3, embedded := false, tag := "", pkgPath := "", byteOffset := 48 } (by simp)
  have h5 := h { name := "Width", type := 3, offset := 4, embedded := false, tag := "", pkgPath := "", byteOffset := 64 } (by simp)
  have h6 := h { name := "Quota", type := 3, offset := 5, embedded := false, tag := "", pkgPath := "", byteOffset := 72 } (by simp)
  simp only [c5, c3, c9, c61, List.drop_zero, List.drop_succ_cons, List.take_succ_cons, List.take_zero] at h1 h2 h3 h4 h5 h6
  obtain ⟨s1, h1⟩ := ty_str Tryz.underlying9 h1
  obtain ⟨k, h2⟩ := ty_int Tryz.underlying5 h2
  obtain ⟨m, cells, h3, _⟩ := ty_sl Tryz.underlying61 h3
  obtain ⟨s2, h4⟩ := ty_str Tryz.underlying9 h4
  obtain ⟨w, h5⟩ := ty_int Tryz.underlying3 h5
  obtain ⟨q, h6⟩ := ty_int Tryz.underlying3 h6
  cases h1; cases h2; cases h3; cases h4; cases h5; cases h6
  exact .mk _ _ _ _ _ _ _

theorem op_of {l : List DV} (h : TyOk Tryz.prog 27 l) : ∃ p : OpV, l = opC p ∧ VT [.i .u8 p.k, .i .i64 p.n, .s p.s, .sl true p.m p.cs] ∧ p.fm ≤ 9223372036854775807 ∧ p.fcs.length = p.fm * 6 ∧ ∀ i, i < p.fm → IT ((p.fcs.drop (i * 6)).take 6) := by
  obtain ⟨hl, h⟩ := ty_struct Tryz.underlying27 h
  rw [c27] at hl
  obtain ⟨a, b, c, d, e, f, g, i, j, rfl⟩ := len9 hl
  have h1 := h { name := "What", type := 5, offset := 0, embedded := false, tag := "", pkgPath := "", byteOffset := 0 } (by simp)
  have h2 := h { name := "ID", type := 9, offset := 1, embedded := false, tag := "", pkgPath := "", byteOffset := 8 } (by simp)
  have h3 := h { name := "Token", type := 2, offset := 2, embedded := false, tag := "", pkgPath := "", byteOffset := 24 } (by simp)
  have h4 := h { name := "Value", type := 24, offset := 3, embedded := false, tag := "", pkgPath := "", byteOffset := 32 } (by simp)
  have h5 := h { name := "Frag", type := 25, offset := 7, embedded := false, tag := "", pkgPath := "", byteOffset := 88 } (by simp)
  have h6 := h { name := "Quota", type := 3, offset := 8, embedded := false, tag := "", pkgPath := "", byteOffset := 112 } (by simp)
  simp only [c5, c2, c3, c9, c24, c25, List.drop_zero, List.drop_succ_cons, List.take_succ_cons, List.take_zero] at h1 h2 h3 h4 h5 h6
  obtain ⟨w, h1⟩ := ty_int Tryz.underlying5 h1
  obtain ⟨id, h2⟩ := ty_str Tryz.underlying9 h2
  obtain ⟨tok, h3⟩ := ty_int Tryz.underlying2 h3
  have hv := (vt_of h4).1 rfl
  obtain ⟨fm, fcs, h5, hfm, hfl, hf⟩ := ty_sl Tryz.underlying25 h5
  obtain ⟨q, h6⟩ := ty_int Tryz.underlying3 h6
  cases h1; cases h2; cases h3; cases h5; cases h6
  rw [c63] at hfl
  have hv0 := hv
  cases hv with
  | mk k n s m cs hm hl2 hvs =>
    exact ⟨⟨w, id, tok, k, n, s, m, cs, fm, fcs, q⟩, rfl, hv0, hfm, hfl, fun i hi => by have := it_of (hf i hi); rw [c63] at this; exact this⟩
theorem closed : closedT Tryz.prog [27, 5, 9, 2, 24, 25, 3, 22, 63, 61] = true := by kernel_rfl
end
end Go.Proofs.YtenpedmcbmlmkaaGreatDoor
