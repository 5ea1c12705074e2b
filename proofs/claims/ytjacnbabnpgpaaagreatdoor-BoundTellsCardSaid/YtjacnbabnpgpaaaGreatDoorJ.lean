/- Contracts: wire.Num, wire.Text. -/
import Derived.Test.YtjacnbabnpgpaaaGreatDoorI
namespace Go.Proofs.YtjacnbabnpgpaaaGreatDoor
open Go Go.Abs
set_option maxRecDepth 100000
noncomputable section
def cAS (v : AV) (n : Int) (h : Heap) : Cfg := .run c_slices_AppendSeq_byte.body [] ⟨true, []⟩ (enterT c_slices_AppendSeq_byte.ntmps [v, .fn (.func f_wire_groups_1) [] [.d (.bx false [.i .i64 n] 0)]]) h
def bLp (v : AV) (n : Int) (h : Heap) : Blk := .loop .ready .none 0 (adv E (cAS v n h)).tm (adv E (cAS v n h)).rfP (adv E (cAS v n h)).rfA (adv E (cAS v n h)).rfB
structure ASI (v0 : AV) (n : Int) (h0 : Heap) (bs : List UInt8) (h : Heap) : Prop where
  l : h.get (h0.n + 1) = some (bLp v0 n h0)
  s : ∃ v, h.get h0.n = some (.cells false t_s_uint8 [v]) ∧ FA t_uint8 bs.length (bytesD bs) v h
theorem asRound0 {n : Int} {h0 h : Heap} {bs : List UInt8} {b : UInt8} (hi : ASI (.full false 0 []) n h0 bs h) (hl : bs.length + 1 ≤ 70368744177664) : ∃ h', Rnd E (h0.n + 1) [.d (byteD b)] h (.nrm, .d (.b true), h') ∧ ASI (.full false 0 []) n h0 (bs ++ [b]) h' := by
  obtain ⟨hlp, v, hc, hf⟩ := hi
  have hb : (h.set (h0.n + 1) (.loop .busy .none 0 (adv E (cAS (.full false 0 []) n h0)).tm (adv E (cAS (.full false 0 []) n h0)).rfP (adv E (cAS (.full false 0 []) n h0)).rfA (adv E (cAS (.full false 0 []) n h0)).rfB)).get h0.n = some (.cells false t_s_uint8 [v]) := by
    rw [Heap.get_set_ne (by omega)]; exact hc
  obtain ⟨hB, hBe⟩ : ∃ hB, hB = h.set (h0.n + 1) (.loop .busy .none 0 (adv E (cAS (.full false 0 []) n h0)).tm (adv E (cAS (.full false 0 []) n h0)).rfP (adv E (cAS (.full false 0 []) n h0)).rfA (adv E (cAS (.full false 0 []) n h0)).rfB) := ⟨_, rfl⟩
  have hBl : hB.get (h0.n + 1) = some (.loop .busy .none 0 (adv E (cAS (.full false 0 []) n h0)).tm (adv E (cAS (.full false 0 []) n h0)).rfP (adv E (cAS (.full false 0 []) n h0)).rfA (adv E (cAS (.full false 0 []) n h0)).rfB) := by rw [hBe]; exact Heap.get_set_self hlp
  rw [← hBe] at hb
  have hfB : FA t_uint8 bs.length (bytesD bs) v hB := hf.keep fun t g ht => by rw [hBe, Heap.get_set_ne (fun e => by subst e; rw [hlp] at ht; cases ht)]
  have hsrc : SrcR (hB.push (.cells false t_uint8 [.d (byteD b)])) 1 (.sref hB.n 0 1 1 1 true) 1 [byteD b] := by
    unfold SrcR srcView slView; simp only [push_n]; rfl
  have hfP : FA t_uint8 bs.length (bytesD bs) v (hB.push (.cells false t_uint8 [.d (byteD b)])) := hfB.keep fun t g ht => (push_of ht _).trans ht.symm
  obtain ⟨v', h2, hs, hf2, hk, ht⟩ := app_fa (sz := 1) (bytes := 1) hfP (by rw [bytesD_length, Nat.mul_one]) hsrc (by omega) (by omega) (by intro e; cases e) rfl
  obtain ⟨t', g', rfl, ht'⟩ := ht (by omega)
  have hnp : ∀ i x, hB.get i = some x → (∀ g, x ≠ .tok g t_uint8) → h2.get i = some x := fun i x hx hn => by
    have hx' := push_of hx (.cells false t_uint8 [.d (byteD b)])
    rw [hk.2 i (get_lt hx') (fun t g n cs e hit => ?_)]
    · exact hx'
    · subst e hit
      rcases hfP with ⟨_, _, e | e⟩ | ⟨t1, g1, e, ht1⟩
      · cases e
      · cases e
      · cases e
        rw [hx'] at ht1
        cases ht1
        exact hn _ rfl
  have hc2 := hnp _ _ hb (fun g e => by cases e)
  have hl2 := hnp _ _ hBl (fun g e => by cases e)
  have htn : t' ≠ h0.n := fun e => by subst e; rw [hc2] at ht'; cases ht'
  have htl : t' ≠ h0.n + 1 := fun e => by subst e; rw [hl2] at ht'; cases ht'
  refine ⟨(h2.set h0.n (.cells false t_s_uint8 [.app t' g' (bs.length + 1) (bytesD bs ++ [byteD b])])).set (h0.n + 1) (bLp (.full false 0 []) n h0), ?_, ?_⟩
  · refine Rnd.w (tm := setL (adv E (cAS (.full false 0 []) n h0)).tm 7 (.d (byteD b))) (tm1 := setL (setL (adv E (cAS (.full false 0 []) n h0)).tm 7 (.d (byteD b))) 5 (.d (byteD b))) hlp (by kernel_rfl) ⟨2, by kernel_rfl⟩ ?_
    rw [← hBe]
    refine .op (load_q hb) (by kernel_rfl) ?_
    refine .op hs (by kernel_rfl) ?_
    refine .op (store_ptr (n := 1) (off := 0) (x := .app t' g' (bs.length + 1) (bytesD bs ++ [byteD b])) hc2 rfl) (by kernel_rfl) ?_
    have key : ∀ x : Heap, x = h2.set h0.n (.cells false t_s_uint8 [.app t' g' (bs.length + 1) (bytesD bs ++ [byteD b])]) → ∃ f1 tm2 ps2 a2 b2 p2 s2, x.get (h0.n + 1) = some (.loop s2 p2 f1 tm2 ps2 a2 b2) ∧ (h2.set h0.n (.cells false t_s_uint8 [.app t' g' (bs.length + 1) (bytesD bs ++ [byteD b])])).set (h0.n + 1) (bLp (.full false 0 []) n h0) = x.set (h0.n + 1) (.loop .ready .none f1 tm2 ps2 a2 b2) := by
      rintro _ rfl
      refine ⟨0, _, _, _, _, .none, .busy, (Heap.get_set_ne (by omega)).trans hl2, rfl⟩
    exact .done 0 (by kernel_rfl) ⟨rfl, key _ (by kernel_rfl)⟩
  · have hx : (h2.set h0.n (.cells false t_s_uint8 [.app t' g' (bs.length + 1) (bytesD bs ++ [byteD b])])).get (h0.n + 1) = some (.loop .busy .none 0 (adv E (cAS (.full false 0 []) n h0)).tm (adv E (cAS (.full false 0 []) n h0)).rfP (adv E (cAS (.full false 0 []) n h0)).rfA (adv E (cAS (.full false 0 []) n h0)).rfB) := by rw [Heap.get_set_ne (by omega)]; exact hl2
    refine ⟨Heap.get_set_self hx, .app t' g' (bs.length + 1) (bytesD bs ++ [byteD b]), ?_, .inr ⟨t', g', ?_, ?_⟩⟩
    · rw [Heap.get_set_ne (by omega), Heap.get_set_self hc2]
    · rw [bytesD_append, List.length_append]; rfl
    · rw [Heap.get_set_ne (Ne.symm htl), Heap.get_set_ne (Ne.symm htn)]; exact ht'
theorem appendSeq0 {n : Int} {h : Heap} {bs : List UInt8} (h0 : -9223372036854775808 ≤ n) (h1 : n < 9223372036854775808) (hf : FA t_uint8 bs.length (bytesD bs) (.full false 0 []) h) (hl : bs.length + 10 ≤ 70368744177664) :
    ∃ v' h', Cal E f_slices_AppendSeq_byte [.full false 0 [], .fn (.func f_wire_groups_1) [] [.d (.bx false [.i .i64 n] 0)]] h (.nrm, v', h') ∧ FA t_uint8 (bs ++ numB n).length (bytesD (bs ++ numB n)) v' h' := by
  have hnl := (numB_len n).2
  let h2 := (h.push (.cells false t_s_uint8 [.full false 0 []])).push (bLp (.full false 0 []) n h)
  have i0 : ASI (.full false 0 []) n h bs h2 := ⟨push_n (h.push _) _, .full false 0 [], push_of (push_n h _) _, hf.keep fun t g ht => (push_of (push_of ht _) _).trans ht.symm⟩
  obtain ⟨h3, hy, i3⟩ := Ylds.of (E := E) (l := h.n + 1) (I := fun i hh => ASI (.full false 0 []) n h (bs ++ (numB n).take i) hh) (l1 := argsY (numB n)) (i := 0) (h := h2) (by simpa using i0) (fun j a ha hh hi => by
    unfold argsY at ha
    rw [List.getElem?_map] at ha
    cases hb : (numB n)[j]? with
    | none => rw [hb] at ha; cases ha
    | some b =>
      rw [hb] at ha
      cases ha
      have hj : j < (numB n).length := (List.getElem?_eq_some_iff.1 hb).1
      have hlen : (bs ++ (numB n).take (0 + j)).length = bs.length + j := by rw [List.length_append, List.length_take]; omega
      obtain ⟨g', r, i2⟩ := asRound0 (b := b) hi (by omega)
      refine ⟨g', r, ?_⟩
      rw [show 0 + j + 1 = j + 1 by omega]
      rwa [List.append_assoc, Nat.zero_add, show (numB n).take j ++ [b] = (numB n).take (j + 1) from by rw [List.take_add_one, hb]; rfl] at i2)
  have i4 : ASI (.full false 0 []) n h (bs ++ numB n) h3 := by
    have : (argsY (numB n)).length = (numB n).length := by unfold argsY; rw [List.length_map]
    rw [this, Nat.zero_add, List.take_of_length_le (Nat.le_refl _)] at i3
    exact i3
  obtain ⟨hlp, v, hc, hf3⟩ := i4
  have hx : ((h3.set (h.n + 1) (.loop .exhausted .none 0 (adv E (cAS (.full false 0 []) n h)).tm (adv E (cAS (.full false 0 []) n h)).rfP (adv E (cAS (.full false 0 []) n h)).rfA (adv E (cAS (.full false 0 []) n h)).rfB))).get h.n = some (.cells false t_s_uint8 [v]) := by rw [Heap.get_set_ne (by omega)]; exact hc
  refine ⟨v, h3.set (h.n + 1) (.loop .exhausted .none 0 (adv E (cAS (.full false 0 []) n h)).tm (adv E (cAS (.full false 0 []) n h)).rfP (adv E (cAS (.full false 0 []) n h)).rfA (adv E (cAS (.full false 0 []) n h)).rfB), ?_, hf3.keep fun t g ht => by rw [Heap.get_set_ne (fun e => by subst e; rw [hlp] at ht; cases ht)]⟩
  refine .wr n_slices_AppendSeq_byte (.inl rfl) ?_
  refine .rfunc (m := true) (f := f_wire_groups_1) (args := [.fn (.yield (h.n + 1)) [] [], .d (.bx false [.i .i64 n] 0)]) (by kernel_rfl) (groups1_ok h0 h1 hy) hlp ?_
  refine .op (load_q hx) (by kernel_rfl) ?_
  exact .retR (by kernel_rfl) (by kernel_rfl)
theorem asRound1 {n : Int} {h0 h : Heap} {bs : List UInt8} {b : UInt8} (hi : ASI (.nilsl) n h0 bs h) (hl : bs.length + 1 ≤ 70368744177664) : ∃ h', Rnd E (h0.n + 1) [.d (byteD b)] h (.nrm, .d (.b true), h') ∧ ASI (.nilsl) n h0 (bs ++ [b]) h' := by
  obtain ⟨hlp, v, hc, hf⟩ := hi
  have hb : (h.set (h0.n + 1) (.loop .busy .none 0 (adv E (cAS (.nilsl) n h0)).tm (adv E (cAS (.nilsl) n h0)).rfP (adv E (cAS (.nilsl) n h0)).rfA (adv E (cAS (.nilsl) n h0)).rfB)).get h0.n = some (.cells false t_s_uint8 [v]) := by
    rw [Heap.get_set_ne (by omega)]; exact hc
  obtain ⟨hB, hBe⟩ : ∃ hB, hB = h.set (h0.n + 1) (.loop .busy .none 0 (adv E (cAS (.nilsl) n h0)).tm (adv E (cAS (.nilsl) n h0)).rfP (adv E (cAS (.nilsl) n h0)).rfA (adv E (cAS (.nilsl) n h0)).rfB) := ⟨_, rfl⟩
  have hBl : hB.get (h0.n + 1) = some (.loop .busy .none 0 (adv E (cAS (.nilsl) n h0)).tm (adv E (cAS (.nilsl) n h0)).rfP (adv E (cAS (.nilsl) n h0)).rfA (adv E (cAS (.nilsl) n h0)).rfB) := by rw [hBe]; exact Heap.get_set_self hlp
  rw [← hBe] at hb
  have hfB : FA t_uint8 bs.length (bytesD bs) v hB := hf.keep fun t g ht => by rw [hBe, Heap.get_set_ne (fun e => by subst e; rw [hlp] at ht; cases ht)]
  have hsrc : SrcR (hB.push (.cells false t_uint8 [.d (byteD b)])) 1 (.sref hB.n 0 1 1 1 true) 1 [byteD b] := by
    unfold SrcR srcView slView; simp only [push_n]; rfl
  have hfP : FA t_uint8 bs.length (bytesD bs) v (hB.push (.cells false t_uint8 [.d (byteD b)])) := hfB.keep fun t g ht => (push_of ht _).trans ht.symm
  obtain ⟨v', h2, hs, hf2, hk, ht⟩ := app_fa (sz := 1) (bytes := 1) hfP (by rw [bytesD_length, Nat.mul_one]) hsrc (by omega) (by omega) (by intro e; cases e) rfl
  obtain ⟨t', g', rfl, ht'⟩ := ht (by omega)
  have hnp : ∀ i x, hB.get i = some x → (∀ g, x ≠ .tok g t_uint8) → h2.get i = some x := fun i x hx hn => by
    have hx' := push_of hx (.cells false t_uint8 [.d (byteD b)])
    rw [hk.2 i (get_lt hx') (fun t g n cs e hit => ?_)]
    · exact hx'
    · subst e hit
      rcases hfP with ⟨_, _, e | e⟩ | ⟨t1, g1, e, ht1⟩
      · cases e
      · cases e
      · cases e
        rw [hx'] at ht1
        cases ht1
        exact hn _ rfl
  have hc2 := hnp _ _ hb (fun g e => by cases e)
  have hl2 := hnp _ _ hBl (fun g e => by cases e)
  have htn : t' ≠ h0.n := fun e => by subst e; rw [hc2] at ht'; cases ht'
  have htl : t' ≠ h0.n + 1 := fun e => by subst e; rw [hl2] at ht'; cases ht'
  refine ⟨(h2.set h0.n (.cells false t_s_uint8 [.app t' g' (bs.length + 1) (bytesD bs ++ [byteD b])])).set (h0.n + 1) (bLp (.nilsl) n h0), ?_, ?_⟩
  · refine Rnd.w (tm := setL (adv E (cAS (.nilsl) n h0)).tm 7 (.d (byteD b))) (tm1 := setL (setL (adv E (cAS (.nilsl) n h0)).tm 7 (.d (byteD b))) 5 (.d (byteD b))) hlp (by kernel_rfl) ⟨2, by kernel_rfl⟩ ?_
    rw [← hBe]
    refine .op (load_q hb) (by kernel_rfl) ?_
    refine .op hs (by kernel_rfl) ?_
    refine .op (store_ptr (n := 1) (off := 0) (x := .app t' g' (bs.length + 1) (bytesD bs ++ [byteD b])) hc2 rfl) (by kernel_rfl) ?_
    have key : ∀ x : Heap, x = h2.set h0.n (.cells false t_s_uint8 [.app t' g' (bs.length + 1) (bytesD bs ++ [byteD b])]) → ∃ f1 tm2 ps2 a2 b2 p2 s2, x.get (h0.n + 1) = some (.loop s2 p2 f1 tm2 ps2 a2 b2) ∧ (h2.set h0.n (.cells false t_s_uint8 [.app t' g' (bs.length + 1) (bytesD bs ++ [byteD b])])).set (h0.n + 1) (bLp (.nilsl) n h0) = x.set (h0.n + 1) (.loop .ready .none f1 tm2 ps2 a2 b2) := by
      rintro _ rfl
      refine ⟨0, _, _, _, _, .none, .busy, (Heap.get_set_ne (by omega)).trans hl2, rfl⟩
    exact .done 0 (by kernel_rfl) ⟨rfl, key _ (by kernel_rfl)⟩
  · have hx : (h2.set h0.n (.cells false t_s_uint8 [.app t' g' (bs.length + 1) (bytesD bs ++ [byteD b])])).get (h0.n + 1) = some (.loop .busy .none 0 (adv E (cAS (.nilsl) n h0)).tm (adv E (cAS (.nilsl) n h0)).rfP (adv E (cAS (.nilsl) n h0)).rfA (adv E (cAS (.nilsl) n h0)).rfB) := by rw [Heap.get_set_ne (by omega)]; exact hl2
    refine ⟨Heap.get_set_self hx, .app t' g' (bs.length + 1) (bytesD bs ++ [byteD b]), ?_, .inr ⟨t', g', ?_, ?_⟩⟩
    · rw [Heap.get_set_ne (by omega), Heap.get_set_self hc2]
    · rw [bytesD_append, List.length_append]; rfl
    · rw [Heap.get_set_ne (Ne.symm htl), Heap.get_set_ne (Ne.symm htn)]; exact ht'
theorem appendSeq1 {n : Int} {h : Heap} {bs : List UInt8} (h0 : -9223372036854775808 ≤ n) (h1 : n < 9223372036854775808) (hf : FA t_uint8 bs.length (bytesD bs) (.nilsl) h) (hl : bs.length + 10 ≤ 70368744177664) :
    ∃ v' h', Cal E f_slices_AppendSeq_byte [.nilsl, .fn (.func f_wire_groups_1) [] [.d (.bx false [.i .i64 n] 0)]] h (.nrm, v', h') ∧ FA t_uint8 (bs ++ numB n).length (bytesD (bs ++ numB n)) v' h' := by
  have hnl := (numB_len n).2
  let h2 := (h.push (.cells false t_s_uint8 [.nilsl])).push (bLp (.nilsl) n h)
  have i0 : ASI (.nilsl) n h bs h2 := ⟨push_n (h.push _) _, .nilsl, push_of (push_n h _) _, hf.keep fun t g ht => (push_of (push_of ht _) _).trans ht.symm⟩
  obtain ⟨h3, hy, i3⟩ := Ylds.of (E := E) (l := h.n + 1) (I := fun i hh => ASI (.nilsl) n h (bs ++ (numB n).take i) hh) (l1 := argsY (numB n)) (i := 0) (h := h2) (by simpa using i0) (fun j a ha hh hi => by
    unfold argsY at ha
    rw [List.getElem?_map] at ha
    cases hb : (numB n)[j]? with
    | none => rw [hb] at ha; cases ha
    | some b =>
      rw [hb] at ha
      cases ha
      have hj : j < (numB n).length := (List.getElem?_eq_some_iff.1 hb).1
      have hlen : (bs ++ (numB n).take (0 + j)).length = bs.length + j := by rw [List.length_append, List.length_take]; omega
      obtain ⟨g', r, i2⟩ := asRound1 (b := b) hi (by omega)
      refine ⟨g', r, ?_⟩
      rw [show 0 + j + 1 = j + 1 by omega]
      rwa [List.append_assoc, Nat.zero_add, show (numB n).take j ++ [b] = (numB n).take (j + 1) from by rw [List.take_add_one, hb]; rfl] at i2)
  have i4 : ASI (.nilsl) n h (bs ++ numB n) h3 := by
    have : (argsY (numB n)).length = (numB n).length := by unfold argsY; rw [List.length_map]
    rw [this, Nat.zero_add, List.take_of_length_le (Nat.le_refl _)] at i3
    exact i3
  obtain ⟨hlp, v, hc, hf3⟩ := i4
  have hx : ((h3.set (h.n + 1) (.loop .exhausted .none 0 (adv E (cAS (.nilsl) n h)).tm (adv E (cAS (.nilsl) n h)).rfP (adv E (cAS (.nilsl) n h)).rfA (adv E (cAS (.nilsl) n h)).rfB))).get h.n = some (.cells false t_s_uint8 [v]) := by rw [Heap.get_set_ne (by omega)]; exact hc
  refine ⟨v, h3.set (h.n + 1) (.loop .exhausted .none 0 (adv E (cAS (.nilsl) n h)).tm (adv E (cAS (.nilsl) n h)).rfP (adv E (cAS (.nilsl) n h)).rfA (adv E (cAS (.nilsl) n h)).rfB), ?_, hf3.keep fun t g ht => by rw [Heap.get_set_ne (fun e => by subst e; rw [hlp] at ht; cases ht)]⟩
  refine .wr n_slices_AppendSeq_byte (.inl rfl) ?_
  refine .rfunc (m := true) (f := f_wire_groups_1) (args := [.fn (.yield (h.n + 1)) [] [], .d (.bx false [.i .i64 n] 0)]) (by kernel_rfl) (groups1_ok h0 h1 hy) hlp ?_
  refine .op (load_q hx) (by kernel_rfl) ?_
  exact .retR (by kernel_rfl) (by kernel_rfl)
theorem asRound2 {n : Int} {h0 h : Heap} {t g m : Nat} {cs : List DV} {bs : List UInt8} {b : UInt8} (hi : ASI (.app t g m cs) n h0 bs h) (hl : bs.length + 1 ≤ 70368744177664) : ∃ h', Rnd E (h0.n + 1) [.d (byteD b)] h (.nrm, .d (.b true), h') ∧ ASI (.app t g m cs) n h0 (bs ++ [b]) h' := by
  obtain ⟨hlp, v, hc, hf⟩ := hi
  have hb : (h.set (h0.n + 1) (.loop .busy .none 0 (adv E (cAS (.app t g m cs) n h0)).tm (adv E (cAS (.app t g m cs) n h0)).rfP (adv E (cAS (.app t g m cs) n h0)).rfA (adv E (cAS (.app t g m cs) n h0)).rfB)).get h0.n = some (.cells false t_s_uint8 [v]) := by
    rw [Heap.get_set_ne (by omega)]; exact hc
  obtain ⟨hB, hBe⟩ : ∃ hB, hB = h.set (h0.n + 1) (.loop .busy .none 0 (adv E (cAS (.app t g m cs) n h0)).tm (adv E (cAS (.app t g m cs) n h0)).rfP (adv E (cAS (.app t g m cs) n h0)).rfA (adv E (cAS (.app t g m cs) n h0)).rfB) := ⟨_, rfl⟩
  have hBl : hB.get (h0.n + 1) = some (.loop .busy .none 0 (adv E (cAS (.app t g m cs) n h0)).tm (adv E (cAS (.app t g m cs) n h0)).rfP (adv E (cAS (.app t g m cs) n h0)).rfA (adv E (cAS (.app t g m cs) n h0)).rfB) := by rw [hBe]; exact Heap.get_set_self hlp
  rw [← hBe] at hb
  have hfB : FA t_uint8 bs.length (bytesD bs) v hB := hf.keep fun t g ht => by rw [hBe, Heap.get_set_ne (fun e => by subst e; rw [hlp] at ht; cases ht)]
  have hsrc : SrcR (hB.push (.cells false t_uint8 [.d (byteD b)])) 1 (.sref hB.n 0 1 1 1 true) 1 [byteD b] := by
    unfold SrcR srcView slView; simp only [push_n]; rfl
  have hfP : FA t_uint8 bs.length (bytesD bs) v (hB.push (.cells false t_uint8 [.d (byteD b)])) := hfB.keep fun t g ht => (push_of ht _).trans ht.symm
  obtain ⟨v', h2, hs, hf2, hk, ht⟩ := app_fa (sz := 1) (bytes := 1) hfP (by rw [bytesD_length, Nat.mul_one]) hsrc (by omega) (by omega) (by intro e; cases e) rfl
  obtain ⟨t', g', rfl, ht'⟩ := ht (by omega)
  have hnp : ∀ i x, hB.get i = some x → (∀ g, x ≠ .tok g t_uint8) → h2.get i = some x := fun i x hx hn => by
    have hx' := push_of hx (.cells false t_uint8 [.d (byteD b)])
    rw [hk.2 i (get_lt hx') (fun t g n cs e hit => ?_)]
    · exact hx'
    · subst e hit
      rcases hfP with ⟨_, _, e | e⟩ | ⟨t1, g1, e, ht1⟩
      · cases e
      · cases e
      · cases e
        rw [hx'] at ht1
        cases ht1
        exact hn _ rfl
  have hc2 := hnp _ _ hb (fun g e => by cases e)
  have hl2 := hnp _ _ hBl (fun g e => by cases e)
  have htn : t' ≠ h0.n := fun e => by subst e; rw [hc2] at ht'; cases ht'
  have htl : t' ≠ h0.n + 1 := fun e => by subst e; rw [hl2] at ht'; cases ht'
  refine ⟨(h2.set h0.n (.cells false t_s_uint8 [.app t' g' (bs.length + 1) (bytesD bs ++ [byteD b])])).set (h0.n + 1) (bLp (.app t g m cs) n h0), ?_, ?_⟩
  · refine Rnd.w (tm := setL (adv E (cAS (.app t g m cs) n h0)).tm 7 (.d (byteD b))) (tm1 := setL (setL (adv E (cAS (.app t g m cs) n h0)).tm 7 (.d (byteD b))) 5 (.d (byteD b))) hlp (by kernel_rfl) ⟨2, by kernel_rfl⟩ ?_
    rw [← hBe]
    refine .op (load_q hb) (by kernel_rfl) ?_
    refine .op hs (by kernel_rfl) ?_
    refine .op (store_ptr (n := 1) (off := 0) (x := .app t' g' (bs.length + 1) (bytesD bs ++ [byteD b])) hc2 rfl) (by kernel_rfl) ?_
    have key : ∀ x : Heap, x = h2.set h0.n (.cells false t_s_uint8 [.app t' g' (bs.length + 1) (bytesD bs ++ [byteD b])]) → ∃ f1 tm2 ps2 a2 b2 p2 s2, x.get (h0.n + 1) = some (.loop s2 p2 f1 tm2 ps2 a2 b2) ∧ (h2.set h0.n (.cells false t_s_uint8 [.app t' g' (bs.length + 1) (bytesD bs ++ [byteD b])])).set (h0.n + 1) (bLp (.app t g m cs) n h0) = x.set (h0.n + 1) (.loop .ready .none f1 tm2 ps2 a2 b2) := by
      rintro _ rfl
      refine ⟨0, _, _, _, _, .none, .busy, (Heap.get_set_ne (by omega)).trans hl2, rfl⟩
    exact .done 0 (by kernel_rfl) ⟨rfl, key _ (by kernel_rfl)⟩
  · have hx : (h2.set h0.n (.cells false t_s_uint8 [.app t' g' (bs.length + 1) (bytesD bs ++ [byteD b])])).get (h0.n + 1) = some (.loop .busy .none 0 (adv E (cAS (.app t g m cs) n h0)).tm (adv E (cAS (.app t g m cs) n h0)).rfP (adv E (cAS (.app t g m cs) n h0)).rfA (adv E (cAS (.app t g m cs) n h0)).rfB) := by rw [Heap.get_set_ne (by omega)]; exact hl2
    refine ⟨Heap.get_set_self hx, .app t' g' (bs.length + 1) (bytesD bs ++ [byteD b]), ?_, .inr ⟨t', g', ?_, ?_⟩⟩
    · rw [Heap.get_set_ne (by omega), Heap.get_set_self hc2]
    · rw [bytesD_append, List.length_append]; rfl
    · rw [Heap.get_set_ne (Ne.symm htl), Heap.get_set_ne (Ne.symm htn)]; exact ht'
theorem appendSeq2 {n : Int} {h : Heap} {t g m : Nat} {cs : List DV} {bs : List UInt8} (h0 : -9223372036854775808 ≤ n) (h1 : n < 9223372036854775808) (hf : FA t_uint8 bs.length (bytesD bs) (.app t g m cs) h) (hl : bs.length + 10 ≤ 70368744177664) :
    ∃ v' h', Cal E f_slices_AppendSeq_byte [.app t g m cs, .fn (.func f_wire_groups_1) [] [.d (.bx false [.i .i64 n] 0)]] h (.nrm, v', h') ∧ FA t_uint8 (bs ++ numB n).length (bytesD (bs ++ numB n)) v' h' := by
  have hnl := (numB_len n).2
  let h2 := (h.push (.cells false t_s_uint8 [.app t g m cs])).push (bLp (.app t g m cs) n h)
  have i0 : ASI (.app t g m cs) n h bs h2 := ⟨push_n (h.push _) _, .app t g m cs, push_of (push_n h _) _, hf.keep fun t g ht => (push_of (push_of ht _) _).trans ht.symm⟩
  obtain ⟨h3, hy, i3⟩ := Ylds.of (E := E) (l := h.n + 1) (I := fun i hh => ASI (.app t g m cs) n h (bs ++ (numB n).take i) hh) (l1 := argsY (numB n)) (i := 0) (h := h2) (by simpa using i0) (fun j a ha hh hi => by
    unfold argsY at ha
    rw [List.getElem?_map] at ha
    cases hb : (numB n)[j]? with
    | none => rw [hb] at ha; cases ha
    | some b =>
      rw [hb] at ha
      cases ha
      have hj : j < (numB n).length := (List.getElem?_eq_some_iff.1 hb).1
      have hlen : (bs ++ (numB n).take (0 + j)).length = bs.length + j := by rw [List.length_append, List.length_take]; omega
      obtain ⟨g', r, i2⟩ := asRound2 (b := b) hi (by omega)
      refine ⟨g', r, ?_⟩
      rw [show 0 + j + 1 = j + 1 by omega]
      rwa [List.append_assoc, Nat.zero_add, show (numB n).take j ++ [b] = (numB n).take (j + 1) from by rw [List.take_add_one, hb]; rfl] at i2)
  have i4 : ASI (.app t g m cs) n h (bs ++ numB n) h3 := by
    have : (argsY (numB n)).length = (numB n).length := by unfold argsY; rw [List.length_map]
    rw [this, Nat.zero_add, List.take_of_length_le (Nat.le_refl _)] at i3
    exact i3
  obtain ⟨hlp, v, hc, hf3⟩ := i4
  have hx : ((h3.set (h.n + 1) (.loop .exhausted .none 0 (adv E (cAS (.app t g m cs) n h)).tm (adv E (cAS (.app t g m cs) n h)).rfP (adv E (cAS (.app t g m cs) n h)).rfA (adv E (cAS (.app t g m cs) n h)).rfB))).get h.n = some (.cells false t_s_uint8 [v]) := by rw [Heap.get_set_ne (by omega)]; exact hc
  refine ⟨v, h3.set (h.n + 1) (.loop .exhausted .none 0 (adv E (cAS (.app t g m cs) n h)).tm (adv E (cAS (.app t g m cs) n h)).rfP (adv E (cAS (.app t g m cs) n h)).rfA (adv E (cAS (.app t g m cs) n h)).rfB), ?_, hf3.keep fun t g ht => by rw [Heap.get_set_ne (fun e => by subst e; rw [hlp] at ht; cases ht)]⟩
  refine .wr n_slices_AppendSeq_byte (.inl rfl) ?_
  refine .rfunc (m := true) (f := f_wire_groups_1) (args := [.fn (.yield (h.n + 1)) [] [], .d (.bx false [.i .i64 n] 0)]) (by kernel_rfl) (groups1_ok h0 h1 hy) hlp ?_
  refine .op (load_q hx) (by kernel_rfl) ?_
  exact .retR (by kernel_rfl) (by kernel_rfl)
theorem appendSeq_ok {n : Int} {h : Heap} {v : AV} {bs : List UInt8} (h0 : -9223372036854775808 ≤ n) (h1 : n < 9223372036854775808) (hf : FA t_uint8 bs.length (bytesD bs) v h) (hl : bs.length + 10 ≤ 70368744177664) :
    ∃ v' h', Cal E f_slices_AppendSeq_byte [v, .fn (.func f_wire_groups_1) [] [.d (.bx false [.i .i64 n] 0)]] h (.nrm, v', h') ∧ FA t_uint8 (bs ++ numB n).length (bytesD (bs ++ numB n)) v' h' := by
  rcases id hf with ⟨_, _, rfl | rfl⟩ | ⟨t, g, rfl, _⟩
  · exact appendSeq0 h0 h1 hf hl
  · exact appendSeq1 h0 h1 hf hl
  · exact appendSeq2 h0 h1 hf hl
end
end Go.Proofs.YtjacnbabnpgpaaaGreatDoor
