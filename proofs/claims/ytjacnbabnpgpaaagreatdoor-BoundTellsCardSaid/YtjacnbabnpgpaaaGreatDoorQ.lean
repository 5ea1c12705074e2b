/- Contracts: batch.Cut. -/
import Derived.Test.YtjacnbabnpgpaaaGreatDoorP
namespace Go.Proofs.YtjacnbabnpgpaaaGreatDoor
open Go Go.Abs
set_option maxRecDepth 100000
noncomputable section
def rowD (r : List UInt8) : DV := .sl false r.length (bytesD r)
def rowsD (rows : List (List UInt8)) : List DV := rows.map rowD
theorem rowsD_length (rows : List (List UInt8)) : (rowsD rows).length = rows.length := List.length_map ..
theorem cleanL_rows : ∀ l : List (List UInt8), cleanL (rowsD l) = true
  | [] => rfl
  | b :: l => by
    show (clean (rowD b) && cleanL (rowsD l)) = true
    rw [cleanL_rows l, Bool.and_true]
    show (!false && cleanL (bytesD b)) = true
    rw [cleanL_bytes]; rfl
def hCut (n : Nat) : Heap := (Heap.empty.push (.cells false t_s_s_uint8 [.nilsl])).push (.tok 0 t_uint8)
def cCut0 (b : Bool) (n : Nat) (cs : List DV) : Cfg := .run c_batch_Cut.body [] ⟨false, []⟩ (enterT c_batch_Cut.ntmps ([DV.sl b n cs].map inj)) .empty
def cCut1 (b : Bool) (n : Nat) (cs : List DV) : Cfg := (adv E (cCut0 b n cs)).callK (.app 1 0 n cs) (hCut n)
def fnCut (n : Nat) (cs : List DV) : AV := .fn (.func f_slices_Chunk_byte_1) [] [.d (.bx false [.sl false n cs] 0), .d (.bx false [.i .i64 4096] 0)]
def cCut (b : Bool) (n : Nat) (cs : List DV) : Cfg := (adv E (cCut1 b n cs)).callK (fnCut n cs) (adv E (cCut1 b n cs)).callH
def bCut (b : Bool) (n : Nat) (cs : List DV) (s : LSt) : Blk := .loop s .none 0 (adv E (cCut b n cs)).tm (adv E (cCut b n cs)).rfP (adv E (cCut b n cs)).rfA (adv E (cCut b n cs)).rfB
structure CI (b : Bool) (n : Nat) (cs : List DV) (rows : List (List UInt8)) (h : Heap) : Prop where
  l : h.get 2 = some (bCut b n cs .ready)
  s : ∃ v, h.get 0 = some (.cells false t_s_s_uint8 [v]) ∧ FA t_s_uint8 rows.length (rowsD rows) v h
theorem cutRound {b : Bool} {n : Nat} {cs : List DV} {h : Heap} {rows : List (List UInt8)} {r : List UInt8} (hi : CI b n cs rows h) (hl : rows.length + 1 ≤ 100000000000) : ∃ h', Rnd E 2 [.full false r.length (bytesD r)] h (.nrm, .d (.b true), h') ∧ CI b n cs (rows ++ [r]) h' := by
  obtain ⟨hlp, v, hc, hf⟩ := hi
  have hb : (h.set 2 (bCut b n cs .busy)).get 0 = some (.cells false t_s_s_uint8 [v]) := by
    rw [Heap.get_set_ne (by omega)]; exact hc
  obtain ⟨hB, hBe⟩ : ∃ hB, hB = h.set 2 (bCut b n cs .busy) := ⟨_, rfl⟩
  have hBl : hB.get 2 = some (bCut b n cs .busy) := by rw [hBe]; exact Heap.get_set_self hlp
  rw [← hBe] at hb
  have hfB : FA t_s_uint8 rows.length (rowsD rows) v hB := hf.keep fun t g ht => by rw [hBe, Heap.get_set_ne (fun e => by subst e; rw [hlp] at ht; cases ht)]
  have hsrc : srcView (hB.push (.cells false t_s_uint8 [.full false r.length (bytesD r)])) 1 (.sref hB.n 0 1 1 1 true) = some (1, [.full false r.length (bytesD r)]) := by
    unfold srcView slView; simp only [push_n]; rfl
  have hfP : FA t_s_uint8 rows.length (rowsD rows) v (hB.push (.cells false t_s_uint8 [.full false r.length (bytesD r)])) := hfB.keep fun t g ht => (push_of ht _).trans ht.symm
  obtain ⟨v', h2, hs, hf2, hk, ht⟩ := app_fg (sz := 1) (bytes := 24) (ds := [rowD r]) hfP (by rw [rowsD_length, Nat.mul_one]) hsrc rfl (by omega) (by omega) (by intro e; cases e) rfl
  obtain ⟨t', g', rfl, ht'⟩ := ht (by omega)
  have hnp : ∀ i x, hB.get i = some x → (∀ g, x ≠ .tok g t_s_uint8) → h2.get i = some x := fun i x hx hn => by
    have hx' := push_of hx (.cells false t_s_uint8 [.full false r.length (bytesD r)])
    rw [hk.2 i (get_lt hx') (fun t g n cs e hit => ?_)]
    · exact hx'
    · subst e hit
      rcases hfP with ⟨_, _, e | e⟩ | ⟨t1, g1, e, ht1⟩
      · cases e
      · cases e
      · cases e
        rw [hx'] at ht1
        cases ht1
        exact hn _ rfl
  have hc2 := hnp _ _ hb (fun g e => by cases e)
  have hl2 := hnp _ _ hBl (fun g e => by cases e)
  have htn : t' ≠ 0 := fun e => by subst e; rw [hc2] at ht'; cases ht'
  have htl : t' ≠ 2 := fun e => by subst e; rw [hl2] at ht'; cases ht'
  refine ⟨(h2.set 0 (.cells false t_s_s_uint8 [.app t' g' (rows.length + 1) (rowsD rows ++ [rowD r])])).set 2 (bCut b n cs .ready), ?_, ?_⟩
  · refine Rnd.w (tm := setL (adv E (cCut b n cs)).tm 8 (.full false r.length (bytesD r))) (tm1 := setL (setL (adv E (cCut b n cs)).tm 8 (.full false r.length (bytesD r))) 4 (.full false r.length (bytesD r))) hlp (by kernel_rfl) ⟨2, by kernel_rfl⟩ ?_
    rw [show Blk.loop .busy .none 0 (adv E (cCut b n cs)).tm (adv E (cCut b n cs)).rfP (adv E (cCut b n cs)).rfA (adv E (cCut b n cs)).rfB = bCut b n cs .busy from rfl, ← hBe]
    refine .op (load_q hb) (by kernel_rfl) ?_
    refine .op hs (by kernel_rfl) ?_
    refine .op (store_ptr (n := 1) (off := 0) (x := .app t' g' (rows.length + 1) (rowsD rows ++ [rowD r])) hc2 rfl) (by kernel_rfl) ?_
    have key : ∀ x : Heap, x = h2.set 0 (.cells false t_s_s_uint8 [.app t' g' (rows.length + 1) (rowsD rows ++ [rowD r])]) → ∃ f1 tm2 ps2 a2 b2 p2 s2, x.get 2 = some (.loop s2 p2 f1 tm2 ps2 a2 b2) ∧ (h2.set 0 (.cells false t_s_s_uint8 [.app t' g' (rows.length + 1) (rowsD rows ++ [rowD r])])).set 2 (bCut b n cs .ready) = x.set 2 (.loop .ready .none f1 tm2 ps2 a2 b2) := by
      rintro _ rfl
      refine ⟨0, _, _, _, _, .none, .busy, (Heap.get_set_ne (by omega)).trans hl2, rfl⟩
    exact .done 0 (by kernel_rfl) ⟨rfl, key _ (by kernel_rfl)⟩
  · have hx : (h2.set 0 (.cells false t_s_s_uint8 [.app t' g' (rows.length + 1) (rowsD rows ++ [rowD r])])).get 2 = some (bCut b n cs .busy) := by rw [Heap.get_set_ne (by omega)]; exact hl2
    refine ⟨Heap.get_set_self hx, .app t' g' (rows.length + 1) (rowsD rows ++ [rowD r]), ?_, .inr ⟨t', g', ?_, ?_⟩⟩
    · rw [Heap.get_set_ne (by omega), Heap.get_set_self hc2]
    · rw [List.length_append, show rowsD (rows ++ [r]) = rowsD rows ++ [rowD r] from List.map_append]; rfl
    · rw [Heap.get_set_ne (Ne.symm htl), Heap.get_set_ne (Ne.symm htn)]; exact ht'
theorem cutF_len : ∀ k bs, (cutF k bs).length ≤ k := by
  intro k
  induction k with
  | zero => intro bs; exact Nat.le_refl _
  | succ k ih =>
    intro bs
    unfold cutF
    split
    · exact Nat.zero_le _
    · have := ih (bs.drop 4096)
      simp only [List.length_cons]; omega
theorem cutB_ne {bs : List UInt8} (h : bs ≠ []) : cutB bs ≠ [] := by
  cases bs with
  | nil => exact absurd rfl h
  | cons a r =>
    unfold cutB
    show cutF (r.length + 1) (a :: r) ≠ []
    unfold cutF
    rw [if_neg h]
    exact fun e => by cases e
theorem cut_ok {h : Heap} {args : List AV} {bor b : Bool} {bs : List UInt8} (hne : bs ≠ []) (hlen : bs.length ≤ 10000000000) (ha : stripArgs h args = some ([.sl b bs.length (bytesD bs)], bor)) :
    Cal E f_batch_Cut args h (.nrm, .app h.n 0 (cutB bs).length (rowsD (cutB bs)), h.push (.tok 0 t_s_uint8)) := by
  have hn0 : bs.length ≠ 0 := fun e => hne (List.length_eq_zero_iff.1 e)
  have hcl := cutF_len bs.length bs
  have hcn : (cutB bs).length ≠ 0 := fun e => cutB_ne hne (List.length_eq_zero_iff.1 e)
  let h2 := (hCut bs.length).push (bCut b bs.length (bytesD bs) .ready)
  have i0 : CI b bs.length (bytesD bs) [] h2 := ⟨push_n (hCut bs.length) _, .nilsl, push_of (push_of (push_n .empty _) _) _, .inl ⟨rfl, rfl, .inr rfl⟩⟩
  obtain ⟨h3, hy, i3⟩ := Ylds.of (E := E) (l := 2) (I := fun i g => CI b bs.length (bytesD bs) ((cutB bs).take i) g) (l1 := argsC (cutB bs)) (i := 0) (h := h2) i0 (fun j a ha g hi => by
    unfold argsC at ha
    rw [List.getElem?_map] at ha
    cases hb : (cutB bs)[j]? with
    | none => rw [hb] at ha; cases ha
    | some r =>
      rw [hb] at ha
      cases ha
      have hj : j < (cutB bs).length := (List.getElem?_eq_some_iff.1 hb).1
      have hlt : ((cutB bs).take (0 + j)).length = j := by rw [List.length_take]; omega
      obtain ⟨g', y, i2⟩ := cutRound (r := r) hi (by unfold cutB at hj; omega)
      refine ⟨g', y, ?_⟩
      rw [show 0 + j + 1 = j + 1 by omega]
      rwa [Nat.zero_add, show (cutB bs).take j ++ [r] = (cutB bs).take (j + 1) from by rw [List.take_add_one, hb]; rfl] at i2)
  have i4 : CI b bs.length (bytesD bs) (cutB bs) h3 := by
    have : (argsC (cutB bs)).length = (cutB bs).length := by unfold argsC; rw [List.length_map]
    rw [this, Nat.zero_add, List.take_of_length_le (Nat.le_refl _)] at i3
    exact i3
  obtain ⟨hlp, v, hc, hf3⟩ := i4
  have hx : (h3.set 2 (bCut b bs.length (bytesD bs) .exhausted)).get 0 = some (.cells false t_s_s_uint8 [v]) := by rw [Heap.get_set_ne (by omega)]; exact hc
  obtain ⟨t, g, rfl, ht⟩ := hf3.app hcn
  have ht2 : (h3.set 2 (bCut b bs.length (bytesD bs) .exhausted)).get t = some (.tok g t_s_uint8) := by
    rw [Heap.get_set_ne (fun e => by subst e; rw [hlp] at ht; cases ht)]; exact ht
  have hcl2 : slView (Heap.empty.push (.cells false t_s_s_uint8 [.nilsl])) 1 (.d (.sl b bs.length (bytesD bs))) = some (bs.length, (bytesD bs).map .d) := by
    show rowView 1 bs.length (bytesD bs) = _; exact rowView_bytes bs
  refine .w n_batch_Cut rfl ha ?_
  refine .op (clone_new (E := E) (h := Heap.empty.push (.cells false t_s_s_uint8 [.nilsl])) (f := f_slices_Clone_byte) (e := t_uint8) (sz := 1) (bytes := 1) (n := bs.length) (cs := bytesD bs) (y := .d (.sl b bs.length (bytesD bs))) (by kernel_rfl) hn0 hcl2 hcl2 (by omega) (by omega) (okCells_bytes _)) (by kernel_rfl) ?_
  refine .callv (fun h => chunkN_ok (h := h) (t := 1) (g := 0) (n := bs.length) (cs := bytesD bs)) (by kernel_rfl) ?_
  refine .rfunc (m := true) (f := f_slices_Chunk_byte_1) (args := [.fn (.yield 2) [] [], .d (.bx false [.sl false bs.length (bytesD bs)] 0), .d (.bx false [.i .i64 4096] 0)]) (by kernel_rfl) (chunk1_ok (by omega) hy) hlp ?_
  refine .op (load_q hx) (by kernel_rfl) ?_
  refine .br (iEq (.ofNat (cutB bs).length) 0) (by kernel_rfl) (fun e => ?_) (fun _ => ?_)
  · rw [iEq_iff] at e; simp only [Int.ofNat_eq_natCast] at e; omega
  refine .op (load_q hx) (by kernel_rfl) ?_
  exact .retF ht2 (cleanL_rows _) (by kernel_rfl) (by kernel_rfl)
end
end Go.Proofs.YtjacnbabnpgpaaaGreatDoor
