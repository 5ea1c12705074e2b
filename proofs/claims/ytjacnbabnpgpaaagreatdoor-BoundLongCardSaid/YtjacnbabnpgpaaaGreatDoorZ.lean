/- BoundLong on the abstract machine: true, whatever the operation. -/
import Derived.Test.YtjacnbabnpgpaaaGreatDoorY
namespace Go.Proofs.YtjacnbabnpgpaaaGreatDoor
noncomputable section
open Go Go.Abs
set_option maxRecDepth 100000
theorem awake_ok {h : Heap} : Cal E f_foremanlaw29_awake [] h (.nrm, .d (.b true), h) := ⟨100000, by kernel_rfl⟩
theorem most_ok {h : Heap} : Cal E f_bound_MostLong [] h (.nrm, .d (.i .i64 39804), h) := ⟨20, by kernel_rfl⟩
def moreA : List AV := [.d (.s [109, 111, 114, 101]), .d (.i .u8 0), .nilsl, .d (.s []), .d (.i .i64 0), .d (.i .i64 0)]
theorem norm_items {l : List ItemS} {fcs : List DV} (hl : fcs.length = l.length * 6) (hcs : ∀ i (hi : i < l.length), ItemR l[i] (chunk fcs 6 i)) : fcs.map norm = fcs := by
  have key : ∀ x ∈ fcs, norm x = x := fun x hx => by
    obtain ⟨j, hj, rfl⟩ := List.getElem_of_mem hx
    have hi : j / 6 < l.length := by omega
    obtain ⟨b, hlit, _⟩ := hcs (j / 6) hi
    have hm : fcs[j] ∈ chunk fcs 6 (j / 6) := by
      unfold chunk
      rw [List.mem_iff_getElem]
      refine ⟨j - j / 6 * 6, by rw [List.length_take, List.length_drop]; omega, ?_⟩
      rw [List.getElem_take, List.getElem_drop]
      congr 1
      omega
    rw [hlit] at hm
    simp only [List.mem_cons, List.mem_nil_iff, or_false] at hm
    rcases hm with h | h | h | h | h | h <;> rw [h] <;> rfl
  rw [List.map_congr_left key, List.map_id']
theorem okCells_items {l : List ItemS} {fcs : List DV} (hl : fcs.length = l.length * 6) (hcs : ∀ i (hi : i < l.length), ItemR l[i] (chunk fcs 6 i)) : okCells (fcs.map .d) = true := by
  unfold okCells
  rw [Bool.not_eq_true', List.any_eq_false]
  intro x hx
  obtain ⟨y, hy, rfl⟩ := List.mem_map.1 hx
  obtain ⟨j, hj, rfl⟩ := List.getElem_of_mem hy
  have hi : j / 6 < l.length := by omega
  obtain ⟨b, hlit, _⟩ := hcs (j / 6) hi
  have hm : fcs[j] ∈ chunk fcs 6 (j / 6) := by
    unfold chunk
    rw [List.mem_iff_getElem]
    refine ⟨j - j / 6 * 6, by rw [List.length_take, List.length_drop]; omega, ?_⟩
    rw [List.getElem_take, List.getElem_drop]
    congr 1
    omega
  rw [hlit] at hm
  simp only [List.mem_cons, List.mem_nil_iff, or_false] at hm
  rcases hm with h | h | h | h | h | h <;> rw [h] <;> exact fun e => by cases e
theorem items_snoc {l : List ItemS} {fcs : List DV} (hl : fcs.length = l.length * 6) (hcs : ∀ i (hi : i < l.length), ItemR l[i] (chunk fcs 6 i)) : ItemsR (l ++ [moreI]) (.sl true (l.length + 1) (fcs ++ itemD moreI)) := by
  have hn : (l ++ [moreI]).length = l.length + 1 := List.length_append
  refine .inr ⟨true, fcs ++ itemD moreI, by rw [hn], by rw [List.length_append, hn, hl]; show _ + 6 = _; omega, fun i hi => ?_⟩
  rw [hn] at hi
  by_cases h : i < l.length
  · have hc : chunk (fcs ++ itemD moreI) 6 i = chunk fcs 6 i := by
      unfold chunk
      rw [List.drop_append_of_le_length (by omega), List.take_append_of_le_length (by rw [List.length_drop]; omega)]
    rw [hc, List.getElem_append_left h]
    exact hcs i h
  · have hil : i = l.length := by omega
    subst hil
    have hc : chunk (fcs ++ itemD moreI) 6 l.length = itemD moreI := by
      unfold chunk
      rw [← hl, List.drop_left, List.take_of_length_le (by show 6 ≤ 6; omega)]
    rw [hc, List.getElem_append_right (Nat.le_refl _)]
    simp only [Nat.sub_self, List.getElem_cons_zero]
    exact ⟨false, rfl, ⟨by decide, by decide⟩, ⟨by decide, by decide⟩, ⟨by decide, by decide⟩⟩
theorem srcMore {h : Heap} {b : Nat} (hg : h.get b = some (.cells false t_Item moreA)) : srcView h 6 (.sref b 0 6 1 1 true) = some (1, moreA) := by
  unfold srcView slView
  simp only [hg]; rfl
theorem app_more {h : Heap} {b n : Nat} {cs : List AV} {ex : Bool} (hg : h.get b = some (.cells false t_Item cs)) (hl : cs.length = n * 6) {y : AV} (hs : srcView h 6 y = some (1, moreA)) (h2 : n + 1 ≤ 700000000000) :
    s_app h [] t_Item 6 80 false (.c (.sref b 0 6 n n ex)) (.c y) = .val (.sref h.n 0 6 (n + 1) (n + 1) false) ((match ex with | true => h | false => h.set b .dead).push (.cells false t_Item (cs ++ moreA))) := by
  have hr : readN cs 0 (n * 6) = some cs := by rw [← hl]; exact readN_all cs
  have hc : (Nat.ble ((n + 1) * 80) 70368744177664 && Nat.ble (n + 1) 70368744177664 && okCells moreA) = true := by
    simp only [Bool.and_eq_true, Nat.ble_eq]; exact ⟨⟨by omega, by omega⟩, rfl⟩
  unfold s_app
  simp only [X.ev]
  rw [hs]
  have hbl : Nat.ble (n + 1) n = false := by rw [← Bool.not_eq_true, Nat.ble_eq]; omega
  cases ex
  · simp only [lenOf, hc, appA, hg, hr, hbl, show Nat.beq t_Item t_Item = true from rfl, show Nat.beq 6 6 = true from rfl, show Nat.beq 0 0 = true from rfl, Bool.and_self, Bool.not_true, Bool.or_self, oh]
  · simp only [lenOf, hc, appA, hg, hr, hbl, show Nat.beq t_Item t_Item = true from rfl, show Nat.beq 6 6 = true from rfl, Bool.and_self, oh]
theorem app_those {h : Heap} {b n : Nat} {cs : List DV} {fb : Bool} (hg : h.get b = some (.cells false t_Item [])) (hl : cs.length = n * 6) (ho : okCells (cs.map .d) = true) (hn : n ≠ 0) (h2 : n ≤ 700000000000) :
    s_app h [] t_Item 6 80 false (.c (.sref b 0 6 0 0 true)) (.c (.d (.sl fb n cs))) = .val (.sref h.n 0 6 n n false) (h.push (.cells false t_Item (cs.map .d))) := by
  have hs : srcView h 6 (.d (.sl fb n cs)) = some (n, cs.map .d) := by
    show rowView 6 n cs = _
    unfold rowView; rw [hl, Nat.beq_refl]
  obtain ⟨k, rfl⟩ : ∃ k, n = k + 1 := ⟨n - 1, by omega⟩
  have hc : (Nat.ble ((k + 1) * 80) 70368744177664 && Nat.ble (k + 1) 70368744177664 && okCells (cs.map .d)) = true := by
    simp only [Bool.and_eq_true, Nat.ble_eq]; exact ⟨⟨by omega, by omega⟩, ho⟩
  unfold s_app
  simp only [X.ev]
  rw [hs]
  have hbl : Nat.ble (k + 1) 0 = false := by rw [← Bool.not_eq_true, Nat.ble_eq]; omega
  simp only [lenOf, appA, hg, show readN [] 0 (0 * 6) = some [] from rfl, show Nat.beq t_Item t_Item = true from rfl, show Nat.beq 6 6 = true from rfl, Bool.and_self, oh, Nat.zero_add, List.nil_append, hbl, hc]
theorem strip_more {h : Heap} {b n : Nat} {fcs : List DV} {w tok k m q : Int} {id s : List UInt8} {vb : Bool} {vm : Nat} {vcs : List DV} (hg : h.get b = some (.cells false t_Item (fcs.map .d ++ moreA))) (hl : fcs.length = n * 6) (hn : fcs.map norm = fcs) :
    stripArgs h [.agg [.d (.i .u8 w), .d (.s id), .d (.i .i64 tok), .d (.i .u8 k), .d (.i .i64 m), .d (.s s), .d (.sl vb vm vcs), .sref b 0 6 (n + 1) (n + 1) false, .d (.i .i64 q)]] = some ([.agg [.i .u8 w, .s id, .i .i64 tok, .i .u8 k, .i .i64 m, .s s, .sl vb vm vcs, .sl true (n + 1) (fcs ++ itemD moreI), .i .i64 q]], true) := by
  have hr : readN (fcs.map .d ++ moreA) 0 ((n + 1) * 6) = some (fcs.map .d ++ moreA) := by
    have := readN_all (fcs.map AV.d ++ moreA)
    rwa [show (fcs.map AV.d ++ moreA).length = (n + 1) * 6 by rw [List.length_append, List.length_map, hl]; show _ + 6 = _; omega] at this
  have hw : ∀ rd, borrowWL rd (fcs.map .d ++ moreA) = some (fcs ++ [.s [109, 111, 114, 101], .i .u8 0, .nsl, .s [], .i .i64 0, .i .i64 0], false) := by
    intro rd
    clear hl hn hr hg
    induction fcs with
    | nil => rfl
    | cons a r ih => simp only [List.map, List.cons_append, borrowWL, borrowW, ih, Bool.or_false]
  have hm : (fcs ++ [DV.s [109, 111, 114, 101], .i .u8 0, .nsl, .s [], .i .i64 0, .i .i64 0]).map norm = fcs ++ itemD moreI := by
    rw [List.map_append, hn]; rfl
  have hb : borrow h (.agg [.d (.i .u8 w), .d (.s id), .d (.i .i64 tok), .d (.i .u8 k), .d (.i .i64 m), .d (.s s), .d (.sl vb vm vcs), .sref b 0 6 (n + 1) (n + 1) false, .d (.i .i64 q)]) = some (.agg [.i .u8 w, .s id, .i .i64 tok, .i .u8 k, .i .i64 m, .s s, .sl vb vm vcs, .sl true (n + 1) (fcs ++ itemD moreI), .i .i64 q], true) := by
    simp only [borrow, borrowW, borrowWL, rd3, rdBlk, hg, hr, hw, hm]
    rfl
  exact strip_cons hb (strip_nil (h := h))
theorem addS {h : Heap} {q : EqK} {a b : List UInt8} (hl : a.length + b.length ≤ 70368744177664) : s_bin h [] .add q (.c (.d (.s a))) (.c (.d (.s b))) = .val (.d (.s (a ++ b))) h := by
  unfold s_bin binA
  simp only [X.ev, intA, strA, strOp]
  rw [show Nat.ble (a.length + b.length) 70368744177664 = true by rw [Nat.ble_eq]; exact hl]
  rfl
abbrev hZ (a : List AV) : Heap := ownH ((Heap.empty.push (.cells false t_Op a)).push (.tok 0 t_s_uint8))
abbrev hY (a : List AV) : Heap := ((hZ a).push (.cells false t_Op [.d (.i .u8 0), .d (.s []), .d (.i .i64 0), .d (.i .u8 0), .d (.i .i64 0), .d (.s []), .nilsl, .nilsl, .d (.i .i64 0)])).set 3 (.cells false t_Op a)
section
variable {w tok k n q : Int} {id vs : List UInt8} {vb : Bool} {vl : List ValS} {vcs : List DV} {fb : Bool} {l : List ItemS} {fcs : List DV}
theorem lawBad (ho : InO (oO w tok k n q id vs vl l) (dO w tok k n q id vs vb vl vcs fb l fcs)) (hr : rightO (oO w tok k n q id vs vl l) = false) : Cal E f_foremanlaw29_BoundLong [.d (.agg (dO w tok k n q id vs vb vl vcs fb l fcs))] .empty (.nrm, .d (.b true), .empty) := by
  obtain ⟨x, ⟨b, rfl⟩, hf⟩ := Few10_ok (h := Heap.empty.push (.cells false t_Op (aO w tok k n q id vs vb vl vcs fb l fcs))) (args := [.agg (aO w tok k n q id vs vb vl vcs fb l fcs)]) (bor := false) ho rfl
  refine .w n_foremanlaw29_BoundLong rfl (ds := [.agg (dO w tok k n q id vs vb vl vcs fb l fcs)]) (bor := false) rfl ?_
  refine .call hf (by kernel_rfl) ?_
  refine .br (!b) (by kernel_rfl) (fun _ => ?_) (fun _ => ?_)
  · refine .callv (fun h => awake_ok (h := h)) (by kernel_rfl) ?_
    exact .ret rfl (by kernel_rfl)
  refine .callv (fun h => (boundLong_ok (h := h) (args := [.agg (aO w tok k n q id vs vb vl vcs fb l fcs)]) (bor := false) ho.r rfl).1 hr) (by kernel_rfl) ?_
  refine .callv (fun h => (rows7ss (h := h) ho.r).1 hr) (by kernel_rfl) ?_
  refine .br false (by kernel_rfl) (fun e => by cases e) (fun _ => ?_)
  refine .br true (by kernel_rfl) (fun _ => ?_) (fun e => by cases e)
  refine .br true (by kernel_rfl) (fun _ => ?_) (fun e => by cases e)
  refine .callv (fun h => awake_ok (h := h)) (by kernel_rfl) ?_
  exact .ret rfl (by kernel_rfl)
theorem law1 (ho : InO (oO 1 tok k n q id vs vl l) (dO 1 tok k n q id vs vb vl vcs fb l fcs)) (hF1 : fcs.length = l.length * 6) (hF2 : ∀ i (hi : i < l.length), ItemR l[i] (chunk fcs 6 i)) (hr : rightO (oO 1 tok k n q id vs vl l) = true) : Cal E f_foremanlaw29_BoundLong [.d (.agg (dO 1 tok k n q id vs vb vl vcs fb l fcs))] .empty (.nrm, .d (.b true), .empty) := by
  obtain ⟨x, ⟨b, rfl⟩, hf⟩ := Few10_ok (h := (Heap.empty.push (.cells false t_Op (aO 1 tok k n q id vs vb vl vcs fb l fcs)))) (args := [.agg (aO 1 tok k n q id vs vb vl vcs fb l fcs)]) (bor := false) ho rfl
  obtain ⟨out, hol, hput⟩ := batchPut_ok (h := ((Heap.empty.push (.cells false t_Op (aO 1 tok k n q id vs vb vl vcs fb l fcs))).push (.tok 0 t_s_uint8))) (b := false) (bor := false) (rows := rowsO 7 (oO 1 tok k n q id vs vl l)) (args := [.app (Heap.empty.push (.cells false t_Op (aO 1 tok k n q id vs vb vl vcs fb l fcs))).n 0 (rowsO 7 (oO 1 tok k n q id vs vl l)).length (rowsD (rowsO 7 (oO 1 tok k n q id vs vl l)))]) (rowsO_rows (Nat.le_trans (opB_le hr) (by decide))) rfl
  rw [longR_rowsO] at hol
  have hb2 := opB_le hr
  have hmost : longO (oO 1 tok k n q id vs vl l) ≤ 39804 := by unfold longO; omega
  refine .w n_foremanlaw29_BoundLong rfl (ds := [.agg (dO 1 tok k n q id vs vb vl vcs fb l fcs)]) (bor := false) rfl ?_
  refine .call hf (by kernel_rfl) ?_
  refine .br (!b) (by kernel_rfl) (fun _ => ?_) (fun _ => ?_)
  · refine .callv (fun h => awake_ok (h := h)) (by kernel_rfl) ?_
    exact .ret rfl (by kernel_rfl)
  refine .callv (fun h => (boundLong_ok (h := h) (args := [.agg (aO 1 tok k n q id vs vb vl vcs fb l fcs)]) (bor := false) ho.r rfl).2 hr) (by kernel_rfl) ?_
  refine .call ((rows7ss (h := (Heap.empty.push (.cells false t_Op (aO 1 tok k n q id vs vb vl vcs fb l fcs)))) ho.r).2 hr) (by kernel_rfl) ?_
  refine .br false (by kernel_rfl) (fun e => by cases e) (fun _ => ?_)
  refine .br false (by kernel_rfl) (fun e => by cases e) (fun _ => ?_)
  refine .call hput (by kernel_rfl) ?_
  refine .br false (by kernel_rfl) (fun e => by cases e) (fun _ => ?_)
  refine .br (!iEq (.ofNat out.length) (.ofNat (longO (oO 1 tok k n q id vs vl l)))) (by kernel_rfl) (fun e => ?_) (fun _ => ?_)
  · rw [Bool.not_eq_true', iEq_not, hol] at e; exact absurd rfl e
  refine .callv (fun h => most_ok (h := h)) (by kernel_rfl) ?_
  refine .br (iLt 39804 (.ofNat (longO (oO 1 tok k n q id vs vl l)))) (by kernel_rfl) (fun e => ?_) (fun _ => ?_)
  · rw [iLt_iff] at e; simp only [Int.ofNat_eq_natCast] at e; omega
  obtain ⟨vcs0, F0, he, hv, _, hw8, htk, hqq⟩ := ho.r
  have hv : ValR (.mk k n vs vl) [.i .u8 k, .i .i64 n, .s vs, .sl vb vl.length vcs] := by
    obtain ⟨k1, n1, s1, b1, m1, c1, rfl⟩ := hv.lit
    simp only [List.cons_append, List.nil_append, List.cons.injEq] at he
    obtain ⟨-, -, -, h4, h5, h6, h7, -⟩ := he
    rw [h4, h5, h6, h7]; exact hv
  refine .br true (by kernel_rfl) (fun _ => ?_) (fun e => by cases e)
  have hl40 : l.length ≤ 40 := by
    have := rightK_frag (hq := true) (hi := false) (ht := false) (hv := false) (o := (oO 1 tok k n q id vs vl l)) (by rw [← rightO1 rfl]; exact hr)
    exact this
  have hrel : OpR (moreO (oO 1 tok k n q id vs vl l)) [.i .u8 1, .s id, .i .i64 tok, .i .u8 k, .i .i64 n, .s vs, .sl vb vl.length vcs, .sl true (l.length + 1) (fcs ++ itemD moreI), .i .i64 q] := ⟨[.i .u8 k, .i .i64 n, .s vs, .sl vb vl.length vcs], .sl true (l.length + 1) (fcs ++ itemD moreI), rfl, hv, ⟨items_snoc hF1 hF2, fun e => by cases e⟩, hw8, htk, hqq⟩
  have hnorm := norm_items hF1 hF2
  by_cases hne : l.length = 0
  · obtain rfl := List.length_eq_zero_iff.1 hne
    obtain rfl := List.length_eq_zero_iff.1 (show fcs.length = 0 from hF1)
    refine .op (v := .sref 4 0 6 0 0 true) (h' := ((hY (aO 1 tok k n q id vs vb vl vcs fb [] [])).push (.cells false t_Item []))) (s := s_app ((hY (aO 1 tok k n q id vs vb vl vcs fb [] [])).push (.cells false t_Item [])) [] t_Item 6 80 false (.c (.sref 4 0 6 0 0 true)) (.c (.d (.sl fb 0 [])))) rfl (by kernel_rfl) ?_
    refine .op (app_more (h := (((hY (aO 1 tok k n q id vs vb vl vcs fb [] [])).push (.cells false t_Item [])).push (.cells false t_Item moreA))) (b := 4) (n := 0) (cs := []) (ex := true) (y := .sref 5 0 6 1 1 true) rfl rfl (srcMore rfl) (by omega)) (by kernel_rfl) ?_
    by_cases hp : rightO (moreO (oO 1 tok k n q id vs vl [])) = true
    · refine .call ((boundLong_ok (h := (((((hY (aO 1 tok k n q id vs vb vl vcs fb [] [])).push (.cells false t_Item [])).push (.cells false t_Item moreA)).push (.cells false t_Item moreA)).set 3 (.cells false t_Op [.d (.i .u8 1), .d (.s id), .d (.i .i64 tok), .d (.i .u8 k), .d (.i .i64 n), .d (.s vs), .d (.sl vb vl.length vcs), .sref 6 0 6 (0 + 1) (0 + 1) false, .d (.i .i64 q)]))) (args := [.agg [.d (.i .u8 1), .d (.s id), .d (.i .i64 tok), .d (.i .u8 k), .d (.i .i64 n), .d (.s vs), .d (.sl vb vl.length vcs), .sref 6 0 6 (0 + 1) (0 + 1) false, .d (.i .i64 q)]]) (bor := true) hrel (strip_more (n := 0) (fcs := []) rfl rfl rfl)).2 hp) (by kernel_rfl) ?_
      have hlt := more_lt (o := (oO 1 tok k n q id vs vl [])) (.inl rfl) hp
      refine .br false (by kernel_rfl) (fun e => by cases e) (fun _ => ?_)
      refine .br (iLt (.ofNat (longO (oO 1 tok k n q id vs vl []))) (.ofNat (longO (moreO (oO 1 tok k n q id vs vl []))))) (by kernel_rfl) (fun _ => ?_) (fun e => ?_)
      · refine .callv (fun h => awake_ok (h := h)) (by kernel_rfl) ?_
        exact .ret rfl (by kernel_rfl)
      · rw [iLt_not] at e; simp only [Int.ofNat_eq_natCast] at e; omega
    · have hp : rightO (moreO (oO 1 tok k n q id vs vl [])) = false := by simpa using hp
      refine .call ((boundLong_ok (h := (((((hY (aO 1 tok k n q id vs vb vl vcs fb [] [])).push (.cells false t_Item [])).push (.cells false t_Item moreA)).push (.cells false t_Item moreA)).set 3 (.cells false t_Op [.d (.i .u8 1), .d (.s id), .d (.i .i64 tok), .d (.i .u8 k), .d (.i .i64 n), .d (.s vs), .d (.sl vb vl.length vcs), .sref 6 0 6 (0 + 1) (0 + 1) false, .d (.i .i64 q)]))) (args := [.agg [.d (.i .u8 1), .d (.s id), .d (.i .i64 tok), .d (.i .u8 k), .d (.i .i64 n), .d (.s vs), .d (.sl vb vl.length vcs), .sref 6 0 6 (0 + 1) (0 + 1) false, .d (.i .i64 q)]]) (bor := true) hrel (strip_more (n := 0) (fcs := []) rfl rfl rfl)).1 hp) (by kernel_rfl) ?_
      refine .br true (by kernel_rfl) (fun _ => ?_) (fun e => by cases e)
      refine .callv (fun h => awake_ok (h := h)) (by kernel_rfl) ?_
      exact .ret rfl (by kernel_rfl)
  · refine .op (app_those (h := ((hY (aO 1 tok k n q id vs vb vl vcs fb l fcs)).push (.cells false t_Item []))) (b := 4) (n := l.length) (cs := fcs) (fb := fb) rfl hF1 (okCells_items hF1 hF2) hne (by omega)) (by kernel_rfl) ?_
    refine .op (app_more (h := ((((hY (aO 1 tok k n q id vs vb vl vcs fb l fcs)).push (.cells false t_Item [])).push (.cells false t_Item (fcs.map .d))).push (.cells false t_Item moreA))) (b := 5) (n := l.length) (cs := fcs.map .d) (ex := false) (y := .sref 6 0 6 1 1 true) rfl (by rw [List.length_map]; exact hF1) (srcMore rfl) (by omega)) (by kernel_rfl) ?_
    by_cases hp : rightO (moreO (oO 1 tok k n q id vs vl l)) = true
    · refine .call ((boundLong_ok (h := (((((((hY (aO 1 tok k n q id vs vb vl vcs fb l fcs)).push (.cells false t_Item [])).push (.cells false t_Item (fcs.map .d))).push (.cells false t_Item moreA)).set 5 .dead).push (.cells false t_Item (fcs.map .d ++ moreA))).set 3 (.cells false t_Op [.d (.i .u8 1), .d (.s id), .d (.i .i64 tok), .d (.i .u8 k), .d (.i .i64 n), .d (.s vs), .d (.sl vb vl.length vcs), .sref 7 0 6 (l.length + 1) (l.length + 1) false, .d (.i .i64 q)]))) (args := [.agg [.d (.i .u8 1), .d (.s id), .d (.i .i64 tok), .d (.i .u8 k), .d (.i .i64 n), .d (.s vs), .d (.sl vb vl.length vcs), .sref 7 0 6 (l.length + 1) (l.length + 1) false, .d (.i .i64 q)]]) (bor := true) hrel (strip_more (n := l.length) (fcs := fcs) rfl hF1 hnorm)).2 hp) (by kernel_rfl) ?_
      have hlt := more_lt (o := (oO 1 tok k n q id vs vl l)) (.inl rfl) hp
      refine .br false (by kernel_rfl) (fun e => by cases e) (fun _ => ?_)
      refine .br (iLt (.ofNat (longO (oO 1 tok k n q id vs vl l))) (.ofNat (longO (moreO (oO 1 tok k n q id vs vl l))))) (by kernel_rfl) (fun _ => ?_) (fun e => ?_)
      · refine .callv (fun h => awake_ok (h := h)) (by kernel_rfl) ?_
        exact .ret rfl (by kernel_rfl)
      · rw [iLt_not] at e; simp only [Int.ofNat_eq_natCast] at e; omega
    · have hp : rightO (moreO (oO 1 tok k n q id vs vl l)) = false := by simpa using hp
      refine .call ((boundLong_ok (h := (((((((hY (aO 1 tok k n q id vs vb vl vcs fb l fcs)).push (.cells false t_Item [])).push (.cells false t_Item (fcs.map .d))).push (.cells false t_Item moreA)).set 5 .dead).push (.cells false t_Item (fcs.map .d ++ moreA))).set 3 (.cells false t_Op [.d (.i .u8 1), .d (.s id), .d (.i .i64 tok), .d (.i .u8 k), .d (.i .i64 n), .d (.s vs), .d (.sl vb vl.length vcs), .sref 7 0 6 (l.length + 1) (l.length + 1) false, .d (.i .i64 q)]))) (args := [.agg [.d (.i .u8 1), .d (.s id), .d (.i .i64 tok), .d (.i .u8 k), .d (.i .i64 n), .d (.s vs), .d (.sl vb vl.length vcs), .sref 7 0 6 (l.length + 1) (l.length + 1) false, .d (.i .i64 q)]]) (bor := true) hrel (strip_more (n := l.length) (fcs := fcs) rfl hF1 hnorm)).1 hp) (by kernel_rfl) ?_
      refine .br true (by kernel_rfl) (fun _ => ?_) (fun e => by cases e)
      refine .callv (fun h => awake_ok (h := h)) (by kernel_rfl) ?_
      exact .ret rfl (by kernel_rfl)
theorem law2 (ho : InO (oO 2 tok k n q id vs vl l) (dO 2 tok k n q id vs vb vl vcs fb l fcs)) (hF1 : fcs.length = l.length * 6) (hF2 : ∀ i (hi : i < l.length), ItemR l[i] (chunk fcs 6 i)) (hr : rightO (oO 2 tok k n q id vs vl l) = true) : Cal E f_foremanlaw29_BoundLong [.d (.agg (dO 2 tok k n q id vs vb vl vcs fb l fcs))] .empty (.nrm, .d (.b true), .empty) := by
  obtain ⟨x, ⟨b, rfl⟩, hf⟩ := Few10_ok (h := (Heap.empty.push (.cells false t_Op (aO 2 tok k n q id vs vb vl vcs fb l fcs)))) (args := [.agg (aO 2 tok k n q id vs vb vl vcs fb l fcs)]) (bor := false) ho rfl
  obtain ⟨out, hol, hput⟩ := batchPut_ok (h := ((Heap.empty.push (.cells false t_Op (aO 2 tok k n q id vs vb vl vcs fb l fcs))).push (.tok 0 t_s_uint8))) (b := false) (bor := false) (rows := rowsO 7 (oO 2 tok k n q id vs vl l)) (args := [.app (Heap.empty.push (.cells false t_Op (aO 2 tok k n q id vs vb vl vcs fb l fcs))).n 0 (rowsO 7 (oO 2 tok k n q id vs vl l)).length (rowsD (rowsO 7 (oO 2 tok k n q id vs vl l)))]) (rowsO_rows (Nat.le_trans (opB_le hr) (by decide))) rfl
  rw [longR_rowsO] at hol
  have hb2 := opB_le hr
  have hmost : longO (oO 2 tok k n q id vs vl l) ≤ 39804 := by unfold longO; omega
  refine .w n_foremanlaw29_BoundLong rfl (ds := [.agg (dO 2 tok k n q id vs vb vl vcs fb l fcs)]) (bor := false) rfl ?_
  refine .call hf (by kernel_rfl) ?_
  refine .br (!b) (by kernel_rfl) (fun _ => ?_) (fun _ => ?_)
  · refine .callv (fun h => awake_ok (h := h)) (by kernel_rfl) ?_
    exact .ret rfl (by kernel_rfl)
  refine .callv (fun h => (boundLong_ok (h := h) (args := [.agg (aO 2 tok k n q id vs vb vl vcs fb l fcs)]) (bor := false) ho.r rfl).2 hr) (by kernel_rfl) ?_
  refine .call ((rows7ss (h := (Heap.empty.push (.cells false t_Op (aO 2 tok k n q id vs vb vl vcs fb l fcs)))) ho.r).2 hr) (by kernel_rfl) ?_
  refine .br false (by kernel_rfl) (fun e => by cases e) (fun _ => ?_)
  refine .br false (by kernel_rfl) (fun e => by cases e) (fun _ => ?_)
  refine .call hput (by kernel_rfl) ?_
  refine .br false (by kernel_rfl) (fun e => by cases e) (fun _ => ?_)
  refine .br (!iEq (.ofNat out.length) (.ofNat (longO (oO 2 tok k n q id vs vl l)))) (by kernel_rfl) (fun e => ?_) (fun _ => ?_)
  · rw [Bool.not_eq_true', iEq_not, hol] at e; exact absurd rfl e
  refine .callv (fun h => most_ok (h := h)) (by kernel_rfl) ?_
  refine .br (iLt 39804 (.ofNat (longO (oO 2 tok k n q id vs vl l)))) (by kernel_rfl) (fun e => ?_) (fun _ => ?_)
  · rw [iLt_iff] at e; simp only [Int.ofNat_eq_natCast] at e; omega
  obtain ⟨vcs0, F0, he, hv, _, hw8, htk, hqq⟩ := ho.r
  have hv : ValR (.mk k n vs vl) [.i .u8 k, .i .i64 n, .s vs, .sl vb vl.length vcs] := by
    obtain ⟨k1, n1, s1, b1, m1, c1, rfl⟩ := hv.lit
    simp only [List.cons_append, List.nil_append, List.cons.injEq] at he
    obtain ⟨-, -, -, h4, h5, h6, h7, -⟩ := he
    rw [h4, h5, h6, h7]; exact hv
  refine .br false (by kernel_rfl) (fun e => by cases e) (fun _ => ?_)
  refine .br false (by kernel_rfl) (fun e => by cases e) (fun _ => ?_)
  have hid : id.length ≤ 400 := rightK_id (hf := false) (hq := false) (ht := false) (hv := false) (o := (oO 2 tok k n q id vs vl l)) (by rw [← rightO2 rfl]; exact hr)
  have hrel : OpR (longI (oO 2 tok k n q id vs vl l)) (dO 2 tok k n q (id ++ [120]) vs vb vl vcs fb l fcs) := by
    obtain ⟨vcs1, F1, he1, hv1, hF3, _⟩ := ho.r
    have hF4 : ItemsR l (.sl fb l.length fcs) := .inr ⟨fb, fcs, rfl, hF1, hF2⟩
    exact ⟨[.i .u8 k, .i .i64 n, .s vs, .sl vb vl.length vcs], .sl fb l.length fcs, rfl, hv, ⟨hF4, fun e => by cases e⟩, hw8, htk, hqq⟩
  refine .opv (fun h => addS (h := h) (q := .bool) (a := id) (b := [120]) (by show id.length + 1 ≤ _; omega)) (by kernel_rfl) ?_
  by_cases hp : rightO (longI (oO 2 tok k n q id vs vl l)) = true
  · refine .callv (fun h => (boundLong_ok (h := h) (args := [.agg (aO 2 tok k n q (id ++ [120]) vs vb vl vcs fb l fcs)]) (bor := false) hrel rfl).2 hp) (by kernel_rfl) ?_
    have hlt := long_lt (o := (oO 2 tok k n q id vs vl l)) (.inl rfl) hp
    refine .br false (by kernel_rfl) (fun e => by cases e) (fun _ => ?_)
    refine .br (iLt (.ofNat (longO (oO 2 tok k n q id vs vl l))) (.ofNat (longO (longI (oO 2 tok k n q id vs vl l))))) (by kernel_rfl) (fun _ => ?_) (fun e => ?_)
    · refine .callv (fun h => awake_ok (h := h)) (by kernel_rfl) ?_
      exact .ret rfl (by kernel_rfl)
    · rw [iLt_not] at e; simp only [Int.ofNat_eq_natCast] at e; omega
  · have hp : rightO (longI (oO 2 tok k n q id vs vl l)) = false := by simpa using hp
    refine .callv (fun h => (boundLong_ok (h := h) (args := [.agg (aO 2 tok k n q (id ++ [120]) vs vb vl vcs fb l fcs)]) (bor := false) hrel rfl).1 hp) (by kernel_rfl) ?_
    refine .br true (by kernel_rfl) (fun _ => ?_) (fun e => by cases e)
    refine .callv (fun h => awake_ok (h := h)) (by kernel_rfl) ?_
    exact .ret rfl (by kernel_rfl)
theorem law3 (ho : InO (oO 3 tok k n q id vs vl l) (dO 3 tok k n q id vs vb vl vcs fb l fcs)) (hF1 : fcs.length = l.length * 6) (hF2 : ∀ i (hi : i < l.length), ItemR l[i] (chunk fcs 6 i)) (hr : rightO (oO 3 tok k n q id vs vl l) = true) : Cal E f_foremanlaw29_BoundLong [.d (.agg (dO 3 tok k n q id vs vb vl vcs fb l fcs))] .empty (.nrm, .d (.b true), .empty) := by
  obtain ⟨x, ⟨b, rfl⟩, hf⟩ := Few10_ok (h := (Heap.empty.push (.cells false t_Op (aO 3 tok k n q id vs vb vl vcs fb l fcs)))) (args := [.agg (aO 3 tok k n q id vs vb vl vcs fb l fcs)]) (bor := false) ho rfl
  obtain ⟨out, hol, hput⟩ := batchPut_ok (h := ((Heap.empty.push (.cells false t_Op (aO 3 tok k n q id vs vb vl vcs fb l fcs))).push (.tok 0 t_s_uint8))) (b := false) (bor := false) (rows := rowsO 7 (oO 3 tok k n q id vs vl l)) (args := [.app (Heap.empty.push (.cells false t_Op (aO 3 tok k n q id vs vb vl vcs fb l fcs))).n 0 (rowsO 7 (oO 3 tok k n q id vs vl l)).length (rowsD (rowsO 7 (oO 3 tok k n q id vs vl l)))]) (rowsO_rows (Nat.le_trans (opB_le hr) (by decide))) rfl
  rw [longR_rowsO] at hol
  have hb2 := opB_le hr
  have hmost : longO (oO 3 tok k n q id vs vl l) ≤ 39804 := by unfold longO; omega
  refine .w n_foremanlaw29_BoundLong rfl (ds := [.agg (dO 3 tok k n q id vs vb vl vcs fb l fcs)]) (bor := false) rfl ?_
  refine .call hf (by kernel_rfl) ?_
  refine .br (!b) (by kernel_rfl) (fun _ => ?_) (fun _ => ?_)
  · refine .callv (fun h => awake_ok (h := h)) (by kernel_rfl) ?_
    exact .ret rfl (by kernel_rfl)
  refine .callv (fun h => (boundLong_ok (h := h) (args := [.agg (aO 3 tok k n q id vs vb vl vcs fb l fcs)]) (bor := false) ho.r rfl).2 hr) (by kernel_rfl) ?_
  refine .call ((rows7ss (h := (Heap.empty.push (.cells false t_Op (aO 3 tok k n q id vs vb vl vcs fb l fcs)))) ho.r).2 hr) (by kernel_rfl) ?_
  refine .br false (by kernel_rfl) (fun e => by cases e) (fun _ => ?_)
  refine .br false (by kernel_rfl) (fun e => by cases e) (fun _ => ?_)
  refine .call hput (by kernel_rfl) ?_
  refine .br false (by kernel_rfl) (fun e => by cases e) (fun _ => ?_)
  refine .br (!iEq (.ofNat out.length) (.ofNat (longO (oO 3 tok k n q id vs vl l)))) (by kernel_rfl) (fun e => ?_) (fun _ => ?_)
  · rw [Bool.not_eq_true', iEq_not, hol] at e; exact absurd rfl e
  refine .callv (fun h => most_ok (h := h)) (by kernel_rfl) ?_
  refine .br (iLt 39804 (.ofNat (longO (oO 3 tok k n q id vs vl l)))) (by kernel_rfl) (fun e => ?_) (fun _ => ?_)
  · rw [iLt_iff] at e; simp only [Int.ofNat_eq_natCast] at e; omega
  obtain ⟨vcs0, F0, he, hv, _, hw8, htk, hqq⟩ := ho.r
  have hv : ValR (.mk k n vs vl) [.i .u8 k, .i .i64 n, .s vs, .sl vb vl.length vcs] := by
    obtain ⟨k1, n1, s1, b1, m1, c1, rfl⟩ := hv.lit
    simp only [List.cons_append, List.nil_append, List.cons.injEq] at he
    obtain ⟨-, -, -, h4, h5, h6, h7, -⟩ := he
    rw [h4, h5, h6, h7]; exact hv
  refine .br false (by kernel_rfl) (fun e => by cases e) (fun _ => ?_)
  refine .br true (by kernel_rfl) (fun _ => ?_) (fun e => by cases e)
  have hl40 : l.length ≤ 40 := by
    have := rightK_frag (hq := false) (hi := true) (ht := true) (hv := true) (o := (oO 3 tok k n q id vs vl l)) (by rw [← rightO3 rfl]; exact hr)
    exact this
  have hrel : OpR (moreO (oO 3 tok k n q id vs vl l)) [.i .u8 3, .s id, .i .i64 tok, .i .u8 k, .i .i64 n, .s vs, .sl vb vl.length vcs, .sl true (l.length + 1) (fcs ++ itemD moreI), .i .i64 q] := ⟨[.i .u8 k, .i .i64 n, .s vs, .sl vb vl.length vcs], .sl true (l.length + 1) (fcs ++ itemD moreI), rfl, hv, ⟨items_snoc hF1 hF2, fun e => by cases e⟩, hw8, htk, hqq⟩
  have hnorm := norm_items hF1 hF2
  by_cases hne : l.length = 0
  · obtain rfl := List.length_eq_zero_iff.1 hne
    obtain rfl := List.length_eq_zero_iff.1 (show fcs.length = 0 from hF1)
    refine .op (v := .sref 4 0 6 0 0 true) (h' := ((hY (aO 3 tok k n q id vs vb vl vcs fb [] [])).push (.cells false t_Item []))) (s := s_app ((hY (aO 3 tok k n q id vs vb vl vcs fb [] [])).push (.cells false t_Item [])) [] t_Item 6 80 false (.c (.sref 4 0 6 0 0 true)) (.c (.d (.sl fb 0 [])))) rfl (by kernel_rfl) ?_
    refine .op (app_more (h := (((hY (aO 3 tok k n q id vs vb vl vcs fb [] [])).push (.cells false t_Item [])).push (.cells false t_Item moreA))) (b := 4) (n := 0) (cs := []) (ex := true) (y := .sref 5 0 6 1 1 true) rfl rfl (srcMore rfl) (by omega)) (by kernel_rfl) ?_
    by_cases hp : rightO (moreO (oO 3 tok k n q id vs vl [])) = true
    · refine .call ((boundLong_ok (h := (((((hY (aO 3 tok k n q id vs vb vl vcs fb [] [])).push (.cells false t_Item [])).push (.cells false t_Item moreA)).push (.cells false t_Item moreA)).set 3 (.cells false t_Op [.d (.i .u8 3), .d (.s id), .d (.i .i64 tok), .d (.i .u8 k), .d (.i .i64 n), .d (.s vs), .d (.sl vb vl.length vcs), .sref 6 0 6 (0 + 1) (0 + 1) false, .d (.i .i64 q)]))) (args := [.agg [.d (.i .u8 3), .d (.s id), .d (.i .i64 tok), .d (.i .u8 k), .d (.i .i64 n), .d (.s vs), .d (.sl vb vl.length vcs), .sref 6 0 6 (0 + 1) (0 + 1) false, .d (.i .i64 q)]]) (bor := true) hrel (strip_more (n := 0) (fcs := []) rfl rfl rfl)).2 hp) (by kernel_rfl) ?_
      have hlt := more_lt (o := (oO 3 tok k n q id vs vl [])) (.inr rfl) hp
      refine .br false (by kernel_rfl) (fun e => by cases e) (fun _ => ?_)
      refine .br (iLt (.ofNat (longO (oO 3 tok k n q id vs vl []))) (.ofNat (longO (moreO (oO 3 tok k n q id vs vl []))))) (by kernel_rfl) (fun _ => ?_) (fun e => ?_)
      · refine .callv (fun h => awake_ok (h := h)) (by kernel_rfl) ?_
        exact .ret rfl (by kernel_rfl)
      · rw [iLt_not] at e; simp only [Int.ofNat_eq_natCast] at e; omega
    · have hp : rightO (moreO (oO 3 tok k n q id vs vl [])) = false := by simpa using hp
      refine .call ((boundLong_ok (h := (((((hY (aO 3 tok k n q id vs vb vl vcs fb [] [])).push (.cells false t_Item [])).push (.cells false t_Item moreA)).push (.cells false t_Item moreA)).set 3 (.cells false t_Op [.d (.i .u8 3), .d (.s id), .d (.i .i64 tok), .d (.i .u8 k), .d (.i .i64 n), .d (.s vs), .d (.sl vb vl.length vcs), .sref 6 0 6 (0 + 1) (0 + 1) false, .d (.i .i64 q)]))) (args := [.agg [.d (.i .u8 3), .d (.s id), .d (.i .i64 tok), .d (.i .u8 k), .d (.i .i64 n), .d (.s vs), .d (.sl vb vl.length vcs), .sref 6 0 6 (0 + 1) (0 + 1) false, .d (.i .i64 q)]]) (bor := true) hrel (strip_more (n := 0) (fcs := []) rfl rfl rfl)).1 hp) (by kernel_rfl) ?_
      refine .br true (by kernel_rfl) (fun _ => ?_) (fun e => by cases e)
      refine .callv (fun h => awake_ok (h := h)) (by kernel_rfl) ?_
      exact .ret rfl (by kernel_rfl)
  · refine .op (app_those (h := ((hY (aO 3 tok k n q id vs vb vl vcs fb l fcs)).push (.cells false t_Item []))) (b := 4) (n := l.length) (cs := fcs) (fb := fb) rfl hF1 (okCells_items hF1 hF2) hne (by omega)) (by kernel_rfl) ?_
    refine .op (app_more (h := ((((hY (aO 3 tok k n q id vs vb vl vcs fb l fcs)).push (.cells false t_Item [])).push (.cells false t_Item (fcs.map .d))).push (.cells false t_Item moreA))) (b := 5) (n := l.length) (cs := fcs.map .d) (ex := false) (y := .sref 6 0 6 1 1 true) rfl (by rw [List.length_map]; exact hF1) (srcMore rfl) (by omega)) (by kernel_rfl) ?_
    by_cases hp : rightO (moreO (oO 3 tok k n q id vs vl l)) = true
    · refine .call ((boundLong_ok (h := (((((((hY (aO 3 tok k n q id vs vb vl vcs fb l fcs)).push (.cells false t_Item [])).push (.cells false t_Item (fcs.map .d))).push (.cells false t_Item moreA)).set 5 .dead).push (.cells false t_Item (fcs.map .d ++ moreA))).set 3 (.cells false t_Op [.d (.i .u8 3), .d (.s id), .d (.i .i64 tok), .d (.i .u8 k), .d (.i .i64 n), .d (.s vs), .d (.sl vb vl.length vcs), .sref 7 0 6 (l.length + 1) (l.length + 1) false, .d (.i .i64 q)]))) (args := [.agg [.d (.i .u8 3), .d (.s id), .d (.i .i64 tok), .d (.i .u8 k), .d (.i .i64 n), .d (.s vs), .d (.sl vb vl.length vcs), .sref 7 0 6 (l.length + 1) (l.length + 1) false, .d (.i .i64 q)]]) (bor := true) hrel (strip_more (n := l.length) (fcs := fcs) rfl hF1 hnorm)).2 hp) (by kernel_rfl) ?_
      have hlt := more_lt (o := (oO 3 tok k n q id vs vl l)) (.inr rfl) hp
      refine .br false (by kernel_rfl) (fun e => by cases e) (fun _ => ?_)
      refine .br (iLt (.ofNat (longO (oO 3 tok k n q id vs vl l))) (.ofNat (longO (moreO (oO 3 tok k n q id vs vl l))))) (by kernel_rfl) (fun _ => ?_) (fun e => ?_)
      · refine .callv (fun h => awake_ok (h := h)) (by kernel_rfl) ?_
        exact .ret rfl (by kernel_rfl)
      · rw [iLt_not] at e; simp only [Int.ofNat_eq_natCast] at e; omega
    · have hp : rightO (moreO (oO 3 tok k n q id vs vl l)) = false := by simpa using hp
      refine .call ((boundLong_ok (h := (((((((hY (aO 3 tok k n q id vs vb vl vcs fb l fcs)).push (.cells false t_Item [])).push (.cells false t_Item (fcs.map .d))).push (.cells false t_Item moreA)).set 5 .dead).push (.cells false t_Item (fcs.map .d ++ moreA))).set 3 (.cells false t_Op [.d (.i .u8 3), .d (.s id), .d (.i .i64 tok), .d (.i .u8 k), .d (.i .i64 n), .d (.s vs), .d (.sl vb vl.length vcs), .sref 7 0 6 (l.length + 1) (l.length + 1) false, .d (.i .i64 q)]))) (args := [.agg [.d (.i .u8 3), .d (.s id), .d (.i .i64 tok), .d (.i .u8 k), .d (.i .i64 n), .d (.s vs), .d (.sl vb vl.length vcs), .sref 7 0 6 (l.length + 1) (l.length + 1) false, .d (.i .i64 q)]]) (bor := true) hrel (strip_more (n := l.length) (fcs := fcs) rfl hF1 hnorm)).1 hp) (by kernel_rfl) ?_
      refine .br true (by kernel_rfl) (fun _ => ?_) (fun e => by cases e)
      refine .callv (fun h => awake_ok (h := h)) (by kernel_rfl) ?_
      exact .ret rfl (by kernel_rfl)
theorem law4 (ho : InO (oO 4 tok k n q id vs vl l) (dO 4 tok k n q id vs vb vl vcs fb l fcs)) (hF1 : fcs.length = l.length * 6) (hF2 : ∀ i (hi : i < l.length), ItemR l[i] (chunk fcs 6 i)) (hr : rightO (oO 4 tok k n q id vs vl l) = true) : Cal E f_foremanlaw29_BoundLong [.d (.agg (dO 4 tok k n q id vs vb vl vcs fb l fcs))] .empty (.nrm, .d (.b true), .empty) := by
  obtain ⟨x, ⟨b, rfl⟩, hf⟩ := Few10_ok (h := (Heap.empty.push (.cells false t_Op (aO 4 tok k n q id vs vb vl vcs fb l fcs)))) (args := [.agg (aO 4 tok k n q id vs vb vl vcs fb l fcs)]) (bor := false) ho rfl
  obtain ⟨out, hol, hput⟩ := batchPut_ok (h := ((Heap.empty.push (.cells false t_Op (aO 4 tok k n q id vs vb vl vcs fb l fcs))).push (.tok 0 t_s_uint8))) (b := false) (bor := false) (rows := rowsO 7 (oO 4 tok k n q id vs vl l)) (args := [.app (Heap.empty.push (.cells false t_Op (aO 4 tok k n q id vs vb vl vcs fb l fcs))).n 0 (rowsO 7 (oO 4 tok k n q id vs vl l)).length (rowsD (rowsO 7 (oO 4 tok k n q id vs vl l)))]) (rowsO_rows (Nat.le_trans (opB_le hr) (by decide))) rfl
  rw [longR_rowsO] at hol
  have hb2 := opB_le hr
  have hmost : longO (oO 4 tok k n q id vs vl l) ≤ 39804 := by unfold longO; omega
  refine .w n_foremanlaw29_BoundLong rfl (ds := [.agg (dO 4 tok k n q id vs vb vl vcs fb l fcs)]) (bor := false) rfl ?_
  refine .call hf (by kernel_rfl) ?_
  refine .br (!b) (by kernel_rfl) (fun _ => ?_) (fun _ => ?_)
  · refine .callv (fun h => awake_ok (h := h)) (by kernel_rfl) ?_
    exact .ret rfl (by kernel_rfl)
  refine .callv (fun h => (boundLong_ok (h := h) (args := [.agg (aO 4 tok k n q id vs vb vl vcs fb l fcs)]) (bor := false) ho.r rfl).2 hr) (by kernel_rfl) ?_
  refine .call ((rows7ss (h := (Heap.empty.push (.cells false t_Op (aO 4 tok k n q id vs vb vl vcs fb l fcs)))) ho.r).2 hr) (by kernel_rfl) ?_
  refine .br false (by kernel_rfl) (fun e => by cases e) (fun _ => ?_)
  refine .br false (by kernel_rfl) (fun e => by cases e) (fun _ => ?_)
  refine .call hput (by kernel_rfl) ?_
  refine .br false (by kernel_rfl) (fun e => by cases e) (fun _ => ?_)
  refine .br (!iEq (.ofNat out.length) (.ofNat (longO (oO 4 tok k n q id vs vl l)))) (by kernel_rfl) (fun e => ?_) (fun _ => ?_)
  · rw [Bool.not_eq_true', iEq_not, hol] at e; exact absurd rfl e
  refine .callv (fun h => most_ok (h := h)) (by kernel_rfl) ?_
  refine .br (iLt 39804 (.ofNat (longO (oO 4 tok k n q id vs vl l)))) (by kernel_rfl) (fun e => ?_) (fun _ => ?_)
  · rw [iLt_iff] at e; simp only [Int.ofNat_eq_natCast] at e; omega
  obtain ⟨vcs0, F0, he, hv, _, hw8, htk, hqq⟩ := ho.r
  have hv : ValR (.mk k n vs vl) [.i .u8 k, .i .i64 n, .s vs, .sl vb vl.length vcs] := by
    obtain ⟨k1, n1, s1, b1, m1, c1, rfl⟩ := hv.lit
    simp only [List.cons_append, List.nil_append, List.cons.injEq] at he
    obtain ⟨-, -, -, h4, h5, h6, h7, -⟩ := he
    rw [h4, h5, h6, h7]; exact hv
  refine .br false (by kernel_rfl) (fun e => by cases e) (fun _ => ?_)
  refine .br false (by kernel_rfl) (fun e => by cases e) (fun _ => ?_)
  have hid : id.length ≤ 400 := rightK_id (hf := false) (hq := false) (ht := true) (hv := false) (o := (oO 4 tok k n q id vs vl l)) (by rw [← rightO4 rfl]; exact hr)
  have hrel : OpR (longI (oO 4 tok k n q id vs vl l)) (dO 4 tok k n q (id ++ [120]) vs vb vl vcs fb l fcs) := by
    obtain ⟨vcs1, F1, he1, hv1, hF3, _⟩ := ho.r
    have hF4 : ItemsR l (.sl fb l.length fcs) := .inr ⟨fb, fcs, rfl, hF1, hF2⟩
    exact ⟨[.i .u8 k, .i .i64 n, .s vs, .sl vb vl.length vcs], .sl fb l.length fcs, rfl, hv, ⟨hF4, fun e => by cases e⟩, hw8, htk, hqq⟩
  refine .opv (fun h => addS (h := h) (q := .bool) (a := id) (b := [120]) (by show id.length + 1 ≤ _; omega)) (by kernel_rfl) ?_
  by_cases hp : rightO (longI (oO 4 tok k n q id vs vl l)) = true
  · refine .callv (fun h => (boundLong_ok (h := h) (args := [.agg (aO 4 tok k n q (id ++ [120]) vs vb vl vcs fb l fcs)]) (bor := false) hrel rfl).2 hp) (by kernel_rfl) ?_
    have hlt := long_lt (o := (oO 4 tok k n q id vs vl l)) (.inr (.inl rfl)) hp
    refine .br false (by kernel_rfl) (fun e => by cases e) (fun _ => ?_)
    refine .br (iLt (.ofNat (longO (oO 4 tok k n q id vs vl l))) (.ofNat (longO (longI (oO 4 tok k n q id vs vl l))))) (by kernel_rfl) (fun _ => ?_) (fun e => ?_)
    · refine .callv (fun h => awake_ok (h := h)) (by kernel_rfl) ?_
      exact .ret rfl (by kernel_rfl)
    · rw [iLt_not] at e; simp only [Int.ofNat_eq_natCast] at e; omega
  · have hp : rightO (longI (oO 4 tok k n q id vs vl l)) = false := by simpa using hp
    refine .callv (fun h => (boundLong_ok (h := h) (args := [.agg (aO 4 tok k n q (id ++ [120]) vs vb vl vcs fb l fcs)]) (bor := false) hrel rfl).1 hp) (by kernel_rfl) ?_
    refine .br true (by kernel_rfl) (fun _ => ?_) (fun e => by cases e)
    refine .callv (fun h => awake_ok (h := h)) (by kernel_rfl) ?_
    exact .ret rfl (by kernel_rfl)
theorem law5 (ho : InO (oO 5 tok k n q id vs vl l) (dO 5 tok k n q id vs vb vl vcs fb l fcs)) (hF1 : fcs.length = l.length * 6) (hF2 : ∀ i (hi : i < l.length), ItemR l[i] (chunk fcs 6 i)) (hr : rightO (oO 5 tok k n q id vs vl l) = true) : Cal E f_foremanlaw29_BoundLong [.d (.agg (dO 5 tok k n q id vs vb vl vcs fb l fcs))] .empty (.nrm, .d (.b true), .empty) := by
  obtain ⟨x, ⟨b, rfl⟩, hf⟩ := Few10_ok (h := (Heap.empty.push (.cells false t_Op (aO 5 tok k n q id vs vb vl vcs fb l fcs)))) (args := [.agg (aO 5 tok k n q id vs vb vl vcs fb l fcs)]) (bor := false) ho rfl
  obtain ⟨out, hol, hput⟩ := batchPut_ok (h := ((Heap.empty.push (.cells false t_Op (aO 5 tok k n q id vs vb vl vcs fb l fcs))).push (.tok 0 t_s_uint8))) (b := false) (bor := false) (rows := rowsO 7 (oO 5 tok k n q id vs vl l)) (args := [.app (Heap.empty.push (.cells false t_Op (aO 5 tok k n q id vs vb vl vcs fb l fcs))).n 0 (rowsO 7 (oO 5 tok k n q id vs vl l)).length (rowsD (rowsO 7 (oO 5 tok k n q id vs vl l)))]) (rowsO_rows (Nat.le_trans (opB_le hr) (by decide))) rfl
  rw [longR_rowsO] at hol
  have hb2 := opB_le hr
  have hmost : longO (oO 5 tok k n q id vs vl l) ≤ 39804 := by unfold longO; omega
  refine .w n_foremanlaw29_BoundLong rfl (ds := [.agg (dO 5 tok k n q id vs vb vl vcs fb l fcs)]) (bor := false) rfl ?_
  refine .call hf (by kernel_rfl) ?_
  refine .br (!b) (by kernel_rfl) (fun _ => ?_) (fun _ => ?_)
  · refine .callv (fun h => awake_ok (h := h)) (by kernel_rfl) ?_
    exact .ret rfl (by kernel_rfl)
  refine .callv (fun h => (boundLong_ok (h := h) (args := [.agg (aO 5 tok k n q id vs vb vl vcs fb l fcs)]) (bor := false) ho.r rfl).2 hr) (by kernel_rfl) ?_
  refine .call ((rows7ss (h := (Heap.empty.push (.cells false t_Op (aO 5 tok k n q id vs vb vl vcs fb l fcs)))) ho.r).2 hr) (by kernel_rfl) ?_
  refine .br false (by kernel_rfl) (fun e => by cases e) (fun _ => ?_)
  refine .br false (by kernel_rfl) (fun e => by cases e) (fun _ => ?_)
  refine .call hput (by kernel_rfl) ?_
  refine .br false (by kernel_rfl) (fun e => by cases e) (fun _ => ?_)
  refine .br (!iEq (.ofNat out.length) (.ofNat (longO (oO 5 tok k n q id vs vl l)))) (by kernel_rfl) (fun e => ?_) (fun _ => ?_)
  · rw [Bool.not_eq_true', iEq_not, hol] at e; exact absurd rfl e
  refine .callv (fun h => most_ok (h := h)) (by kernel_rfl) ?_
  refine .br (iLt 39804 (.ofNat (longO (oO 5 tok k n q id vs vl l)))) (by kernel_rfl) (fun e => ?_) (fun _ => ?_)
  · rw [iLt_iff] at e; simp only [Int.ofNat_eq_natCast] at e; omega
  obtain ⟨vcs0, F0, he, hv, _, hw8, htk, hqq⟩ := ho.r
  have hv : ValR (.mk k n vs vl) [.i .u8 k, .i .i64 n, .s vs, .sl vb vl.length vcs] := by
    obtain ⟨k1, n1, s1, b1, m1, c1, rfl⟩ := hv.lit
    simp only [List.cons_append, List.nil_append, List.cons.injEq] at he
    obtain ⟨-, -, -, h4, h5, h6, h7, -⟩ := he
    rw [h4, h5, h6, h7]; exact hv
  refine .br false (by kernel_rfl) (fun e => by cases e) (fun _ => ?_)
  refine .br false (by kernel_rfl) (fun e => by cases e) (fun _ => ?_)
  have hid : id.length ≤ 400 := rightK_id (hf := false) (hq := false) (ht := false) (hv := false) (o := (oO 5 tok k n q id vs vl l)) (by rw [← rightO5 rfl]; exact hr)
  have hrel : OpR (longI (oO 5 tok k n q id vs vl l)) (dO 5 tok k n q (id ++ [120]) vs vb vl vcs fb l fcs) := by
    obtain ⟨vcs1, F1, he1, hv1, hF3, _⟩ := ho.r
    have hF4 : ItemsR l (.sl fb l.length fcs) := .inr ⟨fb, fcs, rfl, hF1, hF2⟩
    exact ⟨[.i .u8 k, .i .i64 n, .s vs, .sl vb vl.length vcs], .sl fb l.length fcs, rfl, hv, ⟨hF4, fun e => by cases e⟩, hw8, htk, hqq⟩
  refine .opv (fun h => addS (h := h) (q := .bool) (a := id) (b := [120]) (by show id.length + 1 ≤ _; omega)) (by kernel_rfl) ?_
  by_cases hp : rightO (longI (oO 5 tok k n q id vs vl l)) = true
  · refine .callv (fun h => (boundLong_ok (h := h) (args := [.agg (aO 5 tok k n q (id ++ [120]) vs vb vl vcs fb l fcs)]) (bor := false) hrel rfl).2 hp) (by kernel_rfl) ?_
    have hlt := long_lt (o := (oO 5 tok k n q id vs vl l)) (.inr (.inr rfl)) hp
    refine .br false (by kernel_rfl) (fun e => by cases e) (fun _ => ?_)
    refine .br (iLt (.ofNat (longO (oO 5 tok k n q id vs vl l))) (.ofNat (longO (longI (oO 5 tok k n q id vs vl l))))) (by kernel_rfl) (fun _ => ?_) (fun e => ?_)
    · refine .callv (fun h => awake_ok (h := h)) (by kernel_rfl) ?_
      exact .ret rfl (by kernel_rfl)
    · rw [iLt_not] at e; simp only [Int.ofNat_eq_natCast] at e; omega
  · have hp : rightO (longI (oO 5 tok k n q id vs vl l)) = false := by simpa using hp
    refine .callv (fun h => (boundLong_ok (h := h) (args := [.agg (aO 5 tok k n q (id ++ [120]) vs vb vl vcs fb l fcs)]) (bor := false) hrel rfl).1 hp) (by kernel_rfl) ?_
    refine .br true (by kernel_rfl) (fun _ => ?_) (fun e => by cases e)
    refine .callv (fun h => awake_ok (h := h)) (by kernel_rfl) ?_
    exact .ret rfl (by kernel_rfl)
end
theorem law_ok {o : OpS} {cs : List DV} (ho : InO o cs) : Cal E f_foremanlaw29_BoundLong [.d (.agg cs)] .empty (.nrm, .d (.b true), .empty) := by
  obtain ⟨w, id, tok, v, l, q⟩ := o
  have hor := ho.r
  obtain ⟨vcs, F, rfl, hv, ⟨hF, hne⟩, _⟩ := hor
  cases hv with
  | sl k n vs vl vb vcs hl2 hcs hkn =>
  rcases hF with ⟨rfl, _⟩ | ⟨fb, fcs, rfl, hF1, hF2⟩
  · exact absurd rfl hne
  cases hr : rightO ⟨w, id, tok, .mk k n vs vl, l, q⟩ with
  | false => exact lawBad ho hr
  | true =>
    have hkind : w = 1 ∨ w = 2 ∨ w = 3 ∨ w = 4 ∨ w = 5 := rightO_kind hr
    rcases hkind with rfl | rfl | rfl | rfl | rfl
    · exact law1 ho hF1 hF2 hr
    · exact law2 ho hF1 hF2 hr
    · exact law3 ho hF1 hF2 hr
    · exact law4 ho hF1 hF2 hr
    · exact law5 ho hF1 hF2 hr
end
end Go.Proofs.YtjacnbabnpgpaaaGreatDoor
