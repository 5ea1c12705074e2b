/- Contracts: wire.Num, wire.Text. -/
import Derived.Test.YtjacnbabnpgpaaaGreatDoorJ
namespace Go.Proofs.YtjacnbabnpgpaaaGreatDoor
noncomputable section
open Go Go.Abs
set_option maxRecDepth 100000
def ownB (h : Heap) (bs : List UInt8) : AV := .app h.n 0 bs.length (bytesD bs)
abbrev appB (t : Nat) (bs : List UInt8) : AV := .app t 0 bs.length (bytesD bs)
abbrev slB (bs : List UInt8) : DV := .sl false bs.length (bytesD bs)
def ownH (h : Heap) : Heap := h.push (.tok 0 t_uint8)
theorem groups_ok {h : Heap} {n : Int} : Cal E f_wire_groups [.d (.i .i64 n)] h (.nrm, .fn (.func f_wire_groups_1) [] [.d (.bx false [.i .i64 n] 0)], h) := by
  refine .w n_wire_groups rfl (ds := [.i .i64 n]) (bor := false) rfl ?_
  exact .retA (h2 := Heap.empty.push (.cells true t_int64 [.d (.i .i64 n)])) (.fn (.func f_wire_groups_1) [] [.ptr 0 0]) (by kernel_rfl) (by kernel_rfl)
theorem rowView_bytes (bs : List UInt8) : rowView 1 bs.length (bytesD bs) = some (bs.length, (bytesD bs).map .d) := by
  unfold rowView; rw [bytesD_length, Nat.mul_one, Nat.beq_refl]
theorem num0 {h : Heap} {args : List AV} {bor : Bool} {n : Int} (h0 : -9223372036854775808 ≤ n) (h1 : n < 9223372036854775808) (hl : (([] : List UInt8)).length + 10 ≤ 70368744177664) (ha : stripArgs h args = some ([.nsl, .i .i64 n], bor)) : Cal E f_wire_Num args h (.nrm, ownB h (([] : List UInt8) ++ numB n), ownH h) := by
  refine .w n_wire_Num rfl ha ?_
  obtain ⟨v1, g1, e1, f1, _⟩ := clone_fa (E := E) (h := .empty) (f := f_slices_Clone_byte) (e := t_uint8) (sz := 1) (bytes := 1) (n := (([] : List UInt8)).length) (cs := bytesD ([] : List UInt8)) (y := .nilsl) (by kernel_rfl) (by rw [bytesD_length, Nat.mul_one]) rfl rfl (by omega) (by omega) (okCells_bytes _)
  refine .op e1 (by kernel_rfl) ?_
  refine .callv (fun h => groups_ok (h := h) (n := n)) (by kernel_rfl) ?_
  obtain ⟨v2, g2, e2, f2⟩ := appendSeq_ok (n := n) (bs := ([] : List UInt8)) h0 h1 f1 hl
  refine .call e2 (by kernel_rfl) ?_
  obtain ⟨t, g, rfl, ht⟩ := f2.app (by have := (numB_len n).1; rw [List.length_append]; omega)
  exact .retF ht (cleanL_bytes _) (by kernel_rfl) (by kernel_rfl)
theorem numS {h : Heap} {args : List AV} {bor : Bool} {n : Int} {b : Bool} {bs : List UInt8} (h0 : -9223372036854775808 ≤ n) (h1 : n < 9223372036854775808) (hl : (bs).length + 10 ≤ 70368744177664) (ha : stripArgs h args = some ([.sl b bs.length (bytesD bs), .i .i64 n], bor)) : Cal E f_wire_Num args h (.nrm, ownB h (bs ++ numB n), ownH h) := by
  refine .w n_wire_Num rfl ha ?_
  obtain ⟨v1, g1, e1, f1, _⟩ := clone_fa (E := E) (h := .empty) (f := f_slices_Clone_byte) (e := t_uint8) (sz := 1) (bytes := 1) (n := (bs).length) (cs := bytesD bs) (y := .d (.sl b bs.length (bytesD bs))) (by kernel_rfl) (by rw [bytesD_length, Nat.mul_one]) (rowView_bytes bs) (rowView_bytes bs) (by omega) (by omega) (okCells_bytes _)
  refine .op e1 (by kernel_rfl) ?_
  refine .callv (fun h => groups_ok (h := h) (n := n)) (by kernel_rfl) ?_
  obtain ⟨v2, g2, e2, f2⟩ := appendSeq_ok (n := n) (bs := bs) h0 h1 f1 hl
  refine .call e2 (by kernel_rfl) ?_
  obtain ⟨t, g, rfl, ht⟩ := f2.app (by have := (numB_len n).1; rw [List.length_append]; omega)
  exact .retF ht (cleanL_bytes _) (by kernel_rfl) (by kernel_rfl)
theorem num_ok {h : Heap} {args : List AV} {bor : Bool} {n : Int} {bs : List UInt8} {L : DV} (hL : BytR bs L) (h0 : -9223372036854775808 ≤ n) (h1 : n < 9223372036854775808) (hl : bs.length + 10 ≤ 70368744177664) (ha : stripArgs h args = some ([L, .i .i64 n], bor)) : Cal E f_wire_Num args h (.nrm, ownB h (bs ++ numB n), ownH h) := by
  rcases hL with ⟨rfl, rfl⟩ | ⟨b, rfl⟩
  · exact num0 h0 h1 hl ha
  · exact numS h0 h1 hl ha
def textB (s : List UInt8) : List UInt8 := numB (.ofNat s.length) ++ s
theorem text0 {h : Heap} {args : List AV} {bor : Bool} {s : List UInt8} (hl : (([] : List UInt8)).length + 10 + s.length ≤ 70368744177664) (ha : stripArgs h args = some ([.nsl, .s s], bor)) : Cal E f_wire_Text args h (.nrm, ownB h (([] : List UInt8) ++ textB s), ownH h) := by
  have hnl := (numB_len (.ofNat s.length)).2
  have hnl1 := (numB_len (.ofNat s.length)).1
  refine .w n_wire_Text rfl ha ?_
  refine .call (num_ok (h := .empty) (args := [.nilsl, .d (.i .i64 (.ofNat s.length))]) (n := .ofNat s.length) (bs := ([] : List UInt8)) (bor := false) (.inl ⟨rfl, rfl⟩) (by simp only [Int.ofNat_eq_natCast]; omega) (by simp only [Int.ofNat_eq_natCast]; omega) (by omega) rfl) (by kernel_rfl) ?_
  obtain ⟨v2, g2, e2, f2, _, _⟩ := app_fa (h := ownH .empty) (e := t_uint8) (sz := 1) (bytes := 1) (n := (([] : List UInt8) ++ numB (.ofNat s.length)).length) (k := s.length) (cs := bytesD (([] : List UInt8) ++ numB (.ofNat s.length))) (l := bytesD s) (v := ownB .empty (([] : List UInt8) ++ numB (.ofNat s.length))) (y := .d (.s s))
    (.inr ⟨0, 0, rfl, rfl⟩) (by rw [bytesD_length, Nat.mul_one]) rfl (by rw [List.length_append]; omega) (by rw [List.length_append]; omega) (fun e => by rw [List.length_eq_zero_iff.1 e]; rfl) (okCells_bytes _)
  refine .op e2 (by kernel_rfl) ?_
  rw [← bytesD_append, ← List.length_append, List.append_assoc] at f2
  obtain ⟨t, g, rfl, ht⟩ := f2.app (by rw [List.length_append, List.length_append]; omega)
  exact .retF ht (cleanL_bytes _) (by kernel_rfl) (by kernel_rfl)
theorem textS {h : Heap} {args : List AV} {bor : Bool} {s : List UInt8} {b : Bool} {bs : List UInt8} (hl : (bs).length + 10 + s.length ≤ 70368744177664) (ha : stripArgs h args = some ([.sl b bs.length (bytesD bs), .s s], bor)) : Cal E f_wire_Text args h (.nrm, ownB h (bs ++ textB s), ownH h) := by
  have hnl := (numB_len (.ofNat s.length)).2
  have hnl1 := (numB_len (.ofNat s.length)).1
  refine .w n_wire_Text rfl ha ?_
  refine .call (num_ok (h := .empty) (args := [.d (.sl b bs.length (bytesD bs)), .d (.i .i64 (.ofNat s.length))]) (n := .ofNat s.length) (bs := bs) (bor := false) (.inr ⟨b, rfl⟩) (by simp only [Int.ofNat_eq_natCast]; omega) (by simp only [Int.ofNat_eq_natCast]; omega) (by omega) rfl) (by kernel_rfl) ?_
  obtain ⟨v2, g2, e2, f2, _, _⟩ := app_fa (h := ownH .empty) (e := t_uint8) (sz := 1) (bytes := 1) (n := (bs ++ numB (.ofNat s.length)).length) (k := s.length) (cs := bytesD (bs ++ numB (.ofNat s.length))) (l := bytesD s) (v := ownB .empty (bs ++ numB (.ofNat s.length))) (y := .d (.s s))
    (.inr ⟨0, 0, rfl, rfl⟩) (by rw [bytesD_length, Nat.mul_one]) rfl (by rw [List.length_append]; omega) (by rw [List.length_append]; omega) (fun e => by rw [List.length_eq_zero_iff.1 e]; rfl) (okCells_bytes _)
  refine .op e2 (by kernel_rfl) ?_
  rw [← bytesD_append, ← List.length_append, List.append_assoc] at f2
  obtain ⟨t, g, rfl, ht⟩ := f2.app (by rw [List.length_append, List.length_append]; omega)
  exact .retF ht (cleanL_bytes _) (by kernel_rfl) (by kernel_rfl)
theorem text_ok {h : Heap} {args : List AV} {bor : Bool} {s bs : List UInt8} {L : DV} (hL : BytR bs L) (hl : bs.length + 10 + s.length ≤ 70368744177664) (ha : stripArgs h args = some ([L, .s s], bor)) : Cal E f_wire_Text args h (.nrm, ownB h (bs ++ textB s), ownH h) := by
  rcases hL with ⟨rfl, rfl⟩ | ⟨b, rfl⟩
  · exact text0 hl ha
  · exact textS hl ha
end
end Go.Proofs.YtjacnbabnpgpaaaGreatDoor
