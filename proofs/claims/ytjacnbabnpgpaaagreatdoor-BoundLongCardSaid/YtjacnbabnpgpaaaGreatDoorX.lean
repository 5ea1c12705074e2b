/- Contracts: rec.Put, batch.Put: how long what they write is. -/
import Derived.Test.YtjacnbabnpgpaaaGreatDoorW
import Derived.Test.YtjacnbabnpgpaaaGreatDoorR
namespace Go.Proofs.YtjacnbabnpgpaaaGreatDoor
noncomputable section
open Go Go.Abs
set_option maxRecDepth 100000
def fourB (a : Nat) : List UInt8 := [UInt8.ofNat a, UInt8.ofNat (a / 256), UInt8.ofNat (a / 65536), UInt8.ofNat (a / 16777216)]
def countB (a : Nat) : List UInt8 := [UInt8.ofNat a, UInt8.ofNat (a / 256)]
theorem four_ok {h : Heap} {a : Nat} : Cal E f_rec_four [.d (.i .u32 (.ofNat a))] h (.nrm, .sref h.n 0 1 4 4 true, h.push (.cells false t_uint8 ((bytesD (fourB a)).map .d))) := by
  have e : (bytesD (fourB a)).map AV.d = [.d (.i .u8 (wrap .u8 (.ofNat a))), .d (.i .u8 (wrap .u8 (.ofNat (a / 256)))), .d (.i .u8 (wrap .u8 (.ofNat (a / 65536)))), .d (.i .u8 (wrap .u8 (.ofNat (a / 16777216))))] := by
    rw [byte_last, byte_last, byte_last, byte_last]; rfl
  rw [e]
  refine .w n_rec_four rfl (ds := [.i .u32 (.ofNat a)]) (bor := false) rfl ?_
  refine .opv (fun h => shr_op (h := h) (q := .bool) (j := .u32) (k := .u64) (x := .ofNat a) (m := 8) (r := .ofNat (a / 256)) rfl) (by kernel_rfl) ?_
  refine .opv (fun h => shr_op (h := h) (q := .bool) (j := .u32) (k := .u64) (x := .ofNat a) (m := 16) (r := .ofNat (a / 65536)) rfl) (by kernel_rfl) ?_
  refine .opv (fun h => shr_op (h := h) (q := .bool) (j := .u32) (k := .u64) (x := .ofNat a) (m := 24) (r := .ofNat (a / 16777216)) rfl) (by kernel_rfl) ?_
  exact .retA' (.sref 0 0 1 4 4 true) (by kernel_rfl) (by kernel_rfl)
theorem count_ok {h : Heap} {a : Nat} : Cal E f_batch_count [.d (.i .i64 (.ofNat a))] h (.nrm, .sref h.n 0 1 2 2 true, h.push (.cells false t_uint8 ((bytesD (countB a)).map .d))) := by
  have e : (bytesD (countB a)).map AV.d = [.d (.i .u8 (wrap .u8 (.ofNat a))), .d (.i .u8 (wrap .u8 (.ofNat (a / 256))))] := by
    rw [byte_last, byte_last]; rfl
  rw [e]
  refine .w n_batch_count rfl (ds := [.i .i64 (.ofNat a)]) (bor := false) rfl ?_
  refine .opv (fun h => shr_op (h := h) (q := .bool) (j := .i64) (k := .u64) (x := .ofNat a) (m := 8) (r := .ofNat (a / 256)) rfl) (by kernel_rfl) ?_
  exact .retA' (.sref 0 0 1 2 2 true) (by kernel_rfl) (by kernel_rfl)
theorem kind1_ok {h : Heap} : Cal E f_rec_kind [.d (.i .u8 1)] h (.nrm, .d (.b true), h) := ⟨40, by kernel_rfl⟩
theorem recPut1 {h : Heap} {args : List AV} {bor b : Bool} {bs : List UInt8} (hlen : bs.length ≤ 4096) (ha : stripArgs h args = some ([.agg [.i .u8 1, .sl b bs.length (bytesD bs)]], bor)) :
    ∃ out : List UInt8, out.length = 9 + bs.length ∧ Cal E f_rec_Put args h (.nrm, .tup [.sref h.n 0 1 out.length out.length false, .d (.i .i64 0)], h.push (.cells false t_uint8 ((bytesD out).map .d))) := by
  have g0 : ((((Heap.empty.push (.cells false t_Rec [.d (.i .u8 1), .d (.sl b bs.length (bytesD bs))])).push .dead).push (.cells false t_uint8 ((bytesD (fourB bs.length)).map .d))).set 1 (.cells false t_uint8 ((bytesD [(UInt8.ofNat 1)]).map .d))).get 1 = some (.cells false t_uint8 ((bytesD [(UInt8.ofNat 1)]).map .d)) := rfl
  have g1 : ((((Heap.empty.push (.cells false t_Rec [.d (.i .u8 1), .d (.sl b bs.length (bytesD bs))])).push .dead).push (.cells false t_uint8 ((bytesD (fourB bs.length)).map .d))).set 1 (.cells false t_uint8 ((bytesD [(UInt8.ofNat 1)]).map .d))).get 2 = some (.cells false t_uint8 ((bytesD (fourB bs.length)).map .d)) := rfl
  have a1 := app_srefx (bytes := 1) (b := 1) (n := 1) (k := 4) (y := .sref 2 0 1 4 4 true) g0 rfl (src_sref (bs := fourB bs.length) g1) (by omega) (by omega) (by omega) (okCells_bytes _)
  have g3 : (((((Heap.empty.push (.cells false t_Rec [.d (.i .u8 1), .d (.sl b bs.length (bytesD bs))])).push .dead).push (.cells false t_uint8 ((bytesD (fourB bs.length)).map .d))).set 1 (.cells false t_uint8 ((bytesD [(UInt8.ofNat 1)]).map .d))).push (.cells false t_uint8 ((bytesD [(UInt8.ofNat 1)]).map .d ++ (bytesD (fourB bs.length)).map .d))).get 3 = some (.cells false t_uint8 ((bytesD ([(UInt8.ofNat 1)] ++ fourB bs.length)).map .d)) := by
    rw [bytesD_append, List.map_append]; rfl
  by_cases hb : bs.length = 0
  · obtain ⟨x, ⟨c, hc, rfl⟩, hs⟩ := sum_ok (h := (((((Heap.empty.push (.cells false t_Rec [.d (.i .u8 1), .d (.sl b bs.length (bytesD bs))])).push .dead).push (.cells false t_uint8 ((bytesD (fourB bs.length)).map .d))).set 1 (.cells false t_uint8 ((bytesD [(UInt8.ofNat 1)]).map .d))).push (.cells false t_uint8 ((bytesD [(UInt8.ofNat 1)]).map .d ++ (bytesD (fourB bs.length)).map .d)))) (args := [.sref 3 0 1 5 5 false]) (bs := ([(UInt8.ofNat 1)] ++ fourB bs.length)) (by show 5 < _; omega) (strip_sref g3 rfl)
    have hR : ([(UInt8.ofNat 1)] ++ fourB bs.length).length = 5 := by rfl
    have g5 : ((((((Heap.empty.push (.cells false t_Rec [.d (.i .u8 1), .d (.sl b bs.length (bytesD bs))])).push .dead).push (.cells false t_uint8 ((bytesD (fourB bs.length)).map .d))).set 1 (.cells false t_uint8 ((bytesD [(UInt8.ofNat 1)]).map .d))).push (.cells false t_uint8 ((bytesD [(UInt8.ofNat 1)]).map .d ++ (bytesD (fourB bs.length)).map .d))).push (.cells false t_uint8 ((bytesD (fourB c)).map .d))).get 4 = some (.cells false t_uint8 ((bytesD (fourB c)).map .d)) := push_n (((((Heap.empty.push (.cells false t_Rec [.d (.i .u8 1), .d (.sl b bs.length (bytesD bs))])).push .dead).push (.cells false t_uint8 ((bytesD (fourB bs.length)).map .d))).set 1 (.cells false t_uint8 ((bytesD [(UInt8.ofNat 1)]).map .d))).push (.cells false t_uint8 ((bytesD [(UInt8.ofNat 1)]).map .d ++ (bytesD (fourB bs.length)).map .d))) _
    have a3 := app_srefx (bytes := 1) (b := 4) (n := 4) (k := 5) (y := .sref 3 0 1 5 5 false) g5 rfl (hR ▸ src_sref (bs := ([(UInt8.ofNat 1)] ++ fourB bs.length)) (push_of g3 _)) (by omega) (by omega) (by omega) (okCells_bytes _)
    have g6 : (((((((Heap.empty.push (.cells false t_Rec [.d (.i .u8 1), .d (.sl b bs.length (bytesD bs))])).push .dead).push (.cells false t_uint8 ((bytesD (fourB bs.length)).map .d))).set 1 (.cells false t_uint8 ((bytesD [(UInt8.ofNat 1)]).map .d))).push (.cells false t_uint8 ((bytesD [(UInt8.ofNat 1)]).map .d ++ (bytesD (fourB bs.length)).map .d))).push (.cells false t_uint8 ((bytesD (fourB c)).map .d))).push (.cells false t_uint8 ((bytesD (fourB c)).map .d ++ (bytesD ([(UInt8.ofNat 1)] ++ fourB bs.length)).map .d))).get 5 = some (.cells false t_uint8 ((bytesD (fourB c ++ ([(UInt8.ofNat 1)] ++ fourB bs.length))).map .d)) := by
      rw [bytesD_append, List.map_append]; exact push_n ((((((Heap.empty.push (.cells false t_Rec [.d (.i .u8 1), .d (.sl b bs.length (bytesD bs))])).push .dead).push (.cells false t_uint8 ((bytesD (fourB bs.length)).map .d))).set 1 (.cells false t_uint8 ((bytesD [(UInt8.ofNat 1)]).map .d))).push (.cells false t_uint8 ((bytesD [(UInt8.ofNat 1)]).map .d ++ (bytesD (fourB bs.length)).map .d))).push (.cells false t_uint8 ((bytesD (fourB c)).map .d))) _
    have hO : (fourB c ++ ([(UInt8.ofNat 1)] ++ fourB bs.length)).length = 4 + 5 := by rw [List.length_append, hR]; rfl
    refine ⟨(fourB c ++ ([(UInt8.ofNat 1)] ++ fourB bs.length)), by rw [hO]; omega, ?_⟩
    refine .w n_rec_Put rfl ha ?_
    refine .callv (fun h => kind1_ok (h := h)) (by kernel_rfl) ?_
    refine .br false (by kernel_rfl) (fun e => by cases e) (fun _ => ?_)
    refine .br (iLt 4096 (.ofNat bs.length)) (by kernel_rfl) (fun e => ?_) (fun _ => ?_)
    · rw [iLt_iff] at e; simp only [Int.ofNat_eq_natCast] at e; omega
    have hf := four_ok (h := ((Heap.empty.push (.cells false t_Rec [.d (.i .u8 1), .d (.sl b bs.length (bytesD bs))])).push .dead)) (a := bs.length)
    rw [← wrap_u32 (a := bs.length) (by omega)] at hf
    refine .call hf (by kernel_rfl) ?_
    refine .op a1 (by kernel_rfl) ?_
    refine .op (v := .sref 3 0 1 5 5 false) (h' := (((((Heap.empty.push (.cells false t_Rec [.d (.i .u8 1), .d (.sl b bs.length (bytesD bs))])).push .dead).push (.cells false t_uint8 ((bytesD (fourB bs.length)).map .d))).set 1 (.cells false t_uint8 ((bytesD [(UInt8.ofNat 1)]).map .d))).push (.cells false t_uint8 ((bytesD [(UInt8.ofNat 1)]).map .d ++ (bytesD (fourB bs.length)).map .d)))) (s := s_app (((((Heap.empty.push (.cells false t_Rec [.d (.i .u8 1), .d (.sl b bs.length (bytesD bs))])).push .dead).push (.cells false t_uint8 ((bytesD (fourB bs.length)).map .d))).set 1 (.cells false t_uint8 ((bytesD [(UInt8.ofNat 1)]).map .d))).push (.cells false t_uint8 ((bytesD [(UInt8.ofNat 1)]).map .d ++ (bytesD (fourB bs.length)).map .d))) [] t_uint8 1 1 false (.c (.sref 3 0 1 5 5 false)) (.c (.d (.sl b bs.length (bytesD bs))))) ?_ (by kernel_rfl) ?_
    · unfold s_app
      simp only [X.ev]
      rw [show srcView (((((Heap.empty.push (.cells false t_Rec [.d (.i .u8 1), .d (.sl b bs.length (bytesD bs))])).push .dead).push (.cells false t_uint8 ((bytesD (fourB bs.length)).map .d))).set 1 (.cells false t_uint8 ((bytesD [(UInt8.ofNat 1)]).map .d))).push (.cells false t_uint8 ((bytesD [(UInt8.ofNat 1)]).map .d ++ (bytesD (fourB bs.length)).map .d))) 1 (.d (.sl b bs.length (bytesD bs))) = some (bs.length, (bytesD bs).map .d) from rowView_bytes bs, hb, List.length_eq_zero_iff.1 hb]
      rfl
    refine .call hs (by kernel_rfl) ?_
    refine .call (four_ok (h := (((((Heap.empty.push (.cells false t_Rec [.d (.i .u8 1), .d (.sl b bs.length (bytesD bs))])).push .dead).push (.cells false t_uint8 ((bytesD (fourB bs.length)).map .d))).set 1 (.cells false t_uint8 ((bytesD [(UInt8.ofNat 1)]).map .d))).push (.cells false t_uint8 ((bytesD [(UInt8.ofNat 1)]).map .d ++ (bytesD (fourB bs.length)).map .d)))) (a := c)) (by kernel_rfl) ?_
    refine .op a3 (by kernel_rfl) ?_
    rw [hO]
    exact .retST g6 rfl (by kernel_rfl) (by kernel_rfl)
  · have a2 := app_sref (bytes := 1) (b := 3) (n := 5) (k := bs.length) (y := .d (.sl b bs.length (bytesD bs))) g3 rfl (rowView_bytes bs) (by omega) (by omega) hb (okCells_bytes _)
    have g4 : (((((((Heap.empty.push (.cells false t_Rec [.d (.i .u8 1), .d (.sl b bs.length (bytesD bs))])).push .dead).push (.cells false t_uint8 ((bytesD (fourB bs.length)).map .d))).set 1 (.cells false t_uint8 ((bytesD [(UInt8.ofNat 1)]).map .d))).push (.cells false t_uint8 ((bytesD [(UInt8.ofNat 1)]).map .d ++ (bytesD (fourB bs.length)).map .d))).set 3 .dead).push (.cells false t_uint8 ((bytesD ([(UInt8.ofNat 1)] ++ fourB bs.length)).map .d ++ (bytesD bs).map .d))).get 4 = some (.cells false t_uint8 ((bytesD (([(UInt8.ofNat 1)] ++ fourB bs.length) ++ bs)).map .d)) := by
      rw [bytesD_append, List.map_append]; exact push_n ((((((Heap.empty.push (.cells false t_Rec [.d (.i .u8 1), .d (.sl b bs.length (bytesD bs))])).push .dead).push (.cells false t_uint8 ((bytesD (fourB bs.length)).map .d))).set 1 (.cells false t_uint8 ((bytesD [(UInt8.ofNat 1)]).map .d))).push (.cells false t_uint8 ((bytesD [(UInt8.ofNat 1)]).map .d ++ (bytesD (fourB bs.length)).map .d))).set 3 .dead) _
    obtain ⟨x, ⟨c, hc, rfl⟩, hs⟩ := sum_ok (h := (((((((Heap.empty.push (.cells false t_Rec [.d (.i .u8 1), .d (.sl b bs.length (bytesD bs))])).push .dead).push (.cells false t_uint8 ((bytesD (fourB bs.length)).map .d))).set 1 (.cells false t_uint8 ((bytesD [(UInt8.ofNat 1)]).map .d))).push (.cells false t_uint8 ((bytesD [(UInt8.ofNat 1)]).map .d ++ (bytesD (fourB bs.length)).map .d))).set 3 .dead).push (.cells false t_uint8 ((bytesD ([(UInt8.ofNat 1)] ++ fourB bs.length)).map .d ++ (bytesD bs).map .d)))) (args := [.sref 4 0 1 (5 + bs.length) (5 + bs.length) false]) (bs := (([(UInt8.ofNat 1)] ++ fourB bs.length) ++ bs)) (by rw [List.length_append]; show 5 + _ < _; omega) (by rw [List.length_append]; exact strip_sref g4 (by rw [List.length_append]; rfl))
    have hR : (([(UInt8.ofNat 1)] ++ fourB bs.length) ++ bs).length = (5 + bs.length) := by rw [List.length_append]; rfl
    have g5 : ((((((((Heap.empty.push (.cells false t_Rec [.d (.i .u8 1), .d (.sl b bs.length (bytesD bs))])).push .dead).push (.cells false t_uint8 ((bytesD (fourB bs.length)).map .d))).set 1 (.cells false t_uint8 ((bytesD [(UInt8.ofNat 1)]).map .d))).push (.cells false t_uint8 ((bytesD [(UInt8.ofNat 1)]).map .d ++ (bytesD (fourB bs.length)).map .d))).set 3 .dead).push (.cells false t_uint8 ((bytesD ([(UInt8.ofNat 1)] ++ fourB bs.length)).map .d ++ (bytesD bs).map .d))).push (.cells false t_uint8 ((bytesD (fourB c)).map .d))).get 5 = some (.cells false t_uint8 ((bytesD (fourB c)).map .d)) := push_n (((((((Heap.empty.push (.cells false t_Rec [.d (.i .u8 1), .d (.sl b bs.length (bytesD bs))])).push .dead).push (.cells false t_uint8 ((bytesD (fourB bs.length)).map .d))).set 1 (.cells false t_uint8 ((bytesD [(UInt8.ofNat 1)]).map .d))).push (.cells false t_uint8 ((bytesD [(UInt8.ofNat 1)]).map .d ++ (bytesD (fourB bs.length)).map .d))).set 3 .dead).push (.cells false t_uint8 ((bytesD ([(UInt8.ofNat 1)] ++ fourB bs.length)).map .d ++ (bytesD bs).map .d))) _
    have a3 := app_srefx (bytes := 1) (b := 5) (n := 4) (k := (5 + bs.length)) (y := .sref 4 0 1 (5 + bs.length) (5 + bs.length) false) g5 rfl (hR ▸ src_sref (bs := (([(UInt8.ofNat 1)] ++ fourB bs.length) ++ bs)) (push_of g4 _)) (by omega) (by omega) (by omega) (okCells_bytes _)
    have g6 : (((((((((Heap.empty.push (.cells false t_Rec [.d (.i .u8 1), .d (.sl b bs.length (bytesD bs))])).push .dead).push (.cells false t_uint8 ((bytesD (fourB bs.length)).map .d))).set 1 (.cells false t_uint8 ((bytesD [(UInt8.ofNat 1)]).map .d))).push (.cells false t_uint8 ((bytesD [(UInt8.ofNat 1)]).map .d ++ (bytesD (fourB bs.length)).map .d))).set 3 .dead).push (.cells false t_uint8 ((bytesD ([(UInt8.ofNat 1)] ++ fourB bs.length)).map .d ++ (bytesD bs).map .d))).push (.cells false t_uint8 ((bytesD (fourB c)).map .d))).push (.cells false t_uint8 ((bytesD (fourB c)).map .d ++ (bytesD (([(UInt8.ofNat 1)] ++ fourB bs.length) ++ bs)).map .d))).get 6 = some (.cells false t_uint8 ((bytesD (fourB c ++ (([(UInt8.ofNat 1)] ++ fourB bs.length) ++ bs))).map .d)) := by
      rw [bytesD_append, List.map_append]; exact push_n ((((((((Heap.empty.push (.cells false t_Rec [.d (.i .u8 1), .d (.sl b bs.length (bytesD bs))])).push .dead).push (.cells false t_uint8 ((bytesD (fourB bs.length)).map .d))).set 1 (.cells false t_uint8 ((bytesD [(UInt8.ofNat 1)]).map .d))).push (.cells false t_uint8 ((bytesD [(UInt8.ofNat 1)]).map .d ++ (bytesD (fourB bs.length)).map .d))).set 3 .dead).push (.cells false t_uint8 ((bytesD ([(UInt8.ofNat 1)] ++ fourB bs.length)).map .d ++ (bytesD bs).map .d))).push (.cells false t_uint8 ((bytesD (fourB c)).map .d))) _
    have hO : (fourB c ++ (([(UInt8.ofNat 1)] ++ fourB bs.length) ++ bs)).length = 4 + (5 + bs.length) := by rw [List.length_append, hR]; rfl
    refine ⟨(fourB c ++ (([(UInt8.ofNat 1)] ++ fourB bs.length) ++ bs)), by rw [hO]; omega, ?_⟩
    refine .w n_rec_Put rfl ha ?_
    refine .callv (fun h => kind1_ok (h := h)) (by kernel_rfl) ?_
    refine .br false (by kernel_rfl) (fun e => by cases e) (fun _ => ?_)
    refine .br (iLt 4096 (.ofNat bs.length)) (by kernel_rfl) (fun e => ?_) (fun _ => ?_)
    · rw [iLt_iff] at e; simp only [Int.ofNat_eq_natCast] at e; omega
    have hf := four_ok (h := ((Heap.empty.push (.cells false t_Rec [.d (.i .u8 1), .d (.sl b bs.length (bytesD bs))])).push .dead)) (a := bs.length)
    rw [← wrap_u32 (a := bs.length) (by omega)] at hf
    refine .call hf (by kernel_rfl) ?_
    refine .op a1 (by kernel_rfl) ?_
    refine .op a2 (by kernel_rfl) ?_
    refine .call hs (by kernel_rfl) ?_
    refine .call (four_ok (h := (((((((Heap.empty.push (.cells false t_Rec [.d (.i .u8 1), .d (.sl b bs.length (bytesD bs))])).push .dead).push (.cells false t_uint8 ((bytesD (fourB bs.length)).map .d))).set 1 (.cells false t_uint8 ((bytesD [(UInt8.ofNat 1)]).map .d))).push (.cells false t_uint8 ((bytesD [(UInt8.ofNat 1)]).map .d ++ (bytesD (fourB bs.length)).map .d))).set 3 .dead).push (.cells false t_uint8 ((bytesD ([(UInt8.ofNat 1)] ++ fourB bs.length)).map .d ++ (bytesD bs).map .d)))) (a := c)) (by kernel_rfl) ?_
    refine .op a3 (by kernel_rfl) ?_
    rw [hO]
    exact .retST g6 rfl (by kernel_rfl) (by kernel_rfl)
theorem kind2_ok {h : Heap} : Cal E f_rec_kind [.d (.i .u8 2)] h (.nrm, .d (.b true), h) := ⟨40, by kernel_rfl⟩
theorem recPut2 {h : Heap} {args : List AV} {bor b : Bool} {bs : List UInt8} (hlen : bs.length ≤ 4096) (ha : stripArgs h args = some ([.agg [.i .u8 2, .sl b bs.length (bytesD bs)]], bor)) :
    ∃ out : List UInt8, out.length = 9 + bs.length ∧ Cal E f_rec_Put args h (.nrm, .tup [.sref h.n 0 1 out.length out.length false, .d (.i .i64 0)], h.push (.cells false t_uint8 ((bytesD out).map .d))) := by
  have g0 : ((((Heap.empty.push (.cells false t_Rec [.d (.i .u8 2), .d (.sl b bs.length (bytesD bs))])).push .dead).push (.cells false t_uint8 ((bytesD (fourB bs.length)).map .d))).set 1 (.cells false t_uint8 ((bytesD [(UInt8.ofNat 2)]).map .d))).get 1 = some (.cells false t_uint8 ((bytesD [(UInt8.ofNat 2)]).map .d)) := rfl
  have g1 : ((((Heap.empty.push (.cells false t_Rec [.d (.i .u8 2), .d (.sl b bs.length (bytesD bs))])).push .dead).push (.cells false t_uint8 ((bytesD (fourB bs.length)).map .d))).set 1 (.cells false t_uint8 ((bytesD [(UInt8.ofNat 2)]).map .d))).get 2 = some (.cells false t_uint8 ((bytesD (fourB bs.length)).map .d)) := rfl
  have a1 := app_srefx (bytes := 1) (b := 1) (n := 1) (k := 4) (y := .sref 2 0 1 4 4 true) g0 rfl (src_sref (bs := fourB bs.length) g1) (by omega) (by omega) (by omega) (okCells_bytes _)
  have g3 : (((((Heap.empty.push (.cells false t_Rec [.d (.i .u8 2), .d (.sl b bs.length (bytesD bs))])).push .dead).push (.cells false t_uint8 ((bytesD (fourB bs.length)).map .d))).set 1 (.cells false t_uint8 ((bytesD [(UInt8.ofNat 2)]).map .d))).push (.cells false t_uint8 ((bytesD [(UInt8.ofNat 2)]).map .d ++ (bytesD (fourB bs.length)).map .d))).get 3 = some (.cells false t_uint8 ((bytesD ([(UInt8.ofNat 2)] ++ fourB bs.length)).map .d)) := by
    rw [bytesD_append, List.map_append]; rfl
  by_cases hb : bs.length = 0
  · obtain ⟨x, ⟨c, hc, rfl⟩, hs⟩ := sum_ok (h := (((((Heap.empty.push (.cells false t_Rec [.d (.i .u8 2), .d (.sl b bs.length (bytesD bs))])).push .dead).push (.cells false t_uint8 ((bytesD (fourB bs.length)).map .d))).set 1 (.cells false t_uint8 ((bytesD [(UInt8.ofNat 2)]).map .d))).push (.cells false t_uint8 ((bytesD [(UInt8.ofNat 2)]).map .d ++ (bytesD (fourB bs.length)).map .d)))) (args := [.sref 3 0 1 5 5 false]) (bs := ([(UInt8.ofNat 2)] ++ fourB bs.length)) (by show 5 < _; omega) (strip_sref g3 rfl)
    have hR : ([(UInt8.ofNat 2)] ++ fourB bs.length).length = 5 := by rfl
    have g5 : ((((((Heap.empty.push (.cells false t_Rec [.d (.i .u8 2), .d (.sl b bs.length (bytesD bs))])).push .dead).push (.cells false t_uint8 ((bytesD (fourB bs.length)).map .d))).set 1 (.cells false t_uint8 ((bytesD [(UInt8.ofNat 2)]).map .d))).push (.cells false t_uint8 ((bytesD [(UInt8.ofNat 2)]).map .d ++ (bytesD (fourB bs.length)).map .d))).push (.cells false t_uint8 ((bytesD (fourB c)).map .d))).get 4 = some (.cells false t_uint8 ((bytesD (fourB c)).map .d)) := push_n (((((Heap.empty.push (.cells false t_Rec [.d (.i .u8 2), .d (.sl b bs.length (bytesD bs))])).push .dead).push (.cells false t_uint8 ((bytesD (fourB bs.length)).map .d))).set 1 (.cells false t_uint8 ((bytesD [(UInt8.ofNat 2)]).map .d))).push (.cells false t_uint8 ((bytesD [(UInt8.ofNat 2)]).map .d ++ (bytesD (fourB bs.length)).map .d))) _
    have a3 := app_srefx (bytes := 1) (b := 4) (n := 4) (k := 5) (y := .sref 3 0 1 5 5 false) g5 rfl (hR ▸ src_sref (bs := ([(UInt8.ofNat 2)] ++ fourB bs.length)) (push_of g3 _)) (by omega) (by omega) (by omega) (okCells_bytes _)
    have g6 : (((((((Heap.empty.push (.cells false t_Rec [.d (.i .u8 2), .d (.sl b bs.length (bytesD bs))])).push .dead).push (.cells false t_uint8 ((bytesD (fourB bs.length)).map .d))).set 1 (.cells false t_uint8 ((bytesD [(UInt8.ofNat 2)]).map .d))).push (.cells false t_uint8 ((bytesD [(UInt8.ofNat 2)]).map .d ++ (bytesD (fourB bs.length)).map .d))).push (.cells false t_uint8 ((bytesD (fourB c)).map .d))).push (.cells false t_uint8 ((bytesD (fourB c)).map .d ++ (bytesD ([(UInt8.ofNat 2)] ++ fourB bs.length)).map .d))).get 5 = some (.cells false t_uint8 ((bytesD (fourB c ++ ([(UInt8.ofNat 2)] ++ fourB bs.length))).map .d)) := by
      rw [bytesD_append, List.map_append]; exact push_n ((((((Heap.empty.push (.cells false t_Rec [.d (.i .u8 2), .d (.sl b bs.length (bytesD bs))])).push .dead).push (.cells false t_uint8 ((bytesD (fourB bs.length)).map .d))).set 1 (.cells false t_uint8 ((bytesD [(UInt8.ofNat 2)]).map .d))).push (.cells false t_uint8 ((bytesD [(UInt8.ofNat 2)]).map .d ++ (bytesD (fourB bs.length)).map .d))).push (.cells false t_uint8 ((bytesD (fourB c)).map .d))) _
    have hO : (fourB c ++ ([(UInt8.ofNat 2)] ++ fourB bs.length)).length = 4 + 5 := by rw [List.length_append, hR]; rfl
    refine ⟨(fourB c ++ ([(UInt8.ofNat 2)] ++ fourB bs.length)), by rw [hO]; omega, ?_⟩
    refine .w n_rec_Put rfl ha ?_
    refine .callv (fun h => kind2_ok (h := h)) (by kernel_rfl) ?_
    refine .br false (by kernel_rfl) (fun e => by cases e) (fun _ => ?_)
    refine .br (iLt 4096 (.ofNat bs.length)) (by kernel_rfl) (fun e => ?_) (fun _ => ?_)
    · rw [iLt_iff] at e; simp only [Int.ofNat_eq_natCast] at e; omega
    have hf := four_ok (h := ((Heap.empty.push (.cells false t_Rec [.d (.i .u8 2), .d (.sl b bs.length (bytesD bs))])).push .dead)) (a := bs.length)
    rw [← wrap_u32 (a := bs.length) (by omega)] at hf
    refine .call hf (by kernel_rfl) ?_
    refine .op a1 (by kernel_rfl) ?_
    refine .op (v := .sref 3 0 1 5 5 false) (h' := (((((Heap.empty.push (.cells false t_Rec [.d (.i .u8 2), .d (.sl b bs.length (bytesD bs))])).push .dead).push (.cells false t_uint8 ((bytesD (fourB bs.length)).map .d))).set 1 (.cells false t_uint8 ((bytesD [(UInt8.ofNat 2)]).map .d))).push (.cells false t_uint8 ((bytesD [(UInt8.ofNat 2)]).map .d ++ (bytesD (fourB bs.length)).map .d)))) (s := s_app (((((Heap.empty.push (.cells false t_Rec [.d (.i .u8 2), .d (.sl b bs.length (bytesD bs))])).push .dead).push (.cells false t_uint8 ((bytesD (fourB bs.length)).map .d))).set 1 (.cells false t_uint8 ((bytesD [(UInt8.ofNat 2)]).map .d))).push (.cells false t_uint8 ((bytesD [(UInt8.ofNat 2)]).map .d ++ (bytesD (fourB bs.length)).map .d))) [] t_uint8 1 1 false (.c (.sref 3 0 1 5 5 false)) (.c (.d (.sl b bs.length (bytesD bs))))) ?_ (by kernel_rfl) ?_
    · unfold s_app
      simp only [X.ev]
      rw [show srcView (((((Heap.empty.push (.cells false t_Rec [.d (.i .u8 2), .d (.sl b bs.length (bytesD bs))])).push .dead).push (.cells false t_uint8 ((bytesD (fourB bs.length)).map .d))).set 1 (.cells false t_uint8 ((bytesD [(UInt8.ofNat 2)]).map .d))).push (.cells false t_uint8 ((bytesD [(UInt8.ofNat 2)]).map .d ++ (bytesD (fourB bs.length)).map .d))) 1 (.d (.sl b bs.length (bytesD bs))) = some (bs.length, (bytesD bs).map .d) from rowView_bytes bs, hb, List.length_eq_zero_iff.1 hb]
      rfl
    refine .call hs (by kernel_rfl) ?_
    refine .call (four_ok (h := (((((Heap.empty.push (.cells false t_Rec [.d (.i .u8 2), .d (.sl b bs.length (bytesD bs))])).push .dead).push (.cells false t_uint8 ((bytesD (fourB bs.length)).map .d))).set 1 (.cells false t_uint8 ((bytesD [(UInt8.ofNat 2)]).map .d))).push (.cells false t_uint8 ((bytesD [(UInt8.ofNat 2)]).map .d ++ (bytesD (fourB bs.length)).map .d)))) (a := c)) (by kernel_rfl) ?_
    refine .op a3 (by kernel_rfl) ?_
    rw [hO]
    exact .retST g6 rfl (by kernel_rfl) (by kernel_rfl)
  · have a2 := app_sref (bytes := 1) (b := 3) (n := 5) (k := bs.length) (y := .d (.sl b bs.length (bytesD bs))) g3 rfl (rowView_bytes bs) (by omega) (by omega) hb (okCells_bytes _)
    have g4 : (((((((Heap.empty.push (.cells false t_Rec [.d (.i .u8 2), .d (.sl b bs.length (bytesD bs))])).push .dead).push (.cells false t_uint8 ((bytesD (fourB bs.length)).map .d))).set 1 (.cells false t_uint8 ((bytesD [(UInt8.ofNat 2)]).map .d))).push (.cells false t_uint8 ((bytesD [(UInt8.ofNat 2)]).map .d ++ (bytesD (fourB bs.length)).map .d))).set 3 .dead).push (.cells false t_uint8 ((bytesD ([(UInt8.ofNat 2)] ++ fourB bs.length)).map .d ++ (bytesD bs).map .d))).get 4 = some (.cells false t_uint8 ((bytesD (([(UInt8.ofNat 2)] ++ fourB bs.length) ++ bs)).map .d)) := by
      rw [bytesD_append, List.map_append]; exact push_n ((((((Heap.empty.push (.cells false t_Rec [.d (.i .u8 2), .d (.sl b bs.length (bytesD bs))])).push .dead).push (.cells false t_uint8 ((bytesD (fourB bs.length)).map .d))).set 1 (.cells false t_uint8 ((bytesD [(UInt8.ofNat 2)]).map .d))).push (.cells false t_uint8 ((bytesD [(UInt8.ofNat 2)]).map .d ++ (bytesD (fourB bs.length)).map .d))).set 3 .dead) _
    obtain ⟨x, ⟨c, hc, rfl⟩, hs⟩ := sum_ok (h := (((((((Heap.empty.push (.cells false t_Rec [.d (.i .u8 2), .d (.sl b bs.length (bytesD bs))])).push .dead).push (.cells false t_uint8 ((bytesD (fourB bs.length)).map .d))).set 1 (.cells false t_uint8 ((bytesD [(UInt8.ofNat 2)]).map .d))).push (.cells false t_uint8 ((bytesD [(UInt8.ofNat 2)]).map .d ++ (bytesD (fourB bs.length)).map .d))).set 3 .dead).push (.cells false t_uint8 ((bytesD ([(UInt8.ofNat 2)] ++ fourB bs.length)).map .d ++ (bytesD bs).map .d)))) (args := [.sref 4 0 1 (5 + bs.length) (5 + bs.length) false]) (bs := (([(UInt8.ofNat 2)] ++ fourB bs.length) ++ bs)) (by rw [List.length_append]; show 5 + _ < _; omega) (by rw [List.length_append]; exact strip_sref g4 (by rw [List.length_append]; rfl))
    have hR : (([(UInt8.ofNat 2)] ++ fourB bs.length) ++ bs).length = (5 + bs.length) := by rw [List.length_append]; rfl
    have g5 : ((((((((Heap.empty.push (.cells false t_Rec [.d (.i .u8 2), .d (.sl b bs.length (bytesD bs))])).push .dead).push (.cells false t_uint8 ((bytesD (fourB bs.length)).map .d))).set 1 (.cells false t_uint8 ((bytesD [(UInt8.ofNat 2)]).map .d))).push (.cells false t_uint8 ((bytesD [(UInt8.ofNat 2)]).map .d ++ (bytesD (fourB bs.length)).map .d))).set 3 .dead).push (.cells false t_uint8 ((bytesD ([(UInt8.ofNat 2)] ++ fourB bs.length)).map .d ++ (bytesD bs).map .d))).push (.cells false t_uint8 ((bytesD (fourB c)).map .d))).get 5 = some (.cells false t_uint8 ((bytesD (fourB c)).map .d)) := push_n (((((((Heap.empty.push (.cells false t_Rec [.d (.i .u8 2), .d (.sl b bs.length (bytesD bs))])).push .dead).push (.cells false t_uint8 ((bytesD (fourB bs.length)).map .d))).set 1 (.cells false t_uint8 ((bytesD [(UInt8.ofNat 2)]).map .d))).push (.cells false t_uint8 ((bytesD [(UInt8.ofNat 2)]).map .d ++ (bytesD (fourB bs.length)).map .d))).set 3 .dead).push (.cells false t_uint8 ((bytesD ([(UInt8.ofNat 2)] ++ fourB bs.length)).map .d ++ (bytesD bs).map .d))) _
    have a3 := app_srefx (bytes := 1) (b := 5) (n := 4) (k := (5 + bs.length)) (y := .sref 4 0 1 (5 + bs.length) (5 + bs.length) false) g5 rfl (hR ▸ src_sref (bs := (([(UInt8.ofNat 2)] ++ fourB bs.length) ++ bs)) (push_of g4 _)) (by omega) (by omega) (by omega) (okCells_bytes _)
    have g6 : (((((((((Heap.empty.push (.cells false t_Rec [.d (.i .u8 2), .d (.sl b bs.length (bytesD bs))])).push .dead).push (.cells false t_uint8 ((bytesD (fourB bs.length)).map .d))).set 1 (.cells false t_uint8 ((bytesD [(UInt8.ofNat 2)]).map .d))).push (.cells false t_uint8 ((bytesD [(UInt8.ofNat 2)]).map .d ++ (bytesD (fourB bs.length)).map .d))).set 3 .dead).push (.cells false t_uint8 ((bytesD ([(UInt8.ofNat 2)] ++ fourB bs.length)).map .d ++ (bytesD bs).map .d))).push (.cells false t_uint8 ((bytesD (fourB c)).map .d))).push (.cells false t_uint8 ((bytesD (fourB c)).map .d ++ (bytesD (([(UInt8.ofNat 2)] ++ fourB bs.length) ++ bs)).map .d))).get 6 = some (.cells false t_uint8 ((bytesD (fourB c ++ (([(UInt8.ofNat 2)] ++ fourB bs.length) ++ bs))).map .d)) := by
      rw [bytesD_append, List.map_append]; exact push_n ((((((((Heap.empty.push (.cells false t_Rec [.d (.i .u8 2), .d (.sl b bs.length (bytesD bs))])).push .dead).push (.cells false t_uint8 ((bytesD (fourB bs.length)).map .d))).set 1 (.cells false t_uint8 ((bytesD [(UInt8.ofNat 2)]).map .d))).push (.cells false t_uint8 ((bytesD [(UInt8.ofNat 2)]).map .d ++ (bytesD (fourB bs.length)).map .d))).set 3 .dead).push (.cells false t_uint8 ((bytesD ([(UInt8.ofNat 2)] ++ fourB bs.length)).map .d ++ (bytesD bs).map .d))).push (.cells false t_uint8 ((bytesD (fourB c)).map .d))) _
    have hO : (fourB c ++ (([(UInt8.ofNat 2)] ++ fourB bs.length) ++ bs)).length = 4 + (5 + bs.length) := by rw [List.length_append, hR]; rfl
    refine ⟨(fourB c ++ (([(UInt8.ofNat 2)] ++ fourB bs.length) ++ bs)), by rw [hO]; omega, ?_⟩
    refine .w n_rec_Put rfl ha ?_
    refine .callv (fun h => kind2_ok (h := h)) (by kernel_rfl) ?_
    refine .br false (by kernel_rfl) (fun e => by cases e) (fun _ => ?_)
    refine .br (iLt 4096 (.ofNat bs.length)) (by kernel_rfl) (fun e => ?_) (fun _ => ?_)
    · rw [iLt_iff] at e; simp only [Int.ofNat_eq_natCast] at e; omega
    have hf := four_ok (h := ((Heap.empty.push (.cells false t_Rec [.d (.i .u8 2), .d (.sl b bs.length (bytesD bs))])).push .dead)) (a := bs.length)
    rw [← wrap_u32 (a := bs.length) (by omega)] at hf
    refine .call hf (by kernel_rfl) ?_
    refine .op a1 (by kernel_rfl) ?_
    refine .op a2 (by kernel_rfl) ?_
    refine .call hs (by kernel_rfl) ?_
    refine .call (four_ok (h := (((((((Heap.empty.push (.cells false t_Rec [.d (.i .u8 2), .d (.sl b bs.length (bytesD bs))])).push .dead).push (.cells false t_uint8 ((bytesD (fourB bs.length)).map .d))).set 1 (.cells false t_uint8 ((bytesD [(UInt8.ofNat 2)]).map .d))).push (.cells false t_uint8 ((bytesD [(UInt8.ofNat 2)]).map .d ++ (bytesD (fourB bs.length)).map .d))).set 3 .dead).push (.cells false t_uint8 ((bytesD ([(UInt8.ofNat 2)] ++ fourB bs.length)).map .d ++ (bytesD bs).map .d)))) (a := c)) (by kernel_rfl) ?_
    refine .op a3 (by kernel_rfl) ?_
    rw [hO]
    exact .retST g6 rfl (by kernel_rfl) (by kernel_rfl)
theorem batchPut_ok {h : Heap} {args : List AV} {bor b : Bool} {rows : List (List UInt8)} (hr : Rows rows) (ha : stripArgs h args = some ([.sl b rows.length (rowsD rows)], bor)) :
    ∃ out : List UInt8, out.length = longR rows ∧ Cal E f_batch_Put args h (.nrm, .tup [ownB h out, .d (.i .i64 0)], ownH h) := by
  have key : ∃ v' h', Cal E f_batch_Put args h (.nrm, v', h') ∧ ∃ out : List UInt8, out.length = longR rows ∧ v' = .tup [ownB h out, .d (.i .i64 0)] ∧ h' = ownH h := by
    refine Cal.wy n_batch_Put rfl ha ?_
    refine .callv (fun h => wrong_ok (h := h) (b := b) (bor := false) (args := [.d (.sl b rows.length (rowsD rows))]) hr rfl) (by kernel_rfl) ?_
    refine .br false (by kernel_rfl) (fun e => by cases e) (fun _ => ?_)
    obtain ⟨h0, h1, hle⟩ := hr
    refine .loop true (fun m tm g => ∃ i v bs, i + m = rows.length ∧ bs.length = 9 * i + sumL (rows.take i) ∧ FA t_uint8 bs.length (bytesD bs) v g ∧ St 44 [(0, .d (.sl b rows.length (rowsD rows))), (5, v), (17, .d (.sl b rows.length (rowsD rows))), (18, mkI rows.length), (19, mkI i)] tm) rows.length (by kernel_rfl)
      ⟨0, .nilsl, [], by omega, rfl, .inl ⟨rfl, rfl, .inr rfl⟩, .of (by kernel_rfl) ⟨by kernel_rfl, by kernel_rfl, by kernel_rfl, by kernel_rfl, by kernel_rfl, trivial⟩⟩ ?_
    rintro m tm g ⟨i, v, bs, him, hbl, hf, g', rfl⟩
    have hle2 : sumL (rows.take i) ≤ 4096 * (rows.take i).length := sumL_le fun r hr => hle r (List.mem_of_mem_take hr)
    rw [List.length_take] at hle2
    refine .br (iLt (.ofNat i) (.ofNat rows.length)) (by kernel_rfl) (fun e => ?_) (fun e => ?_)
    · have hi : i < rows.length := by rw [iLt_iff] at e; simpa using e
      obtain ⟨m, rfl⟩ : ∃ k, m = k + 1 := ⟨m - 1, by omega⟩
      have hrl := hle rows[i] (List.getElem_mem hi)
      have hs : sumL (rows.take (i + 1)) = sumL (rows.take i) + rows[i].length := by
        rw [List.take_add_one, List.getElem?_eq_getElem hi, sumL_append]; rfl
      obtain ⟨out, ho, hc⟩ := recPut1 (h := g) (args := [.agg [.d (.i .u8 1), .d (rowD rows[i])]]) (bor := false) (b := false) (bs := rows[i]) hrl rfl
      refine .opv (iaS_sl (k := .i64) (z := 1) (b := b) (n := rows.length) (cs := rowsD rows) (j := i) rfl hi) (by kernel_rfl) ?_
      refine .opv (load_bx1 E (b := b) (cs := rowsD rows) (j := i) (x := rowD rows[i]) (by unfold rowsD; rw [List.getElem?_map, List.getElem?_eq_getElem hi]; rfl)) (by kernel_rfl) ?_
      refine .call hc (by kernel_rfl) ?_
      have g1 := push_n g (.cells false t_uint8 ((bytesD out).map .d))
      have hf2 : FA t_uint8 bs.length (bytesD bs) v (g.push (.cells false t_uint8 ((bytesD out).map .d))) := hf.keep fun t g ht => (push_of ht _).trans ht.symm
      obtain ⟨v', h2, ha2, hf3, _, _⟩ := app_fa (sz := 1) (bytes := 1) hf2 (by rw [bytesD_length, Nat.mul_one]) (src_sref (m := out.length) (ex := false) (bs := out) g1) (by omega) (by omega) (by intro e; rw [List.length_eq_zero_iff.1 e]; rfl) (okCells_bytes _)
      refine .op ha2 (by kernel_rfl) ?_
      have hf4 : FA t_uint8 (bs ++ out).length (bytesD (bs ++ out)) v' h2 := by rw [bytesD_append, List.length_append]; exact hf3
      refine .next m (by kernel_rfl) (by omega) ⟨i + 1, v', bs ++ out, by omega, by rw [List.length_append, ho, hs]; omega, ?_, .of (by kernel_rfl) ⟨by kernel_rfl, by kernel_rfl, by kernel_rfl, by kernel_rfl, ?_, trivial⟩⟩
      · have : ∀ x : Heap, x = h2 → FA t_uint8 (bs ++ out).length (bytesD (bs ++ out)) v' x := fun x e => e ▸ hf4
        exact this _ (by kernel_rfl)
      · exact Eq.trans (b := .d (.i .i64 (wrap .i64 (.ofNat i + 1)))) (by kernel_rfl) (by rw [wrap64 (by simp only [Int.ofNat_eq_natCast]; omega) (by simp only [Int.ofNat_eq_natCast]; omega)]; rfl)
    · have : m = 0 := by rw [iLt_not] at e; simp only [Int.ofNat_eq_natCast] at e; omega
      subst this
      have hin : i = rows.length := by omega
      subst hin
      refine .out true 1 (by kernel_rfl) ?_
      refine .call (count_ok (h := g) (a := rows.length)) (by kernel_rfl) ?_
      have g0 := push_n g (.cells false t_uint8 ((bytesD (countB rows.length)).map .d))
      obtain ⟨out, ho, hc⟩ := recPut2 (h := g.push (.cells false t_uint8 ((bytesD (countB rows.length)).map .d))) (args := [.agg [.d (.i .u8 2), .sref g.n 0 1 2 2 true]]) (bor := true) (b := true) (bs := countB rows.length) (by show 2 ≤ _; omega) (strip_agg_sref g0 rfl)
      refine .call hc (by kernel_rfl) ?_
      have g1 := push_n (g.push (.cells false t_uint8 ((bytesD (countB rows.length)).map .d))) (.cells false t_uint8 ((bytesD out).map .d))
      have hf2 : FA t_uint8 bs.length (bytesD bs) v ((g.push (.cells false t_uint8 ((bytesD (countB rows.length)).map .d))).push (.cells false t_uint8 ((bytesD out).map .d))) := hf.keep fun t g ht => (push_of (push_of ht _) _).trans ht.symm
      have ho2 : out.length = 11 := ho
      obtain ⟨v', h2, ha2, _, _, hf3⟩ := app_fa (sz := 1) (bytes := 1) hf2 (by rw [bytesD_length, Nat.mul_one]) (src_sref (m := out.length) (ex := false) (bs := out) g1) (by omega) (by omega) (by intro e; omega) (okCells_bytes _)
      obtain ⟨t, gg, rfl, ht⟩ := hf3 (by omega)
      refine .op ha2 (by kernel_rfl) ?_
      have hlen : (bs ++ out).length = longR rows := by
        rw [List.length_append, ho2, hbl, List.take_length]; unfold longR; omega
      rw [← bytesD_append, ← List.length_append]
      exact .retYT ht (cleanL_bytes _) rfl (by kernel_rfl) (by kernel_rfl) ⟨bs ++ out, hlen, rfl, rfl⟩
  obtain ⟨v', h', hc, out, ho, rfl, rfl⟩ := key
  exact ⟨out, ho, hc⟩
end
end Go.Proofs.YtjacnbabnpgpaaaGreatDoor
