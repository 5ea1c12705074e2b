/- Contracts: crc.Sum: some sum. -/
import Derived.Test.YtjacnbabnpgpaaaGreatDoorK
import Derived.Test.YtjacnbabnpgpaaaGreatDoorF
namespace Go.Proofs.YtjacnbabnpgpaaaGreatDoor
open Go Go.Abs
set_option maxRecDepth 100000
theorem wrap_u32 {a : Nat} (h : a < 4294967296) : wrap .u32 (.ofNat a) = .ofNat a := by
  unfold wrap
  rw [show inR .u32 (.ofNat a) = true from by show Nat.blt a _ = true; rw [Nat.blt_eq]; exact h]
theorem inR_u32 {a : Nat} (h : a < 4294967296) : inR .u32 (.ofNat a) = true := by show Nat.blt a _ = true; rw [Nat.blt_eq]; exact h
theorem inR_u8 {a : Nat} (h : a < 256) : inR .u8 (.ofNat a) = true := by show Nat.blt a _ = true; rw [Nat.blt_eq]; exact h
theorem xor32 {a b : Nat} (ha : a < 4294967296) (hb : b < 4294967296) : ∃ c, c < 4294967296 ∧ Abs.bits .xor .u32 (.ofNat a) (.ofNat b) = .ofNat c :=
  ⟨Nat.xor a b, Nat.xor_lt_two_pow (n := 32) ha hb, bits_nat (by rw [inR_u32 ha, inR_u32 hb]; rfl)⟩
theorem xor8 {a b : Nat} (ha : a < 256) (hb : b < 256) : ∃ c, c < 256 ∧ Abs.bits .xor .u8 (.ofNat a) (.ofNat b) = .ofNat c :=
  ⟨Nat.xor a b, Nat.xor_lt_two_pow (n := 8) ha hb, bits_nat (by rw [inR_u8 ha, inR_u8 hb]; rfl)⟩
def U32 (x : DV) : Prop := ∃ c, c < 4294967296 ∧ x = .i .u32 (.ofNat c)
theorem half_ok {a : Nat} (ha : a < 4294967296) (h : Heap) : ∃ x, U32 x ∧ Cal E f_crc_half [.d (.i .u32 (.ofNat a))] h (.nrm, .d x, h) := by
  refine Cal.wx n_crc_half rfl (ds := [.i .u32 (.ofNat a)]) (bor := false) rfl ?_
  refine .br (iEq (Abs.bits .and .u32 (.ofNat a) 1) 1) (by kernel_rfl) (fun _ => ?_) (fun _ => ?_)
  · refine .opv (fun h => shr_op (h := h) (q := .bool) (j := .u32) (k := .u64) (x := .ofNat a) (m := 1) (r := .ofNat (a / 2)) rfl) (by kernel_rfl) ?_
    obtain ⟨c, hc, e⟩ := xor32 (a := a / 2) (b := 3988292384) (by omega) (by omega)
    exact .retD (.i .u32 (Abs.bits .xor .u32 (.ofNat (a / 2)) 3988292384)) rfl (by kernel_rfl) ⟨c, hc, congrArg _ e⟩
  · refine .opv (fun h => shr_op (h := h) (q := .bool) (j := .u32) (k := .u64) (x := .ofNat a) (m := 1) (r := .ofNat (a / 2)) rfl) (by kernel_rfl) ?_
    exact .retD (.i .u32 (.ofNat (a / 2))) rfl (by kernel_rfl) ⟨a / 2, by omega, rfl⟩
theorem times_ok {h : Heap} : Cal E f_crc_times [.d (.i .i64 8), .d (.fn (.func f_crc_half) [] [])] h (.nrm, .fn (.func f_crc_times_1) [] [.d (.bx false [.i .i64 8] 0), .d (.bx false [.fn (.func f_crc_half) [] []] 0)], h) := ⟨40, by kernel_rfl⟩
theorem times1_ok {a : Nat} (ha : a < 4294967296) (h : Heap) : ∃ x, U32 x ∧ Cal E f_crc_times_1 [.d (.i .u32 (.ofNat a)), .d (.bx false [.i .i64 8] 0), .d (.bx false [.fn (.func f_crc_half) [] []] 0)] h (.nrm, .d x, h) := by
  refine Cal.wx n_crc_times_1 rfl (ds := [.i .u32 (.ofNat a), .bx false [.i .i64 8] 0, .bx false [.fn (.func f_crc_half) [] []] 0]) (bor := false) rfl ?_
  refine .opv (load_bx1 E (b := false) (cs := [.i .i64 8]) (j := 0) rfl) (by kernel_rfl) ?_
  refine .loop false (fun m tm _ => ∃ i a, i + m = 8 ∧ a < 4294967296 ∧ St 13 [(0, .d (.i .u32 (.ofNat a))), (2, .d (.bx false [.fn (.func f_crc_half) [] []] 0)), (5, mkI 8), (6, mkI i)] tm) 8 (by kernel_rfl)
    ⟨0, a, by omega, ha, .of (by kernel_rfl) ⟨by kernel_rfl, by kernel_rfl, by kernel_rfl, by kernel_rfl, trivial⟩⟩ ?_
  rintro m tm g ⟨i, a, him, ha, g', rfl⟩
  refine .br (iLt (.ofNat i) (.ofNat 8)) (by kernel_rfl) (fun e => ?_) (fun e => ?_)
  · have hi : i < 8 := by rw [iLt_iff] at e; simp only [Int.ofNat_eq_natCast] at e; omega
    obtain ⟨m, rfl⟩ : ∃ k, m = k + 1 := ⟨m - 1, by omega⟩
    refine .opv (load_bx1 E (b := false) (cs := [.fn (.func f_crc_half) [] []]) (j := 0) rfl) (by kernel_rfl) ?_
    obtain ⟨x, ⟨c, hc, rfl⟩, hh⟩ := half_ok ha g
    refine .call hh (by kernel_rfl) ?_
    refine .next m (by kernel_rfl) (by omega) ⟨i + 1, c, by omega, hc, .of (by kernel_rfl) ⟨by kernel_rfl, by kernel_rfl, by kernel_rfl, ?_, trivial⟩⟩
    exact Eq.trans (b := .d (.i .i64 (wrap .i64 (.ofNat i + 1)))) (by kernel_rfl) (by rw [wrap64 (by simp only [Int.ofNat_eq_natCast]; omega) (by simp only [Int.ofNat_eq_natCast]; omega)]; rfl)
  · have : m = 0 := by rw [iLt_not] at e; simp only [Int.ofNat_eq_natCast] at e; omega
    subst this
    refine .out false 1 (by kernel_rfl) ?_
    exact .retD (.i .u32 (.ofNat a)) rfl (by kernel_rfl) ⟨a, ha, rfl⟩
theorem table_ok {i : Nat} (hi : i < 256) (h : Heap) : ∃ x, U32 x ∧ Cal E f_crc_Table [.d (.i .u8 (.ofNat i))] h (.nrm, .d x, h) := by
  refine Cal.wx n_crc_Table rfl (ds := [.i .u8 (.ofNat i)]) (bor := false) rfl ?_
  refine .callv (fun h => times_ok (h := h)) (by kernel_rfl) ?_
  obtain ⟨x, ⟨c, hc, rfl⟩, hh⟩ := times1_ok (a := i) (by omega) .empty
  rw [← wrap_u32 (a := i) (by omega)] at hh
  refine .call hh (by kernel_rfl) ?_
  exact .retD (.i .u32 (.ofNat c)) rfl (by kernel_rfl) ⟨c, hc, rfl⟩
theorem through_ok {a b : Nat} (ha : a < 4294967296) (hb : b < 256) (h : Heap) : ∃ x, U32 x ∧ Cal E f_crc_through [.d (.i .u32 (.ofNat a)), .d (.i .u8 (.ofNat b))] h (.nrm, .d x, h) := by
  refine Cal.wx n_crc_through rfl (ds := [.i .u32 (.ofNat a), .i .u8 (.ofNat b)]) (bor := false) rfl ?_
  obtain ⟨i, hi, e⟩ := xor8 (a := a % 256) (b := b) (by omega) hb
  rw [← wrap_u8] at e
  obtain ⟨x, ⟨c, hc, rfl⟩, hh⟩ := table_ok hi .empty
  rw [← e] at hh
  refine .call hh (by kernel_rfl) ?_
  refine .opv (fun h => shr_op (h := h) (q := .bool) (j := .u32) (k := .u64) (x := .ofNat a) (m := 8) (r := .ofNat (a / 256)) rfl) (by kernel_rfl) ?_
  obtain ⟨d, hd, e2⟩ := xor32 (a := c) (b := a / 256) hc (by omega)
  exact .retD (.i .u32 (Abs.bits .xor .u32 (.ofNat c) (.ofNat (a / 256)))) rfl (by kernel_rfl) ⟨d, hd, congrArg _ e2⟩
theorem crcNext_ok {a b : Nat} (ha : a < 4294967296) (hb : b < 256) (h : Heap) : ∃ x, U32 x ∧ Cal E f_crc_Next [.d (.i .u32 (.ofNat a)), .d (.i .u8 (.ofNat b))] h (.nrm, .d x, h) := by
  refine Cal.wx n_crc_Next rfl (ds := [.i .u32 (.ofNat a), .i .u8 (.ofNat b)]) (bor := false) rfl ?_
  obtain ⟨i, hi, e⟩ := xor32 (a := 4294967295) (b := a) (by omega) ha
  obtain ⟨x, ⟨c, hc, rfl⟩, hh⟩ := through_ok hi hb .empty
  rw [← e] at hh
  refine .call hh (by kernel_rfl) ?_
  obtain ⟨d, hd, e2⟩ := xor32 (a := 4294967295) (b := c) (by omega) hc
  exact .retD (.i .u32 (Abs.bits .xor .u32 (.ofNat 4294967295) (.ofNat c))) rfl (by kernel_rfl) ⟨d, hd, congrArg _ e2⟩
theorem values_ok {h : Heap} {b : Bool} {n : Nat} {cs : List DV} : Cal E f_slices_Values_byte [.d (.sl b n cs)] h (.nrm, .fn (.func f_slices_Values_byte_1) [] [.d (.bx false [.sl b n cs] 0)], h) := by
  refine .w n_slices_Values_byte rfl (ds := [.sl b n cs]) (bor := false) rfl ?_
  exact .retA' (.fn (.func f_slices_Values_byte_1) [] [.ptr 0 0]) (by kernel_rfl) (by kernel_rfl)
theorem values1_ok {b : Bool} {bs : List UInt8} {l : Nat} {h h' : Heap} (hlen : bs.length < 9223372036854775807) (y : Ylds E l (argsY bs) h h') : Cal E f_slices_Values_byte_1 [.fn (.yield l) [] [], .d (.bx false [.sl b bs.length (bytesD bs)] 0)] h (.nrm, .tup [], h') := by
  refine .wr n_slices_Values_byte_1 (.inr rfl) ?_
  refine .opv (load_bx1 E (b := false) (cs := [.sl b bs.length (bytesD bs)]) (j := 0) rfl) (by kernel_rfl) ?_
  refine .loop true (fun m tm g => ∃ i, i + m = bs.length ∧ Ylds E l (argsY (bs.drop i)) g h' ∧ St 16 [(0, .fn (.yield l) [] []), (5, .d (.sl b bs.length (bytesD bs))), (6, mkI bs.length), (7, mkI i)] tm) bs.length (by kernel_rfl)
    ⟨0, by omega, ?_, .of (by kernel_rfl) ⟨by kernel_rfl, by kernel_rfl, by kernel_rfl, by kernel_rfl, trivial⟩⟩ ?_
  · have : ∀ x : Heap, x = h → Ylds E l (argsY (bs.drop 0)) x h' := fun x e => e ▸ y
    exact this _ (by kernel_rfl)
  rintro m tm g ⟨i, him, hy, g', rfl⟩
  refine .br (iLt (.ofNat i) (.ofNat bs.length)) (by kernel_rfl) (fun e => ?_) (fun e => ?_)
  · have hi : i < bs.length := by rw [iLt_iff] at e; simpa using e
    obtain ⟨m, rfl⟩ : ∃ k, m = k + 1 := ⟨m - 1, by omega⟩
    rw [List.drop_eq_getElem_cons hi] at hy
    cases hy with
    | cons y1 s =>
    rename_i h2
    refine .opv (iaS_sl (k := .i64) (z := 1) (b := b) (n := bs.length) (cs := bytesD bs) (j := i) rfl hi) (by kernel_rfl) ?_
    refine .opv (load_bx1 E (b := b) (cs := bytesD bs) (j := i) (x := byteD bs[i]) (by unfold bytesD; rw [List.getElem?_map, List.getElem?_eq_getElem hi]; rfl)) (by kernel_rfl) ?_
    refine .yld y1 (by kernel_rfl) ?_
    refine .br false (by kernel_rfl) (fun e => by cases e) (fun _ => ?_)
    refine .next m (by kernel_rfl) (by omega) ⟨i + 1, by omega, ?_, .of (by kernel_rfl) ⟨by kernel_rfl, by kernel_rfl, by kernel_rfl, ?_, trivial⟩⟩
    · have : ∀ x : Heap, x = h2 → Ylds E l (argsY (bs.drop (i + 1))) x h' := fun x e => e ▸ s
      exact this _ (by kernel_rfl)
    · exact Eq.trans (b := .d (.i .i64 (wrap .i64 (.ofNat i + 1)))) (by kernel_rfl) (by rw [wrap64 (by simp only [Int.ofNat_eq_natCast]; omega) (by simp only [Int.ofNat_eq_natCast]; omega)]; rfl)
  · have : m = 0 := by rw [iLt_not] at e; simp only [Int.ofNat_eq_natCast] at e; omega
    subst this
    rw [List.drop_eq_nil_of_le (by omega)] at hy
    cases hy
    refine .out true 1 (by kernel_rfl) ?_
    exact .retR (by kernel_rfl) (by kernel_rfl)
noncomputable section
def cSum0 (b : Bool) (n : Nat) (cs : List DV) : Cfg := .run c_crc_Sum.body [] ⟨false, []⟩ (enterT c_crc_Sum.ntmps ([DV.sl b n cs].map inj)) .empty
def fnSum (b : Bool) (n : Nat) (cs : List DV) : AV := .fn (.func f_slices_Values_byte_1) [] [.d (.bx false [.sl b n cs] 0)]
def cSum (b : Bool) (n : Nat) (cs : List DV) : Cfg := (adv E (cSum0 b n cs)).callK (fnSum b n cs) (adv E (cSum0 b n cs)).callH
def bSum (b : Bool) (n : Nat) (cs : List DV) (s : LSt) : Blk := .loop s .none 0 (adv E (cSum b n cs)).tm (adv E (cSum b n cs)).rfP (adv E (cSum b n cs)).rfA (adv E (cSum b n cs)).rfB
structure SI (b : Bool) (n : Nat) (cs : List DV) (h : Heap) : Prop where
  l : h.get 1 = some (bSum b n cs .ready)
  s : ∃ c, c < 4294967296 ∧ h.get 0 = some (.cells false t_uint32 [.d (.i .u32 (.ofNat c))])
theorem sumRound {b : Bool} {n : Nat} {cs : List DV} {h : Heap} {x : UInt8} (hi : SI b n cs h) : ∃ h', Rnd E 1 [.d (byteD x)] h (.nrm, .d (.b true), h') ∧ SI b n cs h' := by
  obtain ⟨hlp, c, hc, hs⟩ := hi
  obtain ⟨hB, hBe⟩ : ∃ hB, hB = h.set 1 (bSum b n cs .busy) := ⟨_, rfl⟩
  have hb : hB.get 0 = some (.cells false t_uint32 [.d (.i .u32 (.ofNat c))]) := by rw [hBe, Heap.get_set_ne (by omega)]; exact hs
  have hBl : hB.get 1 = some (bSum b n cs .busy) := by rw [hBe]; exact Heap.get_set_self hlp
  have hx : x.toNat < 256 := x.toNat_lt
  obtain ⟨y, ⟨d, hd, rfl⟩, hh⟩ := crcNext_ok hc hx hB
  refine ⟨(hB.set 0 (.cells false t_uint32 [.d (.i .u32 (.ofNat d))])).set 1 (bSum b n cs .ready), ?_, ?_⟩
  · refine Rnd.w (tm := setL (adv E (cSum b n cs)).tm 7 (.d (byteD x))) (tm1 := setL (setL (adv E (cSum b n cs)).tm 7 (.d (byteD x))) 4 (.d (byteD x))) hlp (by kernel_rfl) ⟨2, by kernel_rfl⟩ ?_
    rw [show Blk.loop .busy .none 0 (adv E (cSum b n cs)).tm (adv E (cSum b n cs)).rfP (adv E (cSum b n cs)).rfA (adv E (cSum b n cs)).rfB = bSum b n cs .busy from rfl, ← hBe]
    refine .op (load_q hb) (by kernel_rfl) ?_
    refine .call hh (by kernel_rfl) ?_
    refine .op (store_ptr (n := 1) (off := 0) (x := .d (.i .u32 (.ofNat d))) hb rfl) (by kernel_rfl) ?_
    have key : ∀ z : Heap, z = hB.set 0 (.cells false t_uint32 [.d (.i .u32 (.ofNat d))]) → ∃ f1 tm2 ps2 a2 b2 p2 s2, z.get 1 = some (.loop s2 p2 f1 tm2 ps2 a2 b2) ∧ (hB.set 0 (.cells false t_uint32 [.d (.i .u32 (.ofNat d))])).set 1 (bSum b n cs .ready) = z.set 1 (.loop .ready .none f1 tm2 ps2 a2 b2) := by
      rintro _ rfl
      refine ⟨0, _, _, _, _, .none, .busy, (Heap.get_set_ne (by omega)).trans hBl, rfl⟩
    exact .done 0 (by kernel_rfl) ⟨rfl, key _ (by kernel_rfl)⟩
  · have hz : (hB.set 0 (.cells false t_uint32 [.d (.i .u32 (.ofNat d))])).get 1 = some (bSum b n cs .busy) := by rw [Heap.get_set_ne (by omega)]; exact hBl
    exact ⟨Heap.get_set_self hz, d, hd, by rw [Heap.get_set_ne (by omega), Heap.get_set_self hb]⟩
theorem sum_ok {h : Heap} {args : List AV} {bor b : Bool} {bs : List UInt8} (hlen : bs.length < 9223372036854775807) (ha : stripArgs h args = some ([.sl b bs.length (bytesD bs)], bor)) : ∃ x, U32 x ∧ Cal E f_crc_Sum args h (.nrm, .d x, h) := by
  have i0 : SI b bs.length (bytesD bs) ((Heap.empty.push (.cells false t_uint32 [.d (.i .u32 0)])).push (bSum b bs.length (bytesD bs) .ready)) := ⟨push_n _ _, 0, by omega, push_of (push_n .empty _) _⟩
  obtain ⟨h3, hy, i3⟩ := Ylds.of (E := E) (l := 1) (I := fun _ g => SI b bs.length (bytesD bs) g) (l1 := argsY bs) (i := 0) i0 (fun j a ha g hi => by
    unfold argsY at ha
    rw [List.getElem?_map] at ha
    cases hb : bs[j]? with
    | none => rw [hb] at ha; cases ha
    | some r =>
      rw [hb] at ha
      cases ha
      exact sumRound hi)
  obtain ⟨hlp, c, hc, hs⟩ := i3
  have hx : (h3.set 1 (bSum b bs.length (bytesD bs) .exhausted)).get 0 = some (.cells false t_uint32 [.d (.i .u32 (.ofNat c))]) := by rw [Heap.get_set_ne (by omega)]; exact hs
  refine Cal.wx n_crc_Sum rfl ha ?_
  refine .callv (fun h => values_ok (h := h) (b := b) (n := bs.length) (cs := bytesD bs)) (by kernel_rfl) ?_
  refine .rfunc (m := true) (f := f_slices_Values_byte_1) (args := [.fn (.yield 1) [] [], .d (.bx false [.sl b bs.length (bytesD bs)] 0)]) (by kernel_rfl) (values1_ok hlen hy) hlp ?_
  refine .op (load_q hx) (by kernel_rfl) ?_
  exact .retD (.i .u32 (.ofNat c)) rfl (by kernel_rfl) ⟨c, hc, rfl⟩
end
end Go.Proofs.YtjacnbabnpgpaaaGreatDoor
