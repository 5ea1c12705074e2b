/- Contracts: the document's check sums, records. -/
import Derived.Test.YtjacnbabnpgpaaaGreatDoorW
import Derived.Test.YtjacnbabnpgpaaaGreatDoorAK
namespace Go.Proofs.YtjacnbabnpgpaaaGreatDoor
noncomputable section
open Go Go.Abs
set_option maxRecDepth 100000
theorem wrap_u32m (a : Nat) : wrap .u32 (.ofNat a) = .ofNat (a % 4294967296) := by
  unfold wrap
  split
  · rename_i h
    have h : Nat.blt a 4294967296 = true := h
    rw [Nat.blt_eq] at h
    rw [Nat.mod_eq_of_lt h]
  · have : IntKind.wrap .u32 (.ofNat a) = (.ofNat a) % 4294967296 := by kernel_rfl
    rw [this]
    simp only [Int.ofNat_eq_natCast]
    omega
theorem sub_u32 {a : Nat} (h : a < 4294967296) : wrap .u32 (4294967295 - .ofNat a) = .ofNat (4294967295 - a) := by
  rw [show (4294967295 : Int) - .ofNat a = .ofNat (4294967295 - a) by simp only [Int.ofNat_eq_natCast]; omega, wrap_u32m, Nat.mod_eq_of_lt (by omega)]
theorem rem2_u32 {h : Heap} {q : EqK} {x : Int} {u : Nat} (hx : x = .ofNat u) : s_bin h [] .rem q (.c (.d (.i .u32 x))) (.c (.d (.i .u32 2))) = .val (.d (.i .u32 (.ofNat (u % 2)))) h := by
  subst hx
  show ov h (binA .rem q (.d (.i .u32 (.ofNat u))) (.d (.i .u32 2))) = _
  unfold binA
  simp only [intA, arith]
  show ov h (mkZ .u32 (Int.tmod (.ofNat u) 2)) = _
  rw [show Int.tmod (.ofNat u) 2 = .ofNat (u % 2) from rfl]; rfl
theorem quo2_u32 {h : Heap} {q : EqK} {u : Nat} (hu : u < 4294967296) : s_bin h [] .quo q (.c (.d (.i .u32 (.ofNat u)))) (.c (.d (.i .u32 2))) = .val (.d (.i .u32 (.ofNat (u / 2)))) h := by
  show ov h (binA .quo q (.d (.i .u32 (.ofNat u))) (.d (.i .u32 2))) = _
  unfold binA
  simp only [intA, arith]
  show ov h (mkZ .u32 (wrap .u32 (Int.tdiv (.ofNat u) 2))) = _
  rw [show Int.tdiv (.ofNat u) 2 = .ofNat (u / 2) from rfl, wrap_u32m, Nat.mod_eq_of_lt (by omega)]; rfl
theorem refNext_ok {a b : Nat} (ha : a < 4294967296) (hb : b < 256) (h : Heap) : ∃ x, U32 x ∧ Cal E f_foremanref02_Next [.d (.i .u32 (.ofNat a)), .d (.i .u8 (.ofNat b))] h (.nrm, .d x, h) := by
  refine Cal.wx n_foremanref02_Next rfl (ds := [.i .u32 (.ofNat a), .i .u8 (.ofNat b)]) (bor := false) rfl ?_
  refine .loop false (fun m tm _ => ∃ i r x, i + m = 8 ∧ r < 4294967296 ∧ x < 4294967296 ∧ St 31 [(5, .d (.i .u32 (.ofNat r))), (6, .d (.i .u32 (.ofNat x))), (7, mkI i)] tm) 8 (by kernel_rfl)
    ⟨0, 4294967295 - a, b, by omega, by omega, by omega, .of (by kernel_rfl) ⟨?_, ?_, by kernel_rfl, trivial⟩⟩ ?_
  · exact Eq.trans (b := .d (.i .u32 (wrap .u32 (4294967295 - .ofNat a)))) (by kernel_rfl) (by rw [sub_u32 ha])
  · exact Eq.trans (b := .d (.i .u32 (wrap .u32 (.ofNat b)))) (by kernel_rfl) (by rw [wrap_u32m, Nat.mod_eq_of_lt (by omega)])
  rintro m tm g ⟨i, r, x, him, hr, hx, g', rfl⟩
  refine .br (iLt (.ofNat i) (.ofNat 8)) (by kernel_rfl) (fun e => ?_) (fun e => ?_)
  · have hi : i < 8 := by rw [iLt_iff] at e; simp only [Int.ofNat_eq_natCast] at e; omega
    obtain ⟨m, rfl⟩ : ∃ k, m = k + 1 := ⟨m - 1, by omega⟩
    have hw : wrap .u32 (.ofNat r + .ofNat x) = .ofNat ((r + x) % 4294967296) := wrap_u32m (r + x)
    refine .opv (fun h => rem2_u32 (h := h) (q := .bool) hw) (by kernel_rfl) ?_
    refine .opv (fun h => quo2_u32 (h := h) (q := .bool) hr) (by kernel_rfl) ?_
    refine .opv (fun h => quo2_u32 (h := h) (q := .bool) hx) (by kernel_rfl) ?_
    refine .br (iEq (.ofNat ((r + x) % 4294967296 % 2)) 1) (by kernel_rfl) (fun _ => ?_) (fun _ => ?_)
    · obtain ⟨c, hc, e2⟩ := xor32 (a := r / 2) (b := 3988292384) (by omega) (by omega)
      refine .next m (by kernel_rfl) (by omega) ⟨i + 1, c, x / 2, by omega, hc, by omega, .of (by kernel_rfl) ⟨?_, by kernel_rfl, ?_, trivial⟩⟩
      · exact Eq.trans (b := .d (.i .u32 (Abs.bits .xor .u32 (.ofNat (r / 2)) 3988292384))) (by kernel_rfl) (congrArg (fun z => AV.d (.i .u32 z)) e2)
      · exact Eq.trans (b := .d (.i .i64 (wrap .i64 (.ofNat i + 1)))) (by kernel_rfl) (inc63 (by omega))
    · refine .next m (by kernel_rfl) (by omega) ⟨i + 1, r / 2, x / 2, by omega, by omega, by omega, .of (by kernel_rfl) ⟨by kernel_rfl, by kernel_rfl, ?_, trivial⟩⟩
      exact Eq.trans (b := .d (.i .i64 (wrap .i64 (.ofNat i + 1)))) (by kernel_rfl) (inc63 (by omega))
  · have : m = 0 := by rw [iLt_not] at e; simp only [Int.ofNat_eq_natCast] at e; omega
    subst this
    refine .out false 1 (by kernel_rfl) ?_
    exact .retD (.i .u32 (wrap .u32 (4294967295 - .ofNat r))) rfl (by kernel_rfl) ⟨4294967295 - r, by omega, congrArg _ (sub_u32 hr)⟩
theorem refSum_ok {h : Heap} {args : List AV} {bor b : Bool} {bs : List UInt8} (hlen : bs.length ≤ 9223372036854775807) (ha : stripArgs h args = some ([.sl b bs.length (bytesD bs)], bor)) : ∃ x, U32 x ∧ Cal E f_foremanref02_Sum args h (.nrm, .d x, h) := by
  refine Cal.wx n_foremanref02_Sum rfl ha ?_
  refine .loop false (fun m tm _ => ∃ i r, i + m = bs.length ∧ r < 4294967296 ∧ St 18 [(0, .d (.sl b bs.length (bytesD bs))), (3, .d (.i .u32 (.ofNat r))), (4, mkI i)] tm) bs.length (by kernel_rfl)
    ⟨0, 0, by omega, by omega, .of (by kernel_rfl) ⟨by kernel_rfl, by kernel_rfl, by kernel_rfl, trivial⟩⟩ ?_
  rintro m tm g ⟨i, r, him, hr, g', rfl⟩
  refine .br (iLt (.ofNat i) (.ofNat bs.length)) (by kernel_rfl) (fun e => ?_) (fun e => ?_)
  · have hi : i < bs.length := by rw [iLt_iff] at e; simpa using e
    obtain ⟨m, rfl⟩ : ∃ k, m = k + 1 := ⟨m - 1, by omega⟩
    refine .opv (iaS_sl (k := .i64) (z := 1) (b := b) (n := bs.length) (cs := bytesD bs) (j := i) rfl hi) (by kernel_rfl) ?_
    refine .opv (load_bx1 E (b := b) (cs := bytesD bs) (j := i) (x := byteD bs[i]) (by unfold bytesD; rw [List.getElem?_map, List.getElem?_eq_getElem hi]; rfl)) (by kernel_rfl) ?_
    obtain ⟨x, ⟨c, hc, rfl⟩, hh⟩ := refNext_ok hr (bs[i].toNat_lt : bs[i].toNat < 256) g
    refine .call hh (by kernel_rfl) ?_
    refine .next m (by kernel_rfl) (by omega) ⟨i + 1, c, by omega, hc, .of (by kernel_rfl) ⟨by kernel_rfl, by kernel_rfl, ?_, trivial⟩⟩
    exact Eq.trans (b := .d (.i .i64 (wrap .i64 (.ofNat i + 1)))) (by kernel_rfl) (inc63 (by omega))
  · have : m = 0 := by rw [iLt_not] at e; simp only [Int.ofNat_eq_natCast] at e; omega
    subst this
    refine .out false 1 (by kernel_rfl) ?_
    exact .retD (.i .u32 (.ofNat r)) rfl (by kernel_rfl) ⟨r, hr, rfl⟩
end
end Go.Proofs.YtjacnbabnpgpaaaGreatDoor
