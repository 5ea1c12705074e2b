/- Contracts: wire.Num, wire.Text. -/
import Derived.Test.YtjacnbabnpgpaaaGreatDoorF
namespace Go.Proofs.YtjacnbabnpgpaaaGreatDoor
noncomputable section
open Go Go.Abs
set_option maxRecDepth 100000
theorem shl_op {h : Heap} {q : EqK} {j k : IntKind} {x : Int} {m : Nat} {r : Int} (hr : shlA j x (.ofNat m) = some (.d (.i j r))) : s_bin h [] .shl q (.c (.d (.i j x))) (.c (.d (.i k (.ofNat m)))) = .val (.d (.i j r)) h := by
  unfold s_bin binA; simp only [X.ev, intA, arith, hr]; rfl
theorem shr_op {h : Heap} {q : EqK} {j k : IntKind} {x : Int} {m : Nat} {r : Int} (hr : shrA j x (.ofNat m) = some (.d (.i j r))) : s_bin h [] .shr q (.c (.d (.i j x))) (.c (.d (.i k (.ofNat m)))) = .val (.d (.i j r)) h := by
  unfold s_bin binA; simp only [X.ev, intA, arith, hr]; rfl
theorem wrapK64 (n : Int) : IntKind.wrap .u64 n = n % 18446744073709551616 := by kernel_rfl
theorem wrapK8 (n : Int) : IntKind.wrap .u8 n = n % 256 := by kernel_rfl
theorem inR_nat {a : Nat} : inR .u64 (.ofNat a) = decide (a < 18446744073709551616) := by
  show Nat.blt a _ = _
  rw [Bool.eq_iff_iff, Nat.blt_eq, decide_eq_true_eq]
theorem wrap_u64 {a : Nat} (h : a < 18446744073709551616) : wrap .u64 (.ofNat a) = .ofNat a := by
  unfold wrap; rw [inR_nat, decide_eq_true h]
theorem wrap_u64_neg {a : Nat} (h : a < 9223372036854775808) : wrap .u64 (.negSucc a) = .ofNat (18446744073709551615 - a) := by
  unfold wrap
  rw [show inR .u64 (.negSucc a) = false from rfl]
  simp only [wrapK64, Int.ofNat_eq_natCast]
  omega
theorem bits_nat {op : BinOp} {k : IntKind} {a b : Nat} (h : (isAN op && inR k (.ofNat a) && inR k (.ofNat b)) = true) : Abs.bits op k (.ofNat a) (.ofNat b) = .ofNat (bitsN op a b) := by
  unfold Abs.bits; simp only [h]
def zz (n : Int) : Nat := match n with
  | .ofNat a => 2 * a
  | .negSucc a => 2 * a + 1
theorem xor_ones {a : Nat} (h : a < 18446744073709551616) : Nat.xor a 18446744073709551615 = 18446744073709551615 - a := by
  have := congrArg BitVec.toNat (BitVec.xor_allOnes (x := BitVec.ofNat 64 a))
  rw [BitVec.toNat_xor, BitVec.toNat_not, BitVec.toNat_allOnes, BitVec.toNat_ofNat, Nat.mod_eq_of_lt (by omega)] at this
  exact this
theorem plainG {h : Heap} {n r1 r2 r3 : Int} (h1 : shlA .u64 (wrap .u64 n) (.ofNat 1) = some (.d (.i .u64 r1))) (h2 : shrA .i64 n (.ofNat 63) = some (.d (.i .i64 r2))) (h3 : Abs.bits .xor .u64 r1 (wrap .u64 r2) = r3) : Cal E f_wire_plain [.d (.i .i64 n)] h (.nrm, .d (.i .u64 r3), h) := by
  refine .w n_wire_plain rfl (ds := [.i .i64 n]) (bor := false) rfl ?_
  refine .opv (fun h => shl_op (h := h) (q := .bool) (j := .u64) (k := .u64) (x := wrap .u64 n) (m := 1) (r := r1) h1) (by kernel_rfl) ?_
  refine .opv (fun h => shr_op (h := h) (q := .bool) (j := .i64) (k := .u64) (x := n) (m := 63) (r := r2) h2) (by kernel_rfl) ?_
  exact .retI (Abs.bits .xor .u64 r1 (wrap .u64 r2)) (by kernel_rfl) h3
theorem shlA_nat {b r : Nat} (hr : wrap .u64 (.ofNat (b * 2)) = .ofNat r) : shlA .u64 (.ofNat b) (.ofNat 1) = some (.d (.i .u64 (.ofNat r))) := by
  show mkZ .u64 (wrap .u64 (.ofNat (Nat.mul b 2))) = _
  rw [show Nat.mul b 2 = b * 2 from rfl, hr]; rfl
theorem plainP {h : Heap} {a : Nat} (h1 : (Int.ofNat a) < 9223372036854775808) : Cal E f_wire_plain [.d (.i .i64 (.ofNat a))] h (.nrm, .d (.i .u64 (.ofNat (zz (.ofNat a)))), h) := by
  simp only [Int.ofNat_eq_natCast] at h1
  refine plainG (r1 := .ofNat (a * 2)) (r2 := .ofNat 0) ?_ ?_ ?_
  · rw [wrap_u64 (by omega)]
    exact shlA_nat (wrap_u64 (by omega))
  · show mkZ .i64 (.ofNat (Nat.div a (2 ^ 63))) = _
    rw [show Nat.div a (2 ^ 63) = 0 from Nat.div_eq_of_lt (by omega)]; rfl
  · rw [wrap_u64 (by omega), bits_nat (by rw [inR_nat, decide_eq_true (by omega)]; rfl)]
    show Int.ofNat (a * 2 ^^^ 0) = Int.ofNat (2 * a)
    rw [Nat.xor_zero, Nat.mul_comm]
theorem shrM {a : Nat} (ha : a < 9223372036854775808) : shrA .i64 (.negSucc a) (.ofNat 63) = some (.d (.i .i64 (.negSucc 0))) := by
  have : (Int.negSucc a).fdiv (2 ^ 63) = .negSucc 0 := by
    rw [Int.fdiv_eq_ediv_of_nonneg _ (by omega)]
    omega
  rw [← this]; rfl
theorem plainM {h : Heap} {a : Nat} (h0 : -9223372036854775808 ≤ Int.negSucc a) : Cal E f_wire_plain [.d (.i .i64 (.negSucc a))] h (.nrm, .d (.i .u64 (.ofNat (zz (.negSucc a)))), h) := by
  have ha : a < 9223372036854775808 := by omega
  obtain ⟨b, hb⟩ : ∃ b, b = 18446744073709551615 - a := ⟨_, rfl⟩
  obtain ⟨c, hc⟩ : ∃ c, c = 18446744073709551614 - 2 * a := ⟨_, rfl⟩
  refine plainG (r1 := .ofNat c) (r2 := .negSucc 0) ?_ (shrM ha) ?_
  · rw [wrap_u64_neg ha, ← hb]
    refine shlA_nat ?_
    have h2 : ¬ b * 2 < 18446744073709551616 := by omega
    unfold wrap
    rw [inR_nat, decide_eq_false h2]
    simp only [wrapK64, Int.ofNat_eq_natCast]
    omega
  · rw [wrap_u64_neg (by omega)]
    have hc2 : c < 18446744073709551616 := by omega
    rw [bits_nat (by rw [inR_nat, decide_eq_true hc2]; rfl)]
    show Int.ofNat (Nat.xor c 18446744073709551615) = Int.ofNat (2 * a + 1)
    rw [xor_ones hc2]
    congr 1
    omega
theorem plainN_ok {h : Heap} {n : Int} (h0 : -9223372036854775808 ≤ n) (h1 : n < 9223372036854775808) : Cal E f_wire_plain [.d (.i .i64 n)] h (.nrm, .d (.i .u64 (.ofNat (zz n))), h) := by
  cases n with
  | ofNat a => exact plainP h1
  | negSucc a => exact plainM h0
theorem zz_lt {n : Int} (h0 : -9223372036854775808 ≤ n) (h1 : n < 9223372036854775808) : zz n < 18446744073709551616 := by
  unfold zz
  split
  · simp only [Int.ofNat_eq_natCast] at h1; omega
  · omega
def grp : Nat → Nat → List UInt8
  | 0, u => [UInt8.ofNat u]
  | k + 1, u => match Nat.blt u 128 with
    | true => [UInt8.ofNat u]
    | false => UInt8.ofNat (u % 128 + 128) :: grp k (u / 128)
def numB (n : Int) : List UInt8 := grp 9 (zz n)
theorem grp_len : ∀ k u, 1 ≤ (grp k u).length ∧ (grp k u).length ≤ k + 1 := by
  intro k
  induction k with
  | zero => intro u; exact ⟨Nat.le_refl _, Nat.le_refl _⟩
  | succ k ih =>
    intro u
    unfold grp
    split
    · simp
    · have := ih (u / 128)
      simp only [List.length_cons]; omega
theorem numB_len (n : Int) : 1 ≤ (numB n).length ∧ (numB n).length ≤ 10 := grp_len 9 _
theorem or128 : ∀ x : Nat, x < 256 → Nat.lor x 128 = x % 128 + 128 := by
  have : (List.range 256).all (fun x => Nat.beq (Nat.lor x 128) (x % 128 + 128)) = true := by decide +kernel
  intro x hx
  rw [List.all_eq_true] at this
  exact Nat.eq_of_beq_eq_true (this x (by simpa using hx))
theorem wrap_u8 (u : Nat) : wrap .u8 (.ofNat u) = .ofNat (u % 256) := by
  unfold wrap
  split
  · rename_i h
    have h : Nat.blt u 256 = true := h
    rw [Nat.blt_eq] at h
    rw [Nat.mod_eq_of_lt h]
  · simp only [wrapK8, Int.ofNat_eq_natCast]
    omega
theorem byte_more (u : Nat) : DV.i .u8 (Abs.bits .or .u8 (wrap .u8 (.ofNat u)) 128) = byteD (UInt8.ofNat (u % 128 + 128)) := by
  rw [wrap_u8]
  have h : inR .u8 (.ofNat (u % 256)) = true := by show Nat.blt (u % 256) 256 = true; rw [Nat.blt_eq]; omega
  rw [show (128 : Int) = .ofNat 128 from rfl, bits_nat (by rw [h]; rfl)]
  show DV.i .u8 (.ofNat (Nat.lor (u % 256) 128)) = _
  rw [or128 _ (by omega)]
  unfold byteD
  rw [UInt8.toNat_ofNat', show (u % 128 + 128) % 2 ^ 8 = u % 256 % 128 + 128 by omega]; rfl
theorem byte_last (u : Nat) : DV.i .u8 (wrap .u8 (.ofNat u)) = byteD (UInt8.ofNat u) := by
  rw [wrap_u8]; unfold byteD; rw [UInt8.toNat_ofNat']; rfl
def argsY (l : List UInt8) : List (List AV) := l.map fun b => [.d (byteD b)]
theorem groups1_ok {n : Int} (h0 : -9223372036854775808 ≤ n) (h1 : n < 9223372036854775808) {l : Nat} {h h' : Heap} (y : Ylds E l (argsY (numB n)) h h') : Cal E f_wire_groups_1 [.fn (.yield l) [] [], .d (.bx false [.i .i64 n] 0)] h (.nrm, .tup [], h') := by
  refine .wr n_wire_groups_1 (.inr rfl) ?_
  refine .opv (load_bx1 E (b := false) (cs := [.i .i64 n]) (j := 0) rfl) (by kernel_rfl) ?_
  refine .callv (fun h => plainN_ok (h := h) h0 h1) (by kernel_rfl) ?_
  refine .loop true (fun m tm g => ∃ u, u < 128 ^ (m + 1) ∧ Ylds E l (argsY (grp m u)) g h' ∧ St 20 [(0, .fn (.yield l) [] []), (3, .d (.i .u64 (.ofNat u)))] tm) 9 (by kernel_rfl)
    ⟨zz n, by have := zz_lt h0 h1; omega, ?_, .of (by kernel_rfl) ⟨by kernel_rfl, by kernel_rfl, trivial⟩⟩ ?_
  · have : ∀ x : Heap, x = h → Ylds E l (argsY (grp 9 (zz n))) x h' := fun x e => e ▸ y
    exact this _ (by kernel_rfl)
  rintro m tm g ⟨u, hu, hy, g', rfl⟩
  have big : iLt (.ofNat u) 128 = Nat.blt u 128 := rfl
  refine .br (!(iLt (.ofNat u) 128)) (by kernel_rfl) (fun e => ?_) (fun e => ?_)
  · rw [big, Bool.not_eq_true'] at e
    obtain ⟨k, rfl⟩ : ∃ k, m = k + 1 := by
      cases m with
      | zero =>
        rw [← Bool.not_eq_true, Nat.blt_eq] at e
        omega
      | succ k => exact ⟨k, rfl⟩
    have hg : grp (k + 1) u = UInt8.ofNat (u % 128 + 128) :: grp k (u / 128) := by
      conv => lhs; unfold grp
      rw [e]
    rw [hg] at hy
    cases hy with
    | cons y1 s =>
    rename_i h2
    refine .yld (args := [.d (.i .u8 (Abs.bits .or .u8 (wrap .u8 (.ofNat u)) 128))]) (by rw [byte_more]; exact y1) (by kernel_rfl) ?_
    refine .br false (by kernel_rfl) (fun e => by cases e) (fun _ => ?_)
    refine .opv (fun h => shr_op (h := h) (q := .bool) (j := .u64) (k := .u64) (x := .ofNat u) (m := 7) (r := .ofNat (u / 128)) rfl) (by kernel_rfl) ?_
    refine .next k (by kernel_rfl) (by omega) ⟨u / 128, ?_, ?_, .of (by kernel_rfl) ⟨by kernel_rfl, by kernel_rfl, trivial⟩⟩
    · rw [Nat.pow_succ] at hu
      exact Nat.div_lt_of_lt_mul (by rw [Nat.mul_comm]; exact hu)
    · have : ∀ x : Heap, x = h2 → Ylds E l (argsY (grp k (u / 128))) x h' := fun x e => e ▸ s
      exact this _ (by kernel_rfl)
  · rw [big, Bool.not_eq_false'] at e
    have hg : grp m u = [UInt8.ofNat u] := by
      cases m with
      | zero => rfl
      | succ k => unfold grp; rw [e]
    rw [hg] at hy
    cases hy with
    | cons y1 s =>
    cases s
    refine .out true 1 (by kernel_rfl) ?_
    refine .yld (args := [.d (.i .u8 (wrap .u8 (.ofNat u)))]) (by rw [byte_last]; exact y1) (by kernel_rfl) ?_
    exact .retR (by kernel_rfl) (by kernel_rfl)
end
end Go.Proofs.YtjacnbabnpgpaaaGreatDoor
