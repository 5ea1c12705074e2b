/- Contracts: the document's numbers and texts, as bytes. -/
import Derived.Test.YtjacnbabnpgpaaaGreatDoorAB
import Derived.Test.YtjacnbabnpgpaaaGreatDoorL
namespace Go.Proofs.YtjacnbabnpgpaaaGreatDoor
noncomputable section
open Go Go.Abs
set_option maxRecDepth 100000
theorem refPlainG {h : Heap} {n : Int} {r : Nat} (hp : 0 ≤ n → wrap .u64 (2 * wrap .u64 n) = .ofNat r) (hm : n < 0 → wrap .u64 (wrap .u64 (2 * wrap .u64 (wrap .i64 (0 - wrap .i64 (n + 1)))) + 1) = .ofNat r) : Cal E f_foremanref07_plain [.d (.i .i64 n)] h (.nrm, .d (.i .u64 (.ofNat r)), h) := by
  refine .w n_foremanref07_plain rfl (ds := [.i .i64 n]) (bor := false) rfl ?_
  refine .br (!(iLt n 0)) (by kernel_rfl) (fun e => ?_) (fun e => ?_)
  · rw [Bool.not_eq_true', iLt_not] at e
    exact .retI (wrap .u64 (2 * wrap .u64 n)) (by kernel_rfl) (hp e)
  · rw [Bool.not_eq_false', iLt_iff] at e
    exact .retI (wrap .u64 (wrap .u64 (2 * wrap .u64 (wrap .i64 (0 - wrap .i64 (n + 1)))) + 1)) (by kernel_rfl) (hm e)
theorem refPlain_ok {h : Heap} {n : Int} (h0 : -9223372036854775808 ≤ n) (h1 : n < 9223372036854775808) : Cal E f_foremanref07_plain [.d (.i .i64 n)] h (.nrm, .d (.i .u64 (.ofNat (zz n))), h) := by
  refine refPlainG (fun hn => ?_) (fun hn => ?_)
  · obtain ⟨a, rfl⟩ : ∃ a : Nat, n = .ofNat a := ⟨n.toNat, by simp only [Int.ofNat_eq_natCast]; omega⟩
    simp only [Int.ofNat_eq_natCast] at h1
    rw [wrap_u64 (by omega), show (2 : Int) * .ofNat a = .ofNat (2 * a) from rfl, wrap_u64 (by omega)]; rfl
  · obtain ⟨a, rfl⟩ : ∃ a : Nat, n = .negSucc a := ⟨(-n - 1).toNat, by omega⟩
    rw [wrap64 (n := Int.negSucc a + 1) (by omega) (by omega), show 0 - (Int.negSucc a + 1) = .ofNat a by simp only [Int.ofNat_eq_natCast]; omega]
    rw [wrap64 (by simp only [Int.ofNat_eq_natCast]; omega) (by simp only [Int.ofNat_eq_natCast]; omega), wrap_u64 (by omega), show (2 : Int) * .ofNat a = .ofNat (2 * a) from rfl, wrap_u64 (by omega), show Int.ofNat (2 * a) + 1 = .ofNat (2 * a + 1) from rfl, wrap_u64 (by omega)]; rfl
theorem rem_u64 {h : Heap} {q : EqK} {u : Nat} : s_bin h [] .rem q (.c (.d (.i .u64 (.ofNat u)))) (.c (.d (.i .u64 128))) = .val (.d (.i .u64 (.ofNat (u % 128)))) h := by
  show ov h (binA .rem q (.d (.i .u64 (.ofNat u))) (.d (.i .u64 128))) = _
  unfold binA
  simp only [intA, arith]
  show ov h (mkZ .u64 (Int.tmod (.ofNat u) 128)) = _
  rw [show Int.tmod (.ofNat u) 128 = .ofNat (u % 128) from rfl]; rfl
theorem quo_u64 {h : Heap} {q : EqK} {u : Nat} (hu : u < 18446744073709551616) : s_bin h [] .quo q (.c (.d (.i .u64 (.ofNat u)))) (.c (.d (.i .u64 128))) = .val (.d (.i .u64 (.ofNat (u / 128)))) h := by
  show ov h (binA .quo q (.d (.i .u64 (.ofNat u))) (.d (.i .u64 128))) = _
  unfold binA
  simp only [intA, arith]
  show ov h (mkZ .u64 (wrap .u64 (Int.tdiv (.ofNat u) 128))) = _
  rw [show Int.tdiv (.ofNat u) 128 = .ofNat (u / 128) from rfl, wrap_u64 (by omega)]; rfl
theorem byte_add (u : Nat) : DV.i .u8 (wrap .u8 (wrap .u8 (.ofNat (u % 128)) + 128)) = byteD (UInt8.ofNat (u % 128 + 128)) := by
  rw [wrap_u8, show Int.ofNat (u % 128 % 256) + 128 = .ofNat (u % 128 % 256 + 128) from rfl, wrap_u8]
  unfold byteD
  rw [UInt8.toNat_ofNat', show u % 128 % 256 + 128 = u % 128 + 128 by omega]; rfl
theorem one_more {g : Heap} {bs : List UInt8} {v : AV} {x : Int} {b : UInt8} (hf : FA t_uint8 bs.length (bytesD bs) v g) (hx : DV.i .u8 x = byteD b) (hl : bs.length + 1 ≤ 70000000000000) :
    ∃ v' g', s_app (g.push (.cells false t_uint8 [.d (.i .u8 x)])) [] t_uint8 1 1 false (.c v) (.c (.sref g.n 0 1 1 1 true)) = .val v' g' ∧ FA t_uint8 (bs ++ [b]).length (bytesD (bs ++ [b])) v' g' := by
  have hsrc : SrcR (g.push (.cells false t_uint8 [.d (.i .u8 x)])) 1 (.sref g.n 0 1 1 1 true) 1 [byteD b] := by
    unfold SrcR srcView slView; simp only [push_n]; rw [hx]; rfl
  have hfP : FA t_uint8 bs.length (bytesD bs) v (g.push (.cells false t_uint8 [.d (.i .u8 x)])) := hf.keep fun t g ht => (push_of ht _).trans ht.symm
  obtain ⟨v', h2, hs, hf2, _, _⟩ := app_fa (sz := 1) (bytes := 1) hfP (by rw [bytesD_length, Nat.mul_one]) hsrc (by omega) (by omega) (by intro e; cases e) rfl
  refine ⟨v', h2, hs, ?_⟩
  rw [bytesD_append, List.length_append]; exact hf2
theorem refNum_ok {h : Heap} {n : Int} (h0 : -9223372036854775808 ≤ n) (h1 : n < 9223372036854775808) : Cal E f_foremanref07_Num [.d (.i .i64 n)] h (.nrm, ownB h (numB n), ownH h) := by
  have hzz := zz_lt h0 h1
  refine .w n_foremanref07_Num rfl (ds := [.i .i64 n]) (bor := false) rfl ?_
  refine .callv (fun h => refPlain_ok (h := h) h0 h1) (by kernel_rfl) ?_
  refine .loop true (fun m tm g => ∃ u v bs, u < 128 ^ (m + 1) ∧ u < 18446744073709551616 ∧ bs.length + m = 9 ∧ bs ++ grp m u = numB n ∧ FA t_uint8 bs.length (bytesD bs) v g ∧ St 23 [(3, .d (.i .u64 (.ofNat u))), (4, v)] tm) 9 (by kernel_rfl)
    ⟨zz n, .nilsl, [], by omega, hzz, rfl, rfl, .inl ⟨rfl, rfl, .inr rfl⟩, .of (by kernel_rfl) ⟨by kernel_rfl, by kernel_rfl, trivial⟩⟩ ?_
  rintro m tm g ⟨u, v, bs, hu, hu2, hbl, hE, hf, g', rfl⟩
  have big : iLt (.ofNat u) 128 = Nat.blt u 128 := rfl
  refine .br (!(iLt (.ofNat u) 128)) (by kernel_rfl) (fun e => ?_) (fun e => ?_)
  · rw [big, Bool.not_eq_true'] at e
    obtain ⟨k, rfl⟩ : ∃ k, m = k + 1 := by
      cases m with
      | zero => rw [← Bool.not_eq_true, Nat.blt_eq] at e; omega
      | succ k => exact ⟨k, rfl⟩
    have hg : grp (k + 1) u = UInt8.ofNat (u % 128 + 128) :: grp k (u / 128) := by
      conv => lhs; unfold grp
      rw [e]
    refine .opv (fun h => rem_u64 (h := h) (q := .bool) (u := u)) (by kernel_rfl) ?_
    obtain ⟨v', g2, hs, hf2⟩ := one_more hf (byte_add u) (by omega)
    refine .op hs (by kernel_rfl) ?_
    refine .opv (fun h => quo_u64 (h := h) (q := .bool) (u := u) hu2) (by kernel_rfl) ?_
    refine .next k (by kernel_rfl) (by omega) ⟨u / 128, v', bs ++ [UInt8.ofNat (u % 128 + 128)], ?_, by omega, by rw [List.length_append]; show bs.length + 1 + k = 9; omega, by rw [List.append_assoc, List.singleton_append, ← hg]; exact hE, ?_, .of (by kernel_rfl) ⟨by kernel_rfl, by kernel_rfl, trivial⟩⟩
    · rw [Nat.pow_succ] at hu
      exact Nat.div_lt_of_lt_mul (by rw [Nat.mul_comm]; exact hu)
    · have : ∀ x : Heap, x = g2 → FA t_uint8 (bs ++ [UInt8.ofNat (u % 128 + 128)]).length (bytesD (bs ++ [UInt8.ofNat (u % 128 + 128)])) v' x := fun x e => e ▸ hf2
      exact this _ (by kernel_rfl)
  · rw [big, Bool.not_eq_false'] at e
    have hg : grp m u = [UInt8.ofNat u] := by
      cases m with
      | zero => rfl
      | succ k => unfold grp; rw [e]
    rw [hg] at hE
    refine .out true 1 (by kernel_rfl) ?_
    obtain ⟨v', g2, hs, hf2⟩ := one_more hf (byte_last u) (by omega)
    refine .op hs (by kernel_rfl) ?_
    rw [hE] at hf2
    obtain ⟨t, gg, rfl, ht⟩ := hf2.app (by have := (numB_len n).1; omega)
    exact .retF ht (cleanL_bytes _) (by kernel_rfl) (by kernel_rfl)
theorem refText_ok {h : Heap} {s : List UInt8} (hl : s.length ≤ 60000000000000) : Cal E f_foremanref07_Text [.d (.s s)] h (.nrm, ownB h (textB s), ownH h) := by
  have hnl := numB_len (.ofNat s.length)
  refine .w n_foremanref07_Text rfl (ds := [.s s]) (bor := false) rfl ?_
  refine .call (refNum_ok (h := .empty) (n := .ofNat s.length) (by simp only [Int.ofNat_eq_natCast]; omega) (by simp only [Int.ofNat_eq_natCast]; omega)) (by kernel_rfl) ?_
  refine .loop true (fun m tm g => ∃ i v, i + m = s.length ∧ FA t_uint8 (numB (.ofNat s.length) ++ s.take i).length (bytesD (numB (.ofNat s.length) ++ s.take i)) v g ∧ St 21 [(0, .d (.s s)), (3, v), (4, mkI i)] tm) s.length (by kernel_rfl)
    ⟨0, ownB .empty (numB (.ofNat s.length)), by omega, ?_, .of (by kernel_rfl) ⟨by kernel_rfl, by kernel_rfl, by kernel_rfl, trivial⟩⟩ ?_
  · rw [List.take_zero, List.append_nil]
    have : ∀ x : Heap, x = ownH .empty → FA t_uint8 (numB (.ofNat s.length)).length (bytesD (numB (.ofNat s.length))) (ownB .empty (numB (.ofNat s.length))) x := fun x e => e ▸ .inr ⟨_, _, rfl, push_n .empty _⟩
    exact this _ (by kernel_rfl)
  rintro m tm g ⟨i, v, him, hf, g', rfl⟩
  refine .br (iLt (.ofNat i) (.ofNat s.length)) (by kernel_rfl) (fun e => ?_) (fun e => ?_)
  · have hi : i < s.length := by rw [iLt_iff] at e; simpa using e
    obtain ⟨m, rfl⟩ : ∃ k, m = k + 1 := ⟨m - 1, by omega⟩
    refine .opv (ixS_get (k := .i64) (s := s) (j := i) (b := s[i]) rfl (List.getElem?_eq_getElem hi)) (by kernel_rfl) ?_
    obtain ⟨v', g2, hs, hf2⟩ := one_more (x := (s[i].toNat : Int)) hf (b := s[i]) rfl (by rw [List.length_append, List.length_take]; omega)
    rw [List.append_assoc, show s.take i ++ [s[i]] = s.take (i + 1) by rw [List.take_add_one, List.getElem?_eq_getElem hi]; rfl] at hf2
    refine .op hs (by kernel_rfl) ?_
    refine .next m (by kernel_rfl) (by omega) ⟨i + 1, v', by omega, ?_, .of (by kernel_rfl) ⟨by kernel_rfl, by kernel_rfl, ?_, trivial⟩⟩
    · have : ∀ x : Heap, x = g2 → FA t_uint8 (numB (.ofNat s.length) ++ s.take (i + 1)).length (bytesD (numB (.ofNat s.length) ++ s.take (i + 1))) v' x := fun x e => e ▸ hf2
      exact this _ (by kernel_rfl)
    · exact Eq.trans (b := .d (.i .i64 (wrap .i64 (.ofNat i + 1)))) (by kernel_rfl) (inc63 (by omega))
  · have : m = 0 := by rw [iLt_not] at e; simp only [Int.ofNat_eq_natCast] at e; omega
    subst this
    have hin : i = s.length := by omega
    subst hin
    rw [List.take_length] at hf
    refine .out true 1 (by kernel_rfl) ?_
    obtain ⟨t, gg, rfl, ht⟩ := hf.app (by rw [List.length_append]; omega)
    exact .retF ht (cleanL_bytes _) (by kernel_rfl) (by kernel_rfl)
end
end Go.Proofs.YtjacnbabnpgpaaaGreatDoor
