/- Contracts: the document's records: how long what they write is. -/
import Derived.Test.YtjacnbabnpgpaaaGreatDoorAL
namespace Go.Proofs.YtjacnbabnpgpaaaGreatDoor
noncomputable section
open Go Go.Abs
set_option maxRecDepth 100000
theorem rem256 {h : Heap} {q : EqK} {u : Nat} : s_bin h [] .rem q (.c (.d (.i .i64 (.ofNat u)))) (.c (.d (.i .i64 256))) = .val (.d (.i .i64 (.ofNat (u % 256)))) h := by
  show ov h (binA .rem q (.d (.i .i64 (.ofNat u))) (.d (.i .i64 256))) = _
  unfold binA
  simp only [intA, arith]
  show ov h (mkZ .i64 (Int.tmod (.ofNat u) 256)) = _
  rw [show Int.tmod (.ofNat u) 256 = .ofNat (u % 256) from rfl]; rfl
theorem quo256 {h : Heap} {q : EqK} {u : Nat} (hu : u < 9223372036854775808) : s_bin h [] .quo q (.c (.d (.i .i64 (.ofNat u)))) (.c (.d (.i .i64 256))) = .val (.d (.i .i64 (.ofNat (u / 256)))) h := by
  show ov h (binA .quo q (.d (.i .i64 (.ofNat u))) (.d (.i .i64 256))) = _
  unfold binA
  simp only [intA, arith]
  show ov h (mkZ .i64 (wrap .i64 (Int.tdiv (.ofNat u) 256))) = _
  rw [show Int.tdiv (.ofNat u) 256 = .ofNat (u / 256) from rfl, wrap64 (by simp only [Int.ofNat_eq_natCast]; omega) (by simp only [Int.ofNat_eq_natCast]; omega)]; rfl
def fourN : Nat → Nat → List UInt8
  | 0, _ => []
  | k + 1, a => UInt8.ofNat (a % 256) :: fourN k (a / 256)
theorem fourN_len : ∀ k a, (fourN k a).length = k
  | 0, _ => rfl
  | k + 1, a => congrArg (· + 1) (fourN_len k (a / 256))
theorem four3_ok {h : Heap} {a : Nat} (ha : a < 9223372036854775808) : Cal E f_foremanref03_Four [.d (.i .i64 (.ofNat a))] h (.nrm, ownB h (fourN 4 a), ownH h) := by
  refine .w n_foremanref03_Four rfl (ds := [.i .i64 (.ofNat a)]) (bor := false) rfl ?_
  refine .loop true (fun m tm g => ∃ i u v bs, i + m = 4 ∧ u < 9223372036854775808 ∧ bs.length + m = 4 ∧ bs ++ fourN m u = fourN 4 a ∧ FA t_uint8 bs.length (bytesD bs) v g ∧ St 18 [(0, mkI u), (3, v), (4, mkI i)] tm) 4 (by kernel_rfl)
    ⟨0, a, .nilsl, [], rfl, ha, rfl, rfl, .inl ⟨rfl, rfl, .inr rfl⟩, .of (by kernel_rfl) ⟨by kernel_rfl, by kernel_rfl, by kernel_rfl, trivial⟩⟩ ?_
  rintro m tm g ⟨i, u, v, bs, him, hu, hbl, hE, hf, g', rfl⟩
  refine .br (iLt (.ofNat i) 4) (by kernel_rfl) (fun e => ?_) (fun e => ?_)
  · have hi : i < 4 := by rw [iLt_iff] at e; simp only [Int.ofNat_eq_natCast] at e; omega
    obtain ⟨m, rfl⟩ : ∃ k, m = k + 1 := ⟨m - 1, by omega⟩
    refine .opv (fun h => rem256 (h := h) (q := .bool) (u := u)) (by kernel_rfl) ?_
    obtain ⟨v', g2, hs, hf2⟩ := one_more hf (byte_last (u % 256)) (by omega)
    refine .op hs (by kernel_rfl) ?_
    refine .opv (fun h => quo256 (h := h) (q := .bool) (u := u) hu) (by kernel_rfl) ?_
    refine .next m (by kernel_rfl) (by omega) ⟨i + 1, u / 256, v', bs ++ [UInt8.ofNat (u % 256)], by omega, by omega, by rw [List.length_append]; show bs.length + 1 + m = 4; omega, by rw [List.append_assoc, List.singleton_append]; exact hE, ?_, .of (by kernel_rfl) ⟨by kernel_rfl, by kernel_rfl, ?_, trivial⟩⟩
    · have : ∀ x : Heap, x = g2 → FA t_uint8 (bs ++ [UInt8.ofNat (u % 256)]).length (bytesD (bs ++ [UInt8.ofNat (u % 256)])) v' x := fun x e => e ▸ hf2
      exact this _ (by kernel_rfl)
    · exact Eq.trans (b := .d (.i .i64 (wrap .i64 (.ofNat i + 1)))) (by kernel_rfl) (inc63 (by omega))
  · have : m = 0 := by rw [iLt_not] at e; simp only [Int.ofNat_eq_natCast] at e; omega
    subst this
    have hE : bs = fourN 4 a := by rw [← hE]; exact (List.append_nil bs).symm
    subst hE
    refine .out true 1 (by kernel_rfl) ?_
    obtain ⟨t, gg, rfl, ht⟩ := hf.app (by rw [fourN_len]; omega)
    exact .retF ht (cleanL_bytes _) (by kernel_rfl) (by kernel_rfl)
theorem app_nil {h : Heap} {k : Nat} {l : List DV} {y : AV} (hs : SrcR h 1 y k l) (hk : k ≠ 0) (hl : k ≤ 70000000000000) (ho : okCells (l.map .d) = true) :
    s_app h [] t_uint8 1 1 false (.c .nilsl) (.c y) = .val (.app h.n 0 k l) (h.push (.tok 0 t_uint8)) := by
  have hc : (Nat.ble ((0 + k) * 1) 70368744177664 && Nat.ble (0 + k) 70368744177664 && okCells (l.map .d)) = true := by
    simp only [Bool.and_eq_true, Nat.ble_eq]; exact ⟨⟨by omega, by omega⟩, ho⟩
  obtain ⟨k, rfl⟩ : ∃ j, k = j + 1 := ⟨k - 1, by omega⟩
  unfold s_app
  simp only [X.ev]
  rw [hs]
  simp only [lenOf, hc, appA, frzL_d, oh]
theorem refPut_ok {h : Heap} {args : List AV} {bor b : Bool} {bs : List UInt8} {k : Nat} (hk : k = 1 ∨ k = 2) (h0 : bs.length ≠ 0) (hlen : bs.length ≤ 4096) (ha : stripArgs h args = some ([.agg [.i .u8 (.ofNat k), .sl b bs.length (bytesD bs)]], bor)) :
    ∃ out : List UInt8, out.length = 9 + bs.length ∧ Cal E f_foremanref03_Put args h (.nrm, .tup [ownB h out, .d (.i .i64 0)], ownH h) := by
  let B : List UInt8 := [UInt8.ofNat k] ++ fourN 4 bs.length ++ bs
  have hB : B.length = 1 + 4 + bs.length := by show (_ ++ _ ++ _ : List UInt8).length = _; rw [List.length_append, List.length_append, fourN_len]; rfl
  let H1 : Heap := (Heap.empty.push (.cells false t_Rec [.d (.i .u8 (.ofNat k)), .d (.sl b bs.length (bytesD bs))])).push (.cells false t_uint8 [.d (.i .u8 (.ofNat k))])
  let H3 : Heap := ownH (H1.push (.tok 0 t_uint8))
  let H4 : Heap := (H3.set 2 (.tok 1 t_uint8)).set 2 (.tok 2 t_uint8)
  obtain ⟨x, ⟨c, hc, rfl⟩, hs⟩ := refSum_ok (h := H4) (args := [.app 2 2 (1 + 4 + bs.length) (bytesD B)]) (bor := false) (b := false) (bs := B) (by omega) (by rw [hB]; rfl)
  refine ⟨fourN 4 c ++ B, by rw [List.length_append, fourN_len, hB]; omega, ?_⟩
  have hkb : DV.i .u8 (.ofNat k) = byteD (UInt8.ofNat k) := by rcases hk with rfl | rfl <;> rfl
  have hsrc : SrcR H1 1 (.sref 1 0 1 1 1 true) 1 (bytesD [UInt8.ofNat k]) := by
    show srcView H1 1 _ = some (1, [.d (byteD (UInt8.ofNat k))])
    rw [← hkb]; rfl
  have e1 := app_nil hsrc (by omega) (by omega) (okCells_bytes _)
  have e2 := app_tok (h := H3) (t := 2) (g := 0) (n := 1) (k := 4) (cs := bytesD [UInt8.ofNat k]) (l := bytesD (fourN 4 bs.length)) (y := .app 3 0 4 (bytesD (fourN 4 bs.length))) rfl (by have := rowView_bytes (fourN 4 bs.length); rw [fourN_len] at this; exact this) (by omega) (by omega) (okCells_bytes _)
  have e3 := app_tok (h := H3.set 2 (.tok 1 t_uint8)) (t := 2) (g := 1) (n := 1 + 4) (k := bs.length) (cs := bytesD [UInt8.ofNat k] ++ bytesD (fourN 4 bs.length)) (l := bytesD bs) (y := .d (.sl b bs.length (bytesD bs))) rfl (rowView_bytes bs) h0 (by omega) (okCells_bytes _)
  have e4 := app_tok (h := ownH H4) (t := 4) (g := 0) (n := 4) (k := 1 + 4 + bs.length) (cs := bytesD (fourN 4 c)) (l := bytesD B) (y := .app 2 2 (1 + 4 + bs.length) (bytesD B)) rfl (by have := rowView_bytes B; rw [hB] at this; exact this) (by omega) (by omega) (okCells_bytes _)
  have hcat : bytesD [UInt8.ofNat k] ++ bytesD (fourN 4 bs.length) ++ bytesD bs = bytesD B := by rw [← bytesD_append, ← bytesD_append]
  rw [hcat] at e3
  have f1 := four3_ok (h := H1.push (.tok 0 t_uint8)) (a := bs.length) (by omega)
  have f2 := four3_ok (h := H4) (a := c) (by omega)
  rw [show ownB (H1.push (.tok 0 t_uint8)) (fourN 4 bs.length) = .app 3 0 4 (bytesD (fourN 4 bs.length)) by unfold ownB; rw [fourN_len]; rfl] at f1
  rw [show ownB H4 (fourN 4 c) = .app 4 0 4 (bytesD (fourN 4 c)) by unfold ownB; rw [fourN_len]; rfl, ← show wrap .i64 (.ofNat c) = .ofNat c from wrap64 (by simp only [Int.ofNat_eq_natCast]; omega) (by simp only [Int.ofNat_eq_natCast]; omega)] at f2
  have hO : (4 + (1 + 4 + bs.length)) = (fourN 4 c ++ B).length := by rw [List.length_append, fourN_len, hB]
  rcases hk with rfl | rfl
  · refine .w n_foremanref03_Put rfl ha ?_
    refine .br false (by kernel_rfl) (fun e => by cases e) (fun _ => ?_)
    refine .br false (by kernel_rfl) (fun e => by cases e) (fun _ => ?_)
    refine .br (iLt 4096 (.ofNat bs.length)) (by kernel_rfl) (fun e => ?_) (fun _ => ?_)
    · rw [iLt_iff] at e; simp only [Int.ofNat_eq_natCast] at e; omega
    refine .op e1 (by kernel_rfl) ?_
    refine .call f1 (by kernel_rfl) ?_
    refine .op e2 (by kernel_rfl) ?_
    refine .op e3 (by kernel_rfl) ?_
    refine .call hs (by kernel_rfl) ?_
    refine .call f2 (by kernel_rfl) ?_
    refine .op e4 (by kernel_rfl) ?_
    unfold ownB
    rw [← hO, bytesD_append]
    exact .retFT (t := 4) (g := 1) (h1 := (ownH H4).set 4 (.tok 1 t_uint8)) rfl (by rw [← bytesD_append]; exact cleanL_bytes _) rfl (by kernel_rfl) (by kernel_rfl)
  · refine .w n_foremanref03_Put rfl ha ?_
    refine .br false (by kernel_rfl) (fun e => by cases e) (fun _ => ?_)
    refine .br false (by kernel_rfl) (fun e => by cases e) (fun _ => ?_)
    refine .br (iLt 4096 (.ofNat bs.length)) (by kernel_rfl) (fun e => ?_) (fun _ => ?_)
    · rw [iLt_iff] at e; simp only [Int.ofNat_eq_natCast] at e; omega
    refine .op e1 (by kernel_rfl) ?_
    refine .call f1 (by kernel_rfl) ?_
    refine .op e2 (by kernel_rfl) ?_
    refine .op e3 (by kernel_rfl) ?_
    refine .call hs (by kernel_rfl) ?_
    refine .call f2 (by kernel_rfl) ?_
    refine .op e4 (by kernel_rfl) ?_
    unfold ownB
    rw [← hO, bytesD_append]
    exact .retFT (t := 4) (g := 1) (h1 := (ownH H4).set 4 (.tok 1 t_uint8)) rfl (by rw [← bytesD_append]; exact cleanL_bytes _) rfl (by kernel_rfl) (by kernel_rfl)
end
end Go.Proofs.YtjacnbabnpgpaaaGreatDoor
