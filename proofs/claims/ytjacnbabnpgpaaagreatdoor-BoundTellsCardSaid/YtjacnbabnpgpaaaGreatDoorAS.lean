/- Contracts: BoundTells. -/
import Derived.Test.YtjacnbabnpgpaaaGreatDoorAR
namespace Go.Proofs.YtjacnbabnpgpaaaGreatDoor
noncomputable section
open Go Go.Abs
set_option maxRecDepth 100000
theorem awake_ok {h : Heap} : Cal E f_foremanlaw29_awake [] h (.nrm, .d (.b true), h) := ⟨100000, by kernel_rfl⟩
section
variable {c1 c2 c3 c4 c5 nf : Int} {nb : Bool} {nn : Nat} {ncs : List DV} {tk : Int}
variable {w tok k n q : Int} {id vs : List UInt8} {vb : Bool} {vl : List ValS} {vcs : List DV} {fb : Bool} {l : List ItemS} {fcs : List DV}
theorem few10X {h : Heap} (hv : ValR (.mk k n vs vl) [.i .u8 k, .i .i64 n, .s vs, .sl vb vl.length vcs]) (hlv : lenV (.mk k n vs vl)) (hF1 : fcs.length = l.length * 6) (hF2 : ∀ i (hi : i < l.length), ItemR l[i] (chunk fcs 6 i)) (hF3 : l.length ≤ 9223372036854775807) (hla : ∀ x ∈ l, x.after.length ≤ 9223372036854775807) :
    ∃ x, (∃ b, x = .b b ∧ (b = true → partsV (.mk k n vs vl) ≤ 600 ∧ id.length ≤ 500)) ∧ Cal E f_foremanlaw10_Few [.agg (aO w tok k n q id vs vb vl vcs fb l fcs)] h (.nrm, .d x, h) := by
  have h8 : ∀ h, Cal E f_foremanlaw08_Few [.agg (vA k n vs vb vl.length vcs)] h (.nrm, .d (.b (!(iLt 600 (fewV (.mk k n vs vl) 20)))), h) := fun h => Few8X (h := h) hv hlv
  obtain ⟨x9, ⟨b9, rfl⟩, h9⟩ := Few9_ok (h := Heap.empty.push (.cells false t_Op (aO w tok k n q id vs vb vl vcs fb l fcs))) (args := [.d (.sl fb l.length fcs)]) (bor := false) hF1 hF2 hF3 hla rfl
  refine Cal.wx n_foremanlaw10_Few rfl (ds := [.agg (dO w tok k n q id vs vb vl vcs fb l fcs)]) (bor := false) rfl ?_
  refine .callv h8 (by kernel_rfl) ?_
  refine .br (!(iLt 600 (fewV (.mk k n vs vl) 20))) (by kernel_rfl) (fun e8 => ?_) (fun _ => ?_)
  rotate_left
  · exact .retD (.b false) rfl (by kernel_rfl) ⟨_, rfl, fun e => by cases e⟩
  refine .call h9 (by kernel_rfl) ?_
  refine .br b9 (by kernel_rfl) (fun _ => ?_) (fun _ => ?_)
  rotate_left
  · exact .retD (.b false) rfl (by kernel_rfl) ⟨_, rfl, fun e => by cases e⟩
  refine .retD (.b (!(iLt 500 (.ofNat id.length)))) rfl (by kernel_rfl) ⟨_, rfl, fun e => ⟨few_parts e8, ?_⟩⟩
  rw [Bool.not_eq_true', iLt_not] at e
  simp only [Int.ofNat_eq_natCast] at e; omega
theorem long_both (ho : OpR (oO w tok k n q id vs vl l) (dO w tok k n q id vs vb vl vcs fb l fcs)) (hv : ValR (.mk k n vs vl) [.i .u8 k, .i .i64 n, .s vs, .sl vb vl.length vcs]) (hp : partsV (.mk k n vs vl) ≤ 600) (hid : id.length ≤ 500) (htk : R64 tok) (hq : R64 q) (hF1 : fcs.length = l.length * 6) (hF2 : ∀ i (hi : i < l.length), ItemR l[i] (chunk fcs 6 i)) (hF3 : l.length ≤ 9223372036854775807) (hF4 : ∀ x ∈ l, lenI x) :
    ∃ L e : Int, ((e = 0 ∧ 0 < L) ∨ (e = 2 ∧ L = 0)) ∧ (∀ h, Cal E f_bound_Long [.agg (aO w tok k n q id vs vb vl vcs fb l fcs)] h (.nrm, .tup [.d (.i .i64 L), .d (.i .i64 e)], h)) ∧ ∀ h, Cal E f_foremanref29_Long [.agg (aO w tok k n q id vs vb vl vcs fb l fcs)] h (.nrm, .d (.i .i64 L), h) := by
  cases hr : rightO (oO w tok k n q id vs vl l) with
  | false => exact ⟨0, 2, .inr ⟨rfl, rfl⟩, fun h => (boundLong_ok (h := h) (args := [.agg (aO w tok k n q id vs vb vl vcs fb l fcs)]) (bor := false) ho rfl).1 hr, fun h => refLong0 hr hv (by omega) (by omega) hF1 hF2 hF3 hF4⟩
  | true => exact ⟨.ofNat (longO (oO w tok k n q id vs vl l)), 0, .inl ⟨rfl, by unfold longO; simp only [Int.ofNat_eq_natCast]; omega⟩, fun h => (boundLong_ok (h := h) (args := [.agg (aO w tok k n q id vs vb vl vcs fb l fcs)]) (bor := false) ho rfl).2 hr, fun h => refLong1 hr hv (by omega) (by omega) htk hq hF1 hF2 hF3 hF4⟩
theorem tells {fl at' : Int} (hN : NodesR nn ncs) (ho : OpR (oO w tok k n q id vs vl l) (dO w tok k n q id vs vb vl vcs fb l fcs)) (hv : ValR (.mk k n vs vl) [.i .u8 k, .i .i64 n, .s vs, .sl vb vl.length vcs]) (hlv : lenV (.mk k n vs vl)) (htk : R64 tok) (hq : R64 q) (hF1 : fcs.length = l.length * 6) (hF2 : ∀ i (hi : i < l.length), ItemR l[i] (chunk fcs 6 i)) (hF3 : l.length ≤ 9223372036854775807) (hF4 : ∀ x ∈ l, lenI x) :
    Cal E f_foremanlaw29_BoundTells [.d (.agg (sD c1 c2 c3 c4 c5 nf nb nn ncs tk)), .d (.i .i64 fl), .d (.i .i64 at'), .d (.agg (dO w tok k n q id vs vb vl vcs fb l fcs))] .empty (.nrm, .d (.b true), .empty) := by
  obtain ⟨x11, ⟨b11, rfl, hb11⟩, hc11⟩ := few11_ok (c1 := c1) (c2 := c2) (c3 := c3) (c4 := c4) (c5 := c5) (nf := nf) (nb := nb) (tk := tk) (h := (Heap.empty.push (.cells false t_State (sA c1 c2 c3 c4 c5 nf nb nn ncs tk))).push (.cells false t_Op (aO w tok k n q id vs vb vl vcs fb l fcs))) hN
  obtain ⟨x10, ⟨b10, rfl, hb10⟩, hc10⟩ := few10X (w := w) (tok := tok) (q := q) (id := id) (vb := vb) (fb := fb) (h := (Heap.empty.push (.cells false t_State (sA c1 c2 c3 c4 c5 nf nb nn ncs tk))).push (.cells false t_Op (aO w tok k n q id vs vb vl vcs fb l fcs))) hv hlv hF1 hF2 hF3 (fun x hx => (hF4 x hx).2.2.1)
  refine .w n_foremanlaw29_BoundTells rfl (ds := [.agg (sD c1 c2 c3 c4 c5 nf nb nn ncs tk), .i .i64 fl, .i .i64 at', .agg (dO w tok k n q id vs vb vl vcs fb l fcs)]) (bor := false) rfl ?_
  refine .call hc11 (by kernel_rfl) ?_
  refine .br (!b11) (by kernel_rfl) (fun _ => .callv (fun h => awake_ok (h := h)) (by kernel_rfl) (.ret rfl (by kernel_rfl))) (fun e11 => ?_)
  rw [Bool.not_eq_false'] at e11
  have hNF := hb11 e11
  refine .call hc10 (by kernel_rfl) ?_
  refine .br (!b10) (by kernel_rfl) (fun _ => .callv (fun h => awake_ok (h := h)) (by kernel_rfl) (.ret rfl (by kernel_rfl))) (fun e10 => ?_)
  rw [Bool.not_eq_false'] at e10
  obtain ⟨hp, hid⟩ := hb10 e10
  obtain ⟨L, e, hLe, hl1, hl2⟩ := long_both ho hv hp hid htk hq hF1 hF2 hF3 hF4
  refine .callv hl1 (by kernel_rfl) ?_
  refine .callv hl2 (by kernel_rfl) ?_
  refine .br (!(iEq L L)) (by kernel_rfl) (fun e1 => ?_) (fun _ => ?_)
  · rw [Bool.not_eq_true', iEq_not] at e1; exact absurd rfl e1
  refine .br (!(iEq e 0 == iLt 0 L)) (by kernel_rfl) (fun e1 => ?_) (fun _ => ?_)
  · exfalso
    rcases hLe with ⟨rfl, hL⟩ | ⟨rfl, rfl⟩
    · rw [show iLt 0 L = true from iLt_iff.2 hL, show iEq 0 0 = true from rfl] at e1; cases e1
    · cases e1
  refine .br (!(iEq e 0)) (by kernel_rfl) (fun e1 => ?A) (fun _ => ?B)
  case' A =>
    refine .br (!(iEq e 2)) (by kernel_rfl) (fun e2 => ?A1) (fun _ => ?A2)
    case A1 =>
      exfalso
      rw [Bool.not_eq_true', iEq_not] at e1 e2
      rcases hLe with ⟨rfl, hL⟩ | ⟨rfl, rfl⟩
      · exact e1 rfl
      · exact e2 rfl
  all_goals
    obtain ⟨xR, ⟨bR, rfl⟩, hcR⟩ := refState_ok (c1 := c1) (c2 := c2) (c3 := c3) (c4 := c4) (c5 := c5) (nf := nf) (nb := nb) (tk := tk) (h := (Heap.empty.push (.cells false t_State (sA c1 c2 c3 c4 c5 nf nb nn ncs tk))).push (.cells false t_Op (aO w tok k n q id vs vb vl vcs fb l fcs))) hN.l hN.n hNF
    refine .call hcR (by kernel_rfl) ?_
    refine .br (!bR) (by kernel_rfl) (fun _ => .callv (fun h => awake_ok (h := h)) (by kernel_rfl) (.ret rfl (by kernel_rfl))) (fun _ => ?_)
    refine .callv (fun h => refLeft_ok (h := h) (c1 := c1) (c2 := c2) (c3 := c3) (c4 := c4) (c5 := c5) (nf := nf) (nb := nb) (tk := tk) hN) (by kernel_rfl) ?_
    refine .callv (fun h => left_ok (h := h) (c1 := c1) (c2 := c2) (c3 := c3) (c4 := c4) (c5 := c5) (nf := nf) (nb := nb) (tk := tk) hN) (by kernel_rfl) ?_
    refine .br (!(iEq (sumC ncs c4 (fun _ => true) nn) (sumC ncs c4 (fun _ => true) nn))) (by kernel_rfl) (fun e1 => ?_) (fun _ => ?_)
    · rw [Bool.not_eq_true', iEq_not] at e1; exact absurd rfl e1
    refine .callv (fun h => flow_ok (h := h) (c1 := c1) (c2 := c2) (c3 := c3) (c4 := c4) (c5 := c5) (nf := nf) (nb := nb) (tk := tk) (f := fl) hN) (by kernel_rfl) ?_
    refine .callv (fun h => refFlow_ok (h := h) (c1 := c1) (c2 := c2) (c3 := c3) (c4 := c4) (c5 := c5) (nf := nf) (nb := nb) (tk := tk) (fl := fl) hN) (by kernel_rfl) ?_
    refine .br (!(iEq (sumC ncs c4 (fun c => iEq (flowC c) fl) nn) (sumC ncs c4 (fun c => iEq (flowC c) fl) nn))) (by kernel_rfl) (fun e1 => ?_) (fun _ => ?_)
    · rw [Bool.not_eq_true', iEq_not] at e1; exact absurd rfl e1
    refine .callv (fun h => room_ok (h := h) (c1 := c1) (c2 := c2) (c3 := c3) (c4 := c4) (c5 := c5) (nf := nf) (nb := nb) (tk := tk) hN) (by kernel_rfl) ?_
    refine .br (!(iEq (wrap .i64 (sumC ncs c4 (fun _ => true) nn * 39804)) (wrap .i64 (39804 * sumC ncs c4 (fun _ => true) nn)))) (by kernel_rfl) (fun e1 => ?_) (fun _ => ?_)
    · rw [Bool.not_eq_true', iEq_not, Int.mul_comm] at e1; exact absurd rfl e1
    refine .callv (fun h => most_cfg (h := h) (c1 := c1) (c2 := c2) (c3 := c3) (c4 := c4) (c5 := c5)) (by kernel_rfl) ?_
    refine .br (!(iEq (wrap .i64 (wrap .i64 (wrap .i64 (2 * wrap .i64 (c4 + 1)) * c1) * c5)) (wrap .i64 (wrap .i64 (wrap .i64 (2 * wrap .i64 (c4 + 1)) * c1) * c5)))) (by kernel_rfl) (fun e1 => ?_) (fun _ => ?_)
    · rw [Bool.not_eq_true', iEq_not] at e1; exact absurd rfl e1
    refine .br (iLt at' 0) (by kernel_rfl) (fun _ => .callv (fun h => awake_ok (h := h)) (by kernel_rfl) (.ret rfl (by kernel_rfl))) (fun ea => ?_)
    refine .br (!(iLt at' (.ofNat nn))) (by kernel_rfl) (fun _ => .callv (fun h => awake_ok (h := h)) (by kernel_rfl) (.ret rfl (by kernel_rfl))) (fun eb => ?_)
    rw [iLt_not] at ea
    rw [Bool.not_eq_false', iLt_iff] at eb
    obtain ⟨j, rfl⟩ : ∃ j : Nat, at' = .ofNat j := ⟨at'.toNat, by simp only [Int.ofNat_eq_natCast]; omega⟩
    have hj : j < nn := by simp only [Int.ofNat_eq_natCast] at eb; omega
    have hld := load_bx E (b := nb) hN.l hj
    obtain ⟨id1, name, kind, flow, owner, at1, ab, am, acs, width, quota, stand, fails, token, vk, vn, vs1, vb1, vm1, vcs1, hlit, hk8, hs8, _⟩ := hN.c j hj
    rw [hlit] at hld
    refine .opv (iaS_sl (k := .i64) (z := 16) (b := nb) (n := nn) (cs := ncs) (j := j) rfl hj) (by kernel_rfl) ?_
    refine .opv hld (by kernel_rfl) ?_
    refine .callv (fun h => boundWork_ok (h := h) (r := c4) (id := id1) (name := name) (kind := kind) (flow := flow) (owner := owner) (at' := at1) (ab := ab) (am := am) (acs := acs) (width := width) (quota := quota) (stand := stand) (fails := fails) (token := token) (vk := vk) (vn := vn) (vs := vs1) (vb := vb1) (vm := vm1) (vcs := vcs1) hs8) (by kernel_rfl) ?_
    refine .callv (fun h => refWork_ok (h := h) (r := c4) (id := id1) (name := name) (kind := kind) (flow := flow) (owner := owner) (at' := at1) (ab := ab) (am := am) (acs := acs) (width := width) (quota := quota) (stand := stand) (fails := fails) (token := token) (vk := vk) (vn := vn) (vs := vs1) (vb := vb1) (vm := vm1) (vcs := vcs1) hs8) (by kernel_rfl) ?_
    refine .br (iEq (workW kind stand c4 width quota fails) (workW kind stand c4 width quota fails)) (by kernel_rfl) (fun _ => ?_) (fun e1 => ?_)
    · refine .callv (fun h => awake_ok (h := h)) (by kernel_rfl) ?_
      exact .ret rfl (by kernel_rfl)
    · rw [iEq_not] at e1; exact absurd rfl e1
end
structure InX (o : OpS) (cs : List DV) : Prop where
  r : OpR o cs
  v : lenV o.val
  f : o.frag.length ≤ 9223372036854775807
  i : ∀ x ∈ o.frag, lenI x
theorem law_ok {c1 c2 c3 c4 c5 nf : Int} {nb : Bool} {nn : Nat} {ncs : List DV} {tk fl at' : Int} {o : OpS} {cs : List DV} (hN : NodesR nn ncs) (ho : InX o cs) : Cal E f_foremanlaw29_BoundTells [.d (.agg (sD c1 c2 c3 c4 c5 nf nb nn ncs tk)), .d (.i .i64 fl), .d (.i .i64 at'), .d (.agg cs)] .empty (.nrm, .d (.b true), .empty) := by
  obtain ⟨w, id, tok, v, l, q⟩ := o
  have hor := ho.r
  obtain ⟨vcs, F, rfl, hv, ⟨hF, hne⟩, _, htk, hq⟩ := hor
  cases hv with
  | sl k n vs vl vb vcs hl2 hcs hkn =>
  rcases hF with ⟨rfl, _⟩ | ⟨fb, fcs, rfl, hF1, hF2⟩
  · exact absurd rfl hne
  exact tells hN ho.r (.sl k n vs vl vb vcs hl2 hcs hkn) ho.v htk hq hF1 hF2 ho.f ho.i
end
end Go.Proofs.YtjacnbabnpgpaaaGreatDoor
