/- Contracts: whether a state is light, and then of a right form by the document: some bool. -/
import Derived.Test.YtjacnbabnpgpaaaGreatDoorAP
import Derived.Test.YtjacnbabnpgpaaaGreatDoorAC
namespace Go.Proofs.YtjacnbabnpgpaaaGreatDoor
noncomputable section
open Go Go.Abs
set_option maxRecDepth 100000
def NodeF (cs : List DV) : Prop := ∃ (id name : List UInt8) (kind flow owner at' : Int) (ab : Bool) (am : Nat) (acs : List DV) (width quota stand fails token vk vn : Int) (vs : List UInt8) (vb : Bool) (vm : Nat) (vcs : List DV), cs = nD id name kind flow owner at' ab am acs width quota stand fails token vk vn vs vb vm vcs ∧ id.length ≤ 500 ∧ name.length ≤ 100 ∧
  acs.length = am ∧ am ≤ 9223372036854775807 ∧ (∀ c ∈ acs, ∃ i, c = .i .i64 i) ∧ ∃ v, ValR v [.i .u8 vk, .i .i64 vn, .s vs, .sl vb vm vcs] ∧ partsV v ≤ 600
section
variable {c1 c2 c3 c4 c5 nf : Int} {nb : Bool} {nn : Nat} {ncs : List DV} {tk : Int}
theorem few11_ok {h : Heap} (hN : NodesR nn ncs) : ∃ x, (∃ b, x = .b b ∧ (b = true → ∀ i, i < nn → NodeF (chunk ncs 16 i))) ∧ Cal E f_foremanlaw11_Few [.agg (sA c1 c2 c3 c4 c5 nf nb nn ncs tk)] h (.nrm, .d x, h) := by
  have hnn := hN.n
  refine Cal.wx n_foremanlaw11_Few rfl (ds := [.agg (sD c1 c2 c3 c4 c5 nf nb nn ncs tk)]) (bor := false) rfl ?_
  refine .br (iLt 60 (.ofNat nn)) (by kernel_rfl) (fun _ => ?_) (fun _ => ?_)
  · exact .retD (.b false) rfl (by kernel_rfl) ⟨_, rfl, fun e => by cases e⟩
  refine .loop true (fun m tm _ => ∃ i, i + m = nn ∧ (∀ j, j < i → NodeF (chunk ncs 16 j)) ∧ St 39 [(10, .d (.sl nb nn ncs)), (11, mkI nn), (12, mkI i)] tm) nn (by kernel_rfl)
    ⟨0, by omega, (fun j hj => by omega), .of (by kernel_rfl) ⟨by kernel_rfl, by kernel_rfl, by kernel_rfl, trivial⟩⟩ ?_
  rintro m tm g ⟨i, him, hall, g', rfl⟩
  refine .br (iLt (.ofNat i) (.ofNat nn)) (by kernel_rfl) (fun e => ?_) (fun e => ?_)
  · have hi : i < nn := by rw [iLt_iff] at e; simpa using e
    obtain ⟨m, rfl⟩ : ∃ k, m = k + 1 := ⟨m - 1, by omega⟩
    have hld := load_bx E (b := nb) hN.l hi
    obtain ⟨id, name, kind, flow, owner, at', ab, am, acs, width, quota, stand, fails, token, vk, vn, vs, vb, vm, vcs, hlit, hk8, hs8, ha1, ha2, ha3, v, hv, hlv⟩ := hN.c i hi
    rw [hlit] at hld
    have hf8 : ∀ h, Cal E f_foremanlaw08_Few [.agg [.d (.i .u8 vk), .d (.i .i64 vn), .d (.s vs), .d (.sl vb vm vcs)]] h (.nrm, .d (.b (!(iLt 600 (fewV v 20)))), h) := fun h => Few8X (h := h) hv hlv
    refine .opv (iaS_sl (k := .i64) (z := 16) (b := nb) (n := nn) (cs := ncs) (j := i) rfl hi) (by kernel_rfl) ?_
    refine .opv hld (by kernel_rfl) ?_
    have g1 := push_n g (.cells false t_Node [.d (.s []), .d (.s []), .d (.i .u8 0), .d (.i .i64 0), .d (.i .i64 0), .d (.i .i64 0), .nilsl, .d (.i .i64 0), .d (.i .i64 0), .d (.i .u8 0), .d (.i .i64 0), .d (.i .i64 0), .d (.i .u8 0), .d (.i .i64 0), .d (.s []), .nilsl])
    refine .op (store_ptr (n := 16) (off := 0) (x := .agg (nA id name kind flow owner at' ab am acs width quota stand fails token vk vn vs vb vm vcs)) g1 rfl) (by kernel_rfl) ?_
    have g2 := Heap.get_set_self (b' := .cells false t_Node (nA id name kind flow owner at' ab am acs width quota stand fails token vk vn vs vb vm vcs)) g1
    refine .op (load_ptr E (ag := false) (n := 1) (off := 0) g2 rfl rfl) (by kernel_rfl) ?_
    refine .br (iLt 500 (.ofNat id.length)) (by kernel_rfl) (fun _ => ?_) (fun e1 => ?_)
    · exact .out true 0 (by kernel_rfl) (.retD (.b false) rfl (by kernel_rfl) ⟨_, rfl, fun e => by cases e⟩)
    refine .op (load_ptr E (ag := false) (n := 1) (off := 1) g2 rfl rfl) (by kernel_rfl) ?_
    refine .br (iLt 100 (.ofNat name.length)) (by kernel_rfl) (fun _ => ?_) (fun e2 => ?_)
    · exact .out true 0 (by kernel_rfl) (.retD (.b false) rfl (by kernel_rfl) ⟨_, rfl, fun e => by cases e⟩)
    refine .op (load_ptr E (ag := false) (n := 1) (off := 6) g2 rfl rfl) (by kernel_rfl) ?_
    refine .br (iLt 40 (.ofNat am)) (by kernel_rfl) (fun _ => ?_) (fun e3 => ?_)
    · exact .out true 0 (by kernel_rfl) (.retD (.b false) rfl (by kernel_rfl) ⟨_, rfl, fun e => by cases e⟩)
    refine .op (load_ptr E (ag := true) (n := 4) (off := 12) g2 rfl rfl) (by kernel_rfl) ?_
    refine .callv hf8 (by kernel_rfl) ?_
    refine .br (!(!(iLt 600 (fewV v 20)))) (by kernel_rfl) (fun _ => ?_) (fun e4 => ?_)
    · exact .out true 0 (by kernel_rfl) (.retD (.b false) rfl (by kernel_rfl) ⟨_, rfl, fun e => by cases e⟩)
    rw [Bool.not_eq_false'] at e4
    rw [iLt_not] at e1 e2
    simp only [Int.ofNat_eq_natCast] at e1 e2
    refine .next m (by kernel_rfl) (by omega) ⟨i + 1, by omega, ?_, .of (by kernel_rfl) ⟨by kernel_rfl, by kernel_rfl, ?_, trivial⟩⟩
    · intro j hj
      rcases Nat.lt_or_ge j i with hj2 | hj2
      · exact hall j hj2
      · have : j = i := by omega
        subst this
        exact ⟨id, name, kind, flow, owner, at', ab, am, acs, width, quota, stand, fails, token, vk, vn, vs, vb, vm, vcs, hlit, by omega, by omega, ha1, ha2, ha3, v, hv, few_parts e4⟩
    · exact Eq.trans (b := .d (.i .i64 (wrap .i64 (.ofNat i + 1)))) (by kernel_rfl) (inc63 (by omega))
  · have : m = 0 := by rw [iLt_not] at e; simp only [Int.ofNat_eq_natCast] at e; omega
    subst this
    have hin : i = nn := by omega
    subst hin
    exact .out true 1 (by kernel_rfl) (.retD (.b true) rfl (by kernel_rfl) ⟨_, rfl, fun _ => hall⟩)
end
def inB (a lo hi : Int) : Bool := match iLt a lo with
  | true => false
  | false => !(iLt hi a)
theorem refIn_ok {h : Heap} {a lo hi : Int} : Cal E f_foremanref11_in [.d (.i .i64 a), .d (.i .i64 lo), .d (.i .i64 hi)] h (.nrm, .d (.b (inB a lo hi)), h) := by
  refine .w n_foremanref11_in rfl (ds := [.i .i64 a, .i .i64 lo, .i .i64 hi]) (bor := false) rfl ?_
  refine .br (!(iLt a lo)) (by kernel_rfl) (fun e => ?_) (fun e => ?_)
  · rw [Bool.not_eq_true'] at e
    exact .retB (!(iLt hi a)) (by kernel_rfl) (by unfold inB; rw [e])
  · rw [Bool.not_eq_false'] at e
    exact .retB false (by kernel_rfl) (by unfold inB; rw [e])
end
end Go.Proofs.YtjacnbabnpgpaaaGreatDoor
