/- Contracts: whether a node, a state is of a right form by the document: some bool. -/
import Derived.Test.YtjacnbabnpgpaaaGreatDoorAQ
namespace Go.Proofs.YtjacnbabnpgpaaaGreatDoor
noncomputable section
open Go Go.Abs
set_option maxRecDepth 100000
theorem refNode_ok {h : Heap} {cs : List DV} (hN : NodeF cs) : ∃ x, (∃ b, x = .b b) ∧ Cal E f_foremanref11_node [.agg (cs.map .d)] h (.nrm, .d x, h) := by
  obtain ⟨id, name, kind, flow, owner, at', ab, am, acs, width, quota, stand, fails, token, vk, vn, vs, vb, vm, vcs, rfl, hid, hna, ha1, ha2, ha3, v, hv, hlv⟩ := hN
  have hval : ∀ h, Cal E f_foremanref08_Right [.agg [.d (.i .u8 vk), .d (.i .i64 vn), .d (.s vs), .d (.sl vb vm vcs)]] h (.nrm, .d (.b (rightV v)), h) := fun h => refVal_ok hv (by omega) h
  refine Cal.wx n_foremanref11_node rfl (ds := [.agg (nD id name kind flow owner at' ab am acs width quota stand fails token vk vn vs vb vm vcs)]) (bor := false) rfl ?_
  refine .callv (fun h => refID_ok (h := h) (s := id) (by omega)) (by kernel_rfl) ?_
  refine .br (!(okID id)) (by kernel_rfl) (fun _ => .retD (.b false) rfl (by kernel_rfl) ⟨_, rfl⟩) (fun _ => ?_)
  refine .br (!(strEq name [])) (by kernel_rfl) (fun _ => ?A) (fun _ => ?B)
  case' A =>
    refine .callv (fun h => refName_ok (h := h) (s := name) (by omega)) (by kernel_rfl) ?_
    refine .br (!(isName name)) (by kernel_rfl) (fun _ => .retD (.b false) rfl (by kernel_rfl) ⟨_, rfl⟩) (fun _ => ?_)
  all_goals
    refine .br (iLt 2 kind) (by kernel_rfl) (fun _ => .retD (.b false) rfl (by kernel_rfl) ⟨_, rfl⟩) (fun _ => ?_)
    refine .br (iLt 6 stand) (by kernel_rfl) (fun _ => .retD (.b false) rfl (by kernel_rfl) ⟨_, rfl⟩) (fun _ => ?_)
    refine .loop false (fun m tm g' => ∃ i, i + m = am ∧ g' = (Heap.empty.push (.cells false t_Node (nA id name kind flow owner at' ab am acs width quota stand fails token vk vn vs vb vm vcs))) ∧ St 87 [(1, .ptr 0 0), (3, mkI i)] tm) am (by kernel_rfl)
      ⟨0, by omega, by kernel_rfl, .of (by kernel_rfl) ⟨by kernel_rfl, by kernel_rfl, trivial⟩⟩ ?_
    rintro m tm _ ⟨i, him, rfl, g', rfl⟩
    refine .br (iLt (.ofNat i) (.ofNat am)) (by kernel_rfl) (fun e => ?_) (fun e => ?_)
    · have hi : i < am := by rw [iLt_iff] at e; simpa using e
      obtain ⟨m, rfl⟩ : ∃ k, m = k + 1 := ⟨m - 1, by omega⟩
      obtain ⟨y, hy⟩ := ha3 acs[i] (List.getElem_mem (by omega))
      refine .opv (iaS_sl (k := .i64) (z := 1) (b := ab) (n := am) (cs := acs) (j := i) rfl hi) (by kernel_rfl) ?_
      refine .opv (load_bx1 E (b := ab) (cs := acs) (j := i) (x := .i .i64 y) (by rw [List.getElem?_eq_getElem (by omega), hy])) (by kernel_rfl) ?_
      refine .callv (fun h => refIn_ok (h := h) (a := y) (lo := 0) (hi := 4799)) (by kernel_rfl) ?_
      refine .br (!(inB y 0 4799)) (by kernel_rfl) (fun _ => .out false 0 (by kernel_rfl) (.retD (.b false) rfl (by kernel_rfl) ⟨_, rfl⟩)) (fun _ => ?_)
      refine .next m (by kernel_rfl) (by omega) ⟨i + 1, by omega, by kernel_rfl, .of (by kernel_rfl) ⟨by kernel_rfl, ?_, trivial⟩⟩
      exact Eq.trans (b := .d (.i .i64 (wrap .i64 (.ofNat i + 1)))) (by kernel_rfl) (inc63 (by omega))
    refine .out false 1 (by kernel_rfl) ?_
    refine .callv (fun h => refIn_ok (h := h) (a := flow) (lo := 0) (hi := 12)) (by kernel_rfl) ?_
    refine .br (inB flow 0 12) (by kernel_rfl) (fun _ => ?_) (fun _ => .retD (.b false) rfl (by kernel_rfl) ⟨_, rfl⟩)
    refine .callv (fun h => refIn_ok (h := h) (a := owner) (lo := (-1)) (hi := 4799)) (by kernel_rfl) ?_
    refine .br (inB owner (-1) 4799) (by kernel_rfl) (fun _ => ?_) (fun _ => .retD (.b false) rfl (by kernel_rfl) ⟨_, rfl⟩)
    refine .callv (fun h => refIn_ok (h := h) (a := at') (lo := (-1)) (hi := 999999)) (by kernel_rfl) ?_
    refine .br (inB at' (-1) 999999) (by kernel_rfl) (fun _ => ?_) (fun _ => .retD (.b false) rfl (by kernel_rfl) ⟨_, rfl⟩)
    refine .br (!(iLt 21 (.ofNat am))) (by kernel_rfl) (fun _ => ?_) (fun _ => .retD (.b false) rfl (by kernel_rfl) ⟨_, rfl⟩)
    refine .callv (fun h => refIn_ok (h := h) (a := width) (lo := 0) (hi := 40)) (by kernel_rfl) ?_
    refine .br (inB width 0 40) (by kernel_rfl) (fun _ => ?_) (fun _ => .retD (.b false) rfl (by kernel_rfl) ⟨_, rfl⟩)
    refine .callv (fun h => refIn_ok (h := h) (a := quota) (lo := 0) (hi := 400)) (by kernel_rfl) ?_
    refine .br (inB quota 0 400) (by kernel_rfl) (fun _ => ?_) (fun _ => .retD (.b false) rfl (by kernel_rfl) ⟨_, rfl⟩)
    refine .callv (fun h => refIn_ok (h := h) (a := fails) (lo := 0) (hi := 10)) (by kernel_rfl) ?_
    refine .br (inB fails 0 10) (by kernel_rfl) (fun _ => ?_) (fun _ => .retD (.b false) rfl (by kernel_rfl) ⟨_, rfl⟩)
    refine .br (!(iLt token 0)) (by kernel_rfl) (fun _ => ?_) (fun _ => .retD (.b false) rfl (by kernel_rfl) ⟨_, rfl⟩)
    refine .callv hval (by kernel_rfl) ?_
    exact .retD (.b (rightV v)) rfl (by kernel_rfl) ⟨_, rfl⟩
theorem refState_ok {h : Heap} {c1 c2 c3 c4 c5 nf : Int} {nb : Bool} {nn : Nat} {ncs : List DV} {tk : Int} (hl : ncs.length = nn * 16) (hnn : nn ≤ 9223372036854775807) (hN : ∀ i, i < nn → NodeF (chunk ncs 16 i)) : ∃ x, (∃ b, x = .b b) ∧ Cal E f_foremanref11_Right [.agg (sA c1 c2 c3 c4 c5 nf nb nn ncs tk)] h (.nrm, .d x, h) := by
  refine Cal.wx n_foremanref11_Right rfl (ds := [.agg (sD c1 c2 c3 c4 c5 nf nb nn ncs tk)]) (bor := false) rfl ?_
  refine .callv (fun h => refIn_ok (h := h) (a := c1) (lo := 0) (hi := 400)) (by kernel_rfl) ?_
  refine .br (inB c1 0 400) (by kernel_rfl) (fun _ => ?_) (fun _ => ?F1)
  refine .callv (fun h => refIn_ok (h := h) (a := c2) (lo := 0) (hi := 12)) (by kernel_rfl) ?_
  refine .br (inB c2 0 12) (by kernel_rfl) (fun _ => ?_) (fun _ => ?F2)
  refine .callv (fun h => refIn_ok (h := h) (a := c3) (lo := 0) (hi := 40)) (by kernel_rfl) ?_
  refine .br (inB c3 0 40) (by kernel_rfl) (fun _ => ?_) (fun _ => ?F3)
  refine .callv (fun h => refIn_ok (h := h) (a := c4) (lo := 0) (hi := 9)) (by kernel_rfl) ?_
  refine .br (inB c4 0 9) (by kernel_rfl) (fun _ => ?_) (fun _ => ?F4)
  refine .callv (fun h => refIn_ok (h := h) (a := c5) (lo := 0) (hi := 12)) (by kernel_rfl) ?_
  refine .br (inB c5 0 12) (by kernel_rfl) (fun _ => ?_) (fun _ => ?F5)
  refine .callv (fun h => refIn_ok (h := h) (a := nf) (lo := 0) (hi := 12)) (by kernel_rfl) ?_
  refine .br (inB nf 0 12) (by kernel_rfl) (fun _ => ?_) (fun _ => ?F6)
  refine .br (!(iLt tk 0)) (by kernel_rfl) (fun _ => ?T) (fun _ => ?F7)
  case T =>
    refine .loop true (fun m tm g' => ∃ i b, i + m = nn ∧ g'.get 0 = some (.cells false t_State (sA c1 c2 c3 c4 c5 nf nb nn ncs tk)) ∧ St 64 [(1, .ptr 0 0), (4, .d (.b b)), (5, mkI i)] tm) nn (by kernel_rfl)
      ⟨0, !(iLt 4800 (.ofNat nn)), by omega, by kernel_rfl, .of (by kernel_rfl) ⟨by kernel_rfl, by kernel_rfl, by kernel_rfl, trivial⟩⟩ ?_
    rintro m tm g ⟨i, b, him, hb, g', rfl⟩
    refine .op (load_ptr E (ag := false) (n := 1) (off := 6) hb rfl rfl) (by kernel_rfl) ?_
    refine .br (iLt (.ofNat i) (.ofNat nn)) (by kernel_rfl) (fun e => ?_) (fun e => ?_)
    · have hi : i < nn := by rw [iLt_iff] at e; simpa using e
      obtain ⟨m, rfl⟩ : ∃ k, m = k + 1 := ⟨m - 1, by omega⟩
      refine .br b (by kernel_rfl) (fun _ => ?_) (fun e2 => ?_)
      · have hld := load_bx E (b := nb) hl hi
        have hni := hN i hi
        obtain ⟨id, name, kind, flow, owner, at', ab, am, acs, width, quota, stand, fails, token, vk, vn, vs, vb, vm, vcs, hlit, _⟩ := hN i hi
        obtain ⟨x, ⟨b2, rfl⟩, hc⟩ := refNode_ok (h := g) hni
        rw [hlit] at hld hc
        refine .op (load_ptr E (ag := false) (n := 1) (off := 6) hb rfl rfl) (by kernel_rfl) ?_
        refine .opv (iaS_sl (k := .i64) (z := 16) (b := nb) (n := nn) (cs := ncs) (j := i) rfl hi) (by kernel_rfl) ?_
        refine .opv hld (by kernel_rfl) ?_
        refine .call (args := [.agg (nA id name kind flow owner at' ab am acs width quota stand fails token vk vn vs vb vm vcs)]) hc (by kernel_rfl) ?_
        refine .next m (by kernel_rfl) (by omega) ⟨i + 1, b2, by omega, Eq.trans (b := g.get 0) (by kernel_rfl) hb, .of (by kernel_rfl) ⟨by kernel_rfl, by kernel_rfl, ?_, trivial⟩⟩
        exact Eq.trans (b := .d (.i .i64 (wrap .i64 (.ofNat i + 1)))) (by kernel_rfl) (inc63 (by omega))
      · exact .out true 1 (by kernel_rfl) (.retD (.b b) rfl (by kernel_rfl) ⟨_, rfl⟩)
    · exact .out true 1 (by kernel_rfl) (.retD (.b b) rfl (by kernel_rfl) ⟨_, rfl⟩)
  all_goals
    refine .loop true (fun m tm g' => ∃ i b, i + m = nn ∧ g'.get 0 = some (.cells false t_State (sA c1 c2 c3 c4 c5 nf nb nn ncs tk)) ∧ St 64 [(1, .ptr 0 0), (4, .d (.b b)), (5, mkI i)] tm) nn (by kernel_rfl)
      ⟨0, false, by omega, by kernel_rfl, .of (by kernel_rfl) ⟨by kernel_rfl, by kernel_rfl, by kernel_rfl, trivial⟩⟩ ?_
    rintro m tm g ⟨i, b, him, hb, g', rfl⟩
    refine .op (load_ptr E (ag := false) (n := 1) (off := 6) hb rfl rfl) (by kernel_rfl) ?_
    refine .br (iLt (.ofNat i) (.ofNat nn)) (by kernel_rfl) (fun e => ?_) (fun e => ?_)
    · have hi : i < nn := by rw [iLt_iff] at e; simpa using e
      obtain ⟨m, rfl⟩ : ∃ k, m = k + 1 := ⟨m - 1, by omega⟩
      refine .br b (by kernel_rfl) (fun _ => ?_) (fun e2 => ?_)
      · have hld := load_bx E (b := nb) hl hi
        have hni := hN i hi
        obtain ⟨id, name, kind, flow, owner, at', ab, am, acs, width, quota, stand, fails, token, vk, vn, vs, vb, vm, vcs, hlit, _⟩ := hN i hi
        obtain ⟨x, ⟨b2, rfl⟩, hc⟩ := refNode_ok (h := g) hni
        rw [hlit] at hld hc
        refine .op (load_ptr E (ag := false) (n := 1) (off := 6) hb rfl rfl) (by kernel_rfl) ?_
        refine .opv (iaS_sl (k := .i64) (z := 16) (b := nb) (n := nn) (cs := ncs) (j := i) rfl hi) (by kernel_rfl) ?_
        refine .opv hld (by kernel_rfl) ?_
        refine .call (args := [.agg (nA id name kind flow owner at' ab am acs width quota stand fails token vk vn vs vb vm vcs)]) hc (by kernel_rfl) ?_
        refine .next m (by kernel_rfl) (by omega) ⟨i + 1, b2, by omega, Eq.trans (b := g.get 0) (by kernel_rfl) hb, .of (by kernel_rfl) ⟨by kernel_rfl, by kernel_rfl, ?_, trivial⟩⟩
        exact Eq.trans (b := .d (.i .i64 (wrap .i64 (.ofNat i + 1)))) (by kernel_rfl) (inc63 (by omega))
      · exact .out true 1 (by kernel_rfl) (.retD (.b b) rfl (by kernel_rfl) ⟨_, rfl⟩)
    · exact .out true 1 (by kernel_rfl) (.retD (.b b) rfl (by kernel_rfl) ⟨_, rfl⟩)
end
end Go.Proofs.YtjacnbabnpgpaaaGreatDoor
