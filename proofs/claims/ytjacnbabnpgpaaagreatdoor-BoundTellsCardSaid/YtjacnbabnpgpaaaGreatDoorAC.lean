/- Contracts: the document's sums. -/
import Derived.Test.YtjacnbabnpgpaaaGreatDoorAB
namespace Go.Proofs.YtjacnbabnpgpaaaGreatDoor
noncomputable section
open Go Go.Abs
set_option maxRecDepth 100000
theorem chunk_get {cs : List DV} {z i j : Nat} (hj : j < z) : (chunk cs z i)[j]? = cs[i * z + j]? := by
  unfold chunk
  rw [List.getElem?_take, if_pos hj, List.getElem?_drop]
section
variable {c1 c2 c3 c4 c5 nf : Int} {nb : Bool} {nn : Nat} {ncs : List DV} {tk : Int}
theorem refLeft_ok {h : Heap} (hN : NodesR nn ncs) : Cal E f_foremanref29_Left [.agg (sA c1 c2 c3 c4 c5 nf nb nn ncs tk)] h (.nrm, .d (.i .i64 (sumC ncs c4 (fun _ => true) nn)), h) := by
  have hnn := hN.n
  refine .w n_foremanref29_Left rfl (ds := [.agg (sD c1 c2 c3 c4 c5 nf nb nn ncs tk)]) (bor := false) rfl ?_
  refine .loop false (fun m tm g' => ∃ i, i + m = nn ∧ g' = (Heap.empty.push (.cells false t_State (sA c1 c2 c3 c4 c5 nf nb nn ncs tk))) ∧ St 24 [(1, .ptr 0 0), (3, .d (.i .i64 (sumC ncs c4 (fun _ => true) i))), (4, mkI i)] tm) nn (by kernel_rfl)
    ⟨0, by omega, by kernel_rfl, .of (by kernel_rfl) ⟨by kernel_rfl, by kernel_rfl, by kernel_rfl, trivial⟩⟩ ?_
  rintro m tm _ ⟨i, him, rfl, g', rfl⟩
  refine .br (iLt (.ofNat i) (.ofNat nn)) (by kernel_rfl) (fun e => ?_) (fun e => ?_)
  · have hi : i < nn := by rw [iLt_iff] at e; simpa using e
    obtain ⟨m, rfl⟩ : ∃ k, m = k + 1 := ⟨m - 1, by omega⟩
    have hld := load_bx E (b := nb) hN.l hi
    obtain ⟨id, name, kind, flow, owner, at', ab, am, acs, width, quota, stand, fails, token, vk, vn, vs, vb, vm, vcs, hlit, hk8, hs8, _⟩ := hN.c i hi
    have hsum : sumC ncs c4 (fun _ => true) (i + 1) = wrap .i64 (sumC ncs c4 (fun _ => true) i + workW kind stand c4 width quota fails) := by
      show wrap .i64 (sumC ncs c4 (fun _ => true) i + workC (chunk ncs 16 i) c4) = _
      rw [hlit]; rfl
    rw [hlit] at hld
    refine .opv (iaS_sl (k := .i64) (z := 16) (b := nb) (n := nn) (cs := ncs) (j := i) rfl hi) (by kernel_rfl) ?_
    refine .opv hld (by kernel_rfl) ?_
    refine .callv (fun h => refWork_ok (h := h) (r := c4) (id := id) (name := name) (kind := kind) (flow := flow) (owner := owner) (at' := at') (ab := ab) (am := am) (acs := acs) (width := width) (quota := quota) (stand := stand) (fails := fails) (token := token) (vk := vk) (vn := vn) (vs := vs) (vb := vb) (vm := vm) (vcs := vcs) hs8) (by kernel_rfl) ?_
    refine .next m (by kernel_rfl) (by omega) ⟨i + 1, by omega, by kernel_rfl, .of (by kernel_rfl) ⟨by kernel_rfl, ?_, ?_, trivial⟩⟩
    · exact Eq.trans (b := .d (.i .i64 (wrap .i64 (sumC ncs c4 (fun _ => true) i + workW kind stand c4 width quota fails)))) (by kernel_rfl) (by rw [hsum])
    · exact Eq.trans (b := .d (.i .i64 (wrap .i64 (.ofNat i + 1)))) (by kernel_rfl) (inc63 (by omega))
  · have : m = 0 := by rw [iLt_not] at e; simp only [Int.ofNat_eq_natCast] at e; omega
    subst this
    have hin : i = nn := by omega
    subst hin
    exact .out false 1 (by kernel_rfl) (.ret rfl (by kernel_rfl))
theorem refFlow_ok {h : Heap} {fl : Int} (hN : NodesR nn ncs) : Cal E f_foremanref29_Flow [.agg (sA c1 c2 c3 c4 c5 nf nb nn ncs tk), .d (.i .i64 fl)] h (.nrm, .d (.i .i64 (sumC ncs c4 (fun c => iEq (flowC c) fl) nn)), h) := by
  have hnn := hN.n
  refine .w n_foremanref29_Flow rfl (ds := [.agg (sD c1 c2 c3 c4 c5 nf nb nn ncs tk), .i .i64 fl]) (bor := false) rfl ?_
  refine .loop false (fun m tm g' => ∃ i, i + m = nn ∧ g' = (Heap.empty.push (.cells false t_State (sA c1 c2 c3 c4 c5 nf nb nn ncs tk))) ∧ St 34 [(1, .d (.i .i64 fl)), (2, .ptr 0 0), (5, .d (.i .i64 (sumC ncs c4 (fun c => iEq (flowC c) fl) i))), (6, mkI i)] tm) nn (by kernel_rfl)
    ⟨0, by omega, by kernel_rfl, .of (by kernel_rfl) ⟨by kernel_rfl, by kernel_rfl, by kernel_rfl, by kernel_rfl, trivial⟩⟩ ?_
  rintro m tm _ ⟨i, him, rfl, g', rfl⟩
  refine .br (iLt (.ofNat i) (.ofNat nn)) (by kernel_rfl) (fun e => ?_) (fun e => ?_)
  · have hi : i < nn := by rw [iLt_iff] at e; simpa using e
    obtain ⟨m, rfl⟩ : ∃ k, m = k + 1 := ⟨m - 1, by omega⟩
    have hld := load_bx E (b := nb) hN.l hi
    obtain ⟨id, name, kind, flow, owner, at', ab, am, acs, width, quota, stand, fails, token, vk, vn, vs, vb, vm, vcs, hlit, hk8, hs8, _⟩ := hN.c i hi
    have hsum : sumC ncs c4 (fun c => iEq (flowC c) fl) (i + 1) = (match iEq flow fl with | true => wrap .i64 (sumC ncs c4 (fun c => iEq (flowC c) fl) i + workW kind stand c4 width quota fails) | false => sumC ncs c4 (fun c => iEq (flowC c) fl) i) := by
      show (match iEq (flowC (chunk ncs 16 i)) fl with | true => wrap .i64 (sumC ncs c4 (fun c => iEq (flowC c) fl) i + workC (chunk ncs 16 i) c4) | false => sumC ncs c4 (fun c => iEq (flowC c) fl) i) = _
      rw [hlit]; rfl
    have hfl : ncs[i * 16 + 3]? = some (.i .i64 flow) := by rw [← chunk_get (by omega), hlit]; rfl
    rw [hlit] at hld
    refine .opv (iaS_sl (k := .i64) (z := 16) (b := nb) (n := nn) (cs := ncs) (j := i) rfl hi) (by kernel_rfl) ?_
    refine .opv (load_bx0 E (b := nb) (cs := ncs) (off := i * 16 + 3) hfl) (by kernel_rfl) ?_
    refine .br (iEq flow fl) (by kernel_rfl) (fun e2 => ?_) (fun e2 => ?_)
    · refine .opv (iaS_sl (k := .i64) (z := 16) (b := nb) (n := nn) (cs := ncs) (j := i) rfl hi) (by kernel_rfl) ?_
      refine .opv hld (by kernel_rfl) ?_
      refine .callv (fun h => refWork_ok (h := h) (r := c4) (id := id) (name := name) (kind := kind) (flow := flow) (owner := owner) (at' := at') (ab := ab) (am := am) (acs := acs) (width := width) (quota := quota) (stand := stand) (fails := fails) (token := token) (vk := vk) (vn := vn) (vs := vs) (vb := vb) (vm := vm) (vcs := vcs) hs8) (by kernel_rfl) ?_
      refine .next m (by kernel_rfl) (by omega) ⟨i + 1, by omega, by kernel_rfl, .of (by kernel_rfl) ⟨by kernel_rfl, by kernel_rfl, ?_, ?_, trivial⟩⟩
      · exact Eq.trans (b := .d (.i .i64 (wrap .i64 (sumC ncs c4 (fun c => iEq (flowC c) fl) i + workW kind stand c4 width quota fails)))) (by kernel_rfl) (by rw [hsum]; rw [e2])
      · exact Eq.trans (b := .d (.i .i64 (wrap .i64 (.ofNat i + 1)))) (by kernel_rfl) (inc63 (by omega))
    · refine .next m (by kernel_rfl) (by omega) ⟨i + 1, by omega, by kernel_rfl, .of (by kernel_rfl) ⟨by kernel_rfl, by kernel_rfl, ?_, ?_, trivial⟩⟩
      · exact Eq.trans (b := .d (.i .i64 (sumC ncs c4 (fun c => iEq (flowC c) fl) i))) (by kernel_rfl) (by rw [hsum]; rw [e2])
      · exact Eq.trans (b := .d (.i .i64 (wrap .i64 (.ofNat i + 1)))) (by kernel_rfl) (inc63 (by omega))
  · have : m = 0 := by rw [iLt_not] at e; simp only [Int.ofNat_eq_natCast] at e; omega
    subst this
    have hin : i = nn := by omega
    subst hin
    exact .out false 1 (by kernel_rfl) (.ret rfl (by kernel_rfl))
end
end
end Go.Proofs.YtjacnbabnpgpaaaGreatDoor
