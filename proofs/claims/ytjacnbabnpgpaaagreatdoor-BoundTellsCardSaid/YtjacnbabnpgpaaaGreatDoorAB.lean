/- Contracts: sums over nodes: bound.Left, Flow, Room, Most, and the document's. -/
import Derived.Test.YtjacnbabnpgpaaaGreatDoorAA
namespace Go.Proofs.YtjacnbabnpgpaaaGreatDoor
noncomputable section
open Go Go.Abs
set_option maxRecDepth 100000
def workC (cs : List DV) (r : Int) : Int := match cs with
  | [_, _, .i _ kind, _, _, _, _, .i _ width, .i _ quota, .i _ stand, .i _ fails, _, _, _, _, _] => workW kind stand r width quota fails
  | _ => 0
def flowC (cs : List DV) : Int := match cs with
  | [_, _, _, .i _ flow, _, _, _, _, _, _, _, _, _, _, _, _] => flow
  | _ => 0
def NodeL (cs : List DV) : Prop := ∃ (id name : List UInt8) (kind flow owner at' : Int) (ab : Bool) (am : Nat) (acs : List DV) (width quota stand fails token vk vn : Int) (vs : List UInt8) (vb : Bool) (vm : Nat) (vcs : List DV), cs = nD id name kind flow owner at' ab am acs width quota stand fails token vk vn vs vb vm vcs ∧ R8 kind ∧ R8 stand ∧
  acs.length = am ∧ am ≤ 9223372036854775807 ∧ (∀ c ∈ acs, ∃ i, c = .i .i64 i) ∧ ∃ v, ValR v [.i .u8 vk, .i .i64 vn, .s vs, .sl vb vm vcs] ∧ lenV v
structure NodesR (nn : Nat) (ncs : List DV) : Prop where
  l : ncs.length = nn * 16
  n : nn ≤ 9223372036854775807
  c : ∀ i, i < nn → NodeL (chunk ncs 16 i)
def sumC (ncs : List DV) (r : Int) (p : List DV → Bool) : Nat → Int
  | 0 => 0
  | i + 1 => match p (chunk ncs 16 i) with
    | true => wrap .i64 (sumC ncs r p i + workC (chunk ncs 16 i) r)
    | false => sumC ncs r p i
theorem inc63 {i : Nat} (h : i < 9223372036854775807) : (AV.d (.i .i64 (wrap .i64 (.ofNat i + 1)))) = mkI (i + 1) := by
  rw [wrap64 (by simp only [Int.ofNat_eq_natCast]; omega) (by simp only [Int.ofNat_eq_natCast]; omega)]; rfl
abbrev sA (c1 c2 c3 c4 c5 nf : Int) (nb : Bool) (nn : Nat) (ncs : List DV) (tk : Int) : List AV := [.d (.i .i64 c1), .d (.i .i64 c2), .d (.i .i64 c3), .d (.i .i64 c4), .d (.i .i64 c5), .d (.i .i64 nf), .d (.sl nb nn ncs), .d (.i .i64 tk)]
abbrev sD (c1 c2 c3 c4 c5 nf : Int) (nb : Bool) (nn : Nat) (ncs : List DV) (tk : Int) : List DV := [.i .i64 c1, .i .i64 c2, .i .i64 c3, .i .i64 c4, .i .i64 c5, .i .i64 nf, .sl nb nn ncs, .i .i64 tk]
section
variable {c1 c2 c3 c4 c5 nf : Int} {nb : Bool} {nn : Nat} {ncs : List DV} {tk : Int}
theorem sumOwn {h : Heap} {g : Nat} {p : List DV → Bool} (hN : NodesR nn ncs) (hp : ∀ i, i < nn → ∀ h, Cal E g [.agg ((chunk ncs 16 i).map .d)] h (.nrm, .d (.b (p (chunk ncs 16 i))), h)) : Cal E f_bound_sum [.agg (sA c1 c2 c3 c4 c5 nf nb nn ncs tk), .d (.fn (.func g) [] [])] h (.nrm, .d (.i .i64 (sumC ncs c4 p nn)), h) := by
  refine .w n_bound_sum rfl (ds := [.agg (sD c1 c2 c3 c4 c5 nf nb nn ncs tk), .fn (.func g) [] []]) (bor := false) rfl ?_
  refine .loop true (fun m tm g' => ∃ i, i + m = nn ∧ g'.get (0) = some (.cells false t_State (sA c1 c2 c3 c4 c5 nf nb nn ncs tk)) ∧ St 27 [(1, .d (.fn (.func g) [] [])), (2, .ptr (0) 0), (5, .d (.i .i64 (sumC ncs c4 p i))), (9, .d (.sl nb nn ncs)), (10, mkI nn), (11, mkI i)] tm) nn (by kernel_rfl)
    ⟨0, by omega, by kernel_rfl, .of (by kernel_rfl) ⟨by kernel_rfl, by kernel_rfl, by kernel_rfl, by kernel_rfl, by kernel_rfl, by kernel_rfl, trivial⟩⟩ ?_
  rintro m tm f ⟨i, him, hb, g', rfl⟩
  refine .br (iLt (.ofNat i) (.ofNat nn)) (by kernel_rfl) (fun e => ?_) (fun e => ?_)
  · have hi : i < nn := by rw [iLt_iff] at e; simpa using e
    obtain ⟨m, rfl⟩ : ∃ k, m = k + 1 := ⟨m - 1, by omega⟩
    have hnn := hN.n
    have hld := load_bx E (b := nb) hN.l hi
    have hpi := hp i hi
    obtain ⟨id, name, kind, flow, owner, at', ab, am, acs, width, quota, stand, fails, token, vk, vn, vs, vb, vm, vcs, hlit, hk8, hs8, _⟩ := hN.c i hi
    have hsum : sumC ncs c4 p (i + 1) = (match p (chunk ncs 16 i) with | true => wrap .i64 (sumC ncs c4 p i + workW kind stand c4 width quota fails) | false => sumC ncs c4 p i) := by
      show (match p (chunk ncs 16 i) with | true => wrap .i64 (sumC ncs c4 p i + workC (chunk ncs 16 i) c4) | false => sumC ncs c4 p i) = _
      rw [show workC (chunk ncs 16 i) c4 = workW kind stand c4 width quota fails by rw [hlit]; rfl]
    generalize p (chunk ncs 16 i) = pi at hpi hsum
    rw [hlit] at hld hpi
    refine .opv (iaS_sl (k := .i64) (z := 16) (b := nb) (n := nn) (cs := ncs) (j := i) rfl hi) (by kernel_rfl) ?_
    refine .opv hld (by kernel_rfl) ?_
    have g1 := push_n f (.cells false t_Node [.d (.s []), .d (.s []), .d (.i .u8 0), .d (.i .i64 0), .d (.i .i64 0), .d (.i .i64 0), .nilsl, .d (.i .i64 0), .d (.i .i64 0), .d (.i .u8 0), .d (.i .i64 0), .d (.i .i64 0), .d (.i .u8 0), .d (.i .i64 0), .d (.s []), .nilsl])
    refine .op (store_ptr (n := 16) (off := 0) (x := .agg (nA id name kind flow owner at' ab am acs width quota stand fails token vk vn vs vb vm vcs)) g1 rfl) (by kernel_rfl) ?_
    have g2 := Heap.get_set_self (b' := .cells false t_Node (nA id name kind flow owner at' ab am acs width quota stand fails token vk vn vs vb vm vcs)) g1
    have hb2 : ((f.push (.cells false t_Node [.d (.s []), .d (.s []), .d (.i .u8 0), .d (.i .i64 0), .d (.i .i64 0), .d (.i .i64 0), .nilsl, .d (.i .i64 0), .d (.i .i64 0), .d (.i .u8 0), .d (.i .i64 0), .d (.i .i64 0), .d (.i .u8 0), .d (.i .i64 0), .d (.s []), .nilsl])).set f.n (.cells false t_Node (nA id name kind flow owner at' ab am acs width quota stand fails token vk vn vs vb vm vcs))).get (0) = some (.cells false t_State (sA c1 c2 c3 c4 c5 nf nb nn ncs tk)) := by
      rw [Heap.get_set_ne (by have := get_lt hb; omega)]; exact push_of hb _
    refine .op (load_ptr E (ag := true) (n := 16) (off := 0) g2 rfl rfl) (by kernel_rfl) ?_
    refine .callv (f := g) (args := [.agg (nA id name kind flow owner at' ab am acs width quota stand fails token vk vn vs vb vm vcs)]) (v := .d (.b pi)) hpi (by kernel_rfl) ?_
    have g3 := g2
    have hb3 := hb2
    refine .br pi (by kernel_rfl) (fun e2 => ?_) (fun e2 => ?_)
    · refine .op (load_ptr E (ag := true) (n := 16) (off := 0) g3 rfl rfl) (by kernel_rfl) ?_
      refine .op (load_ptr E (ag := false) (n := 1) (off := 3) hb3 rfl rfl) (by kernel_rfl) ?_
      refine .callv (fun h => boundWork_ok (h := h) (r := c4) (id := id) (name := name) (kind := kind) (flow := flow) (owner := owner) (at' := at') (ab := ab) (am := am) (acs := acs) (width := width) (quota := quota) (stand := stand) (fails := fails) (token := token) (vk := vk) (vn := vn) (vs := vs) (vb := vb) (vm := vm) (vcs := vcs) hs8) (by kernel_rfl) ?_
      refine .next m (by kernel_rfl) (by omega) ⟨i + 1, by omega, Eq.trans (b := ((f.push (.cells false t_Node [.d (.s []), .d (.s []), .d (.i .u8 0), .d (.i .i64 0), .d (.i .i64 0), .d (.i .i64 0), .nilsl, .d (.i .i64 0), .d (.i .i64 0), .d (.i .u8 0), .d (.i .i64 0), .d (.i .i64 0), .d (.i .u8 0), .d (.i .i64 0), .d (.s []), .nilsl])).set f.n (.cells false t_Node (nA id name kind flow owner at' ab am acs width quota stand fails token vk vn vs vb vm vcs))).get (0)) (by kernel_rfl) hb3, .of (by kernel_rfl) ⟨by kernel_rfl, by kernel_rfl, ?_, by kernel_rfl, by kernel_rfl, ?_, trivial⟩⟩
      · exact Eq.trans (b := .d (.i .i64 (wrap .i64 (sumC ncs c4 p i + workW kind stand c4 width quota fails)))) (by kernel_rfl) (by rw [hsum, e2])
      · exact Eq.trans (b := .d (.i .i64 (wrap .i64 (.ofNat i + 1)))) (by kernel_rfl) (inc63 (by omega))
    · refine .next m (by kernel_rfl) (by omega) ⟨i + 1, by omega, Eq.trans (b := ((f.push (.cells false t_Node [.d (.s []), .d (.s []), .d (.i .u8 0), .d (.i .i64 0), .d (.i .i64 0), .d (.i .i64 0), .nilsl, .d (.i .i64 0), .d (.i .i64 0), .d (.i .u8 0), .d (.i .i64 0), .d (.i .i64 0), .d (.i .u8 0), .d (.i .i64 0), .d (.s []), .nilsl])).set f.n (.cells false t_Node (nA id name kind flow owner at' ab am acs width quota stand fails token vk vn vs vb vm vcs))).get (0)) (by kernel_rfl) hb3, .of (by kernel_rfl) ⟨by kernel_rfl, by kernel_rfl, ?_, by kernel_rfl, by kernel_rfl, ?_, trivial⟩⟩
      · exact Eq.trans (b := .d (.i .i64 (sumC ncs c4 p i))) (by kernel_rfl) (by rw [hsum, e2])
      · exact Eq.trans (b := .d (.i .i64 (wrap .i64 (.ofNat i + 1)))) (by kernel_rfl) (inc63 (by omega))
  · have : m = 0 := by rw [iLt_not] at e; simp only [Int.ofNat_eq_natCast] at e; omega
    subst this
    have hin : i = nn := by omega
    subst hin
    exact .out true 1 (by kernel_rfl) (.ret rfl (by kernel_rfl))
theorem sumShared {h : Heap} {g q : Nat} {p : List DV → Bool} {x : Blk} (hq : h.get q = some x) (hN : NodesR nn ncs) (hp : ∀ i, i < nn → ∀ h', h'.get q = some x → Cal E g [.agg ((chunk ncs 16 i).map .d), .ptr q 0] h' (.nrm, .d (.b (p (chunk ncs 16 i))), h'.push (.cells false t_Node ((chunk ncs 16 i).map .d)))) :
    ∃ v h', Cal E f_bound_sum [.agg (sA c1 c2 c3 c4 c5 nf nb nn ncs tk), .fn (.func g) [] [.ptr q 0]] h (.nrm, v, h') ∧ v = .d (.i .i64 (sumC ncs c4 p nn)) := by
  refine Cal.wrx n_bound_sum (.inr rfl) ?_
  have hbox := push_n h (.cells false t_State (sA c1 c2 c3 c4 c5 nf nb nn ncs tk))
  refine .op (load_ptr E (ag := false) (n := 1) (off := 6) hbox rfl rfl) (by kernel_rfl) ?_
  refine .loop true (fun m tm g' => ∃ i, i + m = nn ∧ g'.get (h.n) = some (.cells false t_State (sA c1 c2 c3 c4 c5 nf nb nn ncs tk)) ∧ g'.get q = some x ∧ St 27 [(1, .fn (.func g) [] [.ptr q 0]), (2, .ptr (h.n) 0), (5, .d (.i .i64 (sumC ncs c4 p i))), (9, .d (.sl nb nn ncs)), (10, mkI nn), (11, mkI i)] tm) nn (by kernel_rfl)
    ⟨0, by omega, Eq.trans (b := (h.push (.cells false t_State (sA c1 c2 c3 c4 c5 nf nb nn ncs tk))).get h.n) (by kernel_rfl) hbox, Eq.trans (b := (h.push (.cells false t_State (sA c1 c2 c3 c4 c5 nf nb nn ncs tk))).get q) (by kernel_rfl) (push_of hq _), .of (by kernel_rfl) ⟨by kernel_rfl, by kernel_rfl, by kernel_rfl, by kernel_rfl, by kernel_rfl, by kernel_rfl, trivial⟩⟩ ?_
  rintro m tm f ⟨i, him, hb, hqf, g', rfl⟩
  refine .br (iLt (.ofNat i) (.ofNat nn)) (by kernel_rfl) (fun e => ?_) (fun e => ?_)
  · have hi : i < nn := by rw [iLt_iff] at e; simpa using e
    obtain ⟨m, rfl⟩ : ∃ k, m = k + 1 := ⟨m - 1, by omega⟩
    have hnn := hN.n
    have hld := load_bx E (b := nb) hN.l hi
    have hpi := hp i hi
    obtain ⟨id, name, kind, flow, owner, at', ab, am, acs, width, quota, stand, fails, token, vk, vn, vs, vb, vm, vcs, hlit, hk8, hs8, _⟩ := hN.c i hi
    have hsum : sumC ncs c4 p (i + 1) = (match p (chunk ncs 16 i) with | true => wrap .i64 (sumC ncs c4 p i + workW kind stand c4 width quota fails) | false => sumC ncs c4 p i) := by
      show (match p (chunk ncs 16 i) with | true => wrap .i64 (sumC ncs c4 p i + workC (chunk ncs 16 i) c4) | false => sumC ncs c4 p i) = _
      rw [show workC (chunk ncs 16 i) c4 = workW kind stand c4 width quota fails by rw [hlit]; rfl]
    generalize p (chunk ncs 16 i) = pi at hpi hsum
    rw [hlit] at hld hpi
    refine .opv (iaS_sl (k := .i64) (z := 16) (b := nb) (n := nn) (cs := ncs) (j := i) rfl hi) (by kernel_rfl) ?_
    refine .opv hld (by kernel_rfl) ?_
    have g1 := push_n f (.cells false t_Node [.d (.s []), .d (.s []), .d (.i .u8 0), .d (.i .i64 0), .d (.i .i64 0), .d (.i .i64 0), .nilsl, .d (.i .i64 0), .d (.i .i64 0), .d (.i .u8 0), .d (.i .i64 0), .d (.i .i64 0), .d (.i .u8 0), .d (.i .i64 0), .d (.s []), .nilsl])
    refine .op (store_ptr (n := 16) (off := 0) (x := .agg (nA id name kind flow owner at' ab am acs width quota stand fails token vk vn vs vb vm vcs)) g1 rfl) (by kernel_rfl) ?_
    have g2 := Heap.get_set_self (b' := .cells false t_Node (nA id name kind flow owner at' ab am acs width quota stand fails token vk vn vs vb vm vcs)) g1
    have hb2 : ((f.push (.cells false t_Node [.d (.s []), .d (.s []), .d (.i .u8 0), .d (.i .i64 0), .d (.i .i64 0), .d (.i .i64 0), .nilsl, .d (.i .i64 0), .d (.i .i64 0), .d (.i .u8 0), .d (.i .i64 0), .d (.i .i64 0), .d (.i .u8 0), .d (.i .i64 0), .d (.s []), .nilsl])).set f.n (.cells false t_Node (nA id name kind flow owner at' ab am acs width quota stand fails token vk vn vs vb vm vcs))).get (h.n) = some (.cells false t_State (sA c1 c2 c3 c4 c5 nf nb nn ncs tk)) := by
      rw [Heap.get_set_ne (by have := get_lt hb; omega)]; exact push_of hb _
    have hq2 : ((f.push (.cells false t_Node [.d (.s []), .d (.s []), .d (.i .u8 0), .d (.i .i64 0), .d (.i .i64 0), .d (.i .i64 0), .nilsl, .d (.i .i64 0), .d (.i .i64 0), .d (.i .u8 0), .d (.i .i64 0), .d (.i .i64 0), .d (.i .u8 0), .d (.i .i64 0), .d (.s []), .nilsl])).set f.n (.cells false t_Node (nA id name kind flow owner at' ab am acs width quota stand fails token vk vn vs vb vm vcs))).get q = some x := by
      rw [Heap.get_set_ne (by have := get_lt hqf; omega)]; exact push_of hqf _
    refine .op (load_ptr E (ag := true) (n := 16) (off := 0) g2 rfl rfl) (by kernel_rfl) ?_
    refine .call (hpi _ hq2) (by kernel_rfl) ?_
    have g3 := push_of g2 (.cells false t_Node (nA id name kind flow owner at' ab am acs width quota stand fails token vk vn vs vb vm vcs))
    have hb3 := push_of hb2 (.cells false t_Node (nA id name kind flow owner at' ab am acs width quota stand fails token vk vn vs vb vm vcs))
    have hq3 := push_of hq2 (.cells false t_Node (nA id name kind flow owner at' ab am acs width quota stand fails token vk vn vs vb vm vcs))
    refine .br pi (by kernel_rfl) (fun e2 => ?_) (fun e2 => ?_)
    · refine .op (load_ptr E (ag := true) (n := 16) (off := 0) g3 rfl rfl) (by kernel_rfl) ?_
      refine .op (load_ptr E (ag := false) (n := 1) (off := 3) hb3 rfl rfl) (by kernel_rfl) ?_
      refine .callv (fun h => boundWork_ok (h := h) (r := c4) (id := id) (name := name) (kind := kind) (flow := flow) (owner := owner) (at' := at') (ab := ab) (am := am) (acs := acs) (width := width) (quota := quota) (stand := stand) (fails := fails) (token := token) (vk := vk) (vn := vn) (vs := vs) (vb := vb) (vm := vm) (vcs := vcs) hs8) (by kernel_rfl) ?_
      refine .next m (by kernel_rfl) (by omega) ⟨i + 1, by omega, Eq.trans (b := (((f.push (.cells false t_Node [.d (.s []), .d (.s []), .d (.i .u8 0), .d (.i .i64 0), .d (.i .i64 0), .d (.i .i64 0), .nilsl, .d (.i .i64 0), .d (.i .i64 0), .d (.i .u8 0), .d (.i .i64 0), .d (.i .i64 0), .d (.i .u8 0), .d (.i .i64 0), .d (.s []), .nilsl])).set f.n (.cells false t_Node (nA id name kind flow owner at' ab am acs width quota stand fails token vk vn vs vb vm vcs))).push (.cells false t_Node (nA id name kind flow owner at' ab am acs width quota stand fails token vk vn vs vb vm vcs))).get (h.n)) (by kernel_rfl) hb3, Eq.trans (b := (((f.push (.cells false t_Node [.d (.s []), .d (.s []), .d (.i .u8 0), .d (.i .i64 0), .d (.i .i64 0), .d (.i .i64 0), .nilsl, .d (.i .i64 0), .d (.i .i64 0), .d (.i .u8 0), .d (.i .i64 0), .d (.i .i64 0), .d (.i .u8 0), .d (.i .i64 0), .d (.s []), .nilsl])).set f.n (.cells false t_Node (nA id name kind flow owner at' ab am acs width quota stand fails token vk vn vs vb vm vcs))).push (.cells false t_Node (nA id name kind flow owner at' ab am acs width quota stand fails token vk vn vs vb vm vcs))).get q) (by kernel_rfl) hq3, .of (by kernel_rfl) ⟨by kernel_rfl, by kernel_rfl, ?_, by kernel_rfl, by kernel_rfl, ?_, trivial⟩⟩
      · exact Eq.trans (b := .d (.i .i64 (wrap .i64 (sumC ncs c4 p i + workW kind stand c4 width quota fails)))) (by kernel_rfl) (by rw [hsum, e2])
      · exact Eq.trans (b := .d (.i .i64 (wrap .i64 (.ofNat i + 1)))) (by kernel_rfl) (inc63 (by omega))
    · refine .next m (by kernel_rfl) (by omega) ⟨i + 1, by omega, Eq.trans (b := (((f.push (.cells false t_Node [.d (.s []), .d (.s []), .d (.i .u8 0), .d (.i .i64 0), .d (.i .i64 0), .d (.i .i64 0), .nilsl, .d (.i .i64 0), .d (.i .i64 0), .d (.i .u8 0), .d (.i .i64 0), .d (.i .i64 0), .d (.i .u8 0), .d (.i .i64 0), .d (.s []), .nilsl])).set f.n (.cells false t_Node (nA id name kind flow owner at' ab am acs width quota stand fails token vk vn vs vb vm vcs))).push (.cells false t_Node (nA id name kind flow owner at' ab am acs width quota stand fails token vk vn vs vb vm vcs))).get (h.n)) (by kernel_rfl) hb3, Eq.trans (b := (((f.push (.cells false t_Node [.d (.s []), .d (.s []), .d (.i .u8 0), .d (.i .i64 0), .d (.i .i64 0), .d (.i .i64 0), .nilsl, .d (.i .i64 0), .d (.i .i64 0), .d (.i .u8 0), .d (.i .i64 0), .d (.i .i64 0), .d (.i .u8 0), .d (.i .i64 0), .d (.s []), .nilsl])).set f.n (.cells false t_Node (nA id name kind flow owner at' ab am acs width quota stand fails token vk vn vs vb vm vcs))).push (.cells false t_Node (nA id name kind flow owner at' ab am acs width quota stand fails token vk vn vs vb vm vcs))).get q) (by kernel_rfl) hq3, .of (by kernel_rfl) ⟨by kernel_rfl, by kernel_rfl, ?_, by kernel_rfl, by kernel_rfl, ?_, trivial⟩⟩
      · exact Eq.trans (b := .d (.i .i64 (sumC ncs c4 p i))) (by kernel_rfl) (by rw [hsum, e2])
      · exact Eq.trans (b := .d (.i .i64 (wrap .i64 (.ofNat i + 1)))) (by kernel_rfl) (inc63 (by omega))
  · have : m = 0 := by rw [iLt_not] at e; simp only [Int.ofNat_eq_natCast] at e; omega
    subst this
    have hin : i = nn := by omega
    subst hin
    exact .out true 1 (by kernel_rfl) (.retX (.d (.i .i64 (sumC ncs c4 p i))) (by kernel_rfl) rfl)
theorem pickAll {cs : List DV} (hc : NodeL cs) (h : Heap) : Cal E f_bound_Left_1 [.agg (cs.map .d)] h (.nrm, .d (.b true), h) := by
  obtain ⟨id, name, kind, flow, owner, at', ab, am, acs, width, quota, stand, fails, token, vk, vn, vs, vb, vm, vcs, rfl, _⟩ := hc
  refine .w n_bound_Left_1 rfl (ds := [.agg (nD id name kind flow owner at' ab am acs width quota stand fails token vk vn vs vb vm vcs)]) (bor := false) rfl ?_
  exact .ret rfl (by kernel_rfl)
theorem pickFlow {cs : List DV} {q : Nat} {f : Int} (hc : NodeL cs) {h : Heap} (hq : h.get q = some (.cells false t_int [.d (.i .i64 f)])) : Cal E f_bound_Flow_1 [.agg (cs.map .d), .ptr q 0] h (.nrm, .d (.b (iEq (flowC cs) f)), h.push (.cells false t_Node (cs.map .d))) := by
  obtain ⟨id, name, kind, flow, owner, at', ab, am, acs, width, quota, stand, fails, token, vk, vn, vs, vb, vm, vcs, rfl, _⟩ := hc
  refine .wr n_bound_Flow_1 (.inr rfl) ?_
  refine .op (load_ptr E (ag := false) (n := 1) (off := 3) (push_n h (.cells false t_Node (nA id name kind flow owner at' ab am acs width quota stand fails token vk vn vs vb vm vcs))) rfl rfl) (by kernel_rfl) ?_
  refine .op (load_q (push_of hq (.cells false t_Node (nA id name kind flow owner at' ab am acs width quota stand fails token vk vn vs vb vm vcs)))) (by kernel_rfl) ?_
  exact .retR (by kernel_rfl) (by kernel_rfl)
theorem left_ok {h : Heap} (hN : NodesR nn ncs) : Cal E f_bound_Left [.agg (sA c1 c2 c3 c4 c5 nf nb nn ncs tk)] h (.nrm, .d (.i .i64 (sumC ncs c4 (fun _ => true) nn)), h) := by
  refine .w n_bound_Left rfl (ds := [.agg (sD c1 c2 c3 c4 c5 nf nb nn ncs tk)]) (bor := false) rfl ?_
  refine .callv (fun h => sumOwn (h := h) (c1 := c1) (c2 := c2) (c3 := c3) (c4 := c4) (c5 := c5) (nf := nf) (nb := nb) (tk := tk) (p := fun _ => true) hN (fun i hi h => pickAll (hN.c i hi) h)) (by kernel_rfl) ?_
  exact .ret rfl (by kernel_rfl)
theorem flow_ok {h : Heap} {f : Int} (hN : NodesR nn ncs) : Cal E f_bound_Flow [.agg (sA c1 c2 c3 c4 c5 nf nb nn ncs tk), .d (.i .i64 f)] h (.nrm, .d (.i .i64 (sumC ncs c4 (fun c => iEq (flowC c) f) nn)), h) := by
  obtain ⟨v, h', hc, rfl⟩ := sumShared (c1 := c1) (c2 := c2) (c3 := c3) (c4 := c4) (c5 := c5) (nf := nf) (nb := nb) (tk := tk) (h := (Heap.empty.push (.cells false t_State (sA c1 c2 c3 c4 c5 nf nb nn ncs tk))).push (.cells false t_int [.d (.i .i64 f)])) (g := f_bound_Flow_1) (q := 1) (p := fun c => iEq (flowC c) f) (push_n (Heap.empty.push _) _) hN (fun i hi h' hq => pickFlow (hN.c i hi) hq)
  refine .w n_bound_Flow rfl (ds := [.agg (sD c1 c2 c3 c4 c5 nf nb nn ncs tk), .i .i64 f]) (bor := false) rfl ?_
  refine .call hc (by kernel_rfl) ?_
  exact .ret rfl (by kernel_rfl)
theorem room_ok {h : Heap} (hN : NodesR nn ncs) : Cal E f_bound_Room [.agg (sA c1 c2 c3 c4 c5 nf nb nn ncs tk)] h (.nrm, .d (.i .i64 (wrap .i64 (sumC ncs c4 (fun _ => true) nn * 39804))), h) := by
  refine .w n_bound_Room rfl (ds := [.agg (sD c1 c2 c3 c4 c5 nf nb nn ncs tk)]) (bor := false) rfl ?_
  refine .callv (fun h => left_ok (h := h) (c1 := c1) (c2 := c2) (c3 := c3) (c4 := c4) (c5 := c5) (nf := nf) (nb := nb) (tk := tk) hN) (by kernel_rfl) ?_
  exact .ret rfl (by kernel_rfl)
theorem most_cfg {h : Heap} : Cal E f_bound_Most [.agg [.d (.i .i64 c1), .d (.i .i64 c2), .d (.i .i64 c3), .d (.i .i64 c4), .d (.i .i64 c5)]] h (.nrm, .d (.i .i64 (wrap .i64 (wrap .i64 (wrap .i64 (2 * wrap .i64 (c4 + 1)) * c1) * c5))), h) := by
  refine .w n_bound_Most rfl (ds := [.agg [.i .i64 c1, .i .i64 c2, .i .i64 c3, .i .i64 c4, .i .i64 c5]]) (bor := false) rfl ?_
  exact .ret rfl (by kernel_rfl)
end
end
end Go.Proofs.YtjacnbabnpgpaaaGreatDoor
