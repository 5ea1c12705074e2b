/- Contracts: value.Same beside none; op.Right. -/
import Derived.Test.YtjacnbabnpgpaaaGreatDoorG
import Derived.Test.YtjacnbabnpgpaaaGreatDoorD
import Derived.Test.YtjacnbabnpgpaaaGreatDoorE
namespace Go.Proofs.YtjacnbabnpgpaaaGreatDoor
noncomputable section
open Go Go.Abs
set_option maxRecDepth 100000
theorem valRightT_ok {h : Heap} {args : List AV} {bor : Bool} {v : ValS} {cs : List DV} (hv : ValT v cs) (ha : stripArgs h args = some ([.agg cs], bor)) : Cal E f_value_Right args h (.nrm, .d (.b (rightV v)), h) := by
  rcases hv with hv | ⟨k, n, s, rfl, rfl, _⟩
  · exact valRight_ok hv ha
  · exact valRight0_ok ha
def sameZ (k n : Int) (s : List UInt8) (m : Nat) : Bool := iEq k 0 && (iEq n 0 && (strEq s [] && iEq (.ofNat m) 0))
theorem sameS {h : Heap} {k n : Int} {s : List UInt8} {b : Bool} {m : Nat} {cs : List DV} : Cal E f_value_Same [.agg [.d (.i .u8 k), .d (.i .i64 n), .d (.s s), .d (.sl b m cs)], .agg [.d (.i .u8 0), .d (.i .i64 0), .d (.s []), .nilsl]] h (.nrm, .d (.b (sameZ k n s m)), h) := by
  have hq : ∀ h, Cal E f_slices_EqualFunc_Value [.d (.sl b m cs), .nilsl, .d (.fn (.func f_value_Same) [] [])] h (.nrm, .d (.b (iEq (.ofNat m) 0)), h) := fun h => by
    refine .w n_slices_EqualFunc_Value rfl (ds := [.sl b m cs, .nsl, .fn (.func f_value_Same) [] []]) (bor := false) rfl ?_
    refine .br (!iEq (.ofNat m) 0) (by kernel_rfl) (fun e => .retB false (by kernel_rfl) ?_) (fun e => ?_)
    · rw [Bool.not_eq_true'] at e; rw [e]
    refine .loop false (fun j tm h' => h' = .empty ∧ St 32 [(15, .d (.sl b m cs)), (16, mkI m), (17, mkI 0)] tm) 0 (by kernel_rfl)
      ⟨by kernel_rfl, .of (by kernel_rfl) ⟨by kernel_rfl, by kernel_rfl, by kernel_rfl, trivial⟩⟩ ?_
    rintro j tm h' ⟨rfl, g, rfl⟩
    refine .br (iLt 0 (.ofNat m)) (by kernel_rfl) (fun e2 => ?_) (fun _ => ?_)
    · rw [Bool.not_eq_false'] at e; rw [iEq_iff] at e; rw [e] at e2; cases e2
    refine .out false 1 (by kernel_rfl) (.retB true (by kernel_rfl) ?_)
    rw [Bool.not_eq_false'] at e; rw [e]
  refine .w n_value_Same rfl (ds := [.agg [.i .u8 k, .i .i64 n, .s s, .sl b m cs], .agg [.i .u8 0, .i .i64 0, .s [], .nsl]]) (bor := false) rfl ?_
  refine .br (iEq k 0) (by kernel_rfl) (fun e1 => ?_) (fun e => .retB false (by kernel_rfl) (by simp only [sameZ, e, Bool.false_and]))
  refine .br (iEq n 0) (by kernel_rfl) (fun e2 => ?_) (fun e => .retB false (by kernel_rfl) (by simp only [sameZ, e, Bool.false_and, Bool.and_false]))
  refine .br (strEq s []) (by kernel_rfl) (fun e3 => ?_) (fun e => .retB false (by kernel_rfl) (by simp only [sameZ, e, Bool.false_and, Bool.and_false]))
  refine .callv hq (by kernel_rfl) ?_
  refine .retB (iEq (.ofNat m) 0) (by kernel_rfl) ?_
  simp only [sameZ, e1, e2, e3, Bool.true_and]
structure OpS where
  what : Int
  id : List UInt8
  token : Int
  val : ValS
  frag : List ItemS
  quota : Int
def OpR (o : OpS) (cs : List DV) : Prop := ∃ vcs F, cs = .i .u8 o.what :: .s o.id :: .i .i64 o.token :: (vcs ++ [F, .i .i64 o.quota]) ∧ ValR o.val vcs ∧ (ItemsR o.frag F ∧ F ≠ .nsl) ∧ R8 o.what ∧ R64 o.token ∧ R64 o.quota
def zeroV : ValS → Bool
  | .mk k n s l => sameZ k n s l.length
def rightK (hf hq hi ht hv : Bool) (o : OpS) : Bool := (match hf with | true => rightF o.frag | false => iEq (.ofNat o.frag.length) 0) && ((match hq with | true => !(iLt o.quota 0) && !(iLt 400 o.quota) | false => iEq o.quota 0) && ((match hi with | true => okID o.id | false => strEq o.id []) &&
  ((match ht with | true => !(iLt o.token 1) | false => iEq o.token 0) && (match hv with | true => rightV o.val | false => zeroV o.val))))
def rightO (o : OpS) : Bool := if o.what = 1 then rightK true true false false false o else if o.what = 2 then rightK false false true false false o else if o.what = 3 then rightK true false true true true o else if o.what = 4 then rightK false false true true false o else if o.what = 5 then rightK false false true false false o else false
abbrev aO (w tok k n q : Int) (id vs : List UInt8) (vb : Bool) (vl : List ValS) (vcs : List DV) (fb : Bool) (l : List ItemS) (fcs : List DV) : List AV := [.d (.i .u8 w), .d (.s id), .d (.i .i64 tok), .d (.i .u8 k), .d (.i .i64 n), .d (.s vs), .d (.sl vb vl.length vcs), .d (.sl fb l.length fcs), .d (.i .i64 q)]
abbrev dO (w tok k n q : Int) (id vs : List UInt8) (vb : Bool) (vl : List ValS) (vcs : List DV) (fb : Bool) (l : List ItemS) (fcs : List DV) : List DV := [.i .u8 w, .s id, .i .i64 tok, .i .u8 k, .i .i64 n, .s vs, .sl vb vl.length vcs, .sl fb l.length fcs, .i .i64 q]
abbrev oO (w tok k n q : Int) (id vs : List UInt8) (vl : List ValS) (l : List ItemS) : OpS := ⟨w, id, tok, .mk k n vs vl, l, q⟩
theorem of_lit {h : Heap} {args : List AV} {bor : Bool} {w : Int} (K : Nat) (hK : ofK w = K) (hw : 0 ≤ w) (hw2 : w ≤ 255) (ha : stripArgs h args = some ([.i .u8 w], bor)) : Cal E f_op_of args h (.nrm, .d (.i .u8 (.ofNat K)), h) := by
  have := of_ok hw hw2 ha
  rw [hK] at this; exact this
theorem either_t {h : Heap} {b c : Bool} : Cal E f_op_either [.d (.b true), .d (.b b), .d (.b c)] h (.nrm, .d (.b b), h) := either_ok (a := true) (b := b) (c := c) (bor := false) rfl
theorem either_f {h : Heap} {b c : Bool} : Cal E f_op_either [.d (.b false), .d (.b b), .d (.b c)] h (.nrm, .d (.b c), h) := either_ok (a := false) (b := b) (c := c) (bor := false) rfl
theorem opRightss {h : Heap} {args : List AV} {bor : Bool} {w tok k n q : Int} {id vs : List UInt8} {vb : Bool} {vl : List ValS} {vcs : List DV} (hv : ValR (.mk k n vs vl) [.i .u8 k, .i .i64 n, .s vs, .sl vb vl.length vcs]) {fb : Bool} {l : List ItemS} {fcs : List DV} (hfr : ItemsR l (.sl fb l.length fcs)) (hw0 : 0 ≤ w) (hw1 : w ≤ 255) (ha : stripArgs h args = some ([.agg [.i .u8 w, .s id, .i .i64 tok, .i .u8 k, .i .i64 n, .s vs, .sl vb vl.length vcs, .sl fb l.length fcs, .i .i64 q]], bor)) : Cal E f_op_Right args h (.nrm, .d (.b (rightO ⟨w, id, tok, .mk k n vs vl, l, q⟩)), h) := by
  refine .w n_op_Right rfl ha ?_
  by_cases hw : w = 1
  · subst hw
    have hk : rightO ⟨1, id, tok, .mk k n vs vl, l, q⟩ = rightK true true false false false ⟨1, id, tok, .mk k n vs vl, l, q⟩ := rfl
    rw [hk]
    refine .callv (fun h => of_lit (h := h) (args := [.d (.i .u8 1)]) 3 rfl (by omega) (by omega) rfl) (by kernel_rfl) ?_
    refine .br true (by kernel_rfl) (fun _ => ?_) (fun e => by cases e)
    refine .callv (fun h => fragRight_ok (h := h) (args := [.d (.sl fb l.length fcs)]) (l := l) hfr rfl) (by kernel_rfl) ?_
    refine .callv (fun h => either_t (h := h) (b := rightF l) (c := iEq (.ofNat l.length) 0)) (by kernel_rfl) ?_
    refine .br (rightF l) (by kernel_rfl) (fun e1 => ?_) (fun e => .retB false (by kernel_rfl) (by simp only [rightK, List.length_nil, e, Bool.false_and]))
    refine .br (!(iLt q 0)) (by kernel_rfl) (fun e2 => ?_) (fun e2 => ?_)
    rotate_left
    · refine .callv (fun h => either_t (h := h) (b := false) (c := iEq q 0)) (by kernel_rfl) ?_
      refine .br false (by kernel_rfl) (fun e => by cases e) (fun _ => .retB false (by kernel_rfl) (by simp only [rightK, e2, Bool.false_and, Bool.and_false]))
    refine .callv (fun h => either_t (h := h) (b := !(iLt 400 q)) (c := iEq q 0)) (by kernel_rfl) ?_
    refine .br (!(iLt 400 q)) (by kernel_rfl) (fun e3 => ?_) (fun e => .retB false (by kernel_rfl) (by simp only [rightK, e, Bool.false_and, Bool.and_false]))
    refine .callv (fun h => opID_ok (h := h) (args := [.d (.s id)]) (s := id) rfl) (by kernel_rfl) ?_
    refine .callv (fun h => either_f (h := h) (b := okID id) (c := strEq id [])) (by kernel_rfl) ?_
    refine .br (strEq id []) (by kernel_rfl) (fun e4 => ?_) (fun e => .retB false (by kernel_rfl) (by simp only [rightK, e, Bool.false_and, Bool.and_false]))
    refine .callv (fun h => either_f (h := h) (b := !(iLt tok 1)) (c := iEq tok 0)) (by kernel_rfl) ?_
    refine .br (iEq tok 0) (by kernel_rfl) (fun e5 => ?_) (fun e => .retB false (by kernel_rfl) (by simp only [rightK, e, Bool.false_and, Bool.and_false]))
    refine .callv (fun h => valRightT_ok (h := h) (args := [.agg [.d (.i .u8 k), .d (.i .i64 n), .d (.s vs), .d (.sl vb vl.length vcs)]]) (v := .mk k n vs vl) (.inl hv) rfl) (by kernel_rfl) ?_
    refine .callv (fun h => sameS (h := h) (k := k) (n := n) (s := vs) (b := vb) (m := vl.length) (cs := vcs)) (by kernel_rfl) ?_
    refine .callv (fun h => either_f (h := h) (b := rightV (.mk k n vs vl)) (c := sameZ k n vs vl.length)) (by kernel_rfl) ?_
    refine .retB (sameZ k n vs vl.length) (by kernel_rfl) ?_
    simp only [rightK, zeroV, List.length_nil, e1, e2, e3, e4, e5, Bool.true_and]
  by_cases hw : w = 2
  · subst hw
    have hk : rightO ⟨2, id, tok, .mk k n vs vl, l, q⟩ = rightK false false true false false ⟨2, id, tok, .mk k n vs vl, l, q⟩ := rfl
    rw [hk]
    refine .callv (fun h => of_lit (h := h) (args := [.d (.i .u8 2)]) 4 rfl (by omega) (by omega) rfl) (by kernel_rfl) ?_
    refine .br true (by kernel_rfl) (fun _ => ?_) (fun e => by cases e)
    refine .callv (fun h => fragRight_ok (h := h) (args := [.d (.sl fb l.length fcs)]) (l := l) hfr rfl) (by kernel_rfl) ?_
    refine .callv (fun h => either_f (h := h) (b := rightF l) (c := iEq (.ofNat l.length) 0)) (by kernel_rfl) ?_
    refine .br (iEq (.ofNat l.length) 0) (by kernel_rfl) (fun e1 => ?_) (fun e => .retB false (by kernel_rfl) (by simp only [rightK, List.length_nil, e, Bool.false_and]))
    refine .br (!(iLt q 0)) (by kernel_rfl) (fun e2 => ?_) (fun e2 => ?_)
    rotate_left
    · refine .callv (fun h => either_f (h := h) (b := false) (c := iEq q 0)) (by kernel_rfl) ?_
      refine .br (iEq q 0) (by kernel_rfl) (fun e => ?_) (fun e => .retB false (by kernel_rfl) (by simp only [rightK, e, Bool.false_and, Bool.and_false]))
      exfalso
      rw [Bool.not_eq_false', iLt_iff] at e2; rw [iEq_iff] at e; omega
    refine .callv (fun h => either_f (h := h) (b := !(iLt 400 q)) (c := iEq q 0)) (by kernel_rfl) ?_
    refine .br (iEq q 0) (by kernel_rfl) (fun e3 => ?_) (fun e => .retB false (by kernel_rfl) (by simp only [rightK, e, Bool.false_and, Bool.and_false]))
    refine .callv (fun h => opID_ok (h := h) (args := [.d (.s id)]) (s := id) rfl) (by kernel_rfl) ?_
    refine .callv (fun h => either_t (h := h) (b := okID id) (c := strEq id [])) (by kernel_rfl) ?_
    refine .br (okID id) (by kernel_rfl) (fun e4 => ?_) (fun e => .retB false (by kernel_rfl) (by simp only [rightK, e, Bool.false_and, Bool.and_false]))
    refine .callv (fun h => either_f (h := h) (b := !(iLt tok 1)) (c := iEq tok 0)) (by kernel_rfl) ?_
    refine .br (iEq tok 0) (by kernel_rfl) (fun e5 => ?_) (fun e => .retB false (by kernel_rfl) (by simp only [rightK, e, Bool.false_and, Bool.and_false]))
    refine .callv (fun h => valRightT_ok (h := h) (args := [.agg [.d (.i .u8 k), .d (.i .i64 n), .d (.s vs), .d (.sl vb vl.length vcs)]]) (v := .mk k n vs vl) (.inl hv) rfl) (by kernel_rfl) ?_
    refine .callv (fun h => sameS (h := h) (k := k) (n := n) (s := vs) (b := vb) (m := vl.length) (cs := vcs)) (by kernel_rfl) ?_
    refine .callv (fun h => either_f (h := h) (b := rightV (.mk k n vs vl)) (c := sameZ k n vs vl.length)) (by kernel_rfl) ?_
    refine .retB (sameZ k n vs vl.length) (by kernel_rfl) ?_
    simp only [rightK, zeroV, List.length_nil, e1, e3, e4, e5, Bool.true_and]
  by_cases hw : w = 3
  · subst hw
    have hk : rightO ⟨3, id, tok, .mk k n vs vl, l, q⟩ = rightK true false true true true ⟨3, id, tok, .mk k n vs vl, l, q⟩ := rfl
    rw [hk]
    refine .callv (fun h => of_lit (h := h) (args := [.d (.i .u8 3)]) 29 rfl (by omega) (by omega) rfl) (by kernel_rfl) ?_
    refine .br true (by kernel_rfl) (fun _ => ?_) (fun e => by cases e)
    refine .callv (fun h => fragRight_ok (h := h) (args := [.d (.sl fb l.length fcs)]) (l := l) hfr rfl) (by kernel_rfl) ?_
    refine .callv (fun h => either_t (h := h) (b := rightF l) (c := iEq (.ofNat l.length) 0)) (by kernel_rfl) ?_
    refine .br (rightF l) (by kernel_rfl) (fun e1 => ?_) (fun e => .retB false (by kernel_rfl) (by simp only [rightK, List.length_nil, e, Bool.false_and]))
    refine .br (!(iLt q 0)) (by kernel_rfl) (fun e2 => ?_) (fun e2 => ?_)
    rotate_left
    · refine .callv (fun h => either_f (h := h) (b := false) (c := iEq q 0)) (by kernel_rfl) ?_
      refine .br (iEq q 0) (by kernel_rfl) (fun e => ?_) (fun e => .retB false (by kernel_rfl) (by simp only [rightK, e, Bool.false_and, Bool.and_false]))
      exfalso
      rw [Bool.not_eq_false', iLt_iff] at e2; rw [iEq_iff] at e; omega
    refine .callv (fun h => either_f (h := h) (b := !(iLt 400 q)) (c := iEq q 0)) (by kernel_rfl) ?_
    refine .br (iEq q 0) (by kernel_rfl) (fun e3 => ?_) (fun e => .retB false (by kernel_rfl) (by simp only [rightK, e, Bool.false_and, Bool.and_false]))
    refine .callv (fun h => opID_ok (h := h) (args := [.d (.s id)]) (s := id) rfl) (by kernel_rfl) ?_
    refine .callv (fun h => either_t (h := h) (b := okID id) (c := strEq id [])) (by kernel_rfl) ?_
    refine .br (okID id) (by kernel_rfl) (fun e4 => ?_) (fun e => .retB false (by kernel_rfl) (by simp only [rightK, e, Bool.false_and, Bool.and_false]))
    refine .callv (fun h => either_t (h := h) (b := !(iLt tok 1)) (c := iEq tok 0)) (by kernel_rfl) ?_
    refine .br (!(iLt tok 1)) (by kernel_rfl) (fun e5 => ?_) (fun e => .retB false (by kernel_rfl) (by simp only [rightK, e, Bool.false_and, Bool.and_false]))
    refine .callv (fun h => valRightT_ok (h := h) (args := [.agg [.d (.i .u8 k), .d (.i .i64 n), .d (.s vs), .d (.sl vb vl.length vcs)]]) (v := .mk k n vs vl) (.inl hv) rfl) (by kernel_rfl) ?_
    refine .callv (fun h => sameS (h := h) (k := k) (n := n) (s := vs) (b := vb) (m := vl.length) (cs := vcs)) (by kernel_rfl) ?_
    refine .callv (fun h => either_t (h := h) (b := rightV (.mk k n vs vl)) (c := sameZ k n vs vl.length)) (by kernel_rfl) ?_
    refine .retB (rightV (.mk k n vs vl)) (by kernel_rfl) ?_
    simp only [rightK, zeroV, List.length_nil, e1, e3, e4, e5, Bool.true_and]
  by_cases hw : w = 4
  · subst hw
    have hk : rightO ⟨4, id, tok, .mk k n vs vl, l, q⟩ = rightK false false true true false ⟨4, id, tok, .mk k n vs vl, l, q⟩ := rfl
    rw [hk]
    refine .callv (fun h => of_lit (h := h) (args := [.d (.i .u8 4)]) 12 rfl (by omega) (by omega) rfl) (by kernel_rfl) ?_
    refine .br true (by kernel_rfl) (fun _ => ?_) (fun e => by cases e)
    refine .callv (fun h => fragRight_ok (h := h) (args := [.d (.sl fb l.length fcs)]) (l := l) hfr rfl) (by kernel_rfl) ?_
    refine .callv (fun h => either_f (h := h) (b := rightF l) (c := iEq (.ofNat l.length) 0)) (by kernel_rfl) ?_
    refine .br (iEq (.ofNat l.length) 0) (by kernel_rfl) (fun e1 => ?_) (fun e => .retB false (by kernel_rfl) (by simp only [rightK, List.length_nil, e, Bool.false_and]))
    refine .br (!(iLt q 0)) (by kernel_rfl) (fun e2 => ?_) (fun e2 => ?_)
    rotate_left
    · refine .callv (fun h => either_f (h := h) (b := false) (c := iEq q 0)) (by kernel_rfl) ?_
      refine .br (iEq q 0) (by kernel_rfl) (fun e => ?_) (fun e => .retB false (by kernel_rfl) (by simp only [rightK, e, Bool.false_and, Bool.and_false]))
      exfalso
      rw [Bool.not_eq_false', iLt_iff] at e2; rw [iEq_iff] at e; omega
    refine .callv (fun h => either_f (h := h) (b := !(iLt 400 q)) (c := iEq q 0)) (by kernel_rfl) ?_
    refine .br (iEq q 0) (by kernel_rfl) (fun e3 => ?_) (fun e => .retB false (by kernel_rfl) (by simp only [rightK, e, Bool.false_and, Bool.and_false]))
    refine .callv (fun h => opID_ok (h := h) (args := [.d (.s id)]) (s := id) rfl) (by kernel_rfl) ?_
    refine .callv (fun h => either_t (h := h) (b := okID id) (c := strEq id [])) (by kernel_rfl) ?_
    refine .br (okID id) (by kernel_rfl) (fun e4 => ?_) (fun e => .retB false (by kernel_rfl) (by simp only [rightK, e, Bool.false_and, Bool.and_false]))
    refine .callv (fun h => either_t (h := h) (b := !(iLt tok 1)) (c := iEq tok 0)) (by kernel_rfl) ?_
    refine .br (!(iLt tok 1)) (by kernel_rfl) (fun e5 => ?_) (fun e => .retB false (by kernel_rfl) (by simp only [rightK, e, Bool.false_and, Bool.and_false]))
    refine .callv (fun h => valRightT_ok (h := h) (args := [.agg [.d (.i .u8 k), .d (.i .i64 n), .d (.s vs), .d (.sl vb vl.length vcs)]]) (v := .mk k n vs vl) (.inl hv) rfl) (by kernel_rfl) ?_
    refine .callv (fun h => sameS (h := h) (k := k) (n := n) (s := vs) (b := vb) (m := vl.length) (cs := vcs)) (by kernel_rfl) ?_
    refine .callv (fun h => either_f (h := h) (b := rightV (.mk k n vs vl)) (c := sameZ k n vs vl.length)) (by kernel_rfl) ?_
    refine .retB (sameZ k n vs vl.length) (by kernel_rfl) ?_
    simp only [rightK, zeroV, List.length_nil, e1, e3, e4, e5, Bool.true_and]
  by_cases hw : w = 5
  · subst hw
    have hk : rightO ⟨5, id, tok, .mk k n vs vl, l, q⟩ = rightK false false true false false ⟨5, id, tok, .mk k n vs vl, l, q⟩ := rfl
    rw [hk]
    refine .callv (fun h => of_lit (h := h) (args := [.d (.i .u8 5)]) 4 rfl (by omega) (by omega) rfl) (by kernel_rfl) ?_
    refine .br true (by kernel_rfl) (fun _ => ?_) (fun e => by cases e)
    refine .callv (fun h => fragRight_ok (h := h) (args := [.d (.sl fb l.length fcs)]) (l := l) hfr rfl) (by kernel_rfl) ?_
    refine .callv (fun h => either_f (h := h) (b := rightF l) (c := iEq (.ofNat l.length) 0)) (by kernel_rfl) ?_
    refine .br (iEq (.ofNat l.length) 0) (by kernel_rfl) (fun e1 => ?_) (fun e => .retB false (by kernel_rfl) (by simp only [rightK, List.length_nil, e, Bool.false_and]))
    refine .br (!(iLt q 0)) (by kernel_rfl) (fun e2 => ?_) (fun e2 => ?_)
    rotate_left
    · refine .callv (fun h => either_f (h := h) (b := false) (c := iEq q 0)) (by kernel_rfl) ?_
      refine .br (iEq q 0) (by kernel_rfl) (fun e => ?_) (fun e => .retB false (by kernel_rfl) (by simp only [rightK, e, Bool.false_and, Bool.and_false]))
      exfalso
      rw [Bool.not_eq_false', iLt_iff] at e2; rw [iEq_iff] at e; omega
    refine .callv (fun h => either_f (h := h) (b := !(iLt 400 q)) (c := iEq q 0)) (by kernel_rfl) ?_
    refine .br (iEq q 0) (by kernel_rfl) (fun e3 => ?_) (fun e => .retB false (by kernel_rfl) (by simp only [rightK, e, Bool.false_and, Bool.and_false]))
    refine .callv (fun h => opID_ok (h := h) (args := [.d (.s id)]) (s := id) rfl) (by kernel_rfl) ?_
    refine .callv (fun h => either_t (h := h) (b := okID id) (c := strEq id [])) (by kernel_rfl) ?_
    refine .br (okID id) (by kernel_rfl) (fun e4 => ?_) (fun e => .retB false (by kernel_rfl) (by simp only [rightK, e, Bool.false_and, Bool.and_false]))
    refine .callv (fun h => either_f (h := h) (b := !(iLt tok 1)) (c := iEq tok 0)) (by kernel_rfl) ?_
    refine .br (iEq tok 0) (by kernel_rfl) (fun e5 => ?_) (fun e => .retB false (by kernel_rfl) (by simp only [rightK, e, Bool.false_and, Bool.and_false]))
    refine .callv (fun h => valRightT_ok (h := h) (args := [.agg [.d (.i .u8 k), .d (.i .i64 n), .d (.s vs), .d (.sl vb vl.length vcs)]]) (v := .mk k n vs vl) (.inl hv) rfl) (by kernel_rfl) ?_
    refine .callv (fun h => sameS (h := h) (k := k) (n := n) (s := vs) (b := vb) (m := vl.length) (cs := vcs)) (by kernel_rfl) ?_
    refine .callv (fun h => either_f (h := h) (b := rightV (.mk k n vs vl)) (c := sameZ k n vs vl.length)) (by kernel_rfl) ?_
    refine .retB (sameZ k n vs vl.length) (by kernel_rfl) ?_
    simp only [rightK, zeroV, List.length_nil, e1, e3, e4, e5, Bool.true_and]
  have hK : ofK w = 0 := by unfold ofK; simp [*]
  refine .callv (fun h => of_lit (h := h) (args := [.d (.i .u8 w)]) 0 hK hw0 hw1 rfl) (by kernel_rfl) ?_
  refine .br false (by kernel_rfl) (fun e => by cases e) (fun _ => .retB false (by kernel_rfl) ?_)
  unfold rightO; simp [*]
theorem opRight_ok {h : Heap} {args : List AV} {bor : Bool} {o : OpS} {cs : List DV} (ho : OpR o cs) (ha : stripArgs h args = some ([.agg cs], bor)) : Cal E f_op_Right args h (.nrm, .d (.b (rightO o)), h) := by
  obtain ⟨w, id, tok, v, l, q⟩ := o
  obtain ⟨vcs, F, rfl, hv, hF, ⟨h0, h1⟩, _, _⟩ := ho
  cases hv with
  | sl k n vs vl vb vcs hl2 hcs hkn =>
  rcases hF with ⟨⟨rfl, hx⟩ | ⟨fb, fcs, rfl, hF1, hF2⟩, hne⟩
  · exact absurd rfl hne
  · exact opRightss (.sl k n vs vl vb vcs hl2 hcs hkn) (.inr ⟨fb, fcs, rfl, hF1, hF2⟩) h0 h1 ha
end
end Go.Proofs.YtjacnbabnpgpaaaGreatDoor
