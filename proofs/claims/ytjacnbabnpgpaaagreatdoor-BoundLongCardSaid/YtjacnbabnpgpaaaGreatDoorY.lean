/- The plain law: an item more, an id that is longer, take more; some of BoundLong's walk. -/
import Derived.Test.YtjacnbabnpgpaaaGreatDoorX
import Derived.Test.YtjacnbabnpgpaaaGreatDoorV
namespace Go.Proofs.YtjacnbabnpgpaaaGreatDoor
noncomputable section
open Go Go.Abs
set_option maxRecDepth 100000
def moreI : ItemS := ⟨[109, 111, 114, 101], 0, [], [], 0, 0⟩
def moreO (o : OpS) : OpS := { o with frag := o.frag ++ [moreI] }
def longI (o : OpS) : OpS := { o with id := o.id ++ [120] }
theorem fragB_more {l : List ItemS} (h : (l ++ [moreI]).length ≤ 40) : (fragB l).length < (fragB (l ++ [moreI])).length := by
  have hl : (l ++ [moreI]).length = l.length + 1 := List.length_append
  have e1 : (fragB l).length = (numB (.ofNat l.length)).length + (itemsB l).length := by unfold fragB; rw [List.length_append]
  have e2 : (fragB (l ++ [moreI])).length = (numB (.ofNat (l ++ [moreI]).length)).length + ((itemsB l).length + (itemsB [moreI]).length) := by
    have e : fragB (l ++ [moreI]) = numB (.ofNat (l ++ [moreI]).length) ++ (itemsB l ++ itemsB [moreI]) := by unfold fragB; rw [itemsB_append]
    rw [e]
    exact List.length_append.trans (congrArg _ List.length_append)
  have h1 := numB_one (n := .ofNat l.length) (by simp only [Int.ofNat_eq_natCast]; omega) (by simp only [Int.ofNat_eq_natCast]; omega)
  have h2 := (numB_len (.ofNat (l ++ [moreI]).length)).1
  have h3 : 1 ≤ (itemsB [moreI]).length := by
    show 1 ≤ (itemB moreI ++ itemsB []).length
    have := (numB_len moreI.kind).1
    unfold itemB
    simp only [List.length_append]; omega
  omega
theorem textB_more {s : List UInt8} {c : UInt8} (h : s.length + 1 ≤ 400) : (textB s).length < (textB (s ++ [c])).length := by
  have hl : (s ++ [c]).length = s.length + 1 := List.length_append
  have e1 : (textB s).length = (numB (.ofNat s.length)).length + s.length := by unfold textB; rw [List.length_append]
  have e2 : (textB (s ++ [c])).length = (numB (.ofNat (s.length + 1))).length + (s.length + 1) := by unfold textB; rw [List.length_append, hl]
  by_cases h1 : s.length ≤ 63
  · have := numB_one (n := .ofNat s.length) (by simp only [Int.ofNat_eq_natCast]; omega) (by simp only [Int.ofNat_eq_natCast]; omega)
    have := (numB_len (.ofNat (s.length + 1))).1
    omega
  · have h2 := numB_two (n := .ofNat s.length) (by simp only [Int.ofNat_eq_natCast]; omega) (by simp only [Int.ofNat_eq_natCast]; omega)
    have h3 : 2 ≤ (numB (.ofNat (s.length + 1))).length := by
      unfold numB
      have : zz (.ofNat (s.length + 1)) = 2 * (s.length + 1) := rfl
      rw [this]
      unfold grp
      rw [show Nat.blt (2 * (s.length + 1)) 128 = false by rw [← Bool.not_eq_true, Nat.blt_eq]; omega]
      have := (grp_len 8 (2 * (s.length + 1) / 128)).1
      show 2 ≤ (grp 8 (2 * (s.length + 1) / 128)).length + 1
      omega
    omega
theorem rightK_frag {hq hi ht hv : Bool} {o : OpS} (h : rightK true hq hi ht hv o = true) : o.frag.length ≤ 40 := by
  simp only [rightK, Bool.and_eq_true] at h
  have h := h.1
  unfold rightF at h
  rw [Bool.and_eq_true, decide_eq_true_eq] at h
  exact h.1
theorem rightK_id {hf hq ht hv : Bool} {o : OpS} (h : rightK hf hq true ht hv o = true) : o.id.length ≤ 400 := by
  simp only [rightK, Bool.and_eq_true] at h
  have h := h.2.2.1
  unfold okID at h
  simp only [Bool.and_eq_true, decide_eq_true_eq] at h
  exact h.1.2
theorem rightO1 {o : OpS} (e : o.what = 1) : rightO o = rightK true true false false false o := by unfold rightO; rw [if_pos e]
theorem rightO2 {o : OpS} (e : o.what = 2) : rightO o = rightK false false true false false o := by unfold rightO; rw [if_neg (by omega), if_pos e]
theorem rightO3 {o : OpS} (e : o.what = 3) : rightO o = rightK true false true true true o := by unfold rightO; rw [if_neg (by omega), if_neg (by omega), if_pos e]
theorem rightO4 {o : OpS} (e : o.what = 4) : rightO o = rightK false false true true false o := by unfold rightO; rw [if_neg (by omega), if_neg (by omega), if_neg (by omega), if_pos e]
theorem rightO5 {o : OpS} (e : o.what = 5) : rightO o = rightK false false true false false o := by unfold rightO; rw [if_neg (by omega), if_neg (by omega), if_neg (by omega), if_neg (by omega), if_pos e]
theorem opB1 {o : OpS} (e : o.what = 1) : opB o = numB 1 ++ fragB o.frag ++ numB o.quota := by unfold opB; rw [if_pos e]
theorem opB2 {o : OpS} (e : o.what = 2) : opB o = numB 2 ++ textB o.id := by unfold opB; rw [if_neg (by omega), if_pos e]
theorem opB3 {o : OpS} (e : o.what = 3) : opB o = numB 3 ++ textB o.id ++ numB o.token ++ valB o.val ++ fragB o.frag := by unfold opB; rw [if_neg (by omega), if_neg (by omega), if_pos e]
theorem opB4 {o : OpS} (e : o.what = 4) : opB o = numB 4 ++ textB o.id ++ numB o.token := by unfold opB; rw [if_neg (by omega), if_neg (by omega), if_neg (by omega), if_pos e]
theorem opB5 {o : OpS} (e : o.what = 5) : opB o = numB 5 ++ textB o.id := by unfold opB; rw [if_neg (by omega), if_neg (by omega), if_neg (by omega), if_neg (by omega), if_pos e]
theorem longO_lt {o p : OpS} (h : (opB o).length < (opB p).length) : longO o < longO p := by
  unfold longO; omega
theorem more_lt {o : OpS} (e : o.what = 1 ∨ o.what = 3) (h : rightO (moreO o) = true) : longO o < longO (moreO o) := by
  apply longO_lt
  rcases e with e | e
  · have e' : (moreO o).what = 1 := e
    rw [rightO1 e'] at h
    have := fragB_more (rightK_frag h)
    rw [opB1 e, opB1 e']
    simp only [List.length_append, moreO] at *
    omega
  · have e' : (moreO o).what = 3 := e
    rw [rightO3 e'] at h
    have := fragB_more (rightK_frag h)
    rw [opB3 e, opB3 e']
    simp only [List.length_append, moreO] at *
    omega
theorem long_lt {o : OpS} (e : o.what = 2 ∨ o.what = 4 ∨ o.what = 5) (h : rightO (longI o) = true) : longO o < longO (longI o) := by
  apply longO_lt
  have key : (longI o).id.length ≤ 400 → (textB o.id).length < (textB (longI o).id).length := fun hk => textB_more (c := 120) (by
    have : (longI o).id.length = o.id.length + 1 := List.length_append
    omega)
  rcases e with e | e | e
  · have e' : (longI o).what = 2 := e
    rw [rightO2 e'] at h
    have := key (rightK_id h)
    rw [opB2 e, opB2 e', List.length_append, List.length_append]; omega
  · have e' : (longI o).what = 4 := e
    rw [rightO4 e'] at h
    have := key (rightK_id h)
    rw [opB4 e, opB4 e']
    have ht : (longI o).token = o.token := rfl
    simp only [List.length_append, ht]; omega
  · have e' : (longI o).what = 5 := e
    rw [rightO5 e'] at h
    have := key (rightK_id h)
    rw [opB5 e, opB5 e', List.length_append, List.length_append]; omega
structure InO (o : OpS) (cs : List DV) : Prop where
  r : OpR o cs
  v : lenV o.val
  f : o.frag.length ≤ 9223372036854775807
  a : ∀ x ∈ o.frag, x.after.length ≤ 9223372036854775807
theorem Few10_ok {h : Heap} {args : List AV} {bor : Bool} {o : OpS} {cs : List DV} (ho : InO o cs) (ha : stripArgs h args = some ([.agg cs], bor)) : ∃ x, (∃ b, x = .b b) ∧ Cal E f_foremanlaw10_Few args h (.nrm, .d x, h) := by
  obtain ⟨⟨vcs, F, rfl, hv, ⟨hF, hne⟩, _⟩, hlv, hlf, hla⟩ := ho
  obtain ⟨w, id, tok, v, l, q⟩ := o
  simp only at hv hF hlv hlf hla ha
  rcases hF with ⟨rfl, _⟩ | ⟨fb, fcs, rfl, hF1, hF2⟩
  · exact absurd rfl hne
  have hv2 := hv
  obtain ⟨k, n, s, vb, vm, vcs', rfl⟩ := hv.lit
  obtain ⟨x8, ⟨b8, rfl⟩, h8⟩ := Few8_ok (h := Heap.empty.push (.cells false t_Op [.d (.i .u8 w), .d (.s id), .d (.i .i64 tok), .d (.i .u8 k), .d (.i .i64 n), .d (.s s), .d (.sl vb vm vcs'), .d (.sl fb l.length fcs), .d (.i .i64 q)])) (args := [.agg [.d (.i .u8 k), .d (.i .i64 n), .d (.s s), .d (.sl vb vm vcs')]]) (bor := false) hv2 hlv rfl
  obtain ⟨x9, ⟨b9, rfl⟩, h9⟩ := Few9_ok (h := Heap.empty.push (.cells false t_Op [.d (.i .u8 w), .d (.s id), .d (.i .i64 tok), .d (.i .u8 k), .d (.i .i64 n), .d (.s s), .d (.sl vb vm vcs'), .d (.sl fb l.length fcs), .d (.i .i64 q)])) (args := [.d (.sl fb l.length fcs)]) (bor := false) hF1 hF2 hlf hla rfl
  refine Cal.wx n_foremanlaw10_Few rfl ha ?_
  refine .call h8 (by kernel_rfl) ?_
  refine .br b8 (by kernel_rfl) (fun _ => ?_) (fun _ => ?_)
  rotate_left
  · exact .retD (.b false) rfl (by kernel_rfl) ⟨_, rfl⟩
  refine .call h9 (by kernel_rfl) ?_
  refine .br b9 (by kernel_rfl) (fun _ => ?_) (fun _ => ?_)
  rotate_left
  · exact .retD (.b false) rfl (by kernel_rfl) ⟨_, rfl⟩
  exact .retD (.b (!(iLt 500 (.ofNat id.length)))) rfl (by kernel_rfl) ⟨_, rfl⟩
end
end Go.Proofs.YtjacnbabnpgpaaaGreatDoor
