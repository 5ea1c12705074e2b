/- KeepNone on the abstract machine: true, whatever the operation, and the length. -/
import Derived.Test.YtenpedmcbmlmkaaGreatDoorAw
import Derived.Test.YtenpedmcbmlmkaaGreatDoorRun
import Derived.Test.YtenpedmcbmlmkaaGreatDoorFew
namespace Go.Proofs.YtenpedmcbmlmkaaGreatDoor
noncomputable section
open Go Go.Abs
set_option maxRecDepth 100000
theorem fn3 : E.fn 3 = some a3 := by kernel_rfl
theorem fn4 : E.fn 4 = some a4 := by kernel_rfl
theorem fn17 : E.fn 17 = some a17 := by kernel_rfl
theorem fn35 : E.fn 35 = some a35 := by kernel_rfl

/-- The last look. -/
theorem last_ok {tm : List AV} {h : Heap} {Q : Ex → List AV → Heap → Prop} (hl : tm.length = 122) (h8 : getL tm 8 = .d (.i .i64 0)) (h10 : getL tm 10 = .d (.i .i64 2)) (h12 : getL tm 12 = .d (.i .i64 2)) (h14 : getL tm 14 = .d (.i .i64 1)) (h16 : getL tm 16 = .d (.i .i64 50))
    (h18 : getL tm 18 = .d (.i .i64 2)) (hQ : ∀ tm h, getL tm 4 = .d (.b true) → Q .ret tm h) : wpC E q7 tm h Q := by
  show wpC E (.seq (.reg q7.fst.ops) .ret) _ _ _
  refine .seq (.reg ?_)
  have e0 : iEq 0 0 = true := rfl
  have e2 : iEq 2 2 = true := rfl
  have e1 : iEq 1 1 = true := rfl
  have e50 : iEq 50 50 = true := rfl
  simp [q7, rB, a3, AC.fst, AC.snd, AC.ops, wpO, wanted, stepA, s_mv, s_bin, s_pick, binA, intA, arith, arith2, mkB, boolA, kindEq, ov, X.ev, setD, getL_put, setL_length, hl, h8, h10, h12, h14, h16, h18, e0, e1, e2, e50]
  refine ⟨_, _, aw_ok _, ?_⟩
  simp [wpO, wanted, stepA, s_mv, s_pick, boolA, X.ev, setD, getL_put, setL_length, hl, Then]
  refine .ret ?_
  exact hQ _ _ (by simp [getL_put, setL_length, hl])

theorem sub_neg {n : Nat} (hn : n ≤ 9223372036854775807) : wrap .i64 (-1 - Int.ofNat n) = .negSucc n := by
  have h : (-1 - Int.ofNat n : Int) = .negSucc n := by
    simp only [Int.ofNat_eq_natCast, Int.negSucc_eq]; omega
  rw [h]
  have : inR .i64 (.negSucc n) = true := by
    show Nat.blt n _ = true
    exact Nat.ble_eq_true_of_le (by omega)
  unfold wrap; rw [this]

/-- The look at the length. -/
theorem neg_ok {p : OpV} {most : Int} (hr : most ≤ 9223372036854775807) {Q : Ex → List AV → Heap → Prop} (hQ : ∀ x y z u a, Q .nrm (s1 p most x y z u a).1 (s1 p most x y z u a).2) : wpC E rC (sA p most).1 (sA p most).2 Q := by
  show wpC E (.seq (.reg rC.fst.ops) (.cond (.t 62) (.reg [⟨some 63, .mv (.t 1), none⟩, ⟨some 64, .bin .sub .bad (.c (.d (.i .i64 (-1)))) (.t 63), none⟩, ⟨some 1, .mv (.t 64), none⟩]) .skip)) _ _ _
  have hl := lA p most
  have hg := gA p most
  cases most with
  | negSucc a =>
    have hx := hQ (.d (.i .i64 (.negSucc a))) (.d (.b false)) .und .und a
    rw [← s1_neg] at hx
    revert hl hg hx
    have : (s1 p (.negSucc a) (.d (.i .i64 (.negSucc a))) (.d (.b false)) .und .und a).2 = (sA p (.negSucc a)).2 := rfl
    rw [this]
    generalize (sA p (.negSucc a)).1 = tm
    intro hl hg hx
    have e0 : iLt (.negSucc a) 0 = true := rfl
    refine .seq (.reg ?_)
    simp [rC, a3, AC.fst, AC.snd, AC.ops, wpO, wanted, stepA, s_mv, s_bin, binA, intA, arith, arith2, mkB, kindEq, ov, X.ev, setD, getL_put, setL_length, hl, hg, e0, Then]
    refine .cond (x := false) (by simp [X.ev, getL_put, setL_length, hl]) (fun e => by cases e) (fun _ => .skip ?_)
    exact hx
  | ofNat n =>
    have hn : n ≤ 9223372036854775807 := by simp only [Int.ofNat_eq_natCast] at hr; omega
    have hx := hQ (.d (.i .i64 (.ofNat n))) (.d (.b true)) (.d (.i .i64 (.ofNat n))) (.d (.i .i64 (.negSucc n))) n
    unfold s1 at hx
    revert hl hg hx
    generalize (sA p (.ofNat n)).1 = tm
    intro hl hg hx
    have e0 : iLt (.ofNat n) 0 = false := by
      show Nat.blt n 0 = false
      rfl
    refine .seq (.reg ?_)
    simp [-Int.ofNat_eq_natCast, rC, a3, AC.fst, AC.snd, AC.ops, wpO, wanted, stepA, s_mv, s_bin, binA, intA, arith, arith2, mkB, kindEq, ov, X.ev, setD, getL_put, setL_length, hl, hg, e0, Then]
    refine .cond (x := true) (by simp [X.ev, getL_put, setL_length, hl]) (fun _ => .reg ?_) (fun e => by cases e)
    simp [-Int.ofNat_eq_natCast, wpO, wanted, stepA, s_mv, s_bin, binA, intA, arith, arith2, mkZ, kindEq, ov, X.ev, setD, getL_put, setL_length, hl, hg, sub_neg hn, Then]
    exact hx

theorem nx_ok {c : AC} {t u : List AV × Heap} (e : u = nx c t) (n : isN (runF E 1000000 c ⟨t.1, [], none⟩ t.2) = true) {Q : Ex → List AV → Heap → Prop} (w : Q .nrm u.1 u.2) : wpC E c t.1 t.2 Q := by
  subst e
  exact .nrm n w
theorem chain_ok {c1 c2 c3 c4 c5 c6 c7 : AC} {t1 t2 t3 t4 t5 t6 t7 : List AV × Heap} (e1 : t2 = nx c1 t1) (e2 : t3 = nx c2 t2) (e3 : t4 = nx c3 t3) (e4 : t5 = nx c4 t4) (e5 : t6 = nx c5 t5) (e6 : t7 = nx c6 t6) (n1 : isN (runF E 1000000 c1 ⟨t1.1, [], none⟩ t1.2) = true) (n2 : isN (runF E 1000000 c2 ⟨t2.1, [], none⟩ t2.2) = true) (n3 : isN (runF E 1000000 c3 ⟨t3.1, [], none⟩ t3.2) = true) (n4 : isN (runF E 1000000 c4 ⟨t4.1, [], none⟩ t4.2) = true) (n5 : isN (runF E 1000000 c5 ⟨t5.1, [], none⟩ t5.2) = true) (n6 : isN (runF E 1000000 c6 ⟨t6.1, [], none⟩ t6.2) = true)
    {Q : Ex → List AV → Heap → Prop} (w : wpC E c7 t7.1 t7.2 Q) : wpC E (.seq c1 (.seq c2 (.seq c3 (.seq c4 (.seq c5 (.seq c6 c7)))))) t1.1 t1.2 Q :=
  .seq (nx_ok e1 n1 (.seq (nx_ok e2 n2 (.seq (nx_ok e3 n3 (.seq (nx_ok e4 n4 (.seq (nx_ok e5 n5 (.seq (nx_ok e6 n6 w)))))))))))
theorem rest_ok {p : OpV} {most : Int} (hr : most ≤ 9223372036854775807) {Q : Ex → List AV → Heap → Prop} (hQ : ∀ tm h, getL tm 4 = .d (.b true) → Q .ret tm h) :
    wpC E (.seq rA (.seq rC (.seq q1 (.seq q2 (.seq q3 (.seq q4 (.seq q5 (.seq q6 q7)))))))) (tm3 (opC p) most true) (heap3 (opC p)) Q := by
  refine .seq (.nrm (nA p most) (.seq (neg_ok hr fun x y z u a => ?_)))
  show wpC E _ (s1 p most x y z u a).1 (s1 p most x y z u a).2 Q
  exact chain_ok (t2 := s2 p most x y z u a) (t3 := s3 p most x y z u a) (t4 := s4 p most x y z u a) (t5 := s5 p most x y z u a) (t6 := s6 p most x y z u a) (t7 := s7 p most x y z u a) rfl rfl rfl rfl rfl rfl (n1 p most x y z u a) (n2 p most x y z u a) (n3 p most x y z u a) (n4 p most x y z u a) (n5 p most x y z u a) (n6 p most x y z u a) (last_ok (l7 p most x y z u a) (g8 p most x y z u a) (g10 p most x y z u a) (g12 p most x y z u a) (g14 p most x y z u a) (g16 p most x y z u a) (g18 p most x y z u a) hQ)

theorem law_ok {p : OpV} {most : Int} (hr : most ≤ 9223372036854775807) (hv : VT [.i .u8 p.k, .i .i64 p.n, .s p.s, .sl true p.m p.cs]) (hfm : p.fm ≤ 9223372036854775807) (hfl : p.fcs.length = p.fm * 6)
    (hf : ∀ i, i < p.fm → IT ((p.fcs.drop (i * 6)).take 6)) : Cal E 3 [.d (.agg (opC p)), .d (.i .i64 most)] .empty (.nrm, .d (.b true), .empty) := by
  have goal := Cal.wpx (Good := IsT) (h := .empty) (args := [.d (.agg (opC p)), .d (.i .i64 most)]) (bor := false) (ds := [.agg (opC p), .i .i64 most]) fn3 rfl rfl (by rintro x rfl h1; exact (adopt_lit _ _ _).1 _) ?_
  · obtain ⟨x, rfl, hc⟩ := goal
    exact hc
  obtain ⟨b, hb⟩ := few_ok (w := p.w) (id := p.id) (tok := p.tok) (q := p.q) (bor := true) fn35 fn17 fn4 hv hfm hfl hf [.sref 1 0 9 1 1 true, .d (.i .i64 1)] (heap3 (opC p)) rfl
  have h1 : wpO E [⟨some 2, .box 27 (.t 0), none⟩, ⟨some 4, .mv (.c (.d (.b false))), none⟩] (enterT 122 ([DV.agg (opC p), .i .i64 most].map inj)) .empty (fun tm h => tm = [.agg ((opC p).map .d), .d (.i .i64 most), .ptr 0 0, .und, .d (.b false)] ++ rep 117 ∧ h = Heap.empty.push (.cells false 27 ((opC p).map .d))) := ⟨rfl, rfl⟩
  have h2 : wpO E [⟨some 19, .load true 9 (.t 2), none⟩, ⟨some 20, .bsl 27 9 1 [(.d (.i .u8 0)), (.d (.s [])), (.d (.i .i64 0)), (.d (.i .u8 0)), (.d (.i .i64 0)), (.d (.s [])), .nilsl, .nilsl, (.d (.i .i64 0))] [(0, 9, (.t 19))], none⟩, ⟨some 21, .callf 4 [.t 20, .c (.d (.i .i64 1))], none⟩, ⟨some 22, .un .not (.t 21), none⟩]
      ([.agg ((opC p).map .d), .d (.i .i64 most), .ptr 0 0, .und, .d (.b false)] ++ rep 117) (Heap.empty.push (.cells false 27 ((opC p).map .d))) (fun tm h => tm = tm3 (opC p) most b ∧ h = heap3 (opC p)) := ⟨_, _, hb, rfl, rfl⟩
  show wpC E (.seq (.reg _) (.seq (.seq (.reg _) (.cond _ _ _)) (.seq rA (.seq rC (.seq q1 (.seq q2 (.seq q3 (.seq q4 (.seq q5 (.seq q6 q7)))))))))) _ _ _
  refine .seq (.reg (wpO_mono h1 ?_))
  rintro _ _ ⟨rfl, rfl⟩
  simp only [Then]
  refine .seq (.seq (.reg (wpO_mono h2 ?_)))
  rintro _ _ ⟨rfl, rfl⟩
  simp only [Then]
  have g12 : getL (tm3 (opC p) most b) 22 = .d (.b (!b)) := rfl
  refine .cond (x := !b) g12 (fun _ => ?_) (fun e => ?_)
  · refine .seq (.reg ⟨_, _, aw_ok _, ?_⟩)
    have hl : (tm3 (opC p) most b).length = 122 := rfl
    simp [wpO, wanted, stepA, s_mv, X.ev, setD, getL_put, setL_length, hl, Then]
    refine .ret ?_
    simp only [Then]
    exact .ret (.b true) rfl (by simp [a3, Abs.results, resL, resV, getL_put, setL_length, hl, inj1])
  · refine .skip ?_
    have hbt : b = true := by cases b <;> simp at e ⊢
    subst hbt
    simp only [Then]
    refine rest_ok hr (fun tm h hg => ?_)
    exact .ret (.b true) rfl (by simp [a3, Abs.results, resL, resV, hg, inj1])
end
end Go.Proofs.YtenpedmcbmlmkaaGreatDoor
