/- EngineNone on the abstract machine: true, whatever the operation, and the capacity. -/
import Derived.Test.YtaadeimkgmccaaaGreatDoorZE
import Derived.Test.YtaadeimkgmccaaaGreatDoorAw
import Derived.Test.YtaadeimkgmccaaaGreatDoorFew
import Derived.Test.YtaadeimkgmccaaaGreatDoorJ0
import Derived.Test.YtaadeimkgmccaaaGreatDoorJ1
import Derived.Test.YtaadeimkgmccaaaGreatDoorJ2
import Derived.Test.YtaadeimkgmccaaaGreatDoorJ3
import Derived.Test.YtaadeimkgmccaaaGreatDoorJ4
import Derived.Test.YtaadeimkgmccaaaGreatDoorJ5
import Derived.Test.YtaadeimkgmccaaaGreatDoorJ6
import Derived.Test.YtaadeimkgmccaaaGreatDoorJ7
namespace Go.Proofs.YtaadeimkgmccaaaGreatDoor
noncomputable section
open Go Go.Abs
set_option maxRecDepth 100000
theorem fn3 : E.fn 3 = some a3 := by kernel_rfl
theorem fn4 : E.fn 4 = some a4 := by kernel_rfl
theorem fn20 : E.fn 20 = some a20 := by kernel_rfl
theorem fn46 : E.fn 46 = some a46 := by kernel_rfl
theorem jAll (p : OpV) (most : Int) (x y : AV) : ∀ j : Nat, j < 30 → isJ (runF E 1000000 cJ ⟨(sJ p most x y j).1, [], none⟩ (sJ p most x y j).2) = true
  | 0, _ => j0 p most x y
  | 1, _ => j1 p most x y
  | 2, _ => j2 p most x y
  | 3, _ => j3 p most x y
  | 4, _ => j4 p most x y
  | 5, _ => j5 p most x y
  | 6, _ => j6 p most x y
  | 7, _ => j7 p most x y
  | 8, _ => j8 p most x y
  | 9, _ => j9 p most x y
  | 10, _ => j10 p most x y
  | 11, _ => j11 p most x y
  | 12, _ => j12 p most x y
  | 13, _ => j13 p most x y
  | 14, _ => j14 p most x y
  | 15, _ => j15 p most x y
  | 16, _ => j16 p most x y
  | 17, _ => j17 p most x y
  | 18, _ => j18 p most x y
  | 19, _ => j19 p most x y
  | 20, _ => j20 p most x y
  | 21, _ => j21 p most x y
  | 22, _ => j22 p most x y
  | 23, _ => j23 p most x y
  | 24, _ => j24 p most x y
  | 25, _ => j25 p most x y
  | 26, _ => j26 p most x y
  | 27, _ => j27 p most x y
  | 28, _ => j28 p most x y
  | 29, _ => j29 p most x y
  | n + 30, h => absurd h (by omega)
theorem isI_eq {a : AV} {n : Nat} (h : isI a n = true) : a = .d (.i .i64 (.ofNat n)) := by
  unfold isI at h
  split at h
  · rw [Nat.eq_of_beq_eq_true h]
  · cases h
theorem isP_eq {a : AV} (h : isP a = true) : a = .d .nilp := by
  unfold isP at h
  split at h
  · rfl
  · cases h
theorem isJ_run {r : Res} (h : isJ r = true) : isN r = true ∧ isE (tmOf r) = true := by
  unfold isJ at h
  split at h
  · exact ⟨rfl, h⟩
  · cases h

/-- The last look. -/
theorem last_ok {tm : List AV} {h : Heap} {Q : Ex → List AV → Heap → Prop} (he : isE tm = true) (hQ : ∀ tm h, getL tm 4 = .d (.b true) → Q .ret tm h) : wpC E c11 tm h Q := by
  unfold isE at he
  simp only [Bool.and_eq_true] at he
  obtain ⟨⟨⟨⟨⟨⟨hl, h19⟩, h21⟩, h20⟩, h23⟩, h22⟩, h25⟩ := he
  obtain ⟨g, rfl⟩ := St.of (n := 182) (l := [(19, .d (.i .i64 (.ofNat 0))), (21, .d (.i .i64 (.ofNat 5))), (20, .d .nilp), (23, .d (.i .i64 (.ofNat 30))), (22, .d .nilp), (25, .d (.i .i64 (.ofNat 2)))]) hl
    ⟨isI_eq h19, isI_eq h21, isP_eq h20, isI_eq h23, isP_eq h22, isI_eq h25, trivial⟩
  refine W.run ?_
  iterate 6 refine .br true (by kernel_rfl) (fun _ => ?_) (fun e => by cases e)
  refine .call (aw_ok h) (by kernel_rfl) ?_
  refine .done 1 (by kernel_rfl) (hQ _ _ (by kernel_rfl))

theorem nx_ok {c : AC} {t u : List AV × Heap} (e : u = nx c t) (n : isN (runF E 1000000 c ⟨t.1, [], none⟩ t.2) = true) {Q : Ex → List AV → Heap → Prop} (w : Q .nrm u.1 u.2) : wpC E c t.1 t.2 Q := by
  subst e
  exact .nrm n w
theorem chain_ok {d1 d2 d3 d4 d5 d6 d7 : AC} {t1 t2 t3 t4 t5 t6 t7 : List AV × Heap} (e1 : t2 = nx d1 t1) (e2 : t3 = nx d2 t2) (e3 : t4 = nx d3 t3) (e4 : t5 = nx d4 t4) (e5 : t6 = nx d5 t5) (e6 : t7 = nx d6 t6) (n1 : isN (runF E 1000000 d1 ⟨t1.1, [], none⟩ t1.2) = true) (n2 : isN (runF E 1000000 d2 ⟨t2.1, [], none⟩ t2.2) = true) (n3 : isN (runF E 1000000 d3 ⟨t3.1, [], none⟩ t3.2) = true) (n4 : isN (runF E 1000000 d4 ⟨t4.1, [], none⟩ t4.2) = true) (n5 : isN (runF E 1000000 d5 ⟨t5.1, [], none⟩ t5.2) = true) (n6 : isN (runF E 1000000 d6 ⟨t6.1, [], none⟩ t6.2) = true)
    {Q : Ex → List AV → Heap → Prop} (w : wpC E d7 t7.1 t7.2 Q) : wpC E (.seq d1 (.seq d2 (.seq d3 (.seq d4 (.seq d5 (.seq d6 d7)))))) t1.1 t1.2 Q :=
  .seq (nx_ok e1 n1 (.seq (nx_ok e2 n2 (.seq (nx_ok e3 n3 (.seq (nx_ok e4 n4 (.seq (nx_ok e5 n5 (.seq (nx_ok e6 n6 w)))))))))))
theorem tail_ok {d e f g : AC} {t : List AV × Heap} (hn : isN (runF E 1000000 (.seq (.seq (.seq d e) f) g) ⟨t.1, [], none⟩ t.2) = true) {b : AC} {Q : Ex → List AV → Heap → Prop} (w : wpC E b (tmOf (runF E 1000000 (.seq (.seq (.seq d e) f) g) ⟨t.1, [], none⟩ t.2)) (hpOf (runF E 1000000 (.seq (.seq (.seq d e) f) g) ⟨t.1, [], none⟩ t.2)) Q) :
    wpC E (.seq d (.seq e (.seq f (.seq g b)))) t.1 t.2 Q := .assoc (.assoc (.assoc (.seq (.nrm hn w))))

theorem mod_ok {cap : Int} (h0 : 0 ≤ cap) (hc : cap ≤ 255) : ∃ j : Nat, j < 30 ∧ cap.tmod 30 = .ofNat j ∧ wrap .i64 (.ofNat j) = .ofNat j := by
  obtain ⟨c, rfl⟩ : ∃ c : Nat, cap = .ofNat c := ⟨cap.toNat, by simp only [Int.ofNat_eq_natCast]; omega⟩
  have hj : c % 30 < 30 := Nat.mod_lt _ (by omega)
  refine ⟨c % 30, hj, rfl, ?_⟩
  have : inR .i64 (.ofNat (c % 30)) = true := by
    show Nat.blt (c % 30) _ = true
    exact Nat.ble_eq_true_of_le (by omega)
  unfold wrap; rw [this]

/-- The disk of that capacity, and what is behind it. -/
theorem cap_ok {p : OpV} {cap : Int} (h0 : 0 ≤ cap) (hc : cap ≤ 255) {Q : Ex → List AV → Heap → Prop} (hQ : ∀ tm h, getL tm 4 = .d (.b true) → Q .ret tm h) : wpC E (.seq c7 (.seq c8 (.seq c9 (.seq c10 c11)))) (s7 p cap).1 (s7 p cap).2 Q := by
  show wpC E (.seq (.reg (⟨some 134, .mv (.t 1), none⟩ :: ⟨some 135, .bin .rem .bad (.t 134) (.c (.d (.i .u8 30))), none⟩ :: ⟨some 136, .cvi .i64 (.t 135), none⟩ :: c7.ops.drop 3)) _) _ _ _
  obtain ⟨j, hj, hm, hw⟩ := mod_ok h0 hc
  have hl := l7 p cap
  have hg := g7 p cap
  have hjj := isJ_run (jAll p cap (.d (.i .u8 cap)) (.d (.i .u8 (.ofNat j))) j hj)
  have htl : ∀ {b : AC}, wpC E b (tmOf (runF E 1000000 cJ ⟨(sJ p cap (.d (.i .u8 cap)) (.d (.i .u8 (.ofNat j))) j).1, [], none⟩ (sJ p cap (.d (.i .u8 cap)) (.d (.i .u8 (.ofNat j))) j).2)) (hpOf (runF E 1000000 cJ ⟨(sJ p cap (.d (.i .u8 cap)) (.d (.i .u8 (.ofNat j))) j).1, [], none⟩ (sJ p cap (.d (.i .u8 cap)) (.d (.i .u8 (.ofNat j))) j).2)) Q →
      wpC E (.seq b7 (.seq c8 (.seq c9 (.seq c10 b)))) (sJ p cap (.d (.i .u8 cap)) (.d (.i .u8 (.ofNat j))) j).1 (sJ p cap (.d (.i .u8 cap)) (.d (.i .u8 (.ofNat j))) j).2 Q := fun w => tail_ok hjj.1 w
  have goal := htl (last_ok hjj.2 hQ)
  unfold sJ at goal
  clear htl hjj
  revert hl hg goal
  generalize (s7 p cap).1 = tm
  generalize (s7 p cap).2 = h
  intro hl hg goal
  have e0 : iEq 30 0 = false := rfl
  refine .op (v := .d (.i .u8 cap)) (h1 := h) rfl (by simp [stepA, s_mv, X.ev, hg]) ?_
  refine .op (v := .d (.i .u8 (.ofNat j))) (h1 := h) rfl (by simp [-Int.ofNat_eq_natCast, stepA, s_bin, binA, intA, arith, arith2, remA, mkZ, kindEq, ov, X.ev, setD, getL_put, hl, e0, hm]) ?_
  refine .op (v := .d (.i .i64 (.ofNat j))) (h1 := h) rfl (by simp [-Int.ofNat_eq_natCast, stepA, s_cvi, intA, X.ev, setD, getL_put, setL_length, hl, hw]) ?_
  exact goal

theorem rest_ok {p : OpV} {cap : Int} (h0 : 0 ≤ cap) (hc : cap ≤ 255) {Q : Ex → List AV → Heap → Prop} (hQ : ∀ tm h, getL tm 4 = .d (.b true) → Q .ret tm h) :
    wpC E (.seq c1 (.seq c2 (.seq c3 (.seq c4 (.seq c5 (.seq c6 (.seq c7 (.seq c8 (.seq c9 (.seq c10 c11)))))))))) (s1 p cap).1 (s1 p cap).2 Q :=
  chain_ok (t2 := s2 p cap) (t3 := s3 p cap) (t4 := s4 p cap) (t5 := s5 p cap) (t6 := s6 p cap) (t7 := s7 p cap) rfl rfl rfl rfl rfl rfl (n1 p cap) (n2 p cap) (n3 p cap) (n4 p cap) (n5 p cap) (n6 p cap) (cap_ok h0 hc hQ)

theorem law_ok {p : OpV} {cap : Int} (h0 : 0 ≤ cap) (hc : cap ≤ 255) (hv : VT [.i .u8 p.k, .i .i64 p.n, .s p.s, .sl true p.m p.cs]) (hfm : p.fm ≤ 9223372036854775807) (hfl : p.fcs.length = p.fm * 6)
    (hf : ∀ i, i < p.fm → IT ((p.fcs.drop (i * 6)).take 6)) : Cal E 3 [.d (.agg (opC p)), .d (.i .u8 cap)] .empty (.nrm, .d (.b true), .empty) := by
  have goal := Cal.wpx (Good := IsT) (h := .empty) (args := [.d (.agg (opC p)), .d (.i .u8 cap)]) (bor := false) (ds := [.agg (opC p), .i .u8 cap]) fn3 rfl rfl (by rintro x rfl h1; exact (adopt_lit _ _ _).1 _) ?_
  · obtain ⟨x, rfl, hc⟩ := goal
    exact hc
  obtain ⟨b, hb⟩ := few_ok (w := p.w) (id := p.id) (tok := p.tok) (q := p.q) (bor := true) fn46 fn20 fn4 hv hfm hfl hf [.sref 1 0 9 1 1 true, .d (.i .i64 1)] (heap3 (opC p)) rfl
  have h1 : wpO E [⟨some 2, .box 27 (.t 0), none⟩, ⟨some 4, .mv (.c (.d (.b false))), none⟩] (enterT 182 ([DV.agg (opC p), .i .u8 cap].map inj)) .empty (fun tm h => tm = [.agg ((opC p).map .d), .d (.i .u8 cap), .ptr 0 0, .und, .d (.b false)] ++ rep 177 ∧ h = Heap.empty.push (.cells false 27 ((opC p).map .d))) := ⟨rfl, rfl⟩
  have h2 : wpO E [⟨some 26, .load true 9 (.t 2), none⟩, ⟨some 27, .bsl 27 9 1 [(.d (.i .u8 0)), (.d (.s [])), (.d (.i .i64 0)), (.d (.i .u8 0)), (.d (.i .i64 0)), (.d (.s [])), .nilsl, .nilsl, (.d (.i .i64 0))] [(0, 9, (.t 26))], none⟩, ⟨some 28, .callf 4 [.t 27, .c (.d (.i .i64 1))], none⟩, ⟨some 29, .un .not (.t 28), none⟩]
      ([.agg ((opC p).map .d), .d (.i .u8 cap), .ptr 0 0, .und, .d (.b false)] ++ rep 177) (Heap.empty.push (.cells false 27 ((opC p).map .d))) (fun tm h => tm = tm3 (opC p) cap b ∧ h = heap3 (opC p)) := ⟨_, _, hb, rfl, rfl⟩
  show wpC E (.seq (.reg _) (.seq (.seq (.reg _) (.cond _ _ _)) (.seq c1 (.seq c2 (.seq c3 (.seq c4 (.seq c5 (.seq c6 (.seq c7 (.seq c8 (.seq c9 (.seq c10 c11)))))))))))) _ _ _
  refine .seq (.reg (wpO_mono h1 ?_))
  rintro _ _ ⟨rfl, rfl⟩
  simp only [Then]
  refine .seq (.seq (.reg (wpO_mono h2 ?_)))
  rintro _ _ ⟨rfl, rfl⟩
  simp only [Then]
  have g12 : getL (tm3 (opC p) cap b) 29 = .d (.b (!b)) := rfl
  refine .cond (x := !b) g12 (fun _ => ?_) (fun e => ?_)
  · refine .seq (.reg ⟨_, _, aw_ok _, ?_⟩)
    have hl : (tm3 (opC p) cap b).length = 182 := rfl
    simp [wpO, wanted, stepA, s_mv, X.ev, setD, getL_put, hl, Then]
    refine .ret ?_
    simp only [Then]
    exact .ret (.b true) rfl (by simp [a3, Abs.results, resL, resV, getL_put, setL_length, hl, inj1])
  · refine .skip ?_
    have hbt : b = true := by cases b <;> simp at e ⊢
    subst hbt
    simp only [Then]
    refine rest_ok h0 hc (fun tm h hg => ?_)
    exact .ret (.b true) rfl (by simp [a3, Abs.results, resL, resV, hg, inj1])
end
end Go.Proofs.YtaadeimkgmccaaaGreatDoor
