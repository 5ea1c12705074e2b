/- StepNone on the abstract machine: true, whatever the operation. -/
import Derived.Test.YtmaeffhiephpfaaGreatDoorRun
import Derived.Test.YtmaeffhiephpfaaGreatDoorFew
namespace Go.Proofs.YtmaeffhiephpfaaGreatDoor
open Go Go.Abs
set_option maxRecDepth 100000
theorem fn3 : E.fn 3 = some a3 := by kernel_rfl
theorem fn4 : E.fn 4 = some a4 := by kernel_rfl
theorem fn14 : E.fn 14 = some a14 := by kernel_rfl
theorem fn32 : E.fn 32 = some a32 := by kernel_rfl

theorem rest_ok {w : Int} {id : List UInt8} {tok k n : Int} {s : List UInt8} {m : Nat} {cs : List DV} {fm : Nat} {fcs : List DV} {q : Int} {Q : Ex → List AV → Heap → Prop} (hQ : ∀ tm h, getL tm 2 = .d (.b true) → Q .ret tm h) :
    wpC E rest3 (tm3 (opC w id tok k n s m cs fm fcs q) true) (heap3 (opC w id tok k n s m cs fm fcs q)) Q := by
  have ht := restT w id tok k n s m cs fm fcs q
  generalize hr : runF E 1000000 rest3 ⟨tm3 (opC w id tok k n s m cs fm fcs q) true, [], none⟩ (heap3 (opC w id tok k n s m cs fm fcs q)) = r at ht
  unfold isR at ht
  split at ht
  · rename_i tm h
    split at ht
    · rename_i hg
      exact ⟨1000000, _, _, _, hr, _, rfl, hQ _ _ hg⟩
    · cases ht
  · cases ht

def IsT (x : DV) : Prop := x = .b true

theorem step_ok {w : Int} {id : List UInt8} {tok k n : Int} {s : List UInt8} {m : Nat} {cs : List DV} {fm : Nat} {fcs : List DV} {q : Int} (hv : VT [.i .u8 k, .i .i64 n, .s s, .sl true m cs]) (hfm : fm ≤ 9223372036854775807) (hfl : fcs.length = fm * 6)
    (hf : ∀ i, i < fm → IT ((fcs.drop (i * 6)).take 6)) : Cal E 3 [.d (.agg (opC w id tok k n s m cs fm fcs q))] .empty (.nrm, .d (.b true), .empty) := by
  have goal := Cal.wpx (Good := IsT) (h := .empty) (args := [.d (.agg (opC w id tok k n s m cs fm fcs q))]) (bor := false) (ds := [.agg (opC w id tok k n s m cs fm fcs q)]) fn3 rfl rfl (by rintro x rfl h1; exact (adopt_lit _ _ _).1 _) ?_
  · obtain ⟨x, rfl, hc⟩ := goal
    exact hc
  obtain ⟨b, hb⟩ := few_ok (w := w) (id := id) (tok := tok) (q := q) (bor := true) fn32 fn14 fn4 hv hfm hfl hf [.sref 1 0 9 1 1 true, .d (.i .i64 1)] (heap3 (opC w id tok k n s m cs fm fcs q)) rfl
  generalize hO : opC w id tok k n s m cs fm fcs q = O at hb ⊢
  have h1 : wpO E [⟨some 1, .box 27 (.t 0), none⟩, ⟨some 2, .mv (.c (.d (.b false))), none⟩] (enterT 71 ([DV.agg O].map inj)) .empty (fun tm h => tm = [.agg (O.map .d), .ptr 0 0, .d (.b false)] ++ rep 68 ∧ h = Heap.empty.push (.cells false 27 (O.map .d))) := by
    subst hO; exact ⟨rfl, rfl⟩
  have h2 : wpO E [⟨some 9, .load true 9 (.t 1), none⟩, ⟨some 10, .bsl 27 9 1 [(.d (.i .u8 0)), (.d (.s [])), (.d (.i .i64 0)), (.d (.i .u8 0)), (.d (.i .i64 0)), (.d (.s [])), .nilsl, .nilsl, (.d (.i .i64 0))] [(0, 9, (.t 9))], none⟩, ⟨some 11, .callf 4 [.t 10, .c (.d (.i .i64 1))], none⟩, ⟨some 12, .un .not (.t 11), none⟩]
      ([.agg (O.map .d), .ptr 0 0, .d (.b false)] ++ rep 68) (Heap.empty.push (.cells false 27 (O.map .d))) (fun tm h => tm = tm3 O b ∧ h = heap3 O) := by
    subst hO; exact ⟨_, _, hb, rfl, rfl⟩
  show wpC E (.seq (.reg _) (.seq (.seq (.reg _) (.cond _ _ _)) rest3)) _ _ _
  refine .seq (.reg (wpO_mono h1 ?_))
  rintro _ _ ⟨rfl, rfl⟩
  simp only [Then]
  refine .seq (.seq (.reg (wpO_mono h2 ?_)))
  rintro _ _ ⟨rfl, rfl⟩
  simp only [Then]
  have g12 : getL (tm3 O b) 12 = .d (.b (!b)) := by subst hO; rfl
  refine .cond (x := !b) g12 (fun _ => ?_) (fun e => ?_)
  · refine .seq (.reg ⟨_, _, aw_ok _, ?_⟩)
    have hl : (tm3 O b).length = 71 := by subst hO; rfl
    simp [wpO, wanted, stepA, s_mv, X.ev, setD, getL_put, setL_length, hl, Then]
    refine .ret ?_
    simp only [Then]
    exact .ret (.b true) rfl (by simp [a3, Abs.results, resL, resV, getL_put, setL_length, hl, inj1])
  · refine .skip ?_
    have hbt : b = true := by cases b <;> simp at e ⊢
    subst hbt
    simp only [Then]
    subst hO
    refine rest_ok (fun tm h hg => ?_)
    exact .ret (.b true) rfl (by simp [a3, Abs.results, resL, resV, hg, inj1])
end Go.Proofs.YtmaeffhiephpfaaGreatDoor
