/- foremanlaw29.BoundLong returns true for every operation, and it reads afterwards as before. Conditions: none beyond the given card's (what the listed package-level variables hold, tied to the program's text). -/
import Derived.Test.YtjacnbabnpgpaaaGreatDoorCards
import Derived.Test.YtjacnbabnpgpaaaGreatDoorTie
import Derived.Test.YtjacnbabnpgpaaaGreatDoorFact
import Derived.Test.YtjacnbabnpgpaaaGreatDoorLib
import Derived.Test.YtjacnbabnpgpaaaGreatDoorShape
import Derived.Test.YtjacnbabnpgpaaaGreatDoorZ
import Derived.ProofKit
import Derived.OpenShut
import Derived.Deep.DeepHandedRow
import Derived.Deep.DeepLaidRun
import Derived.Deep.DeepWitnessRowRef
import Derived.Lib.LaidTab
namespace Go.Proofs.YtjacnbabnpgpaaaGreatDoor
noncomputable section
open Go Go.ChangeShapes Go.WideShapes Go.ChangeAt Go.RowKit Go.Abs
set_option maxRecDepth 100000

theorem own : ownKnob Tryz.prog.godebug = none := by kernel_rfl
theorem mixed : Tryz.prog.follows .mixedOrders = true := by kernel_rfl
theorem gKinds : Tryz.prog.globalNamed "foreman/op.kinds" = some 0 := by kernel_rfl
theorem gKindsType : (Tryz.prog.globals[0]?).map (·.type) = some 118 := by kernel_rfl
theorem u118 : Tryz.prog.underlying 118 = some (.array 6 5) := by kernel_rfl
theorem co118 : Tryz.prog.cellsOf 118 = 6 := by kernel_rfl

theorem laidMet_tail {P : Program} {x : String × DataW Unit} {r : List (String × DataW Unit)} {W : World} (h : laidMet P (x :: r) W) : laidMet P r W := by
  obtain ⟨ps, ⟨g, t, cs, fuel, p, q, h1, h2, h3, h4, h5, h6⟩, hn, hc⟩ := h
  subst h6
  exact ⟨q, h5, (List.nodup_append.1 hn).2.1, fun b off hm => hc b off (List.mem_append_right _ hm)⟩

theorem noHandles : (Rows.boundLongRow.laid.filter fun x => x.2.handleName?.isSome) = [] := by kernel_rfl
theorem laidPlain {W : World} (h : laidMetH Tryz.prog Rows.boundLongRow.laid W) : laidMet Tryz.prog Rows.boundLongRow.laid W := by
  unfold laidMetH at h
  rw [noHandles] at h
  exact h

theorem table {W : World} (h : laidMetH Tryz.prog Rows.boundLongRow.laid W) : Lib.TabIs Tryz.prog W "foreman/op.kinds" .u8 [0, 3, 4, 29, 12, 4] :=
  Lib.tabIs_of_head (rest := [("unicode/utf8.first", Rows.laid_unicode_utf8_first)]) gKinds gKindsType u118 Tryz.underlying5 co5 co118 (laidMet_tail (laidPlain h))

theorem globs {W : World} (h : laidMetH Tryz.prog Rows.boundLongRow.laid W) : ∀ g i (hi : i < (glT g).length), ∃ k n, (glT g)[i] = .i k n ∧ W.cell? ⟨g, i, none⟩ = some (.int k n) := by
  intro g i hi
  cases g with
  | succ g => exact absurd hi (by show ¬ i < 0; omega)
  | zero =>
    have hi' : i < 6 := hi
    have hc := (table h).cell gKinds i hi'
    refine ⟨.u8, [0, 3, 4, 29, 12, 4].getD i 0, ?_, hc⟩
    have : i = 0 ∨ i = 1 ∨ i = 2 ∨ i = 3 ∨ i = 4 ∨ i = 5 := by omega
    rcases this with rfl | rfl | rfl | rfl | rfl | rfl <;> rfl

theorem contract (H : Type) (enc : TypeId × Value → H) (W : World) (base : Nat) (args : Array Value) (ds gs : List (DataW H)) (before : List MemPlace)
    (hval : ∀ (j : Nat) t v, Tryz.f4.params[j]? = some t → args[j]? = some v → Value.okWide Tryz.prog W .any base t v)
    (hW : DataW.Whole enc Tryz.prog Tryz.f4.params.toList Rows.boundLongSpec.vars false W args.toList ds gs before) (hL : laidMetH Tryz.prog Rows.boundLongRow.laid W) :
    Calls Tryz.prog 4 args W fun e W' => ∃ v, e = .returned v ∧ Rows.boundLongSpec.post enc Tryz.prog Tryz.f4 false true false false W args v W' := by
  have hW' := hW
  obtain ⟨p, q, hA0, hV, rfl, hfz, hnd⟩ := hW
  have hA : DataW.TrodAll enc Tryz.prog W 0 (fun _ => true) true Tryz.f4.params.toList args.toList ds p := hA0
  rw [Tryz.params4] at hA hval
  obtain ⟨v0, vs0, d0, ds0, p0, q0, hargs, rfl, rfl, h0, r0⟩ := trodAll_cons hA
  obtain ⟨rfl, rfl, rfl⟩ := trodAll_nil r0
  obtain rfl : args = #[v0] := by cases args; simp_all
  have hv0 := hval 0 32 v0 rfl rfl
  unfold Value.okWide at hv0
  rw [Tryz.underlying32] at hv0
  obtain ⟨cs, rfl, _⟩ := hv0
  obtain ⟨hrel, hty⟩ := arg_rel closed (t := 32) (by simp) h0 (before := p0 ++ []) (fun x hx => List.mem_append_left _ hx) rfl
  obtain ⟨o, ho⟩ := in_of hty
  have hcal := law_ok ho
  refine (law_of_run eOk mixed hcal (before := p0 ++ []) (globs hL) (args := #[.agg cs]) rfl (fun i hi => ?_)).mono ?_
  · have hi2 : i < 1 := hi
    have : i = 0 := by omega
    subst this
    exact hrel
  · rintro e W' ⟨rfl, hk, hio⟩
    refine ⟨_, rfl, post_true (tb := 4) closed (fun t ht => ?_) rfl rfl rfl rfl (by kernel_rfl) Tryz.underlying4 hW' hk hio⟩
    rw [Tryz.params4] at ht
    have : t = 32 := by simpa using ht
    subst this; simp

mutual
def flat : DataW Unit → List Value
  | .lit (.int k n) => [.int k n]
  | .agg l => flatL l
  | _ => []
def flatL : List (DataW Unit) → List Value
  | [] => []
  | d :: r => flat d ++ flatL r
end
def lay (cs : List Value) : Obj → Obj
  | .cells _ t frozen => .cells cs.toArray t frozen
  | o => o
def laidWorld (os : Os) : World :=
  let w0 := World.holding Tryz.prog os ⟨#[], #[], []⟩
  { w0 with heap := ((w0.heap.modify 0 (lay (flat Rows.laid_foreman_op_kinds))).modify 1 (lay (flat Rows.laid_unicode_utf8_first))).modify 2 (lay (flat Rows.laid_unicode_utf8_acceptRanges)) }
def arg0 : Value := .agg #[.int .u8 0, .string ⟨#[]⟩, .int .i64 0, .int .u8 0, .int .i64 0, .string ⟨#[]⟩, .slice none 0 0, .slice none 0 0, .int .i64 0]
theorem laid_met (os : Os) : laidMetH Tryz.prog Rows.boundLongRow.laid ((laidWorld os).forCall (fun _ _ => 0) ⟨#[], #[arg0], []⟩).memory := by
  unfold laidMetH
  rw [noHandles]
  exact laidMet_of_run3 10 (by kernel_rfl) (by kernel_rfl) (by kernel_rfl)
theorem reads (os : Os) {H : Type} (enc : TypeId × Value → H) : ∃ places, DataW.whole enc Tryz.prog ((laidWorld os).forCall (fun _ _ => 0) ⟨#[], #[arg0], []⟩).memory Tryz.f4.params.toList Rows.boundLongSpec.vars false #[arg0].toList 8 =
    some ([.agg [.lit (.int .u8 0), .lit (.string []), .lit (.int .i64 0), .agg [.lit (.int .u8 0), .lit (.int .i64 0), .lit (.string []), .nil], .nil, .lit (.int .i64 0)]], [], places) :=
  ⟨[], by kernel_rfl⟩

theorem lifted (os : Os) (started : os.Started) (H : Type) (enc : TypeId × Value → H) (F : Stop.Interp) :
    ReturnsInHanded {} Tryz.checked os 4 .any ((OpenSpec.ofChange Rows.boundLongSpec).preRow enc Tryz.prog Tryz.f4 Rows.boundLongRow.domain false Rows.boundLongRow.laid) (((OpenSpec.ofChange Rows.boundLongSpec).at F).post enc Tryz.prog Tryz.f4 false true false false) := by
  obtain ⟨places, hx⟩ := reads os enc
  refine returnsInHanded_of_row (C := Tryz.checked) (s := OpenSpec.ofChange Rows.boundLongSpec) own started (by kernel_rfl) Tryz.func4
    (witness_row_atRef (enc := enc) (C := Tryz.checked) false (laidWorld os) #[arg0] rfl (by kernel_rfl) (by kernel_rfl) (by kernel_rfl)
      (OpenSpec.preRow_of_cond 8 hx (by kernel_rfl) (fun k hk => by cases hk) (by kernel_rfl) (laid_met os))) ?_
  intro W base args ds gs before hval hW _ _ _ hL _ _
  exact contract H enc W base args ds gs before hval hW hL

theorem funcIs : Tryz.pinned.checked.prog.funcNamed Rows.boundLongRow.func = some 4 := by kernel_rfl
theorem inst : Tryz.f4.isInstance Tryz.pinned.checked.prog Rows.boundLongRow.origin Rows.boundLongRow.targs := of_decide_eq_true (by kernel_rfl)
theorem wraps : Tryz.f4.isWrapper Tryz.pinned.checked.prog Rows.boundLongRow.wrapper Rows.boundLongRow.mainSum := by
  unfold Func.isWrapper; first | (rw [if_pos (by decide +kernel)]; kernel_rfl) | (rw [if_neg (by decide +kernel)]; exact ⟨rfl, rfl⟩)
theorem said : Rows.BoundLongSaid :=
  OpenClaim.holds_of_cond 4 Tryz.f4 rfl rfl rfl rfl rfl rfl rfl ⟨rfl, rfl, rfl, rfl, rfl⟩ rfl rfl rfl rfl rfl funcIs Tryz.func4 facts inst wraps
    (fun os started H enc _ F => by rw [OpenClaim.pre_eq_preRow]; exact lifted os started H enc F)

theorem plain (f : FuncId) (fn : Func) (hf : Tryz.pinned.checked.prog.funcNamed "foreman/foremanlaw29.BoundLong" = some f) (hfn : Tryz.pinned.checked.prog.funcs[f]? = some fn) :
    false = Tryz.pinned.checked.prog.looks [] ∧ ∀ (j : Nat) t, fn.params[j]? = some t → Tryz.pinned.checked.prog.wantsStandIn t = false := by
  obtain rfl : f = 4 := Option.some.inj ((show Tryz.prog.funcNamed "foreman/foremanlaw29.BoundLong" = some 4 by kernel_rfl).symm.trans hf) |>.symm
  obtain rfl : fn = Tryz.f4 := (Option.some.inj (Tryz.func4.symm.trans hfn)).symm
  refine ⟨by kernel_rfl, fun j t ht => ?_⟩
  rw [Tryz.params4] at ht
  have : t = 32 := by simpa using Array.mem_of_getElem? ht
  subst this
  exact (show Tryz.prog.wantsStandIn 32 = false by kernel_rfl)

theorem mainIs : Tryz.pinned.checked.prog.mainIs = some (true, "3bd09e0bf4c92c2b7668c8a5caace43614f5a5c7af12d8bba0cc8037b8e90875".toList) := by kernel_rfl
theorem byText : Rows.boundLongRow.wfByText (OpenSpec.ofChange Rows.boundLongSpec) = true := by kernel_rfl
theorem boundLong : Rows.BoundLongCardSaid :=
  Claim7.holds_tied_plain_at .later [] _ _ _ _ said (fun _ h => by cases h) byText (fun _ h => by cases h) boundLong_row_tie rfl ⟨rfl, rfl⟩ mainIs rfl plain goes
#print axioms boundLong
end
end Go.Proofs.YtjacnbabnpgpaaaGreatDoor
