/- foremanlaw26.EngineNone returns true for every operation and every capacity, and both read afterwards as before. Conditions: none beyond the given card's (what the listed package-level variables hold, tied to the program's text). -/
import Derived.Test.YtaadeimkgmccaaaGreatDoorCards
import Derived.Test.YtaadeimkgmccaaaGreatDoorTie
import Derived.Test.YtaadeimkgmccaaaGreatDoorFact
import Derived.Test.YtaadeimkgmccaaaGreatDoorLib
import Derived.Test.YtaadeimkgmccaaaGreatDoorShape
import Derived.ProofKit
import Derived.OpenShut
import Derived.Deep.DeepHandedRow
import Derived.Deep.DeepLaidRun
import Derived.Deep.DeepWitnessRowRef
import Derived.Lib.LaidTab
namespace Go.Proofs.YtaadeimkgmccaaaGreatDoor
noncomputable section
open Go Go.ChangeShapes Go.WideShapes Go.ChangeAt Go.RowKit Go.Abs
set_option maxRecDepth 100000

theorem own : ownKnob Tryz.prog.godebug = none := by kernel_rfl
theorem mixed : Tryz.prog.follows .mixedOrders = true := by kernel_rfl
theorem gKinds : Tryz.prog.globalNamed "foreman/op.kinds" = some 0 := by kernel_rfl
theorem gKindsType : (Tryz.prog.globals[0]?).map (·.type) = some 217 := by kernel_rfl
theorem u217 : Tryz.prog.underlying 217 = some (.array 6 5) := by kernel_rfl
theorem co217 : Tryz.prog.cellsOf 217 = 6 := by kernel_rfl

theorem laidMet_tail {P : Program} {x : String × DataW Unit} {r : List (String × DataW Unit)} {W : World} (h : laidMet P (x :: r) W) : laidMet P r W := by
  obtain ⟨ps, ⟨g, t, cs, fuel, p, q, h1, h2, h3, h4, h5, h6⟩, hn, hc⟩ := h
  subst h6
  exact ⟨q, h5, (List.nodup_append.1 hn).2.1, fun b off hm => hc b off (List.mem_append_right _ hm)⟩

theorem noHandles : (Rows.engineNoneRow.laid.filter fun x => x.2.handleName?.isSome) = [] := by kernel_rfl
theorem laidPlain {W : World} (h : laidMetH Tryz.prog Rows.engineNoneRow.laid W) : laidMet Tryz.prog Rows.engineNoneRow.laid W := by
  unfold laidMetH at h
  rw [noHandles] at h
  exact h

theorem table {W : World} (h : laidMetH Tryz.prog Rows.engineNoneRow.laid W) : Lib.TabIs Tryz.prog W "foreman/op.kinds" .u8 [0, 3, 4, 29, 12, 4] :=
  Lib.tabIs_of_head (rest := [("unicode/utf8.first", Rows.laid_unicode_utf8_first)]) gKinds gKindsType u217 Tryz.underlying5 co5 co217 (laidMet_tail (laidMet_tail (laidMet_tail (laidMet_tail (laidMet_tail (laidMet_tail (laidPlain h)))))))

theorem globs {W : World} (h : laidMetH Tryz.prog Rows.engineNoneRow.laid W) : ∀ g i (hi : i < (glT g).length), ∃ k n, (glT g)[i] = .i k n ∧ W.cell? ⟨g, i, none⟩ = some (.int k n) := by
  intro g i hi
  cases g with
  | succ g => exact absurd hi (by show ¬ i < 0; omega)
  | zero =>
    have hi' : i < 6 := hi
    have hc := (table h).cell gKinds i hi'
    refine ⟨.u8, [0, 3, 4, 29, 12, 4].getD i 0, ?_, hc⟩
    have : i = 0 ∨ i = 1 ∨ i = 2 ∨ i = 3 ∨ i = 4 ∨ i = 5 := by omega
    rcases this with rfl | rfl | rfl | rfl | rfl | rfl <;> rfl

theorem int_arg {W : World} {base : Nat} {v : Value} (h : Value.okWide Tryz.prog W .any base 5 v) : ∃ n, v = .int .u8 n := by
  cases v with
  | int k n =>
    simp only [Value.okWide, Cell.okWide] at h
    exact ⟨n, by rw [h.1]⟩
  | _ => simp [Value.okWide, Cell.okWide, Cell.ok, Tryz.underlying5] at h

theorem contract (H : Type) (enc : TypeId × Value → H) (W : World) (base : Nat) (args : Array Value) (ds gs : List (DataW H)) (before : List MemPlace)
    (hval : ∀ (j : Nat) t v, Tryz.f3.params[j]? = some t → args[j]? = some v → Value.okWide Tryz.prog W .any base t v)
    (hW : DataW.Whole enc Tryz.prog Tryz.f3.params.toList Rows.engineNoneSpec.vars false W args.toList ds gs before) (hL : laidMetH Tryz.prog Rows.engineNoneRow.laid W) :
    Calls Tryz.prog 3 args W fun e W' => ∃ v, e = .returned v ∧ Rows.engineNoneSpec.post enc Tryz.prog Tryz.f3 false true false false W args v W' := by
  have hW' := hW
  obtain ⟨p, q, hA0, hV, rfl, hfz, hnd⟩ := hW
  have hA : DataW.TrodAll enc Tryz.prog W 0 (fun _ => true) true Tryz.f3.params.toList args.toList ds p := hA0
  rw [Tryz.params3] at hA hval
  obtain ⟨v0, vs0, d0, ds0, p0, q0, hargs, rfl, rfl, h0, r0⟩ := trodAll_cons hA
  obtain ⟨v1, vs1, d1, ds1, p1, q1, rfl, rfl, rfl, h1, r1⟩ := trodAll_cons r0
  obtain ⟨rfl, rfl, rfl⟩ := trodAll_nil r1
  obtain rfl : args = #[v0, v1] := by cases args; simp_all
  have hv0 := hval 0 27 v0 rfl rfl
  unfold Value.okWide at hv0
  rw [Tryz.underlying27] at hv0
  obtain ⟨cs, rfl, _⟩ := hv0
  have hv1 := hval 1 5 v1 rfl rfl
  obtain ⟨n, rfl⟩ := int_arg hv1
  obtain ⟨hrel, hty⟩ := arg_rel closed (t := 27) (by simp) h0 (before := p0 ++ p1) (fun x hx => List.mem_append_left _ hx) rfl
  obtain ⟨hty1, hrel1⟩ := arg_rel1 closed (t := 5) (by simp) h1 (before := p0 ++ p1) (fun x hx => List.mem_append_right _ hx) rfl
  obtain ⟨most, hm, h0, hr⟩ := ty_byte Tryz.underlying5 hty1
  have hrel1 := hrel1 _ hm
  obtain ⟨p, heq, hv, hfm, hfl, hf⟩ := op_of hty
  have hcal := law_ok (p := p) h0 hr hv hfm hfl hf
  rw [← heq] at hcal
  refine (law_of_run eOk mixed hcal (before := p0 ++ p1) (globs hL) (args := #[.agg cs, .int .u8 n]) rfl (fun i hi => ?_)).mono ?_
  · have hi2 : i < 2 := hi
    have : i = 0 ∨ i = 1 := by omega
    rcases this with rfl | rfl
    · exact hrel
    · exact hrel1
  · rintro e W' ⟨rfl, hk, hio⟩
    refine ⟨_, rfl, post_true (tb := 4) closed (fun t ht => ?_) rfl rfl rfl rfl (by kernel_rfl) Tryz.underlying4 hW' hk hio⟩
    rw [Tryz.params3] at ht
    have : t = 27 ∨ t = 5 := by simpa using ht
    rcases this with rfl | rfl <;> simp

mutual
def flat : DataW Unit → List Value
  | .lit (.int k n) => [.int k n]
  | .agg l => flatL l
  | _ => []
def flatL : List (DataW Unit) → List Value
  | [] => []
  | d :: r => flat d ++ flatL r
end
def lay (cs : List Value) : Obj → Obj
  | .cells _ t frozen => .cells cs.toArray t frozen
  | o => o
abbrev synS : ByteArray := { data := #[105, 110, 118, 97, 108, 105, 100, 32, 115, 121, 110, 116, 97, 120] }
abbrev rngS : ByteArray := { data := #[118, 97, 108, 117, 101, 32, 111, 117, 116, 32, 111, 102, 32, 114, 97, 110, 103, 101] }
def low : Nat := (World.holding Tryz.prog default ⟨#[], #[], []⟩).heap.size
/-- A world for the witness: the listed variables hold what their initialisers lay. -/
def laidWorld (os : Os) : World :=
  let w0 := World.holding Tryz.prog os ⟨#[.cells #[.string synS] 496, .cells #[.string rngS] 496], #[], []⟩
  { w0 with heap := (((((((w0.heap.modify 0 (lay (flat Rows.laid_foreman_op_kinds))).modify 1 (lay (flat Rows.laid_unicode_utf8_first))).modify 2 (lay (flat Rows.laid_unicode_utf8_acceptRanges))).modify 4 (lay [.iface 494 (.pointer (some ⟨low, 0, none⟩))])).modify 5
      (lay [.iface 494 (.pointer (some ⟨low + 1, 0, none⟩))])).modify 6 (lay (flat Rows.laid_internal_strconv_uint64pow10))).modify 7 (lay (flat Rows.laid_math_bits_deBruijn32tab))).modify 8 (lay (flat Rows.laid_math_bits_deBruijn64tab)) }
def arg0 : Value := .agg #[.int .u8 0, .string ⟨#[]⟩, .int .i64 0, .int .u8 0, .int .i64 0, .string ⟨#[]⟩, .slice none 0 0, .slice none 0 0, .int .i64 0]
theorem laid_met (os : Os) : laidMetH Tryz.prog Rows.engineNoneRow.laid ((laidWorld os).forCall (fun _ _ => 0) ⟨#[], #[arg0, .int .u8 0], []⟩).memory := by
  unfold laidMetH
  rw [noHandles]
  exact laidMet_of_run3 10 (by kernel_rfl) (by kernel_rfl) (by kernel_rfl)
theorem reads (os : Os) {H : Type} (enc : TypeId × Value → H) : ∃ places, DataW.whole enc Tryz.prog ((laidWorld os).forCall (fun _ _ => 0) ⟨#[], #[arg0, .int .u8 0], []⟩).memory Tryz.f3.params.toList Rows.engineNoneSpec.vars false #[arg0, .int .u8 0].toList 8 =
    some ([.agg [.lit (.int .u8 0), .lit (.string []), .lit (.int .i64 0), .agg [.lit (.int .u8 0), .lit (.int .i64 0), .lit (.string []), .nil], .nil, .lit (.int .i64 0)], .lit (.int .u8 0)], [], places) :=
  ⟨[], by kernel_rfl⟩

theorem lifted (os : Os) (started : os.Started) (H : Type) (enc : TypeId × Value → H) (F : Stop.Interp) :
    ReturnsInHanded {} Tryz.checked os 3 .any ((OpenSpec.ofChange Rows.engineNoneSpec).preRow enc Tryz.prog Tryz.f3 Rows.engineNoneRow.domain false Rows.engineNoneRow.laid) (((OpenSpec.ofChange Rows.engineNoneSpec).at F).post enc Tryz.prog Tryz.f3 false true false false) := by
  obtain ⟨places, hx⟩ := reads os enc
  refine returnsInHanded_of_row (C := Tryz.checked) (s := OpenSpec.ofChange Rows.engineNoneSpec) own started (by kernel_rfl) Tryz.func3
    (witness_row_atRef (enc := enc) (C := Tryz.checked) false (laidWorld os) #[arg0, .int .u8 0] rfl (by kernel_rfl) (by kernel_rfl) (by kernel_rfl)
      (OpenSpec.preRow_of_cond 8 hx (by kernel_rfl) (fun k hk => by cases hk) (by kernel_rfl) (laid_met os))) ?_
  intro W base args ds gs before hval hW _ _ _ hL _ _
  exact contract H enc W base args ds gs before hval hW hL

theorem funcIs : Tryz.pinned.checked.prog.funcNamed Rows.engineNoneRow.func = some 3 := by kernel_rfl
theorem inst : Tryz.f3.isInstance Tryz.pinned.checked.prog Rows.engineNoneRow.origin Rows.engineNoneRow.targs := of_decide_eq_true (by kernel_rfl)
theorem wraps : Tryz.f3.isWrapper Tryz.pinned.checked.prog Rows.engineNoneRow.wrapper Rows.engineNoneRow.mainSum := by
  unfold Func.isWrapper; first | (rw [if_pos (by decide +kernel)]; kernel_rfl) | (rw [if_neg (by decide +kernel)]; exact ⟨rfl, rfl⟩)
theorem said : Rows.EngineNoneSaid :=
  OpenClaim.holds_of_cond 3 Tryz.f3 rfl rfl rfl rfl rfl rfl rfl ⟨rfl, rfl, rfl, rfl, rfl⟩ rfl rfl rfl rfl rfl funcIs Tryz.func3 facts inst wraps
    (fun os started H enc _ F => by rw [OpenClaim.pre_eq_preRow]; exact lifted os started H enc F)

/-- No parameter wants a stand-in; the program's own looks are off. -/
theorem plain (f : FuncId) (fn : Func) (hf : Tryz.pinned.checked.prog.funcNamed "foreman/foremanlaw26.EngineNone" = some f) (hfn : Tryz.pinned.checked.prog.funcs[f]? = some fn) :
    true = Tryz.pinned.checked.prog.looks [] ∧ ∀ (j : Nat) t, fn.params[j]? = some t → Tryz.pinned.checked.prog.wantsStandIn t = false := by
  obtain rfl : f = 3 := Option.some.inj ((show Tryz.prog.funcNamed "foreman/foremanlaw26.EngineNone" = some 3 by kernel_rfl).symm.trans hf) |>.symm
  obtain rfl : fn = Tryz.f3 := (Option.some.inj (Tryz.func3.symm.trans hfn)).symm
  refine ⟨by kernel_rfl, fun j t ht => ?_⟩
  rw [Tryz.params3] at ht
  have : t = 27 ∨ t = 5 := by simpa using Array.mem_of_getElem? ht
  rcases this with rfl | rfl
  · exact (show Tryz.prog.wantsStandIn 27 = false by kernel_rfl)
  · exact (show Tryz.prog.wantsStandIn 5 = false by kernel_rfl)

theorem mainIs : Tryz.pinned.checked.prog.mainIs = some (true, "9f41cbdfada74e029ab28701c7e5f249744e63caf5ec246ef4375af5e9b3cc1c".toList) := by kernel_rfl
theorem byText : Rows.engineNoneRow.wfByText (OpenSpec.ofChange Rows.engineNoneSpec) = true := by kernel_rfl
theorem engineNone : Rows.EngineNoneCardSaid :=
  Claim7.holds_tied_plain_at .later [] _ _ _ _ said (fun _ h => by cases h) byText (fun _ h => by cases h) engineNone_row_tie rfl ⟨rfl, rfl⟩ mainIs rfl plain goes
#print axioms engineNone
end
end Go.Proofs.YtaadeimkgmccaaaGreatDoor
