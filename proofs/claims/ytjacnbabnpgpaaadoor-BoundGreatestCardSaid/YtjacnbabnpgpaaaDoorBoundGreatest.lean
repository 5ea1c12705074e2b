/- foremanlaw29.BoundGreatest returns true for every byte and every 64-bit number, and both read afterwards as before. Conditions: none beyond the given card's (what the listed package-level variables hold, tied to the program's text). -/
import Derived.Test.YtjacnbabnpgpaaaDoorCards
import Derived.Test.YtjacnbabnpgpaaaDoorTie
import Derived.Test.YtjacnbabnpgpaaaDoorFact
import Derived.Test.YtjacnbabnpgpaaaDoorLib
import Derived.Test.YtjacnbabnpgpaaaDoorU
import Derived.Test.YtjacnbabnpgpaaaDoorZE
import Derived.ProofKit
import Derived.OpenShut
import Derived.Deep.DeepHandedRow
import Derived.Deep.DeepLaidRun
import Derived.Deep.DeepWitnessRowRef
import Derived.Lib.LaidTab
namespace Go.Proofs.YtjacnbabnpgpaaaDoor
noncomputable section
open Go Go.ChangeShapes Go.WideShapes Go.ChangeAt Go.RowKit Go.Abs
set_option maxRecDepth 100000

theorem own : ownKnob Tryd.prog.godebug = none := by kernel_rfl
theorem mixed : Tryd.prog.follows .mixedOrders = true := by kernel_rfl
theorem gKinds : Tryd.prog.globalNamed "foreman/op.kinds" = some 0 := by kernel_rfl
theorem gKindsType : (Tryd.prog.globals[0]?).map (·.type) = some 89 := by kernel_rfl
theorem u89 : Tryd.prog.underlying 89 = some (.array 6 5) := by kernel_rfl
theorem co89 : Tryd.prog.cellsOf 89 = 6 := by kernel_rfl

theorem co5 : Tryd.prog.cellsOf 5 = 1 := by kernel_rfl
theorem laidMet_tail {P : Program} {x : String × DataW Unit} {r : List (String × DataW Unit)} {W : World} (h : laidMet P (x :: r) W) : laidMet P r W := by
  obtain ⟨ps, ⟨g, t, cs, fuel, p, q, h1, h2, h3, h4, h5, h6⟩, hn, hc⟩ := h
  subst h6
  exact ⟨q, h5, (List.nodup_append.1 hn).2.1, fun b off hm => hc b off (List.mem_append_right _ hm)⟩

theorem noHandles : (Rows.boundGreatestRow.laid.filter fun x => x.2.handleName?.isSome) = [] := by kernel_rfl
theorem laidPlain {W : World} (h : laidMetH Tryd.prog Rows.boundGreatestRow.laid W) : laidMet Tryd.prog Rows.boundGreatestRow.laid W := by
  unfold laidMetH at h
  rw [noHandles] at h
  exact h

theorem table {W : World} (h : laidMetH Tryd.prog Rows.boundGreatestRow.laid W) : Lib.TabIs Tryd.prog W "foreman/op.kinds" .u8 [0, 3, 4, 29, 12, 4] :=
  Lib.tabIs_of_head (rest := [("unicode/utf8.first", Rows.laid_unicode_utf8_first)]) gKinds gKindsType u89 Tryd.underlying5 co5 co89 (laidMet_tail (laidPlain h))

theorem globs {W : World} (h : laidMetH Tryd.prog Rows.boundGreatestRow.laid W) : ∀ g i (hi : i < (glT g).length), ∃ k n, (glT g)[i] = .i k n ∧ W.cell? ⟨g, i, none⟩ = some (.int k n) := by
  intro g i hi
  cases g with
  | succ g => exact absurd hi (by show ¬ i < 0; omega)
  | zero =>
    have hi' : i < 6 := hi
    have hc := (table h).cell gKinds i hi'
    refine ⟨.u8, [0, 3, 4, 29, 12, 4].getD i 0, ?_, hc⟩
    have : i = 0 ∨ i = 1 ∨ i = 2 ∨ i = 3 ∨ i = 4 ∨ i = 5 := by omega
    rcases this with rfl | rfl | rfl | rfl | rfl | rfl <;> rfl

theorem int_arg {W : World} {base : Nat} {v : Value} {t : TypeId} {k : IntKind} (hu : Tryd.prog.underlying t = some (.int k)) (h : Value.okWide Tryd.prog W .any base t v) : ∃ n, v = .int k n := by
  cases v with
  | int k n =>
    simp only [Value.okWide, Cell.okWide, Cell.ok, hu] at h
    exact ⟨n, by rw [h.1]⟩
  | _ => simp [Value.okWide, Cell.okWide, Cell.ok, hu] at h
theorem closed : closedT Tryd.prog [5, 2] = true := by kernel_rfl
theorem ty_i {t : TypeId} {k : IntKind} (hu : Tryd.prog.underlying t = some (.int k)) {l : List DV} (h : TyOk Tryd.prog t l) : ∃ n, l = [.i k n] ∧ (k.min ≤ n ∧ n ≤ k.max) := by
  cases h with
  | int _ k' n ht hw => rw [hu] at ht; cases ht; exact ⟨n, rfl, hw⟩
  | bool _ x ht => rw [hu] at ht; cases ht
  | str _ s ht hs => rw [hu] at ht; cases ht
  | sl _ e n cells ht => rw [hu] at ht; cases ht
  | arr _ e n cells ht => rw [hu] at ht; cases ht
  | struct _ fs cs ht => rw [hu] at ht; cases ht

theorem contract (H : Type) (enc : TypeId × Value → H) (W : World) (base : Nat) (args : Array Value) (ds gs : List (DataW H)) (before : List MemPlace)
    (hval : ∀ (j : Nat) t v, Tryd.f3.params[j]? = some t → args[j]? = some v → Value.okWide Tryd.prog W .any base t v)
    (hW : DataW.Whole enc Tryd.prog Tryd.f3.params.toList Rows.boundGreatestSpec.vars false W args.toList ds gs before) (hL : laidMetH Tryd.prog Rows.boundGreatestRow.laid W) :
    Calls Tryd.prog 3 args W fun e W' => ∃ v, e = .returned v ∧ Rows.boundGreatestSpec.post enc Tryd.prog Tryd.f3 false true false false W args v W' := by
  have hW' := hW
  obtain ⟨p, q, hA0, hV, rfl, hfz, hnd⟩ := hW
  have hA : DataW.TrodAll enc Tryd.prog W 0 (fun _ => true) true Tryd.f3.params.toList args.toList ds p := hA0
  rw [Tryd.params3] at hA hval
  obtain ⟨v0, vs0, d0, ds0, p0, q0, hargs, rfl, rfl, h0, r0⟩ := trodAll_cons hA
  obtain ⟨v1, vs1, d1, ds1, p1, q1, rfl, rfl, rfl, h1, r1⟩ := trodAll_cons r0
  obtain ⟨rfl, rfl, rfl⟩ := trodAll_nil r1
  obtain rfl : args = #[v0, v1] := by cases args; simp_all
  obtain ⟨n0, rfl⟩ := int_arg Tryd.underlying5 (hval 0 5 v0 rfl rfl)
  obtain ⟨n1, rfl⟩ := int_arg Tryd.underlying2 (hval 1 2 v1 rfl rfl)
  obtain ⟨hty0, hrel0⟩ := arg_rel1 closed (t := 5) (by simp) h0 (before := p0 ++ p1) (fun x hx => List.mem_append_left _ hx) rfl
  obtain ⟨hty1, hrel1⟩ := arg_rel1 closed (t := 2) (by simp) h1 (before := p0 ++ p1) (fun x hx => List.mem_append_right _ hx) rfl
  obtain ⟨c, hc, hc0, hc1⟩ := ty_i Tryd.underlying5 hty0
  obtain ⟨tok, ht, ht0, ht1⟩ := ty_i Tryd.underlying2 hty1
  have hrel0 := hrel0 _ hc
  have hrel1 := hrel1 _ ht
  have hc0 : (0 : Int) ≤ c := hc0
  have hc1 : c ≤ 255 := hc1
  have ht0 : (-9223372036854775808 : Int) ≤ tok := ht0
  have ht1 : tok ≤ 9223372036854775807 := ht1
  obtain ⟨a, rfl⟩ : ∃ a : Nat, c = .ofNat a := ⟨c.toNat, by simp only [Int.ofNat_eq_natCast]; omega⟩
  have ha : a < 256 := by simp only [Int.ofNat_eq_natCast] at hc1; omega
  have hcal := law_ok (c0 := a) (tok := tok) ha ⟨by omega, by omega⟩
  refine (law_of_run eOk mixed hcal (before := p0 ++ p1) (globs hL) (args := #[.int .u8 n0, .int .i64 n1]) rfl (fun i hi => ?_)).mono ?_
  · have hi2 : i < 2 := hi
    have : i = 0 ∨ i = 1 := by omega
    rcases this with rfl | rfl
    · exact hrel0
    · exact hrel1
  · rintro e W' ⟨rfl, hk, hio⟩
    refine ⟨_, rfl, post_true (tb := 4) closed (fun t ht => ?_) rfl rfl rfl rfl (by kernel_rfl) Tryd.underlying4 hW' hk hio⟩
    rw [Tryd.params3] at ht
    have : t = 5 ∨ t = 2 := by simpa using ht
    rcases this with rfl | rfl <;> simp

mutual
def flat : DataW Unit → List Value
  | .lit (.int k n) => [.int k n]
  | .agg l => flatL l
  | _ => []
def flatL : List (DataW Unit) → List Value
  | [] => []
  | d :: r => flat d ++ flatL r
end
def lay (cs : List Value) : Obj → Obj
  | .cells _ t frozen => .cells cs.toArray t frozen
  | o => o
/-- A world for the witness: the listed variables hold what their initialisers lay. -/
def laidWorld (os : Os) : World :=
  let w0 := World.holding Tryd.prog os ⟨#[], #[], []⟩
  { w0 with heap := ((w0.heap.modify 0 (lay (flat Rows.laid_foreman_op_kinds))).modify 1 (lay (flat Rows.laid_unicode_utf8_first))).modify 2 (lay (flat Rows.laid_unicode_utf8_acceptRanges)) }
theorem laid_met (os : Os) : laidMetH Tryd.prog Rows.boundGreatestRow.laid ((laidWorld os).forCall (fun _ _ => 0) ⟨#[], #[.int .u8 0, .int .i64 0], []⟩).memory := by
  unfold laidMetH
  rw [noHandles]
  exact laidMet_of_run3 10 (by kernel_rfl) (by kernel_rfl) (by kernel_rfl)
theorem reads (os : Os) {H : Type} (enc : TypeId × Value → H) : ∃ places, DataW.whole enc Tryd.prog ((laidWorld os).forCall (fun _ _ => 0) ⟨#[], #[.int .u8 0, .int .i64 0], []⟩).memory Tryd.f3.params.toList Rows.boundGreatestSpec.vars false #[.int .u8 0, .int .i64 0].toList 8 =
    some ([.lit (.int .u8 0), .lit (.int .i64 0)], [], places) :=
  ⟨[], by kernel_rfl⟩

theorem lifted (os : Os) (started : os.Started) (H : Type) (enc : TypeId × Value → H) (F : Stop.Interp) :
    ReturnsInHanded {} Tryd.checked os 3 .any ((OpenSpec.ofChange Rows.boundGreatestSpec).preRow enc Tryd.prog Tryd.f3 Rows.boundGreatestRow.domain false Rows.boundGreatestRow.laid) (((OpenSpec.ofChange Rows.boundGreatestSpec).at F).post enc Tryd.prog Tryd.f3 false true false false) := by
  obtain ⟨places, hx⟩ := reads os enc
  refine returnsInHanded_of_row (C := Tryd.checked) (s := OpenSpec.ofChange Rows.boundGreatestSpec) own started (by kernel_rfl) Tryd.func3
    (witness_row_atRef (enc := enc) (C := Tryd.checked) false (laidWorld os) #[.int .u8 0, .int .i64 0] rfl (by kernel_rfl) (by kernel_rfl) (by kernel_rfl)
      (OpenSpec.preRow_of_cond 8 hx (by kernel_rfl) (fun k hk => by cases hk) (by kernel_rfl) (laid_met os))) ?_
  intro W base args ds gs before hval hW _ _ _ hL _ _
  exact contract H enc W base args ds gs before hval hW hL

theorem funcIs : Tryd.pinned.checked.prog.funcNamed Rows.boundGreatestRow.func = some 3 := by kernel_rfl
theorem inst : Tryd.f3.isInstance Tryd.pinned.checked.prog Rows.boundGreatestRow.origin Rows.boundGreatestRow.targs := of_decide_eq_true (by kernel_rfl)
theorem wraps : Tryd.f3.isWrapper Tryd.pinned.checked.prog Rows.boundGreatestRow.wrapper Rows.boundGreatestRow.mainSum := by
  unfold Func.isWrapper; first | (rw [if_pos (by decide +kernel)]; kernel_rfl) | (rw [if_neg (by decide +kernel)]; exact ⟨rfl, rfl⟩)
theorem said : Rows.BoundGreatestSaid :=
  OpenClaim.holds_of_cond 3 Tryd.f3 rfl rfl rfl rfl rfl rfl rfl ⟨rfl, rfl, rfl, rfl, rfl⟩ rfl rfl rfl rfl rfl funcIs Tryd.func3 facts inst wraps
    (fun os started H enc _ F => by rw [OpenClaim.pre_eq_preRow]; exact lifted os started H enc F)

/-- No parameter wants a stand-in; the program's own looks are off. -/
theorem plain (f : FuncId) (fn : Func) (hf : Tryd.pinned.checked.prog.funcNamed "foreman/foremanlaw29.BoundGreatest" = some f) (hfn : Tryd.pinned.checked.prog.funcs[f]? = some fn) :
    false = Tryd.pinned.checked.prog.looks [] ∧ ∀ (j : Nat) t, fn.params[j]? = some t → Tryd.pinned.checked.prog.wantsStandIn t = false := by
  obtain rfl : f = 3 := Option.some.inj ((show Tryd.prog.funcNamed "foreman/foremanlaw29.BoundGreatest" = some 3 by kernel_rfl).symm.trans hf) |>.symm
  obtain rfl : fn = Tryd.f3 := (Option.some.inj (Tryd.func3.symm.trans hfn)).symm
  refine ⟨by kernel_rfl, fun j t ht => ?_⟩
  rw [Tryd.params3] at ht
  have : t = 5 ∨ t = 2 := by simpa using Array.mem_of_getElem? ht
  rcases this with rfl | rfl
  · exact (show Tryd.prog.wantsStandIn 5 = false by kernel_rfl)
  · exact (show Tryd.prog.wantsStandIn 2 = false by kernel_rfl)

theorem mainIs : Tryd.pinned.checked.prog.mainIs = some (true, "6b781d4a9ee56b20a70c969d74132e51609e90c06140b05028f68dcc366551d0".toList) := by kernel_rfl
theorem byText : Rows.boundGreatestRow.wfByText (OpenSpec.ofChange Rows.boundGreatestSpec) = true := by kernel_rfl
theorem boundGreatest : Rows.BoundGreatestCardSaid :=
  Claim7.holds_tied_plain_at .later [] _ _ _ _ said (fun _ h => by cases h) byText (fun _ h => by cases h) boundGreatest_row_tie rfl ⟨rfl, rfl⟩ mainIs rfl plain goes
#print axioms boundGreatest
end
end Go.Proofs.YtjacnbabnpgpaaaDoor
