/- foremanlaw29.BoundTells returns true for every state, flow, node's number and operation, and it reads afterwards as before. Conditions: none beyond the given card's (what the listed package-level variables hold, tied to the program's text). -/
import Derived.Test.YtjacnbabnpgpaaaGreatDoorCards
import Derived.Test.YtjacnbabnpgpaaaGreatDoorTie
import Derived.Test.YtjacnbabnpgpaaaGreatDoorFact
import Derived.Test.YtjacnbabnpgpaaaGreatDoorLib
import Derived.Test.YtjacnbabnpgpaaaGreatDoorShape
import Derived.Test.YtjacnbabnpgpaaaGreatDoorAS
import Derived.ProofKit
import Derived.OpenShut
import Derived.Deep.DeepHandedRow
import Derived.Deep.DeepLaidRun
import Derived.Deep.DeepWitnessRowRef
import Derived.Lib.LaidTab
namespace Go.Proofs.YtjacnbabnpgpaaaGreatDoor
noncomputable section
open Go Go.ChangeShapes Go.WideShapes Go.ChangeAt Go.RowKit Go.Abs
set_option maxRecDepth 100000

theorem own : ownKnob Tryz.prog.godebug = none := by kernel_rfl
theorem mixed : Tryz.prog.follows .mixedOrders = true := by kernel_rfl
theorem gKinds : Tryz.prog.globalNamed "foreman/op.kinds" = some 0 := by kernel_rfl
theorem gKindsType : (Tryz.prog.globals[0]?).map (·.type) = some 118 := by kernel_rfl
theorem u118 : Tryz.prog.underlying 118 = some (.array 6 5) := by kernel_rfl
theorem co118 : Tryz.prog.cellsOf 118 = 6 := by kernel_rfl

theorem laidMet_tail {P : Program} {x : String × DataW Unit} {r : List (String × DataW Unit)} {W : World} (h : laidMet P (x :: r) W) : laidMet P r W := by
  obtain ⟨ps, ⟨g, t, cs, fuel, p, q, h1, h2, h3, h4, h5, h6⟩, hn, hc⟩ := h
  subst h6
  exact ⟨q, h5, (List.nodup_append.1 hn).2.1, fun b off hm => hc b off (List.mem_append_right _ hm)⟩

theorem noHandles : (Rows.boundTellsRow.laid.filter fun x => x.2.handleName?.isSome) = [] := by kernel_rfl
theorem laidPlain {W : World} (h : laidMetH Tryz.prog Rows.boundTellsRow.laid W) : laidMet Tryz.prog Rows.boundTellsRow.laid W := by
  unfold laidMetH at h
  rw [noHandles] at h
  exact h

theorem table {W : World} (h : laidMetH Tryz.prog Rows.boundTellsRow.laid W) : Lib.TabIs Tryz.prog W "foreman/op.kinds" .u8 [0, 3, 4, 29, 12, 4] :=
  Lib.tabIs_of_head (rest := [("unicode/utf8.first", Rows.laid_unicode_utf8_first)]) gKinds gKindsType u118 Tryz.underlying5 co5 co118 (laidMet_tail (laidPlain h))

theorem globs {W : World} (h : laidMetH Tryz.prog Rows.boundTellsRow.laid W) : ∀ g i (hi : i < (glT g).length), ∃ k n, (glT g)[i] = .i k n ∧ W.cell? ⟨g, i, none⟩ = some (.int k n) := by
  intro g i hi
  cases g with
  | succ g => exact absurd hi (by show ¬ i < 0; omega)
  | zero =>
    have hi' : i < 6 := hi
    have hc := (table h).cell gKinds i hi'
    refine ⟨.u8, [0, 3, 4, 29, 12, 4].getD i 0, ?_, hc⟩
    have : i = 0 ∨ i = 1 ∨ i = 2 ∨ i = 3 ∨ i = 4 ∨ i = 5 := by omega
    rcases this with rfl | rfl | rfl | rfl | rfl | rfl <;> rfl

theorem int_arg {W : World} {base : Nat} {v : Value} {t : TypeId} {k : IntKind} (hu : Tryz.prog.underlying t = some (.int k)) (h : Value.okWide Tryz.prog W .any base t v) : ∃ n, v = .int k n := by
  cases v with
  | int k n =>
    simp only [Value.okWide, Cell.okWide, Cell.ok, hu] at h
    exact ⟨n, by rw [h.1]⟩
  | _ => simp [Value.okWide, Cell.okWide, Cell.ok, hu] at h
theorem struct_arg {W : World} {base : Nat} {v : Value} {t : TypeId} {fs : Array Field} (hu : Tryz.prog.underlying t = some (.struct fs)) (h : Value.okWide Tryz.prog W .any base t v) : ∃ cs, v = .agg cs := by
  unfold Value.okWide at h
  rw [hu] at h
  obtain ⟨cs, rfl, _⟩ := h
  exact ⟨cs, rfl⟩

theorem contract (H : Type) (enc : TypeId × Value → H) (W : World) (base : Nat) (args : Array Value) (ds gs : List (DataW H)) (before : List MemPlace)
    (hval : ∀ (j : Nat) t v, Tryz.f3.params[j]? = some t → args[j]? = some v → Value.okWide Tryz.prog W .any base t v)
    (hW : DataW.Whole enc Tryz.prog Tryz.f3.params.toList Rows.boundTellsSpec.vars false W args.toList ds gs before) (hL : laidMetH Tryz.prog Rows.boundTellsRow.laid W) :
    Calls Tryz.prog 3 args W fun e W' => ∃ v, e = .returned v ∧ Rows.boundTellsSpec.post enc Tryz.prog Tryz.f3 false true false false W args v W' := by
  have hW' := hW
  obtain ⟨p, q, hA0, hV, rfl, hfz, hnd⟩ := hW
  have hA : DataW.TrodAll enc Tryz.prog W 0 (fun _ => true) true Tryz.f3.params.toList args.toList ds p := hA0
  rw [Tryz.params3] at hA hval
  obtain ⟨v0, vs0, d0, ds0, p0, q0, hargs, rfl, rfl, h0, r0⟩ := trodAll_cons hA
  obtain ⟨v1, vs1, d1, ds1, p1, q1, rfl, rfl, rfl, h1, r1⟩ := trodAll_cons r0
  obtain ⟨v2, vs2, d2, ds2, p2, q2, rfl, rfl, rfl, h2, r2⟩ := trodAll_cons r1
  obtain ⟨v3, vs3, d3, ds3, p3, q3, rfl, rfl, rfl, h3, r3⟩ := trodAll_cons r2
  obtain ⟨rfl, rfl, rfl⟩ := trodAll_nil r3
  obtain rfl : args = #[v0, v1, v2, v3] := by cases args; simp_all
  obtain ⟨cs0, rfl⟩ := struct_arg Tryz.underlying26 (hval 0 26 v0 rfl rfl)
  obtain ⟨n1, rfl⟩ := int_arg Tryz.underlying3 (hval 1 3 v1 rfl rfl)
  obtain ⟨n2, rfl⟩ := int_arg Tryz.underlying3 (hval 2 3 v2 rfl rfl)
  obtain ⟨cs3, rfl⟩ := struct_arg Tryz.underlying32 (hval 3 32 v3 rfl rfl)
  obtain ⟨hrel0, hty0⟩ := arg_rel closed (t := 26) (by simp) h0 (before := p0 ++ (p1 ++ (p2 ++ (p3 ++ [])))) (fun x hx => by simp [hx]) rfl
  obtain ⟨hty1, hrel1⟩ := arg_rel1 closed (t := 3) (by simp) h1 (before := p0 ++ (p1 ++ (p2 ++ (p3 ++ [])))) (fun x hx => by simp [hx]) rfl
  obtain ⟨hty2, hrel2⟩ := arg_rel1 closed (t := 3) (by simp) h2 (before := p0 ++ (p1 ++ (p2 ++ (p3 ++ [])))) (fun x hx => by simp [hx]) rfl
  obtain ⟨hrel3, hty3⟩ := arg_rel closed (t := 32) (by simp) h3 (before := p0 ++ (p1 ++ (p2 ++ (p3 ++ [])))) (fun x hx => by simp [hx]) rfl
  obtain ⟨c1, c2, c3, c4, c5, nf, nn, ncs, tk, hs, hN⟩ := s_of hty0
  obtain ⟨fl, hfl, _⟩ := ty_int hty1
  obtain ⟨at', hat, _⟩ := ty_int hty2
  obtain ⟨o, ho⟩ := in_of hty3
  have hrel1 := hrel1 _ hfl
  have hrel2 := hrel2 _ hat
  rw [hs] at hrel0
  have hcal := law_ok (c1 := c1) (c2 := c2) (c3 := c3) (c4 := c4) (c5 := c5) (nf := nf) (nb := true) (tk := tk) (fl := fl) (at' := at') hN ho
  refine (law_of_run eOk mixed hcal (before := p0 ++ (p1 ++ (p2 ++ (p3 ++ [])))) (globs hL) (args := #[.agg cs0, .int .i64 n1, .int .i64 n2, .agg cs3]) rfl (fun i hi => ?_)).mono ?_
  · have hi2 : i < 4 := hi
    have : i = 0 ∨ i = 1 ∨ i = 2 ∨ i = 3 := by omega
    rcases this with rfl | rfl | rfl | rfl
    · exact hrel0
    · exact hrel1
    · exact hrel2
    · exact hrel3
  · rintro e W' ⟨rfl, hk, hio⟩
    refine ⟨_, rfl, post_true (tb := 4) closed (fun t ht => ?_) rfl rfl rfl rfl (by kernel_rfl) Tryz.underlying4 hW' hk hio⟩
    rw [Tryz.params3] at ht
    have : t = 26 ∨ t = 3 ∨ t = 32 := by simpa using ht
    rcases this with rfl | rfl | rfl <;> simp

mutual
def flat : DataW Unit → List Value
  | .lit (.int k n) => [.int k n]
  | .agg l => flatL l
  | _ => []
def flatL : List (DataW Unit) → List Value
  | [] => []
  | d :: r => flat d ++ flatL r
end
def lay (cs : List Value) : Obj → Obj
  | .cells _ t frozen => .cells cs.toArray t frozen
  | o => o
def laidWorld (os : Os) : World :=
  let w0 := World.holding Tryz.prog os ⟨#[], #[], []⟩
  { w0 with heap := ((w0.heap.modify 0 (lay (flat Rows.laid_foreman_op_kinds))).modify 1 (lay (flat Rows.laid_unicode_utf8_first))).modify 2 (lay (flat Rows.laid_unicode_utf8_acceptRanges)) }
def arg0 : Value := .agg #[.int .i64 0, .int .i64 0, .int .i64 0, .int .i64 0, .int .i64 0, .int .i64 0, .slice none 0 0, .int .i64 0]
def arg3 : Value := .agg #[.int .u8 0, .string ⟨#[]⟩, .int .i64 0, .int .u8 0, .int .i64 0, .string ⟨#[]⟩, .slice none 0 0, .slice none 0 0, .int .i64 0]
theorem laid_met (os : Os) : laidMetH Tryz.prog Rows.boundTellsRow.laid ((laidWorld os).forCall (fun _ _ => 0) ⟨#[], #[arg0, .int .i64 0, .int .i64 0, arg3], []⟩).memory := by
  unfold laidMetH
  rw [noHandles]
  exact laidMet_of_run3 10 (by kernel_rfl) (by kernel_rfl) (by kernel_rfl)
theorem reads (os : Os) {H : Type} (enc : TypeId × Value → H) : ∃ places, DataW.whole enc Tryz.prog ((laidWorld os).forCall (fun _ _ => 0) ⟨#[], #[arg0, .int .i64 0, .int .i64 0, arg3], []⟩).memory Tryz.f3.params.toList Rows.boundTellsSpec.vars false #[arg0, .int .i64 0, .int .i64 0, arg3].toList 8 =
    some ([.agg [.agg [.lit (.int .i64 0), .lit (.int .i64 0), .lit (.int .i64 0), .lit (.int .i64 0), .lit (.int .i64 0)], .lit (.int .i64 0), .nil, .lit (.int .i64 0)], .lit (.int .i64 0), .lit (.int .i64 0), .agg [.lit (.int .u8 0), .lit (.string []), .lit (.int .i64 0), .agg [.lit (.int .u8 0), .lit (.int .i64 0), .lit (.string []), .nil], .nil, .lit (.int .i64 0)]], [], places) :=
  ⟨[], by kernel_rfl⟩

theorem lifted (os : Os) (started : os.Started) (H : Type) (enc : TypeId × Value → H) (F : Stop.Interp) :
    ReturnsInHanded {} Tryz.checked os 3 .any ((OpenSpec.ofChange Rows.boundTellsSpec).preRow enc Tryz.prog Tryz.f3 Rows.boundTellsRow.domain false Rows.boundTellsRow.laid) (((OpenSpec.ofChange Rows.boundTellsSpec).at F).post enc Tryz.prog Tryz.f3 false true false false) := by
  obtain ⟨places, hx⟩ := reads os enc
  refine returnsInHanded_of_row (C := Tryz.checked) (s := OpenSpec.ofChange Rows.boundTellsSpec) own started (by kernel_rfl) Tryz.func3
    (witness_row_atRef (enc := enc) (C := Tryz.checked) false (laidWorld os) #[arg0, .int .i64 0, .int .i64 0, arg3] rfl (by kernel_rfl) (by kernel_rfl) (by kernel_rfl)
      (OpenSpec.preRow_of_cond 8 hx (by kernel_rfl) (fun k hk => by cases hk) (by kernel_rfl) (laid_met os))) ?_
  intro W base args ds gs before hval hW _ _ _ hL _ _
  exact contract H enc W base args ds gs before hval hW hL

theorem funcIs : Tryz.pinned.checked.prog.funcNamed Rows.boundTellsRow.func = some 3 := by kernel_rfl
theorem inst : Tryz.f3.isInstance Tryz.pinned.checked.prog Rows.boundTellsRow.origin Rows.boundTellsRow.targs := of_decide_eq_true (by kernel_rfl)
theorem wraps : Tryz.f3.isWrapper Tryz.pinned.checked.prog Rows.boundTellsRow.wrapper Rows.boundTellsRow.mainSum := by
  unfold Func.isWrapper; first | (rw [if_pos (by decide +kernel)]; kernel_rfl) | (rw [if_neg (by decide +kernel)]; exact ⟨rfl, rfl⟩)
theorem said : Rows.BoundTellsSaid :=
  OpenClaim.holds_of_cond 3 Tryz.f3 rfl rfl rfl rfl rfl rfl rfl ⟨rfl, rfl, rfl, rfl, rfl⟩ rfl rfl rfl rfl rfl funcIs Tryz.func3 facts inst wraps
    (fun os started H enc _ F => by rw [OpenClaim.pre_eq_preRow]; exact lifted os started H enc F)

theorem plain (f : FuncId) (fn : Func) (hf : Tryz.pinned.checked.prog.funcNamed "foreman/foremanlaw29.BoundTells" = some f) (hfn : Tryz.pinned.checked.prog.funcs[f]? = some fn) :
    false = Tryz.pinned.checked.prog.looks [] ∧ ∀ (j : Nat) t, fn.params[j]? = some t → Tryz.pinned.checked.prog.wantsStandIn t = false := by
  obtain rfl : f = 3 := Option.some.inj ((show Tryz.prog.funcNamed "foreman/foremanlaw29.BoundTells" = some 3 by kernel_rfl).symm.trans hf) |>.symm
  obtain rfl : fn = Tryz.f3 := (Option.some.inj (Tryz.func3.symm.trans hfn)).symm
  refine ⟨by kernel_rfl, fun j t ht => ?_⟩
  rw [Tryz.params3] at ht
  have : t = 26 ∨ t = 3 ∨ t = 32 := by simpa using Array.mem_of_getElem? ht
  rcases this with rfl | rfl | rfl
  · exact (show Tryz.prog.wantsStandIn 26 = false by kernel_rfl)
  · exact (show Tryz.prog.wantsStandIn 3 = false by kernel_rfl)
  · exact (show Tryz.prog.wantsStandIn 32 = false by kernel_rfl)

theorem mainIs : Tryz.pinned.checked.prog.mainIs = some (true, "3bd09e0bf4c92c2b7668c8a5caace43614f5a5c7af12d8bba0cc8037b8e90875".toList) := by kernel_rfl
theorem byText : Rows.boundTellsRow.wfByText (OpenSpec.ofChange Rows.boundTellsSpec) = true := by kernel_rfl
theorem boundTells : Rows.BoundTellsCardSaid :=
  Claim7.holds_tied_plain_at .later [] _ _ _ _ said (fun _ h => by cases h) byText (fun _ h => by cases h) boundTells_row_tie rfl ⟨rfl, rfl⟩ mainIs rfl plain goes
#print axioms boundTells
end
end Go.Proofs.YtjacnbabnpgpaaaGreatDoor
