/- foremanlaw30.PlayerNone returns true for every text, and the text reads afterwards as before. Conditions: none beyond the given card's (what the listed package-level variables hold, tied to the program's text). -/
import Derived.Test.YtfbjkckdmigaoaaGreatDoorCards
import Derived.Test.YtfbjkckdmigaoaaGreatDoorTieD
import Derived.Test.YtfbjkckdmigaoaaGreatDoorFact
import Derived.Test.YtfbjkckdmigaoaaGreatDoorLib
import Derived.Test.YtfbjkckdmigaoaaGreatDoorShape
import Derived.ProofKit
import Derived.OpenShut
import Derived.Deep.DeepHandedRow
import Derived.Deep.DeepLaidRun
import Derived.Deep.DeepWitnessRowRef
import Derived.Lib.LaidTab
namespace Go.Proofs.YtfbjkckdmigaoaaGreatDoor
noncomputable section
open Go Go.ChangeShapes Go.WideShapes Go.ChangeAt Go.RowKit Go.Abs
set_option maxRecDepth 100000

theorem own : ownKnob Tryz.prog.godebug = none := by kernel_rfl
theorem mixed : Tryz.prog.follows .mixedOrders = true := by kernel_rfl
theorem gKinds : Tryz.prog.globalNamed "foreman/op.kinds" = some 8 := by kernel_rfl
theorem gKindsType : (Tryz.prog.globals[8]?).map (·.type) = some 439 := by kernel_rfl
theorem u439 : Tryz.prog.underlying 439 = some (.array 6 5) := by kernel_rfl
theorem co439 : Tryz.prog.cellsOf 439 = 6 := by kernel_rfl

theorem laidMet_tail {P : Program} {x : String × DataW Unit} {r : List (String × DataW Unit)} {W : World} (h : laidMet P (x :: r) W) : laidMet P r W := by
  obtain ⟨ps,⟨g,t,cs,fuel,p,q,h1,h2,h3,h4,h5,h6⟩,hn,hc⟩ := h
  subst h6
  exact ⟨q,h5,(List.nodup_append.1 hn).2.1,fun b off hm => hc b off (List.mem_append_right _ hm)⟩

theorem noHandles : (Rows.playerNoneRow.laid.filter fun x => x.2.handleName?.isSome) = [] := by kernel_rfl
theorem laidPlain {W : World} (h : laidMetH Tryz.prog Rows.playerNoneRow.laid W) : laidMet Tryz.prog Rows.playerNoneRow.laid W := by
  unfold laidMetH at h
  rw [noHandles] at h
  exact h

theorem table {W : World} (h : laidMetH Tryz.prog Rows.playerNoneRow.laid W) : Lib.TabIs Tryz.prog W "foreman/op.kinds" .u8 [0,3,4,29,12,4] :=
  Lib.tabIs_of_head gKinds gKindsType u439 Tryz.underlying5 co5 co439 (laidMet_tail (laidMet_tail (laidMet_tail (laidMet_tail (laidMet_tail (laidMet_tail (laidMet_tail (laidPlain h))))))))

theorem globs {W : World} (h : laidMetH Tryz.prog Rows.playerNoneRow.laid W) : ∀ g i (hi : i < (glT g).length),∃ k n,(glT g)[i] = .i k n ∧ W.cell? ⟨g,i,none⟩ = some (.int k n) := by
  intro g i hi
  by_cases hg : g = 8
  · subst hg
    have hi' : i < 6 := hi
    have hc := (table h).cell gKinds i hi'
    refine ⟨.u8,[0,3,4,29,12,4].getD i 0,?_,hc⟩
    have : i = 0 ∨ i = 1 ∨ i = 2 ∨ i = 3 ∨ i = 4 ∨ i = 5 := by omega
    rcases this with rfl | rfl | rfl | rfl | rfl | rfl <;> rfl
  · have hb : Nat.beq g 8 = false := by rw [← Bool.not_eq_true,Nat.beq_eq]; exact hg
    have : glT g = [] := by unfold glT; rw [hb]
    rw [this] at hi
    exact absurd hi (by simp)

theorem str_arg {W : World} {base : Nat} {v : Value} (h : Value.okWide Tryz.prog W .any base 9 v) : ∃ b,v = .string b := by
  cases v with
  | string b => exact ⟨b,rfl⟩
  | _ => simp [Value.okWide,Cell.okWide,Cell.ok,Tryz.underlying9] at h

theorem contract (H : Type) (enc : TypeId × Value → H) (W : World) (base : Nat) (args : Array Value) (ds gs : List (DataW H)) (before : List MemPlace)
    (hval : ∀ (j : Nat) t v,Tryz.f3.params[j]? = some t → args[j]? = some v → Value.okWide Tryz.prog W .any base t v)
    (hW : DataW.Whole enc Tryz.prog Tryz.f3.params.toList Rows.playerNoneSpec.vars false W args.toList ds gs before) (hL : laidMetH Tryz.prog Rows.playerNoneRow.laid W) :
    Calls Tryz.prog 3 args W fun e W' => ∃ v,e = .returned v ∧ Rows.playerNoneSpec.post enc Tryz.prog Tryz.f3 false true false false W args v W' := by
  have hW' := hW
  obtain ⟨p,q,hA0,hV,rfl,hfz,hnd⟩ := hW
  have hA : DataW.TrodAll enc Tryz.prog W 0 (fun _ => true) true Tryz.f3.params.toList args.toList ds p := hA0
  rw [Tryz.params3] at hA hval
  obtain ⟨v0,vs0,d0,ds0,p0,q0,hargs,rfl,rfl,h0,r0⟩ := trodAll_cons hA
  obtain ⟨rfl,rfl,rfl⟩ := trodAll_nil r0
  obtain rfl : args = #[v0] := by cases args; simp_all
  have hv0 := hval 0 9 v0 rfl rfl
  obtain ⟨b,rfl⟩ := str_arg hv0
  obtain ⟨hty,hrel⟩ := arg_rel1 closed (t := 9) (by simp) h0 (before := p0 ++ []) (fun x hx => List.mem_append_left _ hx) rfl
  obtain ⟨s,hm⟩ := ty_str Tryz.underlying9 hty
  have hrel := hrel _ hm
  have hcal := law_ok aw_ok s .empty
  refine (law_of_run eOk mixed hcal (before := p0 ++ []) (globs hL) (args := #[.string b]) rfl (fun i hi => ?_)).mono ?_
  · have hi2 : i < 1 := hi
    have : i = 0 := by omega
    subst this
    exact hrel
  · rintro e W' ⟨rfl,hk,hio⟩
    refine ⟨_,rfl,post_true (tb := 4) closed (fun t ht => ?_) rfl rfl rfl rfl (by kernel_rfl) Tryz.underlying4 hW' hk hio⟩
    rw [Tryz.params3] at ht
    have : t = 9 := by simpa using ht
    subst this; simp

mutual
def flat : DataW Unit → List Value
  | .lit (.int k n) => [.int k n]
  | .agg l => flatL l
  | _ => []
def flatL : List (DataW Unit) → List Value
  | [] => []
  | d :: r => flat d ++ flatL r
end
def lay (cs : List Value) : Obj → Obj
  | .cells _ t frozen => .cells cs.toArray t frozen
  | o => o
abbrev synS : ByteArray := { data := #[105,110,118,97,108,105,100,32,115,121,110,116,97,120] }
abbrev rngS : ByteArray := { data := #[118,97,108,117,101,32,111,117,116,32,111,102,32,114,97,110,103,101] }
noncomputable def low : Nat := (World.holding Tryz.prog default ⟨#[],#[],[]⟩).heap.size
noncomputable def laidWorld (os : Os) : World :=
  let w0 := World.holding Tryz.prog os ⟨#[.cells #[.string synS] 394,.cells #[.string rngS] 394],#[],[]⟩
  { w0 with heap := (((((((w0.heap.modify 8 (lay (flat Rows.laid_foreman_op_kinds))).modify 1 (lay (flat Rows.laid_unicode_utf8_first))).modify 2 (lay (flat Rows.laid_unicode_utf8_acceptRanges))).modify 4 (lay [.iface 392 (.pointer (some ⟨low,0,none⟩))])).modify 5
      (lay [.iface 392 (.pointer (some ⟨low + 1,0,none⟩))])).modify 3 (lay (flat Rows.laid_internal_strconv_uint64pow10))).modify 6 (lay (flat Rows.laid_math_bits_deBruijn32tab))).modify 7 (lay (flat Rows.laid_math_bits_deBruijn64tab)) }
noncomputable def arg0 : Value := .string ⟨#[]⟩
theorem laid_met (os : Os) : laidMetH Tryz.prog Rows.playerNoneRow.laid ((laidWorld os).forCall (fun _ _ => 0) ⟨#[],#[arg0],[]⟩).memory := by
  unfold laidMetH
  rw [noHandles]
  exact laidMet_of_run3 10 (by kernel_rfl) (by kernel_rfl) (by kernel_rfl)
theorem reads (os : Os) {H : Type} (enc : TypeId × Value → H) : ∃ places,DataW.whole enc Tryz.prog ((laidWorld os).forCall (fun _ _ => 0) ⟨#[],#[arg0],[]⟩).memory Tryz.f3.params.toList Rows.playerNoneSpec.vars false #[arg0].toList 8 =
    some ([.lit (.string [])],[],places) :=
  ⟨[],by kernel_rfl⟩

theorem lifted (os : Os) (started : os.Started) (H : Type) (enc : TypeId × Value → H) (F : Stop.Interp) :
    ReturnsInHanded {} Tryz.checked os 3 .any ((OpenSpec.ofChange Rows.playerNoneSpec).preRow enc Tryz.prog Tryz.f3 Rows.playerNoneRow.domain false Rows.playerNoneRow.laid) (((OpenSpec.ofChange Rows.playerNoneSpec).at F).post enc Tryz.prog Tryz.f3 false true false false) := by
  obtain ⟨places,hx⟩ := reads os enc
  refine returnsInHanded_of_row (C := Tryz.checked) (s := OpenSpec.ofChange Rows.playerNoneSpec) own started (by kernel_rfl) Tryz.func3
    (witness_row_atRef (enc := enc) (C := Tryz.checked) false (laidWorld os) #[arg0] rfl (by kernel_rfl) (by kernel_rfl) (by kernel_rfl)
      (OpenSpec.preRow_of_cond 8 hx (by kernel_rfl) (fun k hk => by cases hk) (by kernel_rfl) (laid_met os))) ?_
  intro W base args ds gs before hval hW _ _ _ hL _ _
  exact contract H enc W base args ds gs before hval hW hL

theorem funcIs : Tryz.pinned.checked.prog.funcNamed Rows.playerNoneRow.func = some 3 := by kernel_rfl
theorem inst : Tryz.f3.isInstance Tryz.pinned.checked.prog Rows.playerNoneRow.origin Rows.playerNoneRow.targs := of_decide_eq_true (by kernel_rfl)
theorem wraps : Tryz.f3.isWrapper Tryz.pinned.checked.prog Rows.playerNoneRow.wrapper Rows.playerNoneRow.mainSum := by
  unfold Func.isWrapper; first | (rw [if_pos (by decide +kernel)]; kernel_rfl) | (rw [if_neg (by decide +kernel)]; exact ⟨rfl,rfl⟩)
theorem said : Rows.PlayerNoneSaid :=
  OpenClaim.holds_of_cond 3 Tryz.f3 rfl rfl rfl rfl rfl rfl rfl ⟨rfl,rfl,rfl,rfl,rfl⟩ rfl rfl rfl rfl rfl funcIs Tryz.func3 facts inst wraps
    (fun os started H enc _ F => by rw [OpenClaim.pre_eq_preRow]; exact lifted os started H enc F)

theorem plain (f : FuncId) (fn : Func) (hf : Tryz.pinned.checked.prog.funcNamed "foreman/foremanlaw30.PlayerNone" = some f) (hfn : Tryz.pinned.checked.prog.funcs[f]? = some fn) :
    true = Tryz.pinned.checked.prog.looks [] ∧ ∀ (j : Nat) t,fn.params[j]? = some t → Tryz.pinned.checked.prog.wantsStandIn t = false := by
  obtain rfl : f = 3 := Option.some.inj ((show Tryz.prog.funcNamed "foreman/foremanlaw30.PlayerNone" = some 3 by kernel_rfl).symm.trans hf) |>.symm
  obtain rfl : fn = Tryz.f3 := (Option.some.inj (Tryz.func3.symm.trans hfn)).symm
  refine ⟨by kernel_rfl,fun j t ht => ?_⟩
  rw [Tryz.params3] at ht
  have : t = 9 := by simpa using Array.mem_of_getElem? ht
  subst this
  exact (show Tryz.prog.wantsStandIn 9 = false by kernel_rfl)

theorem mainIs : Tryz.pinned.checked.prog.mainIs = some (true,"a9a5d48bd5f6dbb7ef59546dfefac67b6a75485b22fa48d205283b2cd4b7ad34".toList) := by kernel_rfl
theorem byText : Rows.playerNoneRow.wfByText (OpenSpec.ofChange Rows.playerNoneSpec) = true := by kernel_rfl
theorem playerNone : Rows.PlayerNoneCardSaid :=
  Claim7.holds_tied_plain_at .later [] _ _ _ _ said (fun _ h => by cases h) byText (fun _ h => by cases h) playerNone_row_tie rfl ⟨rfl,rfl⟩ mainIs rfl plain goes
#print axioms playerNone
end
end Go.Proofs.YtfbjkckdmigaoaaGreatDoor
