/- foremanlaw30.PlayerItems returns true for every two items and every text, and they read afterwards as before. Conditions: none beyond the given card's (what the listed package-level variables hold, tied to the program's text). -/
import Derived.Test.YtehffjjfomapnaaGreatDoorCards
import Derived.Test.YtehffjjfomapnaaGreatDoorTieD
import Derived.Test.YtehffjjfomapnaaGreatDoorAw
import Derived.Test.YtehffjjfomapnaaGreatDoorFact
import Derived.Test.YtehffjjfomapnaaGreatDoorLib
import Derived.Test.YtehffjjfomapnaaGreatDoorShape
import Derived.LaidLaws
import Derived.ProofKit
import Derived.OpenShut
import Derived.Deep.DeepHandedRow
import Derived.Deep.DeepLaidRun
import Derived.Deep.DeepWitnessRowRef
import Derived.Lib.LaidTab
namespace Go.Proofs.YtehffjjfomapnaaGreatDoor
noncomputable section
open Go Go.ChangeShapes Go.WideShapes Go.ChangeAt Go.RowKit Go.Abs
set_option maxRecDepth 100000

theorem own : ownKnob Tryz.prog.godebug = none := by kernel_rfl
theorem mixed : Tryz.prog.follows .mixedOrders = true := by kernel_rfl
theorem gKinds : Tryz.prog.globalNamed "foreman/op.kinds" = some 8 := by kernel_rfl
theorem gKindsType : (Tryz.prog.globals[8]?).map (·.type) = some 458 := by kernel_rfl
theorem uKinds : Tryz.prog.underlying 458 = some (.array 6 5) := by kernel_rfl
theorem coKinds : Tryz.prog.cellsOf 458 = 6 := by kernel_rfl
theorem gPow : Tryz.prog.globalNamed "internal/strconv.uint64pow10" = some 3 := by kernel_rfl
theorem gPowType : (Tryz.prog.globals[3]?).map (·.type) = some 234 := by kernel_rfl
theorem uPow : Tryz.prog.underlying 234 = some (.array 20 148) := by kernel_rfl
theorem coPow : Tryz.prog.cellsOf 234 = 20 := by kernel_rfl
theorem co64 : Tryz.prog.cellsOf 148 = 1 := by kernel_rfl
theorem gSyn : Tryz.prog.globalNamed "strconv.ErrSyntax" = some 1 := by kernel_rfl
theorem gSynType : (Tryz.prog.globals[1]?).map (·.type) = some 50 := by kernel_rfl
theorem gRng : Tryz.prog.globalNamed "strconv.ErrRange" = some 2 := by kernel_rfl
theorem gRngType : (Tryz.prog.globals[2]?).map (·.type) = some 50 := by kernel_rfl
theorem coErr : Tryz.prog.cellsOf 279 = 1 := by kernel_rfl
theorem star : "*" ++ "errors.errorString" = "*errors.errorString" := by decide
theorem errIs (v : TypeId) (h : Tryz.prog.typeName? 3 v = some "*errors.errorString") : v = 277 :=
  typeName_ptr_named (nm := "errors.errorString") (by rw [star]; kernel_rfl) (by kernel_rfl) (by decide) v (by rw [star]; exact h)

theorem noHandles : (Rows.playerItemsRow.laid.filter fun x => x.2.handleName?.isSome) = [] := by kernel_rfl
theorem laidPlain {W : World} (h : laidMetH Tryz.prog Rows.playerItemsRow.laid W) : laidMet Tryz.prog Rows.playerItemsRow.laid W := by
  unfold laidMetH at h
  rw [noHandles] at h
  exact h

theorem tabK {W : World} (h : laidMetH Tryz.prog Rows.playerItemsRow.laid W) : Lib.TabIs Tryz.prog W "foreman/op.kinds" .u8 [0,3,4,29,12,4] :=
  Lib.tabIs_of_head gKinds gKindsType uKinds Tryz.underlying5 co5 coKinds (laid_tail (laid_tail (laid_tail (laid_tail (laid_tail (laid_tail (laid_tail (laidPlain h))))))))
theorem tabP {W : World} (h : laidMetH Tryz.prog Rows.playerItemsRow.laid W) : Lib.TabIs Tryz.prog W "internal/strconv.uint64pow10" .u64 ((List.range 20).map fun i => ((10 ^ i : Nat) : Int)) :=
  Lib.tabIs_of_head gPow gPowType uPow Tryz.underlying148 co64 coPow (laid_tail (laid_tail (laidPlain h)))
theorem globs {W : World} (h : laidMetH Tryz.prog Rows.playerItemsRow.laid W) : ∀ g i (hi : i < (glT g).length),GlobAt W g i (glT g).length (glT g)[i] := by
  intro g i hi
  by_cases h8 : g = 8
  · subst h8
    have hi' : i < 6 := hi
    have hc := tab_at (tabK h) gKinds i hi'
    have : i = 0 ∨ i = 1 ∨ i = 2 ∨ i = 3 ∨ i = 4 ∨ i = 5 := by omega
    rcases this with rfl | rfl | rfl | rfl | rfl | rfl <;> exact hc
  by_cases h3 : g = 3
  · subst h3
    have hi' : i < 20 := hi
    have hc := tab_at (tabP h) gPow i hi'
    have e : (glT 3)[i] = .i .u64 (((List.range 20).map fun i => ((10 ^ i : Nat) : Int)).getD i 0) := by
      show (pow10D)[i]'hi = _
      simp [pow10D,List.getD,hi']
    exact cast (congrArg (GlobAt W 3 i 20) e.symm) hc
  by_cases h1 : g = 1
  · subst h1
    have hi' : i < 1 := hi
    obtain rfl : i = 0 := by omega
    exact sent_at gSyn gSynType Tryz.underlying50 errIs Tryz.underlying277 coErr (laid_tail (laid_tail (laid_tail (laid_tail (laid_tail (laidPlain h))))))
  by_cases h2 : g = 2
  · subst h2
    have hi' : i < 1 := hi
    obtain rfl : i = 0 := by omega
    exact sent_at gRng gRngType Tryz.underlying50 errIs Tryz.underlying277 coErr (laid_tail (laid_tail (laid_tail (laid_tail (laid_tail (laid_tail (laidPlain h)))))))
  have b8 : Nat.beq g 8 = false := by rw [← Bool.not_eq_true,Nat.beq_eq]; exact h8
  have b3 : Nat.beq g 3 = false := by rw [← Bool.not_eq_true,Nat.beq_eq]; exact h3
  have b1 : Nat.beq g 1 = false := by rw [← Bool.not_eq_true,Nat.beq_eq]; exact h1
  have b2 : Nat.beq g 2 = false := by rw [← Bool.not_eq_true,Nat.beq_eq]; exact h2
  have : glT g = [] := by unfold glT; rw [b8,b3,b1,b2]; rfl
  rw [this] at hi
  exact absurd hi (by simp)

theorem str_arg {W : World} {base : Nat} {v : Value} (h : Value.okWide Tryz.prog W .any base 9 v) : ∃ b,v = .string b := by
  cases v with
  | string b => exact ⟨b,rfl⟩
  | _ => simp [Value.okWide,Cell.okWide,Cell.ok,Tryz.underlying9] at h
theorem struct_arg {W : World} {base : Nat} {v : Value} {fs : Array Field} {t : TypeId} (hu : Tryz.prog.underlying t = some (.struct fs)) (h : Value.okWide Tryz.prog W .any base t v) : ∃ cs,v = .agg cs := by
  unfold Value.okWide at h
  rw [hu] at h
  obtain ⟨cs,rfl,_⟩ := h
  exact ⟨cs,rfl⟩

theorem contract (H : Type) (enc : TypeId × Value → H) (W : World) (base : Nat) (args : Array Value) (ds gs : List (DataW H)) (before : List MemPlace)
    (hval : ∀ (j : Nat) t v,Tryz.f3.params[j]? = some t → args[j]? = some v → Value.okWide Tryz.prog W .any base t v)
    (hW : DataW.Whole enc Tryz.prog Tryz.f3.params.toList Rows.playerItemsSpec.vars false W args.toList ds gs before) (hL : laidMetH Tryz.prog Rows.playerItemsRow.laid W) :
    Calls Tryz.prog 3 args W fun e W' => ∃ v,e = .returned v ∧ Rows.playerItemsSpec.post enc Tryz.prog Tryz.f3 false true false false W args v W' := by
  have hW' := hW
  obtain ⟨p,q,hA0,hV,rfl,hfz,hnd⟩ := hW
  have hA : DataW.TrodAll enc Tryz.prog W 0 (fun _ => true) true Tryz.f3.params.toList args.toList ds p := hA0
  rw [Tryz.params3] at hA hval
  obtain ⟨v0,vs0,d0,ds0,p0,q0,hargs,rfl,rfl,h0,r0⟩ := trodAll_cons hA
  obtain ⟨v1,vs1,d1,ds1,p1,q1,rfl,rfl,rfl,h1,r1⟩ := trodAll_cons r0
  obtain ⟨v2,vs2,d2,ds2,p2,q2,rfl,rfl,rfl,h2,r2⟩ := trodAll_cons r1
  obtain ⟨rfl,rfl,rfl⟩ := trodAll_nil r2
  obtain rfl : args = #[v0,v1,v2] := by cases args; simp_all
  obtain ⟨cs0,rfl⟩ := struct_arg Tryz.underlying24 (hval 0 24 v0 rfl rfl)
  obtain ⟨cs1,rfl⟩ := struct_arg Tryz.underlying24 (hval 1 24 v1 rfl rfl)
  obtain ⟨b,rfl⟩ := str_arg (hval 2 9 v2 rfl rfl)
  obtain ⟨hrel0,hty0⟩ := arg_rel closed (t := 24) (by simp) h0 (before := (p0 ++ (p1 ++ (p2 ++ [])))) (fun x hx => by simp [hx]) rfl
  obtain ⟨hrel1,hty1⟩ := arg_rel closed (t := 24) (by simp) h1 (before := (p0 ++ (p1 ++ (p2 ++ [])))) (fun x hx => by simp [hx]) rfl
  obtain ⟨hty2,hrel2⟩ := arg_rel1 closed (t := 9) (by simp) h2 (before := (p0 ++ (p1 ++ (p2 ++ [])))) (fun x hx => by simp [hx]) rfl
  obtain ⟨x,⟨bx,ex,kx⟩,lx⟩ := it_of hty0
  obtain ⟨y,⟨b2,ey,ky⟩,ly⟩ := it_of hty1
  obtain ⟨s,hm⟩ := ty_str Tryz.underlying9 hty2
  have hrel2 := hrel2 _ hm
  rw [ex] at hrel0
  rw [ey] at hrel1
  have hcal := law_ok aw_ok (h := .empty) (args := [.d (.agg (icD x (.sl bx x.after.length (x.after.map .s)))),.d (.agg (icD y (.sl b2 y.after.length (y.after.map .s)))),.d (.s s)]) (b1 := bx) (b2 := b2) (x := x) (y := y) (text := s) kx ky lx ly rfl
  refine (law_of_run eOk mixed hcal (before := (p0 ++ (p1 ++ (p2 ++ [])))) (globs hL) (args := #[.agg cs0,.agg cs1,.string b]) rfl (fun i hi => ?_)).mono ?_
  · have hi2 : i < 3 := hi
    have : i = 0 ∨ i = 1 ∨ i = 2 := by omega
    rcases this with rfl | rfl | rfl
    · exact hrel0
    · exact hrel1
    · exact hrel2
  · rintro e W' ⟨rfl,hk,hio⟩
    refine ⟨_,rfl,post_true (tb := 4) closed (fun t ht => ?_) rfl rfl rfl rfl (by kernel_rfl) Tryz.underlying4 hW' hk hio⟩
    rw [Tryz.params3] at ht
    have : t = 24 ∨ t = 9 := by simpa using ht
    rcases this with rfl | rfl <;> simp

mutual
def flat : DataW Unit → List Value
  | .lit (.int k n) => [.int k n]
  | .agg l => flatL l
  | _ => []
def flatL : List (DataW Unit) → List Value
  | [] => []
  | d :: r => flat d ++ flatL r
end
def lay (cs : List Value) : Obj → Obj
  | .cells _ t frozen => .cells cs.toArray t frozen
  | o => o
abbrev synS : ByteArray := { data := #[105,110,118,97,108,105,100,32,115,121,110,116,97,120] }
abbrev rngS : ByteArray := { data := #[118,97,108,117,101,32,111,117,116,32,111,102,32,114,97,110,103,101] }
def low : Nat := (World.holding Tryz.prog default ⟨#[],#[],[]⟩).heap.size
def laidWorld (os : Os) : World :=
  let w0 := World.holding Tryz.prog os ⟨#[.cells #[.string synS] 279,.cells #[.string rngS] 279],#[],[]⟩
  { w0 with heap := (((((((w0.heap.modify 8 (lay (flat Rows.laid_foreman_op_kinds))).modify 4 (lay (flat Rows.laid_unicode_utf8_first))).modify 5 (lay (flat Rows.laid_unicode_utf8_acceptRanges))).modify 1 (lay ([.iface 277 (.pointer (some ⟨low,0,none⟩))]))).modify 2 (lay ([.iface 277 (.pointer (some ⟨low + 1,0,none⟩))]))).modify 3 (lay (flat Rows.laid_internal_strconv_uint64pow10))).modify 6 (lay (flat Rows.laid_math_bits_deBruijn32tab))).modify 7 (lay (flat Rows.laid_math_bits_deBruijn64tab)) }
def arg0 : Value := .agg #[.string ⟨#[]⟩,.int .u8 0,.slice none 0 0,.string ⟨#[]⟩,.int .i64 0,.int .i64 0]
def arg2 : Value := .string ⟨#[]⟩
theorem laid_met (os : Os) : laidMetH Tryz.prog Rows.playerItemsRow.laid ((laidWorld os).forCall (fun _ _ => 0) ⟨#[],#[arg0,arg0,arg2],[]⟩).memory := by
  unfold laidMetH
  rw [noHandles]
  exact laidMet_of_run3 10 (by kernel_rfl) (by kernel_rfl) (by kernel_rfl)
theorem reads (os : Os) {H : Type} (enc : TypeId × Value → H) : ∃ places,DataW.whole enc Tryz.prog ((laidWorld os).forCall (fun _ _ => 0) ⟨#[],#[arg0,arg0,arg2],[]⟩).memory Tryz.f3.params.toList Rows.playerItemsSpec.vars false #[arg0,arg0,arg2].toList 8 =
    some ([.agg [.lit (.string []),.lit (.int .u8 0),.nil,.lit (.string []),.lit (.int .i64 0),.lit (.int .i64 0)],.agg [.lit (.string []),.lit (.int .u8 0),.nil,.lit (.string []),.lit (.int .i64 0),.lit (.int .i64 0)],.lit (.string [])],[],places) :=
  ⟨[],by kernel_rfl⟩

theorem lifted (os : Os) (started : os.Started) (H : Type) (enc : TypeId × Value → H) (F : Stop.Interp) :
    ReturnsInHanded {} Tryz.checked os 3 .any ((OpenSpec.ofChange Rows.playerItemsSpec).preRow enc Tryz.prog Tryz.f3 Rows.playerItemsRow.domain false Rows.playerItemsRow.laid) (((OpenSpec.ofChange Rows.playerItemsSpec).at F).post enc Tryz.prog Tryz.f3 false true false false) := by
  obtain ⟨places,hx⟩ := reads os enc
  refine returnsInHanded_of_row (C := Tryz.checked) (s := OpenSpec.ofChange Rows.playerItemsSpec) own started (by kernel_rfl) Tryz.func3
    (witness_row_atRef (enc := enc) (C := Tryz.checked) false (laidWorld os) #[arg0,arg0,arg2] rfl (by kernel_rfl) (by kernel_rfl) (by kernel_rfl)
      (OpenSpec.preRow_of_cond 8 hx (by kernel_rfl) (fun k hk => by cases hk) (by kernel_rfl) (laid_met os))) ?_
  intro W base args ds gs before hval hW _ _ _ hL _ _
  exact contract H enc W base args ds gs before hval hW hL

theorem funcIs : Tryz.pinned.checked.prog.funcNamed Rows.playerItemsRow.func = some 3 := by kernel_rfl
theorem inst : Tryz.f3.isInstance Tryz.pinned.checked.prog Rows.playerItemsRow.origin Rows.playerItemsRow.targs := of_decide_eq_true (by kernel_rfl)
theorem wraps : Tryz.f3.isWrapper Tryz.pinned.checked.prog Rows.playerItemsRow.wrapper Rows.playerItemsRow.mainSum := by
  unfold Func.isWrapper; first | (rw [if_pos (by decide +kernel)]; kernel_rfl) | (rw [if_neg (by decide +kernel)]; exact ⟨rfl,rfl⟩)
theorem said : Rows.PlayerItemsSaid :=
  OpenClaim.holds_of_cond 3 Tryz.f3 rfl rfl rfl rfl rfl rfl rfl ⟨rfl,rfl,rfl,rfl,rfl⟩ rfl rfl rfl rfl rfl funcIs Tryz.func3 facts inst wraps
    (fun os started H enc _ F => by rw [OpenClaim.pre_eq_preRow]; exact lifted os started H enc F)

theorem plain (f : FuncId) (fn : Func) (hf : Tryz.pinned.checked.prog.funcNamed "foreman/foremanlaw30.PlayerItems" = some f) (hfn : Tryz.pinned.checked.prog.funcs[f]? = some fn) :
    true = Tryz.pinned.checked.prog.looks [] ∧ ∀ (j : Nat) t,fn.params[j]? = some t → Tryz.pinned.checked.prog.wantsStandIn t = false := by
  obtain rfl : f = 3 := Option.some.inj ((show Tryz.prog.funcNamed "foreman/foremanlaw30.PlayerItems" = some 3 by kernel_rfl).symm.trans hf) |>.symm
  obtain rfl : fn = Tryz.f3 := (Option.some.inj (Tryz.func3.symm.trans hfn)).symm
  refine ⟨by kernel_rfl,fun j t ht => ?_⟩
  rw [Tryz.params3] at ht
  have : t = 24 ∨ t = 9 := by simpa using Array.mem_of_getElem? ht
  rcases this with rfl | rfl
  · exact (show Tryz.prog.wantsStandIn 24 = false by kernel_rfl)
  · exact (show Tryz.prog.wantsStandIn 9 = false by kernel_rfl)

theorem mainIs : Tryz.pinned.checked.prog.mainIs = some (true,"b270ff181153001787c47189e459ccbca8ab1f250a6867638b45d8e9bf8b9901".toList) := by kernel_rfl
theorem byText : Rows.playerItemsRow.wfByText (OpenSpec.ofChange Rows.playerItemsSpec) = true := by kernel_rfl
theorem playerItems : Rows.PlayerItemsCardSaid :=
  Claim7.holds_tied_plain_at .later [] _ _ _ _ said (fun _ h => by cases h) byText (fun _ h => by cases h) playerItems_row_tie rfl ⟨rfl,rfl⟩ mainIs rfl plain goes
#print axioms playerItems
end
end Go.Proofs.YtehffjjfomapnaaGreatDoor
