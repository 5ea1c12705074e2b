/- Calls that are run by the kernel; steps of a walk where all is known. -/
import Derived.Test.YtehffjjfomapnaaGreatDoorAwS
namespace Go.Proofs.YtehffjjfomapnaaGreatDoor
open Go Go.Abs
set_option maxRecDepth 100000
set_option maxHeartbeats 0
noncomputable section
def chkC (r : Option (Ex × AV × Heap)) (v : AV) (h : Heap) : Bool := match r with
  | some (.nrm,v',h') => tmEq [v'] [v] && heapEq h' h
  | _ => false
theorem Cal.chkH {f : FuncId} {args : List AV} {h h' : Heap} {v : AV} (N : Nat) (hc : chkC (callTop E N f args h) v h' = true) : Cal E f args h (.nrm,v,h') := by
  refine ⟨N,?_⟩
  unfold chkC at hc
  split at hc
  · rename_i v' h1 he
    simp only [Bool.and_eq_true] at hc
    have hv := tmEq_true hc.1
    injection hv with hv
    rw [he,hv,heapEq_true hc.2]
  · cases hc
section
variable {Q : Ex → List AV → Heap → Prop} {c : Cfg}
theorem W.brT (hx : (adO E c).p (adv E c).brX = (adO E c).q (some true)) (t : W E Q ((adv E c).brK true)) : W E Q c := .br true hx (fun _ => t) (fun e => nomatch e)
theorem W.brF (hx : (adO E c).p (adv E c).brX = (adO E c).q (some false)) (t : W E Q ((adv E c).brK false)) : W E Q c := .br false hx (fun e => nomatch e) (fun _ => t)
theorem Cal.wrF {f : FuncId} {fn : AFn} {args : List AV} {h : Heap} {v' : AV} {h' : Heap} (hf : E.fn f = some fn) (hr : fn.ref = true ∨ stripArgs h args = none)
    (w : W E (retRef E fn.results v' h') (.run fn.body [] ⟨false,[]⟩ (enterT fn.ntmps args) h)) : Cal E f args h (.nrm,v',h') := .wr hf hr ⟨fun _ => w.s (fun _ hp => by cases hp)⟩
theorem W.doneE {tm' : List AV} {h' : Heap} (he : (adO E c).p (adv E c).ex = (adO E c).q (some 0)) (ht : (adv E c).tm = tm') (hh : (adv E c).hp = h') (q : Q .nrm tm' h') : W E Q c := by
  subst ht hh
  exact .done 0 he q
end
theorem cl1 : Cal E 27 [(P 81)] he0 (.nrm,wf,he0) := Cal.chkH 1000000 (by kernel_rfl)
theorem cl3 : Cal E 15 [g10,g64] he0 (.nrm,(S 547 0 1 5 5),he4) := Cal.chkH 1000000 (by kernel_rfl)
theorem cl5 : Cal E 29 [] he5 (.nrm,(.mapr 549),he6) := Cal.chkH 1000000 (by kernel_rfl)
theorem cl7 : Cal E 30 [g46,(S 547 1 1 4 4)] he7 (.nrm,(.tup [(.agg [(.app 551 0 4 [(j 0),(j 0),(j 0),(j 0)]),we,w0,we,(k 0),w0,(k 0),we,ns,ns,(k 0)]),wt]),he8) := Cal.chkH 1000000 (by kernel_rfl)
theorem cl10 : Cal E 89 [(P 1),(.agg [(k 0),(k 0),(k 0),(k 0)])] he10 (.nrm,(.tup []),he11) := Cal.chkH 1000000 (by kernel_rfl)
theorem cl18 : Cal E 188 [(P 579)] he17 (.nrm,(.agg [(.d (.i .u64 3)),(.d (.i .u64 2)),w0]),he19) := .of (n := 1000000) (by kernel_rfl)
theorem cl20 : Cal E 189 [(P 602)] he19 (.nrm,(k 1),he21) := .of (n := 1000000) (by kernel_rfl)
theorem cl23 : Cal E 73 [(P 877),(k 50000),(k 0)] he22 (.nrm,(.tup [(P 878),(k 0)]),he24) := .of (n := 1000000) (by kernel_rfl)
theorem cl26 : Cal E 92 [(P 878)] he26 (.nrm,(.d (.i .u64 2)),he27) := .of (n := 1000000) (by kernel_rfl)
theorem cl28 : Cal E 91 [(.d (.i .u64 2)),(k 10)] he27 (.nrm,g55,he27) := .of (n := 1000000) (by kernel_rfl)
theorem cl30 : Cal E 45 [(S 880 0 1 2 2)] he30 (.nrm,g11,he30) := .of (n := 1000000) (by kernel_rfl)
end
end Go.Proofs.YtehffjjfomapnaaGreatDoor
