/- Calls that are run by the kernel; steps of a walk where all is known. -/
import Derived.Test.YtgjhldabffjiaaaGreatDoorAwS
namespace Go.Proofs.YtgjhldabffjiaaaGreatDoor
open Go Go.Abs
set_option maxRecDepth 100000
set_option maxHeartbeats 0
noncomputable section
def Np (r:Option (Ex×AV×Heap)) (v:AV) (h:Heap):Bool:=match r with
 |some (.nrm,v',h')=> Fw [v'] [v] && Eg h' h
 |_=> false
theorem Cal.Ma {f:FuncId} {args:List AV} {h h':Heap} {v:AV} (N:Nat) (hc:Np (qj E N f args h) v h'=true):Cal E f args h (.nrm,v,h'):=by
 refine ⟨N,?_⟩
 unfold Np at hc
 split at hc
 ·rename_i v' h1 he
  simp only [Bool.and_eq_true] at hc
  have hv:=FW hc.1
  injection hv with hv
  rw [he,hv,Ak hc.2]
 ·cases hc
section
variable {Q : Ex → List AV → Heap → Prop} {c : Cfg}
theorem W.brT (hx:(adO E c).p (adv E c).brX=(adO E c).q (some true)) (t:W E Q ((adv E c).brK true)):W E Q c:= .br true hx (fun _=> t) (fun e=> nomatch e)
theorem W.brF (hx:(adO E c).p (adv E c).brX=(adO E c).q (some false)) (t:W E Q ((adv E c).brK false)):W E Q c:= .br false hx (fun e=> nomatch e) (fun _=> t)
theorem Cal.wrF {f:FuncId} {fn:AFn} {args:List AV} {h:Heap} {v':AV} {h':Heap} (hf:E.fn f=some fn) (hr:fn.ref=true∨stripArgs h args=none)
  (w:W E (JQ E fn.results v' h') (.run fn.body [] ⟨false,[]⟩ (enterT fn.ntmps args) h)):Cal E f args h (.nrm,v',h'):= .wr hf hr ⟨fun _=> w.s (fun _ hp=> by cases hp)⟩
theorem W.Vk {tm':List AV} {h':Heap} (he:(adO E c).p (adv E c).ex=(adO E c).q (some 0)) (ht:(adv E c).tm=tm') (hh:(adv E c).hp=h') (q:Q .nrm tm' h'):W E Q c:=by
 subst ht hh
 exact .done 0 he q
end
theorem cl1:Cal E 21 [(P 81)] he0 (.nrm,wf,he0):=Cal.Ma 1000000 (by kernel_rfl)
theorem cl3:Cal E 23 [g10,g64] he0 (.nrm,(S 547 0 1 5 5),he4):=Cal.Ma 1000000 (by kernel_rfl)
theorem cl5:Cal E 24 [] he5 (.nrm,(.uo 549),he6):=Cal.Ma 1000000 (by kernel_rfl)
theorem cl7:Cal E 25 [g46,(S 547 1 1 4 4)] he7 (.nrm,(.tup [(.agg [(.app 551 0 4 [(j 0),(j 0),(j 0),(j 0)]),we,w0,we,(k 0),w0,(k 0),we,ns,ns,(k 0)]),wt]),he8):=Cal.Ma 1000000 (by kernel_rfl)
theorem abA:Cal E 89 [(P 1),(.agg [(k 0),(k 0),(k 0),(k 0)])] Vl (.nrm,(.tup []),Nn):=Cal.Ma 1000000 (by kernel_rfl)
theorem abB:Cal E 188 [(P 579)] Ti (.nrm,(.agg [(.d (.i .u64 3)),(.d (.i .u64 2)),w0]),Tj):= .of (n:=1000000) (by kernel_rfl)
theorem abC:Cal E 189 [(P 605)] Tj (.nrm,(k 1),Vm):= .of (n:=1000000) (by kernel_rfl)
theorem abD:Cal E 71 [(P 892),(k 50000),(k 0)] Tm (.nrm,(.tup [(P 893),(k 0)]),Tn):= .of (n:=1000000) (by kernel_rfl)
theorem abE:Cal E 92 [(P 893)] Vn (.nrm,(.d (.i .u64 2)),Qp):= .of (n:=1000000) (by kernel_rfl)
theorem abF:Cal E 91 [(.d (.i .u64 2)),(k 10)] Qp (.nrm,g55,Qp):= .of (n:=1000000) (by kernel_rfl)
theorem abG:Cal E 41 [(S 895 0 1 2 2)] Nq (.nrm,g11,Nq):= .of (n:=1000000) (by kernel_rfl)
end
end Go.Proofs.YtgjhldabffjiaaaGreatDoor
