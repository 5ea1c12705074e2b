/- Contracts: strconv.ParseUint to base 16 (8 bits), strconv.ParseInt to base 10 (64 bits), strings.HasPrefix of one byte. -/
import Derived.Test.YtgjhldabffjiaaaGreatDoorDF
namespace Go.Proofs.YtgjhldabffjiaaaGreatDoor
open Go Go.Abs
set_option maxRecDepth 100000
set_option maxHeartbeats 0
noncomputable section
def TE:AV:= .d (.ifc 180 (.bx false [] 0))
theorem NI {f s:List UInt8} {a b k:Int} (hl:s.length≤281474976710656) (hk:k=1∨k=2) (h:Heap):yx E h [] 66 .El [.c (.d (.s f)),.c (.d (.s s)),.c (.d (.i .i64 a)),.c (.d (.i .i64 b)),.c (ND k)]= .val TE h:=by
 have hb:Nat.ble s.length 281474976710656=true:=by rw [Nat.ble_eq]; exact hl
 have hp:E.pr 66=true:=by kernel_rfl
 rcases hk with rfl | rfl <;> simp only [yx,hp,List.map,X.ev,JU,ND,hb,ov] <;> rfl
def PxN (k:IntKind) (r:Option Int) (h:Heap) (v:AV) (h':Heap):Prop:=h'=h∧match r with
 |some n=> v= .tup [.d (.i k n),.d .nili]
 |none=> ∃x,v= .tup [.d (.i k x),TE]
theorem NJ {s:List UInt8} (hl:s.length≤281474976710656) (h:Heap):∃v h',Cal E wU [.d (.s s),.d (.i .i64 (.ofNat 16)),.d (.i .i64 (.ofNat 8))] h (.nrm,v,h')∧PxN .u64 ((if s=[] then none else puV 16 255 s 0).map .ofNat) h v h':=by
 obtain ⟨v,h',hc,hh,hm⟩:=Qz hl h
 subst hh
 refine Cal.we A8 (.inl (by kernel_rfl)) ?_
 cases hr:(if s=[] then none else puV 16 255 s 0) with
 |some n=>
  rw [hr] at hm
  subst hm
  refine .call hc (by kernel_rfl) ?_
  refine W.brF (by kernel_rfl) ?_
  exact .retN (by kernel_rfl) ⟨by kernel_rfl,rfl⟩
 |none=>
  rw [hr] at hm
  obtain ⟨x,k,hk,rfl⟩:=hm
  refine .call hc (by kernel_rfl) ?_
  refine W.brT (by kernel_rfl) ?_
  refine .opv (NI (f:=[80,97,114,115,101,85,105,110,116]) (a:= .ofNat 16) (b:= .ofNat 8) hl hk) (by kernel_rfl) ?_
  exact .retN (by kernel_rfl) ⟨by kernel_rfl,x,rfl⟩
theorem QA (c:UInt8) {s:List UInt8} (hl:s.length≤281474976710656) (h:Heap):Cal E qo [.d (.s s),.d (.s [c])] h (.nrm,.d (.b (s.head? ==some c)),h):=by
 refine .w u7 (by kernel_rfl) rfl ?_
 cases s with
 |nil=>
  refine W.brF (by kernel_rfl) ?_
  exact .sI false (by kernel_rfl) rfl
 |cons b r=>
  refine .br (!(iLt (.ofNat (r.length+1)) 1)) (by kernel_rfl) (fun _=> ?_) (fun e=> ?_)
  ·refine .opv (f:=fun h=> qE h [] (.c (.d (.s (b::r)))) none (some (.c (.d (.i .i64 (.ofNat 1)))))) (v:= .d (.s [b])) (fun h=> ?_) (by kernel_rfl) ?_
   ·simp only [qE,X.ev,An,wO,wm]
    rfl
   refine .sI (strEq [b] [c]) (by kernel_rfl) ?_
   rw [Bool.eq_iff_iff,pO]
   simp
  ·have e:iLt (.ofNat (r.length+1)) 1=true:=by simpa using e
   rw [o8] at e
   simp only [Int.ofNat_eq_natCast] at e
   omega
theorem GG (c:UInt8) {s:List UInt8} (hl:s.length≤281474976710656) (h:Heap):Cal E wV [.d (.s s),.d (.s [c])] h (.nrm,.d (.b (s.head? ==some c)),h):=by
 refine .w A9 (by kernel_rfl) rfl ?_
 refine .oU (QA c hl) (by kernel_rfl) ?_
 exact .sI _ (by kernel_rfl) rfl
end
end Go.Proofs.YtgjhldabffjiaaaGreatDoor
