/- Contracts: strings.Index, Cut, CutSuffix at one byte; ident.step. -/
import Derived.Test.YtgjhldabffjiaaaGreatDoorB
import Derived.Test.YtgjhldabffjiaaaGreatDoorZF
namespace Go.Proofs.YtgjhldabffjiaaaGreatDoor
open Go Go.Abs
set_option maxRecDepth 100000
noncomputable section
end
end Go.Proofs.YtgjhldabffjiaaaGreatDoor
namespace Go.Proofs.YtgjhldabffjiaaaGreatDoor
open Go Go.Abs
set_option maxRecDepth 100000
set_option maxHeartbeats 0
noncomputable section
theorem Tt (c:UInt8) (s:List UInt8) (h:Heap):Cal E ql [.d (.s s),.d (byteD c)] h (.nrm,.d (.i .i64 (uX c.toNat s 0)),h):=by
 refine .w uY (by kernel_rfl) rfl ?_
 have hp:E.pr 228=true:=by kernel_rfl
 have hc:Nat.blt c.toNat 256=true:=by rw [Nat.blt_eq]; exact c.toNat_lt
 refine .opv (f:=fun h=> Al E h [] 228 .indexByte [.c (.d (.s s)),.c (.d (byteD c))]) (v:= .d (.i .i64 (uX c.toNat s 0))) (fun h=> ?_) (by kernel_rfl) ?_
 ·show Al E h [] 228 .indexByte [.c (.d (.s s)),.c (.d (.i .u8 (.ofNat c.toNat)))]=_
  simp only [Al,hp,List.map,X.ev,KW,hc,oh]
 exact .ret rfl (by kernel_rfl)
theorem Ns (c:UInt8) (s:List UInt8) (h:Heap):Cal E nC [.d (.s s),.d (.s [c])] h (.nrm,.d (.i .i64 (uX c.toNat s 0)),h):=by
 refine .w wM (by kernel_rfl) rfl ?_
 refine .br false (by kernel_rfl) (fun e=> nomatch e) (fun _=> ?_)
 refine .br (strEq [c] s) (by kernel_rfl) (fun e=> ?_) (fun e=> ?_)
 ·have:[c]=s:=by simpa [strEq] using e
  subst this
  refine .abJ 0 (by kernel_rfl) ?_
  simp [uX]
 ·refine .br true (by kernel_rfl) (fun _=> ?_) (fun e=> nomatch e)
  refine .opv (zw (k:= .i64) (s:=[c]) (j:=0) (b:=c) rfl rfl) (by kernel_rfl) ?_
  refine .oU (Tt c s) (by kernel_rfl) ?_
  exact .ret rfl (by kernel_rfl)
def uZ (c:UInt8):List UInt8→List UInt8×List UInt8×Bool
 |[]=> ([],[],false)
 |b::r=> match b==c with
  |true=> ([],r,true)
  |false=> match uZ c r with
   |(x,y,f)=> (b::x,y,f)
theorem KX (c:UInt8):∀(s:List UInt8) (i:Nat),(uX c.toNat s i= -1∧uZ c s=(s,[],false))∨∃m,uX c.toNat s i= .ofNat (i+m)∧m < s.length∧uZ c s=(s.take m,s.drop (m+1),true):=by
 intro s
 induction s with
 |nil=> intro i; exact .inl ⟨rfl,rfl⟩
 |cons b r ih=>
  intro i
  have hb:Nat.beq b.toNat c.toNat=(b==c):=by
   rw [Bool.eq_iff_iff,Nat.beq_eq,beq_iff_eq]
   exact ⟨fun e=> UInt8.toNat_inj.1 e,fun e=> by rw [e]⟩
  unfold uX uZ
  rw [hb]
  cases b==c with
  |true=> exact .inr ⟨0,rfl,by simp,by simp⟩
  |false=>
   rcases ih (i+1) with ⟨h1,h2⟩ | ⟨m,h1,h2,h3⟩
   ·exact .inl ⟨h1,by simp [h2]⟩
   ·exact .inr ⟨m+1,by simp only [h1]; congr 1; omega,by simp; omega,by simp [h3]⟩
theorem Tu (c:UInt8) {s:List UInt8} (hl:s.length≤281474976710656) (h:Heap):Cal E sH [.d (.s s),.d (.s [c])] h (.nrm,.tup [.d (.s (uZ c s).1),.d (.s (uZ c s).2.1),.d (.b (uZ c s).2.2)],h):=by
 refine .w xI (by kernel_rfl) rfl ?_
 rcases KX c s 0 with ⟨h1,h2⟩ | ⟨m,h1,h2,h3⟩
 ·have hc:∀h,Cal E nC [.d (.s s),.d (.s [c])] h (.nrm,.d (.i .i64 (-1)),h):=fun h=> by have:=Ns c s h; rwa [h1] at this
  refine .oU hc (by kernel_rfl) ?_
  refine .br false (by kernel_rfl) (fun e=> nomatch e) (fun _=> ?_)
  rw [h2]
  exact .Nt (.tup [.d (.s s),.d (.s []),.d (.b false)]) (by kernel_rfl) rfl
 ·rw [Nat.zero_add] at h1
  have hc:∀h,Cal E nC [.d (.s s),.d (.s [c])] h (.nrm,mkI m,h):=fun h=> by have:=Ns c s h; rwa [h1] at this
  refine .oU hc (by kernel_rfl) ?_
  refine .br (!(iLt (.ofNat m) 0)) (by kernel_rfl) (fun _=> ?_) (fun e=> ?_)
  rotate_left
  ·have e:iLt (.ofNat m) 0=true:=by simpa using e
   rw [o8] at e; simp only [Int.ofNat_eq_natCast] at e; omega
  rw [h3]
  refine .opv (BR (k:= .i64) (s:=s) (a:=m) rfl (by omega)) (by kernel_rfl) ?_
  refine .opv (uK (k:= .i64) (s:=s) (a:=m+1) (x:=wrap .i64 (.ofNat m+1)) (by rw [wrap64 (by simp only [Int.ofNat_eq_natCast]; omega) (by simp only [Int.ofNat_eq_natCast]; omega)]; rfl) (by omega)) (by kernel_rfl) ?_
  exact .Nt (.tup [.d (.s (s.take m)),.d (.s (s.drop (m+1))),.d (.b true)]) (by kernel_rfl) rfl
theorem Tv (c:UInt8) {s:List UInt8} (hl:s.length≤281474976710656) (h:Heap):Cal E Bb [.d (.s s),.d (.s [c])] h (.nrm,.tup [.d (.s (uZ c s).1),.d (.s (uZ c s).2.1),.d (.b (uZ c s).2.2)],h):=by
 refine .w Fx (by kernel_rfl) rfl ?_
 refine .oU (Tu c hl) (by kernel_rfl) ?_
 exact .Nt (.tup [.d (.s (uZ c s).1),.d (.s (uZ c s).2.1),.d (.b (uZ c s).2.2)]) (by kernel_rfl) rfl
theorem Il (c:UInt8):∀s:List UInt8,(uZ c s).1.length≤s.length∧(uZ c s).2.1.length≤s.length:=by
 intro s
 rcases KX c s 0 with ⟨_,h2⟩ | ⟨m,_,h2,h3⟩
 ·rw [h2]; simp
 ·rw [h3]; simp; omega
end
end Go.Proofs.YtgjhldabffjiaaaGreatDoor
