/- Contracts: internal/strconv.ParseUint to base 10 (64 bits), to base 16 (8 bits). -/
import Derived.Test.YtgjhldabffjiaaaGreatDoorDA
import Derived.Test.YtgjhldabffjiaaaGreatDoorZF
namespace Go.Proofs.YtgjhldabffjiaaaGreatDoor
open Go Go.Abs
set_option maxRecDepth 100000
set_option maxHeartbeats 0
noncomputable section
def lowN (c:UInt8):Nat:=Nat.lor c.toNat 32
def digU (c:UInt8):Option Nat:=match !(iLt (.ofNat c.toNat) 48) && !(iLt 57 (.ofNat c.toNat)) with
 |true=> some (c.toNat - 48)
 |false=> match !(iLt (.ofNat (lowN c)) 97) && !(iLt 122 (.ofNat (lowN c))) with
  |true=> some (lowN c - 87)
  |false=> none
def puV (b mx:Nat):List UInt8→Nat→Option Nat
 |[],n=> some n
 |c::r,n=> match digU c with
  |some d=> if d < b∧n*b+d≤mx then puV b mx r (n*b+d) else none
  |none=> none
theorem lowN_lt (c:UInt8):lowN c < 256:=Nat.or_lt_two_pow (n:=8) c.toNat_lt (by omega)
theorem inR8 {n:Nat} (h:n < 256):inR .u8 (.ofNat n)=true:=by show Nat.blt n 256=true; rw [Nat.blt_eq]; exact h
theorem inRu {n:Nat} (h:n < 18446744073709551616):inR .u64 (.ofNat n)=true:=by show Nat.blt n 18446744073709551616=true; rw [Nat.blt_eq]; exact h
theorem lower_ok (c:UInt8) (h:Heap):Cal E f_internal_strconv_lower [.d (byteD c)] h (.nrm,.d (.i .u8 (.ofNat (lowN c))),h):=by
 have hb:Abs.bits .or .u8 (.ofNat c.toNat) (.ofNat 32)= .ofNat (lowN c):=by
  simp only [Abs.bits,inR8 c.toNat_lt,isAN]
  rfl
 rw [←hb]
 refine .w n_internal_strconv_lower (by kernel_rfl) rfl ?_
 exact .ret rfl (by kernel_rfl)
def condE:AC→AC
 | .cond _ _ b=> b
 |_=> .bad
abbrev PU:AC:=c_internal_strconv_ParseUint.body
def puL:AC:=(tl PU 11).fst.snd.fst.fst
def puR:AC:=tl puL.snd.snd.fst.fst 3
def puI:AC:=puL.snd.snd.snd
end
end Go.Proofs.YtgjhldabffjiaaaGreatDoor
namespace Go.Proofs.YtgjhldabffjiaaaGreatDoor
open Go Go.Abs
set_option maxRecDepth 100000
set_option maxHeartbeats 0
noncomputable section
def puY:AC:=(tl puL.snd.snd.fst.fst 2).fst.fst.snd
def puZ:AC:=condE (condE puY).snd
def ND (k:Int):AV:= .ifc 179 (.d (.i .i64 k))
theorem geN {n k:Nat} (e:(!(iLt (.ofNat n) (.ofNat k)))=true):k≤n:=by
 have e:iLt (.ofNat n) (.ofNat k)=false:=by simpa using e
 rw [tV] at e
 exact Int.ofNat_le.1 e
def NF (n:Nat):AV:= .d (.i .u64 (.ofNat n))
def PuE (h:Heap) (R:Ex→List AV→Heap→Prop):Prop:=∀tm h' x k,h'=h→(k=1∨k=2)→St 172 [(6,.d (.i .u64 x)),(7,ND k)] tm→R .ret tm h'
def B4 (s:List UInt8) (n i:Nat):List (Nat×AV):=[(1,.d (.i .i64 (.ofNat 16))),(8,.d (.b false)),(10,NF 1152921504606846976),(11,NF 255),(12,.d (.b false)),(99,.d (.sl false s.length (bytesD s))),(100,mkI s.length),(13,NF n),(101,mkI i)]
theorem Vy {I:Nat→List AV→Heap→Prop} {R:Ex→List AV→Heap→Prop} {h:Heap} {m i n d:Nat} {s:List UInt8} {tm:List AV} (hd:d < 256) (hn:n≤255) (hi:i < 9223372036854775807) (hE:¬(d < 16∧n*16+d≤255)→PuE h R) (hN:d < 16→n*16+d≤255→∀tm h',h'=h→St 172 (B4 s (n*16+d) (i+1)) tm→I m tm h')
  (ht:St 172 ((16,.d (.i .u8 (.ofNat d)))::B4 s n i) tm):W E (Round I (m+1) R) (.run puR [.blk 4,.seq puI] ⟨true,[]⟩ tm h):=by
 obtain ⟨g,rfl⟩:=ht
 refine .br (!(iLt (.ofNat d) 16)) (by kernel_rfl) (fun e=> ?_) (fun e=> ?_)
 ·have:16≤d:=geN (k:=16) e
  exact .done 1 (by kernel_rfl) (hE (by omega) _ _ 0 2 (by kernel_rfl) (.inr rfl) (.of (by kernel_rfl) ⟨by kernel_rfl,by kernel_rfl,trivial⟩))
 have hdb:d < 16:=by
  have e:iLt (.ofNat d) 16=true:=by simpa using e
  rw [o8] at e
  have:(d:Int) < 16:=e
  omega
 refine .br (!(iLt (.ofNat n) 1152921504606846976)) (by kernel_rfl) (fun e=> ?_) (fun e=> ?_)
 ·have:1152921504606846976≤n:=geN (k:=1152921504606846976) e
  exact .done 1 (by kernel_rfl) (hE (by omega) _ _ 255 1 (by kernel_rfl) (.inl rfl) (.of (by kernel_rfl) ⟨by kernel_rfl,by kernel_rfl,trivial⟩))
 have hcut:n < 1152921504606846976:=by
  have e:iLt (.ofNat n) 1152921504606846976=true:=by simpa using e
  rw [o8] at e
  have:(n:Int) < 1152921504606846976:=e
  omega
 have w1:wrap .u64 (.ofNat n*16)= .ofNat (n*16):=by
  rw [show (.ofNat n*16:Int)= .ofNat (n*16) from rfl]
  unfold wrap; rw [inRu (by omega)]
 have w2:wrap .u64 (.ofNat d)= .ofNat d:=by unfold wrap; rw [inRu (by omega)]
 have hw:wrap .u64 (wrap .u64 (.ofNat n*16)+wrap .u64 (.ofNat d))=if n*16+d < 18446744073709551616 then .ofNat (n*16+d) else .ofNat (n*16+d - 18446744073709551616):=by
  rw [w1,w2,show (.ofNat (n*16)+ .ofNat d:Int)= .ofNat (n*16+d) from rfl]
  split
  ·rename_i hh; unfold wrap; rw [inRu hh]
  ·rename_i hh
   have:inR .u64 (.ofNat (n*16+d))=false:=by
    show Nat.blt (n*16+d) 18446744073709551616=false
    rw [←Bool.not_eq_true,Nat.blt_eq]; exact hh
   unfold wrap; rw [this]
   show (IntKind.u64).wrap (.ofNat (n*16+d))=_
   have:((n*16+d:Nat):Int) % 18446744073709551616=((n*16+d - 18446744073709551616:Nat):Int):=by omega
   exact this
 by_cases hb:n*16+d < 18446744073709551616
 ·rw [if_pos hb] at hw
  refine .br (iLt (wrap .u64 (wrap .u64 (.ofNat n*16)+wrap .u64 (.ofNat d))) (wrap .u64 (.ofNat n*16))) (by kernel_rfl) (fun e=> ?_) (fun _=> ?_)
  ·rw [hw,w1,o8] at e
   have:((n*16+d:Nat):Int) < ((n*16:Nat):Int):=e
   omega
  refine .br (iLt 255 (wrap .u64 (wrap .u64 (.ofNat n*16)+wrap .u64 (.ofNat d)))) (by kernel_rfl) (fun e=> ?_) (fun e=> ?_)
  ·rw [hw,o8] at e
   have e:(255:Int) < ((n*16+d:Nat):Int):=e
   exact .done 1 (by kernel_rfl) (hE (by omega) _ _ 255 1 (by kernel_rfl) (.inl rfl) (.of (by kernel_rfl) ⟨by kernel_rfl,by kernel_rfl,trivial⟩))
  ·rw [hw,tV] at e
   have hle:n*16+d≤255:=by
    have:((n*16+d:Nat):Int)≤255:=e
    omega
   refine .done 0 (by kernel_rfl) ⟨m,by omega,hN hdb hle _ _ (by kernel_rfl) (.of (by kernel_rfl) ⟨by kernel_rfl,by kernel_rfl,by kernel_rfl,by kernel_rfl,by kernel_rfl,by kernel_rfl,by kernel_rfl,?_,?_,trivial⟩)⟩
   ·exact Eq.trans (b:= .d (.i .u64 (wrap .u64 (wrap .u64 (.ofNat n*16)+wrap .u64 (.ofNat d))))) (by kernel_rfl) (by rw [hw]; rfl)
   ·exact Eq.trans (b:= .d (.i .i64 (wrap .i64 (.ofNat i+1)))) (by kernel_rfl) (by rw [wrap64 (by simp only [Int.ofNat_eq_natCast]; omega) (by simp only [Int.ofNat_eq_natCast]; omega)]; rfl)
 ·rw [if_neg hb] at hw
  refine .br (iLt (wrap .u64 (wrap .u64 (.ofNat n*16)+wrap .u64 (.ofNat d))) (wrap .u64 (.ofNat n*16))) (by kernel_rfl) (fun _=> ?_) (fun e=> ?_)
  ·exact .done 1 (by kernel_rfl) (hE (by omega) _ _ 255 1 (by kernel_rfl) (.inl rfl) (.of (by kernel_rfl) ⟨by kernel_rfl,by kernel_rfl,trivial⟩))
  ·rw [hw,w1,tV] at e
   have:((n*16:Nat):Int)≤((n*16+d - 18446744073709551616:Nat):Int):=e
   omega
theorem bytes_at {s:List UInt8} {i:Nat} (hi:i < s.length):(bytesD s)[i]? =some (byteD s[i]):=by simp [bytesD,hi]
theorem NG {c:UInt8} (e1:(!(iLt (.ofNat c.toNat) 48))=true) (e2:(!(iLt 57 (.ofNat c.toNat)))=true):digU c=some (c.toNat - 48):=by unfold digU; rw [e1,e2]; rfl
theorem NH {c:UInt8} (e0:((!(iLt (.ofNat c.toNat) 48)) && !(iLt 57 (.ofNat c.toNat)))=false) (e1:(!(iLt (.ofNat (lowN c)) 97))=true) (e2:(!(iLt 122 (.ofNat (lowN c))))=true):digU c=some (lowN c - 87):=by unfold digU; rw [e0,e1,e2]; rfl
theorem Qy {c:UInt8} (e0:((!(iLt (.ofNat c.toNat) 48)) && !(iLt 57 (.ofNat c.toNat)))=false) (e1:((!(iLt (.ofNat (lowN c)) 97)) && !(iLt 122 (.ofNat (lowN c))))=false):digU c=none:=by unfold digU; rw [e0,e1]
theorem Vz {n:Nat} (h:48≤n) (h2:n < 256):wrap .u8 (.ofNat n - 48)= .ofNat (n - 48):=by
 rw [show (.ofNat n - 48:Int)= .ofNat (n - 48) from by simp only [Int.ofNat_eq_natCast]; omega]
 unfold wrap; rw [inR8 (by omega)]
theorem VA {n:Nat} (h:97≤n) (h2:n≤122):wrap .u8 (wrap .u8 (.ofNat n - 97)+10)= .ofNat (n - 87):=by
 rw [show (.ofNat n - 97:Int)= .ofNat (n - 97) from by simp only [Int.ofNat_eq_natCast]; omega]
 rw [show wrap .u8 (.ofNat (n - 97))= .ofNat (n - 97) from by unfold wrap; rw [inR8 (by omega)]]
 rw [show (.ofNat (n - 97)+10:Int)= .ofNat (n - 87) from by simp only [Int.ofNat_eq_natCast]; omega]
 unfold wrap; rw [inR8 (by omega)]
def PuN (r:Option Nat) (h:Heap) (v:AV) (h':Heap):Prop:=h'=h∧match r with
 |some n=> v= .tup [NF n,.d .nili]
 |none=> ∃x k,(k=1∨k=2)∧v= .tup [.d (.i .u64 x),ND k]
theorem Ss {I:Nat→List AV→Heap→Prop} {R:Ex→List AV→Heap→Prop} {h:Heap} {m i n:Nat} {s:List UInt8} {c:UInt8} {tm:List AV} (hn:n≤255) (hi:i < 9223372036854775807) (hE:(∀d,digU c=some d→¬(d < 16∧n*16+d≤255))→PuE h R) (hN:∀d,digU c=some d→d < 16→n*16+d≤255→∀tm h',h'=h→St 172 (B4 s (n*16+d) (i+1)) tm→I m tm h')
  (ht:St 172 ((15,.d (byteD c))::(106,.d (.b false))::B4 s n i) tm):W E (Round I (m+1) R) (.run puY [.blk 5,.seq puR,.blk 4,.seq puI] ⟨true,[]⟩ tm h):=by
 obtain ⟨g,rfl⟩:=ht
 have hc256:=c.toNat_lt
 have adA:=lowN_lt c
 have fin:∀d tm,digU c=some d→d < 256→St 172 ((16,.d (.i .u8 (.ofNat d)))::B4 s n i) tm→W E (Round I (m+1) R) (.run puR [.blk 4,.seq puI] ⟨true,[]⟩ tm h):=fun d tm hd h2 ht=>
  Vy h2 hn hi (fun hno=> hE fun d' hd'=> by rw [hd] at hd'; cases hd'; exact hno) (fun a b=> hN d hd a b) ht
 have low:(((!(iLt (.ofNat c.toNat) 48)) && !(iLt 57 (.ofNat c.toNat)))=false)→∀tm,St 172 ((15,.d (byteD c))::B4 s n i) tm→W E (Round I (m+1) R) (.run puZ [.blk 5,.seq puR,.blk 4,.seq puI] ⟨true,[]⟩ tm h):=by
  rintro e0 tm ⟨g,rfl⟩
  have no:((!(iLt (.ofNat (lowN c)) 97)) && !(iLt 122 (.ofNat (lowN c))))=false→PuE h R:=fun e=> hE fun d hd=> by rw [Qy e0 e] at hd; cases hd
  refine .oU (lower_ok c) (by kernel_rfl) ?_
  refine .br (!(iLt (.ofNat (lowN c)) 97)) (by kernel_rfl) (fun e1=> ?_) (fun e1=> ?_)
  ·refine .oU (lower_ok c) (by kernel_rfl) ?_
   refine .br (!(iLt 122 (.ofNat (lowN c)))) (by kernel_rfl) (fun e2=> ?_) (fun e2=> ?_)
   ·refine .oU (lower_ok c) (by kernel_rfl) ?_
    have h97:97≤lowN c:=geN (k:=97) e1
    have h122:lowN c≤122:=geN (n:=122) e2
    refine .top true 2 puR [.blk 4,.seq puI] h (by kernel_rfl) ?_
    refine fin (lowN c - 87) _ (NH e0 e1 e2) (by omega) (.of (by kernel_rfl) ⟨?_,by kernel_rfl,by kernel_rfl,by kernel_rfl,by kernel_rfl,by kernel_rfl,by kernel_rfl,by kernel_rfl,by kernel_rfl,by kernel_rfl,trivial⟩)
    exact Eq.trans (b:= .d (.i .u8 (wrap .u8 (wrap .u8 (.ofNat (lowN c) - 97)+10)))) (by kernel_rfl) (by rw [VA h97 h122])
   ·exact .done 1 (by kernel_rfl) (no (by rw [e2,Bool.and_false]) _ _ 0 2 (by kernel_rfl) (.inr rfl) (.of (by kernel_rfl) ⟨by kernel_rfl,by kernel_rfl,trivial⟩))
  ·exact .done 1 (by kernel_rfl) (no (by rw [e1]; rfl) _ _ 0 2 (by kernel_rfl) (.inr rfl) (.of (by kernel_rfl) ⟨by kernel_rfl,by kernel_rfl,trivial⟩))
 refine W.brF (by kernel_rfl) ?_
 refine .br (!(iLt (.ofNat c.toNat) 48)) (by kernel_rfl) (fun e1=> ?_) (fun e1=> ?_)
 ·refine .br (!(iLt 57 (.ofNat c.toNat))) (by kernel_rfl) (fun e2=> ?_) (fun e2=> ?_)
  ·have h48:48≤c.toNat:=geN (k:=48) e1
   refine .top true 2 puR [.blk 4,.seq puI] h (by kernel_rfl) ?_
   refine fin (c.toNat - 48) _ (NG e1 e2) (by omega) (.of (by kernel_rfl) ⟨?_,by kernel_rfl,by kernel_rfl,by kernel_rfl,by kernel_rfl,by kernel_rfl,by kernel_rfl,by kernel_rfl,by kernel_rfl,by kernel_rfl,trivial⟩)
   exact Eq.trans (b:= .d (.i .u8 (wrap .u8 (.ofNat c.toNat - 48)))) (by kernel_rfl) (by rw [Vz h48 hc256])
  ·refine .top true 4 puZ [.blk 5,.seq puR,.blk 4,.seq puI] h (by kernel_rfl) ?_
   exact low (by rw [e2,Bool.and_false]) _ (.of (by kernel_rfl) ⟨by kernel_rfl,by kernel_rfl,by kernel_rfl,by kernel_rfl,by kernel_rfl,by kernel_rfl,by kernel_rfl,by kernel_rfl,by kernel_rfl,by kernel_rfl,trivial⟩)
 ·refine .top true 4 (condE puY).snd [.blk 5,.seq puR,.blk 4,.seq puI] h (by kernel_rfl) ?_
  refine W.brF (by kernel_rfl) ?_
  refine .top true 4 puZ [.blk 5,.seq puR,.blk 4,.seq puI] h (by kernel_rfl) ?_
  exact low (by rw [e1]; rfl) _ (.of (by kernel_rfl) ⟨by kernel_rfl,by kernel_rfl,by kernel_rfl,by kernel_rfl,by kernel_rfl,by kernel_rfl,by kernel_rfl,by kernel_rfl,by kernel_rfl,by kernel_rfl,trivial⟩)
def K3 (s:List UInt8) (h:Heap) (m:Nat) (tm:List AV) (g:Heap):Prop:=∃i n,i+m=s.length∧g=h∧n≤255∧puV 16 255 (s.drop i) n=puV 16 255 s 0∧St 172 (B4 s n i) tm
theorem VB {R:Ex→List AV→Heap→Prop} {h g:Heap} {m:Nat} {s:List UInt8} {tm:List AV} (hl:s.length≤281474976710656) (hE:puV 16 255 s 0=none→PuE h R) (hO:∀n tm h',puV 16 255 s 0=some n→h'=h→St 172 (B4 s n s.length) tm→R (.exit 3) tm h') (hI:K3 s h m tm g):W E (Round (K3 s h) m R) (.run puL [] ⟨true,[]⟩ tm g):=by
 obtain ⟨i,n,him,rfl,hn,hv,g',rfl⟩:=hI
 refine .br (iLt (.ofNat i) (.ofNat s.length)) (by kernel_rfl) (fun e=> ?_) (fun e=> ?_)
 ·have hi:i < s.length:=by rw [o8] at e; simpa using e
  obtain ⟨m,rfl⟩:∃k,m=k+1:=⟨m - 1,by omega⟩
  have hx:=bytes_at hi
  rw [List.drop_eq_getElem_cons hi,puV] at hv
  generalize s[i]=c at hx hv
  refine .opv (Bh (k:= .i64) (z:=1) (b:=false) (n:=s.length) (cs:=bytesD s) (j:=i) rfl hi) (by kernel_rfl) ?_
  refine .opv (Ir E (b:=false) (x:=byteD c) hx) (by kernel_rfl) ?_
  have hE2 : (∀ d,digU c = some d → ¬(d < 16 ∧ n * 16 + d ≤ 255)) → PuE g R := fun hno => hE (by
   rw [←hv]
   cases hd:digU c with
   |none=> rfl
   |some d=> simp only; rw [if_neg (hno d hd)])
  have hN2:∀d,digU c=some d→d < 16→n*16+d≤255→∀tm h',h'=g→St 172 (B4 s (n*16+d) (i+1)) tm→K3 s g m tm h':=fun d hd h1 h2 tm h' hh hs=> ⟨i+1,n*16+d,by omega,hh,h2,by rw [←hv,hd]; simp only; rw [if_pos ⟨h1,h2⟩],hs⟩
  refine .br (iEq (.ofNat c.toNat) 95) (by kernel_rfl) (fun _=> ?_) (fun _=> ?_)
  ·refine .top true 4 puY [.blk 5,.seq puR,.blk 4,.seq puI] g (by kernel_rfl) ?_
   exact Ss hn (by omega) hE2 hN2 (.of (by kernel_rfl) ⟨by kernel_rfl,by kernel_rfl,by kernel_rfl,by kernel_rfl,by kernel_rfl,by kernel_rfl,by kernel_rfl,by kernel_rfl,by kernel_rfl,by kernel_rfl,by kernel_rfl,trivial⟩)
  ·refine .top true 4 puY [.blk 5,.seq puR,.blk 4,.seq puI] g (by kernel_rfl) ?_
   exact Ss hn (by omega) hE2 hN2 (.of (by kernel_rfl) ⟨by kernel_rfl,by kernel_rfl,by kernel_rfl,by kernel_rfl,by kernel_rfl,by kernel_rfl,by kernel_rfl,by kernel_rfl,by kernel_rfl,by kernel_rfl,by kernel_rfl,trivial⟩)
 ·have:m=0:=by rw [tV] at e; simp only [Int.ofNat_eq_natCast] at e; omega
  subst this
  obtain rfl:i=s.length:=by omega
  rw [List.drop_eq_nil_of_le (by omega),puV] at hv
  exact .done 5 (by kernel_rfl) (hO n _ _ hv.symm (by kernel_rfl) (.of (by kernel_rfl) ⟨by kernel_rfl,by kernel_rfl,by kernel_rfl,by kernel_rfl,by kernel_rfl,by kernel_rfl,by kernel_rfl,by kernel_rfl,by kernel_rfl,trivial⟩))
theorem Qz {s:List UInt8} (hl:s.length≤281474976710656) (h:Heap):∃v h',Cal E rE [.d (.s s),.d (.i .i64 (.ofNat 16)),.d (.i .i64 (.ofNat 8))] h (.nrm,v,h')∧PuN (if s=[] then none else puV 16 255 s 0) h v h':=by
 refine Cal.we wN (.inl (by kernel_rfl)) ?_
 refine .br (strEq s []) (by kernel_rfl) (fun e=> ?_) (fun e=> ?_)
 ·rw [pO] at e
  subst e
  exact .retN (by kernel_rfl) ⟨by kernel_rfl,.ofNat 0,2,.inr rfl,rfl⟩
 have hs:s≠[]:=fun he=> by rw [he] at e; cases e
 rw [if_neg hs]
 refine W.brT (by kernel_rfl) ?_
 refine W.brT (by kernel_rfl) ?_
 refine W.brF (by kernel_rfl) ?_
 refine W.brF (by kernel_rfl) ?_
 refine W.brF (by kernel_rfl) ?_
 refine W.brF (by kernel_rfl) ?_
 refine W.brT (by kernel_rfl) ?_
 refine .opR (by kernel_rfl) ?_
 refine .VC true puL [.blk 3,.seq (tl PU 12)] (K3 s h) s.length (by kernel_rfl) ⟨0,0,by omega,by kernel_rfl,by omega,rfl,.of (by kernel_rfl) ⟨by kernel_rfl,by kernel_rfl,by kernel_rfl,by kernel_rfl,by kernel_rfl,by kernel_rfl,by kernel_rfl,by kernel_rfl,by kernel_rfl,trivial⟩⟩ ?_
 intro m tm g hI
 refine VB hl (fun hz tm h' x k hh hk hs=> ?_) (fun n tm h' hz hh hs=> ?_) hI
 ·obtain ⟨g2,rfl⟩:=hs
  exact W.fin true (.retN (v:= .tup [.d (.i .u64 x),ND k]) (by kernel_rfl) ⟨Eq.trans (b:=h') (by kernel_rfl) hh,by rw [hz]; exact ⟨x,k,hk,rfl⟩⟩)
 ·obtain ⟨g2,rfl⟩:=hs
  refine W.fin true (W.brF (by kernel_rfl) (.retN (v:= .tup [NF n,.d .nili]) (by kernel_rfl) ⟨Eq.trans (b:=h') (by kernel_rfl) hh,by rw [hz]⟩))
end
end Go.Proofs.YtgjhldabffjiaaaGreatDoor
