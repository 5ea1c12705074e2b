/- Contracts: whether values and fragments are light: some bool. -/
import Derived.Test.YtgjhldabffjiaaaGreatDoorF
import Derived.Test.YtgjhldabffjiaaaGreatDoorZF
namespace Go.Proofs.YtgjhldabffjiaaaGreatDoor
noncomputable section
open Go Go.Abs
set_option maxRecDepth 100000
theorem UA {i:Nat} (h:i < 9223372036854775807):(AV.d (.i .i64 (wrap .i64 (.ofNat i+1))))=mkI (i+1):=by
 rw [wrap64 (by simp only [Int.ofNat_eq_natCast]; omega) (by simp only [Int.ofNat_eq_natCast]; omega)]; rfl
def aaH (cs:List DV):Prop:=∀(d:Nat),d≤1000→∀h,∃x,(∃n,x= .i .i64 n)∧Cal E xM [.agg (cs.map .d),.d (.i .i64 (.ofNat d))] h (.nrm,.d x,h)
theorem UB {v:ValS} {cs:List DV} (hv:ValR v cs):Bi v→aaH cs:=by
 induction hv with
 |sl k n s l b cs hl hcs hkn ih=>
 rintro ⟨hlen,hlv⟩ d hd h
 refine Cal.wx Bp (by kernel_rfl) (ds:=[.agg [.i .u8 k,.i .i64 n,.s s,.sl b l.length cs],.i .i64 (.ofNat d)]) (bor:=false) rfl ?_
 refine .br (iEq (.ofNat d) 0) (by kernel_rfl) (fun _=> .J9 (.i .i64 1000000) rfl (by kernel_rfl) ⟨_,rfl⟩) (fun e0=> ?_)
 rw [rR] at e0
 have hd0:d≠0:=fun e=> e0 (by rw [e]; rfl)
 refine .loop true (fun m tm _=> ∃i r,i+m=l.length∧St 28 [(1,.d (.i .i64 (.ofNat d))),(5,.d (.i .i64 r)),(11,.d (.sl b l.length cs)),(12,mkI l.length),(13,mkI i)] tm) l.length (by kernel_rfl)
  ⟨0,1,by omega,.of (by kernel_rfl) ⟨by kernel_rfl,by kernel_rfl,by kernel_rfl,by kernel_rfl,by kernel_rfl,trivial⟩⟩ ?_
 rintro m tm g ⟨i,r,him,g',rfl⟩
 refine .br (iLt (.ofNat i) (.ofNat l.length)) (by kernel_rfl) (fun e=> ?_) (fun e=> ?_)
 ·have hi:i < l.length:=by rw [o8] at e; simpa using e
  obtain ⟨m,rfl⟩:∃k,m=k+1:=⟨m - 1,by omega⟩
  have hld:=BX E (b:=b) hl hi
  have ihi:=ih i hi (yY hlv i hi) (d - 1) (by omega)
  obtain ⟨k',n',s',b',m',cs',hlit⟩:=(hcs i hi).lit
  rw [hlit] at hld ihi
  refine .opv (Bh (k:= .i64) (z:=4) (b:=b) (n:=l.length) (cs:=cs) (j:=i) rfl hi) (by kernel_rfl) ?_
  refine .opv hld (by kernel_rfl) ?_
  have g1:=push_n g (.cells false t_Value [.d (.i .u8 0),.d (.i .i64 0),.d (.s []),.nilsl])
  refine .op (store_ptr (n:=4) (off:=0) (x:= .agg [.d (.i .u8 k'),.d (.i .i64 n'),.d (.s s'),.d (.sl b' m' cs')]) g1 rfl) (by kernel_rfl) ?_
  have g2:=Heap.get_set_self (b':= .cells false t_Value [.d (.i .u8 k'),.d (.i .i64 n'),.d (.s s'),.d (.sl b' m' cs')]) g1
  refine .op (iR E (ag:=true) (n:=4) (off:=0) g2 rfl rfl) (by kernel_rfl) ?_
  obtain ⟨x,⟨q,rfl⟩,hc⟩:=ihi ((g.push (.cells false t_Value [.d (.i .u8 0),.d (.i .i64 0),.d (.s []),.nilsl])).set g.n (.cells false t_Value [.d (.i .u8 k'),.d (.i .i64 n'),.d (.s s'),.d (.sl b' m' cs')]))
  have hw:wrap .i64 (.ofNat d - 1)= .ofNat (d - 1):=by
   rw [wrap64 (by simp only [Int.ofNat_eq_natCast]; omega) (by simp only [Int.ofNat_eq_natCast]; omega)]
   simp only [Int.ofNat_eq_natCast]; omega
  rw [←hw] at hc
  refine .call hc (by kernel_rfl) ?_
  refine .br (iLt 1000000 (wrap .i64 (r+q))) (by kernel_rfl) (fun _=> ?_) (fun _=> ?_)
  ·exact .out true 0 (by kernel_rfl) (.J9 (.i .i64 (wrap .i64 (r+q))) rfl (by kernel_rfl) ⟨_,rfl⟩)
  ·refine .next m (by kernel_rfl) (by omega) ⟨i+1,wrap .i64 (r+q),by omega,.of (by kernel_rfl) ⟨by kernel_rfl,by kernel_rfl,by kernel_rfl,by kernel_rfl,?_,trivial⟩⟩
   exact Eq.trans (b:= .d (.i .i64 (wrap .i64 (.ofNat i+1)))) (by kernel_rfl) (UA (by omega))
 ·have:m=0:=by rw [tV] at e; simp only [Int.ofNat_eq_natCast] at e; omega
  subst this
  exact .out true 1 (by kernel_rfl) (.J9 (.i .i64 r) rfl (by kernel_rfl) ⟨_,rfl⟩)
theorem QM {h:Heap} {args:List AV} {bor:Bool} {v:ValS} {cs:List DV} (hv:ValR v cs) (hn:Bi v) (ha:stripArgs h args=some ([.agg cs],bor)):∃x,(∃b,x= .b b)∧Cal E xL args h (.nrm,.d x,h):=by
 have hf:=UB hv hn 20 (by omega)
 obtain ⟨k',n',s',b',m',cs',rfl⟩:=hv.lit
 refine Cal.wx Bo (by kernel_rfl) ha ?_
 obtain ⟨x,⟨q,rfl⟩,hc⟩:=hf (Heap.empty.push (.cells false t_Value [.d (.i .u8 k'),.d (.i .i64 n'),.d (.s s'),.d (.sl b' m' cs')]))
 refine .call hc (by kernel_rfl) ?_
 exact .J9 (.b (!(iLt 600 q))) rfl (by kernel_rfl) ⟨_,rfl⟩
end
end Go.Proofs.YtgjhldabffjiaaaGreatDoor
