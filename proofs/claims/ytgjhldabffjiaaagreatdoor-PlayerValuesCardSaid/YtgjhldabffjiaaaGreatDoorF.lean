/- Contracts: value.Right. -/
import Derived.Test.YtgjhldabffjiaaaGreatDoorNm
import Derived.Test.YtgjhldabffjiaaaGreatDoorZF
namespace Go.Proofs.YtgjhldabffjiaaaGreatDoor
noncomputable section
open Go Go.Abs
set_option maxRecDepth 100000
def nO (k n:Int) (s:List UInt8) (m:Nat):Bool:=
 if k=0 then decide (s=[]) && decide (m=0) else if k=1 then decide (n=0) && decide (m=0) && decide (s.length≤100) else if k=2 then decide (n=0) && decide (s=[]) && decide (m≤40) else false
theorem ofNat_zero {m:Nat}:decide (Int.ofNat m=0)=decide (m=0):=by
 rw [Bool.eq_iff_iff,decide_eq_true_eq,decide_eq_true_eq]; simp
theorem K_ {a b:Nat}:(!(iLt (.ofNat a) (.ofNat b)))=decide (b≤a):=by
 rw [QO,Bool.eq_iff_iff,Bool.not_eq_true',decide_eq_false_iff_not,decide_eq_true_eq]
 simp only [Int.ofNat_eq_natCast]; omega
theorem TS {h:Heap} {args:List AV} {bor b:Bool} {k n:Int} {s:List UInt8} {m:Nat} {cs:List DV} (ha:stripArgs h args=some ([.agg [.i .u8 k,.i .i64 n,.s s,.sl b m cs]],bor)):
  Cal E yN args h (.nrm,.d (.b (nO k n s m)),h):=by
 refine .w Bc (by kernel_rfl) ha ?_
 refine .br (iEq k 0) (by kernel_rfl) (fun e=> ?_) (fun e0=> ?_)
 ·rw [iEq_iff] at e
  refine .br (strEq s []) (by kernel_rfl) (fun e2=> ?_) (fun e2=> ?_)
  ·refine .sI (iEq (.ofNat m) 0) (by kernel_rfl) ?_
   rw [pO] at e2
   simp only [nO,e,e2,AN,ofNat_zero]; simp
  ·refine .sI false (by kernel_rfl) ?_
   rw [AO] at e2
   simp only [nO,e,e2]; simp
 rw [rR] at e0
 refine .br (iEq k 1) (by kernel_rfl) (fun e=> ?_) (fun e1=> ?_)
 ·rw [iEq_iff] at e
  refine .br (iEq n 0) (by kernel_rfl) (fun e2=> ?_) (fun e2=> ?_)
  ·rw [iEq_iff] at e2
   refine .br (iEq (.ofNat m) 0) (by kernel_rfl) (fun e3=> ?_) (fun e3=> ?_)
   ·refine .sI (!(iLt 100 (.ofNat s.length))) (by kernel_rfl) ?_
    rw [AN,ofNat_zero] at e3
    rw [show (100:Int)= .ofNat 100 from rfl,K_]
    simp only [nO,e,e2,e3]; simp
   ·refine .sI false (by kernel_rfl) ?_
    rw [AN,ofNat_zero] at e3
    simp only [nO,e,e3]; simp
  ·refine .sI false (by kernel_rfl) ?_
   rw [rR] at e2
   simp [nO,e,e2]
 rw [rR] at e1
 refine .br (iEq k 2) (by kernel_rfl) (fun e=> ?_) (fun e2=> ?_)
 ·rw [iEq_iff] at e
  refine .br (iEq n 0) (by kernel_rfl) (fun e2=> ?_) (fun e2=> ?_)
  ·rw [iEq_iff] at e2
   refine .br (strEq s []) (by kernel_rfl) (fun e3=> ?_) (fun e3=> ?_)
   ·refine .sI (!(iLt 40 (.ofNat m))) (by kernel_rfl) ?_
    rw [pO] at e3
    rw [show (40:Int)= .ofNat 40 from rfl,K_]
    simp only [nO,e,e2,e3]; simp
   ·refine .sI false (by kernel_rfl) ?_
    rw [AO] at e3
    simp only [nO,e,e3]; simp
  ·refine .sI false (by kernel_rfl) ?_
   rw [rR] at e2
   simp [nO,e,e2]
 rw [rR] at e2
 refine .sI false (by kernel_rfl) ?_
 simp [nO,e0,e1,e2]
theorem plain0 {h:Heap} {args:List AV} {bor:Bool} {k n:Int} {s:List UInt8} (ha:stripArgs h args=some ([.agg [.i .u8 k,.i .i64 n,.s s,.nsl]],bor)):
  Cal E yN args h (.nrm,.d (.b (nO k n s 0)),h):=by
 refine .w Bc (by kernel_rfl) ha ?_
 refine .br (iEq k 0) (by kernel_rfl) (fun e=> ?_) (fun e0=> ?_)
 ·rw [iEq_iff] at e
  refine .br (strEq s []) (by kernel_rfl) (fun e2=> ?_) (fun e2=> ?_)
  ·refine .sI (iEq (.ofNat 0) 0) (by kernel_rfl) ?_
   rw [pO] at e2
   simp only [nO,e,e2,AN,ofNat_zero]; simp
  ·refine .sI false (by kernel_rfl) ?_
   rw [AO] at e2
   simp only [nO,e,e2]; simp
 rw [rR] at e0
 refine .br (iEq k 1) (by kernel_rfl) (fun e=> ?_) (fun e1=> ?_)
 ·rw [iEq_iff] at e
  refine .br (iEq n 0) (by kernel_rfl) (fun e2=> ?_) (fun e2=> ?_)
  ·rw [iEq_iff] at e2
   refine .br (iEq (.ofNat 0) 0) (by kernel_rfl) (fun e3=> ?_) (fun e3=> ?_)
   ·refine .sI (!(iLt 100 (.ofNat s.length))) (by kernel_rfl) ?_
    rw [AN,ofNat_zero] at e3
    rw [show (100:Int)= .ofNat 100 from rfl,K_]
    simp only [nO,e,e2,e3]; simp
   ·refine .sI false (by kernel_rfl) ?_
    rw [AN,ofNat_zero] at e3
    simp at e3
  ·refine .sI false (by kernel_rfl) ?_
   rw [rR] at e2
   simp [nO,e,e2]
 rw [rR] at e1
 refine .br (iEq k 2) (by kernel_rfl) (fun e=> ?_) (fun e2=> ?_)
 ·rw [iEq_iff] at e
  refine .br (iEq n 0) (by kernel_rfl) (fun e2=> ?_) (fun e2=> ?_)
  ·rw [iEq_iff] at e2
   refine .br (strEq s []) (by kernel_rfl) (fun e3=> ?_) (fun e3=> ?_)
   ·refine .sI (!(iLt 40 (.ofNat 0))) (by kernel_rfl) ?_
    rw [pO] at e3
    rw [show (40:Int)= .ofNat 40 from rfl,K_]
    simp only [nO,e,e2,e3]; simp
   ·refine .sI false (by kernel_rfl) ?_
    rw [AO] at e3
    simp only [nO,e,e3]; simp
  ·refine .sI false (by kernel_rfl) ?_
   rw [rR] at e2
   simp [nO,e,e2]
 rw [rR] at e2
 refine .sI false (by kernel_rfl) ?_
 simp [nO,e0,e1,e2]

theorem wP {h:Heap} {b:Nat} {fr:Bool} {e:TypeId} {x:AV} (hg:h.get b=some (.cells fr e [x])):uM E h [] false 1 (.c (.ptr b 0))= .val x h:=u_ hg
mutual
def uL:ValS→Nat→Int→Option Int
 | .mk k n s l,d,r=> match decide (r < 1) || decide (d=0) || !nO k n s l.length with
  |true=> none
  |false=> yh l (d - 1) (r - 1)
def yh:List ValS→Nat→Int→Option Int
 |[],_,r=> some r
 |v::l,d,r=> match uL v d r with
  |none=> none
  |some r'=> yh l d r'
end
def sO (h:Heap) (rb:Nat) (r:Int):Prop:=h.get rb=some (.cells false xk [.d (.i .i64 r)])
def Grow (rb:Nat) (h h':Heap):Prop:=h.n≤h'.n∧∀i,i < h.n→i≠rb→h'.get i=h.get i
theorem Grow.refl (rb:Nat) (h:Heap):Grow rb h h:=⟨Nat.le_refl _,fun _ _ _=> rfl⟩
theorem Grow.trans {rb:Nat} {h h1 h2:Heap} (a:Grow rb h h1) (b:Grow rb h1 h2):Grow rb h h2:=
 ⟨Nat.le_trans a.1 b.1,fun i hi hn=> (b.2 i (Nat.lt_of_lt_of_le hi a.1) hn).trans (a.2 i hi hn)⟩
theorem Grow.push (rb:Nat) (h:Heap) (b:Blk):Grow rb h (h.push b):=⟨by show h.n≤h.n+1; omega,fun i hi _=> by rw [Heap.jk,if_neg (by omega)]⟩
theorem Grow.set (rb:Nat) (h:Heap) (b:Blk):Grow rb h (h.set rb b):=⟨Nat.le_refl _,fun i _ hn=> by rw [Heap.get_set_ne (Ne.symm hn)]⟩
theorem sO.push {h:Heap} {rb:Nat} {r:Int} (hr:sO h rb r) (b:Blk):sO (h.push b) rb r:=by
 unfold sO; rw [Heap.jk,if_neg (by have:=get_lt hr; omega)]; exact hr

theorem abN {n:Nat} {b:Bool} {cs:List DV} {b1 b3:Nat} (hl:cs.length=n*4) (hn:n < 9223372036854775808) (I:Nat→Heap→Prop) (S:Heap→Prop)
  (hq:∀i,i < n→∀g,I i g→∃x g',Cal E lT [.agg ((chunk cs 4 i).map .d),.ptr b1 0,.ptr b3 0] g (.nrm,.d (.b x),g')∧(x=true→S g')∧(x=false→I (i+1) g')) {h:Heap} (h0:I 0 h):
  ∃v h',Cal E qx [.d (.sl b n cs),.fn (.func lT) [] [.ptr b1 0,.ptr b3 0]] h (.nrm,v,h')∧((∃i:Nat,v= .d (.i .i64 (.ofNat i))∧S h')∨(v= .d (.i .i64 (-1))∧I n h')):=by
 refine Cal.wrx uz (.inr rfl) ?_
 refine .loop true (fun m tm h=> ∃i,i+m=n∧I i h∧St 19 [(0,.d (.sl b n cs)),(1,.fn (.func lT) [] [.ptr b1 0,.ptr b3 0]),(7,mkI n),(8,mkI i)] tm) n (by kernel_rfl)
  ⟨0,by omega,?_,.of (by kernel_rfl) ⟨by kernel_rfl,by kernel_rfl,by kernel_rfl,by kernel_rfl,trivial⟩⟩ ?_
 ·have:∀x:Heap,x=h→I 0 x:=fun x e=> e▸h0
  exact this _ (by kernel_rfl)
 rintro m tm h' ⟨i,him,hI,g',rfl⟩
 refine .br (iLt (.ofNat i) (.ofNat n)) (by kernel_rfl) (fun e=> ?_) (fun e=> ?_)
 ·have hi:i < n:=by rw [o8] at e; simpa using e
  refine .opv (Bh (k:= .i64) (z:=4) (b:=b) (n:=n) (cs:=cs) (j:=i) rfl hi) (by kernel_rfl) ?_
  refine .opv (BX E (z:=4) (b:=b) (cs:=cs) (j:=i) hl hi) (by kernel_rfl) ?_
  obtain ⟨x,g2,hc,hS,hN⟩:=hq i hi h' hI
  refine .call hc (by kernel_rfl) ?_
  refine .br x (by kernel_rfl) (fun e2=> ?_) (fun e2=> ?_)
  ·refine .out true 0 (by kernel_rfl) (.Er (.d (.i .i64 (.ofNat i))) (by kernel_rfl) (.inl ⟨i,rfl,?_⟩))
   have:∀x:Heap,x=g2→S x:=fun x e=> e▸hS e2
   exact this _ (by kernel_rfl)
  ·obtain ⟨m,rfl⟩:∃k,m=k+1:=⟨m - 1,by omega⟩
   refine .next m (by kernel_rfl) (by omega) ⟨i+1,by omega,?_,.of (by kernel_rfl) ⟨by kernel_rfl,by kernel_rfl,by kernel_rfl,?_,trivial⟩⟩
   ·have:∀x:Heap,x=g2→I (i+1) x:=fun x e=> e▸hN e2
    exact this _ (by kernel_rfl)
   ·exact Eq.trans (b:= .d (.i .i64 (wrap .i64 (.ofNat i+1)))) (by kernel_rfl) (by rw [wrap64 (by simp only [Int.ofNat_eq_natCast]; omega) (by simp only [Int.ofNat_eq_natCast]; omega)]; rfl)
 ·have:m=0:=by rw [tV] at e; simp only [Int.ofNat_eq_natCast] at e; omega
  subst this
  refine .out true 1 (by kernel_rfl) (.Er (.d (.i .i64 (-1))) (by kernel_rfl) (.inr ⟨rfl,?_⟩))
  have hin:i=n:=by omega
  subst hin
  have:∀x:Heap,x=h'→I i x:=fun x e=> e▸hI
  exact this _ (by kernel_rfl)
end
end Go.Proofs.YtgjhldabffjiaaaGreatDoor
