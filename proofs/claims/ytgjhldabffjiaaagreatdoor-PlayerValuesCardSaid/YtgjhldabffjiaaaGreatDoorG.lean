/- Contracts: value.Right. -/
import Derived.Test.YtgjhldabffjiaaaGreatDoorF
namespace Go.Proofs.YtgjhldabffjiaaaGreatDoor
noncomputable section
open Go Go.Abs
set_option maxRecDepth 100000
def hA (h:Heap) (rb:Nat) (cs:List AV) (d:Nat):Heap:=((h.push (.cells false vk [.ptr rb 0])).push (.cells false t_Value cs)).push (.cells false La [.d (.i .i64 (.ofNat d))])
def hB (h:Heap) (rb:Nat) (cs:List AV) (d:Nat) (r:Int):Heap:=(hA h rb cs d).set rb (.cells false xk [.d (.i .i64 (wrap .i64 (r - 1)))])
section
variable {h : Heap} {rb : Nat} {cs : List AV} {d : Nat} {r : Int}
theorem Uj:(hA h rb cs d).get h.n=some (.cells false vk [.ptr rb 0]):=push_of (push_of (push_n h _) _) _
theorem abO:(hA h rb cs d).get (h.n+1)=some (.cells false t_Value cs):=push_of (push_n (h.push _) _) _
theorem abP:(hA h rb cs d).get (h.n+2)=some (.cells false La [.d (.i .i64 (.ofNat d))]):=push_n ((h.push _).push _) _
theorem N5 (hr:sO h rb r):(hA h rb cs d).get rb=some (.cells false xk [.d (.i .i64 r)]):=push_of (push_of (push_of hr _) _) _
theorem QT:Grow rb h (hA h rb cs d):=((Grow.push rb h _).trans (Grow.push rb _ _)).trans (Grow.push rb _ _)
theorem QU {x:Int}:Grow rb h (hB h rb cs d x):=QT.trans (Grow.set rb _ _)
theorem aax {x:Int} (hr:sO h rb r):sO (hB h rb cs d x) rb (wrap .i64 (x - 1)):=Heap.get_set_self (N5 hr)
theorem aay {x:Int} (hr:sO h rb r):(hB h rb cs d x).get h.n=some (.cells false vk [.ptr rb 0]):=(Heap.get_set_ne (by have:=get_lt hr; omega)).trans Uj
theorem aaz {x:Int} (hr:sO h rb r):(hB h rb cs d x).get (h.n+1)=some (.cells false t_Value cs):=(Heap.get_set_ne (by have:=get_lt hr; omega)).trans abO
theorem aaA {x:Int} (hr:sO h rb r):(hB h rb cs d x).get (h.n+2)=some (.cells false La [.d (.i .i64 (.ofNat d))]):=(Heap.get_set_ne (by have:=get_lt hr; omega)).trans abP
end
structure QV (rb:Nat) (h:Heap) (r:Int) (o:Option Int) (v:AV) (h':Heap):Prop where
 v:v= .d (.b o.isSome)
 g:Grow rb h h'
 r:∀r',o=some r'→sO h' rb r'∧0≤r'∧r'≤r
def N6 (rb:Nat) (v:ValS) (cs:List DV):Prop:=∀(d:Nat) (r:Int) (h:Heap),d≤1000→0≤r→r≤1000→sO h rb r→
 ∃v' h',Cal E rV [.ptr rb 0,.agg (cs.map .d),.d (.i .i64 (.ofNat d))] h (.nrm,v',h')∧QV rb h r (uL v d r) v' h'
theorem Mo {rb:Nat} {v:ValS} {cs:List DV} (hv:ValR v cs) (hf:N6 rb v cs) {d:Nat} {r:Int} {h:Heap} {b1 b3:Nat} (hd:d≤1000) (hd0:d≠0) (h0:0≤r) (h1:r≤1000) (hr:sO h rb r)
  (h3:h.get b3=some (.cells false La [.d (.i .i64 (.ofNat d))])) (hp:h.get b1=some (.cells false vk [.ptr rb 0])):
  ∃x h',Cal E lT [.agg (cs.map .d),.ptr b1 0,.ptr b3 0] h (.nrm,.d (.b x),h')∧x= !(uL v (d - 1) r).isSome∧Grow rb h h'∧∀r',uL v (d - 1) r=some r'→sO h' rb r'∧0≤r'∧r'≤r:=by
 cases hv with
 |sl k n s l b cs hl hcs hkn=>
 obtain ⟨v2,h2,hc,hv⟩:=hf (d - 1) r (h.push (.cells false t_Value [.d (.i .u8 k),.d (.i .i64 n),.d (.s s),.d (.sl b l.length cs)])) (by omega) h0 h1 (sO.push hr _)
 obtain ⟨rfl,hg,hr2⟩:=hv
 refine ⟨_,h2,?_,rfl,(Grow.push rb h _).trans hg,hr2⟩
 refine .wr A_ (.inr rfl) ?_
 have g1:=push_of hp (.cells false t_Value [.d (.i .u8 k),.d (.i .i64 n),.d (.s s),.d (.sl b l.length cs)])
 have g2:=push_n h (.cells false t_Value [.d (.i .u8 k),.d (.i .i64 n),.d (.s s),.d (.sl b l.length cs)])
 have g3:=push_of h3 (.cells false t_Value [.d (.i .u8 k),.d (.i .i64 n),.d (.s s),.d (.sl b l.length cs)])
 refine .op (wP g1) (by kernel_rfl) ?_
 refine .op (iR E (ag:=true) (n:=4) (off:=0) g2 rfl rfl) (by kernel_rfl) ?_
 refine .op (wP g3) (by kernel_rfl) ?_
 have hw:wrap .i64 (.ofNat d - 1)= .ofNat (d - 1):=by
  rw [wrap64 (by simp only [Int.ofNat_eq_natCast]; omega) (by simp only [Int.ofNat_eq_natCast]; omega)]
  simp only [Int.ofNat_eq_natCast]; omega
 refine .call hc (Eq.trans (b:=([],some (rV,[.ptr rb 0,.agg [.d (.i .u8 k),.d (.i .i64 n),.d (.s s),.d (.sl b l.length cs)],.d (.i .i64 (wrap .i64 (.ofNat d - 1)))],_))) (by kernel_rfl) (by rw [hw]; rfl)) ?_
 exact .yU (by kernel_rfl) (by kernel_rfl)
theorem aaB {n:Nat} {b:Bool} {cs:List DV} {b1 b3:Nat} (hl:cs.length=n*4) (hn:n < 9223372036854775808) (I:Nat→Heap→Prop) (S:Heap→Prop)
  (hq:∀i,i < n→∀g,I i g→∃x g',Cal E lT [.agg ((chunk cs 4 i).map .d),.ptr b1 0,.ptr b3 0] g (.nrm,.d (.b x),g')∧(x=true→S g')∧(x=false→I (i+1) g')) {h:Heap} (h0:I 0 h):
  ∃x h',Cal E o_ [.d (.sl b n cs),.fn (.func lT) [] [.ptr b1 0,.ptr b3 0]] h (.nrm,.d (.b x),h')∧(x=true→S h')∧(x=false→I n h'):=by
 obtain ⟨v,h',hc,hv⟩:=abN (b:=b) hl hn I S hq h0
 rcases hv with ⟨i,rfl,hS⟩ | ⟨rfl,hI⟩
 ·refine ⟨true,h',?_,fun _=> hS,fun e=> (by cases e)⟩
  refine .wr pz (.inr rfl) ?_
  refine .call hc (by kernel_rfl) ?_
  exact .yU (by kernel_rfl) (by kernel_rfl)
 ·refine ⟨false,h',?_,fun e=> (by cases e),fun _=> hI⟩
  refine .wr pz (.inr rfl) ?_
  refine .call hc (by kernel_rfl) ?_
  exact .yU (by kernel_rfl) (by kernel_rfl)
theorem N7 {rb:Nat} {v:ValS} {cs:List DV} (hv:ValR v cs):N6 rb v cs:=by
  induction hv with
  |sl k n s l b cs hl hcs hkn ih=>
  intro d r h hd h0 h1 hr
  refine Cal.wrx yA (.inr rfl) ?_
  have hw:wrap .i64 (r - 1)=r - 1:=wrap64 (by omega) (by omega)
  refine .op (wP (Uj (h:=h) (rb:=rb) (cs:=[.d (.i .u8 k),.d (.i .i64 n),.d (.s s),.d (.sl b l.length cs)]) (d:=d))) (by kernel_rfl) ?_
  refine .op (wP (N5 (cs:=[.d (.i .u8 k),.d (.i .i64 n),.d (.s s),.d (.sl b l.length cs)]) (d:=d) hr)) (by kernel_rfl) ?_
  refine .op (store_ptr (n:=1) (off:=0) (x:= .d (.i .i64 (wrap .i64 (r - 1)))) (N5 (cs:=[.d (.i .u8 k),.d (.i .i64 n),.d (.s s),.d (.sl b l.length cs)]) (d:=d) hr) rfl) (by kernel_rfl) ?_
  have hB0:=aay (cs:=[.d (.i .u8 k),.d (.i .i64 n),.d (.s s),.d (.sl b l.length cs)]) (d:=d) (x:=r) hr
  have hB1:=aaz (cs:=[.d (.i .u8 k),.d (.i .i64 n),.d (.s s),.d (.sl b l.length cs)]) (d:=d) (x:=r) hr
  have hB2:=aaA (cs:=[.d (.i .u8 k),.d (.i .i64 n),.d (.s s),.d (.sl b l.length cs)]) (d:=d) (x:=r) hr
  have hBr:=aax (cs:=[.d (.i .u8 k),.d (.i .i64 n),.d (.s s),.d (.sl b l.length cs)]) (d:=d) (x:=r) hr
  have hBg:=QU (h:=h) (rb:=rb) (cs:=[.d (.i .u8 k),.d (.i .i64 n),.d (.s s),.d (.sl b l.length cs)]) (d:=d) (x:=r)
  have no:∀hh,hh=hB h rb [.d (.i .u8 k),.d (.i .i64 n),.d (.s s),.d (.sl b l.length cs)] d r→uL (.mk k n s l) d r=none→QV rb h r (uL (.mk k n s l) d r) (.d (.b false)) hh:=by
    intro hh e1 e2
    subst e1
    exact ⟨by rw [e2]; rfl,hBg,fun r' e=> by rw [e2] at e; cases e⟩
  refine .op (wP hB0) (by kernel_rfl) ?_
  refine .op (wP hBr) (by kernel_rfl) ?_
  refine .br (iLt (wrap .i64 (r - 1)) 0) (by kernel_rfl) (fun e=> ?_) (fun e=> ?_)
  · refine .Er (.d (.b false)) (by kernel_rfl) (no _ (by kernel_rfl) ?_)
    rw [hw,o8] at e
    unfold uL; rw [show decide (r < 1)=true by simp; omega]; rfl
  rw [hw,tV] at e
  refine .op (wP hB2) (by kernel_rfl) ?_
  refine .br (iEq (.ofNat d) 0) (by kernel_rfl) (fun e2=> ?_) (fun e2=> ?_)
  · refine .Er (.d (.b false)) (by kernel_rfl) (no _ (by kernel_rfl) ?_)
    rw [iEq_iff] at e2
    unfold uL; rw [show decide (d=0)=true by simp; simpa using e2]; simp
  rw [rR] at e2
  refine .op (iR E (ag:=true) (n:=4) (off:=0) hB1 rfl rfl) (by kernel_rfl) ?_
  refine .oU (fun h=> TS (h:=h) (b:=b) (k:=k) (n:=n) (s:=s) (m:=l.length) (cs:=cs) (args:=[.agg [.d (.i .u8 k),.d (.i .i64 n),.d (.s s),.d (.sl b l.length cs)]]) rfl) (by kernel_rfl) ?_
  refine .br (!nO k n s l.length) (by kernel_rfl) (fun e3=> ?_) (fun e3=> ?_)
  · refine .Er (.d (.b false)) (by kernel_rfl) (no _ (by kernel_rfl) ?_)
    unfold uL; rw [e3]; simp
  have hfit:uL (.mk k n s l) d r=yh l (d - 1) (r - 1):=by
    conv=> lhs; unfold uL
    rw [e3,show decide (r < 1)=false by simp; omega,show decide (d=0)=false by simp; simpa using e2]; rfl
  refine .op (iR E (ag:=false) (n:=1) (off:=3) hB1 rfl rfl) (by kernel_rfl) ?_
  have hd0:d≠0:=by simpa using e2
  by_cases hm:l.length≤40
  · let I:Nat→Heap→Prop:=fun i g=> Grow rb (hB h rb [.d (.i .u8 k),.d (.i .i64 n),.d (.s s),.d (.sl b l.length cs)] d r) g∧∃x,sO g rb x∧0≤x∧x≤r∧yh (l.drop i) (d - 1) x=yh l (d - 1) (r - 1)
    let S:Heap→Prop:=fun g=> Grow rb (hB h rb [.d (.i .u8 k),.d (.i .i64 n),.d (.s s),.d (.sl b l.length cs)] d r) g∧yh l (d - 1) (r - 1)=none
    obtain ⟨x,h',hc,hS,hI⟩ := aaB (b := b) (b1 := h.n) (b3 := h.n + 2) hl (by omega) I S (fun i hi g hI => by
      obtain ⟨hg,x,hx,hx0,hx1,hx2⟩:=hI
      have hrb:=get_lt hr
      obtain ⟨y,g',hc,hy,hg',hr'⟩:=Mo (hcs i hi) (ih i hi) (d:=d) (r:=x) (h:=g) (b1:=h.n) (b3:=h.n+2) hd hd0 hx0 (by omega) hx
        ((hg.2 _ (by show h.n+2 < h.n+3; omega) (by omega)).trans hB2) ((hg.2 _ (by show h.n < h.n+3; omega) (by omega)).trans hB0)
      refine ⟨y,g',hc,fun e=> ?_,fun e=> ?_⟩
      · refine ⟨hg.trans hg',?_⟩
        rw [e] at hy
        have:uL l[i] (d - 1) x=none:=by
          cases hf:uL l[i] (d - 1) x with
          |none=> rfl
          |some z=> rw [hf] at hy; cases hy
        rw [←hx2,List.drop_eq_getElem_cons hi,yh,this]
      · rw [e] at hy
        cases hf:uL l[i] (d - 1) x with
        |none=> rw [hf] at hy; cases hy
        |some z=>
          obtain ⟨a1,a2,a3⟩:=hr' z hf
          refine ⟨hg.trans hg',z,a1,a2,by omega,?_⟩
          rw [←hx2,List.drop_eq_getElem_cons hi]
          conv=> rhs; unfold yh
          rw [hf]) (h:=hB h rb [.d (.i .u8 k),.d (.i .i64 n),.d (.s s),.d (.sl b l.length cs)] d r) ⟨Grow.refl _ _,r - 1,by rw [←hw]; exact hBr,e,by omega,rfl⟩
    refine .call hc (by kernel_rfl) ?_
    refine .Er (.d (.b (!x))) (by kernel_rfl) ?_
    have key:QV rb h r (uL (.mk k n s l) d r) (.d (.b (!x))) h':=by
      cases x with
      |true=>
        obtain ⟨a1,a2⟩:=hS rfl
        exact ⟨by rw [hfit,a2]; rfl,hBg.trans a1,fun r' e=> by rw [hfit,a2] at e; cases e⟩
      |false=>
        obtain ⟨a1,x,a2,a3,a4,a5⟩:=hI rfl
        rw [List.drop_eq_nil_of_le (Nat.le_refl _)] at a5
        have a5:some x=yh l (d - 1) (r - 1):=a5
        refine ⟨by rw [hfit,←a5]; rfl,hBg.trans a1,fun r' e=> ?_⟩
        rw [hfit,←a5] at e
        cases e
        exact ⟨a2,a3,a4⟩
    have:∀hh,hh=h'→QV rb h r (uL (.mk k n s l) d r) (.d (.b (!x))) hh:=fun hh e=> e▸key
    exact this _ (by kernel_rfl)
  · exfalso
    have hp:nO k n s l.length=true:=by simpa using e3
    unfold nO at hp
    have h1:l.length≠0:=by omega
    simp [h1,hm] at hp
def rightV (v:ValS):Bool:=(uL v 6 200).isSome
def hV (cs:List AV):Heap:=(Heap.empty.push (.cells false t_Value cs)).push (.cells false xk [.d (.i .i64 200)])
theorem Dw {h:Heap} {args:List AV} {bor:Bool} {v:ValS} {cs:List DV} (hv:ValR v cs) (ha:stripArgs h args=some ([.agg cs],bor)):Cal E vX args h (.nrm,.d (.b (rightV v)),h):=by
 cases hv with
 |sl k n s l b cs hl hcs hkn=>
 refine .w Bd (by kernel_rfl) ha ?_
 obtain ⟨v',h',hc,hv,_,_⟩:=N7 (rb:=1) (.sl k n s l b cs hl hcs hkn) 6 200 (hV [.d (.i .u8 k),.d (.i .i64 n),.d (.s s),.d (.sl b l.length cs)]) (by omega) (by omega) (by omega) (push_n (Heap.empty.push _) _)
 subst hv
 refine .call hc (by kernel_rfl) ?_
 exact .ret rfl (by kernel_rfl)
theorem GN {h:Heap} {args:List AV} {bor:Bool} {k n:Int} {s:List UInt8} (ha:stripArgs h args=some ([.agg [.i .u8 k,.i .i64 n,.s s,.nsl]],bor)):Cal E vX args h (.nrm,.d (.b (rightV (.mk k n s []))),h):=by
 have hc:∃v' h',Cal E rV [.ptr 1 0,.agg [.d (.i .u8 k),.d (.i .i64 n),.d (.s s),.nilsl],.d (.i .i64 6)] (hV [.d (.i .u8 k),.d (.i .i64 n),.d (.s s),.nilsl]) (.nrm,v',h')∧v'= .d (.b (nO k n s 0)):=by
  refine Cal.wrx yA (.inr rfl) ?_
  have hr:sO (hV [.d (.i .u8 k),.d (.i .i64 n),.d (.s s),.nilsl]) 1 200:=push_n (Heap.empty.push _) _
  have hB0:=aay (cs:=[.d (.i .u8 k),.d (.i .i64 n),.d (.s s),.nilsl]) (d:=6) (x:=200) hr
  have hB1:=aaz (cs:=[.d (.i .u8 k),.d (.i .i64 n),.d (.s s),.nilsl]) (d:=6) (x:=200) hr
  have hB2:=aaA (cs:=[.d (.i .u8 k),.d (.i .i64 n),.d (.s s),.nilsl]) (d:=6) (x:=200) hr
  have hBr:=aax (cs:=[.d (.i .u8 k),.d (.i .i64 n),.d (.s s),.nilsl]) (d:=6) (x:=200) hr
  refine .op (wP (Uj (h:=hV [.d (.i .u8 k),.d (.i .i64 n),.d (.s s),.nilsl]) (rb:=1) (cs:=[.d (.i .u8 k),.d (.i .i64 n),.d (.s s),.nilsl]) (d:=6))) (by kernel_rfl) ?_
  refine .op (wP (N5 (cs:=[.d (.i .u8 k),.d (.i .i64 n),.d (.s s),.nilsl]) (d:=6) hr)) (by kernel_rfl) ?_
  refine .op (store_ptr (n:=1) (off:=0) (x:= .d (.i .i64 199)) (N5 (cs:=[.d (.i .u8 k),.d (.i .i64 n),.d (.s s),.nilsl]) (d:=6) hr) rfl) (by kernel_rfl) ?_
  refine .op (wP hB0) (by kernel_rfl) ?_
  refine .op (wP hBr) (by kernel_rfl) ?_
  refine .br false (by kernel_rfl) (fun e=> by cases e) (fun _=> ?_)
  refine .op (wP hB2) (by kernel_rfl) ?_
  refine .br false (by kernel_rfl) (fun e=> by cases e) (fun _=> ?_)
  refine .op (iR E (ag:=true) (n:=4) (off:=0) hB1 rfl rfl) (by kernel_rfl) ?_
  refine .oU (fun h=> plain0 (h:=h) (k:=k) (n:=n) (s:=s) (args:=[.agg [.d (.i .u8 k),.d (.i .i64 n),.d (.s s),.nilsl]]) rfl) (by kernel_rfl) ?_
  refine .br (!nO k n s 0) (by kernel_rfl) (fun e3=> ?_) (fun e3=> ?_)
  ·refine .Er (.d (.b false)) (by kernel_rfl) ?_
   rw [Bool.not_eq_true'] at e3; rw [e3]
  refine .op (iR E (ag:=false) (n:=1) (off:=3) hB1 rfl rfl) (by kernel_rfl) ?_
  have hc:∀h,Cal E o_ [.nilsl,.fn (.func lT) [] [.ptr 2 0,.ptr 4 0]] h (.nrm,.d (.b false),h):=fun h=> by
   have hi:∀h,Cal E qx [.nilsl,.fn (.func lT) [] [.ptr 2 0,.ptr 4 0]] h (.nrm,.d (.i .i64 (-1)),h):=fun h=> by
    refine .wr uz (.inr rfl) ?_
    refine .loop true (fun m tm h'=> h'=h∧St 19 [(0,.nilsl),(7,mkI 0),(8,mkI 0)] tm) 0 (by kernel_rfl)
     ⟨by kernel_rfl,.of (by kernel_rfl) ⟨by kernel_rfl,by kernel_rfl,by kernel_rfl,trivial⟩⟩ ?_
    rintro m tm h' ⟨rfl,g',rfl⟩
    refine .br false (by kernel_rfl) (fun e=> by cases e) (fun _=> ?_)
    exact .out true 1 (by kernel_rfl) (.yU (by kernel_rfl) (by kernel_rfl))
   refine .wr pz (.inr rfl) ?_
   refine .oU hi (by kernel_rfl) ?_
   exact .yU (by kernel_rfl) (by kernel_rfl)
  refine .oU hc (by kernel_rfl) ?_
  refine .Er (.d (.b true)) (by kernel_rfl) ?_
  rw [Bool.not_eq_false'] at e3; rw [e3]
 refine .w Bd (by kernel_rfl) ha ?_
 obtain ⟨v',h',hc,hv⟩:=hc
 subst hv
 refine .call hc (by kernel_rfl) ?_
 refine .sI (nO k n s 0) (by kernel_rfl) ?_
 unfold rightV uL
 cases nO k n s 0 <;> rfl
end
end Go.Proofs.YtgjhldabffjiaaaGreatDoor
