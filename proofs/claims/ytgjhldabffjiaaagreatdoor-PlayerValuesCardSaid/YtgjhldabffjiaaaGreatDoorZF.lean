/- Part 6 of a general layer: a deterministic machine over the model's code, and that what it comes to the model comes to. Conditions: those of each theorem. -/
import Derived.Test.YtgjhldabffjiaaaGreatDoorZE
import Derived.Lib.LaidTab
noncomputable section
namespace Go.Abs
theorem push_n (h:Heap) (b:Blk):(h.push b).get h.n=some b:=by rw [Heap.jk,if_pos rfl]
theorem get_lt {h:Heap} {i:Nat} {b:Blk} (hg:h.get i=some b):i < h.n:=Heap.kH hg
theorem push_of {h:Heap} {i:Nat} {b:Blk} (e:h.get i=some b) (c:Blk):(h.push c).get i=some b:=by
 rw [Heap.jk,if_neg (by have:=get_lt e; omega)]; exact e
theorem u_ {E:Env} {h:Heap} {b:Nat} {fr:Bool} {e:TypeId} {x:AV} (hg:h.get b=some (.cells fr e [x])):uM E h [] false 1 (.c (.ptr b 0))= .val x h:=iR E (ag:=false) (n:=1) hg rfl rfl
theorem yL (a b:List UInt8):bytesD (a++b)=bytesD a++bytesD b:=List.map_append
theorem pG (a:List UInt8):(bytesD a).length=a.length:=List.length_map ..
def FA (e:TypeId) (n:Nat) (cs:List DV) (v:AV) (h:Heap):Prop:=(n=0∧cs=[]∧(v= .full false 0 []∨v= .nilsl))∨∃t g,v= .app t g n cs∧h.get t=some (.tok g e)
theorem FA.keep {e:TypeId} {n:Nat} {cs:List DV} {v:AV} {h h':Heap} (a:FA e n cs v h) (k:∀t g,h.get t=some (.tok g e)→h'.get t=h.get t):FA e n cs v h':=by
 rcases a with a | ⟨t,g,rfl,ht⟩
 ·exact .inl a
 ·exact .inr ⟨t,g,rfl,(k t g ht).trans ht⟩
theorem Va (h:Heap):∀l:List DV,FB h (l.map .d)=some (l,h):=by
 intro l
 induction l with
 |nil=> rfl
 |cons a r ih=>
  show (match frz h (.d a) with | some (d,h1)=> (match FB h1 (r.map .d) with | some (l,h2)=> some (d::l,h2) | none=> none) | none=> none)=_
  simp only [frz,ih]
theorem yK (l:List UInt8):okCells ((bytesD l).map .d)=true:=by
 unfold okCells
 induction l with
 |nil=> rfl
 |cons a r ih=>
  simp only [bytesD,List.map,List.any_cons,Bool.not_eq_true',Bool.or_eq_false_iff] at ih ⊢
  exact ⟨rfl,ih⟩
def Io (h:Heap) (sz:Nat) (y:AV) (n:Nat) (l:List DV):Prop:=srcView h sz y=some (n,l.map .d)
def Kept (v:AV) (h h':Heap):Prop:=h.n≤h'.n∧∀i,i < h.n→(∀t g n cs,v= .app t g n cs→i≠t)→h'.get i=h.get i
theorem Vb {h:Heap} {e:TypeId} {sz bytes n k:Nat} {cs ds:List DV} {l:List AV} {v y:AV} (hv:FA e n cs v h) (hl:cs.length=n*sz) (hs:srcView h sz y=some (k,l)) (hz:FB h l=some (ds,h)) (h1:(n+k)*bytes≤70368744177664) (h2:n+k≤70368744177664) (hk:k=0→ds=[]) (ho:okCells l=true):
  ∃v' h',s_app h [] e sz bytes false (.c v) (.c y)= .val v' h'∧FA e (n+k) (cs++ds) v' h'∧Kept v h h'∧(k≠0→∃t g,v'= .app t g (n+k) (cs++ds)∧h'.get t=some (.tok g e)):=by
 have hlen:lenOf v=some n:=by
  rcases hv with ⟨rfl,rfl,rfl | rfl⟩ | ⟨t,g,rfl,_⟩ <;> rfl
 have hc:(Nat.ble ((n+k)*bytes) 70368744177664 && Nat.ble (n+k) 70368744177664 && okCells l)=true:=by
  simp only [Bool.and_eq_true,Nat.ble_eq]; exact ⟨⟨h1,h2⟩,ho⟩
 have hd:s_app h [] e sz bytes false (.c v) (.c y)=oh (appA h e sz false v k l):=by
  unfold s_app; simp only [X.ev]; rw [hs]; simp only [hlen,hc]
 rw [hd]
 cases k with
 |zero=>
  refine ⟨v,h,rfl,?_,⟨Nat.le_refl _,fun _ _ _=> rfl⟩,fun e=> absurd rfl e⟩
  rw [hk rfl,List.append_nil]; exact hv
 |succ k=>
  rcases hv with ⟨rfl,rfl,rfl | rfl⟩ | ⟨t,g,rfl,ht⟩
  ·have:appA h e sz false (.full false 0 []) (k+1) l=some (.app h.n 0 (0+(k+1)) ([]++ds),h.push (.tok 0 e)):=by
    simp only [appA,List.length_nil,Nat.zero_mul,show Nat.beq 0 0=true from rfl,hz]
   rw [this]
   exact ⟨_,_,rfl,.inr ⟨_,_,rfl,push_n h _⟩,⟨Nat.le_succ _,fun i hi _=> by rw [Heap.jk,if_neg (by omega)]⟩,fun _=> ⟨_,_,rfl,push_n h _⟩⟩
  ·have:appA h e sz false .nilsl (k+1) l=some (.app h.n 0 (0+(k+1)) ([]++ds),h.push (.tok 0 e)):=by
    simp only [appA,hz,Nat.zero_add,List.nil_append]
   rw [this]
   exact ⟨_,_,rfl,.inr ⟨_,_,rfl,push_n h _⟩,⟨Nat.le_succ _,fun i hi _=> by rw [Heap.jk,if_neg (by omega)]⟩,fun _=> ⟨_,_,rfl,push_n h _⟩⟩
  ·have:appA h e sz false (.app t g n cs) (k+1) l=some (.app t (g+1) (n+(k+1)) (cs++ds),h.set t (.tok (g+1) e)):=by
    simp only [appA,ht,hz,Nat.beq_refl,Bool.and_self,show Nat.beq e e=true from Nat.beq_refl e]
   rw [this]
   exact ⟨_,_,rfl,.inr ⟨_,_,rfl,Heap.get_set_self ht⟩,⟨Nat.le_refl _,fun i hi hn=> by rw [Heap.get_set_ne (Ne.symm (hn t g n cs rfl))]⟩,fun _=> ⟨_,_,rfl,Heap.get_set_self ht⟩⟩
theorem JR {h:Heap} {e:TypeId} {sz bytes n k:Nat} {cs l:List DV} {v y:AV} (hv:FA e n cs v h) (hl:cs.length=n*sz) (hs:Io h sz y k l) (h1:(n+k)*bytes≤70368744177664) (h2:n+k≤70368744177664) (hk:k=0→l=[]) (ho:okCells (l.map .d)=true):
  ∃v' h',s_app h [] e sz bytes false (.c v) (.c y)= .val v' h'∧FA e (n+k) (cs++l) v' h'∧Kept v h h'∧(k≠0→∃t g,v'= .app t g (n+k) (cs++l)∧h'.get t=some (.tok g e)):=
 Vb hv hl hs (Va h l) h1 h2 hk ho
section
variable {E : Env}
theorem W.acY {c:Cfg} {rs:List RV} {bor:Bool} {h h2:Heap} {v':AV} {h':Heap} (v:AV) (he:(adO E c).p ((adv E c).res E rs)=(adO E c).q (some v)) (hx:y9 bor (adv E c).hp h v=some (v',h2,h')):W E (Ab E rs bor h v' h') c:=by
 obtain ⟨ho,he⟩:=rM.pq he
 constructor
 refine p8 100000 _ ho ?_
 show evW E _ (adv E c)
 revert hx he
 cases adv E c <;> intro hx he <;> try cases he
 rename_i ex tm h1
 cases ex with
 |nrm=> exact ⟨.inl rfl,_,h2,he,hx⟩
 |ret=> exact ⟨.inr rfl,_,h2,he,hx⟩
 |exit j=> cases he
 |pan v=> cases he
theorem FA.app {e:TypeId} {n:Nat} {cs:List DV} {v:AV} {h:Heap} (a:FA e n cs v h) (hn:n≠0):∃t g,v= .app t g n cs∧h.get t=some (.tok g e):=by
 rcases a with ⟨h0,_⟩ | a
 ·exact absurd h0 hn
 ·exact a
theorem W.Nt {c:Cfg} {rs:List RV} {bor:Bool} {h:Heap} {v':AV} {h':Heap} (v:AV) (he:(adO E c).p ((adv E c).res E rs)=(adO E c).q (some v)) (hx:(match y9 bor (adv E c).hp h v with | some (a,_,b)=> some (a,b) | none=> none)=some (v',h')):W E (Ab E rs bor h v' h') c:=by
 cases ha:y9 bor (adv E c).hp h v with
 |none=> rw [ha] at hx; cases hx
 |some x=>
  obtain ⟨a,h2,b⟩:=x
  rw [ha] at hx
  injection hx with hx
  injection hx with e1 e2
  subst e1 e2
  exact .acY v he ha
theorem readN_all:∀l:List AV,readN l 0 l.length=some l:=by
 intro l
 rw [B6,if_pos (by omega),List.drop_zero,List.take_length]
theorem Ip {h:Heap} {b m:Nat} {fr ex:Bool} {e:TypeId} {bs:List UInt8} (hg:h.get b=some (.cells fr e ((bytesD bs).map .d))):Io h 1 (.sref b 0 1 bs.length m ex) bs.length (bytesD bs):=by
 unfold Io srcView slView
 have hr:readN ((bytesD bs).map .d) 0 (bs.length*1)=some ((bytesD bs).map .d):=by
  have:=readN_all ((bytesD bs).map .d)
  rwa [List.length_map,pG,←Nat.mul_one bs.length] at this
 simp only [hg,hr]
noncomputable section
end
theorem Rnd.w {l f0:Nat} {args tm0 tm tm1:List AV} {h:Heap} {pd:Mt} {ps:List Nat} {asg body:AC} {h':Heap} (hl:h.get l=some (.loop .ready pd f0 tm0 ps asg body)) (hp:Re ps args tm0=some tm)
  (ha:∃n,mz E n asg ⟨tm,[],none⟩ h=some (.nrm,⟨tm1,[],none⟩,h))
  (w:W E (fun ex _ h1=> ex= .nrm∧∃f1 tm2 ps2 a2 b2 p2 s2,h1.get l=some (.loop s2 p2 f1 tm2 ps2 a2 b2)∧h'=h1.set l (.loop .ready .none f1 tm2 ps2 a2 b2)) (.run body [] ⟨true,[]⟩ tm1 (h.set l (.loop .busy pd f0 tm0 ps asg body)))):
  Rnd E l args h (.nrm,.d (.b true),h'):=by
 obtain ⟨n,ha⟩:=ha
 obtain ⟨m,ex,fr',h1,hb,tm',rfl,rfl,f1,tm2,ps2,a2,b2,p2,s2,q1,rfl⟩:=w.s (fun _ hp=> by cases hp)
 refine ⟨max n m,?_⟩
 have ha:=pZ (Nat.le_max_left n m) _ _ _ _ ha
 have hb:=pZ (Nat.le_max_right n m) _ _ _ _ hb
 unfold round
 simp only [hl,hp,AR,ha,hb,endRound,q1]
inductive P5 (E:Env) (l:Nat):List (List AV)→Heap→Heap→Prop
 |nil (h:Heap):P5 E l [] h h
 |cons {a:List AV} {r:List (List AV)} {h h1 h':Heap} (y:Rnd E l a h (.nrm,.d (.b true),h1)) (s:P5 E l r h1 h'):P5 E l (a::r) h h'
theorem P5.of {l:Nat} {I:Nat→Heap→Prop}:∀{l1:List (List AV)} {i:Nat} {h:Heap},I i h→(∀j a,l1[j]? =some a→∀h,I (i+j) h→∃h',Rnd E l a h (.nrm,.d (.b true),h')∧I (i+j+1) h')→∃h',P5 E l l1 h h'∧I (i+l1.length) h':=by
 intro l1
 induction l1 with
 |nil=> intro i h h0 _; exact ⟨h,.nil h,h0⟩
 |cons a r ih=>
  intro i h h0 hs
  obtain ⟨h1,r1,i1⟩:=hs 0 a rfl h h0
  obtain ⟨h',y,i2⟩ := ih (i := i + 1) i1 (fun j b hb h hi => by
   have:=hs (j+1) b (by simpa using hb) h (by rw [show i+(j+1)=i+1+j by omega]; exact hi)
   rwa [show i+(j+1)=i+1+j by omega] at this)
  refine ⟨h',.cons r1 y,?_⟩
  rwa [List.length_cons,show i+(r.length+1)=i+1+r.length by omega]
end
end Go.Abs

namespace Go.Abs
namespace Dec
inductive It where
 |n (n:Nat) | x (x:X) | a (x:AV) | d (x:DV) | o (x:COp) | O (x:AOp) | W (x:DOp) | c (x:AC) | F (x:AFn) | e (x:EqK) | K (x:KK) | f (x:Fn) | v (x:RV) | P (x:Prim) | l (x:List It)
def tn:It→Nat
 | .n k=> k
 |_=> 0
def tb (i:It):Bool:=match tn i with
 |0=> false
 |_+1=> true
def td:It→DV
 | .d x=> x
 |_=> .sG
def ta:It→AV
 | .d x=> .d x
 | .a x=> x
 |_=> .und
def tx:It→X
 | .n k=> .t k
 | .x x=> x
 |i=> .c (ta i)
def tl {α:Type} (g:It→α):It→List α
 | .l x=> x.map g
 |_=> []
def ty (i:It):UInt8:=UInt8.ofNat (tn i)
def tp (i:It):List (Nat×Nat×X):=match i with
 | .l x=> x.map fun j=> match j with
  | .l [a,b,c]=> (tn a,tn b,tx c)
  |_=> (0,0,.t 0)
 |_=> []
def tq:It→Option X
 | .l []=> none
 | .l [i]=> some (tx i)
 |_=> none
def tr:It→Option Nat
 | .l [i]=> some (tn i)
 |_=> none
def tU:It→Option (TypeId×Nat)
 | .l [i,j]=> some (tn i,tn j)
 |_=> none
def to:It→COp
 | .o x=> x
 |_=> .bad
def tO:It→AOp
 | .O x=> x
 |_=> ⟨none,.bad,none⟩
def tW:It→DOp
 | .W x=> x
 |_=> ⟨⟨none,.bad,none⟩,0,false,[],none⟩
def tc:It→AC
 | .c x=> x
 |_=> .bad
def te:It→EqK
 | .e x=> x
 |_=> .bad
def tK:It→KK
 | .K x=> x
 |_=> .one .b
def tf:It→Fn
 | .f x=> x
 |_=> .func 0
def tv:It→RV
 | .v x=> x
 |_=> .tmp 0
def tM (i:It):String:=match tn i with
 |0=> "Less"
 |1=> "Swap"
 |2=> "Len"
 |3=> "Push"
 |4=> "Pop"
 |_=> ""
def tk (i:It):IntKind:=match tn i with
 |0=> .i8
 |1=> .i16
 |2=> .i32
 |3=> .i64
 |4=> .u8
 |5=> .u16
 |6=> .u32
 |7=> .u64
 |_=> .i64
def tB (i:It):BinOp:=match tn i with
 |0=> .add
 |1=> .sub
 |2=> .mul
 |3=> .quo
 |4=> .rem
 |5=> .and
 |6=> .or
 |7=> .xor
 |8=> .shl
 |9=> .shr
 |10=> .andNot
 |11=> .eql
 |12=> .neq
 |13=> .lss
 |14=> .leq
 |15=> .gtr
 |16=> .geq
 |_=> .add
def tu (i:It):UnOp:=match tn i with
 |0=> .neg
 |1=> .xor
 |2=> .not
 |3=> .plus
 |_=> .neg
def tT (i:It):TK:=match tn i with
 |0=> .b
 |1=> .i
 |2=> .s
 |_=> .b
def tL (i:It):C4:=match tn i with
 |0=> .itoa
 |1=> .Bg
 |2=> .atoi
 |3=> .C5
 |4=> .El
 |5=> .wD
 |_=> .itoa
def tP:It→Prim
 | .P x=> x
 |i=> match tn i with
  |0=> .indexByte
  |1=> .index
  |2=> .count
  |3=> .overlaps
  |4=> .vo
  |_=> .index
def acZ (k:Nat) (s:List It):List It:=match Nat.blt k 115 with
 |true=> match Nat.blt k 114 with
  |true=> match s with | a::r=> .x (.c (ta a))::r | s=> s
  |false=> .a (.nilsl)::s
 |false=> match Nat.blt k 116 with
  |true=> match s with | a::b::r=> .a (.kQ (tn a) (tn b))::r | s=> s
  |false=> match Nat.blt k 117 with
   |true=> match s with | a::b::r=> .a (.ifc (tn a) (ta b))::r | s=> s
   |false=> match s with | a::r=> .a (.agg (tl ta (.l (r.take (tn a)))))::r.drop (tn a) | s=> s
def ac0 (k:Nat) (s:List It):List It:=match Nat.blt k 113 with
 |true=> match Nat.blt k 111 with
  |true=> match Nat.blt k 110 with
   |true=> match s with | i::j::r=> .n (tn i*100+tn j)::r | s=> s
   |false=> match s with | i::r=> .l (r.take (tn i))::r.drop (tn i) | s=> s
  |false=> match Nat.blt k 112 with
   |true=> match s with | a::r=> .x (.c (.d (.i .i64 (.ofNat (tn a)))))::r | s=> s
   |false=> match s with | a::r=> .x (.c (.d (.i .i64 (.negSucc (tn a)))))::r | s=> s
 |false=> acZ k s
def ac1 (k:Nat) (s:List It):List It:=match Nat.blt k 124 with
 |true=> match Nat.blt k 123 with
  |true=> match s with | a::b::r=> .d (.i (tk a) (.ofNat (tn b)))::r | s=> s
  |false=> match s with | a::b::r=> .d (.i (tk a) (.negSucc (tn b)))::r | s=> s
 |false=> match Nat.blt k 125 with
  |true=> .d (.i .i64 0)::s
  |false=> match Nat.blt k 126 with
   |true=> .d (.i .u8 0)::s
   |false=> .d (.s [])::s
def ac2 (k:Nat) (s:List It):List It:=match Nat.blt k 122 with
 |true=> match Nat.blt k 120 with
  |true=> match Nat.blt k 119 with
   |true=> match s with | a::r=> .a (.tup (tl ta (.l (r.take (tn a)))))::r.drop (tn a) | s=> s
   |false=> .a (.und)::s
  |false=> match Nat.blt k 121 with
   |true=> .d (.b false)::s
   |false=> .d (.b true)::s
 |false=> ac1 k s
def P6 (k:Nat) (s:List It):List It:=match Nat.blt k 118 with
 |true=> ac0 k s
 |false=> ac2 k s
def ac3 (k:Nat) (s:List It):List It:=match Nat.blt k 133 with
 |true=> match Nat.blt k 132 with
  |true=> .d (.xN)::s
  |false=> .d (.nsl)::s
 |false=> match Nat.blt k 134 with
  |true=> match s with | a::b::c::r=> .d (.sl (tb a) (tn b) (tl td (.l (r.take (tn c)))))::r.drop (tn c) | s=> s
  |false=> match Nat.blt k 135 with
   |true=> match s with | a::c::b::r=> .d (.bx (tb a) (tl td (.l (r.take (tn b)))) (tn c))::r.drop (tn b) | s=> s
   |false=> match s with | a::b::c::r=> .d (.fn (tf a) (tl td b) (tl td (.l (r.take (tn c)))))::r.drop (tn c) | s=> s
def ac4 (k:Nat) (s:List It):List It:=match Nat.blt k 131 with
 |true=> match Nat.blt k 129 with
  |true=> match Nat.blt k 128 with
   |true=> match s with | a::r=> .d (.s (tl ty (.l (r.take (tn a)))))::r.drop (tn a) | s=> s
   |false=> .d (.sG)::s
  |false=> match Nat.blt k 130 with
   |true=> .d (.yj)::s
   |false=> .d (.nili)::s
 |false=> ac3 k s
def ac5 (k:Nat) (s:List It):List It:=match Nat.blt k 142 with
 |true=> match Nat.blt k 141 with
  |true=> match s with | a::b::r=> .o (.alloc (tn a) (tl ta (.l (r.take (tn b)))))::r.drop (tn b) | s=> s
  |false=> match s with | a::b::r=> .o (.box (tn a) (tx b))::r | s=> s
 |false=> match Nat.blt k 143 with
  |true=> match s with | a::b::r=> .o (.build (tl ta a) (tp (.l (r.take (tn b)))))::r.drop (tn b) | s=> s
  |false=> match Nat.blt k 144 with
   |true=> match s with | a::b::c::d::e::r=> .o (.bsl (tn a) (tn b) (tn c) (tl ta d) (tp (.l (r.take (tn e)))))::r.drop (tn e) | s=> s
   |false=> match s with | a::b::c::r=> .o (.load (tb a) (tn b) (tx c))::r | s=> s
def ac6 (k:Nat) (s:List It):List It:=match Nat.blt k 140 with
 |true=> match Nat.blt k 138 with
  |true=> match Nat.blt k 137 with
   |true=> match s with | a::b::r=> .d (.ifc (tn a) (td b))::r | s=> s
   |false=> match s with | a::r=> .d (.agg (tl td (.l (r.take (tn a)))))::r.drop (tn a) | s=> s
  |false=> match Nat.blt k 139 with
   |true=> match s with | a::r=> .o (.mv (tx a))::r | s=> s
   |false=> match s with | a::b::c::r=> .o (.pick (tx a) (tx b) (tx c))::r | s=> s
 |false=> ac5 k s
def P7 (k:Nat) (s:List It):List It:=match Nat.blt k 136 with
 |true=> ac4 k s
 |false=> ac6 k s
def P8 (k:Nat) (s:List It):List It:=match Nat.blt k 127 with
 |true=> P6 k s
 |false=> P7 k s
def ac7 (k:Nat) (s:List It):List It:=match Nat.blt k 151 with
 |true=> match Nat.blt k 150 with
  |true=> match s with | a::r=> .o (.cvS (tx a))::r | s=> s
  |false=> match s with | a::b::r=> .o (.cvP (tU a) (tx b))::r | s=> s
 |false=> match Nat.blt k 152 with
  |true=> match s with | a::b::r=> .o (.s2b (tn a) (tx b))::r | s=> s
  |false=> match Nat.blt k 153 with
   |true=> match s with | a::r=> .o (.b2s (tx a))::r | s=> s
   |false=> match s with | a::b::r=> .o (.Ol (tn a) (tx b))::r | s=> s
def ac8 (k:Nat) (s:List It):List It:=match Nat.blt k 149 with
 |true=> match Nat.blt k 147 with
  |true=> match Nat.blt k 146 with
   |true=> match s with | a::b::c::r=> .o (.store (tn a) (tx b) (tx c))::r | s=> s
   |false=> match s with | a::r=> .o (.Ew (tx a))::r | s=> s
  |false=> match Nat.blt k 148 with
   |true=> match s with | a::b::r=> .o (.un (tu a) (tx b))::r | s=> s
   |false=> match s with | a::b::r=> .o (.cvi (tk a) (tx b))::r | s=> s
 |false=> ac7 k s
def ac9 (k:Nat) (s:List It):List It:=match Nat.blt k 160 with
 |true=> match Nat.blt k 159 with
  |true=> match s with | a::b::c::r=> .o (.Ey (tx a) (tq b) (tq c))::r | s=> s
  |false=> match s with | a::b::c::d::e::f::r=> .o (.F8 (tn a) (tn b) (tx c) (tq d) (tq e) (tq f))::r | s=> s
 |false=> match Nat.blt k 161 with
  |true=> match s with | a::b::r=> .o (.Om (tn a) (tx b))::r | s=> s
  |false=> match Nat.blt k 162 with
   |true=> match s with | a::b::c::d::r=> .o (.fld (tn a) (tb b) (tn c) (tx d))::r | s=> s
   |false=> match s with | a::b::c::r=> .o (.iaS (tn a) (tx b) (tx c))::r | s=> s
def ac_ (k:Nat) (s:List It):List It:=match Nat.blt k 158 with
 |true=> match Nat.blt k 156 with
  |true=> match Nat.blt k 155 with
   |true=> match s with | a::b::c::r=> .o (.Mr (tf a) (tl tx b) (tl tx (.l (r.take (tn c)))))::r.drop (tn c) | s=> s
   |false=> .o (.IL)::s
  |false=> match Nat.blt k 157 with
   |true=> match s with | a::b::c::e::f::d::r=> .o (.IM (tn a) (tn b) (tn c) (tl ta (.l (r.take (tn d)))) (tx e) (tx f))::r.drop (tn d) | s=> s
   |false=> match s with | a::b::c::d::e::r=> .o (.Kc (tn a) (tx b) (tq c) (tq d) (tq e))::r | s=> s
 |false=> ac9 k s
def P9 (k:Nat) (s:List It):List It:=match Nat.blt k 154 with
 |true=> ac8 k s
 |false=> ac_ k s
def ada (k:Nat) (s:List It):List It:=match Nat.blt k 169 with
 |true=> match Nat.blt k 168 with
  |true=> match s with | a::b::c::d::r=> .o (.On (tK a) (tx b) (tx c) (tx d))::r | s=> s
  |false=> match s with | a::b::r=> .o (.rng (tb a) (tx b))::r | s=> s
 |false=> match Nat.blt k 170 with
  |true=> match s with | a::b::r=> .o (.nxt (tb a) (tx b))::r | s=> s
  |false=> match Nat.blt k 171 with
   |true=> match s with | a::r=> .o (.ent (tx a))::r | s=> s
   |false=> match s with | a::b::d::e::c::r=> .o (.tas (tn a) (tb b) (tl ta (.l (r.take (tn c)))) (tb d) (tx e))::r.drop (tn c) | s=> s
def adb (k:Nat) (s:List It):List It:=match Nat.blt k 167 with
 |true=> match Nat.blt k 165 with
  |true=> match Nat.blt k 164 with
   |true=> match s with | a::b::c::d::r=> .o (.iaA (tn a) (tn b) (tx c) (tx d))::r | s=> s
   |false=> match s with | a::b::c::d::e::f::r=> .o (.ixA (tn a) (tn b) (tb c) (tn d) (tx e) (tx f))::r | s=> s
  |false=> match Nat.blt k 166 with
   |true=> match s with | a::b::r=> .o (.ixS (tx a) (tx b))::r | s=> s
   |false=> match s with | a::b::d::e::f::c::r=> .o (.look (tK a) (tb b) (tl ta (.l (r.take (tn c)))) (tb d) (tx e) (tx f))::r.drop (tn c) | s=> s
 |false=> ada k s
def ade (k:Nat) (s:List It):List It:=match Nat.blt k 174 with
 |true=> match Nat.blt k 173 with
  |true=> match s with | a::b::r=> .o (.Oo (tx a) (tn b))::r | s=> s
  |false=> match s with | a::b::r=> .o (.F9 (tn a) (tl tx (.l (r.take (tn b)))))::r.drop (tn b) | s=> s
 |false=> match Nat.blt k 175 with
  |true=> match s with | a::b::r=> .o (.oU (tx a) (tl tx (.l (r.take (tn b)))))::r.drop (tn b) | s=> s
  |false=> match Nat.blt k 176 with
   |true=> match s with | a::b::c::r=> .o (.lib (tn a) (tL b) (tl tx (.l (r.take (tn c)))))::r.drop (tn c) | s=> s
   |false=> match s with | a::b::c::r=> .o (.Et (tn a) (tP b) (tl tx (.l (r.take (tn c)))))::r.drop (tn c) | s=> s
def adf (k:Nat) (s:List It):List It:=match Nat.blt k 179 with
 |true=> match Nat.blt k 178 with
  |true=> match s with | a::b::r=> .o (.len (tn a) (tx b))::r | s=> s
  |false=> match s with | a::r=> .o (.IN (tn a))::r | s=> s
 |false=> match Nat.blt k 180 with
  |true=> match s with | a::r=> .o (.cap (tx a))::r | s=> s
  |false=> match Nat.blt k 181 with
   |true=> match s with | a::b::c::d::e::f::r=> .o (.app (tn a) (tn b) (tn c) (tb d) (tx e) (tx f))::r | s=> s
   |false=> match s with | a::b::c::e::f::d::r=> .o (.Oq (tn a) (tn b) (tn c) (tl ta (.l (r.take (tn d)))) (tx e) (tx f))::r.drop (tn d) | s=> s
def P_ (k:Nat) (s:List It):List It:=match Nat.blt k 177 with
 |true=> ade k s
 |false=> adf k s
def Qa (k:Nat) (s:List It):List It:=match Nat.blt k 172 with
 |true=> adb k s
 |false=> P_ k s
def Qb (k:Nat) (s:List It):List It:=match Nat.blt k 163 with
 |true=> P9 k s
 |false=> Qa k s
def Qc (k:Nat) (s:List It):List It:=match Nat.blt k 145 with
 |true=> P8 k s
 |false=> Qb k s
def adg (k:Nat) (s:List It):List It:=match Nat.blt k 188 with
 |true=> match Nat.blt k 187 with
  |true=> match s with | a::r=> .o (.panic (tx a))::r | s=> s
  |false=> .o (.uT)::s
 |false=> match Nat.blt k 189 with
  |true=> match s with | a::b::r=> .o (.dfr (tx a) (tl tx (.l (r.take (tn b)))))::r.drop (tn b) | s=> s
  |false=> match Nat.blt k 190 with
   |true=> match s with | a::r=> .o (.ssd (tx a))::r | s=> s
   |false=> match s with | a::b::c::r=> .o (.uss (tn a) (tx b) (tx c))::r | s=> s
def adh (k:Nat) (s:List It):List It:=match Nat.blt k 186 with
 |true=> match Nat.blt k 184 with
  |true=> match Nat.blt k 183 with
   |true=> match s with | a::b::c::r=> .o (.copy (tn a) (tx b) (tx c))::r | s=> s
   |false=> match s with | a::b::c::r=> .o (.del (tK a) (tx b) (tx c))::r | s=> s
  |false=> match Nat.blt k 185 with
   |true=> match s with | a::r=> .o (.mn (tl tx (.l (r.take (tn a)))))::r.drop (tn a) | s=> s
   |false=> match s with | a::r=> .o (.mx (tl tx (.l (r.take (tn a)))))::r.drop (tn a) | s=> s
 |false=> adg k s
def adi (k:Nat) (s:List It):List It:=match Nat.blt k 197 with
 |true=> match Nat.blt k 196 with
  |true=> match s with | a::b::c::d::r=> .o (.F_ (tn a) (tn b) (tx c) (tx d))::r | s=> s
  |false=> match s with | a::r=> .o (.i2s (tx a))::r | s=> s
 |false=> match Nat.blt k 198 with
  |true=> match s with | a::b::r=> .o (.s2a (tn a) (tx b))::r | s=> s
  |false=> match Nat.blt k 199 with
   |true=> match s with | a::c::b::r=> .o (.clr (tn a) (tl ta (.l (r.take (tn b)))) (tx c))::r.drop (tn b) | s=> s
   |false=> .o (.bad)::s
def adj (k:Nat) (s:List It):List It:=match Nat.blt k 195 with
 |true=> match Nat.blt k 193 with
  |true=> match Nat.blt k 192 with
   |true=> match s with | a::b::c::d::e::f::r=> .o (.clone (tn a) (tn b) (tn c) (tn d) (tb e) (tx f))::r | s=> s
   |false=> match s with | a::b::c::d::e::r=> .o (.grow (tn a) (tn b) (tb c) (tx d) (tx e))::r | s=> s
  |false=> match Nat.blt k 194 with
   |true=> match s with | a::b::c::d::e::r=> .o (.Be (tn a) (tn b) (tx c) (tx d) (tx e))::r | s=> s
   |false=> match s with | a::b::d::e::f::c::r=> .o (.Ms (tn a) (tn b) (tl ta (.l (r.take (tn c)))) (tx d) (tx e) (tx f))::r.drop (tn c) | s=> s
 |false=> adi k s
def Qd (k:Nat) (s:List It):List It:=match Nat.blt k 191 with
 |true=> adh k s
 |false=> adj k s
def adk (k:Nat) (s:List It):List It:=match Nat.blt k 206 with
 |true=> match Nat.blt k 205 with
  |true=> match s with | a::b::r=> .o (.bin .quo .bad (tx a) (tx b))::r | s=> s
  |false=> match s with | a::b::r=> .o (.bin .rem .bad (tx a) (tx b))::r | s=> s
 |false=> match Nat.blt k 207 with
  |true=> match s with | a::b::r=> .o (.bin .and .bad (tx a) (tx b))::r | s=> s
  |false=> match Nat.blt k 208 with
   |true=> match s with | a::b::r=> .o (.bin .or .bad (tx a) (tx b))::r | s=> s
   |false=> match s with | a::b::r=> .o (.bin .xor .bad (tx a) (tx b))::r | s=> s
def adl (k:Nat) (s:List It):List It:=match Nat.blt k 204 with
 |true=> match Nat.blt k 202 with
  |true=> match Nat.blt k 201 with
   |true=> match s with | a::b::c::r=> .o (.inv (tx a) (tM b) (tl tx (.l (r.take (tn c)))))::r.drop (tn c) | s=> s
   |false=> match s with | a::b::r=> .o (.bin .add .bad (tx a) (tx b))::r | s=> s
  |false=> match Nat.blt k 203 with
   |true=> match s with | a::b::r=> .o (.bin .sub .bad (tx a) (tx b))::r | s=> s
   |false=> match s with | a::b::r=> .o (.bin .mul .bad (tx a) (tx b))::r | s=> s
 |false=> adk k s
def adn (k:Nat) (s:List It):List It:=match Nat.blt k 211 with
 |true=> match Nat.blt k 210 with
  |true=> match s with | a::b::r=> .o (.bin .shl .bad (tx a) (tx b))::r | s=> s
  |false=> match s with | a::b::r=> .o (.bin .shr .bad (tx a) (tx b))::r | s=> s
 |false=> match Nat.blt k 212 with
  |true=> match s with | a::b::r=> .o (.bin .andNot .bad (tx a) (tx b))::r | s=> s
  |false=> match Nat.blt k 213 with
   |true=> match s with | a::b::r=> .o (.bin .eql .bad (tx a) (tx b))::r | s=> s
   |false=> match s with | a::b::r=> .o (.bin .neq .bad (tx a) (tx b))::r | s=> s
def ado (k:Nat) (s:List It):List It:=match Nat.blt k 216 with
 |true=> match Nat.blt k 215 with
  |true=> match s with | a::b::r=> .o (.bin .lss .bad (tx a) (tx b))::r | s=> s
  |false=> match s with | a::b::r=> .o (.bin .leq .bad (tx a) (tx b))::r | s=> s
 |false=> match Nat.blt k 217 with
  |true=> match s with | a::b::r=> .o (.bin .gtr .bad (tx a) (tx b))::r | s=> s
  |false=> match Nat.blt k 218 with
   |true=> match s with | a::b::r=> .o (.bin .geq .bad (tx a) (tx b))::r | s=> s
   |false=> match s with | a::b::c::d::r=> .o (.bin (tB a) (te b) (tx c) (tx d))::r | s=> s
def Qe (k:Nat) (s:List It):List It:=match Nat.blt k 214 with
 |true=> adn k s
 |false=> ado k s
def Qf (k:Nat) (s:List It):List It:=match Nat.blt k 209 with
 |true=> adl k s
 |false=> Qe k s
def Qg (k:Nat) (s:List It):List It:=match Nat.blt k 200 with
 |true=> Qd k s
 |false=> Qf k s
def adp (k:Nat) (s:List It):List It:=match Nat.blt k 225 with
 |true=> match Nat.blt k 224 with
  |true=> match s with | a::b::r=> .O (⟨some (tn a),(to b),none⟩)::r | s=> s
  |false=> match s with | a::b::c::d::r=> .O (⟨some (tn a),(to b),some ((tn c),(tb d))⟩)::r | s=> s
 |false=> match Nat.blt k 226 with
  |true=> match s with | a::r=> .O (⟨none,(to a),none⟩)::r | s=> s
  |false=> match Nat.blt k 227 with
   |true=> match s with | a::b::c::r=> .O (⟨none,(to a),some ((tn b),(tb c))⟩)::r | s=> s
   |false=> match s with | a::b::r=> .W (⟨(tO a),(tn b),false,[],none⟩)::r | s=> s
def adq (k:Nat) (s:List It):List It:=match Nat.blt k 223 with
 |true=> match Nat.blt k 221 with
  |true=> match Nat.blt k 220 with
   |true=> match s with | a::b::r=> .O (⟨some (tn a),.mv (.t (tn b)),none⟩)::r | s=> s
   |false=> match s with | a::b::c::d::r=> .O (⟨some (tn a),.mv (.t (tn b)),some ((tn c),(tb d))⟩)::r | s=> s
  |false=> match Nat.blt k 222 with
   |true=> match s with | a::b::r=> .O (⟨some (tn a),.load false 1 (.t (tn b)),none⟩)::r | s=> s
   |false=> match s with | a::b::c::d::r=> .O (⟨some (tn a),.load false 1 (.t (tn b)),some ((tn c),(tb d))⟩)::r | s=> s
 |false=> adp k s
def adr (k:Nat) (s:List It):List It:=match Nat.blt k 234 with
 |true=> match Nat.blt k 233 with
  |true=> match s with | a::b::r=> .c (.Fz (tn a) (tl tW (.l (r.take (tn b)))))::r.drop (tn b) | s=> s
  |false=> match s with | a::b::r=> .c (.seq (tc a) (tc b))::r | s=> s
 |false=> match Nat.blt k 235 with
  |true=> match s with | a::b::c::r=> .c (.cond (tx a) (tc b) (tc c))::r | s=> s
  |false=> match Nat.blt k 236 with
   |true=> match s with | a::b::r=> .c (.blk (tn a) (tc b))::r | s=> s
   |false=> match s with | a::r=> .c (.loop (tc a))::r | s=> s
def ads (k:Nat) (s:List It):List It:=match Nat.blt k 232 with
 |true=> match Nat.blt k 230 with
  |true=> match Nat.blt k 229 with
   |true=> match s with | a::b::r=> .W (⟨(tO a),(tn b),true,[],none⟩)::r | s=> s
   |false=> match s with | a::b::c::e::d::r=> .W (⟨(tO a),(tn b),(tb c),(tl tn (.l (r.take (tn d)))),(tr e)⟩)::r.drop (tn d) | s=> s
  |false=> match Nat.blt k 231 with
   |true=> .c (.skip)::s
   |false=> match s with | a::r=> .c (.reg (tl tO (.l (r.take (tn a)))))::r.drop (tn a) | s=> s
 |false=> adr k s
def Qh (k:Nat) (s:List It):List It:=match Nat.blt k 228 with
 |true=> adq k s
 |false=> ads k s
def adt (k:Nat) (s:List It):List It:=match Nat.blt k 243 with
 |true=> match Nat.blt k 242 with
  |true=> match s with | a::c::d::b::r=> .F (⟨(tn a),(tl tv (.l (r.take (tn b)))),(tc c),(tb d)⟩)::r.drop (tn b) | s=> s
  |false=> .e (.bool)::s
 |false=> match Nat.blt k 244 with
  |true=> .e (.ptr)::s
  |false=> match Nat.blt k 245 with
   |true=> .e (.iface)::s
   |false=> match s with | a::r=> .e (.flat (tl tT (.l (r.take (tn a)))))::r.drop (tn a) | s=> s
def adu (k:Nat) (s:List It):List It:=match Nat.blt k 241 with
 |true=> match Nat.blt k 239 with
  |true=> match Nat.blt k 238 with
   |true=> match s with | a::c::d::b::r=> .c (.yt (tx a) (tl tn (.l (r.take (tn b)))) (tc c) (tc d))::r.drop (tn b) | s=> s
   |false=> match s with | a::r=> .c (.exit (tn a))::r | s=> s
  |false=> match Nat.blt k 240 with
   |true=> .c (.ret)::s
   |false=> .c (.bad)::s
 |false=> adt k s
def adw (k:Nat) (s:List It):List It:=match Nat.blt k 248 with
 |true=> match Nat.blt k 247 with
  |true=> .e (.J_)::s
  |false=> .e (.Ka)::s
 |false=> match Nat.blt k 249 with
  |true=> .e (.Kb)::s
  |false=> match Nat.blt k 250 with
   |true=> match s with | a::r=> .K (.one (tT a))::r | s=> s
   |false=> match s with | a::r=> .K (.many (tl tT (.l (r.take (tn a)))))::r.drop (tn a) | s=> s
def adx (k:Nat) (s:List It):List It:=match Nat.blt k 253 with
 |true=> match Nat.blt k 252 with
  |true=> match s with | a::r=> .f (.func (tn a))::r | s=> s
  |false=> match s with | a::r=> .f (.yield (tn a))::r | s=> s
 |false=> match Nat.blt k 254 with
  |true=> match s with | a::r=> .v (.tmp (tn a))::r | s=> s
  |false=> match Nat.blt k 255 with
   |true=> match s with | a::b::c::r=> .v (.cell (tn a) (tb b) (tn c))::r | s=> s
   |false=> match s with | a::r=> .P (.makeNoZero (tn a))::r | s=> s
def Qi (k:Nat) (s:List It):List It:=match Nat.blt k 251 with
 |true=> adw k s
 |false=> adx k s
def Qj (k:Nat) (s:List It):List It:=match Nat.blt k 246 with
 |true=> adu k s
 |false=> Qi k s
def Qk (k:Nat) (s:List It):List It:=match Nat.blt k 237 with
 |true=> Qh k s
 |false=> Qj k s
def Ql (k:Nat) (s:List It):List It:=match Nat.blt k 219 with
 |true=> Qg k s
 |false=> Qk k s
def Qm (k:Nat) (s:List It):List It:=match Nat.blt k 182 with
 |true=> Qc k s
 |false=> Ql k s
def step (k:Nat) (s:List It):List It:=match Nat.blt k 109 with
|true=> .n k::s
|false=> Qm k s
def run (k:Nat):Nat→List It→List It:=Nat.rec (motive:=fun _=> Nat→List It→List It) (fun N s=> step N s) (fun k ih N s=> ih (Nat.div N (Nat.pow 256 (Nat.pow 2 k))) (ih (Nat.mod N (Nat.pow 256 (Nat.pow 2 k))) s)) k
def fn (k p N:Nat):AFn:=match run k (Nat.mul N (Nat.pow 256 p)) [] with
 | .F a::_=> a
 |_=> ⟨0,[],.bad,false⟩
end Dec
end Go.Abs

namespace Go.Abs
noncomputable section
def Ev.ady:Ev→Bool
 | .op s _ _=> match s with
  | .val _ _=> true
  |_=> false
 |_=> false
def Ev.opV:Ev→AV
 | .op s _ _=> match s with
  | .val v _=> v
  |_=> .und
 |_=> .und
def Ev.opW:Ev→Heap
 | .op s _ _=> match s with
  | .val _ h=> h
  |_=> .empty
 |_=> .empty
section
variable {E : Env} {Q : Ex → List AV → Heap → Prop} {c : Cfg}
theorem W.opR (he:(adO E c).p (adv E c).ady=(adO E c).q true) (w:W E Q ((adv E c).Fv (adv E c).opV (adv E c).opW)):W E Q c:=by
 obtain ⟨ho,he⟩:=rM.pq he
 constructor
 refine p8 100000 _ ho ?_
 show evW E Q (adv E c)
 revert w he
 cases adv E c <;> intro w he <;> try cases he
 rename_i s h k
 cases s <;> try cases he
 rename_i v h'
 exact ⟨v,h',rfl,w.s⟩
def Res.tm (r:Res):List AV:=match r with
 |some (_,fr,_)=> fr.tmps
 |none=> []
def Res.h (r:Res):Heap:=match r with
 |some (_,_,h)=> h
 |none=> .empty
def Ev.strip:Ev→Option (FuncId×List DV×Bool)
 | .call _ f l h _=> match stripArgs h l with
  |some (ds,b)=> some (f,ds,b)
  |none=> none
 |_=> none
theorem W.calls {f:FuncId} {ds:List DV} {bor:Bool} {v:AV} (hc:∀h args,stripArgs h args=some (ds,bor)→Cal E f args h (.nrm,v,h)) (he:(adO E c).p (adv E c).strip=(adO E c).q (some (f,ds,bor))) (w:W E Q ((adv E c).Fv v (adv E c).PY)):W E Q c:=by
 obtain ⟨ho,he⟩:=rM.pq he
 constructor
 refine p8 100000 _ ho ?_
 show evW E Q (adv E c)
 generalize adv E c=e0 at he w
 cases e0 with
 |call p' f' l h k=>
  have he:(match stripArgs h l with | some (ds,b)=> some (f',ds,b) | none=> none)=some (f,ds,bor):=he
  cases hs:stripArgs h l with
  |none=> rw [hs] at he; cases he
  |some r=>
   obtain ⟨ds',b'⟩:=r
   rw [hs] at he
   injection he with he
   injection he with e1 e2
   injection e2 with e2 e3
   subst e1 e2 e3
   exact .inl ⟨v,h,hc h l hs,w.s⟩
 |_=> cases he
end
end
mutual
def okV:ValS→Prop
 | .mk k n _ l=> R8 k∧R64 n∧okVs l
def okVs:List ValS→Prop
 |[]=> True
 |v::l=> okV v∧okVs l
end
mutual
def Bi:ValS→Prop
 | .mk _ _ _ l=> l.length≤9223372036854775807∧F6 l
def F6:List ValS→Prop
 |[]=> True
 |v::l=> Bi v∧F6 l
end
theorem yY:∀{l:List ValS},F6 l→∀(i:Nat) (hi:i < l.length),Bi l[i]
 |_::_,h,0,_=> h.1
 |_::l,h,i+1,hi=> yY (l:=l) h.2 i (by simpa using hi)
end Go.Abs

namespace Go.Abs
noncomputable section
def Cfg.Qn (k:Nat) (c:Cfg):Bool:=match c with
 | .run _ ks _ _ _=> Nat.beq ks.length k
 |_=> false
def Du (E : Env) (k n : Nat) (c : Cfg) : rM := Nat.rec (motive := fun _ => Cfg → rM) (fun c => ⟨[],[],.go c⟩) (fun _ ih c => match step1 E c with
 | .go c'=> match Cfg.Qn k c' with
  |true=> ⟨[],[],.go c'⟩
  |false=> ih c'
 | .chk a b c'=> rM.add a b (ih c')
 |_=> ⟨[],[],.stuck⟩) n c
def Ev.tmT:Ev→List AV
 | .go c=> match c with
  | .run _ _ _ tm _=> tm
  |_=> []
 |_=> []
section
variable {E : Env} {Q : Ex → List AV → Heap → Prop}
theorem Si (k:Nat):∀(n:Nat) (c:Cfg),(Du E k n c).a=(Du E k n c).b→evW E Q (Du E k n c).e→Wd E Q c:=by
 intro n
 induction n with
 |zero=> intro c _ he; exact he
 |succ n ih=>
  intro c ho he
  have hd:Du E k (n+1) c=(match step1 E c with | .go c'=> (match Cfg.Qn k c' with | true=> ⟨[],[],.go c'⟩ | false=> Du E k n c') | .chk a b c'=> rM.add a b (Du E k n c') | _=> ⟨[],[],.stuck⟩):=rfl
  rw [hd] at ho he
  apply JM
  split at he
  ·rename_i c' hc
   rw [hc] at ho ⊢
   simp only at ho he
   cases ht:Cfg.Qn k c' with
   |true=> rw [ht] at he; exact he
   |false=> rw [ht] at ho he; exact ih c' ho he
  ·rename_i a b c' hc
   rw [hc] at ho ⊢
   have ho:a::(Du E k n c').a=b::(Du E k n c').b:=ho
   injection ho with h1 h2
   exact ⟨h1,ih c' h2 he⟩
  ·exact he.elim
theorem W.any {c:AC} {ks:List KF} {m:Bool} {d:Dec} {tm:List AV} {h:Heap} (w:W E Q (.run c ks ⟨m,[]⟩ tm h)):W E Q (.run c ks d tm h):=⟨fun _=> w.s (fun _ hp=> by cases hp)⟩
def Ev.adz:Ev→Option (AC×List KF×Heap)
 | .go c=> match c with
  | .run a ks _ _ h=> some (a,ks,h)
  |_=> none
 |_=> none
theorem W.top {c:Cfg} (m:Bool) (k:Nat) (a:AC) (ks:List KF) (h:Heap) (he:(Du E k 100000 c).p (Du E k 100000 c).e.adz=(Du E k 100000 c).q (some (a,ks,h)))
  (w:W E Q (.run a ks ⟨m,[]⟩ (Du E k 100000 c).e.tmT h)):W E Q c:=by
 obtain ⟨ho,he⟩:=rM.pq he
 constructor
 refine Si k 100000 _ ho ?_
 generalize (Du E k 100000 c).e=e0 at he w
 cases e0 with
 |go c0=>
  cases c0 with
  |run a' ks' d tm h1=>
   have he:some (a',ks',h1)=some (a,ks,h):=he
   cases he
   exact (W.any (d:=d) w).s
  |_=> cases he
 |_=> cases he
def tl (c : AC) (n : Nat) : AC := Nat.rec (motive := fun _ => AC → AC) (fun c => c) (fun _ ih c => match c with
 | .seq _ b=> ih b
 |c=> c) n c
end
end
end Go.Abs

namespace Go.Abs
noncomputable section
section
variable {E : Env} (ds : List (AV × List AV))
def FK (k:Fr→Heap→Res):Prop:=∀tm d0 h ex fr h',k ⟨tm,d0,none⟩ h=some (ex,fr,h')→fr.pan=none∧k ⟨tm,d0++ds,none⟩ h=some (ex,⟨fr.tmps,fr.defs++ds,none⟩,h')
variable {ds}
theorem xB (tm:List AV) (d0:List (AV×List AV)) (dst:Option Nat) (v:AV):∃tm',∀d,lW ⟨tm,d,none⟩ dst v=⟨tm',d,none⟩:=by
 cases dst with
 |none=> exact ⟨tm,fun _=> rfl⟩
 |some d=> exact ⟨setL tm d v,fun _=> rfl⟩
theorem Ii {k:Fr→Heap→Res} (hk:FK ds k) (dst:Option Nat) (r:G5):FK ds (fun fr _=> C9 fr dst k r):=by
 intro tm d0 h ex fr h' he
 cases r with
 |none=> cases he
 |some p=>
  obtain ⟨ex1,v,h1⟩:=p
  cases ex1 with
  |nrm=>
   obtain ⟨tm',ht⟩:=xB tm d0 dst v
   have he:k (lW ⟨tm,d0,none⟩ dst v) h1=some (ex,fr,h'):=he
   rw [ht] at he
   have:=hk _ _ _ _ _ _ he
   refine ⟨this.1,?_⟩
   show k (lW ⟨tm,d0++ds,none⟩ dst v) h1=_
   rw [ht]
   exact this.2
  |pan v=> cases he; exact ⟨rfl,rfl⟩
  |exit j=> cases he
  |ret=> cases he
theorem Sj {fP:AC→Fr→Heap→Res} {k:Fr→Heap→Res} (hk:FK ds k) (s:St1) (dst:Option Nat):FK ds (fun fr h=> Ai E fP s fr h dst k):=by
 intro tm d0 h ex fr h' he
 cases s with
 |val v h1=>
  obtain ⟨tm',ht⟩:=xB tm d0 dst v
  simp only [Ai,ht] at he ⊢
  exact hk _ _ _ _ _ _ he
 |call f args=> exact Ii hk dst _ _ _ h _ _ _ he
 |yield l args=> exact Ii hk dst _ _ _ h _ _ _ he
 |pan v=> cases he; exact ⟨rfl,rfl⟩
 |uT=>
  obtain ⟨tm',ht⟩:=xB tm d0 dst (.d .nili)
  simp only [Ai,D_,ht] at he ⊢
  exact hk _ _ _ _ _ _ he
 |dfr f args=>
  obtain ⟨tm',ht⟩:=xB tm d0 dst .und
  simp only [Ai,ht] at he ⊢
  exact hk _ ((f,args)::d0) _ _ _ _ he
 |bad=> cases he
theorem Sk {fP:AC→Fr→Heap→Res} {k:Fr→Heap→Res} (hk:FK ds k) (o:AOp):FK ds (yu E fP o k):=by
 intro tm d0 h ex fr h' he
 obtain ⟨dst,op,g⟩:=o
 simp only [yu] at he ⊢
 split at he
 ·exact Sj hk _ _ _ _ _ _ _ _ he
 ·obtain ⟨tm',ht⟩:=xB tm d0 dst .und
  simp only [ht] at he ⊢
  exact hk _ _ _ _ _ _ he
theorem Nj {fP:AC→Fr→Heap→Res} (l:List AOp):FK ds (qy E fP l):=by
 induction l with
 |nil=> intro tm d0 h ex fr h' he; cases he; exact ⟨rfl,rfl⟩
 |cons o r ih=> exact Sk ih o
theorem Qo {d:DOp} {n0:Nat} {k:List (Nat×Heap)→Fr→Heap→Res} (hk:∀sn,FK ds (k sn)) (sn:List (Nat×Heap)):FK ds (doP E d n0 k sn):=by
 intro tm d0 h ex fr h' he
 have put:∀{sn:List (Nat×Heap)} {v:AV} {h1:Heap},k sn (lW ⟨tm,d0,none⟩ d.o.dst v) h1=some (ex,fr,h')→fr.pan=none∧k sn (lW ⟨tm,d0++ds,none⟩ d.o.dst v) h1=some (ex,⟨fr.tmps,fr.defs++ds,none⟩,h'):=by
  intro sn v h1 he
  obtain ⟨tm',ht⟩:=xB tm d0 d.o.dst v
  simp only [ht] at he ⊢
  exact hk _ _ _ _ _ _ _ he
 revert he
 unfold doP
 cases d.rsv with
 |some r=>
  dsimp only
  cases pR d.o.op tm (n0+r) with
  |none=> intro he; cases he
  |some q=> intro he; exact put he
 |none=>
  dsimp only
  cases still d.o.op with
  |false=> intro he; cases he
  |true=>
   dsimp only
   cases gI d.o.op E h tm with
   |val v h1=>
    dsimp only
    cases mI tm d.o.op with
    |false=> intro he; exact put he
    |true=>
     dsimp only
     cases pE E tm d.o.op v d.bnd sn with
     |false=> intro he; cases he
     |true=> intro he; exact put he
   |_=> intro he; cases he
theorem Sl {n0 j:Nat} (l:List DOp):∀sn,FK ds (yR E n0 j l sn):=by
 induction l with
 |nil=> intro sn tm d0 h ex fr h' he; cases he; exact ⟨rfl,rfl⟩
 |cons d r ih=>
  intro sn tm d0 h ex fr h' he
  have he : (match d.eff || vQ j d.bnd with
   |true=> yR E n0 j r sn (lW ⟨tm,d0,none⟩ d.o.dst .und) h
   |false=> match wanted tm d.o.guard with
    |true=> doP E d n0 (yR E n0 j r) sn ⟨tm,d0,none⟩ h
    |false=> yR E n0 j r sn (lW ⟨tm,d0,none⟩ d.o.dst .und) h)=some (ex,fr,h'):=he
  show fr.pan = none ∧ (match d.eff || vQ j d.bnd with
   |true=> yR E n0 j r sn (lW ⟨tm,d0++ds,none⟩ d.o.dst .und) h
   |false=> match wanted tm d.o.guard with
    |true=> doP E d n0 (yR E n0 j r) sn ⟨tm,d0++ds,none⟩ h
    |false=> yR E n0 j r sn (lW ⟨tm,d0++ds,none⟩ d.o.dst .und) h)=_
  obtain ⟨tm',ht⟩:=xB tm d0 d.o.dst .und
  simp only [ht] at he ⊢
  split
  ·rename_i hc
   rw [hc] at he
   exact ih _ _ _ _ _ _ _ he
  ·rename_i hc
   rw [hc] at he
   dsimp only at he
   split
   ·rename_i hw
    rw [hw] at he
    exact Qo ih _ _ _ _ _ _ _ he
   ·rename_i hw
    rw [hw] at he
    exact ih _ _ _ _ _ _ _ he
theorem Vd {fP:AC→Fr→Heap→Res} {d:DOp} {n0:Nat} {L:List DOp} {k:List (Nat×Heap)→Fr→Heap→Res} (hk:∀sn,FK ds (k sn)) (sn:List (Nat×Heap)):FK ds (doD E fP d n0 L k sn):=by
 intro tm d0 h ex fr h' he
 have put:∀{sn:List (Nat×Heap)} {v:AV} {h1:Heap},k sn (lW ⟨tm,d0,none⟩ d.o.dst v) h1=some (ex,fr,h')→fr.pan=none∧k sn (lW ⟨tm,d0++ds,none⟩ d.o.dst v) h1=some (ex,⟨fr.tmps,fr.defs++ds,none⟩,h'):=by
  intro sn v h1 he
  obtain ⟨tm',ht⟩:=xB tm d0 d.o.dst v
  simp only [ht] at he ⊢
  exact hk _ _ _ _ _ _ _ he
 have he : (match wanted tm d.o.guard with
  | true => (match d.eff with
   |false=> doP E d n0 k sn ⟨tm,d0,none⟩ h
   |true=> doE E fP (gI d.o.op E h tm) ⟨tm,d0,none⟩ h d.o.dst (fun fr' h'=> k ((d.no,h')::sn) fr' h') (fun fr' h'=> yR E n0 d.no L sn fr' h'))
  |false=> k sn (lW ⟨tm,d0,none⟩ d.o.dst .und) h)=some (ex,fr,h'):=he
 show fr.pan = none ∧ (match wanted tm d.o.guard with
  | true => (match d.eff with
   |false=> doP E d n0 k sn ⟨tm,d0++ds,none⟩ h
   |true=> doE E fP (gI d.o.op E h tm) ⟨tm,d0++ds,none⟩ h d.o.dst (fun fr' h'=> k ((d.no,h')::sn) fr' h') (fun fr' h'=> yR E n0 d.no L sn fr' h'))
  |false=> k sn (lW ⟨tm,d0++ds,none⟩ d.o.dst .und) h)=_
 revert he
 cases wanted tm d.o.guard with
 |false=> intro he; exact put he
 |true=>
  cases d.eff with
  |false=> intro he; exact Qo hk _ _ _ _ _ _ _ he
  |true=>
   cases gI d.o.op E h tm with
   |val v h1=> intro he; exact put he
   |call f args=>
    simp only [doE]
    split
    ·intro he; exact put he
    ·split
     ·rename_i R hp
      intro he
      cases he
      obtain ⟨tm',ht⟩:=xB tm d0 d.o.dst .und
      simp only [ht] at hp ⊢
      obtain ⟨ex2,fr2,h2⟩:=R
      obtain ⟨_,q⟩:=Sl (ds:=ds) L _ _ _ _ _ _ _ hp
      simp only [q]
      exact ⟨trivial,trivial⟩
     ·intro he; cases he
    ·intro he; cases he
   |yield l args=>
    simp only [doE]
    split
    ·intro he; exact put he
    ·intro he; cases he
   |_=> intro he; cases he
theorem KV {fP:AC→Fr→Heap→Res} {n0:Nat} (l:List DOp):∀sn,FK ds (oM E fP n0 l sn):=by
 induction l with
 |nil=> intro sn tm d0 h ex fr h' he; cases he; exact ⟨rfl,rfl⟩
 |cons d r ih=> intro sn; exact Vd ih sn
theorem L6 {r0 r1:Res} {k:Fr→Heap→Res} (hk:FK ds k) {ex:Ex} {fr:Fr} {h':Heap} (hr:∀ex fr h',r0=some (ex,fr,h')→fr.pan=none∧r1=some (ex,⟨fr.tmps,fr.defs++ds,none⟩,h')) (he:Ae k r0=some (ex,fr,h')):
  fr.pan=none∧Ae k r1=some (ex,⟨fr.tmps,fr.defs++ds,none⟩,h'):=by
 cases r0 with
 |none=> cases he
 |some r=>
  obtain ⟨ex1,fr1,h1⟩:=r
  obtain ⟨hp,h2⟩:=hr _ _ _ rfl
  obtain ⟨tm1,d1,p1⟩:=fr1
  simp only at hp
  subst hp
  rw [h2]
  cases ex1 with
  |nrm=> exact hk _ _ _ _ _ _ he
  |exit j=> cases he; exact ⟨rfl,rfl⟩
  |ret=> cases he; exact ⟨rfl,rfl⟩
  |pan v=> cases he; exact ⟨rfl,rfl⟩
theorem Sm:∀(n:Nat) (c:AC),FK ds (mz E n c):=by
 intro n
 induction n with
 |zero=> intro c tm d0 h ex fr h' he; cases he
 |succ n ih=>
  intro c tm d0 h ex fr h' he
  rw [mY] at he ⊢
  cases c with
  |skip=> cases he; exact ⟨rfl,rfl⟩
  |reg l=> exact Nj l _ _ _ _ _ _ he
  |Fz m l=> exact KV l _ _ _ _ _ _ _ he
  |seq a b=> exact L6 (ih b) (fun _ _ _ hr=> ih a _ _ _ _ _ _ hr) he
  |cond x a b=>
   simp only [oW,condC] at he ⊢
   split at he
   ·split at he
    ·exact ih a _ _ _ _ _ _ he
    ·exact ih b _ _ _ _ _ _ he
   ·cases he
  |blk id a=>
   simp only [oW] at he ⊢
   cases hr:mz E n a ⟨tm,d0,none⟩ h with
   |none=> rw [hr] at he; cases he
   |some r=>
    obtain ⟨ex1,fr1,h1⟩:=r
    obtain ⟨hp,h2⟩:=ih a _ _ _ _ _ _ hr
    rw [hr] at he
    rw [h2]
    unfold Ch at he ⊢
    cases ex1 with
    |exit j=>
     simp only at he ⊢
     split at he <;> (cases he; exact ⟨hp,rfl⟩)
    |nrm=> cases he; exact ⟨hp,rfl⟩
    |ret=> cases he; exact ⟨hp,rfl⟩
    |pan v=> cases he; exact ⟨hp,rfl⟩
  |loop a=> exact L6 (ih (.loop a)) (fun _ _ _ hr=> ih a _ _ _ _ _ _ hr) he
  |yt g ps asg body=>
   simp only [oW,Lj] at he ⊢
   split at he
   ·rename_i f args ht
    refine Ii (k:=endLoop h.n) ?_ none _ _ _ h _ _ _ he
    intro tm d0 h1 ex fr h' he
    unfold endLoop at he ⊢
    split at he
    ·split at he
     ·cases he
     ·rename_i hb
      split at he <;> (cases he; exact ⟨rfl,by simp only [hb]⟩)
    ·cases he
   ·cases he
  |exit id=> cases he; exact ⟨rfl,rfl⟩
  |ret=> cases he; exact ⟨rfl,rfl⟩
  |bad=> cases he
theorem JP {R:AC} {dst:Nat} {tm:List AV} {p:Option AV} {h:Heap} {Q:Ex→List AV→Heap→Prop} (w:wpC E R (setL tm dst (p.getD (.d .nili))) h Q):
  ∃n ex tm' h',mz E n (.seq (.reg [⟨some dst,.uT,none⟩]) R) ⟨tm,[],p⟩ h=some (ex,⟨tm',[],none⟩,h')∧Q ex tm' h':=by
 obtain ⟨n,ex,fr',h',hr,tm',rfl,q⟩:=w
 refine ⟨n+2,ex,tm',h',?_,q⟩
 have h1:mz E (n+1) (.reg [⟨some dst,.uT,none⟩]) ⟨tm,[],p⟩ h=some (.nrm,⟨setL tm dst (p.getD (.d .nili)),[],none⟩,h):=by
  cases p <;> rfl
 rw [mY]
 simp only [oW,h1,Ae]
 exact pZ (Nat.le_succ n) _ _ _ _ hr
theorem Cal.defer {f g dst:Nat} {fn gn:AFn} {A B R S:AC} {args l:List AV} {h h0 h1:Heap} {tm0 tm1:List AV} {gf:AV} {N:AV→Heap→Prop} (hf:E.fn f=some fn) (hs:fn.ref=true∨stripArgs h args=none) (hb:fn.body= .seq A (.seq B R))
  (ha:mz E 100 A ⟨enterT fn.ntmps args,[],none⟩ h=some (.nrm,⟨tm0,[],none⟩,h0)) (hbb:mz E 100 B ⟨tm0,[],none⟩ h0=some (.nrm,⟨tm1,[(gf,[])],none⟩,h1)) (ht:tgt gf []= .call g l) (hg:E.fn g=some gn)
  (hgb:gn.body= .seq (.reg [⟨some dst,.uT,none⟩]) S)
  (w : W E (fun ex tm2 h2 => ∃ p : Option AV,((ex = .nrm ∨ ex = .ret) ∧ p = none ∨ ∃ v,ex = .pan v ∧ p = some v) ∧ K8 ex tm2 = false ∧
   W E (fun ex2 tm3 h3=> (ex2= .nrm∨ex2= .ret)∧(∃v2,results E h3 tm3 gn.results=some v2)∧∃v,results E h3 tm2 fn.results=some v∧N v h3) (.run S [] ⟨true,[]⟩ (setL (enterT gn.ntmps l) dst (p.getD (.d .nili))) h2)) (.run R [] ⟨true,[]⟩ tm1 h1)):
  ∃v h',Cal E f args h (.nrm,v,h')∧N v h':=by
 obtain ⟨n,ex,fr',h2,hr,tm2,rfl,p,hp,hlo,w2⟩:=w.s (fun _ hp=> by cases hp)
 have w2':wpC E S (setL (enterT gn.ntmps l) dst (p.getD (.d .nili))) h2 _:=W.run true w2
 obtain ⟨m,ex2,tm3,h3,hr2,e2,⟨v2,hv2⟩,v,hv,hN⟩:=JP w2'
 refine ⟨v,h3,?_,hN⟩
 have hR:=(Sm (ds:=[(gf,[])]) n R _ _ _ _ _ _ hr).2
 simp only [List.nil_append] at hR
 have le1:n≤max n m+102:=by omega
 have le2:m≤max n m+102:=by omega
 have le3:n≤max n m+100:=by omega
 have hbody:mz E (max n m+102) fn.body ⟨enterT fn.ntmps args,[],none⟩ h=some (ex,⟨tm2,[(gf,[])],none⟩,h2):=by
  rw [hb,mY]
  simp only [oW]
  rw [pZ (by omega:100≤max n m+101) _ _ _ _ ha]
  simp only [Ae]
  rw [mY]
  simp only [oW]
  rw [pZ (by omega:100≤max n m+100) _ _ _ _ hbb]
  simp only [Ae]
  exact pZ le3 _ _ _ _ hR
 have hdef:mz E (max n m+102) gn.body ⟨enterT gn.ntmps l,[],p⟩ h2=some (ex2,⟨tm3,[],none⟩,h3):=by
  rw [hgb]
  exact pZ le2 _ _ _ _ hr2
 refine ⟨max n m+102,?_⟩
 have hcall:qZ E (mz E (max n m+102)) f args none h=some (.nrm,v,h3,none):=by
  unfold qZ
  simp only [hf,hbody]
  rcases hp with ⟨e1,rfl⟩ | ⟨pv,rfl,rfl⟩
  ·rcases e1 with rfl | rfl <;> rcases e2 with rfl | rfl <;> simp only [vY,ht,hg,hdef,hv2,hlo,hv]
  ·rcases e2 with rfl | rfl <;> simp only [vY,ht,hg,hdef,hv2,hlo,hv]
 unfold qj Abs.call
 simp only [hf]
 rcases hs with hs | hs
 ·simp only [hs,hcall]
 ·cases e:fn.ref with
  |true=> simp only [hcall]
  |false=> simp only [hs,hcall]
def Ev.abo:Ev→Option (AC×List KF)
 | .loop a ks _ _=> some (a,ks)
 |_=> none
theorem W.VC {Q:Ex→List AV→Heap→Prop} {c:Cfg} (m:Bool) (a:AC) (ks:List KF) (I:Nat→List AV→Heap→Prop) (n:Nat) (hl:(adO E c).p (adv E c).abo=(adO E c).q (some (a,ks))) (i0:I n (adv E c).tm (adv E c).hp) (step:∀n tm h,I n tm h→W E (Round I n (wK E Q ks)) (.run a [] ⟨m,[]⟩ tm h)):W E Q c:=by
 obtain ⟨ho,hl⟩:=rM.pq hl
 constructor
 refine p8 100000 _ ho ?_
 show evW E Q (adv E c)
 revert hl i0
 cases adv E c <;> intro i0 hl <;> try cases hl
 rename_i tm h
 exact wpC.loop I (fun n tm h hi=> (step n tm h hi).s (fun _ hp=> by cases hp)) n tm h i0
def OutP (E:Env) (rs:List RV) (N P:AV→Heap→Prop) (ex:Ex) (tm:List AV) (h1:Heap):Prop:=((ex= .nrm∨ex= .ret)∧∃v,results E h1 tm rs=some v∧N v h1)∨∃x,ex= .pan x∧P x h1
theorem Cal.wo {f:FuncId} {fn:AFn} {args:List AV} {h:Heap} {N P:AV→Heap→Prop} (hf:E.fn f=some fn) (hr:fn.ref=true∨stripArgs h args=none) (w:W E (OutP E fn.results N P) (.run fn.body [] ⟨true,[]⟩ (enterT fn.ntmps args) h)):
  (∃v h',Cal E f args h (.nrm,v,h')∧N v h')∨∃x h',Cal E f args h (.pan x,.und,h')∧P x h':=by
 obtain ⟨n,ex,fr',h1,hrun,tm',rfl,q⟩:=w.s (fun _ hp=> by cases hp)
 have key:∀r,qZ E (mz E n) f args none h=some r→qj E n f args h=some (r.1,r.2.1,r.2.2.1):=by
  intro r hc
  obtain ⟨e,v,h',p⟩:=r
  unfold qj Abs.call
  simp only [hf]
  rcases hr with hr | hr
  ·simp only [hr,hc]
  ·cases e:fn.ref with
   |true=> simp only [hc]
   |false=> simp only [hr,hc]
 rcases q with ⟨q1,v,q2,q3⟩ | ⟨x,rfl,q3⟩
 ·refine .inl ⟨v,h1,⟨n,?_⟩,q3⟩
  refine key (.nrm,v,h1,none) ?_
  unfold qZ
  simp only [hf,hrun]
  rcases q1 with rfl | rfl <;> simp only [q2]
 ·refine .inr ⟨x,h1,⟨n,?_⟩,q3⟩
  refine key (.pan x,.und,h1,none) ?_
  unfold qZ
  simp only [hf,hrun]
section
variable {Q : Ex → List AV → Heap → Prop} {c : Cfg} {rs : List RV} {N P : AV → Heap → Prop}
theorem W.brT (hx:(adO E c).p (adv E c).brX=(adO E c).q (some true)) (t:W E Q ((adv E c).brK true)):W E Q c:= .br true hx (fun _=> t) (fun e=> nomatch e)
theorem W.brF (hx:(adO E c).p (adv E c).brX=(adO E c).q (some false)) (t:W E Q ((adv E c).brK false)):W E Q c:= .br false hx (fun e=> nomatch e) (fun _=> t)
theorem W.retN {v:AV} (he:(adO E c).p ((adv E c).res E rs)=(adO E c).q (some v)) (q:N v (adv E c).hp):W E (OutP E rs N P) c:=by
 obtain ⟨ho,he⟩:=rM.pq he
 constructor
 refine p8 100000 _ ho ?_
 show evW E (OutP E rs N P) (adv E c)
 revert he q
 cases adv E c <;> intro q he <;> try cases he
 rename_i ex tm h
 cases ex with
 |nrm=> exact .inl ⟨.inl rfl,v,he,q⟩
 |ret=> exact .inl ⟨.inr rfl,v,he,q⟩
 |exit j=> cases he
 |pan v=> cases he
theorem W.panN {x:AV} (he:(adO E c).p (adv E c).TH=(adO E c).q (some x)) (q:P x (adv E c).hp):W E (OutP E rs N P) c:= .pan he (.inr ⟨x,rfl,q⟩)
theorem W.NT {f:FuncId} {args:List AV} {h1:Heap} {x v:AV} {h':Heap} (hc:Cal E f args h1 (.pan x,v,h')) (he:(adO E c).p (adv E c).callP=(adO E c).q (some (f,args,h1))) (q:P x h'):W E (OutP E rs N P) c:=
 .callP hc he fun _=> .inr ⟨x,rfl,q⟩
end
theorem Cal.we {f:FuncId} {fn:AFn} {args:List AV} {h:Heap} {N:AV→Heap→Prop} (hf:E.fn f=some fn) (hr:fn.ref=true∨stripArgs h args=none) (w:W E (OutP E fn.results N (fun _ _=> False)) (.run fn.body [] ⟨true,[]⟩ (enterT fn.ntmps args) h)):
  ∃v h',Cal E f args h (.nrm,v,h')∧N v h':=(Cal.wo hf hr w).elim id fun ⟨_,_,_,h⟩=> h.elim
end
end
end Go.Abs

namespace Go.Abs
open Go
theorem row_of {P:Program} {w:World} {n:String} {g:Nat} {cs:Array Value} (hg:P.globalNamed n=some g) (h:w.var? P n=some cs):∃e fz,w.heap[g]? =some (Obj.cells cs e fz):=by
 simp only [World.var?,hg,Option.bind_some] at h
 split at h
 ·rename_i c e fz he
  cases h
  exact ⟨e,fz,he⟩
 ·cases h
theorem mD {P:Program} {x:String×DataW Unit} {r:List (String×DataW Unit)} {W:World} (h:laidMet P (x::r) W):laidMet P r W:=by
 obtain ⟨ps,⟨g,t,cs,fuel,p,q,h1,h2,h3,h4,h5,h6⟩,hn,hc⟩:=h
 subst h6
 exact ⟨q,h5,(List.nodup_append.1 hn).2.1,fun b off hm=> hc b off (List.mem_append_right _ hm)⟩
def GV (W:World) (g i n:Nat) (d:DV):Prop:=∃v,W.cell? ⟨g,i,none⟩=some v∧(∀F,kM W F d v)∧∃(arr:Array Value) (e:TypeId) (fz:Nat×Nat),W.heap[g]? =some (Obj.cells arr e fz)∧arr.size=n
theorem Oe {P:Program} {W:World} {name:String} {k:IntKind} {zs:List Int} {g:Nat} (h:Lib.TabIs P W name k zs) (hg:P.globalNamed name=some g) (i:Nat) (hi:i < zs.length):GV W g i zs.length (.i k (zs.getD i 0)):=by
 obtain ⟨e,fz,hr⟩:=row_of hg h
 exact ⟨_,h.cell hg i hi,fun F=> .i _ _,_,e,fz,hr,by simp⟩
theorem Lc {P:Program} {W:World} {nm ty:String} {d:DataW Unit} {rest:List (String×DataW Unit)} {g t u e:Nat} {ms:Array (String×TypeId)} (hg:P.globalNamed nm=some g) (hty:(P.globals[g]?).map (·.type)=some t) (ht:P.underlying t=some (.interface ms)) (hu:∀v,P.typeName? 3 v=some ty→v=u) (hp:P.underlying u=some (.pointer e)) (hc:P.cellsOf e=1)
  (h:laidMet P ((nm,.iface ty (.ptr d))::rest) W):GV W g 0 1 (.ifc u (.bx false [] 0)):=by
 obtain ⟨ps,⟨g',t',cs,fuel,p,q,h1,h2,h3,h4,h5,h6⟩,hn,hcl⟩:=h
 obtain rfl:=Option.some.inj (hg.symm.trans h1)
 obtain rfl:=Option.some.inj (hty.symm.trans h2)
 obtain ⟨e0,fz,hr⟩:=row_of hg h3
 cases fuel with
 |zero=> simp [DataW.trod] at h4
 |succ fuel=>
  rcases hcs:cs.toList with _ | ⟨x,_ | ⟨y,r⟩⟩
  ·rw [hcs] at h4; simp [DataW.trod,ht] at h4
  ·rw [hcs] at h4
   cases x <;> simp [DataW.trod,ht] at h4
   rename_i u' v
   have hs:cs.size=1:=by rw [←Array.length_toList,hcs]; rfl
   have hx:cs[0]? =some (.iface u' v):=by rw [←Array.getElem?_toList,hcs]; rfl
   have hcell:W.cell? ⟨g,0,none⟩=some (.iface u' v):=by simp [World.cell?,hr,hx]
   have hok:=(hcl g 0 (by rw [h6,hs]; simp [MemPlace.row,Addr.add])).2 u' v hcell
   refine ⟨_,hcell,fun F=> ?_,cs,e0,fz,hr,hs⟩
   split at h4
   ·rename_i hh; cases hh
   ·rename_i name hh1 hname
    simp only [Option.map_eq_some_iff,Prod.mk.injEq,DataW.iface.injEq] at h4
    obtain ⟨⟨a,b⟩,h7,⟨rfl,rfl⟩,rfl⟩:=h4
    obtain rfl:=hu _ hname
    cases fuel with
    |zero=> simp [DataW.trod] at h7
    |succ fuel=>
     cases v <;> simp [Value.okWide,Cell.okWide,Cell.ok,hp] at hok
     rename_i o
     simp only [Value.cells] at h7
     cases o with
     |none=> simp [DataW.trod,hp] at h7
     |some ad=>
      simp only [DataW.trod,hp,Option.map_eq_some_iff,Option.bind_eq_some_iff] at h7
      obtain ⟨_,⟨l,h8,_⟩,_⟩:=h7
      have hsp:ad.spot=none:=by
       simp only [World.cells?,hc] at h8
       split at h8
       ·simp only [List.range_one,List.mapM_cons,List.mapM_nil,Addr.add,if_true] at h8
        cases hsp:ad.spot with
        |none=> rfl
        |some z=> simp [World.cell?,hsp] at h8; split at h8 <;> simp at h8
       ·cases h8
      obtain ⟨bk,of,sp⟩:=ad
      simp only at hsp
      subst hsp
      refine .ifc _ _ _ ?_
      have:=kM.bx (w:=W) (F:=F) false [] 0 bk of (fun _=> undef) (fun i hi=> by simp at hi) (fun i hi=> by simp at hi)
      simpa using this
   ·cases h4
  ·rw [hcs] at h4; cases x <;> simp [DataW.trod,ht] at h4
end Go.Abs
end
