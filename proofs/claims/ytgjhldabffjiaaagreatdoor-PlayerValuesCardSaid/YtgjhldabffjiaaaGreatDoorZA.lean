/- Part 1 of a general layer: a deterministic machine over the model's code, and that what it comes to the model comes to. Conditions: those of each theorem. -/
import GoSem.Dispatch
import Derived.Lib.DecodeN
import Derived.Lib.AtoiAll
import Derived.Laws.Sem
import Derived.Laws.World
import Derived.Laws.Cells
import Derived.Laws.Entries
import Derived.Laws.IdiomCopy
import Derived.ChangeKeysEq
import Derived.Laws.StructEq
noncomputable section
namespace Go.Abs

inductive DV where
 |b (x:Bool)
 |i (k:IntKind) (n:Int)
 |s (x:List UInt8)
 |sG | yj | nili | xN | nsl
 |sl (bor:Bool) (n:Nat) (cells:List DV)
 |bx (bor:Bool) (cells:List DV) (off:Nat)
 |fn (f:Fn) (fs cs:List DV)
 |ifc (t:TypeId) (d:DV)
 |agg (cells:List DV)
 deriving Inhabited

inductive AV where
 |d (x:DV)
 |nilsl
 |app (t g n:Nat) (cells:List DV)
 |full (bor:Bool) (n:Nat) (cells:List DV)
 |ptr (b off:Nat)
 |kQ (g off:Nat)
 |sref (b off sz n m:Nat) (ex:Bool)
 |x_ (t g:Nat) (e:TypeId) (cells:List DV)
 |fn (f:Fn) (fs cs:List AV)
 |ifc (t:TypeId) (a:AV)
 |agg (cells:List AV)
 |tup (l:List AV)
 |uo (b:Nat)
 |itr (b:Nat)
 |und
 deriving Inhabited

inductive X where
 |t (n:Nat)
 |c (a:AV)
 deriving Inhabited

inductive TK where
 |b | i | s
 deriving DecidableEq,Inhabited
inductive EqK where
 |bool | ptr | iface | flat (ks:List TK) | J_ | Ka | Kb | bad
 deriving Inhabited
inductive KK where
 |one (k:TK)
 |many (ks:List TK)
 deriving Inhabited

inductive Prim where
 |indexByte | index | count | overlaps | makeNoZero (e:TypeId) | vo
 deriving DecidableEq,Inhabited

inductive C4 where
 |itoa | Bg | atoi | C5 | El | wD
 deriving DecidableEq,Inhabited

inductive COp where
 |mv (x:X)
 |pick (c a b:X)
 |alloc (e:TypeId) (zs:List AV)
 |box (e:TypeId) (x:X)
 |build (zs:List AV) (parts:List (Nat×Nat×X))
 |bsl (e:TypeId) (size n:Nat) (zs:List AV) (parts:List (Nat×Nat×X))
 |load (ag:Bool) (n:Nat) (a:X)
 |store (n:Nat) (a x:X)
 |Ew (x:X)
 |bin (op:BinOp) (k:EqK) (x y:X)
 |un (op:UnOp) (x:X)
 |cvi (k:IntKind) (x:X)
 |cvS (x:X)
 |cvP (u:Option (TypeId×Nat)) (x:X)
 |s2b (e:TypeId) (x:X)
 |b2s (x:X)
 |Ol (t:TypeId) (x:X)
 |Mr (f:Fn) (fs cs:List X)
 |IL
 |IM (e:TypeId) (size bytes:Nat) (zs:List AV) (l c:X)
 |Kc (size:Nat) (x:X) (lo hi mx:Option X)
 |Ey (x:X) (lo hi:Option X)
 |F8 (n size:Nat) (x:X) (lo hi mx:Option X)
 |Om (off:Nat) (x:X)
 |fld (off:Nat) (ag:Bool) (n:Nat) (x:X)
 |iaS (size:Nat) (x i:X)
 |iaA (n size:Nat) (x i:X)
 |ixA (n size:Nat) (ag:Bool) (k:Nat) (x i:X)
 |ixS (x i:X)
 |look (kk:KK) (ag:Bool) (zs:List AV) (ok:Bool) (m k:X)
 |On (kk:KK) (m k v:X)
 |rng (str:Bool) (x:X)
 |nxt (str:Bool) (x:X)
 |ent (x:X)
 |tas (t:TypeId) (ag:Bool) (zs:List AV) (ok:Bool) (x:X)
 |Oo (x:X) (i:Nat)
 |F9 (f:FuncId) (args:List X)
 |oU (f:X) (args:List X)
 |inv (x:X) (m:String) (args:List X)
 |Et (f:Nat) (p:Prim) (args:List X)
 |len (k:Nat) (x:X)
 |IN (n:Nat)
 |cap (x:X)
 |app (e:TypeId) (size bytes:Nat) (mu:Bool) (x y:X)
 |Oq (e:TypeId) (size bytes:Nat) (zs:List AV) (x n:X)
 |copy (size:Nat) (x y:X)
 |del (kk:KK) (m k:X)
 |mn (l:List X)
 |mx (l:List X)
 |panic (x:X)
 |uT
 |dfr (f:X) (args:List X)
 |ssd (x:X)
 |uss (e:TypeId) (x n:X)
 |clone (f:Nat) (e:TypeId) (size bytes:Nat) (mu:Bool) (x:X)
 |grow (e:TypeId) (size:Nat) (mu:Bool) (x n:X)
 |Be (f:Nat) (e:TypeId) (x i v:X)
 |Ms (e:TypeId) (size:Nat) (zs:List AV) (x i j:X)
 |F_ (f:Nat) (e:TypeId) (x n:X)
 |i2s (x:X)
 |s2a (n:Nat) (x:X)
 |clr (size:Nat) (zs:List AV) (x:X)
 |lib (f:Nat) (k:C4) (args:List X)
 |bad
 deriving Inhabited

structure AOp where
 dst:Option Nat
 op:COp
 guard:Option (Nat×Bool)
 deriving Inhabited

structure DOp where
 o:AOp
 no:Nat
 eff:Bool
 bnd:List Nat
 rsv:Option Nat
 deriving Inhabited

inductive AC where
 |skip
 |reg (ops:List AOp)
 |Fz (m:Nat) (ops:List DOp)
 |seq (a b:AC)
 |cond (c:X) (a b:AC)
 |blk (id:Nat) (a:AC)
 |loop (a:AC)
 |yt (g:X) (ps:List Nat) (asg body:AC)
 |exit (id:Nat)
 |ret
 |bad
 deriving Inhabited

inductive RV where
 |tmp (t:Nat)
 |cell (t:Nat) (ag:Bool) (n:Nat)
 deriving Inhabited

structure AFn where
 ntmps:Nat
 results:List RV
 body:AC
 ref:Bool
 deriving Inhabited

inductive Mt where
 |none | exit (id:Nat) | ret
 deriving Inhabited

inductive LSt where
 |ready | busy | done | exhausted
 deriving DecidableEq,Inhabited

inductive Blk where
 |cells (fr:Bool) (e:TypeId) (cs:List AV)
 |tok (g:Nat) (e:TypeId)
 |map (es:List (DV×AV))
 |loop (st:LSt) (pend:Mt) (f:Nat) (tmps:List AV) (ps:List Nat) (asg body:AC)
 |sit (s:List UInt8) (pos:Nat)
 |dead
 deriving Inhabited

inductive Tr (α:Type) where
 |lf
 |nd (v:Option α) (l r:Tr α)
 deriving Inhabited

namespace Tr
variable {α : Type}
def Bq (f:Nat) (t:Tr α) (i:Nat):Option α:=
 Nat.rec (motive:=fun _=> Tr α→Nat→Option α) (fun _ _=> none)
  (fun _ ih t i => Tr.casesOn t none fun v l r => match Nat.beq i 0 with
   |true=> v
   |false=> match Nat.beq (Nat.mod i 2) 1 with
    |true=> ih l (Nat.div i 2)
    |false=> ih r (Nat.sub (Nat.div i 2) 1)) f t i
def IP (f:Nat) (t:Tr α) (i:Nat) (x:α):Tr α:=
 Nat.rec (motive:=fun _=> Tr α→Nat→Tr α) (fun t _=> t)
  (fun _ ih t i => Tr.casesOn t
   (match Nat.beq i 0 with
    |true=> .nd (some x) .lf .lf
    |false=> match Nat.beq (Nat.mod i 2) 1 with
     |true=> .nd none (ih .lf (Nat.div i 2)) .lf
     |false=> .nd none .lf (ih .lf (Nat.sub (Nat.div i 2) 1)))
   (fun v l r => match Nat.beq i 0 with
    |true=> .nd (some x) l r
    |false=> match Nat.beq (Nat.mod i 2) 1 with
     |true=> .nd v (ih l (Nat.div i 2)) r
     |false=> .nd v l (ih r (Nat.sub (Nat.div i 2) 1)))) f t i
end Tr

structure Heap where
 t:Tr Blk
 n:Nat
 deriving Inhabited

namespace Heap
def empty:Heap:=⟨.lf,0⟩
def get (h:Heap) (i:Nat):Option Blk:=match h with
 |⟨t,n⟩=> match Nat.blt i n with
  |true=> t.Bq (Nat.succ i) i
  |false=> none
def set (h:Heap) (i:Nat) (b:Blk):Heap:=match h with
 |⟨t,n⟩=> ⟨t.IP (Nat.succ i) i b,n⟩
def push (h:Heap) (b:Blk):Heap:=match h with
 |⟨t,n⟩=> ⟨t.IP (Nat.succ n) n b,Nat.succ n⟩
end Heap

def iLt:Int→Int→Bool
 | .ofNat a,.ofNat b=> Nat.blt a b
 | .negSucc _,.ofNat _=> true
 | .ofNat _,.negSucc _=> false
 | .negSucc a,.negSucc b=> Nat.blt b a
def iEq:Int→Int→Bool
 | .ofNat a,.ofNat b=> Nat.beq a b
 | .negSucc a,.negSucc b=> Nat.beq a b
 |_,_=> false
def inR:IntKind→Int→Bool
 | .i64,.ofNat a=> Nat.blt a 9223372036854775808
 | .i64,.negSucc a=> Nat.blt a 9223372036854775808
 | .u8,.ofNat a=> Nat.blt a 256
 | .u32,.ofNat a=> Nat.blt a 4294967296
 | .u64,.ofNat a=> Nat.blt a 18446744073709551616
 |_,_=> false
def wrap (k:IntKind) (n:Int):Int:=match inR k n with
 |true=> n
 |false=> k.wrap n
def GX:IntKind→Nat
 | .i8=> 0 | .i16=> 1 | .i32=> 2 | .i64=> 3 | .u8=> 4 | .u16=> 5 | .u32=> 6 | .u64=> 7

def byteD (b:UInt8):DV:= .i .u8 b.toNat
def bytesD (s:List UInt8):List DV:=s.map byteD
def GD:DV→Option UInt8
 | .i .u8 (.ofNat n)=> some (UInt8.ofNat n)
 |_=> none
def qm:List DV→Option (List UInt8)
 |[]=> some []
 |d::r=> match GD d with
  |some b=> match qm r with
   |some l=> some (b::l)
   |none=> none
  |none=> none

def inj1:DV→AV
 | .nsl=> .nilsl
 |d=> .d d
def inj:DV→AV
 | .agg cs=> .agg (cs.map inj1)
 | .nsl=> .nilsl
 |d=> .d d

def takeN (cs:List AV) (n:Nat):Option (List AV):=
 List.rec (motive:=fun _=> Nat→Option (List AV)) (fun n=> Nat.rec (some []) (fun _ _=> none) n)
  (fun a _ ih n => Nat.rec (some []) (fun m _ => match ih m with
   |some l=> some (a::l)
   |none=> none) n) cs n
def readN (cs:List AV) (off n:Nat):Option (List AV):=
 List.rec (motive:=fun _=> Nat→Option (List AV)) (fun off=> Nat.rec (Nat.rec (some []) (fun _ _=> none) n) (fun _ _=> none) off)
  (fun a r ih off=> Nat.rec (takeN (a::r) n) (fun m _=> ih m) off) cs off

def Ba:Fn→Bool
 | .func _=> true
 |_=> false

def Lg:Fn→Bool
 | .func _=> true
 | .yield _=> true
 |_=> false

mutual
def strip:AV→Option DV
 | .d x=> some x
 | .nilsl=> some (.sl false 0 [])
 | .app _ _ n cs=> some (.sl false n cs)
 | .full b n cs=> some (.sl b n cs)
 | .fn f fs cs=> match Ba f with
  |true=> match stripL fs with
   |some a=> match stripL cs with
    |some b=> some (.fn f a b)
    |none=> none
   |none=> none
  |false=> none
 | .ifc t a=> match strip a with
  |some d=> some (.ifc t d)
  |none=> none
 | .agg cs=> match stripL cs with
  |some l=> some (.agg l)
  |none=> none
 |_=> none
def stripL:List AV→Option (List DV)
 |[]=> some []
 |a::r=> match strip a with
  |some d=> match stripL r with
   |some l=> some (d::l)
   |none=> none
  |none=> none
end

mutual
def clean:DV→Bool
 | .sl b _ cs=> !b && uk cs
 | .bx b cs _=> !b && uk cs
 | .fn _ fs cs=> uk fs && uk cs
 | .ifc _ d=> clean d
 | .agg cs=> uk cs
 |_=> true
def uk:List DV→Bool
 |[]=> true
 |d::r=> clean d && uk r
end

section
variable (rd : Nat → Nat → Nat → Option (List DV))
mutual
def borrowW:AV→Option (DV×Bool)
 | .sref b off sz n _ _=> match rd b off (n*sz) with
  |some ds=> some (.sl true n ds,true)
  |none=> none
 | .agg cs=> match borrowWL cs with
  |some (l,b)=> some (.agg l,b)
  |none=> none
 | .ifc t a=> match borrowW a with
  |some (d,b)=> some (.ifc t d,b)
  |none=> none
 | .fn g fs cs=> match Ba g with
  |true=> match borrowWL fs with
   |some (a,x)=> match borrowWL cs with
    |some (b,y)=> some (.fn g a b,x || y)
    |none=> none
   |none=> none
  |false=> none
 | .d x=> some (x,false)
 | .nilsl=> some (.nsl,false)
 | .app _ _ n cs=> some (.sl false n cs,false)
 | .full b n cs=> some (.sl b n cs,false)
 |_=> none
def borrowWL:List AV→Option (List DV×Bool)
 |a::r=> match borrowW a with
  |some (d,x)=> match borrowWL r with
   |some (l,y)=> some (d::l,x || y)
   |none=> none
  |none=> none
 |[]=> some ([],false)
end
end
def norm:DV→DV
 | .nsl=> .sl false 0 []
 |d=> d
def rdBlk (rd:Nat→Nat→Nat→Option (List DV)) (h:Heap) (b off n:Nat):Option (List DV):=match h.get b with
 |some (.cells _ _ cs)=> match readN cs off n with
  |some l=> match borrowWL rd l with
   |some (ds,_)=> some (ds.map norm)
   |none=> none
  |none=> none
 |_=> none
def aaI (h:Heap):Nat→Nat→Nat→Option (List DV):=rdBlk (rdBlk (rdBlk (rdBlk (fun _ _ _=> none) h) h) h) h
def rd3 (h:Heap):Nat→Nat→Nat→Option (List DV):=rdBlk (rdBlk (rdBlk (aaI h) h) h) h
def borrow (h:Heap) (a:AV):Option (DV×Bool):=match a with
 | .d x=> some (x,false)
 | .nilsl=> some (.nsl,false)
 | .app _ _ n cs=> some (.sl false n cs,false)
 | .full b n cs=> some (.sl b n cs,false)
 | .ptr _ _=> none
 |a=> borrowW (rd3 h) a

section
variable (fz : Heap → Nat → Nat → Nat → Option (List DV × Heap))
mutual
def yP:Heap→AV→Option (DV×Heap)
 |h,.sref b off sz n _ _=> match fz h b off (n*sz) with
  |some (ds,h')=> some (.sl false n ds,h')
  |none=> none
 |h,.agg cs=> match Dx h cs with
  |some (l,h')=> some (.agg l,h')
  |none=> none
 |h,.ifc t a=> match yP h a with
  |some (d,h')=> some (.ifc t d,h')
  |none=> none
 |h,.fn g fs cs=> match Ba g with
  |true=> match Dx h fs with
   |some (a,h1)=> match Dx h1 cs with
    |some (b,h2)=> some (.fn g a b,h2)
    |none=> none
   |none=> none
  |false=> none
 |h,.d x=> some (x,h)
 |h,.nilsl=> some (.sl false 0 [],h)
 |h,.app _ _ n cs=> some (.sl false n cs,h)
 |h,.full b n cs=> some (.sl b n cs,h)
 |_,_=> none
def Dx:Heap→List AV→Option (List DV×Heap)
 |h,a::r=> match yP h a with
  |some (d,h1)=> match Dx h1 r with
   |some (l,h2)=> some (d::l,h2)
   |none=> none
  |none=> none
 |h,[]=> some ([],h)
end
end
def B7 (fz:Heap→Nat→Nat→Nat→Option (List DV×Heap)) (h:Heap) (b off n:Nat):Option (List DV×Heap):=match h.get b with
 |some (.cells _ e cs)=> match Dx fz (h.set b .dead) cs with
  |some (ds,h')=> match Nat.ble (off+n) ds.length with
   |true=> some ((ds.drop off).take n,h'.set b (.cells true e (ds.map .d)))
   |false=> none
  |none=> none
 |_=> none
def aaJ:Heap→Nat→Nat→Nat→Option (List DV×Heap):=B7 (B7 (B7 (B7 (fun _ _ _ _=> none))))
def fz3:Heap→Nat→Nat→Nat→Option (List DV×Heap):=B7 (B7 (B7 aaJ))
def frz (h:Heap) (a:AV):Option (DV×Heap):=match a with
 | .d x=> some (x,h)
 |a=> yP fz3 h a
def FB (h:Heap) (l:List AV):Option (List DV×Heap):=
 List.rec (motive:=fun _=> Heap→Option (List DV×Heap)) (fun h=> some ([],h))
  (fun a _ ih h => match frz h a with
   |some (d,h1)=> match ih h1 with
    |some (l,h2)=> some (d::l,h2)
    |none=> none
   |none=> none) l h

structure Fr where
 tmps:List AV
 defs:List (AV×List AV)
 pan:Option AV
 deriving Inhabited

def getL (l:List AV) (n:Nat):AV:=List.rec (motive:=fun _=> Nat→AV) (fun _=> .und) (fun a _ ih n=> Nat.rec a (fun m _=> ih m) n) l n
def setL (l:List AV) (n:Nat) (x:AV):List AV:=List.rec (motive:=fun _=> Nat→List AV) (fun _=> []) (fun a r ih n=> Nat.rec (x::r) (fun m _=> a::ih m) n) l n
theorem Ot (n:Nat):getL [] n= .und:=rfl
theorem AQ (a:AV) (r:List AV):getL (a::r) 0=a:=rfl
theorem vO (a:AV) (r:List AV) (n:Nat):getL (a::r) (n+1)=getL r n:=rfl
theorem IQ (n:Nat) (x:AV):setL [] n x=[]:=rfl
theorem Ga (a:AV) (r:List AV) (x:AV):setL (a::r) 0 x=x::r:=rfl
theorem C7 (a:AV) (r:List AV) (n:Nat) (x:AV):setL (a::r) (n+1) x=a::setL r n x:=rfl

def X.ev (tm:List AV):X→AV
 | .t n=> getL tm n
 | .c a=> a

def zB (sz n:Nat) (cs:List DV):Option (Nat×List AV):=match Nat.beq cs.length (n*sz) with
 |true=> some (n,cs.map .d)
 |false=> none
def slView (h:Heap) (sz:Nat):AV→Option (Nat×List AV)
 | .d (.sl _ n cs)=> zB sz n cs
 | .nilsl=> some (0,[])
 | .app _ _ n cs=> zB sz n cs
 | .full _ n cs=> zB sz n cs
 | .sref b off _ n _ _=> match h.get b with
  |some (.cells _ _ cs)=> match readN cs off (n*sz) with
   |some l=> some (n,l)
   |none=> none
  |_=> none
 |_=> none

def srcView (h:Heap) (sz:Nat) (v:AV):Option (Nat×List AV):=match v with
 | .d (.s l)=> match Nat.beq sz 1 with
  |true=> some (l.length,(bytesD l).map .d)
  |false=> none
 |v=> slView h sz v

def lenOf:AV→Option Nat
 | .d (.sl _ n _)=> some n
 | .nilsl=> some 0
 | .app _ _ n _=> some n
 | .full _ n _=> some n
 | .sref _ _ _ n _ _=> some n
 |_=> none

def wm:AV→Option (IntKind×Int)
 | .d (.i k n)=> some (k,n)
 |_=> none
def DX:AV→Option (List UInt8)
 | .d (.s x)=> some x
 |_=> none
def wO (a:AV):Option Nat:=match wm a with
 |some (_,.ofNat n)=> some n
 |_=> none
def B8:AV→Option Bool
 | .d (.b x)=> some x
 |_=> none
def mkI (n:Nat):AV:= .d (.i .i64 (.ofNat n))

def y8 (cs:List AV) (off:Nat):List AV→List AV
 |[]=> cs
 |a::r=> y8 (setL cs off a) (off+1) r

def cellsOf:AV→List AV
 | .agg cs=> cs
 |a=> [a]

def one (ag:Bool) (l:List AV):Option AV:=match ag with
 |true=> some (.agg l)
 |false=> match l with
  |[a]=> some a
  |_=> none

def loadA (G:Nat→List DV) (h:Heap) (ag:Bool) (n:Nat):AV→Option AV
 | .ptr b off=> match h.get b with
  |some (.cells _ _ cs)=> match readN cs off n with
   |some l=> one ag l
   |none=> none
  |_=> none
 | .d (.bx _ cs off)=> match readN (cs.map .d) off n with
  |some l=> one ag l
  |none=> none
 | .kQ g off=> match readN ((G g).map .d) off n with
  |some l=> one ag l
  |none=> none
 |_=> none

def isAgg:AV→Bool
 | .agg _=> true
 | .d (.agg _)=> true
 | .tup _=> true
 | .und=> true
 |_=> false

def Ke (h:Heap) (n:Nat) (a x:AV):Option Heap:=match a with
 | .ptr b off=> match h.get b with
  |some (.cells false e cs)=>
   let l:=cellsOf x
   match Nat.beq l.length n && Nat.ble (off+n) cs.length && !(l.any isAgg) with
   |true=> some (h.set b (.cells false e (y8 cs off l)))
   |false=> none
  |_=> none
 |_=> none

def strEq (a b:List UInt8):Bool:=a==b
def strLt:List UInt8→List UInt8→Bool
 |_,[]=> false
 |[],_::_=> true
 |a::x,b::y=> match Nat.beq a.toNat b.toNat with
  |true=> strLt x y
  |false=> Nat.blt a.toNat b.toNat
def Br (j k:IntKind):Bool:=Nat.beq (GX j) (GX k)
def vP (k:TK) (a b:AV):Option Bool:=match k with
 | .b=> match a with
  | .d (.b x)=> match b with
   | .d (.b y)=> some (x==y)
   |_=> none
  |_=> none
 | .i=> match wm a with
  |some (j,x)=> match wm b with
   |some (k,y)=> match Br j k with
    |true=> some (iEq x y)
    |false=> none
   |none=> none
  |none=> none
 | .s=> match DX a with
  |some x=> match DX b with
   |some y=> some (strEq x y)
   |none=> none
  |none=> none
def allEq:List TK→List AV→List AV→Option Bool
 |[],[],[]=> some true
 |k::ks,a::x,b::y=> match vP k a b with
  |some r=> match allEq ks x y with
   |some r'=> some (r && r')
   |none=> none
  |none=> none
 |_,_,_=> none
def ptrEq:AV→AV→Option Bool
 | .d .sG,.d .sG=> some true
 | .ptr ..,.d .sG | .d .sG,.ptr .. => some false
 | .ptr a x,.ptr b y=> match Nat.beq a b with
  |true=> some (Nat.beq x y)
  |false=> none
 | .d (.bx ..),.d .sG | .d .sG,.d (.bx ..)=> some false
 | .kQ ..,.d .sG | .d .sG,.kQ .. => some false
 |_,_=> none
def J_:AV→AV→Option Bool
 | .nilsl,.nilsl=> some true
 | .nilsl,.sref .. | .sref ..,.nilsl=> some false
 | .nilsl,.d (.sl _ (_+1) _) | .d (.sl _ (_+1) _),.nilsl=> some false
 | .nilsl,.app _ _ (_+1) _ | .app _ _ (_+1) _,.nilsl=> some false
 | .nilsl,.full _ (_+1) _ | .full _ (_+1) _,.nilsl=> some false
 |_,_=> none
def Ka:AV→AV→Option Bool
 | .d .xN,.d .xN=> some true
 | .d .xN,.uo _ | .uo _,.d .xN=> some false
 |_,_=> none
def Kb:AV→AV→Option Bool
 | .d .yj,.d .yj=> some true
 | .d .yj,.fn .. | .fn ..,.d .yj=> some false
 | .d .yj,.d (.fn ..) | .d (.fn ..),.d .yj=> some false
 |_,_=> none
def UC:AV→AV→Option Bool
 | .d .nili,.d .nili=> some true
 | .d .nili,.ifc .. | .ifc ..,.d .nili=> some false
 | .d .nili,.d (.ifc ..) | .d (.ifc ..),.d .nili=> some false
 |_,_=> none
def eqA:EqK→AV→AV→Option Bool
 | .bool,a,b=> vP .b a b
 | .ptr,a,b=> ptrEq a b
 | .iface,a,b=> UC a b
 | .flat ks,.agg x,.agg y=> allEq ks x y
 | .J_,a,b=> J_ a b
 | .Ka,a,b=> Ka a b
 | .Kb,a,b=> Kb a b
 |_,_,_=> none

def Ac (op:BinOp) (k:IntKind) (x y:Int):Int:=
 let a:=BitVec.ofInt k.bits x
 let b:=BitVec.ofInt k.bits y
 match op with
 | .and=> wrap k (a &&& b).toNat
 | .or=> wrap k (a ||| b).toNat
 | .xor=> wrap k (a ^^^ b).toNat
 |_=> wrap k (a &&& ~~~b).toNat
def SB (op:BinOp) (a b:Nat):Nat:=match op with
 | .and=> Nat.land a b
 | .or=> Nat.lor a b
 |_=> Nat.xor a b
def isAN (op:BinOp):Bool:=match op with
 | .and | .or | .xor=> true
 |_=> false
def bits (op:BinOp) (k:IntKind) (x y:Int):Int:=match x,y with
 | .ofNat a,.ofNat b=> match isAN op && inR k (.ofNat a) && inR k (.ofNat b) with
  |true=> .ofNat (SB op a b)
  |false=> Ac op k (.ofNat a) (.ofNat b)
 |x,y=> Ac op k x y
def mkB (b:Bool):Option AV:=some (.d (.b b))
def mkZ (k:IntKind) (n:Int):Option AV:=some (.d (.i k n))
def Q9 (m b:Nat):Nat:=match Nat.ble m b with
 |true=> m
 |false=> b
def Q_ (j:IntKind) (x:Int) (y:Int):Option AV:=match y with
 | .ofNat m=> match Nat.ble m 64 with
  |true=> match x with
   | .ofNat a=> mkZ j (wrap j (.ofNat (Nat.mul a (Nat.pow 2 (Q9 m j.bits)))))
   | .negSucc _=> mkZ j (j.wrap (x*2 ^ (min m j.bits)))
  |false=> mkZ j (j.wrap (x*2 ^ (min m j.bits)))
 | .negSucc _=> none
def N8 (j:IntKind) (x:Int) (y:Int):Option AV:=match y with
 | .ofNat m=> match x with
  | .ofNat a=> mkZ j (.ofNat (Nat.div a (Nat.pow 2 (Q9 m j.bits))))
  | .negSucc _=> mkZ j (x.fdiv (2 ^ (min m j.bits)))
 | .negSucc _=> none
def ach (j:IntKind) (x y:Int):Option AV:=match iEq y 0 with
 |true=> none
 |false=> mkZ j (wrap j (x.tdiv y))
def aci (j:IntKind) (x y:Int):Option AV:=match iEq y 0 with
 |true=> none
 |false=> mkZ j (x.tmod y)
def GY (op:BinOp):IntKind→Int→Int→Option AV:=
 match op with
 | .add=> fun j x y=> mkZ j (wrap j (x+y))
 | .sub=> fun j x y=> mkZ j (wrap j (x - y))
 | .mul=> fun j x y=> mkZ j (wrap j (x*y))
 | .quo=> fun j x y=> ach j x y
 | .rem=> fun j x y=> aci j x y
 | .eql=> fun _ x y=> mkB (iEq x y)
 | .neq=> fun _ x y=> mkB (!iEq x y)
 | .lss=> fun _ x y=> mkB (iLt x y)
 | .leq=> fun _ x y=> mkB (!iLt y x)
 | .gtr=> fun _ x y=> mkB (iLt y x)
 | .geq=> fun _ x y=> mkB (!iLt x y)
 | .and=> fun j x y=> mkZ j (bits .and j x y)
 | .or=> fun j x y=> mkZ j (bits .or j x y)
 | .xor=> fun j x y=> mkZ j (bits .xor j x y)
 | .andNot=> fun j x y=> mkZ j (bits .andNot j x y)
 |_=> fun _ _ _=> none
def arith (op:BinOp) (j:IntKind) (x:Int) (k:IntKind) (y:Int):Option AV:=
 match op with
 | .shl=> Q_ j x y
 | .shr=> N8 j x y
 |op=> match Br j k with
  |false=> none
  |true=> GY op j x y
def IG (op:BinOp) (x y:List UInt8):Option AV:=
 match op with
 | .add=> match Nat.ble (x.length+y.length) 70368744177664 with
  |true=> some (.d (.s (x++y)))
  |false=> none
 | .eql=> mkB (strEq x y)
 | .neq=> mkB (!strEq x y)
 | .lss=> mkB (strLt x y)
 | .leq=> mkB (strLt x y || strEq x y)
 | .gtr=> mkB (!(strLt x y || strEq x y))
 | .geq=> mkB (!strLt x y)
 |_=> none
def Tw (op:BinOp) (k:EqK) (x y:AV):Option AV:=match op with
 | .eql=> match eqA k x y with
  |some b=> mkB b
  |none=> none
 | .neq=> match eqA k x y with
  |some b=> mkB (!b)
  |none=> none
 |_=> none
def Mb (op:BinOp) (k:EqK) (x y:AV):Option AV:=
 match wm x with
 |some (j,a)=> match wm y with
  |some (l,b)=> arith op j a l b
  |none=> none
 |none=> match DX x with
  |some a=> match DX y with
   |some b=> IG op a b
   |none=> none
  |none=> Tw op k x y
def unA (op:UnOp) (x:AV):Option AV:=
 match op,x with
 | .neg,.d (.i k n)=> some (.d (.i k (wrap k (0 - n))))
 | .xor,.d (.i k n)=> mkZ k (bits .xor k (if k.signed then -1 else k.max) n)
 | .not,.d (.b b)=> some (.d (.b (!b)))
 |_,_=> none

def An (tm:List AV) (d:Nat):Option X→Option Nat
 |none=> some d
 |some x=> wO (x.ev tm)
def wC {α:Type} (l:List α) (a b:Nat):List α:=(l.drop a).take (b - a)
def Ou (sz:Nat) (x:AV) (lo:Nat) (hi:Option Nat) (mx:Option Nat):Option AV:=
 match x with
 | .sref b off z n m ex=>
  let h:=hi.getD n
  let c:=mx.getD m
  match Nat.ble lo h && Nat.ble h c && Nat.ble c m && Nat.beq z sz with
  |true=> some (.sref b (off+lo*sz) z (h - lo) (c - lo) (ex || mx.isSome))
  |false=> none
 |_=>
  let v:Option (Bool×Nat×List DV×Bool):=match x with
   | .d (.sl b n cs)=> some (b,n,cs,false)
   | .nilsl=> some (false,0,[],true)
   | .app _ _ n cs=> some (false,n,cs,false)
   | .full b n cs=> some (b,n,cs,true)
   |_=> none
  match v with
  |none=> none
  |some (b,n,cs,full)=>
   let h:=hi.getD n
   match mx with
   |none=> match Nat.ble lo h && Nat.ble h n with
    |true=> match x,Nat.beq lo 0 && Nat.beq h n with
     | .d _,false=> match full with
      |true=> some (.d (.sl b (h - lo) (wC cs (lo*sz) (h*sz))))
      |false=> some (.d (.sl b (h - lo) (wC cs (lo*sz) (h*sz))))
     | .nilsl,_=> some .nilsl
     |x,true=> some x
     | .full _ _ _,false=> match Nat.beq h n with
      |true=> some (.full b (h - lo) (wC cs (lo*sz) (h*sz)))
      |false=> some (.d (.sl b (h - lo) (wC cs (lo*sz) (h*sz))))
     |_,false=> some (.d (.sl b (h - lo) (wC cs (lo*sz) (h*sz))))
    |false=> none
   |some m=> match Nat.ble lo h && Nat.ble h m && Nat.ble m n with
    |true=> match x,Nat.beq h m with
     | .nilsl,_=> some .nilsl
     |_,true=> some (.full b (h - lo) (wC cs (lo*sz) (h*sz)))
     |_,false=> some (.d (.sl b (h - lo) (wC cs (lo*sz) (h*sz))))
    |false=> none

def appA (h:Heap) (e:TypeId) (sz:Nat) (mu:Bool) (x:AV) (k:Nat) (l:List AV):Option (AV×Heap):=
 match k with
 |0=> some (x,h)
 |_=>
 match x with
 | .sref b off z n m ex=> match h.get b with
  |some (.cells fr e' cs)=> match readN cs off (n*sz) with
   |some old=> match Nat.beq e e' && Nat.beq z sz with
    |true=> match Nat.ble (n+k) m with
     |true=> match fr || !(Nat.ble (off+n*sz+l.length) cs.length) with
      |true=> none
      |false=> some (.sref b off z (n+k) m ex,h.set b (.cells false e (y8 cs (off+n*sz) l)))
     |false=> match ex with
      |true=> some (.sref h.n 0 sz (n+k) (n+k) false,h.push (.cells false e (old++l)))
      |false=> match fr || !(Nat.beq off 0) with
       |true=> none
       |false=> some (.sref h.n 0 sz (n+k) (n+k) false,(h.set b .dead).push (.cells false e (old++l)))
    |false=> none
   |none=> none
  |_=> none
 | .app t g n cs=> match h.get t with
  |some (.tok g' e')=> match Nat.beq g g' && Nat.beq e e' with
   |true=> match FB h l with
    |some (ds,h')=> some (.app t (g+1) (n+k) (cs++ds),h'.set t (.tok (g+1) e))
    |none=> none
   |false=> none
  |_=> none
 | .nilsl=> match (match mu with | true=> none | false=> FB h l) with
  |some (ds,h')=> some (.app h'.n 0 k ds,h'.push (.tok 0 e))
  |none=> some (.sref h.n 0 sz k k false,h.push (.cells false e l))
 | .full _ n cs=> match Nat.beq cs.length (n*sz) with
  |true=> match (match mu with | true=> none | false=> FB h l) with
   |some (ds,h')=> some (.app h'.n 0 (n+k) (cs++ds),h'.push (.tok 0 e))
   |none=> some (.sref h.n 0 sz (n+k) (n+k) false,h.push (.cells false e (cs.map .d++l)))
  |false=> none
 |_=> none

def Dy (kk:KK) (a b:DV):Option Bool:=match kk with
 | .one k=> vP k (.d a) (.d b)
 | .many ks=> match a with
  | .agg x=> match b with
   | .agg y=> allEq ks (x.map .d) (y.map .d)
   |_=> none
  |_=> none
def Gb (kk:KK) (k:DV):Bool:=match kk with
 | .one _=> true
 | .many ks=> match k with
  | .agg l=> Nat.beq l.length ks.length
  |_=> false
def yC (kk:KK) (k:DV):List (DV×AV)→Nat→Option (Option (Nat×AV))
 |[],_=> match Gb kk k with
  |true=> some none
  |false=> none
 |(a,v)::r,i=> match Dy kk k a with
  |some true=> some (some (i,v))
  |some false=> yC kk k r (i+1)
  |none=> none
def Ra:List (DV×AV)→Nat→AV→List (DV×AV)
 |[],_,_=> []
 |(k,_)::r,0,v=> (k,v)::r
 |x::r,i+1,v=> x::Ra r i v
def aaK:List (DV×AV)→Nat→List (DV×AV)
 |[],_=> []
 |_::r,0=> r
 |x::r,i+1=> x::aaK r i

def uX (c:Nat):List UInt8→Nat→Int
 |[],_=> -1
 |b::r,i=> match Nat.beq b.toNat c with
  |true=> .ofNat i
  |false=> uX c r (i+1)
def SC:List UInt8→List UInt8→Bool
 |[],_=> true
 |a::x,b::y=> Nat.beq a.toNat b.toNat && SC x y
 |_,_=> false
def Ov (p:List UInt8):List UInt8→Nat→Int
 |[],i=> match p with
  |[]=> .ofNat i
  |_=> -1
 |b::r,i=> match SC p (b::r) with
  |true=> .ofNat i
  |false=> Ov p r (i+1)
def B9 (c:Nat):List UInt8→Nat→Nat
 |[],n=> n
 |b::r,n=> match Nat.beq b.toNat c with
  |true=> B9 c r (n+1)
  |false=> B9 c r n
def bytesOf:AV→Option (List UInt8)
 | .d (.s x)=> some x
 | .d (.sl _ _ cs)=> qm cs
 | .nilsl=> some []
 | .app _ _ _ cs=> qm cs
 | .full _ _ cs=> qm cs
 |_=> none
def KW (h:Heap) (p:Prim) (args:List AV):Option (AV×Heap):=
 match p,args with
 | .indexByte,[.d (.s s),.d (.i .u8 (.ofNat c))]=> match Nat.blt c 256 with
  |true=> some (.d (.i .i64 (uX c s 0)),h)
  |false=> none
 | .index,[x,y]=> match bytesOf x,bytesOf y with
  |some s,some p=> match Nat.ble 2 p.length with
   |true=> some (.d (.i .i64 (Ov p s 0)),h)
   |false=> none
  |_,_=> none
 | .count,[.d (.s s),.d (.i .u8 (.ofNat c))]=> match Nat.blt c 256 with
  |true=> some (.d (.i .i64 (.ofNat (B9 c s 0))),h)
  |false=> none
 | .makeNoZero _,_=> none
 | .vo,[x]=> some (x,h)
 | .overlaps,[x,y]=> match lenOf x,lenOf y with
  |some 0,_=> some (.d (.b false),h)
  |_,some 0=> some (.d (.b false),h)
  |_,_=> none
 |_,_=> none

structure Env where
 fn:Nat→Option AFn
 kQ:Nat→List DV
 Fy:TypeId→String→Option (Nat×Nat×Option (Bool×Nat))
 pr : Nat → Bool    -- functions of the abp that stand as one operation
 err : TypeId       -- what the library's errors on numbers are
 UD : TypeId      -- and what they are within
 deriving Inhabited

inductive Ex where
 |nrm | exit (id:Nat) | ret | pan (v:AV)
 deriving Inhabited

inductive St1 where   -- what an operation comes to
 |val (v:AV) (h:Heap)
 |call (f:FuncId) (args:List AV)
 |yield (l:Nat) (args:List AV)
 |pan (v:AV)
 |uT
 |dfr (f:AV) (args:List AV)
 |bad
 deriving Inhabited

def ov (h:Heap):Option AV→St1
 |some v=> .val v h
 |none=> .bad
def oh:Option (AV×Heap)→St1
 |some (v,h)=> .val v h
 |none=> .bad

def tgt (f:AV) (args:List AV):St1:=match f with
 | .d (.fn (.func g) fs cs)=> .call g (fs.map inj++args++cs.map inj)
 | .fn (.func g) fs cs=> .call g (fs++args++cs)
 | .fn (.yield l) _ _=> .yield l args
 |_=> .bad

def uD (tm:List AV) (cs:List AV):List (Nat×Nat×X)→Option (List AV)
 |[]=> some cs
 |(off,sz,x)::r=>
  let l:=cellsOf (x.ev tm)
  match Nat.beq l.length sz && Nat.ble (off+sz) cs.length && !(l.any isAgg) with
  |true=> uD tm (y8 cs off l) r
  |false=> none

def vv (zs:List AV):Nat→List AV
 |0=> []
 |n+1=> zs++vv zs n

def okCells (l:List AV):Bool:= !(l.any isAgg)

def SE (s:List UInt8) (_pos:Nat):Option (Nat×Nat):=match s with
 |b::r=> match Nat.blt b.toNat 128 with
  |true=> some (b.toNat,1)
  |false=> some (Lib.decodeN (Nat.succ r.length) b.toNat (r.getD 0 0).toNat (r.getD 1 0).toNat (r.getD 2 0).toNat)
 |[]=> none

def IS (h:Heap) (tm:List AV) (x:X):St1:=
 .val (x.ev tm) h
def uN (h:Heap) (tm:List AV) (c:X) (a:X) (b:X):St1:=
 match B8 (c.ev tm) with
  |some true=> .val (a.ev tm) h
  |some false=> .val (b.ev tm) h
  |none=> .bad
def Lh (h:Heap) (e:TypeId) (zs:List AV):St1:=
 .val (.ptr h.n 0) (h.push (.cells false e zs))
def Ez (h:Heap) (tm:List AV) (e:TypeId) (x:X):St1:=
 match okCells (cellsOf (x.ev tm)) with
  |true=> .val (.ptr h.n 0) (h.push (.cells false e (cellsOf (x.ev tm))))
  |false=> .bad
def zF (h:Heap) (tm:List AV) (zs:List AV) (ps:List (Nat×Nat×X)):St1:=
 match uD tm zs ps with
  |some cs=> .val (.agg cs) h
  |none=> .bad
def IT (h:Heap) (tm:List AV) (e:TypeId) (size:Nat) (n:Nat) (zs:List AV) (ps:List (Nat×Nat×X)):St1:=
 match uD tm (vv zs n) ps with
  |some cs=> .val (.sref h.n 0 size n n true) (h.push (.cells false e cs))
  |none=> .bad
def uM (E:Env) (h:Heap) (tm:List AV) (ag:Bool) (n:Nat) (a:X):St1:=
 ov h (loadA E.kQ h ag n (a.ev tm))
def xq (h:Heap) (tm:List AV) (n:Nat) (a:X) (x:X):St1:=
 match Ke h n (a.ev tm) (x.ev tm) with
  |some h'=> .val .und h'
  |none=> .bad
def vw (h:Heap) (tm:List AV) (x:X):St1:=
 match x.ev tm with
  | .ptr b o=> .val (.ptr b o) h
  | .kQ b o=> .val (.kQ b o) h
  | .d (.bx b cs o)=> .val (.d (.bx b cs o)) h
  | .fn f fs cs=> match Lg f with
   |true=> .val (.fn f fs cs) h
   |false=> .bad
  | .d (.fn f fs cs)=> match Lg f with
   |true=> .val (.d (.fn f fs cs)) h
   |false=> .bad
  | .ifc t a=> .val (.ifc t a) h
  | .d (.ifc t a)=> .val (.d (.ifc t a)) h
  |_=> .bad
def wS (h:Heap) (tm:List AV) (op:BinOp) (k:EqK) (x:X) (y:X):St1:=
 ov h (Mb op k (x.ev tm) (y.ev tm))
def FC (h:Heap) (tm:List AV) (op:UnOp) (x:X):St1:=
 ov h (unA op (x.ev tm))
def B_ (h:Heap) (tm:List AV) (k:IntKind) (x:X):St1:=
 match wm (x.ev tm) with
  |some (_,n)=> .val (.d (.i k (wrap k n))) h
  |none=> .bad
def EA (h:Heap) (tm:List AV) (x:X):St1:=match DX (x.ev tm) with
 |some s=> .val (.d (.s s)) h
 |none=> .bad
def Am (h:Heap) (tm:List AV) (u:Option (TypeId×Nat)) (x:X):St1:=match x.ev tm with
 | .ptr b o=> match h.get b with
  | some (.cells _ e cs) => match (match u with
    |none=> Nat.blt o cs.length
    |some (t,sz)=> Nat.beq e t && Nat.beq o 0 && Nat.blt 0 sz && Nat.ble sz cs.length) with
   |true=> .val (.ptr b o) h
   |false=> .bad
  |_=> .bad
 |_=> .bad
def EB (h:Heap) (tm:List AV) (_e:TypeId) (x:X):St1:=
 match x.ev tm with
  | .d (.s l)=> .val (.d (.sl false l.length (bytesD l))) h
  |_=> .bad
def vJ (h:Heap) (tm:List AV) (x:X):St1:=
 match slView h 1 (x.ev tm) with
  |some (_,l)=> match stripL l with
   |some ds=> match qm ds with
    |some s=> .val (.d (.s s)) h
    |none=> .bad
   |none=> .bad
  |none=> .bad
def Bt (h:Heap) (tm:List AV) (t:TypeId) (x:X):St1:=
 .val (.ifc t (x.ev tm)) h
def EC (h:Heap) (tm:List AV) (f:Fn) (fs:List X) (cs:List X):St1:=
 .val (.fn f (fs.map (X.ev tm)) (cs.map (X.ev tm))) h
def Li (h:Heap)  :St1:=
 .val (.uo h.n) (h.push (.map []))
def Bu (h:Heap) (tm:List AV) (e:TypeId) (size:Nat) (bytes:Nat) (zs:List AV) (l:X) (c:X):St1:=
 match wO (l.ev tm),wO (c.ev tm) with
  |some n,some m=> match Nat.ble n m && Nat.ble (m*bytes) 140737488355328 && Nat.ble m 140737488355328 with
   |true=> .val (.sref h.n 0 size n m true) (h.push (.cells false e (vv zs m)))
   |false=> .bad
  |_,_=> .bad
def yQ (h:Heap) (tm:List AV) (size:Nat) (x:X) (lo:Option X) (hi:Option X) (mx:Option X):St1:=
 
  match An tm 0 lo,(match hi with | none=> some none | some y=> (wO (y.ev tm)).map some),(match mx with | none=> some none | some y=> (wO (y.ev tm)).map some) with
  |some l,some hh,some mm=> ov h (Ou size (x.ev tm) l hh mm)
  |_,_,_=> .bad
def qE (h:Heap) (tm:List AV) (x:X) (lo:Option X) (hi:Option X):St1:=
 match x.ev tm with
  | .d (.s s)=> match An tm 0 lo,An tm s.length hi with
   |some l,some r=> match Nat.ble l r && Nat.ble r s.length with
    |true=> .val (.d (.s (wC s l r))) h
    |false=> .bad
   |_,_=> .bad
  |_=> .bad
def zG (h:Heap) (tm:List AV) (n:Nat) (size:Nat) (x:X) (lo:Option X) (hi:Option X) (mx:Option X):St1:=
 
  match An tm 0 lo,An tm n hi,An tm n mx with
  |some l,some r,some m=> match Nat.ble l r && Nat.ble r m && Nat.ble m n with
   |true=> match x.ev tm with
    | .ptr b off=> .val (.sref b (off+l*size) size (r - l) (m - l) true) h
    | .d (.bx b cs off)=> match Nat.ble (off+m*size) cs.length with
     | true => .val (match Nat.beq r m with
      |true=> .full b (r - l) (wC cs (off+l*size) (off+r*size))
      |false=> .d (.sl b (r - l) (wC cs (off+l*size) (off+r*size)))) h
     |false=> .bad
    |_=> .bad
   |false=> .bad
  |_,_,_=> .bad
def zH (h:Heap) (tm:List AV) (off:Nat) (x:X):St1:=
 match x.ev tm with
  | .ptr b o=> .val (.ptr b (o+off)) h
  | .kQ b o=> .val (.kQ b (o+off)) h
  | .d (.bx b cs o)=> .val (.d (.bx b cs (o+off))) h
  |_=> .bad
def Ca (h:Heap) (tm:List AV) (off:Nat) (ag:Bool) (n:Nat) (x:X):St1:=
 match x.ev tm with
  | .agg cs=> match readN cs off n with
   |some l=> ov h (one ag l)
   |none=> .bad
  |_=> .bad
def As (h:Heap) (tm:List AV) (size:Nat) (x:X) (i:X):St1:=
 match wO (i.ev tm) with
  |some j=> match x.ev tm with
   | .sref b off _ n _ _=> match Nat.blt j n with
    |true=> .val (.ptr b (off+j*size)) h
    |false=> .bad
   | .d (.sl b n cs)=> match Nat.blt j n with
    |true=> .val (.d (.bx b cs (j*size))) h
    |false=> .bad
   | .app _ _ n cs=> match Nat.blt j n with
    |true=> .val (.d (.bx false cs (j*size))) h
    |false=> .bad
   | .full b n cs=> match Nat.blt j n with
    |true=> .val (.d (.bx b cs (j*size))) h
    |false=> .bad
   |_=> .bad
  |none=> .bad
def Au (h:Heap) (tm:List AV) (n:Nat) (size:Nat) (x:X) (i:X):St1:=
 match wO (i.ev tm) with
  |some j=> match Nat.blt j n with
   |true=> match x.ev tm with
    | .ptr b off=> .val (.ptr b (off+j*size)) h
    | .kQ b off=> .val (.kQ b (off+j*size)) h
    | .d (.bx b cs o)=> .val (.d (.bx b cs (o+j*size))) h
    |_=> .bad
   |false=> .bad
  |none=> .bad
def Cb (h:Heap) (tm:List AV) (n:Nat) (size:Nat) (ag:Bool) (k:Nat) (x:X) (i:X):St1:=
 match wO (i.ev tm),x.ev tm with
  |some j,.agg cs=> match Nat.blt j n with
   |true=> match readN cs (j*size) k with
    |some l=> ov h (one ag l)
    |none=> .bad
   |false=> .bad
  |_,_=> .bad
def yX (h:Heap) (tm:List AV) (x:X) (i:X):St1:=
 match wO (i.ev tm),x.ev tm with
  |some j,.d (.s s)=> match s[j]? with
   |some b=> .val (.d (byteD b)) h
   |none=> .bad
  |_,_=> .bad
def vC (h:Heap) (tm:List AV) (kk:KK) (ag:Bool) (zs:List AV) (ok:Bool) (m:X) (k:X):St1:=
 match strip (k.ev tm) with
  |none=> .bad
  |some kd=>
   let es:Option (List (DV×AV)):=match m.ev tm with
    | .d .xN=> some []
    | .uo b=> match h.get b with
     |some (.map es)=> some es
     |_=> none
    |_=> none
   match es with
   |none=> .bad
   |some es=> match yC kk kd es 0 with
    |some (some (_,v))=> .val (match ok with | true=> .tup [v,.d (.b true)] | false=> v) h
    |some none=> match one ag zs with
     |some z=> .val (match ok with | true=> .tup [z,.d (.b false)] | false=> z) h
     |none=> .bad
    |none=> .bad
def Bv (h:Heap) (tm:List AV) (kk:KK) (m:X) (k:X) (v:X):St1:=
 match m.ev tm,strip (k.ev tm) with
  | .uo b,some kd=> match h.get b with
   |some (.map es)=> match yC kk kd es 0 with
    |some (some (i,_))=> .val .und (h.set b (.map (Ra es i (v.ev tm))))
    |some none=> .val .und (h.set b (.map (es++ [(kd,v.ev tm)])))
    |none=> .bad
   |_=> .bad
  |_,_=> .bad
def ED (h:Heap) (tm:List AV) (str:Bool) (x:X):St1:=
 match str,x.ev tm with
  |true,.d (.s s)=> .val (.itr h.n) (h.push (.sit s 0))
  |_,_=> .bad
def EE (h:Heap) (tm:List AV) (str:Bool) (x:X):St1:=
 match str,x.ev tm with
  |true,.itr b=> match h.get b with
   |some (.sit [] _)=> .val (.tup [.d (.b false)]) h
   |some (.sit (c::s) pos)=> match SE (c::s) pos with
    |some (r,w)=> .val (.tup [.d (.b true),mkI pos,.d (.i .i32 r)]) (h.set b (.sit ((c::s).drop w) (pos+w)))
    |none=> .bad
   |_=> .bad
  |_,_=> .bad
def aaL  :St1:=
 .bad
def Cc (h:Heap) (tm:List AV) (t:TypeId) (ag:Bool) (zs:List AV) (ok:Bool) (x:X):St1:=
 match x.ev tm with
  | .ifc u a=> match Nat.beq u t with
   |true=> .val (match ok with | true=> .tup [a,.d (.b true)] | false=> a) h
   |false=> match ok,one ag zs with
    |true,some z=> .val (.tup [z,.d (.b false)]) h
    |_,_=> .bad
  | .d (.ifc u a)=> match Nat.beq u t with
   |true=> .val (match ok with | true=> .tup [inj a,.d (.b true)] | false=> inj a) h
   |false=> match ok,one ag zs with
    |true,some z=> .val (.tup [z,.d (.b false)]) h
    |_,_=> .bad
  | .d .nili=> match ok,one ag zs with
    |true,some z=> .val (.tup [z,.d (.b false)]) h
    |_,_=> .bad
  |_=> .bad
def zI (h:Heap) (tm:List AV) (x:X) (i:Nat):St1:=
 match x.ev tm with
  | .tup l=> match l[i]? with
   |some a=> .val a h
   |none=> .bad
  |_=> .bad
def GZ (tm:List AV) (f:FuncId) (args:List X):St1:=
 .call f (args.map (X.ev tm))
def G4 (tm:List AV) (f:X) (args:List X):St1:=
 tgt (f.ev tm) (args.map (X.ev tm))
def IU (E:Env) (h:Heap) (tm:List AV) (x:X) (m:String) (args:List X):St1:=
 match x.ev tm with
  | .ifc t (.ptr b off)=> match E.Fy t m with
   |some (f,o,none)=> .call f (.ptr b (off+o)::args.map (X.ev tm))
   |some (f,o,some (ag,n))=> match loadA E.kQ h ag n (.ptr b (off+o)) with
    |some v=> .call f (v::args.map (X.ev tm))
    |none=> .bad
   |none=> .bad
  |_=> .bad
def Al (E:Env) (h:Heap) (tm:List AV) (f:Nat) (p:Prim) (args:List X):St1:=
 match E.pr f with
  |true=> oh (KW h p (args.map (X.ev tm)))
  |false=> .bad
def yc (f : Nat) : Nat → List UInt8 → List UInt8 := Nat.rec (fun _ acc => acc) (fun _ ih u acc => match Nat.blt u 10 with
 |true=> UInt8.ofNat (48+u)::acc
 |false=> ih (Nat.div u 10) (UInt8.ofNat (48+Nat.mod u 10)::acc)) f
def wT:Int→List UInt8
 | .ofNat u=> yc 20 u []
 | .negSucc u=> 45::yc 20 (Nat.succ u) []
def JU (te te0:TypeId) (k:C4) (args:List AV):Option AV:=match k,args with
 | .itoa,[.d (.i .i64 n)]=> match inR .i64 n with
  |true=> some (.d (.s (wT n)))
  |false=> none
 | .Bg,[.d (.i .i64 n),.d (.i .i64 (.ofNat b))]=> match inR .i64 n && Nat.beq b 10 with
  |true=> some (.d (.s (wT n)))
  |false=> none
 | .atoi,[.d (.s s)]=> match Nat.ble s.length 281474976710656 with
  |true=> match Lib.atoiAll s with
   | .ok v=> some (.tup [.d (.i .i64 v),.d .nili])
   | .range=> some (.tup [.d (.i .i64 (Lib.atoiSat s)),.d (.ifc te (.bx false [] 0))])
   |_=> some (.tup [.d (.i .i64 0),.d (.ifc te (.bx false [] 0))])
  |false=> none
 | .wD,[.d (.s s),.d (.i .i64 (.ofNat b)),.d (.i .i64 (.ofNat c))]=> match Nat.ble s.length 281474976710656 && Nat.beq b 10 && Nat.beq c 64 with
  |true=> match Lib.atoiAll s with
   | .ok v=> some (.tup [.d (.i .i64 v),.d .nili])
   | .range=> some (.tup [.d (.i .i64 (Lib.atoiSat s)),.d (.ifc te (.bx false [] 0))])
   |_=> some (.tup [.d (.i .i64 0),.d (.ifc te (.bx false [] 0))])
  |false=> none
 | .C5,[.d (.s s)]=> match Nat.ble s.length 281474976710656 with
  |true=> some (.d (.s s))
  |false=> none
 | .El,[.d (.s _),.d (.s s),.d (.i .i64 _),.d (.i .i64 _),.ifc t (.d (.i .i64 n))]=> match Nat.beq t te0 && Nat.ble s.length 281474976710656 && (iEq n 1 || iEq n 2) with
  |true=> some (.d (.ifc te (.bx false [] 0)))
  |false=> none
 |_,_=> none
def yx (E:Env) (h:Heap) (tm:List AV) (f:Nat) (k:C4) (args:List X):St1:=
 match E.pr f with
  |true=> ov h (JU E.err E.UD k (args.map (X.ev tm)))
  |false=> .bad
def vM (h:Heap) (tm:List AV) (k:Nat) (x:X):St1:=match k with
 |0=> match DX (x.ev tm) with
  |some s=> .val (mkI s.length) h
  |none=> .bad
 |1=> match lenOf (x.ev tm) with
  |some n=> .val (mkI n) h
  |none=> .bad
 |_=> match x.ev tm with
  | .d .xN=> .val (mkI 0) h
  | .uo b=> match h.get b with
   |some (.map es)=> .val (mkI es.length) h
   |_=> .bad
  |_=> .bad
def C8 (h:Heap) (n:Nat):St1:=
 .val (mkI n) h
def Ce (h:Heap) (tm:List AV) (x:X):St1:=
 match x.ev tm with
  | .nilsl=> .val (mkI 0) h
  | .full _ n _=> .val (mkI n) h
  | .sref _ _ _ _ m true=> .val (mkI m) h
  |_=> .bad
def s_app (h:Heap) (tm:List AV) (e:TypeId) (size:Nat) (bytes:Nat) (mu:Bool) (x:X) (y:X):St1:=
 match srcView h size (y.ev tm),lenOf (x.ev tm) with
  |some (k,l),some n=> match Nat.ble ((n+k)*bytes) 70368744177664 && Nat.ble (n+k) 70368744177664 && okCells l with
   |true=> oh (appA h e size mu (x.ev tm) k l)
   |false=> .bad
  |_,_=> .bad
def Bw (h:Heap) (tm:List AV) (e:TypeId) (size:Nat) (bytes:Nat) (zs:List AV) (x:X) (n:X):St1:=
 match wO (n.ev tm),lenOf (x.ev tm) with
  |some k,some m=> match Nat.ble ((m+k)*bytes) 70368744177664 && Nat.ble (m+k) 70368744177664 && okCells zs with
   |true=> oh (appA h e size true (x.ev tm) k (vv zs k))
   |false=> .bad
  |_,_=> .bad
def By (h:Heap) (tm:List AV) (size:Nat) (x:X) (y:X):St1:=
 match srcView h size (y.ev tm),x.ev tm with
  |some (k,l),.sref b off _ n _ _=> match h.get b with
   |some (.cells false e cs)=>
    let c:=min k n
    match Nat.ble (off+c*size) cs.length && okCells (l.take (c*size)) with
    |true=> .val (mkI c) (h.set b (.cells false e (y8 cs off (l.take (c*size)))))
    |false=> .bad
   |_=> .bad
  |some (_,_),v=> match lenOf v with
   |some 0=> .val (mkI 0) h
   |_=> .bad
  |none,_=> .bad
def IV (h:Heap) (tm:List AV) (kk:KK) (m:X) (k:X):St1:=
 match m.ev tm,strip (k.ev tm) with
  | .uo b,some kd=> match h.get b with
   |some (.map es)=> match yC kk kd es 0 with
    |some (some (i,_))=> .val (.tup []) (h.set b (.map (aaK es i)))
    |some none=> .val (.tup []) h
    |none=> .bad
   |_=> .bad
  |_,_=> .bad
def Kg (h:Heap) (tm:List AV) (l:List X):St1:=
 match l.map (fun x=> wm (x.ev tm)) with
  |[some (k,a),some (_,b)]=> .val (.d (.i k (match iLt b a with | true=> b | false=> a))) h
  |_=> .bad
def Kh (h:Heap) (tm:List AV) (l:List X):St1:=
 match l.map (fun x=> wm (x.ev tm)) with
  |[some (k,a),some (_,b)]=> .val (.d (.i k (match iLt a b with | true=> b | false=> a))) h
  |_=> .bad
def zJ (tm:List AV) (x:X):St1:=
 match x.ev tm with
  | .ifc t a=> .pan (.ifc t a)
  | .d (.ifc t a)=> .pan (.d (.ifc t a))
  |_=> .bad
def Rb  :St1:=
 .uT
def IW (tm:List AV) (f:X) (args:List X):St1:=
 match f.ev tm with
  | .fn g fs cs=> match Ba g with
   |true=> .dfr (.fn g fs cs) (args.map (X.ev tm))
   |false=> .bad
  | .d (.fn g fs cs)=> match Ba g with
   |true=> .dfr (.d (.fn g fs cs)) (args.map (X.ev tm))
   |false=> .bad
  |_=> .bad
def BU (h:Heap) (tm:List AV) (x:X):St1:=
 match x.ev tm with
  | .nilsl=> .val (.d .sG) h
  | .app t g (_+1) cs=> match h.get t with
   |some (.tok g' e)=> match Nat.beq g g' with
    |true=> .val (.x_ t g e cs) h
    |false=> .bad
   |_=> .bad
  |_=> .bad
def isB:DV→Bool
 | .i .u8 (.ofNat n)=> Nat.blt n 256
 |_=> false
def BS (h:Heap) (tm:List AV) (el:TypeId) (x:X) (n:X):St1:=
 match n.ev tm with
 | .d (.i .i64 (.ofNat k))=> match k with
  |0=> match x.ev tm with
   | .x_ _ _ _ _=> .val (.d (.s [])) h
   | .d .sG=> .val (.d (.s [])) h
   |_=> .bad
  |_+1=> match x.ev tm with
   | .x_ t g _ cs=> match h.get t with
    |some (.tok g' e')=> match Nat.beq g g' && Nat.beq e' el && Nat.ble k cs.length && Nat.ble cs.length 70368744177664 && (cs.take k).all isB with
     |true=> match qm (cs.take k) with
      |some s=> .val (.d (.s s)) (h.set t (.tok (g+1) e'))
      |none=> .bad
     |false=> .bad
    |_=> .bad
   |_=> .bad
 |_=> .bad
def xu (E:Env) (h:Heap) (tm:List AV) (f:Nat) (e:TypeId) (size bytes:Nat) (mu:Bool) (x:X):St1:=
 match E.pr f with
  |true=> match slView h size (x.ev tm) with
   |some _=> s_app h tm e size bytes mu (.c (.full false 0 [])) x
   |none=> .bad
  |false=> .bad
def EF (h:Heap) (tm:List AV) (e:TypeId) (size:Nat) (mu:Bool) (x:X) (n:X):St1:=
 match x.ev tm,wO (n.ev tm) with
  | .nilsl,some _=> match mu with
   |true=> .val (.sref h.n 0 size 0 0 false) (h.push (.cells false e []))
   |false=> .val (.app h.n 0 0 []) (h.push (.tok 0 e))
  |_,_=> .bad
def xw (E:Env) (h:Heap) (tm:List AV) (f:Nat) (e:TypeId) (x i v:X):St1:=
 match E.pr f with
  |true=> match i.ev tm,v.ev tm with
   | .d (.i .i64 (.ofNat j)),.sref b2 off2 z2 n2 _ _=> match Nat.beq z2 1 && Nat.beq n2 1,h.get b2 with
    |true,some (.cells fr2 _ c2)=> match readN c2 off2 1,fr2 with
     |some [.d y],false=> match x.ev tm with
      | .nilsl=> match Nat.beq j 0 && okCells [.d y] with
       |true=> .val (.sref h.n 0 1 1 1 false) (h.push (.cells false e [.d y]))
       |false=> .bad
      | .full _ n cs=> match Nat.ble j n && Nat.beq cs.length n && Nat.ble n 1000000 && okCells [.d y] && okCells (cs.map .d) with
       |true=> .val (.sref h.n 0 1 (n+1) (n+1) false) (h.push (.cells false e ((cs.map .d).take j++ .d y::(cs.map .d).drop j)))
       |false=> .bad
      | .sref b off z n _ ex=> match h.get b with
       |some (.cells fr e' cs)=> match readN cs off n with
        |some old=> match Nat.ble j n && Nat.beq off 0 && Nat.beq z 1 && !(fr || ex || Nat.beq b b2) && Nat.beq e e' && Nat.ble n 1000000 && okCells [.d y] && okCells old with
         |true=> .val (.sref h.n 0 1 (n+1) (n+1) false) ((h.set b .dead).push (.cells false e (old.take j++ .d y::old.drop j)))
         |false=> .bad
        |none=> .bad
       |_=> .bad
      |_=> .bad
     |_,_=> .bad
    |_,_=> .bad
   |_,_=> .bad
  |false=> .bad
def EG (h:Heap) (tm:List AV) (e:TypeId) (size:Nat) (zs:List AV) (x:X) (i:X) (j:X):St1:=
 match wO (i.ev tm),wO (j.ev tm),x.ev tm with
  |some a,some c,.sref b off z n m ex=> match h.get b with
   |some (.cells false _ cs)=> match readN cs off (n*size),Nat.ble a c,Nat.ble c n with
    |some old,true,true=> .val (.sref b off z (n - (c - a)) m ex) (h.set b (.cells false e (y8 cs off (old.take (a*size)++old.drop (c*size)++vv zs (c - a)))))
    |_,_,_=> .bad
   |_=> .bad
  |_,_,_=> .bad
def zK (E:Env) (h:Heap) (tm:List AV) (f:Nat) (eb:TypeId) (x:X) (n:X):St1:=
 match E.pr f with
 |true=> match x.ev tm,n.ev tm with
  | .ptr b 0,.d (.i .i64 (.ofNat k))=> match Nat.ble k 281474976710656,h.get b with
   |true,some (.cells false e cs)=> match readN cs 1 1 with
    |some [.nilsl]=> .val (.tup []) ((h.push (.tok 0 eb)).set b (.cells false e (y8 cs 1 [.app h.n 0 0 []])))
    |_=> .bad
   |_,_=> .bad
  |_,_=> .bad
 |false=> .bad
def EH (h:Heap) (tm:List AV) (x:X):St1:=
 match wm (x.ev tm) with
  |some (_,.ofNat n)=> match Nat.blt n 128 with
   |true=> .val (.d (.s [UInt8.ofNat n])) h
   |false=> .bad
  |_=> .bad
def Cf (h:Heap) (tm:List AV) (n:Nat) (x:X):St1:=
 match x.ev tm with
  | .sref b off _ k _ _=> match Nat.ble n k && Nat.blt 0 n with
   |true=> .val (.ptr b off) h
   |false=> .bad
  | .d (.sl b k cs)=> match Nat.ble n k && Nat.blt 0 n with
   |true=> .val (.d (.bx b cs 0)) h
   |false=> .bad
  | .app _ _ k cs=> match Nat.ble n k && Nat.blt 0 n with
   |true=> .val (.d (.bx false cs 0)) h
   |false=> .bad
  | .full b k cs=> match Nat.ble n k && Nat.blt 0 n with
   |true=> .val (.d (.bx b cs 0)) h
   |false=> .bad
  |_=> .bad
def IX (h:Heap) (tm:List AV) (size:Nat) (zs:List AV) (x:X):St1:=
 match x.ev tm with
  | .sref b off _ n _ _=> match h.get b with
   |some (.cells false e cs)=> match Nat.ble (off+n*size) cs.length && okCells zs with
    |true=> .val (.tup []) (h.set b (.cells false e (y8 cs off (vv zs n))))
    |false=> .bad
   |_=> .bad
  |v=> match lenOf v with
   |some 0=> .val (.tup []) h
   |_=> .bad
def aaM  :St1:=
 .bad

def gI (o:COp):Env→Heap→List AV→St1:=
 match o with
 | .mv x=> fun _ h tm=> IS h tm x
 | .pick c a b=> fun _ h tm=> uN h tm c a b
 | .alloc e zs=> fun _ h _=> Lh h e zs
 | .box e x=> fun _ h tm=> Ez h tm e x
 | .build zs ps=> fun _ h tm=> zF h tm zs ps
 | .bsl e size n zs ps=> fun _ h tm=> IT h tm e size n zs ps
 | .load ag n a=> fun E h tm=> uM E h tm ag n a
 | .store n a x=> fun _ h tm=> xq h tm n a x
 | .Ew x=> fun _ h tm=> vw h tm x
 | .bin op k x y=> fun _ h tm=> wS h tm op k x y
 | .un op x=> fun _ h tm=> FC h tm op x
 | .cvi k x=> fun _ h tm=> B_ h tm k x
 | .cvS x=> fun _ h tm=> EA h tm x
 | .cvP u x=> fun _ h tm=> Am h tm u x
 | .s2b e x=> fun _ h tm=> EB h tm e x
 | .b2s x=> fun _ h tm=> vJ h tm x
 | .Ol t x=> fun _ h tm=> Bt h tm t x
 | .Mr f fs cs=> fun _ h tm=> EC h tm f fs cs
 | .IL  => fun _ h _=> Li h 
 | .IM e size bytes zs l c=> fun _ h tm=> Bu h tm e size bytes zs l c
 | .Kc size x lo hi mx=> fun _ h tm=> yQ h tm size x lo hi mx
 | .Ey x lo hi=> fun _ h tm=> qE h tm x lo hi
 | .F8 n size x lo hi mx=> fun _ h tm=> zG h tm n size x lo hi mx
 | .Om off x=> fun _ h tm=> zH h tm off x
 | .fld off ag n x=> fun _ h tm=> Ca h tm off ag n x
 | .iaS size x i=> fun _ h tm=> As h tm size x i
 | .iaA n size x i=> fun _ h tm=> Au h tm n size x i
 | .ixA n size ag k x i=> fun _ h tm=> Cb h tm n size ag k x i
 | .ixS x i=> fun _ h tm=> yX h tm x i
 | .look kk ag zs ok m k=> fun _ h tm=> vC h tm kk ag zs ok m k
 | .On kk m k v=> fun _ h tm=> Bv h tm kk m k v
 | .rng str x=> fun _ h tm=> ED h tm str x
 | .nxt str x=> fun _ h tm=> EE h tm str x
 | .ent _=> fun _ _ _=> aaL 
 | .tas t ag zs ok x=> fun _ h tm=> Cc h tm t ag zs ok x
 | .Oo x i=> fun _ h tm=> zI h tm x i
 | .F9 f args=> fun _ _ tm=> GZ tm f args
 | .oU f args=> fun _ _ tm=> G4 tm f args
 | .inv x m args=> fun E h tm=> IU E h tm x m args
 | .Et f p args=> fun E h tm=> Al E h tm f p args
 | .lib f k args=> fun E h tm=> yx E h tm f k args
 | .len k x=> fun _ h tm=> vM h tm k x
 | .IN n=> fun _ h _=> C8 h n
 | .cap x=> fun _ h tm=> Ce h tm x
 | .app e size bytes mu x y=> fun _ h tm=> s_app h tm e size bytes mu x y
 | .Oq e size bytes zs x n=> fun _ h tm=> Bw h tm e size bytes zs x n
 | .copy size x y=> fun _ h tm=> By h tm size x y
 | .del kk m k=> fun _ h tm=> IV h tm kk m k
 | .mn l=> fun _ h tm=> Kg h tm l
 | .mx l=> fun _ h tm=> Kh h tm l
 | .panic x=> fun _ _ tm=> zJ tm x
 | .uT  => fun _ _ _=> Rb 
 | .dfr f args=> fun _ _ tm=> IW tm f args
 | .ssd x=> fun _ h tm=> BU h tm x
 | .uss e x n=> fun _ h tm=> BS h tm e x n
 | .clone f e size bytes mu x=> fun E h tm=> xu E h tm f e size bytes mu x
 | .grow e size mu x n=> fun _ h tm=> EF h tm e size mu x n
 | .Be f e x i v=> fun E h tm=> xw E h tm f e x i v
 | .Ms e size zs x i j=> fun _ h tm=> EG h tm e size zs x i j
 | .F_ f eb x n=> fun E h tm=> zK E h tm f eb x n
 | .i2s x=> fun _ h tm=> EH h tm x
 | .s2a n x=> fun _ h tm=> Cf h tm n x
 | .clr size zs x=> fun _ h tm=> IX h tm size zs x
 | .bad  => fun _ _ _=> aaM 

section
variable (bor : Bool) (mv : Heap → Heap → Nat → Option (Nat × Heap × Heap))
mutual
def qY:Heap→Heap→AV→Option (AV×Heap×Heap)
 |h1,h,.app t g n cs=> match h1.get t with
  |some (.tok g' e)=> match Nat.beq g g' with
   |true=> match bor && !(uk cs) with
    |true=> none
    |false=> some (.app h.n 0 n cs,h1.set t .dead,h.push (.tok 0 e))
   |false=> match bor && !(uk cs) with
    |true=> none
    |false=> some (.d (.sl false n cs),h1,h)
  |_=> match bor && !(uk cs) with
   |true=> none
   |false=> some (.d (.sl false n cs),h1,h)
 |h1,h,.sref b off sz n m ex=> match mv h1 h b with
  |some (b',h1',h')=> some (.sref b' off sz n m ex,h1',h')
  |none=> none
 |h1,h,.ptr b off=> match yP fz3 h1 (.sref b 0 1 0 0 false) with
  |some (_,h1')=> match h1'.get b with
   |some (.cells true _ cs)=> match stripL cs with
    |some ds=> match bor && !(uk ds) with
     |true=> none
     |false=> some (.d (.bx false ds off),h1',h)
    |none=> none
   |_=> none
  |none=> none
 |h1,h,.agg cs=> match xA h1 h cs with
  |some (l,a,b)=> some (.agg l,a,b)
  |none=> none
 |h1,h,.tup cs=> match xA h1 h cs with
  |some (l,a,b)=> some (.tup l,a,b)
  |none=> none
 |h1,h,.ifc t a=> match qY h1 h a with
  |some (v,a,b)=> some (.ifc t v,a,b)
  |none=> none
 |h1,h,.fn g fs cs=> match Ba g with
  |true=> match xA h1 h fs with
   |some (l1,a1,b1)=> match xA a1 b1 cs with
    |some (l2,a2,b2)=> some (.fn g l1 l2,a2,b2)
    |none=> none
   |none=> none
  |false=> none
 |h1,h,.d x=> match bor && !(clean x) with
  |true=> none
  |false=> some (.d x,h1,h)
 |h1,h,.nilsl=> some (.nilsl,h1,h)
 |h1,h,.full b n cs=> match bor && (b || !(uk cs)) with
  |true=> none
  |false=> some (.full b n cs,h1,h)
 |h1,h,.kQ g o=> some (.kQ g o,h1,h)
 |_,_,_=> none
def xA:Heap→Heap→List AV→Option (List AV×Heap×Heap)
 |h1,h,a::r=> match qY h1 h a with
  |some (v,a1,b1)=> match xA a1 b1 r with
   |some (l,a2,b2)=> some (v::l,a2,b2)
   |none=> none
  |none=> none
 |h1,h,[]=> some ([],h1,h)
end
end
def Rc (bor:Bool):List AV→Bool
 |[]=> true
 |a::r=> match a with
  | .d x=> match bor && !(clean x) with
   |true=> false
   |false=> Rc bor r
  |_=> false
def Cg (bor:Bool) (mv:Heap→Heap→Nat→Option (Nat×Heap×Heap)) (h1 h:Heap) (b:Nat):Option (Nat×Heap×Heap):=match h1.get b with
 |some (.cells fr e cs)=> match Rc bor cs with
  |true=> some (h.n,h1.set b .dead,h.push (.cells fr e cs))
  |false=> match xA bor mv (h1.set b .dead) h cs with
   |some (l,h1',h')=> some (h'.n,h1',h'.push (.cells fr e l))
   |none=> none
 |_=> none
def aaN (bor:Bool):Heap→Heap→Nat→Option (Nat×Heap×Heap):=Cg bor (Cg bor (Cg bor (Cg bor (fun _ _ _=> none))))
def mv3 (bor:Bool):Heap→Heap→Nat→Option (Nat×Heap×Heap):=Cg bor (Cg bor (Cg bor (aaN bor)))
def Bz (bor:Bool) (h1 h:Heap) (v:AV):Option (AV×Heap×Heap):=match v with
 | .d x=> match bor && !(clean x) with
  |true=> none
  |false=> some (.d x,h1,h)
 | .nilsl=> some (.nilsl,h1,h)
 |v=> qY bor (mv3 bor) h1 h v
def y9 (bor:Bool) (h1 h:Heap) (v:AV):Option (AV×Heap×Heap):=match v with
 | .tup l=> match List.rec (motive:=fun _=> Heap→Heap→Option (List AV×Heap×Heap)) (fun h1 h=> some ([],h1,h))
   (fun a _ ih h1 h => match Bz bor h1 h a with
    |some (v,a1,b1)=> match ih a1 b1 with
     |some (l,a2,b2)=> some (v::l,a2,b2)
     |none=> none
    |none=> none) l h1 h with
  |some (l,a,b)=> some (.tup l,a,b)
  |none=> none
 |v=> Bz bor h1 h v

mutual
def sP:AV→Bool
 | .d x=> clean x
 | .full b _ cs=> !b && uk cs
 | .fn g fs cs=> Ba g && zL fs && zL cs
 | .ifc _ a=> sP a
 | .agg l=> zL l
 | .tup l=> zL l
 | .nilsl=> true
 | .kQ .. => true
 |_=> false
def zL:List AV→Bool
 |[]=> true
 |a::r=> sP a && zL r
end

def stripArgs (h:Heap) (l:List AV):Option (List DV×Bool):=
 List.rec (some ([],false)) (fun a _ ih => match borrow h a with
  |some (d,x)=> match ih with
   |some (l,y)=> some (d::l,x || y)
   |none=> none
  |none=> none) l

def resV (E:Env) (h:Heap) (tm:List AV):RV→Option AV
 | .tmp t=> some (getL tm t)
 | .cell t ag n=> loadA E.kQ h ag n (getL tm t)
def L_ (E:Env) (h:Heap) (tm:List AV):List RV→Option (List AV)
 |[]=> some []
 |r::rs=> match resV E h tm r with
  |some v=> match L_ E h tm rs with
   |some l=> some (v::l)
   |none=> none
  |none=> none
def results (E:Env) (h:Heap) (tm:List AV) (rs:List RV):Option AV:=match L_ E h tm rs with
 |some [v]=> some v
 |some l=> some (.tup l)
 |none=> none

def rep (n:Nat):List AV:=Nat.rec [] (fun _ ih=> .und::ih) n

abbrev Res:=Option (Ex×Fr×Heap)
abbrev G5 := Option (Ex × AV × Heap)    -- a call: nrm with its value,or pan

def wanted (tm:List AV):Option (Nat×Bool)→Bool
 |none=> true
 |some (t,b)=> match getL tm t with
  | .d (.b x)=> match x,b with
   |true,true=> true
   |false,false=> true
   |_,_=> false
  |_=> false

def lW (fr:Fr) (o:Option Nat) (v:AV):Fr:=match o with
 |none=> fr
 |some d=> match fr with
  |⟨tm,ds,p⟩=> ⟨setL tm d v,ds,p⟩

def Mv:Fn→Fn→Bool
 | .func a,.func b=> Nat.beq a b
 | .yield a,.yield b=> Nat.beq a b
 |f,g=> decide (f=g)
mutual
def tY:DV→DV→Bool
 | .b x,.b y=> x==y
 | .i j x,.i k y=> Br j k && iEq x y
 | .s x,.s y=> strEq x y
 | .sG,.sG | .yj,.yj | .nili,.nili | .xN,.xN | .nsl,.nsl=> true
 | .sl a n x,.sl b m y=> (a==b) && Nat.beq n m && xO x y
 | .bx a x n,.bx b y m=> (a==b) && Nat.beq n m && xO x y
 | .agg x,.agg y=> xO x y
 | .ifc t x,.ifc u y=> Nat.beq t u && tY x y
 | .fn f a b,.fn g c d=> Mv f g && xO a c && xO b d
 |_,_=> false
def xO:List DV→List DV→Bool
 |[],[]=> true
 |a::x,b::y=> tY a b && xO x y
 |_,_=> false
end
mutual
def oV:AV→AV→Bool
 | .d x,.d y=> tY x y
 | .nilsl,.nilsl=> true
 | .app t g n x,.app u k m y=> Nat.beq t u && Nat.beq g k && Nat.beq n m && xO x y
 | .full a n x,.full b m y=> (a==b) && Nat.beq n m && xO x y
 | .ptr a b,.ptr c d=> Nat.beq a c && Nat.beq b d
 | .kQ a b,.kQ c d=> Nat.beq a c && Nat.beq b d
 | .sref a b c d e f,.sref a' b' c' d' e' f'=> Nat.beq a a' && Nat.beq b b' && Nat.beq c c' && Nat.beq d d' && Nat.beq e e' && (f==f')
 | .ifc t x,.ifc u y=> Nat.beq t u && oV x y
 | .agg x,.agg y=> Ad x y
 | .uo a,.uo b=> Nat.beq a b
 | .fn f a b,.fn g c d=> Mv f g && Ad a c && Ad b d
 | .tup x,.tup y=> Ad x y
 | .x_ t g e x,.x_ u k f y=> Nat.beq t u && Nat.beq g k && Nat.beq e f && xO x y
 | .itr a,.itr b=> Nat.beq a b
 | .und,.und=> true
 |_,_=> false
def Ad:List AV→List AV→Bool
 |[],[]=> true
 |a::x,b::y=> oV a b && Ad x y
 |_,_=> false
end

def still (o:COp):Bool:=match o with
 | .mv _ | .pick _ _ _ | .build _ _ | .load _ _ _ | .Ew _ | .bin _ _ _ _ | .un _ _ | .cvi _ _ | .cvS _ | .b2s _ | .Ol _ _ | .Mr _ _ _ | .Kc _ _ _ _ _ | .Ey _ _ _ | .F8 _ _ _ _ _ _
 | .Om _ _ | .fld _ _ _ _ | .iaS _ _ _ | .iaA _ _ _ _ | .ixA _ _ _ _ _ _ | .ixS _ _ | .look _ _ _ _ _ _ | .tas _ _ _ _ _ | .Oo _ _ | .len _ _ | .IN _ | .cap _ | .mn _ | .mx _ | .i2s _ | .s2a _ _=> true
 |_=> false
def mI (tm:List AV) (o:COp):Bool:=match o with
 | .load _ _ a=> match a.ev tm with
  | .ptr _ _=> true
  |_=> false
 | .look _ _ _ _ m _=> match m.ev tm with
  | .uo _=> true
  |_=> false
 | .len _ x=> match x.ev tm with
  | .uo _=> true
  |_=> false
 | .b2s x=> match x.ev tm with
  | .sref _ _ _ _ _ _=> true
  |_=> false
 |_=> false
def vQ (j:Nat):List Nat→Bool
 |[]=> false
 |i::r=> match Nat.beq i j with
  |true=> true
  |false=> vQ j r
def pE (E:Env) (tm:List AV) (o:COp) (v:AV) (bnd:List Nat):List (Nat×Heap)→Bool
 |[]=> true
 |(j,hb)::r=> match gI o E hb tm with
  | .val v' _=> match oV v v' with
   |true=> match vQ j bnd with
    |true=> true
    |false=> pE E tm o v bnd r
   |false=> false
  |_=> false
def pR (o:COp) (tm:List AV) (b:Nat):Option (AV×Blk):=match o with
 | .alloc e zs=> some (.ptr b 0,.cells false e zs)
 | .box e x=> match okCells (cellsOf (x.ev tm)) with
  |true=> some (.ptr b 0,.cells false e (cellsOf (x.ev tm)))
  |false=> none
 | .bsl e size n zs ps=> match uD tm (vv zs n) ps with
  |some cs=> some (.sref b 0 size n n true,.cells false e cs)
  |none=> none
 | .IM e size bytes zs l c=> match wO (l.ev tm),wO (c.ev tm) with
  |some n,some m=> match Nat.ble n m && Nat.ble (m*bytes) 140737488355328 && Nat.ble m 140737488355328 with
   |true=> some (.sref b 0 size n m true,.cells false e (vv zs m))
   |false=> none
  |_,_=> none
 |_=> none
def zM (o:COp):Bool:=match o with
 | .alloc _ _ | .box _ _ | .bsl _ _ _ _ _ | .IM _ _ _ _ _ _=> true
 |_=> false
def nH (h:Heap):Nat→Heap
 |0=> h
 |n+1=> nH (h.push .dead) n

def enterT (ntmps:Nat) (args:List AV):List AV:=args++rep (ntmps - args.length)

section
variable (E : Env)
variable (fP : AC → Fr → Heap → Res)

def vY (SF:FuncId→List AV→Option AV→Heap→Option (Ex×AV×Heap×Option AV)):List (AV×List AV)→Option AV→Heap→Option (Option AV×Heap)
 |[],p,h=> some (p,h)
 |(f,args)::r,p,h=> match tgt f args with
  | .call g l=> match SF g l p h with
   |some (.nrm,_,h',p')=> vY SF r p' h'
   |_=> none
  |_=> none

def K8 (ex:Ex) (tm:List AV):Bool:=match ex with
 | .pan _=> match tm with
  |[]=> true
  |_=> false
 |_=> false
def qZ (f:FuncId) (args:List AV) (p:Option AV) (h:Heap):Option (Ex×AV×Heap×Option AV):=
 match E.fn f with
 |none=> none
 |some fn=> match fP fn.body ⟨enterT fn.ntmps args,[],p⟩ h with
  |some (ex,fr,h1)=> match fr.defs with
   |[]=> match ex with
    | .nrm | .ret=> match results E h1 fr.tmps fn.results with
     |some v=> some (.nrm,v,h1,fr.pan)
     |none=> none
    | .pan v=> some (.pan v,.und,h1,fr.pan)
    | .exit _=> none
   |ds=> match (match ex with | .nrm | .ret=> some none | .pan v=> some (some v) | .exit _=> none) with
    |none=> none
    | some aaO => match vY (fun g l p h => match E.fn g with
      |none=> none
      |some gn=> match fP gn.body ⟨enterT gn.ntmps l,[],p⟩ h with
       |some (ex,fr,h2)=> match fr.defs,ex with
        |[],.nrm | [],.ret=> match results E h2 fr.tmps gn.results with
         |some v=> some (.nrm,v,h2,fr.pan)
         |none=> none
        |_,_=> none
       |none=> none) ds aaO h1 with
     |some (none,h2)=> match K8 ex fr.tmps with
      |true=> none
      |false=> match results E h2 fr.tmps fn.results with
       |some v=> some (.nrm,v,h2,fr.pan)
       |none=> none
     |some (some v,h2)=> some (.pan v,.und,h2,fr.pan)
     |none=> none
  |none=> none

def call (f:FuncId) (args:List AV) (h:Heap):G5:=
 match E.fn f with
 |none=> none
 |some fn=>
  match (match fn.ref with | true=> none | false=> stripArgs h args) with
  |some (ds,bor)=> match qZ E fP f (ds.map inj) none .empty with
   |some (.nrm,v,h1,_)=> match y9 bor h1 h v with
    |some (v',_,h')=> some (.nrm,v',h')
    |none=> none
   |some (.pan v,_,_,_)=> match sP v with
    |true=> some (.pan v,.und,h)
    |false=> none
   |_=> none
  |none=> match qZ E fP f args none h with
   |some (ex,v,h',_)=> some (ex,v,h')
   |none=> none

def endRound (l:Nat) (r:Res):G5:=match r with
 |some (ex,fr,h)=> match fr.defs with
  |[]=> match ex with
   | .pan v=> some (.pan v,.und,h)
   | .nrm=> match h.get l with
    |some (.loop _ _ f tmps ps asg body)=> some (.nrm,.d (.b true),h.set l (.loop .ready .none f tmps ps asg body))
    |_=> none
   | .ret=> match h.get l with
    |some (.loop _ _ f tmps ps asg body)=> some (.nrm,.d (.b false),h.set l (.loop .done .ret f tmps ps asg body))
    |_=> none
   | .exit id=> match h.get l with
    |some (.loop _ _ f tmps ps asg body)=> some (.nrm,.d (.b false),h.set l (.loop .done (.exit id) f tmps ps asg body))
    |_=> none
  |_=> none
 |none=> none
def Re:List Nat→List AV→List AV→Option (List AV)
 |[],[],t=> some t
 |p::ps,a::l,t=> Re ps l (setL t p a)
 |_,_,_=> none
def AR (l:Nat) (asg body:AC) (tm:List AV) (h:Heap):G5:=
 match fP asg ⟨tm,[],none⟩ h with
 |some (.nrm,fr,h1)=> match h1.get l with
  |some (.loop .ready pd f tmps ps Ow IY)=> endRound l (fP body fr (h1.set l (.loop .busy pd f tmps ps Ow IY)))
  |_=> none
 |_=> none
def round (l:Nat) (args:List AV) (h:Heap):G5:=
 match h.get l with
 |some (.loop .ready _ _ tmps ps asg body)=> match Re ps args tmps with
  |some tm=> AR fP l asg body tm h
  |none=> none
 |_=> none

def C9 (fr:Fr) (dst:Option Nat) (k:Fr→Heap→Res) (r:G5):Res:=match r with
 |some (.nrm,v,h')=> k (lW fr dst v) h'
 |some (.pan v,_,h')=> some (.pan v,fr,h')
 |_=> none
def D_ (fr:Fr) (h:Heap) (dst:Option Nat) (k:Fr→Heap→Res):Res:=match fr.pan with
 |some v=> k (lW {fr with pan:=none} dst v) h
 |none=> k (lW fr dst (.d .nili)) h
def Ai (s:St1):Fr→Heap→Option Nat→(Fr→Heap→Res)→Res:=
 match s with
 | .val v h'=> fun fr _ dst k=> k (lW fr dst v) h'
 | .call f args=> fun fr h dst k=> C9 fr dst k (call E fP f args h)
 | .yield l args=> fun fr h dst k=> C9 fr dst k (round fP l args h)
 | .pan v=> fun fr h _ _=> some (.pan v,fr,h)
 | .uT=> fun fr h dst k=> D_ fr h dst k
 | .dfr f args=> fun fr h dst k=> k (lW {fr with defs:=(f,args)::fr.defs} dst .und) h
 | .bad=> fun _ _ _ _=> none

def yu (o:AOp) (k:Fr→Heap→Res) (fr:Fr) (h:Heap):Res:=match o with
 |⟨dst,op,g⟩=> match fr with
  |⟨tm,ds,p⟩=> match wanted tm g with
   |true=> Ai E fP (gI op E h tm) ⟨tm,ds,p⟩ h dst k
   |false=> k (lW ⟨tm,ds,p⟩ dst .und) h
def qy (l:List AOp) (fr:Fr) (h:Heap):Res:=
 List.rec (motive:=fun _=> Fr→Heap→Res) (fun fr h=> some (.nrm,fr,h)) (fun o _ ih fr h=> yu E fP o ih fr h) l fr h

def doE (s:St1):Fr→Heap→Option Nat→(Fr→Heap→Res)→(Fr→Heap→Res)→Res:=match s with
 | .val v h'=> fun fr _ dst k _=> k (lW fr dst v) h'
 | .call f args=> fun fr h dst k kp=> match call E fP f args h with
  |some (.nrm,v,h')=> k (lW fr dst v) h'
  |some (.pan v,_,h')=> match kp (lW fr dst .und) h with
   |some _=> some (.pan v,⟨[],fr.defs,fr.pan⟩,h')
   |none=> none
  |_=> none
 | .yield l args=> fun fr h dst k _=> match round fP l args h with
  |some (.nrm,v,h')=> k (lW fr dst v) h'
  |_=> none
 |_=> fun _ _ _ _ _=> none
def Av (b:Nat) (x:Blk) (sn:List (Nat×Heap)):List (Nat×Heap):=List.rec [] (fun p _ ih=> (p.1,p.2.set b x)::ih) sn
def doP (d:DOp) (n0:Nat) (k:List (Nat×Heap)→Fr→Heap→Res) (sn:List (Nat×Heap)) (fr:Fr) (h:Heap):Res:=match d.rsv with
 |some r=> match pR d.o.op fr.tmps (n0+r) with
  |some (v,blk)=> k (Av (n0+r) blk sn) (lW fr d.o.dst v) (h.set (n0+r) blk)
  |none=> none
 |none=> match still d.o.op with
  |true=> match gI d.o.op E h fr.tmps with
   | .val v _=> match mI fr.tmps d.o.op with
    |false=> k sn (lW fr d.o.dst v) h
    |true=> match pE E fr.tmps d.o.op v d.bnd sn with
     |true=> k sn (lW fr d.o.dst v) h
     |false=> none
   |_=> none
  |false=> none
def yR (n0 j:Nat) (l:List DOp) (sn:List (Nat×Heap)) (fr:Fr) (h:Heap):Res:=
 List.rec (motive := fun _ => List (Nat × Heap) → Fr → Heap → Res) (fun _ fr h => some (.nrm,fr,h)) (fun d _ ih sn fr h => match d.eff || vQ j d.bnd with
  |true=> ih sn (lW fr d.o.dst .und) h
  |false=> match wanted fr.tmps d.o.guard with
   |true=> doP E d n0 ih sn fr h
   |false=> ih sn (lW fr d.o.dst .und) h) l sn fr h
def doD (d:DOp) (n0:Nat) (r:List DOp) (k:List (Nat×Heap)→Fr→Heap→Res) (sn:List (Nat×Heap)) (fr:Fr) (h:Heap):Res:=match wanted fr.tmps d.o.guard with
 |true=> match d.eff with
  |false=> doP E d n0 k sn fr h
  |true=> doE E fP (gI d.o.op E h fr.tmps) fr h d.o.dst (fun fr' h'=> k ((d.no,h')::sn) fr' h') (fun fr' h'=> yR E n0 d.no r sn fr' h')
 |false=> k sn (lW fr d.o.dst .und) h
def oM (n0:Nat) (l:List DOp) (sn:List (Nat×Heap)) (fr:Fr) (h:Heap):Res:=
 List.rec (motive:=fun _=> List (Nat×Heap)→Fr→Heap→Res) (fun _ fr h=> some (.nrm,fr,h)) (fun d r ih sn fr h=> doD E fP d n0 r ih sn fr h) l sn fr h
def acj (m:Nat) (l:List DOp) (fr:Fr) (h:Heap):Res:=match nH h m with
 |h0=> oM E fP h.n l [(1000000,h0)] fr h0
end

def Ae (k:Fr→Heap→Res) (r:Res):Res:=match r with
 |some (.nrm,fr,h)=> k fr h
 |r=> r
def Ch (id:Nat) (r:Res):Res:=match r with
 |some (.exit j,fr,h)=> match Nat.beq j id with
  |true=> some (.nrm,fr,h)
  |false=> some (.exit j,fr,h)
 |r=> r
def condC (fP:AC→Fr→Heap→Res) (c:X) (a b:AC) (fr:Fr) (h:Heap):Res:=match c.ev fr.tmps with
 | .d (.b x)=> match x with
  |true=> fP a fr h
  |false=> fP b fr h
 |_=> none
def endLoop (l:Nat) (fr:Fr) (h:Heap):Res:=match h.get l with
 |some (.loop st pend f tmps ps asg body)=> match st with
  | .busy=> none
  |_=> match pend with
   | .none=> some (.nrm,fr,h.set l (.loop .exhausted pend f tmps ps asg body))
   | .exit id=> some (.exit id,fr,h.set l (.loop .exhausted pend f tmps ps asg body))
   | .ret=> some (.ret,fr,h.set l (.loop .exhausted pend f tmps ps asg body))
 |_=> none
def Lj (E:Env) (fP:AC→Fr→Heap→Res) (g:X) (ps:List Nat) (asg body:AC) (fr:Fr) (h:Heap):Res:=
 match tgt (g.ev fr.tmps) [.fn (.yield h.n) [] []] with
 | .call f args=> C9 fr none (endLoop h.n) (call E fP f args (h.push (.loop .ready .none 0 fr.tmps ps asg body)))
 |_=> none
def oW (c:AC):Env→(AC→Fr→Heap→Res)→Fr→Heap→Res:=
 match c with
 | .skip=> fun _ _ fr h=> some (.nrm,fr,h)
 | .reg ops=> fun E fP fr h=> qy E fP ops fr h
 | .Fz m ops=> fun E fP fr h=> acj E fP m ops fr h
 | .seq a b=> fun _ fP fr h=> Ae (fP b) (fP a fr h)
 | .cond c a b=> fun _ fP fr h=> condC fP c a b fr h
 | .blk id a=> fun _ fP fr h=> Ch id (fP a fr h)
 | .loop a=> fun _ fP fr h=> Ae (fP (.loop a)) (fP a fr h)
 | .yt g ps asg body=> fun E fP fr h=> Lj E fP g ps asg body fr h
 | .exit id=> fun _ _ fr h=> some (.exit id,fr,h)
 | .ret=> fun _ _ fr h=> some (.ret,fr,h)
 | .bad=> fun _ _ _ _=> none

def mz (E:Env):Nat→AC→Fr→Heap→Res:=
 fun n=> Nat.rec (fun _ _ _=> none) (fun _ ih c fr h=> oW c E ih fr h) n

def qj (E:Env) (n:Nat) (f:FuncId) (args:List AV) (h:Heap):G5:=call E (mz E n) f args h

end Go.Abs

namespace Go.Abs

def cV:Nat→Value→Option AV
 |0,_=> none
 |f+1,v=> match v with
  | .bool b=> some (.d (.b b))
  | .int k n=> some (.d (.i k n))
  | .string s=> some (.d (.s s.data.toList))
  | .pointer none=> some (.d .sG)
  | .slice none 0 0=> some .nilsl
  | .map none=> some (.d .xN)
  | .nilFunc=> some (.d .yj)
  | .nilIface=> some (.d .nili)
  | .agg cs=> (cs.toList.mapM (cV f)).map .agg
  | .tuple cs=> (cs.toList.mapM (cV f)).map .tup
  | .iface t v=> match cV f v with
   |some (.d x)=> some (.d (.ifc t x))
   |_=> none
  | .func (.func g) fs cs=> if fs.isEmpty && cs.isEmpty then some (.d (.fn (.func g) [] [])) else none
  |_=> none

def cX:Operand→Option X
 | .tmp t=> some (.t t)
 | .const v=> (cV 8 v).map .c
 | .global g=> some (.c (.kQ g 0))
 | .func f=> some (.c (.d (.fn (.func f) [] [])))

def SG (name:String):Option C4:=
 if name== "strconv.Itoa" then some .itoa
 else if name== "strconv.FormatInt" then some .Bg
 else if name== "strconv.Atoi" then some .atoi
 else if name== "internal/stringslite.Clone" then some .C5
 else if name== "strconv.toError" then some .El
 else if name== "strconv.ParseInt" then some .wD
 else none

section
variable (P : Program)

def nP (t:TypeId):Option (List AV):=match P.info? t with
 |some i=> match i.zero with
  |some z=> match cV 8 z with
   |some (.agg l)=> some l
   |some v=> some [v]
   |none=> none
  |none=> none
 |none=> none
def Mw (t:TypeId) (ag:Bool):Bool:=match P.info? t with
 |some i=> match i.zero with
  |some (.agg _)=> ag
  |some _=> !ag
  |none=> false
 |none=> false
def mP (t:TypeId):Option Nat:=(P.info? t).map (·.size)
def placesOf (fs:Array Field):Option (List (Nat×Nat)):=fs.toList.mapM (fun f=> (P.info? f.type).map fun i=> (f.offset,i.size))
def yw (t:TypeId):Option Bool:=match P.underlying t with
 |some (.struct _) | some (.array _ _)=> some true
 |some _=> some false
 |none=> none
def byT (t:TypeId):Option Nat:=(P.info? t).map (·.bytes)

def aaP (t:TypeId):Bool:=match P.underlying t with
 |some .bool | some (.int _) | some .string=> true
 |_=> false
def EI (t:TypeId):Bool:=match P.underlying t with
 |some (.struct fs)=> (List.range fs.size).all fun i=> match fs[i]? with
  |some f=> f.name != "_" && f.offset==i && aaP P f.type && mP P f.type==some 1 && yw P f.type==some false
  |none=> false
 |_=> false
def BA (t:TypeId):Option TK:=match P.underlying t with
 |some .bool=> some .b
 |some (.int _)=> some .i
 |some .string=> some .s
 |_=> none
def IZ (t:TypeId):Option (List TK):=match P.underlying t with
 |some (.struct fs)=> fs.toList.mapM fun f=> BA P f.type
 |_=> none
def C_ (t:TypeId):Option KK:=match BA P t with
 |some k=> some (.one k)
 |none=> if EI P t && !P.stoodInHeld t then (IZ P t).map .many else none
def isConst:Operand→Bool
 | .const _=> true
 |_=> false
def eqK (t:TypeId) (x y:Operand):EqK:=match P.underlying t with
 |some .bool=> .bool
 |some (.int _) | some .string=> .bad
 |some (.pointer e)=> match mP P e with
  |some (_+1)=> .ptr
  |_=> .bad
 |some (.interface _)=> if isConst x || isConst y then .iface else .bad
 |some (.struct _)=> if EI P t && !P.stoodInHeld t && !P.eqGuardType P.depth t then (match IZ P t with | some ks=> .flat ks | none=> .bad) else .bad
 |some (.slice _)=> .J_
 |some (.map _ _)=> .Ka
 |some (.func _ _ _)=> .Kb
 |_=> .bad

def Ox (name:String) (f:Func):Option Prim:=
 if name== "internal/bytealg.IndexByteString" || name== "internal/bytealg.IndexByte" then some .indexByte
 else if name== "internal/bytealg.IndexString" || name== "internal/bytealg.Index" then some .index
 else if name== "internal/bytealg.CountString" || name== "internal/bytealg.Count" then some .count
 else if name.startsWith "slices.overlaps" then some .overlaps
 else if name== "internal/bytealg.MakeNoZero" then match (f.resultTypes[0]?).bind P.underlying with
  |some (.slice e)=> some (.makeNoZero e)
  |_=> none
 else if name== "internal/abi.NoEscape" then some .vo
 else none

def sQ (mu:List String) (me:String) (b:Builtin) (ts:Array TypeId) (args:List X):Option COp:=
 match b,args with
 | .append,[x,y]=> match (ts[0]?).bind P.underlying with
  |some (.slice e)=> match mP P e,byT P e,nP P e with
   |some s,some n,some zs=> if zs.length=s then match (ts[1]?).bind P.underlying with
    |some (.int _)=> some (.Oq e s n zs x y)
    |some _=> some (.app e s n (mu.contains me) x y)
    |none=> none else none
   |_,_,_=> none
  |_=> none
 | .len,[x]=> match (ts[0]?).bind P.underlying with
  |some .string=> some (.len 0 x)
  |some (.slice _)=> some (.len 1 x)
  |some (.map _ _)=> some (.len 2 x)
  |some (.array n _)=> some (.IN n)
  |some (.pointer a)=> match P.underlying a with
   |some (.array n _)=> some (.IN n)
   |_=> none
  |_=> none
 | .cap,[x]=> match (ts[0]?).bind P.underlying with
  |some (.slice _)=> some (.cap x)
  |some (.array n _)=> some (.IN n)
  |some (.pointer a)=> match P.underlying a with
   |some (.array n _)=> some (.IN n)
   |_=> none
  |_=> none
 | .copy,[x,y]=> match (ts[0]?).bind P.underlying with
  |some (.slice e)=> (mP P e).map fun s=> .copy s x y
  |_=> none
 | .delete,[m,k]=> match (ts[0]?).bind P.underlying with
  |some (.map kt _)=> do some (.del (←C_ P kt) m k)
  |_=> none
 | .min,l=> some (.mn l)
 | .max,l=> some (.mx l)
 | .panic,[x]=> some (.panic x)
 | .recover,[]=> some .uT
 | .unsafeSliceData,[x]=> some (.ssd x)
 | .unsafeString,[x,y]=> match ts.toList with
  |[pt,_]=> match P.underlying pt with
   |some (.pointer e)=> if P.cellsOf e=1 then some (.uss e x y) else none
   |_=> none
  |_=> none
 | .clear,[x]=> match (ts[0]?).bind P.underlying with
  |some (.slice e)=> do
   let s ←mP P e
   let zs ←nP P e
   if zs.length=s then some (.clr s zs x) else none
  |_=> none
 |_,_=> none

def uE (s d:TypeId) (x:X):Option COp:=
 match P.underlying s,P.underlying d with
 |some (.int _),some (.int k)=> some (.cvi k x)
 |some .string,some .string=> some (.cvS x)
 |some .string,some (.slice e)=> match P.underlying e with
  |some (.int .u8)=> some (.s2b e x)
  |_=> none
 |some (.slice e),some .string=> match P.underlying e with
  |some (.int .u8)=> some (.b2s x)
  |_=> none
 |some (.int _),some .string=> some (.i2s x)
 |some (.pointer t),some .unsafePointer=> match mP P t with
  |some (_+1)=> some (.cvP none x)
  |_=> none
 |some .unsafePointer,some (.pointer t)=> do some (.cvP (some (t,←mP P t)) x)
 |_,_=> none

def yS (mu:List String) (me:String) (o:Oper):Option COp:=
 match o.op with
 | .move x | .assign x=> (cX x).map .mv
 | .pick c a b=> do some (.pick (←cX c) (←cX a) (←cX b))
 | .alloc e=> do some (.alloc e (←nP P e))
 | .box e x=> do some (.box e (←cX x))
 | .build t ps=> do
  let zs ←nP P t
  match P.underlying t with
  |some (.struct fs)=>
   let l ←ps.toList.mapM fun (i,x)=> do
    let f ←fs[i]?
    let s ←mP P f.type
    some (f.offset,s,←cX x)
   if (placesOf P fs).isSome then some (.build zs l) else none
  |some (.array _ e)=>
   let s ←mP P e
   let l ←ps.toList.mapM fun (i,x)=> do some (i*s,s,←cX x)
   some (.build zs l)
  |_=> none
 | .buildSlice t n ps=> match P.underlying t with
  |some (.slice e)=> do
   let s ←mP P e
   let zs ←nP P e
   let l ←ps.toList.mapM fun (i,x)=> do some (i*s,s,←cX x)
   if n*s≤65536∧zs.length=s then some (.bsl e s n zs l) else none
  |_=> none
 | .load t a=> do some (.load (←yw P t) (←mP P t) (←cX a))
 | .store t a x=> do some (.store (←mP P t) (←cX a) (←cX x))
 | .nilCheck x=> (cX x).map .Ew
 | .binOp op t x y _=> do some (.bin op (eqK P t x y) (←cX x) (←cX y))
 | .unOp op _ x=> do some (.un op (←cX x))
 | .convert s d x=> do uE P s d (←cX x)
 | .makeInterface t x=> match P.underlying t with
  |some (.interface _)=> none
  |some _=> do some (.Ol t (←cX x))
  |none=> none
 | .makeFunc fn fs cs=> if Ba fn then do some (.Mr fn (←fs.toList.mapM cX) (←cs.toList.mapM cX)) else none
 | .makeMap _ none=> some .IL
 | .makeMap t (some (.const (.int _ _)))=> match P.underlying t with
  |some (.map _ _)=> some .IL
  |_=> none
 | .makeSlice t l c=> match P.underlying t with
  |some (.slice e)=> do
   let s ←mP P e
   let zs ←nP P e
   if zs.length=s then some (.IM e s (←byT P e) zs (←cX l) (←cX c)) else none
  |_=> none
 | .slice t x lo hi mx=> do
  let l ←(match lo with | none=> some none | some y=> (cX y).map some)
  let h ←(match hi with | none=> some none | some y=> (cX y).map some)
  let m ←(match mx with | none=> some none | some y=> (cX y).map some)
  if m.isSome && h.isNone then none else match P.underlying t with
  |some .string=> if mx.isSome then none else some (.Ey (←cX x) l h)
  |some (.slice e)=> some (.Kc (←mP P e) (←cX x) l h m)
  |some (.array n e)=> some (.F8 n (←mP P e) (←cX x) l h m)
  |_=> none
 | .sliceToArrayPointer t x=> match P.underlying t with
  |some (.array n _)=> do some (.s2a n (←cX x))
  |_=> none
 | .fieldAddr s x f=> match P.underlying s with
  |some (.struct fs)=> do
   let fd ←fs[f]?
   let z ←mP P fd.type
   if z=0 then none else some (.Om fd.offset (←cX x))
  |_=> none
 | .field s x f=> match P.underlying s with
  |some (.struct fs)=> do
   let fd ←fs[f]?
   some (.fld fd.offset (←yw P fd.type) (←mP P fd.type) (←cX x))
  |_=> none
 | .indexAddr t x i=> match P.underlying t with
  |some (.slice e)=> do
   let s ←mP P e
   if s=0 then none else some (.iaS s (←cX x) (←cX i))
  |some (.array n e)=> do
   let s ←mP P e
   if s=0 then none else some (.iaA n s (←cX x) (←cX i))
  |_=> none
 | .index t x i=> match P.underlying t with
  |some .string=> do some (.ixS (←cX x) (←cX i))
  |some (.array n e)=> do some (.ixA n (←mP P e) (←yw P e) (←mP P e) (←cX x) (←cX i))
  |_=> none
 | .lookup t m k ok=> match P.underlying t with
  |some (.map kt e)=> do
   let ag ←yw P e
   if Mw P e ag then some (.look (←C_ P kt) ag (←nP P e) ok (←cX m) (←cX k)) else none
  |_=> none
 | .mapUpdate t m k v | .insert t m k v=> match P.underlying t with
  |some (.map kt _)=> do some (.On (←C_ P kt) (←cX m) (←cX k) (←cX v))
  |_=> none
 | .range t x=> do some (.rng (match P.underlying t with | some .string=> true | _=> false) (←cX x))
 | .next x s=> do some (.nxt s (←cX x))
 | .entry x=> do some (.ent (←cX x))
 | .typeAssert x _ t ok=> match P.underlying t with
  |some (.interface _)=> none
  |some _=> do
   let ag ←yw P t
   if Mw P t ag then some (.tas t ag (←nP P t) ok (←cX x)) else none
  |none=> none
 | .extract x i=> do some (.Oo (←cX x) i)
 | .call c=> match c.callee with
  | .value (.func f)=> do
   let args ←c.args.toList.mapM cX
   match P.funcs[f]? with
   |some fn=> match fn.body with
    |some _=>
     if fn.name.startsWith "slices.Clone[" then match (fn.params[0]?).bind P.underlying,args with
      |some (.slice e),[x]=> match mP P e,byT P e,nP P e with
       |some s,some n,some zs=> if zs.length=s then some (.clone f e s n (mu.contains fn.name || mu.contains (me++ ">" ++fn.name)) x) else none
       |_,_,_=> none
      |_,_=> none
     else if fn.name.startsWith "slices.Insert[" then match (fn.params[0]?).bind P.underlying,args with
      |some (.slice e),[x,i,v]=> match P.underlying e with
       |some (.int _)=> some (.Be f e x i v)
       |_=> none
      |_,_=> none
     else if fn.name.startsWith "slices.Delete[" then match (fn.params[0]?).bind P.underlying,args with
      |some (.slice e),[x,i,j]=> do some (.Ms e (←mP P e) (←nP P e) x i j)
      |_,_=> none
     else if fn.name== "(*strings.Builder).grow" then match args with
      |[x,n]=> match (fn.params[0]?).bind P.underlying with
       |some (.pointer bt)=> match P.underlying bt with
        |some (.struct fs)=> match (fs[1]?).bind fun f=> P.underlying f.type with
         |some (.slice eb)=> some (.F_ f eb x n)
         |_=> none
        |_=> none
       |_=> none
      |_=> none
     else match SG fn.name with
      |some k=> some (.lib f k args)
      |none=> some (.F9 f args)
    |none=> (Ox P fn.name fn).map fun p=> .Et f p args
   |none=> none
  | .value x=> do some (.oU (←cX x) (←c.args.toList.mapM cX))
  | .invoke r m=> do some (.inv (←cX r) m (←c.args.toList.mapM cX))
  | .builtin b=> do sQ P mu me b c.argTypes (←c.args.toList.mapM cX)
 | .panic x=> do some (.panic (←cX x))
 | .defer c=> match c.callee with
  | .value x=> do some (.dfr (←cX x) (←c.args.toList.mapM cX))
  |_=> none
 |_=> none

def allowed (o:COp):Bool:=match o with
 | .cvS .. | .del .. | .i2s .. | .clr .. | .Et _ _ _ | .ent _ | .inv _ _ _ | .clone _ _ _ _ _ _ | .grow _ _ _ _ _ | .Be _ _ _ _ _ | .Ms _ _ _ _ _ _ | .F_ _ _ _ _ | .lib _ _ _=> false
 |_=> true
def wW (o:COp):Bool:=match o with
 | .clone _ _ _ _ _ _ | .Be _ _ _ _ _ | .Et _ _ _ | .inv _ _ _ | .F_ _ _ _ _ | .lib _ _ _=> true
 |_=> false
def cOp (mu:List String) (me:String) (o:Oper):COp:=match yS P mu me o with
 |some c=> if allowed c || wW c then c else .bad
 |none=> .bad

def SH (o:Op):Bool:=match o with
 | .call c=> match c.callee with
  | .builtin .len | .builtin .max | .builtin .min | .builtin .cap=> false
  |_=> true
 | .store .. | .mapUpdate .. | .insert .. | .go _ | .defer _ | .panic _ | .next .. | .mapEntry .. | .entryStore .. | .send .. | .recv .. | .select .. => true
 |_=> false

def guardOf (ops:Array Oper) (o:Oper):Option (Option (Nat×Bool)):=match o.guard with
 |none=> some none
 |some (j,b)=> match (ops[j]?).bind (·.dst) with
  |some t=> some (some (t,b))
  |none=> none

def aop (mu:List String) (me:String) (ops:Array Oper) (o:Oper):AOp:=match guardOf ops o with
 |some g=> ⟨o.dst,cOp P mu me o,g⟩
 |none=> ⟨o.dst,.bad,none⟩

def Bn (t:TypeId) (m:String):Option (Nat×Nat×Option (Bool×Nat)):=do
 let i ←P.info? t
 let x ←i.methods.find? (·.name==m)
 let (f,pr) ←x.func
 match x.path.toList with
 |[]=> match pr,P.underlying t with
  |true,some (.pointer _)=> some (f,0,none)
  |_,_=> none
 |[s]=> match P.underlying s.struct,s.deref,pr with
  |some (.struct fs),true,false=>
   let fd ←fs[s.index]?
   match P.underlying fd.type,mP P fd.type with
   |some (.slice _),some (n+1)=> some (f,fd.offset,some (←yw P fd.type,n+1))
   |_,_=> none
  |_,_,_=> none
 |_=> none

def bitsOf (o:Oper) (acc:List Nat):Nat:=o.after.toList.foldl (fun s e=> if Region.binds .any e then s ||| 2 ^ e.on ||| acc.getD e.on 0 else s) 0
def Af:List Oper→List Nat→List Nat
 |[],acc=> acc
 |o::r,acc=> Af r (acc++ [bitsOf o acc])
def nI (ops:Array Oper):List Nat:=Af ops.toList []

def Oy (ops:Array Oper):List Nat:=
 let b:=nI ops
 let idx:=List.range ops.size
 let ack:=idx.filter fun i=> SH (ops.getD i default).op
 let (l,m) := ack.foldl (fun (acc : List Nat × Nat) e =>
  let need:=idx.filter fun i=> (b.getD e 0).testBit i && !acc.2.testBit i
  let l:=acc.1++need++ [e]
  (l,l.foldl (fun m i=> m ||| 2 ^ i) 0)) ([],0)
 l++idx.filter fun i=> !m.testBit i
def dMk (mu:List String) (me:String) (ops:Array Oper) (b:List Nat):List Nat→List Nat→Nat→List DOp
 |[],_,_=> []
 |i::r,ef,q=>
  let a:=aop P mu me ops (ops.getD i default)
  match SH (ops.getD i default).op with
  |true=> ⟨a,i,true,[],none⟩::dMk mu me ops b r (i::ef) q
  |false=> match zM a.op with
   |true=> ⟨a,i,false,ef.filter (fun j=> Nat.testBit (b.getD i 0) j),some q⟩::dMk mu me ops b r ef (q+1)
   |false=> ⟨a,i,false,ef.filter (fun j=> Nat.testBit (b.getD i 0) j),none⟩::dMk mu me ops b r ef q
def DZ (mu:List String) (me:String) (ops:Array Oper):List DOp:=dMk P mu me ops (nI ops) (Oy ops) [] 0
def y_ (l:List DOp):Nat:=(l.filter fun d=> d.rsv.isSome).length

def COp.xs:COp→List X
 | .mv x=> [x]
 | .pick c a b=> [c,a,b]
 | .alloc _ _=> []
 | .box _ x=> [x]
 | .build _ ps=> ps.map (·.2.2)
 | .bsl _ _ _ _ ps=> ps.map (·.2.2)
 | .load _ _ a=> [a]
 | .store _ a x=> [a,x]
 | .Ew x=> [x]
 | .bin _ _ x y=> [x,y]
 | .un _ x=> [x]
 | .cvi _ x=> [x]
 | .cvS x=> [x]
 | .cvP _ x=> [x]
 | .s2b _ x=> [x]
 | .b2s x=> [x]
 | .Ol _ x=> [x]
 | .Mr _ fs cs=> fs++cs
 | .IL=> []
 | .IM _ _ _ _ l c=> [l,c]
 | .Kc _ x lo hi q=> x::(lo.toList++hi.toList++q.toList)
 | .Ey x lo hi=> x::(lo.toList++hi.toList)
 | .F8 _ _ x lo hi q=> x::(lo.toList++hi.toList++q.toList)
 | .Om _ x=> [x]
 | .fld _ _ _ x=> [x]
 | .iaS _ x i=> [x,i]
 | .iaA _ _ x i=> [x,i]
 | .ixA _ _ _ _ x i=> [x,i]
 | .ixS x i=> [x,i]
 | .look _ _ _ _ m k=> [m,k]
 | .On _ m k v=> [m,k,v]
 | .rng _ x=> [x]
 | .nxt _ x=> [x]
 | .ent x=> [x]
 | .tas _ _ _ _ x=> [x]
 | .Oo x _=> [x]
 | .F9 _ args=> args
 | .oU f args=> f::args
 | .inv x _ args=> x::args
 | .Et _ _ args=> args
 | .len _ x=> [x]
 | .IN _=> []
 | .cap x=> [x]
 | .app _ _ _ _ x y=> [x,y]
 | .Oq _ _ _ _ x n=> [x,n]
 | .copy _ x y=> [x,y]
 | .del _ m k=> [m,k]
 | .mn l=> l
 | .mx l=> l
 | .panic x=> [x]
 | .uT=> []
 | .dfr f args=> f::args
 | .ssd x=> [x]
 | .uss _ x n=> [x,n]
 | .clone _ _ _ _ _ x=> [x]
 | .grow _ _ _ x n=> [x,n]
 | .Be _ _ x i v=> [x,i,v]
 | .Ms _ _ _ x i j=> [x,i,j]
 | .F_ _ _ x n=> [x,n]
 | .lib _ _ args=> args
 | .i2s x=> [x]
 | .s2a _ x=> [x]
 | .clr _ _ x=> [x]
 | .bad=> []

def tmpsOf (d:DOp):List Nat:=(d.o.op.xs.filterMap fun | .t n=> some n | _=> none)++(match d.o.guard with | some (t,_)=> [t] | none=> [])
def Rf (x m:Nat):Bool:=Nat.beq (Nat.land x m) x
def dstsOf (l:List DOp):List (Nat×Nat):=l.filterMap fun d=> d.o.dst.map fun t=> (t,d.no)
def qX (n:Nat) (b:List Nat) (rJ:List (Nat×Nat)):List DOp→Nat→Nat→Nat→Bool
 |[],seen,_,_=> Nat.beq seen (2 ^ n - 1)
 |d::r,seen,ef,pend=>
  Nat.blt d.no n && Rf (b.getD d.no 0) seen && !(Nat.testBit seen d.no) &&
  (match d.eff with | true=> Rf ef (b.getD d.no 0) && Rf pend (b.getD d.no 0) | false=> true) &&
  (tmpsOf d).all (fun t=> rJ.all fun (t',j)=> !(Nat.beq t t') || Nat.testBit (b.getD d.no 0) j || Nat.testBit (b.getD j 0) d.no || Nat.beq j d.no) &&
  (match d.eff with
   |true=> qX n b rJ r (Nat.lor seen (2 ^ d.no)) (Nat.lor ef (2 ^ d.no)) 0
   |false=> qX n b rJ r (Nat.lor seen (2 ^ d.no)) ef (Nat.lor pend (2 ^ d.no)))
def G6:List Nat→Bool
 |[]=> true
 |a::r=> !(vQ a r) && G6 r
def Oz (n:Nat) (b:List Nat) (l:List DOp):Bool:=G6 ((dstsOf l).map (·.1)) && qX n b (dstsOf l) l 0 0 0

def q8 (o:Op):Bool:=match o with
 | .defer _=> false
 | .call c=> match c.callee with
  | .builtin .recover=> false
  |_=> true
 |_=> true
def pF:Code→Bool
 | .region _ ops _=> ops.toList.all fun o=> q8 o.op
 | .seq a b=> pF a && pF b
 | .cond _ a b=> pF a && pF b
 | .block _ a=> pF a
 | .loop a=> pF a
 | .rangeFunc _ _ a b=> pF a && pF b
 |_=> true

def cC (mu:List String) (me:String):Code→AC
 | .skip=> .skip
 | .region _ ops d=> match d with
  |false=> .reg (ops.toList.map (aop P mu me ops))
  |true=> if Oz ops.size (nI ops) (DZ P mu me ops) then .Fz (y_ (DZ P mu me ops)) (DZ P mu me ops) else .bad
 | .seq a b=> .seq (cC mu me a) (cC mu me b)
 | .cond c a b=> match cX c with
  |some x=> .cond x (cC mu me a) (cC mu me b)
  |none=> .bad
 | .block id a=> .blk id (cC mu me a)
 | .loop a=> .loop (cC mu me a)
 | .rangeFunc g ps asg b=> match cX g with
  |some x=> if pF asg && pF b then .yt x ps.toList (cC mu me asg) (cC mu me b) else .bad
  |none=> .bad
 | .exit id=> .exit id
 | .ret=> .ret
 |_=> .bad

def cR:ResultVar→RV
 | .tmp t=> .tmp t
 | .cell t ty=> .cell t ((yw P ty).getD false) ((mP P ty).getD 0)

def acm (t:TypeId):Bool:=match P.underlying t with
 |some (.pointer _) | some (.map _ _) | some .unsafePointer | some (.interface _)=> true
 |_=> false

def cF (mu extra:List String) (f:Func):Option AFn:=match f.body with
 |none=> none
 |some c=> if f.name= "runtime.NumGoroutine" || !(f.results.toList.all fun | .tmp _=> true | .cell _ ty=> (yw P ty).isSome && (mP P ty).isSome) then none else some ⟨f.ntmps,f.results.toList.map (cR P),cC P mu f.name c,f.resultTypes.any (acm P) || extra.contains f.name⟩
end
end Go.Abs

namespace Go.Abs
inductive FT where
 |leaf
 |node (k:Nat) (v:AFn) (l r:FT)
def FT.get:FT→Nat→Option AFn
 | .leaf,_=> none
 | .node k v l r,i=> match Nat.beq i k with
  |true=> some v
  |false=> match Nat.blt i k with
   |true=> l.get i
   |false=> r.get i
def FT.All (Q:Nat→AFn→Prop):FT→Prop
 | .leaf=> True
 | .node k v l r=> Q k v∧l.All Q∧r.All Q
theorem FT.Q4 {Q:Nat→AFn→Prop}:∀{t:FT},t.All Q→∀{i:Nat} {v:AFn},t.get i=some v→Q i v:=by
 intro t
 induction t with
 |leaf=> intro _ i v h; cases h
 |node k a l r il ir=>
  intro h i v hg
  obtain ⟨h1,h2,h3⟩:=h
  simp only [FT.get] at hg
  split at hg
  ·rename_i e
   cases hg
   have:=Nat.eq_of_beq_eq_true e
   subst this; exact h1
  ·split at hg
   ·exact il h2 hg
   ·exact ir h3 hg
def NZ (P:Program) (f:Nat) (a:AFn):Prop:=∃fn mu extra,P.funcs[f]? =some fn∧cF P mu extra fn=some a
theorem NZ.of {P:Program} {f:Nat} {a:AFn} {fn:Func} (hf:P.funcs[f]? =some fn) (mu extra:List String) (h:cF P mu extra fn=some a):NZ P f a:=⟨fn,mu,extra,hf,h⟩

namespace T
abbrev t (n:Nat):X:= .t n
abbrev k (n:Int):X:= .c (.d (.i .i64 n))
abbrev b (op:BinOp) (x y:X):COp:= .bin op .bad x y
abbrev m (d x:Nat):AOp:=⟨some d,.mv (.t x),none⟩
abbrev l (d x:Nat):AOp:=⟨some d,.load false 1 (.t x),none⟩
abbrev o (d:Nat) (c:COp):AOp:=⟨some d,c,none⟩
abbrev u (c:COp):AOp:=⟨none,c,none⟩
end T
end Go.Abs

namespace Go.Abs
section
variable {E : Env}

def Ag (f g:AC→Fr→Heap→Res):Prop:=∀c fr h r,f c fr h=some r→g c fr h=some r

variable {f g : AC → Fr → Heap → Res}

theorem Ci {cf cg:FuncId→List AV→Option AV→Heap→Option (Ex×AV×Heap×Option AV)} (hu:∀a b c d r,cf a b c d=some r→cg a b c d=some r):∀(l:List (AV×List AV)) (p:Option AV) (h:Heap) r,
  vY cf l p h=some r→vY cg l p h=some r:=by
 intro l
 induction l with
 |nil=> intro p h r hr; exact hr
 |cons x l ih=>
  intro p h r hr
  obtain ⟨a,args⟩:=x
  unfold vY at hr ⊢
  split at hr
  ·split at hr
   ·rename_i hc
    rw [hu _ _ _ _ _ hc]
    exact ih _ _ _ hr
   ·cases hr
  ·cases hr

theorem Aw (hu:Ag f g) {i:FuncId} {args:List AV} {p:Option AV} {h:Heap} {r} (hr:qZ E f i args p h=some r):qZ E g i args p h=some r:=by
 unfold qZ at hr ⊢
 split at hr
 ·cases hr
 ·rename_i fn hfn
  split at hr
  ·rename_i ex fr h1 hb
   rw [hu _ _ _ _ hb]
   simp only
   cases hd:fr.defs with
   |nil=> rw [hd] at hr; exact hr
   |cons d ds=>
    rw [hd] at hr
    simp only at hr ⊢
    split at hr
    ·cases hr
    ·rename_i aaO hp
     split at hr
     ·rename_i hk
      rw [Ci (fun a b c d r hr=> ?_) _ _ _ _ hk]; exact hr
      skip
      split at hr
      ·cases hr
      ·split at hr
       ·rename_i hb2
        rw [hu _ _ _ _ hb2]
        exact hr
       ·cases hr
     ·rename_i hk
      rw [Ci (fun a b c d r hr=> ?_) _ _ _ _ hk]; exact hr
      skip
      split at hr
      ·cases hr
      ·split at hr
       ·rename_i hb2
        rw [hu _ _ _ _ hb2]
        exact hr
       ·cases hr
     ·cases hr
  ·cases hr

theorem za (hu:Ag f g) {i:FuncId} {args:List AV} {h:Heap} {r} (hr:call E f i args h=some r):call E g i args h=some r:=by
 unfold call at hr ⊢
 split at hr
 ·cases hr
 ·split at hr
  ·rename_i ds bor hs
   split at hr
   ·rename_i hc
    rw [Aw hu hc]; exact hr
   ·rename_i hc
    rw [Aw hu hc]; exact hr
   ·cases hr
  ·rename_i hs
   split at hr
   ·rename_i hc
    rw [Aw hu hc]; exact hr
   ·cases hr

theorem FD {l:Nat} {a b:Res} (hu:∀r,a=some r→b=some r) {r} (hr:endRound l a=some r):endRound l b=some r:=by
 cases a with
 |none=> cases hr
 |some x=> rw [hu x rfl]; exact hr

theorem G7 (hu:Ag f g) {l:Nat} {asg body:AC} {tm:List AV} {h:Heap} {r} (hr:AR f l asg body tm h=some r):AR g l asg body tm h=some r:=by
 unfold AR at hr ⊢
 split at hr
 ·rename_i ha
  rw [hu _ _ _ _ ha]
  simp only
  split at hr
  ·exact FD (fun r=> hu _ _ _ r) hr
  ·cases hr
 ·cases hr

theorem zN (hu:Ag f g) {l:Nat} {args:List AV} {h:Heap} {r} (hr:round f l args h=some r):round g l args h=some r:=by
 unfold round at hr ⊢
 split at hr
 ·split at hr
  ·exact G7 hu hr
  ·cases hr
 ·cases hr

def G8 (k k':Fr→Heap→Res):Prop:=∀fr h r,k fr h=some r→k' fr h=some r

theorem Da {fr:Fr} {dst:Option Nat} {k k':Fr→Heap→Res} (hk:G8 k k') {a b:G5} (hu:∀r,a=some r→b=some r) {r} (hr:C9 fr dst k a=some r):C9 fr dst k' b=some r:=by
 cases a with
 |none=> cases hr
 |some x=>
  rw [hu x rfl]
  unfold C9 at hr ⊢
  split at hr
  ·exact hk _ _ _ hr
  ·exact hr
  ·cases hr

theorem Mx (hu:Ag f g) {k k':Fr→Heap→Res} (hk:G8 k k') {s:St1} {fr:Fr} {h:Heap} {dst:Option Nat} {r} (hr:Ai E f s fr h dst k=some r):Ai E g s fr h dst k'=some r:=by
 cases s with
 |val v h'=> exact hk _ _ _ hr
 |call i args=> exact Da hk (fun r=> za hu) hr
 |yield l args=> exact Da hk (fun r=> zN hu) hr
 |pan v=> exact hr
 |uT=>
  unfold Ai D_ at hr ⊢
  simp only at hr ⊢
  cases hp:fr.pan with
  |none=> rw [hp] at hr; exact hk _ _ _ hr
  |some v=> rw [hp] at hr; exact hk _ _ _ hr
 |dfr i args=> exact hk _ _ _ hr
 |bad=> cases hr

theorem Ay (hu:Ag f g):∀(l:List AOp) (fr:Fr) (h:Heap) r,qy E f l fr h=some r→qy E g l fr h=some r:=by
 intro l
 induction l with
 |nil=> intro fr h r hr; exact hr
 |cons o l ih=>
  intro fr h r hr
  have hr:yu E f o (qy E f l) fr h=some r:=hr
  show yu E g o (qy E g l) fr h=some r
  obtain ⟨dst,op,gd⟩:=o
  obtain ⟨tm,ds,p⟩:=fr
  unfold yu at hr ⊢
  simp only at hr ⊢
  split at hr
  ·exact Mx hu ih hr
  ·exact ih _ _ _ hr

theorem OA (hu:Ag f g) {k k':Fr→Heap→Res} (hk:G8 k k') {kp:Fr→Heap→Res} {s:St1} {fr:Fr} {h:Heap} {dst:Option Nat} {r} (hr:doE E f s fr h dst k kp=some r):doE E g s fr h dst k' kp=some r:=by
 cases s with
 |val v h'=> exact hk _ _ _ hr
 |call i args=>
  unfold doE at hr ⊢
  simp only at hr ⊢
  split at hr
  ·rename_i hc
   rw [za hu hc]; exact hk _ _ _ hr
  ·rename_i hc
   rw [za hu hc]; exact hr
  ·cases hr
 |yield l args=>
  unfold doE at hr ⊢
  simp only at hr ⊢
  split at hr
  ·rename_i hc
   rw [zN hu hc]; exact hk _ _ _ hr
  ·cases hr
 |pan v=> cases hr
 |uT=> cases hr
 |dfr i args=> cases hr
 |bad=> cases hr

theorem zO (hu:Ag f g) {n0:Nat}:∀(l:List DOp) (sn:List (Nat×Heap)) (fr:Fr) (h:Heap) r,oM E f n0 l sn fr h=some r→oM E g n0 l sn fr h=some r:=by
 intro l
 induction l with
 |nil=> intro sn fr h r hr; exact hr
 |cons o l ih=>
  intro sn fr h r hr
  have hr:doD E f o n0 l (oM E f n0 l) sn fr h=some r:=hr
  show doD E g o n0 l (oM E g n0 l) sn fr h=some r
  unfold doD at hr ⊢
  split at hr
  ·split at hr
   ·unfold doP at hr ⊢
    split at hr
    ·split at hr
     ·exact ih _ _ _ _ hr
     ·cases hr
    ·split at hr
     ·split at hr
      ·split at hr
       ·exact ih _ _ _ _ hr
       ·split at hr
        ·exact ih _ _ _ _ hr
        ·cases hr
      ·cases hr
     ·cases hr
   ·exact OA hu (fun fr' h' r=> ih _ fr' h' r) hr
  ·exact ih _ _ _ _ hr

theorem EJ {k k':Fr→Heap→Res} (hk:G8 k k') {a b:Res} (hu:∀r,a=some r→b=some r) {r} (hr:Ae k a=some r):Ae k' b=some r:=by
 cases a with
 |none=> cases hr
 |some x=>
  rw [hu x rfl]
  unfold Ae at hr ⊢
  split at hr
  ·exact hk _ _ _ hr
  ·exact hr

theorem Ki (hu:Ag f g):Ag (fun c=> oW c E f) (fun c=> oW c E g):=by
 intro c fr h r hr
 cases c with
 |skip=> exact hr
 |reg ops=> exact Ay hu _ _ _ _ hr
 |Fz m ops=> exact zO hu _ _ _ _ _ hr
 |seq a b=> exact EJ (hu b) (hu a fr h) hr
 |cond c a b=>
  simp only [oW,condC] at hr ⊢
  split at hr
  ·split at hr <;> exact hu _ _ _ _ hr
  ·cases hr
 |blk id a=>
  simp only [oW] at hr ⊢
  cases ha:f a fr h with
  |none=> rw [ha] at hr; cases hr
  |some x=> rw [ha] at hr; rw [hu _ _ _ _ ha]; exact hr
 |loop a=> exact EJ (hu (.loop a)) (hu a fr h) hr
 |yt x ps asg body=>
  simp only [oW,Lj] at hr ⊢
  split at hr
  ·exact Da (fun _ _ _ h=> h) (fun r=> za hu) hr
  ·cases hr
 |exit id=> exact hr
 |ret=> exact hr
 |bad=> cases hr

theorem mY (n:Nat) (c:AC) (fr:Fr) (h:Heap):mz E (n+1) c fr h=oW c E (mz E n) fr h:=rfl

theorem Kj:∀n,Ag (mz E n) (mz E (n+1)):=by
 intro n
 induction n with
 |zero=> intro c fr h r hr; cases hr
 |succ n ih=> exact fun c fr h r hr=> Ki ih c fr h r hr

theorem pZ {m n:Nat} (h:m≤n):Ag (mz E m) (mz E n):=by
 induction h with
 |refl=> exact fun _ _ _ _ h=> h
 |step _ ih=> exact fun c fr h r hr=> Kj _ _ _ _ _ (ih _ _ _ _ hr)

def Cal (E:Env) (f:FuncId) (args:List AV) (h:Heap) (r:Ex×AV×Heap):Prop:=∃n,qj E n f args h=some r

theorem Cal.of {n:Nat} {f:FuncId} {args:List AV} {h:Heap} {r} (hr:qj E n f args h=some r):Cal E f args h r:=⟨n,hr⟩
theorem Cal.le {n m:Nat} (hm:n≤m) {f:FuncId} {args:List AV} {h:Heap} {r} (hr:qj E n f args h=some r):qj E m f args h=some r:=za (pZ hm) hr
end
end Go.Abs

namespace Go.Abs
section
variable {E : Env}

def WC (E:Env) (c:AC) (fr:Fr) (h:Heap) (Q:Ex→Fr→Heap→Prop):Prop:=∃n ex fr' h',mz E n c fr h=some (ex,fr',h')∧Q ex fr' h'
def WO (E:Env) (l:List AOp) (fr:Fr) (h:Heap) (Q:Ex→Fr→Heap→Prop):Prop:=∃n ex fr' h',qy E (mz E n) l fr h=some (ex,fr',h')∧Q ex fr' h'
def WD (E:Env) (n0:Nat) (l:List DOp) (sn:List (Nat×Heap)) (fr:Fr) (h:Heap) (Q:Ex→Fr→Heap→Prop):Prop:=∃n ex fr' h',oM E (mz E n) n0 l sn fr h=some (ex,fr',h')∧Q ex fr' h'

variable {fr : Fr} {h : Heap} {Q Q' : Ex → Fr → Heap → Prop}

theorem WC.mono {c:AC} (w:WC E c fr h Q) (k:∀ex fr h,Q ex fr h→Q' ex fr h):WC E c fr h Q':=by
 obtain ⟨n,ex,fr',h',h1,h2⟩:=w
 exact ⟨n,ex,fr',h',h1,k _ _ _ h2⟩
theorem WC.of {n:Nat} {c:AC} {ex:Ex} {fr':Fr} {h':Heap} (hr:mz E n c fr h=some (ex,fr',h')) (q:Q ex fr' h'):WC E c fr h Q:=⟨n,ex,fr',h',hr,q⟩

theorem WC.skip (q:Q .nrm fr h):WC E .skip fr h Q:=⟨1,_,_,_,rfl,q⟩
theorem WC.ret (q:Q .ret fr h):WC E .ret fr h Q:=⟨1,_,_,_,rfl,q⟩
theorem WC.exit {id:Nat} (q:Q (.exit id) fr h):WC E (.exit id) fr h Q:=⟨1,_,_,_,rfl,q⟩
theorem WC.reg {l:List AOp} (w:WO E l fr h Q):WC E (.reg l) fr h Q:=by
 obtain ⟨n,ex,fr',h',h1,h2⟩:=w
 exact ⟨n+1,ex,fr',h',h1,h2⟩
theorem WC.Fz {m:Nat} {l:List DOp} (w:WD E h.n l [(1000000,nH h m)] fr (nH h m) Q):WC E (.Fz m l) fr h Q:=by
 obtain ⟨n,ex,fr',h',h1,h2⟩:=w
 exact ⟨n+1,ex,fr',h',h1,h2⟩
theorem WC.seq {a b:AC} (w:WC E a fr h (fun ex fr' h'=> (ex= .nrm→WC E b fr' h' Q)∧(ex≠ .nrm→Q ex fr' h'))):WC E (.seq a b) fr h Q:=by
 obtain ⟨n,ex,fr',h',h1,h2,h3⟩:=w
 by_cases e:ex= .nrm
 ·subst e
  obtain ⟨m,ex2,fr2,h2',k1,k2⟩:=h2 rfl
  refine ⟨max n m+1,ex2,fr2,h2',?_,k2⟩
  rw [mY]
  simp only [oW]
  rw [pZ (Nat.le_max_left n m) _ _ _ _ h1]
  exact pZ (Nat.le_max_right n m) _ _ _ _ k1
 ·refine ⟨n+1,ex,fr',h',?_,h3 e⟩
  rw [mY]
  simp only [oW]
  rw [h1]
  cases ex <;> first | rfl | exact absurd rfl e
theorem WC.cond {c:X} {a b:AC} {x:Bool} (hc:c.ev fr.tmps= .d (.b x)) (h1:x=true→WC E a fr h Q) (h2:x=false→WC E b fr h Q):WC E (.cond c a b) fr h Q:=by
 cases x with
 |true=>
  obtain ⟨n,ex,fr',h',k1,k2⟩:=h1 rfl
  refine ⟨n+1,ex,fr',h',?_,k2⟩
  rw [mY]; simp only [oW,condC,hc]; exact k1
 |false=>
  obtain ⟨n,ex,fr',h',k1,k2⟩:=h2 rfl
  refine ⟨n+1,ex,fr',h',?_,k2⟩
  rw [mY]; simp only [oW,condC,hc]; exact k1
theorem WC.blk {id:Nat} {a:AC} (w:WC E a fr h (fun ex fr' h'=> (∀j,ex= .exit j→(j=id→Q .nrm fr' h')∧(j≠id→Q ex fr' h'))∧((∀j,ex≠ .exit j)→Q ex fr' h'))):WC E (.blk id a) fr h Q:=by
 obtain ⟨n,ex,fr',h',h1,h2,h3⟩:=w
 cases ex with
 |exit j=>
  by_cases e:j=id
  ·refine ⟨n+1,.nrm,fr',h',?_,(h2 j rfl).1 e⟩
   rw [mY]; simp only [oW,h1,Ch,e,Nat.beq_refl]
  ·refine ⟨n+1,.exit j,fr',h',?_,(h2 j rfl).2 e⟩
   rw [mY]; simp only [oW,h1,Ch]
   split
   ·rename_i hb; exact absurd (Nat.eq_of_beq_eq_true hb) e
   ·rfl
 |nrm=> exact ⟨n+1,_,fr',h',by rw [mY]; simp only [oW,h1,Ch],h3 (fun j=> by simp)⟩
 |ret=> exact ⟨n+1,_,fr',h',by rw [mY]; simp only [oW,h1,Ch],h3 (fun j=> by simp)⟩
 |pan v=> exact ⟨n+1,_,fr',h',by rw [mY]; simp only [oW,h1,Ch],h3 (fun j=> by simp)⟩
theorem WC.loop {a:AC} (w:WC E a fr h (fun ex fr' h'=> (ex= .nrm→WC E (.loop a) fr' h' Q)∧(ex≠ .nrm→Q ex fr' h'))):WC E (.loop a) fr h Q:=by
 obtain ⟨n,ex,fr',h',h1,h2,h3⟩:=w
 by_cases e:ex= .nrm
 ·subst e
  obtain ⟨m,ex2,fr2,h2',k1,k2⟩:=h2 rfl
  refine ⟨max n m+1,ex2,fr2,h2',?_,k2⟩
  rw [mY]
  simp only [oW]
  rw [pZ (Nat.le_max_left n m) _ _ _ _ h1]
  exact pZ (Nat.le_max_right n m) _ _ _ _ k1
 ·refine ⟨n+1,ex,fr',h',?_,h3 e⟩
  rw [mY]
  simp only [oW]
  rw [h1]
  cases ex <;> first | rfl | exact absurd rfl e

theorem WO.nil (q:Q .nrm fr h):WO E [] fr h Q:=⟨0,_,_,_,rfl,q⟩
theorem WO.mono {l:List AOp} (w:WO E l fr h Q) (k:∀ex fr h,Q ex fr h→Q' ex fr h):WO E l fr h Q':=by
 obtain ⟨n,ex,fr',h',h1,h2⟩:=w
 exact ⟨n,ex,fr',h',h1,k _ _ _ h2⟩
theorem WO.off {tm:List AV} {ds:List (AV×List AV)} {p:Option AV} {dst:Option Nat} {op:COp} {g:Option (Nat×Bool)} {r:List AOp} (hw:wanted tm g=false) (k:WO E r (lW ⟨tm,ds,p⟩ dst .und) h Q):WO E (⟨dst,op,g⟩::r) ⟨tm,ds,p⟩ h Q:=by
 obtain ⟨n,ex,fr',h',h1,h2⟩:=k
 refine ⟨n,ex,fr',h',?_,h2⟩
 show yu E (mz E n) ⟨dst,op,g⟩ (qy E (mz E n) r) ⟨tm,ds,p⟩ h=_
 simp only [yu,hw]; exact h1
theorem WO.val {tm:List AV} {ds:List (AV×List AV)} {p:Option AV} {dst:Option Nat} {op:COp} {g:Option (Nat×Bool)} {r:List AOp} {v:AV} {h1:Heap} (hw:wanted tm g=true) (hs:gI op E h tm= .val v h1) (k:WO E r (lW ⟨tm,ds,p⟩ dst v) h1 Q):
  WO E (⟨dst,op,g⟩::r) ⟨tm,ds,p⟩ h Q:=by
 obtain ⟨n,ex,fr',h',k1,k2⟩:=k
 refine ⟨n,ex,fr',h',?_,k2⟩
 show yu E (mz E n) ⟨dst,op,g⟩ (qy E (mz E n) r) ⟨tm,ds,p⟩ h=_
 simp only [yu,hw,hs,Ai]; exact k1
theorem WO.call {tm:List AV} {ds:List (AV×List AV)} {p:Option AV} {dst:Option Nat} {op:COp} {g:Option (Nat×Bool)} {r:List AOp} {f:FuncId} {args:List AV} {v:AV} {h1:Heap} (hw:wanted tm g=true) (hs:gI op E h tm= .call f args)
  (hc:Cal E f args h (.nrm,v,h1)) (k:WO E r (lW ⟨tm,ds,p⟩ dst v) h1 Q):WO E (⟨dst,op,g⟩::r) ⟨tm,ds,p⟩ h Q:=by
 obtain ⟨n,hn⟩:=hc
 obtain ⟨m,ex,fr',h',k1,k2⟩:=k
 refine ⟨max n m,ex,fr',h',?_,k2⟩
 show yu E (mz E (max n m)) ⟨dst,op,g⟩ (qy E (mz E (max n m)) r) ⟨tm,ds,p⟩ h=_
 have hn:=Cal.le (Nat.le_max_left n m) hn
 unfold qj at hn
 simp only [yu,hw,hs,Ai,hn,C9]
 exact Ay (pZ (Nat.le_max_right n m)) _ _ _ _ k1

theorem Cal.data {f:FuncId} {fn:AFn} {args:List AV} {ds:List DV} {bor:Bool} {x:DV} (hf:E.fn f=some fn) (hr:fn.ref=false) (ha:stripArgs h args=some (ds,bor)) (hx:∀h1,y9 bor h1 h (inj1 x)=some (inj1 x,h1,h))
  (w:WC E fn.body ⟨enterT fn.ntmps (ds.map inj),[],none⟩ .empty (fun ex fr' h1=> (ex= .nrm∨ex= .ret)∧fr'.defs=[]∧results E h1 fr'.tmps fn.results=some (inj1 x))):Cal E f args h (.nrm,inj1 x,h):=by
 obtain ⟨n,ex,fr',h1,h2,h3,h4,h5⟩:=w
 refine ⟨n,?_⟩
 unfold qj call
 simp only [hf,hr,ha]
 have:qZ E (mz E n) f (ds.map inj) none .empty=some (.nrm,inj1 x,h1,fr'.pan):=by
  unfold qZ
  simp only [hf,h2,h4]
  rcases h3 with rfl | rfl <;> simp only [h5]
 rw [this]
 simp only [hx h1]
end
end Go.Abs

namespace Go.Abs
section
variable {E : Env}

theorem I5 (l:List AV) (d t:Nat) (x:AV):getL (setL l d x) t=if d=t then (if d < l.length then x else getL l t) else getL l t:=by
 have key:∀(l:List AV) (d t:Nat),getL (setL l d x) t=if d=t then (if d < l.length then x else getL l t) else getL l t:=by
  intro l
  induction l with
  |nil=> intro d t; rw [IQ]; split <;> simp
  |cons a r ih=>
   intro d t
   cases d with
   |zero=>
    rw [Ga]
    cases t with
    |zero=> simp [AQ]
    |succ t=> simp [vO]
   |succ d=>
    rw [C7]
    cases t with
    |zero=> simp [AQ]
    |succ t=> rw [vO,vO,ih]; simp
 exact key l d t
def q9 (tm:List AV) (o:Option Nat) (v:AV):List AV:=match o with
 |none=> tm
 |some d=> setL tm d v

def wpO (E:Env):List AOp→List AV→Heap→(List AV→Heap→Prop)→Prop
 |[],tm,h,K=> K tm h
 |o::r,tm,h,K=> match wanted tm o.guard with
  |false=> wpO E r (q9 tm o.dst .und) h K
  |true=> match gI o.op E h tm with
   | .val v h'=> wpO E r (q9 tm o.dst v) h' K
   | .call f args=> ∃v h',Cal E f args h (.nrm,v,h')∧wpO E r (q9 tm o.dst v) h' K
   |_=> False

theorem UE:∀(l:List AOp) (tm:List AV) (h:Heap) (K:List AV→Heap→Prop),wpO E l tm h K→WO E l ⟨tm,[],none⟩ h (fun ex fr h=> ex= .nrm∧∃tm',fr=⟨tm',[],none⟩∧K tm' h):=by
 intro l
 induction l with
 |nil=> intro tm h K hk; exact .nil ⟨rfl,_,rfl,hk⟩
 |cons o r ih=>
  intro tm h K hk
  obtain ⟨dst,op,g⟩:=o
  have hput:∀v,lW ⟨tm,[],none⟩ dst v=⟨q9 tm dst v,[],none⟩:=fun v=> by cases dst <;> rfl
  simp only [wpO] at hk
  split at hk
  ·rename_i hw
   exact .off hw (by rw [hput]; exact ih _ _ _ hk)
  ·rename_i hw
   split at hk
   ·rename_i v h' hs
    exact .val hw hs (by rw [hput]; exact ih _ _ _ hk)
   ·rename_i f args hs
    obtain ⟨v,h',hc,hk⟩:=hk
    exact .call hw hs hc (by rw [hput]; exact ih _ _ _ hk)
   ·exact hk.elim

def wpC (E:Env) (c:AC) (tm:List AV) (h:Heap) (Q:Ex→List AV→Heap→Prop):Prop:=WC E c ⟨tm,[],none⟩ h (fun ex fr h=> ∃tm',fr=⟨tm',[],none⟩∧Q ex tm' h)

variable {tm : List AV} {h : Heap} {Q Q' : Ex → List AV → Heap → Prop}
theorem wpC.mono {c:AC} (w:wpC E c tm h Q) (k:∀ex tm h,Q ex tm h→Q' ex tm h):wpC E c tm h Q':=WC.mono w fun _ex _fr _h ⟨tm',e,q⟩=> ⟨tm',e,k _ _ _ q⟩
theorem wpC.reg {l:List AOp} (w:wpO E l tm h (fun tm h=> Q .nrm tm h)):wpC E (.reg l) tm h Q:=
 WC.reg ((UE l tm h _ w).mono fun ex fr h ⟨e,tm',e2,q⟩=> by subst e; exact ⟨tm',e2,q⟩)
theorem wpC.skip (q:Q .nrm tm h):wpC E .skip tm h Q:=WC.skip ⟨tm,rfl,q⟩
theorem wpC.ret (q:Q .ret tm h):wpC E .ret tm h Q:=WC.ret ⟨tm,rfl,q⟩
theorem wpC.exit {id:Nat} (q:Q (.exit id) tm h):wpC E (.exit id) tm h Q:=WC.exit ⟨tm,rfl,q⟩
def UF (E:Env) (b:AC) (Q:Ex→List AV→Heap→Prop):Ex→List AV→Heap→Prop
 | .nrm,tm,h=> wpC E b tm h Q
 |ex,tm,h=> Q ex tm h
theorem wpC.seq {a b:AC} (w:wpC E a tm h (UF E b Q)):wpC E (.seq a b) tm h Q:=by
 refine WC.seq (WC.mono w ?_)
 rintro ex fr h ⟨tm',rfl,q⟩
 refine ⟨fun e=> ?_,fun e=> ⟨tm',rfl,?_⟩⟩
 ·subst e; exact q
 ·cases ex <;> first | exact absurd rfl e | exact q
theorem wpC.cond {c:X} {a b:AC} {x:Bool} (hc:c.ev tm= .d (.b x)) (h1:x=true→wpC E a tm h Q) (h2:x=false→wpC E b tm h Q):wpC E (.cond c a b) tm h Q:=WC.cond hc h1 h2
def Ll (id:Nat) (Q:Ex→List AV→Heap→Prop):Ex→List AV→Heap→Prop
 | .exit j,tm,h=> if j=id then Q .nrm tm h else Q (.exit j) tm h
 |ex,tm,h=> Q ex tm h
theorem wpC.blk {id:Nat} {a:AC} (w:wpC E a tm h (Ll id Q)):wpC E (.blk id a) tm h Q:=by
 refine WC.blk (WC.mono w ?_)
 rintro ex fr h ⟨tm',rfl,q⟩
 refine ⟨fun j e=> ?_,fun e=> ?_⟩
 ·subst e
  simp only [Ll] at q
  refine ⟨fun e=> ?_,fun e=> ?_⟩
  ·rw [if_pos e] at q; exact ⟨tm',rfl,q⟩
  ·rw [if_neg e] at q; exact ⟨tm',rfl,q⟩
 ·refine ⟨tm',rfl,?_⟩
  cases ex <;> first | exact q | (exact absurd rfl (e _))
def Round (I:Nat→List AV→Heap→Prop) (n:Nat) (Q:Ex→List AV→Heap→Prop):Ex→List AV→Heap→Prop
 | .nrm,tm,h=> ∃m,m < n∧I m tm h
 |ex,tm,h=> Q ex tm h
theorem wpC.loop {a:AC} (I:Nat→List AV→Heap→Prop) (step:∀n tm h,I n tm h→wpC E a tm h (Round I n Q)):∀n tm h,I n tm h→wpC E (.loop a) tm h Q:=by
 intro n
 induction n using Nat.strongRecOn with
 |ind n ih=>
  intro tm h hi
  refine WC.loop (WC.mono (step n tm h hi) ?_)
  rintro ex fr h ⟨tm',rfl,q⟩
  refine ⟨fun e=> ?_,fun e=> ⟨tm',rfl,?_⟩⟩
  ·subst e
   obtain ⟨m,hm,hi⟩:=q
   exact ih m hm _ _ hi
  ·cases ex <;> first | exact absurd rfl e | exact q

def IsB (x:DV):Prop:=∃b,x= .b b
def IsI (x:DV):Prop:=∃n,x= .i .i64 n
theorem IsB.mk (b:Bool):IsB (.b b):=⟨b,rfl⟩
theorem IsI.mk (n:Int):IsI (.i .i64 n):=⟨n,rfl⟩
def UG (E:Env) (fn:AFn) (Good:DV→Prop) (ex:Ex) (tm:List AV) (h:Heap):Prop:=(ex= .nrm∨ex= .ret)∧∃x,Good x∧results E h tm fn.results=some (inj1 x)
theorem UG.ret {fn:AFn} {Good:DV→Prop} (x:DV) (g:Good x) (hr:results E h tm fn.results=some (inj1 x)):UG E fn Good .ret tm h:=⟨.inr rfl,x,g,hr⟩

theorem Cal.wpx {f:FuncId} {fn:AFn} {args:List AV} {ds:List DV} {bor:Bool} {Good:DV→Prop} (hf:E.fn f=some fn) (hr:fn.ref=false) (ha:stripArgs h args=some (ds,bor)) (hx:∀x,Good x→∀h1,y9 bor h1 h (inj1 x)=some (inj1 x,h1,h))
  (w:wpC E fn.body (enterT fn.ntmps (ds.map inj)) .empty (UG E fn Good)):∃x,Good x∧Cal E f args h (.nrm,inj1 x,h):=by
 obtain ⟨n,ex,fr',h1,hrun,tm',rfl,q1,x,q2,q3⟩:=w
 refine ⟨x,q2,.data hf hr ha (hx x q2) ⟨n,ex,_,h1,hrun,q1,rfl,q3⟩⟩

theorem L9 (bor:Bool) (h1 h:Heap):(∀x,y9 bor h1 h (inj1 (.b x))=some (inj1 (.b x),h1,h))∧∀k n,y9 bor h1 h (inj1 (.i k n))=some (inj1 (.i k n),h1,h):=by
 refine ⟨fun x=> ?_,fun k n=> ?_⟩ <;> cases bor <;> rfl
end
end Go.Abs

namespace Go.Abs

inductive kM (w:World) (F:Bool→Nat→Nat→Prop):DV→Value→Prop
 |b (x:Bool):kM w F (.b x) (.bool x)
 |i (k:IntKind) (n:Int):kM w F (.i k n) (.int k n)
 |s (x:List UInt8) (s:ByteArray) (h:s.data.toList=x):kM w F (.s x) (.string s)
 |sG:kM w F .sG (.pointer none)
 |yj:kM w F .yj .nilFunc
 |nili:kM w F .nili .nilIface
 |xN:kM w F .xN (.map none)
 |nsl:kM w F .nsl (.slice none 0 0)
 |sl0 (b:Bool) (a:Option Addr) (cap:Nat):kM w F (.sl b 0 []) (.slice a 0 cap)
 |sl (b:Bool) (n:Nat) (cells:List DV) (c o cap:Nat) (vs:Nat→Value) (hn:0 < n) (hc:n≤cap)
   (h1:∀i,i < cells.length→w.cell? ⟨c,o+i,none⟩=some (vs i)∧F b c (o+i))
   (h2:∀i (h:i < cells.length),kM w F cells[i] (vs i)):kM w F (.sl b n cells) (.slice (some ⟨c,o,none⟩) n cap)
 |bx (b:Bool) (cells:List DV) (off c o:Nat) (vs:Nat→Value)
   (h1:∀i,i < cells.length→w.cell? ⟨c,o+i,none⟩=some (vs i)∧F b c (o+i))
   (h2:∀i (h:i < cells.length),kM w F cells[i] (vs i)):kM w F (.bx b cells off) (.pointer (some ⟨c,o+off,none⟩))
 |fn (f:Fn) (fs cs:List DV) (fs' cs':Array Value) (hf:fs'.size=fs.length) (hc:cs'.size=cs.length)
   (h1:∀i (h:i < fs.length),kM w F fs[i] (fs'.getD i undef)) (h2:∀i (h:i < cs.length),kM w F cs[i] (cs'.getD i undef)):
   kM w F (.fn f fs cs) (.func f fs' cs')
 |ifc (t:TypeId) (d:DV) (v:Value) (h:kM w F d v):kM w F (.ifc t d) (.iface t v)
 |agg (cs:List DV) (cs':Array Value) (hc:cs'.size=cs.length) (h2:∀i (h:i < cs.length),kM w F cs[i] (cs'.getD i undef)):
   kM w F (.agg cs) (.agg cs')

theorem kM.mono {w w':World} {F F':Bool→Nat→Nat→Prop} (hF:∀b c o,F b c o→F' b c o)
  (hw:∀b c o,F b c o→w'.cell? ⟨c,o,none⟩=w.cell? ⟨c,o,none⟩) {d:DV} {v:Value} (h:kM w F d v):kM w' F' d v:=by
 induction h with
 |b x=> exact .b x
 |i k n=> exact .i k n
 |s x s h=> exact .s x s h
 |sG=> exact .sG
 |yj=> exact .yj
 |nili=> exact .nili
 |xN=> exact .xN
 |nsl=> exact .nsl
 |sl0 b a cap=> exact .sl0 b a cap
 |sl b n cells c o cap vs hn hc h1 _ ih=> exact .sl b n cells c o cap vs hn hc (fun i hi=> ⟨by rw [hw b _ _ (h1 i hi).2]; exact (h1 i hi).1,hF _ _ _ (h1 i hi).2⟩) ih
 |bx b cells off c o vs h1 _ ih=> exact .bx b cells off c o vs (fun i hi=> ⟨by rw [hw b _ _ (h1 i hi).2]; exact (h1 i hi).1,hF _ _ _ (h1 i hi).2⟩) ih
 |fn f fs cs fs' cs' hf hc _ _ ih1 ih2=> exact .fn f fs cs fs' cs' hf hc ih1 ih2
 |ifc t d v _ ih=> exact .ifc t d v ih
 |agg cs cs' hc _ ih=> exact .agg cs cs' hc ih

structure Tk where
 gen:Nat
 pl:Option (Nat×Nat)
 n:Nat
 cap:Nat
 sz:Nat

structure Cx where
 ρ:Nat→Option (Nat×Nat)
 K:Nat→Option Tk
 Z:Nat→Nat→Prop
 B:Nat→Nat→Prop

def Cx.F (cx:Cx) (b:Bool) (c o:Nat):Prop:=cx.Z c o∨(b=true∧cx.B c o)

def Tk.fits (κ:Tk) (n:Nat) (len:Nat) (v:Value):Prop:=
 κ.n=n∧len=n*κ.sz∧match κ.pl with
  |none=> ∃a,v= .slice a 0 0
  |some (c,base)=> v= .slice (some ⟨c,base,none⟩) n κ.cap

inductive bY (cx:Cx) (w:World):AV→Value→Prop
 |d (x:DV) (v:Value) (h:kM w cx.F x v):bY cx w (.d x) v
 |nilsl:bY cx w .nilsl (.slice none 0 0)
 |app (t g n:Nat) (cells:List DV) (v:Value) (h:kM w cx.F (.sl false n cells) v) (κ:Tk) (hk:cx.K t=some κ) (hg:g≤κ.gen)
   (hc:g=κ.gen→κ.fits n cells.length v):bY cx w (.app t g n cells) v
 |full (b:Bool) (n:Nat) (cells:List DV) (a:Option Addr) (h:kM w cx.F (.sl b n cells) (.slice a n n)):bY cx w (.full b n cells) (.slice a n n)
 |ptr (b off c base:Nat) (h:cx.ρ b=some (c,base)):bY cx w (.ptr b off) (.pointer (some ⟨c,base+off,none⟩))
 |kQ (g off:Nat):bY cx w (.kQ g off) (.pointer (some ⟨g,off,none⟩))
 |sref (b off sz n m:Nat) (ex:Bool) (c base cap:Nat) (a:Option Addr) (h:cx.ρ b=some (c,base)) (hn:n≤m) (hm:m≤cap) (he:ex=true→cap=m)
   (ha:a=some ⟨c,base+off,none⟩∨(cap=0∧a.isSome))
   (hz:ex=false→∃(arr:Array Value) (e:TypeId) (fz:Nat×Nat),w.heap[c]? =some (Obj.cells arr e fz)∧base+off+cap*sz≤arr.size∧cap≤9223372036854775807):bY cx w (.sref b off sz n m ex) (.slice a n cap)
 |x_ (t g:Nat) (e:TypeId) (cells:List DV) (c:Nat) (κ:Tk) (hk:cx.K t=some κ) (hg:g≤κ.gen) (hc:g=κ.gen→κ.pl=some (c,0))
   (hd:kM w cx.F (.bx false cells 0) (.pointer (some ⟨c,0,none⟩))):bY cx w (.x_ t g e cells) (.pointer (some ⟨c,0,none⟩))
 |fn (f:Fn) (fs cs:List AV) (fs' cs':Array Value) (hf:fs'.size=fs.length) (hc:cs'.size=cs.length)
   (h1:∀i (h:i < fs.length),bY cx w fs[i] (fs'.getD i undef)) (h2:∀i (h:i < cs.length),bY cx w cs[i] (cs'.getD i undef))
   (hy:∀l,f≠ .yield l):bY cx w (.fn f fs cs) (.func f fs' cs')
 |yld (l c base:Nat) (h:cx.ρ l=some (c,base)):bY cx w (.fn (.yield l) [] []) (.func (.yield c) #[] #[])
 |ifc (t:TypeId) (a:AV) (v:Value) (h:bY cx w a v):bY cx w (.ifc t a) (.iface t v)
 |agg (cs:List AV) (cs':Array Value) (hc:cs'.size=cs.length) (h2:∀i (h:i < cs.length),bY cx w cs[i] (cs'.getD i undef)):
   bY cx w (.agg cs) (.agg cs')
 |tup (cs:List AV) (cs':Array Value) (hc:cs'.size=cs.length) (h2:∀i (h:i < cs.length),bY cx w cs[i] (cs'.getD i undef)):
   bY cx w (.tup cs) (.tuple cs')
 |uo (b c base:Nat) (h:cx.ρ b=some (c,base)):bY cx w (.uo b) (.map (some c))
 |itr (b c base:Nat) (h:cx.ρ b=some (c,base)):bY cx w (.itr b) (.pointer (some ⟨c,0,none⟩))
 |und:bY cx w .und undef

structure Ext (cx:Cx) (w:World) (cx':Cx) (w':World):Prop where
 size:w.heap.size≤w'.heap.size
 ρ:∀b p,cx.ρ b=some p→cx'.ρ b=some p
 K:∀t κ,cx.K t=some κ→∃κ',cx'.K t=some κ'∧κ.gen≤κ'.gen∧(κ.gen=κ'.gen→κ'=κ)
 Z:∀c o,cx.Z c o→cx'.Z c o
 B:∀c o,cx.B c o↔cx'.B c o
 cell:∀c o,cx.Z c o∨cx.B c o→w'.cell? ⟨c,o,none⟩=w.cell? ⟨c,o,none⟩
 el:∀(c:Nat) (arr:Array Value) (e:TypeId) (fz:Nat×Nat),w.heap[c]? =some (Obj.cells arr e fz)→∃(arr':Array Value) (fz':Nat×Nat),w'.heap[c]? =some (Obj.cells arr' e fz')∧arr'.size=arr.size
 lp:∀(c:Nat) (L:Loop),w.heap[c]? =some (Obj.loop L)→∃L':Loop,w'.heap[c]? =some (Obj.loop L')
 io:w'.os=w.os∧w'.output=w.output

theorem Ext.refl (cx:Cx) (w:World):Ext cx w cx w:=
 ⟨Nat.le_refl _,fun _ _ h=> h,fun _ κ h=> ⟨κ,h,Nat.le_refl _,fun _=> rfl⟩,fun _ _ h=> h,fun _ _=> Iff.rfl,fun _ _ _=> rfl,fun _ arr _ fz h=> ⟨arr,fz,h,rfl⟩,fun _ L h=> ⟨L,h⟩,rfl,rfl⟩

theorem Ext.trans {c1 c2 c3:Cx} {w1 w2 w3:World} (h:Ext c1 w1 c2 w2) (k:Ext c2 w2 c3 w3):Ext c1 w1 c3 w3 where
 size:=Nat.le_trans h.size k.size
 ρ b p hp:=k.ρ b p (h.ρ b p hp)
 K t κ hk:=by
  obtain ⟨κ1,h1,h2,h3⟩:=h.K t κ hk
  obtain ⟨κ2,k1,k2,k3⟩:=k.K t κ1 h1
  refine ⟨κ2,k1,Nat.le_trans h2 k2,fun e=> ?_⟩
  have e1:κ.gen=κ1.gen:=Nat.le_antisymm h2 (e▸k2)
  have e2:=h3 e1
  subst e2
  exact k3 e
 Z c o hz:=k.Z c o (h.Z c o hz)
 B c o:=(h.B c o).trans (k.B c o)
 cell c o hz:=by rw [k.cell c o (hz.imp (h.Z c o) (h.B c o).1),h.cell c o hz]
 el c arr e fz hh:=by
  obtain ⟨a1,f1,h1,s1⟩:=h.el c arr e fz hh
  obtain ⟨a2,f2,h2,s2⟩:=k.el c a1 e f1 h1
  exact ⟨a2,f2,h2,by rw [s2,s1]⟩
 lp c L hh:=by
  obtain ⟨L1,h1⟩:=h.lp c L hh
  exact k.lp c L1 h1
 io:=⟨k.io.1.trans h.io.1,k.io.2.trans h.io.2⟩

theorem Ext.F {cx cx':Cx} {w w':World} (h:Ext cx w cx' w') (b:Bool) (c o:Nat) (hf:cx.F b c o):cx'.F b c o:=
 hf.imp (h.Z c o) (fun ⟨e,x⟩=> ⟨e,(h.B c o).1 x⟩)

theorem Ext.aaQ {cx cx':Cx} {w w':World} (h:Ext cx w cx' w') (b:Bool) (c o:Nat) (hf:cx.F b c o):w'.cell? ⟨c,o,none⟩=w.cell? ⟨c,o,none⟩:=
 h.cell c o (hf.imp id (fun ⟨_,x⟩=> x))

theorem kM.ext {cx cx':Cx} {w w':World} (e:Ext cx w cx' w') {d:DV} {v:Value} (h:kM w cx.F d v):kM w' cx'.F d v:=
 h.mono e.F e.aaQ

theorem bY.ext {cx cx':Cx} {w w':World} (e:Ext cx w cx' w') {a:AV} {v:Value} (h:bY cx w a v):bY cx' w' a v:=by
 induction h with
 |d x v h=> exact .d x v (h.ext e)
 |nilsl=> exact .nilsl
 |app t g n cells v h κ hk hg hc=>
  obtain ⟨κ',k1,k2,k3⟩:=e.K t κ hk
  refine .app t g n cells v (h.ext e) κ' k1 (Nat.le_trans hg k2) (fun eg=> ?_)
  have e1:κ.gen=κ'.gen:=Nat.le_antisymm k2 (eg▸hg)
  rw [k3 e1]
  exact hc (by rw [eg,e1])
 |full b n cells a h=> exact .full b n cells a (h.ext e)
 |ptr b off c base h=> exact .ptr b off c base (e.ρ _ _ h)
 |kQ g off=> exact .kQ g off
 |sref b off sz n m ex c base cap a h hn hm he ha hz=>
  refine .sref b off sz n m ex c base cap a (e.ρ _ _ h) hn hm he ha (fun hx=> ?_)
  obtain ⟨arr,t,fz,h1,h2⟩:=hz hx
  obtain ⟨arr',fz',h3,h4⟩:=e.el c arr t fz h1
  exact ⟨arr',t,fz',h3,by rw [h4]; exact h2⟩
 |x_ t g el cells c κ hk hg hc hd=>
  obtain ⟨κ',k1,k2,k3⟩:=e.K t κ hk
  refine .x_ t g el cells c κ' k1 (Nat.le_trans hg k2) (fun eg=> ?_) (hd.ext e)
  have e1:κ.gen=κ'.gen:=Nat.le_antisymm k2 (eg▸hg)
  rw [k3 e1]
  exact hc (by rw [eg,e1])
 |fn f fs cs fs' cs' hf hc _ _ hy ih1 ih2=> exact .fn f fs cs fs' cs' hf hc ih1 ih2 hy
 |yld l c base h=> exact .yld l c base (e.ρ _ _ h)
 |ifc t a v _ ih=> exact .ifc t a v ih
 |agg cs cs' hc _ ih=> exact .agg cs cs' hc ih
 |tup cs cs' hc _ ih=> exact .tup cs cs' hc ih
 |uo b c base h=> exact .uo b c base (e.ρ _ _ h)
 |itr b c base h=> exact .itr b c base (e.ρ _ _ h)
 |und=> exact .und

def LSt.of:LSt→LoopState
 | .ready=> .ready | .busy=> .busy | .done=> .done | .exhausted=> .exhausted

def Mt.of:Mt→Option Code
 | .none=> Option.none | .exit id=> some (.exit id) | .ret=> some .ret

def tZ (P:Program) (_mu:List String) (cx:Cx) (w:World) (b:Nat):Blk→Prop
 | .cells fr e cs=> ∃c base,cx.ρ b=some (c,base)∧(∃(arr:Array Value) (fz:Nat×Nat),w.heap[c]? =some (Obj.cells arr e fz)∧(fr=false→fz.1=fz.2))∧
   ∀i (h:i < cs.length),∃v,w.cell? ⟨c,base+i,none⟩=some v∧bY cx w cs[i] v∧
    (fr=true→cx.Z c (base+i))∧(fr=false→w.frozen? ⟨c,base+i,none⟩=false)
 | .tok g e=> ∃κ,cx.K b=some κ∧κ.gen=g∧(mP P e=some κ.sz∧(κ.pl=none→κ.n=0∧κ.cap=0))∧κ.n≤κ.cap∧
   ∀c base,κ.pl=some (c,base)→base=0∧(∃(arr:Array Value) (fz:Nat×Nat),w.heap[c]? =some (Obj.cells arr e fz)∧(fz.1=fz.2∨fz.2≤κ.n*κ.sz))∧
    ∀j,j < κ.cap*κ.sz→(w.cell? ⟨c,base+j,none⟩).isSome=true∧(κ.n*κ.sz≤j→w.frozen? ⟨c,base+j,none⟩=false)
 | .map es=> ∃c,cx.ρ b=some (c,0)∧∃ents clock,w.heap[c]? =some (Obj.map ents clock)∧ents.size=es.length∧
   ∀i (h:i < es.length),kM w cx.F es[i].1 (ents.getD i default).key∧bY cx w es[i].2 (ents.getD i default).val
 | .loop st pend f tmps ps asg body=> ∃c L,cx.ρ b=some (c,0)∧w.heap[c]? =some (Obj.loop L)∧L.state=st.of∧L.pending=pend.of∧
   L.params.toList=ps∧L.tmps.size=tmps.length∧(∀i (h:i < tmps.length),bY cx w tmps[i] (L.tmps.getD i undef))∧
   (P.funcs[L.fn]?).isSome=true∧∃mu' nm,cC P mu' nm L.assign=asg∧cC P mu' nm L.body=body∧pF L.assign=true∧pF L.body=true
 | .sit s pos=> ∃c s0,cx.ρ b=some (c,0)∧w.heap[c]? =some (Obj.stringIter s0 pos)∧pos≤s0.size∧s0.data.toList.drop pos=s
 | .dead=> True

def vD:Blk→Bool
 | .cells fr _ _=> !fr
 | .dead=> false
 |_=> true

inductive jE (cx:Cx) (h:Heap) (b c:Nat):Prop
 |blk (x:Blk) (base:Nat) (hb:h.get b=some x) (ho:vD x=true) (ht:∀g e,x≠ .tok g e) (hr:cx.ρ b=some (c,base))
 |tok (g:Nat) (e:TypeId) (κ:Tk) (base:Nat) (hb:h.get b=some (.tok g e)) (hk:cx.K b=some κ) (hp:κ.pl=some (c,base))

structure Sep (cx:Cx) (h:Heap) (w:World):Prop where
 inj:∀b1 b2 c,jE cx h b1 c→jE cx h b2 c→b1=b2
 nof:∀b c,jE cx h b c→(∀g e,h.get b≠some (.tok g e))→∀o,¬cx.Z c o∧¬cx.B c o
 p9:∀t g e κ c base,h.get t=some (.tok g e)→cx.K t=some κ→κ.pl=some (c,base)→∀o,cx.Z c o∨cx.B c o→o < base+κ.n*κ.sz
 base0:∀b c base,cx.ρ b=some (c,base)→base=0
 lt:∀b c base,cx.ρ b=some (c,base)→c < w.heap.size
 ltK:∀t κ c base,cx.K t=some κ→κ.pl=some (c,base)→c < w.heap.size
 new:∀b,h.n≤b→cx.ρ b=none∧cx.K b=none
 zc:∀c o,cx.Z c o∨cx.B c o→(w.cell? ⟨c,o,none⟩).isSome=true

structure Rh (cx:Cx) (w:World) (d:DV) (v:Value) (g n:Nat):Prop where
 d:kM w cx.F d v
 a:∃(arr:Array Value) (e:TypeId) (fz:Nat×Nat),w.heap[g]? =some (Obj.cells arr e fz)∧arr.size=n
theorem Rh.ext {cx cx':Cx} {w w':World} {d:DV} {v:Value} {g n:Nat} (h:Rh cx w d v g n) (e:Ext cx w cx' w'):Rh cx' w' d v g n:=by
 obtain ⟨arr,el,fz,h1,h2⟩:=h.a
 obtain ⟨arr',fz',h3,h4⟩:=e.el g arr el fz h1
 exact ⟨h.d.ext e,arr',el,fz',h3,by omega⟩
def acn (G:Nat→List DV) (cx:Cx) (w:World):Prop:=
 ∀g i (h:i < (G g).length),∃v,w.cell? ⟨g,i,none⟩=some v∧cx.Z g i∧Rh cx w (G g)[i] v g (G g).length

structure Inv (P:Program) (mu:List String) (G:Nat→List DV) (cx:Cx) (h:Heap) (w:World):Prop where
 heap:∀b blk,h.get b=some blk→tZ P mu cx w b blk
 sep:Sep cx h w
 kQ:acn G cx w

structure UH (cx:Cx) (h:Heap) (w:World) (cx':Cx) (h':Heap) (w':World):Prop where
 kept:∀c,c < w.heap.size→(∀b,¬jE cx h b c)→w'.heap[c]? =w.heap[c]?
 owns:∀b c,jE cx' h' b c→c < w.heap.size→∃b',jE cx h b' c
 z:∀c o,cx'.Z c o→cx.Z c o∨w.heap.size≤c∨∃b,jE cx h b c
 hn:h.n≤h'.n
 dd:∀b,h.get b=some .dead→h'.get b=some .dead
 rr:∀b,b < h.n→cx'.ρ b=cx.ρ b

structure Stp (cx:Cx) (h:Heap) (w:World) (cx':Cx) (h':Heap) (w':World):Prop where
 ext:Ext cx w cx' w'
 fr:UH cx h w cx' h' w'

theorem Stp.refl (cx:Cx) (h:Heap) (w:World):Stp cx h w cx h w:=
 ⟨.refl _ _,⟨fun _ _ _=> rfl,fun b _ ho _=> ⟨b,ho⟩,fun _ _ hz=> .inl hz,Nat.le_refl _,fun _ h=> h,fun _ _=> rfl⟩⟩

theorem Stp.trans {c1 c2 c3:Cx} {h1 h2 h3:Heap} {w1 w2 w3:World} (a:Stp c1 h1 w1 c2 h2 w2) (b:Stp c2 h2 w2 c3 h3 w3):Stp c1 h1 w1 c3 h3 w3 where
 ext:=a.ext.trans b.ext
 fr := {
  kept:=fun c hc ho=> by
   rw [b.fr.kept c (Nat.lt_of_lt_of_le hc a.ext.size) (fun b' hb' => by
    obtain ⟨b'',aco⟩:=a.fr.owns b' c hb' hc
    exact ho b'' aco),a.fr.kept c hc ho]
  owns:=fun b' c ho hc=> by
   obtain ⟨b1,h1⟩:=b.fr.owns b' c ho (Nat.lt_of_lt_of_le hc a.ext.size)
   exact a.fr.owns b1 c h1 hc
  z:=fun c o hz=> by
   rcases b.fr.z c o hz with h | h | ⟨b',hb'⟩
   ·exact a.fr.z c o h
   ·exact .inr (.inl (Nat.le_trans a.ext.size h))
   ·by_cases hc:c < w1.heap.size
    ·obtain ⟨b'',h''⟩:=a.fr.owns b' c hb' hc
     exact .inr (.inr ⟨b'',h''⟩)
    ·exact .inr (.inl (Nat.le_of_not_lt hc))
  hn:=Nat.le_trans a.fr.hn b.fr.hn
  dd:=fun x hx=> b.fr.dd x (a.fr.dd x hx)
  rr:=fun x hx=> (b.fr.rr x (Nat.lt_of_lt_of_le hx a.fr.hn)).trans (a.fr.rr x hx)}

end Go.Abs

namespace Go.Abs

namespace Tr
variable {α : Type}
theorem Ri (f i:Nat):Bq f (.lf:Tr α) i=none:=by cases f <;> rfl
theorem AS (f:Nat) (v:Option α) (l r:Tr α) (i:Nat):
  Bq (f+1) (.nd v l r) i=if i=0 then v else if i % 2=1 then Bq f l (i / 2) else Bq f r (i / 2 - 1):=by
 show (match Nat.beq i 0 with | true=> v | false=> match Nat.beq (Nat.mod i 2) 1 with | true=> Bq f l (Nat.div i 2) | false=> Bq f r (Nat.sub (Nat.div i 2) 1))=_
 by_cases h0:i=0
 ·simp [h0]
 ·have e0:Nat.beq i 0=false:=by cases h:Nat.beq i 0 with
   |false=> rfl
   |true=> exact absurd (Nat.eq_of_beq_eq_true h) h0
  rw [e0]
  simp only [h0,if_false]
  by_cases h1:i % 2=1
  ·have e1:Nat.beq (Nat.mod i 2) 1=true:=by show Nat.beq (i % 2) 1=true; rw [h1]; rfl
   rw [e1]; simp only [h1,if_true]; rfl
  ·have e1:Nat.beq (Nat.mod i 2) 1=false:=by
    show Nat.beq (i % 2) 1=false
    cases h:Nat.beq (i % 2) 1 with
    |false=> rfl
    |true=> exact absurd (Nat.eq_of_beq_eq_true h) h1
   rw [e1]; simp only [h1,if_false]; rfl
def left (t:Tr α):Tr α:=match t with | .lf=> .lf | .nd _ l _=> l
def right (t:Tr α):Tr α:=match t with | .lf=> .lf | .nd _ _ r=> r
def val (t:Tr α):Option α:=match t with | .lf=> none | .nd v _ _=> v
theorem OB (f:Nat) (t:Tr α) (i:Nat):
  Bq (f+1) t i=if i=0 then t.val else if i % 2=1 then Bq f t.left (i / 2) else Bq f t.right (i / 2 - 1):=by
 cases t with
 |lf=> simp [Ri,left,right,val]
 |nd v l r=> exact AS f v l r i
theorem OC (f:Nat) (t:Tr α) (i:Nat) (x:α):
  IP (f+1) t i x=if i=0 then .nd (some x) t.left t.right else if i % 2=1 then .nd t.val (IP f t.left (i / 2) x) t.right
   else .nd t.val t.left (IP f t.right (i / 2 - 1) x):=by
 have e0:Nat.beq i 0=decide (i=0):=by
  by_cases h:i=0
  ·simp [h]
  ·simp [h]; cases h':Nat.beq i 0 with
   |false=> rfl
   |true=> exact absurd (Nat.eq_of_beq_eq_true h') h
 have e1:Nat.beq (Nat.mod i 2) 1=decide (i % 2=1):=by
  show Nat.beq (i % 2) 1=_
  by_cases h:i % 2=1
  ·rw [h]; rfl
  ·simp [h]; cases h':Nat.beq (i % 2) 1 with
   |false=> rfl
   |true=> exact absurd (Nat.eq_of_beq_eq_true h') h
 cases t with
 |lf=>
  show (match Nat.beq i 0 with | true=> _ | false=> match Nat.beq (Nat.mod i 2) 1 with | true=> _ | false=> _)=_
  rw [e0,e1]
  by_cases h0:i=0
  ·simp [h0,left,right]
  ·by_cases h1:i % 2=1
   ·simp [h0,h1,left,right,val]; rfl
   ·simp [h0,h1,left,right,val]; rfl
 |nd v l r=>
  show (match Nat.beq i 0 with | true=> _ | false=> match Nat.beq (Nat.mod i 2) 1 with | true=> _ | false=> _)=_
  rw [e0,e1]
  by_cases h0:i=0
  ·simp [h0,left,right]
  ·by_cases h1:i % 2=1
   ·simp [h0,h1,left,right,val]; rfl
   ·simp [h0,h1,left,right,val]; rfl
theorem Gc:∀(f i g j:Nat) (t:Tr α) (x:α),i < f→j < g→Bq g (IP f t i x) j=if i=j then some x else Bq g t j:=by
 intro f
 induction f with
 |zero=> intro i g j t x h; omega
 |succ f ih=>
  intro i g j t x hi hj
  obtain ⟨g,rfl⟩:∃k,g=k+1:=⟨g - 1,by omega⟩
  rw [OC,OB g t j]
  by_cases h0:i=0
  ·subst h0
   simp only [if_true]
   rw [AS]
   by_cases hj0:j=0
   ·simp [hj0]
   ·have:¬(0=j):=by omega
    simp [hj0,this]
  ·simp only [h0,if_false]
   by_cases h1:i % 2=1
   ·simp only [h1,if_true]
    rw [AS]
    by_cases hj0:j=0
    ·have:¬(i=j):=by omega
     simp [hj0,h0]
    ·simp only [hj0,if_false]
     by_cases hj1:j % 2=1
     ·simp only [hj1,if_true]
      rw [ih (i / 2) g (j / 2) t.left x (by omega) (by omega)]
      by_cases e:i=j
      ·simp [e]
      ·have:¬(i / 2=j / 2):=by omega
       simp [e,this]
     ·have:¬(i=j):=by intro e; subst e; exact hj1 h1
      simp [hj1,this]
   ·simp only [h1,if_false]
    rw [AS]
    by_cases hj0:j=0
    ·simp [hj0,h0]
    ·simp only [hj0,if_false]
     by_cases hj1:j % 2=1
     ·have:¬(i=j):=by intro e; subst e; exact h1 hj1
      simp [hj1,this]
     ·simp only [hj1,if_false]
      rw [ih (i / 2 - 1) g (j / 2 - 1) t.right x (by omega) (by omega)]
      by_cases e:i=j
      ·simp [e]
      ·have:¬(i / 2 - 1=j / 2 - 1):=by omega
       simp [e,this]
end Tr

namespace Heap
theorem AT (h:Heap) (i:Nat):h.get i=if i < h.n then h.t.Bq (i+1) i else none:=by
 cases h with
 |mk t n=>
  show (match Nat.blt i n with | true=> _ | false=> _)=_
  by_cases e:i < n
  ·have:Nat.blt i n=true:=by simp [Nat.blt]; omega
   rw [this]; simp [e]
  ·have:Nat.blt i n=false:=by
    cases h:Nat.blt i n with
    |false=> rfl
    |true=> exact absurd (by simp [Nat.blt] at h; omega) e
   rw [this]; simp [e]
@[simp] theorem BB (h:Heap) (b:Blk):(h.push b).n=h.n+1:=rfl
@[simp] theorem Cj (h:Heap) (i:Nat) (b:Blk):(h.set i b).n=h.n:=rfl
theorem jk (h:Heap) (b:Blk) (i:Nat):(h.push b).get i=if i=h.n then some b else h.get i:=by
 rw [AT,AT]
 show (if i < h.n+1 then (h.t.IP (Nat.succ h.n) h.n b).Bq (i+1) i else none)=_
 by_cases e:i < h.n+1
 ·rw [if_pos e,Tr.Gc _ _ _ _ _ _ (Nat.lt_succ_self _) (Nat.lt_succ_self _)]
  by_cases k:i=h.n
  ·simp [k]
  ·have:¬(h.n=i):=fun x=> k x.symm
   have:i < h.n:=by omega
   simp [k,this,Ne.symm k]
 ·have h1:¬(i=h.n):=by omega
  have h2:¬(i < h.n):=by omega
  simp [e,h1,h2]
theorem zP (h:Heap) (i:Nat) (b:Blk) (j:Nat):(h.set i b).get j=if i=j∧j < h.n then some b else h.get j:=by
 rw [AT,AT]
 show (if j < h.n then (h.t.IP (Nat.succ i) i b).Bq (j+1) j else none)=_
 by_cases e:j < h.n
 ·rw [if_pos e,Tr.Gc _ _ _ _ _ _ (Nat.lt_succ_self _) (Nat.lt_succ_self _)]
  by_cases k:i=j
  ·simp [k,e]
  ·simp [k,e]
 ·simp [e]
theorem kH {h:Heap} {i:Nat} {b:Blk} (e:h.get i=some b):i < h.n:=by
 rw [AT] at e
 by_cases k:i < h.n
 ·exact k
 ·simp [k] at e
@[simp] theorem Ve (i:Nat):empty.get i=none:=by rw [AT]; simp [empty]
@[simp] theorem abq:empty.n=0:=rfl
theorem get_set_self {h:Heap} {i:Nat} {b b':Blk} (e:h.get i=some b):(h.set i b').get i=some b':=by
 rw [zP]; simp [kH e]
theorem get_set_ne {h:Heap} {i j:Nat} {b':Blk} (e:i≠j):(h.set i b').get j=h.get j:=by
 rw [zP]; simp [e]
end Heap

theorem cell_of_heap {w w':World} {c:Nat} (h:w'.heap[c]? =w.heap[c]?) (o:Nat) (s:Option Nat):w'.cell? ⟨c,o,s⟩=w.cell? ⟨c,o,s⟩:=by
 simp only [World.cell?,h]
theorem frozen_of_heap {w w':World} {c:Nat} (h:w'.heap[c]? =w.heap[c]?) (o:Nat) (s:Option Nat):w'.frozen? ⟨c,o,s⟩=w.frozen? ⟨c,o,s⟩:=by
 simp only [World.frozen?,h]

theorem lt_of_cell {w:World} {c o:Nat} {s:Option Nat} {v:Value} (h:w.cell? ⟨c,o,s⟩=some v):c < w.heap.size:=by
 simp only [World.cell?] at h
 split at h
 ·rename_i c' _ _ hc
  exact (Array.getElem?_eq_some_iff.1 hc).1
 ·cases h

variable {P : Program} {mu : List String} {G : Nat → List DV}

def Cx.add (cx:Cx) (b:Nat) (p:Option (Nat×Nat)) (k:Option Tk):Cx:=
 {cx with ρ:=fun x=> if x=b then p else cx.ρ x,K:=fun x=> if x=b then k else cx.K x}

@[simp] theorem Cx.adB (cx:Cx) (b:Nat) (p:Option (Nat×Nat)) (k:Option Tk):(cx.add b p k).Z=cx.Z:=rfl
@[simp] theorem Cx.adC (cx:Cx) (b:Nat) (p:Option (Nat×Nat)) (k:Option Tk):(cx.add b p k).B=cx.B:=rfl
theorem Cx.qpρ (cx:Cx) (b x:Nat) (p:Option (Nat×Nat)) (k:Option Tk):(cx.add b p k).ρ x=if x=b then p else cx.ρ x:=rfl
theorem Cx.uj (cx:Cx) (b x:Nat) (p:Option (Nat×Nat)) (k:Option Tk):(cx.add b p k).K x=if x=b then k else cx.K x:=rfl

theorem tZ.oD {cx cx':Cx} {w w':World} {b:Nat} {x:Blk} (e:Ext cx w cx' w')
  (hc:∀c base,cx.ρ b=some (c,base)→(∀g t,x≠ .tok g t)→w'.heap[c]? =w.heap[c]?)
  (hk:∀κ,cx.K b=some κ→(∃g t,x= .tok g t)→cx'.K b=some κ∧∀c base,κ.pl=some (c,base)→w'.heap[c]? =w.heap[c]?)
  (h:tZ P mu cx w b x):tZ P mu cx' w' b x:=by
 cases x with
 |cells fr el cs=>
  obtain ⟨c,base,h1,⟨arr,fz,h2,hfz⟩,h3⟩:=h
  have hh:=hc c base h1 (fun _ _=> by simp)
  refine ⟨c,base,e.ρ _ _ h1,⟨arr,fz,by rw [hh]; exact h2,hfz⟩,fun i hi=> ?_⟩
  obtain ⟨v,v1,v2,v3,v4⟩:=h3 i hi
  exact ⟨v,by rw [cell_of_heap hh]; exact v1,v2.ext e,fun f=> e.Z _ _ (v3 f),fun f=> by rw [frozen_of_heap hh]; exact v4 f⟩
 |tok g el=>
  obtain ⟨κ,h1,h2,h3,h4,h5⟩:=h
  obtain ⟨k1,k2⟩:=hk κ h1 ⟨g,el,rfl⟩
  refine ⟨κ,k1,h2,h3,h4,fun c base hp=> ?_⟩
  obtain ⟨p1,⟨arr,fz,p2⟩,p3⟩:=h5 c base hp
  have hh:=k2 c base hp
  refine ⟨p1,⟨arr,fz,by rw [hh]; exact p2⟩,fun j hj=> ?_⟩
  rw [cell_of_heap hh,frozen_of_heap hh]
  exact p3 j hj
 |map es=>
  obtain ⟨c,h1,ents,clock,h2,h3,h4⟩:=h
  have hh:=hc c 0 h1 (fun _ _=> by simp)
  exact ⟨c,e.ρ _ _ h1,ents,clock,by rw [hh]; exact h2,h3,fun i hi=> ⟨(h4 i hi).1.ext e,(h4 i hi).2.ext e⟩⟩
 |loop st pend f tmps ps asg body=>
  obtain ⟨c,L,h1,h2,h3,h4,h5,h6,h7,h8⟩:=h
  have hh:=hc c 0 h1 (fun _ _=> by simp)
  exact ⟨c,L,e.ρ _ _ h1,by rw [hh]; exact h2,h3,h4,h5,h6,fun i hi=> (h7 i hi).ext e,h8⟩
 |sit s pos=>
  obtain ⟨c,s0,h1,h2,h3⟩:=h
  have hh:=hc c 0 h1 (fun _ _=> by simp)
  exact ⟨c,s0,e.ρ _ _ h1,by rw [hh]; exact h2,h3⟩
 |dead=> trivial

theorem kZ {α:Type} (a:Array α) (x:α) (i:Nat) (h:i < a.size):(a.push x)[i]? =a[i]? :=by
 rw [Array.getElem?_push]; simp [Nat.ne_of_lt h]

theorem Inv.push {cx:Cx} {h:Heap} {w w':World} (I:Inv P mu G cx h w) (o:Obj) (x:Blk) (p:Option (Nat×Nat)) (k:Option Tk)
  (hw:w'.heap=w.heap.push o)
  (hp:∀c base,p=some (c,base)→c=w.heap.size) (hp0:∀c base,p=some (c,base)→base=0)
  (hk:∀κ c base,k=some κ→κ.pl=some (c,base)→c=w.heap.size∧p=none)
  (hx:tZ P mu (cx.add h.n p k) w' h.n x) (hio:w'.os=w.os∧w'.output=w.output:=by exact ⟨rfl,rfl⟩):
  Inv P mu G (cx.add h.n p k) (h.push x) w'∧Stp cx h w (cx.add h.n p k) (h.push x) w':=by
 have hold:∀c,c < w.heap.size→w'.heap[c]? =w.heap[c]? :=fun c hc=> by rw [hw,kZ _ _ _ hc]
 have zlt:∀c o,cx.Z c o∨cx.B c o→c < w.heap.size:=fun c o hz=> by
  have:=I.sep.zc c o hz
  obtain ⟨v,hv⟩:=Option.isSome_iff_exists.1 this
  exact lt_of_cell hv
 have nρ:cx.ρ h.n=none:=(I.sep.new h.n (Nat.le_refl _)).1
 have nK:cx.K h.n=none:=(I.sep.new h.n (Nat.le_refl _)).2
 have ext : Ext cx w (cx.add h.n p k) w' := {
  size:=by rw [hw]; simp
  ρ:=fun b q hb=> by
   rw [Cx.qpρ]
   by_cases e:b=h.n
   ·subst e; rw [nρ] at hb; cases hb
   ·simp [e,hb]
  K := fun t κ hκ => ⟨κ,by
   rw [Cx.uj]
   by_cases e:t=h.n
   ·subst e; rw [nK] at hκ; cases hκ
   ·simp [e,hκ],Nat.le_refl _,fun _=> rfl⟩
  Z:=fun _ _ z=> z
  B:=fun _ _=> Iff.rfl
  cell:=fun c o z=> cell_of_heap (hold c (zlt c o z)) o none
  el:=fun c arr e fz hh=> ⟨arr,fz,by rw [hold c (Array.getElem?_eq_some_iff.1 hh).1]; exact hh,rfl⟩
  lp:=fun c L hh=> ⟨L,by rw [hold c (Array.getElem?_eq_some_iff.1 hh).1]; exact hh⟩
  io:=hio}
 have iU:∀b c,jE (cx.add h.n p k) (h.push x) b c→(b=h.n∧c=w.heap.size)∨(b < h.n∧jE cx h b c):=by
  intro b c ho
  cases ho with
  |blk y base hb ho ht' hr=>
   rw [Heap.jk] at hb
   rw [Cx.qpρ] at hr
   by_cases e:b=h.n
   ·simp only [e,if_true] at hr
    exact .inl ⟨e,hp c base hr⟩
   ·simp only [e,if_false] at hb hr
    exact .inr ⟨Heap.kH hb,.blk y base hb ho ht' hr⟩
  |tok g e κ base hb hκ hpl=>
   rw [Heap.jk] at hb
   rw [Cx.uj] at hκ
   by_cases e':b=h.n
   ·simp only [e',if_true] at hκ
    exact .inl ⟨e',(hk κ c base hκ hpl).1⟩
   ·simp only [e',if_false] at hb hκ
    exact .inr ⟨Heap.kH hb,.tok g e κ base hb hκ hpl⟩
 have SI:∀b c,jE cx h b c→c < w.heap.size:=by
  intro b c ho
  cases ho with
  |blk y base hb ho ht' hr=> exact I.sep.lt b c base hr
  |tok g e κ base hb hκ hpl=> exact I.sep.ltK b κ c base hκ hpl
 refine ⟨⟨fun b y hb=> ?_,?_,?_⟩,⟨ext,?_⟩⟩
 ·rw [Heap.jk] at hb
  by_cases e:b=h.n
  ·simp only [e,if_true,Option.some.injEq] at hb
   subst hb; subst e; exact hx
  ·simp only [e,if_false] at hb
   refine tZ.oD ext (fun c base hr _=> hold c (I.sep.lt b c base hr)) (fun κ hκ _=> ⟨?_,fun c base hpl=> hold c (I.sep.ltK b κ c base hκ hpl)⟩) (I.heap b y hb)
   rw [Cx.uj]; simp [e,hκ]
 ·exact {
   inj:=fun b1 b2 c h1 h2=> by
    rcases iU b1 c h1 with ⟨e1,c1⟩ | ⟨l1,o1⟩ <;> rcases iU b2 c h2 with ⟨e2,c2⟩ | ⟨l2,o2⟩
    ·rw [e1,e2]
    ·have:=SI _ _ o2; omega
    ·have:=SI _ _ o1; omega
    ·exact I.sep.inj b1 b2 c o1 o2
   nof:=fun b c ho hn o=> by
    rcases iU b c ho with ⟨e,ec⟩ | ⟨l,o1⟩
    ·refine ⟨fun z=> ?_,fun z=> ?_⟩
     ·have:=zlt c o (.inl z); omega
     ·have:=zlt c o (.inr z); omega
    ·refine I.sep.nof b c o1 (fun g e hb=> hn g e ?_) o
     rw [Heap.jk,if_neg (Nat.ne_of_lt l)]; exact hb
   p9:=fun t g e κ c base hb hκ hpl o z=> by
    rw [Heap.jk] at hb
    rw [Cx.uj] at hκ
    by_cases e':t=h.n
    ·simp only [e',if_true] at hκ
     have:=(hk κ c base hκ hpl).1
     have:=zlt c o z
     omega
    ·simp only [e',if_false] at hb hκ
     exact I.sep.p9 t g e κ c base hb hκ hpl o z
   base0:=fun b c base hr=> by
    rw [Cx.qpρ] at hr
    by_cases e:b=h.n
    ·simp only [e,if_true] at hr; exact hp0 c base hr
    ·simp only [e,if_false] at hr; exact I.sep.base0 b c base hr
   lt:=fun b c base hr=> by
    rw [Cx.qpρ] at hr
    rw [hw]; simp only [Array.size_push]
    by_cases e:b=h.n
    ·simp only [e,if_true] at hr; have:=hp c base hr; omega
    ·simp only [e,if_false] at hr; have:=I.sep.lt b c base hr; omega
   ltK:=fun b κ c base hr hpl=> by
    rw [Cx.uj] at hr
    rw [hw]; simp only [Array.size_push]
    by_cases e:b=h.n
    ·simp only [e,if_true] at hr; have:=(hk κ c base hr hpl).1; omega
    ·simp only [e,if_false] at hr; have:=I.sep.ltK b κ c base hr hpl; omega
   new:=fun b hb=> by
    simp only [Heap.BB] at hb
    have e:b≠h.n:=by omega
    rw [Cx.qpρ,Cx.uj]; simp only [e,if_false]
    exact I.sep.new b (by omega)
   zc:=fun c o z=> by rw [cell_of_heap (hold c (zlt c o z))]; exact I.sep.zc c o z}
 ·intro g i hi
  obtain ⟨v,v1,v2,v3⟩:=I.kQ g i hi
  exact ⟨v,by rw [cell_of_heap (hold g (zlt g i (.inl v2)))]; exact v1,v2,v3.ext ext⟩
 ·exact {
   kept:=fun c hc _=> hold c hc
   owns:=fun b c ho hc=> by
    rcases iU b c ho with ⟨_,ec⟩ | ⟨_,o1⟩
    ·omega
    ·exact ⟨b,o1⟩
   z:=fun c o z=> .inl z
   hn:=by simp
   dd:=fun b' hb'=> by rw [Heap.jk,if_neg (Nat.ne_of_lt (Heap.kH hb'))]; exact hb'
   rr:=fun b' hb'=> by rw [Cx.qpρ,if_neg (Nat.ne_of_lt hb')]}

theorem jE.lt {cx:Cx} {h:Heap} {w:World} (I:Inv P mu G cx h w) {b c:Nat} (ho:jE cx h b c):c < w.heap.size:=by
 cases ho with
 |blk y base hb ho ht' hr=> exact I.sep.lt b c base hr
 |tok g e κ base hb hκ hpl=> exact I.sep.ltK b κ c base hκ hpl

theorem zlt {cx:Cx} {h:Heap} {w:World} (I:Inv P mu G cx h w) {c o:Nat} (hz:cx.Z c o∨cx.B c o):c < w.heap.size:=by
 obtain ⟨v,hv⟩:=Option.isSome_iff_exists.1 (I.sep.zc c o hz)
 exact lt_of_cell hv

theorem Inv.OD {cx:Cx} {h:Heap} {w w':World} (I:Inv P mu G cx h w) {b c base:Nat} {x x':Blk} (hb:h.get b=some x) (ho:vD x=true)
  (ht:∀g e,x≠ .tok g e) (hr:cx.ρ b=some (c,base)) (ht':∀g e,x'≠ .tok g e)
  (hs:w'.heap.size=w.heap.size) (hw:∀i,i≠c→w'.heap[i]? =w.heap[i]?)
  (hel:∀(arr:Array Value) (e:TypeId) (fz:Nat×Nat),w.heap[c]? =some (Obj.cells arr e fz)→∃(arr':Array Value) (fz':Nat×Nat),w'.heap[c]? =some (Obj.cells arr' e fz')∧arr'.size=arr.size)
  (hlp:∀L:Loop,w.heap[c]? =some (Obj.loop L)→∃L':Loop,w'.heap[c]? =some (Obj.loop L'))
  (hx:Ext cx w cx w'→tZ P mu cx w' b x') (hio:w'.os=w.os∧w'.output=w.output:=by exact ⟨rfl,rfl⟩):
  Inv P mu G cx (h.set b x') w'∧Stp cx h w cx (h.set b x') w':=by
 have hown:jE cx h b c:= .blk x base hb ho ht hr
 have hnz:∀o,¬cx.Z c o∧¬cx.B c o:=I.sep.nof b c hown (fun g e hh=> by rw [hb] at hh; cases hh; exact ht g e rfl)
 have zne:∀c' o,cx.Z c' o∨cx.B c' o→c'≠c:=fun c' o z e=> by subst e; exact z.elim (hnz o).1 (hnz o).2
 have ext : Ext cx w cx w' := {
  size:=by rw [hs]; exact Nat.le_refl _
  ρ:=fun _ _ h=> h
  K:=fun _ κ h=> ⟨κ,h,Nat.le_refl _,fun _=> rfl⟩
  Z:=fun _ _ z=> z
  B:=fun _ _=> Iff.rfl
  cell:=fun c' o z=> cell_of_heap (hw c' (zne c' o z)) o none
  el:=fun c' arr e fz hh=> by
   by_cases ec:c'=c
   ·subst ec; exact hel arr e fz hh
   ·exact ⟨arr,fz,by rw [hw c' ec]; exact hh,rfl⟩
  lp:=fun c' L hh=> by
   by_cases ec:c'=c
   ·subst ec; exact hlp L hh
   ·exact ⟨L,by rw [hw c' ec]; exact hh⟩
  io:=hio}
 have iU:∀b' c',jE cx (h.set b x') b' c'→jE cx h b' c':=by
  intro b' c' ho'
  cases ho' with
  |blk y base' hb' ho2 ht2 hr'=>
   by_cases e:b=b'
   ·subst e; rw [hr] at hr'; cases hr'; exact hown
   ·rw [Heap.get_set_ne e] at hb'; exact .blk y base' hb' ho2 ht2 hr'
  |tok g e κ base' hb' hκ hpl=>
   by_cases e':b=b'
   ·subst e'; rw [Heap.get_set_self hb] at hb'; cases hb'; exact absurd rfl (ht' g e)
   ·rw [Heap.get_set_ne e'] at hb'; exact .tok g e κ base' hb' hκ hpl
 refine ⟨⟨fun b' y hb'=> ?_,?_,?_⟩,⟨ext,?_⟩⟩
 ·by_cases e:b=b'
  ·subst e; rw [Heap.get_set_self hb] at hb'; cases hb'; exact hx ext
  ·rw [Heap.get_set_ne e] at hb'
   have hB:=I.heap b' y hb'
   -- what owns nothing lies in frozen cells
   cases y with
   |cells fr el cs=>
    obtain ⟨c',base',h1,⟨arr,fz,h2,hfz⟩,h3⟩:=hB
    by_cases ec:c'=c
    ·subst ec
     cases fr with
     |false=> exact absurd (I.sep.inj b b' c' hown (.blk _ base' hb' rfl (fun _ _=> by simp) h1)) e
     |true=>
      refine ⟨c',base',h1,(by obtain ⟨FE,fz2,q,_⟩:=hel arr el fz h2; exact ⟨FE,fz2,q,fun k=> by cases k⟩),fun i hi=> ?_⟩
      obtain ⟨v,_,_,v3,_⟩:=h3 i hi
      exact absurd (v3 rfl) (hnz _).1
    ·refine tZ.oD ext (fun c2 b2 hr2 _=> ?_) (fun κ _ ⟨g,t,hh⟩=> by cases hh) ⟨c',base',h1,⟨arr,fz,h2,hfz⟩,h3⟩
     rw [h1] at hr2; cases hr2; exact hw c' ec
   |tok g el=>
    refine tZ.oD ext (fun c2 b2 hr2 hh=> absurd rfl (hh g el)) (fun κ hκ _=> ⟨hκ,fun c2 lX hpl=> hw c2 (fun ec=> ?_)⟩) hB
    subst ec
    exact e (I.sep.inj b b' c2 hown (.tok g el κ lX hb' hκ hpl))
   |dead=> trivial
   |map es=> exact tZ.oD ext (fun c2 b2 hr2 _=> hw c2 (fun ec=> e (I.sep.inj b b' c hown (ec▸ .blk _ b2 hb' rfl (fun _ _=> by simp) hr2)))) (fun κ _ ⟨g,t,hh⟩=> by cases hh) hB
   |loop st pend f tmps ps asg body=> exact tZ.oD ext (fun c2 b2 hr2 _=> hw c2 (fun ec=> e (I.sep.inj b b' c hown (ec▸ .blk _ b2 hb' rfl (fun _ _=> by simp) hr2)))) (fun κ _ ⟨g,t,hh⟩=> by cases hh) hB
   |sit s pos=> exact tZ.oD ext (fun c2 b2 hr2 _=> hw c2 (fun ec=> e (I.sep.inj b b' c hown (ec▸ .blk _ b2 hb' rfl (fun _ _=> by simp) hr2)))) (fun κ _ ⟨g,t,hh⟩=> by cases hh) hB
 ·exact {
   inj:=fun b1 b2 c' h1 h2=> I.sep.inj b1 b2 c' (iU _ _ h1) (iU _ _ h2)
   nof:=fun b' c' ho' hn o=> by
    refine I.sep.nof b' c' (iU _ _ ho') (fun g e hh=> ?_) o
    by_cases e':b=b'
    ·subst e'; rw [hb] at hh; cases hh; exact ht g e rfl
    ·exact hn g e (by rw [Heap.get_set_ne e']; exact hh)
   p9:=fun t g e κ c' base' hb' hκ hpl o z=> by
    by_cases e':b=t
    ·subst e'; rw [Heap.get_set_self hb] at hb'; cases hb'; exact absurd rfl (ht' g e)
    ·rw [Heap.get_set_ne e'] at hb'; exact I.sep.p9 t g e κ c' base' hb' hκ hpl o z
   base0:=I.sep.base0
   lt:=fun b' c' base' hr'=> by rw [hs]; exact I.sep.lt b' c' base' hr'
   ltK:=fun b' κ c' base' hr' hpl=> by rw [hs]; exact I.sep.ltK b' κ c' base' hr' hpl
   new:=fun b' hb'=> I.sep.new b' hb'
   zc:=fun c' o z=> by rw [cell_of_heap (hw c' (zne c' o z))]; exact I.sep.zc c' o z}
 ·intro g i hi
  obtain ⟨v,v1,v2,v3⟩:=I.kQ g i hi
  exact ⟨v,by rw [cell_of_heap (hw g (zne g i (.inl v2)))]; exact v1,v2,v3.ext ext⟩
 ·exact {
   kept:=fun c' _ hno=> hw c' (fun e=> hno b (e▸hown))
   owns:=fun b' c' ho' _=> ⟨b',iU _ _ ho'⟩
   z:=fun c' o z=> .inl z
   hn:=by simp
   dd:=fun b' hb'=> by
    by_cases e:b=b'
    ·subst e; rw [hb] at hb'; cases hb'; simp [vD] at ho
    ·rw [Heap.get_set_ne e]; exact hb'
   rr:=fun _ _=> rfl}

theorem Inv.kill {cx:Cx} {h:Heap} {w:World} (I:Inv P mu G cx h w) (b:Nat):
  Inv P mu G cx (h.set b .dead) w∧Stp cx h w cx (h.set b .dead) w:=by
 have hget:∀b' y,(h.set b .dead).get b'=some y→y= .dead∨(b≠b'∧h.get b'=some y):=by
  intro b' y hh
  rw [Heap.zP] at hh
  by_cases e:b=b'∧b' < h.n
  ·rw [if_pos e] at hh; cases hh; exact .inl rfl
  ·rw [if_neg e] at hh
   by_cases e2:b=b'
   ·subst e2; exact absurd ⟨rfl,Heap.kH hh⟩ e
   ·exact .inr ⟨e2,hh⟩
 have iU:∀b' c',jE cx (h.set b .dead) b' c'→jE cx h b' c'∧(h.set b .dead).get b'=h.get b':=by
  intro b' c' ho'
  cases ho' with
  |blk y base' hb' ho2 ht2 hr'=>
   rcases hget b' y hb' with e | ⟨_,e⟩
   ·subst e; simp [vD] at ho2
   ·exact ⟨.blk y base' e ho2 ht2 hr',by rw [hb',e]⟩
  |tok g e κ base' hb' hκ hpl=>
   rcases hget b' _ hb' with e' | ⟨_,e'⟩
   ·cases e'
   ·exact ⟨.tok g e κ base' e' hκ hpl,by rw [hb',e']⟩
 refine ⟨⟨fun b' y hb'=> ?_,?_,I.kQ⟩,⟨.refl _ _,?_⟩⟩
 ·rcases hget b' y hb' with e | ⟨_,e⟩
  ·subst e; trivial
  ·exact I.heap b' y e
 ·exact {
   inj:=fun b1 b2 c' h1 h2=> I.sep.inj b1 b2 c' (iU _ _ h1).1 (iU _ _ h2).1
   nof:=fun b' c' ho' hn o=> I.sep.nof b' c' (iU _ _ ho').1 (fun g e hh=> hn g e (by rw [(iU _ _ ho').2]; exact hh)) o
   p9:=fun t g e κ c' base' hb' hκ hpl o z=> by
    rcases hget t _ hb' with e' | ⟨_,e'⟩
    ·cases e'
    ·exact I.sep.p9 t g e κ c' base' e' hκ hpl o z
   lt:=I.sep.lt
   base0:=I.sep.base0
   ltK:=I.sep.ltK
   new:=fun b' hb'=> I.sep.new b' hb'
   zc:=I.sep.zc}
 ·exact {
   kept:=fun _ _ _=> rfl
   owns:=fun b' c' ho' _=> ⟨b',(iU _ _ ho').1⟩
   z:=fun c' o z=> .inl z
   hn:=by simp
   dd:=fun b' hb'=> by
    by_cases e:b=b'
    ·subst e; exact Heap.get_set_self hb'
    ·rw [Heap.get_set_ne e]; exact hb'
   rr:=fun _ _=> rfl}

theorem Inv.same {cx:Cx} {h:Heap} {w w':World} (I:Inv P mu G cx h w) (hw:w'.heap=w.heap) (hio:w'.os=w.os∧w'.output=w.output:=by exact ⟨rfl,rfl⟩):
    Inv P mu G cx h w'∧Stp cx h w cx h w':=by
  have hh:∀c:Nat,w'.heap[c]? =w.heap[c]? :=fun c=> by rw [hw]
  have ext : Ext cx w cx w' := ⟨by rw [hw]; exact Nat.le_refl _,fun _ _ h => h,fun _ κ h => ⟨κ,h,Nat.le_refl _,fun _ => rfl⟩,fun _ _ z => z,fun _ _ => Iff.rfl,
    fun c o _=> cell_of_heap (hh c) o none,fun c arr e fz h=> ⟨arr,fz,by rw [hh]; exact h,rfl⟩,fun c L h=> ⟨L,by rw [hh]; exact h⟩,hio⟩
  refine ⟨⟨fun b y hb=> tZ.oD ext (fun c _ _ _=> hh c) (fun κ hκ _=> ⟨hκ,fun c _ _=> hh c⟩) (I.heap b y hb),?_,fun g i hi=> ?_⟩,⟨ext,?_⟩⟩
  · exact { I.sep with
      base0:=I.sep.base0
      lt:=fun b c base hr=> by rw [hw]; exact I.sep.lt b c base hr
      ltK:=fun b κ c base hr hpl=> by rw [hw]; exact I.sep.ltK b κ c base hr hpl
      zc:=fun c o z=> by rw [cell_of_heap (hh c)]; exact I.sep.zc c o z}
  · obtain ⟨v,v1,v2,v3⟩:=I.kQ g i hi
    exact ⟨v,by rw [cell_of_heap (hh g)]; exact v1,v2,v3.ext ext⟩
  · exact ⟨fun c _ _=> hh c,fun b c ho _=> ⟨b,ho⟩,fun _ _ z=> .inl z,Nat.le_refl _,fun _ h=> h,fun _ _=> rfl⟩


theorem Ext.Db {cx:Cx} {h:Heap} {w:World} (I:Inv P mu G cx h w) (p:Option (Nat×Nat)) (k:Option Tk):Ext cx w (cx.add h.n p k) w where
 size:=Nat.le_refl _
 ρ b q hb:=by
  rw [Cx.qpρ]
  by_cases e:b=h.n
  ·subst e; rw [(I.sep.new h.n (Nat.le_refl _)).1] at hb; cases hb
  ·simp [e,hb]
 K t κ hκ := ⟨κ,by
  rw [Cx.uj]
  by_cases e:t=h.n
  ·subst e; rw [(I.sep.new h.n (Nat.le_refl _)).2] at hκ; cases hκ
  ·simp [e,hκ],Nat.le_refl _,fun _=> rfl⟩
 Z:=fun _ _ z=> z
 B:=fun _ _=> Iff.rfl
 cell:=fun _ _ _=> rfl
 el:=fun _ arr _ fz h=> ⟨arr,fz,h,rfl⟩
 lp:=fun _ L h=> ⟨L,h⟩
 io:=⟨rfl,rfl⟩

theorem Inv.rename {cx:Cx} {h:Heap} {w:World} (I:Inv P mu G cx h w) {b c base base':Nat} {x y:Blk} (hb:h.get b=some x) (ho:vD x=true)
  (ht:∀g e,x≠ .tok g e) (hr:cx.ρ b=some (c,base)) (ht':∀g e,y≠ .tok g e) (h0:base'=0)
  (hy:tZ P mu (cx.add h.n (some (c,base')) none) w h.n y):
  Inv P mu G (cx.add h.n (some (c,base')) none) ((h.set b .dead).push y) w∧Stp cx h w (cx.add h.n (some (c,base')) none) ((h.set b .dead).push y) w:=by
 have hown:jE cx h b c:= .blk x base hb ho ht hr
 have blt:b < h.n:=Heap.kH hb
 have ext:Ext cx w (cx.add h.n (some (c,base')) none) w:= .Db I _ _
 have hget:∀b' z,((h.set b .dead).push y).get b'=some z→(b'=h.n∧z=y)∨(b'=b∧z= .dead)∨(b' < h.n∧b'≠b∧h.get b'=some z):=by
  intro b' z hz
  rw [Heap.jk,Heap.Cj,Heap.zP] at hz
  by_cases e:b'=h.n
  ·rw [if_pos e] at hz; cases hz; exact .inl ⟨e,rfl⟩
  ·rw [if_neg e] at hz
   by_cases e2:b=b'∧b' < h.n
   ·rw [if_pos e2] at hz; cases hz; exact .inr (.inl ⟨e2.1.symm,rfl⟩)
   ·rw [if_neg e2] at hz
    have l:=Heap.kH hz
    exact .inr (.inr ⟨l,fun k=> e2 ⟨k.symm,l⟩,hz⟩)
 have iU:∀b' c',jE (cx.add h.n (some (c,base')) none) ((h.set b .dead).push y) b' c'→
   (b'=h.n∧c'=c)∨(b' < h.n∧b'≠b∧jE cx h b' c'∧((h.set b .dead).push y).get b'=h.get b'):=by
  intro b' c' ho'
  cases ho' with
  |blk z lX hb' ho2 ht2 hr'=>
   rw [Cx.qpρ] at hr'
   rcases hget b' z hb' with ⟨e,_⟩ | ⟨_,e⟩ | ⟨l,n,e⟩
   ·simp only [e,if_true,Option.some.injEq,Prod.mk.injEq] at hr'; exact .inl ⟨e,hr'.1.symm⟩
   ·subst e; simp [vD] at ho2
   ·rw [if_neg (Nat.ne_of_lt l)] at hr'
    exact .inr ⟨l,n,.blk z lX e ho2 ht2 hr',by rw [hb',e]⟩
  |tok g e κ lX hb' hκ hpl=>
   rw [Cx.uj] at hκ
   rcases hget b' _ hb' with ⟨e',_⟩ | ⟨_,e'⟩ | ⟨l,n,e'⟩
   ·rw [if_pos e'] at hκ; cases hκ
   ·cases e'
   ·rw [if_neg (Nat.ne_of_lt l)] at hκ
    exact .inr ⟨l,n,.tok g e κ lX e' hκ hpl,by rw [hb',e']⟩
 have hnz:∀o,¬cx.Z c o∧¬cx.B c o:=I.sep.nof b c hown (fun g e hh=> by rw [hb] at hh; cases hh; exact ht g e rfl)
 refine ⟨⟨fun b' z hz=> ?_,?_,fun g i hi=> ?_⟩,⟨ext,?_⟩⟩
 ·rcases hget b' z hz with ⟨e,e2⟩ | ⟨_,e⟩ | ⟨l,n,e⟩
  ·subst e; subst e2; exact hy
  ·subst e; trivial
  ·refine tZ.oD ext (fun _ _ _ _=> rfl) (fun κ hκ _=> ⟨?_,fun _ _ _=> rfl⟩) (I.heap b' z e)
   rw [Cx.uj,if_neg (Nat.ne_of_lt l)]; exact hκ
 ·exact {
   inj:=fun b1 b2 c' h1 h2=> by
    rcases iU b1 c' h1 with ⟨e1,c1⟩ | ⟨l1,n1,o1,_⟩ <;> rcases iU b2 c' h2 with ⟨e2,c2⟩ | ⟨l2,n2,o2,_⟩
    ·rw [e1,e2]
    ·subst c1; exact absurd (I.sep.inj _ _ _ o2 hown) n2
    ·subst c2; exact absurd (I.sep.inj _ _ _ o1 hown) n1
    ·exact I.sep.inj b1 b2 c' o1 o2
   nof:=fun b' c' ho' hn o=> by
    rcases iU b' c' ho' with ⟨_,e⟩ | ⟨l,n,o1,eg⟩
    ·subst e; exact hnz o
    ·exact I.sep.nof b' c' o1 (fun g e hh=> hn g e (by rw [eg]; exact hh)) o
   p9:=fun t g e κ c' lX hb' hκ hpl o z=> by
    rw [Cx.uj] at hκ
    rcases hget t _ hb' with ⟨e',_⟩ | ⟨_,e'⟩ | ⟨l,n,e'⟩
    ·rw [if_pos e'] at hκ; cases hκ
    ·cases e'
    ·rw [if_neg (Nat.ne_of_lt l)] at hκ
     exact I.sep.p9 t g e κ c' lX e' hκ hpl o z
   base0:=fun b' c' lX hr'=> by
    rw [Cx.qpρ] at hr'
    by_cases e:b'=h.n
    ·simp only [e,if_true] at hr'; cases hr'; exact h0
    ·simp only [e,if_false] at hr'; exact I.sep.base0 b' c' lX hr'
   lt:=fun b' c' lX hr'=> by
    rw [Cx.qpρ] at hr'
    by_cases e:b'=h.n
    ·simp only [e,if_true,Option.some.injEq,Prod.mk.injEq] at hr'; rw [←hr'.1]; exact I.sep.lt b c base hr
    ·rw [if_neg e] at hr'; exact I.sep.lt b' c' lX hr'
   ltK:=fun b' κ c' lX hκ hpl=> by
    rw [Cx.uj] at hκ
    by_cases e:b'=h.n
    ·rw [if_pos e] at hκ; cases hκ
    ·rw [if_neg e] at hκ; exact I.sep.ltK b' κ c' lX hκ hpl
   new:=fun b' hb'=> by
    simp only [Heap.BB,Heap.Cj] at hb'
    have e:b'≠h.n:=by omega
    rw [Cx.qpρ,Cx.uj,if_neg e,if_neg e]
    exact I.sep.new b' (by omega)
   zc:=I.sep.zc}
 ·obtain ⟨v,v1,v2,v3⟩:=I.kQ g i hi
  exact ⟨v,v1,v2,v3.ext ext⟩
 ·exact {
   kept:=fun _ _ _=> rfl
   owns:=fun b' c' ho' _=> by
    rcases iU b' c' ho' with ⟨_,e⟩ | ⟨l,n,o1,eg⟩
    ·subst e; exact ⟨b,hown⟩
    ·exact ⟨b',o1⟩
   z:=fun c' o z=> .inl z
   hn:=by simp
   dd:=fun b' hb'=> by
    have hlt:=Heap.kH hb'
    rw [Heap.jk,Heap.Cj,if_neg (Nat.ne_of_lt hlt)]
    by_cases e:b=b'
    ·subst e; exact Heap.get_set_self hb'
    ·rw [Heap.get_set_ne e]; exact hb'
   rr:=fun b' hb'=> by rw [Cx.qpρ,if_neg (Nat.ne_of_lt hb')]}

theorem Inv.freeze {cx:Cx} {h:Heap} {w:World} (I:Inv P mu G cx h w) {b c base:Nat} {e:TypeId} {cs:List AV} {ds:List DV} (hb:h.get b=some (.cells false e cs))
  (hr:cx.ρ b=some (c,base)) (hl:ds.length=cs.length)
  (hd:∀i (hi:i < ds.length) v,w.cell? ⟨c,base+i,none⟩=some v→kM w cx.F ds[i] v):
  Inv P mu G {cx with Z:=fun c' o=> cx.Z c' o∨(c'=c∧base≤o∧o < base+cs.length)} (h.set b (.cells true e (ds.map .d))) w∧
  Stp cx h w {cx with Z:=fun c' o=> cx.Z c' o∨(c'=c∧base≤o∧o < base+cs.length)} (h.set b (.cells true e (ds.map .d))) w:=by
 have hown:jE cx h b c:= .blk _ base hb rfl (fun _ _=> by simp) hr
 have hnz:∀o,¬cx.Z c o∧¬cx.B c o:=I.sep.nof b c hown (fun g e hh=> by rw [hb] at hh; cases hh)
 have hB:=I.heap b _ hb
 obtain ⟨c0,base0,h1,hel,hcell⟩:=hB
 rw [hr] at h1; cases h1
 have ext : Ext cx w { cx with Z := fun c' o => cx.Z c' o ∨ (c' = c ∧ base ≤ o ∧ o < base + cs.length) } w := {
  size:=Nat.le_refl _
  ρ:=fun _ _ h=> h
  K:=fun _ κ h=> ⟨κ,h,Nat.le_refl _,fun _=> rfl⟩
  Z:=fun _ _ z=> .inl z
  B:=fun _ _=> Iff.rfl
  cell:=fun _ _ _=> rfl
  el:=fun _ arr _ fz h=> ⟨arr,fz,h,rfl⟩
  lp:=fun _ L h=> ⟨L,h⟩
  io:=⟨rfl,rfl⟩}
 have hget:∀b' z,(h.set b (.cells true e (ds.map .d))).get b'=some z→(b'=b∧z= .cells true e (ds.map .d))∨(b≠b'∧h.get b'=some z):=by
  intro b' z hz
  by_cases k:b=b'
  ·subst k; rw [Heap.get_set_self hb] at hz; cases hz; exact .inl ⟨rfl,rfl⟩
  ·rw [Heap.get_set_ne k] at hz; exact .inr ⟨k,hz⟩
 have iU:∀b' c',jE {cx with Z:=fun c' o=> cx.Z c' o∨(c'=c∧base≤o∧o < base+cs.length)} (h.set b (.cells true e (ds.map .d))) b' c'→
   b'≠b∧jE cx h b' c'∧(h.set b (.cells true e (ds.map .d))).get b'=h.get b':=by
  intro b' c' ho'
  cases ho' with
  |blk z lX hb' ho2 ht2 hr'=>
   rcases hget b' z hb' with ⟨_,e'⟩ | ⟨n,e'⟩
   ·subst e'; simp [vD] at ho2
   ·exact ⟨Ne.symm n,.blk z lX e' ho2 ht2 hr',by rw [hb',e']⟩
  |tok g e1 κ lX hb' hκ hpl=>
   rcases hget b' _ hb' with ⟨_,e'⟩ | ⟨n,e'⟩
   ·cases e'
   ·exact ⟨Ne.symm n,.tok g e1 κ lX e' hκ hpl,by rw [hb',e']⟩
 refine ⟨⟨fun b' z hz=> ?_,?_,fun g i hi=> ?_⟩,⟨ext,?_⟩⟩
 ·rcases hget b' z hz with ⟨e1,e2⟩ | ⟨n,e'⟩
  ·subst e1; subst e2
   refine ⟨c,base,hr,(by obtain ⟨arr,fz,q,_⟩:=hel; exact ⟨arr,fz,q,fun k=> by cases k⟩),fun i hi=> ?_⟩
   have hi':i < cs.length:=by simpa [hl] using hi
   obtain ⟨v,v1,_,_,_⟩:=hcell i hi'
   refine ⟨v,v1,?_,fun _=> .inr ⟨rfl,by omega,by omega⟩,fun k=> by cases k⟩
   rw [List.getElem_map]
   exact .d _ _ ((hd i (by omega) v v1).ext ext)
  ·exact tZ.oD ext (fun _ _ _ _=> rfl) (fun κ hκ _=> ⟨hκ,fun _ _ _=> rfl⟩) (I.heap b' z e')
 ·exact {
   inj:=fun b1 b2 c' h1 h2=> I.sep.inj b1 b2 c' (iU _ _ h1).2.1 (iU _ _ h2).2.1
   nof:=fun b' c' ho' hn o=> by
    obtain ⟨n,o1,eg⟩:=iU b' c' ho'
    have:=I.sep.nof b' c' o1 (fun g e hh=> hn g e (by rw [eg]; exact hh)) o
    refine ⟨fun z=> ?_,this.2⟩
    rcases z with z | ⟨ec,_⟩
    ·exact this.1 z
    ·subst ec; exact n (I.sep.inj _ _ _ o1 hown)
   p9:=fun t g e1 κ c' lX hb' hκ hpl o z=> by
    rcases hget t _ hb' with ⟨_,e'⟩ | ⟨n,e'⟩
    ·cases e'
    ·rcases z with (z | ⟨ec,_⟩) | z
     ·exact I.sep.p9 t g e1 κ c' lX e' hκ hpl o (.inl z)
     ·subst ec; exact absurd (I.sep.inj _ _ _ hown (.tok g e1 κ lX e' hκ hpl)) n
     ·exact I.sep.p9 t g e1 κ c' lX e' hκ hpl o (.inr z)
   lt:=I.sep.lt
   base0:=I.sep.base0
   ltK:=I.sep.ltK
   new:=fun b' hb'=> I.sep.new b' hb'
   zc:=fun c' o z=> by
    rcases z with (z | ⟨ec,l1,l2⟩) | z
    ·exact I.sep.zc c' o (.inl z)
    ·subst ec
     obtain ⟨v,v1,_⟩:=hcell (o - base) (by omega)
     rw [show base+(o - base)=o by omega] at v1
     rw [v1]; rfl
    ·exact I.sep.zc c' o (.inr z)}
 ·obtain ⟨v,v1,v2,v3⟩:=I.kQ g i hi
  exact ⟨v,v1,.inl v2,v3.ext ext⟩
 ·exact {
   kept:=fun _ _ _=> rfl
   owns:=fun b' c' ho' _=> ⟨b',(iU _ _ ho').2.1⟩
   z:=fun c' o z=> by
    rcases z with z | ⟨ec,_⟩
    ·exact .inl z
    ·exact .inr (.inr ⟨b,ec▸hown⟩)
   hn:=by simp
   dd:=fun b' hb'=> by
    by_cases e:b=b'
    ·subst e; rw [hb] at hb'; cases hb'
    ·rw [Heap.get_set_ne e]; exact hb'
   rr:=fun _ _=> rfl}


def Cx.step (cx:Cx) (t:Nat) (κ':Tk) (c:Nat):Cx:=
 {cx with K:=fun x=> if x=t then some κ' else cx.K x,Z:=fun c' o=> cx.Z c' o∨(c'=c∧o < κ'.n*κ'.sz)}

theorem Inv.tok {cx:Cx} {h:Heap} {w w':World} (I:Inv P mu G cx h w) {t g c:Nat} {e:TypeId} {κ κ':Tk} (hb:h.get t=some (.tok g e)) (hk:cx.K t=some κ)
  (hg:κ'.gen=g+1) (hss:κ'.sz=κ.sz) (hpl:κ'.pl=some (c,0)) (hc:(∃b0,κ.pl=some (c,b0))∨c=w.heap.size)
  (hsz:w.heap.size≤w'.heap.size) (hlt:c < w'.heap.size)
  (hw:∀i:Nat,i≠c→i < w.heap.size→w'.heap[i]? =w.heap[i]?)
  (hold:∀b0,κ.pl=some (c,b0)→κ.n*κ.sz≤κ'.n*κ'.sz∧∀o,o < κ.n*κ.sz→w'.cell? ⟨c,o,none⟩=w.cell? ⟨c,o,none⟩)
  (harr:∃(arr:Array Value) (fz:Nat×Nat),w'.heap[c]? =some (Obj.cells arr e fz)∧(fz.1=fz.2∨fz.2≤κ'.n*κ'.sz)) (hn:κ'.n≤κ'.cap)
  (hsame:∀b0,κ.pl=some (c,b0)→∀(arr arr':Array Value) (fz fz':Nat×Nat),w.heap[c]? =some (Obj.cells arr e fz)→w'.heap[c]? =some (Obj.cells arr' e fz')→arr'.size=arr.size)
  (hcells:∀j,j < κ'.cap*κ'.sz→(w'.cell? ⟨c,j,none⟩).isSome=true∧(κ'.n*κ'.sz≤j→w'.frozen? ⟨c,j,none⟩=false)) (hio:w'.os=w.os∧w'.output=w.output:=by exact ⟨rfl,rfl⟩):
  Inv P mu G (cx.step t κ' c) (h.set t (.tok (g+1) e)) w'∧Stp cx h w (cx.step t κ' c) (h.set t (.tok (g+1) e)) w':=by
 obtain ⟨κ0,k0,adI,kv,kn,kpl⟩:=I.heap t _ hb
 rw [hk] at k0; cases k0
 have zc1:∀o,cx.Z c o∨cx.B c o→∃b0,κ.pl=some (c,b0)∧o < κ.n*κ.sz:=by
  intro o z
  rcases hc with ⟨b0,hp⟩ | hc
  ·have:=I.sep.p9 t g e κ c b0 hb hk hp o z
   have hb0:=(kpl c b0 hp).1
   subst hb0
   exact ⟨0,hp,by omega⟩
  ·have:=zlt I z; omega
 have I6:∀c' o,cx.Z c' o∨cx.B c' o→w'.cell? ⟨c',o,none⟩=w.cell? ⟨c',o,none⟩:=by
  intro c' o z
  by_cases ec:c'=c
  ·subst ec
   obtain ⟨b0,hp,lo⟩:=zc1 o z
   exact (hold b0 hp).2 o lo
  ·exact cell_of_heap (hw c' ec (zlt I z)) o none
 have ext : Ext cx w (cx.step t κ' c) w' := {
  size:=hsz
  ρ:=fun _ _ h=> h
  K:=fun x κ1 h1=> by
   show ∃κ2,(if x=t then some κ' else cx.K x)=some κ2∧_
   by_cases ex:x=t
   ·subst ex
    rw [hk] at h1; cases h1
    exact ⟨κ',by simp,by omega,fun e=> by omega⟩
   ·exact ⟨κ1,by simp [ex,h1],Nat.le_refl _,fun _=> rfl⟩
  Z:=fun _ _ z=> .inl z
  B:=fun _ _=> Iff.rfl
  cell:=I6
  el:=fun c' arr e' fz hh=> by
   have lc:=(Array.getElem?_eq_some_iff.1 hh).1
   by_cases ec:c'=c
   ·subst ec
    rcases hc with ⟨b0,hp⟩ | hc
    ·obtain ⟨_,⟨a1,f1,h1,_⟩,_⟩:=kpl c' b0 hp
     rw [h1] at hh; cases hh
     obtain ⟨a2,f2,h2,_⟩:=harr
     exact ⟨a2,f2,h2,hsame b0 hp _ _ _ _ h1 h2⟩
    ·omega
   ·exact ⟨arr,fz,by rw [hw c' ec lc]; exact hh,rfl⟩
  lp:=fun c' L hh=> by
   have lc:=(Array.getElem?_eq_some_iff.1 hh).1
   by_cases ec:c'=c
   ·subst ec
    rcases hc with ⟨b0,hp⟩ | hc
    ·obtain ⟨_,⟨a1,f1,h1,_⟩,_⟩:=kpl c' b0 hp
     rw [h1] at hh; cases hh
    ·omega
   ·exact ⟨L,by rw [hw c' ec lc]; exact hh⟩
  io:=hio}
 have hget:∀b' z,(h.set t (.tok (g+1) e)).get b'=some z→(b'=t∧z= .tok (g+1) e)∨(t≠b'∧h.get b'=some z):=by
  intro b' z hz
  by_cases k:t=b'
  ·subst k; rw [Heap.get_set_self hb] at hz; cases hz; exact .inl ⟨rfl,rfl⟩
  ·rw [Heap.get_set_ne k] at hz; exact .inr ⟨k,hz⟩
 have iU:∀b' c',jE (cx.step t κ' c) (h.set t (.tok (g+1) e)) b' c'→(b'=t∧c'=c)∨(b'≠t∧jE cx h b' c'∧h.get b'=(h.set t (.tok (g+1) e)).get b'):=by
  intro b' c' ho'
  cases ho' with
  |blk z lX hb' ho2 ht2 hr'=>
   rcases hget b' z hb' with ⟨_,e'⟩ | ⟨n,e'⟩
   ·exact absurd e' (ht2 _ _)
   ·exact .inr ⟨Ne.symm n,.blk z lX e' ho2 ht2 hr',by rw [hb',e']⟩
  |tok g1 e1 κ1 lX hb' hκ UI=>
   rcases hget b' _ hb' with ⟨ex,_⟩ | ⟨n,e'⟩
   ·subst ex
    have:(cx.step b' κ' c).K b'=some κ':=by show (if b'=b' then some κ' else _)=_; simp
    rw [this] at hκ; cases hκ
    rw [hpl] at UI; cases UI
    exact .inl ⟨rfl,rfl⟩
   ·have:(cx.step t κ' c).K b'=cx.K b':=by show (if b'=t then some κ' else _)=_; simp [Ne.symm n]
    rw [this] at hκ
    exact .inr ⟨Ne.symm n,.tok g1 e1 κ1 lX e' hκ UI,by rw [hb',e']⟩
 have Rj:c < w.heap.size→jE cx h t c:=by
  intro l
  rcases hc with ⟨b0,hp⟩ | hc
  ·exact .tok g e κ b0 hb hk hp
  ·omega
 have hne:∀b' c',b'≠t→jE cx h b' c'→c'≠c:=by
  intro b' c' n ho ec
  subst ec
  exact n (I.sep.inj _ _ _ ho (Rj (jE.lt I ho)))
 refine ⟨⟨fun b' z hz=> ?_,?_,fun g1 i hi=> ?_⟩,⟨ext,?_⟩⟩
 ·rcases hget b' z hz with ⟨e1,e2⟩ | ⟨n,e'⟩
  ·subst e1; subst e2
   refine ⟨κ',by show (if b'=b' then some κ' else _)=_; simp,hg,⟨by rw [hss]; exact kv.1,fun k=> by rw [hpl] at k; cases k⟩,hn,fun c2 b2 hp2=> ?_⟩
   rw [hpl] at hp2; cases hp2
   exact ⟨rfl,harr,fun j hj=> by simpa using hcells j hj⟩
  ·have hB:=I.heap b' z e'
   cases z with
   |cells fr el cs=>
    obtain ⟨c',base',h1,⟨arr,fz,h2,hfz⟩,h3⟩:=hB
    by_cases ec:c'=c
    ·subst ec
     cases fr with
     |false=> exact absurd rfl (hne b' c' (Ne.symm n) (.blk _ base' e' rfl (fun _ _=> by simp) h1))
     |true=>
      obtain ⟨FE,fz2,h2',_⟩:=ext.el c' arr el fz h2
      refine ⟨c',base',h1,⟨FE,fz2,h2',fun k=> by cases k⟩,fun i hi=> ?_⟩
      obtain ⟨v,v1,v2,v3,v4⟩:=h3 i hi
      exact ⟨v,by rw [I6 _ _ (.inl (v3 rfl))]; exact v1,v2.ext ext,fun _=> .inl (v3 rfl),fun k=> by cases k⟩
    ·refine tZ.oD ext (fun c2 b2 hr2 _=> ?_) (fun κ _ ⟨g,t,hh⟩=> by cases hh) ⟨c',base',h1,⟨arr,fz,h2,hfz⟩,h3⟩
     rw [h1] at hr2; cases hr2; exact hw c' ec (I.sep.lt _ _ _ h1)
   |tok g2 el=>
    refine tZ.oD ext (fun c2 b2 hr2 hh=> absurd rfl (hh g2 el)) (fun κ2 hκ2 _=> ⟨?_,fun c2 lX D4=> ?_⟩) hB
    ·show (if b'=t then some κ' else cx.K b')=_; simp [Ne.symm n,hκ2]
    ·exact hw c2 (hne b' c2 (Ne.symm n) (.tok g2 el κ2 lX e' hκ2 D4)) (I.sep.ltK _ _ _ _ hκ2 D4)
   |dead=> trivial
   |map es=> exact tZ.oD ext (fun c2 b2 hr2 _=> hw c2 (hne b' c2 (Ne.symm n) (.blk _ b2 e' rfl (fun _ _=> by simp) hr2)) (I.sep.lt _ _ _ hr2)) (fun κ _ ⟨g,t,hh⟩=> by cases hh) hB
   |loop st pend f tmps ps asg body=> exact tZ.oD ext (fun c2 b2 hr2 _=> hw c2 (hne b' c2 (Ne.symm n) (.blk _ b2 e' rfl (fun _ _=> by simp) hr2)) (I.sep.lt _ _ _ hr2)) (fun κ _ ⟨g,t,hh⟩=> by cases hh) hB
   |sit s pos=> exact tZ.oD ext (fun c2 b2 hr2 _=> hw c2 (hne b' c2 (Ne.symm n) (.blk _ b2 e' rfl (fun _ _=> by simp) hr2)) (I.sep.lt _ _ _ hr2)) (fun κ _ ⟨g,t,hh⟩=> by cases hh) hB
 ·exact {
   inj:=fun b1 b2 c' h1 h2=> by
    rcases iU b1 c' h1 with ⟨e1,c1⟩ | ⟨n1,o1,_⟩ <;> rcases iU b2 c' h2 with ⟨e2,c2⟩ | ⟨n2,o2,_⟩
    ·rw [e1,e2]
    ·exact absurd c1 (hne b2 c' n2 o2)
    ·exact absurd c2 (hne b1 c' n1 o1)
    ·exact I.sep.inj b1 b2 c' o1 o2
   nof:=fun b' c' ho' hn' o=> by
    rcases iU b' c' ho' with ⟨e1,c1⟩ | ⟨n,o1,eg⟩
    ·subst e1; exact absurd (Heap.get_set_self hb) (hn' _ _)
    ·have:=I.sep.nof b' c' o1 (fun g e hh=> hn' g e (by rw [←eg]; exact hh)) o
     refine ⟨fun z=> ?_,this.2⟩
     rcases z with z | ⟨ec,_⟩
     ·exact this.1 z
     ·exact hne b' c' n o1 ec
   p9:=fun x g2 e2 κ2 c' lX hb' hκ D4 o z=> by
    rcases hget x _ hb' with ⟨ex,_⟩ | ⟨n,e'⟩
    ·subst ex
     have:(cx.step x κ' c).K x=some κ':=by show (if x=x then some κ' else _)=_; simp
     rw [this] at hκ; cases hκ
     rw [hpl] at D4; cases D4
     rcases z with (z | ⟨_,lo⟩) | z
     ·obtain ⟨b0,hp,lo⟩:=zc1 o (.inl z)
      have:=(hold b0 hp).1; omega
     ·omega
     ·obtain ⟨b0,hp,lo⟩:=zc1 o (.inr z)
      have:=(hold b0 hp).1; omega
    ·have hK:(cx.step t κ' c).K x=cx.K x:=by show (if x=t then some κ' else _)=_; simp [Ne.symm n]
     rw [hK] at hκ
     have hne':=hne x c' (Ne.symm n) (.tok g2 e2 κ2 lX e' hκ D4)
     rcases z with (z | ⟨ec,_⟩) | z
     ·exact I.sep.p9 x g2 e2 κ2 c' lX e' hκ D4 o (.inl z)
     ·exact absurd ec hne'
     ·exact I.sep.p9 x g2 e2 κ2 c' lX e' hκ D4 o (.inr z)
   base0:=fun b' c' lX hr'=> I.sep.base0 b' c' lX hr'
   lt:=fun b' c' lX hr'=> Nat.lt_of_lt_of_le (I.sep.lt b' c' lX hr') hsz
   ltK:=fun x κ2 c' lX hκ D4=> by
    by_cases ex:x=t
    ·subst ex
     have:(cx.step x κ' c).K x=some κ':=by show (if x=x then some κ' else _)=_; simp
     rw [this] at hκ; cases hκ
     rw [hpl] at D4; cases D4; exact hlt
    ·have hK:(cx.step t κ' c).K x=cx.K x:=by show (if x=t then some κ' else _)=_; simp [ex]
     rw [hK] at hκ
     exact Nat.lt_of_lt_of_le (I.sep.ltK x κ2 c' lX hκ D4) hsz
   new:=fun b' hb'=> by
    have:=I.sep.new b' hb'
    have ex:b'≠t:=by have:=Heap.kH hb; simp at hb'; omega
    refine ⟨this.1,?_⟩
    show (if b'=t then some κ' else cx.K b')=none
    simp [ex,this.2]
   zc:=fun c' o z=> by
    rcases z with (z | ⟨ec,lo⟩) | z
    ·rw [I6 c' o (.inl z)]; exact I.sep.zc c' o (.inl z)
    ·subst ec; exact (hcells o (Nat.lt_of_lt_of_le lo (Nat.mul_le_mul_right _ hn))).1
    ·rw [I6 c' o (.inr z)]; exact I.sep.zc c' o (.inr z)}
 ·obtain ⟨v,v1,v2,v3⟩:=I.kQ g1 i hi
  exact ⟨v,by rw [I6 _ _ (.inl v2)]; exact v1,.inl v2,v3.ext ext⟩
 ·exact {
   kept:=fun c' hc' hno=> by
    by_cases ec:c'=c
    ·subst ec; exact absurd (Rj hc') (hno t)
    ·exact hw c' ec hc'
   owns:=fun b' c' ho' hc'=> by
    rcases iU b' c' ho' with ⟨_,e1⟩ | ⟨_,o1,_⟩
    ·subst e1; exact ⟨t,Rj hc'⟩
    ·exact ⟨b',o1⟩
   z:=fun c' o z=> by
    rcases z with z | ⟨ec,_⟩
    ·exact .inl z
    ·by_cases l:c' < w.heap.size
     ·subst ec; exact .inr (.inr ⟨t,Rj l⟩)
     ·exact .inr (.inl (Nat.le_of_not_lt l))
   hn:=by simp
   dd:=fun b' hb'=> by
    by_cases e:t=b'
    ·subst e; rw [hb] at hb'; cases hb'
    ·rw [Heap.get_set_ne e]; exact hb'
   rr:=fun _ _=> rfl}

end Go.Abs

namespace Go.Abs

theorem yD (l:List AV) (n:Nat):getL l n=l.getD n .und:=by
 induction l generalizing n with
 |nil=> rfl
 |cons a r ih=> cases n with
  |zero=> rfl
  |succ n=> rw [vO,ih]; rfl
theorem zQ (l:List AV) (n:Nat) (x:AV):setL l n x=l.set n x:=by
 induction l generalizing n with
 |nil=> rfl
 |cons a r ih=> cases n with
  |zero=> rfl
  |succ n=> rw [C7,ih]; rfl

structure uF (cx:Cx) (w:World) (tm:List AV) (a:Array Value):Prop where
 size:a.size=tm.length
 rel:∀t,bY cx w (getL tm t) (a.getD t undef)

theorem uF.ext {cx cx':Cx} {w w':World} {tm:List AV} {a:Array Value} (e:Ext cx w cx' w') (h:uF cx w tm a):uF cx' w' tm a:=
 ⟨h.size,fun t=> (h.rel t).ext e⟩

theorem uF.set {cx:Cx} {w:World} {tm:List AV} {a:Array Value} (h:uF cx w tm a) (d:Nat) {x:AV} {v:Value} (hv:bY cx w x v):
  uF cx w (setL tm d x) (a.setIfInBounds d v):=by
 refine ⟨by rw [zQ]; simp [h.size],fun t=> ?_⟩
 rw [zQ,yD]
 have:=h.rel t
 rw [yD] at this
 simp only [Array.getD_eq_getD_getElem?,Array.getElem?_setIfInBounds,List.getD_eq_getElem?_getD,List.getElem?_set] at this ⊢
 by_cases e:d=t
 ·subst e
  by_cases l:d < tm.length
  ·have:d < a.size:=by rw [h.size]; exact l
   simp [l,this]; exact hv
  ·have:¬(d < a.size):=by rw [h.size]; exact l
   simp [l,this]; exact .und
 ·simp [e]; exact this

theorem EK (cx:Cx) (w:World):∀(n:Nat) (v:Value) (a:AV),cV n v=some a→bY cx w a v:=by
 intro n
 induction n with
 |zero=> intro v a h; simp [cV] at h
 |succ n ih=>
  intro v a h
  have hlist:∀(l:List Value) (r:List AV),l.mapM (cV n)=some r→l.length=r.length∧∀i (hi:i < r.length),bY cx w r[i] (l.toArray.getD i undef):=by
   intro l
   induction l with
   |nil=> intro r h; simp at h; subst h; exact ⟨rfl,fun i hi=> absurd hi (by simp)⟩
   |cons x l ihl=>
    intro r h
    rw [List.mapM_cons] at h
    cases hx:cV n x with
    |none=> rw [hx] at h; cases h
    |some y=>
     rw [hx] at h
     cases hl:l.mapM (cV n) with
     |none=> rw [hl] at h; cases h
     |some r'=>
      rw [hl] at h
      cases h
      obtain ⟨e1,e2⟩:=ihl r' hl
      refine ⟨by simp [e1],fun i hi=> ?_⟩
      cases i with
      |zero=> simpa [Array.getD] using ih x y hx
      |succ i=>
       have:=e2 i (by simpa using hi)
       simpa [Array.getD_eq_getD_getElem?] using this
  unfold cV at h
  split at h
  ·cases h; exact .d _ _ (.b _)
  ·cases h; exact .d _ _ (.i _ _)
  ·cases h; exact .d _ _ (.s _ _ rfl)
  ·cases h; exact .d _ _ .sG
  ·cases h; exact .nilsl
  ·cases h; exact .d _ _ .xN
  ·cases h; exact .d _ _ .yj
  ·cases h; exact .d _ _ .nili
  ·rename_i cs
   cases hl:cs.toList.mapM (cV n) with
   |none=> rw [hl] at h; cases h
   |some r=>
    rw [hl] at h; cases h
    obtain ⟨e1,e2⟩:=hlist _ _ hl
    exact .agg r cs (by simpa using e1) (fun i hi=> by simpa using e2 i hi)
  ·rename_i cs
   cases hl:cs.toList.mapM (cV n) with
   |none=> rw [hl] at h; cases h
   |some r=>
    rw [hl] at h; cases h
    obtain ⟨e1,e2⟩:=hlist _ _ hl
    exact .tup r cs (by simpa using e1) (fun i hi=> by simpa using e2 i hi)
  ·rename_i t v'
   split at h
   ·rename_i x hx
    cases h
    have:=ih v' _ hx
    cases this with
    |d _ _ hd=> exact .d _ _ (.ifc t x v' hd)
   ·cases h
  ·rename_i g fs cs
   split at h
   ·rename_i hc
    cases h
    simp at hc
    refine .d _ _ (.fn _ _ _ _ _ ?_ ?_ ?_ ?_)
    ·simp [hc.1]
    ·simp [hc.2]
    ·intro i hi; simp at hi
    ·intro i hi; simp at hi
   ·cases h
  ·cases h

theorem zR {cx:Cx} {w:World} {tm:List AV} {a:Act} (ht:uF cx w tm a.tmps) {o:Operand} {x:X} (h:cX o=some x):bY cx w (x.ev tm) (a.eval o):=by
 cases o with
 |tmp t=> simp [cX] at h; subst h; exact ht.rel t
 |const v=>
  simp only [cX,Option.map_eq_some_iff] at h
  obtain ⟨y,hy,e⟩:=h
  subst e
  exact EK cx w 8 v y hy
 |global g=> simp [cX] at h; subst h; exact .kQ g 0
 |func f=>
  simp [cX] at h; subst h
  exact .d _ _ (.fn _ _ _ _ _ (by simp) (by simp) (fun i hi=> by simp at hi) (fun i hi=> by simp at hi))

theorem Rk {cx:Cx} {w:World} {tm:List AV} {a:Act} (ht:uF cx w tm a.tmps):∀{os:List Operand} {xs:List X},os.mapM cX=some xs→
  os.length=xs.length∧∀i (hi:i < xs.length),bY cx w (xs[i].ev tm) ((os.map a.eval).toArray.getD i undef):=by
 intro os
 induction os with
 |nil=> intro xs h; simp at h; subst h; exact ⟨rfl,fun i hi=> absurd hi (by simp)⟩
 |cons o os ih=>
  intro xs h
  rw [List.mapM_cons] at h
  cases hx:cX o with
  |none=> rw [hx] at h; cases h
  |some y=>
   rw [hx] at h
   cases hl:os.mapM cX with
   |none=> rw [hl] at h; cases h
   |some r=>
    rw [hl] at h; cases h
    obtain ⟨e1,e2⟩:=ih hl
    refine ⟨by simp [e1],fun i hi=> ?_⟩
    cases i with
    |zero=> simpa [Array.getD] using zR ht hx
    |succ i=>
     have:=e2 i (by simpa using hi)
     simpa [Array.getD_eq_getD_getElem?] using this

def Enters (P:Program) (f:FuncId):Prop:=∃fn c,P.funcs[f]? =some fn∧fn.body=some c∧fn.name≠ "runtime.NumGoroutine"

def jR (P:Program) (mu:List String) (G:Nat→List DV) (cx:Cx) (h:Heap) (w:World) (s:St1) (r:Result Next):Prop:=
 match s with
 | .val v h'=> ∃cx' w',Inv P mu G cx' h' w'∧Stp cx h w cx' h' w'∧((∃v',r= .ok (.value v') w'∧bY cx' w' v v')∨(r= .ok .skip w'∧v= .und))
 | .call f args=> ∃args':Array Value,(Enters P f→r= .ok (.enter f args') w)∧args'.size=args.length∧∀i (hi:i < args.length),bY cx w args[i] (args'.getD i undef)
 | .yield l args=> ∃args':Array Value,args'.size=args.length∧(∀i (hi:i < args.length),bY cx w args[i] (args'.getD i undef))∧
   ∀st pd f tm ps asg body,h.get l=some (.loop st pd f tm ps asg body)→∃c L,cx.ρ l=some (c,0)∧w.heap[c]? =some (Obj.loop L)∧
    (args'.size=L.params.size→r= .ok (.round c L.fn ((L.params.zip args').foldl (fun tmps (t,a)=> tmps.setIfInBounds t a) L.tmps) L.assign L.body) w)
 | .pan v=> ∃v',r= .halt (.panic v') w∧bY cx w v v'
 | .uT=> r= .ok .recover w
 | .dfr f args=> ∃g fs cs,∃args':Array Value,r= .ok (.defer {target:= .fn g cs,args:=fs++args'}) w∧bY cx w f (.func g fs cs)∧args'.size=args.length∧(∀i (hi:i < args.length),bY cx w args[i] (args'.getD i undef))
 | .bad=> True

section
variable {P : Program} {mu : List String} {G : Nat → List DV} {cx : Cx} {h : Heap} {w : World}

theorem jR.look (I:Inv P mu G cx h w) {v:AV} {v':Value} {r:Result Next} (hr:r= .ok (.value v') w) (hv:bY cx w v v'):
  jR P mu G cx h w (.val v h) r:=⟨cx,w,I,.refl _ _ _,.inl ⟨v',hr,hv⟩⟩

theorem jR.ov (I:Inv P mu G cx h w) {o:Option AV} {r:Result Next} (hh:∀v,o=some v→∃v',r= .ok (.value v') w∧bY cx w v v'):
  jR P mu G cx h w (ov h o) r:=by
 cases o with
 |none=> trivial
 |some v=> obtain ⟨v',hr,hv⟩:=hh v rfl; exact .look I hr hv

theorem zS {t:TypeId} {n:Nat} (hs:mP P t=some n):∃i,P.info? t=some i∧i.size=n:=by
 unfold mP at hs
 cases hi:P.info? t with
 |none=> rw [hi] at hs; cases hs
 |some i=> rw [hi] at hs; cases hs; exact ⟨i,rfl,rfl⟩

theorem jY {t:TypeId} {n:Nat} (hs:mP P t=some n) (w:World):(sizeOf t).run P w= .ok n w:=by
 obtain ⟨i,hi,e⟩:=zS hs
 simp [sizeOf,run_typeInfo w hi,e]

theorem uO {t:TypeId} {b:Bool} (hs:yw P t=some b) (w:World):(Go.isAgg t).run P w= .ok b w:=by
 unfold yw at hs
 unfold Go.isAgg
 split at hs
 ·rename_i e; cases hs; simp [run_underlying e]
 ·rename_i e; cases hs; simp [run_underlying e]
 ·rename_i d hn1 hn2 e
  cases hs
  simp only [Sem.run_bind,run_underlying e,Result.andThen_ok,Sem.run_pure]
 ·cases hs


theorem OE (cs:List AV) (n:Nat):takeN cs n=if n≤cs.length then some (cs.take n) else none:=by
 induction cs generalizing n with
 |nil=> cases n with
  |zero=> rfl
  |succ n=> rfl
 |cons a r ih=> cases n with
  |zero=> rfl
  |succ n=>
   show (match takeN r n with | some l=> some (a::l) | none=> none)=_
   rw [ih]
   by_cases e:n≤r.length
   ·simp [e]
   ·simp [e]

theorem B6 (cs:List AV) (off n:Nat):readN cs off n=if off+n≤cs.length then some ((cs.drop off).take n) else none:=by
 induction cs generalizing off with
 |nil=> cases off with
  |zero=> cases n with
   |zero=> rfl
   |succ n=> simp; rfl
  |succ off=> simp; rfl
 |cons a r ih=> cases off with
  |zero=>
   show takeN (a::r) n=_
   rw [OE]; simp
  |succ off=>
   show readN r off n=_
   rw [ih]
   simp only [List.length_cons,List.drop_succ_cons]
   by_cases e:off+n≤r.length
   ·rw [if_pos e,if_pos (by omega)]
   ·rw [if_neg e,if_neg (by omega)]

theorem pU {cs l:List AV} {off n:Nat} (hr:readN cs off n=some l):off+n≤cs.length∧l=(cs.drop off).take n∧l.length=n∧∀i (hi:i < l.length) (hj:off+i < cs.length),l[i]=cs[off+i]:=by
 rw [B6] at hr
 by_cases e:off+n≤cs.length
 ·rw [if_pos e] at hr
  cases hr
  refine ⟨e,rfl,by simp; omega,fun i hi hj=> by simp⟩
 ·rw [if_neg e] at hr; cases hr

theorem addr_add (c o i:Nat):(⟨c,o,none⟩:Addr).add i=⟨c,o+i,none⟩:=by
 unfold Addr.add; split
 ·rename_i e; subst e; rfl
 ·rfl

theorem zT {t:TypeId} {ag:Bool} {n:Nat} {l:List AV} {v:AV} (ha:yw P t=some ag) (hs:mP P t=some n) (c o:Nat) (hl:l.length=n) (ho:one ag l=some v)
  (hc:∀i (hi:i < l.length),∃v',w.cell? ⟨c,o+i,none⟩=some v'∧bY cx w l[i] v'):
  ∃v',(loadVar t ⟨c,o,none⟩).run P w= .ok v' w∧bY cx w v v':=by
 have hf:∀j,j < n→w.cell? ((⟨c,o,none⟩:Addr).add j)=some ((w.cell? ⟨c,o+j,none⟩).getD undef):=by
  intro j hj
  obtain ⟨v',h1,_⟩:=hc j (by omega)
  rw [addr_add,h1]; rfl
 cases ag with
 |true=>
  simp [one] at ho; subst ho
  refine ⟨.agg ((List.range n).map fun j=> (w.cell? ⟨c,o+j,none⟩).getD undef).toArray,?_,.agg _ _ (by simp [hl]) (fun i hi=> ?_)⟩
  ·unfold loadVar
   simp only [Sem.run_bind,uO ha,Result.andThen_ok,if_true,jY hs,run_loadCells w _ n _ hf,Sem.run_pure]
  ·obtain ⟨v',h1,h2⟩:=hc i hi
   have:i < n:=by omega
   simp [Array.getD_eq_getD_getElem?,this,h1]
   exact h2
 |false=>
  cases l with
  |nil=> simp [one] at ho
  |cons a r=>
   cases r with
   |cons b r=> simp [one] at ho
   |nil=>
    simp [one] at ho; subst ho
    obtain ⟨v',h1,h2⟩:=hc 0 (by simp)
    refine ⟨v',?_,h2⟩
    unfold loadVar
    simp only [Sem.run_bind,uO ha,Result.andThen_ok,Bool.false_eq_true,if_false,run_load]
    simp at h1
    simp [h1]

theorem bY.q_ {b off:Nat} {v:Value} (hv:bY cx w (.ptr b off) v):∃c base,cx.ρ b=some (c,base)∧v= .pointer (some ⟨c,base+off,none⟩):=by
 cases hv with
 |ptr _ _ c base hr=> exact ⟨c,base,hr,rfl⟩

theorem bY.EL {b:Bool} {cells:List DV} {off:Nat} {v:Value} (hv:bY cx w (.d (.bx b cells off)) v):
  ∃c o,v= .pointer (some ⟨c,o+off,none⟩)∧∀i (hi:i < cells.length),∃v',w.cell? ⟨c,o+i,none⟩=some v'∧cx.F b c (o+i)∧kM w cx.F cells[i] v':=by
 cases hv with
 |d _ _ hd=> cases hd with
  |bx _ _ _ c o vs h1 h2=> exact ⟨c,o,rfl,fun i hi=> ⟨vs i,(h1 i hi).1,(h1 i hi).2,h2 i hi⟩⟩

theorem Ck (I:Inv P mu G cx h w) {t:TypeId} {ag:Bool} {n:Nat} {a v:AV} {a':Value} (ha:yw P t=some ag) (hs:mP P t=some n)
  (hv:bY cx w a a') (hl:loadA G h ag n a=some v):∃v',(Instr.loadAt t a').run P w= .ok v' w∧bY cx w v v':=by
 unfold loadA at hl
 split at hl
 ·rename_i b off
  obtain ⟨c,base,hr,rfl⟩:=hv.q_
  split at hl
  ·rename_i fr e cs hb
   split at hl
   ·rename_i l hrd
    obtain ⟨r1,r2,r3,r4⟩:=pU hrd
    obtain ⟨c',base',hr',_,hcell⟩:=I.heap b _ hb
    rw [hr] at hr'; cases hr'
    have := zT (P := P) (w := w) (cx := cx) ha hs c (base + off) r3 hl (fun i hi => by
     obtain ⟨v',v1,v2,_⟩:=hcell (off+i) (by omega)
     refine ⟨v',by rw [Nat.add_assoc]; exact v1,?_⟩
     rw [r4 i hi (by omega)]; exact v2)
    obtain ⟨v',h1,h2⟩:=this
    refine ⟨v',?_,h2⟩
    simp only [Instr.loadAt,Instr.sureAddr,Sem.run_bind,Sem.run_pure,Result.andThen_ok,h1]
   ·cases hl
  ·cases hl
 ·rename_i bo cs off
  obtain ⟨c,o,rfl,hcell⟩:=hv.EL
  split at hl
  ·rename_i l hrd
   obtain ⟨r1,r2,r3,r4⟩:=pU hrd
   simp only [List.length_map] at r1
   have := zT (P := P) (w := w) (cx := cx) ha hs c (o + off) r3 hl (fun i hi => by
     obtain ⟨v',v1,v2,v3⟩:=hcell (off+i) (by omega)
     refine ⟨v',by rw [Nat.add_assoc]; exact v1,?_⟩
     rw [r4 i hi (by simp; omega),List.getElem_map]
     exact .d _ _ v3)
   obtain ⟨v',h1,h2⟩:=this
   refine ⟨v',?_,h2⟩
   simp only [Instr.loadAt,Instr.sureAddr,Sem.run_bind,Sem.run_pure,Result.andThen_ok,h1]
  ·cases hl
 ·rename_i g off
  split at hl
  ·rename_i l hrd
   obtain ⟨r1,r2,r3,r4⟩:=pU hrd
   simp only [List.length_map] at r1
   cases hv with
   |kQ _ _=>
   have := zT (P := P) (w := w) (cx := cx) ha hs g off r3 hl (fun i hi => by
     obtain ⟨v',v1,v2,v3⟩:=I.kQ g (off+i) (by omega)
     refine ⟨v',v1,?_⟩
     rw [r4 i hi (by simp; omega),List.getElem_map]
     exact .d _ _ v3.d)
   obtain ⟨v',h1,h2⟩:=this
   refine ⟨v',?_,h2⟩
   simp only [Instr.loadAt,Instr.sureAddr,Sem.run_bind,Sem.run_pure,Result.andThen_ok,h1]
  ·cases hl
 ·cases hl

end
end Go.Abs

namespace Go.Abs

theorem Dc (x y:Int):iLt x y=decide (x < y):=by
 cases x with
 |ofNat a=> cases y with
  |ofNat b=>
   show Nat.blt a b=_
   rw [Bool.eq_iff_iff]
   simp [Nat.blt]; omega
  |negSucc b=>
   show false=_
   have:¬(Int.ofNat a < Int.negSucc b):=by
    have:=Int.negSucc_lt_zero b
    have h2:(0:Int)≤Int.ofNat a:=Int.natCast_nonneg a
    omega
   exact (decide_eq_false this).symm
 |negSucc a=> cases y with
  |ofNat b=>
   show true=_
   have:(Int.negSucc a < Int.ofNat b):=by
    have:=Int.negSucc_lt_zero a
    have h2:(0:Int)≤Int.ofNat b:=Int.natCast_nonneg b
    omega
   exact (decide_eq_true this).symm
  |negSucc b=>
   show Nat.blt b a=_
   rw [Bool.eq_iff_iff]
   simp [Nat.blt]
   omega

theorem EM (x y:Int):iEq x y=decide (x=y):=by
 cases x with
 |ofNat a=> cases y with
  |ofNat b=>
   show Nat.beq a b=_
   rw [Bool.eq_iff_iff]
   simp; omega
  |negSucc b=> show false=_; simp
 |negSucc a=> cases y with
  |ofNat b=> show false=_; simp
  |negSucc b=>
   show Nat.beq a b=_
   rw [Bool.eq_iff_iff]
   simp

theorem I7 {k:IntKind} {n:Int} (h:inR k n=true):k.wrap n=n:=by
 cases k <;> cases n <;> simp only [inR,Nat.blt] at h <;> (try cases h) <;> simp only [IntKind.wrap,IntKind.bits,IntKind.signed] <;> simp at h ⊢ <;> omega

theorem uJ (k:IntKind) (n:Int):wrap k n=k.wrap n:=by
 unfold wrap
 cases h:inR k n with
 |true=> exact (I7 h).symm
 |false=> rfl

theorem BC (j k:IntKind):Br j k=true↔j=k:=by
 cases j <;> cases k <;> simp [Br,GX]

theorem My (k:IntKind) (x y:Int):Ac .and k x y=k.wrap (BitVec.ofInt k.bits x &&& BitVec.ofInt k.bits y).toNat:=by simp [Ac,uJ]
theorem OF (k:IntKind) (x y:Int):Ac .or k x y=k.wrap (BitVec.ofInt k.bits x ||| BitVec.ofInt k.bits y).toNat:=by simp [Ac,uJ]
theorem Gd (k:IntKind) (x y:Int):Ac .xor k x y=k.wrap (BitVec.ofInt k.bits x ^^^ BitVec.ofInt k.bits y).toNat:=by simp [Ac,uJ]
theorem G9 (k:IntKind) (x y:Int):Ac .andNot k x y=k.wrap (BitVec.ofInt k.bits x &&& ~~~ BitVec.ofInt k.bits y).toNat:=by simp [Ac,uJ]

theorem OG {k:IntKind} {a:Nat} (h:inR k (.ofNat a)=true):a < 2 ^ (k.bits - (if k.signed then 1 else 0)):=by
 cases k <;> simp only [inR,Nat.blt] at h <;> (try cases h) <;> simp [IntKind.bits,IntKind.signed] at h ⊢ <;> omega
theorem UJ {k:IntKind} {a:Nat} (hk:k= .i64∨k= .u8∨k= .u32∨k= .u64) (h:a < 2 ^ (k.bits - (if k.signed then 1 else 0))):inR k (.ofNat a)=true:=by
 rcases hk with rfl | rfl | rfl | rfl <;> simp [inR,Nat.blt,IntKind.bits,IntKind.signed] at h ⊢ <;> omega
theorem OH {k:IntKind} {a:Nat} (h:inR k (.ofNat a)=true):k= .i64∨k= .u8∨k= .u32∨k= .u64:=by
 cases k <;> simp [inR] at h ⊢

theorem MB (n a:Nat):(BitVec.ofInt n (Int.ofNat a))=BitVec.ofNat n a:=by
 apply BitVec.eq_of_toNat_eq
 simp

theorem Cm (op:BinOp) (k:IntKind) (x y:Int):bits op k x y=Ac op k x y:=by
 unfold bits
 cases x with
 |negSucc a=> rfl
 |ofNat a=> cases y with
  |negSucc b=> rfl
  |ofNat b=>
   simp only
   cases hb:(isAN op && inR k (.ofNat a) && inR k (.ofNat b)) with
   |false=> rfl
   |true=>
    simp only [Bool.and_eq_true] at hb
    have ha:=OG hb.1.2
    have hb':=OG hb.2
    have hk:=OH hb.1.2
    have hle:(2:Nat) ^ (k.bits - (if k.signed then 1 else 0))≤2 ^ k.bits:=Nat.pow_le_pow_right (by omega) (by omega)
    have la:a < 2 ^ k.bits:=Nat.lt_of_lt_of_le ha hle
    have lb:b < 2 ^ k.bits:=Nat.lt_of_lt_of_le hb' hle
    have fin:∀m:Nat,m < 2 ^ (k.bits - (if k.signed then 1 else 0))→Int.ofNat m=wrap k (m:Int):=by
     intro m hm
     rw [uJ]
     exact (I7 (UJ hk hm)).symm
    have UK:a &&& b < 2 ^ (k.bits - (if k.signed then 1 else 0)):=Nat.lt_of_le_of_lt Nat.and_le_left ha
    unfold Ac
    simp only [MB]
    cases op <;> simp only [isAN,Bool.false_eq_true,false_and] at hb <;> simp only [SB] <;> first
     |(rw [show ((BitVec.ofNat k.bits a &&& BitVec.ofNat k.bits b).toNat:Int)=((a &&& b:Nat):Int) by simp [Nat.mod_eq_of_lt la,Nat.mod_eq_of_lt lb]]; exact fin _ UK)
     |(rw [show ((BitVec.ofNat k.bits a ||| BitVec.ofNat k.bits b).toNat:Int)=((a ||| b:Nat):Int) by simp [Nat.mod_eq_of_lt la,Nat.mod_eq_of_lt lb]]; exact fin _ (Nat.or_lt_two_pow ha hb'))
     |(rw [show ((BitVec.ofNat k.bits a ^^^ BitVec.ofNat k.bits b).toNat:Int)=((a ^^^ b:Nat):Int) by simp [Nat.mod_eq_of_lt la,Nat.mod_eq_of_lt lb]]; exact fin _ (Nat.xor_lt_two_pow ha hb'))

theorem Lm (m b:Nat):Q9 m b=min m b:=by
 unfold Q9
 cases h:Nat.ble m b with
 |true=> have:=Nat.le_of_ble_eq_true h; simp; omega
 |false=>
  have:¬(m≤b):=fun k=> by rw [Nat.ble_eq_true_of_le k] at h; cases h
  simp; omega

theorem Rl (j:IntKind) (x:Int) (m:Nat):Q_ j x (.ofNat m)=some (.d (.i j (j.wrap (x*2 ^ (min m j.bits))))):=by
 have e:∀a:Nat,Int.ofNat (Nat.mul a (Nat.pow 2 (min m j.bits)))=Int.ofNat a*2 ^ (min m j.bits):=by
  intro a
  show ((a*2 ^ (min m j.bits):Nat):Int)=(a:Int)*2 ^ (min m j.bits)
  rw [Int.natCast_mul,Int.natCast_pow]; rfl
 unfold Q_
 simp only [Lm,mkZ,uJ]
 split
 ·split
  ·rw [e]
  ·rfl
 ·rfl

theorem Rm (j:IntKind) (x:Int) (m:Nat):N8 j x (.ofNat m)=some (.d (.i j (x.fdiv (2 ^ (min m j.bits))))):=by
 unfold N8
 simp only
 split
 ·rename_i a
  simp only [mkZ,Lm]
  congr 3
  show Int.ofNat (a / 2 ^ (min m j.bits))=_
  rw [Int.fdiv_eq_ediv_of_nonneg _ (Int.le_of_lt (Int.pow_pos (by decide)))]
  simp
 ·rfl
end Go.Abs

namespace Go.Abs
section
variable {P : Program} {mu : List String} {G : Nat → List DV} {cx : Cx} {h : Heap} {w : World}

theorem ru {a b:Nat} (e:Nat.blt a b=true):a < b:=by simp [Nat.blt] at e; omega
theorem jB {a b:Nat} (e:Nat.ble a b=true):a≤b:=Nat.le_of_ble_eq_true e
theorem bY.Ea {k:IntKind} {n:Int} {v:Value} (hv:bY cx w (.d (.i k n)) v):v= .int k n:=by
 cases hv with
 |d _ _ hd=> cases hd; rfl
theorem bY.wE {x:Bool} {v:Value} (hv:bY cx w (.d (.b x)) v):v= .bool x:=by
 cases hv with
 |d _ _ hd=> cases hd; rfl
theorem bY.AU {x:List UInt8} {v:Value} (hv:bY cx w (.d (.s x)) v):∃s:ByteArray,v= .string s∧s.data.toList=x:=by
 cases hv with
 |d _ _ hd=> cases hd with
  |s _ s hs=> exact ⟨s,rfl,hs⟩
theorem sS {a:AV} {j:Nat} {v:Value} (hn:wO a=some j) (hv:bY cx w a v):∃k,v= .int k (.ofNat j):=by
 unfold wO at hn
 split at hn
 ·rename_i k n hi
  cases hn
  unfold wm at hi
  split at hi
  ·cases hi; exact ⟨_,hv.Ea⟩
  ·cases hi
 ·cases hn
theorem xP {a:AV} {k:IntKind} {n:Int} {v:Value} (hn:wm a=some (k,n)) (hv:bY cx w a v):a= .d (.i k n)∧v= .int k n:=by
 unfold wm at hn
 split at hn
 ·cases hn; exact ⟨rfl,hv.Ea⟩
 ·cases hn
theorem Az {a:AV} {x:List UInt8} {v:Value} (hn:DX a=some x) (hv:bY cx w a v):∃s:ByteArray,v= .string s∧s.data.toList=x:=by
 unfold DX at hn
 split at hn
 ·cases hn; exact hv.AU
 ·cases hn

theorem EN {z:Nat} {f:Field} (hz:mP P f.type=some z) (h0:z≠0) (a:Addr) (w:World):(fieldPlace a f).run P w= .ok (a.add f.offset) w:=by
 simp [fieldPlace,jY hz,h0]

theorem OI (I:Inv P mu G cx h w) {s:TypeId} {fs:Array Field} {i z:Nat} {fd:Field} (hu:P.underlying s=some (.struct fs)) (hf:fs[i]? =some fd)
  (hz:mP P fd.type=some z) (h0:z≠0) {x:X} {tm:List AV} {a':Value} (hv:bY cx w (x.ev tm) a'):
  jR P mu G cx h w (zH h tm fd.offset x) ((do pure (Next.value (←Instr.fieldAt s a' i)):Sem Next).run P w):=by
 have run:∀c o,(do pure (Next.value (←Instr.fieldAt s (.pointer (some ⟨c,o,none⟩)) i)):Sem Next).run P w= .ok (.value (.pointer (some ⟨c,o+fd.offset,none⟩))) w:=by
  intro c o
  simp [Instr.fieldAt,run_underlying hu,hf,Instr.sureAddr,EN hz h0,addr_add]
 unfold zH
 split
 ·rename_i b o he
  rw [he] at hv
  obtain ⟨c,base,hr,rfl⟩:=hv.q_
  exact .look I (run _ _) (by rw [Nat.add_assoc]; exact .ptr b (o+fd.offset) c base hr)
 ·rename_i b o he
  rw [he] at hv
  cases hv with
  |kQ _ _=> exact .look I (run _ _) (.kQ _ _)
 ·rename_i b cs o he
  rw [he] at hv
  cases hv with
  |d _ _ hd=> cases hd with
   |bx _ _ _ c o' vs h1 h2=> exact .look I (run _ _) (by rw [Nat.add_assoc]; exact .d _ _ (.bx b cs (o+fd.offset) c o' vs h1 h2))
 ·trivial

theorem Gf {t:TypeId} {ag:Bool} {n off:Nat} {cs l:List AV} {cs':Array Value} {v:AV} (ha:yw P t=some ag) (hs:mP P t=some n) (hc:cs'.size=cs.length)
  (hr:∀i (hi:i < cs.length),bY cx w cs[i] (cs'.getD i undef)) (hd:readN cs off n=some l) (ho:one ag l=some v):
  ∃v',(part t cs' off).run P w= .ok v' w∧bY cx w v v':=by
 obtain ⟨r1,r2,r3,r4⟩:=pU hd
 cases ag with
 |true=>
  simp [one] at ho; subst ho
  refine ⟨.agg (cs'.extract off (off+n)),?_,.agg _ _ (by simp; omega) (fun i hi=> ?_)⟩
  ·unfold part
   simp only [Sem.run_bind,uO ha,Result.andThen_ok,if_true,jY hs,Sem.run_pure]
  ·rw [r4 i hi (by omega)]
   have:=hr (off+i) (by omega)
   have e:(cs'.extract off (off+n)).getD i undef=cs'.getD (off+i) undef:=by
    have h3:i < min (off+n) cs'.size - off:=by omega
    have h4:off+i < cs'.size:=by omega
    simp [Array.getD_eq_getD_getElem?,h3,h4]
   rw [e]; exact this
 |false=>
  cases l with
  |nil=> simp [one] at ho
  |cons a r=>
   cases r with
   |cons b r=> simp [one] at ho
   |nil=>
    simp [one] at ho; subst ho
    have hlt:off < cs'.size:=by simp at r3; omega
    refine ⟨cs'.getD off undef,?_,?_⟩
    ·unfold part
     simp only [Sem.run_bind,uO ha,Result.andThen_ok,Bool.false_eq_true,if_false]
     simp [Array.getD_eq_getD_getElem?,hlt]
    ·have:=r4 0 (by simp) (by simp at r3; omega)
     simp at this
     rw [this]
     exact hr off (by omega)

theorem bY.zU {cs:List AV} {v:Value} (hv:bY cx w (.agg cs) v):∃cs':Array Value,v= .agg cs'∧cs'.size=cs.length∧∀i (hi:i < cs.length),bY cx w cs[i] (cs'.getD i undef):=by
 cases hv with
 |agg _ cs' hc h2=> exact ⟨cs',rfl,hc,h2⟩

theorem Rn (I:Inv P mu G cx h w) {s:TypeId} {fs:Array Field} {i n:Nat} {fd:Field} {ag:Bool} (hu:P.underlying s=some (.struct fs)) (hf:fs[i]? =some fd)
  (ha:yw P fd.type=some ag) (hz:mP P fd.type=some n) {x:X} {tm:List AV} {a':Value} (hv:bY cx w (x.ev tm) a'):
  jR P mu G cx h w (Ca h tm fd.offset ag n x) ((do pure (Next.value (←Instr.field s a' i)):Sem Next).run P w):=by
 unfold Ca
 split
 ·rename_i cs he
  rw [he] at hv
  obtain ⟨cs',rfl,hc,h2⟩:=hv.zU
  split
  ·rename_i l hl
   refine .ov I (fun v ho=> ?_)
   obtain ⟨v',hr,hv'⟩:=Gf (P:=P) (w:=w) (cx:=cx) ha hz hc h2 hl ho
   refine ⟨v',?_,hv'⟩
   simp [Instr.field,run_underlying hu,hf,asAgg,hr]
  ·trivial
 ·trivial

theorem rY (n:Nat):bY cx w (mkI n) (goInt n):= .d _ _ (.i _ _)

theorem Ro (I:Inv P mu G cx h w) {t e:TypeId} {size:Nat} (hu:P.underlying t=some (.slice e)) (hz:mP P e=some size) {x i:X} {tm:List AV} {a' i':Value}
  (hv:bY cx w (x.ev tm) a') (hi:bY cx w (i.ev tm) i'):
  jR P mu G cx h w (As h tm size x i) ((do pure (Next.value (←Instr.indexAt t a' i')):Sem Next).run P w):=by
 unfold As
 split
 ·rename_i j hj
  obtain ⟨k,rfl⟩:=sS hj hi
  have run:∀c o n cap,j < n→(do pure (Next.value (←Instr.indexAt t (.slice (some ⟨c,o,none⟩) n cap) (.int k (.ofNat j)))):Sem Next).run P w
    = .ok (.value (.pointer (some ⟨c,o+j*size,none⟩))) w:=by
   intro c o n cap hlt
   have:(0:Int)≤(j:Int)∧(j:Int) < (n:Int):=⟨by omega,by omega⟩
   simp [Instr.indexAt,asIntOf,run_underlying hu,jY hz,this.1,addr_add]
   intro hh; omega
  split
  ·rename_i b off sz n m ex he
   rw [he] at hv
   split
   ·rename_i hlt
    have hlt':j < n:=ru hlt
    cases hv with
    |sref _ _ _ _ _ _ c base cap a hr hn hm hex ha=>
     rcases ha with rfl | ⟨hc0,_⟩
     ·exact .look I (run _ _ _ _ hlt') (by rw [Nat.add_assoc]; exact .ptr b _ c base hr)
     ·omega
   ·trivial
  ·rename_i b n cs he
   rw [he] at hv
   split
   ·rename_i hlt
    have hlt':j < n:=ru hlt
    cases hv with
    |d _ _ hd=> cases hd with
     |sl0=> omega
     |sl _ _ _ c o cap vs hn hc h1 h2=> exact .look I (run _ _ _ _ hlt') (.d _ _ (.bx b cs _ c o vs h1 h2))
   ·trivial
  ·rename_i t' g n cs he
   rw [he] at hv
   split
   ·rename_i hlt
    have hlt':j < n:=ru hlt
    cases hv with
    |app _ _ _ _ _ hd κ hk hg hc=> cases hd with
     |sl0=> omega
     |sl _ _ _ c o cap vs hn hc h1 h2=> exact .look I (run _ _ _ _ hlt') (.d _ _ (.bx false cs _ c o vs h1 h2))
   ·trivial
  ·rename_i b n cs he
   rw [he] at hv
   split
   ·rename_i hlt
    have hlt':j < n:=ru hlt
    cases hv with
    |full _ _ _ a hd=> cases hd with
     |sl0=> omega
     |sl _ _ _ c o cap vs hn hc h1 h2=> exact .look I (run _ _ _ _ hlt') (.d _ _ (.bx b cs _ c o vs h1 h2))
   ·trivial
  ·trivial
 ·trivial

theorem Rp (I:Inv P mu G cx h w) {t e:TypeId} {n size:Nat} (hu:P.underlying t=some (.array n e)) (hz:mP P e=some size) {x i:X} {tm:List AV} {a' i':Value}
  (hv:bY cx w (x.ev tm) a') (hi:bY cx w (i.ev tm) i'):
  jR P mu G cx h w (Au h tm n size x i) ((do pure (Next.value (←Instr.indexAt t a' i')):Sem Next).run P w):=by
 unfold Au
 split
 ·rename_i j hj
  obtain ⟨k,rfl⟩:=sS hj hi
  split
  ·rename_i hlt
   have hlt':j < n:=ru hlt
   have run:∀c o,(do pure (Next.value (←Instr.indexAt t (.pointer (some ⟨c,o,none⟩)) (.int k (.ofNat j)))):Sem Next).run P w
     = .ok (.value (.pointer (some ⟨c,o+j*size,none⟩))) w:=by
    intro c o
    have:(0:Int)≤(j:Int)∧(j:Int) < (n:Int):=⟨by omega,by omega⟩
    simp [Instr.indexAt,asIntOf,run_underlying hu,jY hz,Instr.sureAddr,this.1,addr_add]
    intro hh; omega
   split
   ·rename_i b off he
    rw [he] at hv
    obtain ⟨c,base,hr,rfl⟩:=hv.q_
    exact .look I (run _ _) (by rw [Nat.add_assoc]; exact .ptr b _ c base hr)
   ·rename_i b off he
    rw [he] at hv
    cases hv with
    |kQ _ _=> exact .look I (run _ _) (.kQ _ _)
   ·rename_i b cs o he
    rw [he] at hv
    cases hv with
    |d _ _ hd=> cases hd with
     |bx _ _ _ c o' vs h1 h2=> exact .look I (run _ _) (by rw [Nat.add_assoc]; exact .d _ _ (.bx b cs _ c o' vs h1 h2))
   ·trivial
  ·trivial
 ·trivial

theorem Rq (I:Inv P mu G cx h w) {t e:TypeId} {n size:Nat} {ag:Bool} (hu:P.underlying t=some (.array n e)) (hz:mP P e=some size) (ha:yw P e=some ag) {x i:X} {tm:List AV} {a' i':Value}
  (hv:bY cx w (x.ev tm) a') (hi:bY cx w (i.ev tm) i'):
  jR P mu G cx h w (Cb h tm n size ag size x i) ((do pure (Next.value (←Instr.index t a' i')):Sem Next).run P w):=by
 unfold Cb
 split
 ·rename_i j cs hj he
  obtain ⟨k,rfl⟩:=sS hj hi
  rw [he] at hv
  obtain ⟨cs',rfl,hc,h2⟩:=hv.zU
  split
  ·rename_i hlt
   have hlt':j < n:=ru hlt
   split
   ·rename_i l hl
    refine .ov I (fun v ho=> ?_)
    obtain ⟨v',hr,hv'⟩:=Gf (P:=P) (w:=w) (cx:=cx) ha hz hc h2 hl ho
    refine ⟨v',?_,hv'⟩
    have:(0:Int)≤(j:Int)∧(j:Int) < (n:Int):=⟨by omega,by omega⟩
    simp [Instr.index,asIntOf,run_underlying hu,jY hz,this.1,hr]
    intro hh; omega
   ·trivial
  ·trivial
 ·trivial

theorem Rs (I:Inv P mu G cx h w) {t:TypeId} (hu:P.underlying t=some .string) {x i:X} {tm:List AV} {a' i':Value}
  (hv:bY cx w (x.ev tm) a') (hi:bY cx w (i.ev tm) i'):
  jR P mu G cx h w (yX h tm x i) ((do pure (Next.value (←Instr.index t a' i')):Sem Next).run P w):=by
 unfold yX
 split
 ·rename_i j s hj he
  obtain ⟨k,rfl⟩:=sS hj hi
  rw [he] at hv
  obtain ⟨sb,rfl,hs⟩:=hv.AU
  split
  ·rename_i b hb
   have hb':sb[j]? =some b:=by
    subst hs
    have:sb.data[j]? =some b:=by simpa using hb
    rw [←this]; rfl
   refine .look I (v':= .int .u8 b.toNat) ?_ (.d _ _ (.i _ _))
   simp [Instr.index,asIntOf,run_underlying hu,hb']
  ·trivial
 ·trivial

end
end Go.Abs

namespace Go.Abs
section
variable {P : Program} {mu : List String} {G : Nat → List DV} {cx : Cx} {h : Heap} {w : World}

theorem vR (op:BinOp) (t:TypeId) (x y:Operand) (a b:Value) (h1:a≠ .nilIface∨b≠ .nilIface) (h2:∀xs ys,a= .agg xs→b≠ .agg ys):
  (eqGuard op t x y a b).run P w= .ok () w:=by
 have key : ∀ (c : Bool),(match a,b with
   | .nilIface,.nilIface=> (if c then Pure.pure () else (do if ←Op.eqGuardIn Op.maxDepth t a b then unsupported (.noEntry "binop/eql: two nil values of an interface type with methods, neither of them the literal nil"):Sem Unit))
   | .agg _,.agg _ => (do
    if !(←program).eqGuardType (←program).depth t then return
    if ←Op.eqGuardIn Op.maxDepth t a b then unsupported (.noEntry "binop/eql: two nil values of an interface type with methods, in a part of a struct or an array"):Sem Unit)
   |_,_=> (Pure.pure ():Sem Unit)).run P w= .ok () w:=by
  intro c
  split
  ·simp at h1
  ·exact absurd rfl (h2 _ _ rfl)
  ·rfl
 cases op <;> first
  |rfl
  |exact key _

theorem toList_inj {s t:ByteArray}:(s.toList==t.toList)=strEq s.data.toList t.data.toList:=by
 unfold strEq
 rw [ByteArray.toList_eq,ByteArray.toList_eq]

theorem OJ (x y:List UInt8):strLt x y=Op.bytesLess x y:=by
 induction x generalizing y with
 |nil=> cases y <;> rfl
 |cons a x ih=> cases y with
  |nil=> rfl
  |cons b y=>
   unfold strLt Op.bytesLess
   rw [←ih y]
   cases hb:Nat.beq a.toNat b.toNat with
   |true=>
    have e:a=b:=UInt8.toNat_inj.1 (Nat.eq_of_beq_eq_true hb)
    subst e
    simp
   |false=>
    have e:a≠b:=fun k=> by subst k; simp at hb
    have:(a==b)=false:=by simpa using e
    simp only [this,Bool.false_and,Bool.or_false]
    rw [Bool.eq_iff_iff]
    simp [UInt8.lt_iff_toNat_lt,Nat.blt]
    omega

theorem MC (I:Inv P mu G cx h w) (op:BinOp) (t:TypeId) (x y:Operand) (j l:IntKind) (a b:Int):
  jR P mu G cx h w (ov h (arith op j a l b)) ((do pure (Next.value (←(do eqGuard op t x y (.int j a) (.int l b); binOp op t (.int j a) (.int l b)))):Sem Next).run P w):=by
 have hg:=vR (P:=P) (w:=w) op t x y (.int j a) (.int l b) (.inl (by simp)) (fun _ _ e=> by cases e)
 refine .ov I (fun v hv=> ?_)
 have fin:∀v',(binOp op t (.int j a) (.int l b)).run P w= .ok v' w→bY cx w v v'→
   ∃v',(do pure (Next.value (←(do eqGuard op t x y (.int j a) (.int l b); binOp op t (.int j a) (.int l b)))):Sem Next).run P w= .ok (.value v') w∧bY cx w v v':=by
  intro v' h1 h2
  exact ⟨v',by simp only [Sem.run_bind,hg,Result.andThen_ok,h1,Sem.run_pure],h2⟩
 unfold arith at hv
 split at hv
 ·
  cases b with
  |negSucc m=> simp [Q_] at hv
  |ofNat m=>
   rw [Rl] at hv; cases hv
   refine fin _ ?_ (.d _ _ (.i _ _))
   have:¬((Int.ofNat m:Int) < 0):=by have:=Int.natCast_nonneg m; simp
   simp [binOp,Op.shift]
   intro hh; omega
 ·cases b with
  |negSucc m=> simp [N8] at hv
  |ofNat m=>
   rw [Rm] at hv; cases hv
   refine fin _ ?_ (.d _ _ (.i _ _))
   simp [binOp,Op.shift]
   intro hh; omega
 ·rename_i hs1 hs2
  split at hv
  ·cases hv
  ·rename_i hk
   have ejl:=(BC j l).1 hk
   subst ejl
   have iB:∀(o:BinOp) (z:Int),(∀(w:World),(binOp o t (.int j a) (.int j b)).run P w= .ok (.int j z) w)→o=op→some v=mkZ j z→
     ∃v',(do pure (Next.value (←(do eqGuard op t x y (.int j a) (.int j b); binOp op t (.int j a) (.int j b)))):Sem Next).run P w= .ok (.value v') w∧bY cx w v v':=by
    intro o z h1 h2 h3
    subst h2
    cases h3
    exact fin _ (h1 w) (.d _ _ (.i _ _))
   have cB:∀(o:BinOp) (z:Bool),(∀(w:World),(binOp o t (.int j a) (.int j b)).run P w= .ok (.bool z) w)→o=op→some v=mkB z→
     ∃v',(do pure (Next.value (←(do eqGuard op t x y (.int j a) (.int j b); binOp op t (.int j a) (.int j b)))):Sem Next).run P w= .ok (.value v') w∧bY cx w v v':=by
    intro o z h1 h2 h3
    subst h2
    cases h3
    exact fin _ (h1 w) (.d _ _ (.b _))
   have b0:∀(z:AV) (o:Option AV),(match iEq b 0 with | true=> none | false=> o)=some z→b≠0∧o=some z:=by
    intro z o hz
    rw [EM] at hz
    by_cases h0:b=0
    ·simp [h0] at hz
    ·simp [h0] at hz; exact ⟨h0,hz⟩
   cases op with
   |add=> exact iB .add (j.wrap (a+b)) (fun w=> by simp [binOp,Op.intArith]) rfl (by rw [←hv]; simp [GY,uJ])
   |sub=> exact iB .sub (j.wrap (a - b)) (fun w=> by simp [binOp,Op.intArith]) rfl (by rw [←hv]; simp [GY,uJ])
   |mul=> exact iB .mul (j.wrap (a*b)) (fun w=> by simp [binOp,Op.intArith]) rfl (by rw [←hv]; simp [GY,uJ])
   |quo=>
    obtain ⟨h0,hv'⟩:=b0 v _ hv
    exact iB .quo (j.wrap (a.tdiv b)) (fun w=> by simp [binOp,Op.intDiv,h0]) rfl (by rw [←hv',uJ])
   |rem=>
    obtain ⟨h0,hv'⟩:=b0 v _ hv
    exact iB .rem (a.tmod b) (fun w=> by simp [binOp,Op.intDiv,h0]) rfl hv'.symm
   |and=> exact iB .and (bits .and j a b) (fun w=> by rw [Cm,My]; simp only [binOp,ne_eq,not_true_eq_false,if_false]; rfl) rfl hv.symm
   |or=> exact iB .or (bits .or j a b) (fun w=> by rw [Cm,OF]; simp only [binOp,ne_eq,not_true_eq_false,if_false]; rfl) rfl hv.symm
   |xor=> exact iB .xor (bits .xor j a b) (fun w=> by rw [Cm,Gd]; simp only [binOp,ne_eq,not_true_eq_false,if_false]; rfl) rfl hv.symm
   |andNot=> exact iB .andNot (bits .andNot j a b) (fun w=> by rw [Cm,G9]; simp only [binOp,ne_eq,not_true_eq_false,if_false]; rfl) rfl hv.symm
   |shl=> exact absurd rfl hs1
   |shr=> exact absurd rfl hs2
   |eql=> exact cB .eql (a==b) (fun w=> by simp only [binOp,ne_eq,not_true_eq_false,if_false]; rfl) rfl (by rw [←hv]; show mkB (iEq a b)=_; rw [EM]; rfl)
   |neq=> exact cB .neq (a !=b) (fun w=> by simp only [binOp,ne_eq,not_true_eq_false,if_false]; rfl) rfl (by rw [←hv]; show mkB (!iEq a b)=_; rw [EM]; rfl)
   |lss=> exact cB .lss (a < b) (fun w=> by simp only [binOp,ne_eq,not_true_eq_false,if_false]; rfl) rfl (by rw [←hv]; show mkB (iLt a b)=_; rw [Dc])
   |gtr=> exact cB .gtr (a > b) (fun w=> by simp only [binOp,ne_eq,not_true_eq_false,if_false]; rfl) rfl (by rw [←hv]; show mkB (iLt b a)=_; rw [Dc])
   |leq=> exact cB .leq (a≤b) (fun w=> by simp only [binOp,ne_eq,not_true_eq_false,if_false]; rfl) rfl (by rw [←hv]; show mkB (!iLt b a)=_; rw [Dc]; congr 1; rw [Bool.eq_iff_iff]; simp)
   |geq=> exact cB .geq (a ≥ b) (fun w=> by simp only [binOp,ne_eq,not_true_eq_false,if_false]; rfl) rfl (by rw [←hv]; show mkB (!iLt a b)=_; rw [Dc]; congr 1; rw [Bool.eq_iff_iff]; simp)

theorem ME (I:Inv P mu G cx h w) (op:BinOp) (t:TypeId) (x y:Operand) (sa sb:ByteArray):
  jR P mu G cx h w (ov h (IG op sa.data.toList sb.data.toList)) ((do pure (Next.value (←(do eqGuard op t x y (.string sa) (.string sb); binOp op t (.string sa) (.string sb)))):Sem Next).run P w):=by
 have hg:=vR (P:=P) (w:=w) op t x y (.string sa) (.string sb) (.inl (by simp)) (fun _ _ e=> by cases e)
 refine .ov I (fun v hv=> ?_)
 have cB:∀(o:BinOp) (z:Bool),(∀(w:World),(binOp o t (.string sa) (.string sb)).run P w= .ok (.bool z) w)→o=op→some v=mkB z→
   ∃v',(do pure (Next.value (←(do eqGuard op t x y (.string sa) (.string sb); binOp op t (.string sa) (.string sb)))):Sem Next).run P w= .ok (.value v') w∧bY cx w v v':=by
  intro o z h1 h2 h3
  subst h2
  cases h3
  exact ⟨_,by simp only [Sem.run_bind,hg,Result.andThen_ok,h1,Sem.run_pure],.d _ _ (.b _)⟩
 have hlt:strLt sa.data.toList sb.data.toList=Op.bytesLess sa.toList sb.toList:=by rw [OJ,ByteArray.toList_eq,ByteArray.toList_eq]
 have heq:strEq sa.data.toList sb.data.toList=(sa.toList==sb.toList):=toList_inj.symm
 cases op with
 |add=>
  simp only [IG] at hv
  split at hv
  ·rename_i hle
   cases hv
   refine ⟨.string (sa++sb),?_,.d _ _ (.s _ _ (by simp))⟩
   have hle':=jB hle
   have:¬(((sa.size+sb.size:Nat):Int) > IntKind.i64.max):=by
    have e1:sa.size=sa.data.toList.length:=by simp
    have e2:sb.size=sb.data.toList.length:=by simp
    have:IntKind.i64.max=9223372036854775807:=rfl
    omega
   simp only [Sem.run_bind,hg,Result.andThen_ok,binOp,Op.stringOp,this,if_false,Sem.run_pure]
  ·cases hv
 |eql=> exact cB .eql _ (fun w=> rfl) rfl (by rw [←hv]; show mkB (strEq _ _)=_; rw [heq])
 |neq=> exact cB .neq _ (fun w=> rfl) rfl (by rw [←hv]; show mkB (!strEq _ _)=_; rw [heq])
 |lss=> exact cB .lss _ (fun w=> rfl) rfl (by rw [←hv]; show mkB (strLt _ _)=_; rw [hlt])
 |leq=> exact cB .leq _ (fun w=> rfl) rfl (by rw [←hv]; show mkB (strLt _ _ || strEq _ _)=_; rw [hlt,heq])
 |gtr=> exact cB .gtr _ (fun w=> rfl) rfl (by rw [←hv]; show mkB (!(strLt _ _ || strEq _ _))=_; rw [hlt,heq])
 |geq=> exact cB .geq _ (fun w=> rfl) rfl (by rw [←hv]; show mkB (!strLt _ _)=_; rw [hlt])
 |_=> cases hv

theorem vS {t:TypeId} {k:TK} (hk:BA P t=some k) (d:Nat) {a b:AV} {r:Bool} (he:vP k a b=some r) {a' b':Value} (ha:bY cx w a a') (hb:bY cx w b b'):
  (Op.equalIn (d+1) t a' b').run P w= .ok r w:=by
 unfold BA at hk
 cases k with
 |b=>
  have ht:P.underlying t=some .bool:=by
   split at hk <;> first | assumption | cases hk
  simp only [vP] at he
  split at he
  ·split at he
   ·cases he
    have e1:=ha.wE; subst e1
    have e2:=hb.wE; subst e2
    exact run_equalIn_bool w d t _ _ ht
   ·cases he
  ·cases he
 |i=>
  have ht:∃q,P.underlying t=some (.int q):=by
   split at hk <;> first | exact ⟨_,by assumption⟩ | cases hk
  obtain ⟨q,ht⟩:=ht
  simp only [vP] at he
  split at he
  ·rename_i j x hx
   split at he
   ·rename_i l y hy
    split at he
    ·cases he
     have e1:=(xP hx ha).2; subst e1
     have e2:=(xP hy hb).2; subst e2
     rename_i hkk
     have:=(BC _ _).1 hkk; subst this
     rw [EM]
     exact run_equalIn_int w d t _ q x y ht
    ·cases he
   ·cases he
  ·cases he
 |s=>
  have ht:P.underlying t=some .string:=by
   split at hk <;> first | assumption | cases hk
  simp only [vP] at he
  split at he
  ·rename_i x hx
   split at he
   ·rename_i y hy
    cases he
    obtain ⟨s1,rfl,h1⟩:=Az hx ha
    obtain ⟨s2,rfl,h2⟩:=Az hy hb
    rw [←h1,←h2,←toList_inj]
    exact run_equalIn_string w d t s1 s2 ht
   ·cases he
  ·cases he

theorem G_ {_t:TypeId}:∀(fs:List Field) (ks:List TK) (xs ys:List AV) (xs' ys':Array Value) (off:Nat) (r:Bool),
  (∀i (hi:i < fs.length),fs[i].name≠ "_" ∧fs[i].offset=off+i∧yw P fs[i].type=some false)→(fs.mapM fun f=> BA P f.type)=some ks→allEq ks xs ys=some r→
  (∀i (hi:i < xs.length),bY cx w xs[i] (xs'.getD (off+i) undef)∧off+i < xs'.size)→(∀i (hi:i < ys.length),bY cx w ys[i] (ys'.getD (off+i) undef)∧off+i < ys'.size)→
  (Op.eqFields 9999 xs' ys' fs).run P w= .ok r w:=by
 intro fs
 induction fs with
 |nil=>
  intro ks xs ys xs' ys' off r _ hk he _ _
  simp at hk; subst hk
  cases xs <;> cases ys <;> simp only [allEq] at he <;> first | (cases he; done) | (cases he; rfl)
 |cons f fs ih=>
  intro ks xs ys xs' ys' off r hf hk he hx hy
  rw [List.mapM_cons] at hk
  cases hkf:BA P f.type with
  |none=> rw [hkf] at hk; cases hk
  |some k=>
   rw [hkf] at hk
   cases hks:(fs.mapM fun f=> BA P f.type) with
   |none=> rw [hks] at hk; cases hk
   |some ks'=>
    rw [hks] at hk; cases hk
    cases xs with
    |nil=> simp [allEq] at he
    |cons a x=> cases ys with
     |nil=> simp [allEq] at he
     |cons b y=>
     simp only [allEq] at he
     split at he
     ·rename_i r1 h1
      split at he
      ·rename_i r2 h2
       cases he
       obtain ⟨n1,n2,n3⟩:=hf 0 (by simp)
       simp only [List.getElem_cons_zero,Nat.add_zero] at n1 n2 n3
       have ax:=hx 0 (by simp)
       have ay:=hy 0 (by simp)
       simp only [List.getElem_cons_zero,Nat.add_zero] at ax ay
       have px:(part f.type xs' f.offset).run P w= .ok (xs'.getD off undef) w:=by
        rw [n2]; unfold part
        simp only [Sem.run_bind,uO n3,Result.andThen_ok,Bool.false_eq_true,if_false]
        have:=ax.2
        simp [Array.getD_eq_getD_getElem?,this]
       have py:(part f.type ys' f.offset).run P w= .ok (ys'.getD off undef) w:=by
        rw [n2]; unfold part
        simp only [Sem.run_bind,uO n3,Result.andThen_ok,Bool.false_eq_true,if_false]
        have:=ay.2
        simp [Array.getD_eq_getD_getElem?,this]
       have e1:=vS hkf 9998 h1 ax.1 ay.1
       have e2 := ih ks' x y xs' ys' (off + 1) r2 (fun i hi => by
         have:=hf (i+1) (by simp; omega)
         simp only [List.getElem_cons_succ] at this
         exact ⟨this.1,by rw [this.2.1]; omega,this.2.2⟩) hks h2
        (fun i hi=> by have:=hx (i+1) (by simp; omega); simp only [List.getElem_cons_succ] at this; rw [show off+1+i=off+(i+1) by omega]; exact this)
        (fun i hi=> by have:=hy (i+1) (by simp; omega); simp only [List.getElem_cons_succ] at this; rw [show off+1+i=off+(i+1) by omega]; exact this)
       unfold Op.eqFields
       simp only [n1,ne_eq,not_false_eq_true,if_true,Sem.run_bind,px,py,Result.andThen_ok,e1]
       cases r1 with
       |true=> simpa using e2
       |false=> simp
      ·cases he
     ·cases he

theorem t_ {t:TypeId} {a b:Value} {r:Bool} (he:(Op.equalIn 10000 t a b).run P w= .ok r w):(Op.equal t a b).run P w= .ok r w:=he

def zW (P:Program) (w:World) (t:TypeId) (x y:Operand) (r:Bool) (a b:Value):Prop:=
 (∀op,(eqGuard op t x y a b).run P w= .ok () w)∧(binOp .eql t a b).run P w= .ok (.bool r) w∧(binOp .neq t a b).run P w= .ok (.bool (!r)) w

theorem zW.free {t:TypeId} {x y:Operand} {r:Bool} {a b:Value} (h1:a≠ .nilIface∨b≠ .nilIface) (h2:∀xs ys,a= .agg xs→b≠ .agg ys)
  (he:(Op.equalIn 10000 t a b).run P w= .ok r w) (hb1:binOp .eql t a b=do pure (.bool (←Op.equal t a b))) (hb2:binOp .neq t a b=do pure (.bool (!(←Op.equal t a b)))):
  zW P w t x y r a b:=by
 refine ⟨fun op=> vR op t x y a b h1 h2,?_,?_⟩
 ·rw [hb1]; simp [t_ he]
 ·rw [hb2]; simp [t_ he]

theorem Rt {t:TypeId} (ht:P.underlying t=some .bool) {x y:Operand} {r:Bool} {a b:AV} {a' b':Value} (he:vP .b a b=some r) (ha:bY cx w a a') (hb:bY cx w b b'):zW P w t x y r a' b':=by
 have hk:BA P t=some .b:=by unfold BA; rw [ht]
 have h1:=vS hk 9999 he ha hb
 simp only [vP] at he
 split at he
 ·split at he
  ·have e1:=ha.wE; subst e1
   have e2:=hb.wE; subst e2
   exact .free (.inl (by simp)) (fun _ _ e=> by cases e) h1 rfl rfl
  ·cases he
 ·cases he

theorem wF {v:Value} (hv:bY cx w (.d .sG) v):v= .pointer none:=by
 cases hv with
 |d _ _ hd=> cases hd; rfl
theorem ze {v:Value} (hv:bY cx w (.d .nili) v):v= .nilIface:=by
 cases hv with
 |d _ _ hd=> cases hd; rfl
theorem zf {v:Value} (hv:bY cx w (.d .xN) v):v= .map none:=by
 cases hv with
 |d _ _ hd=> cases hd; rfl
theorem zh {v:Value} (hv:bY cx w (.d .yj) v):v= .nilFunc:=by
 cases hv with
 |d _ _ hd=> cases hd; rfl
theorem oO {v:Value} (hv:bY cx w .nilsl v):v= .slice none 0 0:=by
 cases hv; rfl

theorem I8 {t e:TypeId} (ht:P.underlying t=some (.pointer e)) (d:Nat) (p q:Option Addr) (hpq:p=none∨q=none):
  (Op.equalIn (d+1) t (.pointer p) (.pointer q)).run P w= .ok (p.isNone && q.isNone) w:=by
 rcases hpq with rfl | rfl
 ·simp [Op.equalIn,run_underlying ht]
 ·cases p <;> simp [Op.equalIn,run_underlying ht]
theorem He {t e:TypeId} (ht:P.underlying t=some (.pointer e)) {z:Nat} (hz:mP P e=some z) (h0:z≠0) (d:Nat) (c o1 o2:Nat):
  (Op.equalIn (d+1) t (.pointer (some ⟨c,o1,none⟩)) (.pointer (some ⟨c,o2,none⟩))).run P w= .ok (Nat.beq o1 o2) w:=by
 have:((⟨c,o1,none⟩:Addr)==⟨c,o2,none⟩)=Nat.beq o1 o2:=by
  rw [Bool.eq_iff_iff]
  simp
 simp [Op.equalIn,run_underlying ht,jY hz,h0,sameAddr,this]
theorem AA {t:TypeId} {ms:Array (String×TypeId)} (ht:P.underlying t=some (.interface ms)) (d:Nat) (u:TypeId) (v:Value):
  (Op.equalIn (d+1) t .nilIface (.iface u v)).run P w= .ok false w∧(Op.equalIn (d+1) t (.iface u v) .nilIface).run P w= .ok false w∧(Op.equalIn (d+1) t .nilIface .nilIface).run P w= .ok true w:=by
 refine ⟨?_,?_,?_⟩ <;> simp [Op.equalIn,run_underlying ht]

theorem UL {t e:TypeId} (ht:P.underlying t=some (.pointer e)) {z:Nat} (hz:mP P e=some z) (h0:z≠0) {x y:Operand} {r:Bool} {a b:AV} {a' b':Value} (he:ptrEq a b=some r)
  (ha:bY cx w a a') (hb:bY cx w b b'):zW P w t x y r a' b':=by
 have nn:∀p q:Option Addr,(p=none∨q=none)→r=(p.isNone && q.isNone)→zW P w t x y r (.pointer p) (.pointer q):=by
  intro p q hpq hr
  rw [hr]
  exact .free (.inl (by simp)) (fun _ _ e=> by cases e) (I8 ht 9999 p q hpq) rfl rfl
 unfold ptrEq at he
 split at he
 ·cases he; rw [wF ha,wF hb]; exact nn _ _ (.inl rfl) rfl
 ·cases he
  obtain ⟨c,base,_,rfl⟩:=ha.q_
  rw [wF hb]; exact nn _ _ (.inr rfl) rfl
 ·cases he
  obtain ⟨c,base,_,rfl⟩:=hb.q_
  rw [wF ha]; exact nn _ _ (.inl rfl) rfl
 ·split at he
  ·rename_i b1 o1 b2 o2 _ hbe
   cases he
   have hbb:=Nat.eq_of_beq_eq_true hbe
   subst hbb
   obtain ⟨c,base,hr1,rfl⟩:=ha.q_
   obtain ⟨c2,lX,hr2,rfl⟩:=hb.q_
   rw [hr1] at hr2; cases hr2
   have e1:Nat.beq (base+o1) (base+o2)=Nat.beq o1 o2:=by
    rw [Bool.eq_iff_iff]; simp
   rw [←e1]
   exact .free (.inl (by simp)) (fun _ _ e=> by cases e) (He ht hz h0 9999 c _ _) rfl rfl
  ·cases he
 ·cases he
  obtain ⟨c,o,rfl,_⟩:=ha.EL
  rw [wF hb]; exact nn _ _ (.inr rfl) rfl
 ·cases he
  obtain ⟨c,o,rfl,_⟩:=hb.EL
  rw [wF ha]; exact nn _ _ (.inl rfl) rfl
 ·cases he
  cases ha with
  |kQ=> rw [wF hb]; exact nn _ _ (.inr rfl) rfl
 ·cases he
  cases hb with
  |kQ=> rw [wF ha]; exact nn _ _ (.inl rfl) rfl
 ·cases he

theorem Eb {t:TypeId} {a:AV} {v:Value} (hv:bY cx w (.ifc t a) v):∃v',v= .iface t v'∧bY cx w a v':=by
 cases hv with
 |ifc _ _ v' h=> exact ⟨v',rfl,h⟩
theorem EO {t:TypeId} {a:DV} {v:Value} (hv:bY cx w (.d (.ifc t a)) v):∃v',v= .iface t v'∧kM w cx.F a v':=by
 cases hv with
 |d _ _ hd=> cases hd with
  |ifc _ _ v' h=> exact ⟨v',rfl,h⟩

theorem OK {t:TypeId} {ms:Array (String×TypeId)} (ht:P.underlying t=some (.interface ms)) {x y:Operand} (hc:(isConst x || isConst y)=true) {r:Bool} {a b:AV} {a' b':Value} (he:UC a b=some r)
    (ha:bY cx w a a') (hb:bY cx w b b'):zW P w t x y r a' b':=by
  have n1:∀u v,zW P w t x y false .nilIface (.iface u v):=fun u v=> .free (.inr (by simp)) (fun _ _ e=> by cases e) (AA ht 9999 u v).1 rfl rfl
  have n2:∀u v,zW P w t x y false (.iface u v) .nilIface:=fun u v=> .free (.inl (by simp)) (fun _ _ e=> by cases e) (AA ht 9999 u v).2.1 rfl rfl
  unfold UC at he
  split at he
  · cases he
    rw [ze ha,ze hb]
    have hg:∀op,(eqGuard op t x y .nilIface .nilIface).run P w= .ok () w:=by
      intro op
      cases op <;> first
        |rfl
        |(cases x <;> cases y <;> first | rfl | (simp [isConst] at hc))
    have h3:=(AA (w:=w) ht 9999 0 .nilIface).2.2
    exact ⟨hg,by show (do pure (Value.bool (← Op.equal t .nilIface .nilIface)) : Sem Value).run P w = _; simp [t_ h3],
      by show (do pure (Value.bool (!(←Op.equal t .nilIface .nilIface))):Sem Value).run P w=_; simp [t_ h3]⟩
  · cases he
    obtain ⟨v,rfl,_⟩:=Eb hb
    rw [ze ha]; exact n1 _ _
  · cases he
    obtain ⟨v,rfl,_⟩:=Eb ha
    rw [ze hb]; exact n2 _ _
  · cases he
    obtain ⟨v,rfl,_⟩:=EO hb
    rw [ze ha]; exact n1 _ _
  · cases he
    obtain ⟨v,rfl,_⟩:=EO ha
    rw [ze hb]; exact n2 _ _
  · cases he

theorem Ru {t e:TypeId} (ht:P.underlying t=some (.slice e)) {x y:Operand} {r:Bool} {a b:AV} {a' b':Value} (he:J_ a b=some r)
    (ha:bY cx w a a') (hb:bY cx w b b'):zW P w t x y r a' b':=by
  have h1:∀a n c,zW P w t x y (Option.isNone a) (.slice none 0 0) (.slice a n c):=fun a n c=>
    .free (.inl (by simp)) (fun _ _ e => by cases e) (by have : ∀ d, (Op.equalIn (d + 1) t (.slice none 0 0) (.slice a n c)).run P w = .ok a.isNone w := fun d => by simp [Op.equalIn, run_underlying ht]
                                                         exact this 9999) rfl rfl
  have h2:∀ad n c,zW P w t x y false (.slice (some ad) n c) (.slice none 0 0):=fun ad n c=>
    .free (.inl (by simp)) (fun _ _ e => by cases e) (by have : ∀ d, (Op.equalIn (d + 1) t (.slice (some ad) n c) (.slice none 0 0)).run P w = .ok false w := fun d => by simp [Op.equalIn, run_underlying ht]
                                                         exact this 9999) rfl rfl
  have hs:∀{b off sz n m:Nat} {ex:Bool} {v:Value},bY cx w (.sref b off sz n m ex) v→∃ad n c,v= .slice (some ad) n c:=by
    intro b off sz n m ex v hv
    cases hv with
    |sref _ _ _ _ _ _ c base cap a hr hn hm he ha=>
      rcases ha with rfl | ⟨_,h⟩
      · exact ⟨_,_,_,rfl⟩
      · obtain ⟨ad,rfl⟩:=Option.isSome_iff_exists.1 h; exact ⟨_,_,_,rfl⟩
  have hd:∀{b:Bool} {n:Nat} {cs:List DV} {v:Value},kM w cx.F (.sl b (n+1) cs) v→∃ad n c,v= .slice (some ad) n c:=by
    intro b n cs v hv
    cases hv with
    |sl _ _ _ c o cap vs _ _ _ _=> exact ⟨_,_,_,rfl⟩
  unfold J_ at he
  split at he
  · cases he; rw [oO ha,oO hb]; exact h1 none 0 0
  · cases he; obtain ⟨ad,n,c,rfl⟩:=hs hb; rw [oO ha]; exact h1 (some ad) n c
  · cases he; obtain ⟨ad,n,c,rfl⟩:=hs ha; rw [oO hb]; exact h2 ad n c
  · cases he
    cases hb with
    |d _ _ hb=> obtain ⟨ad,n,c,rfl⟩:=hd hb; rw [oO ha]; exact h1 (some ad) n c
  · cases he
    cases ha with
    |d _ _ ha=> obtain ⟨ad,n,c,rfl⟩:=hd ha; rw [oO hb]; exact h2 ad n c
  · cases he
    cases hb with
    |app _ _ _ _ _ hb=> obtain ⟨ad,n,c,rfl⟩:=hd hb; rw [oO ha]; exact h1 (some ad) n c
  · cases he
    cases ha with
    |app _ _ _ _ _ ha=> obtain ⟨ad,n,c,rfl⟩:=hd ha; rw [oO hb]; exact h2 ad n c
  · cases he
    cases hb with
    |full _ _ _ a hb=> obtain ⟨ad,n,c,e⟩:=hd hb; cases e; rw [oO ha]; exact h1 (some ad) _ _
  · cases he
    cases ha with
    |full _ _ _ a ha=> obtain ⟨ad,n,c,e⟩:=hd ha; cases e; rw [oO hb]; exact h2 ad _ _
  · cases he

theorem Rv {t k e:TypeId} (ht:P.underlying t=some (.map k e)) {x y:Operand} {r:Bool} {a b:AV} {a' b':Value} (he:Ka a b=some r)
    (ha:bY cx w a a') (hb:bY cx w b b'):zW P w t x y r a' b':=by
  have h1:∀a,zW P w t x y (Option.isNone a) (.map none) (.map a):=fun a=>
    .free (.inl (by simp)) (fun _ _ e => by cases e) (by have : ∀ d, (Op.equalIn (d + 1) t (.map none) (.map a)).run P w = .ok a.isNone w := fun d => by simp [Op.equalIn, run_underlying ht]
                                                         exact this 9999) rfl rfl
  have h2:∀m,zW P w t x y false (.map (some m)) (.map none):=fun m=>
    .free (.inl (by simp)) (fun _ _ e => by cases e) (by have : ∀ d, (Op.equalIn (d + 1) t (.map (some m)) (.map none)).run P w = .ok false w := fun d => by simp [Op.equalIn, run_underlying ht]
                                                         exact this 9999) rfl rfl
  unfold Ka at he
  split at he
  · cases he; rw [zf ha,zf hb]; exact h1 none
  · cases he
    cases hb with
    |uo _ c base _=> rw [zf ha]; exact h1 (some c)
  · cases he
    cases ha with
    |uo _ c base _=> rw [zf hb]; exact h2 c
  · cases he

theorem Rw {t:TypeId} {ps rs:Array TypeId} {va:Bool} (ht:P.underlying t=some (.func ps rs va)) {x y:Operand} {r:Bool} {a b:AV} {a' b':Value} (he:Kb a b=some r)
    (ha:bY cx w a a') (hb:bY cx w b b'):zW P w t x y r a' b':=by
  have h0:zW P w t x y true .nilFunc .nilFunc:=
    .free (.inl (by simp)) (fun _ _ e => by cases e) (by have : ∀ d, (Op.equalIn (d + 1) t .nilFunc .nilFunc).run P w = .ok true w := fun d => by simp [Op.equalIn, run_underlying ht]
                                                         exact this 9999) rfl rfl
  have h1:∀f a b,zW P w t x y false .nilFunc (.func f a b):=fun f a b=>
    .free (.inl (by simp)) (fun _ _ e => by cases e) (by have : ∀ d, (Op.equalIn (d + 1) t .nilFunc (.func f a b)).run P w = .ok false w := fun d => by simp [Op.equalIn, run_underlying ht]
                                                         exact this 9999) rfl rfl
  have h2:∀f a b,zW P w t x y false (.func f a b) .nilFunc:=fun f a b=>
    .free (.inl (by simp)) (fun _ _ e => by cases e) (by have : ∀ d, (Op.equalIn (d + 1) t (.func f a b) .nilFunc).run P w = .ok false w := fun d => by simp [Op.equalIn, run_underlying ht]
                                                         exact this 9999) rfl rfl
  have hf:∀{f:Fn} {fs cs:List AV} {v:Value},bY cx w (.fn f fs cs) v→∃f a b,v= .func f a b:=by
    intro f fs cs v hv
    cases hv with
    |fn _ _ _ fs' cs'=> exact ⟨_,_,_,rfl⟩
    |yld l c base=> exact ⟨_,_,_,rfl⟩
  have hd:∀{f:Fn} {fs cs:List DV} {v:Value},bY cx w (.d (.fn f fs cs)) v→∃f a b,v= .func f a b:=by
    intro f fs cs v hv
    cases hv with
    |d _ _ hv=> cases hv with
      |fn _ _ _ fs' cs'=> exact ⟨_,_,_,rfl⟩
  unfold Kb at he
  split at he
  · cases he; rw [zh ha,zh hb]; exact h0
  · cases he; obtain ⟨f,a,b,rfl⟩:=hf hb; rw [zh ha]; exact h1 _ _ _
  · cases he; obtain ⟨f,a,b,rfl⟩:=hf ha; rw [zh hb]; exact h2 _ _ _
  · cases he; obtain ⟨f,a,b,rfl⟩:=hd hb; rw [zh ha]; exact h1 _ _ _
  · cases he; obtain ⟨f,a,b,rfl⟩:=hd ha; rw [zh hb]; exact h2 _ _ _
  · cases he

theorem EP {t:TypeId} (hs:EI P t=true):P.underlying t=some (.struct (P.fieldsOf t))∧
  ∀i (hi:i < (P.fieldsOf t).toList.length),(P.fieldsOf t).toList[i].name≠ "_" ∧(P.fieldsOf t).toList[i].offset=0+i∧yw P (P.fieldsOf t).toList[i].type=some false:=by
 unfold EI at hs
 split at hs
 ·rename_i fs hu
  have hf:P.fieldsOf t=fs:=by simp [Program.fieldsOf,hu]
  rw [hf]
  refine ⟨hu,fun i hi=> ?_⟩
  have hi':i < fs.size:=by simpa using hi
  have:=List.all_eq_true.1 hs i (by simpa using hi')
  simp only [Array.getElem?_eq_getElem hi'] at this
  simp only [Bool.and_eq_true,bne_iff_ne,ne_eq,beq_iff_eq] at this
  simp
  exact ⟨this.1.1.1.1,this.1.1.1.2,this.2⟩
 ·cases hs

theorem Cn {t:TypeId} (hs:EI P t=true) (hst:P.stoodInHeld t=false) {ks:List TK} (hk:IZ P t=some ks) {xs ys:List AV} {r:Bool} (he:allEq ks xs ys=some r)
  {a' b':Value} (ha:bY cx w (.agg xs) a') (hb:bY cx w (.agg ys) b'):∃xs' ys',a'= .agg xs'∧b'= .agg ys'∧(Op.equalIn 10000 t a' b').run P w= .ok r w:=by
 obtain ⟨xs',rfl,hx1,hx2⟩:=ha.zU
 obtain ⟨ys',rfl,hy1,hy2⟩:=hb.zU
 obtain ⟨hu,hf⟩:=EP hs
 refine ⟨xs',ys',rfl,rfl,?_⟩
 rw [run_equalIn_struct w 9999 t xs' ys' hu hst]
 have hk':((P.fieldsOf t).toList.mapM fun f=> BA P f.type)=some ks:=by
  unfold IZ at hk
  rw [hu] at hk
  exact hk
 exact G_ (_t:=t) (P.fieldsOf t).toList ks xs ys xs' ys' 0 r hf hk' he (fun i hi=> ⟨by simpa using hx2 i hi,by omega⟩) (fun i hi=> ⟨by simpa using hy2 i hi,by omega⟩)

theorem Rx (I:Inv P mu G cx h w) {op:BinOp} {t:TypeId} {x y:Operand} {k:EqK} (hk:eqK P t x y=k) {xx yy:X} {tm:List AV} {a' b':Value}
  (ha:bY cx w (xx.ev tm) a') (hb:bY cx w (yy.ev tm) b'):
  jR P mu G cx h w (wS h tm op k xx yy) ((do pure (Next.value (←(do eqGuard op t x y a' b'; binOp op t a' b'))):Sem Next).run P w):=by
 unfold wS Mb
 split
 ·rename_i j n hx
  split
  ·rename_i l m hy
   have e1:=(xP hx ha).2; subst e1
   have e2:=(xP hy hb).2; subst e2
   exact MC I op t x y j l n m
  ·trivial
 ·split
  ·rename_i s hx
   split
   ·rename_i s2 hy
    obtain ⟨sa,rfl,h1⟩:=Az hx ha
    obtain ⟨sb,rfl,h2⟩:=Az hy hb
    rw [←h1,←h2]
    exact ME I op t x y sa sb
   ·trivial
  ·rename_i hnx hns
   refine .ov I (fun v hv=> ?_)
   have main:∀r,eqA k (xx.ev tm) (yy.ev tm)=some r→zW P w t x y r a' b':=by
    intro r he
    generalize xx.ev tm=A at*
    generalize yy.ev tm=B at*
    unfold eqK at hk
    split at hk
    ·rename_i ht; subst hk; exact Rt ht he ha hb
    ·subst hk; simp [eqA] at he
    ·subst hk; simp [eqA] at he
    ·rename_i e ht
     split at hk
     ·rename_i z hz; subst hk; exact UL ht hz (by omega) he ha hb
     ·subst hk; simp [eqA] at he
    ·rename_i ms ht
     split at hk
     ·rename_i hc; subst hk; exact OK ht hc he ha hb
     ·subst hk; simp [eqA] at he
    ·rename_i fs ht
     split at hk
     ·rename_i hc
      simp only [Bool.and_eq_true,Bool.not_eq_true'] at hc
      split at hk
      ·rename_i ks hks
       subst hk
       have hag:∃xs ys,A= .agg xs∧B= .agg ys∧allEq ks xs ys=some r:=by
        cases A <;> simp only [eqA] at he <;> first | (cases he; done) | skip
        cases B <;> simp only at he <;> first | (cases he; done) | skip
        exact ⟨_,_,rfl,rfl,he⟩
       obtain ⟨xs,ys,rfl,rfl,hall⟩:=hag
       obtain ⟨xs',ys',rfl,rfl,heq⟩:=Cn hc.1.1 hc.1.2 hks hall ha hb
       exact ⟨fun op=> run_eqGuard_agg w op t x y xs' ys' hc.2,by rw [run_eql_struct,heq]; rfl,by rw [run_neq_struct,heq]; rfl⟩
      ·subst hk; simp [eqA] at he
     ·subst hk; simp [eqA] at he
    ·rename_i e ht; subst hk; exact Ru ht he ha hb
    ·rename_i k1 e ht; subst hk; exact Rv ht he ha hb
    ·rename_i ps rs va ht; subst hk; exact Rw ht he ha hb
    ·subst hk; simp [eqA] at he
   unfold Tw at hv
   split at hv
   ·split at hv
    ·rename_i r he
     cases hv
     obtain ⟨g,e1,e2⟩:=main r he
     exact ⟨_,by simp only [Sem.run_bind,g,Result.andThen_ok,e1,Sem.run_pure],.d _ _ (.b _)⟩
    ·cases hv
   ·split at hv
    ·rename_i r he
     cases hv
     obtain ⟨g,e1,e2⟩:=main r he
     exact ⟨_,by simp only [Sem.run_bind,g,Result.andThen_ok,e2,Sem.run_pure],.d _ _ (.b _)⟩
    ·cases hv
   ·cases hv
end
end Go.Abs
end
