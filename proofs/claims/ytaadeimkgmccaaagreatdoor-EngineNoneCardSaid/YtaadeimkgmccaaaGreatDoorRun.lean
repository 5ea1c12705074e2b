/- EngineNone behind its first look, on the abstract machine: whatever the operation, and the capacity. -/
import Derived.Test.YtaadeimkgmccaaaGreatDoorAwS
namespace Go.Proofs.YtaadeimkgmccaaaGreatDoor
noncomputable section
open Go Go.Abs
set_option maxRecDepth 100000
set_option maxHeartbeats 0
/-- An operation's cells. -/
structure OpV where
  w : Int
  id : List UInt8
  tok : Int
  k : Int
  n : Int
  s : List UInt8
  m : Nat
  cs : List DV
  fm : Nat
  fcs : List DV
  q : Int
def opC (p : OpV) : List DV := [.i .u8 p.w, .s p.id, .i .i64 p.tok, .i .u8 p.k, .i .i64 p.n, .s p.s, .sl true p.m p.cs, .sl true p.fm p.fcs, .i .i64 p.q]
def heap3 (O : List DV) : Heap := ((Heap.empty.push (.cells false 27 (O.map .d))).push (.cells false 27 (O.map .d)))
def tm3 (O : List DV) (most : Int) (b : Bool) : List AV := [.agg (O.map .d), .d (.i .u8 most), .ptr 0 0, .und, .d (.b false)] ++ (rep 21 ++ ([.agg (O.map .d), .sref 1 0 9 1 1 true, .d (.b b), .d (.b (!b))] ++ rep 152))
def r0 : AC := a3.body.snd.snd
def c1 : AC := r0.fst
def c2 : AC := r0.snd.fst
def c3 : AC := r0.snd.snd.fst
def c4 : AC := r0.snd.snd.snd.fst
def c5 : AC := r0.snd.snd.snd.snd.fst
def c6 : AC := r0.snd.snd.snd.snd.snd.fst
def c7 : AC := r0.snd.snd.snd.snd.snd.snd.fst
def c8 : AC := r0.snd.snd.snd.snd.snd.snd.snd.fst
def c9 : AC := r0.snd.snd.snd.snd.snd.snd.snd.snd.fst
def c10 : AC := r0.snd.snd.snd.snd.snd.snd.snd.snd.snd.fst
def c11 : AC := r0.snd.snd.snd.snd.snd.snd.snd.snd.snd.snd
/-- What a part comes to. -/
def nx (c : AC) (s : List AV × Heap) : List AV × Heap := (tmOf (runF E 1000000 c ⟨s.1, [], none⟩ s.2), hpOf (runF E 1000000 c ⟨s.1, [], none⟩ s.2))
def s1 (p : OpV) (most : Int) : List AV × Heap := (tm3 (opC p) most true, heap3 (opC p))
def s2 (p : OpV) (most : Int) : List AV × Heap := nx c1 (s1 p most)
def s3 (p : OpV) (most : Int) : List AV × Heap := nx c2 (s2 p most)
def s4 (p : OpV) (most : Int) : List AV × Heap := nx c3 (s3 p most)
def s5 (p : OpV) (most : Int) : List AV × Heap := nx c4 (s4 p most)
def s6 (p : OpV) (most : Int) : List AV × Heap := nx c5 (s5 p most)
def s7 (p : OpV) (most : Int) : List AV × Heap := nx c6 (s6 p most)
theorem n1 (p : OpV) (most : Int) : isN (runF E 1000000 c1 ⟨(s1 p most).1, [], none⟩ (s1 p most).2) = true := by kernel_rfl
theorem n2 (p : OpV) (most : Int) : isN (runF E 1000000 c2 ⟨(s2 p most).1, [], none⟩ (s2 p most).2) = true := by kernel_rfl
theorem n3 (p : OpV) (most : Int) : isN (runF E 1000000 c3 ⟨(s3 p most).1, [], none⟩ (s3 p most).2) = true := by kernel_rfl
theorem n4 (p : OpV) (most : Int) : isN (runF E 1000000 c4 ⟨(s4 p most).1, [], none⟩ (s4 p most).2) = true := by kernel_rfl
theorem n5 (p : OpV) (most : Int) : isN (runF E 1000000 c5 ⟨(s5 p most).1, [], none⟩ (s5 p most).2) = true := by kernel_rfl
theorem n6 (p : OpV) (most : Int) : isN (runF E 1000000 c6 ⟨(s6 p most).1, [], none⟩ (s6 p most).2) = true := by kernel_rfl
theorem l7 (p : OpV) (most : Int) : (s7 p most).1.length = 182 := by kernel_rfl
theorem g7 (p : OpV) (most : Int) : getL (s7 p most).1 1 = .d (.i .u8 most) := by kernel_rfl
/-- With a capacity. -/
def sJ (p : OpV) (most : Int) (x y : AV) (j : Nat) : List AV × Heap := (setL (setL (setL (s7 p most).1 134 x) 135 y) 136 (.d (.i .i64 (.ofNat j))), (s7 p most).2)
def b7 : AC := .reg (c7.ops.drop 3)
def cJ : AC := .seq (.seq (.seq b7 c8) c9) c10
def isI (a : AV) (n : Nat) : Bool := match a with
  | .d (.i .i64 (.ofNat m)) => Nat.beq m n
  | _ => false
def isP (a : AV) : Bool := match a with
  | .d .nilp => true
  | _ => false
/-- What is looked at in the end. -/
def isE (tm : List AV) : Bool := Nat.beq tm.length 182 && isI (getL tm 19) 0 && isI (getL tm 21) 5 && isP (getL tm 20) && isI (getL tm 23) 30 && isP (getL tm 22) && isI (getL tm 25) 2
def isJ : Res → Bool
  | some (.nrm, ⟨tm, [], none⟩, _) => isE tm
  | _ => false
end
end Go.Proofs.YtaadeimkgmccaaaGreatDoor
