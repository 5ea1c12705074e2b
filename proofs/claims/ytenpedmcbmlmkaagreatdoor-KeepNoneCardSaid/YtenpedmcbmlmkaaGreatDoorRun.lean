/- KeepNone behind its first look, on the abstract machine: whatever the operation, and the length. -/
import Derived.Test.YtenpedmcbmlmkaaGreatDoorAwS
namespace Go.Proofs.YtenpedmcbmlmkaaGreatDoor
noncomputable section
open Go Go.Abs
set_option maxRecDepth 100000
set_option maxHeartbeats 0
/-- An operation's cells. -/
structure OpV where
  w : Int
  id : List UInt8
  tok : Int
  k : Int
  n : Int
  s : List UInt8
  m : Nat
  cs : List DV
  fm : Nat
  fcs : List DV
  q : Int
def opC (p : OpV) : List DV := [.i .u8 p.w, .s p.id, .i .i64 p.tok, .i .u8 p.k, .i .i64 p.n, .s p.s, .sl true p.m p.cs, .sl true p.fm p.fcs, .i .i64 p.q]
def heap3 (O : List DV) : Heap := ((Heap.empty.push (.cells false 27 (O.map .d))).push (.cells false 27 (O.map .d)))
def tm3 (O : List DV) (most : Int) (b : Bool) : List AV := [.agg (O.map .d), .d (.i .i64 most), .ptr 0 0, .und, .d (.b false)] ++ (rep 14 ++ ([.agg (O.map .d), .sref 1 0 9 1 1 true, .d (.b b), .d (.b (!b))] ++ rep 99))
def rA : AC := a3.body.snd.snd.fst
def rC : AC := a3.body.snd.snd.snd.fst
def rB : AC := a3.body.snd.snd.snd.snd
def q1 : AC := rB.fst
def q2 : AC := rB.snd.fst
def q3 : AC := rB.snd.snd.fst
def q4 : AC := rB.snd.snd.snd.fst
def q5 : AC := rB.snd.snd.snd.snd.fst
def q6 : AC := rB.snd.snd.snd.snd.snd.fst
def q7 : AC := rB.snd.snd.snd.snd.snd.snd
/-- What a part comes to. -/
def nx (c : AC) (s : List AV × Heap) : List AV × Heap := (tmOf (runF E 1000000 c ⟨s.1, [], none⟩ s.2), hpOf (runF E 1000000 c ⟨s.1, [], none⟩ s.2))
def sA (p : OpV) (most : Int) : List AV × Heap := nx rA (tm3 (opC p) most true, heap3 (opC p))
theorem nA (p : OpV) (most : Int) : isN (runF E 1000000 rA ⟨tm3 (opC p) most true, [], none⟩ (heap3 (opC p))) = true := by kernel_rfl
theorem lA (p : OpV) (most : Int) : (sA p most).1.length = 122 := by kernel_rfl
theorem gA (p : OpV) (most : Int) : getL (sA p most).1 1 = .d (.i .i64 most) := by kernel_rfl
/-- Behind the look at the length: it is below 0. -/
def s1 (p : OpV) (most : Int) (x y z u : AV) (a : Nat) : List AV × Heap := (setL (setL (setL (setL (setL (sA p most).1 61 x) 62 y) 63 z) 64 u) 1 (.d (.i .i64 (.negSucc a))), (sA p most).2)
theorem s1_neg (p : OpV) (a : Nat) (x y : AV) : setL (setL (sA p (.negSucc a)).1 61 x) 62 y = (s1 p (.negSucc a) x y .und .und a).1 := by kernel_rfl
def s2 (p : OpV) (most : Int) (x y z u : AV) (a : Nat) : List AV × Heap := nx q1 (s1 p most x y z u a)
def s3 (p : OpV) (most : Int) (x y z u : AV) (a : Nat) : List AV × Heap := nx q2 (s2 p most x y z u a)
def s4 (p : OpV) (most : Int) (x y z u : AV) (a : Nat) : List AV × Heap := nx q3 (s3 p most x y z u a)
def s5 (p : OpV) (most : Int) (x y z u : AV) (a : Nat) : List AV × Heap := nx q4 (s4 p most x y z u a)
def s6 (p : OpV) (most : Int) (x y z u : AV) (a : Nat) : List AV × Heap := nx q5 (s5 p most x y z u a)
def s7 (p : OpV) (most : Int) (x y z u : AV) (a : Nat) : List AV × Heap := nx q6 (s6 p most x y z u a)
theorem n1 (p : OpV) (most : Int) (x y z u : AV) (a : Nat) : isN (runF E 1000000 q1 ⟨(s1 p most x y z u a).1, [], none⟩ (s1 p most x y z u a).2) = true := by kernel_rfl
theorem n2 (p : OpV) (most : Int) (x y z u : AV) (a : Nat) : isN (runF E 1000000 q2 ⟨(s2 p most x y z u a).1, [], none⟩ (s2 p most x y z u a).2) = true := by kernel_rfl
theorem n3 (p : OpV) (most : Int) (x y z u : AV) (a : Nat) : isN (runF E 1000000 q3 ⟨(s3 p most x y z u a).1, [], none⟩ (s3 p most x y z u a).2) = true := by kernel_rfl
theorem n4 (p : OpV) (most : Int) (x y z u : AV) (a : Nat) : isN (runF E 1000000 q4 ⟨(s4 p most x y z u a).1, [], none⟩ (s4 p most x y z u a).2) = true := by kernel_rfl
theorem n5 (p : OpV) (most : Int) (x y z u : AV) (a : Nat) : isN (runF E 1000000 q5 ⟨(s5 p most x y z u a).1, [], none⟩ (s5 p most x y z u a).2) = true := by kernel_rfl
theorem n6 (p : OpV) (most : Int) (x y z u : AV) (a : Nat) : isN (runF E 1000000 q6 ⟨(s6 p most x y z u a).1, [], none⟩ (s6 p most x y z u a).2) = true := by kernel_rfl
theorem l7 (p : OpV) (most : Int) (x y z u : AV) (a : Nat) : (s7 p most x y z u a).1.length = 122 := by kernel_rfl
theorem g8 (p : OpV) (most : Int) (x y z u : AV) (a : Nat) : getL (s7 p most x y z u a).1 8 = .d (.i .i64 0) := by kernel_rfl
theorem g10 (p : OpV) (most : Int) (x y z u : AV) (a : Nat) : getL (s7 p most x y z u a).1 10 = .d (.i .i64 2) := by kernel_rfl
theorem g12 (p : OpV) (most : Int) (x y z u : AV) (a : Nat) : getL (s7 p most x y z u a).1 12 = .d (.i .i64 2) := by kernel_rfl
theorem g14 (p : OpV) (most : Int) (x y z u : AV) (a : Nat) : getL (s7 p most x y z u a).1 14 = .d (.i .i64 1) := by kernel_rfl
theorem g16 (p : OpV) (most : Int) (x y z u : AV) (a : Nat) : getL (s7 p most x y z u a).1 16 = .d (.i .i64 50) := by kernel_rfl
theorem g18 (p : OpV) (most : Int) (x y z u : AV) (a : Nat) : getL (s7 p most x y z u a).1 18 = .d (.i .i64 2) := by kernel_rfl
end
end Go.Proofs.YtenpedmcbmlmkaaGreatDoor
