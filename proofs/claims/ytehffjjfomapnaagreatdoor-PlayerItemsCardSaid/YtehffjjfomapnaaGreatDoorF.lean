/- Contracts: value.Right. -/
import Derived.Test.YtehffjjfomapnaaGreatDoorNm
import Derived.Test.YtehffjjfomapnaaGreatDoorZE
namespace Go.Proofs.YtehffjjfomapnaaGreatDoor
noncomputable section
open Go Go.Abs
set_option maxRecDepth 100000
def RoomAt (h : Heap) (rb : Nat) (r : Int) : Prop := h.get rb = some (.cells false t_value_room [.d (.i .i64 r)])
def Grow (rb : Nat) (h h' : Heap) : Prop := h.n ≤ h'.n ∧ ∀ i,i < h.n → i ≠ rb → h'.get i = h.get i
theorem Grow.refl (rb : Nat) (h : Heap) : Grow rb h h := ⟨Nat.le_refl _,fun _ _ _ => rfl⟩
theorem Grow.trans {rb : Nat} {h h1 h2 : Heap} (a : Grow rb h h1) (b : Grow rb h1 h2) : Grow rb h h2 :=
 ⟨Nat.le_trans a.1 b.1,fun i hi hn => (b.2 i (Nat.lt_of_lt_of_le hi a.1) hn).trans (a.2 i hi hn)⟩
theorem Grow.push (rb : Nat) (h : Heap) (b : Blk) : Grow rb h (h.push b) := ⟨by show h.n ≤ h.n + 1; omega,fun i hi _ => by rw [Heap.get_push,if_neg (by omega)]⟩
theorem Grow.set (rb : Nat) (h : Heap) (b : Blk) : Grow rb h (h.set rb b) := ⟨Nat.le_refl _,fun i _ hn => by rw [Heap.get_set_ne (Ne.symm hn)]⟩
theorem RoomAt.push {h : Heap} {rb : Nat} {r : Int} (hr : RoomAt h rb r) (b : Blk) : RoomAt (h.push b) rb r := by
 unfold RoomAt; rw [Heap.get_push,if_neg (by have := get_lt hr; omega)]; exact hr

end
end Go.Proofs.YtehffjjfomapnaaGreatDoor
