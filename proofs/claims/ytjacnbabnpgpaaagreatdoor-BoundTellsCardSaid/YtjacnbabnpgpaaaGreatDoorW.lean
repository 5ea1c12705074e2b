/- Contracts: crc.Sum: some sum. -/
import Derived.Test.YtjacnbabnpgpaaaGreatDoorK
import Derived.Test.YtjacnbabnpgpaaaGreatDoorF
namespace Go.Proofs.YtjacnbabnpgpaaaGreatDoor
noncomputable section
open Go Go.Abs
set_option maxRecDepth 100000
theorem inR_u32 {a : Nat} (h : a < 4294967296) : inR .u32 (.ofNat a) = true := by show Nat.blt a _ = true; rw [Nat.blt_eq]; exact h
theorem xor32 {a b : Nat} (ha : a < 4294967296) (hb : b < 4294967296) : ∃ c, c < 4294967296 ∧ Abs.bits .xor .u32 (.ofNat a) (.ofNat b) = .ofNat c :=
  ⟨Nat.xor a b, Nat.xor_lt_two_pow (n := 32) ha hb, bits_nat (by rw [inR_u32 ha, inR_u32 hb]; rfl)⟩
def U32 (x : DV) : Prop := ∃ c, c < 4294967296 ∧ x = .i .u32 (.ofNat c)
end
end Go.Proofs.YtjacnbabnpgpaaaGreatDoor
