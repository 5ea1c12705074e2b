/- The package's awake, on the abstract machine: true. -/
import Derived.Test.YtmaeffhiephpfaaGreatDoorEnv
import Derived.Test.YtmaeffhiephpfaaGreatDoorZA
namespace Go.Proofs.YtmaeffhiephpfaaGreatDoor
open Go Go.Abs
set_option maxRecDepth 100000
set_option maxHeartbeats 0
/-- What the package-level variables hold that are read. -/
def glT (g : Nat) : List DV := match Nat.beq g 0 with
  | true => [.i .u8 0, .i .u8 3, .i .u8 4, .i .u8 29, .i .u8 12, .i .u8 4]
  | false => []
noncomputable def E : Env := ⟨fnT.get, glT, methOf Tryz.prog, prT⟩
noncomputable def isT : Option (Ex × AV × Heap × Option AV) → Bool
  | some (.nrm, .d (.b true), _, _) => true
  | _ => false
theorem awT : isT (callIn E (runF E 1000000) 5 [] none .empty) = true := by kernel_rfl
theorem fn5 : E.fn 5 = some a5 := by kernel_rfl
theorem aw_ok (h : Heap) : Cal E 5 [] h (.nrm, .d (.b true), h) := by
  have ht := awT
  unfold isT at ht
  split at ht
  · rename_i h1 p hr
    refine ⟨1000000, ?_⟩
    unfold callTop call
    have hs : stripArgs h [] = some ([], false) := rfl
    have href : a5.ref = false := rfl
    simp only [fn5, href, hs, List.map_nil, hr]
    rfl
  · cases ht
end Go.Proofs.YtmaeffhiephpfaaGreatDoor
