/- Contracts: ident.may, ident.number. -/
import Derived.Test.YtehffjjfomapnaaGreatDoorB
import Derived.Test.YtehffjjfomapnaaGreatDoorZE
namespace Go.Proofs.YtehffjjfomapnaaGreatDoor
open Go Go.Abs
set_option maxRecDepth 100000
noncomputable section
theorem atoi_ok {s : List UInt8} {v : Int} (hl : s.length ≤ 281474976710656) (e : Lib.atoiAll s = .ok v) (h : Heap) : s_lib E h [] 32 .atoi [.c (.d (.s s))] = .val (.tup [.d (.i .i64 v),.d .nili]) h := by
 have hb : Nat.ble s.length 281474976710656 = true := by rw [Nat.ble_eq]; exact hl
 have hp : E.pr 32 = true := by kernel_rfl
 simp only [s_lib,hp,List.map,X.ev,libA,hb,e,ov]
theorem atoi_no {s : List UInt8} (hl : s.length ≤ 281474976710656) (e : ∀ v,Lib.atoiAll s ≠ .ok v) : ∃ z,∀ h,s_lib E h [] 32 .atoi [.c (.d (.s s))] = .val (.tup [.d (.i .i64 z),.d (.ifc E.err (.bx false [] 0))]) h := by
 have hb : Nat.ble s.length 281474976710656 = true := by rw [Nat.ble_eq]; exact hl
 have hp : E.pr 32 = true := by kernel_rfl
 cases ha : Lib.atoiAll s with
 | ok v => exact absurd ha (e v)
 | range => exact ⟨Lib.atoiSat s,fun h => by simp only [s_lib,hp,List.map,X.ev,libA,hb,ha,ov]⟩
 | _ => exact ⟨0,fun h => by simp only [s_lib,hp,List.map,X.ev,libA,hb,ha,ov]⟩
theorem itoa_ok {v : Int} (h0 : -9223372036854775808 ≤ v) (h1 : v ≤ 9223372036854775807) (h : Heap) : s_lib E h [] 17 .itoa [.c (.d (.i .i64 v))] = .val (.d (.s (itoaA v))) h := by
 have hp : E.pr 17 = true := by kernel_rfl
 have hr : inR .i64 v = true := inR64 h0 (by omega)
 simp only [s_lib,hp,List.map,X.ev,libA,hr,ov]
end
end Go.Proofs.YtehffjjfomapnaaGreatDoor
