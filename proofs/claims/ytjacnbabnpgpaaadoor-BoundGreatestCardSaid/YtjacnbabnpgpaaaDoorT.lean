/- BoundGreatest: the first loop, by the kernel. -/
import Derived.Test.YtjacnbabnpgpaaaDoorR
import Derived.Test.YtjacnbabnpgpaaaDoorZE
namespace Go.Proofs.YtjacnbabnpgpaaaDoor
noncomputable section
open Go Go.Abs
set_option maxRecDepth 100000
theorem rem26 {h : Heap} {a : Nat} : s_bin h [] .rem .bool (.c (.d (.i .u8 (.ofNat a)))) (.c (.d (.i .u8 26))) = .val (.d (.i .u8 (.ofNat (a % 26)))) h := by
  show ov h (binA .rem .bool (.d (.i .u8 (.ofNat a))) (.d (.i .u8 26))) = _
  unfold binA
  simp only [intA, arith]
  show ov h (mkZ .u8 (Int.tmod (.ofNat a) 26)) = _
  rw [show Int.tmod (.ofNat a) 26 = .ofNat (a % 26) from rfl]; rfl
/-- The letter. -/
theorem letter {c0 : Nat} (h : c0 < 256) : wrap .u8 (97 + .ofNat (c0 % 26)) = .ofNat (97 + c0 % 26) := by
  rw [show (97 : Int) + .ofNat (c0 % 26) = .ofNat (97 + c0 % 26) from rfl, wrap_u8, Nat.mod_eq_of_lt (by omega)]
variable (c0 : Nat) (tok : Int)
def g0 : Cfg := .run c_foremanlaw29_BoundGreatest.body [] ⟨false, []⟩ (enterT c_foremanlaw29_BoundGreatest.ntmps [.d (.i .u8 (.ofNat c0)), .d (.i .i64 tok)]) .empty
def g1 : Cfg := (adv E (g0 c0 tok)).callK (.d (.i .u8 (.ofNat (c0 % 26)))) (adv E (g0 c0 tok)).opH
def g2 : Cfg := (adv E (g1 c0 tok)).callK (adv E (g1 c0 tok)).opV (adv E (g1 c0 tok)).opW
variable (x : Nat)
def t2 : List AV := setL (adv E (g2 c0 tok)).tm 5 (.d (.i .u8 (.ofNat x)))
def t3 : List AV := [.d (.i .u8 (.ofNat c0)), .d (.i .i64 tok), .und, .und, .d (.b false), .d (.i .u8 (.ofNat x)), .sref 0 0 1 400 400 true, .d (.i .i64 399), .und, .und, .und, .und, .und, .und, .und, .d (.i .u8 (.ofNat c0)), .d (.i .u8 (.ofNat (c0 % 26))), .d (.i .u8 (wrap .u8 (97 + .ofNat (c0 % 26)))), .sref 0 0 1 400 400 true, .sref 0 0 1 400 400 true, .d (.i .i64 400), .d (.i .i64 400), .d (.b false), .d (.i .i64 399), .sref 0 0 1 400 400 true, .d (.i .i64 399), .d (.i .u8 (.ofNat x)), .ptr 0 399, .d (.i .i64 400), .und, .und, .und, .und, .und, .und, .und, .und, .und, .und, .und, .und, .und, .und, .und, .und, .und, .und, .und, .und, .und, .und, .und, .und, .und, .und, .und, .und, .und, .und, .und, .und, .und, .und, .und, .und, .und, .und, .und, .und, .und, .und, .und, .und, .und, .und, .und, .und, .und, .und, .und, .und, .und, .und, .und, .und, .und, .und, .und, .und, .und, .und, .und, .und, .und, .und, .und, .und, .und, .und, .und, .und, .und, .und, .und]
def h3 : Heap := Heap.empty.push (.cells false t_uint8 (List.replicate 400 (.d (.i .u8 (.ofNat x)))))
theorem loop1 : runF E 100000 (.loop (adv E (g2 c0 tok)).code) ⟨t2 c0 tok x, [], none⟩ (adv E (g2 c0 tok)).hp = some (.exit 0, ⟨t3 c0 tok x, [], none⟩, h3 x) := by kernel_rfl
end
end Go.Proofs.YtjacnbabnpgpaaaDoor
