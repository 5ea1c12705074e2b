/- Contracts: what a node has left: bound.Work, and the document's. -/
import Derived.Test.YtjacnbabnpgpaaaGreatDoorF
import Derived.Test.YtjacnbabnpgpaaaGreatDoorZE
namespace Go.Proofs.YtjacnbabnpgpaaaGreatDoor
noncomputable section
open Go Go.Abs
set_option maxRecDepth 100000
theorem wrapK64i (n : Int) : IntKind.wrap .i64 n = (if n % 18446744073709551616 ≥ 9223372036854775808 then n % 18446744073709551616 - 18446744073709551616 else n % 18446744073709551616) := by
  have h : IntKind.wrap .i64 n = (if (true && decide (n % 18446744073709551616 ≥ 9223372036854775808)) = true then n % 18446744073709551616 - 18446744073709551616 else n % 18446744073709551616) := by kernel_rfl
  rw [h, Bool.true_and]
  by_cases hc : n % 18446744073709551616 ≥ 9223372036854775808
  · rw [if_pos (decide_eq_true hc), if_pos hc]
  · rw [if_neg (by simpa using hc), if_neg hc]
theorem wrap_i64 (n : Int) : wrap .i64 n = (if n % 18446744073709551616 ≥ 9223372036854775808 then n % 18446744073709551616 - 18446744073709551616 else n % 18446744073709551616) := by
  by_cases h : -9223372036854775808 ≤ n ∧ n < 9223372036854775808
  · rw [wrap64 h.1 h.2]
    split <;> omega
  · have hr : inR .i64 n = false := by
      rw [← Bool.not_eq_true]
      intro he
      apply h
      cases n with
      | ofNat a =>
        have he : Nat.blt a _ = true := he
        rw [Nat.blt_eq] at he
        simp only [Int.ofNat_eq_natCast]; omega
      | negSucc a =>
        have he : Nat.blt a _ = true := he
        rw [Nat.blt_eq] at he
        omega
    unfold wrap
    rw [hr]
    exact wrapK64i n
theorem wrap_eq {a b : Int} (h : a % 18446744073709551616 = b % 18446744073709551616) : wrap .i64 a = wrap .i64 b := by
  rw [wrap_i64, wrap_i64, h]
theorem wrap_mod (a : Int) : wrap .i64 a % 18446744073709551616 = a % 18446744073709551616 := by
  rw [wrap_i64]
  split <;> omega
theorem w_add {a b a' b' : Int} (h1 : a % 18446744073709551616 = a' % 18446744073709551616) (h2 : b % 18446744073709551616 = b' % 18446744073709551616) : (a + b) % 18446744073709551616 = (a' + b') % 18446744073709551616 := by omega
theorem w_sub {a b a' b' : Int} (h1 : a % 18446744073709551616 = a' % 18446744073709551616) (h2 : b % 18446744073709551616 = b' % 18446744073709551616) : (a - b) % 18446744073709551616 = (a' - b') % 18446744073709551616 := by omega
theorem w_mul {a b a' b' : Int} (h1 : a % 18446744073709551616 = a' % 18446744073709551616) (h2 : b % 18446744073709551616 = b' % 18446744073709551616) : (a * b) % 18446744073709551616 = (a' * b') % 18446744073709551616 := by
  rw [Int.mul_emod, h1, h2, ← Int.mul_emod]
def mapW (r width quota : Int) : Int := wrap .i64 (wrap .i64 (wrap .i64 (2 * wrap .i64 (r + 1)) * width) * wrap .i64 (1 + quota))
def fullW (r quota fails : Int) : Int := wrap .i64 (wrap .i64 (wrap .i64 (2 * wrap .i64 (r + 1)) - wrap .i64 (2 * fails)) + wrap .i64 (wrap .i64 (2 * wrap .i64 (r + 1)) * quota))
def workW (kind stand r width quota fails : Int) : Int := if kind = 1 then (if stand = 0 then mapW r width quota else 0) else if stand = 0 then fullW r quota fails else if stand = 1 then fullW r quota fails else if stand = 2 then wrap .i64 (fullW r quota fails - 1) else 0
abbrev nA (id name : List UInt8) (kind flow owner at' : Int) (ab : Bool) (am : Nat) (acs : List DV) (width quota stand fails token vk vn : Int) (vs : List UInt8) (vb : Bool) (vm : Nat) (vcs : List DV) : List AV := [.d (.s id), .d (.s name), .d (.i .u8 kind), .d (.i .i64 flow), .d (.i .i64 owner), .d (.i .i64 at'), .d (.sl ab am acs), .d (.i .i64 width), .d (.i .i64 quota), .d (.i .u8 stand), .d (.i .i64 fails), .d (.i .i64 token), .d (.i .u8 vk), .d (.i .i64 vn), .d (.s vs), .d (.sl vb vm vcs)]
abbrev nD (id name : List UInt8) (kind flow owner at' : Int) (ab : Bool) (am : Nat) (acs : List DV) (width quota stand fails token vk vn : Int) (vs : List UInt8) (vb : Bool) (vm : Nat) (vcs : List DV) : List DV := [.s id, .s name, .i .u8 kind, .i .i64 flow, .i .i64 owner, .i .i64 at', .sl ab am acs, .i .i64 width, .i .i64 quota, .i .u8 stand, .i .i64 fails, .i .i64 token, .i .u8 vk, .i .i64 vn, .s vs, .sl vb vm vcs]
section
variable {id name : List UInt8} {kind flow owner at' : Int} {ab : Bool} {am : Nat} {acs : List DV} {width quota stand fails token vk vn : Int} {vs : List UInt8} {vb : Bool} {vm : Nat} {vcs : List DV}
theorem boundWork_ok {h : Heap} {r : Int} (hs : R8 stand) : Cal E f_bound_Work [.agg (nA id name kind flow owner at' ab am acs width quota stand fails token vk vn vs vb vm vcs), .d (.i .i64 r)] h (.nrm, .d (.i .i64 (workW kind stand r width quota fails)), h) := by
  have hst : stand = 0 ∨ stand = 1 ∨ stand = 2 ∨ stand = 3 ∨ stand = 4 ∨ stand = 5 ∨ 6 ≤ stand := by have := hs.1; omega
  by_cases hk : kind = 1
  · subst hk
    rcases hst with rfl | rfl | rfl | rfl | rfl | rfl | h6
    · refine .w n_bound_Work rfl (ds := [.agg (nD id name 1 flow owner at' ab am acs width quota 0 fails token vk vn vs vb vm vcs), .i .i64 r]) (bor := false) rfl ?_
      refine .br true (by kernel_rfl) (fun _ => ?_) (fun e => by cases e)
      have hm : ∀ h, s_mn h [] [.c (.d (.i .u8 0)), .c (.d (.i .u8 6))] = .val (.d (.i .u8 0)) h := fun h => by rw [mn2, if_neg (by decide)]
      refine .opv hm (by kernel_rfl) ?_
      refine .opv (iaA_ptr (k := .u8) (n := 7) (z := 1) (b := 1) (off := 0) (j := 0) rfl (by omega)) (by kernel_rfl) ?_
      exact .retI (mapW r width quota) (by kernel_rfl) (by unfold workW; rw [if_pos rfl, if_pos rfl])
    · refine .w n_bound_Work rfl (ds := [.agg (nD id name 1 flow owner at' ab am acs width quota 1 fails token vk vn vs vb vm vcs), .i .i64 r]) (bor := false) rfl ?_
      refine .br true (by kernel_rfl) (fun _ => ?_) (fun e => by cases e)
      have hm : ∀ h, s_mn h [] [.c (.d (.i .u8 1)), .c (.d (.i .u8 6))] = .val (.d (.i .u8 1)) h := fun h => by rw [mn2, if_neg (by decide)]
      refine .opv hm (by kernel_rfl) ?_
      refine .opv (iaA_ptr (k := .u8) (n := 7) (z := 1) (b := 1) (off := 0) (j := 1) rfl (by omega)) (by kernel_rfl) ?_
      exact .retI (0) (by kernel_rfl) (by unfold workW; rw [if_pos rfl, if_neg (by omega)])
    · refine .w n_bound_Work rfl (ds := [.agg (nD id name 1 flow owner at' ab am acs width quota 2 fails token vk vn vs vb vm vcs), .i .i64 r]) (bor := false) rfl ?_
      refine .br true (by kernel_rfl) (fun _ => ?_) (fun e => by cases e)
      have hm : ∀ h, s_mn h [] [.c (.d (.i .u8 2)), .c (.d (.i .u8 6))] = .val (.d (.i .u8 2)) h := fun h => by rw [mn2, if_neg (by decide)]
      refine .opv hm (by kernel_rfl) ?_
      refine .opv (iaA_ptr (k := .u8) (n := 7) (z := 1) (b := 1) (off := 0) (j := 2) rfl (by omega)) (by kernel_rfl) ?_
      exact .retI (0) (by kernel_rfl) (by unfold workW; rw [if_pos rfl, if_neg (by omega)])
    · refine .w n_bound_Work rfl (ds := [.agg (nD id name 1 flow owner at' ab am acs width quota 3 fails token vk vn vs vb vm vcs), .i .i64 r]) (bor := false) rfl ?_
      refine .br true (by kernel_rfl) (fun _ => ?_) (fun e => by cases e)
      have hm : ∀ h, s_mn h [] [.c (.d (.i .u8 3)), .c (.d (.i .u8 6))] = .val (.d (.i .u8 3)) h := fun h => by rw [mn2, if_neg (by decide)]
      refine .opv hm (by kernel_rfl) ?_
      refine .opv (iaA_ptr (k := .u8) (n := 7) (z := 1) (b := 1) (off := 0) (j := 3) rfl (by omega)) (by kernel_rfl) ?_
      exact .retI (0) (by kernel_rfl) (by unfold workW; rw [if_pos rfl, if_neg (by omega)])
    · refine .w n_bound_Work rfl (ds := [.agg (nD id name 1 flow owner at' ab am acs width quota 4 fails token vk vn vs vb vm vcs), .i .i64 r]) (bor := false) rfl ?_
      refine .br true (by kernel_rfl) (fun _ => ?_) (fun e => by cases e)
      have hm : ∀ h, s_mn h [] [.c (.d (.i .u8 4)), .c (.d (.i .u8 6))] = .val (.d (.i .u8 4)) h := fun h => by rw [mn2, if_neg (by decide)]
      refine .opv hm (by kernel_rfl) ?_
      refine .opv (iaA_ptr (k := .u8) (n := 7) (z := 1) (b := 1) (off := 0) (j := 4) rfl (by omega)) (by kernel_rfl) ?_
      exact .retI (0) (by kernel_rfl) (by unfold workW; rw [if_pos rfl, if_neg (by omega)])
    · refine .w n_bound_Work rfl (ds := [.agg (nD id name 1 flow owner at' ab am acs width quota 5 fails token vk vn vs vb vm vcs), .i .i64 r]) (bor := false) rfl ?_
      refine .br true (by kernel_rfl) (fun _ => ?_) (fun e => by cases e)
      have hm : ∀ h, s_mn h [] [.c (.d (.i .u8 5)), .c (.d (.i .u8 6))] = .val (.d (.i .u8 5)) h := fun h => by rw [mn2, if_neg (by decide)]
      refine .opv hm (by kernel_rfl) ?_
      refine .opv (iaA_ptr (k := .u8) (n := 7) (z := 1) (b := 1) (off := 0) (j := 5) rfl (by omega)) (by kernel_rfl) ?_
      exact .retI (0) (by kernel_rfl) (by unfold workW; rw [if_pos rfl, if_neg (by omega)])
    · refine .w n_bound_Work rfl (ds := [.agg (nD id name 1 flow owner at' ab am acs width quota stand fails token vk vn vs vb vm vcs), .i .i64 r]) (bor := false) rfl ?_
      refine .br true (by kernel_rfl) (fun _ => ?_) (fun e => by cases e)
      have hm : ∀ h, s_mn h [] [.c (.d (.i .u8 stand)), .c (.d (.i .u8 6))] = .val (.d (.i .u8 6)) h := fun h => by
        rw [mn2]
        by_cases h7 : 6 < stand
        · rw [if_pos h7]
        · rw [if_neg h7, show stand = 6 by omega]
      refine .opv hm (by kernel_rfl) ?_
      refine .opv (iaA_ptr (k := .u8) (n := 7) (z := 1) (b := 1) (off := 0) (j := 6) rfl (by omega)) (by kernel_rfl) ?_
      exact .retI (0) (by kernel_rfl) (by unfold workW; rw [if_pos rfl, if_neg (by omega)])
  · rcases hst with rfl | rfl | rfl | rfl | rfl | rfl | h6
    · refine .w n_bound_Work rfl (ds := [.agg (nD id name kind flow owner at' ab am acs width quota 0 fails token vk vn vs vb vm vcs), .i .i64 r]) (bor := false) rfl ?_
      refine .br (iEq kind 1) (by kernel_rfl) (fun e => absurd (iEq_iff.1 e) hk) (fun _ => ?_)
      have hm : ∀ h, s_mn h [] [.c (.d (.i .u8 0)), .c (.d (.i .u8 6))] = .val (.d (.i .u8 0)) h := fun h => by rw [mn2, if_neg (by decide)]
      refine .opv hm (by kernel_rfl) ?_
      refine .opv (iaA_ptr (k := .u8) (n := 7) (z := 1) (b := 1) (off := 0) (j := 0) rfl (by omega)) (by kernel_rfl) ?_
      exact .retI (fullW r quota fails) (by kernel_rfl) (by unfold workW; rw [if_neg hk, if_pos rfl])
    · refine .w n_bound_Work rfl (ds := [.agg (nD id name kind flow owner at' ab am acs width quota 1 fails token vk vn vs vb vm vcs), .i .i64 r]) (bor := false) rfl ?_
      refine .br (iEq kind 1) (by kernel_rfl) (fun e => absurd (iEq_iff.1 e) hk) (fun _ => ?_)
      have hm : ∀ h, s_mn h [] [.c (.d (.i .u8 1)), .c (.d (.i .u8 6))] = .val (.d (.i .u8 1)) h := fun h => by rw [mn2, if_neg (by decide)]
      refine .opv hm (by kernel_rfl) ?_
      refine .opv (iaA_ptr (k := .u8) (n := 7) (z := 1) (b := 1) (off := 0) (j := 1) rfl (by omega)) (by kernel_rfl) ?_
      exact .retI (fullW r quota fails) (by kernel_rfl) (by unfold workW; rw [if_neg hk, if_neg (by omega), if_pos rfl])
    · refine .w n_bound_Work rfl (ds := [.agg (nD id name kind flow owner at' ab am acs width quota 2 fails token vk vn vs vb vm vcs), .i .i64 r]) (bor := false) rfl ?_
      refine .br (iEq kind 1) (by kernel_rfl) (fun e => absurd (iEq_iff.1 e) hk) (fun _ => ?_)
      have hm : ∀ h, s_mn h [] [.c (.d (.i .u8 2)), .c (.d (.i .u8 6))] = .val (.d (.i .u8 2)) h := fun h => by rw [mn2, if_neg (by decide)]
      refine .opv hm (by kernel_rfl) ?_
      refine .opv (iaA_ptr (k := .u8) (n := 7) (z := 1) (b := 1) (off := 0) (j := 2) rfl (by omega)) (by kernel_rfl) ?_
      exact .retI (wrap .i64 (fullW r quota fails - 1)) (by kernel_rfl) (by unfold workW; rw [if_neg hk, if_neg (by omega), if_neg (by omega), if_pos rfl])
    · refine .w n_bound_Work rfl (ds := [.agg (nD id name kind flow owner at' ab am acs width quota 3 fails token vk vn vs vb vm vcs), .i .i64 r]) (bor := false) rfl ?_
      refine .br (iEq kind 1) (by kernel_rfl) (fun e => absurd (iEq_iff.1 e) hk) (fun _ => ?_)
      have hm : ∀ h, s_mn h [] [.c (.d (.i .u8 3)), .c (.d (.i .u8 6))] = .val (.d (.i .u8 3)) h := fun h => by rw [mn2, if_neg (by decide)]
      refine .opv hm (by kernel_rfl) ?_
      refine .opv (iaA_ptr (k := .u8) (n := 7) (z := 1) (b := 1) (off := 0) (j := 3) rfl (by omega)) (by kernel_rfl) ?_
      exact .retI (0) (by kernel_rfl) (by unfold workW; rw [if_neg hk, if_neg (by omega), if_neg (by omega), if_neg (by omega)])
    · refine .w n_bound_Work rfl (ds := [.agg (nD id name kind flow owner at' ab am acs width quota 4 fails token vk vn vs vb vm vcs), .i .i64 r]) (bor := false) rfl ?_
      refine .br (iEq kind 1) (by kernel_rfl) (fun e => absurd (iEq_iff.1 e) hk) (fun _ => ?_)
      have hm : ∀ h, s_mn h [] [.c (.d (.i .u8 4)), .c (.d (.i .u8 6))] = .val (.d (.i .u8 4)) h := fun h => by rw [mn2, if_neg (by decide)]
      refine .opv hm (by kernel_rfl) ?_
      refine .opv (iaA_ptr (k := .u8) (n := 7) (z := 1) (b := 1) (off := 0) (j := 4) rfl (by omega)) (by kernel_rfl) ?_
      exact .retI (0) (by kernel_rfl) (by unfold workW; rw [if_neg hk, if_neg (by omega), if_neg (by omega), if_neg (by omega)])
    · refine .w n_bound_Work rfl (ds := [.agg (nD id name kind flow owner at' ab am acs width quota 5 fails token vk vn vs vb vm vcs), .i .i64 r]) (bor := false) rfl ?_
      refine .br (iEq kind 1) (by kernel_rfl) (fun e => absurd (iEq_iff.1 e) hk) (fun _ => ?_)
      have hm : ∀ h, s_mn h [] [.c (.d (.i .u8 5)), .c (.d (.i .u8 6))] = .val (.d (.i .u8 5)) h := fun h => by rw [mn2, if_neg (by decide)]
      refine .opv hm (by kernel_rfl) ?_
      refine .opv (iaA_ptr (k := .u8) (n := 7) (z := 1) (b := 1) (off := 0) (j := 5) rfl (by omega)) (by kernel_rfl) ?_
      exact .retI (0) (by kernel_rfl) (by unfold workW; rw [if_neg hk, if_neg (by omega), if_neg (by omega), if_neg (by omega)])
    · refine .w n_bound_Work rfl (ds := [.agg (nD id name kind flow owner at' ab am acs width quota stand fails token vk vn vs vb vm vcs), .i .i64 r]) (bor := false) rfl ?_
      refine .br (iEq kind 1) (by kernel_rfl) (fun e => absurd (iEq_iff.1 e) hk) (fun _ => ?_)
      have hm : ∀ h, s_mn h [] [.c (.d (.i .u8 stand)), .c (.d (.i .u8 6))] = .val (.d (.i .u8 6)) h := fun h => by
        rw [mn2]
        by_cases h7 : 6 < stand
        · rw [if_pos h7]
        · rw [if_neg h7, show stand = 6 by omega]
      refine .opv hm (by kernel_rfl) ?_
      refine .opv (iaA_ptr (k := .u8) (n := 7) (z := 1) (b := 1) (off := 0) (j := 6) rfl (by omega)) (by kernel_rfl) ?_
      exact .retI (0) (by kernel_rfl) (by unfold workW; rw [if_neg hk, if_neg (by omega), if_neg (by omega), if_neg (by omega)])
theorem fullW_ref (r quota fails : Int) : wrap .i64 (wrap .i64 (2 * wrap .i64 (wrap .i64 (r + 1) - fails)) + wrap .i64 (wrap .i64 (2 * wrap .i64 (r + 1)) * quota)) = fullW r quota fails := by
  unfold fullW
  apply wrap_eq
  refine w_add ?_ rfl
  rw [wrap_mod, wrap_mod]
  have h1 : (2 * wrap .i64 (wrap .i64 (r + 1) - fails)) % 18446744073709551616 = (2 * (wrap .i64 (r + 1) - fails)) % 18446744073709551616 := w_mul rfl (wrap_mod _)
  have h2 : (wrap .i64 (2 * wrap .i64 (r + 1)) - wrap .i64 (2 * fails)) % 18446744073709551616 = (2 * wrap .i64 (r + 1) - 2 * fails) % 18446744073709551616 := w_sub (wrap_mod _) (wrap_mod _)
  rw [h1, h2, Int.mul_sub]
theorem refWork_ok {h : Heap} {r : Int} (hs : R8 stand) : Cal E f_foremanref29_Work [.agg (nA id name kind flow owner at' ab am acs width quota stand fails token vk vn vs vb vm vcs), .d (.i .i64 r)] h (.nrm, .d (.i .i64 (workW kind stand r width quota fails)), h) := by
  refine .w n_foremanref29_Work rfl (ds := [.agg (nD id name kind flow owner at' ab am acs width quota stand fails token vk vn vs vb vm vcs), .i .i64 r]) (bor := false) rfl ?_
  refine .br (iEq kind 1) (by kernel_rfl) (fun e => ?_) (fun e => ?_)
  · have hk := iEq_iff.1 e
    refine .br (iEq stand 0) (by kernel_rfl) (fun e => ?_) (fun e => ?_)
    · exact .retI (mapW r width quota) (by kernel_rfl) (by unfold workW; rw [if_pos hk, if_pos (iEq_iff.1 e)])
    · have hs0 := iEq_not.1 e
      refine .br (iEq kind 1) (by kernel_rfl) (fun _ => ?_) (fun e => absurd hk (iEq_not.1 e))
      exact .retI 0 (by kernel_rfl) (by unfold workW; rw [if_pos hk, if_neg hs0])
  have hk := iEq_not.1 e
  refine .br (iEq kind 1) (by kernel_rfl) (fun e => absurd (iEq_iff.1 e) hk) (fun _ => ?_)
  refine .br (iLt 2 stand) (by kernel_rfl) (fun e => ?_) (fun e => ?_)
  · rw [iLt_iff] at e
    exact .retI 0 (by kernel_rfl) (by unfold workW; rw [if_neg hk, if_neg (by omega), if_neg (by omega), if_neg (by omega)])
  rw [iLt_not] at e
  refine .br (iEq stand 2) (by kernel_rfl) (fun e2 => ?_) (fun e2 => ?_)
  · have h2 := iEq_iff.1 e2
    refine .retI (wrap .i64 (wrap .i64 (wrap .i64 (2 * wrap .i64 (wrap .i64 (r + 1) - fails)) + wrap .i64 (wrap .i64 (2 * wrap .i64 (r + 1)) * quota)) - 1)) (by kernel_rfl) ?_
    rw [fullW_ref]
    unfold workW
    rw [if_neg hk, if_neg (by omega), if_neg (by omega), if_pos h2]
  · have h2 := iEq_not.1 e2
    refine .retI (wrap .i64 (wrap .i64 (2 * wrap .i64 (wrap .i64 (r + 1) - fails)) + wrap .i64 (wrap .i64 (2 * wrap .i64 (r + 1)) * quota))) (by kernel_rfl) ?_
    rw [fullW_ref]
    unfold workW
    have := hs.1
    rw [if_neg hk]
    by_cases h0 : stand = 0
    · rw [if_pos h0]
    · rw [if_neg h0, if_pos (by omega)]
end
end
end Go.Proofs.YtjacnbabnpgpaaaGreatDoor
