/- BoundGreatest on the abstract machine: true, whatever the letter, and the token. -/
import Derived.Test.YtjacnbabnpgpaaaDoorT
namespace Go.Proofs.YtjacnbabnpgpaaaDoor
noncomputable section
open Go Go.Abs
set_option maxRecDepth 100000
/-- The operation that is built. -/
def textV (b : UInt8) : ValS := .mk 1 0 (List.replicate 100 b) []
def listV (b : UInt8) : ValS := .mk 2 0 [] (List.replicate 38 (textV b))
def greatV (b : UInt8) : ValS := .mk 2 0 [] (List.replicate 5 (listV b))
def greatI (b : UInt8) : ItemS := ⟨List.replicate 20 b, 1, List.replicate 20 (List.replicate 20 b), List.replicate 20 b, 40, 400⟩
def greatO (b : UInt8) (tok : Int) : OpS := ⟨3, List.replicate 400 b, tok, greatV b, List.replicate 40 (greatI b), 0⟩
def greatD (b : UInt8) (tok : Int) : List DV := [.i .u8 3, .s (List.replicate 400 b), .i .i64 tok, .i .u8 2, .i .i64 0, .s [], .sl false 5 (valsD (List.replicate 5 (listV b))), .sl false 40 (itemsD (List.replicate 40 (greatI b))), .i .i64 0]
theorem isLet_b {r : Nat} (h : r < 26) : isLet (UInt8.ofNat (97 + r)) = true := by
  have : (List.range 26).all (fun r => isLet (UInt8.ofNat (97 + r))) = true := by kernel_rfl
  rw [List.all_eq_true] at this
  exact this r (by simpa using h)
theorem good_b {r : Nat} (h : r < 26) : badC (UInt8.ofNat (97 + r)) = false := by
  have : (List.range 26).all (fun r => !badC (UInt8.ofNat (97 + r))) = true := by kernel_rfl
  rw [List.all_eq_true] at this
  simpa using this r (by simpa using h)
theorem all_rep {α : Type} {p : α → Bool} {a : α} (h : p a = true) (n : Nat) : (List.replicate n a).all p = true := by
  induction n with
  | zero => rfl
  | succ n ih => rw [List.replicate_succ, List.all_cons, h, ih]; rfl
theorem name_b {r : Nat} (h : r < 26) : isName (List.replicate 20 (UInt8.ofNat (97 + r))) = true := by
  unfold isName
  rw [all_rep (isLet_b h), List.length_replicate]; rfl
theorem item_b {r : Nat} (h : r < 26) : fitsI (greatI (UInt8.ofNat (97 + r))) = true := by
  unfold fitsI greatI
  simp only [name_b h, all_rep (name_b h), List.length_replicate]
  rfl
theorem frag_b {r : Nat} (h : r < 26) : rightF (List.replicate 40 (greatI (UInt8.ofNat (97 + r)))) = true := by
  unfold rightF
  rw [all_rep (item_b h), List.length_replicate]; rfl
theorem id_b {r : Nat} (h : r < 26) : okID (List.replicate 400 (UInt8.ofNat (97 + r))) = true := by
  unfold okID
  rw [all_rep (by rw [good_b h]; rfl), List.length_replicate]; rfl
theorem val_b (b : UInt8) : rightV (greatV b) = true := by kernel_rfl
theorem right_b {r : Nat} (h : r < 26) {tok : Int} (ht : 1 ≤ tok) : rightO (greatO (UInt8.ofNat (97 + r)) tok) = true := by
  have hk : rightO (greatO (UInt8.ofNat (97 + r)) tok) = rightK true false true true true (greatO (UInt8.ofNat (97 + r)) tok) := rfl
  rw [hk]
  unfold rightK
  simp only [greatO]
  rw [frag_b h, id_b h, val_b, show iLt tok 1 = false by rw [iLt_not]; exact ht]; rfl
theorem okVs_rep {v : ValS} (h : okV v) (n : Nat) : okVs (List.replicate n v) := by
  induction n with
  | zero => exact trivial
  | succ n ih => exact ⟨h, ih⟩
theorem great_rel (b : UInt8) {tok : Int} (ht : R64 tok) : OpR (greatO b tok) (greatD b tok) := by
  have z : R64 0 := ⟨by decide, by decide⟩
  have e1 : R8 1 := ⟨by decide, by decide⟩
  have e2 : R8 2 := ⟨by decide, by decide⟩
  have e3 : R8 3 := ⟨by decide, by decide⟩
  have e4 : R64 40 := ⟨by decide, by decide⟩
  have e5 : R64 400 := ⟨by decide, by decide⟩
  have ok1 : okV (textV b) := by unfold textV okV; exact ⟨e1, z, trivial⟩
  have ok2 : okV (listV b) := by unfold listV okV; exact ⟨e2, z, okVs_rep ok1 _⟩
  have ok3 : okV (greatV b) := by unfold greatV okV; exact ⟨e2, z, okVs_rep ok2 _⟩
  refine ⟨valD (greatV b), .sl false 40 (itemsD (List.replicate 40 (greatI b))), rfl, valR_of _ ok3, ⟨?_, fun e => by cases e⟩, e3, ht, z⟩
  have := itemsR_of (l := List.replicate 40 (greatI b)) (fun x hx => by
    rw [List.eq_of_mem_replicate hx]
    exact ⟨e1, e4, e5⟩)
  rwa [List.length_replicate] at this
theorem valsB_rep (v : ValS) (n : Nat) : (valsB (List.replicate n v)).length = n * (valB v).length := by
  induction n with
  | zero => rw [Nat.zero_mul]; rfl
  | succ n ih =>
    rw [List.replicate_succ]
    show (valB v ++ valsB (List.replicate n v)).length = _
    rw [List.length_append, ih, Nat.succ_mul, Nat.add_comm]
theorem itemsB_rep (v : ItemS) (n : Nat) : (itemsB (List.replicate n v)).length = n * (itemB v).length := by
  induction n with
  | zero => rw [Nat.zero_mul]; rfl
  | succ n ih =>
    rw [List.replicate_succ]
    show (itemB v ++ itemsB (List.replicate n v)).length = _
    rw [List.length_append, ih, Nat.succ_mul, Nat.add_comm]
theorem strsB_rep (v : List UInt8) (n : Nat) : (strsB (List.replicate n v)).length = n * (textB v).length := by
  induction n with
  | zero => rw [Nat.zero_mul]; rfl
  | succ n ih =>
    rw [List.replicate_succ]
    show (textB v ++ strsB (List.replicate n v)).length = _
    rw [List.length_append, ih, Nat.succ_mul, Nat.add_comm]
theorem textB_100 (b : UInt8) : (textB (List.replicate 100 b)).length = 102 := by kernel_rfl
theorem textB_20 (b : UInt8) : (textB (List.replicate 20 b)).length = 21 := by kernel_rfl
theorem textB_400 (b : UInt8) : (textB (List.replicate 400 b)).length = 402 := by kernel_rfl
theorem text_len (b : UInt8) : (valB (textV b)).length = 103 := by kernel_rfl
theorem list_len (b : UInt8) : (valB (listV b)).length = 3916 := by
  have : valB (listV b) = numB 2 ++ (numB (.ofNat 38) ++ valsB (List.replicate 38 (textV b))) := by
    unfold listV valB
    rw [if_neg (by omega), if_neg (by omega), List.length_replicate]
  rw [this, List.length_append, List.length_append, valsB_rep, text_len]; rfl
theorem great_len (b : UInt8) : (valB (greatV b)).length = 19582 := by
  have : valB (greatV b) = numB 2 ++ (numB (.ofNat 5) ++ valsB (List.replicate 5 (listV b))) := by
    unfold greatV valB
    rw [if_neg (by omega), if_neg (by omega), List.length_replicate]
  rw [this, List.length_append, List.length_append, valsB_rep, list_len]; rfl
theorem item_len (b : UInt8) : (itemB (greatI b)).length = 467 := by
  unfold itemB greatI
  simp only [List.length_append, strsB_rep, textB_20, List.length_replicate, if_true]
  rfl
theorem great_bytes (b : UInt8) (tok : Int) : 38667 ≤ (opB (greatO b tok)).length := by
  have h1 := (numB_len tok).1
  have e : opB (greatO b tok) = numB 3 ++ textB (List.replicate 400 b) ++ numB tok ++ valB (greatV b) ++ fragB (List.replicate 40 (greatI b)) := by
    unfold opB
    rw [if_neg (show ¬ (greatO b tok).what = 1 from by show ¬ (3 : Int) = 1; decide), if_neg (show ¬ (greatO b tok).what = 2 from by show ¬ (3 : Int) = 2; decide), if_pos (show (greatO b tok).what = 3 from rfl)]
    rfl
  rw [e]
  simp only [List.length_append, textB_400, great_len, fragB, itemsB_rep, item_len, List.length_replicate]
  have h2 := (numB_len 3).1
  have h3 := (numB_len (.ofNat 40)).1
  omega
theorem awake_ok {h : Heap} : Cal E f_foremanlaw29_awake [] h (.nrm, .d (.b true), h) := ⟨100000, by kernel_rfl⟩
theorem most_ok {h : Heap} : Cal E f_bound_MostLong [] h (.nrm, .d (.i .i64 39804), h) := ⟨20, by kernel_rfl⟩
theorem law_ok {c0 : Nat} {tok : Int} (h0 : c0 < 256) (ht : R64 tok) : Cal E f_foremanlaw29_BoundGreatest [.d (.i .u8 (.ofNat c0)), .d (.i .i64 tok)] .empty (.nrm, .d (.b true), .empty) := by
  obtain ⟨tk, htk⟩ : ∃ t, t = (if tok < 1 then 1 else tok) := ⟨_, rfl⟩
  have hmx : ∀ h, s_mx h [] [.c (.d (.i .i64 tok)), .c (.d (.i .i64 1))] = .val (.d (.i .i64 tk)) h := fun h => by rw [mx2, htk]
  have ht1 : 1 ≤ tk ∧ R64 tk := by
    rw [htk]
    split
    · exact ⟨by omega, ⟨by decide, by decide⟩⟩
    · exact ⟨by omega, ht⟩
  have hr := right_b (r := c0 % 26) (by omega) ht1.1
  have hb1 := great_bytes (UInt8.ofNat (97 + c0 % 26)) tk
  have hb2 := opB_le hr
  obtain ⟨n, hn⟩ : ∃ n, n = longO (greatO (UInt8.ofNat (97 + c0 % 26)) tk) := ⟨_, rfl⟩
  have hcall : ∀ h args, stripArgs h args = some ([.agg (greatD (UInt8.ofNat (97 + c0 % 26)) tk)], false) → Cal E f_bound_Long args h (.nrm, .tup [.d (.i .i64 (.ofNat n)), .d (.i .i64 0)], h) := fun h args ha => by
    rw [hn]; exact (boundLong_ok (great_rel _ ht1.2) ha).2 hr
  unfold longO at hn
  refine .w n_foremanlaw29_BoundGreatest rfl (ds := [.i .u8 (.ofNat c0), .i .i64 tok]) (bor := false) rfl ?_
  refine .opv (fun h => rem26 (h := h) (a := c0)) (by kernel_rfl) ?_
  refine .opR (by kernel_rfl) ?_
  refine .loopE false (tm0 := t2 c0 tok (97 + c0 % 26)) (setL_same _ _ _ (Eq.trans (b := .d (.i .u8 (wrap .u8 (97 + .ofNat (c0 % 26))))) (by kernel_rfl) (by rw [letter h0]))).symm (by kernel_rfl) (loop1 c0 tok (97 + c0 % 26)) ?_
  refine .opR (by kernel_rfl) ?_
  refine .opR (by kernel_rfl) ?_
  refine .loopR false 100000 2 rfl (by kernel_rfl) (by kernel_rfl) ?_
  refine .opR (by kernel_rfl) ?_
  refine .opR (by kernel_rfl) ?_
  refine .loopR false 100000 6 rfl (by kernel_rfl) (by kernel_rfl) ?_
  refine .opR (by kernel_rfl) ?_
  refine .opv hmx (by kernel_rfl) ?_
  refine .loopR false 100000 8 rfl (by kernel_rfl) (by kernel_rfl) ?_
  refine .calls hcall (by kernel_rfl) ?_
  refine .br true (by kernel_rfl) (fun _ => ?_) (fun e => by cases e)
  refine .br (iLt 38000 (.ofNat n)) (by kernel_rfl) (fun _ => ?_) (fun e => ?_)
  rotate_left
  · rw [iLt_not] at e; simp only [Int.ofNat_eq_natCast] at e; omega
  refine .callv (fun h => most_ok (h := h)) (by kernel_rfl) ?_
  refine .br (!(iLt 39804 (.ofNat n))) (by kernel_rfl) (fun _ => ?_) (fun e => ?_)
  rotate_left
  · rw [Bool.not_eq_false', iLt_iff] at e; simp only [Int.ofNat_eq_natCast] at e; omega
  refine .callv (fun h => awake_ok (h := h)) (by kernel_rfl) ?_
  exact .ret rfl (by kernel_rfl)
end
end Go.Proofs.YtjacnbabnpgpaaaDoor
