/- foremanlow.FewOps, on the abstract machine: whatever the operation, it comes to a bool. -/
import Derived.Test.YtaadeimkgmccaaaGreatDoorZA
import Derived.Test.YtaadeimkgmccaaaGreatDoorZE
import Derived.Test.YtaadeimkgmccaaaGreatDoorTabA
import Derived.Test.YtaadeimkgmccaaaGreatDoorTabB
namespace Go.Proofs.YtaadeimkgmccaaaGreatDoor
noncomputable section
open Go Go.Abs
set_option maxRecDepth 100000
section
variable {E : Env}

/-- Cells of a value. -/
inductive VT : List DV → Prop
  | mk (k : Int) (n : Int) (s : List UInt8) (m : Nat) (cs : List DV) (hm : m ≤ 9223372036854775807) (hl : cs.length = m * 4) (h : ∀ i, i < m → VT ((cs.drop (i * 4)).take 4)) : VT [.i .u8 k, .i .i64 n, .s s, .sl true m cs]

theorem readN_at {cs : List DV} {m j : Nat} {l : List DV} {z : Nat} (hl : cs.length = m * z) (hj : j < m) (h : (cs.drop (j * z)).take z = l) : readN (cs.map .d) (j * z) z = some (l.map .d) := by
  have hle : j * z + z ≤ m * z := by rw [← Nat.succ_mul]; exact Nat.mul_le_mul_right _ hj
  have key : ∀ (cs : List AV) (off n : Nat), off + n ≤ cs.length → readN cs off n = some ((cs.drop off).take n) := by
    intro cs
    induction cs with
    | nil =>
      intro off n hh
      have h1 : off = 0 := by simp at hh; omega
      have h2 : n = 0 := by simp at hh; omega
      subst h1 h2; rfl
    | cons a r ih =>
      intro off n hh
      cases off with
      | succ off =>
        show readN r off n = _
        rw [ih off n (by simp at hh; omega)]; rfl
      | zero =>
        show takeN (a :: r) n = _
        have tk : ∀ (l : List AV) (n : Nat), n ≤ l.length → takeN l n = some (l.take n) := by
          intro l
          induction l with
          | nil => intro n hn; have : n = 0 := by simpa using hn
                   subst this; rfl
          | cons b l ih =>
            intro n hn
            cases n with
            | zero => rfl
            | succ n =>
              show (match takeN l n with | some l => some (b :: l) | none => none) = _
              rw [ih n (by simp at hn; omega)]; rfl
        rw [tk _ _ (by simpa using hh)]; rfl
  rw [key _ _ _ (by simp [hl]; omega), ← List.map_drop, ← List.map_take, h]

/-- Between the rounds of parts. -/
structure PInv (d m : Nat) (cs : List DV) (n : Nat) (tm : List AV) (_h : Heap) : Prop where
  len : tm.length = 28
  ex : ∃ j acc, j + n = m ∧ getL tm 1 = .d (.i .i64 (.ofNat d)) ∧ getL tm 11 = .d (.sl true m cs) ∧ getL tm 12 = mkI m ∧ getL tm 13 = mkI j ∧ getL tm 5 = .d (.i .i64 acc)

theorem parts_ok (h46 : E.fn 46 = some a46) : ∀ {vs : List DV}, VT vs → ∀ (d : Nat) (h : Heap), d ≤ 20 → ∃ r, Cal E 46 [.agg (vs.map .d), .d (.i .i64 (.ofNat d))] h (.nrm, inj1 (.i .i64 r), h) := by
  intro vs hv
  induction hv with
  | mk k n s m cs hm hl hvs ih =>
  intro d h hd
  have ha : stripArgs h [.agg ([DV.i .u8 k, .i .i64 n, .s s, .sl true m cs].map .d), .d (.i .i64 (.ofNat d))] = some ([.agg [.i .u8 k, .i .i64 n, .s s, .sl true m cs], .i .i64 (.ofNat d)], false) := rfl
  have goal := Cal.wpx (Good := IsI) h46 rfl ha (by rintro x ⟨r, rfl⟩ h1; exact (adopt_lit _ _ _).2 _ _) ?_
  · obtain ⟨x, ⟨r, rfl⟩, hc⟩ := goal
    exact ⟨r, hc⟩
  generalize htm : enterT a46.ntmps ([DV.agg [.i .u8 k, .i .i64 n, .s s, .sl true m cs], .i .i64 (.ofNat d)].map inj) = tm
  have hlen : tm.length = 28 := by rw [← htm]; rfl
  have t0 : getL tm 0 = .agg [.d (.i .u8 k), .d (.i .i64 n), .d (.s s), .d (.sl true m cs)] := by rw [← htm]; rfl
  have t1 : getL tm 1 = .d (.i .i64 (.ofNat d)) := by rw [← htm]; rfl
  clear htm
  unfold a46
  refine .seq (.reg ?_)
  simp [-Int.ofNat_eq_natCast, wpO, wanted, stepA, s_box, s_mv, X.ev, t0, cellsOf, okCells, Abs.isAgg, setD, Then]
  refine .seq (.seq (.reg ?_))
  simp [-Int.ofNat_eq_natCast, wpO, wanted, stepA, s_mv, s_bin, binA, intA, arith, arith2, mkB, kindEq, ov, X.ev, t1, setD, getL_put, setL_length, hlen, Then]
  refine .cond (x := iEq (Int.ofNat d) 0) (by simp [X.ev, getL_put, setL_length, hlen]) (fun hx => ?_) (fun hx => ?_)
  · refine .seq (.reg ?_)
    simp [-Int.ofNat_eq_natCast, wpO, wanted, stepA, s_mv, X.ev, setD, Then]
    refine .ret ?_
    exact .ret (.i .i64 1000) (.mk _) (by simp [Abs.results, resL, resV, getL_put, setL_length, hlen, inj1])
  have hd0 : 0 < d := by
    rcases Nat.eq_zero_or_pos d with e | e
    · subst e; cases hx
    · exact e
  have hsub : wrap .i64 (Int.ofNat d - 1) = Int.ofNat (d - 1) := by
    have : Int.ofNat d - 1 = Int.ofNat (d - 1) := by simp only [Int.ofNat_eq_natCast]; omega
    rw [this]
    have : inR .i64 (Int.ofNat (d - 1)) = true := by
      show Nat.blt (d - 1) _ = true
      exact Nat.ble_eq_true_of_le (by omega)
    unfold wrap; rw [this]
  refine .skip ?_
  simp only [Then]
  refine .seq (.reg ?_)
  simp [-Int.ofNat_eq_natCast, wpO, wanted, stepA, s_mv, X.ev, setD, Then]
  refine .seq (.seq (.reg ?_))
  have r3 : readN [AV.d (DV.i IntKind.u8 k), AV.d (DV.i IntKind.i64 n), AV.d (DV.s s), AV.d (DV.sl true m cs)] 3 1 = some [AV.d (DV.sl true m cs)] := rfl
  simp [-Int.ofNat_eq_natCast, wpO, wanted, stepA, s_mv, s_fadd, s_load, s_len, loadA, Heap.get_push, r3, one, lenOf, X.ev, setD, getL_put, setL_length, hlen, Then, ov]
  refine .blk (wpC.loop (PInv d m cs) ?_ m _ _ ?_)
  · rintro rem tm h1 ⟨hlen, j, acc, hj, t1, t11, t12, t13, t5⟩
    refine .seq (.reg ?_)
    simp only [mkI] at t12 t13
    simp [-Int.ofNat_eq_natCast, wpO, wanted, stepA, s_bin, binA, intA, arith, arith2, mkB, kindEq, ov, X.ev, t12, t13, iLt, setD, Then]
    refine .seq (.cond (x := Nat.blt j m) (by simp [X.ev, getL_put, hlen]) (fun hx => .skip ?_) (fun hx => .exit ?_))
    · have hjm : j < m := by have := Nat.le_of_ble_eq_true hx; omega
      simp only [Then]
      refine .seq (.blk (.seq (.reg ?_)))
      have hv := hvs j hjm
      have ihj := ih j hjm (d - 1)
      have hra := fun l hl' => readN_at (l := l) hl hjm hl'
      generalize (cs.drop (j * 4)).take 4 = vs' at hv ihj hra
      cases hv with
      | mk k' n' s' m' cs' hm' hl' hvs' =>
      have hra := hra _ rfl
      simp only [List.map_cons, List.map_nil] at hra ihj
      have hput : putL [.d (.i .u8 0), .d (.i .i64 0), .d (.s []), .nilsl] 0 [.d (.i .u8 k'), .d (.i .i64 n'), .d (.s s'), .d (.sl true m' cs')] = [.d (.i .u8 k'), .d (.i .i64 n'), .d (.s s'), .d (.sl true m' cs')] := rfl
      simp [-Int.ofNat_eq_natCast, wpO, wanted, stepA, s_iaS, s_load, s_alloc, s_store, storeA, natA, intA, loadA, Heap.get_push, hra, hput, one, X.ev, setD, getL_put, setL_length, hlen, t11, t13, Then, ov, hx, cellsOf, Abs.isAgg]
      refine .seq (.reg ?_)
      have hblk : ((h1.push (.cells false 24 [.d (.i .u8 0), .d (.i .i64 0), .d (.s []), .nilsl])).set h1.n (.cells false 24 [.d (.i .u8 k'), .d (.i .i64 n'), .d (.s s'), .d (.sl true m' cs')])).get h1.n = some (.cells false 24 [.d (.i .u8 k'), .d (.i .i64 n'), .d (.s s'), .d (.sl true m' cs')]) := Heap.get_set_self (by rw [Heap.get_push, if_pos rfl])
      have hr4 : readN [AV.d (.i .u8 k'), .d (.i .i64 n'), .d (.s s'), .d (.sl true m' cs')] 0 4 = some [.d (.i .u8 k'), .d (.i .i64 n'), .d (.s s'), .d (.sl true m' cs')] := rfl
      generalize (h1.push (.cells false 24 [.d (.i .u8 0), .d (.i .i64 0), .d (.s []), .nilsl])).set h1.n (.cells false 24 [.d (.i .u8 k'), .d (.i .i64 n'), .d (.s s'), .d (.sl true m' cs')]) = h2 at hblk
      obtain ⟨r, hcal⟩ := ihj h2 (by omega)
      simp [-Int.ofNat_eq_natCast, wpO, wanted, stepA, s_mv, s_load, s_bin, s_callf, binA, intA, arith, arith2, mkZ, kindEq, loadA, hblk, hr4, one, X.ev, setD, getL_put, setL_length, hlen, t1, t5, Then, ov, hsub]
      refine ⟨_, _, hcal, ?_⟩
      simp [-Int.ofNat_eq_natCast, inj1]
      refine .seq (.reg ?_)
      simp [-Int.ofNat_eq_natCast, wpO, wanted, stepA, s_mv, s_bin, binA, intA, arith, arith2, mkB, kindEq, X.ev, setD, getL_put, setL_length, hlen, Then, ov]
      refine .cond (x := iLt 1000 (wrap .i64 (acc + r))) (by simp [X.ev, getL_put, setL_length, hlen]) (fun _ => ?_) (fun _ => ?_)
      · refine .seq (.reg ?_)
        simp [-Int.ofNat_eq_natCast, wpO, wanted, stepA, s_mv, X.ev, setD, getL_put, setL_length, hlen, Then]
        refine .ret ?_
        simp only [OutOf, Then, Round]
        exact .ret (.i .i64 (wrap .i64 (acc + r))) (.mk _) (by simp [Abs.results, resL, resV, getL_put, setL_length, hlen, inj1])
      · refine .skip ?_
        simp only [OutOf, Then]
        refine .reg ?_
        have hadd : wrap .i64 (Int.ofNat j + 1) = Int.ofNat (j + 1) := by
          have : Int.ofNat j + 1 = Int.ofNat (j + 1) := rfl
          rw [this]
          have : inR .i64 (Int.ofNat (j + 1)) = true := by
            show Nat.blt (j + 1) _ = true
            exact Nat.ble_eq_true_of_le (by omega)
          unfold wrap; rw [this]
        simp [-Int.ofNat_eq_natCast, wpO, wanted, stepA, s_mv, s_bin, binA, intA, arith, arith2, mkZ, kindEq, X.ev, setD, getL_put, setL_length, hlen, t13, ov, hadd, Round]
        refine ⟨rem - 1, by omega, by simp [setL_length, hlen], j + 1, wrap .i64 (acc + r), by omega, ?_, ?_, ?_, ?_, ?_⟩
        all_goals simp [getL_put, setL_length, hlen, t1, t11, t12, mkI]
    · simp only [Then, Round, OutOf, if_true]
      refine .seq (.reg ?_)
      simp [-Int.ofNat_eq_natCast, wpO, wanted, stepA, s_mv, X.ev, setD, getL_put, setL_length, hlen, t5, Then]
      refine .ret ?_
      exact .ret (.i .i64 acc) (.mk _) (by simp [Abs.results, resL, resV, getL_put, setL_length, hlen, inj1])
  · refine ⟨by simp [setL_length, hlen], 0, 1, by omega, ?_, ?_, ?_, ?_, ?_⟩
    all_goals simp [getL_put, setL_length, hlen, t1, mkI]

theorem shallow_ok (h46 : E.fn 46 = some a46) (h20 : E.fn 20 = some a20) {k n : Int} {s : List UInt8} {m : Nat} {cs : List DV} (hv : VT [.i .u8 k, .i .i64 n, .s s, .sl true m cs]) (h : Heap) :
    ∃ r, Cal E 20 [.agg [.d (.i .u8 k), .d (.i .i64 n), .d (.s s), .d (.sl true m cs)]] h (.nrm, .d (.b r), h) := by
  have ha : stripArgs h [.agg [.d (.i .u8 k), .d (.i .i64 n), .d (.s s), .d (.sl true m cs)]] = some ([.agg [.i .u8 k, .i .i64 n, .s s, .sl true m cs]], false) := rfl
  have goal := Cal.wpx (Good := IsB) h20 rfl ha (by rintro x ⟨r, rfl⟩ h1; exact (adopt_lit _ _ _).1 _) ?_
  · obtain ⟨x, ⟨r, rfl⟩, hc⟩ := goal
    exact ⟨r, hc⟩
  generalize htm : enterT a20.ntmps ([DV.agg [.i .u8 k, .i .i64 n, .s s, .sl true m cs]].map inj) = tm
  have hlen : tm.length = 6 := by rw [← htm]; rfl
  have t0 : getL tm 0 = .agg [.d (.i .u8 k), .d (.i .i64 n), .d (.s s), .d (.sl true m cs)] := by rw [← htm]; rfl
  clear htm
  have hr4 : readN [AV.d (.i .u8 k), .d (.i .i64 n), .d (.s s), .d (.sl true m cs)] 0 4 = some [.d (.i .u8 k), .d (.i .i64 n), .d (.s s), .d (.sl true m cs)] := rfl
  unfold a20
  refine .seq (.reg ?_)
  simp [-Int.ofNat_eq_natCast, wpO, wanted, stepA, s_box, s_mv, X.ev, t0, cellsOf, okCells, Abs.isAgg, setD, Then]
  refine .seq (.reg ?_)
  obtain ⟨r, hcal⟩ := parts_ok h46 hv 20 (Heap.empty.push (Blk.cells false 24 [AV.d (DV.i IntKind.u8 k), AV.d (DV.i IntKind.i64 n), AV.d (DV.s s), AV.d (DV.sl true m cs)])) (by omega)
  simp [-Int.ofNat_eq_natCast, wpO, wanted, stepA, s_mv, s_load, s_callf, loadA, Heap.get_push, hr4, one, X.ev, setD, getL_put, setL_length, hlen, Then, ov]
  refine ⟨_, _, hcal, ?_⟩
  simp [-Int.ofNat_eq_natCast, s_bin, binA, intA, arith, arith2, mkB, kindEq, inj1, X.ev, getL_put, setL_length, hlen, ov]
  refine .ret ?_
  exact .ret (.b (!iLt 400 r)) (.mk _) (by simp [Abs.results, resL, resV, getL_put, setL_length, hlen, inj1])

/-- Cells of an item. -/
inductive IT : List DV → Prop
  | mk (nm : List UInt8) (k : Int) (am : Nat) (acs : List DV) (ov : List UInt8) (w q : Int) : IT [.s nm, .i .u8 k, .sl true am acs, .s ov, .i .i64 w, .i .i64 q]

/-- Between the rounds over the items. -/
structure FInv (O : List DV) (fm : Nat) (fcs : List DV) (n : Nat) (tm : List AV) (_h : Heap) : Prop where
  len : tm.length = 60
  t0 : getL tm 0 = .d (.sl true 1 O)
  t1 : getL tm 1 = .d (.i .i64 1)
  t10 : getL tm 10 = .d (.i .i64 1)
  t11 : getL tm 11 = .d (.i .i64 0)
  t32 : getL tm 32 = .d (.sl true fm fcs)
  t33 : getL tm 33 = .d (.i .i64 (.ofNat fm))
  ex : ∃ j, j + n = fm ∧ getL tm 34 = .d (.i .i64 (.ofNat j))

theorem few_ok (h46 : E.fn 46 = some a46) (h20 : E.fn 20 = some a20) (h4 : E.fn 4 = some a4) {w : Int} {id : List UInt8} {tok k n q : Int} {s : List UInt8} {m : Nat} {cs : List DV} {fm : Nat} {fcs : List DV}
    (hv : VT [.i .u8 k, .i .i64 n, .s s, .sl true m cs]) (hfm : fm ≤ 9223372036854775807) (hfl : fcs.length = fm * 6) (hf : ∀ i, i < fm → IT ((fcs.drop (i * 6)).take 6)) (args : List AV) (h : Heap) {bor : Bool}
    (ha : stripArgs h args = some ([.sl true 1 [.i .u8 w, .s id, .i .i64 tok, .i .u8 k, .i .i64 n, .s s, .sl true m cs, .sl true fm fcs, .i .i64 q], .i .i64 1], bor)) : ∃ r, Cal E 4 args h (.nrm, .d (.b r), h) := by
  have goal := Cal.wpx (Good := IsB) h4 rfl ha (by rintro x ⟨r, rfl⟩ h1; exact (adopt_lit _ _ _).1 _) ?_
  · obtain ⟨x, ⟨r, rfl⟩, hc⟩ := goal
    exact ⟨r, hc⟩
  generalize hO : [DV.i .u8 w, .s id, .i .i64 tok, .i .u8 k, .i .i64 n, .s s, .sl true m cs, .sl true fm fcs, .i .i64 q] = O
  generalize htm : enterT a4.ntmps ([DV.sl true 1 O, .i .i64 1].map inj) = tm
  have hlen : tm.length = 60 := by rw [← htm]; rfl
  have t0 : getL tm 0 = .d (.sl true 1 O) := by rw [← htm]; rfl
  have t1 : getL tm 1 = .d (.i .i64 1) := by rw [← htm]; rfl
  clear htm
  unfold a4
  refine .seq (.reg ?_)
  simp [-Int.ofNat_eq_natCast, wpO, wanted, stepA, s_mv, X.ev, setD, Then]
  refine .seq (.seq (.reg ?_))
  simp [-Int.ofNat_eq_natCast, wpO, wanted, stepA, s_mv, s_len, lenOf, mkI, X.ev, t0, setD, getL_put, setL_length, hlen, Then]
  refine .blk (.loop1 ?_)
  refine .seq (.reg ?_)
  simp [-Int.ofNat_eq_natCast, wpO, wanted, stepA, s_bin, binA, intA, arith, arith2, mkB, kindEq, ov, X.ev, setD, getL_put, setL_length, hlen, Then]
  refine .seq (.cond (x := true) (by simp [X.ev, getL_put, setL_length, hlen]; rfl) (fun _ => .skip ?_) (fun e => by cases e))
  simp only [Then]
  refine .seq (.blk (.seq (.reg ?_)))
  have hrO : readN (O.map AV.d) (0 * 9) 9 = some (O.map .d) := by rw [← hO]; rfl
  have hput : putL [AV.d (DV.i IntKind.u8 0), AV.d (DV.s []), AV.d (DV.i IntKind.i64 0), AV.d (DV.i IntKind.u8 0), AV.d (DV.i IntKind.i64 0), AV.d (DV.s []), AV.nilsl, AV.nilsl, AV.d (DV.i IntKind.i64 0)] 0 (O.map AV.d) = O.map .d := by rw [← hO]; rfl
  have hag : (O.map AV.d).any Abs.isAgg = false := by rw [← hO]; rfl
  have hOl : (O.map AV.d).length = 9 := by rw [← hO]; rfl
  have c0 : Nat.blt 0 1 = true := rfl
  have c1 : Nat.beq 9 9 = true := rfl
  have c2 : Nat.ble (0 + 9) 9 = true := rfl
  simp [-Int.ofNat_eq_natCast, -List.map_map, -List.any_map, -List.length_map, wpO, wanted, stepA, s_iaS, s_load, s_alloc, s_store, storeA, natA, intA, loadA, Heap.get_push, hrO, hput, hag, hOl, c0, one, X.ev, setD, getL_put, setL_length, hlen, Then, ov, cellsOf]
  have hblk : ((Heap.empty.push (.cells false 27 [AV.d (DV.i IntKind.u8 0), AV.d (DV.s []), AV.d (DV.i IntKind.i64 0), AV.d (DV.i IntKind.u8 0), AV.d (DV.i IntKind.i64 0), AV.d (DV.s []), AV.nilsl, AV.nilsl, AV.d (DV.i IntKind.i64 0)])).set 0 (.cells false 27 (O.map AV.d))).get 0 = some (.cells false 27 (O.map .d)) := Heap.get_set_self (by rw [Heap.get_push]; exact if_pos rfl)
  generalize (Heap.empty.push (.cells false 27 [AV.d (DV.i IntKind.u8 0), AV.d (DV.s []), AV.d (DV.i IntKind.i64 0), AV.d (DV.i IntKind.u8 0), AV.d (DV.i IntKind.i64 0), AV.d (DV.s []), AV.nilsl, AV.nilsl, AV.d (DV.i IntKind.i64 0)])).set 0 (.cells false 27 (O.map AV.d)) = h2 at hblk ⊢
  have o7 : readN (O.map AV.d) 7 1 = some [.d (.sl true fm fcs)] := by rw [← hO]; rfl
  have o1 : readN (O.map AV.d) 1 1 = some [.d (.s id)] := by rw [← hO]; rfl
  have o3 : readN (O.map AV.d) 3 4 = some [.d (.i .u8 k), .d (.i .i64 n), .d (.s s), .d (.sl true m cs)] := by rw [← hO]; rfl
  obtain ⟨b3, hb3⟩ := shallow_ok h46 h20 hv h2
  -- whether the first looks refuse it
  have out : ∀ tm h, tm.length = 60 → RetQ E a4 IsB .ret (setL tm 4 (.d (.b false))) h := fun tm h hl => .ret (.b false) (.mk _) (by simp [a4, Abs.results, resL, resV, getL_put, hl, inj1])
  refine .seq (.seq (.reg ?_))
  cases e45 : iLt 45 (Int.ofNat fm) with
  | true =>
    simp [-Int.ofNat_eq_natCast, -List.map_map, -List.any_map, -List.length_map, wpO, wanted, stepA, s_mv, s_fadd, s_load, s_len, s_bin, s_pick, binA, intA, arith, arith2, mkB, mkI, boolA, kindEq, lenOf, loadA, hblk, o7, one, X.ev, setD, getL_put, setL_length, hlen, Then, ov, e45]
    refine .cond (x := true) (by simp [X.ev, getL_put, setL_length, hlen]) (fun _ => ?_) (fun e => by cases e)
    refine .seq (.reg ?_)
    simp [wpO, wanted, stepA, s_mv, X.ev, setD, Then]
    refine .ret ?_
    simp only [OutOf, Then]
    exact out _ _ (by simp [setL_length, hlen])
  | false =>
    cases e1000 : iLt 1000 (Int.ofNat id.length) with
    | true =>
      simp [-Int.ofNat_eq_natCast, -List.map_map, -List.any_map, -List.length_map, wpO, wanted, stepA, s_mv, s_fadd, s_load, s_len, s_bin, s_pick, strA, binA, intA, arith, arith2, mkB, mkI, boolA, kindEq, lenOf, loadA, hblk, o7, o1, one, X.ev, setD, getL_put, setL_length, hlen, Then, ov, e45, e1000]
      refine .cond (x := true) (by simp [X.ev, getL_put, setL_length, hlen]) (fun _ => ?_) (fun e => by cases e)
      refine .seq (.reg ?_)
      simp [wpO, wanted, stepA, s_mv, X.ev, setD, Then]
      refine .ret ?_
      simp only [OutOf, Then]
      exact out _ _ (by simp [setL_length, hlen])
    | false =>
      simp [-Int.ofNat_eq_natCast, -List.map_map, -List.any_map, -List.length_map, wpO, wanted, stepA, s_mv, s_fadd, s_load, s_len, s_bin, s_un, s_pick, s_callf, strA, binA, intA, arith, arith2, mkB, mkI, boolA, kindEq, lenOf, loadA, hblk, o7, o1, o3, one, X.ev, setD, getL_put, setL_length, hlen, Then, ov, e45, e1000]
      refine ⟨_, _, hb3, ?_⟩
      simp [-Int.ofNat_eq_natCast, unA]
      refine .cond (x := !b3) (by simp [X.ev, getL_put, setL_length, hlen]) (fun _ => ?_) (fun _ => ?_)
      · refine .seq (.reg ?_)
        simp [wpO, wanted, stepA, s_mv, X.ev, setD, Then]
        refine .ret ?_
        simp only [OutOf, Then]
        exact out _ _ (by simp [setL_length, hlen])
      refine .skip ?_
      simp only [Then]
      refine .seq (.reg ?_)
      simp [-Int.ofNat_eq_natCast, -List.map_map, -List.any_map, -List.length_map, wpO, wanted, stepA, s_mv, s_fadd, s_load, s_len, lenOf, loadA, hblk, o7, one, X.ev, setD, getL_put, setL_length, hlen, Then, ov]
      refine .blk (wpC.loop (FInv O fm fcs) ?_ fm _ _ ?_)
      · rintro rem tm h1 ⟨hlen, t0, t1, t10, t11, t32, t33, j, hj, t34⟩
        refine .seq (.reg ?_)
        simp [-Int.ofNat_eq_natCast, wpO, wanted, stepA, s_bin, binA, intA, arith, arith2, mkB, kindEq, ov, X.ev, t33, t34, iLt, setD, Then]
        refine .seq (.cond (x := Nat.blt j fm) (by simp [X.ev, getL_put, hlen]) (fun hx => .skip ?_) (fun hx => .exit ?_))
        · have hjm : j < fm := by have := Nat.le_of_ble_eq_true hx; omega
          simp only [Then]
          refine .seq (.blk (.seq (.reg ?_)))
          have hit := hf j hjm
          have hra := fun l hl' => readN_at (l := l) hfl hjm hl'
          generalize (fcs.drop (j * 6)).take 6 = vs' at hit hra
          cases hit with
          | mk nm ik am acs iov iw iq =>
          have hra := hra _ rfl
          simp only [List.map_cons, List.map_nil] at hra
          have hput : putL [.d (.s []), .d (.i .u8 0), .nilsl, .d (.s []), .d (.i .i64 0), .d (.i .i64 0)] 0 [.d (.s nm), .d (.i .u8 ik), .d (.sl true am acs), .d (.s iov), .d (.i .i64 iw), .d (.i .i64 iq)] = [.d (.s nm), .d (.i .u8 ik), .d (.sl true am acs), .d (.s iov), .d (.i .i64 iw), .d (.i .i64 iq)] := rfl
          simp [-Int.ofNat_eq_natCast, wpO, wanted, stepA, s_iaS, s_load, s_alloc, s_store, storeA, natA, intA, loadA, Heap.get_push, hra, hput, one, X.ev, setD, getL_put, setL_length, hlen, t32, t34, Then, ov, hx, cellsOf, Abs.isAgg]
          refine .seq (.reg ?_)
          have hblk : ((h1.push (.cells false 78 [AV.d (DV.s []), AV.d (DV.i IntKind.u8 0), AV.nilsl, AV.d (DV.s []), AV.d (DV.i IntKind.i64 0), AV.d (DV.i IntKind.i64 0)])).set h1.n (.cells false 78 [.d (.s nm), .d (.i .u8 ik), .d (.sl true am acs), .d (.s iov), .d (.i .i64 iw), .d (.i .i64 iq)])).get h1.n = some (.cells false 78 [.d (.s nm), .d (.i .u8 ik), .d (.sl true am acs), .d (.s iov), .d (.i .i64 iw), .d (.i .i64 iq)]) := Heap.get_set_self (by rw [Heap.get_push]; exact if_pos rfl)
          generalize (h1.push (.cells false 78 [AV.d (DV.s []), AV.d (DV.i IntKind.u8 0), AV.nilsl, AV.d (DV.s []), AV.d (DV.i IntKind.i64 0), AV.d (DV.i IntKind.i64 0)])).set h1.n (.cells false 78 [.d (.s nm), .d (.i .u8 ik), .d (.sl true am acs), .d (.s iov), .d (.i .i64 iw), .d (.i .i64 iq)]) = h3 at hblk ⊢
          have q2 : readN [AV.d (.s nm), .d (.i .u8 ik), .d (.sl true am acs), .d (.s iov), .d (.i .i64 iw), .d (.i .i64 iq)] 2 1 = some [.d (.sl true am acs)] := rfl
          have q0 : readN [AV.d (.s nm), .d (.i .u8 ik), .d (.sl true am acs), .d (.s iov), .d (.i .i64 iw), .d (.i .i64 iq)] 0 1 = some [.d (.s nm)] := rfl
          have q3 : readN [AV.d (.s nm), .d (.i .u8 ik), .d (.sl true am acs), .d (.s iov), .d (.i .i64 iw), .d (.i .i64 iq)] 3 1 = some [.d (.s iov)] := rfl
          cases e25 : iLt 25 (Int.ofNat am) with
          | true =>
            simp [-Int.ofNat_eq_natCast, wpO, wanted, stepA, s_mv, s_fadd, s_load, s_len, s_bin, s_pick, binA, intA, arith, arith2, mkB, mkI, boolA, kindEq, lenOf, loadA, hblk, q2, one, X.ev, setD, getL_put, setL_length, hlen, Then, ov, e25]
            refine .cond (x := true) (by simp [X.ev, getL_put, setL_length, hlen]) (fun _ => ?_) (fun e => by cases e)
            refine .seq (.reg ?_)
            simp [wpO, wanted, stepA, s_mv, X.ev, setD, Then]
            refine .ret ?_
            simp only [OutOf, Then, Round]
            exact out _ _ (by simp [setL_length, hlen])
          | false =>
          cases e100 : iLt 100 (Int.ofNat nm.length) with
          | true =>
            simp [-Int.ofNat_eq_natCast, wpO, wanted, stepA, s_mv, s_fadd, s_load, s_len, s_bin, s_pick, strA, binA, intA, arith, arith2, mkB, mkI, boolA, kindEq, lenOf, loadA, hblk, q2, q0, one, X.ev, setD, getL_put, setL_length, hlen, Then, ov, e25, e100]
            refine .cond (x := true) (by simp [X.ev, getL_put, setL_length, hlen]) (fun _ => ?_) (fun e => by cases e)
            refine .seq (.reg ?_)
            simp [wpO, wanted, stepA, s_mv, X.ev, setD, Then]
            refine .ret ?_
            simp only [OutOf, Then, Round]
            exact out _ _ (by simp [setL_length, hlen])
          | false =>
          cases e101 : iLt 100 (Int.ofNat iov.length) with
          | true =>
            simp [-Int.ofNat_eq_natCast, wpO, wanted, stepA, s_mv, s_fadd, s_load, s_len, s_bin, s_pick, strA, binA, intA, arith, arith2, mkB, mkI, boolA, kindEq, lenOf, loadA, hblk, q2, q0, q3, one, X.ev, setD, getL_put, setL_length, hlen, Then, ov, e25, e100, e101]
            refine .cond (x := true) (by simp [X.ev, getL_put, setL_length, hlen]) (fun _ => ?_) (fun e => by cases e)
            refine .seq (.reg ?_)
            simp [wpO, wanted, stepA, s_mv, X.ev, setD, Then]
            refine .ret ?_
            simp only [OutOf, Then, Round]
            exact out _ _ (by simp [setL_length, hlen])
          | false =>
            simp [-Int.ofNat_eq_natCast, wpO, wanted, stepA, s_mv, s_fadd, s_load, s_len, s_bin, s_pick, strA, binA, intA, arith, arith2, mkB, mkI, boolA, kindEq, lenOf, loadA, hblk, q2, q0, q3, one, X.ev, setD, getL_put, setL_length, hlen, Then, ov, e25, e100, e101]
            refine .cond (x := false) (by simp [X.ev, getL_put, setL_length, hlen]) (fun e => by cases e) (fun _ => ?_)
            refine .skip ?_
            simp only [OutOf, Then]
            refine .reg ?_
            have hadd : wrap .i64 (Int.ofNat j + 1) = Int.ofNat (j + 1) := by
              have : Int.ofNat j + 1 = Int.ofNat (j + 1) := rfl
              rw [this]
              have : inR .i64 (Int.ofNat (j + 1)) = true := by
                show Nat.blt (j + 1) _ = true
                exact Nat.ble_eq_true_of_le (by omega)
              unfold wrap; rw [this]
            simp [-Int.ofNat_eq_natCast, wpO, wanted, stepA, s_mv, s_bin, binA, intA, arith, arith2, mkZ, kindEq, X.ev, setD, getL_put, setL_length, hlen, t34, ov, hadd, Round]
            refine ⟨rem - 1, by omega, by simp [setL_length, hlen], ?_, ?_, ?_, ?_, ?_, ?_, j + 1, by omega, ?_⟩
            all_goals simp [getL_put, setL_length, hlen, t0, t1, t10, t11, t32, t33]
        · simp only [Then, Round, OutOf, if_true]
          refine .reg ?_
          have hw1 : wrap .i64 (0 + 1) = 1 := rfl
          simp [-Int.ofNat_eq_natCast, wpO, wanted, stepA, s_mv, s_bin, binA, intA, arith, arith2, mkZ, kindEq, X.ev, setD, getL_put, setL_length, hlen, t11, Then, ov]
          refine .loop1 (.seq (.reg ?_))
          simp [-Int.ofNat_eq_natCast, wpO, wanted, stepA, s_bin, binA, intA, arith, arith2, mkB, kindEq, X.ev, setD, getL_put, setL_length, hlen, t10, Then, ov]
          refine .seq (.cond (x := false) (by simp [X.ev, getL_put, setL_length, hlen]; rfl) (fun e => by cases e) (fun _ => .exit ?_))
          simp only [Then, OutOf, if_true]
          refine .seq (.reg ?_)
          simp [-Int.ofNat_eq_natCast, wpO, wanted, stepA, s_mv, s_bin, s_len, lenOf, mkI, binA, intA, arith, arith2, mkB, kindEq, X.ev, setD, getL_put, setL_length, hlen, t0, t1, Then, ov]
          refine .ret ?_
          exact .ret (.b true) (.mk _) (by simp [Abs.results, resL, resV, getL_put, setL_length, hlen, inj1]; rfl)
      · refine ⟨by simp [setL_length, hlen], ?_, ?_, ?_, ?_, ?_, ?_, 0, by omega, ?_⟩
        all_goals simp [getL_put, setL_length, hlen, t0, t1, mkI]
end
end
end Go.Proofs.YtaadeimkgmccaaaGreatDoor
