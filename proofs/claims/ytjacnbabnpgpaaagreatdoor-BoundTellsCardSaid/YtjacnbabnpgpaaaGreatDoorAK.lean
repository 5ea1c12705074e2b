/- Contracts: the document's fragments and operations, as bytes. -/
import Derived.Test.YtjacnbabnpgpaaaGreatDoorAJ
import Derived.Test.YtjacnbabnpgpaaaGreatDoorY
namespace Go.Proofs.YtjacnbabnpgpaaaGreatDoor
noncomputable section
open Go Go.Abs
set_option maxRecDepth 100000
theorem refFragB_ok {h : Heap} {fb : Bool} {l : List ItemS} {fcs : List DV} (hl : fcs.length = l.length * 6) (hcs : ∀ i (hi : i < l.length), ItemR l[i] (chunk fcs 6 i)) (hlen : (fragB l).length ≤ 60000000000000) : Cal E f_foremanref09_Bytes [.d (.sl fb l.length fcs)] h (.nrm, ownB h (fragB l), ownH h) := by
  have hll := numB_len (.ofNat l.length)
  have hil := itemsB_len l
  have hfl : (fragB l).length = (numB (.ofNat l.length)).length + (itemsB l).length := by rw [fragB, List.length_append]
  refine .w n_foremanref09_Bytes rfl (ds := [.sl fb l.length fcs]) (bor := false) rfl ?_
  refine .call (refNum_ok (h := .empty) (n := .ofNat l.length) (nat64 (by omega)).1 (nat64 (by omega)).2) (by kernel_rfl) ?_
  refine .loop true (fun m tm g => ∃ i v, i + m = l.length ∧ FA t_uint8 (numB (.ofNat l.length) ++ itemsB (l.take i)).length (bytesD (numB (.ofNat l.length) ++ itemsB (l.take i))) v g ∧ St 71 [(0, .d (.sl fb l.length fcs)), (3, v), (4, mkI i)] tm) l.length (by kernel_rfl)
    ⟨0, ownB .empty (numB (.ofNat l.length)), by omega, ?_, .of (by kernel_rfl) ⟨by kernel_rfl, by kernel_rfl, by kernel_rfl, trivial⟩⟩ ?_
  · rw [List.take_zero, show itemsB [] = [] from rfl, List.append_nil]
    have : ∀ x : Heap, x = ownH .empty → FA t_uint8 (numB (.ofNat l.length)).length (bytesD (numB (.ofNat l.length))) (ownB .empty (numB (.ofNat l.length))) x := fun x e => e ▸ .inr ⟨_, _, rfl, push_n .empty _⟩
    exact this _ (by kernel_rfl)
  rintro m tm g ⟨i, v, him, hf, g', rfl⟩
  refine .br (iLt (.ofNat i) (.ofNat l.length)) (by kernel_rfl) (fun e => ?_) (fun e => ?_)
  rotate_left
  · have : m = 0 := by rw [iLt_not] at e; simp only [Int.ofNat_eq_natCast] at e; omega
    subst this
    have hin : i = l.length := by omega
    subst hin
    rw [List.take_length, show numB (.ofNat l.length) ++ itemsB l = fragB l from rfl] at hf
    refine .out true 1 (by kernel_rfl) ?_
    obtain ⟨t, gg, rfl, ht⟩ := hf.app (by omega)
    exact .retF ht (cleanL_bytes _) (by kernel_rfl) (by kernel_rfl)
  have hi : i < l.length := by rw [iLt_iff] at e; simpa using e
  obtain ⟨m, rfl⟩ : ∃ k, m = k + 1 := ⟨m - 1, by omega⟩
  have hld := load_bx E (b := fb) hl hi
  obtain ⟨ab, hlit, hk8, hw64, hq64⟩ := hcs i hi
  have hpre : itemsB l = itemsB (l.take i) ++ (itemB l[i] ++ itemsB (l.drop (i + 1))) := by
    conv => lhs; rw [← List.take_append_drop i l, List.drop_eq_getElem_cons hi, itemsB_append]
    rfl
  have hnext : numB (.ofNat l.length) ++ itemsB (l.take i) ++ itemB l[i] = numB (.ofNat l.length) ++ itemsB (l.take (i + 1)) := by
    rw [List.take_add_one, List.getElem?_eq_getElem hi, itemsB_append, List.append_assoc]
    simp only [Option.toList, itemsB, List.append_nil]
  generalize l[i] = x at hlit hk8 hw64 hq64 hpre hnext
  obtain ⟨name, kind, after, over, width, quota⟩ := x
  simp only at hlit hk8 hw64 hq64
  rw [hlit] at hld
  have hpl := congrArg List.length hpre
  rw [List.length_append, List.length_append] at hpl
  have hib : (itemB ⟨name, kind, after, over, width, quota⟩).length = (textB name).length + (numB kind).length + (numB (.ofNat after.length)).length + (strsB after).length + (numB quota).length + (if kind = 1 then textB over ++ numB width else []).length := by
    simp only [itemB, List.length_append]
  have hn1 := textB_len name
  have hn2 := numB_len kind
  have hn3 := numB_len (.ofNat after.length)
  have hn4 := strsB_len after
  have hn5 := numB_len quota
  have hwk : wrap .i64 kind = kind := wrap_R8 hk8
  refine .opv (iaS_sl (k := .i64) (z := 6) (b := fb) (n := l.length) (cs := fcs) (j := i) rfl hi) (by kernel_rfl) ?_
  refine .opv hld (by kernel_rfl) ?_
  have q1 := push_n g (.cells false t_Item itZ)
  refine .op (store_ptr (n := 6) (off := 0) (x := .agg (itA name kind ab after over width quota)) q1 rfl) (by kernel_rfl) ?_
  have q2 := Heap.get_set_self (b' := .cells false t_Item (itA name kind ab after over width quota)) q1
  have f0 : FA t_uint8 (numB (.ofNat l.length) ++ itemsB (l.take i)).length (bytesD (numB (.ofNat l.length) ++ itemsB (l.take i))) v (hI g (itA name kind ab after over width quota)) := hf.keep fun t gg ht => by rw [Heap.get_set_ne (by have := get_lt ht; omega)]; exact (push_of ht _).trans ht.symm
  refine .op (load_ptr E (ag := false) (n := 1) (off := 0) q2 rfl rfl) (by kernel_rfl) ?_
  refine .call (refText_ok (h := (hI g (itA name kind ab after over width quota))) (s := name) (by omega)) (by kernel_rfl) ?_
  obtain ⟨v1, g1, s1, f1, k1⟩ := app_own (bs2 := textB name) f0 (by simp only [List.length_append]; omega)
  refine .op s1 (by kernel_rfl) ?_
  have r1 := k1 _ _ _ q2
  refine .op (load_ptr E (ag := false) (n := 1) (off := 1) r1 rfl rfl) (by kernel_rfl) ?_
  have hN : Cal E f_foremanref07_Num [.d (.i .i64 (wrap .i64 kind))] g1 (.nrm, ownB g1 (numB kind), ownH g1) := by
    rw [hwk]; exact refNum_ok (by have := hk8.1; omega) (by have := hk8.2; omega)
  refine .call hN (by kernel_rfl) ?_
  obtain ⟨v2, g2, s2, f2, k2⟩ := app_own (bs2 := numB kind) f1 (by simp only [List.length_append]; omega)
  refine .op s2 (by kernel_rfl) ?_
  have r2 := k2 _ _ _ r1
  refine .op (load_ptr E (ag := false) (n := 1) (off := 2) r2 rfl rfl) (by kernel_rfl) ?_
  refine .call (refNum_ok (h := g2) (n := .ofNat after.length) (nat64 (by omega)).1 (nat64 (by omega)).2) (by kernel_rfl) ?_
  obtain ⟨v3, g3, s3, f3, k3⟩ := app_own (bs2 := numB (.ofNat after.length)) f2 (by simp only [List.length_append]; omega)
  refine .op s3 (by kernel_rfl) ?_
  have r3 := k3 _ _ _ r2
  refine .loop true (fun m tm fh => ∃ j u, j + m = after.length ∧ fh.get g.n = some (.cells false t_Item (itA name kind ab after over width quota)) ∧ FA t_uint8 (numB (.ofNat l.length) ++ itemsB (l.take i) ++ textB name ++ numB kind ++ numB (.ofNat after.length) ++ strsB (after.take j)).length (bytesD (numB (.ofNat l.length) ++ itemsB (l.take i) ++ textB name ++ numB kind ++ numB (.ofNat after.length) ++ strsB (after.take j))) u fh ∧ St 71 [(0, .d (.sl fb l.length fcs)), (3, u), (4, mkI i), (5, .ptr g.n 0), (6, mkI j)] tm) after.length (by kernel_rfl)
    ⟨0, v3, by omega, Eq.trans (b := g3.get g.n) (by kernel_rfl) r3, ?_, .of (by kernel_rfl) ⟨by kernel_rfl, by kernel_rfl, by kernel_rfl, by kernel_rfl, by kernel_rfl, trivial⟩⟩ ?_
  · rw [List.take_zero, show strsB [] = [] from rfl, List.append_nil]
    have : ∀ x : Heap, x = g3 → FA t_uint8 (numB (.ofNat l.length) ++ itemsB (l.take i) ++ textB name ++ numB kind ++ numB (.ofNat after.length)).length (bytesD (numB (.ofNat l.length) ++ itemsB (l.take i) ++ textB name ++ numB kind ++ numB (.ofNat after.length))) v3 x := fun x e => e ▸ f3
    exact this _ (by kernel_rfl)
  rintro r tm fh ⟨j, u, hjr, qf, fu, g'', rfl⟩
  refine .op (load_ptr E (ag := false) (n := 1) (off := 2) qf rfl rfl) (by kernel_rfl) ?_
  refine .br (iLt (.ofNat j) (.ofNat after.length)) (by kernel_rfl) (fun e => ?_) (fun e => ?_)
  · have hj : j < after.length := by rw [iLt_iff] at e; simpa using e
    obtain ⟨r, rfl⟩ : ∃ k, r = k + 1 := ⟨r - 1, by omega⟩
    have hsp : strsB after = strsB (after.take j) ++ (textB after[j] ++ strsB (after.drop (j + 1))) := by
      conv => lhs; rw [← List.take_append_drop j after, List.drop_eq_getElem_cons hj, strsB_append]
      rfl
    have hsl := congrArg List.length hsp
    rw [List.length_append, List.length_append] at hsl
    have hn6 := textB_len after[j]
    have hsn : numB (.ofNat l.length) ++ itemsB (l.take i) ++ textB name ++ numB kind ++ numB (.ofNat after.length) ++ strsB (after.take j) ++ textB after[j] = numB (.ofNat l.length) ++ itemsB (l.take i) ++ textB name ++ numB kind ++ numB (.ofNat after.length) ++ strsB (after.take (j + 1)) := by
      rw [List.take_add_one, List.getElem?_eq_getElem hj, strsB_append, List.append_assoc]
      simp only [Option.toList, strsB, List.append_nil]
    refine .op (load_ptr E (ag := false) (n := 1) (off := 2) qf rfl rfl) (by kernel_rfl) ?_
    refine .opv (iaS_sl (k := .i64) (z := 1) (b := ab) (n := after.length) (cs := after.map .s) (j := j) rfl hj) (by kernel_rfl) ?_
    refine .opv (load_bx1 E (b := ab) (cs := after.map .s) (j := j) (x := .s after[j]) (by rw [List.getElem?_map, List.getElem?_eq_getElem hj]; rfl)) (by kernel_rfl) ?_
    refine .call (refText_ok (h := fh) (s := after[j]) (by omega)) (by kernel_rfl) ?_
    obtain ⟨v', g2, hs, hf2, hk⟩ := app_own (bs2 := textB after[j]) fu (by simp only [List.length_append]; omega)
    refine .op hs (by kernel_rfl) ?_
    rw [hsn] at hf2
    refine .next r (by kernel_rfl) (by omega) ⟨j + 1, v', by omega, Eq.trans (b := g2.get g.n) (by kernel_rfl) (hk _ _ _ qf), ?_, .of (by kernel_rfl) ⟨by kernel_rfl, by kernel_rfl, by kernel_rfl, by kernel_rfl, ?_, trivial⟩⟩
    · have : ∀ x : Heap, x = g2 → FA t_uint8 (numB (.ofNat l.length) ++ itemsB (l.take i) ++ textB name ++ numB kind ++ numB (.ofNat after.length) ++ strsB (after.take (j + 1))).length (bytesD (numB (.ofNat l.length) ++ itemsB (l.take i) ++ textB name ++ numB kind ++ numB (.ofNat after.length) ++ strsB (after.take (j + 1)))) v' x := fun x e => e ▸ hf2
      exact this _ (by kernel_rfl)
    · exact Eq.trans (b := .d (.i .i64 (wrap .i64 (.ofNat j + 1)))) (by kernel_rfl) (inc63 (by omega))
  have : r = 0 := by rw [iLt_not] at e; simp only [Int.ofNat_eq_natCast] at e; omega
  subst this
  have hja : j = after.length := by omega
  subst hja
  rw [List.take_length] at fu
  refine .out true 3 (by kernel_rfl) ?_
  refine .op (load_ptr E (ag := false) (n := 1) (off := 5) qf rfl rfl) (by kernel_rfl) ?_
  refine .call (refNum_ok (h := fh) hq64.1 hq64.2) (by kernel_rfl) ?_
  obtain ⟨v4, g4, s4, f4, k4⟩ := app_own (bs2 := numB quota) fu (by simp only [List.length_append]; omega)
  refine .op s4 (by kernel_rfl) ?_
  have r4 := k4 _ _ _ qf
  refine .op (load_ptr E (ag := false) (n := 1) (off := 1) r4 rfl rfl) (by kernel_rfl) ?_
  refine .br (iEq kind 1) (by kernel_rfl) (fun e1 => ?_) (fun e1 => ?_)
  · have e1 := iEq_iff.1 e1
    rw [if_pos e1, List.length_append] at hib
    have hn7 := textB_len over
    have hn8 := numB_len width
    have hiE : numB (.ofNat l.length) ++ itemsB (l.take i) ++ textB name ++ numB kind ++ numB (.ofNat after.length) ++ strsB after ++ numB quota ++ textB over ++ numB width = numB (.ofNat l.length) ++ itemsB (l.take i) ++ itemB ⟨name, kind, after, over, width, quota⟩ := by
      rw [itemB, if_pos e1]; simp only [List.append_assoc]
    refine .op (load_ptr E (ag := false) (n := 1) (off := 3) r4 rfl rfl) (by kernel_rfl) ?_
    refine .call (refText_ok (h := g4) (s := over) (by omega)) (by kernel_rfl) ?_
    obtain ⟨v5, g5, s5, f5, k5⟩ := app_own (bs2 := textB over) f4 (by simp only [List.length_append]; omega)
    refine .op s5 (by kernel_rfl) ?_
    have r5 := k5 _ _ _ r4
    refine .op (load_ptr E (ag := false) (n := 1) (off := 4) r5 rfl rfl) (by kernel_rfl) ?_
    refine .call (refNum_ok (h := g5) hw64.1 hw64.2) (by kernel_rfl) ?_
    obtain ⟨v6, g6, s6, f6, k6⟩ := app_own (bs2 := numB width) f5 (by simp only [List.length_append]; omega)
    refine .op s6 (by kernel_rfl) ?_
    have r6 := k6 _ _ _ r5
    rw [hiE, hnext] at f6
    refine .next m (by kernel_rfl) (by omega) ⟨i + 1, v6, by omega, ?_, .of (by kernel_rfl) ⟨by kernel_rfl, by kernel_rfl, ?_, trivial⟩⟩
    · have : ∀ x : Heap, x = g6 → FA t_uint8 (numB (.ofNat l.length) ++ itemsB (l.take (i + 1))).length (bytesD (numB (.ofNat l.length) ++ itemsB (l.take (i + 1)))) v6 x := fun x e => e ▸ f6
      exact this _ (by kernel_rfl)
    · exact Eq.trans (b := .d (.i .i64 (wrap .i64 (.ofNat i + 1)))) (by kernel_rfl) (inc63 (by omega))
  · have e1 := iEq_not.1 e1
    have hiE : numB (.ofNat l.length) ++ itemsB (l.take i) ++ textB name ++ numB kind ++ numB (.ofNat after.length) ++ strsB after ++ numB quota = numB (.ofNat l.length) ++ itemsB (l.take (i + 1)) := by
      rw [← hnext, itemB, if_neg e1]; simp only [List.append_assoc, List.append_nil]
    rw [hiE] at f4
    refine .next m (by kernel_rfl) (by omega) ⟨i + 1, v4, by omega, ?_, .of (by kernel_rfl) ⟨by kernel_rfl, by kernel_rfl, ?_, trivial⟩⟩
    · have : ∀ x : Heap, x = g4 → FA t_uint8 (numB (.ofNat l.length) ++ itemsB (l.take (i + 1))).length (bytesD (numB (.ofNat l.length) ++ itemsB (l.take (i + 1)))) v4 x := fun x e => e ▸ f4
      exact this _ (by kernel_rfl)
    · exact Eq.trans (b := .d (.i .i64 (wrap .i64 (.ofNat i + 1)))) (by kernel_rfl) (inc63 (by omega))
section
variable {w tok k n q : Int} {id vs : List UInt8} {vb : Bool} {vl : List ValS} {vcs : List DV} {fb : Bool} {l : List ItemS} {fcs : List DV}
theorem refOpB1 {h : Heap} (hv : ValR (.mk k n vs vl) [.i .u8 k, .i .i64 n, .s vs, .sl vb vl.length vcs]) (htk : R64 tok) (hq : R64 q) (hF1 : fcs.length = l.length * 6) (hF2 : ∀ i (hi : i < l.length), ItemR l[i] (chunk fcs 6 i)) (hlen : (opB (oO 1 tok k n q id vs vl l)).length ≤ 100000) : Cal E f_foremanref10_Bytes [.agg (aO 1 tok k n q id vs vb vl vcs fb l fcs)] h (.nrm, ownB h (opB (oO 1 tok k n q id vs vl l)), ownH h) := by
  rw [opB1 rfl] at hlen ⊢
  simp only [List.length_append] at hlen
  have hw1 := numB_len 1
  refine .w n_foremanref10_Bytes rfl (ds := [.agg (dO 1 tok k n q id vs vb vl vcs fb l fcs)]) (bor := false) rfl ?_
  refine .call (refNum_ok (h := (Heap.empty.push (.cells false t_Op (aO 1 tok k n q id vs vb vl vcs fb l fcs)))) (n := 1) (by omega) (by omega)) (by kernel_rfl) ?_
  refine .br true (by kernel_rfl) (fun _ => ?_) (fun e => by cases e)
  refine .call (refFragB_ok (h := (ownH (Heap.empty.push (.cells false t_Op (aO 1 tok k n q id vs vb vl vcs fb l fcs))))) (fb := fb) hF1 hF2 (by omega)) (by kernel_rfl) ?_
  refine .op (app_tok (h := ownH (ownH (Heap.empty.push (.cells false t_Op (aO 1 tok k n q id vs vb vl vcs fb l fcs))))) (t := 1) (g := 0) (n := (numB 1).length) (k := (fragB l).length) (cs := bytesD (numB 1)) (l := bytesD (fragB l)) (y := ownB (ownH (Heap.empty.push (.cells false t_Op (aO 1 tok k n q id vs vb vl vcs fb l fcs)))) (fragB l)) rfl (rowView_bytes _) (by have := (show 1 ≤ (fragB l).length from by have := (numB_len (.ofNat l.length)).1; rw [fragB, List.length_append]; omega); omega) (by (try simp only [List.length_append]); omega) (okCells_bytes _)) (by kernel_rfl) ?_
  rw [← bytesD_append, ← List.length_append]
  refine .call (refNum_ok (h := ((ownH (ownH (Heap.empty.push (.cells false t_Op (aO 1 tok k n q id vs vb vl vcs fb l fcs))))).set 1 (.tok 1 t_uint8))) hq.1 hq.2) (by kernel_rfl) ?_
  refine .op (app_tok (h := ownH ((ownH (ownH (Heap.empty.push (.cells false t_Op (aO 1 tok k n q id vs vb vl vcs fb l fcs))))).set 1 (.tok 1 t_uint8))) (t := 1) (g := 1) (n := (numB 1 ++ fragB l).length) (k := (numB q).length) (cs := bytesD (numB 1 ++ fragB l)) (l := bytesD (numB q)) (y := ownB ((ownH (ownH (Heap.empty.push (.cells false t_Op (aO 1 tok k n q id vs vb vl vcs fb l fcs))))).set 1 (.tok 1 t_uint8)) (numB q)) rfl (rowView_bytes _) (by have := (numB_len q).1; omega) (by (try simp only [List.length_append]); omega) (okCells_bytes _)) (by kernel_rfl) ?_
  rw [← bytesD_append, ← List.length_append]
  exact .retF (t := 1) (g := 2) (h1 := ((ownH ((ownH (ownH (Heap.empty.push (.cells false t_Op (aO 1 tok k n q id vs vb vl vcs fb l fcs))))).set 1 (.tok 1 t_uint8))).set 1 (.tok 2 t_uint8))) rfl (cleanL_bytes _) (by kernel_rfl) (by kernel_rfl)
theorem refOpB2 {h : Heap} (hv : ValR (.mk k n vs vl) [.i .u8 k, .i .i64 n, .s vs, .sl vb vl.length vcs]) (htk : R64 tok) (hq : R64 q) (hF1 : fcs.length = l.length * 6) (hF2 : ∀ i (hi : i < l.length), ItemR l[i] (chunk fcs 6 i)) (hlen : (opB (oO 2 tok k n q id vs vl l)).length ≤ 100000) : Cal E f_foremanref10_Bytes [.agg (aO 2 tok k n q id vs vb vl vcs fb l fcs)] h (.nrm, ownB h (opB (oO 2 tok k n q id vs vl l)), ownH h) := by
  rw [opB2 rfl] at hlen ⊢
  simp only [List.length_append] at hlen
  have hw1 := numB_len 2
  refine .w n_foremanref10_Bytes rfl (ds := [.agg (dO 2 tok k n q id vs vb vl vcs fb l fcs)]) (bor := false) rfl ?_
  refine .call (refNum_ok (h := (Heap.empty.push (.cells false t_Op (aO 2 tok k n q id vs vb vl vcs fb l fcs)))) (n := 2) (by omega) (by omega)) (by kernel_rfl) ?_
  refine .br false (by kernel_rfl) (fun e => by cases e) (fun _ => ?_)
  refine .call (refText_ok (h := (ownH (Heap.empty.push (.cells false t_Op (aO 2 tok k n q id vs vb vl vcs fb l fcs))))) (s := id) (by have := textB_len id; omega)) (by kernel_rfl) ?_
  refine .op (app_tok (h := ownH (ownH (Heap.empty.push (.cells false t_Op (aO 2 tok k n q id vs vb vl vcs fb l fcs))))) (t := 1) (g := 0) (n := (numB 2).length) (k := (textB id).length) (cs := bytesD (numB 2)) (l := bytesD (textB id)) (y := ownB (ownH (Heap.empty.push (.cells false t_Op (aO 2 tok k n q id vs vb vl vcs fb l fcs)))) (textB id)) rfl (rowView_bytes _) (by have := (textB_len id).1; omega) (by (try simp only [List.length_append]); omega) (okCells_bytes _)) (by kernel_rfl) ?_
  rw [← bytesD_append, ← List.length_append]
  refine .br false (by kernel_rfl) (fun e => by cases e) (fun _ => ?_)
  refine .br false (by kernel_rfl) (fun e => by cases e) (fun _ => ?_)
  refine .br false (by kernel_rfl) (fun e => by cases e) (fun _ => ?_)
  exact .retF (t := 1) (g := 1) (h1 := ((ownH (ownH (Heap.empty.push (.cells false t_Op (aO 2 tok k n q id vs vb vl vcs fb l fcs))))).set 1 (.tok 1 t_uint8))) rfl (cleanL_bytes _) (by kernel_rfl) (by kernel_rfl)
theorem refOpB3 {h : Heap} (hv : ValR (.mk k n vs vl) [.i .u8 k, .i .i64 n, .s vs, .sl vb vl.length vcs]) (htk : R64 tok) (hq : R64 q) (hF1 : fcs.length = l.length * 6) (hF2 : ∀ i (hi : i < l.length), ItemR l[i] (chunk fcs 6 i)) (hlen : (opB (oO 3 tok k n q id vs vl l)).length ≤ 100000) : Cal E f_foremanref10_Bytes [.agg (aO 3 tok k n q id vs vb vl vcs fb l fcs)] h (.nrm, ownB h (opB (oO 3 tok k n q id vs vl l)), ownH h) := by
  rw [opB3 rfl] at hlen ⊢
  simp only [List.length_append] at hlen
  have hw1 := numB_len 3
  refine .w n_foremanref10_Bytes rfl (ds := [.agg (dO 3 tok k n q id vs vb vl vcs fb l fcs)]) (bor := false) rfl ?_
  refine .call (refNum_ok (h := (Heap.empty.push (.cells false t_Op (aO 3 tok k n q id vs vb vl vcs fb l fcs)))) (n := 3) (by omega) (by omega)) (by kernel_rfl) ?_
  refine .br false (by kernel_rfl) (fun e => by cases e) (fun _ => ?_)
  refine .call (refText_ok (h := (ownH (Heap.empty.push (.cells false t_Op (aO 3 tok k n q id vs vb vl vcs fb l fcs))))) (s := id) (by have := textB_len id; omega)) (by kernel_rfl) ?_
  refine .op (app_tok (h := ownH (ownH (Heap.empty.push (.cells false t_Op (aO 3 tok k n q id vs vb vl vcs fb l fcs))))) (t := 1) (g := 0) (n := (numB 3).length) (k := (textB id).length) (cs := bytesD (numB 3)) (l := bytesD (textB id)) (y := ownB (ownH (Heap.empty.push (.cells false t_Op (aO 3 tok k n q id vs vb vl vcs fb l fcs)))) (textB id)) rfl (rowView_bytes _) (by have := (textB_len id).1; omega) (by (try simp only [List.length_append]); omega) (okCells_bytes _)) (by kernel_rfl) ?_
  rw [← bytesD_append, ← List.length_append]
  refine .br true (by kernel_rfl) (fun _ => ?_) (fun e => by cases e)
  refine .call (refNum_ok (h := ((ownH (ownH (Heap.empty.push (.cells false t_Op (aO 3 tok k n q id vs vb vl vcs fb l fcs))))).set 1 (.tok 1 t_uint8))) htk.1 htk.2) (by kernel_rfl) ?_
  refine .op (app_tok (h := ownH ((ownH (ownH (Heap.empty.push (.cells false t_Op (aO 3 tok k n q id vs vb vl vcs fb l fcs))))).set 1 (.tok 1 t_uint8))) (t := 1) (g := 1) (n := (numB 3 ++ textB id).length) (k := (numB tok).length) (cs := bytesD (numB 3 ++ textB id)) (l := bytesD (numB tok)) (y := ownB ((ownH (ownH (Heap.empty.push (.cells false t_Op (aO 3 tok k n q id vs vb vl vcs fb l fcs))))).set 1 (.tok 1 t_uint8)) (numB tok)) rfl (rowView_bytes _) (by have := (numB_len tok).1; omega) (by (try simp only [List.length_append]); omega) (okCells_bytes _)) (by kernel_rfl) ?_
  rw [← bytesD_append, ← List.length_append]
  refine .br true (by kernel_rfl) (fun _ => ?_) (fun e => by cases e)
  refine .call (args := [.agg (vA k n vs vb vl.length vcs)]) (refBytes_ok hv (by omega) ((ownH ((ownH (ownH (Heap.empty.push (.cells false t_Op (aO 3 tok k n q id vs vb vl vcs fb l fcs))))).set 1 (.tok 1 t_uint8))).set 1 (.tok 2 t_uint8))) (by kernel_rfl) ?_
  refine .op (app_tok (h := ownH ((ownH ((ownH (ownH (Heap.empty.push (.cells false t_Op (aO 3 tok k n q id vs vb vl vcs fb l fcs))))).set 1 (.tok 1 t_uint8))).set 1 (.tok 2 t_uint8))) (t := 1) (g := 2) (n := (numB 3 ++ textB id ++ numB tok).length) (k := (valB (.mk k n vs vl)).length) (cs := bytesD (numB 3 ++ textB id ++ numB tok)) (l := bytesD (valB (.mk k n vs vl))) (y := ownB ((ownH ((ownH (ownH (Heap.empty.push (.cells false t_Op (aO 3 tok k n q id vs vb vl vcs fb l fcs))))).set 1 (.tok 1 t_uint8))).set 1 (.tok 2 t_uint8)) (valB (.mk k n vs vl))) rfl (rowView_bytes _) (by have := valB_pos (.mk k n vs vl); omega) (by (try simp only [List.length_append]); omega) (okCells_bytes _)) (by kernel_rfl) ?_
  rw [← bytesD_append, ← List.length_append]
  refine .call (refFragB_ok (h := ((ownH ((ownH ((ownH (ownH (Heap.empty.push (.cells false t_Op (aO 3 tok k n q id vs vb vl vcs fb l fcs))))).set 1 (.tok 1 t_uint8))).set 1 (.tok 2 t_uint8))).set 1 (.tok 3 t_uint8))) (fb := fb) hF1 hF2 (by omega)) (by kernel_rfl) ?_
  refine .op (app_tok (h := ownH ((ownH ((ownH ((ownH (ownH (Heap.empty.push (.cells false t_Op (aO 3 tok k n q id vs vb vl vcs fb l fcs))))).set 1 (.tok 1 t_uint8))).set 1 (.tok 2 t_uint8))).set 1 (.tok 3 t_uint8))) (t := 1) (g := 3) (n := (numB 3 ++ textB id ++ numB tok ++ valB (.mk k n vs vl)).length) (k := (fragB l).length) (cs := bytesD (numB 3 ++ textB id ++ numB tok ++ valB (.mk k n vs vl))) (l := bytesD (fragB l)) (y := ownB ((ownH ((ownH ((ownH (ownH (Heap.empty.push (.cells false t_Op (aO 3 tok k n q id vs vb vl vcs fb l fcs))))).set 1 (.tok 1 t_uint8))).set 1 (.tok 2 t_uint8))).set 1 (.tok 3 t_uint8)) (fragB l)) rfl (rowView_bytes _) (by have := (show 1 ≤ (fragB l).length from by have := (numB_len (.ofNat l.length)).1; rw [fragB, List.length_append]; omega); omega) (by (try simp only [List.length_append]); omega) (okCells_bytes _)) (by kernel_rfl) ?_
  rw [← bytesD_append, ← List.length_append]
  exact .retF (t := 1) (g := 4) (h1 := ((ownH ((ownH ((ownH ((ownH (ownH (Heap.empty.push (.cells false t_Op (aO 3 tok k n q id vs vb vl vcs fb l fcs))))).set 1 (.tok 1 t_uint8))).set 1 (.tok 2 t_uint8))).set 1 (.tok 3 t_uint8))).set 1 (.tok 4 t_uint8))) rfl (cleanL_bytes _) (by kernel_rfl) (by kernel_rfl)
theorem refOpB4 {h : Heap} (hv : ValR (.mk k n vs vl) [.i .u8 k, .i .i64 n, .s vs, .sl vb vl.length vcs]) (htk : R64 tok) (hq : R64 q) (hF1 : fcs.length = l.length * 6) (hF2 : ∀ i (hi : i < l.length), ItemR l[i] (chunk fcs 6 i)) (hlen : (opB (oO 4 tok k n q id vs vl l)).length ≤ 100000) : Cal E f_foremanref10_Bytes [.agg (aO 4 tok k n q id vs vb vl vcs fb l fcs)] h (.nrm, ownB h (opB (oO 4 tok k n q id vs vl l)), ownH h) := by
  rw [opB4 rfl] at hlen ⊢
  simp only [List.length_append] at hlen
  have hw1 := numB_len 4
  refine .w n_foremanref10_Bytes rfl (ds := [.agg (dO 4 tok k n q id vs vb vl vcs fb l fcs)]) (bor := false) rfl ?_
  refine .call (refNum_ok (h := (Heap.empty.push (.cells false t_Op (aO 4 tok k n q id vs vb vl vcs fb l fcs)))) (n := 4) (by omega) (by omega)) (by kernel_rfl) ?_
  refine .br false (by kernel_rfl) (fun e => by cases e) (fun _ => ?_)
  refine .call (refText_ok (h := (ownH (Heap.empty.push (.cells false t_Op (aO 4 tok k n q id vs vb vl vcs fb l fcs))))) (s := id) (by have := textB_len id; omega)) (by kernel_rfl) ?_
  refine .op (app_tok (h := ownH (ownH (Heap.empty.push (.cells false t_Op (aO 4 tok k n q id vs vb vl vcs fb l fcs))))) (t := 1) (g := 0) (n := (numB 4).length) (k := (textB id).length) (cs := bytesD (numB 4)) (l := bytesD (textB id)) (y := ownB (ownH (Heap.empty.push (.cells false t_Op (aO 4 tok k n q id vs vb vl vcs fb l fcs)))) (textB id)) rfl (rowView_bytes _) (by have := (textB_len id).1; omega) (by (try simp only [List.length_append]); omega) (okCells_bytes _)) (by kernel_rfl) ?_
  rw [← bytesD_append, ← List.length_append]
  refine .br false (by kernel_rfl) (fun e => by cases e) (fun _ => ?_)
  refine .br true (by kernel_rfl) (fun _ => ?_) (fun e => by cases e)
  refine .call (refNum_ok (h := ((ownH (ownH (Heap.empty.push (.cells false t_Op (aO 4 tok k n q id vs vb vl vcs fb l fcs))))).set 1 (.tok 1 t_uint8))) htk.1 htk.2) (by kernel_rfl) ?_
  refine .op (app_tok (h := ownH ((ownH (ownH (Heap.empty.push (.cells false t_Op (aO 4 tok k n q id vs vb vl vcs fb l fcs))))).set 1 (.tok 1 t_uint8))) (t := 1) (g := 1) (n := (numB 4 ++ textB id).length) (k := (numB tok).length) (cs := bytesD (numB 4 ++ textB id)) (l := bytesD (numB tok)) (y := ownB ((ownH (ownH (Heap.empty.push (.cells false t_Op (aO 4 tok k n q id vs vb vl vcs fb l fcs))))).set 1 (.tok 1 t_uint8)) (numB tok)) rfl (rowView_bytes _) (by have := (numB_len tok).1; omega) (by (try simp only [List.length_append]); omega) (okCells_bytes _)) (by kernel_rfl) ?_
  rw [← bytesD_append, ← List.length_append]
  refine .br false (by kernel_rfl) (fun e => by cases e) (fun _ => ?_)
  exact .retF (t := 1) (g := 2) (h1 := ((ownH ((ownH (ownH (Heap.empty.push (.cells false t_Op (aO 4 tok k n q id vs vb vl vcs fb l fcs))))).set 1 (.tok 1 t_uint8))).set 1 (.tok 2 t_uint8))) rfl (cleanL_bytes _) (by kernel_rfl) (by kernel_rfl)
theorem refOpB5 {h : Heap} (hv : ValR (.mk k n vs vl) [.i .u8 k, .i .i64 n, .s vs, .sl vb vl.length vcs]) (htk : R64 tok) (hq : R64 q) (hF1 : fcs.length = l.length * 6) (hF2 : ∀ i (hi : i < l.length), ItemR l[i] (chunk fcs 6 i)) (hlen : (opB (oO 5 tok k n q id vs vl l)).length ≤ 100000) : Cal E f_foremanref10_Bytes [.agg (aO 5 tok k n q id vs vb vl vcs fb l fcs)] h (.nrm, ownB h (opB (oO 5 tok k n q id vs vl l)), ownH h) := by
  rw [opB5 rfl] at hlen ⊢
  simp only [List.length_append] at hlen
  have hw1 := numB_len 5
  refine .w n_foremanref10_Bytes rfl (ds := [.agg (dO 5 tok k n q id vs vb vl vcs fb l fcs)]) (bor := false) rfl ?_
  refine .call (refNum_ok (h := (Heap.empty.push (.cells false t_Op (aO 5 tok k n q id vs vb vl vcs fb l fcs)))) (n := 5) (by omega) (by omega)) (by kernel_rfl) ?_
  refine .br false (by kernel_rfl) (fun e => by cases e) (fun _ => ?_)
  refine .call (refText_ok (h := (ownH (Heap.empty.push (.cells false t_Op (aO 5 tok k n q id vs vb vl vcs fb l fcs))))) (s := id) (by have := textB_len id; omega)) (by kernel_rfl) ?_
  refine .op (app_tok (h := ownH (ownH (Heap.empty.push (.cells false t_Op (aO 5 tok k n q id vs vb vl vcs fb l fcs))))) (t := 1) (g := 0) (n := (numB 5).length) (k := (textB id).length) (cs := bytesD (numB 5)) (l := bytesD (textB id)) (y := ownB (ownH (Heap.empty.push (.cells false t_Op (aO 5 tok k n q id vs vb vl vcs fb l fcs)))) (textB id)) rfl (rowView_bytes _) (by have := (textB_len id).1; omega) (by (try simp only [List.length_append]); omega) (okCells_bytes _)) (by kernel_rfl) ?_
  rw [← bytesD_append, ← List.length_append]
  refine .br false (by kernel_rfl) (fun e => by cases e) (fun _ => ?_)
  refine .br false (by kernel_rfl) (fun e => by cases e) (fun _ => ?_)
  refine .br false (by kernel_rfl) (fun e => by cases e) (fun _ => ?_)
  exact .retF (t := 1) (g := 1) (h1 := ((ownH (ownH (Heap.empty.push (.cells false t_Op (aO 5 tok k n q id vs vb vl vcs fb l fcs))))).set 1 (.tok 1 t_uint8))) rfl (cleanL_bytes _) (by kernel_rfl) (by kernel_rfl)
theorem refOpB_ok {h : Heap} (hr : rightO (oO w tok k n q id vs vl l) = true) (hv : ValR (.mk k n vs vl) [.i .u8 k, .i .i64 n, .s vs, .sl vb vl.length vcs]) (htk : R64 tok) (hq : R64 q) (hF1 : fcs.length = l.length * 6) (hF2 : ∀ i (hi : i < l.length), ItemR l[i] (chunk fcs 6 i)) : Cal E f_foremanref10_Bytes [.agg (aO w tok k n q id vs vb vl vcs fb l fcs)] h (.nrm, ownB h (opB (oO w tok k n q id vs vl l)), ownH h) := by
  have hlen := Nat.le_trans (opB_le hr) (by decide : 39694 ≤ 100000)
  have hkind : w = 1 ∨ w = 2 ∨ w = 3 ∨ w = 4 ∨ w = 5 := rightO_kind hr
  rcases hkind with rfl | rfl | rfl | rfl | rfl
  · exact refOpB1 hv htk hq hF1 hF2 hlen
  · exact refOpB2 hv htk hq hF1 hF2 hlen
  · exact refOpB3 hv htk hq hF1 hF2 hlen
  · exact refOpB4 hv htk hq hF1 hF2 hlen
  · exact refOpB5 hv htk hq hF1 hF2 hlen
end
end
end Go.Proofs.YtjacnbabnpgpaaaGreatDoor
