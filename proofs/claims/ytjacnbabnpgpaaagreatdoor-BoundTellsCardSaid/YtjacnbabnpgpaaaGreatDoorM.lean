/- Contracts: frag.Put. -/
import Derived.Test.YtjacnbabnpgpaaaGreatDoorL
namespace Go.Proofs.YtjacnbabnpgpaaaGreatDoor
noncomputable section
open Go Go.Abs
set_option maxRecDepth 100000
def strsB : List (List UInt8) → List UInt8
  | [] => []
  | s :: l => textB s ++ strsB l
def itemB (x : ItemS) : List UInt8 := textB x.name ++ numB x.kind ++ numB (.ofNat x.after.length) ++ strsB x.after ++ numB x.quota ++ (if x.kind = 1 then textB x.over ++ numB x.width else [])
def itemsB : List ItemS → List UInt8
  | [] => []
  | x :: l => itemB x ++ itemsB l
def fragB (l : List ItemS) : List UInt8 := numB (.ofNat l.length) ++ itemsB l
theorem strsB_append : ∀ a b : List (List UInt8), strsB (a ++ b) = strsB a ++ strsB b
  | [], _ => rfl
  | v :: a, b => by
    show textB v ++ strsB (a ++ b) = (textB v ++ strsB a) ++ strsB b
    rw [strsB_append a b, List.append_assoc]
theorem itemsB_append : ∀ a b : List ItemS, itemsB (a ++ b) = itemsB a ++ itemsB b
  | [], _ => rfl
  | v :: a, b => by
    show itemB v ++ itemsB (a ++ b) = (itemB v ++ itemsB a) ++ itemsB b
    rw [itemsB_append a b, List.append_assoc]
theorem textB_len (s : List UInt8) : 1 ≤ (textB s).length ∧ s.length ≤ (textB s).length := by
  unfold textB
  have := (numB_len (.ofNat s.length)).1
  rw [List.length_append]; omega
theorem strsB_len : ∀ l : List (List UInt8), l.length ≤ (strsB l).length
  | [] => Nat.le_refl _
  | v :: l => by
    have := (textB_len v).1
    have := strsB_len l
    show l.length + 1 ≤ (textB v ++ strsB l).length
    rw [List.length_append]; omega
theorem itemsB_len : ∀ l : List ItemS, l.length ≤ (itemsB l).length
  | [] => Nat.le_refl _
  | v :: l => by
    have : 1 ≤ (itemB v).length := by
      have := (numB_len v.kind).1
      unfold itemB
      simp only [List.length_append]; omega
    have := itemsB_len l
    show l.length + 1 ≤ (itemB v ++ itemsB l).length
    rw [List.length_append]; omega
abbrev itA (name : List UInt8) (kind : Int) (ab : Bool) (after : List (List UInt8)) (over : List UInt8) (width quota : Int) : List AV := [.d (.s name), .d (.i .u8 kind), .d (.sl ab after.length (after.map .s)), .d (.s over), .d (.i .i64 width), .d (.i .i64 quota)]
abbrev itZ : List AV := [.d (.s []), .d (.i .u8 0), .nilsl, .d (.s []), .d (.i .i64 0), .d (.i .i64 0)]
abbrev hI (g : Heap) (C : List AV) : Heap := (g.push (.cells false t_Item itZ)).set g.n (.cells false t_Item C)
theorem nat64 {n : Nat} (h : n ≤ 70000000000000) : -9223372036854775808 ≤ Int.ofNat n ∧ Int.ofNat n < 9223372036854775808 := by
  simp only [Int.ofNat_eq_natCast]; omega
theorem inc64 {i : Nat} (h : i ≤ 70000000000000) : (AV.d (.i .i64 (wrap .i64 (.ofNat i + 1)))) = mkI (i + 1) := by
  rw [wrap64 (by simp only [Int.ofNat_eq_natCast]; omega) (by simp only [Int.ofNat_eq_natCast]; omega)]; rfl
theorem fput00 {h : Heap} {args : List AV} {bor : Bool} (hlen : (([] : List UInt8) ++ fragB []).length ≤ 70000000000000) (ha : stripArgs h args = some ([.nsl, .nsl], bor)) : Cal E f_frag_Put args h (.nrm, ownB h (([] : List UInt8) ++ fragB []), ownH h) := by
  rw [List.length_append] at hlen
  refine .w n_frag_Put rfl ha ?_
  refine .call (num_ok (h := .empty) (args := [.nilsl, .d (.i .i64 0)]) (bs := ([] : List UInt8)) (L := .nsl) (n := 0) (bor := false) (.inl ⟨rfl, rfl⟩) (by omega) (by omega) (by omega) rfl) (by kernel_rfl) ?_
  refine .loop false (fun m tm g => g = ownH .empty ∧ St 60 [(5, appB 0 (([] : List UInt8) ++ numB 0)), (14, .nilsl), (15, mkI 0), (16, mkI 0)] tm) 0 (by kernel_rfl)
    ⟨by kernel_rfl, .of (by kernel_rfl) ⟨by kernel_rfl, by kernel_rfl, by kernel_rfl, by kernel_rfl, trivial⟩⟩ ?_
  rintro m tm g ⟨rfl, g', rfl⟩
  refine .br false (by kernel_rfl) (fun e => by cases e) (fun _ => ?_)
  refine .out false 1 (by kernel_rfl) ?_
  rw [show ([] : List UInt8) ++ fragB [] = ([] : List UInt8) ++ numB 0 by rw [fragB, show itemsB [] = [] from rfl, List.append_nil]; rfl]
  exact .retF (t := 0) (g := 0) (push_n .empty _) (cleanL_bytes _) (by kernel_rfl) (by kernel_rfl)
theorem fput0S {h : Heap} {args : List AV} {bor : Bool} {fb : Bool} {l : List ItemS} {fcs : List DV} (hl : fcs.length = l.length * 6) (hcs : ∀ i (hi : i < l.length), ItemR l[i] (chunk fcs 6 i)) (hlen : (([] : List UInt8) ++ fragB l).length ≤ 70000000000000) (ha : stripArgs h args = some ([.nsl, .sl fb l.length fcs], bor)) :
    Cal E f_frag_Put args h (.nrm, ownB h (([] : List UInt8) ++ fragB l), ownH h) := by
  have hll := numB_len (.ofNat l.length)
  have hil := itemsB_len l
  rw [List.length_append, fragB, List.length_append] at hlen
  refine .w n_frag_Put rfl ha ?_
  refine .call (num_ok (h := .empty) (args := [.nilsl, .d (.i .i64 (.ofNat l.length))]) (bs := ([] : List UInt8)) (L := .nsl) (n := .ofNat l.length) (bor := false) (.inl ⟨rfl, rfl⟩) (nat64 (by omega)).1 (nat64 (by omega)).2 (by omega) rfl) (by kernel_rfl) ?_
  refine .loop true (fun m tm g => ∃ i t, i + m = l.length ∧ g.get t = some (.tok 0 t_uint8) ∧ St 60 [(5, appB t (([] : List UInt8) ++ numB (.ofNat l.length) ++ itemsB (l.take i))), (14, .d (.sl fb l.length fcs)), (15, mkI l.length), (16, mkI i)] tm) l.length (by kernel_rfl)
    ⟨0, 0, by omega, Eq.trans (b := (ownH .empty).get 0) (by kernel_rfl) (push_n .empty _), .of (by kernel_rfl) ⟨?_, by kernel_rfl, by kernel_rfl, by kernel_rfl, trivial⟩⟩ ?_
  · exact Eq.trans (b := appB 0 (([] : List UInt8) ++ numB (.ofNat l.length))) (by kernel_rfl) (by rw [List.take_zero, show itemsB [] = [] from rfl, List.append_nil])
  rintro m tm g ⟨i, t, him, ht, g', rfl⟩
  refine .br (iLt (.ofNat i) (.ofNat l.length)) (by kernel_rfl) (fun e => ?_) (fun e => ?_)
  rotate_left
  · have : m = 0 := by rw [iLt_not] at e; simp only [Int.ofNat_eq_natCast] at e; omega
    subst this
    refine .out true 1 (by kernel_rfl) ?_
    have hin : i = l.length := by omega
    have hfin : ([] : List UInt8) ++ numB (.ofNat l.length) ++ itemsB (l.take i) = ([] : List UInt8) ++ fragB l := by rw [hin, List.take_length, fragB, List.append_assoc]
    rw [← hfin]
    exact .retF (t := t) (g := 0) ht (cleanL_bytes _) (by kernel_rfl) (by kernel_rfl)
  have hi : i < l.length := by rw [iLt_iff] at e; simpa using e
  obtain ⟨m, rfl⟩ : ∃ k, m = k + 1 := ⟨m - 1, by omega⟩
  have hld := load_bx E (b := fb) hl hi
  obtain ⟨ab, hlit, hk8, hw64, hq64⟩ := hcs i hi
  have hpre : itemsB l = itemsB (l.take i) ++ (itemB l[i] ++ itemsB (l.drop (i + 1))) := by
    conv => lhs; rw [← List.take_append_drop i l, List.drop_eq_getElem_cons hi, itemsB_append]
    rfl
  have hnext : ([] : List UInt8) ++ numB (.ofNat l.length) ++ itemsB (l.take i) ++ itemB l[i] = ([] : List UInt8) ++ numB (.ofNat l.length) ++ itemsB (l.take (i + 1)) := by
    rw [List.take_add_one, List.getElem?_eq_getElem hi, itemsB_append, List.append_assoc]
    simp only [Option.toList, itemsB, List.append_nil]
  generalize l[i] = x at hlit hk8 hw64 hq64 hpre hnext
  obtain ⟨name, kind, after, over, width, quota⟩ := x
  simp only at hlit hk8 hw64 hq64
  rw [hlit] at hld
  have hpl := congrArg List.length hpre
  rw [List.length_append, List.length_append] at hpl
  have hib : (itemB ⟨name, kind, after, over, width, quota⟩).length = (textB name).length + (numB kind).length + (numB (.ofNat after.length)).length + (strsB after).length + (numB quota).length + (if kind = 1 then textB over ++ numB width else []).length := by
    simp only [itemB, List.length_append]
  have hn1 := textB_len name
  have hn2 := numB_len kind
  have hn3 := numB_len (.ofNat after.length)
  have hn4 := strsB_len after
  have hn5 := numB_len quota
  have hwk : wrap .i64 kind = kind := wrap_R8 hk8
  refine .opv (iaS_sl (k := .i64) (z := 6) (b := fb) (n := l.length) (cs := fcs) (j := i) rfl hi) (by kernel_rfl) ?_
  · refine .opv hld (by kernel_rfl) ?_
    have g1 := push_n g (.cells false t_Item itZ)
    refine .op (store_ptr (n := 6) (off := 0) (x := .agg (itA name kind ab after over width quota)) g1 rfl) (by kernel_rfl) ?_
    have g2 := Heap.get_set_self (b' := .cells false t_Item (itA name kind ab after over width quota)) g1
    have g3 := push_of g2 (.tok 0 t_uint8)
    have g4 := push_of g3 (.tok 0 t_uint8)
    have g5 := push_of g4 (.tok 0 t_uint8)
    refine .rd2 (load_ptr E (ag := false) (n := 1) (off := 0) g2 rfl rfl) (load_ptr E (ag := false) (n := 1) (off := 0) g2 rfl rfl) (by kernel_rfl) ?_
    refine .call (text_ok (h := (hI g (itA name kind ab after over width quota))) (args := [appB t (([] : List UInt8) ++ numB (.ofNat l.length) ++ itemsB (l.take i)), .d (.s name)]) (bs := ([] : List UInt8) ++ numB (.ofNat l.length) ++ itemsB (l.take i)) (L := slB (([] : List UInt8) ++ numB (.ofNat l.length) ++ itemsB (l.take i))) (s := name) (bor := false) (.inr ⟨false, rfl⟩) (by simp only [List.length_append]; omega) rfl) (by kernel_rfl) ?_
    refine .rd3 (load_ptr E (ag := false) (n := 1) (off := 1) g3 rfl rfl) (load_ptr E (ag := false) (n := 1) (off := 1) g3 rfl rfl) (load_ptr E (ag := false) (n := 1) (off := 1) g2 rfl rfl) (by kernel_rfl) ?_
    have hN : Cal E f_wire_Num [appB (hI g (itA name kind ab after over width quota)).n (([] : List UInt8) ++ numB (.ofNat l.length) ++ itemsB (l.take i) ++ textB name), .d (.i .i64 (wrap .i64 kind))] (ownH (hI g (itA name kind ab after over width quota))) (.nrm, ownB (ownH (hI g (itA name kind ab after over width quota))) (([] : List UInt8) ++ numB (.ofNat l.length) ++ itemsB (l.take i) ++ textB name ++ numB kind), (ownH (ownH (hI g (itA name kind ab after over width quota))))) := by
      rw [hwk]; exact num_ok (h := (ownH (hI g (itA name kind ab after over width quota)))) (args := [appB (hI g (itA name kind ab after over width quota)).n (([] : List UInt8) ++ numB (.ofNat l.length) ++ itemsB (l.take i) ++ textB name), .d (.i .i64 (kind))]) (bs := ([] : List UInt8) ++ numB (.ofNat l.length) ++ itemsB (l.take i) ++ textB name) (L := slB (([] : List UInt8) ++ numB (.ofNat l.length) ++ itemsB (l.take i) ++ textB name)) (n := kind) (bor := false) (.inr ⟨false, rfl⟩) (by have := hk8.1; omega) (by have := hk8.2; omega) (by simp only [List.length_append]; omega) rfl
    refine .call hN (by kernel_rfl) ?_
    refine .op (load_ptr E (ag := false) (n := 1) (off := 2) g4 rfl rfl) (by kernel_rfl) ?_
    refine .call (num_ok (h := (ownH (ownH (hI g (itA name kind ab after over width quota))))) (args := [appB (ownH (hI g (itA name kind ab after over width quota))).n (([] : List UInt8) ++ numB (.ofNat l.length) ++ itemsB (l.take i) ++ textB name ++ numB kind), .d (.i .i64 (.ofNat after.length))]) (bs := ([] : List UInt8) ++ numB (.ofNat l.length) ++ itemsB (l.take i) ++ textB name ++ numB kind) (L := slB (([] : List UInt8) ++ numB (.ofNat l.length) ++ itemsB (l.take i) ++ textB name ++ numB kind)) (n := .ofNat after.length) (bor := false) (.inr ⟨false, rfl⟩) (nat64 (by omega)).1 (nat64 (by omega)).2 (by simp only [List.length_append]; omega) rfl) (by kernel_rfl) ?_
    refine .op (load_ptr E (ag := false) (n := 1) (off := 2) g5 rfl rfl) (by kernel_rfl) ?_
    refine .loop true (fun m tm f => ∃ j u, j + m = after.length ∧ f.get u = some (.tok 0 t_uint8) ∧ f.get g.n = some (.cells false t_Item (itA name kind ab after over width quota)) ∧ St 60 [(5, appB u (([] : List UInt8) ++ numB (.ofNat l.length) ++ itemsB (l.take i) ++ textB name ++ numB kind ++ numB (.ofNat after.length) ++ strsB (after.take j))), (7, .ptr g.n 0), (14, .d (.sl fb l.length fcs)), (15, mkI l.length), (16, mkI i), (34, .d (.sl ab after.length (after.map .s))), (35, mkI after.length), (36, mkI j)] tm) after.length (by kernel_rfl)
      ⟨0, (ownH (ownH (hI g (itA name kind ab after over width quota)))).n, by omega, Eq.trans (b := (ownH (ownH (ownH (hI g (itA name kind ab after over width quota))))).get (ownH (ownH (hI g (itA name kind ab after over width quota)))).n) (by kernel_rfl) (push_n (ownH (ownH (hI g (itA name kind ab after over width quota)))) _), Eq.trans (b := (ownH (ownH (ownH (hI g (itA name kind ab after over width quota))))).get g.n) (by kernel_rfl) g5, .of (by kernel_rfl) ⟨?_, by kernel_rfl, by kernel_rfl, by kernel_rfl, by kernel_rfl, by kernel_rfl, by kernel_rfl, by kernel_rfl, trivial⟩⟩ ?_
    · exact Eq.trans (b := appB (ownH (ownH (hI g (itA name kind ab after over width quota)))).n (([] : List UInt8) ++ numB (.ofNat l.length) ++ itemsB (l.take i) ++ textB name ++ numB kind ++ numB (.ofNat after.length))) (by kernel_rfl) (by rw [List.take_zero, show strsB [] = [] from rfl, List.append_nil])
    rintro r tm f ⟨j, u, hjm, hu, gf, g'', rfl⟩
    refine .br (iLt (.ofNat j) (.ofNat after.length)) (by kernel_rfl) (fun e => ?_) (fun e => ?_)
    · have hj : j < after.length := by rw [iLt_iff] at e; simpa using e
      obtain ⟨r, rfl⟩ : ∃ k, r = k + 1 := ⟨r - 1, by omega⟩
      have hsp : strsB after = strsB (after.take j) ++ (textB after[j] ++ strsB (after.drop (j + 1))) := by
        conv => lhs; rw [← List.take_append_drop j after, List.drop_eq_getElem_cons hj, strsB_append]
        rfl
      have hsl := congrArg List.length hsp
      rw [List.length_append, List.length_append] at hsl
      have hn6 := textB_len after[j]
      have hsn : ([] : List UInt8) ++ numB (.ofNat l.length) ++ itemsB (l.take i) ++ textB name ++ numB kind ++ numB (.ofNat after.length) ++ strsB (after.take j) ++ textB after[j] = ([] : List UInt8) ++ numB (.ofNat l.length) ++ itemsB (l.take i) ++ textB name ++ numB kind ++ numB (.ofNat after.length) ++ strsB (after.take (j + 1)) := by
        rw [List.take_add_one, List.getElem?_eq_getElem hj, strsB_append, List.append_assoc]
        simp only [Option.toList, strsB, List.append_nil]
      refine .opv (iaS_sl (k := .i64) (z := 1) (b := ab) (n := after.length) (cs := after.map .s) (j := j) rfl hj) (by kernel_rfl) ?_
      refine .opv (load_bx1 E (b := ab) (cs := after.map .s) (j := j) (x := .s after[j]) (by rw [List.getElem?_map, List.getElem?_eq_getElem hj]; rfl)) (by kernel_rfl) ?_
      have hc := text_ok (h := f) (args := [appB u (([] : List UInt8) ++ numB (.ofNat l.length) ++ itemsB (l.take i) ++ textB name ++ numB kind ++ numB (.ofNat after.length) ++ strsB (after.take j)), .d (.s after[j])]) (bs := ([] : List UInt8) ++ numB (.ofNat l.length) ++ itemsB (l.take i) ++ textB name ++ numB kind ++ numB (.ofNat after.length) ++ strsB (after.take j)) (L := slB (([] : List UInt8) ++ numB (.ofNat l.length) ++ itemsB (l.take i) ++ textB name ++ numB kind ++ numB (.ofNat after.length) ++ strsB (after.take j))) (s := after[j]) (bor := false) (.inr ⟨false, rfl⟩) (by simp only [List.length_append]; omega) rfl
      rw [hsn] at hc
      refine .call hc (by kernel_rfl) ?_
      refine .next r (by kernel_rfl) (by omega) ⟨j + 1, f.n, by omega, Eq.trans (b := (ownH f).get f.n) (by kernel_rfl) (push_n f _), Eq.trans (b := (ownH f).get g.n) (by kernel_rfl) (push_of gf _), .of (by kernel_rfl) ⟨by kernel_rfl, by kernel_rfl, by kernel_rfl, by kernel_rfl, by kernel_rfl, by kernel_rfl, by kernel_rfl, ?_, trivial⟩⟩
      exact Eq.trans (b := .d (.i .i64 (wrap .i64 (.ofNat j + 1)))) (by kernel_rfl) (inc64 (by omega))
    have : r = 0 := by rw [iLt_not] at e; simp only [Int.ofNat_eq_natCast] at e; omega
    subst this
    have hja : j = after.length := by omega
    rw [hja, List.take_length]
    refine .out true 3 (by kernel_rfl) ?_
    refine .op (load_ptr E (ag := false) (n := 1) (off := 5) gf rfl rfl) (by kernel_rfl) ?_
    refine .call (num_ok (h := f) (args := [appB u (([] : List UInt8) ++ numB (.ofNat l.length) ++ itemsB (l.take i) ++ textB name ++ numB kind ++ numB (.ofNat after.length) ++ strsB after), .d (.i .i64 (quota))]) (bs := ([] : List UInt8) ++ numB (.ofNat l.length) ++ itemsB (l.take i) ++ textB name ++ numB kind ++ numB (.ofNat after.length) ++ strsB after) (L := slB (([] : List UInt8) ++ numB (.ofNat l.length) ++ itemsB (l.take i) ++ textB name ++ numB kind ++ numB (.ofNat after.length) ++ strsB after)) (n := quota) (bor := false) (.inr ⟨false, rfl⟩) hq64.1 hq64.2 (by simp only [List.length_append]; omega) rfl) (by kernel_rfl) ?_
    have gf1 := push_of gf (.tok 0 t_uint8)
    have gf2 := push_of gf1 (.tok 0 t_uint8)
    refine .op (load_ptr E (ag := false) (n := 1) (off := 1) gf1 rfl rfl) (by kernel_rfl) ?_
    refine .br (iEq kind 1) (by kernel_rfl) (fun e1 => ?_) (fun e1 => ?_)
    · rw [iEq_iff] at e1
      rw [if_pos e1, List.length_append] at hib
      have hn7 := textB_len over
      have hn8 := numB_len width
      have hiE : ([] : List UInt8) ++ numB (.ofNat l.length) ++ itemsB (l.take i) ++ textB name ++ numB kind ++ numB (.ofNat after.length) ++ strsB after ++ numB quota ++ textB over ++ numB width = ([] : List UInt8) ++ numB (.ofNat l.length) ++ itemsB (l.take i) ++ itemB ⟨name, kind, after, over, width, quota⟩ := by
        rw [itemB, if_pos e1]; simp only [List.append_assoc, strsB, List.length_nil, List.nil_append]
      refine .rd2 (load_ptr E (ag := false) (n := 1) (off := 3) gf1 rfl rfl) (load_ptr E (ag := false) (n := 1) (off := 3) gf1 rfl rfl) (by kernel_rfl) ?_
      refine .call (text_ok (h := (ownH f)) (args := [appB f.n (([] : List UInt8) ++ numB (.ofNat l.length) ++ itemsB (l.take i) ++ textB name ++ numB kind ++ numB (.ofNat after.length) ++ strsB after ++ numB quota), .d (.s over)]) (bs := ([] : List UInt8) ++ numB (.ofNat l.length) ++ itemsB (l.take i) ++ textB name ++ numB kind ++ numB (.ofNat after.length) ++ strsB after ++ numB quota) (L := slB (([] : List UInt8) ++ numB (.ofNat l.length) ++ itemsB (l.take i) ++ textB name ++ numB kind ++ numB (.ofNat after.length) ++ strsB after ++ numB quota)) (s := over) (bor := false) (.inr ⟨false, rfl⟩) (by simp only [List.length_append]; omega) rfl) (by kernel_rfl) ?_
      refine .rd3 (load_ptr E (ag := false) (n := 1) (off := 4) gf2 rfl rfl) (load_ptr E (ag := false) (n := 1) (off := 4) gf2 rfl rfl) (load_ptr E (ag := false) (n := 1) (off := 4) gf1 rfl rfl) (by kernel_rfl) ?_
      have hc := num_ok (h := (ownH (ownH f))) (args := [appB (ownH f).n (([] : List UInt8) ++ numB (.ofNat l.length) ++ itemsB (l.take i) ++ textB name ++ numB kind ++ numB (.ofNat after.length) ++ strsB after ++ numB quota ++ textB over), .d (.i .i64 (width))]) (bs := ([] : List UInt8) ++ numB (.ofNat l.length) ++ itemsB (l.take i) ++ textB name ++ numB kind ++ numB (.ofNat after.length) ++ strsB after ++ numB quota ++ textB over) (L := slB (([] : List UInt8) ++ numB (.ofNat l.length) ++ itemsB (l.take i) ++ textB name ++ numB kind ++ numB (.ofNat after.length) ++ strsB after ++ numB quota ++ textB over)) (n := width) (bor := false) (.inr ⟨false, rfl⟩) hw64.1 hw64.2 (by simp only [List.length_append]; omega) rfl
      rw [hiE, hnext] at hc
      refine .call hc (by kernel_rfl) ?_
      refine .next m (by kernel_rfl) (by omega) ⟨i + 1, (ownH (ownH f)).n, by omega, Eq.trans (b := (ownH (ownH (ownH f))).get (ownH (ownH f)).n) (by kernel_rfl) (push_n (ownH (ownH f)) _), .of (by kernel_rfl) ⟨by kernel_rfl, by kernel_rfl, by kernel_rfl, ?_, trivial⟩⟩
      exact Eq.trans (b := .d (.i .i64 (wrap .i64 (.ofNat i + 1)))) (by kernel_rfl) (inc64 (by omega))
    · rw [iEq_not] at e1
      rw [if_neg e1] at hib
      have hiE : ([] : List UInt8) ++ numB (.ofNat l.length) ++ itemsB (l.take i) ++ textB name ++ numB kind ++ numB (.ofNat after.length) ++ strsB after ++ numB quota = ([] : List UInt8) ++ numB (.ofNat l.length) ++ itemsB (l.take (i + 1)) := by
        rw [← hnext, itemB, if_neg e1]; simp only [List.append_assoc, strsB, List.length_nil, List.nil_append, List.append_nil]
      refine .next m (by kernel_rfl) (by omega) ⟨i + 1, f.n, by omega, Eq.trans (b := (ownH f).get f.n) (by kernel_rfl) (push_n f _), .of (by kernel_rfl) ⟨Eq.trans (b := appB f.n (([] : List UInt8) ++ numB (.ofNat l.length) ++ itemsB (l.take i) ++ textB name ++ numB kind ++ numB (.ofNat after.length) ++ strsB after ++ numB quota)) (by kernel_rfl) (by rw [hiE]), by kernel_rfl, by kernel_rfl, ?_, trivial⟩⟩
      exact Eq.trans (b := .d (.i .i64 (wrap .i64 (.ofNat i + 1)))) (by kernel_rfl) (inc64 (by omega))
theorem fputS0 {h : Heap} {args : List AV} {bor : Bool} {b : Bool} {bs : List UInt8} (hlen : (bs ++ fragB []).length ≤ 70000000000000) (ha : stripArgs h args = some ([.sl b bs.length (bytesD bs), .nsl], bor)) : Cal E f_frag_Put args h (.nrm, ownB h (bs ++ fragB []), ownH h) := by
  rw [List.length_append] at hlen
  refine .w n_frag_Put rfl ha ?_
  refine .call (num_ok (h := .empty) (args := [.d (.sl b bs.length (bytesD bs)), .d (.i .i64 0)]) (bs := bs) (L := .sl b bs.length (bytesD bs)) (n := 0) (bor := false) (.inr ⟨b, rfl⟩) (by omega) (by omega) (by omega) rfl) (by kernel_rfl) ?_
  refine .loop false (fun m tm g => g = ownH .empty ∧ St 60 [(5, appB 0 (bs ++ numB 0)), (14, .nilsl), (15, mkI 0), (16, mkI 0)] tm) 0 (by kernel_rfl)
    ⟨by kernel_rfl, .of (by kernel_rfl) ⟨by kernel_rfl, by kernel_rfl, by kernel_rfl, by kernel_rfl, trivial⟩⟩ ?_
  rintro m tm g ⟨rfl, g', rfl⟩
  refine .br false (by kernel_rfl) (fun e => by cases e) (fun _ => ?_)
  refine .out false 1 (by kernel_rfl) ?_
  rw [show bs ++ fragB [] = bs ++ numB 0 by rw [fragB, show itemsB [] = [] from rfl, List.append_nil]; rfl]
  exact .retF (t := 0) (g := 0) (push_n .empty _) (cleanL_bytes _) (by kernel_rfl) (by kernel_rfl)
theorem fputSS {h : Heap} {args : List AV} {bor : Bool} {b : Bool} {bs : List UInt8} {fb : Bool} {l : List ItemS} {fcs : List DV} (hl : fcs.length = l.length * 6) (hcs : ∀ i (hi : i < l.length), ItemR l[i] (chunk fcs 6 i)) (hlen : (bs ++ fragB l).length ≤ 70000000000000) (ha : stripArgs h args = some ([.sl b bs.length (bytesD bs), .sl fb l.length fcs], bor)) :
    Cal E f_frag_Put args h (.nrm, ownB h (bs ++ fragB l), ownH h) := by
  have hll := numB_len (.ofNat l.length)
  have hil := itemsB_len l
  rw [List.length_append, fragB, List.length_append] at hlen
  refine .w n_frag_Put rfl ha ?_
  refine .call (num_ok (h := .empty) (args := [.d (.sl b bs.length (bytesD bs)), .d (.i .i64 (.ofNat l.length))]) (bs := bs) (L := .sl b bs.length (bytesD bs)) (n := .ofNat l.length) (bor := false) (.inr ⟨b, rfl⟩) (nat64 (by omega)).1 (nat64 (by omega)).2 (by omega) rfl) (by kernel_rfl) ?_
  refine .loop true (fun m tm g => ∃ i t, i + m = l.length ∧ g.get t = some (.tok 0 t_uint8) ∧ St 60 [(5, appB t (bs ++ numB (.ofNat l.length) ++ itemsB (l.take i))), (14, .d (.sl fb l.length fcs)), (15, mkI l.length), (16, mkI i)] tm) l.length (by kernel_rfl)
    ⟨0, 0, by omega, Eq.trans (b := (ownH .empty).get 0) (by kernel_rfl) (push_n .empty _), .of (by kernel_rfl) ⟨?_, by kernel_rfl, by kernel_rfl, by kernel_rfl, trivial⟩⟩ ?_
  · exact Eq.trans (b := appB 0 (bs ++ numB (.ofNat l.length))) (by kernel_rfl) (by rw [List.take_zero, show itemsB [] = [] from rfl, List.append_nil])
  rintro m tm g ⟨i, t, him, ht, g', rfl⟩
  refine .br (iLt (.ofNat i) (.ofNat l.length)) (by kernel_rfl) (fun e => ?_) (fun e => ?_)
  rotate_left
  · have : m = 0 := by rw [iLt_not] at e; simp only [Int.ofNat_eq_natCast] at e; omega
    subst this
    refine .out true 1 (by kernel_rfl) ?_
    have hin : i = l.length := by omega
    have hfin : bs ++ numB (.ofNat l.length) ++ itemsB (l.take i) = bs ++ fragB l := by rw [hin, List.take_length, fragB, List.append_assoc]
    rw [← hfin]
    exact .retF (t := t) (g := 0) ht (cleanL_bytes _) (by kernel_rfl) (by kernel_rfl)
  have hi : i < l.length := by rw [iLt_iff] at e; simpa using e
  obtain ⟨m, rfl⟩ : ∃ k, m = k + 1 := ⟨m - 1, by omega⟩
  have hld := load_bx E (b := fb) hl hi
  obtain ⟨ab, hlit, hk8, hw64, hq64⟩ := hcs i hi
  have hpre : itemsB l = itemsB (l.take i) ++ (itemB l[i] ++ itemsB (l.drop (i + 1))) := by
    conv => lhs; rw [← List.take_append_drop i l, List.drop_eq_getElem_cons hi, itemsB_append]
    rfl
  have hnext : bs ++ numB (.ofNat l.length) ++ itemsB (l.take i) ++ itemB l[i] = bs ++ numB (.ofNat l.length) ++ itemsB (l.take (i + 1)) := by
    rw [List.take_add_one, List.getElem?_eq_getElem hi, itemsB_append, List.append_assoc]
    simp only [Option.toList, itemsB, List.append_nil]
  generalize l[i] = x at hlit hk8 hw64 hq64 hpre hnext
  obtain ⟨name, kind, after, over, width, quota⟩ := x
  simp only at hlit hk8 hw64 hq64
  rw [hlit] at hld
  have hpl := congrArg List.length hpre
  rw [List.length_append, List.length_append] at hpl
  have hib : (itemB ⟨name, kind, after, over, width, quota⟩).length = (textB name).length + (numB kind).length + (numB (.ofNat after.length)).length + (strsB after).length + (numB quota).length + (if kind = 1 then textB over ++ numB width else []).length := by
    simp only [itemB, List.length_append]
  have hn1 := textB_len name
  have hn2 := numB_len kind
  have hn3 := numB_len (.ofNat after.length)
  have hn4 := strsB_len after
  have hn5 := numB_len quota
  have hwk : wrap .i64 kind = kind := wrap_R8 hk8
  refine .opv (iaS_sl (k := .i64) (z := 6) (b := fb) (n := l.length) (cs := fcs) (j := i) rfl hi) (by kernel_rfl) ?_
  · refine .opv hld (by kernel_rfl) ?_
    have g1 := push_n g (.cells false t_Item itZ)
    refine .op (store_ptr (n := 6) (off := 0) (x := .agg (itA name kind ab after over width quota)) g1 rfl) (by kernel_rfl) ?_
    have g2 := Heap.get_set_self (b' := .cells false t_Item (itA name kind ab after over width quota)) g1
    have g3 := push_of g2 (.tok 0 t_uint8)
    have g4 := push_of g3 (.tok 0 t_uint8)
    have g5 := push_of g4 (.tok 0 t_uint8)
    refine .rd2 (load_ptr E (ag := false) (n := 1) (off := 0) g2 rfl rfl) (load_ptr E (ag := false) (n := 1) (off := 0) g2 rfl rfl) (by kernel_rfl) ?_
    refine .call (text_ok (h := (hI g (itA name kind ab after over width quota))) (args := [appB t (bs ++ numB (.ofNat l.length) ++ itemsB (l.take i)), .d (.s name)]) (bs := bs ++ numB (.ofNat l.length) ++ itemsB (l.take i)) (L := slB (bs ++ numB (.ofNat l.length) ++ itemsB (l.take i))) (s := name) (bor := false) (.inr ⟨false, rfl⟩) (by simp only [List.length_append]; omega) rfl) (by kernel_rfl) ?_
    refine .rd3 (load_ptr E (ag := false) (n := 1) (off := 1) g3 rfl rfl) (load_ptr E (ag := false) (n := 1) (off := 1) g3 rfl rfl) (load_ptr E (ag := false) (n := 1) (off := 1) g2 rfl rfl) (by kernel_rfl) ?_
    have hN : Cal E f_wire_Num [appB (hI g (itA name kind ab after over width quota)).n (bs ++ numB (.ofNat l.length) ++ itemsB (l.take i) ++ textB name), .d (.i .i64 (wrap .i64 kind))] (ownH (hI g (itA name kind ab after over width quota))) (.nrm, ownB (ownH (hI g (itA name kind ab after over width quota))) (bs ++ numB (.ofNat l.length) ++ itemsB (l.take i) ++ textB name ++ numB kind), (ownH (ownH (hI g (itA name kind ab after over width quota))))) := by
      rw [hwk]; exact num_ok (h := (ownH (hI g (itA name kind ab after over width quota)))) (args := [appB (hI g (itA name kind ab after over width quota)).n (bs ++ numB (.ofNat l.length) ++ itemsB (l.take i) ++ textB name), .d (.i .i64 (kind))]) (bs := bs ++ numB (.ofNat l.length) ++ itemsB (l.take i) ++ textB name) (L := slB (bs ++ numB (.ofNat l.length) ++ itemsB (l.take i) ++ textB name)) (n := kind) (bor := false) (.inr ⟨false, rfl⟩) (by have := hk8.1; omega) (by have := hk8.2; omega) (by simp only [List.length_append]; omega) rfl
    refine .call hN (by kernel_rfl) ?_
    refine .op (load_ptr E (ag := false) (n := 1) (off := 2) g4 rfl rfl) (by kernel_rfl) ?_
    refine .call (num_ok (h := (ownH (ownH (hI g (itA name kind ab after over width quota))))) (args := [appB (ownH (hI g (itA name kind ab after over width quota))).n (bs ++ numB (.ofNat l.length) ++ itemsB (l.take i) ++ textB name ++ numB kind), .d (.i .i64 (.ofNat after.length))]) (bs := bs ++ numB (.ofNat l.length) ++ itemsB (l.take i) ++ textB name ++ numB kind) (L := slB (bs ++ numB (.ofNat l.length) ++ itemsB (l.take i) ++ textB name ++ numB kind)) (n := .ofNat after.length) (bor := false) (.inr ⟨false, rfl⟩) (nat64 (by omega)).1 (nat64 (by omega)).2 (by simp only [List.length_append]; omega) rfl) (by kernel_rfl) ?_
    refine .op (load_ptr E (ag := false) (n := 1) (off := 2) g5 rfl rfl) (by kernel_rfl) ?_
    refine .loop true (fun m tm f => ∃ j u, j + m = after.length ∧ f.get u = some (.tok 0 t_uint8) ∧ f.get g.n = some (.cells false t_Item (itA name kind ab after over width quota)) ∧ St 60 [(5, appB u (bs ++ numB (.ofNat l.length) ++ itemsB (l.take i) ++ textB name ++ numB kind ++ numB (.ofNat after.length) ++ strsB (after.take j))), (7, .ptr g.n 0), (14, .d (.sl fb l.length fcs)), (15, mkI l.length), (16, mkI i), (34, .d (.sl ab after.length (after.map .s))), (35, mkI after.length), (36, mkI j)] tm) after.length (by kernel_rfl)
      ⟨0, (ownH (ownH (hI g (itA name kind ab after over width quota)))).n, by omega, Eq.trans (b := (ownH (ownH (ownH (hI g (itA name kind ab after over width quota))))).get (ownH (ownH (hI g (itA name kind ab after over width quota)))).n) (by kernel_rfl) (push_n (ownH (ownH (hI g (itA name kind ab after over width quota)))) _), Eq.trans (b := (ownH (ownH (ownH (hI g (itA name kind ab after over width quota))))).get g.n) (by kernel_rfl) g5, .of (by kernel_rfl) ⟨?_, by kernel_rfl, by kernel_rfl, by kernel_rfl, by kernel_rfl, by kernel_rfl, by kernel_rfl, by kernel_rfl, trivial⟩⟩ ?_
    · exact Eq.trans (b := appB (ownH (ownH (hI g (itA name kind ab after over width quota)))).n (bs ++ numB (.ofNat l.length) ++ itemsB (l.take i) ++ textB name ++ numB kind ++ numB (.ofNat after.length))) (by kernel_rfl) (by rw [List.take_zero, show strsB [] = [] from rfl, List.append_nil])
    rintro r tm f ⟨j, u, hjm, hu, gf, g'', rfl⟩
    refine .br (iLt (.ofNat j) (.ofNat after.length)) (by kernel_rfl) (fun e => ?_) (fun e => ?_)
    · have hj : j < after.length := by rw [iLt_iff] at e; simpa using e
      obtain ⟨r, rfl⟩ : ∃ k, r = k + 1 := ⟨r - 1, by omega⟩
      have hsp : strsB after = strsB (after.take j) ++ (textB after[j] ++ strsB (after.drop (j + 1))) := by
        conv => lhs; rw [← List.take_append_drop j after, List.drop_eq_getElem_cons hj, strsB_append]
        rfl
      have hsl := congrArg List.length hsp
      rw [List.length_append, List.length_append] at hsl
      have hn6 := textB_len after[j]
      have hsn : bs ++ numB (.ofNat l.length) ++ itemsB (l.take i) ++ textB name ++ numB kind ++ numB (.ofNat after.length) ++ strsB (after.take j) ++ textB after[j] = bs ++ numB (.ofNat l.length) ++ itemsB (l.take i) ++ textB name ++ numB kind ++ numB (.ofNat after.length) ++ strsB (after.take (j + 1)) := by
        rw [List.take_add_one, List.getElem?_eq_getElem hj, strsB_append, List.append_assoc]
        simp only [Option.toList, strsB, List.append_nil]
      refine .opv (iaS_sl (k := .i64) (z := 1) (b := ab) (n := after.length) (cs := after.map .s) (j := j) rfl hj) (by kernel_rfl) ?_
      refine .opv (load_bx1 E (b := ab) (cs := after.map .s) (j := j) (x := .s after[j]) (by rw [List.getElem?_map, List.getElem?_eq_getElem hj]; rfl)) (by kernel_rfl) ?_
      have hc := text_ok (h := f) (args := [appB u (bs ++ numB (.ofNat l.length) ++ itemsB (l.take i) ++ textB name ++ numB kind ++ numB (.ofNat after.length) ++ strsB (after.take j)), .d (.s after[j])]) (bs := bs ++ numB (.ofNat l.length) ++ itemsB (l.take i) ++ textB name ++ numB kind ++ numB (.ofNat after.length) ++ strsB (after.take j)) (L := slB (bs ++ numB (.ofNat l.length) ++ itemsB (l.take i) ++ textB name ++ numB kind ++ numB (.ofNat after.length) ++ strsB (after.take j))) (s := after[j]) (bor := false) (.inr ⟨false, rfl⟩) (by simp only [List.length_append]; omega) rfl
      rw [hsn] at hc
      refine .call hc (by kernel_rfl) ?_
      refine .next r (by kernel_rfl) (by omega) ⟨j + 1, f.n, by omega, Eq.trans (b := (ownH f).get f.n) (by kernel_rfl) (push_n f _), Eq.trans (b := (ownH f).get g.n) (by kernel_rfl) (push_of gf _), .of (by kernel_rfl) ⟨by kernel_rfl, by kernel_rfl, by kernel_rfl, by kernel_rfl, by kernel_rfl, by kernel_rfl, by kernel_rfl, ?_, trivial⟩⟩
      exact Eq.trans (b := .d (.i .i64 (wrap .i64 (.ofNat j + 1)))) (by kernel_rfl) (inc64 (by omega))
    have : r = 0 := by rw [iLt_not] at e; simp only [Int.ofNat_eq_natCast] at e; omega
    subst this
    have hja : j = after.length := by omega
    rw [hja, List.take_length]
    refine .out true 3 (by kernel_rfl) ?_
    refine .op (load_ptr E (ag := false) (n := 1) (off := 5) gf rfl rfl) (by kernel_rfl) ?_
    refine .call (num_ok (h := f) (args := [appB u (bs ++ numB (.ofNat l.length) ++ itemsB (l.take i) ++ textB name ++ numB kind ++ numB (.ofNat after.length) ++ strsB after), .d (.i .i64 (quota))]) (bs := bs ++ numB (.ofNat l.length) ++ itemsB (l.take i) ++ textB name ++ numB kind ++ numB (.ofNat after.length) ++ strsB after) (L := slB (bs ++ numB (.ofNat l.length) ++ itemsB (l.take i) ++ textB name ++ numB kind ++ numB (.ofNat after.length) ++ strsB after)) (n := quota) (bor := false) (.inr ⟨false, rfl⟩) hq64.1 hq64.2 (by simp only [List.length_append]; omega) rfl) (by kernel_rfl) ?_
    have gf1 := push_of gf (.tok 0 t_uint8)
    have gf2 := push_of gf1 (.tok 0 t_uint8)
    refine .op (load_ptr E (ag := false) (n := 1) (off := 1) gf1 rfl rfl) (by kernel_rfl) ?_
    refine .br (iEq kind 1) (by kernel_rfl) (fun e1 => ?_) (fun e1 => ?_)
    · rw [iEq_iff] at e1
      rw [if_pos e1, List.length_append] at hib
      have hn7 := textB_len over
      have hn8 := numB_len width
      have hiE : bs ++ numB (.ofNat l.length) ++ itemsB (l.take i) ++ textB name ++ numB kind ++ numB (.ofNat after.length) ++ strsB after ++ numB quota ++ textB over ++ numB width = bs ++ numB (.ofNat l.length) ++ itemsB (l.take i) ++ itemB ⟨name, kind, after, over, width, quota⟩ := by
        rw [itemB, if_pos e1]; simp only [List.append_assoc, strsB, List.length_nil, List.nil_append]
      refine .rd2 (load_ptr E (ag := false) (n := 1) (off := 3) gf1 rfl rfl) (load_ptr E (ag := false) (n := 1) (off := 3) gf1 rfl rfl) (by kernel_rfl) ?_
      refine .call (text_ok (h := (ownH f)) (args := [appB f.n (bs ++ numB (.ofNat l.length) ++ itemsB (l.take i) ++ textB name ++ numB kind ++ numB (.ofNat after.length) ++ strsB after ++ numB quota), .d (.s over)]) (bs := bs ++ numB (.ofNat l.length) ++ itemsB (l.take i) ++ textB name ++ numB kind ++ numB (.ofNat after.length) ++ strsB after ++ numB quota) (L := slB (bs ++ numB (.ofNat l.length) ++ itemsB (l.take i) ++ textB name ++ numB kind ++ numB (.ofNat after.length) ++ strsB after ++ numB quota)) (s := over) (bor := false) (.inr ⟨false, rfl⟩) (by simp only [List.length_append]; omega) rfl) (by kernel_rfl) ?_
      refine .rd3 (load_ptr E (ag := false) (n := 1) (off := 4) gf2 rfl rfl) (load_ptr E (ag := false) (n := 1) (off := 4) gf2 rfl rfl) (load_ptr E (ag := false) (n := 1) (off := 4) gf1 rfl rfl) (by kernel_rfl) ?_
      have hc := num_ok (h := (ownH (ownH f))) (args := [appB (ownH f).n (bs ++ numB (.ofNat l.length) ++ itemsB (l.take i) ++ textB name ++ numB kind ++ numB (.ofNat after.length) ++ strsB after ++ numB quota ++ textB over), .d (.i .i64 (width))]) (bs := bs ++ numB (.ofNat l.length) ++ itemsB (l.take i) ++ textB name ++ numB kind ++ numB (.ofNat after.length) ++ strsB after ++ numB quota ++ textB over) (L := slB (bs ++ numB (.ofNat l.length) ++ itemsB (l.take i) ++ textB name ++ numB kind ++ numB (.ofNat after.length) ++ strsB after ++ numB quota ++ textB over)) (n := width) (bor := false) (.inr ⟨false, rfl⟩) hw64.1 hw64.2 (by simp only [List.length_append]; omega) rfl
      rw [hiE, hnext] at hc
      refine .call hc (by kernel_rfl) ?_
      refine .next m (by kernel_rfl) (by omega) ⟨i + 1, (ownH (ownH f)).n, by omega, Eq.trans (b := (ownH (ownH (ownH f))).get (ownH (ownH f)).n) (by kernel_rfl) (push_n (ownH (ownH f)) _), .of (by kernel_rfl) ⟨by kernel_rfl, by kernel_rfl, by kernel_rfl, ?_, trivial⟩⟩
      exact Eq.trans (b := .d (.i .i64 (wrap .i64 (.ofNat i + 1)))) (by kernel_rfl) (inc64 (by omega))
    · rw [iEq_not] at e1
      rw [if_neg e1] at hib
      have hiE : bs ++ numB (.ofNat l.length) ++ itemsB (l.take i) ++ textB name ++ numB kind ++ numB (.ofNat after.length) ++ strsB after ++ numB quota = bs ++ numB (.ofNat l.length) ++ itemsB (l.take (i + 1)) := by
        rw [← hnext, itemB, if_neg e1]; simp only [List.append_assoc, strsB, List.length_nil, List.nil_append, List.append_nil]
      refine .next m (by kernel_rfl) (by omega) ⟨i + 1, f.n, by omega, Eq.trans (b := (ownH f).get f.n) (by kernel_rfl) (push_n f _), .of (by kernel_rfl) ⟨Eq.trans (b := appB f.n (bs ++ numB (.ofNat l.length) ++ itemsB (l.take i) ++ textB name ++ numB kind ++ numB (.ofNat after.length) ++ strsB after ++ numB quota)) (by kernel_rfl) (by rw [hiE]), by kernel_rfl, by kernel_rfl, ?_, trivial⟩⟩
      exact Eq.trans (b := .d (.i .i64 (wrap .i64 (.ofNat i + 1)))) (by kernel_rfl) (inc64 (by omega))
theorem fragPut_ok {h : Heap} {args : List AV} {bor : Bool} {bs : List UInt8} {L F : DV} {l : List ItemS} (hL : BytR bs L) (hF : ItemsR l F) (hlen : (bs ++ fragB l).length ≤ 70000000000000) (ha : stripArgs h args = some ([L, F], bor)) : Cal E f_frag_Put args h (.nrm, ownB h (bs ++ fragB l), ownH h) := by
  rcases hL with ⟨rfl, rfl⟩ | ⟨b, rfl⟩ <;> rcases hF with ⟨rfl, rfl⟩ | ⟨fb, fcs, rfl, hl, hcs⟩
  · exact fput00 hlen ha
  · exact fput0S hl hcs hlen ha
  · exact fputS0 hlen ha
  · exact fputSS hl hcs hlen ha
end
end Go.Proofs.YtjacnbabnpgpaaaGreatDoor
