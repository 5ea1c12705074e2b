/- Contracts: the document's rows of bytes. -/
import Derived.Test.YtjacnbabnpgpaaaGreatDoorAN
namespace Go.Proofs.YtjacnbabnpgpaaaGreatDoor
noncomputable section
open Go Go.Abs
set_option maxRecDepth 100000
theorem app_fz {h hz : Heap} {e : TypeId} {sz bytes n k : Nat} {cs ds : List DV} {l : List AV} {v y : AV} (hv : FA e n cs v h) (hvz : FA e n cs v hz) (hs : srcView h sz y = some (k, l)) (hfr : frzL h l = some (ds, hz)) (h1 : (n + k) * bytes ≤ 70368744177664) (h2 : n + k ≤ 70368744177664) (hk : k ≠ 0) (ho : okCells l = true) (hnf : v ≠ .full false 0 []) :
    ∃ v' h', s_app h [] e sz bytes false (.c v) (.c y) = .val v' h' ∧ FA e (n + k) (cs ++ ds) v' h' ∧ v' ≠ .full false 0 [] ∧ ∀ i x, hz.get i = some x → (∀ g, x ≠ .tok g e) → h'.get i = some x := by
  have hlen : lenOf v = some n := by
    rcases hv with ⟨rfl, rfl, rfl | rfl⟩ | ⟨t, g, rfl, _⟩ <;> rfl
  have hc : (Nat.ble ((n + k) * bytes) 70368744177664 && Nat.ble (n + k) 70368744177664 && okCells l) = true := by
    simp only [Bool.and_eq_true, Nat.ble_eq]; exact ⟨⟨h1, h2⟩, ho⟩
  have hd : s_app h [] e sz bytes false (.c v) (.c y) = oh (appA h e sz false v k l) := by
    unfold s_app; simp only [X.ev]; rw [hs]; simp only [hlen, hc]
  rw [hd]
  obtain ⟨k, rfl⟩ : ∃ j, k = j + 1 := ⟨k - 1, by omega⟩
  rcases hv with ⟨rfl, rfl, rfl | rfl⟩ | ⟨t, g, rfl, ht⟩
  · exact absurd rfl hnf
  · have : appA h e sz false .nilsl (k + 1) l = some (.app hz.n 0 (0 + (k + 1)) ([] ++ ds), hz.push (.tok 0 e)) := by
      simp only [appA, hfr, Nat.zero_add, List.nil_append]
    rw [this]
    exact ⟨_, _, rfl, .inr ⟨_, _, rfl, push_n hz _⟩, (fun e => by cases e), fun i x hi _ => push_of hi _⟩
  · rcases hvz with ⟨_, _, e | e⟩ | ⟨t1, g1, e, ht1⟩
    · cases e
    · cases e
    cases e
    have : appA h e sz false (.app t g n cs) (k + 1) l = some (.app t (g + 1) (n + (k + 1)) (cs ++ ds), hz.set t (.tok (g + 1) e)) := by
      simp only [appA, ht, hfr, Nat.beq_refl, Bool.and_self, show Nat.beq e e = true from Nat.beq_refl e]
    rw [this]
    refine ⟨_, _, rfl, .inr ⟨_, _, rfl, Heap.get_set_self ht1⟩, (fun e => by cases e), fun i x hi hn => ?_⟩
    rw [Heap.get_set_ne (fun e2 => by subst e2; rw [ht1] at hi; cases hi; exact hn _ rfl)]
    exact hi
theorem frzWL_d (fz : Heap → Nat → Nat → Nat → Option (List DV × Heap)) (h : Heap) : ∀ l : List DV, frzWL fz h (l.map .d) = some (l, h)
  | [] => rfl
  | a :: r => by
    show frzWL fz h (.d a :: r.map .d) = _
    unfold frzWL
    simp only [show frzW fz h (.d a) = some (a, h) by unfold frzW; rfl, frzWL_d fz h r]
theorem frz_sub {h : Heap} {fr ex : Bool} {e : TypeId} {bs : List UInt8} {b off k m : Nat} (hg : h.get b = some (.cells fr e ((bytesD bs).map .d))) (hk : off + k ≤ bs.length) :
    frzL h [.sref b off 1 k m ex] = some ([rowD ((bs.drop off).take k)], (h.set b .dead).set b (.cells true e ((bytesD bs).map .d))) := by
  have hl : ((bs.drop off).take k).length = k := by rw [List.length_take, List.length_drop]; omega
  have h1 : fz3 h b off (k * 1) = some (bytesD ((bs.drop off).take k), (h.set b .dead).set b (.cells true e ((bytesD bs).map .d))) := by
    show (match h.get b with
      | some (.cells _ e cs) => match frzWL (fzBlk (fzBlk (fun _ _ _ _ => none))) (h.set b .dead) cs with
        | some (ds, h') => match Nat.ble (off + k * 1) ds.length with
          | true => some ((ds.drop off).take (k * 1), h'.set b (.cells true e (ds.map .d)))
          | false => none
        | none => none
      | _ => none) = _
    rw [hg]
    simp only [frzWL_d]
    rw [show Nat.ble (off + k * 1) (bytesD bs).length = true by rw [Nat.ble_eq, bytesD_length]; omega]
    simp only [Nat.mul_one]
    congr 2
    unfold bytesD
    rw [List.map_take, List.map_drop]
  have h2 : frz h (.sref b off 1 k m ex) = some (rowD ((bs.drop off).take k), (h.set b .dead).set b (.cells true e ((bytesD bs).map .d))) := by
    unfold frz
    show frzW fz3 h (.sref b off 1 k m ex) = _
    unfold frzW
    rw [h1]
    unfold rowD
    rw [hl]
  show (match frz h (.sref b off 1 k m ex) with
      | some (d, h1) => match (some ([], h1) : Option (List DV × Heap)) with
        | some (l, h2) => some (d :: l, h2)
        | none => none
      | none => none) = _
  rw [h2]
theorem row_more {g : Heap} {fr ex : Bool} {bs : List UInt8} {b off k m : Nat} {rows : List (List UInt8)} {v : AV} (hg : g.get b = some (.cells fr t_uint8 ((bytesD bs).map .d))) (hk : off + k ≤ bs.length) (hf : FA t_s_uint8 rows.length (rowsD rows) v g) (hnf : v ≠ .full false 0 []) (hl : rows.length + 1 ≤ 1000000000000) :
    ∃ v' g', s_app (g.push (.cells false t_s_uint8 [.sref b off 1 k m ex])) [] t_s_uint8 1 24 false (.c v) (.c (.sref g.n 0 1 1 1 true)) = .val v' g' ∧ FA t_s_uint8 (rows ++ [(bs.drop off).take k]).length (rowsD (rows ++ [(bs.drop off).take k])) v' g' ∧ v' ≠ .full false 0 [] ∧ g'.get b = some (.cells true t_uint8 ((bytesD bs).map .d)) := by
  have hg2 := push_of hg (.cells false t_s_uint8 [.sref b off 1 k m ex])
  have hsrc : srcView (g.push (.cells false t_s_uint8 [.sref b off 1 k m ex])) 1 (.sref g.n 0 1 1 1 true) = some (1, [.sref b off 1 k m ex]) := by
    unfold srcView slView; simp only [push_n]; rfl
  have hfP : FA t_s_uint8 rows.length (rowsD rows) v (g.push (.cells false t_s_uint8 [.sref b off 1 k m ex])) := hf.keep fun t g ht => (push_of ht _).trans ht.symm
  have hgd : ((g.push (.cells false t_s_uint8 [.sref b off 1 k m ex])).set b .dead).get b = some .dead := Heap.get_set_self hg2
  have hgz := Heap.get_set_self (b' := .cells true t_uint8 ((bytesD bs).map .d)) hgd
  have hfz : FA t_s_uint8 rows.length (rowsD rows) v (((g.push (.cells false t_s_uint8 [.sref b off 1 k m ex])).set b .dead).set b (.cells true t_uint8 ((bytesD bs).map .d))) := hfP.keep fun t gg ht => by
    have hne : b ≠ t := fun e => by subst e; rw [hg2] at ht; cases ht
    rw [Heap.get_set_ne hne, Heap.get_set_ne hne]
  obtain ⟨v', g', hs, hf2, hn2, hkeep⟩ := app_fz (bytes := 24) hfP hfz hsrc (frz_sub hg2 hk) (by omega) (by omega) (by omega) rfl hnf
  refine ⟨v', g', hs, ?_, hn2, hkeep b _ hgz (fun g e => by cases e)⟩
  rw [List.length_append, show rowsD (rows ++ [(bs.drop off).take k]) = rowsD rows ++ [rowD ((bs.drop off).take k)] from List.map_append]
  exact hf2
theorem cutF_step {bs : List UInt8} {k : Nat} (h : 4096 < bs.length) (hk : bs.length ≤ k + 1) : cutF (k + 1) bs = bs.take 4096 :: cutF k (bs.drop 4096) := by
  have hn : bs ≠ [] := fun e => by subst e; simp at h
  conv => lhs; unfold cutF
  rw [if_neg hn]
theorem cutF_last {bs : List UInt8} {k : Nat} (h0 : bs.length ≠ 0) (h : bs.length ≤ 4096) (hk : bs.length ≤ k) : cutF k bs = [bs] := by
  obtain ⟨k, rfl⟩ : ∃ j, k = j + 1 := ⟨k - 1, by omega⟩
  have hn : bs ≠ [] := fun e => by subst e; simp at h0
  conv => lhs; unfold cutF
  rw [if_neg hn, List.take_of_length_le h, List.drop_eq_nil_of_le h]
  cases k with
  | zero => rfl
  | succ k => unfold cutF; rw [if_pos rfl]
theorem sl_to {h : Heap} {b off n m : Nat} {ex : Bool} (hm : 4096 ≤ m) : s_slSl h [] 1 (.c (.sref b off 1 n m ex)) none (some (.c (mkI 4096))) none = .val (.sref b (off + 0 * 1) 1 (4096 - 0) (m - 0) (ex || false)) h := by
  have : (Nat.ble 0 4096 && Nat.ble 4096 m && Nat.ble m m && Nat.beq 1 1) = true := by
    simp only [Bool.and_eq_true, Nat.ble_eq]; exact ⟨⟨⟨by omega, hm⟩, Nat.le_refl _⟩, rfl⟩
  simp only [s_slSl, X.ev, optN, mkI, natA, intA, sliceA, Option.getD, Option.map, this, ov, Option.isSome]
theorem sl_off {h : Heap} {b off n m : Nat} {ex : Bool} (hn : 4096 ≤ n) (hm : n ≤ m) : s_slSl h [] 1 (.c (.sref b off 1 n m ex)) (some (.c (mkI 4096))) none none = .val (.sref b (off + 4096 * 1) 1 (n - 4096) (m - 4096) (ex || false)) h := by
  have : (Nat.ble 4096 n && Nat.ble n m && Nat.ble m m && Nat.beq 1 1) = true := by
    simp only [Bool.and_eq_true, Nat.ble_eq]; exact ⟨⟨⟨hn, hm⟩, Nat.le_refl _⟩, rfl⟩
  simp only [s_slSl, X.ev, optN, mkI, natA, intA, sliceA, Option.getD, Option.map, this, ov, Option.isSome]
theorem refCut_ok {h : Heap} {b m : Nat} {fr ex : Bool} {bs : List UInt8} (h0 : bs.length ≠ 0) (hlen : bs.length ≤ 10000000000) (hm : bs.length ≤ m) (hg : h.get b = some (.cells fr t_uint8 ((bytesD bs).map .d))) :
    ∃ v' h', Cal E f_foremanref04_Cut [.sref b 0 1 bs.length m ex] h (.nrm, v', h') ∧ ∃ t g, v' = .app t g (cutB bs).length (rowsD (cutB bs)) := by
  refine Cal.wrx n_foremanref04_Cut (.inl rfl) ?_
  refine .loop true (fun c tm g => ∃ off k mm ex fr v rows j, off + k = bs.length ∧ k ≤ j ∧ k ≠ 0 ∧ k ≤ c ∧ k ≤ mm ∧ rows.length + k ≤ bs.length ∧ rows ++ cutF j (bs.drop off) = cutB bs ∧ g.get b = some (.cells fr t_uint8 ((bytesD bs).map .d)) ∧ v ≠ .full false 0 [] ∧ FA t_s_uint8 rows.length (rowsD rows) v g ∧ St 27 [(0, .sref b off 1 k mm ex), (3, v)] tm) bs.length (by kernel_rfl)
    ⟨0, bs.length, m, ex, fr, .nilsl, [], bs.length, by omega, Nat.le_refl _, h0, Nat.le_refl _, hm, by simp, rfl, hg, (fun e => by cases e), .inl ⟨rfl, rfl, .inr rfl⟩, .of (by kernel_rfl) ⟨by kernel_rfl, by kernel_rfl, trivial⟩⟩ ?_
  rintro c tm g ⟨off, k, mm, ex, fr, v, rows, j, hok, hkj, hk0, hkc, hkm, hrl, hE, hg, hnf, hf, g', rfl⟩
  have hdl : (bs.drop off).length = k := by rw [List.length_drop]; omega
  refine .br (iLt 4096 (.ofNat k)) (by kernel_rfl) (fun e => ?_) (fun e => ?_)
  · have hk : 4096 < k := by rw [iLt_iff] at e; simp only [Int.ofNat_eq_natCast] at e; omega
    refine .opv (fun h => sl_to (h := h) (b := b) (off := off) (n := k) (m := mm) (ex := ex) (by omega)) (by kernel_rfl) ?_
    obtain ⟨v', g2, hs, hf2, hnf2, hg2⟩ := row_more (ex := (ex || false)) (m := mm - 0) (off := off + 0 * 1) (k := 4096 - 0) hg (by omega) hf hnf (by omega)
    refine .op hs (by kernel_rfl) ?_
    refine .opv (fun h => sl_off (h := h) (b := b) (off := off) (n := k) (m := mm) (ex := ex) (by omega) (by omega)) (by kernel_rfl) ?_
    refine .next (k - 4096) (by kernel_rfl) (by omega) ⟨off + 4096 * 1, k - 4096, mm - 4096, ex || false, true, v', rows ++ [(bs.drop (off + 0 * 1)).take (4096 - 0)], j - 1, by omega, by omega, by omega, Nat.le_refl _, by omega, by rw [List.length_append]; show rows.length + 1 + _ ≤ _; omega, ?_, Eq.trans (b := g2.get b) (by kernel_rfl) hg2, hnf2, ?_, .of (by kernel_rfl) ⟨by kernel_rfl, by kernel_rfl, trivial⟩⟩
    · rw [← hE, List.append_assoc, List.singleton_append]
      obtain ⟨j, rfl⟩ : ∃ i, j = i + 1 := ⟨j - 1, by omega⟩
      rw [cutF_step (by omega) (by omega), List.drop_drop]; rfl
    · have : ∀ x : Heap, x = g2 → FA t_s_uint8 (rows ++ [(bs.drop (off + 0 * 1)).take (4096 - 0)]).length (rowsD (rows ++ [(bs.drop (off + 0 * 1)).take (4096 - 0)])) v' x := fun x e => e ▸ hf2
      exact this _ (by kernel_rfl)
  · have hk : k ≤ 4096 := by rw [iLt_not] at e; simp only [Int.ofNat_eq_natCast] at e; omega
    refine .out true 1 (by kernel_rfl) ?_
    refine .br (iLt 0 (.ofNat k)) (by kernel_rfl) (fun _ => ?_) (fun e => ?_)
    · obtain ⟨v', g2, hs, hf2, hnf2, hg2⟩ := row_more (ex := ex) (m := mm) (off := off) (k := k) hg (by omega) hf hnf (by omega)
      refine .op hs (by kernel_rfl) ?_
      rw [List.take_of_length_le (by omega), show rows ++ [bs.drop off] = cutB bs by rw [← hE, cutF_last (by omega) (by omega) (by omega)]] at hf2
      obtain ⟨t, gg, rfl, ht⟩ := hf2.app (fun e => cutB_ne (fun e2 => by subst e2; exact h0 rfl) (List.length_eq_zero_iff.1 e))
      exact .retX (.app t gg (cutB bs).length (rowsD (cutB bs))) (by kernel_rfl) ⟨t, gg, rfl⟩
    · rw [iLt_not] at e; simp only [Int.ofNat_eq_natCast] at e; omega
end
end Go.Proofs.YtjacnbabnpgpaaaGreatDoor
