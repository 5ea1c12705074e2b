/- Contracts: the document's batches: how long what they write is. -/
import Derived.Test.YtjacnbabnpgpaaaGreatDoorAM
namespace Go.Proofs.YtjacnbabnpgpaaaGreatDoor
noncomputable section
open Go Go.Abs
set_option maxRecDepth 100000
theorem refBatch_ok {h : Heap} {args : List AV} {bor b : Bool} {rows : List (List UInt8)} (hr : Rows rows) (h0 : ∀ r ∈ rows, r.length ≠ 0) (ha : stripArgs h args = some ([.sl b rows.length (rowsD rows)], bor)) :
    ∃ out : List UInt8, out.length = longR rows ∧ Cal E f_foremanref04_Put args h (.nrm, .tup [ownB h out, .d (.i .i64 0)], ownH h) := by
  have key : ∃ v' h', Cal E f_foremanref04_Put args h (.nrm, v', h') ∧ ∃ out : List UInt8, out.length = longR rows ∧ v' = .tup [ownB h out, .d (.i .i64 0)] ∧ h' = ownH h := by
    obtain ⟨hn0, hn1, hle⟩ := hr
    refine Cal.wy n_foremanref04_Put rfl ha ?_
    refine .br (iLt (.ofNat rows.length) 1) (by kernel_rfl) (fun e => ?_) (fun _ => ?_)
    · rw [iLt_iff] at e; simp only [Int.ofNat_eq_natCast] at e; omega
    refine .br (iLt 1024 (.ofNat rows.length)) (by kernel_rfl) (fun e => ?_) (fun _ => ?_)
    · rw [iLt_iff] at e; simp only [Int.ofNat_eq_natCast] at e; omega
    refine .loop true (fun m tm g => ∃ i v bs, i + m = rows.length ∧ bs.length = 9 * i + sumL (rows.take i) ∧ FA t_uint8 bs.length (bytesD bs) v g ∧ St 50 [(0, .d (.sl b rows.length (rowsD rows))), (4, v), (5, mkI i)] tm) rows.length (by kernel_rfl)
      ⟨0, .nilsl, [], by omega, rfl, .inl ⟨rfl, rfl, .inr rfl⟩, .of (by kernel_rfl) ⟨by kernel_rfl, by kernel_rfl, by kernel_rfl, trivial⟩⟩ ?_
    rintro m tm g ⟨i, v, bs, him, hbl, hf, g', rfl⟩
    have hle2 : sumL (rows.take i) ≤ 4096 * (rows.take i).length := sumL_le fun r hr => hle r (List.mem_of_mem_take hr)
    rw [List.length_take] at hle2
    refine .br (iLt (.ofNat i) (.ofNat rows.length)) (by kernel_rfl) (fun e => ?_) (fun e => ?_)
    · have hi : i < rows.length := by rw [iLt_iff] at e; simpa using e
      obtain ⟨m, rfl⟩ : ∃ k, m = k + 1 := ⟨m - 1, by omega⟩
      have hrl := hle rows[i] (List.getElem_mem hi)
      have hs : sumL (rows.take (i + 1)) = sumL (rows.take i) + rows[i].length := by
        rw [List.take_add_one, List.getElem?_eq_getElem hi, sumL_append]; rfl
      obtain ⟨out, ho, hc⟩ := refPut_ok (h := g) (k := 1) (args := [.agg [.d (.i .u8 1), .d (rowD rows[i])]]) (bor := false) (b := false) (bs := rows[i]) (.inl rfl) (h0 _ (List.getElem_mem hi)) hrl rfl
      refine .opv (iaS_sl (k := .i64) (z := 1) (b := b) (n := rows.length) (cs := rowsD rows) (j := i) rfl hi) (by kernel_rfl) ?_
      refine .opv (load_bx1 E (b := b) (cs := rowsD rows) (j := i) (x := rowD rows[i]) (by unfold rowsD; rw [List.getElem?_map, List.getElem?_eq_getElem hi]; rfl)) (by kernel_rfl) ?_
      refine .call hc (by kernel_rfl) ?_
      refine .br false (by kernel_rfl) (fun e => by cases e) (fun _ => ?_)
      obtain ⟨v', g2, ha2, hf4, _⟩ := app_own (bs2 := out) hf (by rw [List.length_append]; omega)
      refine .op ha2 (by kernel_rfl) ?_
      refine .next m (by kernel_rfl) (by omega) ⟨i + 1, v', bs ++ out, by omega, by rw [List.length_append, ho, hs]; omega, ?_, .of (by kernel_rfl) ⟨by kernel_rfl, by kernel_rfl, ?_, trivial⟩⟩
      · have : ∀ x : Heap, x = g2 → FA t_uint8 (bs ++ out).length (bytesD (bs ++ out)) v' x := fun x e => e ▸ hf4
        exact this _ (by kernel_rfl)
      · exact Eq.trans (b := .d (.i .i64 (wrap .i64 (.ofNat i + 1)))) (by kernel_rfl) (inc63 (by omega))
    · have : m = 0 := by rw [iLt_not] at e; simp only [Int.ofNat_eq_natCast] at e; omega
      subst this
      have hin : i = rows.length := by omega
      subst hin
      refine .out true 1 (by kernel_rfl) ?_
      have f1 := four3_ok (h := g) (a := rows.length) (by omega)
      rw [show ownB g (fourN 4 rows.length) = .app g.n 0 4 (bytesD (fourN 4 rows.length)) by unfold ownB; rw [fourN_len]] at f1
      refine .call f1 (by kernel_rfl) ?_
      obtain ⟨out, ho, hc⟩ := refPut_ok (h := ownH g) (k := 2) (args := [.agg [.d (.i .u8 2), .d (.sl false 2 (bytesD (fourN 2 rows.length)))]]) (bor := false) (b := false) (bs := fourN 2 rows.length) (.inr rfl) (by rw [fourN_len]; omega) (by rw [fourN_len]; omega) rfl
      rw [fourN_len] at ho
      have hsl : s_slSl (ownH g) [] 1 (.c (.app g.n 0 4 (bytesD (fourN 4 rows.length)))) none (some (.c (mkI 2))) none = .val (.d (.sl false 2 (bytesD (fourN 2 rows.length)))) (ownH g) := rfl
      refine .op hsl (by kernel_rfl) ?_
      refine .call hc (by kernel_rfl) ?_
      have hf2 : FA t_uint8 bs.length (bytesD bs) v (ownH g) := hf.keep fun t g ht => (push_of ht _).trans ht.symm
      obtain ⟨v', g2, ha2, hf4, _⟩ := app_own (bs2 := out) hf2 (by rw [List.length_append]; omega)
      refine .op ha2 (by kernel_rfl) ?_
      have hlen : (bs ++ out).length = longR rows := by
        rw [List.length_append, ho, hbl, List.take_length]; unfold longR; omega
      obtain ⟨t, gg, rfl, ht⟩ := hf4.app (by rw [hlen]; unfold longR; omega)
      exact .retYT ht (cleanL_bytes _) rfl (by kernel_rfl) (by kernel_rfl) ⟨bs ++ out, hlen, rfl, rfl⟩
  obtain ⟨v', h', hc, out, ho, rfl, rfl⟩ := key
  exact ⟨out, ho, hc⟩
end
end Go.Proofs.YtjacnbabnpgpaaaGreatDoor
