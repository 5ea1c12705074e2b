/- Contracts: slices.Chunk, batch.Cut. -/
import Derived.Test.YtjacnbabnpgpaaaGreatDoorK
import Derived.Test.YtjacnbabnpgpaaaGreatDoorF
namespace Go.Proofs.YtjacnbabnpgpaaaGreatDoor
noncomputable section
open Go Go.Abs
set_option maxRecDepth 100000
def cutF : Nat → List UInt8 → List (List UInt8)
  | 0, _ => []
  | k + 1, bs => if bs = [] then [] else bs.take 4096 :: cutF k (bs.drop 4096)
def cutB (bs : List UInt8) : List (List UInt8) := cutF bs.length bs
def argsC (rows : List (List UInt8)) : List (List AV) := rows.map fun r => [.full false r.length (bytesD r)]
theorem cutF_nil (k : Nat) : cutF k [] = [] := by cases k <;> rfl
theorem chunk1_ok {bs : List UInt8} {l : Nat} {h h' : Heap} (hlen : bs.length ≤ 7000000000000) (y : Ylds E l (argsC (cutB bs)) h h') :
    Cal E f_slices_Chunk_byte_1 [.fn (.yield l) [] [], .d (.bx false [.sl false bs.length (bytesD bs)] 0), .d (.bx false [.i .i64 4096] 0)] h (.nrm, .tup [], h') := by
  refine .wr n_slices_Chunk_byte_1 (.inr rfl) ?_
  refine .loop true (fun m tm g => ∃ i, bs.length - i ≤ m ∧ i ≤ bs.length + 4096 ∧ Ylds E l (argsC (cutF m (bs.drop i))) g h' ∧ St 31 [(0, .fn (.yield l) [] []), (1, .d (.bx false [.sl false bs.length (bytesD bs)] 0)), (2, .d (.bx false [.i .i64 4096] 0)), (4, mkI i)] tm) bs.length (by kernel_rfl)
    ⟨0, by omega, by omega, ?_, .of (by kernel_rfl) ⟨by kernel_rfl, by kernel_rfl, by kernel_rfl, by kernel_rfl, trivial⟩⟩ ?_
  · have : ∀ x : Heap, x = h → Ylds E l (argsC (cutF bs.length (bs.drop 0))) x h' := fun x e => e ▸ y
    exact this _ (by kernel_rfl)
  rintro m tm g ⟨i, him, hib, hy, g', rfl⟩
  refine .opv (load_bx1 E (b := false) (cs := [.sl false bs.length (bytesD bs)]) (j := 0) rfl) (by kernel_rfl) ?_
  refine .br (iLt (.ofNat i) (.ofNat bs.length)) (by kernel_rfl) (fun e => ?_) (fun e => ?_)
  · have hi : i < bs.length := by rw [iLt_iff] at e; simpa using e
    obtain ⟨m, rfl⟩ : ∃ k, m = k + 1 := ⟨m - 1, by omega⟩
    obtain ⟨c, hc⟩ : ∃ c, c = (if bs.length - i < 4096 then bs.length - i else 4096) := ⟨_, rfl⟩
    have hc1 : c ≤ bs.length - i := by rw [hc]; split <;> omega
    have hc2 : ((bs.drop i).take 4096).length = c := by rw [List.length_take, List.length_drop, hc]; split <;> omega
    have hc3 : ((bytesD bs).drop i).take c = bytesD ((bs.drop i).take 4096) := by
      unfold bytesD
      rw [← List.map_drop, ← List.map_take]
      congr 1
      rw [hc]
      split
      · rw [List.take_of_length_le (by rw [List.length_drop]; omega), List.take_of_length_le (by rw [List.length_drop]; omega)]
      · rfl
    have hdr : bs.drop i ≠ [] := fun h0 => by
      have := congrArg List.length h0
      rw [List.length_drop] at this
      simp at this; omega
    have hcut : cutF (m + 1) (bs.drop i) = (bs.drop i).take 4096 :: cutF m (bs.drop (i + 4096)) := by
      conv => lhs; unfold cutF
      rw [if_neg hdr, List.drop_drop]
    rw [hcut] at hy
    cases hy with
    | cons y1 s =>
    rename_i h2
    refine .opv (load_bx1 E (b := false) (cs := [.i .i64 4096]) (j := 0) rfl) (by kernel_rfl) ?_
    refine .opv (load_bx1 E (b := false) (cs := [.sl false bs.length (bytesD bs)]) (j := 0) rfl) (by kernel_rfl) ?_
    refine .opv (fun h => sl_from (h := h) (k := .i64) (b := false) (n := bs.length) (i := i) (cs := bytesD bs) (x := .ofNat i) rfl (bytesD_length _) (by omega)) (by kernel_rfl) ?_
    have hmn : ∀ h, s_mn h [] [.c (.d (.i .i64 4096)), .c (.d (.i .i64 (.ofNat (bs.length - i))))] = .val (.d (.i .i64 (.ofNat c))) h := fun h => by
      rw [mn2, hc]
      congr 4
      by_cases hlt : bs.length - i < 4096
      · rw [if_pos hlt, if_pos (by simp only [Int.ofNat_eq_natCast]; omega)]
      · rw [if_neg hlt, if_neg (by simp only [Int.ofNat_eq_natCast]; omega)]; rfl
    refine .opv hmn (by kernel_rfl) ?_
    refine .opv (load_bx1 E (b := false) (cs := [.sl false bs.length (bytesD bs)]) (j := 0) rfl) (by kernel_rfl) ?_
    have hw : wrap .i64 (.ofNat i + .ofNat c) = .ofNat (i + c) := by
      rw [wrap64 (by simp only [Int.ofNat_eq_natCast]; omega) (by simp only [Int.ofNat_eq_natCast]; omega)]; rfl
    have hsl : ∀ h, s_slSl h [] 1 (.c (.d (.sl false bs.length (bytesD bs)))) (some (.c (.d (.i .i64 (.ofNat i))))) (some (.c (.d (.i .i64 (wrap .i64 (.ofNat i + .ofNat c)))))) (some (.c (.d (.i .i64 (wrap .i64 (.ofNat i + .ofNat c)))))) = .val (.full false ((bs.drop i).take 4096).length (bytesD ((bs.drop i).take 4096))) h := fun h => by
      rw [sl_full (i := i) (j := i + c) rfl hw hw (by omega) (by omega), Nat.add_sub_cancel_left, hc2, hc3]
    refine .opv hsl (by kernel_rfl) ?_
    refine .yld y1 (by kernel_rfl) ?_
    refine .br false (by kernel_rfl) (fun e => by cases e) (fun _ => ?_)
    refine .opv (load_bx1 E (b := false) (cs := [.i .i64 4096]) (j := 0) rfl) (by kernel_rfl) ?_
    refine .next m (by kernel_rfl) (by omega) ⟨i + 4096, by omega, by omega, ?_, .of (by kernel_rfl) ⟨by kernel_rfl, by kernel_rfl, by kernel_rfl, ?_, trivial⟩⟩
    · have : ∀ x : Heap, x = h2 → Ylds E l (argsC (cutF m (bs.drop (i + 4096)))) x h' := fun x e => e ▸ s
      exact this _ (by kernel_rfl)
    · exact Eq.trans (b := .d (.i .i64 (wrap .i64 (.ofNat i + 4096)))) (by kernel_rfl) (by rw [wrap64 (by simp only [Int.ofNat_eq_natCast]; omega) (by simp only [Int.ofNat_eq_natCast]; omega)]; rfl)
  · have hi : bs.length ≤ i := by rw [iLt_not] at e; simp only [Int.ofNat_eq_natCast] at e; omega
    rw [List.drop_eq_nil_of_le hi, cutF_nil] at hy
    cases hy
    refine .out true 1 (by kernel_rfl) ?_
    exact .retR (by kernel_rfl) (by kernel_rfl)
theorem chunkN_ok {h : Heap} {t g n : Nat} {cs : List DV} : Cal E f_slices_Chunk_byte [.app t g n cs, .d (.i .i64 4096)] h (.nrm, .fn (.func f_slices_Chunk_byte_1) [] [.d (.bx false [.sl false n cs] 0), .d (.bx false [.i .i64 4096] 0)], h) := by
  refine .w n_slices_Chunk_byte rfl (ds := [.sl false n cs, .i .i64 4096]) (bor := false) rfl ?_
  refine .br false (by kernel_rfl) (fun e => by cases e) (fun _ => ?_)
  exact .retA' (.fn (.func f_slices_Chunk_byte_1) [] [.ptr 0 0, .ptr 1 0]) (by kernel_rfl) (by kernel_rfl)
end
end Go.Proofs.YtjacnbabnpgpaaaGreatDoor
