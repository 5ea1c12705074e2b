/- Contracts: strings.Split at a line's end. -/
import Derived.Test.YtfbjkckdmigaoaaGreatDoorA
namespace Go.Proofs.YtfbjkckdmigaoaaGreatDoor
open Go Go.Abs
set_option maxRecDepth 100000
noncomputable section
def strV (s : List UInt8) : AV := .d (.s s)
theorem allD_strs (bor : Bool) : ∀ l : List (List UInt8),allD bor (l.map strV) = true
  | [] => rfl
  | b :: l => by
    show (match bor && !(clean (.s b)) with | true => false | false => allD bor (l.map strV)) = true
    rw [allD_strs bor l]
    cases bor <;> rfl
theorem adopt_strs (bor : Bool) {h1 h : Heap} {b n m : Nat} {ex fr : Bool} {e : TypeId} {l : List (List UInt8)} (hb : h1.get b = some (.cells fr e (l.map strV))) :
    adopt bor h1 h (.sref b 0 1 n m ex) = some (.sref h.n 0 1 n m ex,h1.set b .dead,h.push (.cells fr e (l.map strV))) := by
  unfold adopt
  simp only [adopt1,adoptW,mv3,mvBlk,hb,allD_strs]
theorem iaS_sref {z b off n m j : Nat} {ex : Bool} {x : Int} (hx : x = .ofNat j) (hj : j < n) : ∀ h : Heap,s_iaS h [] z (.c (.sref b off 1 n m ex)) (.c (.d (.i .i64 x))) = .val (.ptr b (off + j * z)) h := by
  intro h
  subst hx
  simp only [s_iaS,X.ev,natA,intA]
  rw [show Nat.blt j n = true from by rw [Nat.blt_eq]; exact hj]
theorem repZ_str (n : Nat) : repZ [.d (.s [])] n = List.replicate n (strV []) := by
  induction n with
  | zero => rfl
  | succ n ih => show [_] ++ repZ _ n = _; rw [ih]; rfl
theorem setL_eq : ∀ (l : List AV) (i : Nat) (x : AV),setL l i x = l.set i x := by
  intro l
  induction l with
  | nil => intro i x; exact setL_nil i x
  | cons a r ih => intro i x; cases i with
    | zero => exact setL_zero a r x
    | succ i => rw [setL_succ,ih]; rfl
def rowC (done : List (List UInt8)) (k : Nat) : List AV := done.map strV ++ List.replicate k (strV [])
theorem rowC_set (done : List (List UInt8)) (k : Nat) (s : List UInt8) : putL (rowC done (k + 1)) (0 + done.length * 1) [strV s] = rowC (done ++ [s]) k := by
  show setL _ _ _ = _
  rw [setL_eq]
  unfold rowC
  rw [List.set_append_right _ _ (by simp),List.length_map]
  simp [List.replicate_succ]
theorem rowC_len (done : List (List UInt8)) (k : Nat) : (rowC done k).length = done.length + k := by simp [rowC]
theorem index_at {s : List UInt8} {m : Nat} (e : idxByte 10 s 0 = .ofNat m) (h : Heap) : Cal E 23 [.d (.s s),.d (.s [10])] h (.nrm,mkI m,h) := by
  have := index_ok s h
  rw [e] at this
  exact this
theorem fn10 : E.fn 10 = some a10 := by kernel_rfl
theorem fn5 : E.fn 5 = some a5 := by kernel_rfl
theorem gs_ok (s : List UInt8) (hl : s.length ≤ 200) (h : Heap) : Cal E 10 [.d (.s s),.d (.s [10]),mkI 0,.d (.i .i64 (-1))] h
    (.nrm,.sref h.n 0 1 (parts s).length (parts s).length true,h.push (.cells false 9 ((parts s).map strV))) := by
  have hK := parts_cnt s 0
  have hc := cnt_le s 0
  obtain ⟨K,hKe⟩ : ∃ K,K = (parts s).length := ⟨_,rfl⟩
  rw [← hKe] at hK ⊢
  have hK1 : 1 ≤ K := by omega
  refine .w fn10 rfl rfl ?_
  refine .br false (by kernel_rfl) (fun e => nomatch e) (fun _ => ?_)
  refine .br false (by kernel_rfl) (fun e => nomatch e) (fun _ => ?_)
  refine .br true (by kernel_rfl) (fun _ => ?_) (fun e => nomatch e)
  refine .callv (count_ok s) (by kernel_rfl) ?_
  refine .opv (f := fun h => s_mn h [] [.c (.d (.i .i64 (wrap .i64 (.ofNat (cntByte 10 s 0) + 1)))),.c (.d (.i .i64 (wrap .i64 (.ofNat s.length + 1))))]) (v := mkI K) (fun h => by
    show s_mn h [] [.c (.d (.i .i64 (wrap .i64 (.ofNat (cntByte 10 s 0) + 1)))),.c (.d (.i .i64 (wrap .i64 (.ofNat s.length + 1))))] = _
    rw [mn2,wrap64 (by simp only [Int.ofNat_eq_natCast]; omega) (by simp only [Int.ofNat_eq_natCast]; omega),wrap64 (by simp only [Int.ofNat_eq_natCast]; omega) (by simp only [Int.ofNat_eq_natCast]; omega)]
    rw [if_neg (by simp only [Int.ofNat_eq_natCast]; omega)]
    show St1.val (.d (.i .i64 _)) h = St1.val (.d (.i .i64 (.ofNat K))) h
    congr 3
    simp only [Int.ofNat_eq_natCast]; omega) (by kernel_rfl) ?_
  refine .op (v := .sref 0 0 1 K K true) (h' := Heap.empty.push (.cells false 9 (rowC [] K))) (by
    show s_mksl .empty [] 9 1 16 [.d (.s [])] (.c (mkI K)) (.c (mkI K)) = _
    have h1 : (Nat.ble K K && Nat.ble (K * 16) 140737488355328 && Nat.ble K 140737488355328) = true := by
      simp only [Bool.and_eq_true,Nat.ble_eq]; omega
    simp only [s_mksl,X.ev,mkI,natA,intA,h1,repZ_str]
    rfl) (by kernel_rfl) ?_
  refine .loop true (fun n tm hh => ∃ done rest,parts s = done ++ parts rest ∧ (parts rest).length = n + 1 ∧ rest.length ≤ 200 ∧ hh.get 0 = some (.cells false 9 (rowC done (n + 1))) ∧
    St 66 [(0,.d (.s rest)),(1,.d (.s [10])),(2,mkI 0),(3,.d (.i .i64 (wrap .i64 (.ofNat K - 1)))),(9,.sref 0 0 1 K K true),(10,mkI done.length)] tm) (K - 1) (by kernel_rfl) ⟨[],s,rfl,by omega,hl,?_,.of (by kernel_rfl) ⟨by kernel_rfl,by kernel_rfl,by kernel_rfl,by kernel_rfl,by kernel_rfl,by kernel_rfl,trivial⟩⟩ ?_
  · have : K - 1 + 1 = K := by omega
    rw [this]
    exact push_n Heap.empty _
  rintro n tm hh ⟨done,rest,hp,hn,hrl,hg,g',rfl⟩
  have hlen : done.length + (n + 1) = K := by rw [hKe,hp,List.length_append,hn]
  have hwr : wrap .i64 (.ofNat K - 1) = .ofNat (K - 1) := by
    rw [wrap64 (by simp only [Int.ofNat_eq_natCast]; omega) (by simp only [Int.ofNat_eq_natCast]; omega)]
    simp only [Int.ofNat_eq_natCast]; omega
  rw [hwr]
  refine .br (iLt (.ofNat done.length) (.ofNat (K - 1))) (by kernel_rfl) (fun e => ?_) (fun e => ?_)
  · have hi : done.length < K - 1 := by rw [iLt_iff] at e; simpa using e
    obtain ⟨n,rfl⟩ : ∃ k,n = k + 1 := ⟨n - 1,by omega⟩
    rcases idx_cases rest 0 with ⟨_,h2⟩ | ⟨m,h1,h2,h3⟩
    · rw [h2] at hn; simp at hn
    rw [Nat.zero_add] at h1
    refine .callv (index_at h1) (by kernel_rfl) ?_
    refine .br (iLt (.ofNat m) 0) (by kernel_rfl) (fun e => ?_) (fun _ => ?_)
    · rw [iLt_iff] at e; simp at e; omega
    refine .opv (slStr_to (k := .i64) (s := rest) (a := m) (x := wrap .i64 (.ofNat m + 0)) (by rw [wrap64 (by simp only [Int.ofNat_eq_natCast]; omega) (by simp only [Int.ofNat_eq_natCast]; omega)]; simp) (by omega)) (by kernel_rfl) ?_
    refine .opv (iaS_sref (z := 1) (b := 0) (off := 0) (n := K) (m := K) (ex := true) (j := done.length) rfl (by omega)) (by kernel_rfl) ?_
    refine .op (store_ptr (n := 1) (off := 0 + done.length * 1) (x := strV (rest.take m)) hg (by
      have : Nat.ble (0 + done.length * 1 + 1) (rowC done (n + 1 + 1)).length = true := by rw [Nat.ble_eq,rowC_len]; omega
      show (Nat.beq 1 1 && Nat.ble (0 + done.length * 1 + 1) (rowC done (n + 1 + 1)).length && true) = true
      rw [this]; rfl)) (by kernel_rfl) ?_
    refine .opv (slStr_from (k := .i64) (s := rest) (a := m + 1) (x := wrap .i64 (.ofNat m + 1)) (by rw [wrap64 (by simp only [Int.ofNat_eq_natCast]; omega) (by simp only [Int.ofNat_eq_natCast]; omega)]; rfl) (by omega)) (by kernel_rfl) ?_
    refine .next n (by kernel_rfl) (by omega) ⟨done ++ [rest.take m],rest.drop (m + 1),by rw [hp,h3]; simp,by rw [h3] at hn; simpa using hn,by rw [List.length_drop]; omega,?_,.of (by kernel_rfl) ⟨by kernel_rfl,by kernel_rfl,by kernel_rfl,?_,by kernel_rfl,?_,trivial⟩⟩
    · have := rowC_set done (n + 1) (rest.take m)
      rw [← this]
      exact Heap.get_set_self hg
    · exact Eq.trans (b := mkI (K - 1)) (by kernel_rfl) rfl
    · exact Eq.trans (b := .d (.i .i64 (wrap .i64 (.ofNat done.length + 1)))) (by kernel_rfl) (by
        rw [wrap64 (by simp only [Int.ofNat_eq_natCast]; omega) (by simp only [Int.ofNat_eq_natCast]; omega),List.length_append]; rfl)
  · have hd : done.length = K - 1 := by rw [iLt_not] at e; simp only [Int.ofNat_eq_natCast] at e; omega
    have hn0 : n = 0 := by omega
    subst hn0
    have hr1 : parts rest = [rest] := by
      rcases idx_cases rest 0 with ⟨_,h2⟩ | ⟨m,h1,h2,h3⟩
      · exact h2
      · rw [h3] at hn
        have := parts_ne (rest.drop (m + 1))
        cases hq : parts (rest.drop (m + 1)) with
        | nil => exact absurd hq this
        | cons a r => rw [hq] at hn; simp at hn
    refine .out true 1 (by kernel_rfl) ?_
    refine .opv (iaS_sref (z := 1) (b := 0) (off := 0) (n := K) (m := K) (ex := true) (j := done.length) rfl (by omega)) (by kernel_rfl) ?_
    refine .op (store_ptr (n := 1) (off := 0 + done.length * 1) (x := strV rest) hg (by
      have : Nat.ble (0 + done.length * 1 + 1) (rowC done (0 + 1)).length = true := by rw [Nat.ble_eq,rowC_len]; omega
      show (Nat.beq 1 1 && Nat.ble (0 + done.length * 1 + 1) (rowC done (0 + 1)).length && true) = true
      rw [this]; rfl)) (by kernel_rfl) ?_
    have hw2 : wrap .i64 (.ofNat done.length + 1) = .ofNat K := by
      rw [wrap64 (by simp only [Int.ofNat_eq_natCast]; omega) (by simp only [Int.ofNat_eq_natCast]; omega)]
      simp only [Int.ofNat_eq_natCast]; omega
    refine .opv (f := fun h => s_slSl h [] 1 (.c (.sref 0 0 1 K K true)) none (some (.c (.d (.i .i64 (wrap .i64 (.ofNat done.length + 1)))))) none) (v := .sref 0 0 1 K K true) (fun h => by
      show s_slSl h [] 1 (.c (.sref 0 0 1 K K true)) none (some (.c (.d (.i .i64 (wrap .i64 (.ofNat done.length + 1)))))) none = _
      rw [hw2]
      have h1 : (Nat.ble 0 K && Nat.ble K K && Nat.ble K K && Nat.beq 1 1) = true := by simp only [Bool.and_eq_true,Nat.ble_eq]; exact ⟨⟨⟨Nat.zero_le _,Nat.le_refl _⟩,Nat.le_refl _⟩,rfl⟩
      simp only [s_slSl,optN,X.ev,natA,intA,Option.map_some,sliceA,Option.getD_some,Option.getD_none,h1,ov,Nat.zero_mul,Nat.add_zero,Nat.sub_zero]
      rfl) (by kernel_rfl) ?_
    have hrow : putL (rowC done (0 + 1)) (0 + done.length * 1) [strV rest] = (parts s).map strV := by
      rw [rowC_set,hp,hr1]; simp [rowC]
    exact .retA (h2 := _) (.sref 0 0 1 K K true) (by kernel_rfl) (adopt_strs _ (by
      show Heap.get _ 0 = some (.cells false 9 ((parts s).map strV))
      rw [← hrow]
      exact Heap.get_set_self hg))
theorem split_ok (s : List UInt8) (hl : s.length ≤ 200) (h : Heap) : Cal E 5 [.d (.s s),.d (.s [10])] h
    (.nrm,.sref h.n 0 1 (parts s).length (parts s).length true,h.push (.cells false 9 ((parts s).map strV))) := by
  refine .w fn5 rfl rfl ?_
  refine .call (gs_ok s hl .empty) (by kernel_rfl) ?_
  exact .retA (h2 := _) (.sref 0 0 1 (parts s).length (parts s).length true) (by kernel_rfl) (adopt_strs _ (push_n Heap.empty _))
end
end Go.Proofs.YtfbjkckdmigaoaaGreatDoor
