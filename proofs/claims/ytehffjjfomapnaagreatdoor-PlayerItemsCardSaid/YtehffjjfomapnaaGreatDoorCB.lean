/- Contracts: strings.Split at <, strings.Contains of a blank. -/
import Derived.Test.YtehffjjfomapnaaGreatDoorCA
namespace Go.Proofs.YtehffjjfomapnaaGreatDoor
open Go Go.Abs
set_option maxRecDepth 100000
set_option maxHeartbeats 0
noncomputable section
theorem beq_nat (b c : UInt8) : Nat.beq b.toNat c.toNat = (b == c) := by
 rw [Bool.eq_iff_iff,Nat.beq_eq,beq_iff_eq]
 exact ⟨fun e => UInt8.toNat_inj.1 e,fun e => by rw [e]⟩
theorem spl_cnt (c : UInt8) : ∀ (s : List UInt8) (n : Nat),cntByte c.toNat s n + 1 = n + (splB c s).length := by
 intro s
 induction s with
 | nil => intro n; rfl
 | cons b r ih =>
  intro n
  unfold cntByte splB
  rw [beq_nat]
  cases b == c with
  | true => simp only [List.length_cons]; rw [ih]; omega
  | false =>
   simp only
   rw [ih]
   cases hp : splB c r with
   | nil => have := ih 0; rw [hp] at this; simp at this
   | cons p q => rfl
theorem cnt_le (c : Nat) : ∀ (s : List UInt8) (n : Nat),cntByte c s n ≤ n + s.length := by
 intro s
 induction s with
 | nil => intro n; exact Nat.le_refl _
 | cons b r ih =>
  intro n
  unfold cntByte
  cases Nat.beq b.toNat c with
  | true => have := ih (n + 1); simp only [List.length_cons]; omega
  | false => have := ih n; simp only [List.length_cons]; omega
theorem spl_ne (c : UInt8) (s : List UInt8) : splB c s ≠ [] := by
 intro e
 have := spl_cnt c s 0
 rw [e] at this
 simp at this
theorem idx_spl (c : UInt8) : ∀ (s : List UInt8) (i : Nat),(idxByte c.toNat s i = -1 ∧ splB c s = [s]) ∨ ∃ m,idxByte c.toNat s i = .ofNat (i + m) ∧ m < s.length ∧ splB c s = s.take m :: splB c (s.drop (m + 1)) := by
 intro s
 induction s with
 | nil => intro i; exact .inl ⟨rfl,rfl⟩
 | cons b r ih =>
  intro i
  unfold idxByte
  rw [beq_nat]
  cases hb : b == c with
  | true => refine .inr ⟨0,rfl,by simp,?_⟩; simp [splB,hb]
  | false =>
   rcases ih (i + 1) with ⟨h1,h2⟩ | ⟨m,h1,h2,h3⟩
   ·exact .inl ⟨h1,by simp [splB,hb,h2]⟩
   ·refine .inr ⟨m + 1,by simp only [h1]; congr 1; omega,by simp; omega,?_⟩
    simp [splB,hb,h3]
theorem index_ok (c : UInt8) (s : List UInt8) (h : Heap) : Cal E f_strings_Index [.d (.s s),.d (.s [c])] h (.nrm,.d (.i .i64 (idxByte c.toNat s 0)),h) := by
 refine .w n_strings_Index (by kernel_rfl) rfl ?_
 refine .callv (six_ok c s) (by kernel_rfl) ?_
 exact .ret rfl (by kernel_rfl)
theorem count_ok (s : List UInt8) (h : Heap) : Cal E f_strings_Count [.d (.s s),.d (.s [60])] h (.nrm,.d (.i .i64 (.ofNat (cntByte 60 s 0))),h) := by
 refine .w n_strings_Count (by kernel_rfl) rfl ?_
 refine .br false (by kernel_rfl) (fun e => nomatch e) (fun _ => ?_)
 refine .br true (by kernel_rfl) (fun _ => ?_) (fun e => nomatch e)
 refine .opR (by kernel_rfl) ?_
 refine .opR (by kernel_rfl) ?_
 exact .ret rfl (by kernel_rfl)
theorem idx_no (c : UInt8) {s : List UInt8} : idxByte c.toNat s 0 = -1 ↔ c ∉ s := by
 rcases idx_cut c s 0 with ⟨h1,h2⟩ | ⟨m,h1,h2,h3⟩
 ·refine ⟨fun _ hc => ?_,fun _ => h1⟩
  obtain ⟨a,b,rfl⟩ := List.append_of_mem hc
  have : ∀ a : List UInt8,(cutB c (a ++ c :: b)).2.2 = true := by
   intro a
   induction a with
   | nil => simp [cutB]
   | cons x a ih =>
    show (cutB c (x :: (a ++ c :: b))).2.2 = true
    unfold cutB
    cases x == c
    ·exact ih
    ·rfl
  have := this a
  rw [h2] at this; cases this
 ·refine ⟨fun e => (by rw [h1] at e; cases e),fun e => ?_⟩
  rw [cutB_none e] at h3; exact Bool.noConfusion (congrArg (fun p => p.2.2) h3)
theorem contains_no {s : List UInt8} (hs : (32 : UInt8) ∉ s) (h : Heap) : Cal E f_strings_Contains [.d (.s s),.d (.s [32])] h (.nrm,.d (.b false),h) := by
 refine .w n_strings_Contains (by kernel_rfl) rfl ?_
 have hc : ∀ h,Cal E f_strings_Index [.d (.s s),.d (.s [32])] h (.nrm,.d (.i .i64 (-1)),h) := fun h => by have := index_ok 32 s h; rwa [(idx_no 32).2 hs] at this
 refine .callv hc (by kernel_rfl) ?_
 exact .ret rfl (by kernel_rfl)
def strV (s : List UInt8) : AV := .d (.s s)
theorem allD_strs (bor : Bool) : ∀ l : List (List UInt8),allD bor (l.map strV) = true
 | [] => rfl
 | b :: l => by
  show (match bor && !(clean (.s b)) with | true => false | false => allD bor (l.map strV)) = true
  rw [allD_strs bor l]
  cases bor <;> rfl
theorem adopt_strs (bor : Bool) {h1 h : Heap} {b n m : Nat} {ex fr : Bool} {e : TypeId} {l : List (List UInt8)} (hb : h1.get b = some (.cells fr e (l.map strV))) :
  adopt bor h1 h (.sref b 0 1 n m ex) = some (.sref h.n 0 1 n m ex,h1.set b .dead,h.push (.cells fr e (l.map strV))) := by
 unfold adopt
 simp only [adopt1,adoptW,mv3,mvBlk,hb,allD_strs]
theorem iaS_sref {z b off n m j : Nat} {ex : Bool} {x : Int} (hx : x = .ofNat j) (hj : j < n) : ∀ h : Heap,s_iaS h [] z (.c (.sref b off 1 n m ex)) (.c (.d (.i .i64 x))) = .val (.ptr b (off + j * z)) h := by
 intro h
 subst hx
 simp only [s_iaS,X.ev,natA,intA]
 rw [show Nat.blt j n = true from by rw [Nat.blt_eq]; exact hj]
theorem repZ_str (n : Nat) : repZ [.d (.s [])] n = List.replicate n (strV []) := by
 induction n with
 | zero => rfl
 | succ n ih => show [_] ++ repZ _ n = _; rw [ih]; rfl
def rowC (done : List (List UInt8)) (k : Nat) : List AV := done.map strV ++ List.replicate k (strV [])
theorem rowC_set (done : List (List UInt8)) (k : Nat) (s : List UInt8) : putL (rowC done (k + 1)) (0 + done.length * 1) [strV s] = rowC (done ++ [s]) k := by
 show setL _ _ _ = _
 rw [setL_eq]
 unfold rowC
 rw [List.set_append_right _ _ (by simp),List.length_map]
 simp [List.replicate_succ]
theorem rowC_len (done : List (List UInt8)) (k : Nat) : (rowC done k).length = done.length + k := by simp [rowC]
theorem index_at {s : List UInt8} {m : Nat} (e : idxByte 60 s 0 = .ofNat m) (h : Heap) : Cal E f_strings_Index [.d (.s s),.d (.s [60])] h (.nrm,mkI m,h) := by
 have := index_ok 60 s h
 rwa [show (60 : UInt8).toNat = 60 from rfl,e] at this
theorem gs_ok (s : List UInt8) (hl : s.length ≤ 1000000) (h : Heap) : Cal E f_strings_genSplit [.d (.s s),.d (.s [60]),mkI 0,.d (.i .i64 (-1))] h
    (.nrm,.sref h.n 0 1 (splB 60 s).length (splB 60 s).length true,h.push (.cells false t_string ((splB 60 s).map strV))) := by
  have hK : cntByte 60 s 0 + 1 = 0 + (splB 60 s).length := spl_cnt 60 s 0
  have hc := cnt_le 60 s 0
  obtain ⟨K,hKe⟩ : ∃ K,K = (splB 60 s).length := ⟨_,rfl⟩
  rw [← hKe] at hK ⊢
  have hK1 : 1 ≤ K := by omega
  refine .w n_strings_genSplit (by kernel_rfl) rfl ?_
  refine .br false (by kernel_rfl) (fun e => nomatch e) (fun _ => ?_)
  refine .br false (by kernel_rfl) (fun e => nomatch e) (fun _ => ?_)
  refine .br true (by kernel_rfl) (fun _ => ?_) (fun e => nomatch e)
  refine .callv (count_ok s) (by kernel_rfl) ?_
  refine .opv (f := fun h => s_mn h [] [.c (.d (.i .i64 (wrap .i64 (.ofNat (cntByte 60 s 0) + 1)))),.c (.d (.i .i64 (wrap .i64 (.ofNat s.length + 1))))]) (v := mkI K) (fun h => by
    show s_mn h [] [.c (.d (.i .i64 (wrap .i64 (.ofNat (cntByte 60 s 0) + 1)))),.c (.d (.i .i64 (wrap .i64 (.ofNat s.length + 1))))] = _
    rw [mn2,wrap64 (by simp only [Int.ofNat_eq_natCast]; omega) (by simp only [Int.ofNat_eq_natCast]; omega),wrap64 (by simp only [Int.ofNat_eq_natCast]; omega) (by simp only [Int.ofNat_eq_natCast]; omega)]
    rw [if_neg (by simp only [Int.ofNat_eq_natCast]; omega)]
    show St1.val (.d (.i .i64 _)) h = St1.val (.d (.i .i64 (.ofNat K))) h
    congr 3
    simp only [Int.ofNat_eq_natCast]; omega) (by kernel_rfl) ?_
  refine .op (v := .sref 0 0 1 K K true) (h' := Heap.empty.push (.cells false t_string (rowC [] K))) (by
    show s_mksl .empty [] t_string 1 16 [.d (.s [])] (.c (mkI K)) (.c (mkI K)) = _
    have h1 : (Nat.ble K K && Nat.ble (K * 16) 140737488355328 && Nat.ble K 140737488355328) = true := by
      simp only [Bool.and_eq_true,Nat.ble_eq]; omega
    simp only [s_mksl,X.ev,mkI,natA,intA,h1,repZ_str]
    rfl) (by kernel_rfl) ?_
  refine .loop true (fun n tm hh => ∃ done rest,splB 60 s = done ++ splB 60 rest ∧ (splB 60 rest).length = n + 1 ∧ rest.length ≤ 1000000 ∧ hh.get 0 = some (.cells false t_string (rowC done (n + 1))) ∧
    St 66 [(0,.d (.s rest)),(1,.d (.s [60])),(2,mkI 0),(3,.d (.i .i64 (wrap .i64 (.ofNat K - 1)))),(9,.sref 0 0 1 K K true),(10,mkI done.length)] tm) (K - 1) (by kernel_rfl) ⟨[],s,rfl,by omega,hl,?_,.of (by kernel_rfl) ⟨by kernel_rfl,by kernel_rfl,by kernel_rfl,by kernel_rfl,by kernel_rfl,by kernel_rfl,trivial⟩⟩ ?_
  · have : K - 1 + 1 = K := by omega
    rw [this]
    exact push_n Heap.empty _
  rintro n tm hh ⟨done,rest,hp,hn,hrl,hg,g',rfl⟩
  have hlen : done.length + (n + 1) = K := by rw [hKe,hp,List.length_append,hn]
  have hwr : wrap .i64 (.ofNat K - 1) = .ofNat (K - 1) := by
    rw [wrap64 (by simp only [Int.ofNat_eq_natCast]; omega) (by simp only [Int.ofNat_eq_natCast]; omega)]
    simp only [Int.ofNat_eq_natCast]; omega
  rw [hwr]
  refine .br (iLt (.ofNat done.length) (.ofNat (K - 1))) (by kernel_rfl) (fun e => ?_) (fun e => ?_)
  · have hi : done.length < K - 1 := by rw [iLt_iff] at e; simpa using e
    obtain ⟨n,rfl⟩ : ∃ k,n = k + 1 := ⟨n - 1,by omega⟩
    rcases idx_spl 60 rest 0 with ⟨_,h2⟩ | ⟨m,h1,h2,h3⟩
    · rw [h2] at hn; simp at hn
    rw [Nat.zero_add] at h1
    refine .callv (index_at h1) (by kernel_rfl) ?_
    refine .br (iLt (.ofNat m) 0) (by kernel_rfl) (fun e => ?_) (fun _ => ?_)
    · rw [iLt_iff] at e; simp at e; omega
    refine .opv (slStr_to (k := .i64) (s := rest) (a := m) (x := wrap .i64 (.ofNat m + 0)) (by rw [wrap64 (by simp only [Int.ofNat_eq_natCast]; omega) (by simp only [Int.ofNat_eq_natCast]; omega)]; simp) (by omega)) (by kernel_rfl) ?_
    refine .opv (iaS_sref (z := 1) (b := 0) (off := 0) (n := K) (m := K) (ex := true) (j := done.length) rfl (by omega)) (by kernel_rfl) ?_
    refine .op (store_ptr (n := 1) (off := 0 + done.length * 1) (x := strV (rest.take m)) hg (by
      have : Nat.ble (0 + done.length * 1 + 1) (rowC done (n + 1 + 1)).length = true := by rw [Nat.ble_eq,rowC_len]; omega
      show (Nat.beq 1 1 && Nat.ble (0 + done.length * 1 + 1) (rowC done (n + 1 + 1)).length && true) = true
      rw [this]; rfl)) (by kernel_rfl) ?_
    refine .opv (slStr_from (k := .i64) (s := rest) (a := m + 1) (x := wrap .i64 (.ofNat m + 1)) (by rw [wrap64 (by simp only [Int.ofNat_eq_natCast]; omega) (by simp only [Int.ofNat_eq_natCast]; omega)]; rfl) (by omega)) (by kernel_rfl) ?_
    refine .next n (by kernel_rfl) (by omega) ⟨done ++ [rest.take m],rest.drop (m + 1),by rw [hp,h3]; simp,by rw [h3] at hn; simpa using hn,by rw [List.length_drop]; omega,?_,.of (by kernel_rfl) ⟨by kernel_rfl,by kernel_rfl,by kernel_rfl,?_,by kernel_rfl,?_,trivial⟩⟩
    · have := rowC_set done (n + 1) (rest.take m)
      rw [← this]
      exact Heap.get_set_self hg
    · exact Eq.trans (b := mkI (K - 1)) (by kernel_rfl) rfl
    · exact Eq.trans (b := .d (.i .i64 (wrap .i64 (.ofNat done.length + 1)))) (by kernel_rfl) (by
        rw [wrap64 (by simp only [Int.ofNat_eq_natCast]; omega) (by simp only [Int.ofNat_eq_natCast]; omega),List.length_append]; rfl)
  · have hd : done.length = K - 1 := by rw [iLt_not] at e; simp only [Int.ofNat_eq_natCast] at e; omega
    have hn0 : n = 0 := by omega
    subst hn0
    have hr1 : splB 60 rest = [rest] := by
      rcases idx_spl 60 rest 0 with ⟨_,h2⟩ | ⟨m,h1,h2,h3⟩
      · exact h2
      · rw [h3] at hn
        have := spl_ne 60 (rest.drop (m + 1))
        cases hq : splB 60 (rest.drop (m + 1)) with
        | nil => exact absurd hq this
        | cons a r => rw [hq] at hn; simp at hn
    refine .out true 1 (by kernel_rfl) ?_
    refine .opv (iaS_sref (z := 1) (b := 0) (off := 0) (n := K) (m := K) (ex := true) (j := done.length) rfl (by omega)) (by kernel_rfl) ?_
    refine .op (store_ptr (n := 1) (off := 0 + done.length * 1) (x := strV rest) hg (by
      have : Nat.ble (0 + done.length * 1 + 1) (rowC done (0 + 1)).length = true := by rw [Nat.ble_eq,rowC_len]; omega
      show (Nat.beq 1 1 && Nat.ble (0 + done.length * 1 + 1) (rowC done (0 + 1)).length && true) = true
      rw [this]; rfl)) (by kernel_rfl) ?_
    have hw2 : wrap .i64 (.ofNat done.length + 1) = .ofNat K := by
      rw [wrap64 (by simp only [Int.ofNat_eq_natCast]; omega) (by simp only [Int.ofNat_eq_natCast]; omega)]
      simp only [Int.ofNat_eq_natCast]; omega
    refine .opv (f := fun h => s_slSl h [] 1 (.c (.sref 0 0 1 K K true)) none (some (.c (.d (.i .i64 (wrap .i64 (.ofNat done.length + 1)))))) none) (v := .sref 0 0 1 K K true) (fun h => by
      show s_slSl h [] 1 (.c (.sref 0 0 1 K K true)) none (some (.c (.d (.i .i64 (wrap .i64 (.ofNat done.length + 1)))))) none = _
      rw [hw2]
      have h1 : (Nat.ble 0 K && Nat.ble K K && Nat.ble K K && Nat.beq 1 1) = true := by simp only [Bool.and_eq_true,Nat.ble_eq]; exact ⟨⟨⟨Nat.zero_le _,Nat.le_refl _⟩,Nat.le_refl _⟩,rfl⟩
      simp only [s_slSl,optN,X.ev,natA,intA,Option.map_some,sliceA,Option.getD_some,Option.getD_none,h1,ov,Nat.zero_mul,Nat.add_zero,Nat.sub_zero]
      rfl) (by kernel_rfl) ?_
    have hrow : putL (rowC done (0 + 1)) (0 + done.length * 1) [strV rest] = (splB 60 s).map strV := by
      rw [rowC_set,hp,hr1]; simp [rowC]
    exact .retA (h2 := _) (.sref 0 0 1 K K true) (by kernel_rfl) (adopt_strs _ (by
      show Heap.get _ 0 = some (.cells false t_string ((splB 60 s).map strV))
      rw [← hrow]
      exact Heap.get_set_self hg))
theorem split_ok (s : List UInt8) (hl : s.length ≤ 1000000) (h : Heap) : Cal E f_strings_Split [.d (.s s),.d (.s [60])] h
  (.nrm,.sref h.n 0 1 (splB 60 s).length (splB 60 s).length true,h.push (.cells false t_string ((splB 60 s).map strV))) := by
 refine .w n_strings_Split (by kernel_rfl) rfl ?_
 refine .call (gs_ok s hl .empty) (by kernel_rfl) ?_
 exact .retA (h2 := _) (.sref 0 0 1 (splB 60 s).length (splB 60 s).length true) (by kernel_rfl) (adopt_strs _ (push_n Heap.empty _))
end
end Go.Proofs.YtehffjjfomapnaaGreatDoor
