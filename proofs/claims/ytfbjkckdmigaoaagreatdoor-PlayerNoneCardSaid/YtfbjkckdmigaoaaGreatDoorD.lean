/- Contracts: strings.SplitSeq's rounds; a player that is none. -/
import Derived.Test.YtfbjkckdmigaoaaGreatDoorB
import Derived.Test.YtfbjkckdmigaoaaGreatDoorC
namespace Go.Proofs.YtfbjkckdmigaoaaGreatDoor
open Go Go.Abs
set_option maxRecDepth 100000
set_option maxHeartbeats 0
noncomputable section
theorem fn78 : E.fn 78 = some a78 := by kernel_rfl
structure SeqI (b0 b1 b2 : Nat) (s : List UInt8) (h : Heap) : Prop where
  s : h.get b0 = some (.cells false 9 [strV s])
  p : h.get b1 = some (.cells false 9 [strV [10]])
  n : h.get b2 = some (.cells false 3 [mkI 0])
structure Rounds (l b0 b1 b2 : Nat) (J : List (List UInt8) → Heap → Prop) : Prop where
  own : ∀ d s h s',J d h → SeqI b0 b1 b2 s h → J d (h.set b0 (.cells false 9 [strV s']))
  step : ∀ d x s h,d.length ≤ 200 → J d h → SeqI b0 b1 b2 s h → ∃ h',Rnd E l [strV x] h (.nrm,.d (.b true),h') ∧ J (d ++ [x]) h' ∧ SeqI b0 b1 b2 s h'
theorem seq_ok {l b0 b1 b2 : Nat} {J : List (List UInt8) → Heap → Prop} (R : Rounds l b0 b1 b2 J) (h01 : b0 ≠ b1) (h02 : b0 ≠ b2) {s : List UInt8} (hl : s.length ≤ 200) {h : Heap} (hj : J [] h) (hs : SeqI b0 b1 b2 s h) :
    ∃ h',Cal E 78 [.fn (.yield l) [] [],.ptr b1 0,.ptr b0 0,.ptr b2 0] h (.nrm,.tup [],h') ∧ J (parts s) h' := by
  have key : ∃ v' h',Cal E 78 [.fn (.yield l) [] [],.ptr b1 0,.ptr b0 0,.ptr b2 0] h (.nrm,v',h') ∧ (v' = .tup [] ∧ J (parts s) h') := by
    refine Cal.wrx (P := fun v' h' => v' = .tup [] ∧ J (parts s) h') fn78 (.inr rfl) ?_
    refine .op (load_ptr E (ag := false) (n := 1) (off := 0) hs.p rfl rfl) (by kernel_rfl) ?_
    refine .br false (by kernel_rfl) (fun e => nomatch e) (fun _ => ?_)
    refine .loop true (fun n tm hh => ∃ done rest,parts s = done ++ parts rest ∧ (parts rest).length = n ∧ rest.length ≤ 200 ∧ J done hh ∧ SeqI b0 b1 b2 rest hh ∧
      St 52 [(0,.fn (.yield l) [] []),(1,.ptr b1 0),(2,.ptr b0 0),(3,.ptr b2 0)] tm) (parts s).length (by kernel_rfl) ⟨[],s,rfl,rfl,hl,hj,hs,.of (by kernel_rfl) ⟨by kernel_rfl,by kernel_rfl,by kernel_rfl,by kernel_rfl,trivial⟩⟩ ?_
    rintro n tm hh ⟨done,rest,hp,hn,hrl,hj,hs,g',rfl⟩
    have hd : done.length ≤ 200 := by
      have e1 := parts_cnt s 0
      have e2 := cnt_le s 0
      have e3 := parts_cnt rest 0
      rw [hp,List.length_append] at e1
      omega
    refine .op (load_ptr E (ag := false) (n := 1) (off := 0) hs.s rfl rfl) (by kernel_rfl) ?_
    refine .op (load_ptr E (ag := false) (n := 1) (off := 0) hs.p rfl rfl) (by kernel_rfl) ?_
    rcases idx_cases rest 0 with ⟨h1,h2⟩ | ⟨m,h1,h2,h3⟩
    · have hcal := index_ok rest hh
      rw [h1] at hcal
      refine .call hcal (by kernel_rfl) ?_
      refine .br true (by kernel_rfl) (fun _ => ?_) (fun e => nomatch e)
      refine .out true 3 (by kernel_rfl) ?_
      refine .op (load_ptr E (ag := false) (n := 1) (off := 0) hs.s rfl rfl) (by kernel_rfl) ?_
      obtain ⟨h',hr,hj',_⟩ := R.step done rest rest hh hd hj hs
      refine .yld hr (by kernel_rfl) ?_
      refine .retX (.tup []) (by kernel_rfl) ⟨rfl,?_⟩
      rw [hp,h2]
      exact hj'
    · rw [Nat.zero_add] at h1
      refine .call (index_at h1 hh) (by kernel_rfl) ?_
      refine .br (iLt (.ofNat m) 0) (by kernel_rfl) (fun e => ?_) (fun _ => ?_)
      · rw [iLt_iff] at e; simp at e; omega
      refine .op (load_ptr E (ag := false) (n := 1) (off := 0) hs.s rfl rfl) (by kernel_rfl) ?_
      refine .op (load_ptr E (ag := false) (n := 1) (off := 0) hs.n rfl rfl) (by kernel_rfl) ?_
      refine .opv (slStr_to (k := .i64) (s := rest) (a := m) (x := wrap .i64 (.ofNat m + 0)) (by rw [wrap64 (by simp only [Int.ofNat_eq_natCast]; omega) (by simp only [Int.ofNat_eq_natCast]; omega)]; simp) (by omega)) (by kernel_rfl) ?_
      obtain ⟨h',hr,hj',hs'⟩ := R.step done (rest.take m) rest hh hd hj hs
      refine .yld hr (by kernel_rfl) ?_
      refine .br false (by kernel_rfl) (fun e => nomatch e) (fun _ => ?_)
      refine .op (load_ptr E (ag := false) (n := 1) (off := 0) hs'.s rfl rfl) (by kernel_rfl) ?_
      refine .op (load_ptr E (ag := false) (n := 1) (off := 0) hs'.p rfl rfl) (by kernel_rfl) ?_
      refine .opv (slStr_from (k := .i64) (s := rest) (a := m + 1) (x := wrap .i64 (.ofNat m + 1)) (by rw [wrap64 (by simp only [Int.ofNat_eq_natCast]; omega) (by simp only [Int.ofNat_eq_natCast]; omega)]; rfl) (by omega)) (by kernel_rfl) ?_
      refine .op (store_ptr (n := 1) (off := 0) (x := strV (rest.drop (m + 1))) hs'.s rfl) (by kernel_rfl) ?_
      have hlt : (parts (rest.drop (m + 1))).length + 1 = n := by rw [← hn,h3]; rfl
      refine .next (parts (rest.drop (m + 1))).length (by kernel_rfl) (by omega) ⟨done ++ [rest.take m],rest.drop (m + 1),by rw [hp,h3]; simp,rfl,by rw [List.length_drop]; omega,R.own _ _ _ _ hj' hs',⟨Heap.get_set_self hs'.s,?_,?_⟩,.of (by kernel_rfl) ⟨by kernel_rfl,by kernel_rfl,by kernel_rfl,by kernel_rfl,trivial⟩⟩
      · exact (Heap.get_set_ne h01).trans hs'.p
      · exact (Heap.get_set_ne h02).trans hs'.n
  obtain ⟨v',h',hc,rfl,hj'⟩ := key
  exact ⟨h',hc,hj'⟩
end
end Go.Proofs.YtfbjkckdmigaoaaGreatDoor
