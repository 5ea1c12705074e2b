/- foremanlaw30.PlayerNone, whatever the line. -/
import Derived.Test.YtfbjkckdmigaoaaGreatDoorE1
namespace Go.Proofs.YtfbjkckdmigaoaaGreatDoor
open Go Go.Abs
set_option maxRecDepth 100000
set_option maxHeartbeats 0
noncomputable section
theorem fn3 : E.fn 3 = some a3 := by kernel_rfl
theorem strEq_self (s : List UInt8) : strEq s s = true := by simp [strEq]
theorem readN_at : ∀ {cs : List AV} {i : Nat} {x : AV},cs[i]? = some x → readN cs i 1 = some [x] := by
  intro cs
  induction cs with
  | nil => intro i x h; simp at h
  | cons a r ih =>
    intro i x h
    cases i with
    | zero =>
      simp at h; subst h
      cases r <;> rfl
    | succ i =>
      show readN r i 1 = _
      exact ih (by simpa using h)
theorem add_str {a b : List UInt8} (hl : a.length + b.length ≤ 70368744177664) (h : Heap) : s_bin h [] .add .bad (.c (.d (.s a))) (.c (.d (.s b))) = .val (.d (.s (a ++ b))) h := by
  have hb : Nat.ble (a.length + b.length) 70368744177664 = true := by rw [Nat.ble_eq]; exact hl
  simp only [s_bin,X.ev,binA,intA,strA,strOp,hb]
  rfl
structure LI (h : Heap) : Prop where
  p : h.get 0 = some (.cells false 27 [.d .nilp,.d .nilp,mkI 0])
  l : h.get 1 = some (.cells false 23 [.d .nilp,.ptr 0 0])
theorem LI.old {h h' : Heap} (i : LI h) (o : Old h h') : LI h' := ⟨o _ _ i.p (fun g e => by cases e),o _ _ i.l (fun g e => by cases e)⟩
theorem LI.push {h : Heap} (i : LI h) (b : Blk) : LI (h.push b) := ⟨push_of i.p b,push_of i.l b⟩
theorem law_ok (aw_ok : ∀ h,Cal E 4 [] h (.nrm,.d (.b true),h)) (line : List UInt8) (h : Heap) : Cal E 3 [strV line] h (.nrm,.d (.b true),h) := by
  refine .w fn3 rfl rfl ?_
  refine .br (iLt (.ofNat 200) (.ofNat line.length)) (by kernel_rfl) (fun e => ?_) (fun e => ?_)
  · refine .callv aw_ok (by kernel_rfl) ?_
    exact .ret rfl (by kernel_rfl)
  have hl : line.length ≤ 200 := by rw [iLt_not] at e; simp only [Int.ofNat_eq_natCast] at e; omega
  refine .loop true (fun n tm hh => ∃ i,i + n = 2 ∧ LI hh ∧ St 52 [(0,strV line),(14,.sref 1 0 1 2 2 true),(15,mkI 2),(16,mkI i)] tm) 2 (by kernel_rfl) ⟨0,rfl,⟨by kernel_rfl,by kernel_rfl⟩,.of (by kernel_rfl) ⟨by kernel_rfl,by kernel_rfl,by kernel_rfl,by kernel_rfl,trivial⟩⟩ ?_
  rintro n tm hh ⟨i,hin,hI,g',rfl⟩
  refine .br (iLt (.ofNat i) (.ofNat 2)) (by kernel_rfl) (fun e => ?_) (fun e => ?_)
  · have hi : i < 2 := by rw [iLt_iff] at e; simp only [Int.ofNat_eq_natCast] at e; omega
    obtain ⟨p,hpl,hp⟩ : ∃ p,readN [.d .nilp,.ptr 0 0] (0 + i * 1) 1 = some [p] ∧ NoneP p hh := by
      have : i = 0 ∨ i = 1 := by omega
      rcases this with rfl | rfl
      · exact ⟨.d .nilp,rfl,.inl rfl⟩
      · exact ⟨.ptr 0 0,rfl,.inr ⟨0,rfl,hI.p⟩⟩
    refine .opv (iaS_sref (z := 1) (b := 1) (off := 0) (n := 2) (m := 2) (ex := true) (j := i) rfl hi) (by kernel_rfl) ?_
    refine .op (load_ptr E (ag := false) (n := 1) (off := 0 + i * 1) hI.l hpl rfl) (by kernel_rfl) ?_
    refine .call (split_ok line hl hh) (by kernel_rfl) ?_
    have hrow : (hh.push (.cells false 9 ((parts line).map strV))).get hh.n = some (.cells false 9 ((parts line).map strV)) := push_n hh _
    have hI2 := hI.push (.cells false 9 ((parts line).map strV))
    have hp2 : NoneP p (hh.push (.cells false 9 ((parts line).map strV))) := hp.keep fun i x hx _ => push_of hx _
    have hK := parts_cnt line 0
    have hC := cnt_le line 0
    refine .loop true (fun k tm h' => ∃ done rest,parts line = done ++ rest ∧ rest.length = k ∧ h' = hh.push (.cells false 9 ((parts line).map strV)) ∧
      St 52 [(0,strV line),(4,p),(5,strV (outP done)),(14,.sref 1 0 1 2 2 true),(15,mkI 2),(16,mkI i),(21,.sref hh.n 0 1 (parts line).length (parts line).length true),(22,mkI (parts line).length),(23,mkI done.length)] tm) (parts line).length (by kernel_rfl)
      ⟨[],parts line,rfl,rfl,by kernel_rfl,.of (by kernel_rfl) ⟨by kernel_rfl,by kernel_rfl,by kernel_rfl,by kernel_rfl,by kernel_rfl,by kernel_rfl,by kernel_rfl,by kernel_rfl,by kernel_rfl,trivial⟩⟩ ?_
    rintro k tm _ ⟨done,rest,hd,hk,rfl,g2,rfl⟩
    have hdl : done.length + rest.length = (parts line).length := by rw [hd,List.length_append]
    refine .br (iLt (.ofNat done.length) (.ofNat (parts line).length)) (by kernel_rfl) (fun e => ?_) (fun e => ?_)
    · have hlt : done.length < (parts line).length := by rw [iLt_iff] at e; simpa using e
      cases rest with
      | nil => simp at hdl; omega
      | cons x r =>
      have hx : ((parts line).map strV)[done.length]? = some (strV x) := by rw [hd]; simp
      refine .opv (iaS_sref (z := 1) (b := hh.n) (off := 0) (n := (parts line).length) (m := (parts line).length) (ex := true) (j := done.length) rfl hlt) (by kernel_rfl) ?_
      refine .op (load_ptr E (ag := false) (n := 1) (off := 0 + done.length * 1) hrow (by rw [Nat.zero_add,Nat.mul_one]; exact readN_at hx) rfl) (by kernel_rfl) ?_
      have hw : wrap .i64 (.ofNat done.length + 1) = .ofNat (done.length + 1) := by rw [wrap64 (by simp only [Int.ofNat_eq_natCast]; omega) (by simp only [Int.ofNat_eq_natCast]; omega)]; rfl
      refine .br (!(strEq x [])) (by kernel_rfl) (fun e2 => ?_) (fun e2 => ?_)
      · have hol := outP_len done
        have hml : msg.length = 8 := rfl
        refine .opv (add_str (a := outP done) (b := msg) (by omega)) (by kernel_rfl) ?_
        have ho : outP (done ++ [x]) = outP done ++ msg := by
          rw [outP_one]
          cases x with
          | nil => simp [strEq] at e2
          | cons a b => rfl
        refine .next r.length (by kernel_rfl) (by simp at hk; omega) ⟨done ++ [x],r,by rw [hd]; simp,rfl,by kernel_rfl,?_⟩
        rw [ho,List.length_append]
        exact .of (by kernel_rfl) ⟨by kernel_rfl,by kernel_rfl,by kernel_rfl,by kernel_rfl,by kernel_rfl,by kernel_rfl,by kernel_rfl,by kernel_rfl,Eq.trans (b := .d (.i .i64 (wrap .i64 (.ofNat done.length + 1)))) (by kernel_rfl) (by rw [hw]; rfl),trivial⟩
      · have ho : outP (done ++ [x]) = outP done := by
          rw [outP_one]
          cases x with
          | nil => simp
          | cons a b => simp [strEq] at e2
        refine .next r.length (by kernel_rfl) (by simp at hk; omega) ⟨done ++ [x],r,by rw [hd]; simp,rfl,by kernel_rfl,?_⟩
        rw [ho,List.length_append]
        exact .of (by kernel_rfl) ⟨by kernel_rfl,by kernel_rfl,by kernel_rfl,by kernel_rfl,by kernel_rfl,by kernel_rfl,by kernel_rfl,by kernel_rfl,Eq.trans (b := .d (.i .i64 (wrap .i64 (.ofNat done.length + 1)))) (by kernel_rfl) (by rw [hw]; rfl),trivial⟩
    · have hge : ¬ done.length < (parts line).length := by rw [iLt_not] at e; simp only [Int.ofNat_eq_natCast] at e; omega
      have hr : rest = [] := List.eq_nil_of_length_eq_zero (by omega)
      subst hr
      rw [List.append_nil] at hd
      obtain ⟨h1,hc1,o1⟩ := play_ok hp2 hl
      have hp3 : NoneP p h1 := hp2.keep fun i x hx hi => o1 i x hx (fun g e => by obtain ⟨cs,hi⟩ := hi; subst e; cases hi)
      obtain ⟨h2,hc2,o2⟩ := state_ok hp3
      rw [← hd]
      refine .out true 3 (by kernel_rfl) ?_
      refine .call (do_ok hp2 line) (by kernel_rfl) ?_
      refine .br false (by kernel_rfl) (fun e => nomatch e) (fun _ => ?_)
      refine .call hc1 (by kernel_rfl) ?_
      refine .br (!(strEq (outP (parts line)) (outP (parts line)))) (by kernel_rfl) (fun e => ?_) (fun _ => ?_)
      · rw [strEq_self] at e; cases e
      refine .call hc2 (by kernel_rfl) ?_
      refine .br false (by kernel_rfl) (fun e => nomatch e) (fun _ => ?_)
      refine .next (1 - i) (by kernel_rfl) (by omega) ⟨i + 1,by omega,(hI2.old o1).old o2,.of (by kernel_rfl) ⟨by kernel_rfl,by kernel_rfl,by kernel_rfl,?_,trivial⟩⟩
      exact Eq.trans (b := .d (.i .i64 (wrap .i64 (.ofNat i + 1)))) (by kernel_rfl) (by rw [wrap64 (by simp only [Int.ofNat_eq_natCast]; omega) (by simp only [Int.ofNat_eq_natCast]; omega)]; rfl)
  · refine .out true 1 (by kernel_rfl) ?_
    refine .callv aw_ok (by kernel_rfl) ?_
    exact .ret rfl (by kernel_rfl)
end
end Go.Proofs.YtfbjkckdmigaoaaGreatDoor
