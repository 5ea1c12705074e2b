/- The law PlayerItems, upon awake. -/
import Derived.Test.YtehffjjfomapnaaGreatDoorCF
namespace Go.Proofs.YtehffjjfomapnaaGreatDoor
open Go Go.Abs
set_option maxRecDepth 100000
set_option maxHeartbeats 0
noncomputable section
theorem say_len {x : ItemS} (h : fitsI x = true) : (sayV x).length ≤ 1000 := by
 have f := fitI h
 have n := name_len f.n
 have a := sayA_len f.a
 have l := f.l
 have m : (sayM x).length ≤ 40 := by
  unfold sayM
  rcases f.k with ⟨k,_⟩ | ⟨k,ho,w0,w1⟩
  ·rw [if_neg (by omega)]; simp
  ·rw [if_pos k]
   have := name_len ho
   have := (dig_pos w0 (by omega)).2
   simp; omega
 have q : (sayQ x).length ≤ 10 := by
  unfold sayQ
  split
  ·simp
  ·have := (dig_pos f.q0 f.q1).2
   simp; omega
 simp only [sayV,List.length_append]
 omega
theorem raw_rng (s : List UInt8) : R8 (rawV s).kind ∧ R64 (rawV s).width ∧ R64 (rawV s).quota := by
 unfold rawV
 refine ⟨?_,?_,?_⟩
 ·simp only; split
  ·exact r8_1
  ·exact r8_0
 ·simp only; split
  ·exact nine_r64 _
  ·exact r64_0
 ·simp only; split
  ·exact nine_r64 _
  ·exact r64_0
theorem item_cases (s : List UInt8) (hl : s.length ≤ 1000000) (h : Heap) : (itemOk s = false ∧ Cal E f_player_Item [.d (.s s)] h (.nrm,.tup [.agg zC,.d (.b false)],h)) ∨ (itemOk s = true ∧ (rawV s).after = [] ∧ Cal E f_player_Item [.d (.s s)] h (.nrm,.tup [.agg (icA (rawV s) .nilsl),.d (.b true)],h)) ∨
  (itemOk s = true ∧ Cal E f_player_Item [.d (.s s)] h (.nrm,.tup [.agg (icA (rawV s) (.sref h.n 0 1 (rawV s).after.length (rawV s).after.length true)),.d (.b true)],h.push (.cells false t_string ((rawV s).after.map strV)))) := by
 have hc := item_ok s hl h
 cases hk : itemOk s with
 | false =>
  left
  have : itemV s h = (.tup [.agg zC,.d (.b false)],h) := by
   unfold itemV resN resS
   unfold itemOk at hk
   rw [hk]
   cases (cutB 60 (cutB 43 s).1).2.2 <;> rfl
  rw [this] at hc
  exact ⟨rfl,hc⟩
 | true =>
  right
  have hk' := hk
  unfold itemOk at hk
  unfold itemV resN resS at hc
  rw [hk] at hc
  cases hf : (cutB 60 (cutB 43 s).1).2.2 with
  | true => rw [hf] at hc; exact .inr ⟨rfl,hc⟩
  | false =>
   rw [hf] at hc
   refine .inl ⟨rfl,?_,hc⟩
   unfold rawV
   rw [hf]; rfl
theorem item_back {x : ItemS} (hx : fitsI x = true) (h : Heap) : (x.after = [] ∧ Cal E f_player_Item [.d (.s (sayV x))] h (.nrm,.tup [.agg (icA x .nilsl),.d (.b true)],h)) ∨
  Cal E f_player_Item [.d (.s (sayV x))] h (.nrm,.tup [.agg (icA x (.sref h.n 0 1 x.after.length x.after.length true)),.d (.b true)],h.push (.cells false t_string (x.after.map strV))) := by
 have hl := say_len hx
 have hr := raw_say hx
 rcases item_cases (sayV x) (by omega) h with ⟨h1,_⟩ | ⟨_,h2,h3⟩ | ⟨_,h2⟩
 ·rw [item_say hx] at h1; cases h1
 ·rw [hr] at h2 h3; exact .inl ⟨h2,h3⟩
 ·rw [hr] at h2; exact .inr h2
structure LH (x y : ItemS) (b1 b2 : Bool) (h : Heap) : Prop where
 x0 : h.get 0 = some (.cells false t_Item (icA x (.d (.sl b1 x.after.length (x.after.map .s)))))
 y0 : h.get 1 = some (.cells false t_Item (icA y (.d (.sl b2 y.after.length (y.after.map .s)))))
 x1 : h.get 2 = some (.cells false t_Item (icA x (.d (.sl b1 x.after.length (x.after.map .s)))))
 y1 : h.get 3 = some (.cells false t_Item (icA y (.d (.sl b2 y.after.length (y.after.map .s)))))
theorem LH.push {x y : ItemS} {b1 b2 : Bool} {h : Heap} (i : LH x y b1 b2 h) (b : Blk) : LH x y b1 b2 (h.push b) := ⟨push_of i.x0 b,push_of i.y0 b,push_of i.x1 b,push_of i.y1 b⟩
theorem LH.set {x y : ItemS} {b1 b2 : Bool} {h : Heap} (i : LH x y b1 b2 h) (n : Nat) (b : Blk) (hn : 4 ≤ n) : LH x y b1 b2 (h.set n b) :=
 ⟨by rw [Heap.get_set_ne (by omega)]; exact i.x0,by rw [Heap.get_set_ne (by omega)]; exact i.y0,by rw [Heap.get_set_ne (by omega)]; exact i.x1,by rw [Heap.get_set_ne (by omega)]; exact i.y1⟩
theorem LH.n {x y : ItemS} {b1 b2 : Bool} {h : Heap} (i : LH x y b1 b2 h) : 4 ≤ h.n := get_lt i.y1
theorem LH.at {x y : ItemS} {b1 b2 : Bool} {h h' : Heap} (e : h = h') (i : LH x y b1 b2 h') : LH x y b1 b2 h := e ▸ i
theorem calAt {f : FuncId} {args : List AV} {h h' : Heap} {R : Heap → Ex × AV × Heap} (e : h = h') (c : Cal E f args h' (R h')) : Cal E f args h (R h) := by subst e; exact c
theorem borrow_item {h : Heap} {x : ItemS} {LA : AV} {b m : Nat} {fr ex : Bool} {e : TypeId} (hx : R8 x.kind ∧ R64 x.width ∧ R64 x.quota) (hg : h.get b = some (.cells fr e (icA x LA))) (hA : AfR h x.after LA) :
  ∃ b1 cs bor,cs.length = [x].length * 6 ∧ (∀ i (hi : i < [x].length),ItemR [x][i] (chunk cs 6 i)) ∧ borrow h (.sref b 0 6 1 m ex) = some (.sl b1 1 cs,bor) := by
 obtain ⟨L,bor,hL,hs⟩ := strip_item (b := b) (m := m) (ex := ex) hx hg hA
 rcases hL with ⟨_,e⟩ | ⟨b1,cs,rfl,hl,hi⟩
 ·cases e
 have hs : (match borrow h (.sref b 0 6 1 m ex) with | some (d,x) => some ([d],x || false) | none => none) = some ([.sl b1 1 cs],bor) := hs
 cases hb : borrow h (.sref b 0 6 1 m ex) with
 | none => rw [hb] at hs; cases hs
 | some p =>
  obtain ⟨d,z⟩ := p
  rw [hb] at hs
  simp only [Option.some.injEq,Prod.mk.injEq,List.cons.injEq,and_true] at hs
  exact ⟨b1,cs,z,hl,hi,by rw [hs.1]⟩
theorem afD {h : Heap} (b : Bool) (l : List (List UInt8)) : AfR h l (.d (.sl b l.length (l.map .s))) := .inr (.inl ⟨b,rfl⟩)
theorem sameL_one (x y : ItemS) : sameL [x] [y] = sameI x y := by simp [sameL]
section
variable (aw_ok : ∀ h,Cal E f_foremanlaw30_awake [] h (.nrm,.d (.b true),h))
include aw_ok
theorem tail_ok {x y : ItemS} {b1 b2 : Bool} {s : List UInt8} (hx : R8 x.kind ∧ R64 x.width ∧ R64 x.quota) (hy : R8 y.kind ∧ R64 y.width ∧ R64 y.quota) (fx : fitsI x = true) (hs : s = sayV x) (h : Heap) {tm : List AV} {hh : Heap} (hH : LH x y b1 b2 hh)
    (ht : St 90 [(4,.ptr 1 0),(7,.sref 2 0 6 1 1 true),(8,.sref 3 0 6 1 1 true),(11,.d (.s s))] tm) : W E (retOk E c_foremanlaw30_PlayerItems.results false h (.d (.b true)) h) (.run (tl c_foremanlaw30_PlayerItems.body 8) [] ⟨true,[]⟩ tm hh) := by
  obtain ⟨g,rfl⟩ := ht
  obtain ⟨L,bor,hL,hst⟩ := strip_item (b := 3) (m := 1) (ex := true) hy hH.y1 (afD b2 y.after)
  refine .call (fragRight_ok hL hst) (by kernel_rfl) ?_
  rw [right_one]
  refine .br (!(fitsI y)) (by kernel_rfl) (fun e => ?_) (fun e => ?_)
  · refine .callv aw_ok (by kernel_rfl) ?_
    exact .ret rfl (by kernel_rfl)
  have fy : fitsI y = true := by simpa using e
  refine .op (load_ptr E (ag := true) (n := 6) (off := 0) hH.y0 rfl rfl) (by kernel_rfl) ?_
  obtain ⟨L2,bor2,hL2,hst2⟩ := strip_agg (h := hh) (afD b2 y.after)
  refine .call (say_ok fy hL2 hst2) (by kernel_rfl) ?_
  obtain ⟨p1,cs,q1,hcl,hci,hb1⟩ := borrow_item (b := 2) (m := 1) (ex := true) hx hH.x1 (afD b1 x.after)
  obtain ⟨p2,ds,q2,hdl,hdi,hb2⟩ := borrow_item (b := 3) (m := 1) (ex := true) hy hH.y1 (afD b2 y.after)
  refine .call (fragSame_ok (l := [x]) (m := [y]) hcl hci hdl hdi (by simp) (fun z hz => by
    have : z = x := by simpa using hz
    subst this
    have := (fitI fx).l
    omega) (strip_cons hb1 (strip_cons hb2 strip_nil))) (by kernel_rfl) ?_
  rw [sameL_one]
  have hq : strEq (sayV y) s = sameI x y := by
    rw [Bool.eq_iff_iff,strEq_iff,sameI_iff,hs]
    exact ⟨fun e => (say_inj fy fx e).symm,fun e => by rw [e]⟩
  refine .br (strEq (sayV y) s == sameI x y) (by kernel_rfl) (fun _ => ?_) (fun e => ?_)
  · refine .callv aw_ok (by kernel_rfl) ?_
    exact .ret rfl (by kernel_rfl)
  · rw [hq,beq_self_eq_true] at e; cases e
theorem backN {x y : ItemS} {b1 b2 : Bool} {s : List UInt8} (hx : R8 x.kind ∧ R64 x.width ∧ R64 x.quota) (hy : R8 y.kind ∧ R64 y.width ∧ R64 y.quota) (fx : fitsI x = true) (hxa : x.after = []) (hs : s = sayV x) (h : Heap) {tm : List AV} {hh : Heap} (hH : LH x y b1 b2 hh)
    (hc : Cal E f_player_Item [.d (.s s)] hh (.nrm,.tup [.agg (icA x .nilsl),.d (.b true)],hh))
    (ht : St 90 [(4,.ptr 1 0),(7,.sref 2 0 6 1 1 true),(8,.sref 3 0 6 1 1 true),(11,.d (.s s))] tm) : W E (retOk E c_foremanlaw30_PlayerItems.results false h (.d (.b true)) h) (.run (tl c_foremanlaw30_PlayerItems.body 6) [] ⟨true,[]⟩ tm hh) := by
  obtain ⟨g,rfl⟩ := ht
  refine .call hc (by kernel_rfl) ?_
  refine .op (store_ptr (n := 6) (off := 0) (x := .agg (icA x .nilsl)) (push_n hh (.cells false t_Item zC)) rfl) (by kernel_rfl) ?_
  have hg : ((hh.push (.cells false t_Item zC)).set hh.n (.cells false t_Item (icA x .nilsl))).get hh.n = some (.cells false t_Item (icA x .nilsl)) := Heap.get_set_self (push_n hh (.cells false t_Item zC))
  have hH2 : LH x y b1 b2 ((hh.push (.cells false t_Item zC)).set hh.n (.cells false t_Item (icA x .nilsl))) := (hH.push _).set _ _ (by have := hH.n; omega)
  refine .br false (by kernel_rfl) (fun e => nomatch e) (fun _ => ?_)
  refine .op (load_ptr E (ag := true) (n := 6) (off := 0) hg rfl rfl) (by kernel_rfl) ?_
  have hA : AfR (((hh.push (.cells false t_Item zC)).set hh.n (.cells false t_Item (icA x .nilsl))).push (.cells false t_Item (icA x .nilsl))) x.after .nilsl := .inl ⟨hxa,rfl⟩
  obtain ⟨p1,cs,q1,hcl,hci,hb1⟩ := borrow_item (b := ((hh.push (.cells false t_Item zC)).set hh.n (.cells false t_Item (icA x .nilsl))).n) (m := 1) (ex := true) hx (push_n ((hh.push (.cells false t_Item zC)).set hh.n (.cells false t_Item (icA x .nilsl))) (.cells false t_Item (icA x .nilsl))) hA
  obtain ⟨p2,ds,q2,hdl,hdi,hb2⟩ := borrow_item (b := 2) (m := 1) (ex := true) hx (hH2.push (.cells false t_Item (icA x .nilsl))).x1 (afD b1 x.after)
  refine .call (fragSame_ok (l := [x]) (m := [x]) hcl hci hdl hdi (by simp) (fun z hz => by
    have : z = x := by simpa using hz
    subst this
    have := (fitI fx).l
    omega) (strip_cons hb1 (strip_cons hb2 strip_nil))) (by kernel_rfl) ?_
  rw [sameL_one,sameI_iff.2 rfl]
  refine .br false (by kernel_rfl) (fun e => nomatch e) (fun _ => ?_)
  refine .callv (contains_no (s := s) (by rw [hs]; exact say_no fx)) (by kernel_rfl) ?_
  refine .br false (by kernel_rfl) (fun e => nomatch e) (fun _ => ?_)
  refine .top true 0 (tl c_foremanlaw30_PlayerItems.body 8) [] (((hh.push (.cells false t_Item zC)).set hh.n (.cells false t_Item (icA x .nilsl))).push (.cells false t_Item (icA x .nilsl))) (by kernel_rfl) ?_
  exact tail_ok aw_ok hx hy fx hs h (hH2.push _) (.of (by kernel_rfl) ⟨by kernel_rfl,by kernel_rfl,by kernel_rfl,by kernel_rfl,trivial⟩)
theorem backS {x y : ItemS} {b1 b2 : Bool} {s : List UInt8} (hx : R8 x.kind ∧ R64 x.width ∧ R64 x.quota) (hy : R8 y.kind ∧ R64 y.width ∧ R64 y.quota) (fx : fitsI x = true)  (hs : s = sayV x) (h : Heap) {tm : List AV} {hh : Heap} (hH : LH x y b1 b2 hh)
    (hc : Cal E f_player_Item [.d (.s s)] hh (.nrm,.tup [.agg (icA x (.sref hh.n 0 1 x.after.length x.after.length true)),.d (.b true)],(hh.push (.cells false t_string (x.after.map strV)))))
    (ht : St 90 [(4,.ptr 1 0),(7,.sref 2 0 6 1 1 true),(8,.sref 3 0 6 1 1 true),(11,.d (.s s))] tm) : W E (retOk E c_foremanlaw30_PlayerItems.results false h (.d (.b true)) h) (.run (tl c_foremanlaw30_PlayerItems.body 6) [] ⟨true,[]⟩ tm hh) := by
  obtain ⟨g,rfl⟩ := ht
  refine .call hc (by kernel_rfl) ?_
  refine .op (store_ptr (n := 6) (off := 0) (x := .agg (icA x (.sref hh.n 0 1 x.after.length x.after.length true))) (push_n (hh.push (.cells false t_string (x.after.map strV))) (.cells false t_Item zC)) rfl) (by kernel_rfl) ?_
  have hg : (((hh.push (.cells false t_string (x.after.map strV))).push (.cells false t_Item zC)).set (hh.n + 1) (.cells false t_Item (icA x (.sref hh.n 0 1 x.after.length x.after.length true)))).get (hh.n + 1) = some (.cells false t_Item (icA x (.sref hh.n 0 1 x.after.length x.after.length true))) := Heap.get_set_self (push_n (hh.push (.cells false t_string (x.after.map strV))) (.cells false t_Item zC))
  have hH2 : LH x y b1 b2 (((hh.push (.cells false t_string (x.after.map strV))).push (.cells false t_Item zC)).set (hh.n + 1) (.cells false t_Item (icA x (.sref hh.n 0 1 x.after.length x.after.length true)))) := ((hH.push _).push _).set _ _ (by have := hH.n; omega)
  refine .br false (by kernel_rfl) (fun e => nomatch e) (fun _ => ?_)
  refine .op (load_ptr E (ag := true) (n := 6) (off := 0) hg rfl rfl) (by kernel_rfl) ?_
  have hA : AfR ((((hh.push (.cells false t_string (x.after.map strV))).push (.cells false t_Item zC)).set (hh.n + 1) (.cells false t_Item (icA x (.sref hh.n 0 1 x.after.length x.after.length true)))).push (.cells false t_Item (icA x (.sref hh.n 0 1 x.after.length x.after.length true)))) x.after (.sref hh.n 0 1 x.after.length x.after.length true) := .inr (.inr ⟨hh.n,false,t_string,_,_,rfl,push_of (by rw [Heap.get_set_ne (by omega)]; exact push_of (push_n _ _) _) _⟩)
  obtain ⟨p1,cs,q1,hcl,hci,hb1⟩ := borrow_item (b := (((hh.push (.cells false t_string (x.after.map strV))).push (.cells false t_Item zC)).set (hh.n + 1) (.cells false t_Item (icA x (.sref hh.n 0 1 x.after.length x.after.length true)))).n) (m := 1) (ex := true) hx (push_n (((hh.push (.cells false t_string (x.after.map strV))).push (.cells false t_Item zC)).set (hh.n + 1) (.cells false t_Item (icA x (.sref hh.n 0 1 x.after.length x.after.length true)))) (.cells false t_Item (icA x (.sref hh.n 0 1 x.after.length x.after.length true)))) hA
  obtain ⟨p2,ds,q2,hdl,hdi,hb2⟩ := borrow_item (b := 2) (m := 1) (ex := true) hx (hH2.push (.cells false t_Item (icA x (.sref hh.n 0 1 x.after.length x.after.length true)))).x1 (afD b1 x.after)
  refine .call (fragSame_ok (l := [x]) (m := [x]) hcl hci hdl hdi (by simp) (fun z hz => by
    have : z = x := by simpa using hz
    subst this
    have := (fitI fx).l
    omega) (strip_cons hb1 (strip_cons hb2 strip_nil))) (by kernel_rfl) ?_
  rw [sameL_one,sameI_iff.2 rfl]
  refine .br false (by kernel_rfl) (fun e => nomatch e) (fun _ => ?_)
  refine .callv (contains_no (s := s) (by rw [hs]; exact say_no fx)) (by kernel_rfl) ?_
  refine .br false (by kernel_rfl) (fun e => nomatch e) (fun _ => ?_)
  refine .top true 0 (tl c_foremanlaw30_PlayerItems.body 8) [] ((((hh.push (.cells false t_string (x.after.map strV))).push (.cells false t_Item zC)).set (hh.n + 1) (.cells false t_Item (icA x (.sref hh.n 0 1 x.after.length x.after.length true)))).push (.cells false t_Item (icA x (.sref hh.n 0 1 x.after.length x.after.length true)))) (by kernel_rfl) ?_
  exact tail_ok aw_ok hx hy fx hs h (hH2.push _) (.of (by kernel_rfl) ⟨by kernel_rfl,by kernel_rfl,by kernel_rfl,by kernel_rfl,trivial⟩)
theorem rest_ok {x y : ItemS} {b1 b2 : Bool} (hx : R8 x.kind ∧ R64 x.width ∧ R64 x.quota) (hy : R8 y.kind ∧ R64 y.width ∧ R64 y.quota) (h : Heap) {tm : List AV} {hh : Heap} (hH : LH x y b1 b2 hh)
  (ht : St 90 [(3,.ptr 0 0),(4,.ptr 1 0),(7,.sref 2 0 6 1 1 true),(8,.sref 3 0 6 1 1 true)] tm) : W E (retOk E c_foremanlaw30_PlayerItems.results false h (.d (.b true)) h) (.run (tl c_foremanlaw30_PlayerItems.body 4) [] ⟨true,[]⟩ tm hh) := by
 obtain ⟨g,rfl⟩ := ht
 obtain ⟨L,bor,hL,hst⟩ := strip_item (b := 2) (m := 1) (ex := true) hx hH.x1 (afD b1 x.after)
 refine .call (fragRight_ok hL hst) (by kernel_rfl) ?_
 rw [right_one]
 refine .br (!(fitsI x)) (by kernel_rfl) (fun e => ?_) (fun e => ?_)
 ·refine .callv aw_ok (by kernel_rfl) ?_
  exact .ret rfl (by kernel_rfl)
 have fx : fitsI x = true := by simpa using e
 refine .op (load_ptr E (ag := true) (n := 6) (off := 0) hH.x0 rfl rfl) (by kernel_rfl) ?_
 obtain ⟨L2,bor2,hL2,hst2⟩ := strip_agg (h := hh) (afD b1 x.after)
 refine .call (say_ok fx hL2 hst2) (by kernel_rfl) ?_
 refine .topU true 0 (tl c_foremanlaw30_PlayerItems.body 6) [] (by kernel_rfl) ?_
 rcases item_back fx hh with ⟨hxa,hc⟩ | hc
 ·exact backN aw_ok hx hy fx hxa rfl h (.at (h' := hh) (by kernel_rfl) hH) (calAt (h' := hh) (R := fun h => (.nrm,.tup [.agg (icA x .nilsl),.d (.b true)],h)) (by kernel_rfl) hc) (.of (by kernel_rfl) ⟨by kernel_rfl,by kernel_rfl,by kernel_rfl,by kernel_rfl,trivial⟩)
 ·exact backS aw_ok hx hy fx rfl h (.at (h' := hh) (by kernel_rfl) hH) (calAt (h' := hh) (R := fun h => (.nrm,.tup [.agg (icA x (.sref h.n 0 1 x.after.length x.after.length true)),.d (.b true)],h.push (.cells false t_string (x.after.map strV)))) (by kernel_rfl) hc) (.of (by kernel_rfl) ⟨by kernel_rfl,by kernel_rfl,by kernel_rfl,by kernel_rfl,trivial⟩)
theorem saysN {x y z : ItemS} {b1 b2 : Bool} {s : List UInt8} (hx : R8 x.kind ∧ R64 x.width ∧ R64 x.quota) (hy : R8 y.kind ∧ R64 y.width ∧ R64 y.quota) (hz : R8 z.kind ∧ R64 z.width ∧ R64 z.quota) (fz : fitsI z = true) (hza : z.after = []) (hs : sayV z = s) (h : Heap) {tm : List AV} {hh : Heap} (hH : LH x y b1 b2 hh)
  (hc : Cal E f_player_Item [.d (.s s)] hh (.nrm,.tup [.agg (icA z .nilsl),.d (.b true)],hh))
  (ht : St 90 [(2,.d (.s s)),(3,.ptr 0 0),(4,.ptr 1 0),(7,.sref 2 0 6 1 1 true),(8,.sref 3 0 6 1 1 true)] tm) : W E (retOk E c_foremanlaw30_PlayerItems.results false h (.d (.b true)) h) (.run (tl c_foremanlaw30_PlayerItems.body 3) [] ⟨true,[]⟩ tm hh) := by
 obtain ⟨g,rfl⟩ := ht
 refine .call hc (by kernel_rfl) ?_
 refine .op (store_ptr (n := 6) (off := 0) (x := .agg (icA z .nilsl)) (push_n hh (.cells false t_Item zC)) rfl) (by kernel_rfl) ?_
 have hg : ((hh.push (.cells false t_Item zC)).set hh.n (.cells false t_Item (icA z .nilsl))).get hh.n = some (.cells false t_Item (icA z .nilsl)) := Heap.get_set_self (push_n hh (.cells false t_Item zC))
 have hH2 : LH x y b1 b2 ((hh.push (.cells false t_Item zC)).set hh.n (.cells false t_Item (icA z .nilsl))) := (hH.push _).set _ _ (by have := hH.n; omega)
 refine .br true (by kernel_rfl) (fun _ => ?_) (fun e => nomatch e)
 refine .op (load_ptr E (ag := true) (n := 6) (off := 0) hg rfl rfl) (by kernel_rfl) ?_
 obtain ⟨L2,bor2,hL2,hst2⟩ := strip_agg (h := ((hh.push (.cells false t_Item zC)).set hh.n (.cells false t_Item (icA z .nilsl)))) (x := z) (LA := .nilsl) (.inl ⟨hza,rfl⟩)
 refine .call (say_ok fz hL2 hst2) (by kernel_rfl) ?_
 rw [hs]
 refine .br (!(strEq s s)) (by kernel_rfl) (fun e => ?_) (fun _ => ?_)
 ·rw [strEq_iff.2 rfl] at e; cases e
 refine .op (load_ptr E (ag := true) (n := 6) (off := 0) hg rfl rfl) (by kernel_rfl) ?_
 obtain ⟨L,bor,hL,hst⟩ := strip_item (b := ((hh.push (.cells false t_Item zC)).set hh.n (.cells false t_Item (icA z .nilsl))).n) (m := 1) (ex := true) hz (push_n ((hh.push (.cells false t_Item zC)).set hh.n (.cells false t_Item (icA z .nilsl))) (.cells false t_Item (icA z .nilsl))) (.inl ⟨hza,rfl⟩)
 refine .call (fragRight_ok hL hst) (by kernel_rfl) ?_
 rw [right_one,fz]
 refine .br false (by kernel_rfl) (fun e => nomatch e) (fun _ => ?_)
 refine .top true 0 (tl c_foremanlaw30_PlayerItems.body 4) [] (((hh.push (.cells false t_Item zC)).set hh.n (.cells false t_Item (icA z .nilsl))).push (.cells false t_Item (icA z .nilsl))) (by kernel_rfl) ?_
 exact rest_ok aw_ok hx hy h (hH2.push _) (.of (by kernel_rfl) ⟨by kernel_rfl,by kernel_rfl,by kernel_rfl,by kernel_rfl,trivial⟩)
theorem saysS {x y z : ItemS} {b1 b2 : Bool} {s : List UInt8} (hx : R8 x.kind ∧ R64 x.width ∧ R64 x.quota) (hy : R8 y.kind ∧ R64 y.width ∧ R64 y.quota) (hz : R8 z.kind ∧ R64 z.width ∧ R64 z.quota) (fz : fitsI z = true)  (hs : sayV z = s) (h : Heap) {tm : List AV} {hh : Heap} (hH : LH x y b1 b2 hh)
  (hc : Cal E f_player_Item [.d (.s s)] hh (.nrm,.tup [.agg (icA z (.sref hh.n 0 1 z.after.length z.after.length true)),.d (.b true)],(hh.push (.cells false t_string (z.after.map strV)))))
  (ht : St 90 [(2,.d (.s s)),(3,.ptr 0 0),(4,.ptr 1 0),(7,.sref 2 0 6 1 1 true),(8,.sref 3 0 6 1 1 true)] tm) : W E (retOk E c_foremanlaw30_PlayerItems.results false h (.d (.b true)) h) (.run (tl c_foremanlaw30_PlayerItems.body 3) [] ⟨true,[]⟩ tm hh) := by
 obtain ⟨g,rfl⟩ := ht
 refine .call hc (by kernel_rfl) ?_
 refine .op (store_ptr (n := 6) (off := 0) (x := .agg (icA z (.sref hh.n 0 1 z.after.length z.after.length true))) (push_n (hh.push (.cells false t_string (z.after.map strV))) (.cells false t_Item zC)) rfl) (by kernel_rfl) ?_
 have hg : (((hh.push (.cells false t_string (z.after.map strV))).push (.cells false t_Item zC)).set (hh.n + 1) (.cells false t_Item (icA z (.sref hh.n 0 1 z.after.length z.after.length true)))).get (hh.n + 1) = some (.cells false t_Item (icA z (.sref hh.n 0 1 z.after.length z.after.length true))) := Heap.get_set_self (push_n (hh.push (.cells false t_string (z.after.map strV))) (.cells false t_Item zC))
 have hH2 : LH x y b1 b2 (((hh.push (.cells false t_string (z.after.map strV))).push (.cells false t_Item zC)).set (hh.n + 1) (.cells false t_Item (icA z (.sref hh.n 0 1 z.after.length z.after.length true)))) := ((hH.push _).push _).set _ _ (by have := hH.n; omega)
 refine .br true (by kernel_rfl) (fun _ => ?_) (fun e => nomatch e)
 refine .op (load_ptr E (ag := true) (n := 6) (off := 0) hg rfl rfl) (by kernel_rfl) ?_
 obtain ⟨L2,bor2,hL2,hst2⟩ := strip_agg (h := (((hh.push (.cells false t_string (z.after.map strV))).push (.cells false t_Item zC)).set (hh.n + 1) (.cells false t_Item (icA z (.sref hh.n 0 1 z.after.length z.after.length true))))) (x := z) (LA := (.sref hh.n 0 1 z.after.length z.after.length true)) (.inr (.inr ⟨hh.n,false,t_string,_,_,rfl,by rw [Heap.get_set_ne (by omega)]; exact push_of (push_n _ _) _⟩))
 refine .call (say_ok fz hL2 hst2) (by kernel_rfl) ?_
 rw [hs]
 refine .br (!(strEq s s)) (by kernel_rfl) (fun e => ?_) (fun _ => ?_)
 ·rw [strEq_iff.2 rfl] at e; cases e
 refine .op (load_ptr E (ag := true) (n := 6) (off := 0) hg rfl rfl) (by kernel_rfl) ?_
 obtain ⟨L,bor,hL,hst⟩ := strip_item (b := (((hh.push (.cells false t_string (z.after.map strV))).push (.cells false t_Item zC)).set (hh.n + 1) (.cells false t_Item (icA z (.sref hh.n 0 1 z.after.length z.after.length true)))).n) (m := 1) (ex := true) hz (push_n (((hh.push (.cells false t_string (z.after.map strV))).push (.cells false t_Item zC)).set (hh.n + 1) (.cells false t_Item (icA z (.sref hh.n 0 1 z.after.length z.after.length true)))) (.cells false t_Item (icA z (.sref hh.n 0 1 z.after.length z.after.length true)))) (.inr (.inr ⟨hh.n,false,t_string,_,_,rfl,push_of (by rw [Heap.get_set_ne (by omega)]; exact push_of (push_n _ _) _) _⟩))
 refine .call (fragRight_ok hL hst) (by kernel_rfl) ?_
 rw [right_one,fz]
 refine .br false (by kernel_rfl) (fun e => nomatch e) (fun _ => ?_)
 refine .top true 0 (tl c_foremanlaw30_PlayerItems.body 4) [] ((((hh.push (.cells false t_string (z.after.map strV))).push (.cells false t_Item zC)).set (hh.n + 1) (.cells false t_Item (icA z (.sref hh.n 0 1 z.after.length z.after.length true)))).push (.cells false t_Item (icA z (.sref hh.n 0 1 z.after.length z.after.length true)))) (by kernel_rfl) ?_
 exact rest_ok aw_ok hx hy h (hH2.push _) (.of (by kernel_rfl) ⟨by kernel_rfl,by kernel_rfl,by kernel_rfl,by kernel_rfl,trivial⟩)
theorem law_ok {h : Heap} {args : List AV} {b1 b2 : Bool} {x y : ItemS} {text : List UInt8} (hx : R8 x.kind ∧ R64 x.width ∧ R64 x.quota) (hy : R8 y.kind ∧ R64 y.width ∧ R64 y.quota) (lx : x.after.length ≤ 9223372036854775807) (ly : y.after.length ≤ 9223372036854775807)
    (ha : stripArgs h args = some ([.agg (icD x (.sl b1 x.after.length (x.after.map .s))),.agg (icD y (.sl b2 y.after.length (y.after.map .s))),.s text],false)) : Cal E f_foremanlaw30_PlayerItems args h (.nrm,.d (.b true),h) := by
  refine .w n_foremanlaw30_PlayerItems (by kernel_rfl) ha ?_
  refine .top false 0 (tl c_foremanlaw30_PlayerItems.body 1) [] ((Heap.empty.push (.cells false t_Item (icA x (.d (.sl b1 x.after.length (x.after.map .s)))))).push (.cells false t_Item (icA y (.d (.sl b2 y.after.length (y.after.map .s)))))) (by kernel_rfl) ?_
  refine .top true 0 (tl c_foremanlaw30_PlayerItems.body 2) [] ((((Heap.empty.push (.cells false t_Item (icA x (.d (.sl b1 x.after.length (x.after.map .s)))))).push (.cells false t_Item (icA y (.d (.sl b2 y.after.length (y.after.map .s)))))).push (.cells false t_Item (icA x (.d (.sl b1 x.after.length (x.after.map .s)))))).push (.cells false t_Item (icA y (.d (.sl b2 y.after.length (y.after.map .s)))))) (by kernel_rfl) ?_
  have hH : LH x y b1 b2 ((((Heap.empty.push (.cells false t_Item (icA x (.d (.sl b1 x.after.length (x.after.map .s)))))).push (.cells false t_Item (icA y (.d (.sl b2 y.after.length (y.after.map .s)))))).push (.cells false t_Item (icA x (.d (.sl b1 x.after.length (x.after.map .s)))))).push (.cells false t_Item (icA y (.d (.sl b2 y.after.length (y.after.map .s)))))) := ⟨rfl,rfl,rfl,rfl⟩
  generalize ((((Heap.empty.push (.cells false t_Item (icA x (.d (.sl b1 x.after.length (x.after.map .s)))))).push (.cells false t_Item (icA y (.d (.sl b2 y.after.length (y.after.map .s)))))).push (.cells false t_Item (icA x (.d (.sl b1 x.after.length (x.after.map .s)))))).push (.cells false t_Item (icA y (.d (.sl b2 y.after.length (y.after.map .s)))))) = hh at hH ⊢
  obtain ⟨p1,cs,q1,hcl,hci,hb1⟩ := borrow_item (b := 2) (m := 1) (ex := true) hx hH.x1 (afD b1 x.after)
  obtain ⟨p2,ds,q2,hdl,hdi,hb2⟩ := borrow_item (b := 3) (m := 1) (ex := true) hy hH.y1 (afD b2 y.after)
  obtain ⟨_,⟨f1,rfl⟩,c1⟩ := Few9_ok (l := [x]) hcl hci (by simp) (fun z hz => by
    have : z = x := by simpa using hz
    subst this; exact lx) (strip_cons hb1 strip_nil)
  obtain ⟨_,⟨f2,rfl⟩,c2⟩ := Few9_ok (l := [y]) hdl hdi (by simp) (fun z hz => by
    have : z = y := by simpa using hz
    subst this; exact ly) (strip_cons hb2 strip_nil)
  refine .call c1 (by kernel_rfl) ?_
  refine .br (!f1) (by kernel_rfl) (fun _ => ?_) (fun _ => ?_)
  · refine .callv aw_ok (by kernel_rfl) ?_
    exact .ret rfl (by kernel_rfl)
  refine .call c2 (by kernel_rfl) ?_
  refine .br (!f2) (by kernel_rfl) (fun _ => ?_) (fun _ => ?_)
  · refine .callv aw_ok (by kernel_rfl) ?_
    exact .ret rfl (by kernel_rfl)
  refine .br (iLt 300 (.ofNat text.length)) (by kernel_rfl) (fun _ => ?_) (fun e => ?_)
  · refine .callv aw_ok (by kernel_rfl) ?_
    exact .ret rfl (by kernel_rfl)
  have hl : text.length ≤ 300 := by rw [iLt_not] at e; simp only [Int.ofNat_eq_natCast] at e; omega
  refine .top true 0 (tl c_foremanlaw30_PlayerItems.body 3) [] hh (by kernel_rfl) ?_
  rcases item_cases text (by omega) hh with ⟨_,hc⟩ | ⟨hk,hza,hc⟩ | ⟨hk,hc⟩
  · refine .call hc (by kernel_rfl) ?_
    refine .op (store_ptr (n := 6) (off := 0) (x := .agg zC) (push_n hh (.cells false t_Item zC)) rfl) (by kernel_rfl) ?_
    refine .br false (by kernel_rfl) (fun e => nomatch e) (fun _ => ?_)
    refine .top true 0 (tl c_foremanlaw30_PlayerItems.body 4) [] ((hh.push (.cells false t_Item zC)).set hh.n (.cells false t_Item zC)) (by kernel_rfl) ?_
    exact rest_ok aw_ok hx hy h ((hH.push _).set _ _ hH.n) (.of (by kernel_rfl) ⟨by kernel_rfl,by kernel_rfl,by kernel_rfl,by kernel_rfl,trivial⟩)
  · simp only [itemOk,Bool.and_eq_true,decide_eq_true_eq] at hk
    exact saysN aw_ok hx hy (raw_rng text) hk.1 hza hk.2 h hH hc (.of (by kernel_rfl) ⟨by kernel_rfl,by kernel_rfl,by kernel_rfl,by kernel_rfl,by kernel_rfl,trivial⟩)
  · simp only [itemOk,Bool.and_eq_true,decide_eq_true_eq] at hk
    exact saysS aw_ok hx hy (raw_rng text) hk.1 hk.2 h hH hc (.of (by kernel_rfl) ⟨by kernel_rfl,by kernel_rfl,by kernel_rfl,by kernel_rfl,by kernel_rfl,trivial⟩)
end
end
end Go.Proofs.YtehffjjfomapnaaGreatDoor
