/- Contracts: player.Say of a right item. -/
import Derived.Test.YtehffjjfomapnaaGreatDoorCC
namespace Go.Proofs.YtehffjjfomapnaaGreatDoor
open Go Go.Abs
set_option maxRecDepth 100000
set_option maxHeartbeats 0
noncomputable section
theorem W.any {E : Env} {Q : Ex → List AV → Heap → Prop} {c : AC} {ks : List KF} {m : Bool} {tm : List AV} {h : Heap} (w : W E Q (.run c ks ⟨m,[]⟩ tm h)) : W E Q (.run c ks ⟨false,[]⟩ tm h) := ⟨fun _ => w.s (fun _ hp => by cases hp)⟩
theorem add_str {a b : List UInt8} (hl : a.length + b.length ≤ 70368744177664) (h : Heap) : s_bin h [] .add .bad (.c (.d (.s a))) (.c (.d (.s b))) = .val (.d (.s (a ++ b))) h := by
 have hb : Nat.ble (a.length + b.length) 70368744177664 = true := by rw [Nat.ble_eq]; exact hl
 simp only [s_bin,X.ev,binA,intA,strA,strOp,hb]
 rfl
theorem dig_pos {v : Int} (h0 : 0 ≤ v) (h1 : v ≤ 400) : itoaA v ≠ [] ∧ (itoaA v).length ≤ 9 := by
 have hv := (dig_ok h0 h1).1
 constructor
 ·intro e
  rw [e] at hv
  have : nineV [] = -1 := by kernel_rfl
  omega
 ·unfold nineV at hv
  split at hv
  ·split at hv
   ·rename_i hc; exact hc.2.1
   ·omega
  ·omega
theorem name_len {s : List UInt8} (h : isName s = true) : 1 ≤ s.length ∧ s.length ≤ 20 := by
 simp only [isName,Bool.and_eq_true,decide_eq_true_eq] at h
 exact h.1
theorem name_ne {s : List UInt8} (h : isName s = true) : s ≠ [] := fun e => by have := (name_len h).1; rw [e] at this; simp at this
theorem sayA_len : ∀ {l : List (List UInt8)},(∀ s ∈ l,isName s = true) → (sayA l).length ≤ 21 * l.length := by
 intro l
 induction l with
 | nil => intro _; exact Nat.le_refl _
 | cons a r ih =>
  intro h
  have h1 := (name_len (h a (by simp))).2
  have h2 := ih (fun s hs => h s (by simp [hs]))
  have : sayA (a :: r) = 60 :: (a ++ sayA r) := by simp [sayA]
  rw [this]; simp; omega
theorem Bld.at {b : Nat} {bs : List UInt8} {h h' : Heap} (e : h = h') (hb : Bld b bs h') : Bld b bs h := e ▸ hb
theorem get_at {h h' : Heap} {i : Nat} {x : Option Blk} (e : h = h') (g : h'.get i = x) : h.get i = x := e ▸ g
theorem sayA_one (l : List (List UInt8)) (i : Nat) (hi : i < l.length) : sayA (l.take i) ++ (60 :: l[i]) = sayA (l.take (i + 1)) := by
 unfold sayA
 rw [List.take_add_one,List.getElem?_eq_getElem hi,List.flatMap_append]
 simp
theorem say0sl {h : Heap} {args : List AV} {bor b : Bool} {name over : List UInt8} {after : List (List UInt8)} {width quota : Int} (hx : fitsI ⟨name,0,after,over,width,quota⟩ = true)
  (ha : stripArgs h args = some ([.agg [.s name,.i .u8 0,.sl b after.length (after.map .s),.s over,.i .i64 width,.i .i64 quota]],bor)) : Cal E f_player_Say args h (.nrm,.d (.s (sayV ⟨name,0,after,over,width,quota⟩)),h) := by
 have f := fitI hx
 have fn := f.n; have fl := f.l; have q0 := f.q0; have q1 := f.q1; have fa := f.a
 simp only at fn fl q0 q1 fa
 have nl := name_len fn
 have al : (sayA after).length ≤ 21 * after.length := sayA_len fa
 refine .w n_player_Say (by kernel_rfl) ha (W.any (m := true) ?_)
 refine .opR (by kernel_rfl) ?_
 obtain ⟨h1,c1,b1,o1⟩ := ws_ok (b := 1) (bs := []) (h := (Heap.empty.push (.cells false t_Item [.d (.s name),.d (.i .u8 0),.d (.sl b after.length (after.map .s)),.d (.s over),.d (.i .i64 width),.d (.i .i64 quota)])).push (.cells false t_strings_Builder [.d .nilp,.nilsl])) ⟨_,_,rfl,.inl rfl,.inl ⟨rfl,rfl⟩⟩ name (name_ne fn) (by simp; omega)
 have g1 : h1.get 0 = some (.cells false t_Item [.d (.s name),.d (.i .u8 0),.d (.sl b after.length (after.map .s)),.d (.s over),.d (.i .i64 width),.d (.i .i64 quota)]) := o1 0 _ rfl (by decide) (fun g e => nomatch e)
 clear o1
 rw [List.nil_append] at b1
 refine .call c1 (by kernel_rfl) ?_
 refine .op (load_ptr E (ag := false) (n := 1) (off := 1) g1 rfl rfl) (by kernel_rfl) ?_
 refine .br false (by kernel_rfl) (fun e => nomatch e) (fun _ => ?_)
 have eM : sayM ⟨name,0,after,over,width,quota⟩ = [] := rfl
 have b2 : Bld 1 (name ++ sayM ⟨name,0,after,over,width,quota⟩) h1 := by rw [eM,List.append_nil]; exact b1
 have ml : (sayM ⟨name,0,after,over,width,quota⟩).length ≤ 40 := by rw [eM]; simp
 have g2 := g1
 have hV : sayV ⟨name,0,after,over,width,quota⟩ = ((name ++ sayM ⟨name,0,after,over,width,quota⟩) ++ sayA after) ++ sayQ ⟨name,0,after,over,width,quota⟩ := rfl
 have hQ : sayQ ⟨name,0,after,over,width,quota⟩ = if quota = 0 then [] else 43 :: itoaA quota := rfl
 rw [hV,hQ]
 generalize sayM ⟨name,0,after,over,width,quota⟩ = M at b2 ml
 refine .op (load_ptr E (ag := false) (n := 1) (off := 2) g2 rfl rfl) (by kernel_rfl) ?_
 refine .loop true (fun n tm h => ∃ i,i + n = after.length ∧ Bld 1 ((name ++ M) ++ sayA (after.take i)) h ∧ h.get 0 = some (.cells false t_Item [.d (.s name),.d (.i .u8 0),.d (.sl b after.length (after.map .s)),.d (.s over),.d (.i .i64 width),.d (.i .i64 quota)]) ∧ St 41 [(1,.ptr 0 0),(3,.ptr 1 0),(22,.d (.sl b after.length (after.map .s))),(23,mkI after.length),(24,mkI i)] tm) after.length (by kernel_rfl)
  ⟨0,by omega,.at (h' := h1) (by kernel_rfl) (by simpa [sayA] using b2),get_at (h' := h1) (by kernel_rfl) g2,.of (by kernel_rfl) ⟨by kernel_rfl,by kernel_rfl,by kernel_rfl,by kernel_rfl,by kernel_rfl,trivial⟩⟩ ?_
 rintro n tm h3 ⟨i,hin,b3,g3,g',rfl⟩
 refine .br (iLt (.ofNat i) (.ofNat after.length)) (by kernel_rfl) (fun e => ?_) (fun e => ?_)
 ·have hi : i < after.length := by rw [iLt_iff] at e; simpa using e
  obtain ⟨n,rfl⟩ : ∃ k,n = k + 1 := ⟨n - 1,by omega⟩
  have hil := name_len (fa _ (List.getElem_mem hi))
  have htl := sayA_len (l := after.take i) (fun s hs => fa s (List.mem_of_mem_take hs))
  rw [List.length_take] at htl
  refine .opv (iaS_sl (k := .i64) (z := 1) (b := b) (n := after.length) (cs := after.map .s) (j := i) rfl hi) (by kernel_rfl) ?_
  refine .opv (load_bx1 E (b := b) (cs := after.map .s) (j := i) (x := .s after[i]) (by rw [List.getElem?_map,List.getElem?_eq_getElem hi]; rfl)) (by kernel_rfl) ?_
  refine .opv (add_str (a := [60]) (b := after[i]) (by simp; omega)) (by kernel_rfl) ?_
  obtain ⟨h4,c4,b4,o4⟩ := ws_ok b3 ([60] ++ after[i]) (by simp) (by simp; omega)
  have g4 : h4.get 0 = _ := o4 0 _ g3 (by decide) (fun g e => nomatch e)
  refine .call c4 (by kernel_rfl) ?_
  refine .next n (by kernel_rfl) (by omega) ⟨i + 1,by omega,.at (h' := h4) (by kernel_rfl) ?_,get_at (h' := h4) (by kernel_rfl) g4,.of (by kernel_rfl) ⟨by kernel_rfl,by kernel_rfl,by kernel_rfl,by kernel_rfl,?_,trivial⟩⟩
  ·rw [List.append_assoc] at b4
   rw [← sayA_one after i hi]
   exact b4
  ·exact Eq.trans (b := .d (.i .i64 (wrap .i64 (.ofNat i + 1)))) (by kernel_rfl) (by rw [wrap64 (by simp only [Int.ofNat_eq_natCast]; omega) (by simp only [Int.ofNat_eq_natCast]; omega)]; rfl)
 have hn : n = 0 := by rw [iLt_not] at e; simp only [Int.ofNat_eq_natCast] at e; omega
 subst hn
 rw [show after.take i = after by rw [List.take_of_length_le (by omega)]] at b3
 refine .out true 1 (by kernel_rfl) ?_
 refine .op (load_ptr E (ag := false) (n := 1) (off := 5) g3 rfl rfl) (by kernel_rfl) ?_
 refine .br (!(iEq quota 0)) (by kernel_rfl) (fun e => ?_) (fun e => ?_)
 ·have hq : quota ≠ 0 := by simpa [iEq_dec] using e
  have dq := dig_pos q0 q1
  have ql := dq.2
  refine .op (load_ptr E (ag := false) (n := 1) (off := 5) g3 rfl rfl) (by kernel_rfl) ?_
  refine .opv (itoa_ok (v := quota) (by omega) (by omega)) (by kernel_rfl) ?_
  refine .opv (add_str (a := [43]) (b := itoaA quota) (by simp; omega)) (by kernel_rfl) ?_
  obtain ⟨h5,c5,b5,_⟩ := ws_ok b3 ([43] ++ itoaA quota) (by simp) (by simp; omega)
  refine .call c5 (by kernel_rfl) ?_
  obtain ⟨h6,c6,_⟩ := str_ok b5 (by simp; omega)
  refine .call c6 (by kernel_rfl) ?_
  rw [if_neg hq]
  exact .ret rfl (by kernel_rfl)
 ·have hq : quota = 0 := by simpa [iEq_dec] using e
  obtain ⟨h6,c6,_⟩ := str_ok b3 (by simp; omega)
  refine .call c6 (by kernel_rfl) ?_
  rw [if_pos hq,List.append_nil]
  exact .ret rfl (by kernel_rfl)
theorem say0n {h : Heap} {args : List AV} {bor  : Bool} {name over : List UInt8} {after : List (List UInt8)} {width quota : Int} (hx : fitsI ⟨name,0,[],over,width,quota⟩ = true)
  (ha : stripArgs h args = some ([.agg [.s name,.i .u8 0,.nsl,.s over,.i .i64 width,.i .i64 quota]],bor)) : Cal E f_player_Say args h (.nrm,.d (.s (sayV ⟨name,0,[],over,width,quota⟩)),h) := by
 have f := fitI hx
 have fn := f.n; have fl := f.l; have q0 := f.q0; have q1 := f.q1; have fa := f.a
 simp only at fn fl q0 q1 fa
 have nl := name_len fn
 have al : (sayA []).length ≤ 0 := Nat.le_refl _
 refine .w n_player_Say (by kernel_rfl) ha (W.any (m := true) ?_)
 refine .opR (by kernel_rfl) ?_
 obtain ⟨h1,c1,b1,o1⟩ := ws_ok (b := 1) (bs := []) (h := (Heap.empty.push (.cells false t_Item [.d (.s name),.d (.i .u8 0),.nilsl,.d (.s over),.d (.i .i64 width),.d (.i .i64 quota)])).push (.cells false t_strings_Builder [.d .nilp,.nilsl])) ⟨_,_,rfl,.inl rfl,.inl ⟨rfl,rfl⟩⟩ name (name_ne fn) (by simp; omega)
 have g1 : h1.get 0 = some (.cells false t_Item [.d (.s name),.d (.i .u8 0),.nilsl,.d (.s over),.d (.i .i64 width),.d (.i .i64 quota)]) := o1 0 _ rfl (by decide) (fun g e => nomatch e)
 clear o1
 rw [List.nil_append] at b1
 refine .call c1 (by kernel_rfl) ?_
 refine .op (load_ptr E (ag := false) (n := 1) (off := 1) g1 rfl rfl) (by kernel_rfl) ?_
 refine .br false (by kernel_rfl) (fun e => nomatch e) (fun _ => ?_)
 have eM : sayM ⟨name,0,[],over,width,quota⟩ = [] := rfl
 have b2 : Bld 1 (name ++ sayM ⟨name,0,[],over,width,quota⟩) h1 := by rw [eM,List.append_nil]; exact b1
 have ml : (sayM ⟨name,0,[],over,width,quota⟩).length ≤ 40 := by rw [eM]; simp
 have g2 := g1
 have hV : sayV ⟨name,0,[],over,width,quota⟩ = ((name ++ sayM ⟨name,0,[],over,width,quota⟩) ++ sayA []) ++ sayQ ⟨name,0,[],over,width,quota⟩ := rfl
 have hQ : sayQ ⟨name,0,[],over,width,quota⟩ = if quota = 0 then [] else 43 :: itoaA quota := rfl
 rw [hV,hQ]
 generalize sayM ⟨name,0,[],over,width,quota⟩ = M at b2 ml
 refine .op (load_ptr E (ag := false) (n := 1) (off := 2) g2 rfl rfl) (by kernel_rfl) ?_
 refine .loop true (fun n tm h => Bld 1 ((name ++ M) ++ sayA []) h ∧ h.get 0 = some (.cells false t_Item [.d (.s name),.d (.i .u8 0),.nilsl,.d (.s over),.d (.i .i64 width),.d (.i .i64 quota)]) ∧ St 41 [(1,.ptr 0 0),(3,.ptr 1 0),(22,.nilsl),(23,mkI 0),(24,mkI 0)] tm) 0 (by kernel_rfl)
  ⟨.at (h' := h1) (by kernel_rfl) (by simpa [sayA] using b2),get_at (h' := h1) (by kernel_rfl) g2,.of (by kernel_rfl) ⟨by kernel_rfl,by kernel_rfl,by kernel_rfl,by kernel_rfl,by kernel_rfl,trivial⟩⟩ ?_
 rintro n tm h3 ⟨b3,g3,g',rfl⟩
 refine .br false (by kernel_rfl) (fun e => nomatch e) (fun e => ?_)
 refine .out true 1 (by kernel_rfl) ?_
 refine .op (load_ptr E (ag := false) (n := 1) (off := 5) g3 rfl rfl) (by kernel_rfl) ?_
 refine .br (!(iEq quota 0)) (by kernel_rfl) (fun e => ?_) (fun e => ?_)
 ·have hq : quota ≠ 0 := by simpa [iEq_dec] using e
  have dq := dig_pos q0 q1
  have ql := dq.2
  refine .op (load_ptr E (ag := false) (n := 1) (off := 5) g3 rfl rfl) (by kernel_rfl) ?_
  refine .opv (itoa_ok (v := quota) (by omega) (by omega)) (by kernel_rfl) ?_
  refine .opv (add_str (a := [43]) (b := itoaA quota) (by simp; omega)) (by kernel_rfl) ?_
  obtain ⟨h5,c5,b5,_⟩ := ws_ok b3 ([43] ++ itoaA quota) (by simp) (by simp; omega)
  refine .call c5 (by kernel_rfl) ?_
  obtain ⟨h6,c6,_⟩ := str_ok b5 (by simp; omega)
  refine .call c6 (by kernel_rfl) ?_
  rw [if_neg hq]
  exact .ret rfl (by kernel_rfl)
 ·have hq : quota = 0 := by simpa [iEq_dec] using e
  obtain ⟨h6,c6,_⟩ := str_ok b3 (by simp; omega)
  refine .call c6 (by kernel_rfl) ?_
  rw [if_pos hq,List.append_nil]
  exact .ret rfl (by kernel_rfl)
theorem say1sl {h : Heap} {args : List AV} {bor b : Bool} {name over : List UInt8} {after : List (List UInt8)} {width quota : Int} (hx : fitsI ⟨name,1,after,over,width,quota⟩ = true)
  (ha : stripArgs h args = some ([.agg [.s name,.i .u8 1,.sl b after.length (after.map .s),.s over,.i .i64 width,.i .i64 quota]],bor)) : Cal E f_player_Say args h (.nrm,.d (.s (sayV ⟨name,1,after,over,width,quota⟩)),h) := by
 have f := fitI hx
 have fn := f.n; have fl := f.l; have q0 := f.q0; have q1 := f.q1; have fa := f.a
 simp only at fn fl q0 q1 fa
 have nl := name_len fn
 have al : (sayA after).length ≤ 21 * after.length := sayA_len fa
 refine .w n_player_Say (by kernel_rfl) ha (W.any (m := true) ?_)
 refine .opR (by kernel_rfl) ?_
 obtain ⟨h1,c1,b1,o1⟩ := ws_ok (b := 1) (bs := []) (h := (Heap.empty.push (.cells false t_Item [.d (.s name),.d (.i .u8 1),.d (.sl b after.length (after.map .s)),.d (.s over),.d (.i .i64 width),.d (.i .i64 quota)])).push (.cells false t_strings_Builder [.d .nilp,.nilsl])) ⟨_,_,rfl,.inl rfl,.inl ⟨rfl,rfl⟩⟩ name (name_ne fn) (by simp; omega)
 have g1 : h1.get 0 = some (.cells false t_Item [.d (.s name),.d (.i .u8 1),.d (.sl b after.length (after.map .s)),.d (.s over),.d (.i .i64 width),.d (.i .i64 quota)]) := o1 0 _ rfl (by decide) (fun g e => nomatch e)
 clear o1
 rw [List.nil_append] at b1
 refine .call c1 (by kernel_rfl) ?_
 refine .op (load_ptr E (ag := false) (n := 1) (off := 1) g1 rfl rfl) (by kernel_rfl) ?_
 have hk : isName over = true ∧ 0 ≤ width ∧ width ≤ 40 := by
  rcases f.k with ⟨k,_⟩ | ⟨_,k⟩
  ·cases k
  ·exact k
 have dw := dig_pos hk.2.1 (by omega)
 have ol := name_len hk.1
 have wl := dw.2
 refine .br true (by kernel_rfl) (fun _ => ?_) (fun e => nomatch e)
 refine .rd2 (load_ptr E (ag := false) (n := 1) (off := 4) g1 rfl rfl) (load_ptr E (ag := false) (n := 1) (off := 4) g1 rfl rfl) (by kernel_rfl) ?_
 refine .opv (itoa_ok (v := width) (by omega) (by omega)) (by kernel_rfl) ?_
 refine .rd3 (load_ptr E (ag := false) (n := 1) (off := 3) g1 rfl rfl) (load_ptr E (ag := false) (n := 1) (off := 3) g1 rfl rfl) (load_ptr E (ag := false) (n := 1) (off := 3) g1 rfl rfl) (by kernel_rfl) ?_
 refine .opv (add_str (a := [42]) (b := over) (by simp; omega)) (by kernel_rfl) ?_
 refine .opv (add_str (a := [42] ++ over) (b := [58]) (by simp; omega)) (by kernel_rfl) ?_
 refine .opv (add_str (a := [42] ++ over ++ [58]) (b := itoaA width) (by simp; omega)) (by kernel_rfl) ?_
 obtain ⟨h2,c2,b2,o2⟩ := ws_ok b1 ([42] ++ over ++ [58] ++ itoaA width) (by simp) (by simp; omega)
 have g2 : h2.get 0 = some (.cells false t_Item [.d (.s name),.d (.i .u8 1),.d (.sl b after.length (after.map .s)),.d (.s over),.d (.i .i64 width),.d (.i .i64 quota)]) := o2 0 _ g1 (by decide) (fun g e => nomatch e)
 clear o2
 refine .call c2 (by kernel_rfl) ?_
 have eM : sayM ⟨name,1,after,over,width,quota⟩ = [42] ++ over ++ [58] ++ itoaA width := by simp [sayM]
 rw [← eM] at b2
 have ml : (sayM ⟨name,1,after,over,width,quota⟩).length ≤ 40 := by rw [eM]; simp; omega
 have hV : sayV ⟨name,1,after,over,width,quota⟩ = ((name ++ sayM ⟨name,1,after,over,width,quota⟩) ++ sayA after) ++ sayQ ⟨name,1,after,over,width,quota⟩ := rfl
 have hQ : sayQ ⟨name,1,after,over,width,quota⟩ = if quota = 0 then [] else 43 :: itoaA quota := rfl
 rw [hV,hQ]
 generalize sayM ⟨name,1,after,over,width,quota⟩ = M at b2 ml
 refine .op (load_ptr E (ag := false) (n := 1) (off := 2) g2 rfl rfl) (by kernel_rfl) ?_
 refine .loop true (fun n tm h => ∃ i,i + n = after.length ∧ Bld 1 ((name ++ M) ++ sayA (after.take i)) h ∧ h.get 0 = some (.cells false t_Item [.d (.s name),.d (.i .u8 1),.d (.sl b after.length (after.map .s)),.d (.s over),.d (.i .i64 width),.d (.i .i64 quota)]) ∧ St 41 [(1,.ptr 0 0),(3,.ptr 1 0),(22,.d (.sl b after.length (after.map .s))),(23,mkI after.length),(24,mkI i)] tm) after.length (by kernel_rfl)
  ⟨0,by omega,.at (h' := h2) (by kernel_rfl) (by simpa [sayA] using b2),get_at (h' := h2) (by kernel_rfl) g2,.of (by kernel_rfl) ⟨by kernel_rfl,by kernel_rfl,by kernel_rfl,by kernel_rfl,by kernel_rfl,trivial⟩⟩ ?_
 rintro n tm h3 ⟨i,hin,b3,g3,g',rfl⟩
 refine .br (iLt (.ofNat i) (.ofNat after.length)) (by kernel_rfl) (fun e => ?_) (fun e => ?_)
 ·have hi : i < after.length := by rw [iLt_iff] at e; simpa using e
  obtain ⟨n,rfl⟩ : ∃ k,n = k + 1 := ⟨n - 1,by omega⟩
  have hil := name_len (fa _ (List.getElem_mem hi))
  have htl := sayA_len (l := after.take i) (fun s hs => fa s (List.mem_of_mem_take hs))
  rw [List.length_take] at htl
  refine .opv (iaS_sl (k := .i64) (z := 1) (b := b) (n := after.length) (cs := after.map .s) (j := i) rfl hi) (by kernel_rfl) ?_
  refine .opv (load_bx1 E (b := b) (cs := after.map .s) (j := i) (x := .s after[i]) (by rw [List.getElem?_map,List.getElem?_eq_getElem hi]; rfl)) (by kernel_rfl) ?_
  refine .opv (add_str (a := [60]) (b := after[i]) (by simp; omega)) (by kernel_rfl) ?_
  obtain ⟨h4,c4,b4,o4⟩ := ws_ok b3 ([60] ++ after[i]) (by simp) (by simp; omega)
  have g4 : h4.get 0 = _ := o4 0 _ g3 (by decide) (fun g e => nomatch e)
  refine .call c4 (by kernel_rfl) ?_
  refine .next n (by kernel_rfl) (by omega) ⟨i + 1,by omega,.at (h' := h4) (by kernel_rfl) ?_,get_at (h' := h4) (by kernel_rfl) g4,.of (by kernel_rfl) ⟨by kernel_rfl,by kernel_rfl,by kernel_rfl,by kernel_rfl,?_,trivial⟩⟩
  ·rw [List.append_assoc] at b4
   rw [← sayA_one after i hi]
   exact b4
  ·exact Eq.trans (b := .d (.i .i64 (wrap .i64 (.ofNat i + 1)))) (by kernel_rfl) (by rw [wrap64 (by simp only [Int.ofNat_eq_natCast]; omega) (by simp only [Int.ofNat_eq_natCast]; omega)]; rfl)
 have hn : n = 0 := by rw [iLt_not] at e; simp only [Int.ofNat_eq_natCast] at e; omega
 subst hn
 rw [show after.take i = after by rw [List.take_of_length_le (by omega)]] at b3
 refine .out true 1 (by kernel_rfl) ?_
 refine .op (load_ptr E (ag := false) (n := 1) (off := 5) g3 rfl rfl) (by kernel_rfl) ?_
 refine .br (!(iEq quota 0)) (by kernel_rfl) (fun e => ?_) (fun e => ?_)
 ·have hq : quota ≠ 0 := by simpa [iEq_dec] using e
  have dq := dig_pos q0 q1
  have ql := dq.2
  refine .op (load_ptr E (ag := false) (n := 1) (off := 5) g3 rfl rfl) (by kernel_rfl) ?_
  refine .opv (itoa_ok (v := quota) (by omega) (by omega)) (by kernel_rfl) ?_
  refine .opv (add_str (a := [43]) (b := itoaA quota) (by simp; omega)) (by kernel_rfl) ?_
  obtain ⟨h5,c5,b5,_⟩ := ws_ok b3 ([43] ++ itoaA quota) (by simp) (by simp; omega)
  refine .call c5 (by kernel_rfl) ?_
  obtain ⟨h6,c6,_⟩ := str_ok b5 (by simp; omega)
  refine .call c6 (by kernel_rfl) ?_
  rw [if_neg hq]
  exact .ret rfl (by kernel_rfl)
 ·have hq : quota = 0 := by simpa [iEq_dec] using e
  obtain ⟨h6,c6,_⟩ := str_ok b3 (by simp; omega)
  refine .call c6 (by kernel_rfl) ?_
  rw [if_pos hq,List.append_nil]
  exact .ret rfl (by kernel_rfl)
theorem say1n {h : Heap} {args : List AV} {bor  : Bool} {name over : List UInt8} {after : List (List UInt8)} {width quota : Int} (hx : fitsI ⟨name,1,[],over,width,quota⟩ = true)
  (ha : stripArgs h args = some ([.agg [.s name,.i .u8 1,.nsl,.s over,.i .i64 width,.i .i64 quota]],bor)) : Cal E f_player_Say args h (.nrm,.d (.s (sayV ⟨name,1,[],over,width,quota⟩)),h) := by
 have f := fitI hx
 have fn := f.n; have fl := f.l; have q0 := f.q0; have q1 := f.q1; have fa := f.a
 simp only at fn fl q0 q1 fa
 have nl := name_len fn
 have al : (sayA []).length ≤ 0 := Nat.le_refl _
 refine .w n_player_Say (by kernel_rfl) ha (W.any (m := true) ?_)
 refine .opR (by kernel_rfl) ?_
 obtain ⟨h1,c1,b1,o1⟩ := ws_ok (b := 1) (bs := []) (h := (Heap.empty.push (.cells false t_Item [.d (.s name),.d (.i .u8 1),.nilsl,.d (.s over),.d (.i .i64 width),.d (.i .i64 quota)])).push (.cells false t_strings_Builder [.d .nilp,.nilsl])) ⟨_,_,rfl,.inl rfl,.inl ⟨rfl,rfl⟩⟩ name (name_ne fn) (by simp; omega)
 have g1 : h1.get 0 = some (.cells false t_Item [.d (.s name),.d (.i .u8 1),.nilsl,.d (.s over),.d (.i .i64 width),.d (.i .i64 quota)]) := o1 0 _ rfl (by decide) (fun g e => nomatch e)
 clear o1
 rw [List.nil_append] at b1
 refine .call c1 (by kernel_rfl) ?_
 refine .op (load_ptr E (ag := false) (n := 1) (off := 1) g1 rfl rfl) (by kernel_rfl) ?_
 have hk : isName over = true ∧ 0 ≤ width ∧ width ≤ 40 := by
  rcases f.k with ⟨k,_⟩ | ⟨_,k⟩
  ·cases k
  ·exact k
 have dw := dig_pos hk.2.1 (by omega)
 have ol := name_len hk.1
 have wl := dw.2
 refine .br true (by kernel_rfl) (fun _ => ?_) (fun e => nomatch e)
 refine .rd2 (load_ptr E (ag := false) (n := 1) (off := 4) g1 rfl rfl) (load_ptr E (ag := false) (n := 1) (off := 4) g1 rfl rfl) (by kernel_rfl) ?_
 refine .opv (itoa_ok (v := width) (by omega) (by omega)) (by kernel_rfl) ?_
 refine .rd3 (load_ptr E (ag := false) (n := 1) (off := 3) g1 rfl rfl) (load_ptr E (ag := false) (n := 1) (off := 3) g1 rfl rfl) (load_ptr E (ag := false) (n := 1) (off := 3) g1 rfl rfl) (by kernel_rfl) ?_
 refine .opv (add_str (a := [42]) (b := over) (by simp; omega)) (by kernel_rfl) ?_
 refine .opv (add_str (a := [42] ++ over) (b := [58]) (by simp; omega)) (by kernel_rfl) ?_
 refine .opv (add_str (a := [42] ++ over ++ [58]) (b := itoaA width) (by simp; omega)) (by kernel_rfl) ?_
 obtain ⟨h2,c2,b2,o2⟩ := ws_ok b1 ([42] ++ over ++ [58] ++ itoaA width) (by simp) (by simp; omega)
 have g2 : h2.get 0 = some (.cells false t_Item [.d (.s name),.d (.i .u8 1),.nilsl,.d (.s over),.d (.i .i64 width),.d (.i .i64 quota)]) := o2 0 _ g1 (by decide) (fun g e => nomatch e)
 clear o2
 refine .call c2 (by kernel_rfl) ?_
 have eM : sayM ⟨name,1,[],over,width,quota⟩ = [42] ++ over ++ [58] ++ itoaA width := by simp [sayM]
 rw [← eM] at b2
 have ml : (sayM ⟨name,1,[],over,width,quota⟩).length ≤ 40 := by rw [eM]; simp; omega
 have hV : sayV ⟨name,1,[],over,width,quota⟩ = ((name ++ sayM ⟨name,1,[],over,width,quota⟩) ++ sayA []) ++ sayQ ⟨name,1,[],over,width,quota⟩ := rfl
 have hQ : sayQ ⟨name,1,[],over,width,quota⟩ = if quota = 0 then [] else 43 :: itoaA quota := rfl
 rw [hV,hQ]
 generalize sayM ⟨name,1,[],over,width,quota⟩ = M at b2 ml
 refine .op (load_ptr E (ag := false) (n := 1) (off := 2) g2 rfl rfl) (by kernel_rfl) ?_
 refine .loop true (fun n tm h => Bld 1 ((name ++ M) ++ sayA []) h ∧ h.get 0 = some (.cells false t_Item [.d (.s name),.d (.i .u8 1),.nilsl,.d (.s over),.d (.i .i64 width),.d (.i .i64 quota)]) ∧ St 41 [(1,.ptr 0 0),(3,.ptr 1 0),(22,.nilsl),(23,mkI 0),(24,mkI 0)] tm) 0 (by kernel_rfl)
  ⟨.at (h' := h2) (by kernel_rfl) (by simpa [sayA] using b2),get_at (h' := h2) (by kernel_rfl) g2,.of (by kernel_rfl) ⟨by kernel_rfl,by kernel_rfl,by kernel_rfl,by kernel_rfl,by kernel_rfl,trivial⟩⟩ ?_
 rintro n tm h3 ⟨b3,g3,g',rfl⟩
 refine .br false (by kernel_rfl) (fun e => nomatch e) (fun e => ?_)
 refine .out true 1 (by kernel_rfl) ?_
 refine .op (load_ptr E (ag := false) (n := 1) (off := 5) g3 rfl rfl) (by kernel_rfl) ?_
 refine .br (!(iEq quota 0)) (by kernel_rfl) (fun e => ?_) (fun e => ?_)
 ·have hq : quota ≠ 0 := by simpa [iEq_dec] using e
  have dq := dig_pos q0 q1
  have ql := dq.2
  refine .op (load_ptr E (ag := false) (n := 1) (off := 5) g3 rfl rfl) (by kernel_rfl) ?_
  refine .opv (itoa_ok (v := quota) (by omega) (by omega)) (by kernel_rfl) ?_
  refine .opv (add_str (a := [43]) (b := itoaA quota) (by simp; omega)) (by kernel_rfl) ?_
  obtain ⟨h5,c5,b5,_⟩ := ws_ok b3 ([43] ++ itoaA quota) (by simp) (by simp; omega)
  refine .call c5 (by kernel_rfl) ?_
  obtain ⟨h6,c6,_⟩ := str_ok b5 (by simp; omega)
  refine .call c6 (by kernel_rfl) ?_
  rw [if_neg hq]
  exact .ret rfl (by kernel_rfl)
 ·have hq : quota = 0 := by simpa [iEq_dec] using e
  obtain ⟨h6,c6,_⟩ := str_ok b3 (by simp; omega)
  refine .call c6 (by kernel_rfl) ?_
  rw [if_pos hq,List.append_nil]
  exact .ret rfl (by kernel_rfl)
theorem say_ok {h : Heap} {args : List AV} {bor : Bool} {x : ItemS} {L : DV} (hx : fitsI x = true) (hL : StrR x.after L)
  (ha : stripArgs h args = some ([.agg [.s x.name,.i .u8 x.kind,L,.s x.over,.i .i64 x.width,.i .i64 x.quota]],bor)) : Cal E f_player_Say args h (.nrm,.d (.s (sayV x)),h) := by
 obtain ⟨name,kind,after,over,width,quota⟩ := x
 have hk : kind = 0 ∨ kind = 1 := by
  rcases (fitI hx).k with ⟨k,_⟩ | ⟨k,_⟩
  ·exact .inl k
  ·exact .inr k
 simp only at hL ha
 rcases hL with ⟨rfl,rfl⟩ | ⟨b,rfl⟩ <;> rcases hk with rfl | rfl
 ·exact say0n (after := []) hx ha
 ·exact say1n (after := []) hx ha
 ·exact say0sl hx ha
 ·exact say1sl hx ha
end
end Go.Proofs.YtehffjjfomapnaaGreatDoor
