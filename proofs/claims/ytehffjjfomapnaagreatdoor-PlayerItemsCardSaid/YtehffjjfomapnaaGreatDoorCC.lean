/- Contracts: a strings.Builder in a shared heap: copyCheck, WriteString, String. -/
import Derived.Test.YtehffjjfomapnaaGreatDoorCB
namespace Go.Proofs.YtehffjjfomapnaaGreatDoor
open Go Go.Abs
set_option maxRecDepth 100000
noncomputable section
def BufR (bs : List UInt8) (v : AV) (h : Heap) : Prop := (bs = [] ∧ v = .nilsl) ∨ (bs ≠ [] ∧ ∃ t g,v = .app t g bs.length (bytesD bs) ∧ h.get t = some (.tok g 5))
theorem BufR.fa {bs : List UInt8} {v : AV} {h : Heap} (r : BufR bs v h) : FA 5 bs.length (bytesD bs) v h := by
 rcases r with ⟨rfl,rfl⟩ | ⟨_,t,g,rfl,ht⟩
 ·exact .inl ⟨rfl,rfl,.inr rfl⟩
 ·exact .inr ⟨t,g,rfl,ht⟩
theorem BufR.keep {bs : List UInt8} {v : AV} {h h' : Heap} (r : BufR bs v h) (k : ∀ t g,h.get t = some (.tok g 5) → h'.get t = some (.tok g 5)) : BufR bs v h' := by
 rcases r with r | ⟨hb,t,g,rfl,ht⟩
 ·exact .inl r
 ·exact .inr ⟨hb,t,g,rfl,k t g ht⟩
structure Bld (b : Nat) (bs : List UInt8) (h : Heap) : Prop where
 p : ∃ a v,h.get b = some (.cells false t_strings_Builder [a,v]) ∧ (a = .d .nilp ∨ a = .ptr b 0) ∧ BufR bs v h
def Oth (b : Nat) (h h' : Heap) : Prop := ∀ i x,h.get i = some x → i ≠ b → (∀ g,x ≠ .tok g 5) → h'.get i = some x
theorem Oth.refl (b : Nat) (h : Heap) : Oth b h h := fun _ _ hx _ _ => hx
theorem Oth.trans {b : Nat} {h1 h2 h3 : Heap} (p : Oth b h1 h2) (q : Oth b h2 h3) : Oth b h1 h3 := fun i x hx hn ht => q i x (p i x hx hn ht) hn ht
theorem neq_self (b o : Nat) (h : Heap) : s_bin h [] .neq .ptr (.c (.ptr b o)) (.c (.ptr b o)) = .val (.d (.b false)) h := by
 have he : Abs.ptrEq (.ptr b o) (.ptr b o) = some true := by simp only [Abs.ptrEq,Nat.beq_refl]
 have hq : eqA .ptr (.ptr b o) (.ptr b o) = some true := he
 simp only [s_bin,X.ev,binA,intA,strA,eqOp,hq]
 rfl
theorem copy_ok {b : Nat} {bs : List UInt8} {h : Heap} (hb : Bld b bs h) : ∃ h' v,Cal E f_strings_Builder_copyCheck [.ptr b 0] h (.nrm,.tup [],h') ∧ h'.get b = some (.cells false t_strings_Builder [.ptr b 0,v]) ∧ BufR bs v h' ∧ Oth b h h' := by
 obtain ⟨a,v,hg,rfl | rfl,hv⟩ := hb
 ·have hg2 : (h.set b (.cells false t_strings_Builder [.ptr b 0,v])).get b = some (.cells false t_strings_Builder [.ptr b 0,v]) := Heap.get_set_self hg
  refine ⟨h.set b (.cells false t_strings_Builder [.ptr b 0,v]),v,?_,hg2,hv.keep (fun t g ht => ?_),fun i x hx hn _ => by rw [Heap.get_set_ne (Ne.symm hn)]; exact hx⟩
  ·refine .wr n_strings_Builder_copyCheck (.inr rfl) ?_
   refine .op (load_ptr E (ag := false) (n := 1) (off := 0) hg rfl rfl) (by kernel_rfl) ?_
   refine .opR (by kernel_rfl) ?_
   refine .br true (by kernel_rfl) (fun _ => ?_) (fun e => nomatch e)
   refine .op (v := .ptr b 0) (h' := h) (by show s_cvP h [] none (.c (.ptr b 0)) = _; simp only [s_cvP,X.ev,hg]; rfl) (by kernel_rfl) ?_
   refine .opR (by kernel_rfl) ?_
   refine .op (v := .ptr b 0) (h' := h) (by show s_cvP h [] (some (t_strings_Builder,2)) (.c (.ptr b 0)) = _; simp only [s_cvP,X.ev,hg]; rfl) (by kernel_rfl) ?_
   refine .op (store_ptr (n := 1) (off := 0) (x := .ptr b 0) hg rfl) (by kernel_rfl) ?_
   exact .retR (by kernel_rfl) (by kernel_rfl)
  ·rw [Heap.get_set_ne (fun e => by subst e; rw [hg] at ht; cases ht)]; exact ht
 ·refine ⟨h,v,?_,hg,hv,.refl _ _⟩
  refine .wr n_strings_Builder_copyCheck (.inr rfl) ?_
  refine .op (load_ptr E (ag := false) (n := 1) (off := 0) hg rfl rfl) (by kernel_rfl) ?_
  refine .opR (by kernel_rfl) ?_
  refine .br false (by kernel_rfl) (fun e => nomatch e) (fun _ => ?_)
  refine .op (load_ptr E (ag := false) (n := 1) (off := 0) hg rfl rfl) (by kernel_rfl) ?_
  refine .opv (neq_self b 0) (by kernel_rfl) ?_
  refine .br false (by kernel_rfl) (fun e => nomatch e) (fun _ => ?_)
  exact .retR (by kernel_rfl) (by kernel_rfl)
theorem src_str (h : Heap) (s : List UInt8) : SrcR h 1 (.d (.s s)) s.length (bytesD s) := rfl
theorem ws_ok {b : Nat} {bs : List UInt8} {h : Heap} (hb : Bld b bs h) (s : List UInt8) (hs : s ≠ []) (hl : bs.length + s.length ≤ 70368744177664) :
  ∃ h',Cal E f_strings_Builder_WriteString [.ptr b 0,.d (.s s)] h (.nrm,.tup [mkI s.length,.d .nili],h') ∧ Bld b (bs ++ s) h' ∧ Oth b h h' := by
 obtain ⟨h1,v,hc,hg,hv,ho⟩ := copy_ok hb
 have hsl : s.length ≠ 0 := fun e => hs (List.eq_nil_of_length_eq_zero e)
 obtain ⟨v',h2,he,hf,hk,ht0⟩ := app_fa (sz := 1) (bytes := 1) hv.fa (by rw [bytesD_length,Nat.mul_one]) (src_str h1 s) (by omega) (by omega) (fun e => absurd e hsl) (okCells_bytes s)
 obtain ⟨t,g,rfl,ht⟩ := ht0 hsl
 clear ht0
 have hg2 : h2.get b = some (.cells false t_strings_Builder [.ptr b 0,v]) := by
  rw [hk.2 b (get_lt hg) (fun t g n cs e hit => ?_)]
  ·exact hg
  ·subst e hit
   rcases hv with ⟨_,e⟩ | ⟨_,t1,g1,e,ht1⟩
   ·cases e
   ·cases e
    rw [hg] at ht1; cases ht1
 have htb : t ≠ b := fun e => by subst e; rw [hg2] at ht; cases ht
 refine ⟨h2.set b (.cells false t_strings_Builder [.ptr b 0,.app t g (bs.length + s.length) (bytesD bs ++ bytesD s)]),?_,⟨_,_,Heap.get_set_self hg2,.inr rfl,.inr ⟨by simp [hs],t,g,?_,?_⟩⟩,?_⟩
 ·refine .wr n_strings_Builder_WriteString (.inl (by kernel_rfl)) ?_
  refine .call hc (by kernel_rfl) ?_
  refine .op (load_ptr E (ag := false) (n := 1) (off := 1) hg rfl rfl) (by kernel_rfl) ?_
  refine .op he (by kernel_rfl) ?_
  refine .op (store_ptr (n := 1) (off := 1) (x := .app t g (bs.length + s.length) (bytesD bs ++ bytesD s)) hg2 rfl) (by kernel_rfl) ?_
  exact .retR (by kernel_rfl) (by kernel_rfl)
 ·rw [bytesD_append,List.length_append]
 ·rw [Heap.get_set_ne (Ne.symm htb)]; exact ht
 ·intro i x hx hn htk
  have hx1 := ho i x hx hn htk
  rw [Heap.get_set_ne (Ne.symm hn),hk.2 i (get_lt hx1) (fun t g n cs e hit => ?_)]
  ·exact hx1
  ·subst e hit
   rcases hv with ⟨_,e⟩ | ⟨_,t1,g1,e,ht1⟩
   ·cases e
   ·cases e
    rw [hx1] at ht1; cases ht1
    exact htk _ rfl
theorem isB_bytes (bs : List UInt8) : (bytesD bs).all isB = true := by
 simp only [bytesD,List.all_map,List.all_eq_true]
 intro x _
 show Nat.blt x.toNat 256 = true
 rw [Nat.blt_eq]; exact x.toNat_lt
theorem unbytes_bytes (bs : List UInt8) : unbytes (bytesD bs) = some bs := by
 induction bs with
 | nil => rfl
 | cons a r ih =>
  show (match unbyte (byteD a) with | some b => (match unbytes (bytesD r) with | some l => some (b :: l) | none => none) | none => none) = _
  rw [ih]
  show some (UInt8.ofNat a.toNat :: r) = _
  rw [UInt8.ofNat_toNat]
theorem str_ok {b : Nat} {bs : List UInt8} {h : Heap} (hb : Bld b bs h) (hl : bs.length ≤ 70368744177664) : ∃ h',Cal E f_strings_Builder_String [.ptr b 0] h (.nrm,.d (.s bs),h') ∧ ∀ i x,h.get i = some x → (∀ g,x ≠ .tok g 5) → h'.get i = some x := by
 obtain ⟨a,v,hg,_,hv⟩ := hb
 rcases hv with ⟨rfl,rfl⟩ | ⟨hne,t,g,rfl,ht⟩
 ·refine ⟨h,?_,fun _ _ hx _ => hx⟩
  refine .wr n_strings_Builder_String (.inr rfl) ?_
  refine .rd2 (load_ptr E (ag := false) (n := 1) (off := 1) hg rfl rfl) (load_ptr E (ag := false) (n := 1) (off := 1) hg rfl rfl) (by kernel_rfl) ?_
  refine .op (v := .d .nilp) (h' := h) rfl (by kernel_rfl) ?_
  refine .rd3 (load_ptr E (ag := false) (n := 1) (off := 1) hg rfl rfl) (load_ptr E (ag := false) (n := 1) (off := 1) hg rfl rfl) (load_ptr E (ag := false) (n := 1) (off := 1) hg rfl rfl) (by kernel_rfl) ?_
  refine .opR (by kernel_rfl) ?_
  exact .retR (by kernel_rfl) (by kernel_rfl)
 ·have hu : s_uss h [] 5 (.c (.tptr t g 5 (bytesD bs))) (.c (mkI bs.length)) = .val (.d (.s bs)) (h.set t (.tok (g + 1) 5)) := by
   obtain ⟨k,hk⟩ : ∃ k,bs.length = k + 1 := ⟨bs.length - 1,by have := List.length_pos_iff.2 hne; omega⟩
   have htk : (bytesD bs).take (k + 1) = bytesD bs := List.take_of_length_le (by rw [bytesD_length]; omega)
   have hle : Nat.ble (bytesD bs).length 70368744177664 = true := by rw [Nat.ble_eq,bytesD_length]; exact hl
   have hle2 : Nat.ble (k + 1) (bytesD bs).length = true := by rw [Nat.ble_eq,bytesD_length]; omega
   simp only [s_uss,X.ev,mkI,Int.ofNat_eq_natCast,hk]
   simp only [ht,htk,hle,hle2,isB_bytes,unbytes_bytes,Nat.beq_refl,show Nat.beq 5 5 = true from rfl,Bool.and_self]
  refine ⟨h.set t (.tok (g + 1) 5),?_,fun i x hx hn => by rw [Heap.get_set_ne (fun e => by subst e; rw [ht] at hx; cases hx; exact hn _ rfl)]; exact hx⟩
  obtain ⟨k,hk⟩ : ∃ k,bs.length = k + 1 := ⟨bs.length - 1,by have := List.length_pos_iff.2 hne; omega⟩
  refine .wr n_strings_Builder_String (.inr rfl) ?_
  refine .rd2 (load_ptr E (ag := false) (n := 1) (off := 1) hg rfl rfl) (load_ptr E (ag := false) (n := 1) (off := 1) hg rfl rfl) (by kernel_rfl) ?_
  refine .op (v := .tptr t g 5 (bytesD bs)) (h' := h) (by show s_ssd h [] (.c (.app t g bs.length (bytesD bs))) = _; rw [hk]; simp only [s_ssd,X.ev,ht,Nat.beq_refl]) (by kernel_rfl) ?_
  refine .rd3 (load_ptr E (ag := false) (n := 1) (off := 1) hg rfl rfl) (load_ptr E (ag := false) (n := 1) (off := 1) hg rfl rfl) (load_ptr E (ag := false) (n := 1) (off := 1) hg rfl rfl) (by kernel_rfl) ?_
  refine .op hu (by kernel_rfl) ?_
  exact .retR (by kernel_rfl) (by kernel_rfl)
end
end Go.Proofs.YtehffjjfomapnaaGreatDoor
