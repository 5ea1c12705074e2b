/- Contracts: a player that is none: Do, Play, State. -/
import Derived.Test.YtfbjkckdmigaoaaGreatDoorD
namespace Go.Proofs.YtfbjkckdmigaoaaGreatDoor
open Go Go.Abs
set_option maxRecDepth 100000
set_option maxHeartbeats 0
noncomputable section
def isD (x : DV) (r : Option (Ex × AV × Heap × Option AV)) : Bool := match r with
  | some (ex,v,_,p) => match ex,p with
    | .nrm,none => match v with
      | .d y => dvEq y x
      | _ => false
    | _,_ => false
  | none => false
theorem Cal.dat {f : FuncId} {fn : AFn} {args : List AV} {ds : List DV} {bor : Bool} {h : Heap} {x : DV} (N : Nat) (hf : E.fn f = some fn) (hr : fn.ref = false) (ha : stripArgs h args = some (ds,bor)) (hc : clean x = true)
    (hx : isD x (callIn E (runF E N) f (ds.map inj) none .empty) = true) : Cal E f args h (.nrm,.d x,h) := by
  refine ⟨N,?_⟩
  unfold callTop Abs.call
  simp only [hf,hr,ha]
  unfold isD at hx
  split at hx
  · rename_i ex v h1 p he
    split at hx
    · split at hx
      · rename_i y
        rw [he,dvEq_true hx]
        simp only [adopt_clean bor h1 h hc]
      · cases hx
    · cases hx
  · cases hx
theorem W.resH {Q : Ex → List AV → Heap → Prop} {c : Cfg} {rs : List RV} {v' : AV} {h' : Heap} (he : (adO E c).p ((adv E c).res E rs) = (adO E c).q (some v')) (hh : (adv E c).hp = h') (q : ∀ ex tm,(ex = .nrm ∨ ex = .ret) → Abs.results E h' tm rs = some v' → Q ex tm h') : W E Q c := by
  obtain ⟨ho,he⟩ := Outc.pq he
  constructor
  refine advF_ok 100000 _ ho ?_
  show evW E _ (adv E c)
  revert he hh
  cases adv E c <;> intro hh he <;> try cases he
  rename_i ex tm h
  subst hh
  cases ex with
  | nrm => exact q _ _ (.inl rfl) he
  | ret => exact q _ _ (.inr rfl) he
  | exit j => cases he
  | pan v => cases he
def em : List UInt8 := [101,114,114,111,114,32,49]
def msg : List UInt8 := [101,114,114,111,114,32,49,10]
theorem fn12 : E.fn 12 = some a12 := by kernel_rfl
theorem fn11 : E.fn 11 = some a11 := by kernel_rfl
theorem fn6 : E.fn 6 = some a6 := by kernel_rfl
theorem fn7 : E.fn 7 = some a7 := by kernel_rfl
theorem fn8 : E.fn 8 = some a8 := by kernel_rfl
theorem fn15 : E.fn 15 = some a15 := by kernel_rfl
theorem fn40 : E.fn 40 = some a40 := by kernel_rfl
theorem failed_ok (h : Heap) : Cal E 12 [mkI 1] h (.nrm,strV em,h) := Cal.dat 100000 fn12 rfl rfl rfl (by kernel_rfl)
def NoneP (p : AV) (h : Heap) : Prop := p = .d .nilp ∨ ∃ b,p = .ptr b 0 ∧ h.get b = some (.cells false 27 [.d .nilp,.d .nilp,mkI 0])
theorem NoneP.keep {p : AV} {h h' : Heap} (hp : NoneP p h) (k : ∀ i x,h.get i = some x → (∃ cs,x = .cells false 27 cs) → h'.get i = some x) : NoneP p h' := by
  rcases hp with hp | ⟨b,rfl,hg⟩
  · exact .inl hp
  · exact .inr ⟨b,rfl,k _ _ hg ⟨_,rfl⟩⟩
theorem none_ok {p : AV} {h : Heap} (hp : NoneP p h) : Cal E 11 [p] h (.nrm,.d (.b true),h) := by
  rcases hp with rfl | ⟨b,rfl,hg⟩
  · refine .w fn11 rfl rfl ?_
    refine .br true (by kernel_rfl) (fun _ => ?_) (fun e => nomatch e)
    exact .ret rfl (by kernel_rfl)
  · refine .wr fn11 (.inr rfl) ?_
    refine .opR (by kernel_rfl) ?_
    refine .br false (by kernel_rfl) (fun e => nomatch e) (fun _ => ?_)
    refine .op (load_ptr E (ag := false) (n := 1) (off := 0 + 1) hg rfl rfl) (by kernel_rfl) ?_
    refine .opR (by kernel_rfl) ?_
    exact .retR (by kernel_rfl) (by kernel_rfl)
theorem do_ok {p : AV} {h : Heap} (hp : NoneP p h) (s : List UInt8) : Cal E 6 [p,strV s] h (.nrm,strV em,h) := by
  have hn : Cal E 11 [p] h (.nrm,.d (.b true),h) := none_ok hp
  rcases hp with rfl | ⟨b,rfl,hg⟩
  · refine .w fn6 rfl rfl ?_
    refine .callv (fun h => none_ok (.inl rfl)) (by kernel_rfl) ?_
    refine .br true (by kernel_rfl) (fun _ => ?_) (fun e => nomatch e)
    refine .callv failed_ok (by kernel_rfl) ?_
    exact .ret rfl (by kernel_rfl)
  · refine .wr fn6 (.inr rfl) ?_
    refine .call hn (by kernel_rfl) ?_
    refine .br true (by kernel_rfl) (fun _ => ?_) (fun e => nomatch e)
    refine .call (failed_ok h) (by kernel_rfl) ?_
    exact .retR (by kernel_rfl) (by kernel_rfl)
def outP (d : List (List UInt8)) : List UInt8 := d.flatMap fun s => match s with
  | [] => []
  | _ :: _ => msg
theorem outP_one (d : List (List UInt8)) (s : List UInt8) : outP (d ++ [s]) = outP d ++ (match s with | [] => [] | _ :: _ => msg) := by
  unfold outP
  rw [List.flatMap_append]
  simp
theorem outP_len (d : List (List UInt8)) : (outP d).length ≤ 8 * d.length := by
  induction d with
  | nil => exact Nat.le_refl _
  | cons s r ih =>
    show (List.length ((match s with | [] => [] | _ :: _ => msg) ++ outP r)) ≤ _
    rw [List.length_append,List.length_cons]
    cases s with
    | nil => simp only [List.length_nil]; omega
    | cons a b => have : msg.length = 8 := rfl; simp only [this]; omega
def hS (h : Heap) (s : List UInt8) : Heap := ((h.push (.cells false 9 [strV s])).push (.cells false 9 [strV [10]])).push (.cells false 3 [mkI 0])
def fS (h : Heap) : AV := .fn (.func 78) [] [.ptr (h.n + 1) 0,.ptr h.n 0,.ptr (h.n + 2) 0]
theorem sq40_ok (s : List UInt8) (h : Heap) : Cal E 40 [strV s,strV [10],mkI 0] h (.nrm,fS h,hS h s) := by
  refine .wr fn40 (.inl rfl) ?_
  exact .retR (by kernel_rfl) (by kernel_rfl)
theorem sq15_ok (s : List UInt8) (h : Heap) : Cal E 15 [strV s,strV [10]] h (.nrm,fS h,hS h s) := by
  refine .wr fn15 (.inl rfl) ?_
  refine .call (sq40_ok s h) (by kernel_rfl) ?_
  exact .retR (by kernel_rfl) (by kernel_rfl)
def pv (m : Bool) (b : Nat) : AV := match m with
  | false => .d .nilp
  | true => .ptr b 0
def h2 (m : Bool) (b : Nat) (h : Heap) : Heap := (h.push (.cells false 23 [pv m b])).push (.cells false 66 [.d .nilp,.nilsl])
def cPl (m : Bool) (b : Nat) (s : List UInt8) (h : Heap) : Cfg := (adv E (.run a7.body [] ⟨m,[]⟩ (enterT 18 [pv m b,strV s]) h)).callK (fS (h2 m b h)) (hS (h2 m b h) s)
def bPl (m : Bool) (b : Nat) (s : List UInt8) (h : Heap) (st : LSt) : Blk := .loop st .none 0 (adv E (cPl m b s h)).tm (adv E (cPl m b s h)).rfP (adv E (cPl m b s h)).rfA (adv E (cPl m b s h)).rfB
structure PJ (m : Bool) (b : Nat) (s : List UInt8) (h0 : Heap) (d : List (List UInt8)) (h : Heap) : Prop where
  q : h.get h0.n = some (.cells false 23 [pv m b])
  bd : Bld (h0.n + 1) (outP d) h
  l : h.get (h0.n + 5) = some (bPl m b s h0 .ready)
  o : ∀ i x,h0.get i = some x → (∀ g,x ≠ .tok g 5) → h.get i = some x
theorem Bld.keep {b : Nat} {bs : List UInt8} {h h' : Heap} (hb : Bld b bs h) (k : ∀ i x,h.get i = some x → (i = b ∨ ∃ g,x = .tok g 5) → h'.get i = some x) : Bld b bs h' := by
  obtain ⟨a,v,hg,ha,hv⟩ := hb
  exact ⟨a,v,k _ _ hg (.inl rfl),ha,hv.keep fun t g ht => k _ _ ht (.inr ⟨g,rfl⟩)⟩
theorem pl_rounds (m : Bool) {b : Nat} (s : List UInt8) {h0 : Heap} (hp : NoneP (pv m b) h0) : Rounds (h0.n + 5) (h0.n + 2) (h0.n + 3) (h0.n + 4) (PJ m b s h0) where
  own d s0 h s' hj hs := by
    have hk : ∀ i x,h.get i = some x → i ≠ h0.n + 2 → (h.set (h0.n + 2) (.cells false 9 [strV s'])).get i = some x := fun i x hx hn => by rw [Heap.get_set_ne (Ne.symm hn)]; exact hx
    refine ⟨hk _ _ hj.q (by omega),hj.bd.keep (fun i x hx hi => hk _ _ hx (fun e => ?_)),hk _ _ hj.l (by omega),fun i x hx ht => hk _ _ (hj.o i x hx ht) (by have := get_lt hx; omega)⟩
    subst e
    rcases hi with hi | ⟨g,rfl⟩
    · omega
    · rw [hs.s] at hx; cases hx
  step d x s0 h hd hj hs := by
    obtain ⟨hB,hBe⟩ : ∃ hB,hB = h.set (h0.n + 5) (bPl m b s h0 .busy) := ⟨_,rfl⟩
    have hBl : hB.get (h0.n + 5) = some (bPl m b s h0 .busy) := by rw [hBe]; exact Heap.get_set_self hj.l
    have hk : ∀ i x,h.get i = some x → i ≠ h0.n + 5 → hB.get i = some x := fun i x hx hn => by rw [hBe,Heap.get_set_ne (Ne.symm hn)]; exact hx
    have hq := hk _ _ hj.q (by omega)
    have hb : Bld (h0.n + 1) (outP d) hB := hj.bd.keep (fun i x hx hi => hk _ _ hx (by
      rcases hi with hi | ⟨g,rfl⟩
      · omega
      · intro e; subst e; rw [hj.l] at hx; cases hx))
    have hoB : ∀ i x,h0.get i = some x → (∀ g,x ≠ .tok g 5) → hB.get i = some x := fun i x hx ht => hk _ _ (hj.o i x hx ht) (by have := get_lt hx; omega)
    have he : NoneP (pv m b) hB := hp.keep (fun i x hx hi => hoB i x hx (fun g e => by obtain ⟨cs,hi⟩ := hi; subst e; cases hi))
    have hsB : SeqI (h0.n + 2) (h0.n + 3) (h0.n + 4) s0 hB := ⟨hk _ _ hs.s (by omega),hk _ _ hs.p (by omega),hk _ _ hs.n (by omega)⟩
    -- what is behind the round
    have fin : ∀ h2 : Heap,h2.get (h0.n + 5) = some (bPl m b s h0 .busy) → h2.get h0.n = some (.cells false 23 [pv m b]) → Bld (h0.n + 1) (outP (d ++ [x])) h2 → (∀ i x,h0.get i = some x → (∀ g,x ≠ .tok g 5) → h2.get i = some x) → SeqI (h0.n + 2) (h0.n + 3) (h0.n + 4) s0 h2 →
        PJ m b s h0 (d ++ [x]) (h2.set (h0.n + 5) (bPl m b s h0 .ready)) ∧ SeqI (h0.n + 2) (h0.n + 3) (h0.n + 4) s0 (h2.set (h0.n + 5) (bPl m b s h0 .ready)) := by
      intro h2 g1 g2 g3 g4 g5
      have hk2 : ∀ i x,h2.get i = some x → i ≠ h0.n + 5 → (h2.set (h0.n + 5) (bPl m b s h0 .ready)).get i = some x := fun i x hx hn => by rw [Heap.get_set_ne (Ne.symm hn)]; exact hx
      refine ⟨⟨hk2 _ _ g2 (by omega),g3.keep (fun i x hx hi => hk2 _ _ hx ?_),Heap.get_set_self g1,fun i x hx ht => hk2 _ _ (g4 i x hx ht) (by have := get_lt hx; omega)⟩,hk2 _ _ g5.s (by omega),hk2 _ _ g5.p (by omega),hk2 _ _ g5.n (by omega)⟩
      rcases hi with hi | ⟨g,rfl⟩
      · omega
      · intro e; subst e; rw [g1] at hx; cases hx
    have key : ∀ hF hX : Heap,hF.get (h0.n + 5) = some (bPl m b s h0 .busy) → hX = hF → ∃ f1 tm2 ps2 a2 b2 p2 s2,hX.get (h0.n + 5) = some (.loop s2 p2 f1 tm2 ps2 a2 b2) ∧ hF.set (h0.n + 5) (bPl m b s h0 .ready) = hX.set (h0.n + 5) (.loop .ready .none f1 tm2 ps2 a2 b2) := by
      rintro hF _ hg rfl
      exact ⟨0,_,_,_,_,.none,.busy,hg,rfl⟩
    have body : ∃ h2, W E (fun ex _ h1 => ex = .nrm ∧ ∃ f1 tm2 ps2 a2 b2 p2 s2, h1.get (h0.n + 5) = some (.loop s2 p2 f1 tm2 ps2 a2 b2) ∧ h2.set (h0.n + 5) (bPl m b s h0 .ready) = h1.set (h0.n + 5) (.loop .ready .none f1 tm2 ps2 a2 b2))
          (.run (adv E (cPl m b s h0)).rfB [] ⟨true,[]⟩ (setL (setL (adv E (cPl m b s h0)).tm 9 (strV x)) 6 (strV x)) hB) ∧
        h2.get (h0.n + 5) = some (bPl m b s h0 .busy) ∧ h2.get h0.n = some (.cells false 23 [pv m b]) ∧ Bld (h0.n + 1) (outP (d ++ [x])) h2 ∧ (∀ i x,h0.get i = some x → (∀ g,x ≠ .tok g 5) → h2.get i = some x) ∧ SeqI (h0.n + 2) (h0.n + 3) (h0.n + 4) s0 h2 := by
      cases x with
      | nil =>
        refine ⟨hB,?_,hBl,hq,by rw [outP_one]; simpa using hb,hoB,hsB⟩
        cases m
        · refine .br false (by kernel_rfl) (fun e => nomatch e) (fun _ => ?_)
          exact .done 0 (by kernel_rfl) ⟨rfl,key _ _ hBl (by kernel_rfl)⟩
        · refine .br false (by kernel_rfl) (fun e => nomatch e) (fun _ => ?_)
          exact .done 0 (by kernel_rfl) ⟨rfl,key _ _ hBl (by kernel_rfl)⟩
      | cons c r =>
        have hlo := outP_len d
        obtain ⟨h2,hc,hb2,ho⟩ := ws_ok hb msg (by unfold msg; simp) (by have : msg.length = 8 := rfl; omega)
        have hl2 : h2.get (h0.n + 5) = some (bPl m b s h0 .busy) := ho _ _ hBl (by omega) (fun g e => by cases e)
        refine ⟨h2,?_,hl2,ho _ _ hq (by omega) (fun g e => by cases e),by rw [outP_one]; exact hb2,fun i x hx ht => ho _ _ (hoB i x hx ht) (by have := get_lt hx; omega) ht,ho _ _ hsB.s (by omega) (fun g e => by cases e),ho _ _ hsB.p (by omega) (fun g e => by cases e),ho _ _ hsB.n (by omega) (fun g e => by cases e)⟩
        cases m
        · refine .br true (by kernel_rfl) (fun _ => ?_) (fun e => nomatch e)
          refine .op (load_ptr E (ag := false) (n := 1) (off := 0) hq rfl rfl) (by kernel_rfl) ?_
          refine .call (do_ok he (c :: r)) (by kernel_rfl) ?_
          refine .opR (by kernel_rfl) ?_
          refine .call hc (by kernel_rfl) ?_
          exact .done 0 (by kernel_rfl) ⟨rfl,key _ _ hl2 (by kernel_rfl)⟩
        · refine .br true (by kernel_rfl) (fun _ => ?_) (fun e => nomatch e)
          refine .op (load_ptr E (ag := false) (n := 1) (off := 0) hq rfl rfl) (by kernel_rfl) ?_
          refine .call (do_ok he (c :: r)) (by kernel_rfl) ?_
          refine .opR (by kernel_rfl) ?_
          refine .call hc (by kernel_rfl) ?_
          exact .done 0 (by kernel_rfl) ⟨rfl,key _ _ hl2 (by kernel_rfl)⟩
    obtain ⟨h2,hw,g1,g2,g3,g4,g5⟩ := body
    refine ⟨h2.set (h0.n + 5) (bPl m b s h0 .ready),?_,fin h2 g1 g2 g3 g4 g5⟩
    rw [hBe] at hw
    cases m
    · exact Rnd.w (tm := setL (adv E (cPl false b s h0)).tm 9 (strV x)) (tm1 := setL (setL (adv E (cPl false b s h0)).tm 9 (strV x)) 6 (strV x)) hj.l (by kernel_rfl) ⟨2,by kernel_rfl⟩ hw
    · exact Rnd.w (tm := setL (adv E (cPl true b s h0)).tm 9 (strV x)) (tm1 := setL (setL (adv E (cPl true b s h0)).tm 9 (strV x)) 6 (strV x)) hj.l (by kernel_rfl) ⟨2,by kernel_rfl⟩ hw
def h7 (m : Bool) (b : Nat) (s : List UInt8) (h : Heap) : Heap := (hS (h2 m b h) s).push (bPl m b s h .ready)
theorem rfH_eq (m : Bool) (b : Nat) (s : List UInt8) (h : Heap) : h7 m b s h = (adv E (cPl m b s h)).rfH := by
  cases m
  · exact (by kernel_rfl : h7 false b s h = (adv E (cPl false b s h)).rfH)
  · exact (by kernel_rfl : h7 true b s h = (adv E (cPl true b s h)).rfH)
theorem pushn (h : Heap) (b : Blk) : (h.push b).n = h.n + 1 := by cases h; rfl
theorem play_body (m : Bool) (b : Nat) (s : List UInt8) (h : Heap) (hp : NoneP (pv m b) h) (hl : s.length ≤ 200) {Q : Ex → List AV → Heap → Prop}
    (fin : ∀ ex tm h1,(ex = .nrm ∨ ex = .ret) → Abs.results E h1 tm a7.results = some (strV (outP (parts s))) → (∀ i x,h.get i = some x → (∀ g,x ≠ .tok g 5) → h1.get i = some x) → Q ex tm h1) : W E Q (.run a7.body [] ⟨m,[]⟩ (enterT 18 [pv m b,strV s]) h) := by
  have hne : ∀ {i : Nat} {x : Blk},h.get i = some x → i ≠ h.n := fun hx e => by have := get_lt hx; omega
  have k2 : ∀ i x,(h2 m b h).get i = some x → (h7 m b s h).get i = some x := fun i x hx => push_of (push_of (push_of (push_of hx _) _) _) _
  have hn2 : (h2 m b h).n = h.n + 2 := by unfold h2; rw [pushn,pushn]
  have hn5 : (hS (h2 m b h) s).n = h.n + 5 := by unfold hS; rw [pushn,pushn,pushn,hn2]
  have s3 : SeqI (h.n + 2) (h.n + 3) (h.n + 4) s (h7 m b s h) := by
    refine ⟨?_,?_,?_⟩
    · have := push_n (h2 m b h) (.cells false 9 [strV s])
      rw [hn2] at this
      exact push_of (push_of (push_of this _) _) _
    · have := push_n ((h2 m b h).push (.cells false 9 [strV s])) (.cells false 9 [strV [10]])
      rw [pushn,hn2] at this
      exact push_of (push_of this _) _
    · have := push_n (((h2 m b h).push (.cells false 9 [strV s])).push (.cells false 9 [strV [10]])) (.cells false 3 [mkI 0])
      rw [pushn,pushn,hn2] at this
      exact push_of this _
  have j0 : PJ m b s h [] (h7 m b s h) := by
    refine ⟨k2 _ _ (push_of (push_n h _) _),⟨.d .nilp,.nilsl,k2 _ _ ?_,.inl rfl,.inl ⟨rfl,rfl⟩⟩,?_,fun i x hx _ => k2 _ _ (push_of (push_of hx _) _)⟩
    · have := push_n (h.push (.cells false 23 [pv m b])) (.cells false 66 [.d .nilp,.nilsl])
      rw [pushn] at this
      exact this
    · have := push_n (hS (h2 m b h) s) (bPl m b s h .ready)
      rw [hn5] at this
      exact this
  obtain ⟨h',hc,hj⟩ := seq_ok (pl_rounds m s hp) (by omega) (by omega) hl j0 s3
  have hx : (h'.set (h.n + 5) (bPl m b s h .exhausted)).get (h.n + 5) = some (bPl m b s h .exhausted) := Heap.get_set_self hj.l
  have hk : ∀ i x,h'.get i = some x → i ≠ h.n + 5 → (h'.set (h.n + 5) (bPl m b s h .exhausted)).get i = some x := fun i x hx hn => by rw [Heap.get_set_ne (Ne.symm hn)]; exact hx
  have hb : Bld (h.n + 1) (outP (parts s)) (h'.set (h.n + 5) (bPl m b s h .exhausted)) := hj.bd.keep (fun i x hx hi => hk _ _ hx (by
    rcases hi with hi | ⟨g,rfl⟩
    · omega
    · intro e; subst e; rw [hj.l] at hx; cases hx))
  have hlen : (outP (parts s)).length ≤ 70368744177664 := by
    have e0 := outP_len (parts s)
    have e1 := parts_cnt s 0
    have e2 := cnt_le s 0
    omega
  obtain ⟨h8,hs,ho⟩ := str_ok hb hlen
  have fin' : ∀ ex tm h1,(ex = .nrm ∨ ex = .ret) → Abs.results E h1 tm a7.results = some (strV (outP (parts s))) → h1 = h8 → Q ex tm h1 := fun ex tm h1 e r he => fin ex tm h1 e r (fun i x hx ht => by
    rw [he]
    exact ho i x (hk _ _ (hj.o i x hx ht) (by have := get_lt hx; omega)) ht)
  cases m
  · refine .call (sq15_ok s (h2 false b h)) (by kernel_rfl) ?_
    refine .rfunc (m := false) (f := 78) (args := [.fn (.yield (h.n + 5)) [] [],.ptr (h.n + 3) 0,.ptr (h.n + 2) 0,.ptr (h.n + 4) 0]) (by kernel_rfl) ((rfH_eq _ b s h) ▸ hc) hj.l ?_
    refine .call hs (by kernel_rfl) ?_
    exact W.resH (by kernel_rfl) (by kernel_rfl) (fun ex tm e r => fin' ex tm h8 e r rfl)
  · refine .call (sq15_ok s (h2 true b h)) (by kernel_rfl) ?_
    refine .rfunc (m := true) (f := 78) (args := [.fn (.yield (h.n + 5)) [] [],.ptr (h.n + 3) 0,.ptr (h.n + 2) 0,.ptr (h.n + 4) 0]) (by kernel_rfl) ((rfH_eq _ b s h) ▸ hc) hj.l ?_
    refine .call hs (by kernel_rfl) ?_
    exact W.resH (by kernel_rfl) (by kernel_rfl) (fun ex tm e r => fin' ex tm h8 e r rfl)
def Old (h h' : Heap) : Prop := ∀ i x,h.get i = some x → (∀ g,x ≠ .tok g 5) → h'.get i = some x
theorem play_ok {p : AV} {h : Heap} (hp : NoneP p h) {s : List UInt8} (hl : s.length ≤ 200) : ∃ h',Cal E 7 [p,strV s] h (.nrm,strV (outP (parts s)),h') ∧ Old h h' := by
  rcases hp with rfl | ⟨b,rfl,hg⟩
  · obtain ⟨x,rfl,hc⟩ := Cal.wx (E := E) (P := fun x => x = .s (outP (parts s))) (f := 7) (args := [.d .nilp,strV s]) (h := h) (bor := false) (ds := [.nilp,.s s]) fn7 rfl rfl
      (play_body false 0 s .empty (.inl rfl) hl (fun ex tm h1 e r _ => ⟨e,_,rfl,r,rfl⟩))
    exact ⟨h,hc,fun _ _ hx _ => hx⟩
  · obtain ⟨v',h',hc,rfl,ho⟩ := Cal.wrx (E := E) (P := fun v h' => v = strV (outP (parts s)) ∧ Old h h') (f := 7) (args := [.ptr b 0,strV s]) (h := h) fn7 (.inr rfl)
      (play_body true b s h (.inr ⟨b,rfl,hg⟩) hl (fun ex tm h1 e r o => ⟨e,_,r,rfl,o⟩))
    exact ⟨h',hc,ho⟩
def st0 : List AV := [mkI 0,mkI 0,mkI 0,mkI 0,mkI 0,mkI 0,.nilsl,mkI 0]
theorem state_ok {p : AV} {h : Heap} (hp : NoneP p h) : ∃ h',Cal E 8 [p] h (.nrm,.agg st0,h') ∧ Old h h' := by
  have hn : Cal E 11 [p] h (.nrm,.d (.b true),h) := none_ok hp
  rcases hp with rfl | ⟨b,rfl,hg⟩
  · refine ⟨h,?_,fun _ _ hx _ => hx⟩
    refine .w fn8 rfl rfl ?_
    refine .callv (fun h => none_ok (.inl rfl)) (by kernel_rfl) ?_
    refine .br true (by kernel_rfl) (fun _ => ?_) (fun e => nomatch e)
    exact .retA' (.agg st0) (by kernel_rfl) rfl
  · have hn : Cal E 11 [.ptr b 0] (h.push (.cells false 36 st0)) (.nrm,.d (.b true),h.push (.cells false 36 st0)) := none_ok (.inr ⟨b,rfl,push_of hg _⟩)
    refine ⟨(h.push (.cells false 36 st0)).set h.n (.cells false 36 st0),?_,fun i x hx _ => by rw [Heap.get_set_ne (by have := get_lt hx; omega)]; exact push_of hx _⟩
    refine .wr fn8 (.inr rfl) ?_
    refine .call hn (by kernel_rfl) ?_
    refine .br true (by kernel_rfl) (fun _ => ?_) (fun e => nomatch e)
    refine .op (store_ptr (n := 8) (off := 0) (x := .agg st0) (push_n h (.cells false 36 st0)) rfl) (by kernel_rfl) ?_
    have hgt : ((h.push (.cells false 36 st0)).set h.n (.cells false 36 st0)).get h.n = some (.cells false 36 st0) := Heap.get_set_self (push_n h _)
    have key : ∀ tm H',H' = (h.push (.cells false 36 st0)).set h.n (.cells false 36 st0) → getL tm 2 = .ptr h.n 0 → Abs.results E H' tm a8.results = some (.agg st0) := by
      rintro tm _ rfl ht
      have hl : loadA E.glob ((h.push (.cells false 36 st0)).set h.n (.cells false 36 st0)) true 8 (.ptr h.n 0) = some (.agg st0) := by simp only [loadA,hgt]; rfl
      show Abs.results E _ tm [.cell 2 true 8] = _
      simp only [Abs.results,resL,resV,ht,hl]
    exact .done 1 (by kernel_rfl) ⟨.inr rfl,key _ _ (by kernel_rfl) (by kernel_rfl),by kernel_rfl⟩
end
end Go.Proofs.YtfbjkckdmigaoaaGreatDoor
