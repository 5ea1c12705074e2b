/- Contracts: player.number, player.Item. -/
import Derived.Test.YtehffjjfomapnaaGreatDoorCD
import Derived.Test.YtehffjjfomapnaaGreatDoorZE
namespace Go.Proofs.YtehffjjfomapnaaGreatDoor
open Go Go.Abs
set_option maxRecDepth 100000
set_option maxHeartbeats 0
noncomputable section
theorem atoi_rng {s : List UInt8} {v : Int} (e : Lib.atoiAll s = .ok v) : -9223372036854775808 ≤ v ∧ v ≤ 9223372036854775807 := by
 unfold Lib.atoiAll at e
 split at e
 ·cases e
 ·simp only at e
  split at e
  ·cases e
  ·cases e
  ·split at e
   ·cases e
   ·split at e
    ·cases e
    ·injection e with e
     subst e
     split <;> omega
theorem nine_rng (s : List UInt8) : -1 ≤ nineV s ∧ nineV s ≤ 9223372036854775807 := by
 unfold nineV
 split
 ·rename_i v e
  have := atoi_rng e
  split
  ·omega
  ·omega
 ·omega
theorem r8_0 : R8 0 := by constructor <;> decide
theorem r8_1 : R8 1 := by constructor <;> decide
theorem r64_0 : R64 0 := by constructor <;> decide
theorem nine_r64 (s : List UInt8) : R64 (nineV s) := by
 have := nine_rng s
 constructor <;> omega
theorem pnum_ok {s : List UInt8} (hl : s.length ≤ 281474976710656) (h : Heap) : Cal E f_player_number [.d (.s s)] h (.nrm,.d (.i .i64 (nineV s)),h) := by
 refine .w n_player_number (by kernel_rfl) rfl ?_
 by_cases hv : ∃ v,Lib.atoiAll s = .ok v
 ·obtain ⟨v,hv⟩ := hv
  have hr := atoi_rng hv
  refine .opv (atoi_ok hl hv) (by kernel_rfl) ?_
  refine .br false (by kernel_rfl) (fun e => nomatch e) (fun _ => ?_)
  refine .br (iLt v 0) (by kernel_rfl) (fun e => ?_) (fun e => ?_)
  ·rw [iLt_iff] at e
   refine .retI (-1) (by kernel_rfl) ?_
   simp only [nineV,hv]
   rw [if_neg (by omega)]
  rw [iLt_not] at e
  refine .br (iLt 9 (.ofNat s.length)) (by kernel_rfl) (fun e2 => ?_) (fun e2 => ?_)
  ·rw [iLt_iff] at e2; simp only [Int.ofNat_eq_natCast] at e2
   refine .retI (-1) (by kernel_rfl) ?_
   simp only [nineV,hv]
   rw [if_neg (by omega)]
  rw [iLt_not] at e2; simp only [Int.ofNat_eq_natCast] at e2
  refine .opv (itoa_ok (v := v) hr.1 hr.2) (by kernel_rfl) ?_
  refine .br (!(strEq (itoaA v) s)) (by kernel_rfl) (fun e3 => ?_) (fun e3 => ?_)
  ·have e3 : itoaA v ≠ s := by simpa [strEq] using e3
   refine .retI (-1) (by kernel_rfl) ?_
   simp only [nineV,hv]
   rw [if_neg (fun c => e3 c.2.2)]
  ·have e3 : itoaA v = s := by simpa [strEq] using e3
   refine .retI v (by kernel_rfl) ?_
   simp only [nineV,hv]
   rw [if_pos ⟨e,by omega,e3⟩]
 ·obtain ⟨z,hz⟩ := atoi_no hl (fun v e => hv ⟨v,e⟩)
  refine .opv hz (by kernel_rfl) ?_
  refine .br true (by kernel_rfl) (fun _ => ?_) (fun e => nomatch e)
  refine .retI (-1) (by kernel_rfl) ?_
  unfold nineV
  split
  ·rename_i v e; exact absurd ⟨v,e⟩ hv
  ·rfl
def zC : List AV := [.d (.s []),.d (.i .u8 0),.nilsl,.d (.s []),.d (.i .i64 0),.d (.i .i64 0)]
def icA (x : ItemS) (LA : AV) : List AV := [.d (.s x.name),.d (.i .u8 x.kind),LA,.d (.s x.over),.d (.i .i64 x.width),.d (.i .i64 x.quota)]
def icD (x : ItemS) (L : DV) : List DV := [.s x.name,.i .u8 x.kind,L,.s x.over,.i .i64 x.width,.i .i64 x.quota]
def AfR (h : Heap) (xs : List (List UInt8)) (LA : AV) : Prop := (xs = [] ∧ LA = .nilsl) ∨ (∃ b,LA = .d (.sl b xs.length (xs.map .s))) ∨ ∃ b fr e m ex,LA = .sref b 0 1 xs.length m ex ∧ h.get b = some (.cells fr e (xs.map strV))
theorem borrowWL_strs (rd : Nat → Nat → Nat → Option (List DV)) : ∀ l : List (List UInt8),borrowWL rd (l.map strV) = some (l.map .s,false)
 | [] => rfl
 | a :: l => by
  show (match borrowW rd (strV a) with | some (d,x) => (match borrowWL rd (l.map strV) with | some (l,y) => some (d :: l,x || y) | none => none) | none => none) = _
  rw [borrowWL_strs rd l]
  rfl
theorem rd_strs {rd : Nat → Nat → Nat → Option (List DV)} {h : Heap} {b : Nat} {fr : Bool} {e : TypeId} {xs : List (List UInt8)} (hg : h.get b = some (.cells fr e (xs.map strV))) : rdBlk rd h b 0 (xs.length * 1) = some (xs.map .s) := by
 unfold rdBlk
 have hr : readN (xs.map strV) 0 (xs.length * 1) = some (xs.map strV) := by
  have := readN_all (xs.map strV)
  rwa [List.length_map,← Nat.mul_one xs.length] at this
 simp only [hg,hr,borrowWL_strs]
 congr 1
 rw [List.map_map]
 rfl
theorem borrow_af {h : Heap} {xs : List (List UInt8)} {LA : AV} (hA : AfR h xs LA) : ∃ L,StrR xs L ∧ ∀ rd,∃ x,borrowW (rdBlk rd h) LA = some (L,x) := by
 rcases hA with ⟨rfl,rfl⟩ | ⟨b,rfl⟩ | ⟨b,fr,e,m,ex,rfl,hg⟩
 ·exact ⟨.nsl,.inl ⟨rfl,rfl⟩,fun rd => ⟨false,rfl⟩⟩
 ·exact ⟨_,.inr ⟨b,rfl⟩,fun rd => ⟨false,rfl⟩⟩
 ·refine ⟨_,.inr ⟨true,rfl⟩,fun rd => ⟨true,?_⟩⟩
  show (match rdBlk rd h b 0 (xs.length * 1) with | some ds => some (DV.sl true xs.length ds,true) | none => none) = _
  rw [rd_strs hg]
theorem strip_agg {h : Heap} {x : ItemS} {LA : AV} (hA : AfR h x.after LA) : ∃ L bor,StrR x.after L ∧ stripArgs h [.agg (icA x LA)] = some ([.agg (icD x L)],bor) := by
 obtain ⟨L,hL,hb⟩ := borrow_af hA
 obtain ⟨y,hy⟩ := hb (rdBlk (rdBlk (fun _ _ _ => none) h) h)
 refine ⟨L,_,hL,strip_cons (x := false || (false || (y || (false || (false || (false || false)))))) ?_ strip_nil⟩
 show borrowW (rd3 h) (.agg (icA x LA)) = _
 simp only [icA,borrowW,borrowWL]
 rw [show borrowW (rd3 h) LA = some (L,y) from hy]
 rfl
theorem strip_item {h : Heap} {x : ItemS} {LA : AV} {b m : Nat} {fr ex : Bool} {e : TypeId} (hx : R8 x.kind ∧ R64 x.width ∧ R64 x.quota) (hg : h.get b = some (.cells fr e (icA x LA))) (hA : AfR h x.after LA) :
  ∃ L bor,ItemsR [x] L ∧ stripArgs h [.sref b 0 6 1 m ex] = some ([L],bor) := by
 obtain ⟨L,hL,hb⟩ := borrow_af hA
 obtain ⟨y,hy⟩ := hb (rdBlk (fun _ _ _ => none) h)
 obtain ⟨ab,hab⟩ : ∃ ab,norm L = .sl ab x.after.length (x.after.map .s) := by
  rcases hL with ⟨rfl,e⟩ | ⟨b,rfl⟩
  ·exact ⟨false,by rw [e]; rfl⟩
  ·exact ⟨b,rfl⟩
 have hr : rd3 h b 0 (1 * 6) = some [.s x.name,.i .u8 x.kind,.sl ab x.after.length (x.after.map .s),.s x.over,.i .i64 x.width,.i .i64 x.quota] := by
  unfold rd3
  rw [rdBlk]
  simp only [hg]
  rw [show readN (icA x LA) 0 (1 * 6) = some (icA x LA) from rfl]
  simp only [icA,borrowW,borrowWL,hy,List.map,hab]
  rfl
 refine ⟨_,true || false,.inr ⟨true,[.s x.name,.i .u8 x.kind,.sl ab x.after.length (x.after.map .s),.s x.over,.i .i64 x.width,.i .i64 x.quota],rfl,rfl,fun i hi => ?_⟩,strip_cons (x := true) ?_ strip_nil⟩
 ·obtain rfl : i = 0 := by simp at hi; omega
  exact ⟨ab,rfl,hx⟩
 ·show borrowW (rd3 h) (.sref b 0 6 1 m ex) = _
  rw [borrowW,hr]
  rfl
theorem right_one (x : ItemS) : rightF [x] = fitsI x := by simp [rightF]
theorem adopt_item {bor : Bool} {h1 h : Heap} {b n m : Nat} {ex fr : Bool} {e : TypeId} {l : List (List UInt8)} {nm ov : List UInt8} {kd wd qt : Int} {t : Bool} (hb : h1.get b = some (.cells fr e (l.map strV))) :
  (match adopt bor h1 h (.tup [.agg [.d (.s nm),.d (.i .u8 kd),.sref b 0 1 n m ex,.d (.s ov),.d (.i .i64 wd),.d (.i .i64 qt)],.d (.b t)]) with | some (a,_,b) => some (a,b) | none => none) =
   some (.tup [.agg [.d (.s nm),.d (.i .u8 kd),.sref h.n 0 1 n m ex,.d (.s ov),.d (.i .i64 wd),.d (.i .i64 qt)],.d (.b t)],h.push (.cells fr e (l.map strV))) := by
 have hm : mv3 bor h1 h b = some (h.n,h1.set b .dead,h.push (.cells fr e (l.map strV))) := by
  unfold mv3
  rw [mvBlk]
  simp only [hb,allD_strs]
 cases bor <;> simp only [adopt,adopt1,adoptW,adoptWL,hm,clean,Bool.not_true,Bool.and_false,Bool.false_and]
def Hn (x : ItemS) : Heap := (Heap.empty.push (.cells false t_Item zC)).push (.cells false t_Item (icA x .nilsl))
def Hs (x : ItemS) : Heap := ((Heap.empty.push (.cells false t_Item zC)).push (.cells false t_Item (icA x (.sref 2 0 1 x.after.length x.after.length true)))).push (.cells false t_string (x.after.map strV))
def resN (s : List UInt8) (x : ItemS) (h : Heap) : AV × Heap := match fitsI x && decide (sayV x = s) with
 | true => (.tup [.agg (icA x .nilsl),.d (.b true)],h)
 | false => (.tup [.agg zC,.d (.b false)],h)
def resS (s : List UInt8) (x : ItemS) (h : Heap) : AV × Heap := match fitsI x && decide (sayV x = s) with
 | true => (.tup [.agg (icA x (.sref h.n 0 1 x.after.length x.after.length true)),.d (.b true)],h.push (.cells false t_string (x.after.map strV)))
 | false => (.tup [.agg zC,.d (.b false)],h)
theorem finN {s : List UInt8} {x : ItemS} (ha : x.after = []) (hx : R8 x.kind ∧ R64 x.width ∧ R64 x.quota) (h : Heap) {tm : List AV} (ht : St 68 [(0,.d (.s s)),(2,.ptr 0 0),(3,.d (.b false)),(4,.ptr 1 0)] tm) :
  W E (retOk E c_player_Item.results false h (resN s x h).1 (resN s x h).2) (.run (tl c_player_Item.body 8) [] ⟨false,[]⟩ tm (Hn x)) := by
 obtain ⟨g,rfl⟩ := ht
 have hA : AfR ((Hn x).push (.cells false t_Item (icA x .nilsl))) x.after .nilsl := .inl ⟨ha,rfl⟩
 obtain ⟨L1,bor1,r1,p1⟩ := strip_item (h := ((Hn x).push (.cells false t_Item (icA x .nilsl)))) (b := 2) (m := 1) (ex := true) hx rfl hA
 obtain ⟨L2,bor2,r2,p2⟩ := strip_agg (x := x) hA
 refine .call (fragRight_ok r1 p1) (by kernel_rfl) ?_
 rw [right_one]
 refine .br (!(fitsI x)) (by kernel_rfl) (fun e => ?_) (fun e => ?_)
 ·have e : fitsI x = false := by simpa using e
  have hr : resN s x h = (.tup [.agg zC,.d (.b false)],h) := by unfold resN; rw [e]; rfl
  rw [hr]
  exact .retA' (.tup [.agg zC,.d (.b false)]) (by kernel_rfl) rfl
 have e : fitsI x = true := by simpa using e
 refine .call (say_ok e r2 p2) (by kernel_rfl) ?_
 refine .br (!(strEq (sayV x) s)) (by kernel_rfl) (fun e2 => ?_) (fun e2 => ?_)
 ·have e2 : sayV x ≠ s := by simpa [strEq] using e2
  have hr : resN s x h = (.tup [.agg zC,.d (.b false)],h) := by unfold resN; rw [e,decide_eq_false e2]; rfl
  rw [hr]
  exact .retA' (.tup [.agg zC,.d (.b false)]) (by kernel_rfl) rfl
 ·have e2 : sayV x = s := by simpa [strEq] using e2
  have hr : resN s x h = (.tup [.agg (icA x .nilsl),.d (.b true)],h) := by unfold resN; rw [e,decide_eq_true e2]; rfl
  rw [hr]
  exact .retA' (.tup [.agg (icA x .nilsl),.d (.b true)]) (by kernel_rfl) (rfl)
theorem midN {s c : List UInt8}  {q : Int} (hl : c.length ≤ 1000000) (hq : R64 q) (h : Heap) {tm : List AV} (ht : St 68 [(0,.d (.s s)),(2,.ptr 0 0),(3,.d (.b false)),(4,.ptr 1 0),(8,.d (.s c))] tm) {x : ItemS}
  (hx : x = ⟨(cutB 42 c).1,if (cutB 42 c).2.2 then 1 else 0,[],if (cutB 42 c).2.2 then (cutB 58 (cutB 42 c).2.1).1 else [],if (cutB 42 c).2.2 then nineV (cutB 58 (cutB 42 c).2.1).2.1 else 0,q⟩) :
  W E (retOk E c_player_Item.results false h (resN s x h).1 (resN s x h).2) (.run (tl c_player_Item.body 6) [] ⟨false,[]⟩ tm (Hn ⟨[],0,[],[],0,q⟩)) := by
 obtain ⟨g,rfl⟩ := ht
 have l1 := cutB_len 42 c
 have l2 := cutB_len 58 (cutB 42 c).2.1
 refine .callv (cut_ok 42 (s := c) (by omega)) (by kernel_rfl) ?_
 refine .br (cutB 42 c).2.2 (by kernel_rfl) (fun e => ?_) (fun e => ?_)
 ·simp only [e,if_true] at hx
  refine .callv (cut_ok 58 (s := (cutB 42 c).2.1) (by omega)) (by kernel_rfl) ?_
  refine .callv (pnum_ok (s := (cutB 58 (cutB 42 c).2.1).2.1) (by omega)) (by kernel_rfl) ?_
  refine .top false 0 (tl c_player_Item.body 8) [] (Hn ⟨(cutB 42 c).1,1,[],(cutB 58 (cutB 42 c).2.1).1,nineV (cutB 58 (cutB 42 c).2.1).2.1,q⟩) (by kernel_rfl) ?_
  subst hx
  exact finN rfl ⟨r8_1,nine_r64 _,hq⟩ h (.of (by kernel_rfl) ⟨by kernel_rfl,by kernel_rfl,by kernel_rfl,by kernel_rfl,trivial⟩)
 ·simp only [e,Bool.false_eq_true,if_false] at hx
  refine .top false 0 (tl c_player_Item.body 8) [] (Hn ⟨(cutB 42 c).1,0,[],[],0,q⟩) (by kernel_rfl) ?_
  subst hx
  exact finN rfl ⟨r8_0,r64_0,hq⟩ h (.of (by kernel_rfl) ⟨by kernel_rfl,by kernel_rfl,by kernel_rfl,by kernel_rfl,trivial⟩)
theorem finS {s : List UInt8} {x : ItemS}  (hx : R8 x.kind ∧ R64 x.width ∧ R64 x.quota) (h : Heap) {tm : List AV} (ht : St 68 [(0,.d (.s s)),(2,.ptr 0 0),(3,.d (.b false)),(4,.ptr 1 0)] tm) :
  W E (retOk E c_player_Item.results false h (resS s x h).1 (resS s x h).2) (.run (tl c_player_Item.body 8) [] ⟨false,[]⟩ tm (Hs x)) := by
 obtain ⟨g,rfl⟩ := ht
 have hA : AfR ((Hs x).push (.cells false t_Item (icA x (.sref 2 0 1 x.after.length x.after.length true)))) x.after (.sref 2 0 1 x.after.length x.after.length true) := .inr (.inr ⟨2,false,t_string,_,_,rfl,rfl⟩)
 obtain ⟨L1,bor1,r1,p1⟩ := strip_item (h := ((Hs x).push (.cells false t_Item (icA x (.sref 2 0 1 x.after.length x.after.length true))))) (b := 3) (m := 1) (ex := true) hx rfl hA
 obtain ⟨L2,bor2,r2,p2⟩ := strip_agg (x := x) hA
 refine .call (fragRight_ok r1 p1) (by kernel_rfl) ?_
 rw [right_one]
 refine .br (!(fitsI x)) (by kernel_rfl) (fun e => ?_) (fun e => ?_)
 ·have e : fitsI x = false := by simpa using e
  have hr : resS s x h = (.tup [.agg zC,.d (.b false)],h) := by unfold resS; rw [e]; rfl
  rw [hr]
  exact .retA' (.tup [.agg zC,.d (.b false)]) (by kernel_rfl) rfl
 have e : fitsI x = true := by simpa using e
 refine .call (say_ok e r2 p2) (by kernel_rfl) ?_
 refine .br (!(strEq (sayV x) s)) (by kernel_rfl) (fun e2 => ?_) (fun e2 => ?_)
 ·have e2 : sayV x ≠ s := by simpa [strEq] using e2
  have hr : resS s x h = (.tup [.agg zC,.d (.b false)],h) := by unfold resS; rw [e,decide_eq_false e2]; rfl
  rw [hr]
  exact .retA' (.tup [.agg zC,.d (.b false)]) (by kernel_rfl) rfl
 ·have e2 : sayV x = s := by simpa [strEq] using e2
  have hr : resS s x h = (.tup [.agg (icA x (.sref h.n 0 1 x.after.length x.after.length true)),.d (.b true)],h.push (.cells false t_string (x.after.map strV))) := by unfold resS; rw [e,decide_eq_true e2]; rfl
  rw [hr]
  exact .retA' (.tup [.agg (icA x (.sref 2 0 1 x.after.length x.after.length true)),.d (.b true)]) (by kernel_rfl) (adopt_item (get_at (h' := ((Hs x).push (.cells false t_Item (icA x (.sref 2 0 1 x.after.length x.after.length true)))).set 0 (.cells false t_Item (icA x (.sref 2 0 1 x.after.length x.after.length true)))) (by kernel_rfl) rfl))
theorem midS {s c : List UInt8} {af : List (List UInt8)} {q : Int} (hl : c.length ≤ 1000000) (hq : R64 q) (h : Heap) {tm : List AV} (ht : St 68 [(0,.d (.s s)),(2,.ptr 0 0),(3,.d (.b false)),(4,.ptr 1 0),(8,.d (.s c))] tm) {x : ItemS}
  (hx : x = ⟨(cutB 42 c).1,if (cutB 42 c).2.2 then 1 else 0,af,if (cutB 42 c).2.2 then (cutB 58 (cutB 42 c).2.1).1 else [],if (cutB 42 c).2.2 then nineV (cutB 58 (cutB 42 c).2.1).2.1 else 0,q⟩) :
  W E (retOk E c_player_Item.results false h (resS s x h).1 (resS s x h).2) (.run (tl c_player_Item.body 6) [] ⟨false,[]⟩ tm (Hs ⟨[],0,af,[],0,q⟩)) := by
 obtain ⟨g,rfl⟩ := ht
 have l1 := cutB_len 42 c
 have l2 := cutB_len 58 (cutB 42 c).2.1
 refine .callv (cut_ok 42 (s := c) (by omega)) (by kernel_rfl) ?_
 refine .br (cutB 42 c).2.2 (by kernel_rfl) (fun e => ?_) (fun e => ?_)
 ·simp only [e,if_true] at hx
  refine .callv (cut_ok 58 (s := (cutB 42 c).2.1) (by omega)) (by kernel_rfl) ?_
  refine .callv (pnum_ok (s := (cutB 58 (cutB 42 c).2.1).2.1) (by omega)) (by kernel_rfl) ?_
  refine .top false 0 (tl c_player_Item.body 8) [] (Hs ⟨(cutB 42 c).1,1,af,(cutB 58 (cutB 42 c).2.1).1,nineV (cutB 58 (cutB 42 c).2.1).2.1,q⟩) (by kernel_rfl) ?_
  subst hx
  exact finS  ⟨r8_1,nine_r64 _,hq⟩ h (.of (by kernel_rfl) ⟨by kernel_rfl,by kernel_rfl,by kernel_rfl,by kernel_rfl,trivial⟩)
 ·simp only [e,Bool.false_eq_true,if_false] at hx
  refine .top false 0 (tl c_player_Item.body 8) [] (Hs ⟨(cutB 42 c).1,0,af,[],0,q⟩) (by kernel_rfl) ?_
  subst hx
  exact finS  ⟨r8_0,r64_0,hq⟩ h (.of (by kernel_rfl) ⟨by kernel_rfl,by kernel_rfl,by kernel_rfl,by kernel_rfl,trivial⟩)
def itemV (s : List UInt8) (h : Heap) : AV × Heap := match (cutB 60 (cutB 43 s).1).2.2 with
 | true => resS s (rawV s) h
 | false => resN s (rawV s) h
theorem mid0 {s c : List UInt8} {q : Int} (hl : c.length ≤ 1000000) (hq : R64 q) (h : Heap) {tm : List AV} (ht : St 68 [(0,.d (.s s)),(2,.ptr 0 0),(3,.d (.b false)),(4,.ptr 1 0),(5,.d (.s c))] tm)
  (hc : c = (cutB 43 s).1) (he : q = if (cutB 43 s).2.2 then nineV (cutB 43 s).2.1 else 0) :
  W E (retOk E c_player_Item.results false h (itemV s h).1 (itemV s h).2) (.run (tl c_player_Item.body 4) [] ⟨false,[]⟩ tm (Hn ⟨[],0,[],[],0,q⟩)) := by
 obtain ⟨g,rfl⟩ := ht
 have l1 := cutB_len 60 c
 refine .callv (cut_ok 60 (s := c) (by omega)) (by kernel_rfl) ?_
 refine .br (cutB 60 c).2.2 (by kernel_rfl) (fun e => ?_) (fun e => ?_)
 ·refine .call (split_ok (cutB 60 c).2.1 (by omega) (Hn ⟨[],0,[],[],0,q⟩)) (by kernel_rfl) ?_
  refine .top false 0 (tl c_player_Item.body 6) [] (Hs ⟨[],0,splB 60 (cutB 60 c).2.1,[],0,q⟩) (by kernel_rfl) ?_
  have hv : itemV s h = resS s (rawV s) h := by unfold itemV; rw [← hc,e]
  rw [hv]
  refine midS (c := (cutB 60 c).1) (by omega) hq h (.of (by kernel_rfl) ⟨by kernel_rfl,by kernel_rfl,by kernel_rfl,by kernel_rfl,by kernel_rfl,trivial⟩) ?_
  unfold rawV
  rw [← hc,← he,e]
  rfl
 ·refine .top false 0 (tl c_player_Item.body 6) [] (Hn ⟨[],0,[],[],0,q⟩) (by kernel_rfl) ?_
  have hv : itemV s h = resN s (rawV s) h := by unfold itemV; rw [← hc,e]
  rw [hv]
  refine midN (c := (cutB 60 c).1) (by omega) hq h (.of (by kernel_rfl) ⟨by kernel_rfl,by kernel_rfl,by kernel_rfl,by kernel_rfl,by kernel_rfl,trivial⟩) ?_
  unfold rawV
  rw [← hc,← he,e]
  rfl
theorem item_ok (s : List UInt8) (hl : s.length ≤ 1000000) (h : Heap) : Cal E f_player_Item [.d (.s s)] h (.nrm,(itemV s h).1,(itemV s h).2) := by
 have l1 := cutB_len 43 s
 refine .w n_player_Item (by kernel_rfl) rfl ?_
 refine .callv (cut_ok 43 (s := s) (by omega)) (by kernel_rfl) ?_
 refine .br (cutB 43 s).2.2 (by kernel_rfl) (fun e => ?_) (fun e => ?_)
 ·refine .callv (pnum_ok (s := (cutB 43 s).2.1) (by omega)) (by kernel_rfl) ?_
  refine .top false 0 (tl c_player_Item.body 4) [] (Hn ⟨[],0,[],[],0,nineV (cutB 43 s).2.1⟩) (by kernel_rfl) ?_
  exact mid0 (c := (cutB 43 s).1) (by omega) (nine_r64 _) h (.of (by kernel_rfl) ⟨by kernel_rfl,by kernel_rfl,by kernel_rfl,by kernel_rfl,by kernel_rfl,trivial⟩) rfl (by rw [e]; rfl)
 ·refine .top false 0 (tl c_player_Item.body 4) [] (Hn ⟨[],0,[],[],0,0⟩) (by kernel_rfl) ?_
  exact mid0 (c := (cutB 43 s).1) (by omega) r64_0 h (.of (by kernel_rfl) ⟨by kernel_rfl,by kernel_rfl,by kernel_rfl,by kernel_rfl,by kernel_rfl,trivial⟩) rfl (by rw [e]; rfl)
end
end Go.Proofs.YtehffjjfomapnaaGreatDoor
