/- What an item is said as, and what a text says: the plain law. -/
import Derived.Test.YtehffjjfomapnaaGreatDoorD
import Derived.Test.YtehffjjfomapnaaGreatDoorBB
namespace Go.Proofs.YtehffjjfomapnaaGreatDoor
open Go Go.Abs
set_option maxRecDepth 100000
noncomputable section
def splB (c : UInt8) : List UInt8 → List (List UInt8)
 | [] => [[]]
 | b :: r => match b == c with
  | true => [] :: splB c r
  | false => match splB c r with
   | [] => [[b]]
   | p :: q => (b :: p) :: q
def nineV (s : List UInt8) : Int := match Lib.atoiAll s with
 | .ok v => if 0 ≤ v ∧ s.length ≤ 9 ∧ itoaA v = s then v else -1
 | _ => -1
def sayM (x : ItemS) : List UInt8 := if x.kind = 1 then 42 :: (x.over ++ 58 :: itoaA x.width) else []
def sayA (l : List (List UInt8)) : List UInt8 := l.flatMap fun s => 60 :: s
def sayQ (x : ItemS) : List UInt8 := if x.quota = 0 then [] else 43 :: itoaA x.quota
def sayV (x : ItemS) : List UInt8 := ((x.name ++ sayM x) ++ sayA x.after) ++ sayQ x
def rawV (s : List UInt8) : ItemS :=
 ⟨(cutB 42 (cutB 60 (cutB 43 s).1).1).1,if (cutB 42 (cutB 60 (cutB 43 s).1).1).2.2 then 1 else 0,if (cutB 60 (cutB 43 s).1).2.2 then splB 60 (cutB 60 (cutB 43 s).1).2.1 else [],
  if (cutB 42 (cutB 60 (cutB 43 s).1).1).2.2 then (cutB 58 (cutB 42 (cutB 60 (cutB 43 s).1).1).2.1).1 else [],
  if (cutB 42 (cutB 60 (cutB 43 s).1).1).2.2 then nineV (cutB 58 (cutB 42 (cutB 60 (cutB 43 s).1).1).2.1).2.1 else 0,
  if (cutB 43 s).2.2 then nineV (cutB 43 s).2.1 else 0⟩
theorem cutB_none {c : UInt8} : ∀ {s : List UInt8},c ∉ s → cutB c s = (s,[],false) := by
 intro s
 induction s with
 | nil => intro _; rfl
 | cons b r ih =>
  intro h
  have hb : (b == c) = false := by simp only [beq_eq_false_iff_ne]; rintro rfl; exact h (by simp)
  have hr : c ∉ r := fun e => h (by simp [e])
  unfold cutB
  rw [hb,ih hr]
theorem cutB_at {c : UInt8} (r : List UInt8) : ∀ {s : List UInt8},c ∉ s → cutB c (s ++ c :: r) = (s,r,true) := by
 intro s
 induction s with
 | nil => intro _; simp [cutB]
 | cons b q ih =>
  intro h
  have hb : (b == c) = false := by simp only [beq_eq_false_iff_ne]; rintro rfl; exact h (by simp)
  have hr : c ∉ q := fun e => h (by simp [e])
  show cutB c (b :: (q ++ c :: r)) = _
  unfold cutB
  rw [hb,ih hr]
theorem splB_none {c : UInt8} : ∀ {s : List UInt8},c ∉ s → splB c s = [s] := by
 intro s
 induction s with
 | nil => intro _; rfl
 | cons b r ih =>
  intro h
  have hb : (b == c) = false := by simp only [beq_eq_false_iff_ne]; rintro rfl; exact h (by simp)
  have hr : c ∉ r := fun e => h (by simp [e])
  unfold splB
  rw [hb,ih hr]
theorem splB_at {c : UInt8} (r : List UInt8) : ∀ {s : List UInt8},c ∉ s → splB c (s ++ c :: r) = s :: splB c r := by
 intro s
 induction s with
 | nil => intro _; simp [splB]
 | cons b q ih =>
  intro h
  have hb : (b == c) = false := by simp only [beq_eq_false_iff_ne]; rintro rfl; exact h (by simp)
  have hr : c ∉ q := fun e => h (by simp [e])
  show splB c (b :: (q ++ c :: r)) = _
  simp only [splB,hb,ih hr]
theorem spl_say : ∀ (r : List (List UInt8)) (a : List UInt8),(∀ s ∈ a :: r,(60 : UInt8) ∉ s) → splB 60 (a ++ sayA r) = a :: r := by
 intro r
 induction r with
 | nil => intro a h; simp only [sayA,List.flatMap_nil,List.append_nil]; exact splB_none (h a (by simp))
 | cons b q ih =>
  intro a h
  have : sayA (b :: q) = 60 :: (b ++ sayA q) := by simp [sayA]
  rw [this,splB_at _ (h a (by simp)),ih b (fun s hs => h s (List.mem_cons_of_mem _ hs))]
theorem name_let {s : List UInt8} (h : isName s = true) : ∀ b ∈ s,isLet b = true := by
 simp only [isName,Bool.and_eq_true,List.all_eq_true] at h
 exact h.2
theorem name_no {s : List UInt8} {c : UInt8} (h : isName s = true) (hc : isLet c = false) : c ∉ s := fun e => by
 have := name_let h c e
 rw [hc] at this; cases this
theorem digTab : (List.range 401).all (fun n => decide (nineV (itoaA (.ofNat n)) = .ofNat n) && (itoaA (.ofNat n)).all isLet) = true := by kernel_rfl
theorem dig_ok {v : Int} (h0 : 0 ≤ v) (h1 : v ≤ 400) : nineV (itoaA v) = v ∧ (∀ b ∈ itoaA v,isLet b = true) := by
 obtain ⟨n,rfl⟩ := Int.eq_ofNat_of_zero_le h0
 have := List.all_eq_true.1 digTab n (List.mem_range.2 (by omega))
 simp only [Bool.and_eq_true,decide_eq_true_eq,List.all_eq_true] at this
 exact this
theorem dig_no {v : Int} {c : UInt8} (h0 : 0 ≤ v) (h1 : v ≤ 400) (hc : isLet c = false) : c ∉ itoaA v := fun e => by
 have := (dig_ok h0 h1).2 c e
 rw [hc] at this; cases this
structure FitI (x : ItemS) : Prop where
 n : isName x.name = true
 l : x.after.length ≤ 20
 q0 : 0 ≤ x.quota
 q1 : x.quota ≤ 400
 a : ∀ s ∈ x.after,isName s = true
 k : (x.kind = 0 ∧ x.over = [] ∧ x.width = 0) ∨ (x.kind = 1 ∧ isName x.over = true ∧ 0 ≤ x.width ∧ x.width ≤ 40)
theorem fitI {x : ItemS} (h : fitsI x = true) : FitI x := by
 simp only [fitsI,within,Bool.and_eq_true,decide_eq_true_eq,List.all_eq_true] at h
 obtain ⟨⟨⟨⟨h1,h2⟩,h3,h4⟩,h5⟩,h6⟩ := h
 refine ⟨h1,h2,h3,h4,h5,?_⟩
 by_cases k0 : x.kind = 0
 ·rw [if_pos k0] at h6
  simp only [Bool.and_eq_true,decide_eq_true_eq] at h6
  exact .inl ⟨k0,h6⟩
 ·rw [if_neg k0] at h6
  by_cases k1 : x.kind = 1
  ·rw [if_pos k1] at h6
   simp only [Bool.and_eq_true,decide_eq_true_eq] at h6
   exact .inr ⟨k1,h6.1,h6.2.1,h6.2.2⟩
  ·rw [if_neg k1] at h6; cases h6
theorem sayM_no {x : ItemS} (h : FitI x) {c : UInt8} (hc : isLet c = false) (h1 : c ≠ 42) (h2 : c ≠ 58) : c ∉ sayM x := by
 unfold sayM
 rcases h.k with ⟨k,_⟩ | ⟨k,ho,w0,w1⟩
 ·rw [if_neg (by omega)]; simp
 ·rw [if_pos k]
  simp only [List.mem_cons,List.mem_append,not_or]
  exact ⟨h1,name_no ho hc,h2,dig_no w0 (by omega) hc⟩
theorem sayA_no {x : ItemS} (h : FitI x) {c : UInt8} (hc : isLet c = false) (h1 : c ≠ 60) : c ∉ sayA x.after := by
 unfold sayA
 simp only [List.mem_flatMap,List.mem_cons,not_exists,not_and,not_or]
 exact fun s hs => ⟨h1,name_no (h.a s hs) hc⟩
theorem sayQ_no {x : ItemS} (h : FitI x) {c : UInt8} (hc : isLet c = false) (h1 : c ≠ 43) : c ∉ sayQ x := by
 unfold sayQ
 split
 ·simp
 ·simp only [List.mem_cons,not_or]
  exact ⟨h1,dig_no h.q0 h.q1 hc⟩
theorem raw_say {x : ItemS} (h : fitsI x = true) : rawV (sayV x) = x := by
 have f := fitI h
 have e43 : (43 : UInt8) ∉ (x.name ++ sayM x) ++ sayA x.after := by
  simp only [List.mem_append,not_or]
  exact ⟨⟨name_no f.n rfl,sayM_no f rfl (by decide) (by decide)⟩,sayA_no f rfl (by decide)⟩
 have c43 : (cutB 43 (sayV x)).1 = (x.name ++ sayM x) ++ sayA x.after ∧ (if (cutB 43 (sayV x)).2.2 then nineV (cutB 43 (sayV x)).2.1 else 0) = x.quota := by
  unfold sayV sayQ
  by_cases hq : x.quota = 0
  ·rw [if_pos hq,List.append_nil,cutB_none e43]
   exact ⟨rfl,by simp [hq]⟩
  ·rw [if_neg hq,cutB_at _ e43]
   exact ⟨rfl,by simp [(dig_ok f.q0 f.q1).1]⟩
 have e60 : (60 : UInt8) ∉ x.name ++ sayM x := by
  simp only [List.mem_append,not_or]
  exact ⟨name_no f.n rfl,sayM_no f rfl (by decide) (by decide)⟩
 have c60 : (cutB 60 ((x.name ++ sayM x) ++ sayA x.after)).1 = x.name ++ sayM x ∧ (if (cutB 60 ((x.name ++ sayM x) ++ sayA x.after)).2.2 then splB 60 (cutB 60 ((x.name ++ sayM x) ++ sayA x.after)).2.1 else []) = x.after := by
  cases hA : x.after with
  | nil =>
   have : sayA [] = [] := rfl
   rw [this,List.append_nil,cutB_none e60]
   exact ⟨rfl,by simp⟩
  | cons a r =>
   have : sayA (a :: r) = 60 :: (a ++ sayA r) := by simp [sayA]
   rw [this,cutB_at _ e60]
   refine ⟨rfl,?_⟩
   simp only [if_true]
   exact spl_say r a (fun s hs => name_no (f.a s (by rw [hA]; exact hs)) rfl)
 have e42 : (42 : UInt8) ∉ x.name := name_no f.n rfl
 unfold rawV
 rw [c43.1,c43.2,c60.1,c60.2]
 obtain ⟨name,kind,after,over,width,quota⟩ := x
 rcases f.k with ⟨k,ho,hw⟩ | ⟨k,ho,w0,w1⟩
 ·simp only at k ho hw e42
  subst k ho hw
  have : sayM ⟨name,0,after,[],0,quota⟩ = [] := rfl
  simp only [this,List.append_nil,cutB_none e42]
  simp
 ·simp only at k ho w0 w1 e42
  subst k
  have : sayM ⟨name,1,after,over,width,quota⟩ = 42 :: (over ++ 58 :: itoaA width) := rfl
  simp only [this,cutB_at _ e42,cutB_at (itoaA width) (name_no ho (c := 58) rfl),(dig_ok w0 (by omega)).1]
  simp
theorem say_no {x : ItemS} (h : fitsI x = true) : (32 : UInt8) ∉ sayV x := by
 have f := fitI h
 simp only [sayV,List.mem_append,not_or]
 exact ⟨⟨⟨name_no f.n rfl,sayM_no f rfl (by decide) (by decide)⟩,sayA_no f rfl (by decide)⟩,sayQ_no f rfl (by decide)⟩
theorem say_inj {x y : ItemS} (hx : fitsI x = true) (hy : fitsI y = true) (e : sayV x = sayV y) : x = y := by
 rw [← raw_say hx,← raw_say hy,e]
def itemOk (s : List UInt8) : Bool := fitsI (rawV s) && decide (sayV (rawV s) = s)
theorem item_say {x : ItemS} (h : fitsI x = true) : itemOk (sayV x) = true := by simp [itemOk,raw_say h,h]
end
end Go.Proofs.YtehffjjfomapnaaGreatDoor
