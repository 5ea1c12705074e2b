/- What a text says of a value (readV), in plain Lean; what a value is shown as says that value. -/
import Derived.Test.YtgjhldabffjiaaaGreatDoorDG
import Derived.Test.YtgjhldabffjiaaaGreatDoorDD
import Derived.Test.YtgjhldabffjiaaaGreatDoorBB
import Derived.Test.YtgjhldabffjiaaaGreatDoorG
import Derived.Test.YtgjhldabffjiaaaGreatDoorZF
namespace Go.Proofs.YtgjhldabffjiaaaGreatDoor
open Go Go.Abs
set_option maxRecDepth 100000
noncomputable section
def JW:List UInt8:=[45,48,49,50,51,52,53,54,55,56,57]
def isNum (b:UInt8):Bool:=JW.contains b
def QC (r:List UInt8):Option (UInt8×List UInt8):=match r with
 | a :: b :: r' => (match puV 16 255 [a,b] 0 with
  |some k=> some (UInt8.ofNat k,r')
  |none=> none)
 |_=> none
def Ah:Nat→List UInt8→Option (List UInt8)
 |0,[]=> some []
 |0,_::_=> none
 |_+1,[]=> some []
 | n + 1,c :: r => if c = 37 then (match QC r with
   |some (k,r')=> (Ah n r').map (k:: ·)
   |none=> none) else (Ah n r).map (c:: ·)
def Dv (s:List UInt8):Option (List UInt8×List UInt8):=if (uZ 34 s).2.2 then (Ah (uZ 34 s).1.length (uZ 34 s).1).map (·,(uZ 34 s).2.1) else none
def B5 (s:List UInt8):Option (Int×List UInt8):=match Lib.atoiAll (s.takeWhile isNum) with
 | .ok n=> some (n,s.dropWhile isNum)
 |_=> none
def readM (f:List UInt8→Option (ValS×List UInt8)):Nat→List UInt8→List ValS→Option (List ValS×List UInt8)
 |0,_,_=> none
 |_+1,[],_=> none
 | n + 1,c :: r,acc => if c = 93 then some (acc,r) else if c = 44 then (match f r with
   |some (v,r')=> readM f n r' (acc++ [v])
   |none=> none) else none
def readL (f : List UInt8 → Option (ValS × List UInt8)) (s : List UInt8) : Option (List ValS × List UInt8) := if s.head? = some 93 then some ([],s.tail) else (match f s with
 |some (v,r)=> readM f r.length r [v]
 |none=> none)
def readV:Nat→List UInt8→Option (ValS×List UInt8)
 |0,_=> none
 | d + 1,s => if s.head? = some 34 then (match Dv s.tail with
   |some (t,r)=> some (.mk 1 0 t [],r)
   |none=> none)
  else if s.head? = some 91 then (match readL (readV d) s.tail with
   |some (l,r)=> some (.mk 2 0 [] l,r)
   |none=> none)
  else (match B5 s with
   |some (n,r)=> some (.mk 0 n [] [],r)
   |none=> none)
theorem Mg {s t r:List UInt8} (h:Dv s=some (t,r)):r.length≤s.length:=by
 unfold Dv at h
 split at h
 ·rw [Option.map_eq_some_iff] at h
  obtain ⟨a,_,e⟩:=h
  injection e with _ e
  rw [←e]
  exact (Il 34 s).2
 ·cases h
theorem Mh {s r:List UInt8} {n:Int} (h:B5 s=some (n,r)):r.length≤s.length:=by
 unfold B5 at h
 split at h
 ·injection h with h
  injection h with _ h
  rw [←h]
  exact (List.dropWhile_sublist _).length_le
 ·cases h
theorem Mi {f:List UInt8→Option (ValS×List UInt8)} (hf:∀s v r,f s=some (v,r)→r.length≤s.length):∀(n:Nat) (s:List UInt8) (acc l:List ValS) (r:List UInt8),readM f n s acc=some (l,r)→r.length≤s.length:=by
 intro n
 induction n with
 |zero=> intro s acc l r h; cases h
 |succ n ih=>
  intro s acc l r h
  cases s with
  |nil=> cases h
  |cons c s=>
   rw [readM] at h
   split at h
   ·injection h with h
    injection h with _ h
    rw [←h]; simp
   ·split at h
    ·split at h
     ·rename_i v r' hv
      have:=hf _ _ _ hv
      have:=ih _ _ _ _ h
      simp only [List.length_cons]; omega
     ·cases h
    ·cases h
theorem Mj {f:List UInt8→Option (ValS×List UInt8)} (hf:∀s v r,f s=some (v,r)→r.length≤s.length) {s r:List UInt8} {l:List ValS} (h:readL f s=some (l,r)):r.length≤s.length:=by
 unfold readL at h
 split at h
 ·injection h with h
  injection h with _ h
  rw [←h]; simp
 ·split at h
  ·rename_i v r' hv
   have:=hf _ _ _ hv
   have:=Mi hf _ _ _ _ _ h
   omega
  ·cases h
theorem readV_len:∀(d:Nat) (s:List UInt8) (v:ValS) (r:List UInt8),readV d s=some (v,r)→r.length≤s.length:=by
 intro d
 induction d with
 |zero=> intro s v r h; cases h
 |succ d ih=>
  intro s v r h
  rw [readV] at h
  split at h
  ·split at h
   ·rename_i t r' ht
    injection h with h
    injection h with _ h
    have:=Mg ht
    rw [←h]; simp only [List.length_tail] at this; omega
   ·cases h
  ·split at h
   ·split at h
    ·rename_i l r' hl
     injection h with h
     injection h with _ h
     have:=Mj ih hl
     rw [←h]; simp only [List.length_tail] at this; omega
    ·cases h
   ·split at h
    ·rename_i n r' hn
     injection h with h
     injection h with _ h
     have:=Mh hn
     rw [←h]; omega
    ·cases h
theorem TF:(List.range 256).all (fun n=> isNum (UInt8.ofNat n)==(Nat.beq n 45 || (Nat.ble 48 n && Nat.ble n 57)))=true:=by kernel_rfl
theorem Iv (b:UInt8):isNum b=(Nat.beq b.toNat 45 || (Nat.ble 48 b.toNat && Nat.ble b.toNat 57)):=by
 have:=List.all_eq_true.1 TF b.toNat (List.mem_range.2 b.toNat_lt)
 rw [beq_iff_eq] at this
 rwa [UInt8.ofNat_toNat] at this
theorem FY {u:Nat} (h:u < 10):isNum (UInt8.ofNat (48+u))=true:=by
 rw [Iv,UInt8.toNat_ofNat',Nat.mod_eq_of_lt (by omega)]
 have h1:Nat.ble 48 (48+u)=true:=by rw [Nat.ble_eq]; omega
 have h2:Nat.ble (48+u) 57=true:=by rw [Nat.ble_eq]; omega
 rw [h1,h2]; simp
theorem Iw:∀(f u:Nat) (acc:List UInt8),(∀b∈acc,isNum b=true)→∀b∈yc f u acc,isNum b=true:=by
 intro f
 induction f with
 |zero=> intro u acc h; exact h
 |succ f ih=>
  intro u acc h
  rw [qJ]
  split
  ·rename_i hu
   intro b hb
   rcases List.mem_cons.1 hb with rfl | hb
   ·exact FY hu
   ·exact h b hb
  ·refine ih _ _ fun b hb=> ?_
   rcases List.mem_cons.1 hb with rfl | hb
   ·exact FY (Nat.mod_lt _ (by omega))
   ·exact h b hb
theorem NK (n:Int):∀b∈wT n,isNum b=true:=by
 cases n with
 |ofNat u=> exact Iw 20 u [] (by simp)
 |negSucc u=>
  intro b hb
  rcases List.mem_cons.1 hb with rfl | hb
  ·rw [Iv]; rfl
  ·exact Iw 20 (u+1) [] (by simp) b hb
theorem Iy:∀(f u:Nat) (acc:List UInt8),(yc f u acc).length≤f+acc.length:=by
 intro f
 induction f with
 |zero=> intro u acc; show acc.length≤_; omega
 |succ f ih=>
  intro u acc
  rw [qJ]
  split
  ·simp only [List.length_cons]; omega
  ·have:=ih (u / 10) (UInt8.ofNat (48+u % 10)::acc)
   simp only [List.length_cons] at this; omega
theorem NL (n:Int):(wT n).length≤21:=by
 cases n with
 |ofNat u=> have:=Iy 20 u []; show (yc 20 u []).length≤21; simp only [List.length_nil] at this; omega
 |negSucc u=> have:=Iy 20 (u+1) []; show (yc 20 (u+1) []).length+1≤21; simp only [List.length_nil] at this; omega
theorem Em:∀(f u:Nat) (l:List UInt8),u < 10 ^ (f+1)→u < 18446744073709551616→Lib.parseUint10 0 (yc (f+1) u l)=Lib.parseUint10 u l:=by
 intro f
 induction f with
 |zero=>
  intro u l h _
  rw [qJ,if_pos (by simpa using h),Lib.parseUint10]
  have ht:(UInt8.ofNat (48+u)).toNat=48+u:=by rw [UInt8.toNat_ofNat',Nat.mod_eq_of_lt (by simp at h; omega)]
  have h:u < 10:=by simpa using h
  rw [ht,if_pos (by omega),if_neg (by omega),if_neg (by omega)]
  congr 1; omega
 |succ f ih=>
  intro u l h h2
  rw [qJ]
  split
  ·rename_i hu
   have ht:(UInt8.ofNat (48+u)).toNat=48+u:=by rw [UInt8.toNat_ofNat',Nat.mod_eq_of_lt (by omega)]
   rw [Lib.parseUint10,ht,if_pos (by omega),if_neg (by omega),if_neg (by omega)]
   congr 1; omega
  ·have hm:=Nat.mod_lt u (show 10 > 0 by omega)
   have ht:(UInt8.ofNat (48+u % 10)).toNat=48+u % 10:=by rw [UInt8.toNat_ofNat',Nat.mod_eq_of_lt (by omega)]
   rw [ih (u / 10) _ (by rw [Nat.pow_succ] at h; omega) (by omega),Lib.parseUint10,ht,if_pos (by omega),if_neg (by omega),if_neg (by omega)]
   congr 1; omega
theorem K4 (f u:Nat) (acc:List UInt8):yc (f+1) u acc≠[]:=by
 induction f generalizing u acc with
 |zero=> rw [qJ]; split; simp; show _::_≠[]; simp
 |succ f ih=> rw [qJ]; split; simp; exact ih _ _
theorem FZ:∀(f u:Nat) (acc:List UInt8),∃c r,yc (f+1) u acc=c::r∧c.toNat≠45∧c.toNat≠43∧c.toNat≠34∧c.toNat≠91:=by
 intro f
 have dig:∀u < 10,(UInt8.ofNat (48+u)).toNat=48+u:=fun u hu=> by rw [UInt8.toNat_ofNat',Nat.mod_eq_of_lt (by omega)]
 induction f with
 |zero=>
  intro u acc
  rw [qJ]
  split
  ·rename_i hu
   exact ⟨_,_,rfl,by rw [dig u hu]; omega,by rw [dig u hu]; omega,by rw [dig u hu]; omega,by rw [dig u hu]; omega⟩
  ·have hm:=Nat.mod_lt u (show 10 > 0 by omega)
   exact ⟨_,_,rfl,by rw [dig _ hm]; omega,by rw [dig _ hm]; omega,by rw [dig _ hm]; omega,by rw [dig _ hm]; omega⟩
 |succ f ih=>
  intro u acc
  rw [qJ]
  split
  ·rename_i hu
   exact ⟨_,_,rfl,by rw [dig u hu]; omega,by rw [dig u hu]; omega,by rw [dig u hu]; omega,by rw [dig u hu]; omega⟩
  ·exact ih _ _
theorem Mk {n:Int} (h:R64 n):Lib.atoiAll (wT n)= .ok n:=by
 obtain ⟨h0,h1⟩:=h
 cases n with
 |ofNat u=>
  have hu:u < 9223372036854775808:=by have:(u:Int) < 9223372036854775808:=h1; omega
  show Lib.atoiAll (yc 20 u [])=_
  have hp:=Em 19 u [] (by omega) (by omega)
  have hne:=K4 19 u []
  obtain ⟨c,r,hc,h45,h43,_,_⟩:=FZ 19 u []
  rw [hc] at hp hne ⊢
  unfold Lib.atoiAll
  simp only [h45,h43,or_self,if_false,Lib.parseMag,hne,hp,Lib.parseUint10]
  rw [if_neg (by simp; omega),if_neg (by simp)]
  rfl
 |negSucc u=>
  have hu:u < 9223372036854775808:=by have:(Int.negSucc u) ≥ -9223372036854775808:=h0; omega
  show Lib.atoiAll (45::yc 20 (u+1) [])=_
  have hp:=Em 19 (u+1) [] (by omega) (by omega)
  have hne:=K4 19 (u+1) []
  unfold Lib.atoiAll
  simp only [show (45:UInt8).toNat=45 from rfl,or_true,if_true,Lib.parseMag,hne,if_false,hp,Lib.parseUint10]
  rw [if_neg (by simp),if_neg (by simp; omega)]
  rfl
theorem Iz {p:UInt8→Bool}:∀{a b:List UInt8},(∀c∈a,p c=true)→(∀c,b.head? =some c→p c=false)→(a++b).takeWhile p=a∧(a++b).dropWhile p=b
 |[],[],_,_=> ⟨rfl,rfl⟩
 |[],c::b,_,h=> by simp [List.takeWhile_cons,List.dropWhile_cons,h c rfl]
 |x::a,b,h1,h2=> by
  have:=Iz (a:=a) (b:=b) (fun c hc=> h1 c (List.mem_cons_of_mem _ hc)) h2
  simp [List.takeWhile_cons,List.dropWhile_cons,h1 x (List.mem_cons_self ..),this]
theorem JX {n:Int} {r:List UInt8} (h:R64 n) (hr:∀c,r.head? =some c→isNum c=false):B5 (wT n++r)=some (n,r):=by
 obtain ⟨h1,h2⟩:=Iz (NK n) hr
 unfold B5
 rw [h1,h2,Mk h]
theorem Ml (n:Int) (r:List UInt8):(wT n++r).head? ≠some 34∧(wT n++r).head? ≠some 91:=by
 cases n with
 |ofNat u=>
  obtain ⟨c,t,hc,_,_,h34,h91⟩:=FZ 19 u []
  show (yc 20 u []++r).head? ≠some 34∧(yc 20 u []++r).head? ≠some 91
  rw [hc]
  exact ⟨fun e=> h34 (by injection e with e; rw [e]; rfl),(fun e=> h91 (by injection e with e; rw [e]; rfl))⟩
 |negSucc u=> exact ⟨fun e=> (by injection e with e; cases e),fun e=> (by injection e with e; cases e)⟩
theorem TG : (List.range 256).all (fun n => let c := UInt8.ofNat n; !((rD c).contains 34) && (match rD c with
  |[a]=> a==c && !(a==37)
  |[x,a,b]=> x==37 && (match puV 16 255 [a,b] 0 with | some k=> Nat.beq k n | none=> false)
  |_=> false))=true:=by kernel_rfl
theorem NM (c:UInt8):(34:UInt8) ∉ rD c∧((rD c=[c]∧c≠37)∨∃a b,rD c=[37,a,b]∧puV 16 255 [a,b] 0=some c.toNat):=by
 have h:=List.all_eq_true.1 TG c.toNat (List.mem_range.2 c.toNat_lt)
 simp only [UInt8.ofNat_toNat,Bool.and_eq_true,Bool.not_eq_true'] at h
 obtain ⟨h1,h2⟩:=h
 refine ⟨fun hm=> (by rw [List.contains_iff_mem.2 hm] at h1; cases h1),?_⟩
 split at h2
 ·rename_i a ha
  simp only [Bool.and_eq_true,beq_iff_eq,Bool.not_eq_true',beq_eq_false_iff_ne] at h2
  rw [h2.1] at ha
  exact .inl ⟨ha,fun e=> h2.2 (by rw [h2.1]; exact e)⟩
 ·rename_i x a b ha
  simp only [Bool.and_eq_true,beq_iff_eq] at h2
  obtain ⟨rfl,h3⟩:=h2
  split at h3
  ·rename_i k hk
   exact .inr ⟨a,b,ha,by rw [hk,Nat.eq_of_beq_eq_true h3]⟩
  ·cases h3
 ·cases h2
theorem QD:∀(s:List UInt8) (n:Nat),s.length≤n→Ah n (s.flatMap rD)=some s:=by
 intro s
 induction s with
 |nil=> intro n _; cases n <;> rfl
 |cons c s ih=>
  intro n hn
  obtain ⟨n,rfl⟩:∃k,n=k+1:=⟨n - 1,by simp at hn; omega⟩
  have ih:=ih n (by simpa using hn)
  rw [List.flatMap_cons]
  rcases (NM c).2 with ⟨h1,h2⟩ | ⟨a,b,h1,h2⟩
  ·rw [h1]
   show Ah (n+1) (c::s.flatMap rD)=_
   rw [Ah,if_neg h2,ih]; rfl
  ·rw [h1]
   show Ah (n+1) (37::a::b::s.flatMap rD)=_
   rw [Ah,if_pos rfl]
   simp only [QC,h2,ih,Option.map_some,UInt8.ofNat_toNat]
theorem NN (c:UInt8):∀(a b:List UInt8),c ∉ a→uZ c (a++c::b)=(a,b,true)
 |[],b,_=> by show uZ c (c::b)=_; rw [uZ]; simp
 |x::a,b,h=> by
  have hx:(x==c)=false:=by rw [beq_eq_false_iff_ne]; exact fun e=> h (by rw [e]; exact List.mem_cons_self ..)
  have:=NN c a b (fun hm=> h (List.mem_cons_of_mem _ hm))
  show uZ c (x::(a++c::b))=_
  rw [uZ,hx,this]
theorem esc_34 (s:List UInt8):(34:UInt8) ∉ s.flatMap rD:=by
 rw [List.mem_flatMap]
 rintro ⟨c,_,hc⟩
 exact (NM c).1 hc
theorem K5 (s:List UInt8):s.length≤(s.flatMap rD).length∧(s.flatMap rD).length≤3*s.length:=by
 induction s with
 |nil=> exact ⟨Nat.le_refl _,Nat.le_refl _⟩
 |cons c r ih=>
  rw [List.flatMap_cons,List.length_append]
  have:1≤(rD c).length∧(rD c).length≤3:=by unfold rD; split <;> simp
  simp only [List.length_cons]; omega
theorem JY (s r:List UInt8):Dv (s.flatMap rD++34::r)=some (s,r):=by
 unfold Dv
 rw [NN 34 _ _ (esc_34 s),if_pos rfl]
 simp only [QD s _ (K5 s).1,Option.map_some]
theorem GH {k n:Int} {s:List UInt8} {l:List ValS} {d:Nat} {r r':Int} (h:uL (.mk k n s l) d r=some r'):d≠0∧nO k n s l.length=true∧yh l (d - 1) (r - 1)=some r':=by
 unfold uL at h
 split at h
 ·cases h
 ·rename_i e
  simp only [Bool.or_eq_false_iff,decide_eq_false_iff_not,Bool.not_eq_false'] at e
  exact ⟨e.1.2,e.2,h⟩
theorem En {k n:Int} {s:List UInt8} {m:Nat} (h:nO k n s m=true):(k=0∧s=[]∧m=0)∨(k=1∧n=0∧m=0∧s.length≤100)∨(k=2∧n=0∧s=[]∧m≤40):=by
 unfold nO at h
 split at h
 ·rename_i e
  simp only [Bool.and_eq_true,decide_eq_true_eq] at h
  exact .inl ⟨e,h.1,h.2⟩
 ·split at h
  ·rename_i e
   simp only [Bool.and_eq_true,decide_eq_true_eq] at h
   exact .inr (.inl ⟨e,h.1.1,h.1.2,h.2⟩)
  ·split at h
   ·rename_i e
    simp only [Bool.and_eq_true,decide_eq_true_eq] at h
    exact .inr (.inr ⟨e,h.1.1,h.1.2,h.2⟩)
   ·cases h
mutual
theorem CX:∀(v:ValS) (d:Nat) (r r':Int) (rest:List UInt8),uL v d r=some r'→okV v→(∀c,rest.head? =some c→isNum c=false)→readV d (showV v++rest)=some (v,rest)
 | .mk k n s l,d,r,r',rest,hf,ho,hr=> by
  obtain ⟨hd,hp,hl⟩:=GH hf
  obtain ⟨d,rfl⟩:∃e,d=e+1:=⟨d - 1,by omega⟩
  rcases En hp with ⟨rfl,rfl,hm⟩ | ⟨rfl,rfl,hm,_⟩ | ⟨rfl,rfl,rfl,_⟩
  ·obtain rfl:=List.eq_nil_of_length_eq_zero hm
   rw [show showV (.mk 0 n [] [])=wT n by rw [showV,if_pos rfl]]
   obtain ⟨h1,h2⟩:=Ml n rest
   rw [readV,if_neg h1,if_neg h2,JX ho.2.1 hr]
  ·obtain rfl:=List.eq_nil_of_length_eq_zero hm
   rw [show showV (.mk 1 0 s [])=34::(s.flatMap rD++ [34]) by rw [showV,if_neg (by decide),if_pos rfl]]
   rw [show (34::(s.flatMap rD++ [34]))++rest=34::(s.flatMap rD++34::rest) by simp]
   rw [readV,if_pos List.head?_cons]
   simp only [List.tail_cons,JY]
  ·rw [show showV (.mk 2 0 [] l)=91::(rQ l++ [93]) by rw [showV,if_neg (by decide),if_neg (by decide)]]
   rw [show (91::(rQ l++ [93]))++rest=91::(rQ l++93::rest) by simp]
   have:=JZ l d (r - 1) r' rest (by simpa using hl) ho.2.2
   rw [readV,if_neg (by simp),if_pos List.head?_cons]
   simp only [List.tail_cons,this]
theorem JZ:∀(l:List ValS) (d:Nat) (r r':Int) (rest:List UInt8),yh l d r=some r'→okVs l→readL (readV d) (rQ l++93::rest)=some (l,rest)
 |[],d,r,r',rest,hf,ho=> rfl
 |v::l,d,r,r',rest,hf,ho=> by
  rw [yh] at hf
  cases hv:uL v d r with
  |none=> rw [hv] at hf; cases hf
  |some r1=>
   rw [hv] at hf
   have hh:∀c,(nW l++93::rest).head? =some c→isNum c=false:=by
    intro c hc
    cases l with
    |nil=> injection hc with hc; rw [←hc]; rfl
    |cons w l=> injection hc with hc; rw [←hc]; rfl
   have h1:=CX v d r r1 (nW l++93::rest) hv ho.1 hh
   have h2:=Eo l d r1 r' rest [v] (nW l++93::rest).length hf ho.2 (Nat.le_refl _)
   rw [show rQ (v::l)++93::rest=showV v++(nW l++93::rest) by rw [rQ]; simp]
   have hne:(showV v++(nW l++93::rest)).head? ≠some 93:=by
    intro e
    have:readV d (showV v++(nW l++93::rest))=none:=by
     cases d with
     |zero=> rfl
     |succ d=>
      rw [readV,if_neg (by rw [e]; decide),if_neg (by rw [e]; decide)]
      have:B5 (showV v++(nW l++93::rest))=none:=by
       unfold B5
       generalize showV v++(nW l++93::rest)=z at e
       cases z with
       |nil=> cases e
       |cons c z=>
        injection e with e
        subst e
        rw [List.takeWhile_cons,show isNum 93=false from rfl]; rfl
      rw [this]
    rw [this] at h1; cases h1
   rw [readL,if_neg hne,h1]
   simp only [h2,List.singleton_append]
theorem Eo:∀(l:List ValS) (d:Nat) (r r':Int) (rest:List UInt8) (acc:List ValS) (n:Nat),yh l d r=some r'→okVs l→(nW l++93::rest).length≤n→readM (readV d) n (nW l++93::rest) acc=some (acc++l,rest)
 |[],d,r,r',rest,acc,n,hf,ho,hn=> by
  obtain ⟨n,rfl⟩:∃k,n=k+1:=⟨n - 1,by simp [nW] at hn; omega⟩
  show readM (readV d) (n+1) (93::rest) acc=_
  rw [readM,if_pos rfl,List.append_nil]
 |v::l,d,r,r',rest,acc,n,hf,ho,hn=> by
  rw [yh] at hf
  cases hv:uL v d r with
  |none=> rw [hv] at hf; cases hf
  |some r1=>
   rw [hv] at hf
   obtain ⟨n,rfl⟩:∃k,n=k+1:=⟨n - 1,by simp [nW] at hn; omega⟩
   have hh:∀c,(nW l++93::rest).head? =some c→isNum c=false:=by
    intro c hc
    cases l with
    |nil=> injection hc with hc; rw [←hc]; rfl
    |cons w l=> injection hc with hc; rw [←hc]; rfl
   have h1:=CX v d r r1 (nW l++93::rest) hv ho.1 hh
   have hs:nW (v::l)++93::rest=44::(showV v++(nW l++93::rest)):=by rw [nW]; simp
   rw [hs] at hn ⊢
   have h2:=Eo l d r1 r' rest (acc++ [v]) n hf ho.2 (by simp only [List.length_cons,List.length_append] at hn ⊢; omega)
   rw [readM,if_neg (by decide),if_pos rfl,h1]
   simp only [h2,List.append_assoc,List.singleton_append]
end
mutual
theorem IB:∀(v:ValS) (d:Nat) (r r':Int),uL v d r=some r'→((showV v).length:Int)+1≤400*(r - r')
 | .mk k n s l,d,r,r',hf=> by
  obtain ⟨_,hp,hl⟩:=GH hf
  have hR:=F4 l (d - 1) (r - 1) r' hl
  rcases En hp with ⟨rfl,rfl,hm⟩ | ⟨rfl,rfl,hm,adH⟩ | ⟨rfl,rfl,rfl,_⟩
  ·obtain rfl:=List.eq_nil_of_length_eq_zero hm
   rw [show showV (.mk 0 n [] [])=wT n by rw [showV,if_pos rfl]]
   have:=NL n
   simp only [nW,List.length_nil] at hR
   omega
  ·obtain rfl:=List.eq_nil_of_length_eq_zero hm
   rw [show showV (.mk 1 0 s [])=34::(s.flatMap rD++ [34]) by rw [showV,if_neg (by decide),if_pos rfl]]
   have:=(K5 s).2
   simp only [nW,List.length_nil] at hR
   simp only [List.length_cons,List.length_append,List.length_nil]
   omega
  ·rw [show showV (.mk 2 0 [] l)=91::(rQ l++ [93]) by rw [showV,if_neg (by decide),if_neg (by decide)]]
   have:=Md l
   simp only [List.length_cons,List.length_append,List.length_nil]
   omega
theorem F4:∀(l:List ValS) (d:Nat) (r r':Int),yh l d r=some r'→((nW l).length:Int)≤400*(r - r')
 |[],d,r,r',hf=> by
  rw [yh] at hf
  injection hf with hf
  subst hf
  simp [nW]
 |v::l,d,r,r',hf=> by
  rw [yh] at hf
  cases hv:uL v d r with
  |none=> rw [hv] at hf; cases hf
  |some r1=>
   rw [hv] at hf
   have h1:=IB v d r r1 hv
   have h2:=F4 l d r1 r' hf
   simp only [nW,List.length_cons,List.length_append]
   omega
end
mutual
theorem K6:∀(v:ValS) (d:Nat) (r r':Int),uL v d r=some r'→0≤r'
 | .mk k n s l,d,r,r',hf=> by
  have h1:¬r < 1:=by
   intro h
   unfold uL at hf
   rw [show decide (r < 1)=true by simpa using h] at hf
   cases hf
  obtain ⟨_,_,hl⟩:=GH hf
  exact IC l (d - 1) (r - 1) r' (by omega) hl
theorem IC:∀(l:List ValS) (d:Nat) (r r':Int),0≤r→yh l d r=some r'→0≤r'
 |[],d,r,r',h0,hf=> by
  rw [yh] at hf
  injection hf with hf
  omega
 |v::l,d,r,r',h0,hf=> by
  rw [yh] at hf
  cases hv:uL v d r with
  |none=> rw [hv] at hf; cases hf
  |some r1=>
   rw [hv] at hf
   exact IC l d r1 r' (K6 v d r r1 hv) hf
end
mutual
theorem IE:∀(v:ValS) (d:Nat) (r r':Int),uL v d r=some r'→Bi v
 | .mk k n s l,d,r,r',hf=> by
  obtain ⟨_,hp,hl⟩:=GH hf
  refine ⟨?_,F5 l (d - 1) (r - 1) r' hl⟩
  rcases En hp with ⟨_,_,hm⟩ | ⟨_,_,hm,_⟩ | ⟨_,_,_,hm⟩ <;> omega
theorem F5:∀(l:List ValS) (d:Nat) (r r':Int),yh l d r=some r'→F6 l
 |[],d,r,r',hf=> trivial
 |v::l,d,r,r',hf=> by
  rw [yh] at hf
  cases hv:uL v d r with
  |none=> rw [hv] at hf; cases hf
  |some r1=>
   rw [hv] at hf
   exact ⟨IE v d r r1 hv,F5 l d r1 r' hf⟩
end
theorem yZ {v:ValS} (h:rightV v=true):(showV v).length≤80000∧Bi v∧(okV v→∀rest:List UInt8,(∀c,rest.head? =some c→isNum c=false)→readV 6 (showV v++rest)=some (v,rest)):=by
 unfold rightV at h
 cases hf:uL v 6 200 with
 |none=> rw [hf] at h; cases h
 |some r'=>
  have h1:=IB v 6 200 r' hf
  have h2:=K6 v 6 200 r' hf
  exact ⟨by omega,IE v 6 200 r' hf,fun ho rest hr=> CX v 6 200 r' rest hf ho hr⟩
end
end Go.Proofs.YtgjhldabffjiaaaGreatDoor
