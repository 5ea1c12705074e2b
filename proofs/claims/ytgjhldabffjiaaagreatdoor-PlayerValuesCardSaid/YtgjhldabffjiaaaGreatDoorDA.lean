/- Contracts: a strings.Builder in a shared heap: WriteByte, Write; WriteString of any text. -/
import Derived.Test.YtgjhldabffjiaaaGreatDoorCC
namespace Go.Proofs.YtgjhldabffjiaaaGreatDoor
open Go Go.Abs
set_option maxRecDepth 100000
noncomputable section
theorem Vt {b:Nat} {bs s:List UInt8} {h:Heap} {v y:AV} (hg:h.get b=some (.cells false jQ [.ptr b 0,v])) (hv:Im bs v h) (src:Io h 1 y s.length (bytesD s)) (hs:s≠[]) (hl:bs.length+s.length≤70368744177664):
  ∃t g h2,s_app h [] 5 1 1 false (.c v) (.c y)= .val (.app t g (bs.length+s.length) (bytesD bs++bytesD s)) h2∧h2.get b=some (.cells false jQ [.ptr b 0,v])∧
   Bld b (bs++s) (h2.set b (.cells false jQ [.ptr b 0,.app t g (bs.length+s.length) (bytesD bs++bytesD s)]))∧Oth b h (h2.set b (.cells false jQ [.ptr b 0,.app t g (bs.length+s.length) (bytesD bs++bytesD s)])):=by
 have hsl:s.length≠0:=fun e=> hs (List.eq_nil_of_length_eq_zero e)
 obtain ⟨v',h2,he,hf,hk,ht0⟩:=JR (sz:=1) (bytes:=1) hv.fa (by rw [pG,Nat.mul_one]) src (by omega) (by omega) (fun e=> absurd e hsl) (yK s)
 obtain ⟨t,g,rfl,ht⟩:=ht0 hsl
 clear ht0
 have hg2:h2.get b=some (.cells false jQ [.ptr b 0,v]):=by
  rw [hk.2 b (get_lt hg) (fun t g n cs e hit=> ?_)]
  ·exact hg
  ·subst e hit
   rcases hv with ⟨_,e⟩ | ⟨_,t1,g1,e,ht1⟩
   ·cases e
   ·cases e
    rw [hg] at ht1; cases ht1
 have htb:t≠b:=fun e=> by subst e; rw [hg2] at ht; cases ht
 refine ⟨t,g,h2,he,hg2,⟨_,_,Heap.get_set_self hg2,.inr rfl,.inr ⟨by simp [hs],t,g,?_,?_⟩⟩,?_⟩
 ·rw [yL,List.length_append]
 ·rw [Heap.get_set_ne (Ne.symm htb)]; exact ht
 ·intro i x hx hn htk
  rw [Heap.get_set_ne (Ne.symm hn),hk.2 i (get_lt hx) (fun t g n cs e hit=> ?_)]
  ·exact hx
  ·subst e hit
   rcases hv with ⟨_,e⟩ | ⟨_,t1,g1,e,ht1⟩
   ·cases e
   ·cases e
    rw [hx] at ht1; cases ht1
    exact htk _ rfl
theorem Oth.push {b:Nat} {h h':Heap} {x:Blk} (o:Oth b (h.push x) h'):Oth b h h':=fun i y hy hn ht=> o i y (push_of hy x) hn ht
theorem Vu {b:Nat} {bs:List UInt8} {h:Heap} (hb:Bld b bs h) (c:UInt8) (hl:bs.length+1≤70368744177664):
  ∃h',Cal E o9 [.ptr b 0,.d (byteD c)] h (.nrm,.d .nili,h')∧Bld b (bs++ [c]) h'∧Oth b h h':=by
 obtain ⟨h1,v,hc,hg,hv,ho⟩:=GC hb
 have src:Io (h1.push (.cells false zx [.d (byteD c)])) 1 (.sref h1.n 0 1 1 1 true) ([c]:List UInt8).length (bytesD [c]):=by
  unfold Io srcView slView; simp only [push_n]; rfl
 obtain ⟨t,g,h2,he,hg2,hB,hO⟩:=Vt (push_of hg (.cells false zx [.d (byteD c)])) (hv.keep fun t g ht=> push_of ht _) src (by simp) (by simpa using hl)
 refine ⟨_,?_,hB,ho.trans hO.push⟩
 refine .wr wX (.inl (by kernel_rfl)) ?_
 refine .call hc (by kernel_rfl) ?_
 refine .op (iR E (ag:=false) (n:=1) (off:=1) hg rfl rfl) (by kernel_rfl) ?_
 refine .op he (by kernel_rfl) ?_
 refine .op (store_ptr (n:=1) (off:=1) (x:= .app t g (bs.length+([c]:List UInt8).length) (bytesD bs++bytesD [c])) hg2 rfl) (by kernel_rfl) ?_
 exact .yU (by kernel_rfl) (by kernel_rfl)
theorem Vv {b:Nat} {bs s:List UInt8} {h:Heap} {q m:Nat} {fr ex:Bool} {e:TypeId} (hb:Bld b bs h) (hq:h.get q=some (.cells fr e ((bytesD s).map .d))) (hqb:q≠b) (hs:s≠[]) (hl:bs.length+s.length≤70368744177664):
  ∃h',Cal E uQ [.ptr b 0,.sref q 0 1 s.length m ex] h (.nrm,.tup [mkI s.length,.d .nili],h')∧Bld b (bs++s) h'∧Oth b h h':=by
 obtain ⟨h1,v,hc,hg,hv,ho⟩:=GC hb
 have hq1:=ho q _ hq hqb (fun _ e=> nomatch e)
 obtain ⟨t,g,h2,he,hg2,hB,hO⟩:=Vt hg hv (Ip (m:=m) (ex:=ex) hq1) hs hl
 refine ⟨_,?_,hB,ho.trans hO⟩
 refine .wr yV (.inl (by kernel_rfl)) ?_
 refine .call hc (by kernel_rfl) ?_
 refine .op (iR E (ag:=false) (n:=1) (off:=1) hg rfl rfl) (by kernel_rfl) ?_
 refine .op he (by kernel_rfl) ?_
 refine .op (store_ptr (n:=1) (off:=1) (x:= .app t g (bs.length+s.length) (bytesD bs++bytesD s)) hg2 rfl) (by kernel_rfl) ?_
 exact .yU (by kernel_rfl) (by kernel_rfl)
end
end Go.Proofs.YtgjhldabffjiaaaGreatDoor
