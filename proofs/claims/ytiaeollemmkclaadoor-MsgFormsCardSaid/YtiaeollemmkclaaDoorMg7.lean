import Derived.Test.YtiaeollemmkclaaDoorMg6
/- Layer 16: msg.Encode. -/
namespace Go.Proofs.YtiaeollemmkclaaDoor
open Go.RowKit
set_option linter.unusedSimpArgs false
set_option linter.unusedVariables false
def Ds (m:MgS) (i:Nat):List (List UInt8):=Al m.k.toUInt64::((Aj m.k).take i).flatMap (C5 m)
theorem Wy (m:MgS):Ds m 0=[Al m.k.toUInt64]:=rfl
theorem Ac9 (m:MgS) {i:Nat} (h:i < (Aj m.k).length):Ds m (i+1)=Ds m i++C5 m (ix (Aj m.k) i):=by
 unfold Ds
 rw[Nd h,List.flatMap_append,List.cons_append]
 simp
theorem A6i (m:MgS) (l:List UInt8):(l.flatMap (C5 m)).flatten=l.flatMap (fbM m):=by
 induction l with
 |nil=>rfl
 |cons c l ih=>rw[List.flatMap_cons,List.flatten_append,List.flatMap_cons,ih];rfl
theorem Ada (m:MgS):(Ds m (Aj m.k).length).flatten=Cr m:=by
 unfold Ds Cr
 rw[List.take_length,List.flatten_cons,A6i]
def H4:List UInt8:=[97,111,99,103,110,115,105,118,112,120,114]
theorem Wz {k c:UInt8} (h:c∈Aj k):c∈H4:=by
 have h1:∀l∈Pe,∀c∈l,c∈H4:=by decide
 exact h1 _ (Sw k) c h
theorem A6j (m:MgS) {c:UInt8} (h:c∈H4):C5 m c≠[]:=by
 simp only[H4,List.mem_cons,List.not_mem_nil,or_false] at h
 rcases h with rfl|rfl|rfl|rfl|rfl|rfl|rfl|rfl|rfl|rfl|rfl<;>exact fun e=>by cases e
structure MgS.Few (m:MgS):Prop where
 sm:m.sm.length=32
 ids:m.ids.length≤1000
 ns:m.ns.length≤1000
 ps:m.ps.length≤1000
 xs:m.xs.length≤1000
theorem MgR.Ok.few {m:MgR} {w:World} (h:m.Ok w):m.mg.Few:=⟨h.s,h.ids.few,h.ns.few,h.ps.few,h.xs.few⟩
theorem Tb (v:UInt64):(Al v).length≤9:=(Hu v).2
theorem Pq {α:Type} (l:List α):(Bc l).length≤9:=Tb _
theorem Adb {m:MgS} (hf:m.Few) {c:UInt8} (h:c∈H4):(C5 m c).flatten.length≤20000:=by
 simp only[H4,List.mem_cons,List.not_mem_nil,or_false] at h
 have p:=fun v=>Tb v
 have l1:=Pq (Ao m.ids)
 have l2:=Pq m.ns
 have l3:=Pq (Ao (Dr m.ps))
 have l4:=Pq (Et m.ps)
 have l5:=Pq m.xs
 have n1:=Ph (Ao m.ids)
 have n2:=Ph m.ns
 have n3:=Ph (Ao (Dr m.ps))
 have n4:=Ph (Et m.ps)
 have n5:=O4 m.xs
 rw[Ir] at n1
 rw[Ir,Ww] at n3
 rw[Wx] at n4
 have:=hf.ids
 have:=hf.ns
 have:=hf.ps
 have:=hf.xs
 have:=hf.sm
 have one:∀b:List UInt8,b.length≤10000→[b].flatten.length≤20000:=fun b hb=>by simp;omega
 rcases h with rfl|rfl|rfl|rfl|rfl|rfl|rfl|rfl|rfl|rfl|rfl
 ·exact one _ (Nat.le_trans (p _) (by decide))
 ·exact one _ (Nat.le_trans (p _) (by decide))
 ·exact one _ (Nat.le_trans (p _) (by decide))
 ·exact one _ (Nat.le_trans (p _) (by decide))
 ·exact one _ (Nat.le_trans (p _) (by decide))
 ·exact one m.sm (by omega)
 ·exact one (Bc (Ao m.ids)++Bl (Ao m.ids)) (by rw[List.length_append];omega)
 ·exact one (Bc m.ns++Bl m.ns) (by rw[List.length_append];omega)
 ·show ([Bc (Ao (Dr m.ps))++Bl (Ao (Dr m.ps)),Bc (Et m.ps)++Bl (Et m.ps)]:List (List UInt8)).flatten.length≤20000
  simp only[List.flatten_cons,List.flatten_nil,List.append_nil,List.length_append]
  omega
 ·exact one (Bc m.xs++Bw m.xs) (by rw[List.length_append];omega)
 ·exact one _ (Nat.le_trans (p _) (by decide))
theorem W0 {m:MgS} (hf:m.Few):∀i,i≤(Aj m.k).length→(Ds m i).flatten.length≤9+i*20000
 |0,_=>by
  have:=Tb m.k.toUInt64
  rw[Wy]
  simp only[List.flatten_cons,List.flatten_nil,List.append_nil]
  omega
 |i+1,h=>by
  have h1:=W0 hf i (by omega)
  have hl:i < (Aj m.k).length:=by omega
  have hm:ix (Aj m.k) i∈Aj m.k:=by
   rw[ix,List.getD_eq_getElem?_getD,List.getElem?_eq_getElem hl]
   exact List.getElem_mem hl
  have h2:=Adb hf (Wz hm)
  rw[Ac9 m hl,List.flatten_append,List.length_append]
  omega
theorem W4 (k:UInt8):(Aj k).length≤6:=by
 have h1:∀l∈Pe,l.length≤6:=by decide
 exact h1 _ (Sw k)
theorem A6k (l:List (List UInt8)):Ck l.reverse=l.flatten.length:=by
 unfold Ck
 simp [List.length_flatten]
theorem A6l (l:List (List UInt8)):C3 l.reverse=l.flatten:=by
 unfold C3
 rw[List.reverse_reverse]
attribute [local irreducible] Af Ad Av Bh Bf A6 Aw A9
attribute [local irreducible] mgA wiM B6 may chI okV Fi Al Bl Bw Bc Ao Be Dr Et C5 Ds Ah C3 Ck
section
set_option maxRecDepth 100000 in
theorem A6m (m:MgR) (w:World) (hm:m.Ok w) (hc:Cc m.mg=false):Calls Tryd.prog 38 (List.map (Sv.val []) [.x (.g (mgA m))]).toArray w fun e w'=>e=.returned (.tuple #[.slice none 0 0,okV false 1])∧Below w.heap.size w w':=by
 have f0:=(Dw hm.s).1
 have fl:=Cj hm.s
 have fb:=fun n=>Co m n
 simp only[At.bnd] at fb
 have hF:=Kc 1
 refine By (n:=28) Tryd.func38 rfl Tryd.ntmps38 [.x (.g (mgA m))] (by simp) (.t [.a (.v (.slice none 0 0)),.a (.v (okV false 1))]) (fun _=>rfl) ?_
 simp (maxSteps:=10^6) only[fb,fl,↓Ba,push_cast,↓reduceIte,Nat.reduceEqDiff,Nat.reduceLT]
 (repeat (refine And.intro (by first|omega|decide) ?_))
 refine A8 rfl Li rfl (Lw (Dh hm)) (Aa rfl) ?_
 simp (maxSteps:=10^6) only[hc,hF,push_cast,↓reduceIte,Nat.reduceEqDiff,Nat.reduceLT]
 done
set_option maxRecDepth 100000 in
set_option maxHeartbeats 2000000 in
theorem A6n (m:MgR) (w:World) (hm:m.Ok w) (hc:Cc m.mg=true):Calls Tryd.prog 38 (List.map (Sv.val []) [.x (.g (mgA m))]).toArray w fun en w'=>∃v',en=.returned (.tuple #[v',.nilIface])∧Own w' w.heap.size 5 v' ((Cr m.mg).map vU8)∧Below w.heap.size w w':=by
 have f0:=(Dw hm.s).1
 have fl:=Cj hm.s
 have fb:=fun n=>Co m n
 simp only[At.bnd] at fb
 have hT:=M9 1
 have few:=hm.few
 have hp1:=Tb m.k.toUInt64
 have fle:=W4 m.k
 have e0:Al m.k.toUInt64=Al m.k.toUInt64++[]:=(List.append_nil _).symm
 refine Aak (n:=28) Tryd.func38 rfl Tryd.ntmps38 [.x (.g (mgA m))] (by simp) 5 (.u8 (Cr m.mg)) .nilIface (fun _=>rfl) ?_
 simp (maxSteps:=10^6) only[fb,fl,↓Ba,push_cast,↓reduceIte,Nat.reduceEqDiff,Nat.reduceLT]
 (repeat (refine And.intro (by first|omega|decide) ?_))
 refine A8 rfl Li rfl (Lw (Dh hm)) (Aa rfl) ?_
 simp (maxSteps:=10^6) only[fb,fl,f0,hc,hT,undef,push_cast,↓reduceIte,reduceCtorEq,Nat.reduceEqDiff,Nat.reduceLT,Nat.reduceAdd]
 (repeat (refine And.intro (by first|omega|decide) ?_))
 refine A35 (A36 1 0 47 _ (.pointer none) (ChR 125 []) rfl rfl (fun w=>rfl) (by simp only[fb,push_cast,Nat.reduceLT,Nat.reduceAdd])) ?_
 simp (maxSteps:=10^6) only[push_cast,Nat.reduceAdd]
 refine Bk rfl Lk rfl (Iy (k0:=1) (k1:=2) (n:=0) (r:=[]) (b:=Al m.k.toUInt64) (args:=[.x (.a (.v (vU64 m.k.toUInt64)))]) (by omega) (by decide) (by simp (maxSteps:=10^6) only[fb,push_cast,Nat.reduceLT,Nat.reduceAdd]) rfl rfl (fun _ _=>rfl) fun γ w hS X hX=>Ly m.k.toUInt64) (Aa rfl) (fun _=>by simp (maxSteps:=10^6) only[fb,push_cast,Nat.reduceLT,Nat.reduceAdd]) ?_
 simp (maxSteps:=10^6) only[fl,f0,↓Ak,undef,push_cast,↓reduceIte,reduceCtorEq,Nat.reduceEqDiff,Nat.reduceLT,Nat.reduceAdd]
 (repeat (refine And.intro (by first|omega|decide) ?_))
 refine A8 rfl J8 rfl (Ke m.k) (Aa rfl) ?_
 simp (maxSteps:=10^6) only[fb,push_cast,↓reduceIte,Nat.reduceLT,Nat.reduceAdd]
 (repeat (refine And.intro (by first|omega|decide) ?_))
 have z1:(Ds m.mg 0).reverse=[Al m.k.toUInt64]:=by rw[Wy];rfl
 have z2:(Ds m.mg 0).flatten.length=(Al m.k.toUInt64).length:=by rw[Wy];simp only[List.flatten_cons,List.flatten_nil,List.append_nil];rfl
 refine Bu (ι:=Nat) (fun i=>⟨[(1,.x (.a (.p 0 0))),(5,.x (.a (.p 1 0))),(20,.x (.a (.p 3 0)))],[.blk 89 (.c (mgA m)),.blk 47 (.c [.o 2,.v (.int .i64 ((Ds m.mg i).flatten.length:Nat))]),.abs (ChR 125 (Ds m.mg i).reverse),.it (Ah m.k) i]⟩)
  (fun i=>i≤(Ah m.k).size) (fun i=>(Ah m.k).size - i) 0 [0,1,4,5] (Nat.zero_le _) ?_ ?_
 ·simp (maxSteps:=10^6) only[fb,↓Ak,z1,z2,push_cast,↓reduceIte,reduceCtorEq,Nat.reduceEqDiff,Nat.reduceLT,Nat.reduceAdd]
 intro i hi
 have hfl:(Ah m.k).size=(Aj m.k).length:=by rw[Ji]
 have hn:=W0 few i (by show i≤(Aj m.k).length;omega)
 by_cases hlt:i < (Ah m.k).size
 ·have hd:=Wd hlt
  have hil:i < (Aj m.k).length:=by omega
  have hmem:ix (Aj m.k) i∈H4:=Wz (k:=m.k) (by
   rw[ix,List.getD_eq_getElem?_getD,List.getElem?_eq_getElem hil]
   exact List.getElem_mem hil)
  have hs:=Ac9 m.mg (i:=i) hil
  rw[show m.mg.k=m.k from rfl] at hs
  have hbl:=Adb few hmem
  generalize ix (Aj m.k) i=c at*
  have hs1:(Ds m.mg (i+1)).reverse=(C5 m.mg c).reverse++(Ds m.mg i).reverse:=by rw[hs,List.reverse_append]
  have hs2:(Ds m.mg (i+1)).flatten.length=(Ds m.mg i).flatten.length+(C5 m.mg c).flatten.length:=by rw[hs,List.flatten_append,List.length_append]
  have hcc:((c.toNat:Nat):Int)=chI c:=by unfold chI;rfl
  simp (maxSteps:=10^6) only[fl,hlt,hd,hcc,push_cast,↓reduceIte,Nat.reduceEqDiff,Nat.reduceLT,Nat.reduceAdd]
  (repeat (refine And.intro (by first|omega|decide) ?_))
  refine Bk rfl Azj rfl (A5y (k0:=1) (k1:=2) (n:=(Ds m.mg i).flatten.length) (r:=(Ds m.mg i).reverse) (bs:=C5 m.mg c) (args:=[.x (.g (mgA m)),.x (.a (.v (.int .i32 (chI c))))]) (by omega) (by decide) (by simp (maxSteps:=10^6) only[fb,push_cast,Nat.reduceLT,Nat.reduceAdd]) rfl rfl (fun γ γ'=>by rw[List.map_cons,Kd m γ γ'];rfl) fun γ w hS X hX=>A6h m c (hm.x hS fun b hb=>by
   obtain⟨k,r,_,h⟩:=hX b hb
   exact⟨k,r,h⟩) (A6j _ hmem)) (Aa rfl) (fun _=>by simp (maxSteps:=10^6) only[fb,push_cast,Nat.reduceLT,Nat.reduceAdd]) ?_
  simp (maxSteps:=10^6) only[↓Ak,push_cast,↓reduceIte,Nat.reduceEqDiff,Nat.reduceLT,Nat.reduceAdd]
  (repeat (refine And.intro (by first|omega|decide) ?_))
  refine Bd (i+1) [0,1,5,3] (by omega) (by omega) ?_
  simp (maxSteps:=10^6) only[fb,↓Ak,hs1,hs2,push_cast,↓reduceIte,reduceCtorEq,Nat.reduceEqDiff,Nat.reduceLT,Nat.reduceAdd]
  done
 ·obtain rfl:i=(Ah m.k).size:=by omega
  rw[hfl] at hn
  have hea:=Ada m.mg
  rw[show m.mg.k=m.k from rfl,←hfl] at hea
  have ht:Ck (Ds m.mg (Ah m.k).size).reverse=(Ds m.mg (Ah m.k).size).flatten.length:=A6k _
  have hal:C3 (Ds m.mg (Ah m.k).size).reverse=Cr m.mg:=by rw[A6l,hea]
  simp (maxSteps:=10^6) only[hlt,push_cast,↓reduceIte,Nat.reduceEqDiff,Nat.reduceLT,Nat.reduceAdd]
  (repeat (refine And.intro (by first|omega|decide) ?_))
  refine Fw rfl Ay7 rfl (A4w (k0:=1) (k1:=2) (r:=(Ds m.mg (Ah m.k).size).reverse) (by rw[ht,hfl];omega) (by simp (maxSteps:=10^6) only[fb,push_cast,Nat.reduceLT,Nat.reduceAdd]) (by rw[ht];rfl) rfl) (Aa rfl) (by simp (maxSteps:=10^6) only[fb,push_cast,Nat.reduceLT,Nat.reduceAdd]) ?_
  simp (maxSteps:=10^6) only[hal,push_cast,↓reduceIte,Nat.reduceEqDiff,Nat.reduceLT,Nat.reduceAdd]
  done
theorem Adc {w0:World} {hp:List Res} {s:Sv} {m:MgS} (h:Dg w0 hp s m) (hc:Cc m=false):Ad Tryd.prog w0 No 38 [s] hp (.t [.a (.v (.slice none 0 0)),.a (.v (okV false 1))]) hp:=Ca fun γ w hS=>by
 obtain⟨a,e,h1,rfl⟩:=h γ w hS
 have e:List.map (Sv.val γ) [s]=List.map (Sv.val []) [.x (.g (mgA a))]:=by
  simp only[List.map_cons,List.map_nil,e,Es]
 rw[e]
 exact A6m a w h1 hc
theorem W5 {w0:World} {hp:List Res} {s:Sv} {m:MgS} (h:Dg w0 hp s m) (hc:Cc m=true) (hbr:∀r∈hp,Res.bnd hp.length r):Ad Tryd.prog w0 No 38 [s] hp (.t [.a (.o hp.length),.a (.v .nilIface)]) (hp++[.own 5 (.u8 (Cr m))]):=Aac hbr trivial fun γ w hS=>by
 obtain⟨a,e,h1,rfl⟩:=h γ w hS
 have e:List.map (Sv.val γ) [s]=List.map (Sv.val []) [.x (.g (mgA a))]:=by
  simp only[List.map_cons,List.map_nil,e,Es]
 rw[e]
 exact A6n a w h1 hc
theorem A6o {m:MgS} (hf:m.Few):(Cr m).length≤200000:=by
 have h1:=W0 hf (Aj m.k).length (Nat.le_refl _)
 have h2:=W4 m.k
 rw[Ada] at h1
 omega
end
end Go.Proofs.YtiaeollemmkclaaDoor
