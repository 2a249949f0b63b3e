import Derived.Test.YtiaeollemmkclaaDoorMq7
/- Layer 16's document: Same; law 16's takeMsg; Decode as its caller sees it. -/
namespace Go.Proofs.YtiaeollemmkclaaDoor
open Go.RowKit
set_option linter.unusedSimpArgs false
set_option linter.unusedVariables false
theorem Xy {α:Type} [Inhabited α] {a b:List α} (h:a.length=b.length) (h2:∀j,j < a.length→ix a j=ix b j):a=b:=by
 apply List.ext_getElem h
 intro j h3 h4
 have:=h2 j h3
 rw[ix,ix,List.getD_eq_getElem?_getD,List.getD_eq_getElem?_getD,List.getElem?_eq_getElem h3,List.getElem?_eq_getElem h4] at this
 exact this
attribute [local irreducible] Af Ad Av Bh Bf A6 Aw A9
attribute [local irreducible] mgA mgJ fdA Gc
section
set_option maxRecDepth 100000 in
set_option maxHeartbeats 8000000 in
theorem Bb1 (m n:MgR) (w:World) (hm:m.Ok w) (hn:n.Ok w):Calls Tryd.prog 45 (List.map (Sv.val []) [.x (.g (mgA m)),.x (.g (mgA n))]).toArray w fun e w'=>e=.returned (.bool (Gc m.mg n.mg))∧Below w.heap.size w w':=by
 obtain⟨q,hq⟩:∃q,q=Gc m.mg n.mg:=⟨_,rfl⟩
 rw[←hq]
 have no:m.mg≠n.mg→q=false:=fun h=>hq.trans (by unfold Gc;exact decide_eq_false h)
 have yes:m.mg=n.mg→q=true:=fun h=>hq.trans (by unfold Gc;exact decide_eq_true h)
 refine By (n:=151) Tryd.func45 rfl Tryd.ntmps45 [.x (.g (mgA m)),.x (.g (mgA n))] (by simp) (.x (.a (.v (.bool q)))) (fun _=>rfl) ?_
 obtain⟨f0,f1,f2,f3,f4,f5,f38,f39,f40,f41,f42⟩:=Dw hm.s
 obtain⟨g0,g1,g2,g3,g4,g5,g38,g39,g40,g41,g42⟩:=Dw hn.s
 have fl:=Cj hm.s
 have gl:=Cj hn.s
 have fs:=Gw hm.s
 have gs:=Gw hn.s
 have hfs:=hm.s
 have hgs:=hn.s
 have fb:=fun n=>Co m n
 have gb:=fun k=>Co n k
 simp only[At.bnd] at fb gb
 have hU:∀x y:UInt64,(n64 x=n64 y)=(x=y):=fun x y=>propext ⟨fun h=>UInt64.toNat_inj.1 (Int.ofNat_inj.1 h),fun h=>by rw[h]⟩
 by_cases h0:m.k=n.k
 case neg=>
  have hq:q=false:=no fun e=>h0 (congrArg MgS.k e)
  simp (maxSteps:=10^6) only[fl,f0,fb,↓Ba,gl,g0,gb,h0,hq,undef,List.append_eq,List.cons_append,List.nil_append,push_cast,↓reduceIte,reduceCtorEq,Nat.reduceEqDiff,Nat.reduceLT,Nat.reduceAdd]
  done
 by_cases h1:m.pl=n.pl
 case neg=>
  have hq:q=false:=no fun e=>h1 (congrArg MgS.pl e)
  simp (maxSteps:=10^6) only[fl,f0,f1,fb,↓Ba,gl,g0,g1,gb,h0,h1,hq,undef,List.append_eq,List.cons_append,List.nil_append,push_cast,↓reduceIte,reduceCtorEq,Nat.reduceEqDiff,Nat.reduceLT,Nat.reduceAdd]
  done
 by_cases h2:m.ot=n.ot
 case neg=>
  have hq:q=false:=no fun e=>h2 (congrArg MgS.ot e)
  simp (maxSteps:=10^6) only[fl,f0,f1,f2,fb,↓Ba,gl,g0,g1,g2,gb,h0,h1,h2,hq,undef,List.append_eq,List.cons_append,List.nil_append,push_cast,↓reduceIte,reduceCtorEq,Nat.reduceEqDiff,Nat.reduceLT,Nat.reduceAdd]
  done
 by_cases h3:m.cl=n.cl
 case neg=>
  have hq:q=false:=no fun e=>h3 (congrArg MgS.cl e)
  simp (maxSteps:=10^6) only[fl,f0,f1,f2,f3,fb,↓Ba,gl,g0,g1,g2,g3,gb,h0,h1,h2,h3,hq,undef,List.append_eq,List.cons_append,List.nil_append,push_cast,↓reduceIte,reduceCtorEq,Nat.reduceEqDiff,Nat.reduceLT,Nat.reduceAdd]
  done
 by_cases h4:m.ge=n.ge
 case neg=>
  have hq:q=false:=no fun e=>h4 (congrArg MgS.ge e)
  simp (maxSteps:=10^6) only[fl,f0,f1,f2,f3,f4,fb,↓Ba,gl,g0,g1,g2,g3,g4,gb,h0,h1,h2,h3,h4,hq,undef,List.append_eq,List.cons_append,List.nil_append,push_cast,↓reduceIte,reduceCtorEq,Nat.reduceEqDiff,Nat.reduceLT,Nat.reduceAdd]
  done
 by_cases h5:m.nu=n.nu
 case neg=>
  have hq:q=false:=no fun e=>h5 (congrArg MgS.nu e)
  simp (maxSteps:=10^6) only[fl,f0,f1,f2,f3,f4,f5,fb,↓Ba,gl,g0,g1,g2,g3,g4,g5,gb,h0,h1,h2,h3,h4,h5,hq,undef,List.append_eq,List.cons_append,List.nil_append,push_cast,↓reduceIte,reduceCtorEq,Nat.reduceEqDiff,Nat.reduceLT,Nat.reduceAdd]
  done
 by_cases h6:m.sm=n.sm
 case neg=>
  have hq:q=false:=no fun e=>h6 (congrArg MgS.sm e)
  simp (maxSteps:=10^6) only[fl,f0,f1,f2,f3,f4,f5,fs,hfs,fb,↓Ba,gl,g0,g1,g2,g3,g4,g5,gs,hgs,gb,h0,h1,h2,h3,h4,h5,h6,hq,undef,List.append_eq,List.cons_append,List.nil_append,push_cast,↓reduceIte,reduceCtorEq,Nat.reduceEqDiff,Nat.reduceLT,Nat.reduceLeDiff,Nat.reduceAdd]
  done
 by_cases h7:m.re=n.re
 case neg=>
  have hq:q=false:=no fun e=>h7 (congrArg MgS.re e)
  simp (maxSteps:=10^6) only[fl,f0,f1,f2,f3,f4,f5,f42,fs,fb,↓Ba,gl,g0,g1,g2,g3,g4,g5,g42,gs,hgs,gb,h0,h1,h2,h3,h4,h5,h6,h7,hq,undef,List.append_eq,List.cons_append,List.nil_append,push_cast,↓reduceIte,reduceCtorEq,Nat.reduceEqDiff,Nat.reduceLT,Nat.reduceLeDiff,Nat.reduceAdd]
  done
 by_cases lids:(m.ids.l.length:Int)=(n.ids.l.length:Int)
 case neg=>
  have hq:q=false:=no fun e=>lids (by rw[show m.ids.l=n.ids.l from congrArg MgS.ids e])
  simp (maxSteps:=10^6) only[fl,f0,f1,f2,f3,f4,f5,f38,f42,fs,fb,↓Ba,gl,g0,g1,g2,g3,g4,g5,g38,g42,gs,hgs,gb,SlV.val,h0,h1,h2,h3,h4,h5,h6,h7,lids,hq,undef,List.append_eq,List.cons_append,List.nil_append,push_cast,↓reduceIte,reduceCtorEq,Nat.reduceEqDiff,Nat.reduceLT,Nat.reduceLeDiff,Nat.reduceAdd]
  done
 by_cases lns:(m.ns.l.length:Int)=(n.ns.l.length:Int)
 case neg=>
  have hq:q=false:=no fun e=>lns (by rw[show m.ns.l=n.ns.l from congrArg MgS.ns e])
  simp (maxSteps:=10^6) only[fl,f0,f1,f2,f3,f4,f5,f38,f39,f42,fs,fb,↓Ba,gl,g0,g1,g2,g3,g4,g5,g38,g39,g42,gs,hgs,gb,SlV.val,h0,h1,h2,h3,h4,h5,h6,h7,lids,lns,hq,undef,List.append_eq,List.cons_append,List.nil_append,push_cast,↓reduceIte,reduceCtorEq,Nat.reduceEqDiff,Nat.reduceLT,Nat.reduceLeDiff,Nat.reduceAdd]
  done
 by_cases lps:(m.ps.l.length:Int)=(n.ps.l.length:Int)
 case neg=>
  have hq:q=false:=no fun e=>lps (by rw[show m.ps.l=n.ps.l from congrArg MgS.ps e])
  simp (maxSteps:=10^6) only[fl,f0,f1,f2,f3,f4,f5,f38,f39,f40,f42,fs,fb,↓Ba,gl,g0,g1,g2,g3,g4,g5,g38,g39,g40,g42,gs,hgs,gb,SlV.val,h0,h1,h2,h3,h4,h5,h6,h7,lids,lns,lps,hq,undef,List.append_eq,List.cons_append,List.nil_append,push_cast,↓reduceIte,reduceCtorEq,Nat.reduceEqDiff,Nat.reduceLT,Nat.reduceLeDiff,Nat.reduceAdd]
  done
 simp (maxSteps:=10^6) only[fl,f0,f1,f2,f3,f4,f5,f38,f39,f40,f41,f42,fs,fb,↓Ba,gl,g0,g1,g2,g3,g4,g5,g38,g39,g40,g41,g42,gs,hgs,gb,SlV.val,h0,h1,h2,h3,h4,h5,h6,h7,lids,lns,lps,undef,List.append_eq,List.cons_append,List.nil_append,push_cast,↓reduceIte,reduceCtorEq,Nat.reduceEqDiff,Nat.reduceLT,Nat.reduceLeDiff,Nat.reduceAdd]
 (repeat (refine And.intro (by first|omega|decide) ?_))
 refine A8 rfl Azh rfl (A2x (a:=m.xs.l) (b:=n.xs.l) (by have:=hm.xs.few;omega) (Dq hm.xs.rd _ _ (by simp) hm.xs.len) (Dq hn.xs.rd _ _ (by simp) hn.xs.len)) (Aa rfl) ?_
 by_cases hx:m.xs.l=n.xs.l
 case neg=>
  have hq:q=false:=no fun e=>hx (congrArg MgS.xs e)
  have hxd:=decide_eq_false hx
  simp (maxSteps:=10^6) only[hxd,hq,push_cast,↓reduceIte,Nat.reduceEqDiff,Nat.reduceLT,Nat.reduceAdd]
  done
 have hxd:=decide_eq_true hx
 simp (maxSteps:=10^6) only[hxd,push_cast,↓reduceIte,Nat.reduceEqDiff,Nat.reduceLT,Nat.reduceAdd]
 (repeat (refine And.intro (by first|omega|decide) ?_))
 have eids:m.ids.l=n.ids.l∨m.ids.l≠n.ids.l:=Decidable.em _
 refine Bu (ι:=Nat) (fun i=>⟨[(2,.x (.a (.p 0 0))),(3,.x (.a (.p 1 0))),(5,.x (.a (.v (.int .i64 i))))],[.blk 83 (.c (mgA m)),.blk 83 (.c (mgA n))]⟩)
  (fun i=>i≤m.ids.l.length∧∀j,j < i→ix m.ids.l j=ix n.ids.l j) (fun i=>m.ids.l.length - i) 0 [0,1] ⟨Nat.zero_le _,fun j h=>absurd h (Nat.not_lt_zero j)⟩ ?_ ?_
 ·simp (maxSteps:=10^6) only[fb,↓Ak,gb,push_cast,↓Int.cast_ofNat_Int,Int.cast_ofNat_Int,↓reduceIte,reduceCtorEq,Nat.reduceEqDiff,Nat.reduceLT,Nat.reduceAdd]
  done
 rintro i ⟨hi,hj⟩
 by_cases hlt:(i:Int) < (m.ids.l.length:Int)
 ·have hil:i < m.ids.l.length:=by omega
  have i0:(0:Int)≤(i:Int):=by omega
  have hlt2:(i:Int) < (n.ids.l.length:Int):=by omega
  have few:=hm.ids.few
  have F:=FM.of hm.ids.rd
  have G:=FM.of hn.ids.rd
  have c0:=F.cell i hil
  have d0:=G.cell i (by omega)
  have o0:=F.ok i hil
  have p0:=G.ok i (by omega)
  have hA:=F.some_ (by omega)
  have hB:=G.some_ (by omega)
  simp (maxSteps:=10^6) only[fl,f38,SlV.val,hlt,undef,push_cast,↓reduceIte,reduceCtorEq,Nat.reduceEqDiff,Nat.reduceLT,Nat.reduceAdd]
  (repeat (refine And.intro (by first|omega|decide) ?_))
  refine Ew [(0,true),(1,true),(2,true),(3,true),(4,true),(5,true),(6,true),(7,true),(8,true),(9,true),(10,true)] (by kernel_rfl) (by kernel_rfl) rfl (by kernel_rfl) ?_
  by_cases hc:ix m.ids.l i=ix n.ids.l i
  ·simp (maxSteps:=10^6) only[fl,f38,gl,g38,SlV.val,hlt,hlt2,i0,c0,d0,o0,p0,hA,hB,hc,undef,push_cast,↓Int.toNat_natCast,↓reduceIte,reduceCtorEq,Nat.reduceEqDiff,Nat.reduceLT,Nat.reduceAdd,Int.reduceNeg]
   (repeat (refine And.intro (by first|omega|decide) ?_))
   refine Bd (i+1) [0,1] ⟨by omega,fun j hjl=>?_⟩ (by omega) ?_
   ·by_cases e:j=i
    ·rw[e];exact hc
    ·exact hj j (by omega)
   ·simp (maxSteps:=10^6) only[fb,↓Ak,gb,push_cast,↓reduceIte,reduceCtorEq,Nat.reduceEqDiff,Nat.reduceLT,Nat.reduceAdd]
    done
  ·have hq:q=false:=no fun e=>hc (by rw[show m.ids.l=n.ids.l from congrArg MgS.ids e])
   simp (maxSteps:=10^6) only[fl,f38,gl,g38,SlV.val,hlt,hlt2,i0,c0,d0,o0,p0,hA,hB,hc,hq,undef,push_cast,↓Int.toNat_natCast,↓reduceIte,reduceCtorEq,Nat.reduceEqDiff,Nat.reduceLT,Nat.reduceAdd]
   done
 obtain rfl:i=m.ids.l.length:=by omega
 have Eids:m.ids.l=n.ids.l:=Xy (by omega) hj
 clear hj hi
 simp (maxSteps:=10^6) only[fl,f38,SlV.val,hlt,undef,push_cast,↓reduceIte,reduceCtorEq,Nat.reduceEqDiff,Nat.reduceLT,Nat.reduceAdd]
 (repeat (refine And.intro (by first|omega|decide) ?_))
 clear hlt
 have ens:m.ns.l=n.ns.l∨m.ns.l≠n.ns.l:=Decidable.em _
 refine Bu (ι:=Nat) (fun i=>⟨[(2,.x (.a (.p 0 0))),(3,.x (.a (.p 1 0))),(6,.x (.a (.v (.int .i64 i))))],[.blk 83 (.c (mgA m)),.blk 83 (.c (mgA n))]⟩)
  (fun i=>i≤m.ns.l.length∧∀j,j < i→ix m.ns.l j=ix n.ns.l j) (fun i=>m.ns.l.length - i) 0 [0,1] ⟨Nat.zero_le _,fun j h=>absurd h (Nat.not_lt_zero j)⟩ ?_ ?_
 ·simp (maxSteps:=10^6) only[fb,↓Ak,gb,push_cast,↓Int.cast_ofNat_Int,Int.cast_ofNat_Int,↓reduceIte,reduceCtorEq,Nat.reduceEqDiff,Nat.reduceLT,Nat.reduceAdd]
  done
 rintro i ⟨hi,hj⟩
 by_cases hlt:(i:Int) < (m.ns.l.length:Int)
 ·have hil:i < m.ns.l.length:=by omega
  have i0:(0:Int)≤(i:Int):=by omega
  have hlt2:(i:Int) < (n.ns.l.length:Int):=by omega
  have few:=hm.ns.few
  have F:=FM.of hm.ns.rd
  have G:=FM.of hn.ns.rd
  have c0:=F.cell i hil
  have d0:=G.cell i (by omega)
  have o0:=F.ok i hil
  have p0:=G.ok i (by omega)
  have hA:=F.some_ (by omega)
  have hB:=G.some_ (by omega)
  simp (maxSteps:=10^6) only[fl,f39,SlV.val,hlt,undef,push_cast,↓reduceIte,reduceCtorEq,Nat.reduceEqDiff,Nat.reduceLT,Nat.reduceAdd]
  (repeat (refine And.intro (by first|omega|decide) ?_))
  refine Ew [(0,true),(1,true),(2,true),(3,true),(4,true),(5,true),(6,true),(7,true),(8,true),(9,true),(10,true)] (by kernel_rfl) (by kernel_rfl) rfl (by kernel_rfl) ?_
  by_cases hc:ix m.ns.l i=ix n.ns.l i
  ·simp (maxSteps:=10^6) only[fl,f39,gl,g39,SlV.val,hlt,hlt2,i0,c0,d0,o0,p0,hA,hB,hc,undef,push_cast,↓Int.toNat_natCast,↓reduceIte,reduceCtorEq,Nat.reduceEqDiff,Nat.reduceLT,Nat.reduceAdd,Int.reduceNeg]
   (repeat (refine And.intro (by first|omega|decide) ?_))
   refine Bd (i+1) [0,1] ⟨by omega,fun j hjl=>?_⟩ (by omega) ?_
   ·by_cases e:j=i
    ·rw[e];exact hc
    ·exact hj j (by omega)
   ·simp (maxSteps:=10^6) only[fb,↓Ak,gb,push_cast,↓reduceIte,reduceCtorEq,Nat.reduceEqDiff,Nat.reduceLT,Nat.reduceAdd]
    done
  ·have hq:q=false:=no fun e=>hc (by rw[show m.ns.l=n.ns.l from congrArg MgS.ns e])
   simp (maxSteps:=10^6) only[fl,f39,gl,g39,SlV.val,hlt,hlt2,i0,c0,d0,o0,p0,hA,hB,hc,hq,undef,push_cast,↓Int.toNat_natCast,↓reduceIte,reduceCtorEq,Nat.reduceEqDiff,Nat.reduceLT,Nat.reduceAdd]
   done
 obtain rfl:i=m.ns.l.length:=by omega
 have Ens:m.ns.l=n.ns.l:=Xy (by omega) hj
 clear hj hi
 simp (maxSteps:=10^6) only[fl,f39,SlV.val,hlt,undef,push_cast,↓reduceIte,reduceCtorEq,Nat.reduceEqDiff,Nat.reduceLT,Nat.reduceAdd]
 (repeat (refine And.intro (by first|omega|decide) ?_))
 clear hlt
 have eps:m.ps.l=n.ps.l∨m.ps.l≠n.ps.l:=Decidable.em _
 refine Bu (ι:=Nat) (fun i=>⟨[(2,.x (.a (.p 0 0))),(3,.x (.a (.p 1 0))),(7,.x (.a (.v (.int .i64 i))))],[.blk 83 (.c (mgA m)),.blk 83 (.c (mgA n))]⟩)
  (fun i=>i≤m.ps.l.length∧∀j,j < i→ix m.ps.l j=ix n.ps.l j) (fun i=>m.ps.l.length - i) 0 [0,1] ⟨Nat.zero_le _,fun j h=>absurd h (Nat.not_lt_zero j)⟩ ?_ ?_
 ·simp (maxSteps:=10^6) only[fb,↓Ak,gb,push_cast,↓Int.cast_ofNat_Int,Int.cast_ofNat_Int,↓reduceIte,reduceCtorEq,Nat.reduceEqDiff,Nat.reduceLT,Nat.reduceAdd]
  done
 rintro i ⟨hi,hj⟩
 by_cases hlt:(i:Int) < (m.ps.l.length:Int)
 ·have hil:i < m.ps.l.length:=by omega
  have i0:(0:Int)≤(i:Int):=by omega
  have hlt2:(i:Int) < (n.ps.l.length:Int):=by omega
  have few:=hm.ps.few
  have F:=FLm.of Jc (by decide) hm.ps.rd
  have G:=FLm.of Jc (by decide) hn.ps.rd
  obtain⟨w1,w2⟩:=F.whole i hil
  obtain⟨v1,v2⟩:=G.whole i (by omega)
  have w1:D0 w (Ar m.ps.A (i*2)) 2 0=[.v (.int .i64 (ix m.ps.l i).1),.v (vU64 (ix m.ps.l i).2)]:=w1
  have v1:D0 w (Ar n.ps.A (i*2)) 2 0=[.v (.int .i64 (ix n.ps.l i).1),.v (vU64 (ix n.ps.l i).2)]:=v1
  have hA:=F.some_ (by omega)
  have hB:=G.some_ (by omega)
  simp (maxSteps:=10^6) only[fl,f40,SlV.val,hlt,undef,push_cast,↓reduceIte,reduceCtorEq,Nat.reduceEqDiff,Nat.reduceLT,Nat.reduceAdd]
  (repeat (refine And.intro (by first|omega|decide) ?_))
  refine Ew [(0,true),(1,true),(2,true),(3,true),(4,true),(5,true),(6,true),(7,true),(8,true),(9,true),(10,true)] (by kernel_rfl) (by kernel_rfl) rfl (by kernel_rfl) ?_
  by_cases hc:ix m.ps.l i=ix n.ps.l i
  ·simp (maxSteps:=10^6) only[fl,f40,gl,g40,SlV.val,hlt,hlt2,i0,w1,w2,v1,v2,hA,hB,hc,Db,undef,push_cast,↓Int.toNat_natCast,↓reduceIte,reduceCtorEq,Nat.reduceEqDiff,Nat.reduceLT,Nat.reduceAdd,Int.reduceNeg]
   (repeat (refine And.intro (by first|omega|decide) ?_))
   refine Bd (i+1) [0,1] ⟨by omega,fun j hjl=>?_⟩ (by omega) ?_
   ·by_cases e:j=i
    ·rw[e];exact hc
    ·exact hj j (by omega)
   ·simp (maxSteps:=10^6) only[fb,↓Ak,gb,push_cast,↓reduceIte,reduceCtorEq,Nat.reduceEqDiff,Nat.reduceLT,Nat.reduceAdd]
    done
  ·have hcd:(decide ((ix m.ps.l i).1=(ix n.ps.l i).1)&&decide ((ix m.ps.l i).2=(ix n.ps.l i).2))=false:=by
    rw[Bool.and_eq_false_iff,decide_eq_false_iff_not,decide_eq_false_iff_not]
    by_cases e:(ix m.ps.l i).1=(ix n.ps.l i).1
    ·exact .inr fun e2=>hc (Prod.ext e e2)
    ·exact .inl e
   have hq:q=false:=no fun e=>hc (by rw[show m.ps.l=n.ps.l from congrArg MgS.ps e])
   simp (maxSteps:=10^6) only[fl,f40,gl,g40,SlV.val,hU,hlt,hlt2,i0,w1,w2,v1,v2,hA,hB,hcd,hq,Db,undef,push_cast,↓Int.toNat_natCast,↓reduceIte,reduceCtorEq,Nat.reduceEqDiff,Nat.reduceLT,Nat.reduceAdd]
   done
 obtain rfl:i=m.ps.l.length:=by omega
 have Eps:m.ps.l=n.ps.l:=Xy (by omega) hj
 clear hj hi
 simp (maxSteps:=10^6) only[fl,f40,SlV.val,hlt,undef,push_cast,↓reduceIte,reduceCtorEq,Nat.reduceEqDiff,Nat.reduceLT,Nat.reduceAdd]
 refine (yes ?_).symm
 unfold MgR.mg
 rw[h0,h1,h2,h3,h4,h5,h6,h7,Eids,Ens,Eps,hx]
end
end Go.Proofs.YtiaeollemmkclaaDoor
