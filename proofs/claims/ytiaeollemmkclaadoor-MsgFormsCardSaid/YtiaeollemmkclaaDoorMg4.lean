import Derived.Test.YtiaeollemmkclaaDoorMg2
/- Layer 16: msg.Same, msg.Check. -/
namespace Go.Proofs.YtiaeollemmkclaaDoor
open Go.RowKit
set_option linter.unusedSimpArgs false
set_option linter.unusedVariables false
attribute [local irreducible] Af Ad Av Bh Bf A6 Aw A9
attribute [local irreducible] mgA wiM B6 may chI okV Fi
def Gc (m n:MgS):Bool:=decide (m=n)
theorem Su {m n:MgS}:Gc m n=true↔m=n:=decide_eq_true_iff
section
set_option maxRecDepth 100000 in
set_option maxHeartbeats 4000000 in
theorem A3q (m n:MgR) (w:World) (hm:m.Ok w) (hn:n.Ok w):Calls Tryd.prog 47 (List.map (Sv.val []) [.x (.g (mgA m)),.x (.g (mgA n))]).toArray w fun e w'=>e=.returned (.bool (Gc m.mg n.mg))∧Below w.heap.size w w':=by
 obtain⟨q,hq⟩:∃q,q=Gc m.mg n.mg:=⟨_,rfl⟩
 rw[←hq]
 refine By (n:=87) Tryd.func47 rfl Tryd.ntmps47 [.x (.g (mgA m)),.x (.g (mgA n))] (by simp) (.x (.a (.v (.bool q)))) (fun _=>rfl) ?_
 obtain⟨f0,f1,f2,f3,f4,f5,f38,f39,f40,f41,f42⟩:=Dw hm.s
 obtain⟨g0,g1,g2,g3,g4,g5,g38,g39,g40,g41,g42⟩:=Dw hn.s
 have fl:=Cj hm.s
 have gl:=Cj hn.s
 have fs:=Gw hm.s
 have gs:=Gw hn.s
 have hfs:=hm.s
 have hgs:=hn.s
 have fb:=fun n=>Co m n
 have gb:=fun k=>Co n k
 simp only[At.bnd] at fb gb
 have hU:∀x y:UInt64,(n64 x=n64 y)=(x=y):=fun x y=>propext ⟨fun h=>UInt64.toNat_inj.1 (Int.ofNat_inj.1 h),fun h=>by rw[h]⟩
 by_cases h0:m.k=n.k
 case neg=>
  have hq:q=false:=hq.trans (decide_eq_false fun e=>h0 (congrArg MgS.k e))
  simp (maxSteps:=10^6) only[fb,fl,f0,↓Ba,gb,gl,g0,h0,hq,undef,List.append_eq,List.cons_append,List.nil_append,push_cast,↓reduceIte,reduceCtorEq,Nat.reduceEqDiff,Nat.reduceLT,Nat.reduceAdd]
  done
 by_cases h1:m.pl=n.pl
 case neg=>
  have hq:q=false:=hq.trans (decide_eq_false fun e=>h1 (congrArg MgS.pl e))
  simp (maxSteps:=10^6) only[fb,fl,f0,f1,↓Ba,gb,gl,g0,g1,h0,h1,hq,undef,List.append_eq,List.cons_append,List.nil_append,push_cast,↓reduceIte,reduceCtorEq,Nat.reduceEqDiff,Nat.reduceLT,Nat.reduceAdd]
  done
 by_cases h2:m.ot=n.ot
 case neg=>
  have hq:q=false:=hq.trans (decide_eq_false fun e=>h2 (congrArg MgS.ot e))
  simp (maxSteps:=10^6) only[fb,fl,f0,f1,f2,↓Ba,gb,gl,g0,g1,g2,h0,h1,h2,hq,undef,List.append_eq,List.cons_append,List.nil_append,push_cast,↓reduceIte,reduceCtorEq,Nat.reduceEqDiff,Nat.reduceLT,Nat.reduceAdd]
  done
 by_cases h3:m.cl=n.cl
 case neg=>
  have hq:q=false:=hq.trans (decide_eq_false fun e=>h3 (congrArg MgS.cl e))
  simp (maxSteps:=10^6) only[fb,fl,f0,f1,f2,f3,↓Ba,gb,gl,g0,g1,g2,g3,h0,h1,h2,h3,hq,undef,List.append_eq,List.cons_append,List.nil_append,push_cast,↓reduceIte,reduceCtorEq,Nat.reduceEqDiff,Nat.reduceLT,Nat.reduceAdd]
  done
 by_cases h4:m.ge=n.ge
 case neg=>
  have hq:q=false:=hq.trans (decide_eq_false fun e=>h4 (congrArg MgS.ge e))
  simp (maxSteps:=10^6) only[fb,fl,f0,f1,f2,f3,f4,↓Ba,gb,gl,g0,g1,g2,g3,g4,h0,h1,h2,h3,h4,hq,undef,List.append_eq,List.cons_append,List.nil_append,push_cast,↓reduceIte,reduceCtorEq,Nat.reduceEqDiff,Nat.reduceLT,Nat.reduceAdd]
  done
 by_cases h5:m.nu=n.nu
 case neg=>
  have hq:q=false:=hq.trans (decide_eq_false fun e=>h5 (congrArg MgS.nu e))
  simp (maxSteps:=10^6) only[fb,fl,f0,f1,f2,f3,f4,f5,↓Ba,gb,gl,g0,g1,g2,g3,g4,g5,h0,h1,h2,h3,h4,h5,hq,undef,List.append_eq,List.cons_append,List.nil_append,push_cast,↓reduceIte,reduceCtorEq,Nat.reduceEqDiff,Nat.reduceLT,Nat.reduceAdd]
  done
 by_cases h6:m.sm=n.sm
 case neg=>
  have hq:q=false:=hq.trans (decide_eq_false fun e=>h6 (congrArg MgS.sm e))
  simp (maxSteps:=10^6) only[fb,fl,f0,f1,f2,f3,f4,f5,fs,hfs,↓Ba,gb,gl,g0,g1,g2,g3,g4,g5,gs,hgs,h0,h1,h2,h3,h4,h5,h6,hq,undef,List.append_eq,List.cons_append,List.nil_append,push_cast,↓reduceIte,reduceCtorEq,Nat.reduceEqDiff,Nat.reduceLT,Nat.reduceLeDiff,Nat.reduceAdd]
  done
 simp (maxSteps:=10^6) only[fb,fl,f0,f1,f2,f3,f4,f5,f38,fs,↓Ba,gb,gl,g0,g1,g2,g3,g4,g5,g38,gs,hgs,SlV.val,h0,h1,h2,h3,h4,h5,h6,undef,List.append_eq,List.cons_append,List.nil_append,push_cast,↓reduceIte,reduceCtorEq,Nat.reduceEqDiff,Nat.reduceLT,Nat.reduceLeDiff,Nat.reduceAdd]
 (repeat (refine And.intro (by first|omega|decide) ?_))
 refine A8 rfl Azo rfl (A2z (a:=m.ids.l) (b:=n.ids.l) (by have:=hm.ids.few;omega) (Dq hm.ids.rd _ _ (by simp) hm.ids.len) (Dq hn.ids.rd _ _ (by simp) hn.ids.len)) (Aa rfl) ?_
 by_cases h7:m.ids.l=n.ids.l
 case neg=>
  have hq:q=false:=hq.trans (decide_eq_false fun e=>h7 (congrArg MgS.ids e))
  simp (maxSteps:=10^6) only[h7,hq,undef,push_cast,↓reduceIte,Nat.reduceEqDiff,Nat.reduceLT,Nat.reduceAdd]
  done
 simp (maxSteps:=10^6) only[fl,f39,gl,g39,SlV.val,h7,undef,push_cast,↓reduceIte,reduceCtorEq,Nat.reduceEqDiff,Nat.reduceLT,Nat.reduceAdd]
 (repeat (refine And.intro (by first|omega|decide) ?_))
 refine A8 rfl Azp rfl (A21 (a:=m.ns.l) (b:=n.ns.l) (by have:=hm.ns.few;omega) (Dq hm.ns.rd _ _ (by simp) hm.ns.len) (Dq hn.ns.rd _ _ (by simp) hn.ns.len)) (Aa rfl) ?_
 by_cases h8:m.ns.l=n.ns.l
 case neg=>
  have hq:q=false:=hq.trans (decide_eq_false fun e=>h8 (congrArg MgS.ns e))
  simp (maxSteps:=10^6) only[h8,hq,undef,push_cast,↓reduceIte,Nat.reduceEqDiff,Nat.reduceLT,Nat.reduceAdd]
  done
 simp (maxSteps:=10^6) only[fl,f40,gl,g40,SlV.val,h8,undef,push_cast,↓reduceIte,reduceCtorEq,Nat.reduceEqDiff,Nat.reduceLT,Nat.reduceAdd]
 (repeat (refine And.intro (by first|omega|decide) ?_))
 refine A8 rfl Azq rfl (A23 (a:=m.ps.l) (b:=n.ps.l) (by have:=hm.ps.few;omega) (M2 hm.ps.rd hm.ps.len) (M2 hn.ps.rd hn.ps.len)) (Aa rfl) ?_
 by_cases h9:m.ps.l=n.ps.l
 case neg=>
  have hq:q=false:=hq.trans (decide_eq_false fun e=>h9 (congrArg MgS.ps e))
  simp (maxSteps:=10^6) only[h9,hq,undef,push_cast,↓reduceIte,Nat.reduceEqDiff,Nat.reduceLT,Nat.reduceAdd]
  done
 simp (maxSteps:=10^6) only[fl,f41,gl,g41,SlV.val,h9,undef,push_cast,↓reduceIte,reduceCtorEq,Nat.reduceEqDiff,Nat.reduceLT,Nat.reduceAdd]
 (repeat (refine And.intro (by first|omega|decide) ?_))
 refine A8 rfl Azr rfl (A2w (a:=m.xs.l) (b:=n.xs.l) (by have:=hm.xs.few;omega) (Dq hm.xs.rd _ _ (by simp) hm.xs.len) (Dq hn.xs.rd _ _ (by simp) hn.xs.len)) (Aa rfl) ?_
 by_cases h10:m.xs.l=n.xs.l
 case neg=>
  have hq:q=false:=hq.trans (decide_eq_false fun e=>h10 (congrArg MgS.xs e))
  simp (maxSteps:=10^6) only[h10,hq,undef,push_cast,↓reduceIte,Nat.reduceEqDiff,Nat.reduceLT,Nat.reduceAdd]
  done
 by_cases h11:m.re=n.re
 case neg=>
  have hq:q=false:=hq.trans (decide_eq_false fun e=>h11 (congrArg MgS.re e))
  simp (maxSteps:=10^6) only[fl,f42,gl,g42,h10,h11,hq,undef,push_cast,↓reduceIte,reduceCtorEq,Nat.reduceEqDiff,Nat.reduceLT,Nat.reduceAdd]
  done
 have hq:q=true:=hq.trans (decide_eq_true (by
  unfold MgR.mg
  rw[h0,h1,h2,h3,h4,h5,h6,h7,h8,h9,h10,h11]))
 simp (maxSteps:=10^6) only[fl,f42,gl,g42,h10,h11,hq,undef,push_cast,↓reduceIte,reduceCtorEq,Nat.reduceEqDiff,Nat.reduceLT,Nat.reduceAdd]
 done
theorem Pd {w0:World} {hp:List Res} {s1 s2:Sv} {m n:MgS} (h1:Dg w0 hp s1 m) (h2:Dg w0 hp s2 n):Ad Tryd.prog w0 No 47 [s1,s2] hp (.x (.a (.v (.bool (Gc m n))))) hp:=Ca fun γ w hS=>by
 obtain⟨a,e1,a1,rfl⟩:=h1 γ w hS
 obtain⟨b,e2,b1,rfl⟩:=h2 γ w hS
 have:=A3q a b w a1 b1
 have e:List.map (Sv.val γ) [s1,s2]=List.map (Sv.val []) [.x (.g (mgA a)),.x (.g (mgA b))]:=by
  simp only[List.map_cons,List.map_nil,e1,e2,Es]
 rw[e]
 exact this
end
end Go.Proofs.YtiaeollemmkclaaDoor
/- Layer 16: msg.Check. -/
namespace Go.Proofs.YtiaeollemmkclaaDoor
open Go.RowKit
set_option linter.unusedSimpArgs false
set_option linter.unusedVariables false
def Pe:List (List UInt8):=[[99,103,110,115],[103,112],[99,103,118],[103,105,118],[99,103,120],[97,103,105,120,112,118],[97,103],[97,103,105],[97,99,103,118],[114],[105,120],[97,111,103],[103,105],[99,103],[]]
theorem Sw (k:UInt8):Aj k∈Pe:=by
 unfold Aj Hx
 by_cases h:k=1
 ·simp only[if_pos h];decide
 simp only[if_neg h];clear h
 by_cases h:k=2
 ·simp only[if_pos h];decide
 simp only[if_neg h];clear h
 by_cases h:k=3
 ·simp only[if_pos h];decide
 simp only[if_neg h];clear h
 by_cases h:k=4
 ·simp only[if_pos h];decide
 simp only[if_neg h];clear h
 by_cases h:k=5
 ·simp only[if_pos h];decide
 simp only[if_neg h];clear h
 by_cases h:k=6
 ·simp only[if_pos h];decide
 simp only[if_neg h];clear h
 by_cases h:k=7
 ·simp only[if_pos h];decide
 simp only[if_neg h];clear h
 by_cases h:k=8
 ·simp only[if_pos h];decide
 simp only[if_neg h];clear h
 by_cases h:k=9
 ·simp only[if_pos h];decide
 simp only[if_neg h];clear h
 by_cases h:k=10
 ·simp only[if_pos h];decide
 simp only[if_neg h];clear h
 by_cases h:k=11
 ·simp only[if_pos h];decide
 simp only[if_neg h];clear h
 by_cases h:k=12
 ·simp only[if_pos h];decide
 simp only[if_neg h];clear h
 by_cases h:k=13
 ·simp only[if_pos h];decide
 simp only[if_neg h];clear h
 by_cases h:k=14
 ·simp only[if_pos h];decide
 simp only[if_neg h];clear h
 by_cases h:k=15
 ·simp only[if_pos h];decide
 simp only[if_neg h];clear h
 by_cases h:k=16
 ·simp only[if_pos h];decide
 simp only[if_neg h];clear h
 by_cases h:k=17
 ·simp only[if_pos h];decide
 simp only[if_neg h];clear h
 by_cases h:k=18
 ·simp only[if_pos h];decide
 simp only[if_neg h];clear h
 by_cases h:k=19
 ·simp only[if_pos h];decide
 simp only[if_neg h];clear h
 decide
theorem A3r (k:UInt8):∀c∈Aj k,c.toNat < 128:=by
 have h:∀l∈Pe,∀c∈l,c.toNat < 128:=by decide
 exact h _ (Sw k)
theorem Wd {k:UInt8} {i:Nat} (h:i < (Ah k).size):Utf8.decode (Ah k) i=((ix (Aj k) i).toNat,1):=by
 have hl:i < (Aj k).length:=h
 have e:(Ah k)[i]'h=ix (Aj k) i:=by
  show (Aj k).toArray[i]=_
  rw[ix,List.getD_eq_getElem?_getD,List.getElem?_eq_getElem hl]
  rfl
 have h2:((Ah k)[i]'h).toNat < 128:=by
  rw[e,ix,List.getD_eq_getElem?_getD,List.getElem?_eq_getElem hl]
  exact A3r k _ (List.getElem_mem hl)
 rw[Go.decode_ascii _ i h h2,e]
theorem Sx {k:UInt8} {i:Nat} (h:i < (Ah k).size):(Aj k).drop i=ix (Aj k) i::(Aj k).drop (i+1):=by
 have hl:i < (Aj k).length:=h
 rw[List.drop_eq_getElem_cons hl,ix,List.getD_eq_getElem?_getD,List.getElem?_eq_getElem hl]
 rfl
theorem A3s (k:UInt8):((Ah k).toList==({data:=#[]}:ByteArray).toList)=decide (Aj k=[]):=by
 rw[ByteArray.toList_eq,ByteArray.toList_eq]
 show (Aj k==[])=decide (Aj k=[])
 cases Aj k<;>simp
theorem Ji (k:UInt8):(Ah k).size=(Aj k).length:=rfl
theorem A3t {m:MgR} (h:m.sm.length=32):(mgA m).set 0 (.v (.int .u8 0))=mgA {m with k:=0}:=rfl
theorem A3u (r:MgR):Gc r.mg zeroR.mg=decide (r.mg=Bt):=rfl
theorem Ab5 (w:World):zeroR.Ok w:=⟨rfl,SlV.ok0 rfl,SlV.ok0 rfl,SlV.ok0 rfl,SlV.ok0 rfl⟩
attribute [local irreducible] Af Ad Av Bh Bf A6 Aw A9
attribute [local irreducible] mgA wiM B6 may chI okV Fi Ah Gc Gu
section
set_option maxRecDepth 100000 in
set_option maxHeartbeats 2000000 in
theorem A3v (m:MgR) (w:World) (hm:m.Ok w):Calls Tryd.prog 43 (List.map (Sv.val []) [.x (.g (mgA m))]).toArray w fun e w'=>e=.returned (okV (Cc m.mg) 1)∧Below w.heap.size w w':=by
 obtain⟨Q,hQ⟩:∃Q,Q=Cc m.mg:=⟨_,rfl⟩
 rw[←hQ]
 refine By (n:=33) Tryd.func43 rfl Tryd.ntmps43 [.x (.g (mgA m))] (by simp) (.x (.a (.v (okV Q 1)))) (fun _=>rfl) ?_
 have f0:=(Dw hm.s).1
 have fl:=Cj hm.s
 have fb:=fun n=>Co m n
 have hT:=M9 1
 have hF:=Kc 1
 have sk:=A3t hm.s
 obtain⟨m0,hm0⟩:∃m0:MgR,m0={m with k:=0}:=⟨_,rfl⟩
 have m0ok:m0.Ok w:=by rw[hm0];exact⟨hm.s,hm.ids,hm.ns,hm.ps,hm.xs⟩
 have m0l:(mgA m0).length=43:=Cj m0ok.s
 rw[←hm0] at sk
 have ql:∀a:MgR,a.sm.length=32→(mgA a).length=43:=fun a h=>Cj h
 have qb:=fun (a:MgR) n=>Co a n
 simp only[At.bnd] at fb qb
 have hfk:Aj m.mg.k=Aj m.k:=rfl
 have hn:=A3s m.k
 unfold Cc at hQ
 rw[hfk] at hQ
 simp (maxSteps:=10^6) only[fb,fl,f0,↓Ba,undef,push_cast,↓reduceIte,reduceCtorEq,Nat.reduceEqDiff,Nat.reduceLT]
 (repeat (refine And.intro (by first|omega|decide) ?_))
 refine A8 rfl J8 rfl (Ke m.k) (Aa rfl) ?_
 by_cases h0:Aj m.k=[]
 ·rw[if_pos h0] at hQ
  rw[decide_eq_true h0] at hn
  simp (maxSteps:=10^6) only[hn,hQ,hF,push_cast,↓reduceIte,Nat.reduceLT]
  done
 rw[if_neg h0] at hQ
 rw[decide_eq_false h0] at hn
 have hQ:Q=Je m.mg (Aj m.k) m0.mg:=by rw[hm0];exact hQ
 simp (maxSteps:=10^6) only[hn,fb,fl,Aq,Cv,B4,B5,qb,sk,undef,push_cast,↓reduceIte,reduceCtorEq,Nat.reduceEqDiff,Nat.reduceLT,Nat.reduceAdd]
 refine⟨of_eq_true (C1 _ _),?_⟩
 (repeat (refine And.intro (by first|omega|decide) ?_))
 refine Bu (ι:=Nat×MgR) (fun x=>⟨[(1,.x (.a (.p 0 0))),(4,.x (.a (.p 1 0))),(16,.x (.a (.p 2 0)))],[.blk 89 (.c (mgA m)),.blk 89 (.c (mgA x.2)),.it (Ah m.k) x.1]⟩)
  (fun x=>x.1≤(Ah m.k).size∧x.2.Ok w∧Q=Je m.mg ((Aj m.k).drop x.1) x.2.mg) (fun x=>(Ah m.k).size - x.1) (0,m0) [0,1,2] ⟨Nat.zero_le _,m0ok,hQ⟩ ?_ ?_
 ·simp (maxSteps:=10^6) only[fb,↓Ak,qb,push_cast,↓reduceIte,reduceCtorEq,Nat.reduceEqDiff,Nat.reduceLT,Nat.reduceAdd]
 rintro⟨i,r⟩ ⟨hi,hr,hg⟩
 have rl:=Cj hr.s
 by_cases hlt:i < (Ah m.k).size
 ·have hd:=Wd hlt
  rw[Sx hlt,Je] at hg
  generalize ix (Aj m.k) i=c at*
  have hcc:((c.toNat:Nat):Int)=chI c:=by unfold chI;rfl
  simp (maxSteps:=10^6) only[fl,hlt,hd,hcc,push_cast,↓reduceIte,Nat.reduceEqDiff,Nat.reduceLT,Nat.reduceAdd]
  (repeat (refine And.intro (by first|omega|decide) ?_))
  refine A8 rfl Azm rfl (A3l c (Dh hm)) (Aa rfl) ?_
  cases hy:Gu m.mg c with
  |false=>
   rw[hy,if_neg (by decide)] at hg
   simp (maxSteps:=10^6) only[hg,hF,push_cast,↓reduceIte,Nat.reduceLT,Nat.reduceAdd]
   done
  |true=>
   rw[hy,if_pos rfl] at hg
   have wok:=A3n hr c
   have wl:=Cj wok.s
   simp (maxSteps:=10^6) only[rl,push_cast,↓reduceIte,Nat.reduceEqDiff,Nat.reduceLT,Nat.reduceAdd]
   (repeat (refine And.intro (by first|omega|decide) ?_))
   refine A8 rfl Azn rfl (A3p c hr) (Aa rfl) ?_
   simp (maxSteps:=10^6) only[rl,wl,undef,push_cast,↓reduceIte,Nat.reduceEqDiff,Nat.reduceLT,Nat.reduceAdd]
   refine⟨of_eq_true (C1 _ _),?_⟩
   (repeat (refine And.intro (by first|omega|decide) ?_))
   refine Bd (i+1,Jh r c) [0,1,2] ⟨by omega,wok,by rw[A3m];exact hg⟩ (by omega) ?_
   simp (maxSteps:=10^6) only[fb,↓Ak,qb,push_cast,↓reduceIte,reduceCtorEq,Nat.reduceEqDiff,Nat.reduceLT,Nat.reduceAdd]
 ·obtain rfl:i=(Ah m.k).size:=by omega
  rw[show (Aj m.k).drop (Ah m.k).size=[] from List.drop_of_length_le (by rw[Ji];exact Nat.le_refl _),Je] at hg
  simp (maxSteps:=10^6) only[rl,Aq,Cv,B4,hlt,push_cast,↓reduceIte,reduceCtorEq,Nat.reduceEqDiff,Nat.reduceLT,Nat.reduceAdd]
  (repeat (refine And.intro (by first|omega|decide) ?_))
  refine A8 rfl Ou rfl (Pd (Dh hr) (Dh (Ab5 w))) (Aa rfl) ?_
  have hg:Q=Gc r.mg zeroR.mg:=hg.trans (A3u r).symm
  rw[←hg]
  cases Q with
  |true=>
   simp (maxSteps:=10^6) only[hT,push_cast,↓reduceIte,Nat.reduceLT,Nat.reduceAdd]
   done
  |false=>
   simp (maxSteps:=10^6) only[hF,push_cast,↓reduceIte,Nat.reduceLT,Nat.reduceAdd]
   done
theorem Lw {w0:World} {hp:List Res} {s:Sv} {m:MgS} (h:Dg w0 hp s m):Ad Tryd.prog w0 No 43 [s] hp (.x (.a (.v (okV (Cc m) 1)))) hp:=Ca fun γ w hS=>by
 obtain⟨a,e,h1,rfl⟩:=h γ w hS
 have e:List.map (Sv.val γ) [s]=List.map (Sv.val []) [.x (.g (mgA a))]:=by
  simp only[List.map_cons,List.map_nil,e,Es]
 rw[e]
 exact A3v a w h1
end
end Go.Proofs.YtiaeollemmkclaaDoor
