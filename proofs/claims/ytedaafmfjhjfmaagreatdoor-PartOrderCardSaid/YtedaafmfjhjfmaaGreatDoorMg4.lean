import Derived.Test.YtedaafmfjhjfmaaGreatDoorMg2
/- Layer 16: msg.Same, msg.Check. -/
namespace Go.Proofs.YtedaafmfjhjfmaaGreatDoor
open Go.RowKit
set_option linter.unusedSimpArgs false
set_option linter.unusedVariables false
attribute [local irreducible] Ad Ae Ah Ar Ak Am Ai Al
attribute [local irreducible] mgA wiM Bm may chI okV Gv
def Hr (m n:MgS):Bool:=decide (m=n)
theorem A2u {m n:MgS}:Hr m n=true↔m=n:=decide_eq_true_iff
section
set_option maxRecDepth 100000 in
set_option maxHeartbeats 4000000 in
theorem Aaq (m n:MgR) (w:World) (hm:m.Ok w) (hn:n.Ok w):Calls Tryz.prog 18 (List.map (Sv.val []) [.x (.g (mgA m)),.x (.g (mgA n))]).toArray w fun e w'=>e=.returned (.bool (Hr m.mg n.mg))∧Below w.heap.size w w':=by
 obtain⟨q,hq⟩:∃q,q=Hr m.mg n.mg:=⟨_,rfl⟩
 rw[←hq]
 refine Ba (n:=87) Tryz.func18 rfl Tryz.ntmps18 [.x (.g (mgA m)),.x (.g (mgA n))] (by simp) (.x (.a (.v (.bool q)))) (fun _=>rfl) ?_
 obtain⟨f0,f1,f2,f3,f4,f5,f38,f39,f40,f41,f42⟩:=Dc hm.s
 obtain⟨g0,g1,g2,g3,g4,g5,g38,g39,g40,g41,g42⟩:=Dc hn.s
 have fl:=Bo hm.s
 have gl:=Bo hn.s
 have fs:=P7 hm.s
 have gs:=P7 hn.s
 have hfs:=hm.s
 have hgs:=hn.s
 have fb:=fun n=>Cs m n
 have gb:=fun k=>Cs n k
 simp only[At.bnd] at fb gb
 have hU:∀x y:UInt64,(n64 x=n64 y)=(x=y):=fun x y=>propext ⟨fun h=>UInt64.toNat_inj.1 (Int.ofNat_inj.1 h),fun h=>by rw[h]⟩
 by_cases h0:m.k=n.k
 case neg=>
  have hq:q=false:=hq.trans (decide_eq_false fun e=>h0 (congrArg MgS.k e))
  simp (maxSteps:=10^6) only[fb,fl,f0,↓A9,gb,gl,g0,h0,hq,undef,List.append_eq,List.cons_append,List.nil_append,push_cast,↓reduceIte,reduceCtorEq,Nat.reduceEqDiff,Nat.reduceLT,Nat.reduceAdd]
  done
 by_cases h1:m.pl=n.pl
 case neg=>
  have hq:q=false:=hq.trans (decide_eq_false fun e=>h1 (congrArg MgS.pl e))
  simp (maxSteps:=10^6) only[fb,fl,f0,f1,↓A9,gb,gl,g0,g1,h0,h1,hq,undef,List.append_eq,List.cons_append,List.nil_append,push_cast,↓reduceIte,reduceCtorEq,Nat.reduceEqDiff,Nat.reduceLT,Nat.reduceAdd]
  done
 by_cases h2:m.ot=n.ot
 case neg=>
  have hq:q=false:=hq.trans (decide_eq_false fun e=>h2 (congrArg MgS.ot e))
  simp (maxSteps:=10^6) only[fb,fl,f0,f1,f2,↓A9,gb,gl,g0,g1,g2,h0,h1,h2,hq,undef,List.append_eq,List.cons_append,List.nil_append,push_cast,↓reduceIte,reduceCtorEq,Nat.reduceEqDiff,Nat.reduceLT,Nat.reduceAdd]
  done
 by_cases h3:m.cl=n.cl
 case neg=>
  have hq:q=false:=hq.trans (decide_eq_false fun e=>h3 (congrArg MgS.cl e))
  simp (maxSteps:=10^6) only[fb,fl,f0,f1,f2,f3,↓A9,gb,gl,g0,g1,g2,g3,h0,h1,h2,h3,hq,undef,List.append_eq,List.cons_append,List.nil_append,push_cast,↓reduceIte,reduceCtorEq,Nat.reduceEqDiff,Nat.reduceLT,Nat.reduceAdd]
  done
 by_cases h4:m.ge=n.ge
 case neg=>
  have hq:q=false:=hq.trans (decide_eq_false fun e=>h4 (congrArg MgS.ge e))
  simp (maxSteps:=10^6) only[fb,fl,f0,f1,f2,f3,f4,↓A9,gb,gl,g0,g1,g2,g3,g4,h0,h1,h2,h3,h4,hq,undef,List.append_eq,List.cons_append,List.nil_append,push_cast,↓reduceIte,reduceCtorEq,Nat.reduceEqDiff,Nat.reduceLT,Nat.reduceAdd]
  done
 by_cases h5:m.nu=n.nu
 case neg=>
  have hq:q=false:=hq.trans (decide_eq_false fun e=>h5 (congrArg MgS.nu e))
  simp (maxSteps:=10^6) only[fb,fl,f0,f1,f2,f3,f4,f5,↓A9,gb,gl,g0,g1,g2,g3,g4,g5,h0,h1,h2,h3,h4,h5,hq,undef,List.append_eq,List.cons_append,List.nil_append,push_cast,↓reduceIte,reduceCtorEq,Nat.reduceEqDiff,Nat.reduceLT,Nat.reduceAdd]
  done
 by_cases h6:m.sm=n.sm
 case neg=>
  have hq:q=false:=hq.trans (decide_eq_false fun e=>h6 (congrArg MgS.sm e))
  simp (maxSteps:=10^6) only[fb,fl,f0,f1,f2,f3,f4,f5,fs,hfs,↓A9,gb,gl,g0,g1,g2,g3,g4,g5,gs,hgs,h0,h1,h2,h3,h4,h5,h6,hq,undef,List.append_eq,List.cons_append,List.nil_append,push_cast,↓reduceIte,reduceCtorEq,Nat.reduceEqDiff,Nat.reduceLT,Nat.reduceLeDiff,Nat.reduceAdd]
  done
 simp (maxSteps:=10^6) only[fb,fl,f0,f1,f2,f3,f4,f5,f38,fs,↓A9,gb,gl,g0,g1,g2,g3,g4,g5,g38,gs,hgs,SlV.val,h0,h1,h2,h3,h4,h5,h6,undef,List.append_eq,List.cons_append,List.nil_append,push_cast,↓reduceIte,reduceCtorEq,Nat.reduceEqDiff,Nat.reduceLT,Nat.reduceLeDiff,Nat.reduceAdd]
 (repeat (refine And.intro (by first|omega|decide) ?_))
 refine Aq rfl Av1 rfl (A13 (a:=m.ids.l) (b:=n.ids.l) (by have:=hm.ids.few;omega) (Ci hm.ids.rd _ _ (by simp) hm.ids.len) (Ci hn.ids.rd _ _ (by simp) hn.ids.len)) (Af rfl) ?_
 by_cases h7:m.ids.l=n.ids.l
 case neg=>
  have hq:q=false:=hq.trans (decide_eq_false fun e=>h7 (congrArg MgS.ids e))
  simp (maxSteps:=10^6) only[h7,hq,undef,push_cast,↓reduceIte,Nat.reduceEqDiff,Nat.reduceLT,Nat.reduceAdd]
  done
 simp (maxSteps:=10^6) only[fl,f39,gl,g39,SlV.val,h7,undef,push_cast,↓reduceIte,reduceCtorEq,Nat.reduceEqDiff,Nat.reduceLT,Nat.reduceAdd]
 (repeat (refine And.intro (by first|omega|decide) ?_))
 refine Aq rfl Av2 rfl (A15 (a:=m.ns.l) (b:=n.ns.l) (by have:=hm.ns.few;omega) (Ci hm.ns.rd _ _ (by simp) hm.ns.len) (Ci hn.ns.rd _ _ (by simp) hn.ns.len)) (Af rfl) ?_
 by_cases h8:m.ns.l=n.ns.l
 case neg=>
  have hq:q=false:=hq.trans (decide_eq_false fun e=>h8 (congrArg MgS.ns e))
  simp (maxSteps:=10^6) only[h8,hq,undef,push_cast,↓reduceIte,Nat.reduceEqDiff,Nat.reduceLT,Nat.reduceAdd]
  done
 simp (maxSteps:=10^6) only[fl,f40,gl,g40,SlV.val,h8,undef,push_cast,↓reduceIte,reduceCtorEq,Nat.reduceEqDiff,Nat.reduceLT,Nat.reduceAdd]
 (repeat (refine And.intro (by first|omega|decide) ?_))
 refine Aq rfl Av3 rfl (A17 (a:=m.ps.l) (b:=n.ps.l) (by have:=hm.ps.few;omega) (Il hm.ps.rd hm.ps.len) (Il hn.ps.rd hn.ps.len)) (Af rfl) ?_
 by_cases h9:m.ps.l=n.ps.l
 case neg=>
  have hq:q=false:=hq.trans (decide_eq_false fun e=>h9 (congrArg MgS.ps e))
  simp (maxSteps:=10^6) only[h9,hq,undef,push_cast,↓reduceIte,Nat.reduceEqDiff,Nat.reduceLT,Nat.reduceAdd]
  done
 simp (maxSteps:=10^6) only[fl,f41,gl,g41,SlV.val,h9,undef,push_cast,↓reduceIte,reduceCtorEq,Nat.reduceEqDiff,Nat.reduceLT,Nat.reduceAdd]
 (repeat (refine And.intro (by first|omega|decide) ?_))
 refine Aq rfl Av0 rfl (A0l (a:=m.xs.l) (b:=n.xs.l) (by have:=hm.xs.few;omega) (Ci hm.xs.rd _ _ (by simp) hm.xs.len) (Ci hn.xs.rd _ _ (by simp) hn.xs.len)) (Af rfl) ?_
 by_cases h10:m.xs.l=n.xs.l
 case neg=>
  have hq:q=false:=hq.trans (decide_eq_false fun e=>h10 (congrArg MgS.xs e))
  simp (maxSteps:=10^6) only[h10,hq,undef,push_cast,↓reduceIte,Nat.reduceEqDiff,Nat.reduceLT,Nat.reduceAdd]
  done
 by_cases h11:m.re=n.re
 case neg=>
  have hq:q=false:=hq.trans (decide_eq_false fun e=>h11 (congrArg MgS.re e))
  simp (maxSteps:=10^6) only[fl,f42,gl,g42,h10,h11,hq,undef,push_cast,↓reduceIte,reduceCtorEq,Nat.reduceEqDiff,Nat.reduceLT,Nat.reduceAdd]
  done
 have hq:q=true:=hq.trans (decide_eq_true (by
  unfold MgR.mg
  rw[h0,h1,h2,h3,h4,h5,h6,h7,h8,h9,h10,h11]))
 simp (maxSteps:=10^6) only[fl,f42,gl,g42,h10,h11,hq,undef,push_cast,↓reduceIte,reduceCtorEq,Nat.reduceEqDiff,Nat.reduceLT,Nat.reduceAdd]
 done
theorem A2v {w0:World} {hp:List Res} {s1 s2:Sv} {m n:MgS} (h1:Mr w0 hp s1 m) (h2:Mr w0 hp s2 n):Ae Tryz.prog w0 No 18 [s1,s2] hp (.x (.a (.v (.bool (Hr m n))))) hp:=A8 fun γ w hS=>by
 obtain⟨a,e1,a1,rfl⟩:=h1 γ w hS
 obtain⟨b,e2,b1,rfl⟩:=h2 γ w hS
 have:=Aaq a b w a1 b1
 have e:List.map (Sv.val γ) [s1,s2]=List.map (Sv.val []) [.x (.g (mgA a)),.x (.g (mgA b))]:=by
  simp only[List.map_cons,List.map_nil,e1,e2,Bc]
 rw[e]
 exact this
end
end Go.Proofs.YtedaafmfjhjfmaaGreatDoor
/- Layer 16: msg.Check. -/
namespace Go.Proofs.YtedaafmfjhjfmaaGreatDoor
open Go.RowKit
set_option linter.unusedSimpArgs false
set_option linter.unusedVariables false
def Aar:List (List UInt8):=[[99,103,110,115],[103,112],[99,103,118],[103,105,118],[99,103,120],[97,103,105,120,112,118],[97,103],[97,103,105],[97,99,103,118],[114],[105,120],[97,111,103],[103,105],[99,103],[]]
theorem A2w (k:UInt8):Bn k∈Aar:=by
 unfold Bn K6
 by_cases h:k=1
 ·simp only[if_pos h];decide
 simp only[if_neg h];clear h
 by_cases h:k=2
 ·simp only[if_pos h];decide
 simp only[if_neg h];clear h
 by_cases h:k=3
 ·simp only[if_pos h];decide
 simp only[if_neg h];clear h
 by_cases h:k=4
 ·simp only[if_pos h];decide
 simp only[if_neg h];clear h
 by_cases h:k=5
 ·simp only[if_pos h];decide
 simp only[if_neg h];clear h
 by_cases h:k=6
 ·simp only[if_pos h];decide
 simp only[if_neg h];clear h
 by_cases h:k=7
 ·simp only[if_pos h];decide
 simp only[if_neg h];clear h
 by_cases h:k=8
 ·simp only[if_pos h];decide
 simp only[if_neg h];clear h
 by_cases h:k=9
 ·simp only[if_pos h];decide
 simp only[if_neg h];clear h
 by_cases h:k=10
 ·simp only[if_pos h];decide
 simp only[if_neg h];clear h
 by_cases h:k=11
 ·simp only[if_pos h];decide
 simp only[if_neg h];clear h
 by_cases h:k=12
 ·simp only[if_pos h];decide
 simp only[if_neg h];clear h
 by_cases h:k=13
 ·simp only[if_pos h];decide
 simp only[if_neg h];clear h
 by_cases h:k=14
 ·simp only[if_pos h];decide
 simp only[if_neg h];clear h
 by_cases h:k=15
 ·simp only[if_pos h];decide
 simp only[if_neg h];clear h
 by_cases h:k=16
 ·simp only[if_pos h];decide
 simp only[if_neg h];clear h
 by_cases h:k=17
 ·simp only[if_pos h];decide
 simp only[if_neg h];clear h
 by_cases h:k=18
 ·simp only[if_pos h];decide
 simp only[if_neg h];clear h
 by_cases h:k=19
 ·simp only[if_pos h];decide
 simp only[if_neg h];clear h
 decide
theorem A2x (k:UInt8):∀c∈Bn k,c.toNat < 128:=by
 have h:∀l∈Aar,∀c∈l,c.toNat < 128:=by decide
 exact h _ (A2w k)
theorem A2y {k:UInt8} {i:Nat} (h:i < (Dm k).size):Utf8.decode (Dm k) i=((ix (Bn k) i).toNat,1):=by
 have hl:i < (Bn k).length:=h
 have e:(Dm k)[i]'h=ix (Bn k) i:=by
  show (Bn k).toArray[i]=_
  rw[ix,List.getD_eq_getElem?_getD,List.getElem?_eq_getElem hl]
  rfl
 have h2:((Dm k)[i]'h).toNat < 128:=by
  rw[e,ix,List.getD_eq_getElem?_getD,List.getElem?_eq_getElem hl]
  exact A2x k _ (List.getElem_mem hl)
 rw[Go.decode_ascii _ i h h2,e]
theorem A2z {k:UInt8} {i:Nat} (h:i < (Dm k).size):(Bn k).drop i=ix (Bn k) i::(Bn k).drop (i+1):=by
 have hl:i < (Bn k).length:=h
 rw[List.drop_eq_getElem_cons hl,ix,List.getD_eq_getElem?_getD,List.getElem?_eq_getElem hl]
 rfl
theorem A20 (k:UInt8):((Dm k).toList==({data:=#[]}:ByteArray).toList)=decide (Bn k=[]):=by
 rw[ByteArray.toList_eq,ByteArray.toList_eq]
 show (Bn k==[])=decide (Bn k=[])
 cases Bn k<;>simp
theorem A21 (k:UInt8):(Dm k).size=(Bn k).length:=rfl
theorem A22 {m:MgR} (h:m.sm.length=32):(mgA m).set 0 (.v (.int .u8 0))=mgA {m with k:=0}:=rfl
theorem A23 (r:MgR):Hr r.mg zeroR.mg=decide (r.mg=Fq):=rfl
theorem A24 (w:World):zeroR.Ok w:=⟨rfl,SlV.ok0 rfl,SlV.ok0 rfl,SlV.ok0 rfl,SlV.ok0 rfl⟩
attribute [local irreducible] Ad Ae Ah Ar Ak Am Ai Al
attribute [local irreducible] mgA wiM Bm may chI okV Gv Dm Hr Gx
section
set_option maxRecDepth 100000 in
set_option maxHeartbeats 2000000 in
theorem A25 (m:MgR) (w:World) (hm:m.Ok w):Calls Tryz.prog 55 (List.map (Sv.val []) [.x (.g (mgA m))]).toArray w fun e w'=>e=.returned (okV (Cj m.mg) 1)∧Below w.heap.size w w':=by
 obtain⟨Q,hQ⟩:∃Q,Q=Cj m.mg:=⟨_,rfl⟩
 rw[←hQ]
 refine Ba (n:=33) Tryz.func55 rfl Tryz.ntmps55 [.x (.g (mgA m))] (by simp) (.x (.a (.v (okV Q 1)))) (fun _=>rfl) ?_
 have f0:=(Dc hm.s).1
 have fl:=Bo hm.s
 have fb:=fun n=>Cs m n
 have hT:=Hl 1
 have hF:=Hm 1
 have sk:=A22 hm.s
 obtain⟨m0,hm0⟩:∃m0:MgR,m0={m with k:=0}:=⟨_,rfl⟩
 have m0ok:m0.Ok w:=by rw[hm0];exact⟨hm.s,hm.ids,hm.ns,hm.ps,hm.xs⟩
 have m0l:(mgA m0).length=43:=Bo m0ok.s
 rw[←hm0] at sk
 have ql:∀a:MgR,a.sm.length=32→(mgA a).length=43:=fun a h=>Bo h
 have qb:=fun (a:MgR) n=>Cs a n
 simp only[At.bnd] at fb qb
 have hfk:Bn m.mg.k=Bn m.k:=rfl
 have hn:=A20 m.k
 unfold Cj at hQ
 rw[hfk] at hQ
 simp (maxSteps:=10^6) only[fb,fl,f0,↓A9,undef,push_cast,↓reduceIte,reduceCtorEq,Nat.reduceEqDiff,Nat.reduceLT]
 (repeat (refine And.intro (by first|omega|decide) ?_))
 refine Aq rfl Awg rfl (Azi m.k) (Af rfl) ?_
 by_cases h0:Bn m.k=[]
 ·rw[if_pos h0] at hQ
  rw[decide_eq_true h0] at hn
  simp (maxSteps:=10^6) only[hn,hQ,hF,push_cast,↓reduceIte,Nat.reduceLT]
  done
 rw[if_neg h0] at hQ
 rw[decide_eq_false h0] at hn
 have hQ:Q=Hk m.mg (Bn m.k) m0.mg:=by rw[hm0];exact hQ
 simp (maxSteps:=10^6) only[hn,fb,fl,B6,Cq,B9,Ck,qb,sk,undef,push_cast,↓reduceIte,reduceCtorEq,Nat.reduceEqDiff,Nat.reduceLT,Nat.reduceAdd]
 refine⟨of_eq_true (Cp _ _),?_⟩
 (repeat (refine And.intro (by first|omega|decide) ?_))
 refine Bh (ι:=Nat×MgR) (fun x=>⟨[(1,.x (.a (.p 0 0))),(4,.x (.a (.p 1 0))),(16,.x (.a (.p 2 0)))],[.blk 48 (.c (mgA m)),.blk 48 (.c (mgA x.2)),.it (Dm m.k) x.1]⟩)
  (fun x=>x.1≤(Dm m.k).size∧x.2.Ok w∧Q=Hk m.mg ((Bn m.k).drop x.1) x.2.mg) (fun x=>(Dm m.k).size - x.1) (0,m0) [0,1,2] ⟨Nat.zero_le _,m0ok,hQ⟩ ?_ ?_
 ·simp (maxSteps:=10^6) only[fb,↓A7,qb,push_cast,↓reduceIte,reduceCtorEq,Nat.reduceEqDiff,Nat.reduceLT,Nat.reduceAdd]
 rintro⟨i,r⟩ ⟨hi,hr,hg⟩
 have rl:=Bo hr.s
 by_cases hlt:i < (Dm m.k).size
 ·have hd:=A2y hlt
  rw[A2z hlt,Hk] at hg
  generalize ix (Bn m.k) i=c at*
  have hcc:((c.toNat:Nat):Int)=chI c:=by unfold chI;rfl
  simp (maxSteps:=10^6) only[fl,hlt,hd,hcc,push_cast,↓reduceIte,Nat.reduceEqDiff,Nat.reduceLT,Nat.reduceAdd]
  (repeat (refine And.intro (by first|omega|decide) ?_))
  refine Aq rfl Awh rfl (A2p c (Qb hm)) (Af rfl) ?_
  cases hy:Gx m.mg c with
  |false=>
   rw[hy,if_neg (by decide)] at hg
   simp (maxSteps:=10^6) only[hg,hF,push_cast,↓reduceIte,Nat.reduceLT,Nat.reduceAdd]
   done
  |true=>
   rw[hy,if_pos rfl] at hg
   have wok:=A2r hr c
   have wl:=Bo wok.s
   simp (maxSteps:=10^6) only[rl,push_cast,↓reduceIte,Nat.reduceEqDiff,Nat.reduceLT,Nat.reduceAdd]
   (repeat (refine And.intro (by first|omega|decide) ?_))
   refine Aq rfl Awi rfl (A2t c hr) (Af rfl) ?_
   simp (maxSteps:=10^6) only[rl,wl,undef,push_cast,↓reduceIte,Nat.reduceEqDiff,Nat.reduceLT,Nat.reduceAdd]
   refine⟨of_eq_true (Cp _ _),?_⟩
   (repeat (refine And.intro (by first|omega|decide) ?_))
   refine Be (i+1,Hq r c) [0,1,2] ⟨by omega,wok,by rw[A2q];exact hg⟩ (by omega) ?_
   simp (maxSteps:=10^6) only[fb,↓A7,qb,push_cast,↓reduceIte,reduceCtorEq,Nat.reduceEqDiff,Nat.reduceLT,Nat.reduceAdd]
 ·obtain rfl:i=(Dm m.k).size:=by omega
  rw[show (Bn m.k).drop (Dm m.k).size=[] from List.drop_of_length_le (by rw[A21];exact Nat.le_refl _),Hk] at hg
  simp (maxSteps:=10^6) only[rl,B6,Cq,B9,hlt,push_cast,↓reduceIte,reduceCtorEq,Nat.reduceEqDiff,Nat.reduceLT,Nat.reduceAdd]
  (repeat (refine And.intro (by first|omega|decide) ?_))
  refine Aq rfl X5 rfl (A2v (Qb hr) (Qb (A24 w))) (Af rfl) ?_
  have hg:Q=Hr r.mg zeroR.mg:=hg.trans (A23 r).symm
  rw[←hg]
  cases Q with
  |true=>
   simp (maxSteps:=10^6) only[hT,push_cast,↓reduceIte,Nat.reduceLT,Nat.reduceAdd]
   done
  |false=>
   simp (maxSteps:=10^6) only[hF,push_cast,↓reduceIte,Nat.reduceLT,Nat.reduceAdd]
   done
theorem A26 {w0:World} {hp:List Res} {s:Sv} {m:MgS} (h:Mr w0 hp s m):Ae Tryz.prog w0 No 55 [s] hp (.x (.a (.v (okV (Cj m) 1)))) hp:=A8 fun γ w hS=>by
 obtain⟨a,e,h1,rfl⟩:=h γ w hS
 have e:List.map (Sv.val γ) [s]=List.map (Sv.val []) [.x (.g (mgA a))]:=by
  simp only[List.map_cons,List.map_nil,e,Bc]
 rw[e]
 exact A25 a w h1
end
end Go.Proofs.YtedaafmfjhjfmaaGreatDoor
