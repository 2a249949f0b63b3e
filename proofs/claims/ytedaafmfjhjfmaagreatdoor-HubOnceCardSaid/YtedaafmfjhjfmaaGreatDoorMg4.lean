import Derived.Test.YtedaafmfjhjfmaaGreatDoorMg2
/- Layer 16: msg.Same, msg.Check. -/
namespace Go.Proofs.YtedaafmfjhjfmaaGreatDoor
open _root_.Go.Proofs.Tryz
open Go.RowKit
set_option linter.unusedSimpArgs false
set_option linter.unusedVariables false
section
attribute [local irreducible] Ac Ad Ah Au Ao Aj Ai Al
attribute [local irreducible] mgA wiM Bn may chI okV H5
def J1 (m n:MgS):Bool:=decide (m=n)
section
set_option maxRecDepth 100000 in
set_option maxHeartbeats 4000000 in
theorem Adm (m n:MgR) (w:World) (hm:m.Ok w) (hn:n.Ok w):Calls prog 18 (List.map (Sv.val []) [.x (.g (mgA m)),.x (.g (mgA n))]).toArray w fun e w'=>e=.returned (.bool (J1 m.mg n.mg))∧Below w.heap.size w w':=by
 obtain⟨q,hq⟩:∃q,q=J1 m.mg n.mg:=⟨_,rfl⟩
 rw[←hq]
 refine Bf (n:=87) func18 rfl ntmps18 [.x (.g (mgA m)),.x (.g (mgA n))] (by simp) (.x (.a (.v (.bool q)))) (fun _=>rfl) ?_
 obtain⟨f0,f1,f2,f3,f4,f5,f38,f39,f40,f41,f42⟩:=C8 hm.s
 obtain⟨g0,g1,g2,g3,g4,g5,g38,g39,g40,g41,g42⟩:=C8 hn.s
 have fl:=Bd hm.s
 have gl:=Bd hn.s
 have fs:=R7 hm.s
 have gs:=R7 hn.s
 have hfs:=hm.s
 have hgs:=hn.s
 have fb:=fun n=>Bm m n
 have gb:=fun k=>Bm n k
 simp only[At.bnd] at fb gb
 have hU:∀x y:UInt64,(n64 x=n64 y)=(x=y):=fun x y=>propext ⟨fun h=>UInt64.toNat_inj.1 (Int.ofNat_inj.1 h),fun h=>by rw[h]⟩
 by_cases h0:m.k=n.k
 case neg=>
  have hq:q=false:=hq.trans (decide_eq_false fun e=>h0 (congrArg MgS.k e))
  simp (maxSteps:=10^6) only[fb,fl,f0,↓Be,gb,gl,g0,h0,hq,undef,List.append_eq,List.cons_append,List.nil_append,push_cast,↓reduceIte,reduceCtorEq,Nat.reduceEqDiff,Nat.reduceLT,Nat.reduceAdd]
  done
 by_cases h1:m.pl=n.pl
 case neg=>
  have hq:q=false:=hq.trans (decide_eq_false fun e=>h1 (congrArg MgS.pl e))
  simp (maxSteps:=10^6) only[fb,fl,f0,f1,↓Be,gb,gl,g0,g1,h0,h1,hq,undef,List.append_eq,List.cons_append,List.nil_append,push_cast,↓reduceIte,reduceCtorEq,Nat.reduceEqDiff,Nat.reduceLT,Nat.reduceAdd]
  done
 by_cases h2:m.ot=n.ot
 case neg=>
  have hq:q=false:=hq.trans (decide_eq_false fun e=>h2 (congrArg MgS.ot e))
  simp (maxSteps:=10^6) only[fb,fl,f0,f1,f2,↓Be,gb,gl,g0,g1,g2,h0,h1,h2,hq,undef,List.append_eq,List.cons_append,List.nil_append,push_cast,↓reduceIte,reduceCtorEq,Nat.reduceEqDiff,Nat.reduceLT,Nat.reduceAdd]
  done
 by_cases h3:m.cl=n.cl
 case neg=>
  have hq:q=false:=hq.trans (decide_eq_false fun e=>h3 (congrArg MgS.cl e))
  simp (maxSteps:=10^6) only[fb,fl,f0,f1,f2,f3,↓Be,gb,gl,g0,g1,g2,g3,h0,h1,h2,h3,hq,undef,List.append_eq,List.cons_append,List.nil_append,push_cast,↓reduceIte,reduceCtorEq,Nat.reduceEqDiff,Nat.reduceLT,Nat.reduceAdd]
  done
 by_cases h4:m.ge=n.ge
 case neg=>
  have hq:q=false:=hq.trans (decide_eq_false fun e=>h4 (congrArg MgS.ge e))
  simp (maxSteps:=10^6) only[fb,fl,f0,f1,f2,f3,f4,↓Be,gb,gl,g0,g1,g2,g3,g4,h0,h1,h2,h3,h4,hq,undef,List.append_eq,List.cons_append,List.nil_append,push_cast,↓reduceIte,reduceCtorEq,Nat.reduceEqDiff,Nat.reduceLT,Nat.reduceAdd]
  done
 by_cases h5:m.nu=n.nu
 case neg=>
  have hq:q=false:=hq.trans (decide_eq_false fun e=>h5 (congrArg MgS.nu e))
  simp (maxSteps:=10^6) only[fb,fl,f0,f1,f2,f3,f4,f5,↓Be,gb,gl,g0,g1,g2,g3,g4,g5,h0,h1,h2,h3,h4,h5,hq,undef,List.append_eq,List.cons_append,List.nil_append,push_cast,↓reduceIte,reduceCtorEq,Nat.reduceEqDiff,Nat.reduceLT,Nat.reduceAdd]
  done
 by_cases h6:m.sm=n.sm
 case neg=>
  have hq:q=false:=hq.trans (decide_eq_false fun e=>h6 (congrArg MgS.sm e))
  simp (maxSteps:=10^6) only[fb,fl,f0,f1,f2,f3,f4,f5,fs,hfs,↓Be,gb,gl,g0,g1,g2,g3,g4,g5,gs,hgs,h0,h1,h2,h3,h4,h5,h6,hq,undef,List.append_eq,List.cons_append,List.nil_append,push_cast,↓reduceIte,reduceCtorEq,Nat.reduceEqDiff,Nat.reduceLT,Nat.reduceLeDiff,Nat.reduceAdd]
  done
 simp (maxSteps:=10^6) only[fb,fl,f0,f1,f2,f3,f4,f5,f38,fs,↓Be,gb,gl,g0,g1,g2,g3,g4,g5,g38,gs,hgs,SlV.val,h0,h1,h2,h3,h4,h5,h6,undef,List.append_eq,List.cons_append,List.nil_append,push_cast,↓reduceIte,reduceCtorEq,Nat.reduceEqDiff,Nat.reduceLT,Nat.reduceLeDiff,Nat.reduceAdd]
 (repeat (refine And.intro (by first|omega|decide) ?_))
 refine Am rfl Aoi rfl (Auu (a:=m.ids.l) (b:=n.ids.l) (by have:=hm.ids.few;omega) (B4 hm.ids.rd _ _ (by simp) hm.ids.len) (B4 hn.ids.rd _ _ (by simp) hn.ids.len)) (Aa rfl) ?_
 by_cases h7:m.ids.l=n.ids.l
 case neg=>
  have hq:q=false:=hq.trans (decide_eq_false fun e=>h7 (congrArg MgS.ids e))
  simp (maxSteps:=10^6) only[h7,hq,undef,push_cast,↓reduceIte,Nat.reduceEqDiff,Nat.reduceLT,Nat.reduceAdd]
  done
 simp (maxSteps:=10^6) only[fl,f39,gl,g39,SlV.val,h7,undef,push_cast,↓reduceIte,reduceCtorEq,Nat.reduceEqDiff,Nat.reduceLT,Nat.reduceAdd]
 (repeat (refine And.intro (by first|omega|decide) ?_))
 refine Am rfl Aoj rfl (Auw (a:=m.ns.l) (b:=n.ns.l) (by have:=hm.ns.few;omega) (B4 hm.ns.rd _ _ (by simp) hm.ns.len) (B4 hn.ns.rd _ _ (by simp) hn.ns.len)) (Aa rfl) ?_
 by_cases h8:m.ns.l=n.ns.l
 case neg=>
  have hq:q=false:=hq.trans (decide_eq_false fun e=>h8 (congrArg MgS.ns e))
  simp (maxSteps:=10^6) only[h8,hq,undef,push_cast,↓reduceIte,Nat.reduceEqDiff,Nat.reduceLT,Nat.reduceAdd]
  done
 simp (maxSteps:=10^6) only[fl,f40,gl,g40,SlV.val,h8,undef,push_cast,↓reduceIte,reduceCtorEq,Nat.reduceEqDiff,Nat.reduceLT,Nat.reduceAdd]
 (repeat (refine And.intro (by first|omega|decide) ?_))
 refine Am rfl Aok rfl (Auy (a:=m.ps.l) (b:=n.ps.l) (by have:=hm.ps.few;omega) (Jp hm.ps.rd hm.ps.len) (Jp hn.ps.rd hn.ps.len)) (Aa rfl) ?_
 by_cases h9:m.ps.l=n.ps.l
 case neg=>
  have hq:q=false:=hq.trans (decide_eq_false fun e=>h9 (congrArg MgS.ps e))
  simp (maxSteps:=10^6) only[h9,hq,undef,push_cast,↓reduceIte,Nat.reduceEqDiff,Nat.reduceLT,Nat.reduceAdd]
  done
 simp (maxSteps:=10^6) only[fl,f41,gl,g41,SlV.val,h9,undef,push_cast,↓reduceIte,reduceCtorEq,Nat.reduceEqDiff,Nat.reduceLT,Nat.reduceAdd]
 (repeat (refine And.intro (by first|omega|decide) ?_))
 refine Am rfl Aoh rfl (As4 (a:=m.xs.l) (b:=n.xs.l) (by have:=hm.xs.few;omega) (B4 hm.xs.rd _ _ (by simp) hm.xs.len) (B4 hn.xs.rd _ _ (by simp) hn.xs.len)) (Aa rfl) ?_
 by_cases h10:m.xs.l=n.xs.l
 case neg=>
  have hq:q=false:=hq.trans (decide_eq_false fun e=>h10 (congrArg MgS.xs e))
  simp (maxSteps:=10^6) only[h10,hq,undef,push_cast,↓reduceIte,Nat.reduceEqDiff,Nat.reduceLT,Nat.reduceAdd]
  done
 by_cases h11:m.re=n.re
 case neg=>
  have hq:q=false:=hq.trans (decide_eq_false fun e=>h11 (congrArg MgS.re e))
  simp (maxSteps:=10^6) only[fl,f42,gl,g42,h10,h11,hq,undef,push_cast,↓reduceIte,reduceCtorEq,Nat.reduceEqDiff,Nat.reduceLT,Nat.reduceAdd]
  done
 have hq:q=true:=hq.trans (decide_eq_true (by
  unfold MgR.mg
  rw[h0,h1,h2,h3,h4,h5,h6,h7,h8,h9,h10,h11]))
 simp (maxSteps:=10^6) only[fl,f42,gl,g42,h10,h11,hq,undef,push_cast,↓reduceIte,reduceCtorEq,Nat.reduceEqDiff,Nat.reduceLT,Nat.reduceAdd]
 done
theorem Avl {w0:World} {hp:List Res} {s1 s2:Sv} {m n:MgS} (h1:Oq w0 hp s1 m) (h2:Oq w0 hp s2 n):Ad prog w0 No 18 [s1,s2] hp (.x (.a (.v (.bool (J1 m n))))) hp:=Bc fun γ w hS=>by
 obtain⟨a,e1,a1,rfl⟩:=h1 γ w hS
 obtain⟨b,e2,b1,rfl⟩:=h2 γ w hS
 have:=Adm a b w a1 b1
 have e:List.map (Sv.val γ) [s1,s2]=List.map (Sv.val []) [.x (.g (mgA a)),.x (.g (mgA b))]:=by
  simp only[List.map_cons,List.map_nil,e1,e2,Bi]
 rw[e]
 exact this
end
end
section
def Adn:List (List UInt8):=[[99,103,110,115],[103,112],[99,103,118],[103,105,118],[99,103,120],[97,103,105,120,112,118],[97,103],[97,103,105],[97,99,103,118],[114],[105,120],[97,111,103],[103,105],[99,103],[]]
theorem Avm (k:UInt8):B7 k∈Adn:=by
 unfold B7 Mh
 by_cases h:k=1
 ·simp only[if_pos h];decide
 simp only[if_neg h];clear h
 by_cases h:k=2
 ·simp only[if_pos h];decide
 simp only[if_neg h];clear h
 by_cases h:k=3
 ·simp only[if_pos h];decide
 simp only[if_neg h];clear h
 by_cases h:k=4
 ·simp only[if_pos h];decide
 simp only[if_neg h];clear h
 by_cases h:k=5
 ·simp only[if_pos h];decide
 simp only[if_neg h];clear h
 by_cases h:k=6
 ·simp only[if_pos h];decide
 simp only[if_neg h];clear h
 by_cases h:k=7
 ·simp only[if_pos h];decide
 simp only[if_neg h];clear h
 by_cases h:k=8
 ·simp only[if_pos h];decide
 simp only[if_neg h];clear h
 by_cases h:k=9
 ·simp only[if_pos h];decide
 simp only[if_neg h];clear h
 by_cases h:k=10
 ·simp only[if_pos h];decide
 simp only[if_neg h];clear h
 by_cases h:k=11
 ·simp only[if_pos h];decide
 simp only[if_neg h];clear h
 by_cases h:k=12
 ·simp only[if_pos h];decide
 simp only[if_neg h];clear h
 by_cases h:k=13
 ·simp only[if_pos h];decide
 simp only[if_neg h];clear h
 by_cases h:k=14
 ·simp only[if_pos h];decide
 simp only[if_neg h];clear h
 by_cases h:k=15
 ·simp only[if_pos h];decide
 simp only[if_neg h];clear h
 by_cases h:k=16
 ·simp only[if_pos h];decide
 simp only[if_neg h];clear h
 by_cases h:k=17
 ·simp only[if_pos h];decide
 simp only[if_neg h];clear h
 by_cases h:k=18
 ·simp only[if_pos h];decide
 simp only[if_neg h];clear h
 by_cases h:k=19
 ·simp only[if_pos h];decide
 simp only[if_neg h];clear h
 decide
theorem Avn (k:UInt8):∀c∈B7 k,c.toNat < 128:=by
 have h:∀l∈Adn,∀c∈l,c.toNat < 128:=by decide
 exact h _ (Avm k)
theorem Avo {k:UInt8} {i:Nat} (h:i < (Dx k).size):Utf8.decode (Dx k) i=((ix (B7 k) i).toNat,1):=by
 have hl:i < (B7 k).length:=h
 have e:(Dx k)[i]'h=ix (B7 k) i:=by
  show (B7 k).toArray[i]=_
  rw[ix,List.getD_eq_getElem?_getD,List.getElem?_eq_getElem hl]
  rfl
 have h2:((Dx k)[i]'h).toNat < 128:=by
  rw[e,ix,List.getD_eq_getElem?_getD,List.getElem?_eq_getElem hl]
  exact Avn k _ (List.getElem_mem hl)
 rw[Go.decode_ascii _ i h h2,e]
theorem Avp {k:UInt8} {i:Nat} (h:i < (Dx k).size):(B7 k).drop i=ix (B7 k) i::(B7 k).drop (i+1):=by
 have hl:i < (B7 k).length:=h
 rw[List.drop_eq_getElem_cons hl,ix,List.getD_eq_getElem?_getD,List.getElem?_eq_getElem hl]
 rfl
theorem Avq (k:UInt8):((Dx k).toList==({data:=#[]}:ByteArray).toList)=decide (B7 k=[]):=by
 rw[ByteArray.toList_eq,ByteArray.toList_eq]
 show (B7 k==[])=decide (B7 k=[])
 cases B7 k<;>simp
theorem Avr (k:UInt8):(Dx k).size=(B7 k).length:=rfl
theorem Avs {m:MgR} (h:m.sm.length=32):(mgA m).set 0 (.v (.int .u8 0))=mgA {m with k:=0}:=rfl
theorem Avt (r:MgR):J1 r.mg zeroR.mg=decide (r.mg=Fk):=rfl
theorem Avu (w:World):zeroR.Ok w:=⟨rfl,SlV.ok0 rfl,SlV.ok0 rfl,SlV.ok0 rfl,SlV.ok0 rfl⟩
attribute [local irreducible] Ac Ad Ah Au Ao Aj Ai Al
attribute [local irreducible] mgA wiM Bn may chI okV H5 Dx J1 H7
section
set_option maxRecDepth 100000 in
set_option maxHeartbeats 2000000 in
theorem Ado (m:MgR) (w:World) (hm:m.Ok w):Calls prog 55 (List.map (Sv.val []) [.x (.g (mgA m))]).toArray w fun e w'=>e=.returned (okV (Bq m.mg) 1)∧Below w.heap.size w w':=by
 obtain⟨Q,hQ⟩:∃Q,Q=Bq m.mg:=⟨_,rfl⟩
 rw[←hQ]
 refine Bf (n:=33) func55 rfl ntmps55 [.x (.g (mgA m))] (by simp) (.x (.a (.v (okV Q 1)))) (fun _=>rfl) ?_
 have f0:=(C8 hm.s).1
 have fl:=Bd hm.s
 have fb:=fun n=>Bm m n
 have hT:=Gt 1
 have hF:=H8 1
 have sk:=Avs hm.s
 obtain⟨m0,hm0⟩:∃m0:MgR,m0={m with k:=0}:=⟨_,rfl⟩
 have m0ok:m0.Ok w:=by rw[hm0];exact⟨hm.s,hm.ids,hm.ns,hm.ps,hm.xs⟩
 have m0l:(mgA m0).length=43:=Bd m0ok.s
 rw[←hm0] at sk
 have ql:∀a:MgR,a.sm.length=32→(mgA a).length=43:=fun a h=>Bd h
 have qb:=fun (a:MgR) n=>Bm a n
 simp only[At.bnd] at fb qb
 have hfk:B7 m.mg.k=B7 m.k:=rfl
 have hn:=Avq m.k
 unfold Bq at hQ
 rw[hfk] at hQ
 simp (maxSteps:=10^6) only[fb,fl,f0,↓Be,undef,push_cast,↓reduceIte,reduceCtorEq,Nat.reduceEqDiff,Nat.reduceLT]
 (repeat (refine And.intro (by first|omega|decide) ?_))
 refine Am rfl Ao1 rfl (Ar2 m.k) (Aa rfl) ?_
 by_cases h0:B7 m.k=[]
 ·rw[if_pos h0] at hQ
  rw[decide_eq_true h0] at hn
  simp (maxSteps:=10^6) only[hn,hQ,hF,push_cast,↓reduceIte,Nat.reduceLT]
  done
 rw[if_neg h0] at hQ
 rw[decide_eq_false h0] at hn
 have hQ:Q=I3 m.mg (B7 m.k) m0.mg:=by rw[hm0];exact hQ
 simp (maxSteps:=10^6) only[hn,fb,fl,Bo,B9,Br,B0,qb,sk,undef,push_cast,↓reduceIte,reduceCtorEq,Nat.reduceEqDiff,Nat.reduceLT,Nat.reduceAdd]
 refine⟨of_eq_true (mgA_one _ _),?_⟩
 (repeat (refine And.intro (by first|omega|decide) ?_))
 refine Bj (ι:=Nat×MgR) (fun x=>⟨[(1,.x (.a (.p 0 0))),(4,.x (.a (.p 1 0))),(16,.x (.a (.p 2 0)))],[.blk 48 (.c (mgA m)),.blk 48 (.c (mgA x.2)),.it (Dx m.k) x.1]⟩)
  (fun x=>x.1≤(Dx m.k).size∧x.2.Ok w∧Q=I3 m.mg ((B7 m.k).drop x.1) x.2.mg) (fun x=>(Dx m.k).size - x.1) (0,m0) [0,1,2] ⟨Nat.zero_le _,m0ok,hQ⟩ ?_ ?_
 ·simp (maxSteps:=10^6) only[fb,↓Ay,qb,push_cast,↓reduceIte,reduceCtorEq,Nat.reduceEqDiff,Nat.reduceLT,Nat.reduceAdd]
 rintro⟨i,r⟩ ⟨hi,hr,hg⟩
 have rl:=Bd hr.s
 by_cases hlt:i < (Dx m.k).size
 ·have hd:=Avo hlt
  rw[Avp hlt,I3] at hg
  generalize ix (B7 m.k) i=c at*
  have hcc:((c.toNat:Nat):Int)=chI c:=by unfold chI;rfl
  simp (maxSteps:=10^6) only[fl,hlt,hd,hcc,push_cast,↓reduceIte,Nat.reduceEqDiff,Nat.reduceLT,Nat.reduceAdd]
  (repeat (refine And.intro (by first|omega|decide) ?_))
  refine Am rfl Ao2 rfl (Avg c (R9 hm)) (Aa rfl) ?_
  cases hy:H7 m.mg c with
  |false=>
   rw[hy,if_neg (by decide)] at hg
   simp (maxSteps:=10^6) only[hg,hF,push_cast,↓reduceIte,Nat.reduceLT,Nat.reduceAdd]
   done
  |true=>
   rw[hy,if_pos rfl] at hg
   have wok:=Avi hr c
   have wl:=Bd wok.s
   simp (maxSteps:=10^6) only[rl,push_cast,↓reduceIte,Nat.reduceEqDiff,Nat.reduceLT,Nat.reduceAdd]
   (repeat (refine And.intro (by first|omega|decide) ?_))
   refine Am rfl Ao3 rfl (Avk c hr) (Aa rfl) ?_
   simp (maxSteps:=10^6) only[rl,wl,undef,push_cast,↓reduceIte,Nat.reduceEqDiff,Nat.reduceLT,Nat.reduceAdd]
   refine⟨of_eq_true (mgA_one _ _),?_⟩
   (repeat (refine And.intro (by first|omega|decide) ?_))
   refine Ba (i+1,I8 r c) [0,1,2] ⟨by omega,wok,by rw[Avh];exact hg⟩ (by omega) ?_
   simp (maxSteps:=10^6) only[fb,↓Ay,qb,push_cast,↓reduceIte,reduceCtorEq,Nat.reduceEqDiff,Nat.reduceLT,Nat.reduceAdd]
 ·obtain rfl:i=(Dx m.k).size:=by omega
  rw[show (B7 m.k).drop (Dx m.k).size=[] from List.drop_of_length_le (by rw[Avr];exact Nat.le_refl _),I3] at hg
  simp (maxSteps:=10^6) only[rl,Bo,B9,Br,hlt,push_cast,↓reduceIte,reduceCtorEq,Nat.reduceEqDiff,Nat.reduceLT,Nat.reduceAdd]
  (repeat (refine And.intro (by first|omega|decide) ?_))
  refine Am rfl Aaq rfl (Avl (R9 hr) (R9 (Avu w))) (Aa rfl) ?_
  have hg:Q=J1 r.mg zeroR.mg:=hg.trans (Avt r).symm
  rw[←hg]
  cases Q with
  |true=>
   simp (maxSteps:=10^6) only[hT,push_cast,↓reduceIte,Nat.reduceLT,Nat.reduceAdd]
   done
  |false=>
   simp (maxSteps:=10^6) only[hF,push_cast,↓reduceIte,Nat.reduceLT,Nat.reduceAdd]
   done
theorem Avv {w0:World} {hp:List Res} {s:Sv} {m:MgS} (h:Oq w0 hp s m):Ad prog w0 No 55 [s] hp (.x (.a (.v (okV (Bq m) 1)))) hp:=Bc fun γ w hS=>by
 obtain⟨a,e,h1,rfl⟩:=h γ w hS
 have e:List.map (Sv.val γ) [s]=List.map (Sv.val []) [.x (.g (mgA a))]:=by
  simp only[List.map_cons,List.map_nil,e,Bi]
 rw[e]
 exact Ado a w h1
end
end
end Go.Proofs.YtedaafmfjhjfmaaGreatDoor
