import Derived.Test.YtedaafmfjhjfmaaGreatDoorPt7
import Derived.Test.YtedaafmfjhjfmaaGreatDoorLw0
import Derived.Test.YtedaafmfjhjfmaaGreatDoorLw3
import Derived.Test.YtedaafmfjhjfmaaGreatDoorDrD
import Derived.Test.YtedaafmfjhjfmaaGreatDoorLfG
import Derived.Test.YtedaafmfjhjfmaaGreatDoorPreA
/- Law 29: pairOf. -/
namespace Go.Proofs.YtedaafmfjhjfmaaGreatDoor
open Go.RowKit
set_option linter.unusedSimpArgs false
set_option linter.unusedVariables false
def Hy:CfS:=⟨1,[⟨-1,0,1⟩,⟨0,1,1⟩],[⟨1,[3,5],2⟩],1,9⟩
theorem A45:F7 Hy 0=true:=by decide+kernel
attribute [local irreducible] Ad Ae Ah Ar Ak Am Ai Al
set_option maxRecDepth 100000 in
theorem A46 (w:World):Calls Tryz.prog 69 (List.map (Sv.val []) []).toArray w fun e w'=>∃γ1,e=.returned ((Sv.x (.g [.v (.int .i64 1),.o 0,.o 2,.v (.int .i64 1),.v (.int .i64 9)])).val γ1)∧Sat w No γ1 [.onn 98 3 (.c [.v (.int .i64 (-1)),.v (.int .i64 0),.v (.int .i64 1),.v (.int .i64 0),.v (.int .i64 1),.v (.int .i64 1)]),.blk 3 (.i64 [3,5]),.onn 96 3 (.c [.v (.int .i64 1),.s 1 0 2 2,.v (.int .i64 2)])] w':=by
 refine Tr (n:=8) Tryz.func69 rfl Tryz.ntmps69 [] (Sat.init w No) (by simp) _ _ ?_
 simp (maxSteps:=10^6) only[undef,push_cast,↓reduceIte,reduceCtorEq,Nat.reduceEqDiff,Nat.reduceLT,Nat.reduceLeDiff,Nat.reduceAdd,Nat.reduceMul,Int.reduceNeg]
 refine Fp [1,2,3] ?_
 simp (maxSteps:=10^6) only[push_cast,↓reduceIte,Nat.reduceEqDiff,Nat.reduceLT,Nat.reduceAdd,Int.reduceNeg]
structure CfFk (Fs:List Fct) (a:CfR):Prop where
 ps:(⟨a.ps.val,a.ps.l.length,a.ps.l.flatMap plV⟩:Fct)∈Fs
 gs:(⟨a.gs.val,a.gs.l.length,a.gs.l.flatMap grV⟩:Fct)∈Fs
 ids:∀g∈a.gs.l,(⟨g.ids.val,g.ids.l.length,g.ids.l.map (Value.int .i64)⟩:Fct)∈Fs
 few:a.ps.l.length≤1000000∧a.gs.l.length≤1000000∧∀g∈a.gs.l,g.ids.l.length≤1000000
theorem Ra {α:Type} {w0 w:World} {ow:Nat→Prop} {γ:List Nm} {hp:List Res} {k:Nat} {l:List Fct} {s:SlV α} {vs:List Value} (hS:Sat w0 ow γ hp w) (hk:hp[k]?=some (.abs (Aa l))) (hf:(⟨s.val,s.l.length,vs⟩:Fct)∈l):s.l.length≤s.c∧RdV w w.heap.size s.A vs:=by
 obtain⟨A,c,h1,h2,_,h3⟩:=Yt hS hk hf
 have h1:Value.slice s.A s.l.length s.c=.slice A s.l.length c:=h1
 injection h1 with e1 _ e3
 subst e1 e3
 exact⟨h2,h3⟩
theorem A47 {w0:World} {hp:List Res} {k:Nat} {l:List Fct} {a:CfR} (hk:hp[k]?=some (.abs (Aa l))) (h:CfFk l a):Iv w0 hp (.x (.g (cfA a))) a.cf:=fun γ w hS=>by
 obtain⟨p1,p2⟩:=Ra hS hk h.ps
 obtain⟨g1,g2⟩:=Ra hS hk h.gs
 exact⟨a,rfl,⟨p1,h.few.1,p2,g1,h.few.2.1,g2,fun g hg=>⟨(Ra hS hk (h.ids g hg)).1,h.few.2.2 g hg,(Ra hS hk (h.ids g hg)).2⟩⟩,rfl⟩
theorem A48 (w:World):Calls Tryz.prog 69 #[] w fun e w'=>∃(x:CfR×List Fct) (γ1:List Nm),(x.1.cf=Hy∧CfFk x.2 x.1)∧e=.returned ((Sv.x (.g (cfA x.1))).val [])∧Sat w No γ1 [.abs (Aa x.2)] w':=by
 refine (A46 w).mono fun e w' ⟨γ1,he,hS⟩=>?_
 have h0:=hS.fct0 (fun r hr=>by
  simp only[List.mem_cons,List.not_mem_nil,or_false] at hr
  rcases hr with rfl|rfl|rfl<;>(simp (maxSteps:=10^6) only[push_cast,Nat.reduceLT,Nat.reduceAdd,Int.reduceNeg]))
 have hl1:=hS.len
 obtain⟨A1,c1,γ2,a1,b1,eB1,eS1,s1⟩:=h0.onnF (j:=0) (k:=3) (vs:=[(⟨-1,0,1⟩:PlS),⟨0,1,1⟩].flatMap plV) (n:=2) (l:=[]) rfl rfl (by decide) rfl rfl
 obtain⟨A2,c2,γ3,a2,b2,eB2,eS2,s2⟩:=s1.onnF (j:=2) (k:=3) (vs:=[(⟨1,⟨some ⟨nmB γ2 1,0,none⟩,2,[3,5]⟩,2⟩:GrR)].flatMap grV) (n:=1) rfl rfl (by decide) rfl rfl
 have hr:=s2.rdBlk (k:=1) (t:=3) (c:=.i64 [3,5]) rfl 0
 have eb:nmB γ3 1=nmB γ2 1:=by rw[eB2]
 obtain⟨γ4,eB3,eS3,s3⟩:=s2.absorbs (j:=1) (k:=3) (fs:=[⟨.slice (some ⟨nmB γ2 1,0,none⟩) 2 2,2,[3,5].map (Value.int .i64)⟩]) (r:=.blk 3 (.i64 [3,5])) rfl rfl (by decide) (X:=fun b=>some (nmB γ3 1)=some b) (fun b hb=>hb) fun f hf=>by
   rw[List.mem_singleton.1 hf]
   refine⟨some ⟨nmB γ2 1,0,none⟩,2,rfl,Nat.le_refl _,by unfold maxLen;omega,fun hp=>⟨nmB γ2 1,0,rfl,by rw[eb],fun q u hu=>?_⟩⟩
   obtain⟨b,off,e1,_,e2⟩:=hr (by show 0 < 2;omega)
   cases e1
   rw[←eb]
   exact e2 q u hu
 obtain⟨h7,_⟩:=s3.sel (ρ:=[3]) (hp0:=[.abs (Aa [⟨.slice A1 2 c1,2,[(⟨-1,0,1⟩:PlS),⟨0,1,1⟩].flatMap plV⟩,⟨.slice A2 1 c2,1,[(⟨1,⟨some ⟨nmB γ2 1,0,none⟩,2,[3,5]⟩,2⟩:GrR)].flatMap grV⟩,⟨.slice (some ⟨nmB γ2 1,0,none⟩) 2 2,2,[3,5].map (Value.int .i64)⟩])]) ⟨by simp [Res.ren],trivial⟩ ⟨trivial,trivial⟩ (fun r hr=>by rw[List.mem_singleton.1 hr];trivial)
 refine⟨(⟨1,⟨A1,c1,[⟨-1,0,1⟩,⟨0,1,1⟩]⟩,⟨A2,c2,[⟨1,⟨some ⟨nmB γ2 1,0,none⟩,2,[3,5]⟩,2⟩]⟩,1,9⟩,_),_,⟨rfl,⟨List.mem_cons_self ..,List.mem_cons_of_mem _ (List.mem_cons_self ..),fun g hg=>?_,⟨by show 2≤1000000;omega,by show 1≤1000000;omega,fun g hg=>?_⟩⟩⟩,?_,h7⟩
 ·rw[List.mem_singleton.1 hg]
  exact List.mem_cons_of_mem _ (List.mem_cons_of_mem _ (List.mem_cons_self ..))
 ·rw[List.mem_singleton.1 hg]
  show 2≤1000000
  omega
 ·rw[he]
  have ex:∀i,i < 3→nmS (γ1++[Nm.m (.bool true) (fun _=>False)]) i=nmS γ1 i:=fun i hi=>Cx (by rw[hl1];exact hi)
  have x1:nmS γ1 0=.slice A1 2 c1:=by
   rw[←ex 0 (by decide)]
   exact a1
  have x2:nmS γ1 2=.slice A2 1 c2:=by
   rw[←ex 2 (by decide),←eS1]
   exact a2
  show Ending.returned (.agg #[_,nmS γ1 0,nmS γ1 2,_,_])=_
  rw[x1,x2]
  rfl
end Go.Proofs.YtedaafmfjhjfmaaGreatDoor
/- In a region that draws its order: a call that turns what stands in front, in place, and leaves facts. No program in sight. -/
namespace Go.Proofs.YtedaafmfjhjfmaaGreatDoor
open Go.RowKit
set_option linter.unusedSimpArgs false
set_option linter.unusedVariables false
theorem Res.holds_re {r:Res} {γ γ':List Nm} {i:Nat} {w:World} (hb:r.bnd 0) (hn:γ'[i]?=γ[i]?) (h:r.holds γ i w):r.holds γ' i w:=by
 have vals0:∀(c:Cont),c.bnd 0→c.vals γ'=c.vals γ:=fun c hc=>Agr.vals (a:=0) (n:=0) (fun i hi _=>absurd hi (Nat.not_lt_zero _)) hc (Cont.av_zero c)
 have e1:nmB γ' i=nmB γ i:=by unfold nmB;rw[hn]
 have e2:nmS γ' i=nmS γ i:=by unfold nmS;rw[hn]
 have e3:nmM γ' i=nmM γ i:=by unfold nmM;rw[hn]
 cases r with
 |mp q l=>
  have e4:mpE γ' q l=mpE γ q l:=List.map_congr_left fun p hp=>by
   rw[Sc.eqv (n:=0) (fun i hi=>absurd hi (Nat.not_lt_zero _)) (hb p hp)]
  simp only[Res.holds,hn,e2,e4] at h ⊢
  exact h
 |abs R=>simp only[Res.holds,hn,e2,e3] at h ⊢;exact h
 |it s p=>simp only[Res.holds,hn,e1] at h ⊢;exact h
 |gone=>trivial
 |blk t c=>simp only[Res.holds,hn,e1,vals0 c hb] at h ⊢;exact h
 |own t c=>simp only[Res.holds,hn,e2,vals0 c hb] at h ⊢;exact h
 |lit t c=>simp only[Res.holds,hn,e1,vals0 c hb] at h ⊢;exact h
 |str t c=>simp only[Res.holds,hn,e2,vals0 c hb] at h ⊢;exact h
 |pin g t c=>simp only[Res.holds,hn,e1,vals0 c hb] at h ⊢;exact h
 |onn t m c=>simp only[Res.holds,hn,e2,vals0 c hb] at h ⊢;exact h
theorem Sat.names {w0 w:World} {ow:Nat→Prop} {γ γ':List Nm} {hp:List Res} (h:Sat w0 ow γ hp w) (hl:γ'.length=γ.length) (hn:∀(i:Nat) (r:Res),hp[i]?=some r→r=.gone∨(r.bnd 0∧γ'[i]?=γ[i]?)):Sat w0 ow γ' hp w:=by
 have hh:∀(i:Nat) (r:Res),hp[i]?=some r→r.has γ' i=r.has γ i:=fun i r hr=>by
  rcases hn i r hr with rfl|⟨_,h2⟩
  ·rfl
  ·exact Bq h2
 refine⟨h.keeps,hl.trans h.len,fun i r hr=>?_,fun i r b hr hb=>?_,fun i j r r' b hr hr' hij hb=>?_⟩
 ·rcases hn i r hr with rfl|⟨h1,h2⟩
  ·trivial
  ·exact Res.holds_re h1 h2 (h.holds i r hr)
 ·rw[hh i r hr] at hb
  exact h.mine i r b hr hb
 ·rw[hh i r hr] at hb
  rw[hh j r' hr']
  exact h.apart i j r r' b hr hr' hij hb
section
variable {P:Program} {w0:World} {ow:Nat→Prop} {n:Nat}
theorem Rb {ι:Type} {A M:List Res} {g:Nat} {t:TypeId} {c:Cont} (Gm:List Nat) (Q:ι→Prop) (sv:ι→Sv) (A1:ι→List Res) (G:ι→List Fct) {ops:List Oper} {o:Oper} {p:List (Nat×Bool)} {f:FuncId} {xs:List Operand} {tys:Array TypeId} {s:S} {svs:List Sv} {K:S→Prop} (hs:s.hp=A++M) (hg:A[0]?=some (.pin g t c)) (hg1:∀i,Q i→∃c,(A1 i)[0]?=some (.pin g t c)) (hlen:∀i,Q i→(A1 i).length=A.length)
  (ho:o.op=.call {callee:=.value (.func f),args:=xs.toArray,argTypes:=tys}) (hcb:Ad P f) (hev:evs s.fr xs=some svs)
  (hc:∀γ w,Sat w0 ow γ (A++M) w→nmB γ 0=g→Calls P f (svs.map (Sv.val γ)).toArray w fun e w'=>∃i γ1,Q i∧e=.returned ((sv i).val [])∧Sat w (fun b=>∃(k:Nat) (r:Res),A[k]?=some r∧r.has γ k b) γ1 (A1 i++[.abs (Aa (G i))]) w')
  (hsv:∀i γ,(sv i).val γ=(sv i).val []) (hd:dOk n o.dst) (hbA:∀r∈A,Res.bnd A.length r) (hbA1:∀i,Q i→∀r∈A1 i,Res.bnd A.length r) (hb:s.bnd) (hfr:∀x∈s.fr,Sv.av A.length x.2) (hav:∀r∈M,r.av A.length)
  (hm:∀i,Q i→(Bb Gm (A1 i++(M++[.abs (Aa (G i))]))).take (A++M).length=Bb Gm (A++M)) (hin:∀(j:Nat) (r:Res),(Bb Gm (A++M))[j]?=some r→r=.gone∨(r.bnd 0∧A.length≤j))
  (h:∀i,Q i→Fo P w0 ow n Gm ops p (S.put ⟨s.fr,A1 i++(M++[.abs (Aa (G i))])⟩ o.dst (sv i)) K):Th P w0 ow n Gm ops o p s K:=by
 intro γ a w hfit
 have hS:Sat w0 ow γ (A++M) w:=by rw[←hs];exact hfit.sat
 have hbr:∀r∈A++M,Res.bnd (A++M).length r:=by rw[←hs];exact hb.2
 have hpos:0 < A.length:=Au hg
 obtain⟨p1,p2,_⟩:=hS.holds 0 _ (by rw[List.getElem?_append_left hpos];exact hg)
 unfold Oper.wp
 rw[L6 ho rfl hcb (args:=(svs.map (Sv.val γ)).toArray) (by rw[List.map_toArray,Ic hfit hev])]
 simp only[Oper.upon]
 refine (hc γ w hS p2).mono ?_
 rintro e w' ⟨i,γ1,hi,rfl,h1⟩
 obtain⟨c1,hp1⟩:=hg1 i hi
 have hl1:=hlen i hi
 obtain⟨q1,q2,_⟩:=h1.holds 0 _ (by rw[List.getElem?_append_left (by omega)];exact hp1)
 have h0:γ1[0]?=γ[0]?:=by rw[q1,p1,p2,q2]
 obtain⟨γ',hS',hget⟩:=hS.inplace0 h1 (fun b hb=>hb) rfl hl1 (.inl h0) hpos hbr (hbA1 i hi) (fun r hr=>by rw[List.mem_singleton.1 hr];trivial) hav
 have hagr:Agr A.length (A++M).length γ γ':=fun k hk hv=>by
  rw[hget]
  rcases hv with rfl|hv
  ·rw[if_pos hpos,h0]
  ·rw[if_neg (by omega),if_pos hk]
 have hf':=hfit.put (s:=s) (hp':=A1 i++(M++[.abs (Aa (G i))])) hS' (fun u sv' hu=>by
  have hm:=Fr.get_mem hu
  exact hagr.sv (by rw[←hs];exact hb.1 _ hm) (hfr _ hm)) hd (hsv i γ').symm
 have hhp:(S.put ⟨s.fr,A1 i++(M++[.abs (Aa (G i))])⟩ o.dst (sv i)).hp=A1 i++(M++[.abs (Aa (G i))]):=by cases o.dst<;>rfl
 have h2:=L9 p _ _ _ _ (h i hi) hf'
 rw[hhp] at h2
 refine⟨_,hS'.mask Gm,fun x hx=>?_,h2⟩
 rw[hs]
 have hin':∀r∈Bb Gm (A++M),Res.bnd (Bb Gm (A++M)).length r:=fun r hr=>by
  obtain⟨j,hj⟩:=List.getElem?_of_mem hr
  rcases hin j r hj with rfl|⟨h3,_⟩
  ·trivial
  ·exact Res.bnd_le (Nat.zero_le _) h3
 have hx:Sat w0 ow γ' (Bb Gm (A1 i++(M++[Res.abs (Aa (G i))]))) x:=hx
 have esp:=List.take_append_drop (A++M).length (Bb Gm (A1 i++(M++[Res.abs (Aa (G i))])))
 rw[hm i hi] at esp
 rw[←esp] at hx
 have h3:=hx.frontOf hin'
 have hlm:(Bb Gm (A++M)).length=(A++M).length:=Ky
 refine h3.names (by rw[h3.len,hlm];exact hS.len) fun j r hj=>?_
 rcases hin j r hj with rfl|⟨h4,h5⟩
 ·exact .inl rfl
 ·have hjl:j < (A++M).length:=by rw[←hlm];exact Au hj
  refine .inr ⟨h4,?_⟩
  rw[List.getElem?_take_of_lt (by rw[hlm];exact hjl),hget,if_neg (by omega),if_pos hjl]
end
end Go.Proofs.YtedaafmfjhjfmaaGreatDoor
/- Law 29: great, givePeers. -/
namespace Go.Proofs.YtedaafmfjhjfmaaGreatDoor
open Go.RowKit
set_option linter.unusedSimpArgs false
set_option linter.unusedVariables false
structure MgR.Wide (m:MgR) (w:World):Prop where
 s:m.sm.length=32
 ids:m.ids.l.length≤m.ids.c∧RdV w w.heap.size m.ids.A (m.ids.l.map (Value.int .i64))
 ns:m.ns.l.length≤m.ns.c∧RdV w w.heap.size m.ns.A (m.ns.l.map vU64)
 ps:m.ps.l.length≤m.ps.c∧RdV w w.heap.size m.ps.A (pvs m.ps.l)
 xs:m.xs.l.length≤m.xs.c∧RdV w w.heap.size m.xs.A (m.xs.l.map Ap)
def Hz (m:MgS):Bool:=decide (100 < m.ids.length)||(decide (200 < m.ns.length)||(decide (100 < m.ps.length)||decide (100 < m.xs.length)))
theorem A49 {m:MgS} (h:Hz m=false):m.ids.length≤100∧m.ns.length≤200∧m.ps.length≤100∧m.xs.length≤100:=by
 unfold Hz at h
 simp only[Bool.or_eq_false_iff,decide_eq_false_iff_not] at h
 omega
theorem MgR.Wide.ok {m:MgR} {w:World} (h:m.Wide w) (hb:Hz m.mg=false):m.Ok w:=by
 obtain⟨h1,h2,h3,h4⟩:=A49 hb
 have h1:m.ids.l.length≤100:=h1
 have h2:m.ns.l.length≤200:=h2
 have h3:m.ps.l.length≤100:=h3
 have h4:m.xs.l.length≤100:=h4
 exact⟨h.s,⟨h.ids.1,by omega,h.ids.2⟩,⟨h.ns.1,by omega,h.ns.2⟩,⟨h.ps.1,by omega,h.ps.2⟩,⟨h.xs.1,by omega,h.xs.2⟩⟩
attribute [local irreducible] Ad Ae Ah Ar Ak Am Ai Al
attribute [local irreducible] mgA mgO
set_option maxRecDepth 100000 in
theorem A5a (m:MgR) (w:World) (hm:m.Wide w):Calls Tryz.prog 23 (List.map (Sv.val []) [.x (.g (mgA m))]).toArray w fun e w'=>e=.returned (.bool (Hz m.mg))∧Below w.heap.size w w':=by
 obtain⟨f0,f1,f2,f3,f4,f5,f38,f39,f40,f41,f42⟩:=Dc hm.s
 have fl:=Bo hm.s
 have fs:=P7 hm.s
 have hfs:=hm.s
 have fb:=fun n=>Cs m n
 have zb:=fun n=>Cs zeroR n
 simp only[At.bnd] at fb zb
 obtain⟨q,hq⟩:∃q,q=Hz m.mg:=⟨_,rfl⟩
 rw[←hq]
 have hq:q=(decide (100 < m.ids.l.length)||(decide (200 < m.ns.l.length)||(decide (100 < m.ps.l.length)||decide (100 < m.xs.l.length)))):=hq
 refine Ba (n:=25) Tryz.func23 rfl Tryz.ntmps23 [.x (.g (mgA m))] (by simp) (.x (.a (.v (.bool q)))) (fun _=>rfl) ?_
 by_cases h1:(100:Int) < m.ids.l.length
 ·rw[decide_eq_true (show 100 < m.ids.l.length by omega),Bool.true_or] at hq
  simp (maxSteps:=10^6) only[fb,fl,f38,↓A9,SlV.val,h1,hq,undef,push_cast,↓reduceIte,reduceCtorEq,Nat.reduceEqDiff,Nat.reduceLT]
  done
 rw[decide_eq_false (show ¬100 < m.ids.l.length by omega),Bool.false_or] at hq
 by_cases h2:(200:Int) < m.ns.l.length
 ·rw[decide_eq_true (show 200 < m.ns.l.length by omega),Bool.true_or] at hq
  simp (maxSteps:=10^6) only[fb,fl,f38,f39,↓A9,SlV.val,h1,h2,hq,undef,push_cast,↓reduceIte,reduceCtorEq,Nat.reduceEqDiff,Nat.reduceLT]
  done
 rw[decide_eq_false (show ¬200 < m.ns.l.length by omega),Bool.false_or] at hq
 by_cases h3:(100:Int) < m.ps.l.length
 ·rw[decide_eq_true (show 100 < m.ps.l.length by omega),Bool.true_or] at hq
  simp (maxSteps:=10^6) only[fb,fl,f38,f39,f40,↓A9,SlV.val,h1,h2,h3,hq,undef,push_cast,↓reduceIte,reduceCtorEq,Nat.reduceEqDiff,Nat.reduceLT]
  done
 rw[decide_eq_false (show ¬100 < m.ps.l.length by omega),Bool.false_or] at hq
 by_cases h4:(100:Int) < m.xs.l.length
 ·rw[decide_eq_true (show 100 < m.xs.l.length by omega)] at hq
  simp (maxSteps:=10^6) only[fb,fl,f38,f39,f40,f41,↓A9,SlV.val,h1,h2,h3,h4,hq,undef,push_cast,↓reduceIte,reduceCtorEq,Nat.reduceEqDiff,Nat.reduceLT]
  done
 rw[decide_eq_false (show ¬100 < m.xs.l.length by omega)] at hq
 simp (maxSteps:=10^6) only[fb,fl,f38,f39,f40,f41,↓A9,SlV.val,h1,h2,h3,h4,hq,undef,push_cast,↓reduceIte,reduceCtorEq,Nat.reduceEqDiff,Nat.reduceLT]
 done
set_option maxRecDepth 100000 in
theorem A5b (l:List Pr) (A:Option Addr) (c:Nat) (w:World) (hl:l.length≤1000) (hR:RdV w w.heap.size A (pvs l)):Calls Tryz.prog 75 #[.slice A l.length c] w fun e w'=>∃γ1,e=.returned ((Sv.x (.a (.o 0))).val γ1)∧Sat w No γ1 [.onn 115 2 (.c (pcs l))] w':=by
 have F:=FP.of hR
 refine Tr (n:=19) Tryz.func75 rfl Tryz.ntmps75 [.x (.a (.v (.slice A l.length c)))] (Sat.init w No) (by simp) _ _ ?_
 simp only[push_cast,↓reduceIte,Nat.reduceLT]
 refine Ts 3 115 2 (.c []) (by omega) rfl rfl (by simp only[push_cast]) ?_
 refine Bh (ι:=Nat) (fun i=>⟨[(0,.x (.a (.v (.slice A l.length c)))),(3,.x (.a (.o 0))),(4,.x (.a (.v (.int .i64 i))))],[.onn 115 2 (.c (pcs (l.take i)))]⟩) (fun i=>i≤l.length) (fun i=>l.length - i) 0 [0] (by omega) ?_ ?_
 ·simp only[List.take_zero,Zf,push_cast,↓Int.cast_ofNat_Int,Int.cast_ofNat_Int,↓reduceIte,reduceCtorEq,Nat.reduceEqDiff,Nat.reduceLT]
 ·intro i hi
  by_cases hlt:(i:Int) < l.length
  ·have i0:(0:Int)≤i:=by omega
   have c0:=F.c0 i (by omega)
   have c1:=F.c1 i (by omega)
   have o0:=F.ok0 i (by omega)
   have o1:=F.ok1 i (by omega)
   have hA:=F.some_ (by omega)
   have hlen:(l.take i).length=i:=by rw[List.length_take];omega
   have ht:=Aya l i (by omega)
   simp only[hlt,i0,c0,c1,o0,o1,hA,hlen,ht,Cm,B4,Bl,push_cast,↓Int.toNat_natCast,↓reduceIte,reduceCtorEq,Nat.reduceEqDiff,Nat.reduceLT,Nat.reduceLeDiff,Nat.reduceAdd,Nat.reduceMul,Int.reduceNeg]
   (repeat (refine And.intro (by first|omega|decide) ?_))
   refine Be (i+1) [2] (by omega) (by omega) ?_
   simp only[push_cast,↓reduceIte,reduceCtorEq,Nat.reduceEqDiff,Nat.reduceLT]
  ·have e:i=l.length:=by omega
   subst e
   simp only[hlt,List.take_length,push_cast,↓reduceIte,reduceCtorEq,Nat.reduceEqDiff,Nat.reduceLT]
   refine Fp [0] ?_
   simp only[push_cast,↓reduceIte,Nat.reduceLT]
theorem Abq {w0:World} {hp:List Res} {sv:Sv} {l:List Pr} (hl:l.length≤1000) (h:Gq w0 No hp sv l.length (pvs l)) (hbr:∀r∈hp,Res.bnd hp.length r):
  Ae Tryz.prog w0 No 75 [sv] hp (.x (.a (.o hp.length))) (hp++[.onn 115 2 (.c (pcs l))]):=by
 have:=Ym (P:=Tryz.prog) (f:=75) (svs:=[sv]) (w0:=w0) (ow:=No) (sv1:=.x (.a (.o 0))) (hp1:=[.onn 115 2 (.c (pcs l))]) [] hbr (by simp only[push_cast]) (by simp only[push_cast,Nat.reduceLT])
  fun γ w hS=>⟨No,fun b h=>h.elim,by
   obtain⟨A,c,e1,b1,r1⟩:=h γ w hS
   show Calls _ _ #[sv.val γ] w _
   rw[e1]
   exact A5b l A c w hl r1⟩
 simp only[Da,Bw,push_cast,↓reduceIte,Nat.reduceLT] at this
 exact this
theorem A5c {w0:World} {hp:List Res} {m:MgR} (hm:m.Wide w0):Ae Tryz.prog w0 No 23 [.x (.g (mgA m))] hp (.x (.a (.v (.bool (Hz m.mg))))) hp:=A8 fun γ w hS=>by
 have h:m.Wide w:=⟨hm.s,⟨hm.ids.1,Cn hm.ids.2 hS⟩,⟨hm.ns.1,Cn hm.ns.2 hS⟩,⟨hm.ps.1,Cn hm.ps.2 hS⟩,⟨hm.xs.1,Cn hm.xs.2 hS⟩⟩
 rw[show List.map (Sv.val γ) [.x (.g (mgA m))]=List.map (Sv.val []) [.x (.g (mgA m))] from by simp only[List.map_cons,List.map_nil,Bc]]
 exact A5a m w h
end Go.Proofs.YtedaafmfjhjfmaaGreatDoor
