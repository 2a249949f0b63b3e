import Derived.Test.YtedaafmfjhjfmaaGreatDoorLfE
/- Calls that leave facts, added to those that there are. No program in sight. -/
namespace Go.Proofs.YtedaafmfjhjfmaaGreatDoor
open Go.RowKit
set_option linter.unusedSimpArgs false
set_option linter.unusedVariables false
section
variable {w0 w:World} {ow:Nat→Prop} {γ:List Nm} {hp:List Res}
theorem Sat.absorbs {j k:Nat} {l fs:List Fct} (hS:Sat w0 ow γ hp w) {r:Res} (hj:hp[j]?=some r) (hk:hp[k]?=some (.abs (fctRep l))) (hjk:j≠k) {X:Nat→Prop} (hX:∀b,X b→r.has γ j b) (hf:∀f∈fs,f.ok X w):
  ∃γ',nmB γ'=nmB γ∧nmS γ'=nmS γ∧Sat w0 ow γ' ((hp.set j .gone).set k (.abs (fctRep (l++fs)))) w:=by
 obtain⟨hn,hlt,hv,hall⟩:=hS.holds k _ hk
 have hkl:=Ax hk
 have hgl:k < γ.length:=by rw[hS.len];exact hkl
 let B':Nat→Prop:=fun b=>nmM γ k b∨X b
 have g1:∀i,i≠k→(γ.set k (.m (.bool true) B'))[i]?=γ[i]?:=fun i hi=>List.getElem?_set_ne fun e=>hi e.symm
 have g2:(γ.set k (.m (.bool true) B'))[k]?=some (.m (.bool true) B'):=List.getElem?_set_self hgl
 have eB:nmB (γ.set k (.m (.bool true) B'))=nmB γ:=by
  funext i
  by_cases hi:i=k
  ·subst hi;unfold nmB;rw[g2,hn]
  ·unfold nmB;rw[g1 i hi]
 have eS:nmS (γ.set k (.m (.bool true) B'))=nmS γ:=by
  funext i
  by_cases hi:i=k
  ·subst hi;rw[hv];unfold nmS;rw[g2]
  ·unfold nmS;rw[g1 i hi]
 have eM:∀i,i≠k→nmM (γ.set k (.m (.bool true) B')) i=nmM γ i:=fun i hi=>by unfold nmM;rw[g1 i hi]
 have eMk:nmM (γ.set k (.m (.bool true) B')) k=B':=by unfold nmM;rw[g2]
 have hhas:∀(q:Res) (i:Nat),i≠k→q.has (γ.set k (.m (.bool true) B')) i=q.has γ i:=fun q i hi=>B8 (g1 i hi)
 have hholds:∀(q:Res) (i:Nat),i≠k→q.holds γ i w→q.holds (γ.set k (.m (.bool true) B')) i w:=fun q i hi hq=>by
  cases q<;>simp only[Res.holds,eB,eS,eM i hi,g1 i hi,Vq eB eS,Vt eB eS] at hq ⊢<;>exact hq
 have get:∀(i:Nat) (q:Res),((hp.set j .gone).set k (.abs (fctRep (l++fs))))[i]?=some q→(i=k∧q=.abs (fctRep (l++fs)))∨(i≠k∧i=j∧q=.gone)∨(i≠k∧i≠j∧hp[i]?=some q):=by
  intro i q hq
  by_cases hi:i=k
  ·subst hi
   rw[List.getElem?_set_self (by rw[List.length_set];exact hkl)] at hq
   exact .inl ⟨rfl,(Option.some.inj hq).symm⟩
  ·rw[List.getElem?_set_ne (fun e=>hi e.symm)] at hq
   by_cases hi2:i=j
   ·subst hi2
    rw[List.getElem?_set_self (Ax hj)] at hq
    exact .inr (.inl ⟨hi,rfl,(Option.some.inj hq).symm⟩)
   ·rw[List.getElem?_set_ne (fun e=>hi2 e.symm)] at hq
    exact .inr (.inr ⟨hi,hi2,hq⟩)
 have hB:∀b,B' b→∃(i:Nat) (q:Res),hp[i]?=some q∧q.has γ i b∧(i=k∨i=j):=by
  rintro b (hb|hb)
  ·exact⟨k,_,hk,hb,.inl rfl⟩
  ·exact⟨j,r,hj,hX b hb,.inr rfl⟩
 refine⟨γ.set k (.m (.bool true) B'),eB,eS,hS.keeps,by simp [hS.len],?_,?_,?_⟩
 ·intro i q hq
  rcases get i q hq with ⟨rfl,rfl⟩|⟨_,_,rfl⟩|⟨h1,h2,h3⟩
  ·refine⟨by rw[g2,eS,hv,eMk],?_,by rw[eS];exact hv,?_⟩
   ·intro b hb
    rw[eMk] at hb
    obtain⟨i,q,h1,h2,_⟩:=hB b hb
    exact (hS.mine i q b h1 h2).2
   ·rw[eMk]
    intro g hg
    rcases List.mem_append.1 hg with hg|hg
    ·exact (hall g hg).mono fun b hb=>.inl hb
    ·exact (hf g hg).mono fun b hb=>.inr hb
  ·trivial
  ·exact hholds q i h1 (hS.holds i q h3)
 ·intro i q b hq hb
  rcases get i q hq with ⟨rfl,rfl⟩|⟨_,_,rfl⟩|⟨h1,h2,h3⟩
  ·have hb:B' b:=by rw[←eMk];exact hb
   obtain⟨i,q,h1,h2,_⟩:=hB b hb
   exact hS.mine i q b h1 h2
  ·exact hb.elim
  ·rw[hhas q i h1] at hb
   exact hS.mine i q b h3 hb
 ·intro i i' q q' b hq hq' hne hb hb'
  rcases get i q hq with ⟨e1,rfl⟩|⟨_,_,rfl⟩|⟨h1,h2,h3⟩
  ·rcases get i' q' hq' with ⟨e2,rfl⟩|⟨_,_,rfl⟩|⟨h4,h5,h6⟩
   ·exact hne (e1.trans e2.symm)
   ·exact hb'
   ·have hb:B' b:=by subst e1;rw[←eMk];exact hb
    rw[hhas q' i' h4] at hb'
    obtain⟨m,q2,h7,h8,h9⟩:=hB b hb
    refine hS.apart m i' q2 q' b h7 h6 ?_ h8 hb'
    rcases h9 with rfl|rfl
    ·exact fun e=>h4 e.symm
    ·exact fun e=>h5 e.symm
  ·exact hb
  ·rw[hhas q i h1] at hb
   rcases get i' q' hq' with ⟨e2,rfl⟩|⟨_,_,rfl⟩|⟨h4,h5,h6⟩
   ·have hb':B' b:=by subst e2;rw[←eMk];exact hb'
    obtain⟨m,q2,h7,h8,h9⟩:=hB b hb'
    refine hS.apart i m q q2 b h3 h7 ?_ hb h8
    rcases h9 with rfl|rfl
    ·exact h1
    ·exact h2
   ·exact hb'
   ·rw[hhas q' i' h4] at hb'
    exact hS.apart i i' q q' b h3 h6 hne hb hb'
theorem Sat.addF {k:Nat} {l fs:List Fct} (hS:Sat w0 ow γ (hp++[.abs (fctRep fs)]) w) (hk:hp[k]?=some (.abs (fctRep l))) (hb:∀r∈hp,Res.bnd hp.length r):
  ∃γ',(∀i,i < hp.length→nmB γ' i=nmB γ i∧nmS γ' i=nmS γ i)∧Sat w0 ow γ' (hp.set k (.abs (fctRep (l++fs)))) w:=by
 have hkl:=Ax hk
 have hlast:(hp++[Res.abs (fctRep fs)])[hp.length]?=some (.abs (fctRep fs)):=by simp
 obtain⟨_,_,_,h4⟩:=hS.holds _ _ hlast
 obtain⟨γ',eB,eS,h⟩:=hS.absorbs (j:=hp.length) (k:=k) (l:=l) hlast (by rw[List.getElem?_append_left hkl];exact hk) (by omega) (X:=nmM γ hp.length) (fun b hb=>hb) h4
 have e:((hp++[Res.abs (fctRep fs)]).set hp.length .gone).set k (.abs (fctRep (l++fs)))=hp.set k (.abs (fctRep (l++fs)))++[.gone]:=by
  rw[List.set_append_right _ _ (Nat.le_refl _),Nat.sub_self,List.set_append_left _ _ hkl]
  rfl
 rw[e] at h
 have hp':=h.frontOf (by
  rw[List.length_set]
  intro r hr
  rcases List.mem_or_eq_of_mem_set hr with hr|rfl
  ·exact hb r hr
  ·trivial)
 rw[List.length_set] at hp'
 refine⟨_,fun i hi=>?_,hp'⟩
 have e2:(γ'.take hp.length)[i]?=γ'[i]?:=List.getElem?_take_of_lt hi
 constructor
 ·rw[←congrFun eB i];unfold nmB;rw[e2]
 ·rw[←congrFun eS i];unfold nmS;rw[e2]
end
theorem At.eqv {γ γ':List Nm} {n:Nat} (h:∀i,i < n→nmB γ' i=nmB γ i∧nmS γ' i=nmS γ i) {x:At} (hb:x.bnd n):x.val γ'=x.val γ:=by
 cases x<;>simp only[At.val]<;>simp only[At.bnd] at hb<;>first|rw[(h _ hb).1]|rw[(h _ hb).2]|rfl
theorem Sc.eqv {γ γ':List Nm} {n:Nat} (h:∀i,i < n→nmB γ' i=nmB γ i∧nmS γ' i=nmS γ i) {x:Sc} (hb:x.bnd n):x.val γ'=x.val γ:=by
 cases x<;>simp only[Sc.val]
 ·exact At.eqv h hb
 ·congr 2;exact List.map_congr_left fun x hx=>At.eqv h (hb x hx)
theorem Sv.eqv {γ γ':List Nm} {n:Nat} (h:∀i,i < n→nmB γ' i=nmB γ i∧nmS γ' i=nmS γ i) {x:Sv} (hb:x.bnd n):x.val γ'=x.val γ:=by
 cases x<;>simp only[Sv.val]
 ·exact Sc.eqv h hb
 ·congr 2;exact List.map_congr_left fun x hx=>Sc.eqv h (hb x hx)
 ·congr 2;exact List.map_congr_left fun x hx=>At.eqv h (hb x hx)
section
variable {P:Program} {w0:World} {ow:Nat→Prop} {n:Nat}
theorem Ate {s:S} {a:Act} {w w':World} {γ γ1:List Nm} {k:Nat} {l G:List Fct} (hf:FitsAt w0 ow n γ s a w) (hk:s.hp[k]?=some (.abs (fctRep l))) (hb:s.bnd) (h:Sat w No γ1 [.abs (fctRep G)] w'):
  ∃γ',Sat w0 ow γ' (s.hp.set k (.abs (fctRep (l++G)))) w'∧∀t sv,Fr.get s.fr t=some sv→sv.val γ'=sv.val γ:=by
 have hback:=hf.sat.back [] (X:=No) (fun b h=>h.elim) h hb.2 (fun r hr=>by rw[List.mem_singleton.1 hr];trivial)
 have hback:Sat w0 ow (γ++γ1) (s.hp++[.abs (fctRep G)]) w':=hback
 obtain⟨γ',h1,h2⟩:=hback.addF hk hb.2
 refine⟨γ',h2,fun t sv' ht=>?_⟩
 have hb':=hb.1 _ (Fr.get_mem ht)
 rw[Sv.eqv h1 hb']
 exact Sv.ext (by rw[hf.sat.len];exact hb')
theorem Jz {ι:Type} (Q:ι→Prop) (sv:ι→Sv) (G:ι→List Fct) (k:Nat) {l:List Fct} {ops:List Oper} {o:Oper} {rest:List Oper} {f:FuncId} {xs:List Operand} {tys:Array TypeId} {s:S} {svs:List Sv} {K:S→Prop} (hk:s.hp[k]?=some (.abs (fctRep l)))
  (ho:o.op=.call {callee:=.value (.func f),args:=xs.toArray,argTypes:=tys}) (hcb:Ac P f) (hev:evs s.fr xs=some svs)
  (hc:∀γ w,Sat w0 ow γ s.hp w→Calls P f (svs.map (Sv.val γ)).toArray w fun e w'=>∃i γ1,Q i∧e=.returned ((sv i).val [])∧Sat w No γ1 [.abs (fctRep (G i))] w') (hsv:∀i γ,(sv i).val γ=(sv i).val []) (hd:dOk n o.dst) (hb:s.bnd)
  (h:∀i,Q i→Ai P w0 ow n ops rest (S.put ⟨s.fr,s.hp.set k (.abs (fctRep (l++G i)))⟩ o.dst (sv i)) K):Ah P w0 ow n ops o rest s K:=by
 rintro a w ⟨γ,hfit⟩ hw
 unfold wpList
 rw[if_pos hw]
 refine .inl ?_
 unfold Oper.wp
 rw[Io ho rfl hcb (args:=(svs.map (Sv.val γ)).toArray) (by rw[List.map_toArray,Gk hfit hev])]
 simp only[Oper.upon]
 refine (hc γ w hfit.sat).mono ?_
 rintro e w' ⟨i,γ1,hi,rfl,h1⟩
 obtain⟨γ',h2,h3⟩:=Ate hfit hk hb h1
 exact C4 rest _ _ _ (h i hi) ⟨γ',hfit.put h2 h3 hd (hsv i γ').symm⟩
theorem Ic {e:TypeId} {vs:List Value} (k:Nat) {l:List Fct} {ops:List Oper} {o:Oper} {rest:List Oper} {f:FuncId} {xs:List Operand} {tys:Array TypeId} {s:S} {svs:List Sv} {K:S→Prop} (hk:s.hp[k]?=some (.abs (fctRep l)))
  (ho:o.op=.call {callee:=.value (.func f),args:=xs.toArray,argTypes:=tys}) (hcb:Ac P f) (hev:evs s.fr xs=some svs)
  (hc:∀γ w,Sat w0 ow γ s.hp w→Calls P f (svs.map (Sv.val γ)).toArray w fun en w'=>∃v',en=.returned v'∧Own w' w.heap.size e v' vs∧Below w.heap.size w w') (hd:dOk n o.dst) (hb:s.bnd)
  (h:∀A cap,vs.length≤cap→cap≤maxLen→Ai P w0 ow n ops rest (S.put ⟨s.fr,s.hp.set k (.abs (fctRep (l++[⟨.slice A vs.length cap,vs.length,vs⟩])))⟩ o.dst (.x (.a (.v (.slice A vs.length cap))))) K):Ah P w0 ow n ops o rest s K:=by
 refine Jz (ι:=Option Addr×Nat) (fun x=>vs.length≤x.2∧x.2≤maxLen) (fun x=>.x (.a (.v (.slice x.1 vs.length x.2)))) (fun x=>[⟨.slice x.1 vs.length x.2,vs.length,vs⟩]) k hk ho hcb hev (fun γ w hS=>(hc γ w hS).mono ?_) (fun _ _=>rfl) hd hb (fun x hx=>h x.1 x.2 hx.1 hx.2)
 rintro en w' ⟨v',rfl,hO,hB⟩
 have hS1:Sat w No [.s v'] [.own e (.vs vs)] w':=by
  have:=(Sat.init w No).got (γ:=[]) (hp:=[]) (fun r hr=>by cases hr) hB (c:=.vs vs) (e:=e) (v:=v') trivial hO
  exact this
 obtain⟨A,cap,h1,h2,h3,h4⟩:=N8 (j:=0) (e:=e) (c:=.vs vs) hS1 rfl (fun _=>rfl)
 have h1:v'=.slice A vs.length cap:=h1
 subst h1
 have hbr:∀r∈[Res.own e (.vs vs)],Res.bnd [Res.own e (.vs vs)].length r:=fun r hr=>by
  rw[List.mem_singleton.1 hr];trivial
 have hp:=hS1.pack [0] hbr (R:=fctRep [⟨.slice A vs.length cap,vs.length,vs⟩]) (x:=.bool true) (B:=fun b=>(nmS [.s (.slice A vs.length cap)] 0).ownBlock=some b) (fun b hb=>⟨0,_,by simp,rfl,hb⟩) ⟨rfl,fun f hf=>by rw[List.mem_singleton.1 hf];exact h4⟩
 have hle:Ir [1] (goneAll [0] [Res.own e (.vs vs)]++[Res.abs (fctRep [⟨.slice A vs.length cap,vs.length,vs⟩])]) [1] [.abs (fctRep [⟨.slice A vs.length cap,vs.length,vs⟩])]:=by
  simp only[push_cast]
 obtain⟨h5,_⟩:=hp.sel hle (by simp only[push_cast]) (fun r hr=>by rw[List.mem_singleton.1 hr];trivial)
 exact⟨(A,cap),_,⟨h2,h3⟩,rfl,h5⟩
theorem C9 {ι:Type} {A M:List Res} {g:Nat} {t:TypeId} {c:Cont} {l:List Fct} (k:Nat) (Q:ι→Prop) (sv:ι→Sv) (A1:ι→List Res) (G:ι→List Fct) {ops:List Oper} {o:Oper} {rest:List Oper} {f:FuncId} {xs:List Operand} {tys:Array TypeId} {s:S} {svs:List Sv} {K:S→Prop} (hs:s.hp=A++M) (hk:M[k]?=some (.abs (fctRep l))) (hg:A[0]?=some (.pin g t c)) (hg1:∀i,Q i→∃c,(A1 i)[0]?=some (.pin g t c)) (hlen:∀i,Q i→(A1 i).length=A.length)
  (ho:o.op=.call {callee:=.value (.func f),args:=xs.toArray,argTypes:=tys}) (hcb:Ac P f) (hev:evs s.fr xs=some svs)
  (hc:∀γ w,Sat w0 ow γ (A++M) w→nmB γ 0=g→Calls P f (svs.map (Sv.val γ)).toArray w fun e w'=>∃i γ1,Q i∧e=.returned ((sv i).val [])∧Sat w (fun b=>∃(k:Nat) (r:Res),A[k]?=some r∧r.has γ k b) γ1 (A1 i++[.abs (fctRep (G i))]) w')
  (hsv:∀i γ,(sv i).val γ=(sv i).val []) (hd:dOk n o.dst) (hbA:∀r∈A,Res.bnd A.length r) (hbA1:∀i,Q i→∀r∈A1 i,Res.bnd A.length r) (hb:s.bnd) (hfr:∀x∈s.fr,Sv.av A.length x.2) (hav:∀r∈M,r.av A.length)
  (h:∀i,Q i→Ai P w0 ow n ops rest (S.put ⟨s.fr,A1 i++M.set k (.abs (fctRep (l++G i)))⟩ o.dst (sv i)) K):Ah P w0 ow n ops o rest s K:=by
 rintro a w ⟨γ,hfit⟩ hw
 have hS:Sat w0 ow γ (A++M) w:=by rw[←hs];exact hfit.sat
 have hbr:∀r∈A++M,Res.bnd (A++M).length r:=by rw[←hs];exact hb.2
 have hpos:0 < A.length:=Ax hg
 obtain⟨p1,p2,_⟩:=hS.holds 0 _ (by rw[List.getElem?_append_left hpos];exact hg)
 unfold wpList
 rw[if_pos hw]
 refine .inl ?_
 unfold Oper.wp
 rw[Io ho rfl hcb (args:=(svs.map (Sv.val γ)).toArray) (by rw[List.map_toArray,Gk hfit hev])]
 simp only[Oper.upon]
 refine (hc γ w hS p2).mono ?_
 rintro e w' ⟨i,γ1,hi,rfl,h1⟩
 obtain⟨c1,hp1⟩:=hg1 i hi
 have hl1:=hlen i hi
 obtain⟨q1,q2,_⟩:=h1.holds 0 _ (by rw[List.getElem?_append_left (by omega)];exact hp1)
 obtain⟨γ',hS',hagr⟩:=hS.inplace h1 (fun b hb=>hb) rfl hl1 (by rw[q1,p1,p2,q2]) hpos hbr (hbA1 i hi) (fun r hr=>by rw[List.mem_singleton.1 hr];trivial) hav
 have hkl:=Ax hk
 rw[←List.append_assoc] at hS'
 have hbr':∀r∈A1 i++M,Res.bnd (A1 i++M).length r:=fun r hr=>by
  rcases List.mem_append.1 hr with hr|hr
  ·exact Res.bnd_le (by rw[List.length_append];omega) (hbA1 i hi r hr)
  ·have:=hbr r (List.mem_append_right _ hr)
   rw[List.length_append] at this ⊢
   rw[hl1]
   exact this
 obtain⟨γ2,e2,hS2⟩:=hS'.addF (k:=A.length+k) (l:=l) (by rw[List.getElem?_append_right (by omega),hl1,Nat.add_sub_cancel_left];exact hk) hbr'
 rw[List.set_append_right _ _ (by omega),hl1,Nat.add_sub_cancel_left] at hS2
 refine C4 rest _ _ _ (h i hi) ⟨γ2,?_⟩
 refine hfit.put (s:=s) (hp':=A1 i++M.set k (.abs (fctRep (l++G i)))) hS2 (fun t sv' ht=>?_) hd (hsv i γ2).symm
 have hm:=Fr.get_mem ht
 have hb1:sv'.bnd (A++M).length:=by rw[←hs];exact hb.1 _ hm
 have hb2:sv'.bnd (A1 i++M).length:=by rw[List.length_append,hl1,←List.length_append];exact hb1
 rw[Sv.eqv e2 hb2]
 exact hagr.sv hb1 (hfr _ hm)
def Atf {ι:Type} (P:Program) (w0:World) (fv:Value) (arg:Value) (Q:ι→Prop) (sv:ι→Value) (G:ι→List Fct):Prop:=
 ∃f caps,fv=.func (.func f) #[] caps∧Ac P f∧∀w,Keeps No w0 w→Calls P f (#[arg]++caps) w fun e w'=>∃i γ1,Q i∧e=.returned (sv i)∧Sat w No γ1 [.abs (fctRep (G i))] w'
theorem Atg {A M:List Res} (l0:List Nat) {c:Code} {s:S} {K:Exit→S→Prop} (hs:s.hp=A++M) (hp:0 < A.length) (hbA:∀r∈A,Res.bnd A.length r) (hb:s.bnd) (hfr:∀x∈keepS l0 s.fr,Sv.bnd A.length x.2)
  (hM:∀r∈M,Res.bnd 0 r) (h:∀γ w,Sat w0 ow γ s.hp w→Aj P w (fun b=>∃(k:Nat) (r:Res),A[k]?=some r∧r.has γ k b) n c ⟨keepS l0 s.fr,A⟩ fun e s'=>∃(A' N:List Res) (l:List Nat),s'.hp=A'++N∧A'.length=A.length∧(∀r∈A',Res.bnd A.length r)∧(∀x∈keepS l s'.fr,Sv.bnd A.length x.2)∧K e ⟨keepS l s'.fr,A'++M⟩):Aj P w0 ow n c s K:=by
 rintro a w ⟨γ,hf⟩
 have hS:Sat w0 ow γ (A++M) w:=by rw[←hs];exact hf.sat
 have hbr:∀r∈A++M,Res.bnd (A++M).length r:=by rw[←hs];exact hb.2
 have hl:=hS.len
 rw[List.length_append] at hl
 have e:∀k,k < A.length→(γ.take A.length)[k]?=γ[k]?:=fun k hk=>List.getElem?_take_of_lt hk
 refine wp_mono (h γ w hf.sat a w ⟨_,hS.frontA hbA,hf.defers,hf.size,fun u sv hu=>?_⟩) fun ex a' w' hq=>?_
 ·rw[hf.at_ u sv (Ky l0 _ _ _ hu)]
  refine (Sv.eqv (n:=A.length) (fun i hi=>?_) (hfr _ (Fr.get_mem hu))).symm
  constructor
  ·unfold nmB;rw[e i hi]
  ·unfold nmS;rw[e i hi]
 ·obtain⟨s',⟨γ1,hf1⟩,A',N,l,h1,h2,h3,h4,h5⟩:=hq
  have hS1:Sat w (fun b=>∃(k:Nat) (r:Res),A[k]?=some r∧r.has γ k b) γ1 (A'++N) w':=by rw[←h1];exact hf1.sat
  have hS2:=hS1.frontOf (by rw[h2];exact h3)
  obtain⟨γ',hS',hag⟩:=hS.frame hS2 (fun b hb=>hb) h2 hp hbr h3 hM
  refine⟨_,⟨γ',hS',hf1.defers,hf1.size,fun u sv hu=>?_⟩,h5⟩
  rw[hf1.at_ u sv (Ky l _ _ _ hu)]
  refine (Sv.eqv (n:=A.length) (fun i hi=>?_) (h4 _ (Fr.get_mem hu))).symm
  have e2:(γ1.take A'.length)[i]?=γ1[i]?:=List.getElem?_take_of_lt (by omega)
  constructor
  ·unfold nmB;rw[hag i hi,e2]
  ·unfold nmS;rw[hag i hi,e2]
end
theorem Sat.fct0 {w0 w:World} {ow:Nat→Prop} {γ:List Nm} {hp:List Res} (hS:Sat w0 ow γ hp w) (hb:∀r∈hp,Res.bnd hp.length r):Sat w0 ow (γ++[.m (.bool true) (fun _=>False)]) (hp++[.abs (fctRep [])]) w:=by
 have hl:=hS.len
 have e1:(γ++[Nm.m (.bool true) (fun _=>False)])[hp.length]?=some (.m (.bool true) (fun _=>False)):=by rw[←hl];simp
 have e2:nmS (γ++[Nm.m (.bool true) (fun _=>False)]) hp.length=.bool true:=by unfold nmS;rw[e1]
 have e3:nmM (γ++[Nm.m (.bool true) (fun _=>False)]) hp.length=fun _=>False:=by unfold nmM;rw[e1]
 refine hS.push (X:=fun _=>False) (Keeps.refl _ _) (fun b h=>h.elim) hb ⟨by rw[e1,e2,e3],fun b h=>by rw[e3] at h;exact h.elim,by rw[e2];exact⟨rfl,fun f h=>by cases h⟩⟩ ?_
 intro b hb
 simp only[Res.has,e3] at hb
theorem Cy {ι:Type} (Q:ι→Prop) (sv1:ι→Sv) (hp1:ι→List Res) {P:Program} {w:World} {ow:Nat→Prop} {n:Nat} {γ:List Nm} {hp:List Res} {f:FuncId} {fn:Func} {c:Code} (hf:P.funcs[f]?=some fn) (hb:fn.body=some c) (hn:fn.ntmps=n) (svs:List Sv) (hS:Sat w ow γ hp w) (hl:svs.length≤n)
  (h:Cc P w ow n c ⟨Ht 0 svs,hp⟩ (Fin P w ow fn.results.toList (fun sv hp'=>∃i,Q i∧N6 (sv1 i) (hp1 i) sv hp'))):Calls P f (svs.map (Sv.val γ)).toArray w fun e w'=>∃i γ1,Q i∧e=.returned ((sv1 i).val γ1)∧Sat w ow γ1 (hp1 i) w':=by
 refine Ma hf hb hn svs hS hl _ (fun γ' sv hp' w' hS' ⟨i,hi,ρ,h1,h2,h3,h4⟩=>?_) h
 obtain⟨hS2,hρ⟩:=hS'.sel h2 h3 h4.2
 refine⟨i,reγ ρ γ',hi,?_,hS2⟩
 have e:sv=(sv1 i).ren ρ:=by
  have:=h1.1
  simp only[Fr.get,if_true,Option.some.injEq] at this
  exact this
 have hlen:ρ.length=(hp1 i).length:=(Jl h2).1
 rw[Sv.re hρ (by rw[hlen];exact h4.1 (0,sv1 i) (List.mem_cons_self ..)),←e]
section
variable {P:Program} {w0:World} {ow:Nat→Prop} {n:Nat}
theorem Sm {ι:Type} {t:TypeId} {c:Cont} {l:List Fct} (k kf:Nat) (Q:ι→Prop) (sv:ι→Sv) (c1:ι→Cont) (G:ι→List Fct) {ops:List Oper} {o:Oper} {rest:List Oper} {f:FuncId} {xs:List Operand} {tys:Array TypeId} {s:S} {svs:List Sv} {K:S→Prop} (hk:Ch s.hp[k]?=some (t,c)) (hkf:s.hp[kf]?=some (.abs (fctRep l)))
  (ho:o.op=.call {callee:=.value (.func f),args:=xs.toArray,argTypes:=tys}) (hcb:Ac P f) (hev:evs s.fr xs=some svs)
  (hc:∀γ w,Sat w0 ow γ s.hp w→∀γ0,nmB γ0 0=nmB γ k→Sat w (fun b=>b=nmB γ k) γ0 [.pin (nmB γ k) t c] w→Calls P f (svs.map (Sv.val γ)).toArray w fun e w'=>∃i γ1,Q i∧e=.returned ((sv i).val [])∧Sat w (fun b=>b=nmB γ k) γ1 [.pin (nmB γ k) t (c1 i),.abs (fctRep (G i))] w')
  (hsv:∀i γ,(sv i).val γ=(sv i).val []) (hcb0:c.bnd 0) (hc1:∀i,(c1 i).bnd 0) (hd:dOk n o.dst) (hb:s.bnd)
  (h:∀i,Q i→Ai P w0 ow n ops rest (S.put ⟨s.fr,(s.hp.set k (De s.hp[k]? t (c1 i))).set kf (.abs (fctRep (l++G i)))⟩ o.dst (sv i)) K):Ah P w0 ow n ops o rest s K:=by
 rintro a w ⟨γ,hfit⟩ hw
 have hS:=hfit.sat
 obtain⟨b1,b2,r0,hr0,b3,b4,b5⟩:=hS.bv hk
 have vals0:∀(c:Cont),c.bnd 0→∀γ γ',c.vals γ'=c.vals γ:=fun c hc γ γ'=>Agr.vals (a:=0) (n:=0) (fun i hi _=>absurd hi (Nat.not_lt_zero _)) hc (Cont.av_zero c)
 have hne:k≠kf:=by
  rintro rfl
  rw[hkf] at hk
  cases hk
 have hS0:Sat w (fun b=>b=nmB γ k) [.b (nmB γ k)] [.pin (nmB γ k) t c] w:=by
  refine⟨Keeps.refl _ _,rfl,fun i r hr=>?_,fun i r b hr hb=>?_,fun i j r r' b hr hr' hne=>?_⟩
  ·cases i with
   |zero=>
    cases hr
    exact⟨rfl,rfl,by rw[vals0 c hcb0 γ];exact b2⟩
   |succ i=>cases hr
  ·cases i with
   |zero=>
    cases hr
    have hb:some (nmB γ k)=some b:=hb
    have hb:=(Option.some.inj hb).symm
    subst hb
    exact⟨.inl rfl,b2.lt⟩
   |succ i=>cases hr
  ·cases i with
   |zero=>cases j with
    |zero=>exact absurd rfl hne
    |succ j=>cases hr'
   |succ i=>cases hr
 unfold wpList
 rw[if_pos hw]
 refine .inl ?_
 unfold Oper.wp
 rw[Io ho rfl hcb (args:=(svs.map (Sv.val γ)).toArray) (by rw[List.map_toArray,Gk hfit hev])]
 simp only[Oper.upon]
 refine (hc γ w hS _ rfl hS0).mono ?_
 rintro e w' ⟨i,γ1,hi,rfl,h1⟩
 obtain⟨p1,p2,p3⟩:=h1.holds 0 _ rfl
 rw[p2,vals0 (c1 i) (hc1 i) γ] at p3
 have hupd:=hS.update (r':=De s.hp[k]? t (c1 i)) (b:=nmB γ k) hr0 (by rw[b3]) h1.keeps (b5 w' (c1 i) p3) (.inl (b4 _))
 have q:=h1.holds 1 _ rfl
 have hbb:∀r∈s.hp.set k (De s.hp[k]? t (c1 i)),Res.bnd s.hp.length r:=fun r hr=>by
  rcases List.mem_or_eq_of_mem_set hr with hr|rfl
  ·exact hb.2 r hr
  ·have:=Cont.bnd_le (Nat.zero_le s.hp.length) (hc1 i)
   cases hq:s.hp[k]? with
   |none=>rw[hq] at hk;cases hk
   |some r=>rw[hq] at hk;cases r<;>first|exact this|cases hk
 have hlen:(s.hp.set k (De s.hp[k]? t (c1 i))).length=s.hp.length:=List.length_set
 have hpush:Sat w0 ow (γ++[.m (nmS γ1 1) (nmM γ1 1)]) (s.hp.set k (De s.hp[k]? t (c1 i))++[.abs (fctRep (G i))]) w':=by
  have hX:∀b,nmM γ1 1 b→w.heap.size≤b:=fun b hb=>by
   rcases (h1.mine 1 _ b rfl hb).1 with h2|h2
   ·subst h2
    exact absurd (show (Res.pin (nmB γ k) t (c1 i)).has γ1 0 (nmB γ k) by show some (nmB γ1 0)=some _;rw[p2]) (h1.apart 1 0 _ _ _ rfl rfl (by decide) hb)
   ·exact h2
  have e1:(γ++[Nm.m (nmS γ1 1) (nmM γ1 1)])[(s.hp.set k (De s.hp[k]? t (c1 i))).length]?=some (.m (nmS γ1 1) (nmM γ1 1)):=by rw[hlen,←hS.len];simp
  have key:∀(δ:List Nm) (j:Nat) (x:Value) (B:Nat→Prop),δ[j]?=some (.m x B)→nmS δ j=x∧nmM δ j=B:=fun δ j x B h=>⟨by unfold nmS;rw[h],by unfold nmM;rw[h]⟩
  obtain⟨e2,e3⟩:=key _ _ _ _ e1
  refine hupd.push (X:=nmM γ1 1) (Keeps.refl _ _) (fun b hb=>⟨.inr (Nat.le_trans hS.keeps.size (hX b hb)),fun j r hr hh=>?_⟩) (by rw[hlen];exact hbb) ⟨by rw[e1,e2,e3],by rw[e3];exact q.2.1,by rw[e2,e3];exact q.2.2⟩ fun b hb=>?_
  ·have:∃r',s.hp[j]?=some r'∧r'.has γ j b:=by
    by_cases hj:k=j
    ·subst hj
     rw[List.getElem?_set_self (Ax hr0)] at hr
     cases hr
     exact⟨r0,hr0,by rw[←b4 (c1 i)];exact hh⟩
    ·rw[List.getElem?_set_ne hj] at hr
     exact⟨r,hr,hh⟩
   obtain⟨r',h3,h4⟩:=this
   have:=(hS.mine j r' b h3 h4).2
   have:=hX b hb
   omega
  ·have hb:nmM (γ++[Nm.m (nmS γ1 1) (nmM γ1 1)]) _ b:=hb
   rw[e3] at hb
   exact⟨.inl hb,q.2.1 b hb⟩
 obtain⟨γ',h2,h3⟩:=hpush.addF (k:=kf) (l:=l) (by rw[List.getElem?_set_ne hne];exact hkf) (by rw[hlen];exact hbb)
 refine C4 rest _ _ _ (h i hi) ⟨γ',hfit.put h3 (fun t sv' ht=>?_) hd (hsv i γ').symm⟩
 have hb':=hb.1 _ (Fr.get_mem ht)
 rw[Sv.eqv h2 (by rw[hlen];exact hb')]
 exact Sv.ext (by rw[hS.len];exact hb')
theorem Ath {R:Prop} {c:Code} {K:Exit→S→Prop} {X:Type} (I:X→Prop) (F:X→S) (h:(∀x,I x→Aj P w0 ow n c (F x) K)→R) (k:∀x,I x→Aj P w0 ow n c (F x) K):R:=h k
theorem Sn {c:Code} {s s':S} {K:Exit→S→Prop} (hl:Fh w0 ow n s s') (h:Aj P w0 ow n c s' K):Aj P w0 ow n c s K:=fun a w hf=>h a w (hl a w hf)
theorem Gb {ops rest:List Oper} {o:Oper} {s s':S} {K:S→Prop} (hl:Fh w0 ow n s s') (h:Ah P w0 ow n ops o rest s' K):Ah P w0 ow n ops o rest s K:=fun a w hf=>h a w (hl a w hf)
end
theorem Sat.onnF {w0 w:World} {ow:Nat→Prop} {γ:List Nm} {hp:List Res} {j k m:Nat} {e:TypeId} {c:Cont} {vs:List Value} {l:List Fct} {n:Nat} (hS:Sat w0 ow γ hp w) (hj:hp[j]?=some (.onn e m c)) (hk:hp[k]?=some (.abs (fctRep l))) (hjk:j≠k) (hv:c.vals γ=vs) (hn:vs.length=n*m):
  ∃A cap γ',nmS γ j=.slice A n cap∧n≤cap∧nmB γ'=nmB γ∧nmS γ'=nmS γ∧Sat w0 ow γ' ((hp.set j .gone).set k (.abs (fctRep (l++[⟨.slice A n cap,n,vs⟩])))) w:=by
 obtain⟨A,cap,h1,h2,h3⟩:=Mr hS hj hv hn
 obtain⟨γ',eB,eS,h4⟩:=hS.absorbs (fs:=[⟨.slice A n cap,n,vs⟩]) (X:=fun b=>(nmS γ j).ownBlock=some b) hj hk hjk (fun b hb=>hb) fun f hf=>by rw[List.mem_singleton.1 hf];exact h3
 exact⟨A,cap,γ',h1,h2,eB,eS,h4⟩
theorem Sat.ownF {w0 w:World} {ow:Nat→Prop} {γ:List Nm} {hp:List Res} {j k:Nat} {e:TypeId} {c:Cont} {vs:List Value} {l:List Fct} (hS:Sat w0 ow γ hp w) (hj:hp[j]?=some (.own e c)) (hk:hp[k]?=some (.abs (fctRep l))) (hjk:j≠k) (hv:∀γ,c.vals γ=vs):
  ∃A cap γ',nmS γ j=.slice A vs.length cap∧vs.length≤cap∧nmB γ'=nmB γ∧nmS γ'=nmS γ∧Sat w0 ow γ' ((hp.set j .gone).set k (.abs (fctRep (l++[⟨.slice A vs.length cap,vs.length,vs⟩])))) w:=by
 obtain⟨A,cap,h1,h2,_,h3⟩:=N8 hS hj hv
 obtain⟨γ',eB,eS,h4⟩:=hS.absorbs (fs:=[⟨.slice A vs.length cap,vs.length,vs⟩]) (X:=fun b=>(nmS γ j).ownBlock=some b) hj hk hjk (fun b hb=>hb) fun f hf=>by rw[List.mem_singleton.1 hf];exact h3
 exact⟨A,cap,γ',h1,h2,eB,eS,h4⟩
end Go.Proofs.YtedaafmfjhjfmaaGreatDoor
