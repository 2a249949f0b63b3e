import Derived.Test.YtedaafmfjhjfmaaGreatDoorHb3
import Derived.Test.YtedaafmfjhjfmaaGreatDoorLn0
/- Layer 30 walked: partial. -/
namespace Go.Proofs.YtedaafmfjhjfmaaGreatDoor
open _root_.Go.Proofs.Tryz
open Go.RowKit
set_option linter.unusedSimpArgs false
set_option linter.unusedVariables false
theorem Pk (l:List SnR):vC (l.flatMap snV)=snL l:=by
 unfold vC snL
 rw[List.map_flatMap]
 congr 1
 funext x
 unfold snV snA
 rw[List.map_append,Oz]
 rfl
theorem Ae8 (a b:List SnR):snL (a++b)=snL a++snL b:=by
 unfold snL
 rw[List.flatMap_append]
theorem Ae9 (l:List SnR):∀v∈l.flatMap snV,v.oneCell'=true∧scalar v:=fun v hv=>by
 have h:At.v v∈snL l:=by
  rw[←Pk]
  exact List.mem_map_of_mem hv
 have:=of_eq_true (Wo (q:=fun x=>∀v,x=.v v→v.oneCell'=true∧scalar v) (fun v h1 h2 v' e=>by injection e with e;rw[←e];exact⟨h1,h2⟩) l)
 exact this _ h v rfl
theorem sSn:sz prog 60=45:=by kernel_rfl
theorem bSn:bz prog 60=200:=by kernel_rfl
theorem Afa {w0 w:World} {ow:Nat→Prop} {γ:List Nm} {hp:List Res} {kf:Nat} {J:List Fct} {out:SlV SnR} (hS:Sat w0 ow γ hp w) (hF:hp[kf]?=some (.abs (fctRep J))) (ho:OutOk J out):RdV w w.heap.size out.A (out.l.flatMap snV):=by
 rcases ho.1 with e|h
 ·rw[e]
  exact RdV.nil_
 ·obtain⟨_,_,_,hall⟩:=hS.holds kf _ hF
  obtain⟨A,c,h1,h2,h3,h4⟩:=hall _ h
  have h1:Value.slice out.A out.l.length out.c=.slice A out.l.length c:=h1
  injection h1 with e1 _ _
  rw[e1]
  intro hp
  obtain⟨b,off,g1,g2,g3⟩:=h4 hp
  exact⟨b,off,g1,by
   have:=(hS.mine kf _ b hF (by rw[g1] at*;exact g2)).2
   exact this,g3⟩
theorem Afb {P:Program} {w0:World} {ow:Nat→Prop} {n:Nat} {k m kf n':Nat} {e t:TypeId} {l:List At} {z:Cont} {x y:Operand} {ops:List Oper} {o:Oper} {rest:List Oper} {s:S} {K:S→Prop} {vs:List Value} {Fl:List Fct} (ho:o.op=.call {callee:=.builtin .append,args:=#[x,y],argTypes:=#[t,t]}) (hx:Fr.ev s.fr x=some (.x (.a (.o k)))) (hy:Fr.ev s.fr y=some (.x (.a (.v (.slice none 0 0)))))
  (hk:s.hp[k]?=some (.onn e m (.c l))) (ht:P.underlying t=some (.slice e)) (hm:0 < m) (hsz:sz P e=m) (hz:z.len=m) (hzo:ZOk P e z) (hb1:(l.length / m)*bz P e≤140737488355328) (hb2:l.length / m≤maxLen) (hd:dOk n o.dst) (hb:s.bnd)
  (hvl:∀γ,(Cont.c l).vals γ=vs) (hn:vs.length=n'*m) (hkf:s.hp[kf]?=some (.abs (fctRep Fl))) (hkk:k≠kf)
  (h:∀A cap,Ai P w0 ow n ops rest (Dn s.hp.length kf (.slice A n' cap) (Fl++[⟨.slice A n' cap,n',vs⟩]) (S.put ⟨s.fr,s.hp.set k .gone++[.onn e m (.c (l++[]))]⟩ o.dst (.x (.a (.o s.hp.length))))) K):Ah P w0 ow n ops o rest s K:=by
 rintro a w ⟨γ,hfit⟩ hw
 obtain⟨γ',w',hrun,hS',_,nm,hnm⟩:=Nq (P:=P) (t:=t) (ty:=o.type) (e:=e) (m:=m) (nd:=0) (k:=some k) (ct:=some (.c l)) (z:=z) (q:=.c []) (c':=.c (l++[])) (b:=.x (.a (.o k))) hfit.sat hb.2 ht hm
  (by simp only[Il,hk,and_self,if_true]) rfl (.slice none 0 0) (.inr ⟨rfl,rfl⟩) (by simp [Cont.len]) (fun x hx=>by cases hx) hsz hz hzo hb1 hb2 (fun x hx=>by cases hx)
 have e1:a.eval x=(Sv.x (.a (.o k))).val γ:=hfit.ev hx
 have e2:a.eval y=.slice none 0 0:=hfit.ev hy
 unfold wpList
 rw[if_pos hw]
 refine .inl ?_
 unfold Oper.wp
 rw[Tz x y t ho _ _ e1 e2 _ w' hrun]
 simp only[Oper.upon]
 have hS':Sat w0 ow γ' (s.hp.set k .gone++[.onn e m (.c (l++[]))]) w':=hS'
 have hf:=hfit.put (d:=o.dst) hS' (fun u sv hu=>by rw[hnm];exact Sv.ext (by rw[hfit.sat.len];exact hb.1 _ (Fr.get_mem hu))) hd (v:=.x (.a (.o s.hp.length))) rfl
 have hhp:(S.put ⟨s.fr,s.hp.set k .gone++[.onn e m (.c (l++[]))]⟩ o.dst (.x (.a (.o s.hp.length)))).hp=s.hp.set k .gone++[.onn e m (.c (l++[]))]:=by cases o.dst<;>rfl
 have hlk:(s.hp.set k .gone).length=s.hp.length:=List.length_set ..
 have hkl:kf < s.hp.length:=Ax hkf
 obtain⟨A,cap,h3⟩:=Wk (j:=s.hp.length) (k:=kf) (n':=n') (m:=m) (e:=e) (c:=.c (l++[])) (vs:=vs) (l:=Fl) (by rw[hhp,List.getElem?_append_right (by omega),hlk,Nat.sub_self];rfl) (by rw[List.append_nil];exact hvl) hn (by rw[hhp,List.getElem?_append_left (by omega),List.getElem?_set_ne hkk];exact hkf) (by omega) ⟨γ',hf⟩
 exact C4 rest _ _ _ (h A cap) h3
theorem Afc {P:Program} {w0:World} {ow:Nat→Prop} {n:Nat} {k m nd cp kf n':Nat} {e t:TypeId} {l:List At} {A:Option Addr} {vs us:List Value} {z:Cont} {x y:Operand} {ops:List Oper} {o:Oper} {rest:List Oper} {s:S} {K:S→Prop} {Fl:List Fct} (ho:o.op=.call {callee:=.builtin .append,args:=#[x,y],argTypes:=#[t,t]}) (hx:Fr.ev s.fr x=some (.x (.a (.o k)))) (hy:Fr.ev s.fr y=some (.x (.a (.v (.slice A nd cp)))))
  (hk:s.hp[k]?=some (.onn e m (.c l))) (ht:P.underlying t=some (.slice e)) (hm:0 < m) (hlen:vs.length=nd*m) (hnd:0 < nd) (hone:∀v∈vs,v.oneCell'=true∧scalar v) (hsz:sz P e=m) (hz:z.len=m) (hzo:ZOk P e z) (hb1:(l.length / m+nd)*bz P e≤140737488355328) (hb2:l.length / m+nd≤maxLen)
  (hv:∀γ w,Sat w0 ow γ s.hp w→RdV w w.heap.size A vs) (hd:dOk n o.dst) (hb:s.bnd)
  (hvl:∀γ,(Cont.c (l++vC vs)).vals γ=us) (hn:us.length=n'*m) (hkf:s.hp[kf]?=some (.abs (fctRep Fl))) (hkk:k≠kf)
  (h:∀A' cap,Ai P w0 ow n ops rest (Dn s.hp.length kf (.slice A' n' cap) (Fl++[⟨.slice A' n' cap,n',us⟩]) (S.put ⟨s.fr,s.hp.set k .gone++[.onn e m (.c (l++vC vs))]⟩ o.dst (.x (.a (.o s.hp.length))))) K):Ah P w0 ow n ops o rest s K:=by
 rintro a w ⟨γ,hfit⟩ hw
 have hvp:0 < vs.length:=by rw[hlen];exact Nat.mul_pos hnd hm
 obtain⟨b,off,hA,_,hcell⟩:=hv γ w hfit.sat hvp
 have hvv:∀γ:List Nm,(Cont.c (vC vs)).vals γ=vs:=fun γ=>Jy γ vs
 obtain⟨γ',w',hrun,hS',_,nm,hnm⟩:=Nq (P:=P) (t:=t) (ty:=o.type) (e:=e) (m:=m) (nd:=nd) (k:=some k) (ct:=some (.c l)) (z:=z) (q:=.c (vC vs)) (c':=.c (l++vC vs)) (b:=.x (.a (.o k))) hfit.sat hb.2 ht hm
  (by simp only[Il,hk,and_self,if_true]) rfl (.slice A nd cp) (.inl ⟨⟨b,off,none⟩,cp,by rw[hA],fun j u hu=>by rw[hvv] at hu;rw[Bu];exact hcell j u hu⟩) (by show (vC vs).length=_;rw[Ib];exact hlen)
  (fun x hx=>by
   obtain⟨v,hv,rfl⟩:=List.mem_map.1 hx
   exact (hone v hv).1) hsz hz hzo hb1 hb2 (fun x hx=>by
   obtain⟨v,hv,rfl⟩:=List.mem_map.1 hx
   trivial)
 have e1:a.eval x=(Sv.x (.a (.o k))).val γ:=hfit.ev hx
 have e2:a.eval y=.slice A nd cp:=hfit.ev hy
 unfold wpList
 rw[if_pos hw]
 refine .inl ?_
 unfold Oper.wp
 rw[Tz x y t ho _ _ e1 e2 _ w' hrun]
 simp only[Oper.upon]
 have hS':Sat w0 ow γ' (s.hp.set k .gone++[.onn e m (.c (l++vC vs))]) w':=hS'
 have hf:=hfit.put (d:=o.dst) hS' (fun u sv hu=>by rw[hnm];exact Sv.ext (by rw[hfit.sat.len];exact hb.1 _ (Fr.get_mem hu))) hd (v:=.x (.a (.o s.hp.length))) rfl
 have hhp:(S.put ⟨s.fr,s.hp.set k .gone++[.onn e m (.c (l++vC vs))]⟩ o.dst (.x (.a (.o s.hp.length)))).hp=s.hp.set k .gone++[.onn e m (.c (l++vC vs))]:=by cases o.dst<;>rfl
 have hlk:(s.hp.set k .gone).length=s.hp.length:=List.length_set ..
 have hkl:kf < s.hp.length:=Ax hkf
 obtain⟨A',cap,h3⟩:=Wk (j:=s.hp.length) (k:=kf) (n':=n') (m:=m) (e:=e) (c:=.c (l++vC vs)) (vs:=us) (l:=Fl) (by rw[hhp,List.getElem?_append_right (by omega),hlk,Nat.sub_self];rfl) hvl hn (by rw[hhp,List.getElem?_append_left (by omega),List.getElem?_set_ne hkk];exact hkf) (by omega) ⟨γ',hf⟩
 exact C4 rest _ _ _ (h A' cap) h3
def Bx (pl ge:Int):MgR:={zeroR with k:=7,pl:=pl,ge:=ge}
theorem Afd (pl ge:Int):(((mgA zeroR).set 0 (.v (.int .u8 7))).set 1 (.v (.int .i64 pl))).set 4 (.v (.int .i64 ge))=mgA (Bx pl ge):=rfl
theorem Ay5 (h:HbS):h.again.length≤1:=by
 unfold HbS.again
 split
 ·exact Nat.le_refl _
 ·exact Nat.zero_le _
theorem Afe (h:HbS):h.on.2.length≤1:=by
 unfold HbS.on
 split
 ·exact Ay5 _
 ·split
  ·show (if _ then _ else _:List SnS).length≤1
   split
   ·exact Nat.le_refl _
   ·exact Nat.zero_le _
  ·exact Nat.zero_le _
theorem Ay6 {Fs Gs:List Fct} {r:HbR} {q:SmR} (h:HbOk Fs r) (ht:SmOk (Fs++Gs) q) (hf:SmFine q.s):HbOk (Fs++Gs) {r with sm:=q}:=by
 have h':=h.more (Gs:=Fs++Gs) fun f hf=>List.mem_append_left _ hf
 exact⟨h'.above,h'.under,h'.next,h'.ty,ht,h.few,hf⟩
theorem Tq {w0 w:World} {ow B:Nat→Prop} {γ:List Nm} {hp:List Res} {A:Option Addr} {vs:List Value} (hS:Sat w0 ow γ hp w) (h3:FW w0 ow A vs) (hB:∀b,B b→G7 w0 ow b):FW w B A vs:=by
 refine⟨fun hp=>?_,fun hp a ha hb=>?_⟩
 ·obtain⟨b,off,h4,h5,h6⟩:=h3.rd hp
  have hno:=h3.far hp _ h4
  exact⟨b,off,h4,Nat.lt_of_lt_of_le h5 hS.keeps.size,fun j u hu=>(World.cell?_of_block (hS.keeps.block b h5 hno)).trans (h6 j u hu)⟩
 ·obtain⟨b,off,h4,h5,h6⟩:=h3.rd hp
  rw[h4] at ha
  cases ha
  rcases hB b hb with h7|h7
  ·exact h3.far hp _ h4 h7
  ·omega
theorem MgF.later {w0 w:World} {ow B:Nat→Prop} {γ:List Nm} {hp:List Res} {m:MgR} (h:MgF m w0 ow) (hS:Sat w0 ow γ hp w) (hB:∀b,B b→G7 w0 ow b):MgF m w B:=
 ⟨h.few,⟨h.ids.1,Tq hS h.ids.2 hB⟩,⟨h.ns.1,Tq hS h.ns.2 hB⟩,⟨h.ps.1,Tq hS h.ps.2 hB⟩,⟨h.xs.1,Tq hS h.xs.2 hB⟩⟩
theorem MgF.front {w0 w:World} {ow:Nat→Prop} {γ:List Nm} {A M:List Res} {m:MgR} (h:MgF m w0 ow) (hS:Sat w0 ow γ (A++M) w):MgF m w (fun b=>∃(k:Nat) (r:Res),A[k]?=some r∧r.has γ k b):=
 h.later hS fun b ⟨k,q,h1,h2⟩=>(hS.mine k q b (by rw[List.getElem?_append_left (Ax h1)];exact h1) h2).1
attribute [local irreducible] Ac Ad Ah Au Ao Aj Ai Al
attribute [local irreducible] A9 okV Ak erV Bq Tal.can Tal.st
section
variable {r:HbR} {g gs:Nat} {w:World} {B:Nat→Prop} {γ:List Nm} {Fs:List Fct}
theorem Aff (r:HbR) {g gs:Nat} {M:List Res} (n:Nat) (hM:∀q∈M,q.bnd 0):∀(j:Nat) (q:Res),(Bl n [0,1,2,3,4,5] (hbB g gs r++M))[j]?=some q→q=.gone∨(q.bnd 0∧(hbB g gs r).length≤j):=fun j q h=>by
 rcases Oj h with h|h
 ·exact .inl h
 have e:Bh [0,1,2,3,4,5] (hbB g gs r++M)=[.gone,.gone,.gone,.gone,.gone,.gone]++M:=rfl
 rw[e] at h
 match j,h with
 |0,h=>exact .inl (Option.some.inj h).symm
 |1,h=>exact .inl (Option.some.inj h).symm
 |2,h=>exact .inl (Option.some.inj h).symm
 |3,h=>exact .inl (Option.some.inj h).symm
 |4,h=>exact .inl (Option.some.inj h).symm
 |5,h=>exact .inl (Option.some.inj h).symm
 |j+6,h=>exact .inr ⟨hM q (List.mem_of_getElem? h),by show 6≤j+6;omega⟩
theorem Xk {M:List Res} {w0:World} {ow:Nat→Prop} (ok:HbOk Fs r) (hk:∀γ w,Sat w0 ow γ (hbB g gs r++M) w→Known w (fun b=>∃(k:Nat) (q:Res),(hbB g gs r)[k]?=some q∧q.has γ k b) Fs):∀γ w,Sat w0 ow γ (hbB g gs r++M) w→nmB γ 0=g→Calls prog 97 ([.x (.a (.p 0 0))].map (Sv.val γ)).toArray w fun e w'=>∃(x:HbR×SlV SnR×List Fct) (γ1:List Nm),HTellQ Fs r.s.on.1 r.s.on.2 x∧e=.returned ((Sv.x (.a (.v x.2.1.val))).val [])∧Sat w (fun b=>∃(k:Nat) (q:Res),(hbB g gs r)[k]?=some q∧q.has γ k b) γ1 (hbB g gs x.1++[.abs (fctRep x.2.2)]) w':=fun γ w hS hg=>by
 have:=Xh (hS.frontA (Ar g gs r)) (hk γ w hS) ok
 show Calls _ _ #[.pointer (some ⟨nmB γ 0,0,none⟩)] w _
 rw[hg]
 exact this
def Xl (Fs:List Fct) (r:HbR) (m:MgR) (g gs:Nat) (w:World) (B:Nat→Prop) (γ:List Nm):Prop:=
 Calls prog 98 (List.map (Sv.val (γ++[.m (.bool true) (fun _=>False)])) [.x (.a (.p 0 0)),.x (.g (mgA m))]).toArray w fun e w'=>∃(x:HbR×SlV SnR×List Fct) (γ1:List Nm),HTellQ Fs (r.s.partial_ m.mg).1 (r.s.partial_ m.mg).2.1 x∧e=.returned ((Sv.t [.a (.v x.2.1.val),.a (.v (erV (r.s.partial_ m.mg).2.2))]).val γ1)∧Sat w B γ1 (hbB g gs x.1++[.abs (fctRep x.2.2)]) w'
set_option maxRecDepth 100000 in
set_option maxHeartbeats 4000000 in
theorem Ay7 (m:MgR) (hS:Sat w B γ (hbB g gs r) w) (hw:Known w B Fs) (ok:HbOk Fs r) (hm:MgF m w B):Xl Fs r m g gs w B γ:=by
 unfold Xl
 have few:=hm.few
 have gm:=Bd (show m.sm.length=32 from few.sm)
 obtain⟨f0,f1,f2,f3,f4,f5,f38,f39,f40,f41,f42⟩:=C8 (show m.sm.length=32 from few.sm)
 have e9:(⟨none,0,[]⟩:SlV SnR).val=.slice none 0 0:=rfl
 have ee9:erV 9=.iface 91 (.int .i64 9):=En (by decide)
 have gt:(mgA (Bx m.pl m.ge)).length=43:=Bd rfl
 have dz:(mgA zeroR).drop 43=[]:=rfl
 have zb:=fun n=>Bm zeroR n
 simp only[At.bnd] at zb
 refine Cy (n:=50) (ι:=HbR×SlV SnR×List Fct) (HTellQ Fs (r.s.partial_ m.mg).1 (r.s.partial_ m.mg).2.1) (fun x=>.t [.a (.v x.2.1.val),.a (.v (erV (r.s.partial_ m.mg).2.2))]) (fun x=>hbB g gs x.1++[.abs (fctRep x.2.2)]) func98 rfl ntmps98 [.x (.a (.p 0 0)),.x (.g (mgA m))] (hS.fct0 (Ar g gs r)) (by show 2≤50;omega) ?_
 unfold hbB hbA
 by_cases hp:r.phase=0
 case neg=>
  have e0:r.s.partial_ m.mg=(r.s,[],9):=if_pos hp
  simp (maxSteps:=10^6) only[hp,undef,↓Ae,↓List.forall_mem_cons,↓A8,↓Be,push_cast,↓reduceIte,reduceCtorEq,Nat.reduceEqDiff,Nat.reduceLT,Nat.reduceAdd]
  refine⟨(r,⟨none,0,[]⟩,[]),by rw[e0];exact⟨rfl,rfl,by rw[List.append_nil];exact ok,D4 _,fun _=>rfl⟩,A6 [0,1,2,3,4,5,6] ?_⟩
  rw[e0]
  simp (maxSteps:=10^6) only[e9,ee9,↓Ae,↓Aw,↓List.forall_mem_cons,push_cast,↓reduceIte,reduceCtorEq,Nat.reduceEqDiff,Nat.reduceLT,Nat.reduceAdd]
 have hpt:(r.phase=0)=True:=eq_true hp
 have hn1:¬(r.s.phase≠0):=fun h=>h hp
 simp (maxSteps:=10^6) only[hpt,undef,↓Ae,↓List.forall_mem_cons,↓A8,↓Be,push_cast,↓reduceIte,reduceCtorEq,Nat.reduceLT,Nat.reduceAdd]
 (repeat (refine And.intro (by first|omega|decide) ?_))
 refine Ha 5 [(0,true),(1,true),(2,true),(3,true),(4,true)] (by kernel_rfl) (by kernel_rfl) ?_
 simp (maxSteps:=10^6) only[gm,undef,push_cast,↓reduceIte,reduceCtorEq,Nat.reduceEqDiff,Nat.reduceLT,Nat.reduceAdd]
 (repeat (refine And.intro (by first|omega|decide) ?_))
 refine Gb (s':=⟨[(17,.x (.a (.p 0 0))),(18,.x (.g (mgA m))),(0,.x (.a (.p 3 0))),(3,.x (.a (.p 7 0))),(4,.x (.a (.v (.slice none 0 0)))),(5,.x (.a (.v .nilIface)))],[.pin gs 120 (.c [.v (.int .i64 r.sm.place),.v (.int .i64 r.sm.dim),.v r.sm.spots.val,.o 1,.o 2]),.mp .i64 (iE r.sm.heard),.mp .i64 (mgE r.sm.taken),.pin g 149 (.c [.v (.int .i64 r.place),.v (.int .i64 r.gen),.v (.int .i64 r.parent),.v r.above.val,.v r.under.val,.o 5,.p 4 0,.p 0 0,.v (.int .i64 r.phase)]),.blk 170 (.c (tlA r.ty)),.mp .i64 (slE r.next),.abs (fctRep []),.blk 48 (.c (mgA m))]⟩) (Cn [3,4,5,0,1,2,6,7] (by simp (maxSteps:=10^6) only[rn,↓Ae,↓Aw,↓List.forall_mem_cons,↓Ag,↓A8,↓Ay,↓La,push_cast,↓reduceIte,reduceCtorEq,Nat.reduceEqDiff,Nat.reduceLT,Nat.reduceAdd])) ?_
 obtain⟨E,hE⟩:∃E:Int,E=r.sm.s.takeE m.mg:=⟨_,rfl⟩
 refine C9 (ι:=SmR×List Fct) (A:=smB gs r.sm) (M:=[.pin g 149 (.c [.v (.int .i64 r.place),.v (.int .i64 r.gen),.v (.int .i64 r.parent),.v r.above.val,.v r.under.val,.o 5,.p 4 0,.p 0 0,.v (.int .i64 r.phase)]),.blk 170 (.c (tlA r.ty)),.mp .i64 (slE r.next),.abs (fctRep []),.blk 48 (.c (mgA m))]) (g:=gs) (t:=120) (c:=.c (smA r.sm)) (l:=[]) 3 (Wy Fs r.sm m.mg) (fun x=>.x (.a (.v (erV (r.sm.s.takeE m.mg))))) (fun x=>smB gs x.1) (fun x=>x.2) rfl rfl rfl (fun x _=>⟨_,rfl⟩) (fun x _=>rfl) rfl An7 rfl (fun γ' w' hS' hg=>?_) (fun _ _=>rfl) (Aa rfl) (J6 gs r.sm) (fun x _=>J6 gs x.1) (by simp (maxSteps:=10^6) only[↓Ae,↓List.forall_mem_cons,↓Ag,↓A8,push_cast,Nat.reduceLT,Nat.reduceAdd]) (by
  show ∀x∈_,Sv.av 3 _
  simp (maxSteps:=10^6) only[↓List.forall_mem_cons,↓Ck,push_cast,reduceCtorEq,Nat.reduceLeDiff]) (by
  show ∀x∈_,Res.av 3 _
  simp (maxSteps:=10^6) only[↓Adr,↓Ae4,↓List.forall_mem_cons,↓Ck,push_cast,reduceCtorEq,Nat.reduceLeDiff]) ?_
 ·have hk:=D3 (A:=smB gs r.sm) hS' hw
  have:=Awv r.sm m (hS'.frontA (J6 gs r.sm)) hk ok.sm (hm.front hS')
  rw[Ae2 (hS'.frontA (J6 gs r.sm)) [.x (.g (mgA m))] (fun x hx γ γ'=>by rw[List.mem_singleton.1 hx,Bi,Bi]) γ'] at this
  show Calls _ _ #[.pointer (some ⟨nmB γ' 0,0,none⟩),(Sv.x (.g (mgA m))).val γ'] w' _
  rw[hg]
  exact this
 rintro⟨q1,G⟩ ⟨t1,k1⟩
 dsimp only at t1 k1
 rw[←hE]
 obtain⟨r1,hr1⟩:∃r1:HbR,r1={r with sm:=q1}:=⟨_,rfl⟩
 have es1:r1.s=r.s.sum m.mg:=by
  rw[hr1]
  show HbS.mk _ _ _ _ _ _ _ q1.s _=_
  rw[t1]
  rfl
 have ok1:HbOk (Fs++G) r1:=by
  rw[hr1]
  exact Ay6 ok k1 (by rw[t1];exact ok.fine.take m.mg)
 unfold smB smA
 by_cases hE0:E=0
 case neg=>
  have eE:erV E=.iface 91 (.int .i64 E):=En hE0
  have e0:r.s.partial_ m.mg=(r.s.sum m.mg,[],E):=(if_neg hn1).trans ((if_pos (show r.sm.s.takeE m.mg≠0 by rw[←hE];exact hE0)).trans (by rw[hE];rfl))
  rw[e0]
  simp (maxSteps:=10^6) only[eE,push_cast,↓reduceIte,Nat.reduceEqDiff,Nat.reduceLT,Nat.reduceAdd]
  refine⟨(r1,⟨none,0,[]⟩,G),⟨es1,rfl,ok1,D4 _,fun _=>rfl⟩,A6 [3,4,5,0,1,2,6] ?_⟩
  rw[hr1]
  simp (maxSteps:=10^6) only[e9,rn,↓Ae,↓Aw,↓List.forall_mem_cons,push_cast,↓reduceIte,reduceCtorEq,Nat.reduceEqDiff,Nat.reduceLT,Nat.reduceAdd]
 have hn2:¬(r.sm.s.takeE m.mg≠0):=fun h=>h (by rw[←hE];exact hE0)
 have e0:r.s.partial_ m.mg=(((r.s.sum m.mg).talC m.pl).on.1,⟨false,m.pl,{D1 7 with pl:=m.pl,ge:=m.ge}⟩::((r.s.sum m.mg).talC m.pl).on.2,0):=(if_neg hn1).trans (if_neg hn2)
 rw[hE0,Gc]
 simp (maxSteps:=10^6) only[push_cast,↓reduceIte,Nat.reduceLT,Nat.reduceAdd]
 refine Ac2 (s':=⟨[(0,.x (.a (.p 0 0))),(3,.x (.a (.p 7 0)))],[.pin g 149 (.c [.v (.int .i64 r1.place),.v (.int .i64 r1.gen),.v (.int .i64 r1.parent),.v r1.above.val,.v r1.under.val,.o 2,.p 1 0,.p 3 0,.v (.int .i64 r1.phase)]),.blk 170 (.c (tlA r1.ty)),.mp .i64 (slE r1.next),.pin gs 120 (.c [.v (.int .i64 r1.sm.place),.v (.int .i64 r1.sm.dim),.v r1.sm.spots.val,.o 4,.o 5]),.mp .i64 (iE r1.sm.heard),.mp .i64 (mgE r1.sm.taken),.abs (fctRep G),.blk 48 (.c (mgA m))]⟩) (Cn [3,4,5,0,1,2,6,7] (by rw[hr1];simp (maxSteps:=10^6) only[rn,↓Ae,↓Aw,↓List.forall_mem_cons,↓Ag,↓Ay,push_cast,↓reduceIte,reduceCtorEq,Nat.reduceEqDiff,Nat.reduceLT,Nat.reduceAdd])) ?_
 have fu:=hw.fw ok.under (fun e=>by rw[e];rfl)
 have vu:r.under.val=.slice r.under.A r.under.l.length r.under.c:=rfl
 have eu:r1.under=r.under:=by rw[hr1]
 have su:∀hp,Bg w B hp (.x (.a (.v r1.under.val))) (r.under.l.map (Value.int .i64)):=fun hp=>by
  rw[eu]
  exact Dq fu.2 _ _ (List.length_map ..) fu.1
 refine B3 [(0,true),(1,true),(2,true),(3,true),(4,true),(5,true),(6,false)] (by kernel_rfl) (by kernel_rfl) rfl (by kernel_rfl) ?_
 simp (maxSteps:=10^6) only[gm,f1,undef,push_cast,↓reduceIte,reduceCtorEq,Nat.reduceEqDiff,Nat.reduceLT,Nat.reduceAdd]
 (repeat (refine And.intro (by first|omega|decide) ?_))
 refine Kr rfl Kw rfl (Lb (l:=r.under.l) m.pl (by have:=ok.few.2.1;omega) (su _)) (Aa rfl) ?_
 apply S6 (P:=prog) (w0:=w) (ow:=B) (n:=50) (X:=HbR×List Fct) (fun y=>y.1.s=(r.s.sum m.mg).talC m.pl∧HbOk (Fs++y.2) y.1) (fun y=>⟨[(0,.x (.a (.p 0 0))),(3,.x (.a (.p 7 0))),(7,.x (.a (.p 8 0)))],[.pin g 149 (.c [.v (.int .i64 y.1.place),.v (.int .i64 y.1.gen),.v (.int .i64 y.1.parent),.v y.1.above.val,.v y.1.under.val,.o 2,.p 1 0,.p 3 0,.v (.int .i64 y.1.phase)]),.blk 170 (.c (tlA y.1.ty)),.mp .i64 (slE y.1.next),.pin gs 120 (.c [.v (.int .i64 y.1.sm.place),.v (.int .i64 y.1.sm.dim),.v y.1.sm.spots.val,.o 4,.o 5]),.mp .i64 (iE y.1.sm.heard),.mp .i64 (mgE y.1.sm.taken),.abs (fctRep y.2),.blk 48 (.c (mgA m)),.blk 48 (.c (mgA (Bx m.pl m.ge)))]⟩)
 ·intro J
  by_cases hin:m.pl∈r.under.l
  case neg=>
   have hb:Em m.pl r.under.l=false:=decide_eq_false hin
   simp (maxSteps:=10^6) only[hb,gm,f1,f4,Bo,Br,B0,B9,gt,Afd,undef,↓Ae,↓List.forall_mem_cons,↓mgA_one,↓Ag,↓A8,push_cast,↓reduceIte,reduceCtorEq,Nat.reduceEqDiff,Nat.reduceLT,Nat.reduceAdd]
   refine Hw [0,3,7] ?_
   simp (maxSteps:=10^6) only[push_cast,↓reduceIte,reduceCtorEq,Nat.reduceEqDiff]
   have et:(r.s.sum m.mg).talC m.pl=r1.s:=(if_neg hin).trans es1.symm
   exact J (r1,G) ⟨et.symm,ok1⟩
  have hb:Em m.pl r.under.l=true:=decide_eq_true hin
  simp (maxSteps:=10^6) only[hb,push_cast,↓reduceIte]
  (repeat (refine And.intro (by first|omega|decide) ?_))
  refine Ha 6 [(0,true),(1,true),(2,true),(3,true),(4,true),(5,true)] (by kernel_rfl) (by kernel_rfl) ?_
  simp (maxSteps:=10^6) only[gm,f1,undef,push_cast,↓reduceIte,reduceCtorEq,Nat.reduceEqDiff,Nat.reduceLT,Nat.reduceAdd]
  (repeat (refine And.intro (by first|omega|decide) ?_))
  have kG:∀γ w',Sat w B γ [.pin g 149 (.c [.v (.int .i64 r1.place),.v (.int .i64 r1.gen),.v (.int .i64 r1.parent),.v r1.above.val,.v r1.under.val,.o 2,.p 1 0,.p 3 0,.v (.int .i64 r1.phase)]),.blk 170 (.c (tlA r1.ty)),.mp .i64 (slE r1.next),.pin gs 120 (.c [.v (.int .i64 r1.sm.place),.v (.int .i64 r1.sm.dim),.v r1.sm.spots.val,.o 4,.o 5]),.mp .i64 (iE r1.sm.heard),.mp .i64 (mgE r1.sm.taken),.abs (fctRep G),.blk 48 (.c (mgA m))] w'→Known w' (fun b=>b=nmB γ 1) (Fs++G):=fun γ w' hS'=>by
   have k1:=Ms (D3 (A:=hbB g gs r1) (M:=[.abs (fctRep G),.blk 48 (.c (mgA m))]) hS' hw) (D2 (A:=hbB g gs r1) (M:=[.abs (fctRep G),.blk 48 (.c (mgA m))]) hS' (k:=0) rfl)
   intro f hf
   obtain⟨A,c,h1,h2,h3⟩:=k1 f hf
   refine⟨A,c,h1,h2,h3.rd,fun hp a ha hb=>h3.far hp a ha ⟨1,.blk 170 (.c (tlA r1.ty)),rfl,?_⟩⟩
   show some (nmB γ 1)=some a.block
   rw[show a.block=nmB γ 1 from hb]
  refine Sm (ι:=TalR×List Fct) 1 6 (fun x=>x.1.t=(if r1.ty.t.can m.pl=0 then r1.ty.t.came m.pl else r1.ty.t)∧TalOk ((Fs++G)++x.2) x.1) (fun _=>.x (.a (.v (erV (r1.ty.t.can m.pl))))) (fun x=>.c (tlA x.1)) (fun x=>x.2) rfl rfl rfl Ao4 rfl (fun γ' w' hS' γ0 h0 hS0=>?_) (fun _ _=>rfl) (of_eq_true (Ae r1.ty 0)) (fun x=>of_eq_true (Ae x.1 0)) (Aa rfl) (by simp (maxSteps:=10^6) only[↓Ae,↓List.forall_mem_cons,↓Ag,push_cast,Nat.reduceLT,Nat.reduceAdd]) ?_
  ·have:=Atv r1.ty m.pl hS0 (kG γ' w' hS') ok1.ty
   have e0:(List.map (Sv.val (γ0++[Nm.m (.bool true) (fun _=>False)])) [Sv.x (.a (.p 0 0)),.x (.a (.v (.int .i64 m.pl)))]).toArray=#[.pointer (some ⟨nmB γ' 1,0,none⟩),.int .i64 m.pl]:=by
    show #[Value.pointer (some ⟨nmB _ 0,0,none⟩),_]=_
    rw[Dv (by rw[hS0.len];show 0 < 1;omega),h0]
    rfl
   rw[e0] at this
   exact this
  rintro⟨tl,G1⟩ ⟨v1,v2⟩
  dsimp only at v1 v2
  obtain⟨r2,hr2⟩:∃r2:HbR,r2={r1 with ty:=tl}:=⟨_,rfl⟩
  have ok2:HbOk (Fs++(G++G1)) r2:=by rw[hr2,←List.append_assoc];exact Tp ok1 v2
  have es2:r2.s=(r.s.sum m.mg).talC m.pl:=by
   have e1:(r.s.sum m.mg).talC m.pl=({r1.s with tally:=if r1.ty.t.can m.pl=0 then r1.ty.t.came m.pl else r1.ty.t}:HbS):=by
    rw[←es1]
    exact if_pos (show m.pl∈r1.under.l by rw[eu];exact hin)
   rw[e1,hr2]
   show HbS.mk _ _ _ _ _ _ tl.t _ _=_
   rw[v1]
   rfl
  simp (maxSteps:=10^6) only[gm,f1,f4,Bo,Br,B0,B9,gt,Afd,undef,↓Ae,↓List.forall_mem_cons,↓mgA_one,↓Ag,↓A8,push_cast,↓reduceIte,reduceCtorEq,Nat.reduceEqDiff,Nat.reduceLT,Nat.reduceAdd]
  refine Hw [0,3,7] ?_
  simp (maxSteps:=10^6) only[push_cast,↓reduceIte,reduceCtorEq,Nat.reduceEqDiff]
  have J:=J (r2,G++G1) ⟨es2,ok2⟩
  dsimp only at J
  rw[hr2] at J
  exact J
 rintro⟨r2,G⟩ ⟨es2,ok2⟩
 dsimp only at es2 ok2 ⊢
 have zt:=fun n=>Bm (Bx m.pl m.ge) n
 simp only[At.bnd] at zt
 have za:=fun n=>Ck (Bx m.pl m.ge) n
 simp only[At.av] at za
 have esn:snL [⟨false,m.pl,Bx m.pl m.ge⟩]=.v (.bool false):: .v (.int .i64 m.pl)::mgA (Bx m.pl m.ge):=by
  unfold snL
  rw[List.flatMap_cons,List.flatMap_nil,List.append_nil]
  rfl
 refine Xd (ι:=HbR×SlV SnR×List Fct) (HTellQ (Fs++G) r2.s.on.1 r2.s.on.2) 9 [0,1,2,3,4,5] 7 (.rd 0 (.rd 1 (.rd 2 (.rd 5 (.rd 3 (.fk 4 (.wr 6 .nil) 6 (.wr 4 .nil))))))) (fun x=>⟨[(46,.x (.a (.o 9))),(48,.x (.a (.v x.2.1.val)))],[.pin g 149 (.c [.v (.int .i64 x.1.place),.v (.int .i64 x.1.gen),.v (.int .i64 x.1.parent),.v x.1.above.val,.v x.1.under.val,.o 2,.p 1 0,.p 3 0,.v (.int .i64 x.1.phase)]),.blk 170 (.c (tlA x.1.ty)),.mp .i64 (slE x.1.next),.pin gs 120 (.c [.v (.int .i64 x.1.sm.place),.v (.int .i64 x.1.sm.dim),.v x.1.sm.spots.val,.o 4,.o 5]),.mp .i64 (iE x.1.sm.heard),.mp .i64 (mgE x.1.sm.taken),.abs (fctRep G),.blk 48 (.c (mgA m)),.blk 48 (.c (mgA (Bx m.pl m.ge))),.onn 60 45 (.c (snL [⟨false,m.pl,Bx m.pl m.ge⟩])),.abs (fctRep x.2.2)]⟩) (by kernel_rfl) (by kernel_rfl) (Nat.le_refl 9) ?_ ?_
 ·simp (maxSteps:=10^6) only[gm,gt,f1,dz,Bo,F0,Hk,Br,B0,I7,undef,↓Ae,↓List.forall_mem_cons,↓Bm,↓Ag,↓A8,push_cast,↓reduceIte,reduceCtorEq,Nat.reduceEqDiff,Nat.reduceLT,Nat.reduceLeDiff,Nat.reduceAdd,Nat.reduceSub,Nat.reduceMul]
  refine⟨⟨of_eq_true (mgA_one _ _),Tn (ι:=HbR×SlV SnR×List Fct) (A:=hbB g gs r2) (M:=[.abs (fctRep G),.blk 48 (.c (mgA m)),.blk 48 (.c (mgA (Bx m.pl m.ge))),.onn 60 45 (.c (.v (.bool false):: .v (.int .i64 m.pl)::mgA (Bx m.pl m.ge)))]) (g:=g) (t:=149) (c:=.c (hbA r2)) (HTellQ (Fs++G) r2.s.on.1 r2.s.on.2) (fun x=>.x (.a (.v x.2.1.val))) (fun x=>hbB g gs x.1) (fun x=>x.2.2) rfl rfl (fun x _=>⟨_,rfl⟩) (fun x _=>rfl) rfl N2 rfl (Xk ok2 fun γ w hS=>Ms (D3 hS hw) (D2 hS (k:=0) rfl)) (fun x γ=>rfl) (Aa rfl) (Ar g gs r2) (fun x _=>Ar g gs x.1) (by simp (maxSteps:=10^6) only[↓Ae,↓List.forall_mem_cons,↓Bm,↓Ag,↓A8,push_cast,Nat.reduceLT,Nat.reduceAdd]) (by
    show ∀x∈_,Sv.av 6 _
    simp (maxSteps:=10^6) only[↓List.forall_mem_cons,↓Ck,push_cast,reduceCtorEq,Nat.reduceLeDiff]) (by
    show ∀x∈_,Res.av 6 _
    simp (maxSteps:=10^6) only[↓List.forall_mem_cons,↓Ck,push_cast]) (fun x _=>rfl) (Aff r2 9 (by simp (maxSteps:=10^6) only[↓List.forall_mem_cons,↓Bm,↓Ag,push_cast])) ?_⟩,Tn (ι:=HbR×SlV SnR×List Fct) (A:=hbB g gs r2) (M:=[.abs (fctRep G),.blk 48 (.c (mgA m)),.blk 48 (.c (mgA (Bx m.pl m.ge)))]) (g:=g) (t:=149) (c:=.c (hbA r2)) (HTellQ (Fs++G) r2.s.on.1 r2.s.on.2) (fun x=>.x (.a (.v x.2.1.val))) (fun x=>hbB g gs x.1) (fun x=>x.2.2) rfl rfl (fun x _=>⟨_,rfl⟩) (fun x _=>rfl) rfl N2 rfl (Xk ok2 fun γ w hS=>Ms (D3 hS hw) (D2 hS (k:=0) rfl)) (fun x γ=>rfl) (Aa rfl) (Ar g gs r2) (fun x _=>Ar g gs x.1) (by simp (maxSteps:=10^6) only[↓Ae,↓List.forall_mem_cons,↓Bm,↓Ag,↓A8,push_cast,Nat.reduceLT,Nat.reduceAdd]) (by
    show ∀x∈_,Sv.av 6 _
    simp (maxSteps:=10^6) only[↓List.forall_mem_cons,↓Ck,push_cast,reduceCtorEq,Nat.reduceLeDiff]) (by
    show ∀x∈_,Res.av 6 _
    simp (maxSteps:=10^6) only[↓List.forall_mem_cons,↓Ck,push_cast]) (fun x _=>rfl) (Aff r2 9 (by simp (maxSteps:=10^6) only[↓List.forall_mem_cons,↓Ag,push_cast])) ?_⟩
  ·rintro⟨r3,out,J⟩ hq
   unfold hbB hbA
   simp (maxSteps:=10^6) only[push_cast]
   refine⟨(r3,out,J),hq,Cn [0,1,2,3,4,5,6,7,8,9,10] ?_⟩
   simp (maxSteps:=10^6) only[esn,rn,↓Db,↓Gv,↓Ae,↓Aw,↓List.forall_mem_cons,↓Ag,↓Ay,push_cast,↓reduceIte,reduceCtorEq,Nat.reduceEqDiff,Nat.reduceLT,Nat.reduceAdd]
  ·rintro⟨r3,out,J⟩ hq
   unfold hbB hbA
   simp (maxSteps:=10^6) only[gt,Bo,F0,Hk,Br,I7,↓Ae,↓List.forall_mem_cons,↓Bm,↓Ag,↓A8,push_cast,↓reduceIte,Nat.reduceEqDiff,Nat.reduceLT,Nat.reduceLeDiff,Nat.reduceAdd,Nat.reduceMul]
   refine⟨of_eq_true (mgA_one _ _),(r3,out,J),hq,Cn [0,1,2,3,4,5,6,7,8,10,9] ?_⟩
   simp (maxSteps:=10^6) only[esn,rn,↓Db,↓Gv,↓Ae,↓Aw,↓List.forall_mem_cons,↓Ag,↓Ay,push_cast,↓reduceIte,reduceCtorEq,Nat.reduceEqDiff,Nat.reduceLT,Nat.reduceAdd]
 rintro⟨r3,out,J⟩ ⟨u1,u2,u3,u4,u5⟩
 dsimp only at u1 u2 u3 u4 u5 ⊢
 have l45:(snL [⟨false,m.pl,Bx m.pl m.ge⟩]).length=45:=Mt fun y hy=>by rw[List.mem_singleton.1 hy];rfl
 have zl:(Cont.c (.v (.bool false):: .v (.int .i64 0)::mgA zeroR)).len=45:=rfl
 have zk:=of_eq_true I7
 have hout:OutOk (G++J) out:=u4.more fun f hf=>List.mem_append_right _ hf
 have hsm:∀y∈out.l,y.m.sm.length=32:=fun y hy=>(u4.2.1 y hy).s
 have hfew:out.l.length < 1000:=by
  have e:out.l.length=(out.l.map SnR.s).length:=(List.length_map ..).symm
  rw[e,u2]
  have:=Afe r2.s
  omega
 have hsT:∀y∈[SnR.mk false m.pl (Bx m.pl m.ge)],y.m.sm.length=32:=fun y hy=>by rw[List.mem_singleton.1 hy];rfl
 have hsA:∀y∈[SnR.mk false m.pl (Bx m.pl m.ge)]++out.l,y.m.sm.length=32:=fun y hy=>(List.mem_append.1 hy).elim (hsT y) (hsm y)
 have hmT:∀y∈[SnR.mk false m.pl (Bx m.pl m.ge)],MOk [] y.m:=fun y hy=>by
  rw[List.mem_singleton.1 hy]
  exact⟨rfl,.inl rfl,.inl rfl,.inl rfl,.inl rfl,⟨rfl,Nat.zero_le _,Nat.zero_le _,Nat.zero_le _,Nat.zero_le _⟩⟩
 rw[e0]
 have okA:∀f:Fct,HbOk (Fs++((G++J)++[f])) r3:=fun f=>u3.more fun f hf=>by
  rw[List.append_assoc] at hf
  rcases List.mem_append.1 hf with hf|hf
  ·exact List.mem_append_left _ hf
  ·exact List.mem_append_right _ (List.mem_append_left _ hf)
 have vo:out.val=.slice out.A out.l.length out.c:=rfl
 have mrg:∀v:Value,Fh w B 50 (⟨[(46,.x (.a (.o 9))),(48,.x (.a (.v v)))],[.pin g 149 (.c [.v (.int .i64 r3.place),.v (.int .i64 r3.gen),.v (.int .i64 r3.parent),.v r3.above.val,.v r3.under.val,.o 2,.p 1 0,.p 3 0,.v (.int .i64 r3.phase)]),.blk 170 (.c (tlA r3.ty)),.mp .i64 (slE r3.next),.pin gs 120 (.c [.v (.int .i64 r3.sm.place),.v (.int .i64 r3.sm.dim),.v r3.sm.spots.val,.o 4,.o 5]),.mp .i64 (iE r3.sm.heard),.mp .i64 (mgE r3.sm.taken),.abs (fctRep G),.blk 48 (.c (mgA m)),.blk 48 (.c (mgA (Bx m.pl m.ge))),.onn 60 45 (.c (snL [⟨false,m.pl,Bx m.pl m.ge⟩])),.abs (fctRep J)]⟩:S) ⟨[(46,.x (.a (.o 9))),(48,.x (.a (.v v)))],goneAll [6,10] [.pin g 149 (.c [.v (.int .i64 r3.place),.v (.int .i64 r3.gen),.v (.int .i64 r3.parent),.v r3.above.val,.v r3.under.val,.o 2,.p 1 0,.p 3 0,.v (.int .i64 r3.phase)]),.blk 170 (.c (tlA r3.ty)),.mp .i64 (slE r3.next),.pin gs 120 (.c [.v (.int .i64 r3.sm.place),.v (.int .i64 r3.sm.dim),.v r3.sm.spots.val,.o 4,.o 5]),.mp .i64 (iE r3.sm.heard),.mp .i64 (mgE r3.sm.taken),.abs (fctRep G),.blk 48 (.c (mgA m)),.blk 48 (.c (mgA (Bx m.pl m.ge))),.onn 60 45 (.c (snL [⟨false,m.pl,Bx m.pl m.ge⟩])),.abs (fctRep J)]++[.abs (fctRep (G++J))]⟩:=fun v=>Sk 6 10 rfl rfl (by simp (maxSteps:=10^6) only[↓Db,↓Ae,↓List.forall_mem_cons,↓Ag,push_cast,Nat.reduceLT,Nat.reduceAdd])
 by_cases h0:out.l=[]
 ·have hn:=u5 h0
  have vo:out.val=.slice none 0 0:=by rw[hn];rfl
  rw[vo]
  simp (maxSteps:=10^6) only[push_cast,↓reduceIte,Nat.reduceEqDiff]
  refine Gb (mrg _) ?_
  simp (maxSteps:=10^6) only[goneAll,push_cast]
  refine Afb (k:=9) (m:=45) (e:=60) (l:=snL [⟨false,m.pl,Bx m.pl m.ge⟩]) (kf:=11) (n':=1) (vs:=[SnR.mk false m.pl (Bx m.pl m.ge)].flatMap snV) (Fl:=G++J) rfl rfl rfl rfl underlying55 (by omega) sSn zl zk (by rw[l45,bSn];omega) (by rw[l45];unfold maxLen;omega) (Aa rfl) (by simp (maxSteps:=10^6) only[↓Db,↓Ae,↓List.forall_mem_cons,↓Ag,push_cast,Nat.reduceLT,Nat.reduceAdd]) (fun γ=>I6 γ _) (Id hsT) rfl (by decide) fun A1 cap1=>?_
  rw[List.append_nil]
  simp (maxSteps:=10^6) only[Dn,Ex,Res.sub,Cont.sub,Sv.sub,Sc.sub,At.sub,Ie,If,I5,Ld,J0,push_cast,↓reduceIte,Nat.reduceEqDiff,Nat.reduceLT,Nat.reduceAdd]
  refine⟨(r3,⟨A1,cap1,[SnR.mk false m.pl (Bx m.pl m.ge)]⟩,(G++J)++[⟨.slice A1 1 cap1,1,[SnR.mk false m.pl (Bx m.pl m.ge)].flatMap snV⟩]),⟨by rw[u1,es2],?_,okA _,(OutOk.of (Fs:=[]) (A:=A1) (cap:=cap1) (L:=[SnR.mk false m.pl (Bx m.pl m.ge)]) hmT (by show 1≤1000;omega)).more fun f hf=>List.mem_append_right _ (show f∈[(⟨.slice A1 1 cap1,1,[SnR.mk false m.pl (Bx m.pl m.ge)].flatMap snV⟩:Fct)] from hf),fun h=>by cases h⟩,A6 [0,1,2,3,4,5,11] ?_⟩
  ·show [SnS.mk false m.pl (Bx m.pl m.ge).mg]=_
   rw[←es2,←u2,h0]
   rfl
  ·have vv:(⟨A1,cap1,[SnR.mk false m.pl (Bx m.pl m.ge)]⟩:SlV SnR).val=.slice A1 1 cap1:=rfl
   simp (maxSteps:=10^6) only[vv,Gc,↓Ae,↓Aw,↓List.forall_mem_cons,push_cast,↓reduceIte,reduceCtorEq,Nat.reduceEqDiff,Nat.reduceLT,Nat.reduceAdd]
 have h1:0 < out.l.length:=List.length_pos_iff.2 h0
 rw[vo]
 simp (maxSteps:=10^6) only[push_cast,↓reduceIte,Nat.reduceEqDiff]
 refine Gb (mrg _) ?_
 simp (maxSteps:=10^6) only[goneAll,push_cast]
 refine Afc (k:=9) (m:=45) (nd:=out.l.length) (cp:=out.c) (e:=60) (A:=out.A) (vs:=out.l.flatMap snV) (l:=snL [⟨false,m.pl,Bx m.pl m.ge⟩]) (kf:=11) (n':=1+out.l.length) (us:=([SnR.mk false m.pl (Bx m.pl m.ge)]++out.l).flatMap snV) (Fl:=G++J) rfl rfl rfl rfl underlying55 (by omega) (Id hsm) h1 (Ae9 _) sSn zl zk (by rw[l45,bSn];have:=u4.2.2;omega) (by rw[l45];unfold maxLen;have:=u4.2.2;omega) (fun γ' w' hS'=>Afa (kf:=11) hS' rfl hout) (Aa rfl) (by simp (maxSteps:=10^6) only[↓Db,↓Ae,↓List.forall_mem_cons,↓Ag,push_cast,Nat.reduceLT,Nat.reduceAdd]) (fun γ=>by rw[Pk,←Ae8];exact I6 γ _) (by rw[Id hsA,List.length_append];rfl) rfl (by decide) fun A1 cap1=>?_
 rw[Pk]
 have few:out.l.length < 1000:=hfew
 have eL:([SnR.mk false m.pl (Bx m.pl m.ge)]++out.l).length=1+out.l.length:=by rw[List.length_append];rfl
 have hmA:∀y∈[SnR.mk false m.pl (Bx m.pl m.ge)]++out.l,MOk (G++J) y.m:=fun y hy=>(List.mem_append.1 hy).elim (fun h=>(hmT y h).more fun f hf=>by cases hf) fun h=>(hout.2.1 y h)
 have hOut:=OutOk.of (A:=A1) (cap:=cap1) (L:=[SnR.mk false m.pl (Bx m.pl m.ge)]++out.l) hmA (by rw[eL];omega)
 rw[eL] at hOut
 simp (maxSteps:=10^6) only[Dn,Ex,Res.sub,Cont.sub,Sv.sub,Sc.sub,At.sub,Ie,If,I5,Ld,J0,push_cast,↓reduceIte,Nat.reduceEqDiff,Nat.reduceLT,Nat.reduceAdd]
 refine⟨(r3,⟨A1,cap1,[SnR.mk false m.pl (Bx m.pl m.ge)]++out.l⟩,(G++J)++[⟨.slice A1 (1+out.l.length) cap1,1+out.l.length,([SnR.mk false m.pl (Bx m.pl m.ge)]++out.l).flatMap snV⟩]),⟨by rw[u1,es2],?_,okA _,hOut,fun h=>by cases h⟩,A6 [0,1,2,3,4,5,11] ?_⟩
 ·show SnS.mk false m.pl (Bx m.pl m.ge).mg::out.l.map SnR.s=_
  rw[←es2,←u2]
  rfl
 ·have vv:(⟨A1,cap1,SnR.mk false m.pl (Bx m.pl m.ge)::out.l⟩:SlV SnR).val=.slice A1 (1+out.l.length) cap1:=by
   show Value.slice A1 (out.l.length+1) cap1=_
   rw[Nat.add_comm]
  simp (maxSteps:=10^6) only[vv,Gc,↓Ae,↓Aw,↓List.forall_mem_cons,push_cast,↓reduceIte,reduceCtorEq,Nat.reduceEqDiff,Nat.reduceLT,Nat.reduceAdd]
end
end Go.Proofs.YtedaafmfjhjfmaaGreatDoor
