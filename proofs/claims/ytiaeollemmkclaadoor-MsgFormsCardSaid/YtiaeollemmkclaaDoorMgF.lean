import Derived.Test.YtiaeollemmkclaaDoorMq8
import Derived.Test.YtiaeollemmkclaaDoorMgE
import Derived.Test.YtiaeollemmkclaaDoorPreA
/- Layer 16: what a caller sees of the document's Same and Decode, and of law 16's takeMsg. -/
namespace Go.Proofs.YtiaeollemmkclaaDoor
open Go.RowKit
set_option linter.unusedSimpArgs false
set_option linter.unusedVariables false
theorem Kk {w0:World} {hp:List Res} {s1 s2:Sv} {m n:MgS} (h1:Dg w0 hp s1 m) (h2:Dg w0 hp s2 n):Ad Tryd.prog w0 No 45 [s1,s2] hp (.x (.a (.v (.bool (Gc m n))))) hp:=Ca fun γ w hS=>by
 obtain⟨a,e1,k1,rfl⟩:=h1 γ w hS
 obtain⟨b,e2,k2,rfl⟩:=h2 γ w hS
 have e:List.map (Sv.val γ) [s1,s2]=List.map (Sv.val []) [.x (.g (mgA a)),.x (.g (mgA b))]:=by
  simp only[List.map_cons,List.map_nil,e1,e2,Es]
 rw[e]
 exact Bb1 a b w k1 k2
def Kl (q:Option MgS):Value:=.int .i64 (I2 q)
theorem Bb4 (A:Option Addr) (cp:Nat) (w:World):Calls Tryd.prog 42 (List.map (Sv.val []) [.x (.a (.v (.slice A 0 cp)))]).toArray w fun e w'=>e=.returned ((Sv.t [.g (mgA zeroR),.a (.v (.int .i64 3))]).val [])∧Below w.heap.size w w':=by
 have zb:=fun (m:MgR) n=>Co m n
 simp only[At.bnd] at zb
 refine By (n:=184) Tryd.func42 rfl Tryd.ntmps42 [.x (.a (.v (.slice A 0 cp)))] (by simp) (.t [.g (mgA zeroR),.a (.v (.int .i64 3))]) (fun γ=>by
  show Value.tuple #[Sc.val γ (.g (mgA zeroR)),_]=Value.tuple #[Sc.val [] (.g (mgA zeroR)),_]
  rw[show Sc.val γ (.g (mgA zeroR))=Sc.val [] (.g (mgA zeroR)) from Kd zeroR γ []]
  rfl) ?_
 simp (maxSteps:=10^6) only[Aq,Jq,B4,B5,undef,push_cast,↓Int.cast_ofNat_Int,Int.cast_ofNat_Int,↓reduceIte,reduceCtorEq,Nat.reduceEqDiff,Nat.reduceLT]
 exact of_eq_true (C1 _ _)
theorem Bb5 (Fs:List Fct):MOk Fs zeroR:=⟨rfl,.inl rfl,.inl rfl,.inl rfl,.inl rfl,⟨rfl,Nat.zero_le _,Nat.zero_le _,Nat.zero_le _,Nat.zero_le _⟩⟩
theorem T4 {w0:World} {hp:List Res} {sv:Sv} {l:List UInt8} (hl:l.length≤100000) (hbr:∀r∈hp,Res.bnd hp.length r) (h:Cx w0 No hp sv (l.map vU8)):
  ∀γ w,Sat w0 No γ hp w→Calls Tryd.prog 42 (List.map (Sv.val γ) [sv]).toArray w fun e w'=>∃(x:MgR×List Fct) (δ:List Nm),(x.1.mg=(E0 l).getD Bt∧MOk x.2 x.1)∧e=.returned ((Sv.t [.g (mgA x.1),.a (.v (Kl (E0 l)))]).val (γ++δ))∧Sat w0 No (γ++δ) (hp++[.abs (fctRep x.2)]) w':=fun γ w hS=>by
 obtain⟨A,c,e1,b1,r1⟩:=h γ w hS
 rw[List.length_map] at e1 b1
 have e:List.map (Sv.val γ) [sv]=List.map (Sv.val []) [.x (.a (.v (.slice A l.length c)))]:=by simp only[List.map_cons,List.map_nil,e1];rfl
 rw[e]
 have same:∀(m:MgR) (z:Value) (γ1 γ2:List Nm),(Sv.t [.g (mgA m),.a (.v z)]).val γ1=(Sv.t [.g (mgA m),.a (.v z)]).val γ2:=fun m z γ1 γ2=>by
  show Value.tuple #[Sc.val γ1 (.g (mgA m)),_]=Value.tuple #[Sc.val γ2 (.g (mgA m)),_]
  rw[show Sc.val γ1 (.g (mgA m))=Sc.val γ2 (.g (mgA m)) from Kd m γ1 γ2]
  rfl
 match l,hl,r1 with
 |[],_,_=>
  refine (Bb4 A c w).mono fun en w' ⟨he,hb⟩=>⟨(zeroR,[]),[.m (.bool true) fun _=>False],⟨rfl,Bb5 _⟩,he.trans (congrArg _ (same ..)),?_⟩
  have:=(hS.later hb).pack [] hbr (R:=fctRep []) (x:=.bool true) (B:=fun _=>False) (fun b h=>h.elim) ⟨rfl,fun f hf=>by cases hf⟩
  exact this
 |k::t,hl,r1=>
  refine (Bb0 k t A c w (k::t) rfl hl b1 r1).mono fun en w' ⟨x,γ1,h1,h2,h3⟩=>⟨x,γ1,h1,h2.trans (congrArg _ (same ..)),?_⟩
  exact hS.back [] (X:=No) (fun b h=>h.elim) h3 hbr (fun r hr=>by rw[List.mem_singleton.1 hr];trivial)
theorem Ae1 {l:List UInt8} {m:MgS} (h:Ep l=some m):m.Few:=by
 obtain⟨hc,_,t,_,hr⟩:=Ad1 h
 have hs:=Xh (Aj m.k) (m:={Bt with k:=m.k}) (st:=(t,false)) rfl
 rw[hr] at hs
 rw[←Ad2] at hc
 unfold G3 at hc
 simp only[Bool.and_eq_true,decide_eq_true_eq] at hc
 obtain⟨⟨⟨⟨⟨_,_⟩,h1⟩,h2⟩,h3⟩,h4⟩:=hc
 have:=Abv h2
 have:=V3 h3
 exact⟨hs,by omega,by omega,by omega,by omega⟩
theorem Bb6 {m:MgR} (h:m.sm.length=32):((((gv7 m).set 38 (.v (.slice m.ids.A m.ids.l.length m.ids.c))).set 39 (.v (.slice m.ns.A m.ns.l.length m.ns.c))).set 41 (.v (.slice m.xs.A m.xs.l.length m.xs.c))).set 42 (.v (.int .i64 m.re))=mgJ m (.v (.slice m.ids.A m.ids.l.length m.ids.c)) (.v (.slice none 0 0)):=by
 unfold gv7
 rw[(Hi _ _ _ _ _ _ _ _ _ _ _ _ _ h).2.2.2.2.2.2.1,(Hi _ _ _ _ _ _ _ _ _ _ _ _ _ h).2.2.2.2.2.2.2.1,(Hi _ _ _ _ _ _ _ _ _ _ _ _ _ h).2.2.2.2.2.2.2.2.2.1,(Hi _ _ _ _ _ _ _ _ _ _ _ _ _ h).2.2.2.2.2.2.2.2.2.2]
 rfl
attribute [local irreducible] Af Ad Av Bh Bf A6 Aw A9
attribute [local irreducible] mgA mgJ gv6 gv7
section
set_option maxRecDepth 100000 in
set_option maxHeartbeats 4000000 in
theorem Bb7 (a:MgR) (w:World) (ha:a.Ok w):Calls Tryd.prog 46 (List.map (Sv.val []) [.x (.g (mgA a))]).toArray w fun e w'=>∃γ1,e=.returned ((Sv.x (.g (mgJ a (.v a.ids.val) (.o 0)))).val γ1)∧Sat w No γ1 [.onn 166 2 (.c (pcs a.ps.l))] w':=by
 obtain⟨f0,f1,f2,f3,f4,f5,f38,f39,f40,f41,f42⟩:=Dw ha.s
 have fl:=Cj ha.s
 have fs:=Gw ha.s
 have hfs:=ha.s
 have zb:=fun (m:MgR) n=>Co m n
 have jb:=fun m a b n=>Tu m a b n
 simp only[At.bnd] at zb jb
 have vi:a.ids.val=.slice a.ids.A a.ids.l.length a.ids.c:=rfl
 have vn:a.ns.val=.slice a.ns.A a.ns.l.length a.ns.c:=rfl
 have vp:a.ps.val=.slice a.ps.A a.ps.l.length a.ps.c:=rfl
 have vx:a.xs.val=.slice a.xs.A a.xs.l.length a.xs.c:=rfl
 have z6:=Aex a
 have z7:=Aey a
 have z8:=Bb6 ha.s
 have g6:=Aez a
 have g7:=Ae0 ha.s
 have jl:=fun x y=>Xt ha.s x y
 have jg:=fun x y=>(Xu ha.s x y).2
 have js:=fun x y=>(Xv ha.s x y).2
 have few:=ha.ps.few
 refine Cy (n:=46) Tryd.func46 rfl Tryd.ntmps46 _ (Sat.init w No) (by simp) (.x (.g (mgJ a (.v a.ids.val) (.o 0)))) [.onn 166 2 (.c (pcs a.ps.l))] ?_
 simp (maxSteps:=10^6) only[fl,f0,f1,f2,f3,f4,f5,f38,f39,f41,f42,fs,hfs,zb,vi,vn,vx,↓Ba,jb,Aq,Jq,B4,B5,z6,z7,z8,g6,g7,jl,undef,push_cast,↓reduceIte,reduceCtorEq,Nat.reduceEqDiff,Nat.reduceLT,Nat.reduceLeDiff,Nat.reduceAdd]
 refine⟨cast (Aeu a _ _ _).symm ⟨rfl,rfl⟩,?_⟩
 (repeat (refine And.intro (by first|omega|decide) ?_))
 refine Xb 2 40 83 166 2 _ (.c (pcs [])) (by decide) rfl (Xw ha.s _ _).2 (by rw[Jd];rfl) (by simp (maxSteps:=10^6) only[zb,jb,push_cast,Nat.reduceLT,Nat.reduceAdd]) ?_
 simp (maxSteps:=10^6) only[js,push_cast,Nat.reduceAdd]
 have F:=FLm.of Jc (by decide) ha.ps.rd
 refine Bu (ι:=Nat) (fun i=>⟨[(1,.x (.a (.p 0 0))),(2,.x (.a (.p 1 0))),(3,.x (.a (.p 2 0))),(4,.x (.a (.v (.int .i64 i))))],[.blk 89 (.c (mgA a)),.blk 83 (.c (mgA zeroR)),.blk 83 (.c (mgJ a (.v (.slice a.ids.A a.ids.l.length a.ids.c)) (.o 3))),.onn 166 2 (.c (pcs (a.ps.l.take i)))]⟩)
  (fun i=>i≤a.ps.l.length) (fun i=>a.ps.l.length - i) 0 [0,1,2,3] (Nat.zero_le _) ?_ ?_
 ·simp (maxSteps:=10^6) only[zb,↓Ak,jb,↓Js,List.take_zero,push_cast,↓Int.cast_ofNat_Int,Int.cast_ofNat_Int,↓reduceIte,reduceCtorEq,Nat.reduceEqDiff,Nat.reduceLT,Nat.reduceAdd]
  done
 intro i hi
 by_cases hlt:(i:Int) < (a.ps.l.length:Int)
 ·have hil:i < a.ps.l.length:=by omega
  have i0:(0:Int)≤(i:Int):=by omega
  obtain⟨w1,w2⟩:=F.whole i hil
  have w1:D0 w (Ar a.ps.A (i*2)) 2 0=[.v (.int .i64 (ix a.ps.l i).1),.v (vU64 (ix a.ps.l i).2)]:=w1
  have hA:=F.some_ (by omega)
  have hpl:(a.ps.l.take i).length=i:=by rw[List.length_take,Nat.min_eq_left hi]
  have e3:i*2 / 2=i:=Nat.mul_div_cancel _ (by omega)
  have d1:(i+1)*16≤140737488355328:=by omega
  have d2:i+1≤2 ^ 63 - 1:=by omega
  have hap:=Abo a.ps.l i hil
  simp (maxSteps:=10^6) only[fl,f40,vp,hlt,undef,push_cast,↓reduceIte,reduceCtorEq,Nat.reduceEqDiff,Nat.reduceLT,Nat.reduceAdd]
  (repeat (refine And.intro (by first|omega|decide) ?_))
  refine Ps 4 [3] 10 (.rd 0 (.rd 1 (.rd 2 (.rd 3 (.rd 4 (.rd 5 (.rd 6 (.wr 7 (.wr 8 (.rd 9 .nil)))))))))) ⟨[(1,.x (.a (.p 0 0))),(2,.x (.a (.p 1 0))),(3,.x (.a (.p 2 0))),(4,.x (.a (.v (.int .i64 i)))),(43,.x (.a (.o 4))),(44,.x (.a (.p 2 40)))],[.blk 89 (.c (mgA a)),.blk 83 (.c (mgA zeroR)),.blk 83 (.c (mgJ a (.v (.slice a.ids.A a.ids.l.length a.ids.c)) (.o 3))),.gone,.onn 166 2 (.c (pcs (a.ps.l.take (i+1))))]⟩ (by kernel_rfl) (by kernel_rfl) (Nat.le_refl 4) ?_ ?_
  ·simp (maxSteps:=10^6) only[fl,f40,zb,vp,jb,hlt,i0,w1,w2,hA,hpl,e3,d1,d2,hap,jl,jg,Ag,Sl,Db,undef,push_cast,↓Int.toNat_natCast,↓reduceIte,reduceCtorEq,Nat.reduceEqDiff,Nat.reduceLT,Nat.reduceLeDiff,Nat.reduceAdd,Nat.reduceSub,Nat.reduceMul]
   (repeat (refine And.intro (by first|omega|decide) ?_))
   refine Il [0,1,2,3,5] ?_
   simp (maxSteps:=10^6) only[zb,↓Ak,jb,↓Js,Bq,push_cast,↓reduceIte,reduceCtorEq,Nat.reduceEqDiff,Nat.reduceLT,Nat.reduceAdd]
   done
  ·simp (maxSteps:=10^6) only[jl,js,undef,push_cast,↓reduceIte,Nat.reduceEqDiff,Nat.reduceLT,Nat.reduceAdd,Int.reduceNeg]
   (repeat (refine And.intro (by first|omega|decide) ?_))
   refine Bd (i+1) [0,1,2,4] (by omega) (by omega) ?_
   simp (maxSteps:=10^6) only[zb,↓Ak,jb,↓Js,Bq,push_cast,↓reduceIte,reduceCtorEq,Nat.reduceEqDiff,Nat.reduceLT,Nat.reduceAdd]
   done
 ·obtain rfl:i=a.ps.l.length:=by omega
  simp (maxSteps:=10^6) only[fl,f40,vp,hlt,List.take_length,B5,jl,undef,push_cast,↓reduceIte,reduceCtorEq,Nat.reduceEqDiff,Nat.reduceLT,Nat.reduceAdd]
  refine⟨cast (Aeu a _ _ _).symm ⟨rfl,rfl⟩,Bp [3] ?_⟩
  simp (maxSteps:=10^6) only[jb,Aev,Bq,push_cast,↓reduceIte,Nat.reduceLT]
  done
def svL (m:MgS) (i n p x:At):Sv:=.x (.g (mgL (.v (vU8 m.k)) (.v (.int .i64 m.pl)) (.v (.int .i64 m.ot)) (.v (.int .i64 m.cl)) (.v (.int .i64 m.ge)) (.v (vU64 m.nu)) m.sm i n p x (.v (.int .i64 m.re))))
theorem Ae2:svL Bt (.v (.slice none 0 0)) (.v (.slice none 0 0)) (.v (.slice none 0 0)) (.v (.slice none 0 0))=.x (.g (mgA zeroR)):=by unfold mgA;rfl
theorem P9 (m:MgS) (i n p x:At) (γ:List Nm):(svL m i n p x).val γ=.agg ([vU8 m.k,.int .i64 m.pl,.int .i64 m.ot,.int .i64 m.cl,.int .i64 m.ge,vU64 m.nu]++(m.sm.map vU8++[i.val γ,n.val γ,p.val γ,x.val γ,.int .i64 m.re])).toArray:=by
 show Value.agg _=_
 rw[O7]
 rfl
theorem Ae3 {w0:World} {hp:List Res} (m:MgS) (i n p x:At) (hi:i.bnd hp.length) (hn:n.bnd hp.length) (hx:x.bnd hp.length) (hbr:∀r∈hp,Res.bnd hp.length r) (h:Dg w0 hp (svL m i n p x) m):
  Ad Tryd.prog w0 No 46 [svL m i n p x] hp (svL m i n (.o hp.length) x) (hp++[.onn 166 2 (.c (pcs m.ps))]):=by
 unfold Ad
 intro γ w hS
 obtain⟨a,e,h1,h2⟩:=h γ w hS
 have hl:=hS.len
 rw[P9] at e
 have e':([vU8 m.k,.int .i64 m.pl,.int .i64 m.ot,.int .i64 m.cl,.int .i64 m.ge,vU64 m.nu]++(m.sm.map vU8++[i.val γ,n.val γ,p.val γ,x.val γ,Value.int .i64 m.re]))=mgV a:=by
  have:=Value.agg.inj e
  exact congrArg Array.toList this
 have h3:m=a.mg:=h2.symm
 have e4:[i.val γ,n.val γ,p.val γ,x.val γ,Value.int .i64 a.re]=[a.ids.val,a.ns.val,a.ps.val,a.xs.val,.int .i64 a.re]:=by
  rw[h3] at e'
  exact List.append_cancel_left (List.append_cancel_left e')
 have e5:List.map (Sv.val γ) [svL m i n p x]=List.map (Sv.val []) [.x (.g (mgA a))]:=by
  simp only[List.map_cons,List.map_nil,P9,Es,e']
 rw[e5]
 refine (Bb7 a w h1).mono fun en w' ⟨γ1,he,hS1⟩=>⟨γ1,?_,?_⟩
 ·rw[he]
  refine congrArg Ending.returned ?_
  have l1:γ1.length=1:=hS1.len
  have ext:∀{q:At},q.bnd hp.length→q.val (γ++γ1)=q.val γ:=fun {q} hq=>Sv.ext (γ:=γ) (δ:=γ1) (x:=.x (.a q)) (by rw[hl];exact hq)
  have eo:(At.o hp.length).val (γ++γ1)=(At.o 0).val γ1:=by
   show nmS (γ++γ1) hp.length=nmS γ1 0
   unfold nmS
   rw[←hl,List.getElem?_append_right (Nat.le_refl _),Nat.sub_self]
  simp only[List.cons.injEq] at e4
  obtain⟨q1,q2,q3,q4,q5⟩:=e4
  rw[P9,ext hi,ext hn,ext hx,eo,q1,q2,q4,h3]
  show Value.agg _=_
  unfold mgJ
  rw[O7]
  rfl
 ·have:=hS.back [] (X:=No) (fun b h=>h.elim) hS1 hbr (fun r hr=>by rw[List.mem_singleton.1 hr];exact of_eq_true (by show Cont.bnd 1 (.c (pcs a.ps.l))=True;exact eq_true (by show ∀x∈pcs _,x.bnd 1;rw[Ag];exact fun _ _=>⟨trivial,trivial⟩)))
  have e2:goneAll [] hp++List.map (Res.ren (A7 hp.length ([.onn 166 2 (.c (pcs a.ps.l))]:List Res).length)) [.onn 166 2 (.c (pcs a.ps.l))]=hp++[.onn 166 2 (.c (pcs m.ps))]:=by
   show hp++[Res.onn _ 2 (.c ((pcs a.ps.l).map _))]=_
   rw[Bq,h3]
   rfl
  rw[e2] at this
  exact this
theorem Ae4 {w0:World} {hp:List Res} (m:MgS) (i n p x:Nat) (hi:i < hp.length) (hn:n < hp.length) (hx:x < hp.length) (hbr:∀r∈hp,Res.bnd hp.length r) (h:Dg w0 hp (.x (.g (mgO m i n p x))) m):
  Ad Tryd.prog w0 No 46 [.x (.g (mgO m i n p x))] hp (.x (.g (mgO m i n hp.length x))) (hp++[.onn 166 2 (.c (pcs m.ps))]):=Ae3 m (.o i) (.o n) (.o p) (.o x) hi hn hx hbr h
theorem Ae5 {w0:World} {hp:List Res} (hbr:∀r∈hp,Res.bnd hp.length r):
  Ad Tryd.prog w0 No 46 [.x (.g (mgA zeroR))] hp (.x (.g (mgJ zeroR (.v (.slice none 0 0)) (.o hp.length)))) (hp++[.onn 166 2 (.c (pcs []))]):=by
 have h:=Ae3 (w0:=w0) (hp:=hp) Bt (.v (.slice none 0 0)) (.v (.slice none 0 0)) (.v (.slice none 0 0)) (.v (.slice none 0 0)) trivial trivial trivial hbr (by rw[Ae2];exact fun γ w hS=>⟨zeroR,Es _ _,Ab5 w,rfl⟩)
 rw[Ae2] at h
 have e:svL Bt (.v (.slice none 0 0)) (.v (.slice none 0 0)) (.o hp.length) (.v (.slice none 0 0))=.x (.g (mgJ zeroR (.v (.slice none 0 0)) (.o hp.length))):=by unfold mgJ;rfl
 rw[e] at h
 exact h
theorem Bb8 {w0:World} {hp:List Res} {m:MgS} {a b c d:Nat} {e:TypeId} (hf:m.Few) (ha:hp[a]?=some (.own 3 (.i64 m.ids))) (hb:hp[b]?=some (.own 27 (.u64 m.ns))) (hc:hp[c]?=some (.onn e 2 (.c (pcs m.ps)))) (hd:hp[d]?=some (.own 136 (.u32 m.xs))):
  Dg w0 hp (svL m (.o a) (.o b) (.o c) (.o d)) m:=fun γ w hS=>by
 obtain⟨A1,c1,e1,b1,q1⟩:=Fy (vs:=m.ids.map (Value.int .i64)) ha (fun _=>rfl) γ w hS
 obtain⟨A2,c2,e2,b2,q2⟩:=Fy (vs:=m.ns.map vU64) hb (fun _=>rfl) γ w hS
 obtain⟨A3,c3,e3,b3,q3⟩:=Sm hc γ w hS
 obtain⟨A4,c4,e4,b4,q4⟩:=Fy (vs:=m.xs.map Ap) hd (fun _=>rfl) γ w hS
 rw[List.length_map] at e1 e2 e4 b1 b2 b4
 refine⟨⟨m.k,m.pl,m.ot,m.cl,m.ge,m.nu,m.sm,⟨A1,c1,m.ids⟩,⟨A2,c2,m.ns⟩,⟨A3,c3,m.ps⟩,⟨A4,c4,m.xs⟩,m.re⟩,?_,⟨hf.sm,⟨b1,hf.ids,q1⟩,⟨b2,hf.ns,q2⟩,⟨b3,hf.ps,q3⟩,⟨b4,hf.xs,q4⟩⟩,rfl⟩
 have e1:At.val γ (.o a)=.slice A1 m.ids.length c1:=e1
 have e2:At.val γ (.o b)=.slice A2 m.ns.length c2:=e2
 have e3:At.val γ (.o c)=.slice A3 m.ps.length c3:=e3
 have e4:At.val γ (.o d)=.slice A4 m.xs.length c4:=e4
 rw[P9,e1,e2,e3,e4]
 rfl
theorem Bb9 {w0:World} {hp:List Res} {c:Nat} {e:TypeId} (hc:hp[c]?=some (.onn e 2 (.c (pcs [])))):
  Dg w0 hp (svL Bt (.v (.slice none 0 0)) (.v (.slice none 0 0)) (.o c) (.v (.slice none 0 0))) Bt:=fun γ w hS=>by
 obtain⟨A3,c3,e3,b3,q3⟩:=Sm hc γ w hS
 refine⟨⟨0,0,0,0,0,0,List.replicate 32 0,⟨none,0,[]⟩,⟨none,0,[]⟩,⟨A3,c3,[]⟩,⟨none,0,[]⟩,0⟩,?_,⟨rfl,SlV.ok0 rfl,SlV.ok0 rfl,⟨b3,Nat.zero_le _,q3⟩,SlV.ok0 rfl⟩,rfl⟩
 have e3:At.val γ (.o c)=.slice A3 0 c3:=e3
 rw[P9,e3]
 rfl
theorem Ae6 {w0:World} {hp:List Res} {m:MgS} {a b c d:Nat} {e:TypeId} (hf:m.Few) (ha:hp[a]?=some (.own 3 (.i64 m.ids))) (hb:hp[b]?=some (.own 27 (.u64 m.ns))) (hc:hp[c]?=some (.onn e 2 (.c (pcs m.ps)))) (hd:hp[d]?=some (.own 136 (.u32 m.xs))):
  Dg w0 hp (.x (.g (mgO m a b c d))) m:=Bb8 hf ha hb hc hd
theorem Ae7 {w0:World} {hp:List Res} {c:Nat} {e:TypeId} (hc:hp[c]?=some (.onn e 2 (.c (pcs [])))):
  Dg w0 hp (.x (.g (mgJ zeroR (.v (.slice none 0 0)) (.o c)))) Bt:=by
 have h:=Bb9 (w0:=w0) hc
 have e:svL Bt (.v (.slice none 0 0)) (.v (.slice none 0 0)) (.o c) (.v (.slice none 0 0))=.x (.g (mgJ zeroR (.v (.slice none 0 0)) (.o c))):=by unfold mgJ;rfl
 rw[e] at h
 exact h
end
end Go.Proofs.YtiaeollemmkclaaDoor
/- An error's number (law 16's num): nil's is nought, an Errno's is its own. -/
namespace Go.Proofs.YtiaeollemmkclaaDoor
open Go.RowKit Go.Extern.Stop Go.Stop Go.Extern
theorem Bca (w:World):Calls Tryd.prog 44 #[.nilIface] w fun e w'=>e=.returned (.int .i64 0)∧Below w.heap.size w w':=by
 go_enter Tryd.func44,Tryd.ntmps44
 go_wp2
 go_ret
 exact⟨rfl,(Below.refl _ _).alloc (Nat.le_refl _) _⟩
set_option maxRecDepth 220000 in
set_option maxHeartbeats 4000000 in
theorem Ae8 (n:Int) (w:World) (hg:Handle w):Calls Tryd.prog 44 #[.iface 137 (.int .i64 n)] w fun e w'=>e=.returned (.int .i64 n)∧Below w.heap.size w w':=by
 have hlt:0 < w.heap.size:=block_lt_of_cell hg
 have hgA:(w.alloc (.cells #[.int .i64 0] 137)).cell? ⟨0,0,none⟩=some (.iface 229 (.agg #[.pointer (some ⟨9,41,none⟩)])):=by
  rw[World.cell?_alloc_lt _ _ ⟨0,0,none⟩ hlt];exact hg
 have htA:(w.alloc (.cells #[.int .i64 0] 137)).cell? ⟨w.heap.size,0,none⟩=some (.int .i64 0):=by simp
 have hfA:(w.alloc (.cells #[.int .i64 0] 137)).frozen? ⟨w.heap.size,0,none⟩=false:=by simp
 go_enter Tryd.func44,Tryd.ntmps44
 go_wp2_with (go_at_call 70;refine (Agq n _ (.int .i64 0) _ hgA htA hfA).mono ?_;rintro e w' ⟨rfl,rfl⟩)
 go_ret
 refine⟨rfl,?_⟩
 exact (((((Below.refl w.heap.size w).alloc (Nat.le_refl _) _).alloc (by simp) _).alloc (by simp;omega) _).alloc (by simp;omega) _).alloc (by simp;omega) _
theorem Km {w0:World} {hp:List Res} (n:Int) (hg:Handle w0):Ad Tryd.prog w0 No 44 [.x (.a (.v (.iface 137 (.int .i64 n))))] hp (.x (.a (.v (.int .i64 n)))) hp:=Ca fun _ w hS=>Ae8 n w (Vm hg hS)
theorem Bcb {w0:World} {hp:List Res} (n:Int) (hg:Handle w0):Ad Tryd.prog w0 No 44 [.x (.a (.v (erV n)))] hp (.x (.a (.v (.int .i64 n)))) hp:=Ca fun _ w hS=>by
 show Calls _ _ #[erV n] w _
 unfold erV
 split
 ·rename_i h
  rw[h]
  exact Bca w
 ·exact Ae8 n w (Vm hg hS)
end Go.Proofs.YtiaeollemmkclaaDoor
/- Law 16's sure. -/
namespace Go.Proofs.YtiaeollemmkclaaDoor
open Go.RowKit
set_option linter.unusedSimpArgs false
set_option linter.unusedVariables false
def Jt:MgR:={zeroR with k:=19,re:=2}
def T5:MgR:={zeroR with k:=19,ge:=1}
def Ia:MgS:={Bt with k:=6,pl:=3,ge:=2,ids:=[1,5],xs:=[7],ps:=[(1,9),(5,4)]}
def mgB (a b c:Nat):List At:=mgL (.v (vU8 6)) (.v (.int .i64 3)) (.v (.int .i64 0)) (.v (.int .i64 0)) (.v (.int .i64 2)) (.v (vU64 0)) (List.replicate 32 0) (.s a 0 2 2) (.v (.slice none 0 0)) (.o c) (.s b 0 1 1) (.v (.int .i64 0))
theorem Bcc:((mgA zeroR).set 0 (.v (.int .u8 19))).set 42 (.v (.int .i64 2))=mgA Jt:=rfl
theorem Bcd:((mgA zeroR).set 0 (.v (.int .u8 19))).set 4 (.v (.int .i64 1))=mgA T5:=rfl
theorem Bce (a b c:Nat):((((((mgA zeroR).set 0 (.v (.int .u8 6))).set 1 (.v (.int .i64 3))).set 4 (.v (.int .i64 2))).set 38 (.s a 0 2 2)).set 41 (.s b 0 1 1)).set 40 (.o c)=mgB a b c:=rfl
theorem Bcf (a b c n:Nat):Sv.bnd n (.x (.g (mgB a b c)))=(a < n∧b < n∧c < n):=propext ⟨fun e=>⟨e _ Jk.1,e _ Jk.2.2.2,e _ Jk.2.2.1⟩,fun⟨e1,e2,e3⟩=>St (q:=fun x=>x.bnd n) (fun _=>trivial) trivial trivial trivial trivial trivial trivial e1 trivial e3 e2 trivial⟩
theorem Bcg (w:World):Jt.Ok w:=⟨rfl,SlV.ok0 rfl,SlV.ok0 rfl,SlV.ok0 rfl,SlV.ok0 rfl⟩
theorem Bch (w:World):T5.Ok w:=⟨rfl,SlV.ok0 rfl,SlV.ok0 rfl,SlV.ok0 rfl,SlV.ok0 rfl⟩
theorem Ae9:Cc Jt.mg=true:=by decide+kernel
theorem Bci:Cc T5.mg=false:=by decide+kernel
theorem Afa:Cc Ia=true:=by decide+kernel
theorem Afb:Cr Jt.mg=[19,2]:=by decide+kernel
theorem Bcj:Ep [19,2]=some Jt.mg:=by rw[←Afb];exact V7 Ae9 rfl
theorem Bck:Ep []=none:=by decide+kernel
theorem Bcl:Ep (Cr Ia)=some Ia:=V7 Afa rfl
theorem Bcm:(Cr Ia).length≤1000:=by decide+kernel
theorem Bcn:Hf 12=⟨#[100,111,110,101]⟩:=rfl
theorem Bco:Ah 20=⟨#[]⟩:=rfl
theorem Bcp:pcs Ia.ps=[.v (.int .i64 1),.v (.int .u64 9),.v (.int .i64 5),.v (.int .u64 4)]:=by show pcs [(1,9),(5,4)]=_;rw[Ip,Ip,Jd];rfl
theorem Bcq:Ia.ids=[1,5]:=rfl
theorem Afc:Ia.sm.length=32:=rfl
theorem Bcr {w0:World} {hp:List Res} {a b c:Nat} (ha:hp[a]?=some (.blk 3 (.i64 [1,5]))) (hb:hp[b]?=some (.blk 136 (.u32 [7]))) (hc:hp[c]?=some (.onn 160 2 (.c [.v (.int .i64 1),.v (.int .u64 9),.v (.int .i64 5),.v (.int .u64 4)]))):
  Dg w0 hp (.x (.g (mgB a b c))) Ia:=fun γ w hS=>by
 obtain⟨A1,c1,e1,b1,q1⟩:=Aau (vs:=([1,5]:List Int).map (Value.int .i64)) ha (fun _=>rfl) 2 2 rfl (Nat.le_refl _) γ w hS
 obtain⟨A4,c4,e4,b4,q4⟩:=Aau (vs:=([7]:List UInt32).map Ap) hb (fun _=>rfl) 1 1 rfl (Nat.le_refl _) γ w hS
 rw[show ([.v (.int .i64 1),.v (.int .u64 9),.v (.int .i64 5),.v (.int .u64 4)]:List At)=pcs [(1,9),(5,4)] from by rw[Ip,Ip,Jd];rfl] at hc
 obtain⟨A3,c3,e3,b3,q3⟩:=Sm hc γ w hS
 refine⟨⟨6,3,0,0,2,0,List.replicate 32 0,⟨A1,c1,[1,5]⟩,default,⟨A3,c3,[(1,9),(5,4)]⟩,⟨A4,c4,[7]⟩,0⟩,?_,⟨rfl,⟨b1,by show 2≤1000;omega,q1⟩,SlV.ok0 rfl,⟨b3,by show 2≤1000;omega,q3⟩,⟨b4,by show 1≤1000;omega,q4⟩⟩,rfl⟩
 have e1:At.val γ (.s a 0 2 2)=.slice A1 2 c1:=e1
 have e3:At.val γ (.o c)=.slice A3 2 c3:=e3
 have e4:At.val γ (.s b 0 1 1)=.slice A4 1 c4:=e4
 show Value.agg _=_
 unfold mgB
 rw[O7,e1,e3,e4]
 rfl
attribute [local irreducible] Af Ad Av Bh Bf A6 Aw A9
attribute [local irreducible] mgA mgO mgB okV Cr Hf Ah Ia
section
set_option maxRecDepth 100000 in
set_option maxHeartbeats 4000000 in
theorem Bcs (w:World) (hg:Handle w):Calls Tryd.prog 37 #[] w fun e w'=>e=.returned (.bool true)∧Below w.heap.size w w':=by
 have zb:=fun (m:MgR) n=>Co m n
 have ob:=fun (m:MgS) a b c d n=>Dx m a b c d n
 have bb:∀a b c n,(∀x∈mgB a b c,x.bnd n)=(a < n∧b < n∧c < n):=Bcf
 simp only[At.bnd] at zb ob bb
 have sE:((Fa [19,2]).toList==({data:=#[19,2]}:ByteArray).toList)=true:=by rw[ByteArray.toList_eq,ByteArray.toList_eq];rfl
 have gA:∀x,(mgO Jt.mg 1 2 3 4).getD 42 x=.v (.int .i64 2):=(G1 (m:=Jt.mg) rfl 1 2 3 4).2.2.2.2.2.2.2.2.2.2
 have lA:(mgA Jt).length=43:=Cj rfl
 have lC:(mgA T5).length=43:=Cj rfl
 have oA:∀a b c d,(mgO Jt.mg a b c d).length=43:=fun a b c d=>Eu rfl
 refine By (n:=109) Tryd.func37 rfl Tryd.ntmps37 [] (by simp) (.x (.a (.v (.bool true)))) (fun _=>rfl) ?_
 simp (maxSteps:=10^6) only[Aq,Cv,B4,B5,List.length_set,Bcc,push_cast,↓reduceIte,reduceCtorEq,Nat.reduceLT]
 (repeat (refine And.intro (by first|omega|decide) ?_))
 refine Bk rfl Ot rfl (W5 (Dh (Bcg w)) Ae9 (by simp (maxSteps:=10^6) only[push_cast])) (Aa rfl) (fun _=>by simp (maxSteps:=10^6) only[zb,push_cast]) ?_
 rw[Afb]
 simp (maxSteps:=10^6) only[push_cast,↓reduceIte,Nat.reduceEqDiff,Nat.reduceLT]
 (repeat (refine And.intro (by first|omega|decide) ?_))
 refine Bk rfl Lh rfl (Td (l:=[19,2]) (by decide) Bcj (Fy rfl fun _=>rfl) (by simp (maxSteps:=10^6) only[push_cast])) (Aa rfl) (fun _=>by simp (maxSteps:=10^6) only[zb,push_cast,Nat.reduceLT]) ?_
 simp (maxSteps:=10^6) only[zb,ob,Ag,Aq,Cv,B4,B5,oA,undef,push_cast,↓reduceIte,Nat.reduceEqDiff,Nat.reduceLT,Nat.reduceAdd]
 refine⟨cast (Nh _ 1 2 3 4 _).symm ⟨rfl,rfl,rfl,rfl⟩,?_⟩
 (repeat (refine And.intro (by first|omega|decide) ?_))
 refine Bk rfl Lh rfl (Xc (l:=[]) (by decide) Bck Aav (by simp (maxSteps:=10^6) only[ob,Ag,push_cast,Nat.reduceLT,Nat.reduceAdd])) (Aa rfl) (fun _=>by simp (maxSteps:=10^6) only[zb,ob,Ag,push_cast,Nat.reduceLT,Nat.reduceAdd]) ?_
 simp (maxSteps:=10^6) only[zb,ob,Ag,Aq,Cv,B4,B5,List.length_set,Bcd,undef,push_cast,↓reduceIte,reduceCtorEq,Nat.reduceEqDiff,Nat.reduceLT,Nat.reduceAdd]
 refine⟨of_eq_true (C1 _ _),?_⟩
 (repeat (refine And.intro (by first|omega|decide) ?_))
 refine A8 rfl Ot rfl (Adc (Dh (Bch w)) Bci) (Aa rfl) ?_
 simp (maxSteps:=10^6) only[zb,ob,Ag,Aq,Cv,B4,B5,List.length_set,Kc,Bce,push_cast,↓reduceIte,reduceCtorEq,Nat.reduceEqDiff,Nat.reduceLT,Nat.reduceLeDiff,Nat.reduceAdd,Nat.reduceMul]
 refine Bk rfl Ot rfl (W5 (Bcr rfl rfl rfl) Afa (by simp (maxSteps:=10^6) only[zb,ob,Ag,push_cast,Nat.reduceLT,Nat.reduceAdd])) (Aa rfl) (fun _=>by simp (maxSteps:=10^6) only[zb,ob,bb,Ag,push_cast,Nat.reduceLT,Nat.reduceAdd]) ?_
 obtain⟨bB,hbB⟩:∃b,b=Cr Ia:=⟨_,rfl⟩
 have hdB:=Bcl
 have hlB:=Bcm
 rw[←hbB] at hdB hlB ⊢
 simp (maxSteps:=10^6) only[push_cast,↓reduceIte,Nat.reduceEqDiff,Nat.reduceLT,Nat.reduceAdd]
 (repeat (refine And.intro (by first|omega|decide) ?_))
 refine Bk rfl Lh rfl (Td (l:=bB) (by omega) hdB (Fy rfl fun _=>rfl) (by simp (maxSteps:=10^6) only[zb,ob,Ag,push_cast,Nat.reduceLT,Nat.reduceAdd])) (Aa rfl) (fun _=>by simp (maxSteps:=10^6) only[zb,ob,bb,Ag,push_cast,Nat.reduceLT,Nat.reduceAdd]) ?_
 have oB:∀a b c d,(mgO Ia a b c d).length=43:=fun a b c d=>Eu Afc
 simp (maxSteps:=10^6) only[zb,ob,bb,Ag,Aq,Cv,B4,B5,oA,oB,sE,gA,undef,push_cast,↓reduceIte,reduceCtorEq,Nat.reduceEqDiff,Nat.reduceLT,Nat.reduceAdd]
 refine⟨cast (Nh _ 11 12 13 14 _).symm ⟨rfl,rfl,rfl,rfl⟩,?_⟩
 (repeat (refine And.intro (by first|omega|decide) ?_))
 refine A8 rfl F9 rfl (Km 3 hg) (Aa rfl) ?_
 simp (maxSteps:=10^6) only[push_cast,↓reduceIte,Nat.reduceEqDiff,Nat.reduceLT,Nat.reduceAdd]
 (repeat (refine And.intro (by first|omega|decide) ?_))
 refine A8 rfl F9 rfl (Km 1 hg) (Aa rfl) ?_
 obtain⟨_,_,_,_,_,_,gB38,_,gB40,_,_⟩:=G1 Afc 11 12 13 14
 simp (maxSteps:=10^6) only[oB,gB38,gB40,Bcp,Bcq,undef,push_cast,↓Int.cast_ofNat_Int,Int.cast_ofNat_Int,↓reduceIte,reduceCtorEq,Nat.reduceEqDiff,Nat.reduceLT,Nat.reduceAdd,Nat.reduceMul,Int.reduceLE,Int.reduceLT,Int.reduceToNat,Int.reduceAdd]
 (repeat (refine And.intro (by first|omega|decide) ?_))
 refine A8 rfl Ov rfl (Pa 12) (Aa rfl) ?_
 rw[Bcn]
 simp (maxSteps:=10^6) only[push_cast,↓reduceIte,Nat.reduceEqDiff,Nat.reduceLT,Nat.reduceAdd]
 (repeat (refine And.intro (by first|omega|decide) ?_))
 refine A8 rfl J8 rfl (Ke 20) (Aa rfl) ?_
 rw[Bco]
 simp (maxSteps:=10^6) only[push_cast,↓reduceIte,Nat.reduceEqDiff,Nat.reduceLT,Nat.reduceAdd]
 trace_state
 done
theorem L9 {w0:World} {hp:List Res} (hg:Handle w0):Ad Tryd.prog w0 No 37 [] hp (.x (.a (.v (.bool true)))) hp:=Ca fun _ w hS=>Bcs w (Vm hg hS)
end
end Go.Proofs.YtiaeollemmkclaaDoor
