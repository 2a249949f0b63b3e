import Derived.Test.YtiaeollemmkclaaDoorMq3
import Derived.Test.YtiaeollemmkclaaDoorCp
import Derived.Test.YtiaeollemmkclaaDoorPkK
import Derived.Test.YtiaeollemmkclaaDoorRq2
/- Layer 16's document: what is written of a message, field by field. -/
namespace Go.Proofs.YtiaeollemmkclaaDoor
open Go.RowKit
set_option linter.unusedSimpArgs false
set_option linter.unusedVariables false
section
variable {P:Program} {w0:World} {ow:Nat→Prop} {n:Nat}
theorem Gg {ι:Type} (Q:ι→Prop) (sv:ι→Sv) (hq:ι→List Res) {ops:List Oper} {o:Oper} {rest:List Oper} {f:FuncId} {xs:List Operand} {tys:Array TypeId} {s:S} {svs:List Sv} {K:S→Prop} (ho:o.op=.call {callee:=.value (.func f),args:=xs.toArray,argTypes:=tys})
  (hcb:Af P f) (hev:evs s.fr xs=some svs) (hc:∀γ w,Sat w0 ow γ s.hp w→Calls P f (svs.map (Sv.val γ)).toArray w fun e w'=>∃i δ,Q i∧e=.returned ((sv i).val (γ++δ))∧Sat w0 ow (γ++δ) (hq i) w') (hd:dOk n o.dst) (hb:s.bnd)
  (h:∀i,Q i→Aw P w0 ow n ops rest (S.put ⟨s.fr,hq i⟩ o.dst (sv i)) K):Av P w0 ow n ops o rest s K:=by
 rintro a w ⟨γ,hfit⟩ hw
 unfold wpList
 rw[if_pos hw]
 refine .inl ?_
 unfold Oper.wp
 rw[Aab ho rfl hcb (args:=(svs.map (Sv.val γ)).toArray) (by rw[List.map_toArray,Rq hfit hev])]
 simp only[Oper.upon]
 refine (hc γ w hfit.sat).mono ?_
 rintro e w' ⟨i,δ,hi,rfl,hS'⟩
 refine G8 rest _ _ _ (h i hi) ⟨_,hfit.put hS' (fun t sv' ht=>?_) hd rfl⟩
 exact Sv.ext (by rw[hfit.sat.len];exact hb.1 _ (Fr.get_mem ht))
end
def Fo (m:MgS) (c:UInt8):List Fd:=
 if c=97 then [{Df 0 with n:=UInt64.ofInt m.pl}] else if c=111 then [{Df 0 with n:=UInt64.ofInt m.ot}] else if c=99 then [{Df 0 with n:=UInt64.ofInt m.cl}] else if c=103 then [{Df 0 with n:=UInt64.ofInt m.ge}]
 else if c=114 then [{Df 0 with n:=UInt64.ofInt m.re}] else if c=110 then [{Df 0 with n:=m.nu}] else if c=115 then [{Df 3 with s:=m.sm}] else if c=105 then [{Df 1 with l:=Ao m.ids}]
 else if c=118 then [{Df 1 with l:=m.ns}] else if c=112 then [{Df 1 with l:=Ao (m.ps.map (·.1))},{Df 1 with l:=m.ps.map (·.2)}] else [{Df 4 with x:=m.xs}]
def Dt (m:MgS):List Fd:=(Aj m.k).flatMap (Fo m)
theorem Bbc (m:MgS) {c:UInt8} (hc:isF c):Dm (Fo m c)=fbM m c:=by
 have e1:∀f:Fd,Dm [f]=Lp f:=fun f=>by unfold Dm;rw[List.flatMap_cons,List.flatMap_nil,List.append_nil]
 have e2:∀b:List UInt8,[b].flatten=b:=fun b=>by rw[List.flatten_cons,List.flatten_nil,List.append_nil]
 rcases hc with rfl|rfl|rfl|rfl|rfl|rfl|rfl|rfl|rfl|rfl|rfl
 case inr.inr.inr.inr.inr.inr.inr.inr.inl=>
  show Dm [_,_]=[_,_].flatten
  unfold Dm
  rw[List.flatMap_cons,List.flatMap_cons,List.flatMap_nil,List.flatten_cons,List.flatten_cons,List.flatten_nil]
  rfl
 all_goals exact (e1 _).trans (Eq.trans rfl (e2 _).symm)
theorem Bbd {m:MgS} (hk:m.k < 20):Cr m=[m.k]++Dm (Dt m):=by
 unfold Cr Dt
 rw[Ad0 hk]
 congr 1
 have:∀f:List UInt8,(∀c∈f,isF c)→f.flatMap (fbM m)=Dm (f.flatMap (Fo m)):=fun f=>by
  induction f with
  |nil=>exact fun _=>rfl
  |cons c f ih=>
   intro h
   rw[List.flatMap_cons,List.flatMap_cons,ih fun x hx=>h x (List.mem_cons_of_mem _ hx),←Bbc m (h c (List.mem_cons_self ..))]
   unfold Dm
   rw[List.flatMap_append]
 exact this _ (Nr m.k).2
def Dy (l:List Pr):List Int:=l.map (·.1)
def Dz (l:List Pr):List UInt64:=l.map (·.2)
structure FOk (m:MgR) (Fs:List Fct) (f:FdR):Prop where
 s:f.s.length=32
 many:f.many=0
 b:f.b=⟨none,0,[]⟩
 l:f.l=⟨none,0,[]⟩∨f.l=⟨m.ns.A,m.ns.c,m.ns.l⟩∨(⟨f.l.val,f.l.l.length,f.l.l.map vU64⟩:Fct)∈Fs
 x:f.x=⟨none,0,[]⟩∨f.x=⟨m.xs.A,m.xs.c,m.xs.l⟩
theorem FOk.more {m:MgR} {Fs:List Fct} {f:FdR} (h:FOk m Fs f) (g:List Fct):FOk m (Fs++g) f:=⟨h.s,h.many,h.b,h.l.imp id (Or.imp id fun h=>List.mem_append_left _ h),h.x⟩
theorem Tq {f:FdR} (h:f.s.length=32):(fdV f).length=39:=by simp [fdV,h]
theorem Xs {m:MgR} {Fs:List Fct}:∀{fl:List FdR},(∀f∈fl,FOk m Fs f)→(fl.flatMap fdV).length=fl.length*39
 |[],_=>rfl
 |f::fl,h=>by
  rw[List.flatMap_cons,List.length_append,Tq (h f (List.mem_cons_self ..)).s,Xs fun x hx=>h x (List.mem_cons_of_mem _ hx),List.length_cons]
  omega
theorem P0 (m:MgR) (j:Nat) (v:Value):(mgA m).map (At.sub j v)=mgA m:=by
 unfold mgA mgL
 rw[List.map_append,List.map_append,List.map_map]
 rfl
theorem P1 (j:Nat) (v:Value) (l:List UInt8):(l.map f8).map (At.sub j v)=l.map f8:=by rw[List.map_map];rfl
theorem I1 (fl:List FdR) (f:FdR):vC ((fl++[f]).flatMap fdV)=vC (fl.flatMap fdV)++fdA f:=by
 rw[List.flatMap_append,Pw,List.flatMap_cons,List.flatMap_nil,List.append_nil,L0]
 rfl
attribute [local irreducible] Af Ad Av Bh Bf A6 Aw A9
section
set_option maxRecDepth 100000 in
theorem Bbe (l:List Int) (A:Option Addr) (c:Nat) (w:World) (hm:l.length≤1000000) (hR:RdV w w.heap.size A (l.map (Value.int .i64))):Calls Tryd.prog 132 #[.slice A l.length c] w fun e w'=>∃x,e=.returned x∧Own w' w.heap.size 27 x ((Ao l).map vU64)∧Below w.heap.size w w':=by
 have F:=FM.of hR
 refine J4 (n:=20) Tryd.func132 rfl Tryd.ntmps132 [.x (.a (.v (.slice A l.length c)))] (by simp) 27 (.u64 (Ao l)) (fun _=>rfl) ?_
 simp (maxSteps:=10^6) only[push_cast,↓reduceIte,Nat.reduceLT]
 refine Rv 3 27 (.u64 []) rfl rfl trivial (by simp (maxSteps:=10^6) only[push_cast]) ?_
 simp (maxSteps:=10^6) only[push_cast]
 refine Bu (ι:=Nat) (fun i=>⟨[(0,.x (.a (.v (.slice A l.length c)))),(3,.x (.a (.o 0))),(4,.x (.a (.v (.int .i64 i))))],[.own 27 (.u64 (Ao (l.take i)))]⟩) (fun i=>i≤l.length) (fun i=>l.length - i) 0 [0] (Nat.zero_le _) ?_ ?_
 ·simp (maxSteps:=10^6) only[Ab8,List.take_zero,push_cast,↓Int.cast_ofNat_Int,Int.cast_ofNat_Int,↓reduceIte,reduceCtorEq,Nat.reduceEqDiff,Nat.reduceLT]
 intro i hi
 by_cases hlt:(i:Int) < l.length
 ·have hil:i < l.length:=by omega
  have hs:=Ab6 l i hil
  have hk:=Ir (l.take i)
  rw[List.length_take,Nat.min_eq_left hi] at hk
  have c0:=F.cell i hil
  have o0:=F.ok i hil
  have hA:=F.some_ (by omega)
  have b1:((Ao (l.take i)).length+1)*8≤140737488355328:=by omega
  have b2:(Ao (l.take i)).length+1≤2 ^ 63 - 1:=by omega
  have i0:(0:Int)≤i:=by omega
  simp (maxSteps:=10^6) only[hlt,c0,o0,hA,b1,b2,i0,push_cast,↓Int.toNat_natCast,↓reduceIte,reduceCtorEq,Nat.reduceEqDiff,Nat.reduceLT,Nat.reduceLeDiff,Nat.reduceAdd,Int.reduceNeg]
  (repeat (refine And.intro (by first|omega|decide) ?_))
  refine Bd (i+1) [2] (by omega) (by omega) ?_
  simp (maxSteps:=10^6) only[hs,push_cast,↓reduceIte,reduceCtorEq,Nat.reduceEqDiff,Nat.reduceLT]
  done
 ·obtain rfl:i=l.length:=by omega
  have ht:=List.take_length (l:=l)
  simp (maxSteps:=10^6) only[hlt,ht,push_cast,↓reduceIte,reduceCtorEq,Nat.reduceEqDiff,Nat.reduceLT]
  done
theorem Bbf {w0:World} {ow:Nat→Prop} {hp:List Res} {s:Sv} {l:List Int} (hm:l.length≤1000000) (h:Cx w0 ow hp s (l.map (Value.int .i64))) (hbr:∀r∈hp,Res.bnd hp.length r):Ad Tryd.prog w0 ow 132 [s] hp (.x (.a (.o hp.length))) (hp++[.own 27 (.u64 (Ao l))]):=Jz hbr trivial fun γ w hS=>by
 obtain⟨A,c,e1,b1,q1⟩:=h γ w hS
 rw[List.length_map] at e1
 show Calls _ _ #[s.val γ] w _
 rw[e1]
 exact Bbe l A c w hm q1
end
section
attribute [local irreducible] vC mgA fdA Ah Ao Dy Dz
set_option maxRecDepth 100000 in
set_option maxHeartbeats 8000000 in
theorem Bbg (m:MgR) (w:World) (hm:m.Ok w):Calls Tryd.prog 92 (List.map (Sv.val []) [.x (.g (mgA m))]).toArray w fun e w'=>∃(x:List FdR×List Fct) (γ1:List Nm),(x.1.map FdR.fd=Dt m.mg∧∀f∈x.1,FOk m x.2 f)∧e=.returned ((Sv.x (.a (.o 0))).val γ1)∧Sat w No γ1 [.onn 32 39 (.c (vC (x.1.flatMap fdV))),.abs (fctRep x.2)] w':=by
 obtain⟨f0,f1,f2,f3,f4,f5,f38,f39,f40,f41,f42⟩:=Dw hm.s
 have fl:=Cj hm.s
 have fs:=Gw hm.s
 have hs:=hm.s
 have fb:=fun n=>Co m n
 have vi:m.ids.val=.slice m.ids.A m.ids.l.length m.ids.c:=rfl
 have vn:m.ns.val=.slice m.ns.A m.ns.l.length m.ns.c:=rfl
 have vp:m.ps.val=.slice m.ps.A m.ps.l.length m.ps.c:=rfl
 have vx:m.xs.val=.slice m.xs.A m.xs.l.length m.xs.c:=rfl
 simp only[At.bnd] at fb
 refine J3 (n:=141) Tryd.func92 rfl Tryd.ntmps92 [.x (.g (mgA m))] (Sat.init w No) (by simp) (fun sv hp=>∃(fl:List FdR) (Fs:List Fct),(fl.map FdR.fd=Dt m.mg∧∀f∈fl,FOk m Fs f)∧Ka (.x (.a (.o 0))) [.onn 32 39 (.c (vC (fl.flatMap fdV))),.abs (fctRep Fs)] sv hp) (fun γ sv hp' w' hS ⟨gR,Fs,h1,ρ,h3,h4,h5,h6⟩=>?_) ?_
 ·obtain⟨hS2,hρ⟩:=hS.sel h4 h5 h6.2
  refine⟨(gR,Fs),_,h1,?_,hS2⟩
  have e:sv=(Sv.x (.a (.o 0))).ren ρ:=by
   have:=h3.1
   simp only[Fr.get,if_true,Option.some.injEq] at this
   exact this
  have hlen:ρ.length=2:=(I9 h4).1
  rw[e,←Sv.re hρ (x:=.x (.a (.o 0))) (by rw[hlen];simp only[push_cast,Nat.reduceLT])]
 simp (maxSteps:=10^6) only[fb,fl,f0,↓Ba,undef,push_cast,↓reduceIte,reduceCtorEq,Nat.reduceEqDiff,Nat.reduceLT]
 (repeat (refine And.intro (by first|omega|decide) ?_))
 refine A8 rfl Lj rfl (L4 m.k) (Aa rfl) ?_
 simp (maxSteps:=10^6) only[push_cast,↓reduceIte,Nat.reduceLT]
 (repeat (refine And.intro (by first|omega|decide) ?_))
 refine Aay 3 32 39 (.c []) (by omega) rfl rfl (by simp (maxSteps:=10^6) only[fb,push_cast,Nat.reduceLT]) ?_
 simp (maxSteps:=10^6) only[push_cast]
 refine Aa3 (by simp (maxSteps:=10^6) only[fb,push_cast,Nat.reduceLT,Nat.reduceAdd]) ?_
 simp (maxSteps:=10^6) only[push_cast]
 refine Bu (ι:=Nat×List FdR×List Fct) (fun x=>⟨[(1,.x (.a (.p 0 0))),(3,.x (.a (.o 1))),(4,.x (.a (.v (.string (Ah m.k))))),(5,.x (.a (.v (.int .i64 (x.1:Nat)))))],[.blk 83 (.c (mgA m)),.onn 32 39 (.c (vC (x.2.1.flatMap fdV))),.abs (fctRep x.2.2)]⟩)
  (fun x=>x.1≤(Ah m.k).size∧x.2.1.length≤2*x.1∧x.2.1.map FdR.fd=((Aj m.k).take x.1).flatMap (Fo m.mg)∧∀f∈x.2.1,FOk m x.2.2 f) (fun x=>(Ah m.k).size - x.1) (0,[],[]) [0,1,2] ⟨Nat.zero_le _,Nat.zero_le _,rfl,fun g hg=>by cases hg⟩ ?_ ?_
 ·have e0:vC (([]:List FdR).flatMap fdV)=[]:=by unfold vC;rfl
  simp (maxSteps:=10^6) only[e0,fb,↓Ak,push_cast,↓Int.cast_ofNat_Int,Int.cast_ofNat_Int,↓reduceIte,reduceCtorEq,Nat.reduceEqDiff,Nat.reduceLT,Nat.reduceAdd]
  done
 rintro⟨i,fR,Fs⟩ ⟨hi,hfl,hfr,hF⟩
 dsimp only at hi hfl hfr hF
 have sz6:=Tj m.k
 by_cases hlt:(i:Int) < ((Ah m.k).size:Int)
 ·have hil:i < (Ah m.k).size:=by omega
  have hil2:i < (Aj m.k).length:=by rw[←Ji];exact hil
  have i0:(0:Int)≤i:=by omega
  have ht:((Aj m.k).take (i+1)).flatMap (Fo m.mg)=((Aj m.k).take i).flatMap (Fo m.mg)++Fo m.mg (ix (Aj m.k) i):=by
   rw[Nc _ _ hil2,List.flatMap_append,List.flatMap_cons,List.flatMap_nil,List.append_nil]
  have hc:isF (ix (Aj m.k) i):=(Nr m.k).2 _ (Lq hil2)
  have hsi:=Xj m.k i
  generalize ix (Aj m.k) i=c at*
  have e3:fR.length*39 / 39=fR.length:=Nat.mul_div_cancel _ (by omega)
  have hvl:=Xs hF
  have b1:(fR.length+1)*136≤140737488355328:=by omega
  have b2:fR.length+1≤2 ^ 63 - 1:=by omega
  have b3:(fR.length+2)*136≤140737488355328:=by omega
  have b4:fR.length+2≤2 ^ 63 - 1:=by omega
  have step:∀(f':FdR) (Gs:List Fct),Fo m.mg c=[f'.fd]→FOk m (Fs++Gs) f'→(fR++[f']).length≤2*(i+1)∧(fR++[f']).map FdR.fd=((Aj m.k).take (i+1)).flatMap (Fo m.mg)∧∀f∈fR++[f'],FOk m (Fs++Gs) f:=fun f' Gs h1 h2=>by
   refine⟨by rw[List.length_append,List.length_singleton];omega,by rw[List.map_append,hfr,ht,h1];rfl,fun x hx=>?_⟩
   rcases List.mem_append.1 hx with hx|hx
   ·exact (hF x hx).more Gs
   ·rw[List.mem_singleton.1 hx];exact h2
  simp (maxSteps:=10^6) only[hlt,hsi,i0,fb,fl,f1,f2,f3,f4,f5,f38,f39,f41,f42,fs,hs,vi,vn,vx,undef,push_cast,↓Int.toNat_natCast,↓reduceIte,reduceCtorEq,Nat.reduceEqDiff,Nat.reduceLT,Nat.reduceLeDiff,Nat.reduceAdd,Nat.reduceMul,Int.reduceNeg]
  (repeat (refine And.intro (by first|omega|decide) ?_))
  by_cases k97:c=97
  ·skip
   obtain⟨f',hf'⟩:∃f':FdR,f'=⟨0,UInt64.ofInt m.pl,⟨none,0,[]⟩,⟨none,0,[]⟩,List.replicate 32 0,⟨none,0,[]⟩,0,0⟩:=⟨_,rfl⟩
   have hap:vC ((fR++[f']).flatMap fdV)=vC (fR.flatMap fdV)++(At.v (.int .u8 0)::At.v (vU64 (UInt64.ofInt m.pl))::At.v (.slice none 0 0)::At.v (.slice none 0 0)::(List.map f8 (List.replicate 32 0)++[At.v (.slice none 0 0),At.v (.int .i64 0),At.v (.int .u64 0)])):=(I1 fR f').trans (congrArg (vC (fR.flatMap fdV)++·) (by rw[hf'];unfold fdA;rfl))
   obtain⟨s1,s2,s3⟩:=step f' [] (by rw[k97,hf'];rfl) (by rw[hf'];exact⟨rfl,rfl,rfl,.inl rfl,.inl rfl⟩)
   simp (maxSteps:=10^6) only[k97,e3,hvl,b1,b2,fb,Aq,Br,push_cast,↓reduceIte,Nat.reduceEqDiff,Nat.reduceLT,Nat.reduceAdd,Int.reduceNeg]
   (repeat (refine And.intro (by first|omega|decide) ?_))
   refine Bd (i+1,fR++[f'],Fs) [0,4,2] ⟨by show i+1≤_;omega,s1,s2,by rw[List.append_nil] at s3;exact s3⟩ (by show (Ah m.k).size - (i+1) < (Ah m.k).size - i;omega) ?_
   simp (maxSteps:=10^6) only[hap,Cq,fb,↓Ak,push_cast,↓reduceIte,reduceCtorEq,Nat.reduceEqDiff,Nat.reduceLT,Nat.reduceAdd]
   done
  by_cases k111:c=111
  ·skip
   obtain⟨f',hf'⟩:∃f':FdR,f'=⟨0,UInt64.ofInt m.ot,⟨none,0,[]⟩,⟨none,0,[]⟩,List.replicate 32 0,⟨none,0,[]⟩,0,0⟩:=⟨_,rfl⟩
   have hap:vC ((fR++[f']).flatMap fdV)=vC (fR.flatMap fdV)++(At.v (.int .u8 0)::At.v (vU64 (UInt64.ofInt m.ot))::At.v (.slice none 0 0)::At.v (.slice none 0 0)::(List.map f8 (List.replicate 32 0)++[At.v (.slice none 0 0),At.v (.int .i64 0),At.v (.int .u64 0)])):=(I1 fR f').trans (congrArg (vC (fR.flatMap fdV)++·) (by rw[hf'];unfold fdA;rfl))
   obtain⟨s1,s2,s3⟩:=step f' [] (by rw[k111,hf'];rfl) (by rw[hf'];exact⟨rfl,rfl,rfl,.inl rfl,.inl rfl⟩)
   simp (maxSteps:=10^6) only[k111,e3,hvl,b1,b2,fb,Aq,Br,push_cast,↓reduceIte,Nat.reduceEqDiff,Nat.reduceLT,Nat.reduceAdd,Int.reduceNeg]
   (repeat (refine And.intro (by first|omega|decide) ?_))
   refine Bd (i+1,fR++[f'],Fs) [0,4,2] ⟨by show i+1≤_;omega,s1,s2,by rw[List.append_nil] at s3;exact s3⟩ (by show (Ah m.k).size - (i+1) < (Ah m.k).size - i;omega) ?_
   simp (maxSteps:=10^6) only[hap,Cq,fb,↓Ak,push_cast,↓reduceIte,reduceCtorEq,Nat.reduceEqDiff,Nat.reduceLT,Nat.reduceAdd]
   done
  by_cases k99:c=99
  ·skip
   obtain⟨f',hf'⟩:∃f':FdR,f'=⟨0,UInt64.ofInt m.cl,⟨none,0,[]⟩,⟨none,0,[]⟩,List.replicate 32 0,⟨none,0,[]⟩,0,0⟩:=⟨_,rfl⟩
   have hap:vC ((fR++[f']).flatMap fdV)=vC (fR.flatMap fdV)++(At.v (.int .u8 0)::At.v (vU64 (UInt64.ofInt m.cl))::At.v (.slice none 0 0)::At.v (.slice none 0 0)::(List.map f8 (List.replicate 32 0)++[At.v (.slice none 0 0),At.v (.int .i64 0),At.v (.int .u64 0)])):=(I1 fR f').trans (congrArg (vC (fR.flatMap fdV)++·) (by rw[hf'];unfold fdA;rfl))
   obtain⟨s1,s2,s3⟩:=step f' [] (by rw[k99,hf'];rfl) (by rw[hf'];exact⟨rfl,rfl,rfl,.inl rfl,.inl rfl⟩)
   simp (maxSteps:=10^6) only[k99,e3,hvl,b1,b2,fb,Aq,Br,push_cast,↓reduceIte,Nat.reduceEqDiff,Nat.reduceLT,Nat.reduceAdd,Int.reduceNeg]
   (repeat (refine And.intro (by first|omega|decide) ?_))
   refine Bd (i+1,fR++[f'],Fs) [0,4,2] ⟨by show i+1≤_;omega,s1,s2,by rw[List.append_nil] at s3;exact s3⟩ (by show (Ah m.k).size - (i+1) < (Ah m.k).size - i;omega) ?_
   simp (maxSteps:=10^6) only[hap,Cq,fb,↓Ak,push_cast,↓reduceIte,reduceCtorEq,Nat.reduceEqDiff,Nat.reduceLT,Nat.reduceAdd]
   done
  by_cases k103:c=103
  ·skip
   obtain⟨f',hf'⟩:∃f':FdR,f'=⟨0,UInt64.ofInt m.ge,⟨none,0,[]⟩,⟨none,0,[]⟩,List.replicate 32 0,⟨none,0,[]⟩,0,0⟩:=⟨_,rfl⟩
   have hap:vC ((fR++[f']).flatMap fdV)=vC (fR.flatMap fdV)++(At.v (.int .u8 0)::At.v (vU64 (UInt64.ofInt m.ge))::At.v (.slice none 0 0)::At.v (.slice none 0 0)::(List.map f8 (List.replicate 32 0)++[At.v (.slice none 0 0),At.v (.int .i64 0),At.v (.int .u64 0)])):=(I1 fR f').trans (congrArg (vC (fR.flatMap fdV)++·) (by rw[hf'];unfold fdA;rfl))
   obtain⟨s1,s2,s3⟩:=step f' [] (by rw[k103,hf'];rfl) (by rw[hf'];exact⟨rfl,rfl,rfl,.inl rfl,.inl rfl⟩)
   simp (maxSteps:=10^6) only[k103,e3,hvl,b1,b2,fb,Aq,Br,push_cast,↓reduceIte,Nat.reduceEqDiff,Nat.reduceLT,Nat.reduceAdd,Int.reduceNeg]
   (repeat (refine And.intro (by first|omega|decide) ?_))
   refine Bd (i+1,fR++[f'],Fs) [0,4,2] ⟨by show i+1≤_;omega,s1,s2,by rw[List.append_nil] at s3;exact s3⟩ (by show (Ah m.k).size - (i+1) < (Ah m.k).size - i;omega) ?_
   simp (maxSteps:=10^6) only[hap,Cq,fb,↓Ak,push_cast,↓reduceIte,reduceCtorEq,Nat.reduceEqDiff,Nat.reduceLT,Nat.reduceAdd]
   done
  by_cases k114:c=114
  ·skip
   obtain⟨f',hf'⟩:∃f':FdR,f'=⟨0,UInt64.ofInt m.re,⟨none,0,[]⟩,⟨none,0,[]⟩,List.replicate 32 0,⟨none,0,[]⟩,0,0⟩:=⟨_,rfl⟩
   have hap:vC ((fR++[f']).flatMap fdV)=vC (fR.flatMap fdV)++(At.v (.int .u8 0)::At.v (vU64 (UInt64.ofInt m.re))::At.v (.slice none 0 0)::At.v (.slice none 0 0)::(List.map f8 (List.replicate 32 0)++[At.v (.slice none 0 0),At.v (.int .i64 0),At.v (.int .u64 0)])):=(I1 fR f').trans (congrArg (vC (fR.flatMap fdV)++·) (by rw[hf'];unfold fdA;rfl))
   obtain⟨s1,s2,s3⟩:=step f' [] (by rw[k114,hf'];rfl) (by rw[hf'];exact⟨rfl,rfl,rfl,.inl rfl,.inl rfl⟩)
   simp (maxSteps:=10^6) only[k114,e3,hvl,b1,b2,fb,Aq,Br,push_cast,↓reduceIte,Nat.reduceEqDiff,Nat.reduceLT,Nat.reduceAdd,Int.reduceNeg]
   (repeat (refine And.intro (by first|omega|decide) ?_))
   refine Bd (i+1,fR++[f'],Fs) [0,4,2] ⟨by show i+1≤_;omega,s1,s2,by rw[List.append_nil] at s3;exact s3⟩ (by show (Ah m.k).size - (i+1) < (Ah m.k).size - i;omega) ?_
   simp (maxSteps:=10^6) only[hap,Cq,fb,↓Ak,push_cast,↓reduceIte,reduceCtorEq,Nat.reduceEqDiff,Nat.reduceLT,Nat.reduceAdd]
   done
  by_cases k110:c=110
  ·skip
   obtain⟨f',hf'⟩:∃f':FdR,f'=⟨0,m.nu,⟨none,0,[]⟩,⟨none,0,[]⟩,List.replicate 32 0,⟨none,0,[]⟩,0,0⟩:=⟨_,rfl⟩
   have hap:vC ((fR++[f']).flatMap fdV)=vC (fR.flatMap fdV)++(At.v (.int .u8 0)::At.v (vU64 (m.nu))::At.v (.slice none 0 0)::At.v (.slice none 0 0)::(List.map f8 (List.replicate 32 0)++[At.v (.slice none 0 0),At.v (.int .i64 0),At.v (.int .u64 0)])):=(I1 fR f').trans (congrArg (vC (fR.flatMap fdV)++·) (by rw[hf'];unfold fdA;rfl))
   obtain⟨s1,s2,s3⟩:=step f' [] (by rw[k110,hf'];rfl) (by rw[hf'];exact⟨rfl,rfl,rfl,.inl rfl,.inl rfl⟩)
   simp (maxSteps:=10^6) only[k110,e3,hvl,b1,b2,fb,Aq,Br,push_cast,↓reduceIte,Nat.reduceEqDiff,Nat.reduceLT,Nat.reduceAdd,Int.reduceNeg]
   (repeat (refine And.intro (by first|omega|decide) ?_))
   refine Bd (i+1,fR++[f'],Fs) [0,4,2] ⟨by show i+1≤_;omega,s1,s2,by rw[List.append_nil] at s3;exact s3⟩ (by show (Ah m.k).size - (i+1) < (Ah m.k).size - i;omega) ?_
   simp (maxSteps:=10^6) only[hap,Cq,fb,↓Ak,push_cast,↓reduceIte,reduceCtorEq,Nat.reduceEqDiff,Nat.reduceLT,Nat.reduceAdd]
   done
  by_cases k115:c=115
  ·skip
   obtain⟨f',hf'⟩:∃f':FdR,f'=⟨3,0,⟨none,0,[]⟩,⟨none,0,[]⟩,m.sm,⟨none,0,[]⟩,0,0⟩:=⟨_,rfl⟩
   have hap:vC ((fR++[f']).flatMap fdV)=vC (fR.flatMap fdV)++(At.v (.int .u8 3)::At.v (.int .u64 0)::At.v (.slice none 0 0)::At.v (.slice none 0 0)::(List.map f8 (m.sm)++[At.v (.slice none 0 0),At.v (.int .i64 0),At.v (.int .u64 0)])):=(I1 fR f').trans (congrArg (vC (fR.flatMap fdV)++·) (by rw[hf'];unfold fdA;rfl))
   obtain⟨s1,s2,s3⟩:=step f' [] (by rw[k115,hf'];rfl) (by rw[hf'];exact⟨hs,rfl,rfl,.inl rfl,.inl rfl⟩)
   simp (maxSteps:=10^6) only[k115,e3,hvl,b1,b2,fb,hs,Aq,Br,push_cast,↓reduceIte,Nat.reduceEqDiff,Nat.reduceLT,Nat.reduceLeDiff,Nat.reduceAdd,Nat.reduceSub,Int.reduceNeg]
   (repeat (refine And.intro (by first|omega|decide) ?_))
   refine Bd (i+1,fR++[f'],Fs) [0,4,2] ⟨by show i+1≤_;omega,s1,s2,by rw[List.append_nil] at s3;exact s3⟩ (by show (Ah m.k).size - (i+1) < (Ah m.k).size - i;omega) ?_
   simp (maxSteps:=10^6) only[hap,Cq,fb,↓Ak,push_cast,↓reduceIte,reduceCtorEq,Nat.reduceEqDiff,Nat.reduceLT,Nat.reduceAdd]
   done
  by_cases k105:c=105
  ·skip
   simp (maxSteps:=10^6) only[k105,e3,hvl,b1,b2,fb,hs,Aq,Br,push_cast,↓reduceIte,Nat.reduceEqDiff,Nat.reduceLT,Nat.reduceLeDiff,Nat.reduceAdd,Nat.reduceSub,Int.reduceNeg]
   (repeat (refine And.intro (by first|omega|decide) ?_))
   refine Fw rfl Azx rfl (Bbf (l:=m.ids.l) (by have:=hm.ids.few;omega) (Dq hm.ids.rd _ _ (by simp) hm.ids.len) (by simp (maxSteps:=10^6) only[fb,Kj,push_cast,Nat.reduceAdd])) (Aa rfl) (by simp (maxSteps:=10^6) only[fb,push_cast,Nat.reduceLT,Nat.reduceAdd]) ?_
   simp (maxSteps:=10^6) only[e3,hvl,b1,b2,fb,Aq,Br,push_cast,↓reduceIte,reduceCtorEq,Nat.reduceEqDiff,Nat.reduceLT,Nat.reduceLeDiff,Nat.reduceAdd,Nat.reduceMul,Int.reduceNeg]
   (repeat (refine And.intro (by first|omega|decide) ?_))
   refine Sg 3 2 (vs:=(Ao m.ids.l).map vU64) rfl (fun _=>rfl) rfl (by decide) fun A1 cap1 h1 h2=>?_
   rw[List.length_map]
   obtain⟨f',hf'⟩:∃f':FdR,f'=⟨1,0,⟨A1,cap1,Ao m.ids.l⟩,⟨none,0,[]⟩,List.replicate 32 0,⟨none,0,[]⟩,0,0⟩:=⟨_,rfl⟩
   have hap:vC ((fR++[f']).flatMap fdV)=vC (fR.flatMap fdV)++(At.v (.int .u8 1)::At.v (.int .u64 0)::At.v (.slice A1 (Ao m.ids.l).length cap1)::At.v (.slice none 0 0)::(List.map f8 (List.replicate 32 0)++[At.v (.slice none 0 0),At.v (.int .i64 0),At.v (.int .u64 0)])):=(I1 fR f').trans (congrArg (vC (fR.flatMap fdV)++·) (by rw[hf'];unfold fdA;rfl))
   obtain⟨s1,s2,s3⟩:=step f' [⟨.slice A1 (Ao m.ids.l).length cap1,(Ao m.ids.l).length,(Ao m.ids.l).map vU64⟩] (by rw[k105,hf'];rfl) (by rw[hf'];exact⟨rfl,rfl,rfl,.inr (.inr (List.mem_append_right _ (List.mem_singleton.2 rfl))),.inl rfl⟩)
   refine Bd (i+1,fR++[f'],Fs++[⟨.slice A1 (Ao m.ids.l).length cap1,(Ao m.ids.l).length,(Ao m.ids.l).map vU64⟩]) [0,5,2] ⟨by show i+1≤_;omega,s1,s2,s3⟩ (by show (Ah m.k).size - (i+1) < (Ah m.k).size - i;omega) ?_
   simp (maxSteps:=10^6) only[hap,Cq,P0,P1,fb,↓Ak,push_cast,↓reduceIte,reduceCtorEq,Nat.reduceEqDiff,Nat.reduceLT,Nat.reduceAdd]
   done
  by_cases k118:c=118
  ·skip
   obtain⟨f',hf'⟩:∃f':FdR,f'=⟨1,0,⟨m.ns.A,m.ns.c,m.ns.l⟩,⟨none,0,[]⟩,List.replicate 32 0,⟨none,0,[]⟩,0,0⟩:=⟨_,rfl⟩
   have hap:vC ((fR++[f']).flatMap fdV)=vC (fR.flatMap fdV)++(At.v (.int .u8 1)::At.v (.int .u64 0)::At.v (.slice m.ns.A m.ns.l.length m.ns.c)::At.v (.slice none 0 0)::(List.map f8 (List.replicate 32 0)++[At.v (.slice none 0 0),At.v (.int .i64 0),At.v (.int .u64 0)])):=(I1 fR f').trans (congrArg (vC (fR.flatMap fdV)++·) (by rw[hf'];unfold fdA;rfl))
   obtain⟨s1,s2,s3⟩:=step f' [] (by rw[k118,hf'];rfl) (by rw[hf'];exact⟨rfl,rfl,rfl,.inr (.inl rfl),.inl rfl⟩)
   simp (maxSteps:=10^6) only[k118,e3,hvl,b1,b2,fb,hs,Aq,Br,push_cast,↓reduceIte,Nat.reduceEqDiff,Nat.reduceLT,Nat.reduceLeDiff,Nat.reduceAdd,Nat.reduceSub,Int.reduceNeg]
   (repeat (refine And.intro (by first|omega|decide) ?_))
   refine Bd (i+1,fR++[f'],Fs) [0,4,2] ⟨by show i+1≤_;omega,s1,s2,by rw[List.append_nil] at s3;exact s3⟩ (by show (Ah m.k).size - (i+1) < (Ah m.k).size - i;omega) ?_
   simp (maxSteps:=10^6) only[hap,Cq,fb,↓Ak,push_cast,↓reduceIte,reduceCtorEq,Nat.reduceEqDiff,Nat.reduceLT,Nat.reduceAdd]
   done
  by_cases k112:c=112
  ·skip
   simp (maxSteps:=10^6) only[k112,e3,hvl,b1,b2,fb,hs,Aq,Br,push_cast,↓reduceIte,Nat.reduceEqDiff,Nat.reduceLT,Nat.reduceLeDiff,Nat.reduceAdd,Nat.reduceSub,Int.reduceNeg]
   (repeat (refine And.intro (by first|omega|decide) ?_))
   refine Rv 6 27 (.u64 []) rfl rfl trivial (by simp (maxSteps:=10^6) only[fb,Kj,push_cast,Nat.reduceLT,Nat.reduceAdd]) ?_
   simp (maxSteps:=10^6) only[push_cast,Nat.reduceAdd]
   refine Rv 7 27 (.u64 []) rfl rfl trivial (by simp (maxSteps:=10^6) only[fb,Kj,push_cast,Nat.reduceLT,Nat.reduceAdd]) ?_
   simp (maxSteps:=10^6) only[push_cast,Nat.reduceAdd]
   have P:=FP.of hm.ps.rd
   have pfew:=hm.ps.few
   refine Bu (ι:=Nat) (fun j=>⟨[(1,.x (.a (.p 0 0))),(3,.x (.a (.o 1))),(4,.x (.a (.v (.string (Ah m.k))))),(5,.x (.a (.v (.int .i64 i)))),(6,.x (.a (.o 3))),(7,.x (.a (.o 4))),(8,.x (.a (.v (.int .i64 j))))],[.blk 83 (.c (mgA m)),.onn 32 39 (.c (vC (fR.flatMap fdV))),.abs (fctRep Fs),.own 27 (.u64 (Ao (Dy (m.ps.l.take j)))),.own 27 (.u64 (Dz (m.ps.l.take j)))]⟩)
    (fun j=>j≤m.ps.l.length) (fun j=>m.ps.l.length - j) 0 [0,1,2,3,4] (Nat.zero_le _) ?_ ?_
   ·have z1:Ao (Dy [])=[]:=by unfold Dy Ao;rfl
    have z2:Dz []=[]:=by unfold Dz;rfl
    simp (maxSteps:=10^6) only[z1,z2,fb,↓Ak,push_cast,↓Int.cast_ofNat_Int,Int.cast_ofNat_Int,↓reduceIte,reduceCtorEq,Nat.reduceEqDiff,Nat.reduceLT,Nat.reduceAdd]
    done
   intro j hj
   by_cases jlt:(j:Int) < (m.ps.l.length:Int)
   ·have hjl:j < m.ps.l.length:=by omega
    have j0:(0:Int)≤j:=by omega
    have g0:=P.c0 j hjl
    have g1:=P.c1 j hjl
    have o0:=P.ok0 j hjl
    have o1:=P.ok1 j hjl
    have hA:=P.some_ (by omega)
    have n1:Ao (Dy (m.ps.l.take (j+1)))=Ao (Dy (m.ps.l.take j))++[UInt64.ofInt (ix m.ps.l j).1]:=by unfold Dy Ao;rw[Nc _ _ hjl,List.map_append,List.map_append];rfl
    have n2:Dz (m.ps.l.take (j+1))=Dz (m.ps.l.take j)++[(ix m.ps.l j).2]:=by unfold Dz;rw[Nc _ _ hjl,List.map_append];rfl
    have l1:(Ao (Dy (m.ps.l.take j))).length=j:=by unfold Dy;rw[Ir,List.length_map,List.length_take,Nat.min_eq_left hj]
    have l2:(Dz (m.ps.l.take j)).length=j:=by unfold Dz;rw[List.length_map,List.length_take,Nat.min_eq_left hj]
    have d1:(j+1)*8≤140737488355328:=by omega
    have d2:j+1≤2 ^ 63 - 1:=by omega
    simp (maxSteps:=10^6) only[jlt,j0,g0,g1,o0,o1,hA,l1,l2,d1,d2,Cg,Dl,Db,fb,fl,f40,vp,undef,push_cast,↓Int.toNat_natCast,↓reduceIte,reduceCtorEq,Nat.reduceEqDiff,Nat.reduceLT,Nat.reduceLeDiff,Nat.reduceAdd,Int.reduceNeg]
    (repeat (refine And.intro (by first|omega|decide) ?_))
    refine Bd (j+1) [0,1,2,6,8] (by omega) (by omega) ?_
    simp (maxSteps:=10^6) only[n1,n2,fb,↓Ak,push_cast,↓reduceIte,reduceCtorEq,Nat.reduceEqDiff,Nat.reduceLT,Nat.reduceAdd]
    trace_state
    done
   obtain rfl:j=m.ps.l.length:=by omega
   have l1:(Ao (Dy m.ps.l)).length=m.ps.l.length:=by unfold Dy;rw[Ir,List.length_map]
   have l2:(Dz m.ps.l).length=m.ps.l.length:=by unfold Dz;rw[List.length_map]
   simp (maxSteps:=10^6) only[jlt,List.take_length,e3,hvl,b3,b4,fb,fl,f40,vp,Aq,Br,undef,push_cast,↓reduceIte,reduceCtorEq,Nat.reduceEqDiff,Nat.reduceLT,Nat.reduceLeDiff,Nat.reduceAdd,Nat.reduceMul,Int.reduceNeg]
   (repeat (refine And.intro (by first|omega|decide) ?_))
   refine Sg 3 2 (vs:=(Ao (Dy m.ps.l)).map vU64) rfl (fun _=>rfl) rfl (by decide) fun A1 cap1 h1 h2=>?_
   refine Sg 4 2 (vs:=(Dz m.ps.l).map vU64) rfl (fun _=>rfl) rfl (by decide) fun A2 cap2 h3 h4=>?_
   rw[List.length_map,List.length_map]
   obtain⟨g1,hg1⟩:∃f':FdR,f'=⟨1,0,⟨A1,cap1,Ao (Dy m.ps.l)⟩,⟨none,0,[]⟩,List.replicate 32 0,⟨none,0,[]⟩,0,0⟩:=⟨_,rfl⟩
   obtain⟨g2,hg2⟩:∃f':FdR,f'=⟨1,0,⟨A2,cap2,Dz m.ps.l⟩,⟨none,0,[]⟩,List.replicate 32 0,⟨none,0,[]⟩,0,0⟩:=⟨_,rfl⟩
   have hap:vC ((fR++[g1,g2]).flatMap fdV)=vC (fR.flatMap fdV)++(At.v (.int .u8 1)::At.v (.int .u64 0)::At.v (.slice A1 (Ao (Dy m.ps.l)).length cap1)::At.v (.slice none 0 0)::((List.map f8 (List.replicate 32 0)++[At.v (.slice none 0 0),At.v (.int .i64 0),At.v (.int .u64 0)])++(At.v (.int .u8 1)::At.v (.int .u64 0)::At.v (.slice A2 (Dz m.ps.l).length cap2)::At.v (.slice none 0 0)::(List.map f8 (List.replicate 32 0)++[At.v (.slice none 0 0),At.v (.int .i64 0),At.v (.int .u64 0)])))):=by
    rw[List.flatMap_append,Pw,List.flatMap_cons,List.flatMap_cons,List.flatMap_nil,List.append_nil,Pw]
    refine congrArg (vC (fR.flatMap fdV)++·) ?_
    show vC _++vC _=_
    unfold vC
    rw[←L0,←L0,hg1,hg2]
    unfold fdA
    rfl
   obtain⟨s1,s2,s3⟩:(fR++[g1,g2]).length≤2*(i+1)∧(fR++[g1,g2]).map FdR.fd=((Aj m.k).take (i+1)).flatMap (Fo m.mg)∧∀f∈fR++[g1,g2],FOk m (Fs++[⟨.slice A1 (Ao (Dy m.ps.l)).length cap1,(Ao (Dy m.ps.l)).length,(Ao (Dy m.ps.l)).map vU64⟩]++[⟨.slice A2 (Dz m.ps.l).length cap2,(Dz m.ps.l).length,(Dz m.ps.l).map vU64⟩]) f:=by
    refine⟨by rw[List.length_append,List.length_cons,List.length_singleton];omega,by rw[List.map_append,hfr,ht,k112,hg1,hg2];unfold Dy Dz;rfl,fun x hx=>?_⟩
    rcases List.mem_append.1 hx with hx|hx
    ·exact ((hF x hx).more _).more _
    ·rcases List.mem_cons.1 hx with rfl|hx
     ·rw[hg1]
      exact⟨rfl,rfl,rfl,.inr (.inr (List.mem_append_left _ (List.mem_append_right _ (List.mem_singleton.2 rfl)))),.inl rfl⟩
     ·rw[List.mem_singleton.1 hx,hg2]
      exact⟨rfl,rfl,rfl,.inr (.inr (List.mem_append_right _ (List.mem_singleton.2 rfl))),.inl rfl⟩
   refine Bd (i+1,fR++[g1,g2],Fs++[⟨.slice A1 (Ao (Dy m.ps.l)).length cap1,(Ao (Dy m.ps.l)).length,(Ao (Dy m.ps.l)).map vU64⟩]++[⟨.slice A2 (Dz m.ps.l).length cap2,(Dz m.ps.l).length,(Dz m.ps.l).map vU64⟩]) [0,6,2] ⟨by show i+1≤_;omega,s1,s2,s3⟩ (by show (Ah m.k).size - (i+1) < (Ah m.k).size - i;omega) ?_
   simp (maxSteps:=10^6) only[hap,Cq,P0,P1,fb,↓Ak,push_cast,↓reduceIte,reduceCtorEq,Nat.reduceEqDiff,Nat.reduceLT,Nat.reduceAdd]
   trace_state
   done
  have k120:Fo m.mg c=[{Df 4 with x:=m.mg.xs}]:=by
   unfold Fo
   rw[if_neg k97,if_neg k111,if_neg k99,if_neg k103,if_neg k114,if_neg k110,if_neg k115,if_neg k105,if_neg k118,if_neg k112]
  obtain⟨f',hf'⟩:∃f':FdR,f'=⟨4,0,⟨none,0,[]⟩,⟨none,0,[]⟩,List.replicate 32 0,⟨m.xs.A,m.xs.c,m.xs.l⟩,0,0⟩:=⟨_,rfl⟩
  have hap:vC ((fR++[f']).flatMap fdV)=vC (fR.flatMap fdV)++(At.v (.int .u8 4)::At.v (.int .u64 0)::At.v (.slice none 0 0)::At.v (.slice none 0 0)::(List.map f8 (List.replicate 32 0)++[At.v (.slice m.xs.A m.xs.l.length m.xs.c),At.v (.int .i64 0),At.v (.int .u64 0)])):=(I1 fR f').trans (congrArg (vC (fR.flatMap fdV)++·) (by rw[hf'];unfold fdA;rfl))
  obtain⟨s1,s2,s3⟩:=step f' [] (by rw[k120,hf'];rfl) (by rw[hf'];exact⟨rfl,rfl,rfl,.inl rfl,.inr rfl⟩)
  simp (maxSteps:=10^6) only[k97,k111,k99,k103,k114,k110,k115,k105,k118,k112,e3,hvl,b1,b2,fb,Aq,Br,Wu,push_cast,↓reduceIte,Nat.reduceEqDiff,Nat.reduceLT,Nat.reduceAdd,Int.reduceNeg]
  (repeat (refine And.intro (by first|omega|decide) ?_))
  refine Bd (i+1,fR++[f'],Fs) [0,4,2] ⟨by show i+1≤_;omega,s1,s2,by rw[List.append_nil] at s3;exact s3⟩ (by show (Ah m.k).size - (i+1) < (Ah m.k).size - i;omega) ?_
  simp (maxSteps:=10^6) only[hap,Cq,fb,↓Ak,push_cast,↓reduceIte,reduceCtorEq,Nat.reduceEqDiff,Nat.reduceLT,Nat.reduceAdd]
  done
 ·obtain rfl:i=(Ah m.k).size:=by omega
  rw[Ji,List.take_length] at hfr
  simp (maxSteps:=10^6) only[hlt,push_cast,↓reduceIte,Nat.reduceEqDiff,Nat.reduceLT,Nat.reduceAdd]
  refine⟨fR,Fs,⟨hfr,hF⟩,?_⟩
  refine Bp [1,2] ?_
  simp (maxSteps:=10^6) only[push_cast,↓reduceIte,Nat.reduceEqDiff,Nat.reduceLT,Nat.reduceAdd]
  done
end
end Go.Proofs.YtiaeollemmkclaaDoor
