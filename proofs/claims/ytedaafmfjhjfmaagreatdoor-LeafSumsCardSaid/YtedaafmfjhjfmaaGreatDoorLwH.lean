import Derived.Test.YtedaafmfjhjfmaaGreatDoorLwG
/- Layer 28 walked: Hear, Ask and Give. -/
namespace Go.Proofs.YtedaafmfjhjfmaaGreatDoor
open Go.RowKit
set_option linter.unusedSimpArgs false
set_option linter.unusedVariables false
attribute [local irreducible] Ah Ai Am Bc A7 Ay Ap A6
attribute [local irreducible] A8 okV Bj erV Tal.can Tal.st Bz Cd
section
variable {r:LfR} {m:MgR} {g:Nat} {w:World} {B:Nat→Prop} {γ:List Nm} {Fs:List Fct}
def gvL (pl cl ge:Int) (a:At):List At:=mgL (.v (vU8 10)) (.v (.int .i64 pl)) (.v (.int .i64 0)) (.v (.int .i64 cl)) (.v (.int .i64 ge)) (.v (vU64 0)) (List.replicate 32 0) Ce a Ce Ce (.v (.int .i64 0))
theorem Acy (pl cl ge:Int) (a:At):(((((mgA zeroR).set 0 (.v (.int .u8 10))).set 1 (.v (.int .i64 pl))).set 3 (.v (.int .i64 cl))).set 4 (.v (.int .i64 ge))).set 39 a=gvL pl cl ge a:=rfl
theorem Wj {q:At→Prop} (h:∀v:Value,v.oneCell'=true→scalar v→q (.v v)) {pl cl ge:Int} {a:At} (ha:q a):∀x∈gvL pl cl ge a,q x:=G7 (fun _=>h _ rfl trivial) (h _ rfl trivial) (h _ rfl trivial) (h _ rfl trivial) (h _ rfl trivial) (h _ rfl trivial) (h _ rfl trivial) (h _ rfl trivial) ha (h _ rfl trivial) (h _ rfl trivial) (h _ rfl trivial)
theorem Wk (n:Nat) (pl cl ge:Int) (k:Nat) (hk:k < n):(∀x∈gvL pl cl ge (.o k),x.bnd n)=True:=eq_true (Wj (fun _ _ _=>trivial) hk)
theorem Wl (ρ:List Nat) (pl cl ge:Int) (a:At):(gvL pl cl ge a).map (At.ren ρ)=gvL pl cl ge (a.ren ρ):=Nj ..
theorem St (ρ:List Nat) (pl cl ge:Int) (a:At):Sv.ren ρ (.x (.g (gvL pl cl ge a)))=.x (.g (gvL pl cl ge (a.ren ρ))):=by
 show Sv.x (.g _)=_
 rw[Wl]
theorem A69 (pl cl ge:Int) (a:At):(gvL pl cl ge a).length=43:=Ku rfl
def gvR (pl cl ge:Int) (ns:SlV UInt64):MgR:={zeroR with k:=10,pl:=pl,cl:=cl,ge:=ge,ns:=ns}
def gvH (g:Nat) (r:LfR) (m:MgR):List Res:=lfB g r++[.abs (Aa []),.own 41 (.u64 m.ns.l),.onn 60 45 (.c (.v (.bool false):: .v (.int .i64 0)::gvL r.place m.cl m.ge (.o 6)))]
set_option maxRecDepth 100000 in
theorem A7a (hS:Sat w B γ (lfB g r) w) (hw:Known w B Fs) (ok:LfOk Fs r) (hm:MgF m w B) (hlv:r.phase < 2→r.live=true) (hc:Cd m.mg=true) (hk:m.k=8):
  Calls Tryz.prog 14 (List.map (Sv.val (γ++[.m (.bool true) (fun _=>False)])) [.x (.a (.p 0 0)),.x (.g (mgA m))]).toArray w fun e w'=>∃(x:LfR×SlV SnR×List Fct) (γ1:List Nm),Bi Fs (r.s.hear m.mg).1 (r.s.hear m.mg).2.1 x∧e=.returned ((Sv.t [.a (.v x.2.1.val),.a (.v (erV (r.s.hear m.mg).2.2))]).val γ1)∧Sat w B γ1 (lfB g x.1++[.abs (Aa x.2.2)]) w':=by
 have gl:=Aw ok.sum.s
 have gm:=Aw hm.few.sm
 obtain⟨f0,f1,f2,f3,f4,f5,f38,f39,f40,f41,f42⟩:=mgA_get hm.few.sm
 have vi:m.ids.val=.slice m.ids.A m.ids.l.length m.ids.c:=rfl
 have vn:m.ns.val=.slice m.ns.A m.ns.l.length m.ns.c:=rfl
 have vg:r.group.val=.slice r.group.A r.group.l.length r.group.c:=rfl
 have va:r.above.val=.slice r.above.A r.above.l.length r.above.c:=rfl
 have e0:r.s.hear m.mg=if m.pl≠r.place then (r.s,[],2) else (r.s,Cq r.group.l (fun _=>{Cp 8 with pl:=m.pl,ge:=m.ge,ids:=m.ids.l}),0):=by
  unfold LfS.hear
  rw[if_neg (by rw[hc];decide),if_neg (show ¬(m.mg.k=1∨m.mg.k=3∨m.mg.k=5) from by show ¬(m.k=1∨m.k=3∨m.k=5);rw[hk];decide),if_neg (show ¬m.mg.k=9 from by show ¬m.k=9;rw[hk];decide),if_pos (show m.mg.k=8 from hk)]
  rfl
 refine Ci (n:=122) (ι:=LfR×SlV SnR×List Fct) (Bi Fs (r.s.hear m.mg).1 (r.s.hear m.mg).2.1) (fun x=>.t [.a (.v x.2.1.val),.a (.v (erV (r.s.hear m.mg).2.2))]) (fun x=>lfB g x.1++[.abs (Aa x.2.2)]) Tryz.func14 rfl Tryz.ntmps14 [.x (.a (.p 0 0)),.x (.g (mgA m))] (hS.fct0 (Ar g r)) (by show 2≤122;omega) ?_
 rw[e0]
 unfold lfB lfA
 simp (maxSteps:=10^6) only[gm,↓Ag,↓List.forall_mem_cons,↓Ad,↓Af,↓Bg,↓Bf,push_cast,↓reduceIte,reduceCtorEq,Nat.reduceEqDiff,Nat.reduceLT,Nat.reduceAdd]
 (repeat (refine And.intro (by first|omega|decide) ?_))
 refine Al rfl Gw rfl (Hd hm) (Ae rfl) ?_
 rw[hc,Do]
 have okM:∀{Gs:List Fct},(∀f∈Fs,f∈Fs++Gs)→LfOk (Fs++Gs) r:=fun h=>ok.more h
 simp (maxSteps:=10^6) only[gm,f0,vg,va,hk,A6p,A6q,A6r,A6s,undef,push_cast,↓reduceIte,reduceCtorEq,Nat.reduceEqDiff,Nat.reduceLT,Nat.reduceAdd]
 refine Cc [(0,true),(1,true),(2,true),(3,true),(4,true),(5,true),(6,true)] (by kernel_rfl) (by kernel_rfl) rfl (by kernel_rfl) ?_
 by_cases h1:m.pl=r.place
 ·rw[if_neg (fun h=>h h1)]
  rw[En]
  simp (maxSteps:=10^6) only[gm,f1,gl,h1,undef,push_cast,↓reduceIte,reduceCtorEq,Nat.reduceEqDiff,Nat.reduceLT,Nat.reduceAdd]
  (repeat (refine And.intro (by first|omega|decide) ?_))
  refine Fk (ι:=SlV SnR×List Fct) (fun x=>x.1.l.map SnR.s=Cq r.group.l (fun _=>{Cp 8 with pl:=m.pl,ge:=m.ge,ids:=m.ids.l})∧OutOk x.2 x.1) (fun x=>.x (.a (.v x.1.val))) (fun x=>x.2) 5 rfl rfl Qs rfl (fun γ' w' hS'=>?_) (fun _ _=>rfl) (Ae rfl) (by simp (maxSteps:=10^6) only[↓Ag,↓List.forall_mem_cons,↓Ad,↓Af,↓A5,↓Bg,push_cast,Nat.reduceLT,Nat.reduceAdd]) ?_
  ·have hS2:Sat w B γ' (lfB g r++[.abs (Aa []),.blk 48 (.c (mgA m))]) w':=hS'
   have hv:=Fz (k:=6) (t:=48) (c:=.c (mgA m)) (vs:=mgV m) hS2 rfl (Kt m _)
   have hkn:=Iq (Dr (A:=lfB g r) hS2 hw)
   have hj:=hkn.fw ok.group (fun e=>by rw[e];rfl)
   have:=R0 r.group.l r.group.A r.group.c (.func (.func 61) #[] #[.pointer (some ⟨nmB γ' 6,0,none⟩)]) (fun _=>{Cp 8 with pl:=m.pl,ge:=m.ge,ids:=m.ids.l}) w' ok.few2 hj.2.rd fun id _=>⟨_,_,rfl,Axd,fun w1 hk1=>A3q m ⟨nmB γ' 6,0,none⟩ id w1 (hv.later hk1) (hm.ok (hS2.later (Dc hk1)))⟩
   refine Calls.mono (R:=fun e w''=>∃(x:SlV SnR×List Fct) (γ1:List Nm),(x.1.l.map SnR.s=Cq r.group.l (fun _=>{Cp 8 with pl:=m.pl,ge:=m.ge,ids:=m.ids.l})∧OutOk x.2 x.1)∧e=.returned x.1.val∧Sat w' No γ1 [.abs (Aa x.2)] w'') ?_ (fun e w'' ⟨x,γ1,h1,h2,h3⟩=>⟨x,γ1,h1,h2,h3⟩)
   show Calls _ _ #[r.group.val,.func _ #[] #[.pointer (some ⟨nmB γ' 6,0,none⟩)]] w' _
   rw[vg]
   exact this
  rintro⟨out,Hs⟩ ⟨q3,q4⟩
  dsimp only at q3 q4
  simp (maxSteps:=10^6) only[push_cast,↓reduceIte,Nat.reduceEqDiff,Nat.reduceLT,Nat.reduceAdd]
  refine⟨(r,out,Hs),⟨rfl,by rw[←h1];exact q3,hlv,okM fun f hf=>List.mem_append_left _ hf,q4⟩,A9 [0,1,2,3,4,5] ?_⟩
  simp (maxSteps:=10^6) only[vg,va,↓Ag,↓Az,↓List.forall_mem_cons,↓Ad,↓Af,↓Ax,Au,push_cast,↓reduceIte,reduceCtorEq,Nat.reduceEqDiff,Nat.reduceLT,Nat.reduceAdd]
 ·rw[if_pos h1]
  have ev:=B5 (n:=2) (by decide)
  simp (maxSteps:=10^6) only[gm,f1,gl,ev,h1,undef,push_cast,↓reduceIte,reduceCtorEq,Nat.reduceEqDiff,Nat.reduceLT,Nat.reduceAdd]
  refine⟨(r,⟨none,0,[]⟩,[]),⟨rfl,rfl,hlv,by rw[List.append_nil];exact ok,Ey _⟩,A9 [0,1,2,3,4,5] ?_⟩
  simp (maxSteps:=10^6) only[SlV.val,↓Ag,↓Az,↓List.forall_mem_cons,↓Ad,↓Af,↓Ax,Au,push_cast,↓reduceIte,reduceCtorEq,Nat.reduceEqDiff,Nat.reduceLT,Nat.reduceAdd]
set_option maxRecDepth 100000 in
theorem A7b (hS:Sat w B γ (lfB g r) w) (hw:Known w B Fs) (ok:LfOk Fs r) (hm:MgF m w B) (hlv:r.phase < 2→r.live=true) (hc:Cd m.mg=true) (hk:m.k=9) (hh:A8 r.group.l m.cl=false):
  Calls Tryz.prog 14 (List.map (Sv.val (γ++[.m (.bool true) (fun _=>False)])) [.x (.a (.p 0 0)),.x (.g (mgA m))]).toArray w fun e w'=>∃(x:LfR×SlV SnR×List Fct) (γ1:List Nm),Bi Fs (r.s.hear m.mg).1 (r.s.hear m.mg).2.1 x∧e=.returned ((Sv.t [.a (.v x.2.1.val),.a (.v (erV (r.s.hear m.mg).2.2))]).val γ1)∧Sat w B γ1 (lfB g x.1++[.abs (Aa x.2.2)]) w':=by
 have gl:=Aw ok.sum.s
 have gm:=Aw hm.few.sm
 obtain⟨f0,f1,f2,f3,f4,f5,f38,f39,f40,f41,f42⟩:=mgA_get hm.few.sm
 have vi:m.ids.val=.slice m.ids.A m.ids.l.length m.ids.c:=rfl
 have vn:m.ns.val=.slice m.ns.A m.ns.l.length m.ns.c:=rfl
 have vg:r.group.val=.slice r.group.A r.group.l.length r.group.c:=rfl
 have va:r.above.val=.slice r.above.A r.above.l.length r.above.c:=rfl
 have e0:r.s.hear m.mg=(r.s,[],6):=by
  unfold LfS.hear
  rw[if_neg (by rw[hc];decide),if_neg (show ¬(m.mg.k=1∨m.mg.k=3∨m.mg.k=5) from by show ¬(m.k=1∨m.k=3∨m.k=5);rw[hk];decide),if_pos (show m.mg.k=9 from hk)]
  rw[if_pos (show A8 r.s.group m.mg.cl=false from hh)]
 refine Ci (n:=122) (ι:=LfR×SlV SnR×List Fct) (Bi Fs (r.s.hear m.mg).1 (r.s.hear m.mg).2.1) (fun x=>.t [.a (.v x.2.1.val),.a (.v (erV (r.s.hear m.mg).2.2))]) (fun x=>lfB g x.1++[.abs (Aa x.2.2)]) Tryz.func14 rfl Tryz.ntmps14 [.x (.a (.p 0 0)),.x (.g (mgA m))] (hS.fct0 (Ar g r)) (by show 2≤122;omega) ?_
 rw[e0]
 unfold lfB lfA
 simp (maxSteps:=10^6) only[gm,↓Ag,↓List.forall_mem_cons,↓Ad,↓Af,↓Bg,↓Bf,push_cast,↓reduceIte,reduceCtorEq,Nat.reduceEqDiff,Nat.reduceLT,Nat.reduceAdd]
 (repeat (refine And.intro (by first|omega|decide) ?_))
 refine Al rfl Gw rfl (Hd hm) (Ae rfl) ?_
 rw[hc,Do]
 have fg:=hw.fw ok.group (fun e=>by rw[e];rfl)
 simp (maxSteps:=10^6) only[gm,f0,vg,va,hk,Acv,Acw,Acx,undef,push_cast,↓reduceIte,reduceCtorEq,Nat.reduceEqDiff,Nat.reduceLT,Nat.reduceAdd]
 refine Cc [(0,true),(1,true),(2,true),(3,true),(4,true),(5,true),(6,false),(7,true)] (by kernel_rfl) (by kernel_rfl) rfl (by kernel_rfl) ?_
 simp (maxSteps:=10^6) only[gm,f3,gl,undef,push_cast,↓reduceIte,reduceCtorEq,Nat.reduceEqDiff,Nat.reduceLT,Nat.reduceAdd]
 (repeat (refine And.intro (by first|omega|decide) ?_))
 refine Kh rfl Je rfl (Jm (l:=r.group.l) m.cl (by have:=ok.few2;omega) (Di fg.2 _ _ (List.length_map ..) fg.1)) (Ae rfl) ?_
 rw[hh]
 have ev:=B5 (n:=6) (by decide)
 simp (maxSteps:=10^6) only[ev,push_cast,↓reduceIte,Nat.reduceEqDiff,Nat.reduceLT,Nat.reduceAdd]
 refine⟨(r,⟨none,0,[]⟩,[]),⟨rfl,rfl,hlv,by rw[List.append_nil];exact ok,Ey _⟩,A9 [0,1,2,3,4,5] ?_⟩
 simp (maxSteps:=10^6) only[SlV.val,↓Ag,↓Az,↓List.forall_mem_cons,↓Ad,↓Af,↓Ax,Au,push_cast,↓reduceIte,reduceCtorEq,Nat.reduceEqDiff,Nat.reduceLT,Nat.reduceAdd]
set_option maxRecDepth 100000 in
theorem A7c (hS:Sat w B γ (lfB g r) w) (hw:Known w B Fs) (ok:LfOk Fs r) (hm:MgF m w B) (hc:Cd m.mg=true) (hk:m.k=9) (hh:A8 r.group.l m.cl=true):
  Calls Tryz.prog 14 (List.map (Sv.val (γ++[.m (.bool true) (fun _=>False)])) [.x (.a (.p 0 0)),.x (.g (mgA m))]).toArray w fun e w'=>∃(_:Unit) (γ1:List Nm),True∧e=.returned ((Sv.t [.a (.o 7),.a (.v .nilIface)]).val γ1)∧Sat w B γ1 (gvH g r m) w':=by
 have gl:=Aw ok.sum.s
 have gm:=Aw hm.few.sm
 obtain⟨f0,f1,f2,f3,f4,f5,f38,f39,f40,f41,f42⟩:=mgA_get hm.few.sm
 have vi:m.ids.val=.slice m.ids.A m.ids.l.length m.ids.c:=rfl
 have vn:m.ns.val=.slice m.ns.A m.ns.l.length m.ns.c:=rfl
 have vg:r.group.val=.slice r.group.A r.group.l.length r.group.c:=rfl
 have va:r.above.val=.slice r.above.A r.above.l.length r.above.c:=rfl
 refine Ci (n:=122) (ι:=Unit) (fun _=>True) (fun _=>.t [.a (.o 7),.a (.v .nilIface)]) (fun _=>gvH g r m) Tryz.func14 rfl Tryz.ntmps14 [.x (.a (.p 0 0)),.x (.g (mgA m))] (hS.fct0 (Ar g r)) (by show 2≤122;omega) ?_
 unfold lfB lfA
 simp (maxSteps:=10^6) only[gm,↓Ag,↓List.forall_mem_cons,↓Ad,↓Af,↓Bg,↓Bf,push_cast,↓reduceIte,reduceCtorEq,Nat.reduceEqDiff,Nat.reduceLT,Nat.reduceAdd]
 (repeat (refine And.intro (by first|omega|decide) ?_))
 refine Al rfl Gw rfl (Hd hm) (Ae rfl) ?_
 rw[hc,Do]
 have fg:=hw.fw ok.group (fun e=>by rw[e];rfl)
 simp (maxSteps:=10^6) only[gm,f0,vg,va,hk,Acv,Acw,Acx,undef,push_cast,↓reduceIte,reduceCtorEq,Nat.reduceEqDiff,Nat.reduceLT,Nat.reduceAdd]
 refine Cc [(0,true),(1,true),(2,true),(3,true),(4,true),(5,true),(6,false),(7,true)] (by kernel_rfl) (by kernel_rfl) rfl (by kernel_rfl) ?_
 simp (maxSteps:=10^6) only[gm,f3,gl,undef,push_cast,↓reduceIte,reduceCtorEq,Nat.reduceEqDiff,Nat.reduceLT,Nat.reduceAdd]
 (repeat (refine And.intro (by first|omega|decide) ?_))
 refine Kh rfl Je rfl (Jm (l:=r.group.l) m.cl (by have:=ok.few2;omega) (Di fg.2 _ _ (List.length_map ..) fg.1)) (Ae rfl) ?_
 rw[hh]
 simp (maxSteps:=10^6) only[push_cast,↓reduceIte,Nat.reduceLT,Nat.reduceAdd]
 (repeat (refine And.intro (by first|omega|decide) ?_))
 have gb:=fun n h=>Wk n r.place m.cl m.ge 7 h
 have gb8:=fun n h=>Wk n r.place m.cl m.ge 8 h
 skip
 refine Nn 7 [] 13 (.rd 0 (.rd 1 (.rd 2 (.rd 3 (.rd 4 (.rd 5 (.rd 6 (.rd 7 (.rd 8 (.rd 9 (.fk 10 (.fk 11 (.wr 12 .nil) 12 (.wr 11 .nil)) 12 (.wr 10 (.wr 11 .nil))))))))))))) ⟨[(0,.x (.a (.p 0 0))),(7,.x (.a (.p 8 0))),(52,.x (.g (gvL r.place m.cl m.ge (.o 7))))],[.pin g 104 (.c (.v (.int .i64 r.place):: .v (.int .i64 r.gen):: .v (.int .i64 r.dim):: .v (.int .i64 r.term):: .v (.int .i64 r.need):: .v (.int .i64 r.parent):: .v r.above.val:: .v r.group.val:: .v (.int .i64 r.phase):: .v r.waits.val:: .p 1 0:: .v r.joined.val:: .o 2:: .o 3:: .o 4::mgA r.sum)),.blk 170 (.c (tlA r.ty)),.mp .i64 (puE r.pub),bxR r,.mp .i64 (slE r.rows),.abs (Aa []),.blk 48 (.c (mgA m)),.own 41 (.u64 m.ns.l),.blk 48 (.c (mgA zeroR))]⟩ (by kernel_rfl) (by kernel_rfl) (Nat.le_refl 7) ?_ ?_
 ·simp (maxSteps:=10^6) only[gm,f3,f4,f39,vn,vg,va,gl,Bl,Bu,Bp,undef,↓Ag,↓List.forall_mem_cons,↓Ad,↓Af,↓A5,↓Bg,push_cast,↓reduceIte,reduceCtorEq,Nat.reduceEqDiff,Nat.reduceLT,Nat.reduceAdd,Nat.reduceSub]
  constructor
  ·refine L7 rfl Qr rfl (V0 (l:=m.ns.l) hm.few.ns (Di hm.ns.2 _ _ (List.length_map ..) hm.ns.1) (by simp (maxSteps:=10^6) only[↓Ag,↓List.forall_mem_cons,↓Ad,↓Af,↓A5,push_cast,Nat.reduceLT,Nat.reduceAdd])) (Ae rfl) (fun _=>by simp (maxSteps:=10^6) only[↓Ag,↓List.forall_mem_cons,↓Ad,↓Af,↓A5,↓Bg,push_cast,Nat.reduceLT,Nat.reduceAdd]) rfl ?_
   simp (maxSteps:=10^6) only[Bl,Bu,Bp,Bw,Acy,↓gb,↓Ag,↓List.forall_mem_cons,↓Ad,↓Af,↓A5,↓Bg,push_cast,↓reduceIte,reduceCtorEq,Nat.reduceEqDiff,Nat.reduceLT,Nat.reduceAdd]
   repeat' (refine And.intro ?_ ?_)
   all_goals first
    |(refine Dd [0,1,2,3,4,5,6,7,8] ?_
      simp (maxSteps:=10^6) only[↓St,rn,↓gb,↓Ag,↓Az,↓List.forall_mem_cons,↓Ad,↓Af,↓Ax,Au,↓A5,↓Bh,push_cast,↓reduceIte,reduceCtorEq,Nat.reduceEqDiff,Nat.reduceLT,Nat.reduceAdd]
      done)
    |(refine Dd [0,1,2,3,4,5,6,8,7] ?_
      simp (maxSteps:=10^6) only[↓St,Wl,rn,↓gb,↓gb8,↓Ab7,↓Ag,↓Az,↓A30,K0,↓List.forall_mem_cons,↓List.forall_mem_append,↓Ad,↓Dg,↓Co,↓Vk,↓Af,↓Ax,↓Io,↓A2i,Au,Ip,↓A5,↓Bg,↓A0i,↓Bf,↓Bh,↓A0j,↓A0k,push_cast,↓Int.toNat_natCast,↓Int.cast_ofNat_Int,Int.cast_ofNat_Int,↓reduceIte,reduceCtorEq,Nat.reduceEqDiff,Nat.reduceLT,Nat.reduceLeDiff,Nat.reduceAdd,Nat.reduceSub,Nat.reduceMul,Int.reduceNeg,Int.reduceLE,Int.reduceLT,Int.reduceToNat,Int.reduceAdd,Int.reduceSub,Int.reduceMul,Int.reduceEq]
      done)
  ·refine L7 rfl Qr rfl (V0 (l:=m.ns.l) hm.few.ns (Di hm.ns.2 _ _ (List.length_map ..) hm.ns.1) (by simp (maxSteps:=10^6) only[↓Ag,↓List.forall_mem_cons,↓Ad,↓Af,↓A5,push_cast,Nat.reduceLT,Nat.reduceAdd])) (Ae rfl) (fun _=>by simp (maxSteps:=10^6) only[↓Ag,↓List.forall_mem_cons,↓Ad,↓Af,↓A5,↓Bg,push_cast,Nat.reduceLT,Nat.reduceAdd]) rfl ?_
   simp (maxSteps:=10^6) only[Bl,Bu,Bp,Bw,Acy,↓List.forall_mem_cons,push_cast,↓reduceIte,reduceCtorEq,Nat.reduceEqDiff,Nat.reduceLT,Nat.reduceAdd]
   repeat' (refine And.intro ?_ ?_)
   all_goals first
    |(refine Dd [0,1,2,3,4,5,6,7,8] ?_
      simp (maxSteps:=10^6) only[↓St,rn,↓gb,↓Ag,↓Az,↓List.forall_mem_cons,↓Ad,↓Af,↓Ax,Au,↓A5,↓Bh,push_cast,↓reduceIte,reduceCtorEq,Nat.reduceEqDiff,Nat.reduceLT,Nat.reduceAdd]
      done)
    |(refine Dd [0,1,2,3,4,5,6,8,7] ?_
      simp (maxSteps:=10^6) only[↓St,rn,↓gb,↓Ag,↓Az,↓List.forall_mem_cons,↓Ad,↓Af,↓Ax,Au,↓A5,↓Bh,push_cast,↓reduceIte,reduceCtorEq,Nat.reduceEqDiff,Nat.reduceLT,Nat.reduceAdd]
      done)
 ·have ll:=A69 r.place m.cl m.ge (.o 7)
  have dz:(mgA zeroR).drop 43=[]:=rfl
  simp (maxSteps:=10^6) only[ll,dz,Bl,Hh,J1,Bp,Bw,Ry,undef,↓gb,↓Ag,↓List.forall_mem_cons,↓Ad,↓Af,↓A5,push_cast,↓reduceIte,reduceCtorEq,Nat.reduceEqDiff,Nat.reduceLT,Nat.reduceLeDiff,Nat.reduceAdd,Nat.reduceMul]
  refine⟨Wj (q:=At.one [.pin g 104 (.c (.v (.int .i64 r.place):: .v (.int .i64 r.gen):: .v (.int .i64 r.dim):: .v (.int .i64 r.term):: .v (.int .i64 r.need):: .v (.int .i64 r.parent):: .v r.above.val:: .v r.group.val:: .v (.int .i64 r.phase):: .v r.waits.val:: .p 1 0:: .v r.joined.val:: .o 2:: .o 3:: .o 4::mgA r.sum)),.blk 170 (.c (tlA r.ty)),.mp .i64 (puE r.pub),bxR r,.mp .i64 (slE r.rows),.abs (Aa []),.blk 48 (.c (mgA m)),.own 41 (.u64 m.ns.l),.blk 48 (.c (mgA zeroR))]) (fun _ h _=>h) (a:=.o 7) (by first|rfl|trivial),Wj (q:=At.one [.pin g 104 (.c (.v (.int .i64 r.place):: .v (.int .i64 r.gen):: .v (.int .i64 r.dim):: .v (.int .i64 r.term):: .v (.int .i64 r.need):: .v (.int .i64 r.parent):: .v r.above.val:: .v r.group.val:: .v (.int .i64 r.phase):: .v r.waits.val:: .p 1 0:: .v r.joined.val:: .o 2:: .o 3:: .o 4::mgA r.sum)),.blk 170 (.c (tlA r.ty)),.mp .i64 (puE r.pub),bxR r,.mp .i64 (slE r.rows),.abs (Aa []),.blk 48 (.c (mgA m)),.own 41 (.u64 m.ns.l),.blk 48 (.c (gvL r.place m.cl m.ge (.o 7)))]) (fun _ h _=>h) (a:=.o 7) (by first|rfl|trivial),(),A9 [0,1,2,3,4,5,7,9] ?_⟩
  unfold gvH lfB lfA
  have gb7:=fun n h=>Wk n r.place m.cl m.ge 6 h
  simp (maxSteps:=10^6) only[vg,va,↓gb7,Wl,rn,↓Ag,↓Az,↓List.forall_mem_cons,↓List.forall_mem_append,↓Ad,↓Af,↓Ax,Au,push_cast,↓reduceIte,reduceCtorEq,Nat.reduceEqDiff,Nat.reduceLT,Nat.reduceAdd]
theorem A7d (hS:Sat w B γ (lfB g r) w) (hw:Known w B Fs) (ok:LfOk Fs r) (hm:MgF m w B) (hlv:r.phase < 2→r.live=true) (hc:Cd m.mg=true) (hk:m.k=9) (hh:A8 r.group.l m.cl=true):
  Calls Tryz.prog 14 (List.map (Sv.val (γ++[.m (.bool true) (fun _=>False)])) [.x (.a (.p 0 0)),.x (.g (mgA m))]).toArray w fun e w'=>∃(x:LfR×SlV SnR×List Fct) (γ1:List Nm),Bi Fs (r.s.hear m.mg).1 (r.s.hear m.mg).2.1 x∧e=.returned ((Sv.t [.a (.v x.2.1.val),.a (.v (erV (r.s.hear m.mg).2.2))]).val γ1)∧Sat w B γ1 (lfB g x.1++[.abs (Aa x.2.2)]) w':=by
 have e0:r.s.hear m.mg=(r.s,[⟨false,0,{Cp 10 with pl:=r.place,cl:=m.cl,ge:=m.ge,ns:=m.ns.l}⟩],0):=by
  unfold LfS.hear
  rw[if_neg (by rw[hc];decide),if_neg (show ¬(m.mg.k=1∨m.mg.k=3∨m.mg.k=5) from by show ¬(m.k=1∨m.k=3∨m.k=5);rw[hk];decide),if_pos (show m.mg.k=9 from hk)]
  rw[if_neg (by show ¬A8 r.group.l m.cl=false;rw[hh];decide)]
  rfl
 refine (A7c hS hw ok hm hc hk hh).mono fun e w' ⟨_,γ1,_,he,hS1⟩=>?_
 rw[e0,En]
 obtain⟨A,cap,γ2,x1,x2,eB,eS,h4⟩:=hS1.ownFs (j:=6) (k:=5) (c:=.u64 m.ns.l) (vs:=m.ns.l.map vU64) (l:=[]) rfl rfl (by decide) (fun _=>rfl)
 rw[List.length_map] at x1 x2 h4
 have h5:Sat w B γ2 (lfB g r++[.abs (Aa [⟨.slice A m.ns.l.length cap,m.ns.l.length,m.ns.l.map vU64⟩]),.gone,.onn 60 45 (.c (snL [⟨false,0,gvR r.place m.cl m.ge ⟨A,cap,m.ns.l⟩⟩]))]) w':=by
  have e:((gvH g r m).map (Res.sub 6 (.slice A m.ns.l.length cap))).set 6 .gone=lfB g r++[.abs (Aa []),.gone,.onn 60 45 (.c (snL [⟨false,0,gvR r.place m.cl m.ge ⟨A,cap,m.ns.l⟩⟩]))]:=by
   have e1:(lfA r).map (At.sub 6 (.slice A m.ns.l.length cap))=lfA r:=by
    unfold lfA
    rw[List.map_append,Ip]
    rfl
   have e2:(gvL r.place m.cl m.ge (.o 6)).map (At.sub 6 (.slice A m.ns.l.length cap))=mgA (gvR r.place m.cl m.ge ⟨A,cap,m.ns.l⟩):=rfl
   have e3:snL [⟨false,0,gvR r.place m.cl m.ge ⟨A,cap,m.ns.l⟩⟩]=.v (.bool false):: .v (.int .i64 0)::mgA (gvR r.place m.cl m.ge ⟨A,cap,m.ns.l⟩):=by
    unfold snL
    rw[List.flatMap_cons,List.flatMap_nil,List.append_nil]
    rfl
   have e4:(tlA r.ty).map (At.sub 6 (.slice A m.ns.l.length cap))=tlA r.ty:=rfl
   unfold gvH lfB
   rw[e3]
   simp only[List.cons_append,List.nil_append,List.map_cons,List.map_nil,↓Io,Res.sub,Cont.sub,Hz,Gg,e1,e2,e4,List.set_cons_succ,List.set_cons_zero]
   rfl
  rw[e] at h4
  exact h4
 have hL:∀y∈[SnR.mk false 0 (gvR r.place m.cl m.ge ⟨A,cap,m.ns.l⟩)],MOk [⟨.slice A m.ns.l.length cap,m.ns.l.length,m.ns.l.map vU64⟩] y.m:=fun y hy=>by
  rw[List.mem_singleton.1 hy]
  exact⟨rfl,.inl rfl,.inr (List.mem_singleton.2 rfl),.inl rfl,.inl rfl,⟨rfl,Nat.zero_le _,hm.few.ns,Nat.zero_le _,Nat.zero_le _⟩⟩
 obtain⟨A1,cap1,γ3,y1,y2,eB1,eS1,h6⟩:=h5.onnF (j:=7) (k:=5) (vs:=[SnR.mk false 0 (gvR r.place m.cl m.ge ⟨A,cap,m.ns.l⟩)].flatMap snV) (n:=1) (l:=[⟨.slice A m.ns.l.length cap,m.ns.l.length,m.ns.l.map vU64⟩]) rfl rfl (by decide) (Nv γ2 _) (Rz fun y hy=>(hL y hy).s)
 have h7:Sat w B γ3 ((lfB g r++[.abs (Aa ([⟨.slice A m.ns.l.length cap,m.ns.l.length,m.ns.l.map vU64⟩]++[⟨.slice A1 1 cap1,1,[SnR.mk false 0 (gvR r.place m.cl m.ge ⟨A,cap,m.ns.l⟩)].flatMap snV⟩]))])++[.gone,.gone]) w':=h6
 refine⟨(r,⟨A1,cap1,[SnR.mk false 0 (gvR r.place m.cl m.ge ⟨A,cap,m.ns.l⟩)]⟩,_),_,⟨rfl,rfl,hlv,ok.more fun f hf=>List.mem_append_left _ hf,OutOk.of hL (by show 1≤1000;omega)⟩,?_,h7.frontOf (Ju g _ _)⟩
 rw[he]
 show Ending.returned (.tuple #[nmS γ1 7,.nilIface])=_
 rw[←eS,y1]
 rfl
end
end Go.Proofs.YtedaafmfjhjfmaaGreatDoor
