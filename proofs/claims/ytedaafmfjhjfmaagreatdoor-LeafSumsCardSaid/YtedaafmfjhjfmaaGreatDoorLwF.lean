import Derived.Test.YtedaafmfjhjfmaaGreatDoorLwD
/- Layer 28 walked: on, where a leaf is lost, or waits. -/
namespace Go.Proofs.YtedaafmfjhjfmaaGreatDoor
open Go.RowKit
set_option linter.unusedSimpArgs false
set_option linter.unusedVariables false
section
variable {P:Program} {w0:World} {ow:Nat→Prop} {n:Nat} {s:S}
theorem A41 {a:Act} {w:World} {j m k i nn:Nat} {e t:TypeId} {c:Cont} {cells:List At} {vs:List Value} {l:List Fct} (hj:s.hp[j]?=some (.blk e c)) (hm:Cf s.hp[m]?=some (t,.c cells)) (hi:cells[i]?=some (.s j 0 nn nn)) (hv:∀γ,c.vals γ=vs) (hl:vs.length=nn) (hk:s.hp[k]?=some (.abs (Aa l))) (hjk:j≠k) (hjm:m≠j) (hmk:m≠k) (hmax:nn≤maxLen) (hf:Fits w0 ow n s a w):
  ∃A,Fits w0 ow n ⟨s.fr,((s.hp.set m (C9 s.hp[m]? t (.c (cells.set i (.v (.slice A nn nn)))))).set j .gone).set k (.abs (Aa (l++[⟨.slice A nn nn,nn,vs⟩])))⟩ a w:=by
 obtain⟨γ,hf⟩:=hf
 have h0:=hf.sat
 have hns:=h0.rdBlk hj 0
 rw[hv,List.drop_zero] at hns
 have hrc:=h0.recell (c':=.c (cells.set i (.v (.slice (some ⟨nmB γ j,0,none⟩) nn nn)))) hm (by
  show (cells.set i _).map (At.val γ)=cells.map (At.val γ)
  rw[List.map_set]
  exact A1z (by rw[List.getElem?_map,hi];rfl))
 obtain⟨γ',eB,eS,h3⟩:=hrc.absorbs (j:=j) (k:=k) (l:=l) (fs:=[⟨.slice (some ⟨nmB γ j,0,none⟩) nn nn,nn,vs⟩]) (r:=.blk e c) (by rw[List.getElem?_set_ne hjm];exact hj) (by rw[List.getElem?_set_ne hmk];exact hk) hjk (X:=fun b=>some (nmB γ j)=some b) (fun b hb=>hb) fun f hf=>by
   rw[List.mem_singleton.1 hf]
   refine⟨some ⟨nmB γ j,0,none⟩,nn,rfl,Nat.le_refl _,hmax,fun hp=>⟨nmB γ j,0,rfl,rfl,fun q u hu=>?_⟩⟩
   obtain⟨b,off,e1,_,e2⟩:=hns hp
   cases e1
   exact e2 q u hu
 refine⟨some ⟨nmB γ j,0,none⟩,γ',h3,hf.defers,hf.size,fun u sv hu=>?_⟩
 rw[Z3 eB eS]
 exact hf.at_ u sv hu
theorem A42 {id:Nat} {ops:List Oper} {K:Exit→S→Prop} (j m k i nn:Nat) {e t:TypeId} {c:Cont} {cells:List At} {vs:List Value} {l:List Fct} (hj:s.hp[j]?=some (.blk e c)) (hm:Cf s.hp[m]?=some (t,.c cells)) (hi:cells[i]?=some (.s j 0 nn nn)) (hv:∀γ,c.vals γ=vs) (hl:vs.length=nn) (hk:s.hp[k]?=some (.abs (Aa l))) (hjk:j≠k) (hjm:m≠j) (hmk:m≠k) (hmax:nn≤maxLen)
  (h:∀A,A7 P w0 ow n id ops ⟨s.fr,((s.hp.set m (C9 s.hp[m]? t (.c (cells.set i (.v (.slice A nn nn)))))).set j .gone).set k (.abs (Aa (l++[⟨.slice A nn nn,nn,vs⟩])))⟩ K):A7 P w0 ow n id ops s K:=fun a w hf=>by
 obtain⟨A,h1⟩:=A41 hj hm hi hv hl hk hjk hjm hmk hmax hf
 exact h A a w h1
end
attribute [local irreducible] Ah Ai Am Bc A7 Ay Ap A6
attribute [local irreducible] A8 okV Bj erV Tal.can Tal.st Bz
section
variable {r:LfR} {g:Nat} {w:World} {B:Nat→Prop} {γ:List Nm} {Fs:List Fct}
def Ha (ge:Int) (a:At):List At:=mgL (.v (vU8 17)) (.v (.int .i64 0)) (.v (.int .i64 0)) (.v (.int .i64 0)) (.v (.int .i64 ge)) (.v (vU64 0)) (List.replicate 32 0) a Ce Ce Ce (.v (.int .i64 0))
theorem A43 (ge:Int) (a:At):(((mgA zeroR).set 0 (.v (.int .u8 17))).set 4 (.v (.int .i64 ge))).set 38 a=Ha ge a:=rfl
theorem Acp {q:At→Prop} (h:∀v:Value,v.oneCell'=true→scalar v→q (.v v)) {ge:Int} {a:At} (ha:q a):∀x∈Ha ge a,q x:=G7 (fun _=>h _ rfl trivial) (h _ rfl trivial) (h _ rfl trivial) (h _ rfl trivial) (h _ rfl trivial) (h _ rfl trivial) (h _ rfl trivial) ha (h _ rfl trivial) (h _ rfl trivial) (h _ rfl trivial) (h _ rfl trivial)
theorem Acq (n:Nat) (ge:Int) (k:Nat) (hk:k < n):(∀x∈Ha ge (.s k 0 1 1),x.bnd n)=True:=eq_true (Acp (fun _ _ _=>trivial) hk)
theorem A44 (ρ:List Nat) (ge:Int) (a:At):(Ha ge a).map (At.ren ρ)=Ha ge (a.ren ρ):=Nj ..
theorem Acr (ρ:List Nat) (ge:Int) (a:At):Sv.ren ρ (.x (.g (Ha ge a)))=.x (.g (Ha ge (a.ren ρ))):=by
 show Sv.x (.g _)=_
 rw[A44]
theorem A45 (ge:Int) (a:At):(Ha ge a).length=43:=Ku rfl
def Gl (r:LfR) (A:Option Addr):MgR:={zeroR with k:=17,ge:=r.gen,ids:=⟨A,1,[r.place]⟩}
set_option maxRecDepth 100000 in
theorem A46 (hS:Sat w B γ (lfB g r) w) (ok:LfOk Fs r) (hp:r.phase≤2) (h1:r.ty.t.st=2):
  Calls Tryz.prog 57 (List.map (Sv.val (γ++[.m (.bool true) (fun _=>False)])) [.x (.a (.p 0 0))]).toArray w fun e w'=>∃(A:Option Addr) (γ1:List Nm),True∧e=.returned ((Sv.x (.a (.o 6))).val γ1)∧Sat w B γ1 (lfB g {r with phase:=4}++[.abs (Aa [⟨.slice A 1 1,1,[.int .i64 r.place]⟩]),.onn 60 45 (.c (snL [⟨false,r.parent,Gl r A⟩]))]) w':=by
 have gl:=Aw ok.sum.s
 have np:¬2 < r.phase:=by omega
 refine Ci (n:=52) (ι:=Option Addr) (fun _=>True) (fun A=>.x (.a (.o 6))) (fun A=>lfB g {r with phase:=4}++[.abs (Aa [⟨.slice A 1 1,1,[.int .i64 r.place]⟩]),.onn 60 45 (.c (snL [⟨false,r.parent,Gl r A⟩]))]) Tryz.func57 rfl Tryz.ntmps57 [.x (.a (.p 0 0))] (hS.fct0 (Ar g r)) (by show 1≤52;omega) ?_
 unfold lfB lfA
 simp (maxSteps:=10^6) only[gl,np,undef,push_cast,↓reduceIte,reduceCtorEq,Nat.reduceLT,Nat.reduceAdd]
 (repeat (refine And.intro (by first|omega|decide) ?_))
 refine Al rfl M4 rfl (Ru (k:=1) rfl ok.ty) (Ae rfl) ?_
 rw[h1]
 simp (maxSteps:=10^6) only[gl,undef,push_cast,↓reduceIte,reduceCtorEq,Nat.reduceEqDiff,Nat.reduceLT,Nat.reduceAdd,Int.reduceEq]
 (repeat (refine And.intro (by first|omega|decide) ?_))
 have lb:=fun n h=>Acq n r.gen 6 h
 refine Nn 6 [] 11 (.rd 0 (.rd 1 (.rd 2 (.rd 3 (.rd 4 (.rd 5 (.rd 6 (.rd 7 (.fk 8 (.rd 9 (.wr 10 .nil)) 10 (.wr 8 (.wr 9 .nil))))))))))) ⟨[(0,.x (.a (.p 0 0))),(3,.x (.a (.p 7 0))),(44,.x (.g (Ha r.gen (.s 6 0 1 1))))],[.pin g 104 (.c (.v (.int .i64 r.place):: .v (.int .i64 r.gen):: .v (.int .i64 r.dim):: .v (.int .i64 r.term):: .v (.int .i64 r.need):: .v (.int .i64 r.parent):: .v r.above.val:: .v r.group.val:: .v (.int .i64 4):: .v r.waits.val:: .p 1 0:: .v r.joined.val:: .o 2:: .o 3:: .o 4::mgA r.sum)),.blk 170 (.c (tlA r.ty)),.mp .i64 (puE r.pub),bxR r,.mp .i64 (slE r.rows),.abs (Aa []),.blk 3 (.i64 [r.place]),.blk 48 (.c (mgA zeroR))]⟩ (by kernel_rfl) (by kernel_rfl) (Nat.le_refl 6) ?_ ?_
 ·simp (maxSteps:=10^6) only[gl,Bl,Bu,Bp,Bw,A43,undef,↓Ag,↓List.forall_mem_cons,↓Ad,↓Af,↓A5,push_cast,↓reduceIte,reduceCtorEq,Nat.reduceEqDiff,Nat.reduceLT,Nat.reduceLeDiff,Nat.reduceAdd,Nat.reduceSub]
  repeat' (refine And.intro ?_ ?_)
  all_goals first
   |exact of_eq_true (Acq _ _ _ (by decide))
   |(refine Dd [0,1,2,3,4,5,6,7] ?_
     simp (maxSteps:=10^6) only[↓Acr,rn,↓lb,↓Ag,↓Az,↓List.forall_mem_cons,↓Ad,↓Af,↓Ax,Au,↓A5,↓Bh,push_cast,↓reduceIte,reduceCtorEq,Nat.reduceEqDiff,Nat.reduceLT,Nat.reduceAdd]
     done)
   |(refine Dd [0,1,2,3,4,5,7,6] ?_
     simp (maxSteps:=10^6) only[↓Acr,rn,↓lb,↓Ag,↓Az,↓List.forall_mem_cons,↓Ad,↓Af,↓Ax,Au,↓A5,↓Bh,push_cast,↓reduceIte,reduceCtorEq,Nat.reduceEqDiff,Nat.reduceLT,Nat.reduceAdd]
     done)
 ·have ll:=A45 r.gen (.s 6 0 1 1)
  simp (maxSteps:=10^6) only[ll,Bw,undef,push_cast,↓reduceIte,reduceCtorEq,Nat.reduceEqDiff,Nat.reduceLT,Nat.reduceAdd]
  refine⟨Acp (q:=At.one [.pin g 104 (.c (.v (.int .i64 r.place):: .v (.int .i64 r.gen):: .v (.int .i64 r.dim):: .v (.int .i64 r.term):: .v (.int .i64 r.need):: .v (.int .i64 r.parent):: .v r.above.val:: .v r.group.val:: .v (.int .i64 4):: .v r.waits.val:: .p 1 0:: .v r.joined.val:: .o 2:: .o 3:: .o 4::mgA r.sum)),.blk 170 (.c (tlA r.ty)),.mp .i64 (puE r.pub),bxR r,.mp .i64 (slE r.rows),.abs (Aa []),.blk 3 (.i64 [r.place]),.blk 48 (.c (mgA zeroR))]) (fun _ h _=>h) (a:=.s 6 0 1 1) (by first|rfl|trivial),?_⟩
  refine A42 6 7 5 38 1 (c:=.i64 [r.place]) (cells:=Ha r.gen (.s 6 0 1 1)) (vs:=[.int .i64 r.place]) (l:=[]) rfl rfl rfl (fun _=>rfl) rfl rfl (by decide) (by decide) (by decide) (by unfold maxLen;omega) fun A=>?_
  have es:(Ha r.gen (.s 6 0 1 1)).set 38 (.v (.slice A 1 1))=mgA (Gl r A):=rfl
  have gm:=Aw (m:=Gl r A) rfl
  have dz:(mgA zeroR).drop 43=[]:=rfl
  refine Zw [0,3] ?_
  simp (maxSteps:=10^6) only[es,push_cast,↓reduceIte,reduceCtorEq]
  refine Cc [(0,true),(1,true),(2,true),(3,true),(4,true),(5,true),(6,false),(7,true)] (by kernel_rfl) (by kernel_rfl) rfl (by kernel_rfl) ?_
  simp (maxSteps:=10^6) only[gl,gm,dz,Bl,Hh,J1,Bp,Bw,Ry,undef,↓Ag,↓List.forall_mem_cons,↓Ad,↓Af,↓A5,↓Bg,push_cast,↓reduceIte,reduceCtorEq,Nat.reduceEqDiff,Nat.reduceLT,Nat.reduceLeDiff,Nat.reduceAdd,Nat.reduceMul]
  refine⟨of_eq_true (Co _ _),A,A9 [0,1,2,3,4,5,8] ?_⟩
  have eb:bxR ({r with phase:=4}:LfR)=bxR r:=rfl
  have e:snL [⟨false,r.parent,Gl r A⟩]=.v (.bool false):: .v (.int .i64 r.parent)::mgA (Gl r A):=by
   unfold snL
   rw[List.flatMap_cons,List.flatMap_nil,List.append_nil]
   rfl
  simp (maxSteps:=10^6) only[eb,e,↓L9,↓Rx,↓Ag,↓Az,↓List.forall_mem_cons,↓Ad,↓Af,↓Ax,Au,push_cast,↓reduceIte,reduceCtorEq,Nat.reduceEqDiff,Nat.reduceLT,Nat.reduceAdd]
set_option maxRecDepth 100000 in
theorem A47 (hS:Sat w B γ (lfB g r) w) (ok:LfOk Fs r) (h1:2 < r.phase∨(r.phase≤2∧¬r.ty.t.st=1∧¬r.ty.t.st=2)):
  Calls Tryz.prog 57 (List.map (Sv.val (γ++[.m (.bool true) (fun _=>False)])) [.x (.a (.p 0 0))]).toArray w fun e w'=>∃(_:Unit) (γ1:List Nm),True∧e=.returned ((Sv.x (.a (.v (.slice none 0 0)))).val γ1)∧Sat w B γ1 (lfB g r++[.abs (Aa [])]) w':=by
 have gl:=Aw ok.sum.s
 refine Ci (n:=52) (ι:=Unit) (fun _=>True) (fun A=>.x (.a (.v (.slice none 0 0)))) (fun A=>lfB g r++[.abs (Aa [])]) Tryz.func57 rfl Tryz.ntmps57 [.x (.a (.p 0 0))] (hS.fct0 (Ar g r)) (by show 1≤52;omega) ?_
 unfold lfB lfA
 rcases h1 with h1|⟨np,h2,h3⟩
 ·simp (maxSteps:=10^6) only[gl,h1,undef,push_cast,↓reduceIte,reduceCtorEq,Nat.reduceLT,Nat.reduceAdd]
  refine⟨(),A9 [0,1,2,3,4,5] ?_⟩
  simp (maxSteps:=10^6) only[↓Ag,↓Az,↓List.forall_mem_cons,↓Ad,↓Af,↓Ax,Au,push_cast,↓reduceIte,reduceCtorEq,Nat.reduceEqDiff,Nat.reduceLT,Nat.reduceAdd]
 ·have np:¬2 < r.phase:=by omega
  simp (maxSteps:=10^6) only[gl,np,undef,push_cast,↓reduceIte,reduceCtorEq,Nat.reduceLT,Nat.reduceAdd]
  (repeat (refine And.intro (by first|omega|decide) ?_))
  refine Al rfl M4 rfl (Ru (k:=1) rfl ok.ty) (Ae rfl) ?_
  simp (maxSteps:=10^6) only[h2,h3,push_cast,↓reduceIte,Nat.reduceEqDiff,Nat.reduceLT,Nat.reduceAdd]
  refine⟨(),A9 [0,1,2,3,4,5] ?_⟩
  simp (maxSteps:=10^6) only[↓Ag,↓Az,↓List.forall_mem_cons,↓Ad,↓Af,↓Ax,Au,push_cast,↓reduceIte,reduceCtorEq,Nat.reduceEqDiff,Nat.reduceLT,Nat.reduceAdd]
theorem Sf (hS:Sat w B γ (lfB g r) w) (hw:Known w B Fs) (ok:LfOk Fs r) {R:List (Int×List UInt32)} (hI:LfInv r.s R none) (hB:LfBx r.s) (hlv:r.phase < 2→r.live=true) (h3:1≤r.term∧r.term≤1000) (hp:r.phase≤2):N2 57 r Fs r.s.on.1 r.s.on.2 g w B:=by
 by_cases h1:r.ty.t.st=1
 ·have:=A40 hS hw ok hI hB hlv h3 hp h1
  rw[K5 hS] at this
  exact this.mono fun e w' ⟨x,γ1,h⟩=>⟨x,γ1,h⟩
 have e0:r.s.on=if r.ty.t.st=2 then ({r.s with phase:=4},[⟨false,r.parent,{Cp 17 with ge:=r.gen,ids:=[r.place]}⟩]) else (r.s,[]):=by
  unfold LfS.on
  rw[if_neg (by show ¬2 < r.phase;omega),if_neg (show ¬r.s.tally.st=1 from h1)]
  rfl
 by_cases h2:r.ty.t.st=2
 ·rw[if_pos h2] at e0
  have:=A46 hS ok hp h2
  rw[K5 hS] at this
  refine this.mono fun e w' ⟨A,γ1,_,he,hS1⟩=>?_
  have hL:∀y∈[SnR.mk false r.parent (Gl r A)],MOk [⟨.slice A 1 1,1,[.int .i64 r.place]⟩] y.m:=fun y hy=>by
   rw[List.mem_singleton.1 hy]
   exact⟨rfl,.inr (List.mem_singleton.2 rfl),.inl rfl,.inl rfl,.inl rfl,⟨rfl,by show 1≤1000;omega,Nat.zero_le _,Nat.zero_le _,Nat.zero_le _⟩⟩
  obtain⟨A1,cap,γ',e1,e2,eB,eS,h5⟩:=hS1.onnF (j:=6) (k:=5) (vs:=[SnR.mk false r.parent (Gl r A)].flatMap snV) (n:=1) (l:=[⟨.slice A 1 1,1,[.int .i64 r.place]⟩]) rfl rfl (by decide) (Nv γ1 _) (Rz fun y hy=>(hL y hy).s)
  have h6:Sat w B γ' ((lfB g {r with phase:=4}++[.abs (Aa ([⟨.slice A 1 1,1,[.int .i64 r.place]⟩]++[⟨.slice A1 1 cap,1,[SnR.mk false r.parent (Gl r A)].flatMap snV⟩]))])++[.gone]) w':=h5
  refine⟨({r with phase:=4},⟨A1,cap,[SnR.mk false r.parent (Gl r A)]⟩,[⟨.slice A 1 1,1,[.int .i64 r.place]⟩]++[⟨.slice A1 1 cap,1,[SnR.mk false r.parent (Gl r A)].flatMap snV⟩]),_,⟨by rw[e0];rfl,by rw[e0];rfl,fun h=>absurd h (by show ¬(4:Int) < 2;omega),?_,OutOk.of hL (by show 1≤1000;omega)⟩,?_,h6.frontOf (Ju g _ _)⟩
  ·have ok':=ok.more (Gs:=Fs++([⟨.slice A 1 1,1,[.int .i64 r.place]⟩]++[⟨.slice A1 1 cap,1,[SnR.mk false r.parent (Gl r A)].flatMap snV⟩])) fun f hf=>List.mem_append_left _ hf
   exact⟨ok'.above,ok'.group,ok'.waits,ok'.joined,ok'.ty,ok'.boxes,ok'.rows,ok'.sum,ok.few1,ok.few2,ok.few3,ok.few4,ok.few5,ok.few6,ok.dim,ok.need,ok.term⟩
  ·rw[he]
   show Ending.returned (nmS γ1 6)=_
   rw[e1]
   rfl
 ·rw[if_neg h2] at e0
  have:=A47 hS ok (.inr ⟨hp,h1,h2⟩)
  rw[K5 hS] at this
  refine this.mono fun e w' ⟨_,γ1,_,he,hS1⟩=>?_
  exact⟨(r,⟨none,0,[]⟩,[]),γ1,⟨by rw[e0],by rw[e0];rfl,hlv,by rw[List.append_nil];exact ok,Ey _⟩,he,hS1⟩
end
end Go.Proofs.YtedaafmfjhjfmaaGreatDoor
/- Layer 28 walked: Tick, Begin. -/
namespace Go.Proofs.YtedaafmfjhjfmaaGreatDoor
open Go.RowKit
set_option linter.unusedSimpArgs false
set_option linter.unusedVariables false
theorem A48 {s:LfS} {R:List (Int×List UInt32)} {told:Option MgS} (h:LfInv s R told) (hp:s.phase≤2):LfInv ({s with tally:=s.tally.tick}:LfS) R none:=by
 have e:s.tally.tick.inn=s.tally.inn∧s.tally.tick.who=s.tally.who∧s.tally.tick.need=s.tally.need:=by unfold Tal.tick;split<;>exact⟨rfl,rfl,rfl⟩
 obtain⟨e1,e2,e3⟩:=e
 refine⟨h.need,e3.trans h.tneed,e2.trans h.twho,h.wlen,h.wset,by show Br (-1) s.tally.tick.inn=true;rw[e1];exact h.inset,fun x hx=>h.sub x (by have hx:x∈s.tally.tick.inn:=hx;rwa [e1] at hx),h.dim,h.ph,h.early,fun q=>?_,fun _=>rfl,fun q=>?_⟩
 ·show R=s.rows∧R.length=s.tally.tick.inn.length∧(∀x,x∈s.tally.tick.inn↔_)∧_
  rw[e1]
  exact h.rows q
 ·have q:s.phase=3:=q
  omega
theorem LfInv.noneT {s:LfS} {R:List (Int×List UInt32)} {told:Option MgS} (h:LfInv s R told) (hp:s.phase≤2):LfInv s R none:=by
 have:=h.untold (by omega)
 rw[←this]
 exact h
attribute [local irreducible] Ah Ai Am Bc A7 Ay Ap A6
attribute [local irreducible] A8 okV Bj erV Tal.can Tal.st Bz
section
variable {r:LfR} {g:Nat} {w:World} {B:Nat→Prop} {γ:List Nm} {Fs:List Fct}
theorem A49 {w:World} {γ:List Nm} {k:Nat} {r:TalR} {Fs:List Fct} (ok:TalOk Fs r) {γ0:List Nm} (h0:nmB γ0 0=nmB γ k) (hS0:Sat w (fun b=>b=nmB γ k) γ0 [.pin (nmB γ k) 170 (.c (tlA r))] w):
  Calls Tryz.prog 64 #[.pointer (some ⟨nmB γ k,0,none⟩)] w fun e w'=>∃(x:TalR×List Fct) (γ1:List Nm),(x.1.t=r.t.tick∧TalOk (Fs++x.2) x.1)∧e=.returned ((Sv.t []).val [])∧Sat w (fun b=>b=nmB γ k) γ1 [.pin (nmB γ k) 170 (.c (tlA x.1)),.abs (Aa x.2)] w':=by
 have:=A2u r hS0 ok
 have e0:(List.map (Sv.val (γ0++[Nm.m (.bool true) (fun _=>False)])) [Sv.x (.a (.p 0 0))]).toArray=#[.pointer (some ⟨nmB γ k,0,none⟩)]:=by
  show #[Value.pointer (some ⟨nmB _ 0,0,none⟩)]=_
  rw[Dw (by rw[hS0.len];show 0 < 1;omega),h0]
 rw[e0] at this
 exact this
set_option maxRecDepth 100000 in
theorem A5a (hS:Sat w B γ (lfB g r) w) (hw:Known w B Fs) (ok:LfOk Fs r) {R:List (Int×List UInt32)} (hI:LfInv r.s R none) (hB:LfBx r.s) (hlv:r.phase < 2→r.live=true) (h3:1≤r.term∧r.term≤1000) (hp:r.phase≤2):
  Calls Tryz.prog 15 (List.map (Sv.val (γ++[.m (.bool true) (fun _=>False)])) [.x (.a (.p 0 0))]).toArray w fun e w'=>∃(x:LfR×SlV SnR×List Fct) (γ1:List Nm),Bi Fs r.s.tick.1 r.s.tick.2 x∧e=.returned ((Sv.x (.a (.v x.2.1.val))).val γ1)∧Sat w B γ1 (lfB g x.1++[.abs (Aa x.2.2)]) w':=by
 have gl:=Aw ok.sum.s
 have np:¬2 < r.phase:=by omega
 have e0:r.s.tick=({r.s with tally:=r.s.tally.tick}:LfS).on:=by
  unfold LfS.tick
  rw[if_neg (by show ¬2 < r.phase;omega)]
 rw[e0]
 refine Ci (n:=19) (ι:=LfR×SlV SnR×List Fct) (Bi Fs ({r.s with tally:=r.s.tally.tick}:LfS).on.1 ({r.s with tally:=r.s.tally.tick}:LfS).on.2) (fun x=>.x (.a (.v x.2.1.val))) (fun x=>lfB g x.1++[.abs (Aa x.2.2)]) Tryz.func15 rfl Tryz.ntmps15 [.x (.a (.p 0 0))] (hS.fct0 (Ar g r)) (by show 1≤19;omega) ?_
 unfold lfB lfA
 simp (maxSteps:=10^6) only[gl,np,undef,push_cast,↓reduceIte,reduceCtorEq,Nat.reduceEqDiff,Nat.reduceLT,Nat.reduceAdd]
 (repeat (refine And.intro (by first|omega|decide) ?_))
 refine Rn (ι:=TalR×List Fct) 1 5 (fun x=>x.1.t=r.ty.t.tick∧TalOk (Fs++x.2) x.1) (fun _=>.t []) (fun x=>.c (tlA x.1)) (fun x=>x.2) rfl rfl rfl Axf rfl (fun γ' w' hS' γ0 h0 hS0=>A49 ok.ty h0 hS0) (fun _ _=>rfl) (of_eq_true (Ag r.ty 0)) (fun x=>of_eq_true (Ag x.1 0)) (Ae rfl) (by simp (maxSteps:=10^6) only[↓Ag,↓List.forall_mem_cons,↓Ad,↓Af,push_cast,Nat.reduceLT,Nat.reduceAdd]) ?_
 rintro⟨tl,G⟩ ⟨q1,q2⟩
 dsimp only at q1 q2
 obtain⟨r1,hr1⟩:∃r1:LfR,r1={r with ty:=tl}:=⟨_,rfl⟩
 have es:r1.s=({r.s with tally:=r.s.tally.tick}:LfS):=by
  rw[hr1]
  show LfS.mk _ _ _ _ _ _ _ _ _ _ tl.t _ _ _ _ _=_
  rw[q1]
  rfl
 have ok1:LfOk (Fs++G) r1:=by rw[hr1];exact K3 ok q2
 simp (maxSteps:=10^6) only[push_cast,↓reduceIte,reduceCtorEq,Nat.reduceLT,Nat.reduceAdd]
 (repeat (refine And.intro (by first|omega|decide) ?_))
 refine Gx [17] ?_
 simp (maxSteps:=10^6) only[push_cast,↓reduceIte]
 refine Dq (ι:=LfR×SlV SnR×List Fct) (A:=lfB g r1) (M:=[.abs (Aa G)]) (g:=g) (t:=104) (c:=.c (lfA r1)) (l:=G) 0 (Bi (Fs++G) r1.s.on.1 r1.s.on.2) (fun x=>.x (.a (.v x.2.1.val))) (fun x=>lfB g x.1) (fun x=>x.2.2) (by rw[hr1];rfl) rfl rfl (fun x _=>⟨_,rfl⟩) (fun x _=>rfl) rfl Qq rfl (fun γ' w' hS' hg=>?_) (fun _ _=>rfl) (Ae rfl) (Ar g r1) (fun x _=>Ar g x.1) (by simp (maxSteps:=10^6) only[↓Ag,↓List.forall_mem_cons,↓Ad,↓Af,push_cast,Nat.reduceLT,Nat.reduceAdd]) (by
  show ∀x∈_,Sv.av 5 _
  simp (maxSteps:=10^6) only[push_cast,Nat.reduceLeDiff]) (by
  show ∀x∈_,Res.av 5 _
  simp (maxSteps:=10^6) only[push_cast]) ?_
 ·have k1:=Nr (Dr (A:=lfB g r1) hS' hw) (D1 (A:=lfB g r1) hS' (k:=0) rfl)
  have:=Sf (hS'.frontA (Ar g r1)) k1 ok1 (R:=R) (by rw[es];exact A48 hI hp) (by
   rw[es]
   refine⟨fun q=>?_⟩
   have:=hB.box q
   refine⟨this.1,fun f hf=>this.2 f ?_⟩
   have hf:f∈r.s.tally.tick.inn:=hf
   unfold Tal.tick at hf
   split at hf<;>exact hf) (by rw[hr1];exact hlv) (by rw[hr1];exact h3) (by rw[hr1];exact hp)
  show Calls _ _ #[.pointer (some ⟨nmB γ' 0,0,none⟩)] w' _
  rw[hg]
  exact this
 rintro⟨r2,out,G2⟩ ⟨t1,t2,t3,t4,t5⟩
 dsimp only at t1 t2 t3 t4 t5
 rw[es] at t1 t2
 unfold lfB lfA
 simp (maxSteps:=10^6) only[push_cast,↓reduceIte,Nat.reduceLT,Nat.reduceAdd]
 exact Sd (x:=(r2,out,G++G2)) ⟨t1,t2,t3,by rw[←List.append_assoc];exact t4,t5.more fun f hf=>List.mem_append_right _ hf⟩ (Se r2 out.val (G++G2) [])
theorem A5b (a:Addr) {t xp xb xr:Value} (h:LfAt r w a t xp xb xr) (hsm:r.sum.sm.length=32) (hp:2 < r.phase):Calls Tryz.prog 15 #[.pointer (some a)] w fun e w'=>e=.returned (.slice none 0 0)∧Below w.heap.size w w':=by
 obtain⟨c0,c1,c2,c5,c8,c11,c12,c13,c7,c9,ok,_⟩:=h.cells hsm
 have k8:=eq_true (ok 8 (by omega))
 have hs:(some a).isSome=true:=rfl
 have hn:(some a).isNone=false:=rfl
 refine Bm (n:=19) Tryz.func15 rfl Tryz.ntmps15 [.x (.a (.v (.pointer (some a))))] (by simp) (.x (.a (.v (.slice none 0 0)))) (fun _=>rfl) ?_
 simp (maxSteps:=10^6) only[c8,k8,hs,hn,hp,push_cast,↓reduceIte,reduceCtorEq,Nat.reduceEqDiff,Nat.reduceLT]
end
end Go.Proofs.YtedaafmfjhjfmaaGreatDoor
