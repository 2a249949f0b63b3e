import Derived.Test.YtedaafmfjhjfmaaGreatDoorHbF
/- Law 30: HubOnce. -/
namespace Go.Proofs.YtedaafmfjhjfmaaGreatDoor
open _root_.Go.Proofs.Tryz
open Go.RowKit
set_option linter.unusedSimpArgs false
set_option linter.unusedVariables false
structure HX where
 i:Nat
 r:HbR
 F:List Fct
 inn:SlV Int
 sum:SlV UInt32
 many:Nat
 tr:MgR
structure HXInv (n:Nat) (c:CfR) (x:HX):Prop where
 i:x.i≤n
 ok:HbOk x.F x.r
 inn:SlF x.F x.inn (x.inn.l.map (Value.int .i64))
 sum:SlF x.F x.sum (x.sum.l.map Ap)
 inv:HInv x.r.s x.inn.l x.sum.l x.many x.tr.mg
 tok:MOk x.F x.tr
 dim:x.r.sm.dim=c.dim
theorem Af1 (s:Sms):s.from_.length=s.taken.length:=by
 have:=(R3 s).length_eq
 rwa [List.length_map] at this
theorem A1l {w0:World} {ow:Nat→Prop} {hp:List Res} {s1 s2:Sv} {a b:List UInt32} (hm:a.length≤100000) (h1:Bg w0 ow hp s1 (a.map Ap)) (h2:Bg w0 ow hp s2 (b.map Ap)):Ad prog w0 ow 30 [s1,s2] hp (.x (.a (.v (.bool (decide (a=b)))))) hp:=Bc fun γ w hS=>by
 obtain⟨A,c,e1,b1,r1⟩:=h1 γ w hS
 obtain⟨A2,c2,e2,b2,r2⟩:=h2 γ w hS
 rw[List.length_map] at e1 e2
 show Calls _ _ #[s1.val γ,s2.val γ] w _
 rw[e1,e2]
 exact As3 a b A c A2 c2 w hm r1 r2
theorem X3 {r:HbR} {s:HbS} {d:Int} (e:r.s=s) (h:s.sums.dim=d):r.sm.dim=d:=by
 have:r.s.sums.dim=d:=by rw[e];exact h
 exact this
def jF (A:Option Addr) (cap:Nat) (l:List AcR) (c:CfR) (g gs:Nat) (x:HX) (o:SlV SnR):S:=⟨[(2,.x (.a (.v (.slice A l.length cap)))),(7,.x (.a (.p 0 0))),(9,.x (.a (.v x.inn.val))),(10,.x (.a (.v x.sum.val))),(11,.x (.a (.p 7 0))),(12,.x (.a (.v (.int .i64 (x.i:Nat))))),(14,.x (.a (.v o.val))),(18,.x (.a (.v (.int .i64 0))))],[.pin g 149 (.c [.v (.int .i64 x.r.place),.v (.int .i64 x.r.gen),.v (.int .i64 x.r.parent),.v x.r.above.val,.v x.r.under.val,.o 2,.p 1 0,.p 3 0,.v (.int .i64 x.r.phase)]),.blk 170 (.c (tlA x.r.ty)),.mp .i64 (slE x.r.next),.pin gs 120 (.c [.v (.int .i64 x.r.sm.place),.v (.int .i64 x.r.sm.dim),.v x.r.sm.spots.val,.o 4,.o 5]),.mp .i64 (iE x.r.sm.heard),.mp .i64 (mgE x.r.sm.taken),.blk 25 (.c [.v (.int .i64 c.dim),.v (.slice c.ps.A c.ps.l.length c.ps.c),.v (.slice c.gs.A c.gs.l.length c.gs.c),.v (.int .i64 c.least),.v (.int .i64 c.term)]),.blk 48 (.c (mgA x.tr)),.abs (fctRep x.F)]⟩
attribute [local irreducible] Ac Ad Ah Au Ao Aj Ai Al
attribute [local irreducible] A9 okV Ak By erV Bq cfF tcF isP ofP abF Bk idxN Cg B2 Gy Jc J5 Sms.from_ HbS.hear HbS.tick HbS.goneE
set_option maxRecDepth 100000 in
set_option maxHeartbeats 8000000 in
theorem A1m (c:CfR) (p gen:Int) (A:Option Addr) (cap:Nat) (l:List AcR) (w:World) (hgd:Handle w) (hc:c.Wide w) (hcap:l.length≤cap) (hR:RdV w w.heap.size A (l.flatMap acV)) (hl:∀a∈l,a.m.Wide w):
  Calls prog 6 #[.agg (cfV c).toArray,.agg #[.int .i64 p,.int .i64 gen],.slice A l.length cap] w fun e w'=>e=.returned (.bool true)∧Below w.heap.size w w':=by
 refine Bf (n:=181) func6 rfl ntmps6 [.x (.g [.v (.int .i64 c.dim),.v (.slice c.ps.A c.ps.l.length c.ps.c),.v (.slice c.gs.A c.gs.l.length c.gs.c),.v (.int .i64 c.least),.v (.int .i64 c.term)]),.x (.g [.v (.int .i64 p),.v (.int .i64 gen)]),.x (.a (.v (.slice A l.length cap)))] (by simp) (.x (.a (.v (.bool true)))) (fun _=>rfl) ?_
 simp (maxSteps:=10^6) only[push_cast,↓reduceIte,reduceCtorEq,Nat.reduceEqDiff,Nat.reduceLT,Nat.reduceAdd]
 (repeat (refine And.intro (by first|omega|decide) ?_))
 refine Am rfl Aoa rfl (A0f c hc) (Aa rfl) ?_
 by_cases hb:Jc c.cf=true
 ·rw[hb]
  simp (maxSteps:=10^6) only[push_cast,↓reduceIte]
  (repeat (refine And.intro (by first|omega|decide) ?_))
  refine Am rfl Rf rfl (Tt hgd) (Aa rfl) ?_
  simp (maxSteps:=10^6) only[push_cast,↓reduceIte,Nat.reduceLT,Nat.reduceAdd]
  done
 have hb:Jc c.cf=false:=by simpa using hb
 rw[hb]
 simp (maxSteps:=10^6) only[push_cast,↓reduceIte]
 refine B3 [(0,true),(2,true),(3,true),(4,true),(5,true),(1,false),(6,false),(7,true),(8,true),(9,true),(10,true),(11,true)] (by kernel_rfl) (by kernel_rfl) rfl (by kernel_rfl) ?_
 simp (maxSteps:=10^6) only[undef,push_cast,↓Int.cast_ofNat_Int,Int.cast_ofNat_Int,↓reduceIte,Nat.reduceEqDiff,Nat.reduceLT,Nat.reduceAdd,Int.reduceLE,Int.reduceLT,Int.reduceToNat]
 (repeat (refine And.intro (by first|omega|decide) ?_))
 obtain⟨bp,bg,bi⟩:=A0b hb
 refine Uz rfl Aob rfl (A0d c hc (by simp (maxSteps:=10^6) only[push_cast,Nat.reduceAdd])) (Aa rfl) (fun _=>by simp (maxSteps:=10^6) only[push_cast,Nat.reduceLT,Nat.reduceAdd]) (List.take_left' rfl) ?_
 simp (maxSteps:=10^6) only[push_cast,↓reduceIte,Nat.reduceAdd]
 (repeat (refine And.intro (by first|omega|decide) ?_))
 have hcf:∀{hp:List Res},hp[2]?=some (.onn 98 3 (.c (vC (c.ps.l.flatMap plV))))→hp[3]?=some (.abs (Fq (c.gs.l.map GrR.gr)))→Hc w hp (.x (.g [.v (.int .i64 c.dim),.o 2,.o 3,.v (.int .i64 c.least),.v (.int .i64 c.term)])) c.cf:=fun h1 h2=>A0a h1 h2 (by have:c.ps.l.length≤30:=bp;omega) (by have:(c.gs.l.map GrR.gr).length≤30:=bg;omega) (fun g hg=>by have:=bi g hg;omega)
 have ev:=En (n:=1) (by decide)
 by_cases hn:Gy c.cf p gen=true
 case neg=>
  have hn:Gy c.cf p gen=false:=by simpa using hn
  refine Kr rfl Rg rfl (Afo p gen (hcf rfl rfl) hn) (Aa rfl) ?_
  simp (maxSteps:=10^6) only[ev,undef,push_cast,↓reduceIte,Nat.reduceEqDiff,Nat.reduceLT,Nat.reduceAdd]
  (repeat (refine And.intro (by first|omega|decide) ?_))
  refine Am rfl Rf rfl (Tt hgd) (Aa rfl) ?_
  simp (maxSteps:=10^6) only[push_cast,↓reduceIte,Nat.reduceLT,Nat.reduceAdd]
  done
 have nX:=Afn (w0:=w) (hp:=[.blk 25 (.c [.v (.int .i64 c.dim),.v (.slice c.ps.A c.ps.l.length c.ps.c),.v (.slice c.gs.A c.gs.l.length c.gs.c),.v (.int .i64 c.least),.v (.int .i64 c.term)]),.blk 26 (.c [.v (.int .i64 p),.v (.int .i64 gen)]),.onn 98 3 (.c (vC (c.ps.l.flatMap plV))),.abs (Fq (c.gs.l.map GrR.gr))]) p gen (hcf rfl rfl) hn (fun g hg=>by have:=bi g hg;omega) (by simp (maxSteps:=10^6) only[C6,push_cast,Nat.reduceAdd])
 refine Ax3 (ι:=(Nat×Nat)×HbR×List Fct) (Pn c.cf p gen) (fun _=>.t [.a (.p 4 0),.a (.v .nilIface)]) (fun x=>(hbB x.1.1 x.1.2 x.2.1++[Res.abs (fctRep x.2.2)]).map (Res.ren (B6 4 7))) rfl Rg rfl ?_ (Aa rfl) (by simp (maxSteps:=10^6) only[C6,push_cast,Nat.reduceLT,Nat.reduceAdd]) ?_
 ·exact nX
 rintro⟨⟨g,gs⟩,r,F2⟩ ⟨s1,ok⟩
 dsimp only at s1 ok
 have hcfT:cfF c.cf=true:=by
  unfold Gy at hn
  simp only[Bool.and_eq_true] at hn
  exact hn.1.1.1
 have hdim:1≤c.dim∧c.dim≤32:=by
  have:=hcfT
  unfold cfF at this
  simp only[Bool.and_eq_true] at this
  exact Iz.1 this.1.1.1.1
 have cd0:¬c.dim < 0:=by omega
 have cd1:¬32 < c.dim:=by omega
 have zl:=fun n=>Eo r.ty n
 simp only[At.bnd] at zl
 have dz:(mgA zeroR).drop 43=[]:=rfl
 have zb:=fun n=>Bm zeroR n
 simp only[At.bnd] at zb
 unfold hbB hbA
 simp (maxSteps:=10^6) only[B6,rn,cd0,cd1,C6,Bo,Br,B9,undef,↓Ae,↓Aw,↓List.forall_mem_cons,push_cast,↓Int.cast_ofNat_Int,Int.cast_ofNat_Int,↓reduceIte,reduceCtorEq,Nat.reduceEqDiff,Nat.reduceLT,Nat.reduceAdd]
 refine⟨⟨by omega,by omega,by omega,by omega⟩,?_⟩
 refine Abg 11 10 (vs:=(List.replicate c.dim.toNat (0:UInt32)).map Ap) rfl (fun _=>rfl) rfl (by decide) fun A0 cap0 _ _=>?_
 rw[List.length_map,List.length_replicate]
 simp (maxSteps:=10^6) only[Dn,Ex,Res.sub,Cont.sub,Sv.sub,Sc.sub,At.sub,Ie,If,I5,J0,Si,Ld,J0,push_cast,↓reduceIte,Nat.reduceEqDiff]
 have hx0:HXInv l.length c ⟨0,r,F2++[⟨.slice A0 c.dim.toNat cap0,c.dim.toNat,(List.replicate c.dim.toNat (0:UInt32)).map Ap⟩],⟨none,0,[]⟩,⟨A0,cap0,List.replicate c.dim.toNat 0⟩,0,zeroR⟩:=⟨Nat.zero_le _,ok.more fun f hf=>List.mem_append_left _ hf,.inl rfl,.inr (List.mem_append_right _ (by
   show (⟨.slice A0 (List.replicate c.dim.toNat (0:UInt32)).length cap0,(List.replicate c.dim.toNat (0:UInt32)).length,_⟩:Fct)∈_
   rw[List.length_replicate]
   exact List.mem_singleton.2 rfl)),by
   show HInv r.s [] (List.replicate c.dim.toNat 0) 0 Fk
   rw[s1]
   exact A06 c.cf p gen,⟨rfl,.inl rfl,.inl rfl,.inl rfl,.inl rfl,⟨rfl,Nat.zero_le _,Nat.zero_le _,Nat.zero_le _,Nat.zero_le _⟩⟩,by
   have:r.s.sums.dim=c.cf.dim:=by rw[s1];rfl
   exact this⟩
 have e10:(⟨A0,cap0,List.replicate c.dim.toNat 0⟩:SlV UInt32).val=.slice A0 c.dim.toNat cap0:=by
  show Value.slice A0 (List.replicate c.dim.toNat (0:UInt32)).length cap0=_
  rw[List.length_replicate]
 have F:=FLw.of (ow:=No) (fun x hx=>X1 (hl x hx).s) (by decide) ⟨hR,fun _ _ _ h=>h⟩
 refine Bj (ι:=HX) (fun x=>⟨[(2,.x (.a (.v (.slice A l.length cap)))),(7,.x (.a (.p 0 0))),(9,.x (.a (.v x.inn.val))),(10,.x (.a (.v x.sum.val))),(11,.x (.a (.p 7 0))),(12,.x (.a (.v (.int .i64 (x.i:Nat)))))],[.pin g 149 (.c [.v (.int .i64 x.r.place),.v (.int .i64 x.r.gen),.v (.int .i64 x.r.parent),.v x.r.above.val,.v x.r.under.val,.o 2,.p 1 0,.p 3 0,.v (.int .i64 x.r.phase)]),.blk 170 (.c (tlA x.r.ty)),.mp .i64 (slE x.r.next),.pin gs 120 (.c [.v (.int .i64 x.r.sm.place),.v (.int .i64 x.r.sm.dim),.v x.r.sm.spots.val,.o 4,.o 5]),.mp .i64 (iE x.r.sm.heard),.mp .i64 (mgE x.r.sm.taken),.blk 25 (.c [.v (.int .i64 c.dim),.v (.slice c.ps.A c.ps.l.length c.ps.c),.v (.slice c.gs.A c.gs.l.length c.gs.c),.v (.int .i64 c.least),.v (.int .i64 c.term)]),.blk 48 (.c (mgA x.tr)),.abs (fctRep x.F)]⟩) (HXInv l.length c) (fun x=>l.length - x.i) ⟨0,r,F2++[⟨.slice A0 c.dim.toNat cap0,c.dim.toNat,(List.replicate c.dim.toNat (0:UInt32)).map Ap⟩],⟨none,0,[]⟩,⟨A0,cap0,List.replicate c.dim.toNat 0⟩,0,zeroR⟩ [4,5,6,7,8,9,0,12,10] hx0 ?_ ?_
 ·have e9:(⟨none,0,[]⟩:SlV Int).val=.slice none 0 0:=rfl
  simp (maxSteps:=10^6) only[e10,e9,rn,↓Ae,↓Aw,↓List.forall_mem_cons,↓Ag,↓Ay,push_cast,↓Int.cast_ofNat_Int,Int.cast_ofNat_Int,↓reduceIte,reduceCtorEq,Nat.reduceEqDiff,Nat.reduceLT,Nat.reduceAdd]
 clear hx0 e10 s1 ok zl nX
 rintro⟨i,r,Fs,inn,sum,many,tr⟩ hx
 have hxi:i≤l.length:=hx.i
 have ok:=hx.ok
 have hI:=hx.inv
 have hin:=hx.inn
 have hsm:=hx.sum
 have tok:=hx.tok
 have hdm:=hx.dim
 dsimp only at ok hI hin hsm tok hdm ⊢
 have vi:inn.val=.slice inn.A inn.l.length inn.c:=rfl
 have vs:sum.val=.slice sum.A sum.l.length sum.c:=rfl
 have innl:inn.l.length≤64:=Wu hI.pa.asc
 have gt:=Bd tok.s
 have zt:=fun n=>Bm tr n
 simp only[At.bnd] at zt
 have zl:=fun n=>Eo r.ty n
 simp only[At.bnd] at zl
 by_cases hlt:(i:Int) < l.length
 case neg=>
  simp (maxSteps:=10^6) only[hlt,undef,push_cast,↓reduceIte,Nat.reduceEqDiff,Nat.reduceLT,Nat.reduceAdd]
  (repeat (refine And.intro (by first|omega|decide) ?_))
  refine Am rfl Rf rfl (Tt hgd) (Aa rfl) ?_
  simp (maxSteps:=10^6) only[push_cast,↓reduceIte,Nat.reduceLT,Nat.reduceAdd]
  done
 by_cases h60:(i:Int) < 60
 case neg=>
  simp (maxSteps:=10^6) only[hlt,h60,push_cast,↓reduceIte,Nat.reduceEqDiff,Nat.reduceLT,Nat.reduceAdd]
  (repeat (refine And.intro (by first|omega|decide) ?_))
  refine Am rfl Rf rfl (Tt hgd) (Aa rfl) ?_
  simp (maxSteps:=10^6) only[push_cast,↓reduceIte,Nat.reduceLT,Nat.reduceAdd]
  done
 have hil:i < l.length:=by omega
 have i0:(0:Int)≤i:=by omega
 have nx:(i:Int)+1≤9223372036854775807:=by omega
 have nx0:-9223372036854775808≤(i:Int)+1:=by omega
 have hA:=F.some_ (by omega)
 have hm0:=hl _ (Ez hil)
 obtain⟨w1,w2⟩:=F.act hil hm0.s
 obtain⟨a0,em0⟩:∃a0,a0=ix l i:=⟨_,rfl⟩
 rw[←em0] at hm0 w1
 clear em0
 have ga:=A1b hm0.s
 have gtk:=A1c hm0.s
 have gdr:=A1d hm0.s
 obtain⟨a0k,a0i,a0x,a0g⟩:=A1e hm0.s
 have zA:=fun n=>Af0 a0 n
 simp only[At.bnd] at zA
 have zA0:=fun n=>Af0 Jd n
 simp only[At.bnd] at zA0
 have zav:=fun n=>A1i a0 n
 simp only[At.av,avK] at zav
 have dz2:(acA Jd).drop 44=[]:=rfl
 simp (maxSteps:=10^6) only[zA,ga,gtk,hlt,h60,i0,hA,w1,w2,Bo,F0,Hk,Br,A1f,A1j,A1k,Bp,undef,↓Ae,↓List.forall_mem_cons,↓Ag,push_cast,↓Int.toNat_natCast,↓reduceIte,reduceCtorEq,Nat.reduceEqDiff,Nat.reduceLT,Nat.reduceLeDiff,Nat.reduceAdd]
 (repeat (refine And.intro (by first|omega|decide) ?_))
 refine⟨of_eq_true (A1g a0 _),?_⟩
 refine Am rfl Aoc rfl (A0j hm0) (Aa rfl) ?_
 cases hbn:J5 a0.m.mg with
 |true=>
  simp (maxSteps:=10^6) only[nx,nx0,push_cast,↓reduceIte,Nat.reduceEqDiff,Nat.reduceLT,Nat.reduceAdd,Int.reduceNeg]
  refine Ba (HX.mk (i+1) r Fs inn sum many tr) [0,1,2,3,4,5,6,7,8] (show HXInv l.length c _ from ⟨by show i+1≤l.length;omega,ok,hin,hsm,hI,tok,hdm⟩) (by show l.length - (i+1) < l.length - i;omega) ?_
  simp (maxSteps:=10^6) only[↓Ae,↓Aw,↓List.forall_mem_cons,↓Ag,↓Ay,push_cast,↓reduceIte,reduceCtorEq,Nat.reduceEqDiff,Nat.reduceLT,Nat.reduceAdd]
  done
 |false=>
 have mok:=hm0.ok hbn
 apply Ath (fun y:HX×SlV SnR=>HXInv l.length c y.1∧OutOk y.1.F y.2∧M5 y.1.r.s (y.2.l.map SnR.s)∧y.1.i=i∧y.1.tr=tr) (fun y=>jF A cap l c g gs y.1 y.2)
 ·intro next
  by_cases hk0:a0.m.k=0
  ·by_cases hg0:0 < a0.gone
   ·simp (maxSteps:=10^6) only[ga,a0k,a0g,hk0,hg0,undef,push_cast,↓reduceIte,reduceCtorEq,Nat.reduceEqDiff,Nat.reduceLT,Nat.reduceAdd]
    (repeat (refine And.intro (by first|omega|decide) ?_))
    refine Gp [78,80,2,7,9,10,11,12] ?_
    simp (maxSteps:=10^6) only[push_cast,↓reduceIte,Nat.reduceEqDiff]
    refine C9 (ι:=HbR×SlV SnR×List Fct) (A:=hbB g gs r) (M:=[.blk 25 (.c [.v (.int .i64 c.dim),.v (.slice c.ps.A c.ps.l.length c.ps.c),.v (.slice c.gs.A c.gs.l.length c.gs.c),.v (.int .i64 c.least),.v (.int .i64 c.term)]),.blk 48 (.c (mgA tr)),.abs (fctRep Fs),.blk 83 (.c (acA a0))]) (g:=g) (t:=149) (c:=.c (hbA r)) (l:=Fs) 2 (Ll Fs (r.s.goneE a0.gone).1 (r.s.goneE a0.gone).2.1) (fun x=>.t [.a (.v x.2.1.val),.a (.v (erV (r.s.goneE a0.gone).2.2))]) (fun x=>hbB g gs x.1) (fun x=>x.2.2) rfl rfl rfl (fun x _=>⟨_,rfl⟩) (fun x _=>rfl) rfl Aas rfl (Afs a0.gone ok fun γ w hS=>D2 hS (k:=2) rfl) (fun x γ=>by first|rfl) (Aa rfl) (Ar g gs _) (fun x _=>Ar g gs _) (by simp (maxSteps:=10^6) only[zA,↓Ae,↓List.forall_mem_cons,↓Ag,push_cast,Nat.reduceLT,Nat.reduceAdd]) (by
     show ∀x∈_,Sv.av 6 _
     simp (maxSteps:=10^6) only[↓List.forall_mem_cons,push_cast,reduceCtorEq,Nat.reduceLeDiff]) (by
     show ∀x∈_,Res.av 6 _
     simp (maxSteps:=10^6) only[zav,↓List.forall_mem_cons,↓Ck,push_cast]) ?_
    rintro⟨r1,out,H1⟩ ⟨t1,t2,t3,t4⟩
    dsimp only at t1 t2 t3 t4
    obtain⟨st,se⟩:=Afy r.s a0.gone
    have vo:out.val=.slice out.A out.l.length out.c:=rfl
    have zl1:=fun n=>Eo r1.ty n
    simp only[At.bnd] at zl1
    have inc:∀f∈Fs,f∈Fs++H1:=fun f hf=>List.mem_append_left _ hf
    unfold hbB hbA
    simp (maxSteps:=10^6) only[push_cast,↓reduceIte,Nat.reduceEqDiff,Nat.reduceLT,Nat.reduceAdd]
    (repeat (refine And.intro (by first|omega|decide) ?_))
    refine Sn (s':=jF A cap l c g gs ⟨i,r1,Fs++H1,inn,sum,many,tr⟩ out) (Cn [0,1,2,3,4,5,6,7,8] ?_) (next (⟨i,r1,Fs++H1,inn,sum,many,tr⟩,out) ⟨⟨hxi,t3,hin.more inc,hsm.more inc,by rw[t1];exact hI.step st se,tok.more inc,X3 t1 ((A09 r.s a0.gone).trans hdm)⟩,t4.more fun f hf=>List.mem_append_right _ hf,by rw[t1,t2];exact st.said,rfl,rfl⟩)
    unfold jF
    simp (maxSteps:=10^6) only[vo,vi,vs,rn,↓Ae,↓Aw,↓List.forall_mem_cons,↓Ag,↓Ay,push_cast,↓reduceIte,reduceCtorEq,Nat.reduceEqDiff,Nat.reduceLT,Nat.reduceAdd]
   ·simp (maxSteps:=10^6) only[ga,a0k,a0g,hk0,hg0,undef,push_cast,↓reduceIte,reduceCtorEq,Nat.reduceEqDiff,Nat.reduceLT,Nat.reduceAdd]
    (repeat (refine And.intro (by first|omega|decide) ?_))
    refine Gp [88,2,7,9,10,11,12] ?_
    simp (maxSteps:=10^6) only[push_cast,↓reduceIte,Nat.reduceEqDiff]
    refine C9 (ι:=HbR×SlV SnR×List Fct) (A:=hbB g gs r) (M:=[.blk 25 (.c [.v (.int .i64 c.dim),.v (.slice c.ps.A c.ps.l.length c.ps.c),.v (.slice c.gs.A c.gs.l.length c.gs.c),.v (.int .i64 c.least),.v (.int .i64 c.term)]),.blk 48 (.c (mgA tr)),.abs (fctRep Fs),.blk 83 (.c (acA a0))]) (g:=g) (t:=149) (c:=.c (hbA r)) (l:=Fs) 2 (HTellQ Fs r.s.tick.1 r.s.tick.2) (fun x=>.x (.a (.v x.2.1.val))) (fun x=>hbB g gs x.1) (fun x=>x.2.2) rfl rfl rfl (fun x _=>⟨_,rfl⟩) (fun x _=>rfl) rfl Aod rfl (A0x ok fun γ w hS=>D2 hS (k:=2) rfl) (fun x γ=>by first|rfl) (Aa rfl) (Ar g gs _) (fun x _=>Ar g gs _) (by simp (maxSteps:=10^6) only[zA,↓Ae,↓List.forall_mem_cons,↓Ag,push_cast,Nat.reduceLT,Nat.reduceAdd]) (by
     show ∀x∈_,Sv.av 6 _
     simp (maxSteps:=10^6) only[↓List.forall_mem_cons,push_cast,reduceCtorEq,Nat.reduceLeDiff]) (by
     show ∀x∈_,Res.av 6 _
     simp (maxSteps:=10^6) only[zav,↓List.forall_mem_cons,↓Ck,push_cast]) ?_
    rintro⟨r1,out,H1⟩ ⟨t1,t2,t3,t4,t5⟩
    dsimp only at t1 t2 t3 t4
    obtain⟨st,se⟩:=Afw r.s
    have vo:out.val=.slice out.A out.l.length out.c:=rfl
    have zl1:=fun n=>Eo r1.ty n
    simp only[At.bnd] at zl1
    have inc:∀f∈Fs,f∈Fs++H1:=fun f hf=>List.mem_append_left _ hf
    unfold hbB hbA
    simp (maxSteps:=10^6) only[push_cast,↓reduceIte,Nat.reduceLT,Nat.reduceAdd]
    (repeat (refine And.intro (by first|omega|decide) ?_))
    refine Sn (s':=jF A cap l c g gs ⟨i,r1,Fs++H1,inn,sum,many,tr⟩ out) (Cn [0,1,2,3,4,5,6,7,8] ?_) (next (⟨i,r1,Fs++H1,inn,sum,many,tr⟩,out) ⟨⟨hxi,t3,hin.more inc,hsm.more inc,by rw[t1];exact hI.step st se,tok.more inc,X3 t1 ((A08 r.s).trans hdm)⟩,t4.more fun f hf=>List.mem_append_right _ hf,by rw[t1,t2];exact st.said,rfl,rfl⟩)
    unfold jF
    simp (maxSteps:=10^6) only[vo,vi,vs,rn,↓Ae,↓Aw,↓List.forall_mem_cons,↓Ag,↓Ay,push_cast,↓reduceIte,reduceCtorEq,Nat.reduceEqDiff,Nat.reduceLT,Nat.reduceAdd]
  ·simp (maxSteps:=10^6) only[ga,a0k,hk0,undef,push_cast,↓reduceIte,reduceCtorEq,Nat.reduceEqDiff,Nat.reduceLT,Nat.reduceAdd]
   (repeat (refine And.intro (by first|omega|decide) ?_))
   refine Gp [90,2,7,9,10,11,12,13] ?_
   simp (maxSteps:=10^6) only[push_cast,↓reduceIte,Nat.reduceEqDiff]
   refine C9 (ι:=SlV Int×List Fct) (A:=hbB g gs r) (M:=[.blk 25 (.c [.v (.int .i64 c.dim),.v (.slice c.ps.A c.ps.l.length c.ps.c),.v (.slice c.gs.A c.gs.l.length c.gs.c),.v (.int .i64 c.least),.v (.int .i64 c.term)]),.blk 48 (.c (mgA tr)),.abs (fctRep Fs),.blk 83 (.c (acA a0))]) (g:=g) (t:=149) (c:=.c (hbA r)) (l:=Fs) 2 (fun x=>x.1.l=r.s.sums.from_∧SlF x.2 x.1 (Da x.1.l)) (fun x=>.x (.a (.v x.1.val))) (fun _=>hbB g gs r) (fun x=>x.2) rfl rfl rfl (fun x _=>⟨_,rfl⟩) (fun x _=>rfl) rfl Va rfl (Xv ok fun γ w hS=>D2 hS (k:=2) rfl) (fun x γ=>by first|rfl) (Aa rfl) (Ar g gs _) (fun x _=>Ar g gs _) (by simp (maxSteps:=10^6) only[zA,↓Ae,↓List.forall_mem_cons,↓Ag,push_cast,Nat.reduceLT,Nat.reduceAdd]) (by
    show ∀x∈_,Sv.av 6 _
    simp (maxSteps:=10^6) only[↓List.forall_mem_cons,push_cast,reduceCtorEq,Nat.reduceLeDiff]) (by
    show ∀x∈_,Res.av 6 _
    simp (maxSteps:=10^6) only[zav,↓List.forall_mem_cons,↓Ck,push_cast]) ?_
   rintro⟨fr,J⟩ ⟨j1,_⟩
   dsimp only at j1
   have vf:fr.val=.slice fr.A fr.l.length fr.c:=rfl
   obtain⟨Fs1,eF1⟩:∃G',G'=Fs++J:=⟨_,rfl⟩
   rw[←eF1]
   have in1:∀f∈Fs,f∈Fs1:=fun f hf=>by rw[eF1];exact List.mem_append_left _ hf
   clear eF1
   unfold hbB hbA
   simp (maxSteps:=10^6) only[vf,ga,gtk,push_cast,↓reduceIte,reduceCtorEq,Nat.reduceEqDiff,Nat.reduceLT,Nat.reduceLeDiff,Nat.reduceAdd]
   (repeat (refine And.intro (by first|omega|decide) ?_))
   refine Jz (ι:=MgR×List Fct) (fun x=>x.1.mg=a0.m.mg∧MOk x.2 x.1) (fun x=>.x (.g (mgA x.1))) (fun x=>x.2) 8 rfl rfl Aoe rfl (fun γ' w' hS'=>?_) (fun x γ=>by rw[Bi,Bi]) (Aa rfl) (by simp (maxSteps:=10^6) only[zA,↓Ae,↓List.forall_mem_cons,↓Ag,↓A8,push_cast,Nat.reduceLT,Nat.reduceAdd]) ?_
   ·show Calls _ _ #[(Sv.x (.g (mgA a0.m))).val γ'] w' _
    rw[Bi]
    exact (A0m w' (mok.later hS')).mono fun e w'' ⟨x,γ1,h1,h2,h3⟩=>⟨x,γ1,h1,by rw[h2,Bi],h3⟩
   rintro⟨m,G⟩ ⟨em,km⟩
   dsimp only at em km
   have gm:=Bd km.s
   obtain⟨Fs2,eF2⟩:∃G',G'=Fs1++G:=⟨_,rfl⟩
   rw[←eF2]
   have in2:∀f∈Fs,f∈Fs2:=fun f hf=>by rw[eF2];exact List.mem_append_left _ (in1 f hf)
   have km:MOk Fs2 m:=km.more fun f hf=>by rw[eF2];exact List.mem_append_right _ hf
   clear eF2
   simp (maxSteps:=10^6) only[push_cast,↓reduceIte]
   (repeat (refine And.intro (by first|omega|decide) ?_))
   refine C9 (ι:=HbR×SlV SnR×List Fct) (A:=hbB g gs r) (M:=[.blk 25 (.c [.v (.int .i64 c.dim),.v (.slice c.ps.A c.ps.l.length c.ps.c),.v (.slice c.gs.A c.gs.l.length c.gs.c),.v (.int .i64 c.least),.v (.int .i64 c.term)]),.blk 48 (.c (mgA tr)),.abs (fctRep Fs2),.blk 83 (.c (acA a0))]) (g:=g) (t:=149) (c:=.c (hbA r)) (l:=Fs2) 2 (HTellQ Fs2 (r.s.hear m.mg).1 (r.s.hear m.mg).2.1) (fun x=>.t [.a (.v x.2.1.val),.a (.v (erV (r.s.hear m.mg).2.2))]) (fun x=>hbB g gs x.1) (fun x=>x.2.2) rfl rfl rfl (fun x _=>⟨_,rfl⟩) (fun x _=>rfl) rfl Vb rfl (Xu m km (ok.more in2) fun γ w hS=>D2 hS (k:=2) rfl) (fun x γ=>by first|rfl) (Aa rfl) (Ar g gs _) (fun x _=>Ar g gs _) (by simp (maxSteps:=10^6) only[zA,↓Ae,↓List.forall_mem_cons,↓Ag,↓A8,push_cast,Nat.reduceLT,Nat.reduceAdd]) (by
    show ∀x∈_,Sv.av 6 _
    simp (maxSteps:=10^6) only[↓List.forall_mem_cons,↓Ck,push_cast,reduceCtorEq,Nat.reduceLeDiff]) (by
    show ∀x∈_,Res.av 6 _
    simp (maxSteps:=10^6) only[zav,↓List.forall_mem_cons,↓Ck,push_cast]) ?_
   rintro⟨r1,out,H1⟩ ⟨t1,t2,t3,t4,t5⟩
   dsimp only at t1 t2 t3 t4 t5
   rw[em] at t1 t2
   obtain⟨st,se⟩:=X0 r.s a0.m.mg
   have hh:=A05 hI a0.m.mg
   rw[←t1] at st hh
   have dm1:r1.sm.dim=c.dim:=X3 t1 ((A1a r.s a0.m.mg).trans hdm)
   have sd1:M5 r1.s (out.l.map SnR.s):=by rw[t2];exact st.said
   obtain⟨Fs3,eF3⟩:∃G',G'=Fs2++H1:=⟨_,rfl⟩
   rw[←eF3] at t3 ⊢
   have in3:∀f∈Fs,f∈Fs3:=fun f hf=>by rw[eF3];exact List.mem_append_left _ (in2 f hf)
   have t4:OutOk Fs3 out:=t4.more fun f hf=>by rw[eF3];exact List.mem_append_right _ hf
   clear eF3
   have vo:out.val=.slice out.A out.l.length out.c:=rfl
   have zl1:=fun n=>Eo r1.ty n
   simp only[At.bnd] at zl1
   unfold hbB hbA
   simp (maxSteps:=10^6) only[push_cast,↓reduceIte,Nat.reduceEqDiff,Nat.reduceLT,Nat.reduceAdd]
   (repeat (refine And.intro (by first|omega|decide) ?_))
   refine Gp [101,2,7,9,10,11,12,13,14,15] ?_
   simp (maxSteps:=10^6) only[push_cast,↓reduceIte,Nat.reduceEqDiff]
   refine C9 (ι:=SlV Int×List Fct) (A:=hbB g gs r1) (M:=[.blk 25 (.c [.v (.int .i64 c.dim),.v (.slice c.ps.A c.ps.l.length c.ps.c),.v (.slice c.gs.A c.gs.l.length c.gs.c),.v (.int .i64 c.least),.v (.int .i64 c.term)]),.blk 48 (.c (mgA tr)),.abs (fctRep Fs3),.blk 83 (.c (acA a0))]) (g:=g) (t:=149) (c:=.c (hbA r1)) (l:=Fs3) 2 (fun x=>x.1.l=r1.s.sums.from_∧SlF x.2 x.1 (Da x.1.l)) (fun x=>.x (.a (.v x.1.val))) (fun _=>hbB g gs r1) (fun x=>x.2) rfl rfl rfl (fun x _=>⟨_,rfl⟩) (fun x _=>rfl) rfl Va rfl (Xv t3 fun γ w hS=>D2 hS (k:=2) rfl) (fun x γ=>by first|rfl) (Aa rfl) (Ar g gs _) (fun x _=>Ar g gs _) (by simp (maxSteps:=10^6) only[zA,↓Ae,↓List.forall_mem_cons,↓Ag,push_cast,Nat.reduceLT,Nat.reduceAdd]) (by
    show ∀x∈_,Sv.av 6 _
    simp (maxSteps:=10^6) only[↓List.forall_mem_cons,push_cast,reduceCtorEq,Nat.reduceLeDiff]) (by
    show ∀x∈_,Res.av 6 _
    simp (maxSteps:=10^6) only[zav,↓List.forall_mem_cons,↓Ck,push_cast]) ?_
   rintro⟨fr2,J2⟩ ⟨j2,_⟩
   dsimp only at j2
   have vf2:fr2.val=.slice fr2.A fr2.l.length fr2.c:=rfl
   obtain⟨Fs4,eF4⟩:∃G',G'=Fs3++J2:=⟨_,rfl⟩
   rw[←eF4]
   have in4:∀f∈Fs3,f∈Fs4:=fun f hf=>by rw[eF4];exact List.mem_append_left _ hf
   have in5:∀f∈Fs,f∈Fs4:=fun f hf=>in4 f (in3 f hf)
   clear eF4
   have l1:fr.l.length=r.s.sums.taken.length:=by rw[j1,Af1]
   have l2:fr2.l.length=r1.s.sums.taken.length:=by rw[j2,Af1]
   unfold hbB hbA
   rcases hh with ⟨e,hI1⟩|⟨e,hk6,pa1,pa2,pa3,hI1⟩
   ·have hng:¬(fr.l.length:Int) < fr2.l.length:=by omega
    simp (maxSteps:=10^6) only[vf2,hng,push_cast,↓reduceIte,Nat.reduceEqDiff,Nat.reduceLT,Nat.reduceAdd]
    (repeat (refine And.intro (by first|omega|decide) ?_))
    refine Sn (s':=jF A cap l c g gs ⟨i,r1,Fs4,inn,sum,many,tr⟩ out) (Cn [0,1,2,3,4,5,6,7,8] ?_) (next (⟨i,r1,Fs4,inn,sum,many,tr⟩,out) ⟨⟨hxi,t3.more in4,hin.more in5,hsm.more in5,hI1,tok.more in5,dm1⟩,t4.more in4,sd1,rfl,rfl⟩)
    unfold jF
    simp (maxSteps:=10^6) only[vo,vi,vs,rn,↓Ae,↓Aw,↓List.forall_mem_cons,↓Ag,↓Ay,push_cast,↓reduceIte,reduceCtorEq,Nat.reduceEqDiff,Nat.reduceLT,Nat.reduceAdd]
   ·have hgt:(fr.l.length:Int) < fr2.l.length:=by omega
    simp (maxSteps:=10^6) only[vf2,hgt,ga,a0x,undef,push_cast,↓reduceIte,reduceCtorEq,Nat.reduceEqDiff,Nat.reduceLT,Nat.reduceAdd]
    (repeat (refine And.intro (by first|omega|decide) ?_))
    have idb:a0.m.ids.l.length≤100:=(Aev hbn).1
    have hk6:a0.m.k=6:=hk6
    have pa1:By inn.l a0.m.ids.l=[]:=pa1
    have pa3:sum.l.length=a0.m.xs.l.length:=pa3
    have sd:sum.l.length≤32:=by
     have h1:=hI.pa.len
     have h2:r.s.sums.dim=c.dim:=hdm
     rw[h2] at h1
     omega
    have sh9:∀{hp:List Res} {Gs:List Fct},hp[8]?=some (.abs (fctRep Gs))→(∀f∈Fs4,f∈Gs)→Bg w No hp (.x (.a (.v inn.val))) (inn.l.map (Value.int .i64)):=fun h1 h2=>W2 h1 ((hin.more in5).more h2) (fun e=>by rw[e];rfl) (List.length_map ..)
    have sh10:∀{hp:List Res} {Gs:List Fct},hp[8]?=some (.abs (fctRep Gs))→(∀f∈Fs4,f∈Gs)→Bg w No hp (.x (.a (.v sum.val))) (sum.l.map Ap):=fun h1 h2=>W2 h1 ((hsm.more in5).more h2) (fun e=>by rw[e];rfl) (List.length_map ..)
    have hop:Fv sum.l a0.m.xs.l=true:=by
     unfold Fv
     rw[decide_eq_true pa3,decide_eq_true sd]
     rfl
    have hsum:I9 (Gx 1) sum.l a0.m.xs.l=Bz sum.l a0.m.xs.l:=by
     rw[Adt hop,Av4 Av3,Adx rfl pa3.symm]
    refine Kq rfl An5 rfl (Av6 (a:=sum.l) (b:=a0.m.xs.l) 1 (sh10 rfl fun f hf=>hf) (B4 hm0.xs.2 _ _ (by simp) hm0.xs.1) (by simp (maxSteps:=10^6) only[zA,↓Ae,↓List.forall_mem_cons,↓Ag,push_cast,Nat.reduceLT,Nat.reduceAdd])) (Aa rfl) (fun _=>by simp (maxSteps:=10^6) only[zA,↓Ae,↓List.forall_mem_cons,↓Ag,push_cast,Nat.reduceLT,Nat.reduceAdd]) ?_
    rw[hop,hsum]
    have v38:a0.m.ids.val=.slice a0.m.ids.A a0.m.ids.l.length a0.m.ids.c:=rfl
    simp (maxSteps:=10^6) only[v38,ga,a0k,a0i,hk6,undef,push_cast,↓reduceIte,reduceCtorEq,Nat.reduceEqDiff,Nat.reduceLT,Nat.reduceAdd]
    (repeat (refine And.intro (by first|omega|decide) ?_))
    refine Gl rfl Ny rfl (Oh (a:=inn.l) (b:=a0.m.ids.l) (by omega) (by omega) (sh9 rfl fun f hf=>hf) (B4 hm0.ids.2 _ _ (by simp) hm0.ids.1) (by simp (maxSteps:=10^6) only[zA,↓Ae,↓List.forall_mem_cons,↓Ag,push_cast,Nat.reduceLT,Nat.reduceAdd])) (Aa rfl) (by simp (maxSteps:=10^6) only[zA,↓Ae,↓List.forall_mem_cons,↓Ag,push_cast,Nat.reduceLT,Nat.reduceAdd]) ?_
    rw[pa1]
    simp (maxSteps:=10^6) only[v38,ga,a0i,List.length_nil,undef,push_cast,↓Int.cast_ofNat_Int,Int.cast_ofNat_Int,↓reduceIte,reduceCtorEq,Nat.reduceEqDiff,Nat.reduceLT,Nat.reduceAdd,Int.reduceLT]
    (repeat (refine And.intro (by first|omega|decide) ?_))
    refine Ic 8 (vs:=(Ak inn.l a0.m.ids.l).map (Value.int .i64)) rfl rfl Nz rfl (Aeh (a:=inn.l) (b:=a0.m.ids.l) (by omega) (by omega) (sh9 rfl fun f hf=>hf) (B4 hm0.ids.2 _ _ (by simp) hm0.ids.1)) (Aa rfl) (by simp (maxSteps:=10^6) only[zA,↓Ae,↓List.forall_mem_cons,↓Ag,push_cast,Nat.reduceLT,Nat.reduceAdd]) ?_
    intro A1 cap1 b1 _
    simp (maxSteps:=10^6) only[List.length_map,push_cast,↓reduceIte,Nat.reduceEqDiff,Nat.reduceLT,Nat.reduceAdd]
    (repeat (refine And.intro (by first|omega|decide) ?_))
    refine Abg 10 8 (vs:=(Bz sum.l a0.m.xs.l).map Ap) rfl (fun _=>rfl) rfl (by decide) fun A2 cap2 _ _=>?_
    rw[List.length_map]
    rw[List.length_map] at b1
    simp (maxSteps:=10^6) only[Dn,Ex,Res.sub,Cont.sub,Sv.sub,Sc.sub,At.sub,I5,Ie,If,Ld,J0,push_cast,↓reduceIte,Nat.reduceEqDiff]
    have vi2:(⟨A1,cap1,Ak inn.l a0.m.ids.l⟩:SlV Int).val=.slice A1 (Ak inn.l a0.m.ids.l).length cap1:=rfl
    have vs2:(⟨A2,cap2,Bz sum.l a0.m.xs.l⟩:SlV UInt32).val=.slice A2 (Bz sum.l a0.m.xs.l).length cap2:=rfl
    have in6:∀f∈Fs4,f∈Fs4++[⟨.slice A1 (Ak inn.l a0.m.ids.l).length cap1,(Ak inn.l a0.m.ids.l).length,(Ak inn.l a0.m.ids.l).map (Value.int .i64)⟩]++[⟨.slice A2 (Bz sum.l a0.m.xs.l).length cap2,(Bz sum.l a0.m.xs.l).length,(Bz sum.l a0.m.xs.l).map Ap⟩]:=fun f hf=>List.mem_append_left _ (List.mem_append_left _ hf)
    refine Sn (s':=jF A cap l c g gs ⟨i,r1,Fs4++[⟨.slice A1 (Ak inn.l a0.m.ids.l).length cap1,(Ak inn.l a0.m.ids.l).length,(Ak inn.l a0.m.ids.l).map (Value.int .i64)⟩]++[⟨.slice A2 (Bz sum.l a0.m.xs.l).length cap2,(Bz sum.l a0.m.xs.l).length,(Bz sum.l a0.m.xs.l).map Ap⟩],⟨A1,cap1,Ak inn.l a0.m.ids.l⟩,⟨A2,cap2,Bz sum.l a0.m.xs.l⟩,many+1,tr⟩ out) (Cn [0,1,2,3,4,5,6,7,8] ?_) (next (⟨i,r1,Fs4++[⟨.slice A1 (Ak inn.l a0.m.ids.l).length cap1,(Ak inn.l a0.m.ids.l).length,(Ak inn.l a0.m.ids.l).map (Value.int .i64)⟩]++[⟨.slice A2 (Bz sum.l a0.m.xs.l).length cap2,(Bz sum.l a0.m.xs.l).length,(Bz sum.l a0.m.xs.l).map Ap⟩],⟨A1,cap1,Ak inn.l a0.m.ids.l⟩,⟨A2,cap2,Bz sum.l a0.m.xs.l⟩,many+1,tr⟩,out) ⟨⟨hxi,(t3.more in4).more in6,.inr (List.mem_append_left _ (List.mem_append_right _ (List.mem_singleton.2 rfl))),.inr (List.mem_append_right _ (List.mem_singleton.2 rfl)),hI1,(tok.more in5).more in6,dm1⟩,(t4.more in4).more in6,sd1,rfl,rfl⟩)
    unfold jF
    simp (maxSteps:=10^6) only[vo,vi2,vs2,rn,↓Ae,↓Aw,↓List.forall_mem_cons,↓Ag,↓Ay,push_cast,↓reduceIte,reduceCtorEq,Nat.reduceEqDiff,Nat.reduceLT,Nat.reduceAdd]
 ·rintro⟨⟨i2,r2,F3,inn,sum,many,tr2⟩,out⟩ ⟨hy,oko,hso,ei,et⟩
  dsimp only at oko hso ei et
  obtain rfl:=ei
  obtain rfl:=et
  have ok2:=hy.ok
  have hI2:=hy.inv
  have tok2:=hy.tok
  have hin:=hy.inn
  have hsm:=hy.sum
  have dm2:=hy.dim
  dsimp only at ok2 hI2 tok2 hin hsm dm2
  have vi:inn.val=.slice inn.A inn.l.length inn.c:=rfl
  have vs:sum.val=.slice sum.A sum.l.length sum.c:=rfl
  have vo:out.val=.slice out.A out.l.length out.c:=rfl
  have innl:inn.l.length≤64:=Wu hI2.pa.asc
  have sd:sum.l.length≤32:=by
   have h1:=hI2.pa.len
   have h2:r2.s.sums.dim=c.dim:=dm2
   rw[h2] at h1
   omega
  have zl:=fun n=>Eo r2.ty n
  simp only[At.bnd] at zl
  unfold jF
  refine Atg (A:=[.pin g 149 (.c [.v (.int .i64 r2.place),.v (.int .i64 r2.gen),.v (.int .i64 r2.parent),.v r2.above.val,.v r2.under.val,.o 2,.p 1 0,.p 3 0,.v (.int .i64 r2.phase)]),.blk 170 (.c (tlA r2.ty)),.mp .i64 (slE r2.next),.pin gs 120 (.c [.v (.int .i64 r2.sm.place),.v (.int .i64 r2.sm.dim),.v r2.sm.spots.val,.o 4,.o 5]),.mp .i64 (iE r2.sm.heard),.mp .i64 (mgE r2.sm.taken),.blk 25 (.c [.v (.int .i64 c.dim),.v (.slice c.ps.A c.ps.l.length c.ps.c),.v (.slice c.gs.A c.gs.l.length c.gs.c),.v (.int .i64 c.least),.v (.int .i64 c.term)]),.blk 48 (.c (mgA tr2))]) (M:=[.abs (fctRep F3)]) [2,7,9,10,11,12,14,18] rfl (by show 0 < 8;omega) (by
   show ∀x∈_,Res.bnd 8 x
   simp (maxSteps:=10^6) only[↓Ae,↓List.forall_mem_cons,↓Ag,push_cast,Nat.reduceLT]) (by simp (maxSteps:=10^6) only[↓Ae,↓List.forall_mem_cons,↓Ag,push_cast,Nat.reduceLT,Nat.reduceAdd]) (by
   show ∀x∈_,Sv.bnd 8 _
   simp (maxSteps:=10^6) only[vo,vi,vs,push_cast,↓reduceIte,Nat.reduceEqDiff,Nat.reduceLT]) (fun q hq=>by rw[List.mem_singleton.1 hq];trivial) fun γ' w1 hS1=>?_
  have hS2:Sat w No γ' ([.pin g 149 (.c [.v (.int .i64 r2.place),.v (.int .i64 r2.gen),.v (.int .i64 r2.parent),.v r2.above.val,.v r2.under.val,.o 2,.p 1 0,.p 3 0,.v (.int .i64 r2.phase)]),.blk 170 (.c (tlA r2.ty)),.mp .i64 (slE r2.next),.pin gs 120 (.c [.v (.int .i64 r2.sm.place),.v (.int .i64 r2.sm.dim),.v r2.sm.spots.val,.o 4,.o 5]),.mp .i64 (iE r2.sm.heard),.mp .i64 (mgE r2.sm.taken),.blk 25 (.c [.v (.int .i64 c.dim),.v (.slice c.ps.A c.ps.l.length c.ps.c),.v (.slice c.gs.A c.gs.l.length c.gs.c),.v (.int .i64 c.least),.v (.int .i64 c.term)]),.blk 48 (.c (mgA tr2))]++[.abs (fctRep F3)]) w1:=hS1
  have hkn:=D2 hS2 (k:=0) rfl
  obtain⟨ow1,how1⟩:∃ow1:Nat→Prop,ow1=fun b=>∃(k:Nat) (q:Res),([.pin g 149 (.c [.v (.int .i64 r2.place),.v (.int .i64 r2.gen),.v (.int .i64 r2.parent),.v r2.above.val,.v r2.under.val,.o 2,.p 1 0,.p 3 0,.v (.int .i64 r2.phase)]),.blk 170 (.c (tlA r2.ty)),.mp .i64 (slE r2.next),.pin gs 120 (.c [.v (.int .i64 r2.sm.place),.v (.int .i64 r2.sm.dim),.v r2.sm.spots.val,.o 4,.o 5]),.mp .i64 (iE r2.sm.heard),.mp .i64 (mgE r2.sm.taken),.blk 25 (.c [.v (.int .i64 c.dim),.v (.slice c.ps.A c.ps.l.length c.ps.c),.v (.slice c.gs.A c.gs.l.length c.gs.c),.v (.int .i64 c.least),.v (.int .i64 c.term)]),.blk 48 (.c (mgA tr2))]:List Res)[k]?=some q∧q.has γ' k b:=⟨_,rfl⟩
  rw[←how1] at hkn ⊢
  clear how1 hS1 hS2
  have fo:=hkn.fw oko.1 (fun e=>by rw[e];rfl)
  have fi:=hkn.fw hin (fun e=>by rw[e];rfl)
  have fs:=hkn.fw hsm (fun e=>by rw[e];rfl)
  have Fo:=FLw.of (fun x hx=>Xb (oko.2.1 x hx).s) (by decide) fo.2
  refine Bj (ι:=Nat×MgR) (fun y=>⟨[(2,.x (.a (.v (.slice A l.length cap)))),(7,.x (.a (.p 0 0))),(9,.x (.a (.v (.slice inn.A inn.l.length inn.c)))),(10,.x (.a (.v (.slice sum.A sum.l.length sum.c)))),(11,.x (.a (.p 7 0))),(12,.x (.a (.v (.int .i64 (i2:Nat))))),(14,.x (.a (.v (.slice out.A out.l.length out.c)))),(18,.x (.a (.v (.int .i64 (y.1:Nat)))))],[.pin g 149 (.c [.v (.int .i64 r2.place),.v (.int .i64 r2.gen),.v (.int .i64 r2.parent),.v r2.above.val,.v r2.under.val,.o 2,.p 1 0,.p 3 0,.v (.int .i64 r2.phase)]),.blk 170 (.c (tlA r2.ty)),.mp .i64 (slE r2.next),.pin gs 120 (.c [.v (.int .i64 r2.sm.place),.v (.int .i64 r2.sm.dim),.v r2.sm.spots.val,.o 4,.o 5]),.mp .i64 (iE r2.sm.heard),.mp .i64 (mgE r2.sm.taken),.blk 25 (.c [.v (.int .i64 c.dim),.v (.slice c.ps.A c.ps.l.length c.ps.c),.v (.slice c.gs.A c.gs.l.length c.gs.c),.v (.int .i64 c.least),.v (.int .i64 c.term)]),.blk 48 (.c (mgA y.2))]⟩) (fun y=>y.1≤out.l.length∧HInv r2.s inn.l sum.l many y.2.mg∧MOk F3 y.2) (fun y=>out.l.length - y.1) (0,tr2) [0,1,2,3,4,5,6,7] ⟨Nat.zero_le _,hI2,tok2⟩ ?_ ?_
  ·simp (maxSteps:=10^6) only[vo,vi,vs,rn,↓Ae,↓Aw,↓List.forall_mem_cons,↓Ag,↓Ay,push_cast,↓Int.cast_ofNat_Int,Int.cast_ofNat_Int,↓reduceIte,reduceCtorEq,Nat.reduceEqDiff,Nat.reduceLT,Nat.reduceAdd]
  rintro⟨k,t3⟩ ⟨hk,hI3,tok3⟩
  dsimp only at hk hI3 tok3 ⊢
  have gt3:=Bd tok3.s
  have zt3:=fun n=>Bm t3 n
  simp only[At.bnd] at zt3
  by_cases hkl:(k:Int) < out.l.length
  case neg=>
   simp (maxSteps:=10^6) only[hkl,↓List.forall_mem_cons,↓List.forall_mem_append,push_cast,↓reduceIte,Nat.reduceEqDiff,Nat.reduceLT,Nat.reduceAdd,Int.reduceNeg]
   refine⟨[.pin g 149 (.c [.v (.int .i64 r2.place),.v (.int .i64 r2.gen),.v (.int .i64 r2.parent),.v r2.above.val,.v r2.under.val,.o 2,.p 1 0,.p 3 0,.v (.int .i64 r2.phase)]),.blk 170 (.c (tlA r2.ty)),.mp .i64 (slE r2.next),.pin gs 120 (.c [.v (.int .i64 r2.sm.place),.v (.int .i64 r2.sm.dim),.v r2.sm.spots.val,.o 4,.o 5]),.mp .i64 (iE r2.sm.heard),.mp .i64 (mgE r2.sm.taken),.blk 25 (.c [.v (.int .i64 c.dim),.v (.slice c.ps.A c.ps.l.length c.ps.c),.v (.slice c.gs.A c.gs.l.length c.gs.c),.v (.int .i64 c.least),.v (.int .i64 c.term)]),.blk 48 (.c (mgA t3))],[],[2,7,9,10,11,12],rfl,rfl,?_,?_,?_⟩
   ·show ∀x∈_,Res.bnd 8 _
    simp (maxSteps:=10^6) only[↓Ae,↓List.forall_mem_cons,↓Ag,push_cast,Nat.reduceLT]
   ·show ∀x∈_,Sv.bnd 8 _
    simp (maxSteps:=10^6) only[push_cast,↓reduceIte,Nat.reduceEqDiff,Nat.reduceLT]
   simp (maxSteps:=10^6) only[nx,nx0,push_cast,↓reduceIte,Nat.reduceEqDiff,Nat.reduceAdd,Int.reduceNeg]
   refine Ba (HX.mk (i2+1) r2 F3 inn sum many t3) [0,1,2,3,4,5,6,7,8] (show HXInv l.length c _ from ⟨by show i2+1≤l.length;omega,ok2,hin,hsm,hI3,tok3,dm2⟩) (by show l.length - (i2+1) < l.length - i2;omega) ?_
   simp (maxSteps:=10^6) only[vi,vs,rn,↓Ae,↓Aw,↓List.forall_mem_cons,↓Ag,↓Ay,push_cast,↓reduceIte,reduceCtorEq,Nat.reduceEqDiff,Nat.reduceLT,Nat.reduceAdd]
  have hko:k < out.l.length:=by omega
  have k0:(0:Int)≤k:=by omega
  have kx:(k:Int)+1≤9223372036854775807:=by have:=oko.2.2;omega
  have kx0:-9223372036854775808≤(k:Int)+1:=by omega
  have ho:=Fo.some_ (by omega)
  have hxm:=Ez hko
  have xok:=oko.2.1 _ hxm
  have hms:SnR.s (ix out.l k)∈out.l.map SnR.s:=List.mem_map_of_mem hxm
  have xsd:=fun h6=>A07 hI3 hso hms h6
  obtain⟨m1,m2⟩:=Fo.msg hko xok.s
  obtain⟨xk,exk⟩:∃xk,xk=ix out.l k:=⟨_,rfl⟩
  rw[←exk] at xok xsd m1
  clear exk hxm hms
  have gx:=Bd xok.s
  have zx:=fun n=>Bm xk.m n
  simp only[At.bnd] at zx
  have dx3:(mgA t3).drop 43=[]:=List.drop_of_length_le (by omega)
  obtain⟨g0,g1,g2,g3,g4,g5,g38,g39,g40,g41,g42⟩:=C8 xok.s
  by_cases h6:xk.m.k=6
  case neg=>
   simp (maxSteps:=10^6) only[h6,kx,kx0,gx,g0,hkl,k0,ho,m1,m2,Bo,Br,B0,B9,Ce,Bp,undef,↓Ae,↓List.forall_mem_cons,↓mgA_one,↓Ag,↓A8,push_cast,↓Int.toNat_natCast,↓reduceIte,reduceCtorEq,Nat.reduceEqDiff,Nat.reduceLT,Nat.reduceAdd,Int.reduceNeg]
   refine Ba (k+1,t3) [0,1,2,3,4,5,6,7] ⟨by show k+1≤out.l.length;omega,hI3,tok3⟩ (by show out.l.length - (k+1) < out.l.length - k;omega) ?_
   simp (maxSteps:=10^6) only[↓Ae,↓Aw,↓List.forall_mem_cons,↓Ag,↓Ay,push_cast,↓reduceIte,reduceCtorEq,Nat.reduceEqDiff,Nat.reduceLT,Nat.reduceAdd]
  obtain⟨x1,x2,x3,x4,x5⟩:=xsd h6
  have x1:xk.m.ids.l=inn.l:=x1
  have x2:xk.m.xs.l=sum.l:=x2
  have x3:r2.phase=1:=x3
  have x4:t3.k=0∨t3.mg=xk.m.mg:=x4
  have x5:HInv r2.s inn.l sum.l many xk.m.mg:=x5
  have v38:xk.m.ids.val=.slice xk.m.ids.A inn.l.length xk.m.ids.c:=by
   show Value.slice xk.m.ids.A xk.m.ids.l.length xk.m.ids.c=_
   rw[x1]
  have v41:xk.m.xs.val=.slice xk.m.xs.A sum.l.length xk.m.xs.c:=by
   show Value.slice xk.m.xs.A xk.m.xs.l.length xk.m.xs.c=_
   rw[x2]
  have f38:=hkn.fw xok.ids (fun e=>by rw[e];rfl)
  have f41:=hkn.fw xok.xs (fun e=>by rw[e];rfl)
  rw[x1] at f38
  rw[x2] at f41
  simp (maxSteps:=10^6) only[h6,v38,gx,g0,g38,hkl,k0,ho,m1,m2,Bo,Br,B0,B9,Ce,Bp,undef,↓Ae,↓List.forall_mem_cons,↓mgA_one,↓Ag,↓A8,push_cast,↓Int.toNat_natCast,↓reduceIte,reduceCtorEq,Nat.reduceEqDiff,Nat.reduceLT,Nat.reduceAdd]
  (repeat (refine And.intro (by first|omega|decide) ?_))
  refine Ro (by simp (maxSteps:=10^6) only[↓Ae,↓List.forall_mem_cons,↓Ag,↓A8,push_cast,Nat.reduceLT,Nat.reduceAdd]) ?_
  refine Am rfl Aat rfl (Afv (a:=inn.l) (b:=inn.l) (by omega) (Dq f38.2 _ _ (List.length_map ..) f38.1) (Dq fi.2 _ _ (List.length_map ..) fi.1)) (Aa rfl) ?_
  rw[decide_eq_true (rfl:inn.l=inn.l)]
  simp (maxSteps:=10^6) only[v41,gx,g41,undef,push_cast,↓reduceIte,reduceCtorEq,Nat.reduceEqDiff,Nat.reduceLT,Nat.reduceAdd]
  (repeat (refine And.intro (by first|omega|decide) ?_))
  refine Am rfl An9 rfl (A1l (a:=sum.l) (b:=sum.l) (by omega) (Dq f41.2 _ _ (List.length_map ..) f41.1) (Dq fs.2 _ _ (List.length_map ..) fs.1)) (Aa rfl) ?_
  rw[decide_eq_true (rfl:sum.l=sum.l)]
  simp (maxSteps:=10^6) only[push_cast,↓reduceIte,Nat.reduceEqDiff,Nat.reduceLT,Nat.reduceAdd]
  (repeat (refine And.intro (by first|omega|decide) ?_))
  have zm3:=fun n=>Ck t3 n
  simp only[At.av,avK] at zm3
  have zmx:=fun n=>Ck xk.m n
  simp only[At.av,avK] at zmx
  refine C9 (ι:=Unit) (A:=hbB g gs r2) (M:=[.blk 25 (.c [.v (.int .i64 c.dim),.v (.slice c.ps.A c.ps.l.length c.ps.c),.v (.slice c.gs.A c.gs.l.length c.gs.c),.v (.int .i64 c.least),.v (.int .i64 c.term)]),.blk 48 (.c (mgA t3)),.blk 48 (.c (mgA xk.m)),.abs (fctRep [])]) (g:=g) (t:=149) (c:=.c (hbA r2)) (l:=[]) 3 (fun _=>True) (fun _=>.x (.a (.v (.int .i64 r2.phase)))) (fun _=>hbB g gs r2) (fun _=>[]) rfl rfl rfl (fun x _=>⟨_,rfl⟩) (fun x _=>rfl) rfl Aau rfl (Aft ok2 fun γ w hS=>D3 hS hkn) (fun x γ=>by first|rfl) (Aa rfl) (Ar g gs _) (fun x _=>Ar g gs _) (by simp (maxSteps:=10^6) only[↓Ae,↓List.forall_mem_cons,↓Ag,↓A8,push_cast,Nat.reduceLT,Nat.reduceAdd]) (by
   show ∀x∈_,Sv.av 6 _
   simp (maxSteps:=10^6) only[↓List.forall_mem_cons,↓Ck,push_cast,reduceCtorEq,Nat.reduceLeDiff]) (by
   show ∀x∈_,Res.av 6 _
   simp (maxSteps:=10^6) only[↓List.forall_mem_cons,↓Ck,push_cast]) ?_
  rintro _ _
  have pht:=eq_true x3
  have e0':=(C8 tok3.s).1
  unfold hbB hbA
  by_cases hz:t3.k=0
  ·simp (maxSteps:=10^6) only[pht,hz,kx,kx0,gx,gt3,e0',undef,↓mgA_one,push_cast,↓reduceIte,reduceCtorEq,Nat.reduceEqDiff,Nat.reduceLT,Nat.reduceAdd,Int.reduceNeg]
   refine Ba (k+1,xk.m) [0,1,2,3,4,5,6,7] ⟨by show k+1≤out.l.length;omega,x5,xok⟩ (by show out.l.length - (k+1) < out.l.length - k;omega) ?_
   simp (maxSteps:=10^6) only[↓Ae,↓Aw,↓List.forall_mem_cons,↓Ag,↓Ay,push_cast,↓reduceIte,reduceCtorEq,Nat.reduceEqDiff,Nat.reduceLT,Nat.reduceAdd]
  ·simp (maxSteps:=10^6) only[pht,hz,gx,gt3,e0',undef,push_cast,↓reduceIte,reduceCtorEq,Nat.reduceEqDiff,Nat.reduceLT,Nat.reduceAdd]
   (repeat (refine And.intro (by first|omega|decide) ?_))
   have hsame:J1 t3.mg xk.m.mg=true:=by
    rw[x4.resolve_left hz]
    exact decide_eq_true rfl
   refine Am rfl Aaq rfl (Ax5 (Lh tok3 hkn) (Lh xok hkn)) (Aa rfl) ?_
   rw[hsame]
   simp (maxSteps:=10^6) only[kx,kx0,gx,gt3,undef,↓mgA_one,push_cast,↓reduceIte,Nat.reduceEqDiff,Nat.reduceLT,Nat.reduceAdd,Int.reduceNeg]
   refine Ba (k+1,xk.m) [0,1,2,3,4,5,6,7] ⟨by show k+1≤out.l.length;omega,x5,xok⟩ (by show out.l.length - (k+1) < out.l.length - k;omega) ?_
   simp (maxSteps:=10^6) only[↓Ae,↓Aw,↓List.forall_mem_cons,↓Ag,↓Ay,push_cast,↓reduceIte,reduceCtorEq,Nat.reduceEqDiff,Nat.reduceLT,Nat.reduceAdd]
end Go.Proofs.YtedaafmfjhjfmaaGreatDoor
