import Derived.Test.YtiaeollemmkclaaDoorMg9
import Derived.Test.YtiaeollemmkclaaDoorDrT
import Derived.Test.YtiaeollemmkclaaDoorPk1
/- Layer 16: msg.read of peers. -/
namespace Go.Proofs.YtiaeollemmkclaaDoor
open Go.RowKit
set_option linter.unusedSimpArgs false
set_option linter.unusedVariables false
attribute [local irreducible] Af Ad Av Bh Bf A6 Aw A9
attribute [local irreducible] mgO wiM B6 may chI okV Fi Be numS Dd Do Dn Bi Bm F3
section
variable {X:Nat→Prop} {w:World} {s:RS} {m:MgS} {p:Nat}
theorem A7q (s:RS):F3 s=(Be (Bi s).1).zip (Bm s).1:=by unfold F3;rfl
theorem A7r (h:(Bi s).1.length=(Bm s).1.length):((Be (Bi s).1).zip (Bm s).1).take (Bi s).1.length=F3 s:=by
 rw[A7q,List.take_of_length_le (by rw[List.length_zip,Iu];omega)]
set_option maxRecDepth 100000 in
set_option maxHeartbeats 4000000 in
theorem A7s (hs:s.Ok X w) (hm:m.In p) (hp:p≤1000):RdM 112 s (Bm s).2 m (if (Bi s).1.length=(Bm s).1.length then {m with ps:=m.ps++F3 s} else m) (decide ((Bi s).1.length=(Bm s).1.length)) X w:=fun g g2 γ hS=>by
 obtain⟨f0,f1,f2,f3,f4,f5,f38,f39,f40,f41,f42⟩:=G1 hm.sm 2 3 4 5
 obtain⟨s0,s1,s2,s3,s4,s5,s38,s39,s40,s41,s42⟩:=H5 hm.sm 2 3 4 5
 have fl:∀a b c d,(mgO m a b c d).length=43:=fun a b c d=>Eu hm.sm
 have hXg:=Fk hS rfl
 have ob:=fun (m:MgS) a b c d n=>Dx m a b c d n
 simp only[At.bnd] at ob
 have g97:=Au (c:=112) (n:=97) (by decide) Ey
 have g111:=Au (c:=112) (n:=111) (by decide) Fj
 have g99:=Au (c:=112) (n:=99) (by decide) F0
 have g103:=Au (c:=112) (n:=103) (by decide) Gb
 have g110:=Au (c:=112) (n:=110) (by decide) Gx
 have g115:=Au (c:=112) (n:=115) (by decide) Hg
 have g105:=Au (c:=112) (n:=105) (by decide) H0
 have g118:=Au (c:=112) (n:=118) (by decide) Iq
 have g112:=B0 (c:=112) (n:=112) rfl Jg
 obtain⟨hq1,hq2⟩:=Tc s
 have hq3:=A62 s
 have hz:=Adi s
 have hmp:=hm.ps
 obtain⟨t1,ht1⟩:∃t1,t1=(Bi s).2:=⟨_,rfl⟩
 obtain⟨t,ht⟩:∃t,t=(Bm s).2:=⟨_,rfl⟩
 have hR1:∀X w,s.Ok X w→RdG 12 [.x (.a (.v (.int .i64 64))),.x (.a (.v (.int .u64 63)))] (.x (.a (.o 1))) s t1 [.own 27 (.u64 (Bi s).1)] X w:=fun X w h=>by rw[ht1];unfold Bi;exact S8 64 63 (by decide) h
 have hR2:∀X w,t1.Ok X w→RdG 12 [.x (.a (.v (.int .i64 64))),.x (.a (.v (.int .u64 2305843009213693950)))] (.x (.a (.o 1))) t1 t [.own 27 (.u64 (Bm s).1)] X w:=fun X w h=>by rw[ht,ht1];unfold Bm;rw[←ht1];exact S8 64 pm1 (by decide) h
 have hs1:t1.Ok X w:=by rw[ht1];unfold Bi;exact Jj hs
 rw[←ht]
 refine Cy (n:=123) Tryd.func93 rfl Tryd.ntmps93 _ hS (by simp) (.x (.a (.v (.bool (decide ((Bi s).1.length=(Bm s).1.length)))))) _ ?_
 simp (maxSteps:=10^6) only[g97,g111,g99,g103,g110,g115,g105,g118,g112,push_cast,↓reduceIte,reduceCtorEq,Nat.reduceEqDiff,Nat.reduceLT,Nat.reduceAdd]
 (repeat (refine And.intro (by first|omega|decide) ?_))
 refine Bk rfl R3 rfl (Gz (k0:=0) (s:=s) (args:=[.x (.a (.v (.int .i64 64))),.x (.a (.v (.int .u64 63)))]) (by simp (maxSteps:=10^6) only[ob,Ag,push_cast,Nat.reduceLT,Nat.reduceAdd]) rfl (by simp only[push_cast,Nat.reduceAdd]) (by simp only[push_cast,Nat.reduceLT,Nat.reduceAdd]) (fun _ _=>rfl) (Fl hs rfl hXg) hR1) (Aa rfl) (fun _=>by simp (maxSteps:=10^6) only[ob,Ag,push_cast,Nat.reduceLT,Nat.reduceAdd]) ?_
 simp (maxSteps:=10^6) only[Bq,↓Ci,push_cast,↓reduceIte,reduceCtorEq,Nat.reduceEqDiff,Nat.reduceLT,Nat.reduceAdd]
 (repeat (refine And.intro (by first|omega|decide) ?_))
 refine Bk rfl R3 rfl (Gz (k0:=0) (s:=t1) (args:=[.x (.a (.v (.int .i64 64))),.x (.a (.v (.int .u64 2305843009213693950)))]) (by simp (maxSteps:=10^6) only[ob,Ag,push_cast,Nat.reduceLT,Nat.reduceAdd]) rfl (by simp only[push_cast,Nat.reduceAdd]) (by simp only[push_cast,Nat.reduceLT,Nat.reduceAdd]) (fun _ _=>rfl) (Fl hs1 rfl hXg) hR2) (Aa rfl) (fun _=>by simp (maxSteps:=10^6) only[ob,Ag,push_cast,Nat.reduceLT,Nat.reduceAdd]) ?_
 by_cases hl:(Bi s).1.length=(Bm s).1.length
 case neg=>
  have hl2:¬((Bi s).1.length:Int)=(Bm s).1.length:=by omega
  rw[if_neg hl,decide_eq_false hl]
  simp (maxSteps:=10^6) only[Bq,↓Ci,hl2,push_cast,↓reduceIte,Nat.reduceEqDiff,Nat.reduceLT,Nat.reduceAdd]
  refine Bp [0,1,2,3,4,5] ?_
  simp (maxSteps:=10^6) only[ob,Bq,Ag,↓Ci,push_cast,↓reduceIte,reduceCtorEq,Nat.reduceEqDiff,Nat.reduceLT,Nat.reduceAdd]
  done
 have hl2:((Bi s).1.length:Int)=(Bm s).1.length:=by omega
 rw[if_pos hl,decide_eq_true hl]
 simp (maxSteps:=10^6) only[Bq,↓Ci,hl2,push_cast,↓reduceIte,Nat.reduceEqDiff,Nat.reduceLT,Nat.reduceAdd]
 (repeat (refine And.intro (by first|omega|decide) ?_))
 obtain⟨Z,hZ⟩:∃Z,Z=(Be (Bi s).1).zip (Bm s).1:=⟨_,rfl⟩
 have hza:Z.take (Bm s).1.length=F3 s:=by rw[hZ,←hl,A7r hl]
 have hz0:m.ps++Z.take 0=m.ps:=by rw[List.take_zero,List.append_nil]
 refine Bu (ι:=Nat) (fun i=>⟨[(1,.x (.a (.p 1 0))),(8,.x (.a (.o 7))),(84,.x (.a (.o 6))),(85,.x (.a (.v (.int .i64 (Bm s).1.length)))),(86,.x (.a (.v (.int .i64 i))))],[.pin g 132 (.c [.v (.slice t.A t.l.length t.c),.v (.bool t.bad)]),.pin g2 89 (.c (mgO m 2 3 4 5)),.own 3 (.i64 m.ids),.own 27 (.u64 m.ns),.onn 160 2 (.c (pcs (m.ps++Z.take i))),.own 136 (.u32 m.xs),.own 27 (.u64 (Bi s).1),.own 27 (.u64 (Bm s).1)]⟩) (fun i=>i≤(Bm s).1.length) (fun i=>(Bm s).1.length - i) 0 [0,1,2,3,4,5,7,9] (Nat.zero_le _) ?_ ?_
 ·simp (maxSteps:=10^6) only[ob,Bq,Ag,↓Ci,push_cast,↓Int.cast_ofNat_Int,Int.cast_ofNat_Int,↓reduceIte,reduceCtorEq,Nat.reduceEqDiff,Nat.reduceLT,Nat.reduceAdd]
 intro i hi
 by_cases hlt:(i:Int) < (Bm s).1.length
 ·have hil:i < (Bm s).1.length:=by omega
  have hil2:i < (Bi s).1.length:=by omega
  have hlt2:(i:Int) < (Bi s).1.length:=by omega
  have i0:(0:Int)≤i:=by omega
  have hzn:Z.take (i+1)=Z.take i++[(n64 (ix (Bi s).1 i),ix (Bm s).1 i)]:=by rw[hZ];exact Adj _ _ i hil2 hil
  have hmem:ix (Bi s).1 i∈(Bi s).1:=by
   rw[ix,List.getD_eq_getElem?_getD,List.getElem?_eq_getElem hil2]
   exact List.getElem_mem hil2
  have hv:=hq2 _ hmem
  have hn:n64 (ix (Bi s).1 i)=(((ix (Bi s).1 i).toNat:Nat):Int):=rfl
  have hx:-9223372036854775808≤n64 (ix (Bi s).1 i):=by omega
  have hx2:n64 (ix (Bi s).1 i)≤9223372036854775807:=by omega
  have hpl:(m.ps++Z.take i).length=m.ps.length+i:=by
   rw[List.length_append,List.length_take,hZ,List.length_zip,Iu]
   omega
  have e3:(m.ps.length+i)*2 / 2=m.ps.length+i:=Nat.mul_div_cancel _ (by omega)
  have b1:(m.ps.length+i+1)*16≤140737488355328:=by omega
  have b2:m.ps.length+i+1≤2 ^ 63 - 1:=by omega
  have nx:(i:Int)+1≤9223372036854775807:=by omega
  have nx0:-9223372036854775808≤(i:Int)+1:=by omega
  have hap:pcs (m.ps++Z.take i)++[.v (.int .i64 (n64 (ix (Bi s).1 i))),.v (vU64 (ix (Bm s).1 i))]=pcs (m.ps++Z.take (i+1)):=by
   rw[hzn,←List.append_assoc,V4 (m.ps++Z.take i),Ip,Jd]
  simp (maxSteps:=10^6) only[hlt,hlt2,i0,push_cast,↓Int.toNat_natCast,↓reduceIte,Nat.reduceEqDiff,Nat.reduceLT,Nat.reduceAdd]
  (repeat (refine And.intro (by first|omega|decide) ?_))
  refine Ps 8 [4] 16 (.rd 0 (.rd 1 (.rd 2 (.rd 3 (.rd 4 (.rd 5 (.rd 6 (.rd 7 (.rd 8 (.rd 9 (.rd 10 (.wr 11 (.wr 12 (.wr 13 (.rd 14 (.rd 15 .nil)))))))))))))))) ⟨[(1,.x (.a (.p 1 0))),(8,.x (.a (.o 7))),(84,.x (.a (.o 6))),(85,.x (.a (.v (.int .i64 (Bm s).1.length)))),(86,.x (.a (.v (.int .i64 i)))),(104,.x (.a (.o 8))),(106,.x (.a (.p 1 40)))],[.pin g 132 (.c [.v (.slice t.A t.l.length t.c),.v (.bool t.bad)]),.pin g2 89 (.c (mgO m 2 3 4 5)),.own 3 (.i64 m.ids),.own 27 (.u64 m.ns),.gone,.own 136 (.u32 m.xs),.own 27 (.u64 (Bi s).1),.own 27 (.u64 (Bm s).1),.onn 160 2 (.c (pcs (m.ps++Z.take (i+1))))]⟩ (by kernel_rfl) (by kernel_rfl) (Nat.le_refl 8) ?_ ?_
  ·simp (maxSteps:=10^6) only[ob,fl,f40,Ag,Sl,hlt,i0,hx,hx2,hpl,e3,b1,b2,hap,undef,push_cast,↓Int.toNat_natCast,↓reduceIte,reduceCtorEq,Nat.reduceEqDiff,Nat.reduceLT,Nat.reduceLeDiff,Nat.reduceAdd,Nat.reduceSub,Nat.reduceMul,Int.reduceNeg]
   (repeat (refine And.intro (by first|omega|decide) ?_))
   refine Il [0,1,2,3,4,5,6,7,9] ?_
   simp (maxSteps:=10^6) only[ob,Bq,Ag,↓Ci,push_cast,↓reduceIte,reduceCtorEq,Nat.reduceEqDiff,Nat.reduceLT,Nat.reduceAdd]
   done
  ·simp (maxSteps:=10^6) only[fl,s40,nx,nx0,undef,push_cast,↓reduceIte,Nat.reduceEqDiff,Nat.reduceLT,Nat.reduceAdd,Int.reduceNeg]
   (repeat (refine And.intro (by first|omega|decide) ?_))
   refine Bd (i+1) [0,1,2,3,8,5,6,7] (by omega) (by omega) ?_
   simp (maxSteps:=10^6) only[ob,Bq,Ag,↓Ci,push_cast,↓reduceIte,reduceCtorEq,Nat.reduceEqDiff,Nat.reduceLT,Nat.reduceAdd]
   done
 ·obtain rfl:i=(Bm s).1.length:=by omega
  simp (maxSteps:=10^6) only[hlt,hza,push_cast,↓reduceIte,Nat.reduceEqDiff,Nat.reduceLT,Nat.reduceAdd]
  refine Bp [0,1,2,3,4,5] ?_
  rw[A6v m 2 3 4 5 (m.ps++F3 s)]
  simp (maxSteps:=10^6) only[ob,Bq,Ag,↓Ci,push_cast,↓reduceIte,reduceCtorEq,Nat.reduceEqDiff,Nat.reduceLT,Nat.reduceAdd]
  done
end
end Go.Proofs.YtiaeollemmkclaaDoor
/- Layer 16: msg.read, as Decode sees it; a message of the call's own shows what is said. -/
namespace Go.Proofs.YtiaeollemmkclaaDoor
open Go.RowKit
set_option linter.unusedSimpArgs false
set_option linter.unusedVariables false
section
variable {w0 w:World} {ow:Nat→Prop} {γ:List Nm} {hp:List Res}
theorem A7t {k:Nat} {t:TypeId} {c:Cont} (h:B3 hp[k]?=some (t,c)):∃r,hp[k]?=some r∧r.has γ k=fun b=>some (nmB γ k)=some b:=by
 cases hq:hp[k]? with
 |none=>rw[hq] at h;cases h
 |some r=>
  rw[hq] at h
  refine⟨r,rfl,?_⟩
  cases r<;>first|rfl|cases h
theorem Sat.hand2 {k k2:Nat} {t t2:TypeId} {c c2:Cont} {ρ:List Nat} {hp0:List Res} (hS:Sat w0 ow γ hp w) (hr:B3 hp[k]?=some (t,c)) (hr2:B3 hp[k2]?=some (t2,c2)) (hne:k≠k2)
  (hle:J2 ρ ((hp.set k (.pin (nmB γ k) t c)).set k2 (.pin (nmB γ k2) t2 c2)) ρ hp0) (hn:Lc ρ) (hb:∀r∈hp0,Res.bnd hp0.length r):
  Sat w (Oz (reγ ρ γ) hp0) (reγ ρ γ) hp0 w∧(∀b,Oz (reγ ρ γ) hp0 b→∃(k':Nat) (r:Res),k'∈ρ∧hp[k']?=some r∧r.has γ k' b)∧∀sv:Sv,sv.bnd ρ.length→sv.val (reγ ρ γ)=(sv.ren ρ).val γ:=by
 have hT:=hS.topin' hr
 have hr2':B3 (hp.set k (.pin (nmB γ k) t c))[k2]?=some (t2,c2):=by rw[List.getElem?_set_ne hne];exact hr2
 obtain⟨a1,a2,a3⟩:=hT.hand hr2' hle hn hb
 refine⟨a1,fun b hbb=>?_,a3⟩
 obtain⟨k',r,h1,h2,h3⟩:=a2 b hbb
 by_cases e:k=k'
 ·subst e
  obtain⟨r0,hr0,hh⟩:=A7t (γ:=γ) hr
  refine⟨k,r0,h1,hr0,?_⟩
  rw[List.getElem?_set_self (B8 hr0)] at h2
  cases h2
  rw[hh]
  exact h3
 ·rw[List.getElem?_set_ne e] at h2
  exact⟨k',r,h1,h2,h3⟩
theorem Pt {m:MgS} {a b c d:Nat} (hf:m.Few) (ha:hp[a]?=some (.own 3 (.i64 m.ids))) (hb:hp[b]?=some (.own 27 (.u64 m.ns))) (hc:hp[c]?=some (.onn 160 2 (.c (pcs m.ps)))) (hd:hp[d]?=some (.own 136 (.u32 m.xs))):
  Dg w0 hp (.x (.g (mgO m a b c d))) m:=fun γ w hS=>by
 obtain⟨A1,c1,e1,b1,q1⟩:=Fy (vs:=m.ids.map (Value.int .i64)) ha (fun _=>rfl) γ w hS
 obtain⟨A2,c2,e2,b2,q2⟩:=Fy (vs:=m.ns.map vU64) hb (fun _=>rfl) γ w hS
 obtain⟨A3,c3,e3,b3,q3⟩:=Sm hc γ w hS
 obtain⟨A4,c4,e4,b4,q4⟩:=Fy (vs:=m.xs.map Ap) hd (fun _=>rfl) γ w hS
 rw[List.length_map] at e1 e2 e4 b1 b2 b4
 refine⟨⟨m.k,m.pl,m.ot,m.cl,m.ge,m.nu,m.sm,⟨A1,c1,m.ids⟩,⟨A2,c2,m.ns⟩,⟨A3,c3,m.ps⟩,⟨A4,c4,m.xs⟩,m.re⟩,?_,⟨hf.sm,⟨b1,hf.ids,q1⟩,⟨b2,hf.ns,q2⟩,⟨b3,hf.ps,q3⟩,⟨b4,hf.xs,q4⟩⟩,rfl⟩
 have e1:At.val γ (.o a)=.slice A1 m.ids.length c1:=e1
 have e2:At.val γ (.o b)=.slice A2 m.ns.length c2:=e2
 have e3:At.val γ (.o c)=.slice A3 m.ps.length c3:=e3
 have e4:At.val γ (.o d)=.slice A4 m.xs.length c4:=e4
 show Value.agg _=_
 unfold mgO
 rw[O7,e1,e2,e3,e4]
 rfl
end
theorem A7u (y:UInt8) (a b c d:Nat):((((mgA {zeroR with k:=y}).set 38 (.o a)).set 39 (.o b)).set 40 (.o c)).set 41 (.o d)=mgO {Bt with k:=y} a b c d:=rfl
theorem Adk (y:UInt8):(mgA zeroR).set 0 (.v (vU8 y))=mgA {zeroR with k:=y}:=rfl
theorem A7v (y:UInt8):(mgA {zeroR with k:=y})[38]?=some (.v (.slice none 0 0))∧(mgA {zeroR with k:=y})[39]?=some (.v (.slice none 0 0))∧(mgA {zeroR with k:=y})[40]?=some (.v (.slice none 0 0))∧(mgA {zeroR with k:=y})[41]?=some (.v (.slice none 0 0)):=⟨rfl,rfl,rfl,rfl⟩
attribute [local irreducible] Af Ad Av Bh Bf A6 Aw A9
attribute [local irreducible] mgO mgA wiM B6 may chI okV Fi Be numS Dd Do Dn Bi Bm F3 Ah
section
variable {w:World} {s t:RS} {m m':MgS} {A:Option Addr} {vs:List Value} {n cp:Nat} {Fs:List Fct} {k c:UInt8} {i:Nat} {b:Bool}
set_option maxRecDepth 100000 in
theorem A7w (h:s.From A vs) (hf:⟨.slice A n cp,n,vs⟩∈Fs) (hR:∀X w,s.Ok X w→RdM c s t m m' b X w):
  Ad Tryd.prog w No 93 [.x (.a (.p 1 0)),.x (.a (.p 2 0)),.x (.a (.v (.int .i32 (chI c))))] [.blk 89 (.c (mgA zeroR)),.blk 132 (.c [.v (.slice s.A s.l.length s.c),.v (.bool s.bad)]),.blk 89 (.c (mgO m 3 4 5 6)),.own 3 (.i64 m.ids),.own 27 (.u64 m.ns),.onn 160 2 (.c (pcs m.ps)),.own 136 (.u32 m.xs),.abs (fctRep Fs),.it (Ah k) i] (.x (.a (.v (.bool b)))) (p2S [.blk 89 (.c (mgA zeroR)),.blk 132 (.c [.v (.slice s.A s.l.length s.c),.v (.bool s.bad)]),.blk 89 (.c (mgO m 3 4 5 6)),.own 3 (.i64 m.ids),.own 27 (.u64 m.ns),.onn 160 2 (.c (pcs m.ps)),.own 136 (.u32 m.xs),.abs (fctRep Fs),.it (Ah k) i] [1,2,3,4,5,6] 1 2 132 89 (.c [.v (.slice t.A t.l.length t.c),.v (.bool t.bad)]) (.c (mgO m' 2 3 4 5)) [.own 3 (.i64 m'.ids),.own 27 (.u64 m'.ns),.onn 160 2 (.c (pcs m'.ps)),.own 136 (.u32 m'.xs)] 0 0):=by
 have ob:=fun (m:MgS) a b c d n=>Dx m a b c d n
 have zb:=fun n=>Co zeroR n
 simp only[At.bnd] at ob zb
 refine A6p [1,2,3,4,5,6] 1 2 (.c [.v (.slice t.A t.l.length t.c),.v (.bool t.bad)]) (.c (mgO m' 2 3 4 5)) [.own 3 (.i64 m'.ids),.own 27 (.u64 m'.ns),.onn 160 2 (.c (pcs m'.ps)),.own 136 (.u32 m'.xs)] _ rfl rfl (by simp (maxSteps:=10^6) only[ob,zb,Ag,push_cast,Nat.reduceLT,Nat.reduceAdd]) (fun g g2=>by simp (maxSteps:=10^6) only[ob,Ag,push_cast,Nat.reduceLT,Nat.reduceAdd]) (fun g g2=>by simp (maxSteps:=10^6) only[ob,zb,Bq,Ag,↓Ci,push_cast,↓reduceIte,Nat.reduceLT,Nat.reduceAdd]) (fun g g2=>by simp (maxSteps:=10^6) only[ob,zb,Bq,Ag,↓Ci,↓Ak,push_cast,↓reduceIte,Nat.reduceEqDiff,Nat.reduceLT,Nat.reduceAdd]) (by simp (maxSteps:=10^6) only[push_cast,Nat.reduceAdd]) (by simp (maxSteps:=10^6) only[Ni,↓A6q,↓Ci,push_cast,↓reduceIte,Nat.reduceEqDiff,Nat.reduceLT,Nat.reduceAdd]) (fun _ _=>rfl) (fun _ _=>rfl) (fun _ _=>rfl) (fun _ _=>rfl) (fun _ _=>rfl) fun γ w' hS=>?_
 obtain⟨g1,g2,g3⟩:=hS.hand2 (k:=1) (k2:=2) (ρ:=[1,2,3,4,5,6]) (hp0:=[.pin (nmB γ 1) 132 (.c [.v (.slice s.A s.l.length s.c),.v (.bool s.bad)]),.pin (nmB γ 2) 89 (.c (mgO m 2 3 4 5)),.own 3 (.i64 m.ids),.own 27 (.u64 m.ns),.onn 160 2 (.c (pcs m.ps)),.own 136 (.u32 m.xs)]) rfl rfl (by decide) (by simp (maxSteps:=10^6) only[Bq,↓Ci,push_cast]) (by simp (maxSteps:=10^6) only[push_cast,Nat.reduceEqDiff]) (by simp (maxSteps:=10^6) only[ob,Ag,push_cast,Nat.reduceLT,Nat.reduceAdd])
 refine⟨_,g2,?_⟩
 have hok:s.Ok _ w':=h _ w' (Sz hS (k:=7) rfl hf (Sub.refl A vs) [1,2,3,4,5,6] (by decide) g2)
 have:=hR _ w' hok (nmB γ 1) (nmB γ 2) _ g1
 rw[show List.map (Sv.val (reγ [1,2,3,4,5,6] γ)) [.x (.a (.p 0 0)),.x (.a (.p 1 0)),.x (.a (.v (.int .i32 (chI c))))]=List.map (Sv.val γ) [.x (.a (.p 1 0)),.x (.a (.p 2 0)),.x (.a (.v (.int .i32 (chI c))))] from by
  simp only[List.map_cons,List.map_nil];rw[g3 (.x (.a (.p 0 0))) (by show (0:Nat) < 6;omega),g3 (.x (.a (.p 1 0))) (by show (1:Nat) < 6;omega)];rfl] at this
 exact this
end
end Go.Proofs.YtiaeollemmkclaaDoor
/- A nil slice of structs in a variable, told as one of the call's own. No program in sight. -/
namespace Go.Proofs.YtiaeollemmkclaaDoor
open Go.RowKit
set_option linter.unusedSimpArgs false
set_option linter.unusedVariables false
theorem Sat.ghostN {w0 w:World} {ow:Nat→Prop} {γ:List Nm} {hp:List Res} {k i:Nat} {t e:TypeId} {m:Nat} {l:List At} {c:Cont} (hm:0 < m) (hS:Sat w0 ow γ hp w) (hr:B3 hp[k]?=some (t,.c l)) (hi:l[i]?=some (.v (.slice none 0 0))) (hc:c.len=0) (hbr:∀r∈hp,Res.bnd hp.length r):
  Sat w0 ow (γ++[.s (.slice none 0 0)]) ((hp.set k (bput hp[k]? t (.c (l.set i (.o hp.length)))))++[.onn e m c]) w:=by
 have hl:=hS.len
 have hcv:c.vals (γ++[Nm.s (.slice none 0 0)])=[]:=by
  rw[←List.length_eq_zero_iff,Cont.len_vals,hc]
 have h1:Sat w0 ow (γ++[.s (.slice none 0 0)]) (hp++[.onn e m c]) w:=by
  refine hS.push (X:=fun _=>False) (Keeps.refl _ _) (fun b h=>h.elim) hbr ⟨by rw[D2 hl,Bb hl],?_⟩ ?_
  ·rw[Bb hl,hcv]
   exact⟨hm,0,World.ownsRow_nil w 0 e m⟩
  ·intro b hb
   simp only[Res.has,Bb hl,Value.ownBlock] at hb
   cases hb
 obtain⟨hn,hbk,r0,hr0,hbl,hbl2,hput⟩:=hS.bv hr
 have hkl:=B8 hr0
 have hk2:(hp++[Res.onn e m c])[k]?=hp[k]?:=List.getElem?_append_left hkl
 have hr2:B3 (hp++[Res.onn e m c])[k]?=some (t,.c l):=by rw[hk2];exact hr
 obtain⟨hn2,hbk2,r1,hr1,hbl3,hbl4,hput2⟩:=h1.bv hr2
 have hv:(Cont.c (l.set i (.o hp.length))).vals (γ++[Nm.s (.slice none 0 0)])=(Cont.c l).vals (γ++[Nm.s (.slice none 0 0)]):=by
  simp only[Cont.vals,List.map_set]
  have e1:At.val (γ++[Nm.s (.slice none 0 0)]) (.o hp.length)=.slice none 0 0:=Bb hl _
  rw[e1]
  apply List.ext_getElem?
  intro j
  by_cases hj:i=j
  ·subst hj
   rw[List.getElem?_set]
   have hil:=B8 hi
   simp only[if_true,List.length_map]
   rw[if_pos hil,List.getElem?_map,hi]
   rfl
  ·rw[List.getElem?_set_ne hj]
 have:=h1.update (r':=bput (hp++[Res.onn e m c])[k]? t (.c (l.set i (.o hp.length)))) hr1 (b:=nmB _ k) (by rw[hbl3]) (Keeps.refl _ _) (hput2 _ _ (by rw[hv];exact hbk2)) (.inl (hbl4 _))
 rw[hk2,List.set_append_left _ _ hkl] at this
 exact this
theorem Xb {P:Program} {w0:World} {ow:Nat→Prop} {n:Nat} {c:Code} {s:S} {K:Exit→S→Prop} (k i:Nat) (t e:TypeId) (m:Nat) (l:List At) (ct:Cont) (hm:0 < m) (hr:B3 s.hp[k]?=some (t,.c l)) (hi:l[i]?=some (.v (.slice none 0 0))) (hc:ct.len=0) (hb:s.bnd)
  (h:A6 P w0 ow n c ⟨s.fr,s.hp.set k (bput s.hp[k]? t (.c (l.set i (.o s.hp.length))))++[.onn e m ct]⟩ K):A6 P w0 ow n c s K:=fun a w ⟨γ,hf⟩=>
 h a w ⟨_,hf.sat.ghostN hm hr hi hc hb.2,hf.defers,hf.size,fun u sv hu=>by
  rw[hf.at_ u sv hu]
  exact (Sv.ext (by rw[hf.sat.len];exact hb.1 _ (Fr.get_mem hu))).symm⟩
end Go.Proofs.YtiaeollemmkclaaDoor
