import Derived.Test.YtedaafmfjhjfmaaGreatDoorPv0
/- Law 29: PartOrder. -/
namespace Go.Proofs.YtedaafmfjhjfmaaGreatDoor
open Go.RowKit
set_option linter.unusedSimpArgs false
set_option linter.unusedVariables false
theorem Vg (c:CfS):TkInv (Sms.new c 0) (Sms.new c 0) []∧Nh (Sms.new c 0) []:=⟨⟨rfl,rfl,rfl,⟨fun t ht=>(by cases ht),List.Pairwise.nil⟩,rfl⟩,fun q _=>rfl⟩
theorem Acb {s0:Sms} {r:SmR} {T:List MgS} (h:TkInv s0 r.s T) (hT:T.length≤12) (hs:s0.spots.length≤16):J9 r.taken∧r.taken.length≤30:=by
 have e:r.s.taken=Bf MgR.mg r.taken:=rfl
 have hl:r.s.taken.length=r.taken.length:=List.length_map ..
 have hl2:r.s.taken.length=T.length:=by rw[h.tk,List.length_map]
 refine⟨⟨?_,fun q hq=>?_,by omega⟩,by omega⟩
 ·have:=Jw h.inv
  rw[e] at this
  have e2:(Bf MgR.mg r.taken).map (·.1)=r.taken.map (·.1):=by
   unfold Bf
   rw[List.map_map]
   rfl
  rw[e2] at this
  exact this
 ·obtain⟨h1,h2⟩:=h.inv.ok _ (Rt hq)
  have hu:=Ab5 (Jv h1).und
  have h2:q.2.mg.pl=q.1:=h2
  have h4:r.s.spots.length=s0.spots.length:=by rw[h.spots]
  rw[h2,h4] at hu
  omega
theorem Acc {s0:Sms} {r:SmR} {T:List MgS} (h:TkInv s0 r.s T) {d:Nat} (hd:r.dim=d):∀t∈r.taken,t.2.xs.l.length=d∧t.2.ns.l.length % 2=0∧0 < t.2.ps.l.length:=fun t ht=>by
 have km:=Jv (h.inv.ok _ (Rt ht)).1
 have h1:(t.2.xs.l.length:Int)=r.dim:=km.len
 refine⟨by omega,km.ev,?_⟩
 obtain⟨a,ha⟩:=List.exists_mem_of_ne_nil _ km.some_
 have h3:a∈t.2.ps.l.map (·.1):=km.sub a ha
 have:=List.length_pos_of_mem h3
 rwa [List.length_map] at this
theorem A68 {L:List MgR} (hs:∀m∈L,m.sm.length=32) {i:Nat} (hi:i < L.length):((vC (L.flatMap mgV)).drop (i*43)).take 43=mgA (ix L i):=by
 have hl:=Nf (e:=mgV) (m:=43) (l:=L) fun x hx=>H0 (hs x hx)
 have h43:=H0 (hs _ (Dr hi))
 apply List.ext_getElem?
 intro j
 have e2:mgA (ix L i)=(mgV (ix L i)).map At.v:=My (ix L i)|>.symm
 rw[List.getElem?_take,List.getElem?_drop]
 by_cases hj:j < 43
 ·rw[if_pos hj]
  unfold vC
  rw[List.getElem?_map,Abv (m:=43) (fun x hx=>H0 (hs x hx)) i j hi hj,e2,List.getElem?_map]
 ·rw[if_neg hj,e2,List.getElem?_map,List.getElem?_eq_none (by omega)]
  rfl
structure RX where
 k:Nat
 r:SmR
 F:List Fct
structure PInv (s0:Sms) (T:List MgS) (t:Nat) (c:CfR) (x:RX):Prop where
 k:x.k≤T.length
 ok:SmOk x.F x.r
 tk:TkInv s0 x.r.s (F9 T t x.k)
 hd:Nh x.r.s (F9 T t x.k)
 dim:x.r.dim=c.dim
theorem A69:ZOk Tryz.prog 52 (.c (.v (.int .u8 0):: .v (.int .i64 0):: .v (.int .i64 0):: .v (.int .i64 0):: .v (.int .i64 0):: .v (.int .u64 0)::(List.map f8 (List.replicate 32 0)++[.v (.slice none 0 0),.v (.slice none 0 0),.v (.slice none 0 0),.v (.slice none 0 0),.v (.int .i64 0)])))=True:=
 eq_true ⟨.agg ([Value.int .u8 0,.int .i64 0,.int .i64 0,.int .i64 0,.int .i64 0,.int .u64 0]++(List.replicate 32 (Value.int .u8 0)++[Value.slice none 0 0,.slice none 0 0,.slice none 0 0,.slice none 0 0,.int .i64 0])).toArray,by kernel_rfl,fun _=>rfl⟩
theorem A7a:ZOk Tryz.prog 52 (.c (mgA zeroR))=True:=by rw[←B9];exact A69
theorem A7b {w0 w:World} {ow:Nat→Prop} {γ:List Nm} {hp:List Res} (hg:Handle w0) (hno:¬ow 0) (hS:Sat w0 ow γ hp w):Handle w:=by
 have hlt:0 < w0.heap.size:=block_lt_of_cell hg
 have hb:=hS.keeps.block _ hlt hno
 unfold Handle at hg ⊢
 unfold World.cell? at hg ⊢
 rw[hb]
 exact hg
theorem A7c {w0:World} {ow:Nat→Prop} {hp:List Res} (hg:Handle w0) (hno:¬ow 0):Ae Tryz.prog w0 ow 20 [] hp (.x (.a (.v (.bool true)))) hp:=A8 fun _ w hS=>Ab3 w (A7b hg hno hS)
structure QX where
 i:Nat
 r:SmR
 F:List Fct
 L:List MgR
structure QInv (n:Nat) (c:CfR) (w:World) (x:QX):Prop where
 i:x.i≤n
 len:x.L.length≤x.i
 ok:SmOk x.F x.r
 tk:TkInv (Sms.new c.cf 0) x.r.s (x.L.map MgR.mg)
 ms:∀m∈x.L,m.Ok w
 dim:x.r.dim=c.dim
attribute [local irreducible] Ad Ae Ah Ar Ak Am Ai Al
attribute [local irreducible] B1 okV Ay Br erV Cj cfF tcF isP ofP abF C3 B2 Ca G5 Hz Ro Rq Ir Fe Sms.from_
set_option maxRecDepth 100000 in
set_option maxHeartbeats 4000000 in
theorem A7d (c:CfR) (A:Option Addr) (cap:Nat) (l:List MgR) (turn:UInt8) (w:World) (hgd:Handle w) (hc:c.Wide w) (hcap:l.length≤cap) (hR:RdV w w.heap.size A (l.flatMap mgV)) (hl:∀m∈l,m.Wide w):
  Calls Tryz.prog 5 #[.agg (cfV c).toArray,.slice A l.length cap,vU8 turn] w fun e w'=>e=.returned (.bool true)∧Below w.heap.size w w':=by
 refine Ba (n:=118) Tryz.func5 rfl Tryz.ntmps5 [.x (.g [.v (.int .i64 c.dim),.v (.slice c.ps.A c.ps.l.length c.ps.c),.v (.slice c.gs.A c.gs.l.length c.gs.c),.v (.int .i64 c.least),.v (.int .i64 c.term)]),.x (.a (.v (.slice A l.length cap))),.x (.a (.v (vU8 turn)))] (by simp) (.x (.a (.v (.bool true)))) (fun _=>rfl) ?_
 simp (maxSteps:=10^6) only[push_cast,↓reduceIte,Nat.reduceEqDiff,Nat.reduceLT,Nat.reduceAdd]
 (repeat (refine And.intro (by first|omega|decide) ?_))
 refine Aq rfl Avt rfl (A6g c hc) (Af rfl) ?_
 by_cases hb:G5 c.cf=true
 ·rw[hb]
  simp (maxSteps:=10^6) only[undef,push_cast,↓reduceIte,Nat.reduceEqDiff,Nat.reduceLT]
  (repeat (refine And.intro (by first|omega|decide) ?_))
  refine Aq rfl Ma rfl (Rn hgd) (Af rfl) ?_
  simp (maxSteps:=10^6) only[push_cast,↓reduceIte,Nat.reduceLT]
  done
 have hb:G5 c.cf=false:=by simpa using hb
 rw[hb]
 obtain⟨bp,bg,bi⟩:=A6d hb
 by_cases l0:(l.length:Int)=0
 ·simp (maxSteps:=10^6) only[l0,undef,push_cast,↓reduceIte,reduceCtorEq,Nat.reduceEqDiff,Nat.reduceLT]
  (repeat (refine And.intro (by first|omega|decide) ?_))
  refine Aq rfl Ma rfl (Rn hgd) (Af rfl) ?_
  simp (maxSteps:=10^6) only[push_cast,↓reduceIte,Nat.reduceLT]
  done
 by_cases l12:12 < (l.length:Int)
 ·simp (maxSteps:=10^6) only[l0,l12,push_cast,↓reduceIte,reduceCtorEq,Nat.reduceEqDiff,Nat.reduceLT]
  (repeat (refine And.intro (by first|omega|decide) ?_))
  refine Aq rfl Ma rfl (Rn hgd) (Af rfl) ?_
  simp (maxSteps:=10^6) only[push_cast,↓reduceIte,Nat.reduceLT]
  done
 simp (maxSteps:=10^6) only[l0,l12,push_cast,↓reduceIte,reduceCtorEq,Nat.reduceEqDiff,Nat.reduceLT,Nat.reduceAdd]
 (repeat (refine And.intro (by first|omega|decide) ?_))
 refine Jm rfl Ti rfl (Vf c hc (by simp (maxSteps:=10^6) only[push_cast])) (Af rfl) (fun _=>by simp (maxSteps:=10^6) only[push_cast,Nat.reduceLT]) ?_
 simp (maxSteps:=10^6) only[push_cast,↓reduceIte,Nat.reduceAdd]
 (repeat (refine And.intro (by first|omega|decide) ?_))
 have hcf:∀{hp:List Res} (k:Nat),hp[k]?=some (.onn 98 3 (.c (vC (c.ps.l.flatMap plV))))→hp[k+1]?=some (.abs (De (c.gs.l.map GrR.gr)))→Iv w hp (.x (.g [.v (.int .i64 c.dim),.o k,.o (k+1),.v (.int .i64 c.least),.v (.int .i64 c.term)])) c.cf:=fun k h1 h2=>A6c h1 h2 (by have:c.ps.l.length≤30:=bp;omega) (by have:(c.gs.l.map GrR.gr).length≤30:=bg;omega) (fun g hg=>by have:=bi g hg;omega)
 have ev:=Ur (n:=1) (by decide)
 by_cases hn:F7 c.cf 0=true
 case neg=>
  have hn:F7 c.cf 0=false:=by simpa using hn
  refine Aq rfl Mb rfl (Ab6 0 (hcf 1 rfl rfl) hn) (Af rfl) ?_
  simp (maxSteps:=10^6) only[ev,push_cast,↓reduceIte,Nat.reduceEqDiff,Nat.reduceLT,Nat.reduceAdd]
  (repeat (refine And.intro (by first|omega|decide) ?_))
  refine Jm rfl Ti rfl (Vf c hc (by simp (maxSteps:=10^6) only[Bd,push_cast,Nat.reduceAdd])) (Af rfl) (fun _=>by simp (maxSteps:=10^6) only[Bd,push_cast,Nat.reduceLT,Nat.reduceAdd]) ?_
  simp (maxSteps:=10^6) only[push_cast,↓reduceIte,Nat.reduceAdd]
  (repeat (refine And.intro (by first|omega|decide) ?_))
  refine Aq rfl Mb rfl (Ab6 0 (hcf 3 rfl rfl) hn) (Af rfl) ?_
  simp (maxSteps:=10^6) only[ev,undef,push_cast,↓reduceIte,Nat.reduceEqDiff,Nat.reduceLT,Nat.reduceAdd]
  (repeat (refine And.intro (by first|omega|decide) ?_))
  refine Aq rfl Ma rfl (Rn hgd) (Af rfl) ?_
  simp (maxSteps:=10^6) only[push_cast,↓reduceIte,Nat.reduceLT,Nat.reduceAdd]
  done
 refine Un (ι:=Nat×SmR×List Fct) (fun x=>x.2.1.s=Sms.new c.cf 0∧x.2.1.heard=[]∧x.2.1.taken=[]∧SmOk x.2.2 x.2.1) (fun _=>.t [.a (.p 3 0),.a (.v .nilIface)]) (fun x=>[.blk 25 (.c [.v (.int .i64 c.dim),.v (.slice c.ps.A c.ps.l.length c.ps.c),.v (.slice c.gs.A c.gs.l.length c.gs.c),.v (.int .i64 c.least),.v (.int .i64 c.term)]),.onn 98 3 (.c (vC (c.ps.l.flatMap plV))),.abs (De (c.gs.l.map GrR.gr))]++(smB x.1 x.2.1++[Res.abs (Aa x.2.2)]).map (Res.ren (Bw 3 4))) rfl Mb rfl (fun γ' w' hS'=>Vc (hp:=[.blk 25 (.c [.v (.int .i64 c.dim),.v (.slice c.ps.A c.ps.l.length c.ps.c),.v (.slice c.gs.A c.gs.l.length c.gs.c),.v (.int .i64 c.least),.v (.int .i64 c.term)]),.onn 98 3 (.c (vC (c.ps.l.flatMap plV))),.abs (De (c.gs.l.map GrR.gr))]) 0 (hcf 1 rfl rfl) hn (by omega) (fun g hg=>by have:=bi g hg;omega) (by simp (maxSteps:=10^6) only[Bd,push_cast,Nat.reduceAdd]) γ' w' hS') (Af rfl) (by simp (maxSteps:=10^6) only[Bd,push_cast,Nat.reduceLT,Nat.reduceAdd]) ?_
 rintro⟨ga,ra,F2⟩ ⟨s1,s2,s3,s4⟩
 dsimp only at s1 s2 s3 s4
 have hcfT:cfF c.cf=true∧0≤(0:Int)∧(0:Int) < c.cf.places.length:=by
  unfold F7 at hn
  rw[Bool.and_eq_true,decide_eq_true_eq] at hn
  exact hn
 have hdim:1≤c.dim∧c.dim≤32:=by
  have:=hcfT.1
  unfold cfF at this
  simp only[Bool.and_eq_true] at this
  exact Ml.1 this.1.1.1.1
 have hsp:(Sms.new c.cf 0).spots.length≤16:=by
  rw[A57]
  exact (Za hcfT.1).most
 unfold smB smA
 simp (maxSteps:=10^6) only[Bw,rn,push_cast,↓reduceIte,Nat.reduceEqDiff,Nat.reduceLT,Nat.reduceAdd]
 (repeat (refine And.intro (by first|omega|decide) ?_))
 refine Jm rfl Ti rfl (Vf c hc (by simp (maxSteps:=10^6) only[Bd,↓List.forall_mem_cons,push_cast,Nat.reduceLT,Nat.reduceAdd])) (Af rfl) (fun _=>by simp (maxSteps:=10^6) only[Bd,↓List.forall_mem_cons,push_cast,Nat.reduceLT,Nat.reduceAdd]) ?_
 simp (maxSteps:=10^6) only[push_cast,↓reduceIte,Nat.reduceAdd]
 (repeat (refine And.intro (by first|omega|decide) ?_))
 refine Un (ι:=Nat×SmR×List Fct) (fun x=>x.2.1.s=Sms.new c.cf 0∧x.2.1.heard=[]∧x.2.1.taken=[]∧SmOk x.2.2 x.2.1) (fun _=>.t [.a (.p 9 0),.a (.v .nilIface)]) (fun x=>[.blk 25 (.c [.v (.int .i64 c.dim),.v (.slice c.ps.A c.ps.l.length c.ps.c),.v (.slice c.gs.A c.gs.l.length c.gs.c),.v (.int .i64 c.least),.v (.int .i64 c.term)]),.onn 98 3 (.c (vC (c.ps.l.flatMap plV))),.abs (De (c.gs.l.map GrR.gr)),.pin ga 120 (.c [.v (.int .i64 ra.place),.v (.int .i64 ra.dim),.v ra.spots.val,.o 4,.o 5]),.mp .i64 (iE ra.heard),.mp .i64 (mgE ra.taken),.abs (Aa F2),.onn 98 3 (.c (vC (c.ps.l.flatMap plV))),.abs (De (c.gs.l.map GrR.gr))]++(smB x.1 x.2.1++[Res.abs (Aa x.2.2)]).map (Res.ren (Bw 9 4))) rfl Mb rfl (fun γ' w' hS'=>Vc (hp:=[.blk 25 (.c [.v (.int .i64 c.dim),.v (.slice c.ps.A c.ps.l.length c.ps.c),.v (.slice c.gs.A c.gs.l.length c.gs.c),.v (.int .i64 c.least),.v (.int .i64 c.term)]),.onn 98 3 (.c (vC (c.ps.l.flatMap plV))),.abs (De (c.gs.l.map GrR.gr)),.pin ga 120 (.c [.v (.int .i64 ra.place),.v (.int .i64 ra.dim),.v ra.spots.val,.o 4,.o 5]),.mp .i64 (iE ra.heard),.mp .i64 (mgE ra.taken),.abs (Aa F2),.onn 98 3 (.c (vC (c.ps.l.flatMap plV))),.abs (De (c.gs.l.map GrR.gr))]) 0 (hcf 7 rfl rfl) hn (by omega) (fun g hg=>by have:=bi g hg;omega) (by simp (maxSteps:=10^6) only[Bd,↓List.forall_mem_cons,push_cast,Nat.reduceLT,Nat.reduceAdd]) γ' w' hS') (Af rfl) (by simp (maxSteps:=10^6) only[Bd,↓List.forall_mem_cons,push_cast,Nat.reduceLT,Nat.reduceAdd]) ?_
 rintro⟨gb,rb,F3⟩ ⟨z1,z2,z3,z4⟩
 dsimp only at z1 z2 z3 z4
 unfold smB smA
 simp (maxSteps:=10^6) only[Bw,rn,push_cast,↓reduceIte,Nat.reduceEqDiff,Nat.reduceLT,Nat.reduceAdd]
 refine Ts 11 52 43 (.c []) (by omega) rfl rfl (by simp (maxSteps:=10^6) only[Bd,↓List.forall_mem_cons,push_cast,Nat.reduceLT,Nat.reduceAdd]) ?_
 simp (maxSteps:=10^6) only[push_cast,Nat.reduceAdd]
 have hx0:QInv l.length c w ⟨0,ra,F2,[]⟩:=⟨Nat.zero_le _,Nat.le_refl _,s4,by rw[s1];exact (Vg c.cf).1,fun m hm=>(by cases hm),by
   have:ra.s.dim=c.cf.dim:=by rw[s1];rfl
   exact this⟩
 have F:=FLw.of (ow:=No) (fun x hx=>H0 (hl x hx).s) (by decide) ⟨hR,fun _ _ _ h=>h⟩
 refine Bh (ι:=QX) (fun x=>⟨[(1,.x (.a (.v (.slice A l.length cap)))),(2,.x (.a (.v (vU8 turn)))),(7,.x (.a (.p 0 0))),(9,.x (.a (.p 3 0))),(11,.x (.a (.o 8))),(12,.x (.a (.v (.int .i64 (x.i:Nat)))))],[.pin ga 120 (.c [.v (.int .i64 x.r.place),.v (.int .i64 x.r.dim),.v x.r.spots.val,.o 1,.o 2]),.mp .i64 (iE x.r.heard),.mp .i64 (mgE x.r.taken),.pin gb 120 (.c [.v (.int .i64 rb.place),.v (.int .i64 rb.dim),.v rb.spots.val,.o 4,.o 5]),.mp .i64 (iE rb.heard),.mp .i64 (mgE rb.taken),.abs (Aa x.F),.abs (Aa F3),.onn 52 43 (.c (vC (x.L.flatMap mgV)))]⟩) (QInv l.length c w) (fun x=>l.length - x.i) ⟨0,ra,F2,[]⟩ [3,4,5,9,10,11,6,12,13] hx0 ?_ ?_
 ·have e9:vC (([]:List MgR).flatMap mgV)=[]:=rfl
  simp (maxSteps:=10^6) only[e9,↓List.forall_mem_cons,push_cast,↓Int.cast_ofNat_Int,Int.cast_ofNat_Int,↓reduceIte,reduceCtorEq,Nat.reduceEqDiff,Nat.reduceLT,Nat.reduceAdd]
 clear hx0 s1 s2 s3 s4
 rintro⟨i,ra,Fs,L⟩ hx
 have hxi:i≤l.length:=hx.i
 have hok:=hx.ok
 have htk:=hx.tk
 have hLi:=hx.len
 have hms:=hx.ms
 dsimp only at hok htk hLi hms ⊢
 by_cases hlt:(i:Int) < l.length
 case neg=>
  simp (maxSteps:=10^6) only[hlt,push_cast,↓reduceIte,Nat.reduceEqDiff,Nat.reduceLT,Nat.reduceAdd]
  refine A0y (s':=⟨[(2,.x (.a (.v (vU8 turn)))),(7,.x (.a (.p 3 0))),(9,.x (.a (.p 0 0))),(11,.x (.a (.o 8))),(13,.x (.a (.v (.int .i64 0))))],[.pin gb 120 (.c [.v (.int .i64 rb.place),.v (.int .i64 rb.dim),.v rb.spots.val,.o 1,.o 2]),.mp .i64 (iE rb.heard),.mp .i64 (mgE rb.taken),.pin ga 120 (.c [.v (.int .i64 ra.place),.v (.int .i64 ra.dim),.v ra.spots.val,.o 4,.o 5]),.mp .i64 (iE ra.heard),.mp .i64 (mgE ra.taken),.abs (Aa F3),.abs (Aa Fs),.onn 52 43 (.c (vC (L.flatMap mgV)))]⟩) (Fc [3,4,5,0,1,2,7,6,8] (by simp (maxSteps:=10^6) only[rn,Bd,Ul,↓List.forall_mem_cons,push_cast,↓reduceIte,reduceCtorEq,Nat.reduceEqDiff,Nat.reduceLT,Nat.reduceAdd])) ?_
  obtain⟨T,hT⟩:∃T,T=L.map MgR.mg:=⟨_,rfl⟩
  rw[←hT] at htk
  have hTl:T.length=L.length:=by rw[hT,List.length_map]
  have dmA:ra.dim=c.dim:=hx.dim
  have hx0:PInv (Sms.new c.cf 0) T turn.toNat c ⟨0,rb,F3⟩:=⟨Nat.zero_le _,z4,by rw[z1];exact (Vg c.cf).1,by rw[z1];exact (Vg c.cf).2,by
   have:rb.s.dim=c.cf.dim:=by rw[z1];rfl
   exact this⟩
  refine Bh (ι:=RX) (fun x=>⟨[(2,.x (.a (.v (vU8 turn)))),(7,.x (.a (.p 3 0))),(9,.x (.a (.p 0 0))),(11,.x (.a (.o 8))),(13,.x (.a (.v (.int .i64 (x.k:Nat)))))],[.pin gb 120 (.c [.v (.int .i64 x.r.place),.v (.int .i64 x.r.dim),.v x.r.spots.val,.o 1,.o 2]),.mp .i64 (iE x.r.heard),.mp .i64 (mgE x.r.taken),.pin ga 120 (.c [.v (.int .i64 ra.place),.v (.int .i64 ra.dim),.v ra.spots.val,.o 4,.o 5]),.mp .i64 (iE ra.heard),.mp .i64 (mgE ra.taken),.abs (Aa x.F),.abs (Aa Fs),.onn 52 43 (.c (vC (L.flatMap mgV)))]⟩) (PInv (Sms.new c.cf 0) T turn.toNat c) (fun x=>T.length - x.k) ⟨0,rb,F3⟩ [0,1,2,3,4,5,6,7,8] hx0 ?_ ?_
  ·simp (maxSteps:=10^6) only[Bd,↓List.forall_mem_cons,push_cast,↓Int.cast_ofNat_Int,Int.cast_ofNat_Int,↓reduceIte,reduceCtorEq,Nat.reduceEqDiff,Nat.reduceLT,Nat.reduceAdd]
  clear hx0 z1 z2 z3 z4
  rintro⟨k,rb,Gs⟩ hy
  have hk:=hy.k
  have hokb:=hy.ok
  have htkb:=hy.tk
  have hhd:=hy.hd
  dsimp only at hk hokb htkb hhd ⊢
  have hvl:(L.flatMap mgV).length=L.length*43:=Nf fun x hx=>H0 (hms x hx).s
  have e43:L.length*43 / 43=L.length:=Nat.mul_div_cancel _ (by omega)
  by_cases hlk:(k:Int) < L.length
  case neg=>
   obtain rfl:k=T.length:=by omega
   have hT12:T.length≤12:=by omega
   obtain⟨d,hd⟩:∃d:Nat,c.dim=d:=⟨c.dim.toNat,by omega⟩
   have hTb:(F9 T turn.toNat T.length).length≤12:=by
    unfold F9
    rw[List.length_map,List.length_range]
    exact hT12
   have hdimS:0≤(Sms.new c.cf 0).dim∧(Sms.new c.cf 0).dim≤32:=by
    have e:(Sms.new c.cf 0).dim=c.dim:=rfl
    rw[e]
    omega
   obtain⟨ksA,kfA⟩:=Acb htk hT12 hsp
   obtain⟨ksB,kfB⟩:=Acb htkb hTb hsp
   have rwA:=Acc htk (d:=d) (dmA.trans hd)
   have rwB:=Acc htkb (d:=d) (hy.dim.trans hd)
   have fwA:=Aca htk hT12 hsp hdimS 3
   have fwB:=Aca htkb hTb hsp hdimS 3
   have hAll:=A66 htk htkb (fun x=>Ab8 x) 3
   have hFrm:=(Ab9 htk htkb (fun x=>Ab8 x)).1
   simp (maxSteps:=10^6) only[hlk,hvl,e43,push_cast,↓reduceIte,Nat.reduceEqDiff,Nat.reduceLT,Nat.reduceAdd]
   refine J6 (s':=⟨[(103,.x (.a (.p 0 0))),(7,.x (.a (.p 0 0))),(9,.x (.a (.p 3 0)))],[.pin ga 120 (.c [.v (.int .i64 ra.place),.v (.int .i64 ra.dim),.v ra.spots.val,.o 1,.o 2]),.mp .i64 (iE ra.heard),.mp .i64 (mgE ra.taken),.pin gb 120 (.c [.v (.int .i64 rb.place),.v (.int .i64 rb.dim),.v rb.spots.val,.o 4,.o 5]),.mp .i64 (iE rb.heard),.mp .i64 (mgE rb.taken),.abs (Aa Fs),.abs (Aa Gs)]⟩) (Fc [3,4,5,0,1,2,7,6] (by simp (maxSteps:=10^6) only[rn,↓List.forall_mem_cons,push_cast,↓reduceIte,reduceCtorEq,Nat.reduceEqDiff,Nat.reduceLT,Nat.reduceAdd])) ?_
   refine Mx (ι:=MgR×List Fct) (A:=smB ga ra) (M:=[.pin gb 120 (.c [.v (.int .i64 rb.place),.v (.int .i64 rb.dim),.v rb.spots.val,.o 4,.o 5]),.mp .i64 (iE rb.heard),.mp .i64 (mgE rb.taken),.abs (Aa Fs),.abs (Aa Gs)]) (g:=ga) (t:=120) (c:=.c (smA ra)) (l:=Fs) 3 (fun x=>x.1.mg=ra.s.all 3∧MW x.2 x.1) (fun x=>.x (.g (mgA x.1))) (fun _=>smB ga ra) (fun x=>x.2) rfl rfl rfl (fun x _=>⟨_,rfl⟩) (fun x _=>rfl) rfl Tj rfl (fun γ w1 hS hg=>?_) (fun x γ=>by rw[Bc,Bc]) (Af rfl) (By ga ra) (fun x _=>By ga ra) (by simp (maxSteps:=10^6) only[↓List.forall_mem_cons,push_cast,Nat.reduceLT,Nat.reduceAdd]) (by
    show ∀x∈_,Sv.av 3 _
    simp (maxSteps:=10^6) only[↓List.forall_mem_cons,push_cast,reduceCtorEq,Nat.reduceLeDiff]) (by
    show ∀x∈_,Res.av 3 _
    simp (maxSteps:=10^6) only[↓Qq,↓Qp,↓List.forall_mem_cons,push_cast,reduceCtorEq,Nat.reduceLeDiff]) ?_
   ·have hk:=Ct (A:=smB ga ra) hS (k:=3) rfl
    have:=U4 ra 3 (n:=d) (hS.frontA (By ga ra)) hk hok ksA (dmA.trans hd) (by omega) rwA kfA
    rw[Ll (hS.frontA (By ga ra)) [.x (.a (.v (.int .i64 3)))] (fun x hx γ γ'=>by rw[List.mem_singleton.1 hx];rfl) γ] at this
    show Calls _ _ #[.pointer (some ⟨nmB γ 0,0,none⟩),.int .i64 3] w1 _
    rw[hg]
    refine this.mono fun e w'' ⟨x,γ1,h1,h2,h3⟩=>⟨x,γ1,h1,?_,h3⟩
    rw[h2,Bc,Bc]
   rintro⟨x,J1⟩ ⟨x1,x2⟩
   dsimp only at x1 x2
   unfold smB smA
   have gx:=Bo x2.s
   simp (maxSteps:=10^6) only[push_cast,↓reduceIte,Nat.reduceEqDiff,Nat.reduceLT,Nat.reduceAdd]
   refine J6 (s':=⟨[(104,.x (.g (mgA x))),(105,.x (.a (.p 0 0))),(7,.x (.a (.p 3 0))),(9,.x (.a (.p 0 0)))],[.pin gb 120 (.c [.v (.int .i64 rb.place),.v (.int .i64 rb.dim),.v rb.spots.val,.o 1,.o 2]),.mp .i64 (iE rb.heard),.mp .i64 (mgE rb.taken),.pin ga 120 (.c [.v (.int .i64 ra.place),.v (.int .i64 ra.dim),.v ra.spots.val,.o 4,.o 5]),.mp .i64 (iE ra.heard),.mp .i64 (mgE ra.taken),.abs (Aa (Fs++J1)),.abs (Aa Gs)]⟩) (Fc [3,4,5,0,1,2,6,7] (by simp (maxSteps:=10^6) only[rn,↓List.forall_mem_cons,↓Bj,↓Zz,push_cast,↓reduceIte,reduceCtorEq,Nat.reduceEqDiff,Nat.reduceLT,Nat.reduceAdd])) ?_
   refine Mx (ι:=MgR×List Fct) (A:=smB gb rb) (M:=[.pin ga 120 (.c [.v (.int .i64 ra.place),.v (.int .i64 ra.dim),.v ra.spots.val,.o 4,.o 5]),.mp .i64 (iE ra.heard),.mp .i64 (mgE ra.taken),.abs (Aa (Fs++J1)),.abs (Aa Gs)]) (g:=gb) (t:=120) (c:=.c (smA rb)) (l:=Gs) 4 (fun x=>x.1.mg=rb.s.all 3∧MW x.2 x.1) (fun x=>.x (.g (mgA x.1))) (fun _=>smB gb rb) (fun x=>x.2) rfl rfl rfl (fun x _=>⟨_,rfl⟩) (fun x _=>rfl) rfl Tj rfl (fun γ w1 hS hg=>?_) (fun x γ=>by rw[Bc,Bc]) (Af rfl) (By gb rb) (fun x _=>By gb rb) (by simp (maxSteps:=10^6) only[↓List.forall_mem_cons,↓Bj,push_cast,Nat.reduceLT,Nat.reduceAdd]) (by
    show ∀x∈_,Sv.av 3 _
    simp (maxSteps:=10^6) only[↓List.forall_mem_cons,↓Ew,push_cast,reduceCtorEq,Nat.reduceLeDiff]) (by
    show ∀x∈_,Res.av 3 _
    simp (maxSteps:=10^6) only[↓Qq,↓Qp,↓List.forall_mem_cons,push_cast,reduceCtorEq,Nat.reduceLeDiff]) ?_
   ·have hk:=Ct (A:=smB gb rb) hS (k:=4) rfl
    have:=U4 rb 3 (n:=d) (hS.frontA (By gb rb)) hk hokb ksB (hy.dim.trans hd) (by omega) rwB kfB
    rw[Ll (hS.frontA (By gb rb)) [.x (.a (.v (.int .i64 3)))] (fun x hx γ γ'=>by rw[List.mem_singleton.1 hx];rfl) γ] at this
    show Calls _ _ #[.pointer (some ⟨nmB γ 0,0,none⟩),.int .i64 3] w1 _
    rw[hg]
    refine this.mono fun e w'' ⟨x,γ1,h1,h2,h3⟩=>⟨x,γ1,h1,?_,h3⟩
    rw[h2,Bc,Bc]
   rintro⟨y,J2⟩ ⟨y1,y2⟩
   dsimp only at y1 y2
   have gy:=Bo y2.s
   unfold smB smA
   simp (maxSteps:=10^6) only[push_cast,↓reduceIte]
   have okx:MOk (Fs++J1) x:=⟨x2.s,x2.ids.more fun f hf=>List.mem_append_right _ hf,x2.ns.more fun f hf=>List.mem_append_right _ hf,x2.ps.more fun f hf=>List.mem_append_right _ hf,x2.xs.more fun f hf=>List.mem_append_right _ hf,by rw[x1];exact fwA⟩
   have oky:MOk (Gs++J2) y:=⟨y2.s,y2.ids.more fun f hf=>List.mem_append_right _ hf,y2.ns.more fun f hf=>List.mem_append_right _ hf,y2.ps.more fun f hf=>List.mem_append_right _ hf,y2.xs.more fun f hf=>List.mem_append_right _ hf,by rw[y1];exact fwB⟩
   have hxy:Hr x.mg y.mg=true:=A2u.2 (by rw[x1,y1];exact hAll)
   have zx:=fun n=>Cs x n
   have zy:=fun n=>Cs y n
   simp only[At.bnd] at zx zy
   refine Abt (A:=smB gb rb++[.pin ga 120 (.c [.v (.int .i64 ra.place),.v (.int .i64 ra.dim),.v ra.spots.val,.o 4,.o 5]),.mp .i64 (iE ra.heard),.mp .i64 (mgE ra.taken)]) (M:=[.abs (Aa (Fs++J1)),.abs (Aa (Gs++J2))]) [104,106,7,9] rfl (by show 0 < 6;omega) (by
    show ∀q∈_,Res.bnd 6 q
    unfold smB smA
    simp (maxSteps:=10^6) only[↓List.forall_mem_cons,↓List.forall_mem_append,push_cast,Nat.reduceLT]) (by simp (maxSteps:=10^6) only[↓List.forall_mem_cons,↓Bj,push_cast,Nat.reduceLT,Nat.reduceAdd]) (by
    show ∀x∈_,Sv.bnd 6 _
    simp (maxSteps:=10^6) only[zx,zy,↓List.forall_mem_cons,push_cast,↓reduceIte,Nat.reduceEqDiff,Nat.reduceLT]) (by simp (maxSteps:=10^6) only[↓List.forall_mem_cons,push_cast]) fun γ' w1 hS1=>?_
   have hS2:Sat w No γ' ((smB gb rb++[.pin ga 120 (.c [.v (.int .i64 ra.place),.v (.int .i64 ra.dim),.v ra.spots.val,.o 4,.o 5]),.mp .i64 (iE ra.heard),.mp .i64 (mgE ra.taken)])++[.abs (Aa (Fs++J1)),.abs (Aa (Gs++J2))]) w1:=hS1
   have hk1:=Ct (A:=smB gb rb++[.pin ga 120 (.c [.v (.int .i64 ra.place),.v (.int .i64 ra.dim),.v ra.spots.val,.o 4,.o 5]),.mp .i64 (iE ra.heard),.mp .i64 (mgE ra.taken)]) hS2 (k:=0) rfl
   have hk2:=Ct (A:=smB gb rb++[.pin ga 120 (.c [.v (.int .i64 ra.place),.v (.int .i64 ra.dim),.v ra.spots.val,.o 4,.o 5]),.mp .i64 (iE ra.heard),.mp .i64 (mgE ra.taken)]) hS2 (k:=1) rfl
   have hh:Handle w1:=Tq hgd hS2
   have hno:=Abx hgd hS2 (B:=fun b=>∃(k:Nat) (q:Res),(smB gb rb++[.pin ga 120 (.c [.v (.int .i64 ra.place),.v (.int .i64 ra.dim),.v ra.spots.val,.o 4,.o 5]),.mp .i64 (iE ra.heard),.mp .i64 (mgE ra.taken)])[k]?=some q∧q.has γ' k b) fun b ⟨k,q,h1,h2⟩=>⟨k,q,by rw[List.getElem?_append_left (Au h1)];exact h1,h2⟩
   have mx:=Hu okx hk1
   have my:=Hu oky hk2
   obtain⟨ow1,how1⟩:∃ow1:Nat→Prop,ow1=fun b=>∃(k:Nat) (q:Res),(smB gb rb++[.pin ga 120 (.c [.v (.int .i64 ra.place),.v (.int .i64 ra.dim),.v ra.spots.val,.o 4,.o 5]),.mp .i64 (iE ra.heard),.mp .i64 (mgE ra.taken)])[k]?=some q∧q.has γ' k b:=⟨_,rfl⟩
   have hno:¬ow1 0:=by rw[how1];exact hno
   rw[←how1] at mx my ⊢
   clear how1
   unfold smB smA
   simp (maxSteps:=10^6) only[push_cast,↓reduceIte,Nat.reduceEqDiff,Nat.reduceAdd]
   refine Aq rfl X5 rfl (A5r mx my) (Af rfl) ?_
   rw[hxy]
   simp (maxSteps:=10^6) only[push_cast,↓reduceIte,Nat.reduceEqDiff,Nat.reduceLT,Nat.reduceAdd]
   refine J6 (s':=⟨[(109,.x (.a (.p 0 0))),(108,.x (.a (.v (.bool true)))),(9,.x (.a (.p 3 0)))],[.pin ga 120 (.c [.v (.int .i64 ra.place),.v (.int .i64 ra.dim),.v ra.spots.val,.o 1,.o 2]),.mp .i64 (iE ra.heard),.mp .i64 (mgE ra.taken),.pin gb 120 (.c [.v (.int .i64 rb.place),.v (.int .i64 rb.dim),.v rb.spots.val,.o 4,.o 5]),.mp .i64 (iE rb.heard),.mp .i64 (mgE rb.taken)]⟩) (Fc [3,4,5,0,1,2] (by simp (maxSteps:=10^6) only[rn,↓List.forall_mem_cons,push_cast,↓reduceIte,reduceCtorEq,Nat.reduceEqDiff,Nat.reduceLT,Nat.reduceAdd])) ?_
   refine Fm rfl Pf rfl (Vb (r:=ra) (g:=ga) (M:=[.pin gb 120 (.c [.v (.int .i64 rb.place),.v (.int .i64 rb.dim),.v rb.spots.val,.o 4,.o 5]),.mp .i64 (iE rb.heard),.mp .i64 (mgE rb.taken)]) ksA (by
    show ∀q∈_,Res.bnd 6 q
    unfold smB smA
    simp (maxSteps:=10^6) only[↓List.forall_mem_cons,↓List.forall_mem_append,push_cast,Nat.reduceLT])) (Af rfl) (by simp (maxSteps:=10^6) only[↓List.forall_mem_cons,push_cast,Nat.reduceLT,Nat.reduceAdd]) ?_
   unfold smB smA
   simp (maxSteps:=10^6) only[push_cast,↓reduceIte,Nat.reduceEqDiff,Nat.reduceLT,Nat.reduceAdd]
   refine J6 (s':=⟨[(111,.x (.a (.p 0 0))),(110,.x (.a (.o 6))),(108,.x (.a (.v (.bool true))))],[.pin gb 120 (.c [.v (.int .i64 rb.place),.v (.int .i64 rb.dim),.v rb.spots.val,.o 1,.o 2]),.mp .i64 (iE rb.heard),.mp .i64 (mgE rb.taken),.pin ga 120 (.c [.v (.int .i64 ra.place),.v (.int .i64 ra.dim),.v ra.spots.val,.o 4,.o 5]),.mp .i64 (iE ra.heard),.mp .i64 (mgE ra.taken),.own 3 (.i64 ra.s.from_)]⟩) (Fc [3,4,5,0,1,2,6] (by simp (maxSteps:=10^6) only[rn,↓List.forall_mem_cons,push_cast,↓reduceIte,reduceCtorEq,Nat.reduceEqDiff,Nat.reduceLT,Nat.reduceAdd])) ?_
   refine Fm rfl Pf rfl (Vb (r:=rb) (g:=gb) (M:=[.pin ga 120 (.c [.v (.int .i64 ra.place),.v (.int .i64 ra.dim),.v ra.spots.val,.o 4,.o 5]),.mp .i64 (iE ra.heard),.mp .i64 (mgE ra.taken),.own 3 (.i64 ra.s.from_)]) ksB (by
    show ∀q∈_,Res.bnd 7 q
    unfold smB smA
    simp (maxSteps:=10^6) only[↓List.forall_mem_cons,↓List.forall_mem_append,push_cast,Nat.reduceLT])) (Af rfl) (by simp (maxSteps:=10^6) only[↓List.forall_mem_cons,push_cast,Nat.reduceLT,Nat.reduceAdd]) ?_
   rw[←hFrm]
   have hfl:ra.s.from_.length≤100000:=by
    have h1:=A6h ra.s
    rw[htk.tk,List.length_map] at h1
    omega
   unfold smB smA
   simp (maxSteps:=10^6) only[push_cast,↓reduceIte,Nat.reduceEqDiff,Nat.reduceAdd]
   refine Aq rfl X8 rfl (Aby (a:=ra.s.from_) (b:=ra.s.from_) hfl (K3 (k:=6) rfl (fun _=>rfl)) (K3 (k:=7) rfl (fun _=>rfl))) (Af rfl) ?_
   rw[decide_eq_true (rfl:ra.s.from_=ra.s.from_)]
   simp (maxSteps:=10^6) only[push_cast,↓reduceIte,Nat.reduceEqDiff,Nat.reduceLT,Nat.reduceAdd]
   (repeat (refine And.intro (by first|omega|decide) ?_))
   refine Aq rfl Ma rfl (A7c hh hno) (Af rfl) ?_
   simp (maxSteps:=10^6) only[push_cast,↓reduceIte,Nat.reduceEqDiff,Nat.reduceLT,Nat.reduceAdd]
   refine⟨smB gb rb++[.pin ga 120 (.c [.v (.int .i64 ra.place),.v (.int .i64 ra.dim),.v ra.spots.val,.o 4,.o 5]),.mp .i64 (iE ra.heard),.mp .i64 (mgE ra.taken)],[.own 3 (.i64 ra.s.from_),.own 3 (.i64 ra.s.from_)],[6],?_,rfl,?_,?_,?_⟩
   ·unfold smB smA
    rfl
   ·show ∀q∈_,Res.bnd 6 q
    unfold smB smA
    simp (maxSteps:=10^6) only[↓List.forall_mem_cons,↓List.forall_mem_append,push_cast,Nat.reduceLT]
   ·show ∀x∈_,Sv.bnd 6 _
    simp (maxSteps:=10^6) only[push_cast,↓reduceIte]
   ·simp (maxSteps:=10^6) only[push_cast,↓reduceIte]
  have hkl:k < L.length:=by omega
  have k0:(0:Int)≤k:=by omega
  have ky:(k:Int)+1≤9223372036854775807:=by omega
  have ky0:-9223372036854775808≤(k:Int)+1:=by omega
  have tn:=turn.toNat_lt
  obtain⟨q,hq⟩:∃q,q=(k+turn.toNat) % L.length:=⟨_,rfl⟩
  have hqn:q < L.length:=by rw[hq];exact Nat.mod_lt _ (by omega)
  have n8e:n8 turn=(turn.toNat:Int):=rfl
  have hmod:((k:Int)+n8 turn).tmod (L.length:Int)=(q:Int):=by
   rw[hq,n8e,←Int.natCast_add,Int.ofNat_tmod]
  have ra1:-9223372036854775808≤(k:Int)+n8 turn:=by omega
  have ra2:(k:Int)+n8 turn≤9223372036854775807:=by omega
  have hln:¬(L.length:Int)=0:=by omega
  have q43:q*43+43≤L.length*43:=by omega
  have qlt:(q:Int) < L.length:=by omega
  have q0:(0:Int)≤q:=by omega
  have hpt:=A68 (L:=L) (fun x hx=>(hms x hx).s) hqn
  have hm0:=hms _ (Dr hqn)
  have hfar:=A65 htk.far (t:=turn.toNat) (k:=k) (by omega)
  have hix:ix T ((k+turn.toNat) % T.length)=(ix L q).mg:=by
   rw[hTl,←hq,hT]
   exact Az4 MgR.mg L hqn
  rw[hix] at hfar
  have hmay:(Sms.new c.cf 0).may (ix L q).mg=true:=htk.may _ (by rw[hT];exact List.mem_map_of_mem (Dr hqn))
  have hrot:=A62 T turn.toNat k
  rw[hix] at hrot
  obtain⟨hE,hH⟩:=A61 htkb hhd hmay hfar
  obtain⟨m0,em0⟩:∃m0,m0=ix L q:=⟨_,rfl⟩
  rw[←em0] at hpt hm0 hE hH hrot
  clear em0 hix
  simp (maxSteps:=10^6) only[hlk,hmod,ra1,ra2,hln,q43,qlt,q0,hpt,hvl,e43,push_cast,↓Int.toNat_natCast,↓reduceIte,Nat.reduceEqDiff,Nat.reduceLT,Nat.reduceAdd,Int.reduceNeg]
  (repeat (refine And.intro (by first|omega|decide) ?_))
  refine J4 (ι:=MgR×List Fct) (fun x=>x.1.mg=m0.mg∧MOk x.2 x.1) (fun x=>.x (.g (mgA x.1))) (fun x=>x.2) 6 rfl rfl X6 rfl (fun γ' w' hS'=>?_) (fun x γ=>by rw[Bc,Bc]) (Af rfl) (by simp (maxSteps:=10^6) only[Bd,↓List.forall_mem_cons,↓Bj,push_cast,Nat.reduceLT,Nat.reduceAdd]) ?_
  ·show Calls _ _ #[(Sv.x (.g (mgA m0))).val γ'] w' _
   rw[Bc]
   exact (Abu w' (hm0.later hS')).mono fun e w'' ⟨x,γ1,h1,h2,h3⟩=>⟨x,γ1,h1,by rw[h2,Bc],h3⟩
  rintro⟨m,G⟩ ⟨em,km⟩
  dsimp only at em km
  rw[←em] at hE hH hrot
  have gm:=Bo km.s
  obtain⟨Gs1,eF1⟩:∃G',G'=Gs++G:=⟨_,rfl⟩
  rw[←eF1]
  have in1:∀f∈Gs,f∈Gs1:=fun f hf=>by rw[eF1];exact List.mem_append_left _ hf
  have km:MOk Gs1 m:=km.more fun f hf=>by rw[eF1];exact List.mem_append_right _ hf
  simp (maxSteps:=10^6) only[push_cast,↓reduceIte]
  (repeat (refine And.intro (by first|omega|decide) ?_))
  refine Mx (ι:=SmR×List Fct) (A:=smB gb rb) (M:=[.pin ga 120 (.c [.v (.int .i64 ra.place),.v (.int .i64 ra.dim),.v ra.spots.val,.o 4,.o 5]),.mp .i64 (iE ra.heard),.mp .i64 (mgE ra.taken),.abs (Aa Gs1),.abs (Aa Fs),.onn 52 43 (.c (vC (L.flatMap mgV)))]) (g:=gb) (t:=120) (c:=.c (smA rb)) (l:=Gs1) 3 (Hv Gs1 rb m.mg) (fun x=>.x (.a (.v (erV (rb.s.takeE m.mg))))) (fun x=>smB gb x.1) (fun x=>x.2) rfl rfl rfl (fun x _=>⟨_,rfl⟩) (fun x _=>rfl) rfl K0 rfl (fun γ' w' hS' hg=>?_) (fun _ _=>rfl) (Af rfl) (By gb rb) (fun x _=>By gb x.1) (by simp (maxSteps:=10^6) only[Bd,↓List.forall_mem_cons,↓Bj,push_cast,Nat.reduceLT,Nat.reduceAdd]) (by
   show ∀x∈_,Sv.av 3 _
   simp (maxSteps:=10^6) only[↓List.forall_mem_cons,↓Ew,push_cast,reduceCtorEq,Nat.reduceLeDiff]) (by
   show ∀x∈_,Res.av 3 _
   simp (maxSteps:=10^6) only[Bd,↓Qq,↓Qp,↓List.forall_mem_cons,push_cast,reduceCtorEq,Nat.reduceLeDiff]) ?_
  ·have hk:=Ct (A:=smB gb rb) hS' (k:=3) rfl
   have:=U0 rb m (hS'.frontA (By gb rb)) hk (hokb.more in1) (Hu km hk)
   rw[Ll (hS'.frontA (By gb rb)) [.x (.g (mgA m))] (fun x hx γ γ'=>by rw[List.mem_singleton.1 hx,Bc,Bc]) γ'] at this
   show Calls _ _ #[.pointer (some ⟨nmB γ' 0,0,none⟩),(Sv.x (.g (mgA m))).val γ'] w' _
   rw[hg]
   exact this
  rintro⟨r1,H1⟩ ⟨t1,k1⟩
  dsimp only at t1 k1
  obtain⟨Gs2,eF2⟩:∃G',G'=Gs1++H1:=⟨_,rfl⟩
  rw[←eF2] at k1 ⊢
  have dm1:r1.dim=c.dim:=by
   have h1:r1.s.dim=rb.s.dim:=by rw[t1];exact (Mo rb.s m.mg).2.2.1
   have h1:r1.dim=rb.dim:=h1
   exact h1.trans hy.dim
  have ht1:TkInv (Sms.new c.cf 0) r1.s (F9 T turn.toNat (k+1)):=by
   rw[hrot,t1]
   exact Ab7 htkb hE
  have hh1:Nh r1.s (F9 T turn.toNat (k+1)):=by
   rw[hrot,t1]
   exact hH
  rw[hE]
  unfold smB smA
  simp (maxSteps:=10^6) only[Uq,ky,ky0,push_cast,↓reduceIte,Nat.reduceEqDiff,Nat.reduceLT,Nat.reduceAdd,Int.reduceNeg]
  refine Be (RX.mk (k+1) r1 Gs2) [0,1,2,3,4,5,6,7,8] (show PInv (Sms.new c.cf 0) T turn.toNat c _ from ⟨by show k+1≤T.length;omega,k1,ht1,hh1,dm1⟩) (by show T.length - (k+1) < T.length - k;omega) ?_
  simp (maxSteps:=10^6) only[Bd,↓List.forall_mem_cons,push_cast,↓reduceIte,reduceCtorEq,Nat.reduceEqDiff,Nat.reduceLT,Nat.reduceAdd]
 have hil:i < l.length:=by omega
 have i0:(0:Int)≤i:=by omega
 have nx:(i:Int)+1≤9223372036854775807:=by omega
 have nx0:-9223372036854775808≤(i:Int)+1:=by omega
 have hA:=F.some_ (by omega)
 have hm0:=hl _ (Dr hil)
 obtain⟨w1,w2⟩:=F.whole hil hm0.s
 obtain⟨m0,em0⟩:∃m0,m0=ix l i:=⟨_,rfl⟩
 rw[←em0] at hm0 w1
 clear em0
 simp (maxSteps:=10^6) only[hlt,i0,hA,w1,w2,Bl,push_cast,↓Int.toNat_natCast,↓reduceIte,reduceCtorEq,Nat.reduceEqDiff,Nat.reduceLT,Nat.reduceAdd]
 (repeat (refine And.intro (by first|omega|decide) ?_))
 refine Aq rfl Avu rfl (A5c hm0) (Af rfl) ?_
 cases hbn:Hz m0.mg with
 |true=>
  simp (maxSteps:=10^6) only[nx,nx0,undef,push_cast,↓reduceIte,Nat.reduceEqDiff,Nat.reduceLT,Nat.reduceAdd,Int.reduceNeg]
  refine Be (QX.mk (i+1) ra Fs L) [0,1,2,3,4,5,6,7,8] (show QInv l.length c w _ from ⟨by show i+1≤l.length;omega,by show L.length≤i+1;omega,hx.ok,hx.tk,hx.ms,hx.dim⟩) (by show l.length - (i+1) < l.length - i;omega) ?_
  simp (maxSteps:=10^6) only[Bd,↓List.forall_mem_cons,push_cast,↓reduceIte,reduceCtorEq,Nat.reduceEqDiff,Nat.reduceLT,Nat.reduceAdd]
  done
 |false=>
 have mok:=hm0.ok hbn
 simp (maxSteps:=10^6) only[hlt,i0,hA,w1,w2,Bl,push_cast,↓Int.toNat_natCast,↓reduceIte,reduceCtorEq,Nat.reduceEqDiff,Nat.reduceLT,Nat.reduceAdd]
 (repeat (refine And.intro (by first|omega|decide) ?_))
 refine J4 (ι:=MgR×List Fct) (fun x=>x.1.mg=m0.mg∧MOk x.2 x.1) (fun x=>.x (.g (mgA x.1))) (fun x=>x.2) 6 rfl rfl X6 rfl (fun γ' w' hS'=>?_) (fun x γ=>by rw[Bc,Bc]) (Af rfl) (by simp (maxSteps:=10^6) only[Bd,↓List.forall_mem_cons,↓Bj,push_cast,Nat.reduceLT,Nat.reduceAdd]) ?_
 ·show Calls _ _ #[(Sv.x (.g (mgA m0))).val γ'] w' _
  rw[Bc]
  exact (Abu w' (mok.later hS')).mono fun e w'' ⟨x,γ1,h1,h2,h3⟩=>⟨x,γ1,h1,by rw[h2,Bc],h3⟩
 rintro⟨m,G⟩ ⟨em,km⟩
 dsimp only at em km
 have gm:=Bo km.s
 obtain⟨Fs1,eF1⟩:∃G',G'=Fs++G:=⟨_,rfl⟩
 rw[←eF1]
 have in1:∀f∈Fs,f∈Fs1:=fun f hf=>by rw[eF1];exact List.mem_append_left _ hf
 have km:MOk Fs1 m:=km.more fun f hf=>by rw[eF1];exact List.mem_append_right _ hf
 simp (maxSteps:=10^6) only[push_cast,↓reduceIte,Nat.reduceEqDiff]
 (repeat (refine And.intro (by first|omega|decide) ?_))
 refine Mx (ι:=SmR×List Fct) (A:=smB ga ra) (M:=[.pin gb 120 (.c [.v (.int .i64 rb.place),.v (.int .i64 rb.dim),.v rb.spots.val,.o 4,.o 5]),.mp .i64 (iE rb.heard),.mp .i64 (mgE rb.taken),.abs (Aa Fs1),.abs (Aa F3),.onn 52 43 (.c (vC (L.flatMap mgV)))]) (g:=ga) (t:=120) (c:=.c (smA ra)) (l:=Fs1) 3 (Hv Fs1 ra m.mg) (fun x=>.x (.a (.v (erV (ra.s.takeE m.mg))))) (fun x=>smB ga x.1) (fun x=>x.2) rfl rfl rfl (fun x _=>⟨_,rfl⟩) (fun x _=>rfl) rfl K0 rfl (fun γ' w' hS' hg=>?_) (fun _ _=>rfl) (Af rfl) (By ga ra) (fun x _=>By ga x.1) (by simp (maxSteps:=10^6) only[Bd,↓List.forall_mem_cons,↓Bj,push_cast,Nat.reduceLT,Nat.reduceAdd]) (by
  show ∀x∈_,Sv.av 3 _
  simp (maxSteps:=10^6) only[↓List.forall_mem_cons,↓Ew,push_cast,reduceCtorEq,Nat.reduceLeDiff]) (by
  show ∀x∈_,Res.av 3 _
  simp (maxSteps:=10^6) only[Bd,↓Qq,↓Qp,↓List.forall_mem_cons,push_cast,reduceCtorEq,Nat.reduceLeDiff]) ?_
 ·have hk:=Ct (A:=smB ga ra) hS' (k:=3) rfl
  have:=U0 ra m (hS'.frontA (By ga ra)) hk (hok.more in1) (Hu km hk)
  rw[Ll (hS'.frontA (By ga ra)) [.x (.g (mgA m))] (fun x hx γ γ'=>by rw[List.mem_singleton.1 hx,Bc,Bc]) γ'] at this
  show Calls _ _ #[.pointer (some ⟨nmB γ' 0,0,none⟩),(Sv.x (.g (mgA m))).val γ'] w' _
  rw[hg]
  exact this
 rintro⟨r1,H1⟩ ⟨t1,k1⟩
 dsimp only at t1 k1
 obtain⟨Fs2,eF2⟩:∃G',G'=Fs1++H1:=⟨_,rfl⟩
 rw[←eF2] at k1 ⊢
 have dm1:r1.dim=c.dim:=by
  have h1:r1.s.dim=ra.s.dim:=by rw[t1];exact (Mo ra.s m.mg).2.2.1
  have h1:r1.dim=ra.dim:=h1
  exact h1.trans hx.dim
 unfold smB smA
 by_cases h0:ra.s.takeE m.mg=0
 case neg=>
  have hp1:TkInv (Sms.new c.cf 0) r1.s (L.map MgR.mg):=by rw[t1];exact A60 htk h0
  have ev0:=Ur h0
  simp (maxSteps:=10^6) only[ev0,nx,nx0,push_cast,↓reduceIte,Nat.reduceEqDiff,Nat.reduceLT,Nat.reduceAdd,Int.reduceNeg]
  refine Be (QX.mk (i+1) r1 Fs2 L) [0,1,2,3,4,5,6,7,8] (show QInv l.length c w _ from ⟨by show i+1≤l.length;omega,by show L.length≤i+1;omega,k1,hp1,hms,dm1⟩) (by show l.length - (i+1) < l.length - i;omega) ?_
  simp (maxSteps:=10^6) only[Bd,↓List.forall_mem_cons,push_cast,↓reduceIte,reduceCtorEq,Nat.reduceEqDiff,Nat.reduceLT,Nat.reduceAdd]
  done
 have ev0:erV (ra.s.takeE m.mg)=.nilIface:=by rw[h0];exact Uq
 have hp1:TkInv (Sms.new c.cf 0) r1.s ((L++[m0]).map MgR.mg):=by
  rw[t1,List.map_append]
  have:=Ab7 htk h0
  rw[em] at this ⊢
  exact this
 have hvl:(L.flatMap mgV).length=L.length*43:=Nf fun x hx=>H0 (hms x hx).s
 have e43:L.length*43 / 43=L.length:=Nat.mul_div_cancel _ (by omega)
 have q1:(L.length+1)*240≤140737488355328:=by omega
 have q2:L.length+1≤2 ^ 63 - 1:=by omega
 have g0:=Bo hm0.s
 simp (maxSteps:=10^6) only[ev0,i0,hA,w1,w2,g0,hvl,e43,q2,B6,B9,Ck,A7a,List.flatten_cons,List.flatten_nil,List.append_nil,Bl,↓List.forall_mem_cons,↓Cp,↓Ao,↓Bj,push_cast,↓Int.toNat_natCast,↓reduceIte,reduceCtorEq,Nat.reduceEqDiff,Nat.reduceLT,Nat.reduceLeDiff,Nat.reduceAdd,Nat.reduceMul,Int.reduceNeg]
 (repeat (refine And.intro (by first|omega|decide) ?_))
 refine⟨of_eq_true (Cp m0 _),by omega,⟨nx0,nx⟩,?_⟩
 have ev2:vC ((L++[m0]).flatMap mgV)=vC (L.flatMap mgV)++mgA m0:=by
  rw[List.flatMap_append,Lb,List.flatMap_cons,List.flatMap_nil,List.append_nil]
  congr 1
  exact My m0
 have zb0:=fun n=>Cs m0 n
 simp only[At.bnd] at zb0
 refine Be (QX.mk (i+1) r1 Fs2 (L++[m0])) [0,1,2,3,4,5,6,7,10] (show QInv l.length c w _ from ⟨by show i+1≤l.length;omega,by show (L++[m0]).length≤i+1;rw[List.length_append];show L.length+1≤i+1;omega,k1,hp1,fun y hy=>(List.mem_append.1 hy).elim (hms y) fun h=>by rw[List.mem_singleton.1 h];exact mok,dm1⟩) (by show l.length - (i+1) < l.length - i;omega) ?_
 simp (maxSteps:=10^6) only[ev2,zb0,Bd,↓List.forall_mem_cons,↓List.forall_mem_append,Qa,push_cast,↓reduceIte,reduceCtorEq,Nat.reduceEqDiff,Nat.reduceLT,Nat.reduceAdd]
end Go.Proofs.YtedaafmfjhjfmaaGreatDoor
