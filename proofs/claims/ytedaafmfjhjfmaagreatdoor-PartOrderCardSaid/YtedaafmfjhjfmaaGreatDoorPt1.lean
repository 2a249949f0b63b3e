import Derived.Test.YtedaafmfjhjfmaaGreatDoorPt0
import Derived.Test.YtedaafmfjhjfmaaGreatDoorLw3
/- Layer 29 walked: set.Less; Sums as they lie there; under, ids. -/
namespace Go.Proofs.YtedaafmfjhjfmaaGreatDoor
open Go.RowKit
set_option linter.unusedSimpArgs false
set_option linter.unusedVariables false
structure SpR where
 above:SlV Int
 clients:SlV Int
 need:Int
instance:Inhabited SpR:=⟨⟨default,default,0⟩⟩
def spV (s:SpR):List Value:=[s.above.val,s.clients.val,.int .i64 s.need]
theorem Qm (s:SpR):(spV s).length=3:=rfl
def SpR.sp (s:SpR):Spt:=⟨s.above.l,s.clients.l,s.need⟩
structure SmR where
 place:Int
 dim:Int
 spots:SlV SpR
 heard:List (Int×Int)
 taken:List (Int×MgR)
def SmR.s (r:SmR):Sms:=⟨r.place,r.dim,r.spots.l.map SpR.sp,r.heard,Bf MgR.mg r.taken⟩
def iE (l:List (Int×Int)):List (Int×Sc):=l.map fun p=>(p.1,.a (.v (.int .i64 p.2)))
def mgE (l:List (Int×MgR)):List (Int×Sc):=l.map fun p=>(p.1,.g (mgA p.2))
def smA (r:SmR):List At:=[.v (.int .i64 r.place),.v (.int .i64 r.dim),.v r.spots.val,.o 1,.o 2]
def smB (g:Nat) (r:SmR):List Res:=[.pin g 120 (.c (smA r)),.mp .i64 (iE r.heard),.mp .i64 (mgE r.taken)]
structure SmOk (Fs:List Fct) (r:SmR):Prop where
 spots:SlF Fs r.spots (r.spots.l.flatMap spV)
 above:∀x∈r.spots.l,SlF Fs x.above (x.above.l.map (Value.int .i64))
 clients:∀x∈r.spots.l,SlF Fs x.clients (x.clients.l.map (Value.int .i64))
 taken:∀p∈r.taken,MOk Fs p.2
 few:r.spots.l.length≤1000∧∀x∈r.spots.l,x.above.l.length≤1000∧x.clients.l.length≤1000
theorem SmOk.more {Fs Gs:List Fct} {r:SmR} (h:SmOk Fs r) (hg:∀f∈Fs,f∈Gs):SmOk Gs r:=
 ⟨h.spots.more hg,fun x hx=>(h.above x hx).more hg,fun x hx=>(h.clients x hx).more hg,fun p hp=>(h.taken p hp).more hg,h.few⟩
structure SpOk (s:SlV SpR) (w:World):Prop where
 len:s.l.length≤s.c
 rd:RdV w w.heap.size s.A (s.l.flatMap spV)
 ab:∀x∈s.l,x.above.l.length≤x.above.c∧RdV w w.heap.size x.above.A (x.above.l.map (Value.int .i64))
 cl:∀x∈s.l,x.clients.l.length≤x.clients.c∧RdV w w.heap.size x.clients.A (x.clients.l.map (Value.int .i64))
 few:s.l.length≤1000∧∀x∈s.l,x.above.l.length≤1000∧x.clients.l.length≤1000
theorem SpOk.later {s:SlV SpR} {w0 w:World} {γ:List Nm} {hp:List Res} (h:SpOk s w0) (hS:Sat w0 No γ hp w):SpOk s w:=
 ⟨h.len,Cn h.rd hS,fun x hx=>⟨(h.ab x hx).1,Cn (h.ab x hx).2 hS⟩,fun x hx=>⟨(h.cl x hx).1,Cn (h.cl x hx).2 hS⟩,h.few⟩
theorem SmOk.sp {Fs:List Fct} {r:SmR} {w:World} {B:Nat→Prop} (h:SmOk Fs r) (hk:Known w B Fs):SpOk r.spots w:=by
 have h1:=hk.fw h.spots (fun e=>by rw[e];rfl)
 exact⟨h1.1,h1.2.rd,fun x hx=>by
  have:=hk.fw (h.above x hx) (fun e=>by rw[e];rfl)
  exact⟨this.1,this.2.rd⟩,fun x hx=>by
  have:=hk.fw (h.clients x hx) (fun e=>by rw[e];rfl)
  exact⟨this.1,this.2.rd⟩,h.few⟩
structure SmAt (r:SmR) (w:World) (a:Addr) (xh xt:Value):Prop where
 vr:Vr w (some a) [.int .i64 r.place,.int .i64 r.dim,r.spots.val,xh,xt]
 sp:SpOk r.spots w
structure SmC (r:SmR) (w:World) (a:Addr) (xt:Value):Prop where
 c0:Az w (Ag (some a) 0)=.int .i64 r.place
 c1:Az w (Ag (some a) 1)=.int .i64 r.dim
 c2:Az w (Ag (some a) 2)=.slice r.spots.A r.spots.l.length r.spots.c
 c4:Az w (Ag (some a) 4)=xt
 ok:∀k,k < 5→C5 w No (Ag (some a) k)
theorem SmAt.cells {r:SmR} {w:World} {a:Addr} {xh xt:Value} (h:SmAt r w a xh xt):SmC r w a xt:=
 ⟨(h.vr.cell 0 _ rfl).1,(h.vr.cell 1 _ rfl).1,(h.vr.cell 2 _ rfl).1,(h.vr.cell 4 _ rfl).1,fun k hk=>(h.vr.cell k _ (List.getElem?_eq_getElem (show k < 5 from hk))).2⟩
theorem SmAt.later {r:SmR} {w0 w:World} {a:Addr} {xh xt:Value} {γ:List Nm} {hp:List Res} (h:SmAt r w0 a xh xt) (hS:Sat w0 No γ hp w):SmAt r w a xh xt:=⟨h.vr.later hS.keeps,h.sp.later hS⟩
theorem A1p {w0 w:World} {ow:Nat→Prop} {γ:List Nm} {g:Nat} {r:SmR} {M:List Res} (hS:Sat w0 ow γ (smB g r++M) w) (hs:SpOk r.spots w):nmB γ 0=g∧SmAt r w ⟨g,0,none⟩ (nmS γ 1) (nmS γ 2):=by
 obtain⟨_,h1,_⟩:=hS.holds 0 (.pin g 120 (.c (smA r))) rfl
 refine⟨h1,?_,hs⟩
 have hv:=K9 (k:=0) (t:=120) (c:=.c (smA r)) (vs:=[.int .i64 r.place,.int .i64 r.dim,r.spots.val,nmS γ 1,nmS γ 2]) hS rfl rfl
 rw[h1] at hv
 exact hv
theorem A1q (l:List (Int×Int)) (i:Int):Cr (iE l) i=(Av l i).map fun x=>.a (.v (.int .i64 x)):=by
 induction l with
 |nil=>rfl
 |cons p l ih=>
  show Cr ((p.1,_)::iE l) i=_
  unfold Cr Av
  by_cases h:p.1=i
  ·rw[if_pos h,if_pos h];rfl
  ·rw[if_neg h,if_neg h];exact ih
theorem A1r (l:List (Int×Int)) (i:Int) (x:Int):C7 (iE l) i (.a (.v (.int .i64 x)))=iE (Bp l i x):=by
 induction l with
 |nil=>rfl
 |cons p l ih=>
  show C7 ((p.1,_)::iE l) i _=_
  unfold C7 Bp
  by_cases h:p.1=i
  ·rw[if_pos h,if_pos h,←h];rfl
  ·rw[if_neg h,if_neg h,ih];rfl
theorem Aal (l:List (Int×MgR)) (i:Int):Cr (mgE l) i=(Av l i).map fun x=>.g (mgA x):=by
 induction l with
 |nil=>rfl
 |cons p l ih=>
  show Cr ((p.1,_)::mgE l) i=_
  unfold Cr Av
  by_cases h:p.1=i
  ·rw[if_pos h,if_pos h];rfl
  ·rw[if_neg h,if_neg h];exact ih
theorem A1s (l:List (Int×MgR)) (i:Int) (x:MgR):C7 (mgE l) i (.g (mgA x))=mgE (Bp l i x):=by
 induction l with
 |nil=>rfl
 |cons p l ih=>
  show C7 ((p.1,_)::mgE l) i _=_
  unfold C7 Bp
  by_cases h:p.1=i
  ·rw[if_pos h,if_pos h,←h];rfl
  ·rw[if_neg h,if_neg h,ih];rfl
theorem A1t (n:Nat) (l:List (Int×Int)):G8 n (iE l)=True:=eq_true fun p hp=>by
 obtain⟨q,_,rfl⟩:=List.mem_map.1 hp
 trivial
theorem A1u (n:Nat) (l:List (Int×MgR)):G8 n (mgE l)=True:=eq_true fun p hp=>by
 obtain⟨q,_,rfl⟩:=List.mem_map.1 hp
 exact of_eq_true (Bj q.2 n)
theorem A1v (ρ:List Nat) (l:List (Int×Int)):Ej ρ (iE l)=iE l:=by
 unfold Ej iE
 rw[List.map_map]
 rfl
theorem A1w (ρ:List Nat) (l:List (Int×MgR)):Ej ρ (mgE l)=mgE l:=by
 unfold Ej mgE
 rw[List.map_map]
 exact List.map_congr_left fun p _=>by
  show (p.1,Sc.ren ρ (.g (mgA p.2)))=_
  rw[Ay9]
theorem Qn (j:Nat) (v:Value) (l:List (Int×Int)):Eu j v (iE l)=iE l:=by
 unfold Eu iE
 rw[List.map_map]
 rfl
theorem Qo (j:Nat) (v:Value) (l:List (Int×MgR)):Eu j v (mgE l)=mgE l:=by
 unfold Eu mgE
 rw[List.map_map]
 exact List.map_congr_left fun p _=>by
  show (p.1,Sc.g ((mgA p.2).map (At.sub j v)))=_
  rw[Up]
theorem Qp (a:Nat) (l:List (Int×Int)):Res.av a (.mp .i64 (iE l))=True:=eq_true fun p hp=>by
 obtain⟨q,_,rfl⟩:=List.mem_map.1 hp
 trivial
theorem Qq (a:Nat) (l:List (Int×MgR)):Res.av a (.mp .i64 (mgE l))=True:=eq_true fun p hp=>by
 obtain⟨q,_,rfl⟩:=List.mem_map.1 hp
 exact of_eq_true (Ew q.2 a)
attribute [push_cast] A1t A1u A1v A1w Qn Qo
theorem A1x (r:SmR) (q p:Int):r.s.und q p=(decide (0≤q∧q < r.spots.l.length)&&J0 p (ix r.spots.l q.toNat).above.l):=by
 unfold Sms.und SmR.s
 rw[List.length_map]
 by_cases h:0≤q∧q < r.spots.l.length
 ·have hq:q.toNat < r.spots.l.length:=by omega
  have e:ix (r.spots.l.map SpR.sp) q.toNat=(ix r.spots.l q.toNat).sp:=by
   simp only[ix,List.getD_eq_getElem?_getD,List.getElem?_map,List.getElem?_eq_getElem hq]
   rfl
  rw[decide_eq_true h]
  show (true&&decide (p∈(ix (r.spots.l.map SpR.sp) q.toNat).above))=_
  rw[e]
  rfl
 ·rw[decide_eq_false h,Bool.false_and,Bool.false_and]
attribute [local irreducible] Ad Ae Ah Ar Ak Am Ai Al
attribute [local irreducible] B5 C1 J0 Sms.und
section
variable {w0:World} {ow:Nat→Prop} {hp:List Res} {a b:List Int} {s1 s2:Sv}
set_option maxRecDepth 100000 in
theorem A1y (a b:List Int) (A A2:Option Addr) (c c2:Nat) (w:World) (ha:a.length≤1000000) (hb:b.length≤1000000) (hc:a.length≤c) (hc2:b.length≤c2) (hR:RdV w w.heap.size A (a.map (Value.int .i64))) (hR2:RdV w w.heap.size A2 (b.map (Value.int .i64))):
  Calls Tryz.prog 124 #[.slice A a.length c,.slice A2 b.length c2] w fun e w'=>∃x,e=.returned x∧Own w' w.heap.size 3 x ((B8 a b).map (Value.int .i64))∧Below w.heap.size w w':=by
 refine He (n:=11) Tryz.func124 rfl Tryz.ntmps124 [.x (.a (.v (.slice A a.length c))),.x (.a (.v (.slice A2 b.length c2)))] (by simp) 3 (.i64 (B8 a b)) (fun _=>rfl) ?_
 simp (maxSteps:=10^6) only[push_cast,↓reduceIte,reduceCtorEq,Nat.reduceLT]
 (repeat (refine And.intro (by first|omega|decide) ?_))
 refine Aq rfl K2 rfl (K7 ha (Ci hR _ _ (by simp) hc)) (Af rfl) ?_
 simp (maxSteps:=10^6) only[push_cast,↓reduceIte,reduceCtorEq,Nat.reduceEqDiff,Nat.reduceLT]
 (repeat (refine And.intro (by first|omega|decide) ?_))
 refine Aq rfl K2 rfl (K7 hb (Ci hR2 _ _ (by simp) hc2)) (Af rfl) ?_
 simp (maxSteps:=10^6) only[push_cast,↓reduceIte,Nat.reduceEqDiff,Nat.reduceLT]
 (repeat (refine And.intro (by first|omega|decide) ?_))
 refine Fm rfl Tn rfl (Ua _ (by simp only[push_cast])) (Af rfl) (by simp only[push_cast]) ?_
 have e:C1 (B5 a&&& ~~~ B5 b)=B8 a b:=rfl
 simp (maxSteps:=10^6) only[e,push_cast,↓reduceIte,Nat.reduceLT]
 done
theorem Aam (ha:a.length≤1000000) (hb:b.length≤1000000) (h1:Bi w0 ow hp s1 (a.map (Value.int .i64))) (h2:Bi w0 ow hp s2 (b.map (Value.int .i64))):∀γ w,Sat w0 ow γ hp w→Calls Tryz.prog 124 (List.map (Sv.val γ) [s1,s2]).toArray w fun en w'=>∃v',en=.returned v'∧Own w' w.heap.size 3 v' ((B8 a b).map (Value.int .i64))∧Below w.heap.size w w':=
 Pz (svs:=[]) (Q:=fun w en w'=>∃v',en=.returned v'∧Own w' w.heap.size 3 v' ((B8 a b).map (Value.int .i64))∧Below w.heap.size w w') h1 h2 fun A c A2 c2 w hc hc2 r1 r2=>by
  rw[List.length_map] at hc hc2 ⊢
  rw[List.length_map]
  exact A1y a b A A2 c c2 w ha hb hc hc2 r1 r2
theorem A1z (ha:a.length≤1000000) (hb:b.length≤1000000) (h1:Bi w0 ow hp s1 (a.map (Value.int .i64))) (h2:Bi w0 ow hp s2 (b.map (Value.int .i64))) (hbr:∀r∈hp,Res.bnd hp.length r):
  Ae Tryz.prog w0 ow 124 [s1,s2] hp (.x (.a (.o hp.length))) (hp++[.own 3 (.i64 (B8 a b))]):=
 Id hbr trivial (Aam ha hb h1 h2)
end
set_option maxRecDepth 100000 in
theorem A10 (r:SmR) (a:Addr) {xh xt:Value} (q p:Int) (w:World) (h:SmAt r w a xh xt):Calls Tryz.prog 122 #[.pointer (some a),.int .i64 q,.int .i64 p] w fun e w'=>e=.returned (.bool (r.s.und q p))∧Below w.heap.size w w':=by
 obtain⟨_,_,c2,_,ok⟩:=h.cells
 have k2:=eq_true (ok 2 (by omega))
 have hs:(some a).isSome=true:=rfl
 have hn:(some a).isNone=false:=rfl
 have F:=FLm.of Qm (by decide) h.sp.rd
 have few:=h.sp.few
 refine Ba (n:=30) Tryz.func122 rfl Tryz.ntmps122 [.x (.a (.v (.pointer (some a)))),.x (.a (.v (.int .i64 q))),.x (.a (.v (.int .i64 p)))] (by simp) (.x (.a (.v (.bool (r.s.und q p))))) (fun _=>rfl) ?_
 have hu:=A1x r q p
 by_cases h0:0≤q
 ·by_cases h1:q < r.spots.l.length
  ·rw[decide_eq_true ⟨h0,h1⟩,Bool.true_and] at hu
   obtain⟨i,rfl⟩:=Int.eq_ofNat_of_zero_le h0
   have hil:i < r.spots.l.length:=by omega
   rw[Int.toNat_natCast] at hu
   have hA:=F.some_ (by omega)
   obtain⟨d0,o0⟩:=F.cell i 0 (ix r.spots.l i).above.val hil rfl
   have ab:=h.sp.ab _ (Dr hil)
   have fab:=few.2 _ (Dr hil)
   generalize ix r.spots.l i=x at*
   rw[Nat.add_zero] at d0 o0
   have d0:Az w (Ag r.spots.A (i*3))=.slice x.above.A x.above.l.length x.above.c:=d0
   simp (maxSteps:=10^6) only[c2,k2,hs,h0,h1,d0,o0,hA,B4,Bl,push_cast,↓Int.toNat_natCast,↓reduceIte,reduceCtorEq,Nat.reduceEqDiff,Nat.reduceLT,Nat.reduceAdd]
   (repeat (refine And.intro (by first|omega|decide) ?_))
   refine Aq rfl Avz rfl (A0h p (by omega) (Ci ab.2 _ _ (by simp) ab.1)) (Af rfl) ?_
   simp (maxSteps:=10^6) only[hu,push_cast,↓reduceIte,Nat.reduceEqDiff,Nat.reduceLT]
  ·have hf:¬(0≤q∧q < (r.spots.l.length:Int)):=fun h=>h1 h.2
   rw[decide_eq_false hf,Bool.false_and] at hu
   simp (maxSteps:=10^6) only[c2,k2,hs,h0,h1,hu,undef,push_cast,↓reduceIte,reduceCtorEq,Nat.reduceEqDiff,Nat.reduceLT,Nat.reduceAdd]
 ·have hf:¬(0≤q∧q < (r.spots.l.length:Int)):=fun h=>h0 h.1
  rw[decide_eq_false hf,Bool.false_and] at hu
  simp (maxSteps:=10^6) only[h0,hu,undef,push_cast,↓reduceIte,reduceCtorEq,Nat.reduceEqDiff,Nat.reduceLT,Nat.reduceAdd]
theorem Aan {r:SmR} {a:Addr} {xh xt:Value} {w0:World} {hp:List Res} (q p:Int) (h:SmAt r w0 a xh xt):Ae Tryz.prog w0 No 122 [.x (.a (.v (.pointer (some a)))),.x (.a (.v (.int .i64 q))),.x (.a (.v (.int .i64 p)))] hp (.x (.a (.v (.bool (r.s.und q p))))) hp:=A8 fun γ w hS=>A10 r a q p w (h.later hS)
set_option maxRecDepth 100000 in
theorem A11 (l:List Pr) (A:Option Addr) (c:Nat) (w:World) (hl:l.length≤1000) (hR:RdV w w.heap.size A (pvs l)):
  Calls Tryz.prog 123 #[.slice A l.length c] w fun e w'=>∃v,e=.returned v∧Own w' w.heap.size 3 v ((idsP l).map (Value.int .i64))∧Below w.heap.size w w':=by
 have F:=FLm.of (m:=2) (e:=fun p:Pr=>[.int .i64 p.1,vU64 p.2]) (fun _=>rfl) (by decide) hR
 have hlen:∀i,(idsP (l.take i)).length=(l.take i).length:=fun i=>by unfold idsP;rw[List.length_map]
 refine He (n:=19) Tryz.func123 rfl Tryz.ntmps123 [.x (.a (.v (.slice A l.length c)))] (by simp) 3 (.i64 (idsP l)) (fun _=>rfl) ?_
 simp (maxSteps:=10^6) only[push_cast,↓reduceIte,reduceCtorEq,Nat.reduceLT]
 refine Pa 3 3 (.i64 []) rfl rfl trivial (by simp (maxSteps:=10^6) only[push_cast]) ?_
 simp (maxSteps:=10^6) only[push_cast]
 refine Bh (ι:=Nat) (fun i=>⟨[(3,.x (.a (.o 0))),(6,.x (.a (.v (.slice A l.length c)))),(7,.x (.a (.v (.int .i64 l.length)))),(8,.x (.a (.v (.int .i64 i))))],[.own 3 (.i64 (idsP (l.take i)))]⟩) (fun i=>i≤l.length) (fun i=>l.length - i) 0 [0] (Nat.zero_le _) ?_ ?_
 ·have e0:idsP []=[]:=rfl
  simp (maxSteps:=10^6) only[e0,push_cast,↓Int.cast_ofNat_Int,Int.cast_ofNat_Int,↓reduceIte,Nat.reduceEqDiff,Nat.reduceLT]
 intro i hi
 by_cases hlt:(i:Int) < l.length
 ·have hil:i < l.length:=by omega
  have i0:(0:Int)≤i:=by omega
  obtain⟨w1,w2⟩:=F.whole i hil
  have hA:=F.some_ (by omega)
  have hs:idsP (l.take (i+1))=idsP (l.take i)++[(ix l i).1]:=by
   unfold idsP
   rw[List.take_add_one,List.getElem?_eq_getElem hil,List.map_append]
   simp [ix,List.getD_eq_getElem?_getD,List.getElem?_eq_getElem hil]
  have hl2:=hlen i
  rw[List.length_take] at hl2
  have b1:((idsP (l.take i)).length+1)*8≤140737488355328:=by omega
  have b2:(idsP (l.take i)).length+1≤2 ^ 63 - 1:=by omega
  have nx:(i:Int)+1≤9223372036854775807:=by omega
  generalize ix l i=x at*
  have w1:Cc w (Ag A (i*2)) 2 0=[.v (.int .i64 x.1),.v (vU64 x.2)]:=w1
  simp (maxSteps:=10^6) only[hlt,i0,w1,w2,hA,b1,b2,Bl,undef,push_cast,↓Int.toNat_natCast,↓reduceIte,reduceCtorEq,Nat.reduceEqDiff,Nat.reduceLT,Nat.reduceLeDiff,Nat.reduceAdd,Int.reduceNeg]
  (repeat (refine And.intro (by first|omega|decide) ?_))
  refine Be (i+1) [3] (by omega) (by omega) ?_
  simp (maxSteps:=10^6) only[hs,push_cast,↓reduceIte,Nat.reduceEqDiff,Nat.reduceLT]
 ·have e:i=l.length:=by omega
  subst e
  simp (maxSteps:=10^6) only[hlt,List.take_length,push_cast,↓reduceIte,Nat.reduceEqDiff,Nat.reduceLT]
theorem Aao {l:List Pr} {w0:World} {ow:Nat→Prop} {hp:List Res} {sv:Sv} (hl:l.length≤1000) (h:Gq w0 ow hp sv l.length (pvs l)):∀γ w,Sat w0 ow γ hp w→Calls Tryz.prog 123 (List.map (Sv.val γ) [sv]).toArray w fun en w'=>∃v',en=.returned v'∧Own w' w.heap.size 3 v' ((idsP l).map (Value.int .i64))∧Below w.heap.size w w':=fun γ w hS=>by
 obtain⟨A,c,e1,b1,r1⟩:=h γ w hS
 show Calls _ _ #[sv.val γ] w _
 rw[e1]
 exact A11 l A c w hl r1
theorem Aap {l:List Pr} {w0:World} {ow:Nat→Prop} {hp:List Res} {sv:Sv} (hl:l.length≤1000) (h:Gq w0 ow hp sv l.length (pvs l)) (hbr:∀r∈hp,Res.bnd hp.length r):
  Ae Tryz.prog w0 ow 123 [sv] hp (.x (.a (.o hp.length))) (hp++[.own 3 (.i64 (idsP l))]):=Id hbr trivial (Aao hl h)
end Go.Proofs.YtedaafmfjhjfmaaGreatDoor
