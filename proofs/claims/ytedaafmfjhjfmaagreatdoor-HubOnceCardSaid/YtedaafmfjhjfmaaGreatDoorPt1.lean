import Derived.Test.YtedaafmfjhjfmaaGreatDoorPt0
import Derived.Test.YtedaafmfjhjfmaaGreatDoorLw3
/- Layer 29 walked: set.Less; Sums as they lie there; under, ids. -/
namespace Go.Proofs.YtedaafmfjhjfmaaGreatDoor
open _root_.Go.Proofs.Tryz
open Go.RowKit
set_option linter.unusedSimpArgs false
set_option linter.unusedVariables false
structure SpR where
 above:SlV Int
 clients:SlV Int
 need:Int
instance:Inhabited SpR:=⟨⟨default,default,0⟩⟩
def spV (s:SpR):List Value:=[s.above.val,s.clients.val,.int .i64 s.need]
theorem St (s:SpR):(spV s).length=3:=rfl
def SpR.sp (s:SpR):Spt:=⟨s.above.l,s.clients.l,s.need⟩
structure SmR where
 place:Int
 dim:Int
 spots:SlV SpR
 heard:List (Int×Int)
 taken:List (Int×MgR)
def SmR.s (r:SmR):Sms:=⟨r.place,r.dim,r.spots.l.map SpR.sp,r.heard,Bw MgR.mg r.taken⟩
def iE (l:List (Int×Int)):List (Int×Sc):=l.map fun p=>(p.1,.a (.v (.int .i64 p.2)))
def mgE (l:List (Int×MgR)):List (Int×Sc):=l.map fun p=>(p.1,.g (mgA p.2))
def smA (r:SmR):List At:=[.v (.int .i64 r.place),.v (.int .i64 r.dim),.v r.spots.val,.o 1,.o 2]
def smB (g:Nat) (r:SmR):List Res:=[.pin g 120 (.c (smA r)),.mp .i64 (iE r.heard),.mp .i64 (mgE r.taken)]
structure SmOk (Fs:List Fct) (r:SmR):Prop where
 spots:SlF Fs r.spots (r.spots.l.flatMap spV)
 above:∀x∈r.spots.l,SlF Fs x.above (x.above.l.map (Value.int .i64))
 clients:∀x∈r.spots.l,SlF Fs x.clients (x.clients.l.map (Value.int .i64))
 taken:∀p∈r.taken,MOk Fs p.2
 few:r.spots.l.length≤1000∧∀x∈r.spots.l,x.above.l.length≤1000∧x.clients.l.length≤1000
theorem SmOk.more {Fs Gs:List Fct} {r:SmR} (h:SmOk Fs r) (hg:∀f∈Fs,f∈Gs):SmOk Gs r:=
 ⟨h.spots.more hg,fun x hx=>(h.above x hx).more hg,fun x hx=>(h.clients x hx).more hg,fun p hp=>(h.taken p hp).more hg,h.few⟩
structure SpOk (s:SlV SpR) (w:World):Prop where
 len:s.l.length≤s.c
 rd:RdV w w.heap.size s.A (s.l.flatMap spV)
 ab:∀x∈s.l,x.above.l.length≤x.above.c∧RdV w w.heap.size x.above.A (x.above.l.map (Value.int .i64))
 cl:∀x∈s.l,x.clients.l.length≤x.clients.c∧RdV w w.heap.size x.clients.A (x.clients.l.map (Value.int .i64))
 few:s.l.length≤1000∧∀x∈s.l,x.above.l.length≤1000∧x.clients.l.length≤1000
theorem SpOk.later {s:SlV SpR} {w0 w:World} {γ:List Nm} {hp:List Res} (h:SpOk s w0) (hS:Sat w0 No γ hp w):SpOk s w:=
 ⟨h.len,C5 h.rd hS,fun x hx=>⟨(h.ab x hx).1,C5 (h.ab x hx).2 hS⟩,fun x hx=>⟨(h.cl x hx).1,C5 (h.cl x hx).2 hS⟩,h.few⟩
theorem SmOk.sp {Fs:List Fct} {r:SmR} {w:World} {B:Nat→Prop} (h:SmOk Fs r) (hk:Known w B Fs):SpOk r.spots w:=by
 have h1:=hk.fw h.spots (fun e=>by rw[e];rfl)
 exact⟨h1.1,h1.2.rd,fun x hx=>by
  have:=hk.fw (h.above x hx) (fun e=>by rw[e];rfl)
  exact⟨this.1,this.2.rd⟩,fun x hx=>by
  have:=hk.fw (h.clients x hx) (fun e=>by rw[e];rfl)
  exact⟨this.1,this.2.rd⟩,h.few⟩
structure SmAt (r:SmR) (w:World) (a:Addr) (xh xt:Value):Prop where
 vr:Vr w (some a) [.int .i64 r.place,.int .i64 r.dim,r.spots.val,xh,xt]
 sp:SpOk r.spots w
structure SmC (r:SmR) (w:World) (a:Addr) (xt:Value):Prop where
 c0:A7 w (Af (some a) 0)=.int .i64 r.place
 c1:A7 w (Af (some a) 1)=.int .i64 r.dim
 c2:A7 w (Af (some a) 2)=.slice r.spots.A r.spots.l.length r.spots.c
 c4:A7 w (Af (some a) 4)=xt
 ok:∀k,k < 5→Cu w No (Af (some a) k)
theorem SmAt.cells {r:SmR} {w:World} {a:Addr} {xh xt:Value} (h:SmAt r w a xh xt):SmC r w a xt:=
 ⟨(h.vr.cell 0 _ rfl).1,(h.vr.cell 1 _ rfl).1,(h.vr.cell 2 _ rfl).1,(h.vr.cell 4 _ rfl).1,fun k hk=>(h.vr.cell k _ (List.getElem?_eq_getElem (show k < 5 from hk))).2⟩
theorem SmAt.later {r:SmR} {w0 w:World} {a:Addr} {xh xt:Value} {γ:List Nm} {hp:List Res} (h:SmAt r w0 a xh xt) (hS:Sat w0 No γ hp w):SmAt r w a xh xt:=⟨h.vr.later hS.keeps,h.sp.later hS⟩
theorem Aug {w0 w:World} {ow:Nat→Prop} {γ:List Nm} {g:Nat} {r:SmR} {M:List Res} (hS:Sat w0 ow γ (smB g r++M) w) (hs:SpOk r.spots w):nmB γ 0=g∧SmAt r w ⟨g,0,none⟩ (nmS γ 1) (nmS γ 2):=by
 obtain⟨_,h1,_⟩:=hS.holds 0 (.pin g 120 (.c (smA r))) rfl
 refine⟨h1,?_,hs⟩
 have hv:=K8 (k:=0) (t:=120) (c:=.c (smA r)) (vs:=[.int .i64 r.place,.int .i64 r.dim,r.spots.val,nmS γ 1,nmS γ 2]) hS rfl rfl
 rw[h1] at hv
 exact hv
theorem Auh (l:List (Int×Int)) (i:Int):Co (iE l) i=(Az l i).map fun x=>.a (.v (.int .i64 x)):=by
 induction l with
 |nil=>rfl
 |cons p l ih=>
  show Co ((p.1,_)::iE l) i=_
  unfold Co Az
  by_cases h:p.1=i
  ·rw[if_pos h,if_pos h];rfl
  ·rw[if_neg h,if_neg h];exact ih
theorem Aui (l:List (Int×Int)) (i:Int) (x:Int):C3 (iE l) i (.a (.v (.int .i64 x)))=iE (Bv l i x):=by
 induction l with
 |nil=>rfl
 |cons p l ih=>
  show C3 ((p.1,_)::iE l) i _=_
  unfold C3 Bv
  by_cases h:p.1=i
  ·rw[if_pos h,if_pos h,←h];rfl
  ·rw[if_neg h,if_neg h,ih];rfl
theorem Adh (l:List (Int×MgR)) (i:Int):Co (mgE l) i=(Az l i).map fun x=>.g (mgA x):=by
 induction l with
 |nil=>rfl
 |cons p l ih=>
  show Co ((p.1,_)::mgE l) i=_
  unfold Co Az
  by_cases h:p.1=i
  ·rw[if_pos h,if_pos h];rfl
  ·rw[if_neg h,if_neg h];exact ih
theorem Auj (l:List (Int×MgR)) (i:Int) (x:MgR):C3 (mgE l) i (.g (mgA x))=mgE (Bv l i x):=by
 induction l with
 |nil=>rfl
 |cons p l ih=>
  show C3 ((p.1,_)::mgE l) i _=_
  unfold C3 Bv
  by_cases h:p.1=i
  ·rw[if_pos h,if_pos h,←h];rfl
  ·rw[if_neg h,if_neg h,ih];rfl
theorem Auk (n:Nat) (l:List (Int×Int)):Lp n (iE l)=True:=eq_true fun p hp=>by
 obtain⟨q,_,rfl⟩:=List.mem_map.1 hp
 trivial
theorem Aul (n:Nat) (l:List (Int×MgR)):Lp n (mgE l)=True:=eq_true fun p hp=>by
 obtain⟨q,_,rfl⟩:=List.mem_map.1 hp
 exact of_eq_true (A8 q.2 n)
theorem Aum (ρ:List Nat) (l:List (Int×Int)):F9 ρ (iE l)=iE l:=by
 unfold F9 iE
 rw[List.map_map]
 rfl
theorem Aun (ρ:List Nat) (l:List (Int×MgR)):F9 ρ (mgE l)=mgE l:=by
 unfold F9 mgE
 rw[List.map_map]
 exact List.map_congr_left fun p _=>by
  show (p.1,Sc.ren ρ (.g (mgA p.2)))=_
  rw[Art]
theorem Ie (j:Nat) (v:Value) (l:List (Int×Int)):Gq j v (iE l)=iE l:=by
 unfold Gq iE
 rw[List.map_map]
 rfl
theorem If (j:Nat) (v:Value) (l:List (Int×MgR)):Gq j v (mgE l)=mgE l:=by
 unfold Gq mgE
 rw[List.map_map]
 exact List.map_congr_left fun p _=>by
  show (p.1,Sc.g ((mgA p.2).map (At.sub j v)))=_
  rw[J0]
attribute [push_cast] Auk Aul Aum Aun Ie If
theorem Auo (r:SmR) (q p:Int):r.s.und q p=(decide (0≤q∧q < r.spots.l.length)&&Em p (ix r.spots.l q.toNat).above.l):=by
 unfold Sms.und SmR.s
 rw[List.length_map]
 by_cases h:0≤q∧q < r.spots.l.length
 ·have hq:q.toNat < r.spots.l.length:=by omega
  have e:ix (r.spots.l.map SpR.sp) q.toNat=(ix r.spots.l q.toNat).sp:=by
   simp only[ix,List.getD_eq_getElem?_getD,List.getElem?_map,List.getElem?_eq_getElem hq]
   rfl
  rw[decide_eq_true h]
  show (true&&decide (p∈(ix (r.spots.l.map SpR.sp) q.toNat).above))=_
  rw[e]
  rfl
 ·rw[decide_eq_false h,Bool.false_and,Bool.false_and]
attribute [local irreducible] Ac Ad Ah Au Ao Aj Ai Al
attribute [local irreducible] Cj Di Em Sms.und
section
variable {w0:World} {ow:Nat→Prop} {hp:List Res} {a b:List Int} {s1 s2:Sv}
set_option maxRecDepth 100000 in
theorem Aup (a b:List Int) (A A2:Option Addr) (c c2:Nat) (w:World) (ha:a.length≤1000000) (hb:b.length≤1000000) (hc:a.length≤c) (hc2:b.length≤c2) (hR:RdV w w.heap.size A (a.map (Value.int .i64))) (hR2:RdV w w.heap.size A2 (b.map (Value.int .i64))):
  Calls prog 124 #[.slice A a.length c,.slice A2 b.length c2] w fun e w'=>∃x,e=.returned x∧Own w' w.heap.size 3 x ((Cs a b).map (Value.int .i64))∧Below w.heap.size w w':=by
 refine Iu (n:=11) func124 rfl ntmps124 [.x (.a (.v (.slice A a.length c))),.x (.a (.v (.slice A2 b.length c2)))] (by simp) 3 (.i64 (Cs a b)) (fun _=>rfl) ?_
 simp (maxSteps:=10^6) only[push_cast,↓reduceIte,reduceCtorEq,Nat.reduceLT]
 (repeat (refine And.intro (by first|omega|decide) ?_))
 refine Am rfl Kx rfl (K7 ha (B4 hR _ _ (by simp) hc)) (Aa rfl) ?_
 simp (maxSteps:=10^6) only[push_cast,↓reduceIte,reduceCtorEq,Nat.reduceEqDiff,Nat.reduceLT]
 (repeat (refine And.intro (by first|omega|decide) ?_))
 refine Am rfl Kx rfl (K7 hb (B4 hR2 _ _ (by simp) hc2)) (Aa rfl) ?_
 simp (maxSteps:=10^6) only[push_cast,↓reduceIte,Nat.reduceEqDiff,Nat.reduceLT]
 (repeat (refine And.intro (by first|omega|decide) ?_))
 refine Gl rfl Vg rfl (V6 _ (by simp only[push_cast])) (Aa rfl) (by simp only[push_cast]) ?_
 have e:Di (Cj a&&& ~~~ Cj b)=Cs a b:=rfl
 simp (maxSteps:=10^6) only[e,push_cast,↓reduceIte,Nat.reduceLT]
 done
theorem Adi (ha:a.length≤1000000) (hb:b.length≤1000000) (h1:Bg w0 ow hp s1 (a.map (Value.int .i64))) (h2:Bg w0 ow hp s2 (b.map (Value.int .i64))):∀γ w,Sat w0 ow γ hp w→Calls prog 124 (List.map (Sv.val γ) [s1,s2]).toArray w fun en w'=>∃v',en=.returned v'∧Own w' w.heap.size 3 v' ((Cs a b).map (Value.int .i64))∧Below w.heap.size w w':=
 Mk (svs:=[]) (Q:=fun w en w'=>∃v',en=.returned v'∧Own w' w.heap.size 3 v' ((Cs a b).map (Value.int .i64))∧Below w.heap.size w w') h1 h2 fun A c A2 c2 w hc hc2 r1 r2=>by
  rw[List.length_map] at hc hc2 ⊢
  rw[List.length_map]
  exact Aup a b A A2 c c2 w ha hb hc hc2 r1 r2
theorem Auq (ha:a.length≤1000000) (hb:b.length≤1000000) (h1:Bg w0 ow hp s1 (a.map (Value.int .i64))) (h2:Bg w0 ow hp s2 (b.map (Value.int .i64))) (hbr:∀r∈hp,Res.bnd hp.length r):
  Ad prog w0 ow 124 [s1,s2] hp (.x (.a (.o hp.length))) (hp++[.own 3 (.i64 (Cs a b))]):=
 Ip hbr trivial (Adi ha hb h1 h2)
end
set_option maxRecDepth 100000 in
theorem Aur (r:SmR) (a:Addr) {xh xt:Value} (q p:Int) (w:World) (h:SmAt r w a xh xt):Calls prog 122 #[.pointer (some a),.int .i64 q,.int .i64 p] w fun e w'=>e=.returned (.bool (r.s.und q p))∧Below w.heap.size w w':=by
 obtain⟨_,_,c2,_,ok⟩:=h.cells
 have k2:=eq_true (ok 2 (by omega))
 have hs:(some a).isSome=true:=rfl
 have hn:(some a).isNone=false:=rfl
 have F:=FLm.of St (by decide) h.sp.rd
 have few:=h.sp.few
 refine Bf (n:=30) func122 rfl ntmps122 [.x (.a (.v (.pointer (some a)))),.x (.a (.v (.int .i64 q))),.x (.a (.v (.int .i64 p)))] (by simp) (.x (.a (.v (.bool (r.s.und q p))))) (fun _=>rfl) ?_
 have hu:=Auo r q p
 by_cases h0:0≤q
 ·by_cases h1:q < r.spots.l.length
  ·rw[decide_eq_true ⟨h0,h1⟩,Bool.true_and] at hu
   obtain⟨i,rfl⟩:=Int.eq_ofNat_of_zero_le h0
   have hil:i < r.spots.l.length:=by omega
   rw[Int.toNat_natCast] at hu
   have hA:=F.some_ (by omega)
   obtain⟨d0,o0⟩:=F.cell i 0 (ix r.spots.l i).above.val hil rfl
   have ab:=h.sp.ab _ (Ez hil)
   have fab:=few.2 _ (Ez hil)
   generalize ix r.spots.l i=x at*
   rw[Nat.add_zero] at d0 o0
   have d0:A7 w (Af r.spots.A (i*3))=.slice x.above.A x.above.l.length x.above.c:=d0
   simp (maxSteps:=10^6) only[c2,k2,hs,h0,h1,d0,o0,hA,Ce,Bp,push_cast,↓Int.toNat_natCast,↓reduceIte,reduceCtorEq,Nat.reduceEqDiff,Nat.reduceLT,Nat.reduceAdd]
   (repeat (refine And.intro (by first|omega|decide) ?_))
   refine Am rfl Kw rfl (Lb p (by omega) (B4 ab.2 _ _ (by simp) ab.1)) (Aa rfl) ?_
   simp (maxSteps:=10^6) only[hu,push_cast,↓reduceIte,Nat.reduceEqDiff,Nat.reduceLT]
  ·have hf:¬(0≤q∧q < (r.spots.l.length:Int)):=fun h=>h1 h.2
   rw[decide_eq_false hf,Bool.false_and] at hu
   simp (maxSteps:=10^6) only[c2,k2,hs,h0,h1,hu,undef,push_cast,↓reduceIte,reduceCtorEq,Nat.reduceEqDiff,Nat.reduceLT,Nat.reduceAdd]
 ·have hf:¬(0≤q∧q < (r.spots.l.length:Int)):=fun h=>h0 h.1
  rw[decide_eq_false hf,Bool.false_and] at hu
  simp (maxSteps:=10^6) only[h0,hu,undef,push_cast,↓reduceIte,reduceCtorEq,Nat.reduceEqDiff,Nat.reduceLT,Nat.reduceAdd]
theorem Adj {r:SmR} {a:Addr} {xh xt:Value} {w0:World} {hp:List Res} (q p:Int) (h:SmAt r w0 a xh xt):Ad prog w0 No 122 [.x (.a (.v (.pointer (some a)))),.x (.a (.v (.int .i64 q))),.x (.a (.v (.int .i64 p)))] hp (.x (.a (.v (.bool (r.s.und q p))))) hp:=Bc fun γ w hS=>Aur r a q p w (h.later hS)
set_option maxRecDepth 100000 in
theorem Aus (l:List Pr) (A:Option Addr) (c:Nat) (w:World) (hl:l.length≤1000) (hR:RdV w w.heap.size A (pvs l)):
  Calls prog 123 #[.slice A l.length c] w fun e w'=>∃v,e=.returned v∧Own w' w.heap.size 3 v ((idsP l).map (Value.int .i64))∧Below w.heap.size w w':=by
 have F:=FLm.of (m:=2) (e:=fun p:Pr=>[.int .i64 p.1,vU64 p.2]) (fun _=>rfl) (by decide) hR
 have hlen:∀i,(idsP (l.take i)).length=(l.take i).length:=fun i=>by unfold idsP;rw[List.length_map]
 refine Iu (n:=19) func123 rfl ntmps123 [.x (.a (.v (.slice A l.length c)))] (by simp) 3 (.i64 (idsP l)) (fun _=>rfl) ?_
 simp (maxSteps:=10^6) only[push_cast,↓reduceIte,reduceCtorEq,Nat.reduceLT]
 refine L8 3 3 (.i64 []) rfl rfl trivial (by simp (maxSteps:=10^6) only[push_cast]) ?_
 simp (maxSteps:=10^6) only[push_cast]
 refine Bj (ι:=Nat) (fun i=>⟨[(3,.x (.a (.o 0))),(6,.x (.a (.v (.slice A l.length c)))),(7,.x (.a (.v (.int .i64 l.length)))),(8,.x (.a (.v (.int .i64 i))))],[.own 3 (.i64 (idsP (l.take i)))]⟩) (fun i=>i≤l.length) (fun i=>l.length - i) 0 [0] (Nat.zero_le _) ?_ ?_
 ·have e0:idsP []=[]:=rfl
  simp (maxSteps:=10^6) only[e0,push_cast,↓Int.cast_ofNat_Int,Int.cast_ofNat_Int,↓reduceIte,Nat.reduceEqDiff,Nat.reduceLT]
 intro i hi
 by_cases hlt:(i:Int) < l.length
 ·have hil:i < l.length:=by omega
  have i0:(0:Int)≤i:=by omega
  obtain⟨w1,w2⟩:=F.whole i hil
  have hA:=F.some_ (by omega)
  have hs:idsP (l.take (i+1))=idsP (l.take i)++[(ix l i).1]:=by
   unfold idsP
   rw[List.take_add_one,List.getElem?_eq_getElem hil,List.map_append]
   simp [ix,List.getD_eq_getElem?_getD,List.getElem?_eq_getElem hil]
  have hl2:=hlen i
  rw[List.length_take] at hl2
  have b1:((idsP (l.take i)).length+1)*8≤140737488355328:=by omega
  have b2:(idsP (l.take i)).length+1≤2 ^ 63 - 1:=by omega
  have nx:(i:Int)+1≤9223372036854775807:=by omega
  generalize ix l i=x at*
  have w1:Cl w (Af A (i*2)) 2 0=[.v (.int .i64 x.1),.v (vU64 x.2)]:=w1
  simp (maxSteps:=10^6) only[hlt,i0,w1,w2,hA,b1,b2,Bp,undef,push_cast,↓Int.toNat_natCast,↓reduceIte,reduceCtorEq,Nat.reduceEqDiff,Nat.reduceLT,Nat.reduceLeDiff,Nat.reduceAdd,Int.reduceNeg]
  (repeat (refine And.intro (by first|omega|decide) ?_))
  refine Ba (i+1) [3] (by omega) (by omega) ?_
  simp (maxSteps:=10^6) only[hs,push_cast,↓reduceIte,Nat.reduceEqDiff,Nat.reduceLT]
 ·have e:i=l.length:=by omega
  subst e
  simp (maxSteps:=10^6) only[hlt,List.take_length,push_cast,↓reduceIte,Nat.reduceEqDiff,Nat.reduceLT]
theorem Adk {l:List Pr} {w0:World} {ow:Nat→Prop} {hp:List Res} {sv:Sv} (hl:l.length≤1000) (h:Hx w0 ow hp sv l.length (pvs l)):∀γ w,Sat w0 ow γ hp w→Calls prog 123 (List.map (Sv.val γ) [sv]).toArray w fun en w'=>∃v',en=.returned v'∧Own w' w.heap.size 3 v' ((idsP l).map (Value.int .i64))∧Below w.heap.size w w':=fun γ w hS=>by
 obtain⟨A,c,e1,b1,r1⟩:=h γ w hS
 show Calls _ _ #[sv.val γ] w _
 rw[e1]
 exact Aus l A c w hl r1
theorem Adl {l:List Pr} {w0:World} {ow:Nat→Prop} {hp:List Res} {sv:Sv} (hl:l.length≤1000) (h:Hx w0 ow hp sv l.length (pvs l)) (hbr:∀r∈hp,Res.bnd hp.length r):
  Ad prog w0 ow 123 [sv] hp (.x (.a (.o hp.length))) (hp++[.own 3 (.i64 (idsP l))]):=Ip hbr trivial (Adk hl h)
end Go.Proofs.YtedaafmfjhjfmaaGreatDoor
