import Derived.Test.YtedaafmfjhjfmaaGreatDoorLw4
/- Layer 28 walked: slices.Index and Contains; the function that makes a box's message. -/
namespace Go.Proofs.YtedaafmfjhjfmaaGreatDoor
open Go.RowKit
set_option linter.unusedSimpArgs false
set_option linter.unusedVariables false
attribute [local irreducible] Ah Ai Am Bc A7 Ay Ap A6
def H5 (l:List Int) (x:Int):Int:=if x∈l then (F5 l x:Int) else -1
theorem A3s {l:List Int} {x:Int} {i:Nat} (hi:i < l.length) (h1:∀j,j < i→ix l j≠x) (h2:ix l i=x):H5 l x=i:=by
 have e:∀j,j < l.length→ix l j=l[j]!:=fun j hj=>by
  unfold ix
  rw[List.getD_eq_getElem?_getD,List.getElem?_eq_getElem hj,getElem!_pos l j hj]
  rfl
 have hx:x∈l:=by
  rw[←h2,e i hi,getElem!_pos l i hi]
  exact List.getElem_mem hi
 unfold H5
 rw[if_pos hx]
 have:F5 l x=i:=by
  unfold F5
  rw[List.findIdx_eq hi]
  refine⟨?_,fun j hj=>?_⟩
  ·rw[decide_eq_true_eq,←h2,e i hi,getElem!_pos l i hi]
  ·have:=h1 j hj
   rw[e j (by omega),getElem!_pos l j (by omega)] at this
   exact decide_eq_false this
 rw[this]
theorem A3t {l:List Int} {x:Int} (h1:∀j,j < l.length→ix l j≠x):H5 l x=-1:=by
 unfold H5
 rw[if_neg]
 intro h
 obtain⟨j,hj,e⟩:=List.mem_iff_getElem.1 h
 refine h1 j hj ?_
 unfold ix
 rw[List.getD_eq_getElem?_getD,List.getElem?_eq_getElem hj]
 exact e
set_option maxRecDepth 100000 in
theorem A3u (l:List Int) (x:Int) (A:Option Addr) (c:Nat) (w:World) (hl:l.length≤1000) (hR:RdV w w.heap.size A (l.map (Value.int .i64))):
  Calls Tryz.prog 121 #[.slice A l.length c,.int .i64 x] w fun e w'=>e=.returned (.int .i64 (H5 l x))∧Below w.heap.size w w':=by
 have F:=FM.of hR
 refine Bm (n:=19) Tryz.func121 rfl Tryz.ntmps121 [.x (.a (.v (.slice A l.length c))),.x (.a (.v (.int .i64 x)))] (by simp) (.x (.a (.v (.int .i64 (H5 l x))))) (fun _=>rfl) ?_
 simp (maxSteps:=10^6) only[push_cast,↓reduceIte,reduceCtorEq,Nat.reduceLT,Int.reduceNeg]
 refine B9 (ι:=Nat) (fun i=>⟨[(0,.x (.a (.v (.slice A l.length c)))),(1,.x (.a (.v (.int .i64 x)))),(7,.x (.a (.v (.int .i64 l.length)))),(8,.x (.a (.v (.int .i64 (i:Nat)))))],[]⟩) (fun i=>i≤l.length∧∀j,j < i→ix l j≠x) (fun i=>l.length - i) 0 [] ⟨Nat.zero_le _,fun j hj=>absurd hj (Nat.not_lt_zero _)⟩ ?_ ?_
 ·simp (maxSteps:=10^6) only[push_cast,↓Int.cast_ofNat_Int,Int.cast_ofNat_Int,↓reduceIte,reduceCtorEq,Nat.reduceEqDiff]
 rintro i ⟨hi,hk⟩
 by_cases hlt:(i:Int) < l.length
 ·have hil:i < l.length:=by omega
  have i0:(0:Int)≤i:=by omega
  have c0:=F.cell i hil
  have o0:=F.ok i hil
  have hA:=F.some_ (by omega)
  have nx:(i:Int)+1≤9223372036854775807:=by omega
  by_cases hx:x=ix l i
  ·have e:=A3s hil hk hx.symm
   rw[e]
   simp (maxSteps:=10^6) only[hlt,i0,c0,o0,hA,←hx,push_cast,↓Int.toNat_natCast,↓reduceIte,reduceCtorEq,Nat.reduceEqDiff,Nat.reduceLT,Int.reduceNeg]
   done
  ·simp (maxSteps:=10^6) only[hlt,i0,c0,o0,hA,hx,nx,push_cast,↓Int.toNat_natCast,↓reduceIte,reduceCtorEq,Nat.reduceEqDiff,Nat.reduceLT,Int.reduceNeg]
   (repeat (refine And.intro (by first|omega|decide) ?_))
   refine Bv (i+1) [] ⟨by omega,fun j hj=>?_⟩ (by omega) ?_
   ·rcases Nat.lt_or_ge j i with h|h
    ·exact hk j h
    ·obtain rfl:j=i:=by omega
     exact fun e=>hx e.symm
   ·simp (maxSteps:=10^6) only[push_cast,↓reduceIte,reduceCtorEq,Nat.reduceEqDiff]
 ·obtain rfl:i=l.length:=by omega
  have e:=A3t hk
  rw[e]
  simp (maxSteps:=10^6) only[hlt,push_cast,↓reduceIte,reduceCtorEq,Nat.reduceEqDiff,Nat.reduceLT,Int.reduceNeg]
  done
theorem Ab2 {w0:World} {ow:Nat→Prop} {hp:List Res} {sv:Sv} {l:List Int} (x:Int) (hl:l.length≤1000) (h:B3 w0 ow hp sv (l.map (Value.int .i64))):Ai Tryz.prog w0 ow 121 [sv,.x (.a (.v (.int .i64 x)))] hp (.x (.a (.v (.int .i64 (H5 l x))))) hp:=Bq fun γ w hS=>by
 obtain⟨A,c,e1,b1,r1⟩:=h γ w hS
 rw[List.length_map] at e1
 show Calls _ _ #[sv.val γ,_] w _
 rw[e1]
 exact A3u l x A c w hl r1
set_option maxRecDepth 100000 in
theorem A3v (l:List Int) (x:Int) (A:Option Addr) (c:Nat) (w:World) (hl:l.length≤1000) (hc:l.length≤c) (hR:RdV w w.heap.size A (l.map (Value.int .i64))):
  Calls Tryz.prog 62 #[.slice A l.length c,.int .i64 x] w fun e w'=>e=.returned (.bool (decide (x∈l)))∧Below w.heap.size w w':=by
 refine Bm (n:=9) Tryz.func62 rfl Tryz.ntmps62 [.x (.a (.v (.slice A l.length c))),.x (.a (.v (.int .i64 x)))] (by simp) (.x (.a (.v (.bool (decide (x∈l)))))) (fun _=>rfl) ?_
 simp (maxSteps:=10^6) only[push_cast,↓reduceIte,reduceCtorEq,Nat.reduceEqDiff,Nat.reduceLT]
 (repeat (refine And.intro (by first|omega|decide) ?_))
 refine Al rfl Zt rfl (Ab2 (l:=l) x hl (Bt hR _ _ (by simp) hc)) (Ae rfl) ?_
 by_cases hx:x∈l
 ·have e:H5 l x=(F5 l x:Int):=if_pos hx
  have h0:(0:Int)≤F5 l x:=by omega
  rw[e]
  simp (maxSteps:=10^6) only[hx,h0,push_cast,↓reduceIte,Nat.reduceLT]
 ·have e:H5 l x=-1:=if_neg hx
  rw[e]
  simp (maxSteps:=10^6) only[hx,push_cast,↓reduceIte,Nat.reduceLT,Int.reduceNeg,Int.reduceLE]
theorem A3w {w0:World} {ow:Nat→Prop} {hp:List Res} {sv:Sv} {l:List Int} (x:Int) (hl:l.length≤1000) (h:B3 w0 ow hp sv (l.map (Value.int .i64))):Ai Tryz.prog w0 ow 62 [sv,.x (.a (.v (.int .i64 x)))] hp (.x (.a (.v (.bool (decide (x∈l)))))) hp:=Bq fun γ w hS=>by
 obtain⟨A,c,e1,b1,r1⟩:=h γ w hS
 rw[List.length_map] at e1 b1
 show Calls _ _ #[sv.val γ,_] w _
 rw[e1]
 exact A3v l x A c w hl b1 r1
theorem Ab3 (s:LfS) (ids:List Int) (i:Nat) (hi:i < ids.length) (id:Int) {x:List UInt64} (hx:Aq s.boxes (ix ids i)=some x):s.boxOf (ids.take (i+1)) id=s.boxOf (ids.take i) id++(x.drop (2*F5 s.joined id)).take 2:=by
 unfold LfS.boxOf
 rw[List.take_add_one,List.getElem?_eq_getElem hi,List.flatMap_append]
 congr 1
 have e:ids[i]=ix ids i:=by
  unfold ix
  rw[List.getD_eq_getElem?_getD,List.getElem?_eq_getElem hi]
  rfl
 show List.flatMap _ [ids[i]]=_
 rw[List.flatMap_cons,List.flatMap_nil,List.append_nil,e,hx]
 rfl
def Ab4 (r:LfR) (ids:List Int) (w:World):Prop:=∀f∈ids,∃x,Aq r.boxes f=some x∧x.l.length=2*r.joined.l.length∧x.l.length≤x.c∧RdV w w.heap.size x.A (x.l.map vU64)
set_option maxRecDepth 100000 in
theorem A3x (r:LfR) (a b b2:Addr) {t xp xb xr:Value} (id:Int) (ids:SlV Int) (w:World) (h:LfAt r w a t xp xb xr) (hph:r.live=true) (hsm:r.sum.sm.length=32) (hb:Vr w (some b) [.pointer (some a)]) (hb2:Vr w (some b2) [ids.val]) (hj:r.joined.l.length≤r.joined.c∧RdV w w.heap.size r.joined.A (r.joined.l.map (Value.int .i64))) (hl:r.joined.l.length≤500) (hid:id∈r.joined.l)
  (hi:ids.l.length≤ids.c∧RdV w w.heap.size ids.A (ids.l.map (Value.int .i64))) (hil:ids.l.length≤500) (hbx:Ab4 r ids.l w):
  Calls Tryz.prog 153 #[.int .i64 id,.pointer (some b),.pointer (some b2)] w (Kz w {Cp 4 with pl:=0,ge:=r.gen,ids:=ids.l,ns:=r.s.boxOf ids.l id}):=by
 obtain⟨c0,c1,c2,c5,c8,c11,c12,c13,c7,c9,ok,_⟩:=h.cells hsm
 have k1:=eq_true (ok 1 (by omega))
 have k11:=eq_true (ok 11 (by omega))
 have k13:=eq_true (ok 13 (by omega))
 have hs:(some a).isSome=true:=rfl
 have hn:(some a).isNone=false:=rfl
 have hsb:(some b).isSome=true:=rfl
 have vj:r.joined.val=.slice r.joined.A r.joined.l.length r.joined.c:=rfl
 have vi:ids.val=.slice ids.A ids.l.length ids.c:=rfl
 obtain⟨b0,o0⟩:=hb.cell 0 _ rfl
 have b0:Be w (some b)=.pointer (some a):=by rw[←b0,Bx]
 have o0:B6 w No (some b)=True:=eq_true (by rw[Bx] at o0;exact o0)
 obtain⟨b1,o1⟩:=hb2.cell 0 _ rfl
 have b1:Be w (some b2)=ids.val:=by rw[←b1,Bx]
 have o1:B6 w No (some b2)=True:=eq_true (by rw[Bx] at o1;exact o1)
 have raw:=eq_true (h.box hph).raw
 have hin:H5 r.joined.l id=(F5 r.joined.l id:Int):=if_pos hid
 have hk:F5 r.joined.l id < r.joined.l.length:=by
  unfold F5
  exact List.findIdx_lt_length_of_exists ⟨id,hid,by simp⟩
 have F:=FM.of hi.2
 obtain⟨k,hkk⟩:∃k,k=F5 r.joined.l id:=⟨_,rfl⟩
 rw[←hkk] at hin hk
 have n1:2*(k:Int)≤9223372036854775807:=by omega
 have n2:2*(k:Int)+2≤9223372036854775807:=by omega
 have n3:(0:Int)≤2*(k:Int):=by omega
 have n4:(2*(k:Int)).toNat=2*k:=by omega
 have n5:(2*(k:Int)+2).toNat=2*k+2:=by omega
 have n6:(2*(k:Int)≤2*(k:Int)+2):=by omega
 have n7:(-9223372036854775808:Int)≤2*(k:Int):=by omega
 have n8:(-9223372036854775808:Int)≤2*(k:Int)+2:=by omega
 have n9:2*k+2 - 2*k=2:=by omega
 have bl:∀i,i≤ids.l.length→(r.s.boxOf (ids.l.take i) id).length=2*i:=fun i hi=>by
  induction i with
  |zero=>rfl
  |succ i ih=>
   have hii:i < ids.l.length:=by omega
   obtain⟨x,hx,hxl,_⟩:=hbx (ix ids.l i) (by
    unfold ix
    rw[List.getD_eq_getElem?_getD,List.getElem?_eq_getElem hii]
    exact List.getElem_mem hii)
   have hx':Aq r.s.boxes (ix ids.l i)=some x.l:=by
    show Aq (Bn SlV.l r.boxes) _=_
    rw[H0,hx];rfl
   rw[Ab3 r.s ids.l i hii id hx',List.length_append,ih (by omega),List.length_take,List.length_drop,hxl]
   have:F5 r.s.joined id=k:=hkk.symm
   rw[this]
   omega
 refine (Jf (n:=43) Tryz.func153 rfl Tryz.ntmps153 [.x (.a (.v (.int .i64 id))),.x (.a (.v (.pointer (some b)))),.x (.a (.v (.pointer (some b2))))] (Sat.init w No) (by simp) (.x (.g (mgL (.v (vU8 4)) (.v (.int .i64 0)) (.v (.int .i64 0)) (.v (.int .i64 0)) (.v (.int .i64 r.gen)) (.v (vU64 0)) (List.replicate 32 0) (.o 0) (.o 1) Ce Ce (.v (.int .i64 0))))) [.own 3 (.i64 ids.l),.own 41 (.u64 (r.s.boxOf ids.l id))] ?_).mono fun e w' ⟨γ1,he,hS⟩=>A3p (by omega) (by have:=bl ids.l.length (Nat.le_refl _);rw[List.take_length] at this;omega) he hS
 simp (maxSteps:=10^6) only[b0,o0,c11,k11,vj,hs,Bl,Bp,Bu,↓List.forall_mem_cons,push_cast,↓reduceIte,reduceCtorEq,Nat.reduceEqDiff,Nat.reduceLT,Nat.reduceAdd]
 (repeat (refine And.intro (by first|omega|decide) ?_))
 refine Al rfl Zt rfl (Ab2 (l:=r.joined.l) id (by omega) (Bt hj.2 _ _ (by simp) hj.1)) (Ae rfl) ?_
 rw[hin]
 simp (maxSteps:=10^6) only[b1,o1,vi,n1,n7,push_cast,↓reduceIte,reduceCtorEq,Nat.reduceEqDiff,Nat.reduceLT,Int.reduceNeg]
 refine M0 6 41 (.u64 []) rfl rfl trivial (by simp (maxSteps:=10^6) only[↓List.forall_mem_cons,↓A5,push_cast,Nat.reduceLT]) ?_
 refine B9 (ι:=Nat) (fun i=>⟨[(1,.x (.a (.v (.pointer (some b))))),(2,.x (.a (.v (.pointer (some b2))))),(4,.x (.a (.p 0 0))),(5,.x (.a (.v (.int .i64 (2*(k:Int)))))),(6,.x (.a (.o 1))),(16,.x (.a (.v (.slice ids.A ids.l.length ids.c)))),(17,.x (.a (.v (.int .i64 ids.l.length)))),(18,.x (.a (.v (.int .i64 (i:Nat)))))],[.blk 48 (.c (mgA zeroR)),.own 41 (.u64 (r.s.boxOf (ids.l.take i) id))]⟩) (fun i=>i≤ids.l.length) (fun i=>ids.l.length - i) 0 [0,1] (Nat.zero_le _) ?_ ?_
 ·have e:r.s.boxOf [] id=[]:=rfl
  simp (maxSteps:=10^6) only[e,↓List.forall_mem_cons,↓A5,↓Bh,push_cast,↓Int.cast_ofNat_Int,Int.cast_ofNat_Int,↓reduceIte,reduceCtorEq,Nat.reduceEqDiff,Nat.reduceLT,Nat.reduceAdd]
 ·intro i hi'
  by_cases hlt:(i:Int) < ids.l.length
  ·have i0:(0:Int)≤i:=by omega
   have hii:i < ids.l.length:=by omega
   have d0:=F.cell i hii
   have p0:=F.ok i hii
   have hA:=F.some_ (by omega)
   have nx:(i:Int)+1≤9223372036854775807:=by omega
   obtain⟨x,hx,hxl,hxc,hxr⟩:=hbx (ix ids.l i) (by
    unfold ix
    rw[List.getD_eq_getElem?_getD,List.getElem?_eq_getElem hii]
    exact List.getElem_mem hii)
   have lk:=(h.box hph).look (ix ids.l i)
   rw[hx] at lk
   have lk:Hk w xb (ix ids.l i)=some (.slice x.A x.l.length x.c):=lk
   have hx':Aq r.s.boxes (ix ids.l i)=some x.l:=by
    show Aq (Bn SlV.l r.boxes) _=_
    rw[H0,hx];rfl
   have en:=Ab3 r.s ids.l i hii id hx'
   rw[show F5 r.s.joined id=k from hkk.symm] at en
   have m1:2*(k:Int)+2≤(x.c:Int):=by omega
   have m2:((x.l.map vU64).drop (2*k)).take 2=(((x.l.drop (2*k)).take 2).map vU64):=by rw[List.map_take,List.map_drop]
   have hsub:=((Sub.drop x.A (x.l.map vU64) (2*k) x.c (by rw[List.length_map];exact hxc)).trans (Sub.take _ _ 2)).fw (FW.no hxr)
   rw[m2] at hsub
   obtain⟨q1,q2⟩:=Uq hsub.fv
   have ql:((x.l.drop (2*k)).take 2).length=2:=by rw[List.length_take,List.length_drop,hxl];omega
   rw[ql] at q1 q2
   have bli:=bl i (by omega)
   have b8:(2*i+2)*8≤140737488355328:=by omega
   have b9:2*i+2≤2 ^ 63 - 1:=by omega
   simp (maxSteps:=10^6) only[hlt,i0,d0,p0,hA,lk,raw,b0,o0,c13,k13,hs,n2,n3,n4,n5,n6,n8,n9,m1,q1,q2,ql,bli,b8,b9,nx,↓List.forall_mem_cons,↓A5,push_cast,↓Int.toNat_natCast,↓reduceIte,reduceCtorEq,Nat.reduceEqDiff,Nat.reduceLT,Nat.reduceAdd,Int.reduceNeg]
   refine⟨by omega,?_⟩
   refine Bv (i+1) [0,2] (by omega) (by omega) ?_
   simp (maxSteps:=10^6) only[en,↓List.forall_mem_cons,↓A5,↓Bh,push_cast,↓reduceIte,reduceCtorEq,Nat.reduceEqDiff,Nat.reduceLT,Nat.reduceAdd]
  ·have e:i=ids.l.length:=by omega
   subst e
   rw[List.take_length]
   simp (maxSteps:=10^6) only[hlt,push_cast,↓reduceIte,Nat.reduceEqDiff,Nat.reduceLT,Nat.reduceAdd]
   refine Fw 8 [(0,true),(1,true),(2,true),(3,true),(4,true),(6,true),(5,false),(7,true)] (by kernel_rfl) (by kernel_rfl) ?_
   simp (maxSteps:=10^6) only[b0,o0,b1,o1,c1,k1,vi,hs,undef,push_cast,↓reduceIte,reduceCtorEq,Nat.reduceEqDiff,Nat.reduceLT,Nat.reduceAdd]
   refine Lx rfl Ew rfl (Gi (l:=ids.l) (by omega) (Bt hi.2 _ _ (by simp) hi.1) (by simp only[↓List.forall_mem_cons,↓A5,push_cast,Nat.reduceAdd])) (Ae rfl) (by simp (maxSteps:=10^6) only[↓List.forall_mem_cons,↓A5,push_cast,Nat.reduceLT,Nat.reduceAdd]) ?_
   simp (maxSteps:=10^6) only[Bl,Bp,Bw,Bu,↓List.forall_mem_cons,push_cast,↓reduceIte,reduceCtorEq,Nat.reduceEqDiff,Nat.reduceLT,Nat.reduceAdd]
   refine⟨?_,A9 [2,1] ?_⟩
   ·exact G7 (q:=At.one [.blk 48 (.c (mgA zeroR)),.own 41 (.u64 (r.s.boxOf ids.l id)),.own 3 (.i64 ids.l)]) (k:=.v (vU8 4)) (pl:=.v (.int .i64 0)) (ot:=.v (.int .i64 0)) (cl:=.v (.int .i64 0)) (ge:=.v (.int .i64 r.gen)) (nu:=.v (vU64 0)) (sm:=List.replicate 32 0) (i:=.o 2) (n:=.o 1) (p:=Ce) (x:=Ce) (r:=.v (.int .i64 0)) (fun _=>rfl) rfl rfl rfl rfl rfl rfl rfl rfl rfl rfl rfl
   ·refine⟨⟨rfl,trivial⟩,⟨rfl,rfl,trivial⟩,⟨⟨by decide,trivial⟩,trivial,trivial⟩,fun x hx=>?_,fun x hx=>?_⟩
    ·rw[List.mem_singleton.1 hx]
     exact G7 (q:=At.bnd 2) (fun _=>trivial) trivial trivial trivial trivial trivial trivial (by show 0 < 2;omega) (by show 1 < 2;omega) trivial trivial trivial
    ·simp only[List.mem_cons,List.not_mem_nil,or_false] at hx
     rcases hx with rfl|rfl<;>trivial
end Go.Proofs.YtedaafmfjhjfmaaGreatDoor
/- Layer 28 walked: wait (a leaf that is handed over, and turned). -/
namespace Go.Proofs.YtedaafmfjhjfmaaGreatDoor
open Go.RowKit
set_option linter.unusedSimpArgs false
set_option linter.unusedVariables false
theorem Sat.ownFs {w0 w:World} {ow:Nat→Prop} {γ:List Nm} {hp:List Res} {j k:Nat} {e:TypeId} {c:Cont} {vs:List Value} {l:List Fct} (hS:Sat w0 ow γ hp w) (hj:hp[j]?=some (.own e c)) (hk:hp[k]?=some (.abs (Aa l))) (hjk:j≠k) (hv:∀γ,c.vals γ=vs):
  ∃A cap γ',nmS γ j=.slice A vs.length cap∧vs.length≤cap∧nmB γ'=nmB γ∧nmS γ'=nmS γ∧Sat w0 ow γ' (((hp.map (Res.sub j (.slice A vs.length cap))).set j .gone).set k (.abs (Aa (l++[⟨.slice A vs.length cap,vs.length,vs⟩])))) w:=by
 obtain⟨A,cap,h1,h2,_,h3⟩:=Lz hS hj hv
 have hT:=hS.sub h1
 obtain⟨γ',eB,eS,h4⟩:=hT.absorbs (l:=l) (fs:=[⟨.slice A vs.length cap,vs.length,vs⟩]) (X:=fun b=>(nmS γ j).ownBlock=some b) (r:=.own e (c.sub j (.slice A vs.length cap))) (by rw[List.getElem?_map,hj];rfl) (by rw[List.getElem?_map,hk];rfl) hjk (fun b hb=>hb) fun f hf=>by rw[List.mem_singleton.1 hf];exact h3
 exact⟨A,cap,γ',h1,h2,eB,eS,h4⟩
theorem Sat.onnFs {w0 w:World} {ow:Nat→Prop} {γ:List Nm} {hp:List Res} {j k m:Nat} {e:TypeId} {c:Cont} {vs:List Value} {l:List Fct} {n:Nat} (hS:Sat w0 ow γ hp w) (hj:hp[j]?=some (.onn e m c)) (hk:hp[k]?=some (.abs (Aa l))) (hjk:j≠k) (hv:c.vals γ=vs) (hn:vs.length=n*m):
  ∃A cap γ',nmS γ j=.slice A n cap∧n≤cap∧nmB γ'=nmB γ∧nmS γ'=nmS γ∧Sat w0 ow γ' (((hp.map (Res.sub j (.slice A n cap))).set j .gone).set k (.abs (Aa (l++[⟨.slice A n cap,n,vs⟩])))) w:=by
 obtain⟨A,cap,h1,h2,h3⟩:=Kw hS hj hv hn
 have hT:=hS.sub h1
 obtain⟨γ',eB,eS,h4⟩:=hT.absorbs (l:=l) (fs:=[⟨.slice A n cap,n,vs⟩]) (X:=fun b=>(nmS γ j).ownBlock=some b) (r:=.onn e m (c.sub j (.slice A n cap))) (by rw[List.getElem?_map,hj];rfl) (by rw[List.getElem?_map,hk];rfl) hjk (fun b hb=>hb) fun f hf=>by rw[List.mem_singleton.1 hf];exact h3
 exact⟨A,cap,γ',h1,h2,eB,eS,h4⟩
attribute [local irreducible] Ah Ai Am Bc A7 Ay Ap A6
def H6 (g:Nat) (r:LfR) (l:List Int) (A:Option Addr) (cap:Nat):List Res:=
 [.pin g 104 (.c (lfA {r with waits:=⟨A,cap,l⟩})),.blk 170 (.c [.o 6,.v (.slice none 0 0),.v (.slice none 0 0),.v (.int .i64 r.need),.v (.int .i64 r.term),.v (.int .i64 0)]),.mp .i64 (puE r.pub),bxR r,.mp .i64 (slE r.rows),.abs (Aa [⟨.slice A l.length cap,l.length,l.map (Value.int .i64)⟩]),.own 3 (.i64 l)]
set_option maxRecDepth 100000 in
theorem A3y (r:LfR) (l:List Int) (A:Option Addr) (c:Nat) {g:Nat} {w:World} {B:Nat→Prop} {γ:List Nm} (hS:Sat w B γ (lfB g r) w) (hf:FW w B A (l.map (Value.int .i64))) (hc:l.length≤c) (hl:l.length≤1000) (h1:Br (-1) l=true) (h2:1≤r.need∧r.need≤l.length) (h3:1≤r.term∧r.term≤1000) (hsm:r.sum.sm.length=32):
  Calls Tryz.prog 53 (List.map (Sv.val (γ++[.m (.bool true) (fun _=>False)])) [.x (.a (.p 0 0)),.x (.a (.v (.slice A l.length c)))]).toArray w fun e w'=>∃(x:Option Addr×Nat) (γ1:List Nm),l.length≤x.2∧e=.returned ((Sv.t []).val γ1)∧Sat w B γ1 (H6 g r l x.1 x.2) w':=by
 have gl:=Aw hsm
 refine Ci (n:=25) (ι:=Option Addr×Nat) (fun x=>l.length≤x.2) (fun _=>.t []) (fun x=>H6 g r l x.1 x.2) Tryz.func53 rfl Tryz.ntmps53 _ (hS.fct0 (Ar g r)) (by simp) ?_
 unfold lfB lfA tlA
 simp (maxSteps:=10^6) only[push_cast,↓reduceIte,reduceCtorEq,Nat.reduceEqDiff,Nat.reduceLT,Nat.reduceAdd]
 (repeat (refine And.intro (by first|omega|decide) ?_))
 refine Kx 5 (vs:=l.map (Value.int .i64)) rfl rfl Ew rfl (V7 (l:=l) hl (Di hf _ _ (by simp) hc)) (Ae rfl) (by simp (maxSteps:=10^6) only[↓List.forall_mem_cons,↓Ad,↓Af,push_cast,Nat.reduceLT,Nat.reduceAdd]) ?_
 intro A1 cap1 b1 _
 rw[List.length_map] at b1
 simp (maxSteps:=10^6) only[List.length_map,undef,push_cast,↓reduceIte,reduceCtorEq,Nat.reduceEqDiff,Nat.reduceLT,Nat.reduceAdd]
 refine⟨by omega,?_⟩
 refine Aax 6 [0] (.rd 0 (.rd 1 (.rd 2 (.rd 3 (.rd 4 (.rd 6 (.rd 7 (.rd 8 (.fk 5 (.wr 9 (.wr 10 (.rd 11 (.rd 12 (.rd 13 (.rd 14 (.rd 15 (.wr 16 .nil)))))))) 9 (.wr 5 (.wr 10 (.rd 11 (.rd 12 (.rd 13 (.rd 14 (.rd 15 (.wr 16 .nil))))))))))))))))) ⟨[],[.pin g 104 (.c (.v (.int .i64 r.place):: .v (.int .i64 r.gen):: .v (.int .i64 r.dim):: .v (.int .i64 r.term):: .v (.int .i64 r.need):: .v (.int .i64 r.parent):: .v r.above.val:: .v r.group.val:: .v (.int .i64 r.phase):: .v (.slice A1 l.length cap1):: .p 6 0:: .v r.joined.val:: .o 2:: .o 3:: .o 4::mgA r.sum)),.blk 170 (.c [.v r.ty.who.val,.v r.ty.inn.val,.v r.ty.gone.val,.v (.int .i64 r.ty.need),.v (.int .i64 r.ty.term),.v (.int .i64 r.ty.went)]),.mp .i64 (puE r.pub),bxR r,.mp .i64 (slE r.rows),.abs (Aa [⟨.slice A1 l.length cap1,l.length,l.map (Value.int .i64)⟩]),
  .blk 170 (.c [.o 7,.v (.slice none 0 0),.v (.slice none 0 0),.v (.int .i64 r.need),.v (.int .i64 r.term),.v (.int .i64 0)]),.own 3 (.i64 l)]⟩ (by kernel_rfl) (by kernel_rfl) (by kernel_rfl) (Nat.le_refl 6) ?_ ?_
 ·simp (maxSteps:=10^6) only[gl,undef,push_cast,↓reduceIte,reduceCtorEq,Nat.reduceEqDiff,Nat.reduceLT,Nat.reduceAdd,Nat.reduceSub]
  constructor
  all_goals
   refine L7 rfl Zq rfl (Abw (l:=l) r.need r.term hl (Di hf _ _ (by simp) hc) (by simp (maxSteps:=10^6) only[↓List.forall_mem_cons,↓Ad,↓Af,push_cast,Nat.reduceLT,Nat.reduceAdd]) h1 h2 h3) (Ae rfl) (fun _=>by simp (maxSteps:=10^6) only[↓List.forall_mem_cons,↓Ad,↓Af,push_cast,Nat.reduceLT,Nat.reduceAdd]) rfl ?_
   simp (maxSteps:=10^6) only[gl,undef,push_cast,↓reduceIte,reduceCtorEq,Nat.reduceEqDiff,Nat.reduceLT,Nat.reduceAdd,Nat.reduceSub]
   (repeat (refine And.intro (by first|omega|decide) ?_))
   refine Dd [0,1,2,3,4,5,6,7] ?_
   simp (maxSteps:=10^6) only[↓List.forall_mem_cons,↓Ad,↓Af,↓Ax,Au,push_cast,reduceCtorEq,Nat.reduceEqDiff,Nat.reduceLT,Nat.reduceAdd]
 ·simp (maxSteps:=10^6) only[push_cast]
  refine⟨(A1,cap1),b1,A9 [0,6,2,3,4,5,7] ?_⟩
  unfold H6 lfA
  simp (maxSteps:=10^6) only[SlV.val,↓List.forall_mem_cons,↓List.forall_mem_append,↓Ad,↓Af,↓Ax,Au,push_cast,↓reduceIte,reduceCtorEq,Nat.reduceEqDiff,Nat.reduceLT,Nat.reduceAdd]
def G8 (r:LfR) (l:List Int) (A1:Option Addr) (cap1:Nat) (A2:Option Addr) (cap2:Nat):LfR:={r with waits:=⟨A1,cap1,l⟩,ty:=⟨⟨A2,cap2,l⟩,⟨none,0,[]⟩,⟨none,0,[]⟩,r.need,r.term,0⟩}
def Jt (l:List Int) (A1:Option Addr) (cap1:Nat) (A2:Option Addr) (cap2:Nat):List Fct:=[⟨.slice A1 l.length cap1,l.length,l.map (Value.int .i64)⟩,⟨.slice A2 l.length cap2,l.length,l.map (Value.int .i64)⟩]
theorem Ju (g:Nat) (r:LfR) (R:Rep):∀x∈lfB g r++[Res.abs R],Res.bnd (lfB g r++[Res.abs R]).length x:=fun x hx=>by
 rcases List.mem_append.1 hx with hx|hx
 ·exact Res.bnd_le (by rw[List.length_append];exact Nat.le_add_right _ _) (Ar g r x hx)
 ·rw[List.mem_singleton.1 hx];trivial
theorem Ab5 {Fs:List Fct} {r:LfR} (ok:LfOk Fs r) (l:List Int) (hl:l.length≤1000) (A1:Option Addr) (cap1:Nat) (A2:Option Addr) (cap2:Nat):LfOk (Fs++Jt l A1 cap1 A2 cap2) (G8 r l A1 cap1 A2 cap2):=by
 have ok':=ok.more (Gs:=Fs++Jt l A1 cap1 A2 cap2) fun f hf=>List.mem_append_left _ hf
 have m1:(⟨.slice A1 l.length cap1,l.length,l.map (Value.int .i64)⟩:Fct)∈Fs++Jt l A1 cap1 A2 cap2:=List.mem_append_right _ (List.mem_cons_self ..)
 have m2:(⟨.slice A2 l.length cap2,l.length,l.map (Value.int .i64)⟩:Fct)∈Fs++Jt l A1 cap1 A2 cap2:=List.mem_append_right _ (List.mem_cons_of_mem _ (List.mem_cons_self ..))
 exact⟨ok'.above,ok'.group,.inr m1,ok'.joined,⟨.inr m2,.inl rfl,.inl rfl,hl,Nat.zero_le _,Nat.zero_le _,ok.need,Int.le_refl _,(by show (0:Int)≤1000;omega),ok.term⟩,ok'.boxes,ok'.rows,ok'.sum,ok.few1,ok.few2,hl,ok.few4,ok.few5,ok.few6,ok.dim,ok.need,ok.term⟩
theorem A3z {w0 w:World} {ow:Nat→Prop} {γ δ:List Nm} {g:Nat} {r:LfR} {M:List Res} (hS:Sat w0 ow γ (lfB g r++M) w):nmB (γ++δ) 0=g:=by
 obtain⟨q1,q2,_⟩:=hS.holds 0 (.pin g 104 (.c (lfA r))) rfl
 rw[←q2]
 exact Dw (by rw[hS.len,List.length_append];show 0 < 5+M.length;omega)
theorem V9 {w0 w:World} {ow:Nat→Prop} {γ δ:List Nm} {g:Nat} {r:LfR} (hS:Sat w0 ow γ (lfB g r) w):nmB (γ++δ) 0=g:=A3z (M:=[]) (by rw[List.append_nil];exact hS)
theorem Ab6 (r:LfR) (l:List Int) (A:Option Addr) (c:Nat) {g:Nat} {w:World} {B:Nat→Prop} {γ:List Nm} {Fs:List Fct} (hS:Sat w B γ (lfB g r) w) (ok:LfOk Fs r) (hf:FW w B A (l.map (Value.int .i64))) (hc:l.length≤c) (hl:l.length≤1000) (h1:Br (-1) l=true) (h2:1≤r.need∧r.need≤l.length) (h3:1≤r.term∧r.term≤1000):
  Calls Tryz.prog 53 #[.pointer (some ⟨g,0,none⟩),.slice A l.length c] w fun e w'=>∃(x:LfR×List Fct) (γ1:List Nm),(x.1.s=r.s.wait l∧x.1.live=r.live∧LfOk (Fs++x.2) x.1)∧e=.returned (.tuple #[])∧Sat w B γ1 (lfB g x.1++[.abs (Aa x.2)]) w':=by
 have hg:nmB (γ++[Nm.m (.bool true) (fun _=>False)]) 0=g:=V9 hS
 have h0:=A3y r l A c hS hf hc hl h1 h2 h3 ok.sum.s
 have e0:(List.map (Sv.val (γ++[Nm.m (.bool true) (fun _=>False)])) [Sv.x (.a (.p 0 0)),.x (.a (.v (.slice A l.length c)))]).toArray=#[.pointer (some ⟨g,0,none⟩),.slice A l.length c]:=by
  show #[Value.pointer (some ⟨nmB _ 0,0,none⟩),_]=_
  rw[hg]
  rfl
 rw[e0] at h0
 refine h0.mono fun e w' ⟨⟨A1,cap1⟩,γ1,hb,he,hS1⟩=>?_
 dsimp only at hb hS1
 obtain⟨A2,cap2,γ2,x1,x2,eB,eS,h4⟩:=hS1.ownFs (j:=6) (k:=5) (c:=.i64 l) (vs:=l.map (Value.int .i64)) (l:=[⟨.slice A1 l.length cap1,l.length,l.map (Value.int .i64)⟩]) rfl rfl (by decide) (fun _=>rfl)
 rw[List.length_map] at h4 x2
 have h5:Sat w B γ2 ((lfB g (G8 r l A1 cap1 A2 cap2)++[.abs (Aa (Jt l A1 cap1 A2 cap2))])++[.gone]) w':=by
  have e:((H6 g r l A1 cap1).map (Res.sub 6 (.slice A2 l.length cap2))).set 6 .gone=[.pin g 104 (.c (lfA (G8 r l A1 cap1 A2 cap2))),.blk 170 (.c (tlA (G8 r l A1 cap1 A2 cap2).ty)),.mp .i64 (puE r.pub),bxR r,.mp .i64 (slE r.rows),.abs (Aa [⟨.slice A1 l.length cap1,l.length,l.map (Value.int .i64)⟩]),.gone]:=by
   have e1:(lfA {r with waits:=⟨A1,cap1,l⟩}).map (At.sub 6 (.slice A2 l.length cap2))=lfA (G8 r l A1 cap1 A2 cap2):=by
    unfold lfA
    rw[List.map_append,Ip]
    rfl
   unfold H6
   simp only[List.map_cons,List.map_nil,↓Io,Res.sub,Cont.sub,Hz,Gg,e1,List.set_cons_succ,List.set_cons_zero]
   rfl
  rw[e] at h4
  exact h4
 exact⟨(G8 r l A1 cap1 A2 cap2,Jt l A1 cap1 A2 cap2),_,⟨rfl,rfl,Ab5 ok l hl A1 cap1 A2 cap2⟩,he,h5.frontOf (Ju g _ _)⟩
end Go.Proofs.YtedaafmfjhjfmaaGreatDoor
