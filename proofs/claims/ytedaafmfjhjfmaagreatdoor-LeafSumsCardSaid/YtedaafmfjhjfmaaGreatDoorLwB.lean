import Derived.Test.YtedaafmfjhjfmaaGreatDoorLwA
import Derived.Test.YtedaafmfjhjfmaaGreatDoorVl
/- Layer 28 walked: tellSum. -/
namespace Go.Proofs.YtedaafmfjhjfmaaGreatDoor
open Go.RowKit
set_option linter.unusedSimpArgs false
set_option linter.unusedVariables false
theorem Ace {a b:List UInt32}:∀{n:Nat},n≤a.length→n≤b.length→Ds (·+·) a b n=List.zipWith (·+·) (a.take n) (b.take n)
 |0,_,_=>by simp [Wg]
 |n+1,ha,hb=>by
  rw[Nz,Ace (by omega) (by omega),List.take_add_one,List.take_add_one,List.getElem?_eq_getElem (by omega),List.getElem?_eq_getElem (by omega),Option.toList_some,Option.toList_some,List.zipWith_append (by simp;omega)]
  simp [ix,List.getD_eq_getElem?_getD,List.getElem?_eq_getElem (show n < a.length by omega),List.getElem?_eq_getElem (show n < b.length by omega)]
theorem Acf {a b:List UInt32} {n:Nat} (ha:a.length=n) (hb:b.length=n):Ds (·+·) a b n=Im a b:=by
 rw[Ace (by omega) (by omega),List.take_of_length_le (by omega),List.take_of_length_le (by omega)]
 rfl
theorem A4o {α β:Type} (f:β→α→β) (b:β) (l:List α) (x:α):(l++[x]).foldl f b=f (l.foldl f b) x:=by rw[List.foldl_append];rfl
theorem Acg (n:Nat) (L:List (List UInt32)) (h:∀r∈L,r.length=n):∀i,i≤L.length→Bz n L i=(L.take i).foldl Im (List.replicate n 0)
 |0,_=>by rw[Acd,List.take_zero];rfl
 |i+1,hi=>by
  have hii:i < L.length:=by omega
  have e:ix L i=L[i]:=by
   unfold ix
   rw[List.getD_eq_getElem?_getD,List.getElem?_eq_getElem hii]
   rfl
  rw[Wh,Acf (Sa n L i) (by rw[e];exact h _ (List.getElem_mem hii)),Acg n L h i (by omega),List.take_add_one,List.getElem?_eq_getElem hii,Option.toList_some,A4o,e]
theorem Wi (s:LfS) (ids:List Int) (n:Nat) (hd:s.dim=n) (h:∀id∈ids,∃x,Aq s.rows id=some x∧x.length=n):s.rowSum ids=Bz n (ids.map fun id=>(Aq s.rows id).getD []) ids.length:=by
 have h2:=Acg n (ids.map fun id=>(Aq s.rows id).getD []) (fun r hr=>by
  obtain⟨id,hid,rfl⟩:=List.mem_map.1 hr
  obtain⟨x,hx,hl⟩:=h id hid
  rw[hx]
  exact hl) ids.length (by rw[List.length_map];exact Nat.le_refl _)
 rw[h2,List.take_of_length_le (by rw[List.length_map];exact Nat.le_refl _),List.foldl_map]
 unfold LfS.rowSum
 rw[hd]
 rfl
attribute [local irreducible] Ah Ai Am Bc A7 Ay Ap A6
attribute [local irreducible] A8 okV Bj erV Tal.can Tal.st Bz
def Ach (x:SlV UInt32):Rw:=⟨x.A,x.c,x.l⟩
def C5 (r:LfR) (ids:List Int):List Rw:=ids.map fun id=>Ach ((Aq r.rows id).getD default)
theorem A4p {w0:World} {ow:Nat→Prop} {hp:List Res} {k:Nat} {e:TypeId} (R:List Rw) (n:Nat) (hn:n≤32) (hRl:R.length≤1000) (hr:hp[k]?=some (.own e (.c (R.map fun r=>.v r.val)))) (hk:∀γ w,Sat w0 ow γ hp w→∀i,i < R.length→(ix R i).l.length=n∧RdV w w.heap.size (ix R i).A ((ix R i).l.map Ak)) (hbr:∀r∈hp,Res.bnd hp.length r):
  Ai Tryz.prog w0 ow 84 [.x (.a (.o k)),.x (.a (.v (.int .i64 n)))] hp (.t [.a (.o hp.length),.a (.v .nilIface)]) (hp++[.own 111 (.u32 (Bz n (R.map (·.l)) R.length))]):=Ug hbr trivial fun γ w hS=>by
 obtain⟨A,c,h1,h2,h3,h4⟩:=hS.rdOwn hr
 have e1:(Cont.c (R.map fun r=>At.v r.val)).vals γ=R.map Rw.val:=by
  simp only[Cont.vals,List.map_map]
  rfl
 have e2:(Cont.c (R.map fun r=>At.v r.val)).len=R.length:=by simp [Cont.len]
 rw[e1] at h4
 rw[e2] at h1 h2
 show Calls _ _ #[nmS γ k,.int .i64 n] w _
 rw[h1]
 exact A4n R n hn hRl A c w h4 (hk γ w hS)
def D7 (pl ge:Int) (ids row:Value) (a b:Nat):List At:=mgL (.v (vU8 6)) (.v (.int .i64 pl)) (.v (.int .i64 0)) (.v (.int .i64 0)) (.v (.int .i64 ge)) (.v (vU64 0)) (List.replicate 32 0) (.v ids) (.s a 0 2 2) (.o b) (.v row) (.v (.int .i64 0))
theorem Aci (pl ge:Int) (ids row:Value) (a b:Nat):(((((((mgA zeroR).set 0 (.v (.int .u8 6))).set 1 (.v (.int .i64 pl))).set 4 (.v (.int .i64 ge))).set 38 (.v ids)).set 39 (.s a 0 2 2)).set 40 (.o b)).set 41 (.v row)=D7 pl ge ids row a b:=rfl
theorem A4q (pl ge:Int) (ids row:Value) (a b:Nat):(D7 pl ge ids row a b).length=43:=Ku rfl
theorem Acj {q:At→Prop} (h:∀v:Value,v.oneCell'=true→scalar v→q (.v v)) {pl ge:Int} {ids row:Value} (h1:q (.v ids)) (h2:q (.v row)) {a b:Nat} (h3:q (.s a 0 2 2)) (h4:q (.o b)):∀x∈D7 pl ge ids row a b,q x:=
 G7 (fun _=>h _ rfl trivial) (h _ rfl trivial) (h _ rfl trivial) (h _ rfl trivial) (h _ rfl trivial) (h _ rfl trivial) (h _ rfl trivial) h1 h3 h4 h2 (h _ rfl trivial)
theorem Ack (ρ:List Nat) (pl ge:Int) (ids row:Value) (a b:Nat):(D7 pl ge ids row a b).map (At.ren ρ)=D7 pl ge ids row (rn ρ a) (rn ρ b):=Nj ..
theorem Acl (ρ:List Nat) (pl ge:Int) (ids row:Value) (a b:Nat):Sv.ren ρ (.x (.g (D7 pl ge ids row a b)))=.x (.g (D7 pl ge ids row (rn ρ a) (rn ρ b))):=by
 show Sv.x (.g _)=_
 rw[Ack]
theorem A4r (n:Nat) (pl ge:Int) (ids row:Value) (a b:Nat) (ha:a < n) (hb:b < n):(∀x∈D7 pl ge ids row a b,x.bnd n)=True:=eq_true (Acj (fun _ _ _=>trivial) trivial trivial ha hb)
structure SumX where
 A1:Option Addr
 cap1:Nat
 A2:Option Addr
 cap2:Nat
 out:SlV SnR
 G:List Fct
def Acm (r:LfR) (x:SumX):Prop:=x.out.l.map SnR.s=r.s.tell.2∧OutOk x.G x.out
def N0 (r:LfR) (A1:Option Addr) (cap1:Nat) (A2:Option Addr) (cap2:Nat):List Fct:=[⟨.slice A1 r.ty.inn.l.length cap1,r.ty.inn.l.length,r.ty.inn.l.map (Value.int .i64)⟩,⟨.slice A2 (r.s.rowSum r.ty.inn.l).length cap2,(r.s.rowSum r.ty.inn.l).length,(r.s.rowSum r.ty.inn.l).map Ak⟩]
def F7 (r:LfR) (n:Nat) (ph:Int) (m:List At):List At:=.v (.int .i64 r.place):: .v (.int .i64 r.gen):: .v (.int .i64 (n:Int)):: .v (.int .i64 r.term):: .v (.int .i64 r.need):: .v (.int .i64 r.parent):: .v r.above.val:: .v r.group.val:: .v (.int .i64 ph):: .v r.waits.val:: .p 1 0:: .v r.joined.val:: .o 2:: .o 3:: .o 4::m
def N1 (g:Nat) (r:LfR) (n:Nat) (x:SumX):List Res:=[.pin g 104 (.c (F7 r n 3 (D7 r.place r.gen (.slice x.A1 r.ty.inn.l.length x.cap1) (.slice x.A2 (r.s.rowSum r.ty.inn.l).length x.cap2) 6 7))),.blk 170 (.c (tlA r.ty)),.mp .i64 (puE r.pub),bxR r,.mp .i64 (slE r.rows),.abs (Aa (N0 r x.A1 x.cap1 x.A2 x.cap2++x.G)),.blk 41 (.u64 [UInt64.ofInt r.place,UInt64.ofInt r.gen]),.onn 115 2 (.c (pcs (r.s.peers r.waits.l)))]
def A4s (r:LfR):MgS:={Cp 6 with pl:=r.place,ge:=r.gen,ids:=r.ty.inn.l,ns:=[UInt64.ofInt r.place,UInt64.ofInt r.gen],ps:=r.s.peers r.waits.l,xs:=r.s.rowSum r.ty.inn.l}
theorem A4t {w0 w:World} {ow:Nat→Prop} {γ:List Nm} {g n:Nat} {r:LfR} {x:SumX} (hS:Sat w0 ow γ (N1 g r n x) w) (hd:r.dim=n) (f1:r.ty.inn.l.length≤1000) (f2:(r.s.rowSum r.ty.inn.l).length≤1000) (f3:r.waits.l.length≤1000):
  nmB γ 0=g∧∃m:MgR,m.mg=A4s r∧m.Ok w∧LfAt {r with sum:=m,phase:=3} w ⟨g,0,none⟩ (.pointer (some ⟨nmB γ 1,0,none⟩)) (nmS γ 2) (nmS γ 3) (nmS γ 4):=by
 obtain⟨_,h1,_⟩:=hS.holds 0 _ rfl
 obtain⟨B1,k1,z1,z2,_,z3⟩:=Qy hS (k:=5) rfl (f:=⟨.slice x.A1 r.ty.inn.l.length x.cap1,r.ty.inn.l.length,r.ty.inn.l.map (Value.int .i64)⟩) (List.mem_append_left _ (List.mem_cons_self ..))
 obtain⟨B2,k2,y1,y2,_,y3⟩:=Qy hS (k:=5) rfl (f:=⟨.slice x.A2 (r.s.rowSum r.ty.inn.l).length x.cap2,(r.s.rowSum r.ty.inn.l).length,(r.s.rowSum r.ty.inn.l).map Ak⟩) (List.mem_append_left _ (List.mem_cons_of_mem _ (List.mem_cons_self ..)))
 have z1:Value.slice x.A1 r.ty.inn.l.length x.cap1=.slice B1 r.ty.inn.l.length k1:=z1
 have y1:Value.slice x.A2 (r.s.rowSum r.ty.inn.l).length x.cap2=.slice B2 (r.s.rowSum r.ty.inn.l).length k2:=y1
 injection z1 with z4 _ z5
 injection y1 with y4 _ y5
 obtain⟨A3,cap3,e3,b3,hf3⟩:=Kw hS (j:=7) (e:=115) (m:=2) (c:=.c (pcs (r.s.peers r.waits.l))) (vs:=pvs (r.s.peers r.waits.l)) (n:=(r.s.peers r.waits.l).length) rfl (L3 γ _) (Jj _)
 have r3:=(hf3.rd rfl (fun b hb=>(hS.mine 7 _ b rfl hb).2)).2
 have hns:=hS.rdBlk (k:=6) (c:=.u64 [UInt64.ofInt r.place,UInt64.ofInt r.gen]) rfl 0
 have hpl:(r.s.peers r.waits.l).length≤1000:=by unfold LfS.peers;rw[List.length_map];exact f3
 refine⟨h1,⟨6,r.place,0,0,r.gen,0,List.replicate 32 0,⟨x.A1,x.cap1,r.ty.inn.l⟩,⟨some ⟨nmB γ 6,0,none⟩,2,[UInt64.ofInt r.place,UInt64.ofInt r.gen]⟩,⟨A3,cap3,r.s.peers r.waits.l⟩,⟨x.A2,x.cap2,r.s.rowSum r.ty.inn.l⟩,0⟩,rfl,⟨rfl,⟨?_,f1,?_⟩,⟨Nat.le_refl 2,(by show 2≤1000;omega),hns⟩,⟨b3,hpl,r3⟩,⟨?_,f2,?_⟩⟩,?_,?_,fun hp=>?_⟩
 ·show r.ty.inn.l.length≤x.cap1;rw[z5];exact z2
 ·show RdV _ _ x.A1 _;rw[z4];exact z3
 ·show _≤x.cap2;rw[y5];exact y2
 ·show RdV _ _ x.A2 _;rw[y4];exact y3
 ·have hv:=Fz (k:=0) (t:=104) (c:=.c (F7 r n 3 (D7 r.place r.gen (.slice x.A1 r.ty.inn.l.length x.cap1) (.slice x.A2 (r.s.rowSum r.ty.inn.l).length x.cap2) 6 7))) (vs:=lfV {r with phase:=3,sum:=⟨6,r.place,0,0,r.gen,0,List.replicate 32 0,⟨x.A1,x.cap1,r.ty.inn.l⟩,⟨some ⟨nmB γ 6,0,none⟩,2,[UInt64.ofInt r.place,UInt64.ofInt r.gen]⟩,⟨A3,cap3,r.s.peers r.waits.l⟩,⟨x.A2,x.cap2,r.s.rowSum r.ty.inn.l⟩,0⟩} (.pointer (some ⟨nmB γ 1,0,none⟩)) (nmS γ 2) (nmS γ 3) (nmS γ 4)) hS rfl (by
   show (F7 r n 3 _).map (At.val γ)=_
   unfold F7 lfV
   simp only[List.map_cons,List.cons_append,List.nil_append]
   rw[show (D7 r.place r.gen (.slice x.A1 r.ty.inn.l.length x.cap1) (.slice x.A2 (r.s.rowSum r.ty.inn.l).length x.cap2) 6 7).map (At.val γ)=mgV ⟨6,r.place,0,0,r.gen,0,List.replicate 32 0,⟨x.A1,x.cap1,r.ty.inn.l⟩,⟨some ⟨nmB γ 6,0,none⟩,2,[UInt64.ofInt r.place,UInt64.ofInt r.gen]⟩,⟨A3,cap3,r.s.peers r.waits.l⟩,⟨x.A2,x.cap2,r.s.rowSum r.ty.inn.l⟩,0⟩ from by
    unfold D7
    rw[Ks]
    have e3:At.val γ (.o 7)=.slice A3 (r.s.peers r.waits.l).length cap3:=e3
    rw[e3]
    rfl,hd]
   rfl)
  rw[h1] at hv
  exact hv
 ·have h:=Rv (k:=2) (m:=puE r.pub) hS rfl
  refine⟨h.raw,fun i=>(h.look i).trans ?_⟩
  rw[Abx]
  show _=(Aq r.pub i).map vU64
  cases Aq r.pub i<;>rfl
 ·have h:=Rv (k:=3) (m:=slE r.boxes) hS (by show some (bxR r)=_;unfold bxR;exact congrArg some (if_pos hp))
  refine⟨h.raw,fun i=>(h.look i).trans ?_⟩
  rw[Nt]
  show _=(Aq r.boxes i).map SlV.val
  cases Aq r.boxes i<;>rfl
set_option maxRecDepth 100000 in
theorem A4u (r:LfR) (n:Nat) {g:Nat} {w:World} {B:Nat→Prop} {γ:List Nm} {Fs:List Fct} (hS:Sat w B γ (lfB g r) w) (hw:Known w B Fs) (ok:LfOk Fs r) (hph:r.phase=2) (hd:r.dim=n) (hrow:∀f∈r.ty.inn.l,∃x,Aq r.rows f=some x∧x.l.length=n):
  Calls Tryz.prog 119 (List.map (Sv.val (γ++[.m (.bool true) (fun _=>False)])) [.x (.a (.p 0 0))]).toArray w fun e w'=>∃(x:SumX) (γ1:List Nm),Acm r x∧e=.returned ((Sv.x (.a (.v x.out.val))).val γ1)∧Sat w B γ1 (N1 g r n x) w':=by
 have gl:=Aw ok.sum.s
 have hn32:n≤32:=by have:=ok.dim;omega
 have hrl:(r.s.rowSum r.ty.inn.l).length≤1000:=by
  rw[Wi r.s r.ty.inn.l n hd fun id hid=>by
   obtain⟨x,hx,hxl⟩:=hrow id hid
   refine⟨x.l,?_,hxl⟩
   show Aq (Bn SlV.l r.rows) id=_
   rw[H0,hx]
   rfl,Sa]
  omega
 have f2:=ok.ty.few2
 refine Ci (n:=75) (ι:=SumX) (Acm r) (fun x=>.x (.a (.v x.out.val))) (fun x=>N1 g r n x) Tryz.func119 rfl Tryz.ntmps119 [.x (.a (.p 0 0))] (hS.fct0 (Ar g r)) (by show 1≤75;omega) ?_
 unfold lfB lfA
 simp (maxSteps:=10^6) only[hd,gl,undef,push_cast,↓reduceIte,reduceCtorEq,Nat.reduceLT,Nat.reduceAdd]
 (repeat (refine And.intro (by first|omega|decide) ?_))
 refine Ig rfl U2 rfl (Aca (k:=1) rfl ok.ty hw (by simp (maxSteps:=10^6) only[↓Ag,↓List.forall_mem_cons,↓Ad,↓Af,push_cast,Nat.reduceLT,Nat.reduceAdd])) (Ae rfl) (by simp (maxSteps:=10^6) only[↓Ag,↓List.forall_mem_cons,↓Ad,↓Af,push_cast,Nat.reduceLT,Nat.reduceAdd]) ?_
 simp (maxSteps:=10^6) only[push_cast,↓reduceIte,Nat.reduceEqDiff,Nat.reduceLT,Nat.reduceAdd]
 (repeat (refine And.intro (by first|omega|decide) ?_))
 refine M0 4 46 (.c []) rfl rfl (by simp [Cont.bnd]) (by simp (maxSteps:=10^6) only[↓Ag,↓List.forall_mem_cons,↓Ad,↓Af,push_cast,Nat.reduceLT,Nat.reduceAdd]) ?_
 refine B9 (ι:=Nat) (fun i=>⟨[(0,.x (.a (.p 0 0))),(3,.x (.a (.o 6))),(4,.x (.a (.o 7))),(14,.x (.a (.o 6))),(15,.x (.a (.v (.int .i64 r.ty.inn.l.length)))),(16,.x (.a (.v (.int .i64 (i:Nat)))))],[.pin g 104 (.c (.v (.int .i64 r.place):: .v (.int .i64 r.gen):: .v (.int .i64 (n:Int)):: .v (.int .i64 r.term):: .v (.int .i64 r.need):: .v (.int .i64 r.parent):: .v r.above.val:: .v r.group.val:: .v (.int .i64 r.phase):: .v r.waits.val:: .p 1 0:: .v r.joined.val:: .o 2:: .o 3:: .o 4::mgA r.sum)),.blk 170 (.c (tlA r.ty)),.mp .i64 (puE r.pub),bxR r,.mp .i64 (slE r.rows),.abs (Aa []),.own 3 (.i64 r.ty.inn.l),.own 46 (.c ((C5 r (r.ty.inn.l.take i)).map fun x=>.v x.val))]⟩) (fun i=>i≤r.ty.inn.l.length) (fun i=>r.ty.inn.l.length - i) 0 [0,1,2,3,4,5,6,7] (Nat.zero_le _) ?_ ?_
 ·have e:C5 r []=[]:=rfl
  simp (maxSteps:=10^6) only[e,↓Ag,↓Az,↓List.forall_mem_cons,↓Ad,↓Af,↓Ax,Au,push_cast,↓Int.cast_ofNat_Int,Int.cast_ofNat_Int,↓reduceIte,reduceCtorEq,Nat.reduceEqDiff,Nat.reduceLT,Nat.reduceAdd]
 ·intro i hi
  by_cases hlt:(i:Int) < r.ty.inn.l.length
  ·have i0:(0:Int)≤i:=by omega
   have hil:i < r.ty.inn.l.length:=by omega
   have nx:(i:Int)+1≤9223372036854775807:=by omega
   obtain⟨x,hx,hxl⟩:=hrow (ix r.ty.inn.l i) (by
    unfold ix
    rw[List.getD_eq_getElem?_getD,List.getElem?_eq_getElem hil]
    exact List.getElem_mem hil)
   have lk:Cw (slE r.rows) (ix r.ty.inn.l i)=some (.a (.v x.val)):=by rw[Nt,hx];rfl
   have er:C5 r (r.ty.inn.l.take (i+1))=C5 r (r.ty.inn.l.take i)++[Ach x]:=by
    have e1:r.ty.inn.l[i]=ix r.ty.inn.l i:=by
     unfold ix
     rw[List.getD_eq_getElem?_getD,List.getElem?_eq_getElem hil]
     rfl
    unfold C5
    rw[List.take_add_one,List.getElem?_eq_getElem hil,List.map_append,Option.toList_some,List.map_cons,List.map_nil,e1,hx]
    rfl
   have hlen:(C5 r (r.ty.inn.l.take i)).length=i:=by
    unfold C5
    rw[List.length_map,List.length_take]
    omega
   have ev:((C5 r (r.ty.inn.l.take (i+1))).map fun x=>At.v x.val)=((C5 r (r.ty.inn.l.take i)).map fun x=>At.v x.val)++[At.v x.val]:=by rw[er,List.map_append];rfl
   have b8:(i+1)*24≤140737488355328:=by omega
   have b9:i+1≤2 ^ 63 - 1:=by omega
   simp (maxSteps:=10^6) only[gl,hlt,i0,hil,lk,hlen,b8,b9,nx,undef,↓Ag,↓List.forall_mem_cons,↓Ad,↓Af,push_cast,↓Int.toNat_natCast,↓reduceIte,reduceCtorEq,Nat.reduceEqDiff,Nat.reduceLT,Nat.reduceLeDiff,Nat.reduceAdd,Int.reduceNeg]
   refine⟨trivial,rfl,by omega,?_⟩
   refine Bv (i+1) [0,1,2,3,4,5,6,9] (by omega) (by omega) ?_
   simp (maxSteps:=10^6) only[ev,↓Ag,↓Az,↓List.forall_mem_cons,↓List.forall_mem_append,↓Ad,↓Af,↓Ax,Au,push_cast,↓reduceIte,reduceCtorEq,Nat.reduceEqDiff,Nat.reduceLT,Nat.reduceAdd]
  ·obtain rfl:i=r.ty.inn.l.length:=by omega
   rw[List.take_length]
   simp (maxSteps:=10^6) only[gl,hlt,undef,push_cast,↓reduceIte,reduceCtorEq,Nat.reduceEqDiff,Nat.reduceLT,Nat.reduceAdd]
   have hkn:∀{hp:List Res} γ' w',Sat w B γ' hp w'→∀i,i < (C5 r r.ty.inn.l).length→(ix (C5 r r.ty.inn.l) i).l.length=n∧RdV w' w'.heap.size (ix (C5 r r.ty.inn.l) i).A ((ix (C5 r r.ty.inn.l) i).l.map Ak):=fun γ' w' hS' i hi=>by
    have hm:ix (C5 r r.ty.inn.l) i∈C5 r r.ty.inn.l:=by
     unfold ix
     rw[List.getD_eq_getElem?_getD,List.getElem?_eq_getElem hi]
     exact List.getElem_mem hi
    obtain⟨id,hid,e⟩:=List.mem_map.1 hm
    obtain⟨x,hx,hxl⟩:=hrow id hid
    rw[←e,hx]
    have k1:=(L8 (B:=No) hS' hw (fun b h=>h.elim)).fw (ok.rows _ (V4 hx)) (fun e=>by rw[e];rfl)
    exact⟨hxl,k1.2.rd⟩
   refine Qh rfl Axk rfl (A4p (k:=7) (C5 r r.ty.inn.l) n hn32 (by unfold C5;rw[List.length_map];exact f2) rfl hkn (by simp (maxSteps:=10^6) only[↓Ag,↓List.forall_mem_cons,↓Ad,↓Af,push_cast,Nat.reduceLT,Nat.reduceAdd])) (Ae rfl) (fun _=>by simp (maxSteps:=10^6) only[↓Ag,↓List.forall_mem_cons,↓Ad,↓Af,push_cast,Nat.reduceLT,Nat.reduceAdd]) ?_
   have esum:Bz n ((C5 r r.ty.inn.l).map (·.l)) (C5 r r.ty.inn.l).length=r.s.rowSum r.ty.inn.l:=by
    have e1:=Wi r.s r.ty.inn.l n hd fun id hid=>by
     obtain⟨x,hx,hxl⟩:=hrow id hid
     refine⟨x.l,?_,hxl⟩
     show Aq (Bn SlV.l r.rows) id=_
     rw[H0,hx]
     rfl
    rw[e1]
    have e2:(C5 r r.ty.inn.l).length=r.ty.inn.l.length:=by unfold C5;rw[List.length_map]
    have e3:(C5 r r.ty.inn.l).map (·.l)=r.ty.inn.l.map fun id=>(Aq r.s.rows id).getD []:=by
     unfold C5
     rw[List.map_map]
     refine List.map_congr_left fun id _=>?_
     show ((Aq r.rows id).getD default).l=(Aq (Bn SlV.l r.rows) id).getD []
     rw[H0]
     cases Aq r.rows id<;>rfl
    rw[e2,e3]
   rw[esum]
   simp (maxSteps:=10^6) only[push_cast,↓reduceIte,Nat.reduceEqDiff,Nat.reduceLT,Nat.reduceAdd]
   refine Va 6 5 (vs:=r.ty.inn.l.map (Value.int .i64)) rfl (fun _=>rfl) rfl (by decide) fun A1 cap1 b1 _=>?_
   rw[List.length_map] at b1
   simp (maxSteps:=10^6) only[Ii,Ih,Res.sub,Cont.sub,Sv.sub,Sc.sub,At.sub,Hz,Gg,List.length_map,Vb,K0,↓Io,Ip,push_cast,↓reduceIte,Nat.reduceEqDiff]
   refine Va 8 5 (vs:=(r.s.rowSum r.ty.inn.l).map Ak) rfl (fun _=>rfl) rfl (by decide) fun A2 cap2 b2 _=>?_
   rw[List.length_map] at b2
   simp (maxSteps:=10^6) only[Ii,Ih,Res.sub,Cont.sub,Sv.sub,Sc.sub,At.sub,Hz,Gg,List.length_map,Vb,K0,↓Io,Ip,push_cast,↓reduceIte,Nat.reduceEqDiff]
   refine A10 (s':=⟨[(0,.x (.a (.p 0 0))),(3,.x (.a (.v (.slice A1 r.ty.inn.l.length cap1)))),(7,.x (.a (.v (.slice A2 (r.s.rowSum r.ty.inn.l).length cap2))))],[.pin g 104 (.c (.v (.int .i64 r.place):: .v (.int .i64 r.gen):: .v (.int .i64 (n:Int)):: .v (.int .i64 r.term):: .v (.int .i64 r.need):: .v (.int .i64 r.parent):: .v r.above.val:: .v r.group.val:: .v (.int .i64 r.phase):: .v r.waits.val:: .p 1 0:: .v r.joined.val:: .o 2:: .o 3:: .o 4::mgA r.sum)),.blk 170 (.c (tlA r.ty)),.mp .i64 (puE r.pub),bxR r,.mp .i64 (slE r.rows),.abs (Aa [⟨.slice A1 r.ty.inn.l.length cap1,r.ty.inn.l.length,r.ty.inn.l.map (Value.int .i64)⟩,⟨.slice A2 (r.s.rowSum r.ty.inn.l).length cap2,(r.s.rowSum r.ty.inn.l).length,(r.s.rowSum r.ty.inn.l).map Ak⟩])]⟩) (Dd [0,1,2,3,4,5] (by simp (maxSteps:=10^6) only[↓Ag,↓Az,↓List.forall_mem_cons,↓Ad,↓Af,↓Ax,Au,push_cast,↓reduceIte,reduceCtorEq,Nat.reduceEqDiff,Nat.reduceLT,Nat.reduceAdd])) ?_
   have hCB:lfB g r=[.pin g 104 (.c (.v (.int .i64 r.place):: .v (.int .i64 r.gen):: .v (.int .i64 (n:Int)):: .v (.int .i64 r.term):: .v (.int .i64 r.need):: .v (.int .i64 r.parent):: .v r.above.val:: .v r.group.val:: .v (.int .i64 r.phase):: .v r.waits.val:: .p 1 0:: .v r.joined.val:: .o 2:: .o 3:: .o 4::mgA r.sum)),.blk 170 (.c (tlA r.ty)),.mp .i64 (puE r.pub),bxR r,.mp .i64 (slE r.rows)]:=by
    unfold lfB lfA
    rw[hd]
    rfl
   have hLA:∀{M:List Res} {γ':List Nm} {w':World},Sat w B γ' ([.pin g 104 (.c (.v (.int .i64 r.place):: .v (.int .i64 r.gen):: .v (.int .i64 (n:Int)):: .v (.int .i64 r.term):: .v (.int .i64 r.need):: .v (.int .i64 r.parent):: .v r.above.val:: .v r.group.val:: .v (.int .i64 r.phase):: .v r.waits.val:: .p 1 0:: .v r.joined.val:: .o 2:: .o 3:: .o 4::mgA r.sum)),.blk 170 (.c (tlA r.ty)),.mp .i64 (puE r.pub),bxR r,.mp .i64 (slE r.rows)]++M) w'→nmB γ' 0=g∧LfAt r w' ⟨g,0,none⟩ (.pointer (some ⟨nmB γ' 1,0,none⟩)) (nmS γ' 2) (nmS γ' 3) (nmS γ' 4):=fun hS'=>by
    rw[←hCB] at hS'
    exact Js hS'
   have vw:r.waits.val=.slice r.waits.A r.waits.l.length r.waits.c:=rfl
   have fw:=hw.fw ok.waits (fun e=>by rw[e];rfl)
   have bS:=fun n (ha:6 < n) (hb:7 < n)=>A4r n r.place r.gen (.slice A1 r.ty.inn.l.length cap1) (.slice A2 (r.s.rowSum r.ty.inn.l).length cap2) 6 7 ha hb
   have lS:=A4q r.place r.gen (.slice A1 r.ty.inn.l.length cap1) (.slice A2 (r.s.rowSum r.ty.inn.l).length cap2) 6 7
   refine Nn 6 [] 31 (.rd 0 (.rd 1 (.rd 2 (.rd 3 (.rd 4 (.rd 5 (.rd 6 (.rd 7 (.rd 8 (.rd 9 (.rd 10 (.rd 11 (.rd 12 (.rd 13 (.rd 14 (.rd 15 (.rd 16 (.rd 17 (.rd 18 (.rd 19 (.rd 21 (.rd 22 (.rd 23 (.rd 24 (.rd 25 (.rd 27 (.fk 20 (.wr 26 (.wr 28 (.rd 29 (.rd 30 .nil)))) 26 (.wr 20 (.wr 28 (.rd 29 (.rd 30 .nil))))))))))))))))))))))))))))))) ⟨[(67,.x (.g (D7 r.place r.gen (.slice A1 r.ty.inn.l.length cap1) (.slice A2 (r.s.rowSum r.ty.inn.l).length cap2) 6 7))),(69,.x (.a (.p 0 15))),(0,.x (.a (.p 0 0)))],[.pin g 104 (.c (.v (.int .i64 r.place):: .v (.int .i64 r.gen):: .v (.int .i64 (n:Int)):: .v (.int .i64 r.term):: .v (.int .i64 r.need):: .v (.int .i64 r.parent):: .v r.above.val:: .v r.group.val:: .v (.int .i64 r.phase):: .v r.waits.val:: .p 1 0:: .v r.joined.val:: .o 2:: .o 3:: .o 4::mgA r.sum)),.blk 170 (.c (tlA r.ty)),.mp .i64 (puE r.pub),bxR r,.mp .i64 (slE r.rows),.abs (Aa [⟨.slice A1 r.ty.inn.l.length cap1,r.ty.inn.l.length,r.ty.inn.l.map (Value.int .i64)⟩,⟨.slice A2 (r.s.rowSum r.ty.inn.l).length cap2,(r.s.rowSum r.ty.inn.l).length,(r.s.rowSum r.ty.inn.l).map Ak⟩]),.blk 41 (.u64 [UInt64.ofInt r.place,UInt64.ofInt r.gen]),.onn 115 2 (.c (pcs (r.s.peers r.waits.l)))]⟩ (by kernel_rfl) (by kernel_rfl) (Nat.le_refl 6) ?_ ?_
   ·simp (maxSteps:=10^6) only[gl,vw,undef,↓Ag,↓List.forall_mem_cons,↓Ad,↓Af,push_cast,↓reduceIte,reduceCtorEq,Nat.reduceEqDiff,Nat.reduceLT,Nat.reduceLeDiff,Nat.reduceAdd,Nat.reduceSub]
    constructor
    ·refine L7 rfl U3 rfl (V6 (r:=r) (l:=r.waits.l) (fun γ' w' hS'=>?_) ok.sum.s ok.few3 (Di fw.2 _ _ (List.length_map ..) fw.1) (by simp (maxSteps:=10^6) only[↓Ag,↓List.forall_mem_cons,↓Ad,↓Af,push_cast,Nat.reduceLT,Nat.reduceAdd])) (Ae rfl) (fun _=>by simp (maxSteps:=10^6) only[↓Ag,↓List.forall_mem_cons,↓Ad,↓Af,push_cast,Nat.reduceLT,Nat.reduceAdd]) rfl ?_
     ·obtain⟨hg,hat⟩:=hLA hS'
      exact⟨_,_,_,_,_,(by show Value.pointer (some ⟨nmB γ' 0,0,none⟩)=_;rw[hg]),hat⟩
     simp (maxSteps:=10^6) only[Bl,Bu,Bp,Bw,Aci,↓List.forall_mem_cons,push_cast,↓reduceIte,reduceCtorEq,Nat.reduceEqDiff,Nat.reduceLT,Nat.reduceAdd,Nat.reduceSub]
     refine Dd [0,1,2,3,4,5,6,7] ?_
     simp (maxSteps:=10^6) only[↓Acl,rn,↓bS,↓Ag,↓Az,↓List.forall_mem_cons,↓Ad,↓Af,↓Ax,Au,push_cast,↓reduceIte,reduceCtorEq,Nat.reduceEqDiff,Nat.reduceLT,Nat.reduceAdd]
    ·refine L7 rfl U3 rfl (V6 (r:=r) (l:=r.waits.l) (fun γ' w' hS'=>?_) ok.sum.s ok.few3 (Di fw.2 _ _ (List.length_map ..) fw.1) (by simp (maxSteps:=10^6) only[↓Ag,↓List.forall_mem_cons,↓Ad,↓Af,push_cast,Nat.reduceLT,Nat.reduceAdd])) (Ae rfl) (fun _=>by simp (maxSteps:=10^6) only[↓Ag,↓List.forall_mem_cons,↓Ad,↓Af,push_cast,Nat.reduceLT,Nat.reduceAdd]) rfl ?_
     ·obtain⟨hg,hat⟩:=hLA hS'
      exact⟨_,_,_,_,_,(by show Value.pointer (some ⟨nmB γ' 0,0,none⟩)=_;rw[hg]),hat⟩
     simp (maxSteps:=10^6) only[Bl,Bu,Bp,Bw,Aci,↓Ag,↓List.forall_mem_cons,↓Ad,↓Af,push_cast,↓reduceIte,reduceCtorEq,Nat.reduceEqDiff,Nat.reduceLT,Nat.reduceLeDiff,Nat.reduceAdd,Nat.reduceSub]
     refine Dd [0,1,2,3,4,5,7,6] ?_
     simp (maxSteps:=10^6) only[↓Acl,rn,↓bS,↓Ag,↓Az,↓List.forall_mem_cons,↓Ad,↓Af,↓Ax,Au,push_cast,↓reduceIte,reduceCtorEq,Nat.reduceEqDiff,Nat.reduceLT,Nat.reduceAdd]
   ·have eSp:I2 (.v (.int .i64 r.place):: .v (.int .i64 r.gen):: .v (.int .i64 (n:Int)):: .v (.int .i64 r.term):: .v (.int .i64 r.need):: .v (.int .i64 r.parent):: .v r.above.val:: .v r.group.val:: .v (.int .i64 r.phase):: .v r.waits.val:: .p 1 0:: .v r.joined.val:: .o 2:: .o 3:: .o 4::mgA r.sum) 15 (D7 r.place r.gen (.slice A1 r.ty.inn.l.length cap1) (.slice A2 (r.s.rowSum r.ty.inn.l).length cap2) 6 7)=(.v (.int .i64 r.place):: .v (.int .i64 r.gen):: .v (.int .i64 (n:Int)):: .v (.int .i64 r.term):: .v (.int .i64 r.need):: .v (.int .i64 r.parent):: .v r.above.val:: .v r.group.val:: .v (.int .i64 r.phase):: .v r.waits.val:: .p 1 0:: .v r.joined.val:: .o 2:: .o 3:: .o 4::D7 r.place r.gen (.slice A1 r.ty.inn.l.length cap1) (.slice A2 (r.s.rowSum r.ty.inn.l).length cap2) 6 7):=by
     rw[T0 _ _ _ (by rw[lS];simp [gl])]
     show _::_::_::_::_::_::_::_::_::_::_::_::_::_::_::(_++List.drop _ _)=_
     rw[List.drop_of_length_le (by rw[lS];simp [gl]),List.append_nil]
    simp (maxSteps:=10^6) only[gl,lS,eSp,undef,push_cast,↓reduceIte,reduceCtorEq,Nat.reduceEqDiff,Nat.reduceLT,Nat.reduceAdd]
    refine⟨Acj (q:=At.one [.pin g 104 (.c (.v (.int .i64 r.place):: .v (.int .i64 r.gen):: .v (.int .i64 (n:Int)):: .v (.int .i64 r.term):: .v (.int .i64 r.need):: .v (.int .i64 r.parent):: .v r.above.val:: .v r.group.val:: .v (.int .i64 r.phase):: .v r.waits.val:: .p 1 0:: .v r.joined.val:: .o 2:: .o 3:: .o 4::mgA r.sum)),.blk 170 (.c (tlA r.ty)),.mp .i64 (puE r.pub),bxR r,.mp .i64 (slE r.rows),.abs (Aa [⟨.slice A1 r.ty.inn.l.length cap1,r.ty.inn.l.length,r.ty.inn.l.map (Value.int .i64)⟩,⟨.slice A2 (r.s.rowSum r.ty.inn.l).length cap2,(r.s.rowSum r.ty.inn.l).length,(r.s.rowSum r.ty.inn.l).map Ak⟩]),.blk 41 (.u64 [UInt64.ofInt r.place,UInt64.ofInt r.gen]),.onn 115 2 (.c (pcs (r.s.peers r.waits.l)))]) (fun _ h _=>h) (ids:=.slice A1 r.ty.inn.l.length cap1) (row:=.slice A2 (r.s.rowSum r.ty.inn.l).length cap2) (a:=6) (b:=7) (by first|rfl|trivial) (by first|rfl|trivial) (by first|rfl|trivial) (by first|rfl|trivial),?_⟩
    refine Fk (ι:=SlV SnR×List Fct) (fun x=>x.1.l.map SnR.s=r.s.tell.2∧OutOk x.2 x.1) (fun x=>.x (.a (.v x.1.val))) (fun x=>x.2) 5 rfl rfl Uy rfl (fun γ' w' hS'=>?_) (fun _ _=>rfl) (Ae rfl) (by simp (maxSteps:=10^6) only[↓bS,↓Ag,↓List.forall_mem_cons,↓Af,push_cast,Nat.reduceLT,Nat.reduceAdd]) ?_
    ·have hS2:Sat w B γ' (N1 g r n ⟨A1,cap1,A2,cap2,⟨none,0,[]⟩,[]⟩) w':=hS'
     obtain⟨hg,m,hm1,hm2,hat⟩:=A4t hS2 hd f2 hrl ok.few3
     have:=V8 {r with sum:=m,phase:=3} ⟨g,0,none⟩ w' hat hm2
     refine Calls.mono (R:=fun e w''=>∃(x:SlV SnR×List Fct) (γ1:List Nm),(x.1.l.map SnR.s=({r with sum:=m,phase:=3}:LfR).s.again∧OutOk x.2 x.1)∧e=.returned x.1.val∧Sat w' No γ1 [.abs (Aa x.2)] w'') ?_ (fun e w'' ⟨x,γ1,⟨h1,h2⟩,h3,h4⟩=>⟨x,γ1,⟨h1.trans ?_,h2⟩,h3,h4⟩)
     ·show Calls _ _ #[.pointer (some ⟨nmB γ' 0,0,none⟩)] w' _
      rw[hg]
      exact this
     ·show (if (3:Int)≠3 then [] else [(⟨false,r.parent,m.mg⟩:SnS)])=_
      rw[if_neg (by decide),hm1]
      rfl
    rintro⟨out,Hs⟩ ⟨q3,q4⟩
    dsimp only at q3 q4
    simp (maxSteps:=10^6) only[push_cast,↓reduceIte,Nat.reduceLT,Nat.reduceAdd]
    refine⟨⟨A1,cap1,A2,cap2,out,Hs⟩,⟨q3,q4⟩,A9 [0,1,2,3,4,5,6,7] ?_⟩
    unfold N1 F7 N0
    simp (maxSteps:=10^6) only[Ack,rn,↓bS,↓Ag,↓Az,↓List.forall_mem_cons,↓Af,↓Ax,push_cast,↓reduceIte,reduceCtorEq,Nat.reduceEqDiff,Nat.reduceLT,Nat.reduceAdd]
end Go.Proofs.YtedaafmfjhjfmaaGreatDoor
