import Derived.Test.YtedaafmfjhjfmaaGreatDoorHb9
import Derived.Test.YtedaafmfjhjfmaaGreatDoorPreA
import Derived.Test.YtedaafmfjhjfmaaGreatDoorGn
/- Layer 30 walked: New as its callers find it; Begin. -/
namespace Go.Proofs.YtedaafmfjhjfmaaGreatDoor
open _root_.Go.Proofs.Tryz
set_option linter.unusedSimpArgs false
set_option linter.unusedVariables false
section
open Go.RowKit
section
variable {w0:World} {hp:List Res}
theorem Afn {sv:Sv} {cf:CfS} (p gen:Int) (h:Hc w0 hp sv cf) (hn:Gy cf p gen=true) (hb2:∀g∈cf.groups,g.ids.length≤1000) (hbr:∀r∈hp,Res.bnd hp.length r) (γ:List Nm) (w:World) (hS:Sat w0 No γ hp w):
  Calls prog 36 (List.map (Sv.val γ) [sv,.x (.a (.v (.int .i64 p))),.x (.a (.v (.int .i64 gen)))]).toArray w fun e w'=>∃(x:(Nat×Nat)×HbR×List Fct) (δ:List Nm),Pn cf p gen x∧e=.returned ((Sv.t [.a (.p hp.length 0),.a (.v .nilIface)]).val (γ++δ))∧Sat w0 No (γ++δ) (hp++(hbB x.1.1 x.1.2 x.2.1++[Res.abs (fctRep x.2.2)]).map (Res.ren (B6 hp.length 7))) w':=by
 obtain⟨a,e1,h1,rfl⟩:=h γ w hS
 have e0:(List.map (Sv.val γ) [sv,.x (.a (.v (.int .i64 p))),.x (.a (.v (.int .i64 gen)))]).toArray=(List.map (Sv.val ([]++[.m (.bool true) (fun _=>False)])) [.x (.g (cfA a)),.x (.a (.v (.int .i64 p))),.x (.a (.v (.int .i64 gen)))]).toArray:=by
  show #[sv.val γ,_,_]=_
  rw[e1]
  rfl
 rw[e0]
 refine (Azz p gen h1 hn (fun g hg=>hb2 g.gr (List.mem_map_of_mem hg))).mono fun e w' ⟨x,γ1,h1,h2,h3⟩=>⟨x,γ1,h1,?_,?_⟩
 ·obtain⟨q1,q2,_⟩:=h3.holds 0 (.pin x.1.1 149 (.c (hbA x.2.1))) rfl
  rw[h2]
  show Ending.returned (.tuple #[.pointer (some ⟨nmB γ1 0,0,none⟩),.nilIface])=Ending.returned (.tuple #[.pointer (some ⟨nmB (γ++γ1) hp.length,0,none⟩),.nilIface])
  have:nmB (γ++γ1) hp.length=nmB γ1 0:=by
   unfold nmB
   rw[List.getElem?_append_right (by rw[hS.len];exact Nat.le_refl _),hS.len,Nat.sub_self]
  rw[this]
 ·exact hS.back [] (X:=No) (fun b h=>h.elim) h3 hbr (M1 _ _ _ _)
theorem Afo {sv:Sv} {cf:CfS} (p gen:Int) (h:Hc w0 hp sv cf) (hn:Gy cf p gen=false):Ad prog w0 No 36 [sv,.x (.a (.v (.int .i64 p))),.x (.a (.v (.int .i64 gen)))] hp (.t [.a (.v (.pointer none)),.a (.v (erV 1))]) hp:=Bc fun γ w hS=>by
 obtain⟨a,e1,h1,rfl⟩:=h γ w hS
 show Calls _ _ #[sv.val γ,_,_] w _
 rw[e1]
 exact Azw p gen h1 hn
end
def bgR (r:HbR) (q:Int):SnR:=⟨false,q,{zeroR with k:=15,pl:=r.place,ge:=r.gen}⟩
def HbS.begin (h:HbS):List SnS:=h.under.map fun q=>⟨false,q,{D1 15 with pl:=h.place,ge:=h.gen}⟩
theorem Az0 (r:HbR) (q:Int):(((mgA zeroR).set 0 (.v (.int .u8 15))).set 1 (.v (.int .i64 r.place))).set 4 (.v (.int .i64 r.gen))=mgA (bgR r q).m:=rfl
theorem Afp (r:HbR) (l:List Int):∀y∈l.map (bgR r),y.m.sm.length=32:=fun y hy=>by
 obtain⟨q,_,rfl⟩:=List.mem_map.1 hy
 rfl
theorem Az1 (r:HbR) (l:List Int) (Fs:List Fct):∀y∈l.map (bgR r),MOk Fs y.m:=fun y hy=>by
 obtain⟨q,_,rfl⟩:=List.mem_map.1 hy
 exact⟨rfl,.inl rfl,.inl rfl,.inl rfl,.inl rfl,⟨rfl,Nat.zero_le _,Nat.zero_le _,Nat.zero_le _,Nat.zero_le _⟩⟩
theorem Az2 (r:HbR):(r.under.l.map (bgR r)).map SnR.s=r.s.begin:=by
 unfold HbS.begin
 rw[List.map_map]
 rfl
attribute [local irreducible] Ac Ad Ah Au Ao Aj Ai Al
attribute [local irreducible] A9 okV Ak erV Bq Tal.can Tal.st
section
variable {r:HbR} {g gs:Nat} {w:World} {B:Nat→Prop} {γ:List Nm} {Fs:List Fct}
set_option maxRecDepth 100000 in
set_option maxHeartbeats 2000000 in
theorem Az3 (hS:Sat w B γ (hbB g gs r) w) (hw:Known w B Fs) (ok:HbOk Fs r):
  Calls prog 91 (List.map (Sv.val (γ++[.m (.bool true) (fun _=>False)])) [.x (.a (.p 0 0))]).toArray w fun e w'=>∃(_:Unit) (γ1:List Nm),True∧e=.returned ((Sv.x (.a (.o 7))).val γ1)∧Sat w B γ1 (hbB g gs r++[.abs (fctRep []),.onn 60 45 (.c (snL (r.under.l.map (bgR r))))]) w':=by
 have fu:=hw.fw ok.under (fun e=>by rw[e];rfl)
 have dz:(mgA zeroR).drop 43=[]:=rfl
 have zb:=fun n=>Bm zeroR n
 simp only[At.bnd] at zb
 have fewU:=ok.few.2.1
 have Fu:FM (Value.int .i64) w B r.under.A r.under.l:=FM.fw fu.2
 have vu:r.under.val=.slice r.under.A r.under.l.length r.under.c:=rfl
 refine Cy (n:=35) (ι:=Unit) (fun _=>True) (fun x=>.x (.a (.o 7))) (fun x=>hbB g gs r++[.abs (fctRep []),.onn 60 45 (.c (snL (r.under.l.map (bgR r))))]) func91 rfl ntmps91 [.x (.a (.p 0 0))] (hS.fct0 (Ar g gs r)) (by show 1≤35;omega) ?_
 unfold hbB hbA
 simp (maxSteps:=10^6) only[vu,undef,push_cast,↓reduceIte,reduceCtorEq,Nat.reduceLT,Nat.reduceAdd]
 refine N7 3 60 45 (.c []) (by omega) rfl rfl (by simp (maxSteps:=10^6) only[↓Ae,↓List.forall_mem_cons,push_cast,Nat.reduceLT,Nat.reduceAdd]) ?_
 simp (maxSteps:=10^6) only[push_cast,Nat.reduceAdd]
 refine Bj (ι:=Nat) (fun i=>⟨[(0,.x (.a (.p 0 0))),(3,.x (.a (.o 7))),(12,.x (.a (.v (.slice r.under.A r.under.l.length r.under.c)))),(13,.x (.a (.v (.int .i64 r.under.l.length)))),(14,.x (.a (.v (.int .i64 (i:Nat)))))],[.pin g 149 (.c [.v (.int .i64 r.place),.v (.int .i64 r.gen),.v (.int .i64 r.parent),.v r.above.val,.v r.under.val,.o 2,.p 1 0,.p 3 0,.v (.int .i64 r.phase)]),.blk 170 (.c (tlA r.ty)),.mp .i64 (slE r.next),.pin gs 120 (.c [.v (.int .i64 r.sm.place),.v (.int .i64 r.sm.dim),.v r.sm.spots.val,.o 4,.o 5]),.mp .i64 (iE r.sm.heard),.mp .i64 (mgE r.sm.taken),.abs (fctRep []),.onn 60 45 (.c (snL ((r.under.l.take i).map (bgR r))))]⟩) (fun i=>i≤r.under.l.length) (fun i=>r.under.l.length - i) 0 [0,1,2,3,4,5,6,7] (Nat.zero_le _) ?_ ?_
 ·have e:snL []=[]:=rfl
  simp (maxSteps:=10^6) only[vu,e,↓Db,↓Gv,↓Ae,↓Aw,↓List.forall_mem_cons,push_cast,↓Int.cast_ofNat_Int,Int.cast_ofNat_Int,↓reduceIte,reduceCtorEq,Nat.reduceEqDiff,Nat.reduceLT,Nat.reduceAdd]
 intro i hi
 by_cases hlt:(i:Int) < r.under.l.length
 ·have hil:i < r.under.l.length:=by omega
  have i0:(0:Int)≤i:=by omega
  have nx:(i:Int)+1≤9223372036854775807:=by omega
  have c0:=Fu.cell i hil
  have o0:=Fu.ok i hil
  have hA:=Fu.some_ (by omega)
  have ht:snL ((r.under.l.take (i+1)).map (bgR r))=snL ((r.under.l.take i).map (bgR r))++(.v (.bool false):: .v (.int .i64 (ix r.under.l i))::mgA (bgR r (ix r.under.l i)).m):=by
   rw[List.take_add_one,List.getElem?_eq_getElem hil,Option.toList_some,List.map_append,List.map_cons,List.map_nil,Wp,←Pj hil]
   rfl
  have gv:=Bd (m:=(bgR r (ix r.under.l i)).m) rfl
  have zv:=fun n=>Bm (bgR r (ix r.under.l i)).m n
  simp only[At.bnd] at zv
  have zs:=fun n=>Sq ((r.under.l.take i).map (bgR r)) n
  simp only[At.bnd] at zs
  have zl:=fun n=>Eo r.ty n
  simp only[At.bnd] at zl
  have nx0:-9223372036854775808≤(i:Int)+1:=by omega
  have hll:(snL ((r.under.l.take i).map (bgR r))).length=i*45:=by
   rw[Mt (Afp r _),List.length_map,List.length_take,Nat.min_eq_left (by omega)]
  have e45:i*45 / 45=i:=Nat.mul_div_cancel _ (by omega)
  have q2:i+1≤2 ^ 63 - 1:=by omega
  have q1:(i+1)*200≤140737488355328:=by omega
  have mvs:=Az0 r (ix r.under.l i)
  generalize ix r.under.l i=q at*
  simp (maxSteps:=10^6) only[hlt,i0,c0,o0,hA,push_cast,↓Int.toNat_natCast,↓reduceIte,reduceCtorEq,Nat.reduceEqDiff,Nat.reduceLT,Nat.reduceAdd]
  (repeat (refine And.intro (by first|omega|decide) ?_))
  refine Ha 10 [(0,true),(1,true),(2,true),(3,true),(4,true),(5,true),(6,true),(7,true),(8,true),(9,false)] (by kernel_rfl) (by kernel_rfl) ?_
  simp (maxSteps:=10^6) only[vu,dz,Bo,F0,Hk,Br,B0,B9,I7,mvs,gv,zv,zs,zl,nx0,hll,e45,q1,q2,nx,List.flatten_cons,List.flatten_nil,List.append_nil,undef,↓Db,↓Ae,↓List.forall_mem_cons,↓A8,push_cast,↓reduceIte,reduceCtorEq,Nat.reduceEqDiff,Nat.reduceLT,Nat.reduceLeDiff,Nat.reduceAdd,Nat.reduceMul,Int.reduceNeg]
  repeat (refine And.intro (by first|exact of_eq_true (mgA_one _ _)|omega) ?_)
  refine Ba (i+1) [0,1,2,3,4,5,6,10] (show i+1≤r.under.l.length by omega) (show r.under.l.length - (i+1) < r.under.l.length - i by omega) ?_
  simp (maxSteps:=10^6) only[ht,↓Db,↓Gv,↓Ae,↓Aw,↓List.forall_mem_cons,push_cast,↓reduceIte,reduceCtorEq,Nat.reduceEqDiff,Nat.reduceLT,Nat.reduceAdd]
  done
 obtain rfl:i=r.under.l.length:=by omega
 rw[List.take_length]
 simp (maxSteps:=10^6) only[hlt,push_cast,↓reduceIte,reduceCtorEq,Nat.reduceEqDiff,Nat.reduceLT,Nat.reduceAdd]
 refine⟨(),A6 [0,1,2,3,4,5,6,7] ?_⟩
 simp (maxSteps:=10^6) only[vu,↓Db,↓Gv,↓Ae,↓Aw,↓List.forall_mem_cons,push_cast,↓reduceIte,reduceCtorEq,Nat.reduceEqDiff,Nat.reduceLT,Nat.reduceAdd]
theorem Az4 (hS:Sat w B γ (hbB g gs r) w) (hw:Known w B Fs) (ok:HbOk Fs r):
  Calls prog 91 #[.pointer (some ⟨g,0,none⟩)] w fun e w'=>∃(x:SlV SnR×List Fct) (γ1:List Nm),(x.1.l.map SnR.s=r.s.begin∧OutOk x.2 x.1)∧e=.returned x.1.val∧Sat w B γ1 (hbB g gs r++[.abs (fctRep x.2)]) w':=by
 have arg:=Fe hS [] (fun x hx γ γ'=>by cases hx) γ
 have:=Az3 hS hw ok
 rw[arg] at this
 refine this.mono fun e w' ⟨_,γ1,_,he,hS1⟩=>?_
 have hf:=ok.few.2.1
 obtain⟨A1,cap,γ',e1,e2,eB,eS,h5⟩:=hS1.onnF (j:=7) (k:=6) (vs:=(r.under.l.map (bgR r)).flatMap snV) (n:=r.under.l.length) (l:=[]) rfl rfl (by decide) (I6 γ1 _) (by rw[Id (Afp r _),List.length_map])
 have h6:Sat w B γ' ((hbB g gs r++[.abs (fctRep ([]++[⟨.slice A1 r.under.l.length cap,r.under.l.length,(r.under.l.map (bgR r)).flatMap snV⟩]))])++[.gone]) w':=h5
 have hO:=OutOk.of (Fs:=[]) (A:=A1) (cap:=cap) (L:=r.under.l.map (bgR r)) (Az1 r _ _) (by rw[List.length_map];omega)
 rw[List.length_map] at hO
 refine⟨(⟨A1,cap,r.under.l.map (bgR r)⟩,[]++[⟨.slice A1 r.under.l.length cap,r.under.l.length,(r.under.l.map (bgR r)).flatMap snV⟩]),_,⟨Az2 r,hO⟩,?_,h6.frontOf (M1 g gs _ _)⟩
 rw[he]
 show Ending.returned (nmS γ1 7)=Ending.returned (Value.slice A1 (r.under.l.map (bgR r)).length cap)
 rw[e1,List.length_map]
end
end
section
open Go.RowKit Go.Extern.Stop Go.Stop Go.Extern
theorem Az5 (w:World):Calls prog 92 #[.nilIface] w fun e w'=>e=.returned (.int .i64 0)∧Below w.heap.size w w':=by
 go_enter func92,ntmps92
 go_wp2
 go_ret
 exact⟨rfl,(Below.refl _ _).alloc (Nat.le_refl _) _⟩
set_option maxRecDepth 220000 in
set_option maxHeartbeats 4000000 in
theorem Az6 (n:Int) (w:World) (hg:Handle w):Calls prog 92 #[.iface 91 (.int .i64 n)] w fun e w'=>e=.returned (.int .i64 n)∧Below w.heap.size w w':=by
 have hlt:0 < w.heap.size:=block_lt_of_cell hg
 have hgA:(w.alloc (.cells #[.int .i64 0] 91)).cell? ⟨0,0,none⟩=some (.iface 217 (.agg #[.pointer (some ⟨1,32,none⟩)])):=by
  rw[World.cell?_alloc_lt _ _ ⟨0,0,none⟩ hlt];exact hg
 have htA:(w.alloc (.cells #[.int .i64 0] 91)).cell? ⟨w.heap.size,0,none⟩=some (.int .i64 0):=by simp
 have hfA:(w.alloc (.cells #[.int .i64 0] 91)).frozen? ⟨w.heap.size,0,none⟩=false:=by simp
 go_enter func92,ntmps92
 go_wp2_with (go_at_call 103;refine (Ahc n _ (.int .i64 0) _ hgA htA hfA).mono ?_;rintro e w' ⟨rfl,rfl⟩)
 go_ret
 refine⟨rfl,?_⟩
 exact (((((Below.refl w.heap.size w).alloc (Nat.le_refl _) _).alloc (by simp) _).alloc (by simp;omega) _).alloc (by simp;omega) _).alloc (by simp;omega) _
end
section
open Go.RowKit
structure CfR.Wide (c:CfR) (w:World):Prop where
 plen:c.ps.l.length≤c.ps.c
 pw:c.ps.l.length*24≤140737488351232
 prd:RdV w w.heap.size c.ps.A (c.ps.l.flatMap plV)
 glen:c.gs.l.length≤c.gs.c
 gw:c.gs.l.length*40≤140737488351232
 grd:RdV w w.heap.size c.gs.A (c.gs.l.flatMap grV)
 ids:∀g∈c.gs.l,g.ids.l.length≤g.ids.c∧g.ids.l.length*8≤140737488351232∧RdV w w.heap.size g.ids.A (g.ids.l.map (Value.int .i64))
def Gf (c:CfR) (i:Nat):List Value:=(c.ps.l.take i).flatMap plV
theorem Az7 {c:CfR} {i:Nat} (h:i < c.ps.l.length):vC (Gf c (i+1))=vC (Gf c i)++[.v (.int .i64 (ix c.ps.l i).parent),.v (.int .i64 (ix c.ps.l i).spare),.v (.int .i64 (ix c.ps.l i).need)]:=by
 unfold Gf
 rw[List.take_add_one,List.getElem?_eq_getElem h,Option.toList_some,List.flatMap_append,Ov,List.flatMap_cons,List.flatMap_nil,List.append_nil,ix,List.getD_eq_getElem?_getD,List.getElem?_eq_getElem h]
 rfl
theorem Az8 {c:CfR} {i:Nat} (h:i≤c.ps.l.length):(Gf c i).length=i*3:=by
 unfold Gf
 rw[Cv I4,List.length_take,Nat.min_eq_left h]
theorem Az9 (c:CfR):Gf c c.ps.l.length=c.ps.l.flatMap plV:=by unfold Gf;rw[List.take_length]
attribute [local irreducible] Ac Ad Ah Au Ao Aj Ai Al
attribute [local irreducible] Gf vC
section
end
end
section
open Go.RowKit
theorem CfR.Wide.later {w0 w:World} {c:CfR} {γ:List Nm} {hp:List Res} (h:c.Wide w0) (hS:Sat w0 No γ hp w):c.Wide w:=
 ⟨h.plen,h.pw,C5 h.prd hS,h.glen,h.gw,C5 h.grd hS,fun g hg=>⟨(h.ids g hg).1,(h.ids g hg).2.1,C5 (h.ids g hg).2.2 hS⟩⟩
theorem A0a {w0:World} {hp:List Res} {dim least term:Int} {ps:List PlS} {gs:List GrS} {j k:Nat} {e:TypeId} (hj:hp[j]?=some (.onn e 3 (.c (vC (ps.flatMap plV))))) (hk:hp[k]?=some (.abs (Fq gs))) (h1:ps.length≤1000000) (h2:gs.length≤1000000) (h3:∀g∈gs,g.ids.length≤1000000):
  Hc w0 hp (.x (.g [.v (.int .i64 dim),.o j,.o k,.v (.int .i64 least),.v (.int .i64 term)])) ⟨dim,ps,gs,least,term⟩:=fun γ w hS=>by
 obtain⟨A,cap,e1,e2,e3⟩:=Mr (n:=ps.length) hS hj (Jy γ _) (by rw[Cv I4])
 have e4:=e3.rd rfl fun b hb=>(hS.mine j _ b hj hb).2
 obtain⟨_,hlt,gR,A2,cap2,rfl,f1,f2,f3⟩:=hS.holds k _ hk
 rw[f1] at f2
 have f4:=f2.rd rfl hlt
 rw[List.length_map] at h2
 refine⟨⟨dim,⟨A,cap,ps⟩,⟨A2,cap2,gR⟩,least,term⟩,?_,⟨e4.1,h1,e4.2,f4.1,h2,f4.2,fun g hg=>?_⟩,rfl⟩
 ·show Value.agg [_,nmS γ j,nmS γ k,_,_].toArray=_
  rw[e1,f1]
  rfl
 ·have:=(f3 g hg).rd (A:=g.ids.A) (c:=g.ids.c) rfl hlt
  exact⟨this.1,h3 g.gr (List.mem_map_of_mem hg),this.2⟩
def Jc (c:CfS):Bool:=decide (30 < c.places.length)||(decide (30 < c.groups.length)||c.groups.any fun g=>decide (30 < g.ids.length))
theorem A0b {c:CfS} (h:Jc c=false):c.places.length≤30∧c.groups.length≤30∧∀g∈c.groups,g.ids.length≤30:=by
 unfold Jc at h
 rw[Bool.or_eq_false_iff,Bool.or_eq_false_iff,List.any_eq_false] at h
 obtain⟨h1,h2,h3⟩:=h
 have h1:=of_decide_eq_false h1
 have h2:=of_decide_eq_false h2
 refine⟨by omega,by omega,fun g hg=>?_⟩
 have:=h3 g hg
 simp only[decide_eq_true_eq] at this
 omega
attribute [local irreducible] Ac Ad Ah Au Ao Aj Ai Al
attribute [local irreducible] vC
section
end
end
end Go.Proofs.YtedaafmfjhjfmaaGreatDoor
