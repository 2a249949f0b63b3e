import Derived.Test.YtedaafmfjhjfmaaGreatDoorPreA
import Derived.Test.YtedaafmfjhjfmaaGreatDoorTs28
import Derived.Test.YtedaafmfjhjfmaaGreatDoorMgE28
/- An error's number (law 28's num): nil's is nought, an Errno's is its own. -/
namespace Go.Proofs.YtedaafmfjhjfmaaGreatDoor
open Go.RowKit Go.Extern.Stop Go.Stop Go.Extern
theorem A8j (w:World):Calls Tryz.prog 48 #[.nilIface] w fun e w'=>e=.returned (.int .i64 0)∧Below w.heap.size w w':=by
 go_enter Tryz.func48,Tryz.ntmps48
 go_wp2
 go_ret
 exact⟨rfl,(Below.refl _ _).alloc (Nat.le_refl _) _⟩
set_option maxRecDepth 220000 in
set_option maxHeartbeats 4000000 in
theorem A8k (n:Int) (w:World) (hg:Handle w):Calls Tryz.prog 48 #[.iface 91 (.int .i64 n)] w fun e w'=>e=.returned (.int .i64 n)∧Below w.heap.size w w':=by
 have hlt:0 < w.heap.size:=block_lt_of_cell hg
 have hgA:(w.alloc (.cells #[.int .i64 0] 91)).cell? ⟨0,0,none⟩=some (.iface 217 (.agg #[.pointer (some ⟨1,32,none⟩)])):=by
  rw[World.cell?_alloc_lt _ _ ⟨0,0,none⟩ hlt];exact hg
 have htA:(w.alloc (.cells #[.int .i64 0] 91)).cell? ⟨w.heap.size,0,none⟩=some (.int .i64 0):=by simp
 have hfA:(w.alloc (.cells #[.int .i64 0] 91)).frozen? ⟨w.heap.size,0,none⟩=false:=by simp
 go_enter Tryz.func48,Tryz.ntmps48
 go_wp2_with (go_at_call 103;refine (Ae0 n _ (.int .i64 0) _ hgA htA hfA).mono ?_;rintro e w' ⟨rfl,rfl⟩)
 go_ret
 refine⟨rfl,?_⟩
 exact (((((Below.refl w.heap.size w).alloc (Nat.le_refl _) _).alloc (by simp) _).alloc (by simp;omega) _).alloc (by simp;omega) _).alloc (by simp;omega) _
end Go.Proofs.YtedaafmfjhjfmaaGreatDoor
/- Law 28: what its walk wants. -/
namespace Go.Proofs.YtedaafmfjhjfmaaGreatDoor
open Go.RowKit
set_option linter.unusedSimpArgs false
set_option linter.unusedVariables false
section
variable {P:Program} {w0:World} {ow:Nat→Prop} {n:Nat}
theorem A8l {R:Prop} {c:Code} {K:Exit→S→Prop} {X:Type} (I:X→Prop) (F:X→S) (h:(∀x,I x→Ay P w0 ow n c (F x) K)→R) (k:∀x,I x→Ay P w0 ow n c (F x) K):R:=h k
theorem S6 {c:Code} {s s':S} {K:Exit→S→Prop} (hl:Gu w0 ow n s s') (h:Ay P w0 ow n c s' K):Ay P w0 ow n c s K:=fun a w hf=>h a w (hl a w hf)
theorem A8m {ι:Type} (Q:ι→Prop) (sv:ι→Sv) (hq:ι→List Res) {ops:List Oper} {o:Oper} {p:List (Nat×Bool)} {f:FuncId} {xs:List Operand} {tys:Array TypeId} {s:S} {svs:List Sv} {K:S→Prop} (ho:o.op=.call {callee:=.value (.func f),args:=xs.toArray,argTypes:=tys})
  (hcb:Ah P f) (hev:evs s.fr xs=some svs) (hc:∀γ w,Sat w0 ow γ s.hp w→Calls P f (svs.map (Sv.val γ)).toArray w fun e w'=>∃i δ,Q i∧e=.returned ((sv i).val (γ++δ))∧Sat w0 ow (γ++δ) (s.hp++hq i) w') (hd:dOk n o.dst) (hb:s.bnd)
  (h:∀i,Q i→A6 P w0 ow n ops p (S.put ⟨s.fr,s.hp++hq i⟩ o.dst (sv i)) K):Bc P w0 ow n ops o p s K:=by
 intro γ a w hf
 unfold Oper.wp
 rw[Lt ho rfl hcb (args:=(svs.map (Sv.val γ)).toArray) (by rw[List.map_toArray,Hn hf hev])]
 simp only[Oper.upon]
 refine (hc γ w hf.sat).mono ?_
 rintro e w' ⟨i,δ,hi,rfl,hS'⟩
 have hfit:=hf.put (d:=o.dst) hS' (fun t sv' ht=>Sv.ext (by rw[hf.sat.len];exact hb.1 _ (Fr.get_mem ht))) hd (v:=sv i) rfl
 have hhp:(S.put ⟨s.fr,s.hp++hq i⟩ o.dst (sv i)).hp=s.hp++hq i:=by cases o.dst<;>rfl
 have h2:=I8 p _ _ _ _ (h i hi) hfit
 rw[hhp] at h2
 show ∃C2:World→Prop,_
 exact⟨_,hS',fun x hx=>hx.front hf.sat.len hb.2,h2⟩
theorem A8n {A M:List Res} (l0:List Nat) {ops rest:List Oper} {o:Oper} {s:S} {K:S→Prop} (hs:s.hp=A++M) (hp:0 < A.length) (hbA:∀r∈A,Res.bnd A.length r) (hb:s.bnd) (hfr:∀x∈keepS l0 s.fr,Sv.bnd A.length x.2)
  (hM:∀r∈M,Res.bnd 0 r) (h:∀γ w,Sat w0 ow γ s.hp w→Am P w (fun b=>∃(k:Nat) (r:Res),A[k]?=some r∧r.has γ k b) n ops o rest ⟨keepS l0 s.fr,A⟩ fun s'=>∃(A' N:List Res) (l:List Nat),s'.hp=A'++N∧A'.length=A.length∧(∀r∈A',Res.bnd A.length r)∧(∀x∈keepS l s'.fr,Sv.bnd A.length x.2)∧K ⟨keepS l s'.fr,A'++M⟩):Am P w0 ow n ops o rest s K:=by
 rintro a w ⟨γ,hf⟩ hwt
 have hS:Sat w0 ow γ (A++M) w:=by rw[←hs];exact hf.sat
 have hbr:∀r∈A++M,Res.bnd (A++M).length r:=by rw[←hs];exact hb.2
 have hl:=hS.len
 rw[List.length_append] at hl
 have e:∀k,k < A.length→(γ.take A.length)[k]?=γ[k]?:=fun k hk=>List.getElem?_take_of_lt hk
 refine Kf (fun ex a' w' hq=>?_) _ _ _ (h γ w hf.sat a w ⟨_,hS.frontA hbA,hf.defers,hf.size,fun u sv hu=>?_⟩ hwt)
 ·obtain⟨h0,s',⟨γ1,hf1⟩,A',N,l,h1,h2,h3,h4,h5⟩:=hq
  refine⟨h0,?_⟩
  have hS1:Sat w (fun b=>∃(k:Nat) (r:Res),A[k]?=some r∧r.has γ k b) γ1 (A'++N) w':=by rw[←h1];exact hf1.sat
  have hS2:=hS1.frontOf (by rw[h2];exact h3)
  obtain⟨γ',hS',hag⟩:=hS.frame hS2 (fun b hb=>hb) h2 hp hbr h3 hM
  refine⟨_,⟨γ',hS',hf1.defers,hf1.size,fun u sv hu=>?_⟩,h5⟩
  rw[hf1.at_ u sv (Kj l _ _ _ hu)]
  refine (Sv.eqv (n:=A.length) (fun i hi=>?_) (h4 _ (Fr.get_mem hu))).symm
  have e2:(γ1.take A'.length)[i]?=γ1[i]?:=List.getElem?_take_of_lt (by omega)
  constructor
  ·unfold nmB;rw[hag i hi,e2]
  ·unfold nmS;rw[hag i hi,e2]
 ·rw[hf.at_ u sv (Kj l0 _ _ _ hu)]
  refine (Sv.eqv (n:=A.length) (fun i hi=>?_) (hfr _ (Fr.get_mem hu))).symm
  constructor
  ·unfold nmB;rw[e i hi]
  ·unfold nmS;rw[e i hi]
end
attribute [local irreducible] Ah Ai Am Bc A7 Ay Ap A6
attribute [local irreducible] A8 okV Bj erV Tal.can Tal.st Bz Cd cfF tcF isP ofP abF Kv Cs Cb
section
variable {w0:World} {ow:Nat→Prop} {hp:List Res}
theorem Ws {g:Nat} {r:LfR} {M:List Res} (hh:hp=lfB g r++M) (hsm:r.sum.sm.length=32):Ai Tryz.prog w0 ow 13 [.x (.a (.p 0 0))] hp (.x (.a (.v (.int .i64 r.phase)))) hp:=Bq fun γ w hS=>by
 rw[hh] at hS
 obtain⟨hg,hat⟩:=Js hS
 show Calls _ _ #[.pointer (some ⟨nmB γ 0,0,none⟩)] w _
 rw[hg]
 exact A2z r _ w hat hsm
theorem A8o {s1 s2:Sv} {a b:List UInt32} (k:UInt64) (h1:B3 w0 ow hp s1 (a.map Ak)) (h2:B3 w0 ow hp s2 (b.map Ak)) (hbr:∀r∈hp,Res.bnd hp.length r):
  Ai Tryz.prog w0 ow 16 [s1,s2,.x (.a (.v (vU64 k)))] hp (.t [.a (.o hp.length),.a (.v (.bool (Fl a b)))]) (hp++[.own 111 (.u32 (Ir (Gk k) a b))]):=Ug hbr trivial fun γ w hS=>by
 obtain⟨A,c,e1,b1,r1⟩:=h1 γ w hS
 obtain⟨A2,c2,e2,b2,r2⟩:=h2 γ w hS
 rw[List.length_map] at e1 e2
 show Calls _ _ #[s1.val γ,s2.val γ,vU64 k] w _
 rw[e1,e2]
 exact A4h a b k A c A2 c2 w r1 r2
theorem A8p {s1 s2:Sv} {a b:List UInt32} (hm:a.length≤100000) (h1:B3 w0 ow hp s1 (a.map Ak)) (h2:B3 w0 ow hp s2 (b.map Ak)):Ai Tryz.prog w0 ow 17 [s1,s2] hp (.x (.a (.v (.bool (decide (a=b)))))) hp:=Bq fun γ w hS=>by
 obtain⟨A,c,e1,b1,r1⟩:=h1 γ w hS
 obtain⟨A2,c2,e2,b2,r2⟩:=h2 γ w hS
 rw[List.length_map] at e1 e2 b1 b2
 show Calls _ _ #[s1.val γ,s2.val γ] w _
 rw[e1,e2]
 exact A1t a b A c A2 c2 w hm b1 b2 r1 r2
theorem A8q {m n:MgR} (h1:MgF m w0 ow) (h2:MgF n w0 ow):Ai Tryz.prog w0 ow 18 [.x (.g (mgA m)),.x (.g (mgA n))] hp (.x (.a (.v (.bool (Jv m.mg n.mg))))) hp:=Bq fun γ w hS=>by
 have:=Acs m n w (h1.ok hS) (h2.ok hS)
 have e:List.map (Sv.val γ) [.x (.g (mgA m)),.x (.g (mgA n))]=List.map (Sv.val []) [.x (.g (mgA m)),.x (.g (mgA n))]:=by
  simp only[List.map_cons,List.map_nil,C4]
 rw[e]
 exact this
theorem Adc {sv:Sv} {cf:CfS} (p gen:Int) (h:Jq w0 hp sv cf) (hn:Eo cf p gen=true) (hb1:cf.places.length≤900) (hb2:∀g∈cf.groups,g.ids.length≤1000) (hbr:∀r∈hp,Res.bnd hp.length r) (γ:List Nm) (w:World) (hS:Sat w0 No γ hp w):
  Calls Tryz.prog 9 (List.map (Sv.val γ) [sv,.x (.a (.v (.int .i64 p))),.x (.a (.v (.int .i64 gen)))]).toArray w fun e w'=>∃(x:Nat×LfR×List Fct) (δ:List Nm),Me cf p gen x∧e=.returned ((Sv.t [.a (.p hp.length 0),.a (.v .nilIface)]).val (γ++δ))∧Sat w0 No (γ++δ) (hp++(lfB x.1 x.2.1++[Res.abs (Aa x.2.2)]).map (Res.ren (Ca hp.length 6))) w':=by
 obtain⟨a,e1,h1,rfl⟩:=h γ w hS
 have e0:(List.map (Sv.val γ) [sv,.x (.a (.v (.int .i64 p))),.x (.a (.v (.int .i64 gen)))]).toArray=#[.agg (cfV a).toArray,.int .i64 p,.int .i64 gen]:=by
  show #[sv.val γ,_,_]=_
  rw[e1]
  rfl
 rw[e0]
 refine (A7z p gen h1 hn hb1 (fun g hg=>hb2 g.gr (List.mem_map_of_mem hg))).mono fun e w' ⟨x,γ1,h1,h2,h3⟩=>⟨x,γ1,h1,?_,?_⟩
 ·obtain⟨q1,q2,_⟩:=h3.holds 0 (.pin x.1 104 (.c (lfA x.2.1))) rfl
  rw[h2]
  show _=Ending.returned (.tuple #[.pointer (some ⟨nmB (γ++γ1) hp.length,0,none⟩),.nilIface])
  have:nmB (γ++γ1) hp.length=nmB γ1 0:=by
   unfold nmB
   rw[List.getElem?_append_right (by rw[hS.len];exact Nat.le_refl _),hS.len,Nat.sub_self]
  rw[this,q2]
 ·exact hS.back [] (X:=No) (fun b h=>h.elim) h3 hbr (Ju _ _ _)
theorem Add {sv:Sv} {cf:CfS} (p gen:Int) (h:Jq w0 hp sv cf) (hn:Eo cf p gen=false):Ai Tryz.prog w0 No 9 [sv,.x (.a (.v (.int .i64 p))),.x (.a (.v (.int .i64 gen)))] hp (.t [.a (.v (.pointer none)),.a (.v (erV 1))]) hp:=Bq fun γ w hS=>by
 obtain⟨a,e1,h1,rfl⟩:=h γ w hS
 show Calls _ _ #[sv.val γ,_,_] w _
 rw[e1]
 exact A7v p gen h1 hn
theorem A8r {m:MgR} (w:World) (hm:m.Ok w):Calls Tryz.prog 12 #[.agg (mgV m).toArray] w fun e w'=>∃(x:MgR×List Fct) (γ1:List Nm),(x.1.mg=m.mg∧MOk x.2 x.1)∧e=.returned (.agg (mgV x.1).toArray)∧Sat w No γ1 [.abs (Aa x.2)] w':=by
 have h0:=A8i m w hm
 have e0:(List.map (Sv.val []) [.x (.g (mgA m))]).toArray=#[.agg (mgV m).toArray]:=by
  show #[(Sv.x (.g (mgA m))).val []]=_
  rw[C4]
 rw[e0] at h0
 refine h0.mono fun e w' ⟨γ1,he,hS⟩=>?_
 have few:=hm.few
 have h0:=hS.fct0 (fun r hr=>by
  simp only[List.mem_cons,List.not_mem_nil,or_false] at hr
  rcases hr with rfl|rfl|rfl|rfl
  ·trivial
  ·trivial
  ·exact of_eq_true (by simp (maxSteps:=10^6) only[G5,push_cast,Nat.reduceAdd])
  ·trivial)
 have hl1:=hS.len
 obtain⟨A1,c1,γ2,a1,b1,eB1,eS1,s1⟩:=h0.ownF (j:=0) (k:=4) (c:=.i64 m.ids.l) (vs:=m.ids.l.map (Value.int .i64)) (l:=[]) rfl rfl (by decide) (fun _=>rfl)
 obtain⟨A2,c2,γ3,a2,b2,eB2,eS2,s2⟩:=s1.ownF (j:=1) (k:=4) (c:=.u64 m.ns.l) (vs:=m.ns.l.map vU64) rfl rfl (by decide) (fun _=>rfl)
 obtain⟨A3,c3,γ4,a3,b3,eB3,eS3,s3⟩:=s2.onnF (j:=2) (k:=4) (vs:=pvs m.ps.l) (n:=m.ps.l.length) rfl rfl (by decide) (L3 γ3 m.ps.l) (Jj m.ps.l)
 obtain⟨A4,c4,γ5,a4,b4,eB4,eS4,s4⟩:=s3.ownF (j:=3) (k:=4) (c:=.u32 m.xs.l) (vs:=m.xs.l.map Ak) rfl rfl (by decide) (fun _=>rfl)
 rw[List.length_map] at a1 b1 a2 b2 a4 b4
 obtain⟨h7,_⟩:=s4.sel (ρ:=[4]) (hp0:=[.abs (Aa [⟨.slice A1 m.ids.l.length c1,m.ids.l.length,m.ids.l.map (Value.int .i64)⟩,⟨.slice A2 m.ns.l.length c2,m.ns.l.length,m.ns.l.map vU64⟩,⟨.slice A3 m.ps.l.length c3,m.ps.l.length,pvs m.ps.l⟩,⟨.slice A4 m.xs.l.length c4,m.xs.l.length,m.xs.l.map Ak⟩])]) ⟨by simp [Res.ren],trivial⟩ ⟨trivial,trivial⟩ (fun r hr=>by rw[List.mem_singleton.1 hr];trivial)
 refine⟨({m with ids:=⟨A1,c1,m.ids.l⟩,ns:=⟨A2,c2,m.ns.l⟩,ps:=⟨A3,c3,m.ps.l⟩,xs:=⟨A4,c4,m.xs.l⟩},[⟨.slice A1 m.ids.l.length c1,m.ids.l.length,m.ids.l.map (Value.int .i64)⟩,⟨.slice A2 m.ns.l.length c2,m.ns.l.length,m.ns.l.map vU64⟩,⟨.slice A3 m.ps.l.length c3,m.ps.l.length,pvs m.ps.l⟩,⟨.slice A4 m.xs.l.length c4,m.xs.l.length,m.xs.l.map Ak⟩]),_,⟨rfl,few.sm,.inr (List.mem_cons_self ..),.inr (List.mem_cons_of_mem _ (List.mem_cons_self ..)),.inr (List.mem_cons_of_mem _ (List.mem_cons_of_mem _ (List.mem_cons_self ..))),.inr (List.mem_cons_of_mem _ (List.mem_cons_of_mem _ (List.mem_cons_of_mem _ (List.mem_cons_self ..)))),few⟩,?_,h7⟩
 rw[he]
 have ex:∀i,i < 4→nmS (γ1++[Nm.m (.bool true) (fun _=>False)]) i=nmS γ1 i:=fun i hi=>C3 (by rw[hl1];exact hi)
 have x1:At.val γ1 (.o 0)=.slice A1 m.ids.l.length c1:=by
  show nmS γ1 0=_
  rw[←ex 0 (by decide)]
  exact a1
 have x2:At.val γ1 (.o 1)=.slice A2 m.ns.l.length c2:=by
  show nmS γ1 1=_
  rw[←ex 1 (by decide),←eS1]
  exact a2
 have x3:At.val γ1 (.o 2)=.slice A3 m.ps.l.length c3:=by
  show nmS γ1 2=_
  rw[←ex 2 (by decide),←eS1,←eS2]
  exact a3
 have x4:At.val γ1 (.o 3)=.slice A4 m.xs.l.length c4:=by
  show nmS γ1 3=_
  rw[←ex 3 (by decide),←eS1,←eS2,←eS3]
  exact a4
 show Ending.returned (.agg ((mgL _ _ _ _ _ _ _ _ _ _ _ _).map (At.val γ1)).toArray)=_
 rw[Ks,x1,x2,x3,x4]
 rfl
end
end Go.Proofs.YtedaafmfjhjfmaaGreatDoor
/- Law 28: pairOf. -/
namespace Go.Proofs.YtedaafmfjhjfmaaGreatDoor
open Go.RowKit
set_option linter.unusedSimpArgs false
set_option linter.unusedVariables false
def Cr:CfS:=⟨1,[⟨-1,0,1⟩,⟨0,1,1⟩],[⟨1,[3,5],2⟩],1,9⟩
theorem Ade:Eo Cr 1 4=true:=by decide+kernel
theorem A8s:Eo Cr 0 4=false:=by decide+kernel
attribute [local irreducible] Ah Ai Am Bc A7 Ay Ap A6
set_option maxRecDepth 100000 in
theorem A8t (w:World):Calls Tryz.prog 46 (List.map (Sv.val []) []).toArray w fun e w'=>∃γ1,e=.returned ((Sv.x (.g [.v (.int .i64 1),.o 0,.o 2,.v (.int .i64 1),.v (.int .i64 9)])).val γ1)∧Sat w No γ1 [.onn 98 3 (.c [.v (.int .i64 (-1)),.v (.int .i64 0),.v (.int .i64 1),.v (.int .i64 0),.v (.int .i64 1),.v (.int .i64 1)]),.blk 3 (.i64 [3,5]),.onn 96 3 (.c [.v (.int .i64 1),.s 1 0 2 2,.v (.int .i64 2)])] w':=by
 refine Jf (n:=8) Tryz.func46 rfl Tryz.ntmps46 [] (Sat.init w No) (by simp) _ _ ?_
 simp (maxSteps:=10^6) only[undef,push_cast,↓reduceIte,reduceCtorEq,Nat.reduceEqDiff,Nat.reduceLT,Nat.reduceLeDiff,Nat.reduceAdd,Nat.reduceMul,Int.reduceNeg]
 refine A9 [1,2,3] ?_
 simp (maxSteps:=10^6) only[push_cast,↓reduceIte,Nat.reduceEqDiff,Nat.reduceLT,Nat.reduceAdd,Int.reduceNeg]
structure CfFk (Fs:List Fct) (a:CfR):Prop where
 ps:(⟨a.ps.val,a.ps.l.length,a.ps.l.flatMap plV⟩:Fct)∈Fs
 gs:(⟨a.gs.val,a.gs.l.length,a.gs.l.flatMap grV⟩:Fct)∈Fs
 ids:∀g∈a.gs.l,(⟨g.ids.val,g.ids.l.length,g.ids.l.map (Value.int .i64)⟩:Fct)∈Fs
 few:a.ps.l.length≤1000000∧a.gs.l.length≤1000000∧∀g∈a.gs.l,g.ids.l.length≤1000000
theorem S7 {α:Type} {w0 w:World} {ow:Nat→Prop} {γ:List Nm} {hp:List Res} {k:Nat} {l:List Fct} {s:SlV α} {vs:List Value} (hS:Sat w0 ow γ hp w) (hk:hp[k]?=some (.abs (Aa l))) (hf:(⟨s.val,s.l.length,vs⟩:Fct)∈l):s.l.length≤s.c∧RdV w w.heap.size s.A vs:=by
 obtain⟨A,c,h1,h2,_,h3⟩:=Qy hS hk hf
 have h1:Value.slice s.A s.l.length s.c=.slice A s.l.length c:=h1
 injection h1 with e1 _ e3
 subst e1 e3
 exact⟨h2,h3⟩
theorem Adf {w0:World} {hp:List Res} {k:Nat} {l:List Fct} {a:CfR} (hk:hp[k]?=some (.abs (Aa l))) (h:CfFk l a):Jq w0 hp (.x (.g (cfA a))) a.cf:=fun γ w hS=>by
 obtain⟨p1,p2⟩:=S7 hS hk h.ps
 obtain⟨g1,g2⟩:=S7 hS hk h.gs
 exact⟨a,rfl,⟨p1,h.few.1,p2,g1,h.few.2.1,g2,fun g hg=>⟨(S7 hS hk (h.ids g hg)).1,h.few.2.2 g hg,(S7 hS hk (h.ids g hg)).2⟩⟩,rfl⟩
theorem Adg (w:World):Calls Tryz.prog 46 #[] w fun e w'=>∃(x:CfR×List Fct) (γ1:List Nm),(x.1.cf=Cr∧CfFk x.2 x.1)∧e=.returned ((Sv.x (.g (cfA x.1))).val [])∧Sat w No γ1 [.abs (Aa x.2)] w':=by
 refine (A8t w).mono fun e w' ⟨γ1,he,hS⟩=>?_
 have h0:=hS.fct0 (fun r hr=>by
  simp only[List.mem_cons,List.not_mem_nil,or_false] at hr
  rcases hr with rfl|rfl|rfl<;>(simp (maxSteps:=10^6) only[push_cast,Nat.reduceLT,Nat.reduceAdd,Int.reduceNeg]))
 have hl1:=hS.len
 obtain⟨A1,c1,γ2,a1,b1,eB1,eS1,s1⟩:=h0.onnF (j:=0) (k:=3) (vs:=[(⟨-1,0,1⟩:PlS),⟨0,1,1⟩].flatMap plV) (n:=2) (l:=[]) rfl rfl (by decide) rfl rfl
 obtain⟨A2,c2,γ3,a2,b2,eB2,eS2,s2⟩:=s1.onnF (j:=2) (k:=3) (vs:=[(⟨1,⟨some ⟨nmB γ2 1,0,none⟩,2,[3,5]⟩,2⟩:GrR)].flatMap grV) (n:=1) rfl rfl (by decide) rfl rfl
 have hr:=s2.rdBlk (k:=1) (t:=3) (c:=.i64 [3,5]) rfl 0
 have eb:nmB γ3 1=nmB γ2 1:=by rw[eB2]
 obtain⟨γ4,eB3,eS3,s3⟩:=s2.absorbs (j:=1) (k:=3) (fs:=[⟨.slice (some ⟨nmB γ2 1,0,none⟩) 2 2,2,[3,5].map (Value.int .i64)⟩]) (r:=.blk 3 (.i64 [3,5])) rfl rfl (by decide) (X:=fun b=>some (nmB γ3 1)=some b) (fun b hb=>hb) fun f hf=>by
   rw[List.mem_singleton.1 hf]
   refine⟨some ⟨nmB γ2 1,0,none⟩,2,rfl,Nat.le_refl _,by unfold maxLen;omega,fun hp=>⟨nmB γ2 1,0,rfl,by rw[eb],fun q u hu=>?_⟩⟩
   obtain⟨b,off,e1,_,e2⟩:=hr (by show 0 < 2;omega)
   cases e1
   rw[←eb]
   exact e2 q u hu
 obtain⟨h7,_⟩:=s3.sel (ρ:=[3]) (hp0:=[.abs (Aa [⟨.slice A1 2 c1,2,[(⟨-1,0,1⟩:PlS),⟨0,1,1⟩].flatMap plV⟩,⟨.slice A2 1 c2,1,[(⟨1,⟨some ⟨nmB γ2 1,0,none⟩,2,[3,5]⟩,2⟩:GrR)].flatMap grV⟩,⟨.slice (some ⟨nmB γ2 1,0,none⟩) 2 2,2,[3,5].map (Value.int .i64)⟩])]) ⟨by simp [Res.ren],trivial⟩ ⟨trivial,trivial⟩ (fun r hr=>by rw[List.mem_singleton.1 hr];trivial)
 refine⟨(⟨1,⟨A1,c1,[⟨-1,0,1⟩,⟨0,1,1⟩]⟩,⟨A2,c2,[⟨1,⟨some ⟨nmB γ2 1,0,none⟩,2,[3,5]⟩,2⟩]⟩,1,9⟩,_),_,⟨rfl,⟨List.mem_cons_self ..,List.mem_cons_of_mem _ (List.mem_cons_self ..),fun g hg=>?_,⟨by show 2≤1000000;omega,by show 1≤1000000;omega,fun g hg=>?_⟩⟩⟩,?_,h7⟩
 ·rw[List.mem_singleton.1 hg]
  exact List.mem_cons_of_mem _ (List.mem_cons_of_mem _ (List.mem_cons_self ..))
 ·rw[List.mem_singleton.1 hg]
  show 2≤1000000
  omega
 ·rw[he]
  have ex:∀i,i < 3→nmS (γ1++[Nm.m (.bool true) (fun _=>False)]) i=nmS γ1 i:=fun i hi=>C3 (by rw[hl1];exact hi)
  have x1:nmS γ1 0=.slice A1 2 c1:=by
   rw[←ex 0 (by decide)]
   exact a1
  have x2:nmS γ1 2=.slice A2 1 c2:=by
   rw[←ex 2 (by decide),←eS1]
   exact a2
  show Ending.returned (.agg #[_,nmS γ1 0,nmS γ1 2,_,_])=_
  rw[x1,x2]
  rfl
end Go.Proofs.YtedaafmfjhjfmaaGreatDoor
/- Law 28: slices of structs, as a call finds them that has blocks of its own; messages and what is sent. -/
namespace Go.Proofs.YtedaafmfjhjfmaaGreatDoor
open Go.RowKit
set_option linter.unusedSimpArgs false
set_option linter.unusedVariables false
structure FLw {α:Type} [Inhabited α] (m:Nat) (e:α→List Value) (w:World) (ow:Nat→Prop) (A:Option Addr) (l:List α):Prop where
 some_:0 < l.length→A.isSome=true
 cell:∀i k v,i < l.length→(e (ix l i))[k]?=some v→Be w (Aj A (i*m+k))=v∧B6 w ow (Aj A (i*m+k))
theorem A8u {α:Type} [Inhabited α] {e:α→List Value} {m:Nat} {l:List α} (hm:∀x∈l,(e x).length=m) (i j:Nat) (hi:i < l.length) (hj:j < m):(l.flatMap e)[i*m+j]?=(e (ix l i))[j]?:=by
 classical
 have h1:∀x,(if (e x).length=m then e x else List.replicate m Value.nilIface).length=m:=fun x=>by
  by_cases h:(e x).length=m
  ·rw[if_pos h];exact h
  ·rw[if_neg h];exact List.length_replicate
 have h2:l.flatMap e=l.flatMap fun x=>if (e x).length=m then e x else List.replicate m Value.nilIface:=by
  clear h1 hi
  induction l with
  |nil=>rfl
  |cons x l ih=>
   rw[List.flatMap_cons,List.flatMap_cons,if_pos (hm x (List.mem_cons_self ..)),ih fun y hy=>hm y (List.mem_cons_of_mem _ hy)]
 rw[h2,L0 h1 l i j hi hj,if_pos (hm _ (Fh hi))]
theorem Adh {α:Type} {e:α→List Value} {m:Nat}:∀{l:List α},(∀x∈l,(e x).length=m)→(l.flatMap e).length=l.length*m
 |[],_=>by simp
 |x::l,h=>by rw[List.flatMap_cons,List.length_append,h x (List.mem_cons_self ..),Adh fun y hy=>h y (List.mem_cons_of_mem _ hy),List.length_cons,Nat.add_mul];omega
theorem FLw.of {α:Type} [Inhabited α] {m:Nat} {e:α→List Value} {w:World} {ow:Nat→Prop} {A:Option Addr} {l:List α} (hm:∀x∈l,(e x).length=m) (h0:0 < m) (hR:FW w ow A (l.flatMap e)):FLw m e w ow A l:=by
 have F:=hR.fv
 refine⟨fun hp=>F.some_ (by rw[Adh hm];exact Nat.mul_pos hp h0),fun i k v hi hv=>?_⟩
 have hk:k < m:=by
  have:=(List.getElem?_eq_some_iff.1 hv).1
  rwa [hm _ (Fh hi)] at this
 exact F.cell (by rw[A8u hm i k hi hk];exact hv)
theorem Adi {w:World} {ow:Nat→Prop} {A:Option Addr}:∀(n off:Nat),(∀k,k < n→B6 w ow (Aj A (off+k)))→Gc w ow A n off
 |0,_,_=>trivial
 |n+1,off,h=>⟨by have:=h 0 (by omega);rwa [Nat.add_zero] at this,Adi n (off+1) fun k hk=>by have:=h (k+1) (by omega);rwa [show off+(k+1)=off+1+k by omega] at this⟩
theorem FLw.part {α:Type} [Inhabited α] {m:Nat} {e:α→List Value} {w:World} {ow:Nat→Prop} {A:Option Addr} {l:List α} (h:FLw m e w ow A l) {i off n:Nat} {vs:List Value} (hi:i < l.length) (hn:vs.length=n) (hv:∀k v,vs[k]?=some v→(e (ix l i))[off+k]?=some v):
  C1 w (Aj A (i*m+off)) n 0=vs.map At.v∧Gc w ow (Aj A (i*m+off)) n 0:=by
 constructor
 ·refine Nh n 0 _ hn fun k v hk=>?_
  rw[Cy,Nat.zero_add,Nat.add_assoc]
  exact (h.cell i _ v hi (hv k v hk)).1
 ·refine Adi n 0 fun k hk=>?_
  rw[Cy,Nat.zero_add,Nat.add_assoc]
  exact (h.cell i _ _ hi (hv k _ (List.getElem?_eq_getElem (by omega)))).2
theorem Ov {m:MgR} (h:m.sm.length=32):(mgV m).length=43:=by simp [mgV,h]
instance:Inhabited MgR:=⟨zeroR⟩
instance:Inhabited SnR:=⟨⟨false,0,zeroR⟩⟩
instance:Inhabited SnS:=⟨⟨false,0,Ko⟩⟩
theorem Wt {x:SnR} (h:x.m.sm.length=32):(snV x).length=45:=by simp [snV,Ov h]
theorem FLw.msg {w:World} {ow:Nat→Prop} {A:Option Addr} {l:List SnR} (h:FLw 45 snV w ow A l) {i:Nat} (hi:i < l.length) (hs:(ix l i).m.sm.length=32):
  C1 w (Aj A (i*45+2)) 43 0=mgA (ix l i).m∧Gc w ow (Aj A (i*45+2)) 43 0:=by
 have:=h.part (off:=2) (n:=43) (vs:=mgV (ix l i).m) hi (Ov hs) fun k v hk=>by
  unfold snV
  rw[List.getElem?_append_right (by show 2≤2+k;omega)]
  rw[show 2+k - [Value.bool (ix l i).c,.int .i64 (ix l i).to].length=k by simp]
  exact hk
 rw[V5] at this
 exact this
theorem FLw.whole {w:World} {ow:Nat→Prop} {A:Option Addr} {l:List MgR} (h:FLw 43 mgV w ow A l) {i:Nat} (hi:i < l.length) (hs:(ix l i).sm.length=32):
  C1 w (Aj A (i*43)) 43 0=mgA (ix l i)∧Gc w ow (Aj A (i*43)) 43 0:=by
 have:=h.part (off:=0) (n:=43) (vs:=mgV (ix l i)) hi (Ov hs) fun k v hk=>by rw[Nat.zero_add];exact hk
 rw[V5,Nat.add_zero] at this
 exact this
theorem A8v {w0 w:World} {B:Nat→Prop} {γ:List Nm} {hp:List Res} (hg:Handle w0) (hS:Sat w0 No γ hp w) (hB:∀b,B b→∃(k:Nat) (r:Res),hp[k]?=some r∧r.has γ k b):¬B 0:=fun h=>by
 obtain⟨k,r,h1,h2⟩:=hB _ h
 rcases (hS.mine k r _ h1 h2).1 with h3|h3
 ·exact h3
 ·have:=block_lt_of_cell hg
  have e:(⟨0,0,none⟩:Addr).block=0:=rfl
  rw[e] at this
  omega
theorem Wu {w0:World} {ow:Nat→Prop} {hp:List Res} (n:Int) (hg:Handle w0) (hno:¬ow 0):Ai Tryz.prog w0 ow 48 [.x (.a (.v (erV n)))] hp (.x (.a (.v (.int .i64 n)))) hp:=Bq fun γ w hS=>by
 have hlt:0 < w0.heap.size:=block_lt_of_cell hg
 have hg':Handle w:=by
  have hb:=hS.keeps.block _ hlt hno
  unfold Handle at hg ⊢
  unfold World.cell? at hg ⊢
  rw[hb]
  exact hg
 show Calls _ _ #[erV n] w _
 unfold erV
 split
 ·rename_i h
  rw[h]
  exact A8j w
 ·exact A8k n w hg'
end Go.Proofs.YtedaafmfjhjfmaaGreatDoor
