import Derived.Test.YtedaafmfjhjfmaaGreatDoorLw3
/- Layer 28 walked: what toAll is handed: the functions that make a message for each. -/
namespace Go.Proofs.YtedaafmfjhjfmaaGreatDoor
open Go.RowKit
set_option linter.unusedSimpArgs false
set_option linter.unusedVariables false
attribute [local irreducible] Ah Ai Am Bc A7 Ay Ap A6
theorem A3l (r:LfR) (a b:Addr) {t xp xb xr:Value} (id:Int) (w:World) (h:LfAt r w a t xp xb xr) (hsm:r.sum.sm.length=32) (hb:Vr w (some b) [.pointer (some a)]):
  Calls Tryz.prog 102 #[.int .i64 id,.pointer (some b)] w fun e w'=>e=.returned (.agg (mgV {zeroR with k:=15,pl:=r.place,ge:=r.gen}).toArray)∧Below w.heap.size w w':=by
 obtain⟨c0,c1,c2,c5,c8,c11,c12,c13,c7,c9,ok,_⟩:=h.cells hsm
 have k0:=eq_true (ok 0 (by omega))
 have k1:=eq_true (ok 1 (by omega))
 have hs:(some a).isSome=true:=rfl
 have hn:(some a).isNone=false:=rfl
 have hsb:(some b).isSome=true:=rfl
 obtain⟨b0,o0⟩:=hb.cell 0 _ rfl
 have b0:Be w (some b)=.pointer (some a):=by rw[←b0,Bx]
 have o0:B6 w No (some b)=True:=eq_true (by rw[Bx] at o0;exact o0)
 refine Bm (n:=13) Tryz.func102 rfl Tryz.ntmps102 [.x (.a (.v (.int .i64 id))),.x (.a (.v (.pointer (some b))))] (by simp) (.x (.g (mgA {zeroR with k:=15,pl:=r.place,ge:=r.gen}))) (fun γ=>C4 _ γ) ?_
 simp (maxSteps:=10^6) only[Bl,Bp,Bu,↓List.forall_mem_cons,push_cast,↓reduceIte,Nat.reduceLT]
 (repeat (refine And.intro (by first|omega|decide) ?_))
 refine Fw 9 [(0,true),(1,true),(2,true),(3,true),(4,true),(5,true),(6,true),(7,true),(8,true)] (by kernel_rfl) (by kernel_rfl) ?_
 simp (maxSteps:=10^6) only[b0,o0,c0,k0,c1,k1,hs,Bl,Bp,Bw,Bu,undef,↓List.forall_mem_cons,push_cast,↓reduceIte,reduceCtorEq,Nat.reduceEqDiff,Nat.reduceLT,Nat.reduceAdd]
 exact⟨of_eq_true (Co {zeroR with k:=15,pl:=r.place,ge:=r.gen} _),rfl⟩
def Kz (w:World) (F:MgS) (e:Ending) (w':World):Prop:=∃(x:MgR×List Fct) (γ1:List Nm),(x.1.mg=F∧MOk x.2 x.1)∧e=.returned (.agg (mgV x.1).toArray)∧Sat w No γ1 [.abs (Aa x.2)] w'
theorem A3m {w w':World} {m:MgR} {e:Ending} (h:m.sm.length=32) (h1:m.ids=⟨none,0,[]⟩) (h2:m.ns=⟨none,0,[]⟩) (h3:m.ps=⟨none,0,[]⟩) (h4:m.xs=⟨none,0,[]⟩) (he:e=.returned (.agg (mgV m).toArray)) (hb:Below w.heap.size w w'):Kz w m.mg e w':=
 ⟨(m,[]),_,⟨rfl,h,.inl h1,.inl h2,.inl h3,.inl h4,h,by show m.ids.l.length≤1000;rw[h1];exact Nat.zero_le _,by show m.ns.l.length≤1000;rw[h2];exact Nat.zero_le _,by show m.ps.l.length≤1000;rw[h3];exact Nat.zero_le _,by show m.xs.l.length≤1000;rw[h4];exact Nat.zero_le _⟩,he,((Sat.init w No).later hb).fct0 (fun r hr=>by cases hr)⟩
def Ce:At:=.v (.slice none 0 0)
theorem A3n {w w':World} {γ1:List Nm} {k:UInt8} {pl ge:Int} {ids:List Int} {e:Ending} (hl:ids.length≤1000) (he:e=.returned ((Sv.x (.g (mgL (.v (vU8 k)) (.v (.int .i64 pl)) (.v (.int .i64 0)) (.v (.int .i64 0)) (.v (.int .i64 ge)) (.v (vU64 0)) (List.replicate 32 0) (.o 0) Ce Ce Ce (.v (.int .i64 0))))).val γ1)) (hS:Sat w No γ1 [.own 3 (.i64 ids)] w'):Kz w {Cp k with pl:=pl,ge:=ge,ids:=ids} e w':=by
 obtain⟨A,cap,h1,h2,_,h3⟩:=Lz hS (j:=0) (e:=3) (c:=.i64 ids) (vs:=ids.map (Value.int .i64)) rfl (fun _=>rfl)
 rw[List.length_map] at h1 h2 h3
 have h5:=Sat.facts1 (fs:=[⟨.slice A ids.length cap,ids.length,ids.map (Value.int .i64)⟩]) hS (X:=fun b=>(nmS γ1 0).ownBlock=some b) (fun b hb=>hb) fun f hf=>by rw[List.mem_singleton.1 hf];exact h3
 refine⟨({zeroR with k:=k,pl:=pl,ge:=ge,ids:=⟨A,cap,ids⟩},[⟨.slice A ids.length cap,ids.length,ids.map (Value.int .i64)⟩]),_,⟨rfl,rfl,.inr (List.mem_singleton.2 rfl),.inl rfl,.inl rfl,.inl rfl,⟨rfl,hl,Nat.zero_le _,Nat.zero_le _,Nat.zero_le _⟩⟩,?_,h5⟩
 rw[he]
 have h1:At.val γ1 (.o 0)=.slice A ids.length cap:=h1
 show Ending.returned (.agg ((mgL _ _ _ _ _ _ _ _ _ _ _ _).map (At.val γ1)).toArray)=_
 rw[Ks,h1]
 rfl
theorem A3o {w w':World} {γ1:List Nm} {k:UInt8} {pl ge:Int} {ps:List Pr} {e:Ending} (hl:ps.length≤1000) (he:e=.returned ((Sv.x (.g (mgL (.v (vU8 k)) (.v (.int .i64 pl)) (.v (.int .i64 0)) (.v (.int .i64 0)) (.v (.int .i64 ge)) (.v (vU64 0)) (List.replicate 32 0) Ce Ce (.o 0) Ce (.v (.int .i64 0))))).val γ1)) (hS:Sat w No γ1 [.onn 115 2 (.c (pcs ps))] w'):Kz w {Cp k with pl:=pl,ge:=ge,ps:=ps} e w':=by
 obtain⟨A,cap,h1,h2,h3⟩:=Kw hS (j:=0) (e:=115) (m:=2) (c:=.c (pcs ps)) (vs:=pvs ps) (n:=ps.length) rfl (L3 γ1 ps) (Jj ps)
 have h5:=Sat.facts1 (fs:=[⟨.slice A ps.length cap,ps.length,pvs ps⟩]) hS (X:=fun b=>(nmS γ1 0).ownBlock=some b) (fun b hb=>hb) fun f hf=>by rw[List.mem_singleton.1 hf];exact h3
 refine⟨({zeroR with k:=k,pl:=pl,ge:=ge,ps:=⟨A,cap,ps⟩},[⟨.slice A ps.length cap,ps.length,pvs ps⟩]),_,⟨rfl,rfl,.inl rfl,.inl rfl,.inr (List.mem_singleton.2 rfl),.inl rfl,⟨rfl,Nat.zero_le _,Nat.zero_le _,hl,Nat.zero_le _⟩⟩,?_,h5⟩
 rw[he]
 have h1:At.val γ1 (.o 0)=.slice A ps.length cap:=h1
 show Ending.returned (.agg ((mgL _ _ _ _ _ _ _ _ _ _ _ _).map (At.val γ1)).toArray)=_
 rw[Ks,h1]
 rfl
theorem A3p {w w':World} {γ1:List Nm} {k:UInt8} {pl ge:Int} {ids:List Int} {ns:List UInt64} {e:Ending} (hl:ids.length≤1000) (hn:ns.length≤1000) (he:e=.returned ((Sv.x (.g (mgL (.v (vU8 k)) (.v (.int .i64 pl)) (.v (.int .i64 0)) (.v (.int .i64 0)) (.v (.int .i64 ge)) (.v (vU64 0)) (List.replicate 32 0) (.o 0) (.o 1) Ce Ce (.v (.int .i64 0))))).val γ1)) (hS:Sat w No γ1 [.own 3 (.i64 ids),.own 41 (.u64 ns)] w'):Kz w {Cp k with pl:=pl,ge:=ge,ids:=ids,ns:=ns} e w':=by
 have h0:=hS.fct0 (fun r hr=>by
  simp only[List.mem_cons,List.not_mem_nil,or_false] at hr
  rcases hr with rfl|rfl<;>trivial)
 have hl1:=hS.len
 obtain⟨A,cap,γ2,h1,h2,eB,eS,h3⟩:=h0.ownF (j:=0) (k:=2) (c:=.i64 ids) (vs:=ids.map (Value.int .i64)) (l:=[]) rfl rfl (by decide) (fun _=>rfl)
 obtain⟨A2,cap2,γ3,h4,h5,eB2,eS2,h6⟩:=h3.ownF (j:=1) (k:=2) (c:=.u64 ns) (vs:=ns.map vU64) (l:=[⟨.slice A (ids.map (Value.int .i64)).length cap,(ids.map (Value.int .i64)).length,ids.map (Value.int .i64)⟩]) rfl rfl (by decide) (fun _=>rfl)
 rw[List.length_map] at h1 h2 h4 h5
 obtain⟨h7,_⟩:=h6.sel (ρ:=[2]) (hp0:=[.abs (Aa [⟨.slice A ids.length cap,ids.length,ids.map (Value.int .i64)⟩,⟨.slice A2 ns.length cap2,ns.length,ns.map vU64⟩])]) ⟨by simp [Res.ren],trivial⟩ ⟨trivial,trivial⟩ (fun r hr=>by rw[List.mem_singleton.1 hr];trivial)
 refine⟨({zeroR with k:=k,pl:=pl,ge:=ge,ids:=⟨A,cap,ids⟩,ns:=⟨A2,cap2,ns⟩},[⟨.slice A ids.length cap,ids.length,ids.map (Value.int .i64)⟩,⟨.slice A2 ns.length cap2,ns.length,ns.map vU64⟩]),_,⟨rfl,rfl,.inr (List.mem_cons_self ..),.inr (List.mem_cons_of_mem _ (List.mem_cons_self ..)),.inl rfl,.inl rfl,⟨rfl,hl,hn,Nat.zero_le _,Nat.zero_le _⟩⟩,?_,h7⟩
 rw[he]
 have x1:At.val γ1 (.o 0)=.slice A ids.length cap:=by
  show nmS γ1 0=_
  rw[←h1]
  exact (C3 (by rw[hl1];show 0 < 2;omega)).symm
 have x2:At.val γ1 (.o 1)=.slice A2 ns.length cap2:=by
  show nmS γ1 1=_
  rw[←h4,eS]
  exact (C3 (by rw[hl1];show 1 < 2;omega)).symm
 show Ending.returned (.agg ((mgL _ _ _ _ _ _ _ _ _ _ _ _).map (At.val γ1)).toArray)=_
 rw[Ks,x1,x2]
 rfl
set_option maxRecDepth 100000 in
theorem A3q (m:MgR) (b:Addr) (id:Int) (w:World) (hb:Vr w (some b) (mgV m)) (hm:m.Ok w):
  Calls Tryz.prog 61 #[.int .i64 id,.pointer (some b)] w (Kz w {Cp 8 with pl:=m.pl,ge:=m.ge,ids:=m.ids.l}):=by
 have c1:=(hb.cell 1 _ rfl).1
 have k1:=eq_true (hb.cell 1 _ rfl).2
 have c4:=(hb.cell 4 _ rfl).1
 have k4:=eq_true (hb.cell 4 _ rfl).2
 have g38:(mgV m)[38]?=some m.ids.val:=by
  unfold mgV
  rw[List.getElem?_append_right (by show 6≤38;omega),List.getElem?_append_right (by simp [hm.s])]
  simp [hm.s]
 have c38:=(hb.cell 38 _ g38).1
 have k38:=eq_true (hb.cell 38 _ g38).2
 have vi:m.ids.val=.slice m.ids.A m.ids.l.length m.ids.c:=rfl
 have hsb:(some b).isSome=true:=rfl
 have few:=hm.few
 refine (Jf (n:=12) Tryz.func61 rfl Tryz.ntmps61 [.x (.a (.v (.int .i64 id))),.x (.a (.v (.pointer (some b))))] (Sat.init w No) (by simp) (.x (.g (mgL (.v (vU8 8)) (.v (.int .i64 m.pl)) (.v (.int .i64 0)) (.v (.int .i64 0)) (.v (.int .i64 m.ge)) (.v (vU64 0)) (List.replicate 32 0) (.o 0) Ce Ce Ce (.v (.int .i64 0))))) [.own 3 (.i64 m.ids.l)] ?_).mono fun e w' ⟨γ1,he,hS⟩=>A3n few.ids he hS
 simp (maxSteps:=10^6) only[Bl,Bp,Bu,↓List.forall_mem_cons,push_cast,↓reduceIte,Nat.reduceLT]
 (repeat (refine And.intro (by first|omega|decide) ?_))
 refine Fw 8 [(0,true),(1,true),(2,true),(3,true),(4,true),(5,true),(6,false),(7,true)] (by kernel_rfl) (by kernel_rfl) ?_
 simp (maxSteps:=10^6) only[c1,k1,c4,k4,c38,k38,vi,hsb,undef,push_cast,↓reduceIte,reduceCtorEq,Nat.reduceEqDiff,Nat.reduceLT,Nat.reduceAdd]
 refine Lx rfl Ew rfl (Gi (l:=m.ids.l) few.ids (Bt hm.ids.rd _ _ (by simp) hm.ids.len) (by simp only[↓List.forall_mem_cons,↓A5,push_cast])) (Ae rfl) (by simp (maxSteps:=10^6) only[↓List.forall_mem_cons,↓A5,push_cast,Nat.reduceLT]) ?_
 simp (maxSteps:=10^6) only[Bl,Bp,Bw,Bu,↓List.forall_mem_cons,push_cast,↓reduceIte,reduceCtorEq,Nat.reduceEqDiff,Nat.reduceLT,Nat.reduceAdd]
 refine⟨?_,A9 [1] ?_⟩
 ·exact G7 (q:=At.one [.blk 48 (.c (mgA zeroR)),.own 3 (.i64 m.ids.l)]) (k:=.v (vU8 8)) (pl:=.v (.int .i64 m.pl)) (ot:=.v (.int .i64 0)) (cl:=.v (.int .i64 0)) (ge:=.v (.int .i64 m.ge)) (nu:=.v (vU64 0)) (sm:=List.replicate 32 0) (i:=.o 1) (n:=Ce) (p:=Ce) (x:=Ce) (r:=.v (.int .i64 0)) (fun _=>rfl) rfl rfl rfl rfl rfl rfl rfl rfl rfl rfl rfl
 ·refine⟨⟨rfl,trivial⟩,⟨rfl,trivial⟩,⟨trivial,trivial⟩,fun x hx=>?_,fun x hx=>?_⟩
  ·rw[List.mem_singleton.1 hx]
   exact G7 (q:=At.bnd 1) (fun _=>trivial) trivial trivial trivial trivial trivial trivial (by show 0 < 1;omega) trivial trivial trivial trivial
  ·rw[List.mem_singleton.1 hx]
   trivial
set_option maxRecDepth 100000 in
theorem A3r (r:LfR) (a b:Addr) {t xp xb xr:Value} (id:Int) (w:World) (h:LfAt r w a t xp xb xr) (hsm:r.sum.sm.length=32) (hb:Vr w (some b) [.pointer (some a)]) (hj:r.joined.l.length≤r.joined.c∧RdV w w.heap.size r.joined.A (r.joined.l.map (Value.int .i64))) (hl:r.joined.l.length≤1000):
  Calls Tryz.prog 151 #[.int .i64 id,.pointer (some b)] w (Kz w {Cp 2 with pl:=0,ge:=r.gen,ps:=r.s.peers r.joined.l}):=by
 obtain⟨c0,c1,c2,c5,c8,c11,c12,c13,c7,c9,ok,_⟩:=h.cells hsm
 have k1:=eq_true (ok 1 (by omega))
 have k11:=eq_true (ok 11 (by omega))
 have hs:(some a).isSome=true:=rfl
 have hn:(some a).isNone=false:=rfl
 have hsb:(some b).isSome=true:=rfl
 have vj:r.joined.val=.slice r.joined.A r.joined.l.length r.joined.c:=rfl
 obtain⟨b0,o0⟩:=hb.cell 0 _ rfl
 have b0:Be w (some b)=.pointer (some a):=by rw[←b0,Bx]
 have o0:B6 w No (some b)=True:=eq_true (by rw[Bx] at o0;exact o0)
 have hpl:(r.s.peers r.joined.l).length≤1000:=by unfold LfS.peers;rw[List.length_map];exact hl
 refine (Jf (n:=15) Tryz.func151 rfl Tryz.ntmps151 [.x (.a (.v (.int .i64 id))),.x (.a (.v (.pointer (some b))))] (Sat.init w No) (by simp) (.x (.g (mgL (.v (vU8 2)) (.v (.int .i64 0)) (.v (.int .i64 0)) (.v (.int .i64 0)) (.v (.int .i64 r.gen)) (.v (vU64 0)) (List.replicate 32 0) Ce Ce (.o 0) Ce (.v (.int .i64 0))))) [.onn 115 2 (.c (pcs (r.s.peers r.joined.l)))] ?_).mono fun e w' ⟨γ1,he,hS⟩=>A3o hpl he hS
 simp (maxSteps:=10^6) only[Bl,Bp,Bu,↓List.forall_mem_cons,push_cast,↓reduceIte,Nat.reduceLT]
 (repeat (refine And.intro (by first|omega|decide) ?_))
 refine Fw 11 [(0,true),(1,true),(2,true),(3,true),(4,true),(5,true),(6,true),(7,true),(8,true),(9,false),(10,true)] (by kernel_rfl) (by kernel_rfl) ?_
 simp (maxSteps:=10^6) only[b0,o0,c1,k1,c11,k11,vj,hs,undef,push_cast,↓reduceIte,reduceCtorEq,Nat.reduceEqDiff,Nat.reduceLT,Nat.reduceAdd]
 refine Lx rfl U3 rfl (V6 (r:=r) (l:=r.joined.l) (fun γ w' hS=>⟨a,t,xp,xb,xr,rfl,h.later hS.keeps⟩) hsm hl (Bt hj.2 _ _ (by simp) hj.1) (by simp only[↓List.forall_mem_cons,↓A5,push_cast])) (Ae rfl) (by simp (maxSteps:=10^6) only[↓List.forall_mem_cons,↓A5,push_cast,Nat.reduceLT]) ?_
 simp (maxSteps:=10^6) only[Bl,Bp,Bw,Bu,↓List.forall_mem_cons,push_cast,↓reduceIte,reduceCtorEq,Nat.reduceEqDiff,Nat.reduceLT,Nat.reduceAdd]
 refine⟨?_,A9 [1] ?_⟩
 ·exact G7 (q:=At.one [.blk 48 (.c (mgA zeroR)),.onn 115 2 (.c (pcs (r.s.peers r.joined.l)))]) (k:=.v (vU8 2)) (pl:=.v (.int .i64 0)) (ot:=.v (.int .i64 0)) (cl:=.v (.int .i64 0)) (ge:=.v (.int .i64 r.gen)) (nu:=.v (vU64 0)) (sm:=List.replicate 32 0) (i:=Ce) (n:=Ce) (p:=.o 1) (x:=Ce) (r:=.v (.int .i64 0)) (fun _=>rfl) rfl rfl rfl rfl rfl rfl rfl rfl rfl rfl rfl
 ·refine⟨⟨rfl,trivial⟩,⟨by show some (Res.onn _ _ (.c (pcs (r.s.peers r.joined.l))))=some (Res.onn _ _ (.c ((pcs (r.s.peers r.joined.l)).map (At.ren [1]))));rw[Jl],trivial⟩,⟨trivial,trivial⟩,fun x hx=>?_,fun x hx=>?_⟩
  ·rw[List.mem_singleton.1 hx]
   exact G7 (q:=At.bnd 1) (fun _=>trivial) trivial trivial trivial trivial trivial trivial trivial trivial (by show 0 < 1;omega) trivial trivial
  ·rw[List.mem_singleton.1 hx]
   show ∀x∈pcs _,_
   rw[G5]
   exact fun p _=>⟨trivial,trivial⟩
end Go.Proofs.YtedaafmfjhjfmaaGreatDoor
