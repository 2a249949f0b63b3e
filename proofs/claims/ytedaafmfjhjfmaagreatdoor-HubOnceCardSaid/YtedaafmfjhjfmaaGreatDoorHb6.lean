import Derived.Test.YtedaafmfjhjfmaaGreatDoorHb5
/- Layer 30 walked: From, Phase, Gone. -/
namespace Go.Proofs.YtedaafmfjhjfmaaGreatDoor
open _root_.Go.Proofs.Tryz
open Go.RowKit
set_option linter.unusedSimpArgs false
set_option linter.unusedVariables false
def mvR (r:HbR) (q:Int):SnR:=⟨false,q,{zeroR with k:=16,pl:=q,ot:=r.place,ge:=r.gen}⟩
theorem Afg (r:HbR) (q:Int):((((mgA zeroR).set 0 (.v (.int .u8 16))).set 1 (.v (.int .i64 q))).set 2 (.v (.int .i64 r.place))).set 4 (.v (.int .i64 r.gen))=mgA (mvR r q).m:=rfl
theorem M2 (r:HbR) (l:List Int):∀y∈l.map (mvR r),y.m.sm.length=32:=fun y hy=>by
 obtain⟨q,_,rfl⟩:=List.mem_map.1 hy
 rfl
theorem Xn (r:HbR) (l:List Int) (Fs:List Fct):∀y∈l.map (mvR r),MOk Fs y.m:=fun y hy=>by
 obtain⟨q,_,rfl⟩:=List.mem_map.1 hy
 exact⟨rfl,.inl rfl,.inl rfl,.inl rfl,.inl rfl,⟨rfl,Nat.zero_le _,Nat.zero_le _,Nat.zero_le _,Nat.zero_le _⟩⟩
theorem Xo (r:HbR) (l:List Int):(l.map (mvR r)).map SnR.s=r.s.movesTo l:=by
 unfold HbS.movesTo
 rw[List.map_map]
 rfl
def Ll (Fs:List Fct) (s:HbS) (out:List SnS) (x:HbR×SlV SnR×List Fct):Prop:=x.1.s=s∧x.2.1.l.map SnR.s=out∧HbOk (Fs++x.2.2) x.1∧OutOk x.2.2 x.2.1
theorem HTellQ.w {Fs:List Fct} {s:HbS} {out:List SnS} {x:HbR×SlV SnR×List Fct} (h:HTellQ Fs s out x):Ll Fs s out x:=⟨h.1,h.2.1,h.2.2.1,h.2.2.2.1⟩
def Bt (r:HbR) (p:Int):SlV Int:=(Az r.next p).getD ⟨none,0,[]⟩
theorem Afh (r:HbR) (p:Int):Nf false (Co (slE r.next) p) (.a (.v (.slice none 0 0)))=.x (.a (.v (Bt r p).val)):=by
 unfold Bt
 rw[At0]
 cases Az r.next p<;>rfl
theorem Afi (r:HbR) (p:Int):(Bt r p).l=(Az r.s.next p).getD []:=by
 show _=(Az (Bw SlV.l r.next) p).getD []
 rw[Oy]
 unfold Bt
 cases Az r.next p<;>rfl
attribute [local irreducible] Ac Ad Ah Au Ao Aj Ai Al
attribute [local irreducible] A9 okV Ak erV Bq Tal.can Tal.st
section
variable {r:HbR} {g gs:Nat} {w:World} {B:Nat→Prop} {γ:List Nm} {Fs:List Fct}
set_option maxRecDepth 100000 in
theorem Azb (hS:Sat w B γ (hbB g gs r) w) (ok:HbOk Fs r):
  Calls prog 41 (List.map (Sv.val (γ++[.m (.bool true) (fun _=>False)])) [.x (.a (.p 0 0))]).toArray w fun e w'=>∃(_:Unit) (γ1:List Nm),True∧e=.returned ((Sv.x (.a (.o 7))).val γ1)∧Sat w B γ1 (hbB g gs r++[.abs (fctRep []),.own 3 (.i64 r.s.sums.from_)]) w':=by
 refine Cy (n:=10) (ι:=Unit) (fun _=>True) (fun x=>.x (.a (.o 7))) (fun x=>hbB g gs r++[.abs (fctRep []),.own 3 (.i64 r.s.sums.from_)]) func41 rfl ntmps41 [.x (.a (.p 0 0))] (hS.fct0 (Ar g gs r)) (by show 1≤10;omega) ?_
 unfold hbB hbA
 simp (maxSteps:=10^6) only[undef,push_cast,↓reduceIte,reduceCtorEq,Nat.reduceLT,Nat.reduceAdd]
 (repeat (refine And.intro (by first|omega|decide) ?_))
 refine Gb (s':=⟨[(8,.x (.a (.p 0 0)))],[.pin gs 120 (.c [.v (.int .i64 r.sm.place),.v (.int .i64 r.sm.dim),.v r.sm.spots.val,.o 1,.o 2]),.mp .i64 (iE r.sm.heard),.mp .i64 (mgE r.sm.taken),.pin g 149 (.c [.v (.int .i64 r.place),.v (.int .i64 r.gen),.v (.int .i64 r.parent),.v r.above.val,.v r.under.val,.o 5,.p 4 0,.p 0 0,.v (.int .i64 r.phase)]),.blk 170 (.c (tlA r.ty)),.mp .i64 (slE r.next),.abs (fctRep [])]⟩) (Cn [3,4,5,0,1,2,6] (by simp (maxSteps:=10^6) only[rn,↓Ae,↓Aw,↓List.forall_mem_cons,push_cast,↓reduceIte,reduceCtorEq,Nat.reduceEqDiff,Nat.reduceLT,Nat.reduceAdd])) ?_
 refine Gl rfl Aar rfl (Ayo (r:=r.sm) (g:=gs) (M:=[.pin g 149 (.c [.v (.int .i64 r.place),.v (.int .i64 r.gen),.v (.int .i64 r.parent),.v r.above.val,.v r.under.val,.o 5,.p 4 0,.p 0 0,.v (.int .i64 r.phase)]),.blk 170 (.c (tlA r.ty)),.mp .i64 (slE r.next),.abs (fctRep [])]) (Ae5 ok.fine).1 (by
  show ∀q∈_,Res.bnd 7 q
  unfold smB smA
  simp (maxSteps:=10^6) only[↓Ae,↓List.forall_mem_cons,↓List.forall_mem_append,push_cast,Nat.reduceLT])) (Aa rfl) (by simp (maxSteps:=10^6) only[↓Ae,↓List.forall_mem_cons,push_cast,Nat.reduceLT,Nat.reduceAdd]) ?_
 unfold smB smA
 simp (maxSteps:=10^6) only[push_cast,↓reduceIte,Nat.reduceLT,Nat.reduceAdd]
 refine⟨(),A6 [3,4,5,0,1,2,6,7] ?_⟩
 have e:r.s.sums.from_=r.sm.s.from_:=rfl
 simp (maxSteps:=10^6) only[e,rn,↓Ae,↓Aw,↓List.forall_mem_cons,push_cast,↓reduceIte,reduceCtorEq,Nat.reduceEqDiff,Nat.reduceLT,Nat.reduceAdd]
set_option maxRecDepth 100000 in
theorem Azc (hS:Sat w B γ (hbB g gs r) w):
  Calls prog 45 (List.map (Sv.val (γ++[.m (.bool true) (fun _=>False)])) [.x (.a (.p 0 0))]).toArray w fun e w'=>∃(_:Unit) (γ1:List Nm),True∧e=.returned ((Sv.x (.a (.v (.int .i64 r.phase)))).val γ1)∧Sat w B γ1 (hbB g gs r++[.abs (fctRep [])]) w':=by
 refine Cy (n:=9) (ι:=Unit) (fun _=>True) (fun x=>.x (.a (.v (.int .i64 r.phase)))) (fun x=>hbB g gs r++[.abs (fctRep [])]) func45 rfl ntmps45 [.x (.a (.p 0 0))] (hS.fct0 (Ar g gs r)) (by show 1≤9;omega) ?_
 unfold hbB hbA
 simp (maxSteps:=10^6) only[undef,push_cast,↓reduceIte,reduceCtorEq,Nat.reduceLT,Nat.reduceAdd]
 refine⟨(),A6 [0,1,2,3,4,5,6] ?_⟩
 simp (maxSteps:=10^6) only[↓Ae,↓Aw,↓List.forall_mem_cons,push_cast,↓reduceIte,reduceCtorEq,Nat.reduceEqDiff,Nat.reduceLT,Nat.reduceAdd]
theorem Azd (hS:Sat w B γ (hbB g gs r) w):Calls prog 45 #[.pointer (some ⟨g,0,none⟩)] w fun e w'=>∃(_:Unit) (γ1:List Nm),e=.returned (.int .i64 r.phase)∧Sat w B γ1 (hbB g gs r++[.abs (fctRep [])]) w':=by
 have:=Azc hS
 rw[Fe hS [] (fun x hx=>by cases hx) γ] at this
 exact this.mono fun e w' ⟨_,γ1,_,he,hS1⟩=>⟨(),γ1,he,hS1⟩
theorem Afj (hw:Known w B Fs) (ok:HbOk Fs r) (p:Int):(Bt r p).l.length≤(Bt r p).c∧FW w B (Bt r p).A (Da (Bt r p).l):=by
 unfold Bt
 cases h:Az r.next p with
 |none=>exact⟨Nat.le_refl _,RdV.nil_,fun h=>absurd h (by simp [Da])⟩
 |some s=>exact hw.fw (ok.next _ (Sp h)) (fun e=>by rw[e];rfl)
theorem Xp (ok:HbOk Fs r) (p:Int):(Bt r p).l.length≤900:=by
 unfold Bt
 cases h:Az r.next p with
 |none=>exact Nat.zero_le _
 |some s=>exact ok.few.2.2 _ (Sp h)
set_option maxRecDepth 100000 in
theorem Aze (p:Int) (hS:Sat w B γ (hbB g gs r) w) (hw:Known w B Fs) (ok:HbOk Fs r) (hn:p∉r.under.l):
  Calls prog 39 (List.map (Sv.val (γ++[.m (.bool true) (fun _=>False)])) [.x (.a (.p 0 0)),.x (.a (.v (.int .i64 p)))]).toArray w fun e w'=>∃(_:Unit) (γ1:List Nm),True∧e=.returned ((Sv.t [.a (.v (.slice none 0 0)),.a (.v (erV 2))]).val γ1)∧Sat w B γ1 (hbB g gs r++[.abs (fctRep [])]) w':=by
 have ee2:erV 2=.iface 91 (.int .i64 2):=En (by decide)
 have fu:=hw.fw ok.under (fun e=>by rw[e];rfl)
 have hb:Em p r.under.l=false:=decide_eq_false hn
 refine Cy (n:=65) (ι:=Unit) (fun _=>True) (fun x=>.t [.a (.v (.slice none 0 0)),.a (.v (erV 2))]) (fun x=>hbB g gs r++[.abs (fctRep [])]) func39 rfl ntmps39 [.x (.a (.p 0 0)),.x (.a (.v (.int .i64 p)))] (hS.fct0 (Ar g gs r)) (by show 2≤65;omega) ?_
 unfold hbB hbA
 simp (maxSteps:=10^6) only[undef,push_cast,↓reduceIte,reduceCtorEq,Nat.reduceEqDiff,Nat.reduceLT,Nat.reduceAdd]
 (repeat (refine And.intro (by first|omega|decide) ?_))
 refine Am rfl Kw rfl (Lb (l:=r.under.l) p (by have:=ok.few.2.1;omega) (Dq fu.2 _ _ (List.length_map ..) fu.1)) (Aa rfl) ?_
 simp (maxSteps:=10^6) only[hb,push_cast,↓reduceIte,Nat.reduceEqDiff,Nat.reduceLT,Nat.reduceAdd]
 refine⟨(),A6 [0,1,2,3,4,5,6] ?_⟩
 simp (maxSteps:=10^6) only[ee2,↓Ae,↓Aw,↓List.forall_mem_cons,push_cast,↓reduceIte,reduceCtorEq,Nat.reduceEqDiff,Nat.reduceLT,Nat.reduceAdd]
set_option maxRecDepth 100000 in
set_option maxHeartbeats 2000000 in
theorem Azf (p:Int) (hS:Sat w B γ (hbB g gs r) w) (hw:Known w B Fs) (ok:HbOk Fs r) (hin:p∈r.under.l) (hp:¬r.phase=0):
  Calls prog 39 (List.map (Sv.val (γ++[.m (.bool true) (fun _=>False)])) [.x (.a (.p 0 0)),.x (.a (.v (.int .i64 p)))]).toArray w fun e w'=>∃(_:Unit) (γ1:List Nm),True∧e=.returned ((Sv.t [.a (.o 7),.a (.v .nilIface)]).val γ1)∧Sat w B γ1 (hbB g gs r++[.abs (fctRep []),.onn 60 45 (.c (snL ((Bt r p).l.map (mvR r))))]) w':=by
 have fu:=hw.fw ok.under (fun e=>by rw[e];rfl)
 have hb:Em p r.under.l=true:=decide_eq_true hin
 have dz:(mgA zeroR).drop 43=[]:=rfl
 have zb:=fun n=>Bm zeroR n
 simp only[At.bnd] at zb
 refine Cy (n:=65) (ι:=Unit) (fun _=>True) (fun x=>.t [.a (.o 7),.a (.v .nilIface)]) (fun x=>hbB g gs r++[.abs (fctRep []),.onn 60 45 (.c (snL ((Bt r p).l.map (mvR r))))]) func39 rfl ntmps39 [.x (.a (.p 0 0)),.x (.a (.v (.int .i64 p)))] (hS.fct0 (Ar g gs r)) (by show 2≤65;omega) ?_
 have lkv:=Afh r p
 have fs0:(Bt r p).l.length≤(Bt r p).c∧FW w B (Bt r p).A (Da (Bt r p).l):=Afj hw ok p
 obtain⟨s0,hs0⟩:∃s0,s0=Bt r p:=⟨_,rfl⟩
 rw[←hs0] at lkv fs0 ⊢
 have vs0:s0.val=.slice s0.A s0.l.length s0.c:=rfl
 rw[vs0] at lkv
 have few0:s0.l.length≤900:=by rw[hs0];exact Xp ok p
 have Fs0:FM (Value.int .i64) w B s0.A s0.l:=FM.fw fs0.2
 unfold hbB hbA
 simp (maxSteps:=10^6) only[undef,push_cast,↓reduceIte,reduceCtorEq,Nat.reduceEqDiff,Nat.reduceLT,Nat.reduceAdd]
 (repeat (refine And.intro (by first|omega|decide) ?_))
 refine Am rfl Kw rfl (Lb (l:=r.under.l) p (by have:=ok.few.2.1;omega) (Dq fu.2 _ _ (List.length_map ..) fu.1)) (Aa rfl) ?_
 simp (maxSteps:=10^6) only[hb,↓lkv,undef,push_cast,↓reduceIte,reduceCtorEq,Nat.reduceEqDiff,Nat.reduceLT,Nat.reduceAdd]
 refine N7 6 60 45 (.c []) (by omega) rfl rfl (by simp (maxSteps:=10^6) only[↓Ae,↓List.forall_mem_cons,push_cast,Nat.reduceLT,Nat.reduceAdd]) ?_
 simp (maxSteps:=10^6) only[push_cast,Nat.reduceAdd]
 refine Bj (ι:=Nat) (fun i=>⟨[(0,.x (.a (.p 0 0))),(1,.x (.a (.v (.int .i64 p)))),(6,.x (.a (.o 7))),(26,.x (.a (.v (.slice s0.A s0.l.length s0.c)))),(27,.x (.a (.v (.int .i64 s0.l.length)))),(28,.x (.a (.v (.int .i64 (i:Nat)))))],[.pin g 149 (.c [.v (.int .i64 r.place),.v (.int .i64 r.gen),.v (.int .i64 r.parent),.v r.above.val,.v r.under.val,.o 2,.p 1 0,.p 3 0,.v (.int .i64 r.phase)]),.blk 170 (.c (tlA r.ty)),.mp .i64 (slE r.next),.pin gs 120 (.c [.v (.int .i64 r.sm.place),.v (.int .i64 r.sm.dim),.v r.sm.spots.val,.o 4,.o 5]),.mp .i64 (iE r.sm.heard),.mp .i64 (mgE r.sm.taken),.abs (fctRep []),.onn 60 45 (.c (snL ((s0.l.take i).map (mvR r))))]⟩) (fun i=>i≤s0.l.length) (fun i=>s0.l.length - i) 0 [0,1,2,3,4,5,6,7] (Nat.zero_le _) ?_ ?_
 ·have e:snL []=[]:=rfl
  simp (maxSteps:=10^6) only[e,↓Db,↓Gv,↓Ae,↓Aw,↓List.forall_mem_cons,push_cast,↓Int.cast_ofNat_Int,Int.cast_ofNat_Int,↓reduceIte,reduceCtorEq,Nat.reduceEqDiff,Nat.reduceLT,Nat.reduceAdd]
 intro i hi
 by_cases hlt:(i:Int) < s0.l.length
 ·have hil:i < s0.l.length:=by omega
  have i0:(0:Int)≤i:=by omega
  have nx:(i:Int)+1≤9223372036854775807:=by omega
  have c0:=Fs0.cell i hil
  have o0:=Fs0.ok i hil
  have hA:=Fs0.some_ (by omega)
  have ht:snL ((s0.l.take (i+1)).map (mvR r))=snL ((s0.l.take i).map (mvR r))++(.v (.bool false):: .v (.int .i64 (ix s0.l i))::mgA (mvR r (ix s0.l i)).m):=by
   rw[List.take_add_one,List.getElem?_eq_getElem hil,Option.toList_some,List.map_append,List.map_cons,List.map_nil,Wp,←Pj hil]
   rfl
  have gv:=Bd (m:=(mvR r (ix s0.l i)).m) rfl
  have zv:=fun n=>Bm (mvR r (ix s0.l i)).m n
  simp only[At.bnd] at zv
  have zs:=fun n=>Sq ((s0.l.take i).map (mvR r)) n
  simp only[At.bnd] at zs
  have zl:=fun n=>Eo r.ty n
  simp only[At.bnd] at zl
  have nx0:-9223372036854775808≤(i:Int)+1:=by omega
  have hll:(snL ((s0.l.take i).map (mvR r))).length=i*45:=by
   rw[Mt (M2 r _),List.length_map,List.length_take,Nat.min_eq_left (by omega)]
  have e45:i*45 / 45=i:=Nat.mul_div_cancel _ (by omega)
  have q2:i+1≤2 ^ 63 - 1:=by omega
  have q1:(i+1)*200≤140737488355328:=by omega
  have mvs:=Afg r (ix s0.l i)
  generalize ix s0.l i=q at*
  simp (maxSteps:=10^6) only[hlt,i0,c0,o0,hA,push_cast,↓Int.toNat_natCast,↓reduceIte,reduceCtorEq,Nat.reduceEqDiff,Nat.reduceLT,Nat.reduceAdd]
  (repeat (refine And.intro (by first|omega|decide) ?_))
  refine Ha 11 [(0,true),(1,true),(2,true),(3,true),(4,true),(5,true),(6,true),(7,true),(8,true),(9,true),(10,false)] (by kernel_rfl) (by kernel_rfl) ?_
  simp (maxSteps:=10^6) only[dz,Bo,F0,Hk,Br,B0,B9,I7,mvs,gv,zv,zs,zl,nx0,hll,e45,q1,q2,nx,List.flatten_cons,List.flatten_nil,List.append_nil,undef,↓Db,↓Ae,↓List.forall_mem_cons,↓A8,push_cast,↓reduceIte,reduceCtorEq,Nat.reduceEqDiff,Nat.reduceLT,Nat.reduceLeDiff,Nat.reduceAdd,Nat.reduceMul,Int.reduceNeg]
  repeat (refine And.intro (by first|exact of_eq_true (mgA_one _ _)|omega) ?_)
  refine Ba (i+1) [0,1,2,3,4,5,6,10] (show i+1≤s0.l.length by omega) (show s0.l.length - (i+1) < s0.l.length - i by omega) ?_
  simp (maxSteps:=10^6) only[ht,↓Db,↓Gv,↓Ae,↓Aw,↓List.forall_mem_cons,push_cast,↓reduceIte,reduceCtorEq,Nat.reduceEqDiff,Nat.reduceLT,Nat.reduceAdd]
  done
 obtain rfl:i=s0.l.length:=by omega
 rw[List.take_length]
 simp (maxSteps:=10^6) only[hlt,hp,undef,push_cast,↓reduceIte,reduceCtorEq,Nat.reduceEqDiff,Nat.reduceLT,Nat.reduceAdd]
 refine⟨(),A6 [0,1,2,3,4,5,6,7] ?_⟩
 simp (maxSteps:=10^6) only[↓Db,↓Gv,↓Ae,↓Aw,↓List.forall_mem_cons,push_cast,↓reduceIte,reduceCtorEq,Nat.reduceEqDiff,Nat.reduceLT,Nat.reduceAdd]
def Xq (Fs:List Fct) (r:HbR) (p:Int) (g gs:Nat) (w:World) (B:Nat→Prop) (γ:List Nm):Prop:=
 Calls prog 39 (List.map (Sv.val (γ++[.m (.bool true) (fun _=>False)])) [.x (.a (.p 0 0)),.x (.a (.v (.int .i64 p)))]).toArray w fun e w'=>∃(x:HbR×SlV SnR×List Fct) (γ1:List Nm),Ll Fs (r.s.talG p).on.1 (r.s.movesTo (Bt r p).l++(r.s.talG p).on.2) x∧e=.returned ((Sv.t [.a (.v x.2.1.val),.a (.v .nilIface)]).val γ1)∧Sat w B γ1 (hbB g gs x.1++[.abs (fctRep x.2.2)]) w'
set_option maxRecDepth 100000 in
set_option maxHeartbeats 2000000 in
theorem Azg (p:Int) (hS:Sat w B γ (hbB g gs r) w) (hw:Known w B Fs) (ok:HbOk Fs r) (hin:p∈r.under.l) (hp:r.phase=0):Xq Fs r p g gs w B γ:=by
 unfold Xq
 have hpt:(r.phase=0)=True:=eq_true hp
 have fu:=hw.fw ok.under (fun e=>by rw[e];rfl)
 have hb:Em p r.under.l=true:=decide_eq_true hin
 have dz:(mgA zeroR).drop 43=[]:=rfl
 have zb:=fun n=>Bm zeroR n
 simp only[At.bnd] at zb
 refine Cy (n:=65) (ι:=HbR×SlV SnR×List Fct) (Ll Fs (r.s.talG p).on.1 (r.s.movesTo (Bt r p).l++(r.s.talG p).on.2)) (fun x=>.t [.a (.v x.2.1.val),.a (.v .nilIface)]) (fun x=>hbB g gs x.1++[.abs (fctRep x.2.2)]) func39 rfl ntmps39 [.x (.a (.p 0 0)),.x (.a (.v (.int .i64 p)))] (hS.fct0 (Ar g gs r)) (by show 2≤65;omega) ?_
 have lkv:=Afh r p
 have fs0:(Bt r p).l.length≤(Bt r p).c∧FW w B (Bt r p).A (Da (Bt r p).l):=Afj hw ok p
 obtain⟨s0,hs0⟩:∃s0,s0=Bt r p:=⟨_,rfl⟩
 rw[←hs0] at lkv fs0 ⊢
 have vs0:s0.val=.slice s0.A s0.l.length s0.c:=rfl
 rw[vs0] at lkv
 have few0:s0.l.length≤900:=by rw[hs0];exact Xp ok p
 have Fs0:FM (Value.int .i64) w B s0.A s0.l:=FM.fw fs0.2
 unfold hbB hbA
 simp (maxSteps:=10^6) only[undef,push_cast,↓reduceIte,reduceCtorEq,Nat.reduceEqDiff,Nat.reduceLT,Nat.reduceAdd]
 (repeat (refine And.intro (by first|omega|decide) ?_))
 refine Am rfl Kw rfl (Lb (l:=r.under.l) p (by have:=ok.few.2.1;omega) (Dq fu.2 _ _ (List.length_map ..) fu.1)) (Aa rfl) ?_
 simp (maxSteps:=10^6) only[hb,↓lkv,undef,push_cast,↓reduceIte,reduceCtorEq,Nat.reduceEqDiff,Nat.reduceLT,Nat.reduceAdd]
 refine N7 6 60 45 (.c []) (by omega) rfl rfl (by simp (maxSteps:=10^6) only[↓Ae,↓List.forall_mem_cons,push_cast,Nat.reduceLT,Nat.reduceAdd]) ?_
 simp (maxSteps:=10^6) only[push_cast,Nat.reduceAdd]
 refine Bj (ι:=Nat) (fun i=>⟨[(0,.x (.a (.p 0 0))),(1,.x (.a (.v (.int .i64 p)))),(6,.x (.a (.o 7))),(26,.x (.a (.v (.slice s0.A s0.l.length s0.c)))),(27,.x (.a (.v (.int .i64 s0.l.length)))),(28,.x (.a (.v (.int .i64 (i:Nat)))))],[.pin g 149 (.c [.v (.int .i64 r.place),.v (.int .i64 r.gen),.v (.int .i64 r.parent),.v r.above.val,.v r.under.val,.o 2,.p 1 0,.p 3 0,.v (.int .i64 r.phase)]),.blk 170 (.c (tlA r.ty)),.mp .i64 (slE r.next),.pin gs 120 (.c [.v (.int .i64 r.sm.place),.v (.int .i64 r.sm.dim),.v r.sm.spots.val,.o 4,.o 5]),.mp .i64 (iE r.sm.heard),.mp .i64 (mgE r.sm.taken),.abs (fctRep []),.onn 60 45 (.c (snL ((s0.l.take i).map (mvR r))))]⟩) (fun i=>i≤s0.l.length) (fun i=>s0.l.length - i) 0 [0,1,2,3,4,5,6,7] (Nat.zero_le _) ?_ ?_
 ·have e:snL []=[]:=rfl
  simp (maxSteps:=10^6) only[e,↓Db,↓Gv,↓Ae,↓Aw,↓List.forall_mem_cons,push_cast,↓Int.cast_ofNat_Int,Int.cast_ofNat_Int,↓reduceIte,reduceCtorEq,Nat.reduceEqDiff,Nat.reduceLT,Nat.reduceAdd]
 intro i hi
 by_cases hlt:(i:Int) < s0.l.length
 ·have hil:i < s0.l.length:=by omega
  have i0:(0:Int)≤i:=by omega
  have nx:(i:Int)+1≤9223372036854775807:=by omega
  have c0:=Fs0.cell i hil
  have o0:=Fs0.ok i hil
  have hA:=Fs0.some_ (by omega)
  have ht:snL ((s0.l.take (i+1)).map (mvR r))=snL ((s0.l.take i).map (mvR r))++(.v (.bool false):: .v (.int .i64 (ix s0.l i))::mgA (mvR r (ix s0.l i)).m):=by
   rw[List.take_add_one,List.getElem?_eq_getElem hil,Option.toList_some,List.map_append,List.map_cons,List.map_nil,Wp,←Pj hil]
   rfl
  have gv:=Bd (m:=(mvR r (ix s0.l i)).m) rfl
  have zv:=fun n=>Bm (mvR r (ix s0.l i)).m n
  simp only[At.bnd] at zv
  have zs:=fun n=>Sq ((s0.l.take i).map (mvR r)) n
  simp only[At.bnd] at zs
  have zl:=fun n=>Eo r.ty n
  simp only[At.bnd] at zl
  have nx0:-9223372036854775808≤(i:Int)+1:=by omega
  have hll:(snL ((s0.l.take i).map (mvR r))).length=i*45:=by
   rw[Mt (M2 r _),List.length_map,List.length_take,Nat.min_eq_left (by omega)]
  have e45:i*45 / 45=i:=Nat.mul_div_cancel _ (by omega)
  have q2:i+1≤2 ^ 63 - 1:=by omega
  have q1:(i+1)*200≤140737488355328:=by omega
  have mvs:=Afg r (ix s0.l i)
  generalize ix s0.l i=q at*
  simp (maxSteps:=10^6) only[hlt,i0,c0,o0,hA,push_cast,↓Int.toNat_natCast,↓reduceIte,reduceCtorEq,Nat.reduceEqDiff,Nat.reduceLT,Nat.reduceAdd]
  (repeat (refine And.intro (by first|omega|decide) ?_))
  refine Ha 11 [(0,true),(1,true),(2,true),(3,true),(4,true),(5,true),(6,true),(7,true),(8,true),(9,true),(10,false)] (by kernel_rfl) (by kernel_rfl) ?_
  simp (maxSteps:=10^6) only[dz,Bo,F0,Hk,Br,B0,B9,I7,mvs,gv,zv,zs,zl,nx0,hll,e45,q1,q2,nx,List.flatten_cons,List.flatten_nil,List.append_nil,undef,↓Db,↓Ae,↓List.forall_mem_cons,↓A8,push_cast,↓reduceIte,reduceCtorEq,Nat.reduceEqDiff,Nat.reduceLT,Nat.reduceLeDiff,Nat.reduceAdd,Nat.reduceMul,Int.reduceNeg]
  repeat (refine And.intro (by first|exact of_eq_true (mgA_one _ _)|omega) ?_)
  refine Ba (i+1) [0,1,2,3,4,5,6,10] (show i+1≤s0.l.length by omega) (show s0.l.length - (i+1) < s0.l.length - i by omega) ?_
  simp (maxSteps:=10^6) only[ht,↓Db,↓Gv,↓Ae,↓Aw,↓List.forall_mem_cons,push_cast,↓reduceIte,reduceCtorEq,Nat.reduceEqDiff,Nat.reduceLT,Nat.reduceAdd]
  done
 obtain rfl:i=s0.l.length:=by omega
 rw[List.take_length]
 simp (maxSteps:=10^6) only[hlt,hpt,undef,push_cast,↓reduceIte,reduceCtorEq,Nat.reduceEqDiff,Nat.reduceLT,Nat.reduceAdd]
 (repeat (refine And.intro (by first|omega|decide) ?_))
 refine Sm (ι:=TalR×List Fct) 1 6 (fun x=>x.1.t=(if r.ty.t.can p=0 then r.ty.t.goneS p else r.ty.t)∧TalOk (Fs++x.2) x.1) (fun _=>.x (.a (.v (erV (r.ty.t.can p))))) (fun x=>.c (tlA x.1)) (fun x=>x.2) rfl rfl rfl Aaz rfl (fun γ' w' hS' γ0 h0 hS0=>Ae7 hS' (k:=1) rfl hw ok.ty p h0 hS0) (fun _ _=>rfl) (of_eq_true (Ae r.ty 0)) (fun x=>of_eq_true (Ae x.1 0)) (Aa rfl) (by simp (maxSteps:=10^6) only[↓Db,↓Ae,↓List.forall_mem_cons,push_cast,Nat.reduceLT,Nat.reduceAdd]) ?_
 rintro⟨tl,G⟩ ⟨q1,q2⟩
 dsimp only at q1 q2
 obtain⟨r1,hr1⟩:∃r1:HbR,r1={r with ty:=tl}:=⟨_,rfl⟩
 have ok1:HbOk (Fs++G) r1:=by rw[hr1];exact Tp ok q2
 have es:r1.s=r.s.talG p:=by
  rw[hr1]
  show HbS.mk _ _ _ _ _ _ tl.t _ _=HbS.mk _ _ _ _ _ _ (if r.ty.t.can p=0 then _ else _) _ _
  rw[q1]
  rfl
 simp (maxSteps:=10^6) only[push_cast,↓reduceIte,reduceCtorEq,Nat.reduceEqDiff,Nat.reduceLT,Nat.reduceAdd]
 (repeat (refine And.intro (by first|omega|decide) ?_))
 refine Gp [60,61] ?_
 simp (maxSteps:=10^6) only[push_cast,↓reduceIte,Nat.reduceEqDiff]
 have zsa:=fun n=>At5 (s0.l.map (mvR r)) n
 simp only[At.av,avK] at zsa
 refine C9 (ι:=HbR×SlV SnR×List Fct) (A:=hbB g gs r1) (M:=[.abs (fctRep G),.onn 60 45 (.c (snL (s0.l.map (mvR r))))]) (g:=g) (t:=149) (c:=.c (hbA r1)) (l:=G) 0 (HTellQ (Fs++G) r1.s.on.1 r1.s.on.2) (fun x=>.x (.a (.v x.2.1.val))) (fun x=>hbB g gs x.1) (fun x=>x.2.2) (by rw[hr1];rfl) rfl rfl (fun x _=>⟨_,rfl⟩) (fun x _=>rfl) rfl N2 rfl (Xk ok1 fun γ w hS=>Ms (D3 hS hw) (D2 hS (k:=0) rfl)) (fun _ _=>rfl) (Aa rfl) (Ar g gs r1) (fun x _=>Ar g gs x.1) (by simp (maxSteps:=10^6) only[↓Db,↓Ae,↓List.forall_mem_cons,push_cast,Nat.reduceLT,Nat.reduceAdd]) (by
  show ∀x∈_,Sv.av 6 _
  simp (maxSteps:=10^6) only[↓List.forall_mem_cons,push_cast,reduceCtorEq,Nat.reduceLeDiff]) (by
  show ∀x∈_,Res.av 6 _
  simp (maxSteps:=10^6) only[zsa,↓List.forall_mem_cons,push_cast]) ?_
 rintro⟨r3,out,J⟩ ⟨u1,u2,u3,u4,u5⟩
 dsimp only at u1 u2 u3 u4 u5 ⊢
 rw[es] at u1 u2
 have l45:(snL (s0.l.map (mvR r))).length=s0.l.length*45:=by rw[Mt (M2 r _),List.length_map]
 have e45:s0.l.length*45 / 45=s0.l.length:=Nat.mul_div_cancel _ (by omega)
 have zl:(Cont.c (.v (.bool false):: .v (.int .i64 0)::mgA zeroR)).len=45:=rfl
 have zk:=of_eq_true I7
 have hout:OutOk (G++J) out:=u4.more fun f hf=>List.mem_append_right _ hf
 have hsm:∀y∈out.l,y.m.sm.length=32:=fun y hy=>(u4.2.1 y hy).s
 have hfew:out.l.length≤1:=by
  have e:out.l.length=(out.l.map SnR.s).length:=(List.length_map ..).symm
  rw[e,u2]
  exact Afe _
 have okA:∀f:Fct,HbOk (Fs++((G++J)++[f])) r3:=fun f=>u3.more fun f hf=>by
  rw[List.append_assoc] at hf
  rcases List.mem_append.1 hf with hf|hf
  ·exact List.mem_append_left _ hf
  ·exact List.mem_append_right _ (List.mem_append_left _ hf)
 unfold hbB hbA
 by_cases h0:out.l=[]
 ·have hn:=u5 h0
  have vo:out.val=.slice none 0 0:=by rw[hn];rfl
  rw[vo]
  simp (maxSteps:=10^6) only[push_cast,↓reduceIte,Nat.reduceEqDiff]
  refine Afb (k:=7) (m:=45) (e:=60) (l:=snL (s0.l.map (mvR r))) (kf:=6) (n':=s0.l.length) (vs:=(s0.l.map (mvR r)).flatMap snV) (Fl:=G++J) rfl rfl rfl rfl underlying55 (by omega) sSn zl zk (by rw[l45,e45,bSn];omega) (by rw[l45,e45];unfold maxLen;omega) (Aa rfl) (by simp (maxSteps:=10^6) only[↓Db,↓Ae,↓List.forall_mem_cons,push_cast,Nat.reduceLT,Nat.reduceAdd]) (fun γ=>I6 γ _) (by rw[Id (M2 r _),List.length_map]) rfl (by decide) fun A1 cap1=>?_
  rw[List.append_nil]
  simp (maxSteps:=10^6) only[Dn,Ex,Res.sub,Cont.sub,Sv.sub,Sc.sub,At.sub,Ie,If,I5,Ld,push_cast,↓reduceIte,Nat.reduceEqDiff,Nat.reduceLT,Nat.reduceAdd]
  have hO:=OutOk.of (Fs:=G++J) (A:=A1) (cap:=cap1) (L:=s0.l.map (mvR r)) (Xn r _ _) (by rw[List.length_map];omega)
  rw[List.length_map] at hO
  refine⟨(r3,⟨A1,cap1,s0.l.map (mvR r)⟩,(G++J)++[⟨.slice A1 s0.l.length cap1,s0.l.length,(s0.l.map (mvR r)).flatMap snV⟩]),⟨u1,?_,okA _,hO⟩,A6 [0,1,2,3,4,5,6] ?_⟩
  ·show (s0.l.map (mvR r)).map SnR.s=_
   rw[Xo,←u2,h0]
   exact (List.append_nil _).symm
  ·have vv:(⟨A1,cap1,s0.l.map (mvR r)⟩:SlV SnR).val=.slice A1 s0.l.length cap1:=by
    show Value.slice A1 (s0.l.map (mvR r)).length cap1=_
    rw[List.length_map]
   simp (maxSteps:=10^6) only[vv,↓Ae,↓Aw,↓List.forall_mem_cons,push_cast,↓reduceIte,reduceCtorEq,Nat.reduceEqDiff,Nat.reduceLT,Nat.reduceAdd]
 have h1:0 < out.l.length:=List.length_pos_iff.2 h0
 have vo:out.val=.slice out.A out.l.length out.c:=rfl
 rw[vo]
 simp (maxSteps:=10^6) only[push_cast,↓reduceIte,Nat.reduceEqDiff]
 have hsA:∀y∈s0.l.map (mvR r)++out.l,y.m.sm.length=32:=fun y hy=>(List.mem_append.1 hy).elim (M2 r _ y) (hsm y)
 have eL:(s0.l.map (mvR r)++out.l).length=s0.l.length+out.l.length:=by rw[List.length_append,List.length_map]
 refine Afc (k:=7) (m:=45) (nd:=out.l.length) (cp:=out.c) (e:=60) (A:=out.A) (vs:=out.l.flatMap snV) (l:=snL (s0.l.map (mvR r))) (kf:=6) (n':=s0.l.length+out.l.length) (us:=(s0.l.map (mvR r)++out.l).flatMap snV) (Fl:=G++J) rfl rfl rfl rfl underlying55 (by omega) (Id hsm) h1 (Ae9 _) sSn zl zk (by rw[l45,e45,bSn];omega) (by rw[l45,e45];unfold maxLen;omega) (fun γ' w' hS'=>Afa (kf:=6) hS' rfl hout) (Aa rfl) (by simp (maxSteps:=10^6) only[↓Db,↓Ae,↓List.forall_mem_cons,push_cast,Nat.reduceLT,Nat.reduceAdd]) (fun γ=>by rw[Pk,←Ae8];exact I6 γ _) (by rw[Id hsA,eL]) rfl (by decide) fun A1 cap1=>?_
 rw[Pk]
 have hmA:∀y∈s0.l.map (mvR r)++out.l,MOk (G++J) y.m:=fun y hy=>(List.mem_append.1 hy).elim (Xn r _ _ y) fun h=>hout.2.1 y h
 have hOut:=OutOk.of (A:=A1) (cap:=cap1) (L:=s0.l.map (mvR r)++out.l) hmA (by rw[eL];omega)
 rw[eL] at hOut
 simp (maxSteps:=10^6) only[Dn,Ex,Res.sub,Cont.sub,Sv.sub,Sc.sub,At.sub,Ie,If,I5,Ld,push_cast,↓reduceIte,Nat.reduceEqDiff,Nat.reduceLT,Nat.reduceAdd]
 refine⟨(r3,⟨A1,cap1,s0.l.map (mvR r)++out.l⟩,(G++J)++[⟨.slice A1 (s0.l.length+out.l.length) cap1,s0.l.length+out.l.length,(s0.l.map (mvR r)++out.l).flatMap snV⟩]),⟨u1,?_,okA _,hOut⟩,A6 [0,1,2,3,4,5,6] ?_⟩
 ·show (s0.l.map (mvR r)++out.l).map SnR.s=_
  rw[List.map_append,Xo,u2]
 ·have vv:(⟨A1,cap1,s0.l.map (mvR r)++out.l⟩:SlV SnR).val=.slice A1 (s0.l.length+out.l.length) cap1:=by
   show Value.slice A1 (s0.l.map (mvR r)++out.l).length cap1=_
   rw[eL]
  simp (maxSteps:=10^6) only[vv,↓Ae,↓Aw,↓List.forall_mem_cons,push_cast,↓reduceIte,reduceCtorEq,Nat.reduceEqDiff,Nat.reduceLT,Nat.reduceAdd]
def Azh (f:FuncId) (xs:List Value) (Fs:List Fct) (s:HbS×List SnS×Int) (g gs:Nat) (w:World) (B:Nat→Prop):Prop:=
 Calls prog f (.pointer (some ⟨g,0,none⟩)::xs).toArray w fun e w'=>∃(x:HbR×SlV SnR×List Fct) (γ1:List Nm),Ll Fs s.1 s.2.1 x∧e=.returned (.tuple #[x.2.1.val,erV s.2.2])∧Sat w B γ1 (hbB g gs x.1++[.abs (fctRep x.2.2)]) w'
theorem Azi (p:Int) (hS:Sat w B γ (hbB g gs r) w) (hw:Known w B Fs) (ok:HbOk Fs r):Azh 39 [.int .i64 p] Fs (r.s.goneE p) g gs w B:=by
 have arg:=Fe hS [.x (.a (.v (.int .i64 p)))] (fun x hx γ γ'=>by rw[List.mem_singleton.1 hx];rfl) γ
 by_cases hin:p∈r.under.l
 case neg=>
  have e0:r.s.goneE p=(r.s,[],2):=if_pos hin
  have:=Aze p hS hw ok hin
  rw[arg] at this
  rw[e0]
  refine this.mono fun e w' ⟨_,γ1,_,he,hS1⟩=>?_
  exact⟨(r,⟨none,0,[]⟩,[]),γ1,⟨rfl,rfl,by rw[List.append_nil];exact ok,D4 _⟩,he,hS1⟩
 by_cases hp:r.phase=0
 ·have e0:r.s.goneE p=((r.s.talG p).on.1,r.s.movesTo (Bt r p).l++(r.s.talG p).on.2,0):=(if_neg (show ¬p∉r.s.under from fun h=>h hin)).trans ((if_pos hp).trans (by rw[Afi]))
  have:=Azg p hS hw ok hin hp
  unfold Xq at this
  rw[arg] at this
  rw[e0]
  exact this.mono fun e w' ⟨x,γ1,h1,h2,h3⟩=>⟨x,γ1,h1,by rw[h2];show Ending.returned (.tuple #[x.2.1.val,.nilIface])=Ending.returned (.tuple #[x.2.1.val,erV 0]);rw[Gc],h3⟩
 have e0:r.s.goneE p=(r.s,r.s.movesTo (Bt r p).l,0):=(if_neg (show ¬p∉r.s.under from fun h=>h hin)).trans ((if_neg hp).trans (by rw[Afi]))
 have:=Azf p hS hw ok hin hp
 rw[arg] at this
 rw[e0]
 refine this.mono fun e w' ⟨_,γ1,_,he,hS1⟩=>?_
 have hf:=Xp ok p
 obtain⟨A1,cap,γ',e1,e2,eB,eS,h5⟩:=hS1.onnF (j:=7) (k:=6) (vs:=((Bt r p).l.map (mvR r)).flatMap snV) (n:=(Bt r p).l.length) (l:=[]) rfl rfl (by decide) (I6 γ1 _) (by rw[Id (M2 r _),List.length_map])
 have h6:Sat w B γ' ((hbB g gs r++[.abs (fctRep ([]++[⟨.slice A1 (Bt r p).l.length cap,(Bt r p).l.length,((Bt r p).l.map (mvR r)).flatMap snV⟩]))])++[.gone]) w':=h5
 have hO:=OutOk.of (Fs:=[]) (A:=A1) (cap:=cap) (L:=(Bt r p).l.map (mvR r)) (Xn r _ _) (by rw[List.length_map];omega)
 rw[List.length_map] at hO
 refine⟨(r,⟨A1,cap,(Bt r p).l.map (mvR r)⟩,[]++[⟨.slice A1 (Bt r p).l.length cap,(Bt r p).l.length,((Bt r p).l.map (mvR r)).flatMap snV⟩]),_,⟨rfl,Xo r _,ok.more fun f hf=>List.mem_append_left _ hf,hO⟩,?_,h6.frontOf (M1 g gs _ _)⟩
 rw[he]
 show Ending.returned (.tuple #[nmS γ1 7,.nilIface])=Ending.returned (.tuple #[Value.slice A1 ((Bt r p).l.map (mvR r)).length cap,erV 0])
 rw[e1,List.length_map,Gc]
end
end Go.Proofs.YtedaafmfjhjfmaaGreatDoor
