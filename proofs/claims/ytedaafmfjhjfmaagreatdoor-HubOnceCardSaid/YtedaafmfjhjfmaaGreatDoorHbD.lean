import Derived.Test.YtedaafmfjhjfmaaGreatDoorHbC
/- Law 30: sure. -/
namespace Go.Proofs.YtedaafmfjhjfmaaGreatDoor
open _root_.Go.Proofs.Tryz
open Go.RowKit
set_option linter.unusedSimpArgs false
set_option linter.unusedVariables false
theorem Xw {t:Nat} {X X':Sv} {rest:List (Nat×Sv)} {γ:List Nm} (h:X.val γ=X'.val γ):∀u sv,Fr.get ((t,X')::rest) u=some sv→∃sv0,Fr.get ((t,X)::rest) u=some sv0∧sv0.val γ=sv.val γ:=fun u sv hu=>by
 unfold Fr.get at hu ⊢
 split at hu
 ·rename_i h1
  rw[if_pos h1]
  cases hu
  exact⟨X,rfl,h⟩
 ·rename_i h1
  rw[if_neg h1]
  exact⟨sv,hu,rfl⟩
section
variable {P:Program} {w0:World} {ow:Nat→Prop} {n:Nat} {s:S}
theorem Xx {ops rest:List Oper} {o:Oper} {K:S→Prop} (j k nn:Nat) (fr2:Value→List (Nat×Sv)) (hp2:Value→List Res) {e:TypeId} {c:Cont} {vs:List Value} {l:List Fct} (hj:s.hp[j]?=some (.blk e c)) (hv:∀γ,c.vals γ=vs) (hl:vs.length=nn) (h2:∀γ v w,At.val γ (.s j 0 nn nn)=v→Sat w0 ow γ s.hp w→Sat w0 ow γ (hp2 v) w) (h4:∀γ v,At.val γ (.s j 0 nn nn)=v→∀u sv,Fr.get (fr2 v) u=some sv→∃sv0,Fr.get s.fr u=some sv0∧sv0.val γ=sv.val γ) (hj2:∀v,(hp2 v)[j]?=some (.blk e c)) (hk:∀v,(hp2 v)[k]?=some (.abs (fctRep l))) (hjk:j≠k) (hmax:nn≤maxLen)
  (h:∀A,Ah P w0 ow n ops o rest ⟨fr2 (.slice A nn nn),((hp2 (.slice A nn nn)).set j .gone).set k (.abs (fctRep (l++[⟨.slice A nn nn,nn,vs⟩])))⟩ K):Ah P w0 ow n ops o rest s K:=fun a w hf=>by
 obtain⟨γ,hf⟩:=hf
 have h0:=hf.sat
 have hns:=h0.rdBlk hj 0
 rw[hv,List.drop_zero] at hns
 have hrc:=h2 γ (.slice (some ⟨nmB γ j,0,none⟩) nn nn) w rfl h0
 obtain⟨γ',eB,eS,h3⟩:=hrc.absorbs (j:=j) (k:=k) (l:=l) (fs:=[⟨.slice (some ⟨nmB γ j,0,none⟩) nn nn,nn,vs⟩]) (r:=.blk e c) (hj2 _) (hk _) hjk (X:=fun b=>some (nmB γ j)=some b) (fun b hb=>hb) fun f hf=>by
   rw[List.mem_singleton.1 hf]
   refine⟨some ⟨nmB γ j,0,none⟩,nn,rfl,Nat.le_refl _,hmax,fun hp=>⟨nmB γ j,0,rfl,rfl,fun q u hu=>?_⟩⟩
   obtain⟨b,off,e1,_,e2⟩:=hns hp
   cases e1
   exact e2 q u hu
 refine h (some ⟨nmB γ j,0,none⟩) a w ⟨γ',h3,hf.defers,hf.size,fun u sv hu=>?_⟩
 obtain⟨sv0,g1,g2⟩:=h4 γ _ rfl u sv hu
 rw[Mf eB eS,←g2]
 exact hf.at_ u sv0 g1
end
theorem Afu {α β:Type} [Inhabited α] {l:List α} {f:α→β} {b:β} (h:l.map f=[b]):l.length=1∧f (ix l 0)=b:=by
 match l,h with
 |[x],h=>
  injection h with h1 _
  exact⟨rfl,h1⟩
theorem Afv {w0:World} {ow:Nat→Prop} {hp:List Res} {s1 s2:Sv} {a b:List Int} (hm:a.length≤100000) (h1:Bg w0 ow hp s1 (a.map (Value.int .i64))) (h2:Bg w0 ow hp s2 (b.map (Value.int .i64))):Ad prog w0 ow 44 [s1,s2] hp (.x (.a (.v (.bool (decide (a=b)))))) hp:=Bc fun γ w hS=>by
 obtain⟨A,c,e1,b1,q1⟩:=h1 γ w hS
 obtain⟨A2,c2,e2,b2,q2⟩:=h2 γ w hS
 rw[List.length_map] at e1 e2
 show Calls _ _ #[s1.val γ,s2.val γ] w _
 rw[e1,e2]
 exact A0g a b A c A2 c2 w hm q1 q2
theorem A0z:HbS.new Fx 0 1=hT0:=rfl
theorem A00:(hT0.hear hPm).1=hT1:=rfl
theorem A01:(hT1.hear hPm).1=hT2:=rfl
theorem A02:(hT2.goneE 5).1=hT3:=rfl
def t30 (g gs:Nat) (r:HbR) (F:List Fct) (v:Value) (a7 a8 a10:Res) (i n p x:At):S:=⟨[(36,.x (.g (mgT 1 2 i n p x))),(35,.x (.a (.p 0 0))),(1,.x (.a (.p 0 0))),(2,.x (.a (.v .nilIface))),(4,.x (.a (.v (erV 1)))),(5,.x (.a (.v v))),(6,.x (.a (.p 11 0)))],[.pin g 149 (.c [.v (.int .i64 r.place),.v (.int .i64 r.gen),.v (.int .i64 r.parent),.v r.above.val,.v r.under.val,.o 2,.p 1 0,.p 3 0,.v (.int .i64 r.phase)]),.blk 170 (.c (tlA r.ty)),.mp .i64 (slE r.next),.pin gs 120 (.c [.v (.int .i64 r.sm.place),.v (.int .i64 r.sm.dim),.v r.sm.spots.val,.o 4,.o 5]),.mp .i64 (iE r.sm.heard),.mp .i64 (mgE r.sm.taken),.abs (fctRep F),a7,a8,.gone,a10,.blk 48 (.c (mgT 1 2 i n p x))]⟩
theorem Xy {γ:List Nm} {i n p x i' n' p' x':At} (h1:i'.val γ=i.val γ) (h2:n'.val γ=n.val γ) (h3:p'.val γ=p.val γ) (h4:x'.val γ=x.val γ):(Sv.x (.g (mgT 1 2 i n p x))).val γ=(Sv.x (.g (mgT 1 2 i' n' p' x'))).val γ:=by
 show Value.agg ((mgT 1 2 i n p x).map (At.val γ)).toArray=Value.agg ((mgT 1 2 i' n' p' x').map (At.val γ)).toArray
 rw[Ae3 h1.symm h2.symm h3.symm h4.symm]
attribute [local irreducible] Ac Ad Ah Au Ao Aj Ai Al
attribute [local irreducible] A9 okV Ak erV Bq cfF tcF isP ofP abF Bk idxN Cg B2 Fx hT0 hT1 hT2 hT3 mgT
set_option maxRecDepth 100000 in
set_option maxHeartbeats 4000000 in
theorem A03 (w:World) (hgd:Handle w):Calls prog 35 #[] w fun e w'=>e=.returned (.bool true)∧Below w.heap.size w w':=by
 refine Bf (n:=108) func35 rfl ntmps35 [] (by simp) (.x (.a (.v (.bool true)))) (fun _=>rfl) ?_
 simp (maxSteps:=10^6) only[push_cast,↓reduceIte,Nat.reduceLT]
 (repeat (refine And.intro (by first|omega|decide) ?_))
 refine Ro (by simp (maxSteps:=10^6) only[push_cast]) ?_
 refine Jz (ι:=CfR×List Fct) (fun x=>x.1.cf=Fx∧CfFk x.2 x.1) (fun x=>.x (.g (cfA x.1))) (fun x=>x.2) 0 rfl rfl Aax rfl (fun γ' w' hS'=>Afr w') (fun _ _=>rfl) (Aa rfl) (by simp (maxSteps:=10^6) only[push_cast]) ?_
 rintro⟨c1,F1⟩ ⟨e1,k1⟩
 dsimp only at e1 k1
 simp (maxSteps:=10^6) only[push_cast,↓reduceIte]
 refine Ac6 (ι:=(Nat×Nat)×HbR×List Fct) (Pn Fx 0 1) (fun _=>.t [.a (.p 1 0),.a (.v .nilIface)]) (fun x=>[.abs (fctRep F1)]++(hbB x.1.1 x.1.2 x.2.1++[Res.abs (fctRep x.2.2)]).map (Res.ren (B6 1 7))) rfl Rg rfl (fun γ' w' hS'=>Afn (hp:=[.abs (fctRep F1)]) 0 1 (by rw[←e1];exact Aeu (k:=0) rfl k1) A0v Ayh.2 (fun r hr=>by rw[List.mem_singleton.1 hr];trivial) γ' w' hS') (Aa rfl) (by simp (maxSteps:=10^6) only[push_cast];exact Aym c1 _) ?_
 rintro⟨⟨g,gs⟩,r,F2⟩ ⟨s1,ok⟩
 dsimp only at s1 ok
 unfold hbB hbA cfA
 have zl:=fun n=>Eo r.ty n
 simp only[At.bnd] at zl
 simp (maxSteps:=10^6) only[B6,rn,↓Aw,push_cast,↓reduceIte,Nat.reduceEqDiff,Nat.reduceLT,Nat.reduceAdd]
 (repeat (refine And.intro (by first|omega|decide) ?_))
 refine Gb (s':=⟨[(1,.x (.a (.p 0 0))),(2,.x (.a (.v .nilIface)))],[.pin g 149 (.c [.v (.int .i64 r.place),.v (.int .i64 r.gen),.v (.int .i64 r.parent),.v r.above.val,.v r.under.val,.o 2,.p 1 0,.p 3 0,.v (.int .i64 r.phase)]),.blk 170 (.c (tlA r.ty)),.mp .i64 (slE r.next),.pin gs 120 (.c [.v (.int .i64 r.sm.place),.v (.int .i64 r.sm.dim),.v r.sm.spots.val,.o 4,.o 5]),.mp .i64 (iE r.sm.heard),.mp .i64 (mgE r.sm.taken),.abs (fctRep F2)]⟩) (Cn [1,2,3,4,5,6,7] (by simp (maxSteps:=10^6) only[rn,↓Ae,↓Aw,↓List.forall_mem_cons,push_cast,↓reduceIte,Nat.reduceEqDiff,Nat.reduceLT,Nat.reduceAdd])) ?_
 refine Jz (ι:=CfR×List Fct) (fun x=>x.1.cf=Fx∧CfFk x.2 x.1) (fun x=>.x (.g (cfA x.1))) (fun x=>x.2) 6 rfl rfl Aax rfl (fun γ' w' hS'=>Afr w') (fun _ _=>rfl) (Aa rfl) (by simp (maxSteps:=10^6) only[↓Ae,↓List.forall_mem_cons,push_cast,Nat.reduceLT,Nat.reduceAdd]) ?_
 rintro⟨c3,F3⟩ ⟨e3,k3⟩
 dsimp only at e3 k3
 simp (maxSteps:=10^6) only[push_cast,↓reduceIte]
 (repeat (refine And.intro (by first|omega|decide) ?_))
 refine Am rfl Rg rfl (Afo 1 1 (cf:=Fx) (by
  rw[←e3]
  exact Aeu (k:=6) rfl (k3.more fun f hf=>List.mem_append_right _ hf)) A0w) (Aa rfl) ?_
 simp (maxSteps:=10^6) only[push_cast,↓reduceIte,Nat.reduceEqDiff,Nat.reduceLT,Nat.reduceAdd]
 (repeat (refine And.intro (by first|omega|decide) ?_))
 obtain⟨G1,hG1⟩:∃G,G=F2++F3:=⟨_,rfl⟩
 rw[←hG1]
 have ok1:HbOk G1 r:=by rw[hG1];exact ok.more fun f hf=>List.mem_append_left _ hf
 clear hG1
 refine Gb (s':=⟨[(25,.x (.a (.p 0 0))),(1,.x (.a (.p 0 0))),(2,.x (.a (.v .nilIface))),(4,.x (.a (.v (erV 1))))],[.pin g 149 (.c [.v (.int .i64 r.place),.v (.int .i64 r.gen),.v (.int .i64 r.parent),.v r.above.val,.v r.under.val,.o 2,.p 1 0,.p 3 0,.v (.int .i64 r.phase)]),.blk 170 (.c (tlA r.ty)),.mp .i64 (slE r.next),.pin gs 120 (.c [.v (.int .i64 r.sm.place),.v (.int .i64 r.sm.dim),.v r.sm.spots.val,.o 4,.o 5]),.mp .i64 (iE r.sm.heard),.mp .i64 (mgE r.sm.taken),.abs (fctRep G1)]⟩) (Cn [0,1,2,3,4,5,6] (by simp (maxSteps:=10^6) only[rn,↓Ae,↓Aw,↓List.forall_mem_cons,push_cast,↓reduceIte,reduceCtorEq,Nat.reduceEqDiff,Nat.reduceLT,Nat.reduceAdd])) ?_
 refine C9 (ι:=SlV SnR×List Fct) (A:=hbB g gs r) (M:=[.abs (fctRep G1)]) (g:=g) (t:=149) (c:=.c (hbA r)) (l:=G1) 0 (fun x=>x.1.l.map SnR.s=r.s.begin∧OutOk x.2 x.1) (fun x=>.x (.a (.v x.1.val))) (fun _=>hbB g gs r) (fun x=>x.2) rfl rfl rfl (fun x _=>⟨_,rfl⟩) (fun x _=>rfl) rfl Aor rfl (A0y ok1 fun γ w hS=>D2 hS (k:=0) rfl) (fun _ _=>rfl) (Aa rfl) (Ar g gs r) (fun x _=>Ar g gs r) (by simp (maxSteps:=10^6) only[↓Ae,↓List.forall_mem_cons,push_cast,Nat.reduceLT,Nat.reduceAdd]) (by
  show ∀x∈_,Sv.av 6 _
  simp (maxSteps:=10^6) only[↓List.forall_mem_cons,push_cast,Nat.reduceLeDiff]) (by
  show ∀x∈_,Res.av 6 _
  simp (maxSteps:=10^6) only[↓List.forall_mem_cons,push_cast]) ?_
 rintro⟨B5,H0⟩ ⟨b1,b2⟩
 dsimp only at b1 b2
 have dz:(mgA zeroR).drop 43=[]:=rfl
 have zb:=fun n=>Bm zeroR n
 simp only[At.bnd] at zb
 have mb:=Ayk 1 2 (.s 7 0 2 2) (.s 10 0 2 2) (.o 9) (.s 8 0 1 1)
 simp only[At.bnd] at mb
 unfold hbB hbA
 simp (maxSteps:=10^6) only[mb,Bo,Br,B0,B9,undef,Ayi,Ayj,↓Ae,↓List.forall_mem_cons,push_cast,↓reduceIte,reduceCtorEq,Nat.reduceEqDiff,Nat.reduceLT,Nat.reduceLeDiff,Nat.reduceAdd,Nat.reduceMul]
 (repeat (refine And.intro (by first|omega|decide) ?_))
 refine⟨Eq.mpr (Ae0 1 2 (.s 7 0 2 2) (.s 10 0 2 2) (.o 9) (.s 8 0 1 1) fun v h _=>h) ⟨by first|rfl|trivial,by first|rfl|trivial,by first|rfl|trivial,by first|rfl|trivial⟩,?_⟩
 refine Gb (s':=⟨[(36,.x (.g (mgT 1 2 (.s 7 0 2 2) (.s 10 0 2 2) (.o 9) (.s 8 0 1 1)))),(35,.x (.a (.p 0 0))),(1,.x (.a (.p 0 0))),(2,.x (.a (.v .nilIface))),(4,.x (.a (.v (erV 1)))),(5,.x (.a (.v B5.val))),(6,.x (.a (.p 11 0)))],[.pin g 149 (.c [.v (.int .i64 r.place),.v (.int .i64 r.gen),.v (.int .i64 r.parent),.v r.above.val,.v r.under.val,.o 2,.p 1 0,.p 3 0,.v (.int .i64 r.phase)]),.blk 170 (.c (tlA r.ty)),.mp .i64 (slE r.next),.pin gs 120 (.c [.v (.int .i64 r.sm.place),.v (.int .i64 r.sm.dim),.v r.sm.spots.val,.o 4,.o 5]),.mp .i64 (iE r.sm.heard),.mp .i64 (mgE r.sm.taken),.abs (fctRep (G1++H0)),.blk 3 (.i64 [3,5]),.blk 111 (.u32 [7]),.onn 115 2 (.c [.v (.int .i64 3),.v (.int .u64 2),.v (.int .i64 5),.v (.int .u64 4)]),.blk 41 (.u64 [1,2]),.blk 48 (.c (mgT 1 2 (.s 7 0 2 2) (.s 10 0 2 2) (.o 9) (.s 8 0 1 1)))]⟩) (Cn [0,1,2,3,4,5,6,7,8,9,10,11] (by simp (maxSteps:=10^6) only[mb,rn,Ayl,↓Ae,↓Aw,↓List.forall_mem_cons,push_cast,↓reduceIte,reduceCtorEq,Nat.reduceEqDiff,Nat.reduceLT,Nat.reduceAdd])) ?_
 refine Aeg 9 6 2 (vs:=[.int .i64 3,.int .u64 2,.int .i64 5,.int .u64 4]) rfl (fun _=>rfl) rfl rfl (by decide) fun A3 c3=>?_
 simp (maxSteps:=10^6) only[Dn,Ex,Res.sub,Cont.sub,Sv.sub,Sc.sub,At.sub,I5,Ie,If,Ae1,Ae1,Ld,push_cast,↓reduceIte,Nat.reduceEqDiff]
 refine Xx (s:=t30 g gs r (G1++H0++[(⟨.slice A3 2 c3,2,[.int .i64 3,.int .u64 2,.int .i64 5,.int .u64 4]⟩:Fct)]) B5.val (.blk 3 (.i64 [3,5])) (.blk 111 (.u32 [7])) (.blk 41 (.u64 [1,2])) (.s 7 0 2 2) (.s 10 0 2 2) (.v (.slice A3 2 c3)) (.s 8 0 1 1)) 7 6 2 (fun v=>(t30 g gs r (G1++H0++[(⟨.slice A3 2 c3,2,[.int .i64 3,.int .u64 2,.int .i64 5,.int .u64 4]⟩:Fct)]) B5.val (.blk 3 (.i64 [3,5])) (.blk 111 (.u32 [7])) (.blk 41 (.u64 [1,2])) (.v v) (.s 10 0 2 2) (.v (.slice A3 2 c3)) (.s 8 0 1 1)).fr) (fun v=>(t30 g gs r (G1++H0++[(⟨.slice A3 2 c3,2,[.int .i64 3,.int .u64 2,.int .i64 5,.int .u64 4]⟩:Fct)]) B5.val (.blk 3 (.i64 [3,5])) (.blk 111 (.u32 [7])) (.blk 41 (.u64 [1,2])) (.v v) (.s 10 0 2 2) (.v (.slice A3 2 c3)) (.s 8 0 1 1)).hp) (vs:=[.int .i64 3,.int .i64 5]) rfl (fun _=>rfl) rfl (fun γ v w hv hS=>Xe 11 (.v v) _ _ _ hS rfl hv.symm rfl rfl rfl) (fun γ v hv=>Xw (Xy hv.symm rfl rfl rfl)) (fun _=>rfl) (fun _=>rfl) (by decide) (by unfold maxLen;omega) fun A1=>?_
 refine Xx (s:=t30 g gs r (G1++H0++[(⟨.slice A3 2 c3,2,[.int .i64 3,.int .u64 2,.int .i64 5,.int .u64 4]⟩:Fct)]++[(⟨.slice A1 2 2,2,[.int .i64 3,.int .i64 5]⟩:Fct)]) B5.val .gone (.blk 111 (.u32 [7])) (.blk 41 (.u64 [1,2])) (.v (.slice A1 2 2)) (.s 10 0 2 2) (.v (.slice A3 2 c3)) (.s 8 0 1 1)) 8 6 1 (fun v=>(t30 g gs r (G1++H0++[(⟨.slice A3 2 c3,2,[.int .i64 3,.int .u64 2,.int .i64 5,.int .u64 4]⟩:Fct)]++[(⟨.slice A1 2 2,2,[.int .i64 3,.int .i64 5]⟩:Fct)]) B5.val .gone (.blk 111 (.u32 [7])) (.blk 41 (.u64 [1,2])) (.v (.slice A1 2 2)) (.s 10 0 2 2) (.v (.slice A3 2 c3)) (.v v)).fr) (fun v=>(t30 g gs r (G1++H0++[(⟨.slice A3 2 c3,2,[.int .i64 3,.int .u64 2,.int .i64 5,.int .u64 4]⟩:Fct)]++[(⟨.slice A1 2 2,2,[.int .i64 3,.int .i64 5]⟩:Fct)]) B5.val .gone (.blk 111 (.u32 [7])) (.blk 41 (.u64 [1,2])) (.v (.slice A1 2 2)) (.s 10 0 2 2) (.v (.slice A3 2 c3)) (.v v)).hp) (vs:=[.int .u32 7]) rfl (fun _=>rfl) rfl (fun γ v w hv hS=>Xe 11 _ _ _ (.v v) hS rfl rfl rfl rfl hv.symm) (fun γ v hv=>Xw (Xy rfl rfl rfl hv.symm)) (fun _=>rfl) (fun _=>rfl) (by decide) (by unfold maxLen;omega) fun A4=>?_
 refine Xx (s:=t30 g gs r (G1++H0++[(⟨.slice A3 2 c3,2,[.int .i64 3,.int .u64 2,.int .i64 5,.int .u64 4]⟩:Fct)]++[(⟨.slice A1 2 2,2,[.int .i64 3,.int .i64 5]⟩:Fct)]++[(⟨.slice A4 1 1,1,[.int .u32 7]⟩:Fct)]) B5.val .gone .gone (.blk 41 (.u64 [1,2])) (.v (.slice A1 2 2)) (.s 10 0 2 2) (.v (.slice A3 2 c3)) (.v (.slice A4 1 1))) 10 6 2 (fun v=>(t30 g gs r (G1++H0++[(⟨.slice A3 2 c3,2,[.int .i64 3,.int .u64 2,.int .i64 5,.int .u64 4]⟩:Fct)]++[(⟨.slice A1 2 2,2,[.int .i64 3,.int .i64 5]⟩:Fct)]++[(⟨.slice A4 1 1,1,[.int .u32 7]⟩:Fct)]) B5.val .gone .gone (.blk 41 (.u64 [1,2])) (.v (.slice A1 2 2)) (.v v) (.v (.slice A3 2 c3)) (.v (.slice A4 1 1))).fr) (fun v=>(t30 g gs r (G1++H0++[(⟨.slice A3 2 c3,2,[.int .i64 3,.int .u64 2,.int .i64 5,.int .u64 4]⟩:Fct)]++[(⟨.slice A1 2 2,2,[.int .i64 3,.int .i64 5]⟩:Fct)]++[(⟨.slice A4 1 1,1,[.int .u32 7]⟩:Fct)]) B5.val .gone .gone (.blk 41 (.u64 [1,2])) (.v (.slice A1 2 2)) (.v v) (.v (.slice A3 2 c3)) (.v (.slice A4 1 1))).hp) (vs:=[.int .u64 1,.int .u64 2]) rfl (fun _=>rfl) rfl (fun γ v w hv hS=>Xe 11 _ (.v v) _ _ hS rfl rfl hv.symm rfl rfl) (fun γ v hv=>Xw (Xy rfl hv.symm rfl rfl)) (fun _=>rfl) (fun _=>rfl) (by decide) (by unfold maxLen;omega) fun A2=>?_
 simp (maxSteps:=10^6) only[t30,push_cast]
 obtain⟨G2,eG2⟩:∃G,G=(G1++H0++[(⟨.slice A3 2 c3,2,[.int .i64 3,.int .u64 2,.int .i64 5,.int .u64 4]⟩:Fct)]++[(⟨.slice A1 2 2,2,[.int .i64 3,.int .i64 5]⟩:Fct)]++[(⟨.slice A4 1 1,1,[.int .u32 7]⟩:Fct)]++[(⟨.slice A2 2 2,2,[.int .u64 1,.int .u64 2]⟩:Fct)]):=⟨_,rfl⟩
 rw[←eG2]
 have ok2:HbOk G2 r:=by rw[eG2];exact ok1.more fun f hf=>by simp only[List.mem_append];exact .inl (.inl (.inl (.inl (.inl hf))))
 have b3:OutOk G2 B5:=by rw[eG2];exact b2.more fun f hf=>by simp only[List.mem_append];exact .inl (.inl (.inl (.inl (.inr hf))))
 have ff3:(⟨.slice A3 2 c3,2,[.int .i64 3,.int .u64 2,.int .i64 5,.int .u64 4]⟩:Fct)∈G2:=by rw[eG2];simp
 have ff1:(⟨.slice A1 2 2,2,[.int .i64 3,.int .i64 5]⟩:Fct)∈G2:=by rw[eG2];simp
 have ff4:(⟨.slice A4 1 1,1,[.int .u32 7]⟩:Fct)∈G2:=by rw[eG2];simp
 have ff2:(⟨.slice A2 2 2,2,[.int .u64 1,.int .u64 2]⟩:Fct)∈G2:=by rw[eG2];simp
 clear eG2
 have dm:=Ayq 2 A1 2 [3,5] A2 2 A3 c3 A4 1
 obtain⟨m,hm⟩:∃m,m=tmR 2 A1 2 [3,5] A2 2 A3 c3 A4 1:=⟨_,rfl⟩
 rw[←hm] at dm
 have dm:mgT 1 2 (.v (.slice A1 2 2)) (.v (.slice A2 2 2)) (.v (.slice A3 2 c3)) (.v (.slice A4 1 1))=mgA m:=dm
 have okm:MOk G2 m:=by
  rw[hm]
  exact⟨rfl,.inr ff1,.inr ff2,.inr ff3,.inr ff4,⟨rfl,by show 2≤1000;omega,by show 2≤1000;omega,by show 2≤1000;omega,by show 1≤1000;omega⟩⟩
 have em:m.mg=hPm:=by rw[hm];rfl
 clear hm
 rw[dm]
 clear dm ff1 ff2 ff3 ff4
 have gm:=Bd okm.s
 have zm:=fun n=>Bm m n
 simp only[At.bnd] at zm
 refine Gb (s':=⟨[(36,.x (.g (mgA m))),(35,.x (.a (.p 0 0))),(1,.x (.a (.p 0 0))),(2,.x (.a (.v .nilIface))),(4,.x (.a (.v (erV 1)))),(5,.x (.a (.v B5.val))),(6,.x (.a (.p 7 0)))],[.pin g 149 (.c [.v (.int .i64 r.place),.v (.int .i64 r.gen),.v (.int .i64 r.parent),.v r.above.val,.v r.under.val,.o 2,.p 1 0,.p 3 0,.v (.int .i64 r.phase)]),.blk 170 (.c (tlA r.ty)),.mp .i64 (slE r.next),.pin gs 120 (.c [.v (.int .i64 r.sm.place),.v (.int .i64 r.sm.dim),.v r.sm.spots.val,.o 4,.o 5]),.mp .i64 (iE r.sm.heard),.mp .i64 (mgE r.sm.taken),.abs (fctRep G2),.blk 48 (.c (mgA m))]⟩) (Cn [0,1,2,3,4,5,6,11] (by simp (maxSteps:=10^6) only[rn,↓Ae,↓Aw,↓List.forall_mem_cons,↓Ag,↓A8,↓Ay,↓La,push_cast,↓reduceIte,reduceCtorEq,Nat.reduceEqDiff,Nat.reduceLT,Nat.reduceAdd])) ?_
 refine C9 (ι:=HbR×SlV SnR×List Fct) (A:=hbB g gs r) (M:=[.abs (fctRep G2),.blk 48 (.c (mgA m))]) (g:=g) (t:=149) (c:=.c (hbA r)) (l:=G2) 0 (HTellQ G2 (r.s.hear m.mg).1 (r.s.hear m.mg).2.1) (fun x=>.t [.a (.v x.2.1.val),.a (.v (erV (r.s.hear m.mg).2.2))]) (fun x=>hbB g gs x.1) (fun x=>x.2.2) rfl rfl rfl (fun x _=>⟨_,rfl⟩) (fun x _=>rfl) rfl Vb rfl (Xu m okm ok2 fun γ w hS=>D2 hS (k:=0) rfl) (fun x γ=>by first|rfl) (Aa rfl) (Ar g gs _) (fun x _=>Ar g gs _) (by simp (maxSteps:=10^6) only[↓Ae,↓List.forall_mem_cons,↓Ag,↓A8,push_cast,Nat.reduceLT,Nat.reduceAdd]) (by
  show ∀x∈_,Sv.av 6 _
  simp (maxSteps:=10^6) only[↓List.forall_mem_cons,↓Ck,push_cast,reduceCtorEq,Nat.reduceLeDiff]) (by
  show ∀x∈_,Res.av 6 _
  simp (maxSteps:=10^6) only[↓List.forall_mem_cons,↓Ck,push_cast]) ?_
 rintro⟨r1,L7,H1⟩ ⟨t1,t2,t3,t4,t5⟩
 dsimp only at t1 t2 t3 t4 t5
 have q0:r.s=hT0:=s1.trans A0z
 rw[q0,em] at t1 t2
 have q1:r1.s=hT1:=t1.trans A00
 rw[q0,em,A0p]
 obtain⟨G3,eG3⟩:∃G,G=G2++H1:=⟨_,rfl⟩
 rw[←eG3] at t3 ⊢
 have okm3:MOk G3 m:=by rw[eG3];exact okm.more fun f hf=>List.mem_append_left _ hf
 have b4:OutOk G3 B5:=by rw[eG3];exact b3.more fun f hf=>List.mem_append_left _ hf
 have l7:OutOk G3 L7:=by rw[eG3];exact t4.more fun f hf=>List.mem_append_right _ hf
 clear eG3
 have zl1:=fun n=>Eo r1.ty n
 simp only[At.bnd] at zl1
 unfold hbB hbA
 simp (maxSteps:=10^6) only[gm,push_cast,↓reduceIte,Nat.reduceEqDiff,Nat.reduceLT,Nat.reduceAdd]
 (repeat (refine And.intro (by first|omega|decide) ?_))
 refine Gb (s':=⟨[(42,.x (.g (mgA m))),(41,.x (.a (.p 0 0))),(8,.x (.a (.v (erV 0)))),(7,.x (.a (.v L7.val))),(1,.x (.a (.p 0 0))),(2,.x (.a (.v .nilIface))),(4,.x (.a (.v (erV 1)))),(5,.x (.a (.v B5.val)))],[.pin g 149 (.c [.v (.int .i64 r1.place),.v (.int .i64 r1.gen),.v (.int .i64 r1.parent),.v r1.above.val,.v r1.under.val,.o 2,.p 1 0,.p 3 0,.v (.int .i64 r1.phase)]),.blk 170 (.c (tlA r1.ty)),.mp .i64 (slE r1.next),.pin gs 120 (.c [.v (.int .i64 r1.sm.place),.v (.int .i64 r1.sm.dim),.v r1.sm.spots.val,.o 4,.o 5]),.mp .i64 (iE r1.sm.heard),.mp .i64 (mgE r1.sm.taken),.abs (fctRep G3)]⟩) (Cn [0,1,2,3,4,5,6] (by simp (maxSteps:=10^6) only[rn,↓Ae,↓Aw,↓List.forall_mem_cons,↓A8,↓La,push_cast,↓reduceIte,reduceCtorEq,Nat.reduceEqDiff,Nat.reduceLT,Nat.reduceAdd])) ?_
 refine C9 (ι:=HbR×SlV SnR×List Fct) (A:=hbB g gs r1) (M:=[.abs (fctRep G3)]) (g:=g) (t:=149) (c:=.c (hbA r1)) (l:=G3) 0 (HTellQ G3 (r1.s.hear m.mg).1 (r1.s.hear m.mg).2.1) (fun x=>.t [.a (.v x.2.1.val),.a (.v (erV (r1.s.hear m.mg).2.2))]) (fun x=>hbB g gs x.1) (fun x=>x.2.2) rfl rfl rfl (fun x _=>⟨_,rfl⟩) (fun x _=>rfl) rfl Vb rfl (Xu m okm3 t3 fun γ w hS=>D2 hS (k:=0) rfl) (fun x γ=>by first|rfl) (Aa rfl) (Ar g gs _) (fun x _=>Ar g gs _) (by simp (maxSteps:=10^6) only[↓Ae,↓List.forall_mem_cons,↓A8,push_cast,Nat.reduceLT,Nat.reduceAdd]) (by
  show ∀x∈_,Sv.av 6 _
  simp (maxSteps:=10^6) only[↓List.forall_mem_cons,↓Ck,push_cast,Nat.reduceLeDiff]) (by
  show ∀x∈_,Res.av 6 _
  simp (maxSteps:=10^6) only[↓List.forall_mem_cons,push_cast]) ?_
 rintro⟨r2,L9,H2⟩ ⟨u1,u2,u3,u4,u5⟩
 dsimp only at u1 u2 u3 u4 u5
 rw[q1,em] at u1
 have q2:r2.s=hT2:=u1.trans A01
 rw[q1,em,A0q]
 obtain⟨G4,eG4⟩:∃G,G=G3++H2:=⟨_,rfl⟩
 rw[←eG4] at u3 ⊢
 have b5:OutOk G4 B5:=by rw[eG4];exact b4.more fun f hf=>List.mem_append_left _ hf
 have l8:OutOk G4 L7:=by rw[eG4];exact l7.more fun f hf=>List.mem_append_left _ hf
 clear eG4
 have zl2:=fun n=>Eo r2.ty n
 simp only[At.bnd] at zl2
 unfold hbB hbA
 simp (maxSteps:=10^6) only[push_cast,↓reduceIte,Nat.reduceEqDiff,Nat.reduceLT,Nat.reduceAdd]
 (repeat (refine And.intro (by first|omega|decide) ?_))
 refine Gb (s':=⟨[(47,.x (.a (.p 0 0))),(10,.x (.a (.v (erV 9)))),(8,.x (.a (.v (erV 0)))),(7,.x (.a (.v L7.val))),(1,.x (.a (.p 0 0))),(2,.x (.a (.v .nilIface))),(4,.x (.a (.v (erV 1)))),(5,.x (.a (.v B5.val)))],[.pin g 149 (.c [.v (.int .i64 r2.place),.v (.int .i64 r2.gen),.v (.int .i64 r2.parent),.v r2.above.val,.v r2.under.val,.o 2,.p 1 0,.p 3 0,.v (.int .i64 r2.phase)]),.blk 170 (.c (tlA r2.ty)),.mp .i64 (slE r2.next),.pin gs 120 (.c [.v (.int .i64 r2.sm.place),.v (.int .i64 r2.sm.dim),.v r2.sm.spots.val,.o 4,.o 5]),.mp .i64 (iE r2.sm.heard),.mp .i64 (mgE r2.sm.taken),.abs (fctRep G4)]⟩) (Cn [0,1,2,3,4,5,6] (by simp (maxSteps:=10^6) only[rn,↓Ae,↓Aw,↓List.forall_mem_cons,push_cast,↓reduceIte,reduceCtorEq,Nat.reduceEqDiff,Nat.reduceLT,Nat.reduceAdd])) ?_
 refine C9 (ι:=HbR×SlV SnR×List Fct) (A:=hbB g gs r2) (M:=[.abs (fctRep G4)]) (g:=g) (t:=149) (c:=.c (hbA r2)) (l:=G4) 0 (Ll G4 (r2.s.goneE 5).1 (r2.s.goneE 5).2.1) (fun x=>.t [.a (.v x.2.1.val),.a (.v (erV (r2.s.goneE 5).2.2))]) (fun x=>hbB g gs x.1) (fun x=>x.2.2) rfl rfl rfl (fun x _=>⟨_,rfl⟩) (fun x _=>rfl) rfl Aas rfl (Afs 5 u3 fun γ w hS=>D2 hS (k:=0) rfl) (fun x γ=>by first|rfl) (Aa rfl) (Ar g gs _) (fun x _=>Ar g gs _) (by simp (maxSteps:=10^6) only[↓Ae,↓List.forall_mem_cons,push_cast,Nat.reduceLT,Nat.reduceAdd]) (by
  show ∀x∈_,Sv.av 6 _
  simp (maxSteps:=10^6) only[↓List.forall_mem_cons,push_cast,Nat.reduceLeDiff]) (by
  show ∀x∈_,Res.av 6 _
  simp (maxSteps:=10^6) only[↓List.forall_mem_cons,push_cast]) ?_
 rintro⟨r3,L11,H3⟩ ⟨v1,v2,v3,v4⟩
 dsimp only at v1 v2 v3 v4
 rw[q2] at v1
 have q3:r3.s=hT3:=v1.trans A02
 rw[q2,A0r]
 obtain⟨G5,eG5⟩:∃G,G=G4++H3:=⟨_,rfl⟩
 rw[←eG5] at v3 ⊢
 have b6:OutOk G5 B5:=by rw[eG5];exact b5.more fun f hf=>List.mem_append_left _ hf
 have l9:OutOk G5 L7:=by rw[eG5];exact l8.more fun f hf=>List.mem_append_left _ hf
 clear eG5
 have zl3:=fun n=>Eo r3.ty n
 simp only[At.bnd] at zl3
 unfold hbB hbA
 simp (maxSteps:=10^6) only[push_cast,↓reduceIte,Nat.reduceEqDiff,Nat.reduceLT,Nat.reduceAdd]
 (repeat (refine And.intro (by first|omega|decide) ?_))
 refine Ax4 (A:=hbB g gs r3) (M:=[.abs (fctRep G5)]) [1,5,7,8,10,12,51,52,53,54] rfl (by show 0 < 6;omega) (Ar g gs r3) (by simp (maxSteps:=10^6) only[↓Ae,↓List.forall_mem_cons,push_cast,Nat.reduceLT,Nat.reduceAdd]) (by
  show ∀x∈_,Sv.bnd 6 _
  simp (maxSteps:=10^6) only[push_cast,↓reduceIte,Nat.reduceEqDiff,Nat.reduceLT]) (fun q hq=>by rw[List.mem_singleton.1 hq];trivial) fun γ' w1 hS1=>?_
 have hS2:Sat w No γ' (hbB g gs r3++[.abs (fctRep G5)]) w1:=hS1
 have hkn:=D2 (A:=hbB g gs r3) hS2 (k:=0) rfl
 have hh:Handle w1:=Aa7 hgd hS2
 have hno:=Ax7 hgd hS2 (B:=fun b=>∃(k:Nat) (q:Res),(hbB g gs r3)[k]?=some q∧q.has γ' k b) fun b ⟨k,q,h1,h2⟩=>⟨k,q,by rw[List.getElem?_append_left (Ax h1)];exact h1,h2⟩
 obtain⟨ow1,how1⟩:∃ow1:Nat→Prop,ow1=fun b=>∃(k:Nat) (q:Res),(hbB g gs r3)[k]?=some q∧q.has γ' k b:=⟨_,rfl⟩
 have hno:¬ow1 0:=by rw[how1];exact hno
 rw[←how1] at hkn ⊢
 clear how1
 have fb:=hkn.fw b6.1 (fun e=>by rw[e];rfl)
 have f7:=hkn.fw l9.1 (fun e=>by rw[e];rfl)
 have Fb:=FLw.of (fun x hx=>Xb (b6.2.1 x hx).s) (by decide) fb.2
 have F7:=FLw.of (fun x hx=>Xb (l9.2.1 x hx).s) (by decide) f7.2
 obtain⟨nb,ib⟩:=Afu (l:=B5.l) (f:=fun y=>y.to) (b:=1) (by
  have:=congrArg (List.map SnS.to) b1
  rw[q0,A0n,List.map_map] at this
  exact this)
 obtain⟨n7,i7⟩:=Afu (l:=L7.l) (f:=fun y=>(y.to,y.m.k)) (b:=(1,7)) (by
  have:=congrArg (List.map fun s:SnS=>(s.to,s.m.k)) t2
  rw[A0o,List.map_map] at this
  exact this)
 have i7:(ix L7.l 0).m.k=7:=congrArg Prod.snd i7
 have vb:B5.val=.slice B5.A 1 B5.c:=by
  show Value.slice B5.A B5.l.length B5.c=_
  rw[nb]
 have v7:L7.val=.slice L7.A 1 L7.c:=by
  show Value.slice L7.A L7.l.length L7.c=_
  rw[n7]
 obtain⟨cb,ob⟩:=Fb.cell 0 1 _ (by rw[nb];decide) rfl
 obtain⟨c7,o7⟩:=F7.cell 0 2 _ (by rw[n7];decide) rfl
 have ib:(ix B5.l 0).to=1:=ib
 rw[ib] at cb
 rw[i7] at c7
 have ob:=eq_true ob
 have o7:=eq_true o7
 have sb:=Fb.some_ (by rw[nb];decide)
 have s7:=F7.some_ (by rw[n7];decide)
 rw[Nat.zero_mul,Nat.zero_add] at cb ob c7 o7
 have c7:A7 w1 (Af L7.A 2)=.int .u8 7:=c7
 unfold hbB hbA
 simp (maxSteps:=10^6) only[push_cast,↓reduceIte,Nat.reduceEqDiff,Nat.reduceAdd]
 refine Ro (by simp (maxSteps:=10^6) only[↓Ae,↓List.forall_mem_cons,push_cast,Nat.reduceLT,Nat.reduceAdd]) ?_
 refine Am rfl Vh rfl (Xt 1 hh hno) (Aa rfl) ?_
 simp (maxSteps:=10^6) only[Gc,vb,v7,cb,ob,sb,c7,o7,s7,Cq,Bp,push_cast,↓Int.cast_ofNat_Int,Int.cast_ofNat_Int,↓reduceIte,reduceCtorEq,Nat.reduceEqDiff,Nat.reduceLT,Nat.reduceAdd,Nat.reduceMul,Int.reduceLE,Int.reduceLT]
 (repeat (refine And.intro (by first|omega|decide) ?_))
 refine Am rfl Vh rfl (Xt 9 hh hno) (Aa rfl) ?_
 simp (maxSteps:=10^6) only[push_cast,↓reduceIte,Nat.reduceEqDiff,Nat.reduceLT,Nat.reduceAdd]
 (repeat (refine And.intro (by first|omega|decide) ?_))
 refine Am rfl Vh rfl (Xt 2 hh hno) (Aa rfl) ?_
 simp (maxSteps:=10^6) only[push_cast,↓reduceIte,Nat.reduceEqDiff,Nat.reduceLT,Nat.reduceAdd]
 (repeat (refine And.intro (by first|omega|decide) ?_))
 have hk3:∀(M:List Res) γ w,Sat w1 ow1 γ (hbB g gs r3++M) w→Known w (fun b=>∃(k:Nat) (q:Res),(hbB g gs r3)[k]?=some q∧q.has γ k b) G5:=fun M γ w hS=>D3 hS hkn
 have ph:r3.phase=1:=by
  have:r3.s.phase=1:=by rw[q3];exact A0s
  exact this
 refine C9 (ι:=Unit) (A:=hbB g gs r3) (M:=[.abs (fctRep [])]) (g:=g) (t:=149) (c:=.c (hbA r3)) (l:=[]) 0 (fun _=>True) (fun _=>.x (.a (.v (.int .i64 r3.phase)))) (fun _=>hbB g gs r3) (fun _=>[]) rfl rfl rfl (fun x _=>⟨_,rfl⟩) (fun x _=>rfl) rfl Aau rfl (Aft v3 (hk3 _)) (fun x γ=>by first|rfl) (Aa rfl) (Ar g gs _) (fun x _=>Ar g gs _) (by simp (maxSteps:=10^6) only[↓Ae,↓List.forall_mem_cons,push_cast,Nat.reduceLT,Nat.reduceAdd]) (by
  show ∀x∈_,Sv.av 6 _
  simp (maxSteps:=10^6) only[↓List.forall_mem_cons,push_cast,Nat.reduceLeDiff]) (by
  show ∀x∈_,Res.av 6 _
  simp (maxSteps:=10^6) only[↓List.forall_mem_cons,push_cast]) ?_
 rintro _ _
 have ph:=eq_true ph
 unfold hbB hbA
 simp (maxSteps:=10^6) only[ph,List.nil_append,push_cast,↓reduceIte,Nat.reduceEqDiff,Nat.reduceLT,Nat.reduceAdd]
 (repeat (refine And.intro (by first|omega|decide) ?_))
 refine Gp [102,103,104,105,106] ?_
 simp (maxSteps:=10^6) only[push_cast,↓reduceIte,Nat.reduceEqDiff]
 refine C9 (ι:=SlV Int×List Fct) (A:=hbB g gs r3) (M:=[.abs (fctRep [])]) (g:=g) (t:=149) (c:=.c (hbA r3)) (l:=[]) 0 (fun x=>x.1.l=r3.s.sums.from_∧SlF x.2 x.1 (Da x.1.l)) (fun x=>.x (.a (.v x.1.val))) (fun _=>hbB g gs r3) (fun x=>x.2) rfl rfl rfl (fun x _=>⟨_,rfl⟩) (fun x _=>rfl) rfl Va rfl (Xv v3 (hk3 _)) (fun x γ=>by first|rfl) (Aa rfl) (Ar g gs _) (fun x _=>Ar g gs _) (by simp (maxSteps:=10^6) only[↓Ae,↓List.forall_mem_cons,push_cast,Nat.reduceLT,Nat.reduceAdd]) (by
  show ∀x∈_,Sv.av 6 _
  simp (maxSteps:=10^6) only[↓List.forall_mem_cons,push_cast,Nat.reduceLeDiff]) (by
  show ∀x∈_,Res.av 6 _
  simp (maxSteps:=10^6) only[↓List.forall_mem_cons,push_cast]) ?_
 rintro⟨fr,J⟩ ⟨j1,j2⟩
 dsimp only at j1 j2
 have j1:fr.l=[1]:=by rw[j1,q3];exact A0u
 have j2:(⟨.slice fr.A 1 fr.c,1,Da [1]⟩:Fct)∈J:=by
  rcases j2 with e|e
  ·rw[e] at j1
   cases j1
  ·rw[j1] at e
   have e2:fr.val=.slice fr.A 1 fr.c:=by
    show Value.slice fr.A fr.l.length fr.c=_
    rw[j1]
    rfl
   rw[e2] at e
   exact e
 have vf:fr.val=.slice fr.A 1 fr.c:=by
  show Value.slice fr.A fr.l.length fr.c=_
  rw[j1]
  rfl
 unfold hbB hbA
 simp (maxSteps:=10^6) only[vf,List.nil_append,↓Ae,↓List.forall_mem_cons,push_cast,↓reduceIte,Nat.reduceEqDiff,Nat.reduceLT,Nat.reduceLeDiff,Nat.reduceAdd]
 (repeat (refine And.intro (by first|omega|decide) ?_))
 refine Am rfl Aat rfl (Afv (a:=[1]) (b:=[1]) (by decide) (fun γ w2 hS=>by
  obtain⟨a,b⟩:=Pa (s:=(⟨fr.A,fr.c,[1]⟩:SlV Int)) hS (k:=6) rfl j2
  exact⟨fr.A,fr.c,rfl,a,b⟩) (Vn (k:=7) rfl (fun _=>rfl) 1 1 rfl (by omega))) (Aa rfl) ?_
 simp (maxSteps:=10^6) only[push_cast,↓reduceIte,Nat.reduceEqDiff,Nat.reduceLT,Nat.reduceAdd]
 refine⟨hbB g gs r3,[.abs (fctRep J),.blk 3 (.i64 [1])],[0],?_,rfl,Ar g gs r3,?_,?_⟩
 ·unfold hbB hbA
  rfl
 ·show ∀x∈_,Sv.bnd 6 _
  simp (maxSteps:=10^6) only[push_cast,↓reduceIte]
 ·simp (maxSteps:=10^6) only[push_cast,↓reduceIte]
theorem Tt {w0:World} {hp:List Res} (hg:Handle w0):Ad prog w0 No 35 [] hp (.x (.a (.v (.bool true)))) hp:=Bc fun _ w hS=>A03 w (Aa7 hg hS)
end Go.Proofs.YtedaafmfjhjfmaaGreatDoor
