import Derived.Test.YtedaafmfjhjfmaaGreatDoorPt6
import Derived.Test.YtedaafmfjhjfmaaGreatDoorLn1
/- Layer 29 walked: New. -/
namespace Go.Proofs.YtedaafmfjhjfmaaGreatDoor
open Go.RowKit
set_option linter.unusedSimpArgs false
set_option linter.unusedVariables false
def Hx (c:CfS) (q:Nat):Spt:=if 0≤Ca c q then ⟨abF c.places q,(ix c.groups (Ca c q).toNat).ids,(ix c.groups (Ca c q).toNat).need⟩ else ⟨abF c.places q,[],0⟩
def Sms.new (c:CfS) (p:Int):Sms:=⟨p,c.dim,(List.range c.places.length).map (Hx c),[],[]⟩
def F7 (c:CfS) (p:Int):Bool:=cfF c&&decide (0≤p∧p < c.places.length)
attribute [local irreducible] Ad Ae Ah Ar Ak Am Ai Al
attribute [local irreducible] B1 okV Ay erV Cj cfF tcF isP ofP abF C3 B2 Ca
section
variable {c:CfR} {w:World}
set_option maxRecDepth 100000 in
theorem A42 (p:Int) (h:c.Ok w) (hn:F7 c.cf p=false):
  Calls Tryz.prog 21 #[.agg (cfV c).toArray,.int .i64 p] w fun e w'=>e=.returned (.tuple #[.pointer none,erV 1])∧Below w.heap.size w w':=by
 refine Ba (n:=89) Tryz.func21 rfl Tryz.ntmps21 [.x (.g [.v (.int .i64 c.dim),.v (.slice c.ps.A c.ps.l.length c.ps.c),.v (.slice c.gs.A c.gs.l.length c.gs.c),.v (.int .i64 c.least),.v (.int .i64 c.term)]),.x (.a (.v (.int .i64 p)))] (by simp) (.t [.a (.v (.pointer none)),.a (.v (erV 1))]) (fun _=>rfl) ?_
 have ev:=Ur (n:=1) (by decide)
 simp (maxSteps:=10^6) only[push_cast,↓reduceIte,Nat.reduceEqDiff,Nat.reduceLT,Nat.reduceAdd]
 (repeat (refine And.intro (by first|omega|decide) ?_))
 refine Aq rfl Tk rfl (Abo h) (Af rfl) ?_
 by_cases h1:cfF c.cf=true
 ·rw[h1,Hl]
  by_cases h2:p < 0
  ·simp (maxSteps:=10^6) only[h2,ev,undef,push_cast,↓reduceIte,reduceCtorEq,Nat.reduceEqDiff,Nat.reduceLT]
  have h3:(c.ps.l.length:Int)≤p:=by
   unfold F7 at hn
   rw[h1,Bool.true_and,decide_eq_false_iff_not] at hn
   have e:c.cf.places.length=c.ps.l.length:=rfl
   rw[e] at hn
   omega
  simp (maxSteps:=10^6) only[h2,h3,ev,undef,push_cast,↓reduceIte,reduceCtorEq,Nat.reduceEqDiff,Nat.reduceLT,Nat.reduceAdd]
 ·rw[show cfF c.cf=false by simpa using h1,Hm]
  simp (maxSteps:=10^6) only[ev,undef,push_cast,↓reduceIte,Nat.reduceEqDiff,Nat.reduceLT]
def Abp (c:CfS) (x:List SpR×List Fct):Prop:=x.1.map SpR.sp=(List.range c.places.length).map (Hx c)∧∀y∈x.1,SlF x.2 y.above (y.above.l.map (Value.int .i64))∧SlF x.2 y.clients (y.clients.l.map (Value.int .i64))∧y.above.l.length≤1000∧y.clients.l.length≤1000
set_option maxRecDepth 100000 in
set_option maxHeartbeats 8000000 in
theorem A43 (p:Int) (h:c.Ok w) (hn:F7 c.cf p=true) (hb1:c.ps.l.length≤900) (hb2:∀g∈c.gs.l,g.ids.l.length≤1000):
  Calls Tryz.prog 21 (List.map (Sv.val ([]++[.m (.bool true) (fun _=>False)])) [.x (.g [.v (.int .i64 c.dim),.v (.slice c.ps.A c.ps.l.length c.ps.c),.v (.slice c.gs.A c.gs.l.length c.gs.c),.v (.int .i64 c.least),.v (.int .i64 c.term)]),.x (.a (.v (.int .i64 p)))]).toArray w fun e w'=>∃(x:List SpR×List Fct) (γ1:List Nm),Abp c.cf x∧e=.returned ((Sv.t [.a (.p 0 0),.a (.v .nilIface)]).val γ1)∧Sat w No γ1 [.blk 120 (.c [.v (.int .i64 p),.v (.int .i64 c.dim),.o 4,.o 1,.o 2]),.mp .i64 [],.mp .i64 [],.abs (Aa x.2),.onn 122 3 (.c (vC (x.1.flatMap spV)))] w':=by
 have h1:cfF c.cf=true∧0≤p∧p < c.ps.l.length:=by
  unfold F7 at hn
  rw[Bool.and_eq_true,decide_eq_true_eq] at hn
  exact⟨hn.1,hn.2⟩
 obtain⟨h1,h2,h3⟩:=h1
 have h2:¬p < 0:=by omega
 have h3:¬(c.ps.l.length:Int)≤p:=by omega
 refine Uo (n:=89) (ι:=List SpR×List Fct) (Abp c.cf) (fun x=>.t [.a (.p 0 0),.a (.v .nilIface)]) (fun x=>[.blk 120 (.c [.v (.int .i64 p),.v (.int .i64 c.dim),.o 4,.o 1,.o 2]),.mp .i64 [],.mp .i64 [],.abs (Aa x.2),.onn 122 3 (.c (vC (x.1.flatMap spV)))]) Tryz.func21 rfl Tryz.ntmps21 _ ((Sat.init w No).fct0 (fun r hr=>by cases hr)) (by simp) ?_
 simp (maxSteps:=10^6) only[push_cast,↓reduceIte,Nat.reduceEqDiff,Nat.reduceLT,Nat.reduceAdd]
 (repeat (refine And.intro (by first|omega|decide) ?_))
 refine Aq rfl Tk rfl (Abo h) (Af rfl) ?_
 rw[h1,Hl]
 simp (maxSteps:=10^6) only[h2,h3,undef,push_cast,↓reduceIte,reduceCtorEq,Nat.reduceEqDiff,Nat.reduceLT,Nat.reduceAdd]
 refine Qg 4 2 120 122 3 [.v (.int .i64 p),.v (.int .i64 c.dim),.v (.slice none 0 0),.o 2,.o 3] (.c []) (by omega) (by simp (maxSteps:=10^6) only[push_cast]) rfl rfl (by simp (maxSteps:=10^6) only[push_cast,Nat.reduceLT,Nat.reduceAdd]) ?_
 simp (maxSteps:=10^6) only[push_cast,Nat.reduceAdd]
 refine Bh (ι:=Nat×List SpR×List Fct) (fun x=>⟨[(2,.x (.a (.p 1 0))),(6,.x (.a (.p 4 0))),(36,.x (.a (.v (.int .i64 c.ps.l.length)))),(37,.x (.a (.v (.int .i64 (x.1:Nat)))))],[.abs (Aa x.2.2),.blk 38 (.c [.v (.int .i64 c.dim),.v (.slice c.ps.A c.ps.l.length c.ps.c),.v (.slice c.gs.A c.gs.l.length c.gs.c),.v (.int .i64 c.least),.v (.int .i64 c.term)]),.mp .i64 [],.mp .i64 [],.blk 120 (.c [.v (.int .i64 p),.v (.int .i64 c.dim),.o 5,.o 2,.o 3]),.onn 122 3 (.c (vC (x.2.1.flatMap spV)))]⟩)
  (fun x=>x.1≤c.ps.l.length∧x.2.1.map SpR.sp=(List.range x.1).map (Hx c.cf)∧∀y∈x.2.1,SlF x.2.2 y.above (y.above.l.map (Value.int .i64))∧SlF x.2.2 y.clients (y.clients.l.map (Value.int .i64))∧y.above.l.length≤1000∧y.clients.l.length≤1000) (fun x=>c.ps.l.length - x.1) (0,[],[]) [0,1,2,3,4,5] ⟨Nat.zero_le _,rfl,fun y hy=>by cases hy⟩ ?_ ?_
 ·simp (maxSteps:=10^6) only[Aae,List.flatMap_nil,push_cast,↓Int.cast_ofNat_Int,Int.cast_ofNat_Int,↓reduceIte,reduceCtorEq,Nat.reduceEqDiff,Nat.reduceLT,Nat.reduceAdd]
 rintro⟨i,L,Gs⟩ ⟨i1,i2,i3⟩
 dsimp only at i1 i2 i3
 have hLl:L.length=i:=by
  have:=congrArg List.length i2
  simpa using this
 by_cases hlt:(i:Int) < c.ps.l.length
 ·have i0:(0:Int)≤i:=by omega
  have hp:isP c.cf i=true:=(Qf h1 i0 hlt).2
  have ht:tcF c.cf i=.nilIface:=(Qf h1 i0 hlt).1
  have ho:∀l,ofP c.cf i l=l:=fun l=>by unfold ofP;rw[if_pos hp]
  obtain⟨ab,hab⟩:∃ab,ab=abF c.ps.l i:=⟨_,rfl⟩
  have abl:ab.length≤1000:=by
   rw[hab]
   have:=Abf c.ps.l (i+1) (ix c.ps.l i).parent []
   unfold abF
   simp only[List.length_nil] at this
   omega
  simp (maxSteps:=10^6) only[hlt,push_cast,↓reduceIte,Nat.reduceEqDiff,Nat.reduceLT,Nat.reduceAdd]
  (repeat (refine And.intro (by first|omega|decide) ?_))
  refine J4 (ι:=Option Addr×Nat) (fun x=>ab.length≤x.2∧x.2≤maxLen) (fun x=>.t [.a (.v (.slice x.1 ab.length x.2)),.a (.v .nilIface)]) (fun x=>[⟨.slice x.1 ab.length x.2,ab.length,ab.map (Value.int .i64)⟩]) 0 rfl rfl Avw rfl (fun γ' w' hS'=>by
   have:=A41 (ow:=No) h (i:Int) hS'
   rw[ho,ht,Int.toNat_natCast,←hab] at this
   exact this) (fun _ _=>rfl) (Af rfl) (by simp (maxSteps:=10^6) only[Bd,push_cast,Nat.reduceLT,Nat.reduceAdd]) ?_
  rintro⟨A1,cap1⟩ ⟨b1,_⟩
  dsimp only at b1
  have gt:∀hp,Ae Tryz.prog w No 50 [.x (.g [.v (.int .i64 c.dim),.v (.slice c.ps.A c.ps.l.length c.ps.c),.v (.slice c.gs.A c.gs.l.length c.gs.c),.v (.int .i64 c.least),.v (.int .i64 c.term)]),.x (.a (.v (.int .i64 (i:Int))))] hp (.t [.a (.v (.int .i64 (Ca c.cf i))),.a (.v .nilIface)]) hp:=fun hp=>by
   have:=A40 h (i:Int) (hp:=hp)
   rw[ht] at this
   exact this
  simp (maxSteps:=10^6) only[push_cast,↓reduceIte,Nat.reduceEqDiff,Nat.reduceLT,Nat.reduceAdd]
  (repeat (refine And.intro (by first|omega|decide) ?_))
  refine Aq rfl Avv rfl (gt _) (Af rfl) ?_
  apply Uu (P:=Tryz.prog) (w0:=w) (ow:=No) (n:=89) (X:=SpR×List Fct) (fun x=>x.1.sp=Hx c.cf i∧SlF x.2 x.1.above (x.1.above.l.map (Value.int .i64))∧SlF x.2 x.1.clients (x.1.clients.l.map (Value.int .i64))∧(x.1.above.l.length≤1000∧x.1.clients.l.length≤1000)∧∀f∈Gs,f∈x.2) (fun x=>⟨[(2,.x (.a (.p 1 0))),(6,.x (.a (.p 4 0))),(11,.x (.a (.p 6 0))),(36,.x (.a (.v (.int .i64 c.ps.l.length)))),(37,.x (.a (.v (.int .i64 i))))],[.abs (Aa x.2),.blk 38 (.c [.v (.int .i64 c.dim),.v (.slice c.ps.A c.ps.l.length c.ps.c),.v (.slice c.gs.A c.gs.l.length c.gs.c),.v (.int .i64 c.least),.v (.int .i64 c.term)]),.mp .i64 [],.mp .i64 [],.blk 120 (.c [.v (.int .i64 p),.v (.int .i64 c.dim),.o 5,.o 2,.o 3]),.onn 122 3 (.c (vC (L.flatMap spV))),.blk 122 (.c [.v x.1.above.val,.v x.1.clients.val,.v (.int .i64 x.1.need)])]⟩)
  ·intro J
   by_cases hg:0≤Ca c.cf i
   ·have hgl:Ca c.cf i < c.gs.l.length:=by
     unfold Ca
     rw[if_pos hp]
     have:=Z5 (i:Int) c.cf.groups 0
     have e:c.cf.groups.length=c.gs.l.length:=by
      show (c.gs.l.map GrR.gr).length=_
      rw[List.length_map]
     omega
    obtain⟨k,hk⟩:=Int.eq_ofNat_of_zero_le hg
    have kl:k < c.gs.l.length:=by omega
    have k0:(0:Int)≤k:=by omega
    have kl':(k:Int) < c.gs.l.length:=by omega
    have G:=FLm.of Iu (by decide) h.grd
    obtain⟨d1,o1⟩:=G.cell k 1 _ kl rfl
    obtain⟨d2,o2⟩:=G.cell k 2 _ kl rfl
    have hA:=G.some_ (by omega)
    have gi:=h.ids _ (Dr kl)
    have gb:=hb2 _ (Dr kl)
    have esp:Hx c.cf i=⟨ab,(ix c.gs.l k).ids.l,(ix c.gs.l k).need⟩:=by
     unfold Hx
     rw[if_pos hg,hk,Int.toNat_natCast,hab]
     have e:ix c.cf.groups k=(ix c.gs.l k).gr:=by
      show ix (c.gs.l.map GrR.gr) k=_
      simp only[ix,List.getD_eq_getElem?_getD,List.getElem?_map,List.getElem?_eq_getElem kl]
      rfl
     rw[e]
     rfl
    generalize ix c.gs.l k=gr at*
    have d1:Az w (Ag c.gs.A (k*3+1))=.slice gr.ids.A gr.ids.l.length gr.ids.c:=d1
    rw[hk]
    simp (maxSteps:=10^6) only[k0,kl',hA,d1,o1,B4,Bl,undef,push_cast,↓Int.toNat_natCast,↓reduceIte,reduceCtorEq,Nat.reduceEqDiff,Nat.reduceLT,Nat.reduceAdd]
    (repeat (refine And.intro (by first|omega|decide) ?_))
    refine J5 0 (vs:=gr.ids.l.map (Value.int .i64)) rfl rfl X9 rfl (Aak (l:=gr.ids.l) gb (Ci gi.rd _ _ (by simp) gi.len)) (Af rfl) (by simp (maxSteps:=10^6) only[Bd,push_cast,Nat.reduceLT,Nat.reduceAdd]) ?_
    intro A2 cap2 b2 _
    rw[List.length_map] at b2
    simp (maxSteps:=10^6) only[k0,kl',hA,d2,o2,B4,Bl,List.length_map,undef,push_cast,↓Int.toNat_natCast,↓reduceIte,reduceCtorEq,Nat.reduceEqDiff,Nat.reduceLT,Nat.reduceAdd]
    refine Ii [2,6,11,36,37] ?_
    simp (maxSteps:=10^6) only[push_cast,↓reduceIte,Nat.reduceEqDiff]
    have J:=J (⟨⟨A1,cap1,ab⟩,⟨A2,cap2,gr.ids.l⟩,gr.need⟩,Gs++[⟨.slice A1 ab.length cap1,ab.length,ab.map (Value.int .i64)⟩]++[⟨.slice A2 gr.ids.l.length cap2,gr.ids.l.length,gr.ids.l.map (Value.int .i64)⟩]) ⟨esp.symm,.inr (List.mem_append_left _ (List.mem_append_right _ (List.mem_singleton.2 rfl))),.inr (List.mem_append_right _ (List.mem_singleton.2 rfl)),⟨abl,gb⟩,fun f hf=>List.mem_append_left _ (List.mem_append_left _ hf)⟩
    exact J
   ·have hg':¬(0:Int)≤Ca c.cf i:=hg
    simp (maxSteps:=10^6) only[hg',undef,push_cast,↓reduceIte,reduceCtorEq,Nat.reduceEqDiff,Nat.reduceLT,Nat.reduceAdd]
    refine Ii [2,6,11,36,37] ?_
    simp (maxSteps:=10^6) only[push_cast,↓reduceIte,Nat.reduceEqDiff]
    have J:=J (⟨⟨A1,cap1,ab⟩,⟨none,0,[]⟩,0⟩,Gs++[⟨.slice A1 ab.length cap1,ab.length,ab.map (Value.int .i64)⟩]) ⟨by unfold Hx;rw[if_neg hg,hab];rfl,.inr (List.mem_append_right _ (List.mem_singleton.2 rfl)),.inl rfl,⟨abl,Nat.zero_le _⟩,fun f hf=>List.mem_append_left _ hf⟩
    exact J
  rintro⟨sp,Hs⟩ ⟨j1,j2,j3,j4,j5⟩
  dsimp only at j1 j2 j3 j4 j5 ⊢
  have fl:=Cd Qm L
  have va:sp.above.val=.slice sp.above.A sp.above.l.length sp.above.c:=rfl
  have vcl:sp.clients.val=.slice sp.clients.A sp.clients.l.length sp.clients.c:=rfl
  have ev:vC ((L++[sp]).flatMap spV)=vC (L.flatMap spV)++[.v sp.above.val,.v sp.clients.val,.v (.int .i64 sp.need)]:=by
   rw[List.flatMap_append,Lb]
   rfl
  rw[va,vcl] at ev ⊢
  refine Mw 7 [5] 10 (.rd 0 (.rd 1 (.rd 2 (.rd 3 (.rd 4 (.rd 5 (.wr 6 (.wr 7 (.rd 8 (.rd 9 .nil)))))))))) ⟨[(2,.x (.a (.p 1 0))),(6,.x (.a (.p 4 0))),(36,.x (.a (.v (.int .i64 c.ps.l.length)))),(37,.x (.a (.v (.int .i64 i)))),(84,.x (.a (.o 7))),(86,.x (.a (.p 4 2)))],[.abs (Aa Hs),.blk 38 (.c [.v (.int .i64 c.dim),.v (.slice c.ps.A c.ps.l.length c.ps.c),.v (.slice c.gs.A c.gs.l.length c.gs.c),.v (.int .i64 c.least),.v (.int .i64 c.term)]),.mp .i64 [],.mp .i64 [],.blk 120 (.c [.v (.int .i64 p),.v (.int .i64 c.dim),.o 5,.o 2,.o 3]),.gone,.blk 122 (.c [.v (.slice sp.above.A sp.above.l.length sp.above.c),.v (.slice sp.clients.A sp.clients.l.length sp.clients.c),.v (.int .i64 sp.need)]),.onn 122 3 (.c (vC ((L++[sp]).flatMap spV)))]⟩ (by kernel_rfl) (by kernel_rfl) (Nat.le_refl 7) ?_ ?_
  ·simp (maxSteps:=10^6) only[Bd,undef,push_cast,↓reduceIte,reduceCtorEq,Nat.reduceEqDiff,Nat.reduceLT,Nat.reduceLeDiff,Nat.reduceAdd,Nat.reduceSub,Nat.reduceMul]
   refine⟨⟨by rw[fl];omega,by rw[fl];omega⟩,?_⟩
   refine Fc [0,1,2,3,4,5,6,8] ?_
   simp (maxSteps:=10^6) only[ev,Bd,push_cast,↓reduceIte,reduceCtorEq,Nat.reduceEqDiff,Nat.reduceLT,Nat.reduceAdd]
  ·simp (maxSteps:=10^6) only[undef,push_cast,↓reduceIte,Nat.reduceEqDiff,Nat.reduceLT,Nat.reduceAdd,Int.reduceNeg]
   refine⟨⟨by omega,by omega⟩,?_⟩
   refine Be (i+1,L++[sp],Hs) [0,1,2,3,4,7] ⟨by show i+1≤_;omega,?_,fun y hy=>?_⟩ (by show c.ps.l.length - (i+1) < c.ps.l.length - i;omega) ?_
   ·show (L++[sp]).map SpR.sp=(List.range (i+1)).map (Hx c.cf)
    rw[List.map_append,i2,List.range_succ,List.map_append,List.map_cons,List.map_nil,j1]
    rfl
   ·rcases List.mem_append.1 hy with hy|hy
    ·obtain⟨y1,y2,y3,y4⟩:=i3 y hy
     exact⟨y1.more j5,y2.more j5,y3,y4⟩
    ·rw[List.mem_singleton.1 hy]
     exact⟨j2,j3,j4.1,j4.2⟩
   ·simp (maxSteps:=10^6) only[Bd,push_cast,↓reduceIte,reduceCtorEq,Nat.reduceEqDiff,Nat.reduceLT,Nat.reduceAdd]
 ·obtain rfl:i=c.ps.l.length:=by omega
  simp (maxSteps:=10^6) only[hlt,push_cast,↓reduceIte,Nat.reduceEqDiff,Nat.reduceLT,Nat.reduceAdd]
  refine⟨(L,Gs),⟨i2,i3⟩,Fp [4,2,3,0,5] ?_⟩
  simp (maxSteps:=10^6) only[Bd,push_cast,↓reduceIte,reduceCtorEq,Nat.reduceEqDiff,Nat.reduceLT,Nat.reduceAdd]
theorem A44 (p:Int) (h:c.Ok w) (hn:F7 c.cf p=true) (hb1:c.ps.l.length≤900) (hb2:∀g∈c.gs.l,g.ids.l.length≤1000):
  Calls Tryz.prog 21 #[.agg (cfV c).toArray,.int .i64 p] w fun e w'=>∃(x:Nat×SmR×List Fct) (γ1:List Nm),(x.2.1.s=Sms.new c.cf p∧x.2.1.heard=[]∧x.2.1.taken=[]∧SmOk x.2.2 x.2.1)∧e=.returned (.tuple #[.pointer (some ⟨x.1,0,none⟩),.nilIface])∧Sat w No γ1 (smB x.1 x.2.1++[.abs (Aa x.2.2)]) w':=by
 refine (A43 p h hn hb1 hb2).mono fun e w' ⟨⟨L,Gs⟩,γ1,⟨h1,h2⟩,he,hS⟩=>?_
 dsimp only at h1 h2 he hS
 obtain⟨A,cap,γ2,e1,e2,eB,eS,h4⟩:=hS.onnFs (j:=4) (k:=3) (c:=.c (vC (L.flatMap spV))) (vs:=L.flatMap spV) (n:=L.length) rfl rfl (by decide) (Lc γ1 _) (Cd Qm L)
 have h5:Sat w No γ2 ([.blk 120 (.c (smA ⟨p,c.dim,⟨A,cap,L⟩,[],[]⟩)),.mp .i64 [],.mp .i64 [],.abs (Aa (Gs++[⟨.slice A L.length cap,L.length,L.flatMap spV⟩]))]++[.gone]) w':=h4
 have h6:=h5.frontOf (fun r hr=>by
  simp only[List.mem_cons,List.not_mem_nil,or_false] at hr
  rcases hr with rfl|rfl|rfl|rfl
  ·unfold smA
   simp (maxSteps:=10^6) only[push_cast,Nat.reduceLT,Nat.reduceAdd]
  ·exact fun p hp=>by cases hp
  ·exact fun p hp=>by cases hp
  ·trivial)
 have h7:=h6.toPin (k:=0) rfl
 have hll:L.length≤1000:=by
  have:=congrArg List.length h1
  rw[List.length_map,List.length_map,List.length_range] at this
  have e:c.cf.places.length=c.ps.l.length:=rfl
  omega
 refine⟨(_,⟨p,c.dim,⟨A,cap,L⟩,[],[]⟩,Gs++[⟨.slice A L.length cap,L.length,L.flatMap spV⟩]),_,⟨?_,rfl,rfl,?_⟩,?_,h7⟩
 ·show Sms.mk p c.dim (L.map SpR.sp) [] []=_
  rw[h1]
  rfl
 ·refine⟨.inr (List.mem_append_right _ (List.mem_singleton.2 rfl)),fun x hx=>(h2 x hx).1.left,fun x hx=>(h2 x hx).2.1.left,fun q hq=>(by cases hq),hll,fun x hx=>(h2 x hx).2.2⟩
 ·rw[he]
  show Ending.returned (.tuple #[.pointer (some ⟨nmB γ1 0,0,none⟩),.nilIface])=_
  have:nmB (γ2.take 4) 0=nmB γ1 0:=by
   rw[←eB]
   unfold nmB
   rw[List.getElem?_take_of_lt (by decide)]
  first
   |rw[←this];rfl
   |rfl
end
end Go.Proofs.YtedaafmfjhjfmaaGreatDoor
