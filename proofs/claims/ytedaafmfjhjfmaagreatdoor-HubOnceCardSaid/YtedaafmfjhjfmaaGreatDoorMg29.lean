import Derived.Test.YtedaafmfjhjfmaaGreatDoorPt6
import Derived.Test.YtedaafmfjhjfmaaGreatDoorLn1
import Derived.Test.YtedaafmfjhjfmaaGreatDoorLq1
import Derived.Test.YtedaafmfjhjfmaaGreatDoorLw3
import Derived.Test.YtedaafmfjhjfmaaGreatDoorLfG
import Derived.Test.YtedaafmfjhjfmaaGreatDoorPreA
/- Layer 29 walked: New. -/
namespace Go.Proofs.YtedaafmfjhjfmaaGreatDoor
open _root_.Go.Proofs.Tryz
open Go.RowKit
set_option linter.unusedSimpArgs false
set_option linter.unusedVariables false
section
def Ge (c:CfS) (q:Nat):Spt:=if 0≤B2 c q then ⟨abF c.places q,(ix c.groups (B2 c q).toNat).ids,(ix c.groups (B2 c q).toNat).need⟩ else ⟨abF c.places q,[],0⟩
def Sms.new (c:CfS) (p:Int):Sms:=⟨p,c.dim,(List.range c.places.length).map (Ge c),[],[]⟩
def Mz (c:CfS) (p:Int):Bool:=cfF c&&decide (0≤p∧p < c.places.length)
attribute [local irreducible] Ac Ad Ah Au Ao Aj Ai Al
attribute [local irreducible] A9 okV Ak erV Bq cfF tcF isP ofP abF idxN Cg B2
section
variable {c:CfR} {w:World}
def Aet (c:CfS) (x:List SpR×List Fct):Prop:=x.1.map SpR.sp=(List.range c.places.length).map (Ge c)∧∀y∈x.1,SlF x.2 y.above (y.above.l.map (Value.int .i64))∧SlF x.2 y.clients (y.clients.l.map (Value.int .i64))∧y.above.l.length≤1000∧y.clients.l.length≤1000
set_option maxRecDepth 100000 in
set_option maxHeartbeats 8000000 in
theorem Axw (p:Int) (h:c.Ok w) (hn:Mz c.cf p=true) (hb1:c.ps.l.length≤900) (hb2:∀g∈c.gs.l,g.ids.l.length≤1000):
  Calls prog 21 (List.map (Sv.val ([]++[.m (.bool true) (fun _=>False)])) [.x (.g [.v (.int .i64 c.dim),.v (.slice c.ps.A c.ps.l.length c.ps.c),.v (.slice c.gs.A c.gs.l.length c.gs.c),.v (.int .i64 c.least),.v (.int .i64 c.term)]),.x (.a (.v (.int .i64 p)))]).toArray w fun e w'=>∃(x:List SpR×List Fct) (γ1:List Nm),Aet c.cf x∧e=.returned ((Sv.t [.a (.p 0 0),.a (.v .nilIface)]).val γ1)∧Sat w No γ1 [.blk 120 (.c [.v (.int .i64 p),.v (.int .i64 c.dim),.o 4,.o 1,.o 2]),.mp .i64 [],.mp .i64 [],.abs (fctRep x.2),.onn 122 3 (.c (vC (x.1.flatMap spV)))] w':=by
 have h1:cfF c.cf=true∧0≤p∧p < c.ps.l.length:=by
  unfold Mz at hn
  rw[Bool.and_eq_true,decide_eq_true_eq] at hn
  exact⟨hn.1,hn.2⟩
 obtain⟨h1,h2,h3⟩:=h1
 have h2:¬p < 0:=by omega
 have h3:¬(c.ps.l.length:Int)≤p:=by omega
 refine Cy (n:=89) (ι:=List SpR×List Fct) (Aet c.cf) (fun x=>.t [.a (.p 0 0),.a (.v .nilIface)]) (fun x=>[.blk 120 (.c [.v (.int .i64 p),.v (.int .i64 c.dim),.o 4,.o 1,.o 2]),.mp .i64 [],.mp .i64 [],.abs (fctRep x.2),.onn 122 3 (.c (vC (x.1.flatMap spV)))]) func21 rfl ntmps21 _ ((Sat.init w No).fct0 (fun r hr=>by cases hr)) (by simp) ?_
 simp (maxSteps:=10^6) only[push_cast,↓reduceIte,Nat.reduceEqDiff,Nat.reduceLT,Nat.reduceAdd]
 (repeat (refine And.intro (by first|omega|decide) ?_))
 refine Am rfl Rh rfl (W7 h) (Aa rfl) ?_
 rw[h1,Gt]
 simp (maxSteps:=10^6) only[h2,h3,undef,push_cast,↓reduceIte,reduceCtorEq,Nat.reduceEqDiff,Nat.reduceLT,Nat.reduceAdd]
 refine Sg 4 2 120 122 3 [.v (.int .i64 p),.v (.int .i64 c.dim),.v (.slice none 0 0),.o 2,.o 3] (.c []) (by omega) (by simp (maxSteps:=10^6) only[push_cast]) rfl rfl (by simp (maxSteps:=10^6) only[push_cast,Nat.reduceLT,Nat.reduceAdd]) ?_
 simp (maxSteps:=10^6) only[push_cast,Nat.reduceAdd]
 refine Bj (ι:=Nat×List SpR×List Fct) (fun x=>⟨[(2,.x (.a (.p 1 0))),(6,.x (.a (.p 4 0))),(36,.x (.a (.v (.int .i64 c.ps.l.length)))),(37,.x (.a (.v (.int .i64 (x.1:Nat)))))],[.abs (fctRep x.2.2),.blk 38 (.c [.v (.int .i64 c.dim),.v (.slice c.ps.A c.ps.l.length c.ps.c),.v (.slice c.gs.A c.gs.l.length c.gs.c),.v (.int .i64 c.least),.v (.int .i64 c.term)]),.mp .i64 [],.mp .i64 [],.blk 120 (.c [.v (.int .i64 p),.v (.int .i64 c.dim),.o 5,.o 2,.o 3]),.onn 122 3 (.c (vC (x.2.1.flatMap spV)))]⟩)
  (fun x=>x.1≤c.ps.l.length∧x.2.1.map SpR.sp=(List.range x.1).map (Ge c.cf)∧∀y∈x.2.1,SlF x.2.2 y.above (y.above.l.map (Value.int .i64))∧SlF x.2.2 y.clients (y.clients.l.map (Value.int .i64))∧y.above.l.length≤1000∧y.clients.l.length≤1000) (fun x=>c.ps.l.length - x.1) (0,[],[]) [0,1,2,3,4,5] ⟨Nat.zero_le _,rfl,fun y hy=>by cases hy⟩ ?_ ?_
 ·simp (maxSteps:=10^6) only[Ac3,List.flatMap_nil,push_cast,↓Int.cast_ofNat_Int,Int.cast_ofNat_Int,↓reduceIte,reduceCtorEq,Nat.reduceEqDiff,Nat.reduceLT,Nat.reduceAdd]
 rintro⟨i,L,Gs⟩ ⟨i1,i2,i3⟩
 dsimp only at i1 i2 i3
 have hLl:L.length=i:=by
  have:=congrArg List.length i2
  simpa using this
 by_cases hlt:(i:Int) < c.ps.l.length
 ·have i0:(0:Int)≤i:=by omega
  have hp:isP c.cf i=true:=(Hd h1 i0 hlt).2
  have ht:tcF c.cf i=.nilIface:=(Hd h1 i0 hlt).1
  have ho:∀l,ofP c.cf i l=l:=fun l=>by unfold ofP;rw[if_pos hp]
  obtain⟨ab,hab⟩:∃ab,ab=abF c.ps.l i:=⟨_,rfl⟩
  have abl:ab.length≤1000:=by
   rw[hab]
   have:=Aej c.ps.l (i+1) (ix c.ps.l i).parent []
   unfold abF
   simp only[List.length_nil] at this
   omega
  simp (maxSteps:=10^6) only[hlt,push_cast,↓reduceIte,Nat.reduceEqDiff,Nat.reduceLT,Nat.reduceAdd]
  (repeat (refine And.intro (by first|omega|decide) ?_))
  refine Jz (ι:=Option Addr×Nat) (fun x=>ab.length≤x.2∧x.2≤maxLen) (fun x=>.t [.a (.v (.slice x.1 ab.length x.2)),.a (.v .nilIface)]) (fun x=>[⟨.slice x.1 ab.length x.2,ab.length,ab.map (Value.int .i64)⟩]) 0 rfl rfl Vd rfl (fun γ' w' hS'=>by
   have:=Aes (ow:=No) h (i:Int) hS'
   rw[ho,ht,Int.toNat_natCast,←hab] at this
   exact this) (fun _ _=>rfl) (Aa rfl) (by simp (maxSteps:=10^6) only[C6,push_cast,Nat.reduceLT,Nat.reduceAdd]) ?_
  rintro⟨A1,cap1⟩ ⟨b1,_⟩
  dsimp only at b1
  have gt:∀hp,Ad prog w No 50 [.x (.g [.v (.int .i64 c.dim),.v (.slice c.ps.A c.ps.l.length c.ps.c),.v (.slice c.gs.A c.gs.l.length c.gs.c),.v (.int .i64 c.least),.v (.int .i64 c.term)]),.x (.a (.v (.int .i64 (i:Int))))] hp (.t [.a (.v (.int .i64 (B2 c.cf i))),.a (.v .nilIface)]) hp:=fun hp=>by
   have:=W8 h (i:Int) (hp:=hp)
   rw[ht] at this
   exact this
  simp (maxSteps:=10^6) only[push_cast,↓reduceIte,Nat.reduceEqDiff,Nat.reduceLT,Nat.reduceAdd]
  (repeat (refine And.intro (by first|omega|decide) ?_))
  refine Am rfl Vc rfl (gt _) (Aa rfl) ?_
  apply S6 (P:=prog) (w0:=w) (ow:=No) (n:=89) (X:=SpR×List Fct) (fun x=>x.1.sp=Ge c.cf i∧SlF x.2 x.1.above (x.1.above.l.map (Value.int .i64))∧SlF x.2 x.1.clients (x.1.clients.l.map (Value.int .i64))∧(x.1.above.l.length≤1000∧x.1.clients.l.length≤1000)∧∀f∈Gs,f∈x.2) (fun x=>⟨[(2,.x (.a (.p 1 0))),(6,.x (.a (.p 4 0))),(11,.x (.a (.p 6 0))),(36,.x (.a (.v (.int .i64 c.ps.l.length)))),(37,.x (.a (.v (.int .i64 i))))],[.abs (fctRep x.2),.blk 38 (.c [.v (.int .i64 c.dim),.v (.slice c.ps.A c.ps.l.length c.ps.c),.v (.slice c.gs.A c.gs.l.length c.gs.c),.v (.int .i64 c.least),.v (.int .i64 c.term)]),.mp .i64 [],.mp .i64 [],.blk 120 (.c [.v (.int .i64 p),.v (.int .i64 c.dim),.o 5,.o 2,.o 3]),.onn 122 3 (.c (vC (L.flatMap spV))),.blk 122 (.c [.v x.1.above.val,.v x.1.clients.val,.v (.int .i64 x.1.need)])]⟩)
  ·intro J
   by_cases hg:0≤B2 c.cf i
   ·have hgl:B2 c.cf i < c.gs.l.length:=by
     unfold B2
     rw[if_pos hp]
     have:=Acp (i:Int) c.cf.groups 0
     have e:c.cf.groups.length=c.gs.l.length:=by
      show (c.gs.l.map GrR.gr).length=_
      rw[List.length_map]
     omega
    obtain⟨k,hk⟩:=Int.eq_ofNat_of_zero_le hg
    have kl:k < c.gs.l.length:=by omega
    have k0:(0:Int)≤k:=by omega
    have kl':(k:Int) < c.gs.l.length:=by omega
    have G:=FLm.of Jw (by decide) h.grd
    obtain⟨d1,o1⟩:=G.cell k 1 _ kl rfl
    obtain⟨d2,o2⟩:=G.cell k 2 _ kl rfl
    have hA:=G.some_ (by omega)
    have gi:=h.ids _ (Ez kl)
    have gb:=hb2 _ (Ez kl)
    have esp:Ge c.cf i=⟨ab,(ix c.gs.l k).ids.l,(ix c.gs.l k).need⟩:=by
     unfold Ge
     rw[if_pos hg,hk,Int.toNat_natCast,hab]
     have e:ix c.cf.groups k=(ix c.gs.l k).gr:=by
      show ix (c.gs.l.map GrR.gr) k=_
      simp only[ix,List.getD_eq_getElem?_getD,List.getElem?_map,List.getElem?_eq_getElem kl]
      rfl
     rw[e]
     rfl
    generalize ix c.gs.l k=gr at*
    have d1:A7 w (Af c.gs.A (k*3+1))=.slice gr.ids.A gr.ids.l.length gr.ids.c:=d1
    rw[hk]
    simp (maxSteps:=10^6) only[k0,kl',hA,d1,o1,Ce,Bp,undef,push_cast,↓Int.toNat_natCast,↓reduceIte,reduceCtorEq,Nat.reduceEqDiff,Nat.reduceLT,Nat.reduceAdd]
    (repeat (refine And.intro (by first|omega|decide) ?_))
    refine Ic 0 (vs:=gr.ids.l.map (Value.int .i64)) rfl rfl Ve rfl (Adg (l:=gr.ids.l) gb (B4 gi.rd _ _ (by simp) gi.len)) (Aa rfl) (by simp (maxSteps:=10^6) only[C6,push_cast,Nat.reduceLT,Nat.reduceAdd]) ?_
    intro A2 cap2 b2 _
    rw[List.length_map] at b2
    simp (maxSteps:=10^6) only[k0,kl',hA,d2,o2,Ce,Bp,List.length_map,undef,push_cast,↓Int.toNat_natCast,↓reduceIte,reduceCtorEq,Nat.reduceEqDiff,Nat.reduceLT,Nat.reduceAdd]
    refine Hw [2,6,11,36,37] ?_
    simp (maxSteps:=10^6) only[push_cast,↓reduceIte,Nat.reduceEqDiff]
    have J:=J (⟨⟨A1,cap1,ab⟩,⟨A2,cap2,gr.ids.l⟩,gr.need⟩,Gs++[⟨.slice A1 ab.length cap1,ab.length,ab.map (Value.int .i64)⟩]++[⟨.slice A2 gr.ids.l.length cap2,gr.ids.l.length,gr.ids.l.map (Value.int .i64)⟩]) ⟨esp.symm,.inr (List.mem_append_left _ (List.mem_append_right _ (List.mem_singleton.2 rfl))),.inr (List.mem_append_right _ (List.mem_singleton.2 rfl)),⟨abl,gb⟩,fun f hf=>List.mem_append_left _ (List.mem_append_left _ hf)⟩
    exact J
   ·have hg':¬(0:Int)≤B2 c.cf i:=hg
    simp (maxSteps:=10^6) only[hg',undef,push_cast,↓reduceIte,reduceCtorEq,Nat.reduceEqDiff,Nat.reduceLT,Nat.reduceAdd]
    refine Hw [2,6,11,36,37] ?_
    simp (maxSteps:=10^6) only[push_cast,↓reduceIte,Nat.reduceEqDiff]
    have J:=J (⟨⟨A1,cap1,ab⟩,⟨none,0,[]⟩,0⟩,Gs++[⟨.slice A1 ab.length cap1,ab.length,ab.map (Value.int .i64)⟩]) ⟨by unfold Ge;rw[if_neg hg,hab];rfl,.inr (List.mem_append_right _ (List.mem_singleton.2 rfl)),.inl rfl,⟨abl,Nat.zero_le _⟩,fun f hf=>List.mem_append_left _ hf⟩
    exact J
  rintro⟨sp,Hs⟩ ⟨j1,j2,j3,j4,j5⟩
  dsimp only at j1 j2 j3 j4 j5 ⊢
  have fl:=Cv St L
  have va:sp.above.val=.slice sp.above.A sp.above.l.length sp.above.c:=rfl
  have vcl:sp.clients.val=.slice sp.clients.A sp.clients.l.length sp.clients.c:=rfl
  have ev:vC ((L++[sp]).flatMap spV)=vC (L.flatMap spV)++[.v sp.above.val,.v sp.clients.val,.v (.int .i64 sp.need)]:=by
   rw[List.flatMap_append,Ov]
   rfl
  rw[va,vcl] at ev ⊢
  refine Mq 7 [5] 10 (.rd 0 (.rd 1 (.rd 2 (.rd 3 (.rd 4 (.rd 5 (.wr 6 (.wr 7 (.rd 8 (.rd 9 .nil)))))))))) ⟨[(2,.x (.a (.p 1 0))),(6,.x (.a (.p 4 0))),(36,.x (.a (.v (.int .i64 c.ps.l.length)))),(37,.x (.a (.v (.int .i64 i)))),(84,.x (.a (.o 7))),(86,.x (.a (.p 4 2)))],[.abs (fctRep Hs),.blk 38 (.c [.v (.int .i64 c.dim),.v (.slice c.ps.A c.ps.l.length c.ps.c),.v (.slice c.gs.A c.gs.l.length c.gs.c),.v (.int .i64 c.least),.v (.int .i64 c.term)]),.mp .i64 [],.mp .i64 [],.blk 120 (.c [.v (.int .i64 p),.v (.int .i64 c.dim),.o 5,.o 2,.o 3]),.gone,.blk 122 (.c [.v (.slice sp.above.A sp.above.l.length sp.above.c),.v (.slice sp.clients.A sp.clients.l.length sp.clients.c),.v (.int .i64 sp.need)]),.onn 122 3 (.c (vC ((L++[sp]).flatMap spV)))]⟩ (by kernel_rfl) (by kernel_rfl) (Nat.le_refl 7) ?_ ?_
  ·simp (maxSteps:=10^6) only[C6,undef,push_cast,↓reduceIte,reduceCtorEq,Nat.reduceEqDiff,Nat.reduceLT,Nat.reduceLeDiff,Nat.reduceAdd,Nat.reduceSub,Nat.reduceMul]
   refine⟨⟨by rw[fl];omega,by rw[fl];omega⟩,?_⟩
   refine Cn [0,1,2,3,4,5,6,8] ?_
   simp (maxSteps:=10^6) only[ev,C6,push_cast,↓reduceIte,reduceCtorEq,Nat.reduceEqDiff,Nat.reduceLT,Nat.reduceAdd]
  ·simp (maxSteps:=10^6) only[undef,push_cast,↓reduceIte,Nat.reduceEqDiff,Nat.reduceLT,Nat.reduceAdd,Int.reduceNeg]
   refine⟨⟨by omega,by omega⟩,?_⟩
   refine Ba (i+1,L++[sp],Hs) [0,1,2,3,4,7] ⟨by show i+1≤_;omega,?_,fun y hy=>?_⟩ (by show c.ps.l.length - (i+1) < c.ps.l.length - i;omega) ?_
   ·show (L++[sp]).map SpR.sp=(List.range (i+1)).map (Ge c.cf)
    rw[List.map_append,i2,List.range_succ,List.map_append,List.map_cons,List.map_nil,j1]
    rfl
   ·rcases List.mem_append.1 hy with hy|hy
    ·obtain⟨y1,y2,y3,y4⟩:=i3 y hy
     exact⟨y1.more j5,y2.more j5,y3,y4⟩
    ·rw[List.mem_singleton.1 hy]
     exact⟨j2,j3,j4.1,j4.2⟩
   ·simp (maxSteps:=10^6) only[C6,push_cast,↓reduceIte,reduceCtorEq,Nat.reduceEqDiff,Nat.reduceLT,Nat.reduceAdd]
 ·obtain rfl:i=c.ps.l.length:=by omega
  simp (maxSteps:=10^6) only[hlt,push_cast,↓reduceIte,Nat.reduceEqDiff,Nat.reduceLT,Nat.reduceAdd]
  refine⟨(L,Gs),⟨i2,i3⟩,A6 [4,2,3,0,5] ?_⟩
  simp (maxSteps:=10^6) only[C6,push_cast,↓reduceIte,reduceCtorEq,Nat.reduceEqDiff,Nat.reduceLT,Nat.reduceAdd]
theorem Axx (p:Int) (h:c.Ok w) (hn:Mz c.cf p=true) (hb1:c.ps.l.length≤900) (hb2:∀g∈c.gs.l,g.ids.l.length≤1000):
  Calls prog 21 #[.agg (cfV c).toArray,.int .i64 p] w fun e w'=>∃(x:Nat×SmR×List Fct) (γ1:List Nm),(x.2.1.s=Sms.new c.cf p∧x.2.1.heard=[]∧x.2.1.taken=[]∧SmOk x.2.2 x.2.1)∧e=.returned (.tuple #[.pointer (some ⟨x.1,0,none⟩),.nilIface])∧Sat w No γ1 (smB x.1 x.2.1++[.abs (fctRep x.2.2)]) w':=by
 refine (Axw p h hn hb1 hb2).mono fun e w' ⟨⟨L,Gs⟩,γ1,⟨h1,h2⟩,he,hS⟩=>?_
 dsimp only at h1 h2 he hS
 obtain⟨A,cap,γ2,e1,e2,eB,eS,h4⟩:=hS.onnFs (j:=4) (k:=3) (c:=.c (vC (L.flatMap spV))) (vs:=L.flatMap spV) (n:=L.length) rfl rfl (by decide) (Jy γ1 _) (Cv St L)
 have h5:Sat w No γ2 ([.blk 120 (.c (smA ⟨p,c.dim,⟨A,cap,L⟩,[],[]⟩)),.mp .i64 [],.mp .i64 [],.abs (fctRep (Gs++[⟨.slice A L.length cap,L.length,L.flatMap spV⟩]))]++[.gone]) w':=h4
 have h6:=h5.frontOf (fun r hr=>by
  simp only[List.mem_cons,List.not_mem_nil,or_false] at hr
  rcases hr with rfl|rfl|rfl|rfl
  ·unfold smA
   simp (maxSteps:=10^6) only[push_cast,Nat.reduceLT,Nat.reduceAdd]
  ·exact fun p hp=>by cases hp
  ·exact fun p hp=>by cases hp
  ·trivial)
 have h7:=h6.toPin (k:=0) rfl
 have hll:L.length≤1000:=by
  have:=congrArg List.length h1
  rw[List.length_map,List.length_map,List.length_range] at this
  have e:c.cf.places.length=c.ps.l.length:=rfl
  omega
 refine⟨(_,⟨p,c.dim,⟨A,cap,L⟩,[],[]⟩,Gs++[⟨.slice A L.length cap,L.length,L.flatMap spV⟩]),_,⟨?_,rfl,rfl,?_⟩,?_,h7⟩
 ·show Sms.mk p c.dim (L.map SpR.sp) [] []=_
  rw[h1]
  rfl
 ·refine⟨.inr (List.mem_append_right _ (List.mem_singleton.2 rfl)),fun x hx=>(h2 x hx).1.left,fun x hx=>(h2 x hx).2.1.left,fun q hq=>(by cases hq),hll,fun x hx=>(h2 x hx).2.2⟩
 ·rw[he]
  show Ending.returned (.tuple #[.pointer (some ⟨nmB γ1 0,0,none⟩),.nilIface])=_
  have:nmB (γ2.take 4) 0=nmB γ1 0:=by
   rw[←eB]
   unfold nmB
   rw[List.getElem?_take_of_lt (by decide)]
  first
   |rw[←this];rfl
   |rfl
end
end
section
def Fx:CfS:=⟨1,[⟨-1,0,1⟩,⟨0,1,1⟩],[⟨1,[3,5],2⟩],1,9⟩
attribute [local irreducible] Ac Ad Ah Au Ao Aj Ai Al
structure CfFk (Fs:List Fct) (a:CfR):Prop where
 ps:(⟨a.ps.val,a.ps.l.length,a.ps.l.flatMap plV⟩:Fct)∈Fs
 gs:(⟨a.gs.val,a.gs.l.length,a.gs.l.flatMap grV⟩:Fct)∈Fs
 ids:∀g∈a.gs.l,(⟨g.ids.val,g.ids.l.length,g.ids.l.map (Value.int .i64)⟩:Fct)∈Fs
 few:a.ps.l.length≤1000000∧a.gs.l.length≤1000000∧∀g∈a.gs.l,g.ids.l.length≤1000000
theorem Pa {α:Type} {w0 w:World} {ow:Nat→Prop} {γ:List Nm} {hp:List Res} {k:Nat} {l:List Fct} {s:SlV α} {vs:List Value} (hS:Sat w0 ow γ hp w) (hk:hp[k]?=some (.abs (fctRep l))) (hf:(⟨s.val,s.l.length,vs⟩:Fct)∈l):s.l.length≤s.c∧RdV w w.heap.size s.A vs:=by
 obtain⟨A,c,h1,h2,_,h3⟩:=Abi hS hk hf
 have h1:Value.slice s.A s.l.length s.c=.slice A s.l.length c:=h1
 injection h1 with e1 _ e3
 subst e1 e3
 exact⟨h2,h3⟩
theorem Aeu {w0:World} {hp:List Res} {k:Nat} {l:List Fct} {a:CfR} (hk:hp[k]?=some (.abs (fctRep l))) (h:CfFk l a):Hc w0 hp (.x (.g (cfA a))) a.cf:=fun γ w hS=>by
 obtain⟨p1,p2⟩:=Pa hS hk h.ps
 obtain⟨g1,g2⟩:=Pa hS hk h.gs
 exact⟨a,rfl,⟨p1,h.few.1,p2,g1,h.few.2.1,g2,fun g hg=>⟨(Pa hS hk (h.ids g hg)).1,h.few.2.2 g hg,(Pa hS hk (h.ids g hg)).2⟩⟩,rfl⟩
end
section
theorem Res.holds_re {r:Res} {γ γ':List Nm} {i:Nat} {w:World} (hb:r.bnd 0) (hn:γ'[i]?=γ[i]?) (h:r.holds γ i w):r.holds γ' i w:=by
 have vals0:∀(c:Cont),c.bnd 0→c.vals γ'=c.vals γ:=fun c hc=>Agr.vals (a:=0) (n:=0) (fun i hi _=>absurd hi (Nat.not_lt_zero _)) hc (Cont.av_zero c)
 have e1:nmB γ' i=nmB γ i:=by unfold nmB;rw[hn]
 have e2:nmS γ' i=nmS γ i:=by unfold nmS;rw[hn]
 have e3:nmM γ' i=nmM γ i:=by unfold nmM;rw[hn]
 cases r with
 |mp q l=>
  have e4:mpE γ' q l=mpE γ q l:=List.map_congr_left fun p hp=>by
   rw[Sc.eqv (n:=0) (fun i hi=>absurd hi (Nat.not_lt_zero _)) (hb p hp)]
  simp only[Res.holds,hn,e2,e4] at h ⊢
  exact h
 |abs R=>simp only[Res.holds,hn,e2,e3] at h ⊢;exact h
 |it s p=>simp only[Res.holds,hn,e1] at h ⊢;exact h
 |gone=>trivial
 |blk t c=>simp only[Res.holds,hn,e1,vals0 c hb] at h ⊢;exact h
 |own t c=>simp only[Res.holds,hn,e2,vals0 c hb] at h ⊢;exact h
 |lit t c=>simp only[Res.holds,hn,e1,vals0 c hb] at h ⊢;exact h
 |str t c=>simp only[Res.holds,hn,e2,vals0 c hb] at h ⊢;exact h
 |pin g t c=>simp only[Res.holds,hn,e1,vals0 c hb] at h ⊢;exact h
 |onn t m c=>simp only[Res.holds,hn,e2,vals0 c hb] at h ⊢;exact h
theorem Sat.names {w0 w:World} {ow:Nat→Prop} {γ γ':List Nm} {hp:List Res} (h:Sat w0 ow γ hp w) (hl:γ'.length=γ.length) (hn:∀(i:Nat) (r:Res),hp[i]?=some r→r=.gone∨(r.bnd 0∧γ'[i]?=γ[i]?)):Sat w0 ow γ' hp w:=by
 have hh:∀(i:Nat) (r:Res),hp[i]?=some r→r.has γ' i=r.has γ i:=fun i r hr=>by
  rcases hn i r hr with rfl|⟨_,h2⟩
  ·rfl
  ·exact B8 h2
 refine⟨h.keeps,hl.trans h.len,fun i r hr=>?_,fun i r b hr hb=>?_,fun i j r r' b hr hr' hij hb=>?_⟩
 ·rcases hn i r hr with rfl|⟨h1,h2⟩
  ·trivial
  ·exact Res.holds_re h1 h2 (h.holds i r hr)
 ·rw[hh i r hr] at hb
  exact h.mine i r b hr hb
 ·rw[hh i r hr] at hb
  rw[hh j r' hr']
  exact h.apart i j r r' b hr hr' hij hb
section
variable {P:Program} {w0:World} {ow:Nat→Prop} {n:Nat}
end
end
section
structure MgR.Wide (m:MgR) (w:World):Prop where
 s:m.sm.length=32
 ids:m.ids.l.length≤m.ids.c∧RdV w w.heap.size m.ids.A (m.ids.l.map (Value.int .i64))
 ns:m.ns.l.length≤m.ns.c∧RdV w w.heap.size m.ns.A (m.ns.l.map vU64)
 ps:m.ps.l.length≤m.ps.c∧RdV w w.heap.size m.ps.A (pvs m.ps.l)
 xs:m.xs.l.length≤m.xs.c∧RdV w w.heap.size m.xs.A (m.xs.l.map Ap)
def J5 (m:MgS):Bool:=decide (100 < m.ids.length)||(decide (200 < m.ns.length)||(decide (100 < m.ps.length)||decide (100 < m.xs.length)))
theorem Aev {m:MgS} (h:J5 m=false):m.ids.length≤100∧m.ns.length≤200∧m.ps.length≤100∧m.xs.length≤100:=by
 unfold J5 at h
 simp only[Bool.or_eq_false_iff,decide_eq_false_iff_not] at h
 omega
theorem MgR.Wide.ok {m:MgR} {w:World} (h:m.Wide w) (hb:J5 m.mg=false):m.Ok w:=by
 obtain⟨h1,h2,h3,h4⟩:=Aev hb
 have h1:m.ids.l.length≤100:=h1
 have h2:m.ns.l.length≤200:=h2
 have h3:m.ps.l.length≤100:=h3
 have h4:m.xs.l.length≤100:=h4
 exact⟨h.s,⟨h.ids.1,by omega,h.ids.2⟩,⟨h.ns.1,by omega,h.ns.2⟩,⟨h.ps.1,by omega,h.ps.2⟩,⟨h.xs.1,by omega,h.xs.2⟩⟩
attribute [local irreducible] Ac Ad Ah Au Ao Aj Ai Al
attribute [local irreducible] mgA mgO
end
end Go.Proofs.YtedaafmfjhjfmaaGreatDoor
