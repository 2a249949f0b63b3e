import Derived.Test.YtedaafmfjhjfmaaGreatDoorTr1
import Derived.Test.YtedaafmfjhjfmaaGreatDoorShA
import Derived.Test.YtedaafmfjhjfmaaGreatDoorTy
import Derived.Test.YtedaafmfjhjfmaaGreatDoorEn3
import Derived.Test.YtedaafmfjhjfmaaGreatDoorCf0
/- slices.Index, Contains of numbers; layer 22: tree.Under, Group, Below, Nodes. -/
namespace Go.Proofs.YtedaafmfjhjfmaaGreatDoor
open Go.RowKit
set_option linter.unusedSimpArgs false
set_option linter.unusedVariables false
def C3 (n:Int):List Int→Nat→Int
 |[],_=>-1
 |x::r,k=>if n=x then (k:Int) else C3 n r (k+1)
theorem Aad (n:Int):∀(l:List Int) (k:Nat),(0≤C3 n l k)↔n∈l
 |[],k=>by rw[C3];simp
 |x::r,k=>by
  rw[C3,List.mem_cons]
  by_cases h:n=x
  ·rw[if_pos h];exact⟨fun _=>.inl h,fun _=>by omega⟩
  ·rw[if_neg h,Aad n r (k+1)]
   exact⟨.inr,fun e=>e.resolve_left h⟩
def J0 (n:Int) (l:List Int):Bool:=decide (n∈l)
theorem A0b (n:Int) (l:List Int):J0 n l=decide (0≤C3 n l 0):=decide_eq_decide.2 (Aad n l 0).symm
def A0c (l:List PlS) (p:Int) (k:Nat):List Int:=((List.range k).filter fun q=>decide ((ix l q).parent=p)).map Int.ofNat
def A0d (l:List PlS) (p:Int) (s:List Int) (g:GrS):List Int:=if g.place=p∨p∈abF l g.place.toNat then Ay s g.ids else s
def A0e (c:CfS) (p:Int) (k:Nat):List Int:=(c.groups.take k).foldl (A0d c.places p) []
attribute [local irreducible] Ad Ae Ah Ar Ak Am Ai Al
attribute [local irreducible] cfF okV tcF isP ofP abF C3 J0 B2
section
set_option maxRecDepth 100000 in
theorem A0f (l:List Int) (n:Int) (A:Option Addr) (c:Nat) (w:World) (hm:l.length≤1000000) (hR:RdV w w.heap.size A (l.map (Value.int .i64))):
  Calls Tryz.prog 121 #[.slice A l.length c,.int .i64 n] w fun e w'=>e=.returned (.int .i64 (C3 n l 0))∧Below w.heap.size w w':=by
 have F:=FM.of hR
 refine Ba (n:=19) Tryz.func121 rfl Tryz.ntmps121 [.x (.a (.v (.slice A l.length c))),.x (.a (.v (.int .i64 n)))] (by simp) (.x (.a (.v (.int .i64 (C3 n l 0))))) (fun _=>rfl) ?_
 obtain⟨R,hr⟩:∃R,R=C3 n l 0:=⟨_,rfl⟩
 rw[←hr]
 simp (maxSteps:=10^6) only[push_cast,↓reduceIte,reduceCtorEq,Nat.reduceLT,Int.reduceNeg]
 refine Bh (ι:=Nat) (fun k=>⟨[(0,.x (.a (.v (.slice A l.length c)))),(1,.x (.a (.v (.int .i64 n)))),(7,.x (.a (.v (.int .i64 l.length)))),(8,.x (.a (.v (.int .i64 k))))],[]⟩) (fun k=>k≤l.length∧R=C3 n (l.drop k) k) (fun k=>l.length - k) 0 [] ⟨Nat.zero_le _,hr⟩ ?_ ?_
 ·simp (maxSteps:=10^6) only[push_cast,↓Int.cast_ofNat_Int,Int.cast_ofNat_Int,↓reduceIte,reduceCtorEq,Nat.reduceEqDiff]
 rintro k ⟨hk,hg⟩
 by_cases hlt:(k:Int) < l.length
 ·have hil:k < l.length:=by omega
  have i0:(0:Int)≤k:=by omega
  have c0:=F.cell k hil
  have o0:=F.ok k hil
  have hA:=F.some_ (by omega)
  have hd:l.drop k=ix l k::l.drop (k+1):=by
   rw[List.drop_eq_getElem_cons hil,ix,List.getD_eq_getElem?_getD,List.getElem?_eq_getElem hil];rfl
  rw[hd,C3] at hg
  generalize ix l k=x at*
  have nx:(k:Int)+1≤9223372036854775807:=by omega
  by_cases h:n=x
  ·rw[if_pos h] at hg
   simp (maxSteps:=10^6) only[hlt,i0,c0,o0,hA,h,hg,push_cast,↓Int.toNat_natCast,↓reduceIte,reduceCtorEq,Nat.reduceEqDiff,Nat.reduceLT,Int.reduceNeg]
   done
  ·rw[if_neg h] at hg
   simp (maxSteps:=10^6) only[hlt,i0,c0,o0,hA,h,push_cast,↓Int.toNat_natCast,↓reduceIte,reduceCtorEq,Nat.reduceEqDiff,Nat.reduceLT,Int.reduceNeg]
   (repeat (refine And.intro (by first|omega|decide) ?_))
   refine Be (k+1) [] ⟨by omega,hg⟩ (by omega) ?_
   simp (maxSteps:=10^6) only[push_cast,↓reduceIte,reduceCtorEq,Nat.reduceEqDiff]
   done
 ·obtain rfl:k=l.length:=by omega
  rw[List.drop_length,C3] at hg
  simp (maxSteps:=10^6) only[hlt,hg,push_cast,↓reduceIte,reduceCtorEq,Nat.reduceEqDiff,Nat.reduceLT,Int.reduceNeg]
  done
set_option maxRecDepth 100000 in
theorem A0g (l:List Int) (n:Int) (A:Option Addr) (c:Nat) (w:World) (hm:l.length≤1000000) (hR:RdV w w.heap.size A (l.map (Value.int .i64))):
  Calls Tryz.prog 62 #[.slice A l.length c,.int .i64 n] w fun e w'=>e=.returned (.bool (J0 n l))∧Below w.heap.size w w':=by
 refine Ba (n:=9) Tryz.func62 rfl Tryz.ntmps62 [.x (.a (.v (.slice A l.length c))),.x (.a (.v (.int .i64 n)))] (by simp) (.x (.a (.v (.bool (J0 n l))))) (fun _=>rfl) ?_
 have iK:∀hp,Ae Tryz.prog w No 121 [.x (.a (.v (.slice A l.length c))),.x (.a (.v (.int .i64 n)))] hp (.x (.a (.v (.int .i64 (C3 n l 0))))) hp:=fun hp=>A8 fun γ w' hS=>A0f l n A c w' hm (Cn hR hS)
 simp (maxSteps:=10^6) only[push_cast,↓reduceIte,reduceCtorEq,Nat.reduceEqDiff,Nat.reduceLT]
 (repeat (refine And.intro (by first|omega|decide) ?_))
 refine Aq rfl Awj rfl (iK _) (Af rfl) ?_
 have e:=A0b n l
 simp (maxSteps:=10^6) only[e,push_cast,↓reduceIte,Nat.reduceLT]
 done
theorem A0h {w0:World} {ow:Nat→Prop} {hp:List Res} {sv:Sv} {l:List Int} (n:Int) (hm:l.length≤1000000) (h:Bi w0 ow hp sv (l.map (Value.int .i64))):Ae Tryz.prog w0 ow 62 [sv,.x (.a (.v (.int .i64 n)))] hp (.x (.a (.v (.bool (J0 n l))))) hp:=A8 fun γ w hS=>by
 obtain⟨A,c,e1,b1,r1⟩:=h γ w hS
 rw[List.length_map] at e1
 show Calls _ _ #[sv.val γ,_] w _
 rw[e1]
 exact A0g l n A c w hm r1
attribute [local irreducible] A0c A0e
def Ca (c:CfS) (p:Int):Int:=if isP c p=true then B2 p c.groups 0 else 0
attribute [local irreducible] Ca
set_option maxRecDepth 100000 in
theorem A0i (c:CfR) (p:Int) (w:World) (hc:c.Ok w):Calls Tryz.prog 50 #[.agg (cfV c).toArray,.int .i64 p] w fun e w'=>e=.returned (.tuple #[.int .i64 (Ca c.cf p),tcF c.cf p])∧Below w.heap.size w w':=by
 have hgf:=hc.gfew
 have hgl:=hc.glen
 refine Ba (n:=17) Tryz.func50 rfl Tryz.ntmps50 [.x (.g [.v (.int .i64 c.dim),.v (.slice c.ps.A c.ps.l.length c.ps.c),.v (.slice c.gs.A c.gs.l.length c.gs.c),.v (.int .i64 c.least),.v (.int .i64 c.term)]),.x (.a (.v (.int .i64 p)))] (by simp) (.t [.a (.v (.int .i64 (Ca c.cf p))),.a (.v (tcF c.cf p))]) (fun _=>rfl) ?_
 simp (maxSteps:=10^6) only[undef,push_cast,↓reduceIte,reduceCtorEq,Nat.reduceEqDiff,Nat.reduceLT,Nat.reduceAdd]
 (repeat (refine And.intro (by first|omega|decide) ?_))
 refine Aq rfl Yc rfl (Z9 c p hc) (Af rfl) ?_
 rcases Aac c.cf p with ⟨h1,h2⟩|⟨h2,n,h1⟩
 ·have ho:Ca c.cf p=B2 p (c.gs.l.map GrR.gr) 0:=by unfold Ca;rw[if_pos h2];rfl
  have cK:∀hp,Cw hp[1]?=some (3,.c [.v (.int .i64 p)])→Ae Tryz.prog w No 109 [.x (.a (.v (.slice c.gs.A c.gs.l.length c.gs.c))),.f (.func 110) [.p 1 0]] hp (.x (.a (.v (.int .i64 (B2 p (c.gs.l.map GrR.gr) 0))))) hp:=fun hp h=>A8 fun γ w' hS=>Z6 c.gs.l c.gs.A c.gs.c _ p w' hgf (Cn hc.grd hS) (Azu.pure (K9 (vs:=[.int .i64 p]) hS h rfl))
  simp (maxSteps:=10^6) only[h1,ho,undef,push_cast,↓reduceIte,reduceCtorEq,Nat.reduceEqDiff,Nat.reduceLT,Nat.reduceAdd]
  (repeat (refine And.intro (by first|omega|decide) ?_))
  refine Aq rfl Yd rfl (cK _ rfl) (Af rfl) ?_
  simp (maxSteps:=10^6) only[push_cast,↓reduceIte,Nat.reduceEqDiff,Nat.reduceLT,Nat.reduceAdd]
  done
 ·have ho:Ca c.cf p=0:=by unfold Ca;rw[h2];rfl
  simp (maxSteps:=10^6) only[h1,ho,push_cast,↓reduceIte,Nat.reduceEqDiff,Nat.reduceLT,Nat.reduceAdd]
  done
theorem A0j {w0:World} {hp:List Res} {s:Sv} {c:CfS} (p:Int) (h:Iv w0 hp s c):Ae Tryz.prog w0 No 50 [s,.x (.a (.v (.int .i64 p)))] hp (.t [.a (.v (.int .i64 (Ca c p))),.a (.v (tcF c p))]) hp:=A8 fun γ w hS=>by
 obtain⟨a,e,h1,rfl⟩:=h γ w hS
 show Calls _ _ #[s.val γ,_] w _
 rw[e]
 exact A0i a p w h1
end
end Go.Proofs.YtedaafmfjhjfmaaGreatDoor
/- Are two rows of numbers the same: by the library, the program and the document. -/
namespace Go.Proofs.YtedaafmfjhjfmaaGreatDoor
open Go.RowKit
set_option linter.unusedSimpArgs false
theorem Mu {α:Type} [Inhabited α] {a b:List α} (hl:a.length=b.length) (h:∀j,j < a.length→ix a j=ix b j):a=b:=by
 apply List.ext_getElem hl
 intro i h1 h2
 have:=h i h1
 simpa [ix,List.getD_eq_getElem?_getD,List.getElem?_eq_getElem h1,List.getElem?_eq_getElem h2] using this
theorem Mv {α:Type} {a b:List α} (h:¬((a.length:Int)=b.length)):¬a=b:=fun e=>h (by rw[e])
section
variable (a b:List UInt32) (A:Option Addr) (c:Nat) (A2:Option Addr) (c2:Nat) (w:World) (hm:a.length≤100000) (hR:RdV w w.heap.size A (a.map Ap)) (hR2:RdV w w.heap.size A2 (b.map Ap))
include hm hR hR2
set_option maxRecDepth 100000 in
theorem A0k:Calls Tryz.prog 65 #[.slice A a.length c,.slice A2 b.length c2] w fun e w'=>e=.returned (.bool (decide (a=b)))∧Below w.heap.size w w':=by
 have F:=F32.of (FV.no hR)
 have G:=F32.of (FV.no hR2)
 refine Ba (n:=26) Tryz.func65 rfl Tryz.ntmps65 [.x (.a (.v (.slice A a.length c))),.x (.a (.v (.slice A2 b.length c2)))] (by simp) (.x (.a (.v (.bool (decide (a=b)))))) (fun _=>rfl) ?_
 by_cases hl:(a.length:Int)=b.length
 ·simp only[hl,push_cast,↓reduceIte,reduceCtorEq,Nat.reduceEqDiff,Nat.reduceLT]
  refine Bh (ι:=Nat) (fun k=>⟨[(0,.x (.a (.v (.slice A a.length c)))),(1,.x (.a (.v (.slice A2 b.length c2)))),(12,.x (.a (.v (.int .i64 b.length)))),(13,.x (.a (.v (.int .i64 k))))],[]⟩) (fun k=>k≤b.length∧∀j,j < k→ix a j=ix b j) (fun k=>b.length - k) 0 [] ⟨by omega,fun j h=>by omega⟩ ?_ ?_
  ·simp only[push_cast,↓Int.cast_ofNat_Int,Int.cast_ofNat_Int,↓reduceIte,reduceCtorEq,Nat.reduceEqDiff]
  ·rintro k ⟨hk,hj⟩
   by_cases hlt:(k:Int) < b.length
   ·have c0:=F.cell k (by omega)
    have o0:=F.ok k (by omega)
    have d0:=G.cell k (by omega)
    have p0:=G.ok k (by omega)
    have hA:=F.some_ (by omega)
    have hA2:=G.some_ (by omega)
    have hla:(k:Int) < a.length:=by omega
    by_cases he:ix a k=ix b k
    ·simp only[hlt,push_cast,↓reduceIte,reduceCtorEq,Nat.reduceEqDiff,Nat.reduceLT]
     (repeat (refine And.intro (by first|omega|decide) ?_))
     refine Dp [(0,true),(1,true),(2,true),(3,true),(4,true),(5,true),(6,true),(7,true),(8,true)] (by kernel_rfl) (by kernel_rfl) rfl (by kernel_rfl) ?_
     simp only[hlt,hla,c0,o0,d0,p0,hA,hA2,he,push_cast,↓Int.toNat_natCast,↓reduceIte,reduceCtorEq,Nat.reduceEqDiff,Nat.reduceLT,Int.reduceNeg]
     (repeat (refine And.intro (by first|omega|decide) ?_))
     refine Be (k+1) [] ⟨by omega,fun j h=>?_⟩ (by omega) ?_
     ·by_cases e:j=k
      ·rw[e];exact he
      ·exact hj j (by omega)
     ·simp only[push_cast,↓reduceIte,reduceCtorEq,Nat.reduceEqDiff]
    ·have hne:¬a=b:=fun e=>he (by rw[e])
     simp only[hlt,push_cast,↓reduceIte,reduceCtorEq,Nat.reduceEqDiff,Nat.reduceLT]
     (repeat (refine And.intro (by first|omega|decide) ?_))
     refine Dp [(0,true),(1,true),(2,true),(3,true),(4,true),(5,true),(6,true),(7,true),(8,true)] (by kernel_rfl) (by kernel_rfl) rfl (by kernel_rfl) ?_
     simp only[hlt,hla,c0,o0,d0,p0,hA,hA2,he,hne,push_cast,↓Int.toNat_natCast,↓reduceIte,reduceCtorEq,Nat.reduceEqDiff,Nat.reduceLT]
     all_goals omega
   ·have hab:a=b:=Mu (by omega) fun j h=>hj j (by omega)
    have hd:decide (a=b)=true:=decide_eq_true hab
    simp only[hlt,hd,push_cast,↓reduceIte,reduceCtorEq,Nat.reduceEqDiff,Nat.reduceLT]
 ·have hne:=Mv hl
  simp only[hl,hne,push_cast,↓reduceIte,reduceCtorEq,Nat.reduceEqDiff,Nat.reduceLT]
end
section
variable {w0:World} {hp:List Res} {s1 s2:Sv} {a b:List UInt32}
theorem A0l (hm:a.length≤100000) (h1:Bi w0 No hp s1 (a.map Ap)) (h2:Bi w0 No hp s2 (b.map Ap)):Ae Tryz.prog w0 No 65 [s1,s2] hp (.x (.a (.v (.bool (decide (a=b)))))) hp:=A8 fun γ w hS=>by
 obtain⟨A,c,e1,b1,r1⟩:=h1 γ w hS
 obtain⟨A2,c2,e2,b2,r2⟩:=h2 γ w hS
 rw[List.length_map] at e1 e2
 show Calls _ _ #[s1.val γ,s2.val γ] w _
 rw[e1,e2]
 exact A0k a b A c A2 c2 w hm r1 r2
end
end Go.Proofs.YtedaafmfjhjfmaaGreatDoor
/- Layer 22: tree.Nodes; law 22's ints. -/
namespace Go.Proofs.YtedaafmfjhjfmaaGreatDoor
open Go.RowKit
set_option linter.unusedSimpArgs false
set_option linter.unusedVariables false
def A0m (l:List PlS) (k:Nat):List Int:=((List.range k).flatMap (Y6 l)).map Y7
def A0n (k s:Nat):List Int:=(List.range s).map fun (t:Nat)=>64+4*(k:Int)+(t:Int)
attribute [local irreducible] Ad Ae Ah Ar Ak Am Ai Al
attribute [local irreducible] cfF okV T3 A0m A0n
section
end
section
variable (a b:List Int) (A:Option Addr) (c:Nat) (A2:Option Addr) (c2:Nat) (w:World) (hm:a.length≤100000) (hR:RdV w w.heap.size A (a.map (Value.int .i64))) (hR2:RdV w w.heap.size A2 (b.map (Value.int .i64)))
include hm hR hR2
end
end Go.Proofs.YtedaafmfjhjfmaaGreatDoor
/- A region that draws its order, with forks, and a tail that comes in order. No program in sight. -/
namespace Go.Proofs.YtedaafmfjhjfmaaGreatDoor
open Go.RowKit
set_option linter.unusedSimpArgs false
section
variable {P:Program} {ops:Array Oper} {md:Region.Mode}
def Dd (md:Region.Mode) (ops:Array Oper) (n g:Nat):Nat→Pl→Array Bool→Bool
 |0,.nil,listed=>Region.seqB md ops g n listed
 |f+1,.rd i p,listed=>decide (i < n)&&(Region.ready md ops listed).contains i&&Region.free md ops listed i&&Dd md ops n g f p (listed.setIfInBounds i true)
 |f+1,.wr i p,listed=>decide (i < n)&&decide (Region.ready md ops listed=[i])&&Dd md ops n g f p (listed.setIfInBounds i true)
 |f+1,.fk i p j q,listed=>decide (i < n)&&decide (j < n)&&decide (Region.ready md ops listed=[i,j])&&Dd md ops n g f p (listed.setIfInBounds i true)&&Dd md ops n g f q (listed.setIfInBounds j true)
 |f+1,.f3 i p j q k r,listed=>decide (i < n)&&decide (j < n)&&decide (k < n)&&decide (Region.ready md ops listed=[i,j,k])&&Dd md ops n g f p (listed.setIfInBounds i true)&&Dd md ops n g f q (listed.setIfInBounds j true)&&Dd md ops n g f r (listed.setIfInBounds k true)
 |_,_,_=>false
theorem Iw {n g:Nat} {Q:Act→World→Prop} (hsel:Region.noSelect ops=true) (hs:Region.sinkB md ops n=true) (hc:Region.chainB md ops n=true) (hn:n < ops.size):
  ∀(f:Nat) (p:Pl) (listed:Array Bool) (C:World→Prop) (a:Act) (w:World),C w→HeadInv md ops n listed→
  Dd md ops n g f p listed=true→B7 P ops Q p C a w→Fv P md ops n (fun listed' a' w'=>Region.seqB md ops g n listed'=true∧Q a' w') f listed C a w
 |0,.nil,_,_,_,_,_,_,hB,h=>⟨by simpa [Dd] using hB,h⟩
 |f+1,.rd i p,listed,C,a,w,hC,inv,hB,h=>by
  simp only[Dd,Bool.and_eq_true,decide_eq_true_eq] at hB
  obtain⟨⟨⟨hin,hr⟩,hf⟩,hB'⟩:=hB
  have hr':i∈Region.ready md ops listed:=by simpa using hr
  obtain⟨_,o,ho,_⟩:=mem_ready.1 hr'
  simp only[B7,ho] at h
  have hv:∃v,YieldsR P ops C o v a∧B7 P ops Q p C (a.put o.dst v) w:=by
   by_cases hw:Region.wanted o (yielded ops a.tmps)=true
   ·simp only[hw,if_true] at h
    obtain⟨v,h1,h2⟩:=h
    exact⟨v,.inl ⟨hw,h1⟩,h2⟩
   ·simp only[hw] at h
    exact⟨undef,.inr ⟨by simpa using hw,rfl⟩,h⟩
  obtain⟨v,hy,hK⟩:=hv
  exact Rz ho (Region.noSelect_spec hsel) hs hc hn hin (fun listed' a' w' hL=>seqB_ready hL.1) f listed C a w inv (Region.free_spec ho hf) hr' hC hy
   (Iw hsel hs hc hn f p _ C _ w hC (inv.set hr' hin) hB' hK)
 |f+1,.wr i p,listed,C,a,w,hC,inv,hB,h=>by
  simp only[Dd,Bool.and_eq_true,decide_eq_true_eq] at hB
  obtain⟨⟨hin,hrd⟩,hB'⟩:=hB
  have hr':i∈Region.ready md ops listed:=by rw[hrd];simp
  refine⟨fun h0=>(by rw[hrd] at h0;cases h0),fun j hj=>?_⟩
  rw[hrd] at hj
  have hji:j=i:=by simpa using hj
  subst hji
  exact⟨hin,Jo hC (fun C2 a' w' hC2 hw=>Iw hsel hs hc hn f p _ C2 a' w' hC2 (inv.set hr' hin) hB' hw) h⟩
 |f+1,.fk i p j q,listed,C,a,w,hC,inv,hB,h=>by
  simp only[Dd,Bool.and_eq_true,decide_eq_true_eq] at hB
  obtain⟨⟨⟨⟨h1,h2⟩,hrd⟩,hB1⟩,hB2⟩:=hB
  refine⟨fun h0=>(by rw[hrd] at h0;cases h0),fun k hk=>?_⟩
  have hk':=hk
  rw[hrd] at hk
  simp only[List.mem_cons,List.not_mem_nil,or_false] at hk
  rcases hk with rfl|rfl
  ·exact⟨h1,Jo hC (fun C2 a' w' hC2 hw=>Iw hsel hs hc hn f p _ C2 a' w' hC2 (inv.set hk' h1) hB1 hw) h.1⟩
  ·exact⟨h2,Jo hC (fun C2 a' w' hC2 hw=>Iw hsel hs hc hn f q _ C2 a' w' hC2 (inv.set hk' h2) hB2 hw) h.2⟩
 |f+1,.f3 i p j q k r,listed,C,a,w,hC,inv,hB,h=>by
  simp only[Dd,Bool.and_eq_true,decide_eq_true_eq] at hB
  obtain⟨⟨⟨⟨⟨⟨h1,h2⟩,h3⟩,hrd⟩,hB1⟩,hB2⟩,hB3⟩:=hB
  refine⟨fun h0=>(by rw[hrd] at h0;cases h0),fun k hk=>?_⟩
  have hk':=hk
  rw[hrd] at hk
  simp only[List.mem_cons,List.not_mem_nil,or_false] at hk
  rcases hk with rfl|rfl|rfl
  ·exact⟨h1,Jo hC (fun C2 a' w' hC2 hw=>Iw hsel hs hc hn f p _ C2 a' w' hC2 (inv.set hk' h1) hB1 hw) h.1⟩
  ·exact⟨h2,Jo hC (fun C2 a' w' hC2 hw=>Iw hsel hs hc hn f q _ C2 a' w' hC2 (inv.set hk' h2) hB2 hw) h.2.1⟩
  ·exact⟨h3,Jo hC (fun C2 a' w' hC2 hw=>Iw hsel hs hc hn f r _ C2 a' w' hC2 (inv.set hk' h3) hB3 hw) h.2.2⟩
 |0,.rd _ _,_,_,_,_,_,_,hB,_=>by simp [Dd] at hB
 |0,.wr _ _,_,_,_,_,_,_,hB,_=>by simp [Dd] at hB
 |0,.fk _ _ _ _,_,_,_,_,_,_,hB,_=>by simp [Dd] at hB
 |0,.f3 _ _ _ _ _ _,_,_,_,_,_,_,hB,_=>by simp [Dd] at hB
 |_+1,.nil,_,_,_,_,_,_,hB,_=>by simp [Dd] at hB
def Uk (md:Region.Mode) (ops:Array Oper) (n:Nat) (p:Pl):Bool:=
 Region.noSelect ops&&decide (n < ops.size)&&Region.sinkB md ops n&&Region.chainB md ops n&&Dd md ops n (ops.size - n) n p (Array.replicate ops.size false)
theorem A0o {id:Nat} {Q:Exit→Act→World→Prop} {a:Act} {w:World} {l:List Oper} (n:Nat) (p:Pl) (hm:P.follows .mixedOrders=true) (hB:Uk .any l.toArray n p=true) (C:World→Prop)
  (h:∀w2:World,Hid (Drawn w w2)→C w2∧B7 P l.toArray (fun a' w'=>wpList P l.toArray Q (l.drop n) a' w') p C a w2):(Code.region id l.toArray true).wp P Q a w:=by
 simp only[Uk,Bool.and_eq_true,decide_eq_true_eq] at hB
 obtain⟨⟨⟨⟨hsel,hn⟩,hs⟩,hc⟩,hmix⟩:=hB
 have hn':n < l.length:=by simpa using hn
 have hdl:(l.drop n).length=l.toArray.size - n:=by simp
 have inv0:HeadInv .any l.toArray n (Array.replicate l.toArray.size false):=
  ⟨by simp,fun j oj _ hl=>(by rw[getD_replicate_false] at hl;cases hl),fun t _ ht=>getD_in (by simpa using ht) (getD_replicate_false _ _)⟩
 refine wp_region_any hm ?_
 obtain⟨h1,h2⟩:=h {w with drawn:=w.drawn+1} (Lib.hid ⟨1,rfl⟩)
 have H:=Iw (md:=.any) (g:=l.toArray.size - n) hsel hs hc hn n p _ C a _ h1 inv0 hmix h2
 have:=Ke (Q':=Q) (g:=l.toArray.size - n) (fun listed a' w' hL=>by
  have:=wpAny_of_seq (md:=.any) (Q':=Q) (l.drop n) n listed a' w' (fun j=>by simp [List.getElem?_drop]) (by rw[hdl];exact hL.1) hL.2
  rwa [hdl] at this) _ _ _ _ _ H
 rw[show n+(l.toArray.size - n)=l.toArray.size by omega] at this
 exact this
theorem A0p {Q Q':Act→World→Prop} (hq:∀a w,Q a w→Q' a w):∀(p:Pl) (C:World→Prop) (a:Act) (w:World),B7 P ops Q p C a w→B7 P ops Q' p C a w:=by
 intro p
 have wr:∀(i:Nat) (W W':(World→Prop)→Act→World→Prop),(∀C a w,W C a w→W' C a w)→∀C a w,Dy P ops i W C a w→Dy P ops i W' C a w:=by
  intro i W W' hW C a w h
  unfold Dy at h ⊢
  split
  ·rename_i ho;simp only[ho] at h
  ·rename_i o ho
   simp only[ho] at h
   split
   ·rename_i hw;simp only[hw,if_true] at h;exact G6 (fun a w ⟨C2,h1,h2,h3⟩=>⟨C2,h1,h2,hW _ _ _ h3⟩) h
   ·rename_i hw;simp only[hw] at h;exact hW _ _ _ h
 induction p with
 |nil=>exact fun C a w h=>hq _ _ h
 |rd i p ih=>
  intro C a w h
  unfold B7 at h ⊢
  split
  ·rename_i ho;simp only[ho] at h
  ·rename_i o ho
   simp only[ho] at h
   split
   ·rename_i hw;simp only[hw,if_true] at h;obtain⟨v,h1,h2⟩:=h;exact⟨v,h1,ih _ _ _ h2⟩
   ·rename_i hw;simp only[hw] at h;exact ih _ _ _ h
 |wr i p ih=>exact fun C a w h=>wr i _ _ ih C a w h
 |fk i p j q ih1 ih2=>exact fun C a w h=>⟨wr i _ _ ih1 C a w h.1,wr j _ _ ih2 C a w h.2⟩
 |f3 i p j q k r ih1 ih2 ih3=>exact fun C a w h=>⟨wr i _ _ ih1 C a w h.1,wr j _ _ ih2 C a w h.2.1,wr k _ _ ih3 C a w h.2.2⟩
end
theorem Mw {P:Program} {w0:World} {ow:Nat→Prop} {n id:Nat} {ops:List Oper} {s:S} {K:Exit→S→Prop} (m:Nat) (G:List Nat) (k:Nat) (p:Pl) (s1:S) (hm:P.follows .mixedOrders=true) (hB:Uk .any ops.toArray k p=true)
  (hml:m≤s.hp.length) (h:Co P w0 ow n m G ops (fun s'=>Gi w0 ow n s' s1) p s) (hk:Ai P w0 ow n ops (ops.drop k) s1 (K .normal)):Ak P w0 ow n id ops s K:=by
 rintro a w ⟨γ,hf⟩
 refine A0o k p hm hB (fun x=>Sat w0 ow γ (Cg m G s.hp) x) fun w2 hd=>?_
 have hf2:=Fits.drawn hf hd.out
 refine⟨hf2.sat.vis hml,A0p (fun a' w' hq=>?_) _ _ _ _ (Hn p s γ a w2 h hf2 hml)⟩
 obtain⟨s',h1,h2⟩:=hq
 refine Jk (fun e a'' w'' hq=>?_) _ _ _ (C8 _ s1 a' w' hk (h2 _ _ h1))
 obtain⟨rfl,s'',h3,h4⟩:=hq
 exact⟨s'',h3,h4⟩
end Go.Proofs.YtedaafmfjhjfmaaGreatDoor
