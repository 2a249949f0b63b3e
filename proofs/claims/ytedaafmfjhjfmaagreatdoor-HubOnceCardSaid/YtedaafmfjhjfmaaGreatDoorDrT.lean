import Derived.Test.YtedaafmfjhjfmaaGreatDoorShA
import Derived.Test.YtedaafmfjhjfmaaGreatDoorPreA
import Derived.Test.YtedaafmfjhjfmaaGreatDoorTr2
import Derived.Test.YtedaafmfjhjfmaaGreatDoorEn3
import Derived.Test.YtedaafmfjhjfmaaGreatDoorCf0
/- Are two rows of numbers the same: by the library, the program and the document. -/
namespace Go.Proofs.YtedaafmfjhjfmaaGreatDoor
open _root_.Go.Proofs.Tryz
open Go.RowKit
set_option linter.unusedSimpArgs false
set_option linter.unusedVariables false
section
theorem Mn {α:Type} [Inhabited α] {a b:List α} (hl:a.length=b.length) (h:∀j,j < a.length→ix a j=ix b j):a=b:=by
 apply List.ext_getElem hl
 intro i h1 h2
 have:=h i h1
 simpa [ix,List.getD_eq_getElem?_getD,List.getElem?_eq_getElem h1,List.getElem?_eq_getElem h2] using this
theorem Mo {α:Type} {a b:List α} (h:¬((a.length:Int)=b.length)):¬a=b:=fun e=>h (by rw[e])
section
variable (a b:List UInt32) (A:Option Addr) (c:Nat) (A2:Option Addr) (c2:Nat) (w:World) (hm:a.length≤100000) (hR:RdV w w.heap.size A (a.map Ap)) (hR2:RdV w w.heap.size A2 (b.map Ap))
include hm hR hR2
set_option maxRecDepth 100000 in
theorem As2:Calls prog 65 #[.slice A a.length c,.slice A2 b.length c2] w fun e w'=>e=.returned (.bool (decide (a=b)))∧Below w.heap.size w w':=by
 have F:=F32.of (FV.no hR)
 have G:=F32.of (FV.no hR2)
 refine Bf (n:=26) func65 rfl ntmps65 [.x (.a (.v (.slice A a.length c))),.x (.a (.v (.slice A2 b.length c2)))] (by simp) (.x (.a (.v (.bool (decide (a=b)))))) (fun _=>rfl) ?_
 by_cases hl:(a.length:Int)=b.length
 ·simp only[hl,push_cast,↓reduceIte,reduceCtorEq,Nat.reduceEqDiff,Nat.reduceLT]
  refine Bj (ι:=Nat) (fun k=>⟨[(0,.x (.a (.v (.slice A a.length c)))),(1,.x (.a (.v (.slice A2 b.length c2)))),(12,.x (.a (.v (.int .i64 b.length)))),(13,.x (.a (.v (.int .i64 k))))],[]⟩) (fun k=>k≤b.length∧∀j,j < k→ix a j=ix b j) (fun k=>b.length - k) 0 [] ⟨by omega,fun j h=>by omega⟩ ?_ ?_
  ·simp only[push_cast,↓Int.cast_ofNat_Int,Int.cast_ofNat_Int,↓reduceIte,reduceCtorEq,Nat.reduceEqDiff]
  ·rintro k ⟨hk,hj⟩
   by_cases hlt:(k:Int) < b.length
   ·have c0:=F.cell k (by omega)
    have o0:=F.ok k (by omega)
    have d0:=G.cell k (by omega)
    have p0:=G.ok k (by omega)
    have hA:=F.some_ (by omega)
    have hA2:=G.some_ (by omega)
    have hla:(k:Int) < a.length:=by omega
    by_cases he:ix a k=ix b k
    ·simp only[hlt,push_cast,↓reduceIte,reduceCtorEq,Nat.reduceEqDiff,Nat.reduceLT]
     (repeat (refine And.intro (by first|omega|decide) ?_))
     refine B3 [(0,true),(1,true),(2,true),(3,true),(4,true),(5,true),(6,true),(7,true),(8,true)] (by kernel_rfl) (by kernel_rfl) rfl (by kernel_rfl) ?_
     simp only[hlt,hla,c0,o0,d0,p0,hA,hA2,he,push_cast,↓Int.toNat_natCast,↓reduceIte,reduceCtorEq,Nat.reduceEqDiff,Nat.reduceLT,Int.reduceNeg]
     (repeat (refine And.intro (by first|omega|decide) ?_))
     refine Ba (k+1) [] ⟨by omega,fun j h=>?_⟩ (by omega) ?_
     ·by_cases e:j=k
      ·rw[e];exact he
      ·exact hj j (by omega)
     ·simp only[push_cast,↓reduceIte,reduceCtorEq,Nat.reduceEqDiff]
    ·have hne:¬a=b:=fun e=>he (by rw[e])
     simp only[hlt,push_cast,↓reduceIte,reduceCtorEq,Nat.reduceEqDiff,Nat.reduceLT]
     (repeat (refine And.intro (by first|omega|decide) ?_))
     refine B3 [(0,true),(1,true),(2,true),(3,true),(4,true),(5,true),(6,true),(7,true),(8,true)] (by kernel_rfl) (by kernel_rfl) rfl (by kernel_rfl) ?_
     simp only[hlt,hla,c0,o0,d0,p0,hA,hA2,he,hne,push_cast,↓Int.toNat_natCast,↓reduceIte,reduceCtorEq,Nat.reduceEqDiff,Nat.reduceLT]
     all_goals omega
   ·have hab:a=b:=Mn (by omega) fun j h=>hj j (by omega)
    have hd:decide (a=b)=true:=decide_eq_true hab
    simp only[hlt,hd,push_cast,↓reduceIte,reduceCtorEq,Nat.reduceEqDiff,Nat.reduceLT]
 ·have hne:=Mo hl
  simp only[hl,hne,push_cast,↓reduceIte,reduceCtorEq,Nat.reduceEqDiff,Nat.reduceLT]
set_option maxRecDepth 100000 in
theorem As3:Calls prog 30 #[.slice A a.length c,.slice A2 b.length c2] w fun e w'=>e=.returned (.bool (decide (a=b)))∧Below w.heap.size w w':=by
 have F:=F32.of (FV.no hR)
 have G:=F32.of (FV.no hR2)
 refine Bf (n:=26) func30 rfl ntmps30 [.x (.a (.v (.slice A a.length c))),.x (.a (.v (.slice A2 b.length c2)))] (by simp) (.x (.a (.v (.bool (decide (a=b)))))) (fun _=>rfl) ?_
 by_cases hl:(a.length:Int)=b.length
 ·simp only[hl,push_cast,↓reduceIte,reduceCtorEq,Nat.reduceEqDiff,Nat.reduceLT]
  refine Bj (ι:=Nat) (fun k=>⟨[(0,.x (.a (.v (.slice A a.length c)))),(1,.x (.a (.v (.slice A2 b.length c2)))),(5,.x (.a (.v (.int .i64 k))))],[]⟩) (fun k=>k≤b.length∧∀j,j < k→ix a j=ix b j) (fun k=>b.length - k) 0 [] ⟨by omega,fun j h=>by omega⟩ ?_ ?_
  ·simp only[push_cast,↓Int.cast_ofNat_Int,Int.cast_ofNat_Int,↓reduceIte,reduceCtorEq,Nat.reduceEqDiff]
  ·rintro k ⟨hk,hj⟩
   by_cases hlt:(k:Int) < a.length
   ·have c0:=F.cell k (by omega)
    have o0:=F.ok k (by omega)
    have d0:=G.cell k (by omega)
    have p0:=G.ok k (by omega)
    have hA:=F.some_ (by omega)
    have hA2:=G.some_ (by omega)
    have hlb:(k:Int) < b.length:=by omega
    by_cases he:ix a k=ix b k
    ·simp only[hlt,push_cast,↓reduceIte,reduceCtorEq,Nat.reduceEqDiff,Nat.reduceLT]
     (repeat (refine And.intro (by first|omega|decide) ?_))
     refine B3 [(0,true),(1,true),(2,true),(3,true),(4,true),(5,true),(6,true),(7,true),(8,true)] (by kernel_rfl) (by kernel_rfl) rfl (by kernel_rfl) ?_
     simp only[hlt,hlb,c0,o0,d0,p0,hA,hA2,he,push_cast,↓Int.toNat_natCast,↓reduceIte,reduceCtorEq,Nat.reduceEqDiff,Nat.reduceLT,Int.reduceNeg]
     (repeat (refine And.intro (by first|omega|decide) ?_))
     refine Ba (k+1) [] ⟨by omega,fun j h=>?_⟩ (by omega) ?_
     ·by_cases e:j=k
      ·rw[e];exact he
      ·exact hj j (by omega)
     ·simp only[push_cast,↓reduceIte,reduceCtorEq,Nat.reduceEqDiff]
    ·have hne:¬a=b:=fun e=>he (by rw[e])
     simp only[hlt,push_cast,↓reduceIte,reduceCtorEq,Nat.reduceEqDiff,Nat.reduceLT]
     (repeat (refine And.intro (by first|omega|decide) ?_))
     refine B3 [(0,true),(1,true),(2,true),(3,true),(4,true),(5,true),(6,true),(7,true),(8,true)] (by kernel_rfl) (by kernel_rfl) rfl (by kernel_rfl) ?_
     simp only[hlt,hlb,c0,o0,d0,p0,hA,hA2,he,hne,push_cast,↓Int.toNat_natCast,↓reduceIte,reduceCtorEq,Nat.reduceEqDiff,Nat.reduceLT]
     all_goals omega
   ·have hab:a=b:=Mn (by omega) fun j h=>hj j (by omega)
    have hd:decide (a=b)=true:=decide_eq_true hab
    simp only[hlt,hd,push_cast,↓reduceIte,reduceCtorEq,Nat.reduceEqDiff,Nat.reduceLT]
 ·have hne:=Mo hl
  simp only[hl,hne,push_cast,↓reduceIte,reduceCtorEq,Nat.reduceEqDiff,Nat.reduceLT]
end
section
variable {w0:World} {hp:List Res} {s1 s2:Sv} {a b:List UInt32}
theorem As4 (hm:a.length≤100000) (h1:Bg w0 No hp s1 (a.map Ap)) (h2:Bg w0 No hp s2 (b.map Ap)):Ad prog w0 No 65 [s1,s2] hp (.x (.a (.v (.bool (decide (a=b)))))) hp:=Bc fun γ w hS=>by
 obtain⟨A,c,e1,b1,r1⟩:=h1 γ w hS
 obtain⟨A2,c2,e2,b2,r2⟩:=h2 γ w hS
 rw[List.length_map] at e1 e2
 show Calls _ _ #[s1.val γ,s2.val γ] w _
 rw[e1,e2]
 exact As2 a b A c A2 c2 w hm r1 r2
end
end
section
def As5 (l:List PlS) (k:Nat):List Int:=((List.range k).flatMap (Abx l)).map Aby
def As6 (k s:Nat):List Int:=(List.range s).map fun (t:Nat)=>64+4*(k:Int)+(t:Int)
attribute [local irreducible] Ac Ad Ah Au Ao Aj Ai Al
attribute [local irreducible] cfF okV Vy As5 As6
section
end
section
variable (a b:List Int) (A:Option Addr) (c:Nat) (A2:Option Addr) (c2:Nat) (w:World) (hm:a.length≤100000) (hR:RdV w w.heap.size A (a.map (Value.int .i64))) (hR2:RdV w w.heap.size A2 (b.map (Value.int .i64)))
include hm hR hR2
end
end
section
section
variable {P:Program} {ops:Array Oper} {md:Region.Mode}
def Dp (md:Region.Mode) (ops:Array Oper) (n g:Nat):Nat→Pl→Array Bool→Bool
 |0,.nil,listed=>Region.seqB md ops g n listed
 |f+1,.rd i p,listed=>decide (i < n)&&(Region.ready md ops listed).contains i&&Region.free md ops listed i&&Dp md ops n g f p (listed.setIfInBounds i true)
 |f+1,.wr i p,listed=>decide (i < n)&&decide (Region.ready md ops listed=[i])&&Dp md ops n g f p (listed.setIfInBounds i true)
 |f+1,.fk i p j q,listed=>decide (i < n)&&decide (j < n)&&decide (Region.ready md ops listed=[i,j])&&Dp md ops n g f p (listed.setIfInBounds i true)&&Dp md ops n g f q (listed.setIfInBounds j true)
 |f+1,.f3 i p j q k r,listed=>decide (i < n)&&decide (j < n)&&decide (k < n)&&decide (Region.ready md ops listed=[i,j,k])&&Dp md ops n g f p (listed.setIfInBounds i true)&&Dp md ops n g f q (listed.setIfInBounds j true)&&Dp md ops n g f r (listed.setIfInBounds k true)
 |_,_,_=>false
theorem Jx {n g:Nat} {Q:Act→World→Prop} (hsel:Region.noSelect ops=true) (hs:Region.sinkB md ops n=true) (hc:Region.chainB md ops n=true) (hn:n < ops.size):
  ∀(f:Nat) (p:Pl) (listed:Array Bool) (C:World→Prop) (a:Act) (w:World),C w→HeadInv md ops n listed→
  Dp md ops n g f p listed=true→Cp P ops Q p C a w→Gz P md ops n (fun listed' a' w'=>Region.seqB md ops g n listed'=true∧Q a' w') f listed C a w
 |0,.nil,_,_,_,_,_,_,hB,h=>⟨by simpa [Dp] using hB,h⟩
 |f+1,.rd i p,listed,C,a,w,hC,inv,hB,h=>by
  simp only[Dp,Bool.and_eq_true,decide_eq_true_eq] at hB
  obtain⟨⟨⟨hin,hr⟩,hf⟩,hB'⟩:=hB
  have hr':i∈Region.ready md ops listed:=by simpa using hr
  obtain⟨_,o,ho,_⟩:=mem_ready.1 hr'
  simp only[Cp,ho] at h
  have hv:∃v,YieldsR P ops C o v a∧Cp P ops Q p C (a.put o.dst v) w:=by
   by_cases hw:Region.wanted o (yielded ops a.tmps)=true
   ·simp only[hw,if_true] at h
    obtain⟨v,h1,h2⟩:=h
    exact⟨v,.inl ⟨hw,h1⟩,h2⟩
   ·simp only[hw] at h
    exact⟨undef,.inr ⟨by simpa using hw,rfl⟩,h⟩
  obtain⟨v,hy,hK⟩:=hv
  exact T0 ho (Region.noSelect_spec hsel) hs hc hn hin (fun listed' a' w' hL=>seqB_ready hL.1) f listed C a w inv (Region.free_spec ho hf) hr' hC hy
   (Jx hsel hs hc hn f p _ C _ w hC (inv.set hr' hin) hB' hK)
 |f+1,.wr i p,listed,C,a,w,hC,inv,hB,h=>by
  simp only[Dp,Bool.and_eq_true,decide_eq_true_eq] at hB
  obtain⟨⟨hin,hrd⟩,hB'⟩:=hB
  have hr':i∈Region.ready md ops listed:=by rw[hrd];simp
  refine⟨fun h0=>(by rw[hrd] at h0;cases h0),fun j hj=>?_⟩
  rw[hrd] at hj
  have hji:j=i:=by simpa using hj
  subst hji
  exact⟨hin,Ks hC (fun C2 a' w' hC2 hw=>Jx hsel hs hc hn f p _ C2 a' w' hC2 (inv.set hr' hin) hB' hw) h⟩
 |f+1,.fk i p j q,listed,C,a,w,hC,inv,hB,h=>by
  simp only[Dp,Bool.and_eq_true,decide_eq_true_eq] at hB
  obtain⟨⟨⟨⟨h1,h2⟩,hrd⟩,hB1⟩,hB2⟩:=hB
  refine⟨fun h0=>(by rw[hrd] at h0;cases h0),fun k hk=>?_⟩
  have hk':=hk
  rw[hrd] at hk
  simp only[List.mem_cons,List.not_mem_nil,or_false] at hk
  rcases hk with rfl|rfl
  ·exact⟨h1,Ks hC (fun C2 a' w' hC2 hw=>Jx hsel hs hc hn f p _ C2 a' w' hC2 (inv.set hk' h1) hB1 hw) h.1⟩
  ·exact⟨h2,Ks hC (fun C2 a' w' hC2 hw=>Jx hsel hs hc hn f q _ C2 a' w' hC2 (inv.set hk' h2) hB2 hw) h.2⟩
 |f+1,.f3 i p j q k r,listed,C,a,w,hC,inv,hB,h=>by
  simp only[Dp,Bool.and_eq_true,decide_eq_true_eq] at hB
  obtain⟨⟨⟨⟨⟨⟨h1,h2⟩,h3⟩,hrd⟩,hB1⟩,hB2⟩,hB3⟩:=hB
  refine⟨fun h0=>(by rw[hrd] at h0;cases h0),fun k hk=>?_⟩
  have hk':=hk
  rw[hrd] at hk
  simp only[List.mem_cons,List.not_mem_nil,or_false] at hk
  rcases hk with rfl|rfl|rfl
  ·exact⟨h1,Ks hC (fun C2 a' w' hC2 hw=>Jx hsel hs hc hn f p _ C2 a' w' hC2 (inv.set hk' h1) hB1 hw) h.1⟩
  ·exact⟨h2,Ks hC (fun C2 a' w' hC2 hw=>Jx hsel hs hc hn f q _ C2 a' w' hC2 (inv.set hk' h2) hB2 hw) h.2.1⟩
  ·exact⟨h3,Ks hC (fun C2 a' w' hC2 hw=>Jx hsel hs hc hn f r _ C2 a' w' hC2 (inv.set hk' h3) hB3 hw) h.2.2⟩
 |0,.rd _ _,_,_,_,_,_,_,hB,_=>by simp [Dp] at hB
 |0,.wr _ _,_,_,_,_,_,_,hB,_=>by simp [Dp] at hB
 |0,.fk _ _ _ _,_,_,_,_,_,_,hB,_=>by simp [Dp] at hB
 |0,.f3 _ _ _ _ _ _,_,_,_,_,_,_,hB,_=>by simp [Dp] at hB
 |_+1,.nil,_,_,_,_,_,_,hB,_=>by simp [Dp] at hB
def Sf (md:Region.Mode) (ops:Array Oper) (n:Nat) (p:Pl):Bool:=
 Region.noSelect ops&&decide (n < ops.size)&&Region.sinkB md ops n&&Region.chainB md ops n&&Dp md ops n (ops.size - n) n p (Array.replicate ops.size false)
theorem Ac0 {id:Nat} {Q:Exit→Act→World→Prop} {a:Act} {w:World} {l:List Oper} (n:Nat) (p:Pl) (hm:P.follows .mixedOrders=true) (hB:Sf .any l.toArray n p=true) (C:World→Prop)
  (h:∀w2:World,Hid (Drawn w w2)→C w2∧Cp P l.toArray (fun a' w'=>wpList P l.toArray Q (l.drop n) a' w') p C a w2):(Code.region id l.toArray true).wp P Q a w:=by
 simp only[Sf,Bool.and_eq_true,decide_eq_true_eq] at hB
 obtain⟨⟨⟨⟨hsel,hn⟩,hs⟩,hc⟩,hmix⟩:=hB
 have hn':n < l.length:=by simpa using hn
 have hdl:(l.drop n).length=l.toArray.size - n:=by simp
 have inv0:HeadInv .any l.toArray n (Array.replicate l.toArray.size false):=
  ⟨by simp,fun j oj _ hl=>(by rw[getD_replicate_false] at hl;cases hl),fun t _ ht=>getD_in (by simpa using ht) (getD_replicate_false _ _)⟩
 refine wp_region_any hm ?_
 obtain⟨h1,h2⟩:=h {w with drawn:=w.drawn+1} (Lib.hid ⟨1,rfl⟩)
 have H:=Jx (md:=.any) (g:=l.toArray.size - n) hsel hs hc hn n p _ C a _ h1 inv0 hmix h2
 have:=Ln (Q':=Q) (g:=l.toArray.size - n) (fun listed a' w' hL=>by
  have:=wpAny_of_seq (md:=.any) (Q':=Q) (l.drop n) n listed a' w' (fun j=>by simp [List.getElem?_drop]) (by rw[hdl];exact hL.1) hL.2
  rwa [hdl] at this) _ _ _ _ _ H
 rw[show n+(l.toArray.size - n)=l.toArray.size by omega] at this
 exact this
theorem Ac1 {Q Q':Act→World→Prop} (hq:∀a w,Q a w→Q' a w):∀(p:Pl) (C:World→Prop) (a:Act) (w:World),Cp P ops Q p C a w→Cp P ops Q' p C a w:=by
 intro p
 have wr:∀(i:Nat) (W W':(World→Prop)→Act→World→Prop),(∀C a w,W C a w→W' C a w)→∀C a w,Ej P ops i W C a w→Ej P ops i W' C a w:=by
  intro i W W' hW C a w h
  unfold Ej at h ⊢
  split
  ·rename_i ho;simp only[ho] at h
  ·rename_i o ho
   simp only[ho] at h
   split
   ·rename_i hw;simp only[hw,if_true] at h;exact Ig (fun a w ⟨C2,h1,h2,h3⟩=>⟨C2,h1,h2,hW _ _ _ h3⟩) h
   ·rename_i hw;simp only[hw] at h;exact hW _ _ _ h
 induction p with
 |nil=>exact fun C a w h=>hq _ _ h
 |rd i p ih=>
  intro C a w h
  unfold Cp at h ⊢
  split
  ·rename_i ho;simp only[ho] at h
  ·rename_i o ho
   simp only[ho] at h
   split
   ·rename_i hw;simp only[hw,if_true] at h;obtain⟨v,h1,h2⟩:=h;exact⟨v,h1,ih _ _ _ h2⟩
   ·rename_i hw;simp only[hw] at h;exact ih _ _ _ h
 |wr i p ih=>exact fun C a w h=>wr i _ _ ih C a w h
 |fk i p j q ih1 ih2=>exact fun C a w h=>⟨wr i _ _ ih1 C a w h.1,wr j _ _ ih2 C a w h.2⟩
 |f3 i p j q k r ih1 ih2 ih3=>exact fun C a w h=>⟨wr i _ _ ih1 C a w h.1,wr j _ _ ih2 C a w h.2.1,wr k _ _ ih3 C a w h.2.2⟩
end
theorem Mq {P:Program} {w0:World} {ow:Nat→Prop} {n id:Nat} {ops:List Oper} {s:S} {K:Exit→S→Prop} (m:Nat) (G:List Nat) (k:Nat) (p:Pl) (s1:S) (hm:P.follows .mixedOrders=true) (hB:Sf .any ops.toArray k p=true)
  (hml:m≤s.hp.length) (h:C7 P w0 ow n m G ops (fun s'=>Fh w0 ow n s' s1) p s) (hk:Ai P w0 ow n ops (ops.drop k) s1 (K .normal)):Ao P w0 ow n id ops s K:=by
 rintro a w ⟨γ,hf⟩
 refine Ac0 k p hm hB (fun x=>Sat w0 ow γ (Bl m G s.hp) x) fun w2 hd=>?_
 have hf2:=Fits.drawn hf hd.out
 refine⟨hf2.sat.vis hml,Ac1 (fun a' w' hq=>?_) _ _ _ _ (Gu p s γ a w2 h hf2 hml)⟩
 obtain⟨s',h1,h2⟩:=hq
 refine Jk (fun e a'' w'' hq=>?_) _ _ _ (C4 _ s1 a' w' hk (h2 _ _ h1))
 obtain⟨rfl,s'',h3,h4⟩:=hq
 exact⟨s'',h3,h4⟩
end
end Go.Proofs.YtedaafmfjhjfmaaGreatDoor
