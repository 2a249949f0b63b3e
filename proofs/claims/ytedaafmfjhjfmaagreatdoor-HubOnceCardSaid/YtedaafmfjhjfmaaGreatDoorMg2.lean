import Derived.Test.YtedaafmfjhjfmaaGreatDoorCf1
import Derived.Test.YtedaafmfjhjfmaaGreatDoorDrT
/- slices.Equal, ContainsFunc of numbers; layer 16: msg.may, without. -/
namespace Go.Proofs.YtedaafmfjhjfmaaGreatDoor
open _root_.Go.Proofs.Tryz
open Go.RowKit
set_option linter.unusedSimpArgs false
set_option linter.unusedVariables false
attribute [local irreducible] Ac Ad Ah Au Ao Aj Ai Al
section
variable (a b:List Int) (A:Option Addr) (c:Nat) (A2:Option Addr) (c2:Nat) (w:World) (hm:a.length≤100000) (hR:RdV w w.heap.size A (a.map (Value.int .i64))) (hR2:RdV w w.heap.size A2 (b.map (Value.int .i64)))
include hm hR hR2
set_option maxRecDepth 100000 in
theorem Aut:Calls prog 66 #[.slice A a.length c,.slice A2 b.length c2] w fun e w'=>e=.returned (.bool (decide (a=b)))∧Below w.heap.size w w':=by
 have F:=FM.of hR
 have G:=FM.of hR2
 refine Bf (n:=26) func66 rfl ntmps66 [.x (.a (.v (.slice A a.length c))),.x (.a (.v (.slice A2 b.length c2)))] (by simp) (.x (.a (.v (.bool (decide (a=b)))))) (fun _=>rfl) ?_
 by_cases hl:(a.length:Int)=b.length
 ·simp (maxSteps:=10^6) only[hl,push_cast,↓reduceIte,reduceCtorEq,Nat.reduceEqDiff,Nat.reduceLT]
  refine Bj (ι:=Nat) (fun k=>⟨[(0,.x (.a (.v (.slice A a.length c)))),(1,.x (.a (.v (.slice A2 b.length c2)))),(12,.x (.a (.v (.int .i64 b.length)))),(13,.x (.a (.v (.int .i64 k))))],[]⟩) (fun k=>k≤b.length∧∀j,j < k→ix a j=ix b j) (fun k=>b.length - k) 0 [] ⟨by omega,fun j h=>by omega⟩ ?_ ?_
  ·simp (maxSteps:=10^6) only[push_cast,↓Int.cast_ofNat_Int,Int.cast_ofNat_Int,↓reduceIte,reduceCtorEq,Nat.reduceEqDiff]
  ·rintro k ⟨hk,hj⟩
   by_cases hlt:(k:Int) < b.length
   ·have c0:=F.cell k (by omega)
    have o0:=F.ok k (by omega)
    have d0:=G.cell k (by omega)
    have p0:=G.ok k (by omega)
    have hA:=F.some_ (by omega)
    have hA2:=G.some_ (by omega)
    have hla:(k:Int) < a.length:=by omega
    have nx:(k:Int)+1≤9223372036854775807:=by omega
    by_cases he:ix a k=ix b k
    ·simp (maxSteps:=10^6) only[hlt,push_cast,↓reduceIte,reduceCtorEq,Nat.reduceEqDiff,Nat.reduceLT]
     (repeat (refine And.intro (by first|omega|decide) ?_))
     refine B3 [(0,true),(1,true),(2,true),(3,true),(4,true),(5,true),(6,true),(7,true),(8,true)] (by kernel_rfl) (by kernel_rfl) rfl (by kernel_rfl) ?_
     simp (maxSteps:=10^6) only[hlt,hla,c0,o0,d0,p0,hA,hA2,he,nx,push_cast,↓Int.toNat_natCast,↓reduceIte,reduceCtorEq,Nat.reduceEqDiff,Nat.reduceLT,Int.reduceNeg]
     (repeat (refine And.intro (by first|omega|decide) ?_))
     refine Ba (k+1) [] ⟨by omega,fun j h=>?_⟩ (by omega) ?_
     ·by_cases e:j=k
      ·rw[e];exact he
      ·exact hj j (by omega)
     ·simp (maxSteps:=10^6) only[push_cast,↓reduceIte,reduceCtorEq,Nat.reduceEqDiff]
    ·have hne:¬a=b:=fun e=>he (by rw[e])
     simp (maxSteps:=10^6) only[hlt,push_cast,↓reduceIte,reduceCtorEq,Nat.reduceEqDiff,Nat.reduceLT]
     (repeat (refine And.intro (by first|omega|decide) ?_))
     refine B3 [(0,true),(1,true),(2,true),(3,true),(4,true),(5,true),(6,true),(7,true),(8,true)] (by kernel_rfl) (by kernel_rfl) rfl (by kernel_rfl) ?_
     simp (maxSteps:=10^6) only[hlt,hla,c0,o0,d0,p0,hA,hA2,he,hne,push_cast,↓Int.toNat_natCast,↓reduceIte,reduceCtorEq,Nat.reduceEqDiff,Nat.reduceLT]
     all_goals omega
   ·have hab:a=b:=Mn (by omega) fun j h=>hj j (by omega)
    have hd:decide (a=b)=true:=decide_eq_true hab
    simp (maxSteps:=10^6) only[hlt,hd,push_cast,↓reduceIte,reduceCtorEq,Nat.reduceEqDiff,Nat.reduceLT]
 ·have hne:=Mo hl
  simp (maxSteps:=10^6) only[hl,hne,push_cast,↓reduceIte,reduceCtorEq,Nat.reduceEqDiff,Nat.reduceLT]
end
theorem Auu {w0:World} {hp:List Res} {s1 s2:Sv} {a b:List Int} (hm:a.length≤100000) (h1:Bg w0 No hp s1 (a.map (Value.int .i64))) (h2:Bg w0 No hp s2 (b.map (Value.int .i64))):Ad prog w0 No 66 [s1,s2] hp (.x (.a (.v (.bool (decide (a=b)))))) hp:=Bc fun γ w hS=>by
 obtain⟨A,c,e1,b1,q1⟩:=h1 γ w hS
 obtain⟨A2,c2,e2,b2,q2⟩:=h2 γ w hS
 rw[List.length_map] at e1 e2
 show Calls _ _ #[s1.val γ,s2.val γ] w _
 rw[e1,e2]
 exact Aut a b A c A2 c2 w hm q1 q2
section
variable (a b:List UInt64) (A:Option Addr) (c:Nat) (A2:Option Addr) (c2:Nat) (w:World) (hm:a.length≤100000) (hR:RdV w w.heap.size A (a.map vU64)) (hR2:RdV w w.heap.size A2 (b.map vU64))
include hm hR hR2
set_option maxRecDepth 100000 in
theorem Auv:Calls prog 67 #[.slice A a.length c,.slice A2 b.length c2] w fun e w'=>e=.returned (.bool (decide (a=b)))∧Below w.heap.size w w':=by
 have F:=FM.of hR
 have G:=FM.of hR2
 refine Bf (n:=26) func67 rfl ntmps67 [.x (.a (.v (.slice A a.length c))),.x (.a (.v (.slice A2 b.length c2)))] (by simp) (.x (.a (.v (.bool (decide (a=b)))))) (fun _=>rfl) ?_
 by_cases hl:(a.length:Int)=b.length
 ·simp (maxSteps:=10^6) only[hl,push_cast,↓reduceIte,reduceCtorEq,Nat.reduceEqDiff,Nat.reduceLT]
  refine Bj (ι:=Nat) (fun k=>⟨[(0,.x (.a (.v (.slice A a.length c)))),(1,.x (.a (.v (.slice A2 b.length c2)))),(12,.x (.a (.v (.int .i64 b.length)))),(13,.x (.a (.v (.int .i64 k))))],[]⟩) (fun k=>k≤b.length∧∀j,j < k→ix a j=ix b j) (fun k=>b.length - k) 0 [] ⟨by omega,fun j h=>by omega⟩ ?_ ?_
  ·simp (maxSteps:=10^6) only[push_cast,↓Int.cast_ofNat_Int,Int.cast_ofNat_Int,↓reduceIte,reduceCtorEq,Nat.reduceEqDiff]
  ·rintro k ⟨hk,hj⟩
   by_cases hlt:(k:Int) < b.length
   ·have c0:=F.cell k (by omega)
    have o0:=F.ok k (by omega)
    have d0:=G.cell k (by omega)
    have p0:=G.ok k (by omega)
    have hA:=F.some_ (by omega)
    have hA2:=G.some_ (by omega)
    have hla:(k:Int) < a.length:=by omega
    have nx:(k:Int)+1≤9223372036854775807:=by omega
    by_cases he:ix a k=ix b k
    ·simp (maxSteps:=10^6) only[hlt,push_cast,↓reduceIte,reduceCtorEq,Nat.reduceEqDiff,Nat.reduceLT]
     (repeat (refine And.intro (by first|omega|decide) ?_))
     refine B3 [(0,true),(1,true),(2,true),(3,true),(4,true),(5,true),(6,true),(7,true),(8,true)] (by kernel_rfl) (by kernel_rfl) rfl (by kernel_rfl) ?_
     simp (maxSteps:=10^6) only[hlt,hla,c0,o0,d0,p0,hA,hA2,he,nx,push_cast,↓Int.toNat_natCast,↓reduceIte,reduceCtorEq,Nat.reduceEqDiff,Nat.reduceLT,Int.reduceNeg]
     (repeat (refine And.intro (by first|omega|decide) ?_))
     refine Ba (k+1) [] ⟨by omega,fun j h=>?_⟩ (by omega) ?_
     ·by_cases e:j=k
      ·rw[e];exact he
      ·exact hj j (by omega)
     ·simp (maxSteps:=10^6) only[push_cast,↓reduceIte,reduceCtorEq,Nat.reduceEqDiff]
    ·have hne:¬a=b:=fun e=>he (by rw[e])
     simp (maxSteps:=10^6) only[hlt,push_cast,↓reduceIte,reduceCtorEq,Nat.reduceEqDiff,Nat.reduceLT]
     (repeat (refine And.intro (by first|omega|decide) ?_))
     refine B3 [(0,true),(1,true),(2,true),(3,true),(4,true),(5,true),(6,true),(7,true),(8,true)] (by kernel_rfl) (by kernel_rfl) rfl (by kernel_rfl) ?_
     simp (maxSteps:=10^6) only[hlt,hla,c0,o0,d0,p0,hA,hA2,he,hne,push_cast,↓Int.toNat_natCast,↓reduceIte,reduceCtorEq,Nat.reduceEqDiff,Nat.reduceLT]
     all_goals omega
   ·have hab:a=b:=Mn (by omega) fun j h=>hj j (by omega)
    have hd:decide (a=b)=true:=decide_eq_true hab
    simp (maxSteps:=10^6) only[hlt,hd,push_cast,↓reduceIte,reduceCtorEq,Nat.reduceEqDiff,Nat.reduceLT]
 ·have hne:=Mo hl
  simp (maxSteps:=10^6) only[hl,hne,push_cast,↓reduceIte,reduceCtorEq,Nat.reduceEqDiff,Nat.reduceLT]
end
theorem Auw {w0:World} {hp:List Res} {s1 s2:Sv} {a b:List UInt64} (hm:a.length≤100000) (h1:Bg w0 No hp s1 (a.map vU64)) (h2:Bg w0 No hp s2 (b.map vU64)):Ad prog w0 No 67 [s1,s2] hp (.x (.a (.v (.bool (decide (a=b)))))) hp:=Bc fun γ w hS=>by
 obtain⟨A,c,e1,b1,q1⟩:=h1 γ w hS
 obtain⟨A2,c2,e2,b2,q2⟩:=h2 γ w hS
 rw[List.length_map] at e1 e2
 show Calls _ _ #[s1.val γ,s2.val γ] w _
 rw[e1,e2]
 exact Auv a b A c A2 c2 w hm q1 q2
section
variable (a b:List Pr) (A:Option Addr) (c:Nat) (A2:Option Addr) (c2:Nat) (w:World) (hm:a.length≤100000) (hR:RdV w w.heap.size A (pvs a)) (hR2:RdV w w.heap.size A2 (pvs b))
include hm hR hR2
set_option maxRecDepth 100000 in
theorem Aux:Calls prog 68 #[.slice A a.length c,.slice A2 b.length c2] w fun e w'=>e=.returned (.bool (decide (a=b)))∧Below w.heap.size w w':=by
 have F:=FP.of hR
 have G:=FP.of hR2
 refine Bf (n:=26) func68 rfl ntmps68 [.x (.a (.v (.slice A a.length c))),.x (.a (.v (.slice A2 b.length c2)))] (by simp) (.x (.a (.v (.bool (decide (a=b)))))) (fun _=>rfl) ?_
 by_cases hl:(a.length:Int)=b.length
 ·simp (maxSteps:=10^6) only[hl,push_cast,↓reduceIte,reduceCtorEq,Nat.reduceEqDiff,Nat.reduceLT]
  refine Bj (ι:=Nat) (fun k=>⟨[(0,.x (.a (.v (.slice A a.length c)))),(1,.x (.a (.v (.slice A2 b.length c2)))),(12,.x (.a (.v (.int .i64 b.length)))),(13,.x (.a (.v (.int .i64 k))))],[]⟩) (fun k=>k≤b.length∧∀j,j < k→ix a j=ix b j) (fun k=>b.length - k) 0 [] ⟨by omega,fun j h=>by omega⟩ ?_ ?_
  ·simp (maxSteps:=10^6) only[push_cast,↓Int.cast_ofNat_Int,Int.cast_ofNat_Int,↓reduceIte,reduceCtorEq,Nat.reduceEqDiff]
  ·rintro k ⟨hk,hj⟩
   by_cases hlt:(k:Int) < b.length
   ·have c0:=F.c0 k (by omega)
    have c1:=F.c1 k (by omega)
    have o0:=F.ok0 k (by omega)
    have o1:=F.ok1 k (by omega)
    have d0:=G.c0 k (by omega)
    have d1:=G.c1 k (by omega)
    have p0:=G.ok0 k (by omega)
    have p1:=G.ok1 k (by omega)
    have hA:=F.some_ (by omega)
    have hA2:=G.some_ (by omega)
    have hla:(k:Int) < a.length:=by omega
    have nx:(k:Int)+1≤9223372036854775807:=by omega
    have hn64:∀x y:UInt64,(n64 x=n64 y)=(x=y):=fun x y=>propext ⟨fun h=>UInt64.toNat_inj.1 (Int.ofNat_inj.1 h),fun h=>by rw[h]⟩
    by_cases he:ix a k=ix b k
    ·simp (maxSteps:=10^6) only[hlt,push_cast,↓reduceIte,reduceCtorEq,Nat.reduceEqDiff,Nat.reduceLT]
     (repeat (refine And.intro (by first|omega|decide) ?_))
     refine B3 [(0,true),(1,true),(2,true),(3,true),(4,true),(5,true),(6,true),(7,true),(8,true)] (by kernel_rfl) (by kernel_rfl) rfl (by kernel_rfl) ?_
     simp (maxSteps:=10^6) only[hlt,hla,c0,o0,d0,p0,c1,o1,d1,p1,hA,hA2,he,nx,Ce,Cq,Bp,push_cast,↓Int.toNat_natCast,↓reduceIte,reduceCtorEq,Nat.reduceEqDiff,Nat.reduceLT,Int.reduceNeg]
     (repeat (refine And.intro (by first|omega|decide) ?_))
     refine Ba (k+1) [] ⟨by omega,fun j h=>?_⟩ (by omega) ?_
     ·by_cases e:j=k
      ·rw[e];exact he
      ·exact hj j (by omega)
     ·simp (maxSteps:=10^6) only[push_cast,↓reduceIte,reduceCtorEq,Nat.reduceEqDiff]
    ·have hne:¬a=b:=fun e=>he (by rw[e])
     have he2:¬((ix a k).1=(ix b k).1∧(ix a k).2=(ix b k).2):=fun e=>he (Prod.ext e.1 e.2)
     simp (maxSteps:=10^6) only[hlt,push_cast,↓reduceIte,reduceCtorEq,Nat.reduceEqDiff,Nat.reduceLT]
     (repeat (refine And.intro (by first|omega|decide) ?_))
     refine B3 [(0,true),(1,true),(2,true),(3,true),(4,true),(5,true),(6,true),(7,true),(8,true)] (by kernel_rfl) (by kernel_rfl) rfl (by kernel_rfl) ?_
     by_cases h1:(ix a k).1=(ix b k).1
     ·have h2:¬(ix a k).2=(ix b k).2:=fun e=>he2 ⟨h1,e⟩
      simp (maxSteps:=10^6) only[hlt,hla,c0,o0,d0,p0,c1,o1,d1,p1,hA,hA2,h1,h2,hn64,hne,Ce,Cq,Bp,push_cast,↓Int.toNat_natCast,↓reduceIte,reduceCtorEq,Nat.reduceEqDiff,Nat.reduceLT]
      all_goals first|omega|simp_all
     ·simp (maxSteps:=10^6) only[hlt,hla,c0,o0,d0,p0,c1,o1,d1,p1,hA,hA2,h1,hn64,hne,Ce,Cq,Bp,push_cast,↓Int.toNat_natCast,↓reduceIte,reduceCtorEq,Nat.reduceEqDiff,Nat.reduceLT]
      all_goals first|omega|simp_all
   ·have hab:a=b:=Mn (by omega) fun j h=>hj j (by omega)
    have hd:decide (a=b)=true:=decide_eq_true hab
    simp (maxSteps:=10^6) only[hlt,hd,push_cast,↓reduceIte,reduceCtorEq,Nat.reduceEqDiff,Nat.reduceLT]
 ·have hne:=Mo hl
  simp (maxSteps:=10^6) only[hl,hne,push_cast,↓reduceIte,reduceCtorEq,Nat.reduceEqDiff,Nat.reduceLT]
end
theorem Auy {w0:World} {hp:List Res} {s1 s2:Sv} {a b:List Pr} (hm:a.length≤100000) (h1:Hx w0 No hp s1 a.length (pvs a)) (h2:Hx w0 No hp s2 b.length (pvs b)):Ad prog w0 No 68 [s1,s2] hp (.x (.a (.v (.bool (decide (a=b)))))) hp:=Bc fun γ w hS=>by
 obtain⟨A,c,e1,b1,q1⟩:=h1 γ w hS
 obtain⟨A2,c2,e2,b2,q2⟩:=h2 γ w hS
 show Calls _ _ #[s1.val γ,s2.val γ] w _
 rw[e1,e2]
 exact Aux a b A c A2 c2 w hm q1 q2
section
def He:List UInt64→Nat→Int
 |[],_=>-1
 |x::r,k=>if pm1 < x then (k:Int) else He r (k+1)
theorem Auz (l:List UInt64):∀k,(l.any fun v=>decide (pm1 < v))=decide (0≤He l k):=by
 induction l with
 |nil=>exact fun k=>rfl
 |cons x l ih=>
  intro k
  rw[He,List.any_cons]
  by_cases h:pm1 < x
  ·rw[if_pos h,decide_eq_true h,decide_eq_true (by omega)];rfl
  ·rw[if_neg h,decide_eq_false h,Bool.false_or,ih (k+1)]
attribute [local irreducible] He
set_option maxRecDepth 100000 in
theorem Au0 (v:UInt64) (w:World):Calls prog 148 #[vU64 v] w fun e w'=>e=.returned (.bool (decide (pm1 < v)))∧Below w.heap.size w w':=by
 refine Bf (n:=5) func148 rfl ntmps148 [.x (.a (.v (vU64 v)))] (by simp) (.x (.a (.v (.bool (decide (pm1 < v)))))) (fun _=>rfl) ?_
 simp (maxSteps:=10^6) only[push_cast,↓reduceIte,reduceCtorEq,Nat.reduceLT]
 rfl
theorem Au1 {w0:World} {ow:Nat→Prop} {hp:List Res} (v:UInt64):Ad prog w0 ow 148 [.x (.a (.v (vU64 v)))] hp (.x (.a (.v (.bool (decide (pm1 < v)))))) hp:=Bc fun γ w _=>Au0 v w
set_option maxRecDepth 100000 in
theorem Au2 (l:List UInt64) (A:Option Addr) (c:Nat) (w:World) (hm:l.length≤1000000) (hR:RdV w w.heap.size A (l.map vU64)):
  Calls prog 177 #[.slice A l.length c,.func (.func 148) #[] #[]] w fun e w'=>e=.returned (.int .i64 (He l 0))∧Below w.heap.size w w':=by
 have F:=FM.of hR
 refine Bf (n:=19) func177 rfl ntmps177 [.x (.a (.v (.slice A l.length c))),.f (.func 148) []] (by simp) (.x (.a (.v (.int .i64 (He l 0))))) (fun _=>rfl) ?_
 obtain⟨R,hr⟩:∃R,R=He l 0:=⟨_,rfl⟩
 rw[←hr]
 simp (maxSteps:=10^6) only[push_cast,↓reduceIte,reduceCtorEq,Nat.reduceLT,Int.reduceNeg]
 refine Bj (ι:=Nat) (fun k=>⟨[(0,.x (.a (.v (.slice A l.length c)))),(1,.f (.func 148) []),(7,.x (.a (.v (.int .i64 l.length)))),(8,.x (.a (.v (.int .i64 k))))],[]⟩) (fun k=>k≤l.length∧R=He (l.drop k) k) (fun k=>l.length - k) 0 [] ⟨Nat.zero_le _,hr⟩ ?_ ?_
 ·simp (maxSteps:=10^6) only[push_cast,↓Int.cast_ofNat_Int,Int.cast_ofNat_Int,↓reduceIte,reduceCtorEq,Nat.reduceEqDiff]
 rintro k ⟨hk,hg⟩
 by_cases hlt:(k:Int) < l.length
 ·have hil:k < l.length:=by omega
  have i0:(0:Int)≤k:=by omega
  have c0:=F.cell k hil
  have o0:=F.ok k hil
  have hA:=F.some_ (by omega)
  have hd:l.drop k=ix l k::l.drop (k+1):=by
   rw[List.drop_eq_getElem_cons hil,ix,List.getD_eq_getElem?_getD,List.getElem?_eq_getElem hil];rfl
  rw[hd,He] at hg
  generalize ix l k=x at*
  have nx:(k:Int)+1≤9223372036854775807:=by omega
  simp (maxSteps:=10^6) only[hlt,i0,c0,o0,hA,push_cast,↓Int.toNat_natCast,↓reduceIte,reduceCtorEq,Nat.reduceEqDiff,Nat.reduceLT,Int.reduceNeg]
  (repeat (refine And.intro (by first|omega|decide) ?_))
  refine Abe rfl rfl Apb rfl (Au1 x) (Aa rfl) (fun _=>by simp (maxSteps:=10^6) only[push_cast]) ?_
  by_cases h:pm1 < x
  ·rw[if_pos h] at hg
   simp (maxSteps:=10^6) only[h,hg,push_cast,↓reduceIte,Nat.reduceEqDiff,Nat.reduceLT,Int.reduceNeg]
   done
  ·rw[if_neg h] at hg
   simp (maxSteps:=10^6) only[h,nx,push_cast,↓reduceIte,reduceCtorEq,Nat.reduceEqDiff,Nat.reduceLT,Int.reduceNeg]
   (repeat (refine And.intro (by first|omega|decide) ?_))
   refine Ba (k+1) [] ⟨by omega,hg⟩ (by omega) ?_
   simp (maxSteps:=10^6) only[push_cast,↓reduceIte,reduceCtorEq,Nat.reduceEqDiff]
   done
 ·obtain rfl:k=l.length:=by omega
  rw[List.drop_length,He] at hg
  simp (maxSteps:=10^6) only[hlt,hg,push_cast,↓reduceIte,reduceCtorEq,Nat.reduceEqDiff,Nat.reduceLT,Int.reduceNeg]
  done
set_option maxRecDepth 100000 in
theorem Au3 (l:List UInt64) (A:Option Addr) (c:Nat) (w:World) (hm:l.length≤1000000) (hR:RdV w w.heap.size A (l.map vU64)):
  Calls prog 147 #[.slice A l.length c,.func (.func 148) #[] #[]] w fun e w'=>e=.returned (.bool (l.any fun v=>decide (pm1 < v)))∧Below w.heap.size w w':=by
 refine Bf (n:=9) func147 rfl ntmps147 [.x (.a (.v (.slice A l.length c))),.f (.func 148) []] (by simp) (.x (.a (.v (.bool (l.any fun v=>decide (pm1 < v)))))) (fun _=>rfl) ?_
 have iK:∀hp,Ad prog w No 177 [.x (.a (.v (.slice A l.length c))),.f (.func 148) []] hp (.x (.a (.v (.int .i64 (He l 0))))) hp:=fun hp=>Bc fun γ w' hS=>Au2 l A c w' hm (C5 hR hS)
 have e:=Auz l 0
 rw[e]
 simp (maxSteps:=10^6) only[push_cast,↓reduceIte,reduceCtorEq,Nat.reduceEqDiff,Nat.reduceLT]
 (repeat (refine And.intro (by first|omega|decide) ?_))
 refine Am rfl Apd rfl (iK _) (Aa rfl) ?_
 simp (maxSteps:=10^6) only[push_cast,↓reduceIte,Nat.reduceLT]
 done
end
def chI (c:UInt8):Int:=(c.toNat:Int)
theorem Su:chI 97=97:=rfl
theorem Sw:chI 111=111:=rfl
theorem Sx:chI 99=99:=rfl
theorem Sy:chI 103=103:=rfl
theorem Sz:chI 110=110:=rfl
theorem S0:chI 115=115:=rfl
theorem S1:chI 105=105:=rfl
theorem S2:chI 118=118:=rfl
theorem S3:chI 112=112:=rfl
theorem S4:chI 120=120:=rfl
theorem S5:chI 114=114:=rfl
theorem Dc {c d:UInt8} {n:Int} (h:c=d) (e:chI d=n):(chI c=n)=True:=eq_true (by rw[h];exact e)
theorem Dd {c d:UInt8} {n:Int} (h:¬c=d) (e:chI d=n):(chI c=n)=False:=eq_false fun x=>h (UInt8.toNat_inj.1 (Int.ofNat_inj.1 (x.trans e.symm)))
theorem Au4 {m:MgR} (h:m.sm.length=32):List.take 6 (mgA m)++(List.map f8 (List.replicate 32 0)++List.drop 38 (mgA m))=mgA {m with sm:=List.replicate 32 0}:=by
 unfold mgA mgL
 have e:(m.sm.map f8).length=32:=by rw[List.length_map,h]
 show _++(_++List.drop 32 (m.sm.map f8++_))=_
 rw[List.drop_left' e]
 rfl
theorem Au5 {m:MgR} (h:m.sm.length=32):(mgA m).set 1 (.v (.int .i64 0))=mgA {m with pl:=0}:=by
 unfold mgA mgL
 rfl
theorem Au6 {m:MgR} (h:m.sm.length=32):(mgA m).set 2 (.v (.int .i64 0))=mgA {m with ot:=0}:=by
 unfold mgA mgL
 rfl
theorem Au7 {m:MgR} (h:m.sm.length=32):(mgA m).set 3 (.v (.int .i64 0))=mgA {m with cl:=0}:=by
 unfold mgA mgL
 rfl
theorem Au8 {m:MgR} (h:m.sm.length=32):(mgA m).set 4 (.v (.int .i64 0))=mgA {m with ge:=0}:=by
 unfold mgA mgL
 rfl
theorem Au9 {m:MgR} (h:m.sm.length=32):(mgA m).set 5 (.v (.int .u64 0))=mgA {m with nu:=0}:=by
 unfold mgA mgL
 rfl
theorem Ava {m:MgR} (h:m.sm.length=32):(mgA m).set 38 (.v (.slice none 0 0))=mgA {m with ids:=default}:=by
 unfold mgA mgL
 have e:(m.sm.map f8).length=32:=by rw[List.length_map,h]
 rw[List.set_append_right _ _ (by show 6≤38;decide),List.set_append_right _ _ (by rw[e];show 32≤32;decide),e]
 rfl
theorem Avb {m:MgR} (h:m.sm.length=32):(mgA m).set 39 (.v (.slice none 0 0))=mgA {m with ns:=default}:=by
 unfold mgA mgL
 have e:(m.sm.map f8).length=32:=by rw[List.length_map,h]
 rw[List.set_append_right _ _ (by show 6≤39;decide),List.set_append_right _ _ (by rw[e];show 32≤33;decide),e]
 rfl
theorem Avc {m:MgR} (h:m.sm.length=32):(mgA m).set 40 (.v (.slice none 0 0))=mgA {m with ps:=default}:=by
 unfold mgA mgL
 have e:(m.sm.map f8).length=32:=by rw[List.length_map,h]
 rw[List.set_append_right _ _ (by show 6≤40;decide),List.set_append_right _ _ (by rw[e];show 32≤34;decide),e]
 rfl
theorem Avd {m:MgR} (h:m.sm.length=32):(mgA m).set 41 (.v (.slice none 0 0))=mgA {m with xs:=default}:=by
 unfold mgA mgL
 have e:(m.sm.map f8).length=32:=by rw[List.length_map,h]
 rw[List.set_append_right _ _ (by show 6≤41;decide),List.set_append_right _ _ (by rw[e];show 32≤35;decide),e]
 rfl
theorem Ave {m:MgR} (h:m.sm.length=32):(mgA m).set 42 (.v (.int .i64 0))=mgA {m with re:=0}:=by
 unfold mgA mgL
 have e:(m.sm.map f8).length=32:=by rw[List.length_map,h]
 rw[List.set_append_right _ _ (by show 6≤42;decide),List.set_append_right _ _ (by rw[e];show 32≤36;decide),e]
 rfl
attribute [local irreducible] mgA wiM Bn may chI okV H5
section
set_option maxRecDepth 100000 in
set_option maxHeartbeats 2000000 in
theorem Avf (m:MgR) (c:UInt8) (w:World) (hm:m.Ok w):Calls prog 113 #[.agg (mgV m).toArray,.int .i32 (chI c)] w fun e w'=>e=.returned (.bool (H7 m.mg c))∧Below w.heap.size w w':=by
 have e0:#[.agg (mgV m).toArray,.int .i32 (chI c)]=(List.map (Sv.val []) [.x (.g (mgA m)),.x (.a (.v (.int .i32 (chI c))))]).toArray:=by rw[List.map_cons,Bi];rfl
 rw[e0]
 obtain⟨q,hq⟩:∃q,q=H7 m.mg c:=⟨_,rfl⟩
 rw[←hq]
 refine Bf (n:=66) func113 rfl ntmps113 [.x (.g (mgA m)),.x (.a (.v (.int .i32 (chI c))))] (by simp) (.x (.a (.v (.bool q)))) (fun _=>rfl) ?_
 unfold H7 at hq
 obtain⟨f0,f1,f2,f3,f4,f5,f38,f39,f40,f41,f42⟩:=C8 hm.s
 have fl:=Bd hm.s
 have fb:=fun n=>Bm m n
 simp only[At.bnd] at fb
 have hT:=Gt 1
 have hF:=H8 1
 by_cases h:c=97
 ·rw[if_pos h] at hq
  have g97:=Dc (n:=97) h Su
  simp (maxSteps:=10^6) only[g97,fb,fl,f1,↓Be,undef,push_cast,↓reduceIte,reduceCtorEq,Nat.reduceEqDiff,Nat.reduceLT]
  (repeat (refine And.intro (by first|omega|decide) ?_))
  refine Am rfl N3 rfl (Ot _ _) (Aa rfl) ?_
  have hq:q=wiM m.pl 15:=hq
  simp (maxSteps:=10^6) only[hq,push_cast,↓reduceIte,Nat.reduceLT]
  done
 rw[if_neg h] at hq
 have g97:=Dd (n:=97) h Su
 clear h
 by_cases h:c=111
 ·rw[if_pos h] at hq
  have g111:=Dc (n:=111) h Sw
  simp (maxSteps:=10^6) only[g97,g111,fb,fl,f2,↓Be,undef,push_cast,↓reduceIte,reduceCtorEq,Nat.reduceEqDiff,Nat.reduceLT]
  (repeat (refine And.intro (by first|omega|decide) ?_))
  refine Am rfl N3 rfl (Ot _ _) (Aa rfl) ?_
  have hq:q=wiM m.ot 15:=hq
  simp (maxSteps:=10^6) only[hq,push_cast,↓reduceIte,Nat.reduceLT]
  done
 rw[if_neg h] at hq
 have g111:=Dd (n:=111) h Sw
 clear h
 by_cases h:c=99
 ·rw[if_pos h] at hq
  have g99:=Dc (n:=99) h Sx
  simp (maxSteps:=10^6) only[g97,g111,g99,fb,fl,f3,↓Be,undef,push_cast,↓reduceIte,reduceCtorEq,Nat.reduceEqDiff,Nat.reduceLT]
  (repeat (refine And.intro (by first|omega|decide) ?_))
  refine Am rfl N3 rfl (Ot _ _) (Aa rfl) ?_
  have hq:q=wiM m.cl 63:=hq
  simp (maxSteps:=10^6) only[hq,push_cast,↓reduceIte,Nat.reduceLT]
  done
 rw[if_neg h] at hq
 have g99:=Dd (n:=99) h Sx
 clear h
 by_cases h:c=103
 ·rw[if_pos h] at hq
  have g103:=Dc (n:=103) h Sy
  simp (maxSteps:=10^6) only[g97,g111,g99,g103,fb,fl,f4,↓Be,undef,push_cast,↓reduceIte,reduceCtorEq,Nat.reduceEqDiff,Nat.reduceLT]
  (repeat (refine And.intro (by first|omega|decide) ?_))
  refine Am rfl N3 rfl (Ot _ _) (Aa rfl) ?_
  have hq:q=wiM m.ge 1073741824:=hq
  simp (maxSteps:=10^6) only[hq,push_cast,↓reduceIte,Nat.reduceLT]
  done
 rw[if_neg h] at hq
 have g103:=Dd (n:=103) h Sy
 clear h
 by_cases h:c=110
 ·rw[if_pos h] at hq
  have g110:=Dc (n:=110) h Sz
  have hq:q=decide (m.nu≤2305843009213693950):=hq
  simp (maxSteps:=10^6) only[g97,g111,g99,g103,g110,fb,fl,f5,↓Be,hq,undef,push_cast,↓reduceIte,reduceCtorEq,Nat.reduceEqDiff,Nat.reduceLT]
  done
 rw[if_neg h] at hq
 have g110:=Dd (n:=110) h Sz
 clear h
 by_cases h:c=115
 ·rw[if_pos h] at hq
  have g115:=Dc (n:=115) h S0
  simp (maxSteps:=10^6) only[g97,g111,g99,g103,g110,g115,fb,↓Be,hq,push_cast,↓reduceIte,reduceCtorEq,Nat.reduceEqDiff,Nat.reduceLT]
  done
 rw[if_neg h] at hq
 have g115:=Dd (n:=115) h S0
 clear h
 by_cases h:c=105
 ·rw[if_pos h] at hq
  have g105:=Dc (n:=105) h S1
  simp (maxSteps:=10^6) only[g97,g111,g99,g103,g110,g115,g105,fb,fl,f38,↓Be,SlV.val,undef,push_cast,↓reduceIte,reduceCtorEq,Nat.reduceEqDiff,Nat.reduceLT]
  (repeat (refine And.intro (by first|omega|decide) ?_))
  refine Am rfl Vm rfl (V8 (l:=m.ids.l) (by have:=hm.ids.few;omega) (B4 hm.ids.rd _ _ (by simp) hm.ids.len)) (Aa rfl) ?_
  have hq:q=Bn (-1) m.ids.l:=hq
  cases hk:Bn (-1) m.ids.l with
  |true=>
   rw[hk] at hq
   simp (maxSteps:=10^6) only[hT,hq,push_cast,↓reduceIte,Nat.reduceLT]
   done
  |false=>
   rw[hk] at hq
   simp (maxSteps:=10^6) only[hF,hq,push_cast,↓reduceIte,Nat.reduceLT]
   done
 rw[if_neg h] at hq
 have g105:=Dd (n:=105) h S1
 clear h
 by_cases h:c=118
 ·rw[if_pos h] at hq
  have g118:=Dc (n:=118) h S2
  have hq:q=(decide (m.ns.l.length≤128)&&!(m.ns.l.any fun v=>decide (pm1 < v))):=hq
  by_cases h8:(128:Int) < m.ns.l.length
  ·rw[decide_eq_false (by omega),Bool.false_and] at hq
   simp (maxSteps:=10^6) only[g97,g111,g99,g103,g110,g115,g105,g118,fb,fl,f39,↓Be,SlV.val,h8,hq,undef,push_cast,↓reduceIte,reduceCtorEq,Nat.reduceEqDiff,Nat.reduceLT]
   done
  ·rw[decide_eq_true (by omega),Bool.true_and] at hq
   have cK:∀hp,Ad prog w No 147 [.x (.a (.v (.slice m.ns.A m.ns.l.length m.ns.c))),.x (.a (.v (.func (.func 148) #[] #[])))] hp (.x (.a (.v (.bool (m.ns.l.any fun v=>decide (pm1 < v)))))) hp:=fun hp=>Bc fun γ w' hS=>Au3 m.ns.l m.ns.A m.ns.c w' (by have:=hm.ns.few;omega) (C5 hm.ns.rd hS)
   simp (maxSteps:=10^6) only[g97,g111,g99,g103,g110,g115,g105,g118,fb,fl,f39,↓Be,SlV.val,h8,undef,push_cast,↓reduceIte,reduceCtorEq,Nat.reduceEqDiff,Nat.reduceLT]
   (repeat (refine And.intro (by first|omega|decide) ?_))
   refine Am rfl Apa rfl (cK _) (Aa rfl) ?_
   simp (maxSteps:=10^6) only[hq,push_cast,↓reduceIte,Nat.reduceLT]
   done
 rw[if_neg h] at hq
 have g118:=Dd (n:=118) h S2
 clear h
 by_cases h:c=112
 ·rw[if_pos h] at hq
  have g112:=Dc (n:=112) h S3
  simp (maxSteps:=10^6) only[g97,g111,g99,g103,g110,g115,g105,g118,g112,fb,fl,f40,↓Be,SlV.val,undef,push_cast,↓reduceIte,reduceCtorEq,Nat.reduceEqDiff,Nat.reduceLT]
  (repeat (refine And.intro (by first|omega|decide) ?_))
  refine Am rfl Apc rfl (Aqm (l:=m.ps.l) (Jp hm.ps.rd hm.ps.len)) (Aa rfl) ?_
  have hq:q=may m.ps.l:=hq
  cases hk:may m.ps.l with
  |true=>
   rw[hk] at hq
   have:=Ab3 hk
   simp (maxSteps:=10^6) only[this,hq,push_cast,↓reduceIte,Nat.reduceLT]
   done
  |false=>
   rw[hk] at hq
   have:=Mg hk
   simp (maxSteps:=10^6) only[this,hq,push_cast,↓reduceIte,Nat.reduceLT]
   done
 rw[if_neg h] at hq
 have g112:=Dd (n:=112) h S3
 clear h
 by_cases h:c=120
 ·rw[if_pos h] at hq
  have g120:=Dc (n:=120) h S4
  have hq:q=decide (m.xs.l.length≤32):=hq
  rw[show decide (m.xs.l.length≤32)=decide ((m.xs.l.length:Int)≤32) from decide_eq_decide.2 (by omega)] at hq
  simp (maxSteps:=10^6) only[g97,g111,g99,g103,g110,g115,g105,g118,g112,g120,fb,fl,f41,↓Be,SlV.val,hq,undef,push_cast,↓reduceIte,reduceCtorEq,Nat.reduceEqDiff,Nat.reduceLT]
  done
 rw[if_neg h] at hq
 have g120:=Dd (n:=120) h S4
 clear h
 by_cases h:c=114
 ·rw[if_pos h] at hq
  have g114:=Dc (n:=114) h S5
  simp (maxSteps:=10^6) only[g97,g111,g99,g103,g110,g115,g105,g118,g112,g120,g114,fb,fl,f42,↓Be,undef,push_cast,↓reduceIte,reduceCtorEq,Nat.reduceEqDiff,Nat.reduceLT]
  (repeat (refine And.intro (by first|omega|decide) ?_))
  refine Am rfl N3 rfl (Ot _ _) (Aa rfl) ?_
  have hq:q=wiM m.re 255:=hq
  simp (maxSteps:=10^6) only[hq,push_cast,↓reduceIte,Nat.reduceLT]
  done
 rw[if_neg h] at hq
 have g114:=Dd (n:=114) h S5
 clear h
 simp (maxSteps:=10^6) only[g97,g111,g99,g103,g110,g115,g105,g118,g112,g120,g114,fb,↓Be,hq,push_cast,↓reduceIte,reduceCtorEq,Nat.reduceEqDiff,Nat.reduceLT]
 done
theorem Avg {w0:World} {hp:List Res} {s:Sv} {m:MgS} (c:UInt8) (h:Oq w0 hp s m):Ad prog w0 No 113 [s,.x (.a (.v (.int .i32 (chI c))))] hp (.x (.a (.v (.bool (H7 m c))))) hp:=Bc fun γ w hS=>by
 obtain⟨a,e,h1,rfl⟩:=h γ w hS
 show Calls _ _ #[s.val γ,_] w _
 rw[e]
 exact Avf a c w h1
def I8 (m:MgR) (c:UInt8):MgR:=
 if c=97 then {m with pl:=0} else
 if c=111 then {m with ot:=0} else
 if c=99 then {m with cl:=0} else
 if c=103 then {m with ge:=0} else
 if c=110 then {m with nu:=0} else
 if c=115 then {m with sm:=List.replicate 32 0} else
 if c=105 then {m with ids:=default} else
 if c=118 then {m with ns:=default} else
 if c=112 then {m with ps:=default} else
 if c=120 then {m with xs:=default} else
 if c=114 then {m with re:=0} else
 m
theorem Avh (m:MgR) (c:UInt8):(I8 m c).mg=K3 m.mg c:=by
 unfold I8 K3
 by_cases h:c=97
 ·simp only[if_pos h];rfl
 simp only[if_neg h]
 by_cases h:c=111
 ·simp only[if_pos h];rfl
 simp only[if_neg h]
 by_cases h:c=99
 ·simp only[if_pos h];rfl
 simp only[if_neg h]
 by_cases h:c=103
 ·simp only[if_pos h];rfl
 simp only[if_neg h]
 by_cases h:c=110
 ·simp only[if_pos h];rfl
 simp only[if_neg h]
 by_cases h:c=115
 ·simp only[if_pos h];rfl
 simp only[if_neg h]
 by_cases h:c=105
 ·simp only[if_pos h];rfl
 simp only[if_neg h]
 by_cases h:c=118
 ·simp only[if_pos h];rfl
 simp only[if_neg h]
 by_cases h:c=112
 ·simp only[if_pos h];rfl
 simp only[if_neg h]
 by_cases h:c=120
 ·simp only[if_pos h];rfl
 simp only[if_neg h]
 by_cases h:c=114
 ·simp only[if_pos h];rfl
 simp only[if_neg h]
theorem SlV.ok0 {α:Type} {w:World} {vs:List Value} (hv:vs=[]):(default:SlV α).Ok vs w:=⟨Nat.le_refl _,Nat.zero_le _,by rw[hv];exact RdV.nil_⟩
theorem Avi {m:MgR} {w:World} (h:m.Ok w) (c:UInt8):(I8 m c).Ok w:=by
 unfold I8
 by_cases h1:c=97
 ·simp only[if_pos h1];exact⟨h.s,h.ids,h.ns,h.ps,h.xs⟩
 simp only[if_neg h1]
 by_cases h1:c=111
 ·simp only[if_pos h1];exact⟨h.s,h.ids,h.ns,h.ps,h.xs⟩
 simp only[if_neg h1]
 by_cases h1:c=99
 ·simp only[if_pos h1];exact⟨h.s,h.ids,h.ns,h.ps,h.xs⟩
 simp only[if_neg h1]
 by_cases h1:c=103
 ·simp only[if_pos h1];exact⟨h.s,h.ids,h.ns,h.ps,h.xs⟩
 simp only[if_neg h1]
 by_cases h1:c=110
 ·simp only[if_pos h1];exact⟨h.s,h.ids,h.ns,h.ps,h.xs⟩
 simp only[if_neg h1]
 by_cases h1:c=115
 ·simp only[if_pos h1];exact⟨rfl,h.ids,h.ns,h.ps,h.xs⟩
 simp only[if_neg h1]
 by_cases h1:c=105
 ·simp only[if_pos h1];exact⟨h.s,SlV.ok0 rfl,h.ns,h.ps,h.xs⟩
 simp only[if_neg h1]
 by_cases h1:c=118
 ·simp only[if_pos h1];exact⟨h.s,h.ids,SlV.ok0 rfl,h.ps,h.xs⟩
 simp only[if_neg h1]
 by_cases h1:c=112
 ·simp only[if_pos h1];exact⟨h.s,h.ids,h.ns,SlV.ok0 rfl,h.xs⟩
 simp only[if_neg h1]
 by_cases h1:c=120
 ·simp only[if_pos h1];exact⟨h.s,h.ids,h.ns,h.ps,SlV.ok0 rfl⟩
 simp only[if_neg h1]
 by_cases h1:c=114
 ·simp only[if_pos h1];exact⟨h.s,h.ids,h.ns,h.ps,h.xs⟩
 simp only[if_neg h1]
 exact h
set_option maxRecDepth 100000 in
set_option maxHeartbeats 2000000 in
theorem Avj (m:MgR) (c:UInt8) (w:World) (hm:m.Ok w):Calls prog 114 (List.map (Sv.val []) [.x (.g (mgA m)),.x (.a (.v (.int .i32 (chI c))))]).toArray w fun e w'=>e=.returned ((Sv.x (.g (mgA (I8 m c)))).val [])∧Below w.heap.size w w':=by
 obtain⟨q,hq⟩:∃q,q=I8 m c:=⟨_,rfl⟩
 rw[←hq]
 refine Bf (n:=41) func114 rfl ntmps114 [.x (.g (mgA m)),.x (.a (.v (.int .i32 (chI c))))] (by simp) (.x (.g (mgA q))) (fun γ=>Sa q γ []) ?_
 unfold I8 at hq
 obtain⟨f0,f1,f2,f3,f4,f5,f38,f39,f40,f41,f42⟩:=C8 hm.s
 have fl:=Bd hm.s
 have fb:=fun n=>Bm m n
 have ql:∀a:MgR,a.sm.length=32→(mgA a).length=43:=fun a h=>Bd h
 have qb:=fun (a:MgR) n=>Bm a n
 simp only[At.bnd] at fb qb
 by_cases h:c=97
 ·rw[if_pos h] at hq
  have g97:=Dc (n:=97) h Su
  have st:=Au5 hm.s
  rw[←hq] at st
  have sl:=ql q (by rw[hq];exact hm.s)
  simp (maxSteps:=10^6) only[g97,fb,fl,↓Be,st,sl,Bo,Br,B0,undef,push_cast,↓reduceIte,reduceCtorEq,Nat.reduceEqDiff,Nat.reduceLT,Nat.reduceAdd]
  exact⟨of_eq_true B9,of_eq_true (mgA_one _ _)⟩
 rw[if_neg h] at hq
 have g97:=Dd (n:=97) h Su
 clear h
 by_cases h:c=111
 ·rw[if_pos h] at hq
  have g111:=Dc (n:=111) h Sw
  have st:=Au6 hm.s
  rw[←hq] at st
  have sl:=ql q (by rw[hq];exact hm.s)
  simp (maxSteps:=10^6) only[g97,g111,fb,fl,↓Be,st,sl,Bo,Br,B0,undef,push_cast,↓reduceIte,reduceCtorEq,Nat.reduceEqDiff,Nat.reduceLT,Nat.reduceAdd]
  exact⟨of_eq_true B9,of_eq_true (mgA_one _ _)⟩
 rw[if_neg h] at hq
 have g111:=Dd (n:=111) h Sw
 clear h
 by_cases h:c=99
 ·rw[if_pos h] at hq
  have g99:=Dc (n:=99) h Sx
  have st:=Au7 hm.s
  rw[←hq] at st
  have sl:=ql q (by rw[hq];exact hm.s)
  simp (maxSteps:=10^6) only[g97,g111,g99,fb,fl,↓Be,st,sl,Bo,Br,B0,undef,push_cast,↓reduceIte,reduceCtorEq,Nat.reduceEqDiff,Nat.reduceLT,Nat.reduceAdd]
  exact⟨of_eq_true B9,of_eq_true (mgA_one _ _)⟩
 rw[if_neg h] at hq
 have g99:=Dd (n:=99) h Sx
 clear h
 by_cases h:c=103
 ·rw[if_pos h] at hq
  have g103:=Dc (n:=103) h Sy
  have st:=Au8 hm.s
  rw[←hq] at st
  have sl:=ql q (by rw[hq];exact hm.s)
  simp (maxSteps:=10^6) only[g97,g111,g99,g103,fb,fl,↓Be,st,sl,Bo,Br,B0,undef,push_cast,↓reduceIte,reduceCtorEq,Nat.reduceEqDiff,Nat.reduceLT,Nat.reduceAdd]
  exact⟨of_eq_true B9,of_eq_true (mgA_one _ _)⟩
 rw[if_neg h] at hq
 have g103:=Dd (n:=103) h Sy
 clear h
 by_cases h:c=110
 ·rw[if_pos h] at hq
  have g110:=Dc (n:=110) h Sz
  have st:=Au9 hm.s
  rw[←hq] at st
  have sl:=ql q (by rw[hq];exact hm.s)
  simp (maxSteps:=10^6) only[g97,g111,g99,g103,g110,fb,fl,↓Be,st,sl,Bo,Br,B0,undef,push_cast,↓reduceIte,reduceCtorEq,Nat.reduceEqDiff,Nat.reduceLT,Nat.reduceAdd]
  exact⟨of_eq_true B9,of_eq_true (mgA_one _ _)⟩
 rw[if_neg h] at hq
 have g110:=Dd (n:=110) h Sz
 clear h
 by_cases h:c=115
 ·rw[if_pos h] at hq
  have g115:=Dc (n:=115) h S0
  have fl6:(List.take 6 (mgA m)).length=6:=by rw[List.length_take,fl];rfl
  have fd5:(List.drop 38 (mgA m)).length=5:=by rw[List.length_drop,fl]
  have st:List.take 6 (mgA m)++(List.map f8 (List.replicate 32 0)++List.drop 38 (mgA m))=mgA {m with sm:=List.replicate 32 0}:=Au4 hm.s
  rw[←hq] at st
  have sl:=ql q (by rw[hq];rfl)
  simp (maxSteps:=10^6) only[g97,g111,g99,g103,g110,g115,fb,fl,↓Be,st,sl,Bo,Br,B0,undef,push_cast,↓reduceIte,reduceCtorEq,Nat.reduceEqDiff,Nat.reduceLT,Nat.reduceLeDiff,Nat.reduceAdd]
  exact⟨of_eq_true B9,of_eq_true (mgA_one _ _)⟩
 rw[if_neg h] at hq
 have g115:=Dd (n:=115) h S0
 clear h
 by_cases h:c=105
 ·rw[if_pos h] at hq
  have g105:=Dc (n:=105) h S1
  have st:=Ava hm.s
  rw[←hq] at st
  have sl:=ql q (by rw[hq];exact hm.s)
  simp (maxSteps:=10^6) only[g97,g111,g99,g103,g110,g115,g105,fb,fl,↓Be,st,sl,Bo,Br,B0,undef,push_cast,↓reduceIte,reduceCtorEq,Nat.reduceEqDiff,Nat.reduceLT,Nat.reduceAdd]
  exact⟨of_eq_true B9,of_eq_true (mgA_one _ _)⟩
 rw[if_neg h] at hq
 have g105:=Dd (n:=105) h S1
 clear h
 by_cases h:c=118
 ·rw[if_pos h] at hq
  have g118:=Dc (n:=118) h S2
  have st:=Avb hm.s
  rw[←hq] at st
  have sl:=ql q (by rw[hq];exact hm.s)
  simp (maxSteps:=10^6) only[g97,g111,g99,g103,g110,g115,g105,g118,fb,fl,↓Be,st,sl,Bo,Br,B0,undef,push_cast,↓reduceIte,reduceCtorEq,Nat.reduceEqDiff,Nat.reduceLT,Nat.reduceAdd]
  exact⟨of_eq_true B9,of_eq_true (mgA_one _ _)⟩
 rw[if_neg h] at hq
 have g118:=Dd (n:=118) h S2
 clear h
 by_cases h:c=112
 ·rw[if_pos h] at hq
  have g112:=Dc (n:=112) h S3
  have st:=Avc hm.s
  rw[←hq] at st
  have sl:=ql q (by rw[hq];exact hm.s)
  simp (maxSteps:=10^6) only[g97,g111,g99,g103,g110,g115,g105,g118,g112,fb,fl,↓Be,st,sl,Bo,Br,B0,undef,push_cast,↓reduceIte,reduceCtorEq,Nat.reduceEqDiff,Nat.reduceLT,Nat.reduceAdd]
  exact⟨of_eq_true B9,of_eq_true (mgA_one _ _)⟩
 rw[if_neg h] at hq
 have g112:=Dd (n:=112) h S3
 clear h
 by_cases h:c=120
 ·rw[if_pos h] at hq
  have g120:=Dc (n:=120) h S4
  have st:=Avd hm.s
  rw[←hq] at st
  have sl:=ql q (by rw[hq];exact hm.s)
  simp (maxSteps:=10^6) only[g97,g111,g99,g103,g110,g115,g105,g118,g112,g120,fb,fl,↓Be,st,sl,Bo,Br,B0,undef,push_cast,↓reduceIte,reduceCtorEq,Nat.reduceEqDiff,Nat.reduceLT,Nat.reduceAdd]
  exact⟨of_eq_true B9,of_eq_true (mgA_one _ _)⟩
 rw[if_neg h] at hq
 have g120:=Dd (n:=120) h S4
 clear h
 by_cases h:c=114
 ·rw[if_pos h] at hq
  have g114:=Dc (n:=114) h S5
  have st:=Ave hm.s
  rw[←hq] at st
  have sl:=ql q (by rw[hq];exact hm.s)
  simp (maxSteps:=10^6) only[g97,g111,g99,g103,g110,g115,g105,g118,g112,g120,g114,fb,fl,↓Be,st,sl,Bo,Br,B0,undef,push_cast,↓reduceIte,reduceCtorEq,Nat.reduceEqDiff,Nat.reduceLT,Nat.reduceAdd]
  exact⟨of_eq_true B9,of_eq_true (mgA_one _ _)⟩
 rw[if_neg h] at hq
 have g114:=Dd (n:=114) h S5
 clear h
 subst hq
 simp (maxSteps:=10^6) only[g97,g111,g99,g103,g110,g115,g105,g118,g112,g120,g114,fb,fl,↓Be,Bo,Br,B0,undef,push_cast,↓reduceIte,reduceCtorEq,Nat.reduceEqDiff,Nat.reduceLT,Nat.reduceAdd]
 exact⟨of_eq_true B9,of_eq_true (mgA_one _ _)⟩
theorem Avk {w0:World} {hp:List Res} {m:MgR} (c:UInt8) (h:m.Ok w0):Ad prog w0 No 114 [.x (.g (mgA m)),.x (.a (.v (.int .i32 (chI c))))] hp (.x (.g (mgA (I8 m c)))) hp:=Bc fun γ w hS=>by
 rw[Sa _ γ []]
 have e:List.map (Sv.val γ) [.x (.g (mgA m)),.x (.a (.v (.int .i32 (chI c))))]=List.map (Sv.val []) [.x (.g (mgA m)),.x (.a (.v (.int .i32 (chI c))))]:=by rw[List.map_cons,Sa m γ []];rfl
 rw[e]
 exact Avj m c w (h.later hS)
end
end Go.Proofs.YtedaafmfjhjfmaaGreatDoor
