import Derived.Test.YtedaafmfjhjfmaaGreatDoorCf0
/- Layer 21: conf.within, standing. -/
namespace Go.Proofs.YtedaafmfjhjfmaaGreatDoor
open Go.RowKit
set_option linter.unusedSimpArgs false
set_option linter.unusedVariables false
theorem Azj {n a b:Int} (h:a≤n) (h2:n≤b):wiF n a b=true:=decide_eq_true ⟨h,h2⟩
theorem Azk {n a b:Int} (h:¬a≤n):wiF n a b=false:=decide_eq_false fun e=>h e.1
theorem Azl {n a b:Int} (h:¬n≤b):wiF n a b=false:=decide_eq_false fun e=>h e.2
theorem Z0 {α:Type} [Inhabited α] {l:List α} {i:Nat} {x:α} (h:i < l.length):ix (l.set i x) i=x:=by
 rw[ix,List.getD_eq_getElem?_getD,List.getElem?_set_self h];rfl
theorem Z1 {α:Type} [Inhabited α] {l:List α} {i j:Nat} {x:α} (h:i≠j):ix (l.set i x) j=ix l j:=by
 rw[ix,ix,List.getD_eq_getElem?_getD,List.getD_eq_getElem?_getD,List.getElem?_set_ne h]
theorem Z2 (n j:Nat):ix (List.replicate n (0:Int)) j=0:=by
 rw[ix,List.getD_eq_getElem?_getD,List.getElem?_replicate]
 split<;>rfl
attribute [local irreducible] Ad Ae Ah Ar Ak Am Ai Al
attribute [local irreducible] wiF Ip
section
variable {w0:World} {ow:Nat→Prop} {hp:List Res}
set_option maxRecDepth 100000 in
theorem Azm (n a b:Int) (w:World):Calls Tryz.prog 104 #[.int .i64 n,.int .i64 a,.int .i64 b] w fun e w'=>e=.returned (.bool (wiF n a b))∧Below w.heap.size w w':=by
 refine Ba (n:=15) Tryz.func104 rfl Tryz.ntmps104 [.x (.a (.v (.int .i64 n))),.x (.a (.v (.int .i64 a))),.x (.a (.v (.int .i64 b)))] (by simp) (.x (.a (.v (.bool (wiF n a b))))) (fun _=>rfl) ?_
 by_cases h:a≤n
 ·by_cases h1:n≤b
  ·have hd:=Azj h h1
   simp (maxSteps:=10^6) only[h,h1,hd,push_cast,↓reduceIte,reduceCtorEq,Nat.reduceEqDiff,Nat.reduceLT,Nat.reduceAdd]
   done
  ·have hd:=Azl (a:=a) h1
   simp (maxSteps:=10^6) only[h,h1,hd,push_cast,↓reduceIte,reduceCtorEq,Nat.reduceEqDiff,Nat.reduceLT,Nat.reduceAdd]
   done
 ·have hd:=Azk (b:=b) h
  simp (maxSteps:=10^6) only[h,hd,undef,push_cast,↓reduceIte,reduceCtorEq,Nat.reduceEqDiff,Nat.reduceLT,Nat.reduceAdd]
  done
theorem Gy (n a b:Int):Ae Tryz.prog w0 ow 104 [.x (.a (.v (.int .i64 n))),.x (.a (.v (.int .i64 a))),.x (.a (.v (.int .i64 b)))] hp (.x (.a (.v (.bool (wiF n a b))))) hp:=A8 fun γ w _=>Azm n a b w
set_option maxRecDepth 100000 in
set_option maxHeartbeats 1000000 in
theorem Azn (l:List PlS) (A:Option Addr) (c:Nat) (w:World) (hm:l.length≤1000000) (hR:RdV w w.heap.size A (l.flatMap plV)):
  Calls Tryz.prog 105 #[.slice A l.length c] w fun e w'=>e=.returned (.bool (stF l))∧Below w.heap.size w w':=by
 have F:=FLm.of Jz (by decide) hR
 refine Ba (n:=67) Tryz.func105 rfl Tryz.ntmps105 [.x (.a (.v (.slice A l.length c)))] (by simp) (.x (.a (.v (.bool (stF l))))) (fun _=>rfl) ?_
 obtain⟨q,hq⟩:∃q,q=stF l:=⟨_,rfl⟩
 rw[←hq]
 unfold stF at hq
 simp (maxSteps:=10^6) only[push_cast,↓reduceIte,reduceCtorEq,Nat.reduceLT,Int.reduceNeg]
 (repeat (refine And.intro (by first|omega|decide) ?_))
 refine Aq rfl Gn rfl (Gy _ _ _) (Af rfl) ?_
 cases hw:wiF l.length 2 16 with
 |false=>
  rw[if_neg (by rw[hw];simp)] at hq
  simp (maxSteps:=10^6) only[hq,undef,push_cast,↓reduceIte,Nat.reduceEqDiff,Nat.reduceLT,Int.reduceNeg]
  done
 |true=>
  have hn:=Ml.1 hw
  obtain⟨c0,o0⟩:=F.cell 0 0 _ (by omega) rfl
  obtain⟨c1,o1⟩:=F.cell 0 1 _ (by omega) rfl
  have hA:=F.some_ (by omega)
  rw[Nat.zero_mul,Nat.add_zero,Cm] at c0 o0
  rw[Nat.zero_mul,Nat.zero_add] at c1 o1
  have hl0:(0:Int) < l.length:=by omega
  by_cases h1:(ix l 0).parent=-1
  ·by_cases h2:(ix l 0).spare=0
   ·rw[if_pos ⟨hw,h1,h2⟩] at hq
    have k1:(l.length:Int)≤2 ^ 63 - 1:=by omega
    have k2:l.length≤2 ^ 63 - 1:=by omega
    have k3:l.length*8≤140737488355328:=by omega
    simp (maxSteps:=10^6) only[hl0,Cm,c0,o0,c1,o1,hA,h1,h2,push_cast,↓Int.toNat_natCast,↓Int.cast_ofNat_Int,Int.cast_ofNat_Int,↓reduceIte,reduceCtorEq,Nat.reduceEqDiff,Nat.reduceLT,Nat.reduceMul,Int.reduceNeg,Int.reduceLE]
    (repeat (refine And.intro (by first|omega|decide) ?_))
    refine Bh (ι:=Nat×List Int) (fun x=>⟨[(0,.x (.a (.v (.slice A l.length c)))),(3,.x (.a (.o 0))),(4,.x (.a (.v (.int .i64 (x.1:Nat)))))],[.own 3 (.i64 x.2)]⟩)
     (fun x=>1≤x.1∧x.1≤l.length∧x.2.length=l.length∧(∀j,0≤ix x.2 j∧ix x.2 j < 4)∧q=Ip l (l.length - x.1) x.1 x.2) (fun x=>l.length - x.1) (1,List.replicate l.length 0) [0] ⟨Nat.le_refl _,by omega,by simp,fun j=>by rw[Z2];decide,hq⟩ ?_ ?_
    ·simp (maxSteps:=10^6) only[push_cast,↓Int.cast_ofNat_Int,Int.cast_ofNat_Int,↓reduceIte,reduceCtorEq,Nat.reduceEqDiff,Nat.reduceLT]
    rintro⟨i,ab⟩ ⟨h0,hi,hal,hab,hg⟩
    dsimp only at h0 hi hal hab hg
    by_cases hlt:(i:Int) < l.length
    ·have hil:i < l.length:=by omega
     have i0:(0:Int)≤i:=by omega
     obtain⟨d0,p0⟩:=F.cell i 0 _ hil rfl
     obtain⟨d1,p1⟩:=F.cell i 1 _ hil rfl
     rw[Nat.add_zero] at d0 p0
     have i1:-9223372036854775808≤(i:Int) - 1∧(i:Int) - 1≤9223372036854775807:=by omega
     rw[show l.length - i=(l.length - (i+1))+1 by omega,Ip] at hg
     generalize (ix l i).spare=sp at*
     generalize (ix l i).parent=pa at*
     simp (maxSteps:=10^6) only[hlt,i0,i1,Cm,Bl,d0,p0,hA,push_cast,↓Int.toNat_natCast,↓reduceIte,reduceCtorEq,Nat.reduceEqDiff,Nat.reduceLT,Int.reduceNeg]
     (repeat (refine And.intro (by first|omega|decide) ?_))
     refine Aq rfl Gn rfl (Gy _ _ _) (Af rfl) ?_
     cases hp1:wiF pa 0 ((i:Int) - 1) with
     |false=>
      rw[if_neg (by rw[hp1];simp)] at hg
      simp (maxSteps:=10^6) only[hg,undef,push_cast,↓reduceIte,Nat.reduceEqDiff,Nat.reduceLT]
      done
     |true=>
      simp (maxSteps:=10^6) only[hlt,i0,B4,Bl,d1,p1,hA,push_cast,↓Int.toNat_natCast,↓reduceIte,reduceCtorEq,Nat.reduceEqDiff,Nat.reduceLT]
      (repeat (refine And.intro (by first|omega|decide) ?_))
      refine Aq rfl Gn rfl (Gy _ _ _) (Af rfl) ?_
      cases hp2:wiF sp 0 2 with
      |false=>
       rw[if_neg (by rw[hp2];simp)] at hg
       simp (maxSteps:=10^6) only[hg,push_cast,↓reduceIte,Nat.reduceEqDiff,Nat.reduceLT]
       done
      |true=>
       rw[if_pos ⟨hp1,hp2⟩] at hg
       have hpa:=Ml.1 hp1
       obtain⟨P,hP⟩:∃P:Nat,pa=P:=⟨pa.toNat,by omega⟩
       subst hP
       have P0:(0:Int)≤P:=by omega
       have P1:(P:Int) < ab.length:=by omega
       have I1:(i:Int) < ab.length:=by omega
       have vP:=hab P
       have vP1:-9223372036854775808≤ix ab P+1∧ix ab P+1≤9223372036854775807:=by omega
       have hset:ix (ab.set i (ix ab P+1)) i=ix ab P+1:=Z0 (by omega)
       rw[Int.toNat_natCast] at hg
       by_cases h4:(4:Int)≤ix ab P+1
       ·rw[if_pos h4] at hg
        simp (maxSteps:=10^6) only[hlt,i0,Cm,Bl,d0,p0,hA,P0,P1,I1,vP1,hset,h4,hg,undef,push_cast,↓Int.toNat_natCast,↓reduceIte,reduceCtorEq,Nat.reduceEqDiff,Nat.reduceLT,Int.reduceNeg]
        exact⟨by omega,by omega⟩
       ·rw[if_neg h4] at hg
        simp (maxSteps:=10^6) only[hlt,i0,Cm,Bl,d0,p0,hA,P0,P1,I1,vP1,hset,h4,undef,push_cast,↓Int.toNat_natCast,↓reduceIte,reduceCtorEq,Nat.reduceEqDiff,Nat.reduceLT,Int.reduceNeg]
        (repeat (refine And.intro (by first|omega|decide) ?_))
        refine Be (i+1,ab.set i (ix ab P+1)) [0] ⟨by show 1≤i+1;omega,by show i+1≤l.length;omega,by simp [hal],fun j=>?_,hg⟩ (by show l.length - (i+1) < l.length - i;omega) ?_
        ·by_cases e:i=j
         ·subst e;show 0≤ix (ab.set i _) i∧_ < 4;rw[hset];omega
         ·show 0≤ix (ab.set i _) j∧_ < 4;rw[Z1 e];exact hab j
        ·simp (maxSteps:=10^6) only[push_cast,↓reduceIte,reduceCtorEq,Nat.reduceEqDiff,Nat.reduceLT]
         done
    ·obtain rfl:i=l.length:=by omega
     rw[Nat.sub_self,Ip] at hg
     simp (maxSteps:=10^6) only[hlt,hg,push_cast,↓reduceIte,reduceCtorEq,Nat.reduceEqDiff,Nat.reduceLT]
     done
   ·rw[if_neg (fun e=>h2 e.2.2)] at hq
    simp (maxSteps:=10^6) only[hl0,Cm,c0,o0,c1,o1,hA,h1,h2,hq,push_cast,↓reduceIte,reduceCtorEq,Nat.reduceEqDiff,Nat.reduceLT,Nat.reduceMul,Int.reduceNeg,Int.reduceLE]
    done
  ·rw[if_neg (fun e=>h1 e.2.1)] at hq
   simp (maxSteps:=10^6) only[hl0,Cm,c0,o0,hA,h1,hq,undef,push_cast,↓reduceIte,reduceCtorEq,Nat.reduceEqDiff,Nat.reduceLT,Nat.reduceMul,Int.reduceNeg,Int.reduceLE]
   done
end
end Go.Proofs.YtedaafmfjhjfmaaGreatDoor
