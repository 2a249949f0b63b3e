import Derived.Test.YtiaeollemmkclaaDoorShA
import Derived.Test.YtiaeollemmkclaaDoorTy
/- Are two rows of numbers the same: by the library, the program and the document. -/
namespace Go.Proofs.YtiaeollemmkclaaDoor
open Go.RowKit
set_option linter.unusedSimpArgs false
theorem Pb {α:Type} [Inhabited α] {a b:List α} (hl:a.length=b.length) (h:∀j,j < a.length→ix a j=ix b j):a=b:=by
 apply List.ext_getElem hl
 intro i h1 h2
 have:=h i h1
 simpa [ix,List.getD_eq_getElem?_getD,List.getElem?_eq_getElem h1,List.getElem?_eq_getElem h2] using this
theorem Pc {α:Type} {a b:List α} (h:¬((a.length:Int)=b.length)):¬a=b:=fun e=>h (by rw[e])
section
variable (a b:List UInt32) (A:Option Addr) (c:Nat) (A2:Option Addr) (c2:Nat) (w:World) (hm:a.length≤100000) (hR:RdV w w.heap.size A (a.map Ap)) (hR2:RdV w w.heap.size A2 (b.map Ap))
include hm hR hR2
set_option maxRecDepth 100000 in
theorem A2u:Calls Tryd.prog 99 #[.slice A a.length c,.slice A2 b.length c2] w fun e w'=>e=.returned (.bool (decide (a=b)))∧Below w.heap.size w w':=by
 have F:=F32.of (FV.no hR)
 have G:=F32.of (FV.no hR2)
 refine By (n:=26) Tryd.func99 rfl Tryd.ntmps99 [.x (.a (.v (.slice A a.length c))),.x (.a (.v (.slice A2 b.length c2)))] (by simp) (.x (.a (.v (.bool (decide (a=b)))))) (fun _=>rfl) ?_
 by_cases hl:(a.length:Int)=b.length
 ·simp only[hl,push_cast,↓reduceIte,reduceCtorEq,Nat.reduceEqDiff,Nat.reduceLT]
  refine Bu (ι:=Nat) (fun k=>⟨[(0,.x (.a (.v (.slice A a.length c)))),(1,.x (.a (.v (.slice A2 b.length c2)))),(12,.x (.a (.v (.int .i64 b.length)))),(13,.x (.a (.v (.int .i64 k))))],[]⟩) (fun k=>k≤b.length∧∀j,j < k→ix a j=ix b j) (fun k=>b.length - k) 0 [] ⟨by omega,fun j h=>by omega⟩ ?_ ?_
  ·simp only[push_cast,↓Int.cast_ofNat_Int,Int.cast_ofNat_Int,↓reduceIte,reduceCtorEq,Nat.reduceEqDiff]
  ·rintro k ⟨hk,hj⟩
   by_cases hlt:(k:Int) < b.length
   ·have c0:=F.cell k (by omega)
    have o0:=F.ok k (by omega)
    have d0:=G.cell k (by omega)
    have p0:=G.ok k (by omega)
    have hA:=F.some_ (by omega)
    have hA2:=G.some_ (by omega)
    have hla:(k:Int) < a.length:=by omega
    by_cases he:ix a k=ix b k
    ·simp only[hlt,push_cast,↓reduceIte,reduceCtorEq,Nat.reduceEqDiff,Nat.reduceLT]
     (repeat (refine And.intro (by first|omega|decide) ?_))
     refine Ew [(0,true),(1,true),(2,true),(3,true),(4,true),(5,true),(6,true),(7,true),(8,true)] (by kernel_rfl) (by kernel_rfl) rfl (by kernel_rfl) ?_
     simp only[hlt,hla,c0,o0,d0,p0,hA,hA2,he,push_cast,↓Int.toNat_natCast,↓reduceIte,reduceCtorEq,Nat.reduceEqDiff,Nat.reduceLT,Int.reduceNeg]
     (repeat (refine And.intro (by first|omega|decide) ?_))
     refine Bd (k+1) [] ⟨by omega,fun j h=>?_⟩ (by omega) ?_
     ·by_cases e:j=k
      ·rw[e];exact he
      ·exact hj j (by omega)
     ·simp only[push_cast,↓reduceIte,reduceCtorEq,Nat.reduceEqDiff]
    ·have hne:¬a=b:=fun e=>he (by rw[e])
     simp only[hlt,push_cast,↓reduceIte,reduceCtorEq,Nat.reduceEqDiff,Nat.reduceLT]
     (repeat (refine And.intro (by first|omega|decide) ?_))
     refine Ew [(0,true),(1,true),(2,true),(3,true),(4,true),(5,true),(6,true),(7,true),(8,true)] (by kernel_rfl) (by kernel_rfl) rfl (by kernel_rfl) ?_
     simp only[hlt,hla,c0,o0,d0,p0,hA,hA2,he,hne,push_cast,↓Int.toNat_natCast,↓reduceIte,reduceCtorEq,Nat.reduceEqDiff,Nat.reduceLT]
     all_goals omega
   ·have hab:a=b:=Pb (by omega) fun j h=>hj j (by omega)
    have hd:decide (a=b)=true:=decide_eq_true hab
    simp only[hlt,hd,push_cast,↓reduceIte,reduceCtorEq,Nat.reduceEqDiff,Nat.reduceLT]
 ·have hne:=Pc hl
  simp only[hl,hne,push_cast,↓reduceIte,reduceCtorEq,Nat.reduceEqDiff,Nat.reduceLT]
set_option maxRecDepth 100000 in
theorem A2v:Calls Tryd.prog 71 #[.slice A a.length c,.slice A2 b.length c2] w fun e w'=>e=.returned (.bool (decide (a=b)))∧Below w.heap.size w w':=by
 have F:=F32.of (FV.no hR)
 have G:=F32.of (FV.no hR2)
 refine By (n:=26) Tryd.func71 rfl Tryd.ntmps71 [.x (.a (.v (.slice A a.length c))),.x (.a (.v (.slice A2 b.length c2)))] (by simp) (.x (.a (.v (.bool (decide (a=b)))))) (fun _=>rfl) ?_
 by_cases hl:(a.length:Int)=b.length
 ·simp only[hl,push_cast,↓reduceIte,reduceCtorEq,Nat.reduceEqDiff,Nat.reduceLT]
  refine Bu (ι:=Nat) (fun k=>⟨[(0,.x (.a (.v (.slice A a.length c)))),(1,.x (.a (.v (.slice A2 b.length c2)))),(5,.x (.a (.v (.int .i64 k))))],[]⟩) (fun k=>k≤b.length∧∀j,j < k→ix a j=ix b j) (fun k=>b.length - k) 0 [] ⟨by omega,fun j h=>by omega⟩ ?_ ?_
  ·simp only[push_cast,↓Int.cast_ofNat_Int,Int.cast_ofNat_Int,↓reduceIte,reduceCtorEq,Nat.reduceEqDiff]
  ·rintro k ⟨hk,hj⟩
   by_cases hlt:(k:Int) < a.length
   ·have c0:=F.cell k (by omega)
    have o0:=F.ok k (by omega)
    have d0:=G.cell k (by omega)
    have p0:=G.ok k (by omega)
    have hA:=F.some_ (by omega)
    have hA2:=G.some_ (by omega)
    have hlb:(k:Int) < b.length:=by omega
    by_cases he:ix a k=ix b k
    ·simp only[hlt,push_cast,↓reduceIte,reduceCtorEq,Nat.reduceEqDiff,Nat.reduceLT]
     (repeat (refine And.intro (by first|omega|decide) ?_))
     refine Ew [(0,true),(1,true),(2,true),(3,true),(4,true),(5,true),(6,true),(7,true),(8,true)] (by kernel_rfl) (by kernel_rfl) rfl (by kernel_rfl) ?_
     simp only[hlt,hlb,c0,o0,d0,p0,hA,hA2,he,push_cast,↓Int.toNat_natCast,↓reduceIte,reduceCtorEq,Nat.reduceEqDiff,Nat.reduceLT,Int.reduceNeg]
     (repeat (refine And.intro (by first|omega|decide) ?_))
     refine Bd (k+1) [] ⟨by omega,fun j h=>?_⟩ (by omega) ?_
     ·by_cases e:j=k
      ·rw[e];exact he
      ·exact hj j (by omega)
     ·simp only[push_cast,↓reduceIte,reduceCtorEq,Nat.reduceEqDiff]
    ·have hne:¬a=b:=fun e=>he (by rw[e])
     simp only[hlt,push_cast,↓reduceIte,reduceCtorEq,Nat.reduceEqDiff,Nat.reduceLT]
     (repeat (refine And.intro (by first|omega|decide) ?_))
     refine Ew [(0,true),(1,true),(2,true),(3,true),(4,true),(5,true),(6,true),(7,true),(8,true)] (by kernel_rfl) (by kernel_rfl) rfl (by kernel_rfl) ?_
     simp only[hlt,hlb,c0,o0,d0,p0,hA,hA2,he,hne,push_cast,↓Int.toNat_natCast,↓reduceIte,reduceCtorEq,Nat.reduceEqDiff,Nat.reduceLT]
     all_goals omega
   ·have hab:a=b:=Pb (by omega) fun j h=>hj j (by omega)
    have hd:decide (a=b)=true:=decide_eq_true hab
    simp only[hlt,hd,push_cast,↓reduceIte,reduceCtorEq,Nat.reduceEqDiff,Nat.reduceLT]
 ·have hne:=Pc hl
  simp only[hl,hne,push_cast,↓reduceIte,reduceCtorEq,Nat.reduceEqDiff,Nat.reduceLT]
end
section
variable {w0:World} {hp:List Res} {s1 s2:Sv} {a b:List UInt32}
theorem A2w (hm:a.length≤100000) (h1:Cx w0 No hp s1 (a.map Ap)) (h2:Cx w0 No hp s2 (b.map Ap)):Ad Tryd.prog w0 No 99 [s1,s2] hp (.x (.a (.v (.bool (decide (a=b)))))) hp:=Ca fun γ w hS=>by
 obtain⟨A,c,e1,b1,r1⟩:=h1 γ w hS
 obtain⟨A2,c2,e2,b2,r2⟩:=h2 γ w hS
 rw[List.length_map] at e1 e2
 show Calls _ _ #[s1.val γ,s2.val γ] w _
 rw[e1,e2]
 exact A2u a b A c A2 c2 w hm r1 r2
theorem A2x (hm:a.length≤100000) (h1:Cx w0 No hp s1 (a.map Ap)) (h2:Cx w0 No hp s2 (b.map Ap)):Ad Tryd.prog w0 No 71 [s1,s2] hp (.x (.a (.v (.bool (decide (a=b)))))) hp:=Ca fun γ w hS=>by
 obtain⟨A,c,e1,b1,r1⟩:=h1 γ w hS
 obtain⟨A2,c2,e2,b2,r2⟩:=h2 γ w hS
 rw[List.length_map] at e1 e2
 show Calls _ _ #[s1.val γ,s2.val γ] w _
 rw[e1,e2]
 exact A2v a b A c A2 c2 w hm r1 r2
end
end Go.Proofs.YtiaeollemmkclaaDoor
