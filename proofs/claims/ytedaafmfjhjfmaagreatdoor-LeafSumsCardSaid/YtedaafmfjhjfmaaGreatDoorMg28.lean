import Derived.Test.YtedaafmfjhjfmaaGreatDoorMo
import Derived.Test.YtedaafmfjhjfmaaGreatDoorDrD
import Derived.Test.YtedaafmfjhjfmaaGreatDoorLfG
import Derived.Test.YtedaafmfjhjfmaaGreatDoorPreA
/- Law 28: great, givePeers. -/
namespace Go.Proofs.YtedaafmfjhjfmaaGreatDoor
open Go.RowKit
set_option linter.unusedSimpArgs false
set_option linter.unusedVariables false
structure MgR.Wide (m:MgR) (w:World):Prop where
 s:m.sm.length=32
 ids:m.ids.l.length≤m.ids.c∧RdV w w.heap.size m.ids.A (m.ids.l.map (Value.int .i64))
 ns:m.ns.l.length≤m.ns.c∧RdV w w.heap.size m.ns.A (m.ns.l.map vU64)
 ps:m.ps.l.length≤m.ps.c∧RdV w w.heap.size m.ps.A (pvs m.ps.l)
 xs:m.xs.l.length≤m.xs.c∧RdV w w.heap.size m.xs.A (m.xs.l.map Ak)
def Jw (m:MgS):Bool:=decide (100 < m.ids.length)||(decide (200 < m.ns.length)||(decide (20 < m.ps.length)||decide (100 < m.xs.length)))
theorem A79 {m:MgS} (h:Jw m=false):m.ids.length≤100∧m.ns.length≤200∧m.ps.length≤20∧m.xs.length≤100:=by
 unfold Jw at h
 simp only[Bool.or_eq_false_iff,decide_eq_false_iff_not] at h
 omega
theorem MgR.Wide.ok {m:MgR} {w:World} (h:m.Wide w) (hb:Jw m.mg=false):m.Ok w:=by
 obtain⟨h1,h2,h3,h4⟩:=A79 hb
 have h1:m.ids.l.length≤100:=h1
 have h2:m.ns.l.length≤200:=h2
 have h3:m.ps.l.length≤20:=h3
 have h4:m.xs.l.length≤100:=h4
 exact⟨h.s,⟨h.ids.1,by omega,h.ids.2⟩,⟨h.ns.1,by omega,h.ns.2⟩,⟨h.ps.1,by omega,h.ps.2⟩,⟨h.xs.1,by omega,h.xs.2⟩⟩
attribute [local irreducible] Ah Ai Am Bc A7 Ay Ap A6
attribute [local irreducible] mgA mgO
set_option maxRecDepth 100000 in
theorem A8a (m:MgR) (w:World) (hm:m.Wide w):Calls Tryz.prog 11 (List.map (Sv.val []) [.x (.g (mgA m))]).toArray w fun e w'=>e=.returned (.bool (Jw m.mg))∧Below w.heap.size w w':=by
 obtain⟨f0,f1,f2,f3,f4,f5,f38,f39,f40,f41,f42⟩:=mgA_get hm.s
 have fl:=Aw hm.s
 have fs:=Rc hm.s
 have hfs:=hm.s
 have fb:=fun n=>Ad m n
 have zb:=fun n=>Ad zeroR n
 simp only[At.bnd] at fb zb
 obtain⟨q,hq⟩:∃q,q=Jw m.mg:=⟨_,rfl⟩
 rw[←hq]
 have hq:q=(decide (100 < m.ids.l.length)||(decide (200 < m.ns.l.length)||(decide (20 < m.ps.l.length)||decide (100 < m.xs.l.length)))):=hq
 refine Bm (n:=25) Tryz.func11 rfl Tryz.ntmps11 [.x (.g (mgA m))] (by simp) (.x (.a (.v (.bool q)))) (fun _=>rfl) ?_
 by_cases h1:(100:Int) < m.ids.l.length
 ·rw[decide_eq_true (show 100 < m.ids.l.length by omega),Bool.true_or] at hq
  simp (maxSteps:=10^6) only[fb,fl,f38,↓Bf,SlV.val,h1,hq,undef,push_cast,↓reduceIte,reduceCtorEq,Nat.reduceEqDiff,Nat.reduceLT]
  done
 rw[decide_eq_false (show ¬100 < m.ids.l.length by omega),Bool.false_or] at hq
 by_cases h2:(200:Int) < m.ns.l.length
 ·rw[decide_eq_true (show 200 < m.ns.l.length by omega),Bool.true_or] at hq
  simp (maxSteps:=10^6) only[fb,fl,f38,f39,↓Bf,SlV.val,h1,h2,hq,undef,push_cast,↓reduceIte,reduceCtorEq,Nat.reduceEqDiff,Nat.reduceLT]
  done
 rw[decide_eq_false (show ¬200 < m.ns.l.length by omega),Bool.false_or] at hq
 by_cases h3:(20:Int) < m.ps.l.length
 ·rw[decide_eq_true (show 20 < m.ps.l.length by omega),Bool.true_or] at hq
  simp (maxSteps:=10^6) only[fb,fl,f38,f39,f40,↓Bf,SlV.val,h1,h2,h3,hq,undef,push_cast,↓reduceIte,reduceCtorEq,Nat.reduceEqDiff,Nat.reduceLT]
  done
 rw[decide_eq_false (show ¬20 < m.ps.l.length by omega),Bool.false_or] at hq
 by_cases h4:(100:Int) < m.xs.l.length
 ·rw[decide_eq_true (show 100 < m.xs.l.length by omega)] at hq
  simp (maxSteps:=10^6) only[fb,fl,f38,f39,f40,f41,↓Bf,SlV.val,h1,h2,h3,h4,hq,undef,push_cast,↓reduceIte,reduceCtorEq,Nat.reduceEqDiff,Nat.reduceLT]
  done
 rw[decide_eq_false (show ¬100 < m.xs.l.length by omega)] at hq
 simp (maxSteps:=10^6) only[fb,fl,f38,f39,f40,f41,↓Bf,SlV.val,h1,h2,h3,h4,hq,undef,push_cast,↓reduceIte,reduceCtorEq,Nat.reduceEqDiff,Nat.reduceLT]
 done
set_option maxRecDepth 100000 in
theorem A8b (l:List Pr) (A:Option Addr) (c:Nat) (w:World) (hl:l.length≤1000) (hR:RdV w w.heap.size A (pvs l)):Calls Tryz.prog 54 #[.slice A l.length c] w fun e w'=>∃γ1,e=.returned ((Sv.x (.a (.o 0))).val γ1)∧Sat w No γ1 [.onn 115 2 (.c (pcs l))] w':=by
 have F:=FP.of hR
 refine Jf (n:=19) Tryz.func54 rfl Tryz.ntmps54 [.x (.a (.v (.slice A l.length c)))] (Sat.init w No) (by simp) _ _ ?_
 simp only[push_cast,↓reduceIte,Nat.reduceLT]
 refine U6 3 115 2 (.c []) (by omega) rfl rfl (by simp only[push_cast]) ?_
 refine B9 (ι:=Nat) (fun i=>⟨[(0,.x (.a (.v (.slice A l.length c)))),(3,.x (.a (.o 0))),(4,.x (.a (.v (.int .i64 i))))],[.onn 115 2 (.c (pcs (l.take i)))]⟩) (fun i=>i≤l.length) (fun i=>l.length - i) 0 [0] (by omega) ?_ ?_
 ·simp only[List.take_zero,Q7,push_cast,↓Int.cast_ofNat_Int,Int.cast_ofNat_Int,↓reduceIte,reduceCtorEq,Nat.reduceEqDiff,Nat.reduceLT]
 ·intro i hi
  by_cases hlt:(i:Int) < l.length
  ·have i0:(0:Int)≤i:=by omega
   have c0:=F.c0 i (by omega)
   have c1:=F.c1 i (by omega)
   have o0:=F.ok0 i (by omega)
   have o1:=F.ok1 i (by omega)
   have hA:=F.some_ (by omega)
   have hlen:(l.take i).length=i:=by rw[List.length_take];omega
   have ht:=Azp l i (by omega)
   simp only[hlt,i0,c0,c1,o0,o1,hA,hlen,ht,Bx,Cy,By,push_cast,↓Int.toNat_natCast,↓reduceIte,reduceCtorEq,Nat.reduceEqDiff,Nat.reduceLT,Nat.reduceLeDiff,Nat.reduceAdd,Nat.reduceMul,Int.reduceNeg]
   (repeat (refine And.intro (by first|omega|decide) ?_))
   refine Bv (i+1) [2] (by omega) (by omega) ?_
   simp only[push_cast,↓reduceIte,reduceCtorEq,Nat.reduceEqDiff,Nat.reduceLT]
  ·have e:i=l.length:=by omega
   subst e
   simp only[hlt,List.take_length,push_cast,↓reduceIte,reduceCtorEq,Nat.reduceEqDiff,Nat.reduceLT]
   refine A9 [0] ?_
   simp only[push_cast,↓reduceIte,Nat.reduceLT]
theorem Adb {w0:World} {hp:List Res} {sv:Sv} {l:List Pr} (hl:l.length≤1000) (h:Kl w0 No hp sv l.length (pvs l)) (hbr:∀r∈hp,Res.bnd hp.length r):
  Ai Tryz.prog w0 No 54 [sv] hp (.x (.a (.o hp.length))) (hp++[.onn 115 2 (.c (pcs l))]):=by
 have:=Qv (P:=Tryz.prog) (f:=54) (svs:=[sv]) (w0:=w0) (ow:=No) (sv1:=.x (.a (.o 0))) (hp1:=[.onn 115 2 (.c (pcs l))]) [] hbr (by simp only[push_cast]) (by simp only[push_cast,Nat.reduceLT])
  fun γ w hS=>⟨No,fun b h=>h.elim,by
   obtain⟨A,c,e1,b1,r1⟩:=h γ w hS
   show Calls _ _ #[sv.val γ] w _
   rw[e1]
   exact A8b l A c w hl r1⟩
 simp only[De,Ca,push_cast,↓reduceIte,Nat.reduceLT] at this
 exact this
theorem A8c {w0:World} {hp:List Res} {m:MgR} (hm:m.Wide w0):Ai Tryz.prog w0 No 11 [.x (.g (mgA m))] hp (.x (.a (.v (.bool (Jw m.mg))))) hp:=Bq fun γ w hS=>by
 have h:m.Wide w:=⟨hm.s,⟨hm.ids.1,Dn hm.ids.2 hS⟩,⟨hm.ns.1,Dn hm.ns.2 hS⟩,⟨hm.ps.1,Dn hm.ps.2 hS⟩,⟨hm.xs.1,Dn hm.xs.2 hS⟩⟩
 rw[show List.map (Sv.val γ) [.x (.g (mgA m))]=List.map (Sv.val []) [.x (.g (mgA m))] from by simp only[List.map_cons,List.map_nil,C4]]
 exact A8a m w h
end Go.Proofs.YtedaafmfjhjfmaaGreatDoor
