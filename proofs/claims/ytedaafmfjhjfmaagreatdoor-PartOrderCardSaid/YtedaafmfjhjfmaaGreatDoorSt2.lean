import Derived.Test.YtedaafmfjhjfmaaGreatDoorTn0
import Derived.Test.YtedaafmfjhjfmaaGreatDoorShA
import Derived.Test.YtedaafmfjhjfmaaGreatDoorPc
/- Layer 15: sets (set.can, Bits, From, Either, Both, Less, Has, Check). -/
namespace Go.Proofs.YtedaafmfjhjfmaaGreatDoor
open Go.RowKit
set_option linter.unusedSimpArgs false
set_option linter.unusedVariables false
def Jy (n:Int):Bool:=decide (0≤n∧n < 64)
theorem T9 {n:Int} (h:0≤n∧n < 64):Jy n=true:=decide_eq_true h
theorem Py {n:Int} (h:¬(0≤n∧n < 64)):Jy n=false:=decide_eq_false h
attribute [local irreducible] Ad Ae Ah Ar Ak Am Ai Al
attribute [local irreducible] B5 C1 Hf Jy
section
variable {w0:World} {ow:Nat→Prop} {hp:List Res}
set_option maxRecDepth 100000 in
theorem Aym (n:Int) (w:World):Calls Tryz.prog 120 #[.int .i64 n] w fun e w'=>e=.returned (.bool (Jy n))∧Below w.heap.size w w':=by
 refine Ba (n:=9) Tryz.func120 rfl Tryz.ntmps120 [.x (.a (.v (.int .i64 n)))] (by simp) (.x (.a (.v (.bool (Jy n))))) (fun _=>rfl) ?_
 by_cases h:(0:Int)≤n
 ·by_cases h1:n < 64
  ·have hd:=T9 ⟨h,h1⟩
   simp (maxSteps:=10^6) only[h,h1,hd,push_cast,↓reduceIte,reduceCtorEq,Nat.reduceEqDiff,Nat.reduceLT]
   done
  ·have hd:=Py (n:=n) fun e=>h1 e.2
   simp (maxSteps:=10^6) only[h,h1,hd,push_cast,↓reduceIte,reduceCtorEq,Nat.reduceEqDiff,Nat.reduceLT]
   done
 ·have hd:=Py (n:=n) fun e=>h e.1
  simp (maxSteps:=10^6) only[h,hd,undef,push_cast,↓reduceIte,reduceCtorEq,Nat.reduceEqDiff,Nat.reduceLT]
  done
theorem Zs (n:Int):Ae Tryz.prog w0 ow 120 [.x (.a (.v (.int .i64 n)))] hp (.x (.a (.v (.bool (Jy n))))) hp:=A8 fun γ w _=>Aym n w
theorem Ayn {l:List Int} {i:Nat} (h:i < l.length):B5 (l.take (i+1))=Hf (B5 (l.take i)) (ix l i):=by
 unfold B5
 rw[List.take_add_one,List.getElem?_eq_getElem h,Option.toList_some,List.foldl_append,List.foldl_cons,List.foldl_nil,ix,List.getD_eq_getElem?_getD,List.getElem?_eq_getElem h]
 rfl
theorem Ayo {s:UInt64} {n:Int} (h:0≤n∧n < 64):Hf s n=s|||I2 1 n.toNat:=by unfold Hf;rw[if_pos h]
theorem Ayp {s:UInt64} {n:Int} (h:¬(0≤n∧n < 64)):Hf s n=s:=by unfold Hf;rw[if_neg h]
set_option maxRecDepth 100000 in
theorem Ayq (l:List Int) (A:Option Addr) (c:Nat) (w:World) (hm:l.length≤1000000) (hR:RdV w w.heap.size A (l.map (Value.int .i64))):
  Calls Tryz.prog 77 #[.slice A l.length c] w fun e w'=>e=.returned (vU64 (B5 l))∧Below w.heap.size w w':=by
 have F:=FM.of hR
 refine Ba (n:=20) Tryz.func77 rfl Tryz.ntmps77 [.x (.a (.v (.slice A l.length c)))] (by simp) (.x (.a (.v (vU64 (B5 l))))) (fun _=>rfl) ?_
 simp (maxSteps:=10^6) only[push_cast,↓reduceIte,reduceCtorEq,Nat.reduceLT]
 refine Bh (ι:=Nat) (fun i=>⟨[(3,.x (.a (.v (vU64 (B5 (l.take i)))))),(6,.x (.a (.v (.slice A l.length c)))),(7,.x (.a (.v (.int .i64 l.length)))),(8,.x (.a (.v (.int .i64 i))))],[]⟩) (fun i=>i≤l.length) (fun i=>l.length - i) 0 [] (Nat.zero_le _) ?_ ?_
 ·have e0:B5 []=0:=by unfold B5;rfl
  simp (maxSteps:=10^6) only[e0,push_cast,↓Int.cast_ofNat_Int,Int.cast_ofNat_Int,↓reduceIte,Nat.reduceEqDiff]
  rfl
 intro i hi
 by_cases hlt:(i:Int) < l.length
 ·have hil:i < l.length:=by omega
  have i0:(0:Int)≤i:=by omega
  have c0:=F.cell i hil
  have o0:=F.ok i hil
  have hA:=F.some_ (by omega)
  have hb:=Ayn hil
  have nx:(i:Int)+1≤9223372036854775807:=by omega
  simp (maxSteps:=10^6) only[hlt,i0,c0,o0,hA,push_cast,↓Int.toNat_natCast,↓reduceIte,reduceCtorEq,Nat.reduceEqDiff,Nat.reduceLT]
  (repeat (refine And.intro (by first|omega|decide) ?_))
  refine Aq rfl Ye rfl (Zs _) (Af rfl) ?_
  by_cases h:0≤ix l i∧ix l i < 64
  ·have hd:=T9 h
   rw[Ayo h] at hb
   obtain⟨h1,h2⟩:=h
   simp (maxSteps:=10^6) only[hd,h1,push_cast,↓reduceIte,Nat.reduceEqDiff,Nat.reduceLT,Int.reduceNeg]
   (repeat (refine And.intro (by first|omega|decide) ?_))
   refine Be (i+1) [] (by omega) (by omega) ?_
   simp (maxSteps:=10^6) only[hb,push_cast,↓reduceIte,Nat.reduceEqDiff]
   done
  ·have hd:=Py h
   rw[Ayp h] at hb
   simp (maxSteps:=10^6) only[hd,push_cast,↓reduceIte,Nat.reduceEqDiff,Nat.reduceLT,Int.reduceNeg]
   (repeat (refine And.intro (by first|omega|decide) ?_))
   refine Be (i+1) [] (by omega) (by omega) ?_
   simp (maxSteps:=10^6) only[hb,push_cast,↓reduceIte,Nat.reduceEqDiff]
   done
 ·obtain rfl:i=l.length:=by omega
  simp (maxSteps:=10^6) only[hlt,List.take_length,push_cast,↓reduceIte,Nat.reduceEqDiff,Nat.reduceLT]
  done
theorem K7 {sv:Sv} {l:List Int} (hm:l.length≤1000000) (h:Bi w0 ow hp sv (l.map (Value.int .i64))):Ae Tryz.prog w0 ow 77 [sv] hp (.x (.a (.v (vU64 (B5 l))))) hp:=A8 fun γ w hS=>by
 obtain⟨A,c,e1,b1,r1⟩:=h γ w hS
 rw[List.length_map] at e1
 show Calls _ _ #[sv.val γ] w _
 rw[e1]
 exact Ayq l A c w hm r1
def Ff (v:UInt64) (n:Nat):List Int:=((List.range n).filter (Cf v)).map Int.ofNat
theorem Ayr (v:UInt64) (n:Nat):Ff v (n+1)=Ff v n++(if Cf v n=true then [(n:Int)] else []):=by
 unfold Ff
 rw[List.range_succ,List.filter_append,List.map_append]
 congr 1
 by_cases h:Cf v n=true
 ·simp [h]
 ·simp [h]
theorem Ays (v:UInt64) (n:Nat):(Ff v n).length≤n:=by
 unfold Ff
 rw[List.length_map]
 have:=List.length_filter_le (Cf v) (List.range n)
 simpa using this
theorem Ayt (v:UInt64):Ff v 64=C1 v:=by unfold Ff C1;rfl
attribute [local irreducible] Ff
set_option maxRecDepth 100000 in
theorem Ayu (v:UInt64) (w:World):Calls Tryz.prog 76 #[vU64 v] w fun e w'=>∃x,e=.returned x∧Own w' w.heap.size 3 x ((C1 v).map (Value.int .i64))∧Below w.heap.size w w':=by
 refine He (n:=19) Tryz.func76 rfl Tryz.ntmps76 [.x (.a (.v (vU64 v)))] (by simp) 3 (.i64 (C1 v)) (fun _=>rfl) ?_
 simp (maxSteps:=10^6) only[push_cast,↓reduceIte,Nat.reduceLT]
 refine Pa 3 3 (.i64 []) rfl rfl trivial (by simp (maxSteps:=10^6) only[push_cast]) ?_
 simp (maxSteps:=10^6) only[push_cast]
 refine Bh (ι:=Nat) (fun i=>⟨[(0,.x (.a (.v (vU64 v)))),(3,.x (.a (.o 0))),(5,.x (.a (.v (.int .i64 i))))],[.own 3 (.i64 (Ff v i))]⟩) (fun i=>i≤64) (fun i=>64 - i) 0 [0] (Nat.zero_le _) ?_ ?_
 ·have e0:Ff v 0=[]:=by unfold Ff;rfl
  simp (maxSteps:=10^6) only[e0,push_cast,↓Int.cast_ofNat_Int,Int.cast_ofNat_Int,↓reduceIte,reduceCtorEq,Nat.reduceEqDiff,Nat.reduceLT]
 intro i hi
 by_cases hlt:(i:Int) < 64
 ·have i0:(0:Int)≤i:=by omega
  have hs:=Ayr v i
  have hl:=Ays v i
  have b1:((Ff v i).length+1)*8≤140737488355328:=by omega
  have b2:(Ff v i).length+1≤2 ^ 63 - 1:=by omega
  have hbt:Cf v i=decide (H5 v i&&& 1=1):=rfl
  by_cases hb:H5 v i&&& 1=1
  ·rw[hbt,decide_eq_true hb,if_pos rfl] at hs
   simp (maxSteps:=10^6) only[hlt,i0,hb,b1,b2,push_cast,↓Int.toNat_natCast,↓reduceIte,reduceCtorEq,Nat.reduceEqDiff,Nat.reduceLT,Nat.reduceLeDiff,Nat.reduceAdd,Int.reduceNeg]
   (repeat (refine And.intro (by first|omega|decide) ?_))
   refine Be (i+1) [2] (by omega) (by omega) ?_
   simp (maxSteps:=10^6) only[hs,push_cast,↓reduceIte,reduceCtorEq,Nat.reduceEqDiff,Nat.reduceLT]
   done
  ·rw[hbt,decide_eq_false hb,if_neg (by decide),List.append_nil] at hs
   simp (maxSteps:=10^6) only[hlt,i0,hb,push_cast,↓Int.toNat_natCast,↓reduceIte,reduceCtorEq,Nat.reduceEqDiff,Nat.reduceLT,Int.reduceNeg]
   (repeat (refine And.intro (by first|omega|decide) ?_))
   refine Be (i+1) [0] (by omega) (by omega) ?_
   simp (maxSteps:=10^6) only[hs,push_cast,↓reduceIte,reduceCtorEq,Nat.reduceEqDiff,Nat.reduceLT]
   done
 ·obtain rfl:i=64:=by omega
  have e9:=Ayt v
  simp (maxSteps:=10^6) only[e9,push_cast,↓Int.cast_ofNat_Int,Int.cast_ofNat_Int,↓reduceIte,reduceCtorEq,Nat.reduceEqDiff,Nat.reduceLT,Int.reduceLT]
  done
theorem Ua (v:UInt64) (hbr:∀r∈hp,Res.bnd hp.length r):Ae Tryz.prog w0 ow 76 [.x (.a (.v (vU64 v)))] hp (.x (.a (.o hp.length))) (hp++[.own 3 (.i64 (C1 v))]):=
 Id hbr trivial fun γ w _=>Ayu v w
end
end Go.Proofs.YtedaafmfjhjfmaaGreatDoor
/- Layer 15: sets out of two, what is in, what may be. -/
namespace Go.Proofs.YtedaafmfjhjfmaaGreatDoor
open Go.RowKit
set_option linter.unusedSimpArgs false
set_option linter.unusedVariables false
attribute [local irreducible] Ad Ae Ah Ar Ak Am Ai Al
attribute [local irreducible] B5 C1 Jy B1 Bm
section
variable {w0:World} {ow:Nat→Prop} {hp:List Res} {a b:List Int} {s1 s2:Sv}
theorem Pz {f:FuncId} {P:Program} {svs:List Sv} {s1 s2:Sv} {w0:World} {ow:Nat→Prop} {hp:List Res} {va vb:List Value} {Q:World→Ending→World→Prop} (h1:Bi w0 ow hp s1 va) (h2:Bi w0 ow hp s2 vb)
  (h:∀A c A2 c2 w,va.length≤c→vb.length≤c2→RdV w w.heap.size A va→RdV w w.heap.size A2 vb→Calls P f #[.slice A va.length c,.slice A2 vb.length c2] w (Q w)):∀γ w,Sat w0 ow γ hp w→Calls P f (List.map (Sv.val γ) [s1,s2]).toArray w (Q w):=fun γ w hS=>by
 obtain⟨A,c,e1,b1,r1⟩:=h1 γ w hS
 obtain⟨A2,c2,e2,b2,r2⟩:=h2 γ w hS
 show Calls P f #[s1.val γ,s2.val γ] w _
 rw[e1,e2]
 exact h A c A2 c2 w b1 b2 r1 r2
set_option maxRecDepth 100000 in
theorem Zt (a b:List Int) (A A2:Option Addr) (c c2:Nat) (w:World) (ha:a.length≤1000000) (hb:b.length≤1000000) (hc:a.length≤c) (hc2:b.length≤c2) (hR:RdV w w.heap.size A (a.map (Value.int .i64))) (hR2:RdV w w.heap.size A2 (b.map (Value.int .i64))):
  Calls Tryz.prog 27 #[.slice A a.length c,.slice A2 b.length c2] w fun e w'=>∃x,e=.returned x∧Own w' w.heap.size 3 x ((Ay a b).map (Value.int .i64))∧Below w.heap.size w w':=by
 refine He (n:=11) Tryz.func27 rfl Tryz.ntmps27 [.x (.a (.v (.slice A a.length c))),.x (.a (.v (.slice A2 b.length c2)))] (by simp) 3 (.i64 (Ay a b)) (fun _=>rfl) ?_
 simp (maxSteps:=10^6) only[push_cast,↓reduceIte,reduceCtorEq,Nat.reduceLT]
 (repeat (refine And.intro (by first|omega|decide) ?_))
 refine Aq rfl K2 rfl (K7 ha (Ci hR _ _ (by simp) hc)) (Af rfl) ?_
 simp (maxSteps:=10^6) only[push_cast,↓reduceIte,reduceCtorEq,Nat.reduceEqDiff,Nat.reduceLT]
 (repeat (refine And.intro (by first|omega|decide) ?_))
 refine Aq rfl K2 rfl (K7 hb (Ci hR2 _ _ (by simp) hc2)) (Af rfl) ?_
 simp (maxSteps:=10^6) only[push_cast,↓reduceIte,Nat.reduceEqDiff,Nat.reduceLT]
 (repeat (refine And.intro (by first|omega|decide) ?_))
 refine Fm rfl Tn rfl (Ua _ (by simp only[push_cast])) (Af rfl) (by simp only[push_cast]) ?_
 have e:C1 (B5 a|||B5 b)=Ay a b:=rfl
 simp (maxSteps:=10^6) only[e,push_cast,↓reduceIte,Nat.reduceLT]
 done
set_option maxRecDepth 100000 in
theorem Ayv (a b:List Int) (A A2:Option Addr) (c c2:Nat) (w:World) (ha:a.length≤1000000) (hb:b.length≤1000000) (hc:a.length≤c) (hc2:b.length≤c2) (hR:RdV w w.heap.size A (a.map (Value.int .i64))) (hR2:RdV w w.heap.size A2 (b.map (Value.int .i64))):
  Calls Tryz.prog 26 #[.slice A a.length c,.slice A2 b.length c2] w fun e w'=>∃x,e=.returned x∧Own w' w.heap.size 3 x ((Br a b).map (Value.int .i64))∧Below w.heap.size w w':=by
 refine He (n:=11) Tryz.func26 rfl Tryz.ntmps26 [.x (.a (.v (.slice A a.length c))),.x (.a (.v (.slice A2 b.length c2)))] (by simp) 3 (.i64 (Br a b)) (fun _=>rfl) ?_
 simp (maxSteps:=10^6) only[push_cast,↓reduceIte,reduceCtorEq,Nat.reduceLT]
 (repeat (refine And.intro (by first|omega|decide) ?_))
 refine Aq rfl K2 rfl (K7 ha (Ci hR _ _ (by simp) hc)) (Af rfl) ?_
 simp (maxSteps:=10^6) only[push_cast,↓reduceIte,reduceCtorEq,Nat.reduceEqDiff,Nat.reduceLT]
 (repeat (refine And.intro (by first|omega|decide) ?_))
 refine Aq rfl K2 rfl (K7 hb (Ci hR2 _ _ (by simp) hc2)) (Af rfl) ?_
 simp (maxSteps:=10^6) only[push_cast,↓reduceIte,Nat.reduceEqDiff,Nat.reduceLT]
 (repeat (refine And.intro (by first|omega|decide) ?_))
 refine Fm rfl Tn rfl (Ua _ (by simp only[push_cast])) (Af rfl) (by simp only[push_cast]) ?_
 have e:C1 (B5 a&&& B5 b)=Br a b:=rfl
 simp (maxSteps:=10^6) only[e,push_cast,↓reduceIte,Nat.reduceLT]
 done
theorem Ayw (ha:a.length≤1000000) (hb:b.length≤1000000) (h1:Bi w0 ow hp s1 (a.map (Value.int .i64))) (h2:Bi w0 ow hp s2 (b.map (Value.int .i64))) (hbr:∀r∈hp,Res.bnd hp.length r):
  Ae Tryz.prog w0 ow 27 [s1,s2] hp (.x (.a (.o hp.length))) (hp++[.own 3 (.i64 (Ay a b))]):=
 Id hbr trivial (Pz (svs:=[]) (Q:=fun w en w'=>∃v',en=.returned v'∧Own w' w.heap.size 3 v' ((Ay a b).map (Value.int .i64))∧Below w.heap.size w w') h1 h2 fun A c A2 c2 w hc hc2 r1 r2=>by
  rw[List.length_map] at hc hc2 ⊢
  rw[List.length_map]
  exact Zt a b A A2 c c2 w ha hb hc hc2 r1 r2)
theorem P2 (ha:a.length≤1000000) (hb:b.length≤1000000) (h1:Bi w0 ow hp s1 (a.map (Value.int .i64))) (h2:Bi w0 ow hp s2 (b.map (Value.int .i64))) (hbr:∀r∈hp,Res.bnd hp.length r):
  Ae Tryz.prog w0 ow 26 [s1,s2] hp (.x (.a (.o hp.length))) (hp++[.own 3 (.i64 (Br a b))]):=
 Id hbr trivial (Pz (svs:=[]) (Q:=fun w en w'=>∃v',en=.returned v'∧Own w' w.heap.size 3 v' ((Br a b).map (Value.int .i64))∧Below w.heap.size w w') h1 h2 fun A c A2 c2 w hc hc2 r1 r2=>by
  rw[List.length_map] at hc hc2 ⊢
  rw[List.length_map]
  exact Ayv a b A A2 c c2 w ha hb hc hc2 r1 r2)
def okV (b:Bool) (n:Int):Value:=if b=true then .nilIface else .iface 91 (.int .i64 n)
theorem Hl (n:Int):okV true n=.nilIface:=rfl
theorem Hm (n:Int):okV false n=.iface 91 (.int .i64 n):=rfl
attribute [local irreducible] okV
set_option maxRecDepth 100000 in
theorem Ayx (l:List Int) (A:Option Addr) (c:Nat) (w:World) (hm:l.length≤1000000) (hR:RdV w w.heap.size A (l.map (Value.int .i64))):
  Calls Tryz.prog 135 #[.slice A l.length c] w fun e w'=>e=.returned (okV (Bm (-1) l) 1)∧Below w.heap.size w w':=by
 have F:=FM.of hR
 refine Ba (n:=23) Tryz.func135 rfl Tryz.ntmps135 [.x (.a (.v (.slice A l.length c)))] (by simp) (.x (.a (.v (okV (Bm (-1) l) 1)))) (fun _=>rfl) ?_
 simp (maxSteps:=10^6) only[push_cast,↓reduceIte,reduceCtorEq,Nat.reduceLT,Int.reduceNeg]
 refine Bh (ι:=Nat×Int) (fun x=>⟨[(3,.x (.a (.v (.int .i64 x.2)))),(6,.x (.a (.v (.slice A l.length c)))),(7,.x (.a (.v (.int .i64 l.length)))),(8,.x (.a (.v (.int .i64 (x.1:Nat)))))],[]⟩) (fun x=>x.1≤l.length∧Bm (-1) l=Bm x.2 (l.drop x.1)) (fun x=>l.length - x.1) (0,-1) [] ⟨Nat.zero_le _,rfl⟩ ?_ ?_
 ·simp (maxSteps:=10^6) only[push_cast,↓Int.cast_ofNat_Int,Int.cast_ofNat_Int,↓reduceIte,Nat.reduceEqDiff,Int.reduceNeg]
 rintro⟨i,last⟩ ⟨hi,hk⟩
 dsimp only at hi hk
 by_cases hlt:(i:Int) < l.length
 ·have hil:i < l.length:=by omega
  have i0:(0:Int)≤i:=by omega
  have c0:=F.cell i hil
  have o0:=F.ok i hil
  have hA:=F.some_ (by omega)
  have hd:l.drop i=ix l i::l.drop (i+1):=by
   rw[List.drop_eq_getElem_cons hil,ix,List.getD_eq_getElem?_getD,List.getElem?_eq_getElem hil];rfl
  rw[hd,Bm] at hk
  generalize ix l i=n at*
  have nx:(i:Int)+1≤9223372036854775807:=by omega
  by_cases hle:n≤last
  ·rw[if_pos (.inl hle)] at hk
   have hf:=Hm 1
   simp (maxSteps:=10^6) only[hlt,i0,c0,o0,hA,hle,hk,hf,undef,push_cast,↓Int.toNat_natCast,↓reduceIte,reduceCtorEq,Nat.reduceEqDiff,Nat.reduceLT,Int.reduceNeg]
   done
  ·simp (maxSteps:=10^6) only[hlt,i0,c0,o0,hA,hle,push_cast,↓Int.toNat_natCast,↓reduceIte,reduceCtorEq,Nat.reduceEqDiff,Nat.reduceLT,Int.reduceNeg]
   (repeat (refine And.intro (by first|omega|decide) ?_))
   refine Aq rfl Ye rfl (Zs _) (Af rfl) ?_
   by_cases h:0≤n∧n < 64
   ·rw[if_neg (by intro e;rcases e with e|e;exact hle e;exact e h)] at hk
    have hc:=T9 h
    simp (maxSteps:=10^6) only[hc,push_cast,↓reduceIte,Nat.reduceEqDiff,Nat.reduceLT,Int.reduceNeg]
    (repeat (refine And.intro (by first|omega|decide) ?_))
    refine Be (i+1,n) [] ⟨by show i+1≤l.length;omega,hk⟩ (by show l.length - (i+1) < l.length - i;omega) ?_
    simp (maxSteps:=10^6) only[push_cast,↓reduceIte,Nat.reduceEqDiff]
    done
   ·rw[if_pos (.inr h)] at hk
    have hc:=Py h
    have hf:=Hm 1
    simp (maxSteps:=10^6) only[hc,hk,hf,push_cast,↓reduceIte,Nat.reduceEqDiff,Nat.reduceLT,Int.reduceNeg]
    done
 ·obtain rfl:i=l.length:=by omega
  rw[List.drop_length,Bm] at hk
  have hf:=Hl 1
  simp (maxSteps:=10^6) only[hlt,hk,hf,push_cast,↓reduceIte,Nat.reduceEqDiff,Nat.reduceLT,Int.reduceNeg]
  done
theorem Zu {sv:Sv} {l:List Int} (hm:l.length≤1000000) (h:Bi w0 ow hp sv (l.map (Value.int .i64))):Ae Tryz.prog w0 ow 135 [sv] hp (.x (.a (.v (okV (Bm (-1) l) 1)))) hp:=A8 fun γ w hS=>by
 obtain⟨A,c,e1,b1,r1⟩:=h γ w hS
 rw[List.length_map] at e1
 show Calls _ _ #[sv.val γ] w _
 rw[e1]
 exact Ayx l A c w hm r1
end
end Go.Proofs.YtedaafmfjhjfmaaGreatDoor
