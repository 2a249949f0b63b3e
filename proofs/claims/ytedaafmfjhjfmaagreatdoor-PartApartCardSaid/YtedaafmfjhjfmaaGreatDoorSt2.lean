import Derived.Test.YtedaafmfjhjfmaaGreatDoorTn0
import Derived.Test.YtedaafmfjhjfmaaGreatDoorShA
import Derived.Test.YtedaafmfjhjfmaaGreatDoorPc
/- Layer 15: sets (set.can, Bits, From, Either, Both, Less, Has, Check). -/
namespace Go.Proofs.YtedaafmfjhjfmaaGreatDoor
open Go.RowKit
set_option linter.unusedSimpArgs false
set_option linter.unusedVariables false
def Jz (n:Int):Bool:=decide (0≤n∧n < 64)
theorem T5 {n:Int} (h:0≤n∧n < 64):Jz n=true:=decide_eq_true h
theorem P4 {n:Int} (h:¬(0≤n∧n < 64)):Jz n=false:=decide_eq_false h
attribute [local irreducible] Ad Ae Ah Au Am Ap Ai Ao
attribute [local irreducible] B3 C1 Hl Jz
section
variable {w0:World} {ow:Nat→Prop} {hp:List Res}
set_option maxRecDepth 100000 in
theorem Ayx (n:Int) (w:World):Calls Tryz.prog 120 #[.int .i64 n] w fun e w'=>e=.returned (.bool (Jz n))∧Below w.heap.size w w':=by
 refine Bb (n:=9) Tryz.func120 rfl Tryz.ntmps120 [.x (.a (.v (.int .i64 n)))] (by simp) (.x (.a (.v (.bool (Jz n))))) (fun _=>rfl) ?_
 by_cases h:(0:Int)≤n
 ·by_cases h1:n < 64
  ·have hd:=T5 ⟨h,h1⟩
   simp (maxSteps:=10^6) only[h,h1,hd,push_cast,↓reduceIte,reduceCtorEq,Nat.reduceEqDiff,Nat.reduceLT]
   done
  ·have hd:=P4 (n:=n) fun e=>h1 e.2
   simp (maxSteps:=10^6) only[h,h1,hd,push_cast,↓reduceIte,reduceCtorEq,Nat.reduceEqDiff,Nat.reduceLT]
   done
 ·have hd:=P4 (n:=n) fun e=>h e.1
  simp (maxSteps:=10^6) only[h,hd,undef,push_cast,↓reduceIte,reduceCtorEq,Nat.reduceEqDiff,Nat.reduceLT]
  done
theorem Zm (n:Int):Ae Tryz.prog w0 ow 120 [.x (.a (.v (.int .i64 n)))] hp (.x (.a (.v (.bool (Jz n))))) hp:=Ba fun γ w _=>Ayx n w
theorem Ayy {l:List Int} {i:Nat} (h:i < l.length):B3 (l.take (i+1))=Hl (B3 (l.take i)) (ix l i):=by
 unfold B3
 rw[List.take_add_one,List.getElem?_eq_getElem h,Option.toList_some,List.foldl_append,List.foldl_cons,List.foldl_nil,ix,List.getD_eq_getElem?_getD,List.getElem?_eq_getElem h]
 rfl
theorem Ayz {s:UInt64} {n:Int} (h:0≤n∧n < 64):Hl s n=s|||I6 1 n.toNat:=by unfold Hl;rw[if_pos h]
theorem Ay0 {s:UInt64} {n:Int} (h:¬(0≤n∧n < 64)):Hl s n=s:=by unfold Hl;rw[if_neg h]
set_option maxRecDepth 100000 in
theorem Ay1 (l:List Int) (A:Option Addr) (c:Nat) (w:World) (hm:l.length≤1000000) (hR:RdV w w.heap.size A (l.map (Value.int .i64))):
  Calls Tryz.prog 77 #[.slice A l.length c] w fun e w'=>e=.returned (vU64 (B3 l))∧Below w.heap.size w w':=by
 have F:=FM.of hR
 refine Bb (n:=20) Tryz.func77 rfl Tryz.ntmps77 [.x (.a (.v (.slice A l.length c)))] (by simp) (.x (.a (.v (vU64 (B3 l))))) (fun _=>rfl) ?_
 simp (maxSteps:=10^6) only[push_cast,↓reduceIte,reduceCtorEq,Nat.reduceLT]
 refine Bc (ι:=Nat) (fun i=>⟨[(3,.x (.a (.v (vU64 (B3 (l.take i)))))),(6,.x (.a (.v (.slice A l.length c)))),(7,.x (.a (.v (.int .i64 l.length)))),(8,.x (.a (.v (.int .i64 i))))],[]⟩) (fun i=>i≤l.length) (fun i=>l.length - i) 0 [] (Nat.zero_le _) ?_ ?_
 ·have e0:B3 []=0:=by unfold B3;rfl
  simp (maxSteps:=10^6) only[e0,push_cast,↓Int.cast_ofNat_Int,Int.cast_ofNat_Int,↓reduceIte,Nat.reduceEqDiff]
  rfl
 intro i hi
 by_cases hlt:(i:Int) < l.length
 ·have hil:i < l.length:=by omega
  have i0:(0:Int)≤i:=by omega
  have c0:=F.cell i hil
  have o0:=F.ok i hil
  have hA:=F.some_ (by omega)
  have hb:=Ayy hil
  have nx:(i:Int)+1≤9223372036854775807:=by omega
  simp (maxSteps:=10^6) only[hlt,i0,c0,o0,hA,push_cast,↓Int.toNat_natCast,↓reduceIte,reduceCtorEq,Nat.reduceEqDiff,Nat.reduceLT]
  (repeat (refine And.intro (by first|omega|decide) ?_))
  refine Ar rfl X2 rfl (Zm _) (Af rfl) ?_
  by_cases h:0≤ix l i∧ix l i < 64
  ·have hd:=T5 h
   rw[Ayz h] at hb
   obtain⟨h1,h2⟩:=h
   simp (maxSteps:=10^6) only[hd,h1,push_cast,↓reduceIte,Nat.reduceEqDiff,Nat.reduceLT,Int.reduceNeg]
   (repeat (refine And.intro (by first|omega|decide) ?_))
   refine Ay (i+1) [] (by omega) (by omega) ?_
   simp (maxSteps:=10^6) only[hb,push_cast,↓reduceIte,Nat.reduceEqDiff]
   done
  ·have hd:=P4 h
   rw[Ay0 h] at hb
   simp (maxSteps:=10^6) only[hd,push_cast,↓reduceIte,Nat.reduceEqDiff,Nat.reduceLT,Int.reduceNeg]
   (repeat (refine And.intro (by first|omega|decide) ?_))
   refine Ay (i+1) [] (by omega) (by omega) ?_
   simp (maxSteps:=10^6) only[hb,push_cast,↓reduceIte,Nat.reduceEqDiff]
   done
 ·obtain rfl:i=l.length:=by omega
  simp (maxSteps:=10^6) only[hlt,List.take_length,push_cast,↓reduceIte,Nat.reduceEqDiff,Nat.reduceLT]
  done
theorem K3 {sv:Sv} {l:List Int} (hm:l.length≤1000000) (h:A6 w0 ow hp sv (l.map (Value.int .i64))):Ae Tryz.prog w0 ow 77 [sv] hp (.x (.a (.v (vU64 (B3 l))))) hp:=Ba fun γ w hS=>by
 obtain⟨A,c,e1,b1,r1⟩:=h γ w hS
 rw[List.length_map] at e1
 show Calls _ _ #[sv.val γ] w _
 rw[e1]
 exact Ay1 l A c w hm r1
def Fj (v:UInt64) (n:Nat):List Int:=((List.range n).filter (Ce v)).map Int.ofNat
theorem Ay2 (v:UInt64) (n:Nat):Fj v (n+1)=Fj v n++(if Ce v n=true then [(n:Int)] else []):=by
 unfold Fj
 rw[List.range_succ,List.filter_append,List.map_append]
 congr 1
 by_cases h:Ce v n=true
 ·simp [h]
 ·simp [h]
theorem Ay3 (v:UInt64) (n:Nat):(Fj v n).length≤n:=by
 unfold Fj
 rw[List.length_map]
 have:=List.length_filter_le (Ce v) (List.range n)
 simpa using this
theorem Ay4 (v:UInt64):Fj v 64=C1 v:=by unfold Fj C1;rfl
attribute [local irreducible] Fj
set_option maxRecDepth 100000 in
theorem Ay5 (v:UInt64) (w:World):Calls Tryz.prog 76 #[vU64 v] w fun e w'=>∃x,e=.returned x∧Own w' w.heap.size 3 x ((C1 v).map (Value.int .i64))∧Below w.heap.size w w':=by
 refine Fu (n:=19) Tryz.func76 rfl Tryz.ntmps76 [.x (.a (.v (vU64 v)))] (by simp) 3 (.i64 (C1 v)) (fun _=>rfl) ?_
 simp (maxSteps:=10^6) only[push_cast,↓reduceIte,Nat.reduceLT]
 refine Ij 3 3 (.i64 []) rfl rfl trivial (by simp (maxSteps:=10^6) only[push_cast]) ?_
 simp (maxSteps:=10^6) only[push_cast]
 refine Bc (ι:=Nat) (fun i=>⟨[(0,.x (.a (.v (vU64 v)))),(3,.x (.a (.o 0))),(5,.x (.a (.v (.int .i64 i))))],[.own 3 (.i64 (Fj v i))]⟩) (fun i=>i≤64) (fun i=>64 - i) 0 [0] (Nat.zero_le _) ?_ ?_
 ·have e0:Fj v 0=[]:=by unfold Fj;rfl
  simp (maxSteps:=10^6) only[e0,push_cast,↓Int.cast_ofNat_Int,Int.cast_ofNat_Int,↓reduceIte,reduceCtorEq,Nat.reduceEqDiff,Nat.reduceLT]
 intro i hi
 by_cases hlt:(i:Int) < 64
 ·have i0:(0:Int)≤i:=by omega
  have hs:=Ay2 v i
  have hl:=Ay3 v i
  have b1:((Fj v i).length+1)*8≤140737488355328:=by omega
  have b2:(Fj v i).length+1≤2 ^ 63 - 1:=by omega
  have hbt:Ce v i=decide (H8 v i&&& 1=1):=rfl
  by_cases hb:H8 v i&&& 1=1
  ·rw[hbt,decide_eq_true hb,if_pos rfl] at hs
   simp (maxSteps:=10^6) only[hlt,i0,hb,b1,b2,push_cast,↓Int.toNat_natCast,↓reduceIte,reduceCtorEq,Nat.reduceEqDiff,Nat.reduceLT,Nat.reduceLeDiff,Nat.reduceAdd,Int.reduceNeg]
   (repeat (refine And.intro (by first|omega|decide) ?_))
   refine Ay (i+1) [2] (by omega) (by omega) ?_
   simp (maxSteps:=10^6) only[hs,push_cast,↓reduceIte,reduceCtorEq,Nat.reduceEqDiff,Nat.reduceLT]
   done
  ·rw[hbt,decide_eq_false hb,if_neg (by decide),List.append_nil] at hs
   simp (maxSteps:=10^6) only[hlt,i0,hb,push_cast,↓Int.toNat_natCast,↓reduceIte,reduceCtorEq,Nat.reduceEqDiff,Nat.reduceLT,Int.reduceNeg]
   (repeat (refine And.intro (by first|omega|decide) ?_))
   refine Ay (i+1) [0] (by omega) (by omega) ?_
   simp (maxSteps:=10^6) only[hs,push_cast,↓reduceIte,reduceCtorEq,Nat.reduceEqDiff,Nat.reduceLT]
   done
 ·obtain rfl:i=64:=by omega
  have e9:=Ay4 v
  simp (maxSteps:=10^6) only[e9,push_cast,↓Int.cast_ofNat_Int,Int.cast_ofNat_Int,↓reduceIte,reduceCtorEq,Nat.reduceEqDiff,Nat.reduceLT,Int.reduceLT]
  done
theorem T6 (v:UInt64) (hbr:∀r∈hp,Res.bnd hp.length r):Ae Tryz.prog w0 ow 76 [.x (.a (.v (vU64 v)))] hp (.x (.a (.o hp.length))) (hp++[.own 3 (.i64 (C1 v))]):=
 Ga hbr trivial fun γ w _=>Ay5 v w
end
end Go.Proofs.YtedaafmfjhjfmaaGreatDoor
/- Layer 15: sets out of two, what is in, what may be. -/
namespace Go.Proofs.YtedaafmfjhjfmaaGreatDoor
open Go.RowKit
set_option linter.unusedSimpArgs false
set_option linter.unusedVariables false
attribute [local irreducible] Ad Ae Ah Au Am Ap Ai Ao
attribute [local irreducible] B3 C1 Jz B4 Bg
section
variable {w0:World} {ow:Nat→Prop} {hp:List Res} {a b:List Int} {s1 s2:Sv}
theorem P5 {f:FuncId} {P:Program} {svs:List Sv} {s1 s2:Sv} {w0:World} {ow:Nat→Prop} {hp:List Res} {va vb:List Value} {Q:World→Ending→World→Prop} (h1:A6 w0 ow hp s1 va) (h2:A6 w0 ow hp s2 vb)
  (h:∀A c A2 c2 w,va.length≤c→vb.length≤c2→RdV w w.heap.size A va→RdV w w.heap.size A2 vb→Calls P f #[.slice A va.length c,.slice A2 vb.length c2] w (Q w)):∀γ w,Sat w0 ow γ hp w→Calls P f (List.map (Sv.val γ) [s1,s2]).toArray w (Q w):=fun γ w hS=>by
 obtain⟨A,c,e1,b1,r1⟩:=h1 γ w hS
 obtain⟨A2,c2,e2,b2,r2⟩:=h2 γ w hS
 show Calls P f #[s1.val γ,s2.val γ] w _
 rw[e1,e2]
 exact h A c A2 c2 w b1 b2 r1 r2
set_option maxRecDepth 100000 in
theorem Zn (a b:List Int) (A A2:Option Addr) (c c2:Nat) (w:World) (ha:a.length≤1000000) (hb:b.length≤1000000) (hc:a.length≤c) (hc2:b.length≤c2) (hR:RdV w w.heap.size A (a.map (Value.int .i64))) (hR2:RdV w w.heap.size A2 (b.map (Value.int .i64))):
  Calls Tryz.prog 27 #[.slice A a.length c,.slice A2 b.length c2] w fun e w'=>∃x,e=.returned x∧Own w' w.heap.size 3 x ((Aw a b).map (Value.int .i64))∧Below w.heap.size w w':=by
 refine Fu (n:=11) Tryz.func27 rfl Tryz.ntmps27 [.x (.a (.v (.slice A a.length c))),.x (.a (.v (.slice A2 b.length c2)))] (by simp) 3 (.i64 (Aw a b)) (fun _=>rfl) ?_
 simp (maxSteps:=10^6) only[push_cast,↓reduceIte,reduceCtorEq,Nat.reduceLT]
 (repeat (refine And.intro (by first|omega|decide) ?_))
 refine Ar rfl Kw rfl (K3 ha (Bt hR _ _ (by simp) hc)) (Af rfl) ?_
 simp (maxSteps:=10^6) only[push_cast,↓reduceIte,reduceCtorEq,Nat.reduceEqDiff,Nat.reduceLT]
 (repeat (refine And.intro (by first|omega|decide) ?_))
 refine Ar rfl Kw rfl (K3 hb (Bt hR2 _ _ (by simp) hc2)) (Af rfl) ?_
 simp (maxSteps:=10^6) only[push_cast,↓reduceIte,Nat.reduceEqDiff,Nat.reduceLT]
 (repeat (refine And.intro (by first|omega|decide) ?_))
 refine Dx rfl Tm rfl (T6 _ (by simp only[push_cast])) (Af rfl) (by simp only[push_cast]) ?_
 have e:C1 (B3 a|||B3 b)=Aw a b:=rfl
 simp (maxSteps:=10^6) only[e,push_cast,↓reduceIte,Nat.reduceLT]
 done
set_option maxRecDepth 100000 in
theorem Ay6 (a b:List Int) (A A2:Option Addr) (c c2:Nat) (w:World) (ha:a.length≤1000000) (hb:b.length≤1000000) (hc:a.length≤c) (hc2:b.length≤c2) (hR:RdV w w.heap.size A (a.map (Value.int .i64))) (hR2:RdV w w.heap.size A2 (b.map (Value.int .i64))):
  Calls Tryz.prog 26 #[.slice A a.length c,.slice A2 b.length c2] w fun e w'=>∃x,e=.returned x∧Own w' w.heap.size 3 x ((Bh a b).map (Value.int .i64))∧Below w.heap.size w w':=by
 refine Fu (n:=11) Tryz.func26 rfl Tryz.ntmps26 [.x (.a (.v (.slice A a.length c))),.x (.a (.v (.slice A2 b.length c2)))] (by simp) 3 (.i64 (Bh a b)) (fun _=>rfl) ?_
 simp (maxSteps:=10^6) only[push_cast,↓reduceIte,reduceCtorEq,Nat.reduceLT]
 (repeat (refine And.intro (by first|omega|decide) ?_))
 refine Ar rfl Kw rfl (K3 ha (Bt hR _ _ (by simp) hc)) (Af rfl) ?_
 simp (maxSteps:=10^6) only[push_cast,↓reduceIte,reduceCtorEq,Nat.reduceEqDiff,Nat.reduceLT]
 (repeat (refine And.intro (by first|omega|decide) ?_))
 refine Ar rfl Kw rfl (K3 hb (Bt hR2 _ _ (by simp) hc2)) (Af rfl) ?_
 simp (maxSteps:=10^6) only[push_cast,↓reduceIte,Nat.reduceEqDiff,Nat.reduceLT]
 (repeat (refine And.intro (by first|omega|decide) ?_))
 refine Dx rfl Tm rfl (T6 _ (by simp only[push_cast])) (Af rfl) (by simp only[push_cast]) ?_
 have e:C1 (B3 a&&& B3 b)=Bh a b:=rfl
 simp (maxSteps:=10^6) only[e,push_cast,↓reduceIte,Nat.reduceLT]
 done
theorem Ay7 (ha:a.length≤1000000) (hb:b.length≤1000000) (h1:A6 w0 ow hp s1 (a.map (Value.int .i64))) (h2:A6 w0 ow hp s2 (b.map (Value.int .i64))) (hbr:∀r∈hp,Res.bnd hp.length r):
  Ae Tryz.prog w0 ow 27 [s1,s2] hp (.x (.a (.o hp.length))) (hp++[.own 3 (.i64 (Aw a b))]):=
 Ga hbr trivial (P5 (svs:=[]) (Q:=fun w en w'=>∃v',en=.returned v'∧Own w' w.heap.size 3 v' ((Aw a b).map (Value.int .i64))∧Below w.heap.size w w') h1 h2 fun A c A2 c2 w hc hc2 r1 r2=>by
  rw[List.length_map] at hc hc2 ⊢
  rw[List.length_map]
  exact Zn a b A A2 c c2 w ha hb hc hc2 r1 r2)
theorem Mt (ha:a.length≤1000000) (hb:b.length≤1000000) (h1:A6 w0 ow hp s1 (a.map (Value.int .i64))) (h2:A6 w0 ow hp s2 (b.map (Value.int .i64))) (hbr:∀r∈hp,Res.bnd hp.length r):
  Ae Tryz.prog w0 ow 26 [s1,s2] hp (.x (.a (.o hp.length))) (hp++[.own 3 (.i64 (Bh a b))]):=
 Ga hbr trivial (P5 (svs:=[]) (Q:=fun w en w'=>∃v',en=.returned v'∧Own w' w.heap.size 3 v' ((Bh a b).map (Value.int .i64))∧Below w.heap.size w w') h1 h2 fun A c A2 c2 w hc hc2 r1 r2=>by
  rw[List.length_map] at hc hc2 ⊢
  rw[List.length_map]
  exact Ay6 a b A A2 c c2 w ha hb hc hc2 r1 r2)
def okV (b:Bool) (n:Int):Value:=if b=true then .nilIface else .iface 91 (.int .i64 n)
theorem Hr (n:Int):okV true n=.nilIface:=rfl
theorem Ht (n:Int):okV false n=.iface 91 (.int .i64 n):=rfl
attribute [local irreducible] okV
set_option maxRecDepth 100000 in
theorem Ay8 (l:List Int) (A:Option Addr) (c:Nat) (w:World) (hm:l.length≤1000000) (hR:RdV w w.heap.size A (l.map (Value.int .i64))):
  Calls Tryz.prog 135 #[.slice A l.length c] w fun e w'=>e=.returned (okV (Bg (-1) l) 1)∧Below w.heap.size w w':=by
 have F:=FM.of hR
 refine Bb (n:=23) Tryz.func135 rfl Tryz.ntmps135 [.x (.a (.v (.slice A l.length c)))] (by simp) (.x (.a (.v (okV (Bg (-1) l) 1)))) (fun _=>rfl) ?_
 simp (maxSteps:=10^6) only[push_cast,↓reduceIte,reduceCtorEq,Nat.reduceLT,Int.reduceNeg]
 refine Bc (ι:=Nat×Int) (fun x=>⟨[(3,.x (.a (.v (.int .i64 x.2)))),(6,.x (.a (.v (.slice A l.length c)))),(7,.x (.a (.v (.int .i64 l.length)))),(8,.x (.a (.v (.int .i64 (x.1:Nat)))))],[]⟩) (fun x=>x.1≤l.length∧Bg (-1) l=Bg x.2 (l.drop x.1)) (fun x=>l.length - x.1) (0,-1) [] ⟨Nat.zero_le _,rfl⟩ ?_ ?_
 ·simp (maxSteps:=10^6) only[push_cast,↓Int.cast_ofNat_Int,Int.cast_ofNat_Int,↓reduceIte,Nat.reduceEqDiff,Int.reduceNeg]
 rintro⟨i,last⟩ ⟨hi,hk⟩
 dsimp only at hi hk
 by_cases hlt:(i:Int) < l.length
 ·have hil:i < l.length:=by omega
  have i0:(0:Int)≤i:=by omega
  have c0:=F.cell i hil
  have o0:=F.ok i hil
  have hA:=F.some_ (by omega)
  have hd:l.drop i=ix l i::l.drop (i+1):=by
   rw[List.drop_eq_getElem_cons hil,ix,List.getD_eq_getElem?_getD,List.getElem?_eq_getElem hil];rfl
  rw[hd,Bg] at hk
  generalize ix l i=n at*
  have nx:(i:Int)+1≤9223372036854775807:=by omega
  by_cases hle:n≤last
  ·rw[if_pos (.inl hle)] at hk
   have hf:=Ht 1
   simp (maxSteps:=10^6) only[hlt,i0,c0,o0,hA,hle,hk,hf,undef,push_cast,↓Int.toNat_natCast,↓reduceIte,reduceCtorEq,Nat.reduceEqDiff,Nat.reduceLT,Int.reduceNeg]
   done
  ·simp (maxSteps:=10^6) only[hlt,i0,c0,o0,hA,hle,push_cast,↓Int.toNat_natCast,↓reduceIte,reduceCtorEq,Nat.reduceEqDiff,Nat.reduceLT,Int.reduceNeg]
   (repeat (refine And.intro (by first|omega|decide) ?_))
   refine Ar rfl X2 rfl (Zm _) (Af rfl) ?_
   by_cases h:0≤n∧n < 64
   ·rw[if_neg (by intro e;rcases e with e|e;exact hle e;exact e h)] at hk
    have hc:=T5 h
    simp (maxSteps:=10^6) only[hc,push_cast,↓reduceIte,Nat.reduceEqDiff,Nat.reduceLT,Int.reduceNeg]
    (repeat (refine And.intro (by first|omega|decide) ?_))
    refine Ay (i+1,n) [] ⟨by show i+1≤l.length;omega,hk⟩ (by show l.length - (i+1) < l.length - i;omega) ?_
    simp (maxSteps:=10^6) only[push_cast,↓reduceIte,Nat.reduceEqDiff]
    done
   ·rw[if_pos (.inr h)] at hk
    have hc:=P4 h
    have hf:=Ht 1
    simp (maxSteps:=10^6) only[hc,hk,hf,push_cast,↓reduceIte,Nat.reduceEqDiff,Nat.reduceLT,Int.reduceNeg]
    done
 ·obtain rfl:i=l.length:=by omega
  rw[List.drop_length,Bg] at hk
  have hf:=Hr 1
  simp (maxSteps:=10^6) only[hlt,hk,hf,push_cast,↓reduceIte,Nat.reduceEqDiff,Nat.reduceLT,Int.reduceNeg]
  done
theorem Zo {sv:Sv} {l:List Int} (hm:l.length≤1000000) (h:A6 w0 ow hp sv (l.map (Value.int .i64))):Ae Tryz.prog w0 ow 135 [sv] hp (.x (.a (.v (okV (Bg (-1) l) 1)))) hp:=Ba fun γ w hS=>by
 obtain⟨A,c,e1,b1,r1⟩:=h γ w hS
 rw[List.length_map] at e1
 show Calls _ _ #[sv.val γ] w _
 rw[e1]
 exact Ay8 l A c w hm r1
end
end Go.Proofs.YtedaafmfjhjfmaaGreatDoor
