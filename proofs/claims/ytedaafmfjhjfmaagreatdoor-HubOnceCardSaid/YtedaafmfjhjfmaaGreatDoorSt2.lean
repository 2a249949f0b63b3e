import Derived.Test.YtedaafmfjhjfmaaGreatDoorPc
import Derived.Test.YtedaafmfjhjfmaaGreatDoorShA
/- Layer 15: sets (set.can, Bits, From, Either, Both, Less, Has, Check). -/
namespace Go.Proofs.YtedaafmfjhjfmaaGreatDoor
open _root_.Go.Proofs.Tryz
open Go.RowKit
set_option linter.unusedSimpArgs false
set_option linter.unusedVariables false
section
def K6 (n:Int):Bool:=decide (0≤n∧n < 64)
theorem R4 {n:Int} (h:0≤n∧n < 64):K6 n=true:=decide_eq_true h
theorem Og {n:Int} (h:¬(0≤n∧n < 64)):K6 n=false:=decide_eq_false h
attribute [local irreducible] Ac Ad Ah Au Ao Aj Ai Al
attribute [local irreducible] Cj Di Iv K6
section
variable {w0:World} {ow:Nat→Prop} {hp:List Res}
set_option maxRecDepth 100000 in
theorem Aq5 (n:Int) (w:World):Calls prog 120 #[.int .i64 n] w fun e w'=>e=.returned (.bool (K6 n))∧Below w.heap.size w w':=by
 refine Bf (n:=9) func120 rfl ntmps120 [.x (.a (.v (.int .i64 n)))] (by simp) (.x (.a (.v (.bool (K6 n))))) (fun _=>rfl) ?_
 by_cases h:(0:Int)≤n
 ·by_cases h1:n < 64
  ·have hd:=R4 ⟨h,h1⟩
   simp (maxSteps:=10^6) only[h,h1,hd,push_cast,↓reduceIte,reduceCtorEq,Nat.reduceEqDiff,Nat.reduceLT]
   done
  ·have hd:=Og (n:=n) fun e=>h1 e.2
   simp (maxSteps:=10^6) only[h,h1,hd,push_cast,↓reduceIte,reduceCtorEq,Nat.reduceEqDiff,Nat.reduceLT]
   done
 ·have hd:=Og (n:=n) fun e=>h e.1
  simp (maxSteps:=10^6) only[h,hd,undef,push_cast,↓reduceIte,reduceCtorEq,Nat.reduceEqDiff,Nat.reduceLT]
  done
theorem V5 (n:Int):Ad prog w0 ow 120 [.x (.a (.v (.int .i64 n)))] hp (.x (.a (.v (.bool (K6 n))))) hp:=Bc fun γ w _=>Aq5 n w
theorem Aq6 {l:List Int} {i:Nat} (h:i < l.length):Cj (l.take (i+1))=Iv (Cj (l.take i)) (ix l i):=by
 unfold Cj
 rw[List.take_add_one,List.getElem?_eq_getElem h,Option.toList_some,List.foldl_append,List.foldl_cons,List.foldl_nil,ix,List.getD_eq_getElem?_getD,List.getElem?_eq_getElem h]
 rfl
theorem Aq7 {s:UInt64} {n:Int} (h:0≤n∧n < 64):Iv s n=s|||J9 1 n.toNat:=by unfold Iv;rw[if_pos h]
theorem Aq8 {s:UInt64} {n:Int} (h:¬(0≤n∧n < 64)):Iv s n=s:=by unfold Iv;rw[if_neg h]
set_option maxRecDepth 100000 in
theorem Aq9 (l:List Int) (A:Option Addr) (c:Nat) (w:World) (hm:l.length≤1000000) (hR:RdV w w.heap.size A (l.map (Value.int .i64))):
  Calls prog 77 #[.slice A l.length c] w fun e w'=>e=.returned (vU64 (Cj l))∧Below w.heap.size w w':=by
 have F:=FM.of hR
 refine Bf (n:=20) func77 rfl ntmps77 [.x (.a (.v (.slice A l.length c)))] (by simp) (.x (.a (.v (vU64 (Cj l))))) (fun _=>rfl) ?_
 simp (maxSteps:=10^6) only[push_cast,↓reduceIte,reduceCtorEq,Nat.reduceLT]
 refine Bj (ι:=Nat) (fun i=>⟨[(3,.x (.a (.v (vU64 (Cj (l.take i)))))),(6,.x (.a (.v (.slice A l.length c)))),(7,.x (.a (.v (.int .i64 l.length)))),(8,.x (.a (.v (.int .i64 i))))],[]⟩) (fun i=>i≤l.length) (fun i=>l.length - i) 0 [] (Nat.zero_le _) ?_ ?_
 ·have e0:Cj []=0:=by unfold Cj;rfl
  simp (maxSteps:=10^6) only[e0,push_cast,↓Int.cast_ofNat_Int,Int.cast_ofNat_Int,↓reduceIte,Nat.reduceEqDiff]
  rfl
 intro i hi
 by_cases hlt:(i:Int) < l.length
 ·have hil:i < l.length:=by omega
  have i0:(0:Int)≤i:=by omega
  have c0:=F.cell i hil
  have o0:=F.ok i hil
  have hA:=F.some_ (by omega)
  have hb:=Aq6 hil
  have nx:(i:Int)+1≤9223372036854775807:=by omega
  simp (maxSteps:=10^6) only[hlt,i0,c0,o0,hA,push_cast,↓Int.toNat_natCast,↓reduceIte,reduceCtorEq,Nat.reduceEqDiff,Nat.reduceLT]
  (repeat (refine And.intro (by first|omega|decide) ?_))
  refine Am rfl Vk rfl (V5 _) (Aa rfl) ?_
  by_cases h:0≤ix l i∧ix l i < 64
  ·have hd:=R4 h
   rw[Aq7 h] at hb
   obtain⟨h1,h2⟩:=h
   simp (maxSteps:=10^6) only[hd,h1,push_cast,↓reduceIte,Nat.reduceEqDiff,Nat.reduceLT,Int.reduceNeg]
   (repeat (refine And.intro (by first|omega|decide) ?_))
   refine Ba (i+1) [] (by omega) (by omega) ?_
   simp (maxSteps:=10^6) only[hb,push_cast,↓reduceIte,Nat.reduceEqDiff]
   done
  ·have hd:=Og h
   rw[Aq8 h] at hb
   simp (maxSteps:=10^6) only[hd,push_cast,↓reduceIte,Nat.reduceEqDiff,Nat.reduceLT,Int.reduceNeg]
   (repeat (refine And.intro (by first|omega|decide) ?_))
   refine Ba (i+1) [] (by omega) (by omega) ?_
   simp (maxSteps:=10^6) only[hb,push_cast,↓reduceIte,Nat.reduceEqDiff]
   done
 ·obtain rfl:i=l.length:=by omega
  simp (maxSteps:=10^6) only[hlt,List.take_length,push_cast,↓reduceIte,Nat.reduceEqDiff,Nat.reduceLT]
  done
theorem K7 {sv:Sv} {l:List Int} (hm:l.length≤1000000) (h:Bg w0 ow hp sv (l.map (Value.int .i64))):Ad prog w0 ow 77 [sv] hp (.x (.a (.v (vU64 (Cj l))))) hp:=Bc fun γ w hS=>by
 obtain⟨A,c,e1,b1,r1⟩:=h γ w hS
 rw[List.length_map] at e1
 show Calls _ _ #[sv.val γ] w _
 rw[e1]
 exact Aq9 l A c w hm r1
def Ga (v:UInt64) (n:Nat):List Int:=((List.range n).filter (Cr v)).map Int.ofNat
theorem Ara (v:UInt64) (n:Nat):Ga v (n+1)=Ga v n++(if Cr v n=true then [(n:Int)] else []):=by
 unfold Ga
 rw[List.range_succ,List.filter_append,List.map_append]
 congr 1
 by_cases h:Cr v n=true
 ·simp [h]
 ·simp [h]
theorem Arb (v:UInt64) (n:Nat):(Ga v n).length≤n:=by
 unfold Ga
 rw[List.length_map]
 have:=List.length_filter_le (Cr v) (List.range n)
 simpa using this
theorem Arc (v:UInt64):Ga v 64=Di v:=by unfold Ga Di;rfl
attribute [local irreducible] Ga
set_option maxRecDepth 100000 in
theorem Ard (v:UInt64) (w:World):Calls prog 76 #[vU64 v] w fun e w'=>∃x,e=.returned x∧Own w' w.heap.size 3 x ((Di v).map (Value.int .i64))∧Below w.heap.size w w':=by
 refine Iu (n:=19) func76 rfl ntmps76 [.x (.a (.v (vU64 v)))] (by simp) 3 (.i64 (Di v)) (fun _=>rfl) ?_
 simp (maxSteps:=10^6) only[push_cast,↓reduceIte,Nat.reduceLT]
 refine L8 3 3 (.i64 []) rfl rfl trivial (by simp (maxSteps:=10^6) only[push_cast]) ?_
 simp (maxSteps:=10^6) only[push_cast]
 refine Bj (ι:=Nat) (fun i=>⟨[(0,.x (.a (.v (vU64 v)))),(3,.x (.a (.o 0))),(5,.x (.a (.v (.int .i64 i))))],[.own 3 (.i64 (Ga v i))]⟩) (fun i=>i≤64) (fun i=>64 - i) 0 [0] (Nat.zero_le _) ?_ ?_
 ·have e0:Ga v 0=[]:=by unfold Ga;rfl
  simp (maxSteps:=10^6) only[e0,push_cast,↓Int.cast_ofNat_Int,Int.cast_ofNat_Int,↓reduceIte,reduceCtorEq,Nat.reduceEqDiff,Nat.reduceLT]
 intro i hi
 by_cases hlt:(i:Int) < 64
 ·have i0:(0:Int)≤i:=by omega
  have hs:=Ara v i
  have hl:=Arb v i
  have b1:((Ga v i).length+1)*8≤140737488355328:=by omega
  have b2:(Ga v i).length+1≤2 ^ 63 - 1:=by omega
  have hbt:Cr v i=decide (Ii v i&&& 1=1):=rfl
  by_cases hb:Ii v i&&& 1=1
  ·rw[hbt,decide_eq_true hb,if_pos rfl] at hs
   simp (maxSteps:=10^6) only[hlt,i0,hb,b1,b2,push_cast,↓Int.toNat_natCast,↓reduceIte,reduceCtorEq,Nat.reduceEqDiff,Nat.reduceLT,Nat.reduceLeDiff,Nat.reduceAdd,Int.reduceNeg]
   (repeat (refine And.intro (by first|omega|decide) ?_))
   refine Ba (i+1) [2] (by omega) (by omega) ?_
   simp (maxSteps:=10^6) only[hs,push_cast,↓reduceIte,reduceCtorEq,Nat.reduceEqDiff,Nat.reduceLT]
   done
  ·rw[hbt,decide_eq_false hb,if_neg (by decide),List.append_nil] at hs
   simp (maxSteps:=10^6) only[hlt,i0,hb,push_cast,↓Int.toNat_natCast,↓reduceIte,reduceCtorEq,Nat.reduceEqDiff,Nat.reduceLT,Int.reduceNeg]
   (repeat (refine And.intro (by first|omega|decide) ?_))
   refine Ba (i+1) [0] (by omega) (by omega) ?_
   simp (maxSteps:=10^6) only[hs,push_cast,↓reduceIte,reduceCtorEq,Nat.reduceEqDiff,Nat.reduceLT]
   done
 ·obtain rfl:i=64:=by omega
  have e9:=Arc v
  simp (maxSteps:=10^6) only[e9,push_cast,↓Int.cast_ofNat_Int,Int.cast_ofNat_Int,↓reduceIte,reduceCtorEq,Nat.reduceEqDiff,Nat.reduceLT,Int.reduceLT]
  done
theorem V6 (v:UInt64) (hbr:∀r∈hp,Res.bnd hp.length r):Ad prog w0 ow 76 [.x (.a (.v (vU64 v)))] hp (.x (.a (.o hp.length))) (hp++[.own 3 (.i64 (Di v))]):=
 Ip hbr trivial fun γ w _=>Ard v w
end
end
section
theorem Arf {l:List Int} {n:Int} (h:0≤n∧n < 64):A9 l n=decide (Ii (Cj l) n.toNat&&& 1=1):=by
 unfold A9 Cr
 rw[decide_eq_true h,Bool.true_and]
theorem Arg {l:List Int} {n:Int} (h:¬(0≤n∧n < 64)):A9 l n=false:=by
 unfold A9
 rw[decide_eq_false h,Bool.false_and]
attribute [local irreducible] Ac Ad Ah Au Ao Aj Ai Al
attribute [local irreducible] Cj Di K6 A9 Bn
section
variable {w0:World} {ow:Nat→Prop} {hp:List Res} {a b:List Int} {s1 s2:Sv}
theorem Mk {f:FuncId} {P:Program} {svs:List Sv} {s1 s2:Sv} {w0:World} {ow:Nat→Prop} {hp:List Res} {va vb:List Value} {Q:World→Ending→World→Prop} (h1:Bg w0 ow hp s1 va) (h2:Bg w0 ow hp s2 vb)
  (h:∀A c A2 c2 w,va.length≤c→vb.length≤c2→RdV w w.heap.size A va→RdV w w.heap.size A2 vb→Calls P f #[.slice A va.length c,.slice A2 vb.length c2] w (Q w)):∀γ w,Sat w0 ow γ hp w→Calls P f (List.map (Sv.val γ) [s1,s2]).toArray w (Q w):=fun γ w hS=>by
 obtain⟨A,c,e1,b1,r1⟩:=h1 γ w hS
 obtain⟨A2,c2,e2,b2,r2⟩:=h2 γ w hS
 show Calls P f #[s1.val γ,s2.val γ] w _
 rw[e1,e2]
 exact h A c A2 c2 w b1 b2 r1 r2
set_option maxRecDepth 100000 in
theorem R5 (a b:List Int) (A A2:Option Addr) (c c2:Nat) (w:World) (ha:a.length≤1000000) (hb:b.length≤1000000) (hc:a.length≤c) (hc2:b.length≤c2) (hR:RdV w w.heap.size A (a.map (Value.int .i64))) (hR2:RdV w w.heap.size A2 (b.map (Value.int .i64))):
  Calls prog 27 #[.slice A a.length c,.slice A2 b.length c2] w fun e w'=>∃x,e=.returned x∧Own w' w.heap.size 3 x ((Ak a b).map (Value.int .i64))∧Below w.heap.size w w':=by
 refine Iu (n:=11) func27 rfl ntmps27 [.x (.a (.v (.slice A a.length c))),.x (.a (.v (.slice A2 b.length c2)))] (by simp) 3 (.i64 (Ak a b)) (fun _=>rfl) ?_
 simp (maxSteps:=10^6) only[push_cast,↓reduceIte,reduceCtorEq,Nat.reduceLT]
 (repeat (refine And.intro (by first|omega|decide) ?_))
 refine Am rfl Kx rfl (K7 ha (B4 hR _ _ (by simp) hc)) (Aa rfl) ?_
 simp (maxSteps:=10^6) only[push_cast,↓reduceIte,reduceCtorEq,Nat.reduceEqDiff,Nat.reduceLT]
 (repeat (refine And.intro (by first|omega|decide) ?_))
 refine Am rfl Kx rfl (K7 hb (B4 hR2 _ _ (by simp) hc2)) (Aa rfl) ?_
 simp (maxSteps:=10^6) only[push_cast,↓reduceIte,Nat.reduceEqDiff,Nat.reduceLT]
 (repeat (refine And.intro (by first|omega|decide) ?_))
 refine Gl rfl Vg rfl (V6 _ (by simp only[push_cast])) (Aa rfl) (by simp only[push_cast]) ?_
 have e:Di (Cj a|||Cj b)=Ak a b:=rfl
 simp (maxSteps:=10^6) only[e,push_cast,↓reduceIte,Nat.reduceLT]
 done
set_option maxRecDepth 100000 in
theorem Arh (a b:List Int) (A A2:Option Addr) (c c2:Nat) (w:World) (ha:a.length≤1000000) (hb:b.length≤1000000) (hc:a.length≤c) (hc2:b.length≤c2) (hR:RdV w w.heap.size A (a.map (Value.int .i64))) (hR2:RdV w w.heap.size A2 (b.map (Value.int .i64))):
  Calls prog 26 #[.slice A a.length c,.slice A2 b.length c2] w fun e w'=>∃x,e=.returned x∧Own w' w.heap.size 3 x ((By a b).map (Value.int .i64))∧Below w.heap.size w w':=by
 refine Iu (n:=11) func26 rfl ntmps26 [.x (.a (.v (.slice A a.length c))),.x (.a (.v (.slice A2 b.length c2)))] (by simp) 3 (.i64 (By a b)) (fun _=>rfl) ?_
 simp (maxSteps:=10^6) only[push_cast,↓reduceIte,reduceCtorEq,Nat.reduceLT]
 (repeat (refine And.intro (by first|omega|decide) ?_))
 refine Am rfl Kx rfl (K7 ha (B4 hR _ _ (by simp) hc)) (Aa rfl) ?_
 simp (maxSteps:=10^6) only[push_cast,↓reduceIte,reduceCtorEq,Nat.reduceEqDiff,Nat.reduceLT]
 (repeat (refine And.intro (by first|omega|decide) ?_))
 refine Am rfl Kx rfl (K7 hb (B4 hR2 _ _ (by simp) hc2)) (Aa rfl) ?_
 simp (maxSteps:=10^6) only[push_cast,↓reduceIte,Nat.reduceEqDiff,Nat.reduceLT]
 (repeat (refine And.intro (by first|omega|decide) ?_))
 refine Gl rfl Vg rfl (V6 _ (by simp only[push_cast])) (Aa rfl) (by simp only[push_cast]) ?_
 have e:Di (Cj a&&& Cj b)=By a b:=rfl
 simp (maxSteps:=10^6) only[e,push_cast,↓reduceIte,Nat.reduceLT]
 done
theorem Ari (ha:a.length≤1000000) (hb:b.length≤1000000) (h1:Bg w0 ow hp s1 (a.map (Value.int .i64))) (h2:Bg w0 ow hp s2 (b.map (Value.int .i64))) (hbr:∀r∈hp,Res.bnd hp.length r):
  Ad prog w0 ow 27 [s1,s2] hp (.x (.a (.o hp.length))) (hp++[.own 3 (.i64 (Ak a b))]):=
 Ip hbr trivial (Mk (svs:=[]) (Q:=fun w en w'=>∃v',en=.returned v'∧Own w' w.heap.size 3 v' ((Ak a b).map (Value.int .i64))∧Below w.heap.size w w') h1 h2 fun A c A2 c2 w hc hc2 r1 r2=>by
  rw[List.length_map] at hc hc2 ⊢
  rw[List.length_map]
  exact R5 a b A A2 c c2 w ha hb hc hc2 r1 r2)
theorem Oh (ha:a.length≤1000000) (hb:b.length≤1000000) (h1:Bg w0 ow hp s1 (a.map (Value.int .i64))) (h2:Bg w0 ow hp s2 (b.map (Value.int .i64))) (hbr:∀r∈hp,Res.bnd hp.length r):
  Ad prog w0 ow 26 [s1,s2] hp (.x (.a (.o hp.length))) (hp++[.own 3 (.i64 (By a b))]):=
 Ip hbr trivial (Mk (svs:=[]) (Q:=fun w en w'=>∃v',en=.returned v'∧Own w' w.heap.size 3 v' ((By a b).map (Value.int .i64))∧Below w.heap.size w w') h1 h2 fun A c A2 c2 w hc hc2 r1 r2=>by
  rw[List.length_map] at hc hc2 ⊢
  rw[List.length_map]
  exact Arh a b A A2 c c2 w ha hb hc hc2 r1 r2)
set_option maxRecDepth 100000 in
theorem Arj (l:List Int) (n:Int) (A:Option Addr) (c:Nat) (w:World) (hm:l.length≤1000000) (hc:l.length≤c) (hR:RdV w w.heap.size A (l.map (Value.int .i64))):
  Calls prog 58 #[.slice A l.length c,.int .i64 n] w fun e w'=>e=.returned (.bool (A9 l n))∧Below w.heap.size w w':=by
 refine Bf (n:=15) func58 rfl ntmps58 [.x (.a (.v (.slice A l.length c))),.x (.a (.v (.int .i64 n)))] (by simp) (.x (.a (.v (.bool (A9 l n))))) (fun _=>rfl) ?_
 simp (maxSteps:=10^6) only[push_cast,↓reduceIte,reduceCtorEq,Nat.reduceEqDiff,Nat.reduceLT]
 (repeat (refine And.intro (by first|omega|decide) ?_))
 refine Am rfl Vk rfl (V5 _) (Aa rfl) ?_
 by_cases h:0≤n∧n < 64
 ·have hd:=R4 h
  have hh:=Arf (l:=l) h
  simp (maxSteps:=10^6) only[hd,push_cast,↓reduceIte,reduceCtorEq,Nat.reduceEqDiff,Nat.reduceLT]
  (repeat (refine And.intro (by first|omega|decide) ?_))
  refine Am rfl Kx rfl (K7 hm (B4 hR _ _ (by simp) hc)) (Aa rfl) ?_
  obtain⟨h1,h2⟩:=h
  simp (maxSteps:=10^6) only[h1,hh,push_cast,↓reduceIte,reduceCtorEq,Nat.reduceEqDiff,Nat.reduceLT]
  done
 ·have hd:=Og h
  have hh:=Arg (l:=l) h
  simp (maxSteps:=10^6) only[hd,hh,undef,push_cast,↓reduceIte,Nat.reduceEqDiff,Nat.reduceLT]
  done
theorem V7 {sv:Sv} {l:List Int} (n:Int) (hm:l.length≤1000000) (h:Bg w0 ow hp sv (l.map (Value.int .i64))):Ad prog w0 ow 58 [sv,.x (.a (.v (.int .i64 n)))] hp (.x (.a (.v (.bool (A9 l n))))) hp:=Bc fun γ w hS=>by
 obtain⟨A,c,e1,b1,r1⟩:=h γ w hS
 rw[List.length_map] at e1 b1
 show Calls _ _ #[sv.val γ,_] w _
 rw[e1]
 exact Arj l n A c w hm b1 r1
def okV (b:Bool) (n:Int):Value:=if b=true then .nilIface else .iface 91 (.int .i64 n)
theorem Gt (n:Int):okV true n=.nilIface:=rfl
theorem H8 (n:Int):okV false n=.iface 91 (.int .i64 n):=rfl
attribute [local irreducible] okV
set_option maxRecDepth 100000 in
theorem Ark (l:List Int) (A:Option Addr) (c:Nat) (w:World) (hm:l.length≤1000000) (hR:RdV w w.heap.size A (l.map (Value.int .i64))):
  Calls prog 135 #[.slice A l.length c] w fun e w'=>e=.returned (okV (Bn (-1) l) 1)∧Below w.heap.size w w':=by
 have F:=FM.of hR
 refine Bf (n:=23) func135 rfl ntmps135 [.x (.a (.v (.slice A l.length c)))] (by simp) (.x (.a (.v (okV (Bn (-1) l) 1)))) (fun _=>rfl) ?_
 simp (maxSteps:=10^6) only[push_cast,↓reduceIte,reduceCtorEq,Nat.reduceLT,Int.reduceNeg]
 refine Bj (ι:=Nat×Int) (fun x=>⟨[(3,.x (.a (.v (.int .i64 x.2)))),(6,.x (.a (.v (.slice A l.length c)))),(7,.x (.a (.v (.int .i64 l.length)))),(8,.x (.a (.v (.int .i64 (x.1:Nat)))))],[]⟩) (fun x=>x.1≤l.length∧Bn (-1) l=Bn x.2 (l.drop x.1)) (fun x=>l.length - x.1) (0,-1) [] ⟨Nat.zero_le _,rfl⟩ ?_ ?_
 ·simp (maxSteps:=10^6) only[push_cast,↓Int.cast_ofNat_Int,Int.cast_ofNat_Int,↓reduceIte,Nat.reduceEqDiff,Int.reduceNeg]
 rintro⟨i,last⟩ ⟨hi,hk⟩
 dsimp only at hi hk
 by_cases hlt:(i:Int) < l.length
 ·have hil:i < l.length:=by omega
  have i0:(0:Int)≤i:=by omega
  have c0:=F.cell i hil
  have o0:=F.ok i hil
  have hA:=F.some_ (by omega)
  have hd:l.drop i=ix l i::l.drop (i+1):=by
   rw[List.drop_eq_getElem_cons hil,ix,List.getD_eq_getElem?_getD,List.getElem?_eq_getElem hil];rfl
  rw[hd,Bn] at hk
  generalize ix l i=n at*
  have nx:(i:Int)+1≤9223372036854775807:=by omega
  by_cases hle:n≤last
  ·rw[if_pos (.inl hle)] at hk
   have hf:=H8 1
   simp (maxSteps:=10^6) only[hlt,i0,c0,o0,hA,hle,hk,hf,undef,push_cast,↓Int.toNat_natCast,↓reduceIte,reduceCtorEq,Nat.reduceEqDiff,Nat.reduceLT,Int.reduceNeg]
   done
  ·simp (maxSteps:=10^6) only[hlt,i0,c0,o0,hA,hle,push_cast,↓Int.toNat_natCast,↓reduceIte,reduceCtorEq,Nat.reduceEqDiff,Nat.reduceLT,Int.reduceNeg]
   (repeat (refine And.intro (by first|omega|decide) ?_))
   refine Am rfl Vk rfl (V5 _) (Aa rfl) ?_
   by_cases h:0≤n∧n < 64
   ·rw[if_neg (by intro e;rcases e with e|e;exact hle e;exact e h)] at hk
    have hc:=R4 h
    simp (maxSteps:=10^6) only[hc,push_cast,↓reduceIte,Nat.reduceEqDiff,Nat.reduceLT,Int.reduceNeg]
    (repeat (refine And.intro (by first|omega|decide) ?_))
    refine Ba (i+1,n) [] ⟨by show i+1≤l.length;omega,hk⟩ (by show l.length - (i+1) < l.length - i;omega) ?_
    simp (maxSteps:=10^6) only[push_cast,↓reduceIte,Nat.reduceEqDiff]
    done
   ·rw[if_pos (.inr h)] at hk
    have hc:=Og h
    have hf:=H8 1
    simp (maxSteps:=10^6) only[hc,hk,hf,push_cast,↓reduceIte,Nat.reduceEqDiff,Nat.reduceLT,Int.reduceNeg]
    done
 ·obtain rfl:i=l.length:=by omega
  rw[List.drop_length,Bn] at hk
  have hf:=Gt 1
  simp (maxSteps:=10^6) only[hlt,hk,hf,push_cast,↓reduceIte,Nat.reduceEqDiff,Nat.reduceLT,Int.reduceNeg]
  done
theorem V8 {sv:Sv} {l:List Int} (hm:l.length≤1000000) (h:Bg w0 ow hp sv (l.map (Value.int .i64))):Ad prog w0 ow 135 [sv] hp (.x (.a (.v (okV (Bn (-1) l) 1)))) hp:=Bc fun γ w hS=>by
 obtain⟨A,c,e1,b1,r1⟩:=h γ w hS
 rw[List.length_map] at e1
 show Calls _ _ #[sv.val γ] w _
 rw[e1]
 exact Ark l A c w hm r1
end
end
end Go.Proofs.YtedaafmfjhjfmaaGreatDoor
