import Derived.Test.YtiaeollemmkclaaDoorMg4
import Derived.Test.YtiaeollemmkclaaDoorMq1
/- Layer 16's document: its forms and names, and what may be. -/
namespace Go.Proofs.YtiaeollemmkclaaDoor
open Go.RowKit
set_option linter.unusedSimpArgs false
set_option linter.unusedVariables false
theorem Ns {R G:Prop} (q:Prop) (h:(q→G)→R) (k:q→G):R:=h k
theorem Ad3 {k:UInt8} (h:¬19 < k):k=0∨k=1∨k=2∨k=3∨k=4∨k=5∨k=6∨k=7∨k=8∨k=9∨k=10∨k=11∨k=12∨k=13∨k=14∨k=15∨k=16∨k=17∨k=18∨k=19:=by
 have h1:=mt UInt8.lt_iff_toNat_lt.2 h
 have h2:(19:UInt8).toNat=19:=rfl
 have e:∀n:Nat,k.toNat=n→k=UInt8.ofNat n:=fun n h=>by rw[←h];exact (UInt8.ofNat_toNat).symm
 have h3:k.toNat < 20:=by omega
 obtain⟨n,hn⟩:∃n,n=k.toNat:=⟨_,rfl⟩
 rw[←hn] at h3
 have hk:=e n hn.symm
 clear hn h1
 match n,h3 with
 |0,_=>exact .inl hk
 |1,_=>exact .inr (.inl hk)
 |2,_=>exact .inr (.inr (.inl hk))
 |3,_=>exact .inr (.inr (.inr (.inl hk)))
 |4,_=>exact .inr (.inr (.inr (.inr (.inl hk))))
 |5,_=>exact .inr (.inr (.inr (.inr (.inr (.inl hk)))))
 |6,_=>exact .inr (.inr (.inr (.inr (.inr (.inr (.inl hk))))))
 |7,_=>exact .inr (.inr (.inr (.inr (.inr (.inr (.inr (.inl hk)))))))
 |8,_=>exact .inr (.inr (.inr (.inr (.inr (.inr (.inr (.inr (.inl hk))))))))
 |9,_=>exact .inr (.inr (.inr (.inr (.inr (.inr (.inr (.inr (.inr (.inl hk)))))))))
 |10,_=>exact .inr (.inr (.inr (.inr (.inr (.inr (.inr (.inr (.inr (.inr (.inl hk))))))))))
 |11,_=>exact .inr (.inr (.inr (.inr (.inr (.inr (.inr (.inr (.inr (.inr (.inr (.inl hk)))))))))))
 |12,_=>exact .inr (.inr (.inr (.inr (.inr (.inr (.inr (.inr (.inr (.inr (.inr (.inr (.inl hk))))))))))))
 |13,_=>exact .inr (.inr (.inr (.inr (.inr (.inr (.inr (.inr (.inr (.inr (.inr (.inr (.inr (.inl hk)))))))))))))
 |14,_=>exact .inr (.inr (.inr (.inr (.inr (.inr (.inr (.inr (.inr (.inr (.inr (.inr (.inr (.inr (.inl hk))))))))))))))
 |15,_=>exact .inr (.inr (.inr (.inr (.inr (.inr (.inr (.inr (.inr (.inr (.inr (.inr (.inr (.inr (.inr (.inl hk)))))))))))))))
 |16,_=>exact .inr (.inr (.inr (.inr (.inr (.inr (.inr (.inr (.inr (.inr (.inr (.inr (.inr (.inr (.inr (.inr (.inl hk))))))))))))))))
 |17,_=>exact .inr (.inr (.inr (.inr (.inr (.inr (.inr (.inr (.inr (.inr (.inr (.inr (.inr (.inr (.inr (.inr (.inr (.inl hk)))))))))))))))))
 |18,_=>exact .inr (.inr (.inr (.inr (.inr (.inr (.inr (.inr (.inr (.inr (.inr (.inr (.inr (.inr (.inr (.inr (.inr (.inr (.inl hk))))))))))))))))))
 |19,_=>exact .inr (.inr (.inr (.inr (.inr (.inr (.inr (.inr (.inr (.inr (.inr (.inr (.inr (.inr (.inr (.inr (.inr (.inr (.inr (hk)))))))))))))))))))
 |n+20,h=>exact absurd h (by omega)
theorem A9h {k:UInt8} (h:19 < k):Aj k=[]:=(Xi k).2 (.inr h)
theorem A9i {k:UInt8} (h:19 < k):(Hx k).1=[]:=by
 have hk:∀n:UInt8,¬19 < n→k≠n:=fun n hn e=>hn (e▸h)
 unfold Hx
 rw[if_neg (hk 1 (by decide)),if_neg (hk 2 (by decide)),if_neg (hk 3 (by decide)),if_neg (hk 4 (by decide)),if_neg (hk 5 (by decide)),if_neg (hk 6 (by decide)),if_neg (hk 7 (by decide)),if_neg (hk 8 (by decide)),if_neg (hk 9 (by decide)),if_neg (hk 10 (by decide)),if_neg (hk 11 (by decide)),if_neg (hk 12 (by decide)),if_neg (hk 13 (by decide)),if_neg (hk 14 (by decide)),if_neg (hk 15 (by decide)),if_neg (hk 16 (by decide)),if_neg (hk 17 (by decide)),if_neg (hk 18 (by decide)),if_neg (hk 19 (by decide))]
attribute [local irreducible] Af Ad Av Bh Bf A6 Aw A9
section
set_option maxRecDepth 100000 in
set_option maxHeartbeats 4000000 in
theorem A9j (k:UInt8) (w:World):Calls Tryd.prog 49 #[vU8 k] w fun e w'=>e=.returned (.string (Ah k))∧Below w.heap.size w w':=by
 refine By (n:=11) Tryd.func49 rfl Tryd.ntmps49 [.x (.a (.v (vU8 k)))] (by simp) (.x (.a (.v (.string (Ah k))))) (fun _=>rfl) ?_
 by_cases h:19 < k
 ·have e:Ah k=⟨#[]⟩:=by show Fa _=_;rw[A9h h];rfl
  simp (maxSteps:=10^6) only[h,e,push_cast,↓reduceIte,reduceCtorEq,Nat.reduceLT,Nat.reduceLeDiff,Nat.reduceAdd]
  done
 rcases Ad3 h with rfl|rfl|rfl|rfl|rfl|rfl|rfl|rfl|rfl|rfl|rfl|rfl|rfl|rfl|rfl|rfl|rfl|rfl|rfl|rfl
 all_goals
  simp (maxSteps:=10^6) only[h,undef,push_cast,↓Int.cast_ofNat_Int,Int.cast_ofNat_Int,↓reduceIte,reduceCtorEq,Nat.reduceEqDiff,Nat.reduceLT,Nat.reduceLeDiff,Nat.reduceAdd]
  first|rfl|exact⟨by decide,by decide,rfl⟩|exact⟨by decide,by decide,by decide⟩
theorem L4 {w0:World} {ow:Nat→Prop} {hp:List Res} (k:UInt8):Ad Tryd.prog w0 ow 49 [.x (.a (.v (vU8 k)))] hp (.x (.a (.v (.string (Ah k))))) hp:=Ca fun γ w _=>A9j k w
set_option maxRecDepth 100000 in
set_option maxHeartbeats 4000000 in
theorem A9k (k:UInt8) (w:World):Calls Tryd.prog 51 #[vU8 k] w fun e w'=>e=.returned (.string (Hf k))∧Below w.heap.size w w':=by
 refine By (n:=11) Tryd.func51 rfl Tryd.ntmps51 [.x (.a (.v (vU8 k)))] (by simp) (.x (.a (.v (.string (Hf k))))) (fun _=>rfl) ?_
 by_cases h:19 < k
 ·have e:Hf k=⟨#[]⟩:=by show Fa _=_;rw[A9i h];rfl
  simp (maxSteps:=10^6) only[h,e,push_cast,↓reduceIte,reduceCtorEq,Nat.reduceLT,Nat.reduceLeDiff,Nat.reduceAdd]
  done
 rcases Ad3 h with rfl|rfl|rfl|rfl|rfl|rfl|rfl|rfl|rfl|rfl|rfl|rfl|rfl|rfl|rfl|rfl|rfl|rfl|rfl|rfl
 all_goals
  simp (maxSteps:=10^6) only[h,undef,push_cast,↓Int.cast_ofNat_Int,Int.cast_ofNat_Int,↓reduceIte,reduceCtorEq,Nat.reduceEqDiff,Nat.reduceLT,Nat.reduceLeDiff,Nat.reduceAdd]
  first|rfl|exact⟨by decide,by decide,rfl⟩|exact⟨by decide,by decide,by decide⟩
theorem Ti {w0:World} {ow:Nat→Prop} {hp:List Res} (k:UInt8):Ad Tryd.prog w0 ow 51 [.x (.a (.v (vU8 k)))] hp (.x (.a (.v (.string (Hf k))))) hp:=Ca fun γ w _=>A9k k w
theorem Tj (k:UInt8):(Ah k).size≤6:=by
 have h:∀l∈Pe,l.length≤6:=by decide
 exact h _ (Sw k)
theorem Xj (k:UInt8) (i:Nat):sAt (Ah k) i=ix (Aj k) i:=rfl
attribute [local irreducible] Ah
set_option maxRecDepth 100000 in
set_option maxHeartbeats 2000000 in
theorem A9l (k c:UInt8) (w:World):Calls Tryd.prog 129 #[vU8 k,vU8 c] w fun e w'=>e=.returned (.bool (B7 k c))∧Below w.heap.size w w':=by
 obtain⟨Q,hQ⟩:∃Q,Q=B7 k c:=⟨_,rfl⟩
 rw[←hQ]
 refine By (n:=20) Tryd.func129 rfl Tryd.ntmps129 [.x (.a (.v (vU8 k))),.x (.a (.v (vU8 c)))] (by simp) (.x (.a (.v (.bool Q)))) (fun _=>rfl) ?_
 unfold B7 at hQ
 simp (maxSteps:=10^6) only[push_cast,↓reduceIte,reduceCtorEq,Nat.reduceLT]
 (repeat (refine And.intro (by first|omega|decide) ?_))
 refine A8 rfl Lj rfl (L4 k) (Aa rfl) ?_
 simp (maxSteps:=10^6) only[push_cast,↓reduceIte,Nat.reduceLT]
 (repeat (refine And.intro (by first|omega|decide) ?_))
 refine Bu (fun i:Nat=>⟨[(1,.x (.a (.v (vU8 c)))),(5,.x (.a (.v (.string (Ah k))))),(6,.x (.a (.v (.int .i64 i))))],[]⟩)
  (fun i=>i≤(Ah k).size∧Q=decide (c∈(Aj k).drop i)) (fun i=>(Ah k).size - i) 0 [] ⟨Nat.zero_le _,hQ⟩ ?_ ?_
 ·simp (maxSteps:=10^6) only[push_cast,↓Int.cast_ofNat_Int,Int.cast_ofNat_Int,↓reduceIte,reduceCtorEq,Nat.reduceEqDiff]
 rintro i ⟨hi,hg⟩
 have sz6:(Ah k).size≤6:=Tj k
 by_cases hlt':(i:Int) < ((Ah k).size:Int)
 ·have hlt:i < (Ah k).size:=by omega
  have i0:(0:Int)≤(i:Int):=by omega
  rw[Sx hlt] at hg
  have hs:=Xj k i
  generalize ix (Aj k) i=d at*
  by_cases hd:d=c
  ·have hg:Q=true:=hg.trans (decide_eq_true (by rw[hd];exact List.mem_cons_self ..))
   simp (maxSteps:=10^6) only[hlt',i0,hs,hd,hg,push_cast,↓Int.toNat_natCast,↓reduceIte,Nat.reduceEqDiff,Nat.reduceLT]
   done
  ·have hg:Q=decide (c∈(Aj k).drop (i+1)):=hg.trans (decide_eq_decide.2 ⟨fun h=>(List.mem_cons.1 h).resolve_left fun e=>hd e.symm,fun h=>List.mem_cons_of_mem _ h⟩)
   simp (maxSteps:=10^6) only[hlt',i0,hs,hd,push_cast,↓Int.toNat_natCast,↓reduceIte,Nat.reduceEqDiff,Nat.reduceLT,Int.reduceNeg]
   (repeat (refine And.intro (by first|omega|decide) ?_))
   refine Bd (i+1) [] ⟨by omega,hg⟩ (by omega) ?_
   simp (maxSteps:=10^6) only[push_cast,↓reduceIte,Nat.reduceEqDiff]
 ·obtain rfl:i=(Ah k).size:=by omega
  have hg:Q=false:=by
   rw[hg,Ji,List.drop_length]
   exact decide_eq_false (List.not_mem_nil)
  simp (maxSteps:=10^6) only[hlt',hg,push_cast,↓reduceIte,Nat.reduceEqDiff,Nat.reduceLT]
  done
theorem L5 {w0:World} {ow:Nat→Prop} {hp:List Res} (k c:UInt8):Ad Tryd.prog w0 ow 129 [.x (.a (.v (vU8 k))),.x (.a (.v (vU8 c)))] hp (.x (.a (.v (.bool (B7 k c))))) hp:=Ca fun γ w _=>A9l k c w
attribute [local irreducible] mgA B7
set_option maxRecDepth 100000 in
set_option maxHeartbeats 2000000 in
theorem A9m (m:MgR) (c:UInt8) (n most:Int) (w:World) (hm:m.Ok w):Calls Tryd.prog 128 (List.map (Sv.val []) [.x (.g (mgA m)),.x (.a (.v (vU8 c))),.x (.a (.v (.int .i64 n))),.x (.a (.v (.int .i64 most)))]).toArray w fun e w'=>e=.returned (.bool (wiQ m.k c n most))∧Below w.heap.size w w':=by
 obtain⟨Q,hQ⟩:∃Q,Q=wiQ m.k c n most:=⟨_,rfl⟩
 rw[←hQ]
 refine By (n:=26) Tryd.func128 rfl Tryd.ntmps128 [.x (.g (mgA m)),.x (.a (.v (vU8 c))),.x (.a (.v (.int .i64 n))),.x (.a (.v (.int .i64 most)))] (by simp) (.x (.a (.v (.bool Q)))) (fun _=>rfl) ?_
 obtain⟨f0,f1,f2,f3,f4,f5,f38,f39,f40,f41,f42⟩:=Dw hm.s
 have fl:=Cj hm.s
 have fs:=Gw hm.s
 have fb:=fun n=>Co m n
 simp only[At.bnd] at fb
 unfold wiQ at hQ
 by_cases h0:n=0
 ·rw[if_pos h0] at hQ
  simp (maxSteps:=10^6) only[fb,↓Ba,h0,hQ,undef,push_cast,↓reduceIte,reduceCtorEq,Nat.reduceEqDiff,Nat.reduceLT,Nat.reduceAdd]
  done
 rw[if_neg h0] at hQ
 simp (maxSteps:=10^6) only[fb,fl,f0,↓Ba,h0,undef,push_cast,↓reduceIte,reduceCtorEq,Nat.reduceEqDiff,Nat.reduceLT,Nat.reduceAdd]
 (repeat (refine And.intro (by first|omega|decide) ?_))
 refine A8 rfl Ln rfl (L5 m.k c) (Aa rfl) ?_
 cases hh:B7 m.k c with
 |false=>
  rw[hh,if_neg (by decide)] at hQ
  simp (maxSteps:=10^6) only[hQ,undef,push_cast,↓reduceIte,Nat.reduceEqDiff,Nat.reduceLT]
  done
 |true=>
  rw[hh,if_pos rfl] at hQ
  by_cases h1:0 < n
  ·rw[if_pos h1] at hQ
   by_cases h2:n≤most
   ·rw[decide_eq_true h2] at hQ
    simp (maxSteps:=10^6) only[h1,h2,hQ,push_cast,↓reduceIte,reduceCtorEq,Nat.reduceEqDiff,Nat.reduceLT]
    done
   ·rw[decide_eq_false h2] at hQ
    simp (maxSteps:=10^6) only[h1,h2,hQ,push_cast,↓reduceIte,reduceCtorEq,Nat.reduceEqDiff,Nat.reduceLT]
    done
  ·rw[if_neg h1] at hQ
   simp (maxSteps:=10^6) only[h1,hQ,undef,push_cast,↓reduceIte,reduceCtorEq,Nat.reduceEqDiff,Nat.reduceLT]
   done
theorem Pu {w0:World} {hp:List Res} {s:Sv} {m:MgS} (c:UInt8) (n most:Int) (h:Dg w0 hp s m):Ad Tryd.prog w0 No 128 [s,.x (.a (.v (vU8 c))),.x (.a (.v (.int .i64 n))),.x (.a (.v (.int .i64 most)))] hp (.x (.a (.v (.bool (wiQ m.k c n most))))) hp:=Ca fun γ w hS=>by
 obtain⟨a,e,h1,rfl⟩:=h γ w hS
 have e:List.map (Sv.val γ) [s,.x (.a (.v (vU8 c))),.x (.a (.v (.int .i64 n))),.x (.a (.v (.int .i64 most)))]=List.map (Sv.val []) [.x (.g (mgA a)),.x (.a (.v (vU8 c))),.x (.a (.v (.int .i64 n))),.x (.a (.v (.int .i64 most)))]:=by
  simp only[List.map_cons,List.map_nil,e,Es]
  rfl
 rw[e]
 exact A9m a c n most w h1
set_option maxRecDepth 100000 in
set_option maxHeartbeats 2000000 in
theorem A9n (l:List Int) (A:Option Addr) (c:Nat) (w:World) (hl:l.length≤1000000) (hR:RdV w w.heap.size A (l.map (Value.int .i64))):Calls Tryd.prog 130 #[.slice A l.length c] w fun e w'=>e=.returned (.bool (B6 (-1) l))∧Below w.heap.size w w':=by
 obtain⟨Q,hQ⟩:∃Q,Q=B6 (-1) l:=⟨_,rfl⟩
 rw[←hQ]
 refine By (n:=38) Tryd.func130 rfl Tryd.ntmps130 [.x (.a (.v (.slice A l.length c)))] (by simp) (.x (.a (.v (.bool Q)))) (fun _=>rfl) ?_
 have F:=FM.of hR
 simp (maxSteps:=10^6) only[push_cast,↓reduceIte,Nat.reduceLT]
 refine Bu (ι:=Nat×Int) (fun x=>⟨[(0,.x (.a (.v (.slice A l.length c)))),(3,.x (.a (.v (.int .i64 (x.1:Nat)))))],[]⟩)
  (fun x=>x.1≤l.length∧Q=B6 x.2 (l.drop x.1)∧(x.1=0→x.2=-1)∧(0 < x.1→ix l (x.1 - 1)=x.2)) (fun x=>l.length - x.1) (0,-1) [] ⟨Nat.zero_le _,hQ,fun _=>rfl,fun h=>absurd h (Nat.lt_irrefl 0)⟩ ?_ ?_
 ·simp (maxSteps:=10^6) only[push_cast,↓Int.cast_ofNat_Int,Int.cast_ofNat_Int,↓reduceIte,reduceCtorEq]
 rintro⟨i,last⟩ ⟨hi,hk,hz,hp⟩
 dsimp only at hi hk hz hp
 by_cases hlt:(i:Int) < l.length
 ·have hil:i < l.length:=by omega
  have i0:(0:Int)≤i:=by omega
  have c0:=F.cell i hil
  have o0:=F.ok i hil
  have hA:=F.some_ (by omega)
  have hd:l.drop i=ix l i::l.drop (i+1):=by
   rw[List.drop_eq_getElem_cons hil,ix,List.getD_eq_getElem?_getD,List.getElem?_eq_getElem hil];rfl
  rw[hd,B6] at hk
  have nx:(i:Int)+1≤9223372036854775807:=by omega
  obtain⟨n,hn⟩:∃n,n=ix l i:=⟨_,rfl⟩
  rw[←hn] at hk c0
  simp (maxSteps:=10^6) only[hlt,push_cast,↓reduceIte,reduceCtorEq,Nat.reduceEqDiff,Nat.reduceLT,Int.reduceNeg]
  refine Ew [(0,true),(1,true),(2,true),(3,true),(4,true),(5,true),(6,true),(7,true),(8,true),(9,true),(10,true),(11,true),(12,true),(13,true),(14,true),(15,true),(16,true),(17,true),(18,true),(19,true),(20,true),(21,true),(22,true),(23,true),(24,true),(25,true),(26,true),(27,true)] (by kernel_rfl) (by kernel_rfl) rfl (by kernel_rfl) ?_
  by_cases h1:n < 0
  ·rw[if_pos (.inr (by omega))] at hk
   simp (maxSteps:=10^6) only[hlt,i0,c0,o0,hA,h1,hk,undef,push_cast,↓Int.toNat_natCast,↓reduceIte,reduceCtorEq,Nat.reduceEqDiff,Nat.reduceLT,Int.reduceNeg]
   done
  by_cases h2:63 < n
  ·rw[if_pos (.inr (by omega))] at hk
   simp (maxSteps:=10^6) only[hlt,i0,c0,o0,hA,h1,h2,hk,undef,push_cast,↓Int.toNat_natCast,↓reduceIte,reduceCtorEq,Nat.reduceEqDiff,Nat.reduceLT,Int.reduceNeg]
   done
  have go:¬n≤last→Q=B6 n (l.drop (i+1)):=fun h=>by rw[hk,if_neg fun e=>e.elim h fun e=>e (by omega)]
  by_cases h0:(0:Int) < i
  ·have e0:=F.cell (i - 1) (by omega)
   have p0:=F.ok (i - 1) (by omega)
   rw[hp (by omega)] at e0
   have hk1:((i:Int) - 1).toNat=i - 1:=by omega
   have hk2:(0:Int)≤(i:Int) - 1:=by omega
   have hk3:(i:Int) - 1 < l.length:=by omega
   have hk4:(-9223372036854775808:Int)≤(i:Int) - 1:=by omega
   have hk5:(i:Int) - 1≤9223372036854775807:=by omega
   by_cases h3:n≤last
   ·rw[if_pos (.inl h3)] at hk
    simp (maxSteps:=10^6) only[hlt,i0,c0,o0,e0,p0,hk1,hk2,hk3,hA,h0,h1,h2,h3,hk,push_cast,↓Int.toNat_natCast,↓reduceIte,reduceCtorEq,Nat.reduceEqDiff,Nat.reduceLT,Int.reduceNeg]
    try omega
   ·simp (maxSteps:=10^6) only[hlt,i0,c0,o0,e0,p0,hk1,hk2,hk3,hA,h0,h1,h2,h3,push_cast,↓Int.toNat_natCast,↓reduceIte,reduceCtorEq,Nat.reduceEqDiff,Nat.reduceLT,Int.reduceNeg]
    try refine⟨by omega,?_⟩
    (repeat (refine And.intro (by first|omega|decide) ?_))
    refine Bd (i+1,n) [] ⟨by show i+1≤l.length;omega,go h3,fun h=>absurd h (Nat.succ_ne_zero i),fun _=>hn.symm⟩ (by show l.length - (i+1) < l.length - i;omega) ?_
    simp (maxSteps:=10^6) only[push_cast,↓reduceIte,reduceCtorEq]
    done
  ·have h3:¬n≤last:=by rw[hz (by omega)];omega
   simp (maxSteps:=10^6) only[hlt,i0,c0,o0,hA,h0,h1,h2,undef,push_cast,↓Int.toNat_natCast,↓reduceIte,reduceCtorEq,Nat.reduceEqDiff,Nat.reduceLT,Int.reduceNeg]
   (repeat (refine And.intro (by first|omega|decide) ?_))
   refine Bd (i+1,n) [] ⟨by show i+1≤l.length;omega,go h3,fun h=>absurd h (Nat.succ_ne_zero i),fun _=>hn.symm⟩ (by show l.length - (i+1) < l.length - i;omega) ?_
   simp (maxSteps:=10^6) only[push_cast,↓reduceIte,reduceCtorEq]
   done
 ·obtain rfl:i=l.length:=by omega
  rw[List.drop_length,B6] at hk
  simp (maxSteps:=10^6) only[hlt,hk,push_cast,↓reduceIte,reduceCtorEq,Nat.reduceEqDiff,Nat.reduceLT,Int.reduceNeg]
  done
theorem A9o {w0:World} {ow:Nat→Prop} {hp:List Res} {sv:Sv} {l:List Int} (hm:l.length≤1000000) (h:Cx w0 ow hp sv (l.map (Value.int .i64))):Ad Tryd.prog w0 ow 130 [sv] hp (.x (.a (.v (.bool (B6 (-1) l))))) hp:=Ca fun γ w hS=>by
 obtain⟨A,c,e1,b1,r1⟩:=h γ w hS
 rw[List.length_map] at e1
 show Calls _ _ #[sv.val γ] w _
 rw[e1]
 exact A9n l A c w hm r1
end
end Go.Proofs.YtiaeollemmkclaaDoor
