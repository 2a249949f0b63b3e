import Derived.Test.YtedaafmfjhjfmaaGreatDoorPc
import Derived.Test.YtedaafmfjhjfmaaGreatDoorShA
/- The plain law of layer 16: messages, their forms, as bytes, of bytes. No program in sight. -/
namespace Go.Proofs.YtedaafmfjhjfmaaGreatDoor
structure MgS where
 k:UInt8
 pl:Int
 ot:Int
 cl:Int
 ge:Int
 nu:UInt64
 sm:List UInt8
 ids:List Int
 ns:List UInt64
 ps:List Pr
 xs:List UInt32
 re:Int
deriving DecidableEq
def Ko:MgS:=⟨0,0,0,0,0,0,List.replicate 32 0,[],[],[],[],0⟩
instance:Inhabited MgS:=⟨Ko⟩
def L4 (k:UInt8):List UInt8×List UInt8:=
 if k=1 then ([106,111,105,110],[99,103,110,115]) else if k=2 then ([114,111,115,116,101,114],[103,112])
 else if k=3 then ([98,111,120],[99,103,118]) else if k=4 then ([98,111,120,101,115],[103,105,118])
 else if k=5 then ([109,97,115,107,101,100],[99,103,120]) else if k=6 then ([112,97,114,116,105,97,108],[97,103,105,120,112,118])
 else if k=7 then ([116,97,107,101,110],[97,103]) else if k=8 then ([97,115,107],[97,103,105])
 else if k=9 then ([103,105,118,101],[99,103,118]) else if k=10 then ([103,105,118,101,110],[97,99,103,118])
 else if k=11 then ([97,98,111,114,116],[114]) else if k=12 then ([100,111,110,101],[105,120])
 else if k=13 then ([112,105,110,103],[97,103]) else if k=14 then ([112,111,110,103],[97,103])
 else if k=15 then ([115,116,101,112],[97,103]) else if k=16 then ([109,111,118,101],[97,111,103])
 else if k=17 then ([108,111,115,116],[103,105]) else if k=18 then ([108,97,116,101],[99,103])
 else if k=19 then ([113,117,105,116],[114]) else ([],[])
def Cg (k:UInt8):List UInt8:=(L4 k).2
def wiM (n most:Int):Bool:=decide (0≤n∧n≤most)
def pm1:UInt64:=2305843009213693950
def Kp (m:MgS) (c:UInt8):Bool:=
 if c=97 then wiM m.pl 15 else if c=111 then wiM m.ot 15 else if c=99 then wiM m.cl 63 else if c=103 then wiM m.ge 1073741824
 else if c=110 then decide (m.nu≤pm1) else if c=115 then true else if c=105 then Br (-1) m.ids
 else if c=118 then decide (m.ns.length≤128)&&!(m.ns.any fun v=>decide (pm1 < v)) else if c=112 then may m.ps
 else if c=120 then decide (m.xs.length≤32) else if c=114 then wiM m.re 255 else false
def Nc (m:MgS) (c:UInt8):MgS:=
 if c=97 then {m with pl:=0} else if c=111 then {m with ot:=0} else if c=99 then {m with cl:=0} else if c=103 then {m with ge:=0}
 else if c=110 then {m with nu:=0} else if c=115 then {m with sm:=List.replicate 32 0} else if c=105 then {m with ids:=[]}
 else if c=118 then {m with ns:=[]} else if c=112 then {m with ps:=[]} else if c=120 then {m with xs:=[]} else if c=114 then {m with re:=0} else m
def L5 (m:MgS):List UInt8→MgS→Bool
 |[],r=>decide (r=Ko)
 |c::f,r=>if Kp m c=true then L5 m f (Nc r c) else false
def Cd (m:MgS):Bool:=if Cg m.k=[] then false else L5 m (Cg m.k) {m with k:=0}
def Q8 (l:List Int):List UInt64:=l.map UInt64.ofInt
def Aaq (l:List UInt64):List Int:=l.map fun v=>(v.toNat:Int)
def Azq (m:MgS) (c:UInt8):List (List UInt8):=
 if c=97 then [Ht (UInt64.ofInt m.pl)] else if c=111 then [Ht (UInt64.ofInt m.ot)] else if c=99 then [Ht (UInt64.ofInt m.cl)] else if c=103 then [Ht (UInt64.ofInt m.ge)]
 else if c=110 then [Ht m.nu] else if c=115 then [m.sm] else if c=105 then [Jg (Q8 m.ids)++M8 (Q8 m.ids)]
 else if c=118 then [Jg m.ns++M8 m.ns] else if c=112 then [Jg (Q8 (m.ps.map (·.1)))++M8 (Q8 (m.ps.map (·.1))),Jg (m.ps.map (·.2))++M8 (m.ps.map (·.2))]
 else if c=120 then [Jg m.xs++Aab m.xs] else if c=114 then [Ht (UInt64.ofInt m.re)] else []
def fbM (m:MgS) (c:UInt8):List UInt8:=(Azq m c).flatten
def A91 (m:MgS):List UInt8:=Ht m.k.toUInt64++(Cg m.k).flatMap (fbM m)
def Azr (c:UInt8) (st:Rs) (m:MgS):Option (MgS×Rs):=
 if c=97 then some ({m with pl:=((Ct 15 st).1.toNat:Int)},(Ct 15 st).2.2)
 else if c=111 then some ({m with ot:=((Ct 15 st).1.toNat:Int)},(Ct 15 st).2.2)
 else if c=99 then some ({m with cl:=((Ct 63 st).1.toNat:Int)},(Ct 63 st).2.2)
 else if c=103 then some ({m with ge:=((Ct 1073741824 st).1.toNat:Int)},(Ct 1073741824 st).2.2)
 else if c=110 then some ({m with nu:=(Ct pm1 st).1},(Ct pm1 st).2.2)
 else if c=115 then some ({m with sm:=(Qz st).1},(Qz st).2)
 else if c=105 then some ({m with ids:=Aaq (Fg 64 63 st).1},(Fg 64 63 st).2)
 else if c=118 then some ({m with ns:=(Fg 128 pm1 st).1},(Fg 128 pm1 st).2)
 else if c=112 then (if (Fg 64 63 st).1.length=(Fg 64 pm1 (Fg 64 63 st).2).1.length then some ({m with ps:=m.ps++(Aaq (Fg 64 63 st).1).zip (Fg 64 pm1 (Fg 64 63 st).2).1},(Fg 64 pm1 (Fg 64 63 st).2).2) else none)
 else if c=120 then some ({m with xs:=(Q0 32 st).1},(Q0 32 st).2)
 else if c=114 then some ({m with re:=((Ct 255 st).1.toNat:Int)},(Ct 255 st).2.2) else some (m,st)
def Aar:List UInt8→MgS→Rs→Option (MgS×Rs)
 |[],m,st=>some (m,st)
 |c::f,m,st=>match Azr c st m with
  |none=>none
  |some (m',st')=>Aar f m' st'
def Azs:Option (MgS×Rs)→Option MgS
 |none=>none
 |some (m,st)=>if st=([],false)∧Cd m=true then some m else none
def A92 (b:List UInt8):Option MgS:=Azs (Aar (Cg (Ct 255 (b,false)).1.toUInt8) {Ko with k:=(Ct 255 (b,false)).1.toUInt8} (Ct 255 (b,false)).2.2)
def Aas (m':MgS) (c:UInt8) (m:MgS):MgS:=
 if c=97 then {m' with pl:=m.pl} else if c=111 then {m' with ot:=m.ot} else if c=99 then {m' with cl:=m.cl} else if c=103 then {m' with ge:=m.ge}
 else if c=110 then {m' with nu:=m.nu} else if c=115 then {m' with sm:=m.sm} else if c=105 then {m' with ids:=m.ids}
 else if c=118 then {m' with ns:=m.ns} else if c=112 then {m' with ps:=m'.ps++m.ps} else if c=120 then {m' with xs:=m.xs} else if c=114 then {m' with re:=m.re} else m'
def A93 (r:Option (MgS×Rs)):Prop:=r=none∨∃m,r=some (m,Hu)
structure Jn (m m' r:MgS):Prop where
 pl:m'.pl=m.pl∨m'.pl=0∧r.pl=m.pl
 ot:m'.ot=m.ot∨m'.ot=0∧r.ot=m.ot
 cl:m'.cl=m.cl∨m'.cl=0∧r.cl=m.cl
 ge:m'.ge=m.ge∨m'.ge=0∧r.ge=m.ge
 nu:m'.nu=m.nu∨m'.nu=0∧r.nu=m.nu
 sm:m'.sm=m.sm∨m'.sm=List.replicate 32 0∧r.sm=m.sm
 ids:m'.ids=m.ids∨m'.ids=[]∧r.ids=m.ids
 ns:m'.ns=m.ns∨m'.ns=[]∧r.ns=m.ns
 xs:m'.xs=m.xs∨m'.xs=[]∧r.xs=m.xs
 re:m'.re=m.re∨m'.re=0∧r.re=m.re
 k:m'.k=m.k
theorem Jn.step {m m' r:MgS} (h:Jn m m' r) (c:UInt8):Jn m (Aas m' c m) (Nc r c):=by
 unfold Aas Nc
 by_cases h1:c=97
 ·simp only[if_pos h1];exact⟨.inl rfl,h.ot,h.cl,h.ge,h.nu,h.sm,h.ids,h.ns,h.xs,h.re,h.k⟩
 simp only[if_neg h1]
 by_cases h1:c=111
 ·simp only[if_pos h1];exact⟨h.pl,.inl rfl,h.cl,h.ge,h.nu,h.sm,h.ids,h.ns,h.xs,h.re,h.k⟩
 simp only[if_neg h1]
 by_cases h1:c=99
 ·simp only[if_pos h1];exact⟨h.pl,h.ot,.inl rfl,h.ge,h.nu,h.sm,h.ids,h.ns,h.xs,h.re,h.k⟩
 simp only[if_neg h1]
 by_cases h1:c=103
 ·simp only[if_pos h1];exact⟨h.pl,h.ot,h.cl,.inl rfl,h.nu,h.sm,h.ids,h.ns,h.xs,h.re,h.k⟩
 simp only[if_neg h1]
 by_cases h1:c=110
 ·simp only[if_pos h1];exact⟨h.pl,h.ot,h.cl,h.ge,.inl rfl,h.sm,h.ids,h.ns,h.xs,h.re,h.k⟩
 simp only[if_neg h1]
 by_cases h1:c=115
 ·simp only[if_pos h1];exact⟨h.pl,h.ot,h.cl,h.ge,h.nu,.inl rfl,h.ids,h.ns,h.xs,h.re,h.k⟩
 simp only[if_neg h1]
 by_cases h1:c=105
 ·simp only[if_pos h1];exact⟨h.pl,h.ot,h.cl,h.ge,h.nu,h.sm,.inl rfl,h.ns,h.xs,h.re,h.k⟩
 simp only[if_neg h1]
 by_cases h1:c=118
 ·simp only[if_pos h1];exact⟨h.pl,h.ot,h.cl,h.ge,h.nu,h.sm,h.ids,.inl rfl,h.xs,h.re,h.k⟩
 simp only[if_neg h1]
 by_cases h1:c=112
 ·simp only[if_pos h1];exact⟨h.pl,h.ot,h.cl,h.ge,h.nu,h.sm,h.ids,h.ns,h.xs,h.re,h.k⟩
 simp only[if_neg h1]
 by_cases h1:c=120
 ·simp only[if_pos h1];exact⟨h.pl,h.ot,h.cl,h.ge,h.nu,h.sm,h.ids,h.ns,.inl rfl,h.re,h.k⟩
 simp only[if_neg h1]
 by_cases h1:c=114
 ·simp only[if_pos h1];exact⟨h.pl,h.ot,h.cl,h.ge,h.nu,h.sm,h.ids,h.ns,h.xs,.inl rfl,h.k⟩
 simp only[if_neg h1]
 exact h
end Go.Proofs.YtedaafmfjhjfmaaGreatDoor
/- Layer 15: sets (set.can, Bits, From, Either, Both, Less, Has, Check). -/
namespace Go.Proofs.YtedaafmfjhjfmaaGreatDoor
open Go.RowKit
set_option linter.unusedSimpArgs false
set_option linter.unusedVariables false
def Kq (n:Int):Bool:=decide (0≤n∧n < 64)
theorem Q9 {n:Int} (h:0≤n∧n < 64):Kq n=true:=decide_eq_true h
theorem Nd {n:Int} (h:¬(0≤n∧n < 64)):Kq n=false:=decide_eq_false h
attribute [local irreducible] Ah Ai Am Bc A7 Ay Ap A6
attribute [local irreducible] Cu Dm Ij Kq
section
variable {w0:World} {ow:Nat→Prop} {hp:List Res}
set_option maxRecDepth 100000 in
theorem Azt (n:Int) (w:World):Calls Tryz.prog 120 #[.int .i64 n] w fun e w'=>e=.returned (.bool (Kq n))∧Below w.heap.size w w':=by
 refine Bm (n:=9) Tryz.func120 rfl Tryz.ntmps120 [.x (.a (.v (.int .i64 n)))] (by simp) (.x (.a (.v (.bool (Kq n))))) (fun _=>rfl) ?_
 by_cases h:(0:Int)≤n
 ·by_cases h1:n < 64
  ·have hd:=Q9 ⟨h,h1⟩
   simp (maxSteps:=10^6) only[h,h1,hd,push_cast,↓reduceIte,reduceCtorEq,Nat.reduceEqDiff,Nat.reduceLT]
   done
  ·have hd:=Nd (n:=n) fun e=>h1 e.2
   simp (maxSteps:=10^6) only[h,h1,hd,push_cast,↓reduceIte,reduceCtorEq,Nat.reduceEqDiff,Nat.reduceLT]
   done
 ·have hd:=Nd (n:=n) fun e=>h e.1
  simp (maxSteps:=10^6) only[h,hd,undef,push_cast,↓reduceIte,reduceCtorEq,Nat.reduceEqDiff,Nat.reduceLT]
  done
theorem Vh (n:Int):Ai Tryz.prog w0 ow 120 [.x (.a (.v (.int .i64 n)))] hp (.x (.a (.v (.bool (Kq n))))) hp:=Bq fun γ w _=>Azt n w
theorem Azu {l:List Int} {i:Nat} (h:i < l.length):Cu (l.take (i+1))=Ij (Cu (l.take i)) (ix l i):=by
 unfold Cu
 rw[List.take_add_one,List.getElem?_eq_getElem h,Option.toList_some,List.foldl_append,List.foldl_cons,List.foldl_nil,ix,List.getD_eq_getElem?_getD,List.getElem?_eq_getElem h]
 rfl
theorem Azv {s:UInt64} {n:Int} (h:0≤n∧n < 64):Ij s n=s|||Jz 1 n.toNat:=by unfold Ij;rw[if_pos h]
theorem Azw {s:UInt64} {n:Int} (h:¬(0≤n∧n < 64)):Ij s n=s:=by unfold Ij;rw[if_neg h]
set_option maxRecDepth 100000 in
theorem Azx (l:List Int) (A:Option Addr) (c:Nat) (w:World) (hm:l.length≤1000000) (hR:RdV w w.heap.size A (l.map (Value.int .i64))):
  Calls Tryz.prog 77 #[.slice A l.length c] w fun e w'=>e=.returned (vU64 (Cu l))∧Below w.heap.size w w':=by
 have F:=FM.of hR
 refine Bm (n:=20) Tryz.func77 rfl Tryz.ntmps77 [.x (.a (.v (.slice A l.length c)))] (by simp) (.x (.a (.v (vU64 (Cu l))))) (fun _=>rfl) ?_
 simp (maxSteps:=10^6) only[push_cast,↓reduceIte,reduceCtorEq,Nat.reduceLT]
 refine B9 (ι:=Nat) (fun i=>⟨[(3,.x (.a (.v (vU64 (Cu (l.take i)))))),(6,.x (.a (.v (.slice A l.length c)))),(7,.x (.a (.v (.int .i64 l.length)))),(8,.x (.a (.v (.int .i64 i))))],[]⟩) (fun i=>i≤l.length) (fun i=>l.length - i) 0 [] (Nat.zero_le _) ?_ ?_
 ·have e0:Cu []=0:=by unfold Cu;rfl
  simp (maxSteps:=10^6) only[e0,push_cast,↓Int.cast_ofNat_Int,Int.cast_ofNat_Int,↓reduceIte,Nat.reduceEqDiff]
  rfl
 intro i hi
 by_cases hlt:(i:Int) < l.length
 ·have hil:i < l.length:=by omega
  have i0:(0:Int)≤i:=by omega
  have c0:=F.cell i hil
  have o0:=F.ok i hil
  have hA:=F.some_ (by omega)
  have hb:=Azu hil
  have nx:(i:Int)+1≤9223372036854775807:=by omega
  simp (maxSteps:=10^6) only[hlt,i0,c0,o0,hA,push_cast,↓Int.toNat_natCast,↓reduceIte,reduceCtorEq,Nat.reduceEqDiff,Nat.reduceLT]
  (repeat (refine And.intro (by first|omega|decide) ?_))
  refine Al rfl U0 rfl (Vh _) (Ae rfl) ?_
  by_cases h:0≤ix l i∧ix l i < 64
  ·have hd:=Q9 h
   rw[Azv h] at hb
   obtain⟨h1,h2⟩:=h
   simp (maxSteps:=10^6) only[hd,h1,push_cast,↓reduceIte,Nat.reduceEqDiff,Nat.reduceLT,Int.reduceNeg]
   (repeat (refine And.intro (by first|omega|decide) ?_))
   refine Bv (i+1) [] (by omega) (by omega) ?_
   simp (maxSteps:=10^6) only[hb,push_cast,↓reduceIte,Nat.reduceEqDiff]
   done
  ·have hd:=Nd h
   rw[Azw h] at hb
   simp (maxSteps:=10^6) only[hd,push_cast,↓reduceIte,Nat.reduceEqDiff,Nat.reduceLT,Int.reduceNeg]
   (repeat (refine And.intro (by first|omega|decide) ?_))
   refine Bv (i+1) [] (by omega) (by omega) ?_
   simp (maxSteps:=10^6) only[hb,push_cast,↓reduceIte,Nat.reduceEqDiff]
   done
 ·obtain rfl:i=l.length:=by omega
  simp (maxSteps:=10^6) only[hlt,List.take_length,push_cast,↓reduceIte,Nat.reduceEqDiff,Nat.reduceLT]
  done
theorem Nf {sv:Sv} {l:List Int} (hm:l.length≤1000000) (h:B3 w0 ow hp sv (l.map (Value.int .i64))):Ai Tryz.prog w0 ow 77 [sv] hp (.x (.a (.v (vU64 (Cu l))))) hp:=Bq fun γ w hS=>by
 obtain⟨A,c,e1,b1,r1⟩:=h γ w hS
 rw[List.length_map] at e1
 show Calls _ _ #[sv.val γ] w _
 rw[e1]
 exact Azx l A c w hm r1
def Fy (v:UInt64) (n:Nat):List Int:=((List.range n).filter (Df v)).map Int.ofNat
theorem Azy (v:UInt64) (n:Nat):Fy v (n+1)=Fy v n++(if Df v n=true then [(n:Int)] else []):=by
 unfold Fy
 rw[List.range_succ,List.filter_append,List.map_append]
 congr 1
 by_cases h:Df v n=true
 ·simp [h]
 ·simp [h]
theorem Azz (v:UInt64) (n:Nat):(Fy v n).length≤n:=by
 unfold Fy
 rw[List.length_map]
 have:=List.length_filter_le (Df v) (List.range n)
 simpa using this
theorem Az0 (v:UInt64):Fy v 64=Dm v:=by unfold Fy Dm;rfl
attribute [local irreducible] Fy
set_option maxRecDepth 100000 in
theorem Az1 (v:UInt64) (w:World):Calls Tryz.prog 76 #[vU64 v] w fun e w'=>∃x,e=.returned x∧Own w' w.heap.size 3 x ((Dm v).map (Value.int .i64))∧Below w.heap.size w w':=by
 refine Jb (n:=19) Tryz.func76 rfl Tryz.ntmps76 [.x (.a (.v (vU64 v)))] (by simp) 3 (.i64 (Dm v)) (fun _=>rfl) ?_
 simp (maxSteps:=10^6) only[push_cast,↓reduceIte,Nat.reduceLT]
 refine M0 3 3 (.i64 []) rfl rfl trivial (by simp (maxSteps:=10^6) only[push_cast]) ?_
 simp (maxSteps:=10^6) only[push_cast]
 refine B9 (ι:=Nat) (fun i=>⟨[(0,.x (.a (.v (vU64 v)))),(3,.x (.a (.o 0))),(5,.x (.a (.v (.int .i64 i))))],[.own 3 (.i64 (Fy v i))]⟩) (fun i=>i≤64) (fun i=>64 - i) 0 [0] (Nat.zero_le _) ?_ ?_
 ·have e0:Fy v 0=[]:=by unfold Fy;rfl
  simp (maxSteps:=10^6) only[e0,push_cast,↓Int.cast_ofNat_Int,Int.cast_ofNat_Int,↓reduceIte,reduceCtorEq,Nat.reduceEqDiff,Nat.reduceLT]
 intro i hi
 by_cases hlt:(i:Int) < 64
 ·have i0:(0:Int)≤i:=by omega
  have hs:=Azy v i
  have hl:=Azz v i
  have b1:((Fy v i).length+1)*8≤140737488355328:=by omega
  have b2:(Fy v i).length+1≤2 ^ 63 - 1:=by omega
  have hbt:Df v i=decide (H9 v i&&& 1=1):=rfl
  by_cases hb:H9 v i&&& 1=1
  ·rw[hbt,decide_eq_true hb,if_pos rfl] at hs
   simp (maxSteps:=10^6) only[hlt,i0,hb,b1,b2,push_cast,↓Int.toNat_natCast,↓reduceIte,reduceCtorEq,Nat.reduceEqDiff,Nat.reduceLT,Nat.reduceLeDiff,Nat.reduceAdd,Int.reduceNeg]
   (repeat (refine And.intro (by first|omega|decide) ?_))
   refine Bv (i+1) [2] (by omega) (by omega) ?_
   simp (maxSteps:=10^6) only[hs,push_cast,↓reduceIte,reduceCtorEq,Nat.reduceEqDiff,Nat.reduceLT]
   done
  ·rw[hbt,decide_eq_false hb,if_neg (by decide),List.append_nil] at hs
   simp (maxSteps:=10^6) only[hlt,i0,hb,push_cast,↓Int.toNat_natCast,↓reduceIte,reduceCtorEq,Nat.reduceEqDiff,Nat.reduceLT,Int.reduceNeg]
   (repeat (refine And.intro (by first|omega|decide) ?_))
   refine Bv (i+1) [0] (by omega) (by omega) ?_
   simp (maxSteps:=10^6) only[hs,push_cast,↓reduceIte,reduceCtorEq,Nat.reduceEqDiff,Nat.reduceLT]
   done
 ·obtain rfl:i=64:=by omega
  have e9:=Az0 v
  simp (maxSteps:=10^6) only[e9,push_cast,↓Int.cast_ofNat_Int,Int.cast_ofNat_Int,↓reduceIte,reduceCtorEq,Nat.reduceEqDiff,Nat.reduceLT,Int.reduceLT]
  done
theorem Aat (v:UInt64) (hbr:∀r∈hp,Res.bnd hp.length r):Ai Tryz.prog w0 ow 76 [.x (.a (.v (vU64 v)))] hp (.x (.a (.o hp.length))) (hp++[.own 3 (.i64 (Dm v))]):=
 I7 hbr trivial fun γ w _=>Az1 v w
end
end Go.Proofs.YtedaafmfjhjfmaaGreatDoor
/- Layer 15: sets out of two, what is in, what may be. -/
namespace Go.Proofs.YtedaafmfjhjfmaaGreatDoor
open Go.RowKit
set_option linter.unusedSimpArgs false
set_option linter.unusedVariables false
theorem Az2 {l:List Int} {n:Int} (h:0≤n∧n < 64):A8 l n=decide (H9 (Cu l) n.toNat&&& 1=1):=by
 unfold A8 Df
 rw[decide_eq_true h,Bool.true_and]
theorem Az3 {l:List Int} {n:Int} (h:¬(0≤n∧n < 64)):A8 l n=false:=by
 unfold A8
 rw[decide_eq_false h,Bool.false_and]
attribute [local irreducible] Ah Ai Am Bc A7 Ay Ap A6
attribute [local irreducible] Cu Dm Kq A8 Br
section
variable {w0:World} {ow:Nat→Prop} {hp:List Res} {a b:List Int} {s1 s2:Sv}
theorem Vi {f:FuncId} {P:Program} {svs:List Sv} {s1 s2:Sv} {w0:World} {ow:Nat→Prop} {hp:List Res} {va vb:List Value} {Q:World→Ending→World→Prop} (h1:B3 w0 ow hp s1 va) (h2:B3 w0 ow hp s2 vb)
  (h:∀A c A2 c2 w,va.length≤c→vb.length≤c2→RdV w w.heap.size A va→RdV w w.heap.size A2 vb→Calls P f #[.slice A va.length c,.slice A2 vb.length c2] w (Q w)):∀γ w,Sat w0 ow γ hp w→Calls P f (List.map (Sv.val γ) [s1,s2]).toArray w (Q w):=fun γ w hS=>by
 obtain⟨A,c,e1,b1,r1⟩:=h1 γ w hS
 obtain⟨A2,c2,e2,b2,r2⟩:=h2 γ w hS
 show Calls P f #[s1.val γ,s2.val γ] w _
 rw[e1,e2]
 exact h A c A2 c2 w b1 b2 r1 r2
set_option maxRecDepth 100000 in
theorem Aau (a b:List Int) (A A2:Option Addr) (c c2:Nat) (w:World) (ha:a.length≤1000000) (hb:b.length≤1000000) (hc:a.length≤c) (hc2:b.length≤c2) (hR:RdV w w.heap.size A (a.map (Value.int .i64))) (hR2:RdV w w.heap.size A2 (b.map (Value.int .i64))):
  Calls Tryz.prog 27 #[.slice A a.length c,.slice A2 b.length c2] w fun e w'=>∃x,e=.returned x∧Own w' w.heap.size 3 x ((Bj a b).map (Value.int .i64))∧Below w.heap.size w w':=by
 refine Jb (n:=11) Tryz.func27 rfl Tryz.ntmps27 [.x (.a (.v (.slice A a.length c))),.x (.a (.v (.slice A2 b.length c2)))] (by simp) 3 (.i64 (Bj a b)) (fun _=>rfl) ?_
 simp (maxSteps:=10^6) only[push_cast,↓reduceIte,reduceCtorEq,Nat.reduceLT]
 (repeat (refine And.intro (by first|omega|decide) ?_))
 refine Al rfl M3 rfl (Nf ha (Bt hR _ _ (by simp) hc)) (Ae rfl) ?_
 simp (maxSteps:=10^6) only[push_cast,↓reduceIte,reduceCtorEq,Nat.reduceEqDiff,Nat.reduceLT]
 (repeat (refine And.intro (by first|omega|decide) ?_))
 refine Al rfl M3 rfl (Nf hb (Bt hR2 _ _ (by simp) hc2)) (Ae rfl) ?_
 simp (maxSteps:=10^6) only[push_cast,↓reduceIte,Nat.reduceEqDiff,Nat.reduceLT]
 (repeat (refine And.intro (by first|omega|decide) ?_))
 refine Ig rfl Zp rfl (Aat _ (by simp only[push_cast])) (Ae rfl) (by simp only[push_cast]) ?_
 have e:Dm (Cu a|||Cu b)=Bj a b:=rfl
 simp (maxSteps:=10^6) only[e,push_cast,↓reduceIte,Nat.reduceLT]
 done
set_option maxRecDepth 100000 in
theorem Az4 (a b:List Int) (A A2:Option Addr) (c c2:Nat) (w:World) (ha:a.length≤1000000) (hb:b.length≤1000000) (hc:a.length≤c) (hc2:b.length≤c2) (hR:RdV w w.heap.size A (a.map (Value.int .i64))) (hR2:RdV w w.heap.size A2 (b.map (Value.int .i64))):
  Calls Tryz.prog 26 #[.slice A a.length c,.slice A2 b.length c2] w fun e w'=>∃x,e=.returned x∧Own w' w.heap.size 3 x ((Gf a b).map (Value.int .i64))∧Below w.heap.size w w':=by
 refine Jb (n:=11) Tryz.func26 rfl Tryz.ntmps26 [.x (.a (.v (.slice A a.length c))),.x (.a (.v (.slice A2 b.length c2)))] (by simp) 3 (.i64 (Gf a b)) (fun _=>rfl) ?_
 simp (maxSteps:=10^6) only[push_cast,↓reduceIte,reduceCtorEq,Nat.reduceLT]
 (repeat (refine And.intro (by first|omega|decide) ?_))
 refine Al rfl M3 rfl (Nf ha (Bt hR _ _ (by simp) hc)) (Ae rfl) ?_
 simp (maxSteps:=10^6) only[push_cast,↓reduceIte,reduceCtorEq,Nat.reduceEqDiff,Nat.reduceLT]
 (repeat (refine And.intro (by first|omega|decide) ?_))
 refine Al rfl M3 rfl (Nf hb (Bt hR2 _ _ (by simp) hc2)) (Ae rfl) ?_
 simp (maxSteps:=10^6) only[push_cast,↓reduceIte,Nat.reduceEqDiff,Nat.reduceLT]
 (repeat (refine And.intro (by first|omega|decide) ?_))
 refine Ig rfl Zp rfl (Aat _ (by simp only[push_cast])) (Ae rfl) (by simp only[push_cast]) ?_
 have e:Dm (Cu a&&& Cu b)=Gf a b:=rfl
 simp (maxSteps:=10^6) only[e,push_cast,↓reduceIte,Nat.reduceLT]
 done
theorem Az5 (ha:a.length≤1000000) (hb:b.length≤1000000) (h1:B3 w0 ow hp s1 (a.map (Value.int .i64))) (h2:B3 w0 ow hp s2 (b.map (Value.int .i64))) (hbr:∀r∈hp,Res.bnd hp.length r):
  Ai Tryz.prog w0 ow 27 [s1,s2] hp (.x (.a (.o hp.length))) (hp++[.own 3 (.i64 (Bj a b))]):=
 I7 hbr trivial (Vi (svs:=[]) (Q:=fun w en w'=>∃v',en=.returned v'∧Own w' w.heap.size 3 v' ((Bj a b).map (Value.int .i64))∧Below w.heap.size w w') h1 h2 fun A c A2 c2 w hc hc2 r1 r2=>by
  rw[List.length_map] at hc hc2 ⊢
  rw[List.length_map]
  exact Aau a b A A2 c c2 w ha hb hc hc2 r1 r2)
theorem Az6 (ha:a.length≤1000000) (hb:b.length≤1000000) (h1:B3 w0 ow hp s1 (a.map (Value.int .i64))) (h2:B3 w0 ow hp s2 (b.map (Value.int .i64))) (hbr:∀r∈hp,Res.bnd hp.length r):
  Ai Tryz.prog w0 ow 26 [s1,s2] hp (.x (.a (.o hp.length))) (hp++[.own 3 (.i64 (Gf a b))]):=
 I7 hbr trivial (Vi (svs:=[]) (Q:=fun w en w'=>∃v',en=.returned v'∧Own w' w.heap.size 3 v' ((Gf a b).map (Value.int .i64))∧Below w.heap.size w w') h1 h2 fun A c A2 c2 w hc hc2 r1 r2=>by
  rw[List.length_map] at hc hc2 ⊢
  rw[List.length_map]
  exact Az4 a b A A2 c c2 w ha hb hc hc2 r1 r2)
set_option maxRecDepth 100000 in
theorem Az7 (l:List Int) (n:Int) (A:Option Addr) (c:Nat) (w:World) (hm:l.length≤1000000) (hc:l.length≤c) (hR:RdV w w.heap.size A (l.map (Value.int .i64))):
  Calls Tryz.prog 58 #[.slice A l.length c,.int .i64 n] w fun e w'=>e=.returned (.bool (A8 l n))∧Below w.heap.size w w':=by
 refine Bm (n:=15) Tryz.func58 rfl Tryz.ntmps58 [.x (.a (.v (.slice A l.length c))),.x (.a (.v (.int .i64 n)))] (by simp) (.x (.a (.v (.bool (A8 l n))))) (fun _=>rfl) ?_
 simp (maxSteps:=10^6) only[push_cast,↓reduceIte,reduceCtorEq,Nat.reduceEqDiff,Nat.reduceLT]
 (repeat (refine And.intro (by first|omega|decide) ?_))
 refine Al rfl U0 rfl (Vh _) (Ae rfl) ?_
 by_cases h:0≤n∧n < 64
 ·have hd:=Q9 h
  have hh:=Az2 (l:=l) h
  simp (maxSteps:=10^6) only[hd,push_cast,↓reduceIte,reduceCtorEq,Nat.reduceEqDiff,Nat.reduceLT]
  (repeat (refine And.intro (by first|omega|decide) ?_))
  refine Al rfl M3 rfl (Nf hm (Bt hR _ _ (by simp) hc)) (Ae rfl) ?_
  obtain⟨h1,h2⟩:=h
  simp (maxSteps:=10^6) only[h1,hh,push_cast,↓reduceIte,reduceCtorEq,Nat.reduceEqDiff,Nat.reduceLT]
  done
 ·have hd:=Nd h
  have hh:=Az3 (l:=l) h
  simp (maxSteps:=10^6) only[hd,hh,undef,push_cast,↓reduceIte,Nat.reduceEqDiff,Nat.reduceLT]
  done
theorem Jm {sv:Sv} {l:List Int} (n:Int) (hm:l.length≤1000000) (h:B3 w0 ow hp sv (l.map (Value.int .i64))):Ai Tryz.prog w0 ow 58 [sv,.x (.a (.v (.int .i64 n)))] hp (.x (.a (.v (.bool (A8 l n))))) hp:=Bq fun γ w hS=>by
 obtain⟨A,c,e1,b1,r1⟩:=h γ w hS
 rw[List.length_map] at e1 b1
 show Calls _ _ #[sv.val γ,_] w _
 rw[e1]
 exact Az7 l n A c w hm b1 r1
def okV (b:Bool) (n:Int):Value:=if b=true then .nilIface else .iface 91 (.int .i64 n)
theorem Do (n:Int):okV true n=.nilIface:=rfl
theorem Il (n:Int):okV false n=.iface 91 (.int .i64 n):=rfl
attribute [local irreducible] okV
set_option maxRecDepth 100000 in
theorem Az8 (l:List Int) (A:Option Addr) (c:Nat) (w:World) (hm:l.length≤1000000) (hR:RdV w w.heap.size A (l.map (Value.int .i64))):
  Calls Tryz.prog 135 #[.slice A l.length c] w fun e w'=>e=.returned (okV (Br (-1) l) 1)∧Below w.heap.size w w':=by
 have F:=FM.of hR
 refine Bm (n:=23) Tryz.func135 rfl Tryz.ntmps135 [.x (.a (.v (.slice A l.length c)))] (by simp) (.x (.a (.v (okV (Br (-1) l) 1)))) (fun _=>rfl) ?_
 simp (maxSteps:=10^6) only[push_cast,↓reduceIte,reduceCtorEq,Nat.reduceLT,Int.reduceNeg]
 refine B9 (ι:=Nat×Int) (fun x=>⟨[(3,.x (.a (.v (.int .i64 x.2)))),(6,.x (.a (.v (.slice A l.length c)))),(7,.x (.a (.v (.int .i64 l.length)))),(8,.x (.a (.v (.int .i64 (x.1:Nat)))))],[]⟩) (fun x=>x.1≤l.length∧Br (-1) l=Br x.2 (l.drop x.1)) (fun x=>l.length - x.1) (0,-1) [] ⟨Nat.zero_le _,rfl⟩ ?_ ?_
 ·simp (maxSteps:=10^6) only[push_cast,↓Int.cast_ofNat_Int,Int.cast_ofNat_Int,↓reduceIte,Nat.reduceEqDiff,Int.reduceNeg]
 rintro⟨i,last⟩ ⟨hi,hk⟩
 dsimp only at hi hk
 by_cases hlt:(i:Int) < l.length
 ·have hil:i < l.length:=by omega
  have i0:(0:Int)≤i:=by omega
  have c0:=F.cell i hil
  have o0:=F.ok i hil
  have hA:=F.some_ (by omega)
  have hd:l.drop i=ix l i::l.drop (i+1):=by
   rw[List.drop_eq_getElem_cons hil,ix,List.getD_eq_getElem?_getD,List.getElem?_eq_getElem hil];rfl
  rw[hd,Br] at hk
  generalize ix l i=n at*
  have nx:(i:Int)+1≤9223372036854775807:=by omega
  by_cases hle:n≤last
  ·rw[if_pos (.inl hle)] at hk
   have hf:=Il 1
   simp (maxSteps:=10^6) only[hlt,i0,c0,o0,hA,hle,hk,hf,undef,push_cast,↓Int.toNat_natCast,↓reduceIte,reduceCtorEq,Nat.reduceEqDiff,Nat.reduceLT,Int.reduceNeg]
   done
  ·simp (maxSteps:=10^6) only[hlt,i0,c0,o0,hA,hle,push_cast,↓Int.toNat_natCast,↓reduceIte,reduceCtorEq,Nat.reduceEqDiff,Nat.reduceLT,Int.reduceNeg]
   (repeat (refine And.intro (by first|omega|decide) ?_))
   refine Al rfl U0 rfl (Vh _) (Ae rfl) ?_
   by_cases h:0≤n∧n < 64
   ·rw[if_neg (by intro e;rcases e with e|e;exact hle e;exact e h)] at hk
    have hc:=Q9 h
    simp (maxSteps:=10^6) only[hc,push_cast,↓reduceIte,Nat.reduceEqDiff,Nat.reduceLT,Int.reduceNeg]
    (repeat (refine And.intro (by first|omega|decide) ?_))
    refine Bv (i+1,n) [] ⟨by show i+1≤l.length;omega,hk⟩ (by show l.length - (i+1) < l.length - i;omega) ?_
    simp (maxSteps:=10^6) only[push_cast,↓reduceIte,Nat.reduceEqDiff]
    done
   ·rw[if_pos (.inr h)] at hk
    have hc:=Nd h
    have hf:=Il 1
    simp (maxSteps:=10^6) only[hc,hk,hf,push_cast,↓reduceIte,Nat.reduceEqDiff,Nat.reduceLT,Int.reduceNeg]
    done
 ·obtain rfl:i=l.length:=by omega
  rw[List.drop_length,Br] at hk
  have hf:=Do 1
  simp (maxSteps:=10^6) only[hlt,hk,hf,push_cast,↓reduceIte,Nat.reduceEqDiff,Nat.reduceLT,Int.reduceNeg]
  done
theorem Vj {sv:Sv} {l:List Int} (hm:l.length≤1000000) (h:B3 w0 ow hp sv (l.map (Value.int .i64))):Ai Tryz.prog w0 ow 135 [sv] hp (.x (.a (.v (okV (Br (-1) l) 1)))) hp:=Bq fun γ w hS=>by
 obtain⟨A,c,e1,b1,r1⟩:=h γ w hS
 rw[List.length_map] at e1
 show Calls _ _ #[sv.val γ] w _
 rw[e1]
 exact Az8 l A c w hm r1
end
end Go.Proofs.YtedaafmfjhjfmaaGreatDoor
