import Derived.Test.YtedaafmfjhjfmaaGreatDoorPt0
import Derived.Test.YtedaafmfjhjfmaaGreatDoorCf0
/- Messages as they lie there; layer 16: msg.kindOf, Form, Name, within. -/
namespace Go.Proofs.YtedaafmfjhjfmaaGreatDoor
open _root_.Go.Proofs.Tryz
open Go.RowKit
set_option linter.unusedSimpArgs false
set_option linter.unusedVariables false
section
structure MgR where
 k:UInt8
 pl:Int
 ot:Int
 cl:Int
 ge:Int
 nu:UInt64
 sm:List UInt8
 ids:SlV Int
 ns:SlV UInt64
 ps:SlV Pr
 xs:SlV UInt32
 re:Int
def MgR.mg (m:MgR):MgS:=⟨m.k,m.pl,m.ot,m.cl,m.ge,m.nu,m.sm,m.ids.l,m.ns.l,m.ps.l,m.xs.l,m.re⟩
def mgL (k pl ot cl ge nu:At) (sm:List UInt8) (i n p x r:At):List At:=[k,pl,ot,cl,ge,nu]++(sm.map f8++[i,n,p,x,r])
def mgV (m:MgR):List Value:=[vU8 m.k,.int .i64 m.pl,.int .i64 m.ot,.int .i64 m.cl,.int .i64 m.ge,vU64 m.nu]++(m.sm.map vU8++[m.ids.val,m.ns.val,m.ps.val,m.xs.val,.int .i64 m.re])
def mgA (m:MgR):List At:=mgL (.v (vU8 m.k)) (.v (.int .i64 m.pl)) (.v (.int .i64 m.ot)) (.v (.int .i64 m.cl)) (.v (.int .i64 m.ge)) (.v (vU64 m.nu)) m.sm (.v m.ids.val) (.v m.ns.val) (.v m.ps.val) (.v m.xs.val) (.v (.int .i64 m.re))
structure SlV.Ok {α:Type} (s:SlV α) (vs:List Value) (w:World):Prop where
 len:s.l.length≤s.c
 few:s.l.length≤1000
 rd:RdV w w.heap.size s.A vs
structure MgR.Ok (m:MgR) (w:World):Prop where
 s:m.sm.length=32
 ids:m.ids.Ok (m.ids.l.map (Value.int .i64)) w
 ns:m.ns.Ok (m.ns.l.map vU64) w
 ps:m.ps.Ok (pvs m.ps.l) w
 xs:m.xs.Ok (m.xs.l.map Ap) w
theorem SlV.Ok.later {α:Type} {s:SlV α} {vs:List Value} {w0 w:World} {γ:List Nm} {hp:List Res} (h:s.Ok vs w0) (hS:Sat w0 No γ hp w):s.Ok vs w:=⟨h.len,h.few,C5 h.rd hS⟩
theorem MgR.Ok.later {m:MgR} {w0 w:World} {γ:List Nm} {hp:List Res} (h:m.Ok w0) (hS:Sat w0 No γ hp w):m.Ok w:=
 ⟨h.s,h.ids.later hS,h.ns.later hS,h.ps.later hS,h.xs.later hS⟩
structure MgS.Few (m:MgS):Prop where
 sm:m.sm.length=32
 ids:m.ids.length≤1000
 ns:m.ns.length≤1000
 ps:m.ps.length≤1000
 xs:m.xs.length≤1000
theorem MgR.Ok.few {m:MgR} {w:World} (h:m.Ok w):m.mg.Few:=⟨h.s,h.ids.few,h.ns.few,h.ps.few,h.xs.few⟩
theorem Acj (k pl ot cl ge nu:At) (sm:List UInt8) (i n p x r:At) (γ:List Nm):(mgL k pl ot cl ge nu sm i n p x r).map (At.val γ)=[k.val γ,pl.val γ,ot.val γ,cl.val γ,ge.val γ,nu.val γ]++(sm.map vU8++[i.val γ,n.val γ,p.val γ,x.val γ,r.val γ]):=by
 unfold mgL
 rw[List.map_append,List.map_append,List.map_map]
 rfl
theorem V9 (m:MgR) (γ:List Nm):(mgA m).map (At.val γ)=mgV m:=Acj ..
theorem Bi (m:MgR) (γ:List Nm):(Sv.x (.g (mgA m))).val γ=.agg (mgV m).toArray:=by
 show Value.agg _=_
 rw[V9]
theorem K9 {k pl ot cl ge nu:At} {sm:List UInt8} {i n p x r:At} (h:sm.length=32):(mgL k pl ot cl ge nu sm i n p x r).length=43:=by simp [mgL,h]
theorem Ack {k pl ot cl ge nu:At} {sm:List UInt8} {i n p x r:At} (h:sm.length=32):(∀d,(mgL k pl ot cl ge nu sm i n p x r).getD 0 d=k)∧(∀d,(mgL k pl ot cl ge nu sm i n p x r).getD 1 d=pl)∧(∀d,(mgL k pl ot cl ge nu sm i n p x r).getD 2 d=ot)∧(∀d,(mgL k pl ot cl ge nu sm i n p x r).getD 3 d=cl)∧(∀d,(mgL k pl ot cl ge nu sm i n p x r).getD 4 d=ge)∧(∀d,(mgL k pl ot cl ge nu sm i n p x r).getD 5 d=nu)∧
  (∀d,(mgL k pl ot cl ge nu sm i n p x r).getD 38 d=i)∧(∀d,(mgL k pl ot cl ge nu sm i n p x r).getD 39 d=n)∧(∀d,(mgL k pl ot cl ge nu sm i n p x r).getD 40 d=p)∧(∀d,(mgL k pl ot cl ge nu sm i n p x r).getD 41 d=x)∧(∀d,(mgL k pl ot cl ge nu sm i n p x r).getD 42 d=r):=by
 refine⟨fun d=>rfl,fun d=>rfl,fun d=>rfl,fun d=>rfl,fun d=>rfl,fun d=>rfl,fun d=>?_,fun d=>?_,fun d=>?_,fun d=>?_,fun d=>?_⟩<;>simp [mgL,List.getD_eq_getElem?_getD,h]
theorem Bd {m:MgR} (h:m.sm.length=32):(mgA m).length=43:=K9 h
theorem C8 {m:MgR} (h:m.sm.length=32):(∀d,(mgA m).getD 0 d=.v (vU8 m.k))∧(∀d,(mgA m).getD 1 d=.v (.int .i64 m.pl))∧(∀d,(mgA m).getD 2 d=.v (.int .i64 m.ot))∧(∀d,(mgA m).getD 3 d=.v (.int .i64 m.cl))∧(∀d,(mgA m).getD 4 d=.v (.int .i64 m.ge))∧(∀d,(mgA m).getD 5 d=.v (vU64 m.nu))∧
  (∀d,(mgA m).getD 38 d=.v m.ids.val)∧(∀d,(mgA m).getD 39 d=.v m.ns.val)∧(∀d,(mgA m).getD 40 d=.v m.ps.val)∧(∀d,(mgA m).getD 41 d=.v m.xs.val)∧(∀d,(mgA m).getD 42 d=.v (.int .i64 m.re)):=Ack h
theorem Arr {k pl ot cl ge nu:At} {sm:List UInt8} {i n p x r:At} (h:sm.length=32):((mgL k pl ot cl ge nu sm i n p x r).drop 6).take 32=sm.map f8:=by
 have e:(mgL k pl ot cl ge nu sm i n p x r).drop 6=sm.map f8++[i,n,p,x,r]:=rfl
 rw[e,List.take_append_of_le_length (by simp [h]),List.take_of_length_le (by simp [h])]
theorem R7 {m:MgR} (h:m.sm.length=32):((mgA m).drop 6).take 32=m.sm.map f8:=Arr h
theorem On {q:At→Prop} {k pl ot cl ge nu:At} {sm:List UInt8} {i n p x r:At} (h0:∀y:UInt8,q (.v (vU8 y))) (h1:q k) (h2:q pl) (h3:q ot) (h4:q cl) (h5:q ge) (h6:q nu) (h7:q i) (h8:q n) (h9:q p) (h10:q x) (h11:q r):∀y∈mgL k pl ot cl ge nu sm i n p x r,q y:=fun y hy=>by
 unfold mgL at hy
 simp only[List.mem_append,List.mem_cons,List.mem_map,List.not_mem_nil,or_false] at hy
 rcases hy with (rfl|rfl|rfl|rfl|rfl|rfl)|⟨z,_,rfl⟩|rfl|rfl|rfl|rfl|rfl
 ·exact h1
 ·exact h2
 ·exact h3
 ·exact h4
 ·exact h5
 ·exact h6
 ·exact h0 z
 ·exact h7
 ·exact h8
 ·exact h9
 ·exact h10
 ·exact h11
theorem Mm {q:At→Prop} (m:MgR) (h:∀v:Value,v.oneCell'=true→scalar v→q (.v v)):(∀x∈mgA m,q x)=True:=eq_true (On (fun _=>h _ rfl trivial) (h _ rfl trivial) (h _ rfl trivial) (h _ rfl trivial) (h _ rfl trivial) (h _ rfl trivial) (h _ rfl trivial) (h _ rfl trivial) (h _ rfl trivial) (h _ rfl trivial) (h _ rfl trivial) (h _ rfl trivial))
theorem Ars (m:MgR) (hp:List Res):(∀x∈mgA m,x.scalar hp)=True:=Mm m fun v _ h=>h
theorem mgA_one (m:MgR) (hp:List Res):(∀x∈mgA m,x.one hp)=True:=Mm m fun v h _=>h
theorem Bm (m:MgR) (n:Nat):(∀x∈mgA m,x.bnd n)=True:=Mm m fun v _ _=>trivial
theorem Oo (ρ:List Nat) (k pl ot cl ge nu:At) (sm:List UInt8) (i n p x r:At):(mgL k pl ot cl ge nu sm i n p x r).map (At.ren ρ)=mgL (k.ren ρ) (pl.ren ρ) (ot.ren ρ) (cl.ren ρ) (ge.ren ρ) (nu.ren ρ) sm (i.ren ρ) (n.ren ρ) (p.ren ρ) (x.ren ρ) (r.ren ρ):=by
 unfold mgL
 rw[List.map_append,List.map_append,List.map_map]
 rfl
theorem R8 (m:MgR) (ρ:List Nat):(mgA m).map (At.ren ρ)=mgA m:=Oo ..
theorem Ag (m:MgR) (n:Nat):Cont.bnd n (.c (mgA m))=True:=Bm m n
theorem A8 (m:MgR) (n:Nat):Sc.bnd n (.g (mgA m))=True:=Bm m n
theorem Be (m:MgR) (hp:List Res):Sc.cont hp (.g (mgA m))=(True,.c (mgA m)):=by
 show (_,_)=_
 rw[Ars]
theorem Ay (m:MgR) (ρ:List Nat):Cont.ren ρ (.c (mgA m))=.c (mgA m):=by
 show Cont.c _=_
 rw[R8]
theorem Art (m:MgR) (ρ:List Nat):Sc.ren ρ (.g (mgA m))=.g (mgA m):=by
 show Sc.g _=_
 rw[R8]
theorem La (m:MgR) (ρ:List Nat):Sv.ren ρ (.x (.g (mgA m)))=.x (.g (mgA m)):=by
 show Sv.x (Sc.g _)=_
 rw[R8]
def Oq (w0:World) (hp:List Res) (sv:Sv) (m:MgS):Prop:=∀γ w,Sat w0 No γ hp w→∃a:MgR,sv.val γ=.agg (mgV a).toArray∧a.Ok w∧a.mg=m
theorem R9 {w0:World} {hp:List Res} {a:MgR} (h:a.Ok w0):Oq w0 hp (.x (.g (mgA a))) a.mg:=fun γ w hS=>⟨a,Bi a γ,h.later hS,rfl⟩
theorem Sa (m:MgR) (γ γ':List Nm):(Sv.x (.g (mgA m))).val γ=(Sv.x (.g (mgA m))).val γ':=by rw[Bi,Bi]
def zeroR:MgR:=⟨0,0,0,0,0,0,List.replicate 32 0,default,default,default,default,0⟩
theorem Aru:ZOk prog 48 (.c (.v (.int .u8 0):: .v (.int .i64 0):: .v (.int .i64 0):: .v (.int .i64 0):: .v (.int .i64 0):: .v (.int .u64 0)::(List.map f8 (List.replicate 32 0)++[.v (.slice none 0 0),.v (.slice none 0 0),.v (.slice none 0 0),.v (.slice none 0 0),.v (.int .i64 0)])))=True:=
 eq_true ⟨.agg ([Value.int .u8 0,.int .i64 0,.int .i64 0,.int .i64 0,.int .i64 0,.int .u64 0]++(List.replicate 32 (Value.int .u8 0)++[Value.slice none 0 0,.slice none 0 0,.slice none 0 0,.slice none 0 0,.int .i64 0])).toArray,by kernel_rfl,fun _=>rfl⟩
theorem Br:(.v (.int .u8 0):: .v (.int .i64 0):: .v (.int .i64 0):: .v (.int .i64 0):: .v (.int .i64 0):: .v (.int .u64 0)::(List.map f8 (List.replicate 32 0)++[.v (.slice none 0 0),.v (.slice none 0 0),.v (.slice none 0 0),.v (.slice none 0 0),.v (.int .i64 0)]))=mgA zeroR:=rfl
theorem B9:ZOk prog 48 (.c (mgA zeroR))=True:=by rw[←Br];exact Aru
theorem B0:(mgA zeroR).length=43:=rfl
theorem Arv {n most:Int} (h:0≤n) (h2:n≤most):wiM n most=true:=decide_eq_true ⟨h,h2⟩
theorem Arw {n most:Int} (h:¬0≤n):wiM n most=false:=decide_eq_false fun e=>h e.1
theorem Arx {n most:Int} (h:¬n≤most):wiM n most=false:=decide_eq_false fun e=>h e.2
attribute [local irreducible] Ac Ad Ah Au Ao Aj Ai Al
attribute [local irreducible] wiM
section
variable {w0:World} {ow:Nat→Prop} {hp:List Res}
set_option maxRecDepth 100000 in
theorem Ary (n most:Int) (w:World):Calls prog 146 #[.int .i64 n,.int .i64 most] w fun e w'=>e=.returned (.bool (wiM n most))∧Below w.heap.size w w':=by
 refine Bf (n:=12) func146 rfl ntmps146 [.x (.a (.v (.int .i64 n))),.x (.a (.v (.int .i64 most)))] (by simp) (.x (.a (.v (.bool (wiM n most))))) (fun _=>rfl) ?_
 by_cases h:0≤n
 ·by_cases h1:n≤most
  ·have hd:=Arv h h1
   simp (maxSteps:=10^6) only[h,h1,hd,push_cast,↓reduceIte,reduceCtorEq,Nat.reduceEqDiff,Nat.reduceLT]
   done
  ·have hd:=Arx h1
   simp (maxSteps:=10^6) only[h,h1,hd,push_cast,↓reduceIte,reduceCtorEq,Nat.reduceEqDiff,Nat.reduceLT]
   done
 ·have hd:=Arw (most:=most) h
  simp (maxSteps:=10^6) only[h,hd,undef,push_cast,↓reduceIte,reduceCtorEq,Nat.reduceEqDiff,Nat.reduceLT]
  done
theorem Ot (n most:Int):Ad prog w0 ow 146 [.x (.a (.v (.int .i64 n))),.x (.a (.v (.int .i64 most)))] hp (.x (.a (.v (.bool (wiM n most))))) hp:=Bc fun γ w _=>Ary n most w
def Ou (k:UInt8):List Sc:=[.a (.v (.string (Hj (Mh k).1))),.a (.v (.string (Hj (Mh k).2)))]
set_option maxRecDepth 100000 in
set_option maxHeartbeats 2000000 in
theorem Arz (k:UInt8) (w:World):Calls prog 145 #[vU8 k] w fun e w'=>e=.returned ((Sv.t (Ou k)).val [])∧Below w.heap.size w w':=by
 refine Bf (n:=43) func145 rfl ntmps145 [.x (.a (.v (vU8 k)))] (by simp) (.t (Ou k)) (fun _=>rfl) ?_
 unfold Ou Mh
 by_cases h:k=1
 ·have g1:(k=1)=True:=eq_true h
  simp (maxSteps:=10^6) only[g1,push_cast,↓reduceIte,reduceCtorEq,Nat.reduceEqDiff,Nat.reduceLT]
  rfl
 have g1:(k=1)=False:=eq_false h
 clear h
 by_cases h:k=2
 ·have g2:(k=2)=True:=eq_true h
  simp (maxSteps:=10^6) only[g1,g2,push_cast,↓reduceIte,reduceCtorEq,Nat.reduceEqDiff,Nat.reduceLT]
  rfl
 have g2:(k=2)=False:=eq_false h
 clear h
 by_cases h:k=3
 ·have g3:(k=3)=True:=eq_true h
  simp (maxSteps:=10^6) only[g1,g2,g3,push_cast,↓reduceIte,reduceCtorEq,Nat.reduceEqDiff,Nat.reduceLT]
  rfl
 have g3:(k=3)=False:=eq_false h
 clear h
 by_cases h:k=4
 ·have g4:(k=4)=True:=eq_true h
  simp (maxSteps:=10^6) only[g1,g2,g3,g4,push_cast,↓reduceIte,reduceCtorEq,Nat.reduceEqDiff,Nat.reduceLT]
  rfl
 have g4:(k=4)=False:=eq_false h
 clear h
 by_cases h:k=5
 ·have g5:(k=5)=True:=eq_true h
  simp (maxSteps:=10^6) only[g1,g2,g3,g4,g5,push_cast,↓reduceIte,reduceCtorEq,Nat.reduceEqDiff,Nat.reduceLT]
  rfl
 have g5:(k=5)=False:=eq_false h
 clear h
 by_cases h:k=6
 ·have g6:(k=6)=True:=eq_true h
  simp (maxSteps:=10^6) only[g1,g2,g3,g4,g5,g6,push_cast,↓reduceIte,reduceCtorEq,Nat.reduceEqDiff,Nat.reduceLT]
  rfl
 have g6:(k=6)=False:=eq_false h
 clear h
 by_cases h:k=7
 ·have g7:(k=7)=True:=eq_true h
  simp (maxSteps:=10^6) only[g1,g2,g3,g4,g5,g6,g7,push_cast,↓reduceIte,reduceCtorEq,Nat.reduceEqDiff,Nat.reduceLT]
  rfl
 have g7:(k=7)=False:=eq_false h
 clear h
 by_cases h:k=8
 ·have g8:(k=8)=True:=eq_true h
  simp (maxSteps:=10^6) only[g1,g2,g3,g4,g5,g6,g7,g8,push_cast,↓reduceIte,reduceCtorEq,Nat.reduceEqDiff,Nat.reduceLT]
  rfl
 have g8:(k=8)=False:=eq_false h
 clear h
 by_cases h:k=9
 ·have g9:(k=9)=True:=eq_true h
  simp (maxSteps:=10^6) only[g1,g2,g3,g4,g5,g6,g7,g8,g9,push_cast,↓reduceIte,reduceCtorEq,Nat.reduceEqDiff,Nat.reduceLT]
  rfl
 have g9:(k=9)=False:=eq_false h
 clear h
 by_cases h:k=10
 ·have g10:(k=10)=True:=eq_true h
  simp (maxSteps:=10^6) only[g1,g2,g3,g4,g5,g6,g7,g8,g9,g10,push_cast,↓reduceIte,reduceCtorEq,Nat.reduceEqDiff,Nat.reduceLT]
  rfl
 have g10:(k=10)=False:=eq_false h
 clear h
 by_cases h:k=11
 ·have g11:(k=11)=True:=eq_true h
  simp (maxSteps:=10^6) only[g1,g2,g3,g4,g5,g6,g7,g8,g9,g10,g11,push_cast,↓reduceIte,reduceCtorEq,Nat.reduceEqDiff,Nat.reduceLT]
  rfl
 have g11:(k=11)=False:=eq_false h
 clear h
 by_cases h:k=12
 ·have g12:(k=12)=True:=eq_true h
  simp (maxSteps:=10^6) only[g1,g2,g3,g4,g5,g6,g7,g8,g9,g10,g11,g12,push_cast,↓reduceIte,reduceCtorEq,Nat.reduceEqDiff,Nat.reduceLT]
  rfl
 have g12:(k=12)=False:=eq_false h
 clear h
 by_cases h:k=13
 ·have g13:(k=13)=True:=eq_true h
  simp (maxSteps:=10^6) only[g1,g2,g3,g4,g5,g6,g7,g8,g9,g10,g11,g12,g13,push_cast,↓reduceIte,reduceCtorEq,Nat.reduceEqDiff,Nat.reduceLT]
  rfl
 have g13:(k=13)=False:=eq_false h
 clear h
 by_cases h:k=14
 ·have g14:(k=14)=True:=eq_true h
  simp (maxSteps:=10^6) only[g1,g2,g3,g4,g5,g6,g7,g8,g9,g10,g11,g12,g13,g14,push_cast,↓reduceIte,reduceCtorEq,Nat.reduceEqDiff,Nat.reduceLT]
  rfl
 have g14:(k=14)=False:=eq_false h
 clear h
 by_cases h:k=15
 ·have g15:(k=15)=True:=eq_true h
  simp (maxSteps:=10^6) only[g1,g2,g3,g4,g5,g6,g7,g8,g9,g10,g11,g12,g13,g14,g15,push_cast,↓reduceIte,reduceCtorEq,Nat.reduceEqDiff,Nat.reduceLT]
  rfl
 have g15:(k=15)=False:=eq_false h
 clear h
 by_cases h:k=16
 ·have g16:(k=16)=True:=eq_true h
  simp (maxSteps:=10^6) only[g1,g2,g3,g4,g5,g6,g7,g8,g9,g10,g11,g12,g13,g14,g15,g16,push_cast,↓reduceIte,reduceCtorEq,Nat.reduceEqDiff,Nat.reduceLT]
  rfl
 have g16:(k=16)=False:=eq_false h
 clear h
 by_cases h:k=17
 ·have g17:(k=17)=True:=eq_true h
  simp (maxSteps:=10^6) only[g1,g2,g3,g4,g5,g6,g7,g8,g9,g10,g11,g12,g13,g14,g15,g16,g17,push_cast,↓reduceIte,reduceCtorEq,Nat.reduceEqDiff,Nat.reduceLT]
  rfl
 have g17:(k=17)=False:=eq_false h
 clear h
 by_cases h:k=18
 ·have g18:(k=18)=True:=eq_true h
  simp (maxSteps:=10^6) only[g1,g2,g3,g4,g5,g6,g7,g8,g9,g10,g11,g12,g13,g14,g15,g16,g17,g18,push_cast,↓reduceIte,reduceCtorEq,Nat.reduceEqDiff,Nat.reduceLT]
  rfl
 have g18:(k=18)=False:=eq_false h
 clear h
 by_cases h:k=19
 ·have g19:(k=19)=True:=eq_true h
  simp (maxSteps:=10^6) only[g1,g2,g3,g4,g5,g6,g7,g8,g9,g10,g11,g12,g13,g14,g15,g16,g17,g18,g19,push_cast,↓reduceIte,reduceCtorEq,Nat.reduceEqDiff,Nat.reduceLT]
  rfl
 have g19:(k=19)=False:=eq_false h
 clear h
 simp (maxSteps:=10^6) only[g1,g2,g3,g4,g5,g6,g7,g8,g9,g10,g11,g12,g13,g14,g15,g16,g17,g18,g19,push_cast,↓reduceIte,reduceCtorEq,Nat.reduceEqDiff,Nat.reduceLT]
 rfl
theorem Ar0 (k:UInt8):Ad prog w0 ow 145 [.x (.a (.v (vU8 k)))] hp (.t (Ou k)) hp:=Bc fun γ w _=>Arz k w
def A2i (k:UInt8):ByteArray:=Hj (Mh k).1
def Dx (k:UInt8):ByteArray:=Hj (B7 k)
set_option maxRecDepth 100000 in
theorem Ar1 (k:UInt8) (w:World):Calls prog 112 #[vU8 k] w fun e w'=>e=.returned (.string (Dx k))∧Below w.heap.size w w':=by
 refine Bf (n:=11) func112 rfl ntmps112 [.x (.a (.v (vU8 k)))] (by simp) (.x (.a (.v (.string (Dx k))))) (fun _=>rfl) ?_
 simp (maxSteps:=10^6) only[push_cast,↓reduceIte,reduceCtorEq,Nat.reduceLT]
 (repeat (refine And.intro (by first|omega|decide) ?_))
 refine Am rfl Ao9 rfl (Ar0 k) (Aa rfl) ?_
 unfold Ou Dx B7
 simp (maxSteps:=10^6) only[push_cast,↓reduceIte,Nat.reduceEqDiff,Nat.reduceLT]
 done
theorem Ar2 (k:UInt8):Ad prog w0 ow 112 [.x (.a (.v (vU8 k)))] hp (.x (.a (.v (.string (Dx k))))) hp:=Bc fun γ w _=>Ar1 k w
end
end
section
theorem Ar3 {n a b:Int} (h:a≤n) (h2:n≤b):wiF n a b=true:=decide_eq_true ⟨h,h2⟩
theorem Ar4 {n a b:Int} (h:¬a≤n):wiF n a b=false:=decide_eq_false fun e=>h e.1
theorem Ar5 {n a b:Int} (h:¬n≤b):wiF n a b=false:=decide_eq_false fun e=>h e.2
theorem Acl {α:Type} [Inhabited α] {l:List α} {i:Nat} {x:α} (h:i < l.length):ix (l.set i x) i=x:=by
 rw[ix,List.getD_eq_getElem?_getD,List.getElem?_set_self h];rfl
theorem Acm {α:Type} [Inhabited α] {l:List α} {i j:Nat} {x:α} (h:i≠j):ix (l.set i x) j=ix l j:=by
 rw[ix,ix,List.getD_eq_getElem?_getD,List.getD_eq_getElem?_getD,List.getElem?_set_ne h]
theorem Acn (n j:Nat):ix (List.replicate n (0:Int)) j=0:=by
 rw[ix,List.getD_eq_getElem?_getD,List.getElem?_replicate]
 split<;>rfl
attribute [local irreducible] Ac Ad Ah Au Ao Aj Ai Al
attribute [local irreducible] wiF Jt
section
variable {w0:World} {ow:Nat→Prop} {hp:List Res}
set_option maxRecDepth 100000 in
theorem Ar6 (n a b:Int) (w:World):Calls prog 104 #[.int .i64 n,.int .i64 a,.int .i64 b] w fun e w'=>e=.returned (.bool (wiF n a b))∧Below w.heap.size w w':=by
 refine Bf (n:=15) func104 rfl ntmps104 [.x (.a (.v (.int .i64 n))),.x (.a (.v (.int .i64 a))),.x (.a (.v (.int .i64 b)))] (by simp) (.x (.a (.v (.bool (wiF n a b))))) (fun _=>rfl) ?_
 by_cases h:a≤n
 ·by_cases h1:n≤b
  ·have hd:=Ar3 h h1
   simp (maxSteps:=10^6) only[h,h1,hd,push_cast,↓reduceIte,reduceCtorEq,Nat.reduceEqDiff,Nat.reduceLT,Nat.reduceAdd]
   done
  ·have hd:=Ar5 (a:=a) h1
   simp (maxSteps:=10^6) only[h,h1,hd,push_cast,↓reduceIte,reduceCtorEq,Nat.reduceEqDiff,Nat.reduceLT,Nat.reduceAdd]
   done
 ·have hd:=Ar4 (b:=b) h
  simp (maxSteps:=10^6) only[h,hd,undef,push_cast,↓reduceIte,reduceCtorEq,Nat.reduceEqDiff,Nat.reduceLT,Nat.reduceAdd]
  done
theorem Ia (n a b:Int):Ad prog w0 ow 104 [.x (.a (.v (.int .i64 n))),.x (.a (.v (.int .i64 a))),.x (.a (.v (.int .i64 b)))] hp (.x (.a (.v (.bool (wiF n a b))))) hp:=Bc fun γ w _=>Ar6 n a b w
set_option maxRecDepth 100000 in
set_option maxHeartbeats 1000000 in
theorem Ar7 (l:List PlS) (A:Option Addr) (c:Nat) (w:World) (hm:l.length≤1000000) (hR:RdV w w.heap.size A (l.flatMap plV)):
  Calls prog 105 #[.slice A l.length c] w fun e w'=>e=.returned (.bool (stF l))∧Below w.heap.size w w':=by
 have F:=FLm.of I4 (by decide) hR
 refine Bf (n:=67) func105 rfl ntmps105 [.x (.a (.v (.slice A l.length c)))] (by simp) (.x (.a (.v (.bool (stF l))))) (fun _=>rfl) ?_
 obtain⟨q,hq⟩:∃q,q=stF l:=⟨_,rfl⟩
 rw[←hq]
 unfold stF at hq
 simp (maxSteps:=10^6) only[push_cast,↓reduceIte,reduceCtorEq,Nat.reduceLT,Int.reduceNeg]
 (repeat (refine And.intro (by first|omega|decide) ?_))
 refine Am rfl Hv rfl (Ia _ _ _) (Aa rfl) ?_
 cases hw:wiF l.length 2 16 with
 |false=>
  rw[if_neg (by rw[hw];simp)] at hq
  simp (maxSteps:=10^6) only[hq,undef,push_cast,↓reduceIte,Nat.reduceEqDiff,Nat.reduceLT,Int.reduceNeg]
  done
 |true=>
  have hn:=Iz.1 hw
  obtain⟨c0,o0⟩:=F.cell 0 0 _ (by omega) rfl
  obtain⟨c1,o1⟩:=F.cell 0 1 _ (by omega) rfl
  have hA:=F.some_ (by omega)
  rw[Nat.zero_mul,Nat.add_zero,Cq] at c0 o0
  rw[Nat.zero_mul,Nat.zero_add] at c1 o1
  have hl0:(0:Int) < l.length:=by omega
  by_cases h1:(ix l 0).parent=-1
  ·by_cases h2:(ix l 0).spare=0
   ·rw[if_pos ⟨hw,h1,h2⟩] at hq
    have k1:(l.length:Int)≤2 ^ 63 - 1:=by omega
    have k2:l.length≤2 ^ 63 - 1:=by omega
    have k3:l.length*8≤140737488355328:=by omega
    simp (maxSteps:=10^6) only[hl0,Cq,c0,o0,c1,o1,hA,h1,h2,push_cast,↓Int.toNat_natCast,↓Int.cast_ofNat_Int,Int.cast_ofNat_Int,↓reduceIte,reduceCtorEq,Nat.reduceEqDiff,Nat.reduceLT,Nat.reduceMul,Int.reduceNeg,Int.reduceLE]
    (repeat (refine And.intro (by first|omega|decide) ?_))
    refine Bj (ι:=Nat×List Int) (fun x=>⟨[(0,.x (.a (.v (.slice A l.length c)))),(3,.x (.a (.o 0))),(4,.x (.a (.v (.int .i64 (x.1:Nat)))))],[.own 3 (.i64 x.2)]⟩)
     (fun x=>1≤x.1∧x.1≤l.length∧x.2.length=l.length∧(∀j,0≤ix x.2 j∧ix x.2 j < 4)∧q=Jt l (l.length - x.1) x.1 x.2) (fun x=>l.length - x.1) (1,List.replicate l.length 0) [0] ⟨Nat.le_refl _,by omega,by simp,fun j=>by rw[Acn];decide,hq⟩ ?_ ?_
    ·simp (maxSteps:=10^6) only[push_cast,↓Int.cast_ofNat_Int,Int.cast_ofNat_Int,↓reduceIte,reduceCtorEq,Nat.reduceEqDiff,Nat.reduceLT]
    rintro⟨i,ab⟩ ⟨h0,hi,hal,hab,hg⟩
    dsimp only at h0 hi hal hab hg
    by_cases hlt:(i:Int) < l.length
    ·have hil:i < l.length:=by omega
     have i0:(0:Int)≤i:=by omega
     obtain⟨d0,p0⟩:=F.cell i 0 _ hil rfl
     obtain⟨d1,p1⟩:=F.cell i 1 _ hil rfl
     rw[Nat.add_zero] at d0 p0
     have i1:-9223372036854775808≤(i:Int) - 1∧(i:Int) - 1≤9223372036854775807:=by omega
     rw[show l.length - i=(l.length - (i+1))+1 by omega,Jt] at hg
     generalize (ix l i).spare=sp at*
     generalize (ix l i).parent=pa at*
     simp (maxSteps:=10^6) only[hlt,i0,i1,Cq,Bp,d0,p0,hA,push_cast,↓Int.toNat_natCast,↓reduceIte,reduceCtorEq,Nat.reduceEqDiff,Nat.reduceLT,Int.reduceNeg]
     (repeat (refine And.intro (by first|omega|decide) ?_))
     refine Am rfl Hv rfl (Ia _ _ _) (Aa rfl) ?_
     cases hp1:wiF pa 0 ((i:Int) - 1) with
     |false=>
      rw[if_neg (by rw[hp1];simp)] at hg
      simp (maxSteps:=10^6) only[hg,undef,push_cast,↓reduceIte,Nat.reduceEqDiff,Nat.reduceLT]
      done
     |true=>
      simp (maxSteps:=10^6) only[hlt,i0,Ce,Bp,d1,p1,hA,push_cast,↓Int.toNat_natCast,↓reduceIte,reduceCtorEq,Nat.reduceEqDiff,Nat.reduceLT]
      (repeat (refine And.intro (by first|omega|decide) ?_))
      refine Am rfl Hv rfl (Ia _ _ _) (Aa rfl) ?_
      cases hp2:wiF sp 0 2 with
      |false=>
       rw[if_neg (by rw[hp2];simp)] at hg
       simp (maxSteps:=10^6) only[hg,push_cast,↓reduceIte,Nat.reduceEqDiff,Nat.reduceLT]
       done
      |true=>
       rw[if_pos ⟨hp1,hp2⟩] at hg
       have hpa:=Iz.1 hp1
       obtain⟨P,hP⟩:∃P:Nat,pa=P:=⟨pa.toNat,by omega⟩
       subst hP
       have P0:(0:Int)≤P:=by omega
       have P1:(P:Int) < ab.length:=by omega
       have I1:(i:Int) < ab.length:=by omega
       have vP:=hab P
       have vP1:-9223372036854775808≤ix ab P+1∧ix ab P+1≤9223372036854775807:=by omega
       have hset:ix (ab.set i (ix ab P+1)) i=ix ab P+1:=Acl (by omega)
       rw[Int.toNat_natCast] at hg
       by_cases h4:(4:Int)≤ix ab P+1
       ·rw[if_pos h4] at hg
        simp (maxSteps:=10^6) only[hlt,i0,Cq,Bp,d0,p0,hA,P0,P1,I1,vP1,hset,h4,hg,undef,push_cast,↓Int.toNat_natCast,↓reduceIte,reduceCtorEq,Nat.reduceEqDiff,Nat.reduceLT,Int.reduceNeg]
        exact⟨by omega,by omega⟩
       ·rw[if_neg h4] at hg
        simp (maxSteps:=10^6) only[hlt,i0,Cq,Bp,d0,p0,hA,P0,P1,I1,vP1,hset,h4,undef,push_cast,↓Int.toNat_natCast,↓reduceIte,reduceCtorEq,Nat.reduceEqDiff,Nat.reduceLT,Int.reduceNeg]
        (repeat (refine And.intro (by first|omega|decide) ?_))
        refine Ba (i+1,ab.set i (ix ab P+1)) [0] ⟨by show 1≤i+1;omega,by show i+1≤l.length;omega,by simp [hal],fun j=>?_,hg⟩ (by show l.length - (i+1) < l.length - i;omega) ?_
        ·by_cases e:i=j
         ·subst e;show 0≤ix (ab.set i _) i∧_ < 4;rw[hset];omega
         ·show 0≤ix (ab.set i _) j∧_ < 4;rw[Acm e];exact hab j
        ·simp (maxSteps:=10^6) only[push_cast,↓reduceIte,reduceCtorEq,Nat.reduceEqDiff,Nat.reduceLT]
         done
    ·obtain rfl:i=l.length:=by omega
     rw[Nat.sub_self,Jt] at hg
     simp (maxSteps:=10^6) only[hlt,hg,push_cast,↓reduceIte,reduceCtorEq,Nat.reduceEqDiff,Nat.reduceLT]
     done
   ·rw[if_neg (fun e=>h2 e.2.2)] at hq
    simp (maxSteps:=10^6) only[hl0,Cq,c0,o0,c1,o1,hA,h1,h2,hq,push_cast,↓reduceIte,reduceCtorEq,Nat.reduceEqDiff,Nat.reduceLT,Nat.reduceMul,Int.reduceNeg,Int.reduceLE]
    done
  ·rw[if_neg (fun e=>h1 e.2.1)] at hq
   simp (maxSteps:=10^6) only[hl0,Cq,c0,o0,hA,h1,hq,undef,push_cast,↓reduceIte,reduceCtorEq,Nat.reduceEqDiff,Nat.reduceLT,Nat.reduceMul,Int.reduceNeg,Int.reduceLE]
   done
end
end
end Go.Proofs.YtedaafmfjhjfmaaGreatDoor
