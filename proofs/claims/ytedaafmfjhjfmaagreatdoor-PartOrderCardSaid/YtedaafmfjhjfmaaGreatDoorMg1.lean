import Derived.Test.YtedaafmfjhjfmaaGreatDoorLf1
import Derived.Test.YtedaafmfjhjfmaaGreatDoorCf0
/- Messages as they lie there; layer 16: msg.kindOf, Form, Name, within. -/
namespace Go.Proofs.YtedaafmfjhjfmaaGreatDoor
open Go.RowKit
set_option linter.unusedSimpArgs false
set_option linter.unusedVariables false
structure MgR where
 k:UInt8
 pl:Int
 ot:Int
 cl:Int
 ge:Int
 nu:UInt64
 sm:List UInt8
 ids:SlV Int
 ns:SlV UInt64
 ps:SlV Pr
 xs:SlV UInt32
 re:Int
def MgR.mg (m:MgR):MgS:=⟨m.k,m.pl,m.ot,m.cl,m.ge,m.nu,m.sm,m.ids.l,m.ns.l,m.ps.l,m.xs.l,m.re⟩
def mgL (k pl ot cl ge nu:At) (sm:List UInt8) (i n p x r:At):List At:=[k,pl,ot,cl,ge,nu]++(sm.map f8++[i,n,p,x,r])
def mgV (m:MgR):List Value:=[vU8 m.k,.int .i64 m.pl,.int .i64 m.ot,.int .i64 m.cl,.int .i64 m.ge,vU64 m.nu]++(m.sm.map vU8++[m.ids.val,m.ns.val,m.ps.val,m.xs.val,.int .i64 m.re])
def mgA (m:MgR):List At:=mgL (.v (vU8 m.k)) (.v (.int .i64 m.pl)) (.v (.int .i64 m.ot)) (.v (.int .i64 m.cl)) (.v (.int .i64 m.ge)) (.v (vU64 m.nu)) m.sm (.v m.ids.val) (.v m.ns.val) (.v m.ps.val) (.v m.xs.val) (.v (.int .i64 m.re))
structure SlV.Ok {α:Type} (s:SlV α) (vs:List Value) (w:World):Prop where
 len:s.l.length≤s.c
 few:s.l.length≤1000
 rd:RdV w w.heap.size s.A vs
structure MgR.Ok (m:MgR) (w:World):Prop where
 s:m.sm.length=32
 ids:m.ids.Ok (m.ids.l.map (Value.int .i64)) w
 ns:m.ns.Ok (m.ns.l.map vU64) w
 ps:m.ps.Ok (pvs m.ps.l) w
 xs:m.xs.Ok (m.xs.l.map Ap) w
theorem SlV.Ok.later {α:Type} {s:SlV α} {vs:List Value} {w0 w:World} {γ:List Nm} {hp:List Res} (h:s.Ok vs w0) (hS:Sat w0 No γ hp w):s.Ok vs w:=⟨h.len,h.few,Cn h.rd hS⟩
theorem MgR.Ok.later {m:MgR} {w0 w:World} {γ:List Nm} {hp:List Res} (h:m.Ok w0) (hS:Sat w0 No γ hp w):m.Ok w:=
 ⟨h.s,h.ids.later hS,h.ns.later hS,h.ps.later hS,h.xs.later hS⟩
structure MgS.Few (m:MgS):Prop where
 sm:m.sm.length=32
 ids:m.ids.length≤1000
 ns:m.ns.length≤1000
 ps:m.ps.length≤1000
 xs:m.xs.length≤1000
theorem MgR.Ok.few {m:MgR} {w:World} (h:m.Ok w):m.mg.Few:=⟨h.s,h.ids.few,h.ns.few,h.ps.few,h.xs.few⟩
theorem Zx (k pl ot cl ge nu:At) (sm:List UInt8) (i n p x r:At) (γ:List Nm):(mgL k pl ot cl ge nu sm i n p x r).map (At.val γ)=[k.val γ,pl.val γ,ot.val γ,cl.val γ,ge.val γ,nu.val γ]++(sm.map vU8++[i.val γ,n.val γ,p.val γ,x.val γ,r.val γ]):=by
 unfold mgL
 rw[List.map_append,List.map_append,List.map_map]
 rfl
theorem Ay6 (m:MgR) (γ:List Nm):(mgA m).map (At.val γ)=mgV m:=Zx ..
theorem Bc (m:MgR) (γ:List Nm):(Sv.x (.g (mgA m))).val γ=.agg (mgV m).toArray:=by
 show Value.agg _=_
 rw[Ay6]
theorem La {k pl ot cl ge nu:At} {sm:List UInt8} {i n p x r:At} (h:sm.length=32):(mgL k pl ot cl ge nu sm i n p x r).length=43:=by simp [mgL,h]
theorem Zy {k pl ot cl ge nu:At} {sm:List UInt8} {i n p x r:At} (h:sm.length=32):(∀d,(mgL k pl ot cl ge nu sm i n p x r).getD 0 d=k)∧(∀d,(mgL k pl ot cl ge nu sm i n p x r).getD 1 d=pl)∧(∀d,(mgL k pl ot cl ge nu sm i n p x r).getD 2 d=ot)∧(∀d,(mgL k pl ot cl ge nu sm i n p x r).getD 3 d=cl)∧(∀d,(mgL k pl ot cl ge nu sm i n p x r).getD 4 d=ge)∧(∀d,(mgL k pl ot cl ge nu sm i n p x r).getD 5 d=nu)∧
  (∀d,(mgL k pl ot cl ge nu sm i n p x r).getD 38 d=i)∧(∀d,(mgL k pl ot cl ge nu sm i n p x r).getD 39 d=n)∧(∀d,(mgL k pl ot cl ge nu sm i n p x r).getD 40 d=p)∧(∀d,(mgL k pl ot cl ge nu sm i n p x r).getD 41 d=x)∧(∀d,(mgL k pl ot cl ge nu sm i n p x r).getD 42 d=r):=by
 refine⟨fun d=>rfl,fun d=>rfl,fun d=>rfl,fun d=>rfl,fun d=>rfl,fun d=>rfl,fun d=>?_,fun d=>?_,fun d=>?_,fun d=>?_,fun d=>?_⟩<;>simp [mgL,List.getD_eq_getElem?_getD,h]
theorem Bo {m:MgR} (h:m.sm.length=32):(mgA m).length=43:=La h
theorem Dc {m:MgR} (h:m.sm.length=32):(∀d,(mgA m).getD 0 d=.v (vU8 m.k))∧(∀d,(mgA m).getD 1 d=.v (.int .i64 m.pl))∧(∀d,(mgA m).getD 2 d=.v (.int .i64 m.ot))∧(∀d,(mgA m).getD 3 d=.v (.int .i64 m.cl))∧(∀d,(mgA m).getD 4 d=.v (.int .i64 m.ge))∧(∀d,(mgA m).getD 5 d=.v (vU64 m.nu))∧
  (∀d,(mgA m).getD 38 d=.v m.ids.val)∧(∀d,(mgA m).getD 39 d=.v m.ns.val)∧(∀d,(mgA m).getD 40 d=.v m.ps.val)∧(∀d,(mgA m).getD 41 d=.v m.xs.val)∧(∀d,(mgA m).getD 42 d=.v (.int .i64 m.re)):=Zy h
theorem Ay7 {k pl ot cl ge nu:At} {sm:List UInt8} {i n p x r:At} (h:sm.length=32):((mgL k pl ot cl ge nu sm i n p x r).drop 6).take 32=sm.map f8:=by
 have e:(mgL k pl ot cl ge nu sm i n p x r).drop 6=sm.map f8++[i,n,p,x,r]:=rfl
 rw[e,List.take_append_of_le_length (by simp [h]),List.take_of_length_le (by simp [h])]
theorem P7 {m:MgR} (h:m.sm.length=32):((mgA m).drop 6).take 32=m.sm.map f8:=Ay7 h
theorem P8 {q:At→Prop} {k pl ot cl ge nu:At} {sm:List UInt8} {i n p x r:At} (h0:∀y:UInt8,q (.v (vU8 y))) (h1:q k) (h2:q pl) (h3:q ot) (h4:q cl) (h5:q ge) (h6:q nu) (h7:q i) (h8:q n) (h9:q p) (h10:q x) (h11:q r):∀y∈mgL k pl ot cl ge nu sm i n p x r,q y:=fun y hy=>by
 unfold mgL at hy
 simp only[List.mem_append,List.mem_cons,List.mem_map,List.not_mem_nil,or_false] at hy
 rcases hy with (rfl|rfl|rfl|rfl|rfl|rfl)|⟨z,_,rfl⟩|rfl|rfl|rfl|rfl|rfl
 ·exact h1
 ·exact h2
 ·exact h3
 ·exact h4
 ·exact h5
 ·exact h6
 ·exact h0 z
 ·exact h7
 ·exact h8
 ·exact h9
 ·exact h10
 ·exact h11
theorem P9 {q:At→Prop} (m:MgR) (h:∀v:Value,v.oneCell'=true→scalar v→q (.v v)):(∀x∈mgA m,q x)=True:=eq_true (P8 (fun _=>h _ rfl trivial) (h _ rfl trivial) (h _ rfl trivial) (h _ rfl trivial) (h _ rfl trivial) (h _ rfl trivial) (h _ rfl trivial) (h _ rfl trivial) (h _ rfl trivial) (h _ rfl trivial) (h _ rfl trivial) (h _ rfl trivial))
theorem Ay8 (m:MgR) (hp:List Res):(∀x∈mgA m,x.scalar hp)=True:=P9 m fun v _ h=>h
theorem Cp (m:MgR) (hp:List Res):(∀x∈mgA m,x.one hp)=True:=P9 m fun v h _=>h
theorem Cs (m:MgR) (n:Nat):(∀x∈mgA m,x.bnd n)=True:=P9 m fun v _ _=>trivial
theorem Uc (ρ:List Nat) (k pl ot cl ge nu:At) (sm:List UInt8) (i n p x r:At):(mgL k pl ot cl ge nu sm i n p x r).map (At.ren ρ)=mgL (k.ren ρ) (pl.ren ρ) (ot.ren ρ) (cl.ren ρ) (ge.ren ρ) (nu.ren ρ) sm (i.ren ρ) (n.ren ρ) (p.ren ρ) (x.ren ρ) (r.ren ρ):=by
 unfold mgL
 rw[List.map_append,List.map_append,List.map_map]
 rfl
theorem Qa (m:MgR) (ρ:List Nat):(mgA m).map (At.ren ρ)=mgA m:=Uc ..
theorem Ao (m:MgR) (n:Nat):Cont.bnd n (.c (mgA m))=True:=Cs m n
theorem Bj (m:MgR) (n:Nat):Sc.bnd n (.g (mgA m))=True:=Cs m n
theorem A9 (m:MgR) (hp:List Res):Sc.cont hp (.g (mgA m))=(True,.c (mgA m)):=by
 show (_,_)=_
 rw[Ay8]
theorem A7 (m:MgR) (ρ:List Nat):Cont.ren ρ (.c (mgA m))=.c (mgA m):=by
 show Cont.c _=_
 rw[Qa]
theorem Ay9 (m:MgR) (ρ:List Nat):Sc.ren ρ (.g (mgA m))=.g (mgA m):=by
 show Sc.g _=_
 rw[Qa]
theorem Zz (m:MgR) (ρ:List Nat):Sv.ren ρ (.x (.g (mgA m)))=.x (.g (mgA m)):=by
 show Sv.x (Sc.g _)=_
 rw[Qa]
def Mr (w0:World) (hp:List Res) (sv:Sv) (m:MgS):Prop:=∀γ w,Sat w0 No γ hp w→∃a:MgR,sv.val γ=.agg (mgV a).toArray∧a.Ok w∧a.mg=m
theorem Qb {w0:World} {hp:List Res} {a:MgR} (h:a.Ok w0):Mr w0 hp (.x (.g (mgA a))) a.mg:=fun γ w hS=>⟨a,Bc a γ,h.later hS,rfl⟩
theorem Qc (m:MgR) (γ γ':List Nm):(Sv.x (.g (mgA m))).val γ=(Sv.x (.g (mgA m))).val γ':=by rw[Bc,Bc]
def zeroR:MgR:=⟨0,0,0,0,0,0,List.replicate 32 0,default,default,default,default,0⟩
theorem Aza:ZOk Tryz.prog 48 (.c (.v (.int .u8 0):: .v (.int .i64 0):: .v (.int .i64 0):: .v (.int .i64 0):: .v (.int .i64 0):: .v (.int .u64 0)::(List.map f8 (List.replicate 32 0)++[.v (.slice none 0 0),.v (.slice none 0 0),.v (.slice none 0 0),.v (.slice none 0 0),.v (.int .i64 0)])))=True:=
 eq_true ⟨.agg ([Value.int .u8 0,.int .i64 0,.int .i64 0,.int .i64 0,.int .i64 0,.int .u64 0]++(List.replicate 32 (Value.int .u8 0)++[Value.slice none 0 0,.slice none 0 0,.slice none 0 0,.slice none 0 0,.int .i64 0])).toArray,by kernel_rfl,fun _=>rfl⟩
theorem B9:(.v (.int .u8 0):: .v (.int .i64 0):: .v (.int .i64 0):: .v (.int .i64 0):: .v (.int .i64 0):: .v (.int .u64 0)::(List.map f8 (List.replicate 32 0)++[.v (.slice none 0 0),.v (.slice none 0 0),.v (.slice none 0 0),.v (.slice none 0 0),.v (.int .i64 0)]))=mgA zeroR:=rfl
theorem Cq:ZOk Tryz.prog 48 (.c (mgA zeroR))=True:=by rw[←B9];exact Aza
theorem Ck:(mgA zeroR).length=43:=rfl
theorem Azb {n most:Int} (h:0≤n) (h2:n≤most):wiM n most=true:=decide_eq_true ⟨h,h2⟩
theorem Azc {n most:Int} (h:¬0≤n):wiM n most=false:=decide_eq_false fun e=>h e.1
theorem Azd {n most:Int} (h:¬n≤most):wiM n most=false:=decide_eq_false fun e=>h e.2
attribute [local irreducible] Ad Ae Ah Ar Ak Am Ai Al
attribute [local irreducible] wiM
section
variable {w0:World} {ow:Nat→Prop} {hp:List Res}
set_option maxRecDepth 100000 in
theorem Aze (n most:Int) (w:World):Calls Tryz.prog 146 #[.int .i64 n,.int .i64 most] w fun e w'=>e=.returned (.bool (wiM n most))∧Below w.heap.size w w':=by
 refine Ba (n:=12) Tryz.func146 rfl Tryz.ntmps146 [.x (.a (.v (.int .i64 n))),.x (.a (.v (.int .i64 most)))] (by simp) (.x (.a (.v (.bool (wiM n most))))) (fun _=>rfl) ?_
 by_cases h:0≤n
 ·by_cases h1:n≤most
  ·have hd:=Azb h h1
   simp (maxSteps:=10^6) only[h,h1,hd,push_cast,↓reduceIte,reduceCtorEq,Nat.reduceEqDiff,Nat.reduceLT]
   done
  ·have hd:=Azd h1
   simp (maxSteps:=10^6) only[h,h1,hd,push_cast,↓reduceIte,reduceCtorEq,Nat.reduceEqDiff,Nat.reduceLT]
   done
 ·have hd:=Azc (most:=most) h
  simp (maxSteps:=10^6) only[h,hd,undef,push_cast,↓reduceIte,reduceCtorEq,Nat.reduceEqDiff,Nat.reduceLT]
  done
theorem Ms (n most:Int):Ae Tryz.prog w0 ow 146 [.x (.a (.v (.int .i64 n))),.x (.a (.v (.int .i64 most)))] hp (.x (.a (.v (.bool (wiM n most))))) hp:=A8 fun γ w _=>Aze n most w
def Mt (k:UInt8):List Sc:=[.a (.v (.string (Gb (K6 k).1))),.a (.v (.string (Gb (K6 k).2)))]
set_option maxRecDepth 100000 in
set_option maxHeartbeats 2000000 in
theorem Azf (k:UInt8) (w:World):Calls Tryz.prog 145 #[vU8 k] w fun e w'=>e=.returned ((Sv.t (Mt k)).val [])∧Below w.heap.size w w':=by
 refine Ba (n:=43) Tryz.func145 rfl Tryz.ntmps145 [.x (.a (.v (vU8 k)))] (by simp) (.t (Mt k)) (fun _=>rfl) ?_
 unfold Mt K6
 by_cases h:k=1
 ·have g1:(k=1)=True:=eq_true h
  simp (maxSteps:=10^6) only[g1,push_cast,↓reduceIte,reduceCtorEq,Nat.reduceEqDiff,Nat.reduceLT]
  rfl
 have g1:(k=1)=False:=eq_false h
 clear h
 by_cases h:k=2
 ·have g2:(k=2)=True:=eq_true h
  simp (maxSteps:=10^6) only[g1,g2,push_cast,↓reduceIte,reduceCtorEq,Nat.reduceEqDiff,Nat.reduceLT]
  rfl
 have g2:(k=2)=False:=eq_false h
 clear h
 by_cases h:k=3
 ·have g3:(k=3)=True:=eq_true h
  simp (maxSteps:=10^6) only[g1,g2,g3,push_cast,↓reduceIte,reduceCtorEq,Nat.reduceEqDiff,Nat.reduceLT]
  rfl
 have g3:(k=3)=False:=eq_false h
 clear h
 by_cases h:k=4
 ·have g4:(k=4)=True:=eq_true h
  simp (maxSteps:=10^6) only[g1,g2,g3,g4,push_cast,↓reduceIte,reduceCtorEq,Nat.reduceEqDiff,Nat.reduceLT]
  rfl
 have g4:(k=4)=False:=eq_false h
 clear h
 by_cases h:k=5
 ·have g5:(k=5)=True:=eq_true h
  simp (maxSteps:=10^6) only[g1,g2,g3,g4,g5,push_cast,↓reduceIte,reduceCtorEq,Nat.reduceEqDiff,Nat.reduceLT]
  rfl
 have g5:(k=5)=False:=eq_false h
 clear h
 by_cases h:k=6
 ·have g6:(k=6)=True:=eq_true h
  simp (maxSteps:=10^6) only[g1,g2,g3,g4,g5,g6,push_cast,↓reduceIte,reduceCtorEq,Nat.reduceEqDiff,Nat.reduceLT]
  rfl
 have g6:(k=6)=False:=eq_false h
 clear h
 by_cases h:k=7
 ·have g7:(k=7)=True:=eq_true h
  simp (maxSteps:=10^6) only[g1,g2,g3,g4,g5,g6,g7,push_cast,↓reduceIte,reduceCtorEq,Nat.reduceEqDiff,Nat.reduceLT]
  rfl
 have g7:(k=7)=False:=eq_false h
 clear h
 by_cases h:k=8
 ·have g8:(k=8)=True:=eq_true h
  simp (maxSteps:=10^6) only[g1,g2,g3,g4,g5,g6,g7,g8,push_cast,↓reduceIte,reduceCtorEq,Nat.reduceEqDiff,Nat.reduceLT]
  rfl
 have g8:(k=8)=False:=eq_false h
 clear h
 by_cases h:k=9
 ·have g9:(k=9)=True:=eq_true h
  simp (maxSteps:=10^6) only[g1,g2,g3,g4,g5,g6,g7,g8,g9,push_cast,↓reduceIte,reduceCtorEq,Nat.reduceEqDiff,Nat.reduceLT]
  rfl
 have g9:(k=9)=False:=eq_false h
 clear h
 by_cases h:k=10
 ·have g10:(k=10)=True:=eq_true h
  simp (maxSteps:=10^6) only[g1,g2,g3,g4,g5,g6,g7,g8,g9,g10,push_cast,↓reduceIte,reduceCtorEq,Nat.reduceEqDiff,Nat.reduceLT]
  rfl
 have g10:(k=10)=False:=eq_false h
 clear h
 by_cases h:k=11
 ·have g11:(k=11)=True:=eq_true h
  simp (maxSteps:=10^6) only[g1,g2,g3,g4,g5,g6,g7,g8,g9,g10,g11,push_cast,↓reduceIte,reduceCtorEq,Nat.reduceEqDiff,Nat.reduceLT]
  rfl
 have g11:(k=11)=False:=eq_false h
 clear h
 by_cases h:k=12
 ·have g12:(k=12)=True:=eq_true h
  simp (maxSteps:=10^6) only[g1,g2,g3,g4,g5,g6,g7,g8,g9,g10,g11,g12,push_cast,↓reduceIte,reduceCtorEq,Nat.reduceEqDiff,Nat.reduceLT]
  rfl
 have g12:(k=12)=False:=eq_false h
 clear h
 by_cases h:k=13
 ·have g13:(k=13)=True:=eq_true h
  simp (maxSteps:=10^6) only[g1,g2,g3,g4,g5,g6,g7,g8,g9,g10,g11,g12,g13,push_cast,↓reduceIte,reduceCtorEq,Nat.reduceEqDiff,Nat.reduceLT]
  rfl
 have g13:(k=13)=False:=eq_false h
 clear h
 by_cases h:k=14
 ·have g14:(k=14)=True:=eq_true h
  simp (maxSteps:=10^6) only[g1,g2,g3,g4,g5,g6,g7,g8,g9,g10,g11,g12,g13,g14,push_cast,↓reduceIte,reduceCtorEq,Nat.reduceEqDiff,Nat.reduceLT]
  rfl
 have g14:(k=14)=False:=eq_false h
 clear h
 by_cases h:k=15
 ·have g15:(k=15)=True:=eq_true h
  simp (maxSteps:=10^6) only[g1,g2,g3,g4,g5,g6,g7,g8,g9,g10,g11,g12,g13,g14,g15,push_cast,↓reduceIte,reduceCtorEq,Nat.reduceEqDiff,Nat.reduceLT]
  rfl
 have g15:(k=15)=False:=eq_false h
 clear h
 by_cases h:k=16
 ·have g16:(k=16)=True:=eq_true h
  simp (maxSteps:=10^6) only[g1,g2,g3,g4,g5,g6,g7,g8,g9,g10,g11,g12,g13,g14,g15,g16,push_cast,↓reduceIte,reduceCtorEq,Nat.reduceEqDiff,Nat.reduceLT]
  rfl
 have g16:(k=16)=False:=eq_false h
 clear h
 by_cases h:k=17
 ·have g17:(k=17)=True:=eq_true h
  simp (maxSteps:=10^6) only[g1,g2,g3,g4,g5,g6,g7,g8,g9,g10,g11,g12,g13,g14,g15,g16,g17,push_cast,↓reduceIte,reduceCtorEq,Nat.reduceEqDiff,Nat.reduceLT]
  rfl
 have g17:(k=17)=False:=eq_false h
 clear h
 by_cases h:k=18
 ·have g18:(k=18)=True:=eq_true h
  simp (maxSteps:=10^6) only[g1,g2,g3,g4,g5,g6,g7,g8,g9,g10,g11,g12,g13,g14,g15,g16,g17,g18,push_cast,↓reduceIte,reduceCtorEq,Nat.reduceEqDiff,Nat.reduceLT]
  rfl
 have g18:(k=18)=False:=eq_false h
 clear h
 by_cases h:k=19
 ·have g19:(k=19)=True:=eq_true h
  simp (maxSteps:=10^6) only[g1,g2,g3,g4,g5,g6,g7,g8,g9,g10,g11,g12,g13,g14,g15,g16,g17,g18,g19,push_cast,↓reduceIte,reduceCtorEq,Nat.reduceEqDiff,Nat.reduceLT]
  rfl
 have g19:(k=19)=False:=eq_false h
 clear h
 simp (maxSteps:=10^6) only[g1,g2,g3,g4,g5,g6,g7,g8,g9,g10,g11,g12,g13,g14,g15,g16,g17,g18,g19,push_cast,↓reduceIte,reduceCtorEq,Nat.reduceEqDiff,Nat.reduceLT]
 rfl
theorem Azg (k:UInt8):Ae Tryz.prog w0 ow 145 [.x (.a (.v (vU8 k)))] hp (.t (Mt k)) hp:=A8 fun γ w _=>Azf k w
def A7u (k:UInt8):ByteArray:=Gb (K6 k).1
def Dm (k:UInt8):ByteArray:=Gb (Bn k)
set_option maxRecDepth 100000 in
theorem Azh (k:UInt8) (w:World):Calls Tryz.prog 112 #[vU8 k] w fun e w'=>e=.returned (.string (Dm k))∧Below w.heap.size w w':=by
 refine Ba (n:=11) Tryz.func112 rfl Tryz.ntmps112 [.x (.a (.v (vU8 k)))] (by simp) (.x (.a (.v (.string (Dm k))))) (fun _=>rfl) ?_
 simp (maxSteps:=10^6) only[push_cast,↓reduceIte,reduceCtorEq,Nat.reduceLT]
 (repeat (refine And.intro (by first|omega|decide) ?_))
 refine Aq rfl Awo rfl (Azg k) (Af rfl) ?_
 unfold Mt Dm Bn
 simp (maxSteps:=10^6) only[push_cast,↓reduceIte,Nat.reduceEqDiff,Nat.reduceLT]
 done
theorem Azi (k:UInt8):Ae Tryz.prog w0 ow 112 [.x (.a (.v (vU8 k)))] hp (.x (.a (.v (.string (Dm k))))) hp:=A8 fun γ w _=>Azh k w
end
end Go.Proofs.YtedaafmfjhjfmaaGreatDoor
