import Derived.Test.YtedaafmfjhjfmaaGreatDoorSt2
import Derived.Test.YtedaafmfjhjfmaaGreatDoorCf0
/- Messages as they lie there; layer 16: msg.kindOf, Form, Name, within. -/
namespace Go.Proofs.YtedaafmfjhjfmaaGreatDoor
open Go.RowKit
set_option linter.unusedSimpArgs false
set_option linter.unusedVariables false
structure MgR where
 k:UInt8
 pl:Int
 ot:Int
 cl:Int
 ge:Int
 nu:UInt64
 sm:List UInt8
 ids:SlV Int
 ns:SlV UInt64
 ps:SlV Pr
 xs:SlV UInt32
 re:Int
def MgR.mg (m:MgR):MgS:=⟨m.k,m.pl,m.ot,m.cl,m.ge,m.nu,m.sm,m.ids.l,m.ns.l,m.ps.l,m.xs.l,m.re⟩
def mgL (k pl ot cl ge nu:At) (sm:List UInt8) (i n p x r:At):List At:=[k,pl,ot,cl,ge,nu]++(sm.map f8++[i,n,p,x,r])
def mgV (m:MgR):List Value:=[vU8 m.k,.int .i64 m.pl,.int .i64 m.ot,.int .i64 m.cl,.int .i64 m.ge,vU64 m.nu]++(m.sm.map vU8++[m.ids.val,m.ns.val,m.ps.val,m.xs.val,.int .i64 m.re])
def mgA (m:MgR):List At:=mgL (.v (vU8 m.k)) (.v (.int .i64 m.pl)) (.v (.int .i64 m.ot)) (.v (.int .i64 m.cl)) (.v (.int .i64 m.ge)) (.v (vU64 m.nu)) m.sm (.v m.ids.val) (.v m.ns.val) (.v m.ps.val) (.v m.xs.val) (.v (.int .i64 m.re))
structure SlV.Ok {α:Type} (s:SlV α) (vs:List Value) (w:World):Prop where
 len:s.l.length≤s.c
 few:s.l.length≤1000
 rd:RdV w w.heap.size s.A vs
structure MgR.Ok (m:MgR) (w:World):Prop where
 s:m.sm.length=32
 ids:m.ids.Ok (m.ids.l.map (Value.int .i64)) w
 ns:m.ns.Ok (m.ns.l.map vU64) w
 ps:m.ps.Ok (pvs m.ps.l) w
 xs:m.xs.Ok (m.xs.l.map Ak) w
theorem SlV.Ok.later {α:Type} {s:SlV α} {vs:List Value} {w0 w:World} {γ:List Nm} {hp:List Res} (h:s.Ok vs w0) (hS:Sat w0 No γ hp w):s.Ok vs w:=⟨h.len,h.few,Dn h.rd hS⟩
theorem MgR.Ok.later {m:MgR} {w0 w:World} {γ:List Nm} {hp:List Res} (h:m.Ok w0) (hS:Sat w0 No γ hp w):m.Ok w:=
 ⟨h.s,h.ids.later hS,h.ns.later hS,h.ps.later hS,h.xs.later hS⟩
structure MgS.Few (m:MgS):Prop where
 sm:m.sm.length=32
 ids:m.ids.length≤1000
 ns:m.ns.length≤1000
 ps:m.ps.length≤1000
 xs:m.xs.length≤1000
theorem MgR.Ok.few {m:MgR} {w:World} (h:m.Ok w):m.mg.Few:=⟨h.s,h.ids.few,h.ns.few,h.ps.few,h.xs.few⟩
theorem Ks (k pl ot cl ge nu:At) (sm:List UInt8) (i n p x r:At) (γ:List Nm):(mgL k pl ot cl ge nu sm i n p x r).map (At.val γ)=[k.val γ,pl.val γ,ot.val γ,cl.val γ,ge.val γ,nu.val γ]++(sm.map vU8++[i.val γ,n.val γ,p.val γ,x.val γ,r.val γ]):=by
 unfold mgL
 rw[List.map_append,List.map_append,List.map_map]
 rfl
theorem Kt (m:MgR) (γ:List Nm):(mgA m).map (At.val γ)=mgV m:=Ks ..
theorem C4 (m:MgR) (γ:List Nm):(Sv.x (.g (mgA m))).val γ=.agg (mgV m).toArray:=by
 show Value.agg _=_
 rw[Kt]
theorem Ku {k pl ot cl ge nu:At} {sm:List UInt8} {i n p x r:At} (h:sm.length=32):(mgL k pl ot cl ge nu sm i n p x r).length=43:=by simp [mgL,h]
theorem A0g {k pl ot cl ge nu:At} {sm:List UInt8} {i n p x r:At} (h:sm.length=32):(∀d,(mgL k pl ot cl ge nu sm i n p x r).getD 0 d=k)∧(∀d,(mgL k pl ot cl ge nu sm i n p x r).getD 1 d=pl)∧(∀d,(mgL k pl ot cl ge nu sm i n p x r).getD 2 d=ot)∧(∀d,(mgL k pl ot cl ge nu sm i n p x r).getD 3 d=cl)∧(∀d,(mgL k pl ot cl ge nu sm i n p x r).getD 4 d=ge)∧(∀d,(mgL k pl ot cl ge nu sm i n p x r).getD 5 d=nu)∧
  (∀d,(mgL k pl ot cl ge nu sm i n p x r).getD 38 d=i)∧(∀d,(mgL k pl ot cl ge nu sm i n p x r).getD 39 d=n)∧(∀d,(mgL k pl ot cl ge nu sm i n p x r).getD 40 d=p)∧(∀d,(mgL k pl ot cl ge nu sm i n p x r).getD 41 d=x)∧(∀d,(mgL k pl ot cl ge nu sm i n p x r).getD 42 d=r):=by
 refine⟨fun d=>rfl,fun d=>rfl,fun d=>rfl,fun d=>rfl,fun d=>rfl,fun d=>rfl,fun d=>?_,fun d=>?_,fun d=>?_,fun d=>?_,fun d=>?_⟩<;>simp [mgL,List.getD_eq_getElem?_getD,h]
theorem Aw {m:MgR} (h:m.sm.length=32):(mgA m).length=43:=Ku h
theorem mgA_get {m:MgR} (h:m.sm.length=32):(∀d,(mgA m).getD 0 d=.v (vU8 m.k))∧(∀d,(mgA m).getD 1 d=.v (.int .i64 m.pl))∧(∀d,(mgA m).getD 2 d=.v (.int .i64 m.ot))∧(∀d,(mgA m).getD 3 d=.v (.int .i64 m.cl))∧(∀d,(mgA m).getD 4 d=.v (.int .i64 m.ge))∧(∀d,(mgA m).getD 5 d=.v (vU64 m.nu))∧
  (∀d,(mgA m).getD 38 d=.v m.ids.val)∧(∀d,(mgA m).getD 39 d=.v m.ns.val)∧(∀d,(mgA m).getD 40 d=.v m.ps.val)∧(∀d,(mgA m).getD 41 d=.v m.xs.val)∧(∀d,(mgA m).getD 42 d=.v (.int .i64 m.re)):=A0g h
theorem A0h {k pl ot cl ge nu:At} {sm:List UInt8} {i n p x r:At} (h:sm.length=32):((mgL k pl ot cl ge nu sm i n p x r).drop 6).take 32=sm.map f8:=by
 have e:(mgL k pl ot cl ge nu sm i n p x r).drop 6=sm.map f8++[i,n,p,x,r]:=rfl
 rw[e,List.take_append_of_le_length (by simp [h]),List.take_of_length_le (by simp [h])]
theorem Rc {m:MgR} (h:m.sm.length=32):((mgA m).drop 6).take 32=m.sm.map f8:=A0h h
theorem G7 {q:At→Prop} {k pl ot cl ge nu:At} {sm:List UInt8} {i n p x r:At} (h0:∀y:UInt8,q (.v (vU8 y))) (h1:q k) (h2:q pl) (h3:q ot) (h4:q cl) (h5:q ge) (h6:q nu) (h7:q i) (h8:q n) (h9:q p) (h10:q x) (h11:q r):∀y∈mgL k pl ot cl ge nu sm i n p x r,q y:=fun y hy=>by
 unfold mgL at hy
 simp only[List.mem_append,List.mem_cons,List.mem_map,List.not_mem_nil,or_false] at hy
 rcases hy with (rfl|rfl|rfl|rfl|rfl|rfl)|⟨z,_,rfl⟩|rfl|rfl|rfl|rfl|rfl
 ·exact h1
 ·exact h2
 ·exact h3
 ·exact h4
 ·exact h5
 ·exact h6
 ·exact h0 z
 ·exact h7
 ·exact h8
 ·exact h9
 ·exact h10
 ·exact h11
theorem Ni {q:At→Prop} (m:MgR) (h:∀v:Value,v.oneCell'=true→scalar v→q (.v v)):(∀x∈mgA m,q x)=True:=eq_true (G7 (fun _=>h _ rfl trivial) (h _ rfl trivial) (h _ rfl trivial) (h _ rfl trivial) (h _ rfl trivial) (h _ rfl trivial) (h _ rfl trivial) (h _ rfl trivial) (h _ rfl trivial) (h _ rfl trivial) (h _ rfl trivial) (h _ rfl trivial))
theorem Vk (m:MgR) (hp:List Res):(∀x∈mgA m,x.scalar hp)=True:=Ni m fun v _ h=>h
theorem Co (m:MgR) (hp:List Res):(∀x∈mgA m,x.one hp)=True:=Ni m fun v h _=>h
theorem Ad (m:MgR) (n:Nat):(∀x∈mgA m,x.bnd n)=True:=Ni m fun v _ _=>trivial
theorem Nj (ρ:List Nat) (k pl ot cl ge nu:At) (sm:List UInt8) (i n p x r:At):(mgL k pl ot cl ge nu sm i n p x r).map (At.ren ρ)=mgL (k.ren ρ) (pl.ren ρ) (ot.ren ρ) (cl.ren ρ) (ge.ren ρ) (nu.ren ρ) sm (i.ren ρ) (n.ren ρ) (p.ren ρ) (x.ren ρ) (r.ren ρ):=by
 unfold mgL
 rw[List.map_append,List.map_append,List.map_map]
 rfl
theorem Au (m:MgR) (ρ:List Nat):(mgA m).map (At.ren ρ)=mgA m:=Nj ..
theorem A5 (m:MgR) (n:Nat):Cont.bnd n (.c (mgA m))=True:=Ad m n
theorem Bg (m:MgR) (n:Nat):Sc.bnd n (.g (mgA m))=True:=Ad m n
theorem A0i (m:MgR) (n:Nat):Sv.bnd n (.x (.g (mgA m)))=True:=Ad m n
theorem Bf (m:MgR) (hp:List Res):Sc.cont hp (.g (mgA m))=(True,.c (mgA m)):=by
 show (_,_)=_
 rw[Vk]
theorem Bh (m:MgR) (ρ:List Nat):Cont.ren ρ (.c (mgA m))=.c (mgA m):=by
 show Cont.c _=_
 rw[Au]
theorem A0j (m:MgR) (ρ:List Nat):Sc.ren ρ (.g (mgA m))=.g (mgA m):=by
 show Sc.g _=_
 rw[Au]
theorem A0k (m:MgR) (ρ:List Nat):Sv.ren ρ (.x (.g (mgA m)))=.x (.g (mgA m)):=by
 show Sv.x (Sc.g _)=_
 rw[Au]
def Rd (w0:World) (hp:List Res) (sv:Sv) (m:MgS):Prop:=∀γ w,Sat w0 No γ hp w→∃a:MgR,sv.val γ=.agg (mgV a).toArray∧a.Ok w∧a.mg=m
theorem Vl {w0:World} {hp:List Res} {a:MgR} (h:a.Ok w0):Rd w0 hp (.x (.g (mgA a))) a.mg:=fun γ w hS=>⟨a,C4 a γ,h.later hS,rfl⟩
theorem Vm (m:MgR) (γ γ':List Nm):(Sv.x (.g (mgA m))).val γ=(Sv.x (.g (mgA m))).val γ':=by rw[C4,C4]
def zeroR:MgR:=⟨0,0,0,0,0,0,List.replicate 32 0,default,default,default,default,0⟩
theorem A0l:ZOk Tryz.prog 48 (.c (.v (.int .u8 0):: .v (.int .i64 0):: .v (.int .i64 0):: .v (.int .i64 0):: .v (.int .i64 0):: .v (.int .u64 0)::(List.map f8 (List.replicate 32 0)++[.v (.slice none 0 0),.v (.slice none 0 0),.v (.slice none 0 0),.v (.slice none 0 0),.v (.int .i64 0)])))=True:=
 eq_true ⟨.agg ([Value.int .u8 0,.int .i64 0,.int .i64 0,.int .i64 0,.int .i64 0,.int .u64 0]++(List.replicate 32 (Value.int .u8 0)++[Value.slice none 0 0,.slice none 0 0,.slice none 0 0,.slice none 0 0,.int .i64 0])).toArray,by kernel_rfl,fun _=>rfl⟩
theorem Bp:(.v (.int .u8 0):: .v (.int .i64 0):: .v (.int .i64 0):: .v (.int .i64 0):: .v (.int .i64 0):: .v (.int .u64 0)::(List.map f8 (List.replicate 32 0)++[.v (.slice none 0 0),.v (.slice none 0 0),.v (.slice none 0 0),.v (.slice none 0 0),.v (.int .i64 0)]))=mgA zeroR:=rfl
theorem Bu:ZOk Tryz.prog 48 (.c (mgA zeroR))=True:=by rw[←Bp];exact A0l
theorem Bw:(mgA zeroR).length=43:=rfl
theorem A0m {n most:Int} (h:0≤n) (h2:n≤most):wiM n most=true:=decide_eq_true ⟨h,h2⟩
theorem A0n {n most:Int} (h:¬0≤n):wiM n most=false:=decide_eq_false fun e=>h e.1
theorem A0o {n most:Int} (h:¬n≤most):wiM n most=false:=decide_eq_false fun e=>h e.2
attribute [local irreducible] Ah Ai Am Bc A7 Ay Ap A6
attribute [local irreducible] wiM
section
variable {w0:World} {ow:Nat→Prop} {hp:List Res}
set_option maxRecDepth 100000 in
theorem A0p (n most:Int) (w:World):Calls Tryz.prog 146 #[.int .i64 n,.int .i64 most] w fun e w'=>e=.returned (.bool (wiM n most))∧Below w.heap.size w w':=by
 refine Bm (n:=12) Tryz.func146 rfl Tryz.ntmps146 [.x (.a (.v (.int .i64 n))),.x (.a (.v (.int .i64 most)))] (by simp) (.x (.a (.v (.bool (wiM n most))))) (fun _=>rfl) ?_
 by_cases h:0≤n
 ·by_cases h1:n≤most
  ·have hd:=A0m h h1
   simp (maxSteps:=10^6) only[h,h1,hd,push_cast,↓reduceIte,reduceCtorEq,Nat.reduceEqDiff,Nat.reduceLT]
   done
  ·have hd:=A0o h1
   simp (maxSteps:=10^6) only[h,h1,hd,push_cast,↓reduceIte,reduceCtorEq,Nat.reduceEqDiff,Nat.reduceLT]
   done
 ·have hd:=A0n (most:=most) h
  simp (maxSteps:=10^6) only[h,hd,undef,push_cast,↓reduceIte,reduceCtorEq,Nat.reduceEqDiff,Nat.reduceLT]
  done
theorem Nk (n most:Int):Ai Tryz.prog w0 ow 146 [.x (.a (.v (.int .i64 n))),.x (.a (.v (.int .i64 most)))] hp (.x (.a (.v (.bool (wiM n most))))) hp:=Bq fun γ w _=>A0p n most w
def Nl (k:UInt8):List Sc:=[.a (.v (.string (Hf (L4 k).1))),.a (.v (.string (Hf (L4 k).2)))]
set_option maxRecDepth 100000 in
set_option maxHeartbeats 2000000 in
theorem A0q (k:UInt8) (w:World):Calls Tryz.prog 145 #[vU8 k] w fun e w'=>e=.returned ((Sv.t (Nl k)).val [])∧Below w.heap.size w w':=by
 refine Bm (n:=43) Tryz.func145 rfl Tryz.ntmps145 [.x (.a (.v (vU8 k)))] (by simp) (.t (Nl k)) (fun _=>rfl) ?_
 unfold Nl L4
 by_cases h:k=1
 ·have g1:(k=1)=True:=eq_true h
  simp (maxSteps:=10^6) only[g1,push_cast,↓reduceIte,reduceCtorEq,Nat.reduceEqDiff,Nat.reduceLT]
  rfl
 have g1:(k=1)=False:=eq_false h
 clear h
 by_cases h:k=2
 ·have g2:(k=2)=True:=eq_true h
  simp (maxSteps:=10^6) only[g1,g2,push_cast,↓reduceIte,reduceCtorEq,Nat.reduceEqDiff,Nat.reduceLT]
  rfl
 have g2:(k=2)=False:=eq_false h
 clear h
 by_cases h:k=3
 ·have g3:(k=3)=True:=eq_true h
  simp (maxSteps:=10^6) only[g1,g2,g3,push_cast,↓reduceIte,reduceCtorEq,Nat.reduceEqDiff,Nat.reduceLT]
  rfl
 have g3:(k=3)=False:=eq_false h
 clear h
 by_cases h:k=4
 ·have g4:(k=4)=True:=eq_true h
  simp (maxSteps:=10^6) only[g1,g2,g3,g4,push_cast,↓reduceIte,reduceCtorEq,Nat.reduceEqDiff,Nat.reduceLT]
  rfl
 have g4:(k=4)=False:=eq_false h
 clear h
 by_cases h:k=5
 ·have g5:(k=5)=True:=eq_true h
  simp (maxSteps:=10^6) only[g1,g2,g3,g4,g5,push_cast,↓reduceIte,reduceCtorEq,Nat.reduceEqDiff,Nat.reduceLT]
  rfl
 have g5:(k=5)=False:=eq_false h
 clear h
 by_cases h:k=6
 ·have g6:(k=6)=True:=eq_true h
  simp (maxSteps:=10^6) only[g1,g2,g3,g4,g5,g6,push_cast,↓reduceIte,reduceCtorEq,Nat.reduceEqDiff,Nat.reduceLT]
  rfl
 have g6:(k=6)=False:=eq_false h
 clear h
 by_cases h:k=7
 ·have g7:(k=7)=True:=eq_true h
  simp (maxSteps:=10^6) only[g1,g2,g3,g4,g5,g6,g7,push_cast,↓reduceIte,reduceCtorEq,Nat.reduceEqDiff,Nat.reduceLT]
  rfl
 have g7:(k=7)=False:=eq_false h
 clear h
 by_cases h:k=8
 ·have g8:(k=8)=True:=eq_true h
  simp (maxSteps:=10^6) only[g1,g2,g3,g4,g5,g6,g7,g8,push_cast,↓reduceIte,reduceCtorEq,Nat.reduceEqDiff,Nat.reduceLT]
  rfl
 have g8:(k=8)=False:=eq_false h
 clear h
 by_cases h:k=9
 ·have g9:(k=9)=True:=eq_true h
  simp (maxSteps:=10^6) only[g1,g2,g3,g4,g5,g6,g7,g8,g9,push_cast,↓reduceIte,reduceCtorEq,Nat.reduceEqDiff,Nat.reduceLT]
  rfl
 have g9:(k=9)=False:=eq_false h
 clear h
 by_cases h:k=10
 ·have g10:(k=10)=True:=eq_true h
  simp (maxSteps:=10^6) only[g1,g2,g3,g4,g5,g6,g7,g8,g9,g10,push_cast,↓reduceIte,reduceCtorEq,Nat.reduceEqDiff,Nat.reduceLT]
  rfl
 have g10:(k=10)=False:=eq_false h
 clear h
 by_cases h:k=11
 ·have g11:(k=11)=True:=eq_true h
  simp (maxSteps:=10^6) only[g1,g2,g3,g4,g5,g6,g7,g8,g9,g10,g11,push_cast,↓reduceIte,reduceCtorEq,Nat.reduceEqDiff,Nat.reduceLT]
  rfl
 have g11:(k=11)=False:=eq_false h
 clear h
 by_cases h:k=12
 ·have g12:(k=12)=True:=eq_true h
  simp (maxSteps:=10^6) only[g1,g2,g3,g4,g5,g6,g7,g8,g9,g10,g11,g12,push_cast,↓reduceIte,reduceCtorEq,Nat.reduceEqDiff,Nat.reduceLT]
  rfl
 have g12:(k=12)=False:=eq_false h
 clear h
 by_cases h:k=13
 ·have g13:(k=13)=True:=eq_true h
  simp (maxSteps:=10^6) only[g1,g2,g3,g4,g5,g6,g7,g8,g9,g10,g11,g12,g13,push_cast,↓reduceIte,reduceCtorEq,Nat.reduceEqDiff,Nat.reduceLT]
  rfl
 have g13:(k=13)=False:=eq_false h
 clear h
 by_cases h:k=14
 ·have g14:(k=14)=True:=eq_true h
  simp (maxSteps:=10^6) only[g1,g2,g3,g4,g5,g6,g7,g8,g9,g10,g11,g12,g13,g14,push_cast,↓reduceIte,reduceCtorEq,Nat.reduceEqDiff,Nat.reduceLT]
  rfl
 have g14:(k=14)=False:=eq_false h
 clear h
 by_cases h:k=15
 ·have g15:(k=15)=True:=eq_true h
  simp (maxSteps:=10^6) only[g1,g2,g3,g4,g5,g6,g7,g8,g9,g10,g11,g12,g13,g14,g15,push_cast,↓reduceIte,reduceCtorEq,Nat.reduceEqDiff,Nat.reduceLT]
  rfl
 have g15:(k=15)=False:=eq_false h
 clear h
 by_cases h:k=16
 ·have g16:(k=16)=True:=eq_true h
  simp (maxSteps:=10^6) only[g1,g2,g3,g4,g5,g6,g7,g8,g9,g10,g11,g12,g13,g14,g15,g16,push_cast,↓reduceIte,reduceCtorEq,Nat.reduceEqDiff,Nat.reduceLT]
  rfl
 have g16:(k=16)=False:=eq_false h
 clear h
 by_cases h:k=17
 ·have g17:(k=17)=True:=eq_true h
  simp (maxSteps:=10^6) only[g1,g2,g3,g4,g5,g6,g7,g8,g9,g10,g11,g12,g13,g14,g15,g16,g17,push_cast,↓reduceIte,reduceCtorEq,Nat.reduceEqDiff,Nat.reduceLT]
  rfl
 have g17:(k=17)=False:=eq_false h
 clear h
 by_cases h:k=18
 ·have g18:(k=18)=True:=eq_true h
  simp (maxSteps:=10^6) only[g1,g2,g3,g4,g5,g6,g7,g8,g9,g10,g11,g12,g13,g14,g15,g16,g17,g18,push_cast,↓reduceIte,reduceCtorEq,Nat.reduceEqDiff,Nat.reduceLT]
  rfl
 have g18:(k=18)=False:=eq_false h
 clear h
 by_cases h:k=19
 ·have g19:(k=19)=True:=eq_true h
  simp (maxSteps:=10^6) only[g1,g2,g3,g4,g5,g6,g7,g8,g9,g10,g11,g12,g13,g14,g15,g16,g17,g18,g19,push_cast,↓reduceIte,reduceCtorEq,Nat.reduceEqDiff,Nat.reduceLT]
  rfl
 have g19:(k=19)=False:=eq_false h
 clear h
 simp (maxSteps:=10^6) only[g1,g2,g3,g4,g5,g6,g7,g8,g9,g10,g11,g12,g13,g14,g15,g16,g17,g18,g19,push_cast,↓reduceIte,reduceCtorEq,Nat.reduceEqDiff,Nat.reduceLT]
 rfl
theorem A0r (k:UInt8):Ai Tryz.prog w0 ow 145 [.x (.a (.v (vU8 k)))] hp (.t (Nl k)) hp:=Bq fun γ w _=>A0q k w
def A94 (k:UInt8):ByteArray:=Hf (L4 k).1
def D0 (k:UInt8):ByteArray:=Hf (Cg k)
set_option maxRecDepth 100000 in
theorem A0s (k:UInt8) (w:World):Calls Tryz.prog 112 #[vU8 k] w fun e w'=>e=.returned (.string (D0 k))∧Below w.heap.size w w':=by
 refine Bm (n:=11) Tryz.func112 rfl Tryz.ntmps112 [.x (.a (.v (vU8 k)))] (by simp) (.x (.a (.v (.string (D0 k))))) (fun _=>rfl) ?_
 simp (maxSteps:=10^6) only[push_cast,↓reduceIte,reduceCtorEq,Nat.reduceLT]
 (repeat (refine And.intro (by first|omega|decide) ?_))
 refine Al rfl Ax2 rfl (A0r k) (Ae rfl) ?_
 unfold Nl D0 Cg
 simp (maxSteps:=10^6) only[push_cast,↓reduceIte,Nat.reduceEqDiff,Nat.reduceLT]
 done
theorem A0t (k:UInt8):Ai Tryz.prog w0 ow 112 [.x (.a (.v (vU8 k)))] hp (.x (.a (.v (.string (D0 k))))) hp:=Bq fun γ w _=>A0s k w
end
end Go.Proofs.YtedaafmfjhjfmaaGreatDoor
/- Layer 21: conf.within, standing. -/
namespace Go.Proofs.YtedaafmfjhjfmaaGreatDoor
open Go.RowKit
set_option linter.unusedSimpArgs false
set_option linter.unusedVariables false
theorem A0u {n a b:Int} (h:a≤n) (h2:n≤b):wiF n a b=true:=decide_eq_true ⟨h,h2⟩
theorem A0v {n a b:Int} (h:¬a≤n):wiF n a b=false:=decide_eq_false fun e=>h e.1
theorem A0w {n a b:Int} (h:¬n≤b):wiF n a b=false:=decide_eq_false fun e=>h e.2
theorem Aaz {α:Type} [Inhabited α] {l:List α} {i:Nat} {x:α} (h:i < l.length):ix (l.set i x) i=x:=by
 rw[ix,List.getD_eq_getElem?_getD,List.getElem?_set_self h];rfl
theorem Aa0 {α:Type} [Inhabited α] {l:List α} {i j:Nat} {x:α} (h:i≠j):ix (l.set i x) j=ix l j:=by
 rw[ix,ix,List.getD_eq_getElem?_getD,List.getD_eq_getElem?_getD,List.getElem?_set_ne h]
theorem Aa1 (n j:Nat):ix (List.replicate n (0:Int)) j=0:=by
 rw[ix,List.getD_eq_getElem?_getD,List.getElem?_replicate]
 split<;>rfl
attribute [local irreducible] Ah Ai Am Bc A7 Ay Ap A6
attribute [local irreducible] wiF Jh
section
variable {w0:World} {ow:Nat→Prop} {hp:List Res}
set_option maxRecDepth 100000 in
theorem A0x (n a b:Int) (w:World):Calls Tryz.prog 104 #[.int .i64 n,.int .i64 a,.int .i64 b] w fun e w'=>e=.returned (.bool (wiF n a b))∧Below w.heap.size w w':=by
 refine Bm (n:=15) Tryz.func104 rfl Tryz.ntmps104 [.x (.a (.v (.int .i64 n))),.x (.a (.v (.int .i64 a))),.x (.a (.v (.int .i64 b)))] (by simp) (.x (.a (.v (.bool (wiF n a b))))) (fun _=>rfl) ?_
 by_cases h:a≤n
 ·by_cases h1:n≤b
  ·have hd:=A0u h h1
   simp (maxSteps:=10^6) only[h,h1,hd,push_cast,↓reduceIte,reduceCtorEq,Nat.reduceEqDiff,Nat.reduceLT,Nat.reduceAdd]
   done
  ·have hd:=A0w (a:=a) h1
   simp (maxSteps:=10^6) only[h,h1,hd,push_cast,↓reduceIte,reduceCtorEq,Nat.reduceEqDiff,Nat.reduceLT,Nat.reduceAdd]
   done
 ·have hd:=A0v (b:=b) h
  simp (maxSteps:=10^6) only[h,hd,undef,push_cast,↓reduceIte,reduceCtorEq,Nat.reduceEqDiff,Nat.reduceLT,Nat.reduceAdd]
  done
theorem Hx (n a b:Int):Ai Tryz.prog w0 ow 104 [.x (.a (.v (.int .i64 n))),.x (.a (.v (.int .i64 a))),.x (.a (.v (.int .i64 b)))] hp (.x (.a (.v (.bool (wiF n a b))))) hp:=Bq fun γ w _=>A0x n a b w
set_option maxRecDepth 100000 in
set_option maxHeartbeats 1000000 in
theorem A0y (l:List PlS) (A:Option Addr) (c:Nat) (w:World) (hm:l.length≤1000000) (hR:RdV w w.heap.size A (l.flatMap plV)):
  Calls Tryz.prog 105 #[.slice A l.length c] w fun e w'=>e=.returned (.bool (stF l))∧Below w.heap.size w w':=by
 have F:=FLm.of Jo (by decide) hR
 refine Bm (n:=67) Tryz.func105 rfl Tryz.ntmps105 [.x (.a (.v (.slice A l.length c)))] (by simp) (.x (.a (.v (.bool (stF l))))) (fun _=>rfl) ?_
 obtain⟨q,hq⟩:∃q,q=stF l:=⟨_,rfl⟩
 rw[←hq]
 unfold stF at hq
 simp (maxSteps:=10^6) only[push_cast,↓reduceIte,reduceCtorEq,Nat.reduceLT,Int.reduceNeg]
 (repeat (refine And.intro (by first|omega|decide) ?_))
 refine Al rfl Hq rfl (Hx _ _ _) (Ae rfl) ?_
 cases hw:wiF l.length 2 16 with
 |false=>
  rw[if_neg (by rw[hw];simp)] at hq
  simp (maxSteps:=10^6) only[hq,undef,push_cast,↓reduceIte,Nat.reduceEqDiff,Nat.reduceLT,Int.reduceNeg]
  done
 |true=>
  have hn:=Ji.1 hw
  obtain⟨c0,o0⟩:=F.cell 0 0 _ (by omega) rfl
  obtain⟨c1,o1⟩:=F.cell 0 1 _ (by omega) rfl
  have hA:=F.some_ (by omega)
  rw[Nat.zero_mul,Nat.add_zero,Bx] at c0 o0
  rw[Nat.zero_mul,Nat.zero_add] at c1 o1
  have hl0:(0:Int) < l.length:=by omega
  by_cases h1:(ix l 0).parent=-1
  ·by_cases h2:(ix l 0).spare=0
   ·rw[if_pos ⟨hw,h1,h2⟩] at hq
    have k1:(l.length:Int)≤2 ^ 63 - 1:=by omega
    have k2:l.length≤2 ^ 63 - 1:=by omega
    have k3:l.length*8≤140737488355328:=by omega
    simp (maxSteps:=10^6) only[hl0,Bx,c0,o0,c1,o1,hA,h1,h2,push_cast,↓Int.toNat_natCast,↓Int.cast_ofNat_Int,Int.cast_ofNat_Int,↓reduceIte,reduceCtorEq,Nat.reduceEqDiff,Nat.reduceLT,Nat.reduceMul,Int.reduceNeg,Int.reduceLE]
    (repeat (refine And.intro (by first|omega|decide) ?_))
    refine B9 (ι:=Nat×List Int) (fun x=>⟨[(0,.x (.a (.v (.slice A l.length c)))),(3,.x (.a (.o 0))),(4,.x (.a (.v (.int .i64 (x.1:Nat)))))],[.own 3 (.i64 x.2)]⟩)
     (fun x=>1≤x.1∧x.1≤l.length∧x.2.length=l.length∧(∀j,0≤ix x.2 j∧ix x.2 j < 4)∧q=Jh l (l.length - x.1) x.1 x.2) (fun x=>l.length - x.1) (1,List.replicate l.length 0) [0] ⟨Nat.le_refl _,by omega,by simp,fun j=>by rw[Aa1];decide,hq⟩ ?_ ?_
    ·simp (maxSteps:=10^6) only[push_cast,↓Int.cast_ofNat_Int,Int.cast_ofNat_Int,↓reduceIte,reduceCtorEq,Nat.reduceEqDiff,Nat.reduceLT]
    rintro⟨i,ab⟩ ⟨h0,hi,hal,hab,hg⟩
    dsimp only at h0 hi hal hab hg
    by_cases hlt:(i:Int) < l.length
    ·have hil:i < l.length:=by omega
     have i0:(0:Int)≤i:=by omega
     obtain⟨d0,p0⟩:=F.cell i 0 _ hil rfl
     obtain⟨d1,p1⟩:=F.cell i 1 _ hil rfl
     rw[Nat.add_zero] at d0 p0
     have i1:-9223372036854775808≤(i:Int) - 1∧(i:Int) - 1≤9223372036854775807:=by omega
     rw[show l.length - i=(l.length - (i+1))+1 by omega,Jh] at hg
     generalize (ix l i).spare=sp at*
     generalize (ix l i).parent=pa at*
     simp (maxSteps:=10^6) only[hlt,i0,i1,Bx,By,d0,p0,hA,push_cast,↓Int.toNat_natCast,↓reduceIte,reduceCtorEq,Nat.reduceEqDiff,Nat.reduceLT,Int.reduceNeg]
     (repeat (refine And.intro (by first|omega|decide) ?_))
     refine Al rfl Hq rfl (Hx _ _ _) (Ae rfl) ?_
     cases hp1:wiF pa 0 ((i:Int) - 1) with
     |false=>
      rw[if_neg (by rw[hp1];simp)] at hg
      simp (maxSteps:=10^6) only[hg,undef,push_cast,↓reduceIte,Nat.reduceEqDiff,Nat.reduceLT]
      done
     |true=>
      simp (maxSteps:=10^6) only[hlt,i0,Cy,By,d1,p1,hA,push_cast,↓Int.toNat_natCast,↓reduceIte,reduceCtorEq,Nat.reduceEqDiff,Nat.reduceLT]
      (repeat (refine And.intro (by first|omega|decide) ?_))
      refine Al rfl Hq rfl (Hx _ _ _) (Ae rfl) ?_
      cases hp2:wiF sp 0 2 with
      |false=>
       rw[if_neg (by rw[hp2];simp)] at hg
       simp (maxSteps:=10^6) only[hg,push_cast,↓reduceIte,Nat.reduceEqDiff,Nat.reduceLT]
       done
      |true=>
       rw[if_pos ⟨hp1,hp2⟩] at hg
       have hpa:=Ji.1 hp1
       obtain⟨P,hP⟩:∃P:Nat,pa=P:=⟨pa.toNat,by omega⟩
       subst hP
       have P0:(0:Int)≤P:=by omega
       have P1:(P:Int) < ab.length:=by omega
       have I1:(i:Int) < ab.length:=by omega
       have vP:=hab P
       have vP1:-9223372036854775808≤ix ab P+1∧ix ab P+1≤9223372036854775807:=by omega
       have hset:ix (ab.set i (ix ab P+1)) i=ix ab P+1:=Aaz (by omega)
       rw[Int.toNat_natCast] at hg
       by_cases h4:(4:Int)≤ix ab P+1
       ·rw[if_pos h4] at hg
        simp (maxSteps:=10^6) only[hlt,i0,Bx,By,d0,p0,hA,P0,P1,I1,vP1,hset,h4,hg,undef,push_cast,↓Int.toNat_natCast,↓reduceIte,reduceCtorEq,Nat.reduceEqDiff,Nat.reduceLT,Int.reduceNeg]
        exact⟨by omega,by omega⟩
       ·rw[if_neg h4] at hg
        simp (maxSteps:=10^6) only[hlt,i0,Bx,By,d0,p0,hA,P0,P1,I1,vP1,hset,h4,undef,push_cast,↓Int.toNat_natCast,↓reduceIte,reduceCtorEq,Nat.reduceEqDiff,Nat.reduceLT,Int.reduceNeg]
        (repeat (refine And.intro (by first|omega|decide) ?_))
        refine Bv (i+1,ab.set i (ix ab P+1)) [0] ⟨by show 1≤i+1;omega,by show i+1≤l.length;omega,by simp [hal],fun j=>?_,hg⟩ (by show l.length - (i+1) < l.length - i;omega) ?_
        ·by_cases e:i=j
         ·subst e;show 0≤ix (ab.set i _) i∧_ < 4;rw[hset];omega
         ·show 0≤ix (ab.set i _) j∧_ < 4;rw[Aa0 e];exact hab j
        ·simp (maxSteps:=10^6) only[push_cast,↓reduceIte,reduceCtorEq,Nat.reduceEqDiff,Nat.reduceLT]
         done
    ·obtain rfl:i=l.length:=by omega
     rw[Nat.sub_self,Jh] at hg
     simp (maxSteps:=10^6) only[hlt,hg,push_cast,↓reduceIte,reduceCtorEq,Nat.reduceEqDiff,Nat.reduceLT]
     done
   ·rw[if_neg (fun e=>h2 e.2.2)] at hq
    simp (maxSteps:=10^6) only[hl0,Bx,c0,o0,c1,o1,hA,h1,h2,hq,push_cast,↓reduceIte,reduceCtorEq,Nat.reduceEqDiff,Nat.reduceLT,Nat.reduceMul,Int.reduceNeg,Int.reduceLE]
    done
  ·rw[if_neg (fun e=>h1 e.2.1)] at hq
   simp (maxSteps:=10^6) only[hl0,Bx,c0,o0,hA,h1,hq,undef,push_cast,↓reduceIte,reduceCtorEq,Nat.reduceEqDiff,Nat.reduceLT,Nat.reduceMul,Int.reduceNeg,Int.reduceLE]
   done
end
end Go.Proofs.YtedaafmfjhjfmaaGreatDoor
