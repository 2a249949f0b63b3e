import Derived.Test.YtedaafmfjhjfmaaGreatDoorLfG
import Derived.Test.YtedaafmfjhjfmaaGreatDoorLf1
import Derived.Test.YtedaafmfjhjfmaaGreatDoorPc
import Derived.Test.YtedaafmfjhjfmaaGreatDoorGn
import Derived.Test.YtedaafmfjhjfmaaGreatDoorPreA
/- What is known of slices that are facts. No program in sight. -/
namespace Go.Proofs.YtedaafmfjhjfmaaGreatDoor
open Go.RowKit
set_option linter.unusedSimpArgs false
set_option linter.unusedVariables false
def SlF {α:Type} (Fs:List Fct) (s:SlV α) (vs:List Value):Prop:=s=⟨none,0,[]⟩∨(⟨s.val,s.l.length,vs⟩:Fct)∈Fs
theorem SlF.more {α:Type} {Fs Gs:List Fct} {s:SlV α} {vs:List Value} (h:SlF Fs s vs) (hg:∀f∈Fs,f∈Gs):SlF Gs s vs:=h.imp id (hg _)
theorem SlF.left {α:Type} {Fs Gs:List Fct} {s:SlV α} {vs:List Value} (h:SlF Fs s vs):SlF (Fs++Gs) s vs:=h.more fun f hf=>List.mem_append_left _ hf
theorem SlF.new {α:Type} {Fs:List Fct} {A:Option Addr} {c:Nat} {l:List α} {vs:List Value} {n:Nat} (hn:n=l.length) (h:(⟨.slice A n c,n,vs⟩:Fct)∈Fs):SlF Fs ⟨A,c,l⟩ vs:=by subst hn;exact .inr h
def Known (w:World) (B:Nat→Prop) (Fs:List Fct):Prop:=∀f∈Fs,∃A c,f.v=.slice A f.n c∧f.n≤c∧FW w B A f.vs
theorem Known.mono {w:World} {B:Nat→Prop} {Fs Gs:List Fct} (h:Known w B Fs) (hg:∀f∈Gs,f∈Fs):Known w B Gs:=fun f hf=>h f (hg f hf)
theorem Gz {w:World} {B:Nat→Prop} {Fs Gs:List Fct} (h:Known w B Fs) (k:Known w B Gs):Known w B (Fs++Gs):=fun f hf=>by
 rcases List.mem_append.1 hf with hf|hf
 ·exact h f hf
 ·exact k f hf
theorem Aah {w0 w:World} {ow B:Nat→Prop} {γ:List Nm} {hp:List Res} {k:Nat} {Fs:List Fct} (hS:Sat w0 ow γ hp w) (hk:hp[k]?=some (.abs (Aa Fs))) (ks:List Nat) (hn:k∉ks) (hB:∀b,B b→∃(k:Nat) (r:Res),k∈ks∧hp[k]?=some r∧r.has γ k b):Known w B Fs:=fun f hf=>by
 obtain⟨_,_,_,hall⟩:=hS.holds k _ hk
 obtain⟨A,c,h1,h2,h3,_⟩:=hall f hf
 refine⟨A,c,h1,h2,A0u (n:=f.n) (c:=c) (vs:=f.vs) hS hk ?_ (Sub.refl _ _) ks hn hB⟩
 obtain⟨v,n,vs⟩:=f
 dsimp only at h1
 rw[←h1]
 exact hf
theorem A0z {w0 w:World} {ow B:Nat→Prop} {γ:List Nm} {hp:List Res} {Fs:List Fct} (hS:Sat w0 ow γ hp w) (h:Known w0 ow Fs) (hB:∀b,B b→Hb w0 ow b):Known w B Fs:=fun f hf=>by
 obtain⟨A,c,h1,h2,h3⟩:=h f hf
 refine⟨A,c,h1,h2,fun hp=>?_,fun hp a ha hb=>?_⟩
 ·obtain⟨b,off,h4,h5,h6⟩:=h3.rd hp
  have hno:=h3.far hp _ h4
  exact⟨b,off,h4,Nat.lt_of_lt_of_le h5 hS.keeps.size,fun j u hu=>(World.cell?_of_block (hS.keeps.block b h5 hno)).trans (h6 j u hu)⟩
 ·obtain⟨b,off,h4,h5,h6⟩:=h3.rd hp
  rw[h4] at ha
  cases ha
  rcases hB b hb with h7|h7
  ·exact h3.far hp _ h4 h7
  ·omega
theorem Known.fw {α:Type} {w:World} {B:Nat→Prop} {Fs:List Fct} {s:SlV α} {vs:List Value} (hk:Known w B Fs) (h:SlF Fs s vs) (hn:s=⟨none,0,[]⟩→vs=[]):s.l.length≤s.c∧FW w B s.A vs:=by
 rcases h with e|e
 ·rw[hn e,e];exact⟨Nat.le_refl _,RdV.nil_,fun h=>absurd h (by simp)⟩
 ·obtain⟨A,c,h1,h2,h3⟩:=hk _ e
  have h1:Value.slice s.A s.l.length s.c=.slice A s.l.length c:=h1
  injection h1 with e1 _ e3
  rw[←e3] at h2
  rw[←e1] at h3
  exact⟨h2,h3⟩
theorem A00 {w:World} {B:Nat→Prop} {Fs:List Fct} (h:Known w B Fs):Known w No Fs:=fun f hf=>by
 obtain⟨A,c,h1,h2,h3⟩:=h f hf
 exact⟨A,c,h1,h2,FW.no h3.rd⟩
theorem A01 {γ:List Nm} {A:List Res} (b:Nat) (h:∃(k:Nat) (r:Res),A[k]?=some r∧r.has γ k b) (M:List Res):∃(k:Nat) (r:Res),k∈List.range A.length∧(A++M)[k]?=some r∧r.has γ k b:=by
 obtain⟨k,r,h1,h2⟩:=h
 exact⟨k,r,List.mem_range.2 (Au h1),by rw[List.getElem?_append_left (Au h1)];exact h1,h2⟩
theorem Ct {w0 w:World} {ow:Nat→Prop} {γ:List Nm} {A M:List Res} {k:Nat} {Gs:List Fct} (hS:Sat w0 ow γ (A++M) w) (hk:M[k]?=some (.abs (Aa Gs))):Known w (fun b=>∃(k:Nat) (r:Res),A[k]?=some r∧r.has γ k b) Gs:=
 Aah (k:=A.length+k) hS (by rw[List.getElem?_append_right (Nat.le_add_right _ _),Nat.add_sub_cancel_left];exact hk) (List.range A.length) (by simp) fun b hb=>A01 b hb M
end Go.Proofs.YtedaafmfjhjfmaaGreatDoor
/- The plain law of layer 28: what a new leaf has; what its partial sums up. No program in sight. -/
namespace Go.Proofs.YtedaafmfjhjfmaaGreatDoor
set_option linter.unusedVariables false
def LfS.new (c:CfS) (g:GrS) (place gen parent:Int) (above:List Int):LfS:=
 ⟨place,gen,c.dim,c.term,g.need,parent,above,g.ids,0,g.ids,Tal.new g.ids g.need c.term,[],[],[],[],Fq⟩
def A02 (R:List (Int×List UInt32)):List Int→List UInt32→List UInt32
 |[],r=>r
 |id::ids,r=>A02 R ids (Dk r ((Av R id).getD []))
end Go.Proofs.YtedaafmfjhjfmaaGreatDoor
/- A tally and a leaf (layers 23 and 28), as they lie there. -/
namespace Go.Proofs.YtedaafmfjhjfmaaGreatDoor
open Go.RowKit
set_option linter.unusedSimpArgs false
set_option linter.unusedVariables false
def J7 (l:List Int):List Value:=l.map (Value.int .i64)
structure TalR where
 who:SlV Int
 inn:SlV Int
 gone:SlV Int
 need:Int
 term:Int
 went:Int
def TalR.t (r:TalR):Tal:=⟨r.who.l,r.inn.l,r.gone.l,r.need,r.term,r.went⟩
def tlV (r:TalR):List Value:=[r.who.val,r.inn.val,r.gone.val,.int .i64 r.need,.int .i64 r.term,.int .i64 r.went]
def tlA (r:TalR):List At:=[.v r.who.val,.v r.inn.val,.v r.gone.val,.v (.int .i64 r.need),.v (.int .i64 r.term),.v (.int .i64 r.went)]
structure TalOk (Fs:List Fct) (r:TalR):Prop where
 who:SlF Fs r.who (J7 r.who.l)
 inn:SlF Fs r.inn (J7 r.inn.l)
 gone:SlF Fs r.gone (J7 r.gone.l)
 few1:r.who.l.length≤1000
 few2:r.inn.l.length≤1000
 few3:r.gone.l.length≤1000
 need:0≤r.need∧r.need≤1000
 went:0≤r.went∧r.went≤1000∧0≤r.term∧r.term≤1000
theorem TalOk.more {Fs Gs:List Fct} {r:TalR} (h:TalOk Fs r) (hg:∀f∈Fs,f∈Gs):TalOk Gs r:=⟨h.who.more hg,h.inn.more hg,h.gone.more hg,h.few1,h.few2,h.few3,h.need,h.went⟩
structure LfR where
 place:Int
 gen:Int
 dim:Int
 term:Int
 need:Int
 parent:Int
 above:SlV Int
 group:SlV Int
 phase:Int
 waits:SlV Int
 ty:TalR
 joined:SlV Int
 pub:List (Int×UInt64)
 boxes:List (Int×SlV UInt64)
 rows:List (Int×SlV UInt32)
 sum:MgR
 live:Bool
def Bf {α β:Type} (f:α→β) (l:List (Int×α)):List (Int×β):=l.map fun p=>(p.1,f p.2)
def LfR.s (r:LfR):LfS:=⟨r.place,r.gen,r.dim,r.term,r.need,r.parent,r.above.l,r.group.l,r.phase,r.waits.l,r.ty.t,r.joined.l,r.pub,Bf SlV.l r.boxes,Bf SlV.l r.rows,r.sum.mg⟩
def lfA (r:LfR):List At:=[.v (.int .i64 r.place),.v (.int .i64 r.gen),.v (.int .i64 r.dim),.v (.int .i64 r.term),.v (.int .i64 r.need),.v (.int .i64 r.parent),.v r.above.val,.v r.group.val,.v (.int .i64 r.phase),.v r.waits.val,.p 1 0,.v r.joined.val,.o 2,.o 3,.o 4]++mgA r.sum
def puE (l:List (Int×UInt64)):List (Int×Sc):=Bf (fun x=>.a (.v (vU64 x))) l
def slE {α:Type} (l:List (Int×SlV α)):List (Int×Sc):=Bf (fun x=>.a (.v x.val)) l
def bxR (r:LfR):Res:=if r.live=true then .mp .i64 (slE r.boxes) else .gone
def lfB (g:Nat) (r:LfR):List Res:=[.pin g 104 (.c (lfA r)),.blk 170 (.c (tlA r.ty)),.mp .i64 (puE r.pub),bxR r,.mp .i64 (slE r.rows)]
structure LfOk (Fs:List Fct) (r:LfR):Prop where
 above:SlF Fs r.above (J7 r.above.l)
 group:SlF Fs r.group (J7 r.group.l)
 waits:SlF Fs r.waits (J7 r.waits.l)
 joined:SlF Fs r.joined (J7 r.joined.l)
 ty:TalOk Fs r.ty
 boxes:∀p∈r.boxes,SlF Fs p.2 (p.2.l.map vU64)
 rows:∀p∈r.rows,SlF Fs p.2 (p.2.l.map Ap)
 sum:MOk Fs r.sum
 few1:r.above.l.length≤1000
 few2:r.group.l.length≤1000
 few3:r.waits.l.length≤1000
 few4:r.joined.l.length≤1000
 few5:∀p∈r.boxes,p.2.l.length≤1000
 few6:∀p∈r.rows,p.2.l.length≤1000
 dim:0≤r.dim∧r.dim≤32
 need:0≤r.need∧r.need≤1000
 term:0≤r.term∧r.term≤1000
theorem LfOk.more {Fs Gs:List Fct} {r:LfR} (h:LfOk Fs r) (hg:∀f∈Fs,f∈Gs):LfOk Gs r:=
 ⟨h.above.more hg,h.group.more hg,h.waits.more hg,h.joined.more hg,h.ty.more hg,fun p hp=>(h.boxes p hp).more hg,fun p hp=>(h.rows p hp).more hg,h.sum.more hg,h.few1,h.few2,h.few3,h.few4,h.few5,h.few6,h.dim,h.need,h.term⟩
theorem A03 (n:Nat) (l:List (Int×UInt64)):G8 n (puE l)=True:=eq_true fun p hp=>by
 unfold puE Bf at hp
 obtain⟨q,_,rfl⟩:=List.mem_map.1 hp
 trivial
theorem A04 {α:Type} (n:Nat) (l:List (Int×SlV α)):G8 n (slE l)=True:=eq_true fun p hp=>by
 unfold slE Bf at hp
 obtain⟨q,_,rfl⟩:=List.mem_map.1 hp
 trivial
theorem A05 (ρ:List Nat) (l:List (Int×UInt64)):Ej ρ (puE l)=puE l:=by
 unfold Ej puE Bf
 rw[List.map_map]
 rfl
theorem A06 {α:Type} (ρ:List Nat) (l:List (Int×SlV α)):Ej ρ (slE l)=slE l:=by
 unfold Ej slE Bf
 rw[List.map_map]
 rfl
theorem A07 (j:Nat) (v:Value) (l:List (Int×UInt64)):Eu j v (puE l)=puE l:=by
 unfold Eu puE Bf
 rw[List.map_map]
 rfl
theorem A08 {α:Type} (j:Nat) (v:Value) (l:List (Int×SlV α)):Eu j v (slE l)=slE l:=by
 unfold Eu slE Bf
 rw[List.map_map]
 rfl
attribute [push_cast] A03 A04 A05 A06 A07 A08
attribute [push_cast] avK At.av Sc.av Sv.av Cont.av Res.av
theorem Ew (m:MgR) (a:Nat):(∀x∈mgA m,x.av a)=True:=P9 m fun _ _ _=>trivial
theorem Up (m:MgR) (j:Nat) (v:Value):(mgA m).map (At.sub j v)=mgA m:=by
 unfold mgA mgL
 rw[List.map_append,List.map_append,List.map_map]
 rfl
end Go.Proofs.YtedaafmfjhjfmaaGreatDoor
/- slices.Clone of numbers and of peers. -/
namespace Go.Proofs
open Go.RowKit
set_option linter.unusedSimpArgs false
set_option maxRecDepth 100000 in
theorem Tryz.infoPe:∃i0,Tryz.prog.info? 115=some i0∧i0.zero=some (.agg #[.int .i64 0,.int .u64 0])∧i0.size=2∧i0.bytes=16:=⟨_,rfl,rfl,rfl,rfl⟩
set_option maxRecDepth 100000 in
set_option maxHeartbeats 1000000 in
theorem Tryz.clonePe_at (ad:Addr) (n c:Nat) (news:List Value) (w:World) (hl:news.length=n*2) (hn:n≤1000) (hc:∀j u,news[j]?=some u→w.cell? (ad.add j)=some u) (h1:∀u∈news,u.oneCell'=true):
  Calls Tryz.prog 73 #[.slice (some ad) n c] w fun e w'=>∃v',e=.returned v'∧w'.ownsRow w.heap.size 115 2 v' n news∧Below w.heap.size w w':=by
 obtain⟨i0,hi,hz0,hz1,hz2⟩:=Tryz.infoPe
 have t22:Tryz.prog.underlying 45=some (.slice 115):=Tryz.underlying45
 have q22:∀(w:World) (a:Option Addr) (n c n' c':Nat),(binOp .eql 45 (.slice a n c) (.slice none n' c')).run Tryz.prog w=.ok (.bool a.isNone) w:=fun w a n c n' c'=>Lib.run_eql_slice_nil w _ _ a n c n' c' t22
 have u22:∀w,Sem.run Tryz.prog (underlying 45) w=.ok (TypeDesc.slice 115) w:=run_underlying t22
 have z23:∀w,(Go.sizeOf 115).run Tryz.prog w=.ok 2 w:=Tryz.sizeOf115
 have A:Aside (∀j u,news[j]?=some u→w.cell? (ad.add j)=some u):=hc
 clear hc
 go_enter Tryz.func73,Tryz.ntmps73
 go_wp2_with (at_builtin;refine wpList_append_own _ rfl _ _ 45 rfl w.heap.size 115 i0 _ 2 16 t22 hi hz0 hz1 hz2 rfl (by decide) _ _ _ rfl (World.ownsRow_made w #[] 0 (Nat.le_refl _) (Nat.zero_le _) (by simp)) ad n c news rfl ?qc1 ?qc2 ?qc3 ?qc4 ?qc5 ?qc6 ?_)
 case qc1=>exact hl
 case qc2=>
  intro j u hj
  exact Lib.cell?_alloc_some _ (A.out j u hj)
 case qc3=>exact h1
 case qc4=>rw[Nat.zero_add];unfold maxLen;omega
 case qc5=>rw[Nat.zero_add];omega
 case qc6=>simp
 intro v' w1 hown hgrow hnil
 go_wp2
 go_ret
 refine⟨v',rfl,by simpa using hown,?_⟩
 exact ((Below.refl _ w).alloc (Nat.le_refl _) _).grown hgrow (by simp) (by intro k hk;simp [Value.ownBlock] at hk;omega)
end Go.Proofs
namespace Go.Proofs.YtedaafmfjhjfmaaGreatDoor
open Go.RowKit
set_option linter.unusedSimpArgs false
set_option linter.unusedVariables false
attribute [local irreducible] Ad Ae Ah Ar Ak Am Ai Al
set_option maxRecDepth 100000 in
theorem A09 (l:List Int) (A:Option Addr) (c:Nat) (w:World) (hl:l.length≤1000) (hR:RdV w w.heap.size A (l.map (Value.int .i64))):Calls Tryz.prog 52 #[.slice A l.length c] w fun e w'=>∃v,e=.returned v∧Own w' w.heap.size 3 v (l.map (Value.int .i64))∧Below w.heap.size w w':=by
 obtain⟨e1,k1⟩:=Tg (FV.no hR)
 have h0:=fun h=>He (P:=Tryz.prog) (w:=w) (n:=8) Tryz.func52 rfl Tryz.ntmps52 [.x (.a (.v (.slice A l.length c)))] (by simp) 3 (.i64 l) (vs:=l.map (Value.int .i64)) (fun _=>rfl) h
 refine h0 ?_
 clear h0
 have b1:l.length*8≤140737488355328:=by omega
 have b2:l.length≤2 ^ 63 - 1:=by omega
 cases A with
 |none=>
  have hn:l=[]:=by
   cases l with
   |nil=>rfl
   |cons x r=>obtain⟨b,off,h,_⟩:=hR (by simp);cases h
  subst hn
  simp only[Dx,push_cast,↓reduceIte,reduceCtorEq,Nat.reduceLT]
 |some a=>
  simp only[e1,k1,b1,b2,Dx,push_cast,↓reduceIte,reduceCtorEq,Nat.reduceEqDiff,Nat.reduceLT,Nat.reduceLeDiff,Nat.reduceAdd]
set_option maxRecDepth 100000 in
theorem A1a (l:List UInt32) (A:Option Addr) (c:Nat) (w:World) (hl:l.length≤1000) (hR:RdV w w.heap.size A (l.map Ap)):Calls Tryz.prog 74 #[.slice A l.length c] w fun e w'=>∃v,e=.returned v∧Own w' w.heap.size 111 v (l.map Ap)∧Below w.heap.size w w':=by
 obtain⟨e1,k1⟩:=X0 (FV.no hR)
 have h0:=fun h=>He (P:=Tryz.prog) (w:=w) (n:=8) Tryz.func74 rfl Tryz.ntmps74 [.x (.a (.v (.slice A l.length c)))] (by simp) 111 (.u32 l) (vs:=l.map Ap) (fun _=>rfl) h
 refine h0 ?_
 clear h0
 have b1:l.length*4≤140737488355328:=by omega
 have b2:l.length≤2 ^ 63 - 1:=by omega
 cases A with
 |none=>
  have hn:l=[]:=by
   cases l with
   |nil=>rfl
   |cons x r=>obtain⟨b,off,h,_⟩:=hR (by simp);cases h
  subst hn
  simp only[Dx,push_cast,↓reduceIte,reduceCtorEq,Nat.reduceLT]
 |some a=>
  simp only[e1,k1,b1,b2,Dx,push_cast,↓reduceIte,reduceCtorEq,Nat.reduceEqDiff,Nat.reduceLT,Nat.reduceLeDiff,Nat.reduceAdd]
set_option maxRecDepth 100000 in
theorem A1b (l:List UInt64) (A:Option Addr) (c:Nat) (w:World) (hl:l.length≤1000) (hR:RdV w w.heap.size A (l.map vU64)):Calls Tryz.prog 59 #[.slice A l.length c] w fun e w'=>∃v,e=.returned v∧Own w' w.heap.size 41 v (l.map vU64)∧Below w.heap.size w w':=by
 obtain⟨e1,k1⟩:=X1 (FV.no hR)
 have h0:=fun h=>He (P:=Tryz.prog) (w:=w) (n:=8) Tryz.func59 rfl Tryz.ntmps59 [.x (.a (.v (.slice A l.length c)))] (by simp) 41 (.u64 l) (vs:=l.map vU64) (fun _=>rfl) h
 refine h0 ?_
 clear h0
 have b1:l.length*8≤140737488355328:=by omega
 have b2:l.length≤2 ^ 63 - 1:=by omega
 cases A with
 |none=>
  have hn:l=[]:=by
   cases l with
   |nil=>rfl
   |cons x r=>obtain⟨b,off,h,_⟩:=hR (by simp);cases h
  subst hn
  simp only[Dx,push_cast,↓reduceIte,reduceCtorEq,Nat.reduceLT]
 |some a=>
  simp only[e1,k1,b1,b2,Dx,push_cast,↓reduceIte,reduceCtorEq,Nat.reduceEqDiff,Nat.reduceLT,Nat.reduceLeDiff,Nat.reduceAdd]
section
variable {w0:World} {ow:Nat→Prop} {hp:List Res} {sv:Sv}
theorem A1c (p:Pr):∀u∈pv p,u.oneCell'=true:=fun u hu=>by
 unfold pv at hu
 simp only[List.mem_cons,List.not_mem_nil,or_false] at hu
 rcases hu with rfl|rfl<;>rfl
theorem A1d (l:List Pr) (A:Option Addr) (c:Nat) (w:World) (hl:l.length≤1000) (hR:RdV w w.heap.size A (pvs l)):Calls Tryz.prog 73 #[.slice A l.length c] w fun e w'=>∃v,e=.returned v∧w'.ownsRow w.heap.size 115 2 v l.length (pvs l)∧Below w.heap.size w w':=by
 cases A with
 |none=>
  have hn:l=[]:=by
   cases l with
   |nil=>rfl
   |cons x r=>obtain⟨b,off,h,_⟩:=hR (by rw[Mm];simp);cases h
  subst hn
  refine (Ba (n:=8) Tryz.func73 rfl Tryz.ntmps73 [.x (.a (.v (.slice none 0 c)))] (by simp) (.x (.a (.v (.slice none 0 0)))) (fun _=>rfl) (by simp only[push_cast,↓reduceIte,reduceCtorEq,Nat.reduceLT])).mono ?_
  rintro e w' ⟨rfl,hb⟩
  exact⟨_,rfl,World.ownsRow_nil _ _ _ _,hb⟩
 |some a=>
  refine Tryz.clonePe_at a l.length c (pvs l) w (Mm l) hl (fun j u hj=>?_) ?_
  ·obtain⟨b,off,h1,h2,h3⟩:=hR (by have:=(List.getElem?_eq_some_iff.1 hj).1;omega)
   cases h1
   rw[Bg]
   exact h3 j u hj
  ·intro u hu
   obtain⟨p,hp,hu⟩:=List.mem_flatMap.1 hu
   exact A1c p u hu
theorem A1e {l:List Pr} (hl:l.length≤1000) (h:Gq w0 ow hp sv l.length (pvs l)) (hbr:∀r∈hp,Res.bnd hp.length r):Ae Tryz.prog w0 ow 73 [sv] hp (.x (.a (.o hp.length))) (hp++[.onn 115 2 (.c (pcs l))]):=by
 unfold Ae
 intro γ w hS
 obtain⟨A,c,e1,b1,r1⟩:=h γ w hS
 show Calls _ _ #[sv.val γ] w _
 rw[e1]
 refine (A1d l A c w hl r1).mono ?_
 rintro en w' ⟨v,rfl,ho,hb⟩
 have hlen:=hS.len
 refine⟨[.s v],by simp [Sv.val,Sc.val,At.val,Ax hlen],?_⟩
 refine hS.push (X:=fun _=>False) (Keeps.of_below (own:=fun _=>False) hb) (fun b h=>h.elim) hbr ⟨by rw[Dw hlen,Ax hlen],by decide,l.length,?_⟩ ?_
 ·rw[Ax hlen]
  have e2:(pcs l).map (At.val (γ++[.s v]))=pvs l:=T6 _ l
  show World.ownsRow _ 0 _ 2 v l.length ((pcs l).map (At.val (γ++[.s v])))
  rw[e2]
  exact⟨ho.1,ho.2.imp id fun⟨g,cap,cur,h1,_,h3⟩=>⟨g,cap,cur,h1,Nat.zero_le _,h3⟩⟩
 ·intro n hn
  simp only[Res.has,Ax hlen] at hn
  have:=World.ownsRow.lt ho n hn
  exact⟨.inr this.1,this.2⟩
end
end Go.Proofs.YtedaafmfjhjfmaaGreatDoor
/- Layer 23 walked: quorum.State, can, In (readers of a tally that lies somewhere). -/
namespace Go.Proofs.YtedaafmfjhjfmaaGreatDoor
open Go.RowKit
set_option linter.unusedSimpArgs false
set_option linter.unusedVariables false
attribute [local irreducible] Ad Ae Ah Ar Ak Am Ai Al
attribute [local irreducible] B1 okV
structure TlAt (r:TalR) (w:World):Prop where
 who:r.who.l.length≤r.who.c∧RdV w w.heap.size r.who.A (r.who.l.map (Value.int .i64))
 inn:r.inn.l.length≤r.inn.c∧RdV w w.heap.size r.inn.A (r.inn.l.map (Value.int .i64))
 gone:r.gone.l.length≤r.gone.c∧RdV w w.heap.size r.gone.A (r.gone.l.map (Value.int .i64))
theorem TalOk.at_ {Fs:List Fct} {r:TalR} {w:World} {B:Nat→Prop} (h:TalOk Fs r) (hk:Known w B Fs):TlAt r w:=by
 have h1:=hk.fw h.who (fun e=>by rw[e];rfl)
 have h2:=hk.fw h.inn (fun e=>by rw[e];rfl)
 have h3:=hk.fw h.gone (fun e=>by rw[e];rfl)
 exact⟨⟨h1.1,h1.2.rd⟩,⟨h2.1,h2.2.rd⟩,h3.1,h3.2.rd⟩
theorem Uq:erV 0=.nilIface:=rfl
theorem Ur {n:Int} (h:¬n=0):erV n=.iface 91 (.int .i64 n):=if_neg h
end Go.Proofs.YtedaafmfjhjfmaaGreatDoor
/- Layer 23 walked: quorum.Came, Tick (a tally that is handed over, and turned), New. -/
namespace Go.Proofs.YtedaafmfjhjfmaaGreatDoor
open Go.RowKit
set_option linter.unusedSimpArgs false
set_option linter.unusedVariables false
attribute [local irreducible] Ad Ae Ah Ar Ak Am Ai Al
attribute [local irreducible] B1 okV Ay erV Tal.can Tal.st
end Go.Proofs.YtedaafmfjhjfmaaGreatDoor
/- A leaf as whom it is handed to finds it; its maps. No program in sight, but its types. -/
namespace Go.Proofs.YtedaafmfjhjfmaaGreatDoor
open Go.RowKit
set_option linter.unusedSimpArgs false
set_option linter.unusedVariables false
structure RawV (w:World) (x:Value) (f:Int→Option Value):Prop where
 raw:Sg w No .i64 x
 look:∀i,Kt w x i=f i
theorem RawV.later {w0 w:World} {x:Value} {f:Int→Option Value} (h:RawV w0 x f) (hk:Keeps No w0 w):RawV w x f:=by
 obtain⟨h1,h2⟩:=h
 rcases h1 with rfl|⟨g,es,c,rfl,h3,h4,h5⟩
 ·exact⟨.inl rfl,h2⟩
 ·have hlt:g < w0.heap.size:=(Array.getElem?_eq_some_iff.1 h3).1
  have h6:w.heap[g]?=some (.map es c):=(hk.block g hlt h4).trans h3
  refine⟨.inr ⟨g,es,c,rfl,h6,h4,h5⟩,fun i=>?_⟩
  rw[←h2 i]
  simp only[Kt,Sf,h6,h3]
theorem Qj {α β:Type} (f:α→β) (l:List (Int×α)) (i:Int):Av (Bf f l) i=(Av l i).map f:=by
 induction l with
 |nil=>rfl
 |cons p l ih=>
  show Av ((p.1,f p.2)::Bf f l) i=_
  unfold Av
  by_cases h:p.1=i
  ·rw[if_pos h,if_pos h];rfl
  ·rw[if_neg h,if_neg h];exact ih
theorem A1f {α β:Type} (f:α→β) (l:List (Int×α)) (i:Int) (x:α):Bf f (Bp l i x)=Bp (Bf f l) i (f x):=by
 induction l with
 |nil=>rfl
 |cons p l ih=>
  show Bf f (Bp (p::l) i x)=Bp ((p.1,f p.2)::Bf f l) i (f x)
  unfold Bp
  by_cases h:p.1=i
  ·rw[if_pos h,if_pos h];rfl
  ·rw[if_neg h,if_neg h,←ih];rfl
theorem Us {α:Type} {l:List (Int×α)} {i:Int} {x:α} (h:Av l i=some x):(i,x)∈l:=by
 induction l with
 |nil=>cases h
 |cons p l ih=>
  unfold Av at h
  by_cases hp:p.1=i
  ·rw[if_pos hp] at h
   cases h
   subst hp
   exact List.mem_cons_self ..
  ·rw[if_neg hp] at h
   exact List.mem_cons_of_mem _ (ih h)
theorem A1g {α:Type} {l:List (Int×α)} {i:Int} {x:α} {p:Int×α} (h:p∈Bp l i x):p.2=x∨p∈l:=by
 induction l with
 |nil=>rw[List.mem_singleton.1 h];exact .inl rfl
 |cons q l ih=>
  unfold Bp at h
  by_cases hp:q.1=i
  ·rw[if_pos hp] at h
   rcases List.mem_cons.1 h with rfl|h
   ·exact .inl rfl
   ·exact .inr (List.mem_cons_of_mem _ h)
  ·rw[if_neg hp] at h
   rcases List.mem_cons.1 h with rfl|h
   ·exact .inr (List.mem_cons_self ..)
   ·exact (ih h).imp id (List.mem_cons_of_mem _)
def lfV (r:LfR) (t xp xb xr:Value):List Value:=[.int .i64 r.place,.int .i64 r.gen,.int .i64 r.dim,.int .i64 r.term,.int .i64 r.need,.int .i64 r.parent,r.above.val,r.group.val,.int .i64 r.phase,r.waits.val,t,r.joined.val,xp,xb,xr]++mgV r.sum
structure LfAt (r:LfR) (w:World) (a:Addr) (t xp xb xr:Value):Prop where
 vr:Vr w (some a) (lfV r t xp xb xr)
 pub:RawV w xp fun i=>(Av r.pub i).map vU64
 box:r.live=true→RawV w xb fun i=>(Av r.boxes i).map SlV.val
theorem LfAt.later {r:LfR} {w0 w:World} {a:Addr} {t xp xb xr:Value} (h:LfAt r w0 a t xp xb xr) (hk:Keeps No w0 w):LfAt r w a t xp xb xr:=⟨h.vr.later hk,h.pub.later hk,fun hp=>(h.box hp).later hk⟩
structure LfC (r:LfR) (w:World) (a:Addr) (t xp xb xr:Value):Prop where
 c0:Az w (Ag (some a) 0)=.int .i64 r.place
 c1:Az w (Ag (some a) 1)=.int .i64 r.gen
 c2:Az w (Ag (some a) 2)=.int .i64 r.dim
 c5:Az w (Ag (some a) 5)=.int .i64 r.parent
 c8:Az w (Ag (some a) 8)=.int .i64 r.phase
 c11:Az w (Ag (some a) 11)=r.joined.val
 c12:Az w (Ag (some a) 12)=xp
 c13:Az w (Ag (some a) 13)=xb
 c7:Az w (Ag (some a) 7)=r.group.val
 c9:Az w (Ag (some a) 9)=r.waits.val
 ok:∀k,k < 15→C5 w No (Ag (some a) k)
 sum:Cc w (Ag (some a) 15) 43 0=mgA r.sum∧Fj w No (Ag (some a) 15) 43 0
theorem My (m:MgR):(mgV m).map At.v=mgA m:=by
 unfold mgV mgA mgL
 rw[List.map_append,List.map_append,List.map_map]
 rfl
theorem LfAt.cells {r:LfR} {w:World} {a:Addr} {t xp xb xr:Value} (h:LfAt r w a t xp xb xr) (hs:r.sum.sm.length=32):LfC r w a t xp xb xr:=by
 have hl:(lfV r t xp xb xr).length=58:=by
  unfold lfV mgV
  simp [hs]
 have hsum:∀k v,(mgV r.sum)[k]?=some v→Az w (Ag (some a) (15+k))=v∧C5 w No (Ag (some a) (15+k)):=fun k v hk=>h.vr.cell (15+k) v (by
  unfold lfV
  rw[List.getElem?_append_right (by simp)]
  simpa using hk)
 have hml:(mgV r.sum).length=43:=by unfold mgV;simp [hs]
 refine⟨(h.vr.cell 0 _ rfl).1,(h.vr.cell 1 _ rfl).1,(h.vr.cell 2 _ rfl).1,(h.vr.cell 5 _ rfl).1,(h.vr.cell 8 _ rfl).1,(h.vr.cell 11 _ rfl).1,(h.vr.cell 12 _ rfl).1,(h.vr.cell 13 _ rfl).1,(h.vr.cell 7 _ rfl).1,(h.vr.cell 9 _ rfl).1,fun k hk=>(h.vr.cell k _ (List.getElem?_eq_getElem (by omega))).2,?_,?_⟩
 ·rw[←My]
  refine Mq 43 0 _ hml fun k v hv=>?_
  rw[B4,Nat.zero_add]
  exact (hsum k v hv).1
 ·refine P6 43 0 fun k hk=>?_
  rw[B4,Nat.zero_add]
  exact (hsum k _ (List.getElem?_eq_getElem (by omega))).2
end Go.Proofs.YtedaafmfjhjfmaaGreatDoor
