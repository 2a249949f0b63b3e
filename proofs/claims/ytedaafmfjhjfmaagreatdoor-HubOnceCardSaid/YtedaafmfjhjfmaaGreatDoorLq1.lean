import Derived.Test.YtedaafmfjhjfmaaGreatDoorLfG
import Derived.Test.YtedaafmfjhjfmaaGreatDoorPt0
import Derived.Test.YtedaafmfjhjfmaaGreatDoorPc
import Derived.Test.YtedaafmfjhjfmaaGreatDoorGn
import Derived.Test.YtedaafmfjhjfmaaGreatDoorPreA
/- What is known of slices that are facts. No program in sight. -/
namespace Go.Proofs.YtedaafmfjhjfmaaGreatDoor
open _root_.Go.Proofs.Tryz
open Go.RowKit
set_option linter.unusedSimpArgs false
set_option linter.unusedVariables false
def SlF {α:Type} (Fs:List Fct) (s:SlV α) (vs:List Value):Prop:=s=⟨none,0,[]⟩∨(⟨s.val,s.l.length,vs⟩:Fct)∈Fs
theorem SlF.more {α:Type} {Fs Gs:List Fct} {s:SlV α} {vs:List Value} (h:SlF Fs s vs) (hg:∀f∈Fs,f∈Gs):SlF Gs s vs:=h.imp id (hg _)
theorem SlF.left {α:Type} {Fs Gs:List Fct} {s:SlV α} {vs:List Value} (h:SlF Fs s vs):SlF (Fs++Gs) s vs:=h.more fun f hf=>List.mem_append_left _ hf
theorem SlF.new {α:Type} {Fs:List Fct} {A:Option Addr} {c:Nat} {l:List α} {vs:List Value} {n:Nat} (hn:n=l.length) (h:(⟨.slice A n c,n,vs⟩:Fct)∈Fs):SlF Fs ⟨A,c,l⟩ vs:=by subst hn;exact .inr h
def Known (w:World) (B:Nat→Prop) (Fs:List Fct):Prop:=∀f∈Fs,∃A c,f.v=.slice A f.n c∧f.n≤c∧FW w B A f.vs
theorem Known.mono {w:World} {B:Nat→Prop} {Fs Gs:List Fct} (h:Known w B Fs) (hg:∀f∈Gs,f∈Fs):Known w B Gs:=fun f hf=>h f (hg f hf)
theorem Ms {w:World} {B:Nat→Prop} {Fs Gs:List Fct} (h:Known w B Fs) (k:Known w B Gs):Known w B (Fs++Gs):=fun f hf=>by
 rcases List.mem_append.1 hf with hf|hf
 ·exact h f hf
 ·exact k f hf
theorem Wl {w0 w:World} {ow B:Nat→Prop} {γ:List Nm} {hp:List Res} {k:Nat} {Fs:List Fct} (hS:Sat w0 ow γ hp w) (hk:hp[k]?=some (.abs (fctRep Fs))) (ks:List Nat) (hn:k∉ks) (hB:∀b,B b→∃(k:Nat) (r:Res),k∈ks∧hp[k]?=some r∧r.has γ k b):Known w B Fs:=fun f hf=>by
 obtain⟨_,_,_,hall⟩:=hS.holds k _ hk
 obtain⟨A,c,h1,h2,h3,_⟩:=hall f hf
 refine⟨A,c,h1,h2,Atb (n:=f.n) (c:=c) (vs:=f.vs) hS hk ?_ (Sub.refl _ _) ks hn hB⟩
 obtain⟨v,n,vs⟩:=f
 dsimp only at h1
 rw[←h1]
 exact hf
theorem Ow {w0 w:World} {ow B:Nat→Prop} {γ:List Nm} {hp:List Res} {Fs:List Fct} (hS:Sat w0 ow γ hp w) (h:Known w0 ow Fs) (hB:∀b,B b→G7 w0 ow b):Known w B Fs:=fun f hf=>by
 obtain⟨A,c,h1,h2,h3⟩:=h f hf
 refine⟨A,c,h1,h2,fun hp=>?_,fun hp a ha hb=>?_⟩
 ·obtain⟨b,off,h4,h5,h6⟩:=h3.rd hp
  have hno:=h3.far hp _ h4
  exact⟨b,off,h4,Nat.lt_of_lt_of_le h5 hS.keeps.size,fun j u hu=>(World.cell?_of_block (hS.keeps.block b h5 hno)).trans (h6 j u hu)⟩
 ·obtain⟨b,off,h4,h5,h6⟩:=h3.rd hp
  rw[h4] at ha
  cases ha
  rcases hB b hb with h7|h7
  ·exact h3.far hp _ h4 h7
  ·omega
theorem Known.fw {α:Type} {w:World} {B:Nat→Prop} {Fs:List Fct} {s:SlV α} {vs:List Value} (hk:Known w B Fs) (h:SlF Fs s vs) (hn:s=⟨none,0,[]⟩→vs=[]):s.l.length≤s.c∧FW w B s.A vs:=by
 rcases h with e|e
 ·rw[hn e,e];exact⟨Nat.le_refl _,RdV.nil_,fun h=>absurd h (by simp)⟩
 ·obtain⟨A,c,h1,h2,h3⟩:=hk _ e
  have h1:Value.slice s.A s.l.length s.c=.slice A s.l.length c:=h1
  injection h1 with e1 _ e3
  rw[←e3] at h2
  rw[←e1] at h3
  exact⟨h2,h3⟩
theorem Wm {w:World} {B:Nat→Prop} {Fs:List Fct} (h:Known w B Fs):Known w No Fs:=fun f hf=>by
 obtain⟨A,c,h1,h2,h3⟩:=h f hf
 exact⟨A,c,h1,h2,FW.no h3.rd⟩
theorem Ati {γ:List Nm} {A:List Res} (b:Nat) (h:∃(k:Nat) (r:Res),A[k]?=some r∧r.has γ k b) (M:List Res):∃(k:Nat) (r:Res),k∈List.range A.length∧(A++M)[k]?=some r∧r.has γ k b:=by
 obtain⟨k,r,h1,h2⟩:=h
 exact⟨k,r,List.mem_range.2 (Ax h1),by rw[List.getElem?_append_left (Ax h1)];exact h1,h2⟩
theorem D2 {w0 w:World} {ow:Nat→Prop} {γ:List Nm} {A M:List Res} {k:Nat} {Gs:List Fct} (hS:Sat w0 ow γ (A++M) w) (hk:M[k]?=some (.abs (fctRep Gs))):Known w (fun b=>∃(k:Nat) (r:Res),A[k]?=some r∧r.has γ k b) Gs:=
 Wl (k:=A.length+k) hS (by rw[List.getElem?_append_right (Nat.le_add_right _ _),Nat.add_sub_cancel_left];exact hk) (List.range A.length) (by simp) fun b hb=>Ati b hb M
theorem D3 {w0 w:World} {ow:Nat→Prop} {γ:List Nm} {A M:List Res} {Fs:List Fct} (hS:Sat w0 ow γ (A++M) w) (hw:Known w0 ow Fs):Known w (fun b=>∃(k:Nat) (r:Res),A[k]?=some r∧r.has γ k b) Fs:=Ow hS hw fun b ⟨k,r,h1,h2⟩=>(hS.mine k r b (by rw[List.getElem?_append_left (Ax h1)];exact h1) h2).1
end Go.Proofs.YtedaafmfjhjfmaaGreatDoor
/- The plain law of layer 28: what a new leaf has; what its partial sums up. No program in sight. -/
namespace Go.Proofs.YtedaafmfjhjfmaaGreatDoor
open _root_.Go.Proofs.Tryz
set_option linter.unusedVariables false
def LfS.new (c:CfS) (g:GrS) (place gen parent:Int) (above:List Int):LfS:=
 ⟨place,gen,c.dim,c.term,g.need,parent,above,g.ids,0,g.ids,Tal.new g.ids g.need c.term,[],[],[],[],Fk⟩
def Atj (R:List (Int×List UInt32)):List Int→List UInt32→List UInt32
 |[],r=>r
 |id::ids,r=>Atj R ids (Bz r ((Az R id).getD []))
end Go.Proofs.YtedaafmfjhjfmaaGreatDoor
/- A tally and a leaf (layers 23 and 28), as they lie there. -/
namespace Go.Proofs.YtedaafmfjhjfmaaGreatDoor
open _root_.Go.Proofs.Tryz
open Go.RowKit
set_option linter.unusedSimpArgs false
set_option linter.unusedVariables false
def Da (l:List Int):List Value:=l.map (Value.int .i64)
structure TalR where
 who:SlV Int
 inn:SlV Int
 gone:SlV Int
 need:Int
 term:Int
 went:Int
def TalR.t (r:TalR):Tal:=⟨r.who.l,r.inn.l,r.gone.l,r.need,r.term,r.went⟩
def tlV (r:TalR):List Value:=[r.who.val,r.inn.val,r.gone.val,.int .i64 r.need,.int .i64 r.term,.int .i64 r.went]
def tlA (r:TalR):List At:=[.v r.who.val,.v r.inn.val,.v r.gone.val,.v (.int .i64 r.need),.v (.int .i64 r.term),.v (.int .i64 r.went)]
structure TalOk (Fs:List Fct) (r:TalR):Prop where
 who:SlF Fs r.who (Da r.who.l)
 inn:SlF Fs r.inn (Da r.inn.l)
 gone:SlF Fs r.gone (Da r.gone.l)
 few1:r.who.l.length≤1000
 few2:r.inn.l.length≤1000
 few3:r.gone.l.length≤1000
 need:0≤r.need∧r.need≤1000
 went:0≤r.went∧r.went≤1000∧0≤r.term∧r.term≤1000
theorem TalOk.more {Fs Gs:List Fct} {r:TalR} (h:TalOk Fs r) (hg:∀f∈Fs,f∈Gs):TalOk Gs r:=⟨h.who.more hg,h.inn.more hg,h.gone.more hg,h.few1,h.few2,h.few3,h.need,h.went⟩
structure LfR where
 place:Int
 gen:Int
 dim:Int
 term:Int
 need:Int
 parent:Int
 above:SlV Int
 group:SlV Int
 phase:Int
 waits:SlV Int
 ty:TalR
 joined:SlV Int
 pub:List (Int×UInt64)
 boxes:List (Int×SlV UInt64)
 rows:List (Int×SlV UInt32)
 sum:MgR
 live:Bool
def Bw {α β:Type} (f:α→β) (l:List (Int×α)):List (Int×β):=l.map fun p=>(p.1,f p.2)
def LfR.s (r:LfR):LfS:=⟨r.place,r.gen,r.dim,r.term,r.need,r.parent,r.above.l,r.group.l,r.phase,r.waits.l,r.ty.t,r.joined.l,r.pub,Bw SlV.l r.boxes,Bw SlV.l r.rows,r.sum.mg⟩
def lfA (r:LfR):List At:=[.v (.int .i64 r.place),.v (.int .i64 r.gen),.v (.int .i64 r.dim),.v (.int .i64 r.term),.v (.int .i64 r.need),.v (.int .i64 r.parent),.v r.above.val,.v r.group.val,.v (.int .i64 r.phase),.v r.waits.val,.p 1 0,.v r.joined.val,.o 2,.o 3,.o 4]++mgA r.sum
def puE (l:List (Int×UInt64)):List (Int×Sc):=Bw (fun x=>.a (.v (vU64 x))) l
def slE {α:Type} (l:List (Int×SlV α)):List (Int×Sc):=Bw (fun x=>.a (.v x.val)) l
def bxR (r:LfR):Res:=if r.live=true then .mp .i64 (slE r.boxes) else .gone
def lfB (g:Nat) (r:LfR):List Res:=[.pin g 104 (.c (lfA r)),.blk 170 (.c (tlA r.ty)),.mp .i64 (puE r.pub),bxR r,.mp .i64 (slE r.rows)]
structure LfOk (Fs:List Fct) (r:LfR):Prop where
 above:SlF Fs r.above (Da r.above.l)
 group:SlF Fs r.group (Da r.group.l)
 waits:SlF Fs r.waits (Da r.waits.l)
 joined:SlF Fs r.joined (Da r.joined.l)
 ty:TalOk Fs r.ty
 boxes:∀p∈r.boxes,SlF Fs p.2 (p.2.l.map vU64)
 rows:∀p∈r.rows,SlF Fs p.2 (p.2.l.map Ap)
 sum:MOk Fs r.sum
 few1:r.above.l.length≤1000
 few2:r.group.l.length≤1000
 few3:r.waits.l.length≤1000
 few4:r.joined.l.length≤1000
 few5:∀p∈r.boxes,p.2.l.length≤1000
 few6:∀p∈r.rows,p.2.l.length≤1000
 dim:0≤r.dim∧r.dim≤32
 need:0≤r.need∧r.need≤1000
 term:0≤r.term∧r.term≤1000
theorem LfOk.more {Fs Gs:List Fct} {r:LfR} (h:LfOk Fs r) (hg:∀f∈Fs,f∈Gs):LfOk Gs r:=
 ⟨h.above.more hg,h.group.more hg,h.waits.more hg,h.joined.more hg,h.ty.more hg,fun p hp=>(h.boxes p hp).more hg,fun p hp=>(h.rows p hp).more hg,h.sum.more hg,h.few1,h.few2,h.few3,h.few4,h.few5,h.few6,h.dim,h.need,h.term⟩
theorem Atk {α:Type} (n:Nat) (l:List (Int×SlV α)):Lp n (slE l)=True:=eq_true fun p hp=>by
 unfold slE Bw at hp
 obtain⟨q,_,rfl⟩:=List.mem_map.1 hp
 trivial
theorem Atl {α:Type} (ρ:List Nat) (l:List (Int×SlV α)):F9 ρ (slE l)=slE l:=by
 unfold F9 slE Bw
 rw[List.map_map]
 rfl
theorem I5 {α:Type} (j:Nat) (v:Value) (l:List (Int×SlV α)):Gq j v (slE l)=slE l:=by
 unfold Gq slE Bw
 rw[List.map_map]
 rfl
attribute [push_cast] Atk Atl I5
attribute [push_cast] avK At.av Sc.av Sv.av Cont.av Res.av
theorem Ck (m:MgR) (a:Nat):(∀x∈mgA m,x.av a)=True:=Mm m fun _ _ _=>trivial
theorem J0 (m:MgR) (j:Nat) (v:Value):(mgA m).map (At.sub j v)=mgA m:=by
 unfold mgA mgL
 rw[List.map_append,List.map_append,List.map_map]
 rfl
end Go.Proofs.YtedaafmfjhjfmaaGreatDoor
/- slices.Clone of numbers and of peers. -/
namespace Go.Proofs
open Go.RowKit
set_option linter.unusedSimpArgs false
set_option maxRecDepth 100000 in
theorem Tryz.infoPe:∃i0,prog.info? 115=some i0∧i0.zero=some (.agg #[.int .i64 0,.int .u64 0])∧i0.size=2∧i0.bytes=16:=⟨_,rfl,rfl,rfl,rfl⟩
set_option maxRecDepth 100000 in
set_option maxHeartbeats 1000000 in
theorem Tryz.clonePe_at (ad:Addr) (n c:Nat) (news:List Value) (w:World) (hl:news.length=n*2) (hn:n≤1000) (hc:∀j u,news[j]?=some u→w.cell? (ad.add j)=some u) (h1:∀u∈news,u.oneCell'=true):
  Calls prog 73 #[.slice (some ad) n c] w fun e w'=>∃v',e=.returned v'∧w'.ownsRow w.heap.size 115 2 v' n news∧Below w.heap.size w w':=by
 obtain⟨i0,hi,hz0,hz1,hz2⟩:=Tryz.infoPe
 have t22:prog.underlying 45=some (.slice 115):=underlying45
 have q22:∀(w:World) (a:Option Addr) (n c n' c':Nat),(binOp .eql 45 (.slice a n c) (.slice none n' c')).run prog w=.ok (.bool a.isNone) w:=fun w a n c n' c'=>Lib.run_eql_slice_nil w _ _ a n c n' c' t22
 have u22:∀w,Sem.run prog (underlying 45) w=.ok (TypeDesc.slice 115) w:=run_underlying t22
 have z23:∀w,(Go.sizeOf 115).run prog w=.ok 2 w:=Tryz.sizeOf115
 have A:Aside (∀j u,news[j]?=some u→w.cell? (ad.add j)=some u):=hc
 clear hc
 go_enter func73,ntmps73
 go_wp2_with (at_builtin;refine wpList_append_own _ rfl _ _ 45 rfl w.heap.size 115 i0 _ 2 16 t22 hi hz0 hz1 hz2 rfl (by decide) _ _ _ rfl (World.ownsRow_made w #[] 0 (Nat.le_refl _) (Nat.zero_le _) (by simp)) ad n c news rfl ?qc1 ?qc2 ?qc3 ?qc4 ?qc5 ?qc6 ?_)
 case qc1=>exact hl
 case qc2=>
  intro j u hj
  exact Lib.cell?_alloc_some _ (A.out j u hj)
 case qc3=>exact h1
 case qc4=>rw[Nat.zero_add];unfold maxLen;omega
 case qc5=>rw[Nat.zero_add];omega
 case qc6=>simp
 intro v' w1 hown hgrow hnil
 go_wp2
 go_ret
 refine⟨v',rfl,by simpa using hown,?_⟩
 exact ((Below.refl _ w).alloc (Nat.le_refl _) _).grown hgrow (by simp) (by intro k hk;simp [Value.ownBlock] at hk;omega)
end Go.Proofs
namespace Go.Proofs.YtedaafmfjhjfmaaGreatDoor
open _root_.Go.Proofs.Tryz
open Go.RowKit
set_option linter.unusedSimpArgs false
set_option linter.unusedVariables false
attribute [local irreducible] Ac Ad Ah Au Ao Aj Ai Al
set_option maxRecDepth 100000 in
theorem Ac7 (l:List Int) (A:Option Addr) (c:Nat) (w:World) (hl:l.length≤1000) (hR:RdV w w.heap.size A (l.map (Value.int .i64))):Calls prog 52 #[.slice A l.length c] w fun e w'=>∃v,e=.returned v∧Own w' w.heap.size 3 v (l.map (Value.int .i64))∧Below w.heap.size w w':=by
 obtain⟨e1,k1⟩:=U8 (FV.no hR)
 have h0:=fun h=>Iu (P:=prog) (w:=w) (n:=8) func52 rfl ntmps52 [.x (.a (.v (.slice A l.length c)))] (by simp) 3 (.i64 l) (vs:=l.map (Value.int .i64)) (fun _=>rfl) h
 refine h0 ?_
 clear h0
 have b1:l.length*8≤140737488355328:=by omega
 have b2:l.length≤2 ^ 63 - 1:=by omega
 cases A with
 |none=>
  have hn:l=[]:=by
   cases l with
   |nil=>rfl
   |cons x r=>obtain⟨b,off,h,_⟩:=hR (by simp);cases h
  subst hn
  simp only[Dm,push_cast,↓reduceIte,reduceCtorEq,Nat.reduceLT]
 |some a=>
  simp only[e1,k1,b1,b2,Dm,push_cast,↓reduceIte,reduceCtorEq,Nat.reduceEqDiff,Nat.reduceLT,Nat.reduceLeDiff,Nat.reduceAdd]
set_option maxRecDepth 100000 in
theorem Atm (l:List UInt32) (A:Option Addr) (c:Nat) (w:World) (hl:l.length≤1000) (hR:RdV w w.heap.size A (l.map Ap)):Calls prog 74 #[.slice A l.length c] w fun e w'=>∃v,e=.returned v∧Own w' w.heap.size 111 v (l.map Ap)∧Below w.heap.size w w':=by
 obtain⟨e1,k1⟩:=Aam (FV.no hR)
 have h0:=fun h=>Iu (P:=prog) (w:=w) (n:=8) func74 rfl ntmps74 [.x (.a (.v (.slice A l.length c)))] (by simp) 111 (.u32 l) (vs:=l.map Ap) (fun _=>rfl) h
 refine h0 ?_
 clear h0
 have b1:l.length*4≤140737488355328:=by omega
 have b2:l.length≤2 ^ 63 - 1:=by omega
 cases A with
 |none=>
  have hn:l=[]:=by
   cases l with
   |nil=>rfl
   |cons x r=>obtain⟨b,off,h,_⟩:=hR (by simp);cases h
  subst hn
  simp only[Dm,push_cast,↓reduceIte,reduceCtorEq,Nat.reduceLT]
 |some a=>
  simp only[e1,k1,b1,b2,Dm,push_cast,↓reduceIte,reduceCtorEq,Nat.reduceEqDiff,Nat.reduceLT,Nat.reduceLeDiff,Nat.reduceAdd]
set_option maxRecDepth 100000 in
theorem Atn (l:List UInt64) (A:Option Addr) (c:Nat) (w:World) (hl:l.length≤1000) (hR:RdV w w.heap.size A (l.map vU64)):Calls prog 59 #[.slice A l.length c] w fun e w'=>∃v,e=.returned v∧Own w' w.heap.size 41 v (l.map vU64)∧Below w.heap.size w w':=by
 obtain⟨e1,k1⟩:=Aan (FV.no hR)
 have h0:=fun h=>Iu (P:=prog) (w:=w) (n:=8) func59 rfl ntmps59 [.x (.a (.v (.slice A l.length c)))] (by simp) 41 (.u64 l) (vs:=l.map vU64) (fun _=>rfl) h
 refine h0 ?_
 clear h0
 have b1:l.length*8≤140737488355328:=by omega
 have b2:l.length≤2 ^ 63 - 1:=by omega
 cases A with
 |none=>
  have hn:l=[]:=by
   cases l with
   |nil=>rfl
   |cons x r=>obtain⟨b,off,h,_⟩:=hR (by simp);cases h
  subst hn
  simp only[Dm,push_cast,↓reduceIte,reduceCtorEq,Nat.reduceLT]
 |some a=>
  simp only[e1,k1,b1,b2,Dm,push_cast,↓reduceIte,reduceCtorEq,Nat.reduceEqDiff,Nat.reduceLT,Nat.reduceLeDiff,Nat.reduceAdd]
section
variable {w0:World} {ow:Nat→Prop} {hp:List Res} {sv:Sv}
theorem Ato {l:List Int} (hl:l.length≤1000) (h:Bg w0 ow hp sv (l.map (Value.int .i64))) (hbr:∀r∈hp,Res.bnd hp.length r):Ad prog w0 ow 52 [sv] hp (.x (.a (.o hp.length))) (hp++[.own 3 (.i64 l)]):=Ip hbr trivial fun γ w hS=>by
 obtain⟨A,c,e1,b1,r1⟩:=h γ w hS
 rw[List.length_map] at e1
 show Calls _ _ #[sv.val γ] w _
 rw[e1]
 exact Ac7 l A c w hl r1
theorem Atp (p:Pr):∀u∈pv p,u.oneCell'=true:=fun u hu=>by
 unfold pv at hu
 simp only[List.mem_cons,List.not_mem_nil,or_false] at hu
 rcases hu with rfl|rfl<;>rfl
theorem Atq (l:List Pr) (A:Option Addr) (c:Nat) (w:World) (hl:l.length≤1000) (hR:RdV w w.heap.size A (pvs l)):Calls prog 73 #[.slice A l.length c] w fun e w'=>∃v,e=.returned v∧w'.ownsRow w.heap.size 115 2 v l.length (pvs l)∧Below w.heap.size w w':=by
 cases A with
 |none=>
  have hn:l=[]:=by
   cases l with
   |nil=>rfl
   |cons x r=>obtain⟨b,off,h,_⟩:=hR (by rw[Oc];simp);cases h
  subst hn
  refine (Bf (n:=8) func73 rfl ntmps73 [.x (.a (.v (.slice none 0 c)))] (by simp) (.x (.a (.v (.slice none 0 0)))) (fun _=>rfl) (by simp only[push_cast,↓reduceIte,reduceCtorEq,Nat.reduceLT])).mono ?_
  rintro e w' ⟨rfl,hb⟩
  exact⟨_,rfl,World.ownsRow_nil _ _ _ _,hb⟩
 |some a=>
  refine Tryz.clonePe_at a l.length c (pvs l) w (Oc l) hl (fun j u hj=>?_) ?_
  ·obtain⟨b,off,h1,h2,h3⟩:=hR (by have:=(List.getElem?_eq_some_iff.1 hj).1;omega)
   cases h1
   rw[Bu]
   exact h3 j u hj
  ·intro u hu
   obtain⟨p,hp,hu⟩:=List.mem_flatMap.1 hu
   exact Atp p u hu
theorem Atr {l:List Pr} (hl:l.length≤1000) (h:Hx w0 ow hp sv l.length (pvs l)) (hbr:∀r∈hp,Res.bnd hp.length r):Ad prog w0 ow 73 [sv] hp (.x (.a (.o hp.length))) (hp++[.onn 115 2 (.c (pcs l))]):=by
 unfold Ad
 intro γ w hS
 obtain⟨A,c,e1,b1,r1⟩:=h γ w hS
 show Calls _ _ #[sv.val γ] w _
 rw[e1]
 refine (Atq l A c w hl r1).mono ?_
 rintro en w' ⟨v,rfl,ho,hb⟩
 have hlen:=hS.len
 refine⟨[.s v],by simp [Sv.val,Sc.val,At.val,A5 hlen],?_⟩
 refine hS.push (X:=fun _=>False) (Keeps.of_below (own:=fun _=>False) hb) (fun b h=>h.elim) hbr ⟨by rw[D9 hlen,A5 hlen],by decide,l.length,?_⟩ ?_
 ·rw[A5 hlen]
  have e2:(pcs l).map (At.val (γ++[.s v]))=pvs l:=Vz _ l
  show World.ownsRow _ 0 _ 2 v l.length ((pcs l).map (At.val (γ++[.s v])))
  rw[e2]
  exact⟨ho.1,ho.2.imp id fun⟨g,cap,cur,h1,_,h3⟩=>⟨g,cap,cur,h1,Nat.zero_le _,h3⟩⟩
 ·intro n hn
  simp only[Res.has,A5 hlen] at hn
  have:=World.ownsRow.lt ho n hn
  exact⟨.inr this.1,this.2⟩
end
end Go.Proofs.YtedaafmfjhjfmaaGreatDoor
/- Layer 23 walked: quorum.State, can, In (readers of a tally that lies somewhere). -/
namespace Go.Proofs.YtedaafmfjhjfmaaGreatDoor
open _root_.Go.Proofs.Tryz
open Go.RowKit
set_option linter.unusedSimpArgs false
set_option linter.unusedVariables false
attribute [local irreducible] Ac Ad Ah Au Ao Aj Ai Al
attribute [local irreducible] A9 okV
theorem Ac8 {r:TalR} {A:Option Addr} {w:World} (hv:Vr w A (tlV r)):(A7 w (Af A 0)=r.who.val∧A7 w (Af A 1)=r.inn.val∧A7 w (Af A 2)=r.gone.val∧A7 w (Af A 3)=.int .i64 r.need∧A7 w (Af A 4)=.int .i64 r.term∧A7 w (Af A 5)=.int .i64 r.went)∧
  (Cu w No (Af A 0)=True∧Cu w No (Af A 1)=True∧Cu w No (Af A 2)=True∧Cu w No (Af A 3)=True∧Cu w No (Af A 4)=True∧Cu w No (Af A 5)=True):=
 ⟨⟨(hv.cell 0 _ rfl).1,(hv.cell 1 _ rfl).1,(hv.cell 2 _ rfl).1,(hv.cell 3 _ rfl).1,(hv.cell 4 _ rfl).1,(hv.cell 5 _ rfl).1⟩,eq_true (hv.cell 0 _ rfl).2,eq_true (hv.cell 1 _ rfl).2,eq_true (hv.cell 2 _ rfl).2,eq_true (hv.cell 3 _ rfl).2,eq_true (hv.cell 4 _ rfl).2,eq_true (hv.cell 5 _ rfl).2⟩
set_option maxRecDepth 100000 in
theorem Ats (r:TalR) (a:Addr) (w:World) (hv:Vr w (some a) (tlV r)) (f1:r.who.l.length≤1000) (f2:r.inn.l.length≤1000) (f3:r.gone.l.length≤1000):
  Calls prog 116 #[.pointer (some a)] w fun e w'=>e=.returned (.int .i64 r.t.st)∧Below w.heap.size w w':=by
 obtain⟨⟨c0,c1,c2,c3,c4,c5⟩,o0,o1,o2,o3,o4,o5⟩:=Ac8 hv
 have vw:r.who.val=.slice r.who.A r.who.l.length r.who.c:=rfl
 have vi:r.inn.val=.slice r.inn.A r.inn.l.length r.inn.c:=rfl
 have vg:r.gone.val=.slice r.gone.A r.gone.l.length r.gone.c:=rfl
 have hs:(some a).isSome=true:=rfl
 have hn:(some a).isNone=false:=rfl
 have tln:(Af (some a) 0).isSome=true:=rfl
 refine Bf (n:=81) func116 rfl ntmps116 [.x (.a (.v (.pointer (some a))))] (by simp) (.x (.a (.v (.int .i64 r.t.st)))) (fun _=>rfl) ?_
 simp (maxSteps:=10^6) only[hn,push_cast,↓reduceIte,reduceCtorEq,Nat.reduceLT]
 (repeat (refine And.intro (by first|omega|decide) ?_))
 refine B3 [(0,true),(1,true),(2,true),(3,true),(4,true),(5,true),(6,true),(7,true),(8,true),(9,true),(10,true),(11,true),(12,true),(13,true),(14,true),(15,true),(16,true),(17,true),(18,true),(19,true),(20,true),(21,true),(22,true),(23,true)] (by kernel_rfl) (by kernel_rfl) rfl (by kernel_rfl) ?_
 simp (maxSteps:=10^6) only[c0,c1,c2,o0,o1,o2,hs,vw,vi,vg,push_cast,↓reduceIte,reduceCtorEq,Nat.reduceEqDiff,Nat.reduceLT,Int.reduceNeg]
 (repeat (refine And.intro (by first|omega|decide) ?_))
 refine B3 [(0,true),(1,true),(2,true),(3,true),(4,true),(5,true),(6,true),(7,true),(8,true),(9,true)] (by kernel_rfl) (by kernel_rfl) rfl (by kernel_rfl) ?_
 have e:r.t.st=if r.inn.l.length=r.who.l.length then 1
  else if r.need≤(r.inn.l.length:Int)∧(r.term≤r.went∨(r.who.l.length:Int) - r.inn.l.length - r.gone.l.length=0) then 1
  else if (r.inn.l.length:Int) < r.need∧(r.term≤r.went∨(r.inn.l.length:Int)+((r.who.l.length:Int) - r.inn.l.length - r.gone.l.length) < r.need) then 2 else 0:=rfl
 generalize r.t.st=st at*
 by_cases g1:(r.inn.l.length:Int)=r.who.l.length<;>by_cases g2:r.need≤(r.inn.l.length:Int)<;>by_cases g3:r.term≤r.went<;>by_cases g4:(r.who.l.length:Int) - r.inn.l.length - r.gone.l.length=0<;>by_cases g5:(r.inn.l.length:Int)+((r.who.l.length:Int) - r.inn.l.length - r.gone.l.length) < r.need
 all_goals
  have g6:((r.inn.l.length:Int) < r.need)=¬(r.need≤(r.inn.l.length:Int)):=by apply propext;omega
  have g7:(r.inn.l.length=r.who.l.length)=((r.inn.l.length:Int)=r.who.l.length):=by apply propext;omega
  simp only[g7,g1,g6,g2,g3,g4,g5,Int.add_zero,if_true,if_false,not_true,not_false_eq_true,true_or,false_or,or_self,and_self,and_true,and_false,or_true,or_false] at e
  subst e
  simp (maxSteps:=10^6) only[c0,c3,c4,c5,o0,o3,o4,o5,hs,vw,g6,g1,g2,g3,g4,g5,Int.add_zero,undef,push_cast,↓reduceIte,reduceCtorEq,Nat.reduceEqDiff,Nat.reduceLT,Int.reduceNeg]
  repeat (refine And.intro (by first|omega|decide) ?_)
  try omega
theorem Ac9 {w0:World} {ow:Nat→Prop} {hp:List Res} {sv:Sv} {r:TalR} (h:∀γ w,Sat w0 ow γ hp w→∃a,sv.val γ=.pointer (some a)∧Vr w (some a) (tlV r)) (f1:r.who.l.length≤1000) (f2:r.inn.l.length≤1000) (f3:r.gone.l.length≤1000):
  Ad prog w0 ow 116 [sv] hp (.x (.a (.v (.int .i64 r.t.st)))) hp:=Bc fun γ w hS=>by
 obtain⟨a,e,hv⟩:=h γ w hS
 show Calls _ _ #[sv.val γ] w _
 rw[e]
 exact Ats r a w hv f1 f2 f3
structure TlAt (r:TalR) (w:World):Prop where
 who:r.who.l.length≤r.who.c∧RdV w w.heap.size r.who.A (r.who.l.map (Value.int .i64))
 inn:r.inn.l.length≤r.inn.c∧RdV w w.heap.size r.inn.A (r.inn.l.map (Value.int .i64))
 gone:r.gone.l.length≤r.gone.c∧RdV w w.heap.size r.gone.A (r.gone.l.map (Value.int .i64))
theorem TalOk.at_ {Fs:List Fct} {r:TalR} {w:World} {B:Nat→Prop} (h:TalOk Fs r) (hk:Known w B Fs):TlAt r w:=by
 have h1:=hk.fw h.who (fun e=>by rw[e];rfl)
 have h2:=hk.fw h.inn (fun e=>by rw[e];rfl)
 have h3:=hk.fw h.gone (fun e=>by rw[e];rfl)
 exact⟨⟨h1.1,h1.2.rd⟩,⟨h2.1,h2.2.rd⟩,h3.1,h3.2.rd⟩
theorem Gc:erV 0=.nilIface:=rfl
theorem En {n:Int} (h:¬n=0):erV n=.iface 91 (.int .i64 n):=if_neg h
set_option maxRecDepth 100000 in
theorem Att (r:TalR) (a:Addr) (id:Int) (w:World) (hv:Vr w (some a) (tlV r)) (ht:TlAt r w) (f1:r.who.l.length≤1000) (f2:r.inn.l.length≤1000) (f3:r.gone.l.length≤1000):
  Calls prog 136 #[.pointer (some a),.int .i64 id] w fun e w'=>e=.returned (erV (r.t.can id))∧Below w.heap.size w w':=by
 obtain⟨⟨c0,c1,c2,c3,c4,c5⟩,o0,o1,o2,o3,o4,o5⟩:=Ac8 hv
 obtain⟨⟨l1,r1⟩,⟨l2,r2⟩,l3,r3⟩:=ht
 have vw:r.who.val=.slice r.who.A r.who.l.length r.who.c:=rfl
 have vi:r.inn.val=.slice r.inn.A r.inn.l.length r.inn.c:=rfl
 have vg:r.gone.val=.slice r.gone.A r.gone.l.length r.gone.c:=rfl
 have hs:(some a).isSome=true:=rfl
 have hn:(some a).isNone=false:=rfl
 have tln:(Af (some a) 0).isSome=true:=rfl
 refine Bf (n:=39) func136 rfl ntmps136 [.x (.a (.v (.pointer (some a)))),.x (.a (.v (.int .i64 id)))] (by simp) (.x (.a (.v (erV (r.t.can id))))) (fun _=>rfl) ?_
 simp (maxSteps:=10^6) only[hn,push_cast,↓reduceIte,reduceCtorEq,Nat.reduceLT]
 (repeat (refine And.intro (by first|omega|decide) ?_))
 refine Am rfl Md rfl (Ac9 (r:=r) (fun γ w' hS=>⟨a,rfl,hv.later hS.keeps⟩) f1 f2 f3) (Aa rfl) ?_
 have e:r.t.can id=if r.t.st≠0 then 9 else if A9 r.who.l id=false then 6 else if A9 r.inn.l id=true∨A9 r.gone.l id=true then 8 else 0:=rfl
 by_cases g1:r.t.st=0
 ·rw[if_neg (by intro h;exact h g1)] at e
  simp (maxSteps:=10^6) only[g1,c0,o0,hs,vw,push_cast,↓reduceIte,reduceCtorEq,Nat.reduceEqDiff,Nat.reduceLT]
  (repeat (refine And.intro (by first|omega|decide) ?_))
  refine Am rfl Vf rfl (V7 (l:=r.who.l) id (by omega) (B4 r1 _ _ (by simp) l1)) (Aa rfl) ?_
  by_cases g2:A9 r.who.l id=true
  ·rw[g2,if_neg (by decide)] at e
   simp (maxSteps:=10^6) only[g2,c1,o1,hs,vi,push_cast,↓reduceIte,reduceCtorEq,Nat.reduceEqDiff,Nat.reduceLT]
   (repeat (refine And.intro (by first|omega|decide) ?_))
   refine Am rfl Vf rfl (V7 (l:=r.inn.l) id (by omega) (B4 r2 _ _ (by simp) l2)) (Aa rfl) ?_
   by_cases g3:A9 r.inn.l id=true
   ·rw[if_pos (.inl g3)] at e
    rw[e,En (by decide)]
    simp (maxSteps:=10^6) only[g3,undef,push_cast,↓reduceIte,Nat.reduceEqDiff,Nat.reduceLT]
    done
   ·have g3':A9 r.inn.l id=false:=by simpa using g3
    simp (maxSteps:=10^6) only[g3',c2,o2,hs,vg,push_cast,↓reduceIte,reduceCtorEq,Nat.reduceEqDiff,Nat.reduceLT]
    (repeat (refine And.intro (by first|omega|decide) ?_))
    refine Am rfl Vf rfl (V7 (l:=r.gone.l) id (by omega) (B4 r3 _ _ (by simp) l3)) (Aa rfl) ?_
    by_cases g4:A9 r.gone.l id=true
    ·rw[if_pos (.inr g4)] at e
     rw[e,En (by decide)]
     simp (maxSteps:=10^6) only[g4,push_cast,↓reduceIte,Nat.reduceEqDiff,Nat.reduceLT]
     done
    ·have g4':A9 r.gone.l id=false:=by simpa using g4
     rw[if_neg (by rw[g3',g4'];decide)] at e
     rw[e,Gc]
     simp (maxSteps:=10^6) only[g4',push_cast,↓reduceIte,Nat.reduceEqDiff,Nat.reduceLT]
     done
  ·have g2':A9 r.who.l id=false:=by simpa using g2
   rw[if_pos g2'] at e
   rw[e,En (by decide)]
   simp (maxSteps:=10^6) only[g2',push_cast,↓reduceIte,Nat.reduceLT]
   done
 ·rw[if_pos g1] at e
  rw[e,En (by decide)]
  simp (maxSteps:=10^6) only[g1,push_cast,↓reduceIte,Nat.reduceLT]
  done
end Go.Proofs.YtedaafmfjhjfmaaGreatDoor
