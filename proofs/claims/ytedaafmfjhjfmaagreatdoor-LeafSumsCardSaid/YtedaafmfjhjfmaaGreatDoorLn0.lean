import Derived.Test.YtedaafmfjhjfmaaGreatDoorLwI
/- Layer 28 walked: Begin; Tick whole. -/
namespace Go.Proofs.YtedaafmfjhjfmaaGreatDoor
open Go.RowKit
set_option linter.unusedSimpArgs false
set_option linter.unusedVariables false
attribute [local irreducible] Ah Ai Am Bc A7 Ay Ap A6
attribute [local irreducible] A8 okV Bj erV Tal.can Tal.st Bz Cd
def stepS (r:LfR):MgS:={Cp 15 with pl:=r.place,ge:=r.gen}
set_option maxRecDepth 100000 in
theorem A7h (r:LfR) (a:Addr) {t xp xb xr:Value} (w:World) (h:LfAt r w a t xp xb xr) (hsm:r.sum.sm.length=32) (hg:r.group.l.length≤r.group.c∧RdV w w.heap.size r.group.A (Hy r.group.l)) (hl:r.group.l.length≤1000):
  Calls Tryz.prog 47 (List.map (Sv.val ([]++[.m (.bool true) (fun _=>False)])) [.x (.a (.v (.pointer (some a))))]).toArray w fun e w'=>∃(x:SlV SnR×List Fct) (γ1:List Nm),(x.1.l.map SnR.s=Cq r.group.l (fun _=>stepS r)∧OutOk x.2 x.1)∧e=.returned ((Sv.x (.a (.v x.1.val))).val γ1)∧Sat w No γ1 [.abs (Aa x.2)] w':=by
 obtain⟨c0,c1,c2,c5,c8,c11,c12,c13,c7,c9,ok,_⟩:=h.cells hsm
 have k7:=eq_true (ok 7 (by omega))
 have hs:(some a).isSome=true:=rfl
 have hn:(some a).isNone=false:=rfl
 have vg:r.group.val=.slice r.group.A r.group.l.length r.group.c:=rfl
 refine Ci (n:=11) (ι:=SlV SnR×List Fct) (fun x=>x.1.l.map SnR.s=Cq r.group.l (fun _=>stepS r)∧OutOk x.2 x.1) (fun x=>.x (.a (.v x.1.val))) (fun x=>[.abs (Aa x.2)]) Tryz.func47 rfl Tryz.ntmps47 _ ((Sat.init w No).fct0 (fun r hr=>by cases hr)) (by simp) ?_
 simp (maxSteps:=10^6) only[c7,k7,hs,hn,undef,↓List.forall_mem_cons,push_cast,↓reduceIte,reduceCtorEq,Nat.reduceEqDiff,Nat.reduceLT,Nat.reduceAdd]
 (repeat (refine And.intro (by first|omega|decide) ?_))
 refine Fk (ι:=SlV SnR×List Fct) (fun x=>x.1.l.map SnR.s=Cq r.group.l (fun _=>stepS r)∧OutOk x.2 x.1) (fun x=>.x (.a (.v x.1.val))) (fun x=>x.2) 0 rfl rfl Qs rfl (fun γ' w' hS'=>?_) (fun _ _=>rfl) (Ae rfl) (by simp (maxSteps:=10^6) only[↓List.forall_mem_cons,push_cast,Nat.reduceLT,Nat.reduceAdd]) ?_
 ·have hb:=hS'.keeps
  have hv:=Fz (k:=1) (t:=30) (c:=.c [.v (.pointer (some a))]) (vs:=[.pointer (some a)]) hS' rfl rfl
  have:=R0 r.group.l r.group.A r.group.c (.func (.func 102) #[] #[.pointer (some ⟨nmB γ' 1,0,none⟩)]) (fun _=>stepS r) w' hl ((hg.2.below (Dc hb)).more (Dc hb).size) fun id _=>⟨_,_,rfl,Axl,fun w1 hk1=>(A3l r a ⟨nmB γ' 1,0,none⟩ id w1 ((h.later hb).later hk1) hsm (hv.later hk1)).mono fun e w2 ⟨he,h2⟩=>A3m (m:={zeroR with k:=15,pl:=r.place,ge:=r.gen}) rfl rfl rfl rfl rfl he h2⟩
  refine Calls.mono (R:=fun e w''=>∃(x:SlV SnR×List Fct) (γ1:List Nm),(x.1.l.map SnR.s=Cq r.group.l (fun _=>stepS r)∧OutOk x.2 x.1)∧e=.returned x.1.val∧Sat w' No γ1 [.abs (Aa x.2)] w'') ?_ (fun e w'' ⟨x,γ1,h1,h2,h3⟩=>⟨x,γ1,h1,h2,h3⟩)
  show Calls _ _ #[r.group.val,.func _ #[] #[.pointer (some ⟨nmB γ' 1,0,none⟩)]] w' _
  rw[vg]
  exact this
 rintro⟨out,Hs⟩ ⟨q3,q4⟩
 dsimp only at q3 q4
 simp (maxSteps:=10^6) only[push_cast,↓reduceIte,Nat.reduceLT,Nat.reduceAdd]
 refine⟨(out,Hs),⟨q3,q4⟩,A9 [0] ?_⟩
 simp (maxSteps:=10^6) only[↓List.forall_mem_cons,push_cast,↓reduceIte]
theorem A7i (r:LfR) (a:Addr) {t xp xb xr:Value} (w:World) (h:LfAt r w a t xp xb xr) (hsm:r.sum.sm.length=32) (hg:r.group.l.length≤r.group.c∧RdV w w.heap.size r.group.A (Hy r.group.l)) (hl:r.group.l.length≤1000):
  Calls Tryz.prog 47 #[.pointer (some a)] w fun e w'=>∃(x:SlV SnR×List Fct) (γ1:List Nm),(x.1.l.map SnR.s=Cq r.group.l (fun _=>stepS r)∧OutOk x.2 x.1)∧e=.returned x.1.val∧Sat w No γ1 [.abs (Aa x.2)] w':=A7h r a w h hsm hg hl
section
variable {r:LfR} {g:Nat} {w:World} {B:Nat→Prop} {γ:List Nm} {Fs:List Fct}
theorem A7j (hS:Sat w B γ (lfB g r) w) (hw:Known w B Fs) (ok:LfOk Fs r) {R:List (Int×List UInt32)} {told:Option MgS} (hI:LfInv r.s R told) (hB:LfBx r.s) (hlv:r.phase < 2→r.live=true) (h3:1≤r.term∧r.term≤1000):N2 15 r Fs r.s.tick.1 r.s.tick.2 g w B:=by
 by_cases hp:r.phase≤2
 ·have:=A5a hS hw ok (hI.noneT hp) hB hlv h3 hp
  rw[K5 hS] at this
  exact this.mono fun e w' ⟨x,γ1,h⟩=>⟨x,γ1,h⟩
 ·have hp:2 < r.phase:=by omega
  have e0:r.s.tick=(r.s,[]):=by
   unfold LfS.tick
   exact if_pos hp
  have hS2:Sat w B γ (lfB g r++[]) w:=by rw[List.append_nil];exact hS
  obtain⟨_,hat⟩:=Js hS2
  refine (A5b ⟨g,0,none⟩ hat ok.sum.s hp).mono fun e w' ⟨he,hb⟩=>?_
  rw[e0]
  exact⟨(r,⟨none,0,[]⟩,[]),_,⟨rfl,rfl,hlv,by rw[List.append_nil];exact ok,Ey _⟩,he,(hS.later hb).fct0 (Ar g r)⟩
end
end Go.Proofs.YtedaafmfjhjfmaaGreatDoor
/- A new leaf: what its walk wants. -/
namespace Go.Proofs.YtedaafmfjhjfmaaGreatDoor
open Go.RowKit
set_option linter.unusedSimpArgs false
set_option linter.unusedVariables false
section
variable {P:Program} {w0 w:World} {ow:Nat→Prop} {γ:List Nm} {hp:List Res} {n:Nat}
theorem Sat.toPin {k:Nat} {t:TypeId} {c:Cont} (h:Sat w0 ow γ hp w) (hk:hp[k]?=some (.blk t c)):Sat w0 ow γ (hp.set k (.pin (nmB γ k) t c)) w:=by
 have hlt:k < hp.length:=Bb hk
 have g:∀(j:Nat) (r:Res),(hp.set k (.pin (nmB γ k) t c))[j]?=some r→(j=k∧r=.pin (nmB γ k) t c)∨(j≠k∧hp[j]?=some r):=fun j r hj=>by
  by_cases e:j=k
  ·subst e
   rw[List.getElem?_set_self hlt] at hj
   exact .inl ⟨rfl,(Option.some.inj hj).symm⟩
  ·rw[List.getElem?_set_ne (fun h=>e h.symm)] at hj
   exact .inr ⟨e,hj⟩
 have has:∀(j:Nat) (r:Res),(hp.set k (.pin (nmB γ k) t c))[j]?=some r→∃r',hp[j]?=some r'∧r'.has γ j=r.has γ j:=fun j r hj=>by
  rcases g j r hj with ⟨rfl,rfl⟩|⟨_,h2⟩
  ·exact⟨_,hk,rfl⟩
  ·exact⟨_,h2,rfl⟩
 refine⟨h.keeps,by rw[List.length_set];exact h.len,fun j r hj=>?_,fun j r b hj hb=>?_,fun i j r r' b hi hj hne hb=>?_⟩
 ·rcases g j r hj with ⟨rfl,rfl⟩|⟨_,h2⟩
  ·obtain⟨q1,q2⟩:=h.holds _ _ hk
   exact⟨q1,rfl,q2⟩
  ·exact h.holds _ _ h2
 ·obtain⟨r',h1,h2⟩:=has j r hj
  exact h.mine j r' b h1 (by rw[h2];exact hb)
 ·obtain⟨r1,h1,h2⟩:=has i r hi
  obtain⟨r2,h3,h4⟩:=has j r' hj
  have:=h.apart i j r1 r2 b h1 h3 hne (by rw[h2];exact hb)
  rw[h4] at this
  exact this
theorem A7k {s:S} {a:Act} {k:Nat} {t:TypeId} {c:Cont} (hk:s.hp[k]?=some (.blk t c)) (hf:Fits w0 ow n s a w):∃g,Fits w0 ow n ⟨s.fr,s.hp.set k (.pin g t c)⟩ a w:=by
 obtain⟨γ,hf⟩:=hf
 exact⟨nmB γ k,γ,hf.sat.toPin hk,hf.defers,hf.size,hf.at_⟩
theorem A7l {ops rest:List Oper} {o:Oper} {s:S} {K:S→Prop} (k:Nat) {t:TypeId} {c:Cont} (hk:s.hp[k]?=some (.blk t c)) (h:∀g,Am P w0 ow n ops o rest ⟨s.fr,s.hp.set k (.pin g t c)⟩ K):Am P w0 ow n ops o rest s K:=fun a w hf=>by
 obtain⟨g,h1⟩:=A7k hk hf
 exact h g a w h1
theorem Acz {ops rest:List Oper} {o:Oper} {s s':S} {K:S→Prop} (hl:Gu w0 ow n s s') (h:Am P w0 ow n ops o rest s' K):Am P w0 ow n ops o rest s K:=fun a w hf=>h a w (hl a w hf)
theorem A7m {ops rest:List Oper} {o:Oper} {s:S} {K:S→Prop} {e:TypeId} {c:Cont} {vs:List Value} {l:List Fct} (j k:Nat) (hj:s.hp[j]?=some (.own e c)) (hv:∀γ,c.vals γ=vs) (hk:s.hp[k]?=some (.abs (Aa l))) (hjk:j≠k)
  (h:∀A cap,vs.length≤cap→cap≤maxLen→Am P w0 ow n ops o rest (Ii j k (.slice A vs.length cap) (l++[⟨.slice A vs.length cap,vs.length,vs⟩]) s) K):Am P w0 ow n ops o rest s K:=fun a w hf=>by
 obtain⟨A,cap,h1,h2,h3⟩:=U9 hj hv hk hjk hf
 exact h A cap h1 h2 a w h3
theorem A7n {e:TypeId} {vs:List Value} {v':Value} {w w':World} (hO:Own w' w.heap.size e v' vs) (hB:Below w.heap.size w w'):∃(x:Option Addr×Nat) (γ1:List Nm),(vs.length≤x.2∧x.2≤maxLen)∧v'=.slice x.1 vs.length x.2∧Sat w No γ1 [.abs (Aa [⟨.slice x.1 vs.length x.2,vs.length,vs⟩])] w':=by
 have hS1:Sat w No [.s v'] [.own e (.vs vs)] w':=by
  have:=(Sat.init w No).got (γ:=[]) (hp:=[]) (fun r hr=>by cases hr) hB (c:=.vs vs) (e:=e) (v:=v') trivial hO
  exact this
 obtain⟨A,cap,h1,h2,h3,h4⟩:=Lz (j:=0) (e:=e) (c:=.vs vs) hS1 rfl (fun _=>rfl)
 have h1:v'=.slice A vs.length cap:=h1
 subst h1
 have hbr:∀r∈[Res.own e (.vs vs)],Res.bnd [Res.own e (.vs vs)].length r:=fun r hr=>by
  rw[List.mem_singleton.1 hr];trivial
 have hp:=hS1.pack [0] hbr (R:=Aa [⟨.slice A vs.length cap,vs.length,vs⟩]) (x:=.bool true) (B:=fun b=>(nmS [.s (.slice A vs.length cap)] 0).ownBlock=some b) (fun b hb=>⟨0,_,by simp,rfl,hb⟩) ⟨rfl,fun f hf=>by rw[List.mem_singleton.1 hf];exact h4⟩
 have hle:If [1] (De [0] [Res.own e (.vs vs)]++[Res.abs (Aa [⟨.slice A vs.length cap,vs.length,vs⟩])]) [1] [.abs (Aa [⟨.slice A vs.length cap,vs.length,vs⟩])]:=by
  simp only[push_cast]
 obtain⟨h5,_⟩:=hp.sel hle (by simp only[push_cast]) (fun r hr=>by rw[List.mem_singleton.1 hr];trivial)
 exact⟨(A,cap),_,⟨h2,h3⟩,rfl,h5⟩
end
theorem Ac0 (l:List PlS):∀(k:Nat) (q:Int) (acc:List Int),(D6 l k q acc).length≤acc.length+k
 |0,q,acc=>by simp [D6]
 |k+1,q,acc=>by
  rw[D6]
  by_cases h:0≤q
  ·rw[if_pos h]
   refine Nat.le_trans (Ac0 l k _ _) ?_
   rw[List.length_append]
   show acc.length+1+k≤_
   omega
  ·rw[if_neg h]
   omega
def Eo (c:CfS) (p gen:Int):Bool:=cfF c&&decide (1≤gen∧gen≤1073741824)&&decide (0≤p∧p < c.places.length)&&decide (0≤Cb c p)
def nwA (r:LfR):List At:=[.v (.int .i64 r.place),.v (.int .i64 r.gen),.v (.int .i64 r.dim),.v (.int .i64 r.term),.v (.int .i64 r.need),.v (.int .i64 r.parent),.v r.above.val,.v r.group.val,.v (.int .i64 r.phase),.v r.waits.val,.v (.pointer none),.v r.joined.val,.o 2,.o 3,.o 4]++mgA r.sum
def nwB (g:Nat) (r:LfR):List Res:=[.pin g 104 (.c (nwA r)),.abs (Aa []),.mp .i64 (puE r.pub),bxR r,.mp .i64 (slE r.rows)]
theorem Wm (g:Nat) (r:LfR):∀x∈nwB g r,Res.bnd (nwB g r).length x:=by
 unfold nwB nwA
 simp (maxSteps:=10^6) only[↓List.forall_mem_cons,↓List.forall_mem_append,↓Ad,↓Af,push_cast,Nat.reduceLT,Nat.reduceAdd]
attribute [local irreducible] Ah Ai Am Bc A7 Ay Ap A6
set_option maxRecDepth 100000 in
theorem A7o (r:LfR) (l:List Int) (A:Option Addr) (c:Nat) {g:Nat} {w:World} {B:Nat→Prop} {γ:List Nm} (hS:Sat w B γ (nwB g r) w) (hf:FW w B A (l.map (Value.int .i64))) (hc:l.length≤c) (hl:l.length≤1000) (h1:Br (-1) l=true) (h2:1≤r.need∧r.need≤l.length) (h3:1≤r.term∧r.term≤1000) (hsm:r.sum.sm.length=32):
  Calls Tryz.prog 53 (List.map (Sv.val (γ++[.m (.bool true) (fun _=>False)])) [.x (.a (.p 0 0)),.x (.a (.v (.slice A l.length c)))]).toArray w fun e w'=>∃(x:Option Addr×Nat) (γ1:List Nm),l.length≤x.2∧e=.returned ((Sv.t []).val γ1)∧Sat w B γ1 (H6 g r l x.1 x.2) w':=by
 have gl:=Aw hsm
 refine Ci (n:=25) (ι:=Option Addr×Nat) (fun x=>l.length≤x.2) (fun _=>.t []) (fun x=>H6 g r l x.1 x.2) Tryz.func53 rfl Tryz.ntmps53 _ (hS.fct0 (Wm g r)) (by simp) ?_
 unfold nwB nwA
 simp (maxSteps:=10^6) only[push_cast,↓reduceIte,reduceCtorEq,Nat.reduceEqDiff,Nat.reduceLT,Nat.reduceAdd]
 (repeat (refine And.intro (by first|omega|decide) ?_))
 refine Kx 5 (vs:=l.map (Value.int .i64)) rfl rfl Ew rfl (V7 (l:=l) hl (Di hf _ _ (by simp) hc)) (Ae rfl) (by simp (maxSteps:=10^6) only[↓List.forall_mem_cons,↓Ad,↓Af,push_cast,Nat.reduceLT,Nat.reduceAdd]) ?_
 intro A1 cap1 b1 _
 rw[List.length_map] at b1
 simp (maxSteps:=10^6) only[List.length_map,undef,push_cast,↓reduceIte,reduceCtorEq,Nat.reduceEqDiff,Nat.reduceLT,Nat.reduceAdd]
 refine⟨by omega,?_⟩
 refine Aax 6 [0] (.rd 0 (.rd 1 (.rd 2 (.rd 3 (.rd 4 (.rd 6 (.rd 7 (.rd 8 (.fk 5 (.wr 9 (.wr 10 (.rd 11 (.rd 12 (.rd 13 (.rd 14 (.rd 15 (.wr 16 .nil)))))))) 9 (.wr 5 (.wr 10 (.rd 11 (.rd 12 (.rd 13 (.rd 14 (.rd 15 (.wr 16 .nil))))))))))))))))) ⟨[],[.pin g 104 (.c (.v (.int .i64 r.place):: .v (.int .i64 r.gen):: .v (.int .i64 r.dim):: .v (.int .i64 r.term):: .v (.int .i64 r.need):: .v (.int .i64 r.parent):: .v r.above.val:: .v r.group.val:: .v (.int .i64 r.phase):: .v (.slice A1 l.length cap1):: .p 6 0:: .v r.joined.val:: .o 2:: .o 3:: .o 4::mgA r.sum)),.abs (Aa []),.mp .i64 (puE r.pub),bxR r,.mp .i64 (slE r.rows),.abs (Aa [⟨.slice A1 l.length cap1,l.length,l.map (Value.int .i64)⟩]),
  .blk 170 (.c [.o 7,.v (.slice none 0 0),.v (.slice none 0 0),.v (.int .i64 r.need),.v (.int .i64 r.term),.v (.int .i64 0)]),.own 3 (.i64 l)]⟩ (by kernel_rfl) (by kernel_rfl) (by kernel_rfl) (Nat.le_refl 6) ?_ ?_
 ·simp (maxSteps:=10^6) only[gl,undef,push_cast,↓reduceIte,reduceCtorEq,Nat.reduceEqDiff,Nat.reduceLT,Nat.reduceAdd,Nat.reduceSub]
  constructor
  all_goals
   refine L7 rfl Zq rfl (Abw (l:=l) r.need r.term hl (Di hf _ _ (by simp) hc) (by simp (maxSteps:=10^6) only[↓List.forall_mem_cons,↓Ad,↓Af,push_cast,Nat.reduceLT,Nat.reduceAdd]) h1 h2 h3) (Ae rfl) (fun _=>by simp (maxSteps:=10^6) only[↓List.forall_mem_cons,↓Ad,↓Af,push_cast,Nat.reduceLT,Nat.reduceAdd]) rfl ?_
   simp (maxSteps:=10^6) only[gl,undef,push_cast,↓reduceIte,reduceCtorEq,Nat.reduceEqDiff,Nat.reduceLT,Nat.reduceAdd,Nat.reduceSub]
   (repeat (refine And.intro (by first|omega|decide) ?_))
   refine Dd [0,1,2,3,4,5,6,7] ?_
   simp (maxSteps:=10^6) only[↓List.forall_mem_cons,↓Ad,↓Af,↓Ax,Au,push_cast,reduceCtorEq,Nat.reduceEqDiff,Nat.reduceLT,Nat.reduceAdd]
 ·simp (maxSteps:=10^6) only[push_cast]
  refine⟨(A1,cap1),b1,A9 [0,6,2,3,4,5,7] ?_⟩
  unfold H6 lfA
  simp (maxSteps:=10^6) only[SlV.val,↓List.forall_mem_cons,↓List.forall_mem_append,↓Ad,↓Af,↓Ax,Au,push_cast,↓reduceIte,reduceCtorEq,Nat.reduceEqDiff,Nat.reduceLT,Nat.reduceAdd]
theorem A7p (r:LfR) (l:List Int) (A:Option Addr) (c:Nat) {g:Nat} {w:World} {B:Nat→Prop} {γ:List Nm} {Fs:List Fct} (hS:Sat w B γ (nwB g r) w) (ok:LfOk Fs r) (hf:FW w B A (l.map (Value.int .i64))) (hc:l.length≤c) (hl:l.length≤1000) (h1:Br (-1) l=true) (h2:1≤r.need∧r.need≤l.length) (h3:1≤r.term∧r.term≤1000):
  Calls Tryz.prog 53 #[.pointer (some ⟨g,0,none⟩),.slice A l.length c] w fun e w'=>∃(x:LfR×List Fct) (γ1:List Nm),(x.1.s=r.s.wait l∧x.1.live=r.live∧LfOk (Fs++x.2) x.1)∧e=.returned (.tuple #[])∧Sat w B γ1 (lfB g x.1++[.abs (Aa x.2)]) w':=by
 have hg:nmB (γ++[Nm.m (.bool true) (fun _=>False)]) 0=g:=by
  obtain⟨q1,q2,_⟩:=hS.holds 0 (.pin g 104 (.c (nwA r))) rfl
  rw[←q2]
  exact Dw (by rw[hS.len];show 0 < 5;omega)
 have h0:=A7o r l A c hS hf hc hl h1 h2 h3 ok.sum.s
 have e0:(List.map (Sv.val (γ++[Nm.m (.bool true) (fun _=>False)])) [Sv.x (.a (.p 0 0)),.x (.a (.v (.slice A l.length c)))]).toArray=#[.pointer (some ⟨g,0,none⟩),.slice A l.length c]:=by
  show #[Value.pointer (some ⟨nmB _ 0,0,none⟩),_]=_
  rw[hg]
  rfl
 rw[e0] at h0
 refine h0.mono fun e w' ⟨⟨A1,cap1⟩,γ1,hb,he,hS1⟩=>?_
 dsimp only at hb hS1
 obtain⟨A2,cap2,γ2,x1,x2,eB,eS,h4⟩:=hS1.ownFs (j:=6) (k:=5) (c:=.i64 l) (vs:=l.map (Value.int .i64)) (l:=[⟨.slice A1 l.length cap1,l.length,l.map (Value.int .i64)⟩]) rfl rfl (by decide) (fun _=>rfl)
 rw[List.length_map] at h4 x2
 have h5:Sat w B γ2 ((lfB g (G8 r l A1 cap1 A2 cap2)++[.abs (Aa (Jt l A1 cap1 A2 cap2))])++[.gone]) w':=by
  have e:((H6 g r l A1 cap1).map (Res.sub 6 (.slice A2 l.length cap2))).set 6 .gone=[.pin g 104 (.c (lfA (G8 r l A1 cap1 A2 cap2))),.blk 170 (.c (tlA (G8 r l A1 cap1 A2 cap2).ty)),.mp .i64 (puE r.pub),bxR r,.mp .i64 (slE r.rows),.abs (Aa [⟨.slice A1 l.length cap1,l.length,l.map (Value.int .i64)⟩]),.gone]:=by
   have e1:(lfA {r with waits:=⟨A1,cap1,l⟩}).map (At.sub 6 (.slice A2 l.length cap2))=lfA (G8 r l A1 cap1 A2 cap2):=by
    unfold lfA
    rw[List.map_append,Ip]
    rfl
   unfold H6
   simp only[List.map_cons,List.map_nil,↓Io,Res.sub,Cont.sub,Hz,Gg,e1,List.set_cons_succ,List.set_cons_zero]
   rfl
  rw[e] at h4
  exact h4
 exact⟨(G8 r l A1 cap1 A2 cap2,Jt l A1 cap1 A2 cap2),_,⟨rfl,rfl,Ab5 ok l hl A1 cap1 A2 cap2⟩,he,h5.frontOf (Ju g _ _)⟩
end Go.Proofs.YtedaafmfjhjfmaaGreatDoor
