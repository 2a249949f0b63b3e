import Derived.Test.YtedaafmfjhjfmaaGreatDoorShA
import Derived.Test.YtedaafmfjhjfmaaGreatDoorDrT
/- copy, as the engine sees it: onto a slice of the call's own, a part of one, or an array. No program in sight. -/
namespace Go.Proofs.YtedaafmfjhjfmaaGreatDoor
open Go.RowKit
set_option linter.unusedSimpArgs false
section
variable {P:Program} {w0 w:World} {ow:Nat→Prop} {γ:List Nm} {hp hp':List Res} {c:Prop} {v:Sv} {t:TypeId}
def Cont.lay (l:Nat):Cont→Cont→Option Cont
 | .u8 a,.u8 b=>some (.u8 (a.take l++(b++a.drop (l+b.length))))
 | .i64 a,.i64 b=>some (.i64 (a.take l++(b++a.drop (l+b.length))))
 |_,_=>none
def Res.with (hp:List Res) (k:Nat) (c:Cont):Res:=match hp[k]? with
 |some (.own e _)=>.own e c
 |some (.pin g t _)=>.pin g t c
 |some (.blk t _)=>.blk t c
 |_=>.gone
def A0q (hp:List Res):Sv→Option (Nat×Cont×Nat×Nat)
 | .x (.a (.o k))=>match hp[k]? with|some (.own _ ct)=>some (k,ct,0,ct.len)|_=>none
 | .x (.a (.z k l m))=>match hp[k]? with|some (.own _ ct)=>some (k,ct,l,m)|_=>none
 | .x (.a (.s k off m _))=>match hp[k]? with|some (.blk _ ct)=>some (k,ct,off,m)|some (.pin _ _ ct)=>some (k,ct,off,m)|_=>none
 |_=>none
def A7v (P:Program) (w0:World) (ow:Nat→Prop) (t:TypeId) (hp:List Res) (b x:Sv):R:=
 match P.underlying t with
 |some (.slice e)=>match A0q hp b,Ko w0 ow hp (P.underlying e) x with
  |some (k,ct,off,m),some (h,q)=>match q.cut 0 (min q.len m) with
   |some q'=>match ct.lay off q' with
    |some c'=>some (h∧off+m≤ct.len∧sz P e=1,.x (.a (.v (.int .i64 ((min q.len m:Nat):Int)))),hp.set k (Res.with hp k c'))
    |none=>none
   |none=>none
  |_,_=>none
 |_=>none
end
section
variable {P:Program} {w0:World} {ow:Nat→Prop} {n:Nat} {s:S}
end
end Go.Proofs.YtedaafmfjhjfmaaGreatDoor
/- What a value stands for, put together of what the call owns; a variable that leads to such a thing, handed over and come back. No program in sight. -/
namespace Go.Proofs.YtedaafmfjhjfmaaGreatDoor
open Go.RowKit
set_option linter.unusedSimpArgs false
section
variable {P:Program} {w0 w w':World} {ow:Nat→Prop} {γ:List Nm} {hp:List Res} {k:Nat}
theorem Sat.pack (hS:Sat w0 ow γ hp w) (ks:List Nat) (hbr:∀r∈hp,Res.bnd hp.length r) {R:Rep} {x:Value} {B:Nat→Prop} (hB:∀b,B b→∃(k:Nat) (r:Res),k∈ks∧hp[k]?=some r∧r.has γ k b) (hH:R.H x B w):
  Sat w0 ow (γ++[.m x B]) (Da ks hp++[.abs R]) w:=by
 have hl:=hS.len
 have hgl:=Yj ks hp
 have hgb:∀r∈Da ks hp,Res.bnd (Da ks hp).length r:=fun r hr=>by
  obtain⟨i,hi⟩:=List.getElem?_of_mem hr
  rcases Jq hi with rfl|⟨_,h⟩
  ·trivial
  ·rw[hgl];exact hbr r (List.mem_of_getElem? h)
 have hS':Sat w0 ow γ (Da ks hp) w:=by
  refine⟨hS.keeps,by rw[hgl];exact hl,fun i r hr=>?_,fun i r b hr hb=>?_,fun i j r r' b hr hr' hij hb hb'=>?_⟩
  ·rcases Jq hr with rfl|⟨_,h⟩
   ·trivial
   ·exact hS.holds i r h
  ·rcases Jq hr with rfl|⟨_,h⟩
   ·cases hb
   ·exact hS.mine i r b h hb
  ·rcases Jq hr with rfl|⟨_,h⟩
   ·cases hb
   ·rcases Jq hr' with rfl|⟨_,h'⟩
    ·cases hb'
    ·exact hS.apart i j r r' b h h' hij hb hb'
 have hnm:(γ++[Nm.m x B])[hp.length]?=some (.m x B):=by rw[←hl];simp
 have e1:nmS (γ++[Nm.m x B]) hp.length=x:=by simp [nmS,hnm]
 have e2:nmM (γ++[Nm.m x B]) hp.length=B:=by simp [nmM,hnm]
 have hlt:∀b,B b→b < w.heap.size:=fun b hb=>by
  obtain⟨k,r,_,hr,h⟩:=hB b hb
  exact (hS.mine k r b hr h).2
 refine hS'.push (X:=B) (Keeps.refl _ _) (fun b hb=>?_) hgb ?_ ?_
 ·obtain⟨k,r,hk,hr,h⟩:=hB b hb
  refine⟨(hS.mine k r b hr h).1,fun j q hq hqb=>?_⟩
  rcases Jq hq with rfl|⟨h1,h2⟩
  ·cases hqb
  ·exact hS.apart k j r q b hr h2 (fun e=>h1 (e▸hk)) h hqb
 ·rw[hgl]
  show _∧_
  rw[e1,e2]
  exact⟨hnm,hlt,hH⟩
 ·intro b hb
  rw[hgl] at hb
  have hb':nmM (γ++[Nm.m x B]) hp.length b:=hb
  rw[e2] at hb'
  exact⟨.inl hb',hlt b hb'⟩
theorem Sat.respell (hS:Sat w0 ow γ hp w) {r r':Res} (hr:hp[k]?=some r) (hh:r'.holds γ k w) (hb:r'.has γ k=r.has γ k):Sat w0 ow γ (hp.set k r') w:=by
 have hk:=Au hr
 have at_:∀(i:Nat) (q:Res),(hp.set k r')[i]?=some q→(i=k∧q=r')∨(i≠k∧hp[i]?=some q):=fun i q hq=>by
  by_cases e:k=i
  ·subst e
   rw[List.getElem?_set_self hk] at hq
   cases hq
   exact .inl ⟨rfl,rfl⟩
  ·rw[List.getElem?_set_ne e] at hq
   exact .inr ⟨fun h=>e h.symm,hq⟩
 have has_:∀(i:Nat) (q:Res) (b:Nat),(hp.set k r')[i]?=some q→q.has γ i b→∃q',hp[i]?=some q'∧q'.has γ i b:=fun i q b hq hqb=>by
  rcases at_ i q hq with ⟨rfl,rfl⟩|⟨_,h⟩
  ·exact⟨r,hr,by rw[←hb];exact hqb⟩
  ·exact⟨q,h,hqb⟩
 refine⟨hS.keeps,by simp [hS.len],fun i q hq=>?_,fun i q b hq hqb=>?_,fun i j q q' b hq hq' hij hqb hqb'=>?_⟩
 ·rcases at_ i q hq with ⟨rfl,rfl⟩|⟨_,h⟩
  ·exact hh
  ·exact hS.holds i q h
 ·obtain⟨q',h1,h2⟩:=has_ i q b hq hqb
  exact hS.mine i q' b h1 h2
 ·obtain⟨p1,h1,h2⟩:=has_ i q b hq hqb
  obtain⟨p2,h3,h4⟩:=has_ j q' b hq' hqb'
  exact hS.apart i j p1 p2 b h1 h3 hij h2 h4
theorem Sat.recell (hS:Sat w0 ow γ hp w) {t:TypeId} {c c':Cont} (hr:Cw hp[k]?=some (t,c)) (hv:c'.vals γ=c.vals γ):Sat w0 ow γ (hp.set k (E0 hp[k]? t c')) w:=by
 obtain⟨h1,h2,r0,hr0,hbl,hbl2,hput⟩:=hS.bv hr
 exact hS.respell hr0 (hput w c' (by rw[hv];exact h2)) (hbl2 c')
end
def ShV (vs:List Value) (v:Value) (B:Nat→Prop) (w:World):Prop:=∃A c,v=.slice A vs.length c∧vs.length≤c∧c≤maxLen∧RdV w w.heap.size A vs∧∀a,A=some a→B a.block
theorem ShV.keep {vs:List Value} {v:Value} {B own:Nat→Prop} {w w':World} (h:ShV vs v B w) (_hlt:∀b,B b→b < w.heap.size) (hk:Keeps own w w') (hn:∀b,B b→¬own b):ShV vs v B w':=by
 obtain⟨A,c,h1,h2,h3,h4,h5⟩:=h
 refine⟨A,c,h1,h2,h3,fun hp=>?_,h5⟩
 obtain⟨b,off,hA,hb,hc⟩:=h4 hp
 have hB:=h5 _ hA
 exact⟨b,off,hA,Nat.lt_of_lt_of_le hb hk.size,fun j u hu=>(World.cell?_of_block (hk.block b hb (hn b hB))).trans (hc j u hu)⟩
def ShR (vs:List Value):Rep where
 H v B w:=ShV vs v B w
 one:=fun {v B w} h=>by obtain⟨A,c,rfl,_⟩:=h;exact⟨rfl,trivial⟩
 keep:=fun h hlt hk hn=>h.keep hlt hk hn
theorem ShV.nil_ (B:Nat→Prop) (w:World):ShV [] (.slice none 0 0) B w:=⟨none,0,rfl,Nat.le_refl _,Nat.zero_le _,RdV.nil_,fun a h=>by cases h⟩
theorem ShV.more {vs:List Value} {v:Value} {B B':Nat→Prop} {w:World} (h:ShV vs v B w) (hB:∀b,B b→B' b):ShV vs v B' w:=by
 obtain⟨A,c,h1,h2,h3,h4,h5⟩:=h
 exact⟨A,c,h1,h2,h3,h4,fun a ha=>hB _ (h5 a ha)⟩
section
variable {P:Program} {w0:World} {ow:Nat→Prop} {n:Nat} {s s':S}
theorem A0r {id:Nat} {ops:List Oper} {K:Exit→S→Prop} (hl:Gi w0 ow n s s') (h:Ak P w0 ow n id ops s' K):Ak P w0 ow n id ops s K:=fun a w hf=>h a w (hl a w hf)
end
end Go.Proofs.YtedaafmfjhjfmaaGreatDoor
/- A nil slice of structs in a variable, told as one of the call's own. No program in sight. -/
namespace Go.Proofs.YtedaafmfjhjfmaaGreatDoor
open Go.RowKit
set_option linter.unusedSimpArgs false
set_option linter.unusedVariables false
theorem Sat.ghostN {w0 w:World} {ow:Nat→Prop} {γ:List Nm} {hp:List Res} {k i:Nat} {t e:TypeId} {m:Nat} {l:List At} {c:Cont} (hm:0 < m) (hS:Sat w0 ow γ hp w) (hr:Cw hp[k]?=some (t,.c l)) (hi:l[i]?=some (.v (.slice none 0 0))) (hc:c.len=0) (hbr:∀r∈hp,Res.bnd hp.length r):
  Sat w0 ow (γ++[.s (.slice none 0 0)]) ((hp.set k (E0 hp[k]? t (.c (l.set i (.o hp.length)))))++[.onn e m c]) w:=by
 have hl:=hS.len
 have hcv:c.vals (γ++[Nm.s (.slice none 0 0)])=[]:=by
  rw[←List.length_eq_zero_iff,Cont.len_vals,hc]
 have h1:Sat w0 ow (γ++[.s (.slice none 0 0)]) (hp++[.onn e m c]) w:=by
  refine hS.push (X:=fun _=>False) (Keeps.refl _ _) (fun b h=>h.elim) hbr ⟨by rw[Dw hl,Ax hl],?_⟩ ?_
  ·rw[Ax hl,hcv]
   exact⟨hm,0,World.ownsRow_nil w 0 e m⟩
  ·intro b hb
   simp only[Res.has,Ax hl,Value.ownBlock] at hb
   cases hb
 obtain⟨hn,hbk,r0,hr0,hbl,hbl2,hput⟩:=hS.bv hr
 have hkl:=Au hr0
 have hk2:(hp++[Res.onn e m c])[k]?=hp[k]?:=List.getElem?_append_left hkl
 have hr2:Cw (hp++[Res.onn e m c])[k]?=some (t,.c l):=by rw[hk2];exact hr
 obtain⟨hn2,hbk2,r1,hr1,hbl3,hbl4,hput2⟩:=h1.bv hr2
 have hv:(Cont.c (l.set i (.o hp.length))).vals (γ++[Nm.s (.slice none 0 0)])=(Cont.c l).vals (γ++[Nm.s (.slice none 0 0)]):=by
  simp only[Cont.vals,List.map_set]
  have e1:At.val (γ++[Nm.s (.slice none 0 0)]) (.o hp.length)=.slice none 0 0:=Ax hl _
  rw[e1]
  apply List.ext_getElem?
  intro j
  by_cases hj:i=j
  ·subst hj
   rw[List.getElem?_set]
   have hil:=Au hi
   simp only[if_true,List.length_map]
   rw[if_pos hil,List.getElem?_map,hi]
   rfl
  ·rw[List.getElem?_set_ne hj]
 have:=h1.update (r':=E0 (hp++[Res.onn e m c])[k]? t (.c (l.set i (.o hp.length)))) hr1 (b:=nmB _ k) (by rw[hbl3]) (Keeps.refl _ _) (hput2 _ _ (by rw[hv];exact hbk2)) (.inl (hbl4 _))
 rw[hk2,List.set_append_left _ _ hkl] at this
 exact this
theorem Qg {P:Program} {w0:World} {ow:Nat→Prop} {n:Nat} {c:Code} {s:S} {K:Exit→S→Prop} (k i:Nat) (t e:TypeId) (m:Nat) (l:List At) (ct:Cont) (hm:0 < m) (hr:Cw s.hp[k]?=some (t,.c l)) (hi:l[i]?=some (.v (.slice none 0 0))) (hc:ct.len=0) (hb:s.bnd)
  (h:Am P w0 ow n c ⟨s.fr,s.hp.set k (E0 s.hp[k]? t (.c (l.set i (.o s.hp.length))))++[.onn e m ct]⟩ K):Am P w0 ow n c s K:=fun a w ⟨γ,hf⟩=>
 h a w ⟨_,hf.sat.ghostN hm hr hi hc hb.2,hf.defers,hf.size,fun u sv hu=>by
  rw[hf.at_ u sv hu]
  exact (Sv.ext (by rw[hf.sat.len];exact hb.1 _ (Fr.get_mem hu))).symm⟩
end Go.Proofs.YtedaafmfjhjfmaaGreatDoor
/- Rows of structs that were built, as lists of values; groups and their clients told as one thing. No program in sight, but its types. -/
namespace Go.Proofs.YtedaafmfjhjfmaaGreatDoor
open Go.RowKit
set_option linter.unusedSimpArgs false
set_option linter.unusedVariables false
def vC (vs:List Value):List At:=vs.map At.v
theorem Aae:vC []=[]:=rfl
theorem Lb (a b:List Value):vC (a++b)=vC a++vC b:=List.map_append
theorem Ho (vs:List Value):(vC vs).length=vs.length:=List.length_map ..
theorem Lc (γ:List Nm) (vs:List Value):(vC vs).map (At.val γ)=vs:=by
 unfold vC
 rw[List.map_map]
 exact List.map_id' vs
theorem Ul (ρ:List Nat) (vs:List Value):(vC vs).map (At.ren ρ)=vC vs:=by unfold vC;rw[List.map_map];rfl
theorem Um (j:Nat) (v:Value) (vs:List Value):(vC vs).map (At.sub j v)=vC vs:=by unfold vC;rw[List.map_map];rfl
theorem Bd {Q:At→Prop} (vs:List Value):(∀x∈vC vs,Q x)=∀v∈vs,Q (.v v):=propext List.forall_mem_map
attribute [push_cast] Aae Ho Lc Ul Um Bd
def Qh (g:GrR):Fct:=⟨g.ids.val,g.ids.l.length,g.ids.l.map (Value.int .i64)⟩
def GrH (gs:List GrS) (v:Value) (B:Nat→Prop) (w:World):Prop:=∃(gR:List GrR) (A:Option Addr) (c:Nat),gR.map GrR.gr=gs∧v=.slice A gR.length c∧Fct.ok ⟨v,gR.length,gR.flatMap grV⟩ B w∧∀g∈gR,(Qh g).ok B w
def De (gs:List GrS):Rep where
 H:=GrH gs
 one h:=by obtain⟨gR,A,c,_,rfl,_⟩:=h;exact⟨rfl,trivial⟩
 keep h hb hk hn:=by
  obtain⟨gR,A,c,h1,h2,h3,h4⟩:=h
  exact⟨gR,A,c,h1,h2,h3.keep hb hk hn,fun g hg=>(h4 g hg).keep hb hk hn⟩
theorem Fct.ok.rd {f:Fct} {B:Nat→Prop} {w:World} {A:Option Addr} {c:Nat} (h:f.ok B w) (hv:f.v=.slice A f.n c) (hB:∀b,B b→b < w.heap.size):f.n≤c∧RdV w w.heap.size A f.vs:=by
 obtain⟨A',c',h1,h2,h3,h4⟩:=h
 rw[hv] at h1
 injection h1 with e1 _ e3
 subst e1 e3
 refine⟨h2,fun hp=>?_⟩
 obtain⟨b,off,e,hb,h5⟩:=h4 hp
 exact⟨b,off,e,hB b hb,h5⟩
theorem Ld {w0 w:World} {ow:Nat→Prop} {γ:List Nm} {hp:List Res} {j m:Nat} {e:TypeId} {c:Cont} {vs:List Value} {n:Nat} (hS:Sat w0 ow γ hp w) (hj:hp[j]?=some (.onn e m c)) (hv:c.vals γ=vs) (hn:vs.length=n*m):
  ∃A cap,nmS γ j=.slice A n cap∧n≤cap∧Fct.ok ⟨.slice A n cap,n,vs⟩ (fun b=>(nmS γ j).ownBlock=some b) w:=by
 have h:=(hS.holds j _ hj).2
 rw[hv] at h
 have hm:=h.1
 obtain⟨A,n',cap,h1,h2,h3,h4,h5,h6,h7⟩:=h.rd
 have:n'=n:=Nat.eq_of_mul_eq_mul_right hm (by rw[←h2,hn])
 subst this
 refine⟨A,cap,h1,h3,A,cap,rfl,h3,h4,fun hp=>?_⟩
 obtain⟨b,off,rfl,_,h8⟩:=h5 hp
 exact⟨b,off,rfl,(h6 _ rfl).2.2,h8⟩
theorem A0s {w0 w:World} {ow:Nat→Prop} {γ:List Nm} {e1 e2:TypeId} {vs:List Value} {gR:List GrR} {Fs:List Fct} (hS:Sat w0 ow γ [.onn e1 3 (.c (vC vs)),.onn e2 3 (.c (vC (gR.flatMap grV))),.abs (Aa Fs)] w) (hF:∀g∈gR,Qh g∈Fs):
  ∃γ',nmS γ' 0=nmS γ 0∧nmS γ' 1=nmS γ 1∧Sat w0 ow γ' [.onn e1 3 (.c (vC vs)),.abs (De (gR.map GrR.gr))] w:=by
 have hl:=hS.len
 have hbr:∀r∈[Res.onn e1 3 (.c (vC vs)),.onn e2 3 (.c (vC (gR.flatMap grV))),.abs (Aa Fs)],Res.bnd [Res.onn e1 3 (.c (vC vs)),.onn e2 3 (.c (vC (gR.flatMap grV))),.abs (Aa Fs)].length r:=by
  intro r hr
  simp only[List.mem_cons,List.not_mem_nil,or_false] at hr
  rcases hr with rfl|rfl|rfl
  ·show ∀x∈vC _,x.bnd 3
   rw[Bd];exact fun v _=>trivial
  ·show ∀x∈vC _,x.bnd 3
   rw[Bd];exact fun v _=>trivial
  ·trivial
 obtain⟨A,cap,h1,h2,h3⟩:=Ld (n:=gR.length) hS (j:=1) rfl (Lc γ _) (by rw[Cd Iu])
 obtain⟨_,hlt,hv,hall⟩:=hS.holds 2 _ rfl
 let B:Nat→Prop:=fun b=>(nmS γ 1).ownBlock=some b∨nmM γ 2 b
 have hH:(De (gR.map GrR.gr)).H (nmS γ 1) B w:=⟨gR,A,cap,rfl,h1,by rw[h1];exact h3.mono fun b hb=>.inl hb,fun g hg=>(hall _ (hF g hg)).mono fun b hb=>.inr hb⟩
 have h4:=hS.pack [1,2] hbr (R:=De (gR.map GrR.gr)) (x:=nmS γ 1) (B:=B) (fun b hb=>by
  rcases hb with hb|hb
  ·exact⟨1,_,by simp,rfl,hb⟩
  ·exact⟨2,_,by simp,rfl,hb⟩) hH
 have hle:Hd [0,3] (Da [1,2] [Res.onn e1 3 (.c (vC vs)),.onn e2 3 (.c (vC (gR.flatMap grV))),.abs (Aa Fs)]++[Res.abs (De (gR.map GrR.gr))]) [0,3] [.onn e1 3 (.c (vC vs)),.abs (De (gR.map GrR.gr))]:=by
  simp only[push_cast]
 obtain⟨h5,_⟩:=h4.sel hle (by simp only[push_cast,reduceCtorEq]) (by
  intro r hr
  simp only[List.mem_cons,List.not_mem_nil,or_false] at hr
  rcases hr with rfl|rfl
  ·show ∀x∈vC _,x.bnd 2
   rw[Bd];exact fun v _=>trivial
  ·trivial)
 have hl3:γ.length=3:=hl
 refine⟨_,?_,?_,h5⟩
 ·show nmS (reγ [0,3] _) 0=_
  rw[Ch (by intro k hk;rcases k with _|_|k<;>simp [rn,hl3] at hk ⊢) (by decide)]
  show nmS (γ++[_]) 0=_
  exact Cx (by omega)
 ·show nmS (reγ [0,3] _) 1=_
  rw[Ch (by intro k hk;rcases k with _|_|k<;>simp [rn,hl3] at hk ⊢) (by decide)]
  show nmS (γ++[_]) 3=_
  unfold nmS
  rw[←hl3]
  simp
end Go.Proofs.YtedaafmfjhjfmaaGreatDoor
