import Derived.Test.YtedaafmfjhjfmaaGreatDoorShA
import Derived.Test.YtedaafmfjhjfmaaGreatDoorDrT
import Derived.Test.YtedaafmfjhjfmaaGreatDoorPk0
import Derived.Test.YtedaafmfjhjfmaaGreatDoorCf1
/- copy, as the engine sees it: onto a slice of the call's own, a part of one, or an array. No program in sight. -/
namespace Go.Proofs.YtedaafmfjhjfmaaGreatDoor
open Go.RowKit
set_option linter.unusedSimpArgs false
set_option linter.unusedVariables false
section
section
variable {P:Program} {w0 w:World} {ow:Nat→Prop} {γ:List Nm} {hp hp':List Res} {c:Prop} {v:Sv} {t:TypeId}
def Cont.lay (l:Nat):Cont→Cont→Option Cont
 | .u8 a,.u8 b=>some (.u8 (a.take l++(b++a.drop (l+b.length))))
 | .i64 a,.i64 b=>some (.i64 (a.take l++(b++a.drop (l+b.length))))
 |_,_=>none
def Res.with (hp:List Res) (k:Nat) (c:Cont):Res:=match hp[k]? with
 |some (.own e _)=>.own e c
 |some (.pin g t _)=>.pin g t c
 |some (.blk t _)=>.blk t c
 |_=>.gone
def As7 (hp:List Res):Sv→Option (Nat×Cont×Nat×Nat)
 | .x (.a (.o k))=>match hp[k]? with|some (.own _ ct)=>some (k,ct,0,ct.len)|_=>none
 | .x (.a (.z k l m))=>match hp[k]? with|some (.own _ ct)=>some (k,ct,l,m)|_=>none
 | .x (.a (.s k off m _))=>match hp[k]? with|some (.blk _ ct)=>some (k,ct,off,m)|some (.pin _ _ ct)=>some (k,ct,off,m)|_=>none
 |_=>none
def A2j (P:Program) (w0:World) (ow:Nat→Prop) (t:TypeId) (hp:List Res) (b x:Sv):R:=
 match P.underlying t with
 |some (.slice e)=>match As7 hp b,Lx w0 ow hp (P.underlying e) x with
  |some (k,ct,off,m),some (h,q)=>match q.cut 0 (min q.len m) with
   |some q'=>match ct.lay off q' with
    |some c'=>some (h∧off+m≤ct.len∧sz P e=1,.x (.a (.v (.int .i64 ((min q.len m:Nat):Int)))),hp.set k (Res.with hp k c'))
    |none=>none
   |none=>none
  |_,_=>none
 |_=>none
theorem As8 {α:Type} {l:List α} {k:Nat} {r:α} (h:l[k]?=some r):l.set k r=l:=by
 obtain⟨hk,rfl⟩:=List.getElem?_eq_some_iff.1 h
 simp
end
section
variable {P:Program} {w0:World} {ow:Nat→Prop} {n:Nat} {s:S}
end
end
section
section
variable {P:Program} {w0 w w':World} {ow:Nat→Prop} {γ:List Nm} {hp:List Res} {k:Nat}
theorem Sat.pack (hS:Sat w0 ow γ hp w) (ks:List Nat) (hbr:∀r∈hp,Res.bnd hp.length r) {R:Rep} {x:Value} {B:Nat→Prop} (hB:∀b,B b→∃(k:Nat) (r:Res),k∈ks∧hp[k]?=some r∧r.has γ k b) (hH:R.H x B w):
  Sat w0 ow (γ++[.m x B]) (goneAll ks hp++[.abs R]) w:=by
 have hl:=hS.len
 have hgl:=Aa9 ks hp
 have hgb:∀r∈goneAll ks hp,Res.bnd (goneAll ks hp).length r:=fun r hr=>by
  obtain⟨i,hi⟩:=List.getElem?_of_mem hr
  rcases Kz hi with rfl|⟨_,h⟩
  ·trivial
  ·rw[hgl];exact hbr r (List.mem_of_getElem? h)
 have hS':Sat w0 ow γ (goneAll ks hp) w:=by
  refine⟨hS.keeps,by rw[hgl];exact hl,fun i r hr=>?_,fun i r b hr hb=>?_,fun i j r r' b hr hr' hij hb hb'=>?_⟩
  ·rcases Kz hr with rfl|⟨_,h⟩
   ·trivial
   ·exact hS.holds i r h
  ·rcases Kz hr with rfl|⟨_,h⟩
   ·cases hb
   ·exact hS.mine i r b h hb
  ·rcases Kz hr with rfl|⟨_,h⟩
   ·cases hb
   ·rcases Kz hr' with rfl|⟨_,h'⟩
    ·cases hb'
    ·exact hS.apart i j r r' b h h' hij hb hb'
 have hnm:(γ++[Nm.m x B])[hp.length]?=some (.m x B):=by rw[←hl];simp
 have e1:nmS (γ++[Nm.m x B]) hp.length=x:=by simp [nmS,hnm]
 have e2:nmM (γ++[Nm.m x B]) hp.length=B:=by simp [nmM,hnm]
 have hlt:∀b,B b→b < w.heap.size:=fun b hb=>by
  obtain⟨k,r,_,hr,h⟩:=hB b hb
  exact (hS.mine k r b hr h).2
 refine hS'.push (X:=B) (Keeps.refl _ _) (fun b hb=>?_) hgb ?_ ?_
 ·obtain⟨k,r,hk,hr,h⟩:=hB b hb
  refine⟨(hS.mine k r b hr h).1,fun j q hq hqb=>?_⟩
  rcases Kz hq with rfl|⟨h1,h2⟩
  ·cases hqb
  ·exact hS.apart k j r q b hr h2 (fun e=>h1 (e▸hk)) h hqb
 ·rw[hgl]
  show _∧_
  rw[e1,e2]
  exact⟨hnm,hlt,hH⟩
 ·intro b hb
  rw[hgl] at hb
  have hb':nmM (γ++[Nm.m x B]) hp.length b:=hb
  rw[e2] at hb'
  exact⟨.inl hb',hlt b hb'⟩
theorem Sat.respell (hS:Sat w0 ow γ hp w) {r r':Res} (hr:hp[k]?=some r) (hh:r'.holds γ k w) (hb:r'.has γ k=r.has γ k):Sat w0 ow γ (hp.set k r') w:=by
 have hk:=Ax hr
 have at_:∀(i:Nat) (q:Res),(hp.set k r')[i]?=some q→(i=k∧q=r')∨(i≠k∧hp[i]?=some q):=fun i q hq=>by
  by_cases e:k=i
  ·subst e
   rw[List.getElem?_set_self hk] at hq
   cases hq
   exact .inl ⟨rfl,rfl⟩
  ·rw[List.getElem?_set_ne e] at hq
   exact .inr ⟨fun h=>e h.symm,hq⟩
 have has_:∀(i:Nat) (q:Res) (b:Nat),(hp.set k r')[i]?=some q→q.has γ i b→∃q',hp[i]?=some q'∧q'.has γ i b:=fun i q b hq hqb=>by
  rcases at_ i q hq with ⟨rfl,rfl⟩|⟨_,h⟩
  ·exact⟨r,hr,by rw[←hb];exact hqb⟩
  ·exact⟨q,h,hqb⟩
 refine⟨hS.keeps,by simp [hS.len],fun i q hq=>?_,fun i q b hq hqb=>?_,fun i j q q' b hq hq' hij hqb hqb'=>?_⟩
 ·rcases at_ i q hq with ⟨rfl,rfl⟩|⟨_,h⟩
  ·exact hh
  ·exact hS.holds i q h
 ·obtain⟨q',h1,h2⟩:=has_ i q b hq hqb
  exact hS.mine i q' b h1 h2
 ·obtain⟨p1,h1,h2⟩:=has_ i q b hq hqb
  obtain⟨p2,h3,h4⟩:=has_ j q' b hq' hqb'
  exact hS.apart i j p1 p2 b h1 h3 hij h2 h4
theorem Sat.recell (hS:Sat w0 ow γ hp w) {t:TypeId} {c c':Cont} (hr:Ch hp[k]?=some (t,c)) (hv:c'.vals γ=c.vals γ):Sat w0 ow γ (hp.set k (De hp[k]? t c')) w:=by
 obtain⟨h1,h2,r0,hr0,hbl,hbl2,hput⟩:=hS.bv hr
 exact hS.respell hr0 (hput w c' (by rw[hv];exact h2)) (hbl2 c')
end
def ShV (vs:List Value) (v:Value) (B:Nat→Prop) (w:World):Prop:=∃A c,v=.slice A vs.length c∧vs.length≤c∧c≤maxLen∧RdV w w.heap.size A vs∧∀a,A=some a→B a.block
theorem ShV.keep {vs:List Value} {v:Value} {B own:Nat→Prop} {w w':World} (h:ShV vs v B w) (_hlt:∀b,B b→b < w.heap.size) (hk:Keeps own w w') (hn:∀b,B b→¬own b):ShV vs v B w':=by
 obtain⟨A,c,h1,h2,h3,h4,h5⟩:=h
 refine⟨A,c,h1,h2,h3,fun hp=>?_,h5⟩
 obtain⟨b,off,hA,hb,hc⟩:=h4 hp
 have hB:=h5 _ hA
 exact⟨b,off,hA,Nat.lt_of_lt_of_le hb hk.size,fun j u hu=>(World.cell?_of_block (hk.block b hb (hn b hB))).trans (hc j u hu)⟩
def ShR (vs:List Value):Rep where
 H v B w:=ShV vs v B w
 one:=fun {v B w} h=>by obtain⟨A,c,rfl,_⟩:=h;exact⟨rfl,trivial⟩
 keep:=fun h hlt hk hn=>h.keep hlt hk hn
theorem ShV.nil_ (B:Nat→Prop) (w:World):ShV [] (.slice none 0 0) B w:=⟨none,0,rfl,Nat.le_refl _,Nat.zero_le _,RdV.nil_,fun a h=>by cases h⟩
theorem ShV.more {vs:List Value} {v:Value} {B B':Nat→Prop} {w:World} (h:ShV vs v B w) (hB:∀b,B b→B' b):ShV vs v B' w:=by
 obtain⟨A,c,h1,h2,h3,h4,h5⟩:=h
 exact⟨A,c,h1,h2,h3,h4,fun a ha=>hB _ (h5 a ha)⟩
section
variable {P:Program} {w0:World} {ow:Nat→Prop} {n:Nat} {s s':S}
theorem Ac2 {id:Nat} {ops:List Oper} {K:Exit→S→Prop} (hl:Fh w0 ow n s s') (h:Ao P w0 ow n id ops s' K):Ao P w0 ow n id ops s K:=fun a w hf=>h a w (hl a w hf)
end
end
section
theorem Sat.ghostN {w0 w:World} {ow:Nat→Prop} {γ:List Nm} {hp:List Res} {k i:Nat} {t e:TypeId} {m:Nat} {l:List At} {c:Cont} (hm:0 < m) (hS:Sat w0 ow γ hp w) (hr:Ch hp[k]?=some (t,.c l)) (hi:l[i]?=some (.v (.slice none 0 0))) (hc:c.len=0) (hbr:∀r∈hp,Res.bnd hp.length r):
  Sat w0 ow (γ++[.s (.slice none 0 0)]) ((hp.set k (De hp[k]? t (.c (l.set i (.o hp.length)))))++[.onn e m c]) w:=by
 have hl:=hS.len
 have hcv:c.vals (γ++[Nm.s (.slice none 0 0)])=[]:=by
  rw[←List.length_eq_zero_iff,Cont.len_vals,hc]
 have h1:Sat w0 ow (γ++[.s (.slice none 0 0)]) (hp++[.onn e m c]) w:=by
  refine hS.push (X:=fun _=>False) (Keeps.refl _ _) (fun b h=>h.elim) hbr ⟨by rw[D9 hl,A5 hl],?_⟩ ?_
  ·rw[A5 hl,hcv]
   exact⟨hm,0,World.ownsRow_nil w 0 e m⟩
  ·intro b hb
   simp only[Res.has,A5 hl,Value.ownBlock] at hb
   cases hb
 obtain⟨hn,hbk,r0,hr0,hbl,hbl2,hput⟩:=hS.bv hr
 have hkl:=Ax hr0
 have hk2:(hp++[Res.onn e m c])[k]?=hp[k]?:=List.getElem?_append_left hkl
 have hr2:Ch (hp++[Res.onn e m c])[k]?=some (t,.c l):=by rw[hk2];exact hr
 obtain⟨hn2,hbk2,r1,hr1,hbl3,hbl4,hput2⟩:=h1.bv hr2
 have hv:(Cont.c (l.set i (.o hp.length))).vals (γ++[Nm.s (.slice none 0 0)])=(Cont.c l).vals (γ++[Nm.s (.slice none 0 0)]):=by
  simp only[Cont.vals,List.map_set]
  have e1:At.val (γ++[Nm.s (.slice none 0 0)]) (.o hp.length)=.slice none 0 0:=A5 hl _
  rw[e1]
  apply List.ext_getElem?
  intro j
  by_cases hj:i=j
  ·subst hj
   rw[List.getElem?_set]
   have hil:=Ax hi
   simp only[if_true,List.length_map]
   rw[if_pos hil,List.getElem?_map,hi]
   rfl
  ·rw[List.getElem?_set_ne hj]
 have:=h1.update (r':=De (hp++[Res.onn e m c])[k]? t (.c (l.set i (.o hp.length)))) hr1 (b:=nmB _ k) (by rw[hbl3]) (Keeps.refl _ _) (hput2 _ _ (by rw[hv];exact hbk2)) (.inl (hbl4 _))
 rw[hk2,List.set_append_left _ _ hkl] at this
 exact this
theorem Sg {P:Program} {w0:World} {ow:Nat→Prop} {n:Nat} {c:Code} {s:S} {K:Exit→S→Prop} (k i:Nat) (t e:TypeId) (m:Nat) (l:List At) (ct:Cont) (hm:0 < m) (hr:Ch s.hp[k]?=some (t,.c l)) (hi:l[i]?=some (.v (.slice none 0 0))) (hc:ct.len=0) (hb:s.bnd)
  (h:Aj P w0 ow n c ⟨s.fr,s.hp.set k (De s.hp[k]? t (.c (l.set i (.o s.hp.length))))++[.onn e m ct]⟩ K):Aj P w0 ow n c s K:=fun a w ⟨γ,hf⟩=>
 h a w ⟨_,hf.sat.ghostN hm hr hi hc hb.2,hf.defers,hf.size,fun u sv hu=>by
  rw[hf.at_ u sv hu]
  exact (Sv.ext (by rw[hf.sat.len];exact hb.1 _ (Fr.get_mem hu))).symm⟩
end
section
def vC (vs:List Value):List At:=vs.map At.v
theorem Ac3:vC []=[]:=rfl
theorem Ov (a b:List Value):vC (a++b)=vC a++vC b:=List.map_append
theorem Ib (vs:List Value):(vC vs).length=vs.length:=List.length_map ..
theorem Jy (γ:List Nm) (vs:List Value):(vC vs).map (At.val γ)=vs:=by
 unfold vC
 rw[List.map_map]
 exact List.map_id' vs
theorem Ac4 (ρ:List Nat) (vs:List Value):(vC vs).map (At.ren ρ)=vC vs:=by unfold vC;rw[List.map_map];rfl
theorem Si (j:Nat) (v:Value) (vs:List Value):(vC vs).map (At.sub j v)=vC vs:=by unfold vC;rw[List.map_map];rfl
theorem C6 {Q:At→Prop} (vs:List Value):(∀x∈vC vs,Q x)=∀v∈vs,Q (.v v):=propext List.forall_mem_map
attribute [push_cast] Ac3 Ib Jy Ac4 Si C6
def Sj (g:GrR):Fct:=⟨g.ids.val,g.ids.l.length,g.ids.l.map (Value.int .i64)⟩
def GrH (gs:List GrS) (v:Value) (B:Nat→Prop) (w:World):Prop:=∃(gR:List GrR) (A:Option Addr) (c:Nat),gR.map GrR.gr=gs∧v=.slice A gR.length c∧Fct.ok ⟨v,gR.length,gR.flatMap grV⟩ B w∧∀g∈gR,(Sj g).ok B w
def Fq (gs:List GrS):Rep where
 H:=GrH gs
 one h:=by obtain⟨gR,A,c,_,rfl,_⟩:=h;exact⟨rfl,trivial⟩
 keep h hb hk hn:=by
  obtain⟨gR,A,c,h1,h2,h3,h4⟩:=h
  exact⟨gR,A,c,h1,h2,h3.keep hb hk hn,fun g hg=>(h4 g hg).keep hb hk hn⟩
theorem Fct.ok.rd {f:Fct} {B:Nat→Prop} {w:World} {A:Option Addr} {c:Nat} (h:f.ok B w) (hv:f.v=.slice A f.n c) (hB:∀b,B b→b < w.heap.size):f.n≤c∧RdV w w.heap.size A f.vs:=by
 obtain⟨A',c',h1,h2,h3,h4⟩:=h
 rw[hv] at h1
 injection h1 with e1 _ e3
 subst e1 e3
 refine⟨h2,fun hp=>?_⟩
 obtain⟨b,off,e,hb,h5⟩:=h4 hp
 exact⟨b,off,e,hB b hb,h5⟩
theorem Mr {w0 w:World} {ow:Nat→Prop} {γ:List Nm} {hp:List Res} {j m:Nat} {e:TypeId} {c:Cont} {vs:List Value} {n:Nat} (hS:Sat w0 ow γ hp w) (hj:hp[j]?=some (.onn e m c)) (hv:c.vals γ=vs) (hn:vs.length=n*m):
  ∃A cap,nmS γ j=.slice A n cap∧n≤cap∧Fct.ok ⟨.slice A n cap,n,vs⟩ (fun b=>(nmS γ j).ownBlock=some b) w:=by
 have h:=(hS.holds j _ hj).2
 rw[hv] at h
 have hm:=h.1
 obtain⟨A,n',cap,h1,h2,h3,h4,h5,h6,h7⟩:=h.rd
 have:n'=n:=Nat.eq_of_mul_eq_mul_right hm (by rw[←h2,hn])
 subst this
 refine⟨A,cap,h1,h3,A,cap,rfl,h3,h4,fun hp=>?_⟩
 obtain⟨b,off,rfl,_,h8⟩:=h5 hp
 exact⟨b,off,rfl,(h6 _ rfl).2.2,h8⟩
theorem As9 {w0 w:World} {ow:Nat→Prop} {γ:List Nm} {e1 e2:TypeId} {vs:List Value} {gR:List GrR} {Fs:List Fct} (hS:Sat w0 ow γ [.onn e1 3 (.c (vC vs)),.onn e2 3 (.c (vC (gR.flatMap grV))),.abs (fctRep Fs)] w) (hF:∀g∈gR,Sj g∈Fs):
  ∃γ',nmS γ' 0=nmS γ 0∧nmS γ' 1=nmS γ 1∧Sat w0 ow γ' [.onn e1 3 (.c (vC vs)),.abs (Fq (gR.map GrR.gr))] w:=by
 have hl:=hS.len
 have hbr:∀r∈[Res.onn e1 3 (.c (vC vs)),.onn e2 3 (.c (vC (gR.flatMap grV))),.abs (fctRep Fs)],Res.bnd [Res.onn e1 3 (.c (vC vs)),.onn e2 3 (.c (vC (gR.flatMap grV))),.abs (fctRep Fs)].length r:=by
  intro r hr
  simp only[List.mem_cons,List.not_mem_nil,or_false] at hr
  rcases hr with rfl|rfl|rfl
  ·show ∀x∈vC _,x.bnd 3
   rw[C6];exact fun v _=>trivial
  ·show ∀x∈vC _,x.bnd 3
   rw[C6];exact fun v _=>trivial
  ·trivial
 obtain⟨A,cap,h1,h2,h3⟩:=Mr (n:=gR.length) hS (j:=1) rfl (Jy γ _) (by rw[Cv Jw])
 obtain⟨_,hlt,hv,hall⟩:=hS.holds 2 _ rfl
 let B:Nat→Prop:=fun b=>(nmS γ 1).ownBlock=some b∨nmM γ 2 b
 have hH:(Fq (gR.map GrR.gr)).H (nmS γ 1) B w:=⟨gR,A,cap,rfl,h1,by rw[h1];exact h3.mono fun b hb=>.inl hb,fun g hg=>(hall _ (hF g hg)).mono fun b hb=>.inr hb⟩
 have h4:=hS.pack [1,2] hbr (R:=Fq (gR.map GrR.gr)) (x:=nmS γ 1) (B:=B) (fun b hb=>by
  rcases hb with hb|hb
  ·exact⟨1,_,by simp,rfl,hb⟩
  ·exact⟨2,_,by simp,rfl,hb⟩) hH
 have hle:Ir [0,3] (goneAll [1,2] [Res.onn e1 3 (.c (vC vs)),.onn e2 3 (.c (vC (gR.flatMap grV))),.abs (fctRep Fs)]++[Res.abs (Fq (gR.map GrR.gr))]) [0,3] [.onn e1 3 (.c (vC vs)),.abs (Fq (gR.map GrR.gr))]:=by
  simp only[push_cast]
 obtain⟨h5,_⟩:=h4.sel hle (by simp only[push_cast,reduceCtorEq]) (by
  intro r hr
  simp only[List.mem_cons,List.not_mem_nil,or_false] at hr
  rcases hr with rfl|rfl
  ·show ∀x∈vC _,x.bnd 2
   rw[C6];exact fun v _=>trivial
  ·trivial)
 have hl3:γ.length=3:=hl
 refine⟨_,?_,?_,h5⟩
 ·show nmS (reγ [0,3] _) 0=_
  rw[Cx (by intro k hk;rcases k with _|_|k<;>simp [rn,hl3] at hk ⊢) (by decide)]
  show nmS (γ++[_]) 0=_
  exact Df (by omega)
 ·show nmS (reγ [0,3] _) 1=_
  rw[Cx (by intro k hk;rcases k with _|_|k<;>simp [rn,hl3] at hk ⊢) (by decide)]
  show nmS (γ++[_]) 3=_
  unfold nmS
  rw[←hl3]
  simp
end
section
theorem Ata (f:Nat→Nat) (n i d:Nat):((List.range n).map f).getD i d=if i < n then f i else d:=by
 by_cases h:i < n
 ·simp [List.getD_eq_getElem?_getD,h]
 ·simp [List.getD_eq_getElem?_getD,h]
attribute [push_cast] Ata beq_self_eq_true
def ChW (t:TypeId):List (List UInt8)→Value→(Nat→Prop)→World→Prop
 |[],v,_,_=>v=.pointer none
 |b::r,v,B,w=>∃g u s,v=.pointer (some ⟨g,0,none⟩)∧B g∧Blk w g t #[u,s]∧ShV (b.map vU8) s B w∧ChW t r u B w
theorem ChW.keep {t:TypeId} {B own:Nat→Prop} {w w':World} (hlt:∀b,B b→b < w.heap.size) (hk:Keeps own w w') (hn:∀b,B b→¬own b):∀{r:List (List UInt8)} {v:Value},ChW t r v B w→ChW t r v B w'
 |[],_,h=>h
 |_::_,_,⟨g,u,s,h1,h2,h3,h4,h5⟩=>⟨g,u,s,h1,h2,hk.blk h3 (hn g h2),h4.keep hlt hk hn,ChW.keep hlt hk hn h5⟩
theorem ChW.more {t:TypeId} {B B':Nat→Prop} {w:World} (hB:∀b,B b→B' b):∀{r:List (List UInt8)} {v:Value},ChW t r v B w→ChW t r v B' w
 |[],_,h=>h
 |_::_,_,⟨g,u,s,h1,h2,h3,h4,h5⟩=>⟨g,u,s,h1,hB g h2,h3,h4.more hB,ChW.more hB h5⟩
def ChR (t:TypeId) (r:List (List UInt8)):Rep where
 H v B w:=ChW t r v B w
 one:=fun {v B w} h=>by
  cases r with
  |nil=>obtain rfl:v=.pointer none:=h;exact⟨rfl,trivial⟩
  |cons b r=>obtain⟨g,u,s,rfl,_⟩:=h;exact⟨rfl,trivial⟩
 keep:=fun h hlt hk hn=>h.keep hlt hk hn
def A2k (r:List (List UInt8)):Nat:=r.flatten.length
def A2l (r:List (List UInt8)):List UInt8:=r.reverse.flatten
section
variable {w0 w:World} {ow:Nat→Prop} {γ:List Nm}
end
def Sub (A:Option Addr) (vs:List Value) (A':Option Addr) (vs':List Value):Prop:=∀(Q:Nat→Prop) (w:World),
 (0 < vs.length→∃b off,A=some ⟨b,off,none⟩∧Q b∧∀j u,vs[j]?=some u→w.cell? ⟨b,off+j,none⟩=some u)→
 (0 < vs'.length→∃b off,A'=some ⟨b,off,none⟩∧Q b∧∀j u,vs'[j]?=some u→w.cell? ⟨b,off+j,none⟩=some u)
theorem Sub.refl (A:Option Addr) (vs:List Value):Sub A vs A vs:=fun _ _ h=>h
theorem Sub.trans {A A' A'':Option Addr} {vs vs' vs'':List Value} (h:Sub A vs A' vs') (k:Sub A' vs' A'' vs''):Sub A vs A'' vs'':=fun Q w g=>k Q w (h Q w g)
theorem Sub.nil_ (A:Option Addr) (vs:List Value):Sub A vs none []:=fun _ _ _ h=>absurd h (by simp)
theorem Sub.drop (A:Option Addr) (vs:List Value) (n cap:Nat) (h:vs.length≤cap):Sub A vs (Lo A n cap) (vs.drop n):=fun Q w g hp=>by
 have hl:0 < vs.length:=by simp at hp;omega
 have hn:n < vs.length:=by simp at hp;omega
 obtain⟨b,off,rfl,h1,h2⟩:=g hl
 refine⟨b,off+n,?_,h1,fun j u hu=>?_⟩
 ·unfold Lo
  rw[if_neg (by omega)]
  simp [Af,Bu]
 ·rw[List.getElem?_drop] at hu
  have:=h2 (n+j) u hu
  rwa [←Nat.add_assoc] at this
theorem Sub.take (A:Option Addr) (vs:List Value) (n:Nat):Sub A vs A (vs.take n):=fun Q w g hp=>by
 obtain⟨b,off,rfl,h1,h2⟩:=g (by simp at hp;omega)
 exact⟨b,off,rfl,h1,fun j u hu=>h2 j u (by
  rw[List.getElem?_take] at hu
  split at hu
  ·exact hu
  ·cases hu)⟩
structure FW (w0:World) (ow:Nat→Prop) (A:Option Addr) (vs:List Value):Prop where
 rd:RdV w0 w0.heap.size A vs
 far:0 < vs.length→∀a,A=some a→¬ow a.block
theorem Dq {w0:World} {ow:Nat→Prop} {hp:List Res} {A:Option Addr} {vs:List Value} (h:FW w0 ow A vs) (n cap:Nat) (hn:vs.length=n) (hc:n≤cap):Bg w0 ow hp (.x (.a (.v (.slice A n cap)))) vs:=fun γ w hS=>by
 refine⟨A,cap,by rw[hn];rfl,by omega,fun hp=>?_⟩
 obtain⟨b,off,h1,h2,h3⟩:=h.rd hp
 have hno:=h.far hp _ h1
 exact⟨b,off,h1,Nat.lt_of_lt_of_le h2 hS.keeps.size,fun j u hu=>(World.cell?_of_block (hS.keeps.block b h2 hno)).trans (h3 j u hu)⟩
theorem FW.no {w0:World} {A:Option Addr} {vs:List Value} (h:RdV w0 w0.heap.size A vs):FW w0 No A vs:=⟨h,fun _ _ _ h=>h.elim⟩
theorem FW.fv {w0:World} {ow:Nat→Prop} {A:Option Addr} {vs:List Value} (h:FW w0 ow A vs):FV w0 ow A vs:=⟨h.rd,h.far⟩
theorem FM.fw {α:Type} [Inhabited α] {f:α→Value} {w0:World} {ow:Nat→Prop} {A:Option Addr} {l:List α} (h:FW w0 ow A (l.map f)):FM f w0 ow A l:=
 ⟨fun hp=>h.fv.some_ (by simpa using hp),fun i hi=>(h.fv.cell (D8 f l i hi)).1,fun i hi=>(h.fv.cell (D8 f l i hi)).2⟩
theorem Sub.fw {w0:World} {ow:Nat→Prop} {A A':Option Addr} {vs vs':List Value} (h:Sub A vs A' vs') (k:FW w0 ow A vs):FW w0 ow A' vs':=by
 have:=h (fun b=>b < w0.heap.size∧¬ow b) w0 fun hp=>by
  obtain⟨b,off,h1,h2,h3⟩:=k.rd hp
  exact⟨b,off,h1,⟨h2,k.far hp _ h1⟩,h3⟩
 refine⟨fun hp=>?_,fun hp a ha=>?_⟩
 ·obtain⟨b,off,h1,h2,h3⟩:=this hp
  exact⟨b,off,h1,h2.1,h3⟩
 ·obtain⟨b,off,h1,h2,h3⟩:=this hp
  rw[h1] at ha
  cases ha
  exact h2.2
theorem Atb {w0 w:World} {ow:Nat→Prop} {γ:List Nm} {hp:List Res} {k:Nat} {l:List Fct} {A A':Option Addr} {n c:Nat} {vs vs':List Value} (hS:Sat w0 ow γ hp w) (hk:hp[k]?=some (.abs (fctRep l))) (hf:⟨.slice A n c,n,vs⟩∈l) (hs:Sub A vs A' vs') (ks:List Nat) (hn:k∉ks)
  {X:Nat→Prop} (hX:∀b,X b→∃(k:Nat) (r:Res),k∈ks∧hp[k]?=some r∧r.has γ k b):FW w X A' vs':=by
 obtain⟨_,hlt,_,hall⟩:=hS.holds k _ hk
 obtain⟨A0,c0,h1,_,_,h4⟩:=hall _ hf
 injection h1 with h1 _ _
 subst h1
 have:=hs (nmM γ k) w h4
 refine⟨fun hp=>?_,fun hp a ha hx=>?_⟩
 ·obtain⟨b,off,h1,h2,h3⟩:=this hp
  exact⟨b,off,h1,hlt b h2,h3⟩
 ·obtain⟨b,off,h1,h2,h3⟩:=this hp
  rw[h1] at ha
  cases ha
  obtain⟨k',r,hk',hr,hb⟩:=hX _ hx
  exact hS.apart k' k r _ _ hr hk (fun e=>hn (e▸hk')) hb h2
def A2m (w0:World) (ow:Nat→Prop) (hp:List Res) (ks:List Nat) (sv:Sv) (vs:List Value):Prop:=
 ∀γ w,Sat w0 ow γ hp w→∃A c,sv.val γ=.slice A vs.length c∧vs.length≤c∧∀X:Nat→Prop,(∀b,X b→∃(k:Nat) (r:Res),k∈ks∧hp[k]?=some r∧r.has γ k b)→FW w X A vs
end
section
theorem Sat.self {w0 w:World} {ow:Nat→Prop} {γ:List Nm} {hp:List Res} (hS:Sat w0 ow γ hp w):Sat w (fun b=>∃(k:Nat) (r:Res),hp[k]?=some r∧r.has γ k b) γ hp w:=
 ⟨Keeps.refl _ _,hS.len,hS.holds,fun k r b hr hb=>⟨.inl ⟨k,r,hr,hb⟩,(hS.mine k r b hr hb).2⟩,hS.apart⟩
theorem Sat.in_ {w:World} {B:Nat→Prop} {γ:List Nm} {hp:List Res} (hS:Sat w B γ hp w) {k:Nat} {r:Res} {b:Nat} (hr:hp[k]?=some r) (hb:r.has γ k b):B b:=by
 obtain⟨h1,h2⟩:=hS.mine k r b hr hb
 rcases h1 with h|h
 ·exact h
 ·omega
def Atc {ι:Type} (P:ι→Prop) (hb:ι→List Res) (v:Value) (B:Nat→Prop) (w:World):Prop:=v=.bool true∧∃(i:ι) (γ:List Nm),P i∧Sat w B γ (hb i) w
def Ac5 {ι:Type} (P:ι→Prop) (hb:ι→List Res):Rep where
 H:=Atc P hb
 one:=fun⟨h,_⟩=>by subst h;exact⟨rfl,trivial⟩
 keep:=fun {v B own w w'} ⟨h,i,γ,hp,hS⟩ hlt hk hn=>by
  refine⟨h,i,γ,hp,Keeps.refl _ _,hS.len,fun k r hr=>Res.holds_keep (hS.holds k r hr) hk (fun b hb=>hn b (hS.in_ hr hb)),fun k r b hr hb=>⟨.inl (hS.in_ hr hb),Nat.lt_of_lt_of_le (hS.mine k r b hr hb).2 hk.size⟩,hS.apart⟩
section
variable {w0 w:World} {ow:Nat→Prop} {γ:List Nm} {hp:List Res} {ι:Type} {P:ι→Prop} {hb:ι→List Res}
theorem Sat.box (hS:Sat w0 ow γ hp w) (ks:List Nat) (hbr:∀r∈hp,Res.bnd hp.length r) {ρ:List Nat} {i:ι} (hle:Ir ρ hp ρ (hb i)) (hn:L6 ρ) (hbb:∀r∈hb i,Res.bnd (hb i).length r) (hks:∀k,k∈ks↔k∈ρ) (hP:P i):
  ∃B,Sat w0 ow (γ++[.m (.bool true) B]) (goneAll ks hp++[.abs (Ac5 P hb)]) w:=by
 obtain⟨h1,h2⟩:=hS.sel hle hn hbb
 have h3:=h1.self
 refine⟨fun b=>∃(k:Nat) (r:Res),(hb i)[k]?=some r∧r.has (reγ ρ γ) k b,?_⟩
 refine hS.pack ks hbr (R:=Ac5 P hb) (x:=.bool true) (B:=fun b=>∃(k:Nat) (r:Res),(hb i)[k]?=some r∧r.has (reγ ρ γ) k b) (fun b ⟨k,r,hr,hbk⟩=>?_) ⟨rfl,i,_,hP,h3⟩
 obtain⟨hlen,hget⟩:=Jl hle
 have hkl:k < ρ.length:=by rw[hlen];exact Ax hr
 rw[Res.ren_has h2 hkl] at hbk
 have e:rn ρ k=ρ[k]:=by simp [rn,List.getD_eq_getElem?_getD,List.getElem?_eq_getElem hkl]
 exact⟨rn ρ k,_,(hks _).2 (by rw[e];exact List.getElem_mem hkl),hget k r hr,hbk⟩
end
end
section
section
variable {P:Program} {w0:World} {ow:Nat→Prop} {n:Nat}
theorem Ac6 {ι:Type} (Q:ι→Prop) (sv:ι→Sv) (hq:ι→List Res) {ops:List Oper} {o:Oper} {rest:List Oper} {f:FuncId} {xs:List Operand} {tys:Array TypeId} {s:S} {svs:List Sv} {K:S→Prop} (ho:o.op=.call {callee:=.value (.func f),args:=xs.toArray,argTypes:=tys})
  (hcb:Ac P f) (hev:evs s.fr xs=some svs) (hc:∀γ w,Sat w0 ow γ s.hp w→Calls P f (svs.map (Sv.val γ)).toArray w fun e w'=>∃i δ,Q i∧e=.returned ((sv i).val (γ++δ))∧Sat w0 ow (γ++δ) (hq i) w') (hd:dOk n o.dst) (hb:s.bnd)
  (h:∀i,Q i→Ai P w0 ow n ops rest (S.put ⟨s.fr,hq i⟩ o.dst (sv i)) K):Ah P w0 ow n ops o rest s K:=by
 rintro a w ⟨γ,hfit⟩ hw
 unfold wpList
 rw[if_pos hw]
 refine .inl ?_
 unfold Oper.wp
 rw[Io ho rfl hcb (args:=(svs.map (Sv.val γ)).toArray) (by rw[List.map_toArray,Gk hfit hev])]
 simp only[Oper.upon]
 refine (hc γ w hfit.sat).mono ?_
 rintro e w' ⟨i,δ,hi,rfl,hS'⟩
 refine C4 rest _ _ _ (h i hi) ⟨_,hfit.put hS' (fun t sv' ht=>?_) hd rfl⟩
 exact Sv.ext (by rw[hfit.sat.len];exact hb.1 _ (Fr.get_mem ht))
end
section
variable {P:Program} {w0:World} {ow:Nat→Prop} {n:Nat} {s:S} {e:TypeId} {c:Cont} {vs:List Value} {l:List Fct}
theorem Wk {a:Act} {w:World} {j k m n':Nat} (hj:s.hp[j]?=some (.onn e m c)) (hv:∀γ,c.vals γ=vs) (hn:vs.length=n'*m) (hk:s.hp[k]?=some (.abs (fctRep l))) (hjk:j≠k) (hf:Fits w0 ow n s a w):
  ∃A cap,Fits w0 ow n (Dn j k (.slice A n' cap) (l++[⟨.slice A n' cap,n',vs⟩]) s) a w:=by
 obtain⟨γ,hf⟩:=hf
 obtain⟨A,cap,h1,_,h4⟩:=Mr hf.sat hj (hv γ) hn
 have hT:=hf.sat.sub h1
 obtain⟨γ',eB,eS,hS'⟩:=hT.absorb (j:=j) (r:=.onn e m (c.sub j _)) (by rw[List.getElem?_map,hj];rfl) (fun b=>rfl) (by rw[List.getElem?_map,hk];rfl) hjk h4
 refine⟨A,cap,γ',hS',hf.defers,hf.size,fun t sv ht=>?_⟩
 obtain⟨x,hx,rfl⟩:=Vp ht
 rw[Mf eB eS,Sv.sub_val h1]
 exact hf.at_ t x hx
end
section
end
theorem Sk {w0:World} {ow:Nat→Prop} {n:Nat} {s:S} (j k:Nat) {F1 F2:List Fct} (hj:s.hp[j]?=some (.abs (fctRep F1))) (hk:s.hp[k]?=some (.abs (fctRep F2))) (hb:s.bnd):
  Fh w0 ow n s ⟨s.fr,goneAll [j,k] s.hp++[.abs (fctRep (F1++F2))]⟩:=fun a w ⟨γ,hf⟩=>by
 have hS:=hf.sat
 obtain⟨_,lt1,h1,a1⟩:=hS.holds j _ hj
 obtain⟨_,lt2,h2,a2⟩:=hS.holds k _ hk
 have:=hS.pack [j,k] hb.2 (R:=fctRep (F1++F2)) (x:=.bool true) (B:=fun b=>nmM γ j b∨nmM γ k b) (fun b hb=>by
  rcases hb with hb|hb
  ·exact⟨j,_,by simp,hj,hb⟩
  ·exact⟨k,_,by simp,hk,hb⟩) ⟨rfl,fun f hf=>by
   rcases List.mem_append.1 hf with hf|hf
   ·exact (a1 f hf).mono fun b hb=>.inl hb
   ·exact (a2 f hf).mono fun b hb=>.inr hb⟩
 exact⟨_,this,hf.defers,hf.size,fun u sv hu=>by
  rw[hf.at_ u sv hu]
  exact (Sv.ext (by rw[hf.sat.len];exact hb.1 _ (Fr.get_mem hu))).symm⟩
theorem Atd {w0:World} {ow:Nat→Prop} {n:Nat} {s:S} {ι:Type} {I:ι→S} {Inv:ι→Prop} {μ:ι→Nat} {i:ι} {K:Exit→S→Prop} (j k:Nat) {F1 F2:List Fct} (hj:s.hp[j]?=some (.abs (fctRep F1))) (hk:s.hp[k]?=some (.abs (fctRep F2))) (hb:s.bnd)
  (h:Hq w0 ow n I Inv μ i K .normal ⟨s.fr,goneAll [j,k] s.hp++[.abs (fctRep (F1++F2))]⟩):Hq w0 ow n I Inv μ i K .normal s:=Ajt (Sk j k hj hk hb) h
structure MOk (Fs:List Fct) (m:MgR):Prop where
 s:m.sm.length=32
 ids:m.ids=⟨none,0,[]⟩∨(⟨m.ids.val,m.ids.l.length,m.ids.l.map (Value.int .i64)⟩:Fct)∈Fs
 ns:m.ns=⟨none,0,[]⟩∨(⟨m.ns.val,m.ns.l.length,m.ns.l.map vU64⟩:Fct)∈Fs
 ps:m.ps=⟨none,0,[]⟩∨(⟨m.ps.val,m.ps.l.length,pvs m.ps.l⟩:Fct)∈Fs
 xs:m.xs=⟨none,0,[]⟩∨(⟨m.xs.val,m.xs.l.length,m.xs.l.map Ap⟩:Fct)∈Fs
 few:m.mg.Few
theorem MOk.more {m:MgR} {Fs Gs:List Fct} (h:MOk Fs m) (hg:∀f∈Fs,f∈Gs):MOk Gs m:=
 ⟨h.s,h.ids.imp id (hg _),h.ns.imp id (hg _),h.ps.imp id (hg _),h.xs.imp id (hg _),h.few⟩
theorem Sl {α:Type} {w0 w:World} {ow:Nat→Prop} {γ:List Nm} {hp:List Res} {k:Nat} {Fs:List Fct} (hS:Sat w0 ow γ hp w) (hk:hp[k]?=some (.abs (fctRep Fs))) {s:SlV α} {vs:List Value} (hn:s=⟨none,0,[]⟩→vs=[]) (h:s=⟨none,0,[]⟩∨(⟨s.val,s.l.length,vs⟩:Fct)∈Fs) (hf:s.l.length≤1000):s.Ok vs w:=by
 rcases h with e|e
 ·rw[hn e,e];exact⟨Nat.le_refl _,Nat.zero_le _,RdV.nil_⟩
 ·obtain⟨A,c,h1,h2,_,h4⟩:=Abi hS hk e
  have h1:Value.slice s.A s.l.length s.c=.slice A s.l.length c:=h1
  injection h1 with e1 _ e3
  rw[←e3] at h2
  rw[←e1] at h4
  exact⟨h2,hf,h4⟩
theorem MOk.ok {m:MgR} {Fs:List Fct} (h:MOk Fs m) {w0 w:World} {ow:Nat→Prop} {γ:List Nm} {hp:List Res} {k:Nat} (hS:Sat w0 ow γ hp w) (hk:hp[k]?=some (.abs (fctRep Fs))):m.Ok w:=
 ⟨h.s,Sl hS hk (fun e=>by rw[e];rfl) h.ids h.few.ids,Sl hS hk (fun e=>by rw[e];rfl) h.ns h.few.ns,Sl hS hk (fun e=>by rw[e];rfl) h.ps h.few.ps,Sl hS hk (fun e=>by rw[e];rfl) h.xs h.few.xs⟩
end
end Go.Proofs.YtedaafmfjhjfmaaGreatDoor
