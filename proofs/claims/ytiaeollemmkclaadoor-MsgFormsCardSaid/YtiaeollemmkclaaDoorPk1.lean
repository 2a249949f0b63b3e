import Derived.Test.YtiaeollemmkclaaDoorCp
import Derived.Test.YtiaeollemmkclaaDoorPk0
/- What a value stands for, put together of what the call owns; a variable that leads to such a thing, handed over and come back. No program in sight. -/
namespace Go.Proofs.YtiaeollemmkclaaDoor
open Go.RowKit
set_option linter.unusedSimpArgs false
section
variable {P:Program} {w0 w w':World} {ow:Nat→Prop} {γ:List Nm} {hp:List Res} {k:Nat}
theorem Sat.pack (hS:Sat w0 ow γ hp w) (ks:List Nat) (hbr:∀r∈hp,Res.bnd hp.length r) {R:Rep} {x:Value} {B:Nat→Prop} (hB:∀b,B b→∃(k:Nat) (r:Res),k∈ks∧hp[k]?=some r∧r.has γ k b) (hH:R.H x B w):
  Sat w0 ow (γ++[.m x B]) (goneAll ks hp++[.abs R]) w:=by
 have hl:=hS.len
 have hgl:=J9 ks hp
 have hgb:∀r∈goneAll ks hp,Res.bnd (goneAll ks hp).length r:=fun r hr=>by
  obtain⟨i,hi⟩:=List.getElem?_of_mem hr
  rcases Ja hi with rfl|⟨_,h⟩
  ·trivial
  ·rw[hgl];exact hbr r (List.mem_of_getElem? h)
 have hS':Sat w0 ow γ (goneAll ks hp) w:=by
  refine⟨hS.keeps,by rw[hgl];exact hl,fun i r hr=>?_,fun i r b hr hb=>?_,fun i j r r' b hr hr' hij hb hb'=>?_⟩
  ·rcases Ja hr with rfl|⟨_,h⟩
   ·trivial
   ·exact hS.holds i r h
  ·rcases Ja hr with rfl|⟨_,h⟩
   ·cases hb
   ·exact hS.mine i r b h hb
  ·rcases Ja hr with rfl|⟨_,h⟩
   ·cases hb
   ·rcases Ja hr' with rfl|⟨_,h'⟩
    ·cases hb'
    ·exact hS.apart i j r r' b h h' hij hb hb'
 have hnm:(γ++[Nm.m x B])[hp.length]?=some (.m x B):=by rw[←hl];simp
 have e1:nmS (γ++[Nm.m x B]) hp.length=x:=by simp [nmS,hnm]
 have e2:nmM (γ++[Nm.m x B]) hp.length=B:=by simp [nmM,hnm]
 have hlt:∀b,B b→b < w.heap.size:=fun b hb=>by
  obtain⟨k,r,_,hr,h⟩:=hB b hb
  exact (hS.mine k r b hr h).2
 refine hS'.push (X:=B) (Keeps.refl _ _) (fun b hb=>?_) hgb ?_ ?_
 ·obtain⟨k,r,hk,hr,h⟩:=hB b hb
  refine⟨(hS.mine k r b hr h).1,fun j q hq hqb=>?_⟩
  rcases Ja hq with rfl|⟨h1,h2⟩
  ·cases hqb
  ·exact hS.apart k j r q b hr h2 (fun e=>h1 (e▸hk)) h hqb
 ·rw[hgl]
  show _∧_
  rw[e1,e2]
  exact⟨hnm,hlt,hH⟩
 ·intro b hb
  rw[hgl] at hb
  have hb':nmM (γ++[Nm.m x B]) hp.length b:=hb
  rw[e2] at hb'
  exact⟨.inl hb',hlt b hb'⟩
theorem Sat.respell (hS:Sat w0 ow γ hp w) {r r':Res} (hr:hp[k]?=some r) (hh:r'.holds γ k w) (hb:r'.has γ k=r.has γ k):Sat w0 ow γ (hp.set k r') w:=by
 have hk:=B8 hr
 have at_:∀(i:Nat) (q:Res),(hp.set k r')[i]?=some q→(i=k∧q=r')∨(i≠k∧hp[i]?=some q):=fun i q hq=>by
  by_cases e:k=i
  ·subst e
   rw[List.getElem?_set_self hk] at hq
   cases hq
   exact .inl ⟨rfl,rfl⟩
  ·rw[List.getElem?_set_ne e] at hq
   exact .inr ⟨fun h=>e h.symm,hq⟩
 have has_:∀(i:Nat) (q:Res) (b:Nat),(hp.set k r')[i]?=some q→q.has γ i b→∃q',hp[i]?=some q'∧q'.has γ i b:=fun i q b hq hqb=>by
  rcases at_ i q hq with ⟨rfl,rfl⟩|⟨_,h⟩
  ·exact⟨r,hr,by rw[←hb];exact hqb⟩
  ·exact⟨q,h,hqb⟩
 refine⟨hS.keeps,by simp [hS.len],fun i q hq=>?_,fun i q b hq hqb=>?_,fun i j q q' b hq hq' hij hqb hqb'=>?_⟩
 ·rcases at_ i q hq with ⟨rfl,rfl⟩|⟨_,h⟩
  ·exact hh
  ·exact hS.holds i q h
 ·obtain⟨q',h1,h2⟩:=has_ i q b hq hqb
  exact hS.mine i q' b h1 h2
 ·obtain⟨p1,h1,h2⟩:=has_ i q b hq hqb
  obtain⟨p2,h3,h4⟩:=has_ j q' b hq' hqb'
  exact hS.apart i j p1 p2 b h1 h3 hij h2 h4
theorem Sat.recell (hS:Sat w0 ow γ hp w) {t:TypeId} {c c':Cont} (hr:B3 hp[k]?=some (t,c)) (hv:c'.vals γ=c.vals γ):Sat w0 ow γ (hp.set k (bput hp[k]? t c')) w:=by
 obtain⟨h1,h2,r0,hr0,hbl,hbl2,hput⟩:=hS.bv hr
 exact hS.respell hr0 (hput w c' (by rw[hv];exact h2)) (hbl2 c')
end
def ShV (vs:List Value) (v:Value) (B:Nat→Prop) (w:World):Prop:=∃A c,v=.slice A vs.length c∧vs.length≤c∧c≤maxLen∧RdV w w.heap.size A vs∧∀a,A=some a→B a.block
theorem ShV.keep {vs:List Value} {v:Value} {B own:Nat→Prop} {w w':World} (h:ShV vs v B w) (_hlt:∀b,B b→b < w.heap.size) (hk:Keeps own w w') (hn:∀b,B b→¬own b):ShV vs v B w':=by
 obtain⟨A,c,h1,h2,h3,h4,h5⟩:=h
 refine⟨A,c,h1,h2,h3,fun hp=>?_,h5⟩
 obtain⟨b,off,hA,hb,hc⟩:=h4 hp
 have hB:=h5 _ hA
 exact⟨b,off,hA,Nat.lt_of_lt_of_le hb hk.size,fun j u hu=>(World.cell?_of_block (hk.block b hb (hn b hB))).trans (hc j u hu)⟩
def ShR (vs:List Value):Rep where
 H v B w:=ShV vs v B w
 one:=fun {v B w} h=>by obtain⟨A,c,rfl,_⟩:=h;exact⟨rfl,trivial⟩
 keep:=fun h hlt hk hn=>h.keep hlt hk hn
theorem ShV.nil_ (B:Nat→Prop) (w:World):ShV [] (.slice none 0 0) B w:=⟨none,0,rfl,Nat.le_refl _,Nat.zero_le _,RdV.nil_,fun a h=>by cases h⟩
theorem ShV.more {vs:List Value} {v:Value} {B B':Nat→Prop} {w:World} (h:ShV vs v B w) (hB:∀b,B b→B' b):ShV vs v B' w:=by
 obtain⟨A,c,h1,h2,h3,h4,h5⟩:=h
 exact⟨A,c,h1,h2,h3,h4,fun a ha=>hB _ (h5 a ha)⟩
theorem Sat.shOwn {w0 w:World} {ow:Nat→Prop} {γ:List Nm} {hp:List Res} {k:Nat} {e:TypeId} {c:Cont} {vs:List Value} (hS:Sat w0 ow γ hp w) (hr:hp[k]?=some (.own e c)) (hv:c.vals γ=vs):ShV vs (nmS γ k) ((Res.own e c).has γ k) w:=by
 obtain⟨A,cap,h1,h2,h3,h4⟩:=hS.rdOwn hr
 obtain⟨A',c',e1,_,_,_,h5⟩:=(hS.own hr).2.rd
 have hl:c.len=vs.length:=by rw[←hv,Cont.len_vals]
 rw[hv] at h4
 rw[hl] at h1 h2
 refine⟨A,cap,h1,h2,h3,h4,fun a ha=>?_⟩
 rw[h1] at e1
 injection e1 with e1 _ _
 subst e1
 exact (h5 a ha).2.2.2
section
variable {P:Program} {w0:World} {ow:Nat→Prop} {n:Nat} {s s':S}
theorem A35 {ops:List Oper} {o:Oper} {rest:List Oper} {K:S→Prop} (hl:Gn w0 ow n s s') (h:Av P w0 ow n ops o rest s' K):Av P w0 ow n ops o rest s K:=fun a w hf hw=>h a w (hl a w hf) hw
theorem A36 (k i:Nat) (t:TypeId) (l:List At) (x:Value) (R:Rep) (hr:B3 s.hp[k]?=some (t,.c l)) (hi:l[i]?=some (.v x)) (hR:∀w,R.H x (fun _=>False) w) (hb:s.bnd):
  Gn w0 ow n s ⟨s.fr,s.hp.set k (bput s.hp[k]? t (.c (l.set i (.o s.hp.length))))++[.abs R]⟩:=fun a w ⟨γ,hf⟩=>by
 have hl:=hf.sat.len
 have h1:=hf.sat.pack [] hb.2 (R:=R) (x:=x) (B:=fun _=>False) (fun b h=>h.elim) (hR w)
 have hk:k < s.hp.length:=by
  cases h:s.hp[k]? with
  |none=>rw[h] at hr;cases hr
  |some r=>exact B8 h
 have hr2:B3 (goneAll [] s.hp++[Res.abs R])[k]?=some (t,.c l):=by
  show B3 (s.hp++[Res.abs R])[k]?=_
  rw[List.getElem?_append_left hk]
  exact hr
 have hcb:(Cont.c l).bnd s.hp.length:=by
  cases h:s.hp[k]? with
  |none=>rw[h] at hr;cases hr
  |some r=>
   have:=hb.2 r (List.mem_of_getElem? h)
   rw[h] at hr
   cases r<;>simp only[B3,Option.some.injEq,Prod.mk.injEq,reduceCtorEq] at hr<;>obtain⟨rfl,rfl⟩:=hr<;>exact this
 have h2:=h1.recell (c':=.c (l.set i (.o s.hp.length))) hr2 (by
  simp only[Cont.vals,List.map_set]
  have e:(At.o s.hp.length).val (γ++[Nm.m x fun _=>False])=x:=by
   show nmS _ _=_
   unfold nmS
   rw[←hl]
   simp
  rw[e]
  have e2:(l.map (At.val (γ++[Nm.m x fun _=>False])))[i]?=some x:=by
   rw[List.getElem?_map,hi]
   rfl
  exact Pf e2)
 have e3:(goneAll [] s.hp++[Res.abs R]).set k (bput (goneAll [] s.hp++[Res.abs R])[k]? t (.c (l.set i (.o s.hp.length))))=s.hp.set k (bput s.hp[k]? t (.c (l.set i (.o s.hp.length))))++[.abs R]:=by
  show (s.hp++[Res.abs R]).set k (bput (s.hp++[Res.abs R])[k]? t _)=_
  rw[List.getElem?_append_left hk,List.set_append_left _ _ hk]
 rw[e3] at h2
 exact⟨_,h2,hf.defers,hf.size,fun u sv hu=>by
  rw[hf.at_ u sv hu]
  exact (Sv.ext (by rw[hf.sat.len];exact hb.1 _ (Fr.get_mem hu))).symm⟩
end
end Go.Proofs.YtiaeollemmkclaaDoor
/- What is written, as it lies there: fields, each behind the one ahead of it; a slice that shows bytes, and what is left of it. No program in sight. -/
namespace Go.Proofs.YtiaeollemmkclaaDoor
open Go.RowKit
set_option linter.unusedSimpArgs false
theorem Sy {m k:Nat} {r' a b:Res} {h l:List Res} (hm:h.length=m):Eo m k r' (h++a::l)=Eo m k r' (h++b::l):=by
 subst hm
 unfold Eo
 simp
theorem A37 (f:Nat→Nat) (n i d:Nat):((List.range n).map f).getD i d=if i < n then f i else d:=by
 by_cases h:i < n
 ·simp [List.getD_eq_getElem?_getD,h]
 ·simp [List.getD_eq_getElem?_getD,h]
attribute [push_cast] A37 beq_self_eq_true
def ChW (t:TypeId):List (List UInt8)→Value→(Nat→Prop)→World→Prop
 |[],v,_,_=>v=.pointer none
 |b::r,v,B,w=>∃g u s,v=.pointer (some ⟨g,0,none⟩)∧B g∧Blk w g t #[u,s]∧ShV (b.map vU8) s B w∧ChW t r u B w
theorem ChW.keep {t:TypeId} {B own:Nat→Prop} {w w':World} (hlt:∀b,B b→b < w.heap.size) (hk:Keeps own w w') (hn:∀b,B b→¬own b):∀{r:List (List UInt8)} {v:Value},ChW t r v B w→ChW t r v B w'
 |[],_,h=>h
 |_::_,_,⟨g,u,s,h1,h2,h3,h4,h5⟩=>⟨g,u,s,h1,h2,hk.blk h3 (hn g h2),h4.keep hlt hk hn,ChW.keep hlt hk hn h5⟩
theorem ChW.more {t:TypeId} {B B':Nat→Prop} {w:World} (hB:∀b,B b→B' b):∀{r:List (List UInt8)} {v:Value},ChW t r v B w→ChW t r v B' w
 |[],_,h=>h
 |_::_,_,⟨g,u,s,h1,h2,h3,h4,h5⟩=>⟨g,u,s,h1,hB g h2,h3,h4.more hB,ChW.more hB h5⟩
def ChR (t:TypeId) (r:List (List UInt8)):Rep where
 H v B w:=ChW t r v B w
 one:=fun {v B w} h=>by
  cases r with
  |nil=>obtain rfl:v=.pointer none:=h;exact⟨rfl,trivial⟩
  |cons b r=>obtain⟨g,u,s,rfl,_⟩:=h;exact⟨rfl,trivial⟩
 keep:=fun h hlt hk hn=>h.keep hlt hk hn
def Ck (r:List (List UInt8)):Nat:=r.flatten.length
def C3 (r:List (List UInt8)):List UInt8:=r.reverse.flatten
theorem Acb (b:List UInt8) (r:List (List UInt8)):C3 (b::r)=C3 r++b:=by simp [C3]
theorem Acc (p r:List (List UInt8)):C3 (p++r)=C3 r++C3 p:=by simp [C3]
theorem Wg (b:List UInt8) (r:List (List UInt8)):Ck (b::r)=b.length+Ck r:=by simp [Ck]
theorem Wh (r:List (List UInt8)):(C3 r).length=Ck r:=by
 induction r with
 |nil=>rfl
 |cons b r ih=>rw[Acb,Wg,List.length_append,ih];omega
section
variable {w0 w:World} {ow:Nat→Prop} {γ:List Nm}
theorem Sat.chain {g:Nat} {tw t e:TypeId} {r:List (List UInt8)} {b:List UInt8} {x:Value} (hS:Sat w0 ow γ [.pin g tw (.c [.p 3 0,.v x]),.abs (ChR t r),.own e (.u8 b),.blk t (.c [.o 1,.o 2])] w):
  ∃γ',Sat w0 ow γ' [.pin g tw (.c [.o 1,.v x]),.abs (ChR t (b::r))] w:=by
 have hbr:∀q∈[Res.pin g tw (.c [.p 3 0,.v x]),.abs (ChR t r),.own e (.u8 b),.blk t (.c [.o 1,.o 2])],Res.bnd [Res.pin g tw (.c [.p 3 0,.v x]),.abs (ChR t r),.own e (.u8 b),.blk t (.c [.o 1,.o 2])].length q:=by
  intro q hq
  simp only[List.mem_cons,List.not_mem_nil,or_false] at hq
  rcases hq with rfl|rfl|rfl|rfl<;>simp [Res.bnd,Cont.bnd,At.bnd]
 obtain⟨_,_,hc⟩:=hS.holds 1 _ rfl
 have hb:=hS.shOwn (k:=2) (vs:=b.map vU8) rfl rfl
 obtain⟨_,hf⟩:=hS.blk (k:=3) rfl
 obtain⟨B,hB⟩:∃B:Nat→Prop,B=fun y=>∃(k:Nat) (q:Res),k∈[1,2,3]∧[Res.pin g tw (.c [.p 3 0,.v x]),.abs (ChR t r),.own e (.u8 b),.blk t (.c [.o 1,.o 2])][k]?=some q∧q.has γ k y:=⟨_,rfl⟩
 have hH:(ChR t (b::r)).H (.pointer (some ⟨nmB γ 3,0,none⟩)) B w:=by
  refine⟨nmB γ 3,nmS γ 1,nmS γ 2,rfl,?_,hf,hb.more fun y hy=>?_,ChW.more (fun y hy=>?_) hc⟩
  ·rw[hB];exact⟨3,_,by simp,rfl,rfl⟩
  ·rw[hB];exact⟨2,_,by simp,rfl,hy⟩
  ·rw[hB];exact⟨1,_,by simp,rfl,hy⟩
 have h1:=hS.pack [1,2,3] hbr (R:=ChR t (b::r)) (x:=.pointer (some ⟨nmB γ 3,0,none⟩)) (B:=B) (fun y hy=>by rw[hB] at hy;exact hy) hH
 have hl:γ.length=4:=hS.len
 have h2:=h1.recell (k:=0) (t:=tw) (c:=.c [.p 3 0,.v x]) (c':=.c [.o 4,.v x]) rfl (by
  have e1:nmS (γ++[Nm.m (.pointer (some ⟨nmB γ 3,0,none⟩)) B]) 4=.pointer (some ⟨nmB γ 3,0,none⟩):=by
   unfold nmS;rw[←hl];simp
  have e2:nmB (γ++[Nm.m (.pointer (some ⟨nmB γ 3,0,none⟩)) B]) 3=nmB γ 3:=by
   unfold nmB;rw[List.getElem?_append_left (by omega)]
  simp only[Cont.vals,List.map_cons,List.map_nil,At.val,e1,e2])
 obtain⟨h3,_⟩:=h2.sel (ρ:=[0,4]) (hp0:=[.pin g tw (.c [.o 1,.v x]),.abs (ChR t (b::r))]) ⟨rfl,rfl,trivial⟩ ⟨⟨by decide,trivial⟩,trivial,trivial⟩ (by
  intro q hq
  simp only[List.mem_cons,List.not_mem_nil,or_false] at hq
  rcases hq with rfl|rfl<;>simp [Res.bnd,Cont.bnd,At.bnd])
 exact⟨_,h3⟩
end
def Sub (A:Option Addr) (vs:List Value) (A':Option Addr) (vs':List Value):Prop:=∀(Q:Nat→Prop) (w:World),
 (0 < vs.length→∃b off,A=some ⟨b,off,none⟩∧Q b∧∀j u,vs[j]?=some u→w.cell? ⟨b,off+j,none⟩=some u)→
 (0 < vs'.length→∃b off,A'=some ⟨b,off,none⟩∧Q b∧∀j u,vs'[j]?=some u→w.cell? ⟨b,off+j,none⟩=some u)
theorem Sub.refl (A:Option Addr) (vs:List Value):Sub A vs A vs:=fun _ _ h=>h
theorem Sub.trans {A A' A'':Option Addr} {vs vs' vs'':List Value} (h:Sub A vs A' vs') (k:Sub A' vs' A'' vs''):Sub A vs A'' vs'':=fun Q w g=>k Q w (h Q w g)
theorem Sub.nil_ (A:Option Addr) (vs:List Value):Sub A vs none []:=fun _ _ _ h=>absurd h (by simp)
theorem Sub.drop (A:Option Addr) (vs:List Value) (n cap:Nat) (h:vs.length≤cap):Sub A vs (Ch A n cap) (vs.drop n):=fun Q w g hp=>by
 have hl:0 < vs.length:=by simp at hp;omega
 have hn:n < vs.length:=by simp at hp;omega
 obtain⟨b,off,rfl,h1,h2⟩:=g hl
 refine⟨b,off+n,?_,h1,fun j u hu=>?_⟩
 ·unfold Ch
  rw[if_neg (by omega)]
  simp [Ar,Cm]
 ·rw[List.getElem?_drop] at hu
  have:=h2 (n+j) u hu
  rwa [←Nat.add_assoc] at this
theorem Sub.take (A:Option Addr) (vs:List Value) (n:Nat):Sub A vs A (vs.take n):=fun Q w g hp=>by
 obtain⟨b,off,rfl,h1,h2⟩:=g (by simp at hp;omega)
 exact⟨b,off,rfl,h1,fun j u hu=>h2 j u (by
  rw[List.getElem?_take] at hu
  split at hu
  ·exact hu
  ·cases hu)⟩
structure FW (w0:World) (ow:Nat→Prop) (A:Option Addr) (vs:List Value):Prop where
 rd:RdV w0 w0.heap.size A vs
 far:0 < vs.length→∀a,A=some a→¬ow a.block
theorem Acd {w0:World} {ow:Nat→Prop} {hp:List Res} {A:Option Addr} {vs:List Value} (h:FW w0 ow A vs) (n cap:Nat) (hn:vs.length=n) (hc:n≤cap):Cx w0 ow hp (.x (.a (.v (.slice A n cap)))) vs:=fun γ w hS=>by
 refine⟨A,cap,by rw[hn];rfl,by omega,fun hp=>?_⟩
 obtain⟨b,off,h1,h2,h3⟩:=h.rd hp
 have hno:=h.far hp _ h1
 exact⟨b,off,h1,Nat.lt_of_lt_of_le h2 hS.keeps.size,fun j u hu=>(World.cell?_of_block (hS.keeps.block b h2 hno)).trans (h3 j u hu)⟩
theorem FW.no {w0:World} {A:Option Addr} {vs:List Value} (h:RdV w0 w0.heap.size A vs):FW w0 No A vs:=⟨h,fun _ _ _ h=>h.elim⟩
theorem FW.fv {w0:World} {ow:Nat→Prop} {A:Option Addr} {vs:List Value} (h:FW w0 ow A vs):FV w0 ow A vs:=⟨h.rd,h.far⟩
theorem FM.fw {α:Type} [Inhabited α] {f:α→Value} {w0:World} {ow:Nat→Prop} {A:Option Addr} {l:List α} (h:FW w0 ow A (l.map f)):FM f w0 ow A l:=
 ⟨fun hp=>h.fv.some_ (by simpa using hp),fun i hi=>(h.fv.cell (Ff f l i hi)).1,fun i hi=>(h.fv.cell (Ff f l i hi)).2⟩
theorem Sub.fw {w0:World} {ow:Nat→Prop} {A A':Option Addr} {vs vs':List Value} (h:Sub A vs A' vs') (k:FW w0 ow A vs):FW w0 ow A' vs':=by
 have:=h (fun b=>b < w0.heap.size∧¬ow b) w0 fun hp=>by
  obtain⟨b,off,h1,h2,h3⟩:=k.rd hp
  exact⟨b,off,h1,⟨h2,k.far hp _ h1⟩,h3⟩
 refine⟨fun hp=>?_,fun hp a ha=>?_⟩
 ·obtain⟨b,off,h1,h2,h3⟩:=this hp
  exact⟨b,off,h1,h2.1,h3⟩
 ·obtain⟨b,off,h1,h2,h3⟩:=this hp
  rw[h1] at ha
  cases ha
  exact h2.2
theorem Sz {w0 w:World} {ow:Nat→Prop} {γ:List Nm} {hp:List Res} {k:Nat} {l:List Fct} {A A':Option Addr} {n c:Nat} {vs vs':List Value} (hS:Sat w0 ow γ hp w) (hk:hp[k]?=some (.abs (fctRep l))) (hf:⟨.slice A n c,n,vs⟩∈l) (hs:Sub A vs A' vs') (ks:List Nat) (hn:k∉ks)
  {X:Nat→Prop} (hX:∀b,X b→∃(k:Nat) (r:Res),k∈ks∧hp[k]?=some r∧r.has γ k b):FW w X A' vs':=by
 obtain⟨_,hlt,_,hall⟩:=hS.holds k _ hk
 obtain⟨A0,c0,h1,_,_,h4⟩:=hall _ hf
 injection h1 with h1 _ _
 subst h1
 have:=hs (nmM γ k) w h4
 refine⟨fun hp=>?_,fun hp a ha hx=>?_⟩
 ·obtain⟨b,off,h1,h2,h3⟩:=this hp
  exact⟨b,off,h1,hlt b h2,h3⟩
 ·obtain⟨b,off,h1,h2,h3⟩:=this hp
  rw[h1] at ha
  cases ha
  obtain⟨k',r,hk',hr,hb⟩:=hX _ hx
  exact hS.apart k' k r _ _ hr hk (fun e=>hn (e▸hk')) hb h2
theorem A38 {P:Program} {w0:World} {ow:Nat→Prop} {n:Nat} {ops rest:List Oper} {o:Oper} {s s':S} {K:S→Prop} (ρ:List Nat) (h:Le ρ s s') (h2:Av P w0 ow n ops o rest s' K):Av P w0 ow n ops o rest s K:=fun a w hf=>h2 a w (h.fits hf)
def Ace (w0:World) (ow:Nat→Prop) (hp:List Res) (ks:List Nat) (sv:Sv) (vs:List Value):Prop:=
 ∀γ w,Sat w0 ow γ hp w→∃A c,sv.val γ=.slice A vs.length c∧vs.length≤c∧∀X:Nat→Prop,(∀b,X b→∃(k:Nat) (r:Res),k∈ks∧hp[k]?=some r∧r.has γ k b)→FW w X A vs
theorem Wi {w0:World} {ow:Nat→Prop} {hp:List Res} {e:TypeId} {c:Cont} {vs:List Value} {m:Nat} (ks:List Nat) (hr:hp[m]?=some (.own e c)) (hv:∀γ,c.vals γ=vs) (hm:m∉ks):Ace w0 ow hp ks (.x (.a (.o m))) vs:=fun γ w hS=>by
 obtain⟨A,cap,h1,h2,h3,h4⟩:=hS.rdOwn hr
 obtain⟨A',c',e1,_,_,_,h5⟩:=(hS.own hr).2.rd
 rw[Aat hv] at h1 h2
 rw[hv γ] at h4 e1
 rw[h1] at e1
 injection e1 with e1 _ _
 subst e1
 refine⟨A,cap,h1,h2,fun X hX=>⟨h4,fun _ a ha hx=>?_⟩⟩
 obtain⟨k,r,hk,hr',hb⟩:=hX _ hx
 exact hS.apart m k _ _ a.block hr hr' (fun e=>hm (e▸hk)) (h5 a ha).2.2.2 hb
end Go.Proofs.YtiaeollemmkclaaDoor
