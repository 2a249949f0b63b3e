import Derived.Test.YtedaafmfjhjfmaaGreatDoorTs1
import Derived.Test.YtedaafmfjhjfmaaGreatDoorTn0
import Derived.Test.YtedaafmfjhjfmaaGreatDoorMg1
/- What is written, as it lies there: fields, each behind the one ahead of it; a slice that shows bytes, and what is left of it. No program in sight. -/
namespace Go.Proofs.YtedaafmfjhjfmaaGreatDoor
open Go.RowKit
set_option linter.unusedSimpArgs false
theorem A0t (f:Nat→Nat) (n i d:Nat):((List.range n).map f).getD i d=if i < n then f i else d:=by
 by_cases h:i < n
 ·simp [List.getD_eq_getElem?_getD,h]
 ·simp [List.getD_eq_getElem?_getD,h]
attribute [push_cast] A0t beq_self_eq_true
def ChW (t:TypeId):List (List UInt8)→Value→(Nat→Prop)→World→Prop
 |[],v,_,_=>v=.pointer none
 |b::r,v,B,w=>∃g u s,v=.pointer (some ⟨g,0,none⟩)∧B g∧Blk w g t #[u,s]∧ShV (b.map vU8) s B w∧ChW t r u B w
theorem ChW.keep {t:TypeId} {B own:Nat→Prop} {w w':World} (hlt:∀b,B b→b < w.heap.size) (hk:Keeps own w w') (hn:∀b,B b→¬own b):∀{r:List (List UInt8)} {v:Value},ChW t r v B w→ChW t r v B w'
 |[],_,h=>h
 |_::_,_,⟨g,u,s,h1,h2,h3,h4,h5⟩=>⟨g,u,s,h1,h2,hk.blk h3 (hn g h2),h4.keep hlt hk hn,ChW.keep hlt hk hn h5⟩
theorem ChW.more {t:TypeId} {B B':Nat→Prop} {w:World} (hB:∀b,B b→B' b):∀{r:List (List UInt8)} {v:Value},ChW t r v B w→ChW t r v B' w
 |[],_,h=>h
 |_::_,_,⟨g,u,s,h1,h2,h3,h4,h5⟩=>⟨g,u,s,h1,hB g h2,h3,h4.more hB,ChW.more hB h5⟩
def ChR (t:TypeId) (r:List (List UInt8)):Rep where
 H v B w:=ChW t r v B w
 one:=fun {v B w} h=>by
  cases r with
  |nil=>obtain rfl:v=.pointer none:=h;exact⟨rfl,trivial⟩
  |cons b r=>obtain⟨g,u,s,rfl,_⟩:=h;exact⟨rfl,trivial⟩
 keep:=fun h hlt hk hn=>h.keep hlt hk hn
def A7w (r:List (List UInt8)):Nat:=r.flatten.length
def A7x (r:List (List UInt8)):List UInt8:=r.reverse.flatten
section
variable {w0 w:World} {ow:Nat→Prop} {γ:List Nm}
end
def Sub (A:Option Addr) (vs:List Value) (A':Option Addr) (vs':List Value):Prop:=∀(Q:Nat→Prop) (w:World),
 (0 < vs.length→∃b off,A=some ⟨b,off,none⟩∧Q b∧∀j u,vs[j]?=some u→w.cell? ⟨b,off+j,none⟩=some u)→
 (0 < vs'.length→∃b off,A'=some ⟨b,off,none⟩∧Q b∧∀j u,vs'[j]?=some u→w.cell? ⟨b,off+j,none⟩=some u)
theorem Sub.refl (A:Option Addr) (vs:List Value):Sub A vs A vs:=fun _ _ h=>h
theorem Sub.trans {A A' A'':Option Addr} {vs vs' vs'':List Value} (h:Sub A vs A' vs') (k:Sub A' vs' A'' vs''):Sub A vs A'' vs'':=fun Q w g=>k Q w (h Q w g)
theorem Sub.nil_ (A:Option Addr) (vs:List Value):Sub A vs none []:=fun _ _ _ h=>absurd h (by simp)
theorem Sub.drop (A:Option Addr) (vs:List Value) (n cap:Nat) (h:vs.length≤cap):Sub A vs (Kf A n cap) (vs.drop n):=fun Q w g hp=>by
 have hl:0 < vs.length:=by simp at hp;omega
 have hn:n < vs.length:=by simp at hp;omega
 obtain⟨b,off,rfl,h1,h2⟩:=g hl
 refine⟨b,off+n,?_,h1,fun j u hu=>?_⟩
 ·unfold Kf
  rw[if_neg (by omega)]
  simp [Ag,Bg]
 ·rw[List.getElem?_drop] at hu
  have:=h2 (n+j) u hu
  rwa [←Nat.add_assoc] at this
theorem Sub.take (A:Option Addr) (vs:List Value) (n:Nat):Sub A vs A (vs.take n):=fun Q w g hp=>by
 obtain⟨b,off,rfl,h1,h2⟩:=g (by simp at hp;omega)
 exact⟨b,off,rfl,h1,fun j u hu=>h2 j u (by
  rw[List.getElem?_take] at hu
  split at hu
  ·exact hu
  ·cases hu)⟩
structure FW (w0:World) (ow:Nat→Prop) (A:Option Addr) (vs:List Value):Prop where
 rd:RdV w0 w0.heap.size A vs
 far:0 < vs.length→∀a,A=some a→¬ow a.block
theorem J3 {w0:World} {ow:Nat→Prop} {hp:List Res} {A:Option Addr} {vs:List Value} (h:FW w0 ow A vs) (n cap:Nat) (hn:vs.length=n) (hc:n≤cap):Bi w0 ow hp (.x (.a (.v (.slice A n cap)))) vs:=fun γ w hS=>by
 refine⟨A,cap,by rw[hn];rfl,by omega,fun hp=>?_⟩
 obtain⟨b,off,h1,h2,h3⟩:=h.rd hp
 have hno:=h.far hp _ h1
 exact⟨b,off,h1,Nat.lt_of_lt_of_le h2 hS.keeps.size,fun j u hu=>(World.cell?_of_block (hS.keeps.block b h2 hno)).trans (h3 j u hu)⟩
theorem FW.no {w0:World} {A:Option Addr} {vs:List Value} (h:RdV w0 w0.heap.size A vs):FW w0 No A vs:=⟨h,fun _ _ _ h=>h.elim⟩
theorem FW.fv {w0:World} {ow:Nat→Prop} {A:Option Addr} {vs:List Value} (h:FW w0 ow A vs):FV w0 ow A vs:=⟨h.rd,h.far⟩
theorem FM.fw {α:Type} [Inhabited α] {f:α→Value} {w0:World} {ow:Nat→Prop} {A:Option Addr} {l:List α} (h:FW w0 ow A (l.map f)):FM f w0 ow A l:=
 ⟨fun hp=>h.fv.some_ (by simpa using hp),fun i hi=>(h.fv.cell (Dv f l i hi)).1,fun i hi=>(h.fv.cell (Dv f l i hi)).2⟩
theorem Sub.fw {w0:World} {ow:Nat→Prop} {A A':Option Addr} {vs vs':List Value} (h:Sub A vs A' vs') (k:FW w0 ow A vs):FW w0 ow A' vs':=by
 have:=h (fun b=>b < w0.heap.size∧¬ow b) w0 fun hp=>by
  obtain⟨b,off,h1,h2,h3⟩:=k.rd hp
  exact⟨b,off,h1,⟨h2,k.far hp _ h1⟩,h3⟩
 refine⟨fun hp=>?_,fun hp a ha=>?_⟩
 ·obtain⟨b,off,h1,h2,h3⟩:=this hp
  exact⟨b,off,h1,h2.1,h3⟩
 ·obtain⟨b,off,h1,h2,h3⟩:=this hp
  rw[h1] at ha
  cases ha
  exact h2.2
theorem A0u {w0 w:World} {ow:Nat→Prop} {γ:List Nm} {hp:List Res} {k:Nat} {l:List Fct} {A A':Option Addr} {n c:Nat} {vs vs':List Value} (hS:Sat w0 ow γ hp w) (hk:hp[k]?=some (.abs (Aa l))) (hf:⟨.slice A n c,n,vs⟩∈l) (hs:Sub A vs A' vs') (ks:List Nat) (hn:k∉ks)
  {X:Nat→Prop} (hX:∀b,X b→∃(k:Nat) (r:Res),k∈ks∧hp[k]?=some r∧r.has γ k b):FW w X A' vs':=by
 obtain⟨_,hlt,_,hall⟩:=hS.holds k _ hk
 obtain⟨A0,c0,h1,_,_,h4⟩:=hall _ hf
 injection h1 with h1 _ _
 subst h1
 have:=hs (nmM γ k) w h4
 refine⟨fun hp=>?_,fun hp a ha hx=>?_⟩
 ·obtain⟨b,off,h1,h2,h3⟩:=this hp
  exact⟨b,off,h1,hlt b h2,h3⟩
 ·obtain⟨b,off,h1,h2,h3⟩:=this hp
  rw[h1] at ha
  cases ha
  obtain⟨k',r,hk',hr,hb⟩:=hX _ hx
  exact hS.apart k' k r _ _ hr hk (fun e=>hn (e▸hk')) hb h2
def A7y (w0:World) (ow:Nat→Prop) (hp:List Res) (ks:List Nat) (sv:Sv) (vs:List Value):Prop:=
 ∀γ w,Sat w0 ow γ hp w→∃A c,sv.val γ=.slice A vs.length c∧vs.length≤c∧∀X:Nat→Prop,(∀b,X b→∃(k:Nat) (r:Res),k∈ks∧hp[k]?=some r∧r.has γ k b)→FW w X A vs
end Go.Proofs.YtedaafmfjhjfmaaGreatDoor
/- An object of several variables, slices and maps, told as one thing: put into a box, and taken out of it again. No program in sight. -/
namespace Go.Proofs.YtedaafmfjhjfmaaGreatDoor
open Go.RowKit
set_option linter.unusedSimpArgs false
set_option linter.unusedVariables false
theorem Sat.self {w0 w:World} {ow:Nat→Prop} {γ:List Nm} {hp:List Res} (hS:Sat w0 ow γ hp w):Sat w (fun b=>∃(k:Nat) (r:Res),hp[k]?=some r∧r.has γ k b) γ hp w:=
 ⟨Keeps.refl _ _,hS.len,hS.holds,fun k r b hr hb=>⟨.inl ⟨k,r,hr,hb⟩,(hS.mine k r b hr hb).2⟩,hS.apart⟩
theorem Sat.in_ {w:World} {B:Nat→Prop} {γ:List Nm} {hp:List Res} (hS:Sat w B γ hp w) {k:Nat} {r:Res} {b:Nat} (hr:hp[k]?=some r) (hb:r.has γ k b):B b:=by
 obtain⟨h1,h2⟩:=hS.mine k r b hr hb
 rcases h1 with h|h
 ·exact h
 ·omega
def A0v {ι:Type} (P:ι→Prop) (hb:ι→List Res) (v:Value) (B:Nat→Prop) (w:World):Prop:=v=.bool true∧∃(i:ι) (γ:List Nm),P i∧Sat w B γ (hb i) w
def Aaf {ι:Type} (P:ι→Prop) (hb:ι→List Res):Rep where
 H:=A0v P hb
 one:=fun⟨h,_⟩=>by subst h;exact⟨rfl,trivial⟩
 keep:=fun {v B own w w'} ⟨h,i,γ,hp,hS⟩ hlt hk hn=>by
  refine⟨h,i,γ,hp,Keeps.refl _ _,hS.len,fun k r hr=>Res.holds_keep (hS.holds k r hr) hk (fun b hb=>hn b (hS.in_ hr hb)),fun k r b hr hb=>⟨.inl (hS.in_ hr hb),Nat.lt_of_lt_of_le (hS.mine k r b hr hb).2 hk.size⟩,hS.apart⟩
section
variable {w0 w:World} {ow:Nat→Prop} {γ:List Nm} {hp:List Res} {ι:Type} {P:ι→Prop} {hb:ι→List Res}
theorem Sat.box (hS:Sat w0 ow γ hp w) (ks:List Nat) (hbr:∀r∈hp,Res.bnd hp.length r) {ρ:List Nat} {i:ι} (hle:Hd ρ hp ρ (hb i)) (hn:Kw ρ) (hbb:∀r∈hb i,Res.bnd (hb i).length r) (hks:∀k,k∈ks↔k∈ρ) (hP:P i):
  ∃B,Sat w0 ow (γ++[.m (.bool true) B]) (Da ks hp++[.abs (Aaf P hb)]) w:=by
 obtain⟨h1,h2⟩:=hS.sel hle hn hbb
 have h3:=h1.self
 refine⟨fun b=>∃(k:Nat) (r:Res),(hb i)[k]?=some r∧r.has (reγ ρ γ) k b,?_⟩
 refine hS.pack ks hbr (R:=Aaf P hb) (x:=.bool true) (B:=fun b=>∃(k:Nat) (r:Res),(hb i)[k]?=some r∧r.has (reγ ρ γ) k b) (fun b ⟨k,r,hr,hbk⟩=>?_) ⟨rfl,i,_,hP,h3⟩
 obtain⟨hlen,hget⟩:=If hle
 have hkl:k < ρ.length:=by rw[hlen];exact Au hr
 rw[Res.ren_has h2 hkl] at hbk
 have e:rn ρ k=ρ[k]:=by simp [rn,List.getD_eq_getElem?_getD,List.getElem?_eq_getElem hkl]
 exact⟨rn ρ k,_,(hks _).2 (by rw[e];exact List.getElem_mem hkl),hget k r hr,hbk⟩
end
end Go.Proofs.YtedaafmfjhjfmaaGreatDoor
/- Calls whose result is one of several; facts put together; messages whose slices are facts. No program in sight, but its types. -/
namespace Go.Proofs.YtedaafmfjhjfmaaGreatDoor
open Go.RowKit
set_option linter.unusedSimpArgs false
set_option linter.unusedVariables false
section
variable {P:Program} {w0:World} {ow:Nat→Prop} {n:Nat}
theorem Un {ι:Type} (Q:ι→Prop) (sv:ι→Sv) (hq:ι→List Res) {ops:List Oper} {o:Oper} {rest:List Oper} {f:FuncId} {xs:List Operand} {tys:Array TypeId} {s:S} {svs:List Sv} {K:S→Prop} (ho:o.op=.call {callee:=.value (.func f),args:=xs.toArray,argTypes:=tys})
  (hcb:Ad P f) (hev:evs s.fr xs=some svs) (hc:∀γ w,Sat w0 ow γ s.hp w→Calls P f (svs.map (Sv.val γ)).toArray w fun e w'=>∃i δ,Q i∧e=.returned ((sv i).val (γ++δ))∧Sat w0 ow (γ++δ) (hq i) w') (hd:dOk n o.dst) (hb:s.bnd)
  (h:∀i,Q i→Ai P w0 ow n ops rest (S.put ⟨s.fr,hq i⟩ o.dst (sv i)) K):Ah P w0 ow n ops o rest s K:=by
 rintro a w ⟨γ,hfit⟩ hw
 unfold wpList
 rw[if_pos hw]
 refine .inl ?_
 unfold Oper.wp
 rw[L6 ho rfl hcb (args:=(svs.map (Sv.val γ)).toArray) (by rw[List.map_toArray,Ic hfit hev])]
 simp only[Oper.upon]
 refine (hc γ w hfit.sat).mono ?_
 rintro e w' ⟨i,δ,hi,rfl,hS'⟩
 refine C8 rest _ _ _ (h i hi) ⟨_,hfit.put hS' (fun t sv' ht=>?_) hd rfl⟩
 exact Sv.ext (by rw[hfit.sat.len];exact hb.1 _ (Fr.get_mem ht))
end
section
variable {P:Program} {w0:World} {ow:Nat→Prop} {n:Nat} {s:S} {e:TypeId} {c:Cont} {vs:List Value} {l:List Fct}
theorem Aag {a:Act} {w:World} {j k m n':Nat} (hj:s.hp[j]?=some (.onn e m c)) (hv:∀γ,c.vals γ=vs) (hn:vs.length=n'*m) (hk:s.hp[k]?=some (.abs (Aa l))) (hjk:j≠k) (hf:Fits w0 ow n s a w):
  ∃A cap,Fits w0 ow n (Gp j k (.slice A n' cap) (l++[⟨.slice A n' cap,n',vs⟩]) s) a w:=by
 obtain⟨γ,hf⟩:=hf
 obtain⟨A,cap,h1,_,h4⟩:=Ld hf.sat hj (hv γ) hn
 have hT:=hf.sat.sub h1
 obtain⟨γ',eB,eS,hS'⟩:=hT.absorb (j:=j) (r:=.onn e m (c.sub j _)) (by rw[List.getElem?_map,hj];rfl) (fun b=>rfl) (by rw[List.getElem?_map,hk];rfl) hjk h4
 refine⟨A,cap,γ',hS',hf.defers,hf.size,fun t sv ht=>?_⟩
 obtain⟨x,hx,rfl⟩:=Tu ht
 rw[Mh eB eS,Sv.sub_val h1]
 exact hf.at_ t x hx
end
section
end
structure MOk (Fs:List Fct) (m:MgR):Prop where
 s:m.sm.length=32
 ids:m.ids=⟨none,0,[]⟩∨(⟨m.ids.val,m.ids.l.length,m.ids.l.map (Value.int .i64)⟩:Fct)∈Fs
 ns:m.ns=⟨none,0,[]⟩∨(⟨m.ns.val,m.ns.l.length,m.ns.l.map vU64⟩:Fct)∈Fs
 ps:m.ps=⟨none,0,[]⟩∨(⟨m.ps.val,m.ps.l.length,pvs m.ps.l⟩:Fct)∈Fs
 xs:m.xs=⟨none,0,[]⟩∨(⟨m.xs.val,m.xs.l.length,m.xs.l.map Ap⟩:Fct)∈Fs
 few:m.mg.Few
theorem MOk.more {m:MgR} {Fs Gs:List Fct} (h:MOk Fs m) (hg:∀f∈Fs,f∈Gs):MOk Gs m:=
 ⟨h.s,h.ids.imp id (hg _),h.ns.imp id (hg _),h.ps.imp id (hg _),h.xs.imp id (hg _),h.few⟩
theorem Qi {α:Type} {w0 w:World} {ow:Nat→Prop} {γ:List Nm} {hp:List Res} {k:Nat} {Fs:List Fct} (hS:Sat w0 ow γ hp w) (hk:hp[k]?=some (.abs (Aa Fs))) {s:SlV α} {vs:List Value} (hn:s=⟨none,0,[]⟩→vs=[]) (h:s=⟨none,0,[]⟩∨(⟨s.val,s.l.length,vs⟩:Fct)∈Fs) (hf:s.l.length≤1000):s.Ok vs w:=by
 rcases h with e|e
 ·rw[hn e,e];exact⟨Nat.le_refl _,Nat.zero_le _,RdV.nil_⟩
 ·obtain⟨A,c,h1,h2,_,h4⟩:=Yt hS hk e
  have h1:Value.slice s.A s.l.length s.c=.slice A s.l.length c:=h1
  injection h1 with e1 _ e3
  rw[←e3] at h2
  rw[←e1] at h4
  exact⟨h2,hf,h4⟩
theorem MOk.ok {m:MgR} {Fs:List Fct} (h:MOk Fs m) {w0 w:World} {ow:Nat→Prop} {γ:List Nm} {hp:List Res} {k:Nat} (hS:Sat w0 ow γ hp w) (hk:hp[k]?=some (.abs (Aa Fs))):m.Ok w:=
 ⟨h.s,Qi hS hk (fun e=>by rw[e];rfl) h.ids h.few.ids,Qi hS hk (fun e=>by rw[e];rfl) h.ns h.few.ns,Qi hS hk (fun e=>by rw[e];rfl) h.ps h.few.ps,Qi hS hk (fun e=>by rw[e];rfl) h.xs h.few.xs⟩
end Go.Proofs.YtedaafmfjhjfmaaGreatDoor
