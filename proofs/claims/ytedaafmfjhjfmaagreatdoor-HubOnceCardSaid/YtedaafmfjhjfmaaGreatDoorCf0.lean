import Derived.Test.YtedaafmfjhjfmaaGreatDoorShA
import Derived.Test.YtedaafmfjhjfmaaGreatDoorSt2
import Derived.Test.YtedaafmfjhjfmaaGreatDoorPk0
/- A region that draws its order, in which what reads looks at nothing that is turned in it (only at the first m resources, but for those in G): writers may turn the others as they like, in forks. No program in sight. -/
namespace Go.Proofs.YtedaafmfjhjfmaaGreatDoor
open Go.RowKit
set_option linter.unusedSimpArgs false
set_option linter.unusedVariables false
section
def H9 (m:Nat):List Res:=List.replicate m .gone
def Bl (m:Nat) (G:List Nat) (hp:List Res):List Res:=(Bh G hp).take m++H9 (hp.length - m)
theorem Arl (hp:List Res):Bl 0 [] hp=H9 hp.length:=by unfold Bl;rw[List.take_zero,List.nil_append,Nat.sub_zero]
theorem Arm (k:Nat) (r:Res) (l:List Res):(r::l).take (k+1)=r::l.take k:=rfl
theorem Oi (m:Nat) (G:List Nat) (hp:List Res) (h:m≤hp.length):(Bl m G hp).length=hp.length:=by
 unfold Bl H9
 rw[List.length_append,List.length_take,Mb,List.length_replicate]
 omega
theorem Ach {m:Nat} {G:List Nat} {hp:List Res} {q:Nat} (h:∀r∈hp,Res.bnd q r):∀r∈Bl m G hp,Res.bnd q r:=by
 intro r hr
 rcases List.mem_append.1 hr with hr|hr
 ·exact Aap h r (List.mem_of_mem_take hr)
 ·rw[List.eq_of_mem_replicate hr];trivial
section
variable {P:Program} {w0:World} {ow:Nat→Prop} {n:Nat} {m:Nat} {G:List Nat}
theorem Oj {hp:List Res} {k:Nat} {r:Res} (h:(Bl m G hp)[k]?=some r):r=.gone∨(Bh G hp)[k]?=some r:=by
 unfold Bl H9 at h
 rw[List.getElem?_append] at h
 split at h
 ·right
  rw[List.getElem?_take] at h
  split at h
  ·exact h
  ·cases h
 ·left
  rw[List.getElem?_replicate] at h
  split at h
  ·exact (Option.some.inj h).symm
  ·cases h
theorem Sat.vis {γ:List Nm} {hp:List Res} {w:World} (h:Sat w0 ow γ hp w) (hm:m≤hp.length):Sat w0 ow γ (Bl m G hp) w:=by
 have h:=h.mask G
 refine⟨h.keeps,by rw[Oi m G hp hm];simpa only[Mb] using h.len,fun k r hr=>?_,fun k r b hr hb=>?_,fun j k r r' b hr hr' hjk hb hb'=>?_⟩
 ·rcases Oj hr with rfl|hr
  ·trivial
  ·exact h.holds k r hr
 ·rcases Oj hr with rfl|hr
  ·exact hb.elim
  ·exact h.mine k r b hr hb
 ·rcases Oj hr with rfl|hr
  ·exact hb.elim
  ·rcases Oj hr' with rfl|hr'
   ·exact hb'.elim
   ·exact h.apart j k r r' b hr hr' hjk hb hb'
def Fm (P:Program) (w0:World) (ow:Nat→Prop) (n m:Nat) (G:List Nat) (ops:List Oper) (o:Oper) (p:Pl) (s:S) (K:S→Prop):Prop:=
 ∀γ a w,FitsAt w0 ow n γ s a w→m≤s.hp.length→o.wp P a w (fun a' w'=>∃C2:World→Prop,C2 w'∧(∀x,C2 x→Sat w0 ow γ (Bl m G s.hp) x)∧Cp P ops.toArray (fun a' w'=>∃s',Fits w0 ow n s' a' w'∧K s') p C2 a' w') NoQ
def Fa (P:Program) (w0:World) (ow:Nat→Prop) (n m:Nat) (G:List Nat) (ops:List Oper) (rd:Bool) (i:Nat) (K:S→Prop) (call:Oper→Prop) (s:S):Prop:=
 match ops[i]? with
 |none=>False
 |some o=>match Kv ops s.fr o with
  |none=>False
  |some false=>dOk n o.dst∧K (s.put o.dst Ci)
  |some true=>if Ho o.op=true then rd=false∧call o
   else if rd=true then (if Im o.op=true then (match op1 P w0 ow (Fr.ev s.fr) (Bl m G s.hp) o.op with
    |some (c,v,hp')=>((c∧hp'=Bl m G s.hp)∧dOk n o.dst)∧K (S.put ⟨s.fr,s.hp⟩ o.dst v)
    |none=>False) else False)
   else match Cf P w0 ow n o s with
    |some (c,s')=>c∧(Bh G s'.hp).take m=(Bh G s.hp).take m∧K s'
    |none=>False
def C7 (P:Program) (w0:World) (ow:Nat→Prop) (n m:Nat) (G:List Nat) (ops:List Oper) (K:S→Prop):Pl→S→Prop
 | .nil,s=>K s
 | .rd i p,s=>Fa P w0 ow n m G ops true i (C7 P w0 ow n m G ops K p) (fun o=>Fm P w0 ow n m G ops o p s K) s
 | .wr i p,s=>Fa P w0 ow n m G ops false i (C7 P w0 ow n m G ops K p) (fun o=>Fm P w0 ow n m G ops o p s K) s
 | .fk i p j q,s=>Fa P w0 ow n m G ops false i (C7 P w0 ow n m G ops K p) (fun o=>Fm P w0 ow n m G ops o p s K) s∧Fa P w0 ow n m G ops false j (C7 P w0 ow n m G ops K q) (fun o=>Fm P w0 ow n m G ops o q s K) s
 | .f3 i p j q k r,s=>Fa P w0 ow n m G ops false i (C7 P w0 ow n m G ops K p) (fun o=>Fm P w0 ow n m G ops o p s K) s∧Fa P w0 ow n m G ops false j (C7 P w0 ow n m G ops K q) (fun o=>Fm P w0 ow n m G ops o q s K) s∧Fa P w0 ow n m G ops false k (C7 P w0 ow n m G ops K r) (fun o=>Fm P w0 ow n m G ops o r s K) s
theorem Arn {ops:List Oper} {s:S} {K:S→Prop}:C7 P w0 ow n m G ops K .nil s=K s:=Eq.trans rfl rfl
theorem Aci {ops:List Oper} {i:Nat} {p:Pl} {s:S} {K:S→Prop}:C7 P w0 ow n m G ops K (.rd i p) s=Fa P w0 ow n m G ops true i (C7 P w0 ow n m G ops K p) (fun o=>Fm P w0 ow n m G ops o p s K) s:=Eq.trans rfl rfl
theorem Aro {ops:List Oper} {i:Nat} {p:Pl} {s:S} {K:S→Prop}:C7 P w0 ow n m G ops K (.wr i p) s=Fa P w0 ow n m G ops false i (C7 P w0 ow n m G ops K p) (fun o=>Fm P w0 ow n m G ops o p s K) s:=Eq.trans rfl rfl
theorem Arp {ops:List Oper} {i j:Nat} {p q:Pl} {s:S} {K:S→Prop}:C7 P w0 ow n m G ops K (.fk i p j q) s=(Fa P w0 ow n m G ops false i (C7 P w0 ow n m G ops K p) (fun o=>Fm P w0 ow n m G ops o p s K) s∧Fa P w0 ow n m G ops false j (C7 P w0 ow n m G ops K q) (fun o=>Fm P w0 ow n m G ops o q s K) s):=Eq.trans rfl rfl
theorem Arq {o:Oper} {c:Prop} {s s':S} {γ:List Nm} {a:Act} {w:World} {W:(World→Prop)→Act→World→Prop} (h:FitsAt w0 ow n γ s a w) (hm:m≤s.hp.length) (hs:Cf P w0 ow n o s=some (c,s')) (hc:c) (ht:(Bh G s'.hp).take m=(Bh G s.hp).take m)
  (hK:∀γ' a' w',FitsAt w0 ow n γ' s' a' w'→m≤s'.hp.length→W (fun x=>Sat w0 ow γ' (Bl m G s'.hp) x) a' w'):o.wp P a w (fun a' w'=>∃C2:World→Prop,C2 w'∧(∀x,C2 x→Sat w0 ow γ (Bl m G s.hp) x)∧W C2 a' w') NoQ:=by
 unfold Cf at hs
 split at hs
 ·rename_i d v hp' hop
  simp only[Option.some.injEq,Prod.mk.injEq] at hs
  obtain⟨rfl,rfl⟩:=hs
  obtain⟨⟨h1,h2⟩,h3⟩:=hc
  obtain⟨γ',w',hS',hγ,hr⟩:=Nr (P:=P) (ρ:=a.eval) (o:=o) h.sat (fun x sv hx=>h.ev hx) hop h1 (fun hlt=>⟨fun x sv hx=>Ns (h3 hlt).1 hx,(h3 hlt).2⟩)
  have hhp:(S.put ⟨s.fr,hp'⟩ o.dst v).hp=hp':=by cases o.dst<;>rfl
  have hg:∀t sv,Fr.get s.fr t=some sv→sv.val γ'=sv.val γ:=by
   intro t sv ht
   rcases hγ with rfl|⟨hlt,nm,rfl⟩
   ·rfl
   ·exact Sv.ext (by rw[h.sat.len];exact (h3 hlt).1 _ (Fr.get_mem ht))
  rw[hhp] at ht
  have hl1:=h.sat.len
  have hl2:=hS'.len
  have hge:m≤hp'.length:=by
   rcases hγ with rfl|⟨hlt,nm,rfl⟩
   ·omega
   ·rw[List.length_append] at hl2;simp only[List.length_cons,List.length_nil] at hl2;omega
  have hback:∀x,Sat w0 ow γ' (Bl m G hp') x→Sat w0 ow γ (Bl m G s.hp) x:=by
   intro x hx
   rcases hγ with rfl|⟨hlt,nm,rfl⟩
   ·have e:Bl m G hp'=Bl m G s.hp:=by unfold Bl;rw[ht,show hp'.length=s.hp.length from by omega]
    rw[←e];exact hx
   ·have e:Bl m G hp'=Bl m G s.hp++[.gone]:=by
     rw[List.length_append] at hl2;simp only[List.length_cons,List.length_nil] at hl2
     unfold Bl H9
     rw[ht,show hp'.length - m=(s.hp.length - m)+1 from by omega,List.replicate_succ',List.append_assoc]
    rw[e] at hx
    exact hx.front (by rw[Oi m G s.hp hm];exact hl1) (by rw[Oi m G s.hp hm];exact Ach (h3 hlt).2)
  have hfin:∀x,x=v.val γ'→W (fun x=>Sat w0 ow γ' (Bl m G hp') x) (a.put o.dst x) w':=fun x hx=>by
   have:=hK γ' _ w' (h.put hS' hg h2 hx) (by rw[hhp];exact hge)
   rw[hhp] at this
   exact this
  unfold Oper.wp
  rcases hr with hr|⟨hr,hv⟩
  ·rw[hr]
   exact⟨_,hS'.vis hge,hback,hfin _ rfl⟩
  ·rw[hr]
   subst hv
   exact⟨_,hS'.vis hge,hback,hfin _ rfl⟩
 ·cases hs
theorem Ml {ops:List Oper} {i:Nat} {p:Pl} {s:S} {K:S→Prop} {γ:List Nm} {a:Act} {w:World} (ih:∀s γ a w,C7 P w0 ow n m G ops K p s→FitsAt w0 ow n γ s a w→m≤s.hp.length→Cp P ops.toArray (fun a' w'=>∃s',Fits w0 ow n s' a' w'∧K s') p (fun x=>Sat w0 ow γ (Bl m G s.hp) x) a w)
  (h:Fa P w0 ow n m G ops false i (C7 P w0 ow n m G ops K p) (fun o=>Fm P w0 ow n m G ops o p s K) s) (hf:FitsAt w0 ow n γ s a w) (hm:m≤s.hp.length):
  Ej P ops.toArray i (Cp P ops.toArray (fun a' w'=>∃s',Fits w0 ow n s' a' w'∧K s') p) (fun x=>Sat w0 ow γ (Bl m G s.hp) x) a w:=by
 unfold Fa at h
 unfold Ej
 simp only[List.getElem?_toArray]
 split at h
 ·exact h.elim
 ·rename_i o hi
  try simp only[hi]
  split at h
  ·exact h.elim
  ·rename_i hw
   have hww:=Mc hf hw
   rw[if_neg (by rw[hww];decide)]
   have:=ih _ γ _ _ h.2 (hf.put hf.sat (fun _ _ _=>rfl) h.1 rfl) (by cases o.dst<;>exact hm)
   have hhp:(S.put ⟨s.fr,s.hp⟩ o.dst Ci).hp=s.hp:=by cases o.dst<;>rfl
   rw[hhp] at this
   exact this
  ·rename_i hw
   have hww:=Mc hf hw
   rw[if_pos hww]
   split at h
   ·exact h.2 γ a w hf hm
   ·split at h
    ·rename_i hb;cases hb
    ·split at h
     ·rename_i c s' hs
      exact Arq hf hm hs h.1 h.2.1 fun γ' a' w' hf' hm'=>ih s' γ' a' w' h.2.2 hf' hm'
     ·exact h.elim
theorem Gu {ops:List Oper} {K:S→Prop}:∀(p:Pl) (s:S) (γ:List Nm) (a:Act) (w:World),C7 P w0 ow n m G ops K p s→FitsAt w0 ow n γ s a w→m≤s.hp.length→
  Cp P ops.toArray (fun a' w'=>∃s',Fits w0 ow n s' a' w'∧K s') p (fun x=>Sat w0 ow γ (Bl m G s.hp) x) a w
 | .nil,s,γ,a,w,h,hf,hm=>⟨s,⟨γ,hf⟩,h⟩
 | .wr i p,s,γ,a,w,h,hf,hm=>Ml (Gu p) h hf hm
 | .fk i p j q,s,γ,a,w,h,hf,hm=>⟨Ml (Gu p) h.1 hf hm,Ml (Gu q) h.2 hf hm⟩
 | .f3 i p j q k r,s,γ,a,w,h,hf,hm=>⟨Ml (Gu p) h.1 hf hm,Ml (Gu q) h.2.1 hf hm,Ml (Gu r) h.2.2 hf hm⟩
 | .rd i p,s,γ,a,w,h,hf,hm=>by
  rw[Aci] at h
  unfold Fa at h
  simp only[Cp,List.getElem?_toArray]
  split at h
  ·exact h.elim
  ·rename_i o hi
   try simp only[hi]
   split at h
   ·exact h.elim
   ·rename_i hw
    have hww:=Mc hf hw
    rw[if_neg (by rw[hww];decide)]
    have:=Gu p _ γ _ w h.2 (hf.put hf.sat (fun _ _ _=>rfl) h.1 rfl) (by cases o.dst<;>exact hm)
    have hhp:(S.put ⟨s.fr,s.hp⟩ o.dst Ci).hp=s.hp:=by cases o.dst<;>rfl
    rw[hhp] at this
    exact this
   ·rename_i hw
    have hww:=Mc hf hw
    rw[if_pos hww]
    split at h
    ·cases h.1
    ·rw[if_pos rfl] at h
     split at h
     ·rename_i hir
      split at h
      ·rename_i c v hp' hop
       obtain⟨⟨⟨h1,hsame⟩,h2⟩,h3⟩:=h
       refine⟨v.val γ,fun x hx=>?_,?_⟩
       ·obtain⟨_,hr⟩:=L5 (P:=P) (w:=x) (ρ:=a.eval) (o:=o) hir hsame hx (fun x sv hx=>hf.ev hx) hop h1
        unfold Hi
        rw[hr]
        exact⟨rfl,rfl⟩
       ·have:=Gu p _ γ _ w h3 (hf.put hf.sat (fun _ _ _=>rfl) h2 rfl) (by cases o.dst<;>exact hm)
        have hhp:(S.put ⟨s.fr,s.hp⟩ o.dst v).hp=s.hp:=by cases o.dst<;>rfl
        rw[hhp] at this
        exact this
      ·exact h.elim
     ·exact h.elim
end
attribute [push_cast] Arn Aci Aro Arp Fa Kv Bl Arm
end
section
structure SlV (α:Type) where
 A:Option Addr
 c:Nat
 l:List α
def SlV.val {α:Type} (s:SlV α):Value:=.slice s.A s.l.length s.c
instance {α:Type}:Inhabited (SlV α):=⟨⟨none,0,[]⟩⟩
theorem Ol {w:World} {A:Option Addr}:∀(n off:Nat) (vs:List Value),vs.length=n→(∀k v,vs[k]?=some v→A7 w (Af A (off+k))=v)→Cl w A n off=vs.map At.v
 |0,_,vs,h,_=>by
  obtain rfl:=List.eq_nil_of_length_eq_zero h
  rfl
 |n+1,off,v::vs,h,hc=>by
  rw[Cl,List.map_cons,Ol n (off+1) vs (by simpa using h) (fun k u hu=>by
   have:=hc (k+1) u (by simpa using hu)
   rwa [show off+(k+1)=off+1+k by omega] at this)]
  have:=hc 0 v rfl
  rw[Nat.add_zero] at this
  rw[this]
theorem R6 {w:World} {ow:Nat→Prop} {A:Option Addr}:∀(n off:Nat),(∀k,k < n→Cu w ow (Af A (off+k)))→F4 w ow A n off
 |0,_,_=>trivial
 |n+1,off,h=>⟨by have:=h 0 (by omega);rwa [Nat.add_zero] at this,R6 n (off+1) fun k hk=>by have:=h (k+1) (by omega);rwa [show off+(k+1)=off+1+k by omega] at this⟩
structure FLm {α:Type} [Inhabited α] (m:Nat) (e:α→List Value) (w:World) (A:Option Addr) (l:List α):Prop where
 some_:0 < l.length→A.isSome=true
 cell:∀i k v,i < l.length→(e (ix l i))[k]?=some v→A7 w (Af A (i*m+k))=v∧Cu w No (Af A (i*m+k))
 whole:∀i,i < l.length→Cl w (Af A (i*m)) m 0=(e (ix l i)).map At.v∧F4 w No (Af A (i*m)) m 0
theorem FLm.of {α:Type} [Inhabited α] {m:Nat} {e:α→List Value} {w:World} {A:Option Addr} {l:List α} (hm:∀x,(e x).length=m) (h0:0 < m) (hR:RdV w w.heap.size A (l.flatMap e)):FLm m e w A l:=by
 have F:=FV.no hR
 have hl:(l.flatMap e).length=l.length*m:=Cv hm l
 have hc:∀i k v,i < l.length→(e (ix l i))[k]?=some v→A7 w (Af A (i*m+k))=v∧Cu w No (Af A (i*m+k)):=fun i k v hi hv=>by
  have hk:k < m:=by
   have:=(List.getElem?_eq_some_iff.1 hv).1
   rwa [hm] at this
  exact F.cell (by rw[Jo hm l i k hi hk];exact hv)
 refine⟨fun hp=>F.some_ (by rw[hl];exact Nat.mul_pos hp h0),hc,fun i hi=>?_⟩
 constructor
 ·refine Ol m 0 _ (hm _) fun k v hv=>?_
  rw[Ce,Nat.zero_add]
  exact (hc i k v hi hv).1
 ·refine R6 m 0 fun k hk=>?_
  rw[Ce,Nat.zero_add]
  exact (hc i k _ hi (List.getElem?_eq_getElem (by rw[hm];exact hk))).2
structure Vr (w:World) (A:Option Addr) (vs:List Value):Prop where
 some_:A.isSome=true
 none_:A.isNone=false
 cell:∀k v,vs[k]?=some v→A7 w (Af A k)=v∧Cu w No (Af A k)
theorem Vr.of {w:World} {g:Nat} {vs:List Value} (h:∀k v,vs[k]?=some v→w.cell? ⟨g,k,none⟩=some v):Vr w (some ⟨g,0,none⟩) vs:=
 ⟨rfl,rfl,fun k v hv=>by
  have hc:=h k v hv
  have e:Af (some ⟨g,0,none⟩) k=some ⟨g,k,none⟩:=by
   show some (Addr.add _ k)=_
   rw[Bu,Nat.zero_add]
  rw[e]
  exact⟨by simp [A7,hc],⟨_,_,rfl,block_lt_of_cell hc,fun h=>h,hc⟩⟩⟩
theorem Vr.whole {w:World} {A:Option Addr} {vs:List Value} (h:Vr w A vs):Cl w A vs.length 0=vs.map At.v∧F4 w No A vs.length 0:=
 ⟨Ol _ 0 _ rfl fun k v hv=>by rw[Nat.zero_add];exact (h.cell k v hv).1,R6 _ 0 fun k hk=>by rw[Nat.zero_add];exact (h.cell k _ (List.getElem?_eq_getElem hk)).2⟩
theorem Vr.later {w w':World} {A:Option Addr} {vs:List Value} (h:Vr w A vs) (hk:Keeps No w w'):Vr w' A vs:=
 ⟨h.some_,h.none_,fun k v hv=>by
  obtain⟨h1,a,x,h2,h3,_,h5⟩:=h.cell k v hv
  have hb:=hk.block a.block h3 (fun h=>h)
  have e:x=v:=by rw[h2] at h1;simpa [A7,h5] using h1
  subst e
  have h6:w'.cell? a=some x:=by
   unfold World.cell? at h5 ⊢
   rw[hb]
   exact h5
  exact⟨by rw[h2];simp [A7,h6],⟨a,x,h2,block_lt_of_cell h6,fun h=>h,h6⟩⟩⟩
theorem K8 {w0 w:World} {ow:Nat→Prop} {γ:List Nm} {hp:List Res} {k:Nat} {t:TypeId} {c:Cont} {vs:List Value} (hS:Sat w0 ow γ hp w) (hr:Ch hp[k]?=some (t,c)) (hv:c.vals γ=vs):Vr w (some ⟨nmB γ k,0,none⟩) vs:=
 Vr.of fun i v hi=>by
  have hl:i < c.len:=by rw[←Cont.len_vals (γ:=γ) c,hv];exact (List.getElem?_eq_some_iff.1 hi).1
  have:=hS.cellv hr hl
  rw[this,←hi,←hv,Cont.get_val hl]
def plV (p:PlS):List Value:=[.int .i64 p.parent,.int .i64 p.spare,.int .i64 p.need]
structure GrR where
 place:Int
 ids:SlV Int
 need:Int
instance:Inhabited GrR:=⟨⟨0,default,0⟩⟩
def grV (g:GrR):List Value:=[.int .i64 g.place,g.ids.val,.int .i64 g.need]
def GrR.gr (g:GrR):GrS:=⟨g.place,g.ids.l,g.need⟩
structure GrR.Ok (g:GrR) (w:World):Prop where
 len:g.ids.l.length≤g.ids.c
 few:g.ids.l.length≤1000000
 rd:RdV w w.heap.size g.ids.A (g.ids.l.map (Value.int .i64))
structure CfR where
 dim:Int
 ps:SlV PlS
 gs:SlV GrR
 least:Int
 term:Int
def cfV (c:CfR):List Value:=[.int .i64 c.dim,c.ps.val,c.gs.val,.int .i64 c.least,.int .i64 c.term]
def CfR.cf (c:CfR):CfS:=⟨c.dim,c.ps.l,c.gs.l.map GrR.gr,c.least,c.term⟩
structure CfR.Ok (c:CfR) (w:World):Prop where
 plen:c.ps.l.length≤c.ps.c
 pfew:c.ps.l.length≤1000000
 prd:RdV w w.heap.size c.ps.A (c.ps.l.flatMap plV)
 glen:c.gs.l.length≤c.gs.c
 gfew:c.gs.l.length≤1000000
 grd:RdV w w.heap.size c.gs.A (c.gs.l.flatMap grV)
 ids:∀g∈c.gs.l,g.Ok w
theorem I4 (p:PlS):(plV p).length=3:=rfl
theorem Jw (g:GrR):(grV g).length=3:=rfl
theorem CfR.Ok.later {w0 w:World} {c:CfR} {γ:List Nm} {hp:List Res} (h:c.Ok w0) (hS:Sat w0 No γ hp w):c.Ok w:=
 ⟨h.plen,h.pfew,C5 h.prd hS,h.glen,h.gfew,C5 h.grd hS,fun g hg=>⟨(h.ids g hg).len,(h.ids g hg).few,C5 (h.ids g hg).rd hS⟩⟩
def cfA (c:CfR):List At:=[.v (.int .i64 c.dim),.v c.ps.val,.v c.gs.val,.v (.int .i64 c.least),.v (.int .i64 c.term)]
def grA (g:GrR):List At:=[.v (.int .i64 g.place),.v g.ids.val,.v (.int .i64 g.need)]
def Hc (w0:World) (hp:List Res) (sv:Sv) (c:CfS):Prop:=∀γ w,Sat w0 No γ hp w→∃a:CfR,sv.val γ=.agg (cfV a).toArray∧a.Ok w∧a.cf=c
theorem Om {w0:World} {hp:List Res} {a:CfR} (h:a.Ok w0):Hc w0 hp (.x (.g (cfA a))) a.cf:=fun γ w hS=>⟨a,rfl,h.later hS,rfl⟩
end
end Go.Proofs.YtedaafmfjhjfmaaGreatDoor
