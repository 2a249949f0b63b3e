import Derived.Test.YtedaafmfjhjfmaaGreatDoorDrT
import Derived.Test.YtedaafmfjhjfmaaGreatDoorLn0
/- A region that draws its order, by sets of what is done: one state for each set, whatever order led there. No program in sight. -/
namespace Go.Proofs.YtedaafmfjhjfmaaGreatDoor
open _root_.Go.Proofs.Tryz
open Go.RowKit
set_option linter.unusedSimpArgs false
set_option linter.unusedVariables false
section
section
variable {P:Program} {ops:Array Oper} {md:Region.Mode}
abbrev Dag:=List (List Bool×List (Nat×Nat))
def Fw (D:Dag) (v:Nat):List Bool:=(D.getD v ([],[])).1
def Jb (D:Dag) (v:Nat):List (Nat×Nat):=(D.getD v ([],[])).2
def Lj (D:Dag) (g v:Nat):Nat:=(Fw D v).count false - g
def Tc (md:Region.Mode) (ops:Array Oper) (n g e:Nat) (D:Dag):Bool:=
 (List.range e).all fun v=>decide (Region.ready md ops (Fw D v).toArray=(Jb D v).map (·.1))&&!(Jb D v).isEmpty&&(Jb D v).all fun p=>decide (p.1 < n)&&decide (p.2≤e)&&decide ((Fw D v).set p.1 true=Fw D p.2)&&decide (Lj D g p.2+1=Lj D g v)
theorem Axq {n g e:Nat} {D:Dag} {T:Nat→(World→Prop)→Act→World→Prop} {L:Array Bool→Act→World→Prop} (hB:Tc md ops n g e D=true)
  (step:∀v,v < e→∀C a w,C w→T v C a w→∀p∈Jb D v,Ej P ops p.1 (T p.2) C a w)
  (fin:∀C a w,C w→HeadInv md ops n (Fw D e).toArray→T e C a w→Gz P md ops n L (Lj D g e) (Fw D e).toArray C a w):
  ∀(k v:Nat) (C:World→Prop) (a:Act) (w:World),Lj D g v=k→v≤e→C w→HeadInv md ops n (Fw D v).toArray→T v C a w→Gz P md ops n L k (Fw D v).toArray C a w:=by
 unfold Tc at hB
 rw[List.all_eq_true] at hB
 intro k
 induction k with
 |zero=>
  intro v C a w hk hv hC inv hT
  rcases Nat.lt_or_ge v e with h|h
  ·have:=hB v (List.mem_range.2 h)
   simp only[Bool.and_eq_true,Bool.not_eq_true',List.all_eq_true,decide_eq_true_eq] at this
   obtain⟨⟨h1,h2⟩,h3⟩:=this
   cases hs:Jb D v with
   |nil=>rw[hs] at h2;cases h2
   |cons p r=>
    have:=h3 p (by rw[hs];exact List.mem_cons_self ..)
    omega
  ·obtain rfl:v=e:=by omega
   rw[←hk]
   exact fin C a w hC inv hT
 |succ k ih=>
  intro v C a w hk hv hC inv hT
  rcases Nat.lt_or_ge v e with h|h
  ·have:=hB v (List.mem_range.2 h)
   simp only[Bool.and_eq_true,Bool.not_eq_true',List.all_eq_true,decide_eq_true_eq] at this
   obtain⟨⟨h1,h2⟩,h3⟩:=this
   refine⟨fun h0=>?_,fun j hj=>?_⟩
   ·rw[h1] at h0
    cases hs:Jb D v with
    |nil=>rw[hs] at h2;cases h2
    |cons p r=>rw[hs] at h0;cases h0
   ·have hj':=hj
    rw[h1] at hj
    obtain⟨p,hp,rfl⟩:=List.mem_map.1 hj
    obtain⟨⟨⟨p1,p2⟩,p3⟩,p4⟩:=h3 p hp
    refine⟨p1,Ks hC (fun C2 a' w' hC2 hT'=>?_) (step v h C a w hC hT p hp)⟩
    have hl:(Fw D v).toArray.setIfInBounds p.1 true=(Fw D p.2).toArray:=by rw[List.setIfInBounds_toArray,p3]
    have hi:=inv.set hj' p1
    rw[hl] at hi ⊢
    exact ih p.2 C2 a' w' (by omega) p2 hC2 hi hT'
  ·obtain rfl:v=e:=by omega
   rw[←hk]
   exact fin C a w hC inv hT
def My:List Nat→Pl
 |[]=>.nil
 |i::l=>.rd i (My l)
def rdB (md:Region.Mode) (ops:Array Oper) (n:Nat):List Nat→Array Bool→Bool
 |[],_=>true
 |i::l,listed=>decide (i < n)&&(Region.ready md ops listed).contains i&&Region.free md ops listed i&&rdB md ops n l (listed.setIfInBounds i true)
def rdL:List Nat→Array Bool→Array Bool
 |[],listed=>listed
 |i::l,listed=>rdL l (listed.setIfInBounds i true)
theorem W4 {n:Nat} {Q:Act→World→Prop} {L:Array Bool→Act→World→Prop} (hsel:Region.noSelect ops=true) (hs:Region.sinkB md ops n=true) (hc:Region.chainB md ops n=true) (hn:n < ops.size) (hL:∀listed a w,L listed a w→∀j∈Region.ready md ops listed,n≤j):
  ∀(l:List Nat) (f:Nat) (listed:Array Bool) (C:World→Prop) (a:Act) (w:World),C w→HeadInv md ops n listed→rdB md ops n l listed=true→Cp P ops Q (My l) C a w→
  (∀a w,C w→HeadInv md ops n (rdL l listed)→Q a w→Gz P md ops n L f (rdL l listed) C a w)→Gz P md ops n L (f+l.length) listed C a w
 |[],f,listed,C,a,w,hC,inv,_,h,hQ=>hQ a w hC inv h
 |i::l,f,listed,C,a,w,hC,inv,hB,h,hQ=>by
  simp only[rdB,Bool.and_eq_true,decide_eq_true_eq] at hB
  obtain⟨⟨⟨hin,hr⟩,hf⟩,hB'⟩:=hB
  have hr':i∈Region.ready md ops listed:=by simpa using hr
  obtain⟨_,o,ho,_⟩:=mem_ready.1 hr'
  simp only[My,Cp,ho] at h
  have hv:∃v,YieldsR P ops C o v a∧Cp P ops Q (My l) C (a.put o.dst v) w:=by
   by_cases hw:Region.wanted o (yielded ops a.tmps)=true
   ·simp only[hw,if_true] at h
    obtain⟨v,h1,h2⟩:=h
    exact⟨v,.inl ⟨hw,h1⟩,h2⟩
   ·simp only[hw] at h
    exact⟨undef,.inr ⟨by simpa using hw,rfl⟩,h⟩
  obtain⟨v,hy,hK⟩:=hv
  exact T0 ho (Region.noSelect_spec hsel) hs hc hn hin hL (f+l.length) listed C a w inv (Region.free_spec ho hf) hr' hC hy
   (W4 hsel hs hc hn hL l f _ C _ w hC (inv.set hr' hin) hB' hK hQ)
end
section
variable {P:Program} {w0:World} {ow:Nat→Prop} {n:Nat}
theorem Le.fitsAt {ρ:List Nat} {s s':S} {γ:List Nm} {a:Act} {w:World} (hle:Le ρ s s') (hf:FitsAt w0 ow n γ s a w):FitsAt w0 ow n (reγ ρ γ) s' a w:=by
 obtain⟨h1,h2,h3,h4⟩:=hle
 obtain⟨q1,q2⟩:=hf.sat.sel h2 h3 h4.2
 obtain⟨hlen,_⟩:=Jl h2
 exact⟨q1,hf.defers,hf.size,fun t sv ht=>by rw[hf.at_ t _ (U3 h1 t sv ht),Sv.re q2 (by rw[hlen];exact h4.1 _ (Fr.get_mem ht))]⟩
theorem Axr {o:Oper} {c:Prop} {s s':S} {γ:List Nm} {a:Act} {w:World} {Q:Act→World→Prop} (h:FitsAt w0 ow n γ s a w) (hs:Cf P w0 ow n o s=some (c,s')) (hc:c)
  (hK:∀δ a' w',FitsAt w0 ow n (γ++δ) s' a' w'→Q a' w'):o.wp P a w Q NoQ:=by
 unfold Cf at hs
 split at hs
 ·rename_i d v hp' hop
  simp only[Option.some.injEq,Prod.mk.injEq] at hs
  obtain⟨rfl,rfl⟩:=hs
  obtain⟨⟨h1,h2⟩,h3⟩:=hc
  obtain⟨γ',w',hS',hγ,hr⟩:=Nr (P:=P) (ρ:=a.eval) (o:=o) h.sat (fun x sv hx=>h.ev hx) hop h1 (fun hlt=>⟨fun x sv hx=>Ns (h3 hlt).1 hx,(h3 hlt).2⟩)
  have hg:∀t sv,Fr.get s.fr t=some sv→sv.val γ'=sv.val γ:=by
   intro t sv ht
   rcases hγ with rfl|⟨hlt,nm,rfl⟩
   ·rfl
   ·exact Sv.ext (by rw[h.sat.len];exact (h3 hlt).1 _ (Fr.get_mem ht))
  have hd:∃δ,γ'=γ++δ:=by
   rcases hγ with rfl|⟨hlt,nm,rfl⟩
   ·exact⟨[],(List.append_nil _).symm⟩
   ·exact⟨_,rfl⟩
  obtain⟨δ,rfl⟩:=hd
  have hfin:∀x,x=v.val (γ++δ)→Q (a.put o.dst x) w':=fun x hx=>hK δ _ w' (h.put hS' hg h2 hx)
  unfold Oper.wp
  rcases hr with hr|⟨hr,hv⟩
  ·rw[hr]
   exact hfin _ rfl
  ·rw[hr]
   subst hv
   exact hfin _ rfl
 ·cases hs
def Aem (P:Program) (w0:World) (ow:Nat→Prop) (n:Nat) (o:Oper) (s:S) (K:S→Prop):Prop:=
 ∀γ a w,FitsAt w0 ow n γ s a w→o.wp P a w (fun a' w'=>∃δ s',K s'∧FitsAt w0 ow n (γ++δ) s' a' w') NoQ
def Cd (P:Program) (w0:World) (ow:Nat→Prop) (n:Nat) (ops:List Oper) (i:Nat) (K:S→Prop) (s:S):Prop:=
 match ops[i]? with
 |none=>False
 |some o=>match o.guard with
  |some _=>False
  |none=>if Ho o.op=true then Aem P w0 ow n o s K else match Cf P w0 ow n o s with
   |some (c,s')=>c∧K s'
   |none=>False
theorem Axs {ops:List Oper} {i:Nat} {s:S} {K:S→Prop} {γ:List Nm} {a:Act} {w:World} {W:(World→Prop)→Act→World→Prop} {C:World→Prop} (h:Cd P w0 ow n ops i K s) (hf:FitsAt w0 ow n γ s a w)
  (hW:∀δ s' a' w',K s'→FitsAt w0 ow n (γ++δ) s' a' w'→∃C2:World→Prop,C2 w'∧(∀x,C2 x→C x)∧W C2 a' w'):Ej P ops.toArray i W C a w:=by
 unfold Cd at h
 unfold Ej
 simp only[List.getElem?_toArray]
 split at h
 ·exact h.elim
 ·rename_i o hi
  try simp only[hi]
  split at h
  ·exact h.elim
  ·rename_i hg
   rw[if_pos (by simp [Region.wanted,hg])]
   split at h
   ·exact Ig (fun a' w' ⟨δ,s',h2,h3⟩=>hW δ s' a' w' h2 h3) (h γ a w hf)
   ·split at h
    ·rename_i c s' hs
     exact Axr hf hs h.1 fun δ a' w' hf'=>hW δ s' a' w' h.2 hf'
    ·exact h.elim
theorem Aen {o:Oper} {f:FuncId} {xs:List Operand} {tys:Array TypeId} {s:S} {svs:List Sv} {K:S→Prop} (ho:o.op=.call {callee:=.value (.func f),args:=xs.toArray,argTypes:=tys})
  (hcb:Ac P f) (hev:evs s.fr xs=some svs) {sv:Sv} {hp':List Res} (hc:Ad P w0 ow f svs s.hp sv hp') (hd:dOk n o.dst) (hb:s.hp.length < hp'.length→s.bnd)
  (h:K (S.put ⟨s.fr,hp'⟩ o.dst sv)):Aem P w0 ow n o s K:=fun γ a w hf=>
 Uy hf ho hcb hev hc hd hb fun δ a' w' hf'=>⟨δ,_,h,hf'⟩
def Lk (P:Program) (w0:World) (ow:Nat→Prop) (n:Nat) (ops:List Oper) (K:S→Prop):List Nat→S→Prop
 |[],s=>K s
 |i::l,s=>match ops[i]? with
  |none=>False
  |some o=>match o.guard with
   |some _=>False
   |none=>match Cf P w0 ow n o s with
    |some (c,s')=>c∧(Im o.op=true∧s'.hp=s.hp)∧Lk P w0 ow n ops K l s'
    |none=>False
theorem Axt {ops:List Oper} {K:S→Prop} {s:S}:Lk P w0 ow n ops K [] s=K s:=Eq.trans rfl rfl
theorem Aeo {ops:List Oper} {K:S→Prop} {s:S} {i:Nat} {l:List Nat}:Lk P w0 ow n ops K (i::l) s=(match ops[i]? with
  |none=>False
  |some o=>match o.guard with
   |some _=>False
   |none=>match Cf P w0 ow n o s with
    |some (c,s')=>c∧(Im o.op=true∧s'.hp=s.hp)∧Lk P w0 ow n ops K l s'
    |none=>False):=Eq.trans rfl rfl
theorem W5 {ops:List Oper} {K:S→Prop} {hp:List Res} {γ:List Nm}:∀(l:List Nat) (s:S) (a:Act) (w:World),s.hp=hp→Lk P w0 ow n ops K l s→FitsAt w0 ow n γ s a w→
  Cp P ops.toArray (fun a' w'=>∃s',s'.hp=hp∧FitsAt w0 ow n γ s' a' w'∧K s') (My l) (fun x=>Sat w0 ow γ hp x) a w
 |[],s,a,w,hh,h,hf=>⟨s,hh,hf,h⟩
 |i::l,s,a,w,hh,h,hf=>by
  rw[Aeo] at h
  simp only[My,Cp,List.getElem?_toArray]
  split at h
  ·exact h.elim
  ·rename_i o hi
   try simp only[hi]
   split at h
   ·exact h.elim
   ·rename_i hg
    rw[if_pos (by simp [Region.wanted,hg])]
    split at h
    ·rename_i c s' hs
     obtain⟨hc,⟨hr,hsm⟩,hK⟩:=h
     unfold Cf at hs
     split at hs
     ·rename_i d v hp' hop
      simp only[Option.some.injEq,Prod.mk.injEq] at hs
      obtain⟨rfl,rfl⟩:=hs
      obtain⟨⟨h1,h2⟩,h3⟩:=hc
      have hsame:hp'=s.hp:=by rw[←hsm];cases o.dst<;>rfl
      obtain⟨rfl,_⟩:=L5 (P:=P) (ρ:=a.eval) (o:=o) hr hsame hf.sat (fun x sv hx=>hf.ev hx) hop h1
      have hhp:(S.put ⟨s.fr,s.hp⟩ o.dst v).hp=s.hp:=by cases o.dst<;>rfl
      refine⟨v.val γ,fun x hx=>?_,W5 l _ _ w (hhp.trans hh) hK (hf.put hf.sat (fun _ _ _=>rfl) h2 rfl)⟩
      rw[←hh] at hx
      obtain⟨_,hr⟩:=L5 (P:=P) (w:=x) (ρ:=a.eval) (o:=o) hr rfl hx (fun x sv hx=>hf.ev hx) hop h1
      unfold Hi
      rw[hr]
      exact⟨rfl,rfl⟩
     ·cases hs
    ·exact h.elim
def LeA (k:Nat) (s s':S):Prop:=∃ρ,Le (List.range k++ρ) s s'
theorem Aep {k:Nat} {ρ:List Nat} {γ δ:List Nm} (h:γ.length=k):∃δ',reγ (List.range k++ρ) (γ++δ)=γ++δ':=by
 refine⟨reγ ρ (γ++δ),?_⟩
 unfold reγ
 rw[List.map_append]
 congr 1
 apply List.ext_getElem
 ·simp [h]
 ·intro i h1 h2
  simp only[List.length_map,List.length_range] at h1
  simp [List.getD_eq_getElem?_getD,List.getElem?_append_left h2,List.getElem?_eq_getElem h2]
def W6 (st:Nat→Nat×Nat→Prop):Nat→Dag→Prop
 |_,[]=>True
 |v,(_,ss)::D=>(∀p∈ss,st v p)∧W6 st (v+1) D
theorem Aeq {st:Nat→Nat×Nat→Prop}:∀(D:Dag) (k:Nat),W6 st k D→∀v,∀p∈Jb D v,st (k+v) p
 |[],_,_,v,p,hp=>by cases hp
 |(b,ss)::D,k,h,0,p,hp=>h.1 p hp
 |(b,ss)::D,k,h,v+1,p,hp=>by
  have:=Aeq D (k+1) h.2 v p hp
  rwa [show k+1+v=k+(v+1) from by omega] at this
theorem Axu {st:Nat→Nat×Nat→Prop} {D:Dag} {e:Nat} (h:W6 st 0 D):∀v,v < e→∀p∈Jb D v,st v p:=fun v _ p hp=>by
 have:=Aeq D 0 h v p hp
 rwa [Nat.zero_add] at this
def Aer (md:Region.Mode) (ops:Array Oper) (n:Nat) (l:List Nat) (D:Dag) (e:Nat) (l2:List Nat):Bool:=
 Region.noSelect ops&&decide (n < ops.size)&&Region.sinkB md ops n&&Region.chainB md ops n&&rdB md ops n l (Array.replicate ops.size false)&&decide ((rdL l (Array.replicate ops.size false)).toList=Fw D 0)&&Tc md ops n (ops.size - n) e D&&
 decide (Lj D (ops.size - n) 0+l.length=n)&&rdB md ops n l2 (Fw D e).toArray&&decide (Lj D (ops.size - n) e=l2.length)&&Region.seqB md ops (ops.size - n) n (rdL l2 (Fw D e).toArray)
theorem Axv {id:Nat} {ops:List Oper} {s:S} {K:Exit→S→Prop} (k:Nat) (l:List Nat) (D:Dag) (e:Nat) (l2:List Nat) (F:Nat→S) (s1:S) (hm:P.follows .mixedOrders=true) (hB:Aer .any ops.toArray k l D e l2=true)
  (hb:∀r∈s.hp,Res.bnd s.hp.length r) (h0:Lk P w0 ow n ops (fun s'=>LeA s.hp.length s' (F 0)) l s) (hF:∀v,v≤e→(F v).hp.take s.hp.length=s.hp) (he:0 < e)
  (hst:∀v,v < e→∀p∈Jb D v,Cd P w0 ow n ops p.1 (fun s'=>LeA s.hp.length s' (F p.2)) (F v))
  (hend:Lk P w0 ow n ops (fun s'=>Fh w0 ow n s' s1) l2 (F e)) (hk:Ai P w0 ow n ops (ops.drop k) s1 (K .normal)):Ao P w0 ow n id ops s K:=by
 rintro a w ⟨γ,hf⟩
 simp only[Aer,Bool.and_eq_true,decide_eq_true_eq] at hB
 obtain⟨⟨⟨⟨⟨⟨⟨⟨⟨⟨b1,b2⟩,b3⟩,b4⟩,b5⟩,b6⟩,b7⟩,b8⟩,b9⟩,b10⟩,b11⟩:=hB
 have hn':k < ops.length:=by simpa using b2
 have hdl:(ops.drop k).length=ops.toArray.size - k:=by simp
 have inv0:HeadInv .any ops.toArray k (Array.replicate ops.toArray.size false):=
  ⟨by simp,fun j oj _ hl=>(by rw[getD_replicate_false] at hl;cases hl),fun t _ ht=>getD_in (by simpa using ht) (getD_replicate_false _ _)⟩
 refine wp_region_any hm ?_
 let w2:World:={w with drawn:=w.drawn+1}
 have hf2:FitsAt w0 ow n γ s a w2:=Fits.drawn hf ⟨1,rfl⟩
 have hl:=hf2.sat.len
 let C0:World→Prop:=fun x=>Sat w0 ow γ s.hp x
 let T:Nat→(World→Prop)→Act→World→Prop:=fun v C a w=>∃δ,FitsAt w0 ow n (γ++δ) (F v) a w∧C=if v=e then (fun x=>Sat w0 ow (γ++δ) (F v).hp x) else C0
 have back:∀(v:Nat) (δ:List Nm) (x:World),v≤e→Sat w0 ow (γ++δ) (F v).hp x→C0 x:=fun v δ x hv hx=>by
  rw[←List.take_append_drop s.hp.length (F v).hp,hF v hv] at hx
  exact hx.front hl hb
 have Tl:∀(listed:Array Bool) (a':Act) (w':World),(Region.seqB .any ops.toArray (ops.toArray.size - k) k listed=true∧∃s',Fits w0 ow n s' a' w'∧Fh w0 ow n s' s1)→∀j∈Region.ready .any ops.toArray listed,k≤j:=fun listed a' w' h=>seqB_ready h.1
 have main:Gz P .any ops.toArray k (fun listed' a' w'=>Region.seqB .any ops.toArray (ops.toArray.size - k) k listed'=true∧∃s',Fits w0 ow n s' a' w'∧Fh w0 ow n s' s1) (Lj D (ops.toArray.size - k) 0+l.length) (Array.replicate ops.toArray.size false) C0 a w2:=by
  refine W4 b1 b3 b4 b2 Tl l _ _ C0 a w2 hf2.sat inv0 b5 (W5 l s a w2 rfl h0 hf2) fun a' w' hC inv ⟨s',hs',hf',ρ0,hle0⟩=>?_
  have hf0:=hle0.fitsAt hf'
  obtain⟨δ0,hr0⟩:=Aep (ρ:=ρ0) (δ:=[]) hl
  rw[List.append_nil] at hr0
  rw[hr0] at hf0
  have e0:rdL l (Array.replicate ops.toArray.size false)=(Fw D 0).toArray:=by rw[←b6]
  rw[e0] at inv ⊢
  refine Axq (T:=T) (e:=e) b7 (fun v hv C a w hC hT p hp=>?_) (fun C a w hC inv hT=>?_) _ 0 C0 a' w' rfl (Nat.zero_le _) hC inv ⟨δ0,hf0,by rw[if_neg (by omega)]⟩
  ·obtain⟨δ,hfv,rfl⟩:=hT
   rw[if_neg (by omega)]
   have hp2:p.2≤e:=by
    unfold Tc at b7
    rw[List.all_eq_true] at b7
    have:=b7 v (List.mem_range.2 hv)
    simp only[Bool.and_eq_true,List.all_eq_true,decide_eq_true_eq] at this
    exact ((this.2 p hp).1.1).2
   refine Axs (hst v hv p hp) hfv fun δ' s' a' w' ⟨ρ,hle⟩ hf'=>?_
   have hf3:=hle.fitsAt hf'
   rw[List.append_assoc] at hf3
   obtain⟨δ2,hre⟩:=Aep (ρ:=ρ) (δ:=δ++δ') hl
   rw[hre] at hf3
   by_cases hpe:p.2=e
   ·exact⟨fun x=>Sat w0 ow (γ++δ2) (F p.2).hp x,hf3.sat,fun x hx=>back p.2 δ2 x hp2 hx,δ2,hf3,by rw[if_pos hpe]⟩
   ·exact⟨C0,back p.2 δ2 w' hp2 hf3.sat,fun x hx=>hx,δ2,hf3,by rw[if_neg hpe]⟩
  ·obtain⟨δ,hfv,rfl⟩:=hT
   rw[if_pos rfl] at hC ⊢
   have:=W4 b1 b3 b4 b2 Tl l2 0 _ _ a w hC inv b9 (W5 l2 (F e) a w rfl hend hfv) fun a' w' hC inv ⟨s',hs',hf',hK⟩=>⟨b11,s',⟨_,hf'⟩,hK⟩
   rw[Nat.zero_add,←b10] at this
   exact this
 rw[b8] at main
 have hQ:wpAny P .any ops.toArray (fun e a' w'=>den w0 ow n K e a' w') (k+(ops.toArray.size - k)) (Array.replicate ops.toArray.size false) a w2:=by
  refine Ln (g:=ops.toArray.size - k) (fun listed a' w' hL=>?_) _ _ _ _ _ main
  obtain⟨s',h1,h2⟩:=hL.2
  have hw:wpList P ops.toArray (fun e a' w'=>den w0 ow n K e a' w') (ops.drop k) a' w':=Jk (fun e a'' w'' hq=>by
   obtain⟨rfl,s'',h3,h4⟩:=hq
   exact⟨s'',h3,h4⟩) _ _ _ (C4 _ s1 a' w' hk (h2 _ _ h1))
  have:=wpAny_of_seq (md:=.any) (ops.drop k) k listed a' w' (fun j=>by simp [List.getElem?_drop]) (by rw[hdl];exact hL.1) hw
  rwa [hdl] at this
 rw[show k+(ops.toArray.size - k)=ops.toArray.size by simp;omega] at hQ
 exact hQ
end
attribute [push_cast] Axt Aeo Cd
end
section
attribute [local irreducible] Ac Ad Ah Au Ao Aj Ai Al
attribute [local irreducible] A9 okV Ak erV Tal.can Tal.st B1 Bq cfF tcF isP ofP abF idxN Cg B2
section
variable {c:CfR} {w:World}
theorem W7 (h:c.Ok w) {hp:List Res}:Ad prog w No 49 [.x (.g [.v (.int .i64 c.dim),.v (.slice c.ps.A c.ps.l.length c.ps.c),.v (.slice c.gs.A c.gs.l.length c.gs.c),.v (.int .i64 c.least),.v (.int .i64 c.term)])] hp (.x (.a (.v (okV (cfF c.cf) 1)))) hp:=Asm (s:=.x (.g (cfA c))) (Om h)
theorem W8 (h:c.Ok w) (p:Int) {hp:List Res}:Ad prog w No 50 [.x (.g [.v (.int .i64 c.dim),.v (.slice c.ps.A c.ps.l.length c.ps.c),.v (.slice c.gs.A c.gs.l.length c.gs.c),.v (.int .i64 c.least),.v (.int .i64 c.term)]),.x (.a (.v (.int .i64 p)))] hp (.t [.a (.v (.int .i64 (B2 c.cf p))),.a (.v (tcF c.cf p))]) hp:=As1 (s:=.x (.g (cfA c))) p (Om h)
def nwF (c:CfR) (g:GrR) (p gen par:Int) (A1:Option Addr) (ab:List Int) (cap1:Nat):Nat→S
 |0=>⟨[(52,.x (.a (.v (.int .i64 p)))),(53,.x (.a (.v (.int .i64 gen)))),(55,.x (.a (.v (.int .i64 c.dim)))),(57,.x (.a (.v (.int .i64 c.term)))),(59,.x (.a (.v (.int .i64 g.need)))),(65,.x (.a (.v (.int .i64 par)))),(66,.x (.a (.v (.slice A1 ab.length cap1)))),(68,.x (.a (.v (.slice g.ids.A g.ids.l.length g.ids.c))))],[.abs (fctRep [⟨.slice A1 ab.length cap1,ab.length,ab.map (Value.int .i64)⟩]),.blk 38 (.c [.v (.int .i64 c.dim),.v (.slice c.ps.A c.ps.l.length c.ps.c),.v (.slice c.gs.A c.gs.l.length c.gs.c),.v (.int .i64 c.least),.v (.int .i64 c.term)]),.blk 96 (.c [.v (.int .i64 g.place),.v (.slice g.ids.A g.ids.l.length g.ids.c),.v (.int .i64 g.need)])]⟩
 |1=>⟨[(52,.x (.a (.v (.int .i64 p)))),(53,.x (.a (.v (.int .i64 gen)))),(55,.x (.a (.v (.int .i64 c.dim)))),(57,.x (.a (.v (.int .i64 c.term)))),(59,.x (.a (.v (.int .i64 g.need)))),(65,.x (.a (.v (.int .i64 par)))),(66,.x (.a (.v (.slice A1 ab.length cap1)))),(68,.x (.a (.v (.slice g.ids.A g.ids.l.length g.ids.c)))),(69,.x (.a (.o 3)))],[.abs (fctRep [⟨.slice A1 ab.length cap1,ab.length,ab.map (Value.int .i64)⟩]),.blk 38 (.c [.v (.int .i64 c.dim),.v (.slice c.ps.A c.ps.l.length c.ps.c),.v (.slice c.gs.A c.gs.l.length c.gs.c),.v (.int .i64 c.least),.v (.int .i64 c.term)]),.blk 96 (.c [.v (.int .i64 g.place),.v (.slice g.ids.A g.ids.l.length g.ids.c),.v (.int .i64 g.need)]),.own 3 (.i64 g.ids.l)]⟩
 |2=>⟨[(52,.x (.a (.v (.int .i64 p)))),(53,.x (.a (.v (.int .i64 gen)))),(55,.x (.a (.v (.int .i64 c.dim)))),(57,.x (.a (.v (.int .i64 c.term)))),(59,.x (.a (.v (.int .i64 g.need)))),(65,.x (.a (.v (.int .i64 par)))),(66,.x (.a (.v (.slice A1 ab.length cap1)))),(68,.x (.a (.v (.slice g.ids.A g.ids.l.length g.ids.c)))),(70,.x (.a (.o 3)))],[.abs (fctRep [⟨.slice A1 ab.length cap1,ab.length,ab.map (Value.int .i64)⟩]),.blk 38 (.c [.v (.int .i64 c.dim),.v (.slice c.ps.A c.ps.l.length c.ps.c),.v (.slice c.gs.A c.gs.l.length c.gs.c),.v (.int .i64 c.least),.v (.int .i64 c.term)]),.blk 96 (.c [.v (.int .i64 g.place),.v (.slice g.ids.A g.ids.l.length g.ids.c),.v (.int .i64 g.need)]),.mp .i64 []]⟩
 |3=>⟨[(52,.x (.a (.v (.int .i64 p)))),(53,.x (.a (.v (.int .i64 gen)))),(55,.x (.a (.v (.int .i64 c.dim)))),(57,.x (.a (.v (.int .i64 c.term)))),(59,.x (.a (.v (.int .i64 g.need)))),(65,.x (.a (.v (.int .i64 par)))),(66,.x (.a (.v (.slice A1 ab.length cap1)))),(68,.x (.a (.v (.slice g.ids.A g.ids.l.length g.ids.c)))),(71,.x (.a (.o 3)))],[.abs (fctRep [⟨.slice A1 ab.length cap1,ab.length,ab.map (Value.int .i64)⟩]),.blk 38 (.c [.v (.int .i64 c.dim),.v (.slice c.ps.A c.ps.l.length c.ps.c),.v (.slice c.gs.A c.gs.l.length c.gs.c),.v (.int .i64 c.least),.v (.int .i64 c.term)]),.blk 96 (.c [.v (.int .i64 g.place),.v (.slice g.ids.A g.ids.l.length g.ids.c),.v (.int .i64 g.need)]),.mp .i64 []]⟩
 |4=>⟨[(52,.x (.a (.v (.int .i64 p)))),(53,.x (.a (.v (.int .i64 gen)))),(55,.x (.a (.v (.int .i64 c.dim)))),(57,.x (.a (.v (.int .i64 c.term)))),(59,.x (.a (.v (.int .i64 g.need)))),(65,.x (.a (.v (.int .i64 par)))),(66,.x (.a (.v (.slice A1 ab.length cap1)))),(68,.x (.a (.v (.slice g.ids.A g.ids.l.length g.ids.c)))),(72,.x (.a (.o 3)))],[.abs (fctRep [⟨.slice A1 ab.length cap1,ab.length,ab.map (Value.int .i64)⟩]),.blk 38 (.c [.v (.int .i64 c.dim),.v (.slice c.ps.A c.ps.l.length c.ps.c),.v (.slice c.gs.A c.gs.l.length c.gs.c),.v (.int .i64 c.least),.v (.int .i64 c.term)]),.blk 96 (.c [.v (.int .i64 g.place),.v (.slice g.ids.A g.ids.l.length g.ids.c),.v (.int .i64 g.need)]),.mp .i64 []]⟩
 |5=>⟨[(52,.x (.a (.v (.int .i64 p)))),(53,.x (.a (.v (.int .i64 gen)))),(55,.x (.a (.v (.int .i64 c.dim)))),(57,.x (.a (.v (.int .i64 c.term)))),(59,.x (.a (.v (.int .i64 g.need)))),(65,.x (.a (.v (.int .i64 par)))),(66,.x (.a (.v (.slice A1 ab.length cap1)))),(68,.x (.a (.v (.slice g.ids.A g.ids.l.length g.ids.c)))),(69,.x (.a (.o 3))),(70,.x (.a (.o 4)))],[.abs (fctRep [⟨.slice A1 ab.length cap1,ab.length,ab.map (Value.int .i64)⟩]),.blk 38 (.c [.v (.int .i64 c.dim),.v (.slice c.ps.A c.ps.l.length c.ps.c),.v (.slice c.gs.A c.gs.l.length c.gs.c),.v (.int .i64 c.least),.v (.int .i64 c.term)]),.blk 96 (.c [.v (.int .i64 g.place),.v (.slice g.ids.A g.ids.l.length g.ids.c),.v (.int .i64 g.need)]),.own 3 (.i64 g.ids.l),.mp .i64 []]⟩
 |6=>⟨[(52,.x (.a (.v (.int .i64 p)))),(53,.x (.a (.v (.int .i64 gen)))),(55,.x (.a (.v (.int .i64 c.dim)))),(57,.x (.a (.v (.int .i64 c.term)))),(59,.x (.a (.v (.int .i64 g.need)))),(65,.x (.a (.v (.int .i64 par)))),(66,.x (.a (.v (.slice A1 ab.length cap1)))),(68,.x (.a (.v (.slice g.ids.A g.ids.l.length g.ids.c)))),(69,.x (.a (.o 3))),(71,.x (.a (.o 4)))],[.abs (fctRep [⟨.slice A1 ab.length cap1,ab.length,ab.map (Value.int .i64)⟩]),.blk 38 (.c [.v (.int .i64 c.dim),.v (.slice c.ps.A c.ps.l.length c.ps.c),.v (.slice c.gs.A c.gs.l.length c.gs.c),.v (.int .i64 c.least),.v (.int .i64 c.term)]),.blk 96 (.c [.v (.int .i64 g.place),.v (.slice g.ids.A g.ids.l.length g.ids.c),.v (.int .i64 g.need)]),.own 3 (.i64 g.ids.l),.mp .i64 []]⟩
 |7=>⟨[(52,.x (.a (.v (.int .i64 p)))),(53,.x (.a (.v (.int .i64 gen)))),(55,.x (.a (.v (.int .i64 c.dim)))),(57,.x (.a (.v (.int .i64 c.term)))),(59,.x (.a (.v (.int .i64 g.need)))),(65,.x (.a (.v (.int .i64 par)))),(66,.x (.a (.v (.slice A1 ab.length cap1)))),(68,.x (.a (.v (.slice g.ids.A g.ids.l.length g.ids.c)))),(69,.x (.a (.o 3))),(72,.x (.a (.o 4)))],[.abs (fctRep [⟨.slice A1 ab.length cap1,ab.length,ab.map (Value.int .i64)⟩]),.blk 38 (.c [.v (.int .i64 c.dim),.v (.slice c.ps.A c.ps.l.length c.ps.c),.v (.slice c.gs.A c.gs.l.length c.gs.c),.v (.int .i64 c.least),.v (.int .i64 c.term)]),.blk 96 (.c [.v (.int .i64 g.place),.v (.slice g.ids.A g.ids.l.length g.ids.c),.v (.int .i64 g.need)]),.own 3 (.i64 g.ids.l),.mp .i64 []]⟩
 |8=>⟨[(52,.x (.a (.v (.int .i64 p)))),(53,.x (.a (.v (.int .i64 gen)))),(55,.x (.a (.v (.int .i64 c.dim)))),(57,.x (.a (.v (.int .i64 c.term)))),(59,.x (.a (.v (.int .i64 g.need)))),(65,.x (.a (.v (.int .i64 par)))),(66,.x (.a (.v (.slice A1 ab.length cap1)))),(68,.x (.a (.v (.slice g.ids.A g.ids.l.length g.ids.c)))),(70,.x (.a (.o 3))),(71,.x (.a (.o 4)))],[.abs (fctRep [⟨.slice A1 ab.length cap1,ab.length,ab.map (Value.int .i64)⟩]),.blk 38 (.c [.v (.int .i64 c.dim),.v (.slice c.ps.A c.ps.l.length c.ps.c),.v (.slice c.gs.A c.gs.l.length c.gs.c),.v (.int .i64 c.least),.v (.int .i64 c.term)]),.blk 96 (.c [.v (.int .i64 g.place),.v (.slice g.ids.A g.ids.l.length g.ids.c),.v (.int .i64 g.need)]),.mp .i64 [],.mp .i64 []]⟩
 |9=>⟨[(52,.x (.a (.v (.int .i64 p)))),(53,.x (.a (.v (.int .i64 gen)))),(55,.x (.a (.v (.int .i64 c.dim)))),(57,.x (.a (.v (.int .i64 c.term)))),(59,.x (.a (.v (.int .i64 g.need)))),(65,.x (.a (.v (.int .i64 par)))),(66,.x (.a (.v (.slice A1 ab.length cap1)))),(68,.x (.a (.v (.slice g.ids.A g.ids.l.length g.ids.c)))),(70,.x (.a (.o 3))),(72,.x (.a (.o 4)))],[.abs (fctRep [⟨.slice A1 ab.length cap1,ab.length,ab.map (Value.int .i64)⟩]),.blk 38 (.c [.v (.int .i64 c.dim),.v (.slice c.ps.A c.ps.l.length c.ps.c),.v (.slice c.gs.A c.gs.l.length c.gs.c),.v (.int .i64 c.least),.v (.int .i64 c.term)]),.blk 96 (.c [.v (.int .i64 g.place),.v (.slice g.ids.A g.ids.l.length g.ids.c),.v (.int .i64 g.need)]),.mp .i64 [],.mp .i64 []]⟩
 |10=>⟨[(52,.x (.a (.v (.int .i64 p)))),(53,.x (.a (.v (.int .i64 gen)))),(55,.x (.a (.v (.int .i64 c.dim)))),(57,.x (.a (.v (.int .i64 c.term)))),(59,.x (.a (.v (.int .i64 g.need)))),(65,.x (.a (.v (.int .i64 par)))),(66,.x (.a (.v (.slice A1 ab.length cap1)))),(68,.x (.a (.v (.slice g.ids.A g.ids.l.length g.ids.c)))),(71,.x (.a (.o 3))),(72,.x (.a (.o 4)))],[.abs (fctRep [⟨.slice A1 ab.length cap1,ab.length,ab.map (Value.int .i64)⟩]),.blk 38 (.c [.v (.int .i64 c.dim),.v (.slice c.ps.A c.ps.l.length c.ps.c),.v (.slice c.gs.A c.gs.l.length c.gs.c),.v (.int .i64 c.least),.v (.int .i64 c.term)]),.blk 96 (.c [.v (.int .i64 g.place),.v (.slice g.ids.A g.ids.l.length g.ids.c),.v (.int .i64 g.need)]),.mp .i64 [],.mp .i64 []]⟩
 |11=>⟨[(52,.x (.a (.v (.int .i64 p)))),(53,.x (.a (.v (.int .i64 gen)))),(55,.x (.a (.v (.int .i64 c.dim)))),(57,.x (.a (.v (.int .i64 c.term)))),(59,.x (.a (.v (.int .i64 g.need)))),(65,.x (.a (.v (.int .i64 par)))),(66,.x (.a (.v (.slice A1 ab.length cap1)))),(68,.x (.a (.v (.slice g.ids.A g.ids.l.length g.ids.c)))),(69,.x (.a (.o 3))),(70,.x (.a (.o 4))),(71,.x (.a (.o 5)))],[.abs (fctRep [⟨.slice A1 ab.length cap1,ab.length,ab.map (Value.int .i64)⟩]),.blk 38 (.c [.v (.int .i64 c.dim),.v (.slice c.ps.A c.ps.l.length c.ps.c),.v (.slice c.gs.A c.gs.l.length c.gs.c),.v (.int .i64 c.least),.v (.int .i64 c.term)]),.blk 96 (.c [.v (.int .i64 g.place),.v (.slice g.ids.A g.ids.l.length g.ids.c),.v (.int .i64 g.need)]),.own 3 (.i64 g.ids.l),.mp .i64 [],.mp .i64 []]⟩
 |12=>⟨[(52,.x (.a (.v (.int .i64 p)))),(53,.x (.a (.v (.int .i64 gen)))),(55,.x (.a (.v (.int .i64 c.dim)))),(57,.x (.a (.v (.int .i64 c.term)))),(59,.x (.a (.v (.int .i64 g.need)))),(65,.x (.a (.v (.int .i64 par)))),(66,.x (.a (.v (.slice A1 ab.length cap1)))),(68,.x (.a (.v (.slice g.ids.A g.ids.l.length g.ids.c)))),(69,.x (.a (.o 3))),(70,.x (.a (.o 4))),(72,.x (.a (.o 5)))],[.abs (fctRep [⟨.slice A1 ab.length cap1,ab.length,ab.map (Value.int .i64)⟩]),.blk 38 (.c [.v (.int .i64 c.dim),.v (.slice c.ps.A c.ps.l.length c.ps.c),.v (.slice c.gs.A c.gs.l.length c.gs.c),.v (.int .i64 c.least),.v (.int .i64 c.term)]),.blk 96 (.c [.v (.int .i64 g.place),.v (.slice g.ids.A g.ids.l.length g.ids.c),.v (.int .i64 g.need)]),.own 3 (.i64 g.ids.l),.mp .i64 [],.mp .i64 []]⟩
 |13=>⟨[(52,.x (.a (.v (.int .i64 p)))),(53,.x (.a (.v (.int .i64 gen)))),(55,.x (.a (.v (.int .i64 c.dim)))),(57,.x (.a (.v (.int .i64 c.term)))),(59,.x (.a (.v (.int .i64 g.need)))),(65,.x (.a (.v (.int .i64 par)))),(66,.x (.a (.v (.slice A1 ab.length cap1)))),(68,.x (.a (.v (.slice g.ids.A g.ids.l.length g.ids.c)))),(69,.x (.a (.o 3))),(71,.x (.a (.o 4))),(72,.x (.a (.o 5)))],[.abs (fctRep [⟨.slice A1 ab.length cap1,ab.length,ab.map (Value.int .i64)⟩]),.blk 38 (.c [.v (.int .i64 c.dim),.v (.slice c.ps.A c.ps.l.length c.ps.c),.v (.slice c.gs.A c.gs.l.length c.gs.c),.v (.int .i64 c.least),.v (.int .i64 c.term)]),.blk 96 (.c [.v (.int .i64 g.place),.v (.slice g.ids.A g.ids.l.length g.ids.c),.v (.int .i64 g.need)]),.own 3 (.i64 g.ids.l),.mp .i64 [],.mp .i64 []]⟩
 |14=>⟨[(52,.x (.a (.v (.int .i64 p)))),(53,.x (.a (.v (.int .i64 gen)))),(55,.x (.a (.v (.int .i64 c.dim)))),(57,.x (.a (.v (.int .i64 c.term)))),(59,.x (.a (.v (.int .i64 g.need)))),(65,.x (.a (.v (.int .i64 par)))),(66,.x (.a (.v (.slice A1 ab.length cap1)))),(68,.x (.a (.v (.slice g.ids.A g.ids.l.length g.ids.c)))),(70,.x (.a (.o 3))),(71,.x (.a (.o 4))),(72,.x (.a (.o 5)))],[.abs (fctRep [⟨.slice A1 ab.length cap1,ab.length,ab.map (Value.int .i64)⟩]),.blk 38 (.c [.v (.int .i64 c.dim),.v (.slice c.ps.A c.ps.l.length c.ps.c),.v (.slice c.gs.A c.gs.l.length c.gs.c),.v (.int .i64 c.least),.v (.int .i64 c.term)]),.blk 96 (.c [.v (.int .i64 g.place),.v (.slice g.ids.A g.ids.l.length g.ids.c),.v (.int .i64 g.need)]),.mp .i64 [],.mp .i64 [],.mp .i64 []]⟩
 |15=>⟨[(52,.x (.a (.v (.int .i64 p)))),(53,.x (.a (.v (.int .i64 gen)))),(55,.x (.a (.v (.int .i64 c.dim)))),(57,.x (.a (.v (.int .i64 c.term)))),(59,.x (.a (.v (.int .i64 g.need)))),(65,.x (.a (.v (.int .i64 par)))),(66,.x (.a (.v (.slice A1 ab.length cap1)))),(68,.x (.a (.v (.slice g.ids.A g.ids.l.length g.ids.c)))),(69,.x (.a (.o 3))),(70,.x (.a (.o 4))),(71,.x (.a (.o 5))),(72,.x (.a (.o 6)))],[.abs (fctRep [⟨.slice A1 ab.length cap1,ab.length,ab.map (Value.int .i64)⟩]),.blk 38 (.c [.v (.int .i64 c.dim),.v (.slice c.ps.A c.ps.l.length c.ps.c),.v (.slice c.gs.A c.gs.l.length c.gs.c),.v (.int .i64 c.least),.v (.int .i64 c.term)]),.blk 96 (.c [.v (.int .i64 g.place),.v (.slice g.ids.A g.ids.l.length g.ids.c),.v (.int .i64 g.need)]),.own 3 (.i64 g.ids.l),.mp .i64 [],.mp .i64 [],.mp .i64 []]⟩
 |_=>⟨[],[]⟩
def nwD:Dag:=[([true,true,true,true,true,true,true,true,true,true,true,true,true,true,true,true,true,false,false,false,false,false,false,false],[(17,1),(18,2),(19,3),(20,4)]),
 ([true,true,true,true,true,true,true,true,true,true,true,true,true,true,true,true,true,true,false,false,false,false,false,false],[(18,5),(19,6),(20,7)]),
 ([true,true,true,true,true,true,true,true,true,true,true,true,true,true,true,true,true,false,true,false,false,false,false,false],[(17,5),(19,8),(20,9)]),
 ([true,true,true,true,true,true,true,true,true,true,true,true,true,true,true,true,true,false,false,true,false,false,false,false],[(17,6),(18,8),(20,10)]),
 ([true,true,true,true,true,true,true,true,true,true,true,true,true,true,true,true,true,false,false,false,true,false,false,false],[(17,7),(18,9),(19,10)]),
 ([true,true,true,true,true,true,true,true,true,true,true,true,true,true,true,true,true,true,true,false,false,false,false,false],[(19,11),(20,12)]),
 ([true,true,true,true,true,true,true,true,true,true,true,true,true,true,true,true,true,true,false,true,false,false,false,false],[(18,11),(20,13)]),
 ([true,true,true,true,true,true,true,true,true,true,true,true,true,true,true,true,true,true,false,false,true,false,false,false],[(18,12),(19,13)]),
 ([true,true,true,true,true,true,true,true,true,true,true,true,true,true,true,true,true,false,true,true,false,false,false,false],[(17,11),(20,14)]),
 ([true,true,true,true,true,true,true,true,true,true,true,true,true,true,true,true,true,false,true,false,true,false,false,false],[(17,12),(19,14)]),
 ([true,true,true,true,true,true,true,true,true,true,true,true,true,true,true,true,true,false,false,true,true,false,false,false],[(17,13),(18,14)]),
 ([true,true,true,true,true,true,true,true,true,true,true,true,true,true,true,true,true,true,true,true,false,false,false,false],[(20,15)]),
 ([true,true,true,true,true,true,true,true,true,true,true,true,true,true,true,true,true,true,true,false,true,false,false,false],[(19,15)]),
 ([true,true,true,true,true,true,true,true,true,true,true,true,true,true,true,true,true,true,false,true,true,false,false,false],[(18,15)]),
 ([true,true,true,true,true,true,true,true,true,true,true,true,true,true,true,true,true,false,true,true,true,false,false,false],[(17,15)]),
 ([true,true,true,true,true,true,true,true,true,true,true,true,true,true,true,true,true,true,true,true,true,false,false,false],[])]
def r0L (c:CfR) (g:GrR) (p gen par:Int) (A1:Option Addr) (ab:List Int) (cap1:Nat) (A2:Option Addr) (cap2:Nat):LfR:=
 ⟨p,gen,c.dim,c.term,g.need,par,⟨A1,cap1,ab⟩,⟨A2,cap2,g.ids.l⟩,0,⟨none,0,[]⟩,⟨⟨none,0,[]⟩,⟨none,0,[]⟩,⟨none,0,[]⟩,0,0,0⟩,⟨none,0,[]⟩,[],[],[],zeroR,true⟩
def A26 (c:CfS) (p gen:Int) (x:Nat×LfR×List Fct):Prop:=x.2.1.s=LfS.new c (ix c.groups (B2 c p).toNat) p gen (ix c.places p.toNat).parent (ofP c p (abF c.places p.toNat))∧x.2.1.live=true∧LfOk x.2.2 x.2.1
theorem Aes (h:c.Ok w) (p:Int) {hp:List Res} {γ:List Nm} {w':World} {ow:Nat→Prop} (hS:Sat w No γ hp w'):Calls prog 51 #[.agg (cfV c).toArray,.int .i64 p] w' fun e w''=>∃(x:Option Addr×Nat) (γ1:List Nm),((ofP c.cf p (abF c.ps.l p.toNat)).length≤x.2∧x.2≤maxLen)∧e=.returned ((Sv.t [.a (.v (.slice x.1 (ofP c.cf p (abF c.ps.l p.toNat)).length x.2)),.a (.v (tcF c.cf p))]).val [])∧Sat w' No γ1 [.abs (fctRep [⟨.slice x.1 (ofP c.cf p (abF c.ps.l p.toNat)).length x.2,(ofP c.cf p (abF c.ps.l p.toNat)).length,(ofP c.cf p (abF c.ps.l p.toNat)).map (Value.int .i64)⟩])] w'':=by
 refine (Acw c p w' (h.later hS)).mono fun e w'' ⟨v,he,hO,hB⟩=>?_
 obtain⟨x,γ1,h1,h2,h3⟩:=W1 hO hB
 rw[List.length_map] at h1 h2 h3
 exact⟨x,γ1,h1,by rw[he,h2];rfl,h3⟩
end
end
end Go.Proofs.YtedaafmfjhjfmaaGreatDoor
