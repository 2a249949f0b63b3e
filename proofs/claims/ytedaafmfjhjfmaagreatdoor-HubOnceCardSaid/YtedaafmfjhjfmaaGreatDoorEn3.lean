import Derived.Test.YtedaafmfjhjfmaaGreatDoorEn2
import Derived.Deep.LoopGhost
/- En3: Ed, Ee, Ef, Eg, Eh, Ei, joined. -/
/- The engine: code does what its term says. No program in sight. -/
namespace Go.Proofs.YtedaafmfjhjfmaaGreatDoor
open Go.RowKit
set_option linter.unusedSimpArgs false
section
section
variable {P:Program} {w0:World} {ow:Nat→Prop} {n:Nat}
theorem Oper.wp_mono3 {o:Oper} {a:Act} {w:World} {K K':Act→World→Prop} {Q Q':Exit→Act→World→Prop} (h:∀a w,K a w→K' a w) (hq:∀e a w,Q e a w→Q' e a w) (hh:o.wp P a w K Q):o.wp P a w K' Q':=by
 unfold Oper.wp at*
 generalize (execOp a.eval o).run P w=r at*
 cases r with
 |ok n w'=>
  cases n<;>simp only[Oper.upon] at hh ⊢<;>
   first
    |exact h _ _ hh
    |exact Calls.mono hh (fun e w'' he=>by
      cases e with
      |returned v=>exact h _ _ he
      |panicked c=>exact hq _ _ _ he
      |outgrown=>obtain⟨a',w',h1⟩:=he;exact⟨a',w',hq _ _ _ h1⟩)
    |exact Rows.mono hh (fun _ _ he=>h _ _ he)
 |halt x w'=>cases x<;>simp only[Oper.upon] at hh ⊢<;>first|exact hq _ _ _ hh|exact hh
theorem Jk {ops:Array Oper} {Q Q':Exit→Act→World→Prop} (hq:∀e a w,Q e a w→Q' e a w):∀(l:List Oper) (a:Act) (w:World),wpList P ops Q l a w→wpList P ops Q' l a w
 |[],a,w,h=>hq _ _ _ h
 |o::rest,a,w,h=>by
  unfold wpList at h ⊢
  split
  ·rename_i hw
   rw[if_pos hw] at h
   rcases h with h|⟨h1,a',w',h2⟩
   ·exact .inl (Oper.wp_mono3 (Jk hq rest) hq h)
   ·exact .inr ⟨h1,a',w',hq _ _ _ h2⟩
  ·rename_i hw
   rw[if_neg hw] at h
   exact Jk hq rest _ _ h
theorem Fr.get_put (fr:Fr) (d t:Nat) (v:Sv):Fr.get (Fr.put fr d v) t=if d=t then some v else Fr.get fr t:=rfl
theorem Fr.get_mem {fr:Fr} {t:Nat} {v:Sv} (h:Fr.get fr t=some v):(t,v)∈fr:=by
 induction fr with
 |nil=>cases h
 |cons p r ih=>
  obtain⟨k,x⟩:=p
  simp only[Fr.get] at h
  split at h
  ·rename_i hk
   cases h
   subst hk
   simp
  ·exact List.mem_cons_of_mem _ (ih h)
section
variable {γ:List Nm} {s s':S} {a:Act} {w:World}
theorem FitsAt.ev (h:FitsAt w0 ow n γ s a w) {x:Operand} {sv:Sv} (hx:Fr.ev s.fr x=some sv):a.eval x=sv.val γ:=by
 cases x with
 |tmp t=>exact h.at_ t sv hx
 |const v=>simp only[Fr.ev,Option.some.injEq] at hx;subst hx;rfl
 |global g=>simp only[Fr.ev,Option.some.injEq] at hx;subst hx;rfl
 |func f=>simp only[Fr.ev,Option.some.injEq] at hx;subst hx;rfl
theorem Ns {m:Nat} (h:∀x∈s.fr,Sv.bnd m x.2) {x:Operand} {sv:Sv} (hx:Fr.ev s.fr x=some sv):sv.bnd m:=by
 cases x with
 |tmp t=>exact h _ (Fr.get_mem hx)
 |const v=>simp only[Fr.ev,Option.some.injEq] at hx;subst hx;trivial
 |global g=>simp only[Fr.ev,Option.some.injEq] at hx;subst hx;trivial
 |func f=>simp only[Fr.ev,Option.some.injEq] at hx;subst hx;trivial
theorem FitsAt.put {γ':List Nm} {hp':List Res} {w':World} (h:FitsAt w0 ow n γ s a w) (hS:Sat w0 ow γ' hp' w') (hg:∀t sv,Fr.get s.fr t=some sv→sv.val γ'=sv.val γ) {d:Option Tmp} (hd:dOk n d) {v:Sv} {x:Value} (hx:x=v.val γ'):
  FitsAt w0 ow n γ' (S.put ⟨s.fr,hp'⟩ d v) (a.put d x) w':=by
 cases d with
 |none=>exact⟨hS,h.defers,h.size,fun t sv ht=>(h.at_ t sv ht).trans (hg t sv ht).symm⟩
 |some d=>
  refine⟨hS,h.defers,?_,fun t sv ht=>?_⟩
  ·simp [Act.put,h.size]
  ·simp only[S.put,Fr.get_put] at ht
   have hlt:d < a.tmps.size:=by rw[h.size];exact hd
   show (a.tmps.setIfInBounds d x).getD t undef=_
   split at ht
   ·rename_i hdt
    subst hdt
    cases ht
    rw[hx]
    simp [hlt]
   ·rename_i hdt
    rw[hg t sv ht,←h.at_ t sv ht]
    simp [hdt]
theorem Aad {o:Oper} {c:Prop} (h:FitsAt w0 ow n γ s a w) (hs:Cf P w0 ow n o s=some (c,s')) (hc:c) {K:Act→World→Prop} {Q:Exit→Act→World→Prop}
  (hK:∀a' w',Fits w0 ow n s' a' w'→K a' w'):o.wp P a w K Q:=by
 unfold Cf at hs
 split at hs
 ·rename_i d v hp' hop
  simp only[Option.some.injEq,Prod.mk.injEq] at hs
  obtain⟨rfl,rfl⟩:=hs
  obtain⟨⟨h1,h2⟩,h3⟩:=hc
  obtain⟨γ',w',hS',hγ,hr⟩:=Nr (P:=P) (ρ:=a.eval) (o:=o) h.sat (fun x sv hx=>h.ev hx) hop h1 (fun hlt=>⟨fun x sv hx=>Ns (h3 hlt).1 hx,(h3 hlt).2⟩)
  have hg:∀t sv,Fr.get s.fr t=some sv→sv.val γ'=sv.val γ:=by
   intro t sv ht
   rcases hγ with rfl|⟨hlt,nm,rfl⟩
   ·rfl
   ·exact Sv.ext (by rw[h.sat.len];exact (h3 hlt).1 _ (Fr.get_mem ht))
  unfold Oper.wp
  rcases hr with hr|⟨hr,hv⟩
  ·rw[hr]
   exact hK _ _ ⟨γ',h.put hS' hg h2 rfl⟩
  ·rw[hr]
   subst hv
   exact hK _ _ ⟨γ',h.put hS' hg h2 rfl⟩
 ·cases hs
theorem Nt {ops:List Oper} {j:Nat} {b c:Bool} (h:FitsAt w0 ow n γ s a w) (hy:Ff ops s.fr j b=some c):(yielded ops.toArray a.tmps j=some b)↔c=b:=by
 unfold Ff at hy
 split at hy
 ·rename_i o ho
  split at hy
  ·rename_i d hd
   split at hy
   ·rename_i b' hb
    simp only[Option.some.injEq] at hy
    subst hy
    have h1:=h.at_ d _ hb
    have h2:a.tmps[d]?=some (.bool b'):=by
     cases hq:a.tmps[d]? with
     |none=>simp [hq,Sv.val,Sc.val,At.val,undef] at h1
     |some z=>
      simp [hq,Sv.val,Sc.val,At.val] at h1
      rw[h1]
    unfold yielded
    simp [ho,hd,h2]
   ·rename_i xs hb
    simp only[Option.some.injEq] at hy
    subst hy
    have h1:=h.at_ d _ hb
    have h2:yielded ops.toArray a.tmps j=none:=by
     unfold yielded
     simp only[List.getElem?_toArray,ho,hd,Option.bind_some]
     cases hq:a.tmps[d]? with
     |none=>rfl
     |some z=>
      simp [hq,Sv.val,Sc.val,At.val] at h1
      rw[h1]
    rw[h2]
    cases b<;>simp
   ·cases hy
  ·cases hy
 ·cases hy
def QR (w0:World) (ow:Nat→Prop) (n:Nat) (K:S→Prop):Exit→Act→World→Prop:=fun e a' w'=>e=.normal∧∃s',Fits w0 ow n s' a' w'∧K s'
theorem C4 {ops:List Oper} {K:S→Prop}:∀(l:List Oper) (s:S) (a:Act) (w:World),Ai P w0 ow n ops l s K→Fits w0 ow n s a w→wpList P ops.toArray (QR w0 ow n K) l a w
 |[],s,a,w,h,hf=>⟨rfl,s,hf,h⟩
 |o::rest,s,a,w,h,hf=>by
  unfold Ai at h
  split at h
  ·split at h
   ·rename_i hg
    exact h a w hf (by simp [Region.wanted,hg])
   ·rename_i j b hg
    obtain⟨γ,hfit⟩:=hf
    split at h
    ·rename_i c hy
     have hyy:=Nt hfit hy
     split at h
     ·rename_i hcb
      subst hcb
      exact h a w ⟨γ,hfit⟩ (by simp [Region.wanted,hg,hyy])
     ·rename_i hcb
      unfold wpList
      rw[if_neg (by simp [Region.wanted,hg,hyy,hcb])]
      exact C4 rest _ _ _ h.2 ⟨γ,hfit.put hfit.sat (fun _ _ _=>rfl) h.1 rfl⟩
    ·exact h.elim
  ·obtain⟨γ,hfit⟩:=hf
   split at h
   ·rename_i hg
    split at h
    ·rename_i c s' hs
     unfold wpList
     rw[if_pos (by simp [Region.wanted,hg])]
     exact .inl (Aad hfit hs h.1 fun a' w' hf'=>C4 rest s' a' w' h.2 hf')
    ·exact h a w ⟨γ,hfit⟩ (by simp [Region.wanted,hg])
   ·rename_i j b hg
    split at h
    ·rename_i c hy
     have hyy:=Nt hfit hy
     split at h
     ·rename_i hcb
      subst hcb
      split at h
      ·rename_i c' s' hs
       unfold wpList
       rw[if_pos (by simp [Region.wanted,hg,hyy])]
       exact .inl (Aad hfit hs h.1 fun a' w' hf'=>C4 rest s' a' w' h.2 hf')
      ·exact h a w ⟨γ,hfit⟩ (by simp [Region.wanted,hg,hyy])
     ·rename_i hcb
      unfold wpList
      rw[if_neg (by simp [Region.wanted,hg,hyy,hcb])]
      exact C4 rest _ _ _ h.2 ⟨γ,hfit.put hfit.sat (fun _ _ _=>rfl) h.1 rfl⟩
    ·exact h.elim
theorem Kp:∀(c:Code) (s:S) (K:Exit→S→Prop) (a:Act) (w:World),Cc P w0 ow n c s K→Fits w0 ow n s a w→c.wp P (den w0 ow n K) a w
 | .skip,s,K,a,w,h,hf=>wp_skip ⟨s,hf,h⟩
 | .region id ops draw,s,K,a,w,h,hf=>by
  unfold Cc at h
  split at h
  ·rename_i hd
   subst hd
   have:=h a w hf
   rwa [Array.toArray_toList] at this
  ·rename_i hd
   have hd':draw=false:=by simpa using hd
   subst hd'
   refine wp_region_list ?_
   have:=C4 _ s a w h hf
   rw[Array.toArray_toList] at this
   refine Jk (fun e a' w' hq=>?_) _ _ _ this
   obtain⟨rfl,s',h1,h2⟩:=hq
   exact⟨s',h1,h2⟩
 | .seq x y,s,K,a,w,h,hf=>by
  refine wp_seq (wp_mono (Kp x s _ a w h hf) fun e a' w' hq=>?_)
  obtain⟨s',h1,h2⟩:=hq
  cases e with
  |normal=>exact Kp y s' K a' w' h2 h1
  |exit id=>exact⟨s',h1,h2⟩
  |goto l=>exact⟨s',h1,h2⟩
  |ret=>exact⟨s',h1,h2⟩
  |panic ch=>exact⟨s',h1,h2⟩
  |outgrown=>exact⟨s',h1,h2⟩
 | .cond c x y,s,K,a,w,h,hf=>by
  obtain⟨γ,hfit⟩:=hf
  unfold Cc at h
  split at h
  ·rename_i b hb
   refine wp_cond (t:=b) (hfit.ev hb) ?_
   cases b
   ·exact Kp y s K a w h ⟨γ,hfit⟩
   ·exact Kp x s K a w h ⟨γ,hfit⟩
  ·exact h.elim
 | .block id c,s,K,a,w,h,hf=>by
  refine wp_block (wp_mono (Kp c s _ a w h hf) fun e a' w' hq=>?_)
  obtain⟨s',h1,h2⟩:=hq
  cases e with
  |normal=>exact⟨s',h1,h2⟩
  |exit i=>
   simp only[InB] at h2
   simp only[Exit.inBlock]
   split at h2
   ·rename_i hi;rw[if_pos hi];exact⟨s',h1,h2⟩
   ·rename_i hi;rw[if_neg hi];exact⟨s',h1,h2⟩
  |goto l=>exact⟨s',h1,h2⟩
  |ret=>exact⟨s',h1,h2⟩
  |panic ch=>exact⟨s',h1,h2⟩
  |outgrown=>exact⟨s',h1,h2⟩
 | .loop c,s,K,a,w,h,hf=>h a w hf
 | .exit id,s,K,a,w,h,hf=>wp_exit ⟨s,hf,h⟩
 | .ret,s,K,a,w,h,hf=>wp_ret ⟨s,hf,h⟩
 | .rangeFunc _ _ _ _,_,_,_,_,h,_=>h.elim
 | .scope _,_,_,_,_,h,_=>h.elim
 | .label _,_,_,_,_,h,_=>h.elim
 | .goto _,_,_,_,_,h,_=>h.elim
 | .refuse _,_,_,_,_,h,_=>h.elim
end
end
end
section
section
variable {P:Program} {w0:World} {ow:Nat→Prop} {n:Nat}
def Ac (P:Program) (f:FuncId):Prop:=∀w args,(callFunc f args).run P w=.ok (.enter f args) w
theorem Aq {f:FuncId} {fn:Func} (hf:P.funcs[f]?=some fn) (hn:(fn.name=="runtime.NumGoroutine")=false) (hb:fn.body.isNone=false):Ac P f:=by
 intro w args
 have hp:(program).run P w=.ok P w:=rfl
 unfold callFunc
 rw[Sem.run_bind,hp,Result.andThen_ok]
 simp only[hf,hn,hb,Bool.false_eq_true,if_false]
 rfl
def Ad (P:Program) (w0:World) (ow:Nat→Prop) (f:FuncId) (svs:List Sv) (hp:List Res) (sv:Sv) (hp':List Res):Prop:=
 ∀γ w,Sat w0 ow γ hp w→Calls P f (svs.map (Sv.val γ)).toArray w fun e w'=>∃δ,e=.returned (sv.val (γ++δ))∧Sat w0 ow (γ++δ) hp' w'
def evs (fr:Fr):List Operand→Option (List Sv)
 |[]=>some []
 |x::r=>match Fr.ev fr x,evs fr r with
  |some a,some l=>some (a::l)
  |_,_=>none
theorem Gk {γ:List Nm} {s:S} {a:Act} {w:World} (h:FitsAt w0 ow n γ s a w):∀{xs:List Operand} {svs:List Sv},evs s.fr xs=some svs→xs.map a.eval=svs.map (Sv.val γ)
 |[],svs,hx=>by simp only[evs,Option.some.injEq] at hx;subst hx;rfl
 |x::r,svs,hx=>by
  unfold evs at hx
  split at hx
  ·rename_i b l h1 h2
   simp only[Option.some.injEq] at hx
   subst hx
   simp only[List.map_cons,h.ev h1,Gk h h2]
  ·cases hx
theorem Io {o:Oper} {f:FuncId} {xs:Array Operand} {tys:Array TypeId} {ρ:Operand→Value} {w:World} {args:Array Value} (ho:o.op=.call {callee:=.value (.func f),args:=xs,argTypes:=tys}) (hf:ρ (.func f)=.func (.func f) #[] #[]) (hcb:Ac P f)
  (ha:xs.map ρ=args):(execOp ρ o).run P w=.ok (.enter f args) w:=by
 unfold execOp
 simp only[ho,resolve,hf,Deferred.ofValue,Sem.run_bind,Sem.run_pure,Result.andThen_ok,invoke,ha,Array.empty_append,Array.append_empty]
 exact hcb w args
theorem Uy {o:Oper} {f:FuncId} {xs:List Operand} {tys:Array TypeId} {s:S} {γ:List Nm} {a:Act} {w:World} {svs:List Sv} {sv:Sv} {hp':List Res} {K:Act→World→Prop} {Q:Exit→Act→World→Prop}
  (hfit:FitsAt w0 ow n γ s a w) (ho:o.op=.call {callee:=.value (.func f),args:=xs.toArray,argTypes:=tys}) (hcb:Ac P f) (hev:evs s.fr xs=some svs) (hc:Ad P w0 ow f svs s.hp sv hp') (hd:dOk n o.dst) (hb:s.hp.length < hp'.length→s.bnd)
  (hK:∀δ a' w',FitsAt w0 ow n (γ++δ) (S.put ⟨s.fr,hp'⟩ o.dst sv) a' w'→K a' w'):o.wp P a w K Q:=by
 unfold Oper.wp
 rw[Io ho rfl hcb (args:=(svs.map (Sv.val γ)).toArray) (by rw[List.map_toArray,Gk hfit hev])]
 simp only[Oper.upon]
 refine (hc γ w hfit.sat).mono ?_
 rintro e w' ⟨δ,rfl,hS'⟩
 refine hK δ _ _ (hfit.put hS' (fun t sv' ht=>?_) hd rfl)
 have hl:=hfit.sat.len
 have hl':=hS'.len
 rw[List.length_append] at hl'
 cases δ with
 |nil=>rw[List.append_nil]
 |cons m r=>
  have hlt:s.hp.length < hp'.length:=by simp at hl';omega
  exact Sv.ext (by rw[hl];exact (hb hlt).1 _ (Fr.get_mem ht))
theorem Kq {ops:List Oper} {o:Oper} {rest:List Oper} {f:FuncId} {xs:List Operand} {tys:Array TypeId} {s:S} {svs:List Sv} {K:S→Prop} (ho:o.op=.call {callee:=.value (.func f),args:=xs.toArray,argTypes:=tys})
  (hcb:Ac P f) (hev:evs s.fr xs=some svs) {sv:Sv} {hp':List Res} (hc:Ad P w0 ow f svs s.hp sv hp') (hd:dOk n o.dst) (hb:s.hp.length < hp'.length→s.bnd)
  (h:Ai P w0 ow n ops rest (S.put ⟨s.fr,hp'⟩ o.dst sv) K):Ah P w0 ow n ops o rest s K:=by
 rintro a w ⟨γ,hfit⟩ hw
 unfold wpList
 rw[if_pos hw]
 exact .inl (Uy hfit ho hcb hev hc hd hb fun δ a' w' hf=>C4 rest _ _ _ h ⟨_,hf⟩)
theorem Bc {f:FuncId} {svs:List Sv} {hp:List Res} {sv:Sv} (h:∀γ w,Sat w0 ow γ hp w→Calls P f (svs.map (Sv.val γ)).toArray w fun e w'=>e=.returned (sv.val γ)∧Below w.heap.size w w'):Ad P w0 ow f svs hp sv hp:=
 fun γ w hS=>(h γ w hS).mono fun e w' ⟨he,hb⟩=>⟨[],by rw[List.append_nil];exact he,by rw[List.append_nil];exact hS.later hb⟩
theorem Own.base0 {w:World} {b:Nat} {e:TypeId} {v:Value} {vs:List Value} (h:Own w b e v vs):Own w 0 e v vs:=
 ⟨h.1,h.2.imp id fun⟨g,cap,cur,h1,_,h3⟩=>⟨g,cap,cur,h1,Nat.zero_le _,h3⟩⟩
theorem Sat.got {γ:List Nm} {hp:List Res} {w w':World} (hS:Sat w0 ow γ hp w) (hbr:∀r∈hp,Res.bnd hp.length r) (hb:Below w.heap.size w w') {e:TypeId} {v:Value} {c:Cont} (hc:c.bnd hp.length) (ho:Own w' w.heap.size e v (c.vals γ)):
  Sat w0 ow (γ++[.s v]) (hp++[.own e c]) w':=by
 have hl:=hS.len
 refine hS.push (X:=fun _=>False) (Keeps.of_below (own:=fun _=>False) hb) (fun b h=>h.elim) hbr ⟨by rw[D9 hl,A5 hl],?_⟩ ?_
 ·rw[A5 hl,Cont.ext (by rw[hl];exact hc)]
  exact ho.base0
 ·intro n hn
  simp only[Res.has,A5 hl] at hn
  have:=ho.lt n hn
  exact⟨.inr this.1,this.2⟩
theorem Ip {f:FuncId} {svs:List Sv} {hp:List Res} {e:TypeId} {c:Cont} (hbr:∀r∈hp,Res.bnd hp.length r) (hcb:c.bnd hp.length)
  (h:∀γ w,Sat w0 ow γ hp w→Calls P f (svs.map (Sv.val γ)).toArray w fun en w'=>∃v',en=.returned v'∧Own w' w.heap.size e v' (c.vals γ)∧Below w.heap.size w w'):Ad P w0 ow f svs hp (.x (.a (.o hp.length))) (hp++[.own e c]):=
 fun γ w hS=>(h γ w hS).mono fun en w' ⟨v',he,ho,hb⟩=>⟨[.s v'],by rw[he];simp [Sv.val,Sc.val,At.val,A5 hS.len],hS.got hbr hb hcb ho⟩
theorem Q7 {f:FuncId} {svs:List Sv} {hp:List Res} {e:TypeId} {c:Cont} {y:Value} (hbr:∀r∈hp,Res.bnd hp.length r) (hcb:c.bnd hp.length)
  (h:∀γ w,Sat w0 ow γ hp w→Calls P f (svs.map (Sv.val γ)).toArray w fun en w'=>∃v',en=.returned (.tuple #[v',y])∧Own w' w.heap.size e v' (c.vals γ)∧Below w.heap.size w w'):Ad P w0 ow f svs hp (.t [.a (.o hp.length),.a (.v y)]) (hp++[.own e c]):=
 fun γ w hS=>(h γ w hS).mono fun en w' ⟨v',he,ho,hb⟩=>⟨[.s v'],by rw[he];simp [Sv.val,Sc.val,At.val,A5 hS.len],hS.got hbr hb hcb ho⟩
def F6 (rd:Bool) (o:Op) (s s':S):Prop:=if rd=true then Im o=true∧s'.hp=s.hp else s'.hp.take s.hp.length=s.hp
def Au (P:Program) (w0:World) (ow:Nat→Prop) (n:Nat) (ops:List Oper) (o:Oper) (p:List (Nat×Bool)) (s:S) (K:S→Prop):Prop:=
 ∀γ a w,FitsAt w0 ow n γ s a w→o.wp P a w (fun a' w'=>∃C2:World→Prop,C2 w'∧(∀x,C2 x→Sat w0 ow γ s.hp x)∧Ca P ops.toArray (fun a' w'=>∃s',Fits w0 ow n s' a' w'∧K s') p C2 a' w') NoQ
def AnyM (P:Program) (w0:World) (ow:Nat→Prop) (n:Nat) (ops:List Oper) (i:Nat) (rd:Bool) (o:Oper) (p:List (Nat×Bool)) (s:S) (K:S→Prop):Prop:=
 ∀γ a w,FitsAt w0 ow n γ s a w→Region.wanted o (yielded ops.toArray a.tmps)=true→ops[i]?=some o→Ca P ops.toArray (fun a' w'=>∃s',Fits w0 ow n s' a' w'∧K s') ((i,rd)::p) (fun x=>Sat w0 ow γ s.hp x) a w
def Al (P:Program) (w0:World) (ow:Nat→Prop) (n:Nat) (ops:List Oper):List (Nat×Bool)→S→(S→Prop)→Prop
 |[],s,K=>K s
 |(i,rd)::p,s,K=>match ops[i]? with
  |none=>False
  |some o=>
   if Ho o.op=true then (match o.guard with
   |none=>rd=false∧Au P w0 ow n ops o p s K
   |some (j,b)=>match Ff ops s.fr j b with
    |some c=>if c=b then rd=false∧Au P w0 ow n ops o p s K else dOk n o.dst∧Al P w0 ow n ops p (s.put o.dst Ci) K
    |none=>False)
   else match o.guard with
   |none=>match Cf P w0 ow n o s with
    |some (c,s')=>c∧F6 rd o.op s s'∧Al P w0 ow n ops p s' K
    |none=>AnyM P w0 ow n ops i rd o p s K
   |some (j,b)=>match Ff ops s.fr j b with
    |some c=>if c=b then (match Cf P w0 ow n o s with|some (c,s')=>c∧F6 rd o.op s s'∧Al P w0 ow n ops p s' K|none=>AnyM P w0 ow n ops i rd o p s K) else dOk n o.dst∧Al P w0 ow n ops p (s.put o.dst Ci) K
    |none=>False
theorem Ajp {ops:List Oper} {s:S} {K:S→Prop}:Al P w0 ow n ops [] s K=K s:=Eq.trans rfl rfl
theorem Ajq {ops:List Oper} {i:Nat} {rd:Bool} {p:List (Nat×Bool)} {s:S} {K:S→Prop}:Al P w0 ow n ops ((i,rd)::p) s K=(match ops[i]? with
  |none=>False
  |some o=>
   if Ho o.op=true then (match o.guard with
   |none=>rd=false∧Au P w0 ow n ops o p s K
   |some (j,b)=>match Ff ops s.fr j b with
    |some c=>if c=b then rd=false∧Au P w0 ow n ops o p s K else dOk n o.dst∧Al P w0 ow n ops p (s.put o.dst Ci) K
    |none=>False)
   else match o.guard with
   |none=>match Cf P w0 ow n o s with
    |some (c,s')=>c∧F6 rd o.op s s'∧Al P w0 ow n ops p s' K
    |none=>AnyM P w0 ow n ops i rd o p s K
   |some (j,b)=>match Ff ops s.fr j b with
    |some c=>if c=b then (match Cf P w0 ow n o s with|some (c,s')=>c∧F6 rd o.op s s'∧Al P w0 ow n ops p s' K|none=>AnyM P w0 ow n ops i rd o p s K) else dOk n o.dst∧Al P w0 ow n ops p (s.put o.dst Ci) K
    |none=>False):=Eq.trans rfl rfl
theorem Sat.front {γ δ:List Nm} {hp rs:List Res} {w:World} (hS:Sat w0 ow (γ++δ) (hp++rs) w) (hl:γ.length=hp.length) (hbr:∀r∈hp,Res.bnd hp.length r):Sat w0 ow γ hp w:=by
 have at_:∀(k:Nat) (r:Res),hp[k]?=some r→(hp++rs)[k]?=some r:=fun k r hr=>by rw[List.getElem?_append_left (Ax hr)];exact hr
 have back:∀(k:Nat) (r:Res),hp[k]?=some r→r.holds (γ++δ) k w→r.holds γ k w:=by
  intro k r hr h
  have hk:k < γ.length:=by rw[hl];exact Ax hr
  have hb:r.bnd γ.length:=by rw[hl];exact hbr r (List.mem_of_getElem? hr)
  cases r with
  |gone=>trivial
  |blk t c=>simp only[Res.holds,Dv hk,getElem?_ext hk] at h ⊢;rw[Cont.ext hb] at h;exact h
  |own e c=>simp only[Res.holds,Df hk,getElem?_ext hk] at h ⊢;rw[Cont.ext hb] at h;exact h
  |lit e c=>simp only[Res.holds,Dv hk,getElem?_ext hk] at h ⊢;rw[Cont.ext hb] at h;exact h
  |str e c=>simp only[Res.holds,Df hk,getElem?_ext hk] at h ⊢;rw[Cont.ext hb] at h;exact h
  |it s pos=>simp only[Res.holds,Dv hk,getElem?_ext hk] at h ⊢;exact h
  |pin g t c=>simp only[Res.holds,Dv hk,getElem?_ext hk] at h ⊢;rw[Cont.ext hb] at h;exact h
  |onn e m c=>simp only[Res.holds,Df hk,getElem?_ext hk] at h ⊢;rw[Cont.ext hb] at h;exact h
  |abs R=>simp only[Res.holds,Df hk,Ue hk,getElem?_ext hk] at h ⊢;exact h
  |mp q l=>simp only[Res.holds,Df hk,getElem?_ext hk] at h ⊢;rw[Yi hb] at h;exact h
 refine⟨hS.keeps,hl,fun k r hr=>back k r hr (hS.holds k r (at_ k r hr)),fun k r b hr hb=>?_,fun j k r r' b hr hr' hjk hb hb'=>?_⟩
 ·exact hS.mine k r b (at_ k r hr) (by rw[Res.has_ext (by rw[hl];exact Ax hr)];exact hb)
 ·exact hS.apart j k r r' b (at_ j r hr) (at_ k r' hr') hjk (by rw[Res.has_ext (by rw[hl];exact Ax hr)];exact hb) (by rw[Res.has_ext (by rw[hl];exact Ax hr')];exact hb')
theorem Aae {o:Oper} {c:Prop} {rd:Bool} {ops:List Oper} {p:List (Nat×Bool)} {s s':S} {γ:List Nm} {a:Act} {w:World} {QK:Act→World→Prop} (h:FitsAt w0 ow n γ s a w) (hs:Cf P w0 ow n o s=some (c,s')) (hc:c) (ht:F6 rd o.op s s') (hw:Region.wanted o (yielded ops.toArray a.tmps)=true) {i:Nat} (hi:ops[i]?=some o)
  (hK:∀γ' a' w',FitsAt w0 ow n γ' s' a' w'→Ca P ops.toArray QK p (fun x=>Sat w0 ow γ' s'.hp x) a' w'):Ca P ops.toArray QK ((i,rd)::p) (fun x=>Sat w0 ow γ s.hp x) a w:=by
 have hs0:=hs
 unfold Cf at hs
 split at hs
 ·rename_i d v hp' hop
  simp only[Option.some.injEq,Prod.mk.injEq] at hs
  obtain⟨rfl,rfl⟩:=hs
  obtain⟨⟨h1,h2⟩,h3⟩:=hc
  simp only[Ca,List.getElem?_toArray,hi,hw,if_true]
  cases rd
  ·simp only[F6,Bool.false_eq_true,if_false] at ht ⊢
   obtain⟨γ',w',hS',hγ,hr⟩:=Nr (P:=P) (ρ:=a.eval) (o:=o) h.sat (fun x sv hx=>h.ev hx) hop h1 (fun hlt=>⟨fun x sv hx=>Ns (h3 hlt).1 hx,(h3 hlt).2⟩)
   have hhp:(S.put ⟨s.fr,hp'⟩ o.dst v).hp=hp':=by cases o.dst<;>rfl
   rw[hhp] at ht
   have hg:∀t sv,Fr.get s.fr t=some sv→sv.val γ'=sv.val γ:=by
    intro t sv ht
    rcases hγ with rfl|⟨hlt,nm,rfl⟩
    ·rfl
    ·exact Sv.ext (by rw[h.sat.len];exact (h3 hlt).1 _ (Fr.get_mem ht))
   have hback:∀x,Sat w0 ow γ' hp' x→Sat w0 ow γ s.hp x:=by
    intro x hx
    rcases hγ with rfl|⟨hlt,nm,rfl⟩
    ·have hl1:=h.sat.len
     have hl2:=hS'.len
     have:hp'=s.hp:=by rw[←ht,List.take_of_length_le (by omega)]
     rw[←this];exact hx
    ·rw[←List.take_append_drop s.hp.length hp',ht] at hx
     exact hx.front h.sat.len (h3 hlt).2
   have hfin:∀x,x=v.val γ'→Ca P ops.toArray QK p (fun x=>Sat w0 ow γ' hp' x) (a.put o.dst x) w':=fun x hx=>by
    have:=hK γ' _ w' (h.put hS' hg h2 hx)
    rw[hhp] at this
    exact this
   unfold Oper.wp
   rcases hr with hr|⟨hr,hv⟩
   ·rw[hr]
    exact⟨_,hS',hback,hfin _ rfl⟩
   ·rw[hr]
    subst hv
    exact⟨_,hS',hback,hfin _ rfl⟩
  ·simp only[F6,if_true] at ht ⊢
   obtain⟨ht,hsm⟩:=ht
   have hsame:hp'=s.hp:=by rw[←hsm];cases o.dst<;>rfl
   obtain⟨rfl,_⟩:=L5 (P:=P) (ρ:=a.eval) (o:=o) ht hsame h.sat (fun x sv hx=>h.ev hx) hop h1
   have hhp:(S.put ⟨s.fr,s.hp⟩ o.dst v).hp=s.hp:=by cases o.dst<;>rfl
   refine⟨v.val γ,fun x hx=>?_,?_⟩
   ·obtain⟨_,hr⟩:=L5 (P:=P) (w:=x) (ρ:=a.eval) (o:=o) ht rfl hx (fun x sv hx=>h.ev hx) hop h1
    unfold Hi
    rw[hr]
    exact⟨rfl,rfl⟩
   ·have:=hK γ _ w (h.put h.sat (fun _ _ _=>rfl) h2 rfl)
    rw[hhp] at this
    exact this
 ·cases hs
theorem Iq {ops:List Oper} {K:S→Prop}:∀(p:List (Nat×Bool)) (s:S) (γ:List Nm) (a:Act) (w:World),Al P w0 ow n ops p s K→FitsAt w0 ow n γ s a w→
  Ca P ops.toArray (fun a' w'=>∃s',Fits w0 ow n s' a' w'∧K s') p (fun x=>Sat w0 ow γ s.hp x) a w
 |[],s,γ,a,w,h,hf=>⟨s,⟨γ,hf⟩,h⟩
 |(i,rd)::p,s,γ,a,w,h,hf=>by
  unfold Al at h
  split at h
  ·exact h.elim
  ·rename_i o hi
   split at h
   ·split at h
    ·rename_i hg
     obtain⟨rfl,hm⟩:=h
     have:=hm γ a w hf
     simp only[Ca,List.getElem?_toArray,hi]
     rw[if_pos (by simp [Region.wanted,hg])]
     simpa using this
    ·rename_i j b hg
     split at h
     ·rename_i c hy
      have hyy:=Nt hf hy
      split at h
      ·rename_i hcb
       subst hcb
       obtain⟨rfl,hm⟩:=h
       have:=hm γ a w hf
       simp only[Ca,List.getElem?_toArray,hi]
       rw[if_pos (by simp [Region.wanted,hg,hyy])]
       simpa using this
      ·rename_i hcb
       simp only[Ca,List.getElem?_toArray,hi]
       rw[if_neg (by simp [Region.wanted,hg,hyy,hcb])]
       have:=Iq p _ γ _ _ h.2 (hf.put hf.sat (fun _ _ _=>rfl) h.1 rfl)
       have hhp:(S.put ⟨s.fr,s.hp⟩ o.dst Ci).hp=s.hp:=by cases o.dst<;>rfl
       rw[hhp] at this
       exact this
     ·exact h.elim
   ·split at h
    ·rename_i hg
     split at h
     ·rename_i c s' hs
      exact Aae hf hs h.1 h.2.1 (by simp [Region.wanted,hg]) hi fun γ' a' w' hf'=>Iq p s' γ' a' w' h.2.2 hf'
     ·exact h γ a w hf (by simp [Region.wanted,hg]) hi
    ·rename_i j b hg
     split at h
     ·rename_i c hy
      have hyy:=Nt hf hy
      split at h
      ·rename_i hcb
       subst hcb
       split at h
       ·rename_i c' s' hs
        exact Aae hf hs h.1 h.2.1 (by simp [Region.wanted,hg,hyy]) hi fun γ' a' w' hf'=>Iq p s' γ' a' w' h.2.2 hf'
       ·exact h γ a w hf (by simp [Region.wanted,hg,hyy]) hi
      ·rename_i hcb
       simp only[Ca,List.getElem?_toArray,hi]
       rw[if_neg (by simp [Region.wanted,hg,hyy,hcb])]
       have:=Iq p _ γ _ _ h.2 (hf.put hf.sat (fun _ _ _=>rfl) h.1 rfl)
       have hhp:(S.put ⟨s.fr,s.hp⟩ o.dst Ci).hp=s.hp:=by cases o.dst<;>rfl
       rw[hhp] at this
       exact this
     ·exact h.elim
theorem Uz {ops:List Oper} {o:Oper} {p:List (Nat×Bool)} {f:FuncId} {xs:List Operand} {tys:Array TypeId} {s:S} {svs:List Sv} {K:S→Prop} (ho:o.op=.call {callee:=.value (.func f),args:=xs.toArray,argTypes:=tys})
  (hcb:Ac P f) (hev:evs s.fr xs=some svs) {sv:Sv} {hp':List Res} (hc:Ad P w0 ow f svs s.hp sv hp') (hd:dOk n o.dst) (hb:s.hp.length < hp'.length→s.bnd) (he:hp'.take s.hp.length=s.hp)
  (h:Al P w0 ow n ops p (S.put ⟨s.fr,hp'⟩ o.dst sv) K):Au P w0 ow n ops o p s K:=by
 intro γ a w hf
 refine Uy hf ho hcb hev hc hd hb fun δ a' w' hf'=>?_
 have hhp:(S.put ⟨s.fr,hp'⟩ o.dst sv).hp=hp':=by cases o.dst<;>rfl
 have hsat:=hf'.sat
 rw[hhp] at hsat
 have h2:=Iq p _ _ _ _ h hf'
 rw[hhp] at h2
 refine⟨_,hsat,fun x hx=>?_,h2⟩
 have hl:=hf.sat.len
 have hl':=hsat.len
 rw[List.length_append] at hl'
 rw[←List.take_append_drop s.hp.length hp',he] at hx
 cases δ with
 |nil=>
  have:hp'.drop s.hp.length=[]:=by rw[List.drop_eq_nil_iff];simp at hl';omega
  rw[this,List.append_nil,List.append_nil] at hx
  exact hx
 |cons m r=>exact hx.front hl (hb (by simp at hl';omega)).2
theorem Fits.drawn {s:S} {a:Act} {w w':World} {γ:List Nm} (h:FitsAt w0 ow n γ s a w) (hd:Drawn w w'):FitsAt w0 ow n γ s a w':=⟨h.sat.drawn hd,h.defers,h.size,h.at_⟩
theorem B3 {id:Nat} {ops:List Oper} {s:S} {K:Exit→S→Prop} (p:List (Nat×Bool)) (hm:P.follows .mixedOrders=true) (hs:Region.noSelect ops.toArray=true) (hp:p.length=ops.length) (hB:Ih .any ops.toArray p (Array.replicate ops.length false)=true)
  (h:Al P w0 ow n ops p s (K .normal)):Ao P w0 ow n id ops s K:=by
 rintro a w ⟨γ,hf⟩
 refine X9 p hm hs hp hB (fun x=>Sat w0 ow γ s.hp x) fun w2 hd=>?_
 have hf2:=Fits.drawn hf hd.out
 exact⟨hf2.sat,Iq p s γ a w2 h hf2⟩
theorem Q8 {ops:Array Oper} {Q Q':Act→World→Prop} (hq:∀a w,Q a w→Q' a w):∀(p:List (Nat×Bool)) (C:World→Prop) (a:Act) (w:World),Ca P ops Q p C a w→Ca P ops Q' p C a w
 |[],_,a,w,h=>hq a w h
 |(i,rd)::p,C,a,w,h=>by
  unfold Ca at h ⊢
  split
  ·rename_i ho;simp only[ho] at h
  ·rename_i o ho
   simp only[ho] at h
   split
   ·rename_i hw
    simp only[hw,if_true] at h
    split
    ·rename_i hr
     simp only[hr,if_true] at h
     obtain⟨v,h1,h2⟩:=h
     exact⟨v,h1,Q8 hq p _ _ _ h2⟩
    ·rename_i hr
     simp only[hr] at h
     exact Ig (fun a' w' ⟨C2,h1,h2,h3⟩=>⟨C2,h1,h2,Q8 hq p _ _ _ h3⟩) h
   ·rename_i hw
    simp only[hw] at h
    exact Q8 hq p _ _ _ h
theorem Ha {id:Nat} {ops:List Oper} {s:S} {K:Exit→S→Prop} (m:Nat) (p:List (Nat×Bool)) (hm:P.follows .mixedOrders=true) (hB:T1 .any ops.toArray m p=true)
  (h:Al P w0 ow n ops p s (fun s'=>Ai P w0 ow n ops (ops.drop m) s' (K .normal))):Ao P w0 ow n id ops s K:=by
 rintro a w ⟨γ,hf⟩
 refine Agl m p hm hB (fun x=>Sat w0 ow γ s.hp x) fun w2 hd=>?_
 have hf2:=Fits.drawn hf hd.out
 refine⟨hf2.sat,Q8 (fun a' w' hq=>?_) _ _ _ _ (Iq p s γ a w2 h hf2)⟩
 obtain⟨s',h1,h2⟩:=hq
 refine Jk (fun e a'' w'' hq=>?_) _ _ _ (C4 _ s' a' w' h2 h1)
 obtain⟨rfl,s'',h3,h4⟩:=hq
 exact⟨s'',h3,h4⟩
end
end
section
def rn (ρ:List Nat) (k:Nat):Nat:=ρ.getD k 0
def At.ren (ρ:List Nat):At→At
 | .v x=>.v x
 | .p k off=>.p (rn ρ k) off
 | .s k off len cap=>.s (rn ρ k) off len cap
 | .o k=>.o (rn ρ k)
 | .q k i=>.q (rn ρ k) i
 | .z k l m=>.z (rn ρ k) l m
 | .y k m l n=>.y (rn ρ k) m l n
def Sc.ren (ρ:List Nat):Sc→Sc
 | .a x=>.a (x.ren ρ)
 | .a8 l=>.a8 l
 | .a32 l=>.a32 l
 | .a64 l=>.a64 l
 | .g l=>.g (l.map (At.ren ρ))
def Sv.ren (ρ:List Nat):Sv→Sv
 | .x s=>.x (s.ren ρ)
 | .t l=>.t (l.map (Sc.ren ρ))
 | .f fn caps=>.f fn (caps.map (At.ren ρ))
def Cont.ren (ρ:List Nat):Cont→Cont
 | .c l=>.c (l.map (At.ren ρ))
 |k=>k
def F9 (ρ:List Nat) (l:List (Int×Sc)):List (Int×Sc):=l.map fun p=>(p.1,p.2.ren ρ)
theorem Ajr (ρ:List Nat):F9 ρ []=[]:=rfl
theorem Ajs (ρ:List Nat) (p:Int×Sc) (l:List (Int×Sc)):F9 ρ (p::l)=(p.1,p.2.ren ρ)::F9 ρ l:=rfl
def Res.ren (ρ:List Nat):Res→Res
 | .blk t c=>.blk t (c.ren ρ)
 | .own e c=>.own e (c.ren ρ)
 | .lit e c=>.lit e (c.ren ρ)
 | .str e c=>.str e (c.ren ρ)
 | .it s pos=>.it s pos
 | .pin g t c=>.pin g t (c.ren ρ)
 | .onn e m c=>.onn e m (c.ren ρ)
 | .abs R=>.abs R
 | .mp q l=>.mp q (F9 ρ l)
 | .gone=>.gone
def Q9 (ρ:List Nat) (fr:Fr):Fr→Prop
 |[]=>True
 |(t,sv)::r=>Fr.get fr t=some (sv.ren ρ)∧Q9 ρ fr r
def Ir (ρ:List Nat) (hp:List Res):List Nat→List Res→Prop
 |[],[]=>True
 |k::ks,r::rs=>hp[k]?=some (r.ren ρ)∧Ir ρ hp ks rs
 |_,_=>False
def Ra (k:Nat):List Nat→Prop
 |[]=>True
 |j::r=>j≠k∧Ra k r
def L6:List Nat→Prop
 |[]=>True
 |k::r=>Ra k r∧L6 r
theorem Aaf {k:Nat}:∀{l:List Nat},Ra k l→k∉l
 |[],_=>by simp
 |j::r,h=>by
  simp only[List.mem_cons,not_or]
  exact⟨fun e=>h.1 e.symm,Aaf h.2⟩
theorem U0:∀{l:List Nat},L6 l→l.Nodup
 |[],_=>List.nodup_nil
 |_::_,h=>List.nodup_cons.2 ⟨Aaf h.1,U0 h.2⟩
def Le (ρ:List Nat) (s s':S):Prop:=Q9 ρ s.fr s'.fr∧Ir ρ s.hp ρ s'.hp∧L6 ρ∧s'.bnd
section
variable {P:Program} {w0:World} {ow:Nat→Prop} {n:Nat}
def reγ (ρ:List Nat) (γ:List Nm):List Nm:=ρ.map fun j=>γ.getD j (.b 0)
theorem Dh {ρ:List Nat} {γ:List Nm} {k:Nat} (hk:k < ρ.length) (hj:rn ρ k < γ.length):(reγ ρ γ)[k]?=γ[rn ρ k]?:=by
 have e:rn ρ k=ρ[k]:=by simp [rn,List.getD_eq_getElem?_getD,List.getElem?_eq_getElem hk]
 rw[e] at hj ⊢
 simp [reγ,List.getElem?_eq_getElem hk,List.getD_eq_getElem?_getD,List.getElem?_eq_getElem hj]
section
variable {ρ:List Nat} {γ:List Nm} (hρ:∀k,k < ρ.length→rn ρ k < γ.length)
include hρ
theorem Dl {k:Nat} (hk:k < ρ.length):nmB (reγ ρ γ) k=nmB γ (rn ρ k):=by unfold nmB;rw[Dh hk (hρ k hk)]
theorem Rb {k:Nat} (hk:k < ρ.length):nmM (reγ ρ γ) k=nmM γ (rn ρ k):=by unfold nmM;rw[Dh hk (hρ k hk)]
theorem Cx {k:Nat} (hk:k < ρ.length):nmS (reγ ρ γ) k=nmS γ (rn ρ k):=by unfold nmS;rw[Dh hk (hρ k hk)]
theorem At.re {x:At} (h:x.bnd ρ.length):x.val (reγ ρ γ)=(x.ren ρ).val γ:=by
 cases x<;>simp only[At.bnd] at h<;>simp only[At.val,At.ren]
 ·rw[Dl hρ h]
 ·rw[Dl hρ h]
 ·rw[Cx hρ h]
 ·rw[Cx hρ h]
 ·rw[Cx hρ h]
 ·rw[Cx hρ h]
theorem U1 {l:List At} (h:∀x∈l,x.bnd ρ.length):l.map (At.val (reγ ρ γ))=(l.map (At.ren ρ)).map (At.val γ):=by
 rw[List.map_map]
 exact List.map_congr_left fun x hx=>At.re hρ (h x hx)
theorem Sc.re {x:Sc} (h:x.bnd ρ.length):x.val (reγ ρ γ)=(x.ren ρ).val γ:=by
 cases x<;>simp only[Sc.bnd] at h<;>simp only[Sc.val,Sc.ren]
 ·exact At.re hρ h
 ·rw[U1 hρ h]
theorem Sv.re {x:Sv} (h:x.bnd ρ.length):x.val (reγ ρ γ)=(x.ren ρ).val γ:=by
 cases x<;>simp only[Sv.bnd] at h<;>simp only[Sv.val,Sv.ren]
 ·exact Sc.re hρ h
 ·rename_i l
  rw[List.map_map,show l.map (Sc.val (reγ ρ γ))=l.map (Sc.val γ ∘Sc.ren ρ) from List.map_congr_left fun x hx=>Sc.re hρ (h x hx)]
 ·rw[U1 hρ h]
theorem Cont.re {c:Cont} (h:c.bnd ρ.length):c.vals (reγ ρ γ)=(c.ren ρ).vals γ:=by
 cases c<;>simp only[Cont.bnd] at h<;>simp only[Cont.vals,Cont.ren]
 exact U1 hρ h
theorem U2 {q:IntKind} {l:List (Int×Sc)} (h:∀p∈l,Sc.bnd ρ.length p.2):mpE (reγ ρ γ) q l=mpE γ q (F9 ρ l):=by
 unfold mpE F9
 rw[List.map_map]
 exact List.map_congr_left fun p hp=>by simp only[Function.comp,Sc.re hρ (h p hp)]
end
theorem U3 {ρ:List Nat} {fr:Fr}:∀{fr':Fr},Q9 ρ fr fr'→∀t sv,Fr.get fr' t=some sv→Fr.get fr t=some (sv.ren ρ)
 |[],_,t,sv,h=>by cases h
 |(k,x)::r,hle,t,sv,h=>by
  simp only[Fr.get] at h
  split at h
  ·rename_i hk
   subst hk
   cases h
   exact hle.1
  ·exact U3 hle.2 t sv h
theorem Jl {ρ:List Nat} {hp:List Res}:∀{ks:List Nat} {rs:List Res},Ir ρ hp ks rs→ks.length=rs.length∧∀(k:Nat) (r:Res),rs[k]?=some r→hp[ks.getD k 0]?=some (r.ren ρ)
 |[],[],_=>⟨rfl,fun k r h=>by simp at h⟩
 |j::ks,q::rs,hle=>by
  obtain⟨h1,h2⟩:=Jl hle.2
  refine⟨by simp [h1],fun k r h=>?_⟩
  cases k with
  |zero=>simp only[List.getElem?_cons_zero,Option.some.injEq] at h;subst h;exact hle.1
  |succ k=>exact h2 k r (by simpa using h)
 |[],_::_,h=>h.elim
 |_::_,[],h=>h.elim
theorem Le.fits {ρ:List Nat} {s s':S} (hle:Le ρ s s') {a:Act} {w:World} (h:Fits w0 ow n s a w):Fits w0 ow n s' a w:=by
 obtain⟨γ,hf⟩:=h
 obtain⟨h1,h2,h3',h4⟩:=hle
 have h3:=U0 h3'
 obtain⟨hlen,hget⟩:=Jl h2
 have hl:=hf.sat.len
 have hρ:∀k,k < ρ.length→rn ρ k < γ.length:=fun k hk=>by
  have hk':k < s'.hp.length:=by omega
  have:=hget k _ (List.getElem?_eq_getElem hk')
  have:=Ax this
  rw[hl];exact this
 have hb1:∀x∈s'.fr,Sv.bnd ρ.length x.2:=fun x hx=>by rw[hlen];exact h4.1 x hx
 have hb2:∀r∈s'.hp,Res.bnd ρ.length r:=fun x hx=>by rw[hlen];exact h4.2 x hx
 have hres:∀(k:Nat) (r:Res),s'.hp[k]?=some r→s.hp[rn ρ k]?=some (r.ren ρ):=fun k r hr=>hget k r hr
 have hblk:∀(k:Nat) (r:Res),s'.hp[k]?=some r→r.has (reγ ρ γ) k=(r.ren ρ).has γ (rn ρ k):=by
  intro k r hr
  have hk:k < ρ.length:=by have:=Ax hr;omega
  cases r with
  |gone=>rfl
  |blk t c=>simp only[Res.has,Res.ren,Dl hρ hk]
  |own e c=>simp only[Res.has,Res.ren,Cx hρ hk]
  |lit e c=>simp only[Res.has,Res.ren,Dl hρ hk]
  |str e c=>simp only[Res.has,Res.ren,Cx hρ hk]
  |it s pos=>simp only[Res.has,Res.ren,Dl hρ hk]
  |pin g t c=>simp only[Res.has,Res.ren,Dl hρ hk]
  |onn e m c=>simp only[Res.has,Res.ren,Cx hρ hk]
  |abs R=>simp only[Res.has,Res.ren,Rb hρ hk]
  |mp q l=>simp only[Res.has,Res.ren,Cx hρ hk]
 have hinj:∀j k,j < ρ.length→k < ρ.length→j≠k→rn ρ j≠rn ρ k:=by
  intro j k hj hk hjk he
  have e1:rn ρ j=ρ[j]:=by simp [rn,List.getD_eq_getElem?_getD,List.getElem?_eq_getElem hj]
  have e2:rn ρ k=ρ[k]:=by simp [rn,List.getD_eq_getElem?_getD,List.getElem?_eq_getElem hk]
  rw[e1,e2] at he
  exact hjk ((List.getElem_inj h3).1 he)
 refine⟨reγ ρ γ,⟨hf.sat.keeps,by simp [reγ,hlen],fun k r hr=>?_,fun k r b hr hb=>?_,fun j k r r' b hr hr' hjk hb hb'=>?_⟩,hf.defers,hf.size,fun t sv ht=>?_⟩
 ·have hk:k < ρ.length:=by have:=Ax hr;omega
  have hq:=hf.sat.holds _ _ (hres k r hr)
  have hbd:=hb2 r (List.mem_of_getElem? hr)
  cases r with
  |gone=>trivial
  |blk t c=>
   simp only[Res.holds,Res.ren] at hq ⊢
   rw[Dh hk (hρ k hk),Dl hρ hk,Cont.re hρ hbd]
   exact hq
  |own e c=>
   simp only[Res.holds,Res.ren] at hq ⊢
   rw[Dh hk (hρ k hk),Cx hρ hk,Cont.re hρ hbd]
   exact hq
  |lit e c=>
   simp only[Res.holds,Res.ren] at hq ⊢
   rw[Dh hk (hρ k hk),Dl hρ hk,Cont.re hρ hbd]
   exact hq
  |str e c=>
   simp only[Res.holds,Res.ren] at hq ⊢
   rw[Dh hk (hρ k hk),Cx hρ hk,Cont.re hρ hbd]
   exact hq
  |it s pos=>
   simp only[Res.holds,Res.ren] at hq ⊢
   rw[Dh hk (hρ k hk),Dl hρ hk]
   exact hq
  |pin g t c=>
   simp only[Res.holds,Res.ren] at hq ⊢
   rw[Dh hk (hρ k hk),Dl hρ hk,Cont.re hρ hbd]
   exact hq
  |onn e m c=>
   simp only[Res.holds,Res.ren] at hq ⊢
   rw[Dh hk (hρ k hk),Cx hρ hk,Cont.re hρ hbd]
   exact hq
  |abs R=>
   simp only[Res.holds,Res.ren] at hq ⊢
   rw[Dh hk (hρ k hk),Cx hρ hk,Rb hρ hk]
   exact hq
  |mp q l=>
   simp only[Res.holds,Res.ren] at hq ⊢
   rw[Dh hk (hρ k hk),Cx hρ hk,U2 hρ hbd]
   exact hq
 ·rw[hblk k r hr] at hb
  exact hf.sat.mine _ _ b (hres k r hr) hb
 ·rw[hblk j r hr] at hb
  rw[hblk k r' hr'] at hb'
  exact hf.sat.apart _ _ _ _ b (hres j r hr) (hres k r' hr') (hinj j k (by have:=Ax hr;omega) (by have:=Ax hr';omega) hjk) hb hb'
 ·have h5:=U3 h1 t sv ht
  rw[hf.at_ t _ h5,Sv.re hρ (hb1 _ (Fr.get_mem ht))]
def Fh (w0:World) (ow:Nat→Prop) (n:Nat) (s s':S):Prop:=∀a w,Fits w0 ow n s a w→Fits w0 ow n s' a w
def Hq {ι:Type} (w0:World) (ow:Nat→Prop) (n:Nat) (I:ι→S) (Inv:ι→Prop) (μ:ι→Nat) (i:ι) (K:Exit→S→Prop):Exit→S→Prop
 | .normal,s=>∀a w,Fits w0 ow n s a w→∃j,Inv j∧μ j < μ i∧Fits w0 ow n (I j) a w
 |e,s=>K e s
section
variable {ι:Type} {I:ι→S} {Inv:ι→Prop} {μ:ι→Nat} {i:ι} {K:Exit→S→Prop} {s:S}
theorem Ba (j:ι) (ρ:List Nat) (h1:Inv j) (h2:μ j < μ i) (h3:Le ρ s (I j)):Hq w0 ow n I Inv μ i K .normal s:=fun _ _ h=>⟨j,h1,h2,h3.fits h⟩
theorem Ajt {s2:S} (h:Fh w0 ow n s s2) (h2:Hq w0 ow n I Inv μ i K .normal s2):Hq w0 ow n I Inv μ i K .normal s:=fun a w hf=>h2 a w (h a w hf)
theorem Aju {k:Nat}:Hq w0 ow n I Inv μ i K (.exit k) s=K (.exit k) s:=Eq.trans rfl rfl
theorem Ajv:Hq w0 ow n I Inv μ i K .ret s=K .ret s:=Eq.trans rfl rfl
end
theorem Bj {ι:Type} (I:ι→S) (Inv:ι→Prop) (μ:ι→Nat) {c:Code} {s:S} {K:Exit→S→Prop} (i0:ι) (ρ:List Nat) (h0:Inv i0) (hle:Le ρ s (I i0))
  (hr:∀i,Inv i→Cc P w0 ow n c (I i) (Hq w0 ow n I Inv μ i K)):Aj P w0 ow n c s K:=by
 intro a w hf
 refine wp_loop_ghost (fun m a w=>∃i,Inv i∧μ i=m∧Fits w0 ow n (I i) a w) (μ i0) ⟨i0,h0,rfl,hle.fits hf⟩ ?_
 rintro m a w ⟨i,hi,rfl,hfi⟩
 refine wp_mono (Kp c (I i) _ a w (hr i hi) hfi) fun e a' w' hq=>?_
 obtain⟨s',h1,h2⟩:=hq
 cases e with
 |normal=>
  obtain⟨j,h3,h4,h5⟩:=h2 _ _ h1
  exact⟨μ j,h4,j,h3,rfl,h5⟩
 |exit id=>exact⟨s',h1,h2⟩
 |goto l=>exact⟨s',h1,h2⟩
 |ret=>exact⟨s',h1,h2⟩
 |panic ch=>exact⟨s',h1,h2⟩
 |outgrown=>exact⟨s',h1,h2⟩
theorem Ajw {s:S} {a:Act} {w:World} (t:Nat) (e:TypeId) (c:Cont) (ht:Fr.get s.fr t=some (.x (.a (.v (.slice none 0 0))))) (hc:c.len=0) (hcb:c.bnd s.hp.length) (hb:s.bnd) (hf:Fits w0 ow n s a w):
  Fits w0 ow n ⟨Fr.put s.fr t (.x (.a (.o s.hp.length))),s.hp++[.own e c]⟩ a w:=by
 obtain⟨γ,hf⟩:=hf
 have hl:=hf.sat.len
 have hv:c.vals γ=[]:=List.eq_nil_of_length_eq_zero (by rw[Cont.len_vals,hc])
 have hS:Sat w0 ow (γ++[.s (.slice none 0 0)]) (s.hp++[.own e c]) w:=hf.sat.got hb.2 (Below.refl _ _) hcb (by rw[hv];exact Own.nil_ _ _ _)
 refine⟨_,hS,hf.defers,hf.size,fun u sv hu=>?_⟩
 rw[Fr.get_put] at hu
 split at hu
 ·rename_i htu
  subst htu
  cases hu
  rw[hf.at_ t _ ht]
  simp [Sv.val,Sc.val,At.val,A5 hl]
 ·rw[hf.at_ u sv hu]
  exact (Sv.ext (by rw[hl];exact hb.1 _ (Fr.get_mem hu))).symm
theorem L8 {c:Code} {s:S} {K:Exit→S→Prop} (t:Nat) (e:TypeId) (k:Cont) (ht:Fr.get s.fr t=some (.x (.a (.v (.slice none 0 0))))) (hc:k.len=0) (hcb:k.bnd s.hp.length) (hb:s.bnd)
  (h:Aj P w0 ow n c ⟨Fr.put s.fr t (.x (.a (.o s.hp.length))),s.hp++[.own e k]⟩ K):Aj P w0 ow n c s K:=
 fun a w hf=>h a w (Ajw t e k ht hc hcb hb hf)
def Hr (P:Program) (w0:World) (ow:Nat→Prop) (s:S):List ResultVar→Option (Prop×List Sc)
 |[]=>some (True,[])
 | .tmp t::r=>match Fr.get s.fr t,Hr P w0 ow s r with
  |some (.x x),some (c,l)=>some (c,x::l)
  |_,_=>none
 | .cell p t::r=>match Fr.get s.fr p,Hr P w0 ow s r with
  |some a,some (c,l)=>match Na P w0 ow t s.hp a with
   |some (d,.x x,_)=>some (d∧c,x::l)
   |_=>none
  |_,_=>none
def Rc:List Sc→Sv
 |[x]=>.x x
 |l=>.t l
def Fin (P:Program) (w0:World) (ow:Nat→Prop) (rs:List ResultVar) (T:Sv→List Res→Prop):Exit→S→Prop
 | .normal,s| .ret,s=>match Hr P w0 ow s rs with
  |some (c,l)=>c∧T (Rc l) s.hp
  |none=>False
 |_,_=>False
def Nu (tmps:Array Value):ResultVar→Sem Value
 | .tmp t=>pure (tmps.getD t undef)
 | .cell p t=>do loadVar t (←asAddr (tmps.getD p undef))
theorem U4 {s:S} {γ:List Nm} {a:Act} {w:World} (h:FitsAt w0 ow n γ s a w):∀{rs:List ResultVar} {c:Prop} {l:List Sc},Hr P w0 ow s rs=some (c,l)→c→
  (rs.mapM (Nu a.tmps)).run P w=.ok (l.map (Sc.val γ)) w
 |[],c,l,hr,_=>by simp only[Hr,Option.some.injEq,Prod.mk.injEq] at hr;obtain⟨_,rfl⟩:=hr;rfl
 | .tmp t::r,c,l,hr,hc=>by
  unfold Hr at hr
  split at hr
  ·rename_i x c' l' h1 h2
   simp only[Option.some.injEq,Prod.mk.injEq] at hr
   obtain⟨rfl,rfl⟩:=hr
   have ih:=U4 h h2 hc
   have h0:(Nu a.tmps (.tmp t)).run P w=.ok (x.val γ) w:=by
    show (pure (a.tmps.getD t undef):Sem Value).run P w=_
    rw[h.at_ t _ h1]
    rfl
   rw[List.mapM_cons,Sem.run_bind,h0,Result.andThen_ok,Sem.run_bind,ih]
   rfl
  ·cases hr
 | .cell p t::r,c,l,hr,hc=>by
  unfold Hr at hr
  split at hr
  ·rename_i x c' l' h1 h2
   split at hr
   ·rename_i d y hp' h3
    simp only[Option.some.injEq,Prod.mk.injEq] at hr
    obtain⟨rfl,rfl⟩:=hr
    have ih:=U4 h h2 hc.2
    obtain⟨_,hld⟩:=Ui h.sat h3 hc.1
    have h4:(Nu a.tmps (.cell p t)).run P w=.ok ((Sv.x y).val γ) w:=by
     show ((do loadVar t (←asAddr (a.tmps.getD p undef))):Sem Value).run P w=_
     rw[h.at_ p _ h1]
     cases hx:x.val γ with
     |pointer A=>
      cases A with
      |none=>rw[hx] at hld;simp [Instr.loadAt,Instr.sureAddr,Sem.run_bind] at hld
      |some ad=>
       rw[hx] at hld
       simpa [Instr.loadAt,Instr.sureAddr,Sem.run_bind,asAddr] using hld
     |_=>rw[hx] at hld;simp [Instr.loadAt,Instr.sureAddr,Sem.run_bind] at hld
    rw[List.mapM_cons,Sem.run_bind,h4,Result.andThen_ok,Sem.run_bind,ih]
    rfl
   ·cases hr
  ·cases hr
theorem Ajx {fn:Func} {s:S} {γ:List Nm} {a:Act} {w:World} (h:FitsAt w0 ow n γ s a w) {c:Prop} {l:List Sc} (hr:Hr P w0 ow s fn.results.toList=some (c,l)) (hc:c):(results fn a.tmps).run P w=.ok ((Rc l).val γ) w:=by
 have:=U4 h hr hc
 have e:results fn a.tmps=(do let vs ←fn.results.mapM (Nu a.tmps);pure (if h:vs.size=1 then vs[0] else .tuple vs)):=rfl
 have hm:(fn.results.mapM (Nu a.tmps)).run P w=.ok (l.map (Sc.val γ)).toArray w:=by
  rw[Array.mapM_eq_mapM_toList,Sem.run_map,this]
  rfl
 rw[e,Sem.run_bind,hm,Result.andThen_ok]
 rcases l with _|⟨x,_|⟨y,l⟩⟩
 ·rfl
 ·rfl
 ·rfl
def Ht:Nat→List Sv→Fr
 |_,[]=>[]
 |k,x::r=>(k,x)::Ht (k+1) r
theorem Aag:∀(svs:List Sv) (k t:Nat) (sv:Sv),Fr.get (Ht k svs) t=some sv→k≤t∧svs[t - k]?=some sv
 |[],k,t,sv,h=>by cases h
 |x::r,k,t,sv,h=>by
  simp only[Ht,Fr.get] at h
  split at h
  ·rename_i hk
   subst hk
   cases h
   simp
  ·rename_i hk
   obtain⟨h1,h2⟩:=Aag r (k+1) t sv h
   refine⟨by omega,?_⟩
   rw[show t - k=(t - (k+1))+1 from by omega,List.getElem?_cons_succ]
   exact h2
theorem Ma {f:FuncId} {fn:Func} {c:Code} (hf:P.funcs[f]?=some fn) (hb:fn.body=some c) (hn:fn.ntmps=n) {w:World} {γ:List Nm} {hp:List Res} (svs:List Sv) (hS:Sat w ow γ hp w) (hl:svs.length≤n) {R:Ending→World→Prop} (T:Sv→List Res→Prop)
  (hR:∀γ sv hp' w',Sat w ow γ hp' w'→T sv hp'→R (.returned (sv.val γ)) w')
  (h:Cc P w ow n c ⟨Ht 0 svs,hp⟩ (Fin P w ow fn.results.toList T)):Calls P f (svs.map (Sv.val γ)).toArray w R:=by
 refine calls_of_wp hf hb (wp_mono (Kp c _ _ _ w h ⟨γ,hS,rfl,?_,fun t sv ht=>?_⟩) fun e a' w' hq=>?_)
 ·simp [hn];omega
 ·obtain⟨_,h2⟩:=Aag svs 0 t sv ht
  rw[Nat.sub_zero] at h2
  have hlt:=Ax h2
  have e1:((svs.map (Sv.val γ)).toArray++Array.replicate (fn.ntmps - (svs.map (Sv.val γ)).toArray.size) undef)[t]?=some (sv.val γ):=by
   rw[Array.getElem?_append_left (by simpa using hlt),List.getElem?_toArray,List.getElem?_map,h2]
   rfl
  rw[Array.getD_eq_getD_getElem?,e1]
  rfl
 ·obtain⟨s',⟨γ',hf'⟩,h2⟩:=hq
  have fin:(match Hr P w ow s' fn.results.toList with
    |some (c,l)=>c∧T (Rc l) s'.hp
    |none=>False)→a'.defers=[]∧∃v,(results fn a'.tmps).run P w'=.ok v w'∧R (.returned v) w':=by
   intro h3
   split at h3
   ·rename_i d l hr
    exact⟨hf'.defers,_,Ajx hf' hr h3.1,hR _ _ _ _ hf'.sat h3.2⟩
   ·exact h3.elim
  cases e with
  |normal=>exact fin h2
  |ret=>exact fin h2
  |exit id=>exact h2.elim
  |goto l=>exact h2.elim
  |panic ch=>exact h2.elim
  |outgrown=>exact h2.elim
end
end
section
theorem U5 (x:UInt8):Es (n8 x)=x:=by unfold Es n8;simp
theorem U6 (x:UInt32):Et (n32 x)=x:=by unfold Et n32;simp
theorem U7 (x:UInt64):Eu (n64 x)=x:=by unfold Eu n64;simp
theorem Aah (x:UInt8):Ds (n8 x)=True:=by have:=Tw x;unfold Ds;simp;omega
theorem Aai (x:UInt32):Dt (n32 x)=True:=by have:=Tx x;unfold Dt;simp;omega
theorem Aaj (x:UInt64):D6 (n64 x)=True:=by have:=Ty x;unfold D6;simp;omega
theorem Ajy (c:Nat):Es (no_index (OfNat.ofNat c))=OfNat.ofNat c:=rfl
theorem Ajz (c:Nat):Et (no_index (OfNat.ofNat c))=OfNat.ofNat c:=rfl
theorem Aj0 (c:Nat):Eu (no_index (OfNat.ofNat c))=OfNat.ofNat c:=rfl
theorem Aj1 (c:Nat):Ds (no_index (OfNat.ofNat c))=(c < 256):=by unfold Ds;show (0≤(c:Int)∧(c:Int) < 256)=_;apply propext;omega
theorem Aj2 (c:Nat):Dt (no_index (OfNat.ofNat c))=(c < 4294967296):=by unfold Dt;show (0≤(c:Int)∧(c:Int) < 4294967296)=_;apply propext;omega
theorem Aj3 (c:Nat):D6 (no_index (OfNat.ofNat c))=(c < 18446744073709551616):=by unfold D6;show (0≤(c:Int)∧(c:Int) < 18446744073709551616)=_;apply propext;omega
def No:Nat→Prop:=fun _=>False
theorem Hu {w w':World} (h:Keeps No w w'):Below w.heap.size w w':=h.below (Nat.le_refl _) (fun _ h=>h.elim)
section
variable {P:Program} {n:Nat} {f:FuncId} {fn:Func} {c:Code} {w:World}
theorem Bf (hf:P.funcs[f]?=some fn) (hb:fn.body=some c) (hn:fn.ntmps=n) (svs:List Sv) (hl:svs.length≤n) (sv0:Sv) {v:Value} (hv:∀γ,sv0.val γ=v)
  (h:Cc P w No n c ⟨Ht 0 svs,[]⟩ (Fin P w No fn.results.toList (fun sv _=>sv=sv0))):Calls P f (svs.map (Sv.val [])).toArray w fun e w'=>e=.returned v∧Below w.heap.size w w':=
 Ma hf hb hn svs (Sat.init w No) hl (fun sv _=>sv=sv0) (fun γ sv hp' w' hS hT=>⟨by rw[hT,hv],Hu hS.keeps⟩) h
def Dm (e:TypeId) (c:Cont):Sv→List Res→Prop
 | .x (.a (.o k)),hp=>hp[k]?=some (.own e c)
 | .x (.a (.v (.slice none m cap))),_=>m=0∧cap=0∧c.len=0
 |_,_=>False
theorem Own.rebase {w:World} {b:Nat} {e:TypeId} {v:Value} {vs:List Value} (h:Own w 0 e v vs) (hb:∀n,v.ownBlock=some n→b≤n):Own w b e v vs:=
 ⟨h.1,h.2.imp id fun⟨g,cap,cur,h1,_,h3⟩=>⟨g,cap,cur,h1,hb g (by rw[h1];rfl),h3⟩⟩
theorem Aak {ow:Nat→Prop} {w0:World} {γ:List Nm} {hp:List Res} {e:TypeId} {c:Cont} {sv:Sv} (hS:Sat w0 ow γ hp w) (h:Dm e c sv hp):Own w 0 e (sv.val γ) (c.vals γ)∧∀n,(sv.val γ).ownBlock=some n→G7 w0 ow n:=by
 unfold Dm at h
 split at h
 ·exact⟨(hS.own h).2,fun n hn=>(hS.mine _ _ n h hn).1⟩
 ·obtain⟨rfl,rfl,h0⟩:=h
  rw[show c.vals γ=[] from List.eq_nil_of_length_eq_zero (by rw[Cont.len_vals,h0])]
  exact⟨Own.nil_ _ _ _,fun n hn=>by simp [Sv.val,Sc.val,At.val,Value.ownBlock] at hn⟩
 ·exact h.elim
theorem Iu (hf:P.funcs[f]?=some fn) (hb:fn.body=some c) (hn:fn.ntmps=n) (svs:List Sv) (hl:svs.length≤n) (e:TypeId) (k:Cont) {vs:List Value} (hv:∀γ,k.vals γ=vs)
  (h:Cc P w No n c ⟨Ht 0 svs,[]⟩ (Fin P w No fn.results.toList (Dm e k))):Calls P f (svs.map (Sv.val [])).toArray w fun en w'=>∃v',en=.returned v'∧Own w' w.heap.size e v' vs∧Below w.heap.size w w':=
 Ma hf hb hn svs (Sat.init w No) hl (Dm e k) (fun γ sv hp' w' hS hT=>by
  obtain⟨h1,h2⟩:=Aak hS hT
  rw[hv] at h1
  exact⟨_,rfl,h1.rebase fun n hn=>(h2 n hn).resolve_left id,Hu hS.keeps⟩) h
def Hb (e:TypeId) (c:Cont) (y:Value):Sv→List Res→Prop
 | .t [.a x,.a (.v z)],hp=>Dm e c (.x (.a x)) hp∧z=y
 |_,_=>False
theorem Nv (hf:P.funcs[f]?=some fn) (hb:fn.body=some c) (hn:fn.ntmps=n) (svs:List Sv) (hl:svs.length≤n) (e:TypeId) (k:Cont) (y:Value) {vs:List Value} (hv:∀γ,k.vals γ=vs)
  (h:Cc P w No n c ⟨Ht 0 svs,[]⟩ (Fin P w No fn.results.toList (Hb e k y))):Calls P f (svs.map (Sv.val [])).toArray w fun en w'=>∃v',en=.returned (.tuple #[v',y])∧Own w' w.heap.size e v' vs∧Below w.heap.size w w':=
 Ma hf hb hn svs (Sat.init w No) hl (Hb e k y) (fun γ sv hp' w' hS hT=>by
  unfold Hb at hT
  split at hT
  ·obtain⟨h0,rfl⟩:=hT
   obtain⟨h1,h2⟩:=Aak hS h0
   rw[hv] at h1
   exact⟨_,rfl,h1.rebase fun n hn=>(h2 n hn).resolve_left id,Hu hS.keeps⟩
  ·exact hT.elim) h
def A16 (v:Value):Nat→Prop:=fun n=>v.ownBlock=some n
end
theorem Aal {w0:World} {B:Nat} {A:Option Addr} {vs:List Value} (hR:RdV w0 B A vs) {i:Nat} {u:Value} (hi:vs[i]?=some u):∃a,A=some a∧a.block < B∧Af A i=some (a.add i)∧(a.add i).block=a.block∧w0.cell? (a.add i)=some u:=by
 obtain⟨b,off,hA,hb,hc⟩:=hR (by have:=Ax hi;omega)
 subst hA
 refine⟨⟨b,off,none⟩,rfl,hb,rfl,by rw[Bu],?_⟩
 rw[Bu]
 exact hc i _ hi
structure FV (w0:World) (ow:Nat→Prop) (A:Option Addr) (vs:List Value):Prop where
 rdo:RdO w0 ow A vs
theorem FV.some_ {w0:World} {ow:Nat→Prop} {A:Option Addr} {vs:List Value} (h:FV w0 ow A vs) (hp:0 < vs.length):A.isSome=true:=by
 obtain⟨a,h1,_⟩:=Aal h.rdo.1 (List.getElem?_eq_getElem hp)
 rw[h1];rfl
theorem FV.cell {w0:World} {ow:Nat→Prop} {A:Option Addr} {vs:List Value} (h:FV w0 ow A vs) {i:Nat} {u:Value} (hi:vs[i]?=some u):A7 w0 (Af A i)=u∧Cu w0 ow (Af A i):=by
 obtain⟨a,h1,h2,h3,h4,h5⟩:=Aal h.rdo.1 hi
 refine⟨by rw[h3];simp [A7,h5],_,_,h3,by rw[h4];exact h2,?_,h5⟩
 rw[h4]
 exact h.rdo.2 (by have:=(List.getElem?_eq_some_iff.1 hi).1;omega) a h1
theorem FV.no {w0:World} {A:Option Addr} {vs:List Value} (h:RdV w0 w0.heap.size A vs):FV w0 No A vs:=⟨h,fun _ _ _ h=>h.elim⟩
structure F8 (w0:World) (ow:Nat→Prop) (A:Option Addr) (l:List UInt8):Prop where
 some_:0 < l.length→A.isSome=true
 cell:∀i,i < l.length→A7 w0 (Af A i)=vU8 (ix l i)
 ok:∀i,i < l.length→Cu w0 ow (Af A i)
 rd:rd8 w0 A l.length=l
 rdOk:Rd8 w0 ow A l.length
theorem F8.of {w0:World} {ow:Nat→Prop} {A:Option Addr} {l:List UInt8} (h:FV w0 ow A (l.map vU8)):F8 w0 ow A l:=by
 have hcell:∀i,i < l.length→A7 w0 (Af A i)=vU8 (ix l i):=fun i hi=>(h.cell (D8 vU8 l i hi)).1
 have hrd:rd8 w0 A l.length=l:=by
  unfold rd8
  apply List.ext_getElem
  ·simp
  ·intro i h1 h2
   simp only[List.getElem_map,List.getElem_range,hcell i h2]
   rw[U5]
   simp [ix,List.getD_eq_getElem?_getD,List.getElem?_eq_getElem h2]
 refine⟨fun hp=>h.some_ (by simpa using hp),hcell,fun i hi=>(h.cell (D8 vU8 l i hi)).2,hrd,?_⟩
 unfold Rd8
 rw[hrd]
 exact h.rdo
theorem Aam {w0:World} {ow:Nat→Prop} {A:Option Addr} {l:List UInt32} (h:FV w0 ow A (l.map Ap)):Lt w0 A l.length=l∧Ua w0 ow A l.length:=by
 have hcell:∀i,i < l.length→A7 w0 (Af A i)=Ap (ix l i):=fun i hi=>(h.cell (D8 Ap l i hi)).1
 have hrd:Lt w0 A l.length=l:=by
  unfold Lt
  apply List.ext_getElem
  ·simp
  ·intro i h1 h2
   simp only[List.getElem_map,List.getElem_range,hcell i h2]
   rw[U6]
   simp [ix,List.getD_eq_getElem?_getD,List.getElem?_eq_getElem h2]
 exact⟨hrd,by unfold Ua;rw[hrd];exact h.rdo⟩
theorem Aan {w0:World} {ow:Nat→Prop} {A:Option Addr} {l:List UInt64} (h:FV w0 ow A (l.map vU64)):Lu w0 A l.length=l∧Ub w0 ow A l.length:=by
 have hcell:∀i,i < l.length→A7 w0 (Af A i)=vU64 (ix l i):=fun i hi=>(h.cell (D8 vU64 l i hi)).1
 have hrd:Lu w0 A l.length=l:=by
  unfold Lu
  apply List.ext_getElem
  ·simp
  ·intro i h1 h2
   simp only[List.getElem_map,List.getElem_range,hcell i h2]
   rw[U7]
   simp [ix,List.getD_eq_getElem?_getD,List.getElem?_eq_getElem h2]
 exact⟨hrd,by unfold Ub;rw[hrd];exact h.rdo⟩
theorem U8 {w0:World} {ow:Nat→Prop} {A:Option Addr} {l:List Int} (h:FV w0 ow A (l.map (Value.int .i64))):rdI w0 A l.length=l∧RdI w0 ow A l.length:=by
 have hcell:∀i,i < l.length→A7 w0 (Af A i)=.int .i64 (ix l i):=fun i hi=>(h.cell (D8 (Value.int .i64) l i hi)).1
 have hrd:rdI w0 A l.length=l:=by
  unfold rdI
  apply List.ext_getElem
  ·simp
  ·intro i h1 h2
   simp only[List.getElem_map,List.getElem_range,hcell i h2]
   simp [ix,List.getD_eq_getElem?_getD,List.getElem?_eq_getElem h2]
 exact⟨hrd,by unfold RdI;rw[hrd];exact h.rdo⟩
structure F32 (w0:World) (ow:Nat→Prop) (A:Option Addr) (l:List UInt32):Prop where
 some_:0 < l.length→A.isSome=true
 cell:∀i,i < l.length→A7 w0 (Af A i)=Ap (ix l i)
 ok:∀i,i < l.length→Cu w0 ow (Af A i)
theorem F32.of {w0:World} {ow:Nat→Prop} {A:Option Addr} {l:List UInt32} (h:FV w0 ow A (l.map Ap)):F32 w0 ow A l:=
 ⟨fun hp=>h.some_ (by simpa using hp),fun i hi=>(h.cell (D8 Ap l i hi)).1,fun i hi=>(h.cell (D8 Ap l i hi)).2⟩
theorem Sat.rdBlk {w0 w:World} {ow:Nat→Prop} {γ:List Nm} {hp:List Res} {k:Nat} {t:TypeId} {c:Cont} (h:Sat w0 ow γ hp w) (hr:hp[k]?=some (.blk t c)) (off:Nat):RdV w w.heap.size (some ⟨nmB γ k,off,none⟩) ((c.vals γ).drop off):=
 fun _=>⟨nmB γ k,off,rfl,(h.blk hr).2.lt,fun j u hu=>by rw[(h.blk hr).2.cell (off+j),List.getElem?_toArray];rwa [List.getElem?_drop] at hu⟩
theorem Sat.rdOwn {w0 w:World} {ow:Nat→Prop} {γ:List Nm} {hp:List Res} {k:Nat} {e:TypeId} {c:Cont} (h:Sat w0 ow γ hp w) (hr:hp[k]?=some (.own e c)):∃A cap,nmS γ k=.slice A c.len cap∧c.len≤cap∧cap≤maxLen∧RdV w w.heap.size A (c.vals γ):=by
 obtain⟨A,m,h1,h2,h3,h4,_⟩:=Kk h hr
 exact⟨A,m,h1,h2,h3,h4⟩
theorem Aj4 (l:List UInt8):Hl (l.map f8)=some (True,l):=by
 induction l with
 |nil=>rfl
 |cons x r ih=>
  show (match Hl (r.map f8) with|some (c,l)=>some (Ds (n8 x)∧c,Es (n8 x)::l)|none=>none)=_
  rw[ih]
  simp [Aah,U5]
theorem Aj5 (l:List UInt32):Ij (l.map f32)=some (True,l):=by
 induction l with
 |nil=>rfl
 |cons x r ih=>
  show (match Ij (r.map f32) with|some (c,l)=>some (Dt (n32 x)∧c,Et (n32 x)::l)|none=>none)=_
  rw[ih]
  simp [Aai,U6]
theorem Aj6 (l:List UInt64):Ik (l.map f64)=some (True,l):=by
 induction l with
 |nil=>rfl
 |cons x r ih=>
  show (match Ik (r.map f64) with|some (c,l)=>some (D6 (n64 x)∧c,Eu (n64 x)::l)|none=>none)=_
  rw[ih]
  simp [Aaj,U7]
theorem Aj7 (l:List UInt8) (n:Nat):(l.map f8).take n=if l.length≤n then l.map f8 else (l.take n).map f8:=by
 split
 ·rename_i h
  exact List.take_of_length_le (by simpa using h)
 ·exact List.map_take.symm
theorem Aj8 (l:List UInt8) (n:Nat):(l.map f8).drop n=if l.length≤n then [] else (l.drop n).map f8:=by
 split
 ·rename_i h
  exact List.drop_of_length_le (by simpa using h)
 ·exact List.map_drop.symm
theorem Aj9 (a b:List At) (n:Nat):(a++b).take n=a.take n++b.take (n - a.length):=List.take_append
theorem Aka (a b:List At) (n:Nat):(a++b).drop n=a.drop n++b.drop (n - a.length):=List.drop_append
theorem Aa {n d:Nat} (h:Nat.blt d n=true):dOk n (some d):=by rw[Nat.blt_eq] at h;exact h
section
variable {P:Program} {w0:World} {ow:Nat→Prop} {n:Nat} {ops rest:List Oper} {o:Oper} {p:List (Nat×Bool)} {f:FuncId} {xs:List Operand} {tys:Array TypeId} {s:S} {svs:List Sv} {K:S→Prop} {sv:Sv}
theorem Am (ho:o.op=.call {callee:=.value (.func f),args:=xs.toArray,argTypes:=tys}) (hcb:Ac P f) (hev:evs s.fr xs=some svs) (hc:Ad P w0 ow f svs s.hp sv s.hp) (hd:dOk n o.dst)
  (h:Ai P w0 ow n ops rest (S.put ⟨s.fr,s.hp⟩ o.dst sv) K):Ah P w0 ow n ops o rest s K:=Kq ho hcb hev hc hd (fun h=>absurd h (Nat.lt_irrefl _)) h
theorem Kr (ho:o.op=.call {callee:=.value (.func f),args:=xs.toArray,argTypes:=tys}) (hcb:Ac P f) (hev:evs s.fr xs=some svs) (hc:Ad P w0 ow f svs s.hp sv s.hp) (hd:dOk n o.dst)
  (h:Al P w0 ow n ops p (S.put ⟨s.fr,s.hp⟩ o.dst sv) K):Au P w0 ow n ops o p s K:=Uz ho hcb hev hc hd (fun h=>absurd h (Nat.lt_irrefl _)) (List.take_length) h
theorem Gl {r:Res} (ho:o.op=.call {callee:=.value (.func f),args:=xs.toArray,argTypes:=tys}) (hcb:Ac P f) (hev:evs s.fr xs=some svs) (hc:Ad P w0 ow f svs s.hp sv (s.hp++[r])) (hd:dOk n o.dst) (hb:s.bnd)
  (h:Ai P w0 ow n ops rest (S.put ⟨s.fr,s.hp++[r]⟩ o.dst sv) K):Ah P w0 ow n ops o rest s K:=Kq ho hcb hev hc hd (fun _=>hb) h
theorem Nw {r:Res} (ho:o.op=.call {callee:=.value (.func f),args:=xs.toArray,argTypes:=tys}) (hcb:Ac P f) (hev:evs s.fr xs=some svs) (hc:Ad P w0 ow f svs s.hp sv (s.hp++[r])) (hd:dOk n o.dst) (hb:s.bnd)
  (h:Al P w0 ow n ops p (S.put ⟨s.fr,s.hp++[r]⟩ o.dst sv) K):Au P w0 ow n ops o p s K:=Uz ho hcb hev hc hd (fun _=>hb) (List.take_left' rfl) h
end
end
section
inductive Pl where
 |nil
 |rd (i:Nat) (p:Pl)
 |wr (i:Nat) (p:Pl)
 |fk (i:Nat) (p:Pl) (j:Nat) (q:Pl)
 |f3 (i:Nat) (p:Pl) (j:Nat) (q:Pl) (k:Nat) (r:Pl)
def plB (md:Region.Mode) (ops:Array Oper):Nat→Pl→Array Bool→Bool
 |0,.nil,listed=>(Region.ready md ops listed).isEmpty
 |f+1,.rd i p,listed=>(Region.ready md ops listed).contains i&&Region.free md ops listed i&&plB md ops f p (listed.setIfInBounds i true)
 |f+1,.wr i p,listed=>decide (Region.ready md ops listed=[i])&&plB md ops f p (listed.setIfInBounds i true)
 |f+1,.fk i p j q,listed=>decide (Region.ready md ops listed=[i,j])&&plB md ops f p (listed.setIfInBounds i true)&&plB md ops f q (listed.setIfInBounds j true)
 |f+1,.f3 i p j q k r,listed=>decide (Region.ready md ops listed=[i,j,k])&&plB md ops f p (listed.setIfInBounds i true)&&plB md ops f q (listed.setIfInBounds j true)&&plB md ops f r (listed.setIfInBounds k true)
 |_,_,_=>false
section
variable {P:Program} {ops:Array Oper} {md:Region.Mode}
def Ej (P:Program) (ops:Array Oper) (i:Nat) (W:(World→Prop)→Act→World→Prop) (C:World→Prop) (a:Act) (w:World):Prop:=
 match ops[i]? with
 |none=>False
 |some o=>
  if Region.wanted o (yielded ops a.tmps) then o.wp P a w (fun a' w'=>∃C2:World→Prop,C2 w'∧(∀x,C2 x→C x)∧W C2 a' w') NoQ
  else W C (a.put o.dst undef) w
def Cp (P:Program) (ops:Array Oper) (Q:Act→World→Prop):Pl→(World→Prop)→Act→World→Prop
 | .nil,_,a,w=>Q a w
 | .rd i p,C,a,w=>
  match ops[i]? with
  |none=>False
  |some o=>
   if Region.wanted o (yielded ops a.tmps) then ∃v,(∀x,C x→Hi P o a x v)∧Cp P ops Q p C (a.put o.dst v) w
   else Cp P ops Q p C (a.put o.dst undef) w
 | .wr i p,C,a,w=>Ej P ops i (Cp P ops Q p) C a w
 | .fk i p j q,C,a,w=>Ej P ops i (Cp P ops Q p) C a w∧Ej P ops j (Cp P ops Q q) C a w
 | .f3 i p j q k r,C,a,w=>Ej P ops i (Cp P ops Q p) C a w∧Ej P ops j (Cp P ops Q q) C a w∧Ej P ops k (Cp P ops Q r) C a w
theorem Ks {i:Nat} {W W':(World→Prop)→Act→World→Prop} {C:World→Prop} {a:Act} {w:World} (hC:C w) (hW:∀C a w,C w→W C a w→W' C a w) (h:Ej P ops i W C a w):mOp P ops i C W' a w:=by
 unfold mOp
 unfold Ej at h
 split
 ·rename_i ho;simp only[ho] at h
 ·rename_i o ho
  simp only[ho] at h
  split
  ·rename_i hw;simp only[hw,if_true] at h;exact Ig (fun a w ⟨C2,h1,h2,h3⟩=>⟨C2,h1,h2,hW _ _ _ h1 h3⟩) h
  ·rename_i hw;simp only[hw] at h;exact hW _ _ _ hC h
end
section
variable {P:Program} {w0:World} {ow:Nat→Prop} {n:Nat}
def Kt (P:Program) (w0:World) (ow:Nat→Prop) (n:Nat) (ops:List Oper) (o:Oper) (p:Pl) (s:S) (K:S→Prop):Prop:=
 ∀γ a w,FitsAt w0 ow n γ s a w→o.wp P a w (fun a' w'=>∃C2:World→Prop,C2 w'∧(∀x,C2 x→Sat w0 ow γ s.hp x)∧Cp P ops.toArray (fun a' w'=>∃s',Fits w0 ow n s' a' w'∧K s') p C2 a' w') NoQ
def Jm (P:Program) (w0:World) (ow:Nat→Prop) (n:Nat) (ops:List Oper) (rd:Bool) (i:Nat) (G:S→Prop) (call:Oper→Prop) (s:S):Prop:=
 match ops[i]? with
 |none=>False
 |some o=>
  if Ho o.op=true then (match o.guard with
   |none=>rd=false∧call o
   |some (j,b)=>match Ff ops s.fr j b with
    |some c=>if c=b then rd=false∧call o else dOk n o.dst∧G (s.put o.dst Ci)
    |none=>False)
  else match o.guard with
  |none=>match Cf P w0 ow n o s with
   |some (c,s')=>c∧F6 rd o.op s s'∧G s'
   |none=>False
  |some (j,b)=>match Ff ops s.fr j b with
   |some c=>if c=b then (match Cf P w0 ow n o s with|some (c,s')=>c∧F6 rd o.op s s'∧G s'|none=>False) else dOk n o.dst∧G (s.put o.dst Ci)
   |none=>False
def Ku (P:Program) (w0:World) (ow:Nat→Prop) (n:Nat) (ops:List Oper) (K:S→Prop):Pl→S→Prop
 | .nil,s=>K s
 | .rd i p,s=>Jm P w0 ow n ops true i (Ku P w0 ow n ops K p) (fun o=>Kt P w0 ow n ops o p s K) s
 | .wr i p,s=>Jm P w0 ow n ops false i (Ku P w0 ow n ops K p) (fun o=>Kt P w0 ow n ops o p s K) s
 | .fk i p j q,s=>Jm P w0 ow n ops false i (Ku P w0 ow n ops K p) (fun o=>Kt P w0 ow n ops o p s K) s∧Jm P w0 ow n ops false j (Ku P w0 ow n ops K q) (fun o=>Kt P w0 ow n ops o q s K) s
 | .f3 i p j q k r,s=>Jm P w0 ow n ops false i (Ku P w0 ow n ops K p) (fun o=>Kt P w0 ow n ops o p s K) s∧Jm P w0 ow n ops false j (Ku P w0 ow n ops K q) (fun o=>Kt P w0 ow n ops o q s K) s∧Jm P w0 ow n ops false k (Ku P w0 ow n ops K r) (fun o=>Kt P w0 ow n ops o r s K) s
theorem Cn {s s':S} (ρ:List Nat) (h:Le ρ s s'):Fh w0 ow n s s':=fun _ _ hf=>h.fits hf
end
end
section
def Bh:List Nat→List Res→List Res
 |[],hp=>hp
 |k::G,hp=>(Bh G hp).set k .gone
theorem Akb {hp:List Res}:Bh [] hp=hp:=rfl
theorem Aao {k:Nat} {G:List Nat} {hp:List Res}:Bh (k::G) hp=(Bh G hp).set k .gone:=rfl
theorem Mb {G:List Nat} {hp:List Res}:(Bh G hp).length=hp.length:=by
 induction G with
 |nil=>rfl
 |cons k G ih=>rw[Aao,List.length_set,ih]
theorem Aap {G:List Nat} {hp:List Res} {m:Nat} (h:∀r∈hp,Res.bnd m r):∀r∈Bh G hp,Res.bnd m r:=by
 induction G with
 |nil=>exact h
 |cons k G ih=>
  intro r hr
  rcases List.mem_or_eq_of_mem_set hr with hr|rfl
  ·exact ih r hr
  ·trivial
section
variable {P:Program} {w0:World} {ow:Nat→Prop} {n:Nat}
theorem Sat.mask {γ:List Nm} {hp:List Res} {w:World} (G:List Nat) (h:Sat w0 ow γ hp w):Sat w0 ow γ (Bh G hp) w:=by
 induction G with
 |nil=>exact h
 |cons k G ih=>exact ih.drop k
def Kv (ops:List Oper) (fr:Fr) (o:Oper):Option Bool:=match o.guard with
 |none=>some true
 |some (j,b)=>match Ff ops fr j b with
  |some c=>if c=b then some true else some false
  |none=>none
theorem Mc {ops:List Oper} {o:Oper} {b:Bool} {s:S} {γ:List Nm} {a:Act} {w:World} (h:FitsAt w0 ow n γ s a w) (hw:Kv ops s.fr o=some b):Region.wanted o (yielded ops.toArray a.tmps)=b:=by
 unfold Kv at hw
 split at hw
 ·rename_i hg
  cases hw
  simp [Region.wanted,hg]
 ·rename_i j c hg
  split at hw
  ·rename_i d hy
   have hyy:=Nt h hy
   split at hw
   ·rename_i hcb
    cases hw
    subst hcb
    simp [Region.wanted,hg,hyy]
   ·rename_i hcb
    cases hw
    simp [Region.wanted,hg,hyy,hcb]
  ·cases hw
def U9 (P:Program) (w0:World) (ow:Nat→Prop) (n:Nat) (G:List Nat) (ops:List Oper) (o:Oper) (p:List (Nat×Bool)) (s:S) (K:S→Prop):Prop:=
 ∀γ a w,FitsAt w0 ow n γ s a w→o.wp P a w (fun a' w'=>∃C2:World→Prop,C2 w'∧(∀x,C2 x→Sat w0 ow γ (Bh G s.hp) x)∧Ca P ops.toArray (fun a' w'=>∃s',Fits w0 ow n s' a' w'∧K s') p C2 a' w') NoQ
def Rd (P:Program) (w0:World) (ow:Nat→Prop) (n:Nat) (G:List Nat) (o:Oper) (s:S):Option (Prop×S):=
 match op1 P w0 ow (Fr.ev s.fr) (Bh G s.hp) o.op with
 |some (c,v,hp')=>some ((c∧hp'=Bh G s.hp)∧dOk n o.dst,S.put ⟨s.fr,s.hp⟩ o.dst v)
 |none=>none
def Gn (P:Program) (w0:World) (ow:Nat→Prop) (n:Nat) (G:List Nat) (ops:List Oper):List (Nat×Bool)→S→(S→Prop)→Prop
 |[],s,K=>K s
 |(i,rd)::p,s,K=>match ops[i]? with
  |none=>False
  |some o=>match Kv ops s.fr o with
   |none=>False
   |some false=>dOk n o.dst∧Gn P w0 ow n G ops p (s.put o.dst Ci) K
   |some true=>
    if Ho o.op=true then rd=false∧U9 P w0 ow n G ops o p s K
    else if rd=true then Im o.op=true∧(match Rd P w0 ow n G o s with
     |some (c,s')=>c∧Gn P w0 ow n G ops p s' K
     |none=>False)
    else match Cf P w0 ow n o s with
     |some (c,s')=>c∧(Bh G s'.hp).take s.hp.length=Bh G s.hp∧Gn P w0 ow n G ops p s' K
     |none=>False
theorem Akc {G:List Nat} {ops:List Oper} {s:S} {K:S→Prop}:Gn P w0 ow n G ops [] s K=K s:=Eq.trans rfl rfl
theorem Akd {G:List Nat} {ops:List Oper} {i:Nat} {rd:Bool} {p:List (Nat×Bool)} {s:S} {K:S→Prop}:Gn P w0 ow n G ops ((i,rd)::p) s K=(match ops[i]? with
  |none=>False
  |some o=>match Kv ops s.fr o with
   |none=>False
   |some false=>dOk n o.dst∧Gn P w0 ow n G ops p (s.put o.dst Ci) K
   |some true=>
    if Ho o.op=true then rd=false∧U9 P w0 ow n G ops o p s K
    else if rd=true then Im o.op=true∧(match Rd P w0 ow n G o s with
     |some (c,s')=>c∧Gn P w0 ow n G ops p s' K
     |none=>False)
    else match Cf P w0 ow n o s with
     |some (c,s')=>c∧(Bh G s'.hp).take s.hp.length=Bh G s.hp∧Gn P w0 ow n G ops p s' K
     |none=>False):=Eq.trans rfl rfl
theorem Ake {o:Oper} {c:Prop} {s s':S} {γ:List Nm} {a:Act} {w:World} {W:(World→Prop)→Act→World→Prop} (G:List Nat) (h:FitsAt w0 ow n γ s a w) (hs:Cf P w0 ow n o s=some (c,s')) (hc:c) (ht:(Bh G s'.hp).take s.hp.length=Bh G s.hp)
  (hK:∀γ' a' w',FitsAt w0 ow n γ' s' a' w'→W (fun x=>Sat w0 ow γ' (Bh G s'.hp) x) a' w'):o.wp P a w (fun a' w'=>∃C2:World→Prop,C2 w'∧(∀x,C2 x→Sat w0 ow γ (Bh G s.hp) x)∧W C2 a' w') NoQ:=by
 unfold Cf at hs
 split at hs
 ·rename_i d v hp' hop
  simp only[Option.some.injEq,Prod.mk.injEq] at hs
  obtain⟨rfl,rfl⟩:=hs
  obtain⟨⟨h1,h2⟩,h3⟩:=hc
  obtain⟨γ',w',hS',hγ,hr⟩:=Nr (P:=P) (ρ:=a.eval) (o:=o) h.sat (fun x sv hx=>h.ev hx) hop h1 (fun hlt=>⟨fun x sv hx=>Ns (h3 hlt).1 hx,(h3 hlt).2⟩)
  have hhp:(S.put ⟨s.fr,hp'⟩ o.dst v).hp=hp':=by cases o.dst<;>rfl
  rw[hhp] at ht
  have hg:∀t sv,Fr.get s.fr t=some sv→sv.val γ'=sv.val γ:=by
   intro t sv ht
   rcases hγ with rfl|⟨hlt,nm,rfl⟩
   ·rfl
   ·exact Sv.ext (by rw[h.sat.len];exact (h3 hlt).1 _ (Fr.get_mem ht))
  have hback:∀x,Sat w0 ow γ' (Bh G hp') x→Sat w0 ow γ (Bh G s.hp) x:=by
   intro x hx
   rcases hγ with rfl|⟨hlt,nm,rfl⟩
   ·have hl1:=h.sat.len
    have hl2:=hS'.len
    have:Bh G hp'=Bh G s.hp:=by rw[←ht,List.take_of_length_le (by rw[Mb];omega)]
    rw[←this];exact hx
   ·rw[←List.take_append_drop s.hp.length (Bh G hp'),ht] at hx
    exact hx.front (by rw[Mb];exact h.sat.len) (by rw[Mb];exact Aap (h3 hlt).2)
  have hfin:∀x,x=v.val γ'→W (fun x=>Sat w0 ow γ' (Bh G hp') x) (a.put o.dst x) w':=fun x hx=>by
   have:=hK γ' _ w' (h.put hS' hg h2 hx)
   rw[hhp] at this
   exact this
  unfold Oper.wp
  rcases hr with hr|⟨hr,hv⟩
  ·rw[hr]
   exact⟨_,hS'.mask G,hback,hfin _ rfl⟩
  ·rw[hr]
   subst hv
   exact⟨_,hS'.mask G,hback,hfin _ rfl⟩
 ·cases hs
theorem Nx {G:List Nat} {ops:List Oper} {K:S→Prop}:∀(p:List (Nat×Bool)) (s:S) (γ:List Nm) (a:Act) (w:World),Gn P w0 ow n G ops p s K→FitsAt w0 ow n γ s a w→
  Ca P ops.toArray (fun a' w'=>∃s',Fits w0 ow n s' a' w'∧K s') p (fun x=>Sat w0 ow γ (Bh G s.hp) x) a w
 |[],s,γ,a,w,h,hf=>⟨s,⟨γ,hf⟩,h⟩
 |(i,rd)::p,s,γ,a,w,h,hf=>by
  unfold Gn at h
  split at h
  ·exact h.elim
  ·rename_i o hi
   split at h
   ·exact h.elim
   ·rename_i hw
    have hww:=Mc hf hw
    simp only[Ca,List.getElem?_toArray,hi]
    rw[if_neg (by rw[hww];decide)]
    have:=Nx p _ γ _ _ h.2 (hf.put hf.sat (fun _ _ _=>rfl) h.1 rfl)
    have hhp:(S.put ⟨s.fr,s.hp⟩ o.dst Ci).hp=s.hp:=by cases o.dst<;>rfl
    rw[hhp] at this
    exact this
   ·rename_i hw
    have hww:=Mc hf hw
    simp only[Ca,List.getElem?_toArray,hi]
    rw[if_pos hww]
    split at h
    ·obtain⟨rfl,hm⟩:=h
     simpa using hm γ a w hf
    ·split at h
     ·rename_i hrd
      subst hrd
      obtain⟨hir,h⟩:=h
      split at h
      ·rename_i c s' hs
       unfold Rd at hs
       split at hs
       ·rename_i d v hp' hop
        simp only[Option.some.injEq,Prod.mk.injEq] at hs
        obtain⟨rfl,rfl⟩:=hs
        obtain⟨⟨⟨h1,hsame⟩,h2⟩,h3⟩:=h
        simp only[if_true]
        refine⟨v.val γ,fun x hx=>?_,?_⟩
        ·obtain⟨_,hr⟩:=L5 (P:=P) (w:=x) (ρ:=a.eval) (o:=o) hir hsame hx (fun x sv hx=>hf.ev hx) hop h1
         unfold Hi
         rw[hr]
         exact⟨rfl,rfl⟩
        ·have:=Nx p _ γ _ w h3 (hf.put hf.sat (fun _ _ _=>rfl) h2 rfl)
         have hhp:(S.put ⟨s.fr,s.hp⟩ o.dst v).hp=s.hp:=by cases o.dst<;>rfl
         rw[hhp] at this
         exact this
       ·cases hs
      ·exact h.elim
     ·rename_i hrd
      split at h
      ·rename_i c s' hs
       rw[if_neg hrd]
       exact Ake G hf hs h.1 h.2.1 fun γ' a' w' hf'=>Nx p s' γ' a' w' h.2.2 hf'
      ·exact h.elim
theorem Akf {id:Nat} {ops:List Oper} {s:S} {K:Exit→S→Prop} (G:List Nat) (p:List (Nat×Bool)) (hm:P.follows .mixedOrders=true) (hs:Region.noSelect ops.toArray=true) (hp:p.length=ops.length) (hB:Ih .any ops.toArray p (Array.replicate ops.length false)=true)
  (h:Gn P w0 ow n G ops p s (K .normal)):Ao P w0 ow n id ops s K:=by
 rintro a w ⟨γ,hf⟩
 refine X9 p hm hs hp hB (fun x=>Sat w0 ow γ (Bh G s.hp) x) fun w2 hd=>?_
 have hf2:=Fits.drawn hf hd.out
 exact⟨hf2.sat.mask G,Nx p s γ a w2 h hf2⟩
end
def Re (a b:Nat) (s:S):Prop:=if a < b then s.bnd else True
theorem Akg {P:Program} {w0:World} {ow:Nat→Prop} {n:Nat} {o:Oper} {s:S}:Cf P w0 ow n o s=(match op1 P w0 ow (Fr.ev s.fr) s.hp o.op with
  |some (c,v,hp)=>some ((c∧dOk n o.dst)∧Re s.hp.length hp.length s,S.put ⟨s.fr,hp⟩ o.dst v)
  |none=>none):=by
 unfold Cf
 cases op1 P w0 ow (Fr.ev s.fr) s.hp o.op with
 |none=>rfl
 |some x=>
  obtain⟨c,v,hp⟩:=x
  have e:(s.hp.length < hp.length→s.bnd)=Re s.hp.length hp.length s:=by
   unfold Re
   split
   ·rename_i h;exact propext ⟨fun f=>f h,fun f _=>f⟩
   ·rename_i h;exact propext ⟨fun _=>trivial,fun _ h2=>absurd h2 h⟩
  simp only[e]
end
end Go.Proofs.YtedaafmfjhjfmaaGreatDoor
