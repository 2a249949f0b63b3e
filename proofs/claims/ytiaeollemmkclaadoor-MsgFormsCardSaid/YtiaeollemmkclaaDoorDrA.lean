import Derived.Test.YtiaeollemmkclaaDoorSetA
import Derived.Test.YtiaeollemmkclaaDoorShA
/- Layer 15: sets (set.can, Bits, From, Either, Both, Less, Has, Check). -/
namespace Go.Proofs.YtiaeollemmkclaaDoor
open Go.RowKit
set_option linter.unusedSimpArgs false
set_option linter.unusedVariables false
def Ls (n:Int):Bool:=decide (0≤n∧n < 64)
theorem Ab0 {n:Int} (h:0≤n∧n < 64):Ls n=true:=decide_eq_true h
theorem V8 {n:Int} (h:¬(0≤n∧n < 64)):Ls n=false:=decide_eq_false h
attribute [local irreducible] Af Ad Av Bh Bf A6 Aw A9
attribute [local irreducible] Hb Hc Sj Ls
section
variable {w0:World} {ow:Nat→Prop} {hp:List Res}
set_option maxRecDepth 100000 in
theorem A16 (n:Int) (w:World):Calls Tryd.prog 84 #[.int .i64 n] w fun e w'=>e=.returned (.bool (Ls n))∧Below w.heap.size w w':=by
 refine By (n:=9) Tryd.func84 rfl Tryd.ntmps84 [.x (.a (.v (.int .i64 n)))] (by simp) (.x (.a (.v (.bool (Ls n))))) (fun _=>rfl) ?_
 by_cases h:(0:Int)≤n
 ·by_cases h1:n < 64
  ·have hd:=Ab0 ⟨h,h1⟩
   simp (maxSteps:=10^6) only[h,h1,hd,push_cast,↓reduceIte,reduceCtorEq,Nat.reduceEqDiff,Nat.reduceLT]
   done
  ·have hd:=V8 (n:=n) fun e=>h1 e.2
   simp (maxSteps:=10^6) only[h,h1,hd,push_cast,↓reduceIte,reduceCtorEq,Nat.reduceEqDiff,Nat.reduceLT]
   done
 ·have hd:=V8 (n:=n) fun e=>h e.1
  simp (maxSteps:=10^6) only[h,hd,undef,push_cast,↓reduceIte,reduceCtorEq,Nat.reduceEqDiff,Nat.reduceLT]
  done
theorem A17 (n:Int):Ad Tryd.prog w0 ow 84 [.x (.a (.v (.int .i64 n)))] hp (.x (.a (.v (.bool (Ls n))))) hp:=Ca fun γ w _=>A16 n w
def A18 (v:UInt64) (n:Nat):List Int:=((List.range n).filter (Fh v)).map Int.ofNat
attribute [local irreducible] A18
end
end Go.Proofs.YtiaeollemmkclaaDoor
/- Layer 15: sets out of two, what is in, what may be. -/
namespace Go.Proofs.YtiaeollemmkclaaDoor
open Go.RowKit
set_option linter.unusedSimpArgs false
set_option linter.unusedVariables false
attribute [local irreducible] Af Ad Av Bh Bf A6 Aw A9
attribute [local irreducible] Hb Hc Ls A1b B6
section
variable {w0:World} {ow:Nat→Prop} {hp:List Res} {a b:List Int} {s1 s2:Sv}
def okV (b:Bool) (n:Int):Value:=if b=true then .nilIface else .iface 137 (.int .i64 n)
theorem M9 (n:Int):okV true n=.nilIface:=rfl
theorem Kc (n:Int):okV false n=.iface 137 (.int .i64 n):=rfl
attribute [local irreducible] okV
set_option maxRecDepth 100000 in
theorem A19 (l:List Int) (A:Option Addr) (c:Nat) (w:World) (hm:l.length≤1000000) (hR:RdV w w.heap.size A (l.map (Value.int .i64))):
  Calls Tryd.prog 119 #[.slice A l.length c] w fun e w'=>e=.returned (okV (B6 (-1) l) 1)∧Below w.heap.size w w':=by
 have F:=FM.of hR
 refine By (n:=23) Tryd.func119 rfl Tryd.ntmps119 [.x (.a (.v (.slice A l.length c)))] (by simp) (.x (.a (.v (okV (B6 (-1) l) 1)))) (fun _=>rfl) ?_
 simp (maxSteps:=10^6) only[push_cast,↓reduceIte,reduceCtorEq,Nat.reduceLT,Int.reduceNeg]
 refine Bu (ι:=Nat×Int) (fun x=>⟨[(3,.x (.a (.v (.int .i64 x.2)))),(6,.x (.a (.v (.slice A l.length c)))),(7,.x (.a (.v (.int .i64 l.length)))),(8,.x (.a (.v (.int .i64 (x.1:Nat)))))],[]⟩) (fun x=>x.1≤l.length∧B6 (-1) l=B6 x.2 (l.drop x.1)) (fun x=>l.length - x.1) (0,-1) [] ⟨Nat.zero_le _,rfl⟩ ?_ ?_
 ·simp (maxSteps:=10^6) only[push_cast,↓Int.cast_ofNat_Int,Int.cast_ofNat_Int,↓reduceIte,Nat.reduceEqDiff,Int.reduceNeg]
 rintro⟨i,last⟩ ⟨hi,hk⟩
 dsimp only at hi hk
 by_cases hlt:(i:Int) < l.length
 ·have hil:i < l.length:=by omega
  have i0:(0:Int)≤i:=by omega
  have c0:=F.cell i hil
  have o0:=F.ok i hil
  have hA:=F.some_ (by omega)
  have hd:l.drop i=ix l i::l.drop (i+1):=by
   rw[List.drop_eq_getElem_cons hil,ix,List.getD_eq_getElem?_getD,List.getElem?_eq_getElem hil];rfl
  rw[hd,B6] at hk
  generalize ix l i=n at*
  have nx:(i:Int)+1≤9223372036854775807:=by omega
  by_cases hle:n≤last
  ·rw[if_pos (.inl hle)] at hk
   have hf:=Kc 1
   simp (maxSteps:=10^6) only[hlt,i0,c0,o0,hA,hle,hk,hf,undef,push_cast,↓Int.toNat_natCast,↓reduceIte,reduceCtorEq,Nat.reduceEqDiff,Nat.reduceLT,Int.reduceNeg]
   done
  ·simp (maxSteps:=10^6) only[hlt,i0,c0,o0,hA,hle,push_cast,↓Int.toNat_natCast,↓reduceIte,reduceCtorEq,Nat.reduceEqDiff,Nat.reduceLT,Int.reduceNeg]
   (repeat (refine And.intro (by first|omega|decide) ?_))
   refine A8 rfl Azi rfl (A17 _) (Aa rfl) ?_
   by_cases h:0≤n∧n < 64
   ·rw[if_neg (by intro e;rcases e with e|e;exact hle e;exact e h)] at hk
    have hc:=Ab0 h
    simp (maxSteps:=10^6) only[hc,push_cast,↓reduceIte,Nat.reduceEqDiff,Nat.reduceLT,Int.reduceNeg]
    (repeat (refine And.intro (by first|omega|decide) ?_))
    refine Bd (i+1,n) [] ⟨by show i+1≤l.length;omega,hk⟩ (by show l.length - (i+1) < l.length - i;omega) ?_
    simp (maxSteps:=10^6) only[push_cast,↓reduceIte,Nat.reduceEqDiff]
    done
   ·rw[if_pos (.inr h)] at hk
    have hc:=V8 h
    have hf:=Kc 1
    simp (maxSteps:=10^6) only[hc,hk,hf,push_cast,↓reduceIte,Nat.reduceEqDiff,Nat.reduceLT,Int.reduceNeg]
    done
 ·obtain rfl:i=l.length:=by omega
  rw[List.drop_length,B6] at hk
  have hf:=M9 1
  simp (maxSteps:=10^6) only[hlt,hk,hf,push_cast,↓reduceIte,Nat.reduceEqDiff,Nat.reduceLT,Int.reduceNeg]
  done
theorem A2a {sv:Sv} {l:List Int} (hm:l.length≤1000000) (h:Cx w0 ow hp sv (l.map (Value.int .i64))):Ad Tryd.prog w0 ow 119 [sv] hp (.x (.a (.v (okV (B6 (-1) l) 1)))) hp:=Ca fun γ w hS=>by
 obtain⟨A,c,e1,b1,r1⟩:=h γ w hS
 rw[List.length_map] at e1
 show Calls _ _ #[sv.val γ] w _
 rw[e1]
 exact A19 l A c w hm r1
end
end Go.Proofs.YtiaeollemmkclaaDoor
/- A region that draws its order, in which what reads looks at nothing that is turned in it (only at the first m resources, but for those in G): writers may turn the others as they like, in forks. No program in sight. -/
namespace Go.Proofs.YtiaeollemmkclaaDoor
open Go.RowKit
set_option linter.unusedSimpArgs false
def Lt (m:Nat):List Res:=List.replicate m .gone
def Cz (m:Nat) (G:List Nat) (hp:List Res):List Res:=(Ce G hp).take m++Lt (hp.length - m)
theorem A2b (l:List Res):l.take 0=[]:=List.take_zero
theorem A2c (k:Nat) (r:Res) (l:List Res):(r::l).take (k+1)=r::l.take k:=rfl
theorem O6 (m:Nat) (G:List Nat) (hp:List Res) (h:m≤hp.length):(Cz m G hp).length=hp.length:=by
 unfold Cz Lt
 rw[List.length_append,List.length_take,J6,List.length_replicate]
 omega
theorem Ab1 {m:Nat} {G:List Nat} {hp:List Res} {q:Nat} (h:∀r∈hp,Res.bnd q r):∀r∈Cz m G hp,Res.bnd q r:=by
 intro r hr
 rcases List.mem_append.1 hr with hr|hr
 ·exact Vj h r (List.mem_of_mem_take hr)
 ·rw[List.eq_of_mem_replicate hr];trivial
section
variable {P:Program} {w0:World} {ow:Nat→Prop} {n:Nat} {m:Nat} {G:List Nat}
theorem Sq {hp:List Res} {k:Nat} {r:Res} (h:(Cz m G hp)[k]?=some r):r=.gone∨(Ce G hp)[k]?=some r:=by
 unfold Cz Lt at h
 rw[List.getElem?_append] at h
 split at h
 ·right
  rw[List.getElem?_take] at h
  split at h
  ·exact h
  ·cases h
 ·left
  rw[List.getElem?_replicate] at h
  split at h
  ·exact (Option.some.inj h).symm
  ·cases h
theorem Sat.vis {γ:List Nm} {hp:List Res} {w:World} (h:Sat w0 ow γ hp w) (hm:m≤hp.length):Sat w0 ow γ (Cz m G hp) w:=by
 have h:=h.mask G
 refine⟨h.keeps,by rw[O6 m G hp hm];simpa only[J6] using h.len,fun k r hr=>?_,fun k r b hr hb=>?_,fun j k r r' b hr hr' hjk hb hb'=>?_⟩
 ·rcases Sq hr with rfl|hr
  ·trivial
  ·exact h.holds k r hr
 ·rcases Sq hr with rfl|hr
  ·exact hb.elim
  ·exact h.mine k r b hr hb
 ·rcases Sq hr with rfl|hr
  ·exact hb.elim
  ·rcases Sq hr' with rfl|hr'
   ·exact hb'.elim
   ·exact h.apart j k r r' b hr hr' hjk hb hb'
def Ex (P:Program) (w0:World) (ow:Nat→Prop) (n m:Nat) (G:List Nat) (ops:List Oper) (o:Oper) (p:Pl) (s:S) (K:S→Prop):Prop:=
 ∀γ a w,FitsAt w0 ow n γ s a w→m≤s.hp.length→o.wp P a w (fun a' w'=>∃C2:World→Prop,C2 w'∧(∀x,C2 x→Sat w0 ow γ (Cz m G s.hp) x)∧Cn P ops.toArray (fun a' w'=>∃s',Fits w0 ow n s' a' w'∧K s') p C2 a' w') NoQ
def Er (P:Program) (w0:World) (ow:Nat→Prop) (n m:Nat) (G:List Nat) (ops:List Oper) (rd:Bool) (i:Nat) (K:S→Prop) (call:Oper→Prop) (s:S):Prop:=
 match ops[i]? with
 |none=>False
 |some o=>match Ld ops s.fr o with
  |none=>False
  |some false=>dOk n o.dst∧K (s.put o.dst C4)
  |some true=>if Ih o.op=true then rd=false∧call o
   else if rd=true then (if I8 o.op=true then (match op1 P w0 ow (Fr.ev s.fr) (Cz m G s.hp) o.op with
    |some (c,v,hp')=>((c∧hp'=Cz m G s.hp)∧dOk n o.dst)∧K (S.put ⟨s.fr,s.hp⟩ o.dst v)
    |none=>False) else False)
   else match Cw P w0 ow n o s with
    |some (c,s')=>c∧(Ce G s'.hp).take m=(Ce G s.hp).take m∧K s'
    |none=>False
def Da (P:Program) (w0:World) (ow:Nat→Prop) (n m:Nat) (G:List Nat) (ops:List Oper) (K:S→Prop):Pl→S→Prop
 | .nil,s=>K s
 | .rd i p,s=>Er P w0 ow n m G ops true i (Da P w0 ow n m G ops K p) (fun o=>Ex P w0 ow n m G ops o p s K) s
 | .wr i p,s=>Er P w0 ow n m G ops false i (Da P w0 ow n m G ops K p) (fun o=>Ex P w0 ow n m G ops o p s K) s
 | .fk i p j q,s=>Er P w0 ow n m G ops false i (Da P w0 ow n m G ops K p) (fun o=>Ex P w0 ow n m G ops o p s K) s∧Er P w0 ow n m G ops false j (Da P w0 ow n m G ops K q) (fun o=>Ex P w0 ow n m G ops o q s K) s
 | .f3 i p j q k r,s=>Er P w0 ow n m G ops false i (Da P w0 ow n m G ops K p) (fun o=>Ex P w0 ow n m G ops o p s K) s∧Er P w0 ow n m G ops false j (Da P w0 ow n m G ops K q) (fun o=>Ex P w0 ow n m G ops o q s K) s∧Er P w0 ow n m G ops false k (Da P w0 ow n m G ops K r) (fun o=>Ex P w0 ow n m G ops o r s K) s
theorem A2d {ops:List Oper} {s:S} {K:S→Prop}:Da P w0 ow n m G ops K .nil s=K s:=Eq.trans rfl rfl
theorem Ab2 {ops:List Oper} {i:Nat} {p:Pl} {s:S} {K:S→Prop}:Da P w0 ow n m G ops K (.rd i p) s=Er P w0 ow n m G ops true i (Da P w0 ow n m G ops K p) (fun o=>Ex P w0 ow n m G ops o p s K) s:=Eq.trans rfl rfl
theorem A2e {ops:List Oper} {i:Nat} {p:Pl} {s:S} {K:S→Prop}:Da P w0 ow n m G ops K (.wr i p) s=Er P w0 ow n m G ops false i (Da P w0 ow n m G ops K p) (fun o=>Ex P w0 ow n m G ops o p s K) s:=Eq.trans rfl rfl
theorem A2f {ops:List Oper} {i j:Nat} {p q:Pl} {s:S} {K:S→Prop}:Da P w0 ow n m G ops K (.fk i p j q) s=(Er P w0 ow n m G ops false i (Da P w0 ow n m G ops K p) (fun o=>Ex P w0 ow n m G ops o p s K) s∧Er P w0 ow n m G ops false j (Da P w0 ow n m G ops K q) (fun o=>Ex P w0 ow n m G ops o q s K) s):=Eq.trans rfl rfl
theorem A2g {ops:List Oper} {i j k:Nat} {p q r:Pl} {s:S} {K:S→Prop}:Da P w0 ow n m G ops K (.f3 i p j q k r) s=(Er P w0 ow n m G ops false i (Da P w0 ow n m G ops K p) (fun o=>Ex P w0 ow n m G ops o p s K) s∧Er P w0 ow n m G ops false j (Da P w0 ow n m G ops K q) (fun o=>Ex P w0 ow n m G ops o q s K) s∧Er P w0 ow n m G ops false k (Da P w0 ow n m G ops K r) (fun o=>Ex P w0 ow n m G ops o r s K) s):=Eq.trans rfl rfl
theorem A2h {o:Oper} {c:Prop} {s s':S} {γ:List Nm} {a:Act} {w:World} {W:(World→Prop)→Act→World→Prop} (h:FitsAt w0 ow n γ s a w) (hm:m≤s.hp.length) (hs:Cw P w0 ow n o s=some (c,s')) (hc:c) (ht:(Ce G s'.hp).take m=(Ce G s.hp).take m)
  (hK:∀γ' a' w',FitsAt w0 ow n γ' s' a' w'→m≤s'.hp.length→W (fun x=>Sat w0 ow γ' (Cz m G s'.hp) x) a' w'):o.wp P a w (fun a' w'=>∃C2:World→Prop,C2 w'∧(∀x,C2 x→Sat w0 ow γ (Cz m G s.hp) x)∧W C2 a' w') NoQ:=by
 unfold Cw at hs
 split at hs
 ·rename_i d v hp' hop
  simp only[Option.some.injEq,Prod.mk.injEq] at hs
  obtain⟨rfl,rfl⟩:=hs
  obtain⟨⟨h1,h2⟩,h3⟩:=hc
  obtain⟨γ',w',hS',hγ,hr⟩:=Oi (P:=P) (ρ:=a.eval) (o:=o) h.sat (fun x sv hx=>h.ev hx) hop h1 (fun hlt=>⟨fun x sv hx=>Oj (h3 hlt).1 hx,(h3 hlt).2⟩)
  have hhp:(S.put ⟨s.fr,hp'⟩ o.dst v).hp=hp':=by cases o.dst<;>rfl
  have hg:∀t sv,Fr.get s.fr t=some sv→sv.val γ'=sv.val γ:=by
   intro t sv ht
   rcases hγ with rfl|⟨hlt,nm,rfl⟩
   ·rfl
   ·exact Sv.ext (by rw[h.sat.len];exact (h3 hlt).1 _ (Fr.get_mem ht))
  rw[hhp] at ht
  have hl1:=h.sat.len
  have hl2:=hS'.len
  have hge:m≤hp'.length:=by
   rcases hγ with rfl|⟨hlt,nm,rfl⟩
   ·omega
   ·rw[List.length_append] at hl2;simp only[List.length_cons,List.length_nil] at hl2;omega
  have hback:∀x,Sat w0 ow γ' (Cz m G hp') x→Sat w0 ow γ (Cz m G s.hp) x:=by
   intro x hx
   rcases hγ with rfl|⟨hlt,nm,rfl⟩
   ·have e:Cz m G hp'=Cz m G s.hp:=by unfold Cz;rw[ht,show hp'.length=s.hp.length from by omega]
    rw[←e];exact hx
   ·have e:Cz m G hp'=Cz m G s.hp++[.gone]:=by
     rw[List.length_append] at hl2;simp only[List.length_cons,List.length_nil] at hl2
     unfold Cz Lt
     rw[ht,show hp'.length - m=(s.hp.length - m)+1 from by omega,List.replicate_succ',List.append_assoc]
    rw[e] at hx
    exact hx.front (by rw[O6 m G s.hp hm];exact hl1) (by rw[O6 m G s.hp hm];exact Ab1 (h3 hlt).2)
  have hfin:∀x,x=v.val γ'→W (fun x=>Sat w0 ow γ' (Cz m G hp') x) (a.put o.dst x) w':=fun x hx=>by
   have:=hK γ' _ w' (h.put hS' hg h2 hx) (by rw[hhp];exact hge)
   rw[hhp] at this
   exact this
  unfold Oper.wp
  rcases hr with hr|⟨hr,hv⟩
  ·rw[hr]
   exact⟨_,hS'.vis hge,hback,hfin _ rfl⟩
  ·rw[hr]
   subst hv
   exact⟨_,hS'.vis hge,hback,hfin _ rfl⟩
 ·cases hs
theorem Na {ops:List Oper} {i:Nat} {p:Pl} {s:S} {K:S→Prop} {γ:List Nm} {a:Act} {w:World} (ih:∀s γ a w,Da P w0 ow n m G ops K p s→FitsAt w0 ow n γ s a w→m≤s.hp.length→Cn P ops.toArray (fun a' w'=>∃s',Fits w0 ow n s' a' w'∧K s') p (fun x=>Sat w0 ow γ (Cz m G s.hp) x) a w)
  (h:Er P w0 ow n m G ops false i (Da P w0 ow n m G ops K p) (fun o=>Ex P w0 ow n m G ops o p s K) s) (hf:FitsAt w0 ow n γ s a w) (hm:m≤s.hp.length):
  D4 P ops.toArray i (Cn P ops.toArray (fun a' w'=>∃s',Fits w0 ow n s' a' w'∧K s') p) (fun x=>Sat w0 ow γ (Cz m G s.hp) x) a w:=by
 unfold Er at h
 unfold D4
 simp only[List.getElem?_toArray]
 split at h
 ·exact h.elim
 ·rename_i o hi
  try simp only[hi]
  split at h
  ·exact h.elim
  ·rename_i hw
   have hww:=Mw hf hw
   rw[if_neg (by rw[hww];decide)]
   have:=ih _ γ _ _ h.2 (hf.put hf.sat (fun _ _ _=>rfl) h.1 rfl) (by cases o.dst<;>exact hm)
   have hhp:(S.put ⟨s.fr,s.hp⟩ o.dst C4).hp=s.hp:=by cases o.dst<;>rfl
   rw[hhp] at this
   exact this
  ·rename_i hw
   have hww:=Mw hf hw
   rw[if_pos hww]
   split at h
   ·exact h.2 γ a w hf hm
   ·split at h
    ·rename_i hb;cases hb
    ·split at h
     ·rename_i c s' hs
      exact A2h hf hm hs h.1 h.2.1 fun γ' a' w' hf' hm'=>ih s' γ' a' w' h.2.2 hf' hm'
     ·exact h.elim
theorem Hy {ops:List Oper} {K:S→Prop}:∀(p:Pl) (s:S) (γ:List Nm) (a:Act) (w:World),Da P w0 ow n m G ops K p s→FitsAt w0 ow n γ s a w→m≤s.hp.length→
  Cn P ops.toArray (fun a' w'=>∃s',Fits w0 ow n s' a' w'∧K s') p (fun x=>Sat w0 ow γ (Cz m G s.hp) x) a w
 | .nil,s,γ,a,w,h,hf,hm=>⟨s,⟨γ,hf⟩,h⟩
 | .wr i p,s,γ,a,w,h,hf,hm=>Na (Hy p) h hf hm
 | .fk i p j q,s,γ,a,w,h,hf,hm=>⟨Na (Hy p) h.1 hf hm,Na (Hy q) h.2 hf hm⟩
 | .f3 i p j q k r,s,γ,a,w,h,hf,hm=>⟨Na (Hy p) h.1 hf hm,Na (Hy q) h.2.1 hf hm,Na (Hy r) h.2.2 hf hm⟩
 | .rd i p,s,γ,a,w,h,hf,hm=>by
  rw[Ab2] at h
  unfold Er at h
  simp only[Cn,List.getElem?_toArray]
  split at h
  ·exact h.elim
  ·rename_i o hi
   try simp only[hi]
   split at h
   ·exact h.elim
   ·rename_i hw
    have hww:=Mw hf hw
    rw[if_neg (by rw[hww];decide)]
    have:=Hy p _ γ _ w h.2 (hf.put hf.sat (fun _ _ _=>rfl) h.1 rfl) (by cases o.dst<;>exact hm)
    have hhp:(S.put ⟨s.fr,s.hp⟩ o.dst C4).hp=s.hp:=by cases o.dst<;>rfl
    rw[hhp] at this
    exact this
   ·rename_i hw
    have hww:=Mw hf hw
    rw[if_pos hww]
    split at h
    ·cases h.1
    ·rw[if_pos rfl] at h
     split at h
     ·rename_i hir
      split at h
      ·rename_i c v hp' hop
       obtain⟨⟨⟨h1,hsame⟩,h2⟩,h3⟩:=h
       refine⟨v.val γ,fun x hx=>?_,?_⟩
       ·obtain⟨_,hr⟩:=Mt (P:=P) (w:=x) (ρ:=a.eval) (o:=o) hir hsame hx (fun x sv hx=>hf.ev hx) hop h1
        unfold Gj
        rw[hr]
        exact⟨rfl,rfl⟩
       ·have:=Hy p _ γ _ w h3 (hf.put hf.sat (fun _ _ _=>rfl) h2 rfl) (by cases o.dst<;>exact hm)
        have hhp:(S.put ⟨s.fr,s.hp⟩ o.dst v).hp=s.hp:=by cases o.dst<;>rfl
        rw[hhp] at this
        exact this
      ·exact h.elim
     ·exact h.elim
theorem Gv {ops:List Oper} {o:Oper} {p:Pl} {f:FuncId} {xs:List Operand} {tys:Array TypeId} {s:S} {svs:List Sv} {K:S→Prop} (ho:o.op=.call {callee:=.value (.func f),args:=xs.toArray,argTypes:=tys})
  (hcb:Af P f) (hev:evs s.fr xs=some svs) {sv:Sv} {hp':List Res} (hc:Ad P w0 ow f svs s.hp sv hp') (hd:dOk n o.dst) (hb:s.hp.length < hp'.length→s.bnd) (he:(Ce G hp').take m=(Ce G s.hp).take m)
  (h:Da P w0 ow n m G ops K p (S.put ⟨s.fr,hp'⟩ o.dst sv)):Ex P w0 ow n m G ops o p s K:=by
 intro γ a w hf hml
 refine Om hf ho hcb hev hc hd hb fun δ a' w' hf'=>?_
 have hhp:(S.put ⟨s.fr,hp'⟩ o.dst sv).hp=hp':=by cases o.dst<;>rfl
 have hsat:=hf'.sat
 rw[hhp] at hsat
 have hl:=hf.sat.len
 have hl':=hsat.len
 rw[List.length_append] at hl'
 have h2:=Hy p _ _ _ _ h hf' (by rw[hhp];omega)
 rw[hhp] at h2
 refine⟨_,hsat.vis (by omega),fun x hx=>?_,h2⟩
 have e:Cz m G hp'=Cz m G s.hp++Lt (hp'.length - s.hp.length):=by
  unfold Cz Lt
  rw[he,show hp'.length - m=(s.hp.length - m)+(hp'.length - s.hp.length) from by omega,List.append_assoc,List.replicate_append_replicate]
 rw[e] at hx
 cases δ with
 |nil=>
  have e0:hp'.length - s.hp.length=0:=by simp only[List.length_nil] at hl';omega
  rw[e0] at hx
  unfold Lt at hx
  rw[List.replicate_zero,List.append_nil,List.append_nil] at hx
  exact hx
 |cons q r=>exact hx.front (by rw[O6 m G s.hp hml];exact hl) (by rw[O6 m G s.hp hml];exact Ab1 (hb (by simp only[List.length_cons] at hl';omega)).2)
theorem Bz {ops:List Oper} {o:Oper} {p:Pl} {f:FuncId} {xs:List Operand} {tys:Array TypeId} {s:S} {svs:List Sv} {K:S→Prop} {sv:Sv} (ho:o.op=.call {callee:=.value (.func f),args:=xs.toArray,argTypes:=tys})
  (hcb:Af P f) (hev:evs s.fr xs=some svs) (hc:Ad P w0 ow f svs s.hp sv s.hp) (hd:dOk n o.dst) (h:Da P w0 ow n m G ops K p (S.put ⟨s.fr,s.hp⟩ o.dst sv)):Ex P w0 ow n m G ops o p s K:=
 Gv ho hcb hev hc hd (fun h=>absurd h (Nat.lt_irrefl _)) rfl h
theorem Sr {id:Nat} {ops:List Oper} {s:S} {K:Exit→S→Prop} (m:Nat) (G:List Nat) (p:Pl) (s1:S) (hm:P.follows .mixedOrders=true) (hs:Region.noSelect ops.toArray=true) (hB:plB .any ops.toArray ops.length p (Array.replicate ops.length false)=true)
  (hml:m≤s.hp.length) (h:Da P w0 ow n m G ops (fun s'=>Gn w0 ow n s' s1) p s) (hk:K .normal s1):Bf P w0 ow n id ops s K:=by
 rintro a w ⟨γ,hf⟩
 refine Aj6 p hm hs hB (fun x=>Sat w0 ow γ (Cz m G s.hp) x) fun w2 hd=>?_
 have hf2:=Fits.drawn hf hd.out
 refine⟨hf2.sat.vis hml,?_⟩
 have:=Hy p s γ a w2 h hf2 hml
 have mono:∀(p:Pl) (C:World→Prop) (a:Act) (w:World),Cn P ops.toArray (fun a' w'=>∃s',Fits w0 ow n s' a' w'∧Gn w0 ow n s' s1) p C a w→Cn P ops.toArray (fun a' w'=>den w0 ow n K .normal a' w') p C a w:=by
  intro p
  have wr:∀(i:Nat) (W W':(World→Prop)→Act→World→Prop),(∀C a w,W C a w→W' C a w)→∀C a w,D4 P ops.toArray i W C a w→D4 P ops.toArray i W' C a w:=by
   intro i W W' hW C a w h
   unfold D4 at h ⊢
   split
   ·rename_i ho;simp only[ho] at h
   ·rename_i o ho
    simp only[ho] at h
    split
    ·rename_i hw;simp only[hw,if_true] at h;exact Ib (fun a w ⟨C2,h1,h2,h3⟩=>⟨C2,h1,h2,hW _ _ _ h3⟩) h
    ·rename_i hw;simp only[hw] at h;exact hW _ _ _ h
  induction p with
  |nil=>exact fun C a w ⟨s',h1,h2⟩=>⟨s1,h2 _ _ h1,hk⟩
  |rd i p ih=>
   intro C a w h
   unfold Cn at h ⊢
   split
   ·rename_i ho;simp only[ho] at h
   ·rename_i o ho
    simp only[ho] at h
    split
    ·rename_i hw;simp only[hw,if_true] at h;obtain⟨v,h1,h2⟩:=h;exact⟨v,h1,ih _ _ _ h2⟩
    ·rename_i hw;simp only[hw] at h;exact ih _ _ _ h
  |wr i p ih=>exact fun C a w h=>wr i _ _ ih C a w h
  |fk i p j q ih1 ih2=>exact fun C a w h=>⟨wr i _ _ ih1 C a w h.1,wr j _ _ ih2 C a w h.2⟩
  |f3 i p j q k r ih1 ih2 ih3=>exact fun C a w h=>⟨wr i _ _ ih1 C a w h.1,wr j _ _ ih2 C a w h.2.1,wr k _ _ ih3 C a w h.2.2⟩
 exact mono p _ _ _ this
end
attribute [push_cast] A2d Ab2 A2e A2f A2g Er Ld Cz A2b A2c
end Go.Proofs.YtiaeollemmkclaaDoor
