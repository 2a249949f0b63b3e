import Derived.Test.YtedaafmfjhjfmaaGreatDoorEn3
/- ShA: Sh, Fun, Hand, Gh, Abs, joined. -/
/- What a term shows to whom is called: a slice, wherever it lies. No program in sight. -/
namespace Go.Proofs.YtedaafmfjhjfmaaGreatDoor
open Go.RowKit
set_option linter.unusedSimpArgs false
section
def Bg (w0:World) (ow:Nat→Prop) (hp:List Res) (sv:Sv) (vs:List Value):Prop:=
 ∀γ w,Sat w0 ow γ hp w→∃A c,sv.val γ=.slice A vs.length c∧vs.length≤c∧RdV w w.heap.size A vs
section
variable {w0:World} {ow:Nat→Prop} {hp:List Res} {e:TypeId} {c:Cont} {vs:List Value} {k:Nat}
theorem Apk (hv:∀γ,c.vals γ=vs):c.len=vs.length:=by rw[←hv [],Cont.len_vals]
theorem Ri (hr:hp[k]?=some (.own e c)) (hv:∀γ,c.vals γ=vs):Bg w0 ow hp (.x (.a (.o k))) vs:=fun γ w hS=>by
 obtain⟨A,m,h1,h2,h3,h4⟩:=hS.rdOwn hr
 rw[Apk hv] at h1 h2
 rw[hv γ] at h4
 exact⟨A,m,h1,h2,h4⟩
theorem Apl {w:World} {B:Nat} {A:Option Addr} {xs:List Value} (h:RdV w B A xs) (n:Nat):RdV w B A (xs.take n):=RdV.take' h n
theorem Apm {t:TypeId} (hr:hp[k]?=some (.blk t c)) (hv:∀γ,c.vals γ=vs) (off len cap:Nat) (h:off+len≤vs.length) (hc:len≤cap):Bg w0 ow hp (.x (.a (.s k off len cap))) ((vs.drop off).take len):=fun γ w hS=>by
 have h4:=hS.rdBlk hr off
 rw[hv γ] at h4
 have hl:((vs.drop off).take len).length=len:=by rw[List.length_take,List.length_drop];omega
 exact⟨_,cap,by rw[hl];rfl,by omega,Apl h4 len⟩
theorem Vn {t:TypeId} (hr:hp[k]?=some (.blk t c)) (hv:∀γ,c.vals γ=vs) (n cap:Nat) (h:vs.length=n) (hc:n≤cap):Bg w0 ow hp (.x (.a (.s k 0 n cap))) vs:=by
 have:=Apm (w0:=w0) (ow:=ow) hr hv 0 n cap (by omega) hc
 rwa [List.drop_zero,List.take_of_length_le (by omega)] at this
theorem B4 {A:Option Addr} (hR:RdV w0 w0.heap.size A vs) (n cap:Nat) (h:vs.length=n) (hc:n≤cap):Bg w0 No hp (.x (.a (.v (.slice A n cap)))) vs:=fun γ w hS=>
 ⟨A,cap,by rw[h];rfl,by omega,(hR.below (Hu hS.keeps)).more (Hu hS.keeps).size⟩
theorem Apn:Bg w0 ow hp (.x (.a (.v (.slice none 0 0)))) []:=fun _ _ _=>⟨none,0,rfl,Nat.le_refl _,RdV.nil_⟩
end
def keepS:List Nat→Fr→Fr
 |[],_=>[]
 |t::r,fr=>match Fr.get fr t with
  |some v=>(t,v)::keepS r fr
  |none=>keepS r fr
theorem Ky:∀(l:List Nat) (fr:Fr) (t:Nat) (v:Sv),Fr.get (keepS l fr) t=some v→Fr.get fr t=some v
 |[],_,_,_,h=>by cases h
 |t::r,fr,u,v,h=>by
  unfold keepS at h
  cases hg:Fr.get fr t with
  |none=>rw[hg] at h;exact Ky r fr u v h
  |some x=>
   rw[hg] at h
   simp only[Fr.get] at h
   split at h
   ·rename_i e
    subst e
    rw[hg];exact h
   ·exact Ky r fr u v h
section
variable {P:Program} {w0:World} {ow:Nat→Prop} {n:Nat} {s:S} {K:Exit→S→Prop}
theorem Aa8 (l:List Nat):Fh w0 ow n s ⟨keepS l s.fr,s.hp⟩:=fun _ _ ⟨γ,h⟩=>⟨γ,h.sat,h.defers,h.size,fun t v hv=>h.at_ t v (Ky l _ t v hv)⟩
theorem Hw {id:Nat} {ops:List Oper} (l:List Nat) (h:Ao P w0 ow n id ops ⟨keepS l s.fr,s.hp⟩ K):Ao P w0 ow n id ops s K:=fun a w hf=>h a w (Aa8 l a w hf)
theorem Gp {ops rest:List Oper} {o:Oper} {K:S→Prop} (l:List Nat) (h:Ah P w0 ow n ops o rest ⟨keepS l s.fr,s.hp⟩ K):Ah P w0 ow n ops o rest s K:=fun a w hf=>h a w (Aa8 l a w hf)
end
section
variable {P:Program} {w0:World} {ow:Nat→Prop} {n:Nat} {s s':S} {K:Exit→S→Prop} {K1:S→Prop}
theorem Apo {c:Code} (h:s=s'):Cc P w0 ow n c s K=Cc P w0 ow n c s' K:=by rw[h]
theorem App {c:Code} (h:s=s'):Aj P w0 ow n c s K=Aj P w0 ow n c s' K:=by rw[h]
theorem Apq {i:Nat} {l:List Oper} (h:s=s'):Ao P w0 ow n i l s K=Ao P w0 ow n i l s' K:=by rw[h]
theorem Apr {ops l:List Oper} {o:Oper} (h:s=s'):Ah P w0 ow n ops o l s K1=Ah P w0 ow n ops o l s' K1:=by rw[h]
theorem Aps {ops:List Oper} {o:Oper} {p:List (Nat×Bool)} (h:s=s'):Au P w0 ow n ops o p s K1=Au P w0 ow n ops o p s' K1:=by rw[h]
end
attribute [congr] Apo App Apq Apr Aps
attribute [push_cast] keepS
end
section
section
variable {w0 w w':World} {ow:Nat→Prop} {γ:List Nm} {hp:List Res}
theorem Res.ren_has {ρ:List Nat} (hρ:∀k,k < ρ.length→rn ρ k < γ.length) {k:Nat} (hk:k < ρ.length) (r:Res):r.has (reγ ρ γ) k=(r.ren ρ).has γ (rn ρ k):=by
 cases r with
 |gone=>rfl
 |blk t c=>simp only[Res.has,Res.ren,Dl hρ hk]
 |own e c=>simp only[Res.has,Res.ren,Cx hρ hk]
 |lit e c=>simp only[Res.has,Res.ren,Dl hρ hk]
 |str e c=>simp only[Res.has,Res.ren,Cx hρ hk]
 |it s pos=>simp only[Res.has,Res.ren,Dl hρ hk]
 |pin g t c=>simp only[Res.has,Res.ren,Dl hρ hk]
 |onn e m c=>simp only[Res.has,Res.ren,Cx hρ hk]
 |abs R=>simp only[Res.has,Res.ren,Rb hρ hk]
 |mp q l=>simp only[Res.has,Res.ren,Cx hρ hk]
theorem Res.ren_holds {ρ:List Nat} (hρ:∀k,k < ρ.length→rn ρ k < γ.length) {k:Nat} (hk:k < ρ.length) {r:Res} (hb:r.bnd ρ.length):r.holds (reγ ρ γ) k w↔(r.ren ρ).holds γ (rn ρ k) w:=by
 cases r with
 |gone=>exact Iff.rfl
 |blk t c=>simp only[Res.holds,Res.ren];rw[Dh hk (hρ k hk),Dl hρ hk,Cont.re hρ hb]
 |own e c=>simp only[Res.holds,Res.ren];rw[Dh hk (hρ k hk),Cx hρ hk,Cont.re hρ hb]
 |lit e c=>simp only[Res.holds,Res.ren];rw[Dh hk (hρ k hk),Dl hρ hk,Cont.re hρ hb]
 |str e c=>simp only[Res.holds,Res.ren];rw[Dh hk (hρ k hk),Cx hρ hk,Cont.re hρ hb]
 |it s pos=>simp only[Res.holds,Res.ren];rw[Dh hk (hρ k hk),Dl hρ hk]
 |pin g t c=>simp only[Res.holds,Res.ren];rw[Dh hk (hρ k hk),Dl hρ hk,Cont.re hρ hb]
 |onn e m c=>simp only[Res.holds,Res.ren];rw[Dh hk (hρ k hk),Cx hρ hk,Cont.re hρ hb]
 |abs R=>simp only[Res.holds,Res.ren];rw[Dh hk (hρ k hk),Cx hρ hk,Rb hρ hk]
 |mp q l=>simp only[Res.holds,Res.ren];rw[Dh hk (hρ k hk),Cx hρ hk,U2 hρ hb]
theorem Sat.sel {ρ:List Nat} {hp0:List Res} (hS:Sat w0 ow γ hp w) (hle:Ir ρ hp ρ hp0) (hn:L6 ρ) (hb:∀r∈hp0,Res.bnd hp0.length r):Sat w0 ow (reγ ρ γ) hp0 w∧∀k,k < ρ.length→rn ρ k < γ.length:=by
 have h3:=U0 hn
 obtain⟨hlen,hget⟩:=Jl hle
 have hl:=hS.len
 have hρ:∀k,k < ρ.length→rn ρ k < γ.length:=fun k hk=>by
  have:=hget k _ (List.getElem?_eq_getElem (show k < hp0.length by omega))
  have:=Ax this
  rw[hl];exact this
 have hinj:∀j k,j < ρ.length→k < ρ.length→j≠k→rn ρ j≠rn ρ k:=by
  intro j k hj hk hjk he
  have e1:rn ρ j=ρ[j]:=by simp [rn,List.getD_eq_getElem?_getD,List.getElem?_eq_getElem hj]
  have e2:rn ρ k=ρ[k]:=by simp [rn,List.getD_eq_getElem?_getD,List.getElem?_eq_getElem hk]
  rw[e1,e2] at he
  exact hjk ((List.getElem_inj h3).1 he)
 have lt':∀(k:Nat) (r:Res),hp0[k]?=some r→k < ρ.length:=fun k r hr=>by have:=Ax hr;omega
 refine⟨⟨hS.keeps,by simp [reγ,hlen],fun k r hr=>?_,fun k r b hr hb2=>?_,fun j k r r' b hr hr' hjk hb2 hb'=>?_⟩,hρ⟩
 ·exact (Res.ren_holds hρ (lt' k r hr) (by rw[hlen];exact hb r (List.mem_of_getElem? hr))).2 (hS.holds _ _ (hget k r hr))
 ·rw[Res.ren_has hρ (lt' k r hr)] at hb2
  exact hS.mine _ _ b (hget k r hr) hb2
 ·rw[Res.ren_has hρ (lt' j r hr)] at hb2
  rw[Res.ren_has hρ (lt' k r' hr')] at hb'
  exact hS.apart _ _ _ _ b (hget j r hr) (hget k r' hr') (hinj j k (lt' j r hr) (lt' k r' hr') hjk) hb2 hb'
def Apt (γ:List Nm) (hp:List Res) (b:Nat):Prop:=∃(k:Nat) (r:Res),hp[k]?=some r∧r.has γ k b
theorem Sat.anew {X:Nat→Prop} (hS:Sat w0 ow γ hp w) (hX:∀b,Apt γ hp b→X b):Sat w X γ hp w:=
 ⟨Keeps.refl _ _,hS.len,hS.holds,fun k r b hr hb=>⟨.inl (hX b ⟨k,r,hr,hb⟩),(hS.mine k r b hr hb).2⟩,hS.apart⟩
def goneAll:List Nat→List Res→List Res
 |[],hp=>hp
 |k::ks,hp=>(goneAll ks hp).set k .gone
theorem Aa9 (ks:List Nat) (hp:List Res):(goneAll ks hp).length=hp.length:=by
 induction ks with
 |nil=>rfl
 |cons k ks ih=>simp [goneAll,ih]
theorem Kz {ks:List Nat} {hp:List Res} {k:Nat} {r:Res} (h:(goneAll ks hp)[k]?=some r):r=.gone∨(k∉ks∧hp[k]?=some r):=by
 induction ks with
 |nil=>exact .inr ⟨by simp,h⟩
 |cons j ks ih=>
  simp only[goneAll] at h
  by_cases e:j=k
  ·subst e
   rw[List.getElem?_set] at h
   simp only[if_true] at h
   split at h
   ·exact .inl (Option.some.inj h).symm
   ·cases h
  ·rw[List.getElem?_set_ne e] at h
   rcases ih h with h|⟨h1,h2⟩
   ·exact .inl h
   ·exact .inr ⟨by simp only[List.mem_cons,not_or];exact⟨fun e2=>e e2.symm,h1⟩,h2⟩
def B6 (a n:Nat):List Nat:=(List.range n).map (a+·)
theorem Me (a n:Nat):(B6 a n).length=n:=by simp [B6]
theorem Rj {a n k:Nat} (h:k < n):rn (B6 a n) k=a+k:=by simp [rn,B6,List.getD_eq_getElem?_getD,h]
theorem Aba (γ γ1:List Nm):reγ (B6 γ.length γ1.length) (γ++γ1)=γ1:=by
 apply List.ext_getElem
 ·simp [reγ,B6]
 ·intro i h1 h2
  simp [reγ,B6,List.getD_eq_getElem?_getD,List.getElem?_append_right,List.getElem?_eq_getElem h2]
theorem Sat.back {X:Nat→Prop} {γ1:List Nm} {hp1:List Res} (hS:Sat w0 ow γ hp w) (ks:List Nat) (hX:∀b,X b→∃(k:Nat) (r:Res),k∈ks∧hp[k]?=some r∧r.has γ k b)
  (h1:Sat w X γ1 hp1 w') (hbr:∀r∈hp,Res.bnd hp.length r) (hb1:∀r∈hp1,Res.bnd hp1.length r):
  Sat w0 ow (γ++γ1) (goneAll ks hp++hp1.map (Res.ren (B6 hp.length hp1.length))) w':=by
 have hl:=hS.len
 have hl1:=h1.len
 have hgl:=Aa9 ks hp
 have hre:reγ (B6 hp.length hp1.length) (γ++γ1)=γ1:=by rw[←hl,←hl1];exact Aba γ γ1
 have hρ:∀k,k < (B6 hp.length hp1.length).length→rn (B6 hp.length hp1.length) k < (γ++γ1).length:=fun k hk=>by
  rw[Me] at hk
  rw[Rj hk,List.length_append]
  omega
 have hXo:∀b,X b→G7 w0 ow b∧b < w.heap.size:=fun b hb=>by
  obtain⟨k,r,_,hr,hbb⟩:=hX b hb
  exact hS.mine k r b hr hbb
 have far:∀(k:Nat) (r:Res) (b:Nat),k∉ks→hp[k]?=some r→r.has γ k b→¬X b:=by
  intro k r b hk hr hb hx
  obtain⟨j,q,hj,hq,hqb⟩:=hX b hx
  exact hS.apart j k q r b hq hr (fun e=>hk (e▸hj)) hqb hb
 have at_:∀(i:Nat) (r:Res),(goneAll ks hp++hp1.map (Res.ren (B6 hp.length hp1.length)))[i]?=some r→(r=.gone∧i < hp.length)∨(i < hp.length∧i∉ks∧hp[i]?=some r)∨∃(j:Nat) (q:Res),i=hp.length+j∧hp1[j]?=some q∧r=q.ren (B6 hp.length hp1.length):=by
  intro i r hr
  by_cases hi:i < hp.length
  ·rw[List.getElem?_append_left (by omega)] at hr
   rcases Kz hr with h|⟨h2,h3⟩
   ·exact .inl ⟨h,hi⟩
   ·exact .inr (.inl ⟨hi,h2,h3⟩)
  ·rw[List.getElem?_append_right (by omega),List.getElem?_map,Option.map_eq_some_iff] at hr
   obtain⟨q,hq,rfl⟩:=hr
   exact .inr (.inr ⟨i - hp.length,q,by omega,by rw[←hgl];exact hq,rfl⟩)
 have blk1:∀(j:Nat) (q:Res),hp1[j]?=some q→(q.ren (B6 hp.length hp1.length)).has (γ++γ1) (hp.length+j)=q.has γ1 j:=by
  intro j q hq
  have hj:=Ax hq
  have:=Res.ren_has (ρ:=B6 hp.length hp1.length) (γ:=γ++γ1) hρ (k:=j) (by rw[Me];exact hj) q
  rw[hre,Rj hj] at this
  exact this.symm
 refine⟨?_,by simp [hgl,hl,hl1],?_,?_,?_⟩
 ·have hk:=hS.keeps
  have hk1:=h1.keeps
  have hs:=hk.size
  refine⟨hk1.os.trans hk.os,hk1.tape.trans hk.tape,hk1.output.trans hk.output,Nat.le_trans hs hk1.size,fun i hi ho=>?_⟩
  refine (hk1.block i (by omega) fun hx=>?_).trans (hk.block i hi ho)
  rcases (hXo i hx).1 with h|h
  ·exact ho h
  ·omega
 ·intro i r hr
  rcases at_ i r hr with ⟨rfl,_⟩|⟨hi,hk,hq⟩|⟨j,q,rfl,hq,rfl⟩
  ·trivial
  ·exact Res.holds_ext (by omega) (by rw[hl];exact hbr r (List.mem_of_getElem? hq)) (Res.holds_keep (hS.holds i r hq) h1.keeps fun b hb=>far i r b hk hq hb)
  ·have hj:=Ax hq
   have:=(Res.ren_holds (w:=w') (ρ:=B6 hp.length hp1.length) (γ:=γ++γ1) hρ (k:=j) (by rw[Me];exact hj) (by rw[Me];exact hb1 q (List.mem_of_getElem? hq))).1 (by rw[hre];exact h1.holds j q hq)
   rw[Rj hj] at this
   exact this
 ·intro i r b hr hb
  rcases at_ i r hr with ⟨rfl,_⟩|⟨hi,hk,hq⟩|⟨j,q,rfl,hq,rfl⟩
  ·cases hb
  ·rw[Res.has_ext (by omega)] at hb
   have:=hS.mine i r b hq hb
   have hs:=h1.keeps.size
   exact⟨this.1,by omega⟩
  ·rw[blk1 j q hq] at hb
   obtain⟨h2,h3⟩:=h1.mine j q b hq hb
   refine⟨?_,h3⟩
   rcases h2 with h2|h2
   ·exact (hXo b h2).1
   ·have:=hS.keeps.size;exact .inr (by omega)
 ·intro i i' r r' b hr hr' hne hb
  rcases at_ i r hr with ⟨rfl,_⟩|⟨hi,hk,hq⟩|⟨j,q,rfl,hq,rfl⟩
  ·cases hb
  ·rw[Res.has_ext (by omega)] at hb
   rcases at_ i' r' hr' with ⟨rfl,_⟩|⟨hi',hk',hq'⟩|⟨j',q',rfl,hq',rfl⟩
   ·intro h;cases h
   ·rw[Res.has_ext (by omega)]
    exact hS.apart i i' r r' b hq hq' hne hb
   ·rw[blk1 j' q' hq']
    intro hb'
    rcases (h1.mine j' q' b hq' hb').1 with h2|h2
    ·exact far i r b hk hq hb h2
    ·have:=(hS.mine i r b hq hb).2;omega
  ·rw[blk1 j q hq] at hb
   rcases at_ i' r' hr' with ⟨rfl,_⟩|⟨hi',hk',hq'⟩|⟨j',q',rfl,hq',rfl⟩
   ·intro h;cases h
   ·rw[Res.has_ext (by omega)]
    intro hb'
    rcases (h1.mine j q b hq hb).1 with h2|h2
    ·exact far i' r' b hk' hq' hb' h2
    ·have:=(hS.mine i' r' b hq' hb').2;omega
   ·rw[blk1 j' q' hq']
    exact h1.apart j j' q q' b hq hq' (by omega) hb
def mvL (m k n:Nat):List Nat:=(List.range n).map fun i=>if i=m then k else i
theorem Rk (m k n:Nat):(mvL m k n).length=n:=by simp [mvL]
theorem Abb {m k n i:Nat} (h:i < n):rn (mvL m k n) i=if i=m then k else i:=by simp [rn,mvL,List.getD_eq_getElem?_getD,h]
def N5 (m k:Nat) (r':Res) (hp:List Res):List Res:=((hp.set m .gone).set k r').map (Res.ren (mvL m k hp.length))
theorem Apu {ρ:List Nat} (hl:ρ.length=γ.length) (h:∀i,i < γ.length→γ[rn ρ i]?=γ[i]?):reγ ρ γ=γ:=by
 apply List.ext_getElem
 ·simp [reγ,hl]
 ·intro i h1 h2
  have h3:=h i h2
  have hi:i < ρ.length:=by omega
  have e:rn ρ i=ρ[i]:=by simp [rn,List.getD_eq_getElem?_getD,List.getElem?_eq_getElem hi]
  rw[e] at h3
  simp [reγ,List.getD_eq_getElem?_getD,h3,List.getElem?_eq_getElem h2]
theorem Sat.move {m k g:Nat} {t:TypeId} {c:Cont} {r':Res} (hS:Sat w0 ow γ hp w) (hm:hp[m]?=some (.pin g t c)) (hk:hp[k]?=some .gone) (hn:γ[k]?=some (.b g)) (hr':r'.holds γ k w) (hb':∀d,r'.has γ k d→d=g)
  (hbr:∀r∈hp,Res.bnd hp.length r) (hbr':r'.bnd hp.length):Sat w0 ow γ (N5 m k r' hp) w∧reγ (mvL m k hp.length) γ=γ:=by
 have hl:=hS.len
 obtain⟨hm1,hm2,hm3⟩:=hS.holds m _ hm
 have hkl:=Ax hk
 have hmk:m≠k:=fun e=>by subst e;rw[hk] at hm;cases hm
 have hself:reγ (mvL m k hp.length) γ=γ:=by
  refine Apu (by rw[Rk,hl]) fun i hi=>?_
  rw[Abb (by omega)]
  split
  ·rename_i e
   subst e
   rw[hn,hm1,hm2]
  ·rfl
 have hρ:∀i,i < (mvL m k hp.length).length→rn (mvL m k hp.length) i < γ.length:=fun i hi=>by
  rw[Rk] at hi
  rw[Abb hi]
  split<;>omega
 have hcont:∀c:Cont,c.bnd hp.length→(c.ren (mvL m k hp.length)).vals γ=c.vals γ:=fun c hc=>by
  have:=Cont.re (ρ:=mvL m k hp.length) hρ (c:=c) (by rw[Rk];exact hc)
  rw[hself] at this
  exact this.symm
 have hh:∀(i:Nat) (r:Res),r.bnd hp.length→(r.holds γ i w→(r.ren (mvL m k hp.length)).holds γ i w)∧(r.ren (mvL m k hp.length)).has γ i=r.has γ i:=by
  intro i r hb
  cases r with
  |gone=>exact⟨fun h=>h,rfl⟩
  |blk t c=>exact⟨fun h=>by simp only[Res.holds,Res.ren] at h ⊢;rw[hcont c hb];exact h,rfl⟩
  |own e c=>exact⟨fun h=>by simp only[Res.holds,Res.ren] at h ⊢;rw[hcont c hb];exact h,rfl⟩
  |lit e c=>exact⟨fun h=>by simp only[Res.holds,Res.ren] at h ⊢;rw[hcont c hb];exact h,rfl⟩
  |str e c=>exact⟨fun h=>by simp only[Res.holds,Res.ren] at h ⊢;rw[hcont c hb];exact h,rfl⟩
  |it s pos=>exact⟨fun h=>h,rfl⟩
  |pin g t c=>exact⟨fun h=>by simp only[Res.holds,Res.ren] at h ⊢;rw[hcont c hb];exact h,rfl⟩
  |onn e m c=>exact⟨fun h=>by simp only[Res.holds,Res.ren] at h ⊢;rw[hcont c hb];exact h,rfl⟩
  |abs R=>exact⟨fun h=>h,rfl⟩
  |mp q l=>
   have hmp:mpE γ q (F9 (mvL m k hp.length) l)=mpE γ q l:=by
    have:=U2 (ρ:=mvL m k hp.length) hρ (q:=q) (l:=l) (by rw[Rk];exact hb)
    rw[hself] at this
    exact this.symm
   exact⟨fun h=>by simp only[Res.holds,Res.ren] at h ⊢;rw[hmp];exact h,rfl⟩
 have at_:∀(i:Nat) (r:Res),(N5 m k r' hp)[i]?=some r→∃q:Res,r=q.ren (mvL m k hp.length)∧q.bnd hp.length∧((i=k∧q=r')∨(i≠k∧i=m∧q=.gone)∨(i≠k∧i≠m∧hp[i]?=some q)):=by
  intro i r hr
  unfold N5 at hr
  rw[List.getElem?_map,Option.map_eq_some_iff] at hr
  obtain⟨q,hq,rfl⟩:=hr
  refine⟨q,rfl,?_⟩
  by_cases e:k=i
  ·subst e
   rw[List.getElem?_set] at hq
   simp only[if_true,List.length_set] at hq
   rw[if_pos hkl] at hq
   cases hq
   exact⟨hbr',.inl ⟨rfl,rfl⟩⟩
  ·rw[List.getElem?_set_ne e] at hq
   by_cases e2:m=i
   ·subst e2
    rw[List.getElem?_set] at hq
    simp only[if_true] at hq
    split at hq
    ·cases hq
     exact⟨trivial,.inr (.inl ⟨fun h=>e h.symm,rfl,rfl⟩)⟩
    ·cases hq
   ·rw[List.getElem?_set_ne e2] at hq
    exact⟨hbr q (List.mem_of_getElem? hq),.inr (.inr ⟨fun h=>e h.symm,fun h=>e2 h.symm,hq⟩)⟩
 have hmb:(Res.pin g t c).has γ m g:=by show some (nmB γ m)=some g;rw[hm2]
 refine⟨⟨hS.keeps,by simp [N5,hl],?_,?_,?_⟩,hself⟩
 ·intro i r hr
  obtain⟨q,rfl,hb,h⟩:=at_ i r hr
  rcases h with ⟨rfl,rfl⟩|⟨_,_,rfl⟩|⟨_,_,hq⟩
  ·exact (hh _ _ hb).1 hr'
  ·trivial
  ·exact (hh _ _ hb).1 (hS.holds i q hq)
 ·intro i r b hr hbb
  obtain⟨q,rfl,hb,h⟩:=at_ i r hr
  rw[(hh _ _ hb).2] at hbb
  rcases h with ⟨rfl,rfl⟩|⟨_,_,rfl⟩|⟨_,_,hq⟩
  ·obtain rfl:=hb' _ hbb
   exact hS.mine m _ _ hm hmb
  ·cases hbb
  ·exact hS.mine i q b hq hbb
 ·intro i i' r r1 b hr hr1 hne hbb
  obtain⟨q,rfl,hb,h⟩:=at_ i r hr
  obtain⟨q1,rfl,hb1,h1⟩:=at_ i' r1 hr1
  rw[(hh _ _ hb).2] at hbb
  rw[(hh _ _ hb1).2]
  rcases h with ⟨rfl,rfl⟩|⟨_,_,rfl⟩|⟨h2,h3,hq⟩
  ·obtain rfl:=hb' _ hbb
   rcases h1 with ⟨rfl,rfl⟩|⟨_,_,rfl⟩|⟨h4,h5,hq1⟩
   ·exact absurd rfl hne
   ·intro h;cases h
   ·exact hS.apart m i' _ q1 _ hm hq1 (fun e=>h5 e.symm) hmb
  ·cases hbb
  ·rcases h1 with ⟨rfl,rfl⟩|⟨_,_,rfl⟩|⟨h4,h5,hq1⟩
   ·intro e
    obtain rfl:=hb' _ e
    exact hS.apart i m q _ _ hq hm h3 hbb hmb
   ·intro h;cases h
   ·exact hS.apart i i' q q1 b hq hq1 hne hbb
end
section
variable {P:Program} {w0:World} {ow:Nat→Prop} {f:FuncId} {svs:List Sv} {hp:List Res} {sv1:Sv}
theorem Abc {hp1:List Res} (ks:List Nat) (hbr:∀r∈hp,Res.bnd hp.length r) (hb1:∀r∈hp1,Res.bnd hp1.length r) (hsb:sv1.bnd hp1.length)
  (h:∀γ w,Sat w0 ow γ hp w→∃X:Nat→Prop,(∀b,X b→∃(k:Nat) (r:Res),k∈ks∧hp[k]?=some r∧r.has γ k b)∧Calls P f (svs.map (Sv.val γ)).toArray w fun e w'=>∃γ1,e=.returned (sv1.val γ1)∧Sat w X γ1 hp1 w'):
  Ad P w0 ow f svs hp (sv1.ren (B6 hp.length hp1.length)) (goneAll ks hp++hp1.map (Res.ren (B6 hp.length hp1.length))):=fun γ w hS=>by
 obtain⟨X,hX,hc⟩:=h γ w hS
 refine hc.mono fun e w' ⟨γ1,he,h1⟩=>⟨γ1,?_,hS.back ks hX h1 hbr hb1⟩
 have hl:=hS.len
 have hl1:=h1.len
 have hre:reγ (B6 hp.length hp1.length) (γ++γ1)=γ1:=by rw[←hl,←hl1];exact Aba γ γ1
 have:=Sv.re (ρ:=B6 hp.length hp1.length) (γ:=γ++γ1) (fun k hk=>by rw[Me] at hk;rw[Rj hk,List.length_append];omega) (x:=sv1) (by rw[Me];exact hsb)
 rw[he,←this,hre]
end
section
variable {P:Program} {w0:World} {ow:Nat→Prop} {n:Nat}
theorem Abd {o:Oper} {f:FuncId} {x:Operand} {xs:Array Operand} {tys:Array TypeId} {ρ:Operand→Value} {w:World} {args caps:Array Value} (ho:o.op=.call {callee:=.value x,args:=xs,argTypes:=tys}) (hx:ρ x=.func (.func f) #[] caps) (hcb:Ac P f)
  (ha:xs.map ρ=args):(execOp ρ o).run P w=.ok (.enter f (args++caps)) w:=by
 unfold execOp
 simp only[ho,resolve,hx,Deferred.ofValue,Sem.run_bind,Sem.run_pure,Result.andThen_ok,invoke,ha,Array.empty_append]
 exact hcb w _
theorem Apv {o:Oper} {f:FuncId} {x:Operand} {xs:List Operand} {tys:Array TypeId} {s:S} {γ:List Nm} {a:Act} {w:World} {svs:List Sv} {cs:List At} {sv:Sv} {hp':List Res} {K:Act→World→Prop} {Q:Exit→Act→World→Prop}
  (hfit:FitsAt w0 ow n γ s a w) (ho:o.op=.call {callee:=.value x,args:=xs.toArray,argTypes:=tys}) (hx:Fr.ev s.fr x=some (.f (.func f) cs)) (hcb:Ac P f) (hev:evs s.fr xs=some svs) (hc:Ad P w0 ow f (svs++cs.map fun y=>.x (.a y)) s.hp sv hp') (hd:dOk n o.dst) (hb:s.hp.length < hp'.length→s.bnd)
  (hK:∀δ a' w',FitsAt w0 ow n (γ++δ) (S.put ⟨s.fr,hp'⟩ o.dst sv) a' w'→K a' w'):o.wp P a w K Q:=by
 unfold Oper.wp
 have e:(svs.map (Sv.val γ)).toArray++(cs.map (At.val γ)).toArray=((svs++cs.map fun y=>Sv.x (.a y)).map (Sv.val γ)).toArray:=by
  rw[List.map_append,List.map_map,←List.append_toArray]
  rfl
 rw[Abd ho (hfit.ev hx) hcb (args:=(svs.map (Sv.val γ)).toArray) (by rw[List.map_toArray,Gk hfit hev]),e]
 simp only[Oper.upon]
 refine (hc γ w hfit.sat).mono ?_
 rintro e w' ⟨δ,rfl,hS'⟩
 refine hK δ _ _ (hfit.put hS' (fun t sv' ht=>?_) hd rfl)
 have hl:=hfit.sat.len
 have hl':=hS'.len
 rw[List.length_append] at hl'
 cases δ with
 |nil=>rw[List.append_nil]
 |cons m r=>
  have hlt:s.hp.length < hp'.length:=by simp at hl';omega
  exact Sv.ext (by rw[hl];exact (hb hlt).1 _ (Fr.get_mem ht))
theorem Abe {ops:List Oper} {o:Oper} {rest:List Oper} {f:FuncId} {x:Operand} {xs:List Operand} {tys:Array TypeId} {s:S} {svs:List Sv} {cs:List At} {K:S→Prop} (ho:o.op=.call {callee:=.value x,args:=xs.toArray,argTypes:=tys})
  (hx:Fr.ev s.fr x=some (.f (.func f) cs)) (hcb:Ac P f) (hev:evs s.fr xs=some svs) {sv:Sv} {hp':List Res} (hc:Ad P w0 ow f (svs++cs.map fun y=>.x (.a y)) s.hp sv hp') (hd:dOk n o.dst) (hb:s.hp.length < hp'.length→s.bnd)
  (h:Ai P w0 ow n ops rest (S.put ⟨s.fr,hp'⟩ o.dst sv) K):Ah P w0 ow n ops o rest s K:=by
 rintro a w ⟨γ,hfit⟩ hw
 unfold wpList
 rw[if_pos hw]
 exact .inl (Apv hfit ho hx hcb hev hc hd hb fun δ a' w' hf=>C4 rest _ _ _ h ⟨_,hf⟩)
def Rl {α:Type} (P:Program) (w0:World) (fv:Value) (enc:α→Array Value) (dec:α→Value):Prop:=
 ∃f caps,fv=.func (.func f) #[] caps∧Ac P f∧∀w x,Keeps No w0 w→Calls P f (enc x++caps) w fun e w'=>e=.returned (dec x)∧Below w.heap.size w w'
theorem Apw {α:Type} {enc:α→Array Value} {dec:α→Value} {fv:Value} {ops:List Oper} {o:Oper} {rest:List Oper} {y:Operand} {xs:List Operand} {tys:Array TypeId} {s:S} {svs:List Sv} {K:S→Prop} (x:α) (sv:Sv) (hP:Rl P w0 fv enc dec)
  (ho:o.op=.call {callee:=.value y,args:=xs.toArray,argTypes:=tys}) (hx:Fr.ev s.fr y=some (.x (.a (.v fv)))) (hev:evs s.fr xs=some svs) (henc:∀γ,(svs.map (Sv.val γ)).toArray=enc x) (hdec:∀γ,sv.val γ=dec x) (how:∀b,¬ow b) (hd:dOk n o.dst)
  (h:Ai P w0 ow n ops rest (S.put ⟨s.fr,s.hp⟩ o.dst sv) K):Ah P w0 ow n ops o rest s K:=by
 obtain⟨f,caps,rfl,hcb,hF⟩:=hP
 rintro a w ⟨γ,hfit⟩ hw
 unfold wpList
 rw[if_pos hw]
 refine .inl ?_
 unfold Oper.wp
 rw[Abd ho (hfit.ev hx) hcb (args:=(svs.map (Sv.val γ)).toArray) (by rw[List.map_toArray,Gk hfit hev]),henc γ]
 simp only[Oper.upon]
 have hk:Keeps No w0 w:=by
  have:=hfit.sat.keeps
  exact⟨this.os,this.tape,this.output,this.size,fun i hi _=>this.block i hi (how i)⟩
 refine (hF w x hk).mono ?_
 rintro e w' ⟨rfl,hb⟩
 refine C4 rest _ _ _ h ⟨γ,hfit.put (hfit.sat.later hb) (fun t sv' ht=>rfl) hd (hdec γ).symm⟩
theorem Sat.ghost {γ:List Nm} {hp:List Res} {w:World} {k i:Nat} {t e:TypeId} {l:List At} {c:Cont} (hS:Sat w0 ow γ hp w) (hr:Ch hp[k]?=some (t,.c l)) (hi:l[i]?=some (.v (.slice none 0 0))) (hc:c.len=0) (_hcb:c.bnd hp.length) (hbr:∀r∈hp,Res.bnd hp.length r):
  Sat w0 ow (γ++[.s (.slice none 0 0)]) ((hp.set k (De hp[k]? t (.c (l.set i (.o hp.length)))))++[.own e c]) w:=by
 have hl:=hS.len
 have hcv:c.vals (γ++[Nm.s (.slice none 0 0)])=[]:=by
  rw[←List.length_eq_zero_iff,Cont.len_vals,hc]
 have h1:Sat w0 ow (γ++[.s (.slice none 0 0)]) (hp++[.own e c]) w:=by
  refine hS.push (X:=fun _=>False) (Keeps.refl _ _) (fun b h=>h.elim) hbr ⟨by rw[D9 hl,A5 hl],?_⟩ ?_
  ·rw[A5 hl,hcv]
   exact Own.nil_ _ _ _
  ·intro b hb
   simp only[Res.has,A5 hl,Value.ownBlock] at hb
   cases hb
 obtain⟨hn,hbk,r0,hr0,hbl,hbl2,hput⟩:=hS.bv hr
 have hkl:=Ax hr0
 have hk2:(hp++[Res.own e c])[k]?=hp[k]?:=List.getElem?_append_left hkl
 have hr2:Ch (hp++[Res.own e c])[k]?=some (t,.c l):=by rw[hk2];exact hr
 obtain⟨hn2,hbk2,r1,hr1,hbl3,hbl4,hput2⟩:=h1.bv hr2
 have hv:(Cont.c (l.set i (.o hp.length))).vals (γ++[Nm.s (.slice none 0 0)])=(Cont.c l).vals (γ++[Nm.s (.slice none 0 0)]):=by
  simp only[Cont.vals,List.map_set]
  have e1:At.val (γ++[Nm.s (.slice none 0 0)]) (.o hp.length)=.slice none 0 0:=A5 hl _
  rw[e1]
  apply List.ext_getElem?
  intro j
  by_cases hj:i=j
  ·subst hj
   rw[List.getElem?_set]
   have hil:=Ax hi
   simp only[if_true,List.length_map]
   rw[if_pos hil,List.getElem?_map,hi]
   rfl
  ·rw[List.getElem?_set_ne hj]
 have:=h1.update (r':=De (hp++[Res.own e c])[k]? t (.c (l.set i (.o hp.length)))) hr1 (b:=nmB _ k) (by rw[hbl3]) (Keeps.refl _ _) (hput2 _ _ (by rw[hv];exact hbk2)) (.inl (hbl4 _))
 rw[hk2,List.set_append_left _ _ hkl] at this
 exact this
theorem Abf {c:Code} {s:S} {K:Exit→S→Prop} (k i:Nat) (t e:TypeId) (l:List At) (ct:Cont) (hr:Ch s.hp[k]?=some (t,.c l)) (hi:l[i]?=some (.v (.slice none 0 0))) (hc:ct.len=0) (hcb:ct.bnd s.hp.length) (hb:s.bnd)
  (h:Aj P w0 ow n c ⟨s.fr,s.hp.set k (De s.hp[k]? t (.c (l.set i (.o s.hp.length))))++[.own e ct]⟩ K):Aj P w0 ow n c s K:=fun a w ⟨γ,hf⟩=>
 h a w ⟨_,hf.sat.ghost hr hi hc hcb hb.2,hf.defers,hf.size,fun u sv hu=>by
  rw[hf.at_ u sv hu]
  exact (Sv.ext (by rw[hf.sat.len];exact hb.1 _ (Fr.get_mem hu))).symm⟩
end
attribute [push_cast] goneAll B6 mvL N5
end
section
def N6 (sv1:Sv) (hp1:List Res) (sv:Sv) (hp:List Res):Prop:=∃ρ,Le ρ ⟨[(0,sv)],hp⟩ ⟨[(0,sv1)],hp1⟩
theorem A6 {sv1 sv:Sv} {hp1 hp:List Res} (ρ:List Nat) (h:Le ρ ⟨[(0,sv)],hp⟩ ⟨[(0,sv1)],hp1⟩):N6 sv1 hp1 sv hp:=⟨ρ,h⟩
section
variable {P:Program} {w0 w:World} {ow:Nat→Prop} {n:Nat} {γ:List Nm} {hp:List Res}
theorem Rm {f:FuncId} {fn:Func} {c:Code} (hf:P.funcs[f]?=some fn) (hb:fn.body=some c) (hn:fn.ntmps=n) (svs:List Sv) (hS:Sat w ow γ hp w) (hl:svs.length≤n) (sv1:Sv) (hp1:List Res)
  (h:Cc P w ow n c ⟨Ht 0 svs,hp⟩ (Fin P w ow fn.results.toList (N6 sv1 hp1))):Calls P f (svs.map (Sv.val γ)).toArray w fun e w'=>∃γ1,e=.returned (sv1.val γ1)∧Sat w ow γ1 hp1 w':=by
 refine Ma hf hb hn svs hS hl (N6 sv1 hp1) (fun γ' sv hp' w' hS' ⟨ρ,h1,h2,h3,h4⟩=>?_) h
 obtain⟨hS2,hρ⟩:=hS'.sel h2 h3 h4.2
 refine⟨reγ ρ γ',?_,hS2⟩
 have e:sv=sv1.ren ρ:=by
  have:=h1.1
  simp only[Fr.get,if_true,Option.some.injEq] at this
  exact this
 have hlen:ρ.length=hp1.length:=(Jl h2).1
 rw[Sv.re hρ (by rw[hlen];exact h4.1 (0,sv1) (List.mem_cons_self ..)),←e]
end
end
section
section
variable {P:Program} {w0:World} {ow:Nat→Prop} {n:Nat}
theorem Apx {s:S} {a:Act} {w:World} (t:Nat) (e:TypeId) (m:Nat) (c:Cont) (hm:0 < m) (ht:Fr.get s.fr t=some (.x (.a (.v (.slice none 0 0))))) (hc:c.len=0) (hb:s.bnd) (hf:Fits w0 ow n s a w):
  Fits w0 ow n ⟨Fr.put s.fr t (.x (.a (.o s.hp.length))),s.hp++[.onn e m c]⟩ a w:=by
 obtain⟨γ,hf⟩:=hf
 have hl:=hf.sat.len
 have hv:c.vals (γ++[Nm.s (.slice none 0 0)])=[]:=List.eq_nil_of_length_eq_zero (by rw[Cont.len_vals,hc])
 have hS:Sat w0 ow (γ++[.s (.slice none 0 0)]) (s.hp++[.onn e m c]) w:=by
  refine hf.sat.push (X:=fun _=>False) (Keeps.refl _ _) (fun b h=>h.elim) hb.2 ⟨by rw[D9 hl,A5 hl],?_⟩ ?_
  ·rw[A5 hl,hv]
   exact⟨hm,0,World.ownsRow_nil w 0 e m⟩
  ·intro b hb
   simp only[Res.has,A5 hl,Value.ownBlock] at hb
   cases hb
 refine⟨_,hS,hf.defers,hf.size,fun u sv hu=>?_⟩
 rw[Fr.get_put] at hu
 split at hu
 ·rename_i htu
  subst htu
  cases hu
  rw[hf.at_ t _ ht]
  simp [Sv.val,Sc.val,At.val,A5 hl]
 ·rw[hf.at_ u sv hu]
  exact (Sv.ext (by rw[hl];exact hb.1 _ (Fr.get_mem hu))).symm
theorem N7 {c:Code} {s:S} {K:Exit→S→Prop} (t:Nat) (e:TypeId) (m:Nat) (k:Cont) (hm:0 < m) (ht:Fr.get s.fr t=some (.x (.a (.v (.slice none 0 0))))) (hc:k.len=0) (hb:s.bnd)
  (h:Aj P w0 ow n c ⟨Fr.put s.fr t (.x (.a (.o s.hp.length))),s.hp++[.onn e m k]⟩ K):Aj P w0 ow n c s K:=
 fun a w hf=>h a w (Apx t e m k hm ht hc hb hf)
end
end
section
structure Fct where
 v:Value
 n:Nat
 vs:List Value
def Fct.ok (f:Fct) (B:Nat→Prop) (w:World):Prop:=
 ∃A c,f.v=.slice A f.n c∧f.n≤c∧c≤maxLen∧(0 < f.vs.length→∃b off,A=some ⟨b,off,none⟩∧B b∧∀j u,f.vs[j]?=some u→w.cell? ⟨b,off+j,none⟩=some u)
theorem Apy {w w':World} {p:Addr} (h:w'.heap[p.block]?=w.heap[p.block]?):w'.cell? p=w.cell? p:=by unfold World.cell?;rw[h]
theorem Fct.ok.keep {f:Fct} {B own:Nat→Prop} {w w':World} (h:f.ok B w) (hb:∀b,B b→b < w.heap.size) (hk:Keeps own w w') (hn:∀b,B b→¬own b):f.ok B w':=by
 obtain⟨A,c,h1,h2,h3,h4⟩:=h
 refine⟨A,c,h1,h2,h3,fun hp=>?_⟩
 obtain⟨b,off,e,hB,h5⟩:=h4 hp
 exact⟨b,off,e,hB,fun j u hu=>(Apy (p:=⟨b,off+j,none⟩) (hk.block b (hb b hB) (hn b hB))).trans (h5 j u hu)⟩
theorem Fct.ok.mono {f:Fct} {B B':Nat→Prop} {w:World} (h:f.ok B w) (hB:∀b,B b→B' b):f.ok B' w:=by
 obtain⟨A,c,h1,h2,h3,h4⟩:=h
 refine⟨A,c,h1,h2,h3,fun hp=>?_⟩
 obtain⟨b,off,e,hb,h5⟩:=h4 hp
 exact⟨b,off,e,hB b hb,h5⟩
def fctRep (l:List Fct):Rep where
 H v B w:=v=.bool true∧∀f∈l,f.ok B w
 one h:=by obtain⟨rfl,_⟩:=h;exact⟨rfl,trivial⟩
 keep h hb hk hn:=⟨h.1,fun f hf=>(h.2 f hf).keep hb hk hn⟩
section
variable (j:Nat) (v:Value)
def At.sub:At→At
 | .o k=>if k=j then .v v else .o k
 |x=>x
def Sc.sub:Sc→Sc
 | .a x=>.a (x.sub j v)
 | .g l=>.g (l.map (At.sub j v))
 |x=>x
def Sv.sub:Sv→Sv
 | .x s=>.x (s.sub j v)
 | .t l=>.t (l.map (Sc.sub j v))
 | .f fn caps=>.f fn (caps.map (At.sub j v))
def Cont.sub:Cont→Cont
 | .c l=>.c (l.map (At.sub j v))
 |x=>x
def Gq (l:List (Int×Sc)):List (Int×Sc):=l.map fun p=>(p.1,p.2.sub j v)
theorem Ap0:Gq j v []=[]:=rfl
theorem Ap1 (p:Int×Sc) (l:List (Int×Sc)):Gq j v (p::l)=(p.1,p.2.sub j v)::Gq j v l:=rfl
def Res.sub:Res→Res
 | .blk t c=>.blk t (c.sub j v)
 | .own t c=>.own t (c.sub j v)
 | .lit t c=>.lit t (c.sub j v)
 | .str t c=>.str t (c.sub j v)
 | .pin g t c=>.pin g t (c.sub j v)
 | .onn t m c=>.onn t m (c.sub j v)
 | .mp q l=>.mp q (Gq j v l)
 |x=>x
def Ex:Fr→Fr
 |[]=>[]
 |(k,x)::r=>(k,x.sub j v)::Ex r
end
section
variable {j:Nat} {v:Value} {γ:List Nm} (h:nmS γ j=v)
include h
theorem At.sub_val (x:At):(x.sub j v).val γ=x.val γ:=by
 cases x<;>simp only[At.sub]
 split
 ·rename_i k hk
  subst hk
  simp only[At.val,h]
 ·rfl
theorem Vo (l:List At):(l.map (At.sub j v)).map (At.val γ)=l.map (At.val γ):=by
 rw[List.map_map]
 exact List.map_congr_left fun x _=>At.sub_val h x
theorem Sc.sub_val (x:Sc):(x.sub j v).val γ=x.val γ:=by
 cases x<;>simp only[Sc.sub,Sc.val]
 ·exact At.sub_val h _
 ·rw[Vo h]
theorem Sv.sub_val (x:Sv):(x.sub j v).val γ=x.val γ:=by
 cases x<;>simp only[Sv.sub,Sv.val]
 ·exact Sc.sub_val h _
 ·rename_i l
  rw[List.map_map]
  congr 2
  exact List.map_congr_left fun x _=>Sc.sub_val h x
 ·rw[Vo h]
theorem Cont.sub_vals (c:Cont):(c.sub j v).vals γ=c.vals γ:=by
 cases c<;>simp only[Cont.sub,Cont.vals]
 exact Vo h _
theorem Ap2 (q:IntKind) (l:List (Int×Sc)):mpE γ q (Gq j v l)=mpE γ q l:=by
 unfold mpE Gq
 rw[List.map_map]
 exact List.map_congr_left fun p _=>by simp only[Function.comp,Sc.sub_val h]
omit h in
theorem Res.sub_has (r:Res) (k:Nat):(r.sub j v).has γ k=r.has γ k:=by cases r<;>rfl
theorem Res.sub_holds {r:Res} {k:Nat} {w:World} (hr:r.holds γ k w):(r.sub j v).holds γ k w:=by
 cases r<;>simp only[Res.sub,Res.holds,Cont.sub_vals h,Ap2 h] at hr ⊢<;>exact hr
theorem Sat.sub {w0 w:World} {ow:Nat→Prop} {hp:List Res} (hS:Sat w0 ow γ hp w):Sat w0 ow γ (hp.map (Res.sub j v)) w:=by
 have get:∀(k:Nat) (r:Res),(hp.map (Res.sub j v))[k]?=some r→∃q,hp[k]?=some q∧r=q.sub j v:=by
  intro k r hr
  rw[List.getElem?_map] at hr
  cases hq:hp[k]? with
  |none=>rw[hq] at hr;cases hr
  |some q=>rw[hq] at hr;exact⟨q,rfl,(Option.some.inj hr).symm⟩
 refine⟨hS.keeps,by rw[List.length_map];exact hS.len,?_,?_,?_⟩
 ·intro k r hr
  obtain⟨q,hq,rfl⟩:=get k r hr
  exact Res.sub_holds h (hS.holds k q hq)
 ·intro k r b hr hb
  obtain⟨q,hq,rfl⟩:=get k r hr
  rw[Res.sub_has] at hb
  exact hS.mine k q b hq hb
 ·intro i k r r' b hr hr' hik hb
  obtain⟨q,hq,rfl⟩:=get i r hr
  obtain⟨q',hq',rfl⟩:=get k r' hr'
  rw[Res.sub_has] at hb ⊢
  exact hS.apart i k q q' b hq hq' hik hb
end
theorem Vp {j:Nat} {v:Value}:∀{fr:Fr} {t:Nat} {sv:Sv},Fr.get (Ex j v fr) t=some sv→∃x,Fr.get fr t=some x∧sv=x.sub j v
 |[],t,sv,h=>by cases h
 |(k,x)::r,t,sv,h=>by
  simp only[Ex,Fr.get] at h ⊢
  split
  ·rename_i hk
   rw[if_pos hk] at h
   exact⟨x,rfl,(Option.some.inj h).symm⟩
  ·rename_i hk
   rw[if_neg hk] at h
   exact Vp h
section
variable {w0 w:World} {ow:Nat→Prop} {γ:List Nm} {hp:List Res} {j k:Nat} {e:TypeId} {c:Cont} {l:List Fct} {vs:List Value}
theorem Rn {γ γ':List Nm} (h1:nmB γ'=nmB γ) (h2:nmS γ'=nmS γ) (x:At):x.val γ'=x.val γ:=by
 cases x<;>simp only[At.val,h1,h2]
theorem Vq {γ γ':List Nm} (h1:nmB γ'=nmB γ) (h2:nmS γ'=nmS γ) (c:Cont):c.vals γ'=c.vals γ:=by
 cases c<;>simp only[Cont.vals]
 exact List.map_congr_left fun x _=>Rn h1 h2 x
theorem Vs {γ γ':List Nm} (h1:nmB γ'=nmB γ) (h2:nmS γ'=nmS γ) (x:Sc):x.val γ'=x.val γ:=by
 cases x<;>simp only[Sc.val]
 ·exact Rn h1 h2 _
 ·congr 2;exact List.map_congr_left fun x _=>Rn h1 h2 x
theorem Mf {γ γ':List Nm} (h1:nmB γ'=nmB γ) (h2:nmS γ'=nmS γ) (x:Sv):x.val γ'=x.val γ:=by
 cases x<;>simp only[Sv.val]
 ·exact Vs h1 h2 _
 ·congr 2;exact List.map_congr_left fun x _=>Vs h1 h2 x
 ·congr 2;exact List.map_congr_left fun x _=>Rn h1 h2 x
theorem Vt {γ γ':List Nm} (h1:nmB γ'=nmB γ) (h2:nmS γ'=nmS γ) (q:IntKind) (l:List (Int×Sc)):mpE γ' q l=mpE γ q l:=by
 unfold mpE
 exact List.map_congr_left fun p _=>by rw[Vs h1 h2]
theorem Sat.absorb (hS:Sat w0 ow γ hp w) {r:Res} (hj:hp[j]?=some r) (hr:∀b,r.has γ j b=((nmS γ j).ownBlock=some b)) (hk:hp[k]?=some (.abs (fctRep l))) (hjk:j≠k) {f:Fct} (hf:f.ok (fun b=>(nmS γ j).ownBlock=some b) w):
  ∃γ',nmB γ'=nmB γ∧nmS γ'=nmS γ∧Sat w0 ow γ' ((hp.set j .gone).set k (.abs (fctRep (l++[f])))) w:=by
 obtain⟨hn,hlt,hv,hall⟩:=hS.holds k _ hk
 have hkl:=Ax hk
 have hgl:k < γ.length:=by rw[hS.len];exact hkl
 let B':Nat→Prop:=fun b=>nmM γ k b∨(nmS γ j).ownBlock=some b
 have g1:∀i,i≠k→(γ.set k (.m (.bool true) B'))[i]?=γ[i]?:=fun i hi=>List.getElem?_set_ne fun e=>hi e.symm
 have g2:(γ.set k (.m (.bool true) B'))[k]?=some (.m (.bool true) B'):=List.getElem?_set_self hgl
 have eB:nmB (γ.set k (.m (.bool true) B'))=nmB γ:=by
  funext i
  by_cases hi:i=k
  ·subst hi;unfold nmB;rw[g2,hn]
  ·unfold nmB;rw[g1 i hi]
 have eS:nmS (γ.set k (.m (.bool true) B'))=nmS γ:=by
  funext i
  by_cases hi:i=k
  ·subst hi;rw[hv];unfold nmS;rw[g2]
  ·unfold nmS;rw[g1 i hi]
 have eM:∀i,i≠k→nmM (γ.set k (.m (.bool true) B')) i=nmM γ i:=fun i hi=>by unfold nmM;rw[g1 i hi]
 have eMk:nmM (γ.set k (.m (.bool true) B')) k=B':=by unfold nmM;rw[g2]
 have hhas:∀(q:Res) (i:Nat),i≠k→q.has (γ.set k (.m (.bool true) B')) i=q.has γ i:=fun q i hi=>by
  cases q<;>simp only[Res.has,eB,eS,eM i hi]
 have hholds:∀(q:Res) (i:Nat),i≠k→q.holds γ i w→q.holds (γ.set k (.m (.bool true) B')) i w:=fun q i hi hq=>by
  cases q<;>simp only[Res.holds,eB,eS,eM i hi,g1 i hi,Vq eB eS,Vt eB eS] at hq ⊢<;>exact hq
 have get:∀(i:Nat) (q:Res),((hp.set j .gone).set k (.abs (fctRep (l++[f]))))[i]?=some q→(i=k∧q=.abs (fctRep (l++[f])))∨(i≠k∧i=j∧q=.gone)∨(i≠k∧i≠j∧hp[i]?=some q):=by
  intro i q hq
  by_cases hi:i=k
  ·subst hi
   rw[List.getElem?_set_self (by rw[List.length_set];exact hkl)] at hq
   exact .inl ⟨rfl,(Option.some.inj hq).symm⟩
  ·rw[List.getElem?_set_ne (fun e=>hi e.symm)] at hq
   by_cases hi2:i=j
   ·subst hi2
    rw[List.getElem?_set_self (Ax hj)] at hq
    exact .inr (.inl ⟨hi,rfl,(Option.some.inj hq).symm⟩)
   ·rw[List.getElem?_set_ne (fun e=>hi2 e.symm)] at hq
    exact .inr (.inr ⟨hi,hi2,hq⟩)
 have hB:∀b,B' b→∃(i:Nat) (q:Res),hp[i]?=some q∧q.has γ i b∧(i=k∨i=j):=by
  rintro b (hb|hb)
  ·exact⟨k,_,hk,hb,.inl rfl⟩
  ·exact⟨j,r,hj,by rw[hr];exact hb,.inr rfl⟩
 refine⟨γ.set k (.m (.bool true) B'),eB,eS,hS.keeps,by simp [hS.len],?_,?_,?_⟩
 ·intro i q hq
  rcases get i q hq with ⟨rfl,rfl⟩|⟨_,_,rfl⟩|⟨h1,h2,h3⟩
  ·refine⟨by rw[g2,eS,hv,eMk],?_,by rw[eS];exact hv,?_⟩
   ·intro b hb
    rw[eMk] at hb
    obtain⟨i,q,h1,h2,_⟩:=hB b hb
    exact (hS.mine i q b h1 h2).2
   ·rw[eMk]
    intro g hg
    rcases List.mem_append.1 hg with hg|hg
    ·exact (hall g hg).mono fun b hb=>.inl hb
    ·rw[List.mem_singleton.1 hg]
     exact hf.mono fun b hb=>.inr hb
  ·trivial
  ·exact hholds q i h1 (hS.holds i q h3)
 ·intro i q b hq hb
  rcases get i q hq with ⟨rfl,rfl⟩|⟨_,_,rfl⟩|⟨h1,h2,h3⟩
  ·have hb:B' b:=by rw[←eMk];exact hb
   obtain⟨i,q,h1,h2,_⟩:=hB b hb
   exact hS.mine i q b h1 h2
  ·exact hb.elim
  ·rw[hhas q i h1] at hb
   exact hS.mine i q b h3 hb
 ·intro i i' q q' b hq hq' hne hb hb'
  rcases get i q hq with ⟨e1,rfl⟩|⟨_,_,rfl⟩|⟨h1,h2,h3⟩
  ·rcases get i' q' hq' with ⟨e2,rfl⟩|⟨_,_,rfl⟩|⟨h4,h5,h6⟩
   ·exact hne (e1.trans e2.symm)
   ·exact hb'
   ·have hb:B' b:=by subst e1;rw[←eMk];exact hb
    rw[hhas q' i' h4] at hb'
    obtain⟨m,q2,h7,h8,h9⟩:=hB b hb
    refine hS.apart m i' q2 q' b h7 h6 ?_ h8 hb'
    rcases h9 with rfl|rfl
    ·exact fun e=>h4 e.symm
    ·exact fun e=>h5 e.symm
  ·exact hb
  ·rw[hhas q i h1] at hb
   rcases get i' q' hq' with ⟨e2,rfl⟩|⟨_,_,rfl⟩|⟨h4,h5,h6⟩
   ·have hb':B' b:=by subst e2;rw[←eMk];exact hb'
    obtain⟨m,q2,h7,h8,h9⟩:=hB b hb'
    refine hS.apart i m q q2 b h3 h7 ?_ hb h8
    rcases h9 with rfl|rfl
    ·exact h1
    ·exact h2
   ·exact hb'
   ·rw[hhas q' i' h4] at hb'
    exact hS.apart i i' q q' b h3 h6 hne hb hb'
theorem N8 (hS:Sat w0 ow γ hp w) (hj:hp[j]?=some (.own e c)) (hv:∀γ,c.vals γ=vs):∃A cap,nmS γ j=.slice A vs.length cap∧vs.length≤cap∧cap≤maxLen∧Fct.ok ⟨.slice A vs.length cap,vs.length,vs⟩ (fun b=>(nmS γ j).ownBlock=some b) w:=by
 have h:=(hS.own hj).2
 rw[hv γ] at h
 obtain⟨A,cap,h1,h2,h3,h4,h5⟩:=h.rd
 refine⟨A,cap,h1,h2,h3,A,cap,rfl,h2,h3,fun hp=>?_⟩
 obtain⟨b,off,rfl,_,h6⟩:=h4 hp
 obtain⟨_,_,_,h7⟩:=h5 _ rfl
 exact⟨b,off,rfl,h7,h6⟩
end
section
variable {P:Program} {w0:World} {ow:Nat→Prop} {n:Nat} {s:S} {j k:Nat} {e:TypeId} {c:Cont} {l:List Fct} {vs:List Value}
def Dn (j k:Nat) (v:Value) (l:List Fct) (s:S):S:=⟨Ex j v s.fr,((s.hp.map (Res.sub j v)).set j .gone).set k (.abs (fctRep l))⟩
theorem Vu {a:Act} {w:World} (hj:s.hp[j]?=some (.own e c)) (hv:∀γ,c.vals γ=vs) (hk:s.hp[k]?=some (.abs (fctRep l))) (hjk:j≠k) (hf:Fits w0 ow n s a w):
  ∃A cap,vs.length≤cap∧cap≤maxLen∧Fits w0 ow n (Dn j k (.slice A vs.length cap) (l++[⟨.slice A vs.length cap,vs.length,vs⟩]) s) a w:=by
 obtain⟨γ,hf⟩:=hf
 obtain⟨A,cap,h1,h2,h3,h4⟩:=N8 hf.sat hj hv
 have hT:=hf.sat.sub h1
 obtain⟨γ',eB,eS,hS'⟩:=hT.absorb (j:=j) (r:=.own e (c.sub j _)) (by rw[List.getElem?_map,hj];rfl) (fun b=>rfl) (by rw[List.getElem?_map,hk];rfl) hjk h4
 refine⟨A,cap,h2,h3,γ',hS',hf.defers,hf.size,fun t sv ht=>?_⟩
 obtain⟨x,hx,rfl⟩:=Vp ht
 rw[Mf eB eS,Sv.sub_val h1]
 exact hf.at_ t x hx
theorem Abg {b:Code} {K:Exit→S→Prop} (j k:Nat) (hj:s.hp[j]?=some (.own e c)) (hv:∀γ,c.vals γ=vs) (hk:s.hp[k]?=some (.abs (fctRep l))) (hjk:j≠k)
  (h:∀A cap,vs.length≤cap→cap≤maxLen→Aj P w0 ow n b (Dn j k (.slice A vs.length cap) (l++[⟨.slice A vs.length cap,vs.length,vs⟩]) s) K):Aj P w0 ow n b s K:=fun a w hf=>by
 obtain⟨A,cap,h1,h2,h3⟩:=Vu hj hv hk hjk hf
 exact h A cap h1 h2 a w h3
theorem Ap3 {ι:Type} {I:ι→S} {Inv:ι→Prop} {μ:ι→Nat} {i:ι} {K:Exit→S→Prop} (j k:Nat) (hj:s.hp[j]?=some (.own e c)) (hv:∀γ,c.vals γ=vs) (hk:s.hp[k]?=some (.abs (fctRep l))) (hjk:j≠k)
  (h:∀A cap,vs.length≤cap→cap≤maxLen→Hq w0 ow n I Inv μ i K .normal (Dn j k (.slice A vs.length cap) (l++[⟨.slice A vs.length cap,vs.length,vs⟩]) s)):Hq w0 ow n I Inv μ i K .normal s:=fun a w hf=>by
 obtain⟨A,cap,h1,h2,h3⟩:=Vu hj hv hk hjk hf
 exact h A cap h1 h2 a w h3
theorem Abh {a:Act} {w:World} (hb:s.bnd) (hf:Fits w0 ow n s a w):Fits w0 ow n ⟨s.fr,s.hp++[.abs (fctRep [])]⟩ a w:=by
 obtain⟨γ,hf⟩:=hf
 have hl:=hf.sat.len
 have e1:(γ++[Nm.m (.bool true) (fun _=>False)])[s.hp.length]?=some (.m (.bool true) (fun _=>False)):=by rw[←hl];simp
 have e2:nmS (γ++[Nm.m (.bool true) (fun _=>False)]) s.hp.length=.bool true:=by unfold nmS;rw[e1]
 have e3:nmM (γ++[Nm.m (.bool true) (fun _=>False)]) s.hp.length=fun _=>False:=by unfold nmM;rw[e1]
 have hS:Sat w0 ow (γ++[.m (.bool true) (fun _=>False)]) (s.hp++[.abs (fctRep [])]) w:=by
  refine hf.sat.push (X:=fun _=>False) (Keeps.refl _ _) (fun b h=>h.elim) hb.2 ⟨by rw[e1,e2,e3],fun b h=>by rw[e3] at h;exact h.elim,by rw[e2];exact⟨rfl,fun f h=>by cases h⟩⟩ ?_
  intro b hb
  simp only[Res.has,e3] at hb
 refine⟨_,hS,hf.defers,hf.size,fun u sv hu=>?_⟩
 rw[hf.at_ u sv hu]
 exact (Sv.ext (by rw[hl];exact hb.1 _ (Fr.get_mem hu))).symm
theorem Ap4 {b:Code} {K:Exit→S→Prop} (hb:s.bnd) (h:Aj P w0 ow n b ⟨s.fr,s.hp++[.abs (fctRep [])]⟩ K):Aj P w0 ow n b s K:=fun a w hf=>h a w (Abh hb hf)
theorem Ro {ops rest:List Oper} {o:Oper} {K:S→Prop} (hb:s.bnd) (h:Ah P w0 ow n ops o rest ⟨s.fr,s.hp++[.abs (fctRep [])]⟩ K):Ah P w0 ow n ops o rest s K:=fun a w hf=>h a w (Abh hb hf)
theorem Abi {hp:List Res} {γ:List Nm} {w:World} (hS:Sat w0 ow γ hp w) (hk:hp[k]?=some (.abs (fctRep l))) {f:Fct} (hf:f∈l):∃A c,f.v=.slice A f.n c∧f.n≤c∧c≤maxLen∧RdV w w.heap.size A f.vs:=by
 obtain⟨_,hlt,_,hall⟩:=hS.holds k _ hk
 obtain⟨A,c,h1,h2,h3,h4⟩:=hall f hf
 refine⟨A,c,h1,h2,h3,fun hp=>?_⟩
 obtain⟨b,off,e,hB,h5⟩:=h4 hp
 exact⟨b,off,e,hlt b hB,h5⟩
end
structure FM {α:Type} [Inhabited α] (f:α→Value) (w0:World) (ow:Nat→Prop) (A:Option Addr) (l:List α):Prop where
 some_:0 < l.length→A.isSome=true
 cell:∀i,i < l.length→A7 w0 (Af A i)=f (ix l i)
 ok:∀i,i < l.length→Cu w0 ow (Af A i)
theorem FM.of {α:Type} [Inhabited α] {f:α→Value} {w0:World} {A:Option Addr} {l:List α} (h:RdV w0 w0.heap.size A (l.map f)):FM f w0 No A l:=
 ⟨fun hp=>(FV.no h).some_ (by simpa using hp),fun i hi=>((FV.no h).cell (D8 f l i hi)).1,fun i hi=>((FV.no h).cell (D8 f l i hi)).2⟩
structure Rw where
 A:Option Addr
 c:Nat
 l:List UInt32
deriving Inhabited
def Rw.val (r:Rw):Value:=.slice r.A r.l.length r.c
def Rw.fct (r:Rw):Fct:=⟨.slice r.A r.l.length r.c,r.l.length,r.l.map Ap⟩
theorem Vv (j:Nat) (v:Value) {α:Type} (f:α→Value) (l:List α):(l.map fun x=>At.v (f x)).map (At.sub j v)=l.map fun x=>At.v (f x):=by rw[List.map_map];rfl
theorem Ap5 (ρ:List Nat) {α:Type} (f:α→Value) (l:List α):(l.map fun x=>At.v (f x)).map (At.ren ρ)=l.map fun x=>At.v (f x):=by rw[List.map_map];rfl
theorem Ap6 {Q:At→Prop} {α:Type} (f:α→Value) (l:List α):(∀x∈l.map fun x=>At.v (f x),Q x)=∀x∈l,Q (.v (f x)):=propext List.forall_mem_map
attribute [push_cast] Vv Ap5 Ap6
attribute [push_cast] Ap0 Ap1
attribute [push_cast] Dn Ex At.sub Sc.sub Sv.sub Cont.sub Res.sub
theorem Cq (A:Option Addr):Af A 0=A:=by
 cases A with
 |none=>rfl
 |some a=>simp [Af,Addr.add]
theorem Ce (A:Option Addr) (i j:Nat):Af (Af A i) j=Af A (i+j):=by
 cases A with
 |none=>rfl
 |some a=>
  simp only[Af,Option.map_some,Option.some.injEq,Addr.add]
  by_cases hi:i=0<;>by_cases hj:j=0<;>simp [hi,hj,Nat.add_assoc]
theorem Bp (A:Option Addr) (i:Nat):(Af A i).isSome=A.isSome:=by cases A<;>rfl
end
end Go.Proofs.YtedaafmfjhjfmaaGreatDoor
