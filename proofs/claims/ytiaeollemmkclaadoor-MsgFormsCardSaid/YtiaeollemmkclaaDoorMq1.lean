import Derived.Test.YtiaeollemmkclaaDoorMq0
/- The plain law of layer 16's document: what may be, field by field. No program in sight. -/
namespace Go.Proofs.YtiaeollemmkclaaDoor
set_option linter.unusedVariables false
def B7 (k c:UInt8):Bool:=decide (c∈Aj k)
def wiQ (k c:UInt8) (n most:Int):Bool:=if n=0 then true else if B7 k c=true then (if 0 < n then decide (n≤most) else false) else false
def Fm (m:MgS):Bool:=decide (m.k < 1∨m.k > 19)||!wiQ m.k 97 m.pl 15||!wiQ m.k 111 m.ot 15||!wiQ m.k 99 m.cl 63||!wiQ m.k 103 m.ge 1073741824||!wiQ m.k 114 m.re 255
def noQ (m:MgS):Bool:=(!B7 m.k 110&&decide (m.nu≠0))||decide (fpP≤m.nu)||(!B7 m.k 115&&decide (m.sm≠List.replicate 32 0))||(!B7 m.k 105&&decide (0 < m.ids.length))||(!B7 m.k 118&&decide (0 < m.ns.length))||(!B7 m.k 112&&decide (0 < m.ps.length))||(!B7 m.k 120&&decide (0 < m.xs.length))
def G3 (m:MgS):Bool:=!Fm m&&!noQ m&&!(m.ns.any fun v=>decide (fpP≤v))&&decide (m.ns.length≤128)&&B6 (-1) m.ids&&may m.ps&&decide (m.xs.length≤32)
theorem A81 (r:MgS) (c:UInt8):(Cb r c).k=r.k:=by unfold Cb;simp only[apply_ite MgS.k,ite_self]
theorem A82 (r:MgS) (c:UInt8):(Cb r c).pl=if c=97 then 0 else r.pl:=by
 unfold Cb
 by_cases h:c=97
 ·subst h;rfl
 ·simp only[if_neg h]
  repeat (first|rfl|split)
theorem A83 (r:MgS) (c:UInt8):(Cb r c).ot=if c=111 then 0 else r.ot:=by
 unfold Cb
 by_cases h:c=111
 ·subst h;rfl
 ·simp only[if_neg h]
  repeat (first|rfl|split)
theorem A84 (r:MgS) (c:UInt8):(Cb r c).cl=if c=99 then 0 else r.cl:=by
 unfold Cb
 by_cases h:c=99
 ·subst h;rfl
 ·simp only[if_neg h]
  repeat (first|rfl|split)
theorem A85 (r:MgS) (c:UInt8):(Cb r c).ge=if c=103 then 0 else r.ge:=by
 unfold Cb
 by_cases h:c=103
 ·subst h;rfl
 ·simp only[if_neg h]
  repeat (first|rfl|split)
theorem A86 (r:MgS) (c:UInt8):(Cb r c).nu=if c=110 then 0 else r.nu:=by
 unfold Cb
 by_cases h:c=110
 ·subst h;rfl
 ·simp only[if_neg h]
  repeat (first|rfl|split)
theorem A87 (r:MgS) (c:UInt8):(Cb r c).sm=if c=115 then List.replicate 32 0 else r.sm:=by
 unfold Cb
 by_cases h:c=115
 ·subst h;rfl
 ·simp only[if_neg h]
  repeat (first|rfl|split)
theorem A88 (r:MgS) (c:UInt8):(Cb r c).ids=if c=105 then [] else r.ids:=by
 unfold Cb
 by_cases h:c=105
 ·subst h;rfl
 ·simp only[if_neg h]
  repeat (first|rfl|split)
theorem A89 (r:MgS) (c:UInt8):(Cb r c).ns=if c=118 then [] else r.ns:=by
 unfold Cb
 by_cases h:c=118
 ·subst h;rfl
 ·simp only[if_neg h]
  repeat (first|rfl|split)
theorem A9a (r:MgS) (c:UInt8):(Cb r c).ps=if c=112 then [] else r.ps:=by
 unfold Cb
 by_cases h:c=112
 ·subst h;rfl
 ·simp only[if_neg h]
  repeat (first|rfl|split)
theorem A9b (r:MgS) (c:UInt8):(Cb r c).xs=if c=120 then [] else r.xs:=by
 unfold Cb
 by_cases h:c=120
 ·subst h;rfl
 ·simp only[if_neg h]
  repeat (first|rfl|split)
theorem A9c (r:MgS) (c:UInt8):(Cb r c).re=if c=114 then 0 else r.re:=by
 unfold Cb
 by_cases h:c=114
 ·subst h;rfl
 ·simp only[if_neg h]
  repeat (first|rfl|split)
theorem Hj {α:Type} (g:MgS→α) (z:α) (x:UInt8) (h:∀r c,g (Cb r c)=if c=x then z else g r):∀(f:List UInt8) (r:MgS),g (f.foldl Cb r)=if x∈f then z else g r
 |[],r=>by simp
 |c::f,r=>by
  rw[List.foldl_cons,Hj g z x h f,h]
  by_cases h1:x∈f
  ·rw[if_pos h1,if_pos (List.mem_cons_of_mem _ h1)]
  ·rw[if_neg h1]
   by_cases h2:c=x
   ·rw[if_pos h2,if_pos (by rw[h2];exact List.mem_cons_self ..)]
   ·rw[if_neg h2,if_neg fun e=>(List.mem_cons.1 e).elim (fun e=>h2 e.symm) h1]
theorem A9d (f:List UInt8) (r:MgS):(f.foldl Cb r).k=r.k:=by
 induction f generalizing r with
 |nil=>rfl
 |cons c f ih=>rw[List.foldl_cons,ih,A81]
theorem A9e {α:Type} {p:Prop} [Decidable p] {a z:α}:(if p then z else a)=z↔(¬p→a=z):=by
 by_cases h:p
 ·simp [h]
 ·simp [h]
theorem A9f (f:List UInt8) (m:MgS):f.foldl Cb {m with k:=0}=Bt↔(97∉f→m.pl=0)∧(111∉f→m.ot=0)∧(99∉f→m.cl=0)∧(103∉f→m.ge=0)∧(110∉f→m.nu=0)∧(115∉f→m.sm=List.replicate 32 0)∧(105∉f→m.ids=[])∧(118∉f→m.ns=[])∧(112∉f→m.ps=[])∧(120∉f→m.xs=[])∧(114∉f→m.re=0):=by
 have e:∀x:MgS,x=Bt↔x.k=0∧x.pl=0∧x.ot=0∧x.cl=0∧x.ge=0∧x.nu=0∧x.sm=List.replicate 32 0∧x.ids=[]∧x.ns=[]∧x.ps=[]∧x.xs=[]∧x.re=0:=fun x=>by
  cases x
  unfold Bt
  rw[MgS.mk.injEq]
 rw[e,A9d,Hj MgS.pl 0 97 A82,Hj MgS.ot 0 111 A83,Hj MgS.cl 0 99 A84,Hj MgS.ge 0 103 A85,Hj MgS.nu 0 110 A86,Hj MgS.sm _ 115 A87,Hj MgS.ids [] 105 A88,Hj MgS.ns [] 118 A89,Hj MgS.ps [] 112 A9a,Hj MgS.xs [] 120 A9b,Hj MgS.re 0 114 A9c]
 simp only[A9e]
 exact⟨fun h=>h.2,fun h=>⟨trivial,h⟩⟩
theorem Th {k c:UInt8} {n most:Int} (h0:0≤most):wiQ k c n most=true↔(c∈Aj k→wiM n most=true)∧(c∉Aj k→n=0):=by
 unfold wiQ B7 wiM
 simp only[decide_eq_true_eq]
 by_cases h:n=0
 ·simp [h,h0]
 ·rw[if_neg h]
  by_cases h1:c∈Aj k
  ·simp only[h1,if_true,not_true,false_implies,and_true,true_implies]
   by_cases h2:0 < n
   ·rw[if_pos h2,decide_eq_true_eq];omega
   ·rw[if_neg h2]
    constructor
    ·intro h;cases h
    ·intro h;omega
  ·simp [h1,h]
theorem A9g (v:UInt64):fpP≤v↔pm1 < v:=by
 rw[UInt64.le_iff_toNat_le,UInt64.lt_iff_toNat_lt,show fpP.toNat=2305843009213693951 from rfl,show pm1.toNat=2305843009213693950 from rfl]
 omega
theorem Xi (k:UInt8):Aj k=[]↔(k < 1∨k > 19):=by
 by_cases h:k < 1∨k > 19
 ·refine⟨fun _=>h,fun _=>?_⟩
  rcases h with h|h
  ·rw[show k=0 from UInt8.toNat_inj.1 (by have:=UInt8.lt_iff_toNat_lt.1 h;have h1:(1:UInt8).toNat=1:=rfl;have h0:(0:UInt8).toNat=0:=rfl;omega)]
   rfl
  ·by_cases h1:Aj k=[]
   ·exact h1
   ·have h2:=UInt8.lt_iff_toNat_lt.1 (Xg h1)
    have h3:=UInt8.lt_iff_toNat_lt.1 h
    have h4:(19:UInt8).toNat=19:=rfl
    have h5:(20:UInt8).toNat=20:=rfl
    omega
 ·refine⟨fun e=>?_,fun e=>absurd e h⟩
  exfalso
  rw[not_or] at h
  obtain⟨h1,h2⟩:=h
  have a:=mt UInt8.lt_iff_toNat_lt.2 h1
  have b:=mt UInt8.lt_iff_toNat_lt.2 h2
  have h4:(19:UInt8).toNat=19:=rfl
  have h5:(1:UInt8).toNat=1:=rfl
  have hk:k=UInt8.ofNat k.toNat:=(UInt8.ofNat_toNat).symm
  have hn:∀n:Nat,n < 20→1≤n→Aj (UInt8.ofNat n)≠[]:=by decide
  exact hn k.toNat (by omega) (by omega) (hk▸e)
theorem Ad2 (m:MgS):G3 m=Cc m:=by
 rw[Bool.eq_iff_iff]
 unfold Cc
 by_cases hf:Aj m.k=[]
 ·rw[if_pos hf]
  have:Fm m=true:=by
   unfold Fm
   simp only[(Xi m.k).1 hf,decide_true,Bool.true_or]
  unfold G3
  simp [this]
 rw[if_neg hf,V6,A9f]
 have hk:¬(m.k < 1∨m.k > 19):=fun e=>hf ((Xi m.k).2 e)
 unfold G3 Fm noQ
 simp only[hk,decide_false,Bool.false_or,Bool.and_eq_true,Bool.not_eq_true',Bool.or_eq_false_iff,Bool.not_eq_false',Bool.and_eq_false_iff,decide_eq_true_eq,decide_eq_false_iff_not,Th (show (0:Int)≤15 by decide),Th (show (0:Int)≤63 by decide),Th (show (0:Int)≤1073741824 by decide),Th (show (0:Int)≤255 by decide),B7,A9g]
 have le_not:m.nu≤pm1↔¬pm1 < m.nu:=(UInt64.not_lt).symm
 have g:=Nr m.k
 constructor
 ·rintro⟨⟨⟨⟨⟨⟨⟨⟨⟨⟨a1,a2⟩,a3⟩,a4⟩,a5⟩,⟨⟨⟨⟨⟨⟨b1,b2⟩,b3⟩,b4⟩,b5⟩,b6⟩,b7⟩⟩,c1⟩,c2⟩,c3⟩,c4⟩,c5⟩
  refine⟨fun c hc=>?_,a1.2,a2.2,a3.2,a4.2,?_,?_,?_,?_,?_,?_,a5.2⟩
  ·rcases g.2 c hc with rfl|rfl|rfl|rfl|rfl|rfl|rfl|rfl|rfl|rfl|rfl
   ·exact a1.1 hc
   ·exact a2.1 hc
   ·exact a3.1 hc
   ·exact a4.1 hc
   ·exact decide_eq_true (le_not.2 b2)
   ·rfl
   ·exact c3
   ·show (decide _&&!_)=true
    rw[c1,Bool.not_false,Bool.and_true]
    exact decide_eq_true c2
   ·exact c4
   ·exact decide_eq_true c5
   ·exact a5.1 hc
  ·intro hn
   rcases b1 with b|b
   ·exact absurd b hn
   ·exact Decidable.not_not.1 b
  ·intro hn
   rcases b3 with b|b
   ·exact absurd b hn
   ·exact Decidable.not_not.1 b
  ·intro hn
   rcases b4 with b|b
   ·exact absurd b hn
   ·exact List.length_eq_zero_iff.1 (by omega)
  ·intro hn
   rcases b5 with b|b
   ·exact absurd b hn
   ·exact List.length_eq_zero_iff.1 (by omega)
  ·intro hn
   rcases b6 with b|b
   ·exact absurd b hn
   ·exact List.length_eq_zero_iff.1 (by omega)
  ·intro hn
   rcases b7 with b|b
   ·exact absurd b hn
   ·exact List.length_eq_zero_iff.1 (by omega)
 ·rintro⟨hm,a1,a2,a3,a4,b1,b3,b4,b5,b6,b7,a5⟩
  have em:∀(c:UInt8) {p:Prop},(c∉Aj m.k→p)→c∈Aj m.k∨p:=fun c p h=>by
   by_cases hc:c∈Aj m.k
   ·exact .inl hc
   ·exact .inr (h hc)
  have len0:∀{α:Type} {l:List α},l=[]→¬0 < l.length:=fun h=>by rw[h];exact Nat.lt_irrefl 0
  have v:(m.ns.any fun v=>decide (pm1 < v))=false∧m.ns.length≤128:=by
   by_cases hc:118∈Aj m.k
   ·have:=hm 118 hc
    have:(decide (m.ns.length≤128)&&!(m.ns.any fun v=>decide (pm1 < v)))=true:=this
    rw[Bool.and_eq_true,Bool.not_eq_true'] at this
    exact⟨this.2,of_decide_eq_true this.1⟩
   ·rw[b5 hc]
    exact⟨rfl,by decide⟩
  have i:B6 (-1) m.ids=true:=by
   by_cases hc:105∈Aj m.k
   ·exact hm 105 hc
   ·rw[b4 hc];rfl
  have p:may m.ps=true:=by
   by_cases hc:112∈Aj m.k
   ·exact hm 112 hc
   ·rw[b6 hc];rfl
  have x:m.xs.length≤32:=by
   by_cases hc:120∈Aj m.k
   ·exact of_decide_eq_true (hm 120 hc)
   ·rw[b7 hc];decide
  have n:¬pm1 < m.nu:=by
   by_cases hc:110∈Aj m.k
   ·exact le_not.1 (of_decide_eq_true (hm 110 hc))
   ·rw[b1 hc];decide
  exact⟨⟨⟨⟨⟨⟨⟨⟨⟨⟨⟨fun hc=>hm 97 hc,a1⟩,fun hc=>hm 111 hc,a2⟩,fun hc=>hm 99 hc,a3⟩,fun hc=>hm 103 hc,a4⟩,fun hc=>hm 114 hc,a5⟩,⟨⟨⟨⟨⟨⟨(em 110 b1).imp id not_not_intro,n⟩,(em 115 b3).imp id not_not_intro⟩,(em 105 b4).imp id len0⟩,(em 118 b5).imp id len0⟩,(em 112 b6).imp id len0⟩,(em 120 b7).imp id len0⟩⟩,v.1⟩,v.2⟩,i⟩,p⟩,x⟩
end Go.Proofs.YtiaeollemmkclaaDoor
