import Derived.Test.YtiaeollemmkclaaDoorMq5
/- Layer 13's document: Take, whose slices are told as facts; a message whose slices are. -/
namespace Go.Proofs.YtiaeollemmkclaaDoor
open Go.RowKit
set_option linter.unusedSimpArgs false
set_option linter.unusedVariables false
theorem Aen {many:Nat} (e:Nat) (st:Rs) (hm:many≤300):(Bv many e st).1≤many:=by
 unfold Bv
 by_cases h1:(Ay (Ai many) st).2.1=true
 ·rw[if_pos h1]
  by_cases h2:(Ay (Ai many) st).1.toNat≤(Ay (Ai many) st).2.2.1.length / e
  ·rw[if_pos h2]
   have:(Ay (Ai many) st).1≤Ai many:=by
    unfold Ay
    cases B9 st.1 with
    |none=>exact UInt64.le_iff_toNat_le.2 (Nat.zero_le _)
    |some r=>
     obtain⟨v,n⟩:=r
     simp only
     by_cases hv:v≤Ai many
     ·rw[if_pos hv];exact hv
     ·rw[if_neg hv];exact UInt64.le_iff_toNat_le.2 (Nat.zero_le _)
   have:=UInt64.le_iff_toNat_le.1 this
   rw[Adt hm] at this
   exact this
  ·rw[if_neg h2];exact Nat.zero_le _
 ·rw[if_neg h1];exact Nat.zero_le _
theorem Aeo (most:UInt64) (st:Rs):(Ay most st).1≤most:=by
 unfold Ay
 cases B9 st.1 with
 |none=>exact UInt64.le_iff_toNat_le.2 (Nat.zero_le _)
 |some r=>
  obtain⟨v,n⟩:=r
  simp only
  by_cases hv:v≤most
  ·rw[if_pos hv];exact hv
  ·rw[if_neg hv];exact UInt64.le_iff_toNat_le.2 (Nat.zero_le _)
theorem Aep (most:UInt64):∀(n:Nat) (acc:List UInt64) (st:Rs),(∀v∈acc,v≤most)→(De most n acc st).1.length≤acc.length+n∧∀v∈(De most n acc st).1,v≤most
 |0,acc,st,h=>⟨Nat.le_refl _,h⟩
 |n+1,acc,st,h=>by
  rw[De]
  by_cases h1:(Ay most st).2.1=true
  ·rw[if_pos h1]
   obtain⟨a,b⟩:=Aep most n (acc++[(Ay most st).1]) (Ay most st).2.2 fun v hv=>by
    rcases List.mem_append.1 hv with hv|hv
    ·exact h v hv
    ·rw[List.mem_singleton.1 hv];exact Aeo most st
   rw[List.length_append,List.length_singleton] at a
   exact⟨by omega,b⟩
  ·rw[if_neg h1]
   exact⟨Nat.zero_le _,fun v hv=>by cases hv⟩
theorem Tr {many:Nat} (most:UInt64) (st:Rs) (hm:many≤300):(A5 many most st).1.length≤many∧∀v∈(A5 many most st).1,v≤most:=by
 unfold A5
 by_cases h1:(Bv many 1 st).2.1=true
 ·rw[if_pos h1]
  have:=Aen (many:=many) 1 st hm
  obtain⟨a,b⟩:=Aep most (Bv many 1 st).1 [] (Bv many 1 st).2.2 fun v hv=>by cases hv
  exact⟨by rw[List.length_nil] at a;omega,b⟩
 ·rw[if_neg h1]
  exact⟨Nat.zero_le _,fun v hv=>by cases hv⟩
theorem Aeq:∀l:List UInt8,4*(fours l).length≤l.length
 |a::b::c::d::r=>by
  have:=Aeq r
  show 4*((fours r).length+1)≤r.length+4
  omega
 |[]=>Nat.zero_le _
 |[_]=>Nat.zero_le _
 |[_,_]=>Nat.zero_le _
 |[_,_,_]=>Nat.zero_le _
theorem Bbq {many:Nat} (st:Rs) (hm:many≤300):(Dc many st).1.length≤many:=by
 unfold Dc
 by_cases h1:(Bv many 4 st).2.1=true
 ·rw[if_pos h1]
  have:=Aen (many:=many) 4 st hm
  have:=Aeq ((Bv many 4 st).2.2.1.take (4*(Bv many 4 st).1))
  rw[List.length_take] at this
  show (fours _).length≤_
  omega
 ·rw[if_neg h1];exact Nat.zero_le _
section
variable {b:List UInt8} {p:Plc} {f:FdR}
theorem Ts (k1:f.k=1) (hok:pOk b p):(Bj f.fd (pS b p)).1=⟨f.k,0,tkN b f p,[],List.replicate 32 0,[],0,0⟩∧(¬(Az b f.fd p).isSome→tkN b f p=[]):=by
 have ok:=H6 b (Ai f.many) hok
 have hQ:=Xq b p k1
 have hv:(A5 f.many f.most (pS b p)).1=tkN b f p:=by
  unfold A5 tkN
  rw[Py]
  cases hm2:(numP b (Ai f.many) p).2 with
  |none=>rfl
  |some m=>
   rw[hm2] at ok
   simp only[Nat.div_one]
   by_cases hv:(numP b (Ai f.many) p).1.toNat≤b.length - m
   ·simp only[if_pos hv,if_true]
    exact congrArg Prod.fst (Xn b f.most _ [] (some m))
   ·simp only[if_neg hv]
    rw[Xo b f.most _ [] m ok (by omega)]
    rfl
 refine⟨?_,fun hs=>?_⟩
 ·unfold Bj
  simp only[show f.fd.k=f.k from rfl,show f.fd.most=f.most from rfl,show f.fd.many=f.many from rfl,if_neg (show ¬f.k=0 by rw[k1];decide),if_pos k1]
  rw[hv]
  rfl
 ·have hn:Az b f.fd p=none:=by cases h:Az b f.fd p with|none=>rfl|some _=>rw[h] at hs;exact absurd rfl hs
  rw[hn] at hQ
  unfold tkN
  cases hm2:(numP b (Ai f.many) p).2 with
  |none=>rfl
  |some m=>
   rw[hm2] at hQ
   dsimp only at hQ ⊢
   exact Xr hQ.symm
theorem Bbr (k0:¬f.k=0) (k1:¬f.k=1) (k2:¬f.k=2) (k3:¬f.k=3):(Bj f.fd (pS b p)).1=⟨f.k,0,[],[],List.replicate 32 0,tkX b f p,0,0⟩∧(¬(Az b f.fd p).isSome→tkX b f p=[]):=by
 have hQ:Az b f.fd p=(match (numP b (Ai f.many) p).2 with
   |none=>none
   |some m=>if (numP b (Ai f.many) p).1.toNat≤(b.length - m) / 4 then some (m+4*(numP b (Ai f.many) p).1.toNat) else none):=by
   unfold Az
   rw[if_neg (show ¬f.fd.k=0 from k0),if_neg (show ¬f.fd.k=1 from k1),if_neg (show ¬f.fd.k=2 from k2),if_neg (show ¬f.fd.k=3 from k3)]
   rfl
 have hv:(Dc f.many (pS b p)).1=tkX b f p:=by
  unfold Dc tkX
  rw[Py]
  cases hm2:(numP b (Ai f.many) p).2 with
  |none=>rfl
  |some m=>
   simp only
   by_cases hv:(numP b (Ai f.many) p).1.toNat≤(b.length - m) / 4
   ·simp only[if_pos hv,if_true]
   ·simp only[if_neg hv]
    rfl
 refine⟨?_,fun hs=>?_⟩
 ·unfold Bj
  simp only[show f.fd.k=f.k from rfl,show f.fd.most=f.most from rfl,show f.fd.many=f.many from rfl,if_neg k0,if_neg k1,if_neg k2,if_neg k3]
  rw[hv]
  rfl
 ·have hn:Az b f.fd p=none:=by cases h:Az b f.fd p with|none=>rfl|some _=>rw[h] at hs;exact absurd rfl hs
  rw[hn] at hQ
  unfold tkX
  cases hm2:(numP b (Ai f.many) p).2 with
  |none=>rfl
  |some m=>
   rw[hm2] at hQ
   dsimp only at hQ ⊢
   split
   ·rename_i hq;rw[if_pos hq] at hQ;cases hQ
   ·rfl
end
structure XOk (Fs:List Fct) (f:FdR):Prop where
 s:f.s.length=32
 many:f.many=0
 l:f.l=⟨none,0,[]⟩∨(⟨f.l.val,f.l.l.length,f.l.l.map vU64⟩:Fct)∈Fs
 x:f.x=⟨none,0,[]⟩∨(⟨f.x.val,f.x.l.length,f.x.l.map Ap⟩:Fct)∈Fs
theorem Bbs {w0 w:World} {ow:Nat→Prop} {γ:List Nm} {e:TypeId} {c:Cont} {vs:List Value} (hS:Sat w0 ow γ [.own e c] w) (hcb:Cont.bnd 1 c) (hv:∀γ,c.vals γ=vs):
  ∃A cap,nmS γ 0=.slice A vs.length cap∧∃γ',Sat w0 ow γ' [.abs (fctRep [⟨.slice A vs.length cap,vs.length,vs⟩])] w:=by
 obtain⟨A,cap,h1,h2,h3,h4⟩:=Aa0 (j:=0) (e:=e) (c:=c) hS rfl hv
 refine⟨A,cap,h1,?_⟩
 have hl:=hS.len
 have hbr:∀r∈[Res.own e c],Res.bnd [Res.own e c].length r:=fun r hr=>by
  rw[List.mem_singleton.1 hr];exact hcb
 have hp:=hS.pack [0] hbr (R:=fctRep [⟨.slice A vs.length cap,vs.length,vs⟩]) (x:=.bool true) (B:=fun b=>(nmS γ 0).ownBlock=some b) (fun b hb=>⟨0,_,by simp,rfl,hb⟩) ⟨rfl,fun f hf=>by rw[List.mem_singleton.1 hf];exact h4⟩
 have hle:J2 [1] (goneAll [0] [Res.own e c]++[Res.abs (fctRep [⟨.slice A vs.length cap,vs.length,vs⟩])]) [1] [.abs (fctRep [⟨.slice A vs.length cap,vs.length,vs⟩])]:=by
  simp only[push_cast]
 obtain⟨h5,_⟩:=hp.sel hle (by simp only[push_cast]) (fun r hr=>by rw[List.mem_singleton.1 hr];trivial)
 exact⟨_,h5⟩
theorem Bbt (b:List UInt8) (A:Option Addr) (c:Nat) (p:Plc) (f:FdR) (w:World) (hp:pOk b p) (hm:b.length≤100000) (hc:b.length≤c) (hR:RdV w w.heap.size A (b.map vU8)) (hf:f.Ok w) (k2:¬f.k=2):
  Calls Tryd.prog 22 (List.map (Sv.val []) [.x (.a (.v (.slice A b.length c))),.x (.a (.v (.int .i64 (pI p)))),.x (.g (fdA f))]).toArray w fun e w'=>∃(x:FdR×List Fct) (γ1:List Nm),(x.1.fd=(Bj f.fd (pS b p)).1∧XOk x.2 x.1)∧e=.returned ((Sv.t [.g (fdA x.1),.a (.v (.int .i64 (pI (Az b f.fd p))))]).val γ1)∧Sat w No γ1 [.abs (fctRep x.2)] w':=by
 refine (Aej b A c p f w hp hm hc hR hf).mono fun e w' ⟨γ1,he,hS⟩=>?_
 have hv:∀γ,(tkC b f p).vals γ=(tkC b f p).vals []:=fun γ=>by
  unfold tkC
  repeat (first|rfl|split)
 obtain⟨A1,cap,e1,γ',h5⟩:=Bbs hS (by rw[Aeh];trivial) hv
 rw[he]
 have nok:∀{α:Type},(⟨none,0,[]⟩:SlR α)=⟨none,0,[]⟩:=rfl
 have agg:∀(k n l b:At) (q:List UInt8) (x:At) (γ:List Nm),Sc.val γ (.g (fdL k n l b q x))=.agg ([k.val γ,n.val γ,l.val γ,b.val γ]++(q.map vU8++[x.val γ,.int .i64 0,.int .u64 0])).toArray:=fun k n l b q x γ=>Xp ..
 have fin:∀{l:List At} {a:FdR},Sc.val γ1 (.g l)=.agg (fdV a).toArray→Ending.returned ((Sv.t [.g l,.a (.v (.int .i64 (pI (Az b f.fd p))))]).val γ1)=.returned ((Sv.t [.g (fdA a),.a (.v (.int .i64 (pI (Az b f.fd p))))]).val γ'):=fun {l a} h=>by
  show Ending.returned (.tuple #[Sc.val γ1 (.g l),_])=Ending.returned (.tuple #[Sc.val γ' (.g (fdA a)),_])
  rw[h,show Sc.val γ' (.g (fdA a))=.agg (fdV a).toArray from L1 a γ']
  rfl
 by_cases k0:f.k=0
 ·refine⟨(⟨f.k,(numP b f.most p).1,⟨none,0,[]⟩,⟨none,0,[]⟩,List.replicate 32 0,⟨none,0,[]⟩,0,0⟩,_),γ',⟨?_,⟨rfl,rfl,.inl rfl,.inl rfl⟩⟩,fin ?_,h5⟩
  ·unfold Bj
   simp only[show f.fd.k=f.k from rfl,if_pos k0]
   have:=congrArg Prod.fst (Tp b f.most p)
   show Fd.mk _ _ _ _ _ _ _ _=_
   rw[←this]
   rfl
  ·unfold tkA
   rw[if_pos k0]
   exact agg ..
 by_cases k1:f.k=1
 ·obtain⟨g1,g2⟩:=Ts k1 hp
  have ec:tkC b f p=.u64 (tkN b f p):=by unfold tkC;rw[if_neg k0,if_pos k1]
  rw[ec] at e1 h5
  have el:(Cont.vals [] (.u64 (tkN b f p))).length=(tkN b f p).length:=List.length_map ..
  rw[el] at e1 h5
  by_cases hs:(Az b f.fd p).isSome
  ·refine⟨(⟨f.k,0,⟨A1,cap,tkN b f p⟩,⟨none,0,[]⟩,List.replicate 32 0,⟨none,0,[]⟩,0,0⟩,_),γ',⟨g1.symm,⟨rfl,rfl,.inr (List.mem_singleton.2 rfl),.inl rfl⟩⟩,fin ?_,h5⟩
   unfold tkA
   rw[if_neg k0,if_pos k1,if_pos hs,agg]
   show Value.agg ([_,_,nmS γ1 0,_]++_).toArray=_
   rw[e1]
   rfl
  ·refine⟨(⟨f.k,0,⟨none,0,[]⟩,⟨none,0,[]⟩,List.replicate 32 0,⟨none,0,[]⟩,0,0⟩,_),γ',⟨?_,⟨rfl,rfl,.inl rfl,.inl rfl⟩⟩,fin ?_,h5⟩
   ·rw[g1,g2 hs];rfl
   ·unfold tkA
    rw[if_neg k0,if_pos k1,if_neg hs]
    exact agg ..
 by_cases k3:f.k=3
 ·refine⟨(⟨f.k,0,⟨none,0,[]⟩,⟨none,0,[]⟩,(C9 (pS b p)).1,⟨none,0,[]⟩,0,0⟩,_),γ',⟨?_,⟨Bbb _,rfl,.inl rfl,.inl rfl⟩⟩,fin ?_,h5⟩
  ·unfold Bj
   simp only[show f.fd.k=f.k from rfl,if_neg k0,if_neg k1,if_neg k2,if_pos k3]
   rfl
  ·unfold tkA
   rw[if_neg k0,if_neg k1,if_neg k2,if_pos k3]
   exact agg ..
 obtain⟨g1,g2⟩:=Bbr (b:=b) (p:=p) k0 k1 k2 k3
 have ec:tkC b f p=.u32 (tkX b f p):=by unfold tkC;rw[if_neg k0,if_neg k1,if_neg k2,if_neg k3]
 rw[ec] at e1 h5
 have el:(Cont.vals [] (.u32 (tkX b f p))).length=(tkX b f p).length:=List.length_map ..
 rw[el] at e1 h5
 by_cases hs:(Az b f.fd p).isSome
 ·refine⟨(⟨f.k,0,⟨none,0,[]⟩,⟨none,0,[]⟩,List.replicate 32 0,⟨A1,cap,tkX b f p⟩,0,0⟩,_),γ',⟨g1.symm,⟨rfl,rfl,.inl rfl,.inr (List.mem_singleton.2 rfl)⟩⟩,fin ?_,h5⟩
  unfold tkA
  rw[if_neg k0,if_neg k1,if_neg k2,if_neg k3,if_pos hs,agg]
  show Value.agg ([_,_,_,_]++(_++[nmS γ1 0,_,_])).toArray=_
  rw[e1]
  rfl
 ·refine⟨(⟨f.k,0,⟨none,0,[]⟩,⟨none,0,[]⟩,List.replicate 32 0,⟨none,0,[]⟩,0,0⟩,_),γ',⟨?_,⟨rfl,rfl,.inl rfl,.inl rfl⟩⟩,fin ?_,h5⟩
  ·rw[g1,g2 hs];rfl
  ·unfold tkA
   rw[if_neg k0,if_neg k1,if_neg k2,if_neg k3,if_neg hs]
   exact agg ..
theorem Jo {w0:World} {hp:List Res} (b:List UInt8) (A:Option Addr) (c:Nat) (p:Plc) (f:FdR) (hbr:∀r∈hp,Res.bnd hp.length r) (hok:pOk b p) (hm:b.length≤100000) (hc:b.length≤c) (hR:RdV w0 w0.heap.size A (b.map vU8)) (hf:f.Ok w0) (k2:¬f.k=2):
  ∀γ w,Sat w0 No γ hp w→Calls Tryd.prog 22 (List.map (Sv.val γ) [.x (.a (.v (.slice A b.length c))),.x (.a (.v (.int .i64 (pI p)))),.x (.g (fdA f))]).toArray w fun e w'=>∃(x:FdR×List Fct) (δ:List Nm),(x.1.fd=(Bj f.fd (pS b p)).1∧XOk x.2 x.1)∧e=.returned ((Sv.t [.g (fdA x.1),.a (.v (.int .i64 (pI (Az b f.fd p))))]).val (γ++δ))∧Sat w0 No (γ++δ) (hp++[.abs (fctRep x.2)]) w':=fun γ w hS=>by
 have e:List.map (Sv.val γ) [.x (.a (.v (.slice A b.length c))),.x (.a (.v (.int .i64 (pI p)))),.x (.g (fdA f))]=List.map (Sv.val []) [.x (.a (.v (.slice A b.length c))),.x (.a (.v (.int .i64 (pI p)))),.x (.g (fdA f))]:=by
  simp only[List.map_cons,List.map_nil,L1]
  rfl
 rw[e]
 refine (Bbt b A c p f w hok hm hc (Fz hR hS) (hf.later hS) k2).mono fun en w' ⟨x,γ1,h1,h2,h3⟩=>⟨x,γ1,h1,?_,?_⟩
 ·rw[h2]
  show Ending.returned (.tuple #[Sc.val γ1 (.g (fdA x.1)),_])=Ending.returned (.tuple #[Sc.val (γ++γ1) (.g (fdA x.1)),_])
  rw[show ∀γ,Sc.val γ (.g (fdA x.1))=.agg (fdV x.1).toArray from fun γ=>L1 x.1 γ,show ∀γ,Sc.val γ (.g (fdA x.1))=.agg (fdV x.1).toArray from fun γ=>L1 x.1 γ]
  rfl
 ·have:=hS.back [] (X:=No) (fun b h=>h.elim) h3 hbr (fun r hr=>by rw[List.mem_singleton.1 hr];trivial)
  exact this
theorem Bbu {w0:World} {ow:Nat→Prop} {n:Nat} {s:S} (j k:Nat) {F1 F2:List Fct} (hj:s.hp[j]?=some (.abs (fctRep F1))) (hk:s.hp[k]?=some (.abs (fctRep F2))) (hb:s.bnd):
  Gn w0 ow n s ⟨s.fr,goneAll [j,k] s.hp++[.abs (fctRep (F1++F2))]⟩:=fun a w ⟨γ,hf⟩=>by
 have hS:=hf.sat
 obtain⟨_,lt1,h1,a1⟩:=hS.holds j _ hj
 obtain⟨_,lt2,h2,a2⟩:=hS.holds k _ hk
 have:=hS.pack [j,k] hb.2 (R:=fctRep (F1++F2)) (x:=.bool true) (B:=fun b=>nmM γ j b∨nmM γ k b) (fun b hb=>by
  rcases hb with hb|hb
  ·exact⟨j,_,by simp,hj,hb⟩
  ·exact⟨k,_,by simp,hk,hb⟩) ⟨rfl,fun f hf=>by
   rcases List.mem_append.1 hf with hf|hf
   ·exact (a1 f hf).mono fun b hb=>.inl hb
   ·exact (a2 f hf).mono fun b hb=>.inr hb⟩
 exact⟨_,this,hf.defers,hf.size,fun u sv hu=>by
  rw[hf.at_ u sv hu]
  exact (Sv.ext (by rw[hf.sat.len];exact hb.1 _ (Fr.get_mem hu))).symm⟩
theorem Jp {w0:World} {ow:Nat→Prop} {n:Nat} {s:S} {ι:Type} {I:ι→S} {Inv:ι→Prop} {μ:ι→Nat} {i:ι} {K:Exit→S→Prop} (j k:Nat) {F1 F2:List Fct} (hj:s.hp[j]?=some (.abs (fctRep F1))) (hk:s.hp[k]?=some (.abs (fctRep F2))) (hb:s.bnd)
  (h:F5 w0 ow n I Inv μ i K .normal ⟨s.fr,goneAll [j,k] s.hp++[.abs (fctRep (F1++F2))]⟩):F5 w0 ow n I Inv μ i K .normal s:=Ajc (Bbu j k hj hk hb) h
structure MOk (Fs:List Fct) (m:MgR):Prop where
 s:m.sm.length=32
 ids:m.ids=⟨none,0,[]⟩∨(⟨m.ids.val,m.ids.l.length,m.ids.l.map (Value.int .i64)⟩:Fct)∈Fs
 ns:m.ns=⟨none,0,[]⟩∨(⟨m.ns.val,m.ns.l.length,m.ns.l.map vU64⟩:Fct)∈Fs
 ps:m.ps=⟨none,0,[]⟩∨(⟨m.ps.val,m.ps.l.length,pvs m.ps.l⟩:Fct)∈Fs
 xs:m.xs=⟨none,0,[]⟩∨(⟨m.xs.val,m.xs.l.length,m.xs.l.map Ap⟩:Fct)∈Fs
 few:m.mg.Few
theorem MOk.more {m:MgR} {Fs Gs:List Fct} (h:MOk Fs m) (hg:∀f∈Fs,f∈Gs):MOk Gs m:=
 ⟨h.s,h.ids.imp id (hg _),h.ns.imp id (hg _),h.ps.imp id (hg _),h.xs.imp id (hg _),h.few⟩
theorem Tt {α:Type} {w0 w:World} {ow:Nat→Prop} {γ:List Nm} {hp:List Res} {k:Nat} {Fs:List Fct} (hS:Sat w0 ow γ hp w) (hk:hp[k]?=some (.abs (fctRep Fs))) {s:SlV α} {vs:List Value} (hn:s=⟨none,0,[]⟩→vs=[]) (h:s=⟨none,0,[]⟩∨(⟨s.val,s.l.length,vs⟩:Fct)∈Fs) (hf:s.l.length≤1000):s.Ok vs w:=by
 rcases h with e|e
 ·rw[hn e,e];exact⟨Nat.le_refl _,Nat.zero_le _,RdV.nil_⟩
 ·obtain⟨A,c,h1,h2,_,h4⟩:=Aa4 hS hk e
  have h1:Value.slice s.A s.l.length s.c=.slice A s.l.length c:=h1
  injection h1 with e1 _ e3
  rw[←e3] at h2
  rw[←e1] at h4
  exact⟨h2,hf,h4⟩
theorem MOk.ok {m:MgR} {Fs:List Fct} (h:MOk Fs m) {w0 w:World} {ow:Nat→Prop} {γ:List Nm} {hp:List Res} {k:Nat} (hS:Sat w0 ow γ hp w) (hk:hp[k]?=some (.abs (fctRep Fs))):m.Ok w:=
 ⟨h.s,Tt hS hk (fun e=>by rw[e];rfl) h.ids h.few.ids,Tt hS hk (fun e=>by rw[e];rfl) h.ns h.few.ns,Tt hS hk (fun e=>by rw[e];rfl) h.ps h.few.ps,Tt hS hk (fun e=>by rw[e];rfl) h.xs h.few.xs⟩
theorem Ny {w0:World} {hp:List Res} {m:MgR} {Fs:List Fct} {k:Nat} (h:MOk Fs m) (hk:hp[k]?=some (.abs (fctRep Fs))):Dg w0 hp (.x (.g (mgA m))) m.mg:=fun γ w hS=>⟨m,Es m γ,h.ok hS hk,rfl⟩
end Go.Proofs.YtiaeollemmkclaaDoor
