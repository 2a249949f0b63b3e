import Derived.Test.YtiaeollemmkclaaDoorCp
import Derived.Test.YtiaeollemmkclaaDoorPkI
/- Layer 16: msg.write. -/
namespace Go.Proofs.YtiaeollemmkclaaDoor
open Go.RowKit
set_option linter.unusedSimpArgs false
set_option linter.unusedVariables false
def WrS (f:FuncId) (args:List Sv) (bs:List (List UInt8)) (X:Nat→Prop) (w:World):Prop:=∀(r:List (List UInt8)) (n g:Nat) (γ:List Nm),n+bs.flatten.length≤1000000000→Sat w X γ [.pin g 47 (.c [.o 1,.v (.int .i64 (n:Int))]),.abs (ChR 125 r)] w→
 Calls Tryd.prog f (List.map (Sv.val γ) (.x (.a (.p 0 0))::args)).toArray w fun e w'=>∃γ1,e=.returned ((Sv.t []).val γ1)∧Sat w X γ1 [.pin g 47 (.c [.o 1,.v (.int .i64 ((n+bs.flatten.length:Nat):Int))]),.abs (ChR 125 (bs.reverse++r))] w'
def Ac8 (hp:List Res) (k0:Nat) (ks:List Nat) (r:List (List UInt8)) (n:Nat) (bs:List (List UInt8)):List Res:=
 Eo (hp.length+0) k0 (bput hp[k0]? 47 (Cont.ren (A7 hp.length 2) (.c [.o 1,.v (.int .i64 ((n+bs.flatten.length:Nat):Int))]))) (goneAll ks hp++[Res.pin 0 47 (.c [.o 1,.v (.int .i64 ((n+bs.flatten.length:Nat):Int))]),.abs (ChR 125 (bs.reverse++r))].map (Res.ren (A7 hp.length 2)))
section
variable {w0:World} {ow:Nat→Prop} {hp:List Res} {k0 k1 n:Nat} {r bs:List (List UInt8)} {f:FuncId} {args:List Sv}
theorem A5y (hn:n+bs.flatten.length≤1000000000) (hn1:k0≠k1) (hbr:∀r∈hp,Res.bnd hp.length r) (hk:B3 hp[k0]?=some (47,.c [.o k1,.v (.int .i64 (n:Int))])) (h1:hp[k1]?=some (.abs (ChR 125 r)))
  (ha:∀γ γ',List.map (Sv.val γ) args=List.map (Sv.val γ') args) (hG:∀γ w,Sat w0 ow γ hp w→∀X:Nat→Prop,(∀b,X b→∃(k:Nat) (r:Res),k∈[k0,k1]∧hp[k]?=some r∧r.has γ k b)→WrS f args bs X w):
  Ad Tryd.prog w0 ow f (.x (.a (.p k0 0))::args) hp (.t []) (Ac8 hp k0 [k0,k1] r n bs):=by
 have:=Se (P:=Tryd.prog) (w0:=w0) (ow:=ow) (f:=f) (svs:=.x (.a (.p k0 0))::args) (hp:=hp) (sv1:=.t []) [k0,k1] 0 k0 (c:=.c [.o k1,.v (.int .i64 (n:Int))]) (c1:=.c [.o 1,.v (.int .i64 ((n+bs.flatten.length:Nat):Int))])
  (fun g=>[.pin g 47 (.c [.o 1,.v (.int .i64 ((n+bs.flatten.length:Nat):Int))]),.abs (ChR 125 (bs.reverse++r))]) (by simp) hk (fun _=>rfl) (fun _=>rfl) hbr (fun _=>by simp only[push_cast,Nat.reduceLT,Nat.reduceAdd]) (by simp only[push_cast,Nat.reduceAdd])
  (fun g=>Sy (by rw[J9];rfl)) fun γ w hS=>by
  obtain⟨g1,g2,g3⟩:=hS.hand (k:=k0) (ρ:=[k0,k1]) (hp0:=[.pin (nmB γ k0) 47 (.c [.o 1,.v (.int .i64 (n:Int))]),.abs (ChR 125 r)]) hk
   ⟨by rw[List.getElem?_set_self (by
      obtain⟨_,_,r0,hr0,_⟩:=hS.bv hk
      exact B8 hr0)];rfl,by rw[List.getElem?_set_ne hn1,h1];rfl,trivial⟩ ⟨⟨hn1.symm,trivial⟩,trivial,trivial⟩ (by simp only[push_cast,Nat.reduceLT,Nat.reduceAdd])
  refine⟨_,g2,?_⟩
  have:=hG γ w hS _ g2 r n (nmB γ k0) _ hn g1
  rw[List.map_cons,g3 (.x (.a (.p 0 0))) (by show (0:Nat) < 2;omega),ha _ γ] at this
  exact this
 exact this
end
attribute [push_cast] Ac8
theorem Ng {w0 w:World} {γ:List Nm} {hp:List Res} {A:Option Addr} {vs:List Value} {X:Nat→Prop} (hR:RdV w0 w0.heap.size A vs) (hS:Sat w0 No γ hp w) (hX:∀b,X b→∃(k:Nat) (r:Res),hp[k]?=some r∧r.has γ k b):FW w X A vs:=
 ⟨(hR.below (G9 hS.keeps)).more (G9 hS.keeps).size,fun hp a ha hx=>by
  obtain⟨b,off,h1,h2,_⟩:=hR hp
  rw[ha] at h1
  cases h1
  obtain⟨k,r,hr,hb⟩:=hX _ hx
  rcases (hS.mine k r _ hr hb).1 with h|h
  ·exact h.elim
  ·exact absurd h2 (by show ¬_ < _;exact Nat.not_lt.2 h)⟩
structure MgR.OkX (m:MgR) (X:Nat→Prop) (w:World):Prop where
 ok:m.Ok w
 ids:FW w X m.ids.A (m.ids.l.map (Value.int .i64))
 ns:FW w X m.ns.A (m.ns.l.map vU64)
 ps:FW w X m.ps.A (pvs m.ps.l)
 xs:FW w X m.xs.A (m.xs.l.map Ap)
theorem MgR.Ok.x {m:MgR} {w0 w:World} {γ:List Nm} {hp:List Res} {X:Nat→Prop} (h:m.Ok w0) (hS:Sat w0 No γ hp w) (hX:∀b,X b→∃(k:Nat) (r:Res),hp[k]?=some r∧r.has γ k b):m.OkX X w:=
 ⟨h.later hS,Ng h.ids.rd hS hX,Ng h.ns.rd hS hX,Ng h.ps.rd hS hX,Ng h.xs.rd hS hX⟩
structure FPX (w0:World) (ow:Nat→Prop) (A:Option Addr) (l:List Pr):Prop where
 some_:0 < l.length→A.isSome=true
 c0:∀i,i < l.length→B2 w0 (Ar A (i*2))=.int .i64 (ix l i).1
 c1:∀i,i < l.length→B2 w0 (Ar A (i*2+1))=vU64 (ix l i).2
 ok0:∀i,i < l.length→C8 w0 ow (Ar A (i*2))
 ok1:∀i,i < l.length→C8 w0 ow (Ar A (i*2+1))
theorem FPX.of {w0:World} {ow:Nat→Prop} {A:Option Addr} {l:List Pr} (hR:FW w0 ow A (pvs l)):FPX w0 ow A l:=by
 have h:=hR.fv
 have g0:∀i,i < l.length→(pvs l)[i*2]?=some (.int .i64 (ix l i).1):=fun i hi=>Lo Jc l i 0 hi (by omega)
 have g1:∀i,i < l.length→(pvs l)[i*2+1]?=some (vU64 (ix l i).2):=fun i hi=>Lo Jc l i 1 hi (by omega)
 exact⟨fun hp=>h.some_ (by rw[O5];omega),fun i hi=>(h.cell (g0 i hi)).1,fun i hi=>(h.cell (g1 i hi)).1,fun i hi=>(h.cell (g0 i hi)).2,fun i hi=>(h.cell (g1 i hi)).2⟩
theorem A5z (l:List Pr) (i:Nat) (h:i < l.length):(l.take (i+1)).map (·.1)=(l.take i).map (·.1)++[(ix l i).1]:=by rw[Nd h,List.map_append];rfl
theorem A50 (l:List Pr) (i:Nat) (h:i < l.length):(l.take (i+1)).map (·.2)=(l.take i).map (·.2)++[(ix l i).2]:=by rw[Nd h,List.map_append];rfl
def Dr (l:List Pr):List Int:=l.map (·.1)
def Et (l:List Pr):List UInt64:=l.map (·.2)
theorem A51 (l:List Pr) (i:Nat) (h:i < l.length):Dr (l.take (i+1))=Dr (l.take i)++[(ix l i).1]:=A5z l i h
theorem A52 (l:List Pr) (i:Nat) (h:i < l.length):Et (l.take (i+1))=Et (l.take i)++[(ix l i).2]:=A50 l i h
theorem Ww (l:List Pr):(Dr l).length=l.length:=List.length_map ..
theorem Wx (l:List Pr):(Et l).length=l.length:=List.length_map ..
theorem A53:Dr []=[]:=rfl
theorem A54:Et []=[]:=rfl
theorem A55 (m:MgR):C5 m.mg 112=[Bc (Ao (Dr m.ps.l))++Bl (Ao (Dr m.ps.l)),Bc (Et m.ps.l)++Bl (Et m.ps.l)]:=rfl
theorem A56 (m:MgR):C5 m.mg 97=[Al (UInt64.ofInt m.pl)]:=rfl
theorem A57 (m:MgR):C5 m.mg 111=[Al (UInt64.ofInt m.ot)]:=rfl
theorem A58 (m:MgR):C5 m.mg 99=[Al (UInt64.ofInt m.cl)]:=rfl
theorem A59 (m:MgR):C5 m.mg 103=[Al (UInt64.ofInt m.ge)]:=rfl
theorem A6a (m:MgR):C5 m.mg 110=[Al m.nu]:=rfl
theorem A6b (m:MgR):C5 m.mg 115=[m.sm]:=rfl
theorem A6c (m:MgR):C5 m.mg 105=[Bc (Ao m.ids.l)++Bl (Ao m.ids.l)]:=rfl
theorem A6d (m:MgR):C5 m.mg 118=[Bc m.ns.l++Bl m.ns.l]:=rfl
theorem A6e (m:MgR):C5 m.mg 120=[Bc m.xs.l++Bw m.xs.l]:=rfl
theorem A6f (m:MgR):C5 m.mg 114=[Al (UInt64.ofInt m.re)]:=rfl
theorem A6g (m:MgS) {c:UInt8} (k97:¬c=97) (k111:¬c=111) (k99:¬c=99) (k103:¬c=103) (k110:¬c=110) (k115:¬c=115) (k105:¬c=105) (k118:¬c=118) (k112:¬c=112) (k120:¬c=120) (k114:¬c=114):C5 m c=[]:=by
 unfold C5
 simp only[if_neg k97,if_neg k111,if_neg k99,if_neg k103,if_neg k110,if_neg k115,if_neg k105,if_neg k118,if_neg k112,if_neg k120,if_neg k114]
attribute [local irreducible] Af Ad Av Bh Bf A6 Aw A9
attribute [local irreducible] mgA wiM B6 may chI okV Fi Al Bl Bw Bc Ao Be Dr Et C5
section
variable {X:Nat→Prop} {w:World}
set_option maxRecDepth 100000 in
set_option maxHeartbeats 4000000 in
theorem A6h (m:MgR) (c:UInt8) (hf:m.OkX X w) (hy:C5 m.mg c≠[]):WrS 89 [.x (.g (mgA m)),.x (.a (.v (.int .i32 (chI c))))] (C5 m.mg c) X w:=fun r n g γ hn hS=>by
 obtain⟨f0,f1,f2,f3,f4,f5,f38,f39,f40,f41,f42⟩:=Dw hf.ok.s
 have fl:=Cj hf.ok.s
 have fs:=Gw hf.ok.s
 have hfs:=hf.ok.s
 have fb:=fun n=>Co m n
 simp only[At.bnd] at fb
 generalize hbs:C5 m.mg c=bs at*
 refine Cy (n:=112) Tryd.func89 rfl Tryd.ntmps89 _ hS (by simp) (.t []) _ ?_
 have sub:∀{hp:List Res} {γ:List Nm} {w':World} {Y:Nat→Prop} {A:Option Addr} {vs:List Value},FW w X A vs→Sat w X γ hp w'→(∀b,Y b→∃(k:Nat) (r:Res),k∈[0,1]∧hp[k]?=some r∧r.has γ k b)→FW w' Y A vs:=fun h hS hY=>h.call hS fun b hb=>by
  obtain⟨k,r,_,h⟩:=hY b hb
  exact⟨k,r,h⟩
 by_cases h:c=97
 ·have g97:=B0 (n:=97) h Ey
  rw[h,A56] at hbs
  subst hbs
  simp only[List.flatten_cons,List.flatten_nil,List.append_nil] at hn
  simp (maxSteps:=10^6) only[g97,fb,fl,f1,↓Ba,undef,push_cast,↓reduceIte,reduceCtorEq,Nat.reduceEqDiff,Nat.reduceLT,Nat.reduceAdd]
  (repeat (refine And.intro (by first|omega|decide) ?_))
  refine Bk rfl Lk rfl (Iy (k0:=0) (k1:=1) (args:=[.x (.a (.v (vU64 (UInt64.ofInt m.pl))))]) (by simpa using hn) (by decide) (by simp (maxSteps:=10^6) only[fb,push_cast,Nat.reduceLT,Nat.reduceAdd]) rfl rfl (fun _ _=>rfl) fun γ w hS X hX=>Ly (UInt64.ofInt m.pl)) (Aa rfl) (fun _=>by simp (maxSteps:=10^6) only[fb,push_cast,Nat.reduceLT,Nat.reduceAdd]) ?_
  simp (maxSteps:=10^6) only[↓Ak,push_cast,↓reduceIte,Nat.reduceEqDiff,Nat.reduceLT,Nat.reduceAdd]
  refine Bp [0,4] ?_
  simp (maxSteps:=10^6) only[List.reverse_nil,List.nil_append,List.cons_append,push_cast,↓reduceIte,reduceCtorEq,Nat.reduceLT,Nat.reduceAdd]
  done
 have g97:=Au (n:=97) h Ey
 have k97:=h
 clear h
 by_cases h:c=111
 ·have g111:=B0 (n:=111) h Fj
  rw[h,A57] at hbs
  subst hbs
  simp only[List.flatten_cons,List.flatten_nil,List.append_nil] at hn
  simp (maxSteps:=10^6) only[g97,g111,fb,fl,f2,↓Ba,undef,push_cast,↓reduceIte,reduceCtorEq,Nat.reduceEqDiff,Nat.reduceLT,Nat.reduceAdd]
  (repeat (refine And.intro (by first|omega|decide) ?_))
  refine Bk rfl Lk rfl (Iy (k0:=0) (k1:=1) (args:=[.x (.a (.v (vU64 (UInt64.ofInt m.ot))))]) (by simpa using hn) (by decide) (by simp (maxSteps:=10^6) only[fb,push_cast,Nat.reduceLT,Nat.reduceAdd]) rfl rfl (fun _ _=>rfl) fun γ w hS X hX=>Ly (UInt64.ofInt m.ot)) (Aa rfl) (fun _=>by simp (maxSteps:=10^6) only[fb,push_cast,Nat.reduceLT,Nat.reduceAdd]) ?_
  simp (maxSteps:=10^6) only[↓Ak,push_cast,↓reduceIte,Nat.reduceEqDiff,Nat.reduceLT,Nat.reduceAdd]
  refine Bp [0,4] ?_
  simp (maxSteps:=10^6) only[List.reverse_nil,List.nil_append,List.cons_append,push_cast,↓reduceIte,reduceCtorEq,Nat.reduceLT,Nat.reduceAdd]
  done
 have g111:=Au (n:=111) h Fj
 have k111:=h
 clear h
 by_cases h:c=99
 ·have g99:=B0 (n:=99) h F0
  rw[h,A58] at hbs
  subst hbs
  simp only[List.flatten_cons,List.flatten_nil,List.append_nil] at hn
  simp (maxSteps:=10^6) only[g97,g111,g99,fb,fl,f3,↓Ba,undef,push_cast,↓reduceIte,reduceCtorEq,Nat.reduceEqDiff,Nat.reduceLT,Nat.reduceAdd]
  (repeat (refine And.intro (by first|omega|decide) ?_))
  refine Bk rfl Lk rfl (Iy (k0:=0) (k1:=1) (args:=[.x (.a (.v (vU64 (UInt64.ofInt m.cl))))]) (by simpa using hn) (by decide) (by simp (maxSteps:=10^6) only[fb,push_cast,Nat.reduceLT,Nat.reduceAdd]) rfl rfl (fun _ _=>rfl) fun γ w hS X hX=>Ly (UInt64.ofInt m.cl)) (Aa rfl) (fun _=>by simp (maxSteps:=10^6) only[fb,push_cast,Nat.reduceLT,Nat.reduceAdd]) ?_
  simp (maxSteps:=10^6) only[↓Ak,push_cast,↓reduceIte,Nat.reduceEqDiff,Nat.reduceLT,Nat.reduceAdd]
  refine Bp [0,4] ?_
  simp (maxSteps:=10^6) only[List.reverse_nil,List.nil_append,List.cons_append,push_cast,↓reduceIte,reduceCtorEq,Nat.reduceLT,Nat.reduceAdd]
  done
 have g99:=Au (n:=99) h F0
 have k99:=h
 clear h
 by_cases h:c=103
 ·have g103:=B0 (n:=103) h Gb
  rw[h,A59] at hbs
  subst hbs
  simp only[List.flatten_cons,List.flatten_nil,List.append_nil] at hn
  simp (maxSteps:=10^6) only[g97,g111,g99,g103,fb,fl,f4,↓Ba,undef,push_cast,↓reduceIte,reduceCtorEq,Nat.reduceEqDiff,Nat.reduceLT,Nat.reduceAdd]
  (repeat (refine And.intro (by first|omega|decide) ?_))
  refine Bk rfl Lk rfl (Iy (k0:=0) (k1:=1) (args:=[.x (.a (.v (vU64 (UInt64.ofInt m.ge))))]) (by simpa using hn) (by decide) (by simp (maxSteps:=10^6) only[fb,push_cast,Nat.reduceLT,Nat.reduceAdd]) rfl rfl (fun _ _=>rfl) fun γ w hS X hX=>Ly (UInt64.ofInt m.ge)) (Aa rfl) (fun _=>by simp (maxSteps:=10^6) only[fb,push_cast,Nat.reduceLT,Nat.reduceAdd]) ?_
  simp (maxSteps:=10^6) only[↓Ak,push_cast,↓reduceIte,Nat.reduceEqDiff,Nat.reduceLT,Nat.reduceAdd]
  refine Bp [0,4] ?_
  simp (maxSteps:=10^6) only[List.reverse_nil,List.nil_append,List.cons_append,push_cast,↓reduceIte,reduceCtorEq,Nat.reduceLT,Nat.reduceAdd]
  done
 have g103:=Au (n:=103) h Gb
 have k103:=h
 clear h
 by_cases h:c=110
 ·have g110:=B0 (n:=110) h Gx
  rw[h,A6a] at hbs
  subst hbs
  simp only[List.flatten_cons,List.flatten_nil,List.append_nil] at hn
  simp (maxSteps:=10^6) only[g97,g111,g99,g103,g110,fb,fl,f5,↓Ba,undef,push_cast,↓reduceIte,reduceCtorEq,Nat.reduceEqDiff,Nat.reduceLT,Nat.reduceAdd]
  (repeat (refine And.intro (by first|omega|decide) ?_))
  refine Bk rfl Lk rfl (Iy (k0:=0) (k1:=1) (args:=[.x (.a (.v (vU64 m.nu)))]) (by simpa using hn) (by decide) (by simp (maxSteps:=10^6) only[fb,push_cast,Nat.reduceLT,Nat.reduceAdd]) rfl rfl (fun _ _=>rfl) fun γ w hS X hX=>Ly m.nu) (Aa rfl) (fun _=>by simp (maxSteps:=10^6) only[fb,push_cast,Nat.reduceLT,Nat.reduceAdd]) ?_
  simp (maxSteps:=10^6) only[↓Ak,push_cast,↓reduceIte,Nat.reduceEqDiff,Nat.reduceLT,Nat.reduceAdd]
  refine Bp [0,4] ?_
  simp (maxSteps:=10^6) only[List.reverse_nil,List.nil_append,List.cons_append,push_cast,↓reduceIte,reduceCtorEq,Nat.reduceLT,Nat.reduceAdd]
  done
 have g110:=Au (n:=110) h Gx
 have k110:=h
 clear h
 by_cases h:c=115
 ·have g115:=B0 (n:=115) h Hg
  rw[h,A6b] at hbs
  obtain⟨q,hqs⟩:∃q,q=m.sm:=⟨_,rfl⟩
  have hsum:∀(X:Nat→Prop) (w:World),WrG 63 [.x (.a8 m.sm)] q X w:=fun X w=>hqs▸A4t m.sm hfs
  rw[←hqs] at hbs
  subst hbs
  simp only[List.flatten_cons,List.flatten_nil,List.append_nil] at hn
  simp (maxSteps:=10^6) only[g97,g111,g99,g103,g110,g115,fb,fl,fs,↓Ba,push_cast,↓reduceIte,reduceCtorEq,Nat.reduceEqDiff,Nat.reduceLT,Nat.reduceLeDiff,Nat.reduceAdd]
  (repeat (refine And.intro (by first|omega|decide) ?_))
  refine Bk rfl Azd rfl (Iy (k0:=0) (k1:=1) (args:=[.x (.a8 m.sm)]) (by simpa using hn) (by decide) (by simp (maxSteps:=10^6) only[fb,push_cast,Nat.reduceLT,Nat.reduceAdd]) rfl rfl (fun _ _=>rfl) fun γ w hS X hX=>hsum X w) (Aa rfl) (fun _=>by simp (maxSteps:=10^6) only[fb,push_cast,Nat.reduceLT,Nat.reduceAdd]) ?_
  simp (maxSteps:=10^6) only[↓Ak,push_cast,↓reduceIte,Nat.reduceEqDiff,Nat.reduceLT,Nat.reduceAdd]
  refine Bp [0,4] ?_
  simp (maxSteps:=10^6) only[List.reverse_nil,List.nil_append,List.cons_append,push_cast,↓reduceIte,reduceCtorEq,Nat.reduceLT,Nat.reduceAdd]
  done
 have g115:=Au (n:=115) h Hg
 have k115:=h
 clear h
 by_cases h:c=105
 ·have g105:=B0 (n:=105) h H0
  rw[h,A6c] at hbs
  subst hbs
  simp only[List.flatten_cons,List.flatten_nil,List.append_nil,List.length_append] at hn
  have hnl:=Ir m.ids.l
  have hfew:=hf.ok.ids.few
  simp (maxSteps:=10^6) only[g97,g111,g99,g103,g110,g115,g105,fb,fl,f38,↓Ba,SlV.val,undef,push_cast,↓reduceIte,reduceCtorEq,Nat.reduceEqDiff,Nat.reduceLT,Nat.reduceAdd]
  (repeat (refine And.intro (by first|omega|decide) ?_))
  refine Fw rfl Aas rfl (Ab9 (l:=m.ids.l) (by omega) (Acd hf.ids _ _ (by simp) hf.ok.ids.len) (by simp (maxSteps:=10^6) only[fb,push_cast,Nat.reduceLT,Nat.reduceAdd])) (Aa rfl) (by simp (maxSteps:=10^6) only[fb,push_cast,Nat.reduceLT,Nat.reduceAdd]) ?_
  simp (maxSteps:=10^6) only[push_cast,↓reduceIte,Nat.reduceAdd]
  (repeat (refine And.intro (by first|omega|decide) ?_))
  refine Bk rfl R8 rfl (Wv (k0:=0) (k1:=1) (sv:=.x (.a (.o 3))) (vs:=(Ao m.ids.l).map vU64) (b:=Bc (Ao m.ids.l)++Bl (Ao m.ids.l)) (by simpa using hn) (by decide) (by simp (maxSteps:=10^6) only[fb,push_cast,Nat.reduceLT,Nat.reduceAdd]) rfl rfl (Wi _ rfl (fun _=>rfl) (by decide)) fun A c X w hc hw=>by
   rw[List.length_map]
   exact S4 _ A c (by omega) hw) (Aa rfl) (fun _=>by simp (maxSteps:=10^6) only[fb,push_cast,Nat.reduceLT,Nat.reduceAdd]) ?_
  simp (maxSteps:=10^6) only[↓Ak,push_cast,↓reduceIte,Nat.reduceEqDiff,Nat.reduceLT,Nat.reduceAdd]
  refine Bp [0,5] ?_
  simp (maxSteps:=10^6) only[List.reverse_nil,List.nil_append,List.cons_append,push_cast,↓reduceIte,reduceCtorEq,Nat.reduceLT,Nat.reduceAdd]
  done
 have g105:=Au (n:=105) h H0
 have k105:=h
 clear h
 by_cases h:c=118
 ·have g118:=B0 (n:=118) h Iq
  rw[h,A6d] at hbs
  subst hbs
  simp only[List.flatten_cons,List.flatten_nil,List.append_nil,List.length_append] at hn
  simp (maxSteps:=10^6) only[g97,g111,g99,g103,g110,g115,g105,g118,fb,fl,f39,↓Ba,SlV.val,undef,push_cast,↓reduceIte,reduceCtorEq,Nat.reduceEqDiff,Nat.reduceLT,Nat.reduceAdd]
  (repeat (refine And.intro (by first|omega|decide) ?_))
  refine Bk rfl R8 rfl (Iy (k0:=0) (k1:=1) (args:=[.x (.a (.v (.slice m.ns.A m.ns.l.length m.ns.c)))]) (by simpa using hn) (by decide) (by simp (maxSteps:=10^6) only[fb,push_cast,Nat.reduceLT,Nat.reduceAdd]) rfl rfl (fun _ _=>rfl) fun γ w hS X hX=>S4 m.ns.l m.ns.A m.ns.c (by have:=hf.ok.ns.few;omega) (sub hf.ns hS hX)) (Aa rfl) (fun _=>by simp (maxSteps:=10^6) only[fb,push_cast,Nat.reduceLT,Nat.reduceAdd]) ?_
  simp (maxSteps:=10^6) only[↓Ak,push_cast,↓reduceIte,Nat.reduceEqDiff,Nat.reduceLT,Nat.reduceAdd]
  refine Bp [0,4] ?_
  simp (maxSteps:=10^6) only[List.reverse_nil,List.nil_append,List.cons_append,push_cast,↓reduceIte,reduceCtorEq,Nat.reduceLT,Nat.reduceAdd]
  done
 have g118:=Au (n:=118) h Iq
 have k118:=h
 clear h
 by_cases h:c=112
 ·have g112:=B0 (n:=112) h Jg
  rw[h,A55] at hbs
  subst hbs
  simp only[List.flatten_cons,List.flatten_nil,List.append_nil,List.length_append] at hn
  have hfew:=hf.ok.ps.few
  have F:=FPX.of hf.ps
  have hl0:(0:Int)≤m.ps.l.length:=by omega
  have hl8:8*(m.ps.l.length:Int)≤281474976710656:=by omega
  have hl9:(m.ps.l.length:Int)≤9223372036854775807:=by omega
  simp (maxSteps:=10^6) only[g97,g111,g99,g103,g110,g115,g105,g118,g112,fb,fl,f40,↓Ba,SlV.val,hl0,hl8,hl9,undef,push_cast,↓Int.cast_ofNat_Int,Int.cast_ofNat_Int,↓reduceIte,reduceCtorEq,Nat.reduceEqDiff,Nat.reduceLT,Nat.reduceAdd,Int.reduceLE]
  (repeat (refine And.intro (by first|omega|decide) ?_))
  have hil:=Ww m.ps.l
  have hpl:=Wx m.ps.l
  have hnl:=Ir (Dr m.ps.l)
  refine Bu (ι:=Nat) (fun i=>⟨[(0,.x (.a (.p 0 0))),(6,.x (.a (.o 2))),(7,.x (.a (.o 3))),(75,.x (.a (.v (.slice m.ps.A m.ps.l.length m.ps.c)))),(76,.x (.a (.v (.int .i64 m.ps.l.length)))),(77,.x (.a (.v (.int .i64 i))))],[.pin g 47 (.c [.o 1,.v (.int .i64 (n:Int))]),.abs (ChR 125 r),.own 3 (.i64 (Dr (m.ps.l.take i))),.own 27 (.u64 (Et (m.ps.l.take i)))]⟩) (fun i=>i≤m.ps.l.length) (fun i=>m.ps.l.length - i) 0 [0,1,3,4] (Nat.zero_le _) ?_ ?_
  ·simp (maxSteps:=10^6) only[A53,A54,List.replicate_zero,push_cast,↓Int.cast_ofNat_Int,Int.cast_ofNat_Int,↓reduceIte,reduceCtorEq,Nat.reduceEqDiff,Nat.reduceLT,Nat.reduceAdd]
  intro i hi
  by_cases hlt:(i:Int) < m.ps.l.length
  ·have hip:i < m.ps.l.length:=by omega
   have hs:=A51 m.ps.l i hip
   have hs2:=A52 m.ps.l i hip
   have hk:=Ww (m.ps.l.take i)
   have hk2:=Wx (m.ps.l.take i)
   rw[List.length_take,Nat.min_eq_left hi] at hk hk2
   have c0:=F.c0 i hip
   have c1:=F.c1 i hip
   have o0:=F.ok0 i hip
   have o1:=F.ok1 i hip
   have hA:=F.some_ (by omega)
   have b1:((Dr (m.ps.l.take i)).length+1)*8≤140737488355328:=by omega
   have b2:(Dr (m.ps.l.take i)).length+1≤2 ^ 63 - 1:=by omega
   have b3:((Et (m.ps.l.take i)).length+1)*8≤140737488355328:=by omega
   have b4:(Et (m.ps.l.take i)).length+1≤2 ^ 63 - 1:=by omega
   have nx:(i:Int)+1≤9223372036854775807:=by omega
   have nx0:-9223372036854775808≤(i:Int)+1:=by omega
   have i0:(0:Int)≤i:=by omega
   simp (maxSteps:=10^6) only[hlt,c0,c1,o0,o1,hA,b1,b2,b3,b4,nx,nx0,i0,Dl,Cg,Db,undef,push_cast,↓Int.toNat_natCast,↓reduceIte,reduceCtorEq,Nat.reduceEqDiff,Nat.reduceLT,Nat.reduceLeDiff,Nat.reduceAdd,Int.reduceNeg]
   (repeat (refine And.intro (by first|omega|decide) ?_))
   refine Bd (i+1) [0,1,6,8] (by omega) (by omega) ?_
   simp (maxSteps:=10^6) only[hs,hs2,push_cast,↓reduceIte,reduceCtorEq,Nat.reduceEqDiff,Nat.reduceLT,Nat.reduceAdd]
   done
  ·obtain rfl:i=m.ps.l.length:=by omega
   have ht:=List.take_length (l:=m.ps.l)
   simp (maxSteps:=10^6) only[hlt,ht,push_cast,↓reduceIte,reduceCtorEq,Nat.reduceEqDiff,Nat.reduceLT,Nat.reduceAdd]
   (repeat (refine And.intro (by first|omega|decide) ?_))
   refine Fw rfl Aas rfl (Ab9 (l:=Dr m.ps.l) (by omega) (Fy rfl (fun _=>rfl)) (by simp (maxSteps:=10^6) only[push_cast,Nat.reduceLT,Nat.reduceAdd])) (Aa rfl) (by simp (maxSteps:=10^6) only[push_cast,Nat.reduceLT,Nat.reduceAdd]) ?_
   simp (maxSteps:=10^6) only[push_cast,↓reduceIte,Nat.reduceAdd]
   (repeat (refine And.intro (by first|omega|decide) ?_))
   refine Bk rfl R8 rfl (Wv (k0:=0) (k1:=1) (sv:=.x (.a (.o 4))) (vs:=(Ao (Dr m.ps.l)).map vU64) (b:=Bc (Ao (Dr m.ps.l))++Bl (Ao (Dr m.ps.l))) (by simp only[List.length_append] at hn ⊢;omega) (by decide) (by simp (maxSteps:=10^6) only[push_cast,Nat.reduceLT,Nat.reduceAdd]) rfl rfl (Wi _ rfl (fun _=>rfl) (by decide)) fun A c X w hc hw=>by
    rw[List.length_map]
    exact S4 _ A c (by omega) hw) (Aa rfl) (fun _=>by simp (maxSteps:=10^6) only[push_cast,Nat.reduceLT,Nat.reduceAdd]) ?_
   simp (maxSteps:=10^6) only[push_cast,↓reduceIte,reduceCtorEq,Nat.reduceEqDiff,Nat.reduceLT,Nat.reduceAdd]
   (repeat (refine And.intro (by first|omega|decide) ?_))
   refine Bk rfl R8 rfl (Wv (k0:=0) (k1:=6) (n:=n+(Bc (Ao (Dr m.ps.l))++Bl (Ao (Dr m.ps.l))).length) (sv:=.x (.a (.o 3))) (vs:=(Et m.ps.l).map vU64) (b:=Bc (Et m.ps.l)++Bl (Et m.ps.l)) (by simp only[List.length_append] at hn ⊢;omega) (by decide) (by simp (maxSteps:=10^6) only[push_cast,Nat.reduceLT,Nat.reduceAdd]) (by simp only[List.length_append,push_cast]) rfl (Wi _ rfl (fun _=>rfl) (by decide)) fun A c X w hc hw=>by
    rw[List.length_map]
    exact S4 _ A c (by omega) hw) (Aa rfl) (fun _=>by simp (maxSteps:=10^6) only[push_cast,Nat.reduceLT,Nat.reduceAdd]) ?_
   simp (maxSteps:=10^6) only[push_cast,↓reduceIte,Nat.reduceEqDiff,Nat.reduceLT,Nat.reduceAdd]
   refine Bp [0,8] ?_
   simp (maxSteps:=10^6) only[List.reverse_nil,List.nil_append,List.cons_append,Int.add_assoc,push_cast,↓reduceIte,reduceCtorEq,Nat.reduceLT,Nat.reduceAdd]
   done
 have g112:=Au (n:=112) h Jg
 have k112:=h
 clear h
 by_cases h:c=120
 ·have g120:=B0 (n:=120) h Kf
  rw[h,A6e] at hbs
  subst hbs
  simp only[List.flatten_cons,List.flatten_nil,List.append_nil,List.length_append] at hn
  simp (maxSteps:=10^6) only[g97,g111,g99,g103,g110,g115,g105,g118,g112,g120,fb,fl,f41,↓Ba,SlV.val,undef,push_cast,↓reduceIte,reduceCtorEq,Nat.reduceEqDiff,Nat.reduceLT,Nat.reduceAdd]
  (repeat (refine And.intro (by first|omega|decide) ?_))
  refine Bk rfl Aze rfl (Iy (k0:=0) (k1:=1) (args:=[.x (.a (.v (.slice m.xs.A m.xs.l.length m.xs.c)))]) (by simpa using hn) (by decide) (by simp (maxSteps:=10^6) only[fb,push_cast,Nat.reduceLT,Nat.reduceAdd]) rfl rfl (fun _ _=>rfl) fun γ w hS X hX=>A4s m.xs.l m.xs.A m.xs.c (by have:=hf.ok.xs.few;omega) (sub hf.xs hS hX)) (Aa rfl) (fun _=>by simp (maxSteps:=10^6) only[fb,push_cast,Nat.reduceLT,Nat.reduceAdd]) ?_
  simp (maxSteps:=10^6) only[↓Ak,push_cast,↓reduceIte,Nat.reduceEqDiff,Nat.reduceLT,Nat.reduceAdd]
  refine Bp [0,4] ?_
  simp (maxSteps:=10^6) only[List.reverse_nil,List.nil_append,List.cons_append,push_cast,↓reduceIte,reduceCtorEq,Nat.reduceLT,Nat.reduceAdd]
  done
 have g120:=Au (n:=120) h Kf
 have k120:=h
 clear h
 by_cases h:c=114
 ·have g114:=B0 (n:=114) h Lv
  rw[h,A6f] at hbs
  subst hbs
  simp only[List.flatten_cons,List.flatten_nil,List.append_nil] at hn
  simp (maxSteps:=10^6) only[g97,g111,g99,g103,g110,g115,g105,g118,g112,g120,g114,fb,fl,f42,↓Ba,undef,push_cast,↓reduceIte,reduceCtorEq,Nat.reduceEqDiff,Nat.reduceLT,Nat.reduceAdd]
  (repeat (refine And.intro (by first|omega|decide) ?_))
  refine Bk rfl Lk rfl (Iy (k0:=0) (k1:=1) (args:=[.x (.a (.v (vU64 (UInt64.ofInt m.re))))]) (by simpa using hn) (by decide) (by simp (maxSteps:=10^6) only[fb,push_cast,Nat.reduceLT,Nat.reduceAdd]) rfl rfl (fun _ _=>rfl) fun γ w hS X hX=>Ly (UInt64.ofInt m.re)) (Aa rfl) (fun _=>by simp (maxSteps:=10^6) only[fb,push_cast,Nat.reduceLT,Nat.reduceAdd]) ?_
  simp (maxSteps:=10^6) only[↓Ak,push_cast,↓reduceIte,Nat.reduceEqDiff,Nat.reduceLT,Nat.reduceAdd]
  refine Bp [0,4] ?_
  simp (maxSteps:=10^6) only[List.reverse_nil,List.nil_append,List.cons_append,push_cast,↓reduceIte,reduceCtorEq,Nat.reduceLT,Nat.reduceAdd]
  done
 have g114:=Au (n:=114) h Lv
 have k114:=h
 clear h
 exact absurd (hbs▸A6g m.mg k97 k111 k99 k103 k110 k115 k105 k118 k112 k120 k114) hy
end
end Go.Proofs.YtiaeollemmkclaaDoor
