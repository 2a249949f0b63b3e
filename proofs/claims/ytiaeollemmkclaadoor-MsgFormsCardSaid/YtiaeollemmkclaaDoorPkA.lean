import Derived.Test.YtiaeollemmkclaaDoorPk9
/- pack.Reader: Num, Nums, Bytes, Done; pack.Read; slices.Clone of bytes (layer 13). -/
namespace Go.Proofs.YtiaeollemmkclaaDoor
open Go.RowKit
set_option linter.unusedSimpArgs false
set_option linter.unusedVariables false
def S7 (sv1:Sv) (hp1:List Res) (sv:Sv) (hp:List Res):Prop:=Ka sv1 hp1 sv hp∨
 ∃hp0 e c,hp1=hp0++[.own e c]∧c.len=0∧sv1=.x (.a (.o hp0.length))∧Ka (.x (.a (.v (.slice none 0 0)))) hp0 sv hp
theorem A42 {sv1 sv:Sv} {hp1 hp:List Res} (ρ:List Nat) (h:Le ρ ⟨[(0,sv)],hp⟩ ⟨[(0,sv1)],hp1⟩):S7 sv1 hp1 sv hp:=.inl ⟨ρ,h⟩
theorem Acs {sv1 sv:Sv} {hp1 hp:List Res} (hp0:List Res) (e:TypeId) (c:Cont) (h1:hp1=hp0++[.own e c]) (h2:c.len=0) (h3:sv1=.x (.a (.o hp0.length))) (ρ:List Nat) (h:Le ρ ⟨[(0,sv)],hp⟩ ⟨[(0,.x (.a (.v (.slice none 0 0))))],hp0⟩):S7 sv1 hp1 sv hp:=.inr ⟨hp0,e,c,h1,h2,h3,ρ,h⟩
section
variable {P:Program} {w:World} {ow:Nat→Prop} {n:Nat} {γ:List Nm} {hp:List Res}
theorem A43 {f:FuncId} {fn:Func} {c:Code} (hf:P.funcs[f]?=some fn) (hb:fn.body=some c) (hn:fn.ntmps=n) (svs:List Sv) (hS:Sat w ow γ hp w) (hl:svs.length≤n) (sv1:Sv) (hp1:List Res)
  (h:Cp P w ow n c ⟨Hs 0 svs,hp⟩ (Fin P w ow fn.results.toList (S7 sv1 hp1))):Calls P f (svs.map (Sv.val γ)).toArray w fun e w'=>∃γ1,e=.returned (sv1.val γ1)∧Sat w ow γ1 hp1 w':=by
 have key:∀(γ':List Nm) (sv sv2:Sv) (hp' hp2:List Res) (w':World),Sat w ow γ' hp' w'→Ka sv2 hp2 sv hp'→∃γ1,sv.val γ'=sv2.val γ1∧Sat w ow γ1 hp2 w'∧∀r∈hp2,Res.bnd hp2.length r:=by
  rintro γ' sv sv2 hp' hp2 w' hS' ⟨ρ,h1,h2,h3,h4⟩
  obtain⟨hS2,hρ⟩:=hS'.sel h2 h3 h4.2
  refine⟨reγ ρ γ',?_,hS2,h4.2⟩
  have e:sv=sv2.ren ρ:=by
   have:=h1.1
   simp only[Fr.get,if_true,Option.some.injEq] at this
   exact this
  have hlen:ρ.length=hp2.length:=(I9 h2).1
  rw[Sv.re hρ (by rw[hlen];exact h4.1 (0,sv2) (List.mem_cons_self ..)),←e]
 refine J3 hf hb hn svs hS hl (S7 sv1 hp1) (fun γ' sv hp' w' hS' hE=>?_) h
 rcases hE with hE|⟨hp0,e,c,rfl,h2,rfl,hE⟩
 ·obtain⟨γ1,h1,h2,_⟩:=key γ' sv sv1 hp' hp1 w' hS' hE
  exact⟨γ1,by rw[h1],h2⟩
 ·obtain⟨γ1,h1,h3,hbr⟩:=key γ' sv _ hp' hp0 w' hS' hE
  have hl:=h3.len
  have hcv:c.vals (γ1++[Nm.s (.slice none 0 0)])=[]:=by
   rw[←List.length_eq_zero_iff,Cont.len_vals,h2]
  have h4:Sat w ow (γ1++[.s (.slice none 0 0)]) (hp0++[.own e c]) w':=by
   refine h3.push (X:=fun _=>False) (Keeps.refl _ _) (fun b h=>h.elim) hbr ⟨by rw[D2 hl,Bb hl],?_⟩ ?_
   ·rw[Bb hl,hcv]
    exact Own.nil_ _ _ _
   ·intro b hb
    simp only[Res.has,Bb hl,Value.ownBlock] at hb
    cases hb
  exact⟨_,by rw[h1];show _=Ending.returned (nmS _ _);rw[Bb hl];rfl,h4⟩
end
attribute [local irreducible] Af Ad Av Bh Bf A6 Aw A9
set_option maxRecDepth 100000 in
theorem A44 (l:List UInt8) (A:Option Addr) (c:Nat) (w:World) (hl:l.length≤10000000) (hR:RdV w w.heap.size A (l.map vU8)):Calls Tryd.prog 67 #[.slice A l.length c] w fun e w'=>∃v,e=.returned v∧Own w' w.heap.size 5 v (l.map vU8)∧Below w.heap.size w w':=by
 have F:=F8.of (FV.no hR)
 have e1:=F.rd
 have k1:=F.rdOk
 have h0:=fun h=>J4 (P:=Tryd.prog) (w:=w) (n:=8) Tryd.func67 rfl Tryd.ntmps67 [.x (.a (.v (.slice A l.length c)))] (by simp) 5 (.u8 l) (vs:=l.map vU8) (fun _=>rfl) h
 refine h0 ?_
 clear h0
 have b1:l.length≤140737488355328:=by omega
 have b2:l.length≤2 ^ 63 - 1:=by omega
 cases A with
 |none=>
  have hn:l=[]:=by
   cases l with
   |nil=>rfl
   |cons x r=>obtain⟨b,off,h,_⟩:=hR (by simp);cases h
  subst hn
  simp only[Ik,push_cast,↓reduceIte,reduceCtorEq,Nat.reduceLT]
 |some a=>
  simp only[e1,k1,b1,b2,Ik,push_cast,↓reduceIte,reduceCtorEq,Nat.reduceEqDiff,Nat.reduceLT,Nat.reduceLeDiff,Nat.reduceAdd]
section
variable {w0:World} {ow:Nat→Prop} {hp:List Res} {sv:Sv}
theorem A45 {l:List UInt8} (hl:l.length≤10000000) (h:Cx w0 ow hp sv (l.map vU8)) (hbr:∀r∈hp,Res.bnd hp.length r):Ad Tryd.prog w0 ow 67 [sv] hp (.x (.a (.o hp.length))) (hp++[.own 5 (.u8 l)]):=Jz hbr trivial fun γ w hS=>by
 obtain⟨A,c,e1,b1,r1⟩:=h γ w hS
 rw[List.length_map] at e1
 show Calls _ _ #[sv.val γ] w _
 rw[e1]
 exact A44 l A c w hl r1
end
section
variable {w0:World} {ow:Nat→Prop} {hp:List Res} {k0:Nat} {s:RS}
theorem A46 (many:Int) (each:Nat) (h0:0 < each) (he:each≤100) (hm:-9223372036854775808≤many∧many≤9223372036854775807) (hbr:∀r∈hp,Res.bnd hp.length r) (hk:B3 hp[k0]?=some (132,(.c [.v (.slice s.A s.l.length s.c),.v (.bool s.bad)]))) (hs:s.Far w0 ow hp k0):
  Ad Tryd.prog w0 ow 66 [.x (.a (.p k0 0)),.x (.a (.v (.int .i64 many))),.x (.a (.v (.int .i64 each)))] hp (rdV hp k0 [] (.t [.a (.v (.int .i64 (cntS many each s).1)),.a (.v (.bool (cntS many each s).2.1))])) (rdS hp k0 (cntS many each s).2.2 []):=
 S5 (args:=[.x (.a (.v (.int .i64 many))),.x (.a (.v (.int .i64 each)))]) hbr hk (by simp only[push_cast]) (by simp only[push_cast]) (fun _ _=>rfl) fun γ w hS X hX=>Acr many each h0 he hm (hs γ w hS X hX)
end
def Iv (most:UInt64):Nat→List UInt64→RS→List UInt64×RS
 |0,acc,s=>(acc,s)
 |n+1,acc,s=>if (numS most s).2.1=true then Iv most n (acc++[(numS most s).1]) (numS most s).2.2 else ([],RS.fail)
theorem Acu (most:UInt64):∀(n:Nat) (acc:List UInt64) (s:RS),((Iv most n acc s).1,(Iv most n acc s).2.rs)=De most n acc s.rs
 |0,acc,s=>rfl
 |n+1,acc,s=>by
  have h:=Pi most s
  have h1:=congrArg Prod.fst h
  have h2:=congrArg (fun x=>x.2.1) h
  have h3:=congrArg (fun x=>x.2.2) h
  dsimp only at h1 h2 h3
  rw[Iv,De,←h1,←h2,←h3]
  split
  ·exact Acu most n _ _
  ·rfl
theorem Acv {most:UInt64} {X:Nat→Prop} {w:World}:∀{n:Nat} {acc:List UInt64} {s:RS},s.Ok X w→(Iv most n acc s).2.Ok X w
 |0,_,_,h=>h
 |n+1,acc,s,h=>by
  rw[Iv]
  split
  ·exact Acv (Hh h)
  ·exact RS.Ok.fail
def Dd (many:Int) (most:UInt64) (s:RS):List UInt64×RS:=if (cntS many 1 s).2.1=true then Iv most (cntS many 1 s).1 [] (cntS many 1 s).2.2 else ([],RS.fail)
theorem Pk (many:Int) (most:UInt64) (s:RS):((Dd many most s).1,(Dd many most s).2.rs)=A5 many most s.rs:=by
 have h:=Acn many 1 s
 have h1:=congrArg Prod.fst h
 have h2:=congrArg (fun x=>x.2.1) h
 have h3:=congrArg (fun x=>x.2.2) h
 dsimp only at h1 h2 h3
 unfold Dd A5
 rw[←h1,←h2,←h3]
 split
 ·exact Acu most _ _ _
 ·rfl
theorem Jj {many:Int} {most:UInt64} {X:Nat→Prop} {w:World} {s:RS} (h:s.Ok X w):(Dd many most s).2.Ok X w:=by
 unfold Dd
 split
 ·exact Acv (Pj h)
 ·exact RS.Ok.fail
def Pm (many:Int) (s:RS):List UInt8×RS:=if (cntS many 1 s).2.1=true then ((cntS many 1 s).2.2.l.take (cntS many 1 s).1,(cntS many 1 s).2.2.cut (cntS many 1 s).1) else ([],RS.fail)
theorem Acw {many:Int} {X:Nat→Prop} {w:World} {s:RS} (h:s.Ok X w):(Pm many s).2.Ok X w:=by
 unfold Pm
 split
 ·exact (Pj h).cut _
 ·exact RS.Ok.fail
theorem A47 {P:Program} {w0:World} {ow:Nat→Prop} {t e t':TypeId} {hp:List Res} {k n c:Nat} {z l:List UInt8} {A:Option Addr} (hu:P.underlying t=some (.slice e)) (he:P.underlying e=some (.int .u8)) (hk:hp[k]?=some (.blk t' (.u8 z))) (hz:z.length=n) (hl:rd8 w0 A l.length=l) (hn:n≤l.length):
  Lx P w0 ow t hp (.x (.a (.s k 0 n n))) (.x (.a (.v (.slice A l.length c))))=some (Rd8 w0 ow A l.length∧0+n≤z.length∧sz P e=1,.x (.a (.v (.int .i64 n))),hp.set k (.blk t' (.u8 (l.take n)))):=by
 have h1:(Cont.u8 l).cut 0 n=some (.u8 (l.take n)):=by
  unfold Cont.cut
  split
  ·rename_i h
   have h2:n=l.length:=h.2
   rw[List.take_of_length_le (by omega)]
  ·rfl
 have h2:min l.length n=n:=Nat.min_eq_right hn
 have h3:(l.take n).length=n:=by rw[List.length_take];omega
 have h4:z.drop (0+n)=[]:=List.drop_of_length_le (by omega)
 simp only[Lx,hu,Kg,hk,Ku,he,hl,Cont.len,h2,h1,Cont.lay,h3,h4,List.take_zero,List.nil_append,List.append_nil,Res.with]
def Dn (s:RS):List UInt8×RS:=if s.l.length < 32 then (List.replicate 32 0,RS.fail) else (s.l.take 32,s.cut 32)
theorem A48 (s:RS):((Dn s).1,(Dn s).2.rs)=C9 s.rs:=by
 unfold Dn C9
 show _=if s.l.length < 32 then _ else _
 split<;>rfl
theorem Wn {X:Nat→Prop} {w:World} {s:RS} (h:s.Ok X w):(Dn s).2.Ok X w:=by
 unfold Dn
 split
 ·exact RS.Ok.fail
 ·exact h.cut _
section
variable {X:Nat→Prop} {w:World} {s:RS}
set_option maxRecDepth 100000 in
theorem Lz (most:UInt64) (hs:s.Ok X w):RdG 11 [.x (.a (.v (vU64 most)))] (.x (.a (.v (vU64 (numS most s).1)))) s (numS most s).2.2 [] X w:=fun g γ hS=>by
 have hXg:=Fk hS rfl
 refine Cy (n:=14) Tryd.func11 rfl Tryd.ntmps11 _ hS (by simp) _ _ ?_
 simp (maxSteps:=10^6) only[push_cast,↓reduceIte,reduceCtorEq,Nat.reduceEqDiff,Nat.reduceLT]
 (repeat (refine And.intro (by first|omega|decide) ?_))
 refine Bk rfl Vl rfl (Wm (k0:=0) (s:=s) most (by simp only[push_cast]) rfl (Fl hs rfl hXg)) (Aa rfl) (fun _=>by simp only[push_cast,Nat.reduceLT]) ?_
 simp (maxSteps:=10^6) only[push_cast,↓reduceIte,Nat.reduceEqDiff,Nat.reduceLT,Nat.reduceAdd]
 refine Bp [0] ?_
 simp (maxSteps:=10^6) only[push_cast,↓reduceIte]
set_option maxRecDepth 100000 in
set_option maxHeartbeats 1000000 in
theorem S8 (many:Int) (most:UInt64) (hm:-9223372036854775808≤many∧many≤9223372036854775807) (hs:s.Ok X w):
  RdG 12 [.x (.a (.v (.int .i64 many))),.x (.a (.v (vU64 most)))] (.x (.a (.o 1))) s (Dd many most s).2 [.own 27 (.u64 (Dd many most s).1)] X w:=fun g γ hS=>by
 have hXg:=Fk hS rfl
 refine A43 (n:=39) Tryd.func12 rfl Tryd.ntmps12 _ hS (by simp) _ _ ?_
 generalize hq:Dd many most s=q
 unfold Dd at hq
 simp (maxSteps:=10^6) only[push_cast,↓reduceIte,reduceCtorEq,Nat.reduceEqDiff,Nat.reduceLT,Nat.reduceAdd]
 (repeat (refine And.intro (by first|omega|decide) ?_))
 refine Bk rfl Azf rfl (A46 (k0:=0) (s:=s) many 1 (by decide) (by decide) hm (by simp only[push_cast]) rfl (Fl hs rfl hXg)) (Aa rfl) (fun _=>by simp only[push_cast,Nat.reduceLT]) ?_
 have hok:=Pj (many:=many) (each:=1) hs
 have hfl:=@Acq many 1 s
 have hle:=@Acp many 1 s
 generalize cntS many 1 s=t at*
 obtain⟨m,ok,t⟩:=t
 dsimp only at hq hok hfl hle
 cases ok with
 |false=>
  have hfl:=hfl (by decide)
  injection hfl with _ h2
  injection h2 with _ h2
  subst h2
  rw[if_neg (by decide)] at hq
  subst hq
  simp (maxSteps:=10^6) only[push_cast,↓reduceIte,Nat.reduceEqDiff,Nat.reduceLT,Nat.reduceAdd]
  refine Acs [.pin g 132 (.c [.v (.slice RS.fail.A RS.fail.l.length RS.fail.c),.v (.bool RS.fail.bad)])] 27 (.u64 []) rfl rfl rfl [0] ?_
  simp (maxSteps:=10^6) only[push_cast,↓reduceIte]
 |true=>
  rw[if_pos rfl] at hq
  have hle:=hle rfl
  have hmax:=hok.max
  rw[Nat.div_one] at hle
  have m1:(m:Int)≤2 ^ 63 - 1:=by omega
  have m2:(0:Int)≤m:=by omega
  have m3:(m:Int)*8≤140737488355328:=by omega
  have m4:m*8≤140737488355328:=by omega
  simp (maxSteps:=10^6) only[m2,List.replicate_zero,push_cast,↓Int.cast_ofNat_Int,Int.cast_ofNat_Int,↓reduceIte,Nat.reduceEqDiff,Nat.reduceLT,Nat.reduceAdd,Int.reduceLE]
  refine⟨by omega,?_⟩
  refine Bu (ι:=Nat×List UInt64×RS) (fun y=>⟨[(0,.x (.a (.p 0 0))),(2,.x (.a (.v (vU64 most)))),(9,.x (.a (.o 1))),(22,.x (.a (.v (.int .i64 m)))),(23,.x (.a (.v (.int .i64 y.1))))],[.pin g 132 (.c [.v (.slice y.2.2.A y.2.2.l.length y.2.2.c),.v (.bool y.2.2.bad)]),.own 27 (.u64 y.2.1)]⟩)
   (fun y=>y.1≤m∧y.2.1.length=y.1∧Iv most (m - y.1) y.2.1 y.2.2=q∧y.2.2.Ok X w) (fun y=>m - y.1) (0,[],t) [0,2] ⟨by omega,rfl,hq,hok⟩ ?_ ?_
  ·simp (maxSteps:=10^6) only[push_cast,↓Int.cast_ofNat_Int,Int.cast_ofNat_Int,↓reduceIte,reduceCtorEq,Nat.reduceEqDiff,Nat.reduceLT,Nat.reduceAdd]
   done
  rintro⟨i,acc,u⟩ ⟨hi,hal,hu,huk⟩
  dsimp only at hi hal hu huk
  by_cases hlt:(i:Int) < m
  ·simp (maxSteps:=10^6) only[hlt,push_cast,↓reduceIte,reduceCtorEq,Nat.reduceEqDiff,Nat.reduceLT,Nat.reduceAdd]
   (repeat (refine And.intro (by first|omega|decide) ?_))
   refine Bk rfl Vl rfl (Wm (k0:=0) (s:=u) most (by simp only[push_cast,Nat.reduceAdd]) rfl (Fl huk rfl hXg)) (Aa rfl) (fun _=>by simp only[push_cast,Nat.reduceLT,Nat.reduceAdd]) ?_
   rw[show m - i=(m - (i+1))+1 by omega,Iv] at hu
   have hvk:=Hh (most:=most) huk
   have hfl:=@Aco most u
   generalize numS most u=z at*
   obtain⟨v,ok,z⟩:=z
   dsimp only at hu hvk hfl
   cases ok with
   |false=>
    have hfl:=hfl (by decide)
    injection hfl with _ h2
    injection h2 with _ h2
    subst h2
    rw[if_neg (by decide)] at hu
    subst hu
    simp (maxSteps:=10^6) only[push_cast,↓reduceIte,Nat.reduceEqDiff,Nat.reduceLT,Nat.reduceAdd]
    refine Acs [.pin g 132 (.c [.v (.slice RS.fail.A RS.fail.l.length RS.fail.c),.v (.bool RS.fail.bad)])] 27 (.u64 []) rfl rfl rfl [0] ?_
    simp (maxSteps:=10^6) only[push_cast,↓reduceIte]
    done
   |true=>
    rw[if_pos rfl] at hu
    have b1:(acc.length+1)*8≤140737488355328:=by omega
    have b2:acc.length+1≤2 ^ 63 - 1:=by omega
    simp (maxSteps:=10^6) only[b1,b2,push_cast,↓reduceIte,reduceCtorEq,Nat.reduceEqDiff,Nat.reduceLT,Nat.reduceLeDiff,Nat.reduceAdd,Int.reduceNeg]
    (repeat (refine And.intro (by first|omega|decide) ?_))
    refine Bd (i+1,acc++[v],z) [0,4] ⟨by show i+1≤m;omega,by simp [hal],hu,hvk⟩ (by show m - (i+1) < m - i;omega) ?_
    simp (maxSteps:=10^6) only[push_cast,↓reduceIte,reduceCtorEq,Nat.reduceEqDiff,Nat.reduceLT,Nat.reduceAdd]
    done
  ·obtain rfl:i=m:=by omega
   rw[Nat.sub_self,Iv] at hu
   subst hu
   simp (maxSteps:=10^6) only[hlt,push_cast,↓reduceIte,reduceCtorEq,Nat.reduceEqDiff,Nat.reduceLT,Nat.reduceAdd]
   refine A42 [0,1] ?_
   simp (maxSteps:=10^6) only[push_cast,↓reduceIte,reduceCtorEq,Nat.reduceLT,Nat.reduceAdd]
set_option maxRecDepth 100000 in
set_option maxHeartbeats 1000000 in
theorem A49 (hs:s.Ok X w):RdG 15 [] (.x (.a8 (Dn s).1)) s (Dn s).2 [] X w:=fun g γ hS=>by
 have hXg:=Fk hS rfl
 have hmax:=hs.max
 have hlen:=hs.len
 refine Cy (n:=33) Tryd.func15 rfl Tryd.ntmps15 _ hS (by simp) _ _ ?_
 generalize hq:Dn s=q
 unfold Dn at hq
 by_cases h:s.l.length < 32
 ·rw[if_pos h] at hq
  subst hq
  have h':(s.l.length:Int) < 32:=by omega
  simp (maxSteps:=10^6) only[h',undef,push_cast,↓reduceIte,reduceCtorEq,Nat.reduceLT,Nat.reduceAdd]
  (repeat (refine And.intro (by first|omega|decide) ?_))
  refine Bk rfl R9 rfl (S6 (k0:=0) (s:=s) (by simp only[push_cast,Nat.reduceAdd]) rfl) (Aa rfl) (fun _=>by simp only[push_cast,Nat.reduceLT,Nat.reduceAdd]) ?_
  simp (maxSteps:=10^6) only[undef,push_cast,↓reduceIte,Nat.reduceEqDiff,Nat.reduceLT,Nat.reduceAdd]
  refine Bp [0] ?_
  simp (maxSteps:=10^6) only[push_cast,↓reduceIte]
  done
 ·rw[if_neg h] at hq
  subst hq
  have h':¬(s.l.length:Int) < 32:=by omega
  have F:=F8.of hs.fw.fv
  have hrd:=F.rd
  have hrdo:=F.rdOk
  simp (maxSteps:=10^6) only[h',undef,push_cast,↓reduceIte,reduceCtorEq,Nat.reduceLT,Nat.reduceAdd]
  (repeat (refine And.intro (by first|omega|decide) ?_))
  refine Aae 5 [(0,true),(1,true),(2,true),(3,true),(4,true)] (by kernel_rfl) (by kernel_rfl) ?_
  simp (maxSteps:=10^6) only[undef,push_cast,↓Int.cast_ofNat_Int,Int.cast_ofNat_Int,↓reduceIte,reduceCtorEq,Nat.reduceEqDiff,Nat.reduceLT,Nat.reduceAdd,Nat.reduceSub,Int.reduceLE,Int.reduceLT,Int.reduceToNat]
  (repeat (refine And.intro (by first|omega|decide) ?_))
  have n1:min s.l.length 32=32:=by omega
  have n2:(32:Int)≤s.l.length:=by omega
  have n3:(s.l.length:Int)≤s.c:=by omega
  have n4:(32:Int)≤s.c:=by omega
  have hz:List.drop 32 (List.replicate 32 (0:UInt8))=[]:=rfl
  have hl32:(s.l.take 32).length=32:=by rw[List.length_take];omega
  have hd:(s.l.drop 32).length=s.l.length - 32:=List.length_drop ..
  have hcp:=A47 (P:=Tryd.prog) (w0:=w) (ow:=X) (t:=23) (e:=5) (hp:=[.pin g 132 (.c [.v (.slice s.A s.l.length s.c),.v (.bool s.bad)]),.blk 29 (.u8 (List.replicate 32 0)),.blk 29 (.u8 (List.replicate 32 0))]) (k:=2) (t':=29) (z:=List.replicate 32 0) (n:=32) (A:=s.A) (l:=s.l) (c:=s.c) Tryd.underlying23 Tryd.underlying5 rfl rfl hrd (by omega)
  refine Wf rfl rfl rfl hcp ?_ (Aa rfl) (by simp only[push_cast,Nat.reduceLT,Nat.reduceAdd]) ?_
  ·simp (maxSteps:=10^6) only[hrdo,push_cast]
   done
  simp (maxSteps:=10^6) only[n2,n3,hl32,undef,push_cast,↓Int.toNat_natCast,↓Int.cast_ofNat_Int,Int.cast_ofNat_Int,↓reduceIte,reduceCtorEq,Nat.reduceEqDiff,Nat.reduceLT,Nat.reduceAdd,Int.reduceLE,Int.reduceToNat]
  refine Bp [0] ?_
  simp (maxSteps:=10^6) only[RS.cut,hd,push_cast,↓reduceIte]
set_option maxRecDepth 100000 in
theorem A5a {B:Option Addr} (hl:s.l.length≤10000000) (h1:B.isSome=true) (h2:B.isNone=false) (h3:B2 w B=.slice s.A s.l.length s.c) (h4:C8 w No B) (h5:B2 w (Ar B 1)=.bool s.bad) (h6:C8 w No (Ar B 1)):
  Calls Tryd.prog 17 #[.pointer B] w fun e w'=>e=.returned (if s.bad=false∧s.l=[] then .nilIface else .iface 137 (.int .i64 3))∧Below w.heap.size w w':=by
 refine By (n:=20) Tryd.func17 rfl Tryd.ntmps17 [.x (.a (.v (.pointer B)))] (by simp) (.x (.a (.v (if s.bad=false∧s.l=[] then .nilIface else .iface 137 (.int .i64 3))))) (fun _=>rfl) ?_
 cases hb:s.bad
 ·rw[hb] at h5
  by_cases hn:s.l=[]
  ·rw[hn] at h3
   simp (maxSteps:=10^6) only[h1,h2,h3,h4,h5,h6,hn,Cg,push_cast,↓Int.cast_ofNat_Int,Int.cast_ofNat_Int,↓reduceIte,reduceCtorEq,Nat.reduceEqDiff,Nat.reduceLT,Int.reduceLT]
   done
  ·have hp:(0:Int) < s.l.length:=by have:=List.length_pos_iff.2 hn;omega
   simp (maxSteps:=10^6) only[h1,h2,h3,h4,h5,h6,hn,hp,Cg,push_cast,↓reduceIte,reduceCtorEq,Nat.reduceEqDiff,Nat.reduceLT]
   done
 ·rw[hb] at h5
  simp (maxSteps:=10^6) only[h1,h2,h5,h6,undef,push_cast,↓reduceIte,reduceCtorEq,Nat.reduceEqDiff,Nat.reduceLT]
  simp
end
end Go.Proofs.YtiaeollemmkclaaDoor
