import Derived.Test.YtiaeollemmkclaaDoorPk3
/- varint.Get: the number at the beginning of bytes (layer 11). -/
namespace Go.Proofs.YtiaeollemmkclaaDoor
open Go.RowKit
set_option linter.unusedSimpArgs false
set_option linter.unusedVariables false
def Gy (bs:List UInt8):List Sc:=match B9 bs with
 |some (v,n)=>[.a (.v (vU64 v)),.a (.v (.int .i64 n)),.a (.v .nilIface)]
 |none=>[.a (.v (.int .u64 0)),.a (.v (.int .i64 0)),.a (.v (.iface 137 (.int .i64 3)))]
theorem A4l:Gy []=[.a (.v (.int .u64 0)),.a (.v (.int .i64 0)),.a (.v (.iface 137 (.int .i64 3)))]:=rfl
theorem S1 {bs:List UInt8} (h:B9 bs=none):Gy bs=[.a (.v (.int .u64 0)),.a (.v (.int .i64 0)),.a (.v (.iface 137 (.int .i64 3)))]:=by unfold Gy;rw[h]
theorem Wk {bs:List UInt8} {v:UInt64} {n:Nat} (h:B9 bs=some (v,n)):Gy bs=[.a (.v (vU64 v)),.a (.v (.int .i64 n)),.a (.v .nilIface)]:=by unfold Gy;rw[h]
theorem Ack (bs:List UInt8) (γ:List Nm):(Sv.t (Gy bs)).val γ=(Sv.t (Gy bs)).val []:=by
 unfold Gy
 split<;>rfl
theorem Wl {x y:UInt8}:x < y↔x.toNat < y.toNat:=UInt8.lt_iff_toNat_lt
theorem Acl:vU64 0=.int .u64 0:=rfl
attribute [local irreducible] Af Ad Av Bh Bf A6 Aw A9
attribute [local irreducible] Gy fbV
set_option maxRecDepth 100000 in
set_option maxHeartbeats 1000000 in
theorem A4m (bs:List UInt8) (A:Option Addr) (c:Nat) (w:World) (hc:bs.length≤c) (hR:RdV w w.heap.size A (bs.map vU8)):
  Calls Tryd.prog 111 #[.slice A bs.length c] w fun e w'=>e=.returned ((Sv.t (Gy bs)).val [])∧Below w.heap.size w w':=by
 have F:=FM.of (f:=vU8) hR
 refine By (n:=57) Tryd.func111 rfl Tryd.ntmps111 [.x (.a (.v (.slice A bs.length c)))] (by simp) (.t (Gy bs)) (Ack bs) ?_
 rcases bs with _|⟨x,t⟩
 ·simp (maxSteps:=10^6) only[A4l,push_cast,↓Int.cast_ofNat_Int,Int.cast_ofNat_Int,↓reduceIte,reduceCtorEq,Nat.reduceEqDiff,Nat.reduceLT]
  done
 have c0:=F.cell 0 (by simp)
 have o0:=F.ok 0 (by simp)
 have hA:=F.some_ (by simp)
 have hx:ix (x::t) 0=x:=rfl
 rw[hx] at c0
 rw[Cg] at c0 o0
 have l0:¬((t.length:Int)+1=0):=by omega
 have l1:(0:Int) < (t.length:Int)+1:=by omega
 by_cases h1:x < 248
 ·have hg:=Wk (bs:=x::t) (v:=x.toUInt64) (n:=1) (by simp only[B9,if_pos h1])
  simp (maxSteps:=10^6) only[c0,o0,hA,l0,l1,h1,hg,Cg,push_cast,↓Int.cast_ofNat_Int,Int.cast_ofNat_Int,↓reduceIte,reduceCtorEq,Nat.reduceEqDiff,Nat.reduceLT,Int.reduceLE]
  done
 have hx8:248≤x.toNat:=Nat.not_lt.1 fun h=>h1 (Wl.2 h)
 have hxl:=x.toNat_lt
 have hxn:(n8 x:Int)=(x.toNat:Int):=rfl
 have hc':t.length+1≤c:=by simpa using hc
 by_cases h2:(t.length:Int)+1 < 1+n8 x - 247
 ·have hg:=S1 (bs:=x::t) (by simp only[B9,if_neg h1];rw[if_pos (.inl (by omega))])
  simp (maxSteps:=10^6) only[c0,o0,hA,l0,l1,h1,h2,hg,Cg,undef,push_cast,↓reduceIte,reduceCtorEq,Nat.reduceEqDiff,Nat.reduceLT,Int.reduceNeg,Int.reduceLE]
  all_goals omega
 have l2:(1:Int) < (t.length:Int)+1:=by omega
 have c1:=F.cell 1 (by simp;omega)
 have o1:=F.ok 1 (by simp;omega)
 have hx1:ix (x::t) 1=ix t 0:=rfl
 rw[hx1] at c1
 have q0:(-9223372036854775808:Int)≤1+n8 x∧1+n8 x≤9223372036854775807∧(-9223372036854775808:Int)≤1+n8 x - 247∧1+n8 x - 247≤9223372036854775807:=by omega
 obtain⟨q1,q2,q3,q4⟩:=q0
 by_cases h3:ix t 0=0
 ·have hg:=S1 (bs:=x::t) (by simp only[B9,if_neg h1];rw[if_pos (.inr h3)])
  simp (maxSteps:=10^6) only[c0,o0,hA,l0,l1,l2,c1,o1,q1,q2,q3,q4,h1,h2,h3,hg,Cg,push_cast,↓reduceIte,reduceCtorEq,Nat.reduceEqDiff,Nat.reduceLT,Int.reduceNeg,Int.reduceLE,Int.reduceToNat]
  all_goals omega
 have hk:1+n8 x - 247=((x.toNat - 246:Nat):Int):=by omega
 have e1:(1:Int)≤((x.toNat - 246:Nat):Int):=by omega
 have e2:((x.toNat - 246:Nat):Int)≤c:=by omega
 have hcut:Ch A 1 c=Ar A 1:=if_neg (by omega)
 have h2':¬((t.length:Int)+1 < ((x.toNat - 246:Nat):Int)):=by omega
 obtain⟨k,hkx⟩:∃k,k=x.toNat - 247:=⟨_,rfl⟩
 have hk2:x.toNat - 246=k+1:=by omega
 have hk8:1≤k∧k≤8∧k≤t.length:=by omega
 rw[hk2] at hk e1 e2 h2'
 push_cast at hk e1 e2 h2'
 simp (maxSteps:=10^6) only[c0,o0,hA,l0,l1,l2,c1,o1,q1,q2,h1,h2',h3,hk,e1,e2,hcut,Cg,push_cast,↓reduceIte,reduceCtorEq,Nat.reduceEqDiff,Nat.reduceLT,Int.reduceNeg,Int.reduceLE,Int.reduceToNat]
 have hkk:((k:Int)+1).toNat - 1=k:=by omega
 have hcx:(-9223372036854775808:Int)≤(k:Int)+1∧(k:Int)+1≤9223372036854775807:=by omega
 rw[hkk]
 refine⟨hcx,?_⟩
 have hS:∀i,i < k→B2 w (Ar (Ar A 1) i)=vU8 (ix t i)∧C8 w No (Ar (Ar A 1) i):=fun i hi=>by
  have hxi:ix (x::t) (1+i)=ix t i:=by rw[Nat.add_comm];rfl
  rw[Dl,←hxi]
  exact⟨F.cell (1+i) (by simp;omega),F.ok (1+i) (by simp;omega)⟩
 refine Bu (ι:=Nat) (fun i=>⟨[(5,.x (.a (.v (.int .i64 ((k:Int)+1))))),(6,.x (.a (.v (vU64 (UInt64.ofNat (fbV (t.take i))))))),(40,.x (.a (.v (.slice (Ar A 1) k (c - 1))))),(41,.x (.a (.v (.int .i64 (k:Int))))),(42,.x (.a (.v (.int .i64 (i:Int)))))],[]⟩) (fun i=>i≤k) (fun i=>k - i) 0 [] (by omega) ?_ ?_
 ·simp (maxSteps:=10^6) only[List.take_zero,Aa7,push_cast,↓Int.cast_ofNat_Int,Int.cast_ofNat_Int,↓reduceIte,Nat.reduceEqDiff]
  rfl
 intro i hi
 by_cases hlt:(i:Int) < k
 ·have i0:(0:Int)≤i:=by omega
  obtain⟨d0,d1⟩:=hS i (by omega)
  have hAs:(Ar A 1).isSome=true:=by rw[Db];exact hA
  have hf:=Vt (t.take i)
  have hti:(t.take i).length=i:=by rw[List.length_take];omega
  rw[hti] at hf
  have hf7:fbV (t.take i) < 2 ^ 56:=Nat.lt_of_lt_of_le hf (Nat.le_trans (Nat.pow_le_pow_right (by decide) (by omega:i≤7)) (by decide))
  have hfv:(UInt64.ofNat (fbV (t.take i))).toNat=fbV (t.take i):=by rw[UInt64.toNat_ofNat'];omega
  have hsh:=A31 (UInt64.ofNat (fbV (t.take i))) (ix t i) (by rw[hfv];exact hf7)
  have htk:t.take (i+1)=t.take i++[ix t i]:=by
   rw[List.take_add_one,ix,List.getD_eq_getElem?_getD,List.getElem?_eq_getElem (by omega)]
   rfl
  rw[hfv,←O2,←htk] at hsh
  simp (maxSteps:=10^6) only[hlt,i0,d0,d1,hAs,hsh,push_cast,↓Int.toNat_natCast,↓reduceIte,reduceCtorEq,Nat.reduceEqDiff,Nat.reduceLT,Int.reduceNeg,Int.reduceLE,Int.reduceToNat]
  (repeat (refine And.intro (by first|omega|decide) ?_))
  refine Bd (i+1) [] (by omega) (by omega) ?_
  simp (maxSteps:=10^6) only[push_cast,↓reduceIte,Nat.reduceEqDiff]
  done
 ·obtain rfl:i=k:=by omega
  have hgg:B9 (x::t)=if fbV (t.take i) < 248 then none else some (UInt64.ofNat (fbV (t.take i)),i+1):=by
   simp only[B9,if_neg h1]
   rw[if_neg (by
           rintro (h|h)
           ·omega
           ·exact h3 h),←hkx,hk2]
  have hf:=Vt (t.take i)
  have hti:(t.take i).length=i:=by rw[List.length_take];omega
  rw[hti] at hf
  have hf8:fbV (t.take i) < 2 ^ 64:=Nat.lt_of_lt_of_le hf (Nat.le_trans (Nat.pow_le_pow_right (by decide) hk8.2.1) (by decide))
  have hfv:(UInt64.ofNat (fbV (t.take i))).toNat=fbV (t.take i):=by rw[UInt64.toNat_ofNat'];omega
  by_cases h4:fbV (t.take i) < 248
  ·have g4:UInt64.ofNat (fbV (t.take i)) < 248:=by rw[UInt64.lt_iff_toNat_lt,hfv];exact h4
   have hg:=S1 (bs:=x::t) (by rw[hgg,if_pos h4])
   simp (maxSteps:=10^6) only[hlt,g4,hg,push_cast,↓reduceIte,Nat.reduceEqDiff,Nat.reduceLT]
   done
  ·have g4:¬UInt64.ofNat (fbV (t.take i)) < 248:=by rw[UInt64.lt_iff_toNat_lt,hfv];exact h4
   have hg:=Wk (bs:=x::t) (by rw[hgg,if_neg h4])
   simp (maxSteps:=10^6) only[hlt,g4,hg,push_cast,↓reduceIte,Nat.reduceEqDiff,Nat.reduceLT]
   done
theorem A4n {w0:World} {ow:Nat→Prop} {hp:List Res} {sv:Sv} (bs:List UInt8) (h:Cx w0 ow hp sv (bs.map vU8)):Ad Tryd.prog w0 ow 111 [sv] hp (.t (Gy bs)) hp:=Ca fun γ w hS=>by
 obtain⟨A,c,e1,b1,r1⟩:=h γ w hS
 rw[List.length_map] at e1 b1
 show Calls _ _ #[sv.val γ] w _
 rw[e1,Ack bs γ]
 exact A4m bs A c w b1 r1
end Go.Proofs.YtiaeollemmkclaaDoor
/- pack.Writer: a field more (layer 13). -/
namespace Go.Proofs.YtiaeollemmkclaaDoor
open Go.RowKit
set_option linter.unusedSimpArgs false
set_option linter.unusedVariables false
attribute [local irreducible] Af Ad Av Bh Bf A6 Aw A9
attribute [local irreducible] Al dgV nb8
set_option maxRecDepth 100000 in
theorem A4o {r:List (List UInt8)} {n:Nat} {b:List UInt8} {X:Nat→Prop} {γ:List Nm} {w:World} (g:Nat) (hn:n+b.length≤1000000000) (hS:Sat w X γ [.pin g 47 (.c [.o 1,.v (.int .i64 (n:Int))]),.abs (ChR 125 r),.own 5 (.u8 b)] w):
  Calls Tryd.prog 109 (List.map (Sv.val γ) [.x (.a (.p 0 0)),.x (.a (.o 2))]).toArray w fun e w'=>∃γ1,e=.returned ((Sv.t []).val γ1)∧Sat w X γ1 [.pin g 47 (.c [.o 1,.v (.int .i64 ((n+b.length:Nat):Int))]),.abs (ChR 125 (b::r))] w':=by
 refine (Cy (n:=25) Tryd.func109 rfl Tryd.ntmps109 _ hS (by simp) (.t []) [.pin g 47 (.c [.p 3 0,.v (.int .i64 ((n+b.length:Nat):Int))]),.abs (ChR 125 r),.own 5 (.u8 b),.blk 125 (.c [.o 1,.o 2])] ?_).mono ?_
 ·simp (maxSteps:=10^6) only[undef,push_cast,↓reduceIte,reduceCtorEq,Nat.reduceEqDiff,Nat.reduceLT,Nat.reduceAdd,Int.reduceNeg]
  refine⟨by omega,Bp [0,1,2,3] ?_⟩
  simp (maxSteps:=10^6) only[push_cast,↓reduceIte,reduceCtorEq,Nat.reduceEqDiff,Nat.reduceLT,Nat.reduceAdd]
 ·rintro e w' ⟨γ1,he,h1⟩
  obtain⟨γ2,h2⟩:=h1.chain
  exact⟨γ2,by rw[he];rfl,h2⟩
def wrS (hp:List Res) (k0:Nat) (ks:List Nat) (r:List (List UInt8)) (n:Nat) (b:List UInt8):List Res:=
 Eo (hp.length+0) k0 (bput hp[k0]? 47 (Cont.ren (A7 hp.length 2) (.c [.o 1,.v (.int .i64 ((n+b.length:Nat):Int))]))) (goneAll ks hp++[Res.pin 0 47 (.c [.o 1,.v (.int .i64 ((n+b.length:Nat):Int))]),.abs (ChR 125 (b::r))].map (Res.ren (A7 hp.length 2)))
section
variable {w0:World} {ow:Nat→Prop} {hp:List Res} {k0 k1 k2 n:Nat} {r:List (List UInt8)} {b:List UInt8} {f:FuncId} {svs:List Sv}
theorem Acm (hn1:k0≠k1) (hbr:∀r∈hp,Res.bnd hp.length r) (hk:B3 hp[k0]?=some (47,.c [.o k1,.v (.int .i64 (n:Int))])) (h1:hp[k1]?=some (.abs (ChR 125 r)))
  (h:∀γ w,Sat w0 ow γ hp w→∀(X:Nat→Prop),(∀b,X b→∃(k:Nat) (r:Res),k∈[k0,k1]∧hp[k]?=some r∧r.has γ k b)→∀(γ0:List Nm) (g:Nat),Sat w X γ0 [.pin g 47 (.c [.o 1,.v (.int .i64 (n:Int))]),.abs (ChR 125 r)] w→(Sv.x (.a (.p 0 0))).val γ0=(Sv.x (.a (.p k0 0))).val γ→
   Calls Tryd.prog f (List.map (Sv.val γ) svs).toArray w fun e w'=>∃γ1,e=.returned ((Sv.t []).val γ1)∧Sat w X γ1 [.pin g 47 (.c [.o 1,.v (.int .i64 ((n+b.length:Nat):Int))]),.abs (ChR 125 (b::r))] w'):
  Ad Tryd.prog w0 ow f svs hp (.t []) (wrS hp k0 [k0,k1] r n b):=by
 have:=Se (P:=Tryd.prog) (w0:=w0) (ow:=ow) (f:=f) (svs:=svs) (hp:=hp) (sv1:=.t []) [k0,k1] 0 k0 (c:=.c [.o k1,.v (.int .i64 (n:Int))]) (c1:=.c [.o 1,.v (.int .i64 ((n+b.length:Nat):Int))])
  (fun g=>[.pin g 47 (.c [.o 1,.v (.int .i64 ((n+b.length:Nat):Int))]),.abs (ChR 125 (b::r))]) (by simp) hk (fun _=>rfl) (fun _=>rfl) hbr (fun _=>by simp only[push_cast,Nat.reduceLT,Nat.reduceAdd]) (by simp only[push_cast,Nat.reduceAdd])
  (fun g=>Sy (by rw[J9];rfl)) fun γ w hS=>by
  obtain⟨g1,g2,g3⟩:=hS.hand (k:=k0) (ρ:=[k0,k1]) (hp0:=[.pin (nmB γ k0) 47 (.c [.o 1,.v (.int .i64 (n:Int))]),.abs (ChR 125 r)]) hk
   ⟨by rw[List.getElem?_set_self (by
      obtain⟨_,_,r0,hr0,_⟩:=hS.bv hk
      exact B8 hr0)];rfl,by rw[List.getElem?_set_ne hn1,h1];rfl,trivial⟩ ⟨⟨hn1.symm,trivial⟩,trivial,trivial⟩ (by simp only[push_cast,Nat.reduceLT,Nat.reduceAdd])
  exact⟨_,g2,h γ w hS _ g2 _ _ g1 (g3 (.x (.a (.p 0 0))) (by show (0:Nat) < 2;omega))⟩
 exact this
theorem S2 (hn:n+b.length≤1000000000) (hn1:k0≠k1) (hn2:k0≠k2) (hn3:k1≠k2) (hbr:∀r∈hp,Res.bnd hp.length r) (hk:B3 hp[k0]?=some (47,.c [.o k1,.v (.int .i64 (n:Int))])) (h1:hp[k1]?=some (.abs (ChR 125 r))) (h2:hp[k2]?=some (.own 5 (.u8 b))):
  Ad Tryd.prog w0 ow 109 [.x (.a (.p k0 0)),.x (.a (.o k2))] hp (.t []) (wrS hp k0 [k0,k1,k2] r n b):=by
 have:=Se (P:=Tryd.prog) (w0:=w0) (ow:=ow) (f:=109) (svs:=[.x (.a (.p k0 0)),.x (.a (.o k2))]) (hp:=hp) (sv1:=.t []) [k0,k1,k2] 0 k0 (c:=.c [.o k1,.v (.int .i64 (n:Int))]) (c1:=.c [.o 1,.v (.int .i64 ((n+b.length:Nat):Int))])
  (fun g=>[.pin g 47 (.c [.o 1,.v (.int .i64 ((n+b.length:Nat):Int))]),.abs (ChR 125 (b::r))]) (by simp) hk (fun _=>rfl) (fun _=>rfl) hbr (fun _=>by simp only[push_cast,Nat.reduceLT,Nat.reduceAdd]) (by simp only[push_cast,Nat.reduceAdd])
  (fun g=>Sy (by rw[J9];rfl)) fun γ w hS=>by
  obtain⟨g1,g2,g3⟩:=hS.hand (k:=k0) (ρ:=[k0,k1,k2]) (hp0:=[.pin (nmB γ k0) 47 (.c [.o 1,.v (.int .i64 (n:Int))]),.abs (ChR 125 r),.own 5 (.u8 b)]) hk
   ⟨by rw[List.getElem?_set_self (by
      obtain⟨_,_,r0,hr0,_⟩:=hS.bv hk
      exact B8 hr0)];rfl,by rw[List.getElem?_set_ne hn1,h1];rfl,by rw[List.getElem?_set_ne hn2,h2];rfl,trivial⟩ ⟨⟨hn1.symm,hn2.symm,trivial⟩,⟨hn3.symm,trivial⟩,trivial,trivial⟩ (by simp only[push_cast,Nat.reduceLT,Nat.reduceAdd])
  refine⟨_,g2,?_⟩
  have:=A4o (nmB γ k0) hn g1
  rw[show List.map (Sv.val (reγ [k0,k1,k2] γ)) [.x (.a (.p 0 0)),.x (.a (.o 2))]=List.map (Sv.val γ) [.x (.a (.p k0 0)),.x (.a (.o k2))] from by
   simp only[List.map_cons,List.map_nil];rw[g3 (.x (.a (.p 0 0))) (by show (0:Nat) < 3;omega),g3 (.x (.a (.o 2))) (by show (2:Nat) < 3;omega)];rfl] at this
  exact this
 exact this
end
attribute [push_cast] wrS
end Go.Proofs.YtiaeollemmkclaaDoor
/- pack.Writer: Num, Nums, Bytes, Sum, Row, each a field more (layer 13). -/
namespace Go.Proofs.YtiaeollemmkclaaDoor
open Go.RowKit
set_option linter.unusedSimpArgs false
set_option linter.unusedVariables false
def WrG (f:FuncId) (args:List Sv) (b:List UInt8) (X:Nat→Prop) (w:World):Prop:=∀(r:List (List UInt8)) (n g:Nat) (γ:List Nm),n+b.length≤1000000000→Sat w X γ [.pin g 47 (.c [.o 1,.v (.int .i64 (n:Int))]),.abs (ChR 125 r)] w→
 Calls Tryd.prog f (List.map (Sv.val γ) (.x (.a (.p 0 0))::args)).toArray w fun e w'=>∃γ1,e=.returned ((Sv.t []).val γ1)∧Sat w X γ1 [.pin g 47 (.c [.o 1,.v (.int .i64 ((n+b.length:Nat):Int))]),.abs (ChR 125 (b::r))] w'
theorem A4p (l:List UInt64) (v:UInt64):Bl (l++[v])=Bl l++Al v:=by simp [Bl]
theorem A4q (l:List UInt32) (v:UInt32):Bw (l++[v])=Bw l++b4 v:=by simp [Bw]
theorem Ph (l:List UInt64):(Bl l).length≤9*l.length:=by
 induction l with
 |nil=>simp [Bl]
 |cons v l ih=>
  have:=(Hu v).2
  simp only[Bl,List.flatMap_cons,List.length_append,List.length_cons] at ih ⊢
  omega
theorem Nd {α:Type} [Inhabited α] {l:List α} {i:Nat} (h:i < l.length):l.take (i+1)=l.take i++[ix l i]:=by
 rw[List.take_add_one,ix,List.getD_eq_getElem?_getD,List.getElem?_eq_getElem h]
 rfl
theorem A4r (v:UInt32):b4 v=[(Md v 24).toUInt8,(Md v 16).toUInt8,(Md v 8).toUInt8,v.toUInt8]:=rfl
theorem S3 (n:Nat):UInt64.ofInt (n:Int)=UInt64.ofNat n:=by
 apply UInt64.toNat_inj.1
 have e:((n:Int) % 2 ^ 64).toNat=n % 2 ^ 64:=by omega
 unfold UInt64.ofInt
 rw[UInt64.toNat_ofNat',UInt64.toNat_ofNat',e,Nat.mod_mod]
attribute [local irreducible] Af Ad Av Bh Bf A6 Aw A9
attribute [local irreducible] Al Bl Bw Bc
section
variable {X:Nat→Prop} {w:World}
set_option maxRecDepth 100000 in
theorem Ly (v:UInt64):WrG 60 [.x (.a (.v (vU64 v)))] (Al v) X w:=fun r n g γ hn hS=>by
 refine Cy (n:=8) Tryd.func60 rfl Tryd.ntmps60 _ hS (by simp) (.t []) _ ?_
 simp (maxSteps:=10^6) only[push_cast,↓reduceIte,reduceCtorEq,Nat.reduceEqDiff,Nat.reduceLT,Nat.reduceAdd]
 (repeat (refine And.intro (by first|omega|decide) ?_))
 refine Fw rfl Sb rfl (S0 v (by simp only[push_cast,Nat.reduceLT,Nat.reduceAdd])) (Aa rfl) (by simp only[push_cast,Nat.reduceLT,Nat.reduceAdd]) ?_
 simp (maxSteps:=10^6) only[push_cast,↓reduceIte,Nat.reduceAdd]
 (repeat (refine And.intro (by first|omega|decide) ?_))
 refine Bk rfl Sa rfl (S2 (k0:=0) (k1:=1) (k2:=2) (n:=n) (r:=r) (b:=Al v) hn (by decide) (by decide) (by decide) (by simp only[push_cast,Nat.reduceLT,Nat.reduceAdd]) rfl rfl rfl) (Aa rfl) (fun _=>by simp only[push_cast,Nat.reduceLT,Nat.reduceAdd]) ?_
 simp (maxSteps:=10^6) only[push_cast,↓reduceIte,Nat.reduceEqDiff,Nat.reduceLT,Nat.reduceAdd]
 refine Bp [0,4] ?_
 simp (maxSteps:=10^6) only[push_cast,↓reduceIte,reduceCtorEq,Nat.reduceLT,Nat.reduceAdd]
set_option maxRecDepth 100000 in
set_option maxHeartbeats 1000000 in
theorem S4 (l:List UInt64) (A:Option Addr) (c:Nat) (hl:l.length≤10000000) (hR:FW w X A (l.map vU64)):WrG 61 [.x (.a (.v (.slice A l.length c)))] (Bc l++Bl l) X w:=fun r n g γ hn hS=>by
 have F:=FM.fw (f:=vU64) hR
 have eL:Al (UInt64.ofNat l.length)=Bc l:=by unfold Bc;rfl
 have hv:=(Hu (UInt64.ofNat l.length)).2
 rw[eL] at hv
 refine Cy (n:=25) Tryd.func61 rfl Tryd.ntmps61 _ hS (by simp) (.t []) _ ?_
 simp (maxSteps:=10^6) only[S3,push_cast,↓reduceIte,reduceCtorEq,Nat.reduceLT,Nat.reduceAdd]
 (repeat (refine And.intro (by first|omega|decide) ?_))
 refine Fw rfl Sb rfl (S0 (UInt64.ofNat l.length) (by simp only[push_cast,Nat.reduceLT,Nat.reduceAdd])) (Aa rfl) (by simp only[push_cast,Nat.reduceLT,Nat.reduceAdd]) ?_
 rw[eL]
 simp (maxSteps:=10^6) only[push_cast,↓reduceIte,reduceCtorEq,Nat.reduceEqDiff,Nat.reduceLT,Nat.reduceAdd]
 (repeat (refine And.intro (by first|omega|decide) ?_))
 refine Bu (ι:=Nat) (fun i=>⟨[(0,.x (.a (.p 0 0))),(4,.x (.a (.o 2))),(11,.x (.a (.v (.slice A l.length c)))),(12,.x (.a (.v (.int .i64 l.length)))),(13,.x (.a (.v (.int .i64 i))))],[.pin g 47 (.c [.o 1,.v (.int .i64 (n:Int))]),.abs (ChR 125 r),.own 5 (.u8 (Bc l++Bl (l.take i)))]⟩) (fun i=>i≤l.length) (fun i=>l.length - i) 0 [0,1,2] (by omega) ?_ ?_
 ·have e0:Bl []=[]:=by simp [Bl]
  simp (maxSteps:=10^6) only[List.take_zero,e0,push_cast,↓Int.cast_ofNat_Int,Int.cast_ofNat_Int,↓reduceIte,reduceCtorEq,Nat.reduceEqDiff,Nat.reduceLT,Nat.reduceAdd]
 intro i hi
 by_cases hlt:(i:Int) < l.length
 ·have i0:(0:Int)≤i:=by omega
  have c0:=F.cell i (by omega)
  have o0:=F.ok i (by omega)
  have hA:=F.some_ (by omega)
  have e1:=A4p (l.take i) (ix l i)
  rw[←Nd (by omega)] at e1
  have b1:=Ph (l.take i)
  have b2:(l.take i).length=i:=by rw[List.length_take];omega
  have b3:=(Hu (ix l i)).2
  have b4:((Bc l).length+(Bl (l.take i)).length+(Al (ix l i)).length)≤140737488355328:=by omega
  have b5:((Bc l).length+(Bl (l.take i)).length+(Al (ix l i)).length)≤2 ^ 63 - 1:=by omega
  simp (maxSteps:=10^6) only[hlt,i0,c0,o0,hA,push_cast,↓Int.toNat_natCast,↓reduceIte,reduceCtorEq,Nat.reduceEqDiff,Nat.reduceLT,Nat.reduceAdd]
  (repeat (refine And.intro (by first|omega|decide) ?_))
  refine Fw rfl Sb rfl (S0 (ix l i) (by simp only[push_cast,Nat.reduceLT,Nat.reduceAdd])) (Aa rfl) (by simp only[push_cast,Nat.reduceLT,Nat.reduceAdd]) ?_
  simp (maxSteps:=10^6) only[b4,b5,push_cast,↓reduceIte,reduceCtorEq,Nat.reduceEqDiff,Nat.reduceLT,Nat.reduceAdd,Int.reduceNeg]
  (repeat (refine And.intro (by first|omega|decide) ?_))
  refine Bd (i+1) [0,1,4] (by omega) (by omega) ?_
  simp (maxSteps:=10^6) only[e1,List.append_assoc,push_cast,↓reduceIte,reduceCtorEq,Nat.reduceEqDiff,Nat.reduceLT,Nat.reduceAdd]
  done
 ·have e2:l.take i=l:=List.take_of_length_le (by omega)
  simp (maxSteps:=10^6) only[hlt,e2,push_cast,↓reduceIte,reduceCtorEq,Nat.reduceEqDiff,Nat.reduceLT,Nat.reduceAdd]
  (repeat (refine And.intro (by first|omega|decide) ?_))
  refine Bk rfl Sa rfl (S2 (k0:=0) (k1:=1) (k2:=2) (n:=n) (r:=r) (b:=Bc l++Bl l) hn (by decide) (by decide) (by decide) (by simp only[push_cast,Nat.reduceLT,Nat.reduceAdd]) rfl rfl rfl) (Aa rfl) (fun _=>by simp only[push_cast,Nat.reduceLT,Nat.reduceAdd]) ?_
  simp (maxSteps:=10^6) only[push_cast,↓reduceIte,Nat.reduceEqDiff,Nat.reduceLT,Nat.reduceAdd]
  refine Bp [0,4] ?_
  simp (maxSteps:=10^6) only[push_cast,↓reduceIte,reduceCtorEq,Nat.reduceLT,Nat.reduceAdd]
set_option maxRecDepth 100000 in
set_option maxHeartbeats 1000000 in
theorem A4s (l:List UInt32) (A:Option Addr) (c:Nat) (hl:l.length≤10000000) (hR:FW w X A (l.map Ap)):WrG 64 [.x (.a (.v (.slice A l.length c)))] (Bc l++Bw l) X w:=fun r n g γ hn hS=>by
 have F:=FM.fw (f:=Ap) hR
 have eL:Al (UInt64.ofNat l.length)=Bc l:=by unfold Bc;rfl
 have hv:=(Hu (UInt64.ofNat l.length)).2
 rw[eL] at hv
 refine Cy (n:=35) Tryd.func64 rfl Tryd.ntmps64 _ hS (by simp) (.t []) _ ?_
 simp (maxSteps:=10^6) only[S3,push_cast,↓reduceIte,reduceCtorEq,Nat.reduceLT,Nat.reduceAdd]
 (repeat (refine And.intro (by first|omega|decide) ?_))
 refine Fw rfl Sb rfl (S0 (UInt64.ofNat l.length) (by simp only[push_cast,Nat.reduceLT,Nat.reduceAdd])) (Aa rfl) (by simp only[push_cast,Nat.reduceLT,Nat.reduceAdd]) ?_
 rw[eL]
 simp (maxSteps:=10^6) only[push_cast,↓reduceIte,reduceCtorEq,Nat.reduceEqDiff,Nat.reduceLT,Nat.reduceAdd]
 (repeat (refine And.intro (by first|omega|decide) ?_))
 refine Bu (ι:=Nat) (fun i=>⟨[(0,.x (.a (.p 0 0))),(4,.x (.a (.o 2))),(11,.x (.a (.v (.slice A l.length c)))),(12,.x (.a (.v (.int .i64 l.length)))),(13,.x (.a (.v (.int .i64 i))))],[.pin g 47 (.c [.o 1,.v (.int .i64 (n:Int))]),.abs (ChR 125 r),.own 5 (.u8 (Bc l++Bw (l.take i)))]⟩) (fun i=>i≤l.length) (fun i=>l.length - i) 0 [0,1,2] (by omega) ?_ ?_
 ·have e0:Bw []=[]:=by simp [Bw]
  simp (maxSteps:=10^6) only[List.take_zero,e0,push_cast,↓Int.cast_ofNat_Int,Int.cast_ofNat_Int,↓reduceIte,reduceCtorEq,Nat.reduceEqDiff,Nat.reduceLT,Nat.reduceAdd]
 intro i hi
 by_cases hlt:(i:Int) < l.length
 ·have i0:(0:Int)≤i:=by omega
  have c0:=F.cell i (by omega)
  have o0:=F.ok i (by omega)
  have hA:=F.some_ (by omega)
  have e1:=A4q (l.take i) (ix l i)
  rw[←Nd (by omega)] at e1
  have b1:=O4 (l.take i)
  have b2:(l.take i).length=i:=by rw[List.length_take];omega
  have b4:((Bc l).length+(Bw (l.take i)).length+4)≤140737488355328:=by omega
  have b5:((Bc l).length+(Bw (l.take i)).length+4)≤2 ^ 63 - 1:=by omega
  simp (maxSteps:=10^6) only[hlt,i0,c0,o0,hA,b4,b5,push_cast,↓Int.toNat_natCast,↓reduceIte,reduceCtorEq,Nat.reduceEqDiff,Nat.reduceLT,Nat.reduceLeDiff,Nat.reduceAdd,Int.reduceNeg,Int.reduceLE,Int.reduceToNat]
  (repeat (refine And.intro (by first|omega|decide) ?_))
  refine Bd (i+1) [0,1,4] (by omega) (by omega) ?_
  rw[A4r] at e1
  simp (maxSteps:=10^6) only[e1,List.append_assoc,push_cast,↓reduceIte,reduceCtorEq,Nat.reduceEqDiff,Nat.reduceLT,Nat.reduceAdd]
  done
 ·have e2:l.take i=l:=List.take_of_length_le (by omega)
  simp (maxSteps:=10^6) only[hlt,e2,push_cast,↓reduceIte,reduceCtorEq,Nat.reduceEqDiff,Nat.reduceLT,Nat.reduceAdd]
  (repeat (refine And.intro (by first|omega|decide) ?_))
  refine Bk rfl Sa rfl (S2 (k0:=0) (k1:=1) (k2:=2) (n:=n) (r:=r) (b:=Bc l++Bw l) hn (by decide) (by decide) (by decide) (by simp only[push_cast,Nat.reduceLT,Nat.reduceAdd]) rfl rfl rfl) (Aa rfl) (fun _=>by simp only[push_cast,Nat.reduceLT,Nat.reduceAdd]) ?_
  simp (maxSteps:=10^6) only[push_cast,↓reduceIte,Nat.reduceEqDiff,Nat.reduceLT,Nat.reduceAdd]
  refine Bp [0,4] ?_
  simp (maxSteps:=10^6) only[push_cast,↓reduceIte,reduceCtorEq,Nat.reduceLT,Nat.reduceAdd]
set_option maxRecDepth 100000 in
set_option maxHeartbeats 1000000 in
theorem A4t (l:List UInt8) (hl:l.length=32):WrG 63 [.x (.a8 l)] l X w:=fun r n g γ hn hS=>by
 obtain⟨T,hT⟩:∃T,T=[Res.pin g 47 (.c [.o 1,.v (.int .i64 ((n+l.length:Nat):Int))]),.abs (ChR 125 (l::r))]:=⟨_,rfl⟩
 rw[←hT]
 refine Cy (n:=12) Tryd.func63 rfl Tryd.ntmps63 _ hS (by simp) (.t []) _ ?_
 simp (maxSteps:=10^6) only[push_cast,↓Int.cast_ofNat_Int,Int.cast_ofNat_Int,↓reduceIte,reduceCtorEq,Nat.reduceEqDiff,Nat.reduceLT,Nat.reduceAdd,Nat.reduceSub,Int.reduceLE,Int.reduceLT,Int.reduceToNat,Int.reduceMul]
 (repeat (refine And.intro (by first|omega|decide) ?_))
 refine Wf rfl rfl rfl (by simp only[Lx,Kg,Cont.lay,hl,Res.with,push_cast,↓reduceIte];rfl) ?_ (Aa rfl) (by simp only[push_cast,Nat.reduceLT,Nat.reduceAdd]) ?_
 ·simp (maxSteps:=10^6) only[push_cast]
  done
 simp (maxSteps:=10^6) only[hl,push_cast,↓reduceIte,reduceCtorEq,Nat.reduceEqDiff,Nat.reduceLT,Nat.reduceAdd]
 have hz:List.drop 32 (List.replicate 32 (0:UInt8))=[]:=rfl
 rw[hz,List.append_nil]
 (repeat (refine And.intro (by first|omega|decide) ?_))
 refine Bk rfl Sa rfl (S2 (k0:=0) (k1:=1) (k2:=3) (n:=n) (r:=r) (b:=l) hn (by decide) (by decide) (by decide) (by simp only[push_cast,Nat.reduceLT,Nat.reduceAdd]) rfl rfl rfl) (Aa rfl) (fun _=>by simp only[push_cast,Nat.reduceLT,Nat.reduceAdd]) ?_
 subst hT
 clear hl
 simp (maxSteps:=10^6) only[push_cast,↓reduceIte,Nat.reduceEqDiff,Nat.reduceLT,Nat.reduceAdd]
 refine Bp [0,5] ?_
 simp (maxSteps:=10^6) only[push_cast,↓reduceIte,reduceCtorEq,Nat.reduceLT,Nat.reduceAdd]
end
end Go.Proofs.YtiaeollemmkclaaDoor
