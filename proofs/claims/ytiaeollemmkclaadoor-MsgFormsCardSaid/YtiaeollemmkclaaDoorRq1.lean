import Derived.Test.YtiaeollemmkclaaDoorPk3
import Derived.Test.YtiaeollemmkclaaDoorPk6
import Derived.Test.YtiaeollemmkclaaDoorPkI
import Derived.Test.YtiaeollemmkclaaDoorPk0
import Derived.Test.YtiaeollemmkclaaDoorPkK
/- Rq1: Rp1, Rp2, Rp3, Rp4, Rp5, joined. -/
/- caucusref11's Put: a number behind bytes (the reference of layer 11). -/
namespace Go.Proofs.YtiaeollemmkclaaDoor
open Go.RowKit
set_option linter.unusedSimpArgs false
set_option linter.unusedVariables false
theorem Ad7:∀(k v:Nat),dgV (k+1) v=UInt8.ofNat (v / 256 ^ k % 256)::dgV k v
 |0,v=>by simp [dgV]
 |k+1,v=>by
  rw[dgV,Ad7 k (v / 256),dgV,Nat.div_div_eq_div_mul,Nat.pow_succ,Nat.mul_comm 256]
  rfl
def wV (v:UInt64) (k:Nat):UInt64:=UInt64.ofNat (v.toNat / 256 ^ k)
theorem Nt (v:UInt64) (k:Nat):(wV v k).toNat=v.toNat / 256 ^ k:=by
 unfold wV
 rw[UInt64.toNat_ofNat']
 exact Nat.mod_eq_of_lt (Nat.lt_of_le_of_lt (Nat.div_le_self _ _) v.toNat_lt)
theorem A99 (v:UInt64):wV v 0=v:=by
 apply UInt64.toNat_inj.1
 rw[Nt]
 simp
theorem Baa {v:UInt64} {k:Nat} (h:1≤v.toNat) (hk:k < nb8 v):0 < wV v k:=by
 rw[UInt64.lt_iff_toNat_lt,Nt]
 have h1:=(Si v h).1
 have h2:256 ^ k≤256 ^ (nb8 v - 1):=Nat.pow_le_pow_right (by decide) (by omega)
 exact Nat.div_pos (Nat.le_trans h2 h1) (Nat.pow_pos (by decide))
theorem Bab {v:UInt64} (h:1≤v.toNat):¬0 < wV v (nb8 v):=by
 rw[UInt64.lt_iff_toNat_lt,Nt,Nat.div_eq_of_lt (Si v h).2]
 simp
theorem Bac (v:UInt64) (k:Nat):wV v k / 256=wV v (k+1):=by
 apply UInt64.toNat_inj.1
 rw[UInt64.toNat_div,Nt,Nt,Nat.pow_succ,←Nat.div_div_eq_div_mul]
 rfl
theorem Bae (v:UInt64) (k:Nat):(wV v k % 256).toUInt8=UInt8.ofNat (v.toNat / 256 ^ k % 256):=by
 apply UInt8.toNat_inj.1
 rw[UInt64.toNat_toUInt8,UInt64.toNat_mod,Nt,UInt8.toNat_ofNat']
 rfl
attribute [local irreducible] Af Ad Av Bh Bf A6 Aw A9
attribute [local irreducible] Al dgV nb8 wV
set_option maxRecDepth 100000 in
set_option maxHeartbeats 1000000 in
theorem Baf (l:List UInt8) (A:Option Addr) (c:Nat) (v:UInt64) (w:World) (hl:l.length≤1000000) (hR:RdV w w.heap.size A (l.map vU8)):Calls Tryd.prog 73 #[.slice A l.length c,vU64 v] w fun e w'=>∃x,e=.returned x∧Own w' w.heap.size 5 x ((l++Al v).map vU8)∧Below w.heap.size w w':=by
 refine J4 (n:=39) Tryd.func73 rfl Tryd.ntmps73 [.x (.a (.v (.slice A l.length c))),.x (.a (.v (vU64 v)))] (by simp) 5 (.u8 (l++Al v)) (fun _=>rfl) ?_
 have F:=F8.of (FV.no hR)
 have r1:=F.rd
 have r2:=F.rdOk
 have b1:l.length≤140737488355328:=by omega
 have b2:l.length+1≤140737488355328:=by omega
 by_cases h:v < 248
 ·have hp:=Pg h
  simp (maxSteps:=10^6) only[h,hp,r1,r2,b1,b2,List.nil_append,push_cast,↓reduceIte,reduceCtorEq,Nat.reduceEqDiff,Nat.reduceLT,Nat.reduceLeDiff,Nat.reduceAdd]
  omega
 ·have hn:=Ach h
  have hp:=Wj h
  have hb:=M3 v
  have hd:∀k,(dgV k v.toNat).length=k:=fun k=>Gr k _
  have hh:UInt8.ofInt (247+(nb8 v:Int))=UInt8.ofNat (247+nb8 v):=by
   rw[show 247+(nb8 v:Int)=((247+nb8 v:Nat):Int) by omega]
   exact Acj _
  simp (maxSteps:=10^6) only[h,r1,r2,b1,List.nil_append,push_cast,↓reduceIte,reduceCtorEq,Nat.reduceEqDiff,Nat.reduceLT]
  (repeat (refine And.intro (by first|omega|decide) ?_))
  refine Rv 6 5 (.u8 []) rfl rfl trivial (by simp only[push_cast,Nat.reduceLT]) ?_
  simp (maxSteps:=10^6) only[push_cast]
  refine Bu (ι:=Nat) (fun k=>⟨[(5,.x (.a (.o 0))),(6,.x (.a (.o 1))),(7,.x (.a (.v (vU64 (wV v k)))))],[.own 5 (.u8 l),.own 5 (.u8 (dgV k v.toNat))]⟩) (fun k=>k≤nb8 v) (fun k=>nb8 v - k) 0 [0,1] (by omega) ?_ ?_
  ·have e0:dgV 0 v.toNat=[]:=by unfold dgV;rfl
   simp (maxSteps:=10^6) only[e0,A99,push_cast,↓reduceIte,reduceCtorEq,Nat.reduceEqDiff,Nat.reduceLT,Nat.reduceAdd]
   done
  intro k hk
  by_cases hlt:k < nb8 v
  ·have hw:=Baa (by omega) hlt
   have e1:=Ad7 k v.toNat
   have hdk:=hd k
   have b3:1+k≤140737488355328:=by omega
   simp (maxSteps:=10^6) only[hw,Bac,Bae,hdk,b3,push_cast,↓reduceIte,Nat.reduceEqDiff,Nat.reduceLT,Nat.reduceLeDiff,Nat.reduceAdd]
   (repeat (refine And.intro (by first|omega|decide) ?_))
   refine Bd (k+1) [0,3] (by omega) (by omega) ?_
   simp (maxSteps:=10^6) only[e1,push_cast,↓reduceIte,reduceCtorEq,Nat.reduceEqDiff,Nat.reduceLT,Nat.reduceAdd]
   all_goals omega
  ·obtain rfl:k=nb8 v:=by omega
   have hw:=Bab (v:=v) (by omega)
   have hdk:=hd (nb8 v)
   simp (maxSteps:=10^6) only[hw,hh,hdk,hp,push_cast,↓reduceIte,Nat.reduceEqDiff,Nat.reduceLT,Nat.reduceLeDiff,Nat.reduceAdd,Int.reduceNeg]
   simp only[List.append_assoc,List.cons_append,List.nil_append]
   exact⟨by omega,by omega,by omega,trivial⟩
theorem Nu {w0:World} {ow:Nat→Prop} {hp:List Res} {sv:Sv} {l:List UInt8} (v:UInt64) (hl:l.length≤1000000) (hbr:∀r∈hp,Res.bnd hp.length r) (h:Cx w0 ow hp sv (l.map vU8)):Ad Tryd.prog w0 ow 73 [sv,.x (.a (.v (vU64 v)))] hp (.x (.a (.o hp.length))) (hp++[.own 5 (.u8 (l++Al v))]):=
 Jz hbr trivial fun γ w hS=>by
  obtain⟨A,c,e1,_,r1⟩:=h γ w hS
  rw[List.length_map] at e1
  show Calls _ _ #[sv.val γ,_] w _
  rw[e1]
  exact Baf l A c v w hl r1
end Go.Proofs.YtiaeollemmkclaaDoor
/- caucusref11's Get: the number at the beginning of bytes (the reference of layer 11). -/
namespace Go.Proofs.YtiaeollemmkclaaDoor
open Go.RowKit
set_option linter.unusedSimpArgs false
set_option linter.unusedVariables false
def Gf (bs:List UInt8):List Sc:=match B9 bs with
 |some (v,n)=>[.a (.v (vU64 v)),.a (.v (.int .i64 n)),.a (.v (.int .i64 0))]
 |none=>[.a (.v (.int .u64 0)),.a (.v (.int .i64 0)),.a (.v (.int .i64 3))]
theorem Bag:Gf []=[.a (.v (.int .u64 0)),.a (.v (.int .i64 0)),.a (.v (.int .i64 3))]:=rfl
theorem Xk {bs:List UInt8} (h:B9 bs=none):Gf bs=[.a (.v (.int .u64 0)),.a (.v (.int .i64 0)),.a (.v (.int .i64 3))]:=by unfold Gf;rw[h]
theorem Xl {bs:List UInt8} {v:UInt64} {n:Nat} (h:B9 bs=some (v,n)):Gf bs=[.a (.v (vU64 v)),.a (.v (.int .i64 n)),.a (.v (.int .i64 0))]:=by unfold Gf;rw[h]
theorem Ad8 (bs:List UInt8) (γ:List Nm):(Sv.t (Gf bs)).val γ=(Sv.t (Gf bs)).val []:=by
 unfold Gf
 split<;>rfl
theorem Bah {l:List UInt8} {v:UInt64} {n:Nat} (hn:n≤l.length) (h:Al v=l.take n):B9 l=some (v,n):=by
 have e:l=Al v++l.drop n:=by rw[h,List.take_append_drop]
 have hl:(Al v).length=n:=by rw[h,List.length_take];omega
 have:=Abd v (l.drop n)
 rw[←e,hl] at this
 exact this
theorem Bai {x:UInt8} {t:List UInt8} {v:UInt64} {n:Nat} (h1:¬x < 248) (hv:v=UInt64.ofNat (fbV (t.take (x.toNat - 247)))) (hn:n=x.toNat - 246) (h:¬Al v=(x::t).take n):B9 (x::t)=none:=by
 cases hg:B9 (x::t) with
 |none=>rfl
 |some q=>
  obtain⟨v',n'⟩:=q
  obtain⟨e1,e2⟩:=O3 hg
  exfalso
  have hx:v'=v∧n'=n:=by
   simp only[B9,if_neg h1] at hg
   split at hg
   ·cases hg
   ·split at hg
    ·cases hg
    ·simp only[Option.some.injEq,Prod.mk.injEq] at hg
     exact⟨hg.1.symm.trans hv.symm,hg.2.symm.trans hn.symm⟩
  obtain⟨rfl,rfl⟩:=hx
  apply h
  have:=congrArg (List.take n') e2
  rw[this,List.take_append_of_le_length (by omega),List.take_of_length_le (by omega)]
theorem RdV.takes {w:World} {B:Nat} {A:Option Addr} {l:List UInt8} (h:RdV w B A (l.map vU8)) (n:Nat):RdV w B A ((l.take n).map vU8):=fun hp=>by
 obtain⟨b,off,h1,h2,h3⟩:=h (by rw[List.length_map,List.length_take] at hp;rw[List.length_map];omega)
 refine⟨b,off,h1,h2,fun j u hu=>h3 j u ?_⟩
 rw[List.map_take,List.getElem?_take] at hu
 split at hu
 ·exact hu
 ·cases hu
theorem Baj (l:List UInt8) (x:UInt8):256*UInt64.ofNat (fbV l)+x.toUInt64=UInt64.ofNat (fbV (l++[x])):=by
 rw[O2]
 apply UInt64.toNat_inj.1
 rw[UInt64.toNat_add,UInt64.toNat_mul,UInt64.toNat_ofNat',UInt64.toNat_ofNat',UInt8.toNat_toUInt64]
 have e:(256:UInt64).toNat=256:=rfl
 rw[e]
 omega
theorem Ad9 {w0:World} {hp:List Res} (v:UInt64) (hbr:∀r∈hp,Res.bnd hp.length r):Ad Tryd.prog w0 No 73 [.x (.a (.v (.slice none 0 0))),.x (.a (.v (vU64 v)))] hp (.x (.a (.o hp.length))) (hp++[.own 5 (.u8 (Al v))]):=
 Nu (l:=[]) v (Nat.zero_le _) hbr Aav
attribute [local irreducible] Af Ad Av Bh Bf A6 Aw A9
attribute [local irreducible] Gf fbV Al
set_option maxRecDepth 100000 in
set_option maxHeartbeats 1000000 in
theorem Bak (bs:List UInt8) (A:Option Addr) (c:Nat) (w:World) (hc:bs.length≤c) (hR:RdV w w.heap.size A (bs.map vU8)):
  Calls Tryd.prog 117 #[.slice A bs.length c] w fun e w'=>e=.returned ((Sv.t (Gf bs)).val [])∧Below w.heap.size w w':=by
 have F:=FM.of (f:=vU8) hR
 refine By (n:=51) Tryd.func117 rfl Tryd.ntmps117 [.x (.a (.v (.slice A bs.length c)))] (by simp) (.t (Gf bs)) (Ad8 bs) ?_
 rcases bs with _|⟨x,t⟩
 ·simp (maxSteps:=10^6) only[Bag,push_cast,↓Int.cast_ofNat_Int,Int.cast_ofNat_Int,↓reduceIte,reduceCtorEq,Nat.reduceEqDiff,Nat.reduceLT]
  done
 have c0:=F.cell 0 (by simp)
 have o0:=F.ok 0 (by simp)
 have hA:=F.some_ (by simp)
 have hx:ix (x::t) 0=x:=rfl
 rw[hx] at c0
 rw[Cg] at c0 o0
 have l0:¬((t.length:Int)+1=0):=by omega
 have l1:(0:Int) < (t.length:Int)+1:=by omega
 have hc':t.length+1≤c:=by simpa using hc
 have hcut:Ch A 0 c=A:=(if_neg (by omega)).trans (Cg _)
 have hxl:=x.toNat_lt
 have hxn:(n8 x:Int)=(x.toNat:Int):=rfl
 by_cases h1:x < 248
 ·have hx8:x.toNat < 248:=Wl.1 h1
  have g1:¬(248:UInt8)≤x:=by rw[UInt8.le_iff_toNat_le];show ¬248≤x.toNat;omega
  have hp:Al x.toUInt64=[x]:=by
   rw[Pg (by rw[UInt64.lt_iff_toNat_lt,UInt8.toNat_toUInt64];exact hx8)]
   simp
  have hg:=Xl (bs:=x::t) (v:=x.toUInt64) (n:=1) (by simp only[B9,if_pos h1])
  have G:=F8.of (FV.no (hR.takes 1))
  have r1:rd8 w A 1=[x]:=G.rd
  have r2:Rd8 w No A 1:=G.rdOk
  have e3:=Wt [x] [x]
  rw[decide_eq_true rfl] at e3
  have c1:(1:Int)≤c:=by omega
  simp (maxSteps:=10^6) only[c0,o0,hA,l0,l1,g1,Cg,push_cast,↓reduceIte,reduceCtorEq,Nat.reduceLT,Int.reduceLE]
  (repeat (refine And.intro (by first|omega|decide) ?_))
  refine Ew [(0,true),(3,true),(4,true),(5,true),(6,true),(1,false),(2,true),(7,true)] (by kernel_rfl) (by kernel_rfl) rfl (by kernel_rfl) ?_
  simp (maxSteps:=10^6) only[r1,r2,c1,hcut,push_cast,↓reduceIte,reduceCtorEq,Nat.reduceEqDiff,Nat.reduceLT,Nat.reduceSub,Int.reduceLE,Int.reduceToNat]
  (repeat (refine And.intro (by first|omega|decide) ?_))
  refine Aam rfl Ll rfl (Ad9 x.toUInt64 (by simp only[push_cast])) (Aa rfl) (by simp only[push_cast]) ?_
  rw[hp]
  simp (maxSteps:=10^6) only[e3,hg,push_cast,↓Int.cast_ofNat_Int,Int.cast_ofNat_Int,↓reduceIte,Nat.reduceEqDiff,Nat.reduceLT]
  done
 have hx8:248≤x.toNat:=Nat.not_lt.1 fun h=>h1 (Wl.2 h)
 have g1:(248:UInt8)≤x:=by rw[UInt8.le_iff_toNat_le];exact hx8
 obtain⟨k,hkx⟩:∃k,k=x.toNat - 247:=⟨_,rfl⟩
 have hk:(n8 x:Int) - 246=(k:Int)+1:=by omega
 by_cases h2:(t.length:Int)+1 < (k:Int)+1
 ·have hg:=Xk (bs:=x::t) (by simp only[B9,if_neg h1];rw[if_pos (.inl (by omega))])
  simp (maxSteps:=10^6) only[c0,o0,hA,l0,l1,g1,hk,h2,hg,Cg,push_cast,↓reduceIte,reduceCtorEq,Nat.reduceEqDiff,Nat.reduceLT,Int.reduceNeg,Int.reduceLE]
  all_goals omega
 have hk8:1≤k∧k≤8∧k≤t.length:=by omega
 simp (maxSteps:=10^6) only[c0,o0,hA,l0,l1,g1,hk,h2,Cg,push_cast,↓reduceIte,reduceCtorEq,Nat.reduceEqDiff,Nat.reduceLT,Int.reduceNeg,Int.reduceLE]
 (repeat (refine And.intro (by first|omega|decide) ?_))
 refine Bu (ι:=Nat) (fun j=>⟨[(0,.x (.a (.v (.slice A (t.length+1) c)))),(5,.x (.a (.v (vU64 (UInt64.ofNat (fbV (t.take j))))))),(6,.x (.a (.v (.int .i64 ((k:Int)+1))))),(7,.x (.a (.v (.int .i64 ((j:Int)+1)))))],[]⟩) (fun j=>j≤k) (fun j=>k - j) 0 [] (by omega) ?_ ?_
 ·simp (maxSteps:=10^6) only[List.take_zero,Aa7,push_cast,↓Int.cast_ofNat_Int,Int.cast_ofNat_Int,↓reduceIte,reduceCtorEq,Nat.reduceEqDiff,Int.reduceAdd]
  rfl
 intro j hj
 by_cases hlt:(j:Int)+1 < (k:Int)+1
 ·have j0:(0:Int)≤(j:Int)+1:=by omega
  have jt:(j:Int)+1 < (t.length:Int)+1:=by omega
  have jn:((j:Int)+1).toNat=j+1:=by omega
  have d0:=F.cell (j+1) (by simp;omega)
  have d1:=F.ok (j+1) (by simp;omega)
  have hxj:ix (x::t) (j+1)=ix t j:=rfl
  rw[hxj] at d0
  have htk:t.take (j+1)=t.take j++[ix t j]:=by
   rw[List.take_add_one,ix,List.getD_eq_getElem?_getD,List.getElem?_eq_getElem (by omega)]
   rfl
  have hst:=Baj (t.take j) (ix t j)
  rw[←htk] at hst
  simp (maxSteps:=10^6) only[hlt,j0,jt,jn,d0,d1,hA,hst,push_cast,↓reduceIte,reduceCtorEq,Nat.reduceEqDiff,Nat.reduceLT,Int.reduceNeg]
  (repeat (refine And.intro (by first|omega|decide) ?_))
  refine Bd (j+1) [] (by omega) (by omega) ?_
  simp (maxSteps:=10^6) only[push_cast,↓reduceIte,reduceCtorEq,Nat.reduceEqDiff]
  done
 obtain rfl:j=k:=by omega
 obtain⟨v,hv⟩:∃v,v=UInt64.ofNat (fbV (t.take j)):=⟨_,rfl⟩
 have G:=F8.of (FV.no (hR.takes (j+1)))
 have hlt1:((x::t).take (j+1)).length=j+1:=by rw[List.length_take];simp;omega
 have r1:=G.rd
 have r2:=G.rdOk
 rw[hlt1] at r1 r2
 have e3:=Wt (Al v) ((x::t).take (j+1))
 have c1:(j:Int)+1≤c:=by omega
 have j0:(0:Int)≤(j:Int)+1:=by omega
 have jn:((j:Int)+1).toNat=j+1:=by omega
 rw[←hv]
 simp (maxSteps:=10^6) only[hlt,push_cast,↓reduceIte,reduceCtorEq,Nat.reduceEqDiff,Nat.reduceLT]
 (repeat (refine And.intro (by first|omega|decide) ?_))
 refine Ew [(0,true),(3,true),(4,true),(5,true),(6,true),(1,false),(2,true),(7,true)] (by kernel_rfl) (by kernel_rfl) rfl (by kernel_rfl) ?_
 simp (maxSteps:=10^6) only[r1,r2,c1,j0,jn,hcut,Nat.sub_zero,push_cast,↓reduceIte,reduceCtorEq,Nat.reduceEqDiff,Nat.reduceLT,Int.reduceLE]
 (repeat (refine And.intro (by first|omega|decide) ?_))
 refine Aam rfl Ll rfl (Ad9 v (by simp only[push_cast])) (Aa rfl) (by simp only[push_cast]) ?_
 by_cases he:Al v=(x::t).take (j+1)
 ·have hg:=Xl (Bah (l:=x::t) (n:=j+1) (by simp;omega) he)
  rw[decide_eq_true he,List.take_succ_cons] at e3
  simp (maxSteps:=10^6) only[e3,hg,push_cast,↓reduceIte,reduceCtorEq,Nat.reduceEqDiff,Nat.reduceLT]
  done
 ·have hg:=Xk (Bai (t:=t) (v:=v) h1 (by rw[hv,←hkx]) rfl (by rw[show x.toNat - 246=j+1 by omega];exact he))
  rw[decide_eq_false he,List.take_succ_cons] at e3
  simp (maxSteps:=10^6) only[e3,hg,push_cast,↓reduceIte,Nat.reduceEqDiff,Nat.reduceLT]
  done
theorem Bal {w0:World} {ow:Nat→Prop} {hp:List Res} {sv:Sv} (bs:List UInt8) (h:Cx w0 ow hp sv (bs.map vU8)):Ad Tryd.prog w0 ow 117 [sv] hp (.t (Gf bs)) hp:=Ca fun γ w hS=>by
 obtain⟨A,c,e1,b1,r1⟩:=h γ w hS
 rw[List.length_map] at e1 b1
 show Calls _ _ #[sv.val γ] w _
 rw[e1,Ad8 bs γ]
 exact Bak bs A c w b1 r1
end Go.Proofs.YtiaeollemmkclaaDoor
/- caucusref13's num: a number at a place of bytes (the reference of layer 13). -/
namespace Go.Proofs.YtiaeollemmkclaaDoor
open Go.RowKit
set_option linter.unusedSimpArgs false
set_option linter.unusedVariables false
abbrev Plc:=Option Nat
def pI:Plc→Int
 |some n=>n
 |none=>-1
def pS (b:List UInt8):Plc→Rs
 |some n=>(b.drop n,false)
 |none=>Gt
def pOk (b:List UInt8):Plc→Prop
 |some n=>n≤b.length
 |none=>True
def numP (b:List UInt8) (most:UInt64):Plc→UInt64×Plc
 |some n=>match B9 (b.drop n) with
  |some (v,k)=>if v≤most then (v,some (n+k)) else (0,none)
  |none=>(0,none)
 |none=>(0,none)
theorem Tp (b:List UInt8) (most:UInt64) (p:Plc):Ay most (pS b p)=((numP b most p).1,(numP b most p).2.isSome,pS b (numP b most p).2):=by
 cases p with
 |none=>rfl
 |some n=>
  unfold numP Ay pS
  simp only
  cases B9 (b.drop n) with
  |none=>rfl
  |some q=>
   simp only
   split
   ·simp [List.drop_drop]
   ·rfl
theorem Xm {l:List UInt8} {v:UInt64} {n:Nat} (h:B9 l=some (v,n)):n≤l.length:=by
 obtain⟨h1,h2⟩:=O3 h
 have:=congrArg List.length h2
 rw[List.length_append] at this
 omega
theorem H6 (b:List UInt8) (most:UInt64) {p:Plc} (h:pOk b p):pOk b (numP b most p).2:=by
 cases p with
 |none=>trivial
 |some n=>
  unfold numP
  simp only
  cases hg:B9 (b.drop n) with
  |none=>trivial
  |some q=>
   simp only
   split
   ·have:=Xm hg
    rw[List.length_drop] at this
    have h:n≤b.length:=h
    show n+q.2≤b.length
    omega
   ·trivial
def Di (b:List UInt8) (most:UInt64) (p:Plc):List Sc:=[.a (.v (vU64 (numP b most p).1)),.a (.v (.int .i64 (pI (numP b most p).2)))]
theorem RdV.drops {w:World} {B:Nat} {A:Option Addr} {l:List UInt8} (h:RdV w B A (l.map vU8)) (n c:Nat) (hc:l.length≤c):RdV w B (Ch A n c) ((l.drop n).map vU8):=by
 have:=Sub.drop A (l.map vU8) n c (by simpa using hc) (fun b=>b < B) w fun hp=>by
  obtain⟨b,off,h1,h2,h3⟩:=h hp
  exact⟨b,off,h1,h2,h3⟩
 intro hp
 have:=this (by rw[←List.map_drop];exact hp)
 rw[←List.map_drop] at this
 exact this
attribute [local irreducible] Af Ad Av Bh Bf A6 Aw A9
attribute [local irreducible] Gf fbV Al
set_option maxRecDepth 100000 in
set_option maxHeartbeats 1000000 in
theorem Bam (b:List UInt8) (A:Option Addr) (c:Nat) (most:UInt64) (p:Plc) (w:World) (hp:pOk b p) (hm:b.length≤1000000) (hc:b.length≤c) (hR:RdV w w.heap.size A (b.map vU8)):
  Calls Tryd.prog 74 #[.slice A b.length c,.int .i64 (pI p),vU64 most] w fun e w'=>e=.returned ((Sv.t (Di b most p)).val [])∧Below w.heap.size w w':=by
 refine By (n:=32) Tryd.func74 rfl Tryd.ntmps74 [.x (.a (.v (.slice A b.length c))),.x (.a (.v (.int .i64 (pI p)))),.x (.a (.v (vU64 most)))] (by simp) (.t (Di b most p)) (fun _=>rfl) ?_
 cases p with
 |none=>
  have e:pI none=-1:=rfl
  have h:Di b most none=[.a (.v (.int .u64 0)),.a (.v (.int .i64 (-1)))]:=rfl
  simp (maxSteps:=10^6) only[e,h,push_cast,↓reduceIte,reduceCtorEq,Nat.reduceEqDiff,Nat.reduceLT,Nat.reduceAdd,Int.reduceNeg,Int.reduceLT]
  done
 |some n=>
  have e:pI (some n)=(n:Int):=rfl
  have hn:n≤b.length:=hp
  have n0:¬((n:Int) < 0):=by omega
  have n1:(0:Int)≤n:=by omega
  have n2:(n:Int)≤b.length:=by omega
  have n3:((n:Nat):Int).toNat=n:=Int.toNat_natCast n
  have hK:Ad Tryd.prog w No 117 [.x (.a (.v (.slice (Ch A n c) (b.length - n) (c - n))))] [] (.t (Gf (b.drop n))) []:=Bal (b.drop n) (by
   have:=Dq (w0:=w) (hp:=[]) (hR.drops n c hc) (b.length - n) (c - n) (by simp) (by omega)
   exact this)
  simp (maxSteps:=10^6) only[e,n0,n1,n2,push_cast,↓Int.toNat_natCast,↓reduceIte,reduceCtorEq,Nat.reduceEqDiff,Nat.reduceLT,Nat.reduceAdd,Int.reduceNeg]
  (repeat (refine And.intro (by first|omega|decide) ?_))
  refine A8 rfl Azt rfl hK (Aa rfl) ?_
  cases hg:B9 (b.drop n) with
  |none=>
   have h:Di b most (some n)=[.a (.v (.int .u64 0)),.a (.v (.int .i64 (-1)))]:=by unfold Di numP;simp only[hg];rfl
   rw[Xk hg]
   simp (maxSteps:=10^6) only[h,undef,push_cast,↓reduceIte,Nat.reduceEqDiff,Nat.reduceLT,Int.reduceNeg,Int.reduceEq]
   done
  |some q=>
   obtain⟨v,k⟩:=q
   have hk:=Xm hg
   rw[List.length_drop] at hk
   rw[Xl hg]
   by_cases hv:v≤most
   ·have h:Di b most (some n)=[.a (.v (vU64 v)),.a (.v (.int .i64 ((n:Int)+k)))]:=by unfold Di numP;simp only[hg,if_pos hv];rfl
    have hv2:¬most < v:=by rw[UInt64.lt_iff_toNat_lt];rw[UInt64.le_iff_toNat_le] at hv;omega
    simp (maxSteps:=10^6) only[h,hv2,push_cast,↓reduceIte,reduceCtorEq,Nat.reduceEqDiff,Nat.reduceLT,Int.reduceNeg]
    omega
   ·have h:Di b most (some n)=[.a (.v (.int .u64 0)),.a (.v (.int .i64 (-1)))]:=by unfold Di numP;simp only[hg,if_neg hv];rfl
    have hv2:most < v:=by rw[UInt64.lt_iff_toNat_lt];rw[UInt64.le_iff_toNat_le] at hv;omega
    simp (maxSteps:=10^6) only[h,hv2,push_cast,↓reduceIte,reduceCtorEq,Nat.reduceEqDiff,Nat.reduceLT,Int.reduceNeg]
    done
theorem L7 {w0:World} {ow:Nat→Prop} {hp:List Res} {sv:Sv} (b:List UInt8) (most:UInt64) (p:Plc) (hp':pOk b p) (hm:b.length≤1000000) (h:Cx w0 ow hp sv (b.map vU8)):Ad Tryd.prog w0 ow 74 [sv,.x (.a (.v (.int .i64 (pI p)))),.x (.a (.v (vU64 most)))] hp (.t (Di b most p)) hp:=Ca fun γ w hS=>by
 obtain⟨A,c,e1,b1,r1⟩:=h γ w hS
 rw[List.length_map] at e1 b1
 show Calls _ _ #[sv.val γ,_,_] w _
 rw[e1]
 exact Bam b A c most p w hp' hm b1 r1
end Go.Proofs.YtiaeollemmkclaaDoor
/- caucusref13's Put: a field behind bytes (the reference of layer 13). -/
namespace Go.Proofs.YtiaeollemmkclaaDoor
open Go.RowKit
set_option linter.unusedSimpArgs false
set_option linter.unusedVariables false
theorem Ban (v:UInt32):[(v / 16777216).toUInt8,(v / 65536 % 256).toUInt8,(v / 256 % 256).toUInt8,(v % 256).toUInt8]=b4 v:=by
 have e:∀{a b:UInt8},a.toNat=b.toNat→a=b:=fun h=>UInt8.toNat_inj.1 h
 have q1:(16777216:UInt32).toNat=16777216:=rfl
 have q2:(65536:UInt32).toNat=65536:=rfl
 have q3:(256:UInt32).toNat=256:=rfl
 have q4:(24:UInt32).toNat=24:=rfl
 have q5:(16:UInt32).toNat=16:=rfl
 have q6:(8:UInt32).toNat=8:=rfl
 unfold b4
 congr 1
 ·apply e
  simp only[UInt32.toNat_toUInt8,UInt32.toNat_div,UInt32.toNat_shiftRight,q1,q4,Nat.shiftRight_eq_div_pow]
  try rfl
 congr 1
 ·apply e
  simp only[UInt32.toNat_toUInt8,UInt32.toNat_div,UInt32.toNat_mod,UInt32.toNat_shiftRight,q2,q3,q5,Nat.shiftRight_eq_div_pow]
  have:v.toNat / 2 ^ (16 % 32)=v.toNat / 65536:=rfl
  omega
 congr 1
 ·apply e
  simp only[UInt32.toNat_toUInt8,UInt32.toNat_div,UInt32.toNat_mod,UInt32.toNat_shiftRight,q3,q6,Nat.shiftRight_eq_div_pow]
  have:v.toNat / 2 ^ (8 % 32)=v.toNat / 256:=rfl
  omega
 congr 1
 apply e
 simp only[UInt32.toNat_toUInt8,UInt32.toNat_mod,q3]
 omega
theorem Bao {l:List UInt64} {i:Nat} (h:i < l.length):Bl (l.take (i+1))=Bl (l.take i)++Al (ix l i):=by
 unfold Bl
 rw[List.take_add_one,List.getElem?_eq_getElem h,Option.toList_some,List.flatMap_append,ix,List.getD_eq_getElem?_getD,List.getElem?_eq_getElem h]
 simp
theorem Bap {x:List UInt32} {i:Nat} (h:i < x.length):Bw (x.take (i+1))=Bw (x.take i)++b4 (ix x i):=by
 unfold Bw
 rw[List.take_add_one,List.getElem?_eq_getElem h,Option.toList_some,List.flatMap_append,ix,List.getD_eq_getElem?_getD,List.getElem?_eq_getElem h]
 simp
theorem Baq (v:UInt32):(b4 v).length=4:=rfl
theorem L8 (n:Nat):UInt64.ofInt (n:Int)=UInt64.ofNat n:=by
 apply UInt64.toNat_inj.1
 have e:((n:Int) % 2 ^ 64).toNat=n % 2 ^ 64:=by omega
 unfold UInt64.ofInt
 rw[UInt64.toNat_ofNat',UInt64.toNat_ofNat',e,Nat.mod_mod]
theorem Nv {α:Type} (l:List α):Al (UInt64.ofInt (l.length:Int))=Bc l:=by rw[L8];rfl
attribute [local irreducible] Af Ad Av Bh Bf A6 Aw A9
attribute [local irreducible] fdA Al Bl Bw Bc b4
set_option maxRecDepth 100000 in
set_option maxHeartbeats 1000000 in
theorem Bar (v0:Value) (l0:List UInt8) (f:FdR) (w:World) (hl0:l0.length≤300000) (ho:Own w 0 5 v0 (l0.map vU8)) (hf:f.OkX (Rz v0) w) (hsm:f.l.l.length≤1000∧f.b.l.length≤1000∧f.x.l.length≤1000):
  Calls Tryd.prog 21 #[v0,.agg (fdV f).toArray] w fun e w'=>∃v',e=.returned v'∧Own w' 0 5 v' ((l0++Lp f.fd).map vU8)∧Keeps (fun n=>v0.ownBlock=some n) w w'∧∀n,v'.ownBlock=some n→v0.ownBlock=some n∨w.heap.size≤n:=by
 obtain⟨f0,f1,f2,f3,f36,f37,f38⟩:=Ez hf.ok.s
 have fl:=Cl hf.ok.s
 have fs:=Iw hf.ok.s
 have hfs:=hf.ok.s
 have fb:=fun n=>Ix f n
 simp only[At.bnd] at fb
 obtain⟨s1,s2,s3⟩:=hsm
 generalize hq:Lp f.fd=q at*
 unfold Lp at hq
 have hq':(if f.k=0 then Al f.n else if f.k=1 then Bc f.l.l++Bl f.l.l else if f.k=2 then Bc f.b.l++f.b.l else if f.k=3 then f.s else Bc f.x.l++Bw f.x.l)=q:=hq
 have ea:(List.map (Sv.val [.s v0]) [.x (.a (.o 0)),.x (.g (fdA f))]).toArray=#[v0,.agg (fdV f).toArray]:=by
  rw[List.map_cons,List.map_cons,L1];rfl
 rw[←ea]
 refine Ajo (n:=92) Tryd.func21 rfl Tryd.ntmps21 (k0:=.u8 l0) (fun _=>rfl) ho [.x (.a (.o 0)),.x (.g (fdA f))] (by simp) (.u8 (l0++q)) (fun _=>rfl) ?_
 by_cases k0:f.k=0
 ·rw[if_pos k0] at hq'
  subst hq'
  simp (maxSteps:=10^6) only[fb,fl,f0,f1,↓Gd,k0,undef,push_cast,↓reduceIte,reduceCtorEq,Nat.reduceEqDiff,Nat.reduceLT,Nat.reduceAdd]
  (repeat (refine And.intro (by first|omega|decide) ?_))
  refine Fw rfl Ll rfl (Nu (l:=l0) f.n (by omega) (by simp only[fb,push_cast,Nat.reduceAdd]) (Fy rfl (fun _=>rfl))) (Aa rfl) (by simp only[fb,push_cast,Nat.reduceLT,Nat.reduceAdd]) ?_
  simp (maxSteps:=10^6) only[push_cast,↓reduceIte,Nat.reduceLT,Nat.reduceAdd]
  done
 rw[if_neg k0] at hq'
 by_cases k1:f.k=1
 ·rw[if_pos k1] at hq'
  have F:=FM.fw hf.l
  have e0:(f.k=0)=False:=eq_false k0
  have e1:(f.k=1)=True:=eq_true k1
  have hlv:(Bc f.l.l).length≤9:=by rw[←Nv];exact (Hu _).2
  simp (maxSteps:=10^6) only[fb,fl,f0,f2,↓Gd,e0,e1,SlR.val,undef,push_cast,↓reduceIte,reduceCtorEq,Nat.reduceEqDiff,Nat.reduceLT,Nat.reduceAdd]
  (repeat (refine And.intro (by first|omega|decide) ?_))
  refine Fw rfl Ll rfl (Nu (l:=l0) _ (by omega) (by simp only[fb,push_cast,Nat.reduceAdd]) (Fy rfl (fun _=>rfl))) (Aa rfl) (by simp only[fb,push_cast,Nat.reduceLT,Nat.reduceAdd]) ?_
  rw[Nv]
  simp (maxSteps:=10^6) only[push_cast,↓reduceIte,Nat.reduceLT,Nat.reduceAdd]
  (repeat (refine And.intro (by first|omega|decide) ?_))
  refine Bu (ι:=Nat) (fun i=>⟨[(0,.x (.a (.o 1))),(3,.x (.a (.p 0 0))),(5,.x (.a (.v (.int .i64 i))))],[.blk 32 (.c (fdA f)),.own 5 (.u8 (l0++Bc f.l.l++Bl (f.l.l.take i)))]⟩) (fun i=>i≤f.l.l.length) (fun i=>f.l.l.length - i) 0 [1,2] (by omega) ?_ ?_
  ·have e9:Bl []=[]:=by unfold Bl;rfl
   simp (maxSteps:=10^6) only[List.take_zero,e9,List.append_nil,fb,↓Nf,push_cast,↓Int.cast_ofNat_Int,Int.cast_ofNat_Int,↓reduceIte,reduceCtorEq,Nat.reduceEqDiff,Nat.reduceLT,Nat.reduceAdd]
   done
  intro i hi
  by_cases hlt:(i:Int) < f.l.l.length
  ·have i0:(0:Int)≤i:=by omega
   have hil:i < f.l.l.length:=by omega
   have d0:=F.cell i hil
   have d1:=F.ok i hil
   have hA:=F.some_ (by omega)
   have e9:=Bao hil
   have hmx:=A98 (f.l.l.take i)
   rw[List.length_take] at hmx
   simp (maxSteps:=10^6) only[fl,f2,hlt,i0,d0,d1,hA,SlR.val,undef,push_cast,↓Int.toNat_natCast,↓reduceIte,reduceCtorEq,Nat.reduceEqDiff,Nat.reduceLT,Nat.reduceAdd]
   (repeat (refine And.intro (by first|omega|decide) ?_))
   refine Fw rfl Ll rfl (Nu (l:=l0++Bc f.l.l++Bl (f.l.l.take i)) (ix f.l.l i) (by simp only[List.length_append];omega) (by simp only[fb,push_cast,Nat.reduceAdd]) (Fy rfl (fun _=>rfl))) (Aa rfl) (by simp only[fb,push_cast,Nat.reduceLT,Nat.reduceAdd]) ?_
   simp (maxSteps:=10^6) only[push_cast,↓reduceIte,reduceCtorEq,Nat.reduceEqDiff,Nat.reduceLT,Nat.reduceAdd,Int.reduceNeg]
   (repeat (refine And.intro (by first|omega|decide) ?_))
   refine Bd (i+1) [0,2] (by omega) (by omega) ?_
   simp (maxSteps:=10^6) only[fb,↓Nf,e9,List.append_assoc,push_cast,↓reduceIte,reduceCtorEq,Nat.reduceEqDiff,Nat.reduceLT,Nat.reduceAdd]
   done
  ·obtain rfl:i=f.l.l.length:=by omega
   subst hq'
   simp (maxSteps:=10^6) only[fl,f2,hlt,SlR.val,List.take_length,List.append_assoc,undef,push_cast,↓reduceIte,reduceCtorEq,Nat.reduceEqDiff,Nat.reduceLT,Nat.reduceAdd]
   done
 rw[if_neg k1] at hq'
 by_cases k2:f.k=2
 ·rw[if_pos k2] at hq'
  have F:=F8.of hf.b.fv
  have e0:(f.k=0)=False:=eq_false k0
  have e1:(f.k=1)=False:=eq_false k1
  have e2:(f.k=2)=True:=eq_true k2
  have r1:=F.rd
  have r2:=F.rdOk
  have hlv:(Bc f.b.l).length≤9:=by rw[←Nv];exact (Hu _).2
  subst hq'
  simp (maxSteps:=10^6) only[fb,fl,f0,↓Gd,e0,e1,e2,undef,push_cast,↓reduceIte,reduceCtorEq,Nat.reduceEqDiff,Nat.reduceLT,Nat.reduceAdd]
  (repeat (refine And.intro (by first|omega|decide) ?_))
  refine Akh [2] [(0,true),(1,true),(2,true),(3,true),(4,true),(6,true),(7,true),(5,false),(8,false),(9,true)] (by kernel_rfl) (by kernel_rfl) rfl (by kernel_rfl) ?_
  simp (maxSteps:=10^6) only[fl,f3,SlR.val,undef,push_cast,↓reduceIte,reduceCtorEq,Nat.reduceEqDiff,Nat.reduceLT]
  (repeat (refine And.intro (by first|omega|decide) ?_))
  refine Akg rfl Ll rfl (Nu (l:=l0) _ (by omega) (by simp only[fb,push_cast,Nat.reduceAdd]) (Fy rfl (fun _=>rfl))) (Aa rfl) (fun _=>by simp only[fb,push_cast,Nat.reduceLT,Nat.reduceAdd]) (by simp (maxSteps:=10^6) only[push_cast,Nat.reduceAdd]) ?_
  rw[Nv]
  simp (maxSteps:=10^6) only[fb,r1,r2,List.append_assoc,push_cast,↓reduceIte,Nat.reduceEqDiff,Nat.reduceLT,Nat.reduceAdd]
  omega
 rw[if_neg k2] at hq'
 by_cases k3:f.k=3
 ·rw[if_pos k3] at hq'
  subst hq'
  have e0:(f.k=0)=False:=eq_false k0
  have e1:(f.k=1)=False:=eq_false k1
  have e2:(f.k=2)=False:=eq_false k2
  have e3:(f.k=3)=True:=eq_true k3
  simp (maxSteps:=10^6) only[fb,fl,f0,↓Gd,e0,e1,e2,e3,fs,hfs,undef,push_cast,↓Int.cast_ofNat_Int,Int.cast_ofNat_Int,↓reduceIte,reduceCtorEq,Nat.reduceEqDiff,Nat.reduceLT,Nat.reduceLeDiff,Nat.reduceAdd,Nat.reduceSub,Int.reduceLE,Int.reduceLT,Int.reduceToNat]
  omega
 rw[if_neg k3] at hq'
 have F:=FM.fw hf.x
 have e0:(f.k=0)=False:=eq_false k0
 have e1:(f.k=1)=False:=eq_false k1
 have e2:(f.k=2)=False:=eq_false k2
 have e3:(f.k=3)=False:=eq_false k3
 have hlv:(Bc f.x.l).length≤9:=by rw[←Nv];exact (Hu _).2
 simp (maxSteps:=10^6) only[fb,fl,f0,f36,↓Gd,e0,e1,e2,e3,SlR.val,undef,push_cast,↓reduceIte,reduceCtorEq,Nat.reduceEqDiff,Nat.reduceLT,Nat.reduceAdd]
 (repeat (refine And.intro (by first|omega|decide) ?_))
 refine Fw rfl Ll rfl (Nu (l:=l0) _ (by omega) (by simp only[fb,push_cast,Nat.reduceAdd]) (Fy rfl (fun _=>rfl))) (Aa rfl) (by simp only[fb,push_cast,Nat.reduceLT,Nat.reduceAdd]) ?_
 rw[Nv]
 simp (maxSteps:=10^6) only[push_cast,↓reduceIte,Nat.reduceLT,Nat.reduceAdd]
 (repeat (refine And.intro (by first|omega|decide) ?_))
 refine Bu (ι:=Nat) (fun i=>⟨[(0,.x (.a (.o 1))),(3,.x (.a (.p 0 0))),(6,.x (.a (.v (.int .i64 i))))],[.blk 32 (.c (fdA f)),.own 5 (.u8 (l0++Bc f.x.l++Bw (f.x.l.take i)))]⟩) (fun i=>i≤f.x.l.length) (fun i=>f.x.l.length - i) 0 [1,2] (by omega) ?_ ?_
 ·have e9:Bw []=[]:=by unfold Bw;rfl
  simp (maxSteps:=10^6) only[List.take_zero,e9,List.append_nil,fb,↓Nf,push_cast,↓Int.cast_ofNat_Int,Int.cast_ofNat_Int,↓reduceIte,reduceCtorEq,Nat.reduceEqDiff,Nat.reduceLT,Nat.reduceAdd]
  done
 intro i hi
 by_cases hlt:(i:Int) < f.x.l.length
 ·have i0:(0:Int)≤i:=by omega
  have hil:i < f.x.l.length:=by omega
  have d0:=F.cell i hil
  have d1:=F.ok i hil
  have hA:=F.some_ (by omega)
  have e9:=Bap hil
  have hmx:=O4 (f.x.l.take i)
  rw[List.length_take] at hmx
  have hlen:(l0++Bc f.x.l++Bw (f.x.l.take i)).length+4≤400000:=by simp only[List.length_append];omega
  have b4d:=Ban (ix f.x.l i)
  have b1:(l0++Bc f.x.l++Bw (f.x.l.take i)).length+4≤140737488355328:=by omega
  have b2:(l0++Bc f.x.l++Bw (f.x.l.take i)).length+4≤2 ^ 63 - 1:=by omega
  simp (maxSteps:=10^6) only[fb,fl,f36,hlt,i0,d0,d1,hA,SlR.val,b4d,Baq,undef,push_cast,↓Int.toNat_natCast,↓reduceIte,reduceCtorEq,Nat.reduceEqDiff,Nat.reduceLT,Nat.reduceLeDiff,Nat.reduceAdd,Int.reduceNeg]
  (repeat (refine And.intro (by first|omega|decide) ?_))
  refine Bd (i+1) [0,3] (by omega) (by omega) ?_
  simp (maxSteps:=10^6) only[fb,↓Nf,e9,List.append_assoc,push_cast,↓reduceIte,reduceCtorEq,Nat.reduceEqDiff,Nat.reduceLT,Nat.reduceAdd]
  done
 ·obtain rfl:i=f.x.l.length:=by omega
  subst hq'
  simp (maxSteps:=10^6) only[fl,f36,hlt,SlR.val,List.take_length,List.append_assoc,undef,push_cast,↓reduceIte,reduceCtorEq,Nat.reduceEqDiff,Nat.reduceLT,Nat.reduceAdd]
  done
end Go.Proofs.YtiaeollemmkclaaDoor
/- caucusref13's Put as its caller sees it; what Take answers, in plain words (the reference of layer 13). -/
namespace Go.Proofs.YtiaeollemmkclaaDoor
open Go.RowKit
set_option linter.unusedSimpArgs false
set_option linter.unusedVariables false
def Dj (b:List UInt8) (most:UInt64):Nat→List UInt64→Plc→List UInt64×Plc
 |0,acc,p=>(acc,p)
 |n+1,acc,p=>if (numP b most p).2.isSome=true then Dj b most n (acc++[(numP b most p).1]) (numP b most p).2 else ([],none)
theorem Xn (b:List UInt8) (most:UInt64):∀(n:Nat) (acc:List UInt64) (p:Plc),De most n acc (pS b p)=((Dj b most n acc p).1,pS b (Dj b most n acc p).2)
 |0,acc,p=>rfl
 |n+1,acc,p=>by
  rw[De,Dj,Tp]
  simp only
  split
  ·exact Xn b most n _ _
  ·rfl
theorem Aea {b:List UInt8} {most:UInt64} {n:Nat} (hn:n≤b.length) {m:Nat} (h:(numP b most (some n)).2=some m):n+1≤m∧m≤b.length:=by
 unfold numP at h
 simp only at h
 cases hg:B9 (b.drop n) with
 |none=>rw[hg] at h;cases h
 |some q=>
  obtain⟨v,k⟩:=q
  rw[hg] at h
  simp only at h
  have h1:=(O3 hg).1
  have h2:=(Hu v).1
  have h3:=Xm hg
  rw[List.length_drop] at h3
  split at h
  ·simp only[Option.some.injEq] at h
   omega
  ·cases h
theorem Xo (b:List UInt8) (most:UInt64):∀(k:Nat) (acc:List UInt64) (n:Nat),n≤b.length→b.length - n < k→Dj b most k acc (some n)=([],none)
 |0,acc,n,_,h=>by omega
 |k+1,acc,n,hn,h=>by
  rw[Dj]
  cases hp:(numP b most (some n)).2 with
  |none=>simp
  |some m=>
   have:=Aea hn hp
   simp only[Option.isSome_some,if_true]
   exact Xo b most k _ m this.2 (by omega)
def Az (b:List UInt8) (f:Fd) (p:Plc):Plc:=
 if f.k=0 then (numP b f.most p).2
 else if f.k=1 then (match (numP b (Ai f.many) p).2 with
  |none=>none
  |some m=>(Dj b f.most (numP b (Ai f.many) p).1.toNat [] (some m)).2)
 else if f.k=2 then (match (numP b (Ai f.many) p).2 with
  |none=>none
  |some m=>if (numP b (Ai f.many) p).1.toNat≤b.length - m then some (m+(numP b (Ai f.many) p).1.toNat) else none)
 else if f.k=3 then (match p with
  |none=>none
  |some m=>if b.length - m < 32 then none else some (m+32))
 else (match (numP b (Ai f.many) p).2 with
  |none=>none
  |some m=>if (numP b (Ai f.many) p).1.toNat≤(b.length - m) / 4 then some (m+4*(numP b (Ai f.many) p).1.toNat) else none)
theorem Py (b:List UInt8) (many:Int) (e:Nat) (p:Plc):Bv many e (pS b p)=(match (numP b (Ai many) p).2 with
  |none=>(0,false,Gt)
  |some m=>if (numP b (Ai many) p).1.toNat≤(b.length - m) / e then ((numP b (Ai many) p).1.toNat,true,(b.drop m,false)) else (0,false,Gt)):=by
 unfold Bv
 rw[Tp]
 cases (numP b (Ai many) p).2 with
 |none=>rfl
 |some m=>
  simp only[Option.isSome_some,if_true,pS,List.length_drop]
theorem Hk (b:List UInt8) (f:Fd) (p:Plc) (hp:pOk b p):(Bj f (pS b p)).2=pS b (Az b f p):=by
 unfold Bj Az
 by_cases k0:f.k=0
 ·simp only[if_pos k0,Tp]
 simp only[if_neg k0]
 by_cases k1:f.k=1
 ·simp only[if_pos k1]
  unfold A5
  rw[Py]
  have hq:=H6 b (Ai f.many) hp
  cases hm:(numP b (Ai f.many) p).2 with
  |none=>rfl
  |some m=>
   rw[hm] at hq
   simp only[Nat.div_one]
   split
   ·simp only[if_true]
    have:=Xn b f.most (numP b (Ai f.many) p).1.toNat [] (some m)
    exact congrArg Prod.snd this
   ·rename_i hlt
    rw[Xo b f.most _ [] m hq (by omega)]
    rfl
 simp only[if_neg k1]
 by_cases k2:f.k=2
 ·simp only[if_pos k2]
  unfold Vv
  rw[Py]
  cases hm:(numP b (Ai f.many) p).2 with
  |none=>rfl
  |some m=>
   simp only[Nat.div_one]
   split
   ·simp only[if_true,pS,List.drop_drop]
   ·rfl
 simp only[if_neg k2]
 by_cases k3:f.k=3
 ·simp only[if_pos k3]
  unfold C9
  cases p with
  |none=>rfl
  |some m=>
   simp only[pS,List.length_drop]
   split
   ·rfl
   ·simp only[List.drop_drop]
 simp only[if_neg k3]
 unfold Dc
 rw[Py]
 cases hm:(numP b (Ai f.many) p).2 with
 |none=>rfl
 |some m=>
  simp only
  split
  ·simp only[if_true,pS,List.drop_drop]
  ·rfl
theorem Aeb (b:List UInt8) (most:UInt64):∀(n:Nat) (acc:List UInt64) (p:Plc),pOk b p→pOk b (Dj b most n acc p).2
 |0,acc,p,h=>h
 |n+1,acc,p,h=>by
  rw[Dj]
  split
  ·exact Aeb b most n _ _ (H6 b most h)
  ·trivial
theorem Hl (b:List UInt8) (f:Fd) (p:Plc) (hp:pOk b p):pOk b (Az b f p):=by
 have h0:=H6 b f.most hp
 have hq:=H6 b (Ai f.many) hp
 unfold Az
 split
 ·exact h0
 ·split
  ·cases hm:(numP b (Ai f.many) p).2 with
   |none=>trivial
   |some m=>rw[hm] at hq;exact Aeb b f.most _ [] (some m) hq
  ·split
   ·cases hm:(numP b (Ai f.many) p).2 with
    |none=>trivial
    |some m=>
     rw[hm] at hq
     have hq:m≤b.length:=hq
     simp only
     split
     ·show _≤b.length;omega
     ·trivial
   ·split
    ·cases p with
     |none=>trivial
     |some m=>
      have hp:m≤b.length:=hp
      simp only
      split
      ·trivial
      ·show _≤b.length;omega
    ·cases hm:(numP b (Ai f.many) p).2 with
     |none=>trivial
     |some m=>
      rw[hm] at hq
      have hq:m≤b.length:=hq
      simp only
      split
      ·show _≤b.length;omega
      ·trivial
end Go.Proofs.YtiaeollemmkclaaDoor
