import Derived.Test.YtiaeollemmkclaaDoorMg4
import Derived.Test.YtiaeollemmkclaaDoorPk0
import Derived.Test.YtiaeollemmkclaaDoorShA
/- Layer 16: msg.nums, msg.ints. -/
namespace Go.Proofs.YtiaeollemmkclaaDoor
open Go.RowKit
set_option linter.unusedSimpArgs false
set_option linter.unusedVariables false
theorem Nc {α:Type} [Inhabited α] (l:List α) (i:Nat) (h:i < l.length):l.take (i+1)=l.take i++[ix l i]:=by
 rw[List.take_add_one,List.getElem?_eq_getElem h,ix,List.getD_eq_getElem?_getD,List.getElem?_eq_getElem h]
 rfl
theorem Ab6 (l:List Int) (i:Nat) (h:i < l.length):Ao (l.take (i+1))=Ao (l.take i)++[UInt64.ofInt (ix l i)]:=by
 unfold Ao
 rw[Nc l i h,List.map_append]
 rfl
theorem Ab7 (l:List UInt64) (i:Nat) (h:i < l.length):Be (l.take (i+1))=Be (l.take i)++[n64 (ix l i)]:=by
 unfold Be
 rw[Nc l i h,List.map_append]
 rfl
theorem Ir (l:List Int):(Ao l).length=l.length:=by unfold Ao;rw[List.length_map]
theorem Iu (l:List UInt64):(Be l).length=l.length:=by unfold Be;rw[List.length_map]
theorem Ab8:Ao []=[]:=rfl
theorem We:Be []=[]:=rfl
attribute [local irreducible] Af Ad Av Bh Bf A6 Aw A9
attribute [local irreducible] Ao Be
section
set_option maxRecDepth 100000 in
theorem A3w (l:List Int) (A:Option Addr) (c:Nat) (w:World) (hm:l.length≤1000000) (hR:RdV w w.heap.size A (l.map (Value.int .i64))):Calls Tryd.prog 127 #[.slice A l.length c] w fun e w'=>∃x,e=.returned x∧Own w' w.heap.size 27 x ((Ao l).map vU64)∧Below w.heap.size w w':=by
 have F:=FM.of hR
 refine J4 (n:=22) Tryd.func127 rfl Tryd.ntmps127 [.x (.a (.v (.slice A l.length c)))] (by simp) 27 (.u64 (Ao l)) (fun _=>rfl) ?_
 have hl0:(0:Int)≤l.length:=by omega
 have hl8:8*(l.length:Int)≤281474976710656:=by omega
 have hl9:(l.length:Int)≤9223372036854775807:=by omega
 simp (maxSteps:=10^6) only[hl0,hl8,hl9,push_cast,↓Int.cast_ofNat_Int,Int.cast_ofNat_Int,↓reduceIte,reduceCtorEq,Nat.reduceLT,Int.reduceLE]
 refine Bu (ι:=Nat) (fun i=>⟨[(3,.x (.a (.o 0))),(9,.x (.a (.v (.slice A l.length c)))),(10,.x (.a (.v (.int .i64 l.length)))),(11,.x (.a (.v (.int .i64 i))))],[.own 27 (.u64 (Ao (l.take i)))]⟩) (fun i=>i≤l.length) (fun i=>l.length - i) 0 [0] (Nat.zero_le _) ?_ ?_
 ·simp (maxSteps:=10^6) only[Ab8,List.replicate_zero,push_cast,↓Int.cast_ofNat_Int,Int.cast_ofNat_Int,↓reduceIte,Nat.reduceEqDiff,Nat.reduceLT]
 intro i hi
 by_cases hlt:(i:Int) < l.length
 ·have hil:i < l.length:=by omega
  have hs:=Ab6 l i hil
  have hk:=Ir (l.take i)
  rw[List.length_take,Nat.min_eq_left hi] at hk
  have c0:=F.cell i hil
  have o0:=F.ok i hil
  have hA:=F.some_ (by omega)
  have b1:((Ao (l.take i)).length+1)*8≤140737488355328:=by omega
  have b2:(Ao (l.take i)).length+1≤2 ^ 63 - 1:=by omega
  have nx:(i:Int)+1≤9223372036854775807:=by omega
  have nx0:-9223372036854775808≤(i:Int)+1:=by omega
  have i0:(0:Int)≤i:=by omega
  simp (maxSteps:=10^6) only[hlt,c0,o0,hA,b1,b2,nx,nx0,i0,push_cast,↓Int.toNat_natCast,↓reduceIte,reduceCtorEq,Nat.reduceEqDiff,Nat.reduceLT,Nat.reduceLeDiff,Nat.reduceAdd,Int.reduceNeg]
  (repeat (refine And.intro (by first|omega|decide) ?_))
  refine Bd (i+1) [2] (by omega) (by omega) ?_
  simp (maxSteps:=10^6) only[hs,push_cast,↓reduceIte,Nat.reduceEqDiff,Nat.reduceLT]
  done
 ·obtain rfl:i=l.length:=by omega
  have ht:=List.take_length (l:=l)
  simp (maxSteps:=10^6) only[hlt,ht,push_cast,↓reduceIte,Nat.reduceEqDiff,Nat.reduceLT]
  done
theorem Ab9 {w0:World} {ow:Nat→Prop} {hp:List Res} {s:Sv} {l:List Int} (hm:l.length≤1000000) (h:Cx w0 ow hp s (l.map (Value.int .i64))) (hbr:∀r∈hp,Res.bnd hp.length r):Ad Tryd.prog w0 ow 127 [s] hp (.x (.a (.o hp.length))) (hp++[.own 27 (.u64 (Ao l))]):=Jz hbr trivial fun γ w hS=>by
 obtain⟨A,c,e1,b1,q1⟩:=h γ w hS
 rw[List.length_map] at e1
 show Calls _ _ #[s.val γ] w _
 rw[e1]
 exact A3w l A c w hm q1
set_option maxRecDepth 100000 in
theorem A3x (l:List UInt64) (A:Option Addr) (c:Nat) (w:World) (hm:l.length≤1000000) (hv:∀i,i < l.length→(ix l i).toNat < 2 ^ 63) (hR:RdV w w.heap.size A (l.map vU64)):Calls Tryd.prog 133 #[.slice A l.length c] w fun e w'=>∃x,e=.returned x∧Own w' w.heap.size 3 x ((Be l).map (Value.int .i64))∧Below w.heap.size w w':=by
 have F:=FM.of hR
 refine J4 (n:=22) Tryd.func133 rfl Tryd.ntmps133 [.x (.a (.v (.slice A l.length c)))] (by simp) 3 (.i64 (Be l)) (fun _=>rfl) ?_
 have hl0:(0:Int)≤l.length:=by omega
 have hl8:8*(l.length:Int)≤281474976710656:=by omega
 have hl9:(l.length:Int)≤9223372036854775807:=by omega
 simp (maxSteps:=10^6) only[hl0,hl8,hl9,push_cast,↓Int.cast_ofNat_Int,Int.cast_ofNat_Int,↓reduceIte,reduceCtorEq,Nat.reduceLT,Int.reduceLE]
 refine Bu (ι:=Nat) (fun i=>⟨[(3,.x (.a (.o 0))),(9,.x (.a (.v (.slice A l.length c)))),(10,.x (.a (.v (.int .i64 l.length)))),(11,.x (.a (.v (.int .i64 i))))],[.own 3 (.i64 (Be (l.take i)))]⟩) (fun i=>i≤l.length) (fun i=>l.length - i) 0 [0] (Nat.zero_le _) ?_ ?_
 ·simp (maxSteps:=10^6) only[We,List.replicate_zero,push_cast,↓Int.cast_ofNat_Int,Int.cast_ofNat_Int,↓reduceIte,Nat.reduceEqDiff,Nat.reduceLT]
 intro i hi
 by_cases hlt:(i:Int) < l.length
 ·have hil:i < l.length:=by omega
  have hs:=Ab7 l i hil
  have hk:=Iu (l.take i)
  rw[List.length_take,Nat.min_eq_left hi] at hk
  have c0:=F.cell i hil
  have o0:=F.ok i hil
  have hA:=F.some_ (by omega)
  have b1:((Be (l.take i)).length+1)*8≤140737488355328:=by omega
  have b2:(Be (l.take i)).length+1≤2 ^ 63 - 1:=by omega
  have nx:(i:Int)+1≤9223372036854775807:=by omega
  have nx0:-9223372036854775808≤(i:Int)+1:=by omega
  have i0:(0:Int)≤i:=by omega
  have hx0:(ix l i).toNat < 2 ^ 63:=hv i hil
  have he:n64 (ix l i)=(((ix l i).toNat:Nat):Int):=rfl
  have hx:-9223372036854775808≤n64 (ix l i):=by omega
  have hx2:n64 (ix l i)≤9223372036854775807:=by omega
  simp (maxSteps:=10^6) only[hlt,c0,o0,hA,b1,b2,nx,nx0,i0,hx,hx2,push_cast,↓Int.toNat_natCast,↓reduceIte,reduceCtorEq,Nat.reduceEqDiff,Nat.reduceLT,Nat.reduceLeDiff,Nat.reduceAdd,Int.reduceNeg]
  (repeat (refine And.intro (by first|omega|decide) ?_))
  refine Bd (i+1) [2] (by omega) (by omega) ?_
  simp (maxSteps:=10^6) only[hs,push_cast,↓reduceIte,Nat.reduceEqDiff,Nat.reduceLT]
  done
 ·obtain rfl:i=l.length:=by omega
  have ht:=List.take_length (l:=l)
  simp (maxSteps:=10^6) only[hlt,ht,push_cast,↓reduceIte,Nat.reduceEqDiff,Nat.reduceLT]
  done
theorem A3y {w0:World} {ow:Nat→Prop} {hp:List Res} {s:Sv} {l:List UInt64} (hm:l.length≤1000000) (hv:∀i,i < l.length→(ix l i).toNat < 2 ^ 63) (h:Cx w0 ow hp s (l.map vU64)) (hbr:∀r∈hp,Res.bnd hp.length r):Ad Tryd.prog w0 ow 133 [s] hp (.x (.a (.o hp.length))) (hp++[.own 3 (.i64 (Be l))]):=Jz hbr trivial fun γ w hS=>by
 obtain⟨A,c,e1,b1,q1⟩:=h γ w hS
 rw[List.length_map] at e1
 show Calls _ _ #[s.val γ] w _
 rw[e1]
 exact A3x l A c w hm hv q1
end
end Go.Proofs.YtiaeollemmkclaaDoor
/- Digits of a number, as they are shifted out and in. No program in sight. -/
namespace Go.Proofs.YtiaeollemmkclaaDoor
theorem Aca:∀(k v j:Nat),j < k→ix (dgV k v) j=UInt8.ofNat (v / 256 ^ (k - 1 - j) % 256)
 |0,_,_,h=>absurd h (Nat.not_lt_zero _)
 |k+1,v,j,h=>by
  have hl:=Gr k (v / 256)
  rw[dgV]
  unfold ix
  by_cases hj:j < k
  ·have ih:=Aca k (v / 256) j hj
   unfold ix at ih
   rw[List.getD_eq_getElem?_getD,List.getElem?_append_left (by omega),←List.getD_eq_getElem?_getD,ih,Nat.div_div_eq_div_mul,show k+1 - 1 - j=(k - 1 - j)+1 by omega,Nat.pow_succ,Nat.mul_comm 256]
  ·obtain rfl:j=k:=by omega
   rw[List.getD_eq_getElem?_getD,List.getElem?_append_right (by omega),hl]
   simp
theorem A3z (v:UInt64) (i:Nat) (h:i < 8):(Bo v (8*i)).toUInt8=UInt8.ofNat (v.toNat / 256 ^ i % 256):=by
 have h8:8*i < 64:=by omega
 unfold Bo
 rw[if_pos h8]
 apply UInt8.toNat_inj.1
 have e:(UInt64.ofNat (8*i)).toNat=8*i:=by rw[UInt64.toNat_ofNat'];exact Nat.mod_eq_of_lt (Nat.lt_trans h8 (by decide))
 rw[UInt64.toNat_toUInt8,UInt64.toNat_shiftRight,e,UInt8.toNat_ofNat',Nat.shiftRight_eq_div_pow,Nat.mod_eq_of_lt h8,show (256:Nat)=2 ^ 8 from rfl,←Nat.pow_mul,Nat.mod_mod]
theorem A30 (v:UInt64) (h:1≤v.toNat):(Nat.log2 v.toNat+1+7) / 8=nb8 v:=by
 have hb:=M3 v
 obtain⟨h1,h2⟩:=Si v h
 rw[show (256:Nat)=2 ^ 8 from rfl,←Nat.pow_mul] at h1 h2
 have h3:8*(nb8 v - 1)≤Nat.log2 v.toNat:=(Nat.le_log2 (by omega)).2 h1
 have h4:Nat.log2 v.toNat < 8*nb8 v:=(Nat.log2_lt (by omega)).2 h2
 omega
theorem A31 (v:UInt64) (x:UInt8) (h:v.toNat < 2 ^ 56):(Ju v 8|||x.toUInt64)=UInt64.ofNat (256*v.toNat+x.toNat):=by
 have hx:=x.toNat_lt
 unfold Ju
 rw[if_pos (by decide)]
 apply UInt64.toNat_inj.1
 have e:(UInt64.ofNat 8).toNat=8:=rfl
 rw[UInt64.toNat_or,UInt64.toNat_shiftLeft,e,UInt8.toNat_toUInt64,UInt64.toNat_ofNat',Nat.mod_eq_of_lt (by decide:8 < 64),Nat.shiftLeft_eq,Nat.mod_eq_of_lt (by omega),Nat.mod_eq_of_lt (by omega),Nat.mul_comm,show (256:Nat)=2 ^ 8 from rfl]
 exact (Nat.two_pow_add_eq_or_of_lt (by omega) _).symm
end Go.Proofs.YtiaeollemmkclaaDoor
/- copy, as the engine sees it: onto a slice of the call's own, a part of one, or an array. No program in sight. -/
namespace Go.Proofs.YtiaeollemmkclaaDoor
open Go.RowKit
set_option linter.unusedSimpArgs false
section
variable {P:Program} {w0 w:World} {ow:Nat→Prop} {γ:List Nm} {hp hp':List Res} {c:Prop} {v:Sv} {t:TypeId}
def Cont.lay (l:Nat):Cont→Cont→Option Cont
 | .u8 a,.u8 b=>some (.u8 (a.take l++(b++a.drop (l+b.length))))
 | .i64 a,.i64 b=>some (.i64 (a.take l++(b++a.drop (l+b.length))))
 |_,_=>none
theorem Cont.lay_vals {ct m c':Cont} {l:Nat} (h:ct.lay l m=some c'):c'.vals γ=(ct.vals γ).take l++(m.vals γ++(ct.vals γ).drop (l+(m.vals γ).length)):=by
 unfold Cont.lay at h
 split at h<;>simp only[Option.some.injEq,reduceCtorEq] at h<;>subst h<;>simp [Cont.vals,List.map_take,List.map_drop]
theorem Cont.lay_one {ct m c':Cont} {l:Nat} (h:ct.lay l m=some c'):∀u∈m.vals γ,u.oneCell'=true:=by
 unfold Cont.lay at h
 split at h<;>simp only[Option.some.injEq,reduceCtorEq] at h<;>simp [Cont.vals,Value.oneCell']
def Res.with (hp:List Res) (k:Nat) (c:Cont):Res:=match hp[k]? with
 |some (.own e _)=>.own e c
 |some (.pin g t _)=>.pin g t c
 |some (.blk t _)=>.blk t c
 |_=>.gone
def Kg (hp:List Res):Sv→Option (Nat×Cont×Nat×Nat)
 | .x (.a (.o k))=>match hp[k]? with|some (.own _ ct)=>some (k,ct,0,ct.len)|_=>none
 | .x (.a (.z k l m))=>match hp[k]? with|some (.own _ ct)=>some (k,ct,l,m)|_=>none
 | .x (.a (.s k off m _))=>match hp[k]? with|some (.blk _ ct)=>some (k,ct,off,m)|some (.pin _ _ ct)=>some (k,ct,off,m)|_=>none
 |_=>none
def Lx (P:Program) (w0:World) (ow:Nat→Prop) (t:TypeId) (hp:List Res) (b x:Sv):R:=
 match P.underlying t with
 |some (.slice e)=>match Kg hp b,Ku w0 ow hp (P.underlying e) x with
  |some (k,ct,off,m),some (h,q)=>match q.cut 0 (min q.len m) with
   |some q'=>match ct.lay off q' with
    |some c'=>some (h∧off+m≤ct.len∧sz P e=1,.x (.a (.v (.int .i64 ((min q.len m:Nat):Int)))),hp.set k (Res.with hp k c'))
    |none=>none
   |none=>none
  |_,_=>none
 |_=>none
theorem A32 {b:Sv} {k off m:Nat} {ct:Cont} (hS:Sat w0 ow γ hp w) (h:Kg hp b=some (k,ct,off,m)) (hm:off+m≤ct.len) (h0:0 < m):
  ∃g e cur cap2,b.val γ=.slice (some ⟨g,off,none⟩) m cap2∧Blk w g e (cur:List Value).toArray∧ct.len≤cur.length∧cur.take ct.len=ct.vals γ∧
   ∀(c':Cont) (w':World) (q:List Value),c'.vals γ=(ct.vals γ).take off++(q++(ct.vals γ).drop (off+q.length))→q.length≤m→Blk w' g e (cur.take off++(q++cur.drop (off+q.length))).toArray→Keeps (·=g) w w'→Sat w0 ow γ (hp.set k (Res.with hp k c')) w':=by
 have own:∀{k:Nat} {e:TypeId} {ct:Cont} (off m:Nat),hp[k]?=some (.own e ct)→off+m≤ct.len→0 < m→∃g cap cur,nmS γ k=.slice (some ⟨g,0,none⟩) ct.len cap∧ct.len≤cap∧Blk w g e (cur:List Value).toArray∧ct.len≤cur.length∧cur.take ct.len=ct.vals γ∧
   ∀(c':Cont) (w':World) (q:List Value),c'.vals γ=(ct.vals γ).take off++(q++(ct.vals γ).drop (off+q.length))→q.length≤m→Blk w' g e (cur.take off++(q++cur.drop (off+q.length))).toArray→Keeps (·=g) w w'→Sat w0 ow γ (hp.set k (Res.with hp k c')) w':=by
  intro k e ct off m hr hm h0
  obtain⟨hn,ho⟩:=hS.own hr
  have ho':=ho
  obtain⟨h1,⟨h2,h3⟩|⟨g,cap,cur,hv,hb,hh,hnc,hcap,hs,ht⟩⟩:=ho
  ·rw[Cont.len_vals] at h3;omega
  rw[Nat.mul_one] at ht hs
  have hcl:(ct.vals γ).length=ct.len:=Cont.len_vals ct
  rw[hcl] at hv hnc ht
  refine⟨g,cap,cur.toList,hv,hnc,hh,by simp;omega,ht,fun c' w' q hc' hq hb' hk=>?_⟩
  have hlq:(c'.vals γ).length=ct.len:=by rw[hc'];simp [hcl];omega
  refine hS.update hr (b:=g) (by simp [Res.has,hv,Value.ownBlock]) hk ?_ (.inl (by simp [Res.with,hr,Res.has,hv,Value.ownBlock]))
  simp only[Res.with,hr]
  refine⟨hn,?_⟩
  unfold Own World.ownsRow
  refine⟨by rw[Nat.mul_one],.inr ⟨g,cap,_,by rw[hlq];exact hv,hb,hb',by omega,hcap,by simp;omega,?_⟩⟩
  rw[Nat.mul_one,hlq,hc',←ht]
  simp only[List.take_append,List.take_take,List.drop_take,List.length_take,Array.length_toList]
  rw[Nat.min_eq_left (by omega:off≤ct.len),Nat.min_eq_right (by omega:off≤ct.len),Nat.min_eq_left (by omega:off≤cur.size),List.take_of_length_le (i:=ct.len - off) (by omega:q.length≤_),Nat.sub_sub]
 unfold Kg at h
 split at h
 ·rename_i k'
  split at h<;>simp only[Option.some.injEq,Prod.mk.injEq,reduceCtorEq] at h
  rename_i hr
  obtain⟨rfl,rfl,rfl,rfl⟩:=h
  obtain⟨g,cap,cur,h1,_,h2,h3,h4,h5⟩:=own 0 _ hr hm h0
  exact⟨g,_,cur,cap,h1,h2,h3,h4,h5⟩
 ·rename_i k' l' m'
  split at h<;>simp only[Option.some.injEq,Prod.mk.injEq,reduceCtorEq] at h
  rename_i hr
  obtain⟨rfl,rfl,rfl,rfl⟩:=h
  obtain⟨g,cap,cur,h1,h6,h2,h3,h4,h5⟩:=own l' m' hr hm h0
  refine⟨g,_,cur,cap - l',?_,h2,h3,h4,h5⟩
  show (match nmS γ k' with| .slice A _ cap=>Value.slice (Ch A l' cap) m' (cap - l')|_=>undef)=_
  rw[h1]
  simp only[Ch,if_neg (by omega:¬cap=l'),Ar,Option.map_some,Cm,Nat.zero_add]
 ·rename_i k' off' m' cap'
  have blk:∀{t:TypeId} {ct:Cont},B3 hp[k']?=some (t,ct)→(∀c',Res.with hp k' c'=bput hp[k']? t c')→off'+m'≤ct.len→∃g e cur cap2,(Sv.x (.a (.s k' off' m' cap'))).val γ=.slice (some ⟨g,off',none⟩) m' cap2∧Blk w g e (cur:List Value).toArray∧ct.len≤cur.length∧cur.take ct.len=ct.vals γ∧
   ∀(c':Cont) (w':World) (q:List Value),c'.vals γ=(ct.vals γ).take off'++(q++(ct.vals γ).drop (off'+q.length))→q.length≤m'→Blk w' g e (cur.take off'++(q++cur.drop (off'+q.length))).toArray→Keeps (·=g) w w'→Sat w0 ow γ (hp.set k' (Res.with hp k' c')) w':=by
   intro t ct hr hw hm
   obtain⟨hn,hb,r,hr0,h1,h2,h3⟩:=hS.bv hr
   refine⟨nmB γ k',t,ct.vals γ,cap',rfl,hb,by rw[Cont.len_vals];exact Nat.le_refl _,by rw[←Cont.len_vals (γ:=γ),List.take_length],fun c' w' q hc' hq hb' hk=>?_⟩
   rw[←hc'] at hb'
   rw[hw]
   exact hS.update hr0 (b:=nmB γ k') (by rw[h1]) hk (h3 _ _ hb') (.inl (h2 _))
  split at h<;>simp only[Option.some.injEq,Prod.mk.injEq,reduceCtorEq] at h<;>rename_i hr<;>obtain⟨rfl,rfl,rfl,rfl⟩:=h
  ·exact blk (by rw[hr];rfl) (fun c'=>by simp [Res.with,bput,hr]) hm
  ·exact blk (by rw[hr];rfl) (fun c'=>by simp [Res.with,bput,hr]) hm
 ·cases h
theorem Pf {α:Type} {l:List α} {k:Nat} {r:α} (h:l[k]?=some r):l.set k r=l:=by
 obtain⟨hk,rfl⟩:=List.getElem?_eq_some_iff.1 h
 simp
theorem A33 {b:Sv} {k off m:Nat} {ct:Cont} (hS:Sat w0 ow γ hp w) (h:Kg hp b=some (k,ct,off,m)):(∃A cap,b.val γ=.slice A m cap)∧hp.set k (Res.with hp k ct)=hp:=by
 unfold Kg at h
 split at h
 ·rename_i k'
  split at h<;>simp only[Option.some.injEq,Prod.mk.injEq,reduceCtorEq] at h
  rename_i hr
  obtain⟨rfl,rfl,rfl,rfl⟩:=h
  obtain⟨A,cap,h1,_⟩:=hS.rdOwn hr
  exact⟨⟨A,cap,h1⟩,by simp only[Res.with,hr];exact Pf hr⟩
 ·rename_i k' l' m'
  split at h<;>simp only[Option.some.injEq,Prod.mk.injEq,reduceCtorEq] at h
  rename_i hr
  obtain⟨rfl,rfl,rfl,rfl⟩:=h
  obtain⟨A,cap,h1,_⟩:=hS.rdOwn hr
  exact⟨⟨Ch A l' cap,cap - l',by simp only[Sv.val,Sc.val,At.val,h1]⟩,by simp only[Res.with,hr];exact Pf hr⟩
 ·split at h<;>simp only[Option.some.injEq,Prod.mk.injEq,reduceCtorEq] at h<;>rename_i hr<;>obtain⟨rfl,rfl,rfl,rfl⟩:=h
  ·exact⟨⟨_,_,rfl⟩,by simp only[Res.with,hr];exact Pf hr⟩
  ·exact⟨⟨_,_,rfl⟩,by simp only[Res.with,hr];exact Pf hr⟩
 ·cases h
theorem Cont.lay_nil {ct m c':Cont} {l:Nat} (h:ct.lay l m=some c') (hm:m.len=0):c'=ct:=by
 unfold Cont.lay at h
 split at h<;>simp only[Option.some.injEq,reduceCtorEq] at h<;>subst h
 ·rename_i a b
  obtain rfl:b=[]:=List.eq_nil_of_length_eq_zero hm
  simp
 ·rename_i a b
  obtain rfl:b=[]:=List.eq_nil_of_length_eq_zero hm
  simp
theorem A34 {b x:Sv} {t' ty:TypeId} (hS:Sat w0 ow γ hp w) (hbr:∀r∈hp,Res.bnd hp.length r) (h:Lx P w0 ow t hp b x=some (c,v,hp')) (hc:c):
  ∃w',(Builtin.copy_ #[t,t'] ty #[b.val γ,x.val γ]).run P w=.ok (v.val γ) w'∧Sat w0 ow γ hp' w'∧hp'.length=hp.length:=by
 unfold Lx at h
 split at h
 ·rename_i e hu
  split at h
  ·rename_i k ct off m hq q hd hs
   split at h
   ·rename_i q' hcut
    split at h
    ·rename_i c' hlay
     simp only[Option.some.injEq,Prod.mk.injEq] at h
     obtain⟨rfl,rfl,rfl⟩:=h
     obtain⟨h1,h2,h3⟩:=hc
     obtain⟨A,cap,B,hx,hR,_⟩:=U6 hS hbr hs h1
     have hqv:=Cont.cut_vals (γ:=γ) hcut
     rw[List.drop_zero] at hqv
     have hql:(q'.vals γ).length=min q.len m:=by rw[hqv,List.length_take,Cont.len_vals];omega
     obtain⟨i,hi,hsz⟩:=Fg h3 (by omega)
     have hinf:(P.info? e).map (·.size)=some 1:=by rw[hi];simp [hsz]
     have hR':RdV w B A (q'.vals γ):=by rw[hqv];exact hR.take' _
     rcases Nat.eq_zero_or_pos m with rfl|hm
     ·obtain⟨⟨A2,cap2,hb⟩,hsame⟩:=A33 hS hd
      have hc':c'=ct:=Cont.lay_nil hlay (by rw[←Cont.len_vals (γ:=γ),hql];omega)
      subst hc'
      refine⟨w,?_,by rw[hsame];exact hS,by simp⟩
      rw[hb,hx]
      rw[run_copy_none (P:=P) w t t' ty e A2 A 0 cap2 q.len cap hu hinf (by simp)]
      simp [Sv.val,Sc.val,At.val,goInt]
     ·obtain⟨g,ee,cur,cap2,hb,hblk,hl,ht,hK⟩:=A32 hS hd h2 hm
      obtain⟨w2,hr,hb2,hk2⟩:=Afw (P:=P) w t t' e g off m cap2 A q.len cap B cur ee (q'.vals γ) hu hinf hblk (by rw[hql]) hR' (by rw[hql];omega) (Cont.lay_one hlay)
      refine⟨w2,?_,hK c' w2 (q'.vals γ) (Cont.lay_vals hlay) (by rw[hql];omega) hb2 hk2,by simp⟩
      rw[hb,hx,hr ty,hql]
      rfl
    ·cases h
   ·cases h
  ·cases h
 ·cases h
end
section
variable {P:Program} {w0:World} {ow:Nat→Prop} {n:Nat} {s:S}
theorem Wf {ops:List Oper} {o:Oper} {rest:List Oper} {x y:Operand} {t t':TypeId} {K:S→Prop} {a b v:Sv} {hp':List Res} {c:Prop} (ho:o.op=.call {callee:=.builtin .copy,args:=#[x,y],argTypes:=#[t,t']})
  (h1:Fr.ev s.fr x=some a) (h2:Fr.ev s.fr y=some b) (hcp:Lx P w0 ow t s.hp a b=some (c,v,hp')) (hc:c) (hd:dOk n o.dst) (hb:s.bnd) (h:Aw P w0 ow n ops rest (S.put ⟨s.fr,hp'⟩ o.dst v) K):Av P w0 ow n ops o rest s K:=by
 rintro A w ⟨γ,hfit⟩ hw
 unfold wpList
 rw[if_pos hw]
 refine .inl ?_
 obtain⟨w',hr,hS',_⟩:=A34 (P:=P) (t':=t') (ty:=o.type) hfit.sat hb.2 hcp hc
 unfold Oper.wp
 rw[Afv x y t t' ho _ _ (hfit.ev h1) (hfit.ev h2) _ _ hr]
 exact G8 rest _ _ _ h ⟨γ,hfit.put hS' (fun t sv ht=>rfl) hd rfl⟩
end
end Go.Proofs.YtiaeollemmkclaaDoor
