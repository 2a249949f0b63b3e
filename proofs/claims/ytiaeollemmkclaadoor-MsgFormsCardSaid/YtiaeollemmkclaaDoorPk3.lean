import Derived.Test.YtiaeollemmkclaaDoorCp
import Derived.Test.YtiaeollemmkclaaDoorPk1
import Derived.Test.YtiaeollemmkclaaDoorPreA
/- varint: the size of a number, and its bytes (layer 11). -/
namespace Go.Proofs.YtiaeollemmkclaaDoor
open Go.RowKit
set_option linter.unusedSimpArgs false
set_option linter.unusedVariables false
def blN (n:Nat):Nat:=if n=0 then 0 else Nat.log2 n+1
structure LenT (T:ByteArray):Prop where
 size:T.size=256
 at_:∀x:UInt8,sAt T x.toNat=UInt8.ofNat (blN x.toNat)
theorem LenT.of {T:ByteArray} (h0:T.size=256) (h:∀i:_root_.Fin 256,sAt T i.val=UInt8.ofNat (blN i.val)):LenT T:=⟨h0,fun x=>h ⟨x.toNat,x.toNat_lt⟩⟩
theorem A39 {a:Nat} (n k:Nat) (h:2 ^ k≤n) (e:n / 2 ^ k=a):blN n=k+blN a:=by
 subst e
 have hp:=Nat.two_pow_pos k
 have h0:n≠0:=by omega
 have h1:n / 2 ^ k≠0:=by
  have:=(Nat.le_div_iff_mul_le hp).2 (by omega:1*2 ^ k≤n)
  omega
 unfold blN
 rw[if_neg h0,if_neg h1]
 have h2:Nat.log2 n=k+Nat.log2 (n / 2 ^ k):=by
  apply (Nat.log2_eq_iff h0).2
  obtain⟨g1,g2⟩:=(Nat.log2_eq_iff h1).1 rfl
  have g3:=Nat.div_add_mod n (2 ^ k)
  have g4:=Nat.mod_lt n hp
  constructor
  ·rw[Nat.pow_add]
   have:=Nat.mul_le_mul_left (2 ^ k) g1
   omega
  ·rw[Nat.add_assoc,Nat.pow_add]
   have:=Nat.mul_le_mul_left (2 ^ k) (Nat.succ_le_of_lt g2)
   rw[Nat.mul_succ] at this
   omega
 omega
theorem Acf {n k:Nat} (h:n < 2 ^ k):blN n≤k:=by
 unfold blN
 split
 ·omega
 ·rename_i h0
  have:=(Nat.log2_lt h0).2 h
  omega
theorem Acg (v:UInt64) (k:Nat) (h:k < 64):(Bo v k).toNat=v.toNat / 2 ^ k:=by
 unfold Bo
 rw[if_pos h,UInt64.toNat_shiftRight,UInt64.toNat_ofNat',Nat.shiftRight_eq_div_pow]
 congr 2
 omega
def D6 (v:UInt64):Int:=(blN v.toNat:Int)
theorem A4a (v:UInt64) (k:Nat) (h:k < 64) (hv:2 ^ k≤v.toNat):D6 v=(k:Int)+D6 (Bo v k):=by
 unfold D6
 rw[A39 v.toNat k hv rfl,Acg v k h]
 push_cast
theorem A4b {T:ByteArray} (hT:LenT T) (v:UInt64) (h:v.toNat < 256):(n8 (sAt T v.toUInt8.toNat):Int)=D6 v:=by
 have e:v.toUInt8.toNat=v.toNat:=by simp;omega
 have hb:=Acf (n:=v.toNat) (k:=8) h
 rw[hT.at_,e]
 unfold n8 D6
 rw[UInt8.toNat_ofNat']
 omega
attribute [local irreducible] Af Ad Av Bh Bf A6 Aw A9
set_option maxRecDepth 100000 in
theorem A4c (v:UInt64) (w:World):Calls Tryd.prog 167 #[vU64 v] w fun e w'=>e=.returned (.int .i64 (D6 v))∧Below w.heap.size w w':=by
 refine By (n:=25) Tryd.func167 rfl Tryd.ntmps167 [.x (.a (.v (vU64 v)))] (by simp) (.x (.a (.v (.int .i64 (D6 v))))) (fun _=>rfl) ?_
 generalize hT:ByteArray.mk _=T
 have T0:LenT T:=by
  subst hT
  exact LenT.of (by decide+kernel) (by decide+kernel)
 clear hT
 have hs:=T0.size
 have key:∀x:UInt64,x.toNat < 256→D6 x=n8 (sAt T x.toUInt8.toNat):=fun x h=>(A4b T0 x h).symm
 have hn:∀x:UInt8,(n8 x).toNat=x.toNat:=fun x=>Int.toNat_natCast _
 have hb:∀x:UInt8,(0:Int)≤n8 x∧n8 x < 256:=fun x=>⟨Int.natCast_nonneg _,by have:=x.toNat_lt;unfold n8;omega⟩
 have st:∀(x:UInt64) (k:Nat) (K:UInt64),k < 64→K.toNat=2 ^ k→K≤x→D6 x=(k:Int)+D6 (Bo x k):=fun x k K h hK hx=>A4a x k h (by rw[←hK];exact UInt64.le_iff_toNat_le.1 hx)
 have s1:=st v 32 4294967296 (by decide) (by decide)
 have lt:∀(x:UInt64) (k m:Nat),k < 64→x.toNat < 2 ^ (k+m)→(Bo x k).toNat < 2 ^ m:=fun x k m hk hx=>by
  rw[Acg x k hk,Nat.div_lt_iff_lt_mul (Nat.two_pow_pos k),←Nat.pow_add,Nat.add_comm m k]
  exact hx
 have no:∀(x K:UInt64),¬K≤x→x.toNat < K.toNat:=fun x K h=>by
  rcases Nat.lt_or_ge x.toNat K.toNat with g|g
  ·exact g
  ·exact absurd (UInt64.le_iff_toNat_le.2 g) h
 have run:∀(y:UInt64) (c:Int),y.toNat < 256→0≤c→c≤56→D6 v=c+D6 y→(0:Int)≤n8 y.toUInt8∧n8 y.toUInt8 < 256∧-9223372036854775808≤c+n8 (sAt T y.toUInt8.toNat)∧c+n8 (sAt T y.toUInt8.toNat)≤9223372036854775807∧c+n8 (sAt T y.toUInt8.toNat)=D6 v:=fun y c hy h0 h1 h2=>by
  have:=key y hy
  have:=hb (sAt T y.toUInt8.toNat)
  have:=hb y.toUInt8
  omega
 by_cases g1:(4294967296:UInt64)≤v
 ·have eg1:=st (v) 32 4294967296 (by decide) (by decide) g1
  by_cases g2:(65536:UInt64)≤Bo v 32
  ·have eg2:=st (Bo v 32) 16 65536 (by decide) (by decide) g2
   by_cases g3:(256:UInt64)≤Bo (Bo v 32) 16
   ·have eg3:=st (Bo (Bo v 32) 16) 8 256 (by decide) (by decide) g3
    have hy:(Bo (Bo (Bo v 32) 16) 8).toNat < 256:=lt (Bo (Bo v 32) 16) 8 8 (by decide) (lt (Bo v 32) 16 16 (by decide) (lt (v) 32 32 (by decide) (Nat.lt_of_lt_of_le v.toNat_lt (by decide))))
    obtain⟨r1,r2,r3,r4,r5⟩:=run (Bo (Bo (Bo v 32) 16) 8) 56 hy (by decide) (by decide) (by omega)
    simp (maxSteps:=10^6) only[g1,g2,g3,hs,hn,r1,r2,r5,push_cast,↓Int.cast_ofNat_Int,Int.cast_ofNat_Int,↓reduceIte,reduceCtorEq,Nat.reduceEqDiff,Nat.reduceLT,Int.reduceNeg,Int.reduceLE,Int.reduceToNat,Int.reduceAdd]
    all_goals (first|exact r5|omega)
   ·have ng3:=no (Bo (Bo v 32) 16) 256 g3
    have hy:(Bo (Bo v 32) 16).toNat < 256:=by have:=ng3;exact this
    obtain⟨r1,r2,r3,r4,r5⟩:=run (Bo (Bo v 32) 16) 48 hy (by decide) (by decide) (by omega)
    simp (maxSteps:=10^6) only[g1,g2,g3,hs,hn,r1,r2,r5,push_cast,↓Int.cast_ofNat_Int,Int.cast_ofNat_Int,↓reduceIte,reduceCtorEq,Nat.reduceEqDiff,Nat.reduceLT,Int.reduceNeg,Int.reduceLE,Int.reduceToNat,Int.reduceAdd]
    all_goals (first|exact r5|omega)
  ·have ng2:=no (Bo v 32) 65536 g2
   by_cases g3:(256:UInt64)≤Bo v 32
   ·have eg3:=st (Bo v 32) 8 256 (by decide) (by decide) g3
    have hy:(Bo (Bo v 32) 8).toNat < 256:=lt (Bo v 32) 8 8 (by decide) (by have:=ng2;exact this)
    obtain⟨r1,r2,r3,r4,r5⟩:=run (Bo (Bo v 32) 8) 40 hy (by decide) (by decide) (by omega)
    simp (maxSteps:=10^6) only[g1,g2,g3,hs,hn,r1,r2,r5,push_cast,↓Int.cast_ofNat_Int,Int.cast_ofNat_Int,↓reduceIte,reduceCtorEq,Nat.reduceEqDiff,Nat.reduceLT,Int.reduceNeg,Int.reduceLE,Int.reduceToNat,Int.reduceAdd]
    all_goals (first|exact r5|omega)
   ·have ng3:=no (Bo v 32) 256 g3
    have hy:(Bo v 32).toNat < 256:=by have:=ng3;exact this
    obtain⟨r1,r2,r3,r4,r5⟩:=run (Bo v 32) 32 hy (by decide) (by decide) (by omega)
    simp (maxSteps:=10^6) only[g1,g2,g3,hs,hn,r1,r2,r5,push_cast,↓Int.cast_ofNat_Int,Int.cast_ofNat_Int,↓reduceIte,reduceCtorEq,Nat.reduceEqDiff,Nat.reduceLT,Int.reduceNeg,Int.reduceLE,Int.reduceToNat]
    all_goals (first|exact r5|omega)
 ·have ng1:=no (v) 4294967296 g1
  by_cases g2:(65536:UInt64)≤v
  ·have eg2:=st (v) 16 65536 (by decide) (by decide) g2
   by_cases g3:(256:UInt64)≤Bo v 16
   ·have eg3:=st (Bo v 16) 8 256 (by decide) (by decide) g3
    have hy:(Bo (Bo v 16) 8).toNat < 256:=lt (Bo v 16) 8 8 (by decide) (lt (v) 16 16 (by decide) (by have:=ng1;exact this))
    obtain⟨r1,r2,r3,r4,r5⟩:=run (Bo (Bo v 16) 8) 24 hy (by decide) (by decide) (by omega)
    simp (maxSteps:=10^6) only[g1,g2,g3,hs,hn,r1,r2,r5,push_cast,↓Int.cast_ofNat_Int,Int.cast_ofNat_Int,↓reduceIte,reduceCtorEq,Nat.reduceEqDiff,Nat.reduceLT,Int.reduceNeg,Int.reduceLE,Int.reduceToNat,Int.reduceAdd]
    all_goals (first|exact r5|omega)
   ·have ng3:=no (Bo v 16) 256 g3
    have hy:(Bo v 16).toNat < 256:=by have:=ng3;exact this
    obtain⟨r1,r2,r3,r4,r5⟩:=run (Bo v 16) 16 hy (by decide) (by decide) (by omega)
    simp (maxSteps:=10^6) only[g1,g2,g3,hs,hn,r1,r2,r5,push_cast,↓Int.cast_ofNat_Int,Int.cast_ofNat_Int,↓reduceIte,reduceCtorEq,Nat.reduceEqDiff,Nat.reduceLT,Int.reduceNeg,Int.reduceLE,Int.reduceToNat,Int.reduceAdd]
    all_goals (first|exact r5|omega)
  ·have ng2:=no (v) 65536 g2
   by_cases g3:(256:UInt64)≤v
   ·have eg3:=st (v) 8 256 (by decide) (by decide) g3
    have hy:(Bo v 8).toNat < 256:=lt (v) 8 8 (by decide) (by have:=ng2;exact this)
    obtain⟨r1,r2,r3,r4,r5⟩:=run (Bo v 8) 8 hy (by decide) (by decide) (by omega)
    simp (maxSteps:=10^6) only[g1,g2,g3,hs,hn,r1,r2,r5,push_cast,↓Int.cast_ofNat_Int,Int.cast_ofNat_Int,↓reduceIte,reduceCtorEq,Nat.reduceEqDiff,Nat.reduceLT,Int.reduceNeg,Int.reduceLE,Int.reduceToNat,Int.reduceAdd]
    all_goals (first|exact r5|omega)
   ·have ng3:=no (v) 256 g3
    have hy:(v).toNat < 256:=by have:=ng3;exact this
    obtain⟨r1,r2,r3,r4,r5⟩:=run (v) 0 hy (by decide) (by decide) (by omega)
    simp (maxSteps:=10^6) only[g1,g2,g3,hs,hn,r1,r2,r5,push_cast,↓Int.cast_ofNat_Int,Int.cast_ofNat_Int,↓reduceIte,reduceCtorEq,Nat.reduceEqDiff,Nat.reduceLT,Int.reduceNeg]
    all_goals (first|exact r5|omega)
end Go.Proofs.YtiaeollemmkclaaDoor
/- varint.Size, varint.Put onto nothing, varint.Get; pack.number (layers 11, 13). -/
namespace Go.Proofs.YtiaeollemmkclaaDoor
open Go.RowKit
set_option linter.unusedSimpArgs false
set_option linter.unusedVariables false
theorem Ach {v:UInt64} (h:¬v < 248):248≤v.toNat:=Nat.not_lt.1 fun hc=>h (UInt64.lt_iff_toNat_lt.2 hc)
theorem Pg {v:UInt64} (h:v < 248):Al v=[v.toUInt8]:=if_pos h
theorem Wj {v:UInt64} (h:¬v < 248):Al v=UInt8.ofNat (247+nb8 v)::dgV (nb8 v) v.toNat:=if_neg h
theorem Aci {v:UInt64} (h:¬v < 248):(Al v).length=nb8 v+1:=by rw[Wj h,List.length_cons,Gr]
theorem A4d {v:UInt64} (h:¬v < 248):0≤D6 v∧D6 v≤64∧(D6 v+7).tdiv 8=(nb8 v:Int):=by
 have hn:=Ach h
 have h1:=A30 v (by omega)
 have h2:blN v.toNat=Nat.log2 v.toNat+1:=if_neg (by omega)
 have h3:=Acf (n:=v.toNat) (k:=64) v.toNat_lt
 unfold D6
 refine⟨by omega,by omega,?_⟩
 rw[Int.tdiv_eq_ediv_of_nonneg (by omega)]
 omega
theorem Acj (n:Nat):UInt8.ofInt (n:Int)=UInt8.ofNat n:=by
 apply UInt8.toNat_inj.1
 have e:((n:Int) % 2 ^ 8).toNat=n % 2 ^ 8:=by omega
 unfold UInt8.ofInt
 rw[UInt8.toNat_ofNat',UInt8.toNat_ofNat',e,Nat.mod_mod]
theorem A4e (w:World):rd8 w none 0=[]∧Rd8 w No none 0:=⟨rfl,RdV.nil_,fun _ a h=>by cases h⟩
attribute [local irreducible] Af Ad Av Bh Bf A6 Aw A9
attribute [local irreducible] Al dgV nb8 D6
section
variable {w0:World} {ow:Nat→Prop} {hp:List Res}
theorem A4f (v:UInt64):Ad Tryd.prog w0 ow 167 [.x (.a (.v (vU64 v)))] hp (.x (.a (.v (.int .i64 (D6 v))))) hp:=Ca fun _ w _=>A4c v w
set_option maxRecDepth 100000 in
theorem A4g (v:UInt64) (w:World):Calls Tryd.prog 156 #[vU64 v] w fun e w'=>e=.returned (.int .i64 ((Al v).length:Int))∧Below w.heap.size w w':=by
 refine By (n:=10) Tryd.func156 rfl Tryd.ntmps156 [.x (.a (.v (vU64 v)))] (by simp) (.x (.a (.v (.int .i64 ((Al v).length:Int))))) (fun _=>rfl) ?_
 by_cases h:v < 248
 ·have hl:(Al v).length=1:=by rw[Pg h];rfl
  simp (maxSteps:=10^6) only[h,hl,push_cast,↓Int.cast_ofNat_Int,Int.cast_ofNat_Int,↓reduceIte,reduceCtorEq,Nat.reduceLT]
 ·have hl:=Aci h
  obtain⟨b1,b2,b3⟩:=A4d h
  have hb:=M3 v
  simp (maxSteps:=10^6) only[h,hl,push_cast,↓reduceIte,reduceCtorEq,Nat.reduceLT]
  (repeat (refine And.intro (by first|omega|decide) ?_))
  refine A8 rfl Az5 rfl (A4f v) (Aa rfl) ?_
  simp (maxSteps:=10^6) only[b3,push_cast,↓reduceIte,Nat.reduceLT,Int.reduceNeg,Int.reduceEq]
  all_goals omega
theorem A4h (v:UInt64):Ad Tryd.prog w0 ow 156 [.x (.a (.v (vU64 v)))] hp (.x (.a (.v (.int .i64 ((Al v).length:Int))))) hp:=Ca fun _ w _=>A4g v w
end
set_option maxRecDepth 100000 in
set_option maxHeartbeats 1000000 in
theorem A4i (v:UInt64) (w:World):Calls Tryd.prog 145 #[.slice none 0 0,vU64 v] w fun e w'=>∃x,e=.returned x∧Own w' w.heap.size 5 x ((Al v).map vU8)∧Below w.heap.size w w':=by
 refine J4 (n:=47) Tryd.func145 rfl Tryd.ntmps145 [.x (.a (.v (.slice none 0 0))),.x (.a (.v (vU64 v)))] (by simp) 5 (.u8 (Al v)) (fun _=>rfl) ?_
 obtain⟨r1,r2⟩:=A4e w
 simp (maxSteps:=10^6) only[push_cast,↓reduceIte,reduceCtorEq,Nat.reduceEqDiff,Nat.reduceLT]
 (repeat (refine And.intro (by first|omega|decide) ?_))
 refine A8 rfl Az4 rfl (A4h v) (Aa rfl) ?_
 by_cases h:v < 248
 ·have hl:(Al v).length=1:=by rw[Pg h];rfl
  have hp:=Pg h
  simp (maxSteps:=10^6) only[hp,r1,r2,List.replicate_zero,push_cast,↓Int.cast_ofNat_Int,Int.cast_ofNat_Int,↓reduceIte,reduceCtorEq,Nat.reduceEqDiff,Nat.reduceLT,Nat.reduceLeDiff,Nat.reduceAdd,Int.reduceNeg,Int.reduceLE,Int.reduceAdd,Int.reduceMul]
  all_goals decide
 ·have hl:=Aci h
  have hp:=Wj h
  have hb:=M3 v
  have hdl:∀j,j≤nb8 v→((dgV (nb8 v) v.toNat).take j).length=j:=fun j hj=>by rw[List.length_take,Gr];omega
  have hh:UInt8.ofInt (247+((nb8 v:Int)+1) - 1)=UInt8.ofNat (247+nb8 v):=by
   rw[show 247+((nb8 v:Int)+1) - 1=((247+nb8 v:Nat):Int) by omega]
   exact Acj _
  have h1:¬((nb8 v:Int)+1=1):=by omega
  simp (maxSteps:=10^6) only[hl,r1,r2,hh,h1,push_cast,↓Int.cast_ofNat_Int,Int.cast_ofNat_Int,↓reduceIte,reduceCtorEq,Nat.reduceEqDiff,Nat.reduceLT,Nat.reduceLeDiff,Nat.reduceAdd,Int.reduceNeg,Int.reduceLE]
  (repeat (refine And.intro (by first|omega|decide) ?_))
  refine Bu (ι:=Nat) (fun j=>⟨[(1,.x (.a (.v (vU64 v)))),(6,.x (.a (.o 0))),(7,.x (.a (.v (.int .i64 ((nb8 v:Int) - 1 - j)))))],[.own 5 (.u8 (UInt8.ofNat (247+nb8 v)::(dgV (nb8 v) v.toNat).take j))]⟩) (fun j=>j≤nb8 v) (fun j=>nb8 v - j) 0 [3] (by omega) ?_ ?_
  ·simp (maxSteps:=10^6) only[List.replicate_zero,List.take_zero,push_cast,↓Int.cast_ofNat_Int,Int.cast_ofNat_Int,↓reduceIte,reduceCtorEq,Nat.reduceEqDiff,Nat.reduceLT]
   omega
  intro j hj
  by_cases hlt:(0:Int)≤(nb8 v:Int) - 1 - j
  ·have e1:(8*((nb8 v:Int) - 1 - j)).toNat=8*(nb8 v - 1 - j):=by omega
   have e2:=A3z v (nb8 v - 1 - j) (by omega)
   have e3:=Aca (nb8 v) v.toNat j (by omega)
   have e4:(dgV (nb8 v) v.toNat).take (j+1)=(dgV (nb8 v) v.toNat).take j++[ix (dgV (nb8 v) v.toNat) j]:=by
    have:=Gr (nb8 v) v.toNat
    rw[List.take_add_one,ix,List.getD_eq_getElem?_getD,List.getElem?_eq_getElem (by omega)]
    rfl
   have e5:=hdl j hj
   simp (maxSteps:=10^6) only[hlt,e1,e2,e5,push_cast,↓reduceIte,Nat.reduceEqDiff,Nat.reduceLT,Nat.reduceLeDiff,Nat.reduceAdd,Int.reduceNeg]
   (repeat (refine And.intro (by first|omega|decide) ?_))
   refine Bd (j+1) [2] (by omega) (by omega) ?_
   simp (maxSteps:=10^6) only[e4,e3,push_cast,↓reduceIte,Nat.reduceEqDiff,Nat.reduceLT]
   omega
  ·have ej:j=nb8 v:=by omega
   subst ej
   have e5:(dgV (nb8 v) v.toNat).take (nb8 v)=dgV (nb8 v) v.toNat:=List.take_of_length_le (by rw[Gr];omega)
   simp (maxSteps:=10^6) only[hlt,hp,e5,push_cast,↓reduceIte,Nat.reduceEqDiff,Nat.reduceLT]
   done
theorem A4j {w0:World} {ow:Nat→Prop} {hp:List Res} (v:UInt64) (hbr:∀r∈hp,Res.bnd hp.length r):Ad Tryd.prog w0 ow 145 [.x (.a (.v (.slice none 0 0))),.x (.a (.v (vU64 v)))] hp (.x (.a (.o hp.length))) (hp++[.own 5 (.u8 (Al v))]):=
 Jz hbr trivial fun γ w hS=>A4i v w
theorem A4k (v:UInt64) (w:World):Calls Tryd.prog 110 #[vU64 v] w fun e w'=>∃x,e=.returned x∧Own w' w.heap.size 5 x ((Al v).map vU8)∧Below w.heap.size w w':=by
 refine J4 (n:=5) Tryd.func110 rfl Tryd.ntmps110 [.x (.a (.v (vU64 v)))] (by simp) 5 (.u8 (Al v)) (fun _=>rfl) ?_
 simp (maxSteps:=10^6) only[push_cast,↓reduceIte,reduceCtorEq,Nat.reduceLT]
 (repeat (refine And.intro (by first|omega|decide) ?_))
 refine Fw rfl Az2 rfl (A4j v (by simp only[push_cast])) (Aa rfl) (by simp only[push_cast]) ?_
 simp (maxSteps:=10^6) only[push_cast,↓reduceIte,Nat.reduceLT]
theorem S0 {w0:World} {ow:Nat→Prop} {hp:List Res} (v:UInt64) (hbr:∀r∈hp,Res.bnd hp.length r):Ad Tryd.prog w0 ow 110 [.x (.a (.v (vU64 v)))] hp (.x (.a (.o hp.length))) (hp++[.own 5 (.u8 (Al v))]):=
 Jz hbr trivial fun γ w hS=>A4k v w
end Go.Proofs.YtiaeollemmkclaaDoor
