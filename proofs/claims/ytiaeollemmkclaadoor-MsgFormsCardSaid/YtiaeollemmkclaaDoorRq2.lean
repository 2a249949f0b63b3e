import Derived.Test.YtiaeollemmkclaaDoorRq1
import Derived.Test.YtiaeollemmkclaaDoorDrT
import Derived.Test.YtiaeollemmkclaaDoorPkK
/- Rq2: Rp6, Rp7, Rp8, Rp9, RpA, RpB, RpC, joined. -/
/- caucusref13's Take, a number. -/
namespace Go.Proofs.YtiaeollemmkclaaDoor
open Go.RowKit
set_option linter.unusedSimpArgs false
set_option linter.unusedVariables false
theorem Aec {b:List UInt8} {most:UInt64} {p:Plc} (h:(numP b most p).2=none):(numP b most p).1=0:=by
 cases p with
 |none=>rfl
 |some n=>
  unfold numP at h ⊢
  simp only at h ⊢
  cases hg:B9 (b.drop n) with
  |none=>rfl
  |some q=>
   rw[hg] at h
   simp only at h ⊢
   split at h
   ·cases h
   ·rename_i hq;rw[if_neg hq]
theorem Xp (k n l b:At) (q:List UInt8) (x:At) (γ:List Nm):(Sv.x (.g (fdL k n l b q x))).val γ=.agg ([k.val γ,n.val γ,l.val γ,b.val γ]++(q.map vU8++[x.val γ,.int .i64 0,.int .u64 0])).toArray:=by
 show Value.agg _=_
 unfold fdL
 simp only[List.map_cons,List.map_append,List.map_map,List.map_nil]
 rfl
def tkB (b:List UInt8) (A:Option Addr) (c:Nat) (many:Int) (p:Plc):At:=match (numP b (Ai many) p).2 with
 |none=>nl
 |some m=>if (numP b (Ai many) p).1.toNat≤b.length - m then .v (.slice (Ch A m c) (numP b (Ai many) p).1.toNat (c - m)) else nl
theorem Bas (γ:List Nm) {b:List UInt8} {A:Option Addr} {c:Nat} {many:Int} {p:Plc}:(tkB b A c many p).val γ=(tkB b A c many p).val []:=by
 unfold tkB
 split
 ·rfl
 ·split<;>rfl
theorem Nw (many:Int):UInt64.ofInt (if (0:Int) < many then many else 0)=Ai many:=by
 unfold Ai
 split
 ·rw[show UInt64.ofInt many=UInt64.ofInt (((max many 0).toNat:Nat):Int) from congrArg _ (by omega)]
  exact L8 _
 ·rw[show (max many 0).toNat=0 by omega]
  exact L8 0
attribute [local irreducible] Af Ad Av Bh Bf A6 Aw A9
attribute [local irreducible] fdA Al numP
section
variable (b:List UInt8) (A:Option Addr) (c:Nat) (p:Plc) (f:FdR) (w:World) (hp:pOk b p) (hm:b.length≤100000) (hc:b.length≤c) (hR:RdV w w.heap.size A (b.map vU8)) (hf:f.Ok w)
include hp hm hc hR hf
set_option maxRecDepth 100000 in
set_option maxHeartbeats 1000000 in
theorem Bat (k0:f.k=0):Calls Tryd.prog 22 (List.map (Sv.val []) [.x (.a (.v (.slice A b.length c))),.x (.a (.v (.int .i64 (pI p)))),.x (.g (fdA f))]).toArray w fun e w'=>e=.returned ((Sv.t [.g (fdL (.v (vU8 f.k)) (.v (vU64 (numP b f.most p).1)) nl nl (List.replicate 32 0) nl),.a (.v (.int .i64 (pI (numP b f.most p).2)))]).val [])∧Below w.heap.size w w':=by
 obtain⟨f0,f1,f2,f3,f36,f37,f38⟩:=Ez hf.s
 have fl:=Cl hf.s
 have fb:=fun n=>Ix f n
 simp only[At.bnd] at fb
 have kk:¬(0:UInt8) < f.k:=by rw[k0];decide
 have e0:(f.k=0)=True:=eq_true k0
 have e3:(f.k=3)=False:=eq_false (by rw[k0];decide)
 refine By (n:=185) Tryd.func22 rfl Tryd.ntmps22 [.x (.a (.v (.slice A b.length c))),.x (.a (.v (.int .i64 (pI p)))),.x (.g (fdA f))] (by simp) (.t [.g (fdL (.v (vU8 f.k)) (.v (vU64 (numP b f.most p).1)) nl nl (List.replicate 32 0) nl),.a (.v (.int .i64 (pI (numP b f.most p).2)))]) (fun γ=>by
  show Value.tuple _=Value.tuple _
  simp only[List.map_cons,List.map_nil]
  congr 1) ?_
 have nK:∀hp',Ad Tryd.prog w No 74 [.x (.a (.v (.slice A b.length c))),.x (.a (.v (.int .i64 (pI p)))),.x (.a (.v (vU64 f.most)))] hp' (.t (Di b f.most p)) hp':=fun hp'=>L7 b f.most p hp (by omega) (Dq hR _ _ (by simp) hc)
 have ok:=H6 b f.most hp
 have nn:=Aec (b:=b) (most:=f.most) (p:=p)
 simp (maxSteps:=10^6) only[fb,fl,f0,f38,↓Gd,Aq,Br,kk,e3,undef,push_cast,↓reduceIte,reduceCtorEq,Nat.reduceEqDiff,Nat.reduceLT,Nat.reduceAdd,Int.reduceNeg]
 (repeat (refine And.intro (by first|omega|decide) ?_))
 refine A8 rfl Lm rfl (nK _) (Aa rfl) ?_
 unfold Di
 generalize numP b f.most p=q at*
 obtain⟨v,p'⟩:=q
 dsimp only at ok nn ⊢
 cases p' with
 |none=>
  obtain rfl:=nn rfl
  have e:pI none=-1:=rfl
  simp (maxSteps:=10^6) only[e,undef,push_cast,↓reduceIte,Nat.reduceEqDiff,Nat.reduceLT,Nat.reduceAdd,Int.reduceNeg,Int.reduceLT]
  rfl
 |some m=>
  have e:pI (some m)=(m:Int):=rfl
  have hm':m≤b.length:=ok
  have m0:¬((m:Int) < 0):=by omega
  have m1:(-9223372036854775808:Int)≤(b.length:Int) - m∧(b.length:Int) - m≤9223372036854775807:=by omega
  simp (maxSteps:=10^6) only[fl,f0,e0,e,m0,m1,undef,push_cast,↓reduceIte,reduceCtorEq,Nat.reduceEqDiff,Nat.reduceLT,Nat.reduceAdd,Int.reduceNeg]
  rfl
set_option maxRecDepth 100000 in
set_option maxHeartbeats 1000000 in
theorem Bau (k2:f.k=2):Calls Tryd.prog 22 (List.map (Sv.val []) [.x (.a (.v (.slice A b.length c))),.x (.a (.v (.int .i64 (pI p)))),.x (.g (fdA f))]).toArray w fun e w'=>e=.returned ((Sv.t [.g (fdL (.v (vU8 f.k)) (.v (.int .u64 0)) nl (tkB b A c f.many p) (List.replicate 32 0) nl),.a (.v (.int .i64 (pI (Az b f.fd p))))]).val [])∧Below w.heap.size w w':=by
 obtain⟨f0,f1,f2,f3,f36,f37,f38⟩:=Ez hf.s
 have fl:=Cl hf.s
 have fb:=fun n=>Ix f n
 simp only[At.bnd] at fb
 have kk:(0:UInt8) < f.k:=by rw[k2];decide
 have e0:(f.k=0)=False:=eq_false (by rw[k2];decide)
 have e1:(f.k=1)=False:=eq_false (by rw[k2];decide)
 have e2:(f.k=2)=True:=eq_true k2
 have e3:(f.k=3)=False:=eq_false (by rw[k2];decide)
 have hQ:Az b f.fd p=(match (numP b (Ai f.many) p).2 with
  |none=>none
  |some m=>if (numP b (Ai f.many) p).1.toNat≤b.length - m then some (m+(numP b (Ai f.many) p).1.toNat) else none):=by
  unfold Az
  rw[if_neg (show ¬f.fd.k=0 by show ¬f.k=0;rw[k2];decide),if_neg (show ¬f.fd.k=1 by show ¬f.k=1;rw[k2];decide),if_pos (show f.fd.k=2 from k2)]
  rfl
 refine By (n:=185) Tryd.func22 rfl Tryd.ntmps22 [.x (.a (.v (.slice A b.length c))),.x (.a (.v (.int .i64 (pI p)))),.x (.g (fdA f))] (by simp) (.t [.g (fdL (.v (vU8 f.k)) (.v (.int .u64 0)) nl (tkB b A c f.many p) (List.replicate 32 0) nl),.a (.v (.int .i64 (pI (Az b f.fd p))))]) (fun γ=>by
  show Value.tuple _=Value.tuple _
  simp only[List.map_cons,List.map_nil]
  congr 3
  show Value.agg _=Value.agg _
  unfold fdL
  simp only[List.map_cons,List.map_append,List.map_map,List.map_nil,Bas γ]
  rfl) ?_
 have nK:∀hp',Ad Tryd.prog w No 74 [.x (.a (.v (.slice A b.length c))),.x (.a (.v (.int .i64 (pI p)))),.x (.a (.v (vU64 (Ai f.many))))] hp' (.t (Di b (Ai f.many) p)) hp':=fun hp'=>L7 b (Ai f.many) p hp (by omega) (Dq hR _ _ (by simp) hc)
 have ok:=H6 b (Ai f.many) hp
 have hmu:=Nw f.many
 have h37:=hf.many
 rw[hQ]
 unfold tkB
 simp (maxSteps:=10^6) only[fb,fl,f0,f37,f38,↓Gd,Aq,Br,kk,e3,hmu,undef,push_cast,↓reduceIte,reduceCtorEq,Nat.reduceEqDiff,Nat.reduceLT,Nat.reduceAdd,Int.reduceNeg]
 (repeat (refine And.intro (by first|omega|decide) ?_))
 refine A8 rfl Lm rfl (nK _) (Aa rfl) ?_
 unfold Di
 generalize numP b (Ai f.many) p=q at*
 obtain⟨v,p'⟩:=q
 dsimp only at ok ⊢
 cases p' with
 |none=>
  have e:pI none=-1:=rfl
  simp (maxSteps:=10^6) only[e,undef,push_cast,↓reduceIte,Nat.reduceEqDiff,Nat.reduceLT,Nat.reduceAdd,Int.reduceNeg,Int.reduceLT]
  rfl
 |some m=>
  have e:pI (some m)=(m:Int):=rfl
  have hm':m≤b.length:=ok
  have m0:¬((m:Int) < 0):=by omega
  have m1:(-9223372036854775808:Int)≤(b.length:Int) - m∧(b.length:Int) - m≤9223372036854775807:=by omega
  have ml:UInt64.ofInt ((b.length:Int) - m)=UInt64.ofNat (b.length - m):=by
   rw[show (b.length:Int) - m=((b.length - m:Nat):Int) by omega];exact L8 _
  have mn:(UInt64.ofNat (b.length - m)).toNat=b.length - m:=by rw[UInt64.toNat_ofNat'];omega
  have vn:n64 v=(v.toNat:Int):=rfl
  by_cases hv:v.toNat≤b.length - m
  ·have g:¬UInt64.ofNat (b.length - m) < v:=by rw[UInt64.lt_iff_toNat_lt,mn];omega
   have vs:((m:Int)+n64 v).toNat - m=v.toNat:=by omega
   have e10:pI (some (m+v.toNat))=(m:Int)+n64 v:=by rw[vn];exact Int.natCast_add m v.toNat
   simp (maxSteps:=10^6) only[fl,f0,e0,e1,e2,e,e10,m0,m1,ml,g,vs,hv,undef,push_cast,↓Int.toNat_natCast,↓reduceIte,reduceCtorEq,Nat.reduceEqDiff,Nat.reduceLT,Nat.reduceAdd,Int.reduceNeg]
   repeat' refine And.intro ?_ ?_
   all_goals first|omega|rfl
  ·have g:UInt64.ofNat (b.length - m) < v:=by rw[UInt64.lt_iff_toNat_lt,mn];omega
   have e9:pI none=-1:=rfl
   simp (maxSteps:=10^6) only[fl,f0,e0,e1,e2,e,e9,m0,m1,ml,g,hv,undef,push_cast,↓reduceIte,reduceCtorEq,Nat.reduceEqDiff,Nat.reduceLT,Nat.reduceAdd,Int.reduceNeg]
   rfl
end
end Go.Proofs.YtiaeollemmkclaaDoor
/- caucusref13's Take, a sum. -/
namespace Go.Proofs.YtiaeollemmkclaaDoor
open Go.RowKit
set_option linter.unusedSimpArgs false
set_option linter.unusedVariables false
def I0 (b:List UInt8) (m i:Nat):List UInt8:=(b.drop m).take i++List.replicate (32 - i) 0
theorem Bav (b:List UInt8) (m:Nat):I0 b m 0=List.replicate 32 0:=rfl
theorem Baw {b:List UInt8} {m i:Nat} (h:m+i < b.length) (hi:i < 32):(I0 b m i).set i (ix b (m+i))=I0 b m (i+1):=by
 have hl:((b.drop m).take i).length=i:=by rw[List.length_take,List.length_drop];omega
 unfold I0
 rw[List.set_append_right _ _ (by omega),hl,Nat.sub_self,show 32 - i=(32 - (i+1))+1 by omega,List.replicate_succ,List.set_cons_zero,List.take_add_one,List.getElem?_drop,List.getElem?_eq_getElem h,ix,List.getD_eq_getElem?_getD,List.getElem?_eq_getElem h]
 simp
theorem Bax {b:List UInt8} {m i:Nat} (h:m+i≤b.length) (hi:i≤32):(I0 b m i).length=32:=by
 unfold I0
 rw[List.length_append,List.length_take,List.length_drop,List.length_replicate]
 omega
theorem Bay {b:List UInt8} {m:Nat}:I0 b m 32=(b.drop m).take 32:=by
 unfold I0
 simp
theorem Baz {X Y Z W:At} {q:List UInt8} {R:List At} {i:Nat} {y:UInt8} (hq:q.length=32) (hi:i < 32):(X::Y::Z::W::(q.map f8++R)).set (4+i) (.v (vU8 y))=X::Y::Z::W::((q.set i y).map f8++R):=by
 rw[show 4+i=i+1+1+1+1 by omega]
 simp only[List.set_cons_succ]
 rw[List.set_append_left _ _ (by rw[List.length_map];omega),List.map_set]
 rfl
theorem Ba0 (b:List UInt8) (p:Plc) {f:FdR} (k3:f.k=3):Az b f.fd p=(match p with
  |none=>none
  |some m=>if b.length - m < 32 then none else some (m+32)):=by
 unfold Az
 rw[if_neg (show ¬f.fd.k=0 by show ¬f.k=0;rw[k3];decide),if_neg (show ¬f.fd.k=1 by show ¬f.k=1;rw[k3];decide),if_neg (show ¬f.fd.k=2 by show ¬f.k=2;rw[k3];decide),if_pos (show f.fd.k=3 from k3)]
 cases p<;>rfl
theorem Ba1 (k n l b:Value) (q:List UInt8) (x:Value) (γ:List Nm):Sc.val γ (.g (fdL (.v k) (.v n) (.v l) (.v b) q (.v x)))=Sc.val [] (.g (fdL (.v k) (.v n) (.v l) (.v b) q (.v x))):=(Xp (.v k) (.v n) (.v l) (.v b) q (.v x) γ).trans (Xp (.v k) (.v n) (.v l) (.v b) q (.v x) []).symm
attribute [local irreducible] Af Ad Av Bh Bf A6 Aw A9
attribute [local irreducible] fdA Al numP I0
section
variable (b:List UInt8) (A:Option Addr) (c:Nat) (p:Plc) (f:FdR) (w:World) (hp:pOk b p) (hm:b.length≤100000) (hR:RdV w w.heap.size A (b.map vU8)) (hf:f.Ok w)
include hp hm hR hf
set_option maxRecDepth 100000 in
set_option maxHeartbeats 1000000 in
theorem Ba2 (k3:f.k=3):Calls Tryd.prog 22 (List.map (Sv.val []) [.x (.a (.v (.slice A b.length c))),.x (.a (.v (.int .i64 (pI p)))),.x (.g (fdA f))]).toArray w fun e w'=>e=.returned ((Sv.t [.g (fdL (.v (vU8 f.k)) (.v (.int .u64 0)) nl nl (C9 (pS b p)).1 nl),.a (.v (.int .i64 (pI (Az b f.fd p))))]).val [])∧Below w.heap.size w w':=by
 obtain⟨f0,f1,f2,f3,f36,f37,f38⟩:=Ez hf.s
 have fl:=Cl hf.s
 have fb:=fun n=>Ix f n
 simp only[At.bnd] at fb
 have kk:(0:UInt8) < f.k:=by rw[k3];decide
 have e0:(f.k=0)=False:=eq_false (by rw[k3];decide)
 have e1:(f.k=1)=False:=eq_false (by rw[k3];decide)
 have e2:(f.k=2)=False:=eq_false (by rw[k3];decide)
 have e3:(f.k=3)=True:=eq_true k3
 have hQ:=Ba0 b p k3
 refine By (n:=185) Tryd.func22 rfl Tryd.ntmps22 [.x (.a (.v (.slice A b.length c))),.x (.a (.v (.int .i64 (pI p)))),.x (.g (fdA f))] (by simp) (.t [.g (fdL (.v (vU8 f.k)) (.v (.int .u64 0)) nl nl (C9 (pS b p)).1 nl),.a (.v (.int .i64 (pI (Az b f.fd p))))]) (fun γ=>by
  show Value.tuple #[_,_]=Value.tuple #[_,_]
  rw[show nl=.v (.slice none 0 0) from rfl,Ba1]
  rfl) ?_
 have hmu:=Nw f.many
 have h37:=hf.many
 have F:=FM.of (f:=vU8) hR
 rw[hQ]
 cases p with
 |none=>
  have e:pI none=-1:=rfl
  have es:(C9 (pS b none)).1=List.replicate 32 0:=rfl
  rw[es]
  simp (maxSteps:=10^6) only[fb,fl,f0,f37,f38,↓Gd,Aq,Br,kk,e3,hmu,e,undef,push_cast,↓reduceIte,reduceCtorEq,Nat.reduceEqDiff,Nat.reduceLT,Nat.reduceAdd,Int.reduceNeg,Int.reduceLT]
  rfl
 |some m=>
  have e:pI (some m)=(m:Int):=rfl
  have hm':m≤b.length:=hp
  have m0:¬((m:Int) < 0):=by omega
  have m1:(-9223372036854775808:Int)≤(b.length:Int) - m∧(b.length:Int) - m≤9223372036854775807:=by omega
  have ml:UInt64.ofInt ((b.length:Int) - m)=UInt64.ofNat (b.length - m):=by
   rw[show (b.length:Int) - m=((b.length - m:Nat):Int) by omega];exact L8 _
  have mn:(UInt64.ofNat (b.length - m)).toNat=b.length - m:=by rw[UInt64.toNat_ofNat'];omega
  have q32:(32:UInt64).toNat=32:=rfl
  by_cases hv:b.length - m < 32
  ·have g:UInt64.ofNat (b.length - m) < 32:=by rw[UInt64.lt_iff_toNat_lt,mn,q32];omega
   have es:(C9 (pS b (some m))).1=List.replicate 32 0:=by unfold C9 pS;rw[if_pos (by simp;omega)]
   have e9:pI none=-1:=rfl
   rw[es]
   simp (maxSteps:=10^6) only[fb,fl,f0,f37,f38,↓Gd,Aq,Br,kk,e0,e1,e2,e3,hmu,e,e9,m0,m1,ml,g,hv,undef,push_cast,↓reduceIte,reduceCtorEq,Nat.reduceEqDiff,Nat.reduceLT,Nat.reduceAdd,Int.reduceNeg]
   rfl
  ·have g:¬UInt64.ofNat (b.length - m) < 32:=by rw[UInt64.lt_iff_toNat_lt,mn,q32];omega
   have es:(C9 (pS b (some m))).1=(b.drop m).take 32:=by unfold C9 pS;rw[if_neg (by simp;omega)]
   rw[es]
   simp (maxSteps:=10^6) only[fb,fl,f0,f37,f38,↓Gd,Aq,Br,kk,e0,e1,e2,e3,hmu,e,m0,m1,ml,g,hv,undef,push_cast,↓reduceIte,reduceCtorEq,Nat.reduceEqDiff,Nat.reduceLT,Nat.reduceAdd,Int.reduceNeg]
   (repeat (refine And.intro (by first|omega|decide) ?_))
   refine Bu (ι:=Nat) (fun i=>⟨[(0,.x (.a (.v (.slice A b.length c)))),(1,.x (.a (.v (.int .i64 m)))),(6,.x (.a (.p 0 0))),(8,.x (.a (.p 1 0))),(14,.x (.a (.v (.int .i64 i))))],[.blk 32 (.c (.v (.int .u8 0):: .v (.int .u64 0):: .v (.slice none 0 0):: .v (.slice none 0 0)::(List.map f8 (List.replicate 32 0)++[.v (.slice none 0 0),.v (.int .i64 0),.v (.int .u64 0)]))),.blk 32 (.c (.v (vU8 f.k):: .v (.int .u64 0):: .v (.slice none 0 0):: .v (.slice none 0 0)::(List.map f8 (I0 b m i)++[.v (.slice none 0 0),.v (.int .i64 0),.v (.int .u64 0)])))]⟩) (fun i=>i≤32) (fun i=>32 - i) 0 [1,2] (by omega) ?_ ?_
   ·simp (maxSteps:=10^6) only[Bav,Cq,push_cast,↓Int.cast_ofNat_Int,Int.cast_ofNat_Int,↓reduceIte,reduceCtorEq,Nat.reduceEqDiff,Nat.reduceLT,Nat.reduceAdd]
    done
   intro i hi
   have sl:=Bax (b:=b) (m:=m) (i:=i) (by omega) hi
   by_cases hlt:(i:Int) < 32
   ·have i0:(0:Int)≤(m:Int)+i:=by omega
    have i1:(m:Int)+i < b.length:=by omega
    have i2:(0:Int)≤i:=by omega
    have it:((m:Int)+i).toNat=m+i:=by omega
    have ib:(-9223372036854775808:Int)≤(m:Int)+i∧(m:Int)+i≤9223372036854775807:=by omega
    have d0:=F.cell (m+i) (by omega)
    have d1:=F.ok (m+i) (by omega)
    have hA:=F.some_ (by omega)
    have hst:=Baw (b:=b) (m:=m) (i:=i) (by omega) (by omega)
    have hse:=fun (X Y Z W:At) (R:List At) (y:UInt8)=>Baz (X:=X) (Y:=Y) (Z:=Z) (W:=W) (R:=R) (y:=y) sl (show i < 32 by omega)
    simp (maxSteps:=10^6) only[hlt,i0,i1,i2,it,ib,d0,d1,hA,hse,hst,undef,push_cast,↓Int.toNat_natCast,↓Int.cast_ofNat_Int,Int.cast_ofNat_Int,↓reduceIte,reduceCtorEq,Nat.reduceEqDiff,Nat.reduceLT,Nat.reduceAdd,Int.reduceNeg]
    (repeat (refine And.intro (by first|omega|decide) ?_))
    refine Bd (i+1) [0,1] (by omega) (by omega) ?_
    simp (maxSteps:=10^6) only[Cq,push_cast,↓reduceIte,reduceCtorEq,Nat.reduceEqDiff,Nat.reduceLT,Nat.reduceAdd]
    done
   ·obtain rfl:i=32:=by omega
    have ib:(-9223372036854775808:Int)≤(m:Int)+32∧(m:Int)+32≤9223372036854775807:=by omega
    have e10:pI (some (m+32))=(m:Int)+32:=rfl
    simp (maxSteps:=10^6) only[sl,ib,e10,undef,push_cast,↓Int.cast_ofNat_Int,Int.cast_ofNat_Int,↓reduceIte,reduceCtorEq,Nat.reduceEqDiff,Nat.reduceLT,Nat.reduceAdd,Int.reduceNeg,Int.reduceLT]
    rw[Bay]
    rfl
end
end Go.Proofs.YtiaeollemmkclaaDoor
/- caucusref13's Take, numbers. -/
namespace Go.Proofs.YtiaeollemmkclaaDoor
open Go.RowKit
set_option linter.unusedSimpArgs false
set_option linter.unusedVariables false
theorem Xq (b:List UInt8) (p:Plc) {f:FdR} (k1:f.k=1):Az b f.fd p=(match (numP b (Ai f.many) p).2 with
  |none=>none
  |some m=>(Dj b f.most (numP b (Ai f.many) p).1.toNat [] (some m)).2):=by
 unfold Az
 rw[if_neg (show ¬f.fd.k=0 by show ¬f.k=0;rw[k1];decide),if_pos (show f.fd.k=1 from k1)]
 rfl
def tkN (b:List UInt8) (f:FdR) (p:Plc):List UInt64:=match (numP b (Ai f.many) p).2 with
 |none=>[]
 |some m=>(Dj b f.most (numP b (Ai f.many) p).1.toNat [] (some m)).1
attribute [local irreducible] Af Ad Av Bh Bf A6 Aw A9
attribute [local irreducible] fdA Al numP Dj
section
variable (b:List UInt8) (A:Option Addr) (c:Nat) (p:Plc) (f:FdR) (w:World) (hp:pOk b p) (hm:b.length≤100000) (hc:b.length≤c) (hR:RdV w w.heap.size A (b.map vU8)) (hf:f.Ok w)
include hp hm hc hR hf
set_option maxRecDepth 100000 in
set_option maxHeartbeats 1000000 in
theorem Ba3 (k1:f.k=1) (m:Nat) (v:UInt64) (hq:numP b (Ai f.many) p=(v,some m)):Calls Tryd.prog 22 (List.map (Sv.val []) [.x (.a (.v (.slice A b.length c))),.x (.a (.v (.int .i64 (pI p)))),.x (.g (fdA f))]).toArray w fun e w'=>∃γ1,e=.returned ((Sv.t [.g (fdL (.v (vU8 f.k)) (.v (.int .u64 0)) (if (Az b f.fd p).isSome then .o 0 else nl) nl (List.replicate 32 0) nl),.a (.v (.int .i64 (pI (Az b f.fd p))))]).val γ1)∧Sat w No γ1 (if (Az b f.fd p).isSome then [.own 27 (.u64 (tkN b f p))] else []) w':=by
 obtain⟨f0,f1,f2,f3,f36,f37,f38⟩:=Ez hf.s
 have fl:=Cl hf.s
 have fb:=fun n=>Ix f n
 simp only[At.bnd] at fb
 have kk:(0:UInt8) < f.k:=by rw[k1];decide
 have e0:(f.k=0)=False:=eq_false (by rw[k1];decide)
 have e1:(f.k=1)=True:=eq_true k1
 have e3:(f.k=3)=False:=eq_false (by rw[k1];decide)
 refine Cy (n:=185) Tryd.func22 rfl Tryd.ntmps22 [.x (.a (.v (.slice A b.length c))),.x (.a (.v (.int .i64 (pI p)))),.x (.g (fdA f))] (Sat.init w No) (by simp) _ _ ?_
 have nK:∀hp',Ad Tryd.prog w No 74 [.x (.a (.v (.slice A b.length c))),.x (.a (.v (.int .i64 (pI p)))),.x (.a (.v (vU64 (Ai f.many))))] hp' (.t (Di b (Ai f.many) p)) hp':=fun hp'=>L7 b (Ai f.many) p hp (by omega) (Dq hR _ _ (by simp) hc)
 have nL:∀p' hp',pOk b p'→Ad Tryd.prog w No 74 [.x (.a (.v (.slice A b.length c))),.x (.a (.v (.int .i64 (pI p')))),.x (.a (.v (vU64 f.most)))] hp' (.t (Di b f.most p')) hp':=fun p' hp' h=>L7 b f.most p' h (by omega) (Dq hR _ _ (by simp) hc)
 have ok:=H6 b (Ai f.many) hp
 have hmu:=Nw f.many
 have h37:=hf.many
 simp (maxSteps:=10^6) only[fb,fl,f0,f37,f38,↓Gd,Aq,Br,kk,e3,hmu,undef,push_cast,↓reduceIte,reduceCtorEq,Nat.reduceEqDiff,Nat.reduceLT,Nat.reduceAdd,Int.reduceNeg]
 (repeat (refine And.intro (by first|omega|decide) ?_))
 refine A8 rfl Lm rfl (nK _) (Aa rfl) ?_
 unfold Di
 rw[hq] at ok ⊢
 dsimp only at ok ⊢
 have e:pI (some m)=(m:Int):=rfl
 have hm':m≤b.length:=ok
 have m0:¬((m:Int) < 0):=by omega
 have m1:(-9223372036854775808:Int)≤(b.length:Int) - m∧(b.length:Int) - m≤9223372036854775807:=by omega
 simp (maxSteps:=10^6) only[fl,f0,e0,e1,e,m0,m1,undef,push_cast,↓reduceIte,reduceCtorEq,Nat.reduceEqDiff,Nat.reduceLT,Nat.reduceAdd,Int.reduceNeg]
 (repeat (refine And.intro (by first|omega|decide) ?_))
 refine Mz 2 2 32 27 _ (.u64 []) rfl rfl rfl trivial (by simp (maxSteps:=10^6) only[fb,push_cast,Nat.reduceLT,Nat.reduceAdd]) ?_
 simp (maxSteps:=10^6) only[push_cast,Nat.reduceAdd,Int.reduceNeg]
 obtain⟨R,hRR⟩:∃R,R=Dj b f.most v.toNat [] (some m):=⟨_,rfl⟩
 have hv64:=v.toNat_lt
 have hQ:=Xq b p k1
 have hN:tkN b f p=(match (numP b (Ai f.many) p).2 with
  |none=>[]
  |some m=>(Dj b f.most (numP b (Ai f.many) p).1.toNat [] (some m)).1):=rfl
 rw[hq] at hQ hN
 dsimp only at hQ hN
 rw[←hRR] at hQ hN
 have hz:vU64 (UInt64.ofNat 0)=.int .u64 0:=rfl
 refine Bu (ι:=Nat×List UInt64×Plc) (fun x=>⟨[(0,.x (.a (.v (.slice A b.length c)))),(1,.x (.a (.v (.int .i64 (pI x.2.2))))),(5,.x (.a (.p 0 0))),(6,.x (.a (.p 1 0))),(8,.x (.a (.p 2 0))),(10,.x (.a (.v (vU64 v)))),(12,.x (.a (.v (vU64 (UInt64.ofNat x.1)))))],[.blk 32 (.c (fdA f)),.blk 32 (.c (.v (.int .u8 0):: .v (.int .u64 0):: .v (.slice none 0 0):: .v (.slice none 0 0)::(List.map f8 (List.replicate 32 0)++[.v (.slice none 0 0),.v (.int .i64 0),.v (.int .u64 0)]))),.blk 32 (.c (.v (vU8 f.k):: .v (.int .u64 0):: .o 3:: .v (.slice none 0 0)::(List.map f8 (List.replicate 32 0)++[.v (.slice none 0 0),.v (.int .i64 0),.v (.int .u64 0)]))),.own 27 (.u64 x.2.1)]⟩)
  (fun x=>x.1≤v.toNat∧pOk b x.2.2∧(∀q,x.2.2=some q→x.2.1.length≤q∧Dj b f.most (v.toNat - x.1) x.2.1 x.2.2=R)∧(x.2.2=none→R=([],none))) (fun x=>v.toNat - x.1) (0,[],some m) [0,1,2,3] ⟨Nat.zero_le _,ok,fun q hq=>⟨Nat.zero_le _,by rw[hRR];rfl⟩,fun h=>by cases h⟩ ?_ ?_
 ·simp (maxSteps:=10^6) only[e,hz,Cq,fb,↓Nf,push_cast,↓reduceIte,reduceCtorEq,Nat.reduceEqDiff,Nat.reduceLT,Nat.reduceAdd]
  done
 rintro⟨i,acc,p1⟩ ⟨hi,hpo,hs,hn⟩
 dsimp only at hi hpo hs hn
 have iv:(UInt64.ofNat i).toNat=i:=by rw[UInt64.toNat_ofNat'];omega
 cases p1 with
 |none=>
  have e9:pI none=-1:=rfl
  have hR0:=hn rfl
  rw[hR0] at hQ hN
  dsimp only at hQ hN
  by_cases hlt:UInt64.ofNat i < v
  ·simp (maxSteps:=10^6) only[hlt,e9,hQ,Option.isSome_none,undef,push_cast,↓reduceIte,reduceCtorEq,Nat.reduceEqDiff,Nat.reduceLT,Nat.reduceAdd,Int.reduceNeg,Int.reduceLE,Int.reduceLT]
   refine Bp [] ?_
   simp (maxSteps:=10^6) only[fdL,nl,Cq,push_cast,↓reduceIte,Int.reduceNeg]
   done
  ·simp (maxSteps:=10^6) only[hlt,e9,hQ,Option.isSome_none,undef,push_cast,↓reduceIte,reduceCtorEq,Nat.reduceEqDiff,Nat.reduceLT,Nat.reduceAdd,Int.reduceNeg,Int.reduceLT]
   refine Bp [] ?_
   simp (maxSteps:=10^6) only[fdL,nl,Cq,push_cast,↓reduceIte,Int.reduceNeg]
   done
 |some q=>
  have e9:pI (some q)=(q:Int):=rfl
  have hq':q≤b.length:=hpo
  have q0:(0:Int)≤q:=by omega
  have q1:¬((q:Int) < 0):=by omega
  obtain⟨hs1,hs2⟩:=hs q rfl
  by_cases hlt:UInt64.ofNat i < v
  ·have hin:i < v.toNat:=by rw[UInt64.lt_iff_toNat_lt,iv] at hlt;exact hlt
   simp (maxSteps:=10^6) only[fl,f38,hlt,e9,q0,undef,push_cast,↓reduceIte,reduceCtorEq,Nat.reduceEqDiff,Nat.reduceLT,Nat.reduceAdd,Int.reduceNeg]
   (repeat (refine And.intro (by first|omega|decide) ?_))
   refine A8 rfl Lm rfl (nL (some q) _ hq') (Aa rfl) ?_
   have okn:=H6 b f.most (p:=some q) hq'
   have hlen:=fun m'=>Aea (most:=f.most) hq' (m:=m')
   have hst:Dj b f.most (v.toNat - i) acc (some q)=(if (numP b f.most (some q)).2.isSome=true then Dj b f.most (v.toNat - (i+1)) (acc++[(numP b f.most (some q)).1]) (numP b f.most (some q)).2 else ([],none)):=by
    rw[show v.toNat - i=(v.toNat - (i+1))+1 by omega,Dj]
   rw[hst] at hs2
   unfold Di
   generalize numP b f.most (some q)=r at*
   obtain⟨v2,p2⟩:=r
   dsimp only at okn hlen hs2 ⊢
   have hi1:UInt64.ofNat i+1=UInt64.ofNat (i+1):=by
    apply UInt64.toNat_inj.1
    rw[UInt64.toNat_add,iv,UInt64.toNat_ofNat']
    rfl
   have b1:(acc.length+1)*8≤140737488355328:=by omega
   have b2:acc.length+1≤2 ^ 63 - 1:=by omega
   simp (maxSteps:=10^6) only[fb,hi1,b1,b2,undef,push_cast,↓reduceIte,reduceCtorEq,Nat.reduceEqDiff,Nat.reduceLT,Nat.reduceLeDiff,Nat.reduceAdd,Int.reduceNeg]
   (repeat (refine And.intro (by first|omega|decide) ?_))
   refine Bd (i+1,acc++[v2],p2) [0,1,2,5] ⟨by show i+1≤v.toNat;omega,okn,fun q2 h2=>?_,fun h2=>?_⟩ (by show v.toNat - (i+1) < v.toNat - i;omega) ?_
   ·have h2:p2=some q2:=h2
    subst h2
    have h3:=hlen q2 rfl
    refine⟨by simp only[List.length_append,List.length_singleton];omega,?_⟩
    rw[←hs2]
    rfl
   ·have h2:p2=none:=h2
    subst h2
    rw[←hs2]
    rfl
   ·simp (maxSteps:=10^6) only[Cq,fb,↓Nf,push_cast,↓reduceIte,reduceCtorEq,Nat.reduceEqDiff,Nat.reduceLT,Nat.reduceAdd]
    done
  ·have hin:i=v.toNat:=by rw[UInt64.lt_iff_toNat_lt,iv] at hlt;omega
   have hR1:R=(acc,some q):=by rw[←hs2,hin,Nat.sub_self];unfold Dj;rfl
   rw[hR1] at hQ hN
   dsimp only at hQ hN
   simp (maxSteps:=10^6) only[hlt,e9,q1,hQ,hN,Option.isSome_some,undef,push_cast,↓reduceIte,reduceCtorEq,Nat.reduceEqDiff,Nat.reduceLT,Nat.reduceAdd,Int.reduceNeg]
   refine Bp [3] ?_
   simp (maxSteps:=10^6) only[fdL,nl,Cq,push_cast,↓reduceIte,Nat.reduceLT]
   done
end
end Go.Proofs.YtiaeollemmkclaaDoor
/- Four bytes as a number, by factors (Take of a row, caucusref13). -/
namespace Go.Proofs.YtiaeollemmkclaaDoor
theorem Ba4 (a b c d:UInt8):16777216*a.toUInt32+65536*b.toUInt32+256*c.toUInt32+d.toUInt32=w4 a b c d:=by
 have ha:=a.toNat_lt
 have hb:=b.toNat_lt
 have hc:=c.toNat_lt
 have hd:=d.toNat_lt
 have q1:(16777216:UInt32).toNat=16777216:=rfl
 have q2:(65536:UInt32).toNat=65536:=rfl
 have q3:(256:UInt32).toNat=256:=rfl
 have s1:(24:UInt32).toNat % 32=24:=rfl
 have s2:(16:UInt32).toNat % 32=16:=rfl
 have s3:(8:UInt32).toNat % 32=8:=rfl
 have h1:2 ^ 24*a.toNat|||2 ^ 16*b.toNat=2 ^ 24*a.toNat+2 ^ 16*b.toNat:=(Nat.two_pow_add_eq_or_of_lt (by omega) _).symm
 have h2:(2 ^ 24*a.toNat+2 ^ 16*b.toNat)|||2 ^ 8*c.toNat=2 ^ 24*a.toNat+2 ^ 16*b.toNat+2 ^ 8*c.toNat:=by
  rw[show 2 ^ 24*a.toNat+2 ^ 16*b.toNat=2 ^ 16*(2 ^ 8*a.toNat+b.toNat) by omega]
  exact (Nat.two_pow_add_eq_or_of_lt (by omega) _).symm
 have h3:(2 ^ 24*a.toNat+2 ^ 16*b.toNat+2 ^ 8*c.toNat)|||d.toNat=2 ^ 24*a.toNat+2 ^ 16*b.toNat+2 ^ 8*c.toNat+d.toNat:=by
  rw[show 2 ^ 24*a.toNat+2 ^ 16*b.toNat+2 ^ 8*c.toNat=2 ^ 8*(2 ^ 16*a.toNat+2 ^ 8*b.toNat+c.toNat) by omega]
  exact (Nat.two_pow_add_eq_or_of_lt (by omega) _).symm
 apply UInt32.toNat_inj.1
 unfold w4
 simp only[UInt32.toNat_or,UInt32.toNat_shiftLeft,UInt32.toNat_add,UInt32.toNat_mul,UInt8.toNat_toUInt32,q1,q2,q3,s1,s2,s3,Nat.shiftLeft_eq]
 rw[Nat.mod_eq_of_lt (show a.toNat*2 ^ 24 < 2 ^ 32 by omega),Nat.mod_eq_of_lt (show b.toNat*2 ^ 16 < 2 ^ 32 by omega),Nat.mod_eq_of_lt (show c.toNat*2 ^ 8 < 2 ^ 32 by omega),
  Nat.mul_comm a.toNat,Nat.mul_comm b.toNat,Nat.mul_comm c.toNat,h1,h2,h3]
 omega
theorem Aed:∀(l:List UInt8) (i:Nat),4*i+4≤l.length→fours (l.take (4*(i+1)))=fours (l.take (4*i))++[w4 (ix l (4*i)) (ix l (4*i+1)) (ix l (4*i+2)) (ix l (4*i+3))]
 |a::b::c::d::l,0,h=>by simp [fours,ix]
 |a::b::c::d::l,i+1,h=>by
  have ih:=Aed l i (by simp at h;omega)
  rw[show 4*(i+1+1)=4*(i+1)+1+1+1+1 by omega]
  simp only[List.take_succ_cons,fours,ih]
  rw[show 4*(i+1)=4*i+1+1+1+1 by omega]
  simp only[List.take_succ_cons,fours,List.cons_append]
  rfl
 |[],i,h=>by simp at h
 |[_],i,h=>by simp at h
 |[_,_],i,h=>by simp at h
 |[_,_,_],i,h=>by simp at h
end Go.Proofs.YtiaeollemmkclaaDoor
/- caucusref13's Take, a row. -/
namespace Go.Proofs.YtiaeollemmkclaaDoor
open Go.RowKit
set_option linter.unusedSimpArgs false
set_option linter.unusedVariables false
attribute [local irreducible] Af Ad Av Bh Bf A6 Aw A9
attribute [local irreducible] fdA Al numP w4
section
variable (b:List UInt8) (A:Option Addr) (c:Nat) (p:Plc) (f:FdR) (w:World) (hp:pOk b p) (hm:b.length≤100000) (hc:b.length≤c) (hR:RdV w w.heap.size A (b.map vU8)) (hf:f.Ok w)
include hp hm hc hR hf
set_option maxRecDepth 100000 in
set_option maxHeartbeats 1000000 in
theorem Ba5 (k0:¬f.k=0) (k1:¬f.k=1) (k2:¬f.k=2) (k3:¬f.k=3) (m:Nat) (v:UInt64) (hq:numP b (Ai f.many) p=(v,some m)) (hv:v.toNat≤(b.length - m) / 4):Calls Tryd.prog 22 (List.map (Sv.val []) [.x (.a (.v (.slice A b.length c))),.x (.a (.v (.int .i64 (pI p)))),.x (.g (fdA f))]).toArray w fun e w'=>∃γ1,e=.returned ((Sv.t [.g (fdL (.v (vU8 f.k)) (.v (.int .u64 0)) nl nl (List.replicate 32 0) (.o 0)),.a (.v (.int .i64 ((m:Int)+4*(v.toNat:Int))))]).val γ1)∧Sat w No γ1 [.own 136 (.u32 (fours ((b.drop m).take (4*v.toNat))))] w':=by
 obtain⟨f0,f1,f2,f3,f36,f37,f38⟩:=Ez hf.s
 have fl:=Cl hf.s
 have fb:=fun n=>Ix f n
 simp only[At.bnd] at fb
 have kk:(0:UInt8) < f.k:=by
  rw[UInt8.lt_iff_toNat_lt]
  exact Nat.pos_of_ne_zero fun h=>k0 (UInt8.toNat_inj.1 h)
 have e0:(f.k=0)=False:=eq_false k0
 have e1:(f.k=1)=False:=eq_false k1
 have e2:(f.k=2)=False:=eq_false k2
 have e3:(f.k=3)=False:=eq_false k3
 refine Cy (n:=185) Tryd.func22 rfl Tryd.ntmps22 [.x (.a (.v (.slice A b.length c))),.x (.a (.v (.int .i64 (pI p)))),.x (.g (fdA f))] (Sat.init w No) (by simp) _ _ ?_
 have nK:∀hp',Ad Tryd.prog w No 74 [.x (.a (.v (.slice A b.length c))),.x (.a (.v (.int .i64 (pI p)))),.x (.a (.v (vU64 (Ai f.many))))] hp' (.t (Di b (Ai f.many) p)) hp':=fun hp'=>L7 b (Ai f.many) p hp (by omega) (Dq hR _ _ (by simp) hc)
 have ok:=H6 b (Ai f.many) hp
 have hmu:=Nw f.many
 have F:=FM.of (f:=vU8) hR
 have h37:=hf.many
 simp (maxSteps:=10^6) only[fb,fl,f0,f37,f38,↓Gd,Aq,Br,kk,e3,hmu,undef,push_cast,↓reduceIte,reduceCtorEq,Nat.reduceEqDiff,Nat.reduceLT,Nat.reduceAdd,Int.reduceNeg]
 (repeat (refine And.intro (by first|omega|decide) ?_))
 refine A8 rfl Lm rfl (nK _) (Aa rfl) ?_
 unfold Di
 rw[hq] at ok ⊢
 dsimp only at ok ⊢
 have e:pI (some m)=(m:Int):=rfl
 have hm':m≤b.length:=ok
 have m0:¬((m:Int) < 0):=by omega
 have m1:(-9223372036854775808:Int)≤(b.length:Int) - m∧(b.length:Int) - m≤9223372036854775807:=by omega
 have ml:UInt64.ofInt ((b.length:Int) - m)=UInt64.ofNat (b.length - m):=by
  rw[show (b.length:Int) - m=((b.length - m:Nat):Int) by omega];exact L8 _
 have mn:(UInt64.ofNat (b.length - m)).toNat=b.length - m:=by rw[UInt64.toNat_ofNat'];omega
 have q4:(4:UInt64).toNat=4:=rfl
 have g1:¬UInt64.ofNat (b.length - m) < v:=by rw[UInt64.lt_iff_toNat_lt,mn];omega
 have g2:¬UInt64.ofNat (b.length - m) < 4*v:=by rw[UInt64.lt_iff_toNat_lt,mn,UInt64.toNat_mul,q4];omega
 simp (maxSteps:=10^6) only[fl,f0,e0,e1,e2,e3,e,m0,m1,ml,g1,g2,undef,push_cast,↓reduceIte,reduceCtorEq,Nat.reduceEqDiff,Nat.reduceLT,Nat.reduceAdd,Int.reduceNeg]
 (repeat (refine And.intro (by first|omega|decide) ?_))
 refine Mz 2 36 32 136 _ (.u32 []) rfl rfl rfl trivial (by simp (maxSteps:=10^6) only[fb,push_cast,Nat.reduceLT,Nat.reduceAdd]) ?_
 simp (maxSteps:=10^6) only[Wu,push_cast,Nat.reduceAdd]
 refine Bu (ι:=Nat) (fun i=>⟨[(0,.x (.a (.v (.slice A b.length c)))),(1,.x (.a (.v (.int .i64 m)))),(6,.x (.a (.p 0 0))),(8,.x (.a (.p 1 0))),(10,.x (.a (.v (vU64 v)))),(15,.x (.a (.v (.int .i64 i))))],[.blk 32 (.c (.v (.int .u8 0):: .v (.int .u64 0):: .v (.slice none 0 0):: .v (.slice none 0 0)::(List.map f8 (List.replicate 32 0)++[.v (.slice none 0 0),.v (.int .i64 0),.v (.int .u64 0)]))),.blk 32 (.c (.v (vU8 f.k):: .v (.int .u64 0):: .v (.slice none 0 0):: .v (.slice none 0 0)::(List.map f8 (List.replicate 32 0)++[.o 2,.v (.int .i64 0),.v (.int .u64 0)]))),.own 136 (.u32 (fours ((b.drop m).take (4*i))))]⟩) (fun i=>i≤v.toNat) (fun i=>v.toNat - i) 0 [1,2,3] (Nat.zero_le _) ?_ ?_
 ·have e9:fours ((b.drop m).take (4*0))=[]:=rfl
  simp (maxSteps:=10^6) only[Cq,push_cast,↓Int.cast_ofNat_Int,Int.cast_ofNat_Int,↓reduceIte,reduceCtorEq,Nat.reduceEqDiff,Nat.reduceLT,Nat.reduceAdd,Nat.reduceMul]
  rfl
 intro i hi
 have vn:n64 v=(v.toNat:Int):=rfl
 by_cases hlt:(i:Int) < n64 v
 ·have hin:i < v.toNat:=by omega
  have hb:m+4*i+4≤b.length:=by omega
  have j0:(0:Int)≤(m:Int)+4*i:=by omega
  have j1:(m:Int)+4*i≤(m:Int)+4*i+4:=by omega
  have j2:(m:Int)+4*i+4≤c:=by omega
  have j3:((m:Int)+4*i).toNat=m+4*i:=by omega
  have j4:((m:Int)+4*i+4).toNat - (m+4*i)=4:=by omega
  have hcut:Ch A (m+4*i) c=Ar A (m+4*i):=if_neg (by omega)
  have hA:=F.some_ (by omega)
  have cell:∀j,j < 4→B2 w (Ar A (m+4*i+j))=vU8 (ix (b.drop m) (4*i+j))∧C8 w No (Ar A (m+4*i+j)):=fun j hj=>by
   have e:ix (b.drop m) (4*i+j)=ix b (m+4*i+j):=by
    rw[ix,ix,List.getD_eq_getElem?_getD,List.getD_eq_getElem?_getD,List.getElem?_drop,Nat.add_assoc]
   rw[e]
   exact⟨F.cell _ (by omega),F.ok _ (by omega)⟩
  obtain⟨c0,o0⟩:=cell 0 (by omega)
  obtain⟨c1,o1⟩:=cell 1 (by omega)
  obtain⟨c2,o2⟩:=cell 2 (by omega)
  obtain⟨c3,o3⟩:=cell 3 (by omega)
  rw[Nat.add_zero] at c0 o0
  have hf4:=Aed (b.drop m) i (by rw[List.length_drop];omega)
  simp (maxSteps:=10^6) only[hlt,j0,j1,j2,j3,j4,hcut,push_cast,↓reduceIte,reduceCtorEq,Nat.reduceEqDiff,Nat.reduceLT,Nat.reduceAdd,Int.reduceNeg]
  (repeat (refine And.intro (by first|omega|decide) ?_))
  have hAs:(Ar A (m+4*i)).isSome=true:=by rw[Db];exact hA
  have hw:=Ba4 (ix (b.drop m) (4*i)) (ix (b.drop m) (4*i+1)) (ix (b.drop m) (4*i+2)) (ix (b.drop m) (4*i+3))
  have fl4:(fours ((b.drop m).take (4*i))).length≤100000:=by
   have this:=Po
   have h1:=this ((b.drop m).take (4*i))
   rw[List.length_take,List.length_drop] at h1
   omega
  have b1:((fours ((b.drop m).take (4*i))).length+1)*4≤140737488355328:=by omega
  have b2:(fours ((b.drop m).take (4*i))).length+1≤2 ^ 63 - 1:=by omega
  refine Ps 3 [2] 27 (.rd 0 (.rd 1 (.rd 2 (.rd 3 (.rd 4 (.rd 5 (.rd 6 (.rd 7 (.rd 8 (.rd 9 (.rd 10 (.rd 11 (.rd 12 (.rd 13 (.rd 14 (.rd 15 (.rd 16 (.rd 17 (.rd 18 (.rd 19 (.rd 20 (.rd 21 (.rd 22 (.rd 23 (.wr 24 (.wr 25 (.rd 26 .nil))))))))))))))))))))))))))) ⟨[(0,.x (.a (.v (.slice A b.length c)))),(1,.x (.a (.v (.int .i64 m)))),(6,.x (.a (.p 0 0))),(8,.x (.a (.p 1 0))),(10,.x (.a (.v (vU64 v)))),(15,.x (.a (.v (.int .i64 i)))),(177,.x (.a (.o 3))),(178,.x (.a (.p 1 36)))],[.blk 32 (.c (.v (.int .u8 0):: .v (.int .u64 0):: .v (.slice none 0 0):: .v (.slice none 0 0)::(List.map f8 (List.replicate 32 0)++[.v (.slice none 0 0),.v (.int .i64 0),.v (.int .u64 0)]))),.blk 32 (.c (.v (vU8 f.k):: .v (.int .u64 0):: .v (.slice none 0 0):: .v (.slice none 0 0)::(List.map f8 (List.replicate 32 0)++[.o 2,.v (.int .i64 0),.v (.int .u64 0)]))),.gone,.own 136 (.u32 (fours ((b.drop m).take (4*i))++[w4 (ix (b.drop m) (4*i)) (ix (b.drop m) (4*i+1)) (ix (b.drop m) (4*i+2)) (ix (b.drop m) (4*i+3))]))]⟩ (by kernel_rfl) (by kernel_rfl) (Nat.le_refl 3) ?_ ?_
  ·simp (maxSteps:=10^6) only[Dl,Cg,c0,o0,c1,o1,c2,o2,c3,o3,hAs,hw,b1,b2,undef,push_cast,↓Int.cast_ofNat_Int,Int.cast_ofNat_Int,↓reduceIte,reduceCtorEq,Nat.reduceEqDiff,Nat.reduceLT,Nat.reduceLeDiff,Nat.reduceAdd,Nat.reduceSub,Int.reduceLE,Int.reduceLT,Int.reduceToNat]
   (repeat (refine And.intro (by first|omega|decide) ?_))
   refine Il [0,1,2,4] ?_
   simp (maxSteps:=10^6) only[Cq,push_cast,↓reduceIte,reduceCtorEq,Nat.reduceEqDiff,Nat.reduceLT,Nat.reduceAdd]
   done
  ·simp (maxSteps:=10^6) only[Wu,undef,push_cast,↓reduceIte,reduceCtorEq,Nat.reduceEqDiff,Nat.reduceLT,Nat.reduceAdd,Int.reduceNeg]
   (repeat (refine And.intro (by first|omega|decide) ?_))
   refine Bd (i+1) [0,1,3] (by omega) (by omega) ?_
   simp (maxSteps:=10^6) only[Cq,hf4,push_cast,↓reduceIte,reduceCtorEq,Nat.reduceEqDiff,Nat.reduceLT,Nat.reduceAdd]
   done
 ·obtain rfl:i=v.toNat:=by omega
  simp (maxSteps:=10^6) only[hlt,undef,push_cast,↓reduceIte,reduceCtorEq,Nat.reduceEqDiff,Nat.reduceLT,Nat.reduceAdd,Int.reduceNeg]
  refine⟨by omega,by omega,by omega,by omega,?_⟩
  rw[←vn]
  refine Bp [2] ?_
  simp (maxSteps:=10^6) only[fdL,nl,Cq,push_cast,↓reduceIte,Nat.reduceLT]
  done
end
end Go.Proofs.YtiaeollemmkclaaDoor
/- caucusref13's Take: where nothing is read; all kinds told alike. -/
namespace Go.Proofs.YtiaeollemmkclaaDoor
open Go.RowKit
set_option linter.unusedSimpArgs false
set_option linter.unusedVariables false
theorem Xr {b:List UInt8} {most:UInt64}:∀{n:Nat} {acc:List UInt64} {m:Nat},(Dj b most n acc (some m)).2=none→(Dj b most n acc (some m)).1=[]
 |0,acc,m,h=>by rw[Dj] at h;cases h
 |n+1,acc,m,h=>by
  rw[Dj] at h ⊢
  cases hq:(numP b most (some m)).2 with
  |none=>simp
  |some q=>
   rw[hq] at h
   simp only[Option.isSome_some,if_true] at h ⊢
   exact Xr h
def Nx (f:FdR):List At:=fdL (.v (vU8 f.k)) (.v (.int .u64 0)) nl nl (List.replicate 32 0) nl
attribute [local irreducible] Af Ad Av Bh Bf A6 Aw A9
section
attribute [local irreducible] fdA Al numP
variable (b:List UInt8) (A:Option Addr) (c:Nat) (p:Plc) (f:FdR) (w:World) (hp:pOk b p) (hm:b.length≤100000) (hc:b.length≤c) (hR:RdV w w.heap.size A (b.map vU8)) (hf:f.Ok w)
include hp hm hc hR hf
set_option maxRecDepth 100000 in
set_option maxHeartbeats 1000000 in
theorem Aee (k0:¬f.k=0) (k3:¬f.k=3) (hq:(numP b (Ai f.many) p).2=none):Calls Tryd.prog 22 (List.map (Sv.val []) [.x (.a (.v (.slice A b.length c))),.x (.a (.v (.int .i64 (pI p)))),.x (.g (fdA f))]).toArray w fun e w'=>e=.returned ((Sv.t [.g (Nx f),.a (.v (.int .i64 (-1)))]).val [])∧Below w.heap.size w w':=by
 obtain⟨f0,f1,f2,f3,f36,f37,f38⟩:=Ez hf.s
 have fl:=Cl hf.s
 have fb:=fun n=>Ix f n
 simp only[At.bnd] at fb
 have kk:(0:UInt8) < f.k:=by
  rw[UInt8.lt_iff_toNat_lt]
  exact Nat.pos_of_ne_zero fun h=>k0 (UInt8.toNat_inj.1 h)
 have e0:(f.k=0)=False:=eq_false k0
 have e3:(f.k=3)=False:=eq_false k3
 refine By (n:=185) Tryd.func22 rfl Tryd.ntmps22 [.x (.a (.v (.slice A b.length c))),.x (.a (.v (.int .i64 (pI p)))),.x (.g (fdA f))] (by simp) (.t [.g (Nx f),.a (.v (.int .i64 (-1)))]) (fun γ=>by
  show Value.tuple _=Value.tuple _
  simp only[List.map_cons,List.map_nil]
  congr 1) ?_
 have nK:∀hp',Ad Tryd.prog w No 74 [.x (.a (.v (.slice A b.length c))),.x (.a (.v (.int .i64 (pI p)))),.x (.a (.v (vU64 (Ai f.many))))] hp' (.t (Di b (Ai f.many) p)) hp':=fun hp'=>L7 b (Ai f.many) p hp (by omega) (Dq hR _ _ (by simp) hc)
 have hmu:=Nw f.many
 have h37:=hf.many
 have hn:=Aec hq
 unfold Nx
 simp (maxSteps:=10^6) only[fb,fl,f0,f37,f38,↓Gd,Aq,Br,kk,e3,hmu,undef,push_cast,↓reduceIte,reduceCtorEq,Nat.reduceEqDiff,Nat.reduceLT,Nat.reduceAdd,Int.reduceNeg]
 (repeat (refine And.intro (by first|omega|decide) ?_))
 refine A8 rfl Lm rfl (nK _) (Aa rfl) ?_
 unfold Di
 rw[hq,hn]
 have e:pI none=-1:=rfl
 simp (maxSteps:=10^6) only[e,undef,push_cast,↓reduceIte,Nat.reduceEqDiff,Nat.reduceLT,Nat.reduceAdd,Int.reduceNeg,Int.reduceLT]
 rfl
set_option maxRecDepth 100000 in
set_option maxHeartbeats 1000000 in
theorem Ba6 (k0:¬f.k=0) (k1:¬f.k=1) (k2:¬f.k=2) (k3:¬f.k=3) (m:Nat) (v:UInt64) (hq:numP b (Ai f.many) p=(v,some m)) (hv:¬v.toNat≤(b.length - m) / 4):Calls Tryd.prog 22 (List.map (Sv.val []) [.x (.a (.v (.slice A b.length c))),.x (.a (.v (.int .i64 (pI p)))),.x (.g (fdA f))]).toArray w fun e w'=>e=.returned ((Sv.t [.g (Nx f),.a (.v (.int .i64 (-1)))]).val [])∧Below w.heap.size w w':=by
 obtain⟨f0,f1,f2,f3,f36,f37,f38⟩:=Ez hf.s
 have fl:=Cl hf.s
 have fb:=fun n=>Ix f n
 simp only[At.bnd] at fb
 have kk:(0:UInt8) < f.k:=by
  rw[UInt8.lt_iff_toNat_lt]
  exact Nat.pos_of_ne_zero fun h=>k0 (UInt8.toNat_inj.1 h)
 have e0:(f.k=0)=False:=eq_false k0
 have e1:(f.k=1)=False:=eq_false k1
 have e2:(f.k=2)=False:=eq_false k2
 have e3:(f.k=3)=False:=eq_false k3
 refine By (n:=185) Tryd.func22 rfl Tryd.ntmps22 [.x (.a (.v (.slice A b.length c))),.x (.a (.v (.int .i64 (pI p)))),.x (.g (fdA f))] (by simp) (.t [.g (Nx f),.a (.v (.int .i64 (-1)))]) (fun γ=>by
  show Value.tuple _=Value.tuple _
  simp only[List.map_cons,List.map_nil]
  congr 1) ?_
 have nK:∀hp',Ad Tryd.prog w No 74 [.x (.a (.v (.slice A b.length c))),.x (.a (.v (.int .i64 (pI p)))),.x (.a (.v (vU64 (Ai f.many))))] hp' (.t (Di b (Ai f.many) p)) hp':=fun hp'=>L7 b (Ai f.many) p hp (by omega) (Dq hR _ _ (by simp) hc)
 have ok:=H6 b (Ai f.many) hp
 have hmu:=Nw f.many
 have h37:=hf.many
 unfold Nx
 simp (maxSteps:=10^6) only[fb,fl,f0,f37,f38,↓Gd,Aq,Br,kk,e3,hmu,undef,push_cast,↓reduceIte,reduceCtorEq,Nat.reduceEqDiff,Nat.reduceLT,Nat.reduceAdd,Int.reduceNeg]
 (repeat (refine And.intro (by first|omega|decide) ?_))
 refine A8 rfl Lm rfl (nK _) (Aa rfl) ?_
 unfold Di
 rw[hq] at ok ⊢
 dsimp only at ok ⊢
 have e:pI (some m)=(m:Int):=rfl
 have hm':m≤b.length:=ok
 have m0:¬((m:Int) < 0):=by omega
 have m1:(-9223372036854775808:Int)≤(b.length:Int) - m∧(b.length:Int) - m≤9223372036854775807:=by omega
 have ml:UInt64.ofInt ((b.length:Int) - m)=UInt64.ofNat (b.length - m):=by
  rw[show (b.length:Int) - m=((b.length - m:Nat):Int) by omega];exact L8 _
 have mn:(UInt64.ofNat (b.length - m)).toNat=b.length - m:=by rw[UInt64.toNat_ofNat'];omega
 have q4:(4:UInt64).toNat=4:=rfl
 by_cases g2:UInt64.ofNat (b.length - m) < 4*v
 ·simp (maxSteps:=10^6) only[fl,f0,e0,e1,e2,e3,e,m0,m1,ml,g2,undef,push_cast,↓reduceIte,reduceCtorEq,Nat.reduceEqDiff,Nat.reduceLT,Nat.reduceAdd,Int.reduceNeg]
  rfl
 ·have g1:UInt64.ofNat (b.length - m) < v:=by
   rw[UInt64.lt_iff_toNat_lt,mn] at g2 ⊢
   rw[UInt64.toNat_mul,q4] at g2
   omega
  simp (maxSteps:=10^6) only[fl,f0,e0,e1,e2,e3,e,m0,m1,ml,g1,g2,undef,push_cast,↓reduceIte,reduceCtorEq,Nat.reduceEqDiff,Nat.reduceLT,Nat.reduceAdd,Int.reduceNeg]
  rfl
end
def tkX (b:List UInt8) (f:FdR) (p:Plc):List UInt32:=match (numP b (Ai f.many) p).2 with
 |none=>[]
 |some m=>if (numP b (Ai f.many) p).1.toNat≤(b.length - m) / 4 then fours ((b.drop m).take (4*(numP b (Ai f.many) p).1.toNat)) else []
def tkC (b:List UInt8) (f:FdR) (p:Plc):Cont:=if f.k=0 then .u8 [] else if f.k=1 then .u64 (tkN b f p) else if f.k=2 then .u8 [] else if f.k=3 then .u8 [] else .u32 (tkX b f p)
def tkA (b:List UInt8) (A:Option Addr) (c:Nat) (f:FdR) (p:Plc) (j:Nat):List At:=
 if f.k=0 then fdL (.v (vU8 f.k)) (.v (vU64 (numP b f.most p).1)) nl nl (List.replicate 32 0) nl
 else if f.k=1 then fdL (.v (vU8 f.k)) (.v (.int .u64 0)) (if (Az b f.fd p).isSome then .o j else nl) nl (List.replicate 32 0) nl
 else if f.k=2 then fdL (.v (vU8 f.k)) (.v (.int .u64 0)) nl (tkB b A c f.many p) (List.replicate 32 0) nl
 else if f.k=3 then fdL (.v (vU8 f.k)) (.v (.int .u64 0)) nl nl (C9 (pS b p)).1 nl
 else fdL (.v (vU8 f.k)) (.v (.int .u64 0)) nl nl (List.replicate 32 0) (if (Az b f.fd p).isSome then .o j else nl)
theorem Ba7 (b:List UInt8) (A:Option Addr) (c:Nat) (many:Int) (p:Plc) (ρ:List Nat):(tkB b A c many p).ren ρ=tkB b A c many p:=by
 unfold tkB
 split
 ·rfl
 ·split<;>rfl
theorem Aef (b:List UInt8) (A:Option Addr) (c:Nat) (many:Int) (p:Plc) (n:Nat):(tkB b A c many p).bnd n:=by
 unfold tkB
 split
 ·trivial
 ·split<;>trivial
theorem Ba8 (b:List UInt8) (A:Option Addr) (c:Nat) (f:FdR) (p:Plc) (j:Nat) (ρ:List Nat):(tkA b A c f p j).map (At.ren ρ)=tkA b A c f p (rn ρ j):=by
 unfold tkA
 split
 ·exact Px ..
 ·split
  ·rw[Px];congr 1;split<;>rfl
  ·split
   ·rw[Px,Ba7];rfl
   ·split
    ·exact Px ..
    ·rw[Px];congr 1;split<;>rfl
theorem Aeg {q:Bool} {j m:Nat} (h:j < m):(if q=true then At.o j else nl).bnd m:=by
 split
 ·exact h
 ·trivial
theorem Ba9 (b:List UInt8) (A:Option Addr) (c:Nat) (f:FdR) (p:Plc) {j m:Nat} (h:j < m):(∀x∈tkA b A c f p j,x.bnd m)=True:=eq_true (by
 unfold tkA
 split
 ·exact L6 trivial trivial trivial trivial trivial
 ·split
  ·exact L6 trivial trivial (Aeg h) trivial trivial
  ·split
   ·exact L6 trivial trivial trivial (Aef ..) trivial
   ·split
    ·exact L6 trivial trivial trivial trivial trivial
    ·exact L6 trivial trivial trivial trivial (Aeg h))
theorem Aeh (b:List UInt8) (f:FdR) (p:Plc) (m:Nat):Cont.bnd m (tkC b f p)=True:=eq_true (by
 unfold tkC
 split
 ·trivial
 ·split
  ·trivial
  ·split
   ·trivial
   ·split<;>trivial)
theorem Bba (b:List UInt8) (f:FdR) (p:Plc) (ρ:List Nat):Cont.ren ρ (tkC b f p)=tkC b f p:=by
 unfold tkC
 split
 ·rfl
 ·split
  ·rfl
  ·split
   ·rfl
   ·split<;>rfl
theorem Aei {w0 w:World} {ow:Nat→Prop} {γ:List Nm} {hp:List Res} (hS:Sat w0 ow γ hp w) (hbr:∀r∈hp,Res.bnd hp.length r) {e:TypeId} {c:Cont} (hc:c.len=0):Sat w0 ow (γ++[.s (.slice none 0 0)]) (hp++[.own e c]) w:=by
 have hl:=hS.len
 have hcv:c.vals (γ++[Nm.s (.slice none 0 0)])=[]:=by
  rw[←List.length_eq_zero_iff,Cont.len_vals,hc]
 refine hS.push (X:=fun _=>False) (Keeps.refl _ _) (fun b h=>h.elim) hbr ⟨by rw[D2 hl,Bb hl],?_⟩ ?_
 ·rw[Bb hl,hcv]
  exact Own.nil_ _ _ _
 ·intro b hb
  simp only[Res.has,Bb hl,Value.ownBlock] at hb
  cases hb
section
variable (b:List UInt8) (A:Option Addr) (c:Nat) (p:Plc) (f:FdR) (w:World) (hp:pOk b p) (hm:b.length≤100000) (hc:b.length≤c) (hR:RdV w w.heap.size A (b.map vU8)) (hf:f.Ok w)
include hp hm hc hR hf
theorem Aej:Calls Tryd.prog 22 (List.map (Sv.val []) [.x (.a (.v (.slice A b.length c))),.x (.a (.v (.int .i64 (pI p)))),.x (.g (fdA f))]).toArray w fun e w'=>∃γ1,e=.returned ((Sv.t [.g (tkA b A c f p 0),.a (.v (.int .i64 (pI (Az b f.fd p))))]).val γ1)∧Sat w No γ1 [.own (rdT f) (tkC b f p)] w':=by
 have none_:∀(l:List At) (z:Value) (e:TypeId) (ct:Cont),ct.len=0→(∀x∈l,x.bnd 0)→(Calls Tryd.prog 22 (List.map (Sv.val []) [.x (.a (.v (.slice A b.length c))),.x (.a (.v (.int .i64 (pI p)))),.x (.g (fdA f))]).toArray w fun e w'=>e=.returned ((Sv.t [.g l,.a (.v z)]).val [])∧Below w.heap.size w w')→
   Calls Tryd.prog 22 (List.map (Sv.val []) [.x (.a (.v (.slice A b.length c))),.x (.a (.v (.int .i64 (pI p)))),.x (.g (fdA f))]).toArray w fun en w'=>∃γ1,en=.returned ((Sv.t [.g l,.a (.v z)]).val γ1)∧Sat w No γ1 [.own e ct] w':=fun l z e ct hct hl h=>h.mono fun en w' ⟨he,hb⟩=>
  ⟨_,by
   rw[he]
   exact congrArg Ending.returned (Sv.ext (γ:=[]) (δ:=[.s (.slice none 0 0)]) (x:=.t [.g l,.a (.v z)]) (by
    show ∀s∈[Sc.g l,.a (.v z)],Sc.bnd 0 s
    intro s hs
    rcases List.mem_cons.1 hs with rfl|hs
    ·exact hl
    ·rw[List.mem_singleton.1 hs];trivial)).symm,Aei ((Sat.init w No).later hb) (fun r hr=>by cases hr) hct⟩
 have b0:∀(k n:Value) (q:List UInt8),∀x∈fdL (.v k) (.v n) nl nl q nl,x.bnd 0:=fun k n q=>L6 trivial trivial trivial trivial trivial
 have hN:tkN b f p=(match (numP b (Ai f.many) p).2 with
  |none=>[]
  |some m=>(Dj b f.most (numP b (Ai f.many) p).1.toNat [] (some m)).1):=rfl
 by_cases k0:f.k=0
 ·have hQ:Az b f.fd p=(numP b f.most p).2:=by unfold Az;rw[if_pos (show f.fd.k=0 from k0)];rfl
  rw[hQ]
  unfold tkA tkC
  simp only[if_pos k0]
  exact none_ _ _ _ _ rfl (b0 _ _ _) (Bat b A c p f w hp hm hc hR hf k0)
 by_cases k3:f.k=3
 ·have k1:¬f.k=1:=by rw[k3];decide
  have k2:¬f.k=2:=by rw[k3];decide
  unfold tkA tkC
  simp only[if_neg k0,if_neg k1,if_neg k2,if_pos k3]
  exact none_ _ _ _ _ rfl (b0 _ _ _) (Ba2 b A c p f w hp hm hR hf k3)
 by_cases k2:f.k=2
 ·have k1:¬f.k=1:=by rw[k2];decide
  unfold tkA tkC
  simp only[if_neg k0,if_neg k1,if_pos k2]
  exact none_ _ _ _ _ rfl (L6 trivial trivial trivial (Aef ..) trivial) (Bau b A c p f w hp hm hc hR hf k2)
 by_cases k1:f.k=1
 ·have hQ:=Xq b p k1
  unfold tkA tkC
  simp only[if_neg k0,if_pos k1]
  cases hm2:(numP b (Ai f.many) p).2 with
  |none=>
   rw[hm2] at hQ hN
   dsimp only at hQ hN
   rw[hQ,hN]
   exact none_ _ _ _ _ rfl (b0 _ _ _) (Aee b A c p f w hp hm hc hR hf k0 k3 hm2)
  |some m=>
   refine (Ba3 b A c p f w hp hm hc hR hf k1 m (numP b (Ai f.many) p).1 (Prod.ext rfl hm2)).mono ?_
   rintro e w' ⟨γ1,he,hS⟩
   by_cases hs:(Az b f.fd p).isSome
   ·rw[if_pos hs] at he hS ⊢
    refine⟨γ1,he,?_⟩
    have hT:rdT f=27:=by unfold rdT;rw[if_neg k0,if_pos k1]
    rw[hT]
    exact hS
   ·rw[if_neg hs] at he hS ⊢
    have hz:tkN b f p=[]:=by
     have hn:Az b f.fd p=none:=by cases h:Az b f.fd p with|none=>rfl|some _=>rw[h] at hs;exact absurd rfl hs
     rw[hn,hm2] at hQ
     dsimp only at hQ
     rw[hN,hm2]
     dsimp only
     exact Xr hQ.symm
    rw[hz]
    have hl:=hS.len
    obtain rfl:γ1=[]:=List.length_eq_zero_iff.1 hl
    refine⟨_,?_,Aei hS (fun r hr=>by cases hr) rfl⟩
    rw[he]
    exact congrArg Ending.returned (Sv.ext (γ:=[]) (δ:=[.s (.slice none 0 0)]) (x:=.t [.g _,.a (.v _)]) (by
     show ∀s∈[_,_],Sc.bnd 0 s
     intro s hs
     rcases List.mem_cons.1 hs with rfl|hs
     ·exact b0 _ _ _
     ·rw[List.mem_singleton.1 hs];trivial)).symm
 ·have hQ:Az b f.fd p=(match (numP b (Ai f.many) p).2 with
   |none=>none
   |some m=>if (numP b (Ai f.many) p).1.toNat≤(b.length - m) / 4 then some (m+4*(numP b (Ai f.many) p).1.toNat) else none):=by
   unfold Az
   rw[if_neg (show ¬f.fd.k=0 from k0),if_neg (show ¬f.fd.k=1 from k1),if_neg (show ¬f.fd.k=2 from k2),if_neg (show ¬f.fd.k=3 from k3)]
   rfl
  have hX:tkX b f p=(match (numP b (Ai f.many) p).2 with
   |none=>[]
   |some m=>if (numP b (Ai f.many) p).1.toNat≤(b.length - m) / 4 then fours ((b.drop m).take (4*(numP b (Ai f.many) p).1.toNat)) else []):=rfl
  unfold tkA tkC
  simp only[if_neg k0,if_neg k1,if_neg k2,if_neg k3]
  cases hm2:(numP b (Ai f.many) p).2 with
  |none=>
   rw[hm2] at hQ hX
   dsimp only at hQ hX
   rw[hQ,hX]
   exact none_ _ _ _ _ rfl (b0 _ _ _) (Aee b A c p f w hp hm hc hR hf k0 k3 hm2)
  |some m=>
   rw[hm2] at hQ hX
   dsimp only at hQ hX
   by_cases hv:(numP b (Ai f.many) p).1.toNat≤(b.length - m) / 4
   ·rw[if_pos hv] at hQ hX
    rw[hQ,hX]
    refine (Ba5 b A c p f w hp hm hc hR hf k0 k1 k2 k3 m (numP b (Ai f.many) p).1 (Prod.ext rfl hm2) hv).mono ?_
    rintro e w' ⟨γ1,he,hS⟩
    have hT:rdT f=136:=by unfold rdT;rw[if_neg k0,if_neg k1,if_neg k2,if_neg k3]
    have e9:pI (some (m+4*(numP b (Ai f.many) p).1.toNat))=(m:Int)+4*((numP b (Ai f.many) p).1.toNat:Int):=by show ((m+4*_:Nat):Int)=_;omega
    rw[hT,e9]
    exact⟨γ1,he,hS⟩
   ·rw[if_neg hv] at hQ hX
    rw[hQ,hX]
    exact none_ _ _ _ _ rfl (b0 _ _ _) (Ba6 b A c p f w hp hm hc hR hf k0 k1 k2 k3 m _ (Prod.ext rfl hm2) hv)
end
end Go.Proofs.YtiaeollemmkclaaDoor
/- caucusref13's Take as its caller sees it; what it answers shows the field that is read. -/
namespace Go.Proofs.YtiaeollemmkclaaDoor
open Go.RowKit
set_option linter.unusedSimpArgs false
set_option linter.unusedVariables false
theorem Bbb (st:Rs):(C9 st).1.length=32:=by
 unfold C9
 split
 ·rfl
 ·simp only[List.length_take];omega
theorem Pz {w0:World} {hp:List Res} (b:List UInt8) (A:Option Addr) (c:Nat) (p:Plc) (f:FdR) (hbr:∀r∈hp,Res.bnd hp.length r) (hok:pOk b p) (hm:b.length≤100000) (hc:b.length≤c) (hR:RdV w0 w0.heap.size A (b.map vU8)) (hf:f.Ok w0):
  Ad Tryd.prog w0 No 22 [.x (.a (.v (.slice A b.length c))),.x (.a (.v (.int .i64 (pI p)))),.x (.g (fdA f))] hp (.t [.g (tkA b A c f p hp.length),.a (.v (.int .i64 (pI (Az b f.fd p))))]) (hp++[.own (rdT f) (tkC b f p)]):=by
 have h:=My (P:=Tryd.prog) (w0:=w0) (ow:=No) (f:=22) (svs:=[.x (.a (.v (.slice A b.length c))),.x (.a (.v (.int .i64 (pI p)))),.x (.g (fdA f))]) (hp:=hp) (sv1:=.t [.g (tkA b A c f p 0),.a (.v (.int .i64 (pI (Az b f.fd p))))]) (hp1:=[.own (rdT f) (tkC b f p)]) [] hbr (fun r hr=>by
  obtain rfl:r=_:=by simpa using hr
  show Cont.bnd _ _
  rw[Aeh]
  trivial) (by
  show ∀s∈[Sc.g (tkA b A c f p 0),.a (.v (.int .i64 (pI (Az b f.fd p))))],Sc.bnd 1 s
  intro s hs
  rcases List.mem_cons.1 hs with rfl|hs
  ·show ∀x∈tkA b A c f p 0,x.bnd 1
   rw[Ba9 b A c f p (show 0 < 1 by decide)]
   trivial
  ·rw[List.mem_singleton.1 hs];trivial) (fun γ w hS=>⟨No,fun b h=>h.elim,by
   have e:List.map (Sv.val γ) [.x (.a (.v (.slice A b.length c))),.x (.a (.v (.int .i64 (pI p)))),.x (.g (fdA f))]=List.map (Sv.val []) [.x (.a (.v (.slice A b.length c))),.x (.a (.v (.int .i64 (pI p)))),.x (.g (fdA f))]:=by
    simp only[List.map_cons,List.map_nil,L1]
    rfl
   rw[e]
   exact Aej b A c p f w hok hm hc (Fz hR hS) (hf.later hS)⟩)
 have e1:(Sv.t [.g (tkA b A c f p 0),.a (.v (.int .i64 (pI (Az b f.fd p))))]).ren (A7 hp.length ([.own (rdT f) (tkC b f p)]:List Res).length)=.t [.g (tkA b A c f p hp.length),.a (.v (.int .i64 (pI (Az b f.fd p))))]:=by
  have hr:rn (A7 hp.length ([.own (rdT f) (tkC b f p)]:List Res).length) 0=hp.length:=Ht (show 0 < 1 by decide)
  show Sv.t [Sc.g (List.map _ _),_]=_
  rw[Ba8,hr]
  rfl
 have e2:goneAll [] hp++([.own (rdT f) (tkC b f p)]:List Res).map (Res.ren (A7 hp.length ([.own (rdT f) (tkC b f p)]:List Res).length))=hp++[.own (rdT f) (tkC b f p)]:=by
  show hp++[Res.own _ (Cont.ren _ (tkC b f p))]=_
  rw[Bba]
 rw[e1,e2] at h
 exact h
end Go.Proofs.YtiaeollemmkclaaDoor
