import Derived.Test.YtiaeollemmkclaaDoorRi
import Derived.Test.YtiaeollemmkclaaDoorShA
import Derived.Test.YtiaeollemmkclaaDoorTy
import Derived.Test.YtiaeollemmkclaaDoorPk0
import Derived.Test.YtiaeollemmkclaaDoorProg
/- pack.fours: numbers of four bytes each, one by one (layer 13). -/
namespace Go.Proofs.YtiaeollemmkclaaDoor
open Go.RowKit
set_option linter.unusedSimpArgs false
set_option linter.unusedVariables false
theorem A5f (x:UInt32):n32 x*(16777216:Int) % (4294967296:Int)=n32 (x <<< 24):=Ua x 24 (by omega)
theorem A5g (x:UInt32):n32 x*(65536:Int) % (4294967296:Int)=n32 (x <<< 16):=Ua x 16 (by omega)
theorem Ac1:∀(l:List UInt8) (k:Nat),4*k+4≤l.length→(fours l)[k]?=some (w4 (ix l (4*k)) (ix l (4*k+1)) (ix l (4*k+2)) (ix l (4*k+3)))
 |a::b::c::d::r,0,_=>rfl
 |a::b::c::d::r,k+1,h=>by
  have:=Ac1 r k (by simp at h;omega)
  rw[fours,List.getElem?_cons_succ,this]
  rfl
 |[],k,h=>by simp at h
 |[_],k,h=>by simp at h
 |[_,_],k,h=>by simp at h
 |[_,_,_],k,h=>by simp at h
theorem Po:∀(l:List UInt8),(fours l).length=l.length / 4
 |a::b::c::d::r=>by
  have:=Po r
  rw[fours,List.length_cons,this]
  simp only[List.length_cons]
  omega
 |[]=>rfl
 |[_]=>by simp [fours]
 |[_,_]=>by simp [fours]
 |[_,_,_]=>by simp [fours]
theorem A5h (t:Array Value) {n:Nat} (h:t.size=n):t=((List.range n).map fun i=>t.getD i undef).toArray:=by
 apply Array.ext
 ·simp [h]
 ·intro i h1 h2
  simp [Array.getD,h1]
def S9 (x:UInt32):Array Value:=#[Ap x]
attribute [local go_sem] Oper.semAt_some X2 Afu A5g A5f Afi
set_option maxHeartbeats 4000000 in
set_option maxRecDepth 100000 in
theorem A5i (n:Nat) (w0:World) (bs:List UInt8) (A:Option Addr) (c Bn n0:Nat) (hm:bs.length≤100000000) (hc:bs.length≤c) (hBn:Bn < w0.heap.size) (hn0:n0≤w0.heap.size)
  (hcell:w0.cell? ⟨Bn,0,none⟩=some (.slice A bs.length c)) (hR0:RdV w0 n0 A (bs.map vU8)) (needs:Nat→Prop) (hnB:needs Bn) (hnA:0 < bs.length→∀b off,A=some ⟨b,off,none⟩→needs b):
  Acx n Tryd.prog 112 #[.pointer (some ⟨Bn,0,none⟩)] S9 (fours bs) w0 needs:=by
 intro l own J W hW hown hJ hY hJ0
 have hcW:W.cell? ⟨Bn,0,none⟩=some (.slice A bs.length c):=(hW.cell (p:=⟨Bn,0,none⟩) hBn).trans hcell
 have hRW:RdV W n0 A (bs.map vU8):=hR0.keep fun b hb=>hW.block b (by omega)
 have hsW:w0.heap.size≤W.heap.size:=hW.size
 have HBn:¬own Bn:=fun h=>(hown Bn h).2 hnB
 have Hown:=Lib.hid (fun k (h:own k)=>(hown k h).1)
 have HnA:0 < bs.length→∀b off,A=some ⟨b,off,none⟩→¬own b:=fun hp b off e h=>(hown b h).2 (hnA hp b off e)
 have HJ0:=Lib.hid hJ0
 have HJ:=Lib.hid hJ
 have HY:=Lib.hid hY
 have HnA:=Lib.hid HnA
 clear hJ0 hJ hY hown hcell hR0
 refine callsIn_of_wp Tryd.func112 rfl trivial ?_ rfl
 simp only[Tryd.ntmps112,List.size_toArray,List.length_cons,List.length_nil,Nat.reduceAdd,Nat.reduceSub,Array.replicate_succ,Array.replicate_zero,List.push_toArray,List.append_toArray,List.nil_append,List.cons_append]
 gi_wp2
 gi_loopw [3] (fun p wr=>∃k:Nat,4*k≤bs.length∧p=.int .i64 (4*k:Nat)∧RdV wr n0 A (bs.map vU8)∧J k wr∧Keeps own W wr) (fun p _=>bs.length - (intOf p).toNat)
 case atStart=>exact⟨0,by omega,rfl,hRW,HJ0.out,Keeps.refl _ _⟩
 case round=>
  obtain⟨k,hk,rfl,hR,hJk,hKk⟩:=hrel
  have hcl:wr.cell? ⟨Bn,0,none⟩=some (.slice A bs.length c):=(World.cell?_of_block (hKk.block Bn (by omega) HBn)).trans hcW
  by_cases hlt:4*k+4≤bs.length
  ·have hx:=Ac1 bs k hlt
   have hJd:J k wr.drew:=HJ.out k wr wr.drew hJk hKk.size (Below.refl _ _).drew
   obtain⟨fn,tmps,assign,body,hy,hr⟩:=HY.out k _ wr.drew hx hJd hKk.size
   have HJk:=Lib.hid hJk
   have HR:=Lib.hid hR
   clear hJk hx hJd hR
   obtain⟨i,hi⟩:∃i:Nat,4*k=i:=⟨_,rfl⟩
   rw[hi] at hk hlt hy ⊢
   have hil:i+4≤100000000:=by omega
   gi_wp2
   obtain⟨w1,hw1⟩:∃w1,w1=wr.drew:=⟨_,rfl⟩
   have hsz:n0≤w1.heap.size:=by
    have:w1.heap.size=wr.heap.size:=by rw[hw1];rfl
    have:=hKk.size
    omega
   have hR1:RdV w1 w1.heap.size A (bs.map vU8):=by
    have h1:RdV w1 n0 A (bs.map vU8):=by rw[hw1];exact HR.out
    exact h1.more hsz
   have hc1:w1.cell? ⟨Bn,0,none⟩=some (.slice A bs.length c):=by rw[hw1];exact hcl
   have F:=FM.of (f:=vU8) hR1
   have k0:B2 w1 (some ⟨Bn,0,none⟩)=.slice A bs.length c:=by simp [B2,hc1]
   have k1:C8 w1 No (some ⟨Bn,0,none⟩):=⟨_,_,rfl,block_lt_of_cell hc1,fun h=>h,hc1⟩
   have hA:=F.some_ (by omega)
   have c0:=F.cell i (by omega)
   have c1:=F.cell (i+1) (by omega)
   have c2:=F.cell (i+2) (by omega)
   have c3:=F.cell (i+3) (by omega)
   have o0:=F.ok i (by omega)
   have o1:=F.ok (i+1) (by omega)
   have o2:=F.ok (i+2) (by omega)
   have o3:=F.ok (i+3) (by omega)
   have n1:((i:Int)+1).toNat=i+1:=by omega
   have n2:((i:Int)+2).toNat=i+2:=by omega
   have n3:((i:Int)+3).toNat=i+3:=by omega
   have b0:(0:Int)≤i∧(i:Int) < bs.length:=by omega
   have b1:(0:Int)≤(i:Int)+1∧(i:Int)+1 < bs.length:=by omega
   have b2:(0:Int)≤(i:Int)+2∧(i:Int)+2 < bs.length:=by omega
   have b3:(0:Int)≤(i:Int)+3∧(i:Int)+3 < bs.length:=by omega
   obtain⟨b01,b02⟩:=b0
   obtain⟨b11,b12⟩:=b1
   obtain⟨b21,b22⟩:=b2
   obtain⟨b31,b32⟩:=b3
   have r1:-9223372036854775808≤(i:Int)+1∧(i:Int)+1≤9223372036854775807:=by omega
   have r2:-9223372036854775808≤(i:Int)+2∧(i:Int)+2≤9223372036854775807:=by omega
   have r3:-9223372036854775808≤(i:Int)+3∧(i:Int)+3≤9223372036854775807:=by omega
   refine A5e 30 [(0,true),(1,true),(2,true),(3,true),(4,true),(5,true),(6,true),(7,true),(8,true),(9,true),(10,true),(11,true),(12,true),(13,true),(14,true),(15,true),(16,true),(17,true),(18,true),(19,true),(20,true),(21,true),(22,true),(23,true),(24,true),(25,true),(26,true),(27,true),(28,true),(29,true)] (by kernel_rfl) (by kernel_rfl) (by simp) ?_
   rw[←hw1] at hy hr ⊢
   refine Wq (C:=fun x=>Sat w1 No [] [] x) (fun x hx=>by subst hx;exact Sat.init _ _) (w:=w1) _ _ (by simp) ?_
   refine On (Q:=fun a' w'=>∃s',Fits w1 No 43 s' a' w'∧(Fr.get s'.fr 0=some (.x (.a (.v (.func (.yield l) #[] #[]))))∧Fr.get s'.fr 1=some (.x (.a (.v (.pointer (some ⟨Bn,0,none⟩)))))∧Fr.get s'.fr 2=some (.x (.a (.v undef)))∧Fr.get s'.fr 3=some (.x (.a (.v (.int .i64 i))))∧
    Fr.get s'.fr 11=some (.x (.a (.v (.func (.yield l) #[] #[]))))∧Fr.get s'.fr 40=some (.x (.a (.v (Ap (w4 (ix bs i) (ix bs (i+1)) (ix bs (i+2)) (ix bs (i+3))))))))) ?_ _ _ _ _
    (J1 _ ⟨[(0,.x (.a (.v (.func (.yield l) #[] #[])))),(1,.x (.a (.v (.pointer (some ⟨Bn,0,none⟩))))),(2,.x (.a (.v undef))),(3,.x (.a (.v (.int .i64 i))))],[]⟩ [] _ w1 ?_ ?_)
   ·rintro a' w' ⟨s',⟨γ,hf⟩,g0,g1,g2,g3,g11,g40⟩
    obtain⟨t,d⟩:=a'
    obtain rfl:d=[]:=hf.defers
    have e0:t.getD 0 undef=.func (.yield l) #[] #[]:=hf.at_ 0 _ g0
    have e1:t.getD 1 undef=.pointer (some ⟨Bn,0,none⟩):=hf.at_ 1 _ g1
    have e2:t.getD 2 undef=undef:=hf.at_ 2 _ g2
    have e3:t.getD 3 undef=.int .i64 i:=hf.at_ 3 _ g3
    have e11:t.getD 11 undef=.func (.yield l) #[] #[]:=hf.at_ 11 _ g11
    have e40:t.getD 40 undef=Ap (w4 (ix bs i) (ix bs (i+1)) (ix bs (i+2)) (ix bs (i+3))):=hf.at_ 40 _ g40
    have ht2:t=#[t.getD 0 undef,t.getD 1 undef,t.getD 2 undef,t.getD 3 undef,t.getD 4 undef,t.getD 5 undef,t.getD 6 undef,t.getD 7 undef,t.getD 8 undef,t.getD 9 undef,t.getD 10 undef,t.getD 11 undef,t.getD 12 undef,t.getD 13 undef,t.getD 14 undef,t.getD 15 undef,t.getD 16 undef,t.getD 17 undef,t.getD 18 undef,t.getD 19 undef,t.getD 20 undef,t.getD 21 undef,t.getD 22 undef,t.getD 23 undef,t.getD 24 undef,t.getD 25 undef,t.getD 26 undef,t.getD 27 undef,t.getD 28 undef,t.getD 29 undef,t.getD 30 undef,t.getD 31 undef,t.getD 32 undef,t.getD 33 undef,t.getD 34 undef,t.getD 35 undef,t.getD 36 undef,t.getD 37 undef,t.getD 38 undef,t.getD 39 undef,t.getD 40 undef,t.getD 41 undef,t.getD 42 undef]:=(A5h t hf.size).trans rfl
    rw[e0,e1,e2,e3,e11,e40] at ht2
    clear hf g0 g1 g2 g3 g11 g40 e0 e1 e2 e3 e11 e40
    generalize t.getD 4 undef=v4 at ht2
    generalize t.getD 5 undef=v5 at ht2
    generalize t.getD 6 undef=v6 at ht2
    generalize t.getD 7 undef=v7 at ht2
    generalize t.getD 8 undef=v8 at ht2
    generalize t.getD 9 undef=v9 at ht2
    generalize t.getD 10 undef=v10 at ht2
    generalize t.getD 12 undef=v12 at ht2
    generalize t.getD 13 undef=v13 at ht2
    generalize t.getD 14 undef=v14 at ht2
    generalize t.getD 15 undef=v15 at ht2
    generalize t.getD 16 undef=v16 at ht2
    generalize t.getD 17 undef=v17 at ht2
    generalize t.getD 18 undef=v18 at ht2
    generalize t.getD 19 undef=v19 at ht2
    generalize t.getD 20 undef=v20 at ht2
    generalize t.getD 21 undef=v21 at ht2
    generalize t.getD 22 undef=v22 at ht2
    generalize t.getD 23 undef=v23 at ht2
    generalize t.getD 24 undef=v24 at ht2
    generalize t.getD 25 undef=v25 at ht2
    generalize t.getD 26 undef=v26 at ht2
    generalize t.getD 27 undef=v27 at ht2
    generalize t.getD 28 undef=v28 at ht2
    generalize t.getD 29 undef=v29 at ht2
    generalize t.getD 30 undef=v30 at ht2
    generalize t.getD 31 undef=v31 at ht2
    generalize t.getD 32 undef=v32 at ht2
    generalize t.getD 33 undef=v33 at ht2
    generalize t.getD 34 undef=v34 at ht2
    generalize t.getD 35 undef=v35 at ht2
    generalize t.getD 36 undef=v36 at ht2
    generalize t.getD 37 undef=v37 at ht2
    generalize t.getD 38 undef=v38 at ht2
    generalize t.getD 39 undef=v39 at ht2
    generalize t.getD 41 undef=v41 at ht2
    generalize t.getD 42 undef=v42 at ht2
    subst ht2
    clear F k0 k1 hA c0 c1 c2 c3 o0 o1 o2 o3 n1 n2 n3 b01 b02 b11 b12 b21 b22 b31 b32 r1 r2 r3 hR1 hc1
    simp only[List.drop_succ_cons,List.drop_zero]
    unfold S9 at hy
    have HW1:=Lib.hid hw1
    clear hw1
    gi_wp2
    refine⟨fun h=>by simp [Fence.wide] at h,hr.mono ?_⟩
    rintro e W' ⟨rfl,hJ1,hK1⟩
    have HJ1:=Lib.hid hJ1
    have HK1:=Lib.hid (show Keeps own wr W' from ⟨hK1.os.trans (by rw[HW1.out];rfl),hK1.tape.trans (by rw[HW1.out];rfl),hK1.output.trans (by rw[HW1.out];rfl),by have:=hK1.size;rw[HW1.out] at this;exact this,fun b hb hn=>by
     have:=hK1.block b (by rw[HW1.out];exact hb) hn
     rw[this,HW1.out];rfl⟩)
    clear hJ1 hK1 hy hr hcl
    gi_wp2
    go_roundw
    case rel=>
     refine⟨k+1,by omega,?_,?_,HJ1.out,hKk.trans HK1.out⟩
     ·rw[←hi];congr 1
     ·intro hp
      obtain⟨b,off,hA,hb,hcs⟩:=HR.out hp
      exact⟨b,off,hA,hb,fun j u hu=>(World.cell?_of_block (HK1.out.block b (by have:=hKk.size;omega) (HnA.out (by simpa using hp) b off hA))).trans (hcs j u hu)⟩
    case measure=>simp [intOf];omega
   ·simp (maxSteps:=10^6) only[k0,k1,hA,c0,c1,c2,c3,o0,o1,o2,o3,n1,n2,n3,b01,b02,b11,b12,b21,b22,b31,b32,r1,r2,r3,undef,push_cast,↓Int.toNat_natCast,↓reduceIte,reduceCtorEq,Nat.reduceEqDiff,Nat.reduceLT,Int.reduceNeg,Int.reduceLE,Int.reduceToNat]
    rfl
   ·refine⟨Sat.init _ _,rfl,rfl,fun t sv ht=>?_⟩
    simp only[Fr.get] at ht
    repeat' split at ht
    all_goals first|(cases ht;rename_i h;subst h;rfl)|cases ht
  ·have hkk:k=(fours bs).length:=by rw[Po];omega
   obtain⟨i,hi⟩:∃i:Nat,4*k=i:=⟨_,rfl⟩
   rw[hi] at hk hlt ⊢
   have HJk:=Lib.hid hJk
   have HR:=Lib.hid hR
   clear hJk hR
   gi_wp2
   go_end0
   exact⟨⟨_,rfl⟩,by rw[←hkk];exact HJk.out⟩
end Go.Proofs.YtiaeollemmkclaaDoor
