import Derived.Test.YtedaafmfjhjfmaaGreatDoorHb6
/- Layer 30 walked: height; a new tally, as facts. -/
namespace Go.Proofs.YtedaafmfjhjfmaaGreatDoor
open _root_.Go.Proofs.Tryz
set_option linter.unusedSimpArgs false
set_option linter.unusedVariables false
section
open Go.RowKit
def M3 (c:CfS) (p:Int) (m:Int) (q:Nat):Int:=if m < idxN p (abF c.places q) 0+1 then idxN p (abF c.places q) 0+1 else m
def Cz (c:CfS) (p:Int) (k:Nat):Int:=(List.range k).foldl (M3 c p) 0
theorem Tr (c:CfS) (p:Int) (k:Nat):Cz c p (k+1)=M3 c p (Cz c p k) k:=by
 unfold Cz
 rw[List.range_succ,List.foldl_append]
 rfl
theorem Xr (n:Int):∀(l:List Int) (k:Nat),-1≤idxN n l k∧idxN n l k < k+l.length∨idxN n l k=-1
 |[],k=>.inr rfl
 |x::r,k=>by
  rw[idxN]
  split
  ·refine .inl ⟨by omega,?_⟩
   simp only[List.length_cons]
   omega
  ·rcases Xr n r (k+1) with h|h
   ·refine .inl ⟨h.1,?_⟩
    simp only[List.length_cons]
    have:=h.2
    omega
   ·exact .inr h
theorem Xs {l:List PlS} (hst:StOk l) {q:Nat} (hq:q < l.length):(abF l q).length≤16:=by
 have hm:=hst.most
 rw[Acv hst hq]
 by_cases e:q=0
 ·subst e
  rw[hst.root,Se (by omega)]
  exact Nat.zero_le _
 ·have:=hst.up q (by omega) hq
  have:=Wi hst l.length (ix l q).parent (by omega) (by omega)
  omega
theorem Ts {c:CfS} {p:Int} (hst:StOk c.places):∀k,k≤c.places.length→0≤Cz c p k∧Cz c p k≤16
 |0,_=>⟨Int.le_refl _,by show (0:Int)≤16;omega⟩
 |k+1,hk=>by
  have ih:=Ts hst (p:=p) k (by omega)
  have h1:=Xs hst (show k < c.places.length by omega)
  have h2:=Xr p (abF c.places k) 0
  rw[Tr]
  unfold M3
  split
  ·omega
  ·exact ih
theorem Azj {w0:World} {ow:Nat→Prop} {hp:List Res} {sv:Sv} {l:List Int} (n:Int) (hm:l.length≤1000000) (h:Bg w0 ow hp sv (l.map (Value.int .i64))):Ad prog w0 ow 121 [sv,.x (.a (.v (.int .i64 n)))] hp (.x (.a (.v (.int .i64 (idxN n l 0))))) hp:=Bc fun γ w hS=>by
 obtain⟨A,c,e1,b1,r1⟩:=h γ w hS
 rw[List.length_map] at e1
 show Calls _ _ #[sv.val γ,_] w _
 rw[e1]
 exact Acy l n A c w hm r1
def M4 (l:List Int) (need term:Int):Bool:=Bn (-1) l&&decide (1≤need∧need≤l.length)&&decide (1≤term∧term≤1000)
set_option maxRecDepth 100000 in
theorem Azk (l:List Int) (A:Option Addr) (c:Nat) (need term:Int) (w:World) (hl:l.length≤1000) (hc:l.length≤c) (hR:RdV w w.heap.size A (l.map (Value.int .i64))) (h:M4 l need term=true):
  Calls prog 95 #[.slice A l.length c,.int .i64 need,.int .i64 term] w fun e w'=>∃(x:TalR×List Fct) (γ1:List Nm),(x.1.t=Tal.new l need term∧TalOk x.2 x.1)∧e=.returned ((Sv.t [.a (.p 0 0),.a (.v .nilIface)]).val γ1)∧Sat w No γ1 [.blk 170 (.c (tlA x.1)),.abs (fctRep x.2)] w':=by
 unfold M4 at h
 simp only[Bool.and_eq_true,decide_eq_true_eq] at h
 refine (Atz l A c need term w hl hc hR h.1.1 h.1.2 h.2).mono fun e w' ⟨γ1,he,hS⟩=>?_
 have h0:=hS.fct0 (fun r hr=>by
  simp only[List.mem_cons,List.not_mem_nil,or_false] at hr
  rcases hr with rfl|rfl
  ·exact of_eq_true (by simp (maxSteps:=10^6) only[push_cast,Nat.reduceLT,Nat.reduceAdd])
  ·trivial)
 obtain⟨A1,c1,γ2,a1,b1,eB1,eS1,s1⟩:=h0.ownFs (j:=1) (k:=2) (c:=.i64 l) (vs:=l.map (Value.int .i64)) (l:=[]) rfl rfl (by decide) (fun _=>rfl)
 rw[List.length_map] at a1 b1
 obtain⟨h7,hρ7⟩:=s1.sel (ρ:=[0,2]) (hp0:=[.blk 170 (.c (tlA ⟨⟨A1,c1,l⟩,⟨none,0,[]⟩,⟨none,0,[]⟩,need,term,0⟩)),.abs (fctRep [⟨.slice A1 l.length c1,l.length,l.map (Value.int .i64)⟩])]) (by
  rw[List.length_map]
  exact⟨by rfl,by rfl,trivial⟩) (by simp (maxSteps:=10^6) only[push_cast,reduceCtorEq]) (fun r hr=>by
  simp only[List.mem_cons,List.not_mem_nil,or_false] at hr
  rcases hr with rfl|rfl
  ·exact of_eq_true (Ae _ _)
  ·trivial)
 refine⟨(⟨⟨A1,c1,l⟩,⟨none,0,[]⟩,⟨none,0,[]⟩,need,term,0⟩,[⟨.slice A1 l.length c1,l.length,l.map (Value.int .i64)⟩]),_,⟨rfl,⟨.inr (List.mem_singleton.2 rfl),.inl rfl,.inl rfl,hl,Nat.zero_le _,Nat.zero_le _,⟨by show 0≤need;omega,by show need≤1000;omega⟩,⟨Int.le_refl _,by show (0:Int)≤1000;omega,by show 0≤term;omega,by show term≤1000;omega⟩⟩⟩,?_,h7⟩
 rw[he]
 show Ending.returned (.tuple #[.pointer (some ⟨nmB γ1 0,0,none⟩),.nilIface])=Ending.returned (.tuple #[.pointer (some ⟨nmB _ 0,0,none⟩),.nilIface])
 have e1:nmB (reγ [0,2] γ2) 0=nmB γ2 0:=Dl hρ7 (by decide)
 have e2:nmB γ2 0=nmB (γ1++[Nm.m (.bool true) (fun _=>False)]) 0:=by rw[eB1]
 have e3:nmB (γ1++[Nm.m (.bool true) (fun _=>False)]) 0=nmB γ1 0:=Dv (by rw[hS.len];show 0 < 2;omega)
 rw[e1,e2,e3]
attribute [local irreducible] Ac Ad Ah Au Ao Aj Ai Al
attribute [local irreducible] A9 okV Ak erV Bq cfF tcF isP ofP abF idxN Cg B2 Cz
section
variable {c:CfR} {w:World}
set_option maxRecDepth 100000 in
theorem Azl (p:Int) (h:c.Ok w) (hk:cfF c.cf=true):Calls prog 94 #[.agg (cfV c).toArray,.int .i64 p] w fun e w'=>e=.returned (.int .i64 (Cz c.cf p c.ps.l.length))∧Below w.heap.size w w':=by
 have hst:StOk c.ps.l:=Ob hk
 have hm:=hst.most
 refine Bf (n:=31) func94 rfl ntmps94 [.x (.g [.v (.int .i64 c.dim),.v (.slice c.ps.A c.ps.l.length c.ps.c),.v (.slice c.gs.A c.gs.l.length c.gs.c),.v (.int .i64 c.least),.v (.int .i64 c.term)]),.x (.a (.v (.int .i64 p)))] (by simp) (.x (.a (.v (.int .i64 (Cz c.cf p c.ps.l.length))))) (fun _=>rfl) ?_
 simp (maxSteps:=10^6) only[undef,push_cast,↓reduceIte,reduceCtorEq,Nat.reduceEqDiff,Nat.reduceLT,Nat.reduceAdd]
 refine Bj (ι:=Nat) (fun i=>⟨[(1,.x (.a (.v (.int .i64 p)))),(2,.x (.a (.p 0 0))),(5,.x (.a (.v (.int .i64 (Cz c.cf p i))))),(11,.x (.a (.v (.int .i64 c.ps.l.length)))),(12,.x (.a (.v (.int .i64 (i:Nat)))))],[.blk 38 (.c [.v (.int .i64 c.dim),.v (.slice c.ps.A c.ps.l.length c.ps.c),.v (.slice c.gs.A c.gs.l.length c.gs.c),.v (.int .i64 c.least),.v (.int .i64 c.term)])]⟩) (fun i=>i≤c.ps.l.length) (fun i=>c.ps.l.length - i) 0 [0] (Nat.zero_le _) ?_ ?_
 ·have e0:Cz c.cf p 0=0:=by unfold Cz;rfl
  simp (maxSteps:=10^6) only[e0,push_cast,↓Int.cast_ofNat_Int,Int.cast_ofNat_Int,↓reduceIte,reduceCtorEq,Nat.reduceEqDiff,Nat.reduceLT]
 intro i hi
 have hf:=Ts (c:=c.cf) (p:=p) hst i hi
 by_cases hlt:(i:Int) < c.ps.l.length
 ·have hil:i < c.ps.l.length:=by omega
  have i0:(0:Int)≤i:=by omega
  have nx:(i:Int)+1≤9223372036854775807:=by omega
  have nx0:-9223372036854775808≤(i:Int)+1:=by omega
  have ht:tcF c.cf i=.nilIface:=(Hd hk i0 hlt).1
  have hp:isP c.cf i=true:=(Hd hk i0 hlt).2
  have ho:ofP c.cf i (abF c.cf.places i)=abF c.ps.l i:=by unfold ofP;rw[if_pos hp];rfl
  have hal:=Xs hst hil
  have hid:=Xr p (abF c.ps.l i) 0
  have hs:=Tr c.cf p i
  unfold M3 at hs
  have aK:∀hp,(∀r∈hp,Res.bnd hp.length r)→Ad prog w No 51 [.x (.g [.v (.int .i64 c.dim),.v (.slice c.ps.A c.ps.l.length c.ps.c),.v (.slice c.gs.A c.gs.l.length c.gs.c),.v (.int .i64 c.least),.v (.int .i64 c.term)]),.x (.a (.v (.int .i64 (i:Int))))] hp (.t [.a (.o hp.length),.a (.v .nilIface)]) (hp++[.own 3 (.i64 (abF c.ps.l i))]):=fun hp hbr=>by
   have:=Ass (s:=.x (.g (cfA c))) (i:Int) (Om h) (hp:=hp) hbr
   rw[Int.toNat_natCast,ht,ho] at this
   exact this
  simp (maxSteps:=10^6) only[hlt,push_cast,↓reduceIte,Nat.reduceEqDiff,Nat.reduceLT,Nat.reduceAdd]
  (repeat (refine And.intro (by first|omega|decide) ?_))
  refine Kq rfl Vd rfl (aK _ (by simp (maxSteps:=10^6) only[push_cast])) (Aa rfl) (fun _=>by simp (maxSteps:=10^6) only[push_cast,Nat.reduceLT]) ?_
  simp (maxSteps:=10^6) only[push_cast,↓reduceIte,Nat.reduceEqDiff,Nat.reduceLT,Nat.reduceAdd]
  (repeat (refine And.intro (by first|omega|decide) ?_))
  refine Am rfl Aa2 rfl (Azj (l:=abF c.ps.l i) p (by omega) (Ri (k:=1) rfl fun _=>rfl)) (Aa rfl) ?_
  have hs:Cz c.cf p (i+1)=if Cz c.cf p i < idxN p (abF c.ps.l i) 0+1 then idxN p (abF c.ps.l i) 0+1 else Cz c.cf p i:=hs
  generalize idxN p (abF c.ps.l i) 0=X at*
  have r1:-9223372036854775808≤X+1:=by omega
  have r2:X+1≤9223372036854775807:=by omega
  by_cases hx:Cz c.cf p i < X+1
  ·rw[if_pos hx] at hs
   simp (maxSteps:=10^6) only[hx,r1,r2,nx,nx0,push_cast,↓reduceIte,Nat.reduceEqDiff,Nat.reduceLT,Nat.reduceAdd,Int.reduceNeg]
   refine Ba (i+1) [0] (show i+1≤c.ps.l.length by omega) (show c.ps.l.length - (i+1) < c.ps.l.length - i by omega) ?_
   simp (maxSteps:=10^6) only[hs,push_cast,↓reduceIte,Nat.reduceEqDiff,Nat.reduceLT]
   done
  ·rw[if_neg hx] at hs
   simp (maxSteps:=10^6) only[hx,r1,r2,nx,nx0,push_cast,↓reduceIte,Nat.reduceEqDiff,Nat.reduceLT,Nat.reduceAdd,Int.reduceNeg]
   refine Ba (i+1) [0] (show i+1≤c.ps.l.length by omega) (show c.ps.l.length - (i+1) < c.ps.l.length - i by omega) ?_
   simp (maxSteps:=10^6) only[hs,push_cast,↓reduceIte,Nat.reduceEqDiff,Nat.reduceLT]
   done
 ·obtain rfl:i=c.ps.l.length:=by omega
  simp (maxSteps:=10^6) only[hlt,push_cast,↓reduceIte,Nat.reduceEqDiff,Nat.reduceLT]
  done
end
end
section
theorem Afk (c:CfS) (b:List Int):∀(k i:Nat),Iy c b k i=true→∀j,i≤j→j < i+k→¬(atF c.groups j=decide (0 < ix b j))∧wiF (ix c.places j).need 1 (if atF c.groups j=true then 1 else ix b j)=true
 |0,i,_,j,h1,h2=>by omega
 |k+1,i,h,j,h1,h2=>by
  rw[Iy] at h
  split at h
  ·cases h
  ·rename_i h3
   by_cases h4:wiF (ix c.places i).need 1 (if atF c.groups i=true then 1 else ix b i)=true
   ·rw[if_pos h4] at h
    by_cases e:i=j
    ·subst e
     exact⟨h3,h4⟩
    ·exact Afk c b k (i+1) h j (by omega) (by omega)
   ·rw[if_neg h4] at h
    cases h
theorem Azm (b:List Int) (k p:Nat) (v:Int) (hp:p < b.length):ix (b.set k v) p=if k=p then v else ix b p:=by
 unfold ix
 rw[List.getD_eq_getElem?_getD,List.getD_eq_getElem?_getD,List.getElem?_set]
 by_cases h:k=p
 ·subst h
  simp [hp]
 ·simp [h]
theorem Afl:∀(l:List PlS) (b:List Int) (p:Nat),p < b.length→ix (l.foldl K0 b) p=ix b p+((l.filter fun x=>decide (x.parent.toNat=p)).length:Int)
 |[],b,p,_=>by simp
 |x::l,b,p,hp=>by
  have hl:(K0 b x).length=b.length:=by unfold K0;rw[List.length_set]
  rw[List.foldl_cons,Afl l (K0 b x) p (by rw[hl];exact hp)]
  unfold K0
  rw[Azm _ _ _ _ hp]
  by_cases h:x.parent.toNat=p
  ·rw[if_pos h,List.filter_cons_of_pos (by simp [h]),List.length_cons,h]
   omega
  ·rw[if_neg h,List.filter_cons_of_neg (by simp [h])]
theorem Azn (l:List PlS):l=(List.range l.length).map (ix l):=by
 apply List.ext_getElem?
 intro i
 rw[List.getElem?_map]
 by_cases h:i < l.length
 ·rw[List.getElem?_eq_getElem h,List.getElem?_range h,Option.map_some,Pj h]
 ·rw[List.getElem?_eq_none (by omega),List.getElem?_eq_none (by simp;omega)]
  rfl
theorem Azo {l:List PlS} (hst:StOk l) (p:Nat):((l.drop 1).filter fun x=>decide (x.parent.toNat=p)).length=(Bk l p l.length).length:=by
 have hm:=hst.least
 obtain⟨n,hn⟩:∃n,l.length=n+1:=⟨l.length - 1,by omega⟩
 have e1:l.drop 1=(List.range' 1 n).map (ix l):=by
  conv=>lhs;rw[Azn l]
  rw[hn,List.range_eq_range',←List.map_drop]
  congr 1
 rw[e1,List.filter_map,List.length_map]
 unfold Bk
 rw[List.length_map,hn,List.range_eq_range',List.range'_succ,List.filter_cons_of_neg (by rw[hst.root];simp)]
 congr 1
 refine List.filter_congr fun q hq=>?_
 have hq:=List.mem_range'_1.1 hq
 have hu:=hst.up q (by omega) (by omega)
 show decide ((ix l q).parent.toNat=p)=decide ((ix l q).parent=(p:Int))
 exact decide_eq_decide.2 (by omega)
theorem Azp (l:List PlS) (p:Int) (n:Nat) (hn:n≤64):Bn (-1) (Bk l p n)=true:=by
 refine Jr.2 ⟨fun x hx=>?_,?_⟩
 ·unfold Bk at hx
  obtain⟨q,hq,rfl⟩:=List.mem_map.1 hx
  have:=List.mem_range.1 (List.mem_filter.1 hq).1
  show (-1:Int) < q∧(0:Int)≤q∧(q:Int) < 64
  omega
 ·unfold Bk
  rw[List.pairwise_map]
  exact (List.pairwise_lt_range.filter _).imp fun h=>Int.ofNat_lt.2 h
def tmF (c:CfS) (p:Int):Int:=if c.term*Cz c p c.places.length*4 < 1000 then c.term*Cz c p c.places.length*4 else 1000
theorem Afm (c:CfS) (p:Int):∀k n,k≤n→Cz c p k≤Cz c p n
 |k,0,h=>by rw[Nat.le_zero.1 h];exact Int.le_refl _
 |k,n+1,h=>by
  by_cases e:k=n+1
  ·rw[e];exact Int.le_refl _
  ·have:=Afm c p k n (by omega)
   rw[Tr]
   unfold M3
   split<;>omega
theorem Azq {c:CfS} {p q:Nat} (hst:StOk c.places) (hq:q < c.places.length) (h:(ix c.places q).parent=p):1≤Cz c p c.places.length:=by
 have h0:1≤q:=by
  by_cases e:q=0
  ·subst e
   rw[hst.root] at h
   omega
  ·omega
 have h1:=Afm c p (q+1) c.places.length (by omega)
 rw[Tr] at h1
 have e:idxN (p:Int) (abF c.places q) 0=0:=by
  rw[Aqg hst h0 hq,h,idxN,if_pos rfl]
  rfl
 unfold M3 at h1
 rw[e] at h1
 split at h1<;>omega
theorem Azr {c:CfS} {p:Nat} (h:cfF c=true) (hp:p < c.places.length) (hg:B2 c p < 0):M4 (Bk c.places p c.places.length) (ix c.places p).need (tmF c p)=true∧1≤tmF c p∧tmF c p≤1000:=by
 have hst:=Ob h
 have hm:=hst.most
 have hcf:=h
 unfold cfF at hcf
 simp only[Bool.and_eq_true] at hcf
 have hne:=hcf.2
 have hterm:=Iz.1 hcf.1.1.1.2
 unfold neF at hne
 obtain⟨h1,h2⟩:=Afk c (beF c.places) _ _ hne p (Nat.zero_le _) (by omega)
 have hisp:isP c p=true:=(Hd h (by omega) (by omega)).2
 have hat:atF c.groups p=false:=by
  unfold B2 at hg
  rw[if_pos hisp] at hg
  rw[Wc p c.groups 0]
  exact decide_eq_false (by omega)
 have hbe:ix (beF c.places) p=((Bk c.places p c.places.length).length:Int):=by
  unfold beF
  rw[Afl _ _ _ (by rw[List.length_replicate];exact hp),Azo hst]
  have:ix (List.replicate c.places.length (0:Int)) p=0:=by
   unfold ix
   rw[List.getD_eq_getElem?_getD,List.getElem?_replicate,if_pos hp]
   rfl
  omega
 rw[hat] at h1 h2
 rw[if_neg (by decide),hbe] at h2
 have h2:=Iz.1 h2
 have hpos:0 < (Bk c.places p c.places.length).length:=by omega
 obtain⟨y,hy⟩:=List.exists_mem_of_length_pos hpos
 unfold Bk at hy
 obtain⟨q,hq,_⟩:=List.mem_map.1 hy
 obtain⟨hq1,hq2⟩:=List.mem_filter.1 hq
 have hhi:=Azq (p:=p) hst (List.mem_range.1 hq1) (of_decide_eq_true hq2)
 have hhf:=Ts (c:=c) (p:=p) hst c.places.length (Nat.le_refl _)
 have hx:1*1≤c.term*Cz c p c.places.length:=Int.mul_le_mul hterm.1 hhi (by omega) (by omega)
 have ht:1≤tmF c p∧tmF c p≤1000:=by
  unfold tmF
  split<;>omega
 refine⟨?_,ht⟩
 unfold M4
 rw[Azp _ _ _ (by omega),decide_eq_true h2,decide_eq_true ht]
 rfl
def Gy (c:CfS) (p gen:Int):Bool:=cfF c&&decide (0≤p∧p < c.places.length)&&decide (1≤gen∧gen≤1073741824)&&decide (B2 c p < 0)
def Pm (c:CfS) (l:List Int) (i:Nat):List (Int×List Int):=(l.take i).foldl (fun m q=>Bv m q (Bk c.places q c.places.length)) []
theorem Azs {c:CfS} {l:List Int} {i:Nat} (h:i < l.length):Pm c l (i+1)=Bv (Pm c l i) (ix l i) (Bk c.places (ix l i) c.places.length):=by
 unfold Pm
 rw[List.take_add_one,List.getElem?_eq_getElem h,Option.toList_some,List.foldl_append,Pj h]
 rfl
def HbS.new (c:CfS) (p gen:Int):HbS:=⟨p,gen,(ix c.places p.toNat).parent,abF c.places p.toNat,Bk c.places p c.places.length,Pm c (Bk c.places p c.places.length) (Bk c.places p c.places.length).length,Tal.new (Bk c.places p c.places.length) (ix c.places p.toNat).need (tmF c p),Sms.new c p,0⟩
theorem Azt {c:CfS} {p:Int} (h:cfF c=true):SmFine (Sms.new c p):=by
 have hst:=Ob h
 have hcf:=h
 unfold cfF at hcf
 simp only[Bool.and_eq_true] at hcf
 refine⟨⟨fun t ht=>(by cases ht),List.Pairwise.nil⟩,by rw[Aye];exact hst.most,fun q=>?_,Iz.1 hcf.1.1.1.1⟩
 unfold Sms.und
 have hl:=hst.least
 have e:(ix (Sms.new c p).spots (0:Int).toNat).above=[]:=by
  have:=Ayd (c:=c) (p:=p) (a:=0) (by omega)
  have e0:(0:Int).toNat=0:=rfl
  rw[e0,this,Ayc,Aqf hst]
 rw[e]
 simp
end
end Go.Proofs.YtedaafmfjhjfmaaGreatDoor
