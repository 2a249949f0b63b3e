import Derived.Test.YtiaeollemmkclaaDoorEn3
/- Numbers as few bytes (layer 11), in plain words: what is written, what is read, and that one undoes the other. No program in sight. -/
namespace Go.Proofs.YtiaeollemmkclaaDoor
def dgV:Nat→Nat→List UInt8
 |0,_=>[]
 |k+1,v=>dgV k (v / 256)++[UInt8.ofNat (v % 256)]
def fbV (l:List UInt8):Nat:=l.foldl (fun v x=>256*v+x.toNat) 0
theorem Gr:∀(k v:Nat),(dgV k v).length=k
 |0,_=>rfl
 |k+1,v=>by simp [dgV,Gr k]
theorem O2 (l:List UInt8) (x:UInt8):fbV (l++[x])=256*fbV l+x.toNat:=by simp [fbV]
theorem Aa7:fbV []=0:=rfl
theorem Aa8 {α:Type} {p:List α→Prop} (h0:p []) (h1:∀l x,p l→p (l++[x])) (l:List α):p l:=by
 have:∀r:List α,p r.reverse:=fun r=>by
  induction r with
  |nil=>exact h0
  |cons x r ih=>rw[List.reverse_cons];exact h1 _ _ ih
 have h:=this l.reverse
 rwa [List.reverse_reverse] at h
theorem Vt (l:List UInt8):fbV l < 256 ^ l.length:=by
 induction l using Aa8 with
 |h0=>simp [fbV]
 |h1 l x ih=>
  have:=x.toNat_lt
  rw[O2,List.length_append,List.length_singleton,Nat.pow_succ]
  omega
theorem Aa9:∀(k v:Nat),fbV (dgV k v)=v % 256 ^ k
 |0,v=>by simp [dgV,fbV,Nat.mod_one]
 |k+1,v=>by
  rw[dgV,O2,Aa9 k,UInt8.toNat_ofNat',Nat.mod_mod_of_dvd v (by decide:256 ∣2 ^ 8)]
  have h:=Nat.mod_mul (x:=v) (a:=256) (b:=256 ^ k)
  rw[Nat.pow_succ,Nat.mul_comm (256 ^ k) 256,h]
  omega
theorem A08 (l:List UInt8):dgV l.length (fbV l)=l:=by
 induction l using Aa8 with
 |h0=>rfl
 |h1 l x ih=>
  have hx:=x.toNat_lt
  rw[List.length_append,List.length_singleton,dgV,O2,show (256*fbV l+x.toNat) / 256=fbV l by omega,ih,show (256*fbV l+x.toNat) % 256=x.toNat by omega]
  simp
def nbV:Nat→Nat→Nat
 |0,_=>1
 |k+1,v=>if v < 256 then 1 else 1+nbV k (v / 256)
def nb8 (v:UInt64):Nat:=nbV 7 v.toNat
theorem Aba:∀(k f v:Nat),k≤f→256 ^ k≤v→v < 256 ^ (k+1)→nbV f v=k+1
 |0,0,v,_,_,_=>rfl
 |0,f+1,v,_,h1,h2=>by simp [nbV];omega
 |k+1,0,v,h,_,_=>by omega
 |k+1,f+1,v,h,h1,h2=>by
  have h3:256 ^ (k+1)=256*256 ^ k:=by rw[Nat.pow_succ,Nat.mul_comm]
  have h4:256 ^ (k+1+1)=256*256 ^ (k+1):=by rw[Nat.pow_succ,Nat.mul_comm]
  have h5:=Nat.pow_pos (n:=k) (by decide:0 < 256)
  have h6:¬v < 256:=by omega
  rw[nbV,if_neg h6,Aba k f (v / 256) (by omega) (by omega) (by omega)]
  omega
theorem Vu:∀(f v:Nat),1≤nbV f v∧nbV f v≤f+1
 |0,_=>by simp [nbV]
 |f+1,v=>by
  have:=Vu f (v / 256)
  simp only[nbV]
  split<;>omega
theorem Abb:∀(f v:Nat),1≤v→v < 256 ^ (f+1)→256 ^ (nbV f v - 1)≤v∧v < 256 ^ nbV f v
 |0,v,h,h2=>by simpa [nbV] using ⟨h,h2⟩
 |f+1,v,h,h2=>by
  rw[nbV]
  split
  ·rename_i h3
   simpa using ⟨h,h3⟩
  ·rename_i h3
   have h4:256 ^ (f+1+1)=256*256 ^ (f+1):=by rw[Nat.pow_succ,Nat.mul_comm]
   have ih:=Abb f (v / 256) (by omega) (by omega)
   have hl:=Vu f (v / 256)
   have h5:256 ^ (1+nbV f (v / 256) - 1)=256*256 ^ (nbV f (v / 256) - 1):=by
    rw[show 1+nbV f (v / 256) - 1=(nbV f (v / 256) - 1)+1 by omega,Nat.pow_succ,Nat.mul_comm]
   have h6:256 ^ (1+nbV f (v / 256))=256*256 ^ nbV f (v / 256):=by rw[Nat.add_comm,Nat.pow_succ,Nat.mul_comm]
   rw[h5,h6]
   omega
theorem M3 (v:UInt64):1≤nb8 v∧nb8 v≤8:=Vu 7 _
theorem Si (v:UInt64) (h:1≤v.toNat):256 ^ (nb8 v - 1)≤v.toNat∧v.toNat < 256 ^ nb8 v:=Abb 7 _ h (Nat.lt_of_lt_of_le v.toNat_lt (by decide))
def Al (v:UInt64):List UInt8:=if v < 248 then [v.toUInt8] else UInt8.ofNat (247+nb8 v)::dgV (nb8 v) v.toNat
def B9:List UInt8→Option (UInt64×Nat)
 |[]=>none
 |x::t=>if x < 248 then some (x.toUInt64,1)
  else if t.length < x.toNat - 247∨ix t 0=0 then none
  else if fbV (t.take (x.toNat - 247)) < 248 then none
  else some (UInt64.ofNat (fbV (t.take (x.toNat - 247))),x.toNat - 246)
theorem Hu (v:UInt64):1≤(Al v).length∧(Al v).length≤9:=by
 have:=M3 v
 unfold Al
 split<;>simp [Gr]<;>omega
theorem Abc:∀(k v:Nat),256 ^ k≤v→v < 256 ^ (k+1)→ix (dgV (k+1) v) 0≠0
 |0,v,h1,h2=>by
  simp only[dgV,List.nil_append,ix,List.getD_cons_zero]
  intro h
  have:=congrArg UInt8.toNat h
  simp at this h1 h2
  omega
 |k+1,v,h1,h2=>by
  have h3:256 ^ (k+1)=256*256 ^ k:=by rw[Nat.pow_succ,Nat.mul_comm]
  have h4:256 ^ (k+1+1)=256*256 ^ (k+1):=by rw[Nat.pow_succ,Nat.mul_comm]
  have ih:=Abc k (v / 256) (by omega) (by omega)
  rw[dgV]
  unfold ix at ih ⊢
  rwa [List.getD_eq_getElem?_getD,List.getElem?_append_left (by simp [Gr]),←List.getD_eq_getElem?_getD]
theorem Abd (v:UInt64) (r:List UInt8):B9 (Al v++r)=some (v,(Al v).length):=by
 unfold Al
 by_cases h:v < 248
 ·rw[if_pos h]
  have hn:v.toNat < 248:=UInt64.lt_iff_toNat_lt.1 h
  have h1:v.toUInt8 < 248:=by
   rw[UInt8.lt_iff_toNat_lt]
   simp
   omega
  simp only[List.cons_append,List.nil_append,B9,if_pos h1,List.length_singleton]
  congr 2
  apply UInt64.toNat_inj.1
  simp
  omega
 ·rw[if_neg h]
  have hn:248≤v.toNat:=Nat.not_lt.1 fun hc=>h (UInt64.lt_iff_toNat_lt.2 hc)
  have hb:=M3 v
  have hl:=Si v (by omega)
  have hx:(UInt8.ofNat (247+nb8 v)).toNat=247+nb8 v:=by
   rw[UInt8.toNat_ofNat']
   omega
  have h1:¬UInt8.ofNat (247+nb8 v) < 248:=by
   rw[UInt8.lt_iff_toNat_lt,hx]
   simp
   omega
  have ht:(dgV (nb8 v) v.toNat++r).take (nb8 v)=dgV (nb8 v) v.toNat:=by
   rw[List.take_append_of_le_length (by rw[Gr];omega),List.take_of_length_le (by rw[Gr];omega)]
  have hf:fbV (dgV (nb8 v) v.toNat)=v.toNat:=by rw[Aa9,Nat.mod_eq_of_lt hl.2]
  have h0:ix (dgV (nb8 v) v.toNat++r) 0≠0:=by
   have:=Abc (nb8 v - 1) v.toNat hl.1 (by rw[show nb8 v - 1+1=nb8 v by omega];exact hl.2)
   rw[show nb8 v - 1+1=nb8 v by omega] at this
   unfold ix at this ⊢
   rwa [List.getD_eq_getElem?_getD,List.getElem?_append_left (by rw[Gr];omega),←List.getD_eq_getElem?_getD]
  simp only[List.cons_append,B9,if_neg h1,hx,show 247+nb8 v - 247=nb8 v by omega,show 247+nb8 v - 246=nb8 v+1 by omega,ht,hf,List.length_append,Gr,List.length_cons]
  rw[if_neg (by
          rintro (h|h);· omega
          ·exact h0 h),if_neg (by omega)]
  simp
theorem O3 {b:List UInt8} {v:UInt64} {n:Nat} (h:B9 b=some (v,n)):n=(Al v).length∧b=Al v++b.drop n:=by
 cases b with
 |nil=>simp [B9] at h
 |cons x t=>
  have hx:=x.toNat_lt
  simp only[B9] at h
  split at h
  ·rename_i h1
   simp only[Option.some.injEq,Prod.mk.injEq] at h
   obtain⟨rfl,rfl⟩:=h
   have h1':=UInt8.lt_iff_toNat_lt.1 h1
   have h2:x.toUInt64 < 248:=by
    rw[UInt64.lt_iff_toNat_lt]
    simpa using h1'
   unfold Al
   rw[if_pos h2]
   simp
  ·rename_i h1
   have h1':248≤x.toNat:=Nat.not_lt.1 fun hc=>h1 (UInt8.lt_iff_toNat_lt.2 hc)
   split at h
   ·cases h
   ·rename_i h2
    split at h
    ·cases h
    ·rename_i h3
     simp only[Option.some.injEq,Prod.mk.injEq] at h
     obtain⟨rfl,rfl⟩:=h
     have h21:¬t.length < x.toNat - 247:=fun hc=>h2 (.inl hc)
     have h22:ix t 0≠0:=fun hc=>h2 (.inr hc)
     have htl:(t.take (x.toNat - 247)).length=x.toNat - 247:=by rw[List.length_take];omega
     have hlt:=Vt (t.take (x.toNat - 247))
     rw[htl] at hlt
     have hp8:256 ^ (x.toNat - 247)≤256 ^ 8:=Nat.pow_le_pow_right (by decide) (by omega)
     have hv:(UInt64.ofNat (fbV (t.take (x.toNat - 247)))).toNat=fbV (t.take (x.toNat - 247)):=by
      rw[UInt64.toNat_ofNat']
      exact Nat.mod_eq_of_lt (Nat.lt_of_lt_of_le hlt (Nat.le_trans hp8 (by decide)))
     have hge:256 ^ (x.toNat - 247 - 1)≤fbV (t.take (x.toNat - 247)):=by
      obtain⟨y,t',rfl⟩:∃y t',t=y::t':=by
       cases t with
       |nil=>simp at h21;omega
       |cons y t'=>exact⟨y,t',rfl⟩
      have hy:y≠0:=by simpa [ix] using h22
      have hy':1≤y.toNat:=by
       rcases Nat.eq_zero_or_pos y.toNat with h|h
       ·exact absurd (UInt8.toNat_inj.1 (by simpa using h)) hy
       ·exact h
      obtain⟨k,hk⟩:∃k,x.toNat - 247=k+1:=⟨x.toNat - 248,by omega⟩
      rw[hk,List.take_succ_cons]
      have key:∀(l:List UInt8) (a:Nat),a*256 ^ l.length≤l.foldl (fun v x=>256*v+x.toNat) a:=by
       intro l
       induction l with
       |nil=>intro a;simp
       |cons z l ih=>
        intro a
        rw[List.foldl_cons,List.length_cons,Nat.pow_succ]
        refine Nat.le_trans ?_ (ih _)
        have:a*(256 ^ l.length*256)=(256*a)*256 ^ l.length:=by
         rw[Nat.mul_comm (256 ^ l.length) 256,←Nat.mul_assoc,Nat.mul_comm a 256]
        rw[this]
        exact Nat.mul_le_mul_right _ (by omega)
      have h9:=key (t'.take k) y.toNat
      have hlk:(t'.take k).length=k:=by
       rw[List.length_take]
       simp at h21
       omega
      rw[hlk] at h9
      have:fbV (y::t'.take k)=(t'.take k).foldl (fun v x=>256*v+x.toNat) y.toNat:=by simp [fbV]
      rw[this]
      refine Nat.le_trans ?_ h9
      rw[show k+1 - 1=k by omega]
      exact Nat.le_mul_of_pos_left _ hy'
     have hnb:nb8 (UInt64.ofNat (fbV (t.take (x.toNat - 247))))=x.toNat - 247:=by
      unfold nb8
      rw[hv]
      have:=Aba (x.toNat - 247 - 1) 7 (fbV (t.take (x.toNat - 247))) (by omega) hge (by rw[show x.toNat - 247 - 1+1=x.toNat - 247 by omega];exact hlt)
      omega
     have hnl:¬UInt64.ofNat (fbV (t.take (x.toNat - 247))) < 248:=by
      rw[UInt64.lt_iff_toNat_lt,hv]
      simpa using h3
     have hpu:Al (UInt64.ofNat (fbV (t.take (x.toNat - 247))))=x::t.take (x.toNat - 247):=by
      unfold Al
      rw[if_neg hnl,hnb,hv]
      have hd:=A08 (t.take (x.toNat - 247))
      rw[htl] at hd
      refine congr (congrArg List.cons ?_) hd
      apply UInt8.toNat_inj.1
      rw[UInt8.toNat_ofNat']
      omega
     rw[hpu]
     refine⟨by simp [htl];omega,?_⟩
     rw[show x.toNat - 246=(x.toNat - 247)+1 by omega,List.drop_succ_cons,List.cons_append,List.take_append_drop]
end Go.Proofs.YtiaeollemmkclaaDoor
/- Fields as bytes (layer 13), in plain words: what is written, what is read of it, and what is read of a part of it. No program in sight. -/
namespace Go.Proofs.YtiaeollemmkclaaDoor
structure Fd where
 k:UInt8
 n:UInt64
 l:List UInt64
 b:List UInt8
 s:List UInt8
 x:List UInt32
 many:Int
 most:UInt64
def w4 (a b c d:UInt8):UInt32:=a.toUInt32 <<< 24|||b.toUInt32 <<< 16|||c.toUInt32 <<< 8|||d.toUInt32
def b4 (v:UInt32):List UInt8:=[(v >>> 24).toUInt8,(v >>> 16).toUInt8,(v >>> 8).toUInt8,v.toUInt8]
def Bw (x:List UInt32):List UInt8:=x.flatMap b4
def Bl (l:List UInt64):List UInt8:=l.flatMap Al
def Bc {α:Type} (l:List α):List UInt8:=Al (UInt64.ofNat l.length)
def Lp (f:Fd):List UInt8:=
 if f.k=0 then Al f.n else if f.k=1 then Bc f.l++Bl f.l else if f.k=2 then Bc f.b++f.b else if f.k=3 then f.s else Bc f.x++Bw f.x
def Dm (l:List Fd):List UInt8:=l.flatMap Lp
abbrev Rs:=List UInt8×Bool
def Gt:Rs:=([],true)
def Ay (most:UInt64) (st:Rs):UInt64×Bool×Rs:=match B9 st.1 with
 |some (v,n)=>if v≤most then (v,true,(st.1.drop n,st.2)) else (0,false,Gt)
 |none=>(0,false,Gt)
def Ai (many:Int):UInt64:=UInt64.ofNat (max many 0).toNat
def Bv (many:Int) (each:Nat) (st:Rs):Nat×Bool×Rs:=
 if (Ay (Ai many) st).2.1=true then
  (if (Ay (Ai many) st).1.toNat≤(Ay (Ai many) st).2.2.1.length / each then ((Ay (Ai many) st).1.toNat,true,(Ay (Ai many) st).2.2) else (0,false,Gt))
 else (0,false,Gt)
def De (most:UInt64):Nat→List UInt64→Rs→List UInt64×Rs
 |0,acc,st=>(acc,st)
 |n+1,acc,st=>if (Ay most st).2.1=true then De most n (acc++[(Ay most st).1]) (Ay most st).2.2 else ([],Gt)
def fours:List UInt8→List UInt32
 |a::b::c::d::r=>w4 a b c d::fours r
 |_=>[]
def A5 (many:Int) (most:UInt64) (st:Rs):List UInt64×Rs:=
 if (Bv many 1 st).2.1=true then De most (Bv many 1 st).1 [] (Bv many 1 st).2.2 else ([],Gt)
def Vv (many:Int) (st:Rs):List UInt8×Rs:=
 if (Bv many 1 st).2.1=true then ((Bv many 1 st).2.2.1.take (Bv many 1 st).1,((Bv many 1 st).2.2.1.drop (Bv many 1 st).1,(Bv many 1 st).2.2.2)) else ([],Gt)
def C9 (st:Rs):List UInt8×Rs:=if st.1.length < 32 then (List.replicate 32 0,Gt) else (st.1.take 32,(st.1.drop 32,st.2))
def Dc (many:Int) (st:Rs):List UInt32×Rs:=
 if (Bv many 4 st).2.1=true then (fours ((Bv many 4 st).2.2.1.take (4*(Bv many 4 st).1)),((Bv many 4 st).2.2.1.drop (4*(Bv many 4 st).1),(Bv many 4 st).2.2.2)) else ([],Gt)
def Df (k:UInt8):Fd:=⟨k,0,[],[],List.replicate 32 0,[],0,0⟩
def Bj (f:Fd) (st:Rs):Fd×Rs:=
 if f.k=0 then ({Df f.k with n:=(Ay f.most st).1},(Ay f.most st).2.2)
 else if f.k=1 then ({Df f.k with l:=(A5 f.many f.most st).1},(A5 f.many f.most st).2)
 else if f.k=2 then ({Df f.k with b:=(Vv f.many st).1},(Vv f.many st).2)
 else if f.k=3 then ({Df f.k with s:=(C9 st).1},(C9 st).2)
 else ({Df f.k with x:=(Dc f.many st).1},(Dc f.many st).2)
def pre (c:Nat) (l:List UInt8):Rs:=(l.take c,false)
theorem ofNat_toNat {n:Nat} (h:n≤300):(UInt64.ofNat n).toNat=n:=by
 rw[UInt64.toNat_ofNat']
 omega
theorem A09 (v:UInt32):w4 (v >>> 24).toUInt8 (v >>> 16).toUInt8 (v >>> 8).toUInt8 v.toUInt8=v:=by
 unfold w4
 apply UInt32.toBitVec_inj.1
 simp only[UInt32.toBitVec_or,UInt32.toBitVec_shiftLeft,UInt8.toBitVec_toUInt32,UInt32.toBitVec_toUInt8,UInt32.toBitVec_shiftRight]
 apply BitVec.eq_of_getLsbD_eq
 intro i hi
 simp only[BitVec.getLsbD_or,BitVec.getLsbD_setWidth]
 have e:∀k,k≤i→k+(i - k)=i:=fun k h=>by omega
 rcases Nat.lt_or_ge i 8 with h1|h1
 ·simp [hi,h1,show i < 16 by omega,show i < 24 by omega]
 rcases Nat.lt_or_ge i 16 with h2|h2
 ·simp [hi,h2,show ¬i < 8 by omega,show i < 24 by omega,show i - 8 < 8 by omega,show i - 8 < 32 by omega,e 8 h1]
 rcases Nat.lt_or_ge i 24 with h3|h3
 ·simp [hi,h3,show ¬i < 8 by omega,show ¬i < 16 by omega,show ¬i - 8 < 8 by omega,show i - 16 < 8 by omega,show i - 16 < 32 by omega,e 16 h2]
 ·simp [hi,show ¬i < 8 by omega,show ¬i < 16 by omega,show ¬i < 24 by omega,show ¬i - 8 < 8 by omega,show ¬i - 16 < 8 by omega,show i - 24 < 8 by omega,show i - 24 < 32 by omega,e 24 h3]
theorem Abe:∀(x:List UInt32) (t:List UInt8),fours ((Bw x++t).take (4*x.length))=x
 |[],t=>by simp [Bw,fours]
 |v::x,t=>by
  have e:Bw (v::x)++t=(v >>> 24).toUInt8::(v >>> 16).toUInt8::(v >>> 8).toUInt8::v.toUInt8::(Bw x++t):=by simp [Bw,b4]
  rw[e,List.length_cons,show 4*(x.length+1)=4*x.length+1+1+1+1 by omega]
  simp only[List.take_succ_cons,fours,A09,Abe x t]
theorem O4 (x:List UInt32):(Bw x).length=4*x.length:=by
 induction x with
 |nil=>rfl
 |cons v x ih=>
  have:Bw (v::x)=b4 v++Bw x:=by simp [Bw]
  rw[this,List.length_append,ih]
  simp [b4]
  omega
def Bcy (f:Fd):Fd:={f with many:=300,most:=18446744073709551615}
def Bcz (f:Fd):Fd:=if f.k=0 then {Df f.k with n:=f.n} else if f.k=1 then {Df f.k with l:=f.l} else if f.k=2 then {Df f.k with b:=f.b} else if f.k=3 then {Df f.k with s:=f.s} else {Df f.k with x:=f.x}
theorem Jb (most v:UInt64) (h:v≤most) (t:List UInt8) (b:Bool):Ay most (Al v++t,b)=(v,true,(t,b)):=by
 simp only[Ay,Abd,if_pos h,List.drop_left]
theorem A1a (l:List UInt64):l.length≤(Bl l).length:=by
 induction l with
 |nil=>simp
 |cons v l ih=>
  have:=(Hu v).1
  simp only[Bl,List.flatMap_cons,List.length_append,List.length_cons] at ih ⊢
  omega
end Go.Proofs.YtiaeollemmkclaaDoor
