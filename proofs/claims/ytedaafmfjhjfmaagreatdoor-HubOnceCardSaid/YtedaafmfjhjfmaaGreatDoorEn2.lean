import Derived.Test.YtedaafmfjhjfmaaGreatDoorEn1
import Derived.Maps.AppendAt
/- En2: E7, E8, E9, Ea, Eb, Ec, joined. -/
/- The engine: comparisons, conversions, places, parts. No program in sight. -/
namespace Go.Proofs.YtedaafmfjhjfmaaGreatDoor
open Go.RowKit
set_option linter.unusedSimpArgs false
section
section
variable {P:Program} {w0 w:World} {ow:Nat→Prop} {γ:List Nm} {hp hp':List Res} {c:Prop} {v:Sv} {t:TypeId}
theorem Dz {op:BinOp} {x y:Operand} {a b r:Value} (hg:(eqGuard op t x y a b).run P w=.ok () w) (h:(binOp op t a b).run P w=.ok r w):
  (do eqGuard op t x y a b;binOp op t a b:Sem Value).run P w=.ok r w:=by
 rw[Sem.run_bind,hg]
 exact h
def G9 (neg:Bool):BinOp:=if neg=true then .neq else .eql
theorem Gi {neg b:Bool} {x y:Value} (h1:binOp .eql t x y=(do pure (.bool (←Op.equal t x y)))) (h2:binOp .neq t x y=(do pure (.bool (!(←Op.equal t x y)))))
  (h:(Op.equal t x y).run P w=.ok b w):(binOp (G9 neg) t x y).run P w=.ok (.bool (if neg=true then !b else b)) w:=by
 cases neg
 ·rw[show G9 false=.eql from rfl,h1,Sem.run_bind,h];rfl
 ·rw[show G9 true=.neq from rfl,h2,Sem.run_bind,h];rfl
theorem Gj {a b:Value} {r:Bool} (h:∀d,(Op.equalIn (d+2) t a b).run P w=.ok r w):(Op.equal t a b).run P w=.ok r w:=h 9998
theorem F5 {neg b:Bool} {d:Prop} (h:D7 neg d b hp=some (c,v,hp')):d=c∧v=.x (.a (.v (.bool (if neg=true then !b else b))))∧hp'=hp:=by
 simp only[D7,C1,Option.some.injEq,Prod.mk.injEq] at h
 exact⟨h.1,h.2.1.symm,h.2.2.symm⟩
theorem Dw {x:Value} {d:Prop} (h:C1 d x hp=some (c,v,hp')):d=c∧v=.x (.a (.v x))∧hp'=hp:=by
 simp only[C1,Option.some.injEq,Prod.mk.injEq] at h
 exact⟨h.1,h.2.1.symm,h.2.2.symm⟩
theorem Qu {r:R1} (h:Je hp r=some (c,v,hp')):∃x,r=some (c,x)∧v=.x (.a (.v x))∧hp'=hp:=by
 cases r with
 |none=>simp [Je] at h
 |some q=>
  obtain⟨d,x⟩:=q
  simp only[Je,Option.some.injEq,Prod.mk.injEq] at h
  obtain⟨rfl,rfl,rfl⟩:=h
  exact⟨x,rfl,rfl,rfl⟩
theorem Y2 {α:Type} [DecidableEq α] [Inhabited α] (k:IntKind) (f:α→Int) (hf:∀x y,f x=f y↔x=y) (w:World) (d:Nat) {t e:TypeId} {n:Nat} (ht:P.underlying t=some (.array n e)) (he:P.underlying e=some (.int k)) (hs:(P.info? e).map (·.size)=some 1) (hp:P.plainKey e=true) (a b:List α) (ha:a.length=n) (hb:b.length=n):
  (Op.equalIn (d+2) t (.agg (a.map fun x=>Value.int k (f x)).toArray) (.agg (b.map fun x=>Value.int k (f x)).toArray)).run P w=.ok (decide (a=b)) w:=by
 cases hi:P.info? e with
 |none=>simp [hi] at hs
 |some i=>
  have h1:P.cellsOf e=1:=by simpa [Program.cellsOf,hi] using hs
  have get:∀(l:List α) (j:Nat),j < l.length→(l.map fun x=>Value.int k (f x)).toArray[j]?=some (Value.int k (f (ix l j))):=fun l j hj=>by
   rw[List.getElem?_toArray]
   exact D8 _ l j hj
  rw[run_equalIn_array w (d+1) _ _ ht hi,h1,T2 w d e k he hp _ _ (fun i=>f (ix a i)) (fun i=>f (ix b i)) (List.range n)
   (fun j hj=>by rw[List.mem_range] at hj;exact⟨get a j (by omega),get b j (by omega)⟩)]
  congr 1
  rw[Bool.eq_iff_iff]
  simp only[List.all_eq_true,List.mem_range,decide_eq_true_eq,beq_iff_eq]
  constructor
  ·intro h
   apply List.ext_getElem (by omega)
   intro j h1 h2
   have:=(hf _ _).1 (h j (by omega))
   simpa [ix,List.getD_eq_getElem?_getD,List.getElem?_eq_getElem h1,List.getElem?_eq_getElem h2] using this
  ·rintro rfl j _
   rfl
theorem Aiq (w:World) (d:Nat) {t e:TypeId} {n:Nat} (ht:P.underlying t=some (.array n e)) (he:P.underlying e=some (.int .u32)) (hs:(P.info? e).map (·.size)=some 1) (hp:P.plainKey e=true) (a b:List UInt32) (ha:a.length=n) (hb:b.length=n):
  (Op.equalIn (d+2) t (.agg (arr32 a)) (.agg (arr32 b))).run P w=.ok (decide (a=b)) w:=Y2 .u32 n32 (fun _ _=>Pp) w d ht he hs hp a b ha hb
theorem Air (w:World) (d:Nat) {t e:TypeId} {n:Nat} (ht:P.underlying t=some (.array n e)) (he:P.underlying e=some (.int .u64)) (hs:(P.info? e).map (·.size)=some 1) (hp:P.plainKey e=true) (a b:List UInt64) (ha:a.length=n) (hb:b.length=n):
  (Op.equalIn (d+2) t (.agg (arr64 a)) (.agg (arr64 b))).run P w=.ok (decide (a=b)) w:=Y2 .u64 n64 (fun _ _=>Pq) w d ht he hs hp a b ha hb
theorem Um:∀{l:List At} {ks:List IntKind} {ns:List Int},Kd l=some (ks,ns)→ks.length=ns.length∧l.map (At.val γ)=List.zipWith Value.int ks ns
 |[],ks,ns,h=>by
  simp only[Kd,Option.some.injEq,Prod.mk.injEq] at h
  obtain⟨rfl,rfl⟩:=h
  exact⟨rfl,rfl⟩
 |x::r,ks,ns,h=>by
  unfold Kd at h
  split at h
  ·rename_i e;cases e
  ·rename_i k n r' e
   cases e
   split at h
   ·rename_i ks' ns' hr
    simp only[Option.some.injEq,Prod.mk.injEq] at h
    obtain⟨rfl,rfl⟩:=h
    obtain⟨h1,h2⟩:=Um hr
    exact⟨by simp [h1],by rw[List.map_cons,h2];rfl⟩
   ·cases h
  ·cases h
theorem Y3 (w:World) (d:Nat) (xs ys:Array Value):∀(fs:List Field) (ks:List IntKind) (off:Nat) (a b:List Int),Ls P off fs ks=true→ks.length=a.length→ks.length=b.length→
  (∀i k n,ks[i]?=some k→a[i]?=some n→xs[off+i]?=some (.int k n))→(∀i k n,ks[i]?=some k→b[i]?=some n→ys[off+i]?=some (.int k n))→
  (Op.eqFields (d+1) xs ys fs).run P w=.ok (eqB a b) w
 |[],ks,off,a,b,h,h1,h2,_,_=>by
  cases ks with
  |nil=>
   cases a with
   |nil=>
    cases b with
    |nil=>simp [Op.eqFields,eqB]
    |cons _ _=>simp at h2
   |cons _ _=>simp at h1
  |cons k ks=>simp [Ls] at h
 |f::fs,ks,off,a,b,h,h1,h2,hx,hy=>by
  cases ks with
  |nil=>simp [Ls] at h
  |cons k ks=>
   cases a with
   |nil=>simp at h1
   |cons x a=>
    cases b with
    |nil=>simp at h2
    |cons y b=>
     simp only[Ls,Bool.and_eq_true,decide_eq_true_eq] at h
     obtain⟨⟨⟨⟨hn,ho⟩,hp⟩,hk⟩,hr⟩:=h
     have hu:P.underlying f.type=some (.int k):=by
      split at hk
      ·rename_i k' e
       rw[e,of_decide_eq_true hk]
      ·cases hk
     have e1:=hx 0 k x rfl rfl
     have e2:=hy 0 k y rfl rfl
     rw[Nat.add_zero,←ho] at e1 e2
     have ih:=Y3 w d xs ys fs ks (off+1) a b hr (by simpa using h1) (by simpa using h2)
      (fun i k n h3 h4=>by have:=hx (i+1) k n h3 h4;rwa [show off+(i+1)=off+1+i from by omega] at this)
      (fun i k n h3 h4=>by have:=hy (i+1) k n h3 h4;rwa [show off+(i+1)=off+1+i from by omega] at this)
     simp only[Op.eqFields,hn,ne_eq,not_false_eq_true,if_true,Sem.run_bind,run_part_plain w hp e1,run_part_plain w hp e2,run_equalIn_int w d f.type k k _ _ hu,Result.andThen_ok,eqB]
     by_cases e:x=y
     ·subst e
      simpa using ih
     ·simp [e]
theorem Y4 {ks:List IntKind} {ns:List Int} (i:Nat) (k:IntKind) (n:Int) (h1:ks[i]?=some k) (h2:ns[i]?=some n):(List.zipWith Value.int ks ns).toArray[0+i]?=some (.int k n):=by
 rw[Nat.zero_add]
 simp [List.getElem?_zipWith,h1,h2]
theorem Ais {neg:Bool} {a b:Sv} {x y:Operand} (h:eqS P t neg hp a b=some (c,v,hp')) (hc:c):
  hp'=hp∧(do eqGuard (G9 neg) t x y (a.val γ) (b.val γ);binOp (G9 neg) t (a.val γ) (b.val γ):Sem Value).run P w=.ok (v.val γ) w:=by
 unfold eqS at h
 split at h
 ·rename_i l m
  split at h
  ·obtain⟨rfl,rfl,rfl⟩:=F5 h
   refine⟨rfl,?_⟩
   obtain⟨⟨e,h1,h2,h3,h4,h5⟩,h6,h7⟩:=hc
   obtain⟨i,hi,hsz⟩:=Ev h3 (by omega)
   refine Dz ?_ (Gi rfl rfl ?_)
   ·cases neg<;>simp [eqGuard,G9,Sv.val,Sc.val,h5]
   ·exact Gj fun d=>Agm (P:=P) w d h1 h2 (by rw[hi];simpa using hsz) h4 l m h6 h7
  ·cases h
 ·rename_i l m
  split at h
  ·obtain⟨rfl,rfl,rfl⟩:=F5 h
   refine⟨rfl,?_⟩
   obtain⟨⟨e,h1,h2,h3,h4,h5⟩,h6,h7⟩:=hc
   obtain⟨i,hi,hsz⟩:=Ev h3 (by omega)
   refine Dz ?_ (Gi rfl rfl ?_)
   ·cases neg<;>simp [eqGuard,G9,Sv.val,Sc.val,h5]
   ·exact Gj fun d=>Aiq (P:=P) w d h1 h2 (by rw[hi];simpa using hsz) h4 l m h6 h7
  ·cases h
 ·rename_i l m
  split at h
  ·obtain⟨rfl,rfl,rfl⟩:=F5 h
   refine⟨rfl,?_⟩
   obtain⟨⟨e,h1,h2,h3,h4,h5⟩,h6,h7⟩:=hc
   obtain⟨i,hi,hsz⟩:=Ev h3 (by omega)
   refine Dz ?_ (Gi rfl rfl ?_)
   ·cases neg<;>simp [eqGuard,G9,Sv.val,Sc.val,h5]
   ·exact Gj fun d=>Air (P:=P) w d h1 h2 (by rw[hi];simpa using hsz) h4 l m h6 h7
  ·cases h
 ·rename_i l m
  split at h
  ·rename_i ks xs ks' ys hl hm
   obtain⟨rfl,rfl,rfl⟩:=F5 h
   refine⟨rfl,?_⟩
   obtain⟨⟨h1,h2,h3,h4⟩,rfl⟩:=hc
   obtain⟨l1,l2⟩:=Um (γ:=γ) hl
   obtain⟨m1,m2⟩:=Um (γ:=γ) hm
   have el:(Sv.x (.g l)).val γ=.agg (List.zipWith Value.int ks' xs).toArray:=by show Value.agg (l.map (At.val γ)).toArray=_;rw[l2]
   have em:(Sv.x (.g m)).val γ=.agg (List.zipWith Value.int ks' ys).toArray:=by show Value.agg (m.map (At.val γ)).toArray=_;rw[m2]
   rw[el,em]
   refine Dz ?_ (Gi rfl rfl ?_)
   ·cases neg<;>simp [eqGuard,G9,h3]
   ·refine Gj fun d=>?_
    rw[run_equalIn_struct w (d+1) t _ _ h1 h2]
    exact Y3 w d _ _ _ ks' 0 xs ys h4 l1 m1 (fun i k n=>Y4 i k n) (fun i k n=>Y4 i k n)
  ·cases h
 ·rename_i l m
  obtain⟨rfl,rfl,rfl⟩:=F5 h
  refine⟨rfl,Dz (by cases neg<;>rfl) ?_⟩
  cases neg<;>rfl
 ·split at h
  ·rename_i hu
   obtain⟨rfl,rfl,rfl⟩:=F5 h
   refine⟨rfl,Dz (by cases neg<;>rfl) (Gi rfl rfl ?_)⟩
   exact Gj fun d=>by unfold Op.equalIn;rw[Sem.run_bind,run_underlying hu];rfl
  ·cases h
 ·split at h
  ·rename_i hu
   obtain⟨rfl,rfl,rfl⟩:=F5 h
   refine⟨rfl,Dz (by cases neg<;>rfl) (Gi rfl rfl ?_)⟩
   exact Gj fun d=>by unfold Op.equalIn;rw[Sem.run_bind,run_underlying hu];rfl
  ·cases h
 ·split at h
  ·rename_i hu
   obtain⟨rfl,rfl,rfl⟩:=F5 h
   refine⟨rfl,Dz (by cases neg<;>rfl) (Gi rfl rfl ?_)⟩
   exact Gj fun d=>by unfold Op.equalIn;rw[Sem.run_bind,run_underlying hu];rfl
  ·cases h
 ·rename_i A _ _ _ _
  split at h
  ·rename_i hu
   obtain⟨rfl,rfl,rfl⟩:=F5 h
   refine⟨rfl,Dz (by cases neg<;>rfl) (Gi rfl rfl ?_)⟩
   exact Gj fun d=>by unfold Op.equalIn;rw[Sem.run_bind,run_underlying hu];cases A<;>rfl
  ·cases h
 ·split at h
  ·rename_i hu
   obtain⟨rfl,rfl,rfl⟩:=F5 h
   refine⟨rfl,Dz (by cases neg<;>rfl) (Gi rfl rfl ?_)⟩
   exact Gj fun d=>by unfold Op.equalIn;rw[Sem.run_bind,run_underlying hu];rfl
  ·cases h
 ·split at h
  ·rename_i hu
   obtain⟨rfl,rfl,rfl⟩:=F5 h
   refine⟨rfl,Dz (by cases neg<;>rfl) (Gi rfl rfl ?_)⟩
   exact Gj fun d=>by unfold Op.equalIn;rw[Sem.run_bind,run_underlying hu];rfl
  ·cases h
 ·rename_i A
  split at h
  ·rename_i hu
   obtain⟨rfl,rfl,rfl⟩:=F5 h
   refine⟨rfl,Dz (by cases neg<;>rfl) (Gi rfl rfl ?_)⟩
   exact Gj fun d=>by unfold Op.equalIn;rw[Sem.run_bind,run_underlying hu];cases A<;>rfl
  ·cases h
 ·cases h
theorem Y5 {neg:Bool} {a b:Sv} {x y:Operand} (h:Nb P t neg hp x y a b=some (c,v,hp')) (hc:c):
  hp'=hp∧(do eqGuard (G9 neg) t x y (a.val γ) (b.val γ);binOp (G9 neg) t (a.val γ) (b.val γ):Sem Value).run P w=.ok (v.val γ) w:=by
 unfold Nb at h
 split at h
 ·split at h
  ·rename_i hu
   split at h
   ·rename_i hl
    obtain⟨rfl,rfl,rfl⟩:=F5 h
    refine⟨rfl,Dz ?_ (Gi rfl rfl ?_)⟩
    ·cases neg<;>cases x<;>cases y<;>first|rfl|simp [Qb] at hl
    ·exact Gj fun d=>by unfold Op.equalIn;rw[Sem.run_bind,run_underlying hu];rfl
   ·cases h
  ·cases h
 ·exact Ais h hc
theorem Y6 {op:BinOp} {a b:Sv} {x y:Operand} (h:Qc P op t x y hp a b=some (c,v,hp')) (hc:c):
  hp'=hp∧(do eqGuard op t x y (a.val γ) (b.val γ);binOp op t (a.val γ) (b.val γ):Sem Value).run P w=.ok (v.val γ) w:=by
 unfold Qc at h
 split at h
 ·rename_i k a k' b
  have hg:∀op,(eqGuard op t x y (.int k a) (.int k' b)).run P w=.ok () w:=fun op=>by cases op<;>rfl
  split at h
  ·obtain⟨z,h1,rfl,rfl⟩:=Qu h
   exact⟨rfl,Dz (hg _) (Y1 (left:=true) h1 hc)⟩
  ·obtain⟨z,h1,rfl,rfl⟩:=Qu h
   exact⟨rfl,Dz (hg _) (Y1 (left:=false) h1 hc)⟩
  ·split at h
   ·rename_i hk
    subst hk
    obtain⟨z,h1,rfl,rfl⟩:=Qu h
    exact⟨rfl,Dz (hg _) (Aii h1 hc)⟩
   ·cases h
 ·split at h
  ·exact Y5 (neg:=false) h hc
  ·exact Y5 (neg:=true) h hc
  ·split at h
   ·rename_i s u _
    obtain⟨rfl,rfl,rfl⟩:=Dw h
    refine⟨rfl,Dz rfl ?_⟩
    have h1:¬(((s.size+u.size:Nat):Int) > IntKind.i64.max):=by
     have:IntKind.i64.max=9223372036854775807:=rfl
     omega
    show (Op.stringOp .add s u).run P w=_
    simp only[Op.stringOp,h1,if_false]
    rfl
   ·cases h
  ·cases h
theorem Y7 {op:UnOp} {a:Sv} (h:unS op hp a=some (c,v,hp')) (hc:c):hp'=hp∧(Op.unary op (a.val γ)).run P w=.ok (v.val γ) w:=by
 unfold unS at h
 split at h
 ·split at h
  ·obtain⟨rfl,rfl,rfl⟩:=Dw h
   exact⟨rfl,rfl⟩
  ·cases h
 ·split at h
  ·obtain⟨rfl,rfl,rfl⟩:=Dw h
   rename_i n _
   refine⟨rfl,?_⟩
   show (Op.intArith .sub .i64 0 n).run P w=_
   simp only[Op.intArith,Int.zero_sub,G8 hc]
   rfl
  ·cases h
 ·cases h
end
end
section
section
variable {P:Program} {w0 w:World} {ow:Nat→Prop} {γ:List Nm} {hp hp':List Res} {c:Prop} {v:Sv} {t:TypeId}
theorem Y8 (w0:World) (A:Option Addr) (n:Nat):(rd8 w0 A n).length=n:=by simp [rd8]
theorem Kk (hS:Sat w0 ow γ hp w) {k:Nat} {e:TypeId} {ct:Cont} (hr:hp[k]?=some (.own e ct)):∃A m,nmS γ k=.slice A ct.len m∧ct.len≤m∧m≤maxLen∧RdV w w.heap.size A (ct.vals γ)∧∀a,A=some a→(Res.own e ct).has γ k a.block:=by
 obtain⟨A,m,h1,h2,h3,h4,h5⟩:=(hS.own hr).2.rd
 rw[Cont.len_vals] at h1 h2
 exact⟨A,m,h1,h2,h3,h4,fun a ha=>(h5 a ha).2.2.2⟩
theorem Y9 (hS:Sat w0 ow γ hp w) {k:Nat} {e:TypeId} {ct:Cont} (hr:hp[k]?=some (.str e ct)):∃A m,nmS γ k=.slice A ct.len m∧ct.len≤m∧m≤maxLen∧RdV w w.heap.size A (ct.vals γ):=by
 obtain⟨A,m,h1,h2,h3,h4⟩:=(hS.holds k _ hr).2.rd
 rw[Cont.len_vals] at h1 h2
 exact⟨A,m,h1,h2,h3,h4⟩
theorem Ait {t e:TypeId} {g:Nat} {C:Array Value} (n c:Nat) (ht:P.underlying t=some (.slice e)) (he:P.underlying e=some (.int .u8)) (hg:Blk w g e C):
  ∃w',(convert t t (.slice (some ⟨g,0,none⟩) n c)).run P w=.ok (.slice (some ⟨g,0,none⟩) n c) w'∧Keeps (·=g) w w'∧w'.heap[g]?=some (.cells C e (C.size,C.size+1)):=by
 have hg0:w.heap[g]?=some (.cells C e (0,0)):=hg
 have hsh:w.shape? g=some (e,C.size):=by unfold World.shape?;rw[hg0]
 refine⟨w.freeze ⟨g,C.size,none⟩ 1,by simp [convert,run_underlying ht,run_underlying he,markStringish,hsh],?_,?_⟩
 ·unfold World.freeze
  rw[if_neg (by decide)]
  refine⟨rfl,rfl,rfl,by simp,fun k _ hn=>?_⟩
  simp only[Array.getElem?_modify]
  rw[if_neg (fun h=>hn h.symm)]
 ·unfold World.freeze
  rw[if_neg (by decide)]
  simp [Array.getElem?_modify,hg0]
theorem Aiu {src dst:TypeId} {a:Sv} (h:src≠dst):Lv P src dst hp a=none:=by
 unfold Lv
 split
 ·rw[if_neg h]
 ·rfl
theorem Aiv {src dst:TypeId} {a:Sv} (hS:Sat w0 ow γ hp w) (h:Lv P src dst hp a=some (some (c,v,hp'))) (hc:c):
  ∃γ' w',Sat w0 ow γ' hp' w'∧γ'=γ∧(convert src dst (a.val γ)).run P w=.ok (v.val γ') w':=by
 unfold Lv at h
 split at h
 ·rename_i k off len cap
  split at h
  ·rename_i hsd
   subst hsd
   split at h
   ·rename_i e e' ct hu hr
    split at h
    ·rename_i he
     split at h
     ·rename_i hq
      obtain⟨rfl,rfl,rfl⟩:=hq
      simp only[Option.some.injEq,Prod.mk.injEq] at h
      obtain⟨rfl,rfl,rfl⟩:=h
      obtain⟨h1,h2⟩:=hS.blk hr
      obtain⟨w',hrun,hk,hh⟩:=Ait cap cap hu he h2
      refine⟨γ,w',hS.update hr rfl hk ⟨h1,_,hh⟩ (.inl rfl),rfl,hrun⟩
     ·cases h
    ·cases h
   ·cases h
  ·cases h
 ·cases h
theorem Za {src dst:TypeId} {a:Sv} (hS:Sat w0 ow γ hp w) (h:Qd P w0 ow src dst hp a=some (c,v,hp')) (hc:c):hp'=hp∧(convert src dst (a.val γ)).run P w=.ok (v.val γ) w:=by
 unfold Qd at h
 split at h
 ·rename_i k n
  split at h
  ·rename_i ds d hs hd
   obtain⟨z,h1,rfl,rfl⟩:=Qu h
   refine⟨rfl,?_⟩
   unfold convert
   rw[Sem.run_bind,run_underlying hs,Result.andThen_ok,Sem.run_bind,run_underlying hd,Result.andThen_ok]
   exact Aip h1 hc
  ·cases h
 ·rename_i s
  split at h
  ·rename_i ds hs hd
   obtain⟨rfl,rfl,rfl⟩:=Dw h
   refine⟨rfl,?_⟩
   unfold convert
   rw[Sem.run_bind,run_underlying hs,Result.andThen_ok,Sem.run_bind,run_underlying hd,Result.andThen_ok]
   cases ds<;>rfl
  ·cases h
 ·rename_i A n m
  split at h
  ·rename_i e hs hd
   split at h
   ·rename_i he
    obtain⟨rfl,rfl,rfl⟩:=Dw h
    refine⟨rfl,?_⟩
    have:=Ya (P:=P) (rd8 w0 A n) m src e hs he (hS.rdv hc) dst hd
    rw[Y8] at this
    exact this
   ·cases h
  ·cases h
 ·rename_i k
  split at h
  ·rename_i e _ l hs hd hr
   split at h
   ·rename_i he
    obtain⟨rfl,rfl,rfl⟩:=Dw h
    refine⟨rfl,?_⟩
    obtain⟨A,m,h1,_,_,h4,_⟩:=Kk hS hr
    show (convert src dst (nmS γ k)).run P w=_
    rw[h1]
    exact Ya (P:=P) l m src e hs he h4 dst hd
   ·cases h
  ·cases h
 ·cases h
theorem Zb {a:Sv} (h:Qm P t hp a=some (c,v,hp')) (hc:c):hp'=hp∧(Instr.makeInterface t (a.val γ)).run P w=.ok (v.val γ) w:=by
 unfold Qm at h
 split at h
 ·split at h
  ·cases h
  ·rename_i d hu hn
   obtain⟨rfl,rfl,rfl⟩:=Dw h
   refine⟨rfl,?_⟩
   unfold Instr.makeInterface
   rw[Sem.run_bind,run_underlying hn,Result.andThen_ok]
   cases d<;>first|rfl|exact absurd rfl (hu _)
  ·cases h
 ·cases h
theorem Qv (A:Option Addr) (j:Nat) (h:A.isSome=true):∃a,A=some a∧Af A j=some (a.add j):=by
 cases A with
 |none=>cases h
 |some a=>exact⟨a,rfl,rfl⟩
theorem Kl {k:IntKind} {n:Int}:(asIntOf (.int k n)).run P w=.ok (k,n) w:=rfl
theorem Un {e:TypeId} {A:Option Addr} {a:Addr} {len cap:Nat} {k:IntKind} {i:Int} (hu:P.underlying t=some (.slice e)) (hs:sz P e=1) (hA:A=some a) (h0:0≤i) (h1:i < (len:Int)):
  (Instr.indexAt t (.slice A len cap) (.int k i)).run P w=.ok (.pointer (some (a.add i.toNat))) w:=by
 subst hA
 unfold Instr.indexAt
 simp [Sem.run_bind,Kl,run_underlying hu,Dg hs (by omega),h0,h1]
theorem Qw {e:TypeId} {A:Option Addr} {a:Addr} {len cap:Nat} {k:IntKind} {i:Int} (hu:P.underlying t=some (.slice e)) (hs:sz P e≠0) (hA:A=some a) (h0:0≤i) (h1:i < (len:Int)):
  (Instr.indexAt t (.slice A len cap) (.int k i)).run P w=.ok (.pointer (some (a.add (i.toNat*sz P e)))) w:=by
 subst hA
 unfold Instr.indexAt
 simp [Sem.run_bind,Kl,run_underlying hu,Dg (P:=P) (t:=e) rfl hs,h0,h1]
theorem Aiw {e:TypeId} {n:Nat} {a:Addr} {k:IntKind} {i:Int} (hu:P.underlying t=some (.array n e)) (hs:sz P e=1) (h0:0≤i) (h1:i < (n:Int)):
  (Instr.indexAt t (.pointer (some a)) (.int k i)).run P w=.ok (.pointer (some (a.add i.toNat))) w:=by
 unfold Instr.indexAt
 simp [Sem.run_bind,Kl,run_underlying hu,Instr.sureAddr,Dg hs (by omega),h0,h1]
theorem Zc (hS:Sat w0 ow γ hp w) {k:Nat} {e:TypeId} {ct:Cont} (hr:hp[k]?=some (.own e ct)) (hl:0 < ct.len):∃g cap,nmS γ k=.slice (some ⟨g,0,none⟩) ct.len cap:=by
 obtain⟨g,cap,h⟩:=(hS.own hr).2.shape (by rw[Cont.len_vals];exact hl)
 rw[Cont.len_vals] at h
 exact⟨g,cap,h⟩
theorem Zd {e:TypeId} {n:Nat} {a:Addr} {k:IntKind} {i:Int} (hu:P.underlying t=some (.array n e)) (hs:sz P e≠0) (h0:0≤i) (h1:i < (n:Int)):
  (Instr.indexAt t (.pointer (some a)) (.int k i)).run P w=.ok (.pointer (some (a.add (i.toNat*sz P e)))) w:=by
 unfold Instr.indexAt
 simp [Sem.run_bind,Kl,run_underlying hu,Instr.sureAddr,Dg (P:=P) (t:=e) rfl hs,h0,h1]
theorem Ze {a b:Sv} (hS:Sat w0 ow γ hp w) (h:P7 P t hp a b=some (c,v,hp')) (hc:c):hp'=hp∧(Instr.indexAt t (a.val γ) (b.val γ)).run P w=.ok (v.val γ) w:=by
 unfold P7 at h
 split at h
 ·rename_i b k i
  split at h
  ·rename_i e hu
   split at h
   ·split at h
    ·simp only[Option.some.injEq,Prod.mk.injEq] at h
     obtain⟨rfl,rfl,rfl⟩:=h
     refine⟨rfl,(Un hu hc.2.2 rfl hc.1 hc.2.1).trans ?_⟩
     rw[Bu]
     rfl
    ·simp only[Option.some.injEq,Prod.mk.injEq] at h
     obtain⟨rfl,rfl,rfl⟩:=h
     refine⟨rfl,(Qw hu hc.2.2 rfl hc.1 hc.2.1).trans ?_⟩
     rw[Bu]
     rfl
   ·rename_i kk
    split at h
    ·rename_i hr
     simp only[Option.some.injEq,Prod.mk.injEq] at h
     obtain⟨rfl,rfl,rfl⟩:=h
     obtain⟨g,cap,hg⟩:=Zc hS hr (by have:=hc.1;have:=hc.2.1;omega)
     refine⟨rfl,?_⟩
     show (Instr.indexAt t (nmS γ kk) (.int k i)).run P w=_
     rw[hg]
     refine (Un hu hc.2.2 rfl hc.1 hc.2.1).trans ?_
     rw[Bu]
     simp [Sv.val,Sc.val,At.val,hg]
    ·rename_i e' m ct hr
     simp only[Option.some.injEq,Prod.mk.injEq] at h
     obtain⟨rfl,rfl,rfl⟩:=h
     obtain⟨h1,h2,h3⟩:=hc
     obtain⟨hm,hrest⟩:=(hS.holds _ _ hr).2
     obtain⟨A,n,cp,hv,hlen,_,_,_,_,hg⟩:=OwnN.rd ⟨hm,hrest⟩
     rw[Cont.len_vals] at hlen
     have hn:ct.len / m=n:=by rw[hlen,Nat.mul_div_cancel _ hm]
     rw[hn] at h2
     obtain⟨g,rfl⟩:=hg (by omega)
     refine⟨rfl,?_⟩
     show (Instr.indexAt t (nmS γ kk) (.int k i)).run P w=_
     rw[hv]
     refine (Qw hu (by omega) rfl h1 h2).trans ?_
     rw[Bu,h3]
     simp [Sv.val,Sc.val,At.val,hv]
    ·cases h
   ·rename_i kk ll mm
    split at h
    ·rename_i hr
     simp only[Option.some.injEq,Prod.mk.injEq] at h
     obtain⟨rfl,rfl,rfl⟩:=h
     obtain⟨h1,h2,h3,h4⟩:=hc
     obtain⟨g,cap,hg⟩:=Zc hS hr (by omega)
     obtain⟨A,m,e1,e2,_⟩:=Kk hS hr
     rw[hg] at e1
     cases e1
     refine⟨rfl,?_⟩
     have hne:¬cap=ll:=by omega
     have e3:(Sv.x (.a (.z kk ll mm))).val γ=.slice (some ⟨g,ll,none⟩) mm (cap - ll):=by simp [Sv.val,Sc.val,At.val,hg,Lo,hne,Af,Bu]
     rw[e3]
     show (Instr.indexAt t _ (.int k i)).run P w=_
     refine (Un hu h4 rfl h1 h2).trans ?_
     rw[Bu]
     simp [Sv.val,Sc.val,At.val,hg]
    ·cases h
   ·rename_i kk mm ll nn
    split at h
    ·rename_i e' m' ct hr
     simp only[Option.some.injEq,Prod.mk.injEq] at h
     obtain⟨rfl,rfl,rfl⟩:=h
     obtain⟨h1,h2,h3,rfl,h5⟩:=hc
     obtain⟨hm,hrest⟩:=(hS.holds _ _ hr).2
     obtain⟨A,n,cp,hv,hlen,hncp,_,_,_,hg⟩:=OwnN.rd ⟨hm,hrest⟩
     rw[Cont.len_vals] at hlen
     have hln:ll+nn≤n:=by
      rw[hlen] at h3
      exact Nat.le_of_mul_le_mul_right h3 hm
     obtain⟨g,rfl⟩:=hg (by omega)
     refine⟨rfl,?_⟩
     have hne:¬cp=ll:=by omega
     have e3:(Sv.x (.a (.y kk m' ll nn))).val γ=.slice (some ⟨g,ll*m',none⟩) nn (cp - ll):=by simp [Sv.val,Sc.val,At.val,hv,hne,Af,Bu]
     rw[e3]
     show (Instr.indexAt t _ (.int k i)).run P w=_
     refine (Qw hu (by omega) rfl h1 h2).trans ?_
     rw[Bu,h5]
     simp [Sv.val,Sc.val,At.val,hv,Nat.add_mul]
    ·cases h
   ·simp only[Option.some.injEq,Prod.mk.injEq] at h
    obtain⟨rfl,rfl,rfl⟩:=h
    obtain⟨h1,h2,h3,h4⟩:=hc
    obtain⟨a,ha,hp2⟩:=Qv _ (i.toNat*sz P e) h4
    refine⟨rfl,(Qw hu h3 ha h1 h2).trans ?_⟩
    simp only[Sv.val,Sc.val,At.val]
    rw[hp2]
   ·cases h
  ·rename_i n e hu
   split at h
   ·split at h
    ·simp only[Option.some.injEq,Prod.mk.injEq] at h
     obtain⟨rfl,rfl,rfl⟩:=h
     refine⟨rfl,(Zd hu hc.2.2 hc.1 hc.2.1).trans ?_⟩
     rw[Bu]
     rfl
    ·simp only[Option.some.injEq,Prod.mk.injEq] at h
     obtain⟨rfl,rfl,rfl⟩:=h
     refine⟨rfl,(Aiw hu hc.2.2 hc.1 hc.2.1).trans ?_⟩
     rw[Bu]
     rfl
   ·simp only[Option.some.injEq,Prod.mk.injEq] at h
    obtain⟨rfl,rfl,rfl⟩:=h
    obtain⟨h1,h2,h3,h4⟩:=hc
    obtain⟨a,ha,hp2⟩:=Qv _ (i.toNat*sz P e) h4
    rw[ha]
    refine⟨rfl,(Zd (a:=a) hu h3 h1 h2).trans ?_⟩
    simp only[Sv.val,Sc.val,At.val]
    rw[←ha,hp2]
   ·cases h
  ·cases h
 ·cases h
theorem Zf {e:TypeId} {cs:Array Value} {i:Nat} {x:Value} (hf:Dk (P.underlying e)=true) (hx:cs[i]?=some x):(part e cs i).run P w=.ok x w:=by
 simp [part,Sem.run_bind,Yj hf w,hx]
theorem Qx {e:TypeId} {n:Nat} {cs:Array Value} {x:Value} {k:IntKind} {i:Int} (hu:P.underlying t=some (.array n e)) (hs:sz P e=1) (hf:Dk (P.underlying e)=true) (h0:0≤i) (h1:i < (n:Int)) (hx:cs[i.toNat]?=some x):
  (Instr.index t (.agg cs) (.int k i)).run P w=.ok x w:=by
 unfold Instr.index
 simp [Sem.run_bind,Kl,run_underlying hu,Dg hs (by omega),h0,h1,Zf hf hx]
theorem Zg {a b:Sv} (h:P8 P t hp a b=some (c,v,hp')) (hc:c):hp'=hp∧(Instr.index t (a.val γ) (b.val γ)).run P w=.ok (v.val γ) w:=by
 unfold P8 at h
 split at h
 ·rename_i k i
  split at h
  ·rename_i n e hu
   split at h
   ·simp only[Option.some.injEq,Prod.mk.injEq] at h
    obtain⟨rfl,rfl,rfl⟩:=h
    obtain⟨h1,h2,h3,h4,h5⟩:=hc
    exact⟨rfl,Qx hu h4 h5 h1 h2 (Tv _ _ (by omega))⟩
   ·simp only[Option.some.injEq,Prod.mk.injEq] at h
    obtain⟨rfl,rfl,rfl⟩:=h
    obtain⟨h1,h2,h3,h4,h5⟩:=hc
    exact⟨rfl,Qx hu h4 h5 h1 h2 (Af3 _ _ (by omega))⟩
   ·simp only[Option.some.injEq,Prod.mk.injEq] at h
    obtain⟨rfl,rfl,rfl⟩:=h
    obtain⟨h1,h2,h3,h4,h5⟩:=hc
    exact⟨rfl,Qx hu h4 h5 h1 h2 (Af4 _ _ (by omega))⟩
   ·rename_i l
    simp only[Option.some.injEq,Prod.mk.injEq] at h
    obtain⟨rfl,rfl,rfl⟩:=h
    obtain⟨h1,h2,h3,h4,h5⟩:=hc
    refine⟨rfl,Qx hu h4 h5 h1 h2 ?_⟩
    have hlt:i.toNat < l.length:=by omega
    rw[List.getElem?_toArray,List.getElem?_map,List.getElem?_eq_getElem hlt,List.getD_eq_getElem?_getD,List.getElem?_eq_getElem hlt]
    rfl
   ·cases h
  ·rename_i hu
   split at h
   ·rename_i s
    simp only[Option.some.injEq,Prod.mk.injEq] at h
    obtain⟨rfl,rfl,rfl⟩:=h
    refine⟨rfl,?_⟩
    obtain⟨h0,h1⟩:=hc
    have hlt:i.toNat < s.size:=by omega
    have hg:s[i.toNat]?=some (sAt s i.toNat):=by
     have e:s[i.toNat]?=some s[i.toNat]:=by simp [getElem?_pos,hlt]
     rw[e]
     have hl:i.toNat < s.data.toList.length:=by simpa using hlt
     unfold sAt ix
     rw[List.getD_eq_getElem?_getD,List.getElem?_eq_getElem hl]
     rfl
    show (Instr.index t (.string s) (.int k i)).run P w=_
    unfold Instr.index
    simp only[Sem.run_bind,Kl,run_underlying hu,Result.andThen_ok,h0,if_true,hg]
    rfl
   ·cases h
  ·cases h
 ·cases h
theorem Zh {k:IntKind} {i:Int} {y:Nat} {code:BoundsCode} (h0:0≤i) (h1:i≤(y:Int)):(Instr.sliceBound (.int k i) y code).run P w=.ok i.toNat w:=by
 unfold Instr.sliceBound
 simp [Sem.run_bind,Kl,h0,h1]
theorem Ji {s:S} {ρ:Operand→Value} {lo hi:Option Operand} {len cap:Nat} {isS:Bool} {l m:Int} (hev:∀x sv,Fr.ev s.fr x=some sv→ρ x=sv.val γ)
  (h:Hm (Fr.ev s.fr) len lo hi=some (l,m)) (h0:0≤l) (h1:l≤m) (h2:m≤(cap:Int)):(Instr.sliceBounds isS len cap (lo.map ρ) (hi.map ρ) none).run P w=.ok (l.toNat,m.toNat,cap) w:=by
 unfold Hm at h
 split at h
 ·rename_i l' m' hl hm
  simp only[Option.some.injEq,Prod.mk.injEq] at h
  obtain⟨rfl,rfl⟩:=h
  have eh:(hi=none∧m'=len)∨∃o k,hi=some o∧ρ o=.int k m':=by
   cases hi with
   |none=>simp only[Option.some.injEq] at hm;exact .inl ⟨rfl,hm.symm⟩
   |some o=>
    simp only at hm
    split at hm
    ·rename_i he
     simp only[Option.some.injEq] at hm
     subst hm
     exact .inr ⟨o,_,rfl,hev _ _ he⟩
    ·cases hm
  have el:(lo=none∧l'=0)∨∃o k,lo=some o∧ρ o=.int k l':=by
   cases lo with
   |none=>simp only[Option.some.injEq] at hl;exact .inl ⟨rfl,hl.symm⟩
   |some o=>
    simp only at hl
    split at hl
    ·rename_i he
     simp only[Option.some.injEq] at hl
     subst hl
     exact .inr ⟨o,_,rfl,hev _ _ he⟩
    ·cases hl
  have b1:∀k,(Instr.sliceBound (.int k m') cap (if isS=true then .sliceAcap else .sliceAlen)).run P w=.ok m'.toNat w:=fun k=>Zh (by omega) h2
  have b2:∀k,(Instr.sliceBound (.int k l') m'.toNat .sliceB).run P w=.ok l'.toNat w:=fun k=>Zh h0 (by omega)
  clear hl hm hev
  unfold Instr.sliceBounds
  rcases eh with ⟨rfl,rfl⟩|⟨o,k,rfl,e1⟩
  ·rcases el with ⟨rfl,rfl⟩|⟨o2,k2,rfl,e2⟩
   ·rfl
   ·have:=b2 k2
    simp only[Int.toNat_natCast] at this
    simp [e2,this]
  ·rcases el with ⟨rfl,rfl⟩|⟨o2,k2,rfl,e2⟩
   ·simp [e1,b1]
   ·simp [Sem.run_bind,e1,e2,b1,b2]
 ·cases h
end
end
section
section
variable {P:Program} {w0 w:World} {ow:Nat→Prop} {γ:List Nm} {hp hp':List Res} {c:Prop} {v:Sv} {t:TypeId}
theorem Zi {s:S} {ρ:Operand→Value} {lo hi:Option Operand} {a:Sv} (hS:Sat w0 ow γ hp w) (hev:∀x sv,Fr.ev s.fr x=some sv→ρ x=sv.val γ)
  (h:P9 P t (Fr.ev s.fr) hp lo hi a=some (c,v,hp')) (hc:c):hp'=hp∧(Instr.sliceAt t (a.val γ) (lo.map ρ) (hi.map ρ) none).run P w=.ok (v.val γ) w:=by
 unfold P9 at h
 split at h
 ·rename_i b
  split at h
  ·rename_i hu
   split at h
   ·rename_i s'
    split at h
    ·rename_i l m hb
     simp only[Option.some.injEq,Prod.mk.injEq] at h
     obtain⟨rfl,rfl,rfl⟩:=h
     refine⟨rfl,?_⟩
     have hsb:=Ji (P:=P) (w:=w) (isS:=false) hev hb hc.1 hc.2.1 hc.2.2
     show (Instr.sliceAt t (.string s') _ _ _).run P w=_
     unfold Instr.sliceAt Instr.slice
     simp only[Sem.run_bind,run_underlying hu,Result.andThen_ok,Option.isSome_none,Bool.false_eq_true,if_false,hsb]
     rfl
    ·cases h
   ·cases h
  ·rename_i e hu
   split at h
   ·rename_i k off len cap
    split at h
    ·rename_i l m hb
     simp only[Option.some.injEq,Prod.mk.injEq] at h
     obtain⟨rfl,rfl,rfl⟩:=h
     obtain⟨h1,h2,h3,h4,h5⟩:=hc
     refine⟨rfl,?_⟩
     have hsb:=Ji (P:=P) (w:=w) (isS:=true) hev hb h1 h2 h3
     show (Instr.sliceAt t (.slice (some ⟨nmB γ k,off,none⟩) len cap) _ _ _).run P w=_
     unfold Instr.sliceAt Instr.slice
     have hne:¬cap=l.toNat:=by omega
     simp only[Sem.run_bind,run_underlying hu,Result.andThen_ok,hsb,Dg h5 (by omega),hne,if_false,Nat.mul_one,Option.map_some,Bu]
     rfl
    ·cases h
   ·rename_i k
    split at h
    ·rename_i e' ct hr
     split at h
     ·rename_i l m hb
      simp only[Option.some.injEq,Prod.mk.injEq] at h
      obtain⟨rfl,rfl,rfl⟩:=h
      obtain⟨h1,h2,h3,h5⟩:=hc
      refine⟨rfl,?_⟩
      obtain⟨A,cap,e1,e2,_⟩:=Kk hS hr
      have hsb:=Ji (P:=P) (w:=w) (cap:=cap) (isS:=true) hev hb h1 h2 (by omega)
      show (Instr.sliceAt t (nmS γ k) _ _ _).run P w=_
      rw[e1]
      unfold Instr.sliceAt Instr.slice
      simp only[Sem.run_bind,run_underlying hu,Result.andThen_ok,hsb,Dg h5 (by omega),Nat.mul_one]
      simp only[Sv.val,Sc.val,At.val,e1]
      rfl
     ·cases h
    ·rename_i e' m ct hr
     split at h
     ·rename_i l h' hb
      simp only[Option.some.injEq,Prod.mk.injEq] at h
      obtain⟨rfl,rfl,rfl⟩:=h
      obtain⟨h1,h2,h3,h5⟩:=hc
      refine⟨rfl,?_⟩
      obtain⟨hm,hrest⟩:=(hS.holds _ _ hr).2
      obtain⟨A,n,cp,hv,hlen,hncp,_,_,_,hg⟩:=OwnN.rd ⟨hm,hrest⟩
      rw[Cont.len_vals] at hlen
      have hn:ct.len / m=n:=by rw[hlen,Nat.mul_div_cancel _ hm]
      rw[hn] at hb h3
      have hsb:=Ji (P:=P) (w:=w) (cap:=cp) (isS:=true) hev hb h1 h2 (by omega)
      show (Instr.sliceAt t (nmS γ k) _ _ _).run P w=_
      rw[hv]
      unfold Instr.sliceAt Instr.slice
      simp only[Sem.run_bind,run_underlying hu,Result.andThen_ok,hsb,Dg (P:=P) (t:=e) rfl (by omega:sz P e≠0),h5]
      simp only[Sv.val,Sc.val,At.val,hv]
      rfl
     ·cases h
    ·cases h
   ·rename_i A len cap
    split at h
    ·rename_i l m hb
     split at h
     ·simp only[Option.some.injEq,Prod.mk.injEq] at h
      obtain⟨rfl,rfl,rfl⟩:=h
      obtain⟨h1,h2,h3,h5⟩:=hc
      refine⟨rfl,?_⟩
      have hsb:=Ji (P:=P) (w:=w) (isS:=true) hev hb h1 h2 h3
      show (Instr.sliceAt t (.slice A len cap) _ _ _).run P w=_
      unfold Instr.sliceAt Instr.slice
      simp only[Sem.run_bind,run_underlying hu,Result.andThen_ok,hsb,Dg h5 (by omega),Nat.mul_one]
      rfl
     ·simp only[Option.some.injEq,Prod.mk.injEq] at h
      obtain⟨rfl,rfl,rfl⟩:=h
      obtain⟨h1,h2,h3,h5⟩:=hc
      refine⟨rfl,?_⟩
      have hsb:=Ji (P:=P) (w:=w) (isS:=true) hev hb h1 h2 h3
      show (Instr.sliceAt t (.slice A len cap) _ _ _).run P w=_
      unfold Instr.sliceAt Instr.slice
      simp only[Sem.run_bind,run_underlying hu,Result.andThen_ok,hsb,Dg (P:=P) (t:=e) rfl (by omega:sz P e≠0)]
      rfl
    ·cases h
   ·cases h
  ·rename_i n e hu
   split at h
   ·rename_i k off
    split at h
    ·rename_i l m hb
     simp only[Option.some.injEq,Prod.mk.injEq] at h
     obtain⟨rfl,rfl,rfl⟩:=h
     obtain⟨h1,h2,h3,h4,h5⟩:=hc
     refine⟨rfl,?_⟩
     have hsb:=Ji (P:=P) (w:=w) (isS:=false) hev hb h1 h2 h3
     show (Instr.sliceAt t (.pointer (some ⟨nmB γ k,off,none⟩)) _ _ _).run P w=_
     unfold Instr.sliceAt
     have hne:¬n=l.toNat:=by omega
     simp only[Sem.run_bind,run_underlying hu,Instr.sureAddr,Sem.run_pure,Result.andThen_ok,hsb,Dg h5 (by omega),hne,if_false,Nat.mul_one,Bu]
     rfl
    ·cases h
   ·rename_i A
    split at h
    ·rename_i l m hb
     simp only[Option.some.injEq,Prod.mk.injEq] at h
     obtain⟨rfl,rfl,rfl⟩:=h
     obtain⟨h1,h2,h3,h4,h5,h6⟩:=hc
     refine⟨rfl,?_⟩
     have hsb:=Ji (P:=P) (w:=w) (isS:=false) hev hb h1 h2 h3
     obtain⟨a,rfl,ha⟩:=Qv A l.toNat h6
     show (Instr.sliceAt t (.pointer (some a)) _ _ _).run P w=_
     unfold Instr.sliceAt
     have hne:¬n=l.toNat:=by omega
     simp only[Sem.run_bind,run_underlying hu,Instr.sureAddr,Sem.run_pure,Result.andThen_ok,hsb,Dg h5 (by omega),hne,if_false,Nat.mul_one]
     simp only[Sv.val,Sc.val,At.val,ha]
    ·cases h
   ·cases h
  ·cases h
 ·cases h
theorem Jj {f o:Nat} {ft:TypeId} (h:Av P t f=some (o,ft)):∃fs fd,P.underlying t=some (.struct fs)∧fs[f]?=some fd∧fd.offset=o∧fd.type=ft:=by
 unfold Av at h
 split at h
 ·rename_i fs hu
  split at h
  ·rename_i fd hf
   simp only[Option.some.injEq,Prod.mk.injEq] at h
   exact⟨fs,fd,hu,hf,h.1,h.2⟩
  ·cases h
 ·cases h
theorem Aix {t:TypeId} (h:Gg (P.underlying t)=true):(isAgg t).run P w=.ok true w:=by
 cases hu:P.underlying t with
 |none=>rw[hu] at h;simp [Gg] at h
 |some d=>
  unfold isAgg
  rw[Sem.run_bind,run_underlying hu w]
  rw[hu] at h
  cases d<;>simp_all [Gg]
theorem Zj {f:Nat} {a:Sv} (h:Qi P t f hp a=some (c,v,hp')) (hc:c):hp'=hp∧(Instr.field t (a.val γ) f).run P w=.ok (v.val γ) w:=by
 unfold Qi at h
 split at h
 ·rename_i l
  split at h
  ·rename_i o ft hf
   split at h
   ·rename_i hfl
    simp only[Option.some.injEq,Prod.mk.injEq] at h
    obtain⟨rfl,rfl,rfl⟩:=h
    obtain⟨fs,fd,hu,h1,rfl,rfl⟩:=Jj hf
    refine⟨rfl,?_⟩
    unfold Instr.field
    have hx:(l.map (At.val γ)).toArray[fd.offset]?=some ((l.getD fd.offset (.v undef)).val γ):=by
     rw[List.getElem?_toArray,List.getElem?_map,List.getElem?_eq_getElem hc,List.getD_eq_getElem?_getD,List.getElem?_eq_getElem hc];rfl
    simp only[Sem.run_bind,run_underlying hu,Result.andThen_ok,h1,Sv.val,Sc.val,asAgg,Sem.run_pure]
    exact Zf hfl hx
   ·split at h
    ·rename_i hag
     split at h
     ·rename_i q s hw
      simp only[Option.some.injEq,Prod.mk.injEq] at h
      obtain⟨rfl,rfl,rfl⟩:=h
      obtain⟨hq,h0,hle⟩:=hc
      obtain⟨fs,fd,hu,h1,rfl,rfl⟩:=Jj hf
      refine⟨rfl,?_⟩
      unfold Instr.field
      have hv:=Cont.whole_val (γ:=γ) hw hq
      show _=Result.ok (s.val γ) w
      rw[hv]
      simp only[Sem.run_bind,run_underlying hu,Result.andThen_ok,h1,Sv.val,Sc.val,asAgg,Sem.run_pure]
      unfold part
      rw[Sem.run_bind,Aix hag,Result.andThen_ok,if_pos rfl,Sem.run_bind,Dg (P:=P) (t:=fd.type) rfl (by omega),Result.andThen_ok]
      have e:((List.map (At.val γ) l).toArray.extract fd.offset (fd.offset+sz P fd.type))=((Cont.c ((l.drop fd.offset).take (sz P fd.type))).vals γ).toArray:=by
       apply Array.ext'
       simp only[Cont.vals,List.extract_toArray,List.extract_eq_take_drop,List.map_take,List.map_drop,Nat.add_sub_cancel_left]
      rw[e]
      rfl
     ·cases h
    ·cases h
  ·cases h
 ·cases h
theorem Uo {fs:Array Field} {fd:Field} {f:Nat} {a:Addr} (hu:P.underlying t=some (.struct fs)) (hf:fs[f]?=some fd) (hs:sz P fd.type≠0):(Instr.fieldAt t (.pointer (some a)) f).run P w=.ok (.pointer (some (a.add fd.offset))) w:=by
 unfold Instr.fieldAt
 have:=Dg (P:=P) (t:=fd.type) rfl hs w
 simp [Sem.run_bind,run_underlying hu,hf,Instr.sureAddr,fieldPlace,this,hs]
theorem Zk {f:Nat} {a:Sv} (hS:Sat w0 ow γ hp w) (h:Qj P t f hp a=some (c,v,hp')) (hc:c):hp'=hp∧(Instr.fieldAt t (a.val γ) f).run P w=.ok (v.val γ) w:=by
 unfold Qj at h
 split at h
 ·split at h
  ·rename_i o ft hf
   simp only[Option.some.injEq,Prod.mk.injEq] at h
   obtain⟨rfl,rfl,rfl⟩:=h
   obtain⟨fs,fd,hu,h1,rfl,rfl⟩:=Jj hf
   refine⟨rfl,(Uo hu h1 hc).trans ?_⟩
   rw[Bu]
   rfl
  ·cases h
 ·rename_i k i
  split at h
  ·rename_i e m ct o ft hr hf
   simp only[Option.some.injEq,Prod.mk.injEq] at h
   obtain⟨rfl,rfl,rfl⟩:=h
   obtain⟨fs,fd,hu,h1,rfl,rfl⟩:=Jj hf
   obtain⟨hm,hrest⟩:=(hS.holds _ _ hr).2
   obtain⟨A,n,cp,hv,hlen,_,_,_,_,hg⟩:=OwnN.rd ⟨hm,hrest⟩
   rw[Cont.len_vals] at hlen
   have hn:0 < n:=by
    rcases Nat.eq_zero_or_pos n with h0|h0
    ·rw[h0,Nat.zero_mul] at hlen;omega
    ·exact h0
   obtain⟨g,rfl⟩:=hg hn
   have e1:∀j,(Sv.x (.a (.q k j))).val γ=.pointer (some ⟨g,j,none⟩):=fun j=>by simp [Sv.val,Sc.val,At.val,hv]
   refine⟨rfl,?_⟩
   rw[e1,e1,Uo hu h1 hc.1,Bu]
  ·cases h
 ·rename_i A
  split at h
  ·rename_i o ft hf
   simp only[Option.some.injEq,Prod.mk.injEq] at h
   obtain⟨rfl,rfl,rfl⟩:=h
   obtain⟨fs,fd,hu,h1,rfl,rfl⟩:=Jj hf
   obtain⟨b,hb,hp2⟩:=Qv _ fd.offset hc.2
   subst hb
   refine⟨rfl,(Uo hu h1 hc.1).trans ?_⟩
   rfl
  ·cases h
 ·cases h
theorem Zl {i:Nat} {a:Sv} (h:Qk i hp a=some (c,v,hp')):hp'=hp∧(Instr.extract (a.val γ) i).run P w=.ok (v.val γ) w:=by
 unfold Qk at h
 split at h
 ·rename_i l
  split at h
  ·rename_i s hs
   simp only[Option.some.injEq,Prod.mk.injEq] at h
   obtain⟨rfl,rfl,rfl⟩:=h
   refine⟨rfl,?_⟩
   have hx:(l.map (Sc.val γ)).toArray[i]?=some (s.val γ):=by rw[List.getElem?_toArray,List.getElem?_map,hs];rfl
   simp only[Sv.val,Instr.extract,hx]
   rfl
  ·cases h
 ·cases h
theorem Zm {o:Oper} {x:Operand} {ρ:Operand→Value} (ho:o.op=.nilCheck x) (a:Addr) (h:ρ x=.pointer (some a)):(execOp ρ o).run P w=.ok (.value (.pointer (some a))) w:=by
 unfold execOp
 simp only[ho,h]
 rfl
theorem Zn {a:Sv} {o:Oper} {x:Operand} {ρ:Operand→Value} (ho:o.op=.nilCheck x) (hx:ρ x=a.val γ) (h:Ql hp a=some (c,v,hp')) (hc:c):hp'=hp∧(execOp ρ o).run P w=.ok (.value (v.val γ)) w:=by
 unfold Ql at h
 split at h
 ·simp only[Option.some.injEq,Prod.mk.injEq] at h
  obtain⟨rfl,rfl,rfl⟩:=h
  exact⟨rfl,Zm ho _ hx⟩
 ·rename_i A
  simp only[Option.some.injEq,Prod.mk.injEq] at h
  obtain⟨rfl,rfl,rfl⟩:=h
  cases A with
  |none=>cases hc
  |some a=>exact⟨rfl,Zm ho _ hx⟩
 ·cases h
theorem Qy {r:Nat} {es:Array MapEntry} {clock:Nat} (hb:w.heap[r]?=some (.map es clock)):(getObj r).run P w=.ok (.map es clock) w:=by
 simp [getObj,Sem.run,hb]
def Km (w:World) (r:Nat) (o:Obj):World:={w with heap:=w.heap.setIfInBounds r o}
theorem Zo {r:Nat} {es:Array MapEntry} {clock:Nat} (o:Obj) (hb:w.heap[r]?=some (.map es clock)):(setObj r o).run P w=.ok () (Km w r o):=by
 simp [setObj,Sem.run,hb,Km]
theorem Aiy (w:World) (r:Nat) (o:Obj):Keeps (·=r) w (Km w r o):=
 ⟨rfl,rfl,rfl,by simp [Km],fun i _ hn=>by unfold Km;exact Array.getElem?_setIfInBounds_ne fun e=>hn e.symm⟩
theorem Zp {a:Sv} {ty:TypeId} (hS:Sat w0 ow γ hp w) (h:Qe P t hp a=some (c,v,hp')) (hc:c):hp'=hp∧(Builtin.len_ #[t] ty #[a.val γ]).run P w=.ok (v.val γ) w:=by
 unfold Qe at h
 split at h
 ·split at h
  ·rename_i hu
   obtain⟨rfl,rfl,rfl⟩:=Dw h
   refine⟨rfl,?_⟩
   unfold Builtin.len_
   simp [Sem.run_bind,run_underlying hu,Sv.val,Sc.val,At.val,goInt]
  ·cases h
 ·split at h
  ·rename_i hu
   obtain⟨rfl,rfl,rfl⟩:=Dw h
   refine⟨rfl,?_⟩
   unfold Builtin.len_
   simp [Sem.run_bind,run_underlying hu,Sv.val,Sc.val,At.val,goInt]
  ·cases h
 ·split at h
  ·rename_i hu
   obtain⟨rfl,rfl,rfl⟩:=Dw h
   refine⟨rfl,?_⟩
   unfold Builtin.len_
   simp [Sem.run_bind,run_underlying hu,Sv.val,Sc.val,At.val,goInt]
  ·cases h
 ·rename_i k
  split at h
  ·rename_i q l hu hr
   obtain⟨rfl,rfl,rfl⟩:=Dw h
   refine⟨rfl,?_⟩
   obtain⟨_,g,es,h1,h2,_,h3⟩:=hS.holds _ _ hr
   have h4:es.size=l.length:=by
    have:=congrArg List.length h3
    simpa [mpE] using this
   unfold Builtin.len_
   simp [Sem.run_bind,run_underlying hu,Sv.val,Sc.val,At.val,goInt,h1,Qy h2,h4]
  ·rename_i ct hu hr
   obtain⟨rfl,rfl,rfl⟩:=Dw h
   refine⟨rfl,?_⟩
   obtain⟨A,m,h1,_⟩:=Kk hS hr
   unfold Builtin.len_
   simp [Sem.run_bind,run_underlying hu,Sv.val,Sc.val,At.val,goInt,h1]
  ·rename_i ct hu hr
   obtain⟨rfl,rfl,rfl⟩:=Dw h
   refine⟨rfl,?_⟩
   obtain⟨A,m,h1,_⟩:=Y9 hS hr
   unfold Builtin.len_
   simp [Sem.run_bind,run_underlying hu,Sv.val,Sc.val,At.val,goInt,h1]
  ·rename_i e m ct hu hr
   obtain⟨rfl,rfl,rfl⟩:=Dw h
   refine⟨rfl,?_⟩
   obtain⟨hm,hrest⟩:=(hS.holds _ _ hr).2
   obtain⟨A,n,cp,h1,hlen,_⟩:=OwnN.rd ⟨hm,hrest⟩
   rw[Cont.len_vals] at hlen
   have hn:ct.len / m=n:=by rw[hlen,Nat.mul_div_cancel _ hm]
   unfold Builtin.len_
   simp [Sem.run_bind,run_underlying hu,Sv.val,Sc.val,At.val,goInt,h1,hn]
  ·cases h
 ·rename_i k l m
  split at h
  ·rename_i hu
   obtain⟨rfl,rfl,rfl⟩:=Dw h
   refine⟨rfl,?_⟩
   obtain⟨A,n,m',e⟩:=Jh hS hc
   unfold Builtin.len_
   simp [Sem.run_bind,run_underlying hu,Sv.val,Sc.val,At.val,goInt,e]
  ·cases h
 ·rename_i k m' l m
  split at h
  ·rename_i hu
   obtain⟨rfl,rfl,rfl⟩:=Dw h
   refine⟨rfl,?_⟩
   obtain⟨A,n,m',e⟩:=Jh hS hc
   unfold Builtin.len_
   simp [Sem.run_bind,run_underlying hu,Sv.val,Sc.val,At.val,goInt,e]
  ·cases h
 ·split at h
  ·rename_i hu
   obtain⟨rfl,rfl,rfl⟩:=Dw h
   refine⟨rfl,?_⟩
   unfold Builtin.len_
   simp [Sem.run_bind,run_underlying hu,Sv.val,Sc.val,At.val,goInt]
  ·cases h
theorem Zq {a x y:Sv} (h:Qh hp a x y=some (c,v,hp')):hp'=hp∧∃b,a.val γ=.bool b∧(if b=true then x.val γ else y.val γ)=v.val γ:=by
 unfold Qh at h
 split at h
 ·rename_i b p q
  simp only[Option.some.injEq,Prod.mk.injEq] at h
  obtain⟨rfl,rfl,rfl⟩:=h
  exact⟨rfl,b,rfl,by cases b<;>rfl⟩
 ·rename_i p q b _
  simp only[Option.some.injEq,Prod.mk.injEq] at h
  obtain⟨rfl,rfl,rfl⟩:=h
  exact⟨rfl,b,rfl,by cases b<;>rfl⟩
 ·cases h
end
end
section
section
variable {P:Program} {w0 w:World} {ow:Nat→Prop} {γ:List Nm} {hp hp':List Res} {c:Prop} {v:Sv} {t:TypeId}
theorem Hp {n:Nat} (hl:γ.length=n) (g:Nat):nmB (γ++[.b g]) n=g:=by subst hl;simp [nmB]
theorem A5 {n:Nat} (hl:γ.length=n) (x:Value):nmS (γ++[.s x]) n=x:=by subst hl;simp [nmS]
theorem D9 {n:Nat} (hl:γ.length=n) (x:Nm):(γ++[x])[n]?=some x:=by subst hl;simp
theorem Sat.made (hS:Sat w0 ow γ hp w) (hb:∀r∈hp,Res.bnd hp.length r) {k:Cont} {e:TypeId} (hk:k.bnd hp.length) {cs:Array Value} (hcs:cs.toList=k.vals γ):
  Sat w0 ow (γ++[.b w.heap.size]) (hp++[.blk e k]) (w.alloc (.cells cs e)):=by
 have hl:=hS.len
 refine hS.push (X:=fun _=>False) (Keeps.of_below (own:=fun _=>False) ((Below.refl _ _).alloc (Nat.le_refl _) _)) (fun b h=>h.elim) hb ?_ ?_
 ·have e1:k.vals (γ++[.b w.heap.size])=k.vals γ:=Cont.ext (by rw[hl];exact hk)
  refine⟨by rw[D9 hl,Hp hl],?_⟩
  rw[Hp hl,e1,←hcs]
  exact Blk.new _ _ _
 ·intro b hb2
  simp only[Res.has,Hp hl,Option.some.injEq] at hb2
  subst hb2
  exact⟨.inr (Nat.le_refl _),by simp⟩
theorem Zr (e:TypeId) (x:Value):(newVar e x).run P w=.ok ⟨w.heap.size,0,none⟩ (w.alloc (.cells x.cells e)):=by
 rfl
theorem Zs {x:Value} (h:scalar x):x.cells=#[x]:=by cases x<;>first|rfl|exact h.elim
theorem At.scalar_val {x:At} (hS:Sat w0 ow γ hp w) (h:x.scalar hp):Go.Proofs.YtedaafmfjhjfmaaGreatDoor.scalar (x.val γ):=by
 cases x with
 |v x=>exact h
 |p k o=>trivial
 |s k o l c=>trivial
 |o k=>exact Ahz hS h
 |q k i=>exact h.elim
 |z k l m=>obtain⟨A,n,m',e⟩:=Jh hS h;simp only[At.val,e];trivial
 |y k m l n=>obtain⟨A,n,m',e⟩:=Jh hS h;simp only[At.val,e];trivial
theorem Sc.cont_cells {s:Sc} (hS:Sat w0 ow γ hp w) (h:(s.cont hp).1):(s.val γ).cells.toList=(s.cont hp).2.vals γ:=by
 cases s with
 |a x=>
  have:=Zs (At.scalar_val hS h)
  simp only[Sc.val,Sc.cont,Cont.vals,this]
  rfl
 |a8 l=>simp [Sc.val,Sc.cont,Cont.vals,Value.cells,arr8]
 |a32 l=>simp [Sc.val,Sc.cont,Cont.vals,Value.cells,arr32]
 |a64 l=>simp [Sc.val,Sc.cont,Cont.vals,Value.cells,arr64]
 |g l=>simp [Sc.val,Sc.cont,Cont.vals,Value.cells]
theorem Sc.cont_bnd {s:Sc} {n:Nat} (h:s.bnd n):(s.cont hp).2.bnd n:=by
 cases s<;>simp_all [Sc.cont,Sc.bnd,Cont.bnd]
theorem Up:∀{fs:List Field} {l:List At},F0 P fs=some l→∀x∈l,∃u,x=.v u
 |[],l,h,x,hx=>by simp only[F0,Option.some.injEq] at h;subst h;cases hx
 |f::r,l,h,x,hx=>by
  unfold F0 at h
  split at h
  ·rename_i y m hy hm
   simp only[Option.some.injEq] at h
   subst h
   rcases List.mem_cons.1 hx with rfl|hx
   ·unfold Lq at hy
    split at hy<;>first|(cases hy;done)|(simp only[Option.some.injEq] at hy;exact⟨_,hy.symm⟩)
   ·exact Up hm x hx
  ·rename_i m _ hm
   split at h
   ·rename_i y hy
    simp only[Option.some.injEq] at h
    subst h
    rcases List.mem_append.1 hx with hx|hx
    ·unfold Hk at hy
     split at hy
     ·split at hy<;>first|(cases hy;done)|(simp only[Option.some.injEq] at hy;subst hy;obtain⟨u,_,rfl⟩:=List.mem_map.1 hx;exact⟨_,rfl⟩)
     ·cases hy
    ·exact Up hm x hx
   ·cases h
  ·cases h
theorem Uq:∀{fs:List Field} {l:List At},Jf P fs=some l→∀x∈l,∃u,x=.v u
 |[],l,h,x,hx=>by simp only[Jf,Option.some.injEq] at h;subst h;cases hx
 |f::r,l,h,x,hx=>by
  unfold Jf at h
  split at h
  ·rename_i y m hy hm
   simp only[Option.some.injEq] at h
   subst h
   rcases List.mem_cons.1 hx with rfl|hx
   ·unfold Lq at hy
    split at hy<;>first|(cases hy;done)|(simp only[Option.some.injEq] at hy;exact⟨_,hy.symm⟩)
   ·exact Uq hm x hx
  ·rename_i m _ hm
   split at h
   ·rename_i y hy
    simp only[Option.some.injEq] at h
    subst h
    rcases List.mem_append.1 hx with hx|hx
    ·unfold Bo at hy
     split at hy
     ·split at hy<;>first|(cases hy;done)|(simp only[Option.some.injEq] at hy;subst hy;obtain⟨u,_,rfl⟩:=List.mem_map.1 hx;exact⟨_,rfl⟩)
     ·exact Up hy x hx
     ·cases hy
    ·exact Uq hm x hx
   ·cases h
  ·cases h
theorem Zt {fs:List Field} {l:List At} {n:Nat} (h:Jf P fs=some l):(Cont.c l).bnd n:=by
 intro x hx
 obtain⟨u,rfl⟩:=Uq h x hx
 trivial
theorem Zu {x:At}:∀(n:Nat) (l:List At),x∈P5 n l→x∈l
 |0,_,h=>by cases h
 |n+1,l,h=>by
  rcases List.mem_append.1 h with h|h
  ·exact h
  ·exact Zu n l h
theorem Aiz {k:Cont} {n:Nat} (h:G0 P t=some k):k.bnd n:=by
 unfold G0 at h
 split at h<;>first|(simp at h;done)|(split at h<;>first|(simp only[Option.some.injEq] at h;subst h;simp [Cont.bnd,At.bnd];done)|(split at h<;>first|(rename_i l hl;simp only[Option.some.injEq] at h;subst h;exact fun x hx=>Zt hl x (Zu _ _ hx))|(cases h;done))|(cases h;done))|(simp at h;done)|(split at h<;>first|(rename_i l hl;simp only[Option.some.injEq] at h;subst h;exact Zt hl)|(cases h;done))|(split at h<;>first|(simp at h;done)|(simp only[Option.some.injEq] at h;subst h;simp [Cont.bnd,At.bnd]))|(simp only[Option.some.injEq] at h;subst h;simp [Cont.bnd,At.bnd])
theorem Kn {k:Cont} (h:ZOk P t k):∃z,(zeroValue t).run P w=.ok z w∧∀γ,z.cells.toList=k.vals γ:=by
 obtain⟨z,h1,h2⟩:=h
 refine⟨z,?_,h2⟩
 cases hi:P.info? t with
 |none=>simp [hi] at h1
 |some i=>
  have:i.zero=some z:=by simpa [hi] using h1
  simp [zeroValue,typeInfo,hi,this]
theorem Ai0 {x:Value} (h:x.oneCell'=true):x.cells=#[x]:=by cases x<;>first|rfl|(simp [Value.oneCell'] at h)
theorem Qz:∀(cs:List Value) (off k:Nat) (cells:Array Value),off+k+cs.length≤cells.size→
  (cs.zipIdx k).foldl (fun a (p:Value×Nat)=>a.setIfInBounds (off+p.2) p.1) cells=(cells.toList.take (off+k)++cs++cells.toList.drop (off+k+cs.length)).toArray
 |[],off,k,cells,_=>by simp
 |c::cs,off,k,cells,h=>by
  simp only[List.length_cons] at h
  have hlt:off+k < cells.toList.length:=by rw[Array.length_toList];omega
  rw[List.zipIdx_cons,List.foldl_cons,Qz cs off (k+1) _ (by simp;omega)]
  congr 1
  simp only[Array.toList_setIfInBounds,List.length_cons]
  rw[show off+(k+1)=off+k+1 from by omega,List.take_add_one,List.getElem?_set_self hlt,List.take_set_of_le (Nat.le_refl _),List.drop_set_of_lt (by omega)]
  simp only[Option.toList_some,List.append_assoc,List.cons_append,List.nil_append]
  rw[show off+k+1+cs.length=off+k+(cs.length+1) from by omega]
theorem Q0 {s:S} {ρ:Operand→Value} {fs:Array Field} (hu:P.underlying t=some (.struct fs)) (hS:Sat w0 ow γ hp w) (hev:∀x sv,Fr.ev s.fr x=some sv→ρ x=sv.val γ):
  ∀{ps:List (Nat×Operand)} {l l':List At} {c:Prop},Jg P t (Fr.ev s.fr) hp ps l=some (c,l')→c→
   Instr.fill ((fs.map fun f=>(f.offset,sz P f.type))[·]?) (l.map (At.val γ)).toArray (ps.map fun q=>(q.1,ρ q.2))=some (l'.map (At.val γ)).toArray
 |[],l,l',c,h,_=>by simp only[Jg,Option.some.injEq,Prod.mk.injEq] at h;obtain⟨_,rfl⟩:=h;rfl
 |(i,x)::r,l,l',c,h,hc=>by
  unfold Jg at h
  split at h
  ·rename_i o ft y hf hx
   split at h
   ·rename_i d m hr
    simp only[Option.some.injEq,Prod.mk.injEq] at h
    obtain⟨rfl,rfl⟩:=h
    obtain⟨⟨h1,h2,h3⟩,h4⟩:=hc
    have ih:=Q0 hu hS hev hr h4
    obtain⟨fs',fd,hu',hfd,rfl,rfl⟩:=Jj hf
    obtain rfl:fs'=fs:=by rw[hu] at hu';simpa using hu'.symm
    have e1:ρ x=y.val γ:=hev _ _ hx
    have e2:=Ai0 (At.one_val hS h1)
    have e3:(fs'.map fun f=>(f.offset,sz P f.type))[i]?=some (fd.offset,sz P fd.type):=by rw[Array.getElem?_map,hfd];rfl
    rw[List.map_cons]
    unfold Instr.fill
    simp only[e3,e1,e2,h2]
    rw[if_neg (by simp;omega)]
    rw[←ih]
    congr 1
    simp [List.map_set]
   ·cases h
  ·rename_i o ft q hf hx
   split at h
   ·rename_i d m hr
    simp only[Option.some.injEq,Prod.mk.injEq] at h
    obtain⟨rfl,rfl⟩:=h
    obtain⟨⟨h2,h3⟩,h4⟩:=hc
    have ih:=Q0 hu hS hev hr h4
    obtain⟨fs',fd,hu',hfd,rfl,rfl⟩:=Jj hf
    obtain rfl:fs'=fs:=by rw[hu] at hu';simpa using hu'.symm
    have e1:ρ x=.agg (arr8 q):=hev _ _ hx
    have e3:(fs'.map fun f=>(f.offset,sz P f.type))[i]?=some (fd.offset,sz P fd.type):=by rw[Array.getElem?_map,hfd];rfl
    rw[List.map_cons]
    unfold Instr.fill
    simp only[e3,e1]
    have e4:(Value.agg (arr8 q)).cells=(q.map vU8).toArray:=rfl
    rw[e4,if_neg (by simp;omega),←ih]
    congr 1
    have hs:=Qz (q.map vU8) fd.offset 0 (l.map (At.val γ)).toArray (by simp;omega)
    rw[Nat.add_zero] at hs
    have e5:(q.map vU8).toArray.zipIdx.foldl (fun cs (p:Value×Nat)=>cs.setIfInBounds (fd.offset+p.2) p.1) (l.map (At.val γ)).toArray=((l.map (At.val γ)).take fd.offset++q.map vU8++(l.map (At.val γ)).drop (fd.offset+(q.map vU8).length)).toArray:=by
     rw[←hs,←Array.foldl_toList,Array.toList_zipIdx]
    rw[e5]
    have e6:(q.map f8).map (At.val γ)=q.map vU8:=by rw[List.map_map];rfl
    rw[List.map_append,List.map_append,e6,List.map_take,List.map_drop,List.length_map,List.append_assoc]
   ·cases h
  ·rename_i o ft q hf hx
   split at h
   ·rename_i d m hr
    simp only[Option.some.injEq,Prod.mk.injEq] at h
    obtain⟨rfl,rfl⟩:=h
    obtain⟨⟨h2,h3⟩,h4⟩:=hc
    have ih:=Q0 hu hS hev hr h4
    obtain⟨fs',fd,hu',hfd,rfl,rfl⟩:=Jj hf
    obtain rfl:fs'=fs:=by rw[hu] at hu';simpa using hu'.symm
    have e1:ρ x=.agg (q.map (At.val γ)).toArray:=hev _ _ hx
    have e3:(fs'.map fun f=>(f.offset,sz P f.type))[i]?=some (fd.offset,sz P fd.type):=by rw[Array.getElem?_map,hfd];rfl
    rw[List.map_cons]
    unfold Instr.fill
    simp only[e3,e1]
    have e4:(Value.agg (q.map (At.val γ)).toArray).cells=(q.map (At.val γ)).toArray:=rfl
    rw[e4,if_neg (by simp;omega),←ih]
    congr 1
    have hs:=Qz (q.map (At.val γ)) fd.offset 0 (l.map (At.val γ)).toArray (by simp;omega)
    rw[Nat.add_zero] at hs
    have e5:(q.map (At.val γ)).toArray.zipIdx.foldl (fun cs (p:Value×Nat)=>cs.setIfInBounds (fd.offset+p.2) p.1) (l.map (At.val γ)).toArray=((l.map (At.val γ)).take fd.offset++q.map (At.val γ)++(l.map (At.val γ)).drop (fd.offset+(q.map (At.val γ)).length)).toArray:=by
     rw[←hs,←Array.foldl_toList,Array.toList_zipIdx]
    rw[e5]
    rw[List.map_append,List.map_append,List.map_take,List.map_drop,List.length_map,List.append_assoc]
   ·cases h
  ·cases h
theorem Zv:∀(fs:List Field),(∀f∈fs,sz P f.type≠0)→(fs.mapM fun f=>(do pure (f.offset,←sizeOf f.type):Sem (Nat×Nat))).run P w=.ok (fs.map fun f=>(f.offset,sz P f.type)) w
 |[],_=>rfl
 |f::r,h=>by
  rw[List.mapM_cons,Sem.run_bind,Sem.run_bind,Dg rfl (h f (List.mem_cons_self ..))]
  simp only[Result.andThen_ok,Sem.run_bind,Sem.run_pure,Zv r (fun g hg=>h g (List.mem_cons_of_mem _ hg))]
  rfl
theorem Zw:∀{l:List At} {m:List Int},Lr l=some m→m.map (Value.int .i64)=l.map (At.val γ)
 |[],m,h=>by simp only[Lr,Option.some.injEq] at h;subst h;rfl
 |x::r,m,h=>by
  unfold Lr at h
  split at h
  ·simp at*
  ·rename_i heq
   obtain⟨rfl,rfl⟩:=List.cons.inj heq
   split at h
   ·rename_i hr
    simp only[Option.some.injEq] at h
    subst h
    simp only[List.map_cons,Zw hr,At.val]
   ·simp at h
  ·simp at h
theorem Ur {d:Option TypeDesc} {l:List At} {k:Cont} (hS:Sat w0 ow γ hp w) (h:Kb hp d l=some (c,k)) (hc:c):k.vals γ=l.map (At.val γ)∧∀u∈k.vals γ,u.cells=#[u]:=by
 unfold Kb at h
 split at h
 ·split at h
  ·rename_i hr
   simp only[Option.some.injEq,Prod.mk.injEq] at h
   obtain⟨rfl,rfl⟩:=h
   exact⟨Qt hr hc,by simp [Cont.vals,Value.cells]⟩
  ·simp at h
 ·split at h
  ·rename_i hr
   simp only[Option.some.injEq,Prod.mk.injEq] at h
   obtain⟨rfl,rfl⟩:=h
   exact⟨Ug hr hc,by simp [Cont.vals,Value.cells]⟩
  ·simp at h
 ·split at h
  ·rename_i hr
   simp only[Option.some.injEq,Prod.mk.injEq] at h
   obtain⟨rfl,rfl⟩:=h
   exact⟨Uh hr hc,by simp [Cont.vals,Value.cells]⟩
  ·simp at h
 ·split at h
  ·rename_i hr
   simp only[Option.some.injEq,Prod.mk.injEq] at h
   obtain⟨rfl,rfl⟩:=h
   exact⟨Zw hr,by simp [Cont.vals,Value.cells]⟩
  ·simp at h
 ·simp only[Option.some.injEq,Prod.mk.injEq] at h
  obtain⟨rfl,rfl⟩:=h
  refine⟨rfl,fun u hu=>?_⟩
  simp only[Cont.vals,List.mem_map] at hu
  obtain⟨x,hx,rfl⟩:=hu
  exact Zs (At.scalar_val hS (hc x hx))
theorem Ai1 {d:Option TypeDesc} {l:List At} {k:Cont} {n:Nat} (h:Kb hp d l=some (c,k)) (hb:∀x∈l,x.bnd n):k.bnd n:=by
 unfold Kb at h
 split at h<;>first|(split at h<;>first|(simp at h;done)|(simp only[Option.some.injEq,Prod.mk.injEq] at h;obtain⟨_,rfl⟩:=h;trivial))|(simp only[Option.some.injEq,Prod.mk.injEq] at h;obtain⟨_,rfl⟩:=h;exact hb)
theorem Us {ev:Operand→Option Sv} {ρ:Operand→Value} (hev:∀x sv,ev x=some sv→ρ x=sv.val γ):∀(ps:List (Nat×Operand)) (k:Nat) (l:List At),parts ev k ps=some l→
  ps.map (fun p=>(p.1,ρ p.2))=((l.map (At.val γ)).zipIdx k).map (fun p=>(p.2,p.1))
 |[],k,l,h=>by simp only[parts,Option.some.injEq] at h;subst h;simp
 |(i,x)::r,k,l,h=>by
  unfold parts at h
  split at h
  ·rename_i hi
   subst hi
   split at h
   ·rename_i y hy
    split at h
    ·rename_i l' hr
     simp only[Option.some.injEq] at h
     subst h
     have h1:=Us hev r (i+1) l' hr
     simp only[List.map_cons,List.zipIdx_cons,h1,hev x _ hy]
     rfl
    ·simp at h
   ·simp at h
  ·simp at h
theorem Zx {ev:Operand→Option Sv} {ρ:Operand→Value} {n:Nat} (hev:∀x sv,ev x=some sv→ρ x=sv.val γ) (hbn:∀x sv,ev x=some sv→sv.bnd n):∀(ps:List (Nat×Operand)) (k:Nat) (l:List At),parts ev k ps=some l→
  ps.map (fun p=>(p.1,ρ p.2))=((l.map (At.val γ)).zipIdx k).map (fun p=>(p.2,p.1))∧∀x∈l,At.bnd n x
 |[],k,l,h=>by simp only[parts,Option.some.injEq] at h;subst h;simp
 |(i,x)::r,k,l,h=>by
  unfold parts at h
  split at h
  ·rename_i hi
   subst hi
   split at h
   ·rename_i y hy
    split at h
    ·rename_i l' hr
     simp only[Option.some.injEq] at h
     subst h
     obtain⟨h1,h2⟩:=Zx hev hbn r (i+1) l' hr
     refine⟨?_,?_⟩
     ·simp only[List.map_cons,List.zipIdx_cons,h1,hev x _ hy]
      rfl
     ·intro z hz
      rcases List.mem_cons.1 hz with rfl|hz
      ·exact hbn x _ hy
      ·exact h2 z hz
    ·simp at h
   ·simp at h
  ·simp at h
end
end
section
section
variable {P:Program} {w0 w:World} {ow:Nat→Prop} {γ:List Nm} {hp hp':List Res} {c:Prop} {v:Sv} {t:TypeId}
theorem Ut:∀(vs:List Value),(∀u∈vs,u.cells=#[u])→∀(k:Nat) (cells:Array Value),k+vs.length=cells.size→
  Instr.fill (fun i=>some (i*1,1)) cells ((vs.zipIdx k).map (fun p=>(p.2,p.1)))=some (cells.toList.take k++vs).toArray
 |[],_,k,cells,hk=>by
  simp only[List.length_nil,Nat.add_zero] at hk
  subst hk
  simp only[Instr.fill,List.zipIdx_nil,List.map_nil,List.append_nil]
  rw[show cells.size=cells.toList.length from Array.length_toList.symm,List.take_length]
 |u::vs,h,k,cells,hk=>by
  simp only[List.length_cons] at hk
  have hu:=h u (by simp)
  have hlt:k < cells.size:=by omega
  have ih:=Ut vs (fun z hz=>h z (by simp [hz])) (k+1) (cells.setIfInBounds k u) (by simp;omega)
  simp only[List.zipIdx_cons,List.map_cons,Instr.fill,hu]
  have e1:¬((#[u]:Array Value).size≠1∨k*1+(#[u]:Array Value).size > cells.size):=by simp;omega
  have e2:(#[u]:Array Value).zipIdx.foldl (fun cs (p:Value×Nat)=>cs.setIfInBounds (k*1+p.2) p.1) cells=cells.setIfInBounds k u:=by simp
  simp only[Bool.or_eq_true,decide_eq_true_eq,e1,if_false]
  rw[e2,ih]
  have e3:(cells.setIfInBounds k u).toList.take (k+1)=cells.toList.take k++[u]:=by
   rw[Array.toList_setIfInBounds,List.take_add_one,List.getElem?_set_self (by simpa using hlt),List.take_set_of_le (Nat.le_refl _)]
   rfl
  rw[e3,List.append_assoc]
  rfl
theorem Zy:∀(vs:List Value),(∀u∈vs,u.cells=#[u])→∀(k:Nat) (cells:Array Value),k+vs.length≤cells.size→
  Instr.fill (fun i=>some (i*1,1)) cells ((vs.zipIdx k).map (fun p=>(p.2,p.1)))=some (cells.toList.take k++(vs++cells.toList.drop (k+vs.length))).toArray
 |[],_,k,cells,hk=>by
  simp only[Instr.fill,List.zipIdx_nil,List.map_nil,List.nil_append,List.length_nil,Nat.add_zero,List.take_append_drop]
 |u::vs,h,k,cells,hk=>by
  simp only[List.length_cons] at hk
  have hu:=h u (by simp)
  have hlt:k < cells.size:=by omega
  have ih:=Zy vs (fun z hz=>h z (by simp [hz])) (k+1) (cells.setIfInBounds k u) (by simp;omega)
  simp only[List.zipIdx_cons,List.map_cons,Instr.fill,hu]
  have e1:¬((#[u]:Array Value).size≠1∨k*1+(#[u]:Array Value).size > cells.size):=by simp;omega
  have e2:(#[u]:Array Value).zipIdx.foldl (fun cs (p:Value×Nat)=>cs.setIfInBounds (k*1+p.2) p.1) cells=cells.setIfInBounds k u:=by simp
  simp only[Bool.or_eq_true,decide_eq_true_eq,e1,if_false]
  rw[e2,ih]
  have e3:(cells.setIfInBounds k u).toList.take (k+1)=cells.toList.take k++[u]:=by
   rw[Array.toList_setIfInBounds,List.take_add_one,List.getElem?_set_self (by simpa using hlt),List.take_set_of_le (Nat.le_refl _)]
   rfl
  have e4:(cells.setIfInBounds k u).toList.drop (k+1+vs.length)=cells.toList.drop (k+(vs.length+1)):=by
   rw[Array.toList_setIfInBounds,List.drop_set_of_lt (by omega)]
   congr 1
   omega
  rw[e3,e4,List.append_assoc,List.length_cons]
  rfl
theorem Ai2 {k z k':Cont} (h:Qo k z=some k'):k'.vals γ=k.vals γ++(z.vals γ).drop (k.vals γ).length:=by
 unfold Qo at h
 split at h<;>simp only[Option.some.injEq,reduceCtorEq] at h<;>subst h<;>simp [Cont.vals,List.map_drop]
theorem Zz {s:S} {ρ:Operand→Value} {ps:Array (Nat×Operand)} (hS:Sat w0 ow γ hp w) (hev:∀x sv,Fr.ev s.fr x=some sv→ρ x=sv.val γ) (h:Qp P t (Fr.ev s.fr) hp ps.toList=some (c,v,hp')) (hc:c):
  hp'=hp∧(Instr.build t (ps.map fun (i,x)=>(i,ρ x))).run P w=.ok (v.val γ) w:=by
 unfold Qp at h
 split at h
 ·rename_i n e hu
  have arr:∀{k:Cont},ps.toList=[]→ZOk P t k→0 < sz P e→(Instr.build t (ps.map fun (i,x)=>(i,ρ x))).run P w=.ok (.agg (k.vals γ).toArray) w:=by
   intro k hps hz hs
   obtain⟨z,hz1,hz2⟩:=Kn (P:=P) (w:=w) hz
   have e1:ps=#[]:=Array.ext' hps
   subst e1
   unfold Instr.build
   simp only[Sem.run_bind,hz1,Result.andThen_ok,run_underlying hu,Dg (P:=P) (t:=e) rfl (by omega)]
   have e2:z.cells=(k.vals γ).toArray:=Array.ext' (hz2 γ)
   simp [Instr.fill,e2]
  split at h
  ·rename_i l hps hz
   simp only[Option.some.injEq,Prod.mk.injEq] at h
   obtain⟨rfl,rfl,rfl⟩:=h
   exact⟨rfl,arr hps hc.1 (by omega)⟩
  ·rename_i l hps hz
   simp only[Option.some.injEq,Prod.mk.injEq] at h
   obtain⟨rfl,rfl,rfl⟩:=h
   exact⟨rfl,arr hps hc.1 (by omega)⟩
  ·rename_i l hps hz
   simp only[Option.some.injEq,Prod.mk.injEq] at h
   obtain⟨rfl,rfl,rfl⟩:=h
   exact⟨rfl,arr hps hc.1 (by omega)⟩
  ·rename_i l hps hz
   simp only[Option.some.injEq,Prod.mk.injEq] at h
   obtain⟨rfl,rfl,rfl⟩:=h
   exact⟨rfl,arr hps hc.1 hc.2⟩
  ·rename_i p r z hps hz
   split at h
   ·rename_i l hl
    split at h
    ·rename_i d k hk
     split at h
     ·rename_i q s' hw
      split at h
      ·simp only[Option.some.injEq,Prod.mk.injEq] at h
       obtain⟨rfl,rfl,rfl⟩:=h
       obtain⟨hq,h1,h2,h3,h4⟩:=hc
       refine⟨rfl,?_⟩
       obtain⟨e1,e2⟩:=Ur (γ:=γ) hS hk h1
       have p1:=Us (γ:=γ) hev (p::r) 0 l hl
       obtain⟨z0,hz1,hz2⟩:=Kn (P:=P) (w:=w) h2
       have hzs:z0.cells.size=(k.vals γ).length:=by rw[←Array.length_toList,hz2 γ,Cont.len_vals,Cont.len_vals,h4]
       have hf:=Ut (k.vals γ) e2 0 z0.cells (by omega)
       unfold Instr.build
       simp only[Sem.run_bind,hz1,Result.andThen_ok,run_underlying hu,Dg h3 (by omega)]
       rw[show (ps.map fun (i,x)=>(i,ρ x)).toList=(ps.toList).map fun q=>(q.1,ρ q.2) from by simp,hps,p1,←e1,hf]
       show _=Result.ok (s'.val γ) w
       rw[Cont.whole_val hw hq]
       simp
      ·split at h
       ·rename_i k' hpad
        split at h
        ·rename_i q' s'' hw'
         simp only[Option.some.injEq,Prod.mk.injEq] at h
         obtain⟨rfl,rfl,rfl⟩:=h
         obtain⟨hq,h1,h2,h3,h4⟩:=hc
         refine⟨rfl,?_⟩
         obtain⟨e1,e2⟩:=Ur (γ:=γ) hS hk h1
         have p1:=Us (γ:=γ) hev (p::r) 0 l hl
         obtain⟨z0,hz1,hz2⟩:=Kn (P:=P) (w:=w) h2
         have hzs:(k.vals γ).length≤z0.cells.size:=by rw[←Array.length_toList,hz2 γ,Cont.len_vals,Cont.len_vals];exact h4
         have hf:=Zy (k.vals γ) e2 0 z0.cells (by omega)
         unfold Instr.build
         simp only[Sem.run_bind,hz1,Result.andThen_ok,run_underlying hu,Dg h3 (by omega)]
         rw[show (ps.map fun (i,x)=>(i,ρ x)).toList=(ps.toList).map fun q=>(q.1,ρ q.2) from by simp,hps,p1,←e1,hf]
         show _=Result.ok (s''.val γ) w
         rw[Cont.whole_val hw' hq,Ai2 hpad,hz2 γ]
         simp
        ·cases h
       ·cases h
     ·cases h
    ·cases h
   ·cases h
  ·cases h
 ·rename_i fs hu
  split at h
  ·rename_i l hz
   split at h
   ·rename_i d l' hsp
    simp only[Option.some.injEq,Prod.mk.injEq] at h
    obtain⟨rfl,rfl,rfl⟩:=h
    obtain⟨h1,h2,h3⟩:=hc
    refine⟨rfl,?_⟩
    obtain⟨z,hz1,hz2⟩:=Kn (P:=P) (w:=w) h1
    have hm:=Zv (P:=P) (w:=w) fs.toList h2
    have hf:=Q0 hu hS hev hsp h3
    have e2:z.cells=(l.map (At.val γ)).toArray:=Array.ext' (hz2 γ)
    have e3:(fs.mapM fun f=>(do pure (f.offset,←sizeOf f.type):Sem (Nat×Nat))).run P w=.ok (fs.map fun f=>(f.offset,sz P f.type)) w:=by
     rw[Array.mapM_eq_mapM_toList,Sem.run_map,hm]
     simp only[Result.andThen]
     congr 1
     exact Array.ext' (by simp)
    unfold Instr.build
    simp only[Sem.run_bind,hz1,Result.andThen_ok,run_underlying hu,e3,e2]
    rw[show (ps.map fun (i,x)=>(i,ρ x)).toList=ps.toList.map fun q=>(q.1,ρ q.2) from by simp,hf]
    rfl
   ·cases h
  ·cases h
 ·cases h
theorem Ai3 {e:TypeId} {vs:List Value} {z:Cont} (hu:P.underlying t=some (.slice e)) (hs:sz P e=1) (hz:ZOk P e z) (h1:∀u∈vs,u.cells=#[u]) (hn:vs.length≤1000):
  (Instr.buildSlice t vs.length ((vs.zipIdx 0).map (fun p=>(p.2,p.1))).toArray).run P w=.ok (.slice (some ⟨w.heap.size,0,none⟩) vs.length vs.length) (w.alloc (.cells vs.toArray e)):=by
 obtain⟨z',hz1,_⟩:=Kn (w:=w) hz
 unfold Instr.buildSlice
 have hle:¬vs.length*1 > 2 ^ 24:=by omega
 have hf:∀cells:Array Value,cells.size=vs.length→Instr.fill (fun i=>some (i*1,1)) cells ((vs.zipIdx 0).map (fun p=>(p.2,p.1)))=some vs.toArray:=fun cells hc=>by
  have:=Ut vs h1 0 cells (by omega)
  simpa using this
 simp only[Sem.run_bind,run_underlying hu,Result.andThen_ok,Dg hs (by omega),hle,if_false]
 by_cases h0:vs.length*1=0
 ·simp only[h0,if_true,Sem.run_bind,Sem.run_pure,Result.andThen_ok]
  have:=hf ((Array.range 0).map (fun x=>(#[]:Array Value)[x % (#[]:Array Value).size]!)) (by simp;omega)
  rw[Nat.mul_one] at h0
  rw[this]
  rfl
 ·simp only[h0,if_false,Sem.run_bind,hz1,Result.andThen_ok,Sem.run_pure]
  have:=hf ((Array.range (vs.length*1)).map (fun x=>z'.cells[x % z'.cells.size]!)) (by simp)
  rw[this]
  rfl
theorem Ai4 {ev:Operand→Option Sv} {ρ:Operand→Value} {len:Nat} {ps:List (Nat×Operand)} (hS:Sat w0 ow γ hp w) (hev:∀x sv,ev x=some sv→ρ x=sv.val γ)
  (hbe:∀x sv,ev x=some sv→sv.bnd hp.length) (hbr:∀r∈hp,Res.bnd hp.length r) (h:bsS P t len hp (parts ev 0 ps)=some (c,v,hp')) (hc:c):
  ∃γ' w',(Instr.buildSlice t len (ps.map (fun p=>(p.1,ρ p.2))).toArray).run P w=.ok (v.val γ') w'∧Sat w0 ow γ' hp' w'∧hp.length < hp'.length∧∃nm,γ'=γ++[nm]:=by
 unfold bsS at h
 split at h
 ·rename_i l hl
  split at h
  ·rename_i e hu
   split at h
   ·rename_i d k hk
    simp only[Option.some.injEq,Prod.mk.injEq] at h
    obtain⟨rfl,rfl,rfl⟩:=h
    obtain⟨h1,h2,h3,h4,h5⟩:=hc
    obtain⟨e1,e2⟩:=Ur (γ:=γ) hS hk h1
    obtain⟨p1,p2⟩:=Zx (γ:=γ) (n:=hp.length) hev hbe ps 0 l hl
    have hlen:(k.vals γ).length=len:=by rw[Cont.len_vals,h3]
    have hrun:=Ai3 (P:=P) (w:=w) (t:=t) (vs:=k.vals γ) hu h2 h5 e2 (by omega)
    rw[hlen] at hrun
    have hsat:=hS.made hbr (Ai1 hk p2) (cs:=(k.vals γ).toArray) (e:=e) (by simp)
    refine⟨_,_,?_,hsat,by simp,_,rfl⟩
    rw[p1,←e1,hrun]
    simp [Sv.val,Sc.val,At.val,Hp hS.len]
   ·cases h
  ·cases h
 ·cases h
theorem Cont.app_vals {a b k:Cont} (h:a.app b=some k):k.vals γ=a.vals γ++b.vals γ:=by
 unfold Cont.app at h
 split at h<;>simp only[Option.some.injEq,reduceCtorEq] at h<;>subst h<;>simp [Cont.vals]
theorem Cont.app_bnd {a b k:Cont} {n:Nat} (h:a.app b=some k) (ha:a.bnd n) (hb:b.bnd n):k.bnd n:=by
 unfold Cont.app at h
 split at h<;>simp only[Option.some.injEq,reduceCtorEq] at h<;>subst h<;>simp_all [Cont.bnd]
 intro x hx
 rcases hx with hx|hx
 ·exact ha x hx
 ·exact hb x hx
def Fg (γ:List Nm) (c:Option Cont):List Value:=match c with|none=>[]|some c=>c.vals γ
theorem Uu {a:Option Cont} {b k:Cont} (h:G6 a b=some k):k.vals γ=Fg γ a++b.vals γ:=by
 cases a with
 |none=>simp only[G6,Option.some.injEq] at h;subst h;rfl
 |some a=>exact Cont.app_vals h
theorem Z0 (c:Option Cont):Dy c=(Fg γ c).length:=by cases c<;>simp [Dy,Fg,Cont.len_vals]
theorem Uv {m:Cont} (hS:Sat w0 ow γ hp w) (h:m.plain hp):∀u∈m.vals γ,u.oneCell'=true:=by
 cases m with
 |c l=>
  intro u hu
  simp only[Cont.vals,List.mem_map] at hu
  obtain⟨x,hx,rfl⟩:=hu
  exact At.one_val hS (h x hx)
 |vs l=>exact h
 |u8 l=>simp [Cont.vals,Value.oneCell']
 |u32 l=>simp [Cont.vals,Value.oneCell']
 |u64 l=>simp [Cont.vals,Value.oneCell']
 |i64 l=>simp [Cont.vals,Value.oneCell']
theorem Z1 {e:TypeId} {b:Sv} {k:Option Nat} {ct:Option Cont} (hS:Sat w0 ow γ hp w) (h:Nc hp e b=some (k,ct)) (hml:Dy ct≤maxLen):
  Own w 0 e (b.val γ) (Fg γ ct)∧(∀n,(b.val γ).ownBlock=some n→∃j r,k=some j∧hp[j]?=some r∧r.has γ j n)∧(∀c0,ct=some c0→∃j r,k=some j∧hp[j]?=some r∧(r=.own e c0∨r=.blk e c0)):=by
 unfold Nc at h
 split at h
 ·split at h
  ·rename_i hn
   obtain⟨rfl,rfl⟩:=hn
   simp only[Option.some.injEq,Prod.mk.injEq] at h
   obtain⟨rfl,rfl⟩:=h
   exact⟨Own.nil_ _ _ _,fun n hn=>by simp [Sv.val,Sc.val,At.val,Value.ownBlock] at hn,fun c0 h0=>by cases h0⟩
  ·cases h
 ·rename_i j
  split at h
  ·rename_i e' c' hr
   split at h
   ·rename_i he
    subst he
    simp only[Option.some.injEq,Prod.mk.injEq] at h
    obtain⟨rfl,rfl⟩:=h
    exact⟨(hS.own hr).2,fun n hn=>⟨j,_,rfl,hr,hn⟩,fun c0 h0=>by cases h0;exact⟨j,_,rfl,hr,.inl rfl⟩⟩
   ·cases h
  ·cases h
 ·rename_i j off len cap
  split at h
  ·rename_i e' c' hr
   split at h
   ·rename_i he
    obtain⟨rfl,rfl,rfl,rfl⟩:=he
    simp only[Option.some.injEq,Prod.mk.injEq] at h
    obtain⟨rfl,rfl⟩:=h
    refine⟨?_,fun n hn=>⟨j,_,rfl,hr,by simpa [Sv.val,Sc.val,At.val,Value.ownBlock,Res.has] using hn⟩,fun c0 h0=>by cases h0;exact⟨j,_,rfl,hr,.inr rfl⟩⟩
    obtain⟨_,hb⟩:=hS.blk hr
    refine⟨?_,.inr ⟨nmB γ j,c'.len,(c'.vals γ).toArray,?_,Nat.zero_le _,hb,?_,hml,?_,?_⟩⟩
    ·simp [Fg]
    ·simp [Sv.val,Sc.val,At.val,Fg,Cont.len_vals]
    ·simp [Fg,Cont.len_vals]
    ·simp [Cont.len_vals]
    ·simp [Fg]
   ·cases h
  ·cases h
 ·cases h
theorem Cont.cut_bnd {ct c':Cont} {off len n:Nat} (hcut:ct.cut off len=some c') (hbb:ct.bnd n):c'.bnd n:=by
 unfold Cont.cut at hcut
 split at hcut
 ·simp only[Option.some.injEq] at hcut;subst hcut;exact hbb
 ·cases ct<;>simp only[Cont.part,Option.some.injEq] at hcut<;>subst hcut<;>simp_all [Cont.bnd]
  exact fun y hy=>hbb y (List.mem_of_mem_drop (List.mem_of_mem_take hy))
theorem RdV.take' {B:Nat} {A:Option Addr} {vs:List Value} (h:RdV w B A vs) (n:Nat):RdV w B A (vs.take n):=fun hp=>by
 obtain⟨b,off,h1,h2,h3⟩:=h (by rw[List.length_take] at hp;omega)
 refine⟨b,off,h1,h2,fun j u hu=>h3 j u ?_⟩
 rw[List.getElem?_take] at hu
 split at hu
 ·exact hu
 ·cases hu
theorem Z2 {d:Option TypeDesc} {x:Sv} {m:Cont} (hS:Sat w0 ow γ hp w) (hbr:∀r∈hp,Res.bnd hp.length r) (h:Lx w0 ow hp d x=some (c,m)) (hc:c):
  ∃A cap B,x.val γ=.slice A m.len cap∧RdV w B A (m.vals γ)∧m.bnd hp.length:=by
 unfold Lx at h
 split at h
 ·rename_i k off len cap
  split at h
  ·rename_i e' ct hr
   split at h
   ·rename_i c' hcut
    have hv:=Cont.cut_vals (γ:=γ) hcut
    have hbb:ct.bnd hp.length:=hbr _ (List.mem_of_getElem? hr)
    have key:∀m:Cont,off+len≤ct.len→m.vals γ=c'.vals γ→m.bnd hp.length→∃A cap' B,(Sv.x (.a (.s k off len cap))).val γ=.slice A m.len cap'∧RdV w B A (m.vals γ)∧m.bnd hp.length:=by
     intro m hle hm hb
     have hl:m.len=len:=by rw[←Cont.len_vals (γ:=γ),hm,hv,List.length_take,List.length_drop,Cont.len_vals];omega
     refine⟨some ⟨nmB γ k,off,none⟩,cap,w.heap.size,by rw[hl];rfl,fun _=>⟨nmB γ k,off,rfl,(hS.blk hr).2.lt,fun j u hu=>?_⟩,hb⟩
     rw[(hS.blk hr).2.cell (off+j),List.getElem?_toArray]
     rw[hm,hv,List.getElem?_take] at hu
     split at hu
     ·rw[List.getElem?_drop] at hu;exact hu
     ·cases hu
    split at h
    ·rename_i l
     split at h
     ·rename_i h8 q hq
      simp only[Option.some.injEq,Prod.mk.injEq] at h
      obtain⟨rfl,rfl⟩:=h
      exact key _ hc.1 (Qt hq hc.2) trivial
     ·simp only[Option.some.injEq,Prod.mk.injEq] at h
      obtain⟨rfl,rfl⟩:=h
      exact key _ hc rfl (Cont.cut_bnd hcut hbb)
    ·simp only[Option.some.injEq,Prod.mk.injEq] at h
     obtain⟨rfl,rfl⟩:=h
     exact key _ hc rfl (Cont.cut_bnd hcut hbb)
   ·cases h
  ·cases h
 ·rename_i k
  split at h
  ·rename_i e' ct hr
   simp only[Option.some.injEq,Prod.mk.injEq] at h
   obtain⟨rfl,rfl⟩:=h
   obtain⟨A,m,h1,_,_,h4,_⟩:=Kk hS hr
   exact⟨A,m,_,h1,h4,hbr _ (List.mem_of_getElem? hr)⟩
  ·rename_i e' ct hr
   simp only[Option.some.injEq,Prod.mk.injEq] at h
   obtain⟨rfl,rfl⟩:=h
   obtain⟨A,m,h1,_,_,h4⟩:=Y9 hS hr
   exact⟨A,m,_,h1,h4,hbr _ (List.mem_of_getElem? hr)⟩
  ·cases h
 ·rename_i k l m'
  split at h
  ·rename_i e' ct hr
   split at h
   ·rename_i c' hcut
    simp only[Option.some.injEq,Prod.mk.injEq] at h
    obtain⟨rfl,rfl⟩:=h
    have hv:=Cont.cut_vals (γ:=γ) hcut
    have hl:c'.len=m':=by rw[←Cont.len_vals (γ:=γ),hv,List.length_take,List.length_drop,Cont.len_vals];omega
    have hbb:ct.bnd hp.length:=hbr _ (List.mem_of_getElem? hr)
    obtain⟨A,cap,h1,h2,_,h4,_⟩:=Kk hS hr
    refine⟨Lo A l cap,cap - l,w.heap.size,by rw[hl];simp [Sv.val,Sc.val,At.val,h1],?_,Cont.cut_bnd hcut hbb⟩
    rw[hv]
    exact RdV.take' (h4.cut (k:=l) (c:=cap) (by rw[Cont.len_vals];exact h2)) m'
   ·cases h
  ·cases h
 ·rename_i A n cap
  split at h
  ·simp only[Option.some.injEq,Prod.mk.injEq] at h
   obtain⟨rfl,rfl⟩:=h
   exact⟨A,cap,_,by simp [Sv.val,Sc.val,At.val,Cont.len,Y8],hS.rdv hc,trivial⟩
  ·simp only[Option.some.injEq,Prod.mk.injEq] at h
   obtain⟨rfl,rfl⟩:=h
   exact⟨A,cap,_,by simp [Sv.val,Sc.val,At.val,Cont.len,Lt],hS.rdv hc,trivial⟩
  ·simp only[Option.some.injEq,Prod.mk.injEq] at h
   obtain⟨rfl,rfl⟩:=h
   exact⟨A,cap,_,by simp [Sv.val,Sc.val,At.val,Cont.len,Lu],hS.rdv hc,trivial⟩
  ·simp only[Option.some.injEq,Prod.mk.injEq] at h
   obtain⟨rfl,rfl⟩:=h
   exact⟨A,cap,_,by simp [Sv.val,Sc.val,At.val,Cont.len,rdI],hS.rdv hc,trivial⟩
  ·simp only[Option.some.injEq,Prod.mk.injEq] at h
   obtain⟨rfl,rfl⟩:=h
   exact⟨A,cap,_,by simp [Sv.val,Sc.val,At.val,Cont.len,rdV],hS.rdv hc,trivial⟩
  ·cases h
 ·cases h
theorem Q3 {k:Option Nat} {γ:List Nm} (hS:Sat w0 ow γ hp w) {n:Nat} (hn:∃j r,k=some j∧hp[j]?=some r∧r.has γ j n):G7 w0 ow n∧∀(i:Nat) (r:Res),(Cb hp k)[i]?=some r→¬r.has γ i n:=by
 obtain⟨j,r,rfl,hr,hb⟩:=hn
 refine⟨(hS.mine j r n hr hb).1,fun i q hq hcon=>?_⟩
 unfold Cb at hq
 by_cases hij:i=j
 ·subst hij
  rw[List.getElem?_set_self (Ax hr)] at hq
  cases hq
  cases hcon
 ·rw[List.getElem?_set_ne (fun e=>hij e.symm)] at hq
  exact hS.apart i j q r n hq hr hij hcon hb
theorem Ai5 {t' ty:TypeId} {b x:Sv} (hS:Sat w0 ow γ hp w) (hbr:∀r∈hp,Res.bnd hp.length r) (h:Du P w0 ow t t' hp b x=some (c,v,hp')) (hc:c):
  ∃γ' w',(Builtin.append_ #[t,t'] ty #[b.val γ,x.val γ]).run P w=.ok (v.val γ') w'∧Sat w0 ow γ' hp' w'∧hp.length < hp'.length∧∃nm,γ'=γ++[nm]:=by
 unfold Du at h
 split at h
 ·rename_i e hu
  split at h
  ·rename_i ht
   subst ht
   split at h
   ·rename_i k ct d m hb hx
    split at h
    ·rename_i c' hj
     simp only[Option.some.injEq,Prod.mk.injEq] at h
     obtain⟨rfl,rfl,rfl⟩:=h
     obtain⟨h1,h2,h3,h4,h5,h6⟩:=hc
     obtain⟨b1,b2,b3⟩:=Z1 hS hb (by omega)
     obtain⟨A,cap,B,e1,e2,e3⟩:=Z2 hS hbr hx h1
     obtain⟨z,hz1,hz2⟩:=h5
     obtain⟨i,hi,hsz⟩:=Ev h6 (by omega)
     have hzero:i.zero=some z:=by simpa [hi] using hz1
     have hbz:i.bytes=bz P e:=by simp [bz,hi]
     have hz3:z.cells.size=1:=by rw[←Array.length_toList,hz2 []];rfl
     have hlm:(m.vals γ).length=m.len:=Cont.len_vals m
     rw[Z0 (γ:=γ)] at h3 h4
     obtain⟨v',w',hrun,ho,hk,hob⟩:=Agh (P:=P) w 0 t e (bz P e) hu z hz3 (by rw[hi];simp [hzero,hsz,hbz]) (b.val γ) (Fg γ ct) b1 A m.len cap B (m.vals γ) e2 hlm (Uv hS h2) h4 h3 (Nat.zero_le _)
     have hgl:(Cb hp k).length=hp.length:=by cases k<;>simp [Cb]
     have hS':Sat w0 ow γ (Cb hp k) w:=by
      cases k with
      |none=>exact hS
      |some k=>exact hS.drop k
     have hbr':∀r∈Cb hp k,Res.bnd (Cb hp k).length r:=by
      rw[hgl]
      intro r hr
      cases k with
      |none=>exact hbr r hr
      |some k=>
       rcases List.mem_or_eq_of_mem_set hr with hr|rfl
       ·exact hbr r hr
       ·trivial
     have hl':γ.length=(Cb hp k).length:=hS'.len
     have hcb:c'.bnd hp.length:=by
      cases ct with
      |none=>simp only[G6,Option.some.injEq] at hj;subst hj;exact e3
      |some c0=>
       refine Cont.app_bnd hj ?_ e3
       obtain⟨j,r,_,hr,hr2⟩:=b3 c0 rfl
       have:=hbr r (List.mem_of_getElem? hr)
       rcases hr2 with rfl|rfl<;>exact this
     refine⟨γ++[.s v'],w',?_,?_,by simp [hgl],_,rfl⟩
     ·rw[e1,hrun]
      simp [Sv.val,Sc.val,At.val,A5 hS.len]
     ·refine hS'.push (X:=fun n=>(b.val γ).ownBlock=some n) hk (fun n hn=>Q3 hS (b2 n hn)) hbr' ?_ ?_
      ·refine⟨by rw[D9 hl',A5 hl'],?_⟩
       rw[A5 hl',Cont.ext (by rw[hl',hgl];exact hcb),Uu hj]
       exact ho
      ·intro n hn
       simp only[Res.has,A5 hl'] at hn
       have:=ho.lt n hn
       refine⟨?_,this.2⟩
       rcases hob with h7|h7
       ·rw[h7] at hn;exact .inl hn
       ·rw[h7] at hn;cases hn;exact .inr (Nat.le_refl _)
    ·cases h
   ·cases h
  ·split at h
   ·rename_i kk m hti
    split at h
    ·rename_i k ct z hb hzn
     split at h
     ·rename_i c' hj
      simp only[Option.some.injEq,Prod.mk.injEq] at h
      obtain⟨rfl,rfl,rfl⟩:=h
      obtain⟨h1,h3,h4,h5,h6⟩:=hc
      obtain⟨hue,rfl⟩:P.underlying e=some (.int .u8)∧z=.u8 (List.replicate m.toNat 0):=by
       unfold Du.zeroN at hzn
       split at hzn
       ·rename_i h7
        exact⟨h7,(Option.some.inj hzn).symm⟩
       ·cases hzn
      obtain⟨b1,b2,b3⟩:=Z1 hS hb (by omega)
      obtain⟨z,hz1,hz2⟩:=h5
      obtain⟨i,hi,hsz⟩:=Ev h6 (by omega)
      have hzero:i.zero=some z:=by simpa [hi] using hz1
      have hbz:i.bytes=bz P e:=by simp [bz,hi]
      have hz3:z.cells=#[.int .u8 0]:=by
       have:=hz2 []
       rw[hue] at this
       exact Array.ext' this
      rw[Z0 (γ:=γ)] at h3 h4
      obtain⟨v',w',hrun,ho,hk,hob⟩:=Agn (P:=P) w 0 t t' e kk z (.int .u8 0) hz3 rfl (bz P e) hu hti (by rw[hi];simp [hzero,hsz,hbz]) (b.val γ) (Fg γ ct) b1 m.toNat h4 h3 (Nat.zero_le _)
      have hgl:(Cb hp k).length=hp.length:=by cases k<;>simp [Cb]
      have hS':Sat w0 ow γ (Cb hp k) w:=by
       cases k with
       |none=>exact hS
       |some k=>exact hS.drop k
      have hbr':∀r∈Cb hp k,Res.bnd (Cb hp k).length r:=by
       rw[hgl]
       intro r hr
       cases k with
       |none=>exact hbr r hr
       |some k=>
        rcases List.mem_or_eq_of_mem_set hr with hr|rfl
        ·exact hbr r hr
        ·trivial
      have hl':γ.length=(Cb hp k).length:=hS'.len
      have hcb:c'.bnd hp.length:=by
       cases ct with
       |none=>simp only[G6,Option.some.injEq] at hj;subst hj;trivial
       |some c0=>
        refine Cont.app_bnd hj ?_ trivial
        obtain⟨j,r,_,hr,hr2⟩:=b3 c0 rfl
        have:=hbr r (List.mem_of_getElem? hr)
        rcases hr2 with rfl|rfl<;>exact this
      have hzv:(Cont.u8 (List.replicate m.toNat 0)).vals γ=List.replicate m.toNat (.int .u8 0):=by
       show (List.replicate m.toNat (0:UInt8)).map vU8=_
       rw[List.map_replicate]
       rfl
      refine⟨γ++[.s v'],w',?_,?_,by simp [hgl],_,rfl⟩
      ·have hm:((m.toNat:Nat):Int)=m:=by omega
       have:=hrun ty
       rw[hm] at this
       show (Builtin.append_ #[t,t'] ty #[b.val γ,.int .i64 m]).run P w=_
       rw[this]
       simp [Sv.val,Sc.val,At.val,A5 hS.len]
      ·refine hS'.push (X:=fun n=>(b.val γ).ownBlock=some n) hk (fun n hn=>Q3 hS (b2 n hn)) hbr' ?_ ?_
       ·refine⟨by rw[D9 hl',A5 hl'],?_⟩
        rw[A5 hl',Cont.ext (by rw[hl',hgl];exact hcb),Uu hj,hzv]
        exact ho
       ·intro n hn
        simp only[Res.has,A5 hl'] at hn
        have:=ho.lt n hn
        refine⟨?_,this.2⟩
        rcases hob with h7|h7
        ·rw[h7] at hn;exact .inl hn
        ·rw[h7] at hn;cases hn;exact .inr (Nat.le_refl _)
     ·cases h
    ·cases h
   ·cases h
 ·cases h
theorem Ai6 {t' ty:TypeId} {b x:Sv} (hS:Sat w0 ow γ hp w) (hbr:∀r∈hp,Res.bnd hp.length r) (h:Ly P w0 ow t t' hp b x=some (some (c,v,hp'))) (hc:c):
  ∃γ' w',(Builtin.append_ #[t,t'] ty #[b.val γ,x.val γ]).run P w=.ok (v.val γ') w'∧Sat w0 ow γ' hp' w'∧hp.length < hp'.length∧∃nm,γ'=γ++[nm]:=by
 unfold Ly at h
 split at h
 ·rename_i k
  split at h
  ·rename_i e' c0 e hr hu
   split at h
   ·rename_i hte
    obtain⟨rfl,rfl⟩:=hte
    split at h
    ·rename_i d m hx
     split at h
     ·rename_i c' hj
      simp only[Option.some.injEq,Prod.mk.injEq] at h
      obtain⟨rfl,rfl,rfl⟩:=h
      obtain⟨h1,h2,h3,h4,h5,h6⟩:=hc
      obtain⟨A,cap,B,e1,e2,e3⟩:=Z2 hS hbr hx h1
      obtain⟨z,hz1,hz2⟩:=h5
      obtain⟨i,hi,hsz⟩:=Ev h6 (by omega)
      have hzero:i.zero=some z:=by simpa [hi] using hz1
      have hbz:i.bytes=bz P e':=by simp [bz,hi]
      have hz3:z.cells.size=1:=by rw[←Array.length_toList,hz2 []];rfl
      have hlm:(m.vals γ).length=m.len:=Cont.len_vals m
      obtain⟨_,hown⟩:=hS.holds k _ hr
      rw[←Cont.len_vals (γ:=γ) c0] at h3 h4
      obtain⟨v',w',hrun,ho,hk,hob⟩:=Ahe (P:=P) w t e' (bz P e') hu z hz3 (by rw[hi];simp [hzero,hsz,hbz]) (nmS γ k) (c0.vals γ) hown A m.len cap B (m.vals γ) e2 hlm (Uv hS h2) h4 h3
      have hS':=hS.drop k
      have hgl:(hp.set k .gone).length=hp.length:=List.length_set
      have hbr':∀r∈hp.set k .gone,Res.bnd (hp.set k .gone).length r:=by
       rw[hgl]
       intro r hr
       rcases List.mem_or_eq_of_mem_set hr with hr|rfl
       ·exact hbr r hr
       ·trivial
      have hl':γ.length=(hp.set k .gone).length:=hS'.len
      have hcb:c'.bnd hp.length:=Cont.app_bnd hj (hbr _ (List.mem_of_getElem? hr)) e3
      refine⟨γ++[.s v'],w',?_,?_,by simp,_,rfl⟩
      ·rw[e1]
       show (Builtin.append_ #[t,t] ty #[nmS γ k,.slice A m.len cap]).run P w=_
       rw[hrun]
       simp [Sv.val,Sc.val,At.val,A5 hS.len]
      ·refine hS'.push (X:=fun n=>(nmS γ k).ownBlock=some n) hk (fun n hn=>?_) hbr' ?_ ?_
       ·have:=Q3 (k:=some k) hS (n:=n) ⟨k,_,rfl,hr,hn⟩
        exact this
       ·refine⟨by rw[D9 hl',A5 hl'],?_⟩
        rw[A5 hl',Cont.ext (by rw[hl',hgl];exact hcb),Cont.app_vals hj]
        exact ho
       ·intro n hn
        simp only[Res.has,A5 hl'] at hn
        have:=ho.lt n hn
        refine⟨?_,this⟩
        rcases hob with h7|h7
        ·rw[h7] at hn;exact .inl hn
        ·rw[h7] at hn;cases hn;exact .inr (Nat.le_refl _)
     ·cases h
    ·cases h
   ·cases h
  ·cases h
 ·cases h
theorem Ai7 {t':TypeId} {b x:Sv} (h:Ly P w0 ow t t' hp b x=some (some (c,v,hp'))):hp.length < hp'.length:=by
 unfold Ly at h
 split at h
 ·split at h
  ·split at h
   ·split at h
    ·split at h
     ·simp only[Option.some.injEq,Prod.mk.injEq] at h
      rw[←h.2.2]
      simp
     ·cases h
    ·cases h
   ·cases h
  ·cases h
 ·cases h
theorem Ai8 {src dst:TypeId} {a:Sv} (hS:Sat w0 ow γ hp w) (hbr:hp.length < hp'.length→∀r∈hp,Res.bnd hp.length r) (h:Lw P src dst hp a=some (some (c,v,hp'))) (hc:c):
  ∃γ' w',(convert src dst (a.val γ)).run P w=.ok (v.val γ') w'∧Sat w0 ow γ' hp' w'∧hp.length < hp'.length∧∃nm,γ'=γ++[nm]:=by
 unfold Lw at h
 split at h
 ·rename_i s
  split at h
  ·rename_i u e hu hd
   split at h
   ·rename_i he
    simp only[Option.some.injEq,Prod.mk.injEq] at h
    obtain⟨rfl,rfl,rfl⟩:=h
    have hbr:=hbr (by simp)
    obtain⟨v',w',hrun,ho,hk,hob⟩:=Ahf (P:=P) w src dst e s hu hd he hc
    refine⟨γ++[.s v'],w',?_,?_,by simp,_,rfl⟩
    ·show (convert src dst (.string s)).run P w=_
     rw[hrun]
     simp [Sv.val,Sc.val,At.val,A5 hS.len]
    ·refine hS.push (X:=fun _=>False) hk (fun n hn=>hn.elim) hbr ⟨by rw[D9 hS.len,A5 hS.len],?_⟩ ?_
     ·rw[A5 hS.len]
      exact ho
     ·intro n hn
      simp only[Res.has,A5 hS.len] at hn
      have:=ho.lt n hn
      rw[hob] at hn
      cases hn
      exact⟨.inr (Nat.le_refl _),this⟩
   ·cases h
  ·cases h
 ·cases h
theorem Z3 {src dst:TypeId} {a:Sv} (h:Lw P src dst hp a=some (some (c,v,hp'))):hp.length < hp'.length:=by
 unfold Lw at h
 split at h
 ·split at h
  ·split at h
   ·simp only[Option.some.injEq,Prod.mk.injEq] at h
    rw[←h.2.2]
    simp
   ·cases h
  ·cases h
 ·cases h
theorem Ai9 {d:Option TypeDesc} {n:Nat} {k:Cont} (h:Qf d n=some k):k.vals γ=List.replicate n (Du.zero1 d)∧k.len=n∧∀m,k.bnd m:=by
 unfold Qf at h
 split at h<;>first|(cases h;done)|(simp only[Option.some.injEq] at h;subst h;exact⟨by simp only[Cont.vals,List.map_replicate];rfl,by simp [Cont.len],fun _=>trivial⟩)
theorem Aja {a b:Sv} (hS:Sat w0 ow γ hp w) (hbr:hp.length < hp'.length→∀r∈hp,Res.bnd hp.length r) (h:mkS P t hp a b=some (c,v,hp')) (hc:c):
  ∃γ' w',(Instr.makeSlice t (a.val γ) (b.val γ)).run P w=.ok (v.val γ') w'∧Sat w0 ow γ' hp' w'∧hp.length < hp'.length∧∃nm,γ'=γ++[nm]:=by
 unfold mkS at h
 split at h
 ·rename_i kl l kc m
  split at h
  ·rename_i e hu
   split at h
   ·rename_i z hzn
    simp only[Option.some.injEq,Prod.mk.injEq] at h
    obtain⟨rfl,rfl,rfl⟩:=h
    have hbr:=hbr (by simp)
    obtain⟨h1,h2,h3,h4,⟨z0,hz1,hz2⟩,h6⟩:=hc
    obtain⟨i,hi,hsz⟩:=Ev h6 (by omega)
    have hzero:i.zero=some z0:=by simpa [hi] using hz1
    have hbz:i.bytes=bz P e:=by simp [bz,hi]
    obtain⟨zv,zl,zb⟩:=Ai9 (γ:=γ) hzn
    have hz3:z0.cells=#[Du.zero1 (P.underlying e)]:=by
     have:=hz2 []
     exact Array.ext' this
    have hrun:=run_make (P:=P) w t e i z0 hu hi hzero kl kc l m h1 h2 (by rw[hbz];exact h3) h4
    rw[hsz,Nat.mul_one,hz3] at hrun
    have hcells:(madeCells #[Du.zero1 (P.underlying e)] m.toNat).toList=List.replicate m.toNat (Du.zero1 (P.underlying e)):=toList_madeCells_one _ _
    have hcs:(madeCells #[Du.zero1 (P.underlying e)] m.toNat).size=m.toNat:=by rw[←Array.length_toList,hcells,List.length_replicate]
    have hsat:=hS.push (X:=fun _=>False) (nm:=.s (.slice (some ⟨w.heap.size,0,none⟩) l.toNat m.toNat)) (r:=.own e z) (w':=w.alloc (.cells (madeCells #[Du.zero1 (P.underlying e)] m.toNat) e)) (Keeps.of_below (own:=fun _=>False) ((Below.refl _ _).alloc (Nat.le_refl _) _)) (fun n hn=>hn.elim) hbr
     ⟨by rw[D9 hS.len,A5 hS.len],by
      rw[A5 hS.len,Cont.ext (by rw[hS.len];exact zb _),zv]
      refine⟨by simp,.inr ⟨w.heap.size,m.toNat,_,by simp,Nat.zero_le _,heap_alloc_new w _,by simp;omega,by unfold maxLen;omega,by rw[hcs,Nat.mul_one],?_⟩⟩
      rw[hcells]
      simp only[List.length_replicate,Nat.mul_one,List.take_replicate]
      congr 1
      omega⟩
     (fun n hn=>by
      simp only[Res.has,A5 hS.len,Value.ownBlock,Option.some.injEq] at hn
      subst hn
      exact⟨.inr (Nat.le_refl _),by simp⟩)
    refine⟨_,_,?_,hsat,by simp,_,rfl⟩
    show (Instr.makeSlice t (.int kl l) (.int kc m)).run P w=_
    rw[hrun]
    simp [Sv.val,Sc.val,At.val,A5 hS.len]
   ·split at h
    ·rename_i z hzn
     simp only[Option.some.injEq,Prod.mk.injEq] at h
     obtain⟨rfl,rfl,rfl⟩:=h
     have hbr:=hbr (by simp)
     obtain⟨rfl,h2,h3,h4,⟨z0,hz1,hz2⟩,h6⟩:=hc
     obtain⟨i,hi,hsz⟩:=Ev (n:=sz P e) rfl (by omega)
     have hzero:i.zero=some z0:=by simpa [hi] using hz1
     have hbz:i.bytes=bz P e:=by simp [bz,hi]
     have hrun:=run_make (P:=P) w t e i z0 hu hi hzero kl kc 0 m (Int.le_refl 0) h2 (by rw[hbz];exact h3) h4
     rw[hsz] at hrun
     have hcs:=size_madeCells z0.cells (m.toNat*sz P e)
     have hsat:=hS.push (X:=fun _=>False) (nm:=.s (.slice (some ⟨w.heap.size,0,none⟩) 0 m.toNat)) (r:=.onn e (sz P e) (.c [])) (w':=w.alloc (.cells (madeCells z0.cells (m.toNat*sz P e)) e)) (Keeps.of_below (own:=fun _=>False) ((Below.refl _ _).alloc (Nat.le_refl _) _)) (fun n hn=>hn.elim) hbr
      ⟨by rw[D9 hS.len,A5 hS.len],h6,0,by
       rw[A5 hS.len]
       refine⟨by simp [Cont.vals],.inr ⟨w.heap.size,m.toNat,_,by simp,Nat.zero_le _,heap_alloc_new w _,by omega,by unfold maxLen;omega,hcs,by simp [Cont.vals]⟩⟩⟩
      (fun n hn=>by
       simp only[Res.has,A5 hS.len,Value.ownBlock,Option.some.injEq] at hn
       subst hn
       exact⟨.inr (Nat.le_refl _),by simp⟩)
     refine⟨_,_,?_,hsat,by simp,_,rfl⟩
     show (Instr.makeSlice t (.int kl 0) (.int kc m)).run P w=_
     rw[hrun]
     simp [Sv.val,Sc.val,At.val,A5 hS.len]
    ·cases h
  ·cases h
 ·cases h
theorem Ajb {a b:Sv} (h:mkS P t hp a b=some (c,v,hp')):hp.length < hp'.length:=by
 unfold mkS at h
 split at h
 ·split at h
  ·split at h
   ·simp only[Option.some.injEq,Prod.mk.injEq] at h
    rw[←h.2.2]
    simp
   ·split at h
    ·simp only[Option.some.injEq,Prod.mk.injEq] at h
     rw[←h.2.2]
     simp
    ·cases h
  ·cases h
 ·cases h
theorem Ajc {a:Sv} (hS:Sat w0 ow γ hp w) (hbr:hp.length < hp'.length→∀r∈hp,Res.bnd hp.length r) (h:Lz P t hp a=some (c,v,hp')):
  ∃γ' w',(Instr.range t (a.val γ)).run P w=.ok (v.val γ') w'∧Sat w0 ow γ' hp' w'∧hp.length < hp'.length∧∃nm,γ'=γ++[nm]:=by
 unfold Lz at h
 split at h
 ·rename_i s
  split at h
  ·rename_i hu
   simp only[Option.some.injEq,Prod.mk.injEq] at h
   obtain⟨rfl,rfl,rfl⟩:=h
   have hbr:=hbr (by simp)
   have hsat:=hS.push (X:=fun _=>False) (nm:=.b w.heap.size) (r:=.it s 0) (w':=w.iter s 0) (Keeps.of_below (own:=fun _=>False) ((Below.refl _ _).alloc (Nat.le_refl _) _)) (fun n hn=>hn.elim) hbr
    ⟨by rw[D9 hS.len,Hp hS.len],by rw[Hp hS.len];exact World.iter_heap w s 0⟩
    (fun n hn=>by
     simp only[Res.has,Hp hS.len,Option.some.injEq] at hn
     subst hn
     exact⟨.inr (Nat.le_refl _),by simp [World.iter]⟩)
   refine⟨_,_,?_,hsat,by simp,_,rfl⟩
   show (Instr.range t (.string s)).run P w=_
   rw[run_range_string w t s hu]
   simp [Sv.val,Sc.val,At.val,Hp hS.len]
  ·cases h
 ·cases h
theorem Ajd {a:Sv} (h:Lz P t hp a=some (c,v,hp')):hp.length < hp'.length:=by
 unfold Lz at h
 split at h
 ·split at h
  ·simp only[Option.some.injEq,Prod.mk.injEq] at h
   rw[←h.2.2]
   simp
  ·cases h
 ·cases h
theorem Aje (w:World) (k:Nat) (s:ByteArray) (pos:Nat):Keeps (·=k) w (w.iterAt k s pos):=
 ⟨rfl,rfl,rfl,by rw[Lib.iterAt_size];exact Nat.le_refl _,fun i _ hn=>Lib.iterAt_other w k i s pos hn⟩
theorem Ajf {a:Sv} {ty:TypeId} (hS:Sat w0 ow γ hp w) (h:Qg hp a=some (c,v,hp')):
  ∃w',(Instr.next (a.val γ) true ty).run P w=.ok (v.val γ) w'∧Sat w0 ow γ hp' w':=by
 unfold Qg at h
 split at h
 ·rename_i k
  split at h
  ·rename_i s pos hr
   obtain⟨h1,h2⟩:=hS.holds k _ hr
   split at h
   ·rename_i hlt
    simp only[Option.some.injEq,Prod.mk.injEq] at h
    obtain⟨rfl,rfl,rfl⟩:=h
    refine⟨_,Lib.run_next_any_at (P:=P) w (nmB γ k) s pos ty h2 hlt,hS.update hr rfl (Aje _ _ _ _) ⟨h1,Lib.iterAt_heap w _ s pos _ h2⟩ (.inl rfl)⟩
   ·rename_i hlt
    simp only[Option.some.injEq,Prod.mk.injEq] at h
    obtain⟨rfl,rfl,rfl⟩:=h
    exact⟨w,Lib.run_next_end_at (P:=P) w (nmB γ k) s pos ty h2 hlt,hS⟩
  ·cases h
 ·cases h
theorem Q4 {mn:Bool} {a b:Sv} (h:mmS mn hp a b=some (c,v,hp')):hp'=hp∧(if mn=true then Builtin.min2 (a.val γ) (b.val γ) else Builtin.max2 (a.val γ) (b.val γ)).run P w=.ok (v.val γ) w:=by
 unfold mmS at h
 split at h
 ·rename_i x y
  obtain⟨rfl,rfl,rfl⟩:=Dw h
  refine⟨rfl,?_⟩
  cases mn
  ·show (Builtin.max2 (.int .i64 x) (.int .i64 y)).run P w=.ok (.int .i64 (if x < y then y else x)) w
   simp [Builtin.max2]
  ·show (Builtin.min2 (.int .i64 x) (.int .i64 y)).run P w=.ok (.int .i64 (if y < x then y else x)) w
   simp [Builtin.min2]
 ·cases h
theorem Z4 {k:Option Nat}:(Cb hp k).length=hp.length:=by cases k<;>simp [Cb]
theorem Ajg {e:TypeId} {m:Nat} {b:Sv} {k:Option Nat} {ct:Option Cont} (hm:0 < m) (hS:Sat w0 ow γ hp w) (h:Il hp e m b=some (k,ct)):
  (∃n,Dy ct=n*m∧w.ownsRow 0 e m (b.val γ) n (Fg γ ct))∧(∀n,(b.val γ).ownBlock=some n→∃j r,k=some j∧hp[j]?=some r∧r.has γ j n)∧∀c0,ct=some c0→∃j:Nat,hp[j]?=some (.onn e m c0):=by
 unfold Il at h
 split at h
 ·rename_i n cp
  split at h
  ·rename_i hz
   obtain⟨rfl,rfl⟩:=hz
   cases h
   refine⟨⟨0,by simp [Dy],World.ownsRow_nil w 0 e m⟩,?_,?_⟩
   ·intro n hn;cases hn
   ·intro c0 h;cases h
  ·cases h
 ·rename_i j
  split at h
  ·rename_i e' m' cc hr
   split at h
   ·rename_i he
    obtain⟨rfl,rfl⟩:=he
    cases h
    obtain⟨hm',n,hrow⟩:=(hS.holds _ _ hr).2
    have hl:=hrow.1
    rw[Cont.len_vals] at hl
    exact⟨⟨n,hl,hrow⟩,fun n' hn=>⟨j,_,rfl,hr,hn⟩,fun c0 h=>by cases h;exact⟨j,hr⟩⟩
   ·cases h
  ·cases h
 ·cases h
theorem Cont.part_len {c c':Cont} {off n:Nat} (h:c.part off n=some c') (hl:off+n≤c.len):c'.len=n:=by
 cases c<;>simp only[Cont.part,Option.some.injEq] at h<;>subst h<;>simp only[Cont.len] at hl ⊢<;>rw[List.length_take,List.length_drop]<;>omega
theorem Cont.part_bnd {c c':Cont} {off n N:Nat} (h:c.part off n=some c') (hb:c.bnd N):c'.bnd N:=by
 cases c<;>simp only[Cont.part,Option.some.injEq] at h<;>subst h<;>first|trivial|exact fun x hx=>hb x (List.mem_of_mem_drop (List.mem_of_mem_take hx))
theorem Nq {ty e:TypeId} {m nd:Nat} {k:Option Nat} {ct:Option Cont} {z q c':Cont} {b:Sv} (hS:Sat w0 ow γ hp w) (hbr:∀r∈hp,Res.bnd hp.length r) (hu:P.underlying t=some (.slice e)) (hm:0 < m) (hb:Il hp e m b=some (k,ct)) (hj:G6 ct q=some c') (xv:Value)
  (hx:(∃a cp,xv=.slice (some a) nd cp∧∀j u,(q.vals γ)[j]?=some u→w.cell? (a.add j)=some u)∨(xv=.slice none 0 0∧nd=0)) (hlen:q.len=nd*m) (h1:q.plain hp) (h3:sz P e=m) (h4:z.len=m) (h5:ZOk P e z) (h6:(Dy ct / m+nd)*bz P e≤140737488355328) (h7:Dy ct / m+nd≤maxLen) (hdb:q.bnd hp.length):
  ∃γ' w',(Builtin.append_ #[t,t] ty #[b.val γ,xv]).run P w=.ok ((Sv.x (.a (.o hp.length))).val γ') w'∧Sat w0 ow γ' (Cb hp k++[Res.onn e m c']) w'∧hp.length < (Cb hp k++[Res.onn e m c']).length∧∃nm,γ'=γ++[nm]:=by
 obtain⟨⟨nb,hnb,hbrow⟩,b2,b3⟩:=Ajg hm hS hb
 have hnb':Dy ct / m=nb:=by rw[hnb,Nat.mul_div_cancel _ hm]
 rw[hnb'] at h6 h7
 obtain⟨zv,hz1,hz2⟩:=h5
 obtain⟨i,hi,hsz⟩:=Ev h3 (by omega)
 have hzero:i.zero=some zv:=by simpa [hi] using hz1
 have hbz:i.bytes=bz P e:=by simp [bz,hi]
 have hz3:zv.cells.size=m:=by rw[←Array.length_toList,hz2 [],Cont.len_vals];exact h4
 obtain⟨v',w',hrun,ho,hk,hob⟩:∃v' w',(Builtin.append_ #[t,t] ty #[b.val γ,xv]).run P w=.ok v' w'∧w'.ownsRow 0 e m v' (nb+nd) (Fg γ ct++q.vals γ)∧Keeps (fun n=>some n=(b.val γ).ownBlock) w w'∧(v'.ownBlock=(b.val γ).ownBlock∨v'.ownBlock=some w.heap.size):=by
  rcases hx with ⟨a,cp,rfl,hcell⟩|⟨rfl,rfl⟩
  ·obtain⟨v',w',hrun,ho,hgr,_,hob⟩:=run_append_own_at (P:=P) w 0 t ty e i zv m (bz P e) hu hi hzero hsz hbz hz3 hm (b.val γ) nb (Fg γ ct) hbrow a nd cp (q.vals γ) (by rw[Cont.len_vals];exact hlen) hcell (Uv hS h1) h7 h6 (Nat.zero_le _)
   exact⟨v',w',hrun,ho,X5 hgr,hob⟩
  ·have h0:q.vals γ=[]:=List.eq_nil_of_length_eq_zero (by rw[Cont.len_vals,hlen,Nat.zero_mul])
   refine⟨b.val γ,w,run_append_owned_none (P:=P) w 0 t ty e i m hu hi (b.val γ) nb (Fg γ ct) hbrow,?_,Keeps.refl _ _,.inl rfl⟩
   rw[h0,List.append_nil]
   exact hbrow
 have hgl:(Cb hp k).length=hp.length:=by cases k<;>simp [Cb]
 have hS':Sat w0 ow γ (Cb hp k) w:=by
  cases k with
  |none=>exact hS
  |some k=>exact hS.drop k
 have hbr':∀r∈Cb hp k,Res.bnd (Cb hp k).length r:=by
  rw[hgl]
  intro r hr
  cases k with
  |none=>exact hbr r hr
  |some k=>
   rcases List.mem_or_eq_of_mem_set hr with hr|rfl
   ·exact hbr r hr
   ·trivial
 have hl':γ.length=(Cb hp k).length:=hS'.len
 have hcb:c'.bnd hp.length:=by
  cases ct with
  |none=>simp only[G6,Option.some.injEq] at hj;subst hj;exact hdb
  |some c0=>
   obtain⟨j',hr'⟩:=b3 c0 rfl
   exact Cont.app_bnd hj (hbr _ (List.mem_of_getElem? hr')) hdb
 refine⟨γ++[.s v'],w',?_,?_,by simp [hgl],_,rfl⟩
 ·rw[hrun]
  simp [Sv.val,Sc.val,At.val,A5 hS.len]
 ·refine hS'.push (X:=fun n=>(b.val γ).ownBlock=some n) (hk.mono fun k h=>h.symm) (fun n hn=>Q3 hS (b2 n hn)) hbr' ?_ ?_
  ·refine⟨by rw[D9 hl',A5 hl'],hm,nb+nd,?_⟩
   rw[A5 hl',Cont.ext (by rw[hl',hgl];exact hcb),Uu hj]
   exact ho
  ·intro n hn
   simp only[Res.has,A5 hl'] at hn
   have hlt:=World.ownsRow.lt ho n hn
   refine⟨?_,hlt.2⟩
   rcases hob with h8|h8
   ·rw[h8] at hn;exact .inl hn
   ·rw[h8] at hn;cases hn;exact .inr (Nat.le_refl _)
theorem Ajh {t' ty:TypeId} {b x:Sv} (hS:Sat w0 ow γ hp w) (hbr:∀r∈hp,Res.bnd hp.length r) (h:L1 P t t' hp b x=some (some (c,v,hp'))) (hc:c):
  ∃γ' w',(Builtin.append_ #[t,t'] ty #[b.val γ,x.val γ]).run P w=.ok (v.val γ') w'∧Sat w0 ow γ' hp' w'∧hp.length < hp'.length∧∃nm,γ'=γ++[nm]:=by
 unfold L1 at h
 split at h
 ·rename_i e j hu
  split at h
  ·rename_i e' m d hr
   split at h
   ·rename_i ht
    obtain⟨rfl,rfl⟩:=ht
    split at h
    ·rename_i k ct z hb hz
     split at h
     ·rename_i c' hj
      simp only[Option.some.injEq,Prod.mk.injEq] at h
      obtain⟨rfl,rfl,rfl⟩:=h
      obtain⟨h1,h2,h3,h4,h5,h6,h7⟩:=hc
      obtain⟨hm,nd,hrow⟩:=(hS.holds _ _ hr).2
      obtain⟨A,nd',cp,hv,hlen,_,_,hrd,_,hg⟩:=OwnN.rd ⟨hm,nd,hrow⟩
      rw[Cont.len_vals] at hlen
      have hnd:d.len / m=nd':=by rw[hlen,Nat.mul_div_cancel _ hm]
      rw[hnd] at h6 h7
      have hpos:0 < nd':=by
       rcases Nat.eq_zero_or_pos nd' with h0|h0
       ·rw[h0,Nat.zero_mul] at hlen;omega
       ·exact h0
      obtain⟨g,rfl⟩:=hg hpos
      obtain⟨b',off,hbb,_,hcell⟩:=hrd (by rw[Cont.len_vals];exact h2)
      cases hbb
      refine Nq hS hbr hu hm hb hj (nmS γ j) (.inl ⟨⟨g,0,none⟩,cp,hv,fun q u hq=>by rw[Bu];exact hcell q u hq⟩) hlen h1 h3 h4 h5 h6 h7 (hbr _ (List.mem_of_getElem? hr))
     ·cases h
    ·cases h
   ·cases h
  ·cases h
 ·rename_i e j m l n hu
  split at h
  ·rename_i e' m' d hr
   split at h
   ·rename_i ht
    obtain⟨⟨rfl,rfl⟩,rfl⟩:=ht
    split at h
    ·rename_i k ct z q hb hz hq
     split at h
     ·rename_i c' hj
      simp only[Option.some.injEq,Prod.mk.injEq] at h
      obtain⟨rfl,rfl,rfl⟩:=h
      obtain⟨h1,h2,h3,h4,h5,h6,h7⟩:=hc
      obtain⟨hm,nd,hrow⟩:=(hS.holds _ _ hr).2
      obtain⟨A,nd',cp,hv,hlen,hncp,_,hrd,hsp,hg⟩:=OwnN.rd ⟨hm,nd,hrow⟩
      rw[Cont.len_vals] at hlen
      have hln:l+n≤nd':=by
       rw[hlen] at h2
       exact Nat.le_of_mul_le_mul_right h2 hm
      have hql:=Cont.part_len hq (by rw[←Nat.add_mul];exact h2)
      have hqv:=Cont.part_vals (γ:=γ) hq
      have hdb:d.bnd hp.length:=hbr _ (List.mem_of_getElem? hr)
      have hxv:(Sv.x (.a (.y j m' l n))).val γ=.slice (if cp=l then A else Af A (l*m')) n (cp - l):=by simp [Sv.val,Sc.val,At.val,hv]
      rw[hxv]
      refine Nq hS hbr hu hm hb hj _ ?_ hql h1 h3 h4 h5 h6 h7 (Cont.part_bnd hq hdb)
      cases A with
      |none=>
       have h0:nd'=0:=by
        rcases Nat.eq_zero_or_pos nd' with h0|h0
        ·exact h0
        ·obtain⟨g,hg⟩:=hg h0
         cases hg
       have hcp:cp=0:=by
        rcases hrow.2 with ⟨e1,_⟩|⟨g,cap,cur,e1,_⟩
        ·rw[hv] at e1;cases e1;rfl
        ·rw[hv] at e1;cases e1
       refine .inr ⟨?_,by omega⟩
       have hl0:l=0:=by omega
       have hn0:n=0:=by omega
       subst hcp hl0 hn0
       rfl
      |some a=>
       obtain⟨s1,s2,_⟩:=hsp a rfl
       refine .inl ?_
       by_cases hcl:cp=l
       ·have hn0:n=0:=by omega
        refine⟨a,cp - l,by rw[if_pos hcl],fun i u hi=>?_⟩
        have:=(List.getElem?_eq_some_iff.1 hi).1
        rw[Cont.len_vals,hql,hn0,Nat.zero_mul] at this
        omega
       ·refine⟨a.add (l*m'),cp - l,by rw[if_neg hcl];rfl,fun i u hi=>?_⟩
        have hi':=(List.getElem?_eq_some_iff.1 hi).1
        rw[Cont.len_vals,hql] at hi'
        rw[hqv,List.getElem?_take] at hi
        rw[if_pos hi',List.getElem?_drop] at hi
        obtain⟨b',off,hbb,_,hcell⟩:=hrd (by
         have:=(List.getElem?_eq_some_iff.1 hi).1
         omega)
        cases hbb
        rw[Bu,Bu,Nat.add_assoc]
        exact hcell _ u hi
     ·cases h
    ·cases h
   ·cases h
  ·cases h
 ·cases h
theorem Aji {t':TypeId} {b x:Sv} (h:L1 P t t' hp b x=some (some (c,v,hp'))):hp.length < hp'.length:=by
 unfold L1 at h
 repeat' (first|(split at h)|(cases h;done))
 all_goals first
  |(cases h;done)
  |(simp only[Option.some.injEq,Prod.mk.injEq] at h
    obtain⟨_,_,rfl⟩:=h
    have:∀k:Option Nat,(Cb hp k).length=hp.length:=fun k=>by cases k<;>simp [Cb]
    simp [this])
theorem Ajj {t':TypeId} {b x:Sv} (h:Du P w0 ow t t' hp b x=some (c,v,hp')):hp.length < hp'.length:=by
 unfold Du at h
 split at h
 ·split at h
  ·split at h
   ·split at h
    ·simp only[Option.some.injEq,Prod.mk.injEq] at h
     rw[←h.2.2]
     simp [Z4]
    ·cases h
   ·cases h
  ·split at h
   ·split at h
    ·split at h
     ·simp only[Option.some.injEq,Prod.mk.injEq] at h
      rw[←h.2.2]
      simp [Z4]
     ·cases h
    ·cases h
   ·cases h
 ·cases h
end
end
section
section
variable {P:Program} {w0 w:World} {ow:Nat→Prop} {γ:List Nm} {hp hp':List Res} {c:Prop} {v:Sv} {t:TypeId}
theorem Uw {t:TypeId} {s:Sc} (h:L2 P t s):(zeroValue t).run P w=.ok (s.val γ) w:=by
 obtain⟨z,h1,h2⟩:=h
 rw[h2 γ]
 cases hi:P.info? t with
 |none=>rw[hi] at h1;cases h1
 |some i=>
  rw[hi] at h1
  have h1:i.zero=some z:=Option.some.inj h1
  simp [zeroValue,typeInfo,hi,h1]
theorem Ux {q:IntKind} {i:Int}:∀{es:List MapEntry} {l:List (Int×Sc)} (j:Nat),es.map (fun e=>(e.key,e.val))=mpE γ q l→
  (Co l i=none∧Instr.findNow (.int q) (.int q i) es j=some none)∨∃x m,Co l i=some x∧m < es.length∧Instr.findNow (.int q) (.int q i) es j=some (some (j+m,x.val γ))∧
   (∃e,es[m]?=some e∧e.key=.int q i)∧∀y:Sc,(es.modify m fun e=>{e with key:=.int q i,val:=y.val γ}).map (fun e=>(e.key,e.val))=mpE γ q (C3 l i y)
 |[],l,j,h=>by
  cases l with
  |nil=>exact .inl ⟨rfl,rfl⟩
  |cons p l=>simp [mpE] at h
 |e::es,l,j,h=>by
  cases l with
  |nil=>simp [mpE] at h
  |cons p l=>
   simp only[mpE,List.map_cons,List.cons.injEq,Prod.mk.injEq] at h
   obtain⟨⟨h1,h2⟩,h3⟩:=h
   by_cases hp:p.1=i
   ·refine .inr ⟨p.2,0,by simp [Co,hp],by simp,?_,⟨e,rfl,by rw[h1,hp]⟩,fun y=>?_⟩
    ·simp [Instr.findNow,Instr.sameNow,h1,h2,hp]
    ·simp only[C3,hp,if_true,List.modify_zero_cons,List.map_cons,mpE]
     rw[h3]
   ·have hs:Instr.sameNow (.int q) (.int q i) e.key=some false:=by
     rw[h1]
     simp only[Instr.sameNow,if_true,Option.some.injEq,beq_eq_false_iff_ne]
     exact fun e=>hp e.symm
    have hf:Instr.findNow (.int q) (.int q i) (e::es) j=Instr.findNow (.int q) (.int q i) es (j+1):=by
     simp only[Instr.findNow,hs]
    rcases Ux (j+1) h3 with ⟨h4,h5⟩|⟨x,m,h4,h5,h6,⟨e',h7,h8⟩,h9⟩
    ·exact .inl ⟨by simp only[Co,if_neg hp,h4],hf.trans h5⟩
    ·refine .inr ⟨x,m+1,by simp only[Co,if_neg hp,h4],by simp;omega,?_,⟨e',by simpa using h7,h8⟩,fun y=>?_⟩
     ·rw[hf,h6,Nat.add_assoc,Nat.add_comm 1 m]
     ·simp only[C3,if_neg hp,List.modify_succ_cons,List.map_cons,mpE]
      rw[h9 y,h1,h2]
      rfl
theorem Z5 {q:IntKind} {i:Int}:∀{es:List MapEntry} (j:Nat),(∀e∈es,∃n,e.key=.int q n)→
  (Hn (es.map fun e=>(e.key,e.val)) i=none∧Instr.findNow (.int q) (.int q i) es j=some none)∨∃x m,Hn (es.map fun e=>(e.key,e.val)) i=some x∧Instr.findNow (.int q) (.int q i) es j=some (some (m,x))
 |[],j,_=>.inl ⟨rfl,rfl⟩
 |e::es,j,h=>by
  obtain⟨n,hn⟩:=h e (List.mem_cons_self ..)
  by_cases hp:n=i
  ·refine .inr ⟨e.val,j,?_,?_⟩
   ·simp only[List.map_cons,Hn,hn,hp,if_true]
   ·simp [Instr.findNow,Instr.sameNow,hn,hp]
  ·have hs:Instr.sameNow (.int q) (.int q i) e.key=some false:=by
    rw[hn]
    simp only[Instr.sameNow,if_true,Option.some.injEq,beq_eq_false_iff_ne]
    exact fun e=>hp e.symm
   have hf:Instr.findNow (.int q) (.int q i) (e::es) j=Instr.findNow (.int q) (.int q i) es (j+1):=by
    simp only[Instr.findNow,hs]
   have hl:Hn ((e::es).map fun e=>(e.key,e.val)) i=Hn (es.map fun e=>(e.key,e.val)) i:=by
    simp only[List.map_cons,Hn,hn]
    rw[if_neg hp]
   rcases Z5 (j+1) fun e' he'=>h e' (List.mem_cons_of_mem _ he') with ⟨h4,h5⟩|⟨x,m,h4,h5⟩
   ·exact .inl ⟨hl.trans h4,hf.trans h5⟩
   ·exact .inr ⟨x,m,hl.trans h4,hf.trans h5⟩
theorem Ajk {l:List (Int×Sc)} {i:Int} {y:Sc} (h:Co l i=none):C3 l i y=l++[(i,y)]:=by
 induction l with
 |nil=>rfl
 |cons p l ih=>
  by_cases hp:p.1=i
  ·simp [Co,hp] at h
  ·simp only[Co,if_neg hp] at h
   simp only[C3,if_neg hp,ih h,List.cons_append]
theorem Q5 {t:TypeId} {q:IntKind} (ht:P.underlying t=some (.int q)) (b:Bool) (x:Value):(Instr.checkKey b 10000 t x).run P w=.ok () w:=by
 unfold Instr.checkKey
 rw[Sem.run_bind,run_underlying ht,Result.andThen_ok]
 rfl
theorem Ko {t:TypeId} {q:IntKind} {x:Value} {es:List MapEntry} {r:Option (Nat×Value)} (ht:P.underlying t=some (.int q)) (h:Instr.findNow (.int q) x es 0=some r):(Instr.findKey t x es).run P w=.ok r w:=by
 unfold Instr.findKey
 rw[Sem.run_bind,run_underlying ht,Result.andThen_ok]
 simp only[h]
 rfl
theorem Z6 {t:TypeId} {ok:Bool} {a b:Sv} (hS:Sat w0 ow γ hp w) (h:Qr P w0 ow t ok hp a b=some (c,v,hp')) (hc:c):hp'=hp∧(Instr.lookup t (a.val γ) (b.val γ) ok).run P w=.ok (v.val γ) w:=by
 unfold Qr at h
 split at h
 ·rename_i k q i
  split at h
  ·rename_i q' l kt et hr hu
   split at h
   ·rename_i q2 z hk hz
    simp only[Option.some.injEq,Prod.mk.injEq] at h
    obtain⟨rfl,rfl,rfl⟩:=h
    obtain⟨rfl,rfl,hzv⟩:=hc
    obtain⟨_,g,es,h1,h2,_,h3⟩:=hS.holds _ _ hr
    refine⟨rfl,?_⟩
    unfold Instr.lookup
    rw[Sem.run_bind,run_underlying hu,Result.andThen_ok]
    simp only[Sv.val,Sc.val,At.val,h1]
    simp only[Sem.run_bind,Qy h2,Result.andThen_ok,Sem.run_pure,Q5 hk]
    rcases Ux (γ:=γ) (i:=i) 0 h3 with ⟨h4,h5⟩|⟨x,m,h4,_,h6,_,_⟩
    ·simp only[Ko hk h5,Result.andThen_ok,Sem.run_bind,Uw (γ:=γ) hzv,Sem.run_pure,h4,Nf]
     cases ok<;>rfl
    ·simp only[Ko hk h6,Result.andThen_ok,Sem.run_bind,Sem.run_pure,h4,Nf]
     cases ok<;>rfl
   ·cases h
  ·cases h
 ·rename_i x q i
  split at h
  ·rename_i kt et hu
   split at h
   ·rename_i q2 z hk hz
    simp only[Option.some.injEq,Prod.mk.injEq] at h
    obtain⟨rfl,rfl,rfl⟩:=h
    obtain⟨rfl,hzv,hraw⟩:=hc
    refine⟨rfl,?_⟩
    unfold Instr.lookup
    rw[Sem.run_bind,run_underlying hu,Result.andThen_ok]
    rcases hraw with rfl|⟨g,es,c',rfl,h2,h3,h4⟩
    ·simp only[Sv.val,Sc.val,At.val]
     have h5:Instr.findNow (.int q2) (.int q2 i) (#[]:Array MapEntry).toList 0=some none:=rfl
     simp only[Sem.run_bind,Result.andThen_ok,Sem.run_pure,Q5 hk,Ko hk h5,Uw (γ:=γ) hzv,Yh,Ng]
     cases ok<;>rfl
    ·have h6:w.heap[g]?=some (.map es c'):=(hS.keeps.block g (J8 h2) h3).trans h2
     have hX:L3 w0 (.map (some g)) i=Hn (es.toList.map fun e=>(e.key,e.val)) i:=by simp only[L3,Ud,h2]
     simp only[Sv.val,Sc.val,At.val]
     simp only[Sem.run_bind,Qy h6,Result.andThen_ok,Sem.run_pure,Q5 hk]
     rcases Z5 (i:=i) 0 h4 with ⟨h7,h8⟩|⟨x,m,h7,h8⟩
     ·simp only[Ko hk h8,Result.andThen_ok,Sem.run_bind,Uw (γ:=γ) hzv,Sem.run_pure,hX,h7,Ng]
      cases ok<;>rfl
     ·simp only[Ko hk h8,Result.andThen_ok,Sem.run_bind,Sem.run_pure,hX,h7,Ng]
      cases ok<;>rfl
   ·cases h
  ·cases h
 ·cases h
theorem Z7 {r:Option Value} (hS:Sat w0 ow γ hp w) (hbr:∀r∈hp,Res.bnd hp.length r) (h:Ke P t hp=some (c,v,hp')) (hr:∀x,r=some x→∃k n,x=.int k n):
  hp.length < hp'.length∧∃γ' w',(Instr.makeMap t r).run P w=.ok (v.val γ') w'∧Sat w0 ow γ' hp' w'∧∃nm,γ'=γ++[nm]:=by
 unfold Ke at h
 split at h
 ·rename_i kt et hu
  split at h
  ·rename_i q hk
   simp only[Option.some.injEq,Prod.mk.injEq] at h
   obtain⟨rfl,rfl,rfl⟩:=h
   have hl:=hS.len
   refine⟨by simp,γ++[.s (.map (some w.heap.size))],w.alloc (.map #[] 0),?_,?_,_,rfl⟩
   ·unfold Instr.makeMap
    cases r with
    |none=>
     simp [Sv.val,Sc.val,At.val,A5 hl,newObj]
     rfl
    |some x=>
     obtain⟨k,n,rfl⟩:=hr x rfl
     simp [Sem.run_bind,run_underlying hu,Sv.val,Sc.val,At.val,A5 hl,newObj,asInt,asIntOf]
     rfl
   ·refine hS.push (X:=fun _=>False) (Keeps.of_below (own:=fun _=>False) ((Below.refl _ _).alloc (Nat.le_refl _) _)) (fun n hn=>hn.elim) hbr ?_ ?_
    ·refine⟨by rw[D9 hl,A5 hl],w.heap.size,#[],by rw[A5 hl],?_,fun i e he=>?_,rfl⟩
     ·show (w.heap.push _)[w.heap.size]?=_
      simp
     ·simp at he
    ·intro b hb
     simp only[Res.has,A5 hl,mapBlock,Option.some.injEq] at hb
     subst hb
     exact⟨.inr (Nat.le_refl _),by show _ < (w.heap.push _).size;simp⟩
  ·cases h
 ·cases h
theorem Z8 {a b x:Sv} (hS:Sat w0 ow γ hp w) (h:Nh P t hp a b x=some (c,v,hp')) (hc:c):
  v=Ci∧∃w',(Instr.mapUpdate t (a.val γ) (b.val γ) (x.val γ)).run P w=.ok () w'∧Sat w0 ow γ hp' w':=by
 unfold Nh at h
 split at h
 ·rename_i k q i s
  split at h
  ·rename_i q' l kt et hr hu
   split at h
   ·rename_i q2 hk
    simp only[Option.some.injEq,Prod.mk.injEq] at h
    obtain⟨rfl,rfl,rfl⟩:=h
    obtain⟨rfl,rfl⟩:=hc
    obtain⟨h0,g,es,h1,h2,hb,h3⟩:=hS.holds _ _ hr
    refine⟨rfl,?_⟩
    have hg:(Res.mp q2 l).has γ k g:=by show mapBlock (nmS γ k)=some g;rw[h1];rfl
    have run:∀es':Array MapEntry,(∀(i:Nat) (e:MapEntry),es'[i]?=some e→e.born=i)→es'.toList.map (fun e=>(e.key,e.val))=mpE γ q2 (C3 l i s)→
      Sat w0 ow γ (hp.set k (.mp q2 (C3 l i s))) (Km w g (.map es' es'.size)):=by
     intro es' h4 h5
     refine hS.update hr hg (Aiy w g _) ⟨h0,g,es',h1,?_,h4,h5⟩ (.inl rfl)
     unfold Km
     simp [J8 h2]
    unfold Instr.mapUpdate
    rw[Sem.run_bind,run_underlying hu,Result.andThen_ok]
    simp only[Sv.val,Sc.val,At.val,h1]
    simp only[Sem.run_bind,Qy h2,Result.andThen_ok,Q5 hk]
    rcases Ux (γ:=γ) (i:=i) 0 h3 with ⟨h4,h5⟩|⟨y,m,h4,h5,h6,⟨e,h7,h8⟩,h9⟩
    ·refine⟨_,?_,run (es.push {key:=.int q2 i,val:=s.val γ,born:=es.size}) ?_ ?_⟩
     ·simp only[Ko hk h5,Result.andThen_ok,Array.size_push]
      exact Zo _ h2
     ·intro j e he
      rw[Array.getElem?_push] at he
      split at he
      ·rename_i hj
       cases he
       exact hj.symm
      ·exact hb j e he
     ·rw[Array.toList_push,List.map_append,h3,Ajk h4]
      simp [mpE]
    ·rw[Nat.zero_add] at h6
     have h7':es[m]?=some e:=by rw[←Array.getElem?_toList];exact h7
     refine⟨_,?_,run (es.modify m fun e=>{e with key:=.int q2 i,val:=s.val γ}) ?_ ?_⟩
     ·simp only[Ko hk h6,Result.andThen_ok,Sem.run_bind,h7',Option.map_some,Option.getD_some,h8,Array.size_modify]
      have hk:(Instr.keyThatStays (.int q2 i) (.int q2 i)).run P w=.ok (.int q2 i) w:=by
       unfold Instr.keyThatStays
       rw[if_pos (by simp [Instr.sameBits])]
       rfl
      simp only[hk,Result.andThen_ok]
      exact Zo _ h2
     ·intro j e' he
      rw[Array.getElem?_modify] at he
      split at he
      ·rename_i hj
       subst hj
       rw[h7'] at he
       cases he
       exact hb m e h7'
      ·exact hb j e' he
     ·rw[Array.toList_modify]
      exact h9 s
   ·cases h
  ·cases h
 ·cases h
def Out (w0:World) (ow:Nat→Prop) (γ:List Nm) (hp:List Res) (r:Result Next) (v:Sv) (hp':List Res):Prop:=
 ∃γ' w',Sat w0 ow γ' hp' w'∧(γ'=γ∨(hp.length < hp'.length∧∃nm,γ'=γ++[nm]))∧(r=.ok (.value (v.val γ')) w'∨(r=.ok .skip w'∧v=Ci))
theorem Out.read {r:Result Next} (hS:Sat w0 ow γ hp w) (h:hp'=hp) (hr:r=.ok (.value (v.val γ)) w):Out w0 ow γ hp r v hp':=by
 subst h
 exact⟨γ,w,hS,.inl rfl,.inl hr⟩
theorem Cm {f:Sv→R} {x:Option Sv} (h:ev1 f x=some (c,v,hp')):∃a,x=some a∧f a=some (c,v,hp'):=by
 cases x with
 |none=>cases h
 |some a=>exact⟨a,rfl,h⟩
theorem Ew {f:Sv→Sv→R} {x y:Option Sv} (h:ev2 f x y=some (c,v,hp')):∃a b,x=some a∧y=some b∧f a b=some (c,v,hp'):=by
 cases x with
 |none=>cases h
 |some a=>cases y with
  |none=>cases h
  |some b=>exact⟨a,b,rfl,rfl,h⟩
theorem Q6 {f:Sv→Sv→Sv→R} {x y z:Option Sv} (h:ev3 f x y z=some (c,v,hp')):∃a b d,x=some a∧y=some b∧z=some d∧f a b d=some (c,v,hp'):=by
 cases x with
 |none=>cases h
 |some a=>cases y with
  |none=>cases h
  |some b=>cases z with
   |none=>cases h
   |some d=>exact⟨a,b,d,rfl,rfl,rfl,h⟩
theorem Bb {s:Sem Value} {x:Value} {w':World} (h:s.run P w=.ok x w'):(do pure (Next.value (←s)):Sem Next).run P w=.ok (.value x) w':=by
 rw[Sem.run_bind,h];rfl
theorem Z9 {ev:Operand→Option Sv} {ρ:Operand→Value} (hev:∀x sv,ev x=some sv→ρ x=sv.val γ):∀{xs:List Operand} {l:List At},Nd ev xs=some l→xs.map ρ=l.map (At.val γ)
 |[],l,h=>by cases h;rfl
 |x::r,l,h=>by
  unfold Nd at h
  split at h
  ·rename_i y l' hx hr
   cases h
   rw[List.map_cons,List.map_cons,Z9 hev hr,hev _ _ hx]
   rfl
  ·cases h
theorem Aaa {ev:Operand→Option Sv} {ρ:Operand→Value} {fn:Fn} {first caps:Array Operand} (hev:∀x sv,ev x=some sv→ρ x=sv.val γ) (h:Qq ev hp fn first.toList caps.toList=some (c,v,hp')):
  hp'=hp∧(Instr.makeFunc fn (first.map ρ) (caps.map ρ)).run P w=.ok (v.val γ) w:=by
 unfold Qq at h
 split at h
 ·rename_i l hf hl
  simp only[Option.some.injEq,Prod.mk.injEq] at h
  obtain⟨rfl,rfl,rfl⟩:=h
  have e1:first=#[]:=Array.ext' hf
  have e2:=Z9 hev hl
  refine⟨rfl,?_⟩
  subst e1
  have e3:caps.map ρ=(l.map (At.val γ)).toArray:=by
   apply Array.ext'
   rw[Array.toList_map,e2]
  unfold Instr.makeFunc
  rw[e3,show (#[]:Array Operand).map ρ=#[] from by simp]
  rfl
 ·cases h
theorem Aab (m:Nat):∀(vs:List (List Value)),(∀u∈vs,u.length=m)→∀(k:Nat) (cells:Array Value),(k+vs.length)*m=cells.size→
  Instr.fill (fun i=>some (i*m,m)) cells ((vs.zipIdx k).map (fun p=>(p.2,Value.agg p.1.toArray)))=some (cells.toList.take (k*m)++vs.flatten).toArray
 |[],_,k,cells,hk=>by
  simp only[List.length_nil,Nat.add_zero] at hk
  simp only[Instr.fill,List.zipIdx_nil,List.map_nil,List.flatten_nil,List.append_nil]
  rw[hk,show cells.size=cells.toList.length from Array.length_toList.symm,List.take_length]
 |u::vs,h,k,cells,hk=>by
  simp only[List.length_cons] at hk
  have hu:u.length=m:=h u (by simp)
  have hsz:k*m+m≤cells.size:=by
   rw[←hk,show (k+(vs.length+1))*m=k*m+m+vs.length*m from by rw[Nat.add_mul,Nat.add_mul,Nat.one_mul];omega]
   omega
  have hc:(Value.agg u.toArray).cells=u.toArray:=rfl
  simp only[List.zipIdx_cons,List.map_cons,Instr.fill,hc]
  have e1:¬(u.toArray.size≠m∨k*m+u.toArray.size > cells.size):=by simp;omega
  have e2:u.toArray.zipIdx.foldl (fun cs (p:Value×Nat)=>cs.setIfInBounds (k*m+p.2) p.1) cells=(cells.toList.take (k*m)++u++cells.toList.drop (k*m+u.length)).toArray:=by
   have:=Qz u (k*m) 0 cells (by omega)
   rw[Nat.add_zero] at this
   rw[←this,←Array.foldl_toList,Array.toList_zipIdx]
  simp only[Bool.or_eq_true,decide_eq_true_eq,e1,if_false]
  have hl:(cells.toList.take (k*m)++u++cells.toList.drop (k*m+u.length)).length=cells.size:=by simp;omega
  rw[e2,Aab m vs (fun z hz=>h z (by simp [hz])) (k+1) _ (by rw[List.size_toArray,hl,←hk];congr 1;omega)]
  have e3:(cells.toList.take (k*m)++u++cells.toList.drop (k*m+u.length)).toArray.toList.take ((k+1)*m)=cells.toList.take (k*m)++u:=by
   show (cells.toList.take (k*m)++u++cells.toList.drop (k*m+u.length)).take ((k+1)*m)=_
   rw[List.take_append_of_le_length (by simp;rw[Nat.add_mul];omega),List.take_of_length_le (by simp;rw[Nat.add_mul];omega)]
  rw[e3,List.flatten_cons,List.append_assoc]
theorem Ajl {e:TypeId} {vs:List (List Value)} {z:Cont} (hu:P.underlying t=some (.slice e)) (hs:0 < sz P e) (hz:ZOk P e z) (h1:∀u∈vs,u.length=sz P e) (hn:vs.length*sz P e≤16777216):
  (Instr.buildSlice t vs.length ((vs.zipIdx 0).map (fun p=>(p.2,Value.agg p.1.toArray))).toArray).run P w=.ok (.slice (some ⟨w.heap.size,0,none⟩) vs.length vs.length) (w.alloc (.cells vs.flatten.toArray e)):=by
 obtain⟨z',hz1,_⟩:=Kn (w:=w) hz
 unfold Instr.buildSlice
 have hle:¬vs.length*sz P e > 2 ^ 24:=by omega
 have hf:∀cells:Array Value,cells.size=vs.length*sz P e→Instr.fill (fun i=>some (i*sz P e,sz P e)) cells ((vs.zipIdx 0).map (fun p=>(p.2,Value.agg p.1.toArray)))=some vs.flatten.toArray:=fun cells hc=>by
  have:=Aab (sz P e) vs h1 0 cells (by rw[Nat.zero_add];exact hc.symm)
  simpa using this
 simp only[Sem.run_bind,run_underlying hu,Result.andThen_ok,Dg (P:=P) (t:=e) rfl (by omega),hle,if_false]
 by_cases h0:vs.length*sz P e=0
 ·simp only[h0,if_true,Sem.run_bind,Sem.run_pure,Result.andThen_ok]
  rw[hf ((Array.range 0).map (fun x=>(#[]:Array Value)[x % (#[]:Array Value).size]!)) (by simp;omega)]
  rfl
 ·simp only[h0,if_false,Sem.run_bind,hz1,Result.andThen_ok,Sem.run_pure]
  rw[hf ((Array.range (vs.length*sz P e)).map (fun x=>z'.cells[x % z'.cells.size]!)) (by simp)]
  rfl
theorem Aac {ev:Operand→Option Sv} {ρ:Operand→Value} {m n:Nat} (hev:∀x sv,ev x=some sv→ρ x=sv.val γ) (hbn:∀x sv,ev x=some sv→sv.bnd n):∀(ps:List (Nat×Operand)) (k:Nat) (ls:List (List At)),L0 ev m k ps=some ls→
  ps.map (fun p=>(p.1,ρ p.2))=((ls.map (List.map (At.val γ))).zipIdx k).map (fun p=>(p.2,Value.agg p.1.toArray))∧(∀l∈ls,l.length=m)∧∀x∈ls.flatten,At.bnd n x
 |[],k,ls,h=>by
  simp only[L0,Option.some.injEq] at h
  subst h
  exact⟨rfl,by simp,by simp⟩
 |(i,x)::r,k,ls,h=>by
  unfold L0 at h
  split at h
  ·rename_i hik
   subst hik
   split at h
   ·rename_i l hx
    split at h
    ·rename_i hl
     split at h
     ·rename_i q hq
      simp only[Option.some.injEq] at h
      subst h
      obtain⟨h1,h2,h3⟩:=Aac hev hbn r (i+1) q hq
      refine⟨?_,?_,?_⟩
      ·simp only[List.map_cons,List.zipIdx_cons,h1,hev _ _ hx]
       rfl
      ·intro l' hl'
       rcases List.mem_cons.1 hl' with rfl|hl'
       ·exact hl
       ·exact h2 l' hl'
      ·intro y hy
       rw[List.flatten_cons,List.mem_append] at hy
       rcases hy with hy|hy
       ·exact hbn _ _ hx y hy
       ·exact h3 y hy
     ·cases h
    ·cases h
   ·cases h
  ·cases h
theorem Ajm {ev:Operand→Option Sv} {ρ:Operand→Value} {len:Nat} {ps:List (Nat×Operand)} (hS:Sat w0 ow γ hp w) (hev:∀x sv,ev x=some sv→ρ x=sv.val γ)
  (hbe:∀x sv,ev x=some sv→sv.bnd hp.length) (hbr:∀r∈hp,Res.bnd hp.length r) (h:bsN P t len ev hp ps=some (c,v,hp')) (hc:c):
  ∃γ' w',(Instr.buildSlice t len (ps.map (fun p=>(p.1,ρ p.2))).toArray).run P w=.ok (v.val γ') w'∧Sat w0 ow γ' hp' w'∧hp.length < hp'.length∧∃nm,γ'=γ++[nm]:=by
 unfold bsN at h
 split at h
 ·rename_i e hu
  split at h
  ·rename_i z ls hz hls
   simp only[Option.some.injEq,Prod.mk.injEq] at h
   obtain⟨rfl,rfl,rfl⟩:=h
   obtain⟨⟨h1,rfl,h3,h4⟩,h5,h6⟩:=hc
   obtain⟨p1,p2,p3⟩:=Aac (γ:=γ) hev hbe ps 0 ls hls
   have hrun:=Ajl (P:=P) (w:=w) (t:=t) (vs:=ls.map (List.map (At.val γ))) hu h1 h6 (by
    intro u hu'
    obtain⟨l,hl,rfl⟩:=List.mem_map.1 hu'
    rw[List.length_map];exact p2 l hl) (by rw[List.length_map];exact h4)
   rw[List.length_map] at hrun
   have hfl:(ls.map (List.map (At.val γ))).flatten=(ls.flatten).map (At.val γ):=by rw[List.map_flatten]
   have hlen:ls.flatten.length=ls.length*sz P e:=by
    have:∀(q:List (List At)),(∀l∈q,l.length=sz P e)→q.flatten.length=q.length*sz P e:=by
     intro q
     induction q with
     |nil=>intro _;simp
     |cons a q ih=>
      intro hq
      rw[List.flatten_cons,List.length_append,ih (fun l hl=>hq l (by simp [hl])),hq a (by simp),List.length_cons,Nat.add_mul,Nat.one_mul]
      omega
    exact this ls p2
   have hl:=hS.len
   refine⟨γ++[.s (.slice (some ⟨w.heap.size,0,none⟩) ls.length ls.length)],w.alloc (.cells (ls.map (List.map (At.val γ))).flatten.toArray e),?_,?_,by simp,_,rfl⟩
   ·rw[p1,hrun]
    simp [Sv.val,Sc.val,At.val,A5 hl]
   ·refine hS.push (X:=fun _=>False) (Keeps.of_below (own:=fun _=>False) ((Below.refl _ _).alloc (Nat.le_refl _) _)) (fun b h=>h.elim) hbr ⟨by rw[D9 hl,A5 hl],?_⟩ ?_
    ·rw[A5 hl,Cont.ext (by rw[hl];exact p3),hfl]
     refine⟨h1,ls.length,?_⟩
     have hm:ls.length≤maxLen:=by unfold maxLen;omega
     exact World.ownsRow_lit w _ ls.length (Nat.zero_le _) hm (by simp only[List.size_toArray,List.length_map];exact hlen)
    ·intro b hb
     simp only[Res.has,A5 hl,Value.ownBlock,Option.some.injEq] at hb
     subst hb
     exact⟨.inr (Nat.le_refl _),by simp⟩
  ·cases h
 ·cases h
theorem Ajn {ev:Operand→Option Sv} {ρ:Operand→Value} {len:Nat} {ps:List (Nat×Operand)} (hS:Sat w0 ow γ hp w) (hev:∀x sv,ev x=some sv→ρ x=sv.val γ)
  (hbe:∀x sv,ev x=some sv→sv.bnd hp.length) (hbr:∀r∈hp,Res.bnd hp.length r) (h:bsA P t len ev hp ps=some (c,v,hp')) (hc:c):
  ∃γ' w',(Instr.buildSlice t len (ps.map (fun p=>(p.1,ρ p.2))).toArray).run P w=.ok (v.val γ') w'∧Sat w0 ow γ' hp' w'∧hp.length < hp'.length∧∃nm,γ'=γ++[nm]:=by
 unfold bsA at h
 split at h
 ·rename_i l hl
  rw[←hl] at h
  exact Ai4 hS hev hbe hbr h hc
 ·exact Ajm hS hev hbe hbr h hc
theorem Ajo {ev:Operand→Option Sv} {len:Nat} {ps:List (Nat×Operand)} (h:bsA P t len ev hp ps=some (c,v,hp')):hp.length < hp'.length:=by
 unfold bsA at h
 split at h
 ·unfold bsS at h
  split at h
  ·split at h
   ·split at h
    ·simp only[Option.some.injEq,Prod.mk.injEq] at h
     rw[←h.2.2];simp
    ·cases h
   ·cases h
  ·cases h
 ·unfold bsN at h
  split at h
  ·split at h
   ·simp only[Option.some.injEq,Prod.mk.injEq] at h
    rw[←h.2.2];simp
   ·cases h
  ·cases h
theorem Nr {s:S} {ρ:Operand→Value} {o:Oper} (hS:Sat w0 ow γ hp w) (hev:∀x sv,Fr.ev s.fr x=some sv→ρ x=sv.val γ)
  (h:op1 P w0 ow (Fr.ev s.fr) hp o.op=some (c,v,hp')) (hc:c) (hb:hp.length < hp'.length→(∀x sv,Fr.ev s.fr x=some sv→sv.bnd hp.length)∧∀r∈hp,Res.bnd hp.length r):
  Out w0 ow γ hp ((execOp ρ o).run P w) v hp':=by
 unfold op1 at h
 split at h
 ·rename_i x ho
  obtain⟨a,hx,h⟩:=Cm h
  simp only[Option.some.injEq,Prod.mk.injEq] at h
  obtain⟨rfl,rfl,rfl⟩:=h
  exact Out.read hS rfl (by unfold execOp;simp only[ho,hev _ _ hx];rfl)
 ·rename_i x ho
  obtain⟨a,hx,h⟩:=Cm h
  simp only[Option.some.injEq,Prod.mk.injEq] at h
  obtain⟨rfl,rfl,rfl⟩:=h
  exact Out.read hS rfl (by unfold execOp;simp only[ho,hev _ _ hx];rfl)
 ·rename_i x y z ho
  obtain⟨a,b,d,hx,hy,hz,h⟩:=Q6 h
  obtain⟨rfl,b',h1,h2⟩:=Zq (γ:=γ) h
  refine Out.read hS rfl ?_
  unfold execOp
  simp only[ho,hev _ _ hx,hev _ _ hy,hev _ _ hz,h1,←h2]
  cases b'<;>rfl
 ·rename_i t ho
  split at h
  ·rename_i k hz
   simp only[M8,Option.some.injEq,Prod.mk.injEq] at h
   obtain⟨rfl,rfl,rfl⟩:=h
   obtain⟨_,hbr⟩:=hb (by simp)
   obtain⟨z,hz1,hz2⟩:=Kn (w:=w) hc
   refine⟨_,_,hS.made hbr (Aiz hz) (hz2 γ),.inr ⟨by simp,_,rfl⟩,.inl ?_⟩
   unfold execOp
   simp only[ho]
   refine Bb ?_
   unfold Instr.alloc
   rw[Sem.run_bind,hz1,Result.andThen_ok]
   simp only[Sem.run_bind,Zr,Result.andThen_ok]
   simp [Sv.val,Sc.val,At.val,Hp hS.len]
  ·cases h
 ·rename_i t x ho
  obtain⟨a,hx,h⟩:=Cm h
  split at h
  ·rename_i s'
   simp only[M8,Option.some.injEq,Prod.mk.injEq] at h
   obtain⟨rfl,rfl,rfl⟩:=h
   obtain⟨hbe,hbr⟩:=hb (by simp)
   refine⟨_,_,hS.made hbr (Sc.cont_bnd (hbe _ _ hx)) (Sc.cont_cells hS hc),.inr ⟨by simp,_,rfl⟩,.inl ?_⟩
   unfold execOp
   simp only[ho,hev _ _ hx]
   refine Bb ?_
   unfold Instr.box
   simp only[Sem.run_bind,Zr,Result.andThen_ok]
   simp [Sv.val,Sc.val,At.val,Hp hS.len]
  ·cases h
 ·rename_i t len ps ho
  have hlt:hp.length < hp'.length:=Ajo h
  obtain⟨hbe,hbr⟩:=hb hlt
  obtain⟨γ',w',hrun,hsat,_,nm,hnm⟩:=Ajn hS hev hbe hbr h hc
  refine⟨γ',w',hsat,.inr ⟨hlt,nm,hnm⟩,.inl ?_⟩
  unfold execOp
  simp only[ho]
  refine Bb ?_
  rw[←hrun]
  congr 2
  apply Array.ext'
  simp
 ·rename_i t x ho
  obtain⟨a,hx,h⟩:=Cm h
  obtain⟨rfl,hr⟩:=Ui hS h hc
  exact Out.read hS rfl (by unfold execOp;simp only[ho,hev _ _ hx];exact Bb hr)
 ·rename_i t x y ho
  obtain⟨a,b,hx,hy,h⟩:=Ew h
  obtain⟨rfl,w',hr,hS'⟩:=Ah0 hS h hc
  refine⟨γ,w',hS',.inl rfl,.inr ⟨?_,rfl⟩⟩
  unfold execOp
  simp only[ho,hev _ _ hx,hev _ _ hy]
  rw[Sem.run_bind,hr]
  rfl
 ·rename_i x ho
  obtain⟨a,hx,h⟩:=Cm h
  obtain⟨rfl,hr⟩:=Zn (P:=P) (w:=w) (γ:=γ) ho (hev _ _ hx) h hc
  exact Out.read hS rfl hr
 ·rename_i op t x y t2 ho
  obtain⟨a,b,hx,hy,h⟩:=Ew h
  obtain⟨rfl,hr⟩:=Y6 (γ:=γ) (w:=w) h hc
  exact Out.read hS rfl (by unfold execOp;simp only[ho,hev _ _ hx,hev _ _ hy];exact Bb hr)
 ·rename_i op t x ho
  obtain⟨a,hx,h⟩:=Cm h
  obtain⟨rfl,hr⟩:=Y7 (P:=P) (γ:=γ) (w:=w) h hc
  exact Out.read hS rfl (by unfold execOp;simp only[ho,hev _ _ hx];exact Bb hr)
 ·rename_i src dst x ho
  obtain⟨a,hx,h⟩:=Cm h
  split at h
  ·rename_i r hl
   rw[h] at hl
   obtain⟨γ',w',hS',rfl,hr⟩:=Aiv hS hl hc
   exact⟨_,w',hS',.inl rfl,.inl (by unfold execOp;simp only[ho,hev _ _ hx];exact Bb hr)⟩
  ·split at h
   ·rename_i r hl
    rw[h] at hl
    have hlt:=Z3 hl
    obtain⟨γ',w',hr,hsat,_,nm,hnm⟩:=Ai8 hS (fun h'=>(hb h').2) hl hc
    exact⟨γ',w',hsat,.inr ⟨hlt,nm,hnm⟩,.inl (by unfold execOp;simp only[ho,hev _ _ hx];exact Bb hr)⟩
   ·obtain⟨rfl,hr⟩:=Za hS h hc
    exact Out.read hS rfl (by unfold execOp;simp only[ho,hev _ _ hx];exact Bb hr)
 ·rename_i t x ho
  obtain⟨a,hx,h⟩:=Cm h
  obtain⟨rfl,hr⟩:=Zb (γ:=γ) (w:=w) h hc
  exact Out.read hS rfl (by unfold execOp;simp only[ho,hev _ _ hx];exact Bb hr)
 ·rename_i t x lo hi ho
  obtain⟨a,hx,h⟩:=Cm h
  obtain⟨rfl,hr⟩:=Zi (w:=w) hS hev h hc
  exact Out.read hS rfl (by unfold execOp;simp only[ho,hev _ _ hx];exact Bb hr)
 ·rename_i t x f ho
  obtain⟨a,hx,h⟩:=Cm h
  obtain⟨rfl,hr⟩:=Zk hS h hc
  exact Out.read hS rfl (by unfold execOp;simp only[ho,hev _ _ hx];exact Bb hr)
 ·rename_i t x f ho
  obtain⟨a,hx,h⟩:=Cm h
  obtain⟨rfl,hr⟩:=Zj (γ:=γ) (w:=w) h hc
  exact Out.read hS rfl (by unfold execOp;simp only[ho,hev _ _ hx];exact Bb hr)
 ·rename_i t x i ho
  obtain⟨a,b,hx,hy,h⟩:=Ew h
  obtain⟨rfl,hr⟩:=Ze hS h hc
  exact Out.read hS rfl (by unfold execOp;simp only[ho,hev _ _ hx,hev _ _ hy];exact Bb hr)
 ·rename_i t x i ho
  obtain⟨a,b,hx,hy,h⟩:=Ew h
  obtain⟨rfl,hr⟩:=Zg (γ:=γ) (w:=w) h hc
  exact Out.read hS rfl (by unfold execOp;simp only[ho,hev _ _ hx,hev _ _ hy];exact Bb hr)
 ·rename_i x i ho
  obtain⟨a,hx,h⟩:=Cm h
  obtain⟨rfl,hr⟩:=Zl (P:=P) (γ:=γ) (w:=w) h
  exact Out.read hS rfl (by unfold execOp;simp only[ho,hev _ _ hx];exact Bb hr)
 ·rename_i t ps ho
  obtain⟨rfl,hr⟩:=Zz hS hev h hc
  exact Out.read hS rfl (by unfold execOp;simp only[ho];exact Bb hr)
 ·rename_i t l m ho
  obtain⟨a,b,hx,hy,h⟩:=Ew h
  have hlt:=Ajb h
  obtain⟨γ',w',hr,hsat,_,nm,hnm⟩:=Aja hS (fun h'=>(hb h').2) h hc
  exact⟨γ',w',hsat,.inr ⟨hlt,nm,hnm⟩,.inl (by unfold execOp;simp only[ho,hev _ _ hx,hev _ _ hy];exact Bb hr)⟩
 ·rename_i t x ho
  obtain⟨a,hx,h⟩:=Cm h
  have hlt:=Ajd h
  obtain⟨γ',w',hr,hsat,_,nm,hnm⟩:=Ajc (P:=P) hS (fun h'=>(hb h').2) h
  exact⟨γ',w',hsat,.inr ⟨hlt,nm,hnm⟩,.inl (by unfold execOp;simp only[ho,hev _ _ hx];exact Bb hr)⟩
 ·rename_i x ho
  obtain⟨a,hx,h⟩:=Cm h
  obtain⟨w',hr,hsat⟩:=Ajf (P:=P) (ty:=o.type) hS h
  exact⟨γ,w',hsat,.inl rfl,.inl (by unfold execOp;simp only[ho,hev _ _ hx];exact Bb hr)⟩
 ·rename_i fn first caps ho
  obtain⟨rfl,hr⟩:=Aaa (P:=P) (w:=w) hev h
  exact Out.read hS rfl (by unfold execOp;simp only[ho];exact Bb hr)
 ·rename_i t ho
  have hlt:hp.length < hp'.length:=by
   unfold Ke at h
   split at h
   ·split at h
    ·simp only[Option.some.injEq,Prod.mk.injEq] at h
     rw[←h.2.2];simp
    ·cases h
   ·cases h
  obtain⟨_,γ',w',hr,hsat,nm,hnm⟩:=Z7 (r:=none) hS (hb hlt).2 h (fun x hx=>by cases hx)
  exact⟨γ',w',hsat,.inr ⟨hlt,nm,hnm⟩,.inl (by unfold execOp;simp only[ho];exact Bb hr)⟩
 ·rename_i t x ho
  split at h
  ·rename_i k m hx
   have hlt:hp.length < hp'.length:=by
    unfold Ke at h
    split at h
    ·split at h
     ·simp only[Option.some.injEq,Prod.mk.injEq] at h
      rw[←h.2.2];simp
     ·cases h
    ·cases h
   obtain⟨_,γ',w',hr,hsat,nm,hnm⟩:=Z7 (r:=some (.int k m)) hS (hb hlt).2 h (fun x hx=>by cases hx;exact⟨_,_,rfl⟩)
   exact⟨γ',w',hsat,.inr ⟨hlt,nm,hnm⟩,.inl (by unfold execOp;simp only[ho,Option.map_some,hev _ _ hx];exact Bb hr)⟩
  ·cases h
 ·rename_i t x i ok ho
  obtain⟨a,b,hx,hy,h⟩:=Ew h
  obtain⟨rfl,hr⟩:=Z6 hS h hc
  exact Out.read hS rfl (by unfold execOp;simp only[ho,hev _ _ hx,hev _ _ hy];exact Bb hr)
 ·rename_i t m k x ho
  obtain⟨a,b,d,hx,hy,hz,h⟩:=Q6 h
  obtain⟨rfl,w',hr,hS'⟩:=Z8 hS h hc
  refine⟨γ,w',hS',.inl ?_,.inr ⟨?_,rfl⟩⟩
  ·exact rfl
  ·unfold execOp
   simp only[ho,hev _ _ hx,hev _ _ hy,hev _ _ hz]
   rw[Sem.run_bind,hr]
   rfl
 ·rename_i t m k x ho
  obtain⟨a,b,d,hx,hy,hz,h⟩:=Q6 h
  obtain⟨rfl,w',hr,hS'⟩:=Z8 hS h hc
  refine⟨γ,w',hS',.inl ?_,.inr ⟨?_,rfl⟩⟩
  ·exact rfl
  ·unfold execOp
   simp only[ho,hev _ _ hx,hev _ _ hy,hev _ _ hz]
   rw[Sem.run_bind,hr]
   rfl
 ·rename_i cl ho
  unfold Qn at h
  obtain⟨callee,args,argTypes⟩:=cl
  simp only at h
  split at h
  ·split at h
   ·rename_i x t ha ht
    obtain⟨a,hx,h⟩:=Cm h
    have e1:args=#[x]:=Array.ext' ha
    have e2:argTypes=#[t]:=Array.ext' ht
    subst e1 e2
    obtain⟨rfl,hr⟩:=Zp (ty:=o.type) hS h hc
    refine Out.read hS rfl ?_
    unfold execOp
    simp only[ho]
    simp only[resolve,Sem.run_bind,Sem.run_pure,Result.andThen_ok,invoke,builtin]
    have:=Bb hr
    simpa [hev _ _ hx] using this
   ·cases h
  ·split at h
   ·rename_i x y t t' ha ht
    obtain⟨a,b,hx,hy,h⟩:=Ew h
    have e1:args=#[x,y]:=Array.ext' ha
    have e2:argTypes=#[t,t']:=Array.ext' ht
    subst e1 e2
    obtain⟨hlt,γ',w',hr,hsat,nm,hnm⟩:hp.length < hp'.length∧∃γ' w',(Builtin.append_ #[t,t'] o.type #[a.val γ,b.val γ]).run P w=.ok (v.val γ') w'∧Sat w0 ow γ' hp' w'∧∃nm,γ'=γ++[nm]:=by
     split at h
     ·rename_i r hl
      rw[h] at hl
      have hlt:=Aji hl
      obtain⟨_,hbr⟩:=hb hlt
      obtain⟨γ',w',hr,hsat,_,nm,hnm⟩:=Ajh (ty:=o.type) hS hbr hl hc
      exact⟨hlt,γ',w',hr,hsat,nm,hnm⟩
     split at h
     ·rename_i r hl
      rw[h] at hl
      have hlt:=Ai7 hl
      obtain⟨_,hbr⟩:=hb hlt
      obtain⟨γ',w',hr,hsat,_,nm,hnm⟩:=Ai6 (ty:=o.type) hS hbr hl hc
      exact⟨hlt,γ',w',hr,hsat,nm,hnm⟩
     ·have hlt:=Ajj h
      obtain⟨_,hbr⟩:=hb hlt
      obtain⟨γ',w',hr,hsat,_,nm,hnm⟩:=Ai5 (ty:=o.type) hS hbr h hc
      exact⟨hlt,γ',w',hr,hsat,nm,hnm⟩
    refine⟨γ',w',hsat,.inr ⟨hlt,nm,hnm⟩,.inl ?_⟩
    unfold execOp
    simp only[ho]
    simp only[resolve,Sem.run_bind,Sem.run_pure,Result.andThen_ok,invoke,builtin]
    have:=Bb hr
    simpa [hev _ _ hx,hev _ _ hy] using this
   ·cases h
  ·split at h
   ·rename_i x y ha
    obtain⟨a,b,hx,hy,h⟩:=Ew h
    have e1:args=#[x,y]:=Array.ext' ha
    subst e1
    obtain⟨rfl,hr⟩:=Q4 (P:=P) (w:=w) (γ:=γ) h
    refine Out.read hS rfl ?_
    unfold execOp
    simp only[ho]
    simp only[resolve,Sem.run_bind,Sem.run_pure,Result.andThen_ok,invoke,builtin]
    have:=Bb (P:=P) hr
    simpa [hev _ _ hx,hev _ _ hy,Builtin.min_] using this
   ·cases h
  ·split at h
   ·rename_i x y ha
    obtain⟨a,b,hx,hy,h⟩:=Ew h
    have e1:args=#[x,y]:=Array.ext' ha
    subst e1
    obtain⟨rfl,hr⟩:=Q4 (P:=P) (w:=w) (γ:=γ) h
    refine Out.read hS rfl ?_
    unfold execOp
    simp only[ho]
    simp only[resolve,Sem.run_bind,Sem.run_pure,Result.andThen_ok,invoke,builtin]
    have:=Bb (P:=P) hr
    simpa [hev _ _ hx,hev _ _ hy,Builtin.max_] using this
   ·cases h
  ·cases h
 ·cases h
def Im:Op→Bool
 | .move _| .assign _| .pick _ _ _| .load _ _| .nilCheck _| .binOp _ _ _ _ _| .unOp _ _ _| .makeInterface _ _| .build _ _| .slice _ _ _ _ none| .fieldAddr _ _ _| .field _ _ _| .indexAddr _ _ _| .index _ _ _| .extract _ _| .makeFunc _ _ _| .lookup _ _ _ _=>true
 | .convert a b _=>!decide (a=b)
 | .call {callee:=.builtin .len,..}| .call {callee:=.builtin .min,..}| .call {callee:=.builtin .max,..}=>true
 |_=>false
theorem L5 {s:S} {ρ:Operand→Value} {o:Oper} (hr0:Im o.op=true) (hsame:hp'=hp) (hS:Sat w0 ow γ hp w) (hev:∀x sv,Fr.ev s.fr x=some sv→ρ x=sv.val γ)
  (h:op1 P w0 ow (Fr.ev s.fr) hp o.op=some (c,v,hp')) (hc:c):hp'=hp∧(execOp ρ o).run P w=.ok (.value (v.val γ)) w:=by
 unfold op1 at h
 split at h
 ·rename_i x ho
  obtain⟨a,hx,h⟩:=Cm h
  simp only[Option.some.injEq,Prod.mk.injEq] at h
  obtain⟨rfl,rfl,rfl⟩:=h
  exact⟨rfl,by unfold execOp;simp only[ho,hev _ _ hx];rfl⟩
 ·rename_i x ho
  obtain⟨a,hx,h⟩:=Cm h
  simp only[Option.some.injEq,Prod.mk.injEq] at h
  obtain⟨rfl,rfl,rfl⟩:=h
  exact⟨rfl,by unfold execOp;simp only[ho,hev _ _ hx];rfl⟩
 ·rename_i x y z ho
  obtain⟨a,b,d,hx,hy,hz,h⟩:=Q6 h
  obtain⟨rfl,b',h1,h2⟩:=Zq (γ:=γ) h
  refine⟨rfl,?_⟩
  unfold execOp
  simp only[ho,hev _ _ hx,hev _ _ hy,hev _ _ hz,h1,←h2]
  cases b'<;>rfl
 ·rename_i t ho
  rw[ho] at hr0;cases hr0
 ·rename_i t x ho
  rw[ho] at hr0;cases hr0
 ·rename_i t len ps ho
  rw[ho] at hr0;cases hr0
 ·rename_i t x ho
  obtain⟨a,hx,h⟩:=Cm h
  obtain⟨rfl,hr⟩:=Ui hS h hc
  exact⟨rfl,by unfold execOp;simp only[ho,hev _ _ hx];exact Bb hr⟩
 ·rename_i t x y ho
  rw[ho] at hr0;cases hr0
 ·rename_i x ho
  obtain⟨a,hx,h⟩:=Cm h
  obtain⟨rfl,hr⟩:=Zn (P:=P) (w:=w) (γ:=γ) ho (hev _ _ hx) h hc
  exact⟨rfl,hr⟩
 ·rename_i op t x y t2 ho
  obtain⟨a,b,hx,hy,h⟩:=Ew h
  obtain⟨rfl,hr⟩:=Y6 (γ:=γ) (w:=w) h hc
  exact⟨rfl,by unfold execOp;simp only[ho,hev _ _ hx,hev _ _ hy];exact Bb hr⟩
 ·rename_i op t x ho
  obtain⟨a,hx,h⟩:=Cm h
  obtain⟨rfl,hr⟩:=Y7 (P:=P) (γ:=γ) (w:=w) h hc
  exact⟨rfl,by unfold execOp;simp only[ho,hev _ _ hx];exact Bb hr⟩
 ·rename_i src dst x ho
  obtain⟨a,hx,h⟩:=Cm h
  have hne:src≠dst:=by rw[ho] at hr0;simpa [Im] using hr0
  split at h
  ·rename_i r hl
   exact absurd hl (by rw[Aiu hne];simp)
  ·split at h
   ·rename_i r hl
    rw[h] at hl
    have:=Z3 hl
    rw[hsame] at this
    omega
   ·obtain⟨rfl,hr⟩:=Za hS h hc
    exact⟨rfl,by unfold execOp;simp only[ho,hev _ _ hx];exact Bb hr⟩
 ·rename_i t x ho
  obtain⟨a,hx,h⟩:=Cm h
  obtain⟨rfl,hr⟩:=Zb (γ:=γ) (w:=w) h hc
  exact⟨rfl,by unfold execOp;simp only[ho,hev _ _ hx];exact Bb hr⟩
 ·rename_i t x lo hi ho
  obtain⟨a,hx,h⟩:=Cm h
  obtain⟨rfl,hr⟩:=Zi (w:=w) hS hev h hc
  exact⟨rfl,by unfold execOp;simp only[ho,hev _ _ hx];exact Bb hr⟩
 ·rename_i t x f ho
  obtain⟨a,hx,h⟩:=Cm h
  obtain⟨rfl,hr⟩:=Zk hS h hc
  exact⟨rfl,by unfold execOp;simp only[ho,hev _ _ hx];exact Bb hr⟩
 ·rename_i t x f ho
  obtain⟨a,hx,h⟩:=Cm h
  obtain⟨rfl,hr⟩:=Zj (γ:=γ) (w:=w) h hc
  exact⟨rfl,by unfold execOp;simp only[ho,hev _ _ hx];exact Bb hr⟩
 ·rename_i t x i ho
  obtain⟨a,b,hx,hy,h⟩:=Ew h
  obtain⟨rfl,hr⟩:=Ze hS h hc
  exact⟨rfl,by unfold execOp;simp only[ho,hev _ _ hx,hev _ _ hy];exact Bb hr⟩
 ·rename_i t x i ho
  obtain⟨a,b,hx,hy,h⟩:=Ew h
  obtain⟨rfl,hr⟩:=Zg (γ:=γ) (w:=w) h hc
  exact⟨rfl,by unfold execOp;simp only[ho,hev _ _ hx,hev _ _ hy];exact Bb hr⟩
 ·rename_i x i ho
  obtain⟨a,hx,h⟩:=Cm h
  obtain⟨rfl,hr⟩:=Zl (P:=P) (γ:=γ) (w:=w) h
  exact⟨rfl,by unfold execOp;simp only[ho,hev _ _ hx];exact Bb hr⟩
 ·rename_i t ps ho
  obtain⟨rfl,hr⟩:=Zz hS hev h hc
  exact⟨rfl,by unfold execOp;simp only[ho];exact Bb hr⟩
 ·rename_i t l m ho
  rw[ho] at hr0;cases hr0
 ·rename_i t x ho
  rw[ho] at hr0;cases hr0
 ·rename_i x ho
  rw[ho] at hr0;cases hr0
 ·rename_i fn first caps ho
  obtain⟨rfl,hr⟩:=Aaa (P:=P) (w:=w) hev h
  exact⟨rfl,by unfold execOp;simp only[ho];exact Bb hr⟩
 ·rename_i t ho
  rw[ho] at hr0;cases hr0
 ·rename_i t x ho
  rw[ho] at hr0;cases hr0
 ·rename_i t x i ok ho
  obtain⟨a,b,hx,hy,h⟩:=Ew h
  obtain⟨rfl,hr⟩:=Z6 hS h hc
  exact⟨rfl,by unfold execOp;simp only[ho,hev _ _ hx,hev _ _ hy];exact Bb hr⟩
 ·rename_i t m k x ho
  rw[ho] at hr0;cases hr0
 ·rename_i t m k x ho
  rw[ho] at hr0;cases hr0
 ·rename_i cl ho
  unfold Qn at h
  obtain⟨callee,args,argTypes⟩:=cl
  simp only at h
  split at h
  ·split at h
   ·rename_i x t ha ht
    obtain⟨a,hx,h⟩:=Cm h
    have e1:args=#[x]:=Array.ext' ha
    have e2:argTypes=#[t]:=Array.ext' ht
    subst e1 e2
    obtain⟨rfl,hr⟩:=Zp (ty:=o.type) hS h hc
    refine⟨rfl,?_⟩
    unfold execOp
    simp only[ho]
    simp only[resolve,Sem.run_bind,Sem.run_pure,Result.andThen_ok,invoke,builtin]
    have:=Bb hr
    simpa [hev _ _ hx] using this
   ·cases h
  ·rw[ho] at hr0;cases hr0
  ·split at h
   ·rename_i x y ha
    obtain⟨a,b,hx,hy,h⟩:=Ew h
    have e1:args=#[x,y]:=Array.ext' ha
    subst e1
    obtain⟨rfl,hr⟩:=Q4 (P:=P) (w:=w) (γ:=γ) h
    refine⟨rfl,?_⟩
    unfold execOp
    simp only[ho]
    simp only[resolve,Sem.run_bind,Sem.run_pure,Result.andThen_ok,invoke,builtin]
    have:=Bb (P:=P) hr
    simpa [hev _ _ hx,hev _ _ hy,Builtin.min_] using this
   ·cases h
  ·split at h
   ·rename_i x y ha
    obtain⟨a,b,hx,hy,h⟩:=Ew h
    have e1:args=#[x,y]:=Array.ext' ha
    subst e1
    obtain⟨rfl,hr⟩:=Q4 (P:=P) (w:=w) (γ:=γ) h
    refine⟨rfl,?_⟩
    unfold execOp
    simp only[ho]
    simp only[resolve,Sem.run_bind,Sem.run_pure,Result.andThen_ok,invoke,builtin]
    have:=Bb (P:=P) hr
    simpa [hev _ _ hx,hev _ _ hy,Builtin.max_] using this
   ·cases h
  ·cases h
 ·cases h
end
end
end Go.Proofs.YtedaafmfjhjfmaaGreatDoor
