import Derived.Test.YtedaafmfjhjfmaaGreatDoorShA
import Derived.Test.YtedaafmfjhjfmaaGreatDoorStr
import Derived.Test.YtedaafmfjhjfmaaGreatDoorEn3
/- Rows of elements of some cells each, wherever they lie. No program in sight. -/
namespace Go.Proofs.YtedaafmfjhjfmaaGreatDoor
set_option linter.unusedSimpArgs false
section
open Go.RowKit
theorem Jo {α:Type} [Inhabited α] {enc:α→List Value} {m:Nat} (hm:∀x,(enc x).length=m) (l:List α) (i j:Nat) (hi:i < l.length) (hj:j < m):(l.flatMap enc)[i*m+j]?=(enc (ix l i))[j]?:=by
 induction l generalizing i with
 |nil=>simp at hi
 |cons x l ih=>
  cases i with
  |zero=>
   rw[List.flatMap_cons,Nat.zero_mul,Nat.zero_add,List.getElem?_append_left (by rw[hm];exact hj)]
   rfl
  |succ i=>
   have e:(i+1)*m+j=m+(i*m+j):=by rw[Nat.add_mul];omega
   rw[List.flatMap_cons,e,List.getElem?_append_right (by rw[hm];omega),hm,Nat.add_sub_cancel_left,ih i (by simpa using hi)]
   rfl
theorem Cv {α:Type} {enc:α→List Value} {m:Nat} (hm:∀x,(enc x).length=m) (l:List α):(l.flatMap enc).length=l.length*m:=by
 induction l with
 |nil=>simp
 |cons x l ih=>rw[List.flatMap_cons,List.length_append,hm,ih,List.length_cons,Nat.add_mul];omega
def Hx (w0:World) (ow:Nat→Prop) (hp:List Res) (sv:Sv) (n:Nat) (vs:List Value):Prop:=
 ∀γ w,Sat w0 ow γ hp w→∃A c,sv.val γ=.slice A n c∧n≤c∧RdV w w.heap.size A vs
theorem Jp {w0:World} {hp:List Res} {A:Option Addr} {n c:Nat} {vs:List Value} (hR:RdV w0 w0.heap.size A vs) (hc:n≤c):Hx w0 No hp (.x (.a (.v (.slice A n c)))) n vs:=fun _ _ hS=>
 ⟨A,c,rfl,hc,(hR.below (Hu hS.keeps)).more (Hu hS.keeps).size⟩
end
section
open Go.ChangeShapes Go.WideShapes Go.ChangeAt Go.WideMaps Go.WideElems Go.RowKit
structure Slc (α:Type) where
 A:Option Addr
 c:Nat
 l:List α
def Slc.val {α:Type} (s:Slc α):Value:=.slice s.A s.l.length s.c
section
variable {H:Type} (enc:TypeId×Value→H) (P:Program) (W:World)
def Opn (t:TypeId) {α:Type} (e:α→List Value) (Q:α→Prop):Prop:=
 ∀fuel cs x,DataW.trod enc P W 0 (fun _=>true) true fuel t cs=some x→∃a,cs=e a∧Q a
def OpnF (off:Nat) (fs:List Field) (m:Nat) {α:Type} (e:α→List Value) (Q:α→Prop):Prop:=
 ∀(n:Nat) (cs:List Value),(∀f∈fs,∃y,DataW.trod enc P W 0 (fun _=>true) true n f.type ((cs.drop f.offset).take (P.cellsOf f.type))=some y)→
  ∃a,(cs.drop off).take m=e a∧Q a
end
section
variable {H:Type} {enc:TypeId×Value→H} {P:Program} {W:World} {t e:TypeId}
theorem Opn.int {k:IntKind} (ht:P.underlying t=some (.int k)):Opn enc P W t (fun n:Int=>[.int k n]) (fun n=>(Lit.int k n).wf=true):=fun fuel cs x h=>by
 obtain⟨n,h1,_,h3⟩:=DataW.trod_int ht h
 exact⟨n,h1,h3⟩
theorem Opn.i64 (ht:P.underlying t=some (.int .i64)):Opn enc P W t (fun n:Int=>[.int .i64 n]) (fun n=>-9223372036854775808≤n∧n≤9223372036854775807):=fun fuel cs x h=>by
 obtain⟨n,h1,_,h3⟩:=DataW.trod_int ht h
 simp only[Lit.wf,Bool.and_eq_true,decide_eq_true_eq] at h3
 exact⟨n,h1,h3⟩
theorem Opn.u64 (ht:P.underlying t=some (.int .u64)):Opn enc P W t (fun x:UInt64=>[vU64 x]) (fun _=>True):=fun fuel cs x h=>by
 obtain⟨n,h1,_,h3⟩:=DataW.trod_int ht h
 simp only[Lit.wf,Bool.and_eq_true,decide_eq_true_eq] at h3
 have h3:0≤n∧n≤18446744073709551615:=h3
 refine⟨UInt64.ofNat n.toNat,?_,trivial⟩
 rw[h1]
 show [Value.int .u64 n]=[.int .u64 ((UInt64.ofNat n.toNat).toNat:Int)]
 rw[UInt64.toNat_ofNat']
 congr 2
 omega
theorem Opn.u32 (ht:P.underlying t=some (.int .u32)):Opn enc P W t (fun x:UInt32=>[Ap x]) (fun _=>True):=fun fuel cs x h=>by
 obtain⟨n,h1,_,h3⟩:=DataW.trod_int ht h
 simp only[Lit.wf,Bool.and_eq_true,decide_eq_true_eq] at h3
 have h3:0≤n∧n≤4294967295:=h3
 refine⟨UInt32.ofNat n.toNat,?_,trivial⟩
 rw[h1]
 show [Value.int .u32 n]=[.int .u32 ((UInt32.ofNat n.toNat).toNat:Int)]
 rw[UInt32.toNat_ofNat']
 congr 2
 omega
theorem Opn.u8 (ht:P.underlying t=some (.int .u8)):Opn enc P W t (fun x:UInt8=>[vU8 x]) (fun _=>True):=fun fuel cs x h=>by
 obtain⟨n,h1,_,h3⟩:=DataW.trod_int ht h
 simp only[Lit.wf,Bool.and_eq_true,decide_eq_true_eq] at h3
 have h3:0≤n∧n≤255:=h3
 refine⟨UInt8.ofNat n.toNat,?_,trivial⟩
 rw[h1]
 show [Value.int .u8 n]=[.int .u8 ((UInt8.ofNat n.toNat).toNat:Int)]
 rw[UInt8.toNat_ofNat']
 congr 2
 omega
theorem Opn.bool (ht:P.underlying t=some .bool):Opn enc P W t (fun b:Bool=>[.bool b]) (fun _=>True):=fun fuel cs x h=>by
 obtain⟨b,h1,_⟩:=DataW.trod_bool ht h
 exact⟨b,h1,trivial⟩
theorem Opn.str (ht:P.underlying t=some .string):Opn enc P W t (fun s:ByteArray=>[.string s]) (fun s=>s.size≤maxLen):=fun fuel cs x h=>by
 obtain⟨s,h1,_,h3⟩:=DataW.trod_string ht h
 exact⟨s,h1,h3⟩
theorem Abj {a:Addr} {v:Value} (h:W.cell? a=some v):a.spot=none:=by
 unfold World.cell? at h
 split at h
 ·split at h
  ·cases h
  ·rename_i hs
   simpa using hs
 ·cases h
theorem Opn.slice {α:Type} [Inhabited α] {f:α→List Value} {Q:α→Prop} {m:Nat} (ht:P.underlying t=some (.slice e)) (hm:P.cellsOf e=m) (h0:0 < m) (hf:∀a,(f a).length=m) (h:Opn enc P W e f Q):
  Opn enc P W t (fun s:Slc α=>[s.val]) (fun s=>s.l.length≤s.c∧s.c≤maxLen∧RdV W W.heap.size s.A (s.l.flatMap f)∧∀a∈s.l,Q a):=fun fuel cs x hx=>by
 rcases DataW.trod_slice ht hx with ⟨rfl,_⟩|⟨a,len,cap,elems,rest,n,_,rfl,_,_,hl,hc,hlen,hel,_,_⟩
 ·exact⟨⟨none,0,[]⟩,rfl,Nat.le_refl _,Nat.zero_le _,RdV.nil_,fun y h=>by cases h⟩
 ·have each:∀i,i < len→∃y:α,W.cells? 0 (a.add (i*m)) m=some (f y)∧Q y:=by
   intro i hi
   have h1:=hel i hi
   rw[hm,List.getElem?_eq_getElem (by omega),Option.bind_eq_some_iff] at h1
   obtain⟨ci,h2,h3⟩:=h1
   obtain⟨y,h4,h5⟩:=h _ _ _ h3
   exact⟨y,by rw[h2,h4],h5⟩
  let g:Nat→α:=fun i=>if h:i < len then Classical.choose (each i h) else default
  have hg:∀i,i < len→W.cells? 0 (a.add (i*m)) m=some (f (g i))∧Q (g i):=by
   intro i hi
   simp only[g,dif_pos hi]
   exact Classical.choose_spec (each i hi)
  have hix:∀i,i < len→ix ((List.range len).map g) i=g i:=fun i hi=>by simp [ix,List.getD_eq_getElem?_getD,hi]
  have hgl:((List.range len).map g).length=len:=by simp
  refine⟨⟨some a,cap,(List.range len).map g⟩,by simp [Slc.val],by simpa using hl,hc,fun hp=>?_,fun y hy=>?_⟩
  ·have hp0:0 < len:=by
    have hp:0 < (((List.range len).map g).flatMap f).length:=hp
    rw[Cv hf,hgl] at hp
    exact Nat.pos_of_ne_zero fun e=>by rw[e,Nat.zero_mul] at hp;exact Nat.lt_irrefl _ hp
   have hs:a.spot=none:=by
    obtain⟨_,h3⟩:=World.cells?_some (hg 0 hp0).1
    have h4:=h3.2 0 h0
    have h5:(f (g 0))[0]?=some ((f (g 0))[0]'(by rw[hf];exact h0)):=List.getElem?_eq_getElem _
    rw[h5] at h4
    simpa [Addr.add] using Abj h4
   obtain⟨xb,xo,xs⟩:=a
   subst hs
   have hb:xb < W.heap.size:=by
    have:=World.cells?_block (hg 0 hp0).1 h0
    simpa [Addr.add] using this
   refine⟨xb,xo,rfl,hb,fun j u hu=>?_⟩
   have hj:j < len*m:=by
    have:=(List.getElem?_eq_some_iff.1 hu).1
    rwa [Cv hf,hgl] at this
   have hjm:j=j / m*m+j % m:=by rw[Nat.mul_comm];exact (Nat.div_add_mod j m).symm
   have hi:j / m < len:=Nat.div_lt_of_lt_mul (by rwa [Nat.mul_comm] at hj)
   have hr:j % m < m:=Nat.mod_lt _ h0
   rw[hjm,Jo hf _ _ _ (by rw[hgl];exact hi) hr,hix _ hi] at hu
   obtain⟨_,h3⟩:=World.cells?_some (hg _ hi).1
   have h4:=h3.2 _ hr
   rw[hu] at h4
   rw[Bu,Bu,Nat.add_assoc,←hjm] at h4
   exact h4
  ·obtain⟨i,hi,rfl⟩:=List.mem_map.1 hy
   exact (hg i (List.mem_range.1 hi)).2
theorem Abk {α:Type} (f:α→Value) (l:List α):l.flatMap (fun x=>[f x])=l.map f:=by
 induction l with
 |nil=>rfl
 |cons x l ih=>rw[List.flatMap_cons,List.map_cons,ih];rfl
theorem Opn.ones {α:Type} [Inhabited α] {f:α→Value} {Q:α→Prop} (ht:P.underlying t=some (.slice e)) (hm:P.cellsOf e=1) (h:Opn enc P W e (fun x=>[f x]) Q):
  Opn enc P W t (fun s:Slc α=>[s.val]) (fun s=>s.l.length≤s.c∧s.c≤maxLen∧RdV W W.heap.size s.A (s.l.map f)∧∀a∈s.l,Q a):=fun fuel cs x hx=>by
 obtain⟨s,h1,h2,h3,h4,h5⟩:=Opn.slice ht hm (by omega) (fun _=>rfl) h fuel cs x hx
 rw[Abk] at h4
 exact⟨s,h1,h2,h3,h4,h5⟩
theorem OpnF.nil {off:Nat}:OpnF enc P W off [] 0 (fun _:Unit=>[]) (fun _=>True):=fun _ _ _=>⟨(),List.take_zero,trivial⟩
theorem OpnF.cons {off k m:Nat} {f:Field} {fs:List Field} {α β:Type} {e1:α→List Value} {e2:β→List Value} {Q1:α→Prop} {Q2:β→Prop} (ho:f.offset=off) (hc:P.cellsOf f.type=k) (h:Opn enc P W f.type e1 Q1) (hr:OpnF enc P W (off+k) fs m e2 Q2):
  OpnF enc P W off (f::fs) (k+m) (fun p:α×β=>e1 p.1++e2 p.2) (fun p=>Q1 p.1∧Q2 p.2):=fun n cs hall=>by
 obtain⟨y,hy⟩:=hall f (List.mem_cons_self ..)
 obtain⟨a,h1,h2⟩:=h _ _ _ hy
 obtain⟨b,h3,h4⟩:=hr n cs fun g hg=>hall g (List.mem_cons_of_mem _ hg)
 refine⟨(a,b),?_,h2,h4⟩
 show _=e1 a++e2 b
 rw[List.take_add,List.drop_drop,h3,←h1,ho,hc]
theorem Opn.struct {fs:Array Field} {m:Nat} {α:Type} {f:α→List Value} {Q:α→Prop} (ht:P.underlying t=some (.struct fs)) (hm:P.cellsOf t=m) (h:OpnF enc P W 0 fs.toList m f Q):Opn enc P W t f Q:=fun fuel cs x hx=>by
 obtain⟨xs,n,_,_,hlen,hxl,hel⟩:=DataW.trod_struct ht hx
 obtain⟨a,h1,h2⟩:=h n cs fun g hg=>by
  obtain⟨i,hi,he⟩:=List.getElem_of_mem hg
  have hi':i < fs.size:=by simpa using hi
  have:=hel i g (by rw[Array.getElem?_eq_getElem hi'];simpa using he)
  rw[List.getElem?_eq_getElem (by omega)] at this
  exact⟨_,this⟩
 refine⟨a,?_,h2⟩
 rw[←h1,List.drop_zero,List.take_of_length_le (by omega)]
theorem Opn.arr8 {n:Nat} (A:ArrKey P t e n) (he:P.underlying e=some (.int .u8)):Opn enc P W t (fun l:List UInt8=>l.map vU8) (fun l=>l.length=n):=fun fuel cs x hx=>by
 obtain⟨zs,h1,_,h3,h4⟩:=Pv A he hx
 obtain⟨l,h5,h6⟩:=u8s zs h4
 exact⟨l,h1.trans h5,by omega⟩
theorem Abl:∀(zs:List Int),(∀z∈zs,(Lit.int .u64 z).wf=true)→∃l:List UInt64,zs.map (Value.int .u64)=l.map vU64∧l.length=zs.length
 |[],_=>⟨[],rfl,rfl⟩
 |z::zs,h=>by
  obtain⟨l,h1,h2⟩:=Abl zs fun y hy=>h y (List.mem_cons_of_mem _ hy)
  obtain⟨b,hb⟩:∃b:UInt64,Value.int .u64 z=vU64 b:=by
   have hw:=h z (List.mem_cons_self ..)
   simp only[Lit.wf,Bool.and_eq_true,decide_eq_true_eq] at hw
   have hw:0≤z∧z≤18446744073709551615:=hw
   exact⟨UInt64.ofNat z.toNat,by unfold vU64 n64;rw[UInt64.toNat_ofNat'];congr 1;omega⟩
  exact⟨b::l,by rw[List.map_cons,List.map_cons,h1,hb],by simp [h2]⟩
theorem Opn.arr64 {n:Nat} (A:ArrKey P t e n) (he:P.underlying e=some (.int .u64)):Opn enc P W t (fun l:List UInt64=>l.map vU64) (fun l=>l.length=n):=fun fuel cs x hx=>by
 obtain⟨zs,h1,_,h3,h4⟩:=Pv A he hx
 obtain⟨l,h5,h6⟩:=Abl zs h4
 exact⟨l,h1.trans h5,by omega⟩
theorem Abm:∀(zs:List Int),(∀z∈zs,(Lit.int .u32 z).wf=true)→∃l:List UInt32,zs.map (Value.int .u32)=l.map Ap∧l.length=zs.length
 |[],_=>⟨[],rfl,rfl⟩
 |z::zs,h=>by
  obtain⟨l,h1,h2⟩:=Abm zs fun y hy=>h y (List.mem_cons_of_mem _ hy)
  obtain⟨b,hb⟩:∃b:UInt32,Value.int .u32 z=Ap b:=by
   have hw:=h z (List.mem_cons_self ..)
   simp only[Lit.wf,Bool.and_eq_true,decide_eq_true_eq] at hw
   have hw:0≤z∧z≤4294967295:=hw
   exact⟨UInt32.ofNat z.toNat,by unfold Ap n32;rw[UInt32.toNat_ofNat'];congr 1;omega⟩
  exact⟨b::l,by rw[List.map_cons,List.map_cons,h1,hb],by simp [h2]⟩
theorem Opn.arr32 {n:Nat} (A:ArrKey P t e n) (he:P.underlying e=some (.int .u32)):Opn enc P W t (fun l:List UInt32=>l.map Ap) (fun l=>l.length=n):=fun fuel cs x hx=>by
 obtain⟨zs,h1,_,h3,h4⟩:=Pv A he hx
 obtain⟨l,h5,h6⟩:=Abm zs h4
 exact⟨l,h1.trans h5,by omega⟩
theorem Opn.use {α:Type} {f:α→List Value} {Q:α→Prop} (h:Opn enc P W t f Q) {v:Value} {d:DataW H} {ps:List MemPlace} (hx:DataW.Trod enc P W 0 (fun _=>true) true t v d ps):∃a,v.cells.toList=f a∧Q a:=by
 obtain⟨fuel,hf⟩:=hx
 exact h _ _ _ hf
theorem Opn.useS {α:Type} {f:α→List Value} {Q:α→Prop} (h:Opn enc P W t f Q) {fs:Array Field} (ht:P.underlying t=some (.struct fs)) {v:Value} {r:Reach} {b:Nat} (hv:Value.okWide P W r b t v) {d:DataW H} {ps:List MemPlace} (hx:DataW.Trod enc P W 0 (fun _=>true) true t v d ps):∃a,v=.agg (f a).toArray∧Q a:=by
 obtain⟨cs,rfl,_⟩:=okWide_struct ht hv
 obtain⟨a,h1,h2⟩:=h.use hx
 refine⟨a,?_,h2⟩
 rw[←h1]
 rfl
theorem Opn.use1 {α:Type} {f:α→Value} {Q:α→Prop} (h:Opn enc P W t (fun a=>[f a]) Q) {v:Value} (hn:v.cells.toList=[v]) {d:DataW H} {ps:List MemPlace} (hx:DataW.Trod enc P W 0 (fun _=>true) true t v d ps):∃a,v=f a∧Q a:=by
 obtain⟨a,h1,h2⟩:=h.use hx
 rw[hn] at h1
 exact⟨a,by simpa using h1,h2⟩
theorem Opn.useL {α:Type} {f:α→Value} {Q:α→Prop} (h:Opn enc P W t (fun a=>[f a]) Q) (ht:P.underlying t=some (.slice e)) {v:Value} {r:Reach} {b:Nat} (hv:Value.okWide P W r b t v) {d:DataW H} {ps:List MemPlace} (hx:DataW.Trod enc P W 0 (fun _=>true) true t v d ps):∃a,v=f a∧Q a:=by
 obtain⟨A,n,c,rfl⟩:=okWide_slice ht hv
 exact h.use1 (by simp [Value.cells]) hx
end
end
section
def dgV:Nat→Nat→List UInt8
 |0,_=>[]
 |k+1,v=>dgV k (v / 256)++[UInt8.ofNat (v % 256)]
def fbV (l:List UInt8):Nat:=l.foldl (fun v x=>256*v+x.toNat) 0
def nbV:Nat→Nat→Nat
 |0,_=>1
 |k+1,v=>if v < 256 then 1 else 1+nbV k (v / 256)
def nb8 (v:UInt64):Nat:=nbV 7 v.toNat
def Hy (v:UInt64):List UInt8:=if v < 248 then [v.toUInt8] else UInt8.ofNat (247+nb8 v)::dgV (nb8 v) v.toNat
def Ap7:List UInt8→Option (UInt64×Nat)
 |[]=>none
 |x::t=>if x < 248 then some (x.toUInt64,1)
  else if t.length < x.toNat - 247∨ix t 0=0 then none
  else if fbV (t.take (x.toNat - 247)) < 248 then none
  else some (UInt64.ofNat (fbV (t.take (x.toNat - 247))),x.toNat - 246)
end
section
structure Fd where
 k:UInt8
 n:UInt64
 l:List UInt64
 b:List UInt8
 s:List UInt8
 x:List UInt32
 many:Int
 most:UInt64
def w4 (a b c d:UInt8):UInt32:=a.toUInt32 <<< 24|||b.toUInt32 <<< 16|||c.toUInt32 <<< 8|||d.toUInt32
def b4 (v:UInt32):List UInt8:=[(v >>> 24).toUInt8,(v >>> 16).toUInt8,(v >>> 8).toUInt8,v.toUInt8]
def Abn (x:List UInt32):List UInt8:=x.flatMap b4
def N9 (l:List UInt64):List UInt8:=l.flatMap Hy
def Jq {α:Type} (l:List α):List UInt8:=Hy (UInt64.ofNat l.length)
def Ap8 (f:Fd):List UInt8:=
 if f.k=0 then Hy f.n else if f.k=1 then Jq f.l++N9 f.l else if f.k=2 then Jq f.b++f.b else if f.k=3 then f.s else Jq f.x++Abn f.x
def A17 (l:List Fd):List UInt8:=l.flatMap Ap8
abbrev Rs:=List UInt8×Bool
def Hz:Rs:=([],true)
def Cw (most:UInt64) (st:Rs):UInt64×Bool×Rs:=match Ap7 st.1 with
 |some (v,n)=>if v≤most then (v,true,(st.1.drop n,st.2)) else (0,false,Hz)
 |none=>(0,false,Hz)
def Oa (many:Int):UInt64:=UInt64.ofNat (max many 0).toNat
def Ey (many:Int) (each:Nat) (st:Rs):Nat×Bool×Rs:=
 if (Cw (Oa many) st).2.1=true then
  (if (Cw (Oa many) st).1.toNat≤(Cw (Oa many) st).2.2.1.length / each then ((Cw (Oa many) st).1.toNat,true,(Cw (Oa many) st).2.2) else (0,false,Hz))
 else (0,false,Hz)
def Abo (most:UInt64):Nat→List UInt64→Rs→List UInt64×Rs
 |0,acc,st=>(acc,st)
 |n+1,acc,st=>if (Cw most st).2.1=true then Abo most n (acc++[(Cw most st).1]) (Cw most st).2.2 else ([],Hz)
def Abp:List UInt8→List UInt32
 |a::b::c::d::r=>w4 a b c d::Abp r
 |_=>[]
def Fj (many:Int) (most:UInt64) (st:Rs):List UInt64×Rs:=
 if (Ey many 1 st).2.1=true then Abo most (Ey many 1 st).1 [] (Ey many 1 st).2.2 else ([],Hz)
def bytesOf (many:Int) (st:Rs):List UInt8×Rs:=
 if (Ey many 1 st).2.1=true then ((Ey many 1 st).2.2.1.take (Ey many 1 st).1,((Ey many 1 st).2.2.1.drop (Ey many 1 st).1,(Ey many 1 st).2.2.2)) else ([],Hz)
def Rp (st:Rs):List UInt8×Rs:=if st.1.length < 32 then (List.replicate 32 0,Hz) else (st.1.take 32,(st.1.drop 32,st.2))
def Rq (many:Int) (st:Rs):List UInt32×Rs:=
 if (Ey many 4 st).2.1=true then (Abp ((Ey many 4 st).2.2.1.take (4*(Ey many 4 st).1)),((Ey many 4 st).2.2.1.drop (4*(Ey many 4 st).1),(Ey many 4 st).2.2.2)) else ([],Hz)
def H4 (k:UInt8):Fd:=⟨k,0,[],[],List.replicate 32 0,[],0,0⟩
def A18 (f:Fd) (st:Rs):Fd×Rs:=
 if f.k=0 then ({H4 f.k with n:=(Cw f.most st).1},(Cw f.most st).2.2)
 else if f.k=1 then ({H4 f.k with l:=(Fj f.many f.most st).1},(Fj f.many f.most st).2)
 else if f.k=2 then ({H4 f.k with b:=(bytesOf f.many st).1},(bytesOf f.many st).2)
 else if f.k=3 then ({H4 f.k with s:=(Rp st).1},(Rp st).2)
 else ({H4 f.k with x:=(Rq f.many st).1},(Rq f.many st).2)
def pre (c:Nat) (l:List UInt8):Rs:=(l.take c,false)
def A19 (f:Fd):Fd:={f with many:=300,most:=18446744073709551615}
def A2a (f:Fd):Fd:=if f.k=0 then {H4 f.k with n:=f.n} else if f.k=1 then {H4 f.k with l:=f.l} else if f.k=2 then {H4 f.k with b:=f.b} else if f.k=3 then {H4 f.k with s:=f.s} else {H4 f.k with x:=f.x}
end
end Go.Proofs.YtedaafmfjhjfmaaGreatDoor
