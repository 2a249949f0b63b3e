import Derived.Test.YtedaafmfjhjfmaaGreatDoorPk0
import Derived.Test.YtedaafmfjhjfmaaGreatDoorTs3
import Derived.Test.YtedaafmfjhjfmaaGreatDoorHbG
import Derived.Test.YtedaafmfjhjfmaaGreatDoorPreA
import Derived.Test.YtedaafmfjhjfmaaGreatDoorCards
/- What opens arguments, with how long each slice of them may be. No program in sight. -/
namespace Go.Proofs.YtedaafmfjhjfmaaGreatDoor
open _root_.Go.Proofs.Tryz
section
open Go.ChangeShapes Go.WideShapes Go.ChangeAt Go.WideMaps Go.WideElems Go.RowKit
section
variable {H:Type} (enc:TypeId×Value→H) (P:Program) (W:World)
def Wgt (t:TypeId) (d:DataW H):Prop:=∀n∈d.weights P t,n≤reachBytes
def OpnW (t:TypeId) {α:Type} (e:α→List Value) (Q:α→Prop):Prop:=
 ∀fuel cs x,DataW.trod enc P W 0 (fun _=>true) true fuel t cs=some x→Wgt P t x.1→∃a,cs=e a∧Q a
def OpnFW (off:Nat) (fs:List Field) (m:Nat) {α:Type} (e:α→List Value) (Q:α→Prop):Prop:=
 ∀(n:Nat) (cs:List Value) (xs:List (DataW H×List MemPlace)),xs.length=fs.length→(∀(i:Nat) (f:Field),fs[i]?=some f→DataW.trod enc P W 0 (fun _=>true) true n f.type ((cs.drop f.offset).take (P.cellsOf f.type))=xs[i]?)→
  (∀k∈DataW.weightsEach P (fs.map (·.type)) (xs.map (·.1)),k≤reachBytes)→∃a,(cs.drop off).take m=e a∧Q a
end
section
variable {H:Type} {enc:TypeId×Value→H} {P:Program} {W:World} {t e:TypeId}
theorem Opn.w {α:Type} {f:α→List Value} {Q:α→Prop} (h:Opn enc P W t f Q):OpnW enc P W t f Q:=fun fuel cs x hx _=>h fuel cs x hx
theorem A1n {l:List (DataW H)} {d:DataW H} (hd:d∈l) {n:Nat} (hn:n∈d.weights P e):n∈DataW.weightsAll P e l:=by
 induction l with
 |nil=>cases hd
 |cons x l ih=>
  rw[DataW.weightsAll]
  rcases List.mem_cons.1 hd with rfl|hd
  ·exact List.mem_append_left _ hn
  ·exact List.mem_append_right _ (ih hd)
theorem OpnW.slice {α:Type} [Inhabited α] {f:α→List Value} {Q:α→Prop} {m:Nat} (ht:P.underlying t=some (.slice e)) (hm:P.cellsOf e=m) (h0:0 < m) (hf:∀a,(f a).length=m) (h:OpnW enc P W e f Q):
  OpnW enc P W t (fun s:Slc α=>[s.val]) (fun s=>s.l.length≤s.c∧s.l.length*P.bytesOf e≤reachBytes∧RdV W W.heap.size s.A (s.l.flatMap f)∧∀a∈s.l,Q a):=fun fuel cs x hx hwg=>by
 rcases DataW.trod_slice ht hx with ⟨rfl,_⟩|⟨a,len,cap,elems,rest,n,_,rfl,hxe,_,hl,hc,hlen,hel,_,_⟩
 ·exact⟨⟨none,0,[]⟩,rfl,Nat.le_refl _,by simp,RdV.nil_,fun y h=>by cases h⟩
 ·have hd:x.1=.slice (elems.map (·.1)) (rest.map (·.1)):=congrArg Prod.fst hxe
  rw[hd] at hwg
  have hws:∀k∈((elems.map (·.1)).length+(rest.map (·.1)).length)*P.bytesOf e::(DataW.weightsAll P e (elems.map (·.1))++DataW.weightsAll P e (rest.map (·.1))),k≤reachBytes:=fun k hk=>hwg k (by unfold DataW.weights;rw[ht];exact hk)
  have hbl:len*P.bytesOf e≤reachBytes:=by
   have h1:=hws _ (List.mem_cons_self ..)
   rw[List.length_map,hlen] at h1
   exact Nat.le_trans (Nat.mul_le_mul_right _ (Nat.le_add_right _ _)) h1
  have each:∀i,i < len→∃y:α,W.cells? 0 (a.add (i*m)) m=some (f y)∧Q y:=by
   intro i hi
   have h1:=hel i hi
   rw[hm,List.getElem?_eq_getElem (by omega),Option.bind_eq_some_iff] at h1
   obtain⟨ci,h2,h3⟩:=h1
   obtain⟨y,h4,h5⟩:=h _ _ _ h3 fun k hk=>hws k (List.mem_cons_of_mem _ (List.mem_append_left _ (A1n (List.mem_map_of_mem (List.getElem_mem (by omega))) hk)))
   exact⟨y,by rw[h2,h4],h5⟩
  let g:Nat→α:=fun i=>if h:i < len then Classical.choose (each i h) else default
  have hg:∀i,i < len→W.cells? 0 (a.add (i*m)) m=some (f (g i))∧Q (g i):=by
   intro i hi
   simp only[g,dif_pos hi]
   exact Classical.choose_spec (each i hi)
  have hix:∀i,i < len→ix ((List.range len).map g) i=g i:=fun i hi=>by simp [ix,List.getD_eq_getElem?_getD,hi]
  have hgl:((List.range len).map g).length=len:=by simp
  refine⟨⟨some a,cap,(List.range len).map g⟩,by simp [Slc.val],by simpa using hl,by rw[hgl];exact hbl,fun hp=>?_,fun y hy=>?_⟩
  ·have hp0:0 < len:=by
    have hp:0 < (((List.range len).map g).flatMap f).length:=hp
    rw[Cv hf,hgl] at hp
    exact Nat.pos_of_ne_zero fun e=>by rw[e,Nat.zero_mul] at hp;exact Nat.lt_irrefl _ hp
   have hs:a.spot=none:=by
    obtain⟨_,h3⟩:=World.cells?_some (hg 0 hp0).1
    have h4:=h3.2 0 h0
    have h5:(f (g 0))[0]?=some ((f (g 0))[0]'(by rw[hf];exact h0)):=List.getElem?_eq_getElem _
    rw[h5] at h4
    simpa [Addr.add] using Abj h4
   obtain⟨xb,xo,xs⟩:=a
   subst hs
   have hb:xb < W.heap.size:=by
    have:=World.cells?_block (hg 0 hp0).1 h0
    simpa [Addr.add] using this
   refine⟨xb,xo,rfl,hb,fun j u hu=>?_⟩
   have hj:j < len*m:=by
    have:=(List.getElem?_eq_some_iff.1 hu).1
    rwa [Cv hf,hgl] at this
   have hjm:j=j / m*m+j % m:=by rw[Nat.mul_comm];exact (Nat.div_add_mod j m).symm
   have hi:j / m < len:=Nat.div_lt_of_lt_mul (by rwa [Nat.mul_comm] at hj)
   have hr:j % m < m:=Nat.mod_lt _ h0
   rw[hjm,Jo hf _ _ _ (by rw[hgl];exact hi) hr,hix _ hi] at hu
   obtain⟨_,h3⟩:=World.cells?_some (hg _ hi).1
   have h4:=h3.2 _ hr
   rw[hu] at h4
   rw[Bu,Bu,Nat.add_assoc,←hjm] at h4
   exact h4
  ·obtain⟨i,hi,rfl⟩:=List.mem_map.1 hy
   exact (hg i (List.mem_range.1 hi)).2
theorem OpnW.ones {α:Type} [Inhabited α] {f:α→Value} {Q:α→Prop} (ht:P.underlying t=some (.slice e)) (hm:P.cellsOf e=1) (h:OpnW enc P W e (fun x=>[f x]) Q):
  OpnW enc P W t (fun s:Slc α=>[s.val]) (fun s=>s.l.length≤s.c∧s.l.length*P.bytesOf e≤reachBytes∧RdV W W.heap.size s.A (s.l.map f)∧∀a∈s.l,Q a):=fun fuel cs x hx hw=>by
 obtain⟨s,h1,h2,h3,h4,h5⟩:=OpnW.slice ht hm (by omega) (fun _=>rfl) h fuel cs x hx hw
 rw[Abk] at h4
 exact⟨s,h1,h2,h3,h4,h5⟩
theorem OpnFW.nil {off:Nat}:OpnFW enc P W off [] 0 (fun _:Unit=>[]) (fun _=>True):=fun _ _ _ _ _ _=>⟨(),List.take_zero,trivial⟩
theorem OpnFW.cons {off k m:Nat} {f:Field} {fs:List Field} {α β:Type} {e1:α→List Value} {e2:β→List Value} {Q1:α→Prop} {Q2:β→Prop} (ho:f.offset=off) (hc:P.cellsOf f.type=k) (h:OpnW enc P W f.type e1 Q1) (hr:OpnFW enc P W (off+k) fs m e2 Q2):
  OpnFW enc P W off (f::fs) (k+m) (fun p:α×β=>e1 p.1++e2 p.2) (fun p=>Q1 p.1∧Q2 p.2):=fun n cs xs hlen hall hw=>by
 rcases xs with _|⟨x,xs⟩
 ·simp at hlen
 have hw:∀k∈x.1.weights P f.type++DataW.weightsEach P (fs.map (·.type)) (xs.map (·.1)),k≤reachBytes:=fun k hk=>hw k (by rw[List.map_cons,List.map_cons,DataW.weightsEach];exact hk)
 obtain⟨a,h1,h2⟩:=h _ _ _ (hall 0 f rfl) fun k hk=>hw k (List.mem_append_left _ hk)
 obtain⟨b,h3,h4⟩:=hr n cs xs (by simpa using hlen) (fun i g hg=>hall (i+1) g hg) fun k hk=>hw k (List.mem_append_right _ hk)
 refine⟨(a,b),?_,h2,h4⟩
 show _=e1 a++e2 b
 rw[List.take_add,List.drop_drop,h3,←h1,ho,hc]
theorem OpnW.struct {fs:Array Field} {m:Nat} {α:Type} {f:α→List Value} {Q:α→Prop} (ht:P.underlying t=some (.struct fs)) (hm:P.cellsOf t=m) (h:OpnFW enc P W 0 fs.toList m f Q):OpnW enc P W t f Q:=fun fuel cs x hx hw=>by
 obtain⟨xs,n,_,hxe,hlen,hxl,hel⟩:=DataW.trod_struct ht hx
 have hd:x.1=.agg (xs.map (·.1)):=congrArg Prod.fst hxe
 rw[hd] at hw
 obtain⟨a,h1,h2⟩:=h n cs xs (by simpa using hxl) (fun i g hg=>hel i g (by simpa using hg)) fun k hk=>hw k (by unfold DataW.weights;rw[ht];exact hk)
 refine⟨a,?_,h2⟩
 rw[←h1,List.drop_zero,List.take_of_length_le (by omega)]
theorem OpnW.useS {α:Type} {f:α→List Value} {Q:α→Prop} (h:OpnW enc P W t f Q) {fs:Array Field} (ht:P.underlying t=some (.struct fs)) {v:Value} {r:Reach} {b:Nat} (hv:Value.okWide P W r b t v) {d:DataW H} {ps:List MemPlace} (hx:DataW.Trod enc P W 0 (fun _=>true) true t v d ps) (hw:∀n∈d.weights P t,n≤reachBytes):∃a,v=.agg (f a).toArray∧Q a:=by
 obtain⟨cs,rfl,_⟩:=okWide_struct ht hv
 obtain⟨fuel,hf⟩:=hx
 obtain⟨a,h1,h2⟩:=h _ _ _ hf hw
 refine⟨a,?_,h2⟩
 rw[←h1]
 rfl
theorem OpnW.useL {α:Type} {f:α→Value} {Q:α→Prop} (h:OpnW enc P W t (fun a=>[f a]) Q) (ht:P.underlying t=some (.slice e)) {v:Value} {r:Reach} {b:Nat} (hv:Value.okWide P W r b t v) {d:DataW H} {ps:List MemPlace} (hx:DataW.Trod enc P W 0 (fun _=>true) true t v d ps) (hw:∀n∈d.weights P t,n≤reachBytes):∃a,v=f a∧Q a:=by
 obtain⟨A,n,c,rfl⟩:=okWide_slice ht hv
 obtain⟨fuel,hf⟩:=hx
 obtain⟨a,h1,h2⟩:=h _ _ _ hf hw
 refine⟨a,?_,h2⟩
 have h1:(Value.slice A n c).cells.toList=[f a]:=h1
 have h3:(Value.slice A n c).cells.toList=[.slice A n c]:=by simp [Value.cells]
 rw[h3] at h1
 simpa using h1
end
end
section
open Go.ChangeShapes Go.WideShapes Go.ChangeAt Go.WideMaps Go.WideElems Go.RowKit
instance:Inhabited (Int×Int×Int×Unit):=⟨(0,0,0,())⟩
section
variable {H:Type} {enc:TypeId×Value→H} {W:World}
set_option maxRecDepth 100000 in
theorem A1o:Opn enc prog W 106 plV (fun _=>True):=fun fuel cs y h=>by
 obtain⟨⟨a,b,n,_⟩,h1,_⟩:=(Opn.struct (m:=3) underlying106 (by kernel_rfl)
  (OpnF.cons (k:=1) rfl (by kernel_rfl) (Opn.i64 underlying3) (OpnF.cons (k:=1) rfl (by kernel_rfl) (Opn.i64 underlying3) (OpnF.cons (k:=1) rfl (by kernel_rfl) (Opn.i64 underlying3) OpnF.nil)))) fuel cs y h
 exact⟨⟨a,b,n⟩,h1,trivial⟩
theorem A1p:prog.bytesOf 3=8:=by kernel_rfl
theorem A1q:prog.bytesOf 106=24:=by kernel_rfl
theorem A1r:prog.bytesOf 87=40:=by kernel_rfl
set_option maxRecDepth 100000 in
theorem A1s:OpnW enc prog W 87 grV (fun g:GrR=>g.ids.l.length≤g.ids.c∧g.ids.l.length*8≤140737488351232∧RdV W W.heap.size g.ids.A (g.ids.l.map (Value.int .i64))):=fun fuel cs y h hw=>by
 obtain⟨⟨a,s,n,_⟩,h1,_,⟨s1,s2,s3,_⟩,_⟩:=(OpnW.struct (m:=3) underlying87 (by kernel_rfl)
  (OpnFW.cons (k:=1) rfl (by kernel_rfl) (Opn.i64 underlying3).w (OpnFW.cons (k:=1) rfl (by kernel_rfl) (OpnW.ones underlying43 (by kernel_rfl) (Opn.i64 underlying3).w) (OpnFW.cons (k:=1) rfl (by kernel_rfl) (Opn.i64 underlying3).w OpnFW.nil)))) fuel cs y h hw
 rw[A1p] at s2
 exact⟨⟨a,⟨s.A,s.c,s.l⟩,n⟩,h1,s1,s2,s3⟩
set_option maxRecDepth 100000 in
theorem A1t:OpnW enc prog W 25 cfV (fun c:CfR=>c.Wide W):=fun fuel cs y h hw=>by
 obtain⟨⟨dim,ps,gs,least,term,_⟩,h1,_,⟨p1,p2,p3,_⟩,⟨g1,g2,g3,g4⟩,_⟩:=(OpnW.struct (m:=5) underlying25 (by kernel_rfl)
  (OpnFW.cons (k:=1) rfl (by kernel_rfl) (Opn.i64 underlying3).w (OpnFW.cons (k:=1) rfl (by kernel_rfl) (OpnW.slice (m:=3) underlying22 (by kernel_rfl) (by omega) I4 A1o.w)
  (OpnFW.cons (k:=1) rfl (by kernel_rfl) (OpnW.slice (m:=3) underlying23 (by kernel_rfl) (by omega) Jw A1s) (OpnFW.cons (k:=1) rfl (by kernel_rfl) (Opn.i64 underlying3).w (OpnFW.cons (k:=1) rfl (by kernel_rfl) (Opn.i64 underlying3).w OpnFW.nil)))))) fuel cs y h hw
 rw[A1q] at p2
 rw[A1r] at g2
 exact⟨⟨dim,⟨ps.A,ps.c,ps.l⟩,⟨gs.A,gs.c,gs.l⟩,least,term⟩,h1,⟨p1,p2,p3,g1,g2,g3,g4⟩⟩
set_option maxRecDepth 100000 in
theorem A1u {v:Value} {d:DataW H} {ps:List MemPlace} {r:Reach} {b:Nat} (hv:Value.okWide prog W r b 25 v) (h:DataW.Trod enc prog W 0 (fun _=>true) true 25 v d ps) (hw:∀n∈d.weights prog 25,n≤reachBytes):
  ∃c:CfR,v=.agg (cfV c).toArray∧c.Wide W:=A1t.useS underlying25 hv h hw
end
end
section
open Go.ChangeShapes Go.WideShapes Go.ChangeAt Go.WideMaps Go.WideElems Go.RowKit
section
variable {H:Type} {enc:TypeId×Value→H} {W:World}
set_option maxRecDepth 100000 in
theorem A1v:ArrKey prog 42 5 32:=⟨underlying42,by kernel_rfl,by kernel_rfl,by kernel_rfl⟩
set_option maxRecDepth 100000 in
theorem Af2:ArrKey prog 26 3 2:=⟨underlying26,by kernel_rfl,by kernel_rfl,by kernel_rfl⟩
set_option maxRecDepth 100000 in
theorem A1w {v:Value} {d:DataW H} {ps:List MemPlace} {r:Reach} {b:Nat} (hv:Value.okWide prog W r b 26 v) (h:DataW.Trod enc prog W 0 (fun _=>true) true 26 v d ps):∃x y:Int,v=.agg #[.int .i64 x,.int .i64 y]:=by
 obtain⟨xs,rfl,hx⟩:=okWide_arr Af2 hv
 obtain⟨fuel,hf⟩:=h
 obtain⟨zs,h1,_,h3,h4⟩:=Pv Af2 underlying3 hf
 match zs,(show zs.length=2 by omega) with
 |[x,y],_=>
  refine⟨x,y,?_⟩
  have h1:xs.toList=[.int .i64 x,.int .i64 y]:=h1
  congr 1
  exact Array.ext' h1
set_option maxRecDepth 100000 in
theorem A1x:Opn enc prog W 163 pv (fun _=>True):=fun fuel cs y h=>by
 obtain⟨⟨a,b,_⟩,h1,_⟩:=(Opn.struct (m:=2) underlying163 (by kernel_rfl) (OpnF.cons (k:=1) rfl (by kernel_rfl) (Opn.i64 underlying3) (OpnF.cons (k:=1) rfl (by kernel_rfl) (Opn.u64 underlying41) OpnF.nil))) fuel cs y h
 exact⟨(a,b),h1,trivial⟩
set_option maxRecDepth 100000 in
theorem A1y:Opn enc prog W 52 mgV (fun m:MgR=>m.Wide W):=fun fuel cs y h=>by
 obtain⟨⟨k,pl,ot,cl,ge,nu,sm,ids,ns,ps,xs,re,_⟩,h1,_,_,_,_,_,_,hs,⟨i1,_,i3,_⟩,⟨n1,_,n3,_⟩,⟨p1,_,p3,_⟩,⟨x1,_,x3,_⟩,_⟩:=(Opn.struct (m:=43) underlying52 (by kernel_rfl)
  (OpnF.cons (k:=1) rfl (by kernel_rfl) (Opn.u8 underlying5) (OpnF.cons (k:=1) rfl (by kernel_rfl) (Opn.i64 underlying3) (OpnF.cons (k:=1) rfl (by kernel_rfl) (Opn.i64 underlying3) (OpnF.cons (k:=1) rfl (by kernel_rfl) (Opn.i64 underlying3) (OpnF.cons (k:=1) rfl (by kernel_rfl) (Opn.i64 underlying3) (OpnF.cons (k:=1) rfl (by kernel_rfl) (Opn.u64 underlying41)
  (OpnF.cons (k:=32) rfl (by kernel_rfl) (Opn.arr8 A1v underlying5) (OpnF.cons (k:=1) rfl (by kernel_rfl) (Opn.ones underlying43 (by kernel_rfl) (Opn.i64 underlying3)) (OpnF.cons (k:=1) rfl (by kernel_rfl) (Opn.ones underlying44 (by kernel_rfl) (Opn.u64 underlying41))
  (OpnF.cons (k:=1) rfl (by kernel_rfl) (Opn.slice (m:=2) underlying50 (by kernel_rfl) (by omega) Rx A1x) (OpnF.cons (k:=1) rfl (by kernel_rfl) (Opn.ones underlying46 (by kernel_rfl) (Opn.u32 underlying111)) (OpnF.cons (k:=1) rfl (by kernel_rfl) (Opn.i64 underlying3) OpnF.nil))))))))))))) fuel cs y h
 refine⟨⟨k,pl,ot,cl,ge,nu,sm,⟨ids.A,ids.c,ids.l⟩,⟨ns.A,ns.c,ns.l⟩,⟨ps.A,ps.c,ps.l⟩,⟨xs.A,xs.c,xs.l⟩,re⟩,?_,⟨hs,⟨i1,i3⟩,⟨n1,n3⟩,⟨p1,p3⟩,⟨x1,x3⟩⟩⟩
 rw[h1]
 rfl
abbrev MgX:={m:MgR // m.sm.length=32}
instance:Inhabited MgX:=⟨⟨zeroR,rfl⟩⟩
theorem A1z:Opn enc prog W 52 (fun x:MgX=>mgV x.1) (fun x=>x.1.Wide W):=fun fuel cs y h=>by
 obtain⟨m,h1,h2⟩:=A1y fuel cs y h
 exact⟨⟨m,h2.s⟩,h1,h2⟩
abbrev AcX:={a:AcR // a.m.sm.length=32}
instance:Inhabited AcX:=⟨⟨Jd,rfl⟩⟩
set_option maxRecDepth 100000 in
theorem A10:Opn enc prog W 83 (fun x:AcX=>acV x.1) (fun x=>x.1.m.Wide W):=fun fuel cs y h=>by
 obtain⟨⟨m,g,_⟩,h1,h2,_⟩:=(Opn.struct (m:=44) underlying83 (by kernel_rfl) (OpnF.cons (k:=43) rfl (by kernel_rfl) A1z (OpnF.cons (k:=1) rfl (by kernel_rfl) (Opn.i64 underlying3) OpnF.nil))) fuel cs y h
 exact⟨⟨⟨m.1,g⟩,m.2⟩,h1.trans (by rfl),h2⟩
set_option maxRecDepth 100000 in
theorem A11 {v:Value} {d:DataW H} {ps:List MemPlace} {r:Reach} {b:Nat} (hv:Value.okWide prog W r b 78 v) (h:DataW.Trod enc prog W 0 (fun _=>true) true 78 v d ps):
  ∃(A:Option Addr) (c:Nat) (l:List AcR),v=.slice A l.length c∧l.length≤c∧RdV W W.heap.size A (l.flatMap acV)∧∀a∈l,a.m.Wide W:=by
 obtain⟨⟨A,c,l⟩,h1,h2,_,h4,h5⟩:=(Opn.slice (m:=44) underlying78 (by kernel_rfl) (by omega) (fun x:AcX=>X1 x.2) A10).useL underlying78 hv h
 refine⟨A,c,l.map Subtype.val,?_,?_,?_,fun m hm=>?_⟩
 ·rw[h1,List.length_map]
  rfl
 ·rw[List.length_map]
  exact h2
 ·rw[List.flatMap_map]
  exact h4
 ·obtain⟨x,hx,rfl⟩:=List.mem_map.1 hm
  exact h5 x hx
end
end
section
open Go.ChangeShapes Go.WideShapes Go.ChangeAt Go.WideMaps Go.WideElems Go.RowKit
theorem A12 {H:Type} {P:Program} {t:TypeId} {ts:List TypeId} {d:DataW H} {ds:List (DataW H)} (h:(DataW.weightsEach P (t::ts) (d::ds)).all (·≤reachBytes)=true):(∀n∈d.weights P t,n≤reachBytes)∧(DataW.weightsEach P ts ds).all (·≤reachBytes)=true:=by
 unfold DataW.weightsEach at h
 rw[List.all_append,Bool.and_eq_true] at h
 refine⟨fun n hn=>?_,h.2⟩
 have:=List.all_eq_true.1 h.1 n hn
 simpa using this
set_option maxRecDepth 100000 in
theorem A13 (os:Os) (started:os.Started) (H:Type) (enc:TypeId×Value→H):
  ReturnsInHanded {} Tryz.checked os 6 .any (fun w args=>(Rows.hubOnceSpec.pre enc prog Tryz.f6 [] false w args∧laidMetH prog N4 w)∧sizedMet enc prog Tryz.f6 (OpenSpec.ofChange Rows.hubOnceSpec) false w args)
   (Rows.hubOnceSpec.post enc prog Tryz.f6 false true false false):=by
 refine returnsInHanded_of_change_and (C:=Tryz.checked) (X:=fun w _=>laidMetH prog N4 w) (fun _ _ _ hh h=>h.of_heap hh) own started (by kernel_rfl) func6
  (ChangeSpec.witness_shaped (enc:=enc) (C:=Tryz.checked) (os:=os) (X:=fun w _=>laidMetH prog N4 w) false (worldHA os) #[.agg #[.int .i64 0,.slice none 0 0,.slice none 0 0,.int .i64 0,.int .i64 0],.agg #[.int .i64 0,.int .i64 0],.slice none 0 0] 40 rfl (World.shaped_of_RefB (by kernel_rfl) (by kernel_rfl)) (by kernel_rfl) (by kernel_rfl) (by kernel_rfl) (Apj os _)) ?_
 intro W base args ds gs before hval0 hW _ hWt hL _
 have hval:∀(j:Nat) t v,Tryz.f6.params[j]?=some t→args[j]?=some v→Value.okWide prog W .any base t v:=hval0
 have hW':=hW
 obtain⟨p,q,hA0,hV,rfl,hfz,hnd⟩:=hW
 have hA:DataW.TrodAll enc prog W 0 (fun _=>true) true Tryz.f6.params.toList args.toList ds p:=hA0
 rw[Tryz.params6] at hA hval
 obtain⟨v0,vs0,d0,ds0,p0,q0,hargs,rfl,rfl,h0,r0⟩:=trodAll_cons hA
 obtain⟨v1,vs1,d1,ds1,p1,q1,rfl,rfl,rfl,h1,r1⟩:=trodAll_cons r0
 obtain⟨v2,vs2,d2,ds2,p2,q2,rfl,rfl,rfl,h2,r2⟩:=trodAll_cons r1
 obtain⟨rfl,rfl,rfl⟩:=trodAll_nil r2
 obtain rfl:args=#[v0,v1,v2]:=by cases args;simp_all
 obtain⟨rfl,rfl⟩:=trodVars_none hV
 obtain⟨hw0,_⟩:=A12 hWt
 obtain⟨c,e0,hc⟩:=A1u (hval 0 _ v0 rfl rfl) h0 hw0
 obtain⟨p0',g0',e1⟩:=A1w (hval 1 _ v1 rfl rfl) h1
 obtain⟨Ab,cb,l,e2,hcap,rb,hl⟩:=A11 (hval 2 _ v2 rfl rfl) h2
 have hg:=Api hL
 clear hA0 hval0
 have hwalk:=A1m c p0' g0' Ab cb l W hg hc hcap rb hl
 rw[←e0,←e1,←e2] at hwalk
 refine hwalk.mono fun e W' ⟨he,bel⟩=>?_
 subst he
 exact⟨_,rfl,_,_,_,[],_,[],hW',trodAll_mk1 (shut_bool underlying4 _),(trodAll_cons_mk (Below.trod T4 (by kernel_rfl) (of_decide_eq_true (by kernel_rfl)) h0 bel (T5 h0)) (trodAll_cons_mk (Below.trod T4 (by kernel_rfl) (of_decide_eq_true (by kernel_rfl)) h1 bel (T5 h1)) (trodAll_cons_mk (Below.trod T4 (by kernel_rfl) (of_decide_eq_true (by kernel_rfl)) h2 bel (T5 h2)) trodAll_mk0))),rfl,bel.frame _,fun h=>by cases h⟩
theorem A14:Rows.HubOnceSaid:=
 OpenClaim.holds_of_wide 6 Tryz.f6 rfl rfl rfl rfl rfl rfl rfl ⟨rfl,rfl,rfl,rfl,rfl⟩ rfl rfl rfl rfl rfl (by kernel_rfl) func6 (by kernel_rfl)
  (of_decide_eq_true (by kernel_rfl)) (by unfold Func.isWrapper;first|(rw[if_pos (by decide+kernel)];kernel_rfl)|(rw[if_neg (by decide+kernel)];exact⟨rfl,rfl⟩))
  (fun os started H enc _=>A13 os started H enc)
end
end Go.Proofs.YtedaafmfjhjfmaaGreatDoor
