import Derived.Test.YtedaafmfjhjfmaaGreatDoorTie
import Derived.Test.YtedaafmfjhjfmaaGreatDoorBase
import Derived.ProofKit
import Derived.LaidMore
import Derived.OpenShut
import Derived.Stop.Joined
import Derived.WideKeyArr2
import Derived.ChangeMaps5
import Derived.Lay
import Derived.Test.YtedaafmfjhjfmaaGreatDoorProg
import Derived.WalkKit
import Derived.LaidEql
import Derived.Stop.Asserts
import Derived.RowKitTokens
import Derived.Lib.ConvBytes
/- What opens the arguments of the claims: numbers in a row. -/
namespace Go.Proofs.YtedaafmfjhjfmaaGreatDoor
open _root_.Go.Proofs.Tryz
set_option linter.unusedSimpArgs false
section
open Go.ChangeShapes Go.WideShapes Go.ChangeAt Go.WideMaps Go.WideElems Go.RowKit
theorem own:ownKnob prog.godebug=none:=by kernel_rfl
theorem T4:laidOutB prog=true:=by kernel_rfl
section
variable {H:Type} {enc:TypeId×Value→H} {P:Program} {k e:TypeId} {n:Nat} {q:IntKind} {W:World} {base:Nat} {sp:Nat→Bool} {held:Bool}
theorem Yb (he:P.underlying e=some (.int q)) {m:Nat} {cs:List Value}:∀(L:List Nat) (xs:List (DataW H×List MemPlace)),
  L.mapM (fun i=>DataW.trod enc P W base sp held m e ((cs.drop (i*1)).take 1))=some xs→
  ∃zs:List Int,xs=zs.map (fun z=>(.lit (.int q z),[]))∧L.map (fun i=>(cs.drop (i*1)).take 1)=zs.map (fun z=>[.int q z])∧∀z∈zs,(Lit.int q z).wf=true
 |[],xs,h=>by
  simp at h
  subst h
  exact⟨[],rfl,rfl,by simp⟩
 |i::L,xs,h=>by
  rw[List.mapM_cons] at h
  simp only[bind,Option.bind_eq_some_iff,pure,Option.some.injEq] at h
  obtain⟨y,hy,ys,hys,rfl⟩:=h
  obtain⟨zs,rfl,h2,h3⟩:=Yb he L ys hys
  obtain⟨a,ea,rfl,wa⟩:=DataW.trod_int he hy
  refine⟨a::zs,rfl,by rw[List.map_cons,ea,h2];rfl,fun z hz=>?_⟩
  rcases List.mem_cons.1 hz with rfl|hz
  ·exact wa
  ·exact h3 z hz
theorem Agp {α:Type} (cs:List α):(List.range cs.length).map (fun i=>(cs.drop (i*1)).take 1)=cs.map fun x=>[x]:=by
 apply List.ext_getElem
 ·simp
 ·intro i h1 h2
  simp only[List.length_map,List.length_range] at h1
  rw[List.getElem_map,List.getElem_map,List.getElem_range,Nat.mul_one,List.drop_eq_getElem_cons h1,List.take_succ_cons,List.take_zero]
theorem Pv (A:ArrKey P k e n) (he:P.underlying e=some (.int q)) {fuel:Nat} {cs:List Value} {x:DataW H×List MemPlace} (hd:DataW.trod enc P W base sp held fuel k cs=some x):
  ∃zs:List Int,cs=zs.map (Value.int q)∧x=(.agg (zs.map fun z=>.lit (.int q z)),[])∧zs.length=n∧∀z∈zs,(Lit.int q z).wf=true:=by
 cases fuel with
 |zero=>simp [DataW.trod] at hd
 |succ m=>
  rw[DataW.trod_step] at hd
  unfold DataW.trodStep at hd
  simp only[A.hu] at hd
  split at hd
  ·rename_i hl
   simp only[A.size,A.one] at hl hd
   simp only[Option.map_eq_some_iff] at hd
   obtain⟨ys,hy,rfl⟩:=hd
   obtain⟨zs,rfl,h2,h3⟩:=Yb he _ ys hy
   rw[←hl,Agp] at h2
   have h4:cs=zs.map (Value.int q):=by
    have:=congrArg (List.map fun x:List Value=>x.headD undef) h2
    simpa [Function.comp_def] using this
   refine⟨zs,h4,by simp [Function.comp_def,List.flatMap_eq_nil_iff],by rw[←hl,h4];simp,h3⟩
  ·cases hd
end
theorem u8s:∀(zs:List Int),(∀z∈zs,(Lit.int .u8 z).wf=true)→∃l:List UInt8,zs.map (Value.int .u8)=l.map vU8∧l.length=zs.length
 |[],_=>⟨[],rfl,rfl⟩
 |z::zs,h=>by
  obtain⟨l,h1,h2⟩:=u8s zs fun y hy=>h y (List.mem_cons_of_mem _ hy)
  obtain⟨b,hb⟩:∃b:UInt8,Value.int .u8 z=vU8 b:=by
   have hw:=h z (List.mem_cons_self ..)
   simp only[Lit.wf,Bool.and_eq_true,decide_eq_true_eq] at hw
   have hw:0≤z∧z≤255:=hw
   exact⟨UInt8.ofNat z.toNat,by unfold vU8 n8;rw[UInt8.toNat_ofNat'];congr 1;omega⟩
  exact⟨b::l,by rw[List.map_cons,List.map_cons,h1,hb],by simp [h2]⟩
theorem T5 {H:Type} {enc:TypeId×Value→H} {W:World} {t:TypeId} {v:Value} {d:DataW H} {ps:List MemPlace} (h:DataW.Trod enc prog W 0 (fun _=>true) true t v d ps):∀x∈ps,x.block < W.heap.size:=by
 obtain⟨m,hm⟩:=h
 exact DataW.trod_lt m _ _ _ hm
end
section
open Go.RowKit Go.Extern.Stop Go.Stop Go.Extern
theorem Agq (t:Addr) (w:World):(ReflectliteValue.unpack (.iface 155 (.pointer (some t)))).run prog w
  =.ok (.agg #[.pointer (some ⟨1,155,none⟩),.pointer (some ⟨w.heap.size,0,none⟩),.int .u64 150]) (w.alloc (.cells #[.pointer (some t)] 155)):=by kernel_rfl
theorem Ags (a:Addr) (w:World):(ReflectliteValue.methodAny (ReflectliteValue.valueError "reflectlite.Value.Type" 0) (fun t _ _ _=>ReflectliteType.toType t) #[.agg #[.pointer (some ⟨1,155,none⟩),.pointer (some a),.int .u64 150]]).run prog w
  =.ok (.iface 217 (.agg #[.pointer (some ⟨1,155,none⟩)])) w:=by kernel_rfl
theorem Agt (h:Value) (w:World):(Go.method 379 217 (.agg #[h]) "Kind").run prog w=.ok (215,h) w:=by kernel_rfl
theorem Agu (w:World):((ReflectliteType.abiMethod fun t=>(fun a:Nat=>Value.int IntKind.u8 (a:Int)) <$> Rtype.kind t) #[.pointer (some ⟨1,155,none⟩)]).run prog w=.ok (.int .u8 22) w:=by kernel_rfl
theorem Agv (w:World):((ReflectliteType.abiMethod fun t=>(fun a:Nat=>Value.int IntKind.u8 (a:Int)) <$> Rtype.kind t) #[.pointer (some ⟨1,91,none⟩)]).run prog w=.ok (.int .u8 2) w:=by kernel_rfl
theorem rlm (z:Sem Value) (f:TypeId→Addr→Nat→Nat→Sem Value) (v:Value):
  ReflectliteValue.method z f #[v]=(do match ←ReflectliteValue.parts v with|none=>z|some (t,a,fl)=>f t a fl (fl % 32)):=rfl
theorem Yc (a:Addr) (w:World):(ReflectliteValue.parts (.agg #[.pointer (some ⟨1,155,none⟩),.pointer (some a),.int .u64 150])).run prog w=.ok (some (155,a,150)) w:=by kernel_rfl
theorem Agw (a p:Addr) (W:World) (ha:W.cell? a=some (.pointer (some p))):
  (ReflectliteValue.method (ReflectliteValue.valueError "reflectlite.Value.IsNil" 0) ReflectliteValue.isNil #[.agg #[.pointer (some ⟨1,155,none⟩),.pointer (some a),.int .u64 150]]).run prog W=.ok (.bool false) W:=by
 rw[rlm]
 simp only[Sem.run_bind,Yc,Result.andThen]
 simp [ReflectliteValue.isNil,loadVar,isAgg,underlying,underlying155,ha,Result.andThen]
theorem Agx (h:Value) (w:World):(Go.method 379 217 (.agg #[h]) "Elem").run prog w=.ok (225,.agg #[h]) w:=by kernel_rfl
theorem Agy (h:Value) (w:World):(Go.method 379 217 (.agg #[h]) "Implements").run prog w=.ok (226,.agg #[h]) w:=by kernel_rfl
theorem Agz (h:Value) (w:World):(Go.method 379 217 (.agg #[h]) "AssignableTo").run prog w=.ok (223,.agg #[h]) w:=by kernel_rfl
theorem Ag0 (w:World):(ReflectliteType.method ReflectliteType.elem #[.agg #[.pointer (some ⟨1,155,none⟩)]]).run prog w=.ok (.iface 217 (.agg #[.pointer (some ⟨1,91,none⟩)])) w:=by kernel_rfl
theorem Ag1 (w:World):(ReflectliteType.relation "Implements" ReflectliteType.implements_ #[.agg #[.pointer (some ⟨1,91,none⟩)],.iface 217 (.agg #[.pointer (some ⟨1,32,none⟩)])]).run prog w=.ok (.bool true) w:=by kernel_rfl
theorem Ag2 (v:Value) (w:World):(ReflectliteType.typeOf #[.iface 91 v]).run prog w=.ok (.iface 217 (.agg #[.pointer (some ⟨1,91,none⟩)])) w:=by kernel_rfl
theorem Ag3 (w:World):(ReflectliteType.relation "AssignableTo" ReflectliteType.assignableTo #[.agg #[.pointer (some ⟨1,91,none⟩)],.iface 217 (.agg #[.pointer (some ⟨1,91,none⟩)])]).run prog w=.ok (.bool true) w:=by kernel_rfl
theorem Ag4 (e:Int) (w:World):(ReflectliteValue.unpack (.iface 91 (.int .i64 e))).run prog w
  =.ok (.agg #[.pointer (some ⟨1,91,none⟩),.pointer (some ⟨w.heap.size,0,none⟩),.int .u64 130]) (w.alloc (.cells #[.int .i64 e] 91)):=by kernel_rfl
theorem Ag5 (w:World):(Rtype.elem? 155).run prog w=.ok (some 91) w:=by kernel_rfl
theorem Ag6 (p:Addr) (w:World):(ReflectliteValue.mk 91 p ReflectliteValue.flagAddr).run prog w=.ok (.agg #[.pointer (some ⟨1,91,none⟩),.pointer (some p),.int .u64 386]) w:=by kernel_rfl
theorem Ag7 (a p:Addr) (W:World) (ha:W.cell? a=some (.pointer (some p))):
  (ReflectliteValue.method (ReflectliteValue.valueError "reflectlite.Value.Elem" 0) ReflectliteValue.elem #[.agg #[.pointer (some ⟨1,155,none⟩),.pointer (some a),.int .u64 150]]).run prog W
   =.ok (.agg #[.pointer (some ⟨1,91,none⟩),.pointer (some p),.int .u64 386]) W:=by
 rw[rlm]
 simp only[Sem.run_bind,Yc,Result.andThen]
 simp [ReflectliteValue.elem,loadVar,isAgg,underlying,underlying155,ha,Result.andThen,Ag5,Ag6]
theorem rls (v x:Value):ReflectliteValue.set #[v,x]=(do
  let (some (dst,a,fl),some (src,b,_)):=(←ReflectliteValue.parts v,←ReflectliteValue.parts x)
   |unsupported (.noEntry "extern/(internal/reflectlite.Value).Set.zeroValue")
  if fl / ReflectliteValue.flagAddr % 2==0 then unsupported (.noEntry "extern/(internal/reflectlite.Value).Set.unaddressable")
  let val ←loadVar src b
  if ←Rtype.directlyAssignable dst src then storeVar dst a val
  else if ←Rtype.implements dst src then
   if (←Rtype.kind src)==20 then
    match val with
    | .nilIface=>unsupported (.noEntry "extern/reflectlite: a nil value of one interface type handed on as a value of another")
    |_=>storeVar dst a val
   else storeVar dst a (.iface src val)
  else panicString ("reflectlite.Set: value of type "++(←Rtype.spelt src)++" is not assignable to type "++(←Rtype.spelt dst))
  pure (.tuple #[])):=rfl
theorem Ag8 (a:Addr) (w:World):(ReflectliteValue.parts (.agg #[.pointer (some ⟨1,91,none⟩),.pointer (some a),.int .u64 386])).run prog w=.ok (some (91,a,386)) w:=by kernel_rfl
theorem Ag9 (a:Addr) (w:World):(ReflectliteValue.parts (.agg #[.pointer (some ⟨1,91,none⟩),.pointer (some a),.int .u64 130])).run prog w=.ok (some (91,a,130)) w:=by kernel_rfl
theorem Aha (w:World):(Rtype.directlyAssignable 91 91).run prog w=.ok true w:=by kernel_rfl
theorem Ahb (ta b:Addr) (e:Int) (old:Value) (W:World) (hb:W.cell? b=some (.int .i64 e)) (ht:W.cell? ta=some old) (hf:W.frozen? ta=false):
  (ReflectliteValue.set #[.agg #[.pointer (some ⟨1,91,none⟩),.pointer (some ta),.int .u64 386],.agg #[.pointer (some ⟨1,91,none⟩),.pointer (some b),.int .u64 130]]).run prog W
   =.ok (.tuple #[]) (W.setCell ta (.int .i64 e)):=by
 rw[rls]
 simp only[Sem.run_bind,Ag8,Ag9,Result.andThen]
 simp [ReflectliteValue.flagAddr,loadVar,isAgg,underlying,underlying91,hb,Result.andThen,Aha,storeVar,Value.cells,storeCells,Addr.add]
 rw[run_store prog W ta _ _ (by rfl)]
 simp [ht,hf]
set_option maxRecDepth 100000 in
set_option maxHeartbeats 4000000 in
theorem Ahc (e:Int) (t:Addr) (old:Value) (w:World) (hg:w.cell? ⟨0,0,none⟩=some (.iface 217 (.agg #[.pointer (some ⟨1,32,none⟩)]))) (ht0:w.cell? t=some old) (hf0:w.frozen? t=false):
  Calls prog 103 #[.iface 91 (.int .i64 e),.iface 155 (.pointer (some t))] w fun ev w'=>ev=.returned (.bool true)∧w'=((((w.alloc (.cells #[.pointer (some t)] 155)).alloc (.cells #[.pointer (some ⟨1,155,none⟩),.pointer (some ⟨w.heap.size,0,none⟩),.int .u64 150] 184)).alloc (.cells #[.pointer (some ⟨1,155,none⟩),.pointer (some ⟨w.heap.size,0,none⟩),.int .u64 150] 184)).alloc (.cells #[.int .i64 e] 91)).setCell t (.int .i64 e):=by
 have h6:=@run_callFunc_extern prog 138 _ (fun args=>ReflectliteValue.unpack (args.getD 0 (.tuple #[]))) func138 (by kernel_rfl) (by kernel_rfl) (by kernel_rfl) (by kernel_rfl)
 have h7:=@run_callFunc_extern prog 139 _ (ReflectliteValue.methodAny (ReflectliteValue.valueError "reflectlite.Value.Type" 0) (fun t _ _ _=>ReflectliteType.toType t)) func139 (by kernel_rfl) (by kernel_rfl) (by kernel_rfl) (by kernel_rfl)
 have h8:=@run_callFunc_extern prog 140 _ (ReflectliteValue.method (ReflectliteValue.valueError "reflectlite.Value.IsNil" 0) ReflectliteValue.isNil) func140 (by kernel_rfl) (by kernel_rfl) (by kernel_rfl) (by kernel_rfl)
 have h27:=@run_callFunc_extern prog 215 _ (ReflectliteType.abiMethod fun t=>do pure (.int .u8 (←Rtype.kind t))) func215 (by kernel_rfl) (by kernel_rfl) (by kernel_rfl) (by kernel_rfl)
 have h37:=@run_callFunc_extern prog 225 _ (ReflectliteType.method ReflectliteType.elem) func225 (by kernel_rfl) (by kernel_rfl) (by kernel_rfl) (by kernel_rfl)
 have h38:=@run_callFunc_extern prog 226 _ (ReflectliteType.relation "Implements" ReflectliteType.implements_) func226 (by kernel_rfl) (by kernel_rfl) (by kernel_rfl) (by kernel_rfl)
 have h10:=@run_callFunc_extern prog 174 _ ReflectliteType.typeOf func174 (by kernel_rfl) (by kernel_rfl) (by kernel_rfl) (by kernel_rfl)
 have h35:=@run_callFunc_extern prog 223 _ (ReflectliteType.relation "AssignableTo" ReflectliteType.assignableTo) func223 (by kernel_rfl) (by kernel_rfl) (by kernel_rfl) (by kernel_rfl)
 have h11:=@run_callFunc_extern prog 175 _ (ReflectliteValue.method (ReflectliteValue.valueError "reflectlite.Value.Elem" 0) ReflectliteValue.elem) func175 (by kernel_rfl) (by kernel_rfl) (by kernel_rfl) (by kernel_rfl)
 have h12:=@run_callFunc_extern prog 176 _ ReflectliteValue.set func176 (by kernel_rfl) (by kernel_rfl) (by kernel_rfl) (by kernel_rfl)
 have tO:=Ag2
 have mA:=Agz
 have a25:=Ag3
 have v25:=Ag4
 have f6:=Agq
 have f7:=Ags
 have mK:=Agt
 have mE:=Agx
 have mI:=Agy
 have k27:=Agu
 have k25:=Agv
 have e27:=Ag0
 have i25:=Ag1
 have n8:=Agw ⟨w.heap.size,0,none⟩ t ((w.alloc (.cells #[.pointer (some t)] 155)).alloc (.cells #[.pointer (some ⟨1,155,none⟩),.pointer (some ⟨w.heap.size,0,none⟩),.int .u64 150] 184)) (by simp)
 have hlt:0 < w.heap.size:=by
  rcases Nat.lt_or_ge 0 w.heap.size with h|h
  ·exact h
  ·simp [World.cell?,Array.getElem?_eq_none h] at hg
 have hg2:((w.alloc (.cells #[.pointer (some t)] 155)).alloc (.cells #[.pointer (some ⟨1,155,none⟩),.pointer (some ⟨w.heap.size,0,none⟩),.int .u64 150] 184)).cell? ⟨0,0,none⟩=some (.iface 217 (.agg #[.pointer (some ⟨1,32,none⟩)])):=by
  rw[World.cell?_alloc_lt _ _ ⟨0,0,none⟩ (by simp<;>omega),World.cell?_alloc_lt _ _ ⟨0,0,none⟩ hlt];exact hg
 have htl:t.block < w.heap.size:=by
  rcases Nat.lt_or_ge t.block w.heap.size with h|h
  ·exact h
  ·simp [World.cell?,Array.getElem?_eq_none h] at ht0
 have el:=Ag7 ⟨w.heap.size,0,none⟩ t (((w.alloc (.cells #[.pointer (some t)] 155)).alloc (.cells #[.pointer (some ⟨1,155,none⟩),.pointer (some ⟨w.heap.size,0,none⟩),.int .u64 150] 184)).alloc (.cells #[.pointer (some ⟨1,155,none⟩),.pointer (some ⟨w.heap.size,0,none⟩),.int .u64 150] 184)) (by rw[World.cell?_alloc_lt _ _ ⟨w.heap.size,0,none⟩ (by simp;omega)];simp)
 have st:=Ahb t ⟨w.heap.size+1+1+1,0,none⟩ e old ((((w.alloc (.cells #[.pointer (some t)] 155)).alloc (.cells #[.pointer (some ⟨1,155,none⟩),.pointer (some ⟨w.heap.size,0,none⟩),.int .u64 150] 184)).alloc (.cells #[.pointer (some ⟨1,155,none⟩),.pointer (some ⟨w.heap.size,0,none⟩),.int .u64 150] 184)).alloc (.cells #[.int .i64 e] 91))
  (by rw[World.cell?_alloc_at _ _ _ _ (by simp)];rfl)
  (by rw[World.cell?_alloc_lt _ _ t (by simp;omega),World.cell?_alloc_lt _ _ t (by simp;omega),World.cell?_alloc_lt _ _ t (by simp;omega),World.cell?_alloc_lt _ _ t htl];exact ht0)
  (by rw[World.frozen?_alloc_old _ _ t (by simp;omega),World.frozen?_alloc_old _ _ t (by simp;omega),World.frozen?_alloc_old _ _ t (by simp;omega),World.frozen?_alloc_old _ _ t (Nat.ne_of_lt htl)];exact hf0)
 go_enter func103,ntmps103
 go_wp2
 refine wp_loop_rounds 1 ?_
 rw[rounds_succ]
 go_wp2
 go_ret
 exact⟨rfl,rfl⟩
end
section
open Go.RowKit
def OwnM (w:World) (e:TypeId) (v:Value) (vs:List Value):Prop:=
 ∃g cap cur mk,v=.slice (some ⟨g,0,none⟩) vs.length cap∧w.heap[g]?=some (.cells cur e mk)∧(mk.2≤mk.1∨cur.size≤mk.1)∧vs.length≤cap∧cap≤maxLen∧cur.size=cap∧cur.toList.take vs.length=vs
section
variable {P:Program} {w w':World} {e:TypeId} {v:Value} {vs:List Value}
theorem J8 {α:Type} {a:Array α} {g:Nat} {x:α} (h:a[g]?=some x):g < a.size:=by
 rcases Nat.lt_or_ge g a.size with hlt|hge
 ·exact hlt
 ·rw[Array.getElem?_eq_none hge] at h;cases h
theorem OwnM.lt (h:OwnM w e v vs):∀k,v.ownBlock=some k→k < w.heap.size:=by
 obtain⟨g,cap,cur,mk,rfl,hg,_⟩:=h
 intro k hk
 simp only[Value.ownBlock,Option.some.injEq] at hk
 subst hk
 exact J8 hg
theorem OwnM.keep {Y:Nat→Prop} (h:OwnM w e v vs) (hk:Keeps Y w w') (hn:∀b,v.ownBlock=some b→¬Y b):OwnM w' e v vs:=by
 obtain⟨g,cap,cur,mk,rfl,hg,r⟩:=h
 exact⟨g,cap,cur,mk,rfl,(hk.block g (J8 hg) (hn g rfl)).trans hg,r⟩
theorem OwnM.rd (h:OwnM w e v vs):∃A c,v=.slice A vs.length c∧vs.length≤c∧c≤maxLen∧RdV w w.heap.size A vs:=by
 obtain⟨g,cap,cur,mk,rfl,hg,hm,h1,h2,h3,h4⟩:=h
 refine⟨_,_,rfl,h1,h2,fun _=>⟨g,0,rfl,J8 hg,fun j u hu=>?_⟩⟩
 have hj:j < vs.length:=(List.getElem?_eq_some_iff.1 hu).1
 rw[←h4,List.getElem?_take_of_lt hj] at hu
 rw[Nat.zero_add]
 simpa [World.cell?,hg] using hu
theorem Yd (P:Program) (g o:Nat) (t:TypeId) (fz:Nat×Nat):∀(vs:List Value) (i:Nat) (cur:Array Value) (w:World),w.heap[g]?=some (.cells cur t fz)→(fz.2≤fz.1∨cur.size≤fz.1)→o+i+vs.length≤cur.size→(∀v∈vs,v.oneCell'=true)→
  (storeCells ⟨g,o,none⟩ vs i).run P w=.ok () (w.setRow g (cur.toList.take (o+i)++vs++cur.toList.drop (o+i+vs.length)).toArray)
 |[],i,cur,w,hg,_,_,_=>by
  simp only[storeCells,List.append_nil,List.length_nil,Nat.add_zero,List.take_append_drop,Array.toArray_toList]
  rw[setRow_self w g cur t fz hg]
  rfl
 |v::rest,i,cur,w,hg,hfz,hl,h1=>by
  have hi:o+i < cur.size:=by simp at hl;omega
  have hadd:(⟨g,o,none⟩:Addr).add i=⟨g,o+i,none⟩:=by unfold Addr.add;split<;>simp_all
  have hcell:w.cell? ⟨g,o+i,none⟩=some cur[o+i]:=by simp [World.cell?,hg,hi]
  have hfro:w.frozen? ⟨g,o+i,none⟩=false:=by
   obtain⟨lo,hi'⟩:=fz
   simp only[World.frozen?,hg,Bool.and_eq_false_iff,decide_eq_false_iff_not]
   simp only at hfz
   omega
  have hst:(store ((⟨g,o,none⟩:Addr).add i) v).run P w=.ok () (w.setRow g (cur.setIfInBounds (o+i) v)):=by
   rw[hadd,run_store P w _ v _ (h1 v (by simp)),hcell]
   simp [hfro,setCell_eq_setRow w g (o+i) cur t fz v hg]
  have ih:=Yd P g o t fz rest (i+1) (cur.setIfInBounds (o+i) v) (w.setRow g (cur.setIfInBounds (o+i) v)) (setRow_heap w g cur _ t _ hg) (by simpa using hfz) (by simp at hl ⊢;omega) (fun x hx=>h1 x (by simp [hx]))
  simp only[storeCells,Sem.run_bind,hst,Result.andThen_ok,ih,setRow_setRow]
  congr 3
  have e:=list_seg_step cur.toList (o+i) v rest (by simp at hl ⊢;omega)
  simpa [Array.toList_setIfInBounds,Nat.add_assoc] using e
theorem Ahd (w:World) (t ty e:TypeId) (i:TypeInfo) (ht:P.underlying t=some (.slice e)) (hi:P.info? e=some i) (h0:i.size=1)
  (g sLen sCap:Nat) (cur:Array Value) (fz:Nat×Nat) (hg:w.heap[g]?=some (.cells cur e fz)) (hfz:fz.2≤fz.1∨cur.size≤fz.1)
  (a:Addr) (m c:Nat) (news:List Value) (hl:news.length=m) (hnews:∀j u,news[j]?=some u→w.cell? (a.add j)=some u) (h1:∀u∈news,u.oneCell'=true)
  (hroom:sLen+m≤sCap) (hfit:sLen+news.length≤cur.size):
  (Builtin.append_ #[t,t] ty #[.slice (some ⟨g,0,none⟩) sLen sCap,.slice (some a) m c]).run P w=
   .ok (.slice (some ⟨g,0,none⟩) (sLen+m) sCap) (w.setRow g (cur.toList.take sLen++news++cur.toList.drop (sLen+news.length)).toArray):=by
 have hf:=run_firstCells_some (P:=P) w 1 m a m c news (by omega) hnews
 have hst:=Yd P g sLen e fz news 0 cur w hg hfz (by simpa using hfit) h1
 simp only[Nat.add_zero] at hst
 simp [Builtin.append_,run_underlying ht,sizeOf,typeInfo,hi,h0,Builtin.lenOf,hroom,hf,Addr.add_lit,hst]
theorem Ahe (w:World) (t e:TypeId) (bytes:Nat) (ht:P.underlying t=some (.slice e)) (z:Value) (hz:z.cells.size=1)
  (hinfo:(P.info? e).map (fun i=>(i.zero,i.size,i.bytes))=some (some z,1,bytes))
  (v:Value) (vs:List Value) (hown:OwnM w e v vs) (A:Option Addr) (m c B:Nat) (news:List Value) (hR:RdV w B A news) (hm:news.length=m) (h1:∀u∈news,u.oneCell'=true)
  (h63:vs.length+m≤maxLen) (hbytes:(vs.length+m)*bytes≤140737488355328):
  ∃v' w',(∀ty,(Builtin.append_ #[t,t] ty #[v,.slice A m c]).run P w=.ok v' w')∧OwnM w' e v' (vs++news)∧Keeps (fun k=>v.ownBlock=some k) w w'∧
   (v'.ownBlock=v.ownBlock∨v'.ownBlock=some w.heap.size):=by
 obtain⟨i,hi,hz0,hz1,hz2⟩:=info_parts hinfo
 obtain⟨g,cap,cur,mk,rfl,hg,hmk,hnc,hcm,hcs,htake⟩:=hown
 by_cases hm0:m=0
 ·subst hm0
  obtain rfl:news=[]:=List.eq_nil_of_length_eq_zero hm
  refine⟨_,w,fun ty=>?_,⟨g,cap,cur,mk,by simp,hg,hmk,by simpa using hnc,hcm,hcs,by simpa using htake⟩,Keeps.refl _ _,.inl rfl⟩
  have hl:∀(x:Addr),(loadCells x 0).run P w=.ok #[] w:=fun x=>by simpa using run_loadCells_list (P:=P) w x [] (by simp)
  cases A<;>simp [Builtin.append_,run_underlying ht,sizeOf,typeInfo,hi,hz1,Builtin.lenOf,Builtin.firstCells,hl,hnc,storeCells]
 ·obtain⟨b,off,rfl,_,hc⟩:=hR (by omega)
  have hnews:∀j u,news[j]?=some u→w.cell? ((⟨b,off,none⟩:Addr).add j)=some u:=fun j u hu=>by rw[Bu];exact hc j u hu
  have hsmall:vs.length+m≤9223372036854775807:=by simp only[maxLen] at h63;omega
  by_cases hroom:vs.length+m≤cap
  ·have hr:=fun ty=>Ahd (P:=P) w t ty e i ht hi hz1 g vs.length cap cur mk hg hmk ⟨b,off,none⟩ m c news hm hnews h1 hroom (by omega)
   refine⟨_,_,hr,⟨g,cap,_,mk,by rw[List.length_append,hm],setRow_heap w g cur _ e _ hg,?_,by rw[List.length_append];omega,hcm,?_,?_⟩,Keeps.setRow w rfl,.inl rfl⟩
   ·rcases hmk with h|h
    ·exact .inl h
    ·refine .inr ?_
     simp only[List.size_toArray,List.length_append,List.length_take,List.length_drop,Array.length_toList]
     omega
   ·simp only[List.size_toArray,List.length_append,List.length_take,List.length_drop,Array.length_toList]
    omega
   ·rw[htake]
    exact List.take_left
  ·have holds:∀j u,vs[j]?=some u→w.cell? ((⟨g,0,none⟩:Addr).add j)=some u:=fun j u hu=>by
    have hj:j < vs.length:=(List.getElem?_eq_some_iff.1 hu).1
    rw[←htake,List.getElem?_take_of_lt hj] at hu
    rw[Bu,Nat.zero_add]
    simpa [World.cell?,hg] using hu
   have hr:=fun ty=>run_append_grow (P:=P) w t ty e i z ht hi hz0 ⟨g,0,none⟩ vs.length cap vs (by rw[hz1];omega) holds ⟨b,off,none⟩ m c news (by rw[hz1];omega) hnews (by omega) (by omega) (growslice_fits (by omega) (by rw[hz2];exact hbytes))
   have hge:=grownCap_ge w (vs.length+m) cap e
   have hcm2:grownCap w (vs.length+m) cap e≤maxLen:=grownCap_le_maxLen w (vs.length+m) cap e h63
   refine⟨_,_,hr,⟨w.heap.size,_,_,(0,0),by rw[List.length_append,hm],heap_alloc_new w.drew _,.inl (Nat.le_refl _),by rw[List.length_append,hm];exact hge,hcm2,?_,?_⟩,?_,.inr rfl⟩
   ·simp only[Array.size_append,List.size_toArray,size_zeroCells,hz]
    omega
   ·simp only[Array.toList_append,List.append_assoc]
    rw[←List.append_assoc]
    exact List.take_left
   ·exact⟨rfl,rfl,rfl,by simp,fun k hk _=>heap_alloc_old w.drew _ hk⟩
theorem Ahf (w:World) (src dst e:TypeId) (s:ByteArray) {u:TypeDesc} (hs:P.underlying src=some u) (hd:P.underlying dst=some (.slice e)) (he:P.underlying e=some (.int .u8)) (hm:s.size≤maxLen):
  ∃v' w',(convert src dst (.string s)).run P w=.ok v' w'∧OwnM w' e v' (s.data.toList.map vU8)∧Keeps (fun _=>False) w w'∧v'.ownBlock=some w.heap.size:=by
 have hge:=grownCap_ge w s.size 0 e
 have hsz:(Lib.bytesCells w e s).size=grownCap w s.size 0 e:=by
  unfold Lib.bytesCells
  have:s.data.size=s.size:=rfl
  simp
  omega
 refine⟨_,_,Lib.run_convert_string_bytes w src dst e s hs hd he,⟨w.heap.size,_,_,_,?_,Lib.bytesWorld_at_new w e s,.inr (Nat.le_refl _),?_,grownCap_le_maxLen w s.size 0 e hm,hsz,?_⟩,?_,rfl⟩
 ·rw[List.length_map,Array.length_toList]
  rfl
 ·rw[List.length_map,Array.length_toList]
  exact hge
 ·unfold Lib.bytesCells
  rw[Array.toList_append,Array.toList_map]
  have e1:(s.data.toList.map fun b=>Value.int .u8 (b.toNat:Int))=s.data.toList.map vU8:=rfl
  rw[e1]
  exact List.take_left
 ·exact⟨rfl,rfl,rfl,by rw[Lib.bytesWorld_size];omega,fun k hk _=>Lib.bytesWorld_at_old w e s k hk⟩
end
end
end Go.Proofs.YtedaafmfjhjfmaaGreatDoor
