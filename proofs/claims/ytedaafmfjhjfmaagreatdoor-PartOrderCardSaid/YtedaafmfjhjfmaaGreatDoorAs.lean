import Derived.Test.YtedaafmfjhjfmaaGreatDoorTie
import Derived.Test.YtedaafmfjhjfmaaGreatDoorBase
import Derived.ProofKit
import Derived.LaidMore
import Derived.OpenShut
import Derived.Stop.Joined
import Derived.WideKeyArr2
import Derived.ChangeMaps5
import Derived.Lay
import Derived.Test.YtedaafmfjhjfmaaGreatDoorProg
import Derived.WalkKit
import Derived.LaidEql
import Derived.Stop.Asserts
import Derived.RowKitTokens
/- What opens the arguments of the claims: numbers in a row. -/
namespace Go.Proofs.YtedaafmfjhjfmaaGreatDoor
open Go.ChangeShapes Go.WideShapes Go.ChangeAt Go.WideMaps Go.WideElems Go.RowKit
theorem own:ownKnob Tryz.prog.godebug=none:=by kernel_rfl
theorem R4:laidOutB Tryz.prog=true:=by kernel_rfl
section
variable {H:Type} {enc:TypeId×Value→H} {P:Program} {k e:TypeId} {n:Nat} {q:IntKind} {W:World} {base:Nat} {sp:Nat→Bool} {held:Bool}
theorem Vo (he:P.underlying e=some (.int q)) {m:Nat} {cs:List Value}:∀(L:List Nat) (xs:List (DataW H×List MemPlace)),
  L.mapM (fun i=>DataW.trod enc P W base sp held m e ((cs.drop (i*1)).take 1))=some xs→
  ∃zs:List Int,xs=zs.map (fun z=>(.lit (.int q z),[]))∧L.map (fun i=>(cs.drop (i*1)).take 1)=zs.map (fun z=>[.int q z])∧∀z∈zs,(Lit.int q z).wf=true
 |[],xs,h=>by
  simp at h
  subst h
  exact⟨[],rfl,rfl,by simp⟩
 |i::L,xs,h=>by
  rw[List.mapM_cons] at h
  simp only[bind,Option.bind_eq_some_iff,pure,Option.some.injEq] at h
  obtain⟨y,hy,ys,hys,rfl⟩:=h
  obtain⟨zs,rfl,h2,h3⟩:=Vo he L ys hys
  obtain⟨a,ea,rfl,wa⟩:=DataW.trod_int he hy
  refine⟨a::zs,rfl,by rw[List.map_cons,ea,h2];rfl,fun z hz=>?_⟩
  rcases List.mem_cons.1 hz with rfl|hz
  ·exact wa
  ·exact h3 z hz
theorem Ac1 {α:Type} (cs:List α):(List.range cs.length).map (fun i=>(cs.drop (i*1)).take 1)=cs.map fun x=>[x]:=by
 apply List.ext_getElem
 ·simp
 ·intro i h1 h2
  simp only[List.length_map,List.length_range] at h1
  rw[List.getElem_map,List.getElem_map,List.getElem_range,Nat.mul_one,List.drop_eq_getElem_cons h1,List.take_succ_cons,List.take_zero]
theorem R5 (A:ArrKey P k e n) (he:P.underlying e=some (.int q)) {fuel:Nat} {cs:List Value} {x:DataW H×List MemPlace} (hd:DataW.trod enc P W base sp held fuel k cs=some x):
  ∃zs:List Int,cs=zs.map (Value.int q)∧x=(.agg (zs.map fun z=>.lit (.int q z)),[])∧zs.length=n∧∀z∈zs,(Lit.int q z).wf=true:=by
 cases fuel with
 |zero=>simp [DataW.trod] at hd
 |succ m=>
  rw[DataW.trod_step] at hd
  unfold DataW.trodStep at hd
  simp only[A.hu] at hd
  split at hd
  ·rename_i hl
   simp only[A.size,A.one] at hl hd
   simp only[Option.map_eq_some_iff] at hd
   obtain⟨ys,hy,rfl⟩:=hd
   obtain⟨zs,rfl,h2,h3⟩:=Vo he _ ys hy
   rw[←hl,Ac1] at h2
   have h4:cs=zs.map (Value.int q):=by
    have:=congrArg (List.map fun x:List Value=>x.headD undef) h2
    simpa [Function.comp_def] using this
   refine⟨zs,h4,by simp [Function.comp_def,List.flatMap_eq_nil_iff],by rw[←hl,h4];simp,h3⟩
  ·cases hd
end
theorem u8s:∀(zs:List Int),(∀z∈zs,(Lit.int .u8 z).wf=true)→∃l:List UInt8,zs.map (Value.int .u8)=l.map vU8∧l.length=zs.length
 |[],_=>⟨[],rfl,rfl⟩
 |z::zs,h=>by
  obtain⟨l,h1,h2⟩:=u8s zs fun y hy=>h y (List.mem_cons_of_mem _ hy)
  obtain⟨b,hb⟩:∃b:UInt8,Value.int .u8 z=vU8 b:=by
   have hw:=h z (List.mem_cons_self ..)
   simp only[Lit.wf,Bool.and_eq_true,decide_eq_true_eq] at hw
   have hw:0≤z∧z≤255:=hw
   exact⟨UInt8.ofNat z.toNat,by unfold vU8 n8;rw[UInt8.toNat_ofNat'];congr 1;omega⟩
  exact⟨b::l,by rw[List.map_cons,List.map_cons,h1,hb],by simp [h2]⟩
theorem R6 {H:Type} {enc:TypeId×Value→H} {W:World} {t:TypeId} {v:Value} {d:DataW H} {ps:List MemPlace} (h:DataW.Trod enc Tryz.prog W 0 (fun _=>true) true t v d ps):∀x∈ps,x.block < W.heap.size:=by
 obtain⟨m,hm⟩:=h
 exact DataW.trod_lt m _ _ _ hm
end Go.Proofs.YtedaafmfjhjfmaaGreatDoor
/- errors.As at an Errno: Go's own text of it walked. Turned from the worked proof of the toy toyas. -/
namespace Go.Proofs.YtedaafmfjhjfmaaGreatDoor
open Go.RowKit Go.Extern.Stop Go.Stop Go.Extern
theorem Ac2 (t:Addr) (w:World):(ReflectliteValue.unpack (.iface 155 (.pointer (some t)))).run Tryz.prog w
  =.ok (.agg #[.pointer (some ⟨1,155,none⟩),.pointer (some ⟨w.heap.size,0,none⟩),.int .u64 150]) (w.alloc (.cells #[.pointer (some t)] 155)):=by kernel_rfl
theorem Ac3 (a:Addr) (w:World):(ReflectliteValue.methodAny (ReflectliteValue.valueError "reflectlite.Value.Type" 0) (fun t _ _ _=>ReflectliteType.toType t) #[.agg #[.pointer (some ⟨1,155,none⟩),.pointer (some a),.int .u64 150]]).run Tryz.prog w
  =.ok (.iface 217 (.agg #[.pointer (some ⟨1,155,none⟩)])) w:=by kernel_rfl
theorem Ac4 (h:Value) (w:World):(Go.method 379 217 (.agg #[h]) "Kind").run Tryz.prog w=.ok (215,h) w:=by kernel_rfl
theorem Ac5 (w:World):((ReflectliteType.abiMethod fun t=>(fun a:Nat=>Value.int IntKind.u8 (a:Int)) <$> Rtype.kind t) #[.pointer (some ⟨1,155,none⟩)]).run Tryz.prog w=.ok (.int .u8 22) w:=by kernel_rfl
theorem Ac6 (w:World):((ReflectliteType.abiMethod fun t=>(fun a:Nat=>Value.int IntKind.u8 (a:Int)) <$> Rtype.kind t) #[.pointer (some ⟨1,91,none⟩)]).run Tryz.prog w=.ok (.int .u8 2) w:=by kernel_rfl
theorem rlm (z:Sem Value) (f:TypeId→Addr→Nat→Nat→Sem Value) (v:Value):
  ReflectliteValue.method z f #[v]=(do match ←ReflectliteValue.parts v with|none=>z|some (t,a,fl)=>f t a fl (fl % 32)):=rfl
theorem Vp (a:Addr) (w:World):(ReflectliteValue.parts (.agg #[.pointer (some ⟨1,155,none⟩),.pointer (some a),.int .u64 150])).run Tryz.prog w=.ok (some (155,a,150)) w:=by kernel_rfl
theorem Ac7 (a p:Addr) (W:World) (ha:W.cell? a=some (.pointer (some p))):
  (ReflectliteValue.method (ReflectliteValue.valueError "reflectlite.Value.IsNil" 0) ReflectliteValue.isNil #[.agg #[.pointer (some ⟨1,155,none⟩),.pointer (some a),.int .u64 150]]).run Tryz.prog W=.ok (.bool false) W:=by
 rw[rlm]
 simp only[Sem.run_bind,Vp,Result.andThen]
 simp [ReflectliteValue.isNil,loadVar,isAgg,underlying,Tryz.underlying155,ha,Result.andThen]
theorem Ac8 (h:Value) (w:World):(Go.method 379 217 (.agg #[h]) "Elem").run Tryz.prog w=.ok (225,.agg #[h]) w:=by kernel_rfl
theorem Ac9 (h:Value) (w:World):(Go.method 379 217 (.agg #[h]) "Implements").run Tryz.prog w=.ok (226,.agg #[h]) w:=by kernel_rfl
theorem Ada (h:Value) (w:World):(Go.method 379 217 (.agg #[h]) "AssignableTo").run Tryz.prog w=.ok (223,.agg #[h]) w:=by kernel_rfl
theorem Adb (w:World):(ReflectliteType.method ReflectliteType.elem #[.agg #[.pointer (some ⟨1,155,none⟩)]]).run Tryz.prog w=.ok (.iface 217 (.agg #[.pointer (some ⟨1,91,none⟩)])) w:=by kernel_rfl
theorem Adc (w:World):(ReflectliteType.relation "Implements" ReflectliteType.implements_ #[.agg #[.pointer (some ⟨1,91,none⟩)],.iface 217 (.agg #[.pointer (some ⟨1,32,none⟩)])]).run Tryz.prog w=.ok (.bool true) w:=by kernel_rfl
theorem Add (v:Value) (w:World):(ReflectliteType.typeOf #[.iface 91 v]).run Tryz.prog w=.ok (.iface 217 (.agg #[.pointer (some ⟨1,91,none⟩)])) w:=by kernel_rfl
theorem Ade (w:World):(ReflectliteType.relation "AssignableTo" ReflectliteType.assignableTo #[.agg #[.pointer (some ⟨1,91,none⟩)],.iface 217 (.agg #[.pointer (some ⟨1,91,none⟩)])]).run Tryz.prog w=.ok (.bool true) w:=by kernel_rfl
theorem Adf (e:Int) (w:World):(ReflectliteValue.unpack (.iface 91 (.int .i64 e))).run Tryz.prog w
  =.ok (.agg #[.pointer (some ⟨1,91,none⟩),.pointer (some ⟨w.heap.size,0,none⟩),.int .u64 130]) (w.alloc (.cells #[.int .i64 e] 91)):=by kernel_rfl
theorem Adg (w:World):(Rtype.elem? 155).run Tryz.prog w=.ok (some 91) w:=by kernel_rfl
theorem Adh (p:Addr) (w:World):(ReflectliteValue.mk 91 p ReflectliteValue.flagAddr).run Tryz.prog w=.ok (.agg #[.pointer (some ⟨1,91,none⟩),.pointer (some p),.int .u64 386]) w:=by kernel_rfl
theorem Adi (a p:Addr) (W:World) (ha:W.cell? a=some (.pointer (some p))):
  (ReflectliteValue.method (ReflectliteValue.valueError "reflectlite.Value.Elem" 0) ReflectliteValue.elem #[.agg #[.pointer (some ⟨1,155,none⟩),.pointer (some a),.int .u64 150]]).run Tryz.prog W
   =.ok (.agg #[.pointer (some ⟨1,91,none⟩),.pointer (some p),.int .u64 386]) W:=by
 rw[rlm]
 simp only[Sem.run_bind,Vp,Result.andThen]
 simp [ReflectliteValue.elem,loadVar,isAgg,underlying,Tryz.underlying155,ha,Result.andThen,Adg,Adh]
theorem rls (v x:Value):ReflectliteValue.set #[v,x]=(do
  let (some (dst,a,fl),some (src,b,_)):=(←ReflectliteValue.parts v,←ReflectliteValue.parts x)
   |unsupported (.noEntry "extern/(internal/reflectlite.Value).Set.zeroValue")
  if fl / ReflectliteValue.flagAddr % 2==0 then unsupported (.noEntry "extern/(internal/reflectlite.Value).Set.unaddressable")
  let val ←loadVar src b
  if ←Rtype.directlyAssignable dst src then storeVar dst a val
  else if ←Rtype.implements dst src then
   if (←Rtype.kind src)==20 then
    match val with
    | .nilIface=>unsupported (.noEntry "extern/reflectlite: a nil value of one interface type handed on as a value of another")
    |_=>storeVar dst a val
   else storeVar dst a (.iface src val)
  else panicString ("reflectlite.Set: value of type "++(←Rtype.spelt src)++" is not assignable to type "++(←Rtype.spelt dst))
  pure (.tuple #[])):=rfl
theorem Adj (a:Addr) (w:World):(ReflectliteValue.parts (.agg #[.pointer (some ⟨1,91,none⟩),.pointer (some a),.int .u64 386])).run Tryz.prog w=.ok (some (91,a,386)) w:=by kernel_rfl
theorem Adk (a:Addr) (w:World):(ReflectliteValue.parts (.agg #[.pointer (some ⟨1,91,none⟩),.pointer (some a),.int .u64 130])).run Tryz.prog w=.ok (some (91,a,130)) w:=by kernel_rfl
theorem Adl (w:World):(Rtype.directlyAssignable 91 91).run Tryz.prog w=.ok true w:=by kernel_rfl
theorem Adm (ta b:Addr) (e:Int) (old:Value) (W:World) (hb:W.cell? b=some (.int .i64 e)) (ht:W.cell? ta=some old) (hf:W.frozen? ta=false):
  (ReflectliteValue.set #[.agg #[.pointer (some ⟨1,91,none⟩),.pointer (some ta),.int .u64 386],.agg #[.pointer (some ⟨1,91,none⟩),.pointer (some b),.int .u64 130]]).run Tryz.prog W
   =.ok (.tuple #[]) (W.setCell ta (.int .i64 e)):=by
 rw[rls]
 simp only[Sem.run_bind,Adj,Adk,Result.andThen]
 simp [ReflectliteValue.flagAddr,loadVar,isAgg,underlying,Tryz.underlying91,hb,Result.andThen,Adl,storeVar,Value.cells,storeCells,Addr.add]
 rw[run_store Tryz.prog W ta _ _ (by rfl)]
 simp [ht,hf]
set_option maxRecDepth 100000 in
set_option maxHeartbeats 4000000 in
theorem Adn (e:Int) (t:Addr) (old:Value) (w:World) (hg:w.cell? ⟨0,0,none⟩=some (.iface 217 (.agg #[.pointer (some ⟨1,32,none⟩)]))) (ht0:w.cell? t=some old) (hf0:w.frozen? t=false):
  Calls Tryz.prog 103 #[.iface 91 (.int .i64 e),.iface 155 (.pointer (some t))] w fun ev w'=>ev=.returned (.bool true)∧w'=((((w.alloc (.cells #[.pointer (some t)] 155)).alloc (.cells #[.pointer (some ⟨1,155,none⟩),.pointer (some ⟨w.heap.size,0,none⟩),.int .u64 150] 184)).alloc (.cells #[.pointer (some ⟨1,155,none⟩),.pointer (some ⟨w.heap.size,0,none⟩),.int .u64 150] 184)).alloc (.cells #[.int .i64 e] 91)).setCell t (.int .i64 e):=by
 have h6:=@run_callFunc_extern Tryz.prog 138 _ (fun args=>ReflectliteValue.unpack (args.getD 0 (.tuple #[]))) Tryz.func138 (by kernel_rfl) (by kernel_rfl) (by kernel_rfl) (by kernel_rfl)
 have h7:=@run_callFunc_extern Tryz.prog 139 _ (ReflectliteValue.methodAny (ReflectliteValue.valueError "reflectlite.Value.Type" 0) (fun t _ _ _=>ReflectliteType.toType t)) Tryz.func139 (by kernel_rfl) (by kernel_rfl) (by kernel_rfl) (by kernel_rfl)
 have h8:=@run_callFunc_extern Tryz.prog 140 _ (ReflectliteValue.method (ReflectliteValue.valueError "reflectlite.Value.IsNil" 0) ReflectliteValue.isNil) Tryz.func140 (by kernel_rfl) (by kernel_rfl) (by kernel_rfl) (by kernel_rfl)
 have h27:=@run_callFunc_extern Tryz.prog 215 _ (ReflectliteType.abiMethod fun t=>do pure (.int .u8 (←Rtype.kind t))) Tryz.func215 (by kernel_rfl) (by kernel_rfl) (by kernel_rfl) (by kernel_rfl)
 have h37:=@run_callFunc_extern Tryz.prog 225 _ (ReflectliteType.method ReflectliteType.elem) Tryz.func225 (by kernel_rfl) (by kernel_rfl) (by kernel_rfl) (by kernel_rfl)
 have h38:=@run_callFunc_extern Tryz.prog 226 _ (ReflectliteType.relation "Implements" ReflectliteType.implements_) Tryz.func226 (by kernel_rfl) (by kernel_rfl) (by kernel_rfl) (by kernel_rfl)
 have h10:=@run_callFunc_extern Tryz.prog 174 _ ReflectliteType.typeOf Tryz.func174 (by kernel_rfl) (by kernel_rfl) (by kernel_rfl) (by kernel_rfl)
 have h35:=@run_callFunc_extern Tryz.prog 223 _ (ReflectliteType.relation "AssignableTo" ReflectliteType.assignableTo) Tryz.func223 (by kernel_rfl) (by kernel_rfl) (by kernel_rfl) (by kernel_rfl)
 have h11:=@run_callFunc_extern Tryz.prog 175 _ (ReflectliteValue.method (ReflectliteValue.valueError "reflectlite.Value.Elem" 0) ReflectliteValue.elem) Tryz.func175 (by kernel_rfl) (by kernel_rfl) (by kernel_rfl) (by kernel_rfl)
 have h12:=@run_callFunc_extern Tryz.prog 176 _ ReflectliteValue.set Tryz.func176 (by kernel_rfl) (by kernel_rfl) (by kernel_rfl) (by kernel_rfl)
 have tO:=Add
 have mA:=Ada
 have a25:=Ade
 have v25:=Adf
 have f6:=Ac2
 have f7:=Ac3
 have mK:=Ac4
 have mE:=Ac8
 have mI:=Ac9
 have k27:=Ac5
 have k25:=Ac6
 have e27:=Adb
 have i25:=Adc
 have n8:=Ac7 ⟨w.heap.size,0,none⟩ t ((w.alloc (.cells #[.pointer (some t)] 155)).alloc (.cells #[.pointer (some ⟨1,155,none⟩),.pointer (some ⟨w.heap.size,0,none⟩),.int .u64 150] 184)) (by simp)
 have hlt:0 < w.heap.size:=by
  rcases Nat.lt_or_ge 0 w.heap.size with h|h
  ·exact h
  ·simp [World.cell?,Array.getElem?_eq_none h] at hg
 have hg2:((w.alloc (.cells #[.pointer (some t)] 155)).alloc (.cells #[.pointer (some ⟨1,155,none⟩),.pointer (some ⟨w.heap.size,0,none⟩),.int .u64 150] 184)).cell? ⟨0,0,none⟩=some (.iface 217 (.agg #[.pointer (some ⟨1,32,none⟩)])):=by
  rw[World.cell?_alloc_lt _ _ ⟨0,0,none⟩ (by simp<;>omega),World.cell?_alloc_lt _ _ ⟨0,0,none⟩ hlt];exact hg
 have htl:t.block < w.heap.size:=by
  rcases Nat.lt_or_ge t.block w.heap.size with h|h
  ·exact h
  ·simp [World.cell?,Array.getElem?_eq_none h] at ht0
 have el:=Adi ⟨w.heap.size,0,none⟩ t (((w.alloc (.cells #[.pointer (some t)] 155)).alloc (.cells #[.pointer (some ⟨1,155,none⟩),.pointer (some ⟨w.heap.size,0,none⟩),.int .u64 150] 184)).alloc (.cells #[.pointer (some ⟨1,155,none⟩),.pointer (some ⟨w.heap.size,0,none⟩),.int .u64 150] 184)) (by rw[World.cell?_alloc_lt _ _ ⟨w.heap.size,0,none⟩ (by simp;omega)];simp)
 have st:=Adm t ⟨w.heap.size+1+1+1,0,none⟩ e old ((((w.alloc (.cells #[.pointer (some t)] 155)).alloc (.cells #[.pointer (some ⟨1,155,none⟩),.pointer (some ⟨w.heap.size,0,none⟩),.int .u64 150] 184)).alloc (.cells #[.pointer (some ⟨1,155,none⟩),.pointer (some ⟨w.heap.size,0,none⟩),.int .u64 150] 184)).alloc (.cells #[.int .i64 e] 91))
  (by rw[World.cell?_alloc_at _ _ _ _ (by simp)];rfl)
  (by rw[World.cell?_alloc_lt _ _ t (by simp;omega),World.cell?_alloc_lt _ _ t (by simp;omega),World.cell?_alloc_lt _ _ t (by simp;omega),World.cell?_alloc_lt _ _ t htl];exact ht0)
  (by rw[World.frozen?_alloc_old _ _ t (by simp;omega),World.frozen?_alloc_old _ _ t (by simp;omega),World.frozen?_alloc_old _ _ t (by simp;omega),World.frozen?_alloc_old _ _ t (Nat.ne_of_lt htl)];exact hf0)
 go_enter Tryz.func103,Tryz.ntmps103
 go_wp2
 refine wp_loop_rounds 1 ?_
 rw[rounds_succ]
 go_wp2
 go_ret
 exact⟨rfl,rfl⟩
end Go.Proofs.YtedaafmfjhjfmaaGreatDoor
