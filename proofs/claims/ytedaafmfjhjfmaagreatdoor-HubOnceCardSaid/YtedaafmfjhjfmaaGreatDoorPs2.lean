import Derived.Test.YtedaafmfjhjfmaaGreatDoorLw3
import Derived.Shelf.SlSortCmp.NoneTotal
import Derived.Test.YtedaafmfjhjfmaaGreatDoorLiS
import Derived.Test.YtedaafmfjhjfmaaGreatDoorPt1
/- The library's sort at elements of two cells, put in order by a key, in the engine's words. -/
namespace Go.Proofs.YtedaafmfjhjfmaaGreatDoor
open _root_.Go.Proofs.Tryz
open Go.RowKit Go.Shelf
set_option linter.unusedSimpArgs false
set_option linter.unusedVariables false
set_option linter.unusedSectionVars false
section
variable {α:Type} [Inhabited α]
def cfK (key:α→Int) (x y:α):Int:=Lib.compareInt (key x) (key y)
theorem ltK (key:α→Int) (x y:α):ltOf (cfK key) x y=decide (key x < key y):=by
 unfold ltOf cfK Lib.compareInt
 by_cases h:key x < key y
 ·simp [h]
 ·by_cases g:key y < key x<;>simp [h,g]
theorem Wz (key:α→Int):Go.Sort.SWO (ltOf (cfK key)) where
 irrefl x:=by rw[ltK];simp
 trans x y z h1 h2:=by rw[ltK] at*;simp at*;omega
 ntrans x y z h1 h2:=by rw[ltK] at*;simp at*;omega
def O4 (key:α→Int) (d:Array α):Array α:=Go.Sort.pdq (ltOf (cfK key)) d 0 d.size (Lib.bitLen d.size) true true
def D5 (key:α→Int) (L:List α):List α:=(O4 key L.toArray).toList
theorem Aww (key:α→Int) (d:Array α):Go.Sort.PermIn 0 d.size d (O4 key d)∧Go.Sort.SortedIn (ltOf (cfK key)) 0 d.size (O4 key d):=
 Go.Sort.pdq_sorts (ltOf (cfK key)) (Wz key) d 0 d.size (Lib.bitLen d.size) true true (Nat.zero_le _) (Nat.le_refl _) (Or.inl rfl)
theorem Aea (key:α→Int) (d:Array α):(O4 key d).size=d.size:=(Aww key d).1.1
theorem Ta (key:α→Int) (L:List α):(D5 key L).length=L.length:=by
 unfold D5
 rw[Array.length_toList,Aea]
 rfl
theorem Awx (d:Array α) (i:Nat) (h:i < d.size):d[i]! =ix d.toList i:=by
 rw[getElem!_pos d i h,ix,List.getD_eq_getElem?_getD,Array.getElem?_toList,Array.getElem?_eq_getElem h]
 rfl
variable {enc:α→List Value} (hlen:∀x,(enc x).length=2)
include hlen
theorem Aeb (d:Array α):(Go.Sort.flatK enc 2 d).toList=d.toList.flatMap enc:=by
 have hl:=Cv hlen d.toList
 apply List.ext_getElem?
 intro t
 by_cases ht:t < d.size*2
 ·have h1:t / 2 < d.size:=by omega
  have h2:t % 2 < 2:=by omega
  have e:=Jo hlen d.toList (t / 2) (t % 2) (by simpa using h1) h2
  rw[show t / 2*2+t % 2=t from by omega] at e
  rw[e]
  have g:=Go.Sort.get_flatK enc 2 d t ht
  rw[Awx d _ h1] at g
  have s:t < (Go.Sort.flatK enc 2 d).size:=by rw[Go.Sort.size_flatK];exact ht
  rw[getElem!_pos _ t s,getElem!_pos _ (t % 2) (by rw[hlen];exact h2)] at g
  rw[Array.getElem?_toList,Array.getElem?_eq_getElem s,g,List.getElem?_eq_getElem (by rw[hlen];exact h2)]
 ·rw[List.getElem?_eq_none (by rw[Array.length_toList,Go.Sort.size_flatK];omega),List.getElem?_eq_none (by rw[hl,Array.length_toList];omega)]
theorem Awy {w:World} {g cap:Nat} {d:Array α} {e:TypeId} (h:w.ownsRow 0 e 2 (.slice (some ⟨g,0,none⟩) d.size cap) d.size (d.toList.flatMap enc)):Go.Sort.HoldsK enc 2 w g 0 d:=by
 intro j hj
 have s:=hj
 rw[Go.Sort.size_flatK] at hj
 rw[Nat.zero_add]
 refine⟨?_,World.ownsRow.frozenAt h j⟩
 have hc:=fun u hu=>World.ownsRow.cells h (g:=g) rfl j u hu
 simp only[Bu,Nat.zero_add] at hc
 refine hc _ ?_
 rw[←Aeb hlen,Array.getElem?_toList,getElem!_pos _ j s,Array.getElem?_eq_getElem s]
 rfl
omit hlen in
theorem Awz (F cur:Array Value) (h:F.size≤cur.size):(Go.Sort.putCells id 0 F cur).toList.take F.size=F.toList:=by
 apply List.ext_getElem?
 intro t
 rw[List.getElem?_take]
 by_cases ht:t < F.size
 ·rw[if_pos ht,Array.getElem?_toList,Array.getElem?_toList,Array.getElem?_eq_getElem ht]
  unfold Go.Sort.putCells
  rw[Array.getElem?_mapIdx,Array.getElem?_eq_getElem (show t < cur.size by omega),Option.map_some,if_pos ⟨Nat.zero_le _,by omega⟩,Nat.sub_zero,getElem!_pos F t ht]
  rfl
 ·rw[if_neg ht,List.getElem?_eq_none (by rw[Array.length_toList];omega)]
omit hlen in
theorem Aec (w:World) (g n:Nat) (d:Array α) (os:Array Obj) (k:Nat) (hk:k < w.heap.size):(sortWorldK enc 2 w g 0 n d os).heap[k]?=if g=k then (w.heap[k]?).map (Go.Sort.onCells (Go.Sort.putCells id 0 (Go.Sort.flatK enc 2 d))) else w.heap[k]?:=by
 unfold sortWorldK Go.Sort.grow Go.Sort.putRowK Go.Sort.putRow Go.Sort.mapBlock Go.Sort.ahead
 show (w.heap.modify g _++os)[k]?=_
 rw[Array.getElem?_append_left (by simpa using hk),Array.getElem?_modify]
theorem Aw0 {w:World} {g cap n:Nat} {d d':Array α} {e:TypeId} (hs:d'.size=d.size) (os:Array Obj) (h:w.ownsRow 0 e 2 (.slice (some ⟨g,0,none⟩) d.size cap) d.size (d.toList.flatMap enc)):
  (sortWorldK enc 2 w g 0 n d' os).ownsRow 0 e 2 (.slice (some ⟨g,0,none⟩) d.size cap) d.size (d'.toList.flatMap enc):=by
 obtain⟨h0,⟨h1,_⟩|⟨g',cap',cur,h1,_,hh,h3,h4,h5,h6⟩⟩:=h
 ·cases h1
 ·cases h1
  have hz:(Go.Sort.flatK enc 2 d').size=d.size*2:=by rw[Go.Sort.size_flatK,hs]
  have hle:=Nat.mul_le_mul_right 2 h3
  refine⟨by rw[Cv hlen,Array.length_toList,hs],.inr ⟨g,cap,Go.Sort.putCells id 0 (Go.Sort.flatK enc 2 d') cur,rfl,Nat.zero_le _,?_,h3,h4,?_,?_⟩⟩
  ·rw[Aec _ _ _ _ _ _ (Array.getElem?_eq_some_iff.1 hh).1,if_pos rfl,hh]
   rfl
  ·unfold Go.Sort.putCells
   rw[Array.size_mapIdx,h5]
  ·rw[←hz,Awz _ _ (by rw[hz,h5];exact hle),Aeb hlen]
omit hlen in
theorem Aw1 (w:World) (g n:Nat) (d:Array α) (os:Array Obj):Keeps (·=g) w (sortWorldK enc 2 w g 0 n d os):=by
 refine⟨rfl,rfl,rfl,?_,fun k hk hn=>?_⟩
 ·unfold sortWorldK Go.Sort.grow Go.Sort.putRowK Go.Sort.putRow Go.Sort.mapBlock Go.Sort.ahead
  show _≤(w.heap.modify g _++os).size
  rw[Array.size_append,Array.size_modify]
  omega
 ·rw[Aec _ _ _ _ _ _ hk,if_neg (fun e=>hn e.symm)]
theorem Aed (key:α→Int) {P:Program} {w0:World} {ow:Nat→Prop} {hp:List Res} {f:FuncId} {e:TypeId} {k:Nat} {L:List α} {sv:Sv} {fv:Value} (hk:hp[k]?=some (.onn e 2 (.c (vC (L.flatMap enc))))) (hv:∀γ,sv.val γ=fv)
  (h1:∀(g cap:Nat) (w:World),Go.Sort.HoldsK enc 2 w g 0 L.toArray→g < w.heap.size→Calls P f #[.slice (some ⟨g,0,none⟩) L.toArray.size cap,fv] w fun e w'=>e=.returned (.tuple #[])∧∃n os,w'=sortWorldK enc 2 w g 0 n (O4 key L.toArray) os)
  (h2:∀(w:World),L=[]→Calls P f #[.slice none 0 0,fv] w fun e w'=>e=.returned (.tuple #[])∧w'=w):
  Ad P w0 ow f [.x (.a (.o k)),sv] hp (.t []) (hp.set k (.onn e 2 (.c (vC ((D5 key L).flatMap enc))))):=fun γ w hS=>by
 obtain⟨hg,hm,n,ho⟩:=hS.holds k _ hk
 have hvc:∀l:List Value,(vC l).map (At.val γ)=l:=fun l=>by
  unfold vC
  rw[List.map_map]
  exact List.map_id' l
 have hfl:=Cv hlen L
 have ho:w.ownsRow 0 e 2 (nmS γ k) n (L.flatMap enc):=by rw[←hvc (L.flatMap enc)];exact ho
 have hn:n=L.length:=by have:=ho.1;omega
 subst hn
 show Calls P f #[nmS γ k,sv.val γ] w _
 rw[hv]
 have hcase:=ho
 obtain⟨_,⟨hv1,hv2⟩|⟨g,cap,cur,hv1,_,hh,_⟩⟩:=hcase
 ·have hL:L=[]:=List.eq_nil_of_length_eq_zero hv2
  rw[hv1]
  refine (h2 w hL).mono ?_
  rintro en w' ⟨rfl,rfl⟩
  refine⟨[],by rw[List.append_nil];rfl,?_⟩
  rw[List.append_nil,show hp.set k (.onn e 2 (.c (vC ((D5 key L).flatMap enc))))=hp from ?_]
  ·exact hS
  ·have:D5 key L=L:=by
    have:=Ta key L
    rw[hL] at this ⊢
    exact List.eq_nil_of_length_eq_zero this
   rw[this]
   apply List.ext_getElem?
   intro i
   rw[List.getElem?_set]
   split
   ·rename_i hi
    subst hi
    rw[hk,if_pos (Ax hk)]
   ·rfl
 ·have hlt:g < w.heap.size:=(Array.getElem?_eq_some_iff.1 hh).1
  rw[hv1] at ho ⊢
  have ho':w.ownsRow 0 e 2 (.slice (some ⟨g,0,none⟩) L.toArray.size cap) L.toArray.size (L.toArray.toList.flatMap enc):=ho
  refine (h1 g cap w (Awy hlen ho') hlt).mono ?_
  rintro en w' ⟨rfl,q,os,rfl⟩
  refine⟨[],by rw[List.append_nil];rfl,?_⟩
  rw[List.append_nil]
  have hob:(nmS γ k).ownBlock=some g:=by rw[hv1];rfl
  refine hS.update (b:=g) (r':=.onn e 2 (.c (vC ((D5 key L).flatMap enc)))) hk hob (Aw1 w g q _ os) ⟨hg,hm,L.length,?_⟩ (.inl rfl)
  have e2:=hvc ((D5 key L).flatMap enc)
  show World.ownsRow _ 0 e 2 (nmS γ k) L.length ((vC ((D5 key L).flatMap enc)).map (At.val γ))
  rw[hv1,e2]
  exact Aw0 hlen (d:=L.toArray) (Aea key _) os ho'
end
end Go.Proofs.YtedaafmfjhjfmaaGreatDoor
/- The library's sort at peers and at pairs of numbers; the keys of a map, in order. -/
namespace Go.Proofs
open Go.Shelf Go.RowKit Go.Lib Go.Sort
set_option linter.unusedVariables false
theorem Tryz.isNaN_u64 (x:Int) (w:World):Calls prog 129 #[.int .u64 x] w fun e w'=>e=.returned (.bool false)∧w'=w:=by
 have t4:=underlying4;have a4:=Tryz.isAgg4;have z4:=Tryz.sizeOf4;have v4:=Tryz.zeroValue4;have t22:=underlying41;have a22:=Tryz.isAgg41;have z22:=Tryz.sizeOf41;have v22:=Tryz.zeroValue41
 go_enter func129,ntmps129
 go_wp2
 go_ret
 exact⟨by simp,rfl⟩
theorem Tryz.isNaN_int (x:Int) (w:World):Calls prog 127 #[.int .i64 x] w fun e w'=>e=.returned (.bool false)∧w'=w:=by
 have t4:=underlying4;have a4:=Tryz.isAgg4;have z4:=Tryz.sizeOf4;have v4:=Tryz.zeroValue4;have t22:=underlying3;have a22:=Tryz.isAgg3;have z22:=Tryz.sizeOf3;have v22:=Tryz.zeroValue3
 go_enter func127,ntmps127
 go_wp2
 go_ret
 exact⟨by simp,rfl⟩
set_option maxRecDepth 100000 in
set_option maxHeartbeats 1000000 in
theorem Tryz.compare_u64 (x y:Int) (w:World):Calls prog 83 #[.int .u64 x,.int .u64 y] w fun e w'=>e=.returned (.int .i64 (Lib.compareInt x y))∧w'=w:=by
 have t3:=underlying3;have a3:=Tryz.isAgg3;have z3:=Tryz.sizeOf3;have v3:=Tryz.zeroValue3;have t4:=underlying4;have a4:=Tryz.isAgg4;have z4:=Tryz.sizeOf4;have v4:=Tryz.zeroValue4;have t22:=underlying41;have a22:=Tryz.isAgg41;have z22:=Tryz.sizeOf41;have v22:=Tryz.zeroValue41
 have e7:∀args w,(callFunc 129 args).run prog w=.ok (.enter 129 args) w:=enters_of func129 (by kernel_rfl) rfl
 go_enter func83,ntmps83
 go_wp2_with (go_at_call 129;refine (Tryz.isNaN_u64 _ _).mono ?_;rintro e w' ⟨rfl,hw⟩;rw[hw])
 all_goals (go_ret;refine⟨?_,rfl⟩;unfold Lib.compareInt;(repeat' split)<;>first|rfl|(exfalso;omega))
set_option maxRecDepth 100000 in
set_option maxHeartbeats 1000000 in
theorem Tryz.compare_int (x y:Int) (w:World):Calls prog 80 #[.int .i64 x,.int .i64 y] w fun e w'=>e=.returned (.int .i64 (Lib.compareInt x y))∧w'=w:=by
 have t3:=underlying3;have a3:=Tryz.isAgg3;have z3:=Tryz.sizeOf3;have v3:=Tryz.zeroValue3;have t4:=underlying4;have a4:=Tryz.isAgg4;have z4:=Tryz.sizeOf4;have v4:=Tryz.zeroValue4
 have e7:∀args w,(callFunc 127 args).run prog w=.ok (.enter 127 args) w:=enters_of func127 (by kernel_rfl) rfl
 go_enter func80,ntmps80
 go_wp2_with (go_at_call 127;refine (Tryz.isNaN_int _ _).mono ?_;rintro e w' ⟨rfl,hw⟩;rw[hw])
 all_goals (go_ret;refine⟨?_,rfl⟩;unfold Lib.compareInt;(repeat' split)<;>first|rfl|(exfalso;omega))
set_option maxRecDepth 100000 in
set_option maxHeartbeats 1000000 in
theorem Tryz.cmpPr_int (x1 x2 y1 y2:Int) (W:World):Calls prog 79 #[.agg #[.int .i64 x1,.int .u64 x2],.agg #[.int .i64 y1,.int .u64 y2]] W fun e w'=>e=.returned (.int .i64 (Lib.compareInt x1 y1))∧∃q os',w'=grow (W.drewN q) os':=by
 have hcon:=fun W'=>Tryz.compare_int x1 y1 W'
 generalize Lib.compareInt x1 y1=r at hcon ⊢
 go_enter func79,ntmps79
 go_wp2_with (go_at_call 80;refine (hcon _).mono ?_;rintro e w' ⟨rfl,rfl⟩)
 go_ret
 exact⟨rfl,0,_,by rw[alloc_eq_grow,alloc_eq_grow,grow_grow];rfl⟩
set_option maxRecDepth 100000 in
set_option maxHeartbeats 1000000 in
theorem Tryz.cmpPa_int (x1 x2 y1 y2:Int) (W:World):Calls prog 82 #[.agg #[.int .u64 x1,.int .u64 x2],.agg #[.int .u64 y1,.int .u64 y2]] W fun e w'=>e=.returned (.int .i64 (Lib.compareInt x1 y1))∧∃q os',w'=grow (W.drewN q) os':=by
 have hcon:=fun W'=>Tryz.compare_u64 x1 y1 W'
 generalize Lib.compareInt x1 y1=r at hcon ⊢
 go_enter func82,ntmps82
 go_wp2_with (go_at_call 83;refine (hcon _).mono ?_;rintro e w' ⟨rfl,rfl⟩)
 go_ret
 exact⟨rfl,0,_,by rw[alloc_eq_grow,alloc_eq_grow,grow_grow];rfl⟩
end Go.Proofs
namespace Go.Proofs.YtedaafmfjhjfmaaGreatDoor
open _root_.Go.Proofs.Tryz
open Go.RowKit Go.Shelf
set_option linter.unusedSimpArgs false
set_option linter.unusedVariables false
def prV (p:Pr):List Value:=[.int .i64 p.1,vU64 p.2]
def paV (p:UInt64×UInt64):List Value:=[vU64 p.1,vU64 p.2]
theorem Aw2 (x:Pr):∀v∈prV x,v.oneCell'=true:=by
 intro v hv
 simp only[prV,List.mem_cons,List.not_mem_nil,or_false] at hv
 rcases hv with rfl|rfl<;>rfl
theorem Aw3 (x:UInt64×UInt64):∀v∈paV x,v.oneCell'=true:=by
 intro v hv
 simp only[paV,List.mem_cons,List.not_mem_nil,or_false] at hv
 rcases hv with rfl|rfl<;>rfl
def prK (p:Pr):Int:=p.1
def paK (p:UInt64×UInt64):Int:=n64 p.1
theorem Aw4 (blk size:Nat) (w:World):CmpLays prog 79 #[] prV 2 (cfK prK) blk 0 size w:=fun _ _ _ _ x y=>Tryz.cmpPr_int x.1 x.2.toNat y.1 y.2.toNat _
theorem Aw5 (blk size:Nat) (w:World):CmpLays prog 82 #[] paV 2 (cfK paK) blk 0 size w:=fun _ _ _ _ x y=>Tryz.cmpPa_int x.1.toNat x.2.toNat y.1.toNat y.2.toNat _
theorem Aw6 {w0:World} {ow:Nat→Prop} {hp:List Res} {k:Nat} {L:List Pr} (hk:hp[k]?=some (.onn 115 2 (.c (vC (L.flatMap prV))))) (hl:L.length≤1000000):
  Ad prog w0 ow 78 [.x (.a (.o k)),.x (.a (.v (.func (.func 79) #[] #[])))] hp (.t []) (hp.set k (.onn 115 2 (.c (vC ((D5 prK L).flatMap prV))))):=
 Aed (fun _=>rfl) prK hk (fun _=>rfl) (fun g cap w hH hg=>by
  have eg:∀args w,(callFunc 79 args).run prog w=.ok (.enter 79 args) w:=enters_of func79 (by kernel_rfl) rfl
  exact AnyQ.slices_SortFunc_eq Tryz.sortPr 2 Tryz.isAgg115 Tryz.sizeOf115 prV (fun _=>rfl) Aw2 (cfK prK) (Wz prK) 79 #[] g 0 cap L.toArray w eg (Aw4 g L.toArray.size w) hH hg (by simp;omega)) fun w _=>AnyF.slices_SortFunc_none Tryz.sortPr none 0 _ w
theorem Aw7 {w0:World} {ow:Nat→Prop} {hp:List Res} {k:Nat} {L:List (UInt64×UInt64)} (hk:hp[k]?=some (.onn 131 2 (.c (vC (L.flatMap paV))))) (hl:L.length≤1000000):
  Ad prog w0 ow 81 [.x (.a (.o k)),.x (.a (.v (.func (.func 82) #[] #[])))] hp (.t []) (hp.set k (.onn 131 2 (.c (vC ((D5 paK L).flatMap paV))))):=
 Aed (fun _=>rfl) paK hk (fun _=>rfl) (fun g cap w hH hg=>by
  have eg:∀args w,(callFunc 82 args).run prog w=.ok (.enter 82 args) w:=enters_of func82 (by kernel_rfl) rfl
  exact AnyQ.slices_SortFunc_eq Tryz.sortPa 2 Tryz.isAgg131 Tryz.sizeOf131 paV (fun _=>rfl) Aw3 (cfK paK) (Wz paK) 82 #[] g 0 cap L.toArray w eg (Aw5 g L.toArray.size w) hH hg (by simp;omega)) fun w _=>AnyF.slices_SortFunc_none Tryz.sortPa none 0 _ w
end Go.Proofs.YtedaafmfjhjfmaaGreatDoor
/- Layer 29 walked: From: the keys of a map, in order. -/
namespace Go.Proofs
open Go.RowKit Go.Maps Go.Sort Go.Shelf
set_option linter.unusedVariables false
def Tryz.rdAny:Value→Option (DataW Unit×List MemPlace):=fun _=>some (.lit (.bool true),[])
theorem Tryz.sortsI (m:Nat):AnyZI.SortsIn prog Tryz.sortedI_ren Fence.wide m:=
 ⟨fun blk off cap ss W hH hblk hsz=>callsIn_wide.2 (AnyM.slices_Sort_int Tryz.sortI blk off cap ss W hH hblk hsz),
  fun p cap W=>callsIn_wide.2 (AnyM.slices_Sort_int_none Tryz.sortI p cap W)⟩
set_option maxRecDepth 100000 in
set_option maxHeartbeats 1000000 in
theorem Tryz.from_at (g b nn:Nat) (D0:DataW Unit) (w:World) (hc:w.cell? ⟨g,4,none⟩=some (.map (some b))) (hown:w.ownsMap prog 3 Tryz.rdAny b nn D0) (hmax:Maps.size D0≤maxLen) (hbytes:Maps.size D0*8≤140737488355328):
  Calls prog 31 #[.pointer (some ⟨g,0,none⟩)] w fun e w'=>∃(v:Value) (ss:List Int),e=.returned v∧ss.Perm (intKeys D0)∧
   w'.ownsRow w.heap.size 3 1 v ss.length ((ss.mergeSort (fun x y=>decide (x≤y))).map encZ)∧Below w.heap.size w w':=by
 refine (callsIn_wide (n:=6)).1 ?_
 have hbl:=hown.lt
 have hseq:SeqGives Fence.wide 2 prog 133 #[.pointer (some ⟨w.heap.size,0,none⟩)] encZ (fun ss=>ss.Perm (intKeys D0)) (Maps.size D0) (w.alloc (.cells #[.map (some b)] 117)):=
  AnyZI.keys_gives (ρ:=Tryz.keysM_ren) {Tryz.keysM with} Fence.wide _ trivial rfl (by omega) w.heap.size b nn D0 _ (by simp) (by simp) (by
   obtain⟨es,clock,hb,Ft,hs,hD⟩:=hown
   exact⟨es,clock,(Below.heap_alloc _ _ b hbl).trans hb,Ft,hs,hD⟩)
 have cK:∀mb W,CallsIn Fence.wide 5 prog 86 #[.map mb] W fun e w'=>e=.returned (.func (.func 133) #[] #[.pointer (some ⟨W.heap.size,0,none⟩)])∧w'=W.alloc (.cells #[.map mb] 117):=fun mb W=>AnyZI.keys_in Tryz.keysM Fence.wide 5 trivial rfl mb W
 have cS:=AnyZI.sorted_in Tryz.sortedI Fence.wide 5 trivial trivial trivial trivial rfl (by omega) (Tryz.sortsI _) (enters_of func132 (by kernel_rfl) rfl) 133 #[.pointer (some ⟨w.heap.size,0,none⟩)] trivial (enters_of func133 (by kernel_rfl) rfl) _ _ hmax hbytes _ hseq
 change CallsIn _ _ prog 85 _ _ _ at cS
 have hfK:Fence.wide.fn 86:=trivial
 have hfS:Fence.wide.fn 85:=trivial
 refine callsIn_of_wp func31 rfl trivial ?_ rfl
 simp only[ntmps31,List.size_toArray,List.length_cons,List.length_nil,Nat.reduceAdd,Nat.reduceSub,Array.replicate_succ,Array.replicate_zero,List.push_toArray,List.append_toArray,List.nil_append,List.cons_append]
 gi_wp2_with (first
  |(gi_at_call 86;refine (cK _ _).mono ?_;rintro e w' ⟨rfl,rfl⟩)
  |(gi_at_call 85;refine cS.mono ?_;rintro e w' ⟨v,ss,rfl,hS,hrow,hnil,hb⟩))
 go_ret
 exact⟨v,ss,rfl,hS,ownsRow_base_a hrow (by simp),((Below.refl _ w).alloc (Nat.le_refl _) _).trans (hb.mono (by simp))⟩
end Go.Proofs
namespace Go.Proofs.YtedaafmfjhjfmaaGreatDoor
open _root_.Go.Proofs.Tryz
open Go.RowKit Go.Maps
open Go.WideElems (rd rg)
open Go.MapKept (Stamped)
open Go.WideShapes (sorted_perm)
set_option linter.unusedSimpArgs false
set_option linter.unusedVariables false
def O5 (l:List (Int×MgR)):Prop:=(l.map (·.1)).Nodup∧(∀p∈l,0≤p.1∧p.1 < 1000000)∧l.length≤1000000
set_option maxRecDepth 100000 in
theorem Aw8 {r:SmR} {g:Nat} {M:List Res} {w0 w:World} {B:Nat→Prop} {γ:List Nm} (hS:Sat w0 B γ (smB g r++M) w) (hk:O5 r.taken):
  Calls prog 31 #[.pointer (some ⟨g,0,none⟩)] w fun e w'=>∃v',e=.returned v'∧Own w' w.heap.size 3 v' (r.s.from_.map (Value.int .i64))∧Below w.heap.size w w':=by
 obtain⟨hk1,hk2,hk3⟩:=hk
 obtain⟨_,hg,_⟩:=hS.holds 0 (.pin g 120 (.c (smA r))) rfl
 obtain⟨_,b,es,h1,h2,hb,h3⟩:=hS.holds 2 (.mp .i64 (mgE r.taken)) rfl
 have hc:w.cell? ⟨g,4,none⟩=some (.map (some b)):=by
  have:=hS.cellv (k:=0) (i:=4) (show Ch (smB g r++M)[0]?=some (120,.c (smA r)) from rfl) (by show 4 < 5;omega)
  rw[hg] at this
  rw[this]
  exact congrArg some h1
 have hmp:mpE γ .i64 (mgE r.taken)=r.taken.map fun p=>(Value.int .i64 p.1,(Sc.g (mgA p.2)).val γ):=by
  unfold mpE mgE
  rw[List.map_map]
  rfl
 rw[hmp] at h3
 have hl:es.size=r.taken.length:=by
  have:=congrArg List.length h3
  simpa using this
 have hke:es.toList.map (·.key)=r.taken.map fun p=>Value.int .i64 p.1:=by
  have:=congrArg (List.map (·.1)) h3
  rw[List.map_map,List.map_map] at this
  exact this
 have hkey:∀x∈es.toList,∃p∈r.taken,x.key=.int .i64 p.1:=fun x hx=>by
  have:x.key∈es.toList.map (·.key):=List.mem_map.2 ⟨x,hx,rfl⟩
  rw[hke] at this
  obtain⟨p,hp,e⟩:=List.mem_map.1 this
  exact⟨p,hp,e.symm⟩
 have hrd:∀x∈es.toList,∃p∈r.taken,x.key=.int .i64 p.1∧rd prog 3 Tryz.rdAny x=some (Lit.int .i64 p.1,DataW.lit (.bool true)):=fun x hx=>by
  obtain⟨p,hp,e⟩:=hkey x hx
  refine⟨p,hp,e,?_⟩
  have hw:(Lit.int .i64 p.1).wf=true:=by
   have:=hk2 p hp
   have e1:IntKind.i64.min=-9223372036854775808:=by decide
   have e2:IntKind.i64.max=9223372036854775807:=by decide
   show (decide (IntKind.i64.min≤p.1)&&decide (p.1≤IntKind.i64.max))=true
   rw[e1,e2,Bool.and_eq_true,decide_eq_true_eq,decide_eq_true_eq]
   omega
  unfold rd
  rw[e,keyOf_int_mk underlying3 hw]
  rfl
 have hborn:∀i:Nat,es.toList[i]?.map (·.born)=if i < es.size then some i else none:=fun i=>by
  rw[Array.getElem?_toList]
  by_cases hi:i < es.size
  ·rw[if_pos hi,Array.getElem?_eq_getElem hi]
   exact congrArg some (hb i _ (Array.getElem?_eq_getElem hi))
  ·rw[if_neg hi,Array.getElem?_eq_none (by omega)]
   rfl
 have hbs:es.toList.map (·.born)=List.range es.size:=by
  refine List.ext_getElem? fun i=>?_
  rw[List.getElem?_map,hborn i]
  by_cases hi:i < es.size
  ·rw[if_pos hi,List.getElem?_range hi]
  ·rw[if_neg hi,List.getElem?_eq_none (by simp;omega)]
 have hst:Stamped es es.size:=by
  refine⟨fun x hx=>?_,by rw[hbs];exact List.nodup_range,?_⟩
  ·have:x.born∈es.toList.map (·.born):=List.mem_map.2 ⟨x,hx,rfl⟩
   rw[hbs] at this
   exact List.mem_range.1 this
  ·rw[hke]
   unfold List.Nodup at hk1 ⊢
   rw[List.pairwise_map] at hk1 ⊢
   exact hk1.imp fun h e=>h (by injection e)
 obtain⟨D,hD⟩:∃D:DataW Unit,D=.map ((es.toList.map (rg prog 3 Tryz.rdAny)).foldr DataW.insert []):=⟨_,rfl⟩
 have hown:w.ownsMap prog 3 Tryz.rdAny b es.size D:=⟨es,es.size,h2,⟨by rw[hl];unfold maxLen;omega,hst,fun x hx=>by
  obtain⟨p,_,_,h⟩:=hrd x hx
  exact⟨_,h⟩⟩,Nat.le_refl _,hD⟩
 have hsz:Maps.size D=r.taken.length:=by
  rw[hD]
  show (List.foldr DataW.insert [] _).length=_
  rw[length_sorted,List.length_map,Array.length_toList,hl]
 have hint:(intKeys D).Perm (r.taken.map (·.1)):=by
  rw[hD]
  show (List.map (fun p:Lit×DataW Unit=>_root_.Go.intOf p.1) _).Perm _
  refine ((sorted_perm _).map _).trans (List.Perm.of_eq ?_)
  rw[List.map_map]
  have:∀x∈es.toList,(fun p:Lit×DataW Unit=>_root_.Go.intOf p.1) (rg prog 3 Tryz.rdAny x)=match x.key with| .int _ a=>a|_=>0:=fun x hx=>by
   obtain⟨p,_,e,h⟩:=hrd x hx
   unfold rg
   rw[h,e]
   rfl
  refine (List.map_congr_left this).trans ?_
  have:=congrArg (List.map fun v:Value=>match v with| .int _ a=>a|_=>0) hke
  rw[List.map_map,List.map_map] at this
  exact this
 refine (Tryz.from_at g b es.size D w hc hown (by rw[hsz];unfold maxLen;omega) (by rw[hsz];omega)).mono fun e w' ⟨v,ss,he,hp,hrow,hbl⟩=>⟨v,he,?_,hbl⟩
 have hps:ss.Perm (r.taken.map (·.1)):=hp.trans hint
 have hfr:r.s.from_=ss.mergeSort fun x y=>decide (x≤y):=by
  have e:r.s.taken.map (·.1)=r.taken.map (·.1):=by
   show (Bw MgR.mg r.taken).map (·.1)=_
   unfold Bw
   rw[List.map_map]
   rfl
  unfold Sms.from_
  rw[e]
  exact (mergeSort_of_perm_i hps).symm
 rw[hfr]
 have hlen:(((ss.mergeSort fun x y=>decide (x≤y)).map (Value.int .i64)).length)=ss.length:=by
  rw[List.length_map,List.length_mergeSort]
 unfold Own
 rw[hlen]
 exact hrow
end Go.Proofs.YtedaafmfjhjfmaaGreatDoor
