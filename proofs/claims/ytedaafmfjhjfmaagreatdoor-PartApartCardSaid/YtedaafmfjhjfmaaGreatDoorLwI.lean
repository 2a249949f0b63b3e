import Derived.Test.YtedaafmfjhjfmaaGreatDoorLwA
import Derived.Test.YtedaafmfjhjfmaaGreatDoorVl
import Derived.Test.YtedaafmfjhjfmaaGreatDoorLw0
import Derived.Test.YtedaafmfjhjfmaaGreatDoorMg4
/- Layer 28 walked: tellSum. -/
namespace Go.Proofs.YtedaafmfjhjfmaaGreatDoor
open Go.RowKit
set_option linter.unusedSimpArgs false
set_option linter.unusedVariables false
theorem Aat {a b:List UInt32}:∀{n:Nat},n≤a.length→n≤b.length→Dh (·+·) a b n=List.zipWith (·+·) (a.take n) (b.take n)
 |0,_,_=>by simp [Up]
 |n+1,ha,hb=>by
  rw[M3,Aat (by omega) (by omega),List.take_add_one,List.take_add_one,List.getElem?_eq_getElem (by omega),List.getElem?_eq_getElem (by omega),Option.toList_some,Option.toList_some,List.zipWith_append (by simp;omega)]
  simp [ix,List.getD_eq_getElem?_getD,List.getElem?_eq_getElem (show n < a.length by omega),List.getElem?_eq_getElem (show n < b.length by omega)]
theorem Aau {a b:List UInt32} {n:Nat} (ha:a.length=n) (hb:b.length=n):Dh (·+·) a b n=B9 a b:=by
 rw[Aat (by omega) (by omega),List.take_of_length_le (by omega),List.take_of_length_le (by omega)]
 rfl
theorem A31 {α β:Type} (f:β→α→β) (b:β) (l:List α) (x:α):(l++[x]).foldl f b=f (l.foldl f b) x:=by rw[List.foldl_append];rfl
theorem Aav (n:Nat) (L:List (List UInt32)) (h:∀r∈L,r.length=n):∀i,i≤L.length→Bl n L i=(L.take i).foldl B9 (List.replicate n 0)
 |0,_=>by rw[Aar,List.take_zero];rfl
 |i+1,hi=>by
  have hii:i < L.length:=by omega
  have e:ix L i=L[i]:=by
   unfold ix
   rw[List.getD_eq_getElem?_getD,List.getElem?_eq_getElem hii]
   rfl
  rw[Uq,Aau (Aas n L i) (by rw[e];exact h _ (List.getElem_mem hii)),Aav n L h i (by omega),List.take_add_one,List.getElem?_eq_getElem hii,Option.toList_some,A31,e]
attribute [local irreducible] Ad Ae Ah Au Am Ap Ai Ao
attribute [local irreducible] B4 okV Aw erV Tal.can Tal.st Bl
def Aaw (x:SlV UInt32):Rw:=⟨x.A,x.c,x.l⟩
def A8y (r:LfR) (ids:List Int):List Rw:=ids.map fun id=>Aaw ((A7 r.rows id).getD default)
def A32 (pl ge:Int) (ids row:Value) (a b:Nat):List At:=mgL (.v (vU8 6)) (.v (.int .i64 pl)) (.v (.int .i64 0)) (.v (.int .i64 0)) (.v (.int .i64 ge)) (.v (vU64 0)) (List.replicate 32 0) (.v ids) (.s a 0 2 2) (.o b) (.v row) (.v (.int .i64 0))
structure SumX where
 A1:Option Addr
 cap1:Nat
 A2:Option Addr
 cap2:Nat
 out:SlV SnR
 G:List Fct
def A8z (r:LfR) (x:SumX):Prop:=x.out.l.map SnR.s=r.s.tell.2∧OutOk x.G x.out
def A33 (r:LfR) (A1:Option Addr) (cap1:Nat) (A2:Option Addr) (cap2:Nat):List Fct:=[⟨.slice A1 r.ty.inn.l.length cap1,r.ty.inn.l.length,r.ty.inn.l.map (Value.int .i64)⟩,⟨.slice A2 (r.s.rowSum r.ty.inn.l).length cap2,(r.s.rowSum r.ty.inn.l).length,(r.s.rowSum r.ty.inn.l).map Aj⟩]
def A34 (r:LfR) (n:Nat) (ph:Int) (m:List At):List At:=.v (.int .i64 r.place):: .v (.int .i64 r.gen):: .v (.int .i64 (n:Int)):: .v (.int .i64 r.term):: .v (.int .i64 r.need):: .v (.int .i64 r.parent):: .v r.above.val:: .v r.group.val:: .v (.int .i64 ph):: .v r.waits.val:: .p 1 0:: .v r.joined.val:: .o 2:: .o 3:: .o 4::m
def A80 (g:Nat) (r:LfR) (n:Nat) (x:SumX):List Res:=[.pin g 104 (.c (A34 r n 3 (A32 r.place r.gen (.slice x.A1 r.ty.inn.l.length x.cap1) (.slice x.A2 (r.s.rowSum r.ty.inn.l).length x.cap2) 6 7))),.blk 170 (.c (tlA r.ty)),.mp .i64 (puE r.pub),bxR r,.mp .i64 (slE r.rows),.abs (Ac (A33 r x.A1 x.cap1 x.A2 x.cap2++x.G)),.blk 41 (.u64 [UInt64.ofInt r.place,UInt64.ofInt r.gen]),.onn 115 2 (.c (pcs (r.s.peers r.waits.l)))]
def A81 (r:LfR):MgS:={Gd 6 with pl:=r.place,ge:=r.gen,ids:=r.ty.inn.l,ns:=[UInt64.ofInt r.place,UInt64.ofInt r.gen],ps:=r.s.peers r.waits.l,xs:=r.s.rowSum r.ty.inn.l}
end Go.Proofs.YtedaafmfjhjfmaaGreatDoor
/- Layer 28: what tellRoster, tellBoxes and tellSum leave, as their callers see it; on. -/
namespace Go.Proofs.YtedaafmfjhjfmaaGreatDoor
open Go.RowKit
set_option linter.unusedSimpArgs false
set_option linter.unusedVariables false
attribute [local irreducible] Ad Ae Ah Au Am Ap Ai Ao
attribute [local irreducible] B4 okV Aw erV Tal.can Tal.st Bl
def A82 (f:FuncId) (r:LfR) (Fs:List Fct) (s:LfS) (out:List SnS) (g:Nat) (w:World) (B:Nat→Prop):Prop:=
 Calls Tryz.prog f #[.pointer (some ⟨g,0,none⟩)] w fun e w'=>∃(x:LfR×SlV SnR×List Fct) (γ1:List Nm),A3o Fs s out x∧e=.returned x.2.1.val∧Sat w B γ1 (lfB g x.1++[.abs (Ac x.2.2)]) w'
section
variable {r:LfR} {g:Nat} {w:World} {B:Nat→Prop} {γ:List Nm} {Fs:List Fct}
end
end Go.Proofs.YtedaafmfjhjfmaaGreatDoor
/- The plain law of layer 28: what the boxes hold while they are waited for. No program in sight. -/
namespace Go.Proofs.YtedaafmfjhjfmaaGreatDoor
set_option linter.unusedVariables false
structure LfBx (s:LfS):Prop where
 box:s.phase=1→s.waits=s.joined∧∀f∈s.tally.inn,∃x,A7 s.boxes f=some x∧x.length=2*s.joined.length
theorem A35 {l:List Int} (h:Bg (-1) l=true):l.length≤64:=by
 have hn:=Zd (Iq.1 h).2
 have:=Ze hn (m:=(List.range 64).map Int.ofNat) fun x hx=>by
  have hx:=Iu h x hx
  exact List.mem_map.2 ⟨x.toNat,List.mem_range.2 (by omega),by show ((x.toNat:Nat):Int)=x;omega⟩
 rw[List.length_map,List.length_range] at this
 exact this
end Go.Proofs.YtedaafmfjhjfmaaGreatDoor
/- Layer 28 walked: on. -/
namespace Go.Proofs.YtedaafmfjhjfmaaGreatDoor
open Go.RowKit
set_option linter.unusedSimpArgs false
set_option linter.unusedVariables false
attribute [local irreducible] Ad Ae Ah Au Am Ap Ai Ao
attribute [local irreducible] B4 okV Aw erV Tal.can Tal.st Bl
section
variable {r:LfR} {g:Nat} {w:World} {B:Nat→Prop} {γ:List Nm} {Fs:List Fct}
structure OnOk (r:LfR) (Fs:List Fct):Prop where
 ok:LfOk Fs r
 inv:LfInv r.s [] none∨∃R,LfInv r.s R none
 bx:LfBx r.s
 live:r.phase < 2→r.live=true
 term:1≤r.term∧r.term≤1000
end
end Go.Proofs.YtedaafmfjhjfmaaGreatDoor
/- Layer 28 walked: on, where a leaf is lost, or waits. -/
namespace Go.Proofs.YtedaafmfjhjfmaaGreatDoor
open Go.RowKit
set_option linter.unusedSimpArgs false
set_option linter.unusedVariables false
section
variable {P:Program} {w0:World} {ow:Nat→Prop} {n:Nat} {s:S}
end
attribute [local irreducible] Ad Ae Ah Au Am Ap Ai Ao
attribute [local irreducible] B4 okV Aw erV Tal.can Tal.st Bl
section
variable {r:LfR} {g:Nat} {w:World} {B:Nat→Prop} {γ:List Nm} {Fs:List Fct}
def A83 (ge:Int) (a:At):List At:=mgL (.v (vU8 17)) (.v (.int .i64 0)) (.v (.int .i64 0)) (.v (.int .i64 0)) (.v (.int .i64 ge)) (.v (vU64 0)) (List.replicate 32 0) a Lg Lg Lg (.v (.int .i64 0))
def A84 (r:LfR) (A:Option Addr):MgR:={zeroR with k:=17,ge:=r.gen,ids:=⟨A,1,[r.place]⟩}
end
end Go.Proofs.YtedaafmfjhjfmaaGreatDoor
/- Layer 28 walked: Tick, Begin. -/
namespace Go.Proofs.YtedaafmfjhjfmaaGreatDoor
open Go.RowKit
set_option linter.unusedSimpArgs false
set_option linter.unusedVariables false
attribute [local irreducible] Ad Ae Ah Au Am Ap Ai Ao
attribute [local irreducible] B4 okV Aw erV Tal.can Tal.st Bl
section
variable {r:LfR} {g:Nat} {w:World} {B:Nat→Prop} {γ:List Nm} {Fs:List Fct}
end
end Go.Proofs.YtedaafmfjhjfmaaGreatDoor
/- Layer 28 walked: Hear, by kind. -/
namespace Go.Proofs.YtedaafmfjhjfmaaGreatDoor
open Go.RowKit
set_option linter.unusedSimpArgs false
set_option linter.unusedVariables false
theorem MgF.ok {m:MgR} {w0 w:World} {B:Nat→Prop} {γ:List Nm} {hp:List Res} (h:MgF m w0 B) (hS:Sat w0 B γ hp w):m.Ok w:=by
 have k:∀{A:Option Addr} {vs:List Value},FW w0 B A vs→RdV w w.heap.size A vs:=fun {A vs} h=>by
  obtain⟨A',c',e,_,r⟩:=J1 (hp:=hp) h vs.length vs.length rfl (Nat.le_refl _) γ w hS
  have e:Value.slice A vs.length vs.length=.slice A' vs.length c':=e
  injection e with e1 _ _
  rw[e1]
  exact r
 exact⟨h.few.sm,⟨h.ids.1,h.few.ids,k h.ids.2⟩,⟨h.ns.1,h.few.ns,k h.ns.2⟩,⟨h.ps.1,h.few.ps,k h.ps.2⟩,⟨h.xs.1,h.few.xs,k h.xs.2⟩⟩
attribute [local irreducible] Ad Ae Ah Au Am Ap Ai Ao
attribute [local irreducible] B4 okV Aw erV Tal.can Tal.st Bl Cm
section
variable {r:LfR} {m:MgR} {g:Nat} {w:World} {B:Nat→Prop} {γ:List Nm} {Fs:List Fct}
end
end Go.Proofs.YtedaafmfjhjfmaaGreatDoor
/- Layer 28 walked: Hear, Ask and Give. -/
namespace Go.Proofs.YtedaafmfjhjfmaaGreatDoor
open Go.RowKit
set_option linter.unusedSimpArgs false
set_option linter.unusedVariables false
attribute [local irreducible] Ad Ae Ah Au Am Ap Ai Ao
attribute [local irreducible] B4 okV Aw erV Tal.can Tal.st Bl Cm
section
variable {r:LfR} {m:MgR} {g:Nat} {w:World} {B:Nat→Prop} {γ:List Nm} {Fs:List Fct}
def gvL (pl cl ge:Int) (a:At):List At:=mgL (.v (vU8 10)) (.v (.int .i64 pl)) (.v (.int .i64 0)) (.v (.int .i64 cl)) (.v (.int .i64 ge)) (.v (vU64 0)) (List.replicate 32 0) Lg a Lg Lg (.v (.int .i64 0))
def gvR (pl cl ge:Int) (ns:SlV UInt64):MgR:={zeroR with k:=10,pl:=pl,cl:=cl,ge:=ge,ns:=ns}
def gvH (g:Nat) (r:LfR) (m:MgR):List Res:=lfB g r++[.abs (Ac []),.own 41 (.u64 m.ns.l),.onn 60 45 (.c (.v (.bool false):: .v (.int .i64 0)::gvL r.place m.cl m.ge (.o 6)))]
end
end Go.Proofs.YtedaafmfjhjfmaaGreatDoor
/- Layer 28 walked: Hear. -/
namespace Go.Proofs.YtedaafmfjhjfmaaGreatDoor
open Go.RowKit
set_option linter.unusedSimpArgs false
set_option linter.unusedVariables false
def J4 (m:MgR):List Fct:=[⟨m.ids.val,m.ids.l.length,m.ids.l.map (Value.int .i64)⟩,⟨m.ns.val,m.ns.l.length,m.ns.l.map vU64⟩,⟨m.ps.val,m.ps.l.length,pvs m.ps.l⟩,⟨m.xs.val,m.xs.l.length,m.xs.l.map Aj⟩]
theorem MgF.known {m:MgR} {w:World} {B:Nat→Prop} (h:MgF m w B):Known w B (J4 m):=fun f hf=>by
 simp only[J4,List.mem_cons,List.not_mem_nil,or_false] at hf
 rcases hf with rfl|rfl|rfl|rfl
 ·exact⟨_,_,rfl,h.ids.1,h.ids.2⟩
 ·exact⟨_,_,rfl,h.ns.1,h.ns.2⟩
 ·exact⟨_,_,rfl,h.ps.1,h.ps.2⟩
 ·exact⟨_,_,rfl,h.xs.1,h.xs.2⟩
theorem Q7 {α:Type} {w:World} {B:Nat→Prop} {Fs:List Fct} {s:SlV α} {vs:List Value} (hk:Known w B Fs) (h:(⟨s.val,s.l.length,vs⟩:Fct)∈Fs):s.l.length≤s.c∧FW w B s.A vs:=by
 obtain⟨A,c,h1,h2,h3⟩:=hk _ h
 have h1:Value.slice s.A s.l.length s.c=.slice A s.l.length c:=h1
 injection h1 with e1 _ e3
 subst e1 e3
 exact⟨h2,h3⟩
theorem MgF.of {m:MgR} {w:World} {B:Nat→Prop} (h:Known w B (J4 m)) (hf:m.mg.Few):MgF m w B:=
 ⟨hf,Q7 h (by simp [J4]),Q7 h (by simp [J4]),Q7 h (by simp [J4]),Q7 h (by simp [J4])⟩
attribute [local irreducible] Ad Ae Ah Au Am Ap Ai Ao
attribute [local irreducible] B4 okV Aw erV Tal.can Tal.st Bl Cm
section
variable {r:LfR} {m:MgR} {g:Nat} {w:World} {B:Nat→Prop} {γ:List Nm} {Fs:List Fct}
end
end Go.Proofs.YtedaafmfjhjfmaaGreatDoor
