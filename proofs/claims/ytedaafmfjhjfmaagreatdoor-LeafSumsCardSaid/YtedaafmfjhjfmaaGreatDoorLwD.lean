import Derived.Test.YtedaafmfjhjfmaaGreatDoorLwB
import Derived.Test.YtedaafmfjhjfmaaGreatDoorLr0
/- Layer 28: what tellRoster, tellBoxes and tellSum leave, as their callers see it; on. -/
namespace Go.Proofs.YtedaafmfjhjfmaaGreatDoor
open Go.RowKit
set_option linter.unusedSimpArgs false
set_option linter.unusedVariables false
attribute [local irreducible] Ah Ai Am Bc A7 Ay Ap A6
attribute [local irreducible] A8 okV Bj erV Tal.can Tal.st Bz
theorem K5 {w:World} {B:Nat→Prop} {γ:List Nm} {g:Nat} {r:LfR} (hS:Sat w B γ (lfB g r) w):(List.map (Sv.val (γ++[Nm.m (.bool true) (fun _=>False)])) [Sv.x (.a (.p 0 0))]).toArray=#[.pointer (some ⟨g,0,none⟩)]:=by
 show #[Value.pointer (some ⟨nmB _ 0,0,none⟩)]=_
 rw[V9 hS]
def N2 (f:FuncId) (r:LfR) (Fs:List Fct) (s:LfS) (out:List SnS) (g:Nat) (w:World) (B:Nat→Prop):Prop:=
 Calls Tryz.prog f #[.pointer (some ⟨g,0,none⟩)] w fun e w'=>∃(x:LfR×SlV SnR×List Fct) (γ1:List Nm),Bi Fs s out x∧e=.returned x.2.1.val∧Sat w B γ1 (lfB g x.1++[.abs (Aa x.2.2)]) w'
section
variable {r:LfR} {g:Nat} {w:World} {B:Nat→Prop} {γ:List Nm} {Fs:List Fct}
theorem A4v (hS:Sat w B γ (lfB g r) w) (hw:Known w B Fs) (ok:LfOk Fs r) (hph:r.phase=0) (hlv:r.live=true) (h1:Br (-1) r.ty.inn.l=true) (h2:1≤r.need∧r.need≤r.ty.inn.l.length) (h3:1≤r.term∧r.term≤1000):N2 117 r Fs r.s.roster.1 r.s.roster.2 g w B:=by
 have:=A38 r hS hw ok hph hlv h1 h2 h3
 rw[K5 hS] at this
 exact this.mono fun e w' ⟨x,γ1,h⟩=>⟨x,γ1,h⟩
theorem A4w (hS:Sat w B γ (lfB g r) w) (hw:Known w B Fs) (ok:LfOk Fs r) (hph:r.phase=1) (hlv:r.live=true) (h1:Br (-1) r.ty.inn.l=true) (h2:1≤r.need∧r.need≤r.ty.inn.l.length) (h3:1≤r.term∧r.term≤1000)
  (hj:r.joined.l.length≤500) (hi:r.ty.inn.l.length≤500) (hsub:∀x∈r.ty.inn.l,x∈r.joined.l) (hbx:∀f∈r.ty.inn.l,∃x,Aq r.boxes f=some x∧x.l.length=2*r.joined.l.length):N2 118 r Fs r.s.box.1 r.s.box.2 g w B:=by
 have:=A4c r hS hw ok hph hlv h1 h2 h3 hj hi hsub hbx
 rw[K5 hS] at this
 exact this.mono fun e w' ⟨x,γ1,h⟩=>⟨x,γ1,h⟩
theorem A4x {n:Nat} (hS:Sat w B γ (lfB g r) w) (hw:Known w B Fs) (ok:LfOk Fs r) (hph:r.phase=2) (hd:r.dim=n) (hrow:∀f∈r.ty.inn.l,∃x,Aq r.rows f=some x∧x.l.length=n):N2 119 r Fs r.s.tell.1 r.s.tell.2 g w B:=by
 have h0:=A4u r n hS hw ok hph hd hrow
 rw[K5 hS] at h0
 refine h0.mono fun e w' ⟨x,γ1,⟨q1,q2⟩,he,hS1⟩=>?_
 have f2:(r.s.rowSum r.ty.inn.l).length≤1000:=by
  rw[Wi r.s r.ty.inn.l n hd fun id hid=>by
   obtain⟨x,hx,hxl⟩:=hrow id hid
   refine⟨x.l,?_,hxl⟩
   show Aq (Bn SlV.l r.rows) id=_
   rw[H0,hx]
   rfl,Sa]
  have:=ok.dim
  omega
 have hpl:(r.s.peers r.waits.l).length≤1000:=by unfold LfS.peers;rw[List.length_map];exact ok.few3
 -- the numbers
 have hblk:=hS1.holds 6 _ rfl
 have hb6:nmB γ1 6 < w'.heap.size:=(hS1.mine 6 _ (nmB γ1 6) rfl rfl).2
 have hns:=hS1.rdBlk (k:=6) (c:=.u64 [UInt64.ofInt r.place,UInt64.ofInt r.gen]) rfl 0
 obtain⟨m0,hm0⟩:∃m0:Value,m0=.slice (some ⟨nmB γ1 6,0,none⟩) 2 2:=⟨_,rfl⟩
 have hrc:=hS1.recell (k:=0) (t:=104) (c:=.c (F7 r n 3 (D7 r.place r.gen (.slice x.A1 r.ty.inn.l.length x.cap1) (.slice x.A2 (r.s.rowSum r.ty.inn.l).length x.cap2) 6 7))) (c':=.c (F7 r n 3 (mgL (.v (vU8 6)) (.v (.int .i64 r.place)) (.v (.int .i64 0)) (.v (.int .i64 0)) (.v (.int .i64 r.gen)) (.v (vU64 0)) (List.replicate 32 0) (.v (.slice x.A1 r.ty.inn.l.length x.cap1)) (.v m0) (.o 7) (.v (.slice x.A2 (r.s.rowSum r.ty.inn.l).length x.cap2)) (.v (.int .i64 0))))) rfl (by
  show (F7 r n 3 _).map (At.val γ1)=(F7 r n 3 _).map (At.val γ1)
  unfold F7 D7
  simp only[List.map_cons,Ks]
  rw[show At.val γ1 (.v m0)=At.val γ1 (.s 6 0 2 2) from hm0])
 obtain⟨γ2,eB,eS,h3⟩:=hrc.absorbs (j:=6) (k:=5) (l:=N0 r x.A1 x.cap1 x.A2 x.cap2++x.G) (fs:=[⟨m0,2,[vU64 (UInt64.ofInt r.place),vU64 (UInt64.ofInt r.gen)]⟩]) (r:=.blk 41 (.u64 [UInt64.ofInt r.place,UInt64.ofInt r.gen])) rfl rfl (by decide) (X:=fun b=>some (nmB γ1 6)=some b) (fun b hb=>hb) fun f hf=>by
   rw[List.mem_singleton.1 hf]
   refine⟨some ⟨nmB γ1 6,0,none⟩,2,hm0,Nat.le_refl _,by show 2≤maxLen;unfold maxLen;omega,fun _=>⟨nmB γ1 6,0,rfl,rfl,fun j u hu=>?_⟩⟩
   obtain⟨b,off,e1,_,e2⟩:=hns (by show 0 < 2;omega)
   cases e1
   exact e2 j u hu
 -- the peers
 obtain⟨A3,cap3,γ3,e3,b3,_,_,h5⟩:=h3.onnFs (j:=7) (k:=5) (e:=115) (m:=2) (c:=.c (pcs (r.s.peers r.waits.l))) (vs:=pvs (r.s.peers r.waits.l)) (n:=(r.s.peers r.waits.l).length) (l:=(N0 r x.A1 x.cap1 x.A2 x.cap2++x.G)++[⟨m0,2,[vU64 (UInt64.ofInt r.place),vU64 (UInt64.ofInt r.gen)]⟩]) rfl rfl (by decide) (L3 γ2 _) (Jj _)
 obtain⟨m,hm⟩:∃m:MgR,m=⟨6,r.place,0,0,r.gen,0,List.replicate 32 0,⟨x.A1,x.cap1,r.ty.inn.l⟩,⟨some ⟨nmB γ1 6,0,none⟩,2,[UInt64.ofInt r.place,UInt64.ofInt r.gen]⟩,⟨A3,cap3,r.s.peers r.waits.l⟩,⟨x.A2,x.cap2,r.s.rowSum r.ty.inn.l⟩,0⟩:=⟨_,rfl⟩
 obtain⟨Gs,hGs⟩:∃Gs,Gs=((N0 r x.A1 x.cap1 x.A2 x.cap2++x.G)++[⟨m0,2,[vU64 (UInt64.ofInt r.place),vU64 (UInt64.ofInt r.gen)]⟩])++[(⟨.slice A3 (r.s.peers r.waits.l).length cap3,(r.s.peers r.waits.l).length,pvs (r.s.peers r.waits.l)⟩:Fct)]:=⟨_,rfl⟩
 have h6:Sat w B γ3 ((lfB g {r with sum:=m,phase:=3}++[.abs (Aa Gs)])++[.gone,.gone]) w':=by
  refine Eq.mp (congrArg (fun l=>Sat w B γ3 l w') ?_) h5
  show ([.pin g 104 (.c ((F7 r n 3 (mgL (.v (vU8 6)) (.v (.int .i64 r.place)) (.v (.int .i64 0)) (.v (.int .i64 0)) (.v (.int .i64 r.gen)) (.v (vU64 0)) (List.replicate 32 0) (.v (.slice x.A1 r.ty.inn.l.length x.cap1)) (.v m0) (.o 7) (.v (.slice x.A2 (r.s.rowSum r.ty.inn.l).length x.cap2)) (.v (.int .i64 0)))).map (At.sub 7 (.slice A3 (r.s.peers r.waits.l).length cap3)))),.blk 170 (.c ((tlA r.ty).map (At.sub 7 (.slice A3 (r.s.peers r.waits.l).length cap3)))),.mp .i64 (D5 7 (.slice A3 (r.s.peers r.waits.l).length cap3) (puE r.pub)),Res.sub 7 (.slice A3 (r.s.peers r.waits.l).length cap3) (bxR r),.mp .i64 (D5 7 (.slice A3 (r.s.peers r.waits.l).length cap3) (slE r.rows)),.abs (Aa _),.gone,.gone]:List Res)=_
  have e1:(F7 r n 3 (mgL (.v (vU8 6)) (.v (.int .i64 r.place)) (.v (.int .i64 0)) (.v (.int .i64 0)) (.v (.int .i64 r.gen)) (.v (vU64 0)) (List.replicate 32 0) (.v (.slice x.A1 r.ty.inn.l.length x.cap1)) (.v m0) (.o 7) (.v (.slice x.A2 (r.s.rowSum r.ty.inn.l).length x.cap2)) (.v (.int .i64 0)))).map (At.sub 7 (.slice A3 (r.s.peers r.waits.l).length cap3))=lfA {r with sum:=m,phase:=3}:=by
   unfold F7 lfA mgA mgL
   rw[hm,hm0]
   simp only[List.map_cons,List.map_append,List.map_nil,List.map_map,List.cons_append,List.nil_append,At.sub,hd]
   rfl
  rw[e1,K0,Hz,Gg,Io,hGs]
  rfl
 refine⟨({r with sum:=m,phase:=3},x.out,Gs),_,⟨?_,q1,fun h=>?_,?_,?_⟩,he,h6.frontOf (Ju g _ _)⟩
 ·show LfS.mk _ _ _ _ _ _ _ _ _ _ _ _ _ _ _ m.mg=_
  rw[hm]
  rfl
 ·exact absurd h (by show ¬(3:Int) < 2;omega)
 ·have ok':=ok.more (Gs:=Fs++Gs) fun f hf=>List.mem_append_left _ hf
  have hmem:∀f∈Gs,f∈Fs++Gs:=fun f hf=>List.mem_append_right _ hf
  have i1:(⟨.slice x.A1 r.ty.inn.l.length x.cap1,r.ty.inn.l.length,r.ty.inn.l.map (Value.int .i64)⟩:Fct)∈Gs:=by rw[hGs];exact List.mem_append_left _ (List.mem_append_left _ (List.mem_append_left _ (List.mem_cons_self ..)))
  have i2:(⟨.slice x.A2 (r.s.rowSum r.ty.inn.l).length x.cap2,(r.s.rowSum r.ty.inn.l).length,(r.s.rowSum r.ty.inn.l).map Ak⟩:Fct)∈Gs:=by rw[hGs];exact List.mem_append_left _ (List.mem_append_left _ (List.mem_append_left _ (List.mem_cons_of_mem _ (List.mem_cons_self ..))))
  have i3:(⟨m0,2,[vU64 (UInt64.ofInt r.place),vU64 (UInt64.ofInt r.gen)]⟩:Fct)∈Gs:=by rw[hGs];exact List.mem_append_left _ (List.mem_append_right _ (List.mem_singleton.2 rfl))
  have i4:(⟨.slice A3 (r.s.peers r.waits.l).length cap3,(r.s.peers r.waits.l).length,pvs (r.s.peers r.waits.l)⟩:Fct)∈Gs:=by rw[hGs];exact List.mem_append_right _ (List.mem_singleton.2 rfl)
  have hM:MOk (Fs++Gs) m:=by
   rw[hm]
   rw[hm0] at i3
   exact⟨rfl,.inr (hmem _ i1),.inr (hmem _ i3),.inr (hmem _ i4),.inr (hmem _ i2),⟨rfl,ok.ty.few2,by show 2≤1000;omega,hpl,f2⟩⟩
  exact⟨ok'.above,ok'.group,ok'.waits,ok'.joined,ok'.ty,ok'.boxes,ok'.rows,hM,ok.few1,ok.few2,ok.few3,ok.few4,ok.few5,ok.few6,ok.dim,ok.need,ok.term⟩
 ·exact q2.more fun f hf=>by rw[hGs];exact List.mem_append_left _ (List.mem_append_left _ (List.mem_append_right _ hf))
end
end Go.Proofs.YtedaafmfjhjfmaaGreatDoor
/- The plain law of layer 28: what the boxes hold while they are waited for. No program in sight. -/
namespace Go.Proofs.YtedaafmfjhjfmaaGreatDoor
set_option linter.unusedVariables false
structure LfBx (s:LfS):Prop where
 box:s.phase=1→s.waits=s.joined∧∀f∈s.tally.inn,∃x,Aq s.boxes f=some x∧x.length=2*s.joined.length
theorem Acn {l:List Int} (h:Br (-1) l=true):l.length≤64:=by
 have hn:=Rp (Km.1 h).2
 have:=Vz hn (m:=(List.range 64).map Int.ofNat) fun x hx=>by
  have hx:=Vy h x hx
  exact List.mem_map.2 ⟨x.toNat,List.mem_range.2 (by omega),by show ((x.toNat:Nat):Int)=x;omega⟩
 rw[List.length_map,List.length_range] at this
 exact this
theorem Aco {s:LfS} (h:LfBx s):LfBx s.on.1:=by
 unfold LfS.on
 by_cases hp:2 < s.phase
 ·rw[if_pos hp];exact h
 rw[if_neg hp]
 by_cases h1:s.tally.st=1
 ·rw[if_pos h1]
  by_cases p0:s.phase=0
  ·rw[if_pos p0]
   exact⟨fun _=>⟨rfl,fun f hf=>by cases hf⟩⟩
  rw[if_neg p0]
  by_cases p1:s.phase=1
  ·rw[if_pos p1];exact⟨fun q=>by cases q⟩
  ·rw[if_neg p1];exact⟨fun q=>by cases q⟩
 rw[if_neg h1]
 by_cases h2:s.tally.st=2
 ·rw[if_pos h2];exact⟨fun q=>by cases q⟩
 ·rw[if_neg h2];exact h
theorem Sb {s:LfS} {R:List (Int×List UInt32)} {told:Option MgS} (h:LfInv s R told) (hb:LfBx s) {m:MgS} (hk:m.k=1∨m.k=3∨m.k=5) (he:s.cameE m=0):LfBx (s.cameS m):=by
 obtain⟨hp,_,hph,_,_⟩:=Np h hk he
 obtain⟨h1,h2,h3⟩:=Abl he
 obtain⟨c1,c2,c3⟩:=Abk h3
 rw[Q4,decide_eq_true_eq] at c2
 rw[Q4,decide_eq_false_iff_not] at c3
 have hn:m.cl∉s.tally.inn:=fun e=>c3 ⟨c2.1,c2.2.1,e⟩
 obtain⟨i1,i2,i3⟩:=Abi h.inset c2.1 c2.2.1 hn
 refine⟨fun q=>?_⟩
 rw[hph] at q
 have k3:m.k=3:=by
  rw[q] at h1
  unfold F0 at h1
  by_cases k3:m.k=3
  ·exact k3
  ·rw[if_neg k3] at h1
   split at h1<;>cases h1
 obtain⟨e1,e2⟩:=hb.box q
 have ec:s.cameS m={s with tally:=s.tally.came m.cl,boxes:=Bk s.boxes m.cl m.ns}:=by unfold LfS.cameS;rw[if_pos k3]
 rw[ec]
 refine⟨e1,fun f hf=>?_⟩
 have hfit:m.ns.length=2*s.joined.length:=by
  unfold LfS.fits at h2
  rw[if_pos k3] at h2
  exact of_decide_eq_true h2
 show ∃x,Aq (Bk s.boxes m.cl m.ns) f=some x∧x.length=2*s.joined.length
 rw[Ro]
 by_cases e:f=m.cl
 ·rw[if_pos e];exact⟨m.ns,rfl,hfit⟩
 ·rw[if_neg e]
  rcases (i2 f).1 hf with h4|h4
  ·exact e2 f h4
  ·exact absurd h4 e
theorem A4y {s:LfS} (h:LfBx s):LfBx s.tick.1:=by
 unfold LfS.tick
 by_cases hp:2 < s.phase
 ·rw[if_pos hp];exact h
 rw[if_neg hp]
 refine Aco ⟨fun q=>?_⟩
 have:=h.box q
 refine⟨this.1,fun f hf=>this.2 f ?_⟩
 have hf:f∈s.tally.tick.inn:=hf
 unfold Tal.tick at hf
 split at hf<;>exact hf
theorem N3 {s:LfS} {R:List (Int×List UInt32)} {told:Option MgS} (h:LfInv s R told) (hb:LfBx s) (m:MgS):LfBx (s.hear m).1:=by
 unfold LfS.hear
 by_cases h0:Cd m=false
 ·rw[if_pos h0];exact hb
 rw[if_neg h0]
 by_cases hk:m.k=1∨m.k=3∨m.k=5
 ·rw[if_pos hk]
  by_cases he:s.cameE m≠0
  ·rw[if_pos he];exact hb
  ·rw[if_neg he]
   exact Aco (Sb h hb hk (Decidable.not_not.1 he))
 rw[if_neg hk]
 have par:∀p,LfBx ({s with parent:=p}:LfS):=fun p=>⟨fun q=>hb.box q⟩
 repeat (first|exact hb|exact par _|split)
theorem A4z {c:CfS} {g:GrS} (place gen parent:Int) (above:List Int):LfBx (LfS.new c g place gen parent above):=⟨fun q=>by cases q⟩
end Go.Proofs.YtedaafmfjhjfmaaGreatDoor
/- Layer 28 walked: on. -/
namespace Go.Proofs.YtedaafmfjhjfmaaGreatDoor
open Go.RowKit
set_option linter.unusedSimpArgs false
set_option linter.unusedVariables false
attribute [local irreducible] Ah Ai Am Bc A7 Ay Ap A6
attribute [local irreducible] A8 okV Bj erV Tal.can Tal.st Bz
section
variable {r:LfR} {g:Nat} {w:World} {B:Nat→Prop} {γ:List Nm} {Fs:List Fct}
structure OnOk (r:LfR) (Fs:List Fct):Prop where
 ok:LfOk Fs r
 inv:LfInv r.s [] none∨∃R,LfInv r.s R none
 bx:LfBx r.s
 live:r.phase < 2→r.live=true
 term:1≤r.term∧r.term≤1000
theorem Sd {x:LfR×SlV SnR×List Fct} {hp:List Res} {sv:Sv} {s:LfS} {out:List SnS} (h:Bi Fs s out x) (he:Ff (.x (.a (.v x.2.1.val))) (lfB g x.1++[.abs (Aa x.2.2)]) sv hp):
  ∃i:LfR×SlV SnR×List Fct,Bi Fs s out i∧Ff (.x (.a (.v i.2.1.val))) (lfB g i.1++[.abs (Aa i.2.2)]) sv hp:=⟨x,h,he⟩
theorem Se (x:LfR) (v:Value) (G:List Fct) (M:List Res):Ff (.x (.a (.v v))) (lfB g x++[.abs (Aa G)]) (.x (.a (.v v))) (lfB g x++(.abs (Aa G)::M)):=by
 refine A9 [0,1,2,3,4,5] ?_
 unfold lfB lfA
 simp (maxSteps:=10^6) only[↓Ag,↓Az,↓List.forall_mem_cons,↓List.forall_mem_append,↓Ad,↓Af,↓Ax,Au,push_cast,↓reduceIte,reduceCtorEq,Nat.reduceEqDiff,Nat.reduceLT,Nat.reduceAdd]
set_option maxRecDepth 100000 in
theorem A40 (hS:Sat w B γ (lfB g r) w) (hw:Known w B Fs) (ok:LfOk Fs r) {R:List (Int×List UInt32)} (hI:LfInv r.s R none) (hB:LfBx r.s) (hlv:r.phase < 2→r.live=true) (h3:1≤r.term∧r.term≤1000) (hp:r.phase≤2) (h1:r.ty.t.st=1):
  Calls Tryz.prog 57 (List.map (Sv.val (γ++[.m (.bool true) (fun _=>False)])) [.x (.a (.p 0 0))]).toArray w fun e w'=>∃(x:LfR×SlV SnR×List Fct) (γ1:List Nm),Bi Fs r.s.on.1 r.s.on.2 x∧e=.returned ((Sv.x (.a (.v x.2.1.val))).val γ1)∧Sat w B γ1 (lfB g x.1++[.abs (Aa x.2.2)]) w':=by
 have gl:=Aw ok.sum.s
 have hn:r.need≤r.ty.inn.l.length:=hI.enough hp h1
 have hn1:1≤r.need:=hI.need
 have hin:=hI.inset
 have np:¬2 < r.phase:=by omega
 have e0:r.s.on=if r.phase=0 then r.s.roster else if r.phase=1 then r.s.box else r.s.tell:=by
  unfold LfS.on
  rw[if_neg (by show ¬2 < r.phase;omega),if_pos (show r.s.tally.st=1 from h1)]
  rfl
 refine Ci (n:=52) (ι:=LfR×SlV SnR×List Fct) (Bi Fs r.s.on.1 r.s.on.2) (fun x=>.x (.a (.v x.2.1.val))) (fun x=>lfB g x.1++[.abs (Aa x.2.2)]) Tryz.func57 rfl Tryz.ntmps57 [.x (.a (.p 0 0))] (hS.fct0 (Ar g r)) (by show 1≤52;omega) ?_
 unfold lfB lfA
 simp (maxSteps:=10^6) only[gl,np,undef,push_cast,↓reduceIte,reduceCtorEq,Nat.reduceLT,Nat.reduceAdd]
 (repeat (refine And.intro (by first|omega|decide) ?_))
 refine Al rfl M4 rfl (Ru (k:=1) rfl ok.ty) (Ae rfl) ?_
 rw[h1]
 by_cases p0:r.phase=0
 ·rw[if_pos p0] at e0
  rw[e0]
  have q0:(r.phase=0)=True:=eq_true p0
  simp (maxSteps:=10^6) only[gl,q0,undef,push_cast,↓reduceIte,reduceCtorEq,Nat.reduceLT,Nat.reduceAdd]
  (repeat (refine And.intro (by first|omega|decide) ?_))
  refine Gx [22] ?_
  simp (maxSteps:=10^6) only[push_cast,↓reduceIte]
  refine Dq (ι:=LfR×SlV SnR×List Fct) (A:=lfB g r) (M:=[.abs (Aa [])]) (g:=g) (t:=104) (c:=.c (lfA r)) (l:=[]) 0 (Bi Fs r.s.roster.1 r.s.roster.2) (fun x=>.x (.a (.v x.2.1.val))) (fun x=>lfB g x.1) (fun x=>x.2.2) rfl rfl rfl (fun x _=>⟨_,rfl⟩) (fun x _=>rfl) rfl Axu rfl (fun γ' w' hS' hg=>?_) (fun _ _=>rfl) (Ae rfl) (Ar g r) (fun x _=>Ar g x.1) (by simp (maxSteps:=10^6) only[↓Ag,↓List.forall_mem_cons,↓Ad,↓Af,push_cast,Nat.reduceLT,Nat.reduceAdd]) (by
   show ∀x∈_,Sv.av 5 _
   simp (maxSteps:=10^6) only[push_cast,Nat.reduceLeDiff]) (by
   show ∀x∈_,Res.av 5 _
   simp (maxSteps:=10^6) only[push_cast]) ?_
  ·have:=A4v (hS'.frontA (Ar g r)) (Dr (A:=lfB g r) hS' hw) ok p0 (hlv (by omega)) hin ⟨hn1,hn⟩ h3
   show Calls _ _ #[.pointer (some ⟨nmB γ' 0,0,none⟩)] w' _
   rw[hg]
   exact this
  rintro⟨r2,out,G⟩ q
  unfold lfB lfA
  simp (maxSteps:=10^6) only[push_cast,↓reduceIte,Nat.reduceLT,Nat.reduceAdd]
  exact Sd (x:=(r2,out,G)) q (Se r2 out.val G [])
 rw[if_neg p0] at e0
 have q0:(r.phase=0)=False:=eq_false p0
 by_cases p1:r.phase=1
 ·rw[if_pos p1] at e0
  rw[e0]
  have q1:(r.phase=1)=True:=eq_true p1
  obtain⟨b1,b2⟩:=hB.box p1
  have b1:r.waits.l=r.joined.l:=b1
  have hj64:r.joined.l.length≤64:=by rw[←b1];exact Acn hI.wset
  have hi64:r.ty.inn.l.length≤64:=Acn hin
  have hsub:∀x∈r.ty.inn.l,x∈r.joined.l:=fun x hx=>by rw[←b1];exact hI.sub x hx
  have hbx:∀f∈r.ty.inn.l,∃x,Aq r.boxes f=some x∧x.l.length=2*r.joined.l.length:=fun f hf=>by
   obtain⟨x,hx,hxl⟩:=b2 f hf
   have hx:Aq (Bn SlV.l r.boxes) f=some x:=hx
   rw[H0] at hx
   cases hq:Aq r.boxes f with
   |none=>rw[hq] at hx;cases hx
   |some y=>rw[hq] at hx;cases hx;exact⟨y,rfl,hxl⟩
  simp (maxSteps:=10^6) only[gl,q0,q1,undef,push_cast,↓reduceIte,reduceCtorEq,Nat.reduceEqDiff,Nat.reduceLT,Nat.reduceAdd]
  (repeat (refine And.intro (by first|omega|decide) ?_))
  refine Gx [26] ?_
  simp (maxSteps:=10^6) only[push_cast,↓reduceIte]
  refine Dq (ι:=LfR×SlV SnR×List Fct) (A:=lfB g r) (M:=[.abs (Aa [])]) (g:=g) (t:=104) (c:=.c (lfA r)) (l:=[]) 0 (Bi Fs r.s.box.1 r.s.box.2) (fun x=>.x (.a (.v x.2.1.val))) (fun x=>lfB g x.1) (fun x=>x.2.2) rfl rfl rfl (fun x _=>⟨_,rfl⟩) (fun x _=>rfl) rfl Axv rfl (fun γ' w' hS' hg=>?_) (fun _ _=>rfl) (Ae rfl) (Ar g r) (fun x _=>Ar g x.1) (by simp (maxSteps:=10^6) only[↓Ag,↓List.forall_mem_cons,↓Ad,↓Af,push_cast,Nat.reduceLT,Nat.reduceAdd]) (by
   show ∀x∈_,Sv.av 5 _
   simp (maxSteps:=10^6) only[push_cast,Nat.reduceLeDiff]) (by
   show ∀x∈_,Res.av 5 _
   simp (maxSteps:=10^6) only[push_cast]) ?_
  ·have:=A4w (hS'.frontA (Ar g r)) (Dr (A:=lfB g r) hS' hw) ok p1 (hlv (by omega)) hin ⟨hn1,hn⟩ h3 (by omega) (by omega) hsub hbx
   show Calls _ _ #[.pointer (some ⟨nmB γ' 0,0,none⟩)] w' _
   rw[hg]
   exact this
  rintro⟨r2,out,G⟩ q
  unfold lfB lfA
  simp (maxSteps:=10^6) only[push_cast,↓reduceIte,Nat.reduceLT,Nat.reduceAdd]
  exact Sd (x:=(r2,out,G)) q (Se r2 out.val G [])
 rw[if_neg p1] at e0
 rw[e0]
 have q1:(r.phase=1)=False:=eq_false p1
 have p2:r.phase=2:=by
  rcases hI.ph with q|q|q|q|q
  ·exact absurd q p0
  ·exact absurd q p1
  ·exact q
  ·have q:r.phase=3:=q
   omega
  ·have q:r.phase=4:=q
   omega
 obtain⟨n,hn'⟩:∃n:Nat,r.dim=n:=⟨r.dim.toNat,by have:=ok.dim;omega⟩
 have hrow:∀f∈r.ty.inn.l,∃x,Aq r.rows f=some x∧x.l.length=n:=fun f hf=>by
  obtain⟨e1,e2,e3,e4⟩:=hI.rows (.inl p2)
  obtain⟨x,hx⟩:=(e3 f).1 hf
  have hl:=e4 f x hx
  rw[e1] at hx
  have hx:Aq (Bn SlV.l r.rows) f=some x:=hx
  rw[H0] at hx
  cases hq:Aq r.rows f with
  |none=>rw[hq] at hx;cases hx
  |some y=>
   rw[hq] at hx
   cases hx
   have hl:(y.l.length:Int)=r.dim:=hl
   exact⟨y,rfl,by omega⟩
 simp (maxSteps:=10^6) only[gl,q0,q1,undef,push_cast,↓reduceIte,reduceCtorEq,Nat.reduceEqDiff,Nat.reduceLT,Nat.reduceAdd]
 (repeat (refine And.intro (by first|omega|decide) ?_))
 refine Gx [28] ?_
 simp (maxSteps:=10^6) only[push_cast,↓reduceIte]
 refine Dq (ι:=LfR×SlV SnR×List Fct) (A:=lfB g r) (M:=[.abs (Aa [])]) (g:=g) (t:=104) (c:=.c (lfA r)) (l:=[]) 0 (Bi Fs r.s.tell.1 r.s.tell.2) (fun x=>.x (.a (.v x.2.1.val))) (fun x=>lfB g x.1) (fun x=>x.2.2) rfl rfl rfl (fun x _=>⟨_,rfl⟩) (fun x _=>rfl) rfl Axw rfl (fun γ' w' hS' hg=>?_) (fun _ _=>rfl) (Ae rfl) (Ar g r) (fun x _=>Ar g x.1) (by simp (maxSteps:=10^6) only[↓Ag,↓List.forall_mem_cons,↓Ad,↓Af,push_cast,Nat.reduceLT,Nat.reduceAdd]) (by
  show ∀x∈_,Sv.av 5 _
  simp (maxSteps:=10^6) only[push_cast,Nat.reduceLeDiff]) (by
  show ∀x∈_,Res.av 5 _
  simp (maxSteps:=10^6) only[push_cast]) ?_
 ·have:=A4x (hS'.frontA (Ar g r)) (Dr (A:=lfB g r) hS' hw) ok p2 hn' hrow
  show Calls _ _ #[.pointer (some ⟨nmB γ' 0,0,none⟩)] w' _
  rw[hg]
  exact this
 rintro⟨r2,out,G⟩ q
 unfold lfB lfA
 simp (maxSteps:=10^6) only[push_cast,↓reduceIte,Nat.reduceLT,Nat.reduceAdd]
 exact Sd (x:=(r2,out,G)) q (Se r2 out.val G [])
end
end Go.Proofs.YtedaafmfjhjfmaaGreatDoor
