import Derived.Test.YtiaeollemmkclaaDoorBase
import Derived.RangeFuncNested
import Derived.RangeFuncBound
import Derived.RangeFuncCalls
import Derived.RangeFuncLeaves
import Derived.OwnWalkIn
import Derived.TacticsInMore
import Derived.LoopNIn
import Derived.LoopIn
import Derived.Shelf.Abstract
/- A range over a function whose rounds all go on: one law for the caller, one contract for an iterator that may keep blocks of its own. At the wide fence: callees by plain contracts. -/
namespace Go.Proofs.YtiaeollemmkclaaDoor
open Go.RowKit
section
variable {F:Fence} {n:Nat} {P:Program} {w w2:World} {ops:Array Oper} {rest:List Oper} {o:Oper} {a:Act} {Q:Exit→Act→World→Prop} {v:Value}
end
def Acx {α:Type} (n:Nat) (P:Program) (gf:Nat) (lb:Array Value) (encs:α→Array Value) (xs:List α) (w0:World) (needs:Nat→Prop):Prop:=
 ∀(l:Nat) (own:Nat→Prop) (J:Nat→World→Prop) (W:World),Below w0.heap.size w0 W→(∀k,own k→k < W.heap.size∧¬needs k)→
  (∀i A B,J i A→W.heap.size≤A.heap.size→Below W.heap.size A B→J i B)→
  (∀(i:Nat) (x:α) (W1:World),xs[i]?=some x→J i W1→W.heap.size≤W1.heap.size→
   YieldAt Fence.wide (n - 1) P l (encs x) W1 fun e W'=>e=.returned (.bool true)∧J (i+1) W'∧Keeps own W1 W')→
  J 0 W→CallsIn Fence.wide n P gf (#[.func (.yield l) #[] #[]]++lb) W fun e W'=>(∃v,e=.returned v)∧J xs.length W'
def A5b (own:Nat→Prop) (I:Nat→World→Prop) (i:Nat) (W:World):Exit→Act→World→Prop
 | .normal,_,W'=>Keeps own W W'∧I (i+1) W'
 |_,_,_=>False
theorem A5c {P:Program} {n:Nat} {α:Type} {g:Operand} {ps:Array Tmp} {assign body:Code} {Q:Exit→Act→World→Prop} {a:Act} {w:World}
  {gf:Nat} {lb:Array Value} (hg:a.eval g=.func (.func gf) #[] lb) (eg:∀args w,(callFunc gf args).run P w=.ok (.enter gf args) w)
  {encs:α→Array Value} {xs:List α} {w0:World} {needs:Nat→Prop} (hseq:Acx (n - 1) P gf lb encs xs w0 needs) (hb0:Below w0.heap.size w0 w) (hneeds:∀k,needs k→k < w.heap.size)
  (hps:∀x,(encs x).size=ps.size) (own:Nat→Prop) (hown:∀k,own k→k < w.heap.size∧¬needs k)
  (I:Nat→World→Prop) (hI:∀i A B,I i A→w.heap.size≤A.heap.size→Below w.heap.size A B→I i B) (h0:I 0 w) (Ax:α→Act→World→Prop)
  (hAx:∀x a₁ A B,Ax x a₁ A→Keeps (·=w.heap.size+1) A B→Ax x a₁ B)
  (hassign:∀(l i:Nat) (x:α) (W:World) (K:Act→World→Prop),xs[i]?=some x→I i W→w.heap.size+1+1≤W.heap.size→(∀a₁ W1,Ax x a₁ W1→Keeps own W W1→I i W1→K a₁ W1)→
   assign.wpIn (Fence.wide.inRound l) (n - 1 - 1) P (Exit.then K (fun _ _ _=>False)) {tmps:=(ps.zip (encs x)).foldl (fun t (p,v)=>t.setIfInBounds p v) a.tmps,defers:=[]} W)
  (hbody:∀(l i:Nat) (x:α) (a₁:Act) (W:World),xs[i]?=some x→I i W→Ax x a₁ W→w.heap.size+1+1≤W.heap.size→body.wpIn (Fence.wide.inRound l) (n - 1 - 1) P (A5b own I i W) a₁ W)
  (hdone:∀(D:Nat) (W:World),w.heap.size≤D→I xs.length W→W.heap[D]?=some (.deferred (some []))→Q .normal {a with defers:={target:=.collected D,args:=#[]}::a.defers} W):
  (Code.rangeFunc g ps assign body).wpIn Fence.wide n P Q a w:=by
 refine wpIn_rangeFunc ?_
 intro fn hfn
 obtain⟨rec,hrec⟩:∃rec:LoopState→Option Code→Loop,rec=fun st pe=>{state:=st,pending:=pe,fn,tmps:=a.tmps,params:=ps,assign,body,defers:=w.heap.size}:=⟨_,rfl⟩
 obtain⟨W1,hW1⟩:∃W1,(w.alloc (.deferred (some []))).alloc (.loop (rec .ready none))=W1:=⟨_,rfl⟩
 have hL1:W1.heap[w.heap.size+1]?=some (.loop (rec .ready none)):=by
  rw[←hW1];have:=World.alloc_heap_new (w.alloc (.deferred (some []))) (.loop (rec .ready none));rwa [World.size_alloc] at this
 have hK1:W1.heap[w.heap.size]?=some (.deferred (some [])):=by
  rw[←hW1];exact (Below.heap_alloc _ _ _ (by simp)).trans (World.alloc_heap_new w _)
 have hB1:Below w.heap.size w W1:=by rw[←hW1];exact ((Below.refl _ w).alloc (Nat.le_refl _) _).alloc (by simp) _
 have hs1:W1.heap.size=w.heap.size+1+1:=by rw[←hW1];simp
 have hI1:I 0 W1:=hI 0 w W1 h0 (Nat.le_refl _) hB1
 have hb1:Below w0.heap.size w0 W1:=hb0.trans (hB1.mono hb0.size)
 refine⟨w.heap.size+1,[{target:=.collected w.heap.size,args:=#[]}],W1,{target:=.fn (.func gf) lb,args:=#[.func (.yield (w.heap.size+1)) #[] #[]]},W1,gf,
  #[.func (.yield (w.heap.size+1)) #[] #[]]++lb,W1,?_,?_,?_,?_,fun h=>by simp [Fence.wide] at h,?_⟩
 ·rw[←hW1,hrec];exact run_enterLoop_outer _ _ _ _ _
 ·simp only[resolve,hg]
  simp [go_sem]
 ·intro f' _;trivial
 ·simp [invoke,go_sem,eg]
 ·refine (hseq (w.heap.size+1) (fun k=>own k∨k=w.heap.size+1)
   (fun i W=>I i W∧W.heap[w.heap.size+1]?=some (.loop (rec .ready none))∧W.heap[w.heap.size]?=some (.deferred (some [])))
   W1 hb1 ?_ ?_ ?_ ⟨hI1,hL1,hK1⟩).mono ?_
  ·rintro k (hk|rfl)
   ·exact⟨by have:=(hown k hk).1;omega,(hown k hk).2⟩
   ·exact⟨by omega,fun h=>by have:=hneeds _ h;omega⟩
  ·rintro i A B ⟨hi,hl,hk⟩ hA hB
   exact⟨hI i A B hi (by omega) (hB.mono (by omega)),(hB.block _ (by omega)).trans hl,(hB.block _ (by omega)).trans hk⟩
  ·rintro i x W hx ⟨hi,hl,hk⟩ hA
   have hlt:w.heap.size+1 < W.heap.size:=(Array.getElem?_eq_some_iff.1 hl).1
   have hy:=run_yield (P:=P) (args:=encs x) hl (by rw[hrec];exact hps x)
   rw[hrec] at hy
   refine⟨fn,_,assign,body,hy,roundIn_of_wpIn hfn (hassign _ i x W _ hx hi (by omega) ?_)⟩
   intro a₁ V hax hkV hiV
   have hlV:V.heap[w.heap.size+1]?=some (.loop (rec .ready none)):=(hkV.block _ hlt (fun e=>by have:=(hown _ e).1;omega)).trans hl
   have hdV:V.heap[w.heap.size]?=some (.deferred (some [])):=(hkV.block _ (by omega) (fun e=>by have:=(hown _ e).1;omega)).trans hk
   have hltV:w.heap.size+1 < V.heap.size:=by have:=hkV.size;omega
   refine⟨_,run_beginRound hlV (by rw[hrec]),?_⟩
   obtain⟨W2,hW2⟩:∃W2,V.putObj (w.heap.size+1) (.loop {rec .ready none with state:=.busy})=W2:=⟨_,rfl⟩
   have hl2:W2.heap[w.heap.size+1]?=some (.loop {rec .ready none with state:=.busy}):=by rw[←hW2];exact World.putObj_heap_same hltV
   have hk2:W2.heap[w.heap.size]?=some (.deferred (some [])):=by rw[←hW2];exact (World.putObj_heap_other (by omega)).trans hdV
   have hq2:Keeps (·=w.heap.size+1) V W2:=by rw[←hW2];exact Keeps.putObj V _ _ rfl
   have hp2:Keeps (fun k=>own k∨k=w.heap.size+1) W W2:=(hkV.mono (fun k h=>Or.inl h)).trans (hq2.mono (fun k h=>Or.inr h))
   have hi2:I i W2:=hI i V W2 hiV (by omega) (hq2.below (by omega) (fun k e=>by omega))
   rw[hW2]
   refine wpIn_mono (hbody _ i x a₁ W2 hx hi2 (hAx x a₁ V W2 hax hq2) (by have:=hp2.size;omega)) ?_
   rintro e a3 W3 hp
   cases e with
   |normal=>
    obtain⟨hk3,hi3⟩:=hp
    have hlt2:w.heap.size+1 < W2.heap.size:=by have:=hp2.size;omega
    have hl3:W3.heap[w.heap.size+1]?=some (.loop {rec .ready none with state:=.busy}):=(hk3.block _ hlt2 (fun e=>by have:=(hown _ e).1;omega)).trans hl2
    have hd3:W3.heap[w.heap.size]?=some (.deferred (some [])):=(hk3.block _ (by omega) (fun e=>by have:=(hown _ e).1;omega)).trans hk2
    have hr:=run_endRound (P:=P) none hl3
    rw[hrec] at hr
    refine⟨_,_,hr,rfl,⟨hI _ W3 _ hi3 (by have:=hk3.size;omega) ((Keeps.putObj (own:=fun k=>k=w.heap.size+1) W3 _ _ rfl).below (by have:=hk3.size;omega) (fun k e=>by omega)),?_,(World.putObj_heap_other (by omega)).trans hd3⟩,?_⟩
    ·rw[hrec];exact World.putObj_heap_same (by have:=hk3.size;omega)
    ·exact (hp2.trans (hk3.mono (fun k h=>Or.inl h))).trans (Keeps.putObj W3 _ _ (Or.inr rfl))
   |_=>exact hp.elim
  ·rintro e W2 ⟨⟨v,rfl⟩,hi,hl,hk⟩
   have hr:=run_endLoop (P:=P) hl (by rw[hrec];simp)
   rw[hrec] at hr
   have hlt:w.heap.size+1 < W2.heap.size:=(Array.getElem?_eq_some_iff.1 hl).1
   exact⟨none,_,hr,hdone _ _ (Nat.le_refl _) (hI _ W2 _ hi (by omega) ((Keeps.putObj (own:=fun k=>k=w.heap.size+1) W2 _ _ rfl).below (by omega) (fun k e=>by omega))) ((World.putObj_heap_other (by omega)).trans hk)⟩
end Go.Proofs.YtiaeollemmkclaaDoor
/- A region that draws its order, at the wide fence (within a round, or an iterator): a head of operations that read, in whatever order, and a tail in one forced order. No program in sight. -/
namespace Go.Proofs.YtiaeollemmkclaaDoor
open Go.RowKit
set_option linter.unusedSimpArgs false
section
variable {P:Program} {ops:Array Oper} {md:Region.Mode} {m:Nat}
def YI (P:Program) (ops:Array Oper) (o:Oper) (v:Value) (a:Act) (w:World):Prop:=
 (Region.wanted o (yielded ops a.tmps)=true∧Gj P o a w v)∨(Region.wanted o (yielded ops a.tmps)=false∧v=undef)
theorem YI.same {o:Oper} {v:Value} {a a':Act} {w:World} (hy:YI P ops o v a w) (he:execOp a'.eval o=execOp a.eval o) (hw:Region.wanted o (yielded ops a'.tmps)=Region.wanted o (yielded ops a.tmps)):YI P ops o v a' w:=by
 unfold YI Gj at*
 rw[he,hw]
 exact hy
theorem YI.wpOp {i:Nat} {o:Oper} {v:Value} {a:Act} {w:World} {K:Act→World→Prop} {Q:Exit→Act→World→Prop} (hi:ops[i]?=some o) (hy:YI P ops o v a w) (h:K (a.put o.dst v) w):wpOpIn Fence.wide m P ops Q i K a w:=by
 unfold wpOpIn
 simp only[hi]
 rcases hy with ⟨hw,hv⟩|⟨hw,rfl⟩
 ·simp only[hw,if_true]
  refine⟨fun f _=>trivial,?_⟩
  have e:Oper.semAt Fence.wide.round a.eval o=execOp a.eval o:=rfl
  rw[e]
  unfold Gj at hv
  generalize (execOp a.eval o).run P w=r at*
  cases r with
  |ok n w'=>
   cases n<;>simp only[Oper.quietUpon] at hv<;>simp only[Oper.uponIn]
   case value u=>obtain⟨rfl,rfl⟩:=hv;exact h
   case skip=>obtain⟨rfl,rfl⟩:=hv;exact h
   case enter f args=>
    obtain⟨e1,hc⟩:=hv
    rw[e1]
    exact⟨fun h=>by simp [Fence.wide] at h,(callsIn_wide.2 hc).mono fun e w'' ⟨he,hw''⟩=>by subst he;subst hw'';exact h⟩
  |halt x w'=>simp only[Oper.quietUpon] at hv
 ·simp only[hw,Bool.false_eq_true,if_false]
  exact⟨fun f _=>trivial,h⟩
def Pn (P:Program) (md:Region.Mode) (ops:Array Oper) (n:Nat) (w:World) (L:Array Bool→Act→Prop):Nat→Array Bool→Act→Prop
 |0,listed,a=>L listed a
 |f+1,listed,a=>Region.ready md ops listed≠[]∧∀i∈Region.ready md ops listed,i < n∧∃o v,ops[i]?=some o∧YI P ops o v a w∧Pn P md ops n w L f (listed.setIfInBounds i true) (a.put o.dst v)
theorem Acy {n g:Nat} {w:World} {L:Array Bool→Act→Prop} {Q:Exit→Act→World→Prop} (hL:∀listed a,L listed a→wpAnyIn Fence.wide m P md ops Q g listed a w):∀(f:Nat) (listed:Array Bool) (a:Act),
  Pn P md ops n w L f listed a→wpAnyIn Fence.wide m P md ops Q (f+g) listed a w
 |0,_,_,h=>by rw[Nat.zero_add];exact hL _ _ h
 |f+1,listed,a,h=>by
  rw[show f+1+g=(f+g)+1 by omega]
  refine⟨fun h0=>absurd h0 h.1,fun i hi=>?_⟩
  obtain⟨_,o,v,ho,hy,hk⟩:=h.2 i hi
  exact hy.wpOp ho (Acy hL f _ _ hk)
theorem A5d {n i:Nat} {oi:Oper} {v:Value} {w:World} {L:Array Bool→Act→Prop} (hi:ops[i]?=some oi) (hsel:∀(j:Nat) (o:Oper) cs b,ops[j]?=some o→o.op≠ .select cs b)
  (hs:Region.sinkB md ops n=true) (hc:Region.chainB md ops n=true) (hn:n < ops.size) (hin:i < n) (hdone:∀listed a,L listed a→∀j∈Region.ready md ops listed,n≤j):
  ∀(f:Nat) (listed:Array Bool) (a:Act),HeadInv md ops n listed→
   (∀j oj,ops[j]?=some oj→j≠i→listed.getD j true=false→(∀e∈oj.after,Region.binds md e=true→e.on≠i)→oi.apart ops oj=true)→
   i∈Region.ready md ops listed→YI P ops oi v a w→
   Pn P md ops n w L f (listed.setIfInBounds i true) (a.put oi.dst v)→Pn P md ops n w L (f+1) listed a:=by
 intro f
 induction f with
 |zero=>
  intro listed a inv _ hr hy H
  have hun:=(mem_ready.1 hr).1
  refine⟨fun h=>(by rw[h] at hr;cases hr),fun j hj=>?_⟩
  have hjn:j < n:=by
   rcases Nat.lt_or_ge j n with h|h
   ·exact h
   ·exact absurd hj (tail_waits hs hc hn inv _ i rfl hin hun j h)
  refine⟨hjn,?_⟩
  by_cases hji:j=i
  ·subst hji;exact⟨oi,v,hi,hy,H⟩
  ·have:=hdone _ _ H j (ready_mono hj hji)
   omega
 |succ f ih=>
  intro listed a inv hfree hr hy H
  have hun:=(mem_ready.1 hr).1
  refine⟨fun h=>(by rw[h] at hr;cases hr),fun j hj=>?_⟩
  have hjn:j < n:=by
   rcases Nat.lt_or_ge j n with h|h
   ·exact h
   ·exact absurd hj (tail_waits hs hc hn inv _ i rfl hin hun j h)
  refine⟨hjn,?_⟩
  by_cases hji:j=i
  ·subst hji;exact⟨oi,v,hi,hy,H⟩
  ·obtain⟨_,oj,u,hoj,hyj,hk⟩:=H.2 j (ready_mono hj hji)
   obtain⟨hjun,oj',hoj',hall⟩:=mem_ready.1 hj
   rw[hoj] at hoj'
   cases hoj'
   have hnot:∀e∈oj.after,Region.binds md e=true→e.on≠i:=fun e he hb heq=>by
    have h1:=hall e he hb
    rw[heq,getD_both hun] at h1
    cases h1
   have hap:=hfree j oj hoj hji hjun hnot
   obtain⟨h1,h2,h3⟩:=Oper.apart_spec hap
   have hsi:∀cs b,oi.op≠ .select cs b:=fun cs b=>hsel i oi cs b hi
   have hsj:∀cs b,oj.op≠ .select cs b:=fun cs b=>hsel j oj cs b hoj
   have hyj':YI P ops oj u a w:=hyj.same (execOp_put oj hsj a oi.dst v h1).symm (wanted_put oj a oi.dst v h1).symm
   have hyi':YI P ops oi v (a.put oj.dst u) w:=hy.same (execOp_put oi hsi a oj.dst u h3) (wanted_put oi a oj.dst u h3)
   refine⟨oj,u,hoj,hyj',ih (listed.setIfInBounds j true) _ (inv.set hj hjn) (fun k ok hk hki hun hno=>?_) (ready_mono hr (Ne.symm hji)) hyi' ?_⟩
   ·refine hfree k ok hk hki ?_ hno
    by_cases hjk:j=k
    ·subst hjk;exact hjun
    ·rw[getD_set_ne true hjk] at hun;exact hun
   ·rw[Array.setIfInBounds_comm _ _ hji,←Act.put_comm a v u h2]
    exact hk
def Wo (P:Program) (ops:Array Oper) (w:World) (K:Act→Prop):List (Nat×Bool)→Act→Prop
 |[],a=>K a
 |(i,_)::r,a=>∃o v,ops[i]?=some o∧YI P ops o v a w∧Wo P ops w K r (a.put o.dst v)
theorem Wp {K:Act→World→Prop} {w:World}:∀(p:List (Nat×Bool)) (a:Act),(∀x∈p,x.2=true)→Cf P ops K p (fun x=>x=w) a w→Wo P ops w (fun a'=>K a' w) p a
 |[],a,_,h=>h
 |(i,rd)::r,a,hr,h=>by
  have hrd:rd=true:=hr (i,rd) (List.mem_cons_self ..)
  subst hrd
  simp only[Cf] at h
  split at h
  ·exact h.elim
  ·rename_i o ho
   by_cases hw:Region.wanted o (yielded ops a.tmps)=true
   ·simp only[hw,if_true] at h
    obtain⟨v,h1,h2⟩:=h
    exact⟨o,v,ho,.inl ⟨hw,h1 w rfl⟩,Wp r _ (fun x hx=>hr x (List.mem_cons_of_mem _ hx)) h2⟩
   ·simp only[hw] at h
    exact⟨o,undef,ho,.inr ⟨by simpa using hw,rfl⟩,Wp r _ (fun x hx=>hr x (List.mem_cons_of_mem _ hx)) h⟩
theorem Acz {n g:Nat} {w:World} {K:Act→Prop} (hsel:Region.noSelect ops=true) (hs:Region.sinkB md ops n=true) (hc:Region.chainB md ops n=true) (hn:n < ops.size):
  ∀(l:List (Nat×Bool)) (listed:Array Bool) (a:Act),HeadInv md ops n listed→(∀x∈l,x.2=true)→Ic md ops n g l listed=true→Wo P ops w K l a→
  Pn P md ops n w (fun listed' a'=>Region.seqB md ops g n listed'=true∧K a') l.length listed a
 |[],_,_,_,_,hB,h=>⟨by simpa [Ic] using hB,h⟩
 |(i,rd)::l,listed,a,inv,hr,hB,h=>by
  have hrd:rd=true:=hr (i,rd) (List.mem_cons_self ..)
  subst hrd
  simp only[Ic,Bool.and_eq_true,decide_eq_true_eq] at hB
  obtain⟨⟨⟨hin,hrb⟩,hf⟩,hB'⟩:=hB
  have hr':i∈Region.ready md ops listed:=by simpa using hrb
  obtain⟨o,v,ho,hy,hK⟩:=h
  exact A5d ho (Region.noSelect_spec hsel) hs hc hn hin (fun listed' a' hL=>seqB_ready hL.1) l.length listed a inv (Region.free_spec ho hf) hr' hy
   (Acz hsel hs hc hn l _ _ (inv.set hr' hin) (fun x hx=>hr x (List.mem_cons_of_mem _ hx)) hB' hK)
theorem Ac0 {F:Fence} {Q':Exit→Act→World→Prop}:∀(l:List Oper) (k:Nat) (listed:Array Bool) (a:Act) (w:World),(∀j,l[j]?=ops[k+j]?)→
  Region.seqB md ops l.length k listed=true→wpListIn F m P ops Q' l a w→wpAnyIn F m P md ops Q' l.length listed a w
 |[],_,_,_,_,_,hB,h=>⟨by simpa [Region.seqB] using hB,h⟩
 |o::l,k,listed,a,w,hl,hB,h=>by
  have h0:ops[k]?=some o:=by simpa using (hl 0).symm
  simp only[List.length_cons,Region.seqB,Bool.and_eq_true,decide_eq_true_eq] at hB
  refine⟨fun h0=>(by rw[hB.1] at h0;cases h0),fun j hj=>?_⟩
  rw[hB.1] at hj
  obtain rfl:j=k:=by simpa using hj
  have ih:=fun a w=>Ac0 (F:=F) (Q':=Q') l (j+1) (listed.setIfInBounds j true) a w (fun i=>by have:=hl (i+1);simpa [Nat.add_assoc,Nat.add_comm 1 i] using this) hB.2
  unfold wpOpIn
  simp only[h0]
  unfold wpListIn at h
  split
  ·rename_i hw
   rw[if_pos hw] at h
   exact⟨h.1,by
    have h2:=h.2
    generalize (o.semAt F.round a.eval).run P w=r at*
    cases r with
    |ok x w'=>
     cases x<;>simp only[Oper.uponIn] at h2 ⊢
     case value u=>exact ih _ _ h2
     case skip=>exact ih _ _ h2
     case defer d=>exact ih _ _ h2
     case enter f args=>exact⟨h2.1,h2.2.mono fun e w'' he=>by cases e<;>first|exact ih _ _ he|exact he⟩
     case row row args=>exact⟨h2.1,h2.2.mono fun u w'' he=>ih _ _ he⟩
     case round l f tm asg bo=>exact⟨h2.1,h2.2.mono fun e w'' he=>by cases e<;>first|exact ih _ _ he|exact he⟩
    |halt x w'=>cases x<;>simp only[Oper.uponIn] at h2 ⊢<;>exact h2⟩
  ·rename_i hw
   rw[if_neg hw] at h
   exact⟨h.1,ih _ _ h.2⟩
theorem Wq {Q:Act→World→Prop} {C C':World→Prop} (hC:∀x,C' x→C x) {w:World}:∀(p:List (Nat×Bool)) (a:Act),(∀x∈p,x.2=true)→Cf P ops Q p C a w→Cf P ops Q p C' a w
 |[],_,_,h=>h
 |(i,rd)::r,a,hr,h=>by
  have hrd:rd=true:=hr (i,rd) (List.mem_cons_self ..)
  subst hrd
  simp only[Cf] at h ⊢
  split
  ·rename_i ho;simp only[ho] at h
  ·rename_i o ho
   simp only[ho] at h
   by_cases hw:Region.wanted o (yielded ops a.tmps)=true
   ·simp only[hw,if_true] at h ⊢
    obtain⟨v,h1,h2⟩:=h
    exact⟨v,fun x hx=>h1 x (hC x hx),Wq hC r _ (fun x hx=>hr x (List.mem_cons_of_mem _ hx)) h2⟩
   ·simp only[hw] at h ⊢
    exact Wq hC r _ (fun x hx=>hr x (List.mem_cons_of_mem _ hx)) h
theorem A5e {id:Nat} {Q:Exit→Act→World→Prop} {a:Act} {w:World} {l:List Oper} (n:Nat) (p:List (Nat×Bool)) (hm:P.follows .mixedOrders=true) (hB:N3 .any l.toArray n p=true) (hr:∀x∈p,x.2=true)
  (h:Cf P l.toArray (fun a' _=>wpListIn Fence.wide m P l.toArray Q (l.drop n) a' w.drew) p (fun x=>x=w.drew) a w.drew):(Code.region id l.toArray true).wpIn Fence.wide m P Q a w:=by
 simp only[N3,Bool.and_eq_true,decide_eq_true_eq] at hB
 obtain⟨⟨⟨⟨⟨hsel,hn⟩,hs⟩,hc⟩,hpn⟩,hmix⟩:=hB
 have hn':n < l.length:=by simpa using hn
 have hdl:(l.drop n).length=l.toArray.size - n:=by simp
 have inv0:HeadInv .any l.toArray n (Array.replicate l.toArray.size false):=
  ⟨by simp,fun j oj _ hl=>(by rw[getD_replicate_false] at hl;cases hl),fun t _ ht=>getD_in (by simpa using ht) (getD_replicate_false _ _)⟩
 refine wpIn_region_any hm ?_
 have H:=Acz (md:=.any) (g:=l.toArray.size - n) hsel hs hc hn p _ a inv0 hr hmix (Wp p a hr h)
 have:=Acy (m:=m) (Q:=Q) (g:=l.toArray.size - n) (fun listed a' hL=>by
  have:=Ac0 (F:=Fence.wide) (m:=m) (md:=.any) (Q':=Q) (l.drop n) n listed a' w.drew (fun j=>by simp [List.getElem?_drop]) (by rw[hdl];exact hL.1) hL.2
  rwa [hdl] at this) _ _ _ H
 rw[hpn,show n+(l.toArray.size - n)=l.toArray.size by omega] at this
 exact this
end
end Go.Proofs.YtiaeollemmkclaaDoor
