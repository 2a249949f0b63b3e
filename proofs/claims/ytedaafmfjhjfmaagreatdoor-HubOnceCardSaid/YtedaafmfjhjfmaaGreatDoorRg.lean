import Derived.Test.YtedaafmfjhjfmaaGreatDoorLfG
import Derived.Maps.RangeRun
/- A loop over a map: every entry comes once, in whatever order. No program in sight. -/
namespace Go.Proofs.YtedaafmfjhjfmaaGreatDoor
set_option linter.unusedSimpArgs false
set_option linter.unusedVariables false
open Go.RowKit Go.ChangeMaps
section
variable {w0 w w':World} {ow X:Nat→Prop} {γ:List Nm} {hp:List Res}
theorem Sat.turn (h:Sat w0 ow γ hp w) {k:Nat} {r r':Res} {nm:Nm} (hr:hp[k]?=some r) (hB:nmB (γ.set k nm)=nmB γ) (hV:nmS (γ.set k nm)=nmS γ) (hk:Keeps X w w') (hX:∀b,X b→r.has γ k b) (hr':r'.holds (γ.set k nm) k w')
  (hb':∀b,r'.has (γ.set k nm) k b→(r.has γ k b∨w.heap.size≤b)∧b < w'.heap.size):Sat w0 ow (γ.set k nm) (hp.set k r') w':=by
 have hkl:=Ax hr
 have g1:∀i,i≠k→(γ.set k nm)[i]?=γ[i]?:=fun i hi=>List.getElem?_set_ne fun e=>hi e.symm
 have eM:∀i,i≠k→nmM (γ.set k nm) i=nmM γ i:=fun i hi=>by unfold nmM;rw[g1 i hi]
 have get:∀(i:Nat) (q:Res),(hp.set k r')[i]?=some q→(i=k∧q=r')∨(i≠k∧hp[i]?=some q):=fun i q hq=>by
  by_cases hi:i=k
  ·subst hi
   rw[List.getElem?_set_self hkl] at hq
   exact .inl ⟨rfl,(Option.some.inj hq).symm⟩
  ·rw[List.getElem?_set_ne (fun e=>hi e.symm)] at hq
   exact .inr ⟨hi,hq⟩
 have hholds:∀(q:Res) (i:Nat),i≠k→q.holds γ i w'→q.holds (γ.set k nm) i w':=fun q i hi hq=>by
  cases q<;>simp only[Res.holds,hB,hV,eM i hi,g1 i hi,Vq hB hV,Vt hB hV] at hq ⊢<;>exact hq
 refine⟨?_,by simp [h.len],fun i q hq=>?_,fun i q b hq hb=>?_,fun i j q q' b hq hq' hij hb hb2=>?_⟩
 ·have hs:=h.keeps.size
  refine⟨hk.os.trans h.keeps.os,hk.tape.trans h.keeps.tape,hk.output.trans h.keeps.output,Nat.le_trans hs hk.size,fun i hi ho=>?_⟩
  refine (hk.block i (by omega) fun hx=>?_).trans (h.keeps.block i hi ho)
  rcases (h.mine k r i hr (hX i hx)).1 with h1|h1
  ·exact ho h1
  ·omega
 ·rcases get i q hq with ⟨rfl,rfl⟩|⟨hi,hq⟩
  ·exact hr'
  ·exact hholds q i hi (Res.holds_keep (h.holds i q hq) hk fun b hb hx=>h.apart i k q r b hq hr hi hb (hX b hx))
 ·rcases get i q hq with ⟨rfl,rfl⟩|⟨hi,hq⟩
  ·obtain⟨h1,h2⟩:=hb' b hb
   refine⟨?_,h2⟩
   rcases h1 with h1|h1
   ·exact (h.mine _ r b hr h1).1
   ·exact .inr (Nat.le_trans h.keeps.size h1)
  ·rw[B8 (g1 i hi)] at hb
   have:=h.mine i q b hq hb
   exact⟨this.1,Nat.lt_of_lt_of_le this.2 hk.size⟩
 ·have key:∀(i:Nat) (q:Res),i≠k→hp[i]?=some q→q.has γ i b→((r.has γ k b∨w.heap.size≤b)∧b < w'.heap.size)→False:=fun i q hi hq hb h1=>by
   rcases h1.1 with h1|h1
   ·exact h.apart i k q r b hq hr hi hb h1
   ·have:=(h.mine i q b hq hb).2
    omega
  rcases get i q hq with ⟨ei,eq⟩|⟨hi,hq1⟩
  ·rcases get j q' hq' with ⟨ej,eq'⟩|⟨hj,hq1'⟩
   ·exact hij (ei.trans ej.symm)
   ·rw[B8 (g1 j hj)] at hb2
    subst ei eq
    exact key j q' hj hq1' hb2 (hb' b hb)
  ·rw[B8 (g1 i hi)] at hb
   rcases get j q' hq' with ⟨ej,eq'⟩|⟨hj,hq1'⟩
   ·subst ej eq'
    exact key i q hi hq1 hb (hb' b hb2)
   ·rw[B8 (g1 j hj)] at hb2
    exact h.apart i j q q' b hq1 hq1' hij hb hb2
theorem Ad3 {k:Nat} {x:Value} {B:Nat→Prop} (nm:Nm) (hx:nm=.s x∨nm=.m x B) (hk:k < γ.length) (hB:nmB γ k=0) (hS:nmS γ k=x):nmB (γ.set k nm)=nmB γ∧nmS (γ.set k nm)=nmS γ:=by
 have g1:∀i,i≠k→(γ.set k nm)[i]?=γ[i]?:=fun i hi=>List.getElem?_set_ne fun e=>hi e.symm
 have g2:(γ.set k nm)[k]?=some nm:=List.getElem?_set_self hk
 refine⟨funext fun i=>?_,funext fun i=>?_⟩
 ·by_cases hi:i=k
  ·subst hi
   rw[hB]
   unfold nmB
   rw[g2]
   rcases hx with rfl|rfl<;>rfl
  ·unfold nmB;rw[g1 i hi]
 ·by_cases hi:i=k
  ·subst hi
   rw[hS]
   unfold nmS
   rw[g2]
   rcases hx with rfl|rfl<;>rfl
  ·unfold nmS;rw[g1 i hi]
end
structure MapIt (q:IntKind) (l:List (Int×Sc)) (g r:Nat) (seen:List Nat) (x:Value) (B:Nat→Prop) (w:World):Prop where
 val:x=.map (some g)
 hg:B g
 hr:B r
 ex:∃es:Array MapEntry,w.heap[g]?=some (.map es es.size)∧(∀(i:Nat) (e:MapEntry),es[i]?=some e→e.born=i)∧es.toList.map (fun e=>(e.key,e.val))=mpE [] q l∧w.heap[r]?=some (.mapIter (some g) es.size seen.toArray es.size)
def Ja (q:IntKind) (l:List (Int×Sc)) (g r:Nat) (seen:List Nat):Rep where
 H:=MapIt q l g r seen
 one:=fun {v B w} h=>by rw[h.val];exact⟨rfl,trivial⟩
 keep:=fun {v B own w w'} h hlt hk hn=>by
  obtain⟨es,h1,h2,h3,h4⟩:=h.ex
  exact⟨h.val,h.hg,h.hr,es,(hk.block g (hlt g h.hg) (hn g h.hg)).trans h1,h2,h3,(hk.block r (hlt r h.hr) (hn r h.hr)).trans h4⟩
def Mv (l:List (Int×Sc)):Prop:=∀p∈l,∀γ,p.2.val γ=p.2.val []
theorem Ad4 {l:List (Int×Sc)} (h:Mv l) (γ:List Nm) (q:IntKind):mpE γ q l=mpE [] q l:=List.map_congr_left fun p hp=>by rw[h p hp γ]
section
variable {P:Program} {w0:World} {ow:Nat→Prop} {n:Nat}
theorem Awo {k:Nat} {q:IntKind} {l:List (Int×Sc)} {t kt et:TypeId} {x:Operand} {ops:List Oper} {o:Oper} {rest:List Oper} {s:S} {K:S→Prop} (ho:o.op=.range t x) (hx:Fr.ev s.fr x=some (.x (.a (.o k)))) (hk:s.hp[k]?=some (.mp q l)) (ht:P.underlying t=some (.map kt et)) (hc:Mv l) (hd:dOk n o.dst)
  (h:∀g r,Ai P w0 ow n ops rest (S.put ⟨s.fr,s.hp.set k (.abs (Ja q l g r []))⟩ o.dst (.x (.a (.v (.pointer (some ⟨r,0,none⟩)))))) K):Ah P w0 ow n ops o rest s K:=by
 rintro a w ⟨γ,hfit⟩ hw
 obtain⟨h0,g,es,h1,h2,hb,h3⟩:=hfit.sat.holds _ _ hk
 have hev:a.eval x=.map (some g):=(hfit.ev hx).trans h1
 have hkl:k < γ.length:=by rw[hfit.sat.len];exact Ax hk
 obtain⟨eB,eS⟩:=Ad3 (k:=k) (x:=.map (some g)) (B:=fun b=>b=g∨b=w.heap.size) (.m (.map (some g)) fun b=>b=g∨b=w.heap.size) (.inr rfl) hkl (by unfold nmB;rw[h0]) h1
 have g2:(γ.set k (.m (.map (some g)) fun b=>b=g∨b=w.heap.size))[k]?=some (.m (.map (some g)) fun b=>b=g∨b=w.heap.size):=List.getElem?_set_self hkl
 have eM:nmM (γ.set k (.m (.map (some g)) fun b=>b=g∨b=w.heap.size)) k=fun b=>b=g∨b=w.heap.size:=by unfold nmM;rw[g2]
 have hlt:g < w.heap.size:=(Array.getElem?_eq_some_iff.1 h2).1
 have hsz:(w.alloc (.mapIter (some g) es.size #[] es.size)).heap.size=w.heap.size+1:=by
  show (w.heap.push _).size=_
  simp
 have hS':Sat w0 ow (γ.set k (.m (.map (some g)) fun b=>b=g∨b=w.heap.size)) (s.hp.set k (.abs (Ja q l g w.heap.size []))) (w.alloc (.mapIter (some g) es.size #[] es.size)):=by
  refine hfit.sat.turn (X:=fun _=>False) hk eB eS (Keeps.of_below ((Below.refl _ _).alloc (Nat.le_refl _) _)) (fun b h=>h.elim) ⟨by rw[g2,eM,eS,h1],fun b hb=>?_,?_⟩ fun b hb=>?_
  ·rw[eM] at hb
   rw[hsz]
   rcases hb with rfl|rfl<;>omega
  ·rw[eS,eM]
   refine⟨h1,.inl rfl,.inr rfl,es,(heap_alloc_old w _ hlt).trans h2,hb,?_,heap_alloc_new w _⟩
   rw[h3]
   exact Ad4 hc γ q
  ·have hb:nmM _ k b:=hb
   rw[eM] at hb
   rw[hsz]
   rcases hb with rfl|rfl
   ·exact⟨.inl (by show mapBlock (nmS γ k)=some b;rw[h1];rfl),by omega⟩
   ·exact⟨.inr (Nat.le_refl _),by omega⟩
 unfold wpList
 rw[if_pos hw]
 refine .inl ?_
 unfold Oper.wp
 have hrun:(execOp a.eval o).run P w=.ok (.value (.pointer (some ⟨w.heap.size,0,none⟩))) (w.alloc (.mapIter (some g) es.size #[] es.size)):=by
  unfold execOp
  simp only[ho,hev]
  exact Bb (run_range_map w t kt et g es es.size ht h2)
 rw[hrun]
 simp only[Oper.upon]
 exact C4 rest _ _ _ (h g w.heap.size) ⟨_,hfit.put hS' (fun t sv ht=>Mf eB eS sv) hd rfl⟩
theorem Ad5 {es:Array MapEntry} {q:IntKind} {l:List (Int×Sc)} (hb:∀(i:Nat) (e:MapEntry),es[i]?=some e→e.born=i) (h3:es.toList.map (fun e=>(e.key,e.val))=mpE [] q l):
  es.size=l.length∧(∀e∈es.toList,e.born < es.size)∧(es.toList.map (·.born)).Nodup∧(∀e∈es.toList,∃p,l[e.born]?=some p∧e.key=.int q p.1∧e.val=p.2.val [])∧∀i,i < l.length→∃e∈es.toList,e.born=i:=by
 have hl:es.size=l.length:=by
  have:=congrArg List.length h3
  simpa [mpE] using this
 have hm:∀e∈es.toList,∃i:Nat,es[i]?=some e∧i < es.size:=fun e he=>by
  obtain⟨i,hi⟩:=List.getElem?_of_mem he
  rw[Array.getElem?_toList] at hi
  exact⟨i,hi,(Array.getElem?_eq_some_iff.1 hi).1⟩
 refine⟨hl,fun e he=>?_,?_,fun e he=>?_,fun i hi=>?_⟩
 ·obtain⟨i,h1,h2⟩:=hm e he
  rw[hb i e h1]
  exact h2
 ·have:es.toList.map (·.born)=List.range es.size:=by
   refine List.ext_getElem? fun i=>?_
   rw[List.getElem?_map,Array.getElem?_toList]
   by_cases hi:i < es.size
   ·rw[Array.getElem?_eq_getElem hi,List.getElem?_range hi]
    exact congrArg some (hb i _ (Array.getElem?_eq_getElem hi))
   ·rw[Array.getElem?_eq_none (by omega),List.getElem?_eq_none (by simp;omega)]
    rfl
  rw[this]
  exact List.nodup_range
 ·obtain⟨i,h1,h2⟩:=hm e he
  have h4:=hb i e h1
  have h5:(es.toList.map (fun e=>(e.key,e.val)))[i]?=some (e.key,e.val):=by rw[List.getElem?_map,Array.getElem?_toList,h1];rfl
  rw[h3] at h5
  unfold mpE at h5
  rw[List.getElem?_map] at h5
  cases hp:l[i]? with
  |none=>rw[hp] at h5;cases h5
  |some p=>
   rw[hp] at h5
   have h5:=Option.some.inj h5
   refine⟨p,by rw[h4];exact hp,?_,?_⟩
   ·exact (congrArg Prod.fst h5).symm
   ·exact (congrArg Prod.snd h5).symm
 ·have hi':i < es.size:=by omega
  exact⟨es[i],by rw[Array.mem_toList_iff];exact Array.getElem_mem hi',hb i _ (Array.getElem?_eq_getElem hi')⟩
theorem Awp (w:World) (r:Nat) (o:Obj):Keeps (·=r) w (setBlock w r o):=by
 refine⟨rfl,rfl,rfl,?_,fun i hi hn=>?_⟩
 ·show _≤(w.heap.setIfInBounds r o).size
  simp
 ·show (w.heap.setIfInBounds r o)[i]?=_
  rw[Array.getElem?_setIfInBounds_ne (fun e=>hn e.symm)]
theorem Awq {k:Nat} {q:IntKind} {l:List (Int×Sc)} {g r:Nat} {seen:List Nat} {x:Operand} {ops:List Oper} {o:Oper} {rest:List Oper} {s:S} {K:S→Prop} (ho:o.op=.next x false) (hx:Fr.ev s.fr x=some (.x (.a (.v (.pointer (some ⟨r,0,none⟩)))))) (hk:s.hp[k]?=some (.abs (Ja q l g r seen))) (hc:Mv l) (hd:dOk n o.dst)
  (h0:(∀i,i < l.length→i∈seen)→Ai P w0 ow n ops rest (S.put s o.dst (.t [.a (.v (.bool false))])) K)
  (h1:∀i p,l[i]?=some p→i∉seen→Ai P w0 ow n ops rest (S.put ⟨s.fr,s.hp.set k (.abs (Ja q l g r (seen++[i])))⟩ o.dst (.t [.a (.v (.bool true)),.a (.v (.int q p.1)),p.2])) K):Ah P w0 ow n ops o rest s K:=by
 rintro a w ⟨γ,hfit⟩ hw
 obtain⟨a1,a2,a3⟩:=hfit.sat.holds _ _ hk
 obtain⟨es,b1,b2,b3,b4⟩:=a3.ex
 obtain⟨c1,c2,c3,c4,c5⟩:=Ad5 b2 b3
 have hev:a.eval x=.pointer (some ⟨r,0,none⟩):=hfit.ev hx
 unfold wpList
 rw[if_pos hw]
 refine .inl ?_
 unfold Oper.wp
 rcases run_next_at (P:=P) w o.type r g es.size es.size seen.toArray es es.size b4 b1 c2 (Nat.le_refl _) with ⟨d1,d2⟩|⟨e,d1,w1,d2,d3⟩
 ·have hrun:(execOp a.eval o).run P w=.ok (.value (.tuple #[.bool false])) w:=by
   unfold execOp
   simp only[ho,hev]
   exact Bb d2
  rw[hrun]
  simp only[Oper.upon]
  refine C4 rest _ _ _ (h0 fun i hi=>?_) ⟨γ,hfit.put hfit.sat (fun _ _ _=>rfl) hd rfl⟩
  obtain⟨e,h2,h3⟩:=c5 i hi
  have h4:leftOf es seen.toArray=#[]:=Array.eq_empty_of_size_eq_zero d1
  by_cases hs:i∈seen
  ·exact hs
  ·have:e∈leftOf es seen.toArray:=by
    unfold leftOf
    rw[Array.mem_filter]
    refine⟨Array.mem_toList_iff.1 h2,?_⟩
    rw[h3]
    simp [hs]
   rw[h4] at this
   simp at this
 ·have hem:e∈es.toList∧e.born∉seen:=by
   rw[Array.mem_toList_iff] at d1
   unfold leftOf at d1
   rw[Array.mem_filter] at d1
   refine⟨Array.mem_toList_iff.2 d1.1,fun hs=>?_⟩
   have:=d1.2
   simp [hs] at this
  obtain⟨p,e1,e2,e3⟩:=c4 e hem.1
  have hp:=List.mem_of_getElem? e1
  have hrun:(execOp a.eval o).run P w=.ok (.value (.tuple #[.bool true,e.key,e.val])) (setBlock w1 r (.mapIter (some g) es.size (seen.toArray.push e.born) es.size)):=by
   unfold execOp
   simp only[ho,hev]
   exact Bb d3
  rw[hrun]
  simp only[Oper.upon]
  have hw1:Keeps (fun _=>False) w w1∧w1.heap=w.heap:=by
   rcases d2 with rfl|rfl
   ·exact⟨Keeps.refl _ _,rfl⟩
   ·exact⟨⟨rfl,rfl,rfl,Nat.le_refl _,fun _ _ _=>rfl⟩,rfl⟩
  have hk2:Keeps (·=r) w (setBlock w1 r (.mapIter (some g) es.size (seen.toArray.push e.born) es.size)):=by
   have:=Awp w1 r (.mapIter (some g) es.size (seen.toArray.push e.born) es.size)
   exact⟨this.os.trans hw1.1.os,this.tape.trans hw1.1.tape,this.output.trans hw1.1.output,Nat.le_trans hw1.1.size this.size,fun i hi hn=>(this.block i (Nat.lt_of_lt_of_le hi hw1.1.size) hn).trans (by rw[hw1.2])⟩
  have hgr:g≠r:=fun e=>by rw[e,b4] at b1;cases b1
  have hS':Sat w0 ow γ (s.hp.set k (.abs (Ja q l g r (seen++[e.born])))) (setBlock w1 r (.mapIter (some g) es.size (seen.toArray.push e.born) es.size)):=by
   refine hfit.sat.update hk (show (Res.abs (Ja q l g r seen)).has γ k r from a3.hr) hk2 ⟨a1,fun b hb=>Nat.lt_of_lt_of_le (a2 b hb) hk2.size,a3.val,a3.hg,a3.hr,es,?_,b2,b3,?_⟩ (.inl rfl)
   ·exact (hk2.block g (a2 g a3.hg) hgr).trans b1
   ·show (w1.heap.setIfInBounds r _)[r]?=_
    rw[Array.getElem?_setIfInBounds_self_of_lt (by rw[hw1.2];exact a2 r a3.hr)]
    simp
  refine C4 rest _ _ _ (h1 e.born p e1 hem.2) ⟨γ,hfit.put hS' (fun _ _ _=>rfl) hd ?_⟩
  show _=Value.tuple #[.bool true,.int q p.1,p.2.val γ]
  rw[e2,e3,hc p hp γ]
theorem Awr {k:Nat} {q:IntKind} {l:List (Int×Sc)} {g r i:Nat} {p:Int×Sc} {seen:List Nat} {x:Operand} {ops:List Oper} {o:Oper} {rest:List Oper} {s:S} {K:S→Prop} (ho:o.op=.entry x) (hx:Fr.ev s.fr x=some (.x (.a (.v (.pointer (some ⟨r,0,none⟩)))))) (hk:s.hp[k]?=some (.abs (Ja q l g r (seen++[i])))) (hp:l[i]?=some p) (hc:Mv l) (hd:dOk n o.dst)
  (h:Ai P w0 ow n ops rest (S.put s o.dst (.t [.a (.v (.int q p.1)),p.2])) K):Ah P w0 ow n ops o rest s K:=by
 rintro a w ⟨γ,hfit⟩ hw
 obtain⟨a1,a2,a3⟩:=hfit.sat.holds _ _ hk
 obtain⟨es,b1,b2,b3,b4⟩:=a3.ex
 obtain⟨c1,c2,c3,c4,c5⟩:=Ad5 b2 b3
 have hev:a.eval x=.pointer (some ⟨r,0,none⟩):=hfit.ev hx
 obtain⟨e,h2,h3⟩:=c5 i (List.getElem?_eq_some_iff.1 hp).1
 obtain⟨p',e1,e2,e3⟩:=c4 e h2
 rw[h3,hp] at e1
 obtain rfl:=Option.some.inj e1
 have hrun:(execOp a.eval o).run P w=.ok (.value (.tuple #[e.key,e.val])) w:=by
  unfold execOp
  simp only[ho,hev]
  refine Bb (run_entry_at w r g es.size seen.toArray es es.size e ?_ b1 h2 c3)
  rw[b4,h3]
  simp
 unfold wpList
 rw[if_pos hw]
 refine .inl ?_
 unfold Oper.wp
 rw[hrun]
 simp only[Oper.upon]
 refine C4 rest _ _ _ h ⟨γ,hfit.put hfit.sat (fun _ _ _=>rfl) hd ?_⟩
 show _=Value.tuple #[.int q p.1,p.2.val γ]
 rw[e2,e3,hc p (List.mem_of_getElem? hp) γ]
theorem Ad6 {k:Nat} {q:IntKind} {l:List (Int×Sc)} {g r:Nat} {seen:List Nat} {s:S} (hk:s.hp[k]?=some (.abs (Ja q l g r seen))) (hc:Mv l):Fh w0 ow n s ⟨s.fr,s.hp.set k (.mp q l)⟩:=fun a w ⟨γ,hfit⟩=>by
 obtain⟨a1,a2,a3⟩:=hfit.sat.holds _ _ hk
 obtain⟨es,b1,b2,b3,b4⟩:=a3.ex
 have hkl:k < γ.length:=by rw[hfit.sat.len];exact Ax hk
 obtain⟨eB,eS⟩:=Ad3 (k:=k) (x:=.map (some g)) (B:=No) (.s (.map (some g))) (.inl rfl) hkl (by unfold nmB;rw[a1]) a3.val
 have g2:(γ.set k (.s (.map (some g))))[k]?=some (.s (.map (some g))):=List.getElem?_set_self hkl
 refine⟨γ.set k (.s (.map (some g))),hfit.sat.turn (X:=No) hk eB eS (Keeps.refl _ _) (fun b h=>h.elim) ⟨by rw[g2,eS,a3.val],g,es,by rw[eS];exact a3.val,b1,b2,by rw[Ad4 hc];exact b3⟩ fun b hb=>?_,hfit.defers,hfit.size,fun t sv ht=>by rw[Mf eB eS];exact hfit.at_ t sv ht⟩
 have hb:mapBlock (nmS _ k)=some b:=hb
 rw[eS,a3.val] at hb
 have hb:some g=some b:=hb
 obtain rfl:=Option.some.inj hb
 exact⟨.inl a3.hg,a2 _ a3.hg⟩
end
end Go.Proofs.YtedaafmfjhjfmaaGreatDoor
