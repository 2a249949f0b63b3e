import Derived.Test.YtedaafmfjhjfmaaGreatDoorGn
/- Calls that turn an object of several variables in place; a part of a proof that begins anew. No program in sight. -/
namespace Go.Proofs.YtedaafmfjhjfmaaGreatDoor
open Go.RowKit
set_option linter.unusedSimpArgs false
set_option linter.unusedVariables false
theorem At.bnd_le {m n:Nat} (h:m≤n) {x:At} (hx:x.bnd m):x.bnd n:=by
 cases x<;>simp only[At.bnd] at hx ⊢<;>omega
theorem Sc.bnd_le {m n:Nat} (h:m≤n) {x:Sc} (hx:x.bnd m):x.bnd n:=by
 cases x<;>simp only[Sc.bnd] at hx ⊢
 ·exact At.bnd_le h hx
 ·exact fun y hy=>At.bnd_le h (hx y hy)
theorem Cont.bnd_le {m n:Nat} (h:m≤n) {x:Cont} (hx:x.bnd m):x.bnd n:=by
 cases x<;>simp only[Cont.bnd] at hx ⊢
 exact fun y hy=>At.bnd_le h (hx y hy)
theorem Res.bnd_le {m n:Nat} (h:m≤n) {x:Res} (hx:x.bnd m):x.bnd n:=by
 cases x<;>simp only[Res.bnd] at hx ⊢<;>first|exact Cont.bnd_le h hx|exact fun y hy=>Sc.bnd_le h (hx y hy)
def avK (a k:Nat):Prop:=k=0∨a≤k
def At.av (a:Nat):At→Prop
 | .v _=>True
 | .p k _=>avK a k
 | .s k _ _ _=>avK a k
 | .o k=>avK a k
 | .q k _=>avK a k
 | .z k _ _=>avK a k
 | .y k _ _ _=>avK a k
def Sc.av (a:Nat):Sc→Prop
 | .a x=>x.av a
 | .g l=>∀x∈l,x.av a
 |_=>True
def Sv.av (a:Nat):Sv→Prop
 | .x s=>s.av a
 | .t l=>∀s∈l,Sc.av a s
 | .f _ caps=>∀x∈caps,At.av a x
def Cont.av (a:Nat):Cont→Prop
 | .c l=>∀x∈l,x.av a
 |_=>True
def Res.av (a:Nat):Res→Prop
 | .blk _ c=>c.av a
 | .own _ c=>c.av a
 | .lit _ c=>c.av a
 | .str _ c=>c.av a
 | .pin _ _ c=>c.av a
 | .onn _ _ c=>c.av a
 | .mp _ l=>∀p∈l,Sc.av a p.2
 |_=>True
theorem At.av_zero (x:At):x.av 0:=by
 cases x<;>simp only[At.av]<;>exact .inr (Nat.zero_le _)
theorem Sc.av_zero (x:Sc):x.av 0:=by
 cases x<;>simp only[Sc.av]
 ·exact At.av_zero _
 ·exact fun y _=>At.av_zero y
theorem Cont.av_zero (x:Cont):x.av 0:=by
 cases x<;>simp only[Cont.av]
 exact fun y _=>At.av_zero y
theorem Res.av_zero (x:Res):x.av 0:=by
 cases x<;>simp only[Res.av]<;>first|exact Cont.av_zero _|exact fun y _=>Sc.av_zero _
theorem At.av_of {a:Nat} {x:At} (h:x.bnd 0):x.av a:=by
 cases x<;>simp only[At.bnd,At.av,Nat.not_lt_zero] at h ⊢
theorem Sc.av_of {a:Nat} {x:Sc} (h:x.bnd 0):x.av a:=by
 cases x<;>simp only[Sc.bnd,Sc.av] at h ⊢
 ·exact At.av_of h
 ·exact fun y hy=>At.av_of (h y hy)
theorem Cont.av_of {a:Nat} {x:Cont} (h:x.bnd 0):x.av a:=by
 cases x<;>simp only[Cont.bnd,Cont.av] at h ⊢
 exact fun y hy=>At.av_of (h y hy)
theorem Res.av_of {a:Nat} {x:Res} (h:x.bnd 0):x.av a:=by
 cases x<;>simp only[Res.bnd,Res.av] at h ⊢<;>first|exact Cont.av_of h|exact fun y hy=>Sc.av_of (h y hy)
def Agr (a n:Nat) (γ γ':List Nm):Prop:=∀k,k < n→avK a k→γ'[k]?=γ[k]?
section
variable {a n:Nat} {γ γ':List Nm}
theorem Agr.b (h:Agr a n γ γ') {k:Nat} (hk:k < n) (ha:avK a k):nmB γ' k=nmB γ k:=by unfold nmB;rw[h k hk ha]
theorem Agr.s (h:Agr a n γ γ') {k:Nat} (hk:k < n) (ha:avK a k):nmS γ' k=nmS γ k:=by unfold nmS;rw[h k hk ha]
theorem Agr.m (h:Agr a n γ γ') {k:Nat} (hk:k < n) (ha:avK a k):nmM γ' k=nmM γ k:=by unfold nmM;rw[h k hk ha]
theorem Agr.at_ (h:Agr a n γ γ') {x:At} (hb:x.bnd n) (ha:x.av a):x.val γ'=x.val γ:=by
 cases x<;>simp only[At.val]<;>simp only[At.bnd] at hb<;>simp only[At.av] at ha<;>first|rw[h.b hb ha]|rw[h.s hb ha]|rfl
theorem Agr.atl (h:Agr a n γ γ') {l:List At} (hb:∀x∈l,x.bnd n) (ha:∀x∈l,x.av a):l.map (At.val γ')=l.map (At.val γ):=List.map_congr_left fun x hx=>h.at_ (hb x hx) (ha x hx)
theorem Agr.sc (h:Agr a n γ γ') {x:Sc} (hb:x.bnd n) (ha:x.av a):x.val γ'=x.val γ:=by
 cases x<;>simp only[Sc.val]
 ·exact h.at_ hb ha
 ·rw[h.atl hb ha]
theorem Agr.sv (h:Agr a n γ γ') {x:Sv} (hb:x.bnd n) (ha:x.av a):x.val γ'=x.val γ:=by
 cases x<;>simp only[Sv.val]
 ·exact h.sc hb ha
 ·congr 2;exact List.map_congr_left fun x hx=>h.sc (hb x hx) (ha x hx)
 ·rw[h.atl hb ha]
theorem Agr.vals (h:Agr a n γ γ') {c:Cont} (hb:c.bnd n) (ha:c.av a):c.vals γ'=c.vals γ:=by
 cases c<;>simp only[Cont.vals]
 exact h.atl hb ha
theorem Agr.mpE (h:Agr a n γ γ') {q:IntKind} {l:List (Int×Sc)} (hb:Lp n l) (ha:∀p∈l,Sc.av a p.2):mpE γ' q l=mpE γ q l:=by
 unfold Go.Proofs.YtedaafmfjhjfmaaGreatDoor.mpE
 exact List.map_congr_left fun p hp=>by rw[h.sc (hb p hp) (ha p hp)]
theorem Agr.holds (h:Agr a n γ γ') {r:Res} (hb:r.bnd n) (ha:r.av a) {k k':Nat} (hk:γ'[k']?=γ[k]?) {w:World} (hh:r.holds γ k w):r.holds γ' k' w:=by
 have e1:nmB γ' k'=nmB γ k:=by unfold nmB;rw[hk]
 have e2:nmS γ' k'=nmS γ k:=by unfold nmS;rw[hk]
 have e3:nmM γ' k'=nmM γ k:=by unfold nmM;rw[hk]
 cases r<;>simp only[Res.holds,hk,e1,e2,e3] at hh ⊢<;>first|exact hh|(rw[h.vals hb ha];exact hh)|(rw[h.mpE hb ha];exact hh)
theorem B8 {r:Res} {k k':Nat} (hk:γ'[k']?=γ[k]?):r.has γ' k'=r.has γ k:=by
 have e1:nmB γ' k'=nmB γ k:=by unfold nmB;rw[hk]
 have e2:nmS γ' k'=nmS γ k:=by unfold nmS;rw[hk]
 have e3:nmM γ' k'=nmM γ k:=by unfold nmM;rw[hk]
 cases r<;>simp only[Res.has,e1,e2,e3]
end
section
variable {P:Program} {w0 w w':World} {ow B:Nat→Prop} {γ γ1:List Nm} {A A' M N:List Res}
theorem Sat.inplace0 {a:Nat} (hS:Sat w0 ow γ (A++M) w) (h1:Sat w B γ1 (A'++N) w') (hB:∀b,B b→∃(k:Nat) (r:Res),A[k]?=some r∧r.has γ k b) (ha:A.length=a) (ha':A'.length=a) (h0:γ1[0]?=γ[0]?∨∀r∈M,Res.bnd 0 r) (hp:0 < a)
  (hbr:∀r∈A++M,Res.bnd (A++M).length r) (hbA:∀r∈A',Res.bnd a r) (hbN:∀r∈N,Res.bnd 0 r) (hav:∀r∈M,r.av a):
  ∃γ',Sat w0 ow γ' (A'++(M++N)) w'∧∀k,γ'[k]?=if k < a then γ1[k]? else if k < (A++M).length then γ[k]? else γ1[k - M.length]?:=by
 have hl:=hS.len
 have hl1:=h1.len
 rw[List.length_append] at hl hl1
 have hbr1:∀r∈A'++N,Res.bnd (A'++N).length r:=fun r hr=>by
  rcases List.mem_append.1 hr with hr|hr
  ·exact Res.bnd_le (by simp;omega) (hbA r hr)
  ·exact Res.bnd_le (Nat.zero_le _) (hbN r hr)
 have hk:Keeps ow w0 w'∧True:=⟨(hS.back (List.range a) (X:=B) (fun b hb=>by
  obtain⟨k,r,h2,h3⟩:=hB b hb
  have hlt:=Ax h2
  exact⟨k,r,List.mem_range.2 (by omega),by rw[List.getElem?_append_left hlt];exact h2,h3⟩) h1 hbr hbr1).keeps,trivial⟩
 have hBo:∀b,B b→(G7 w0 ow b∧b < w.heap.size)∧∀(k:Nat) (r:Res),M[k]?=some r→¬r.has γ (a+k) b:=fun b hb=>by
  obtain⟨k,r,h2,h3⟩:=hB b hb
  have hlt:=Ax h2
  have e:(A++M)[k]?=some r:=by rw[List.getElem?_append_left hlt];exact h2
  refine⟨hS.mine k r b e h3,fun j q hq hb2=>?_⟩
  have e2:(A++M)[a+j]?=some q:=by rw[List.getElem?_append_right (by omega),ha,Nat.add_sub_cancel_left];exact hq
  exact hS.apart k (a+j) r q b e e2 (by omega) h3 hb2
 have hget:∀k,(γ1.take a++(γ.drop a++γ1.drop a))[k]?=if k < a then γ1[k]? else if k < (A++M).length then γ[k]? else γ1[k - M.length]?:=fun k=>by
  rw[List.length_append]
  by_cases h1:k < a
  ·rw[if_pos h1,List.getElem?_append_left (by simp;omega),List.getElem?_take_of_lt h1]
  ·rw[if_neg h1,List.getElem?_append_right (by simp;omega),List.length_take,Nat.min_eq_left (by omega)]
   by_cases h2:k < A.length+M.length
   ·rw[if_pos h2,List.getElem?_append_left (by simp;omega),List.getElem?_drop]
    congr 1;omega
   ·rw[if_neg h2,List.getElem?_append_right (by simp;omega),List.getElem?_drop,List.length_drop]
    congr 1;omega
 have hagr:γ1[0]?=γ[0]?→Agr a (A++M).length γ (γ1.take a++(γ.drop a++γ1.drop a)):=fun h0 k hk hv=>by
  rw[hget]
  rcases hv with rfl|hv
  ·rw[if_pos hp,h0]
  ·rw[if_neg (by omega),if_pos hk]
 have hagr1:Agr a a γ1 (γ1.take a++(γ.drop a++γ1.drop a))∧∀k,k < a→(γ1.take a++(γ.drop a++γ1.drop a))[k]?=γ1[k]?:=⟨fun k hk _=>by rw[hget,if_pos hk],fun k hk=>by rw[hget,if_pos hk]⟩
 -- every resource,and where it comes from
 have cases_:∀(k:Nat) (r:Res),(A'++(M++N))[k]?=some r→(k < a∧A'[k]?=some r)∨(∃j,k=a+j∧M[j]?=some r)∨∃j,k=a+M.length+j∧N[j]?=some r:=fun k r hr=>by
  by_cases h1:k < a
  ·rw[List.getElem?_append_left (by omega)] at hr
   exact .inl ⟨h1,hr⟩
  ·rw[List.getElem?_append_right (by omega),ha'] at hr
   by_cases h2:k - a < M.length
   ·rw[List.getElem?_append_left h2] at hr
    exact .inr (.inl ⟨k - a,by omega,hr⟩)
   ·rw[List.getElem?_append_right (by omega)] at hr
    exact .inr (.inr ⟨k - a - M.length,by omega,hr⟩)
 have eM:∀j,j < M.length→(γ1.take a++(γ.drop a++γ1.drop a))[a+j]?=γ[a+j]?:=fun j hj=>by
  rw[hget,if_neg (by omega),if_pos (by rw[List.length_append];omega)]
 have eN:∀j,(γ1.take a++(γ.drop a++γ1.drop a))[a+M.length+j]?=γ1[a+j]?:=fun j=>by
  rw[hget,if_neg (by omega),if_neg (by rw[List.length_append];omega)]
  congr 1;omega
 have gM:∀{j:Nat} {r:Res},M[j]?=some r→(A++M)[a+j]?=some r:=fun {j r} h=>by rw[List.getElem?_append_right (by omega),ha,Nat.add_sub_cancel_left];exact h
 have gA:∀{j:Nat} {r:Res},j < a→A'[j]?=some r→(A'++N)[j]?=some r:=fun {j r} hj h=>by rw[List.getElem?_append_left (by omega)];exact h
 have gN:∀{j:Nat} {r:Res},N[j]?=some r→(A'++N)[a+j]?=some r:=fun {j r} h=>by rw[List.getElem?_append_right (by omega),ha',Nat.add_sub_cancel_left];exact h
 have own1:∀{k:Nat} {r:Res} {b:Nat},(A'++N)[k]?=some r→r.has γ1 k b→(G7 w0 ow b∧b < w'.heap.size)∧∀(j:Nat) (q:Res),M[j]?=some q→¬q.has γ (a+j) b:=fun {k r b} hr hb=>by
  obtain⟨h2,h3⟩:=h1.mine k r b hr hb
  rcases h2 with h2|h2
  ·exact⟨⟨((hBo b h2).1).1,h3⟩,(hBo b h2).2⟩
  ·exact⟨⟨.inr (Nat.le_trans hS.keeps.size h2),h3⟩,fun j q hq hq2=>by
    have:=(hS.mine _ q b (gM hq) hq2).2
    omega⟩
 refine⟨_,⟨hk.1,by simp;omega,fun k r hr=>?_,fun k r b hr hb=>?_,fun k k' r r' b hr hr' hne hb hb'=>?_⟩,hget⟩
 ·rcases cases_ k r hr with ⟨h2,h3⟩|⟨j,rfl,h3⟩|⟨j,rfl,h3⟩
  ·have hh:=h1.holds k r (gA h2 h3)
   have hb:=hbA r (List.mem_of_getElem? h3)
   refine Agr.holds (a:=0) (n:=a) (γ:=γ1) (fun i hi _=>hagr1.2 i hi) hb ?_ (hagr1.2 k h2) hh
   exact Res.av_zero r
  ·have hh:=hS.holds _ r (gM h3)
   have hh:=Res.holds_keep (Y:=B) hh h1.keeps (fun b hb hB2=>(hBo b hB2).2 j r h3 hb)
   rcases h0 with h0|h0
   ·exact (hagr h0).holds (hbr r (List.mem_append_right _ (List.mem_of_getElem? h3))) (hav r (List.mem_of_getElem? h3)) (eM j (Ax h3)) hh
   ·exact Agr.holds (a:=0) (n:=0) (fun i hi _=>absurd hi (Nat.not_lt_zero _)) (h0 r (List.mem_of_getElem? h3)) (Res.av_zero r) (eM j (Ax h3)) hh
  ·have hh:=h1.holds _ r (gN h3)
   exact Agr.holds (a:=0) (n:=0) (γ:=γ1) (fun i hi _=>absurd hi (Nat.not_lt_zero _)) (hbN r (List.mem_of_getElem? h3)) (Res.av_zero r) (eN j) hh
 ·rcases cases_ k r hr with ⟨h2,h3⟩|⟨j,rfl,h3⟩|⟨j,rfl,h3⟩
  ·rw[B8 (hagr1.2 k h2)] at hb
   exact (own1 (gA h2 h3) hb).1
  ·rw[B8 (eM j (Ax h3))] at hb
   obtain⟨h4,h5⟩:=hS.mine _ r b (gM h3) hb
   exact⟨h4,Nat.lt_of_lt_of_le h5 h1.keeps.size⟩
  ·rw[B8 (eN j)] at hb
   exact (own1 (gN h3) hb).1
 ·rcases cases_ k r hr with ⟨h2,h3⟩|⟨j,rfl,h3⟩|⟨j,rfl,h3⟩<;>rcases cases_ k' r' hr' with ⟨h4,h5⟩|⟨j',rfl,h5⟩|⟨j',rfl,h5⟩
  ·rw[B8 (hagr1.2 k h2)] at hb
   rw[B8 (hagr1.2 k' h4)] at hb'
   exact h1.apart k k' r r' b (gA h2 h3) (gA h4 h5) hne hb hb'
  ·rw[B8 (hagr1.2 k h2)] at hb
   rw[B8 (eM j' (Ax h5))] at hb'
   exact (own1 (gA h2 h3) hb).2 j' r' h5 hb'
  ·rw[B8 (hagr1.2 k h2)] at hb
   rw[B8 (eN j')] at hb'
   exact h1.apart k (a+j') r r' b (gA h2 h3) (gN h5) (by omega) hb hb'
  ·rw[B8 (eM j (Ax h3))] at hb
   rw[B8 (hagr1.2 k' h4)] at hb'
   exact (own1 (gA h4 h5) hb').2 j r h3 hb
  ·rw[B8 (eM j (Ax h3))] at hb
   rw[B8 (eM j' (Ax h5))] at hb'
   exact hS.apart (a+j) (a+j') r r' b (gM h3) (gM h5) hne hb hb'
  ·rw[B8 (eM j (Ax h3))] at hb
   rw[B8 (eN j')] at hb'
   exact (own1 (gN h5) hb').2 j r h3 hb
  ·rw[B8 (eN j)] at hb
   rw[B8 (hagr1.2 k' h4)] at hb'
   exact h1.apart (a+j) k' r r' b (gN h3) (gA h4 h5) (by omega) hb hb'
  ·rw[B8 (eN j)] at hb
   rw[B8 (eM j' (Ax h5))] at hb'
   exact (own1 (gN h3) hb).2 j' r' h5 hb'
  ·rw[B8 (eN j)] at hb
   rw[B8 (eN j')] at hb'
   exact h1.apart (a+j) (a+j') r r' b (gN h3) (gN h5) (by omega) hb hb'
theorem Sat.inplace {a:Nat} (hS:Sat w0 ow γ (A++M) w) (h1:Sat w B γ1 (A'++N) w') (hB:∀b,B b→∃(k:Nat) (r:Res),A[k]?=some r∧r.has γ k b) (ha:A.length=a) (ha':A'.length=a) (h0:γ1[0]?=γ[0]?) (hp:0 < a)
  (hbr:∀r∈A++M,Res.bnd (A++M).length r) (hbA:∀r∈A',Res.bnd a r) (hbN:∀r∈N,Res.bnd 0 r) (hav:∀r∈M,r.av a):
  ∃γ',Sat w0 ow γ' (A'++(M++N)) w'∧Agr a (A++M).length γ γ':=by
 obtain⟨γ',h2,hget⟩:=hS.inplace0 h1 hB ha ha' (.inl h0) hp hbr hbA hbN hav
 refine⟨γ',h2,fun k hk hv=>?_⟩
 rw[hget]
 rcases hv with rfl|hv
 ·rw[if_pos hp,h0]
 ·rw[if_neg (by omega),if_pos hk]
theorem Sat.frame (hS:Sat w0 ow γ (A++M) w) (h1:Sat w B γ1 A' w') (hB:∀b,B b→∃(k:Nat) (r:Res),A[k]?=some r∧r.has γ k b) (ha':A'.length=A.length) (hp:0 < A.length) (hbr:∀r∈A++M,Res.bnd (A++M).length r) (hbA:∀r∈A',Res.bnd A.length r) (hM:∀r∈M,Res.bnd 0 r):
  ∃γ',Sat w0 ow γ' (A'++M) w'∧∀i,i < A.length→γ'[i]?=γ1[i]?:=by
 obtain⟨γ',h2,hget⟩:=hS.inplace0 (N:=[]) (by rw[List.append_nil];exact h1) hB rfl ha' (.inr hM) hp hbr hbA (fun r hr=>by cases hr) (fun r hr=>Res.av_of (hM r hr))
 rw[List.append_nil] at h2
 exact⟨γ',h2,fun i hi=>by rw[hget,if_pos hi]⟩
theorem Sat.frontOf (hS:Sat w0 ow γ (A++N) w) (hb:∀r∈A,Res.bnd A.length r):Sat w0 ow (γ.take A.length) A w:=by
 have hl:=hS.len
 rw[List.length_append] at hl
 have e:∀k,k < A.length→(γ.take A.length)[k]?=γ[k]?:=fun k hk=>List.getElem?_take_of_lt hk
 have g:∀{k:Nat} {r':Res},A[k]?=some r'→(A++N)[k]?=some r':=fun {k r'} h=>by rw[List.getElem?_append_left (Ax h)];exact h
 refine⟨hS.keeps,by simp at hl ⊢;omega,fun k r hr=>?_,fun k r b hr hb=>?_,fun j k r r' b hr hr' hne hb hb'=>?_⟩
 ·exact Agr.holds (a:=0) (n:=A.length) (fun i hi _=>e i hi) (hb r (List.mem_of_getElem? hr)) (Res.av_zero r) (e k (Ax hr)) (hS.holds k r (g hr))
 ·rw[B8 (e k (Ax hr))] at hb
  exact hS.mine k r b (g hr) hb
 ·rw[B8 (e j (Ax hr))] at hb
  rw[B8 (e k (Ax hr'))] at hb'
  exact hS.apart j k r r' b (g hr) (g hr') hne hb hb'
end
theorem Sat.frontA {w0 w:World} {ow:Nat→Prop} {γ:List Nm} {A M:List Res} (hS:Sat w0 ow γ (A++M) w) (hbA:∀r∈A,Res.bnd A.length r):Sat w (fun b=>∃(k:Nat) (r:Res),A[k]?=some r∧r.has γ k b) (γ.take A.length) A w:=by
 have hl:=hS.len
 rw[List.length_append] at hl
 have e:∀k,k < A.length→(γ.take A.length)[k]?=γ[k]?:=fun k hk=>List.getElem?_take_of_lt hk
 have g:∀{k:Nat} {r:Res},A[k]?=some r→(A++M)[k]?=some r:=fun {k r} h=>by rw[List.getElem?_append_left (Ax h)];exact h
 refine⟨Keeps.refl _ _,by simp;omega,fun k r hr=>?_,fun k r b hr hb=>?_,fun j k r r' b hr hr' hne hb hb'=>?_⟩
 ·exact Agr.holds (a:=0) (n:=A.length) (fun i hi _=>e i hi) (hbA r (List.mem_of_getElem? hr)) (Res.av_zero r) (e k (Ax hr)) (hS.holds k r (g hr))
 ·rw[B8 (e k (Ax hr))] at hb
  exact⟨.inl ⟨k,r,hr,hb⟩,(hS.mine k r b (g hr) hb).2⟩
 ·rw[B8 (e j (Ax hr))] at hb
  rw[B8 (e k (Ax hr'))] at hb'
  exact hS.apart j k r r' b (g hr) (g hr') hne hb hb'
section
variable {P:Program} {w0:World} {ow:Nat→Prop} {n:Nat}
end
end Go.Proofs.YtedaafmfjhjfmaaGreatDoor
