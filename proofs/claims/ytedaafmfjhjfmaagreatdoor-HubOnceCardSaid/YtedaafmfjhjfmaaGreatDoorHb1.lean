import Derived.Test.YtedaafmfjhjfmaaGreatDoorMg29
import Derived.Test.YtedaafmfjhjfmaaGreatDoorHb0
/- In a region that draws its order, with forks: a call that turns what stands in front, in place, and leaves facts; what comes behind the forks hangs on what the call answered. No program in sight. -/
namespace Go.Proofs.YtedaafmfjhjfmaaGreatDoor
open _root_.Go.Proofs.Tryz
open Go.RowKit
set_option linter.unusedSimpArgs false
set_option linter.unusedVariables false
section
theorem Xd {ι:Type} {P:Program} {w0:World} {ow:Nat→Prop} {n id:Nat} {ops:List Oper} {s:S} {K:Exit→S→Prop} (Q:ι→Prop) (m:Nat) (G:List Nat) (k:Nat) (p:Pl) (s1:ι→S) (hm:P.follows .mixedOrders=true) (hB:Sf .any ops.toArray k p=true)
  (hml:m≤s.hp.length) (h:C7 P w0 ow n m G ops (fun s'=>∃i,Q i∧Fh w0 ow n s' (s1 i)) p s) (hk:∀i,Q i→Ai P w0 ow n ops (ops.drop k) (s1 i) (K .normal)):Ao P w0 ow n id ops s K:=by
 rintro a w ⟨γ,hf⟩
 refine Ac0 k p hm hB (fun x=>Sat w0 ow γ (Bl m G s.hp) x) fun w2 hd=>?_
 have hf2:=Fits.drawn hf hd.out
 refine⟨hf2.sat.vis hml,Ac1 (fun a' w' hq=>?_) _ _ _ _ (Gu p s γ a w2 h hf2 hml)⟩
 obtain⟨s',h1,i,hi,h2⟩:=hq
 refine Jk (fun e a'' w'' hq=>?_) _ _ _ (C4 _ (s1 i) a' w' (hk i hi) (h2 _ _ h1))
 obtain⟨rfl,s'',h3,h4⟩:=hq
 exact⟨s'',h3,h4⟩
section
variable {P:Program} {w0:World} {ow:Nat→Prop} {n:Nat}
theorem Tn {ι:Type} {A M:List Res} {g m:Nat} {t:TypeId} {c:Cont} {Gm:List Nat} (Q:ι→Prop) (sv:ι→Sv) (A1:ι→List Res) (G:ι→List Fct) {ops:List Oper} {o:Oper} {p:Pl} {f:FuncId} {xs:List Operand} {tys:Array TypeId} {s:S} {svs:List Sv} {K:S→Prop} (hs:s.hp=A++M) (hg:A[0]?=some (.pin g t c)) (hg1:∀i,Q i→∃c,(A1 i)[0]?=some (.pin g t c)) (hlen:∀i,Q i→(A1 i).length=A.length)
  (ho:o.op=.call {callee:=.value (.func f),args:=xs.toArray,argTypes:=tys}) (hcb:Ac P f) (hev:evs s.fr xs=some svs)
  (hc:∀γ w,Sat w0 ow γ (A++M) w→nmB γ 0=g→Calls P f (svs.map (Sv.val γ)).toArray w fun e w'=>∃i γ1,Q i∧e=.returned ((sv i).val [])∧Sat w (fun b=>∃(k:Nat) (r:Res),A[k]?=some r∧r.has γ k b) γ1 (A1 i++[.abs (fctRep (G i))]) w')
  (hsv:∀i γ,(sv i).val γ=(sv i).val []) (hd:dOk n o.dst) (hbA:∀r∈A,Res.bnd A.length r) (hbA1:∀i,Q i→∀r∈A1 i,Res.bnd A.length r) (hb:s.bnd) (hfr:∀x∈s.fr,Sv.av A.length x.2) (hav:∀r∈M,r.av A.length)
  (he:∀i,Q i→(Bh Gm (A1 i++(M++[.abs (fctRep (G i))]))).take m=(Bh Gm (A++M)).take m) (hin:∀(j:Nat) (r:Res),(Bl m Gm (A++M))[j]?=some r→r=.gone∨(r.bnd 0∧A.length≤j))
  (h:∀i,Q i→C7 P w0 ow n m Gm ops K p (S.put ⟨s.fr,A1 i++(M++[.abs (fctRep (G i))])⟩ o.dst (sv i))):Fm P w0 ow n m Gm ops o p s K:=by
 intro γ a w hfit hml
 have hS:Sat w0 ow γ (A++M) w:=by rw[←hs];exact hfit.sat
 have hbr:∀r∈A++M,Res.bnd (A++M).length r:=by rw[←hs];exact hb.2
 have hpos:0 < A.length:=Ax hg
 obtain⟨p1,p2,_⟩:=hS.holds 0 _ (by rw[List.getElem?_append_left hpos];exact hg)
 unfold Oper.wp
 rw[Io ho rfl hcb (args:=(svs.map (Sv.val γ)).toArray) (by rw[List.map_toArray,Gk hfit hev])]
 simp only[Oper.upon]
 refine (hc γ w hS p2).mono ?_
 rintro e w' ⟨i,γ1,hi,rfl,h1⟩
 obtain⟨c1,hp1⟩:=hg1 i hi
 have hl1:=hlen i hi
 obtain⟨q1,q2,_⟩:=h1.holds 0 _ (by rw[List.getElem?_append_left (by omega)];exact hp1)
 have h0:γ1[0]?=γ[0]?:=by rw[q1,p1,p2,q2]
 obtain⟨γ',hS',hget⟩:=hS.inplace0 h1 (fun b hb=>hb) rfl hl1 (.inl h0) hpos hbr (hbA1 i hi) (fun r hr=>by rw[List.mem_singleton.1 hr];trivial) hav
 have hagr:Agr A.length (A++M).length γ γ':=fun k hk hv=>by
  rw[hget]
  rcases hv with rfl|hv
  ·rw[if_pos hpos,h0]
  ·rw[if_neg (by omega),if_pos hk]
 have hf':=hfit.put (s:=s) (hp':=A1 i++(M++[.abs (fctRep (G i))])) hS' (fun u sv' hu=>by
  have hm:=Fr.get_mem hu
  exact hagr.sv (by rw[←hs];exact hb.1 _ hm) (hfr _ hm)) hd (hsv i γ').symm
 have hhp:(S.put ⟨s.fr,A1 i++(M++[.abs (fctRep (G i))])⟩ o.dst (sv i)).hp=A1 i++(M++[.abs (fctRep (G i))]):=by cases o.dst<;>rfl
 have hlM:(A1 i++(M++[Res.abs (fctRep (G i))])).length=(A++M).length+1:=by simp only[List.length_append,List.length_cons,List.length_nil];omega
 have hmA:m≤(A++M).length:=by rw[←hs];exact hml
 have h2:=Gu p _ _ _ _ (h i hi) hf' (by rw[hhp];omega)
 rw[hhp] at h2
 refine⟨_,hS'.vis (m:=m) (G:=Gm) (by omega),fun x hx=>?_,h2⟩
 rw[hs]
 have hin':∀r∈Bl m Gm (A++M),Res.bnd (Bl m Gm (A++M)).length r:=fun r hr=>by
  obtain⟨j,hj⟩:=List.getElem?_of_mem hr
  rcases hin j r hj with rfl|⟨h3,_⟩
  ·trivial
  ·exact Res.bnd_le (Nat.zero_le _) h3
 have esp:Bl m Gm (A1 i++(M++[Res.abs (fctRep (G i))]))=Bl m Gm (A++M)++H9 1:=by
  unfold Bl H9
  rw[he i hi,hlM,show (A++M).length+1 - m=((A++M).length - m)+1 from by omega,List.append_assoc,List.replicate_append_replicate]
 have hx:Sat w0 ow γ' (Bl m Gm (A1 i++(M++[Res.abs (fctRep (G i))]))) x:=hx
 rw[esp] at hx
 have h3:=hx.frontOf hin'
 have hlm:=Oi m Gm (A++M) hmA
 refine h3.names (by rw[h3.len,hlm];exact hS.len) fun j r hj=>?_
 rcases hin j r hj with rfl|⟨h4,h5⟩
 ·exact .inl rfl
 ·have hjl:j < (A++M).length:=by rw[←hlm];exact Ax hj
  refine .inr ⟨h4,?_⟩
  rw[List.getElem?_take_of_lt (by rw[hlm];exact hjl),hget,if_neg (by omega),if_pos hjl]
theorem Aez (hp:List Res):∀(j:Nat) (r:Res),(Bl 0 [] hp)[j]?=some r→∀a,r=.gone∨(r.bnd 0∧a≤j):=fun j r h a=>by
 rw[Arl] at h
 unfold H9 at h
 rw[List.getElem?_replicate] at h
 split at h
 ·exact .inl (Option.some.inj h).symm
 ·cases h
end
end
section
theorem Ayh:Fx.places.length≤900∧∀g∈Fx.groups,g.ids.length≤1000:=by decide+kernel
section
variable {P:Program} {w0:World} {ow:Nat→Prop} {n:Nat} {s:S}
end
attribute [local irreducible] Ac Ad Ah Au Ao Aj Ai Al
attribute [local irreducible] A9 okV Ak erV Bq cfF tcF isP ofP abF idxN Cg B2 Fx pT0 pT1 pT2 pT3 pT4
def mgT (pl ge:Int) (i n p x:At):List At:=mgL (.v (vU8 6)) (.v (.int .i64 pl)) (.v (.int .i64 0)) (.v (.int .i64 0)) (.v (.int .i64 ge)) (.v (vU64 0)) (List.replicate 32 0) i n p x (.v (.int .i64 0))
theorem Ayi (i n p x:At):(((((((mgA zeroR).set 0 (.v (.int .u8 6))).set 1 (.v (.int .i64 1))).set 4 (.v (.int .i64 2))).set 38 i).set 41 x).set 40 p).set 39 n=mgT 1 2 i n p x:=rfl
theorem Ayj (pl ge:Int) (i n p x:At):(mgT pl ge i n p x).length=43:=K9 rfl
theorem Ae0 {q:At→Prop} (pl ge:Int) (i n p x:At) (h:∀v:Value,v.oneCell'=true→scalar v→q (.v v)):(∀y∈mgT pl ge i n p x,q y)=(q i∧q n∧q p∧q x):=by
 refine propext ⟨fun hx=>⟨hx i ?_,hx n ?_,hx p ?_,hx x ?_⟩,fun⟨h1,h2,h3,h4⟩=>On (fun _=>h _ rfl trivial) (h _ rfl trivial) (h _ rfl trivial) (h _ rfl trivial) (h _ rfl trivial) (h _ rfl trivial) (h _ rfl trivial) h1 h2 h3 h4 (h _ rfl trivial)⟩
 all_goals (unfold mgT mgL;simp)
theorem Ayk (pl ge:Int) (i n p x:At) (k:Nat):(∀y∈mgT pl ge i n p x,y.bnd k)=(i.bnd k∧n.bnd k∧p.bnd k∧x.bnd k):=Ae0 pl ge i n p x fun _ _ _=>trivial
theorem Ae1 (j:Nat) (v:Value) (pl ge:Int) (i n p x:At):(mgT pl ge i n p x).map (At.sub j v)=mgT pl ge (i.sub j v) (n.sub j v) (p.sub j v) (x.sub j v):=by
 unfold mgT mgL
 rw[List.map_append,List.map_append,List.map_map]
 rfl
theorem Ayl (ρ:List Nat) (pl ge:Int) (i n p x:At):(mgT pl ge i n p x).map (At.ren ρ)=mgT pl ge (i.ren ρ) (n.ren ρ) (p.ren ρ) (x.ren ρ):=Oo ..
theorem Aym (c:CfR) (n:Nat):∀x∈cfA c,x.bnd n:=by
 unfold cfA
 simp (maxSteps:=10^6) only[push_cast]
theorem J6 (g:Nat) (r:SmR):∀x∈smB g r,Res.bnd (smB g r).length x:=by
 show ∀x∈smB g r,Res.bnd 3 x
 unfold smB smA
 simp (maxSteps:=10^6) only[↓List.forall_mem_cons,push_cast,Nat.reduceLT]
theorem Ayn (g:Nat) (r:SmR) (Fs:List Fct):∀x∈smB g r++[Res.abs (fctRep Fs)],Res.bnd (smB g r++[Res.abs (fctRep Fs)]).length x:=fun x hx=>by
 rcases List.mem_append.1 hx with hx|hx
 ·exact Res.bnd_le (by rw[List.length_append];omega) (J6 g r x hx)
 ·rw[List.mem_singleton.1 hx]
  trivial
theorem Ae2 {w:World} {B:Nat→Prop} {γ:List Nm} {g:Nat} {r:SmR} (hS:Sat w B γ (smB g r) w) (l:List Sv) (hl:∀x∈l,∀γ γ',x.val γ=x.val γ') (γ':List Nm):(List.map (Sv.val (γ++[Nm.m (.bool true) (fun _=>False)])) (.x (.a (.p 0 0))::l)).toArray=(.pointer (some ⟨g,0,none⟩)::l.map (Sv.val γ')).toArray:=by
 obtain⟨h1,h2,_⟩:=hS.holds 0 (.pin g 120 (.c (smA r))) rfl
 have e:nmB (γ++[Nm.m (.bool true) (fun _=>False)]) 0=g:=by
  rw[←h2]
  unfold nmB
  rw[List.getElem?_append_left (by have:=hS.len;have e:(smB g r).length=3:=rfl;omega)]
 rw[List.map_cons]
 congr 2
 ·show Value.pointer (some ⟨nmB _ 0,0,none⟩)=_
  rw[e]
 ·exact List.map_congr_left fun x hx=>hl x hx _ _
theorem Ayo {r:SmR} {g:Nat} {M:List Res} {w0:World} {B:Nat→Prop} (hk:O5 r.taken) (hbr:∀q∈smB g r++M,Res.bnd (smB g r++M).length q):Ad prog w0 B 31 [.x (.a (.p 0 0))] (smB g r++M) (.x (.a (.o (smB g r++M).length))) (smB g r++M++[.own 3 (.i64 r.s.from_)]):=Ip hbr trivial (Aek hk)
section
variable {w0:World} {hp:List Res}
theorem Ayp {sv:Sv} {cf:CfS} (p:Int) (h:Hc w0 hp sv cf) (hn:Mz cf p=true) (hb1:cf.places.length≤900) (hb2:∀g∈cf.groups,g.ids.length≤1000) (hbr:∀r∈hp,Res.bnd hp.length r) (γ:List Nm) (w:World) (hS:Sat w0 No γ hp w):
  Calls prog 21 (List.map (Sv.val γ) [sv,.x (.a (.v (.int .i64 p)))]).toArray w fun e w'=>∃(x:Nat×SmR×List Fct) (δ:List Nm),(x.2.1.s=Sms.new cf p∧x.2.1.heard=[]∧x.2.1.taken=[]∧SmOk x.2.2 x.2.1)∧e=.returned ((Sv.t [.a (.p hp.length 0),.a (.v .nilIface)]).val (γ++δ))∧Sat w0 No (γ++δ) (hp++(smB x.1 x.2.1++[Res.abs (fctRep x.2.2)]).map (Res.ren (B6 hp.length 4))) w':=by
 obtain⟨a,e1,h1,rfl⟩:=h γ w hS
 have e0:(List.map (Sv.val γ) [sv,.x (.a (.v (.int .i64 p)))]).toArray=#[.agg (cfV a).toArray,.int .i64 p]:=by
  show #[sv.val γ,_]=_
  rw[e1]
  rfl
 rw[e0]
 refine (Axx p h1 hn hb1 (fun g hg=>hb2 g.gr (List.mem_map_of_mem hg))).mono fun e w' ⟨x,γ1,h1,h2,h3⟩=>⟨x,γ1,h1,?_,?_⟩
 ·obtain⟨q1,q2,_⟩:=h3.holds 0 (.pin x.1 120 (.c (smA x.2.1))) rfl
  rw[h2]
  show _=Ending.returned (.tuple #[.pointer (some ⟨nmB (γ++γ1) hp.length,0,none⟩),.nilIface])
  have:nmB (γ++γ1) hp.length=nmB γ1 0:=by
   unfold nmB
   rw[List.getElem?_append_right (by rw[hS.len];exact Nat.le_refl _),hS.len,Nat.sub_self]
  rw[this,q2]
 ·exact hS.back [] (X:=No) (fun b h=>h.elim) h3 hbr (Ayn _ _ _)
end
theorem Ae3 {γ:List Nm} {pl ge:Int} {i n p x i' n' p' x':At} (h1:i.val γ=i'.val γ) (h2:n.val γ=n'.val γ) (h3:p.val γ=p'.val γ) (h4:x.val γ=x'.val γ):(mgT pl ge i n p x).map (At.val γ)=(mgT pl ge i' n' p' x').map (At.val γ):=by
 unfold mgT mgL
 simp only[List.map_append,List.map_cons,List.map_nil,h1,h2,h3,h4]
theorem Xe {w0:World} {ow:Nat→Prop} {γ:List Nm} {hp:List Res} {w:World} (m:Nat) {pl ge:Int} {i n p x:At} (i' n' p' x':At) (hS:Sat w0 ow γ hp w) (hm:hp[m]?=some (.blk 48 (.c (mgT pl ge i n p x)))) (h1:i'.val γ=i.val γ) (h2:n'.val γ=n.val γ) (h3:p'.val γ=p.val γ) (h4:x'.val γ=x.val γ):Sat w0 ow γ (hp.set m (.blk 48 (.c (mgT pl ge i' n' p' x')))) w:=by
 have:=hS.recell (k:=m) (t:=48) (c:=.c (mgT pl ge i n p x)) (c':=.c (mgT pl ge i' n' p' x')) (by rw[hm];rfl) (Ae3 h1 h2 h3 h4)
 rw[hm] at this
 exact this
def tmR (ge:Int) (A1:Option Addr) (c1:Nat) (l:List Int) (A2:Option Addr) (c2:Nat) (A3:Option Addr) (c3:Nat) (A4:Option Addr) (c4:Nat):MgR:={zeroR with k:=6,pl:=1,ge:=ge,ids:=⟨A1,c1,l⟩,ns:=⟨A2,c2,[1,2]⟩,ps:=⟨A3,c3,[(3,2),(5,4)]⟩,xs:=⟨A4,c4,[7]⟩}
theorem Ayq (ge:Int) (A1:Option Addr) (c1:Nat) (l:List Int) (A2:Option Addr) (c2:Nat) (A3:Option Addr) (c3:Nat) (A4:Option Addr) (c4:Nat):mgT 1 ge (.v (.slice A1 l.length c1)) (.v (.slice A2 2 c2)) (.v (.slice A3 2 c3)) (.v (.slice A4 1 c4))=mgA (tmR ge A1 c1 l A2 c2 A3 c3 A4 c4):=rfl
def t9 (g:Nat) (r:SmR) (F1 F:List Fct) (a5 a6 a8 a12:Res) (i n p x j:At):List Res:=[.abs (fctRep F1),.pin g 120 (.c [.v (.int .i64 r.place),.v (.int .i64 r.dim),.v r.spots.val,.o 2,.o 3]),.mp .i64 (iE r.heard),.mp .i64 (mgE r.taken),.abs (fctRep F),a5,a6,.gone,a8,.blk 48 (.c (mgT 1 2 i n p x)),.blk 48 (.c (mgT 1 1 i n p x)),.blk 48 (.c (mgT 1 2 j n p x)),a12]
attribute [local irreducible] mgT
end
section
structure HbR where
 place:Int
 gen:Int
 parent:Int
 above:SlV Int
 under:SlV Int
 next:List (Int×SlV Int)
 ty:TalR
 sm:SmR
 phase:Int
def HbR.s (r:HbR):HbS:=⟨r.place,r.gen,r.parent,r.above.l,r.under.l,Bw SlV.l r.next,r.ty.t,r.sm.s,r.phase⟩
def hbA (r:HbR):List At:=[.v (.int .i64 r.place),.v (.int .i64 r.gen),.v (.int .i64 r.parent),.v r.above.val,.v r.under.val,.o 2,.p 1 0,.p 3 0,.v (.int .i64 r.phase)]
def hbB (g gs:Nat) (r:HbR):List Res:=[.pin g 149 (.c (hbA r)),.blk 170 (.c (tlA r.ty)),.mp .i64 (slE r.next),.pin gs 120 (.c [.v (.int .i64 r.sm.place),.v (.int .i64 r.sm.dim),.v r.sm.spots.val,.o 4,.o 5]),.mp .i64 (iE r.sm.heard),.mp .i64 (mgE r.sm.taken)]
structure HbOk (Fs:List Fct) (r:HbR):Prop where
 above:SlF Fs r.above (Da r.above.l)
 under:SlF Fs r.under (Da r.under.l)
 next:∀p∈r.next,SlF Fs p.2 (Da p.2.l)
 ty:TalOk Fs r.ty
 sm:SmOk Fs r.sm
 few:r.above.l.length≤1000∧r.under.l.length≤900∧∀p∈r.next,p.2.l.length≤900
 fine:SmFine r.sm.s
theorem HbOk.more {Fs Gs:List Fct} {r:HbR} (h:HbOk Fs r) (hg:∀f∈Fs,f∈Gs):HbOk Gs r:=⟨h.above.more hg,h.under.more hg,fun p hp=>(h.next p hp).more hg,h.ty.more hg,h.sm.more hg,h.few,h.fine⟩
theorem Ae4 {α:Type} (a:Nat) (R:List (Int×SlV α)):Res.av a (.mp .i64 (slE R))=True:=eq_true fun p hp=>by
 unfold slE Bw at hp
 obtain⟨q,_,rfl⟩:=List.mem_map.1 hp
 trivial
theorem Ar (g gs:Nat) (r:HbR):∀x∈hbB g gs r,Res.bnd (hbB g gs r).length x:=by
 show ∀x∈hbB g gs r,Res.bnd 6 x
 unfold hbB hbA
 simp (maxSteps:=10^6) only[↓Ae,↓List.forall_mem_cons,push_cast,Nat.reduceLT]
theorem M1 (g gs:Nat) (r:HbR) (Fs:List Fct):∀x∈hbB g gs r++[Res.abs (fctRep Fs)],Res.bnd (hbB g gs r++[Res.abs (fctRep Fs)]).length x:=fun x hx=>by
 rcases List.mem_append.1 hx with hx|hx
 ·exact Res.bnd_le (by rw[List.length_append];omega) (Ar g gs r x hx)
 ·rw[List.mem_singleton.1 hx]
  trivial
theorem Fe {w:World} {B:Nat→Prop} {γ:List Nm} {g gs:Nat} {r:HbR} (hS:Sat w B γ (hbB g gs r) w) (l:List Sv) (hl:∀x∈l,∀γ γ',x.val γ=x.val γ') (γ':List Nm):(List.map (Sv.val (γ++[Nm.m (.bool true) (fun _=>False)])) (.x (.a (.p 0 0))::l)).toArray=(.pointer (some ⟨g,0,none⟩)::l.map (Sv.val γ')).toArray:=by
 obtain⟨h1,h2,_⟩:=hS.holds 0 (.pin g 149 (.c (hbA r))) rfl
 have e:nmB (γ++[Nm.m (.bool true) (fun _=>False)]) 0=g:=by
  rw[←h2]
  unfold nmB
  rw[List.getElem?_append_left (by have:=hS.len;have e:(hbB g gs r).length=6:=rfl;omega)]
 rw[List.map_cons]
 congr 2
 ·show Value.pointer (some ⟨nmB _ 0,0,none⟩)=_
  rw[e]
 ·exact List.map_congr_left fun x hx=>hl x hx _ _
theorem Ae5 {r:SmR} (h:SmFine r.s):O5 r.taken∧r.taken.length≤30:=by
 have e:r.s.taken=Bw MgR.mg r.taken:=rfl
 have hl:r.s.taken.length=r.taken.length:=List.length_map ..
 have hf:=h.few
 refine⟨⟨?_,fun q hq=>?_,by omega⟩,by omega⟩
 ·have:=V2 h.inv
  rw[e] at this
  have e2:(Bw MgR.mg r.taken).map (·.1)=r.taken.map (·.1):=by
   unfold Bw
   rw[List.map_map]
   rfl
  rw[e2] at this
  exact this
 ·have h1:(q.1,q.2.mg)∈r.s.taken:=by
   rw[e]
   exact List.mem_map.2 ⟨q,hq,rfl⟩
  have:=h.key _ h1
  have this:1≤q.1∧q.1 < 16:=this
  omega
theorem Ayr {r:SmR} (h:SmFine r.s) {d:Nat} (hd:r.dim=d):∀t∈r.taken,t.2.xs.l.length=d∧t.2.ns.l.length % 2=0∧0 < t.2.ps.l.length:=fun t ht=>by
 have hm:(t.1,t.2.mg)∈r.s.taken:=List.mem_map.2 ⟨t,ht,rfl⟩
 have km:=K5 (h.inv.ok _ hm).1
 have h1:(t.2.xs.l.length:Int)=r.dim:=km.len
 refine⟨by omega,km.ev,?_⟩
 obtain⟨a,ha⟩:=List.exists_mem_of_ne_nil _ km.some_
 have h3:a∈t.2.ps.l.map (·.1):=km.sub a ha
 have:=List.length_pos_of_mem h3
 rwa [List.length_map] at this
theorem Ays {r:SmR} (ge:Int) {g:Nat} {w:World} {B:Nat→Prop} {γ:List Nm} {Fs:List Fct} (hS:Sat w B γ (smB g r) w) (hw:Known w B Fs) (ok:SmOk Fs r) (hf:SmFine r.s):
  Calls prog 28 #[.pointer (some ⟨g,0,none⟩),.int .i64 ge] w fun e w'=>∃(x:MgR×List Fct) (γ1:List Nm),(x.1.mg=r.s.all ge∧MOk x.2 x.1)∧e=.returned ((Sv.x (.g (mgA x.1))).val [])∧Sat w B γ1 (smB g r++[.abs (fctRep x.2)]) w':=by
 have hdd:r.s.dim=r.dim:=rfl
 have hd:=hf.dim
 rw[hdd] at hd
 obtain⟨d,hdn⟩:∃d:Nat,r.dim=d:=⟨r.dim.toNat,by omega⟩
 obtain⟨k1,k2⟩:=Ae5 hf
 have:=Axp r ge (n:=d) hS hw ok k1 hdn (by omega) (Ayr hf hdn) k2
 rw[Ae2 hS [.x (.a (.v (.int .i64 ge)))] (fun x hx γ γ'=>by rw[List.mem_singleton.1 hx];rfl) γ] at this
 refine this.mono fun e w'' ⟨x,γ1,⟨h1,h4⟩,h2,h3⟩=>⟨x,γ1,⟨h1,⟨h4.s,h4.ids,h4.ns,h4.ps,h4.xs,by rw[h1];exact hf.allFew ge⟩⟩,?_,h3⟩
 rw[h2,Bi,Bi]
attribute [local irreducible] Ac Ad Ah Au Ao Aj Ai Al
attribute [local irreducible] A9 okV Ak erV Bq Tal.can Tal.st
section
variable {r:HbR} {g gs:Nat} {w:World} {B:Nat→Prop} {γ:List Nm} {Fs:List Fct}
set_option maxRecDepth 100000 in
theorem Ayt (hS:Sat w B γ (hbB g gs r) w) (hw:Known w B Fs) (ok:HbOk Fs r):
  Calls prog 137 (List.map (Sv.val (γ++[.m (.bool true) (fun _=>False)])) [.x (.a (.p 0 0))]).toArray w fun e w'=>∃(x:MgR×List Fct) (γ1:List Nm),(x.1.mg=r.s.sums.all r.gen∧MOk x.2 x.1)∧e=.returned ((Sv.x (.g (mgA x.1))).val γ1)∧Sat w B γ1 (hbB g gs r++[.abs (fctRep x.2)]) w':=by
 refine Cy (n:=15) (ι:=MgR×List Fct) (fun x=>x.1.mg=r.s.sums.all r.gen∧MOk x.2 x.1) (fun x=>.x (.g (mgA x.1))) (fun x=>hbB g gs r++[.abs (fctRep x.2)]) func137 rfl ntmps137 [.x (.a (.p 0 0))] (hS.fct0 (Ar g gs r)) (by simp) ?_
 have dz:(mgA zeroR).drop 43=[]:=rfl
 have zb:=fun n=>Bm zeroR n
 simp only[At.bnd] at zb
 unfold hbB hbA
 simp (maxSteps:=10^6) only[Bo,Br,B9,↓Ae,↓List.forall_mem_cons,push_cast,↓reduceIte,reduceCtorEq,Nat.reduceLT,Nat.reduceAdd]
 (repeat (refine And.intro (by first|omega|decide) ?_))
 refine Ha 8 [(0,true),(1,true),(2,true),(3,true),(4,true),(5,true),(6,true),(7,true)] (by kernel_rfl) (by kernel_rfl) ?_
 simp (maxSteps:=10^6) only[undef,push_cast,↓reduceIte,reduceCtorEq,Nat.reduceLT,Nat.reduceAdd]
 refine Gb (s':=⟨[(13,.x (.a (.v (.int .i64 r.gen)))),(9,.x (.a (.p 0 0))),(2,.x (.a (.p 7 0)))],[.pin gs 120 (.c [.v (.int .i64 r.sm.place),.v (.int .i64 r.sm.dim),.v r.sm.spots.val,.o 1,.o 2]),.mp .i64 (iE r.sm.heard),.mp .i64 (mgE r.sm.taken),.pin g 149 (.c [.v (.int .i64 r.place),.v (.int .i64 r.gen),.v (.int .i64 r.parent),.v r.above.val,.v r.under.val,.o 5,.p 4 0,.p 0 0,.v (.int .i64 r.phase)]),.blk 170 (.c (tlA r.ty)),.mp .i64 (slE r.next),.abs (fctRep []),.blk 48 (.c (mgA zeroR))]⟩) (Cn [3,4,5,0,1,2,6,7] (by simp (maxSteps:=10^6) only[rn,↓Ae,↓Aw,↓List.forall_mem_cons,↓Ag,↓Ay,push_cast,↓reduceIte,reduceCtorEq,Nat.reduceEqDiff,Nat.reduceLT,Nat.reduceAdd])) ?_
 refine C9 (ι:=MgR×List Fct) (A:=smB gs r.sm) (M:=[.pin g 149 (.c [.v (.int .i64 r.place),.v (.int .i64 r.gen),.v (.int .i64 r.parent),.v r.above.val,.v r.under.val,.o 5,.p 4 0,.p 0 0,.v (.int .i64 r.phase)]),.blk 170 (.c (tlA r.ty)),.mp .i64 (slE r.next),.abs (fctRep []),.blk 48 (.c (mgA zeroR))]) (g:=gs) (t:=120) (c:=.c (smA r.sm)) (l:=[]) 3 (fun x=>x.1.mg=r.s.sums.all r.gen∧MOk x.2 x.1) (fun x=>.x (.g (mgA x.1))) (fun _=>smB gs r.sm) (fun x=>x.2) rfl rfl rfl (fun x _=>⟨_,rfl⟩) (fun x _=>rfl) rfl An8 rfl (fun γ' w' hS' hg=>?_) (fun x γ=>by rw[Bi,Bi]) (Aa rfl) (J6 gs r.sm) (fun x _=>J6 gs r.sm) (by simp (maxSteps:=10^6) only[↓Ae,↓List.forall_mem_cons,↓Ag,push_cast,Nat.reduceLT,Nat.reduceAdd]) (by
  show ∀x∈_,Sv.av 3 _
  simp (maxSteps:=10^6) only[↓List.forall_mem_cons,push_cast,reduceCtorEq,Nat.reduceLeDiff]) (by
  show ∀x∈_,Res.av 3 _
  simp (maxSteps:=10^6) only[↓Adr,↓Ae4,↓List.forall_mem_cons,↓Ck,push_cast,reduceCtorEq,Nat.reduceLeDiff]) ?_
 ·have hk:=D3 (A:=smB gs r.sm) hS' hw
  have:=Ays r.gen (hS'.frontA (J6 gs r.sm)) hk ok.sm ok.fine
  show Calls _ _ #[.pointer (some ⟨nmB γ' 0,0,none⟩),.int .i64 r.gen] w' _
  rw[hg]
  exact this
 rintro⟨x,J⟩ ⟨x1,x2⟩
 dsimp only at x1 x2
 have gx:=Bd x2.s
 unfold smB smA
 simp (maxSteps:=10^6) only[gx,B0,undef,↓mgA_one,push_cast,↓reduceIte,Nat.reduceEqDiff,Nat.reduceLT,Nat.reduceAdd]
 refine⟨(x,J),⟨x1,x2⟩,A6 [3,4,5,0,1,2,6] ?_⟩
 simp (maxSteps:=10^6) only[rn,↓Ae,↓Aw,↓List.forall_mem_cons,↓A8,↓La,push_cast,↓reduceIte,reduceCtorEq,Nat.reduceEqDiff,Nat.reduceLT,Nat.reduceAdd]
end
end
end Go.Proofs.YtedaafmfjhjfmaaGreatDoor
