import Derived.Test.YtedaafmfjhjfmaaGreatDoorPuA
/- Law 29: sure, walked. -/
namespace Go.Proofs.YtedaafmfjhjfmaaGreatDoor
open Go.RowKit
set_option linter.unusedSimpArgs false
set_option linter.unusedVariables false
theorem A5s:Sms.new Hy 0=pT0:=rfl
theorem A5t:pT0.take (D4 [3] 2)=pT1:=rfl
theorem A5u:pT1.take (D4 [3,5] 2)=pT2:=rfl
theorem A5v:pT2.take (D4 [3,5] 2)=pT3:=rfl
theorem A5w:pT3.take (D4 [3,5] 1)=pT4:=rfl
theorem A5x {r:SmR} {k:Int} {a:MgS} (h:r.s.taken=[(k,a)]):∃t,r.taken=[(k,t)]∧t.mg=a:=by
 have h:r.taken.map (fun p=>(p.1,MgR.mg p.2))=[(k,a)]:=h
 rw[List.map_eq_cons_iff] at h
 obtain⟨x,t,h1,h2,h3⟩:=h
 rw[List.map_eq_nil_iff] at h3
 injection h2 with h4 h5
 exact⟨x.2,by rw[h1,h3,←h4],h5⟩
theorem Aby {w0:World} {ow:Nat→Prop} {hp:List Res} {s1 s2:Sv} {a b:List Int} (hm:a.length≤100000) (h1:Bi w0 ow hp s1 (a.map (Value.int .i64))) (h2:Bi w0 ow hp s2 (b.map (Value.int .i64))):Ae Tryz.prog w0 ow 29 [s1,s2] hp (.x (.a (.v (.bool (decide (a=b)))))) hp:=A8 fun γ w hS=>by
 obtain⟨A,c,e1,b1,q1⟩:=h1 γ w hS
 obtain⟨A2,c2,e2,b2,q2⟩:=h2 γ w hS
 rw[List.length_map] at e1 e2
 show Calls _ _ #[s1.val γ,s2.val γ] w _
 rw[e1,e2]
 exact A5j a b A c A2 c2 w hm q1 q2
theorem Abz:Hy.places.length≤900∧∀g∈Hy.groups,g.ids.length≤1000:=by decide+kernel
section
variable {P:Program} {w0:World} {ow:Nat→Prop} {n:Nat} {s:S}
theorem A5y {id:Nat} {ops:List Oper} {K:Exit→S→Prop} {e:TypeId} {m:Nat} {c:Cont} {vs:List Value} {l:List Fct} (j k n':Nat) (hj:s.hp[j]?=some (.onn e m c)) (hv:∀γ,c.vals γ=vs) (hn:vs.length=n'*m) (hk:s.hp[k]?=some (.abs (Aa l))) (hjk:j≠k)
  (h:∀A cap,Ak P w0 ow n id ops (Gp j k (.slice A n' cap) (l++[⟨.slice A n' cap,n',vs⟩]) s) K):Ak P w0 ow n id ops s K:=fun a w hf=>by
 obtain⟨A,cap,h3⟩:=Aag hj hv hn hk hjk hf
 exact h A cap a w h3
theorem Rk {id:Nat} {ops:List Oper} {K:Exit→S→Prop} (j k nn:Nat) (hp2:Value→List Res) {e:TypeId} {c:Cont} {vs:List Value} {l:List Fct} (hj:s.hp[j]?=some (.blk e c)) (hv:∀γ,c.vals γ=vs) (hl:vs.length=nn) (h2:∀γ v w,At.val γ (.s j 0 nn nn)=v→Sat w0 ow γ s.hp w→Sat w0 ow γ (hp2 v) w) (hj2:∀v,(hp2 v)[j]?=some (.blk e c)) (hk:∀v,(hp2 v)[k]?=some (.abs (Aa l))) (hjk:j≠k) (hmax:nn≤maxLen)
  (h:∀A,Ak P w0 ow n id ops ⟨s.fr,((hp2 (.slice A nn nn)).set j .gone).set k (.abs (Aa (l++[⟨.slice A nn nn,nn,vs⟩])))⟩ K):Ak P w0 ow n id ops s K:=fun a w hf=>by
 obtain⟨γ,hf⟩:=hf
 have h0:=hf.sat
 have hns:=h0.rdBlk hj 0
 rw[hv,List.drop_zero] at hns
 have hrc:=h2 γ (.slice (some ⟨nmB γ j,0,none⟩) nn nn) w rfl h0
 obtain⟨γ',eB,eS,h3⟩:=hrc.absorbs (j:=j) (k:=k) (l:=l) (fs:=[⟨.slice (some ⟨nmB γ j,0,none⟩) nn nn,nn,vs⟩]) (r:=.blk e c) (hj2 _) (hk _) hjk (X:=fun b=>some (nmB γ j)=some b) (fun b hb=>hb) fun f hf=>by
   rw[List.mem_singleton.1 hf]
   refine⟨some ⟨nmB γ j,0,none⟩,nn,rfl,Nat.le_refl _,hmax,fun hp=>⟨nmB γ j,0,rfl,rfl,fun q u hu=>?_⟩⟩
   obtain⟨b,off,e1,_,e2⟩:=hns hp
   cases e1
   exact e2 q u hu
 refine h (some ⟨nmB γ j,0,none⟩) a w ⟨γ',h3,hf.defers,hf.size,fun u sv hu=>?_⟩
 rw[Mh eB eS]
 exact hf.at_ u sv hu
end
attribute [local irreducible] Ad Ae Ah Ar Ak Am Ai Al
attribute [local irreducible] B1 okV Ay erV Cj cfF tcF isP ofP abF C3 B2 Ca Hy pT0 pT1 pT2 pT3 pT4
def mgT (pl ge:Int) (i n p x:At):List At:=mgL (.v (vU8 6)) (.v (.int .i64 pl)) (.v (.int .i64 0)) (.v (.int .i64 0)) (.v (.int .i64 ge)) (.v (vU64 0)) (List.replicate 32 0) i n p x (.v (.int .i64 0))
theorem A5z (i n p x:At):(((((((mgA zeroR).set 0 (.v (.int .u8 6))).set 1 (.v (.int .i64 1))).set 4 (.v (.int .i64 2))).set 38 i).set 41 x).set 40 p).set 39 n=mgT 1 2 i n p x:=rfl
theorem A50 (pl ge:Int) (i n p x:At):(mgT pl ge i n p x).length=43:=La rfl
theorem Ab0 {q:At→Prop} (pl ge:Int) (i n p x:At) (h:∀v:Value,v.oneCell'=true→scalar v→q (.v v)):(∀y∈mgT pl ge i n p x,q y)=(q i∧q n∧q p∧q x):=by
 refine propext ⟨fun hx=>⟨hx i ?_,hx n ?_,hx p ?_,hx x ?_⟩,fun⟨h1,h2,h3,h4⟩=>P8 (fun _=>h _ rfl trivial) (h _ rfl trivial) (h _ rfl trivial) (h _ rfl trivial) (h _ rfl trivial) (h _ rfl trivial) (h _ rfl trivial) h1 h2 h3 h4 (h _ rfl trivial)⟩
 all_goals (unfold mgT mgL;simp)
theorem A51 (pl ge:Int) (i n p x:At) (k:Nat):(∀y∈mgT pl ge i n p x,y.bnd k)=(i.bnd k∧n.bnd k∧p.bnd k∧x.bnd k):=Ab0 pl ge i n p x fun _ _ _=>trivial
theorem A52 (pl ge:Int) (i n p x:At) (hp:List Res):(∀y∈mgT pl ge i n p x,y.one hp)=(i.one hp∧n.one hp∧p.one hp∧x.one hp):=Ab0 pl ge i n p x fun _ h _=>h
theorem Ab1 (j:Nat) (v:Value) (pl ge:Int) (i n p x:At):(mgT pl ge i n p x).map (At.sub j v)=mgT pl ge (i.sub j v) (n.sub j v) (p.sub j v) (x.sub j v):=by
 unfold mgT mgL
 rw[List.map_append,List.map_append,List.map_map]
 rfl
theorem Ab2 (pl ge:Int) (i n p x y:At):(mgT pl ge i n p x).set 38 y=mgT pl ge y n p x∧(mgT pl ge i n p x).set 4 (.v (.int .i64 1))=mgT pl 1 i n p x:=by
 have:=Hp (.v (vU8 6)) (.v (.int .i64 pl)) (.v (.int .i64 0)) (.v (.int .i64 0)) (.v (.int .i64 ge)) (.v (vU64 0)) (List.replicate 32 0) i n p x (.v (.int .i64 0)) y (by simp)
 have h2:=Hp (.v (vU8 6)) (.v (.int .i64 pl)) (.v (.int .i64 0)) (.v (.int .i64 0)) (.v (.int .i64 ge)) (.v (vU64 0)) (List.replicate 32 0) i n p x (.v (.int .i64 0)) (.v (.int .i64 1)) (by simp)
 exact⟨this.2.2.2.2.2.2.1,h2.2.2.2.2.1⟩
theorem A53 (c:CfR) (n:Nat):∀x∈cfA c,x.bnd n:=by
 unfold cfA
 simp (maxSteps:=10^6) only[push_cast]
theorem By (g:Nat) (r:SmR):∀x∈smB g r,Res.bnd (smB g r).length x:=by
 show ∀x∈smB g r,Res.bnd 3 x
 unfold smB smA
 simp (maxSteps:=10^6) only[↓List.forall_mem_cons,push_cast,Nat.reduceLT]
theorem A54 (g:Nat) (r:SmR) (Fs:List Fct):∀x∈smB g r++[Res.abs (Aa Fs)],Res.bnd (smB g r++[Res.abs (Aa Fs)]).length x:=fun x hx=>by
 rcases List.mem_append.1 hx with hx|hx
 ·exact Res.bnd_le (by rw[List.length_append];omega) (By g r x hx)
 ·rw[List.mem_singleton.1 hx]
  trivial
theorem Ll {w:World} {B:Nat→Prop} {γ:List Nm} {g:Nat} {r:SmR} (hS:Sat w B γ (smB g r) w) (l:List Sv) (hl:∀x∈l,∀γ γ',x.val γ=x.val γ') (γ':List Nm):(List.map (Sv.val (γ++[Nm.m (.bool true) (fun _=>False)])) (.x (.a (.p 0 0))::l)).toArray=(.pointer (some ⟨g,0,none⟩)::l.map (Sv.val γ')).toArray:=by
 obtain⟨h1,h2,_⟩:=hS.holds 0 (.pin g 120 (.c (smA r))) rfl
 have e:nmB (γ++[Nm.m (.bool true) (fun _=>False)]) 0=g:=by
  rw[←h2]
  unfold nmB
  rw[List.getElem?_append_left (by have:=hS.len;have e:(smB g r).length=3:=rfl;omega)]
 rw[List.map_cons]
 congr 2
 ·show Value.pointer (some ⟨nmB _ 0,0,none⟩)=_
  rw[e]
 ·exact List.map_congr_left fun x hx=>hl x hx _ _
theorem Rl {g:Nat} {r:SmR} {M:List Res} (hM:∀q∈M,q.bnd 0):∀(j:Nat) (q:Res),(Bb [0,1,2] (smB g r++M))[j]?=some q→q=.gone∨(q.bnd 0∧(smB g r).length≤j):=fun j q h=>by
 have e:Bb [0,1,2] (smB g r++M)=[.gone,.gone,.gone]++M:=rfl
 rw[e] at h
 match j,h with
 |0,h=>exact .inl (Option.some.inj h).symm
 |1,h=>exact .inl (Option.some.inj h).symm
 |2,h=>exact .inl (Option.some.inj h).symm
 |j+3,h=>exact .inr ⟨hM q (List.mem_of_getElem? h),by show 3≤j+3;omega⟩
theorem Vb {r:SmR} {g:Nat} {M:List Res} {w0:World} {B:Nat→Prop} (hk:J9 r.taken) (hbr:∀q∈smB g r++M,Res.bnd (smB g r++M).length q):Ae Tryz.prog w0 B 31 [.x (.a (.p 0 0))] (smB g r++M) (.x (.a (.o (smB g r++M).length))) (smB g r++M++[.own 3 (.i64 r.s.from_)]):=Id hbr trivial (Abg hk)
section
variable {w0:World} {hp:List Res}
theorem Vc {sv:Sv} {cf:CfS} (p:Int) (h:Iv w0 hp sv cf) (hn:F7 cf p=true) (hb1:cf.places.length≤900) (hb2:∀g∈cf.groups,g.ids.length≤1000) (hbr:∀r∈hp,Res.bnd hp.length r) (γ:List Nm) (w:World) (hS:Sat w0 No γ hp w):
  Calls Tryz.prog 21 (List.map (Sv.val γ) [sv,.x (.a (.v (.int .i64 p)))]).toArray w fun e w'=>∃(x:Nat×SmR×List Fct) (δ:List Nm),(x.2.1.s=Sms.new cf p∧x.2.1.heard=[]∧x.2.1.taken=[]∧SmOk x.2.2 x.2.1)∧e=.returned ((Sv.t [.a (.p hp.length 0),.a (.v .nilIface)]).val (γ++δ))∧Sat w0 No (γ++δ) (hp++(smB x.1 x.2.1++[Res.abs (Aa x.2.2)]).map (Res.ren (Bw hp.length 4))) w':=by
 obtain⟨a,e1,h1,rfl⟩:=h γ w hS
 have e0:(List.map (Sv.val γ) [sv,.x (.a (.v (.int .i64 p)))]).toArray=#[.agg (cfV a).toArray,.int .i64 p]:=by
  show #[sv.val γ,_]=_
  rw[e1]
  rfl
 rw[e0]
 refine (A44 p h1 hn hb1 (fun g hg=>hb2 g.gr (List.mem_map_of_mem hg))).mono fun e w' ⟨x,γ1,h1,h2,h3⟩=>⟨x,γ1,h1,?_,?_⟩
 ·obtain⟨q1,q2,_⟩:=h3.holds 0 (.pin x.1 120 (.c (smA x.2.1))) rfl
  rw[h2]
  show _=Ending.returned (.tuple #[.pointer (some ⟨nmB (γ++γ1) hp.length,0,none⟩),.nilIface])
  have:nmB (γ++γ1) hp.length=nmB γ1 0:=by
   unfold nmB
   rw[List.getElem?_append_right (by rw[hS.len];exact Nat.le_refl _),hS.len,Nat.sub_self]
  rw[this,q2]
 ·exact hS.back [] (X:=No) (fun b h=>h.elim) h3 hbr (A54 _ _ _)
end
theorem A55 {γ:List Nm} {pl ge:Int} {i n p x i' n' p' x':At} (h1:i.val γ=i'.val γ) (h2:n.val γ=n'.val γ) (h3:p.val γ=p'.val γ) (h4:x.val γ=x'.val γ):(mgT pl ge i n p x).map (At.val γ)=(mgT pl ge i' n' p' x').map (At.val γ):=by
 unfold mgT mgL
 simp only[List.map_append,List.map_cons,List.map_nil,h1,h2,h3,h4]
theorem Vd {w0:World} {ow:Nat→Prop} {γ:List Nm} {hp:List Res} {w:World} (m:Nat) {pl ge:Int} {i n p x:At} (i' n' p' x':At) (hS:Sat w0 ow γ hp w) (hm:hp[m]?=some (.blk 48 (.c (mgT pl ge i n p x)))) (h1:i'.val γ=i.val γ) (h2:n'.val γ=n.val γ) (h3:p'.val γ=p.val γ) (h4:x'.val γ=x.val γ):Sat w0 ow γ (hp.set m (.blk 48 (.c (mgT pl ge i' n' p' x')))) w:=by
 have:=hS.recell (k:=m) (t:=48) (c:=.c (mgT pl ge i n p x)) (c':=.c (mgT pl ge i' n' p' x')) (by rw[hm];rfl) (A55 h1 h2 h3 h4)
 rw[hm] at this
 exact this
def tmR (ge:Int) (A1:Option Addr) (c1:Nat) (l:List Int) (A2:Option Addr) (c2:Nat) (A3:Option Addr) (c3:Nat) (A4:Option Addr) (c4:Nat):MgR:={zeroR with k:=6,pl:=1,ge:=ge,ids:=⟨A1,c1,l⟩,ns:=⟨A2,c2,[1,2]⟩,ps:=⟨A3,c3,[(3,2),(5,4)]⟩,xs:=⟨A4,c4,[7]⟩}
theorem Ve (ge:Int) (A1:Option Addr) (c1:Nat) (l:List Int) (A2:Option Addr) (c2:Nat) (A3:Option Addr) (c3:Nat) (A4:Option Addr) (c4:Nat):mgT 1 ge (.v (.slice A1 l.length c1)) (.v (.slice A2 2 c2)) (.v (.slice A3 2 c3)) (.v (.slice A4 1 c4))=mgA (tmR ge A1 c1 l A2 c2 A3 c3 A4 c4):=rfl
def t9 (g:Nat) (r:SmR) (F1 F:List Fct) (a5 a6 a8 a12:Res) (i n p x j:At):List Res:=[.abs (Aa F1),.pin g 120 (.c [.v (.int .i64 r.place),.v (.int .i64 r.dim),.v r.spots.val,.o 2,.o 3]),.mp .i64 (iE r.heard),.mp .i64 (mgE r.taken),.abs (Aa F),a5,a6,.gone,a8,.blk 48 (.c (mgT 1 2 i n p x)),.blk 48 (.c (mgT 1 1 i n p x)),.blk 48 (.c (mgT 1 2 j n p x)),a12]
theorem Rm {w0:World} {ow:Nat→Prop} {γ:List Nm} {w:World} {g:Nat} {r:SmR} {F1 F:List Fct} {a5 a6 a8 a12:Res} {i n p x j:At} (i' n' p' x' j':At) (hS:Sat w0 ow γ (t9 g r F1 F a5 a6 a8 a12 i n p x j) w) (h1:i'.val γ=i.val γ) (h2:n'.val γ=n.val γ) (h3:p'.val γ=p.val γ) (h4:x'.val γ=x.val γ) (h5:j'.val γ=j.val γ):Sat w0 ow γ (t9 g r F1 F a5 a6 a8 a12 i' n' p' x' j') w:=
 Vd 11 j' n' p' x' (Vd 10 i' n' p' x' (Vd 9 i' n' p' x' hS rfl h1 h2 h3 h4) rfl h1 h2 h3 h4) rfl h5 h2 h3 h4
attribute [local irreducible] mgT
set_option maxRecDepth 100000 in
set_option maxHeartbeats 4000000 in
theorem Ab3 (w:World) (hgd:Handle w):Calls Tryz.prog 20 #[] w fun e w'=>e=.returned (.bool true)∧Below w.heap.size w w':=by
 refine Ba (n:=94) Tryz.func20 rfl Tryz.ntmps20 [] (by simp) (.x (.a (.v (.bool true)))) (fun _=>rfl) ?_
 simp (maxSteps:=10^6) only[push_cast,↓reduceIte,Nat.reduceLT]
 (repeat (refine And.intro (by first|omega|decide) ?_))
 refine Ys (by simp (maxSteps:=10^6) only[push_cast]) ?_
 refine J4 (ι:=CfR×List Fct) (fun x=>x.1.cf=Hy∧CfFk x.2 x.1) (fun x=>.x (.g (cfA x.1))) (fun x=>x.2) 0 rfl rfl Av4 rfl (fun γ' w' hS'=>A48 w') (fun _ _=>rfl) (Af rfl) (by simp (maxSteps:=10^6) only[push_cast]) ?_
 rintro⟨c1,F1⟩ ⟨e1,k1⟩
 dsimp only at e1 k1
 simp (maxSteps:=10^6) only[push_cast,↓reduceIte]
 refine Un (ι:=Nat×SmR×List Fct) (fun x=>x.2.1.s=Sms.new Hy 0∧x.2.1.heard=[]∧x.2.1.taken=[]∧SmOk x.2.2 x.2.1) (fun _=>.t [.a (.p 1 0),.a (.v .nilIface)]) (fun x=>[.abs (Aa F1)]++(smB x.1 x.2.1++[Res.abs (Aa x.2.2)]).map (Res.ren (Bw 1 4))) rfl Mb rfl (fun γ' w' hS'=>Vc (hp:=[.abs (Aa F1)]) 0 (by rw[←e1];exact A47 (k:=0) rfl k1) A45 Abz.1 Abz.2 (fun r hr=>by rw[List.mem_singleton.1 hr];trivial) γ' w' hS') (Af rfl) (by simp (maxSteps:=10^6) only[push_cast];exact A53 c1 _) ?_
 rintro⟨g,r,F2⟩ ⟨s1,s2,s3,s4⟩
 dsimp only at s1 s2 s3 s4
 unfold smB smA cfA
 have dz:(mgA zeroR).drop 43=[]:=rfl
 have zb:=fun n=>Cs zeroR n
 simp only[At.bnd] at zb
 have t4:∀i n p x,(mgT 1 2 i n p x).set 4 (.v (.int .i64 1))=mgT 1 1 i n p x:=fun i n p x=>(Ab2 1 2 i n p x i).2
 have t38:∀i n p x y,(mgT 1 2 i n p x).set 38 y=mgT 1 2 y n p x:=fun i n p x y=>(Ab2 1 2 i n p x y).1
 simp (maxSteps:=10^6) only[t4,t38,Bw,rn,B6,B9,Ck,Cq,undef,↓A51,↓A52,A50,A5z,↓List.forall_mem_cons,push_cast,↓reduceIte,reduceCtorEq,Nat.reduceEqDiff,Nat.reduceLT,Nat.reduceLeDiff,Nat.reduceAdd,Nat.reduceMul]
 (repeat (refine And.intro (by first|omega|decide) ?_))
 refine Ii (1::2::3::4::5::47::48::49::52::53::56::57::58::61::62::63::66::67::68::71::72::73::76::77::78::79::82::83::84::85::86::89::90::91::92::[]) ?_
 simp (maxSteps:=10^6) only[push_cast,↓reduceIte,reduceCtorEq,Nat.reduceEqDiff]
 refine A5y 7 4 2 (vs:=[.int .i64 3,.int .u64 2,.int .i64 5,.int .u64 4]) rfl (fun _=>rfl) rfl rfl (by decide) fun A3 c3=>?_
 simp (maxSteps:=10^6) only[Gp,Ij,Res.sub,Cont.sub,Sv.sub,Sc.sub,At.sub,Qn,Qo,Ab1,Ab1,push_cast,↓reduceIte,Nat.reduceEqDiff]
 obtain⟨P3,hP3⟩:∃v:At,v=.v (.slice A3 2 c3):=⟨_,rfl⟩
 have hp3:∀γ γ',At.val γ P3=At.val γ' P3:=fun γ γ'=>by rw[hP3];rfl
 refine Rk 5 4 2 (fun v=>t9 g r F1 (F2++[(⟨.slice A3 2 c3,2,[.int .i64 3,.int .u64 2,.int .i64 5,.int .u64 4]⟩:Fct)]) (.blk 3 (.i64 [3,5])) (.blk 111 (.u32 [7])) (.blk 41 (.u64 [1,2])) (.blk 3 (.i64 [3])) (.v v) (.s 8 0 2 2) (.v (.slice A3 2 c3)) (.s 6 0 1 1) (.s 12 0 1 1)) (vs:=[.int .i64 3,.int .i64 5]) rfl (fun _=>rfl) rfl (fun γ v w hv hS=>Rm (.v v) _ _ _ _ hS hv.symm rfl rfl rfl rfl) (fun _=>rfl) (fun _=>rfl) (by decide) (by unfold maxLen;omega) fun A1=>?_
 simp (maxSteps:=10^6) only[t9,push_cast]
 refine Rk 6 4 1 (fun v=>t9 g r F1 (F2++[(⟨.slice A3 2 c3,2,[.int .i64 3,.int .u64 2,.int .i64 5,.int .u64 4]⟩:Fct)]++[(⟨.slice A1 2 2,2,[.int .i64 3,.int .i64 5]⟩:Fct)]) .gone (.blk 111 (.u32 [7])) (.blk 41 (.u64 [1,2])) (.blk 3 (.i64 [3])) (.v (.slice A1 2 2)) (.s 8 0 2 2) (.v (.slice A3 2 c3)) (.v v) (.s 12 0 1 1)) (vs:=[.int .u32 7]) rfl (fun _=>rfl) rfl (fun γ v w hv hS=>Rm _ _ _ (.v v) _ hS rfl rfl rfl hv.symm rfl) (fun _=>rfl) (fun _=>rfl) (by decide) (by unfold maxLen;omega) fun A4=>?_
 simp (maxSteps:=10^6) only[t9,push_cast]
 refine Rk 8 4 2 (fun v=>t9 g r F1 (F2++[(⟨.slice A3 2 c3,2,[.int .i64 3,.int .u64 2,.int .i64 5,.int .u64 4]⟩:Fct)]++[(⟨.slice A1 2 2,2,[.int .i64 3,.int .i64 5]⟩:Fct)]++[(⟨.slice A4 1 1,1,[.int .u32 7]⟩:Fct)]) .gone .gone (.blk 41 (.u64 [1,2])) (.blk 3 (.i64 [3])) (.v (.slice A1 2 2)) (.v v) (.v (.slice A3 2 c3)) (.v (.slice A4 1 1)) (.s 12 0 1 1)) (vs:=[.int .u64 1,.int .u64 2]) rfl (fun _=>rfl) rfl (fun γ v w hv hS=>Rm _ (.v v) _ _ _ hS rfl hv.symm rfl rfl rfl) (fun _=>rfl) (fun _=>rfl) (by decide) (by unfold maxLen;omega) fun A2=>?_
 simp (maxSteps:=10^6) only[t9,push_cast]
 refine Rk 12 4 1 (fun v=>t9 g r F1 (F2++[(⟨.slice A3 2 c3,2,[.int .i64 3,.int .u64 2,.int .i64 5,.int .u64 4]⟩:Fct)]++[(⟨.slice A1 2 2,2,[.int .i64 3,.int .i64 5]⟩:Fct)]++[(⟨.slice A4 1 1,1,[.int .u32 7]⟩:Fct)]++[(⟨.slice A2 2 2,2,[.int .u64 1,.int .u64 2]⟩:Fct)]) .gone .gone .gone (.blk 3 (.i64 [3])) (.v (.slice A1 2 2)) (.v (.slice A2 2 2)) (.v (.slice A3 2 c3)) (.v (.slice A4 1 1)) (.v v)) (vs:=[.int .i64 3]) rfl (fun _=>rfl) rfl (fun γ v w hv hS=>Rm _ _ _ _ (.v v) hS rfl rfl rfl rfl hv.symm) (fun _=>rfl) (fun _=>rfl) (by decide) (by unfold maxLen;omega) fun A5=>?_
 simp (maxSteps:=10^6) only[t9,push_cast]
 obtain⟨G0,eG0⟩:∃G0,G0=F2++[⟨.slice A3 2 c3,2,[.int .i64 3,.int .u64 2,.int .i64 5,.int .u64 4]⟩]++[⟨.slice A1 2 2,2,[.int .i64 3,.int .i64 5]⟩]++[⟨.slice A4 1 1,1,[.int .u32 7]⟩]++[⟨.slice A2 2 2,2,[.int .u64 1,.int .u64 2]⟩]++[(⟨.slice A5 1 1,1,[.int .i64 3]⟩:Fct)]:=⟨_,rfl⟩
 rw[←eG0]
 have ok0:SmOk G0 r:=by rw[eG0];exact s4.more fun f hf=>by simp only[List.mem_append];exact .inl (.inl (.inl (.inl (.inl hf))))
 have ff3:(⟨.slice A3 2 c3,2,[.int .i64 3,.int .u64 2,.int .i64 5,.int .u64 4]⟩:Fct)∈G0:=by rw[eG0];simp
 have ff1:(⟨.slice A1 2 2,2,[.int .i64 3,.int .i64 5]⟩:Fct)∈G0:=by rw[eG0];simp
 have ff4:(⟨.slice A4 1 1,1,[.int .u32 7]⟩:Fct)∈G0:=by rw[eG0];simp
 have ff2:(⟨.slice A2 2 2,2,[.int .u64 1,.int .u64 2]⟩:Fct)∈G0:=by rw[eG0];simp
 have ff5:(⟨.slice A5 1 1,1,[.int .i64 3]⟩:Fct)∈G0:=by rw[eG0];simp
 clear eG0
 have dm:=Ve 2 A1 2 [3,5] A2 2 A3 c3 A4 1
 have dn:=Ve 1 A1 2 [3,5] A2 2 A3 c3 A4 1
 have do_:=Ve 2 A5 1 [3] A2 2 A3 c3 A4 1
 have okM:∀ge,MOk G0 (tmR ge A1 2 [3,5] A2 2 A3 c3 A4 1):=fun ge=>⟨rfl,.inr ff1,.inr ff2,.inr ff3,.inr ff4,⟨rfl,by show 2≤1000;omega,by show 2≤1000;omega,by show 2≤1000;omega,by show 1≤1000;omega⟩⟩
 have okO:MOk G0 (tmR 2 A5 1 [3] A2 2 A3 c3 A4 1):=⟨rfl,.inr ff5,.inr ff2,.inr ff3,.inr ff4,⟨rfl,by show 1≤1000;omega,by show 2≤1000;omega,by show 2≤1000;omega,by show 1≤1000;omega⟩⟩
 obtain⟨m,hm⟩:∃m,m=tmR 2 A1 2 [3,5] A2 2 A3 c3 A4 1:=⟨_,rfl⟩
 obtain⟨n,hn⟩:∃n,n=tmR 1 A1 2 [3,5] A2 2 A3 c3 A4 1:=⟨_,rfl⟩
 obtain⟨o,ho⟩:∃o,o=tmR 2 A5 1 [3] A2 2 A3 c3 A4 1:=⟨_,rfl⟩
 rw[←hm] at dm
 rw[←hn] at dn
 rw[←ho] at do_ okO
 have dm:mgT 1 2 (.v (.slice A1 2 2)) (.v (.slice A2 2 2)) (.v (.slice A3 2 c3)) (.v (.slice A4 1 1))=mgA m:=dm
 have dn:mgT 1 1 (.v (.slice A1 2 2)) (.v (.slice A2 2 2)) (.v (.slice A3 2 c3)) (.v (.slice A4 1 1))=mgA n:=dn
 have do_:mgT 1 2 (.v (.slice A5 1 1)) (.v (.slice A2 2 2)) (.v (.slice A3 2 c3)) (.v (.slice A4 1 1))=mgA o:=do_
 have okm:MOk G0 m:=by rw[hm];exact okM 2
 have okn:MOk G0 n:=by rw[hn];exact okM 1
 have em:m.mg=D4 [3,5] 2:=by rw[hm];rfl
 have en:n.mg=D4 [3,5] 1:=by rw[hn];rfl
 have eo:o.mg=D4 [3] 2:=by rw[ho];rfl
 clear hm hn ho okM
 rw[dm,dn,do_]
 clear dm dn do_ ff1 ff2 ff3 ff4 ff5
 refine A0r (s':=⟨[(1,.x (.a (.p 0 0))),(2,.x (.a (.v .nilIface))),(3,.x (.a (.p 4 0))),(4,.x (.a (.p 5 0))),(5,.x (.a (.p 6 0)))],[.pin g 120 (.c [.v (.int .i64 r.place),.v (.int .i64 r.dim),.v r.spots.val,.o 1,.o 2]),.mp .i64 (iE r.heard),.mp .i64 (mgE r.taken),.abs (Aa G0),.blk 48 (.c (mgA m)),.blk 48 (.c (mgA n)),.blk 48 (.c (mgA o))]⟩) (Fc [1,2,3,4,9,10,11] (by simp (maxSteps:=10^6) only[rn,↓List.forall_mem_cons,↓Ao,↓A7,push_cast,↓reduceIte,Nat.reduceEqDiff,Nat.reduceLT,Nat.reduceAdd])) ?_
 refine Ag5 [0,1,2] [(0,true),(1,true),(3,true),(4,true),(6,true),(7,true),(9,true),(10,true),(2,false),(5,false),(8,false),(11,false),(12,true),(13,true),(14,true),(15,true)] (by kernel_rfl) (by kernel_rfl) rfl (by kernel_rfl) ?_
 have gm:=Bo okm.s
 have gn:=Bo okn.s
 have go_:=Bo okO.s
 simp (maxSteps:=10^6) only[gm,gn,go_,push_cast,↓reduceIte,Nat.reduceEqDiff,Nat.reduceLT]
 have tkc:∀(r:SmR) (M:List Res) (Fs:List Fct) (mm:MgR),SmOk Fs r→MOk Fs mm→(∀γ w1,Sat w No γ (smB g r++M) w1→Known w1 (fun b=>∃(k:Nat) (q:Res),(smB g r)[k]?=some q∧q.has γ k b) Fs)→∀γ w1,Sat w No γ (smB g r++M) w1→nmB γ 0=g→Calls Tryz.prog 24 ([.x (.a (.p 0 0)),.x (.g (mgA mm))].map (Sv.val γ)).toArray w1 fun e w'=>∃(x:SmR×List Fct) (γ1:List Nm),Hv Fs r mm.mg x∧e=.returned ((Sv.x (.a (.v (erV (r.s.takeE mm.mg))))).val [])∧Sat w1 (fun b=>∃(k:Nat) (q:Res),(smB g r)[k]?=some q∧q.has γ k b) γ1 (smB g x.1++[.abs (Aa x.2)]) w':=fun r M Fs mm h1 h2 h3 γ w1 hS hg=>by
  have hk:=h3 γ w1 hS
  have:=U0 r mm (hS.frontA (By g r)) hk h1 (Hu h2 hk)
  rw[Ll (hS.frontA (By g r)) [.x (.g (mgA mm))] (fun x hx γ γ'=>by rw[List.mem_singleton.1 hx,Bc,Bc]) γ] at this
  show Calls _ _ #[.pointer (some ⟨nmB γ 0,0,none⟩),(Sv.x (.g (mgA mm))).val γ] w1 _
  rw[hg]
  exact this
 have q0:r.s=pT0:=s1.trans A5s
 have e1:r.s.takeE o.mg=13:=by rw[q0,eo];exact A5m
 refine Rb (ι:=SmR×List Fct) (A:=smB g r) (M:=[.abs (Aa G0),.blk 48 (.c (mgA m)),.blk 48 (.c (mgA n)),.blk 48 (.c (mgA o))]) (g:=g) (t:=120) (c:=.c (smA r)) [0,1,2] (Hv G0 r o.mg) (fun x=>.x (.a (.v (erV (r.s.takeE o.mg))))) (fun x=>smB g x.1) (fun x=>x.2) rfl rfl (fun x _=>⟨_,rfl⟩) (fun x _=>rfl) rfl K0 rfl (tkc r _ G0 o ok0 okO fun γ w1 hS=>Ct hS (k:=0) rfl) (fun _ _=>rfl) (Af rfl) (By g r) (fun x _=>By g x.1) (by simp (maxSteps:=10^6) only[↓List.forall_mem_cons,↓Ao,↓Bj,push_cast,Nat.reduceLT,Nat.reduceAdd]) (by
  show ∀x∈_,Sv.av 3 _
  simp (maxSteps:=10^6) only[↓List.forall_mem_cons,↓Ew,push_cast,reduceCtorEq,Nat.reduceLeDiff]) (by
  show ∀x∈_,Res.av 3 _
  simp (maxSteps:=10^6) only[↓List.forall_mem_cons,↓Ew,push_cast]) (fun x _=>rfl) (Rl (by simp (maxSteps:=10^6) only[↓List.forall_mem_cons,↓Ao,push_cast])) ?_
 rintro⟨r1,H1⟩ ⟨t1,k1⟩
 dsimp only at t1 k1
 rw[e1]
 have q1:r1.s=pT1:=by rw[t1,q0,eo];exact A5t
 obtain⟨G1,eG1⟩:∃G,G=G0++H1:=⟨_,rfl⟩
 rw[←eG1] at k1
 unfold smB smA
 simp (maxSteps:=10^6) only[push_cast,↓reduceIte]
 have e2:r1.s.takeE m.mg=0:=by rw[q1,em];exact A5n
 refine Rb (ι:=SmR×List Fct) (A:=smB g r1) (M:=[.abs (Aa G0),.blk 48 (.c (mgA m)),.blk 48 (.c (mgA n)),.blk 48 (.c (mgA o)),.abs (Aa H1)]) (g:=g) (t:=120) (c:=.c (smA r1)) [0,1,2] (Hv G1 r1 m.mg) (fun x=>.x (.a (.v (erV (r1.s.takeE m.mg))))) (fun x=>smB g x.1) (fun x=>x.2) rfl rfl (fun x _=>⟨_,rfl⟩) (fun x _=>rfl) rfl K0 rfl (tkc r1 _ G1 m k1 (okm.more fun f hf=>by rw[eG1];simp only[List.mem_append];exact .inl (hf)) fun γ w1 hS=>by rw[eG1];exact Gz (Ct hS (k:=0) rfl) (Ct hS (k:=4) rfl)) (fun _ _=>rfl) (Af rfl) (By g r1) (fun x _=>By g x.1) (by simp (maxSteps:=10^6) only[↓List.forall_mem_cons,↓Ao,↓Bj,push_cast,Nat.reduceLT,Nat.reduceAdd]) (by
  show ∀x∈_,Sv.av 3 _
  simp (maxSteps:=10^6) only[↓List.forall_mem_cons,↓Ew,push_cast,reduceCtorEq,Nat.reduceLeDiff]) (by
  show ∀x∈_,Res.av 3 _
  simp (maxSteps:=10^6) only[↓List.forall_mem_cons,↓Ew,push_cast]) (fun x _=>rfl) (Rl (by simp (maxSteps:=10^6) only[↓List.forall_mem_cons,↓Ao,push_cast])) ?_
 rintro⟨r2,H2⟩ ⟨t2,k2⟩
 dsimp only at t2 k2
 rw[e2]
 have q2:r2.s=pT2:=by rw[t2,q1,em];exact A5u
 obtain⟨G2,eG2⟩:∃G,G=G1++H2:=⟨_,rfl⟩
 rw[←eG2] at k2
 unfold smB smA
 simp (maxSteps:=10^6) only[push_cast,↓reduceIte]
 have e3:r2.s.takeE m.mg=8:=by rw[q2,em];exact A5o
 refine Rb (ι:=SmR×List Fct) (A:=smB g r2) (M:=[.abs (Aa G0),.blk 48 (.c (mgA m)),.blk 48 (.c (mgA n)),.blk 48 (.c (mgA o)),.abs (Aa H1),.abs (Aa H2)]) (g:=g) (t:=120) (c:=.c (smA r2)) [0,1,2] (Hv G2 r2 m.mg) (fun x=>.x (.a (.v (erV (r2.s.takeE m.mg))))) (fun x=>smB g x.1) (fun x=>x.2) rfl rfl (fun x _=>⟨_,rfl⟩) (fun x _=>rfl) rfl K0 rfl (tkc r2 _ G2 m k2 (okm.more fun f hf=>by rw[eG2,eG1];simp only[List.mem_append];exact .inl (.inl (hf))) fun γ w1 hS=>by rw[eG2,eG1];exact Gz (Gz (Ct hS (k:=0) rfl) (Ct hS (k:=4) rfl)) (Ct hS (k:=5) rfl)) (fun _ _=>rfl) (Af rfl) (By g r2) (fun x _=>By g x.1) (by simp (maxSteps:=10^6) only[↓List.forall_mem_cons,↓Ao,↓Bj,push_cast,Nat.reduceLT,Nat.reduceAdd]) (by
  show ∀x∈_,Sv.av 3 _
  simp (maxSteps:=10^6) only[↓List.forall_mem_cons,↓Ew,push_cast,reduceCtorEq,Nat.reduceLeDiff]) (by
  show ∀x∈_,Res.av 3 _
  simp (maxSteps:=10^6) only[↓List.forall_mem_cons,↓Ew,push_cast]) (fun x _=>rfl) (Rl (by simp (maxSteps:=10^6) only[↓List.forall_mem_cons,↓Ao,push_cast])) ?_
 rintro⟨r3,H3⟩ ⟨t3,k3⟩
 dsimp only at t3 k3
 rw[e3]
 have q3:r3.s=pT3:=by rw[t3,q2,em];exact A5v
 obtain⟨G3,eG3⟩:∃G,G=G2++H3:=⟨_,rfl⟩
 rw[←eG3] at k3
 unfold smB smA
 simp (maxSteps:=10^6) only[push_cast,↓reduceIte]
 have e4:r3.s.takeE n.mg=10:=by rw[q3,en];exact A5p
 refine Rb (ι:=SmR×List Fct) (A:=smB g r3) (M:=[.abs (Aa G0),.blk 48 (.c (mgA m)),.blk 48 (.c (mgA n)),.blk 48 (.c (mgA o)),.abs (Aa H1),.abs (Aa H2),.abs (Aa H3)]) (g:=g) (t:=120) (c:=.c (smA r3)) [0,1,2] (Hv G3 r3 n.mg) (fun x=>.x (.a (.v (erV (r3.s.takeE n.mg))))) (fun x=>smB g x.1) (fun x=>x.2) rfl rfl (fun x _=>⟨_,rfl⟩) (fun x _=>rfl) rfl K0 rfl (tkc r3 _ G3 n k3 (okn.more fun f hf=>by rw[eG3,eG2,eG1];simp only[List.mem_append];exact .inl (.inl (.inl (hf)))) fun γ w1 hS=>by rw[eG3,eG2,eG1];exact Gz (Gz (Gz (Ct hS (k:=0) rfl) (Ct hS (k:=4) rfl)) (Ct hS (k:=5) rfl)) (Ct hS (k:=6) rfl)) (fun _ _=>rfl) (Af rfl) (By g r3) (fun x _=>By g x.1) (by simp (maxSteps:=10^6) only[↓List.forall_mem_cons,↓Ao,↓Bj,push_cast,Nat.reduceLT,Nat.reduceAdd]) (by
  show ∀x∈_,Sv.av 3 _
  simp (maxSteps:=10^6) only[↓List.forall_mem_cons,↓Ew,push_cast,reduceCtorEq,Nat.reduceLeDiff]) (by
  show ∀x∈_,Res.av 3 _
  simp (maxSteps:=10^6) only[↓List.forall_mem_cons,↓Ew,push_cast]) (fun x _=>rfl) (Rl (by simp (maxSteps:=10^6) only[↓List.forall_mem_cons,↓Ao,push_cast])) ?_
 rintro⟨r4,H4⟩ ⟨t4,k4⟩
 dsimp only at t4 k4
 rw[e4]
 have q4:r4.s=pT4:=by rw[t4,q3,en];exact A5w
 obtain⟨G4,eG4⟩:∃G,G=G3++H4:=⟨_,rfl⟩
 rw[←eG4] at k4
 unfold smB smA
 simp (maxSteps:=10^6) only[push_cast,↓reduceIte,Nat.reduceEqDiff,Nat.reduceLT,Nat.reduceAdd]
 have hG4:G4=G0++H1++H2++H3++H4:=by rw[eG4,eG3,eG2,eG1]
 obtain⟨pt1,pt2,pt3⟩:=Nd
 obtain⟨t0,ht0,em0⟩:=A5x (r:=r4) (by rw[q4];exact pt1)
 have d4:r4.dim=((1:Nat):Int):=by
  have:r4.s.dim=pT4.dim:=by rw[q4]
  exact this.trans pt3
 have hks:J9 r4.taken:=by
  rw[ht0]
  exact⟨by simp,fun p hp=>by rw[List.mem_singleton.1 hp];exact⟨by show (0:Int)≤1;omega,by show (1:Int) < 1000000;omega⟩,by simp⟩
 have hrw:∀t∈r4.taken,t.2.xs.l.length=1∧t.2.ns.l.length % 2=0∧0 < t.2.ps.l.length:=by
  rw[ht0]
  intro t ht
  rw[List.mem_singleton.1 ht]
  have e1:t0.xs.l=[7]:=congrArg MgS.xs em0
  have e2:t0.ns.l=[1,2]:=congrArg MgS.ns em0
  have e3:t0.ps.l=[(3,2),(5,4)]:=congrArg MgS.ps em0
  exact⟨by show t0.xs.l.length=1;rw[e1];rfl,by show t0.ns.l.length % 2=0;rw[e2];rfl,by show 0 < t0.ps.l.length;rw[e3];decide⟩
 refine Mx (ι:=MgR×List Fct) (A:=smB g r4) (M:=[.abs (Aa G0),.blk 48 (.c (mgA m)),.blk 48 (.c (mgA n)),.blk 48 (.c (mgA o)),.abs (Aa H1),.abs (Aa H2),.abs (Aa H3),.abs (Aa H4)]) (g:=g) (t:=120) (c:=.c (smA r4)) (l:=G0) 0 (fun x=>x.1.mg=r4.s.all 1∧MW x.2 x.1) (fun x=>.x (.g (mgA x.1))) (fun _=>smB g r4) (fun x=>x.2) rfl rfl rfl (fun x _=>⟨_,rfl⟩) (fun x _=>rfl) rfl Tj rfl (fun γ w1 hS hg=>?_) (fun x γ=>by rw[Bc,Bc]) (Af rfl) (By g r4) (fun x _=>By g r4) (by simp (maxSteps:=10^6) only[↓List.forall_mem_cons,↓Ao,↓Bj,push_cast,Nat.reduceLT,Nat.reduceAdd]) (by
  show ∀x∈_,Sv.av 3 _
  simp (maxSteps:=10^6) only[↓List.forall_mem_cons,↓Ew,push_cast,reduceCtorEq,Nat.reduceLeDiff]) (by
  show ∀x∈_,Res.av 3 _
  simp (maxSteps:=10^6) only[↓List.forall_mem_cons,↓Ew,push_cast]) ?_
 ·have hk:Known w1 (fun b=>∃(k:Nat) (q:Res),(smB g r4)[k]?=some q∧q.has γ k b) G4:=by
   rw[hG4]
   exact Gz (Gz (Gz (Gz (Ct hS (k:=0) rfl) (Ct hS (k:=4) rfl)) (Ct hS (k:=5) rfl)) (Ct hS (k:=6) rfl)) (Ct hS (k:=7) rfl)
  have:=U4 r4 1 (n:=1) (hS.frontA (By g r4)) hk k4 hks d4 (by omega) hrw (by rw[ht0];simp)
  rw[Ll (hS.frontA (By g r4)) [.x (.a (.v (.int .i64 1)))] (fun x hx γ γ'=>by rw[List.mem_singleton.1 hx];rfl) γ] at this
  show Calls _ _ #[.pointer (some ⟨nmB γ 0,0,none⟩),.int .i64 1] w1 _
  rw[hg]
  refine this.mono fun e w'' ⟨x,γ1,h1,h2,h3⟩=>⟨x,γ1,h1,?_,h3⟩
  rw[h2,Bc,Bc]
 rintro⟨x,J⟩ ⟨x1,x2⟩
 dsimp only at x1 x2
 have gx:=Bo x2.s
 unfold smB smA
 simp (maxSteps:=10^6) only[gx,B6,B9,Ck,Cq,undef,↓List.forall_mem_cons,↓Cp,↓Ao,↓Bj,push_cast,↓reduceIte,Nat.reduceEqDiff,Nat.reduceLT,Nat.reduceAdd]
 (repeat (refine And.intro (by first|omega|decide) ?_))
 have x3:x.mg=pT4.all 1:=by rw[x1,q4]
 obtain⟨a1,a2,a3⟩:=A5q
 have xpl:x.pl=0:=(congrArg MgS.pl x3).trans a1
 have xge:x.ge=1:=(congrArg MgS.ge x3).trans a2
 have xxs:x.xs.l=[7]:=(congrArg MgS.xs x3).trans a3
 have vx:x.xs.val=.slice x.xs.A 1 x.xs.c:=by
  show Value.slice x.xs.A x.xs.l.length x.xs.c=_
  rw[xxs]
  rfl
 refine J6 (s':=⟨[(1,.x (.a (.p 0 0))),(6,.x (.a (.v (erV 13)))),(7,.x (.a (.v (erV 0)))),(8,.x (.a (.v (erV 8)))),(9,.x (.a (.v (erV 10)))),(10,.x (.a (.p 3 0))),(44,.x (.a (.v .nilIface))),(45,.x (.a (.v (.bool true)))),(46,.x (.a (.v (.bool true)))),(47,.x (.a (.v (erV 13))))],[.pin g 120 (.c [.v (.int .i64 r4.place),.v (.int .i64 r4.dim),.v r4.spots.val,.o 1,.o 2]),.mp .i64 (iE r4.heard),.mp .i64 (mgE r4.taken),.blk 48 (.c (mgA x)),.abs (Aa (G0++J))]⟩) (Fc [0,1,2,11,3] (by simp (maxSteps:=10^6) only[rn,↓List.forall_mem_cons,↓Ao,↓A7,push_cast,↓reduceIte,reduceCtorEq,Nat.reduceEqDiff,Nat.reduceLT,Nat.reduceAdd])) ?_
 refine Abt (A:=smB g r4++[.blk 48 (.c (mgA x))]) (M:=[.abs (Aa (G0++J))]) [1,6,7,8,9,10,44,45,46,47] rfl (by show 0 < 4;omega) (by
  show ∀q∈_,Res.bnd 4 q
  unfold smB smA
  simp (maxSteps:=10^6) only[↓List.forall_mem_cons,↓List.forall_mem_append,↓Ao,push_cast,Nat.reduceLT]) (by simp (maxSteps:=10^6) only[↓List.forall_mem_cons,↓Ao,push_cast,Nat.reduceLT,Nat.reduceAdd]) (by
  show ∀x∈_,Sv.bnd 4 _
  simp (maxSteps:=10^6) only[push_cast,↓reduceIte,Nat.reduceEqDiff,Nat.reduceLT]) (fun q hq=>by rw[List.mem_singleton.1 hq];trivial) fun γ' w1 hS1=>?_
 have hS2:Sat w No γ' ((smB g r4++[.blk 48 (.c (mgA x))])++[.abs (Aa (G0++J))]) w1:=hS1
 have hkn:=Ct (A:=smB g r4++[.blk 48 (.c (mgA x))]) hS2 (k:=0) rfl
 have hh:Handle w1:=Tq hgd hS2
 have hno:=Abx hgd hS2 (B:=fun b=>∃(k:Nat) (q:Res),(smB g r4++[.blk 48 (.c (mgA x))])[k]?=some q∧q.has γ' k b) fun b ⟨k,q,h1,h2⟩=>⟨k,q,by rw[List.getElem?_append_left (Au h1)];exact h1,h2⟩
 have fx:=hkn.fw (x2.xs.more fun f hf=>List.mem_append_right _ hf) (fun e=>by rw[e];rfl)
 obtain⟨ow1,how1⟩:∃ow1:Nat→Prop,ow1=fun b=>∃(k:Nat) (q:Res),(smB g r4++[.blk 48 (.c (mgA x))])[k]?=some q∧q.has γ' k b:=⟨_,rfl⟩
 have hno:¬ow1 0:=by rw[how1];exact hno
 rw[←how1] at fx ⊢
 clear how1
 have Fx:FM Ap w1 ow1 x.xs.A x.xs.l:=FM.fw fx.2
 have cx:=Fx.cell 0 (by rw[xxs];decide)
 have ox:=eq_true (Fx.ok 0 (by rw[xxs];decide))
 have sx:=Fx.some_ (by rw[xxs];decide)
 have ix0:ix x.xs.l 0=7:=by rw[xxs];rfl
 rw[ix0] at cx
 have f1:=fun d=>(Dc (m:=x) x2.s).2.1 d
 have f4:=fun d=>(Dc (m:=x) x2.s).2.2.2.2.1 d
 have f41:=fun d=>(Dc (m:=x) x2.s).2.2.2.2.2.2.2.2.2.1 d
 rw[vx] at f41
 rw[xpl] at f1
 rw[xge] at f4
 have n7:Ap 7=.int .u32 7:=rfl
 rw[n7] at cx
 rw[Cm] at cx ox
 unfold smB smA
 simp (maxSteps:=10^6) only[push_cast,↓reduceIte,Nat.reduceEqDiff,Nat.reduceAdd]
 refine Aq rfl Tm rfl (Va 13 hh hno) (Af rfl) ?_
 simp (maxSteps:=10^6) only[Uq,push_cast,↓reduceIte,Nat.reduceEqDiff,Nat.reduceLT,Nat.reduceAdd]
 (repeat (refine And.intro (by first|omega|decide) ?_))
 refine Aq rfl Tm rfl (Va 8 hh hno) (Af rfl) ?_
 simp (maxSteps:=10^6) only[push_cast,↓reduceIte,Nat.reduceEqDiff,Nat.reduceLT,Nat.reduceAdd]
 (repeat (refine And.intro (by first|omega|decide) ?_))
 refine Aq rfl Tm rfl (Va 10 hh hno) (Af rfl) ?_
 simp (maxSteps:=10^6) only[gx,f1,f4,f41,cx,ox,sx,Cm,undef,push_cast,↓Int.cast_ofNat_Int,Int.cast_ofNat_Int,↓reduceIte,reduceCtorEq,Nat.reduceEqDiff,Nat.reduceLT,Nat.reduceAdd,Int.reduceLE,Int.reduceLT]
 (repeat (refine And.intro (by first|omega|decide) ?_))
 refine Fm rfl Pf rfl (Vb (r:=r4) (g:=g) (M:=[.blk 48 (.c (mgA x))]) hks (by
  show ∀q∈_,Res.bnd 4 q
  unfold smB smA
  simp (maxSteps:=10^6) only[↓List.forall_mem_cons,↓List.forall_mem_append,↓Ao,push_cast,Nat.reduceLT])) (Af rfl) (by simp (maxSteps:=10^6) only[↓List.forall_mem_cons,↓Ao,push_cast,Nat.reduceLT,Nat.reduceAdd]) ?_
 have hfr:r4.s.from_=[1]:=by rw[q4];exact Abr
 rw[hfr]
 unfold smB smA
 simp (maxSteps:=10^6) only[↓List.forall_mem_cons,↓Ao,push_cast,↓reduceIte,Nat.reduceEqDiff,Nat.reduceLT,Nat.reduceLeDiff,Nat.reduceAdd]
 (repeat (refine And.intro (by first|omega|decide) ?_))
 refine Aq rfl X8 rfl (Aby (a:=[1]) (b:=[1]) (by decide) (K3 (k:=4) rfl (fun _=>rfl)) (Aw2 (k:=5) rfl (fun _=>rfl) 1 1 rfl (by omega))) (Af rfl) ?_
 simp (maxSteps:=10^6) only[push_cast,↓reduceIte,Nat.reduceEqDiff,Nat.reduceLT,Nat.reduceAdd]
 refine⟨smB g r4++[.blk 48 (.c (mgA x))],[.own 3 (.i64 [1]),.blk 3 (.i64 [1])],[0],?_,rfl,?_,?_,?_⟩
 ·unfold smB smA
  rfl
 ·show ∀q∈_,Res.bnd 4 q
  unfold smB smA
  simp (maxSteps:=10^6) only[↓List.forall_mem_cons,↓List.forall_mem_append,↓Ao,push_cast,Nat.reduceLT]
 ·show ∀x∈_,Sv.bnd 4 _
  simp (maxSteps:=10^6) only[push_cast,↓reduceIte]
 ·simp (maxSteps:=10^6) only[push_cast,↓reduceIte]
theorem Rn {w0:World} {hp:List Res} (hg:Handle w0):Ae Tryz.prog w0 No 20 [] hp (.x (.a (.v (.bool true)))) hp:=A8 fun _ w hS=>Ab3 w (Tq hg hS)
end Go.Proofs.YtedaafmfjhjfmaaGreatDoor
