import Derived.Test.YtedaafmfjhjfmaaGreatDoorLw7
/- Layer 28: what came leaves, as its callers see it. -/
namespace Go.Proofs.YtedaafmfjhjfmaaGreatDoor
open Go.RowKit
set_option linter.unusedSimpArgs false
set_option linter.unusedVariables false
attribute [local irreducible] Ah Ai Am Bc A7 Ay Ap A6
attribute [local irreducible] A8 okV Bj erV Tal.can Tal.st
theorem Ab9 (r:LfR) (j:Nat) (v:Value) (hj:5≤j):(lfA r).map (At.sub j v)=lfA r:=by
 unfold lfA
 rw[List.map_append,Ip]
 simp only[List.map_cons,List.map_nil,At.sub,if_neg (show ¬2=j by omega),if_neg (show ¬3=j by omega),if_neg (show ¬4=j by omega)]
theorem K0 (r:TalR) (j:Nat) (v:Value):(tlA r).map (At.sub j v)=tlA r:=rfl
def K2 (r:LfR) (m:MgR) (Fs:List Fct) (x:LfR×List Fct):Prop:=x.1.s=(if r.s.cameE m.mg=0 then r.s.cameS m.mg else r.s)∧x.1.live=r.live∧LfOk (Fs++x.2) x.1
theorem R7 {w:World} {B:Nat→Prop} {γ:List Nm} {g:Nat} {r:LfR} (hS:Sat w B γ (lfB g r) w) (m:MgR):(List.map (Sv.val (γ++[Nm.m (.bool true) (fun _=>False)])) [Sv.x (.a (.p 0 0)),.x (.g (mgA m))]).toArray=#[.pointer (some ⟨g,0,none⟩),.agg (mgV m).toArray]:=by
 show #[Value.pointer (some ⟨nmB _ 0,0,none⟩),Value.agg ((mgA m).map (At.val _)).toArray]=_
 rw[V9 hS,Kt]
theorem K3 {Fs Gs:List Fct} {r:LfR} (ok:LfOk Fs r) {tl:TalR} (h:TalOk (Fs++Gs) tl):LfOk (Fs++Gs) {r with ty:=tl}:=by
 have ok':=ok.more (Gs:=Fs++Gs) fun f hf=>List.mem_append_left _ hf
 exact⟨ok'.above,ok'.group,ok'.waits,ok'.joined,h,ok'.boxes,ok'.rows,ok'.sum,ok.few1,ok.few2,ok.few3,ok.few4,ok.few5,ok.few6,ok.dim,ok.need,ok.term⟩
theorem Wd {r:LfR} {tl:TalR} (h:tl.t=r.s.tally):({r with ty:=tl}:LfR).s=r.s:=by
 show LfS.mk _ _ _ _ _ _ _ _ _ _ tl.t _ _ _ _ _=_
 rw[h]
 rfl
theorem We {r:LfR} {m:MgR} (h:r.s.cameE m.mg=0):r.phase=F0 m.k:=by
 unfold LfS.cameE at h
 by_cases g1:m.mg.ge≠r.s.gen
 ·rw[if_pos g1] at h;cases h
 ·rw[if_neg g1] at h
  by_cases g2:r.s.phase≠F0 m.mg.k
  ·rw[if_pos g2] at h;cases h
  ·exact Decidable.not_not.1 g2
theorem A34 (r:LfR) (m:MgR) {g:Nat} {w:World} {B:Nat→Prop} {γ:List Nm} {Fs:List Fct} (hS:Sat w B γ (lfB g r) w) (hw:Known w B Fs) (ok:LfOk Fs r) (hm:MgF m w B) (hk:m.k=1) (hlv:r.phase < 2→r.live=true):
  Calls Tryz.prog 56 #[.pointer (some ⟨g,0,none⟩),.agg (mgV m).toArray] w fun e w'=>∃(x:LfR×List Fct) (γ1:List Nm),K2 r m Fs x∧e=.returned (erV (r.s.cameE m.mg))∧Sat w B γ1 (lfB g x.1++[.abs (Aa x.2)]) w':=by
 have h0:=A31 r m hS hw ok hm hk hlv
 rw[R7 hS m] at h0
 refine h0.mono fun e w' ⟨⟨tl,G,b⟩,γ1,⟨q1,q2,q3⟩,he,hS1⟩=>?_
 dsimp only at q1 q2 q3
 have hk':m.mg.k=1:=hk
 by_cases hE:r.s.cameE m.mg=0
 ·rw[decide_eq_true hE] at q3
  subst q3
  rw[if_pos hE] at q1
  have hph:r.phase=0:=by
   have:=We hE
   rw[hk] at this
   exact this
  have hS2:Sat w B γ1 (lfB g {r with ty:=tl,pub:=Bk r.pub m.cl m.nu}++[.abs (Aa G)]) w':=by
   have e1:Nw g r m (tl,G,true)=[.pin g 104 (.c (lfA r)),.blk 170 (.c (tlA tl)),.mp .i64 (putI (puE r.pub) m.cl (.a (.v (vU64 m.nu)))),bxR r,.mp .i64 (slE r.rows),.abs (Aa G)]:=rfl
   rw[e1,A2y] at hS1
   exact hS1
  refine⟨({r with ty:=tl,pub:=Bk r.pub m.cl m.nu},G),γ1,⟨?_,rfl,?_⟩,he,hS2⟩
  ·rw[if_pos hE]
   have e2:r.s.cameS m.mg={r.s with tally:=r.s.tally.came m.cl,pub:=Bk r.s.pub m.cl m.nu}:=by
    unfold LfS.cameS
    rw[hk']
    rfl
   rw[e2,←q1]
   rfl
  ·have:=K3 ok q2
   exact⟨this.above,this.group,this.waits,this.joined,this.ty,this.boxes,this.rows,this.sum,this.few1,this.few2,this.few3,this.few4,this.few5,this.few6,this.dim,this.need,this.term⟩
 ·rw[decide_eq_false hE] at q3
  subst q3
  rw[if_neg hE] at q1
  have hS2:Sat w B γ1 (lfB g {r with ty:=tl}++[.abs (Aa G)]) w':=hS1
  exact⟨({r with ty:=tl},G),γ1,⟨by rw[if_neg hE];exact Wd q1,rfl,K3 ok q2⟩,he,hS2⟩
theorem A35 (r:LfR) (m:MgR) {g:Nat} {w:World} {B:Nat→Prop} {γ:List Nm} {Fs:List Fct} (hS:Sat w B γ (lfB g r) w) (hw:Known w B Fs) (ok:LfOk Fs r) (hm:MgF m w B) (hk:m.k=3) (hlv:r.phase < 2→r.live=true):
  Calls Tryz.prog 56 #[.pointer (some ⟨g,0,none⟩),.agg (mgV m).toArray] w fun e w'=>∃(x:LfR×List Fct) (γ1:List Nm),K2 r m Fs x∧e=.returned (erV (r.s.cameE m.mg))∧Sat w B γ1 (lfB g x.1++[.abs (Aa x.2)]) w':=by
 have h0:=A32 r m hS hw ok hm hk hlv
 rw[R7 hS m] at h0
 refine h0.mono fun e w' ⟨⟨tl,G,b⟩,γ1,⟨q1,q2,q3⟩,he,hS1⟩=>?_
 dsimp only at q1 q2 q3
 have hk':m.mg.k=3:=hk
 by_cases hE:r.s.cameE m.mg=0
 ·rw[decide_eq_true hE] at q3
  subst q3
  rw[if_pos hE] at q1
  have hph:r.phase=1:=by
   have:=We hE
   rw[hk] at this
   exact this
  have e1:Nx g r m (tl,G,true)=[.pin g 104 (.c (lfA r)),.blk 170 (.c (tlA tl)),.mp .i64 (puE r.pub),.mp .i64 (putI (slE r.boxes) m.cl (.a (.o 6))),.mp .i64 (slE r.rows),.abs (Aa G),.own 41 (.u64 m.ns.l)]:=rfl
  rw[e1] at hS1
  obtain⟨A2,cap2,γ2,x1,x2,eB,eS,h4⟩:=hS1.ownFs (j:=6) (k:=5) (c:=.u64 m.ns.l) (vs:=m.ns.l.map vU64) (l:=G) rfl rfl (by decide) (fun _=>rfl)
  rw[List.length_map] at h4 x2
  have hS2:Sat w B γ2 ((lfB g {r with ty:=tl,boxes:=Bk r.boxes m.cl ⟨A2,cap2,m.ns.l⟩}++[.abs (Aa (G++[⟨.slice A2 m.ns.l.length cap2,m.ns.l.length,m.ns.l.map vU64⟩]))])++[.gone]) w':=by
   have e2:D5 6 (.slice A2 m.ns.l.length cap2) (putI (slE r.boxes) m.cl (.a (.o 6)))=slE (Bk r.boxes m.cl ⟨A2,cap2,m.ns.l⟩):=by
    rw[Ab8,Gg,←V2]
    rfl
   have e3:bxR ({r with ty:=tl,boxes:=Bk r.boxes m.cl ⟨A2,cap2,m.ns.l⟩}:LfR)=.mp .i64 (slE (Bk r.boxes m.cl ⟨A2,cap2,m.ns.l⟩)):=by
    unfold bxR
    exact if_pos (hlv (by omega))
   simp only[List.map_cons,List.map_nil,Res.sub,Cont.sub,Hz,Gg,Ab9 r 6 _ (show 5≤6 by omega),K0,e2,List.set_cons_succ,List.set_cons_zero] at h4
   unfold lfB
   rw[e3]
   exact h4
  refine⟨({r with ty:=tl,boxes:=Bk r.boxes m.cl ⟨A2,cap2,m.ns.l⟩},G++[⟨.slice A2 m.ns.l.length cap2,m.ns.l.length,m.ns.l.map vU64⟩]),_,⟨?_,rfl,?_⟩,he,hS2.frontOf (Ju g _ _)⟩
  ·rw[if_pos hE]
   have e2:r.s.cameS m.mg={r.s with tally:=r.s.tally.came m.cl,boxes:=Bk r.s.boxes m.cl m.ns.l}:=by
    unfold LfS.cameS
    rw[hk']
    rfl
   rw[e2,←q1]
   have e3:Bn SlV.l (Bk r.boxes m.cl ⟨A2,cap2,m.ns.l⟩)=Bk r.s.boxes m.cl m.ns.l:=V3 _ _ _ _
   rw[←e3]
   rfl
  ·have h5:=(K3 ok q2).more (Gs:=Fs++(G++[⟨.slice A2 m.ns.l.length cap2,m.ns.l.length,m.ns.l.map vU64⟩])) fun f hf=>by rw[←List.append_assoc];exact List.mem_append_left _ hf
   have hin:(⟨.slice A2 m.ns.l.length cap2,m.ns.l.length,m.ns.l.map vU64⟩:Fct)∈Fs++(G++[⟨.slice A2 m.ns.l.length cap2,m.ns.l.length,m.ns.l.map vU64⟩]):=by rw[←List.append_assoc];exact List.mem_append_right _ (List.mem_singleton.2 rfl)
   refine⟨h5.above,h5.group,h5.waits,h5.joined,h5.ty,fun p hp=>?_,h5.rows,h5.sum,h5.few1,h5.few2,h5.few3,h5.few4,fun p hp=>?_,h5.few6,h5.dim,h5.need,h5.term⟩
   ·rcases Nu hp with e|e
    ·rw[e];exact .inr hin
    ·exact h5.boxes p e
   ·rcases Nu hp with e|e
    ·rw[e];exact hm.few.ns
    ·exact h5.few5 p e
 ·rw[decide_eq_false hE] at q3
  subst q3
  rw[if_neg hE] at q1
  have hS2:Sat w B γ1 (lfB g {r with ty:=tl}++[.abs (Aa G)]) w':=hS1
  exact⟨({r with ty:=tl},G),γ1,⟨by rw[if_neg hE];exact Wd q1,rfl,K3 ok q2⟩,he,hS2⟩
theorem A36 (r:LfR) (m:MgR) {g:Nat} {w:World} {B:Nat→Prop} {γ:List Nm} {Fs:List Fct} (hS:Sat w B γ (lfB g r) w) (hw:Known w B Fs) (ok:LfOk Fs r) (hm:MgF m w B) (hk:m.k=5) (hlv:r.phase < 2→r.live=true):
  Calls Tryz.prog 56 #[.pointer (some ⟨g,0,none⟩),.agg (mgV m).toArray] w fun e w'=>∃(x:LfR×List Fct) (γ1:List Nm),K2 r m Fs x∧e=.returned (erV (r.s.cameE m.mg))∧Sat w B γ1 (lfB g x.1++[.abs (Aa x.2)]) w':=by
 have h0:=A33 r m hS hw ok hm hk hlv
 rw[R7 hS m] at h0
 refine h0.mono fun e w' ⟨⟨tl,G,b⟩,γ1,⟨q1,q2,q3⟩,he,hS1⟩=>?_
 dsimp only at q1 q2 q3
 have hk':m.mg.k=5:=hk
 by_cases hE:r.s.cameE m.mg=0
 ·rw[decide_eq_true hE] at q3
  subst q3
  rw[if_pos hE] at q1
  have hph:r.phase=2:=by
   have:=We hE
   rw[hk] at this
   exact this
  have e1:Ny g r m (tl,G,true)=[.pin g 104 (.c (lfA r)),.blk 170 (.c (tlA tl)),.mp .i64 (puE r.pub),bxR r,.mp .i64 (putI (slE r.rows) m.cl (.a (.o 6))),.abs (Aa G),.own 111 (.u32 m.xs.l)]:=rfl
  rw[e1] at hS1
  obtain⟨A2,cap2,γ2,x1,x2,eB,eS,h4⟩:=hS1.ownFs (j:=6) (k:=5) (c:=.u32 m.xs.l) (vs:=m.xs.l.map Ak) (l:=G) rfl rfl (by decide) (fun _=>rfl)
  rw[List.length_map] at h4 x2
  have hS2:Sat w B γ2 ((lfB g {r with ty:=tl,rows:=Bk r.rows m.cl ⟨A2,cap2,m.xs.l⟩}++[.abs (Aa (G++[⟨.slice A2 m.xs.l.length cap2,m.xs.l.length,m.xs.l.map Ak⟩]))])++[.gone]) w':=by
   have e2:D5 6 (.slice A2 m.xs.l.length cap2) (putI (slE r.rows) m.cl (.a (.o 6)))=slE (Bk r.rows m.cl ⟨A2,cap2,m.xs.l⟩):=by
    rw[Ab8,Gg,←V2]
    rfl
   simp only[List.map_cons,List.map_nil,↓Io,Res.sub,Cont.sub,Hz,Ab9 r 6 _ (show 5≤6 by omega),K0,e2,List.set_cons_succ,List.set_cons_zero] at h4
   exact h4
  refine⟨({r with ty:=tl,rows:=Bk r.rows m.cl ⟨A2,cap2,m.xs.l⟩},G++[⟨.slice A2 m.xs.l.length cap2,m.xs.l.length,m.xs.l.map Ak⟩]),_,⟨?_,rfl,?_⟩,he,hS2.frontOf (Ju g _ _)⟩
  ·rw[if_pos hE]
   have e2:r.s.cameS m.mg={r.s with tally:=r.s.tally.came m.cl,rows:=Bk r.s.rows m.cl m.xs.l}:=by
    unfold LfS.cameS
    rw[hk']
    rfl
   rw[e2,←q1]
   have e3:Bn SlV.l (Bk r.rows m.cl ⟨A2,cap2,m.xs.l⟩)=Bk r.s.rows m.cl m.xs.l:=V3 _ _ _ _
   rw[←e3]
   rfl
  ·have h5:=(K3 ok q2).more (Gs:=Fs++(G++[⟨.slice A2 m.xs.l.length cap2,m.xs.l.length,m.xs.l.map Ak⟩])) fun f hf=>by rw[←List.append_assoc];exact List.mem_append_left _ hf
   have hin:(⟨.slice A2 m.xs.l.length cap2,m.xs.l.length,m.xs.l.map Ak⟩:Fct)∈Fs++(G++[⟨.slice A2 m.xs.l.length cap2,m.xs.l.length,m.xs.l.map Ak⟩]):=by rw[←List.append_assoc];exact List.mem_append_right _ (List.mem_singleton.2 rfl)
   refine⟨h5.above,h5.group,h5.waits,h5.joined,h5.ty,h5.boxes,fun p hp=>?_,h5.sum,h5.few1,h5.few2,h5.few3,h5.few4,h5.few5,fun p hp=>?_,h5.dim,h5.need,h5.term⟩
   ·rcases Nu hp with e|e
    ·rw[e];exact .inr hin
    ·exact h5.rows p e
   ·rcases Nu hp with e|e
    ·rw[e];exact hm.few.xs
    ·exact h5.few6 p e
 ·rw[decide_eq_false hE] at q3
  subst q3
  rw[if_neg hE] at q1
  have hS2:Sat w B γ1 (lfB g {r with ty:=tl}++[.abs (Aa G)]) w':=hS1
  exact⟨({r with ty:=tl},G),γ1,⟨by rw[if_neg hE];exact Wd q1,rfl,K3 ok q2⟩,he,hS2⟩
theorem Wf (r:LfR) (m:MgR) {g:Nat} {w:World} {B:Nat→Prop} {γ:List Nm} {Fs:List Fct} (hS:Sat w B γ (lfB g r) w) (hw:Known w B Fs) (ok:LfOk Fs r) (hm:MgF m w B) (hk:m.k=1∨m.k=3∨m.k=5) (hlv:r.phase < 2→r.live=true):
  Calls Tryz.prog 56 #[.pointer (some ⟨g,0,none⟩),.agg (mgV m).toArray] w fun e w'=>∃(x:LfR×List Fct) (γ1:List Nm),K2 r m Fs x∧e=.returned (erV (r.s.cameE m.mg))∧Sat w B γ1 (lfB g x.1++[.abs (Aa x.2)]) w':=by
 rcases hk with hk|hk|hk
 ·exact A34 r m hS hw ok hm hk hlv
 ·exact A35 r m hS hw ok hm hk hlv
 ·exact A36 r m hS hw ok hm hk hlv
end Go.Proofs.YtedaafmfjhjfmaaGreatDoor
