import Derived.Test.YtedaafmfjhjfmaaGreatDoorHb8
/- Layer 30 walked: New. -/
namespace Go.Proofs.YtedaafmfjhjfmaaGreatDoor
open _root_.Go.Proofs.Tryz
open Go.RowKit
set_option linter.unusedSimpArgs false
set_option linter.unusedVariables false
section
variable {P:Program} {w0:World} {ow:Nat→Prop} {n:Nat}
theorem Azu {ι:Type} (Q:ι→Prop) (sv:ι→Sv) (hq:ι→List Res) {G:List Nat} {ops:List Oper} {o:Oper} {p:List (Nat×Bool)} {f:FuncId} {xs:List Operand} {tys:Array TypeId} {s:S} {svs:List Sv} {K:S→Prop} (ho:o.op=.call {callee:=.value (.func f),args:=xs.toArray,argTypes:=tys})
  (hcb:Ac P f) (hev:evs s.fr xs=some svs) (hc:∀γ w,Sat w0 ow γ s.hp w→Calls P f (svs.map (Sv.val γ)).toArray w fun e w'=>∃i δ,Q i∧e=.returned ((sv i).val (γ++δ))∧Sat w0 ow (γ++δ) (s.hp++hq i) w') (hd:dOk n o.dst) (hb:s.bnd) (he:∀i,(Bh G (s.hp++hq i)).take s.hp.length=Bh G s.hp) (hbm:∀r∈Bh G s.hp,Res.bnd (Bh G s.hp).length r)
  (h:∀i,Q i→Gn P w0 ow n G ops p (S.put ⟨s.fr,s.hp++hq i⟩ o.dst (sv i)) K):U9 P w0 ow n G ops o p s K:=by
 intro γ a w hf
 unfold Oper.wp
 rw[Io ho rfl hcb (args:=(svs.map (Sv.val γ)).toArray) (by rw[List.map_toArray,Gk hf hev])]
 simp only[Oper.upon]
 refine (hc γ w hf.sat).mono ?_
 rintro e w' ⟨i,δ,hi,rfl,hS'⟩
 have hfit:=hf.put (d:=o.dst) hS' (fun t sv' ht=>Sv.ext (by rw[hf.sat.len];exact hb.1 _ (Fr.get_mem ht))) hd (v:=sv i) rfl
 have hhp:(S.put ⟨s.fr,s.hp++hq i⟩ o.dst (sv i)).hp=s.hp++hq i:=by cases o.dst<;>rfl
 have h2:=Nx p _ _ _ _ (h i hi) hfit
 rw[hhp] at h2
 show ∃C2:World→Prop,_
 refine⟨_,hS'.mask G,fun x hx=>?_,h2⟩
 have hx:Sat w0 ow (γ++δ) (Bh G (s.hp++hq i)) x:=hx
 rw[←List.take_append_drop s.hp.length (Bh G (s.hp++hq i)),he i] at hx
 exact hx.front (by rw[Mb];exact hf.sat.len) hbm
theorem Azv {ι:Type} {m:Nat} {G:List Nat} (Q:ι→Prop) (sv:ι→Sv) (hq:ι→List Res) {ops:List Oper} {o:Oper} {p:Pl} {f:FuncId} {xs:List Operand} {tys:Array TypeId} {s:S} {svs:List Sv} {K:S→Prop} (ho:o.op=.call {callee:=.value (.func f),args:=xs.toArray,argTypes:=tys})
  (hcb:Ac P f) (hev:evs s.fr xs=some svs) (hc:∀γ w,Sat w0 ow γ s.hp w→Calls P f (svs.map (Sv.val γ)).toArray w fun e w'=>∃i δ,Q i∧e=.returned ((sv i).val (γ++δ))∧Sat w0 ow (γ++δ) (s.hp++hq i) w') (hd:dOk n o.dst) (hb:s.bnd) (he:∀i,(Bh G (s.hp++hq i)).take m=(Bh G s.hp).take m)
  (h:∀i,Q i→C7 P w0 ow n m G ops K p (S.put ⟨s.fr,s.hp++hq i⟩ o.dst (sv i))):Fm P w0 ow n m G ops o p s K:=by
 intro γ a w hf hml
 unfold Oper.wp
 rw[Io ho rfl hcb (args:=(svs.map (Sv.val γ)).toArray) (by rw[List.map_toArray,Gk hf hev])]
 simp only[Oper.upon]
 refine (hc γ w hf.sat).mono ?_
 rintro e w' ⟨i,δ,hi,rfl,hS'⟩
 have hfit:=hf.put (d:=o.dst) hS' (fun t sv' ht=>Sv.ext (by rw[hf.sat.len];exact hb.1 _ (Fr.get_mem ht))) hd (v:=sv i) rfl
 have hhp:(S.put ⟨s.fr,s.hp++hq i⟩ o.dst (sv i)).hp=s.hp++hq i:=by cases o.dst<;>rfl
 have hlen:(s.hp++hq i).length=s.hp.length+(hq i).length:=List.length_append
 have h2:=Gu p _ _ _ _ (h i hi) hfit (by rw[hhp];omega)
 rw[hhp] at h2
 refine⟨_,hS'.vis (by omega),fun x hx=>?_,h2⟩
 have e:Bl m G (s.hp++hq i)=Bl m G s.hp++H9 (hq i).length:=by
  unfold Bl H9
  rw[he i,hlen,show s.hp.length+(hq i).length - m=(s.hp.length - m)+(hq i).length from by omega,List.append_assoc,List.replicate_append_replicate]
 have hx:Sat w0 ow (γ++δ) (Bl m G (s.hp++hq i)) x:=hx
 rw[e] at hx
 have hl:=Oi m G s.hp hml
 exact hx.front (by rw[hl];exact hf.sat.len) (by rw[hl];exact Ach hb.2)
end
attribute [local irreducible] Ac Ad Ah Au Ao Aj Ai Al
attribute [local irreducible] A9 okV Ak erV Bq cfF tcF isP ofP abF Bk idxN Cg B2 Cz tmF
section
variable {c:CfR} {w:World}
set_option maxRecDepth 100000 in
theorem Azw (p gen:Int) (h:c.Ok w) (hn:Gy c.cf p gen=false):
  Calls prog 36 #[.agg (cfV c).toArray,.int .i64 p,.int .i64 gen] w fun e w'=>e=.returned (.tuple #[.pointer none,erV 1])∧Below w.heap.size w w':=by
 refine Bf (n:=152) func36 rfl ntmps36 [.x (.g [.v (.int .i64 c.dim),.v (.slice c.ps.A c.ps.l.length c.ps.c),.v (.slice c.gs.A c.gs.l.length c.gs.c),.v (.int .i64 c.least),.v (.int .i64 c.term)]),.x (.a (.v (.int .i64 p))),.x (.a (.v (.int .i64 gen)))] (by simp) (.t [.a (.v (.pointer none)),.a (.v (erV 1))]) (fun _=>rfl) ?_
 have ev:=En (n:=1) (by decide)
 simp (maxSteps:=10^6) only[push_cast,↓reduceIte,Nat.reduceEqDiff,Nat.reduceLT,Nat.reduceAdd]
 (repeat (refine And.intro (by first|omega|decide) ?_))
 refine Am rfl Rh rfl (W7 h) (Aa rfl) ?_
 by_cases h1:cfF c.cf=true
 case neg=>
  rw[show cfF c.cf=false by simpa using h1,H8]
  simp (maxSteps:=10^6) only[ev,undef,push_cast,↓reduceIte,Nat.reduceEqDiff,Nat.reduceLT]
  done
 rw[h1,Gt]
 by_cases h2:p < 0
 ·simp (maxSteps:=10^6) only[h2,ev,undef,push_cast,↓reduceIte,reduceCtorEq,Nat.reduceEqDiff,Nat.reduceLT]
  done
 by_cases h3:(c.ps.l.length:Int)≤p
 ·simp (maxSteps:=10^6) only[h2,h3,ev,undef,push_cast,↓reduceIte,reduceCtorEq,Nat.reduceEqDiff,Nat.reduceLT,Nat.reduceAdd]
  done
 by_cases h4:gen < 1
 ·simp (maxSteps:=10^6) only[h2,h3,h4,ev,undef,push_cast,↓reduceIte,reduceCtorEq,Nat.reduceEqDiff,Nat.reduceLT,Nat.reduceAdd]
  done
 by_cases h5:1073741824 < gen
 ·simp (maxSteps:=10^6) only[h2,h3,h4,h5,ev,undef,push_cast,↓reduceIte,reduceCtorEq,Nat.reduceEqDiff,Nat.reduceLT,Nat.reduceAdd]
  done
 have h6:0≤B2 c.cf p:=by
  unfold Gy at hn
  rw[h1,decide_eq_true (show 0≤p∧p < (c.cf.places.length:Int) by have e:c.cf.places.length=c.ps.l.length:=rfl;omega),decide_eq_true (show 1≤gen∧gen≤(1073741824:Int) by omega),Bool.true_and,Bool.true_and,Bool.true_and,decide_eq_false_iff_not] at hn
  omega
 have gt:∀hp,Ad prog w No 50 [.x (.g [.v (.int .i64 c.dim),.v (.slice c.ps.A c.ps.l.length c.ps.c),.v (.slice c.gs.A c.gs.l.length c.gs.c),.v (.int .i64 c.least),.v (.int .i64 c.term)]),.x (.a (.v (.int .i64 p)))] hp (.t [.a (.v (.int .i64 (B2 c.cf p))),.a (.v .nilIface)]) hp:=fun hp=>by
  have:=W8 h p (hp:=hp)
  rw[(Hd h1 (by omega) (by have e:c.cf.places.length=c.ps.l.length:=rfl;omega)).1] at this
  exact this
 simp (maxSteps:=10^6) only[h2,h3,h4,h5,undef,push_cast,↓reduceIte,reduceCtorEq,Nat.reduceEqDiff,Nat.reduceLT,Nat.reduceAdd]
 (repeat (refine And.intro (by first|omega|decide) ?_))
 refine Am rfl Vc rfl (gt _) (Aa rfl) ?_
 simp (maxSteps:=10^6) only[h6,ev,push_cast,↓reduceIte,Nat.reduceEqDiff,Nat.reduceLT]
def Pn (c:CfS) (p gen:Int) (x:(Nat×Nat)×HbR×List Fct):Prop:=x.2.1.s=HbS.new c p gen∧HbOk x.2.2 x.2.1
theorem Azx (q:Int) (h:c.Ok w) (l:List Int) (hl:ofP c.cf q (Bk c.ps.l q c.ps.l.length)=l) (ht:tcF c.cf q=.nilIface) {hp:List Res} (hbr:∀r∈hp,Res.bnd hp.length r) (γ:List Nm) (w':World) (hS:Sat w No γ hp w'):
  Calls prog 93 (List.map (Sv.val γ) [.x (.g [.v (.int .i64 c.dim),.v (.slice c.ps.A c.ps.l.length c.ps.c),.v (.slice c.gs.A c.gs.l.length c.gs.c),.v (.int .i64 c.least),.v (.int .i64 c.term)]),.x (.a (.v (.int .i64 q)))]).toArray w' fun e w''=>∃(x:Option Addr×Nat) (δ:List Nm),(l.length≤x.2∧x.2≤maxLen)∧e=.returned ((Sv.t [.a (.v (.slice x.1 l.length x.2)),.a (.v .nilIface)]).val (γ++δ))∧Sat w No (γ++δ) (hp++[.abs (fctRep [⟨.slice x.1 l.length x.2,l.length,l.map (Value.int .i64)⟩])]) w'':=by
 show Calls _ _ #[.agg (cfV c).toArray,.int .i64 q] w' _
 have:=Acz c q w' (h.later hS)
 rw[hl,ht] at this
 refine this.mono fun e w'' ⟨v,he,hO,hB⟩=>?_
 obtain⟨x,γ1,e1,e2,e3⟩:=W1 hO hB
 rw[List.length_map] at e1 e2 e3
 exact⟨x,γ1,e1,by rw[he,e2];rfl,hS.back [] (X:=No) (fun b h=>h.elim) e3 hbr (fun r hr=>by rw[List.mem_singleton.1 hr];trivial)⟩
theorem Azy (l:List Int) (A:Option Addr) (cap:Nat) (need term:Int) {hp:List Res} {k:Nat} {Fs:List Fct} (hk:hp[k]?=some (.abs (fctRep Fs))) (hf:(⟨.slice A l.length cap,l.length,l.map (Value.int .i64)⟩:Fct)∈Fs) (hl:l.length≤1000) (ht:M4 l need term=true) (hbr:∀r∈hp,Res.bnd hp.length r) (γ:List Nm) (w':World) (hS:Sat w No γ hp w'):
  Calls prog 95 (List.map (Sv.val γ) [.x (.a (.v (.slice A l.length cap))),.x (.a (.v (.int .i64 need))),.x (.a (.v (.int .i64 term)))]).toArray w' fun e w''=>∃(x:TalR×List Fct) (δ:List Nm),(x.1.t=Tal.new l need term∧TalOk x.2 x.1)∧e=.returned ((Sv.t [.a (.p hp.length 0),.a (.v .nilIface)]).val (γ++δ))∧Sat w No (γ++δ) (hp++[Res.blk 170 (.c (tlA x.1)),.abs (fctRep x.2)]) w'':=by
 show Calls _ _ #[.slice A l.length cap,.int .i64 need,.int .i64 term] w' _
 obtain⟨A',c',e1,e2,e3⟩:=Wl hS hk [] (by simp) (B:=No) (fun b h=>h.elim) _ hf
 have e1:Value.slice A l.length cap=.slice A' l.length c':=e1
 injection e1 with a1 _ a2
 subst a1 a2
 refine (Azk l A cap need term w' hl e2 e3.rd ht).mono fun e w'' ⟨x,γ1,h1,h2,h3⟩=>⟨x,γ1,h1,?_,?_⟩
 ·rw[h2]
  show Ending.returned (.tuple #[.pointer (some ⟨nmB γ1 0,0,none⟩),.nilIface])=Ending.returned (.tuple #[.pointer (some ⟨nmB (γ++γ1) hp.length,0,none⟩),.nilIface])
  have:nmB (γ++γ1) hp.length=nmB γ1 0:=by
   unfold nmB
   rw[List.getElem?_append_right (by rw[hS.len];exact Nat.le_refl _),hS.len,Nat.sub_self]
  rw[this]
 ·have:=hS.back [] (X:=No) (fun b h=>h.elim) h3 hbr (fun r hr=>by
   simp only[List.mem_cons,List.not_mem_nil,or_false] at hr
   rcases hr with rfl|rfl
   ·exact of_eq_true (Ae _ _)
   ·trivial)
  have e:List.map (Res.ren (B6 hp.length 2)) [Res.blk 170 (.c (tlA x.1)),.abs (fctRep x.2)]=[Res.blk 170 (.c (tlA x.1)),.abs (fctRep x.2)]:=by
   simp (maxSteps:=10^6) only[↓Aw,push_cast]
  exact e▸this
set_option maxRecDepth 100000 in
set_option maxHeartbeats 8000000 in
theorem Azz (p gen:Int) (h:c.Ok w) (hn:Gy c.cf p gen=true) (hb2:∀g∈c.gs.l,g.ids.l.length≤1000):
  Calls prog 36 (List.map (Sv.val ([]++[.m (.bool true) (fun _=>False)])) [.x (.g [.v (.int .i64 c.dim),.v (.slice c.ps.A c.ps.l.length c.ps.c),.v (.slice c.gs.A c.gs.l.length c.gs.c),.v (.int .i64 c.least),.v (.int .i64 c.term)]),.x (.a (.v (.int .i64 p))),.x (.a (.v (.int .i64 gen)))]).toArray w fun e w'=>∃(x:(Nat×Nat)×HbR×List Fct) (γ1:List Nm),Pn c.cf p gen x∧e=.returned ((Sv.t [.a (.p 0 0),.a (.v .nilIface)]).val γ1)∧Sat w No γ1 (hbB x.1.1 x.1.2 x.2.1++[.abs (fctRep x.2.2)]) w':=by
 unfold Gy at hn
 simp only[Bool.and_eq_true,decide_eq_true_eq] at hn
 obtain⟨⟨⟨h1,h2,h3⟩,h4,h5⟩,h6⟩:=hn
 obtain⟨pn,rfl⟩:∃q:Nat,p=q:=⟨p.toNat,by omega⟩
 have hst:=Ob h1
 have hm:c.ps.l.length≤16:=hst.most
 have h3':pn < c.ps.l.length:=by
  have e:c.cf.places.length=c.ps.l.length:=rfl
  omega
 have k2:¬(pn:Int) < 0:=by omega
 have k3:¬(c.ps.l.length:Int)≤pn:=by omega
 have k4:¬gen < 1:=by omega
 have k5:¬(1073741824:Int) < gen:=by omega
 have k6:¬0≤B2 c.cf pn:=by omega
 have i0:(0:Int)≤pn:=by omega
 have i3:(pn:Int) < c.ps.l.length:=by omega
 have htc:=(Hd h1 h2 h3).1
 have hisp:=(Hd h1 h2 h3).2
 have hof:∀l,ofP c.cf pn l=l:=fun l=>by unfold ofP;rw[if_pos hisp]
 have gt:∀hp,Ad prog w No 50 [.x (.g [.v (.int .i64 c.dim),.v (.slice c.ps.A c.ps.l.length c.ps.c),.v (.slice c.gs.A c.gs.l.length c.gs.c),.v (.int .i64 c.least),.v (.int .i64 c.term)]),.x (.a (.v (.int .i64 pn)))] hp (.t [.a (.v (.int .i64 (B2 c.cf pn))),.a (.v .nilIface)]) hp:=fun hp=>by
  have:=W8 h pn (hp:=hp)
  rw[htc] at this
  exact this
 have Fp:=FLm.of I4 (by decide) h.prd
 have hAp:=Fp.some_ (by omega)
 obtain⟨p0,o0⟩:=Fp.cell pn 0 _ h3' rfl
 obtain⟨p2,o2⟩:=Fp.cell pn 2 _ h3' rfl
 rw[Nat.add_zero] at p0 o0
 obtain⟨par,hpar⟩:∃q,q=(ix c.ps.l pn).parent:=⟨_,rfl⟩
 obtain⟨nee,hnee⟩:∃q,q=(ix c.ps.l pn).need:=⟨_,rfl⟩
 have p0:A7 w (Af c.ps.A (pn*3))=.int .i64 par:=by rw[hpar];exact p0
 have p2:A7 w (Af c.ps.A (pn*3+2))=.int .i64 nee:=by rw[hnee];exact p2
 refine Cy (n:=152) (ι:=(Nat×Nat)×HbR×List Fct) (Pn c.cf pn gen) (fun _=>.t [.a (.p 0 0),.a (.v .nilIface)]) (fun x=>hbB x.1.1 x.1.2 x.2.1++[.abs (fctRep x.2.2)]) func36 rfl ntmps36 [.x (.g [.v (.int .i64 c.dim),.v (.slice c.ps.A c.ps.l.length c.ps.c),.v (.slice c.gs.A c.gs.l.length c.gs.c),.v (.int .i64 c.least),.v (.int .i64 c.term)]),.x (.a (.v (.int .i64 pn))),.x (.a (.v (.int .i64 gen)))] ((Sat.init w No).fct0 (fun r hr=>by cases hr)) (by simp) ?_
 simp (maxSteps:=10^6) only[push_cast,↓reduceIte,Nat.reduceEqDiff,Nat.reduceLT,Nat.reduceAdd]
 (repeat (refine And.intro (by first|omega|decide) ?_))
 refine Am rfl Rh rfl (W7 h) (Aa rfl) ?_
 rw[h1,Gt]
 simp (maxSteps:=10^6) only[k2,k3,k4,k5,undef,push_cast,↓reduceIte,reduceCtorEq,Nat.reduceEqDiff,Nat.reduceLT,Nat.reduceAdd]
 (repeat (refine And.intro (by first|omega|decide) ?_))
 refine Am rfl Vc rfl (gt _) (Aa rfl) ?_
 simp (maxSteps:=10^6) only[k6,undef,i0,i3,hAp,p0,o0,Cq,Bp,push_cast,↓Int.toNat_natCast,↓reduceIte,reduceCtorEq,Nat.reduceEqDiff,Nat.reduceLT,Nat.reduceAdd]
 (repeat (refine And.intro (by first|omega|decide) ?_))
 refine Axh 3 rfl fun g=>?_
 simp (maxSteps:=10^6) only[push_cast]
 obtain⟨ab,hab⟩:∃ab,ab=abF c.ps.l pn:=⟨_,rfl⟩
 have abl:ab.length≤1000:=by
  rw[hab]
  have:(abF c.ps.l pn).length≤16:=Xs hst (show pn < c.cf.places.length from h3')
  omega
 refine Jz (ι:=Option Addr×Nat) (fun x=>ab.length≤x.2∧x.2≤maxLen) (fun x=>.t [.a (.v (.slice x.1 ab.length x.2)),.a (.v .nilIface)]) (fun x=>[⟨.slice x.1 ab.length x.2,ab.length,ab.map (Value.int .i64)⟩]) 0 rfl rfl Vd rfl (fun γ' w' hS'=>by
  have:=Aes (ow:=No) h (pn:Int) hS'
  rw[hof,htc,Int.toNat_natCast,←hab] at this
  exact this) (fun _ _=>rfl) (Aa rfl) (by simp (maxSteps:=10^6) only[push_cast,Nat.reduceLT,Nat.reduceAdd]) ?_
 rintro⟨A1,cap1⟩ ⟨b1,_⟩
 dsimp only at b1
 simp (maxSteps:=10^6) only[undef,push_cast,↓reduceIte,reduceCtorEq,Nat.reduceEqDiff,Nat.reduceLT,Nat.reduceAdd]
 (repeat (refine And.intro (by first|omega|decide) ?_))
 obtain⟨U,hU⟩:∃U,U=Bk c.ps.l pn c.ps.l.length:=⟨_,rfl⟩
 have hUl:U.length≤16:=by
  rw[hU]
  unfold Bk
  rw[List.length_map]
  have:=List.length_filter_le (fun q:Nat=>decide ((ix c.ps.l q).parent=(pn:Int))) (List.range c.ps.l.length)
  rw[List.length_range] at this
  omega
 have undw:Ad prog w No 93 [.x (.g [.v (.int .i64 c.dim),.v (.slice c.ps.A c.ps.l.length c.ps.c),.v (.slice c.gs.A c.gs.l.length c.gs.c),.v (.int .i64 c.least),.v (.int .i64 c.term)]),.x (.a (.v (.int .i64 pn)))] [.abs (fctRep [⟨.slice A1 ab.length cap1,ab.length,ab.map (Value.int .i64)⟩]),.blk 38 (.c [.v (.int .i64 c.dim),.v (.slice c.ps.A c.ps.l.length c.ps.c),.v (.slice c.gs.A c.gs.l.length c.gs.c),.v (.int .i64 c.least),.v (.int .i64 c.term)]),.mp .i64 [],.pin g 149 (.c [.v (.int .i64 pn),.v (.int .i64 gen),.v (.int .i64 par),.v (.slice A1 ab.length cap1),.v (.slice none 0 0),.o 2,.v (.pointer none),.v (.pointer none),.v (.int .i64 0)])] (.t [.a (.o 4),.a (.v .nilIface)]) ([.abs (fctRep [⟨.slice A1 ab.length cap1,ab.length,ab.map (Value.int .i64)⟩]),.blk 38 (.c [.v (.int .i64 c.dim),.v (.slice c.ps.A c.ps.l.length c.ps.c),.v (.slice c.gs.A c.gs.l.length c.gs.c),.v (.int .i64 c.least),.v (.int .i64 c.term)]),.mp .i64 [],.pin g 149 (.c [.v (.int .i64 pn),.v (.int .i64 gen),.v (.int .i64 par),.v (.slice A1 ab.length cap1),.v (.slice none 0 0),.o 2,.v (.pointer none),.v (.pointer none),.v (.int .i64 0)])]++[.own 3 (.i64 U)]):=by
  have:=Asz (w0:=w) (s:=.x (.g (cfA c))) (pn:Int) (Om h) (hp:=[.abs (fctRep [⟨.slice A1 ab.length cap1,ab.length,ab.map (Value.int .i64)⟩]),.blk 38 (.c [.v (.int .i64 c.dim),.v (.slice c.ps.A c.ps.l.length c.ps.c),.v (.slice c.gs.A c.gs.l.length c.gs.c),.v (.int .i64 c.least),.v (.int .i64 c.term)]),.mp .i64 [],.pin g 149 (.c [.v (.int .i64 pn),.v (.int .i64 gen),.v (.int .i64 par),.v (.slice A1 ab.length cap1),.v (.slice none 0 0),.o 2,.v (.pointer none),.v (.pointer none),.v (.int .i64 0)])]) (by simp (maxSteps:=10^6) only[push_cast,Nat.reduceLT,Nat.reduceAdd])
  rw[hof,htc] at this
  rw[hU]
  exact this
 refine Kq rfl Aay rfl undw (Aa rfl) (fun _=>by simp (maxSteps:=10^6) only[push_cast,Nat.reduceLT,Nat.reduceAdd]) ?_
 simp (maxSteps:=10^6) only[undef,push_cast,↓reduceIte,reduceCtorEq,Nat.reduceEqDiff,Nat.reduceLT,Nat.reduceAdd]
 refine Bj (ι:=Nat×List (Int×SlV Int)×List Fct) (fun x=>⟨[(1,.x (.a (.v (.int .i64 pn)))),(3,.x (.a (.p 1 0))),(10,.x (.a (.p 3 0))),(89,.x (.a (.o 4))),(90,.x (.a (.v (.int .i64 U.length)))),(91,.x (.a (.v (.int .i64 (x.1:Nat)))))],[.abs (fctRep x.2.2),.blk 38 (.c [.v (.int .i64 c.dim),.v (.slice c.ps.A c.ps.l.length c.ps.c),.v (.slice c.gs.A c.gs.l.length c.gs.c),.v (.int .i64 c.least),.v (.int .i64 c.term)]),.mp .i64 (slE x.2.1),.pin g 149 (.c [.v (.int .i64 pn),.v (.int .i64 gen),.v (.int .i64 par),.v (.slice A1 ab.length cap1),.o 4,.o 2,.v (.pointer none),.v (.pointer none),.v (.int .i64 0)]),.own 3 (.i64 U)]⟩)
  (fun x=>x.1≤U.length∧Bw SlV.l x.2.1=Pm c.cf U x.1∧(∀q∈x.2.1,SlF x.2.2 q.2 (Da q.2.l)∧q.2.l.length≤900)∧(⟨.slice A1 ab.length cap1,ab.length,ab.map (Value.int .i64)⟩:Fct)∈x.2.2) (fun x=>U.length - x.1) (0,[],[⟨.slice A1 ab.length cap1,ab.length,ab.map (Value.int .i64)⟩]) [0,1,2,3,4] ⟨Nat.zero_le _,rfl,fun q hq=>(by cases hq),List.mem_singleton.2 rfl⟩ ?_ ?_
 ·have e0:slE ([]:List (Int×SlV Int))=[]:=rfl
  simp (maxSteps:=10^6) only[e0,push_cast,↓Int.cast_ofNat_Int,Int.cast_ofNat_Int,↓reduceIte,reduceCtorEq,Nat.reduceEqDiff,Nat.reduceLT,Nat.reduceAdd]
 rintro⟨i,R,Gs⟩ ⟨j1,j2,j3,j4⟩
 dsimp only at j1 j2 j3 j4
 by_cases hlt:(i:Int) < U.length
 ·have hil:i < U.length:=by omega
  have ii:(0:Int)≤i:=by omega
  have nx:(i:Int)+1≤9223372036854775807:=by omega
  have nx0:-9223372036854775808≤(i:Int)+1:=by omega
  obtain⟨q,hq⟩:∃q,q=ix U i:=⟨_,rfl⟩
  have hqr:0≤q∧q < c.cf.places.length:=by
   have:q∈U:=by rw[hq];exact Ez hil
   rw[hU] at this
   unfold Bk at this
   obtain⟨q',hq1,rfl⟩:=List.mem_map.1 this
   have:=List.mem_range.1 (List.mem_filter.1 hq1).1
   have e:c.cf.places.length=c.ps.l.length:=rfl
   exact⟨Int.natCast_nonneg _,by show (q':Int) < _;omega⟩
  have hqt:=Hd h1 hqr.1 hqr.2
  obtain⟨V,hV⟩:∃V,V=Bk c.ps.l q c.ps.l.length:=⟨_,rfl⟩
  have hVl:V.length≤16:=by
   rw[hV]
   unfold Bk
   rw[List.length_map]
   have:=List.length_filter_le (fun q':Nat=>decide ((ix c.ps.l q').parent=q)) (List.range c.ps.l.length)
   rw[List.length_range] at this
   omega
  have hqo:ofP c.cf q (Bk c.ps.l q c.ps.l.length)=V:=by unfold ofP;rw[if_pos hqt.2,hV]
  simp (maxSteps:=10^6) only[hlt,ii,←hq,push_cast,↓Int.toNat_natCast,↓reduceIte,Nat.reduceEqDiff,Nat.reduceLT,Nat.reduceAdd]
  refine⟨hil,?_⟩
  refine Akf [2] [(0,true),(1,true),(2,true),(3,true),(4,true),(5,true),(6,true),(7,false),(8,true),(9,true),(10,true),(11,false),(12,true)] (by kernel_rfl) (by kernel_rfl) rfl (by kernel_rfl) ?_
  simp (maxSteps:=10^6) only[undef,push_cast,↓reduceIte,reduceCtorEq,Nat.reduceEqDiff,Nat.reduceLT,Nat.reduceAdd]
  (repeat (refine And.intro (by first|omega|decide) ?_))
  refine Azu (ι:=Option Addr×Nat) (fun x=>V.length≤x.2∧x.2≤maxLen) (fun x=>.t [.a (.v (.slice x.1 V.length x.2)),.a (.v .nilIface)]) (fun x=>[.abs (fctRep [⟨.slice x.1 V.length x.2,V.length,V.map (Value.int .i64)⟩])]) rfl Aay rfl (Azx q h V hqo hqt.1 (by simp (maxSteps:=10^6) only[push_cast,Nat.reduceLT,Nat.reduceAdd])) (Aa rfl) (by simp (maxSteps:=10^6) only[push_cast,Nat.reduceLT,Nat.reduceAdd]) (fun _=>rfl) (by
   show ∀r∈_,Res.bnd 5 r
   simp (maxSteps:=10^6) only[Bh,push_cast,Nat.reduceLT]) ?_
  rintro⟨A2,cap2⟩ ⟨b2,_⟩
  dsimp only at b2
  have hput:C3 (slE R) q (.a (.v (.slice A2 V.length cap2)))=slE (Bv R q ⟨A2,cap2,V⟩):=At1 R q ⟨A2,cap2,V⟩
  simp (maxSteps:=10^6) only[hput,undef,push_cast,↓reduceIte,Nat.reduceEqDiff,Nat.reduceLT,Nat.reduceAdd,Int.reduceNeg]
  refine⟨⟨nx0,nx⟩,?_⟩
  refine Atd 0 5 rfl rfl (by simp (maxSteps:=10^6) only[push_cast,Nat.reduceLT,Nat.reduceAdd]) ?_
  simp (maxSteps:=10^6) only[push_cast]
  refine Ba (i+1,Bv R q ⟨A2,cap2,V⟩,Gs++[⟨.slice A2 V.length cap2,V.length,V.map (Value.int .i64)⟩]) [6,1,2,3,4] ⟨by show i+1≤U.length;omega,?_,fun t ht=>?_,List.mem_append_left _ j4⟩ (by show U.length - (i+1) < U.length - i;omega) ?_
  ·show Bw SlV.l (Bv R q ⟨A2,cap2,V⟩)=_
   rw[Adc,j2,Azs hil,←hq,hV]
   rfl
  ·rcases Add ht with e|e
   ·rw[e]
    exact⟨.inr (List.mem_append_right _ (List.mem_singleton.2 rfl)),by show V.length≤900;omega⟩
   ·exact⟨(j3 t e).1.left,(j3 t e).2⟩
  ·simp (maxSteps:=10^6) only[push_cast,↓reduceIte,Nat.reduceEqDiff,Nat.reduceLT,Nat.reduceAdd]
 ·obtain rfl:i=U.length:=by omega
  simp (maxSteps:=10^6) only[hlt,push_cast,↓reduceIte,Nat.reduceEqDiff,Nat.reduceLT,Nat.reduceAdd]
  (repeat (refine And.intro (by first|omega|decide) ?_))
  refine Aei 4 0 (vs:=U.map (Value.int .i64)) rfl (fun _=>rfl) rfl (by decide) fun AU capU bU _=>?_
  rw[List.length_map] at bU ⊢
  simp (maxSteps:=10^6) only[Dn,Ex,Res.sub,Cont.sub,Sv.sub,Sc.sub,At.sub,I5,push_cast,↓reduceIte,Nat.reduceEqDiff]
  have nfew:Mz c.cf (pn:Int)=true:=by
   unfold Mz
   rw[h1,decide_eq_true (show 0≤(pn:Int)∧(pn:Int) < c.cf.places.length from ⟨h2,h3⟩)]
   rfl
  generalize hGU:Gs++[(⟨.slice AU U.length capU,U.length,U.map (Value.int .i64)⟩:Fct)]=GU
  obtain⟨HH,hHH⟩:∃H:List Res,H=[.abs (fctRep GU),.blk 38 (.c [.v (.int .i64 c.dim),.v (.slice c.ps.A c.ps.l.length c.ps.c),.v (.slice c.gs.A c.gs.l.length c.gs.c),.v (.int .i64 c.least),.v (.int .i64 c.term)]),.mp .i64 (slE R),.pin g 149 (.c [.v (.int .i64 pn),.v (.int .i64 gen),.v (.int .i64 par),.v (.slice A1 ab.length cap1),.v (.slice AU U.length capU),.o 2,.v (.pointer none),.v (.pointer none),.v (.int .i64 0)]),.gone]:=⟨_,rfl⟩
  have hHl:HH.length=5:=by rw[hHH];rfl
  have hHb:∀r∈HH,Res.bnd HH.length r:=by
   rw[hHl,hHH]
   simp (maxSteps:=10^6) only[push_cast,Nat.reduceLT]
  have nX:=Ayp (w0:=w) (hp:=HH) (cf:=c.cf) pn (Om h) nfew (by show c.ps.l.length≤900;omega) (fun gr hgr=>by
   obtain⟨g',hg',rfl⟩:=List.mem_map.1 hgr
   exact hb2 g' hg') hHb
  rw[hHl,hHH] at nX
  refine Ac6 (ι:=Nat×SmR×List Fct) (fun x=>x.2.1.s=Sms.new c.cf pn∧x.2.1.heard=[]∧x.2.1.taken=[]∧SmOk x.2.2 x.2.1) (fun _=>.t [.a (.p 5 0),.a (.v .nilIface)]) (fun x=>[.abs (fctRep GU),.blk 38 (.c [.v (.int .i64 c.dim),.v (.slice c.ps.A c.ps.l.length c.ps.c),.v (.slice c.gs.A c.gs.l.length c.gs.c),.v (.int .i64 c.least),.v (.int .i64 c.term)]),.mp .i64 (slE R),.pin g 149 (.c [.v (.int .i64 pn),.v (.int .i64 gen),.v (.int .i64 par),.v (.slice A1 ab.length cap1),.v (.slice AU U.length capU),.o 2,.v (.pointer none),.v (.pointer none),.v (.int .i64 0)]),.gone]++(smB x.1 x.2.1++[Res.abs (fctRep x.2.2)]).map (Res.ren (B6 5 4))) rfl An6 rfl ?_ (Aa rfl) (by simp (maxSteps:=10^6) only[push_cast,Nat.reduceLT,Nat.reduceAdd]) ?_
  ·exact nX
  rintro⟨gs,sm,F2⟩ ⟨s1,s2,s3,s4⟩
  dsimp only at s1 s2 s3 s4
  unfold smB smA
  simp (maxSteps:=10^6) only[B6,rn,undef,push_cast,↓reduceIte,reduceCtorEq,Nat.reduceEqDiff,Nat.reduceLT,Nat.reduceAdd]
  have hhf:=Ts (c:=c.cf) (p:=(pn:Int)) hst c.ps.l.length (Nat.le_refl _)
  have hterm:=Iz.1 (by
   have hcf:=h1
   unfold cfF at hcf
   simp only[Bool.and_eq_true] at hcf
   exact hcf.1.1.1.2:wiF c.cf.term 1 1000=true)
  have hgtK:Ad prog w No 94 [.x (.g [.v (.int .i64 c.dim),.v (.slice c.ps.A c.ps.l.length c.ps.c),.v (.slice c.gs.A c.gs.l.length c.gs.c),.v (.int .i64 c.least),.v (.int .i64 c.term)]),.x (.a (.v (.int .i64 pn)))] [.abs (fctRep GU),.blk 38 (.c [.v (.int .i64 c.dim),.v (.slice c.ps.A c.ps.l.length c.ps.c),.v (.slice c.gs.A c.gs.l.length c.gs.c),.v (.int .i64 c.least),.v (.int .i64 c.term)]),.mp .i64 (slE R),.pin g 149 (.c [.v (.int .i64 pn),.v (.int .i64 gen),.v (.int .i64 par),.v (.slice A1 ab.length cap1),.v (.slice AU U.length capU),.o 2,.v (.pointer none),.p 5 0,.v (.int .i64 0)]),.gone,.pin gs 120 (.c [.v (.int .i64 sm.place),.v (.int .i64 sm.dim),.v sm.spots.val,.o 6,.o 7]),.mp .i64 (iE sm.heard),.mp .i64 (mgE sm.taken),.abs (fctRep F2)] (.x (.a (.v (.int .i64 (Cz c.cf pn c.ps.l.length))))) [.abs (fctRep GU),.blk 38 (.c [.v (.int .i64 c.dim),.v (.slice c.ps.A c.ps.l.length c.ps.c),.v (.slice c.gs.A c.gs.l.length c.gs.c),.v (.int .i64 c.least),.v (.int .i64 c.term)]),.mp .i64 (slE R),.pin g 149 (.c [.v (.int .i64 pn),.v (.int .i64 gen),.v (.int .i64 par),.v (.slice A1 ab.length cap1),.v (.slice AU U.length capU),.o 2,.v (.pointer none),.p 5 0,.v (.int .i64 0)]),.gone,.pin gs 120 (.c [.v (.int .i64 sm.place),.v (.int .i64 sm.dim),.v sm.spots.val,.o 6,.o 7]),.mp .i64 (iE sm.heard),.mp .i64 (mgE sm.taken),.abs (fctRep F2)]:=Bc fun γ w' hS'=>Azl (pn:Int) (h.later hS') h1
  refine B3 [(0,true),(1,true),(2,true),(3,true),(4,false),(5,true),(6,true),(7,true),(8,true)] (by kernel_rfl) (by kernel_rfl) rfl (by kernel_rfl) ?_
  simp (maxSteps:=10^6) only[undef,push_cast,↓reduceIte,reduceCtorEq,Nat.reduceEqDiff,Nat.reduceLT,Nat.reduceAdd]
  (repeat (refine And.intro (by first|omega|decide) ?_))
  refine Kr rfl Aos rfl hgtK (Aa rfl) ?_
  have htm:c.cf.term=c.term:=rfl
  rw[htm] at hterm
  obtain⟨X,hX⟩:∃X,X=Cz c.cf pn c.ps.l.length:=⟨_,rfl⟩
  rw[←hX] at hhf ⊢
  obtain⟨Y,hY⟩:∃Y,Y=c.term*X:=⟨_,rfl⟩
  have hY1:0≤Y∧Y≤16000:=by
   rw[hY]
   have h1:0≤c.term*X:=Int.mul_nonneg (by omega) hhf.1
   have h2:c.term*X≤1000*16:=Int.mul_le_mul hterm.2 hhf.2 hhf.1 (by omega)
   omega
  have y1:-9223372036854775808≤Y:=by omega
  have y2:Y≤9223372036854775807:=by omega
  have y3:-9223372036854775808≤Y*4:=by omega
  have y4:Y*4≤9223372036854775807:=by omega
  simp (maxSteps:=10^6) only[←hY,y1,y2,y3,y4,push_cast,↓reduceIte,Nat.reduceEqDiff,Nat.reduceLT,Nat.reduceAdd,Int.reduceNeg]
  obtain⟨t1,t2,t3⟩:=Azr h1 (show pn < c.cf.places.length from h3') h6
  have etm:tmF c.cf pn=if Y*4 < 1000 then Y*4 else 1000:=by
   unfold tmF
   rw[htm,show c.cf.places.length=c.ps.l.length from rfl,←hX,←hY]
  rw[←etm]
  generalize htmF:tmF c.cf pn=T at*
  have t1:M4 U nee T=true:=by rw[hU,hnee];exact t1
  refine Ac2 (Sk 0 8 rfl rfl (by simp (maxSteps:=10^6) only[push_cast,Nat.reduceLT,Nat.reduceAdd])) ?_
  simp (maxSteps:=10^6) only[push_cast]
  refine Xd (ι:=TalR×List Fct) (fun x=>x.1.t=Tal.new U nee T∧TalOk x.2 x.1) 2 [] 19 (.rd 0 (.rd 1 (.rd 2 (.rd 3 (.rd 5 (.rd 6 (.rd 7 (.rd 8 (.rd 9 (.rd 10 (.rd 11 (.wr 4 (.wr 12 (.rd 13 (.rd 14 (.rd 15 (.rd 16 (.rd 17 (.wr 18 .nil))))))))))))))))))) (fun x=>⟨[(10,.x (.a (.p 0 0))),(145,.x (.a (.v .nilIface)))],[.pin g 149 (.c [.v (.int .i64 pn),.v (.int .i64 gen),.v (.int .i64 par),.v (.slice A1 ab.length cap1),.v (.slice AU U.length capU),.o 2,.p 1 0,.p 3 0,.v (.int .i64 0)]),.blk 170 (.c (tlA x.1)),.mp .i64 (slE R),.pin gs 120 (.c [.v (.int .i64 sm.place),.v (.int .i64 sm.dim),.v sm.spots.val,.o 4,.o 5]),.mp .i64 (iE sm.heard),.mp .i64 (mgE sm.taken),.abs (fctRep (GU++F2++x.2))]⟩) (by kernel_rfl) (by kernel_rfl) (show 2≤10 by omega) ?_ ?_
  ·simp (maxSteps:=10^6) only[undef,i0,i3,hAp,p2,o2,Ce,Bp,push_cast,↓Int.toNat_natCast,↓reduceIte,reduceCtorEq,Nat.reduceEqDiff,Nat.reduceLT,Nat.reduceAdd,Nat.reduceSub]
   refine Azv (ι:=TalR×List Fct) (fun x=>x.1.t=Tal.new U nee T∧TalOk x.2 x.1) (fun _=>.t [.a (.p 10 0),.a (.v .nilIface)]) (fun x=>[Res.blk 170 (.c (tlA x.1)),.abs (fctRep x.2)]) rfl Aot rfl ?_ (Aa rfl) (by simp (maxSteps:=10^6) only[push_cast,Nat.reduceLT,Nat.reduceAdd]) (fun _=>rfl) ?_
   ·refine Azy U AU capU nee T (k:=9) rfl (List.mem_append_left _ ?_) (by omega) t1 (by simp (maxSteps:=10^6) only[push_cast,Nat.reduceLT,Nat.reduceAdd])
    rw[←hGU]
    exact List.mem_append_right _ (List.mem_singleton.2 rfl)
   rintro⟨ty,F3⟩ ⟨u1,u2⟩
   have tb:=fun n=>Eo ty n
   simp only[At.bnd] at tb
   simp (maxSteps:=10^6) only[undef,push_cast,↓reduceIte,reduceCtorEq,Nat.reduceEqDiff,Nat.reduceLT,Nat.reduceAdd,Nat.reduceSub]
   refine⟨(ty,F3),⟨u1,u2⟩,fun a w hf=>Cn [3,10,2,5,6,7,12] ?_ a w (Sk 9 11 rfl rfl ?_ a w hf)⟩
   ·simp (maxSteps:=10^6) only[tb,rn,↓Aw,push_cast,↓reduceIte,Nat.reduceEqDiff,Nat.reduceLT,Nat.reduceAdd]
   ·simp (maxSteps:=10^6) only[tb,push_cast,Nat.reduceLT,Nat.reduceAdd]
  rintro⟨ty,F3⟩ ⟨u1,u2⟩
  dsimp only at u1 u2
  simp (maxSteps:=10^6) only[push_cast,↓reduceIte,Nat.reduceEqDiff,Nat.reduceLT,Nat.reduceAdd]
  have k1:∀f∈GU,f∈GU++F2++F3:=fun f hf=>List.mem_append_left _ (List.mem_append_left _ hf)
  have k2:∀f∈F2,f∈GU++F2++F3:=fun f hf=>List.mem_append_left _ (List.mem_append_right _ hf)
  have k0:∀f∈Gs,f∈GU:=fun f hf=>by rw[←hGU];exact List.mem_append_left _ hf
  refine⟨((g,gs),⟨pn,gen,par,⟨A1,cap1,ab⟩,⟨AU,capU,U⟩,R,ty,sm,0⟩,GU++F2++F3),⟨?_,⟨.inr (k1 _ (k0 _ j4)),.inr (k1 _ (by rw[←hGU];exact List.mem_append_right _ (List.mem_singleton.2 rfl))),fun q hq=>(j3 q hq).1.more fun f hf=>k1 _ (k0 _ hf),u2.more fun f hf=>List.mem_append_right _ hf,s4.more k2,⟨abl,by show U.length≤900;omega,fun q hq=>(j3 q hq).2⟩,by rw[s1];exact Azt h1⟩⟩,A6 [0,1,2,3,4,5,6] ?_⟩
  ·show HbS.mk pn gen par ab U (Bw SlV.l R) ty.t sm.s 0=_
   rw[j2,u1,s1,hnee,←htmF,hpar,hab,hU]
   rfl
  ·unfold hbB hbA
   have tb:=fun n=>Eo ty n
   simp only[At.bnd] at tb
   simp (maxSteps:=10^6) only[tb,rn,SlV.val,↓Aw,push_cast,↓reduceIte,reduceCtorEq,Nat.reduceEqDiff,Nat.reduceLT,Nat.reduceAdd]
end
end Go.Proofs.YtedaafmfjhjfmaaGreatDoor
