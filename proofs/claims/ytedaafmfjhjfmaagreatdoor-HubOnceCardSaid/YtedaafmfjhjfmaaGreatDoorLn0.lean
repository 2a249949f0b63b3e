import Derived.Test.YtedaafmfjhjfmaaGreatDoorGn
import Derived.Test.YtedaafmfjhjfmaaGreatDoorLfG
import Derived.Test.YtedaafmfjhjfmaaGreatDoorPt4
import Derived.Test.YtedaafmfjhjfmaaGreatDoorPs2
import Derived.Test.YtedaafmfjhjfmaaGreatDoorLwI
/- append of a slice of structs, as it lies there, to one of the call's own. No program in sight. -/
namespace Go.Proofs.YtedaafmfjhjfmaaGreatDoor
open _root_.Go.Proofs.Tryz
open Go.RowKit
set_option linter.unusedSimpArgs false
set_option linter.unusedVariables false
section
section
variable {P:Program} {w0:World} {ow:Nat→Prop} {n:Nat}
theorem Aw9 {k m nd cp:Nat} {e t:TypeId} {l:List At} {A:Option Addr} {vs:List Value} {z:Cont} {x y:Operand} {ops:List Oper} {o:Oper} {rest:List Oper} {s:S} {K:S→Prop} (ho:o.op=.call {callee:=.builtin .append,args:=#[x,y],argTypes:=#[t,t]}) (hx:Fr.ev s.fr x=some (.x (.a (.o k)))) (hy:Fr.ev s.fr y=some (.x (.a (.v (.slice A nd cp)))))
  (hk:s.hp[k]?=some (.onn e m (.c l))) (ht:P.underlying t=some (.slice e)) (hm:0 < m) (hlen:vs.length=nd*m) (hnd:0 < nd) (hone:∀v∈vs,v.oneCell'=true∧scalar v) (hsz:sz P e=m) (hz:z.len=m) (hzo:ZOk P e z) (hb1:(l.length / m+nd)*bz P e≤140737488355328) (hb2:l.length / m+nd≤maxLen)
  (hv:∀γ w,Sat w0 ow γ s.hp w→RdV w w.heap.size A vs) (hd:dOk n o.dst) (hb:s.bnd)
  (h:Ai P w0 ow n ops rest (S.put ⟨s.fr,s.hp.set k .gone++[.onn e m (.c (l++vC vs))]⟩ o.dst (.x (.a (.o s.hp.length)))) K):Ah P w0 ow n ops o rest s K:=by
 rintro a w ⟨γ,hfit⟩ hw
 have hvp:0 < vs.length:=by rw[hlen];exact Nat.mul_pos hnd hm
 obtain⟨b,off,hA,_,hcell⟩:=hv γ w hfit.sat hvp
 have hvv:∀γ:List Nm,(Cont.c (vC vs)).vals γ=vs:=fun γ=>Jy γ vs
 obtain⟨γ',w',hrun,hS',_,nm,hnm⟩:=Nq (P:=P) (t:=t) (ty:=o.type) (e:=e) (m:=m) (nd:=nd) (k:=some k) (ct:=some (.c l)) (z:=z) (q:=.c (vC vs)) (c':=.c (l++vC vs)) (b:=.x (.a (.o k))) hfit.sat hb.2 ht hm
  (by simp only[Il,hk,and_self,if_true]) rfl (.slice A nd cp) (.inl ⟨⟨b,off,none⟩,cp,by rw[hA],fun j u hu=>by rw[hvv] at hu;rw[Bu];exact hcell j u hu⟩) (by show (vC vs).length=_;rw[Ib];exact hlen)
  (fun x hx=>by
   obtain⟨v,hv,rfl⟩:=List.mem_map.1 hx
   exact (hone v hv).1) hsz hz hzo hb1 hb2 (fun x hx=>by
   obtain⟨v,hv,rfl⟩:=List.mem_map.1 hx
   trivial)
 have e1:a.eval x=(Sv.x (.a (.o k))).val γ:=hfit.ev hx
 have e2:a.eval y=.slice A nd cp:=hfit.ev hy
 unfold wpList
 rw[if_pos hw]
 refine .inl ?_
 unfold Oper.wp
 rw[Tz x y t ho _ _ e1 e2 _ w' hrun]
 simp only[Oper.upon]
 exact C4 rest _ _ _ h ⟨γ',hfit.put hS' (fun u sv hu=>by rw[hnm];exact Sv.ext (by rw[hfit.sat.len];exact hb.1 _ (Fr.get_mem hu))) hd rfl⟩
theorem Axa {ops:List Oper} {i:Nat} {rd:Bool} {o:Oper} {p:List (Nat×Bool)} {s:S} {K:S→Prop} (t:Nat) (l:List UInt64) (ht:Fr.get s.fr t=some (.x (.a64 l))) (h:Al P w0 ow n ops ((i,rd)::p) ⟨(t,.x (.g (l.map fun x=>.v (vU64 x))))::s.fr,s.hp⟩ K):AnyM P w0 ow n ops i rd o p s K:=fun γ a w hfit _ _=>by
 have hf':FitsAt w0 ow n γ ⟨(t,.x (.g (l.map fun x=>.v (vU64 x))))::s.fr,s.hp⟩ a w:=⟨hfit.sat,hfit.defers,hfit.size,fun u sv' hu=>by
  by_cases e:t=u
  ·subst e
   simp only[Fr.get,if_true,Option.some.injEq] at hu
   subst hu
   rw[hfit.at_ t _ ht]
   show Value.agg (arr64 l)=.agg ((l.map fun x=>At.v (vU64 x)).map (At.val γ)).toArray
   rw[List.map_map]
   rfl
  ·simp only[Fr.get,if_neg e] at hu
   exact hfit.at_ u sv' hu⟩
 exact Iq ((i,rd)::p) ⟨(t,.x (.g (l.map fun x=>.v (vU64 x))))::s.fr,s.hp⟩ γ a w h hf'
end
end
section
def Ct:List UInt64→List (UInt64×UInt64)
 |a::b::r=>(a,b)::Ct r
 |_=>[]
def Sms.all (s:Sms) (ge:Int):MgS:={D1 6 with pl:=s.place,ge:=ge,ids:=Mj s,ps:=D5 prK (s.msgs.flatMap (·.ps)),ns:=(D5 paK (s.msgs.flatMap fun m=>Ct m.ns)).flatMap fun p=>[p.1,p.2],xs:=Jv s}
structure MW (Fs:List Fct) (m:MgR):Prop where
 s:m.sm.length=32
 ids:SlF Fs m.ids (m.ids.l.map (Value.int .i64))
 ns:SlF Fs m.ns (m.ns.l.map vU64)
 ps:SlF Fs m.ps (pvs m.ps.l)
 xs:SlF Fs m.xs (m.xs.l.map Ap)
def mgS (m:MgR) (a b:At):List At:=mgL (.v (vU8 m.k)) (.v (.int .i64 m.pl)) (.v (.int .i64 m.ot)) (.v (.int .i64 m.cl)) (.v (.int .i64 m.ge)) (.v (vU64 m.nu)) m.sm (.v m.ids.val) a b (.v m.xs.val) (.v (.int .i64 m.re))
theorem Axb (m:MgR):mgA m=mgS m (.v m.ns.val) (.v m.ps.val):=rfl
theorem Axc (m:MgR) (y:SlV UInt64) (z:SlV Pr):mgS m (.v y.val) (.v z.val)=mgA {m with ns:=y,ps:=z}:=rfl
theorem Axd {q:At→Prop} (m:MgR) (a b:At) (h:∀v:Value,v.oneCell'=true→scalar v→q (.v v)):(∀x∈mgS m a b,q x)=(q a∧q b):=by
 refine propext ⟨fun hx=>⟨hx a ?_,hx b ?_⟩,fun⟨ha,hb⟩=>On (fun _=>h _ rfl trivial) (h _ rfl trivial) (h _ rfl trivial) (h _ rfl trivial) (h _ rfl trivial) (h _ rfl trivial) (h _ rfl trivial) (h _ rfl trivial) ha hb (h _ rfl trivial) (h _ rfl trivial)⟩
 ·unfold mgS mgL;simp
 ·unfold mgS mgL;simp
theorem Aee (m:MgR) (a b:At) (n:Nat):(∀x∈mgS m a b,x.bnd n)=(a.bnd n∧b.bnd n):=Axd m a b fun _ _ _=>trivial
theorem Ep (m:MgR) (a b:At) (n:Nat):Cont.bnd n (.c (mgS m a b))=(a.bnd n∧b.bnd n):=Aee m a b n
theorem Axe (ρ:List Nat) (m:MgR) (a b:At):(mgS m a b).map (At.ren ρ)=mgS m (a.ren ρ) (b.ren ρ):=Oo ..
theorem Mw (ρ:List Nat) (m:MgR) (a b:At):Cont.ren ρ (.c (mgS m a b))=.c (mgS m (a.ren ρ) (b.ren ρ)):=by
 show Cont.c _=_
 rw[Axe]
theorem Aef (j:Nat) (v:Value) (m:MgR) (a b:At):(mgS m a b).map (At.sub j v)=mgS m (a.sub j v) (b.sub j v):=by
 unfold mgS mgL
 rw[List.map_append,List.map_append,List.map_map]
 rfl
theorem W0 {m:MgR} (h:m.sm.length=32) (a b:At):(mgS m a b).length=43:=K9 h
theorem Mx {m:MgR} (h:m.sm.length=32) (a b:At):(∀d,(mgS m a b).getD 38 d=.v m.ids.val)∧(∀d,(mgS m a b).getD 39 d=a)∧(∀d,(mgS m a b).getD 40 d=b)∧(∀d,(mgS m a b).getD 41 d=.v m.xs.val):=by
 obtain⟨_,_,_,_,_,_,h1,h2,h3,h4,_⟩:=Ack (k:=.v (vU8 m.k)) (pl:=.v (.int .i64 m.pl)) (ot:=.v (.int .i64 m.ot)) (cl:=.v (.int .i64 m.cl)) (ge:=.v (.int .i64 m.ge)) (nu:=.v (vU64 m.nu)) (i:=.v m.ids.val) (n:=a) (p:=b) (x:=.v m.xs.val) (r:=.v (.int .i64 m.re)) h
 exact⟨h1,h2,h3,h4⟩
theorem Axf {m:MgR} (h:m.sm.length=32) (a b:At):(mgS m a b)[39]?=some a:=by
 have hl:=W0 h a b
 have hg:=(Mx h a b).2.1 (.v undef)
 rw[List.getD_eq_getElem?_getD,List.getElem?_eq_getElem (by omega)] at hg
 rw[List.getElem?_eq_getElem (by omega)]
 exact congrArg some hg
theorem O6 {m:MgR} (h:m.sm.length=32) (a b:At):(∀y:SlV Int,(mgS m a b).set 38 (.v y.val)=mgS {m with ids:=y} a b)∧(∀y:At,(mgS m a b).set 39 y=mgS m y b)∧(∀y:At,(mgS m a b).set 40 y=mgS m a y)∧(∀y:SlV UInt32,(mgS m a b).set 41 (.v y.val)=mgS {m with xs:=y} a b):=by
 have:=fun y:At=>Lc (.v (vU8 m.k)) (.v (.int .i64 m.pl)) (.v (.int .i64 m.ot)) (.v (.int .i64 m.cl)) (.v (.int .i64 m.ge)) (.v (vU64 m.nu)) m.sm (.v m.ids.val) a b (.v m.xs.val) (.v (.int .i64 m.re)) y h
 have g:=fun {q:At} (y:At)=>this y
 exact⟨fun y=>(g (q:=a) _).2.2.2.2.2.2.1,fun y=>(g (q:=a) _).2.2.2.2.2.2.2.1,fun y=>(g (q:=a) _).2.2.2.2.2.2.2.2.1,fun y=>(g (q:=a) _).2.2.2.2.2.2.2.2.2.1⟩
section
variable {P:Program} {w0:World} {ow:Nat→Prop} {n:Nat}
theorem Aeg {ops rest:List Oper} {o:Oper} {s:S} {K:S→Prop} {e:TypeId} {m:Nat} {c:Cont} {vs:List Value} {l:List Fct} (j k n':Nat) (hj:s.hp[j]?=some (.onn e m c)) (hv:∀γ,c.vals γ=vs) (hn:vs.length=n'*m) (hk:s.hp[k]?=some (.abs (fctRep l))) (hjk:j≠k)
  (h:∀A cap,Ah P w0 ow n ops o rest (Dn j k (.slice A n' cap) (l++[⟨.slice A n' cap,n',vs⟩]) s) K):Ah P w0 ow n ops o rest s K:=fun a w hf=>by
 obtain⟨A,cap,h3⟩:=Wk hj hv hn hk hjk hf
 exact h A cap a w h3
theorem Aeh {w0:World} {ow:Nat→Prop} {hp:List Res} {a b:List Int} {s1 s2:Sv} (ha:a.length≤1000000) (hb:b.length≤1000000) (h1:Bg w0 ow hp s1 (a.map (Value.int .i64))) (h2:Bg w0 ow hp s2 (b.map (Value.int .i64))):∀γ w,Sat w0 ow γ hp w→Calls prog 27 (List.map (Sv.val γ) [s1,s2]).toArray w fun en w'=>∃v',en=.returned v'∧Own w' w.heap.size 3 v' ((Ak a b).map (Value.int .i64))∧Below w.heap.size w w':=
 Mk (svs:=[]) (Q:=fun w en w'=>∃v',en=.returned v'∧Own w' w.heap.size 3 v' ((Ak a b).map (Value.int .i64))∧Below w.heap.size w w') h1 h2 fun A c A2 c2 w hc hc2 r1 r2=>by
  rw[List.length_map] at hc hc2 ⊢
  rw[List.length_map]
  exact R5 a b A A2 c c2 w ha hb hc hc2 r1 r2
end
end
section
attribute [local irreducible] Ac Ad Ah Au Ao Aj Ai Al
attribute [local irreducible] A9 okV Ak erV Tal.can Tal.st B1 Bq
def A24 (r:LfR):MgS:={D1 15 with pl:=r.place,ge:=r.gen}
section
variable {r:LfR} {g:Nat} {w:World} {B:Nat→Prop} {γ:List Nm} {Fs:List Fct}
end
end
section
section
variable {P:Program} {w0 w:World} {ow:Nat→Prop} {γ:List Nm} {hp:List Res} {n:Nat}
theorem Sat.toPin {k:Nat} {t:TypeId} {c:Cont} (h:Sat w0 ow γ hp w) (hk:hp[k]?=some (.blk t c)):Sat w0 ow γ (hp.set k (.pin (nmB γ k) t c)) w:=by
 have hlt:k < hp.length:=Ax hk
 have g:∀(j:Nat) (r:Res),(hp.set k (.pin (nmB γ k) t c))[j]?=some r→(j=k∧r=.pin (nmB γ k) t c)∨(j≠k∧hp[j]?=some r):=fun j r hj=>by
  by_cases e:j=k
  ·subst e
   rw[List.getElem?_set_self hlt] at hj
   exact .inl ⟨rfl,(Option.some.inj hj).symm⟩
  ·rw[List.getElem?_set_ne (fun h=>e h.symm)] at hj
   exact .inr ⟨e,hj⟩
 have has:∀(j:Nat) (r:Res),(hp.set k (.pin (nmB γ k) t c))[j]?=some r→∃r',hp[j]?=some r'∧r'.has γ j=r.has γ j:=fun j r hj=>by
  rcases g j r hj with ⟨rfl,rfl⟩|⟨_,h2⟩
  ·exact⟨_,hk,rfl⟩
  ·exact⟨_,h2,rfl⟩
 refine⟨h.keeps,by rw[List.length_set];exact h.len,fun j r hj=>?_,fun j r b hj hb=>?_,fun i j r r' b hi hj hne hb=>?_⟩
 ·rcases g j r hj with ⟨rfl,rfl⟩|⟨_,h2⟩
  ·obtain⟨q1,q2⟩:=h.holds _ _ hk
   exact⟨q1,rfl,q2⟩
  ·exact h.holds _ _ h2
 ·obtain⟨r',h1,h2⟩:=has j r hj
  exact h.mine j r' b h1 (by rw[h2];exact hb)
 ·obtain⟨r1,h1,h2⟩:=has i r hi
  obtain⟨r2,h3,h4⟩:=has j r' hj
  have:=h.apart i j r1 r2 b h1 h3 hne (by rw[h2];exact hb)
  rw[h4] at this
  exact this
theorem Axg {s:S} {a:Act} {k:Nat} {t:TypeId} {c:Cont} (hk:s.hp[k]?=some (.blk t c)) (hf:Fits w0 ow n s a w):∃g,Fits w0 ow n ⟨s.fr,s.hp.set k (.pin g t c)⟩ a w:=by
 obtain⟨γ,hf⟩:=hf
 exact⟨nmB γ k,γ,hf.sat.toPin hk,hf.defers,hf.size,hf.at_⟩
theorem Axh {ops rest:List Oper} {o:Oper} {s:S} {K:S→Prop} (k:Nat) {t:TypeId} {c:Cont} (hk:s.hp[k]?=some (.blk t c)) (h:∀g,Ah P w0 ow n ops o rest ⟨s.fr,s.hp.set k (.pin g t c)⟩ K):Ah P w0 ow n ops o rest s K:=fun a w hf=>by
 obtain⟨g,h1⟩:=Axg hk hf
 exact h g a w h1
theorem Aei {ops rest:List Oper} {o:Oper} {s:S} {K:S→Prop} {e:TypeId} {c:Cont} {vs:List Value} {l:List Fct} (j k:Nat) (hj:s.hp[j]?=some (.own e c)) (hv:∀γ,c.vals γ=vs) (hk:s.hp[k]?=some (.abs (fctRep l))) (hjk:j≠k)
  (h:∀A cap,vs.length≤cap→cap≤maxLen→Ah P w0 ow n ops o rest (Dn j k (.slice A vs.length cap) (l++[⟨.slice A vs.length cap,vs.length,vs⟩]) s) K):Ah P w0 ow n ops o rest s K:=fun a w hf=>by
 obtain⟨A,cap,h1,h2,h3⟩:=Vu hj hv hk hjk hf
 exact h A cap h1 h2 a w h3
theorem W1 {e:TypeId} {vs:List Value} {v':Value} {w w':World} (hO:Own w' w.heap.size e v' vs) (hB:Below w.heap.size w w'):∃(x:Option Addr×Nat) (γ1:List Nm),(vs.length≤x.2∧x.2≤maxLen)∧v'=.slice x.1 vs.length x.2∧Sat w No γ1 [.abs (fctRep [⟨.slice x.1 vs.length x.2,vs.length,vs⟩])] w':=by
 have hS1:Sat w No [.s v'] [.own e (.vs vs)] w':=by
  have:=(Sat.init w No).got (γ:=[]) (hp:=[]) (fun r hr=>by cases hr) hB (c:=.vs vs) (e:=e) (v:=v') trivial hO
  exact this
 obtain⟨A,cap,h1,h2,h3,h4⟩:=N8 (j:=0) (e:=e) (c:=.vs vs) hS1 rfl (fun _=>rfl)
 have h1:v'=.slice A vs.length cap:=h1
 subst h1
 have hbr:∀r∈[Res.own e (.vs vs)],Res.bnd [Res.own e (.vs vs)].length r:=fun r hr=>by
  rw[List.mem_singleton.1 hr];trivial
 have hp:=hS1.pack [0] hbr (R:=fctRep [⟨.slice A vs.length cap,vs.length,vs⟩]) (x:=.bool true) (B:=fun b=>(nmS [.s (.slice A vs.length cap)] 0).ownBlock=some b) (fun b hb=>⟨0,_,by simp,rfl,hb⟩) ⟨rfl,fun f hf=>by rw[List.mem_singleton.1 hf];exact h4⟩
 have hle:Ir [1] (goneAll [0] [Res.own e (.vs vs)]++[Res.abs (fctRep [⟨.slice A vs.length cap,vs.length,vs⟩])]) [1] [.abs (fctRep [⟨.slice A vs.length cap,vs.length,vs⟩])]:=by
  simp only[push_cast]
 obtain⟨h5,_⟩:=hp.sel hle (by simp only[push_cast]) (fun r hr=>by rw[List.mem_singleton.1 hr];trivial)
 exact⟨(A,cap),_,⟨h2,h3⟩,rfl,h5⟩
end
theorem Aej (l:List PlS):∀(k:Nat) (q:Int) (acc:List Int),(Do l k q acc).length≤acc.length+k
 |0,q,acc=>by simp [Do]
 |k+1,q,acc=>by
  rw[Do]
  by_cases h:0≤q
  ·rw[if_pos h]
   refine Nat.le_trans (Aej l k _ _) ?_
   rw[List.length_append]
   show acc.length+1+k≤_
   omega
  ·rw[if_neg h]
   omega
def A25 (c:CfS) (p gen:Int):Bool:=cfF c&&decide (1≤gen∧gen≤1073741824)&&decide (0≤p∧p < c.places.length)&&decide (0≤B2 c p)
def nwA (r:LfR):List At:=[.v (.int .i64 r.place),.v (.int .i64 r.gen),.v (.int .i64 r.dim),.v (.int .i64 r.term),.v (.int .i64 r.need),.v (.int .i64 r.parent),.v r.above.val,.v r.group.val,.v (.int .i64 r.phase),.v r.waits.val,.v (.pointer none),.v r.joined.val,.o 2,.o 3,.o 4]++mgA r.sum
def nwB (g:Nat) (r:LfR):List Res:=[.pin g 104 (.c (nwA r)),.abs (fctRep []),.mp .i64 (puE r.pub),bxR r,.mp .i64 (slE r.rows)]
attribute [local irreducible] Ac Ad Ah Au Ao Aj Ai Al
end
end Go.Proofs.YtedaafmfjhjfmaaGreatDoor
