import Derived.Test.YtiaeollemmkclaaDoorMg7
import Derived.Test.YtiaeollemmkclaaDoorEn3
import Derived.Test.YtiaeollemmkclaaDoorDrA
/- Calls that turn two variables of their caller's; messages whose slices are the call's own. -/
namespace Go.Proofs.YtiaeollemmkclaaDoor
open Go.RowKit
set_option linter.unusedSimpArgs false
set_option linter.unusedVariables false
section
variable {P:Program} {w0 w w':World} {ow:Nat→Prop} {f:FuncId} {svs:List Sv} {hp hp':List Res} {γ γ1:List Nm}
theorem Sat.pinned {k m:Nat} {t:TypeId} {c c1:Cont} (hS:Sat w0 ow γ hp w) (hpk:B3 hp[k]?=some (t,c)) (h':Sat w0 ow (γ++γ1) hp' w') (hm:hp'[m]?=some (.pin (nmB γ k) t c1)) (hgone:hp'[k]?=some .gone)
  (hbr:∀r∈hp',Res.bnd hp'.length r) (hbr':(bput hp[k]? t c1).bnd hp'.length):Sat w0 ow (γ++γ1) (Eo m k (bput hp[k]? t c1) hp') w':=by
 have hl:=hS.len
 obtain⟨hn,_,r0,hr0,_,_,_⟩:=hS.bv hpk
 have hkl:=B8 hr0
 have hnn:(γ++γ1)[k]?=some (.b (nmB γ k)):=by rw[List.getElem?_append_left (by omega)];exact hn
 obtain⟨hp1',hp2',hp3'⟩:=h'.holds _ _ hm
 rw[hp2'] at hp3'
 have hr':(bput hp[k]? t c1).holds (γ++γ1) k w'∧(∀d,(bput hp[k]? t c1).has (γ++γ1) k d→d=nmB γ k):=by
  have e1:nmB (γ++γ1) k=nmB γ k:=Fe (by omega)
  cases hq:hp[k]? with
  |none=>rw[hq] at hpk;cases hpk
  |some r=>
   have hh:=hS.holds k r hq
   rw[hq] at hpk
   cases r with
   |blk t' c'=>exact⟨⟨by rw[e1];exact hnn,by rw[e1];exact hp3'⟩,fun d hd=>by
    have hd:some (nmB (γ++γ1) k)=some d:=hd
    rw[e1] at hd
    exact (Option.some.inj hd).symm⟩
   |pin g t' c'=>
    obtain⟨_,h2,_⟩:=hh
    exact⟨⟨by rw[e1];exact hnn,by rw[e1];exact h2,by rw[e1];exact hp3'⟩,fun d hd=>by
    have hd:some (nmB (γ++γ1) k)=some d:=hd
    rw[e1] at hd
    exact (Option.some.inj hd).symm⟩
   |own e c'=>cases hpk
   |lit e c'=>cases hpk
   |str e c'=>cases hpk
   |it s pos=>cases hpk
   |onn e m c'=>cases hpk
   |abs R=>cases hpk
   |mp q l=>cases hpk
   |gone=>cases hpk
 exact (h'.move hm hgone hnn hr'.1 hr'.2 hbr hbr').1
def p2A (hp:List Res) (ks:List Nat) (t t2:TypeId) (d d2:Cont) (new:List Res) (g g2:Nat):List Res:=goneAll ks hp++(Res.pin g t d:: .pin g2 t2 d2::new).map (Res.ren (A7 hp.length (new.length+2)))
def p2B (hp:List Res) (ks:List Nat) (k:Nat) (t t2:TypeId) (d d2:Cont) (new:List Res) (g g2:Nat):List Res:=Eo (hp.length+0) k (bput hp[k]? t (d.ren (A7 hp.length (new.length+2)))) (p2A hp ks t t2 d d2 new g g2)
def p2S (hp:List Res) (ks:List Nat) (k k2:Nat) (t t2:TypeId) (d d2:Cont) (new:List Res) (g g2:Nat):List Res:=
 Eo (hp.length+1) k2 (bput hp[k2]? t2 ((d2.ren (A7 hp.length (new.length+2))).ren (mvL (hp.length+0) k (hp.length+(new.length+2))))) (p2B hp ks k t t2 d d2 new g g2)
theorem W6 (hp:List Res) (ks:List Nat) (t t2:TypeId) (d d2:Cont) (new:List Res) (g g2:Nat):(p2A hp ks t t2 d d2 new g g2).length=hp.length+(new.length+2):=by
 unfold p2A
 rw[List.length_append,List.length_map,J9]
 rfl
theorem Add (hp:List Res) (ks:List Nat) (k:Nat) (t t2:TypeId) (d d2:Cont) (new:List Res) (g g2:Nat):(p2B hp ks k t t2 d d2 new g g2).length=hp.length+(new.length+2):=by
 unfold p2B Eo
 rw[List.length_map,List.length_set,List.length_set,W6]
theorem A6p (ks:List Nat) (k k2:Nat) {t t2:TypeId} {c c2:Cont} (d d2:Cont) (new:List Res) (v:Value) (hpk:B3 hp[k]?=some (t,c)) (hpk2:B3 hp[k2]?=some (t2,c2))
  (hbr:∀r∈hp,Res.bnd hp.length r) (hb1:∀g g2,∀r∈(Res.pin g t d:: .pin g2 t2 d2::new),Res.bnd (new.length+2) r)
  (hbA:∀g g2,∀r∈p2A hp ks t t2 d d2 new g g2,Res.bnd (hp.length+(new.length+2)) r) (hbB:∀g g2,∀r∈p2B hp ks k t t2 d d2 new g g2,Res.bnd (hp.length+(new.length+2)) r)
  (hbp:(bput hp[k]? t (d.ren (A7 hp.length (new.length+2)))).bnd (hp.length+(new.length+2))) (hbp2:(bput hp[k2]? t2 ((d2.ren (A7 hp.length (new.length+2))).ren (mvL (hp.length+0) k (hp.length+(new.length+2))))).bnd (hp.length+(new.length+2)))
  (hm1:∀g g2,(p2A hp ks t t2 d d2 new g g2)[hp.length+0]?=some (.pin g t (d.ren (A7 hp.length (new.length+2))))) (hg1:∀g g2,(p2A hp ks t t2 d d2 new g g2)[k]?=some .gone)
  (hm2:∀g g2,(p2B hp ks k t t2 d d2 new g g2)[hp.length+1]?=some (.pin g2 t2 ((d2.ren (A7 hp.length (new.length+2))).ren (mvL (hp.length+0) k (hp.length+(new.length+2)))))) (hg2:∀g g2,(p2B hp ks k t t2 d d2 new g g2)[k2]?=some .gone)
  (hgg:∀g g2,p2S hp ks k k2 t t2 d d2 new g g2=p2S hp ks k k2 t t2 d d2 new 0 0)
  (h:∀γ w,Sat w0 ow γ hp w→∃X:Nat→Prop,(∀b,X b→∃(k:Nat) (r:Res),k∈ks∧hp[k]?=some r∧r.has γ k b)∧Calls P f (svs.map (Sv.val γ)).toArray w fun e w'=>∃γ1,e=.returned v∧Sat w X γ1 (.pin (nmB γ k) t d:: .pin (nmB γ k2) t2 d2::new) w'):
  Ad P w0 ow f svs hp (.x (.a (.v v))) (p2S hp ks k k2 t t2 d d2 new 0 0):=fun γ w hS=>by
 obtain⟨X,hX,hc⟩:=h γ w hS
 refine hc.mono fun e w' ⟨γ1,he,h1⟩=>⟨γ1,he,?_⟩
 have hbk:=hS.back ks hX h1 hbr (hb1 _ _)
 have hbk:Sat w0 ow (γ++γ1) (p2A hp ks t t2 d d2 new (nmB γ k) (nmB γ k2)) w':=hbk
 have h2:=hS.pinned hpk hbk (hm1 _ _) (hg1 _ _) (by rw[W6];exact hbA _ _) (by rw[W6];exact hbp)
 have h2:Sat w0 ow (γ++γ1) (p2B hp ks k t t2 d d2 new (nmB γ k) (nmB γ k2)) w':=h2
 have h3:=hS.pinned hpk2 h2 (hm2 _ _) (hg2 _ _) (by rw[Add];exact hbB _ _) (by rw[Add];exact hbp2)
 rw[←hgg (nmB γ k) (nmB γ k2)]
 exact h3
end
attribute [push_cast] p2A p2B p2S
def mgO (m:MgS) (a b c d:Nat):List At:=mgL (.v (vU8 m.k)) (.v (.int .i64 m.pl)) (.v (.int .i64 m.ot)) (.v (.int .i64 m.cl)) (.v (.int .i64 m.ge)) (.v (vU64 m.nu)) m.sm (.o a) (.o b) (.o c) (.o d) (.v (.int .i64 m.re))
section
variable {m:MgS} {a b c d:Nat}
theorem Eu (h:m.sm.length=32):(mgO m a b c d).length=43:=O8 h
theorem G1 (h:m.sm.length=32) (a b c d:Nat):(∀x,(mgO m a b c d).getD 0 x=.v (vU8 m.k))∧(∀x,(mgO m a b c d).getD 1 x=.v (.int .i64 m.pl))∧(∀x,(mgO m a b c d).getD 2 x=.v (.int .i64 m.ot))∧(∀x,(mgO m a b c d).getD 3 x=.v (.int .i64 m.cl))∧(∀x,(mgO m a b c d).getD 4 x=.v (.int .i64 m.ge))∧(∀x,(mgO m a b c d).getD 5 x=.v (vU64 m.nu))∧
  (∀x,(mgO m a b c d).getD 38 x=.o a)∧(∀x,(mgO m a b c d).getD 39 x=.o b)∧(∀x,(mgO m a b c d).getD 40 x=.o c)∧(∀x,(mgO m a b c d).getD 41 x=.o d)∧(∀x,(mgO m a b c d).getD 42 x=.v (.int .i64 m.re)):=Ss h
theorem Jk {k pl ot cl ge nu:At} {sm:List UInt8} {i n p x r:At}:i∈mgL k pl ot cl ge nu sm i n p x r∧n∈mgL k pl ot cl ge nu sm i n p x r∧p∈mgL k pl ot cl ge nu sm i n p x r∧x∈mgL k pl ot cl ge nu sm i n p x r:=by
 unfold mgL
 simp
theorem Ade {q:At→Prop} (h:∀v:Value,v.oneCell'=true→scalar v→q (.v v)) (m:MgS) (a b c d:Nat):(∀x∈mgO m a b c d,q x)=(q (.o a)∧q (.o b)∧q (.o c)∧q (.o d)):=propext ⟨fun e=>⟨e _ Jk.1,e _ Jk.2.1,e _ Jk.2.2.1,e _ Jk.2.2.2⟩,fun⟨e1,e2,e3,e4⟩=>St (fun _=>h _ rfl trivial) (h _ rfl trivial) (h _ rfl trivial) (h _ rfl trivial) (h _ rfl trivial) (h _ rfl trivial) (h _ rfl trivial) e1 e2 e3 e4 (h _ rfl trivial)⟩
theorem Nh (m:MgS) (a b c d:Nat) (hp:List Res):(∀x∈mgO m a b c d,x.one hp)=((At.o a).one hp∧(At.o b).one hp∧(At.o c).one hp∧(At.o d).one hp):=Ade (fun v h _=>h) m a b c d
theorem Dx (m:MgS) (a b c d n:Nat):(∀x∈mgO m a b c d,x.bnd n)=(a < n∧b < n∧c < n∧d < n):=Ade (fun v _ _=>trivial) m a b c d
theorem A6q (m:MgS) (a b c d n:Nat):Cont.bnd n (.c (mgO m a b c d))=(a < n∧b < n∧c < n∧d < n):=Dx m a b c d n
theorem A6r (m:MgS) (a b c d n:Nat):Sc.bnd n (.g (mgO m a b c d))=(a < n∧b < n∧c < n∧d < n):=Dx m a b c d n
theorem A6s (m:MgS) (a b c d n:Nat):Sv.bnd n (.x (.g (mgO m a b c d)))=(a < n∧b < n∧c < n∧d < n):=Dx m a b c d n
theorem Ni (m:MgS) (a b c d:Nat) (ρ:List Nat):(mgO m a b c d).map (At.ren ρ)=mgO m (rn ρ a) (rn ρ b) (rn ρ c) (rn ρ d):=Wc ..
theorem Ci (m:MgS) (a b c d:Nat) (ρ:List Nat):Cont.ren ρ (.c (mgO m a b c d))=.c (mgO m (rn ρ a) (rn ρ b) (rn ρ c) (rn ρ d)):=by
 show Cont.c _=_
 rw[Ni]
theorem Adf (m:MgS) (a b c d:Nat) (ρ:List Nat):Sc.ren ρ (.g (mgO m a b c d))=.g (mgO m (rn ρ a) (rn ρ b) (rn ρ c) (rn ρ d)):=by
 show Sc.g _=_
 rw[Ni]
theorem W7 (m:MgS) (a b c d:Nat) (ρ:List Nat):Sv.ren ρ (.x (.g (mgO m a b c d)))=.x (.g (mgO m (rn ρ a) (rn ρ b) (rn ρ c) (rn ρ d))):=by
 show Sv.x (Sc.g _)=_
 rw[Ni]
theorem Hi (k pl ot cl ge nu:At) (sm:List UInt8) (i n p x r y:At) (h:sm.length=32):
  (mgL k pl ot cl ge nu sm i n p x r).set 0 y=mgL y pl ot cl ge nu sm i n p x r∧(mgL k pl ot cl ge nu sm i n p x r).set 1 y=mgL k y ot cl ge nu sm i n p x r∧(mgL k pl ot cl ge nu sm i n p x r).set 2 y=mgL k pl y cl ge nu sm i n p x r∧(mgL k pl ot cl ge nu sm i n p x r).set 3 y=mgL k pl ot y ge nu sm i n p x r∧(mgL k pl ot cl ge nu sm i n p x r).set 4 y=mgL k pl ot cl y nu sm i n p x r∧(mgL k pl ot cl ge nu sm i n p x r).set 5 y=mgL k pl ot cl ge y sm i n p x r∧
  (mgL k pl ot cl ge nu sm i n p x r).set 38 y=mgL k pl ot cl ge nu sm y n p x r∧(mgL k pl ot cl ge nu sm i n p x r).set 39 y=mgL k pl ot cl ge nu sm i y p x r∧(mgL k pl ot cl ge nu sm i n p x r).set 40 y=mgL k pl ot cl ge nu sm i n y x r∧(mgL k pl ot cl ge nu sm i n p x r).set 41 y=mgL k pl ot cl ge nu sm i n p y r∧(mgL k pl ot cl ge nu sm i n p x r).set 42 y=mgL k pl ot cl ge nu sm i n p x y:=by
 have e:(sm.map f8).length=32:=by rw[List.length_map,h]
 have g:∀j z,j < 5→(mgL k pl ot cl ge nu sm i n p x r).set (38+j) z=[k,pl,ot,cl,ge,nu]++(sm.map f8++[i,n,p,x,r].set j z):=fun j z hj=>by
  unfold mgL
  rw[List.set_append_right _ _ (by show 6≤38+j;omega),List.set_append_right _ _ (by rw[e];show 32≤38+j - 6;omega),e,show 38+j - [k,pl,ot,cl,ge,nu].length - 32=j from by show 38+j - 6 - 32=j;omega]
 exact⟨rfl,rfl,rfl,rfl,rfl,rfl,g 0 y (by omega),g 1 y (by omega),g 2 y (by omega),g 3 y (by omega),g 4 y (by omega)⟩
theorem H5 (h:m.sm.length=32) (a b c d:Nat):(∀y:UInt8,(mgO m a b c d).set 0 (.v (vU8 y))=mgO {m with k:=y} a b c d)∧(∀y,(mgO m a b c d).set 1 (.v (.int .i64 y))=mgO {m with pl:=y} a b c d)∧(∀y,(mgO m a b c d).set 2 (.v (.int .i64 y))=mgO {m with ot:=y} a b c d)∧(∀y,(mgO m a b c d).set 3 (.v (.int .i64 y))=mgO {m with cl:=y} a b c d)∧
  (∀y,(mgO m a b c d).set 4 (.v (.int .i64 y))=mgO {m with ge:=y} a b c d)∧(∀y:UInt64,(mgO m a b c d).set 5 (.v (vU64 y))=mgO {m with nu:=y} a b c d)∧(∀y,(mgO m a b c d).set 38 (.o y)=mgO m y b c d)∧(∀y,(mgO m a b c d).set 39 (.o y)=mgO m a y c d)∧(∀y,(mgO m a b c d).set 40 (.o y)=mgO m a b y d)∧(∀y,(mgO m a b c d).set 41 (.o y)=mgO m a b c y)∧(∀y,(mgO m a b c d).set 42 (.v (.int .i64 y))=mgO {m with re:=y} a b c d):=by
 have:=fun y=>Hi (.v (vU8 m.k)) (.v (.int .i64 m.pl)) (.v (.int .i64 m.ot)) (.v (.int .i64 m.cl)) (.v (.int .i64 m.ge)) (.v (vU64 m.nu)) m.sm (.o a) (.o b) (.o c) (.o d) (.v (.int .i64 m.re)) y h
 exact⟨fun y=>(this _).1,fun y=>(this _).2.1,fun y=>(this _).2.2.1,fun y=>(this _).2.2.2.1,fun y=>(this _).2.2.2.2.1,fun y=>(this _).2.2.2.2.2.1,fun y=>(this _).2.2.2.2.2.2.1,fun y=>(this _).2.2.2.2.2.2.2.1,fun y=>(this _).2.2.2.2.2.2.2.2.1,fun y=>(this _).2.2.2.2.2.2.2.2.2.1,fun y=>(this _).2.2.2.2.2.2.2.2.2.2⟩
theorem Iz (h:m.sm.length=32) (a b c d:Nat) (s:List UInt8):List.take 6 (mgO m a b c d)++(List.map f8 s++List.drop 38 (mgO m a b c d))=mgO {m with sm:=s} a b c d:=by
 unfold mgO mgL
 have e:(m.sm.map f8).length=32:=by rw[List.length_map,h]
 show _++(_++List.drop 32 (m.sm.map f8++_))=_
 rw[List.drop_left' e]
 rfl
theorem A6t (m:MgS) (a b c d:Nat) (l:List Int):mgO {m with ids:=l} a b c d=mgO m a b c d:=rfl
theorem A6u (m:MgS) (a b c d:Nat) (l:List UInt64):mgO {m with ns:=l} a b c d=mgO m a b c d:=rfl
theorem A6v (m:MgS) (a b c d:Nat) (l:List Pr):mgO {m with ps:=l} a b c d=mgO m a b c d:=rfl
theorem A6w (m:MgS) (a b c d:Nat) (l:List UInt32):mgO {m with xs:=l} a b c d=mgO m a b c d:=rfl
end
end Go.Proofs.YtiaeollemmkclaaDoor
/- A region that draws its order, with forks, and a tail that comes in order. No program in sight. -/
namespace Go.Proofs.YtiaeollemmkclaaDoor
open Go.RowKit
set_option linter.unusedSimpArgs false
theorem A6x {P:Program} {w0:World} {ow:Nat→Prop} {n:Nat} {c:Code} {s:S} {K:Exit→S→Prop} (t k len:Nat) {e:TypeId} {ct:Cont} (ht:Fr.get s.fr t=some (.x (.a (.s k 0 len len)))) (hr:s.hp[k]?=some (.blk e ct)) (hl:ct.len=len) (hm:len≤maxLen) (hb:s.bnd)
  (h:A6 P w0 ow n c ⟨Fr.put s.fr t (.x (.a (.o s.hp.length))),s.hp.set k .gone++[.own e ct]⟩ K):A6 P w0 ow n c s K:=
 fun a w hf=>h a w (Ajf t k len ht hr hl hm hb a w hf)
section
variable {P:Program} {ops:Array Oper} {md:Region.Mode}
def D7 (md:Region.Mode) (ops:Array Oper) (n g:Nat):Nat→Pl→Array Bool→Bool
 |0,.nil,listed=>Region.seqB md ops g n listed
 |f+1,.rd i p,listed=>decide (i < n)&&(Region.ready md ops listed).contains i&&Region.free md ops listed i&&D7 md ops n g f p (listed.setIfInBounds i true)
 |f+1,.wr i p,listed=>decide (i < n)&&decide (Region.ready md ops listed=[i])&&D7 md ops n g f p (listed.setIfInBounds i true)
 |f+1,.fk i p j q,listed=>decide (i < n)&&decide (j < n)&&decide (Region.ready md ops listed=[i,j])&&D7 md ops n g f p (listed.setIfInBounds i true)&&D7 md ops n g f q (listed.setIfInBounds j true)
 |f+1,.f3 i p j q k r,listed=>decide (i < n)&&decide (j < n)&&decide (k < n)&&decide (Region.ready md ops listed=[i,j,k])&&D7 md ops n g f p (listed.setIfInBounds i true)&&D7 md ops n g f q (listed.setIfInBounds j true)&&D7 md ops n g f r (listed.setIfInBounds k true)
 |_,_,_=>false
theorem Kh {n g:Nat} {Q:Act→World→Prop} (hsel:Region.noSelect ops=true) (hs:Region.sinkB md ops n=true) (hc:Region.chainB md ops n=true) (hn:n < ops.size):
  ∀(f:Nat) (p:Pl) (listed:Array Bool) (C:World→Prop) (a:Act) (w:World),C w→HeadInv md ops n listed→
  D7 md ops n g f p listed=true→Cn P ops Q p C a w→Hm P md ops n (fun listed' a' w'=>Region.seqB md ops g n listed'=true∧Q a' w') f listed C a w
 |0,.nil,_,_,_,_,_,_,hB,h=>⟨by simpa [D7] using hB,h⟩
 |f+1,.rd i p,listed,C,a,w,hC,inv,hB,h=>by
  simp only[D7,Bool.and_eq_true,decide_eq_true_eq] at hB
  obtain⟨⟨⟨hin,hr⟩,hf⟩,hB'⟩:=hB
  have hr':i∈Region.ready md ops listed:=by simpa using hr
  obtain⟨_,o,ho,_⟩:=mem_ready.1 hr'
  simp only[Cn,ho] at h
  have hv:∃v,YieldsR P ops C o v a∧Cn P ops Q p C (a.put o.dst v) w:=by
   by_cases hw:Region.wanted o (yielded ops a.tmps)=true
   ·simp only[hw,if_true] at h
    obtain⟨v,h1,h2⟩:=h
    exact⟨v,.inl ⟨hw,h1⟩,h2⟩
   ·simp only[hw] at h
    exact⟨undef,.inr ⟨by simpa using hw,rfl⟩,h⟩
  obtain⟨v,hy,hK⟩:=hv
  exact Ub ho (Region.noSelect_spec hsel) hs hc hn hin (fun listed' a' w' hL=>seqB_ready hL.1) f listed C a w inv (Region.free_spec ho hf) hr' hC hy
   (Kh hsel hs hc hn f p _ C _ w hC (inv.set hr' hin) hB' hK)
 |f+1,.wr i p,listed,C,a,w,hC,inv,hB,h=>by
  simp only[D7,Bool.and_eq_true,decide_eq_true_eq] at hB
  obtain⟨⟨hin,hrd⟩,hB'⟩:=hB
  have hr':i∈Region.ready md ops listed:=by rw[hrd];simp
  refine⟨fun h0=>(by rw[hrd] at h0;cases h0),fun j hj=>?_⟩
  rw[hrd] at hj
  have hji:j=i:=by simpa using hj
  subst hji
  exact⟨hin,Gp hC (fun C2 a' w' hC2 hw=>Kh hsel hs hc hn f p _ C2 a' w' hC2 (inv.set hr' hin) hB' hw) h⟩
 |f+1,.fk i p j q,listed,C,a,w,hC,inv,hB,h=>by
  simp only[D7,Bool.and_eq_true,decide_eq_true_eq] at hB
  obtain⟨⟨⟨⟨h1,h2⟩,hrd⟩,hB1⟩,hB2⟩:=hB
  refine⟨fun h0=>(by rw[hrd] at h0;cases h0),fun k hk=>?_⟩
  have hk':=hk
  rw[hrd] at hk
  simp only[List.mem_cons,List.not_mem_nil,or_false] at hk
  rcases hk with rfl|rfl
  ·exact⟨h1,Gp hC (fun C2 a' w' hC2 hw=>Kh hsel hs hc hn f p _ C2 a' w' hC2 (inv.set hk' h1) hB1 hw) h.1⟩
  ·exact⟨h2,Gp hC (fun C2 a' w' hC2 hw=>Kh hsel hs hc hn f q _ C2 a' w' hC2 (inv.set hk' h2) hB2 hw) h.2⟩
 |f+1,.f3 i p j q k r,listed,C,a,w,hC,inv,hB,h=>by
  simp only[D7,Bool.and_eq_true,decide_eq_true_eq] at hB
  obtain⟨⟨⟨⟨⟨⟨h1,h2⟩,h3⟩,hrd⟩,hB1⟩,hB2⟩,hB3⟩:=hB
  refine⟨fun h0=>(by rw[hrd] at h0;cases h0),fun k hk=>?_⟩
  have hk':=hk
  rw[hrd] at hk
  simp only[List.mem_cons,List.not_mem_nil,or_false] at hk
  rcases hk with rfl|rfl|rfl
  ·exact⟨h1,Gp hC (fun C2 a' w' hC2 hw=>Kh hsel hs hc hn f p _ C2 a' w' hC2 (inv.set hk' h1) hB1 hw) h.1⟩
  ·exact⟨h2,Gp hC (fun C2 a' w' hC2 hw=>Kh hsel hs hc hn f q _ C2 a' w' hC2 (inv.set hk' h2) hB2 hw) h.2.1⟩
  ·exact⟨h3,Gp hC (fun C2 a' w' hC2 hw=>Kh hsel hs hc hn f r _ C2 a' w' hC2 (inv.set hk' h3) hB3 hw) h.2.2⟩
 |0,.rd _ _,_,_,_,_,_,_,hB,_=>by simp [D7] at hB
 |0,.wr _ _,_,_,_,_,_,_,hB,_=>by simp [D7] at hB
 |0,.fk _ _ _ _,_,_,_,_,_,_,hB,_=>by simp [D7] at hB
 |0,.f3 _ _ _ _ _ _,_,_,_,_,_,_,hB,_=>by simp [D7] at hB
 |_+1,.nil,_,_,_,_,_,_,hB,_=>by simp [D7] at hB
def W8 (md:Region.Mode) (ops:Array Oper) (n:Nat) (p:Pl):Bool:=
 Region.noSelect ops&&decide (n < ops.size)&&Region.sinkB md ops n&&Region.chainB md ops n&&D7 md ops n (ops.size - n) n p (Array.replicate ops.size false)
theorem A6y {id:Nat} {Q:Exit→Act→World→Prop} {a:Act} {w:World} {l:List Oper} (n:Nat) (p:Pl) (hm:P.follows .mixedOrders=true) (hB:W8 .any l.toArray n p=true) (C:World→Prop)
  (h:∀w2:World,Hid (Drawn w w2)→C w2∧Cn P l.toArray (fun a' w'=>wpList P l.toArray Q (l.drop n) a' w') p C a w2):(Code.region id l.toArray true).wp P Q a w:=by
 simp only[W8,Bool.and_eq_true,decide_eq_true_eq] at hB
 obtain⟨⟨⟨⟨hsel,hn⟩,hs⟩,hc⟩,hmix⟩:=hB
 have hn':n < l.length:=by simpa using hn
 have hdl:(l.drop n).length=l.toArray.size - n:=by simp
 have inv0:HeadInv .any l.toArray n (Array.replicate l.toArray.size false):=
  ⟨by simp,fun j oj _ hl=>(by rw[getD_replicate_false] at hl;cases hl),fun t _ ht=>getD_in (by simpa using ht) (getD_replicate_false _ _)⟩
 refine wp_region_any hm ?_
 obtain⟨h1,h2⟩:=h {w with drawn:=w.drawn+1} (Lib.hid ⟨1,rfl⟩)
 have H:=Kh (md:=.any) (g:=l.toArray.size - n) hsel hs hc hn n p _ C a _ h1 inv0 hmix h2
 have:=Mc (Q':=Q) (g:=l.toArray.size - n) (fun listed a' w' hL=>by
  have:=wpAny_of_seq (md:=.any) (Q':=Q) (l.drop n) n listed a' w' (fun j=>by simp [List.getElem?_drop]) (by rw[hdl];exact hL.1) hL.2
  rwa [hdl] at this) _ _ _ _ _ H
 rw[show n+(l.toArray.size - n)=l.toArray.size by omega] at this
 exact this
theorem A6z {Q Q':Act→World→Prop} (hq:∀a w,Q a w→Q' a w):∀(p:Pl) (C:World→Prop) (a:Act) (w:World),Cn P ops Q p C a w→Cn P ops Q' p C a w:=by
 intro p
 have wr:∀(i:Nat) (W W':(World→Prop)→Act→World→Prop),(∀C a w,W C a w→W' C a w)→∀C a w,D4 P ops i W C a w→D4 P ops i W' C a w:=by
  intro i W W' hW C a w h
  unfold D4 at h ⊢
  split
  ·rename_i ho;simp only[ho] at h
  ·rename_i o ho
   simp only[ho] at h
   split
   ·rename_i hw;simp only[hw,if_true] at h;exact Ib (fun a w ⟨C2,h1,h2,h3⟩=>⟨C2,h1,h2,hW _ _ _ h3⟩) h
   ·rename_i hw;simp only[hw] at h;exact hW _ _ _ h
 induction p with
 |nil=>exact fun C a w h=>hq _ _ h
 |rd i p ih=>
  intro C a w h
  unfold Cn at h ⊢
  split
  ·rename_i ho;simp only[ho] at h
  ·rename_i o ho
   simp only[ho] at h
   split
   ·rename_i hw;simp only[hw,if_true] at h;obtain⟨v,h1,h2⟩:=h;exact⟨v,h1,ih _ _ _ h2⟩
   ·rename_i hw;simp only[hw] at h;exact ih _ _ _ h
 |wr i p ih=>exact fun C a w h=>wr i _ _ ih C a w h
 |fk i p j q ih1 ih2=>exact fun C a w h=>⟨wr i _ _ ih1 C a w h.1,wr j _ _ ih2 C a w h.2⟩
 |f3 i p j q k r ih1 ih2 ih3=>exact fun C a w h=>⟨wr i _ _ ih1 C a w h.1,wr j _ _ ih2 C a w h.2.1,wr k _ _ ih3 C a w h.2.2⟩
end
theorem Ps {P:Program} {w0:World} {ow:Nat→Prop} {n id:Nat} {ops:List Oper} {s:S} {K:Exit→S→Prop} (m:Nat) (G:List Nat) (k:Nat) (p:Pl) (s1:S) (hm:P.follows .mixedOrders=true) (hB:W8 .any ops.toArray k p=true)
  (hml:m≤s.hp.length) (h:Da P w0 ow n m G ops (fun s'=>Gn w0 ow n s' s1) p s) (hk:Aw P w0 ow n ops (ops.drop k) s1 (K .normal)):Bf P w0 ow n id ops s K:=by
 rintro a w ⟨γ,hf⟩
 refine A6y k p hm hB (fun x=>Sat w0 ow γ (Cz m G s.hp) x) fun w2 hd=>?_
 have hf2:=Fits.drawn hf hd.out
 refine⟨hf2.sat.vis hml,A6z (fun a' w' hq=>?_) _ _ _ _ (Hy p s γ a w2 h hf2 hml)⟩
 obtain⟨s',h1,h2⟩:=hq
 refine Mu (fun e a'' w'' hq=>?_) _ _ _ (G8 _ s1 a' w' hk (h2 _ _ h1))
 obtain⟨rfl,s'',h3,h4⟩:=hq
 exact⟨s'',h3,h4⟩
end Go.Proofs.YtiaeollemmkclaaDoor
