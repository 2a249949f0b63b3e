import Derived.Test.YtedaafmfjhjfmaaGreatDoorHbD
import Derived.Test.YtedaafmfjhjfmaaGreatDoorLwI
/- The plain law of HubOnce: what a hub tells is the sum of the partials that it took, the same each time. No program in sight. -/
namespace Go.Proofs.YtedaafmfjhjfmaaGreatDoor
open _root_.Go.Proofs.Tryz
set_option linter.unusedSimpArgs false
set_option linter.unusedVariables false
section
def M5 (h:HbS) (out:List SnS):Prop:=∀s∈out,s.m.k=6→s.m=h.sums.all h.gen∧h.phase=1
theorem Xz (h:HbS):M5 h h.again:=fun s hs hk=>by
 unfold HbS.again at hs
 split at hs
 ·rename_i h1
  rw[List.mem_singleton.1 hs]
  exact⟨rfl,h1.1⟩
 ·cases hs
theorem Tu (h:HbS):h.on.1.sums=h.sums∧h.on.1.gen=h.gen∧h.on.1.place=h.place∧M5 h.on.1 h.on.2∧(h.phase=1→h.on.1.phase=1):=by
 unfold HbS.on
 by_cases h1:h.phase=0∧h.tally.st=1
 ·rw[if_pos h1]
  exact⟨rfl,rfl,rfl,Xz _,fun _=>rfl⟩
 rw[if_neg h1]
 by_cases h2:h.phase=0∧h.tally.st=2
 ·rw[if_pos h2]
  refine⟨rfl,rfl,rfl,fun s hs hk=>?_,fun e=>?_⟩
  ·split at hs
   ·rw[List.mem_singleton.1 hs] at hk
    exact absurd (show (17:UInt8)=6 from hk) (by decide)
   ·cases hs
  ·rw[h2.1] at e
   cases e
 ·rw[if_neg h2]
  exact⟨rfl,rfl,rfl,fun s hs=>(by cases hs),id⟩
structure StepH (h h':HbS) (out:List SnS):Prop where
 gen:h'.gen=h.gen
 said:M5 h' out
 ph:h.phase=1→h'.phase=1∧h'.sums=h.sums
theorem StepH.same (h:HbS) {out:List SnS} (ho:∀s∈out,s.m.k=6→False):StepH h h out:=⟨rfl,fun s hs hk=>(ho s hs hk).elim,fun e=>⟨e,rfl⟩⟩
theorem Afw (h:HbS):StepH h h.tick.1 h.tick.2∧h.tick.1.sums=h.sums:=by
 unfold HbS.tick
 by_cases hp:h.phase=0
 ·rw[if_pos hp]
  obtain⟨e1,e2,_,e3,_⟩:=Tu {h with tally:=h.tally.tick}
  exact⟨⟨e2,e3,fun e=>by rw[hp] at e;cases e⟩,e1⟩
 ·rw[if_neg hp]
  exact⟨StepH.same h fun s hs=>(by cases hs),rfl⟩
theorem Afx (h:HbS) (l:List Int):∀s∈h.movesTo l,s.m.k=6→False:=fun s hs hk=>by
 unfold HbS.movesTo at hs
 obtain⟨q,_,rfl⟩:=List.mem_map.1 hs
 exact absurd (show (16:UInt8)=6 from hk) (by decide)
theorem Afy (h:HbS) (p:Int):StepH h (h.goneE p).1 (h.goneE p).2.1∧(h.goneE p).1.sums=h.sums:=by
 unfold HbS.goneE
 by_cases h1:p∉h.under
 ·rw[if_pos h1]
  exact⟨StepH.same h fun s hs=>(by cases hs),rfl⟩
 rw[if_neg h1]
 by_cases hp:h.phase=0
 ·rw[if_pos hp]
  obtain⟨e1,e2,_,e3,_⟩:=Tu (h.talG p)
  refine⟨⟨e2,fun s hs hk=>?_,fun e=>by rw[hp] at e;cases e⟩,e1⟩
  rcases List.mem_append.1 hs with hs|hs
  ·exact (Afx h _ s hs hk).elim
  ·exact e3 s hs hk
 ·rw[if_neg hp]
  exact⟨StepH.same h (Afx h _),rfl⟩
theorem X0 (h:HbS) (m:MgS):StepH h (h.hear m).1 (h.hear m).2.1∧((h.hear m).1.sums=h.sums∨((h.hear m).1.sums=h.sums.take m∧m.k=6)):=by
 unfold HbS.hear
 have nil_:∀s∈([]:List SnS),s.m.k=6→False:=fun s hs=>by cases hs
 split
 ·exact⟨StepH.same h nil_,.inl rfl⟩
 split
 ·rename_i h6
  unfold HbS.partial_
  split
  ·exact⟨StepH.same h nil_,.inl rfl⟩
  rename_i hp
  have hp:h.phase=0:=Decidable.byContradiction hp
  split
  ·exact⟨⟨rfl,fun s hs=>(by cases hs),fun e=>by rw[hp] at e;cases e⟩,.inr ⟨rfl,h6⟩⟩
  have e0:((h.sum m).talC m.pl).sums=h.sums.take m∧((h.sum m).talC m.pl).gen=h.gen:=by
   unfold HbS.talC
   split<;>exact⟨rfl,rfl⟩
  obtain⟨e1,e2,_,e3,_⟩:=Tu ((h.sum m).talC m.pl)
  refine⟨⟨e2.trans e0.2,fun s hs hk=>?_,fun e=>by rw[hp] at e;cases e⟩,.inr ⟨e1.trans e0.1,h6⟩⟩
  rcases List.mem_cons.1 hs with e|hs
  ·rw[e] at hk
   exact absurd (show (7:UInt8)=6 from hk) (by decide)
  ·exact e3 s hs hk
 split
 ·unfold HbS.lost
  split
  ·exact⟨StepH.same h nil_,.inl rfl⟩
  rename_i hp
  have hp:h.phase=0:=Decidable.byContradiction hp
  split
  ·exact⟨StepH.same h nil_,.inl rfl⟩
  split
  ·exact⟨StepH.same h nil_,.inl rfl⟩
  obtain⟨e1,e2,_,e3,_⟩:=Tu (h.talG (ix m.ids 0))
  exact⟨⟨e2,e3,fun e=>by rw[hp] at e;cases e⟩,.inl e1⟩
 split
 ·split
  ·exact⟨StepH.same h nil_,.inl rfl⟩
  ·exact⟨⟨rfl,Xz _,fun e=>⟨e,rfl⟩⟩,.inl rfl⟩
 split
 ·split
  ·exact⟨StepH.same h nil_,.inl rfl⟩
  ·exact⟨⟨rfl,Xz _,fun e=>⟨e,rfl⟩⟩,.inl rfl⟩
 split
 ·split
  ·exact⟨StepH.same h nil_,.inl rfl⟩
  ·exact⟨StepH.same h nil_,.inl rfl⟩
 ·exact⟨StepH.same h nil_,.inl rfl⟩
theorem A04 {s:Sms} {inn:List Int} {sum:List UInt32} {many:Nat} (h:PaInv s inn sum many) {m:MgS} (h0:¬s.takeE m=0):PaInv (s.take m) inn sum many:=by
 obtain⟨e1,e2,e3,e4⟩:=Oe s m
 rw[if_neg h0] at e4
 refine⟨V1 h.inv m,h.asc,fun x=>by rw[e4];exact h.mem x,?_,by rw[e4];exact h.many,by rw[e3];exact h.len⟩
 rw[h.eq]
 unfold Mi
 rw[e3,e4]
structure HInv (h:HbS) (inn:List Int) (sum:List UInt32) (many:Nat) (told:MgS):Prop where
 pa:PaInv h.sums inn sum many
 told:told.k=0∨(told=h.sums.all h.gen∧h.phase=1)
theorem HInv.step {h h':HbS} {inn:List Int} {sum:List UInt32} {many:Nat} {told:MgS} {out:List SnS} (hi:HInv h inn sum many told) (hs:StepH h h' out) (e:h'.sums=h.sums):HInv h' inn sum many told:=⟨by rw[e];exact hi.pa,by
 rcases hi.told with h1|⟨h1,h2⟩
 ·exact .inl h1
 ·exact .inr ⟨by rw[e,hs.gen];exact h1,(hs.ph h2).1⟩⟩
theorem A05 {h:HbS} {inn:List Int} {sum:List UInt32} {many:Nat} {told:MgS} (hi:HInv h inn sum many told) (m:MgS):
  ((h.hear m).1.sums.taken.length=h.sums.taken.length∧HInv (h.hear m).1 inn sum many told)∨(h.sums.taken.length < (h.hear m).1.sums.taken.length∧m.k=6∧By inn m.ids=[]∧m.ids≠[]∧sum.length=m.xs.length∧HInv (h.hear m).1 (Ak inn m.ids) (Bz sum m.xs) (many+1) told):=by
 obtain⟨hs,he⟩:=X0 h m
 rcases he with e|⟨e,hk⟩
 ·exact .inl ⟨by rw[e],hi.step hs e⟩
 have told':∀{a b c},PaInv (h.sums.take m) a b c→HInv (h.hear m).1 a b c told:=fun hp=>⟨by rw[e];exact hp,by
  rcases hi.told with h1|⟨h1,h2⟩
  ·exact .inl h1
  ·obtain⟨g1,g2⟩:=hs.ph h2
   exact .inr ⟨by rw[g2,hs.gen];exact h1,g1⟩⟩
 by_cases h0:h.sums.takeE m=0
 ·obtain⟨p1,p2,p3,p4⟩:=Aq1 hi.pa h0
  exact .inr ⟨by rw[e,←p4.many,←hi.pa.many];omega,hk,p1,p2,p3,told' p4⟩
 ·have:=A04 hi.pa h0
  exact .inl ⟨by rw[e,←this.many,←hi.pa.many],told' this⟩
theorem A06 (c:CfS) (p gen:Int):HInv (HbS.new c p gen) [] (List.replicate c.dim.toNat 0) 0 Fk:=
 ⟨⟨⟨fun t ht=>(by cases ht),List.Pairwise.nil⟩,rfl,fun x=>⟨fun h=>(by cases h),fun⟨t,ht,_⟩=>(by cases ht)⟩,rfl,rfl,List.length_replicate ..⟩,.inl rfl⟩
theorem A07 {h:HbS} {inn:List Int} {sum:List UInt32} {many:Nat} {told:MgS} {out:List SnS} (hi:HInv h inn sum many told) (ho:M5 h out) {s:SnS} (hs:s∈out) (hk:s.m.k=6):
  s.m.ids=inn∧s.m.xs=sum∧h.phase=1∧(told.k=0∨told=s.m)∧HInv h inn sum many s.m:=by
 obtain⟨e1,e2⟩:=ho s hs hk
 refine⟨?_,?_,e2,?_,⟨hi.pa,.inr ⟨e1,e2⟩⟩⟩
 ·rw[e1]
  exact Aq3 hi.pa
 ·rw[e1]
  exact (Acg hi.pa.inv).trans hi.pa.eq.symm
 ·rcases hi.told with h1|⟨h1,_⟩
  ·exact .inl h1
  ·exact .inr (h1.trans e1.symm)
theorem A08 (h:HbS):h.tick.1.sums.dim=h.sums.dim:=by rw[(Afw h).2]
theorem A09 (h:HbS) (p:Int):(h.goneE p).1.sums.dim=h.sums.dim:=by rw[(Afy h p).2]
theorem A1a (h:HbS) (m:MgS):(h.hear m).1.sums.dim=h.sums.dim:=by
 rcases (X0 h m).2 with e|⟨e,_⟩
 ·rw[e]
 ·rw[e]
  exact (Oe h.sums m).2.2.1
end
section
open Go.RowKit
structure AcR where
 m:MgR
 gone:Int
instance:Inhabited AcR:=⟨⟨zeroR,0⟩⟩
def acV (a:AcR):List Value:=mgV a.m++[.int .i64 a.gone]
def acA (a:AcR):List At:=mgA a.m++[.v (.int .i64 a.gone)]
def Jd:AcR:=⟨zeroR,0⟩
theorem Afz (a:AcR):(acV a).map At.v=acA a:=by
 unfold acV acA
 rw[List.map_append,Oz]
 rfl
theorem X1 {a:AcR} (h:a.m.sm.length=32):(acV a).length=44:=by
 unfold acV
 rw[List.length_append,Tm h]
 rfl
theorem A1b {a:AcR} (h:a.m.sm.length=32):(acA a).length=44:=by
 unfold acA
 rw[List.length_append,Bd h]
 rfl
theorem A1c {a:AcR} (h:a.m.sm.length=32):(acA a).take 43=mgA a.m:=by
 unfold acA
 rw[List.take_left' (Bd h)]
theorem A1d {a:AcR} (h:a.m.sm.length=32):(acA a).drop 43=[.v (.int .i64 a.gone)]:=by
 unfold acA
 rw[List.drop_left' (Bd h)]
theorem X2 {a:AcR} (h:a.m.sm.length=32) {k:Nat} (hk:k < 43) (d:At):(acA a).getD k d=(mgA a.m).getD k d:=by
 unfold acA
 rw[List.getD_eq_getElem?_getD,List.getD_eq_getElem?_getD,List.getElem?_append_left (by rw[Bd h];exact hk)]
theorem A1e {a:AcR} (h:a.m.sm.length=32):(∀d,(acA a).getD 0 d=.v (vU8 a.m.k))∧(∀d,(acA a).getD 38 d=.v a.m.ids.val)∧(∀d,(acA a).getD 41 d=.v a.m.xs.val)∧(∀d,(acA a).getD 43 d=.v (.int .i64 a.gone)):=by
 obtain⟨g0,_,_,_,_,_,g38,_,_,g41,_⟩:=C8 h
 refine⟨fun d=>(X2 h (by decide) d).trans (g0 d),fun d=>(X2 h (by decide) d).trans (g38 d),fun d=>(X2 h (by decide) d).trans (g41 d),fun d=>?_⟩
 unfold acA
 rw[List.getD_eq_getElem?_getD,List.getElem?_append_right (by rw[Bd h];exact Nat.le_refl _),Bd h]
 rfl
theorem Af0 (a:AcR) (n:Nat):(∀x∈acA a,x.bnd n)=True:=eq_true fun x hx=>by
 rcases List.mem_append.1 hx with hx|hx
 ·exact of_eq_true (Bm a.m n) x hx
 ·rw[List.mem_singleton.1 hx]
  trivial
theorem A1f:mgA zeroR++[.v (.int .i64 0)]=acA Jd:=rfl
theorem A1g (a:AcR) (hp:List Res):(∀x∈acA a,x.one hp)=True:=eq_true fun x hx=>by
 rcases List.mem_append.1 hx with hx|hx
 ·exact of_eq_true (mgA_one a.m hp) x hx
 ·rw[List.mem_singleton.1 hx]
  rfl
theorem A1h {q:At→Prop} (a:AcR) (h:∀v:Value,v.oneCell'=true→scalar v→q (.v v)):(∀x∈acA a,q x)=True:=eq_true fun x hx=>by
 rcases List.mem_append.1 hx with hx|hx
 ·exact of_eq_true (Mm a.m h) x hx
 ·rw[List.mem_singleton.1 hx]
  exact h _ rfl trivial
theorem A1i (a:AcR) (n:Nat):(∀x∈acA a,x.av n)=True:=A1h a fun v _ _=>trivial
theorem A1j:(acA Jd).length=44:=rfl
theorem A1k:ZOk prog 83 (.c (acA Jd))=True:=
 eq_true ⟨.agg (mgV zeroR++[Value.int .i64 0]).toArray,by kernel_rfl,fun γ=>by
  show _=(acA Jd).map (At.val γ)
  have e:(acA Jd).map (At.val γ)=acV Jd:=by
   rw[←Afz]
   exact Jy γ _
  rw[e]
  rfl⟩
theorem FLw.act {w:World} {ow:Nat→Prop} {A:Option Addr} {l:List AcR} (h:FLw 44 acV w ow A l) {i:Nat} (hi:i < l.length) (hs:(ix l i).m.sm.length=32):
  Cl w (Af A (i*44)) 44 0=acA (ix l i)∧F4 w ow (Af A (i*44)) 44 0:=by
 have:=h.part (off:=0) (n:=44) (vs:=acV (ix l i)) hi (X1 hs) fun k v hk=>by rw[Nat.zero_add];exact hk
 rw[Afz,Nat.add_zero] at this
 exact this
end
end Go.Proofs.YtedaafmfjhjfmaaGreatDoor
