import Derived.Test.YtedaafmfjhjfmaaGreatDoorCf5
/- Layer 22: tree.Node, Of, check, above, Above. -/
namespace Go.Proofs.YtedaafmfjhjfmaaGreatDoor
open _root_.Go.Proofs.Tryz
open Go.RowKit
set_option linter.unusedSimpArgs false
set_option linter.unusedVariables false
section
def eV (n:Int):Value:=.iface 91 (.int .i64 n)
def tcF (c:CfS) (p:Int):Value:=if cfF c=true then (if 0≤p∧p < c.places.length then .nilIface else eV 2) else eV 1
def isP (c:CfS) (p:Int):Bool:=cfF c&&decide (0≤p∧p < c.places.length)
theorem Hd {c:CfS} {p:Int} (h:cfF c=true) (h1:0≤p) (h2:p < c.places.length):tcF c p=.nilIface∧isP c p=true:=by
 unfold tcF isP
 rw[h,if_pos rfl,if_pos ⟨h1,h2⟩,decide_eq_true ⟨h1,h2⟩]
 exact⟨rfl,rfl⟩
theorem Wf {c:CfS} {p:Int} (h:cfF c=true) (h1:¬(0≤p∧p < c.places.length)):tcF c p=eV 2∧isP c p=false:=by
 unfold tcF isP
 rw[h,if_pos rfl,if_neg h1,decide_eq_false h1]
 exact⟨rfl,rfl⟩
theorem Acs {c:CfS} {p:Int} (h:cfF c=false):tcF c p=eV 1∧isP c p=false:=by
 unfold tcF isP
 rw[h,if_neg (by decide)]
 exact⟨rfl,rfl⟩
theorem Wg (n:Int):eV n=.iface 91 (.int .i64 n):=rfl
attribute [local irreducible] Ac Ad Ah Au Ao Aj Ai Al
attribute [local irreducible] cfF okV tcF isP
section
set_option maxRecDepth 100000 in
theorem Aso (c:CfR) (p:Int) (w:World) (hc:c.Ok w):Calls prog 108 #[.agg (cfV c).toArray,.int .i64 p] w fun e w'=>e=.returned (tcF c.cf p)∧Below w.heap.size w w':=by
 refine Bf (n:=21) func108 rfl ntmps108 [.x (.g [.v (.int .i64 c.dim),.v (.slice c.ps.A c.ps.l.length c.ps.c),.v (.slice c.gs.A c.gs.l.length c.gs.c),.v (.int .i64 c.least),.v (.int .i64 c.term)]),.x (.a (.v (.int .i64 p)))] (by simp) (.x (.a (.v (tcF c.cf p)))) (fun _=>rfl) ?_
 have hT:=Gt 1
 have hF:=H8 1
 simp (maxSteps:=10^6) only[push_cast,↓reduceIte,Nat.reduceEqDiff,Nat.reduceLT,Nat.reduceAdd]
 (repeat (refine And.intro (by first|omega|decide) ?_))
 refine Am rfl Rh rfl (Asl c hc) (Aa rfl) ?_
 cases hk:cfF c.cf with
 |false=>
  have hq:=(Acs (p:=p) hk).1
  simp (maxSteps:=10^6) only[hF,hq,Wg,push_cast,↓reduceIte,Nat.reduceEqDiff,Nat.reduceLT]
  done
 |true=>
  by_cases h1:p < 0
  ·have hq:=(Wf (p:=p) hk (by omega)).1
   simp (maxSteps:=10^6) only[hT,h1,hq,Wg,undef,push_cast,↓reduceIte,reduceCtorEq,Nat.reduceEqDiff,Nat.reduceLT]
   done
  by_cases h2:(c.ps.l.length:Int)≤p
  ·have hq:=(Wf (c:=c.cf) (p:=p) hk (by show ¬(0≤p∧p < (c.ps.l.length:Int));omega)).1
   simp (maxSteps:=10^6) only[hT,h1,h2,hq,Wg,undef,push_cast,↓reduceIte,reduceCtorEq,Nat.reduceEqDiff,Nat.reduceLT,Nat.reduceAdd]
   done
  ·have hq:=(Hd (c:=c.cf) (p:=p) hk (by omega) (by show p < (c.ps.l.length:Int);omega)).1
   simp (maxSteps:=10^6) only[hT,h1,h2,hq,undef,push_cast,↓reduceIte,reduceCtorEq,Nat.reduceEqDiff,Nat.reduceLT,Nat.reduceAdd]
   done
theorem Wh {w0:World} {hp:List Res} (c:CfR) (p:Int) (hc:c.Ok w0):Ad prog w0 No 108 [.x (.g [.v (.int .i64 c.dim),.v (.slice c.ps.A c.ps.l.length c.ps.c),.v (.slice c.gs.A c.gs.l.length c.gs.c),.v (.int .i64 c.least),.v (.int .i64 c.term)]),.x (.a (.v (.int .i64 p)))] hp (.x (.a (.v (tcF c.cf p)))) hp:=Bc fun γ w hS=>Aso c p w (hc.later hS)
def upF (l:List PlS) (q:Int):List Int:=Do l l.length q []
theorem Se {l:List PlS} {q:Int} (h:¬0≤q):upF l q=[]:=by
 unfold upF
 cases hn:l.length with
 |zero=>rfl
 |succ n=>rw[Do,if_neg h]
theorem Acu {l:List PlS} (h:StOk l) {q:Nat} (hq:q < l.length):upF l q=(q:Int)::upF l (ix l q).parent:=by
 unfold upF
 obtain⟨n,hn⟩:∃n,l.length=n+1:=⟨l.length - 1,by omega⟩
 have hp:(ix l q).parent < n:=by
  by_cases e:q=0
  ·rw[e,h.root];omega
  ·have:=h.up q (by omega) hq;omega
 have h1:=Rv h n (n+1) (ix l q).parent [] (by omega) hp (by omega)
 rw[hn,h1,Do,if_pos (by omega),Int.toNat_natCast,Ru,List.nil_append,List.singleton_append]
theorem Acv {l:List PlS} (h:StOk l) {p:Nat} (hp:p < l.length):abF l p=upF l (ix l p).parent:=by
 unfold abF upF
 have hq:(ix l p).parent < (p:Int)∨p=0∧(ix l p).parent=-1:=by
  by_cases e:p=0
  ·exact .inr ⟨e,by rw[e,h.root]⟩
  ·exact .inl (h.up p (by omega) hp).2
 exact (Rv h (p+1) l.length _ [] (by omega) (by omega) (by omega)).symm
theorem Wi {l:List PlS} (h:StOk l):∀(k:Nat) (q:Int),q < k→q < l.length→(upF l q).length≤k
 |0,q,h1,_=>by rw[Se (by omega)];exact Nat.le_refl _
 |k+1,q,h1,h2=>by
  by_cases hq:0≤q
  ·obtain⟨n,rfl⟩:∃n:Nat,q=n:=⟨q.toNat,by omega⟩
   rw[Acu h (by omega),List.length_cons]
   have hp:(ix l n).parent < n:=by
    by_cases e:n=0
    ·rw[e,h.root];omega
    ·exact (h.up n (by omega) (by omega)).2
   have:=Wi h k (ix l n).parent (by omega) (by omega)
   omega
  ·rw[Se hq];exact Nat.zero_le _
attribute [local irreducible] upF abF
set_option maxRecDepth 100000 in
theorem Asp (c:CfR) (p:Nat) (w:World) (hc:c.Ok w) (hst:StOk c.ps.l) (hp:p < c.ps.l.length):Calls prog 111 #[.agg (cfV c).toArray,.int .i64 p] w fun e w'=>∃x,e=.returned x∧Own w' w.heap.size 3 x ((abF c.ps.l p).map (Value.int .i64))∧Below w.heap.size w w':=by
 have F:=FLm.of I4 (by decide) hc.prd
 have hm:=hst.most
 refine Iu (n:=26) func111 rfl ntmps111 [.x (.g [.v (.int .i64 c.dim),.v (.slice c.ps.A c.ps.l.length c.ps.c),.v (.slice c.gs.A c.gs.l.length c.gs.c),.v (.int .i64 c.least),.v (.int .i64 c.term)]),.x (.a (.v (.int .i64 p)))] (by simp) 3 (.i64 (abF c.ps.l p)) (fun _=>rfl) ?_
 have p0:(0:Int)≤p:=by omega
 have p1:(p:Int) < c.ps.l.length:=by omega
 have hA:=F.some_ (by omega)
 obtain⟨c0,o0⟩:=F.cell p 0 _ hp rfl
 rw[Nat.add_zero] at c0 o0
 have hab:=Acv hst hp
 simp (maxSteps:=10^6) only[p0,p1,hA,c0,o0,Cq,Bp,undef,push_cast,↓Int.toNat_natCast,↓reduceIte,reduceCtorEq,Nat.reduceEqDiff,Nat.reduceLT,Nat.reduceAdd]
 (repeat (refine And.intro (by first|omega|decide) ?_))
 refine L8 5 3 (.i64 []) rfl rfl trivial (by simp (maxSteps:=10^6) only[push_cast,Nat.reduceLT]) ?_
 simp (maxSteps:=10^6) only[push_cast]
 have hpar:(ix c.ps.l p).parent < c.ps.l.length:=by
  by_cases e:p=0
  ·rw[e,hst.root];omega
  ·have:=hst.up p (by omega) hp;omega
 refine Bj (ι:=Int×List Int) (fun x=>⟨[(2,.x (.a (.p 0 0))),(5,.x (.a (.o 1))),(6,.x (.a (.v (.int .i64 x.1))))],[.blk 38 (.c [.v (.int .i64 c.dim),.v (.slice c.ps.A c.ps.l.length c.ps.c),.v (.slice c.gs.A c.gs.l.length c.gs.c),.v (.int .i64 c.least),.v (.int .i64 c.term)]),.own 3 (.i64 x.2)]⟩)
  (fun x=>x.1 < c.ps.l.length∧x.2++upF c.ps.l x.1=abF c.ps.l p) (fun x=>(x.1+1).toNat) ((ix c.ps.l p).parent,[]) [0,1] ⟨hpar,by rw[hab];rfl⟩ ?_ ?_
 ·simp (maxSteps:=10^6) only[push_cast,↓reduceIte,reduceCtorEq,Nat.reduceEqDiff,Nat.reduceLT,Nat.reduceAdd]
 rintro⟨q,acc⟩ ⟨hq,he⟩
 dsimp only at hq he
 by_cases h0:(0:Int)≤q
 ·obtain⟨n,rfl⟩:∃n:Nat,q=n:=⟨q.toNat,by omega⟩
  have hn:n < c.ps.l.length:=by omega
  obtain⟨d0,e0⟩:=F.cell n 0 _ hn rfl
  rw[Nat.add_zero] at d0 e0
  have hl1:acc.length+(upF c.ps.l n).length=(abF c.ps.l p).length:=by rw[←he,List.length_append]
  have hl2:(abF c.ps.l p).length≤c.ps.l.length:=by rw[hab];exact Wi hst _ _ (by omega) hpar
  rw[Acu hst hn] at he hl1
  rw[List.length_cons] at hl1
  have b1:(acc.length+1)*8≤140737488355328:=by omega
  have b2:acc.length+1≤2 ^ 63 - 1:=by omega
  have hnp:(ix c.ps.l n).parent < n:=by
   by_cases e:n=0
   ·rw[e,hst.root];omega
   ·exact (hst.up n (by omega) hn).2
  simp (maxSteps:=10^6) only[h0,hq,hA,d0,e0,b1,b2,Cq,Bp,undef,push_cast,↓Int.toNat_natCast,↓reduceIte,reduceCtorEq,Nat.reduceEqDiff,Nat.reduceLT,Nat.reduceLeDiff,Nat.reduceAdd]
  (repeat (refine And.intro (by first|omega|decide) ?_))
  refine Ba ((ix c.ps.l n).parent,acc++[(n:Int)]) [0,3] ⟨by show (ix c.ps.l n).parent < _;omega,by show (acc++[(n:Int)])++_=_;rw[List.append_assoc,List.singleton_append];exact he⟩ (by show ((ix c.ps.l n).parent+1).toNat < ((n:Int)+1).toNat;omega) ?_
  simp (maxSteps:=10^6) only[push_cast,↓reduceIte,reduceCtorEq,Nat.reduceEqDiff,Nat.reduceLT,Nat.reduceAdd]
  done
 ·rw[Se h0,List.append_nil] at he
  simp (maxSteps:=10^6) only[h0,he,push_cast,↓reduceIte,Nat.reduceEqDiff,Nat.reduceLT,Nat.reduceAdd]
  done
theorem Asq {w0:World} {hp:List Res} (c:CfR) (p:Nat) (hc:c.Ok w0) (hst:StOk c.ps.l) (hp':p < c.ps.l.length) (hbr:∀r∈hp,Res.bnd hp.length r):Ad prog w0 No 111 [.x (.g [.v (.int .i64 c.dim),.v (.slice c.ps.A c.ps.l.length c.ps.c),.v (.slice c.gs.A c.gs.l.length c.gs.c),.v (.int .i64 c.least),.v (.int .i64 c.term)]),.x (.a (.v (.int .i64 p)))] hp (.x (.a (.o hp.length))) (hp++[.own 3 (.i64 (abF c.ps.l p))]):=Ip hbr trivial fun γ w hS=>Asp c p w (hc.later hS) hst hp'
def ofP (c:CfS) (p:Int) (l:List Int):List Int:=if isP c p=true then l else []
theorem Asr {c:CfS} {p:Int} (h:isP c p=true):cfF c=true∧0≤p∧p < c.places.length:=by
 unfold isP at h
 rw[Bool.and_eq_true,decide_eq_true_iff] at h
 exact h
theorem Wj (c:CfS) (p:Int):(tcF c p=.nilIface∧isP c p=true)∨(isP c p=false∧∃n:Int,tcF c p=.iface 91 (.int .i64 n)):=by
 by_cases h:cfF c=true
 ·by_cases h1:0≤p∧p < c.places.length
  ·exact .inl (Hd h h1.1 h1.2)
  ·have:=Wf h h1
   exact .inr ⟨this.2,2,this.1⟩
 ·have:=Acs (p:=p) (Bool.eq_false_iff.2 h)
  exact .inr ⟨this.2,1,this.1⟩
attribute [local irreducible] ofP
set_option maxRecDepth 100000 in
theorem Acw (c:CfR) (p:Int) (w:World) (hc:c.Ok w):Calls prog 51 #[.agg (cfV c).toArray,.int .i64 p] w fun e w'=>∃v',e=.returned (.tuple #[v',tcF c.cf p])∧Own w' w.heap.size 3 v' ((ofP c.cf p (abF c.ps.l p.toNat)).map (Value.int .i64))∧Below w.heap.size w w':=by
 refine Nv (n:=16) func51 rfl ntmps51 [.x (.g [.v (.int .i64 c.dim),.v (.slice c.ps.A c.ps.l.length c.ps.c),.v (.slice c.gs.A c.gs.l.length c.gs.c),.v (.int .i64 c.least),.v (.int .i64 c.term)]),.x (.a (.v (.int .i64 p)))] (by simp) 3 (.i64 (ofP c.cf p (abF c.ps.l p.toNat))) (tcF c.cf p) (fun _=>rfl) ?_
 simp (maxSteps:=10^6) only[push_cast,↓reduceIte,reduceCtorEq,Nat.reduceEqDiff,Nat.reduceLT,Nat.reduceAdd]
 (repeat (refine And.intro (by first|omega|decide) ?_))
 refine Am rfl Vj rfl (Wh c p hc) (Aa rfl) ?_
 rcases Wj c.cf p with ⟨h1,h2⟩|⟨h2,n,h1⟩
 ·obtain⟨h3,h4,h5⟩:=Asr h2
  have h5:p < c.ps.l.length:=h5
  have hst:=Ob h3
  have ho:ofP c.cf p (abF c.ps.l p.toNat)=abF c.ps.l p.toNat:=by unfold ofP;rw[if_pos h2]
  obtain⟨m,rfl⟩:∃m:Nat,p=m:=⟨p.toNat,by omega⟩
  rw[Int.toNat_natCast] at ho
  simp (maxSteps:=10^6) only[h1,ho,push_cast,↓Int.toNat_natCast,↓reduceIte,reduceCtorEq,Nat.reduceEqDiff,Nat.reduceLT,Nat.reduceAdd]
  (repeat (refine And.intro (by first|omega|decide) ?_))
  refine Gl rfl Ao0 rfl (Asq c m hc hst (by omega) (by simp only[push_cast])) (Aa rfl) (by simp only[push_cast,Nat.reduceLT]) ?_
  simp (maxSteps:=10^6) only[push_cast,↓reduceIte,Nat.reduceEqDiff,Nat.reduceLT,Nat.reduceAdd]
  done
 ·have ho:ofP c.cf p (abF c.ps.l p.toNat)=[]:=by unfold ofP;rw[h2];rfl
  simp (maxSteps:=10^6) only[h1,ho,push_cast,↓reduceIte,Nat.reduceEqDiff,Nat.reduceLT]
  done
theorem Ass {w0:World} {hp:List Res} {s:Sv} {c:CfS} (p:Int) (h:Hc w0 hp s c) (hbr:∀r∈hp,Res.bnd hp.length r):Ad prog w0 No 51 [s,.x (.a (.v (.int .i64 p)))] hp (.t [.a (.o hp.length),.a (.v (tcF c p))]) (hp++[.own 3 (.i64 (ofP c p (abF c.places p.toNat)))]):=Q7 hbr trivial fun γ w hS=>by
 obtain⟨a,e,h1,rfl⟩:=h γ w hS
 show Calls _ _ #[s.val γ,_] w _
 rw[e]
 exact Acw a p w h1
end
end
section
def idxN (n:Int):List Int→Nat→Int
 |[],_=>-1
 |x::r,k=>if n=x then (k:Int) else idxN n r (k+1)
theorem Acx (n:Int):∀(l:List Int) (k:Nat),(0≤idxN n l k)↔n∈l
 |[],k=>by rw[idxN];simp
 |x::r,k=>by
  rw[idxN,List.mem_cons]
  by_cases h:n=x
  ·rw[if_pos h];exact⟨fun _=>.inl h,fun _=>by omega⟩
  ·rw[if_neg h,Acx n r (k+1)]
   exact⟨.inr,fun e=>e.resolve_left h⟩
def Em (n:Int) (l:List Int):Bool:=decide (n∈l)
theorem Ast (n:Int) (l:List Int):Em n l=decide (0≤idxN n l 0):=decide_eq_decide.2 (Acx n l 0).symm
def Bk (l:List PlS) (p:Int) (k:Nat):List Int:=((List.range k).filter fun q=>decide ((ix l q).parent=p)).map Int.ofNat
theorem Asu (l:List PlS) (p:Int) (k:Nat):Bk l p (k+1)=Bk l p k++(if (ix l k).parent=p then [(k:Int)] else []):=by
 unfold Bk
 rw[List.range_succ,List.filter_append,List.map_append]
 congr 1
 by_cases h:(ix l k).parent=p
 ·simp [h]
 ·simp [h]
theorem Asv (l:List PlS) (p:Int) (k:Nat):(Bk l p k).length≤k:=by
 unfold Bk
 rw[List.length_map]
 have:=List.length_filter_le (fun q=>decide ((ix l q).parent=p)) (List.range k)
 simpa using this
def Asw (l:List PlS) (p:Int) (s:List Int) (g:GrS):List Int:=if g.place=p∨p∈abF l g.place.toNat then Ak s g.ids else s
def Asx (c:CfS) (p:Int) (k:Nat):List Int:=(c.groups.take k).foldl (Asw c.places p) []
attribute [local irreducible] Ac Ad Ah Au Ao Aj Ai Al
attribute [local irreducible] cfF okV tcF isP ofP abF idxN Em Cg
section
set_option maxRecDepth 100000 in
theorem Acy (l:List Int) (n:Int) (A:Option Addr) (c:Nat) (w:World) (hm:l.length≤1000000) (hR:RdV w w.heap.size A (l.map (Value.int .i64))):
  Calls prog 121 #[.slice A l.length c,.int .i64 n] w fun e w'=>e=.returned (.int .i64 (idxN n l 0))∧Below w.heap.size w w':=by
 have F:=FM.of hR
 refine Bf (n:=19) func121 rfl ntmps121 [.x (.a (.v (.slice A l.length c))),.x (.a (.v (.int .i64 n)))] (by simp) (.x (.a (.v (.int .i64 (idxN n l 0))))) (fun _=>rfl) ?_
 obtain⟨R,hr⟩:∃R,R=idxN n l 0:=⟨_,rfl⟩
 rw[←hr]
 simp (maxSteps:=10^6) only[push_cast,↓reduceIte,reduceCtorEq,Nat.reduceLT,Int.reduceNeg]
 refine Bj (ι:=Nat) (fun k=>⟨[(0,.x (.a (.v (.slice A l.length c)))),(1,.x (.a (.v (.int .i64 n)))),(7,.x (.a (.v (.int .i64 l.length)))),(8,.x (.a (.v (.int .i64 k))))],[]⟩) (fun k=>k≤l.length∧R=idxN n (l.drop k) k) (fun k=>l.length - k) 0 [] ⟨Nat.zero_le _,hr⟩ ?_ ?_
 ·simp (maxSteps:=10^6) only[push_cast,↓Int.cast_ofNat_Int,Int.cast_ofNat_Int,↓reduceIte,reduceCtorEq,Nat.reduceEqDiff]
 rintro k ⟨hk,hg⟩
 by_cases hlt:(k:Int) < l.length
 ·have hil:k < l.length:=by omega
  have i0:(0:Int)≤k:=by omega
  have c0:=F.cell k hil
  have o0:=F.ok k hil
  have hA:=F.some_ (by omega)
  have hd:l.drop k=ix l k::l.drop (k+1):=by
   rw[List.drop_eq_getElem_cons hil,ix,List.getD_eq_getElem?_getD,List.getElem?_eq_getElem hil];rfl
  rw[hd,idxN] at hg
  generalize ix l k=x at*
  have nx:(k:Int)+1≤9223372036854775807:=by omega
  by_cases h:n=x
  ·rw[if_pos h] at hg
   simp (maxSteps:=10^6) only[hlt,i0,c0,o0,hA,h,hg,push_cast,↓Int.toNat_natCast,↓reduceIte,reduceCtorEq,Nat.reduceEqDiff,Nat.reduceLT,Int.reduceNeg]
   done
  ·rw[if_neg h] at hg
   simp (maxSteps:=10^6) only[hlt,i0,c0,o0,hA,h,push_cast,↓Int.toNat_natCast,↓reduceIte,reduceCtorEq,Nat.reduceEqDiff,Nat.reduceLT,Int.reduceNeg]
   (repeat (refine And.intro (by first|omega|decide) ?_))
   refine Ba (k+1) [] ⟨by omega,hg⟩ (by omega) ?_
   simp (maxSteps:=10^6) only[push_cast,↓reduceIte,reduceCtorEq,Nat.reduceEqDiff]
   done
 ·obtain rfl:k=l.length:=by omega
  rw[List.drop_length,idxN] at hg
  simp (maxSteps:=10^6) only[hlt,hg,push_cast,↓reduceIte,reduceCtorEq,Nat.reduceEqDiff,Nat.reduceLT,Int.reduceNeg]
  done
set_option maxRecDepth 100000 in
theorem Asy (l:List Int) (n:Int) (A:Option Addr) (c:Nat) (w:World) (hm:l.length≤1000000) (hR:RdV w w.heap.size A (l.map (Value.int .i64))):
  Calls prog 62 #[.slice A l.length c,.int .i64 n] w fun e w'=>e=.returned (.bool (Em n l))∧Below w.heap.size w w':=by
 refine Bf (n:=9) func62 rfl ntmps62 [.x (.a (.v (.slice A l.length c))),.x (.a (.v (.int .i64 n)))] (by simp) (.x (.a (.v (.bool (Em n l))))) (fun _=>rfl) ?_
 have iK:∀hp,Ad prog w No 121 [.x (.a (.v (.slice A l.length c))),.x (.a (.v (.int .i64 n)))] hp (.x (.a (.v (.int .i64 (idxN n l 0))))) hp:=fun hp=>Bc fun γ w' hS=>Acy l n A c w' hm (C5 hR hS)
 simp (maxSteps:=10^6) only[push_cast,↓reduceIte,reduceCtorEq,Nat.reduceEqDiff,Nat.reduceLT]
 (repeat (refine And.intro (by first|omega|decide) ?_))
 refine Am rfl Aa2 rfl (iK _) (Aa rfl) ?_
 have e:=Ast n l
 simp (maxSteps:=10^6) only[e,push_cast,↓reduceIte,Nat.reduceLT]
 done
theorem Lb {w0:World} {ow:Nat→Prop} {hp:List Res} {sv:Sv} {l:List Int} (n:Int) (hm:l.length≤1000000) (h:Bg w0 ow hp sv (l.map (Value.int .i64))):Ad prog w0 ow 62 [sv,.x (.a (.v (.int .i64 n)))] hp (.x (.a (.v (.bool (Em n l))))) hp:=Bc fun γ w hS=>by
 obtain⟨A,c,e1,b1,r1⟩:=h γ w hS
 rw[List.length_map] at e1
 show Calls _ _ #[sv.val γ,_] w _
 rw[e1]
 exact Asy l n A c w hm r1
attribute [local irreducible] Bk Asx
set_option maxRecDepth 100000 in
theorem Acz (c:CfR) (p:Int) (w:World) (hc:c.Ok w):Calls prog 93 #[.agg (cfV c).toArray,.int .i64 p] w fun e w'=>∃v',e=.returned (.tuple #[v',tcF c.cf p])∧Own w' w.heap.size 3 v' ((ofP c.cf p (Bk c.ps.l p c.ps.l.length)).map (Value.int .i64))∧Below w.heap.size w w':=by
 have F:=FLm.of I4 (by decide) hc.prd
 have hpf:=hc.pfew
 refine Nv (n:=34) func93 rfl ntmps93 [.x (.g [.v (.int .i64 c.dim),.v (.slice c.ps.A c.ps.l.length c.ps.c),.v (.slice c.gs.A c.gs.l.length c.gs.c),.v (.int .i64 c.least),.v (.int .i64 c.term)]),.x (.a (.v (.int .i64 p)))] (by simp) 3 (.i64 (ofP c.cf p (Bk c.ps.l p c.ps.l.length))) (tcF c.cf p) (fun _=>rfl) ?_
 simp (maxSteps:=10^6) only[push_cast,↓reduceIte,reduceCtorEq,Nat.reduceEqDiff,Nat.reduceLT,Nat.reduceAdd]
 (repeat (refine And.intro (by first|omega|decide) ?_))
 refine Am rfl Vj rfl (Wh c p hc) (Aa rfl) ?_
 rcases Wj c.cf p with ⟨h1,h2⟩|⟨h2,n,h1⟩
 ·have ho:ofP c.cf p (Bk c.ps.l p c.ps.l.length)=Bk c.ps.l p c.ps.l.length:=by unfold ofP;rw[if_pos h2]
  simp (maxSteps:=10^6) only[h1,ho,undef,push_cast,↓reduceIte,reduceCtorEq,Nat.reduceEqDiff,Nat.reduceLT,Nat.reduceAdd]
  refine L8 7 3 (.i64 []) rfl rfl trivial (by simp (maxSteps:=10^6) only[push_cast,Nat.reduceLT]) ?_
  simp (maxSteps:=10^6) only[push_cast]
  refine Bj (ι:=Nat) (fun k=>⟨[(1,.x (.a (.v (.int .i64 p)))),(7,.x (.a (.o 0))),(17,.x (.a (.v (.slice c.ps.A c.ps.l.length c.ps.c)))),(18,.x (.a (.v (.int .i64 c.ps.l.length)))),(19,.x (.a (.v (.int .i64 k))))],[.own 3 (.i64 (Bk c.ps.l p k))]⟩) (fun k=>k≤c.ps.l.length) (fun k=>c.ps.l.length - k) 0 [1] (Nat.zero_le _) ?_ ?_
  ·have e0:Bk c.ps.l p 0=[]:=by unfold Bk;rfl
   simp (maxSteps:=10^6) only[e0,push_cast,↓Int.cast_ofNat_Int,Int.cast_ofNat_Int,↓reduceIte,reduceCtorEq,Nat.reduceEqDiff,Nat.reduceLT]
  intro k hk
  by_cases hlt:(k:Int) < c.ps.l.length
  ·have hil:k < c.ps.l.length:=by omega
   have i0:(0:Int)≤k:=by omega
   obtain⟨w1,w2⟩:=F.whole k hil
   have hA:=F.some_ (by omega)
   have hs:=Asu c.ps.l p k
   have hl:=Asv c.ps.l p k
   have b1:((Bk c.ps.l p k).length+1)*8≤140737488355328:=by omega
   have b2:(Bk c.ps.l p k).length+1≤2 ^ 63 - 1:=by omega
   have nx:(k:Int)+1≤9223372036854775807:=by omega
   generalize ix c.ps.l k=x at*
   have w1:Cl w (Af c.ps.A (k*3)) 3 0=[.v (.int .i64 x.parent),.v (.int .i64 x.spare),.v (.int .i64 x.need)]:=w1
   by_cases h:x.parent=p
   ·rw[if_pos h] at hs
    simp (maxSteps:=10^6) only[hlt,i0,w1,w2,hA,h,b1,b2,Bp,undef,push_cast,↓Int.toNat_natCast,↓reduceIte,reduceCtorEq,Nat.reduceEqDiff,Nat.reduceLT,Nat.reduceLeDiff,Nat.reduceAdd,Int.reduceNeg]
    (repeat (refine And.intro (by first|omega|decide) ?_))
    refine Ba (k+1) [3] (by show k+1≤_;omega) (by show c.ps.l.length - (k+1) < c.ps.l.length - k;omega) ?_
    simp (maxSteps:=10^6) only[hs,push_cast,↓reduceIte,Nat.reduceEqDiff,Nat.reduceLT]
    done
   ·rw[if_neg h,List.append_nil] at hs
    simp (maxSteps:=10^6) only[hlt,i0,w1,w2,hA,h,Bp,undef,push_cast,↓Int.toNat_natCast,↓reduceIte,reduceCtorEq,Nat.reduceEqDiff,Nat.reduceLT,Nat.reduceAdd,Int.reduceNeg]
    (repeat (refine And.intro (by first|omega|decide) ?_))
    refine Ba (k+1) [0] (by show k+1≤_;omega) (by show c.ps.l.length - (k+1) < c.ps.l.length - k;omega) ?_
    simp (maxSteps:=10^6) only[hs,push_cast,↓reduceIte,Nat.reduceEqDiff,Nat.reduceLT]
    done
  ·obtain rfl:k=c.ps.l.length:=by omega
   simp (maxSteps:=10^6) only[hlt,push_cast,↓reduceIte,Nat.reduceEqDiff,Nat.reduceLT]
   done
 ·have ho:ofP c.cf p (Bk c.ps.l p c.ps.l.length)=[]:=by unfold ofP;rw[h2];rfl
  simp (maxSteps:=10^6) only[h1,ho,push_cast,↓reduceIte,Nat.reduceEqDiff,Nat.reduceLT]
  done
theorem Asz {w0:World} {hp:List Res} {s:Sv} {c:CfS} (p:Int) (h:Hc w0 hp s c) (hbr:∀r∈hp,Res.bnd hp.length r):Ad prog w0 No 93 [s,.x (.a (.v (.int .i64 p)))] hp (.t [.a (.o hp.length),.a (.v (tcF c p))]) (hp++[.own 3 (.i64 (ofP c p (Bk c.places p c.places.length)))]):=Q7 hbr trivial fun γ w hS=>by
 obtain⟨a,e,h1,rfl⟩:=h γ w hS
 show Calls _ _ #[s.val γ,_] w _
 rw[e]
 exact Acz a p w h1
def B2 (c:CfS) (p:Int):Int:=if isP c p=true then Cg p c.groups 0 else 0
attribute [local irreducible] B2
set_option maxRecDepth 100000 in
theorem As0 (c:CfR) (p:Int) (w:World) (hc:c.Ok w):Calls prog 50 #[.agg (cfV c).toArray,.int .i64 p] w fun e w'=>e=.returned (.tuple #[.int .i64 (B2 c.cf p),tcF c.cf p])∧Below w.heap.size w w':=by
 have hgf:=hc.gfew
 have hgl:=hc.glen
 refine Bf (n:=17) func50 rfl ntmps50 [.x (.g [.v (.int .i64 c.dim),.v (.slice c.ps.A c.ps.l.length c.ps.c),.v (.slice c.gs.A c.gs.l.length c.gs.c),.v (.int .i64 c.least),.v (.int .i64 c.term)]),.x (.a (.v (.int .i64 p)))] (by simp) (.t [.a (.v (.int .i64 (B2 c.cf p))),.a (.v (tcF c.cf p))]) (fun _=>rfl) ?_
 simp (maxSteps:=10^6) only[undef,push_cast,↓reduceIte,reduceCtorEq,Nat.reduceEqDiff,Nat.reduceLT,Nat.reduceAdd]
 (repeat (refine And.intro (by first|omega|decide) ?_))
 refine Am rfl Vj rfl (Wh c p hc) (Aa rfl) ?_
 rcases Wj c.cf p with ⟨h1,h2⟩|⟨h2,n,h1⟩
 ·have ho:B2 c.cf p=Cg p (c.gs.l.map GrR.gr) 0:=by unfold B2;rw[if_pos h2];rfl
  have cK:∀hp,Ch hp[1]?=some (3,.c [.v (.int .i64 p)])→Ad prog w No 109 [.x (.a (.v (.slice c.gs.A c.gs.l.length c.gs.c))),.f (.func 110) [.p 1 0]] hp (.x (.a (.v (.int .i64 (Cg p (c.gs.l.map GrR.gr) 0))))) hp:=fun hp h=>Bc fun γ w' hS=>Acq c.gs.l c.gs.A c.gs.c _ p w' hgf (C5 hc.grd hS) (Ase.pure (K8 (vs:=[.int .i64 p]) hS h rfl))
  simp (maxSteps:=10^6) only[h1,ho,undef,push_cast,↓reduceIte,reduceCtorEq,Nat.reduceEqDiff,Nat.reduceLT,Nat.reduceAdd]
  (repeat (refine And.intro (by first|omega|decide) ?_))
  refine Am rfl Aa1 rfl (cK _ rfl) (Aa rfl) ?_
  simp (maxSteps:=10^6) only[push_cast,↓reduceIte,Nat.reduceEqDiff,Nat.reduceLT,Nat.reduceAdd]
  done
 ·have ho:B2 c.cf p=0:=by unfold B2;rw[h2];rfl
  simp (maxSteps:=10^6) only[h1,ho,push_cast,↓reduceIte,Nat.reduceEqDiff,Nat.reduceLT,Nat.reduceAdd]
  done
theorem As1 {w0:World} {hp:List Res} {s:Sv} {c:CfS} (p:Int) (h:Hc w0 hp s c):Ad prog w0 No 50 [s,.x (.a (.v (.int .i64 p)))] hp (.t [.a (.v (.int .i64 (B2 c p))),.a (.v (tcF c p))]) hp:=Bc fun γ w hS=>by
 obtain⟨a,e,h1,rfl⟩:=h γ w hS
 show Calls _ _ #[s.val γ,_] w _
 rw[e]
 exact As0 a p w h1
end
end
end Go.Proofs.YtedaafmfjhjfmaaGreatDoor
