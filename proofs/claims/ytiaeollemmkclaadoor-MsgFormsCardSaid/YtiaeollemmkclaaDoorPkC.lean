import Derived.Test.YtiaeollemmkclaaDoorPkA
import Derived.Test.YtiaeollemmkclaaDoorPkB
/- pack.Reader.Row: the next row (layer 13). -/
namespace Go.Proofs.YtiaeollemmkclaaDoor
open Go.RowKit
set_option linter.unusedSimpArgs false
set_option linter.unusedVariables false
def Do (many:Int) (s:RS):List UInt32×RS:=if (cntS many 4 s).2.1=true then (fours ((cntS many 4 s).2.2.l.take (4*(cntS many 4 s).1)),(cntS many 4 s).2.2.cut (4*(cntS many 4 s).1)) else ([],RS.fail)
theorem Ac2 (many:Int) (s:RS):((Do many s).1,(Do many s).2.rs)=Dc many s.rs:=by
 have h:=Acn many 4 s
 have h1:=congrArg Prod.fst h
 have h2:=congrArg (fun x=>x.2.1) h
 have h3:=congrArg (fun x=>x.2.2) h
 dsimp only at h1 h2 h3
 unfold Do Dc
 rw[←h1,←h2,←h3]
 split<;>rfl
theorem Wr {many:Int} {X:Nat→Prop} {w:World} {s:RS} (h:s.Ok X w):(Do many s).2.Ok X w:=by
 unfold Do
 split
 ·exact (Pj h).cut _
 ·exact RS.Ok.fail
theorem A5j {X:Nat→Prop} {w z:World} (h:Keeps (fun k=>X k∨w.heap.size≤k) w z):Keeps X w z:=
 ⟨h.os,h.tape,h.output,h.size,fun i hi hn=>h.block i hi (fun e=>e.elim hn (fun e=>absurd hi (Nat.not_lt.2 e)))⟩
theorem Ac3 {X:Nat→Prop} {w z:World} {g:Nat} {t e:TypeId} {a b v:Value} {c:Cont} {vs:List Value} (hk:Keeps X w z) (hX:X g) (hg:g < w.heap.size) (hb:Blk z g t #[a,b]) (ho:Own z w.heap.size e v vs) (hv:∀γ,c.vals γ=vs):
  Sat w X [.b g,.s v] [.pin g t (.c [.v a,.v b]),.own e c] z:=by
 obtain⟨A,cap,e1,h1,h2,h3,h4⟩:=ho.rd
 have hown:∀d,v.ownBlock=some d→w.heap.size≤d∧d < z.heap.size:=fun d hd=>by
  rcases ho.2 with ⟨rfl,_⟩|⟨g',cap',cur,rfl,h5,h6,_⟩
  ·cases hd
  ·cases hd
   exact⟨h5,(Array.getElem?_eq_some_iff.1 h6).1⟩
 refine⟨hk,rfl,fun k r hr=>?_,fun k r d hr hd=>?_,fun j k r r' d hr hr' hne hd hd'=>?_⟩
 ·rcases k with _|_|k
  ·cases hr;exact⟨rfl,rfl,hb⟩
  ·cases hr;exact⟨rfl,by rw[hv];exact ho.base0⟩
  ·simp at hr
 ·rcases k with _|_|k
  ·cases hr
   have hd:some g=some d:=hd
   cases hd
   exact⟨.inl hX,hb.lt⟩
  ·cases hr
   have:=hown d hd
   exact⟨.inr this.1,this.2⟩
  ·simp at hr
 ·rcases j with _|_|j<;>rcases k with _|_|k<;>first|exact hne rfl|(simp at hr;done)|(simp at hr';done)|skip
  ·cases hr;cases hr'
   have hd:some g=some d:=hd
   cases hd
   have:=hown g hd'
   omega
  ·cases hr;cases hr'
   have hd':some g=some d:=hd'
   cases hd'
   have:=hown g hd
   omega
theorem A5k:∃i z,Tryd.prog.info? 136=some i∧i.zero=some z∧z.cells=#[Ap 0]∧i.size=1∧i.bytes=4:=by
 have h:(Tryd.prog.info? 136).map (fun i=>(i.zero,i.size,i.bytes))=some (some (.int .u32 0),1,4):=by kernel_rfl
 obtain⟨i,hi,h1,h2,h3⟩:=info_parts h
 exact⟨i,_,hi,h1,rfl,h2,h3⟩
attribute [local go_sem] Oper.semAt_some
theorem A5l (A:Option Addr) (len cap:Nat) (w:World):
  Calls Tryd.prog 68 #[.slice A len cap] w fun e w'=>e=.returned (.func (.func 112) #[] #[.pointer (some ⟨w.heap.size,0,none⟩)])∧w.alloc (.cells #[.slice A len cap] 23)=w':=by
 go_enter Tryd.func68,Tryd.ntmps68
 go_wp2
 go_ret
 exact⟨rfl,rfl⟩
set_option maxHeartbeats 4000000 in
set_option maxRecDepth 100000 in
theorem A5m {X:Nat→Prop} {w:World} {s:RS} (many:Int) (hm:-9223372036854775808≤many∧many≤9223372036854775807) (hs:s.Ok X w):
  RdG 14 [.x (.a (.v (.int .i64 many)))] (.x (.a (.o 1))) s (Do many s).2 [.own 136 (.u32 (Do many s).1)] X w:=fun g γ hS=>by
 have hXg:=Fk hS rfl
 have hg:nmB γ 0=g:=(hS.holds 0 _ rfl).2.1
 have hgw0:g < w.heap.size:=(hS.mine 0 _ g rfl (by show some (nmB γ 0)=some g;rw[hg])).2
 have hcnt:=Acr many 4 (by decide) (by decide) hm hs g γ hS
 generalize hq:Do many s=q
 unfold Do at hq
 have hok:=Pj (many:=many) (each:=4) hs
 have hfl:=@Acq many 4 s
 have hle:=@Acp many 4 s
 generalize cntS many 4 s=t at*
 obtain⟨m,ok,t⟩:=t
 dsimp only at hq hok hfl hle hcnt
 have hcnt:Calls Tryd.prog 66 #[.pointer (some ⟨nmB γ 0,0,none⟩),.int .i64 many,.int .i64 4] w _:=hcnt
 show Calls _ _ #[.pointer (some ⟨nmB γ 0,0,none⟩),.int .i64 many] w _
 rw[hg] at hcnt ⊢
 refine (callsIn_wide (n:=5)).1 ?_
 refine callsIn_of_wp_marks Tryd.func14 rfl trivial ?_ rfl
 have HC:=Lib.hid hcnt
 have HQ:=Lib.hid hq
 have HOK:=Lib.hid hok
 have HS:=Lib.hid hs
 clear hcnt hq hok hs hS
 simp only[Tryd.ntmps14,List.size_toArray,List.length_cons,List.length_nil,Nat.reduceAdd,Nat.reduceSub,Array.replicate_succ,Array.replicate_zero,List.push_toArray,List.append_toArray,List.nil_append,List.cons_append]
 gi_wp2
 refine⟨trivial,(callsIn_wide.2 HC.out).mono ?_⟩
 rintro e w1 ⟨γ1,rfl,hS1⟩
 have HS1:=Lib.hid hS1
 clear hS1
 have e1:Sv.val γ1 (.t [.a (.v (.int .i64 m)),.a (.v (.bool ok))])=.tuple #[.int .i64 m,.bool ok]:=rfl
 rw[e1]
 cases ok with
 |false=>
  have hfl:=hfl (by decide)
  injection hfl with _ h2
  injection h2 with _ h2
  subst h2
  gi_wp2
  have hq:=HQ.out
  rw[if_neg (by decide)] at hq
  subst hq
  have hb1:=(HS1.out.holds 0 _ rfl).2
  have hgg:nmB γ1 0=g:=hb1.1
  have hblk:Blk w1 g 132 #[.slice RS.fail.A RS.fail.l.length RS.fail.c,.bool RS.fail.bad]:=by
   have:=hb1.2
   rw[hgg] at this
   exact this
  exact⟨_,results_tmp rfl _ _ _,_,rfl,Ac3 (vs:=[]) HS1.out.keeps hXg hgw0 hblk (Own.nil_ _ _ _) (fun _=>rfl)⟩
 |true=>
  have hb1:=(HS1.out.holds 0 _ rfl).2
  have hgg:nmB γ1 0=g:=hb1.1
  have hblk:Blk w1 g 132 #[.slice t.A t.l.length t.c,.bool t.bad]:=by
   have:=hb1.2
   rw[hgg] at this
   exact this
  have q0:=hblk.cell 0
  have f0:=hblk.frozen 0
  have hmax:=HOK.out.max
  have hlen:=HOK.out.len
  have hle:=hle rfl
  have m1:4*m≤t.l.length:=by omega
  have hmk:(Instr.makeSlice 30 (.int .i64 0) (.int .i64 (m:Int))).run Tryd.prog w1=.ok (.slice (some ⟨w1.heap.size,0,none⟩) 0 m) (w1.alloc (.cells (List.replicate m (Ap 0)).toArray 136)):=by
   obtain⟨i,z,hi,hz,hz1,hz2⟩:=A5k
   have:=run_make (P:=Tryd.prog) w1 30 136 i z Tryd.underlying30 hi hz .i64 .i64 0 m (by omega) (by omega) (by rw[hz2.2];omega) (by omega)
   rw[this]
   have e:madeCells z.cells ((m:Int).toNat*i.size)=(List.replicate m (Ap 0)).toArray:=by
    rw[hz1,hz2.1,Nat.mul_one,Int.toNat_natCast]
    apply Array.ext'
    rw[toList_madeCells_one]
   rw[e]
   rfl
  clear hb1 hgg
  have HB:=Lib.hid hblk
  obtain⟨W,hW⟩:∃W,W=w1.alloc (.cells (List.replicate m (Ap 0)).toArray 136):=⟨_,rfl⟩
  rw[←hW] at hmk
  have hBW:Below w1.heap.size w1 W:=by rw[hW];exact (Below.refl _ _).alloc (Nat.le_refl _) _
  have hbm:Blk W w1.heap.size 136 (List.replicate m (Ap 0)).toArray:=by rw[hW];exact Blk.new _ _ _
  have hsW:W.heap.size=w1.heap.size+1:=by rw[hW];simp
  have hgl:=hblk.lt
  have HW:=Lib.hid hW
  have HBW:=Lib.hid hBW
  have HBM:=Lib.hid hbm
  have hbW:Blk W g 132 #[.slice t.A t.l.length t.c,.bool t.bad]:=hblk.below hBW hgl
  have q0:(W.alloc (.cells #[.slice (some ⟨w1.heap.size,0,none⟩) 0 m] 30)).cell? ⟨g,0,none⟩=some (.slice t.A t.l.length t.c):=(hbW.alloc _).cell 0
  have f0:=(hbW.alloc (.cells #[.slice (some ⟨w1.heap.size,0,none⟩) 0 m] 30)).frozen 0
  have HBW2:=Lib.hid hbW
  have m2:(4*(m:Int))≤t.l.length:=by omega
  have m3:(t.l.length:Int)≤t.c:=by omega
  clear hW hBW hbm hblk hbW
  have hgw:g < w1.heap.size:=hgl
  obtain⟨bs,hbs⟩:∃bs,bs=t.l.take (4*m):=⟨_,rfl⟩
  have hbl:bs.length=4*m:=by rw[hbs,List.length_take];omega
  have hfl:(fours bs).length=m:=by rw[Po,hbl];omega
  have hw1:w.heap.size≤w1.heap.size:=HS1.out.keeps.size
  have hR1:RdV w1 w.heap.size t.A (bs.map vU8):=by
   have h:=(Sub.take t.A (t.l.map vU8) (4*m)).fw HOK.out.fw
   rw[←List.map_take,←hbs] at h
   intro hp
   obtain⟨b,off,e1,e2,e3⟩:=h.rd hp
   exact⟨b,off,e1,e2,fun j u hu=>(World.cell?_of_block (HS1.out.keeps.block b e2 (h.far hp _ e1))).trans (e3 j u hu)⟩
  have HR1:=Lib.hid hR1
  have HBL:=Lib.hid hbl
  have HFL:=Lib.hid hfl
  have HBS:=Lib.hid hbs
  clear hbs hbl hfl hR1
  gi_wp2
  refine⟨trivial,(callsIn_wide.2 (A5l _ _ _ _)).mono ?_⟩
  rintro e w3 ⟨rfl,rfl⟩
  obtain⟨V,hV⟩:∃V,V=(W.alloc (.cells #[.slice (some ⟨w1.heap.size,0,none⟩) 0 m] 30)).alloc (.cells #[.slice t.A (4*m) t.c] 23):=⟨_,rfl⟩
  have e3:(W.alloc (.cells #[.slice (some ⟨w1.heap.size,0,none⟩) 0 m] 30)).heap.size=w1.heap.size+1+1:=by simp [hsW]
  rw[e3,←hV]
  have hVs:V.heap.size=w1.heap.size+1+1+1:=by rw[hV];simp [hsW]
  have hVW:Below W.heap.size W V:=by rw[hV];exact ((Below.refl _ _).alloc (Nat.le_refl _) _).alloc (by simp) _
  have hV1:Below w1.heap.size w1 V:=HBW.out.trans (hVW.mono (by omega))
  have bn:Blk V (w1.heap.size+1+1) 23 #[.slice t.A (4*m) t.c]:=by rw[hV,←e3];exact Blk.new _ _ _
  have bo:Blk V (w1.heap.size+1) 30 #[.slice (some ⟨w1.heap.size,0,none⟩) 0 m]:=by rw[hV,←hsW];exact (Blk.new _ _ _).alloc _
  have bm:Blk V w1.heap.size 136 (List.replicate m (Ap 0)).toArray:=HBM.out.below hVW (by omega)
  have BN:=Lib.hid bn
  have BO:=Lib.hid bo
  have BM:=Lib.hid bm
  have HV1:=Lib.hid hV1
  clear hV hVW bn bo bm e3 hV1
  gi_wp2
  have hlp:∀x:UInt32,(S9 x).size=1:=fun _=>rfl
  have hit:=A5i 4 V bs t.A t.c (w1.heap.size+1+1) w.heap.size (by rw[HBL.out];omega) (by rw[HBL.out];omega) (by omega) (by omega)
   (by rw[HBL.out];exact BN.out.cell 0) (HR1.out.below (HV1.out.mono hw1)) (fun k=>k=w1.heap.size+1+1∨k < w1.heap.size) (.inl rfl) (fun hp b off e=>.inr (by
    obtain⟨b',off',e2,h2,_⟩:=HR1.out (by simpa using hp)
    rw[e] at e2
    cases e2
    omega))
  refine A5c (n:=5) (gf:=112) (lb:=#[.pointer (some ⟨w1.heap.size+1+1,0,none⟩)]) rfl (enters_of Tryd.func112 (by kernel_rfl) rfl)
   hit (Below.refl _ _) (fun k hk=>by omega) hlp (fun k=>k=w1.heap.size∨k=w1.heap.size+1) (fun k hk=>⟨by omega,by omega⟩)
   (fun k Y=>k≤m∧Blk Y (w1.heap.size+1) 30 #[.slice (some ⟨w1.heap.size,0,none⟩) k m]∧Blk Y w1.heap.size 136 (((fours bs).take k).map Ap++List.replicate (m - k) (Ap 0)).toArray∧Below w1.heap.size w1 Y)
   (fun k A' B' ⟨h0,h1,h2,h3⟩ hA hB=>⟨h0,h1.below hB (by omega),h2.below hB (by omega),h3.trans (hB.mono (by omega))⟩) ⟨Nat.zero_le _,BO.out,by simpa using BM.out,HV1.out⟩
   (fun x a Y=>a={tmps:=#[.pointer (some ⟨g,0,none⟩),.int .i64 many,undef,undef,.slice none 0 0,.int .i64 m,.bool true,.pointer (some ⟨w1.heap.size+1,0,none⟩),Ap x,.tuple #[.int .i64 m,.bool true],.pointer (some ⟨g,0,none⟩),.int .i64 many,.tuple #[.int .i64 m,.bool true],.int .i64 m,.bool true,.bool true,.bool false,.int .i64 m,.slice (some ⟨w1.heap.size,0,none⟩) 0 m,.pointer (some ⟨g,0,none⟩),.pointer (some ⟨g,0,none⟩),.pointer (some ⟨g,0,none⟩),.slice t.A t.l.length t.c,.int .i64 m,.int .i64 (4*(m:Int)),.slice t.A (4*m) t.c,.func (.func 112) #[] #[.pointer (some ⟨w1.heap.size+1+1,0,none⟩)],Ap x,undef,undef,undef,undef,undef,undef,undef,undef,undef,undef,undef,undef,undef,undef,undef],defers:=[]}) (fun x a A' B' h hk=>h) ?assign ?body ?done
  case assign=>
   intro l k x Y K hx hI hs hK
   have hK':=Lib.hid hK
   have hI':=Lib.hid hI
   clear hK hI
   unfold S9
   gi_wp2
   exact hK'.out _ _ rfl (Keeps.refl _ _) hI'.out
  case body=>
   rintro l k x a Y hx ⟨h0,h1,h2,h3⟩ rfl hs
   have hkm:k < m:=by
    have:=(List.getElem?_eq_some_iff.1 hx).1
    rw[HFL.out] at this
    exact this
   have c0:=h1.cell 0
   have f0:=h1.frozen 0
   have f1:=(h2.alloc (.cells #[Ap x] 136)).frozen k
   have c1:(Y.alloc (.cells #[Ap x] 136)).cell? ⟨w1.heap.size,k,none⟩=some (Ap 0):=by
    rw[(h2.alloc _).cell k]
    have:(((fours bs).take k).map Ap).length=k:=by rw[List.length_map,List.length_take,HFL.out];omega
    rw[List.getElem?_toArray,List.getElem?_append_right (by omega),this,Nat.sub_self,List.getElem?_replicate,if_pos (by omega)]
   have h1':Blk ((Y.alloc (.cells #[Ap x] 136)).setCell ⟨w1.heap.size,k,none⟩ (.int .u32 (n32 x))) (w1.heap.size+1) 30 #[.slice (some ⟨w1.heap.size,0,none⟩) k m]:=(h1.alloc _).far (by show w1.heap.size+1≠w1.heap.size;omega) _
   have c2:=h1'.cell 0
   have f2:=h1'.frozen 0
   have hz:((fours bs).take (k+1)).map Ap++List.replicate (m - (k+1)) (Ap 0)=(((fours bs).take k).map Ap++List.replicate (m - k) (Ap 0)).set k (Ap x):=by
    have hlk:(((fours bs).take k).map Ap).length=k:=by rw[List.length_map,List.length_take,HFL.out];omega
    have hxk:(fours bs).take (k+1)=(fours bs).take k++[x]:=by rw[List.take_add_one,hx];rfl
    rw[hxk,List.map_append,List.set_append_right _ _ (by omega),hlk,Nat.sub_self,show m - k=(m - (k+1))+1 by omega,List.replicate_succ,List.set_cons_zero,List.append_assoc]
    rfl
   have H1:=Lib.hid h1
   have H2:=Lib.hid h2
   have H3:=Lib.hid h3
   have HZ:=Lib.hid hz
   have H1':=Lib.hid h1'
   clear h1 h2 h3 hz h1'
   gi_wp2
   have hb2:Blk ((Y.alloc (.cells #[Ap x] 136)).setCell ⟨w1.heap.size,k,none⟩ (.int .u32 (n32 x))) w1.heap.size 136 (((fours bs).take (k+1)).map Ap++List.replicate (m - (k+1)) (Ap 0)).toArray:=by
    have:=(H2.out.alloc (.cells #[Ap x] 136)).set_ k (Ap x)
    rw[HZ.out]
    simpa using this
   refine⟨((Keeps.of_below ((Below.refl _ _).alloc (Nat.le_refl _) _)).trans (Keeps.setCell _ _ _ (.inl rfl))).trans (Keeps.setCell _ _ _ (.inr rfl)),by omega,?_,hb2.far (by show w1.heap.size≠w1.heap.size+1;omega) _,?_⟩
   ·have:=H1'.out.set_ 0 (.slice (some ⟨w1.heap.size,0,none⟩) (k+1) m)
    simpa using this
   ·exact ((H3.out.alloc (by omega) _).setCell (by show w1.heap.size≤w1.heap.size;omega) _).setCell (by show w1.heap.size≤w1.heap.size+1;omega) _
  case done=>
   rintro D Y hD ⟨_,h1,h2,h3⟩ hd
   rw[HFL.out] at h1 h2
   have c0:=h1.cell 0
   have hbY:Blk Y g 132 #[.slice t.A t.l.length t.c,.bool t.bad]:=HB.out.below h3 hgw
   have d0:=hbY.cell 0
   have f0:=hbY.frozen 0
   have HD:=Lib.hid hd
   have H2:=Lib.hid h2
   have H3:=Lib.hid h3
   have H1:=Lib.hid h1
   have HY:=Lib.hid hbY
   clear hd h1 h2 h3 hbY
   have hDg:D≠g:=by omega
   have fin:∀(v0:Value) (Z:World),v0=.slice (Ch t.A (4*m) t.c) (t.l.length - 4*m) (t.c - 4*m)→Z=(Y.setCell ⟨g,0,none⟩ v0).putObj D (.deferred none)→Sat w X [.b g,.s (.slice (some ⟨w1.heap.size,0,none⟩) m m)] [.pin g 132 (.c [.v (.slice q.2.A q.2.l.length q.2.c),.v (.bool q.2.bad)]),.own 136 (.u32 q.1)] Z:=by
    rintro v0 Z rfl rfl
    have hq:=HQ.out
    rw[if_pos trivial] at hq
    subst hq
    rw[←HBS.out]
    have hdl:(t.l.drop (4*m)).length=t.l.length - 4*m:=List.length_drop ..
    have hsz:D < Y.heap.size:=(Array.getElem?_eq_some_iff.1 HD.out).1
    have hb:Blk ((Y.setCell ⟨g,0,none⟩ (.slice (Ch t.A (4*m) t.c) (t.l.length - 4*m) (t.c - 4*m))).putObj D (.deferred none)) g 132 #[.slice (Ch t.A (4*m) t.c) (t.l.length - 4*m) (t.c - 4*m),.bool t.bad]:=by
     have:=HY.out.set_ 0 (.slice (Ch t.A (4*m) t.c) (t.l.length - 4*m) (t.c - 4*m))
     exact (World.putObj_heap_other (by omega)).trans this
    refine Ac3 (vs:=(fours bs).map Ap) ?_ hXg hgw0 (by simpa [RS.cut,hdl] using hb) ?_ (fun _=>rfl)
    ·refine A5j ?_
     refine ((HS1.out.keeps.mono fun k h=>.inl h).trans ((Keeps.of_below H3.out).mono fun k h=>.inl h)).trans ((Keeps.setCell _ _ _ (.inl hXg)).trans (Keeps.putObj _ _ _ (.inr ?_)))
     omega
    ·have hbm:=(H2.out.far (p:=⟨g,0,none⟩) (by show w1.heap.size≠g;omega) (.slice (Ch t.A (4*m) t.c) (t.l.length - 4*m) (t.c - 4*m)))
     have hbm2:((Y.setCell ⟨g,0,none⟩ (.slice (Ch t.A (4*m) t.c) (t.l.length - 4*m) (t.c - 4*m))).putObj D (.deferred none)).heap[w1.heap.size]?=_:=(World.putObj_heap_other (by omega)).trans hbm
     have hfm:(fours bs).take m=fours bs:=List.take_of_length_le (by rw[HFL.out];omega)
     rw[hfm,Nat.sub_self,List.replicate_zero,List.append_nil] at hbm2
     unfold Own World.ownsRow
     refine⟨by rw[Nat.mul_one],.inr ⟨w1.heap.size,m,_,by rw[List.length_map,HFL.out],hw1,hbm2,by rw[List.length_map,HFL.out];omega,by unfold maxLen;omega,by simp [HFL.out],List.take_of_length_le (by simp)⟩⟩
   gi_wp2
   ·refine⟨by simp,.inl ⟨_,_,rfl,run_takeDeferred ((heap_setCell_other Y ⟨g,0,none⟩ D _ (by show D≠g;omega)).trans HD.out),?_⟩⟩
    exact⟨_,results_tmp rfl _ _ _,_,rfl,fin _ _ (by unfold Ch;rw[if_pos (by omega)];congr 1;omega) rfl⟩
   ·refine⟨by simp,.inl ⟨_,_,rfl,run_takeDeferred ((heap_setCell_other Y ⟨g,0,none⟩ D _ (by show D≠g;omega)).trans HD.out),?_⟩⟩
    exact⟨_,results_tmp rfl _ _ _,_,rfl,fin _ _ (by unfold Ch;rw[if_neg (by omega)];rfl) rfl⟩
end Go.Proofs.YtiaeollemmkclaaDoor
