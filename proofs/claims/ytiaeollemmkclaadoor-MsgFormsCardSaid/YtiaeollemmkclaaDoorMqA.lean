import Derived.Test.YtiaeollemmkclaaDoorMgF
/- Law 16: MsgForms. -/
namespace Go.Proofs.YtiaeollemmkclaaDoor
open Go.RowKit
set_option linter.unusedSimpArgs false
set_option linter.unusedVariables false
theorem Afd {w0:World} {hp:List Res} {m:MgR} (hm:m.Wide w0):Ad Tryd.prog w0 No 36 [.x (.g (mgA m))] hp (.x (.a (.v (.bool (Jm m.mg))))) hp:=Ca fun γ w hS=>by
 have h:m.Wide w:=⟨hm.s,⟨hm.ids.1,Fz hm.ids.2 hS⟩,⟨hm.ns.1,Fz hm.ns.2 hS⟩,⟨hm.ps.1,Fz hm.ps.2 hS⟩,⟨hm.xs.1,Fz hm.xs.2 hS⟩⟩
 rw[show List.map (Sv.val γ) [.x (.g (mgA m))]=List.map (Sv.val []) [.x (.g (mgA m))] from by simp only[List.map_cons,List.map_nil];rw[Kd m γ []]]
 exact A8n m w h
theorem Afe:Kl none=.int .i64 3:=rfl
theorem Aff (m:MgS):Kl (some m)=.int .i64 0:=rfl
theorem Nz {w0:World} {hp:List Res} (hg:Handle w0):Ad Tryd.prog w0 No 44 [.x (.a (.v .nilIface))] hp (.x (.a (.v (.int .i64 0)))) hp:=Bcb 0 hg
theorem X1 (s:ByteArray):(s.toList==s.toList)=true:=by simp
attribute [local irreducible] Af Ad Av Bh Bf A6 Aw A9
attribute [local irreducible] mgA mgO mgJ fdA okV Cr Cc Jm Ah Hf Gc Kl
section
set_option maxRecDepth 100000 in
set_option maxHeartbeats 16000000 in
theorem Bct (a b:MgR) (A:Option Addr) (c:Nat) (l:List UInt8) (w:World) (ha:a.Wide w) (hb:b.Wide w) (hc:l.length≤c) (hR:RdV w w.heap.size A (l.map vU8)) (hg:Handle w):
  Calls Tryd.prog 6 (List.map (Sv.val []) [.x (.g (mgA a)),.x (.g (mgA b)),.x (.a (.v (.slice A l.length c)))]).toArray w fun e w'=>e=.returned (.bool true)∧Below w.heap.size w w':=by
 have zb:=fun (m:MgR) n=>Co m n
 have ob:=fun (m:MgS) a b c d n=>Dx m a b c d n
 have jb:=fun m a b n=>Tu m a b n
 simp only[At.bnd] at zb ob jb
 have al:=Cj ha.s
 have bl:=Cj hb.s
 have b0:=(Dw hb.s).1
 have hF:=Kc 1
 have hT:=M9 1
 refine By (n:=113) Tryd.func6 rfl Tryd.ntmps6 [.x (.g (mgA a)),.x (.g (mgA b)),.x (.a (.v (.slice A l.length c)))] (by simp) (.x (.a (.v (.bool true)))) (fun _=>rfl) ?_
 simp (maxSteps:=10^6) only[zb,al,↓Ba,push_cast,↓reduceIte,reduceCtorEq,Nat.reduceEqDiff,Nat.reduceLT,Nat.reduceAdd]
 (repeat (refine And.intro (by first|omega|decide) ?_))
 refine A8 rfl Aao rfl (Afd ha) (Aa rfl) ?_
 cases hba:Jm a.mg with
 |true=>
  simp (maxSteps:=10^6) only[undef,push_cast,↓reduceIte,Nat.reduceEqDiff,Nat.reduceLT,Nat.reduceAdd]
  (repeat (refine And.intro (by first|omega|decide) ?_))
  refine A8 rfl Lg rfl (L9 hg) (Aa rfl) ?_
  simp (maxSteps:=10^6) only[push_cast,↓reduceIte,Nat.reduceLT,Nat.reduceAdd]
  done
 |false=>
 simp (maxSteps:=10^6) only[bl,push_cast,↓reduceIte,Nat.reduceEqDiff,Nat.reduceLT,Nat.reduceAdd]
 (repeat (refine And.intro (by first|omega|decide) ?_))
 refine A8 rfl Aao rfl (Afd hb) (Aa rfl) ?_
 cases hbb:Jm b.mg with
 |true=>
  simp (maxSteps:=10^6) only[undef,push_cast,↓reduceIte,Nat.reduceEqDiff,Nat.reduceLT,Nat.reduceAdd]
  (repeat (refine And.intro (by first|omega|decide) ?_))
  refine A8 rfl Lg rfl (L9 hg) (Aa rfl) ?_
  simp (maxSteps:=10^6) only[push_cast,↓reduceIte,Nat.reduceLT,Nat.reduceAdd]
  done
 |false=>
 by_cases h3:(3000:Int) < (l.length:Int)
 ·simp (maxSteps:=10^6) only[h3,push_cast,↓reduceIte,reduceCtorEq,Nat.reduceEqDiff,Nat.reduceLT,Nat.reduceAdd]
  (repeat (refine And.intro (by first|omega|decide) ?_))
  refine A8 rfl Lg rfl (L9 hg) (Aa rfl) ?_
  simp (maxSteps:=10^6) only[push_cast,↓reduceIte,Nat.reduceLT,Nat.reduceAdd]
  done
 have aok:=ha.ok hba
 have bok:=hb.ok hbb
 have afew:=aok.few
 have aol:∀i j k l,(mgO a.mg i j k l).length=43:=fun _ _ _ _=>Eu ha.s
 have hl1:l.length≤100000:=by omega
 have hl2:l.length≤10000000:=by omega
 have hlB:∀hp:List Res,Cx w No hp (.x (.a (.v (.slice A l.length c)))) (l.map vU8):=fun hp=>Dq hR _ _ (by simp) hc
 have sa:∀(hp:List Res) (i j k l:Nat),hp[i]?=some (.own 3 (.i64 a.ids.l))→hp[j]?=some (.own 27 (.u64 a.ns.l))→hp[k]?=some (.onn 160 2 (.c (pcs a.ps.l)))→hp[l]?=some (.own 136 (.u32 a.xs.l))→Dg w hp (.x (.g (mgO a.mg i j k l))) a.mg:=fun hp i j k l h1 h2 h3 h4=>Pt afew h1 h2 h3 h4
 have sb:∀(hp:List Res) (i j k l:Nat),hp[i]?=some (.own 3 (.i64 b.ids.l))→hp[j]?=some (.own 27 (.u64 b.ns.l))→hp[k]?=some (.onn 160 2 (.c (pcs b.ps.l)))→hp[l]?=some (.own 136 (.u32 b.xs.l))→Dg w hp (.x (.g (mgO b.mg i j k l))) b.mg:=fun hp i j k l h1 h2 h3 h4=>Pt bok.few h1 h2 h3 h4
 have G0:F8 w No none ([]:List UInt8):=F8.of (FV.no RdV.nil_)
 have r8a:rd8 w none 0=[]:=G0.rd
 have r8b:Rd8 w No none 0:=G0.rdOk
 have hfb:=X1 (Ah b.k)
 have hnb:=X1 (Hf b.k)
 simp (maxSteps:=10^6) only[al,h3,push_cast,↓reduceIte,reduceCtorEq,Nat.reduceEqDiff,Nat.reduceLT,Nat.reduceAdd]
 (repeat (refine And.intro (by first|omega|decide) ?_))
 refine Bk rfl Gq rfl (G4 aok (by simp (maxSteps:=10^6) only[zb,push_cast,Nat.reduceAdd])) (Aa rfl) (fun _=>by simp (maxSteps:=10^6) only[zb,push_cast,Nat.reduceLT,Nat.reduceAdd]) ?_
 simp (maxSteps:=10^6) only[push_cast,↓reduceIte,Nat.reduceAdd]
 (repeat (refine And.intro (by first|omega|decide) ?_))
 cases hca:Cc a.mg with
 |false=>
  refine A8 rfl Ot rfl (Adc (sa _ 2 3 4 5 rfl rfl rfl rfl) hca) (Aa rfl) ?_
  simp (maxSteps:=10^6) only[al,push_cast,↓reduceIte,Nat.reduceEqDiff,Nat.reduceLT,Nat.reduceAdd]
  (repeat (refine And.intro (by first|omega|decide) ?_))
  refine A8 rfl R4 rfl (Ael (Dh aok) hca) (Aa rfl) ?_
  simp (maxSteps:=10^6) only[hF,push_cast,↓reduceIte,reduceCtorEq,Nat.reduceEqDiff,Nat.reduceLT,Nat.reduceAdd]
  (repeat (refine And.intro (by first|omega|decide) ?_))
  cases hD:Ep l with
  |none=>
   refine A8 rfl Lh rfl (Xc hl2 hD (hlB _) (by simp (maxSteps:=10^6) only[zb,Ag,push_cast,Nat.reduceAdd])) (Aa rfl) ?_
   simp (maxSteps:=10^6) only[zb,ob,Ag,Aq,Cv,B4,B5,undef,push_cast,↓reduceIte,reduceCtorEq,Nat.reduceEqDiff,Nat.reduceLT,Nat.reduceAdd]
   refine⟨of_eq_true (C1 _ _),?_⟩
   (repeat (refine And.intro (by first|omega|decide) ?_))
   refine Gg (ι:=MgR×List Fct) (fun x=>x.1.mg=(E0 l).getD Bt∧MOk x.2 x.1) (fun x=>.t [.g (mgA x.1),.a (.v (Kl (E0 l)))]) (fun x=>[.blk 83 (.c (mgA a)),.blk 83 (.c (mgA b)),.own 3 (.i64 a.ids.l),.own 27 (.u64 a.ns.l),.onn 160 2 (.c (pcs a.ps.l)),.own 136 (.u32 a.xs.l),.blk 89 (.c (mgA zeroR)),.abs (fctRep x.2)]) rfl R5 rfl (T4 hl1 (by simp (maxSteps:=10^6) only[zb,Ag,push_cast,Nat.reduceAdd]) (hlB _)) (Aa rfl) (by simp (maxSteps:=10^6) only[zb,ob,Ag,push_cast,Nat.reduceLT,Nat.reduceAdd]) ?_
   rintro⟨v,Fs⟩ ⟨hv,hvk⟩
   dsimp only at hv hvk
   rw[Ki,hD] at hv
   have hv:v.mg=Bt:=hv
   have vl:=Cj hvk.s
   rw[Ki,hD,Afe]
   simp (maxSteps:=10^6) only[zb,ob,al,Ag,Aq,Jq,B4,B5,vl,undef,push_cast,↓reduceIte,Nat.reduceEqDiff,Nat.reduceLT,Nat.reduceAdd]
   refine⟨of_eq_true (C1 _ _),?_⟩
   (repeat (refine And.intro (by first|omega|decide) ?_))
   refine Bk rfl Gq rfl (G4 aok (by simp (maxSteps:=10^6) only[zb,Ag,push_cast,Nat.reduceAdd])) (Aa rfl) (fun _=>by simp (maxSteps:=10^6) only[zb,ob,Ag,push_cast,Nat.reduceLT,Nat.reduceAdd]) ?_
   simp (maxSteps:=10^6) only[push_cast,↓reduceIte,Nat.reduceAdd]
   (repeat (refine And.intro (by first|omega|decide) ?_))
   refine A8 rfl Li rfl (Lw (sa _ 9 10 11 12 rfl rfl rfl rfl)) (Aa rfl) ?_
   rw[hca]
   simp (maxSteps:=10^6) only[hF,push_cast,↓reduceIte,Nat.reduceLT,Nat.reduceAdd]
   (repeat (refine And.intro (by first|omega|decide) ?_))
   refine Sr 13 [] (.rd 0 (.rd 1 (.rd 2 (.rd 3 (.rd 4 (.rd 5 (.rd 6 (.rd 8 (.wr 7 (.rd 9 (.rd 10 (.rd 11 (.rd 12 (.rd 14 (.wr 13 (.rd 15 (.rd 16 (.rd 17 (.rd 18 (.rd 20 (.wr 19 (.wr 21 (.rd 22 (.rd 23 (.rd 24 (.rd 26 (.wr 25 (.rd 27 (.rd 28 (.rd 29 (.rd 30 (.rd 32 (.rd 35 (.rd 36 (.wr 31 (.wr 33 (.wr 34 (.wr 37 (.rd 38 (.rd 39 (.rd 40 (.rd 41 (.rd 42 (.rd 44 (.rd 45 (.wr 43 (.wr 46 (.rd 47 (.rd 48 (.rd 49 (.rd 50 (.rd 51 (.rd 53 (.rd 54 (.wr 52 (.wr 55 (.rd 56 (.rd 57 (.rd 58 (.wr 59 (.rd 60 (.rd 61 .nil)))))))))))))))))))))))))))))))))))))))))))))))))))))))))))))) ⟨[(6,.x (.a (.v (.bool true))))],[]⟩ (by kernel_rfl) (by kernel_rfl) (by kernel_rfl) (Nat.le_refl 13) ?_ ?_
   ·simp (maxSteps:=10^6) only[r8a,r8b,push_cast,↓reduceIte,Nat.reduceEqDiff,Nat.reduceLT,Nat.reduceAdd,Nat.reduceSub]
    (repeat (refine And.intro (by first|omega|decide) ?_))
    refine Bz rfl F9 rfl (Km 1 hg) (Aa rfl) ?_
    simp (maxSteps:=10^6) only[push_cast,↓reduceIte,Nat.reduceEqDiff,Nat.reduceLT,Nat.reduceAdd,Nat.reduceSub]
    (repeat (refine And.intro (by first|omega|decide) ?_))
    refine Bz rfl F9 rfl (Km 1 hg) (Aa rfl) ?_
    simp (maxSteps:=10^6) only[B5,vl,push_cast,↓reduceIte,Nat.reduceEqDiff,Nat.reduceLT,Nat.reduceAdd,Nat.reduceSub]
    (repeat (refine And.intro (by first|omega|decide) ?_))
    refine Gv rfl R6 rfl (Ae5 (by simp (maxSteps:=10^6) only[zb,Ag,push_cast,Nat.reduceAdd])) (Aa rfl) (fun _=>by simp (maxSteps:=10^6) only[zb,ob,Ag,push_cast,Nat.reduceLT,Nat.reduceAdd]) rfl ?_
    simp (maxSteps:=10^6) only[push_cast,↓reduceIte,Nat.reduceEqDiff,Nat.reduceAdd]
    (repeat (refine And.intro (by first|omega|decide) ?_))
    refine Bz rfl J7 rfl (Kk (Ae7 (c:=13) rfl) (Ny (k:=7) hvk rfl)) (Aa rfl) ?_
    rw[hv,Su.2 rfl]
    simp (maxSteps:=10^6) only[push_cast,↓reduceIte,Nat.reduceEqDiff,Nat.reduceLT,Nat.reduceAdd,Nat.reduceSub]
    (repeat (refine And.intro (by first|omega|decide) ?_))
    refine Bz rfl F9 rfl (Km 3 hg) (Aa rfl) ?_
    simp (maxSteps:=10^6) only[al,bl,push_cast,↓reduceIte,Nat.reduceEqDiff,Nat.reduceLT,Nat.reduceAdd,Nat.reduceSub]
    (repeat (refine And.intro (by first|omega|decide) ?_))
    refine Gv rfl Gq rfl (G4 aok (by simp (maxSteps:=10^6) only[zb,Ag,push_cast,Nat.reduceAdd])) (Aa rfl) (fun _=>by simp (maxSteps:=10^6) only[zb,ob,Ag,jb,push_cast,Nat.reduceLT,Nat.reduceAdd]) rfl ?_
    simp (maxSteps:=10^6) only[push_cast,↓reduceIte,Nat.reduceEqDiff,Nat.reduceAdd]
    (repeat (refine And.intro (by first|omega|decide) ?_))
    refine Gv rfl Gq rfl (G4 bok (by simp (maxSteps:=10^6) only[zb,Ag,push_cast,Nat.reduceAdd])) (Aa rfl) (fun _=>by simp (maxSteps:=10^6) only[zb,ob,Ag,jb,push_cast,Nat.reduceLT,Nat.reduceAdd]) rfl ?_
    simp (maxSteps:=10^6) only[push_cast,↓reduceIte,Nat.reduceEqDiff,Nat.reduceAdd]
    (repeat (refine And.intro (by first|omega|decide) ?_))
    refine Bz rfl Ou rfl (Pd (sa _ 14 15 16 17 rfl rfl rfl rfl) (sb _ 18 19 20 21 rfl rfl rfl rfl)) (Aa rfl) ?_
    simp (maxSteps:=10^6) only[push_cast,↓reduceIte,Nat.reduceEqDiff]
    (repeat (refine And.intro (by first|omega|decide) ?_))
    refine Bz rfl J7 rfl (Kk (Dh aok) (Dh bok)) (Aa rfl) ?_
    simp (maxSteps:=10^6) only[b0,bl,undef,push_cast,↓reduceIte,reduceCtorEq,Nat.reduceEqDiff,Nat.reduceLT,Nat.reduceAdd,Nat.reduceSub]
    (repeat (refine And.intro (by first|omega|decide) ?_))
    refine Bz rfl J8 rfl (Ke b.k) (Aa rfl) ?_
    simp (maxSteps:=10^6) only[push_cast,↓reduceIte,Nat.reduceEqDiff]
    (repeat (refine And.intro (by first|omega|decide) ?_))
    refine Bz rfl Lj rfl (L4 b.k) (Aa rfl) ?_
    simp (maxSteps:=10^6) only[b0,bl,hfb,undef,push_cast,↓reduceIte,reduceCtorEq,Nat.reduceEqDiff,Nat.reduceLT,Nat.reduceAdd,Nat.reduceSub]
    (repeat (refine And.intro (by first|omega|decide) ?_))
    refine Bz rfl Ov rfl (Pa b.k) (Aa rfl) ?_
    simp (maxSteps:=10^6) only[push_cast,↓reduceIte,Nat.reduceEqDiff]
    (repeat (refine And.intro (by first|omega|decide) ?_))
    refine Bz rfl R7 rfl (Ti b.k) (Aa rfl) ?_
    simp (maxSteps:=10^6) only[hnb,push_cast,↓reduceIte,Nat.reduceEqDiff,Nat.reduceLT,Nat.reduceAdd,Nat.reduceSub]
    (repeat (refine And.intro (by first|omega|decide) ?_))
    refine Bz rfl Lg rfl (L9 hg) (Aa rfl) ?_
    simp (maxSteps:=10^6) only[push_cast,↓reduceIte,Nat.reduceEqDiff,Nat.reduceLT,Nat.reduceAdd,Nat.reduceSub]
    (repeat (refine And.intro (by first|omega|decide) ?_))
    refine Il [] ?_
    simp (maxSteps:=10^6) only[push_cast,↓reduceIte]
    done
   ·simp (maxSteps:=10^6) only[push_cast,↓reduceIte]
    done
  |some m=>
   have mfew:=(Ae1 hD)
   have mol:∀i j k l,(mgO m i j k l).length=43:=fun _ _ _ _=>Eu mfew.sm
   refine Bk rfl Lh rfl (Td hl2 hD (hlB _) (by simp (maxSteps:=10^6) only[zb,Ag,push_cast,Nat.reduceAdd])) (Aa rfl) (fun _=>by simp (maxSteps:=10^6) only[zb,ob,Ag,push_cast,Nat.reduceLT,Nat.reduceAdd]) ?_
   simp (maxSteps:=10^6) only[zb,ob,Ag,Aq,Cv,B4,B5,mol,undef,push_cast,↓reduceIte,reduceCtorEq,Nat.reduceEqDiff,Nat.reduceLT,Nat.reduceAdd]
   refine⟨cast (Nh m 6 7 8 9 _).symm ⟨rfl,rfl,rfl,rfl⟩,?_⟩
   (repeat (refine And.intro (by first|omega|decide) ?_))
   refine Gg (ι:=MgR×List Fct) (fun x=>x.1.mg=(E0 l).getD Bt∧MOk x.2 x.1) (fun x=>.t [.g (mgA x.1),.a (.v (Kl (E0 l)))]) (fun x=>[.blk 83 (.c (mgA a)),.blk 83 (.c (mgA b)),.own 3 (.i64 a.ids.l),.own 27 (.u64 a.ns.l),.onn 160 2 (.c (pcs a.ps.l)),.own 136 (.u32 a.xs.l),.own 3 (.i64 m.ids),.own 27 (.u64 m.ns),.onn 160 2 (.c (pcs m.ps)),.own 136 (.u32 m.xs),.blk 89 (.c (mgO m 6 7 8 9)),.abs (fctRep x.2)]) rfl R5 rfl (T4 hl1 (by simp (maxSteps:=10^6) only[zb,ob,Ag,push_cast,Nat.reduceLT,Nat.reduceAdd]) (hlB _)) (Aa rfl) (by simp (maxSteps:=10^6) only[zb,ob,Ag,push_cast,Nat.reduceLT,Nat.reduceAdd]) ?_
   rintro⟨v,Fs⟩ ⟨hv,hvk⟩
   dsimp only at hv hvk
   rw[Ki,hD] at hv
   have hv:v.mg=m:=hv
   have vl:=Cj hvk.s
   rw[Ki,hD,Aff]
   simp (maxSteps:=10^6) only[zb,ob,al,Ag,Aq,Jq,B4,B5,vl,undef,push_cast,↓reduceIte,Nat.reduceEqDiff,Nat.reduceLT,Nat.reduceAdd]
   refine⟨of_eq_true (C1 _ _),?_⟩
   (repeat (refine And.intro (by first|omega|decide) ?_))
   refine Bk rfl Gq rfl (G4 aok (by simp (maxSteps:=10^6) only[zb,ob,Ag,push_cast,Nat.reduceLT,Nat.reduceAdd])) (Aa rfl) (fun _=>by simp (maxSteps:=10^6) only[zb,ob,Ag,push_cast,Nat.reduceLT,Nat.reduceAdd]) ?_
   simp (maxSteps:=10^6) only[push_cast,↓reduceIte,Nat.reduceAdd]
   (repeat (refine And.intro (by first|omega|decide) ?_))
   refine A8 rfl Li rfl (Lw (sa _ 13 14 15 16 rfl rfl rfl rfl)) (Aa rfl) ?_
   rw[hca]
   simp (maxSteps:=10^6) only[hF,push_cast,↓reduceIte,Nat.reduceLT,Nat.reduceAdd]
   (repeat (refine And.intro (by first|omega|decide) ?_))
   refine Sr 17 [] (.rd 0 (.rd 1 (.rd 2 (.rd 3 (.rd 4 (.rd 5 (.rd 6 (.rd 8 (.wr 7 (.rd 9 (.rd 10 (.rd 11 (.rd 12 (.rd 14 (.wr 13 (.rd 15 (.rd 16 (.rd 17 (.rd 18 (.rd 20 (.wr 19 (.wr 21 (.rd 22 (.rd 23 (.rd 24 (.rd 26 (.wr 25 (.rd 27 (.rd 28 (.rd 29 (.rd 30 (.rd 32 (.rd 35 (.rd 36 (.wr 31 (.wr 33 (.wr 34 (.wr 37 (.rd 38 (.rd 39 (.rd 40 (.rd 41 (.rd 42 (.rd 44 (.rd 45 (.wr 43 (.wr 46 (.rd 47 (.rd 48 (.rd 49 (.rd 50 (.rd 51 (.rd 53 (.rd 54 (.wr 52 (.wr 55 (.rd 56 (.rd 57 (.rd 58 (.wr 59 (.rd 60 (.rd 61 .nil)))))))))))))))))))))))))))))))))))))))))))))))))))))))))))))) ⟨[(6,.x (.a (.v (.bool true))))],[]⟩ (by kernel_rfl) (by kernel_rfl) (by kernel_rfl) (Nat.le_refl 17) ?_ ?_
   ·simp (maxSteps:=10^6) only[r8a,r8b,push_cast,↓reduceIte,Nat.reduceEqDiff,Nat.reduceLT,Nat.reduceAdd,Nat.reduceSub]
    (repeat (refine And.intro (by first|omega|decide) ?_))
    refine Bz rfl F9 rfl (Km 1 hg) (Aa rfl) ?_
    simp (maxSteps:=10^6) only[push_cast,↓reduceIte,Nat.reduceEqDiff,Nat.reduceLT,Nat.reduceAdd,Nat.reduceSub]
    (repeat (refine And.intro (by first|omega|decide) ?_))
    refine Bz rfl F9 rfl (Km 1 hg) (Aa rfl) ?_
    simp (maxSteps:=10^6) only[vl,mol,push_cast,↓reduceIte,Nat.reduceEqDiff,Nat.reduceLT,Nat.reduceAdd,Nat.reduceSub]
    (repeat (refine And.intro (by first|omega|decide) ?_))
    refine Gv rfl R6 rfl (Ae4 m 6 7 8 9 (by show 6 < 17;decide) (by show 7 < 17;decide) (by show 9 < 17;decide) (by simp (maxSteps:=10^6) only[zb,ob,Ag,push_cast,Nat.reduceLT,Nat.reduceAdd]) (Pt mfew rfl rfl rfl rfl)) (Aa rfl) (fun _=>by simp (maxSteps:=10^6) only[zb,ob,Ag,push_cast,Nat.reduceLT,Nat.reduceAdd]) rfl ?_
    simp (maxSteps:=10^6) only[push_cast,↓reduceIte,Nat.reduceEqDiff,Nat.reduceAdd]
    (repeat (refine And.intro (by first|omega|decide) ?_))
    refine Bz rfl J7 rfl (Kk (Ae6 (a:=6) (b:=7) (c:=17) (d:=9) mfew rfl rfl rfl rfl) (Ny (k:=11) hvk rfl)) (Aa rfl) ?_
    rw[hv,Su.2 rfl]
    simp (maxSteps:=10^6) only[push_cast,↓reduceIte,Nat.reduceEqDiff,Nat.reduceLT,Nat.reduceAdd,Nat.reduceSub]
    (repeat (refine And.intro (by first|omega|decide) ?_))
    refine Bz rfl F9 rfl (Nz hg) (Aa rfl) ?_
    simp (maxSteps:=10^6) only[al,bl,push_cast,↓reduceIte,Nat.reduceEqDiff,Nat.reduceLT,Nat.reduceAdd,Nat.reduceSub]
    (repeat (refine And.intro (by first|omega|decide) ?_))
    refine Gv rfl Gq rfl (G4 aok (by simp (maxSteps:=10^6) only[zb,ob,Ag,push_cast,Nat.reduceLT,Nat.reduceAdd])) (Aa rfl) (fun _=>by simp (maxSteps:=10^6) only[zb,ob,Ag,push_cast,Nat.reduceLT,Nat.reduceAdd]) rfl ?_
    simp (maxSteps:=10^6) only[push_cast,↓reduceIte,Nat.reduceEqDiff,Nat.reduceAdd]
    (repeat (refine And.intro (by first|omega|decide) ?_))
    refine Gv rfl Gq rfl (G4 bok (by simp (maxSteps:=10^6) only[zb,ob,Ag,push_cast,Nat.reduceLT,Nat.reduceAdd])) (Aa rfl) (fun _=>by simp (maxSteps:=10^6) only[zb,ob,Ag,push_cast,Nat.reduceLT,Nat.reduceAdd]) rfl ?_
    simp (maxSteps:=10^6) only[push_cast,↓reduceIte,Nat.reduceEqDiff,Nat.reduceAdd]
    (repeat (refine And.intro (by first|omega|decide) ?_))
    refine Bz rfl Ou rfl (Pd (sa _ 18 19 20 21 rfl rfl rfl rfl) (sb _ 22 23 24 25 rfl rfl rfl rfl)) (Aa rfl) ?_
    simp (maxSteps:=10^6) only[push_cast,↓reduceIte,Nat.reduceEqDiff]
    (repeat (refine And.intro (by first|omega|decide) ?_))
    refine Bz rfl J7 rfl (Kk (Dh aok) (Dh bok)) (Aa rfl) ?_
    simp (maxSteps:=10^6) only[b0,bl,undef,push_cast,↓reduceIte,reduceCtorEq,Nat.reduceEqDiff,Nat.reduceLT,Nat.reduceAdd,Nat.reduceSub]
    (repeat (refine And.intro (by first|omega|decide) ?_))
    refine Bz rfl J8 rfl (Ke b.k) (Aa rfl) ?_
    simp (maxSteps:=10^6) only[push_cast,↓reduceIte,Nat.reduceEqDiff]
    (repeat (refine And.intro (by first|omega|decide) ?_))
    refine Bz rfl Lj rfl (L4 b.k) (Aa rfl) ?_
    simp (maxSteps:=10^6) only[b0,bl,hfb,undef,push_cast,↓reduceIte,reduceCtorEq,Nat.reduceEqDiff,Nat.reduceLT,Nat.reduceAdd,Nat.reduceSub]
    (repeat (refine And.intro (by first|omega|decide) ?_))
    refine Bz rfl Ov rfl (Pa b.k) (Aa rfl) ?_
    simp (maxSteps:=10^6) only[push_cast,↓reduceIte,Nat.reduceEqDiff]
    (repeat (refine And.intro (by first|omega|decide) ?_))
    refine Bz rfl R7 rfl (Ti b.k) (Aa rfl) ?_
    simp (maxSteps:=10^6) only[hnb,push_cast,↓reduceIte,Nat.reduceEqDiff,Nat.reduceLT,Nat.reduceAdd,Nat.reduceSub]
    (repeat (refine And.intro (by first|omega|decide) ?_))
    refine Bz rfl Lg rfl (L9 hg) (Aa rfl) ?_
    simp (maxSteps:=10^6) only[push_cast,↓reduceIte,Nat.reduceEqDiff,Nat.reduceLT,Nat.reduceAdd,Nat.reduceSub]
    (repeat (refine And.intro (by first|omega|decide) ?_))
    refine Il [] ?_
    simp (maxSteps:=10^6) only[push_cast,↓reduceIte]
    done
   ·simp (maxSteps:=10^6) only[push_cast,↓reduceIte]
    done
 |true=>
  refine Bk rfl Ot rfl (W5 (sa _ 2 3 4 5 rfl rfl rfl rfl) hca (by simp (maxSteps:=10^6) only[zb,Ag,push_cast,Nat.reduceAdd])) (Aa rfl) (fun _=>by simp (maxSteps:=10^6) only[zb,ob,Ag,push_cast,Nat.reduceLT,Nat.reduceAdd]) ?_
  simp (maxSteps:=10^6) only[al,push_cast,↓reduceIte,Nat.reduceEqDiff,Nat.reduceLT,Nat.reduceAdd]
  (repeat (refine And.intro (by first|omega|decide) ?_))
  refine Bk rfl R4 rfl (Aem (Dh aok) hca (by simp (maxSteps:=10^6) only[zb,Ag,push_cast,Nat.reduceAdd])) (Aa rfl) (fun _=>by simp (maxSteps:=10^6) only[zb,ob,Ag,push_cast,Nat.reduceLT,Nat.reduceAdd]) ?_
  have hcmp:=X1 (Fa (Cr a.mg))
  simp (maxSteps:=10^6) only[push_cast,↓reduceIte,reduceCtorEq,Nat.reduceEqDiff,Nat.reduceLT,Nat.reduceAdd]
  (repeat (refine And.intro (by first|omega|decide) ?_))
  cases hD:Ep l with
  |none=>
   refine A8 rfl Lh rfl (Xc hl2 hD (hlB _) (by simp (maxSteps:=10^6) only[zb,Ag,push_cast,Nat.reduceAdd])) (Aa rfl) ?_
   simp (maxSteps:=10^6) only[zb,ob,Ag,Aq,Cv,B4,B5,undef,push_cast,↓reduceIte,reduceCtorEq,Nat.reduceEqDiff,Nat.reduceLT,Nat.reduceAdd]
   refine⟨of_eq_true (C1 _ _),?_⟩
   (repeat (refine And.intro (by first|omega|decide) ?_))
   refine Gg (ι:=MgR×List Fct) (fun x=>x.1.mg=(E0 l).getD Bt∧MOk x.2 x.1) (fun x=>.t [.g (mgA x.1),.a (.v (Kl (E0 l)))]) (fun x=>[.blk 83 (.c (mgA a)),.blk 83 (.c (mgA b)),.own 3 (.i64 a.ids.l),.own 27 (.u64 a.ns.l),.onn 160 2 (.c (pcs a.ps.l)),.own 136 (.u32 a.xs.l),.own 5 (.u8 (Cr a.mg)),.own 5 (.u8 (Cr a.mg)),.blk 89 (.c (mgA zeroR)),.abs (fctRep x.2)]) rfl R5 rfl (T4 hl1 (by simp (maxSteps:=10^6) only[zb,Ag,push_cast,Nat.reduceAdd]) (hlB _)) (Aa rfl) (by simp (maxSteps:=10^6) only[zb,ob,Ag,push_cast,Nat.reduceLT,Nat.reduceAdd]) ?_
   rintro⟨v,Fs⟩ ⟨hv,hvk⟩
   dsimp only at hv hvk
   rw[Ki,hD] at hv
   have hv:v.mg=Bt:=hv
   have vl:=Cj hvk.s
   rw[Ki,hD,Afe]
   simp (maxSteps:=10^6) only[zb,ob,al,Ag,Aq,Jq,B4,B5,vl,undef,push_cast,↓reduceIte,Nat.reduceEqDiff,Nat.reduceLT,Nat.reduceAdd]
   refine⟨of_eq_true (C1 _ _),?_⟩
   (repeat (refine And.intro (by first|omega|decide) ?_))
   refine Bk rfl Gq rfl (G4 aok (by simp (maxSteps:=10^6) only[zb,Ag,push_cast,Nat.reduceAdd])) (Aa rfl) (fun _=>by simp (maxSteps:=10^6) only[zb,ob,Ag,push_cast,Nat.reduceLT,Nat.reduceAdd]) ?_
   simp (maxSteps:=10^6) only[push_cast,↓reduceIte,Nat.reduceAdd]
   (repeat (refine And.intro (by first|omega|decide) ?_))
   refine A8 rfl Li rfl (Lw (sa _ 11 12 13 14 rfl rfl rfl rfl)) (Aa rfl) ?_
   rw[hca]
   simp (maxSteps:=10^6) only[hT,push_cast,↓reduceIte,Nat.reduceLT,Nat.reduceAdd]
   (repeat (refine And.intro (by first|omega|decide) ?_))
   refine Sr 15 [] (.rd 0 (.rd 1 (.rd 2 (.rd 3 (.rd 4 (.rd 5 (.rd 6 (.rd 8 (.wr 7 (.rd 9 (.rd 10 (.rd 11 (.rd 12 (.rd 14 (.wr 13 (.rd 15 (.rd 16 (.rd 17 (.rd 18 (.rd 20 (.wr 19 (.wr 21 (.rd 22 (.rd 23 (.rd 24 (.rd 26 (.wr 25 (.rd 27 (.rd 28 (.rd 29 (.rd 30 (.rd 32 (.rd 35 (.rd 36 (.wr 31 (.wr 33 (.wr 34 (.wr 37 (.rd 38 (.rd 39 (.rd 40 (.rd 41 (.rd 42 (.rd 44 (.rd 45 (.wr 43 (.wr 46 (.rd 47 (.rd 48 (.rd 49 (.rd 50 (.rd 51 (.rd 53 (.rd 54 (.wr 52 (.wr 55 (.rd 56 (.rd 57 (.rd 58 (.wr 59 (.rd 60 (.rd 61 .nil)))))))))))))))))))))))))))))))))))))))))))))))))))))))))))))) ⟨[(6,.x (.a (.v (.bool true))))],[]⟩ (by kernel_rfl) (by kernel_rfl) (by kernel_rfl) (Nat.le_refl 15) ?_ ?_
   ·simp (maxSteps:=10^6) only[push_cast,↓reduceIte,Nat.reduceEqDiff,Nat.reduceLT,Nat.reduceAdd,Nat.reduceSub]
    (repeat (refine And.intro (by first|omega|decide) ?_))
    refine Bz rfl F9 rfl (Nz hg) (Aa rfl) ?_
    simp (maxSteps:=10^6) only[push_cast,↓reduceIte,Nat.reduceEqDiff,Nat.reduceLT,Nat.reduceAdd,Nat.reduceSub]
    (repeat (refine And.intro (by first|omega|decide) ?_))
    refine Bz rfl F9 rfl (Nz hg) (Aa rfl) ?_
    simp (maxSteps:=10^6) only[B5,vl,push_cast,↓reduceIte,Nat.reduceEqDiff,Nat.reduceLT,Nat.reduceAdd,Nat.reduceSub]
    (repeat (refine And.intro (by first|omega|decide) ?_))
    refine Gv rfl R6 rfl (Ae5 (by simp (maxSteps:=10^6) only[zb,Ag,push_cast,Nat.reduceAdd])) (Aa rfl) (fun _=>by simp (maxSteps:=10^6) only[zb,ob,Ag,push_cast,Nat.reduceLT,Nat.reduceAdd]) rfl ?_
    simp (maxSteps:=10^6) only[push_cast,↓reduceIte,Nat.reduceEqDiff,Nat.reduceAdd]
    (repeat (refine And.intro (by first|omega|decide) ?_))
    refine Bz rfl J7 rfl (Kk (Ae7 (c:=15) rfl) (Ny (k:=9) hvk rfl)) (Aa rfl) ?_
    rw[hv,Su.2 rfl]
    simp (maxSteps:=10^6) only[push_cast,↓reduceIte,Nat.reduceEqDiff,Nat.reduceLT,Nat.reduceAdd,Nat.reduceSub]
    (repeat (refine And.intro (by first|omega|decide) ?_))
    refine Bz rfl F9 rfl (Km 3 hg) (Aa rfl) ?_
    simp (maxSteps:=10^6) only[al,bl,push_cast,↓reduceIte,Nat.reduceEqDiff,Nat.reduceLT,Nat.reduceAdd,Nat.reduceSub]
    (repeat (refine And.intro (by first|omega|decide) ?_))
    refine Gv rfl Gq rfl (G4 aok (by simp (maxSteps:=10^6) only[zb,Ag,push_cast,Nat.reduceAdd])) (Aa rfl) (fun _=>by simp (maxSteps:=10^6) only[zb,ob,Ag,jb,push_cast,Nat.reduceLT,Nat.reduceAdd]) rfl ?_
    simp (maxSteps:=10^6) only[push_cast,↓reduceIte,Nat.reduceEqDiff,Nat.reduceAdd]
    (repeat (refine And.intro (by first|omega|decide) ?_))
    refine Gv rfl Gq rfl (G4 bok (by simp (maxSteps:=10^6) only[zb,Ag,push_cast,Nat.reduceAdd])) (Aa rfl) (fun _=>by simp (maxSteps:=10^6) only[zb,ob,Ag,jb,push_cast,Nat.reduceLT,Nat.reduceAdd]) rfl ?_
    simp (maxSteps:=10^6) only[push_cast,↓reduceIte,Nat.reduceEqDiff,Nat.reduceAdd]
    (repeat (refine And.intro (by first|omega|decide) ?_))
    refine Bz rfl Ou rfl (Pd (sa _ 16 17 18 19 rfl rfl rfl rfl) (sb _ 20 21 22 23 rfl rfl rfl rfl)) (Aa rfl) ?_
    simp (maxSteps:=10^6) only[push_cast,↓reduceIte,Nat.reduceEqDiff]
    (repeat (refine And.intro (by first|omega|decide) ?_))
    refine Bz rfl J7 rfl (Kk (Dh aok) (Dh bok)) (Aa rfl) ?_
    simp (maxSteps:=10^6) only[b0,bl,undef,push_cast,↓reduceIte,reduceCtorEq,Nat.reduceEqDiff,Nat.reduceLT,Nat.reduceAdd,Nat.reduceSub]
    (repeat (refine And.intro (by first|omega|decide) ?_))
    refine Bz rfl J8 rfl (Ke b.k) (Aa rfl) ?_
    simp (maxSteps:=10^6) only[push_cast,↓reduceIte,Nat.reduceEqDiff]
    (repeat (refine And.intro (by first|omega|decide) ?_))
    refine Bz rfl Lj rfl (L4 b.k) (Aa rfl) ?_
    simp (maxSteps:=10^6) only[b0,bl,hfb,undef,push_cast,↓reduceIte,reduceCtorEq,Nat.reduceEqDiff,Nat.reduceLT,Nat.reduceAdd,Nat.reduceSub]
    (repeat (refine And.intro (by first|omega|decide) ?_))
    refine Bz rfl Ov rfl (Pa b.k) (Aa rfl) ?_
    simp (maxSteps:=10^6) only[push_cast,↓reduceIte,Nat.reduceEqDiff]
    (repeat (refine And.intro (by first|omega|decide) ?_))
    refine Bz rfl R7 rfl (Ti b.k) (Aa rfl) ?_
    simp (maxSteps:=10^6) only[hnb,push_cast,↓reduceIte,Nat.reduceEqDiff,Nat.reduceLT,Nat.reduceAdd,Nat.reduceSub]
    (repeat (refine And.intro (by first|omega|decide) ?_))
    refine Bz rfl Lg rfl (L9 hg) (Aa rfl) ?_
    simp (maxSteps:=10^6) only[push_cast,↓reduceIte,Nat.reduceEqDiff,Nat.reduceLT,Nat.reduceAdd,Nat.reduceSub]
    (repeat (refine And.intro (by first|omega|decide) ?_))
    refine Il [] ?_
    simp (maxSteps:=10^6) only[push_cast,↓reduceIte]
    done
   ·simp (maxSteps:=10^6) only[push_cast,↓reduceIte]
    done
  |some m=>
   have mfew:=(Ae1 hD)
   have mol:∀i j k l,(mgO m i j k l).length=43:=fun _ _ _ _=>Eu mfew.sm
   refine Bk rfl Lh rfl (Td hl2 hD (hlB _) (by simp (maxSteps:=10^6) only[zb,Ag,push_cast,Nat.reduceAdd])) (Aa rfl) (fun _=>by simp (maxSteps:=10^6) only[zb,ob,Ag,push_cast,Nat.reduceLT,Nat.reduceAdd]) ?_
   simp (maxSteps:=10^6) only[zb,ob,Ag,Aq,Cv,B4,B5,mol,undef,push_cast,↓reduceIte,reduceCtorEq,Nat.reduceEqDiff,Nat.reduceLT,Nat.reduceAdd]
   refine⟨cast (Nh m 8 9 10 11 _).symm ⟨rfl,rfl,rfl,rfl⟩,?_⟩
   (repeat (refine And.intro (by first|omega|decide) ?_))
   refine Gg (ι:=MgR×List Fct) (fun x=>x.1.mg=(E0 l).getD Bt∧MOk x.2 x.1) (fun x=>.t [.g (mgA x.1),.a (.v (Kl (E0 l)))]) (fun x=>[.blk 83 (.c (mgA a)),.blk 83 (.c (mgA b)),.own 3 (.i64 a.ids.l),.own 27 (.u64 a.ns.l),.onn 160 2 (.c (pcs a.ps.l)),.own 136 (.u32 a.xs.l),.own 5 (.u8 (Cr a.mg)),.own 5 (.u8 (Cr a.mg)),.own 3 (.i64 m.ids),.own 27 (.u64 m.ns),.onn 160 2 (.c (pcs m.ps)),.own 136 (.u32 m.xs),.blk 89 (.c (mgO m 8 9 10 11)),.abs (fctRep x.2)]) rfl R5 rfl (T4 hl1 (by simp (maxSteps:=10^6) only[zb,ob,Ag,push_cast,Nat.reduceLT,Nat.reduceAdd]) (hlB _)) (Aa rfl) (by simp (maxSteps:=10^6) only[zb,ob,Ag,push_cast,Nat.reduceLT,Nat.reduceAdd]) ?_
   rintro⟨v,Fs⟩ ⟨hv,hvk⟩
   dsimp only at hv hvk
   rw[Ki,hD] at hv
   have hv:v.mg=m:=hv
   have vl:=Cj hvk.s
   rw[Ki,hD,Aff]
   simp (maxSteps:=10^6) only[zb,ob,al,Ag,Aq,Jq,B4,B5,vl,undef,push_cast,↓reduceIte,Nat.reduceEqDiff,Nat.reduceLT,Nat.reduceAdd]
   refine⟨of_eq_true (C1 _ _),?_⟩
   (repeat (refine And.intro (by first|omega|decide) ?_))
   refine Bk rfl Gq rfl (G4 aok (by simp (maxSteps:=10^6) only[zb,ob,Ag,push_cast,Nat.reduceLT,Nat.reduceAdd])) (Aa rfl) (fun _=>by simp (maxSteps:=10^6) only[zb,ob,Ag,push_cast,Nat.reduceLT,Nat.reduceAdd]) ?_
   simp (maxSteps:=10^6) only[push_cast,↓reduceIte,Nat.reduceAdd]
   (repeat (refine And.intro (by first|omega|decide) ?_))
   refine A8 rfl Li rfl (Lw (sa _ 15 16 17 18 rfl rfl rfl rfl)) (Aa rfl) ?_
   rw[hca]
   simp (maxSteps:=10^6) only[hT,push_cast,↓reduceIte,Nat.reduceLT,Nat.reduceAdd]
   (repeat (refine And.intro (by first|omega|decide) ?_))
   refine Sr 19 [] (.rd 0 (.rd 1 (.rd 2 (.rd 3 (.rd 4 (.rd 5 (.rd 6 (.rd 8 (.wr 7 (.rd 9 (.rd 10 (.rd 11 (.rd 12 (.rd 14 (.wr 13 (.rd 15 (.rd 16 (.rd 17 (.rd 18 (.rd 20 (.wr 19 (.wr 21 (.rd 22 (.rd 23 (.rd 24 (.rd 26 (.wr 25 (.rd 27 (.rd 28 (.rd 29 (.rd 30 (.rd 32 (.rd 35 (.rd 36 (.wr 31 (.wr 33 (.wr 34 (.wr 37 (.rd 38 (.rd 39 (.rd 40 (.rd 41 (.rd 42 (.rd 44 (.rd 45 (.wr 43 (.wr 46 (.rd 47 (.rd 48 (.rd 49 (.rd 50 (.rd 51 (.rd 53 (.rd 54 (.wr 52 (.wr 55 (.rd 56 (.rd 57 (.rd 58 (.wr 59 (.rd 60 (.rd 61 .nil)))))))))))))))))))))))))))))))))))))))))))))))))))))))))))))) ⟨[(6,.x (.a (.v (.bool true))))],[]⟩ (by kernel_rfl) (by kernel_rfl) (by kernel_rfl) (Nat.le_refl 19) ?_ ?_
   ·simp (maxSteps:=10^6) only[push_cast,↓reduceIte,Nat.reduceEqDiff,Nat.reduceLT,Nat.reduceAdd,Nat.reduceSub]
    (repeat (refine And.intro (by first|omega|decide) ?_))
    refine Bz rfl F9 rfl (Nz hg) (Aa rfl) ?_
    simp (maxSteps:=10^6) only[push_cast,↓reduceIte,Nat.reduceEqDiff,Nat.reduceLT,Nat.reduceAdd,Nat.reduceSub]
    (repeat (refine And.intro (by first|omega|decide) ?_))
    refine Bz rfl F9 rfl (Nz hg) (Aa rfl) ?_
    simp (maxSteps:=10^6) only[vl,mol,push_cast,↓reduceIte,Nat.reduceEqDiff,Nat.reduceLT,Nat.reduceAdd,Nat.reduceSub]
    (repeat (refine And.intro (by first|omega|decide) ?_))
    refine Gv rfl R6 rfl (Ae4 m 8 9 10 11 (by show 8 < 19;decide) (by show 9 < 19;decide) (by show 11 < 19;decide) (by simp (maxSteps:=10^6) only[zb,ob,Ag,push_cast,Nat.reduceLT,Nat.reduceAdd]) (Pt mfew rfl rfl rfl rfl)) (Aa rfl) (fun _=>by simp (maxSteps:=10^6) only[zb,ob,Ag,push_cast,Nat.reduceLT,Nat.reduceAdd]) rfl ?_
    simp (maxSteps:=10^6) only[push_cast,↓reduceIte,Nat.reduceEqDiff,Nat.reduceAdd]
    (repeat (refine And.intro (by first|omega|decide) ?_))
    refine Bz rfl J7 rfl (Kk (Ae6 (a:=8) (b:=9) (c:=19) (d:=11) mfew rfl rfl rfl rfl) (Ny (k:=13) hvk rfl)) (Aa rfl) ?_
    rw[hv,Su.2 rfl]
    simp (maxSteps:=10^6) only[push_cast,↓reduceIte,Nat.reduceEqDiff,Nat.reduceLT,Nat.reduceAdd,Nat.reduceSub]
    (repeat (refine And.intro (by first|omega|decide) ?_))
    refine Bz rfl F9 rfl (Nz hg) (Aa rfl) ?_
    simp (maxSteps:=10^6) only[al,bl,push_cast,↓reduceIte,Nat.reduceEqDiff,Nat.reduceLT,Nat.reduceAdd,Nat.reduceSub]
    (repeat (refine And.intro (by first|omega|decide) ?_))
    refine Gv rfl Gq rfl (G4 aok (by simp (maxSteps:=10^6) only[zb,ob,Ag,push_cast,Nat.reduceLT,Nat.reduceAdd])) (Aa rfl) (fun _=>by simp (maxSteps:=10^6) only[zb,ob,Ag,push_cast,Nat.reduceLT,Nat.reduceAdd]) rfl ?_
    simp (maxSteps:=10^6) only[push_cast,↓reduceIte,Nat.reduceEqDiff,Nat.reduceAdd]
    (repeat (refine And.intro (by first|omega|decide) ?_))
    refine Gv rfl Gq rfl (G4 bok (by simp (maxSteps:=10^6) only[zb,ob,Ag,push_cast,Nat.reduceLT,Nat.reduceAdd])) (Aa rfl) (fun _=>by simp (maxSteps:=10^6) only[zb,ob,Ag,push_cast,Nat.reduceLT,Nat.reduceAdd]) rfl ?_
    simp (maxSteps:=10^6) only[push_cast,↓reduceIte,Nat.reduceEqDiff,Nat.reduceAdd]
    (repeat (refine And.intro (by first|omega|decide) ?_))
    refine Bz rfl Ou rfl (Pd (sa _ 20 21 22 23 rfl rfl rfl rfl) (sb _ 24 25 26 27 rfl rfl rfl rfl)) (Aa rfl) ?_
    simp (maxSteps:=10^6) only[push_cast,↓reduceIte,Nat.reduceEqDiff]
    (repeat (refine And.intro (by first|omega|decide) ?_))
    refine Bz rfl J7 rfl (Kk (Dh aok) (Dh bok)) (Aa rfl) ?_
    simp (maxSteps:=10^6) only[b0,bl,undef,push_cast,↓reduceIte,reduceCtorEq,Nat.reduceEqDiff,Nat.reduceLT,Nat.reduceAdd,Nat.reduceSub]
    (repeat (refine And.intro (by first|omega|decide) ?_))
    refine Bz rfl J8 rfl (Ke b.k) (Aa rfl) ?_
    simp (maxSteps:=10^6) only[push_cast,↓reduceIte,Nat.reduceEqDiff]
    (repeat (refine And.intro (by first|omega|decide) ?_))
    refine Bz rfl Lj rfl (L4 b.k) (Aa rfl) ?_
    simp (maxSteps:=10^6) only[b0,bl,hfb,undef,push_cast,↓reduceIte,reduceCtorEq,Nat.reduceEqDiff,Nat.reduceLT,Nat.reduceAdd,Nat.reduceSub]
    (repeat (refine And.intro (by first|omega|decide) ?_))
    refine Bz rfl Ov rfl (Pa b.k) (Aa rfl) ?_
    simp (maxSteps:=10^6) only[push_cast,↓reduceIte,Nat.reduceEqDiff]
    (repeat (refine And.intro (by first|omega|decide) ?_))
    refine Bz rfl R7 rfl (Ti b.k) (Aa rfl) ?_
    simp (maxSteps:=10^6) only[hnb,push_cast,↓reduceIte,Nat.reduceEqDiff,Nat.reduceLT,Nat.reduceAdd,Nat.reduceSub]
    (repeat (refine And.intro (by first|omega|decide) ?_))
    refine Bz rfl Lg rfl (L9 hg) (Aa rfl) ?_
    simp (maxSteps:=10^6) only[push_cast,↓reduceIte,Nat.reduceEqDiff,Nat.reduceLT,Nat.reduceAdd,Nat.reduceSub]
    (repeat (refine And.intro (by first|omega|decide) ?_))
    refine Il [] ?_
    simp (maxSteps:=10^6) only[push_cast,↓reduceIte]
    done
   ·simp (maxSteps:=10^6) only[push_cast,↓reduceIte]
    done
end
end Go.Proofs.YtiaeollemmkclaaDoor
