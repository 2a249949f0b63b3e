import Derived.Test.YtedaafmfjhjfmaaGreatDoorMgE29
import Derived.Test.YtedaafmfjhjfmaaGreatDoorMg30
import Derived.Test.YtedaafmfjhjfmaaGreatDoorTs3
/- Law 30's giveMsg. -/
namespace Go.Proofs.YtedaafmfjhjfmaaGreatDoor
open _root_.Go.Proofs.Tryz
open Go.RowKit
set_option linter.unusedSimpArgs false
set_option linter.unusedVariables false
section
attribute [local irreducible] Ac Ad Ah Au Ao Aj Ai Al
attribute [local irreducible] mgA mgO gvF gv6 gv7
section
set_option maxRecDepth 100000 in
set_option maxHeartbeats 4000000 in
theorem A0k (m:MgR) (w:World) (hm:m.Ok w):Calls prog 43 (List.map (Sv.val []) [.x (.g (mgA m))]).toArray w fun e w'=>∃γ1,e=.returned ((Sv.x (.g (mgO m.mg 0 1 2 3))).val γ1)∧Sat w No γ1 [.own 3 (.i64 m.ids.l),.own 41 (.u64 m.ns.l),.onn 115 2 (.c (pcs m.ps.l)),.own 111 (.u32 m.xs.l)] w':=by
 obtain⟨f0,f1,f2,f3,f4,f5,f38,f39,f40,f41,f42⟩:=C8 hm.s
 have fl:=Bd hm.s
 have fs:=R7 hm.s
 have hfs:=hm.s
 have fb:=fun n=>Bm m n
 have zb:=fun n=>Bm zeroR n
 have ob:=fun (m:MgS) a b c d n=>Aua m a b c d n
 simp only[At.bnd] at fb zb ob
 obtain⟨i1,i2⟩:=U8 (FV.no hm.ids.rd)
 obtain⟨n1,n2⟩:=Aan (FV.no hm.ns.rd)
 obtain⟨x1,x2⟩:=Aam (FV.no hm.xs.rd)
 have:=hm.ids.few
 have:=hm.ns.few
 have:=hm.xs.few
 have hpf:=hm.ps.few
 have bi:m.ids.l.length*8≤140737488355328:=by omega
 have bn:m.ns.l.length*8≤140737488355328:=by omega
 have bx:m.xs.l.length*4≤140737488355328:=by omega
 have ci:m.ids.l.length≤2 ^ 63 - 1:=by omega
 have cn:m.ns.l.length≤2 ^ 63 - 1:=by omega
 have cx:m.xs.l.length≤2 ^ 63 - 1:=by omega
 refine Rm (n:=35) func43 rfl ntmps43 _ (Sat.init w No) (by simp) _ _ ?_
 simp (maxSteps:=10^6) only[fb,↓Be,Bo,B9,Br,push_cast,↓reduceIte,Nat.reduceLT,Nat.reduceAdd]
 (repeat (refine And.intro (by first|omega|decide) ?_))
 refine Axv 32 [0,1,2,3,4,5,6,7,8,9,10,11,12,13,15,16,19,20,22,23,26,27,29,30] gvD 16 [31] (gvF m) ⟨[(2,.x (.a (.p 1 0))),(34,.x (.g (mgO m.mg 2 3 4 5)))],[.blk 52 (.c (mgA m)),.blk 48 (.c (mgA zeroR)),.own 3 (.i64 m.ids.l),.own 41 (.u64 m.ns.l),.onn 115 2 (.c (pcs m.ps.l)),.own 111 (.u32 m.xs.l)]⟩ (by kernel_rfl) (by kernel_rfl) (by simp (maxSteps:=10^6) only[fb,zb,push_cast,Nat.reduceAdd]) ?_ ?_ (by decide) ?_ ?_ ?_
 ·simp (maxSteps:=10^6) only[fl,f0,f1,f2,f3,f4,f5,f38,f39,f40,f41,f42,fs,undef,push_cast,↓reduceIte,reduceCtorEq,Nat.reduceEqDiff,Nat.reduceLT,Nat.reduceLeDiff,Nat.reduceAdd]
  refine⟨[],?_⟩
  rw[Pb]
  simp (maxSteps:=10^6) only[fb,zb,↓Ay,List.append_nil,List.range,List.range.loop,push_cast,↓reduceIte,reduceCtorEq,Nat.reduceEqDiff,Nat.reduceLT,Nat.reduceAdd]
 ·intro v hv
  have hv':v=0∨v=1∨v=2∨v=3∨v=4∨v=5∨v=6∨v=7∨v=8∨v=9∨v=10∨v=11∨v=12∨v=13∨v=14∨v=15∨v=16:=by omega
  rcases hv' with rfl|rfl|rfl|rfl|rfl|rfl|rfl|rfl|rfl|rfl|rfl|rfl|rfl|rfl|rfl|rfl|rfl
  ·rw[Pb];rfl
  ·rw[Pc];rfl
  ·rw[Td];rfl
  ·rw[Te];rfl
  ·rw[Tf];rfl
  ·rw[Pd];rfl
  ·rw[Pe];rfl
  ·rw[Tg];rfl
  ·rw[Pf];rfl
  ·rw[Th];rfl
  ·rw[Pg];rfl
  ·rw[Ti];rfl
  ·rw[Ph];rfl
  ·rw[W9];rfl
  ·rw[Tj];rfl
  ·rw[Tk];rfl
  ·rw[Xa];rfl
 ·refine Axu ?_
  refine⟨?_,?_,?_,?_,?_,?_,?_,?_,?_,?_,?_,?_,?_,?_,?_,?_,?_,trivial⟩
  ·intro p hp
   simp only[List.mem_cons,List.not_mem_nil,or_false] at hp
   rcases hp with rfl|rfl|rfl
   ·show Cd _ _ _ _ _ 14 (fun s'=>LeA 2 s' (gvF m 1)) (gvF m 0)
    rw[Pc,Pb]
    simp (maxSteps:=10^6) only[fb,zb,SlV.val,push_cast,↓reduceIte,Nat.reduceLT,Nat.reduceLeDiff,Nat.reduceAdd]
    refine⟨[2],?_⟩
    simp (maxSteps:=10^6) only[fb,zb,↓Ay,List.range,List.range.loop,List.nil_append,List.cons_append,push_cast,↓reduceIte,reduceCtorEq,Nat.reduceEqDiff,Nat.reduceLT,Nat.reduceAdd]
   ·show Cd _ _ _ _ _ 18 (fun s'=>LeA 2 s' (gvF m 2)) (gvF m 0)
    rw[Td,Pb]
    simp (maxSteps:=10^6) only[fb,zb,SlV.val,push_cast,↓reduceIte,Nat.reduceLT,Nat.reduceLeDiff,Nat.reduceAdd]
    refine⟨[2],?_⟩
    simp (maxSteps:=10^6) only[fb,zb,↓Ay,List.range,List.range.loop,List.nil_append,List.cons_append,push_cast,↓reduceIte,reduceCtorEq,Nat.reduceEqDiff,Nat.reduceLT,Nat.reduceAdd]
   ·show Cd _ _ _ _ _ 25 (fun s'=>LeA 2 s' (gvF m 3)) (gvF m 0)
    rw[Te,Pb]
    simp (maxSteps:=10^6) only[fb,zb,SlV.val,push_cast,↓reduceIte,Nat.reduceLT,Nat.reduceLeDiff,Nat.reduceAdd]
    refine⟨[2],?_⟩
    simp (maxSteps:=10^6) only[fb,zb,↓Ay,List.range,List.range.loop,List.nil_append,List.cons_append,push_cast,↓reduceIte,reduceCtorEq,Nat.reduceEqDiff,Nat.reduceLT,Nat.reduceAdd]
  ·intro p hp
   simp only[List.mem_cons,List.not_mem_nil,or_false] at hp
   rcases hp with rfl|rfl|rfl
   ·show Cd _ _ _ _ _ 17 (fun s'=>LeA 2 s' (gvF m 4)) (gvF m 1)
    rw[Tf,Pc]
    simp (maxSteps:=10^6) only[fb,zb,SlV.val,i1,i2,bi,ci,push_cast,↓reduceIte,Nat.reduceEqDiff,Nat.reduceLT,Nat.reduceAdd]
    refine⟨[3],?_⟩
    simp (maxSteps:=10^6) only[fb,zb,↓Ay,List.range,List.range.loop,List.nil_append,List.cons_append,push_cast,↓reduceIte,reduceCtorEq,Nat.reduceEqDiff,Nat.reduceLT,Nat.reduceAdd]
   ·show Cd _ _ _ _ _ 18 (fun s'=>LeA 2 s' (gvF m 5)) (gvF m 1)
    rw[Pd,Pc]
    simp (maxSteps:=10^6) only[fb,zb,SlV.val,push_cast,↓reduceIte,Nat.reduceLT,Nat.reduceLeDiff,Nat.reduceAdd]
    refine⟨[2,3],?_⟩
    simp (maxSteps:=10^6) only[fb,zb,↓Ay,List.range,List.range.loop,List.nil_append,List.cons_append,push_cast,↓reduceIte,reduceCtorEq,Nat.reduceEqDiff,Nat.reduceLT,Nat.reduceAdd]
   ·show Cd _ _ _ _ _ 25 (fun s'=>LeA 2 s' (gvF m 6)) (gvF m 1)
    rw[Pe,Pc]
    simp (maxSteps:=10^6) only[fb,zb,SlV.val,push_cast,↓reduceIte,Nat.reduceLT,Nat.reduceLeDiff,Nat.reduceAdd]
    refine⟨[2,3],?_⟩
    simp (maxSteps:=10^6) only[fb,zb,↓Ay,List.range,List.range.loop,List.nil_append,List.cons_append,push_cast,↓reduceIte,reduceCtorEq,Nat.reduceEqDiff,Nat.reduceLT,Nat.reduceAdd]
  ·intro p hp
   simp only[List.mem_cons,List.not_mem_nil,or_false] at hp
   rcases hp with rfl|rfl
   ·show Cd _ _ _ _ _ 14 (fun s'=>LeA 2 s' (gvF m 5)) (gvF m 2)
    rw[Pd,Td]
    simp (maxSteps:=10^6) only[fb,zb,SlV.val,push_cast,↓reduceIte,Nat.reduceLT,Nat.reduceLeDiff,Nat.reduceAdd]
    refine⟨[3,2],?_⟩
    simp (maxSteps:=10^6) only[fb,zb,↓Ay,List.range,List.range.loop,List.nil_append,List.cons_append,push_cast,↓reduceIte,reduceCtorEq,Nat.reduceEqDiff,Nat.reduceLT,Nat.reduceAdd]
   ·show Cd _ _ _ _ _ 25 (fun s'=>LeA 2 s' (gvF m 7)) (gvF m 2)
    rw[Tg,Td]
    simp (maxSteps:=10^6) only[fb,zb,SlV.val,push_cast,↓reduceIte,Nat.reduceLT,Nat.reduceLeDiff,Nat.reduceAdd]
    refine⟨[2,3],?_⟩
    simp (maxSteps:=10^6) only[fb,zb,↓Ay,List.range,List.range.loop,List.nil_append,List.cons_append,push_cast,↓reduceIte,reduceCtorEq,Nat.reduceEqDiff,Nat.reduceLT,Nat.reduceAdd]
  ·intro p hp
   simp only[List.mem_cons,List.not_mem_nil,or_false] at hp
   rcases hp with rfl|rfl
   ·show Cd _ _ _ _ _ 14 (fun s'=>LeA 2 s' (gvF m 6)) (gvF m 3)
    rw[Pe,Te]
    simp (maxSteps:=10^6) only[fb,zb,SlV.val,push_cast,↓reduceIte,Nat.reduceLT,Nat.reduceLeDiff,Nat.reduceAdd]
    refine⟨[3,2],?_⟩
    simp (maxSteps:=10^6) only[fb,zb,↓Ay,List.range,List.range.loop,List.nil_append,List.cons_append,push_cast,↓reduceIte,reduceCtorEq,Nat.reduceEqDiff,Nat.reduceLT,Nat.reduceAdd]
   ·show Cd _ _ _ _ _ 18 (fun s'=>LeA 2 s' (gvF m 7)) (gvF m 3)
    rw[Tg,Te]
    simp (maxSteps:=10^6) only[fb,zb,SlV.val,push_cast,↓reduceIte,Nat.reduceLT,Nat.reduceLeDiff,Nat.reduceAdd]
    refine⟨[3,2],?_⟩
    simp (maxSteps:=10^6) only[fb,zb,↓Ay,List.range,List.range.loop,List.nil_append,List.cons_append,push_cast,↓reduceIte,reduceCtorEq,Nat.reduceEqDiff,Nat.reduceLT,Nat.reduceAdd]
  ·intro p hp
   simp only[List.mem_cons,List.not_mem_nil,or_false] at hp
   rcases hp with rfl|rfl
   ·show Cd _ _ _ _ _ 18 (fun s'=>LeA 2 s' (gvF m 8)) (gvF m 4)
    rw[Pf,Tf]
    simp (maxSteps:=10^6) only[fb,zb,SlV.val,push_cast,↓reduceIte,Nat.reduceLT,Nat.reduceLeDiff,Nat.reduceAdd]
    refine⟨[2,3],?_⟩
    simp (maxSteps:=10^6) only[fb,zb,↓Ay,List.range,List.range.loop,List.nil_append,List.cons_append,push_cast,↓reduceIte,reduceCtorEq,Nat.reduceEqDiff,Nat.reduceLT,Nat.reduceAdd]
   ·show Cd _ _ _ _ _ 25 (fun s'=>LeA 2 s' (gvF m 9)) (gvF m 4)
    rw[Th,Tf]
    simp (maxSteps:=10^6) only[fb,zb,SlV.val,push_cast,↓reduceIte,Nat.reduceLT,Nat.reduceLeDiff,Nat.reduceAdd]
    refine⟨[2,3],?_⟩
    simp (maxSteps:=10^6) only[fb,zb,↓Ay,List.range,List.range.loop,List.nil_append,List.cons_append,push_cast,↓reduceIte,reduceCtorEq,Nat.reduceEqDiff,Nat.reduceLT,Nat.reduceAdd]
  ·intro p hp
   simp only[List.mem_cons,List.not_mem_nil,or_false] at hp
   rcases hp with rfl|rfl
   ·show Cd _ _ _ _ _ 17 (fun s'=>LeA 2 s' (gvF m 8)) (gvF m 5)
    rw[Pf,Pd]
    simp (maxSteps:=10^6) only[fb,zb,SlV.val,i1,i2,bi,ci,push_cast,↓reduceIte,Nat.reduceEqDiff,Nat.reduceLT,Nat.reduceAdd]
    refine⟨[4,3],?_⟩
    simp (maxSteps:=10^6) only[fb,zb,↓Ay,List.range,List.range.loop,List.nil_append,List.cons_append,push_cast,↓reduceIte,reduceCtorEq,Nat.reduceEqDiff,Nat.reduceLT,Nat.reduceAdd]
   ·show Cd _ _ _ _ _ 25 (fun s'=>LeA 2 s' (gvF m 10)) (gvF m 5)
    rw[Pg,Pd]
    simp (maxSteps:=10^6) only[fb,zb,SlV.val,push_cast,↓reduceIte,Nat.reduceLT,Nat.reduceLeDiff,Nat.reduceAdd]
    refine⟨[2,3,4],?_⟩
    simp (maxSteps:=10^6) only[fb,zb,↓Ay,List.range,List.range.loop,List.nil_append,List.cons_append,push_cast,↓reduceIte,reduceCtorEq,Nat.reduceEqDiff,Nat.reduceLT,Nat.reduceAdd]
  ·intro p hp
   simp only[List.mem_cons,List.not_mem_nil,or_false] at hp
   rcases hp with rfl|rfl
   ·show Cd _ _ _ _ _ 17 (fun s'=>LeA 2 s' (gvF m 9)) (gvF m 6)
    rw[Th,Pe]
    simp (maxSteps:=10^6) only[fb,zb,SlV.val,i1,i2,bi,ci,push_cast,↓reduceIte,Nat.reduceEqDiff,Nat.reduceLT,Nat.reduceAdd]
    refine⟨[4,3],?_⟩
    simp (maxSteps:=10^6) only[fb,zb,↓Ay,List.range,List.range.loop,List.nil_append,List.cons_append,push_cast,↓reduceIte,reduceCtorEq,Nat.reduceEqDiff,Nat.reduceLT,Nat.reduceAdd]
   ·show Cd _ _ _ _ _ 18 (fun s'=>LeA 2 s' (gvF m 10)) (gvF m 6)
    rw[Pg,Pe]
    simp (maxSteps:=10^6) only[fb,zb,SlV.val,push_cast,↓reduceIte,Nat.reduceLT,Nat.reduceLeDiff,Nat.reduceAdd]
    refine⟨[2,4,3],?_⟩
    simp (maxSteps:=10^6) only[fb,zb,↓Ay,List.range,List.range.loop,List.nil_append,List.cons_append,push_cast,↓reduceIte,reduceCtorEq,Nat.reduceEqDiff,Nat.reduceLT,Nat.reduceAdd]
  ·intro p hp
   simp only[List.mem_cons,List.not_mem_nil,or_false] at hp
   rcases hp with rfl
   ·show Cd _ _ _ _ _ 14 (fun s'=>LeA 2 s' (gvF m 10)) (gvF m 7)
    rw[Pg,Tg]
    simp (maxSteps:=10^6) only[fb,zb,SlV.val,push_cast,↓reduceIte,Nat.reduceLT,Nat.reduceLeDiff,Nat.reduceAdd]
    refine⟨[4,2,3],?_⟩
    simp (maxSteps:=10^6) only[fb,zb,↓Ay,List.range,List.range.loop,List.nil_append,List.cons_append,push_cast,↓reduceIte,reduceCtorEq,Nat.reduceEqDiff,Nat.reduceLT,Nat.reduceAdd]
  ·intro p hp
   simp only[List.mem_cons,List.not_mem_nil,or_false] at hp
   rcases hp with rfl|rfl
   ·show Cd _ _ _ _ _ 21 (fun s'=>LeA 2 s' (gvF m 11)) (gvF m 8)
    rw[Ti,Pf]
    simp (maxSteps:=10^6) only[fb,zb,SlV.val,n1,n2,bn,cn,push_cast,↓reduceIte,Nat.reduceEqDiff,Nat.reduceLT,Nat.reduceAdd]
    refine⟨[2,4],?_⟩
    simp (maxSteps:=10^6) only[fb,zb,↓Ay,List.range,List.range.loop,List.nil_append,List.cons_append,push_cast,↓reduceIte,reduceCtorEq,Nat.reduceEqDiff,Nat.reduceLT,Nat.reduceAdd]
   ·show Cd _ _ _ _ _ 25 (fun s'=>LeA 2 s' (gvF m 12)) (gvF m 8)
    rw[Ph,Pf]
    simp (maxSteps:=10^6) only[fb,zb,SlV.val,push_cast,↓reduceIte,Nat.reduceLT,Nat.reduceLeDiff,Nat.reduceAdd]
    refine⟨[2,3,4],?_⟩
    simp (maxSteps:=10^6) only[fb,zb,↓Ay,List.range,List.range.loop,List.nil_append,List.cons_append,push_cast,↓reduceIte,reduceCtorEq,Nat.reduceEqDiff,Nat.reduceLT,Nat.reduceAdd]
  ·intro p hp
   simp only[List.mem_cons,List.not_mem_nil,or_false] at hp
   rcases hp with rfl
   ·show Cd _ _ _ _ _ 18 (fun s'=>LeA 2 s' (gvF m 12)) (gvF m 9)
    rw[Ph,Th]
    simp (maxSteps:=10^6) only[fb,zb,SlV.val,push_cast,↓reduceIte,Nat.reduceLT,Nat.reduceLeDiff,Nat.reduceAdd]
    refine⟨[2,4,3],?_⟩
    simp (maxSteps:=10^6) only[fb,zb,↓Ay,List.range,List.range.loop,List.nil_append,List.cons_append,push_cast,↓reduceIte,reduceCtorEq,Nat.reduceEqDiff,Nat.reduceLT,Nat.reduceAdd]
  ·intro p hp
   simp only[List.mem_cons,List.not_mem_nil,or_false] at hp
   rcases hp with rfl
   ·show Cd _ _ _ _ _ 17 (fun s'=>LeA 2 s' (gvF m 12)) (gvF m 10)
    rw[Ph,Pg]
    simp (maxSteps:=10^6) only[fb,zb,SlV.val,i1,i2,bi,ci,push_cast,↓reduceIte,Nat.reduceEqDiff,Nat.reduceLT,Nat.reduceAdd]
    refine⟨[5,3,4],?_⟩
    simp (maxSteps:=10^6) only[fb,zb,↓Ay,List.range,List.range.loop,List.nil_append,List.cons_append,push_cast,↓reduceIte,reduceCtorEq,Nat.reduceEqDiff,Nat.reduceLT,Nat.reduceAdd]
  ·intro p hp
   simp only[List.mem_cons,List.not_mem_nil,or_false] at hp
   rcases hp with rfl|rfl
   ·show Cd _ _ _ _ _ 24 (fun s'=>LeA 2 s' (gvF m 13)) (gvF m 11)
    rw[W9,Ti]
    simp (maxSteps:=10^6) only[SlV.val,push_cast,↓reduceIte]
    (repeat (refine And.intro (by first|omega|decide) ?_))
    refine Aen rfl Aa0 rfl (Afq (l:=m.ps.l) hpf (Jp hm.ps.rd hm.ps.len) (by simp (maxSteps:=10^6) only[fb,zb,push_cast,Nat.reduceAdd])) (Aa rfl) (fun _=>by simp (maxSteps:=10^6) only[fb,zb,push_cast,Nat.reduceLT,Nat.reduceAdd]) ?_
    refine⟨[2,3,4],?_⟩
    simp (maxSteps:=10^6) only[fb,zb,K2,H6,↓Ay,List.range,List.range.loop,List.nil_append,List.cons_append,push_cast,↓reduceIte,reduceCtorEq,Nat.reduceEqDiff,Nat.reduceLT,Nat.reduceAdd]
   ·show Cd _ _ _ _ _ 25 (fun s'=>LeA 2 s' (gvF m 14)) (gvF m 11)
    rw[Tj,Ti]
    simp (maxSteps:=10^6) only[fb,zb,SlV.val,push_cast,↓reduceIte,Nat.reduceLT,Nat.reduceLeDiff,Nat.reduceAdd]
    refine⟨[2,3,4],?_⟩
    simp (maxSteps:=10^6) only[fb,zb,↓Ay,List.range,List.range.loop,List.nil_append,List.cons_append,push_cast,↓reduceIte,reduceCtorEq,Nat.reduceEqDiff,Nat.reduceLT,Nat.reduceAdd]
  ·intro p hp
   simp only[List.mem_cons,List.not_mem_nil,or_false] at hp
   rcases hp with rfl
   ·show Cd _ _ _ _ _ 21 (fun s'=>LeA 2 s' (gvF m 14)) (gvF m 12)
    rw[Tj,Ph]
    simp (maxSteps:=10^6) only[fb,zb,SlV.val,n1,n2,bn,cn,push_cast,↓reduceIte,Nat.reduceEqDiff,Nat.reduceLT,Nat.reduceAdd]
    refine⟨[2,5,4],?_⟩
    simp (maxSteps:=10^6) only[fb,zb,↓Ay,List.range,List.range.loop,List.nil_append,List.cons_append,push_cast,↓reduceIte,reduceCtorEq,Nat.reduceEqDiff,Nat.reduceLT,Nat.reduceAdd]
  ·intro p hp
   simp only[List.mem_cons,List.not_mem_nil,or_false] at hp
   rcases hp with rfl
   ·show Cd _ _ _ _ _ 25 (fun s'=>LeA 2 s' (gvF m 15)) (gvF m 13)
    rw[Tk,W9]
    simp (maxSteps:=10^6) only[fb,zb,H6,SlV.val,push_cast,↓reduceIte,Nat.reduceLT,Nat.reduceLeDiff,Nat.reduceAdd]
    refine⟨[2,3,4,5],?_⟩
    simp (maxSteps:=10^6) only[fb,zb,K2,H6,↓Ay,List.range,List.range.loop,List.nil_append,List.cons_append,push_cast,↓reduceIte,reduceCtorEq,Nat.reduceEqDiff,Nat.reduceLT,Nat.reduceAdd]
  ·intro p hp
   simp only[List.mem_cons,List.not_mem_nil,or_false] at hp
   rcases hp with rfl
   ·show Cd _ _ _ _ _ 24 (fun s'=>LeA 2 s' (gvF m 15)) (gvF m 14)
    rw[Tk,Tj]
    simp (maxSteps:=10^6) only[SlV.val,push_cast,↓reduceIte]
    (repeat (refine And.intro (by first|omega|decide) ?_))
    refine Aen rfl Aa0 rfl (Afq (l:=m.ps.l) hpf (Jp hm.ps.rd hm.ps.len) (by simp (maxSteps:=10^6) only[fb,zb,push_cast,Nat.reduceAdd])) (Aa rfl) (fun _=>by simp (maxSteps:=10^6) only[fb,zb,push_cast,Nat.reduceLT,Nat.reduceAdd]) ?_
    refine⟨[2,3,5,4],?_⟩
    simp (maxSteps:=10^6) only[fb,zb,K2,H6,↓Ay,List.range,List.range.loop,List.nil_append,List.cons_append,push_cast,↓reduceIte,reduceCtorEq,Nat.reduceEqDiff,Nat.reduceLT,Nat.reduceAdd]
  ·intro p hp
   simp only[List.mem_cons,List.not_mem_nil,or_false] at hp
   rcases hp with rfl
   ·show Cd _ _ _ _ _ 28 (fun s'=>LeA 2 s' (gvF m 16)) (gvF m 15)
    rw[Xa,Tk]
    simp (maxSteps:=10^6) only[fb,zb,H6,SlV.val,x1,x2,bx,cx,push_cast,↓reduceIte,Nat.reduceEqDiff,Nat.reduceLT,Nat.reduceAdd]
    refine⟨[2,3,4,6],?_⟩
    simp (maxSteps:=10^6) only[fb,zb,K2,H6,↓Ay,List.range,List.range.loop,List.nil_append,List.cons_append,push_cast,↓reduceIte,reduceCtorEq,Nat.reduceEqDiff,Nat.reduceLT,Nat.reduceAdd]
  ·intro p hp
   cases hp
 ·rw[Xa]
  have l6:=Ax0 m
  have l7:=Ax1 hm.s
  have t6:(List.take 6 (gv6 m)).length=6:=by rw[List.length_take,l6];rfl
  have d6:(List.drop 38 (gv6 m)).length=5:=by rw[List.length_drop,l6]
  have e6:=Axy m
  have e7:=Axz m
  have e8:=Ax2 hm.s
  simp (maxSteps:=10^6) only[hfs,Bo,B9,Br,B0,e6,e7,e8,l6,l7,List.length_set,push_cast,↓reduceIte,reduceCtorEq,Nat.reduceEqDiff,Nat.reduceLT,Nat.reduceLeDiff,Nat.reduceAdd]
  refine Cn [0,1,2,3,4,5] ?_
  simp (maxSteps:=10^6) only[fb,zb,ob,K2,H6,↓Ay,↓Adf,push_cast,↓reduceIte,reduceCtorEq,Nat.reduceEqDiff,Nat.reduceLT,Nat.reduceAdd]
  done
 ·have ol:=At8 (m:=m.mg) (a:=2) (b:=3) (c:=4) (d:=5) hm.s
  simp (maxSteps:=10^6) only[B0,ol,undef,push_cast,↓reduceIte,Nat.reduceEqDiff,Nat.reduceLT,Nat.reduceAdd]
  refine⟨cast (At9 m.mg 2 3 4 5 _).symm ⟨rfl,rfl,rfl,rfl⟩,A6 [2,3,4,5] ?_⟩
  simp (maxSteps:=10^6) only[ob,K2,H6,↓Adf,push_cast,↓reduceIte,Nat.reduceEqDiff,Nat.reduceLT,Nat.reduceAdd]
  done
end
end
section
attribute [local irreducible] Ac Ad Ah Au Ao Aj Ai Al
set_option maxRecDepth 100000 in
theorem A0l (w:World):Calls prog 90 (List.map (Sv.val []) []).toArray w fun e w'=>∃γ1,e=.returned ((Sv.x (.g [.v (.int .i64 1),.o 0,.o 2,.v (.int .i64 1),.v (.int .i64 9)])).val γ1)∧Sat w No γ1 [.onn 98 3 (.c [.v (.int .i64 (-1)),.v (.int .i64 0),.v (.int .i64 1),.v (.int .i64 0),.v (.int .i64 1),.v (.int .i64 1)]),.blk 3 (.i64 [3,5]),.onn 96 3 (.c [.v (.int .i64 1),.s 1 0 2 2,.v (.int .i64 2)])] w':=by
 refine Rm (n:=8) func90 rfl ntmps90 [] (Sat.init w No) (by simp) _ _ ?_
 simp (maxSteps:=10^6) only[undef,push_cast,↓reduceIte,reduceCtorEq,Nat.reduceEqDiff,Nat.reduceLT,Nat.reduceLeDiff,Nat.reduceAdd,Nat.reduceMul,Int.reduceNeg]
 refine A6 [1,2,3] ?_
 simp (maxSteps:=10^6) only[push_cast,↓reduceIte,Nat.reduceEqDiff,Nat.reduceLT,Nat.reduceAdd,Int.reduceNeg]
theorem Afr (w:World):Calls prog 90 #[] w fun e w'=>∃(x:CfR×List Fct) (γ1:List Nm),(x.1.cf=Fx∧CfFk x.2 x.1)∧e=.returned ((Sv.x (.g (cfA x.1))).val [])∧Sat w No γ1 [.abs (fctRep x.2)] w':=by
 refine (A0l w).mono fun e w' ⟨γ1,he,hS⟩=>?_
 have h0:=hS.fct0 (fun r hr=>by
  simp only[List.mem_cons,List.not_mem_nil,or_false] at hr
  rcases hr with rfl|rfl|rfl<;>(simp (maxSteps:=10^6) only[push_cast,Nat.reduceLT,Nat.reduceAdd,Int.reduceNeg]))
 have hl1:=hS.len
 obtain⟨A1,c1,γ2,a1,b1,eB1,eS1,s1⟩:=h0.onnF (j:=0) (k:=3) (vs:=[(⟨-1,0,1⟩:PlS),⟨0,1,1⟩].flatMap plV) (n:=2) (l:=[]) rfl rfl (by decide) rfl rfl
 obtain⟨A2,c2,γ3,a2,b2,eB2,eS2,s2⟩:=s1.onnF (j:=2) (k:=3) (vs:=[(⟨1,⟨some ⟨nmB γ2 1,0,none⟩,2,[3,5]⟩,2⟩:GrR)].flatMap grV) (n:=1) rfl rfl (by decide) rfl rfl
 have hr:=s2.rdBlk (k:=1) (t:=3) (c:=.i64 [3,5]) rfl 0
 have eb:nmB γ3 1=nmB γ2 1:=by rw[eB2]
 obtain⟨γ4,eB3,eS3,s3⟩:=s2.absorbs (j:=1) (k:=3) (fs:=[⟨.slice (some ⟨nmB γ2 1,0,none⟩) 2 2,2,[3,5].map (Value.int .i64)⟩]) (r:=.blk 3 (.i64 [3,5])) rfl rfl (by decide) (X:=fun b=>some (nmB γ3 1)=some b) (fun b hb=>hb) fun f hf=>by
   rw[List.mem_singleton.1 hf]
   refine⟨some ⟨nmB γ2 1,0,none⟩,2,rfl,Nat.le_refl _,by unfold maxLen;omega,fun hp=>⟨nmB γ2 1,0,rfl,by rw[eb],fun q u hu=>?_⟩⟩
   obtain⟨b,off,e1,_,e2⟩:=hr (by show 0 < 2;omega)
   cases e1
   rw[←eb]
   exact e2 q u hu
 obtain⟨h7,_⟩:=s3.sel (ρ:=[3]) (hp0:=[.abs (fctRep [⟨.slice A1 2 c1,2,[(⟨-1,0,1⟩:PlS),⟨0,1,1⟩].flatMap plV⟩,⟨.slice A2 1 c2,1,[(⟨1,⟨some ⟨nmB γ2 1,0,none⟩,2,[3,5]⟩,2⟩:GrR)].flatMap grV⟩,⟨.slice (some ⟨nmB γ2 1,0,none⟩) 2 2,2,[3,5].map (Value.int .i64)⟩])]) ⟨by simp [Res.ren],trivial⟩ ⟨trivial,trivial⟩ (fun r hr=>by rw[List.mem_singleton.1 hr];trivial)
 refine⟨(⟨1,⟨A1,c1,[⟨-1,0,1⟩,⟨0,1,1⟩]⟩,⟨A2,c2,[⟨1,⟨some ⟨nmB γ2 1,0,none⟩,2,[3,5]⟩,2⟩]⟩,1,9⟩,_),_,⟨rfl,⟨List.mem_cons_self ..,List.mem_cons_of_mem _ (List.mem_cons_self ..),fun g hg=>?_,⟨by show 2≤1000000;omega,by show 1≤1000000;omega,fun g hg=>?_⟩⟩⟩,?_,h7⟩
 ·rw[List.mem_singleton.1 hg]
  exact List.mem_cons_of_mem _ (List.mem_cons_of_mem _ (List.mem_cons_self ..))
 ·rw[List.mem_singleton.1 hg]
  show 2≤1000000
  omega
 ·rw[he]
  have ex:∀i,i < 3→nmS (γ1++[Nm.m (.bool true) (fun _=>False)]) i=nmS γ1 i:=fun i hi=>Df (by rw[hl1];exact hi)
  have x1:nmS γ1 0=.slice A1 2 c1:=by
   rw[←ex 0 (by decide)]
   exact a1
  have x2:nmS γ1 2=.slice A2 1 c2:=by
   rw[←ex 2 (by decide),←eS1]
   exact a2
  show Ending.returned (.agg #[_,nmS γ1 0,nmS γ1 2,_,_])=_
  rw[x1,x2]
  rfl
section
variable {w0:World} {ow:Nat→Prop} {hp:List Res}
theorem A0m {m:MgR} (w:World) (hm:m.Ok w):Calls prog 43 #[.agg (mgV m).toArray] w fun e w'=>∃(x:MgR×List Fct) (γ1:List Nm),(x.1.mg=m.mg∧MOk x.2 x.1)∧e=.returned (.agg (mgV x.1).toArray)∧Sat w No γ1 [.abs (fctRep x.2)] w':=by
 have h0:=A0k m w hm
 have e0:(List.map (Sv.val []) [.x (.g (mgA m))]).toArray=#[.agg (mgV m).toArray]:=by
  show #[(Sv.x (.g (mgA m))).val []]=_
  rw[Bi]
 rw[e0] at h0
 refine h0.mono fun e w' ⟨γ1,he,hS⟩=>?_
 have few:=hm.few
 have h0:=hS.fct0 (fun r hr=>by
  simp only[List.mem_cons,List.not_mem_nil,or_false] at hr
  rcases hr with rfl|rfl|rfl|rfl
  ·trivial
  ·trivial
  ·exact of_eq_true (by simp (maxSteps:=10^6) only[H6,push_cast,Nat.reduceAdd])
  ·trivial)
 have hl1:=hS.len
 obtain⟨A1,c1,γ2,a1,b1,eB1,eS1,s1⟩:=h0.ownF (j:=0) (k:=4) (c:=.i64 m.ids.l) (vs:=m.ids.l.map (Value.int .i64)) (l:=[]) rfl rfl (by decide) (fun _=>rfl)
 obtain⟨A2,c2,γ3,a2,b2,eB2,eS2,s2⟩:=s1.ownF (j:=1) (k:=4) (c:=.u64 m.ns.l) (vs:=m.ns.l.map vU64) rfl rfl (by decide) (fun _=>rfl)
 obtain⟨A3,c3,γ4,a3,b3,eB3,eS3,s3⟩:=s2.onnF (j:=2) (k:=4) (vs:=pvs m.ps.l) (n:=m.ps.l.length) rfl rfl (by decide) (Vz γ3 m.ps.l) (Oc m.ps.l)
 obtain⟨A4,c4,γ5,a4,b4,eB4,eS4,s4⟩:=s3.ownF (j:=3) (k:=4) (c:=.u32 m.xs.l) (vs:=m.xs.l.map Ap) rfl rfl (by decide) (fun _=>rfl)
 rw[List.length_map] at a1 b1 a2 b2 a4 b4
 obtain⟨h7,_⟩:=s4.sel (ρ:=[4]) (hp0:=[.abs (fctRep [⟨.slice A1 m.ids.l.length c1,m.ids.l.length,m.ids.l.map (Value.int .i64)⟩,⟨.slice A2 m.ns.l.length c2,m.ns.l.length,m.ns.l.map vU64⟩,⟨.slice A3 m.ps.l.length c3,m.ps.l.length,pvs m.ps.l⟩,⟨.slice A4 m.xs.l.length c4,m.xs.l.length,m.xs.l.map Ap⟩])]) ⟨by simp [Res.ren],trivial⟩ ⟨trivial,trivial⟩ (fun r hr=>by rw[List.mem_singleton.1 hr];trivial)
 refine⟨({m with ids:=⟨A1,c1,m.ids.l⟩,ns:=⟨A2,c2,m.ns.l⟩,ps:=⟨A3,c3,m.ps.l⟩,xs:=⟨A4,c4,m.xs.l⟩},[⟨.slice A1 m.ids.l.length c1,m.ids.l.length,m.ids.l.map (Value.int .i64)⟩,⟨.slice A2 m.ns.l.length c2,m.ns.l.length,m.ns.l.map vU64⟩,⟨.slice A3 m.ps.l.length c3,m.ps.l.length,pvs m.ps.l⟩,⟨.slice A4 m.xs.l.length c4,m.xs.l.length,m.xs.l.map Ap⟩]),_,⟨rfl,few.sm,.inr (List.mem_cons_self ..),.inr (List.mem_cons_of_mem _ (List.mem_cons_self ..)),.inr (List.mem_cons_of_mem _ (List.mem_cons_of_mem _ (List.mem_cons_self ..))),.inr (List.mem_cons_of_mem _ (List.mem_cons_of_mem _ (List.mem_cons_of_mem _ (List.mem_cons_self ..)))),few⟩,?_,h7⟩
 rw[he]
 have ex:∀i,i < 4→nmS (γ1++[Nm.m (.bool true) (fun _=>False)]) i=nmS γ1 i:=fun i hi=>Df (by rw[hl1];exact hi)
 have x1:At.val γ1 (.o 0)=.slice A1 m.ids.l.length c1:=by
  show nmS γ1 0=_
  rw[←ex 0 (by decide)]
  exact a1
 have x2:At.val γ1 (.o 1)=.slice A2 m.ns.l.length c2:=by
  show nmS γ1 1=_
  rw[←ex 1 (by decide),←eS1]
  exact a2
 have x3:At.val γ1 (.o 2)=.slice A3 m.ps.l.length c3:=by
  show nmS γ1 2=_
  rw[←ex 2 (by decide),←eS1,←eS2]
  exact a3
 have x4:At.val γ1 (.o 3)=.slice A4 m.xs.l.length c4:=by
  show nmS γ1 3=_
  rw[←ex 3 (by decide),←eS1,←eS2,←eS3]
  exact a4
 show Ending.returned (.agg ((mgL _ _ _ _ _ _ _ _ _ _ _ _).map (At.val γ1)).toArray)=_
 rw[Acj,x1,x2,x3,x4]
 rfl
theorem Xt {w0:World} {ow:Nat→Prop} {hp:List Res} (n:Int) (hg:Handle w0) (hno:¬ow 0):Ad prog w0 ow 92 [.x (.a (.v (erV n)))] hp (.x (.a (.v (.int .i64 n)))) hp:=Bc fun γ w hS=>by
 have hlt:0 < w0.heap.size:=block_lt_of_cell hg
 have hg':Handle w:=by
  have hb:=hS.keeps.block _ hlt hno
  unfold Handle at hg ⊢
  unfold World.cell? at hg ⊢
  rw[hb]
  exact hg
 show Calls _ _ #[erV n] w _
 unfold erV
 split
 ·rename_i h
  rw[h]
  exact Az5 w
 ·exact Az6 n w hg'
end
end
section
def hT0:HbS:=HbS.new Fx 0 1
def hPm:MgS:=Pi [3,5] 2
def hT1:HbS:=(hT0.hear hPm).1
def hT2:HbS:=(hT1.hear hPm).1
def hT3:HbS:=(hT2.goneE 5).1
theorem A0n:hT0.begin.map (·.to)=[1]:=by decide+kernel
theorem A0o:(hT0.hear hPm).2.1.map (fun s=>(s.to,s.m.k))=[(1,7)]:=by decide+kernel
theorem A0p:(hT0.hear hPm).2.2=0:=by decide+kernel
theorem A0q:(hT1.hear hPm).2.2=9:=by decide+kernel
theorem A0r:(hT2.goneE 5).2.2=2:=by decide+kernel
theorem A0s:hT3.phase=1:=by decide+kernel
theorem A0t:hT3.sums.taken=[(1,hPm)]:=by decide+kernel
theorem A0u:hT3.sums.from_=[1]:=by
 unfold Sms.from_
 rw[A0t]
 exact List.mergeSort_singleton 1
theorem A0v:Gy Fx 0 1=true:=by decide+kernel
theorem A0w:Gy Fx 1 1=false:=by decide+kernel
theorem CfFk.more {Fs Gs:List Fct} {a:CfR} (h:CfFk Fs a) (hg:∀f∈Fs,f∈Gs):CfFk Gs a:=⟨hg _ h.ps,hg _ h.gs,fun g hx=>hg _ (h.ids g hx),h.few⟩
attribute [local irreducible] Ac Ad Ah Au Ao Aj Ai Al
attribute [local irreducible] A9 okV Ak erV Bq Tal.can Tal.st
section
variable {r:HbR} {g gs:Nat} {Fs:List Fct}
theorem Xu {M:List Res} {w0:World} {ow:Nat→Prop} (m:MgR) (okm:MOk Fs m) (ok:HbOk Fs r) (hk:∀γ w,Sat w0 ow γ (hbB g gs r++M) w→Known w (fun b=>∃(k:Nat) (q:Res),(hbB g gs r)[k]?=some q∧q.has γ k b) Fs):∀γ w,Sat w0 ow γ (hbB g gs r++M) w→nmB γ 0=g→Calls prog 42 ([.x (.a (.p 0 0)),.x (.g (mgA m))].map (Sv.val γ)).toArray w fun e w'=>∃(x:HbR×SlV SnR×List Fct) (γ1:List Nm),(HTellQ Fs (r.s.hear m.mg).1 (r.s.hear m.mg).2.1 x)∧e=.returned ((Sv.t [.a (.v x.2.1.val),.a (.v (erV (r.s.hear m.mg).2.2))]).val [])∧Sat w (fun b=>∃(k:Nat) (q:Res),(hbB g gs r)[k]?=some q∧q.has γ k b) γ1 (hbB g gs x.1++[.abs (fctRep x.2.2)]) w':=fun γ w hS hg=>by
 have hk:=hk γ w hS
 have:=Aza m (hS.frontA (Ar g gs r)) hk ok (Lh okm hk)
 show Calls _ _ #[.pointer (some ⟨nmB γ 0,0,none⟩),(Sv.x (.g (mgA m))).val γ] w _
 rw[hg,Bi]
 exact this
theorem Afs {M:List Res} {w0:World} {ow:Nat→Prop} (p:Int) (ok:HbOk Fs r) (hk:∀γ w,Sat w0 ow γ (hbB g gs r++M) w→Known w (fun b=>∃(k:Nat) (q:Res),(hbB g gs r)[k]?=some q∧q.has γ k b) Fs):∀γ w,Sat w0 ow γ (hbB g gs r++M) w→nmB γ 0=g→Calls prog 39 ([.x (.a (.p 0 0)),.x (.a (.v (.int .i64 p)))].map (Sv.val γ)).toArray w fun e w'=>∃(x:HbR×SlV SnR×List Fct) (γ1:List Nm),(Ll Fs (r.s.goneE p).1 (r.s.goneE p).2.1 x)∧e=.returned ((Sv.t [.a (.v x.2.1.val),.a (.v (erV (r.s.goneE p).2.2))]).val [])∧Sat w (fun b=>∃(k:Nat) (q:Res),(hbB g gs r)[k]?=some q∧q.has γ k b) γ1 (hbB g gs x.1++[.abs (fctRep x.2.2)]) w':=fun γ w hS hg=>by
 have:=Azi p (hS.frontA (Ar g gs r)) (hk γ w hS) ok
 show Calls _ _ #[.pointer (some ⟨nmB γ 0,0,none⟩),.int .i64 p] w _
 rw[hg]
 exact this
theorem A0x {M:List Res} {w0:World} {ow:Nat→Prop} (ok:HbOk Fs r) (hk:∀γ w,Sat w0 ow γ (hbB g gs r++M) w→Known w (fun b=>∃(k:Nat) (q:Res),(hbB g gs r)[k]?=some q∧q.has γ k b) Fs):∀γ w,Sat w0 ow γ (hbB g gs r++M) w→nmB γ 0=g→Calls prog 40 ([.x (.a (.p 0 0))].map (Sv.val γ)).toArray w fun e w'=>∃(x:HbR×SlV SnR×List Fct) (γ1:List Nm),(HTellQ Fs r.s.tick.1 r.s.tick.2 x)∧e=.returned ((Sv.x (.a (.v x.2.1.val))).val [])∧Sat w (fun b=>∃(k:Nat) (q:Res),(hbB g gs r)[k]?=some q∧q.has γ k b) γ1 (hbB g gs x.1++[.abs (fctRep x.2.2)]) w':=fun γ w hS hg=>by
 have:=Ay2 (hS.frontA (Ar g gs r)) (hk γ w hS) ok
 show Calls _ _ #[.pointer (some ⟨nmB γ 0,0,none⟩)] w _
 rw[hg]
 exact this
theorem A0y {M:List Res} {w0:World} {ow:Nat→Prop} (ok:HbOk Fs r) (hk:∀γ w,Sat w0 ow γ (hbB g gs r++M) w→Known w (fun b=>∃(k:Nat) (q:Res),(hbB g gs r)[k]?=some q∧q.has γ k b) Fs):∀γ w,Sat w0 ow γ (hbB g gs r++M) w→nmB γ 0=g→Calls prog 91 ([.x (.a (.p 0 0))].map (Sv.val γ)).toArray w fun e w'=>∃(x:SlV SnR×List Fct) (γ1:List Nm),(x.1.l.map SnR.s=r.s.begin∧OutOk x.2 x.1)∧e=.returned ((Sv.x (.a (.v x.1.val))).val [])∧Sat w (fun b=>∃(k:Nat) (q:Res),(hbB g gs r)[k]?=some q∧q.has γ k b) γ1 (hbB g gs r++[.abs (fctRep x.2)]) w':=fun γ w hS hg=>by
 have:=Az4 (hS.frontA (Ar g gs r)) (hk γ w hS) ok
 show Calls _ _ #[.pointer (some ⟨nmB γ 0,0,none⟩)] w _
 rw[hg]
 exact this
theorem Aft {M:List Res} {w0:World} {ow:Nat→Prop} (ok:HbOk Fs r) (hk:∀γ w,Sat w0 ow γ (hbB g gs r++M) w→Known w (fun b=>∃(k:Nat) (q:Res),(hbB g gs r)[k]?=some q∧q.has γ k b) Fs):∀γ w,Sat w0 ow γ (hbB g gs r++M) w→nmB γ 0=g→Calls prog 45 ([.x (.a (.p 0 0))].map (Sv.val γ)).toArray w fun e w'=>∃(x:Unit) (γ1:List Nm),(True)∧e=.returned ((Sv.x (.a (.v (.int .i64 r.phase)))).val [])∧Sat w (fun b=>∃(k:Nat) (q:Res),(hbB g gs r)[k]?=some q∧q.has γ k b) γ1 (hbB g gs r++[.abs (fctRep ([]:List Fct))]) w':=fun γ w hS hg=>by
 have:=Azd (hS.frontA (Ar g gs r))
 show Calls _ _ #[.pointer (some ⟨nmB γ 0,0,none⟩)] w _
 rw[hg]
 exact this.mono fun e w' ⟨_,γ1,h1,h2⟩=>⟨(),γ1,trivial,h1,h2⟩
theorem Xv {M:List Res} {w0:World} {ow:Nat→Prop} (ok:HbOk Fs r) (hk:∀γ w,Sat w0 ow γ (hbB g gs r++M) w→Known w (fun b=>∃(k:Nat) (q:Res),(hbB g gs r)[k]?=some q∧q.has γ k b) Fs):∀γ w,Sat w0 ow γ (hbB g gs r++M) w→nmB γ 0=g→Calls prog 41 ([.x (.a (.p 0 0))].map (Sv.val γ)).toArray w fun e w'=>∃(x:SlV Int×List Fct) (γ1:List Nm),(x.1.l=r.s.sums.from_∧SlF x.2 x.1 (Da x.1.l))∧e=.returned ((Sv.x (.a (.v x.1.val))).val [])∧Sat w (fun b=>∃(k:Nat) (q:Res),(hbB g gs r)[k]?=some q∧q.has γ k b) γ1 (hbB g gs r++[.abs (fctRep x.2)]) w':=fun γ w hS hg=>by
 have h0:=hS.frontA (Ar g gs r)
 have:=Azb h0 ok
 rw[Fe h0 [] (fun x hx=>by cases hx) γ] at this
 show Calls _ _ #[.pointer (some ⟨nmB γ 0,0,none⟩)] w _
 rw[hg]
 refine this.mono fun e w' ⟨_,γ1,_,he,hS1⟩=>?_
 obtain⟨A,cap,γ',e1,e2,eB,eS,h5⟩:=hS1.ownF (j:=7) (k:=6) (c:=.i64 r.s.sums.from_) (vs:=r.s.sums.from_.map (Value.int .i64)) (l:=[]) rfl rfl (by decide) (fun _=>rfl)
 rw[List.length_map] at e1 h5
 have h6:Sat w _ γ' ((hbB g gs r++[.abs (fctRep ([]++[⟨.slice A r.s.sums.from_.length cap,r.s.sums.from_.length,r.s.sums.from_.map (Value.int .i64)⟩]))])++[.gone]) w':=h5
 exact⟨(⟨A,cap,r.s.sums.from_⟩,[]++[⟨.slice A r.s.sums.from_.length cap,r.s.sums.from_.length,r.s.sums.from_.map (Value.int .i64)⟩]),_,⟨rfl,.inr (List.mem_append_right _ (List.mem_singleton.2 rfl))⟩,by
  rw[he]
  show Ending.returned (nmS γ1 7)=_
  rw[e1]
  rfl,h6.frontOf (M1 g gs r _)⟩
end
end
end Go.Proofs.YtedaafmfjhjfmaaGreatDoor
