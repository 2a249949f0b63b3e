import Derived.Test.YtiaeollemmkclaaDoorMq2
import Derived.Test.YtiaeollemmkclaaDoorVs
/- Layer 16's document: what may be. -/
namespace Go.Proofs.YtiaeollemmkclaaDoor
open Go.RowKit
set_option linter.unusedSimpArgs false
set_option linter.unusedVariables false
theorem A9p {m:MgS} (h1:Fm m=false) (h2:noQ m=false):G3 m=(!(m.ns.any fun v=>decide (fpP≤v))&&decide (m.ns.length≤128)&&B6 (-1) m.ids&&may m.ps&&decide (m.xs.length≤32)):=by unfold G3;rw[h1,h2];rfl
theorem Tk {n:Nat} (h:n=0):¬(0:Int) < (n:Int):=by omega
theorem Tm {n:Nat} (h:¬n=0):(0:Int) < (n:Int):=by omega
theorem A9q {m:MgS} (h:Fm m=true):G3 m=false:=by unfold G3;rw[h];rfl
theorem A9r {m:MgS} (h:noQ m=true):G3 m=false:=by unfold G3;rw[h,Bool.not_true,Bool.and_false];rfl
attribute [local irreducible] Af Ad Av Bh Bf A6 Aw A9
attribute [local irreducible] mgA B7 wiQ B6 may G3
section
set_option maxRecDepth 100000 in
set_option maxHeartbeats 8000000 in
theorem A9s (m:MgR) (w:World) (hm:m.Ok w):Calls Tryd.prog 91 (List.map (Sv.val []) [.x (.g (mgA m))]).toArray w fun e w'=>e=.returned (.bool (G3 m.mg))∧Below w.heap.size w w':=by
 obtain⟨Q,hQ⟩:∃Q,Q=G3 m.mg:=⟨_,rfl⟩
 rw[←hQ]
 refine By (n:=154) Tryd.func91 rfl Tryd.ntmps91 [.x (.g (mgA m))] (by simp) (.x (.a (.v (.bool Q)))) (fun _=>rfl) ?_
 obtain⟨f0,f1,f2,f3,f4,f5,f38,f39,f40,f41,f42⟩:=Dw hm.s
 have fl:=Cj hm.s
 have fs:=Gw hm.s
 have hs:=hm.s
 have fb:=fun n=>Co m n
 have vi:m.ids.val=.slice m.ids.A m.ids.l.length m.ids.c:=rfl
 have vn:m.ns.val=.slice m.ns.A m.ns.l.length m.ns.c:=rfl
 have vp:m.ps.val=.slice m.ps.A m.ps.l.length m.ps.c:=rfl
 have vx:m.xs.val=.slice m.xs.A m.xs.l.length m.xs.c:=rfl
 simp only[At.bnd] at fb
 have blk:Fm m.mg=true→Q=false:=fun h=>hQ.trans (A9q h)
 have noq:noQ m.mg=true→Q=false:=fun h=>hQ.trans (A9r h)
 by_cases k1:m.k < 1
 ·have hq:Q=false:=blk (by unfold Fm;rw[decide_eq_true (.inl k1)];rfl)
  simp (maxSteps:=10^6) only[fb,fl,f0,↓Ba,k1,hq,undef,push_cast,↓reduceIte,reduceCtorEq,Nat.reduceEqDiff,Nat.reduceLT]
  done
 by_cases k2:19 < m.k
 ·have hq:Q=false:=blk (by unfold Fm;rw[decide_eq_true (.inr k2)];rfl)
  simp (maxSteps:=10^6) only[fb,fl,f0,↓Ba,k1,k2,hq,undef,push_cast,↓reduceIte,reduceCtorEq,Nat.reduceEqDiff,Nat.reduceLT]
  done
 have hk:decide (m.mg.k < 1∨m.mg.k > 19)=false:=decide_eq_false fun e=>e.elim k1 k2
 simp (maxSteps:=10^6) only[fb,fl,f0,f1,↓Ba,k1,k2,undef,push_cast,↓reduceIte,reduceCtorEq,Nat.reduceEqDiff,Nat.reduceLT]
 (repeat (refine And.intro (by first|omega|decide) ?_))
 refine A8 rfl Ow rfl (Pu 97 m.pl 15 (Dh hm)) (Aa rfl) ?_
 by_cases w0:wiQ m.mg.k 97 m.mg.pl 15=false
 ·have hq:Q=false:=blk (by unfold Fm;rw[w0];simp only[Bool.not_false,Bool.or_true,Bool.true_or])
  have w0':wiQ m.mg.k 97 m.pl 15=false:=w0
  simp (maxSteps:=10^6) only[w0',hq,undef,push_cast,↓reduceIte,Nat.reduceEqDiff,Nat.reduceLT]
  done
 have w0:=Bool.not_eq_false _▸w0
 have w0':wiQ m.mg.k 97 m.pl 15=true:=w0
 simp (maxSteps:=10^6) only[fl,f2,w0',undef,push_cast,↓reduceIte,reduceCtorEq,Nat.reduceEqDiff,Nat.reduceLT]
 (repeat (refine And.intro (by first|omega|decide) ?_))
 refine A8 rfl Ow rfl (Pu 111 m.ot 15 (Dh hm)) (Aa rfl) ?_
 by_cases w1:wiQ m.mg.k 111 m.mg.ot 15=false
 ·have hq:Q=false:=blk (by unfold Fm;rw[w1];simp only[Bool.not_false,Bool.or_true,Bool.true_or])
  have w1':wiQ m.mg.k 111 m.ot 15=false:=w1
  simp (maxSteps:=10^6) only[w1',hq,undef,push_cast,↓reduceIte,Nat.reduceEqDiff,Nat.reduceLT]
  done
 have w1:=Bool.not_eq_false _▸w1
 have w1':wiQ m.mg.k 111 m.ot 15=true:=w1
 simp (maxSteps:=10^6) only[fl,f3,w1',undef,push_cast,↓reduceIte,reduceCtorEq,Nat.reduceEqDiff,Nat.reduceLT]
 (repeat (refine And.intro (by first|omega|decide) ?_))
 refine A8 rfl Ow rfl (Pu 99 m.cl 63 (Dh hm)) (Aa rfl) ?_
 by_cases w2:wiQ m.mg.k 99 m.mg.cl 63=false
 ·have hq:Q=false:=blk (by unfold Fm;rw[w2];simp only[Bool.not_false,Bool.or_true,Bool.true_or])
  have w2':wiQ m.mg.k 99 m.cl 63=false:=w2
  simp (maxSteps:=10^6) only[w2',hq,undef,push_cast,↓reduceIte,Nat.reduceEqDiff,Nat.reduceLT]
  done
 have w2:=Bool.not_eq_false _▸w2
 have w2':wiQ m.mg.k 99 m.cl 63=true:=w2
 simp (maxSteps:=10^6) only[fl,f4,w2',undef,push_cast,↓reduceIte,reduceCtorEq,Nat.reduceEqDiff,Nat.reduceLT]
 (repeat (refine And.intro (by first|omega|decide) ?_))
 refine A8 rfl Ow rfl (Pu 103 m.ge 1073741824 (Dh hm)) (Aa rfl) ?_
 by_cases w3:wiQ m.mg.k 103 m.mg.ge 1073741824=false
 ·have hq:Q=false:=blk (by unfold Fm;rw[w3];simp only[Bool.not_false,Bool.or_true,Bool.true_or])
  have w3':wiQ m.mg.k 103 m.ge 1073741824=false:=w3
  simp (maxSteps:=10^6) only[w3',hq,undef,push_cast,↓reduceIte,Nat.reduceEqDiff,Nat.reduceLT]
  done
 have w3:=Bool.not_eq_false _▸w3
 have w3':wiQ m.mg.k 103 m.ge 1073741824=true:=w3
 simp (maxSteps:=10^6) only[fl,f42,w3',undef,push_cast,↓reduceIte,reduceCtorEq,Nat.reduceEqDiff,Nat.reduceLT]
 (repeat (refine And.intro (by first|omega|decide) ?_))
 refine A8 rfl Ow rfl (Pu 114 m.re 255 (Dh hm)) (Aa rfl) ?_
 by_cases w4:wiQ m.mg.k 114 m.mg.re 255=false
 ·have hq:Q=false:=blk (by unfold Fm;rw[w4];simp only[Bool.not_false,Bool.or_true])
  have w4':wiQ m.mg.k 114 m.re 255=false:=w4
  simp (maxSteps:=10^6) only[w4',hq,push_cast,↓reduceIte,Nat.reduceEqDiff,Nat.reduceLT]
  done
 have w4:=Bool.not_eq_false _▸w4
 have w4':wiQ m.mg.k 114 m.re 255=true:=w4
 simp (maxSteps:=10^6) only[w4',push_cast,↓reduceIte,Nat.reduceEqDiff,Nat.reduceLT]
 (repeat (refine And.intro (by first|omega|decide) ?_))
 simp only[List.append_eq,List.cons_append,List.nil_append]
 simp (maxSteps:=10^6) only[fl,f0,undef,push_cast,↓reduceIte,reduceCtorEq,Nat.reduceEqDiff,Nat.reduceLT]
 (repeat (refine And.intro (by first|omega|decide) ?_))
 refine A8 rfl Ln rfl (L5 m.k 110) (Aa rfl) ?_
 by_cases pr:(2305843009213693951:UInt64)≤m.nu
 ·have hq:Q=false:=noq (by unfold noQ;rw[show decide (fpP≤m.mg.nu)=true from decide_eq_true pr];simp only[Bool.or_true,Bool.true_or])
  cases h:B7 m.k 110 with
  |true=>
   simp (maxSteps:=10^6) only[fl,f5,pr,hq,undef,push_cast,↓reduceIte,reduceCtorEq,Nat.reduceEqDiff,Nat.reduceLT]
   done
  |false=>
   by_cases z:m.nu=0
   ·rw[z] at pr
    exact absurd pr (by decide)
   ·simp (maxSteps:=10^6) only[fl,f5,z,hq,undef,push_cast,↓reduceIte,reduceCtorEq,Nat.reduceEqDiff,Nat.reduceLT]
    done
 have prf:decide (fpP≤m.mg.nu)=false:=decide_eq_false pr
 apply Ns ((!B7 m.mg.k 110&&decide (m.mg.nu≠0))=false)
 ·intro K
  cases h:B7 m.k 110 with
  |true=>
   simp (maxSteps:=10^6) only[fl,f0,f5,pr,undef,push_cast,↓reduceIte,reduceCtorEq,Nat.reduceEqDiff,Nat.reduceLT]
   (repeat (refine And.intro (by first|omega|decide) ?_))
   refine Im (1::61::63::64::65::66::67::68::69::70::71::74::75::76::77::78::79::80::81::82::83::86::87::88::89::90::91::92::93::94::95::98::99::100::101::102::103::104::105::106::107::110::111::112::113::114::115::116::117::118::119::139::140::141::144::145::146::149::150::151::152::[]) ?_
   simp (maxSteps:=10^6) only[push_cast,↓reduceIte,reduceCtorEq,Nat.reduceEqDiff]
   exact K (by rw[show B7 m.mg.k 110=true from h];rfl)
  |false=>
   by_cases z:m.nu=0
   ·have z2:=z
    simp (maxSteps:=10^6) only[fb,fl,f0,f5,z2,undef,push_cast,↓reduceIte,reduceCtorEq,Nat.reduceEqDiff,Nat.reduceLT]
    (repeat (refine And.intro (by first|omega|decide) ?_))
    refine Im (1::61::63::64::65::66::67::68::69::70::71::74::75::76::77::78::79::80::81::82::83::86::87::88::89::90::91::92::93::94::95::98::99::100::101::102::103::104::105::106::107::110::111::112::113::114::115::116::117::118::119::139::140::141::144::145::146::149::150::151::152::[]) ?_
    simp (maxSteps:=10^6) only[push_cast,↓reduceIte,reduceCtorEq,Nat.reduceEqDiff]
    exact K (by rw[Bool.and_eq_false_iff];exact .inr (decide_eq_false fun e=>e z))
   ·have hq:Q=false:=noq (by unfold noQ;rw[show B7 m.mg.k 110=false from h,show decide (m.mg.nu≠0)=true from decide_eq_true z];simp only[Bool.not_false,Bool.true_and,Bool.true_or])
    have z2:=z
    simp (maxSteps:=10^6) only[fl,f5,z2,hq,undef,push_cast,↓reduceIte,reduceCtorEq,Nat.reduceEqDiff,Nat.reduceLT]
    done
 intro n0
 refine A8 rfl Ln rfl (L5 m.k 115) (Aa rfl) ?_
 apply Ns ((!B7 m.mg.k 115&&decide (m.mg.sm≠List.replicate 32 0))=false)
 ·intro K
  cases h:B7 m.k 115 with
  |true=>
   simp (maxSteps:=10^6) only[fl,f0,undef,push_cast,↓reduceIte,reduceCtorEq,Nat.reduceEqDiff,Nat.reduceLT]
   (repeat (refine And.intro (by first|omega|decide) ?_))
   refine Im (1::73::75::76::77::78::79::80::81::82::83::86::87::88::89::90::91::92::93::94::95::98::99::100::101::102::103::104::105::106::107::110::111::112::113::114::115::116::117::118::119::139::140::141::144::145::146::149::150::151::152::[]) ?_
   simp (maxSteps:=10^6) only[push_cast,↓reduceIte,Nat.reduceEqDiff]
   exact K (by rw[show B7 m.mg.k 115=true from h];rfl)
  |false=>
   by_cases z:m.sm=List.replicate 32 0
   ·have z2:=z
    simp (maxSteps:=10^6) only[fl,f0,fs,z2,undef,push_cast,↓reduceIte,reduceCtorEq,Nat.reduceEqDiff,Nat.reduceLT,Nat.reduceLeDiff,Nat.reduceAdd]
    (repeat (refine And.intro (by first|omega|decide) ?_))
    refine Im (1::73::75::76::77::78::79::80::81::82::83::86::87::88::89::90::91::92::93::94::95::98::99::100::101::102::103::104::105::106::107::110::111::112::113::114::115::116::117::118::119::139::140::141::144::145::146::149::150::151::152::[]) ?_
    simp (maxSteps:=10^6) only[push_cast,↓reduceIte,Nat.reduceEqDiff]
    exact K (by rw[Bool.and_eq_false_iff];exact .inr (decide_eq_false fun e=>e z))
   ·have hq:Q=false:=noq (by unfold noQ;rw[show B7 m.mg.k 115=false from h,show decide (m.mg.sm≠List.replicate 32 0)=true from decide_eq_true z];simp only[Bool.not_false,Bool.true_and,Bool.or_true,Bool.true_or])
    have z2:=z
    simp (maxSteps:=10^6) only[fl,fs,hs,z2,hq,undef,push_cast,↓reduceIte,reduceCtorEq,Nat.reduceEqDiff,Nat.reduceLT,Nat.reduceLeDiff,Nat.reduceAdd]
    done
 intro n1
 refine A8 rfl Ln rfl (L5 m.k 105) (Aa rfl) ?_
 apply Ns ((!B7 m.mg.k 105&&decide (0 < m.mg.ids.length))=false)
 ·intro K
  cases h:B7 m.k 105 with
  |true=>
   simp (maxSteps:=10^6) only[fl,f0,undef,push_cast,↓reduceIte,reduceCtorEq,Nat.reduceEqDiff,Nat.reduceLT]
   (repeat (refine And.intro (by first|omega|decide) ?_))
   refine Im (1::85::87::88::89::90::91::92::93::94::95::98::99::100::101::102::103::104::105::106::107::110::111::112::113::114::115::116::117::118::119::139::140::141::144::145::146::149::150::151::152::[]) ?_
   simp (maxSteps:=10^6) only[push_cast,↓reduceIte,Nat.reduceEqDiff]
   exact K (by rw[show B7 m.mg.k 105=true from h];rfl)
  |false=>
   by_cases z:m.ids.l.length=0
   ·have z2:=Tk z
    simp (maxSteps:=10^6) only[fl,f0,f38,vi,z2,undef,push_cast,↓reduceIte,reduceCtorEq,Nat.reduceEqDiff,Nat.reduceLT]
    (repeat (refine And.intro (by first|omega|decide) ?_))
    refine Im (1::85::87::88::89::90::91::92::93::94::95::98::99::100::101::102::103::104::105::106::107::110::111::112::113::114::115::116::117::118::119::139::140::141::144::145::146::149::150::151::152::[]) ?_
    simp (maxSteps:=10^6) only[push_cast,↓reduceIte,Nat.reduceEqDiff]
    exact K (by rw[Bool.and_eq_false_iff];exact .inr (decide_eq_false fun e=>absurd (show m.mg.ids.length=0 from z) (Nat.pos_iff_ne_zero.1 e)))
   ·have hq:Q=false:=noq (by unfold noQ;rw[show B7 m.mg.k 105=false from h,show decide (0 < m.mg.ids.length)=true from decide_eq_true (Nat.pos_of_ne_zero z)];simp only[Bool.not_false,Bool.true_and,Bool.or_true,Bool.true_or])
    have z2:=Tm z
    simp (maxSteps:=10^6) only[fl,f38,vi,z2,hq,undef,push_cast,↓reduceIte,reduceCtorEq,Nat.reduceEqDiff,Nat.reduceLT]
    done
 intro n2
 refine A8 rfl Ln rfl (L5 m.k 118) (Aa rfl) ?_
 apply Ns ((!B7 m.mg.k 118&&decide (0 < m.mg.ns.length))=false)
 ·intro K
  cases h:B7 m.k 118 with
  |true=>
   simp (maxSteps:=10^6) only[fl,f0,undef,push_cast,↓reduceIte,reduceCtorEq,Nat.reduceEqDiff,Nat.reduceLT]
   (repeat (refine And.intro (by first|omega|decide) ?_))
   refine Im [1,97,99,100,101,102,103,104,105,106,107,110,111,112,113,114,115,116,117,118,119,139,140,141,144,145,146,149,150,151,152] ?_
   simp (maxSteps:=10^6) only[push_cast,↓reduceIte,Nat.reduceEqDiff]
   exact K (by rw[show B7 m.mg.k 118=true from h];rfl)
  |false=>
   by_cases z:m.ns.l.length=0
   ·have z2:=Tk z
    simp (maxSteps:=10^6) only[fl,f0,f39,vn,z2,undef,push_cast,↓reduceIte,reduceCtorEq,Nat.reduceEqDiff,Nat.reduceLT]
    (repeat (refine And.intro (by first|omega|decide) ?_))
    refine Im [1,97,99,100,101,102,103,104,105,106,107,110,111,112,113,114,115,116,117,118,119,139,140,141,144,145,146,149,150,151,152] ?_
    simp (maxSteps:=10^6) only[push_cast,↓reduceIte,Nat.reduceEqDiff]
    exact K (by rw[Bool.and_eq_false_iff];exact .inr (decide_eq_false fun e=>absurd (show m.mg.ns.length=0 from z) (Nat.pos_iff_ne_zero.1 e)))
   ·have hq:Q=false:=noq (by unfold noQ;rw[show B7 m.mg.k 118=false from h,show decide (0 < m.mg.ns.length)=true from decide_eq_true (Nat.pos_of_ne_zero z)];simp only[Bool.not_false,Bool.true_and,Bool.or_true,Bool.true_or])
    have z2:=Tm z
    simp (maxSteps:=10^6) only[fl,f39,vn,z2,hq,undef,push_cast,↓reduceIte,reduceCtorEq,Nat.reduceEqDiff,Nat.reduceLT]
    done
 intro n3
 refine A8 rfl Ln rfl (L5 m.k 112) (Aa rfl) ?_
 apply Ns ((!B7 m.mg.k 112&&decide (0 < m.mg.ps.length))=false)
 ·intro K
  cases h:B7 m.k 112 with
  |true=>
   simp (maxSteps:=10^6) only[fl,f0,undef,push_cast,↓reduceIte,reduceCtorEq,Nat.reduceEqDiff,Nat.reduceLT]
   (repeat (refine And.intro (by first|omega|decide) ?_))
   refine Im [1,109,111,112,113,114,115,116,117,118,119,139,140,141,144,145,146,149,150,151,152] ?_
   simp (maxSteps:=10^6) only[push_cast,↓reduceIte,Nat.reduceEqDiff]
   exact K (by rw[show B7 m.mg.k 112=true from h];rfl)
  |false=>
   by_cases z:m.ps.l.length=0
   ·have z2:=Tk z
    simp (maxSteps:=10^6) only[fl,f0,f40,vp,z2,undef,push_cast,↓reduceIte,reduceCtorEq,Nat.reduceEqDiff,Nat.reduceLT]
    (repeat (refine And.intro (by first|omega|decide) ?_))
    refine Im [1,109,111,112,113,114,115,116,117,118,119,139,140,141,144,145,146,149,150,151,152] ?_
    simp (maxSteps:=10^6) only[push_cast,↓reduceIte,Nat.reduceEqDiff]
    exact K (by rw[Bool.and_eq_false_iff];exact .inr (decide_eq_false fun e=>absurd (show m.mg.ps.length=0 from z) (Nat.pos_iff_ne_zero.1 e)))
   ·have hq:Q=false:=noq (by unfold noQ;rw[show B7 m.mg.k 112=false from h,show decide (0 < m.mg.ps.length)=true from decide_eq_true (Nat.pos_of_ne_zero z)];simp only[Bool.not_false,Bool.true_and,Bool.or_true,Bool.true_or])
    have z2:=Tm z
    simp (maxSteps:=10^6) only[fl,f40,vp,z2,hq,undef,push_cast,↓reduceIte,reduceCtorEq,Nat.reduceEqDiff,Nat.reduceLT]
    done
 intro n4
 refine A8 rfl Ln rfl (L5 m.k 120) (Aa rfl) ?_
 apply Ns ((!B7 m.mg.k 120&&decide (0 < m.mg.xs.length))=false)
 ·intro K
  cases h:B7 m.k 120 with
  |true=>
   simp (maxSteps:=10^6) only[undef,push_cast,↓reduceIte,Nat.reduceEqDiff,Nat.reduceLT]
   (repeat (refine And.intro (by first|omega|decide) ?_))
   refine Aax (1::[3]) ?_
   simp (maxSteps:=10^6) only[push_cast,↓reduceIte,Nat.reduceEqDiff]
   exact K (by rw[show B7 m.mg.k 120=true from h];rfl)
  |false=>
   by_cases z:m.xs.l.length=0
   ·have z2:=Tk z
    simp (maxSteps:=10^6) only[fl,f41,vx,z2,undef,push_cast,↓reduceIte,reduceCtorEq,Nat.reduceEqDiff,Nat.reduceLT]
    (repeat (refine And.intro (by first|omega|decide) ?_))
    refine Aax (1::[3]) ?_
    simp (maxSteps:=10^6) only[push_cast,↓reduceIte,Nat.reduceEqDiff]
    exact K (by rw[Bool.and_eq_false_iff];exact .inr (decide_eq_false fun e=>absurd (show m.mg.xs.length=0 from z) (Nat.pos_iff_ne_zero.1 e)))
   ·have hq:Q=false:=noq (by unfold noQ;rw[show B7 m.mg.k 120=false from h,show decide (0 < m.mg.xs.length)=true from decide_eq_true (Nat.pos_of_ne_zero z)];simp only[Bool.not_false,Bool.true_and,Bool.or_true])
    have z2:=Tm z
    simp (maxSteps:=10^6) only[fl,f41,vx,z2,hq,undef,push_cast,↓reduceIte,reduceCtorEq,Nat.reduceEqDiff,Nat.reduceLT]
    done
 intro n5
 have hb:Fm m.mg=false:=by unfold Fm;rw[hk,w0,w1,w2,w3,w4];rfl
 have hn:noQ m.mg=false:=by unfold noQ;rw[n0,prf,n1,n2,n3,n4,n5];rfl
 have hQ:=hQ.trans (A9p hb hn)
 have F:=FM.of hm.ns.rd
 have hfew:=hm.ns.few
 refine Bu (fun i:Nat=>⟨[(1,.x (.a (.p 0 0))),(3,.x (.a (.v (.int .i64 i))))],[.blk 83 (.c (mgA m))]⟩)
  (fun i=>i≤m.ns.l.length∧∀j,j < i→¬fpP≤ix m.ns.l j) (fun i=>m.ns.l.length - i) 0 [0] ⟨Nat.zero_le _,fun j h=>absurd h (Nat.not_lt_zero j)⟩ ?_ ?_
 ·simp (maxSteps:=10^6) only[fb,↓Ak,push_cast,↓Int.cast_ofNat_Int,Int.cast_ofNat_Int,↓reduceIte,Nat.reduceEqDiff,Nat.reduceLT]
 rintro i ⟨hi,hj⟩
 by_cases hlt:(i:Int) < (m.ns.l.length:Int)
 ·have hil:i < m.ns.l.length:=by omega
  have i0:(0:Int)≤(i:Int):=by omega
  have c0:=F.cell i hil
  have o0:=F.ok i hil
  have hA:=F.some_ (by omega)
  by_cases hv:(2305843009213693951:UInt64)≤ix m.ns.l i
  ·have hany:(m.ns.l.any fun v=>decide (fpP≤v))=true:=by
    rw[List.any_eq_true]
    exact⟨ix m.ns.l i,Lq hil,decide_eq_true hv⟩
   have hq:Q=false:=by
    rw[hQ]
    show (!(m.ns.l.any fun v=>decide (fpP≤v))&&_&&_&&_&&_)=false
    rw[hany]
    rfl
   simp (maxSteps:=10^6) only[fl,f39,vn,hlt,i0,c0,o0,hA,hv,hq,undef,push_cast,↓Int.toNat_natCast,↓reduceIte,reduceCtorEq,Nat.reduceEqDiff,Nat.reduceLT]
   done
  ·simp (maxSteps:=10^6) only[fl,f39,vn,hlt,i0,c0,o0,hA,hv,undef,push_cast,↓Int.toNat_natCast,↓reduceIte,reduceCtorEq,Nat.reduceEqDiff,Nat.reduceLT,Int.reduceNeg]
   (repeat (refine And.intro (by first|omega|decide) ?_))
   refine Bd (i+1) [0] ⟨by omega,fun j hjl=>?_⟩ (by omega) ?_
   ·by_cases e:j=i
    ·rw[e];exact hv
    ·exact hj j (by omega)
   ·simp (maxSteps:=10^6) only[fb,↓Ak,push_cast,↓reduceIte,Nat.reduceEqDiff,Nat.reduceLT]
 ·have hall:(m.ns.l.any fun v=>decide (fpP≤v))=false:=by
   rw[List.any_eq_false]
   intro v hv
   obtain⟨j,hj1,e⟩:=A1m hv
   rw[decide_eq_true_eq,←e]
   exact hj j (by omega)
  have hQ:Q=(decide (m.ns.l.length≤128)&&B6 (-1) m.ids.l&&may m.ps.l&&decide (m.xs.l.length≤32)):=by
   rw[hQ]
   show (!(m.ns.l.any fun v=>decide (fpP≤v))&&_&&_&&_&&_)=_
   rw[hall]
   rfl
  by_cases l1:m.ns.l.length≤128
  ·have l1':(m.ns.l.length:Int)≤128:=by omega
   rw[decide_eq_true l1,Bool.true_and] at hQ
   simp (maxSteps:=10^6) only[fl,f38,f39,vi,vn,hlt,l1',undef,push_cast,↓reduceIte,reduceCtorEq,Nat.reduceEqDiff,Nat.reduceLT]
   (repeat (refine And.intro (by first|omega|decide) ?_))
   refine A8 rfl Azv rfl (A9o (l:=m.ids.l) (by have:=hm.ids.few;omega) (Dq hm.ids.rd _ _ (by simp) hm.ids.len)) (Aa rfl) ?_
   cases l2:B6 (-1) m.ids.l with
   |false=>
    rw[l2,Bool.false_and,Bool.false_and] at hQ
    simp (maxSteps:=10^6) only[hQ,undef,push_cast,↓reduceIte,Nat.reduceEqDiff,Nat.reduceLT]
    done
   |true=>
    rw[l2,Bool.true_and] at hQ
    simp (maxSteps:=10^6) only[fl,f40,vp,undef,push_cast,↓reduceIte,reduceCtorEq,Nat.reduceEqDiff,Nat.reduceLT]
    (repeat (refine And.intro (by first|omega|decide) ?_))
    refine A8 rfl Azw rfl (A1t (l:=m.ps.l) (by have:=hm.ps.few;omega) (M2 hm.ps.rd hm.ps.len)) (Aa rfl) ?_
    cases l3:may m.ps.l with
    |false=>
     rw[l3,Bool.false_and] at hQ
     simp (maxSteps:=10^6) only[hQ,undef,push_cast,↓reduceIte,Nat.reduceEqDiff,Nat.reduceLT]
     done
    |true=>
     rw[l3,Bool.true_and] at hQ
     by_cases l4:m.xs.l.length≤32
     ·have l4':(m.xs.l.length:Int)≤32:=by omega
      rw[decide_eq_true l4] at hQ
      simp (maxSteps:=10^6) only[fl,f41,vx,l4',hQ,undef,push_cast,↓reduceIte,reduceCtorEq,Nat.reduceEqDiff,Nat.reduceLT]
      done
     ·have l4':¬(m.xs.l.length:Int)≤32:=by omega
      rw[decide_eq_false l4] at hQ
      simp (maxSteps:=10^6) only[fl,f41,vx,l4',hQ,undef,push_cast,↓reduceIte,reduceCtorEq,Nat.reduceEqDiff,Nat.reduceLT]
      done
  ·have l1':¬(m.ns.l.length:Int)≤128:=by omega
   rw[decide_eq_false l1,Bool.false_and,Bool.false_and,Bool.false_and] at hQ
   simp (maxSteps:=10^6) only[fl,f39,vn,hlt,l1',hQ,undef,push_cast,↓reduceIte,reduceCtorEq,Nat.reduceEqDiff,Nat.reduceLT]
   done
theorem Ad4 {w0:World} {hp:List Res} {s:Sv} {m:MgS} (h:Dg w0 hp s m):Ad Tryd.prog w0 No 91 [s] hp (.x (.a (.v (.bool (Cc m))))) hp:=Ca fun γ w hS=>by
 obtain⟨a,e,h1,rfl⟩:=h γ w hS
 have e:List.map (Sv.val γ) [s]=List.map (Sv.val []) [.x (.g (mgA a))]:=by
  simp only[List.map_cons,List.map_nil,e,Es]
 rw[e,←Ad2]
 exact A9s a w h1
end
end Go.Proofs.YtiaeollemmkclaaDoor
