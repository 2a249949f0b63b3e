import Derived.Test.YtedaafmfjhjfmaaGreatDoorLn0
import Derived.Test.YtedaafmfjhjfmaaGreatDoorDrT
import Derived.Test.YtedaafmfjhjfmaaGreatDoorDrD
/- A new leaf. -/
namespace Go.Proofs.YtedaafmfjhjfmaaGreatDoor
open Go.RowKit
set_option linter.unusedSimpArgs false
set_option linter.unusedVariables false
theorem Sx {c:CfS} {p gen:Int} (h:Eo c p gen=true):cfF c=true∧(1≤gen∧gen≤1073741824)∧(0≤p∧p < c.places.length)∧0≤Cb c p∧Cb c p < c.groups.length:=by
 unfold Eo at h
 simp only[Bool.and_eq_true,decide_eq_true_eq] at h
 obtain⟨⟨⟨h1,h2⟩,h3⟩,h4⟩:=h
 have hi:isP c p=true:=(Rg h1 h3.1 h3.2).2
 refine⟨h1,h2,h3,h4,?_⟩
 unfold Cb
 rw[if_pos hi]
 have:=Aa3 p c.groups 0
 omega
attribute [local irreducible] Ah Ai Am Bc A7 Ay Ap A6
attribute [local irreducible] A8 okV Bj erV Tal.can Tal.st Bz Cd cfF tcF isP ofP abF Kv Cs Cb
section
variable {c:CfR} {w:World}
theorem Ac8 (h:c.Ok w) {hp:List Res}:Ai Tryz.prog w No 49 [.x (.g [.v (.int .i64 c.dim),.v (.slice c.ps.A c.ps.l.length c.ps.c),.v (.slice c.gs.A c.gs.l.length c.gs.c),.v (.int .i64 c.least),.v (.int .i64 c.term)])] hp (.x (.a (.v (okV (cfF c.cf) 1)))) hp:=A1e (s:=.x (.g (cfA c))) (Aay h)
theorem Ac9 (h:c.Ok w) (p:Int) {hp:List Res}:Ai Tryz.prog w No 50 [.x (.g [.v (.int .i64 c.dim),.v (.slice c.ps.A c.ps.l.length c.ps.c),.v (.slice c.gs.A c.gs.l.length c.gs.c),.v (.int .i64 c.least),.v (.int .i64 c.term)]),.x (.a (.v (.int .i64 p)))] hp (.t [.a (.v (.int .i64 (Cb c.cf p))),.a (.v (tcF c.cf p))]) hp:=A1r (s:=.x (.g (cfA c))) p (Aay h)
theorem A7u {c:CfS} {p gen:Int} (h:Eo c p gen=false) (h1:cfF c=true) (h2:1≤gen∧gen≤1073741824) (h3:tcF c p=.nilIface):Cb c p < 0:=by
 have hp:0≤p∧p < c.places.length:=by
  refine Classical.byContradiction fun hn=>?_
  rw[(Rh h1 hn).1] at h3
  cases h3
 refine Classical.byContradiction fun hg=>?_
 have hg:0≤Cb c p:=by omega
 unfold Eo at h
 rw[h1,decide_eq_true h2,decide_eq_true hp,decide_eq_true hg] at h
 cases h
set_option maxRecDepth 100000 in
theorem A7v (p gen:Int) (h:c.Ok w) (hn:Eo c.cf p gen=false):
  Calls Tryz.prog 9 #[.agg (cfV c).toArray,.int .i64 p,.int .i64 gen] w fun e w'=>e=.returned (.tuple #[.pointer none,erV 1])∧Below w.heap.size w w':=by
 refine Bm (n:=82) Tryz.func9 rfl Tryz.ntmps9 [.x (.g [.v (.int .i64 c.dim),.v (.slice c.ps.A c.ps.l.length c.ps.c),.v (.slice c.gs.A c.gs.l.length c.gs.c),.v (.int .i64 c.least),.v (.int .i64 c.term)]),.x (.a (.v (.int .i64 p))),.x (.a (.v (.int .i64 gen)))] (by simp) (.t [.a (.v (.pointer none)),.a (.v (erV 1))]) (fun _=>rfl) ?_
 have ev:=B5 (n:=1) (by decide)
 simp (maxSteps:=10^6) only[push_cast,↓reduceIte,Nat.reduceEqDiff,Nat.reduceLT,Nat.reduceAdd]
 (repeat (refine And.intro (by first|omega|decide) ?_))
 refine Al rfl Uv rfl (Ac8 h) (Ae rfl) ?_
 by_cases h1:cfF c.cf=true
 ·rw[h1,Do]
  by_cases h2:gen < 1
  ·simp (maxSteps:=10^6) only[h2,ev,undef,push_cast,↓reduceIte,reduceCtorEq,Nat.reduceEqDiff,Nat.reduceLT]
   done
  by_cases h3:1073741824 < gen
  ·simp (maxSteps:=10^6) only[h2,h3,ev,push_cast,↓reduceIte,reduceCtorEq,Nat.reduceEqDiff,Nat.reduceLT]
   done
  simp (maxSteps:=10^6) only[h2,h3,push_cast,↓reduceIte,reduceCtorEq,Nat.reduceEqDiff,Nat.reduceLT,Nat.reduceAdd]
  (repeat (refine And.intro (by first|omega|decide) ?_))
  refine Al rfl Zl rfl (Ac9 h p) (Ae rfl) ?_
  rcases Vv c.cf p with ⟨h4,h5⟩|⟨h5,n,h4⟩
  ·have hg:=A7u hn h1 (by omega) h4
   simp (maxSteps:=10^6) only[h4,hg,ev,push_cast,↓reduceIte,Nat.reduceEqDiff,Nat.reduceLT]
   done
  ·simp (maxSteps:=10^6) only[h4,ev,undef,push_cast,↓reduceIte,Nat.reduceEqDiff,Nat.reduceLT]
   done
 ·rw[show cfF c.cf=false by simpa using h1,Il]
  simp (maxSteps:=10^6) only[ev,undef,push_cast,↓reduceIte,Nat.reduceEqDiff,Nat.reduceLT]
  done
def nwF (c:CfR) (g:GrR) (p gen par:Int) (A1:Option Addr) (ab:List Int) (cap1:Nat):Nat→S
 |0=>⟨[(52,.x (.a (.v (.int .i64 p)))),(53,.x (.a (.v (.int .i64 gen)))),(55,.x (.a (.v (.int .i64 c.dim)))),(57,.x (.a (.v (.int .i64 c.term)))),(59,.x (.a (.v (.int .i64 g.need)))),(65,.x (.a (.v (.int .i64 par)))),(66,.x (.a (.v (.slice A1 ab.length cap1)))),(68,.x (.a (.v (.slice g.ids.A g.ids.l.length g.ids.c))))],[.abs (Aa [⟨.slice A1 ab.length cap1,ab.length,ab.map (Value.int .i64)⟩]),.blk 38 (.c [.v (.int .i64 c.dim),.v (.slice c.ps.A c.ps.l.length c.ps.c),.v (.slice c.gs.A c.gs.l.length c.gs.c),.v (.int .i64 c.least),.v (.int .i64 c.term)]),.blk 96 (.c [.v (.int .i64 g.place),.v (.slice g.ids.A g.ids.l.length g.ids.c),.v (.int .i64 g.need)])]⟩
 |1=>⟨[(52,.x (.a (.v (.int .i64 p)))),(53,.x (.a (.v (.int .i64 gen)))),(55,.x (.a (.v (.int .i64 c.dim)))),(57,.x (.a (.v (.int .i64 c.term)))),(59,.x (.a (.v (.int .i64 g.need)))),(65,.x (.a (.v (.int .i64 par)))),(66,.x (.a (.v (.slice A1 ab.length cap1)))),(68,.x (.a (.v (.slice g.ids.A g.ids.l.length g.ids.c)))),(69,.x (.a (.o 3)))],[.abs (Aa [⟨.slice A1 ab.length cap1,ab.length,ab.map (Value.int .i64)⟩]),.blk 38 (.c [.v (.int .i64 c.dim),.v (.slice c.ps.A c.ps.l.length c.ps.c),.v (.slice c.gs.A c.gs.l.length c.gs.c),.v (.int .i64 c.least),.v (.int .i64 c.term)]),.blk 96 (.c [.v (.int .i64 g.place),.v (.slice g.ids.A g.ids.l.length g.ids.c),.v (.int .i64 g.need)]),.own 3 (.i64 g.ids.l)]⟩
 |2=>⟨[(52,.x (.a (.v (.int .i64 p)))),(53,.x (.a (.v (.int .i64 gen)))),(55,.x (.a (.v (.int .i64 c.dim)))),(57,.x (.a (.v (.int .i64 c.term)))),(59,.x (.a (.v (.int .i64 g.need)))),(65,.x (.a (.v (.int .i64 par)))),(66,.x (.a (.v (.slice A1 ab.length cap1)))),(68,.x (.a (.v (.slice g.ids.A g.ids.l.length g.ids.c)))),(70,.x (.a (.o 3)))],[.abs (Aa [⟨.slice A1 ab.length cap1,ab.length,ab.map (Value.int .i64)⟩]),.blk 38 (.c [.v (.int .i64 c.dim),.v (.slice c.ps.A c.ps.l.length c.ps.c),.v (.slice c.gs.A c.gs.l.length c.gs.c),.v (.int .i64 c.least),.v (.int .i64 c.term)]),.blk 96 (.c [.v (.int .i64 g.place),.v (.slice g.ids.A g.ids.l.length g.ids.c),.v (.int .i64 g.need)]),.mp .i64 []]⟩
 |3=>⟨[(52,.x (.a (.v (.int .i64 p)))),(53,.x (.a (.v (.int .i64 gen)))),(55,.x (.a (.v (.int .i64 c.dim)))),(57,.x (.a (.v (.int .i64 c.term)))),(59,.x (.a (.v (.int .i64 g.need)))),(65,.x (.a (.v (.int .i64 par)))),(66,.x (.a (.v (.slice A1 ab.length cap1)))),(68,.x (.a (.v (.slice g.ids.A g.ids.l.length g.ids.c)))),(71,.x (.a (.o 3)))],[.abs (Aa [⟨.slice A1 ab.length cap1,ab.length,ab.map (Value.int .i64)⟩]),.blk 38 (.c [.v (.int .i64 c.dim),.v (.slice c.ps.A c.ps.l.length c.ps.c),.v (.slice c.gs.A c.gs.l.length c.gs.c),.v (.int .i64 c.least),.v (.int .i64 c.term)]),.blk 96 (.c [.v (.int .i64 g.place),.v (.slice g.ids.A g.ids.l.length g.ids.c),.v (.int .i64 g.need)]),.mp .i64 []]⟩
 |4=>⟨[(52,.x (.a (.v (.int .i64 p)))),(53,.x (.a (.v (.int .i64 gen)))),(55,.x (.a (.v (.int .i64 c.dim)))),(57,.x (.a (.v (.int .i64 c.term)))),(59,.x (.a (.v (.int .i64 g.need)))),(65,.x (.a (.v (.int .i64 par)))),(66,.x (.a (.v (.slice A1 ab.length cap1)))),(68,.x (.a (.v (.slice g.ids.A g.ids.l.length g.ids.c)))),(72,.x (.a (.o 3)))],[.abs (Aa [⟨.slice A1 ab.length cap1,ab.length,ab.map (Value.int .i64)⟩]),.blk 38 (.c [.v (.int .i64 c.dim),.v (.slice c.ps.A c.ps.l.length c.ps.c),.v (.slice c.gs.A c.gs.l.length c.gs.c),.v (.int .i64 c.least),.v (.int .i64 c.term)]),.blk 96 (.c [.v (.int .i64 g.place),.v (.slice g.ids.A g.ids.l.length g.ids.c),.v (.int .i64 g.need)]),.mp .i64 []]⟩
 |5=>⟨[(52,.x (.a (.v (.int .i64 p)))),(53,.x (.a (.v (.int .i64 gen)))),(55,.x (.a (.v (.int .i64 c.dim)))),(57,.x (.a (.v (.int .i64 c.term)))),(59,.x (.a (.v (.int .i64 g.need)))),(65,.x (.a (.v (.int .i64 par)))),(66,.x (.a (.v (.slice A1 ab.length cap1)))),(68,.x (.a (.v (.slice g.ids.A g.ids.l.length g.ids.c)))),(69,.x (.a (.o 3))),(70,.x (.a (.o 4)))],[.abs (Aa [⟨.slice A1 ab.length cap1,ab.length,ab.map (Value.int .i64)⟩]),.blk 38 (.c [.v (.int .i64 c.dim),.v (.slice c.ps.A c.ps.l.length c.ps.c),.v (.slice c.gs.A c.gs.l.length c.gs.c),.v (.int .i64 c.least),.v (.int .i64 c.term)]),.blk 96 (.c [.v (.int .i64 g.place),.v (.slice g.ids.A g.ids.l.length g.ids.c),.v (.int .i64 g.need)]),.own 3 (.i64 g.ids.l),.mp .i64 []]⟩
 |6=>⟨[(52,.x (.a (.v (.int .i64 p)))),(53,.x (.a (.v (.int .i64 gen)))),(55,.x (.a (.v (.int .i64 c.dim)))),(57,.x (.a (.v (.int .i64 c.term)))),(59,.x (.a (.v (.int .i64 g.need)))),(65,.x (.a (.v (.int .i64 par)))),(66,.x (.a (.v (.slice A1 ab.length cap1)))),(68,.x (.a (.v (.slice g.ids.A g.ids.l.length g.ids.c)))),(69,.x (.a (.o 3))),(71,.x (.a (.o 4)))],[.abs (Aa [⟨.slice A1 ab.length cap1,ab.length,ab.map (Value.int .i64)⟩]),.blk 38 (.c [.v (.int .i64 c.dim),.v (.slice c.ps.A c.ps.l.length c.ps.c),.v (.slice c.gs.A c.gs.l.length c.gs.c),.v (.int .i64 c.least),.v (.int .i64 c.term)]),.blk 96 (.c [.v (.int .i64 g.place),.v (.slice g.ids.A g.ids.l.length g.ids.c),.v (.int .i64 g.need)]),.own 3 (.i64 g.ids.l),.mp .i64 []]⟩
 |7=>⟨[(52,.x (.a (.v (.int .i64 p)))),(53,.x (.a (.v (.int .i64 gen)))),(55,.x (.a (.v (.int .i64 c.dim)))),(57,.x (.a (.v (.int .i64 c.term)))),(59,.x (.a (.v (.int .i64 g.need)))),(65,.x (.a (.v (.int .i64 par)))),(66,.x (.a (.v (.slice A1 ab.length cap1)))),(68,.x (.a (.v (.slice g.ids.A g.ids.l.length g.ids.c)))),(69,.x (.a (.o 3))),(72,.x (.a (.o 4)))],[.abs (Aa [⟨.slice A1 ab.length cap1,ab.length,ab.map (Value.int .i64)⟩]),.blk 38 (.c [.v (.int .i64 c.dim),.v (.slice c.ps.A c.ps.l.length c.ps.c),.v (.slice c.gs.A c.gs.l.length c.gs.c),.v (.int .i64 c.least),.v (.int .i64 c.term)]),.blk 96 (.c [.v (.int .i64 g.place),.v (.slice g.ids.A g.ids.l.length g.ids.c),.v (.int .i64 g.need)]),.own 3 (.i64 g.ids.l),.mp .i64 []]⟩
 |8=>⟨[(52,.x (.a (.v (.int .i64 p)))),(53,.x (.a (.v (.int .i64 gen)))),(55,.x (.a (.v (.int .i64 c.dim)))),(57,.x (.a (.v (.int .i64 c.term)))),(59,.x (.a (.v (.int .i64 g.need)))),(65,.x (.a (.v (.int .i64 par)))),(66,.x (.a (.v (.slice A1 ab.length cap1)))),(68,.x (.a (.v (.slice g.ids.A g.ids.l.length g.ids.c)))),(70,.x (.a (.o 3))),(71,.x (.a (.o 4)))],[.abs (Aa [⟨.slice A1 ab.length cap1,ab.length,ab.map (Value.int .i64)⟩]),.blk 38 (.c [.v (.int .i64 c.dim),.v (.slice c.ps.A c.ps.l.length c.ps.c),.v (.slice c.gs.A c.gs.l.length c.gs.c),.v (.int .i64 c.least),.v (.int .i64 c.term)]),.blk 96 (.c [.v (.int .i64 g.place),.v (.slice g.ids.A g.ids.l.length g.ids.c),.v (.int .i64 g.need)]),.mp .i64 [],.mp .i64 []]⟩
 |9=>⟨[(52,.x (.a (.v (.int .i64 p)))),(53,.x (.a (.v (.int .i64 gen)))),(55,.x (.a (.v (.int .i64 c.dim)))),(57,.x (.a (.v (.int .i64 c.term)))),(59,.x (.a (.v (.int .i64 g.need)))),(65,.x (.a (.v (.int .i64 par)))),(66,.x (.a (.v (.slice A1 ab.length cap1)))),(68,.x (.a (.v (.slice g.ids.A g.ids.l.length g.ids.c)))),(70,.x (.a (.o 3))),(72,.x (.a (.o 4)))],[.abs (Aa [⟨.slice A1 ab.length cap1,ab.length,ab.map (Value.int .i64)⟩]),.blk 38 (.c [.v (.int .i64 c.dim),.v (.slice c.ps.A c.ps.l.length c.ps.c),.v (.slice c.gs.A c.gs.l.length c.gs.c),.v (.int .i64 c.least),.v (.int .i64 c.term)]),.blk 96 (.c [.v (.int .i64 g.place),.v (.slice g.ids.A g.ids.l.length g.ids.c),.v (.int .i64 g.need)]),.mp .i64 [],.mp .i64 []]⟩
 |10=>⟨[(52,.x (.a (.v (.int .i64 p)))),(53,.x (.a (.v (.int .i64 gen)))),(55,.x (.a (.v (.int .i64 c.dim)))),(57,.x (.a (.v (.int .i64 c.term)))),(59,.x (.a (.v (.int .i64 g.need)))),(65,.x (.a (.v (.int .i64 par)))),(66,.x (.a (.v (.slice A1 ab.length cap1)))),(68,.x (.a (.v (.slice g.ids.A g.ids.l.length g.ids.c)))),(71,.x (.a (.o 3))),(72,.x (.a (.o 4)))],[.abs (Aa [⟨.slice A1 ab.length cap1,ab.length,ab.map (Value.int .i64)⟩]),.blk 38 (.c [.v (.int .i64 c.dim),.v (.slice c.ps.A c.ps.l.length c.ps.c),.v (.slice c.gs.A c.gs.l.length c.gs.c),.v (.int .i64 c.least),.v (.int .i64 c.term)]),.blk 96 (.c [.v (.int .i64 g.place),.v (.slice g.ids.A g.ids.l.length g.ids.c),.v (.int .i64 g.need)]),.mp .i64 [],.mp .i64 []]⟩
 |11=>⟨[(52,.x (.a (.v (.int .i64 p)))),(53,.x (.a (.v (.int .i64 gen)))),(55,.x (.a (.v (.int .i64 c.dim)))),(57,.x (.a (.v (.int .i64 c.term)))),(59,.x (.a (.v (.int .i64 g.need)))),(65,.x (.a (.v (.int .i64 par)))),(66,.x (.a (.v (.slice A1 ab.length cap1)))),(68,.x (.a (.v (.slice g.ids.A g.ids.l.length g.ids.c)))),(69,.x (.a (.o 3))),(70,.x (.a (.o 4))),(71,.x (.a (.o 5)))],[.abs (Aa [⟨.slice A1 ab.length cap1,ab.length,ab.map (Value.int .i64)⟩]),.blk 38 (.c [.v (.int .i64 c.dim),.v (.slice c.ps.A c.ps.l.length c.ps.c),.v (.slice c.gs.A c.gs.l.length c.gs.c),.v (.int .i64 c.least),.v (.int .i64 c.term)]),.blk 96 (.c [.v (.int .i64 g.place),.v (.slice g.ids.A g.ids.l.length g.ids.c),.v (.int .i64 g.need)]),.own 3 (.i64 g.ids.l),.mp .i64 [],.mp .i64 []]⟩
 |12=>⟨[(52,.x (.a (.v (.int .i64 p)))),(53,.x (.a (.v (.int .i64 gen)))),(55,.x (.a (.v (.int .i64 c.dim)))),(57,.x (.a (.v (.int .i64 c.term)))),(59,.x (.a (.v (.int .i64 g.need)))),(65,.x (.a (.v (.int .i64 par)))),(66,.x (.a (.v (.slice A1 ab.length cap1)))),(68,.x (.a (.v (.slice g.ids.A g.ids.l.length g.ids.c)))),(69,.x (.a (.o 3))),(70,.x (.a (.o 4))),(72,.x (.a (.o 5)))],[.abs (Aa [⟨.slice A1 ab.length cap1,ab.length,ab.map (Value.int .i64)⟩]),.blk 38 (.c [.v (.int .i64 c.dim),.v (.slice c.ps.A c.ps.l.length c.ps.c),.v (.slice c.gs.A c.gs.l.length c.gs.c),.v (.int .i64 c.least),.v (.int .i64 c.term)]),.blk 96 (.c [.v (.int .i64 g.place),.v (.slice g.ids.A g.ids.l.length g.ids.c),.v (.int .i64 g.need)]),.own 3 (.i64 g.ids.l),.mp .i64 [],.mp .i64 []]⟩
 |13=>⟨[(52,.x (.a (.v (.int .i64 p)))),(53,.x (.a (.v (.int .i64 gen)))),(55,.x (.a (.v (.int .i64 c.dim)))),(57,.x (.a (.v (.int .i64 c.term)))),(59,.x (.a (.v (.int .i64 g.need)))),(65,.x (.a (.v (.int .i64 par)))),(66,.x (.a (.v (.slice A1 ab.length cap1)))),(68,.x (.a (.v (.slice g.ids.A g.ids.l.length g.ids.c)))),(69,.x (.a (.o 3))),(71,.x (.a (.o 4))),(72,.x (.a (.o 5)))],[.abs (Aa [⟨.slice A1 ab.length cap1,ab.length,ab.map (Value.int .i64)⟩]),.blk 38 (.c [.v (.int .i64 c.dim),.v (.slice c.ps.A c.ps.l.length c.ps.c),.v (.slice c.gs.A c.gs.l.length c.gs.c),.v (.int .i64 c.least),.v (.int .i64 c.term)]),.blk 96 (.c [.v (.int .i64 g.place),.v (.slice g.ids.A g.ids.l.length g.ids.c),.v (.int .i64 g.need)]),.own 3 (.i64 g.ids.l),.mp .i64 [],.mp .i64 []]⟩
 |14=>⟨[(52,.x (.a (.v (.int .i64 p)))),(53,.x (.a (.v (.int .i64 gen)))),(55,.x (.a (.v (.int .i64 c.dim)))),(57,.x (.a (.v (.int .i64 c.term)))),(59,.x (.a (.v (.int .i64 g.need)))),(65,.x (.a (.v (.int .i64 par)))),(66,.x (.a (.v (.slice A1 ab.length cap1)))),(68,.x (.a (.v (.slice g.ids.A g.ids.l.length g.ids.c)))),(70,.x (.a (.o 3))),(71,.x (.a (.o 4))),(72,.x (.a (.o 5)))],[.abs (Aa [⟨.slice A1 ab.length cap1,ab.length,ab.map (Value.int .i64)⟩]),.blk 38 (.c [.v (.int .i64 c.dim),.v (.slice c.ps.A c.ps.l.length c.ps.c),.v (.slice c.gs.A c.gs.l.length c.gs.c),.v (.int .i64 c.least),.v (.int .i64 c.term)]),.blk 96 (.c [.v (.int .i64 g.place),.v (.slice g.ids.A g.ids.l.length g.ids.c),.v (.int .i64 g.need)]),.mp .i64 [],.mp .i64 [],.mp .i64 []]⟩
 |15=>⟨[(52,.x (.a (.v (.int .i64 p)))),(53,.x (.a (.v (.int .i64 gen)))),(55,.x (.a (.v (.int .i64 c.dim)))),(57,.x (.a (.v (.int .i64 c.term)))),(59,.x (.a (.v (.int .i64 g.need)))),(65,.x (.a (.v (.int .i64 par)))),(66,.x (.a (.v (.slice A1 ab.length cap1)))),(68,.x (.a (.v (.slice g.ids.A g.ids.l.length g.ids.c)))),(69,.x (.a (.o 3))),(70,.x (.a (.o 4))),(71,.x (.a (.o 5))),(72,.x (.a (.o 6)))],[.abs (Aa [⟨.slice A1 ab.length cap1,ab.length,ab.map (Value.int .i64)⟩]),.blk 38 (.c [.v (.int .i64 c.dim),.v (.slice c.ps.A c.ps.l.length c.ps.c),.v (.slice c.gs.A c.gs.l.length c.gs.c),.v (.int .i64 c.least),.v (.int .i64 c.term)]),.blk 96 (.c [.v (.int .i64 g.place),.v (.slice g.ids.A g.ids.l.length g.ids.c),.v (.int .i64 g.need)]),.own 3 (.i64 g.ids.l),.mp .i64 [],.mp .i64 [],.mp .i64 []]⟩
 |_=>⟨[],[]⟩
def nwD:Dag:=[([true,true,true,true,true,true,true,true,true,true,true,true,true,true,true,true,true,false,false,false,false,false,false,false],[(17,1),(18,2),(19,3),(20,4)]),
 ([true,true,true,true,true,true,true,true,true,true,true,true,true,true,true,true,true,true,false,false,false,false,false,false],[(18,5),(19,6),(20,7)]),
 ([true,true,true,true,true,true,true,true,true,true,true,true,true,true,true,true,true,false,true,false,false,false,false,false],[(17,5),(19,8),(20,9)]),
 ([true,true,true,true,true,true,true,true,true,true,true,true,true,true,true,true,true,false,false,true,false,false,false,false],[(17,6),(18,8),(20,10)]),
 ([true,true,true,true,true,true,true,true,true,true,true,true,true,true,true,true,true,false,false,false,true,false,false,false],[(17,7),(18,9),(19,10)]),
 ([true,true,true,true,true,true,true,true,true,true,true,true,true,true,true,true,true,true,true,false,false,false,false,false],[(19,11),(20,12)]),
 ([true,true,true,true,true,true,true,true,true,true,true,true,true,true,true,true,true,true,false,true,false,false,false,false],[(18,11),(20,13)]),
 ([true,true,true,true,true,true,true,true,true,true,true,true,true,true,true,true,true,true,false,false,true,false,false,false],[(18,12),(19,13)]),
 ([true,true,true,true,true,true,true,true,true,true,true,true,true,true,true,true,true,false,true,true,false,false,false,false],[(17,11),(20,14)]),
 ([true,true,true,true,true,true,true,true,true,true,true,true,true,true,true,true,true,false,true,false,true,false,false,false],[(17,12),(19,14)]),
 ([true,true,true,true,true,true,true,true,true,true,true,true,true,true,true,true,true,false,false,true,true,false,false,false],[(17,13),(18,14)]),
 ([true,true,true,true,true,true,true,true,true,true,true,true,true,true,true,true,true,true,true,true,false,false,false,false],[(20,15)]),
 ([true,true,true,true,true,true,true,true,true,true,true,true,true,true,true,true,true,true,true,false,true,false,false,false],[(19,15)]),
 ([true,true,true,true,true,true,true,true,true,true,true,true,true,true,true,true,true,true,false,true,true,false,false,false],[(18,15)]),
 ([true,true,true,true,true,true,true,true,true,true,true,true,true,true,true,true,true,false,true,true,true,false,false,false],[(17,15)]),
 ([true,true,true,true,true,true,true,true,true,true,true,true,true,true,true,true,true,true,true,true,true,false,false,false],[])]
theorem Mc (c:CfR) (g:GrR) (p gen par:Int) (A1:Option Addr) (ab:List Int) (cap1:Nat):nwF c g p gen par A1 ab cap1 0=⟨[(52,.x (.a (.v (.int .i64 p)))),(53,.x (.a (.v (.int .i64 gen)))),(55,.x (.a (.v (.int .i64 c.dim)))),(57,.x (.a (.v (.int .i64 c.term)))),(59,.x (.a (.v (.int .i64 g.need)))),(65,.x (.a (.v (.int .i64 par)))),(66,.x (.a (.v (.slice A1 ab.length cap1)))),(68,.x (.a (.v (.slice g.ids.A g.ids.l.length g.ids.c))))],[.abs (Aa [⟨.slice A1 ab.length cap1,ab.length,ab.map (Value.int .i64)⟩]),.blk 38 (.c [.v (.int .i64 c.dim),.v (.slice c.ps.A c.ps.l.length c.ps.c),.v (.slice c.gs.A c.gs.l.length c.gs.c),.v (.int .i64 c.least),.v (.int .i64 c.term)]),.blk 96 (.c [.v (.int .i64 g.place),.v (.slice g.ids.A g.ids.l.length g.ids.c),.v (.int .i64 g.need)])]⟩:=rfl
theorem N5 (c:CfR) (g:GrR) (p gen par:Int) (A1:Option Addr) (ab:List Int) (cap1:Nat):nwF c g p gen par A1 ab cap1 1=⟨[(52,.x (.a (.v (.int .i64 p)))),(53,.x (.a (.v (.int .i64 gen)))),(55,.x (.a (.v (.int .i64 c.dim)))),(57,.x (.a (.v (.int .i64 c.term)))),(59,.x (.a (.v (.int .i64 g.need)))),(65,.x (.a (.v (.int .i64 par)))),(66,.x (.a (.v (.slice A1 ab.length cap1)))),(68,.x (.a (.v (.slice g.ids.A g.ids.l.length g.ids.c)))),(69,.x (.a (.o 3)))],[.abs (Aa [⟨.slice A1 ab.length cap1,ab.length,ab.map (Value.int .i64)⟩]),.blk 38 (.c [.v (.int .i64 c.dim),.v (.slice c.ps.A c.ps.l.length c.ps.c),.v (.slice c.gs.A c.gs.l.length c.gs.c),.v (.int .i64 c.least),.v (.int .i64 c.term)]),.blk 96 (.c [.v (.int .i64 g.place),.v (.slice g.ids.A g.ids.l.length g.ids.c),.v (.int .i64 g.need)]),.own 3 (.i64 g.ids.l)]⟩:=rfl
theorem N6 (c:CfR) (g:GrR) (p gen par:Int) (A1:Option Addr) (ab:List Int) (cap1:Nat):nwF c g p gen par A1 ab cap1 2=⟨[(52,.x (.a (.v (.int .i64 p)))),(53,.x (.a (.v (.int .i64 gen)))),(55,.x (.a (.v (.int .i64 c.dim)))),(57,.x (.a (.v (.int .i64 c.term)))),(59,.x (.a (.v (.int .i64 g.need)))),(65,.x (.a (.v (.int .i64 par)))),(66,.x (.a (.v (.slice A1 ab.length cap1)))),(68,.x (.a (.v (.slice g.ids.A g.ids.l.length g.ids.c)))),(70,.x (.a (.o 3)))],[.abs (Aa [⟨.slice A1 ab.length cap1,ab.length,ab.map (Value.int .i64)⟩]),.blk 38 (.c [.v (.int .i64 c.dim),.v (.slice c.ps.A c.ps.l.length c.ps.c),.v (.slice c.gs.A c.gs.l.length c.gs.c),.v (.int .i64 c.least),.v (.int .i64 c.term)]),.blk 96 (.c [.v (.int .i64 g.place),.v (.slice g.ids.A g.ids.l.length g.ids.c),.v (.int .i64 g.need)]),.mp .i64 []]⟩:=rfl
theorem N7 (c:CfR) (g:GrR) (p gen par:Int) (A1:Option Addr) (ab:List Int) (cap1:Nat):nwF c g p gen par A1 ab cap1 3=⟨[(52,.x (.a (.v (.int .i64 p)))),(53,.x (.a (.v (.int .i64 gen)))),(55,.x (.a (.v (.int .i64 c.dim)))),(57,.x (.a (.v (.int .i64 c.term)))),(59,.x (.a (.v (.int .i64 g.need)))),(65,.x (.a (.v (.int .i64 par)))),(66,.x (.a (.v (.slice A1 ab.length cap1)))),(68,.x (.a (.v (.slice g.ids.A g.ids.l.length g.ids.c)))),(71,.x (.a (.o 3)))],[.abs (Aa [⟨.slice A1 ab.length cap1,ab.length,ab.map (Value.int .i64)⟩]),.blk 38 (.c [.v (.int .i64 c.dim),.v (.slice c.ps.A c.ps.l.length c.ps.c),.v (.slice c.gs.A c.gs.l.length c.gs.c),.v (.int .i64 c.least),.v (.int .i64 c.term)]),.blk 96 (.c [.v (.int .i64 g.place),.v (.slice g.ids.A g.ids.l.length g.ids.c),.v (.int .i64 g.need)]),.mp .i64 []]⟩:=rfl
theorem N8 (c:CfR) (g:GrR) (p gen par:Int) (A1:Option Addr) (ab:List Int) (cap1:Nat):nwF c g p gen par A1 ab cap1 4=⟨[(52,.x (.a (.v (.int .i64 p)))),(53,.x (.a (.v (.int .i64 gen)))),(55,.x (.a (.v (.int .i64 c.dim)))),(57,.x (.a (.v (.int .i64 c.term)))),(59,.x (.a (.v (.int .i64 g.need)))),(65,.x (.a (.v (.int .i64 par)))),(66,.x (.a (.v (.slice A1 ab.length cap1)))),(68,.x (.a (.v (.slice g.ids.A g.ids.l.length g.ids.c)))),(72,.x (.a (.o 3)))],[.abs (Aa [⟨.slice A1 ab.length cap1,ab.length,ab.map (Value.int .i64)⟩]),.blk 38 (.c [.v (.int .i64 c.dim),.v (.slice c.ps.A c.ps.l.length c.ps.c),.v (.slice c.gs.A c.gs.l.length c.gs.c),.v (.int .i64 c.least),.v (.int .i64 c.term)]),.blk 96 (.c [.v (.int .i64 g.place),.v (.slice g.ids.A g.ids.l.length g.ids.c),.v (.int .i64 g.need)]),.mp .i64 []]⟩:=rfl
theorem N9 (c:CfR) (g:GrR) (p gen par:Int) (A1:Option Addr) (ab:List Int) (cap1:Nat):nwF c g p gen par A1 ab cap1 5=⟨[(52,.x (.a (.v (.int .i64 p)))),(53,.x (.a (.v (.int .i64 gen)))),(55,.x (.a (.v (.int .i64 c.dim)))),(57,.x (.a (.v (.int .i64 c.term)))),(59,.x (.a (.v (.int .i64 g.need)))),(65,.x (.a (.v (.int .i64 par)))),(66,.x (.a (.v (.slice A1 ab.length cap1)))),(68,.x (.a (.v (.slice g.ids.A g.ids.l.length g.ids.c)))),(69,.x (.a (.o 3))),(70,.x (.a (.o 4)))],[.abs (Aa [⟨.slice A1 ab.length cap1,ab.length,ab.map (Value.int .i64)⟩]),.blk 38 (.c [.v (.int .i64 c.dim),.v (.slice c.ps.A c.ps.l.length c.ps.c),.v (.slice c.gs.A c.gs.l.length c.gs.c),.v (.int .i64 c.least),.v (.int .i64 c.term)]),.blk 96 (.c [.v (.int .i64 g.place),.v (.slice g.ids.A g.ids.l.length g.ids.c),.v (.int .i64 g.need)]),.own 3 (.i64 g.ids.l),.mp .i64 []]⟩:=rfl
theorem Oa (c:CfR) (g:GrR) (p gen par:Int) (A1:Option Addr) (ab:List Int) (cap1:Nat):nwF c g p gen par A1 ab cap1 6=⟨[(52,.x (.a (.v (.int .i64 p)))),(53,.x (.a (.v (.int .i64 gen)))),(55,.x (.a (.v (.int .i64 c.dim)))),(57,.x (.a (.v (.int .i64 c.term)))),(59,.x (.a (.v (.int .i64 g.need)))),(65,.x (.a (.v (.int .i64 par)))),(66,.x (.a (.v (.slice A1 ab.length cap1)))),(68,.x (.a (.v (.slice g.ids.A g.ids.l.length g.ids.c)))),(69,.x (.a (.o 3))),(71,.x (.a (.o 4)))],[.abs (Aa [⟨.slice A1 ab.length cap1,ab.length,ab.map (Value.int .i64)⟩]),.blk 38 (.c [.v (.int .i64 c.dim),.v (.slice c.ps.A c.ps.l.length c.ps.c),.v (.slice c.gs.A c.gs.l.length c.gs.c),.v (.int .i64 c.least),.v (.int .i64 c.term)]),.blk 96 (.c [.v (.int .i64 g.place),.v (.slice g.ids.A g.ids.l.length g.ids.c),.v (.int .i64 g.need)]),.own 3 (.i64 g.ids.l),.mp .i64 []]⟩:=rfl
theorem Ob (c:CfR) (g:GrR) (p gen par:Int) (A1:Option Addr) (ab:List Int) (cap1:Nat):nwF c g p gen par A1 ab cap1 7=⟨[(52,.x (.a (.v (.int .i64 p)))),(53,.x (.a (.v (.int .i64 gen)))),(55,.x (.a (.v (.int .i64 c.dim)))),(57,.x (.a (.v (.int .i64 c.term)))),(59,.x (.a (.v (.int .i64 g.need)))),(65,.x (.a (.v (.int .i64 par)))),(66,.x (.a (.v (.slice A1 ab.length cap1)))),(68,.x (.a (.v (.slice g.ids.A g.ids.l.length g.ids.c)))),(69,.x (.a (.o 3))),(72,.x (.a (.o 4)))],[.abs (Aa [⟨.slice A1 ab.length cap1,ab.length,ab.map (Value.int .i64)⟩]),.blk 38 (.c [.v (.int .i64 c.dim),.v (.slice c.ps.A c.ps.l.length c.ps.c),.v (.slice c.gs.A c.gs.l.length c.gs.c),.v (.int .i64 c.least),.v (.int .i64 c.term)]),.blk 96 (.c [.v (.int .i64 g.place),.v (.slice g.ids.A g.ids.l.length g.ids.c),.v (.int .i64 g.need)]),.own 3 (.i64 g.ids.l),.mp .i64 []]⟩:=rfl
theorem Oc (c:CfR) (g:GrR) (p gen par:Int) (A1:Option Addr) (ab:List Int) (cap1:Nat):nwF c g p gen par A1 ab cap1 8=⟨[(52,.x (.a (.v (.int .i64 p)))),(53,.x (.a (.v (.int .i64 gen)))),(55,.x (.a (.v (.int .i64 c.dim)))),(57,.x (.a (.v (.int .i64 c.term)))),(59,.x (.a (.v (.int .i64 g.need)))),(65,.x (.a (.v (.int .i64 par)))),(66,.x (.a (.v (.slice A1 ab.length cap1)))),(68,.x (.a (.v (.slice g.ids.A g.ids.l.length g.ids.c)))),(70,.x (.a (.o 3))),(71,.x (.a (.o 4)))],[.abs (Aa [⟨.slice A1 ab.length cap1,ab.length,ab.map (Value.int .i64)⟩]),.blk 38 (.c [.v (.int .i64 c.dim),.v (.slice c.ps.A c.ps.l.length c.ps.c),.v (.slice c.gs.A c.gs.l.length c.gs.c),.v (.int .i64 c.least),.v (.int .i64 c.term)]),.blk 96 (.c [.v (.int .i64 g.place),.v (.slice g.ids.A g.ids.l.length g.ids.c),.v (.int .i64 g.need)]),.mp .i64 [],.mp .i64 []]⟩:=rfl
theorem Od (c:CfR) (g:GrR) (p gen par:Int) (A1:Option Addr) (ab:List Int) (cap1:Nat):nwF c g p gen par A1 ab cap1 9=⟨[(52,.x (.a (.v (.int .i64 p)))),(53,.x (.a (.v (.int .i64 gen)))),(55,.x (.a (.v (.int .i64 c.dim)))),(57,.x (.a (.v (.int .i64 c.term)))),(59,.x (.a (.v (.int .i64 g.need)))),(65,.x (.a (.v (.int .i64 par)))),(66,.x (.a (.v (.slice A1 ab.length cap1)))),(68,.x (.a (.v (.slice g.ids.A g.ids.l.length g.ids.c)))),(70,.x (.a (.o 3))),(72,.x (.a (.o 4)))],[.abs (Aa [⟨.slice A1 ab.length cap1,ab.length,ab.map (Value.int .i64)⟩]),.blk 38 (.c [.v (.int .i64 c.dim),.v (.slice c.ps.A c.ps.l.length c.ps.c),.v (.slice c.gs.A c.gs.l.length c.gs.c),.v (.int .i64 c.least),.v (.int .i64 c.term)]),.blk 96 (.c [.v (.int .i64 g.place),.v (.slice g.ids.A g.ids.l.length g.ids.c),.v (.int .i64 g.need)]),.mp .i64 [],.mp .i64 []]⟩:=rfl
theorem Oe (c:CfR) (g:GrR) (p gen par:Int) (A1:Option Addr) (ab:List Int) (cap1:Nat):nwF c g p gen par A1 ab cap1 10=⟨[(52,.x (.a (.v (.int .i64 p)))),(53,.x (.a (.v (.int .i64 gen)))),(55,.x (.a (.v (.int .i64 c.dim)))),(57,.x (.a (.v (.int .i64 c.term)))),(59,.x (.a (.v (.int .i64 g.need)))),(65,.x (.a (.v (.int .i64 par)))),(66,.x (.a (.v (.slice A1 ab.length cap1)))),(68,.x (.a (.v (.slice g.ids.A g.ids.l.length g.ids.c)))),(71,.x (.a (.o 3))),(72,.x (.a (.o 4)))],[.abs (Aa [⟨.slice A1 ab.length cap1,ab.length,ab.map (Value.int .i64)⟩]),.blk 38 (.c [.v (.int .i64 c.dim),.v (.slice c.ps.A c.ps.l.length c.ps.c),.v (.slice c.gs.A c.gs.l.length c.gs.c),.v (.int .i64 c.least),.v (.int .i64 c.term)]),.blk 96 (.c [.v (.int .i64 g.place),.v (.slice g.ids.A g.ids.l.length g.ids.c),.v (.int .i64 g.need)]),.mp .i64 [],.mp .i64 []]⟩:=rfl
theorem Og (c:CfR) (g:GrR) (p gen par:Int) (A1:Option Addr) (ab:List Int) (cap1:Nat):nwF c g p gen par A1 ab cap1 11=⟨[(52,.x (.a (.v (.int .i64 p)))),(53,.x (.a (.v (.int .i64 gen)))),(55,.x (.a (.v (.int .i64 c.dim)))),(57,.x (.a (.v (.int .i64 c.term)))),(59,.x (.a (.v (.int .i64 g.need)))),(65,.x (.a (.v (.int .i64 par)))),(66,.x (.a (.v (.slice A1 ab.length cap1)))),(68,.x (.a (.v (.slice g.ids.A g.ids.l.length g.ids.c)))),(69,.x (.a (.o 3))),(70,.x (.a (.o 4))),(71,.x (.a (.o 5)))],[.abs (Aa [⟨.slice A1 ab.length cap1,ab.length,ab.map (Value.int .i64)⟩]),.blk 38 (.c [.v (.int .i64 c.dim),.v (.slice c.ps.A c.ps.l.length c.ps.c),.v (.slice c.gs.A c.gs.l.length c.gs.c),.v (.int .i64 c.least),.v (.int .i64 c.term)]),.blk 96 (.c [.v (.int .i64 g.place),.v (.slice g.ids.A g.ids.l.length g.ids.c),.v (.int .i64 g.need)]),.own 3 (.i64 g.ids.l),.mp .i64 [],.mp .i64 []]⟩:=rfl
theorem Oh (c:CfR) (g:GrR) (p gen par:Int) (A1:Option Addr) (ab:List Int) (cap1:Nat):nwF c g p gen par A1 ab cap1 12=⟨[(52,.x (.a (.v (.int .i64 p)))),(53,.x (.a (.v (.int .i64 gen)))),(55,.x (.a (.v (.int .i64 c.dim)))),(57,.x (.a (.v (.int .i64 c.term)))),(59,.x (.a (.v (.int .i64 g.need)))),(65,.x (.a (.v (.int .i64 par)))),(66,.x (.a (.v (.slice A1 ab.length cap1)))),(68,.x (.a (.v (.slice g.ids.A g.ids.l.length g.ids.c)))),(69,.x (.a (.o 3))),(70,.x (.a (.o 4))),(72,.x (.a (.o 5)))],[.abs (Aa [⟨.slice A1 ab.length cap1,ab.length,ab.map (Value.int .i64)⟩]),.blk 38 (.c [.v (.int .i64 c.dim),.v (.slice c.ps.A c.ps.l.length c.ps.c),.v (.slice c.gs.A c.gs.l.length c.gs.c),.v (.int .i64 c.least),.v (.int .i64 c.term)]),.blk 96 (.c [.v (.int .i64 g.place),.v (.slice g.ids.A g.ids.l.length g.ids.c),.v (.int .i64 g.need)]),.own 3 (.i64 g.ids.l),.mp .i64 [],.mp .i64 []]⟩:=rfl
theorem Oi (c:CfR) (g:GrR) (p gen par:Int) (A1:Option Addr) (ab:List Int) (cap1:Nat):nwF c g p gen par A1 ab cap1 13=⟨[(52,.x (.a (.v (.int .i64 p)))),(53,.x (.a (.v (.int .i64 gen)))),(55,.x (.a (.v (.int .i64 c.dim)))),(57,.x (.a (.v (.int .i64 c.term)))),(59,.x (.a (.v (.int .i64 g.need)))),(65,.x (.a (.v (.int .i64 par)))),(66,.x (.a (.v (.slice A1 ab.length cap1)))),(68,.x (.a (.v (.slice g.ids.A g.ids.l.length g.ids.c)))),(69,.x (.a (.o 3))),(71,.x (.a (.o 4))),(72,.x (.a (.o 5)))],[.abs (Aa [⟨.slice A1 ab.length cap1,ab.length,ab.map (Value.int .i64)⟩]),.blk 38 (.c [.v (.int .i64 c.dim),.v (.slice c.ps.A c.ps.l.length c.ps.c),.v (.slice c.gs.A c.gs.l.length c.gs.c),.v (.int .i64 c.least),.v (.int .i64 c.term)]),.blk 96 (.c [.v (.int .i64 g.place),.v (.slice g.ids.A g.ids.l.length g.ids.c),.v (.int .i64 g.need)]),.own 3 (.i64 g.ids.l),.mp .i64 [],.mp .i64 []]⟩:=rfl
theorem Oj (c:CfR) (g:GrR) (p gen par:Int) (A1:Option Addr) (ab:List Int) (cap1:Nat):nwF c g p gen par A1 ab cap1 14=⟨[(52,.x (.a (.v (.int .i64 p)))),(53,.x (.a (.v (.int .i64 gen)))),(55,.x (.a (.v (.int .i64 c.dim)))),(57,.x (.a (.v (.int .i64 c.term)))),(59,.x (.a (.v (.int .i64 g.need)))),(65,.x (.a (.v (.int .i64 par)))),(66,.x (.a (.v (.slice A1 ab.length cap1)))),(68,.x (.a (.v (.slice g.ids.A g.ids.l.length g.ids.c)))),(70,.x (.a (.o 3))),(71,.x (.a (.o 4))),(72,.x (.a (.o 5)))],[.abs (Aa [⟨.slice A1 ab.length cap1,ab.length,ab.map (Value.int .i64)⟩]),.blk 38 (.c [.v (.int .i64 c.dim),.v (.slice c.ps.A c.ps.l.length c.ps.c),.v (.slice c.gs.A c.gs.l.length c.gs.c),.v (.int .i64 c.least),.v (.int .i64 c.term)]),.blk 96 (.c [.v (.int .i64 g.place),.v (.slice g.ids.A g.ids.l.length g.ids.c),.v (.int .i64 g.need)]),.mp .i64 [],.mp .i64 [],.mp .i64 []]⟩:=rfl
theorem Md (c:CfR) (g:GrR) (p gen par:Int) (A1:Option Addr) (ab:List Int) (cap1:Nat):nwF c g p gen par A1 ab cap1 15=⟨[(52,.x (.a (.v (.int .i64 p)))),(53,.x (.a (.v (.int .i64 gen)))),(55,.x (.a (.v (.int .i64 c.dim)))),(57,.x (.a (.v (.int .i64 c.term)))),(59,.x (.a (.v (.int .i64 g.need)))),(65,.x (.a (.v (.int .i64 par)))),(66,.x (.a (.v (.slice A1 ab.length cap1)))),(68,.x (.a (.v (.slice g.ids.A g.ids.l.length g.ids.c)))),(69,.x (.a (.o 3))),(70,.x (.a (.o 4))),(71,.x (.a (.o 5))),(72,.x (.a (.o 6)))],[.abs (Aa [⟨.slice A1 ab.length cap1,ab.length,ab.map (Value.int .i64)⟩]),.blk 38 (.c [.v (.int .i64 c.dim),.v (.slice c.ps.A c.ps.l.length c.ps.c),.v (.slice c.gs.A c.gs.l.length c.gs.c),.v (.int .i64 c.least),.v (.int .i64 c.term)]),.blk 96 (.c [.v (.int .i64 g.place),.v (.slice g.ids.A g.ids.l.length g.ids.c),.v (.int .i64 g.need)]),.own 3 (.i64 g.ids.l),.mp .i64 [],.mp .i64 [],.mp .i64 []]⟩:=rfl
theorem A7w:ZOk Tryz.prog 104 (.c (.v (.int .i64 0):: .v (.int .i64 0):: .v (.int .i64 0):: .v (.int .i64 0):: .v (.int .i64 0):: .v (.int .i64 0):: .v (.slice none 0 0):: .v (.slice none 0 0):: .v (.int .i64 0):: .v (.slice none 0 0):: .v (.pointer none):: .v (.slice none 0 0):: .v (.map none):: .v (.map none):: .v (.map none)::mgA zeroR))=True:=
 eq_true ⟨.agg ([Value.int .i64 0,.int .i64 0,.int .i64 0,.int .i64 0,.int .i64 0,.int .i64 0,.slice none 0 0,.slice none 0 0,.int .i64 0,.slice none 0 0,.pointer none,.slice none 0 0,.map none,.map none,.map none]++mgV zeroR).toArray,by kernel_rfl,fun γ=>by
  show _=(_::_::_::_::_::_::_::_::_::_::_::_::_::_::_::(mgA zeroR).map (At.val γ))
  rw[Kt]
  rfl⟩
def r0L (c:CfR) (g:GrR) (p gen par:Int) (A1:Option Addr) (ab:List Int) (cap1:Nat) (A2:Option Addr) (cap2:Nat):LfR:=
 ⟨p,gen,c.dim,c.term,g.need,par,⟨A1,cap1,ab⟩,⟨A2,cap2,g.ids.l⟩,0,⟨none,0,[]⟩,⟨⟨none,0,[]⟩,⟨none,0,[]⟩,⟨none,0,[]⟩,0,0,0⟩,⟨none,0,[]⟩,[],[],[],zeroR,true⟩
def Me (c:CfS) (p gen:Int) (x:Nat×LfR×List Fct):Prop:=x.2.1.s=LfS.new c (ix c.groups (Cb c p).toNat) p gen (ix c.places p.toNat).parent (ofP c p (abF c.places p.toNat))∧x.2.1.live=true∧LfOk x.2.2 x.2.1
theorem A7x (h:c.Ok w) (p:Int) {hp:List Res} {γ:List Nm} {w':World} {ow:Nat→Prop} (hS:Sat w No γ hp w'):Calls Tryz.prog 51 #[.agg (cfV c).toArray,.int .i64 p] w' fun e w''=>∃(x:Option Addr×Nat) (γ1:List Nm),((ofP c.cf p (abF c.ps.l p.toNat)).length≤x.2∧x.2≤maxLen)∧e=.returned ((Sv.t [.a (.v (.slice x.1 (ofP c.cf p (abF c.ps.l p.toNat)).length x.2)),.a (.v (tcF c.cf p))]).val [])∧Sat w' No γ1 [.abs (Aa [⟨.slice x.1 (ofP c.cf p (abF c.ps.l p.toNat)).length x.2,(ofP c.cf p (abF c.ps.l p.toNat)).length,(ofP c.cf p (abF c.ps.l p.toNat)).map (Value.int .i64)⟩])] w'':=by
 refine (A1l c p w' (h.later hS)).mono fun e w'' ⟨v,he,hO,hB⟩=>?_
 obtain⟨x,γ1,h1,h2,h3⟩:=A7n hO hB
 rw[List.length_map] at h1 h2 h3
 exact⟨x,γ1,h1,by rw[he,h2];rfl,h3⟩
set_option maxRecDepth 100000 in
set_option maxHeartbeats 8000000 in
theorem A7y (p gen:Int) (h:c.Ok w) (hn:Eo c.cf p gen=true) (hb1:c.ps.l.length≤900) (hb2:∀g∈c.gs.l,g.ids.l.length≤1000):
  Calls Tryz.prog 9 (List.map (Sv.val ([]++[.m (.bool true) (fun _=>False)])) [.x (.g [.v (.int .i64 c.dim),.v (.slice c.ps.A c.ps.l.length c.ps.c),.v (.slice c.gs.A c.gs.l.length c.gs.c),.v (.int .i64 c.least),.v (.int .i64 c.term)]),.x (.a (.v (.int .i64 p))),.x (.a (.v (.int .i64 gen)))]).toArray w fun e w'=>∃(x:Nat×LfR×List Fct) (γ1:List Nm),Me c.cf p gen x∧e=.returned ((Sv.t [.a (.p 0 0),.a (.v .nilIface)]).val γ1)∧Sat w No γ1 (lfB x.1 x.2.1++[.abs (Aa x.2.2)]) w':=by
 obtain⟨h1,⟨h2,h3⟩,⟨h4,h5⟩,h6,h7⟩:=Sx hn
 have h8:=Rg h1 h4 h5
 obtain⟨j,hj⟩:∃j:Nat,Cb c.cf p=j:=⟨(Cb c.cf p).toNat,by omega⟩
 obtain⟨pn,hpn⟩:∃q:Nat,p=q:=⟨p.toNat,by omega⟩
 have hjl:j < c.gs.l.length:=by
  have:c.cf.groups.length=c.gs.l.length:=List.length_map ..
  omega
 have hpl:pn < c.ps.l.length:=by
  have:c.cf.places.length=c.ps.l.length:=rfl
  omega
 have F:=FLm.of Jp (by decide) h.grd
 have Fp:=FLm.of Jo (by decide) h.prd
 obtain⟨w1,w2⟩:=F.whole j hjl
 have hA:=F.some_ (by omega)
 have hAp:=Fp.some_ (by omega)
 obtain⟨p0,o0⟩:=Fp.cell pn 0 _ hpl rfl
 rw[Nat.add_zero] at p0 o0
 refine Ci (n:=82) (ι:=Nat×LfR×List Fct) (Me c.cf p gen) (fun _=>.t [.a (.p 0 0),.a (.v .nilIface)]) (fun x=>lfB x.1 x.2.1++[.abs (Aa x.2.2)]) Tryz.func9 rfl Tryz.ntmps9 [.x (.g [.v (.int .i64 c.dim),.v (.slice c.ps.A c.ps.l.length c.ps.c),.v (.slice c.gs.A c.gs.l.length c.gs.c),.v (.int .i64 c.least),.v (.int .i64 c.term)]),.x (.a (.v (.int .i64 p))),.x (.a (.v (.int .i64 gen)))] ((Sat.init w No).fct0 (fun r hr=>by cases hr)) (by simp) ?_
 have g1:¬gen < 1:=by omega
 have g2:¬1073741824 < gen:=by omega
 simp (maxSteps:=10^6) only[push_cast,↓reduceIte,Nat.reduceEqDiff,Nat.reduceLT,Nat.reduceAdd]
 (repeat (refine And.intro (by first|omega|decide) ?_))
 refine Al rfl Uv rfl (Ac8 h) (Ae rfl) ?_
 rw[h1,Do]
 simp (maxSteps:=10^6) only[g1,g2,push_cast,↓reduceIte,reduceCtorEq,Nat.reduceEqDiff,Nat.reduceLT,Nat.reduceAdd]
 (repeat (refine And.intro (by first|omega|decide) ?_))
 refine Al rfl Zl rfl (Ac9 h p) (Ae rfl) ?_
 rw[h8.1,hj]
 have j0:¬(j:Int) < 0:=by omega
 simp (maxSteps:=10^6) only[j0,push_cast,↓reduceIte,reduceCtorEq,Nat.reduceEqDiff,Nat.reduceLT,Nat.reduceAdd]
 (repeat (refine And.intro (by first|omega|decide) ?_))
 refine Fk (ι:=Option Addr×Nat) (fun x=>(ofP c.cf p (abF c.ps.l p.toNat)).length≤x.2∧x.2≤maxLen) (fun x=>.t [.a (.v (.slice x.1 (ofP c.cf p (abF c.ps.l p.toNat)).length x.2)),.a (.v (tcF c.cf p))]) (fun x=>[⟨.slice x.1 (ofP c.cf p (abF c.ps.l p.toNat)).length x.2,(ofP c.cf p (abF c.ps.l p.toNat)).length,(ofP c.cf p (abF c.ps.l p.toNat)).map (Value.int .i64)⟩]) 0 rfl rfl Axc rfl (fun γ' w' hS'=>A7x (ow:=No) h p hS') (fun _ _=>rfl) (Ae rfl) (by simp (maxSteps:=10^6) only[push_cast,Nat.reduceLT,Nat.reduceAdd]) ?_
 rintro⟨A1,cap1⟩ ⟨b1,b2⟩
 dsimp only at b1 b2
 rw[h8.1]
 obtain⟨ab,hab⟩:∃ab,ab=ofP c.cf p (abF c.ps.l p.toNat):=⟨_,rfl⟩
 rw[←hab] at b1 ⊢
 have jl:(j:Int) < c.gs.l.length:=by omega
 have jn:(0:Int)≤j:=by omega
 simp (maxSteps:=10^6) only[jl,jn,hA,w1,w2,grV,SlV.val,By,undef,push_cast,↓Int.toNat_natCast,↓reduceIte,reduceCtorEq,Nat.reduceEqDiff,Nat.reduceLT,Nat.reduceAdd]
 have gok:=h.ids _ (Fh hjl)
 have gfw:=hb2 _ (Fh hjl)
 obtain⟨g,hg⟩:∃g,g=ix c.gs.l j:=⟨_,rfl⟩
 rw[←hg] at gok gfw ⊢
 obtain⟨par,hpar⟩:∃q,q=(ix c.ps.l pn).parent:=⟨_,rfl⟩
 have jp:p < c.ps.l.length:=h5
 have c0p:Be w (Aj c.ps.A (p.toNat*3))=.int .i64 par:=by
  rw[hpn,hpar]
  exact p0
 have o0p:B6 w No (Aj c.ps.A (p.toNat*3))=True:=eq_true (by rw[hpn];exact o0)
 have pn0:0≤p:=h4
 refine Ac7 21 [0,1,2,3,4,5,6,7,8,9,10,11,12,13,14,15,16] nwD 15 [] (nwF c g p gen par A1 ab cap1) ⟨[(52,.x (.a (.v (.int .i64 p)))),(53,.x (.a (.v (.int .i64 gen)))),(55,.x (.a (.v (.int .i64 c.dim)))),(57,.x (.a (.v (.int .i64 c.term)))),(59,.x (.a (.v (.int .i64 g.need)))),(65,.x (.a (.v (.int .i64 par)))),(66,.x (.a (.v (.slice A1 ab.length cap1)))),(68,.x (.a (.v (.slice g.ids.A g.ids.l.length g.ids.c)))),(69,.x (.a (.o 3))),(70,.x (.a (.o 4))),(71,.x (.a (.o 5))),(72,.x (.a (.o 6)))],[.abs (Aa [⟨.slice A1 ab.length cap1,ab.length,ab.map (Value.int .i64)⟩]),.blk 38 (.c [.v (.int .i64 c.dim),.v (.slice c.ps.A c.ps.l.length c.ps.c),.v (.slice c.gs.A c.gs.l.length c.gs.c),.v (.int .i64 c.least),.v (.int .i64 c.term)]),.blk 96 (.c [.v (.int .i64 g.place),.v (.slice g.ids.A g.ids.l.length g.ids.c),.v (.int .i64 g.need)]),.own 3 (.i64 g.ids.l),.mp .i64 [],.mp .i64 [],.mp .i64 []]⟩ (by kernel_rfl) (by kernel_rfl) (by simp (maxSteps:=10^6) only[push_cast,Nat.reduceAdd]) ?_ ?_ (by decide) ?_ ?_ ?_
 ·simp (maxSteps:=10^6) only[jp,pn0,hAp,c0p,o0p,Bx,By,undef,push_cast,↓reduceIte,reduceCtorEq,Nat.reduceEqDiff,Nat.reduceLT,Nat.reduceAdd]
  refine⟨[],?_⟩
  rw[Mc]
  simp (maxSteps:=10^6) only[List.append_nil,List.range,List.range.loop,push_cast,↓reduceIte,reduceCtorEq,Nat.reduceEqDiff,Nat.reduceAdd]
 ·intro v hv
  have hv':v=0∨v=1∨v=2∨v=3∨v=4∨v=5∨v=6∨v=7∨v=8∨v=9∨v=10∨v=11∨v=12∨v=13∨v=14∨v=15:=by omega
  rcases hv' with rfl|rfl|rfl|rfl|rfl|rfl|rfl|rfl|rfl|rfl|rfl|rfl|rfl|rfl|rfl|rfl
  ·rw[Mc];rfl
  ·rw[N5];rfl
  ·rw[N6];rfl
  ·rw[N7];rfl
  ·rw[N8];rfl
  ·rw[N9];rfl
  ·rw[Oa];rfl
  ·rw[Ob];rfl
  ·rw[Oc];rfl
  ·rw[Od];rfl
  ·rw[Oe];rfl
  ·rw[Og];rfl
  ·rw[Oh];rfl
  ·rw[Oi];rfl
  ·rw[Oj];rfl
  ·rw[Md];rfl
 ·refine Ac5 ?_
  refine⟨?_,?_,?_,?_,?_,?_,?_,?_,?_,?_,?_,?_,?_,?_,?_,?_,trivial⟩
  ·intro q hq
   simp only[List.mem_cons,List.not_mem_nil,or_false] at hq
   rcases hq with rfl|rfl|rfl|rfl
   ·show Ba _ _ _ _ _ 17 (fun s'=>LeA 3 s' (nwF c g p gen par A1 ab cap1 1)) (nwF c g p gen par A1 ab cap1 0)
    rw[N5,Mc]
    simp (maxSteps:=10^6) only[push_cast,↓reduceIte]
    (repeat (refine And.intro (by first|omega|decide) ?_))
    refine H7 rfl Ew rfl (Gi (l:=g.ids.l) gfw (Bt gok.rd _ _ (by simp) gok.len) (by simp (maxSteps:=10^6) only[push_cast,Nat.reduceAdd])) (Ae rfl) (fun _=>by simp (maxSteps:=10^6) only[push_cast,Nat.reduceAdd]) ?_
    refine⟨[3],?_⟩
    simp (maxSteps:=10^6) only[List.range,List.range.loop,List.nil_append,List.cons_append,push_cast,↓reduceIte,reduceCtorEq,Nat.reduceEqDiff,Nat.reduceLT,Nat.reduceAdd]
   ·show Ba _ _ _ _ _ 18 (fun s'=>LeA 3 s' (nwF c g p gen par A1 ab cap1 2)) (nwF c g p gen par A1 ab cap1 0)
    rw[N6,Mc]
    simp (maxSteps:=10^6) only[push_cast,↓reduceIte,Nat.reduceLT,Nat.reduceAdd]
    refine⟨[3],?_⟩
    simp (maxSteps:=10^6) only[List.range,List.range.loop,List.nil_append,List.cons_append,push_cast,↓reduceIte,reduceCtorEq,Nat.reduceEqDiff,Nat.reduceLT,Nat.reduceAdd]
   ·show Ba _ _ _ _ _ 19 (fun s'=>LeA 3 s' (nwF c g p gen par A1 ab cap1 3)) (nwF c g p gen par A1 ab cap1 0)
    rw[N7,Mc]
    simp (maxSteps:=10^6) only[push_cast,↓reduceIte,Nat.reduceLT,Nat.reduceAdd]
    refine⟨[3],?_⟩
    simp (maxSteps:=10^6) only[List.range,List.range.loop,List.nil_append,List.cons_append,push_cast,↓reduceIte,reduceCtorEq,Nat.reduceEqDiff,Nat.reduceLT,Nat.reduceAdd]
   ·show Ba _ _ _ _ _ 20 (fun s'=>LeA 3 s' (nwF c g p gen par A1 ab cap1 4)) (nwF c g p gen par A1 ab cap1 0)
    rw[N8,Mc]
    simp (maxSteps:=10^6) only[push_cast,↓reduceIte,Nat.reduceLT,Nat.reduceAdd]
    refine⟨[3],?_⟩
    simp (maxSteps:=10^6) only[List.range,List.range.loop,List.nil_append,List.cons_append,push_cast,↓reduceIte,reduceCtorEq,Nat.reduceEqDiff,Nat.reduceLT,Nat.reduceAdd]
  ·intro q hq
   simp only[List.mem_cons,List.not_mem_nil,or_false] at hq
   rcases hq with rfl|rfl|rfl
   ·show Ba _ _ _ _ _ 18 (fun s'=>LeA 3 s' (nwF c g p gen par A1 ab cap1 5)) (nwF c g p gen par A1 ab cap1 1)
    rw[N9,N5]
    simp (maxSteps:=10^6) only[push_cast,↓reduceIte,Nat.reduceLT,Nat.reduceAdd]
    refine⟨[3,4],?_⟩
    simp (maxSteps:=10^6) only[List.range,List.range.loop,List.nil_append,List.cons_append,push_cast,↓reduceIte,reduceCtorEq,Nat.reduceEqDiff,Nat.reduceLT,Nat.reduceAdd]
   ·show Ba _ _ _ _ _ 19 (fun s'=>LeA 3 s' (nwF c g p gen par A1 ab cap1 6)) (nwF c g p gen par A1 ab cap1 1)
    rw[Oa,N5]
    simp (maxSteps:=10^6) only[push_cast,↓reduceIte,Nat.reduceLT,Nat.reduceAdd]
    refine⟨[3,4],?_⟩
    simp (maxSteps:=10^6) only[List.range,List.range.loop,List.nil_append,List.cons_append,push_cast,↓reduceIte,reduceCtorEq,Nat.reduceEqDiff,Nat.reduceLT,Nat.reduceAdd]
   ·show Ba _ _ _ _ _ 20 (fun s'=>LeA 3 s' (nwF c g p gen par A1 ab cap1 7)) (nwF c g p gen par A1 ab cap1 1)
    rw[Ob,N5]
    simp (maxSteps:=10^6) only[push_cast,↓reduceIte,Nat.reduceLT,Nat.reduceAdd]
    refine⟨[3,4],?_⟩
    simp (maxSteps:=10^6) only[List.range,List.range.loop,List.nil_append,List.cons_append,push_cast,↓reduceIte,reduceCtorEq,Nat.reduceEqDiff,Nat.reduceLT,Nat.reduceAdd]
  ·intro q hq
   simp only[List.mem_cons,List.not_mem_nil,or_false] at hq
   rcases hq with rfl|rfl|rfl
   ·show Ba _ _ _ _ _ 17 (fun s'=>LeA 3 s' (nwF c g p gen par A1 ab cap1 5)) (nwF c g p gen par A1 ab cap1 2)
    rw[N9,N6]
    simp (maxSteps:=10^6) only[push_cast,↓reduceIte]
    (repeat (refine And.intro (by first|omega|decide) ?_))
    refine H7 rfl Ew rfl (Gi (l:=g.ids.l) gfw (Bt gok.rd _ _ (by simp) gok.len) (by simp (maxSteps:=10^6) only[push_cast,Nat.reduceAdd])) (Ae rfl) (fun _=>by simp (maxSteps:=10^6) only[push_cast,Nat.reduceLT,Nat.reduceAdd]) ?_
    refine⟨[4,3],?_⟩
    simp (maxSteps:=10^6) only[List.range,List.range.loop,List.nil_append,List.cons_append,push_cast,↓reduceIte,reduceCtorEq,Nat.reduceEqDiff,Nat.reduceLT,Nat.reduceAdd]
   ·show Ba _ _ _ _ _ 19 (fun s'=>LeA 3 s' (nwF c g p gen par A1 ab cap1 8)) (nwF c g p gen par A1 ab cap1 2)
    rw[Oc,N6]
    simp (maxSteps:=10^6) only[push_cast,↓reduceIte,Nat.reduceLT,Nat.reduceAdd]
    refine⟨[3,4],?_⟩
    simp (maxSteps:=10^6) only[List.range,List.range.loop,List.nil_append,List.cons_append,push_cast,↓reduceIte,reduceCtorEq,Nat.reduceEqDiff,Nat.reduceLT,Nat.reduceAdd]
   ·show Ba _ _ _ _ _ 20 (fun s'=>LeA 3 s' (nwF c g p gen par A1 ab cap1 9)) (nwF c g p gen par A1 ab cap1 2)
    rw[Od,N6]
    simp (maxSteps:=10^6) only[push_cast,↓reduceIte,Nat.reduceLT,Nat.reduceAdd]
    refine⟨[3,4],?_⟩
    simp (maxSteps:=10^6) only[List.range,List.range.loop,List.nil_append,List.cons_append,push_cast,↓reduceIte,reduceCtorEq,Nat.reduceEqDiff,Nat.reduceLT,Nat.reduceAdd]
  ·intro q hq
   simp only[List.mem_cons,List.not_mem_nil,or_false] at hq
   rcases hq with rfl|rfl|rfl
   ·show Ba _ _ _ _ _ 17 (fun s'=>LeA 3 s' (nwF c g p gen par A1 ab cap1 6)) (nwF c g p gen par A1 ab cap1 3)
    rw[Oa,N7]
    simp (maxSteps:=10^6) only[push_cast,↓reduceIte]
    (repeat (refine And.intro (by first|omega|decide) ?_))
    refine H7 rfl Ew rfl (Gi (l:=g.ids.l) gfw (Bt gok.rd _ _ (by simp) gok.len) (by simp (maxSteps:=10^6) only[push_cast,Nat.reduceAdd])) (Ae rfl) (fun _=>by simp (maxSteps:=10^6) only[push_cast,Nat.reduceLT,Nat.reduceAdd]) ?_
    refine⟨[4,3],?_⟩
    simp (maxSteps:=10^6) only[List.range,List.range.loop,List.nil_append,List.cons_append,push_cast,↓reduceIte,reduceCtorEq,Nat.reduceEqDiff,Nat.reduceLT,Nat.reduceAdd]
   ·show Ba _ _ _ _ _ 18 (fun s'=>LeA 3 s' (nwF c g p gen par A1 ab cap1 8)) (nwF c g p gen par A1 ab cap1 3)
    rw[Oc,N7]
    simp (maxSteps:=10^6) only[push_cast,↓reduceIte,Nat.reduceLT,Nat.reduceAdd]
    refine⟨[4,3],?_⟩
    simp (maxSteps:=10^6) only[List.range,List.range.loop,List.nil_append,List.cons_append,push_cast,↓reduceIte,reduceCtorEq,Nat.reduceEqDiff,Nat.reduceLT,Nat.reduceAdd]
   ·show Ba _ _ _ _ _ 20 (fun s'=>LeA 3 s' (nwF c g p gen par A1 ab cap1 10)) (nwF c g p gen par A1 ab cap1 3)
    rw[Oe,N7]
    simp (maxSteps:=10^6) only[push_cast,↓reduceIte,Nat.reduceLT,Nat.reduceAdd]
    refine⟨[3,4],?_⟩
    simp (maxSteps:=10^6) only[List.range,List.range.loop,List.nil_append,List.cons_append,push_cast,↓reduceIte,reduceCtorEq,Nat.reduceEqDiff,Nat.reduceLT,Nat.reduceAdd]
  ·intro q hq
   simp only[List.mem_cons,List.not_mem_nil,or_false] at hq
   rcases hq with rfl|rfl|rfl
   ·show Ba _ _ _ _ _ 17 (fun s'=>LeA 3 s' (nwF c g p gen par A1 ab cap1 7)) (nwF c g p gen par A1 ab cap1 4)
    rw[Ob,N8]
    simp (maxSteps:=10^6) only[push_cast,↓reduceIte]
    (repeat (refine And.intro (by first|omega|decide) ?_))
    refine H7 rfl Ew rfl (Gi (l:=g.ids.l) gfw (Bt gok.rd _ _ (by simp) gok.len) (by simp (maxSteps:=10^6) only[push_cast,Nat.reduceAdd])) (Ae rfl) (fun _=>by simp (maxSteps:=10^6) only[push_cast,Nat.reduceLT,Nat.reduceAdd]) ?_
    refine⟨[4,3],?_⟩
    simp (maxSteps:=10^6) only[List.range,List.range.loop,List.nil_append,List.cons_append,push_cast,↓reduceIte,reduceCtorEq,Nat.reduceEqDiff,Nat.reduceLT,Nat.reduceAdd]
   ·show Ba _ _ _ _ _ 18 (fun s'=>LeA 3 s' (nwF c g p gen par A1 ab cap1 9)) (nwF c g p gen par A1 ab cap1 4)
    rw[Od,N8]
    simp (maxSteps:=10^6) only[push_cast,↓reduceIte,Nat.reduceLT,Nat.reduceAdd]
    refine⟨[4,3],?_⟩
    simp (maxSteps:=10^6) only[List.range,List.range.loop,List.nil_append,List.cons_append,push_cast,↓reduceIte,reduceCtorEq,Nat.reduceEqDiff,Nat.reduceLT,Nat.reduceAdd]
   ·show Ba _ _ _ _ _ 19 (fun s'=>LeA 3 s' (nwF c g p gen par A1 ab cap1 10)) (nwF c g p gen par A1 ab cap1 4)
    rw[Oe,N8]
    simp (maxSteps:=10^6) only[push_cast,↓reduceIte,Nat.reduceLT,Nat.reduceAdd]
    refine⟨[4,3],?_⟩
    simp (maxSteps:=10^6) only[List.range,List.range.loop,List.nil_append,List.cons_append,push_cast,↓reduceIte,reduceCtorEq,Nat.reduceEqDiff,Nat.reduceLT,Nat.reduceAdd]
  ·intro q hq
   simp only[List.mem_cons,List.not_mem_nil,or_false] at hq
   rcases hq with rfl|rfl
   ·show Ba _ _ _ _ _ 19 (fun s'=>LeA 3 s' (nwF c g p gen par A1 ab cap1 11)) (nwF c g p gen par A1 ab cap1 5)
    rw[Og,N9]
    simp (maxSteps:=10^6) only[push_cast,↓reduceIte,Nat.reduceLT,Nat.reduceAdd]
    refine⟨[3,4,5],?_⟩
    simp (maxSteps:=10^6) only[List.range,List.range.loop,List.nil_append,List.cons_append,push_cast,↓reduceIte,reduceCtorEq,Nat.reduceEqDiff,Nat.reduceLT,Nat.reduceAdd]
   ·show Ba _ _ _ _ _ 20 (fun s'=>LeA 3 s' (nwF c g p gen par A1 ab cap1 12)) (nwF c g p gen par A1 ab cap1 5)
    rw[Oh,N9]
    simp (maxSteps:=10^6) only[push_cast,↓reduceIte,Nat.reduceLT,Nat.reduceAdd]
    refine⟨[3,4,5],?_⟩
    simp (maxSteps:=10^6) only[List.range,List.range.loop,List.nil_append,List.cons_append,push_cast,↓reduceIte,reduceCtorEq,Nat.reduceEqDiff,Nat.reduceLT,Nat.reduceAdd]
  ·intro q hq
   simp only[List.mem_cons,List.not_mem_nil,or_false] at hq
   rcases hq with rfl|rfl
   ·show Ba _ _ _ _ _ 18 (fun s'=>LeA 3 s' (nwF c g p gen par A1 ab cap1 11)) (nwF c g p gen par A1 ab cap1 6)
    rw[Og,Oa]
    simp (maxSteps:=10^6) only[push_cast,↓reduceIte,Nat.reduceLT,Nat.reduceAdd]
    refine⟨[3,5,4],?_⟩
    simp (maxSteps:=10^6) only[List.range,List.range.loop,List.nil_append,List.cons_append,push_cast,↓reduceIte,reduceCtorEq,Nat.reduceEqDiff,Nat.reduceLT,Nat.reduceAdd]
   ·show Ba _ _ _ _ _ 20 (fun s'=>LeA 3 s' (nwF c g p gen par A1 ab cap1 13)) (nwF c g p gen par A1 ab cap1 6)
    rw[Oi,Oa]
    simp (maxSteps:=10^6) only[push_cast,↓reduceIte,Nat.reduceLT,Nat.reduceAdd]
    refine⟨[3,4,5],?_⟩
    simp (maxSteps:=10^6) only[List.range,List.range.loop,List.nil_append,List.cons_append,push_cast,↓reduceIte,reduceCtorEq,Nat.reduceEqDiff,Nat.reduceLT,Nat.reduceAdd]
  ·intro q hq
   simp only[List.mem_cons,List.not_mem_nil,or_false] at hq
   rcases hq with rfl|rfl
   ·show Ba _ _ _ _ _ 18 (fun s'=>LeA 3 s' (nwF c g p gen par A1 ab cap1 12)) (nwF c g p gen par A1 ab cap1 7)
    rw[Oh,Ob]
    simp (maxSteps:=10^6) only[push_cast,↓reduceIte,Nat.reduceLT,Nat.reduceAdd]
    refine⟨[3,5,4],?_⟩
    simp (maxSteps:=10^6) only[List.range,List.range.loop,List.nil_append,List.cons_append,push_cast,↓reduceIte,reduceCtorEq,Nat.reduceEqDiff,Nat.reduceLT,Nat.reduceAdd]
   ·show Ba _ _ _ _ _ 19 (fun s'=>LeA 3 s' (nwF c g p gen par A1 ab cap1 13)) (nwF c g p gen par A1 ab cap1 7)
    rw[Oi,Ob]
    simp (maxSteps:=10^6) only[push_cast,↓reduceIte,Nat.reduceLT,Nat.reduceAdd]
    refine⟨[3,5,4],?_⟩
    simp (maxSteps:=10^6) only[List.range,List.range.loop,List.nil_append,List.cons_append,push_cast,↓reduceIte,reduceCtorEq,Nat.reduceEqDiff,Nat.reduceLT,Nat.reduceAdd]
  ·intro q hq
   simp only[List.mem_cons,List.not_mem_nil,or_false] at hq
   rcases hq with rfl|rfl
   ·show Ba _ _ _ _ _ 17 (fun s'=>LeA 3 s' (nwF c g p gen par A1 ab cap1 11)) (nwF c g p gen par A1 ab cap1 8)
    rw[Og,Oc]
    simp (maxSteps:=10^6) only[push_cast,↓reduceIte]
    (repeat (refine And.intro (by first|omega|decide) ?_))
    refine H7 rfl Ew rfl (Gi (l:=g.ids.l) gfw (Bt gok.rd _ _ (by simp) gok.len) (by simp (maxSteps:=10^6) only[push_cast,Nat.reduceAdd])) (Ae rfl) (fun _=>by simp (maxSteps:=10^6) only[push_cast,Nat.reduceLT,Nat.reduceAdd]) ?_
    refine⟨[5,3,4],?_⟩
    simp (maxSteps:=10^6) only[List.range,List.range.loop,List.nil_append,List.cons_append,push_cast,↓reduceIte,reduceCtorEq,Nat.reduceEqDiff,Nat.reduceLT,Nat.reduceAdd]
   ·show Ba _ _ _ _ _ 20 (fun s'=>LeA 3 s' (nwF c g p gen par A1 ab cap1 14)) (nwF c g p gen par A1 ab cap1 8)
    rw[Oj,Oc]
    simp (maxSteps:=10^6) only[push_cast,↓reduceIte,Nat.reduceLT,Nat.reduceAdd]
    refine⟨[3,4,5],?_⟩
    simp (maxSteps:=10^6) only[List.range,List.range.loop,List.nil_append,List.cons_append,push_cast,↓reduceIte,reduceCtorEq,Nat.reduceEqDiff,Nat.reduceLT,Nat.reduceAdd]
  ·intro q hq
   simp only[List.mem_cons,List.not_mem_nil,or_false] at hq
   rcases hq with rfl|rfl
   ·show Ba _ _ _ _ _ 17 (fun s'=>LeA 3 s' (nwF c g p gen par A1 ab cap1 12)) (nwF c g p gen par A1 ab cap1 9)
    rw[Oh,Od]
    simp (maxSteps:=10^6) only[push_cast,↓reduceIte]
    (repeat (refine And.intro (by first|omega|decide) ?_))
    refine H7 rfl Ew rfl (Gi (l:=g.ids.l) gfw (Bt gok.rd _ _ (by simp) gok.len) (by simp (maxSteps:=10^6) only[push_cast,Nat.reduceAdd])) (Ae rfl) (fun _=>by simp (maxSteps:=10^6) only[push_cast,Nat.reduceLT,Nat.reduceAdd]) ?_
    refine⟨[5,3,4],?_⟩
    simp (maxSteps:=10^6) only[List.range,List.range.loop,List.nil_append,List.cons_append,push_cast,↓reduceIte,reduceCtorEq,Nat.reduceEqDiff,Nat.reduceLT,Nat.reduceAdd]
   ·show Ba _ _ _ _ _ 19 (fun s'=>LeA 3 s' (nwF c g p gen par A1 ab cap1 14)) (nwF c g p gen par A1 ab cap1 9)
    rw[Oj,Od]
    simp (maxSteps:=10^6) only[push_cast,↓reduceIte,Nat.reduceLT,Nat.reduceAdd]
    refine⟨[3,5,4],?_⟩
    simp (maxSteps:=10^6) only[List.range,List.range.loop,List.nil_append,List.cons_append,push_cast,↓reduceIte,reduceCtorEq,Nat.reduceEqDiff,Nat.reduceLT,Nat.reduceAdd]
  ·intro q hq
   simp only[List.mem_cons,List.not_mem_nil,or_false] at hq
   rcases hq with rfl|rfl
   ·show Ba _ _ _ _ _ 17 (fun s'=>LeA 3 s' (nwF c g p gen par A1 ab cap1 13)) (nwF c g p gen par A1 ab cap1 10)
    rw[Oi,Oe]
    simp (maxSteps:=10^6) only[push_cast,↓reduceIte]
    (repeat (refine And.intro (by first|omega|decide) ?_))
    refine H7 rfl Ew rfl (Gi (l:=g.ids.l) gfw (Bt gok.rd _ _ (by simp) gok.len) (by simp (maxSteps:=10^6) only[push_cast,Nat.reduceAdd])) (Ae rfl) (fun _=>by simp (maxSteps:=10^6) only[push_cast,Nat.reduceLT,Nat.reduceAdd]) ?_
    refine⟨[5,3,4],?_⟩
    simp (maxSteps:=10^6) only[List.range,List.range.loop,List.nil_append,List.cons_append,push_cast,↓reduceIte,reduceCtorEq,Nat.reduceEqDiff,Nat.reduceLT,Nat.reduceAdd]
   ·show Ba _ _ _ _ _ 18 (fun s'=>LeA 3 s' (nwF c g p gen par A1 ab cap1 14)) (nwF c g p gen par A1 ab cap1 10)
    rw[Oj,Oe]
    simp (maxSteps:=10^6) only[push_cast,↓reduceIte,Nat.reduceLT,Nat.reduceAdd]
    refine⟨[5,3,4],?_⟩
    simp (maxSteps:=10^6) only[List.range,List.range.loop,List.nil_append,List.cons_append,push_cast,↓reduceIte,reduceCtorEq,Nat.reduceEqDiff,Nat.reduceLT,Nat.reduceAdd]
  ·intro q hq
   simp only[List.mem_cons,List.not_mem_nil,or_false] at hq
   rcases hq with rfl
   ·show Ba _ _ _ _ _ 20 (fun s'=>LeA 3 s' (nwF c g p gen par A1 ab cap1 15)) (nwF c g p gen par A1 ab cap1 11)
    rw[Md,Og]
    simp (maxSteps:=10^6) only[push_cast,↓reduceIte,Nat.reduceLT,Nat.reduceAdd]
    refine⟨[3,4,5,6],?_⟩
    simp (maxSteps:=10^6) only[List.range,List.range.loop,List.nil_append,List.cons_append,push_cast,↓reduceIte,reduceCtorEq,Nat.reduceEqDiff,Nat.reduceLT,Nat.reduceAdd]
  ·intro q hq
   simp only[List.mem_cons,List.not_mem_nil,or_false] at hq
   rcases hq with rfl
   ·show Ba _ _ _ _ _ 19 (fun s'=>LeA 3 s' (nwF c g p gen par A1 ab cap1 15)) (nwF c g p gen par A1 ab cap1 12)
    rw[Md,Oh]
    simp (maxSteps:=10^6) only[push_cast,↓reduceIte,Nat.reduceLT,Nat.reduceAdd]
    refine⟨[3,4,6,5],?_⟩
    simp (maxSteps:=10^6) only[List.range,List.range.loop,List.nil_append,List.cons_append,push_cast,↓reduceIte,reduceCtorEq,Nat.reduceEqDiff,Nat.reduceLT,Nat.reduceAdd]
  ·intro q hq
   simp only[List.mem_cons,List.not_mem_nil,or_false] at hq
   rcases hq with rfl
   ·show Ba _ _ _ _ _ 18 (fun s'=>LeA 3 s' (nwF c g p gen par A1 ab cap1 15)) (nwF c g p gen par A1 ab cap1 13)
    rw[Md,Oi]
    simp (maxSteps:=10^6) only[push_cast,↓reduceIte,Nat.reduceLT,Nat.reduceAdd]
    refine⟨[3,6,4,5],?_⟩
    simp (maxSteps:=10^6) only[List.range,List.range.loop,List.nil_append,List.cons_append,push_cast,↓reduceIte,reduceCtorEq,Nat.reduceEqDiff,Nat.reduceLT,Nat.reduceAdd]
  ·intro q hq
   simp only[List.mem_cons,List.not_mem_nil,or_false] at hq
   rcases hq with rfl
   ·show Ba _ _ _ _ _ 17 (fun s'=>LeA 3 s' (nwF c g p gen par A1 ab cap1 15)) (nwF c g p gen par A1 ab cap1 14)
    rw[Md,Oj]
    simp (maxSteps:=10^6) only[push_cast,↓reduceIte]
    (repeat (refine And.intro (by first|omega|decide) ?_))
    refine H7 rfl Ew rfl (Gi (l:=g.ids.l) gfw (Bt gok.rd _ _ (by simp) gok.len) (by simp (maxSteps:=10^6) only[push_cast,Nat.reduceAdd])) (Ae rfl) (fun _=>by simp (maxSteps:=10^6) only[push_cast,Nat.reduceLT,Nat.reduceAdd]) ?_
    refine⟨[6,3,4,5],?_⟩
    simp (maxSteps:=10^6) only[List.range,List.range.loop,List.nil_append,List.cons_append,push_cast,↓reduceIte,reduceCtorEq,Nat.reduceEqDiff,Nat.reduceLT,Nat.reduceAdd]
  ·intro q hq
   cases hq
 ·rw[Md]
  simp (maxSteps:=10^6) only[push_cast]
  refine Dd [0,1,2,3,4,5,6] ?_
  simp (maxSteps:=10^6) only[push_cast,↓reduceIte,reduceCtorEq,Nat.reduceEqDiff,Nat.reduceLT,Nat.reduceAdd]
 ·have rl:(mgA zeroR).length=43:=Aw rfl
  simp (maxSteps:=10^6) only[Bl,Hh,J1,Bp,rl,A7w,undef,↓List.forall_mem_cons,↓Ad,↓Vk,push_cast,↓reduceIte,reduceCtorEq,Nat.reduceEqDiff,Nat.reduceLT,Nat.reduceAdd]
  (repeat (refine And.intro (by first|omega|decide) ?_))
  refine Gx [12,75,79] ?_
  refine A7m 3 0 (vs:=g.ids.l.map (Value.int .i64)) rfl (fun _=>rfl) rfl (by decide) fun A2 cap2 b3 _=>?_
  rw[List.length_map] at b3
  simp (maxSteps:=10^6) only[Ii,Ih,Res.sub,Cont.sub,Sv.sub,Sc.sub,At.sub,List.length_map,Ip,push_cast,↓reduceIte,Nat.reduceEqDiff]
  refine Z6 (by simp (maxSteps:=10^6) only[↓List.forall_mem_cons,↓Ad,push_cast,Nat.reduceLT,Nat.reduceAdd]) ?_
  refine Acz (s':=⟨[(12,.x (.a (.p 0 0))),(75,.x (.a (.p 0 0))),(79,.x (.a (.v (.slice A2 g.ids.l.length cap2))))],[.blk 104 (.c (.v (.int .i64 p):: .v (.int .i64 gen):: .v (.int .i64 c.dim):: .v (.int .i64 c.term):: .v (.int .i64 g.need):: .v (.int .i64 par):: .v (.slice A1 ab.length cap1):: .v (.slice A2 g.ids.l.length cap2):: .v (.int .i64 0):: .v (.slice none 0 0):: .v (.pointer none):: .v (.slice none 0 0):: .o 2:: .o 3:: .o 4::mgA zeroR)),.abs (Aa []),.mp .i64 [],.mp .i64 [],.mp .i64 [],.abs (Aa [⟨.slice A1 ab.length cap1,ab.length,ab.map (Value.int .i64)⟩,⟨.slice A2 g.ids.l.length cap2,g.ids.l.length,g.ids.l.map (Value.int .i64)⟩])]⟩) (Dd [7,8,4,5,6,0] (by simp (maxSteps:=10^6) only[↓List.forall_mem_cons,↓Ad,Au,push_cast,↓reduceIte,reduceCtorEq,Nat.reduceEqDiff,Nat.reduceLT,Nat.reduceAdd])) ?_
  refine A7l 0 rfl fun g0=>?_
  have zb:=fun n=>Ad zeroR n
  simp only[At.bnd] at zb
  obtain⟨r0,hr0⟩:∃r0,r0=r0L c g p gen par A1 ab cap1 A2 cap2:=⟨_,rfl⟩
  have nw:nwB g0 r0=[.pin g0 104 (.c (.v (.int .i64 p):: .v (.int .i64 gen):: .v (.int .i64 c.dim):: .v (.int .i64 c.term):: .v (.int .i64 g.need):: .v (.int .i64 par):: .v (.slice A1 ab.length cap1):: .v (.slice A2 g.ids.l.length cap2):: .v (.int .i64 0):: .v (.slice none 0 0):: .v (.pointer none):: .v (.slice none 0 0):: .o 2:: .o 3:: .o 4::mgA zeroR)),.abs (Aa []),.mp .i64 [],.mp .i64 [],.mp .i64 []]:=by rw[hr0];rfl
  obtain⟨cd,ct,k1,k2,k3⟩:=Rq h1 (g:=g.gr) (by rw[hg];exact List.mem_map_of_mem (Fh hjl))
  have k2:1≤g.need:=k2
  have k3:g.need≤g.ids.l.length:=k3
  have ct:1≤c.term∧c.term≤1000:=ct
  have cd:1≤c.dim∧c.dim≤32:=cd
  have abl:ab.length≤1000:=by
   rw[hab]
   unfold ofP
   split
   ·unfold abF
    refine Nat.le_trans (Ac0 _ _ _ _) ?_
    show 0+(p.toNat+1)≤1000
    omega
   ·exact Nat.zero_le _
  have ok0:LfOk [⟨.slice A1 ab.length cap1,ab.length,ab.map (Value.int .i64)⟩,⟨.slice A2 g.ids.l.length cap2,g.ids.l.length,g.ids.l.map (Value.int .i64)⟩] r0:=by
   rw[hr0]
   exact⟨.inr (List.mem_cons_self ..),.inr (List.mem_cons_of_mem _ (List.mem_cons_self ..)),.inl rfl,.inl rfl,⟨.inl rfl,.inl rfl,.inl rfl,Nat.zero_le _,Nat.zero_le _,Nat.zero_le _,⟨Int.le_refl _,by show (0:Int)≤1000;omega⟩,⟨Int.le_refl _,by show (0:Int)≤1000;omega,Int.le_refl _,by show (0:Int)≤1000;omega⟩⟩,(fun q hq=>by cases hq),(fun q hq=>by cases hq),⟨rfl,.inl rfl,.inl rfl,.inl rfl,.inl rfl,⟨rfl,Nat.zero_le _,Nat.zero_le _,Nat.zero_le _,Nat.zero_le _⟩⟩,abl,gfw,Nat.zero_le _,Nat.zero_le _,(fun q hq=>by cases hq),(fun q hq=>by cases hq),⟨by show 0≤c.dim;omega,cd.2⟩,⟨by show 0≤g.need;omega,by show g.need≤1000;omega⟩,⟨by show 0≤c.term;omega,ct.2⟩⟩
  refine Dq (ι:=LfR×List Fct) (A:=nwB g0 r0) (M:=[.abs (Aa [⟨.slice A1 ab.length cap1,ab.length,ab.map (Value.int .i64)⟩,⟨.slice A2 g.ids.l.length cap2,g.ids.l.length,g.ids.l.map (Value.int .i64)⟩])]) (g:=g0) (t:=104) (c:=.c (nwA r0)) (l:=[⟨.slice A1 ab.length cap1,ab.length,ab.map (Value.int .i64)⟩,⟨.slice A2 g.ids.l.length cap2,g.ids.l.length,g.ids.l.map (Value.int .i64)⟩]) 0
   (fun x=>x.1.s=r0.s.wait g.ids.l∧x.1.live=r0.live∧LfOk ([⟨.slice A1 ab.length cap1,ab.length,ab.map (Value.int .i64)⟩,⟨.slice A2 g.ids.l.length cap2,g.ids.l.length,g.ids.l.map (Value.int .i64)⟩]++x.2) x.1) (fun _=>.t []) (fun x=>lfB g0 x.1) (fun x=>x.2) (by rw[nw];rfl) rfl rfl (fun x _=>⟨_,rfl⟩) (fun x _=>rfl) rfl Uw rfl (fun γ' w' hS' hg'=>?_) (fun _ _=>rfl) (Ae rfl) (Wm g0 r0) (fun x _=>Ar g0 x.1) (by simp (maxSteps:=10^6) only[zb,↓List.forall_mem_cons,push_cast,Nat.reduceLT,Nat.reduceAdd]) (by
    show ∀x∈_,Sv.av 5 _
    simp (maxSteps:=10^6) only[push_cast,Nat.reduceLeDiff]) (by
    show ∀x∈_,Res.av 5 _
    simp (maxSteps:=10^6) only[push_cast]) ?_
  ·have hkn:=D1 (A:=nwB g0 r0) hS' (k:=0) rfl
   obtain⟨A',c',x1,x2,x3⟩:=hkn ⟨.slice A2 g.ids.l.length cap2,g.ids.l.length,g.ids.l.map (Value.int .i64)⟩ (List.mem_cons_of_mem _ (List.mem_cons_self ..))
   have x1:Value.slice A2 g.ids.l.length cap2=.slice A' g.ids.l.length c':=x1
   injection x1 with y1 _ y3
   subst y1 y3
   have:=A7p r0 g.ids.l A2 cap2 (hS'.frontA (Wm g0 r0)) ok0 x3 b3 gfw k1 (by rw[hr0];exact⟨k2,k3⟩) (by rw[hr0];exact ct)
   show Calls _ _ #[.pointer (some ⟨nmB γ' 0,0,none⟩),.slice A2 g.ids.l.length cap2] w' _
   rw[hg']
   exact this
  rintro⟨r2,G⟩ ⟨q1,ql,q2⟩
  dsimp only at q1 ql q2
  have gl2:=Aw q2.sum.s
  unfold lfB lfA
  simp (maxSteps:=10^6) only[push_cast,↓reduceIte,Nat.reduceEqDiff,Nat.reduceLT,Nat.reduceAdd]
  refine⟨(g0,r2,[⟨.slice A1 ab.length cap1,ab.length,ab.map (Value.int .i64)⟩,⟨.slice A2 g.ids.l.length cap2,g.ids.l.length,g.ids.l.map (Value.int .i64)⟩]++G),⟨?_,?_,q2⟩,A9 [0,1,2,3,4,5] ?_⟩
  ·rw[q1,hr0]
   show _=LfS.new c.cf (ix c.cf.groups (Cb c.cf p).toNat) p gen (ix c.cf.places p.toNat).parent (ofP c.cf p (abF c.cf.places p.toNat))
   have eg:ix c.cf.groups (Cb c.cf p).toNat=g.gr:=by
    rw[hj,hg]
    exact Vs GrR.gr c.gs.l hjl
   have ep:(ix c.cf.places p.toNat).parent=par:=by rw[hpn,hpar];rfl
   have ea:ofP c.cf p (abF c.cf.places p.toNat)=ab:=hab.symm
   rw[eg,ep,ea]
   rfl
  ·rw[ql,hr0];rfl
  ·simp (maxSteps:=10^6) only[↓Ag,↓Az,↓List.forall_mem_cons,↓Ad,↓Af,↓Ax,Au,push_cast,↓reduceIte,reduceCtorEq,Nat.reduceEqDiff,Nat.reduceLT,Nat.reduceAdd]
end
end Go.Proofs.YtedaafmfjhjfmaaGreatDoor
