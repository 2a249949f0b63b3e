import Derived.Test.YtedaafmfjhjfmaaGreatDoorAs
import Derived.Test.YtedaafmfjhjfmaaGreatDoorBase
import Derived.Test.YtedaafmfjhjfmaaGreatDoorTy
import Derived.LaidHandle
/- The handle of the type error, as errors.As asks for it; errors by their numbers. -/
namespace Go.Proofs.YtedaafmfjhjfmaaGreatDoor
open Go.RowKit Go.Extern.Stop Go.Stop Go.Extern
def Handle (w:World):Prop:=w.cell? ⟨0,0,none⟩=some (.iface 217 (.agg #[.pointer (some ⟨1,32,none⟩)]))
theorem Handle.below {w w':World} {B:Nat} (h:Handle w) (hb:Below B w w') (hB:w.heap.size≤B):Handle w':=by
 have hlt:0 < w.heap.size:=block_lt_of_cell h
 exact (hb.cell (p:=⟨0,0,none⟩) (Nat.lt_of_lt_of_le hlt hB)).trans h
theorem Tq {w0:World} {hp:List Res} {γ:List Nm} {w:World} (h:Handle w0) (hS:Sat w0 No γ hp w):Handle w:=h.below (Gl hS.keeps) (Nat.le_refl _)
def erV (n:Int):Value:=if n=0 then .nilIface else .iface 91 (.int .i64 n)
end Go.Proofs.YtedaafmfjhjfmaaGreatDoor
/- The one listed variable of the claims of the seat of packs: the handle of the type error; a world that has it. -/
namespace Go.Proofs.YtedaafmfjhjfmaaGreatDoor
open Go.ChangeShapes Go.WideShapes Go.ChangeAt Go.RowKit
abbrev Md:List (String×DataW Unit):=[("errors.errorType",Rows.laid_errors_errorType)]
theorem Awt:Tryz.prog.globalNamed "errors.errorType"=some 0:=by kernel_rfl
theorem Awu:(Tryz.prog.cutTypes.find? (·.1=="internal/reflectlite.rtype")).map (·.2)=some 217:=by kernel_rfl
theorem Awv:((List.range Tryz.prog.types.size).filter fun t=>Tryz.prog.rowNamed t [101,114,114,111,114])=[32]:=by kernel_rfl
theorem Aww:typeHandle Tryz.prog 32=.pointer (some ⟨1,32,none⟩):=by kernel_rfl
theorem Awx {W:World} (h:laidMetH Tryz.prog Md W):Handle W:=by
 have h':laidMet Tryz.prog [] W∧handlesMet Tryz.prog [("errors.errorType",Rows.laid_errors_errorType)] W:=h
 obtain⟨name,u,ty,e1,e2,e3,e4,e5⟩:=h'.2 _ (List.mem_singleton.2 rfl)
 have en:name=[101,114,114,111,114]:=(Option.some.inj e1).symm
 subst en
 obtain rfl:=Option.some.inj (Awu.symm.trans e2)
 have hm:ty∈(List.range Tryz.prog.types.size).filter fun t=>Tryz.prog.rowNamed t [101,114,114,111,114]:=List.mem_filter.2 ⟨List.mem_range.2 e3,e4⟩
 rw[Awv] at hm
 obtain rfl:=List.mem_singleton.1 hm
 rw[Aww] at e5
 unfold Handle
 simpa using World.var?_cell Awt e5 0
noncomputable def worldHA (os:Os):World:=
 let w0:=World.laidAll Tryz.prog os []
 {w0 with heap:=w0.heap.modify 0 fun
   | .cells _ t frozen=>.cells #[.iface 217 (.agg #[.pointer (some ⟨1,32,none⟩)])] t frozen
   |o=>o}
theorem Awy (os:Os) (args:Array Value):laidMetH Tryz.prog Md ((worldHA os).forCall (fun _ _=>0) ⟨#[],args,[]⟩).memory:=
 laidMetH_of_parts (laidMet_of_run' 8 (by kernel_rfl) (by kernel_rfl)) (by kernel_rfl)
end Go.Proofs.YtedaafmfjhjfmaaGreatDoor
