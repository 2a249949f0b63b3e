import Derived.Test.YtiaeollemmkclaaDoorEn3
import Derived.Test.YtiaeollemmkclaaDoorProg
/- Facts on the types of the program, for the engine. Made by program. -/
namespace Go.Proofs.YtiaeollemmkclaaDoor
open Go.RowKit
set_option linter.unusedSimpArgs false
theorem sz2:sz Tryd.prog 2=1:=by kernel_rfl
theorem bz2:bz Tryd.prog 2=8:=by kernel_rfl
theorem Akj:ZOk Tryd.prog 2 (.c [.v (.int .i64 0)])=True:=eq_true ⟨.int .i64 0,by kernel_rfl,fun _=>by first|rfl|simp [Value.cells,Cont.vals,arr8,arr32,arr64]⟩
theorem zv2:Am Tryd.prog 2 (.a (.v (.int .i64 0)))=True:=eq_true ⟨.int .i64 0,by kernel_rfl,fun _=>by first|rfl|simp [Sc.val,At.val,arr8,arr32,arr64]⟩
theorem sz3:sz Tryd.prog 3=1:=by kernel_rfl
theorem bz3:bz Tryd.prog 3=8:=by kernel_rfl
theorem Akk:ZOk Tryd.prog 3 (.c [.v (.int .i64 0)])=True:=eq_true ⟨.int .i64 0,by kernel_rfl,fun _=>by first|rfl|simp [Value.cells,Cont.vals,arr8,arr32,arr64]⟩
theorem zv3:Am Tryd.prog 3 (.a (.v (.int .i64 0)))=True:=eq_true ⟨.int .i64 0,by kernel_rfl,fun _=>by first|rfl|simp [Sc.val,At.val,arr8,arr32,arr64]⟩
theorem sz4:sz Tryd.prog 4=1:=by kernel_rfl
theorem bz4:bz Tryd.prog 4=1:=by kernel_rfl
theorem Akl:ZOk Tryd.prog 4 (.c [.v (.bool false)])=True:=eq_true ⟨.bool false,by kernel_rfl,fun _=>by first|rfl|simp [Value.cells,Cont.vals,arr8,arr32,arr64]⟩
theorem zv4:Am Tryd.prog 4 (.a (.v (.bool false)))=True:=eq_true ⟨.bool false,by kernel_rfl,fun _=>by first|rfl|simp [Sc.val,At.val,arr8,arr32,arr64]⟩
theorem sz5:sz Tryd.prog 5=1:=by kernel_rfl
theorem bz5:bz Tryd.prog 5=1:=by kernel_rfl
theorem Akm:ZOk Tryd.prog 5 (.c [.v (.int .u8 0)])=True:=eq_true ⟨.int .u8 0,by kernel_rfl,fun _=>by first|rfl|simp [Value.cells,Cont.vals,arr8,arr32,arr64]⟩
theorem zv5:Am Tryd.prog 5 (.a (.v (.int .u8 0)))=True:=eq_true ⟨.int .u8 0,by kernel_rfl,fun _=>by first|rfl|simp [Sc.val,At.val,arr8,arr32,arr64]⟩
theorem sz9:sz Tryd.prog 9=1:=by kernel_rfl
theorem bz9:bz Tryd.prog 9=16:=by kernel_rfl
theorem Akn:ZOk Tryd.prog 9 (.c [.v (.string .empty)])=True:=eq_true ⟨.string .empty,by kernel_rfl,fun _=>by first|rfl|simp [Value.cells,Cont.vals,arr8,arr32,arr64]⟩
theorem zv9:Am Tryd.prog 9 (.a (.v (.string .empty)))=True:=eq_true ⟨.string .empty,by kernel_rfl,fun _=>by first|rfl|simp [Sc.val,At.val,arr8,arr32,arr64]⟩
theorem Ako:sz Tryd.prog 12=1:=by kernel_rfl
theorem Akp:bz Tryd.prog 12=8:=by kernel_rfl
theorem Akq:ZOk Tryd.prog 12 (.c [.v (.int .u64 0)])=True:=eq_true ⟨.int .u64 0,by kernel_rfl,fun _=>by first|rfl|simp [Value.cells,Cont.vals,arr8,arr32,arr64]⟩
theorem Akr:Am Tryd.prog 12 (.a (.v (.int .u64 0)))=True:=eq_true ⟨.int .u64 0,by kernel_rfl,fun _=>by first|rfl|simp [Sc.val,At.val,arr8,arr32,arr64]⟩
theorem Aks:sz Tryd.prog 13=2:=by kernel_rfl
theorem Akt:bz Tryd.prog 13=24:=by kernel_rfl
theorem Aku:Ae Tryd.prog 13 0=some (0,9):=by kernel_rfl
theorem Akv:Ae Tryd.prog 13 1=some (1,12):=by kernel_rfl
theorem Akw:ZOk Tryd.prog 13 (.c [.v (.string .empty),.v (.int .u64 0)])=True:=eq_true ⟨.agg #[.string .empty,.int .u64 0],by kernel_rfl,fun _=>by first|rfl|simp [Value.cells,Cont.vals,arr8,arr32,arr64]⟩
theorem Akx:Am Tryd.prog 13 (.g [.v (.string .empty),.v (.int .u64 0)])=True:=eq_true ⟨.agg #[.string .empty,.int .u64 0],by kernel_rfl,fun _=>by first|rfl|simp [Sc.val,At.val,arr8,arr32,arr64]⟩
theorem Aky:sz Tryd.prog 15=1:=by kernel_rfl
theorem Akz:bz Tryd.prog 15=8:=by kernel_rfl
theorem Ak0:ZOk Tryd.prog 15 (.c [.v (.pointer none)])=True:=eq_true ⟨.pointer none,by kernel_rfl,fun _=>by first|rfl|simp [Value.cells,Cont.vals,arr8,arr32,arr64]⟩
theorem Ak1:Am Tryd.prog 15 (.a (.v (.pointer none)))=True:=eq_true ⟨.pointer none,by kernel_rfl,fun _=>by first|rfl|simp [Sc.val,At.val,arr8,arr32,arr64]⟩
theorem Ak2:sz Tryd.prog 16=1:=by kernel_rfl
theorem Ak3:bz Tryd.prog 16=8:=by kernel_rfl
theorem Ak4:ZOk Tryd.prog 16 (.c [.v (.pointer none)])=True:=eq_true ⟨.pointer none,by kernel_rfl,fun _=>by first|rfl|simp [Value.cells,Cont.vals,arr8,arr32,arr64]⟩
theorem Ak5:Am Tryd.prog 16 (.a (.v (.pointer none)))=True:=eq_true ⟨.pointer none,by kernel_rfl,fun _=>by first|rfl|simp [Sc.val,At.val,arr8,arr32,arr64]⟩
theorem Ak6:sz Tryd.prog 17=1:=by kernel_rfl
theorem Ak7:bz Tryd.prog 17=8:=by kernel_rfl
theorem Ak8:ZOk Tryd.prog 17 (.c [.v (.pointer none)])=True:=eq_true ⟨.pointer none,by kernel_rfl,fun _=>by first|rfl|simp [Value.cells,Cont.vals,arr8,arr32,arr64]⟩
theorem Ak9:Am Tryd.prog 17 (.a (.v (.pointer none)))=True:=eq_true ⟨.pointer none,by kernel_rfl,fun _=>by first|rfl|simp [Sc.val,At.val,arr8,arr32,arr64]⟩
theorem Ala:sz Tryd.prog 20=1:=by kernel_rfl
theorem Alb:bz Tryd.prog 20=16:=by kernel_rfl
theorem Alc:ZOk Tryd.prog 20 (.c [.v .nilIface])=True:=eq_true ⟨.nilIface,by kernel_rfl,fun _=>by first|rfl|simp [Value.cells,Cont.vals,arr8,arr32,arr64]⟩
theorem Ald:Am Tryd.prog 20 (.a (.v (.nilIface)))=True:=eq_true ⟨.nilIface,by kernel_rfl,fun _=>by first|rfl|simp [Sc.val,At.val,arr8,arr32,arr64]⟩
theorem Ale:sz Tryd.prog 21=1:=by kernel_rfl
theorem Alf:bz Tryd.prog 21=4:=by kernel_rfl
theorem Alg:ZOk Tryd.prog 21 (.c [.v (.int .i32 0)])=True:=eq_true ⟨.int .i32 0,by kernel_rfl,fun _=>by first|rfl|simp [Value.cells,Cont.vals,arr8,arr32,arr64]⟩
theorem Alh:Am Tryd.prog 21 (.a (.v (.int .i32 0)))=True:=eq_true ⟨.int .i32 0,by kernel_rfl,fun _=>by first|rfl|simp [Sc.val,At.val,arr8,arr32,arr64]⟩
theorem Ali:sz Tryd.prog 22=1:=by kernel_rfl
theorem Alj:bz Tryd.prog 22=24:=by kernel_rfl
theorem Alk:ZOk Tryd.prog 22 (.c [.v (.slice none 0 0)])=True:=eq_true ⟨.slice none 0 0,by kernel_rfl,fun _=>by first|rfl|simp [Value.cells,Cont.vals,arr8,arr32,arr64]⟩
theorem Alm:Am Tryd.prog 22 (.a (.v (.slice none 0 0)))=True:=eq_true ⟨.slice none 0 0,by kernel_rfl,fun _=>by first|rfl|simp [Sc.val,At.val,arr8,arr32,arr64]⟩
theorem Aln:sz Tryd.prog 23=1:=by kernel_rfl
theorem Alo:bz Tryd.prog 23=24:=by kernel_rfl
theorem Alp:ZOk Tryd.prog 23 (.c [.v (.slice none 0 0)])=True:=eq_true ⟨.slice none 0 0,by kernel_rfl,fun _=>by first|rfl|simp [Value.cells,Cont.vals,arr8,arr32,arr64]⟩
theorem Alq:Am Tryd.prog 23 (.a (.v (.slice none 0 0)))=True:=eq_true ⟨.slice none 0 0,by kernel_rfl,fun _=>by first|rfl|simp [Sc.val,At.val,arr8,arr32,arr64]⟩
theorem Alr:sz Tryd.prog 24=1:=by kernel_rfl
theorem Als:bz Tryd.prog 24=8:=by kernel_rfl
theorem Alt:ZOk Tryd.prog 24 (.c [.v (.pointer none)])=True:=eq_true ⟨.pointer none,by kernel_rfl,fun _=>by first|rfl|simp [Value.cells,Cont.vals,arr8,arr32,arr64]⟩
theorem Alu:Am Tryd.prog 24 (.a (.v (.pointer none)))=True:=eq_true ⟨.pointer none,by kernel_rfl,fun _=>by first|rfl|simp [Sc.val,At.val,arr8,arr32,arr64]⟩
theorem Alv:sz Tryd.prog 25=1:=by kernel_rfl
theorem Alw:bz Tryd.prog 25=8:=by kernel_rfl
theorem Alx:ZOk Tryd.prog 25 (.c [.v (.pointer none)])=True:=eq_true ⟨.pointer none,by kernel_rfl,fun _=>by first|rfl|simp [Value.cells,Cont.vals,arr8,arr32,arr64]⟩
theorem Aly:Am Tryd.prog 25 (.a (.v (.pointer none)))=True:=eq_true ⟨.pointer none,by kernel_rfl,fun _=>by first|rfl|simp [Sc.val,At.val,arr8,arr32,arr64]⟩
theorem Alz:sz Tryd.prog 27=1:=by kernel_rfl
theorem Al0:bz Tryd.prog 27=8:=by kernel_rfl
theorem Al1:ZOk Tryd.prog 27 (.c [.v (.int .u64 0)])=True:=eq_true ⟨.int .u64 0,by kernel_rfl,fun _=>by first|rfl|simp [Value.cells,Cont.vals,arr8,arr32,arr64]⟩
theorem Al2:Am Tryd.prog 27 (.a (.v (.int .u64 0)))=True:=eq_true ⟨.int .u64 0,by kernel_rfl,fun _=>by first|rfl|simp [Sc.val,At.val,arr8,arr32,arr64]⟩
theorem Al3:sz Tryd.prog 28=1:=by kernel_rfl
theorem Al4:bz Tryd.prog 28=24:=by kernel_rfl
theorem Al5:ZOk Tryd.prog 28 (.c [.v (.slice none 0 0)])=True:=eq_true ⟨.slice none 0 0,by kernel_rfl,fun _=>by first|rfl|simp [Value.cells,Cont.vals,arr8,arr32,arr64]⟩
theorem Al6:Am Tryd.prog 28 (.a (.v (.slice none 0 0)))=True:=eq_true ⟨.slice none 0 0,by kernel_rfl,fun _=>by first|rfl|simp [Sc.val,At.val,arr8,arr32,arr64]⟩
theorem Al7:sz Tryd.prog 29=32:=by kernel_rfl
theorem Al8:bz Tryd.prog 29=32:=by kernel_rfl
theorem Al9:I7 Tryd.prog 29 32 .u8=True:=eq_true ⟨5,Tryd.underlying29,Tryd.underlying5,by kernel_rfl,by kernel_rfl,by kernel_rfl⟩
theorem Ama:ZOk Tryd.prog 29 (.u8 (List.replicate 32 0))=True:=eq_true ⟨.agg (arr8 (List.replicate 32 0)),by kernel_rfl,fun _=>by first|rfl|simp [Value.cells,Cont.vals,arr8,arr32,arr64]⟩
theorem Amb:Am Tryd.prog 29 (.a8 (List.replicate 32 0))=True:=eq_true ⟨.agg (arr8 (List.replicate 32 0)),by kernel_rfl,fun _=>by first|rfl|simp [Sc.val,At.val,arr8,arr32,arr64]⟩
theorem Amc:sz Tryd.prog 30=1:=by kernel_rfl
theorem Amd:bz Tryd.prog 30=24:=by kernel_rfl
theorem Ame:ZOk Tryd.prog 30 (.c [.v (.slice none 0 0)])=True:=eq_true ⟨.slice none 0 0,by kernel_rfl,fun _=>by first|rfl|simp [Value.cells,Cont.vals,arr8,arr32,arr64]⟩
theorem Amf:Am Tryd.prog 30 (.a (.v (.slice none 0 0)))=True:=eq_true ⟨.slice none 0 0,by kernel_rfl,fun _=>by first|rfl|simp [Sc.val,At.val,arr8,arr32,arr64]⟩
theorem Amg:sz Tryd.prog 31=39:=by kernel_rfl
theorem Amh:bz Tryd.prog 31=136:=by kernel_rfl
theorem Ami:Ae Tryd.prog 31 0=some (0,5):=by kernel_rfl
theorem Amj:Ae Tryd.prog 31 1=some (1,27):=by kernel_rfl
theorem Amk:Ae Tryd.prog 31 2=some (2,28):=by kernel_rfl
theorem Aml:Ae Tryd.prog 31 3=some (3,23):=by kernel_rfl
theorem Amm:Ae Tryd.prog 31 4=some (4,29):=by kernel_rfl
theorem Amn:Ae Tryd.prog 31 5=some (36,30):=by kernel_rfl
theorem Amo:Ae Tryd.prog 31 6=some (37,3):=by kernel_rfl
theorem Amp:Ae Tryd.prog 31 7=some (38,27):=by kernel_rfl
theorem Amq:sz Tryd.prog 32=39:=by kernel_rfl
theorem Amr:bz Tryd.prog 32=136:=by kernel_rfl
theorem Ams:Ae Tryd.prog 32 0=some (0,5):=by kernel_rfl
theorem Amt:Ae Tryd.prog 32 1=some (1,27):=by kernel_rfl
theorem Amu:Ae Tryd.prog 32 2=some (2,28):=by kernel_rfl
theorem Amv:Ae Tryd.prog 32 3=some (3,23):=by kernel_rfl
theorem Amw:Ae Tryd.prog 32 4=some (4,29):=by kernel_rfl
theorem Amx:Ae Tryd.prog 32 5=some (36,30):=by kernel_rfl
theorem Amy:Ae Tryd.prog 32 6=some (37,3):=by kernel_rfl
theorem Amz:Ae Tryd.prog 32 7=some (38,27):=by kernel_rfl
theorem Am0:sz Tryd.prog 40=1:=by kernel_rfl
theorem Am1:bz Tryd.prog 40=16:=by kernel_rfl
theorem Am2:ZOk Tryd.prog 40 (.c [.v .nilIface])=True:=eq_true ⟨.nilIface,by kernel_rfl,fun _=>by first|rfl|simp [Value.cells,Cont.vals,arr8,arr32,arr64]⟩
theorem Am3:Am Tryd.prog 40 (.a (.v (.nilIface)))=True:=eq_true ⟨.nilIface,by kernel_rfl,fun _=>by first|rfl|simp [Sc.val,At.val,arr8,arr32,arr64]⟩
theorem Am4:sz Tryd.prog 41=1:=by kernel_rfl
theorem Am5:bz Tryd.prog 41=16:=by kernel_rfl
theorem Am6:ZOk Tryd.prog 41 (.c [.v .nilIface])=True:=eq_true ⟨.nilIface,by kernel_rfl,fun _=>by first|rfl|simp [Value.cells,Cont.vals,arr8,arr32,arr64]⟩
theorem Am7:Am Tryd.prog 41 (.a (.v (.nilIface)))=True:=eq_true ⟨.nilIface,by kernel_rfl,fun _=>by first|rfl|simp [Sc.val,At.val,arr8,arr32,arr64]⟩
theorem Am8:sz Tryd.prog 45=1:=by kernel_rfl
theorem Am9:bz Tryd.prog 45=8:=by kernel_rfl
theorem Ana:ZOk Tryd.prog 45 (.c [.v (.pointer none)])=True:=eq_true ⟨.pointer none,by kernel_rfl,fun _=>by first|rfl|simp [Value.cells,Cont.vals,arr8,arr32,arr64]⟩
theorem Anb:Am Tryd.prog 45 (.a (.v (.pointer none)))=True:=eq_true ⟨.pointer none,by kernel_rfl,fun _=>by first|rfl|simp [Sc.val,At.val,arr8,arr32,arr64]⟩
theorem Anc:sz Tryd.prog 46=2:=by kernel_rfl
theorem Ane:bz Tryd.prog 46=16:=by kernel_rfl
theorem Anf:Ae Tryd.prog 46 0=some (0,45):=by kernel_rfl
theorem Ang:Ae Tryd.prog 46 1=some (1,3):=by kernel_rfl
theorem Anh:ZOk Tryd.prog 46 (.c [.v (.pointer none),.v (.int .i64 0)])=True:=eq_true ⟨.agg #[.pointer none,.int .i64 0],by kernel_rfl,fun _=>by first|rfl|simp [Value.cells,Cont.vals,arr8,arr32,arr64]⟩
theorem Ani:Am Tryd.prog 46 (.g [.v (.pointer none),.v (.int .i64 0)])=True:=eq_true ⟨.agg #[.pointer none,.int .i64 0],by kernel_rfl,fun _=>by first|rfl|simp [Sc.val,At.val,arr8,arr32,arr64]⟩
theorem Anj:sz Tryd.prog 47=2:=by kernel_rfl
theorem Ank:bz Tryd.prog 47=16:=by kernel_rfl
theorem Anl:Ae Tryd.prog 47 0=some (0,45):=by kernel_rfl
theorem Anm:Ae Tryd.prog 47 1=some (1,3):=by kernel_rfl
theorem Ann:ZOk Tryd.prog 47 (.c [.v (.pointer none),.v (.int .i64 0)])=True:=eq_true ⟨.agg #[.pointer none,.int .i64 0],by kernel_rfl,fun _=>by first|rfl|simp [Value.cells,Cont.vals,arr8,arr32,arr64]⟩
theorem Ano:Am Tryd.prog 47 (.g [.v (.pointer none),.v (.int .i64 0)])=True:=eq_true ⟨.agg #[.pointer none,.int .i64 0],by kernel_rfl,fun _=>by first|rfl|simp [Sc.val,At.val,arr8,arr32,arr64]⟩
theorem Anp:sz Tryd.prog 55=1:=by kernel_rfl
theorem Anq:bz Tryd.prog 55=2:=by kernel_rfl
theorem Anr:ZOk Tryd.prog 55 (.c [.v (.int .u16 0)])=True:=eq_true ⟨.int .u16 0,by kernel_rfl,fun _=>by first|rfl|simp [Value.cells,Cont.vals,arr8,arr32,arr64]⟩
theorem Ans:Am Tryd.prog 55 (.a (.v (.int .u16 0)))=True:=eq_true ⟨.int .u16 0,by kernel_rfl,fun _=>by first|rfl|simp [Sc.val,At.val,arr8,arr32,arr64]⟩
theorem Ant:sz Tryd.prog 58=1:=by kernel_rfl
theorem Anu:bz Tryd.prog 58=24:=by kernel_rfl
theorem Anv:ZOk Tryd.prog 58 (.c [.v (.slice none 0 0)])=True:=eq_true ⟨.slice none 0 0,by kernel_rfl,fun _=>by first|rfl|simp [Value.cells,Cont.vals,arr8,arr32,arr64]⟩
theorem Anw:Am Tryd.prog 58 (.a (.v (.slice none 0 0)))=True:=eq_true ⟨.slice none 0 0,by kernel_rfl,fun _=>by first|rfl|simp [Sc.val,At.val,arr8,arr32,arr64]⟩
theorem Anx:sz Tryd.prog 59=1:=by kernel_rfl
theorem Any:bz Tryd.prog 59=24:=by kernel_rfl
theorem Anz:ZOk Tryd.prog 59 (.c [.v (.slice none 0 0)])=True:=eq_true ⟨.slice none 0 0,by kernel_rfl,fun _=>by first|rfl|simp [Value.cells,Cont.vals,arr8,arr32,arr64]⟩
theorem An0:Am Tryd.prog 59 (.a (.v (.slice none 0 0)))=True:=eq_true ⟨.slice none 0 0,by kernel_rfl,fun _=>by first|rfl|simp [Sc.val,At.val,arr8,arr32,arr64]⟩
theorem An1:sz Tryd.prog 60=5:=by kernel_rfl
theorem An2:bz Tryd.prog 60=72:=by kernel_rfl
theorem An3:Ae Tryd.prog 60 0=some (0,3):=by kernel_rfl
theorem An4:Ae Tryd.prog 60 1=some (1,58):=by kernel_rfl
theorem An5:Ae Tryd.prog 60 2=some (2,59):=by kernel_rfl
theorem An6:Ae Tryd.prog 60 3=some (3,3):=by kernel_rfl
theorem An7:Ae Tryd.prog 60 4=some (4,3):=by kernel_rfl
theorem An8:ZOk Tryd.prog 60 (.c [.v (.int .i64 0),.v (.slice none 0 0),.v (.slice none 0 0),.v (.int .i64 0),.v (.int .i64 0)])=True:=eq_true ⟨.agg #[.int .i64 0,.slice none 0 0,.slice none 0 0,.int .i64 0,.int .i64 0],by kernel_rfl,fun _=>by first|rfl|simp [Value.cells,Cont.vals,arr8,arr32,arr64]⟩
theorem An9:Am Tryd.prog 60 (.g [.v (.int .i64 0),.v (.slice none 0 0),.v (.slice none 0 0),.v (.int .i64 0),.v (.int .i64 0)])=True:=eq_true ⟨.agg #[.int .i64 0,.slice none 0 0,.slice none 0 0,.int .i64 0,.int .i64 0],by kernel_rfl,fun _=>by first|rfl|simp [Sc.val,At.val,arr8,arr32,arr64]⟩
theorem Aoa:sz Tryd.prog 61=5:=by kernel_rfl
theorem Aob:bz Tryd.prog 61=72:=by kernel_rfl
theorem Aoc:Ae Tryd.prog 61 0=some (0,3):=by kernel_rfl
theorem Aod:Ae Tryd.prog 61 1=some (1,58):=by kernel_rfl
theorem Aoe:Ae Tryd.prog 61 2=some (2,59):=by kernel_rfl
theorem Aof:Ae Tryd.prog 61 3=some (3,3):=by kernel_rfl
theorem Aog:Ae Tryd.prog 61 4=some (4,3):=by kernel_rfl
theorem Aoh:ZOk Tryd.prog 61 (.c [.v (.int .i64 0),.v (.slice none 0 0),.v (.slice none 0 0),.v (.int .i64 0),.v (.int .i64 0)])=True:=eq_true ⟨.agg #[.int .i64 0,.slice none 0 0,.slice none 0 0,.int .i64 0,.int .i64 0],by kernel_rfl,fun _=>by first|rfl|simp [Value.cells,Cont.vals,arr8,arr32,arr64]⟩
theorem Aoi:Am Tryd.prog 61 (.g [.v (.int .i64 0),.v (.slice none 0 0),.v (.slice none 0 0),.v (.int .i64 0),.v (.int .i64 0)])=True:=eq_true ⟨.agg #[.int .i64 0,.slice none 0 0,.slice none 0 0,.int .i64 0,.int .i64 0],by kernel_rfl,fun _=>by first|rfl|simp [Sc.val,At.val,arr8,arr32,arr64]⟩
theorem Aoj:sz Tryd.prog 62=1:=by kernel_rfl
theorem Aok:bz Tryd.prog 62=24:=by kernel_rfl
theorem Aol:ZOk Tryd.prog 62 (.c [.v (.slice none 0 0)])=True:=eq_true ⟨.slice none 0 0,by kernel_rfl,fun _=>by first|rfl|simp [Value.cells,Cont.vals,arr8,arr32,arr64]⟩
theorem Aom:Am Tryd.prog 62 (.a (.v (.slice none 0 0)))=True:=eq_true ⟨.slice none 0 0,by kernel_rfl,fun _=>by first|rfl|simp [Sc.val,At.val,arr8,arr32,arr64]⟩
theorem Aon:sz Tryd.prog 63=1:=by kernel_rfl
theorem Aoo:bz Tryd.prog 63=24:=by kernel_rfl
theorem Aop:ZOk Tryd.prog 63 (.c [.v (.slice none 0 0)])=True:=eq_true ⟨.slice none 0 0,by kernel_rfl,fun _=>by first|rfl|simp [Value.cells,Cont.vals,arr8,arr32,arr64]⟩
theorem Aoq:Am Tryd.prog 63 (.a (.v (.slice none 0 0)))=True:=eq_true ⟨.slice none 0 0,by kernel_rfl,fun _=>by first|rfl|simp [Sc.val,At.val,arr8,arr32,arr64]⟩
theorem Aor:sz Tryd.prog 64=5:=by kernel_rfl
theorem Aos:bz Tryd.prog 64=72:=by kernel_rfl
theorem Aot:Ae Tryd.prog 64 0=some (0,3):=by kernel_rfl
theorem Aou:Ae Tryd.prog 64 1=some (1,62):=by kernel_rfl
theorem Aov:Ae Tryd.prog 64 2=some (2,63):=by kernel_rfl
theorem Aow:Ae Tryd.prog 64 3=some (3,3):=by kernel_rfl
theorem Aox:Ae Tryd.prog 64 4=some (4,3):=by kernel_rfl
theorem Aoy:ZOk Tryd.prog 64 (.c [.v (.int .i64 0),.v (.slice none 0 0),.v (.slice none 0 0),.v (.int .i64 0),.v (.int .i64 0)])=True:=eq_true ⟨.agg #[.int .i64 0,.slice none 0 0,.slice none 0 0,.int .i64 0,.int .i64 0],by kernel_rfl,fun _=>by first|rfl|simp [Value.cells,Cont.vals,arr8,arr32,arr64]⟩
theorem Aoz:Am Tryd.prog 64 (.g [.v (.int .i64 0),.v (.slice none 0 0),.v (.slice none 0 0),.v (.int .i64 0),.v (.int .i64 0)])=True:=eq_true ⟨.agg #[.int .i64 0,.slice none 0 0,.slice none 0 0,.int .i64 0,.int .i64 0],by kernel_rfl,fun _=>by first|rfl|simp [Sc.val,At.val,arr8,arr32,arr64]⟩
theorem Ao0:sz Tryd.prog 65=5:=by kernel_rfl
theorem Ao1:bz Tryd.prog 65=72:=by kernel_rfl
theorem Ao2:Ae Tryd.prog 65 0=some (0,3):=by kernel_rfl
theorem Ao3:Ae Tryd.prog 65 1=some (1,62):=by kernel_rfl
theorem Ao4:Ae Tryd.prog 65 2=some (2,63):=by kernel_rfl
theorem Ao5:Ae Tryd.prog 65 3=some (3,3):=by kernel_rfl
theorem Ao6:Ae Tryd.prog 65 4=some (4,3):=by kernel_rfl
theorem Ao7:ZOk Tryd.prog 65 (.c [.v (.int .i64 0),.v (.slice none 0 0),.v (.slice none 0 0),.v (.int .i64 0),.v (.int .i64 0)])=True:=eq_true ⟨.agg #[.int .i64 0,.slice none 0 0,.slice none 0 0,.int .i64 0,.int .i64 0],by kernel_rfl,fun _=>by first|rfl|simp [Value.cells,Cont.vals,arr8,arr32,arr64]⟩
theorem Ao8:Am Tryd.prog 65 (.g [.v (.int .i64 0),.v (.slice none 0 0),.v (.slice none 0 0),.v (.int .i64 0),.v (.int .i64 0)])=True:=eq_true ⟨.agg #[.int .i64 0,.slice none 0 0,.slice none 0 0,.int .i64 0,.int .i64 0],by kernel_rfl,fun _=>by first|rfl|simp [Sc.val,At.val,arr8,arr32,arr64]⟩
theorem Ao9:sz Tryd.prog 69=1:=by kernel_rfl
theorem Apa:bz Tryd.prog 69=24:=by kernel_rfl
theorem Apb:ZOk Tryd.prog 69 (.c [.v (.slice none 0 0)])=True:=eq_true ⟨.slice none 0 0,by kernel_rfl,fun _=>by first|rfl|simp [Value.cells,Cont.vals,arr8,arr32,arr64]⟩
theorem Apc:Am Tryd.prog 69 (.a (.v (.slice none 0 0)))=True:=eq_true ⟨.slice none 0 0,by kernel_rfl,fun _=>by first|rfl|simp [Sc.val,At.val,arr8,arr32,arr64]⟩
theorem Apd:sz Tryd.prog 78=3:=by kernel_rfl
theorem Ape:bz Tryd.prog 78=24:=by kernel_rfl
theorem Apf:Ae Tryd.prog 78 0=some (0,3):=by kernel_rfl
theorem Apg:Ae Tryd.prog 78 1=some (1,3):=by kernel_rfl
theorem Aph:Ae Tryd.prog 78 2=some (2,3):=by kernel_rfl
theorem Api:ZOk Tryd.prog 78 (.c [.v (.int .i64 0),.v (.int .i64 0),.v (.int .i64 0)])=True:=eq_true ⟨.agg #[.int .i64 0,.int .i64 0,.int .i64 0],by kernel_rfl,fun _=>by first|rfl|simp [Value.cells,Cont.vals,arr8,arr32,arr64]⟩
theorem Apj:Am Tryd.prog 78 (.g [.v (.int .i64 0),.v (.int .i64 0),.v (.int .i64 0)])=True:=eq_true ⟨.agg #[.int .i64 0,.int .i64 0,.int .i64 0],by kernel_rfl,fun _=>by first|rfl|simp [Sc.val,At.val,arr8,arr32,arr64]⟩
theorem Apk:sz Tryd.prog 79=3:=by kernel_rfl
theorem Apl:bz Tryd.prog 79=24:=by kernel_rfl
theorem Apm:Ae Tryd.prog 79 0=some (0,3):=by kernel_rfl
theorem Apn:Ae Tryd.prog 79 1=some (1,3):=by kernel_rfl
theorem Apo:Ae Tryd.prog 79 2=some (2,3):=by kernel_rfl
theorem App:ZOk Tryd.prog 79 (.c [.v (.int .i64 0),.v (.int .i64 0),.v (.int .i64 0)])=True:=eq_true ⟨.agg #[.int .i64 0,.int .i64 0,.int .i64 0],by kernel_rfl,fun _=>by first|rfl|simp [Value.cells,Cont.vals,arr8,arr32,arr64]⟩
theorem Apq:Am Tryd.prog 79 (.g [.v (.int .i64 0),.v (.int .i64 0),.v (.int .i64 0)])=True:=eq_true ⟨.agg #[.int .i64 0,.int .i64 0,.int .i64 0],by kernel_rfl,fun _=>by first|rfl|simp [Sc.val,At.val,arr8,arr32,arr64]⟩
theorem Apr:N7 Tryd.prog 79 [.i64,.i64,.i64]=True:=eq_true ⟨by kernel_rfl,by kernel_rfl,by kernel_rfl,by kernel_rfl⟩
theorem Aps:sz Tryd.prog 81=1:=by kernel_rfl
theorem Apt:bz Tryd.prog 81=24:=by kernel_rfl
theorem Apu:ZOk Tryd.prog 81 (.c [.v (.slice none 0 0)])=True:=eq_true ⟨.slice none 0 0,by kernel_rfl,fun _=>by first|rfl|simp [Value.cells,Cont.vals,arr8,arr32,arr64]⟩
theorem Apv:Am Tryd.prog 81 (.a (.v (.slice none 0 0)))=True:=eq_true ⟨.slice none 0 0,by kernel_rfl,fun _=>by first|rfl|simp [Sc.val,At.val,arr8,arr32,arr64]⟩
theorem Apw:sz Tryd.prog 82=43:=by kernel_rfl
theorem Apx:bz Tryd.prog 82=184:=by kernel_rfl
theorem Apy:Ae Tryd.prog 82 0=some (0,5):=by kernel_rfl
theorem Ap0:Ae Tryd.prog 82 1=some (1,3):=by kernel_rfl
theorem Ap1:Ae Tryd.prog 82 2=some (2,3):=by kernel_rfl
theorem Ap2:Ae Tryd.prog 82 3=some (3,3):=by kernel_rfl
theorem Ap3:Ae Tryd.prog 82 4=some (4,3):=by kernel_rfl
theorem Ap4:Ae Tryd.prog 82 5=some (5,27):=by kernel_rfl
theorem Ap5:Ae Tryd.prog 82 6=some (6,29):=by kernel_rfl
theorem Ap6:Ae Tryd.prog 82 7=some (38,69):=by kernel_rfl
theorem Ap7:Ae Tryd.prog 82 8=some (39,28):=by kernel_rfl
theorem Ap8:Ae Tryd.prog 82 9=some (40,81):=by kernel_rfl
theorem Ap9:Ae Tryd.prog 82 10=some (41,30):=by kernel_rfl
theorem Aqa:Ae Tryd.prog 82 11=some (42,3):=by kernel_rfl
theorem Aqb:sz Tryd.prog 83=43:=by kernel_rfl
theorem Aqc:bz Tryd.prog 83=184:=by kernel_rfl
theorem Aqd:Ae Tryd.prog 83 0=some (0,5):=by kernel_rfl
theorem Aqe:Ae Tryd.prog 83 1=some (1,3):=by kernel_rfl
theorem Aqf:Ae Tryd.prog 83 2=some (2,3):=by kernel_rfl
theorem Aqg:Ae Tryd.prog 83 3=some (3,3):=by kernel_rfl
theorem Aqh:Ae Tryd.prog 83 4=some (4,3):=by kernel_rfl
theorem Aqi:Ae Tryd.prog 83 5=some (5,27):=by kernel_rfl
theorem Aqj:Ae Tryd.prog 83 6=some (6,29):=by kernel_rfl
theorem Aqk:Ae Tryd.prog 83 7=some (38,69):=by kernel_rfl
theorem Aql:Ae Tryd.prog 83 8=some (39,28):=by kernel_rfl
theorem Aqm:Ae Tryd.prog 83 9=some (40,81):=by kernel_rfl
theorem Aqn:Ae Tryd.prog 83 10=some (41,30):=by kernel_rfl
theorem Aqo:Ae Tryd.prog 83 11=some (42,3):=by kernel_rfl
theorem Aqp:sz Tryd.prog 87=1:=by kernel_rfl
theorem Aqq:bz Tryd.prog 87=24:=by kernel_rfl
theorem Aqr:ZOk Tryd.prog 87 (.c [.v (.slice none 0 0)])=True:=eq_true ⟨.slice none 0 0,by kernel_rfl,fun _=>by first|rfl|simp [Value.cells,Cont.vals,arr8,arr32,arr64]⟩
theorem Aqs:Am Tryd.prog 87 (.a (.v (.slice none 0 0)))=True:=eq_true ⟨.slice none 0 0,by kernel_rfl,fun _=>by first|rfl|simp [Sc.val,At.val,arr8,arr32,arr64]⟩
theorem Aqt:sz Tryd.prog 88=43:=by kernel_rfl
theorem Aqu:bz Tryd.prog 88=184:=by kernel_rfl
theorem Aqv:Ae Tryd.prog 88 0=some (0,5):=by kernel_rfl
theorem Aqw:Ae Tryd.prog 88 1=some (1,3):=by kernel_rfl
theorem Aqx:Ae Tryd.prog 88 2=some (2,3):=by kernel_rfl
theorem Aqy:Ae Tryd.prog 88 3=some (3,3):=by kernel_rfl
theorem Aqz:Ae Tryd.prog 88 4=some (4,3):=by kernel_rfl
theorem Aq0:Ae Tryd.prog 88 5=some (5,27):=by kernel_rfl
theorem Aq1:Ae Tryd.prog 88 6=some (6,29):=by kernel_rfl
theorem Aq2:Ae Tryd.prog 88 7=some (38,69):=by kernel_rfl
theorem Aq3:Ae Tryd.prog 88 8=some (39,28):=by kernel_rfl
theorem Aq4:Ae Tryd.prog 88 9=some (40,87):=by kernel_rfl
theorem Aq5:Ae Tryd.prog 88 10=some (41,30):=by kernel_rfl
theorem Aq6:Ae Tryd.prog 88 11=some (42,3):=by kernel_rfl
theorem Aq7:sz Tryd.prog 89=43:=by kernel_rfl
theorem Aq8:bz Tryd.prog 89=184:=by kernel_rfl
theorem Aq9:Ae Tryd.prog 89 0=some (0,5):=by kernel_rfl
theorem Ara:Ae Tryd.prog 89 1=some (1,3):=by kernel_rfl
theorem Arb:Ae Tryd.prog 89 2=some (2,3):=by kernel_rfl
theorem Arc:Ae Tryd.prog 89 3=some (3,3):=by kernel_rfl
theorem Ard:Ae Tryd.prog 89 4=some (4,3):=by kernel_rfl
theorem Arf:Ae Tryd.prog 89 5=some (5,27):=by kernel_rfl
theorem Arg:Ae Tryd.prog 89 6=some (6,29):=by kernel_rfl
theorem Arh:Ae Tryd.prog 89 7=some (38,69):=by kernel_rfl
theorem Ari:Ae Tryd.prog 89 8=some (39,28):=by kernel_rfl
theorem Arj:Ae Tryd.prog 89 9=some (40,87):=by kernel_rfl
theorem Ark:Ae Tryd.prog 89 10=some (41,30):=by kernel_rfl
theorem Arl:Ae Tryd.prog 89 11=some (42,3):=by kernel_rfl
theorem Arm:sz Tryd.prog 104=1:=by kernel_rfl
theorem Arn:bz Tryd.prog 104=24:=by kernel_rfl
theorem Aro:ZOk Tryd.prog 104 (.c [.v (.slice none 0 0)])=True:=eq_true ⟨.slice none 0 0,by kernel_rfl,fun _=>by first|rfl|simp [Value.cells,Cont.vals,arr8,arr32,arr64]⟩
theorem Arp:Am Tryd.prog 104 (.a (.v (.slice none 0 0)))=True:=eq_true ⟨.slice none 0 0,by kernel_rfl,fun _=>by first|rfl|simp [Sc.val,At.val,arr8,arr32,arr64]⟩
theorem Arq:sz Tryd.prog 108=1:=by kernel_rfl
theorem Arr:bz Tryd.prog 108=24:=by kernel_rfl
theorem Ars:ZOk Tryd.prog 108 (.c [.v (.slice none 0 0)])=True:=eq_true ⟨.slice none 0 0,by kernel_rfl,fun _=>by first|rfl|simp [Value.cells,Cont.vals,arr8,arr32,arr64]⟩
theorem Art:Am Tryd.prog 108 (.a (.v (.slice none 0 0)))=True:=eq_true ⟨.slice none 0 0,by kernel_rfl,fun _=>by first|rfl|simp [Sc.val,At.val,arr8,arr32,arr64]⟩
theorem Aru:sz Tryd.prog 113=1:=by kernel_rfl
theorem Arv:bz Tryd.prog 113=24:=by kernel_rfl
theorem Arw:ZOk Tryd.prog 113 (.c [.v (.slice none 0 0)])=True:=eq_true ⟨.slice none 0 0,by kernel_rfl,fun _=>by first|rfl|simp [Value.cells,Cont.vals,arr8,arr32,arr64]⟩
theorem Arx:Am Tryd.prog 113 (.a (.v (.slice none 0 0)))=True:=eq_true ⟨.slice none 0 0,by kernel_rfl,fun _=>by first|rfl|simp [Sc.val,At.val,arr8,arr32,arr64]⟩
theorem Ary:sz Tryd.prog 114=2:=by kernel_rfl
theorem Arz:bz Tryd.prog 114=40:=by kernel_rfl
theorem Ar0:Ae Tryd.prog 114 0=some (0,9):=by kernel_rfl
theorem Ar1:Ae Tryd.prog 114 1=some (1,113):=by kernel_rfl
theorem Ar2:ZOk Tryd.prog 114 (.c [.v (.string .empty),.v (.slice none 0 0)])=True:=eq_true ⟨.agg #[.string .empty,.slice none 0 0],by kernel_rfl,fun _=>by first|rfl|simp [Value.cells,Cont.vals,arr8,arr32,arr64]⟩
theorem Ar3:Am Tryd.prog 114 (.g [.v (.string .empty),.v (.slice none 0 0)])=True:=eq_true ⟨.agg #[.string .empty,.slice none 0 0],by kernel_rfl,fun _=>by first|rfl|simp [Sc.val,At.val,arr8,arr32,arr64]⟩
theorem Ar4:sz Tryd.prog 115=2:=by kernel_rfl
theorem Ar5:bz Tryd.prog 115=40:=by kernel_rfl
theorem Ar6:Ae Tryd.prog 115 0=some (0,9):=by kernel_rfl
theorem Ar7:Ae Tryd.prog 115 1=some (1,113):=by kernel_rfl
theorem Ar8:ZOk Tryd.prog 115 (.c [.v (.string .empty),.v (.slice none 0 0)])=True:=eq_true ⟨.agg #[.string .empty,.slice none 0 0],by kernel_rfl,fun _=>by first|rfl|simp [Value.cells,Cont.vals,arr8,arr32,arr64]⟩
theorem Ar9:Am Tryd.prog 115 (.g [.v (.string .empty),.v (.slice none 0 0)])=True:=eq_true ⟨.agg #[.string .empty,.slice none 0 0],by kernel_rfl,fun _=>by first|rfl|simp [Sc.val,At.val,arr8,arr32,arr64]⟩
theorem Asa:sz Tryd.prog 124=2:=by kernel_rfl
theorem Asb:bz Tryd.prog 124=32:=by kernel_rfl
theorem Asc:Ae Tryd.prog 124 0=some (0,45):=by kernel_rfl
theorem Asd:Ae Tryd.prog 124 1=some (1,23):=by kernel_rfl
theorem Ase:ZOk Tryd.prog 124 (.c [.v (.pointer none),.v (.slice none 0 0)])=True:=eq_true ⟨.agg #[.pointer none,.slice none 0 0],by kernel_rfl,fun _=>by first|rfl|simp [Value.cells,Cont.vals,arr8,arr32,arr64]⟩
theorem Asf:Am Tryd.prog 124 (.g [.v (.pointer none),.v (.slice none 0 0)])=True:=eq_true ⟨.agg #[.pointer none,.slice none 0 0],by kernel_rfl,fun _=>by first|rfl|simp [Sc.val,At.val,arr8,arr32,arr64]⟩
theorem Asg:sz Tryd.prog 125=2:=by kernel_rfl
theorem Ash:bz Tryd.prog 125=32:=by kernel_rfl
theorem Asi:Ae Tryd.prog 125 0=some (0,45):=by kernel_rfl
theorem Asj:Ae Tryd.prog 125 1=some (1,23):=by kernel_rfl
theorem Ask:ZOk Tryd.prog 125 (.c [.v (.pointer none),.v (.slice none 0 0)])=True:=eq_true ⟨.agg #[.pointer none,.slice none 0 0],by kernel_rfl,fun _=>by first|rfl|simp [Value.cells,Cont.vals,arr8,arr32,arr64]⟩
theorem Asl:Am Tryd.prog 125 (.g [.v (.pointer none),.v (.slice none 0 0)])=True:=eq_true ⟨.agg #[.pointer none,.slice none 0 0],by kernel_rfl,fun _=>by first|rfl|simp [Sc.val,At.val,arr8,arr32,arr64]⟩
theorem Asm:sz Tryd.prog 131=2:=by kernel_rfl
theorem Asn:bz Tryd.prog 131=32:=by kernel_rfl
theorem Aso:Ae Tryd.prog 131 0=some (0,23):=by kernel_rfl
theorem Asp:Ae Tryd.prog 131 1=some (1,4):=by kernel_rfl
theorem Asq:ZOk Tryd.prog 131 (.c [.v (.slice none 0 0),.v (.bool false)])=True:=eq_true ⟨.agg #[.slice none 0 0,.bool false],by kernel_rfl,fun _=>by first|rfl|simp [Value.cells,Cont.vals,arr8,arr32,arr64]⟩
theorem Asr:Am Tryd.prog 131 (.g [.v (.slice none 0 0),.v (.bool false)])=True:=eq_true ⟨.agg #[.slice none 0 0,.bool false],by kernel_rfl,fun _=>by first|rfl|simp [Sc.val,At.val,arr8,arr32,arr64]⟩
theorem Ass:sz Tryd.prog 132=2:=by kernel_rfl
theorem Ast:bz Tryd.prog 132=32:=by kernel_rfl
theorem Asu:Ae Tryd.prog 132 0=some (0,23):=by kernel_rfl
theorem Asv:Ae Tryd.prog 132 1=some (1,4):=by kernel_rfl
theorem Asw:ZOk Tryd.prog 132 (.c [.v (.slice none 0 0),.v (.bool false)])=True:=eq_true ⟨.agg #[.slice none 0 0,.bool false],by kernel_rfl,fun _=>by first|rfl|simp [Value.cells,Cont.vals,arr8,arr32,arr64]⟩
theorem Asx:Am Tryd.prog 132 (.g [.v (.slice none 0 0),.v (.bool false)])=True:=eq_true ⟨.agg #[.slice none 0 0,.bool false],by kernel_rfl,fun _=>by first|rfl|simp [Sc.val,At.val,arr8,arr32,arr64]⟩
theorem Asy:sz Tryd.prog 136=1:=by kernel_rfl
theorem Asz:bz Tryd.prog 136=4:=by kernel_rfl
theorem As0:ZOk Tryd.prog 136 (.c [.v (.int .u32 0)])=True:=eq_true ⟨.int .u32 0,by kernel_rfl,fun _=>by first|rfl|simp [Value.cells,Cont.vals,arr8,arr32,arr64]⟩
theorem As1:Am Tryd.prog 136 (.a (.v (.int .u32 0)))=True:=eq_true ⟨.int .u32 0,by kernel_rfl,fun _=>by first|rfl|simp [Sc.val,At.val,arr8,arr32,arr64]⟩
theorem As2:sz Tryd.prog 137=1:=by kernel_rfl
theorem As3:bz Tryd.prog 137=8:=by kernel_rfl
theorem As4:ZOk Tryd.prog 137 (.c [.v (.int .i64 0)])=True:=eq_true ⟨.int .i64 0,by kernel_rfl,fun _=>by first|rfl|simp [Value.cells,Cont.vals,arr8,arr32,arr64]⟩
theorem As5:Am Tryd.prog 137 (.a (.v (.int .i64 0)))=True:=eq_true ⟨.int .i64 0,by kernel_rfl,fun _=>by first|rfl|simp [Sc.val,At.val,arr8,arr32,arr64]⟩
theorem As6:sz Tryd.prog 139=1:=by kernel_rfl
theorem As7:bz Tryd.prog 139=8:=by kernel_rfl
theorem As8:ZOk Tryd.prog 139 (.c [.v (.pointer none)])=True:=eq_true ⟨.pointer none,by kernel_rfl,fun _=>by first|rfl|simp [Value.cells,Cont.vals,arr8,arr32,arr64]⟩
theorem As9:Am Tryd.prog 139 (.a (.v (.pointer none)))=True:=eq_true ⟨.pointer none,by kernel_rfl,fun _=>by first|rfl|simp [Sc.val,At.val,arr8,arr32,arr64]⟩
theorem Ata:sz Tryd.prog 145=3:=by kernel_rfl
theorem Atb:bz Tryd.prog 145=24:=by kernel_rfl
theorem Atc:Ae Tryd.prog 145 0=some (0,3):=by kernel_rfl
theorem Atd:Ae Tryd.prog 145 1=some (1,3):=by kernel_rfl
theorem Ate:Ae Tryd.prog 145 2=some (2,3):=by kernel_rfl
theorem Atf:ZOk Tryd.prog 145 (.c [.v (.int .i64 0),.v (.int .i64 0),.v (.int .i64 0)])=True:=eq_true ⟨.agg #[.int .i64 0,.int .i64 0,.int .i64 0],by kernel_rfl,fun _=>by first|rfl|simp [Value.cells,Cont.vals,arr8,arr32,arr64]⟩
theorem Atg:Am Tryd.prog 145 (.g [.v (.int .i64 0),.v (.int .i64 0),.v (.int .i64 0)])=True:=eq_true ⟨.agg #[.int .i64 0,.int .i64 0,.int .i64 0],by kernel_rfl,fun _=>by first|rfl|simp [Sc.val,At.val,arr8,arr32,arr64]⟩
theorem Ath:N7 Tryd.prog 145 [.i64,.i64,.i64]=True:=eq_true ⟨by kernel_rfl,by kernel_rfl,by kernel_rfl,by kernel_rfl⟩
theorem Ati:sz Tryd.prog 146=3:=by kernel_rfl
theorem Atj:bz Tryd.prog 146=40:=by kernel_rfl
theorem Atk:Ae Tryd.prog 146 0=some (0,3):=by kernel_rfl
theorem Atl:Ae Tryd.prog 146 1=some (1,69):=by kernel_rfl
theorem Atm:Ae Tryd.prog 146 2=some (2,3):=by kernel_rfl
theorem Atn:ZOk Tryd.prog 146 (.c [.v (.int .i64 0),.v (.slice none 0 0),.v (.int .i64 0)])=True:=eq_true ⟨.agg #[.int .i64 0,.slice none 0 0,.int .i64 0],by kernel_rfl,fun _=>by first|rfl|simp [Value.cells,Cont.vals,arr8,arr32,arr64]⟩
theorem Ato:Am Tryd.prog 146 (.g [.v (.int .i64 0),.v (.slice none 0 0),.v (.int .i64 0)])=True:=eq_true ⟨.agg #[.int .i64 0,.slice none 0 0,.int .i64 0],by kernel_rfl,fun _=>by first|rfl|simp [Sc.val,At.val,arr8,arr32,arr64]⟩
theorem Atp:sz Tryd.prog 147=3:=by kernel_rfl
theorem Atq:bz Tryd.prog 147=40:=by kernel_rfl
theorem Atr:Ae Tryd.prog 147 0=some (0,3):=by kernel_rfl
theorem Ats:Ae Tryd.prog 147 1=some (1,69):=by kernel_rfl
theorem Att:Ae Tryd.prog 147 2=some (2,3):=by kernel_rfl
theorem Atu:ZOk Tryd.prog 147 (.c [.v (.int .i64 0),.v (.slice none 0 0),.v (.int .i64 0)])=True:=eq_true ⟨.agg #[.int .i64 0,.slice none 0 0,.int .i64 0],by kernel_rfl,fun _=>by first|rfl|simp [Value.cells,Cont.vals,arr8,arr32,arr64]⟩
theorem Atv:Am Tryd.prog 147 (.g [.v (.int .i64 0),.v (.slice none 0 0),.v (.int .i64 0)])=True:=eq_true ⟨.agg #[.int .i64 0,.slice none 0 0,.int .i64 0],by kernel_rfl,fun _=>by first|rfl|simp [Sc.val,At.val,arr8,arr32,arr64]⟩
theorem Atw:sz Tryd.prog 148=3:=by kernel_rfl
theorem Atx:bz Tryd.prog 148=40:=by kernel_rfl
theorem Aty:Ae Tryd.prog 148 0=some (0,3):=by kernel_rfl
theorem Atz:Ae Tryd.prog 148 1=some (1,69):=by kernel_rfl
theorem At0:Ae Tryd.prog 148 2=some (2,3):=by kernel_rfl
theorem At1:ZOk Tryd.prog 148 (.c [.v (.int .i64 0),.v (.slice none 0 0),.v (.int .i64 0)])=True:=eq_true ⟨.agg #[.int .i64 0,.slice none 0 0,.int .i64 0],by kernel_rfl,fun _=>by first|rfl|simp [Value.cells,Cont.vals,arr8,arr32,arr64]⟩
theorem At2:Am Tryd.prog 148 (.g [.v (.int .i64 0),.v (.slice none 0 0),.v (.int .i64 0)])=True:=eq_true ⟨.agg #[.int .i64 0,.slice none 0 0,.int .i64 0],by kernel_rfl,fun _=>by first|rfl|simp [Sc.val,At.val,arr8,arr32,arr64]⟩
theorem At3:sz Tryd.prog 159=2:=by kernel_rfl
theorem At4:bz Tryd.prog 159=16:=by kernel_rfl
theorem At5:Ae Tryd.prog 159 0=some (0,3):=by kernel_rfl
theorem At6:Ae Tryd.prog 159 1=some (1,27):=by kernel_rfl
theorem At7:ZOk Tryd.prog 159 (.c [.v (.int .i64 0),.v (.int .u64 0)])=True:=eq_true ⟨.agg #[.int .i64 0,.int .u64 0],by kernel_rfl,fun _=>by first|rfl|simp [Value.cells,Cont.vals,arr8,arr32,arr64]⟩
theorem At8:Am Tryd.prog 159 (.g [.v (.int .i64 0),.v (.int .u64 0)])=True:=eq_true ⟨.agg #[.int .i64 0,.int .u64 0],by kernel_rfl,fun _=>by first|rfl|simp [Sc.val,At.val,arr8,arr32,arr64]⟩
theorem At9:sz Tryd.prog 160=2:=by kernel_rfl
theorem Aua:bz Tryd.prog 160=16:=by kernel_rfl
theorem Aub:Ae Tryd.prog 160 0=some (0,3):=by kernel_rfl
theorem Auc:Ae Tryd.prog 160 1=some (1,27):=by kernel_rfl
theorem Aud:ZOk Tryd.prog 160 (.c [.v (.int .i64 0),.v (.int .u64 0)])=True:=eq_true ⟨.agg #[.int .i64 0,.int .u64 0],by kernel_rfl,fun _=>by first|rfl|simp [Value.cells,Cont.vals,arr8,arr32,arr64]⟩
theorem Aue:Am Tryd.prog 160 (.g [.v (.int .i64 0),.v (.int .u64 0)])=True:=eq_true ⟨.agg #[.int .i64 0,.int .u64 0],by kernel_rfl,fun _=>by first|rfl|simp [Sc.val,At.val,arr8,arr32,arr64]⟩
theorem Auf:N7 Tryd.prog 160 [.i64,.u64]=True:=eq_true ⟨by kernel_rfl,by kernel_rfl,by kernel_rfl,by kernel_rfl⟩
theorem Aug:sz Tryd.prog 165=1:=by kernel_rfl
theorem Auh:bz Tryd.prog 165=8:=by kernel_rfl
theorem Aui:ZOk Tryd.prog 165 (.c [.v (.pointer none)])=True:=eq_true ⟨.pointer none,by kernel_rfl,fun _=>by first|rfl|simp [Value.cells,Cont.vals,arr8,arr32,arr64]⟩
theorem Auj:Am Tryd.prog 165 (.a (.v (.pointer none)))=True:=eq_true ⟨.pointer none,by kernel_rfl,fun _=>by first|rfl|simp [Sc.val,At.val,arr8,arr32,arr64]⟩
theorem Auk:sz Tryd.prog 166=2:=by kernel_rfl
theorem Aul:bz Tryd.prog 166=16:=by kernel_rfl
theorem Aum:Ae Tryd.prog 166 0=some (0,3):=by kernel_rfl
theorem Aun:Ae Tryd.prog 166 1=some (1,27):=by kernel_rfl
theorem Auo:ZOk Tryd.prog 166 (.c [.v (.int .i64 0),.v (.int .u64 0)])=True:=eq_true ⟨.agg #[.int .i64 0,.int .u64 0],by kernel_rfl,fun _=>by first|rfl|simp [Value.cells,Cont.vals,arr8,arr32,arr64]⟩
theorem Aup:Am Tryd.prog 166 (.g [.v (.int .i64 0),.v (.int .u64 0)])=True:=eq_true ⟨.agg #[.int .i64 0,.int .u64 0],by kernel_rfl,fun _=>by first|rfl|simp [Sc.val,At.val,arr8,arr32,arr64]⟩
theorem Auq:N7 Tryd.prog 166 [.i64,.u64]=True:=eq_true ⟨by kernel_rfl,by kernel_rfl,by kernel_rfl,by kernel_rfl⟩
theorem Aur:sz Tryd.prog 172=2:=by kernel_rfl
theorem Aus:bz Tryd.prog 172=40:=by kernel_rfl
theorem Aut:Ae Tryd.prog 172 0=some (0,9):=by kernel_rfl
theorem Auu:Ae Tryd.prog 172 1=some (1,113):=by kernel_rfl
theorem Auv:ZOk Tryd.prog 172 (.c [.v (.string .empty),.v (.slice none 0 0)])=True:=eq_true ⟨.agg #[.string .empty,.slice none 0 0],by kernel_rfl,fun _=>by first|rfl|simp [Value.cells,Cont.vals,arr8,arr32,arr64]⟩
theorem Auw:Am Tryd.prog 172 (.g [.v (.string .empty),.v (.slice none 0 0)])=True:=eq_true ⟨.agg #[.string .empty,.slice none 0 0],by kernel_rfl,fun _=>by first|rfl|simp [Sc.val,At.val,arr8,arr32,arr64]⟩
theorem Aux:sz Tryd.prog 175=1:=by kernel_rfl
theorem Auy:bz Tryd.prog 175=8:=by kernel_rfl
theorem Auz:ZOk Tryd.prog 175 (.c [.v (.pointer none)])=True:=eq_true ⟨.pointer none,by kernel_rfl,fun _=>by first|rfl|simp [Value.cells,Cont.vals,arr8,arr32,arr64]⟩
theorem Au0:Am Tryd.prog 175 (.a (.v (.pointer none)))=True:=eq_true ⟨.pointer none,by kernel_rfl,fun _=>by first|rfl|simp [Sc.val,At.val,arr8,arr32,arr64]⟩
theorem Au1:sz Tryd.prog 176=2:=by kernel_rfl
theorem Au2:bz Tryd.prog 176=32:=by kernel_rfl
theorem Au3:Ae Tryd.prog 176 0=some (0,175):=by kernel_rfl
theorem Au4:Ae Tryd.prog 176 1=some (1,23):=by kernel_rfl
theorem Au5:ZOk Tryd.prog 176 (.c [.v (.pointer none),.v (.slice none 0 0)])=True:=eq_true ⟨.agg #[.pointer none,.slice none 0 0],by kernel_rfl,fun _=>by first|rfl|simp [Value.cells,Cont.vals,arr8,arr32,arr64]⟩
theorem Au6:Am Tryd.prog 176 (.g [.v (.pointer none),.v (.slice none 0 0)])=True:=eq_true ⟨.agg #[.pointer none,.slice none 0 0],by kernel_rfl,fun _=>by first|rfl|simp [Sc.val,At.val,arr8,arr32,arr64]⟩
theorem Au7:sz Tryd.prog 177=2:=by kernel_rfl
theorem Au8:bz Tryd.prog 177=32:=by kernel_rfl
theorem Au9:Ae Tryd.prog 177 0=some (0,175):=by kernel_rfl
theorem Ava:Ae Tryd.prog 177 1=some (1,23):=by kernel_rfl
theorem Avb:ZOk Tryd.prog 177 (.c [.v (.pointer none),.v (.slice none 0 0)])=True:=eq_true ⟨.agg #[.pointer none,.slice none 0 0],by kernel_rfl,fun _=>by first|rfl|simp [Value.cells,Cont.vals,arr8,arr32,arr64]⟩
theorem Avc:Am Tryd.prog 177 (.g [.v (.pointer none),.v (.slice none 0 0)])=True:=eq_true ⟨.agg #[.pointer none,.slice none 0 0],by kernel_rfl,fun _=>by first|rfl|simp [Sc.val,At.val,arr8,arr32,arr64]⟩
theorem Avd:sz Tryd.prog 180=1:=by kernel_rfl
theorem Ave:bz Tryd.prog 180=24:=by kernel_rfl
theorem Avf:ZOk Tryd.prog 180 (.c [.v (.slice none 0 0)])=True:=eq_true ⟨.slice none 0 0,by kernel_rfl,fun _=>by first|rfl|simp [Value.cells,Cont.vals,arr8,arr32,arr64]⟩
theorem Avg:Am Tryd.prog 180 (.a (.v (.slice none 0 0)))=True:=eq_true ⟨.slice none 0 0,by kernel_rfl,fun _=>by first|rfl|simp [Sc.val,At.val,arr8,arr32,arr64]⟩
theorem Avh:sz Tryd.prog 186=1:=by kernel_rfl
theorem Avi:bz Tryd.prog 186=8:=by kernel_rfl
theorem Avj:ZOk Tryd.prog 186 (.c [.v (.int .u64 0)])=True:=eq_true ⟨.int .u64 0,by kernel_rfl,fun _=>by first|rfl|simp [Value.cells,Cont.vals,arr8,arr32,arr64]⟩
theorem Avk:Am Tryd.prog 186 (.a (.v (.int .u64 0)))=True:=eq_true ⟨.int .u64 0,by kernel_rfl,fun _=>by first|rfl|simp [Sc.val,At.val,arr8,arr32,arr64]⟩
theorem Avl:sz Tryd.prog 222=1:=by kernel_rfl
theorem Avm:bz Tryd.prog 222=8:=by kernel_rfl
theorem Avn:ZOk Tryd.prog 222 (.c [.v (.pointer none)])=True:=eq_true ⟨.pointer none,by kernel_rfl,fun _=>by first|rfl|simp [Value.cells,Cont.vals,arr8,arr32,arr64]⟩
theorem Avo:Am Tryd.prog 222 (.a (.v (.pointer none)))=True:=eq_true ⟨.pointer none,by kernel_rfl,fun _=>by first|rfl|simp [Sc.val,At.val,arr8,arr32,arr64]⟩
theorem Avp:sz Tryd.prog 229=1:=by kernel_rfl
theorem Avq:bz Tryd.prog 229=8:=by kernel_rfl
theorem Avr:Ae Tryd.prog 229 0=some (0,17):=by kernel_rfl
theorem Avs:ZOk Tryd.prog 229 (.c [.v (.pointer none)])=True:=eq_true ⟨.agg #[.pointer none],by kernel_rfl,fun _=>by first|rfl|simp [Value.cells,Cont.vals,arr8,arr32,arr64]⟩
theorem Avt:Am Tryd.prog 229 (.g [.v (.pointer none)])=True:=eq_true ⟨.agg #[.pointer none],by kernel_rfl,fun _=>by first|rfl|simp [Sc.val,At.val,arr8,arr32,arr64]⟩
theorem Avu:sz Tryd.prog 230=1:=by kernel_rfl
theorem Avv:bz Tryd.prog 230=8:=by kernel_rfl
theorem Avw:ZOk Tryd.prog 230 (.c [.v (.pointer none)])=True:=eq_true ⟨.pointer none,by kernel_rfl,fun _=>by first|rfl|simp [Value.cells,Cont.vals,arr8,arr32,arr64]⟩
theorem Avx:Am Tryd.prog 230 (.a (.v (.pointer none)))=True:=eq_true ⟨.pointer none,by kernel_rfl,fun _=>by first|rfl|simp [Sc.val,At.val,arr8,arr32,arr64]⟩
theorem Avy:sz Tryd.prog 234=1:=by kernel_rfl
theorem Avz:bz Tryd.prog 234=16:=by kernel_rfl
theorem Av0:ZOk Tryd.prog 234 (.c [.v .nilIface])=True:=eq_true ⟨.nilIface,by kernel_rfl,fun _=>by first|rfl|simp [Value.cells,Cont.vals,arr8,arr32,arr64]⟩
theorem Av1:Am Tryd.prog 234 (.a (.v (.nilIface)))=True:=eq_true ⟨.nilIface,by kernel_rfl,fun _=>by first|rfl|simp [Sc.val,At.val,arr8,arr32,arr64]⟩
theorem Av2:sz Tryd.prog 237=1:=by kernel_rfl
theorem Av3:bz Tryd.prog 237=16:=by kernel_rfl
theorem Av4:ZOk Tryd.prog 237 (.c [.v .nilIface])=True:=eq_true ⟨.nilIface,by kernel_rfl,fun _=>by first|rfl|simp [Value.cells,Cont.vals,arr8,arr32,arr64]⟩
theorem Av5:Am Tryd.prog 237 (.a (.v (.nilIface)))=True:=eq_true ⟨.nilIface,by kernel_rfl,fun _=>by first|rfl|simp [Sc.val,At.val,arr8,arr32,arr64]⟩
theorem Av6:sz Tryd.prog 238=1:=by kernel_rfl
theorem Av7:bz Tryd.prog 238=16:=by kernel_rfl
theorem Av8:ZOk Tryd.prog 238 (.c [.v .nilIface])=True:=eq_true ⟨.nilIface,by kernel_rfl,fun _=>by first|rfl|simp [Value.cells,Cont.vals,arr8,arr32,arr64]⟩
theorem Av9:Am Tryd.prog 238 (.a (.v (.nilIface)))=True:=eq_true ⟨.nilIface,by kernel_rfl,fun _=>by first|rfl|simp [Sc.val,At.val,arr8,arr32,arr64]⟩
theorem Awa:sz Tryd.prog 239=1:=by kernel_rfl
theorem Awb:bz Tryd.prog 239=24:=by kernel_rfl
theorem Awc:ZOk Tryd.prog 239 (.c [.v (.slice none 0 0)])=True:=eq_true ⟨.slice none 0 0,by kernel_rfl,fun _=>by first|rfl|simp [Value.cells,Cont.vals,arr8,arr32,arr64]⟩
theorem Awd:Am Tryd.prog 239 (.a (.v (.slice none 0 0)))=True:=eq_true ⟨.slice none 0 0,by kernel_rfl,fun _=>by first|rfl|simp [Sc.val,At.val,arr8,arr32,arr64]⟩
theorem Awe:sz Tryd.prog 246=1:=by kernel_rfl
theorem Awf:bz Tryd.prog 246=24:=by kernel_rfl
theorem Awg:ZOk Tryd.prog 246 (.c [.v (.slice none 0 0)])=True:=eq_true ⟨.slice none 0 0,by kernel_rfl,fun _=>by first|rfl|simp [Value.cells,Cont.vals,arr8,arr32,arr64]⟩
theorem Awh:Am Tryd.prog 246 (.a (.v (.slice none 0 0)))=True:=eq_true ⟨.slice none 0 0,by kernel_rfl,fun _=>by first|rfl|simp [Sc.val,At.val,arr8,arr32,arr64]⟩
theorem Awi:sz Tryd.prog 247=2:=by kernel_rfl
theorem Awj:bz Tryd.prog 247=16:=by kernel_rfl
theorem Awk:Ae Tryd.prog 247 0=some (0,3):=by kernel_rfl
theorem Awl:Ae Tryd.prog 247 1=some (1,3):=by kernel_rfl
theorem Awm:ZOk Tryd.prog 247 (.c [.v (.int .i64 0),.v (.int .i64 0)])=True:=eq_true ⟨.agg #[.int .i64 0,.int .i64 0],by kernel_rfl,fun _=>by first|rfl|simp [Value.cells,Cont.vals,arr8,arr32,arr64]⟩
theorem Awn:Am Tryd.prog 247 (.g [.v (.int .i64 0),.v (.int .i64 0)])=True:=eq_true ⟨.agg #[.int .i64 0,.int .i64 0],by kernel_rfl,fun _=>by first|rfl|simp [Sc.val,At.val,arr8,arr32,arr64]⟩
theorem Awo:sz Tryd.prog 248=2:=by kernel_rfl
theorem Awp:bz Tryd.prog 248=16:=by kernel_rfl
theorem Awq:Ae Tryd.prog 248 0=some (0,3):=by kernel_rfl
theorem Awr:Ae Tryd.prog 248 1=some (1,3):=by kernel_rfl
theorem Aws:ZOk Tryd.prog 248 (.c [.v (.int .i64 0),.v (.int .i64 0)])=True:=eq_true ⟨.agg #[.int .i64 0,.int .i64 0],by kernel_rfl,fun _=>by first|rfl|simp [Value.cells,Cont.vals,arr8,arr32,arr64]⟩
theorem Awt:Am Tryd.prog 248 (.g [.v (.int .i64 0),.v (.int .i64 0)])=True:=eq_true ⟨.agg #[.int .i64 0,.int .i64 0],by kernel_rfl,fun _=>by first|rfl|simp [Sc.val,At.val,arr8,arr32,arr64]⟩
theorem Awu:sz Tryd.prog 250=1:=by kernel_rfl
theorem Awv:bz Tryd.prog 250=8:=by kernel_rfl
theorem Aww:ZOk Tryd.prog 250 (.c [.v (.int .i64 0)])=True:=eq_true ⟨.int .i64 0,by kernel_rfl,fun _=>by first|rfl|simp [Value.cells,Cont.vals,arr8,arr32,arr64]⟩
theorem Awx:Am Tryd.prog 250 (.a (.v (.int .i64 0)))=True:=eq_true ⟨.int .i64 0,by kernel_rfl,fun _=>by first|rfl|simp [Sc.val,At.val,arr8,arr32,arr64]⟩
theorem Awy:sz Tryd.prog 253=1:=by kernel_rfl
theorem Awz:bz Tryd.prog 253=8:=by kernel_rfl
theorem Aw0:ZOk Tryd.prog 253 (.c [.v (.pointer none)])=True:=eq_true ⟨.pointer none,by kernel_rfl,fun _=>by first|rfl|simp [Value.cells,Cont.vals,arr8,arr32,arr64]⟩
theorem Aw1:Am Tryd.prog 253 (.a (.v (.pointer none)))=True:=eq_true ⟨.pointer none,by kernel_rfl,fun _=>by first|rfl|simp [Sc.val,At.val,arr8,arr32,arr64]⟩
theorem Aw2:sz Tryd.prog 259=3:=by kernel_rfl
theorem Aw3:bz Tryd.prog 259=48:=by kernel_rfl
theorem Aw4:Ae Tryd.prog 259 0=some (0,9):=by kernel_rfl
theorem Aw5:Ae Tryd.prog 259 1=some (1,9):=by kernel_rfl
theorem Aw6:Ae Tryd.prog 259 2=some (2,41):=by kernel_rfl
theorem Aw7:ZOk Tryd.prog 259 (.c [.v (.string .empty),.v (.string .empty),.v (.nilIface)])=True:=eq_true ⟨.agg #[.string .empty,.string .empty,.nilIface],by kernel_rfl,fun _=>by first|rfl|simp [Value.cells,Cont.vals,arr8,arr32,arr64]⟩
theorem Aw8:Am Tryd.prog 259 (.g [.v (.string .empty),.v (.string .empty),.v (.nilIface)])=True:=eq_true ⟨.agg #[.string .empty,.string .empty,.nilIface],by kernel_rfl,fun _=>by first|rfl|simp [Sc.val,At.val,arr8,arr32,arr64]⟩
theorem Aw9:sz Tryd.prog 260=3:=by kernel_rfl
theorem Axa:bz Tryd.prog 260=48:=by kernel_rfl
theorem Axb:Ae Tryd.prog 260 0=some (0,9):=by kernel_rfl
theorem Axc:Ae Tryd.prog 260 1=some (1,9):=by kernel_rfl
theorem Axd:Ae Tryd.prog 260 2=some (2,41):=by kernel_rfl
theorem Axe:ZOk Tryd.prog 260 (.c [.v (.string .empty),.v (.string .empty),.v (.nilIface)])=True:=eq_true ⟨.agg #[.string .empty,.string .empty,.nilIface],by kernel_rfl,fun _=>by first|rfl|simp [Value.cells,Cont.vals,arr8,arr32,arr64]⟩
theorem Axf:Am Tryd.prog 260 (.g [.v (.string .empty),.v (.string .empty),.v (.nilIface)])=True:=eq_true ⟨.agg #[.string .empty,.string .empty,.nilIface],by kernel_rfl,fun _=>by first|rfl|simp [Sc.val,At.val,arr8,arr32,arr64]⟩
theorem Axg:sz Tryd.prog 268=1:=by kernel_rfl
theorem Axh:bz Tryd.prog 268=8:=by kernel_rfl
theorem Axi:ZOk Tryd.prog 268 (.c [.v (.pointer none)])=True:=eq_true ⟨.pointer none,by kernel_rfl,fun _=>by first|rfl|simp [Value.cells,Cont.vals,arr8,arr32,arr64]⟩
theorem Axj:Am Tryd.prog 268 (.a (.v (.pointer none)))=True:=eq_true ⟨.pointer none,by kernel_rfl,fun _=>by first|rfl|simp [Sc.val,At.val,arr8,arr32,arr64]⟩
theorem Axk:sz Tryd.prog 269=1:=by kernel_rfl
theorem Axl:bz Tryd.prog 269=16:=by kernel_rfl
theorem Axm:Ae Tryd.prog 269 0=some (0,9):=by kernel_rfl
theorem Axn:ZOk Tryd.prog 269 (.c [.v (.string .empty)])=True:=eq_true ⟨.agg #[.string .empty],by kernel_rfl,fun _=>by first|rfl|simp [Value.cells,Cont.vals,arr8,arr32,arr64]⟩
theorem Axo:Am Tryd.prog 269 (.g [.v (.string .empty)])=True:=eq_true ⟨.agg #[.string .empty],by kernel_rfl,fun _=>by first|rfl|simp [Sc.val,At.val,arr8,arr32,arr64]⟩
theorem Axp:sz Tryd.prog 270=1:=by kernel_rfl
theorem Axq:bz Tryd.prog 270=16:=by kernel_rfl
theorem Axr:Ae Tryd.prog 270 0=some (0,9):=by kernel_rfl
theorem Axs:ZOk Tryd.prog 270 (.c [.v (.string .empty)])=True:=eq_true ⟨.agg #[.string .empty],by kernel_rfl,fun _=>by first|rfl|simp [Value.cells,Cont.vals,arr8,arr32,arr64]⟩
theorem Axt:Am Tryd.prog 270 (.g [.v (.string .empty)])=True:=eq_true ⟨.agg #[.string .empty],by kernel_rfl,fun _=>by first|rfl|simp [Sc.val,At.val,arr8,arr32,arr64]⟩
theorem Axu:sz Tryd.prog 274=256:=by kernel_rfl
theorem Axv:bz Tryd.prog 274=256:=by kernel_rfl
theorem Axw:I7 Tryd.prog 274 256 .u8=True:=eq_true ⟨5,Tryd.underlying274,Tryd.underlying5,by kernel_rfl,by kernel_rfl,by kernel_rfl⟩
theorem Axx:ZOk Tryd.prog 274 (.u8 (List.replicate 256 0))=True:=eq_true ⟨.agg (arr8 (List.replicate 256 0)),by kernel_rfl,fun _=>by first|rfl|simp [Value.cells,Cont.vals,arr8,arr32,arr64]⟩
theorem Axy:Am Tryd.prog 274 (.a8 (List.replicate 256 0))=True:=eq_true ⟨.agg (arr8 (List.replicate 256 0)),by kernel_rfl,fun _=>by first|rfl|simp [Sc.val,At.val,arr8,arr32,arr64]⟩
theorem Axz:sz Tryd.prog 275=2:=by kernel_rfl
theorem Ax0:bz Tryd.prog 275=2:=by kernel_rfl
theorem Ax1:Ae Tryd.prog 275 0=some (0,5):=by kernel_rfl
theorem Ax2:Ae Tryd.prog 275 1=some (1,5):=by kernel_rfl
theorem Ax3:ZOk Tryd.prog 275 (.c [.v (.int .u8 0),.v (.int .u8 0)])=True:=eq_true ⟨.agg #[.int .u8 0,.int .u8 0],by kernel_rfl,fun _=>by first|rfl|simp [Value.cells,Cont.vals,arr8,arr32,arr64]⟩
theorem Ax4:Am Tryd.prog 275 (.g [.v (.int .u8 0),.v (.int .u8 0)])=True:=eq_true ⟨.agg #[.int .u8 0,.int .u8 0],by kernel_rfl,fun _=>by first|rfl|simp [Sc.val,At.val,arr8,arr32,arr64]⟩
theorem Ax5:sz Tryd.prog 276=2:=by kernel_rfl
theorem Ax6:bz Tryd.prog 276=2:=by kernel_rfl
theorem Ax7:Ae Tryd.prog 276 0=some (0,5):=by kernel_rfl
theorem Ax8:Ae Tryd.prog 276 1=some (1,5):=by kernel_rfl
theorem Ax9:ZOk Tryd.prog 276 (.c [.v (.int .u8 0),.v (.int .u8 0)])=True:=eq_true ⟨.agg #[.int .u8 0,.int .u8 0],by kernel_rfl,fun _=>by first|rfl|simp [Value.cells,Cont.vals,arr8,arr32,arr64]⟩
theorem Aya:Am Tryd.prog 276 (.g [.v (.int .u8 0),.v (.int .u8 0)])=True:=eq_true ⟨.agg #[.int .u8 0,.int .u8 0],by kernel_rfl,fun _=>by first|rfl|simp [Sc.val,At.val,arr8,arr32,arr64]⟩
theorem Ayb:sz Tryd.prog 277=32:=by kernel_rfl
theorem Ayc:bz Tryd.prog 277=32:=by kernel_rfl
theorem Ayd:ZOk Tryd.prog 277 (.c [.v (.int .u8 0),.v (.int .u8 0),.v (.int .u8 0),.v (.int .u8 0),.v (.int .u8 0),.v (.int .u8 0),.v (.int .u8 0),.v (.int .u8 0),.v (.int .u8 0),.v (.int .u8 0),.v (.int .u8 0),.v (.int .u8 0),.v (.int .u8 0),.v (.int .u8 0),.v (.int .u8 0),.v (.int .u8 0),.v (.int .u8 0),.v (.int .u8 0),.v (.int .u8 0),.v (.int .u8 0),.v (.int .u8 0),.v (.int .u8 0),.v (.int .u8 0),.v (.int .u8 0),.v (.int .u8 0),.v (.int .u8 0),.v (.int .u8 0),.v (.int .u8 0),.v (.int .u8 0),.v (.int .u8 0),.v (.int .u8 0),.v (.int .u8 0)])=True:=eq_true ⟨.agg #[.int .u8 0,.int .u8 0,.int .u8 0,.int .u8 0,.int .u8 0,.int .u8 0,.int .u8 0,.int .u8 0,.int .u8 0,.int .u8 0,.int .u8 0,.int .u8 0,.int .u8 0,.int .u8 0,.int .u8 0,.int .u8 0,.int .u8 0,.int .u8 0,.int .u8 0,.int .u8 0,.int .u8 0,.int .u8 0,.int .u8 0,.int .u8 0,.int .u8 0,.int .u8 0,.int .u8 0,.int .u8 0,.int .u8 0,.int .u8 0,.int .u8 0,.int .u8 0],by kernel_rfl,fun _=>by first|rfl|simp [Value.cells,Cont.vals,arr8,arr32,arr64]⟩
theorem Aye:Am Tryd.prog 277 (.g [.v (.int .u8 0),.v (.int .u8 0),.v (.int .u8 0),.v (.int .u8 0),.v (.int .u8 0),.v (.int .u8 0),.v (.int .u8 0),.v (.int .u8 0),.v (.int .u8 0),.v (.int .u8 0),.v (.int .u8 0),.v (.int .u8 0),.v (.int .u8 0),.v (.int .u8 0),.v (.int .u8 0),.v (.int .u8 0),.v (.int .u8 0),.v (.int .u8 0),.v (.int .u8 0),.v (.int .u8 0),.v (.int .u8 0),.v (.int .u8 0),.v (.int .u8 0),.v (.int .u8 0),.v (.int .u8 0),.v (.int .u8 0),.v (.int .u8 0),.v (.int .u8 0),.v (.int .u8 0),.v (.int .u8 0),.v (.int .u8 0),.v (.int .u8 0)])=True:=eq_true ⟨.agg #[.int .u8 0,.int .u8 0,.int .u8 0,.int .u8 0,.int .u8 0,.int .u8 0,.int .u8 0,.int .u8 0,.int .u8 0,.int .u8 0,.int .u8 0,.int .u8 0,.int .u8 0,.int .u8 0,.int .u8 0,.int .u8 0,.int .u8 0,.int .u8 0,.int .u8 0,.int .u8 0,.int .u8 0,.int .u8 0,.int .u8 0,.int .u8 0,.int .u8 0,.int .u8 0,.int .u8 0,.int .u8 0,.int .u8 0,.int .u8 0,.int .u8 0,.int .u8 0],by kernel_rfl,fun _=>by first|rfl|simp [Sc.val,At.val,arr8,arr32,arr64]⟩
theorem Ayf:sz Tryd.prog 278=24:=by kernel_rfl
theorem Ayg:bz Tryd.prog 278=24:=by kernel_rfl
theorem Ayh:I7 Tryd.prog 278 24 .u8=True:=eq_true ⟨5,Tryd.underlying278,Tryd.underlying5,by kernel_rfl,by kernel_rfl,by kernel_rfl⟩
theorem Ayi:ZOk Tryd.prog 278 (.u8 (List.replicate 24 0))=True:=eq_true ⟨.agg (arr8 (List.replicate 24 0)),by kernel_rfl,fun _=>by first|rfl|simp [Value.cells,Cont.vals,arr8,arr32,arr64]⟩
theorem Ayj:Am Tryd.prog 278 (.a8 (List.replicate 24 0))=True:=eq_true ⟨.agg (arr8 (List.replicate 24 0)),by kernel_rfl,fun _=>by first|rfl|simp [Sc.val,At.val,arr8,arr32,arr64]⟩
theorem Ayk:sz Tryd.prog 283=20:=by kernel_rfl
theorem Ayl:bz Tryd.prog 283=160:=by kernel_rfl
theorem Aym:I7 Tryd.prog 283 20 .u64=True:=eq_true ⟨27,Tryd.underlying283,Tryd.underlying27,by kernel_rfl,by kernel_rfl,by kernel_rfl⟩
theorem Ayn:ZOk Tryd.prog 283 (.u64 (List.replicate 20 0))=True:=eq_true ⟨.agg (arr64 (List.replicate 20 0)),by kernel_rfl,fun _=>by first|rfl|simp [Value.cells,Cont.vals,arr8,arr32,arr64]⟩
theorem Ayo:Am Tryd.prog 283 (.a64 (List.replicate 20 0))=True:=eq_true ⟨.agg (arr64 (List.replicate 20 0)),by kernel_rfl,fun _=>by first|rfl|simp [Sc.val,At.val,arr8,arr32,arr64]⟩
theorem Ayp:sz Tryd.prog 284=65:=by kernel_rfl
theorem Ayq:bz Tryd.prog 284=65:=by kernel_rfl
theorem Ayr:I7 Tryd.prog 284 65 .u8=True:=eq_true ⟨5,Tryd.underlying284,Tryd.underlying5,by kernel_rfl,by kernel_rfl,by kernel_rfl⟩
theorem Ays:ZOk Tryd.prog 284 (.u8 (List.replicate 65 0))=True:=eq_true ⟨.agg (arr8 (List.replicate 65 0)),by kernel_rfl,fun _=>by first|rfl|simp [Value.cells,Cont.vals,arr8,arr32,arr64]⟩
theorem Ayt:Am Tryd.prog 284 (.a8 (List.replicate 65 0))=True:=eq_true ⟨.agg (arr8 (List.replicate 65 0)),by kernel_rfl,fun _=>by first|rfl|simp [Sc.val,At.val,arr8,arr32,arr64]⟩
theorem Ayu:sz Tryd.prog 287=64:=by kernel_rfl
theorem Ayv:bz Tryd.prog 287=64:=by kernel_rfl
theorem Ayw:I7 Tryd.prog 287 64 .u8=True:=eq_true ⟨5,Tryd.underlying287,Tryd.underlying5,by kernel_rfl,by kernel_rfl,by kernel_rfl⟩
theorem Ayx:ZOk Tryd.prog 287 (.u8 (List.replicate 64 0))=True:=eq_true ⟨.agg (arr8 (List.replicate 64 0)),by kernel_rfl,fun _=>by first|rfl|simp [Value.cells,Cont.vals,arr8,arr32,arr64]⟩
theorem Ayy:Am Tryd.prog 287 (.a8 (List.replicate 64 0))=True:=eq_true ⟨.agg (arr8 (List.replicate 64 0)),by kernel_rfl,fun _=>by first|rfl|simp [Sc.val,At.val,arr8,arr32,arr64]⟩
theorem Ayz:sz Tryd.prog 304=1:=by kernel_rfl
theorem Ay0:bz Tryd.prog 304=8:=by kernel_rfl
theorem Ay1:ZOk Tryd.prog 304 (.c [.v (.pointer none)])=True:=eq_true ⟨.pointer none,by kernel_rfl,fun _=>by first|rfl|simp [Value.cells,Cont.vals,arr8,arr32,arr64]⟩
theorem Ay2:Am Tryd.prog 304 (.a (.v (.pointer none)))=True:=eq_true ⟨.pointer none,by kernel_rfl,fun _=>by first|rfl|simp [Sc.val,At.val,arr8,arr32,arr64]⟩
theorem Ay3:sz Tryd.prog 312=1:=by kernel_rfl
theorem Ay4:bz Tryd.prog 312=8:=by kernel_rfl
theorem Ay5:ZOk Tryd.prog 312 (.c [.v (.pointer none)])=True:=eq_true ⟨.pointer none,by kernel_rfl,fun _=>by first|rfl|simp [Value.cells,Cont.vals,arr8,arr32,arr64]⟩
theorem Ay6:Am Tryd.prog 312 (.a (.v (.pointer none)))=True:=eq_true ⟨.pointer none,by kernel_rfl,fun _=>by first|rfl|simp [Sc.val,At.val,arr8,arr32,arr64]⟩
theorem Ay7:Af Tryd.prog 10:=Bg Tryd.func10 (by kernel_rfl) rfl
theorem Lf:Af Tryd.prog 11:=Bg Tryd.func11 (by kernel_rfl) rfl
theorem R3:Af Tryd.prog 12:=Bg Tryd.func12 (by kernel_rfl) rfl
theorem Ay8:Af Tryd.prog 14:=Bg Tryd.func14 (by kernel_rfl) rfl
theorem Ay9:Af Tryd.prog 15:=Bg Tryd.func15 (by kernel_rfl) rfl
theorem Aza:Af Tryd.prog 17:=Bg Tryd.func17 (by kernel_rfl) rfl
theorem Azb:Af Tryd.prog 20:=Bg Tryd.func20 (by kernel_rfl) rfl
theorem Azc:Af Tryd.prog 21:=Bg Tryd.func21 (by kernel_rfl) rfl
theorem F7:Af Tryd.prog 22:=Bg Tryd.func22 (by kernel_rfl) rfl
theorem Aao:Af Tryd.prog 36:=Bg Tryd.func36 (by kernel_rfl) rfl
theorem Lg:Af Tryd.prog 37:=Bg Tryd.func37 (by kernel_rfl) rfl
theorem Ot:Af Tryd.prog 38:=Bg Tryd.func38 (by kernel_rfl) rfl
theorem Gq:Af Tryd.prog 39:=Bg Tryd.func39 (by kernel_rfl) rfl
theorem R4:Af Tryd.prog 40:=Bg Tryd.func40 (by kernel_rfl) rfl
theorem Lh:Af Tryd.prog 41:=Bg Tryd.func41 (by kernel_rfl) rfl
theorem R5:Af Tryd.prog 42:=Bg Tryd.func42 (by kernel_rfl) rfl
theorem Li:Af Tryd.prog 43:=Bg Tryd.func43 (by kernel_rfl) rfl
theorem F9:Af Tryd.prog 44:=Bg Tryd.func44 (by kernel_rfl) rfl
theorem J7:Af Tryd.prog 45:=Bg Tryd.func45 (by kernel_rfl) rfl
theorem R6:Af Tryd.prog 46:=Bg Tryd.func46 (by kernel_rfl) rfl
theorem Ou:Af Tryd.prog 47:=Bg Tryd.func47 (by kernel_rfl) rfl
theorem J8:Af Tryd.prog 48:=Bg Tryd.func48 (by kernel_rfl) rfl
theorem Lj:Af Tryd.prog 49:=Bg Tryd.func49 (by kernel_rfl) rfl
theorem Ov:Af Tryd.prog 50:=Bg Tryd.func50 (by kernel_rfl) rfl
theorem R7:Af Tryd.prog 51:=Bg Tryd.func51 (by kernel_rfl) rfl
theorem Lk:Af Tryd.prog 60:=Bg Tryd.func60 (by kernel_rfl) rfl
theorem R8:Af Tryd.prog 61:=Bg Tryd.func61 (by kernel_rfl) rfl
theorem Azd:Af Tryd.prog 63:=Bg Tryd.func63 (by kernel_rfl) rfl
theorem Aze:Af Tryd.prog 64:=Bg Tryd.func64 (by kernel_rfl) rfl
theorem Vl:Af Tryd.prog 65:=Bg Tryd.func65 (by kernel_rfl) rfl
theorem Azf:Af Tryd.prog 66:=Bg Tryd.func66 (by kernel_rfl) rfl
theorem Azg:Af Tryd.prog 67:=Bg Tryd.func67 (by kernel_rfl) rfl
theorem R9:Af Tryd.prog 69:=Bg Tryd.func69 (by kernel_rfl) rfl
theorem Azh:Af Tryd.prog 71:=Bg Tryd.func71 (by kernel_rfl) rfl
theorem Ll:Af Tryd.prog 73:=Bg Tryd.func73 (by kernel_rfl) rfl
theorem Lm:Af Tryd.prog 74:=Bg Tryd.func74 (by kernel_rfl) rfl
theorem Azi:Af Tryd.prog 84:=Bg Tryd.func84 (by kernel_rfl) rfl
theorem Azj:Af Tryd.prog 89:=Bg Tryd.func89 (by kernel_rfl) rfl
theorem Aap:Af Tryd.prog 90:=Bg Tryd.func90 (by kernel_rfl) rfl
theorem Aaq:Af Tryd.prog 91:=Bg Tryd.func91 (by kernel_rfl) rfl
theorem Azk:Af Tryd.prog 92:=Bg Tryd.func92 (by kernel_rfl) rfl
theorem Azl:Af Tryd.prog 93:=Bg Tryd.func93 (by kernel_rfl) rfl
theorem Azm:Af Tryd.prog 94:=Bg Tryd.func94 (by kernel_rfl) rfl
theorem Azn:Af Tryd.prog 95:=Bg Tryd.func95 (by kernel_rfl) rfl
theorem Azo:Af Tryd.prog 96:=Bg Tryd.func96 (by kernel_rfl) rfl
theorem Azp:Af Tryd.prog 97:=Bg Tryd.func97 (by kernel_rfl) rfl
theorem Azq:Af Tryd.prog 98:=Bg Tryd.func98 (by kernel_rfl) rfl
theorem Azr:Af Tryd.prog 99:=Bg Tryd.func99 (by kernel_rfl) rfl
theorem Aar:Af Tryd.prog 100:=Bg Tryd.func100 (by kernel_rfl) rfl
theorem Sa:Af Tryd.prog 109:=Bg Tryd.func109 (by kernel_rfl) rfl
theorem Sb:Af Tryd.prog 110:=Bg Tryd.func110 (by kernel_rfl) rfl
theorem Azs:Af Tryd.prog 111:=Bg Tryd.func111 (by kernel_rfl) rfl
theorem Azt:Af Tryd.prog 117:=Bg Tryd.func117 (by kernel_rfl) rfl
theorem Azu:Af Tryd.prog 119:=Bg Tryd.func119 (by kernel_rfl) rfl
theorem Aas:Af Tryd.prog 127:=Bg Tryd.func127 (by kernel_rfl) rfl
theorem Ow:Af Tryd.prog 128:=Bg Tryd.func128 (by kernel_rfl) rfl
theorem Ln:Af Tryd.prog 129:=Bg Tryd.func129 (by kernel_rfl) rfl
theorem Azv:Af Tryd.prog 130:=Bg Tryd.func130 (by kernel_rfl) rfl
theorem Azw:Af Tryd.prog 131:=Bg Tryd.func131 (by kernel_rfl) rfl
theorem Azx:Af Tryd.prog 132:=Bg Tryd.func132 (by kernel_rfl) rfl
theorem Azy:Af Tryd.prog 133:=Bg Tryd.func133 (by kernel_rfl) rfl
theorem Ox:Af Tryd.prog 134:=Bg Tryd.func134 (by kernel_rfl) rfl
theorem Azz:Af Tryd.prog 135:=Bg Tryd.func135 (by kernel_rfl) rfl
theorem Az0:Af Tryd.prog 136:=Bg Tryd.func136 (by kernel_rfl) rfl
theorem Az1:Af Tryd.prog 137:=Bg Tryd.func137 (by kernel_rfl) rfl
theorem Az2:Af Tryd.prog 145:=Bg Tryd.func145 (by kernel_rfl) rfl
theorem Az3:Af Tryd.prog 150:=Bg Tryd.func150 (by kernel_rfl) rfl
theorem Az4:Af Tryd.prog 156:=Bg Tryd.func156 (by kernel_rfl) rfl
theorem Az5:Af Tryd.prog 167:=Bg Tryd.func167 (by kernel_rfl) rfl
attribute [push_cast] Aki R2 Qo Kr Cont.piece Agv Agw Aja Ajb Ks eqB Q8 Kw Rd Ob Hp If Rb Oa Agx Yg Um bsA bsN Mm List.flatten_cons List.flatten_nil Mn Mo D0 I6 N9 Ra B3 bput Mi Mj Mk mkS Qx Ml Qy mmS Qj N5 Ajs Ajt Aju Ajv Ajw Ajx Ajy Ajz Aj0 Aj3 Aj4 Aj5 Aj1 Aj2 List.forall_mem_append Q9 Kv Qn Jw Hn Hs Rt Lc Ag1 Agz Ag2 Ag3 Ag0 Ag6 Agy Ag4 Ag5 Ag7 Ag8 Ag9 Aha Ahb Ahc Ahe Ahd Ai8 Ai7 Aj7 Aj8 Aj9 Aka Akb Fx takes I8 Ih dOk F4 op1 S.put Fr.put Fr.ev Fr.get ev1 ev2 ev3 S.bnd Sv.bnd Sc.bnd At.bnd Res.bnd Cont.bnd C4 Jv Dk Fc N4 Qu Qk Qf Qg Qh Qi shS ban unS N8 eqS Qt Qv Ql Qz N6 Qp Qq Qr Qs Ie Q0 Q3 Q4 Q5 Q6 Qw bsS parts Kq Id I4 I5 Me Q7 Ek Ek.zero1 Ek.zeroN Kt Ku Ho D1 Cd D3 G5 Gl Kp At.scalar scalar At.one Value.oneCell' Sc.cont Cont.cut Cont.part Cont.app Cont.len Cont.plain Cont.get Cont.set Cont.over Cont.whole Vf Vg Vh Aah Aai Aaj Aji Ajj Ajk Ajl Ajm Ajn Ajd Aje Le Rr J2 Sv.ren Sc.ren At.ren Res.ren Cont.ren rn Fin Ij Rx evs Ik Ry Gk maxLen Int.toNat_natCast Int.toNat_zero Nat.zero_add Nat.add_zero Nat.mul_one List.length_cons List.length_nil List.length_append List.length_map List.length_set List.length_replicate List.cons_append List.nil_append List.append_nil List.map_append List.getElem?_cons_zero List.getElem?_cons_succ List.getElem?_nil List.set_cons_zero List.set_cons_succ List.getD_cons_zero List.getD_cons_succ List.take_succ_cons List.take_zero List.drop_zero List.drop_succ_cons List.map_cons List.map_nil List.forall_mem_cons List.not_mem_nil List.reverse_cons List.toList_toArray Option.isSome_some Option.isNone_some Option.isNone_none false_implies implies_true true_implies forall_const true_and and_true and_self not_false_eq_true not_true_eq_false ne_eq or_false false_or or_true true_or or_self Nat.lt_irrefl Nat.le_refl Bool.false_eq_true Bool.true_eq_false Bool.not_true Bool.not_false Bool.or_true Bool.or_false Bool.and_true Bool.and_false Bool.true_and Bool.false_and decide_true decide_false eq_self gt_iff_lt ge_iff_le if_true if_false Option.some.injEq Prod.mk.injEq Sv.x.injEq Sc.a.injEq At.v.injEq At.o.injEq At.p.injEq Res.blk.injEq Res.own.injEq Value.int.injEq Value.bool.injEq Cont.u8.injEq Cont.u32.injEq Cont.u64.injEq Cont.c.injEq Cont.i64.injEq List.cons.injEq Ake Akd Ld R0 Aan Akc List.set_nil
attribute [push_cast] Tryd.underlying2 sz2 bz2 Akj zv2 Tryd.underlying3 sz3 bz3 Akk zv3 Tryd.underlying4 sz4 bz4 Akl zv4 Tryd.underlying5 sz5 bz5 Akm zv5 Tryd.underlying9 sz9 bz9 Akn zv9 Tryd.underlying12 Ako Akp Akq Akr Tryd.underlying13 Aks Akt Aku Akv Akw Akx Tryd.underlying15 Aky Akz Ak0 Ak1 Tryd.underlying16 Ak2 Ak3 Ak4 Ak5 Tryd.underlying17 Ak6 Ak7 Ak8 Ak9 Tryd.underlying20 Ala Alb Alc Ald Tryd.underlying21 Ale Alf Alg Alh Tryd.underlying22 Ali Alj Alk Alm Tryd.underlying23 Aln Alo Alp Alq Tryd.underlying24 Alr Als Alt Alu Tryd.underlying25 Alv Alw Alx Aly Tryd.underlying27 Alz Al0 Al1 Al2 Tryd.underlying28 Al3 Al4 Al5 Al6 Tryd.underlying29 Al7 Al8 Al9 Ama Amb Tryd.underlying30 Amc Amd Ame Amf Tryd.underlying31 Amg Amh Ami Amj Amk Aml Amm Amn Amo Amp Tryd.underlying32 Amq Amr Ams Amt Amu Amv Amw Amx Amy Amz Tryd.underlying40 Am0 Am1 Am2 Am3 Tryd.underlying41 Am4 Am5 Am6 Am7 Tryd.underlying45 Am8 Am9 Ana Anb Tryd.underlying46 Anc Ane Anf Ang Anh Ani Tryd.underlying47 Anj Ank Anl Anm Ann Ano Tryd.underlying55 Anp Anq Anr Ans Tryd.underlying58 Ant Anu Anv Anw Tryd.underlying59 Anx Any Anz An0 Tryd.underlying60 An1 An2 An3 An4 An5 An6 An7 An8 An9 Tryd.underlying61 Aoa Aob Aoc Aod Aoe Aof Aog Aoh Aoi Tryd.underlying62 Aoj Aok Aol Aom Tryd.underlying63 Aon Aoo Aop Aoq Tryd.underlying64 Aor Aos Aot Aou Aov Aow Aox Aoy Aoz Tryd.underlying65 Ao0 Ao1 Ao2 Ao3 Ao4 Ao5 Ao6 Ao7 Ao8 Tryd.underlying69 Ao9 Apa Apb Apc Tryd.underlying78 Apd Ape Apf Apg Aph Api Apj Tryd.underlying79 Apk Apl Apm Apn Apo App Apq Apr Tryd.underlying81 Aps Apt Apu Apv Tryd.underlying82 Apw Apx Apy Ap0 Ap1 Ap2 Ap3 Ap4 Ap5 Ap6 Ap7 Ap8 Ap9 Aqa Tryd.underlying83 Aqb Aqc Aqd Aqe Aqf Aqg Aqh Aqi Aqj Aqk Aql Aqm Aqn Aqo Tryd.underlying87 Aqp Aqq Aqr Aqs Tryd.underlying88 Aqt Aqu Aqv Aqw Aqx Aqy Aqz Aq0 Aq1 Aq2 Aq3 Aq4 Aq5 Aq6 Tryd.underlying89 Aq7 Aq8 Aq9 Ara Arb Arc Ard Arf Arg Arh Ari Arj Ark Arl Tryd.underlying104 Arm Arn Aro Arp Tryd.underlying108 Arq Arr Ars Art Tryd.underlying113 Aru Arv Arw Arx Tryd.underlying114 Ary Arz Ar0 Ar1 Ar2 Ar3 Tryd.underlying115 Ar4 Ar5 Ar6 Ar7 Ar8 Ar9 Tryd.underlying124 Asa Asb Asc Asd Ase Asf Tryd.underlying125 Asg Ash Asi Asj Ask Asl Tryd.underlying131 Asm Asn Aso Asp Asq Asr Tryd.underlying132 Ass Ast Asu Asv Asw Asx Tryd.underlying136 Asy Asz As0 As1 Tryd.underlying137 As2 As3 As4 As5 Tryd.underlying139 As6 As7 As8 As9 Tryd.underlying145 Ata Atb Atc Atd Ate Atf Atg Ath Tryd.underlying146 Ati Atj Atk Atl Atm Atn Ato Tryd.underlying147 Atp Atq Atr Ats Att Atu Atv Tryd.underlying148 Atw Atx Aty Atz At0 At1 At2 Tryd.underlying159 At3 At4 At5 At6 At7 At8 Tryd.underlying160 At9 Aua Aub Auc Aud Aue Auf Tryd.underlying165 Aug Auh Aui Auj Tryd.underlying166 Auk Aul Aum Aun Auo Aup Auq Tryd.underlying172 Aur Aus Aut Auu Auv Auw Tryd.underlying175 Aux Auy Auz Au0 Tryd.underlying176 Au1 Au2 Au3 Au4 Au5 Au6 Tryd.underlying177 Au7 Au8 Au9 Ava Avb Avc Tryd.underlying180 Avd Ave Avf Avg Tryd.underlying186 Avh Avi Avj Avk Tryd.underlying222 Avl Avm Avn Avo Tryd.underlying229 Avp Avq Avr Avs Avt Tryd.underlying230 Avu Avv Avw Avx Tryd.underlying234 Avy Avz Av0 Av1 Tryd.underlying237 Av2 Av3 Av4 Av5 Tryd.underlying238 Av6 Av7 Av8 Av9 Tryd.underlying239 Awa Awb Awc Awd Tryd.underlying246 Awe Awf Awg Awh Tryd.underlying247 Awi Awj Awk Awl Awm Awn Tryd.underlying248 Awo Awp Awq Awr Aws Awt Tryd.underlying250 Awu Awv Aww Awx Tryd.underlying253 Awy Awz Aw0 Aw1 Tryd.underlying259 Aw2 Aw3 Aw4 Aw5 Aw6 Aw7 Aw8 Tryd.underlying260 Aw9 Axa Axb Axc Axd Axe Axf Tryd.underlying268 Axg Axh Axi Axj Tryd.underlying269 Axk Axl Axm Axn Axo Tryd.underlying270 Axp Axq Axr Axs Axt Tryd.underlying274 Axu Axv Axw Axx Axy Tryd.underlying275 Axz Ax0 Ax1 Ax2 Ax3 Ax4 Tryd.underlying276 Ax5 Ax6 Ax7 Ax8 Ax9 Aya Tryd.underlying277 Ayb Ayc Ayd Aye Tryd.underlying278 Ayf Ayg Ayh Ayi Ayj Tryd.underlying283 Ayk Ayl Aym Ayn Ayo Tryd.underlying284 Ayp Ayq Ayr Ays Ayt Tryd.underlying287 Ayu Ayv Ayw Ayx Ayy Tryd.underlying304 Ayz Ay0 Ay1 Ay2 Tryd.underlying312 Ay3 Ay4 Ay5 Ay6
attribute [push_cast] Tryd.results3 Tryd.results4 Tryd.results5 Tryd.results6 Tryd.results7 Tryd.results8 Tryd.results9 Tryd.results10 Tryd.results11 Tryd.results12 Tryd.results13 Tryd.results14 Tryd.results15 Tryd.results16 Tryd.results17 Tryd.results18 Tryd.results19 Tryd.results20 Tryd.results21 Tryd.results22 Tryd.results23 Tryd.results24 Tryd.results25 Tryd.results26 Tryd.results27 Tryd.results28 Tryd.results29 Tryd.results30 Tryd.results31 Tryd.results32 Tryd.results33 Tryd.results34 Tryd.results35 Tryd.results36 Tryd.results37 Tryd.results38 Tryd.results39 Tryd.results40 Tryd.results41 Tryd.results42 Tryd.results43 Tryd.results44 Tryd.results45 Tryd.results46 Tryd.results47 Tryd.results48 Tryd.results49 Tryd.results50 Tryd.results51 Tryd.results52 Tryd.results53 Tryd.results54 Tryd.results55 Tryd.results56 Tryd.results57 Tryd.results58 Tryd.results59 Tryd.results60 Tryd.results61 Tryd.results62 Tryd.results63 Tryd.results64 Tryd.results65 Tryd.results66 Tryd.results67 Tryd.results68 Tryd.results69 Tryd.results71 Tryd.results72 Tryd.results73 Tryd.results74 Tryd.results75 Tryd.results76 Tryd.results77 Tryd.results78 Tryd.results79 Tryd.results80 Tryd.results81 Tryd.results82 Tryd.results83 Tryd.results84 Tryd.results85 Tryd.results86 Tryd.results87 Tryd.results88 Tryd.results89 Tryd.results90 Tryd.results91 Tryd.results92 Tryd.results93 Tryd.results94 Tryd.results95 Tryd.results96 Tryd.results97 Tryd.results98 Tryd.results99 Tryd.results100 Tryd.results101 Tryd.results102 Tryd.results103 Tryd.results107 Tryd.results108 Tryd.results109 Tryd.results110 Tryd.results111 Tryd.results112 Tryd.results117 Tryd.results118 Tryd.results119 Tryd.results120 Tryd.results121 Tryd.results122 Tryd.results123 Tryd.results124 Tryd.results125 Tryd.results126 Tryd.results127 Tryd.results128 Tryd.results129 Tryd.results130 Tryd.results131 Tryd.results132 Tryd.results133 Tryd.results134 Tryd.results135 Tryd.results136 Tryd.results137 Tryd.results138 Tryd.results139 Tryd.results141 Tryd.results142 Tryd.results143 Tryd.results144 Tryd.results145 Tryd.results149 Tryd.results150 Tryd.results152 Tryd.results154 Tryd.results156 Tryd.results159 Tryd.results160 Tryd.results161 Tryd.results162 Tryd.results163 Tryd.results164 Tryd.results165 Tryd.results167 Tryd.results170 Tryd.results190 Tryd.results191 Tryd.results192
end Go.Proofs.YtiaeollemmkclaaDoor
