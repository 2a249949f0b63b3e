import Derived.Test.YtedaafmfjhjfmaaGreatDoorEn3
import Derived.Test.YtedaafmfjhjfmaaGreatDoorProg
/- Facts on the types of the program, for the engine. Made by program. -/
namespace Go.Proofs.YtedaafmfjhjfmaaGreatDoor
open Go.RowKit
set_option linter.unusedSimpArgs false
theorem sz2:sz Tryz.prog 2=1:=by kernel_rfl
theorem bz2:bz Tryz.prog 2=8:=by kernel_rfl
theorem Ag7:ZOk Tryz.prog 2 (.c [.v (.int .i64 0)])=True:=eq_true ⟨.int .i64 0,by kernel_rfl,fun _=>by first|rfl|simp [Value.cells,Cont.vals,arr8,arr32,arr64]⟩
theorem zv2:Aj Tryz.prog 2 (.a (.v (.int .i64 0)))=True:=eq_true ⟨.int .i64 0,by kernel_rfl,fun _=>by first|rfl|simp [Sc.val,At.val,arr8,arr32,arr64]⟩
theorem sz3:sz Tryz.prog 3=1:=by kernel_rfl
theorem bz3:bz Tryz.prog 3=8:=by kernel_rfl
theorem Ag8:ZOk Tryz.prog 3 (.c [.v (.int .i64 0)])=True:=eq_true ⟨.int .i64 0,by kernel_rfl,fun _=>by first|rfl|simp [Value.cells,Cont.vals,arr8,arr32,arr64]⟩
theorem zv3:Aj Tryz.prog 3 (.a (.v (.int .i64 0)))=True:=eq_true ⟨.int .i64 0,by kernel_rfl,fun _=>by first|rfl|simp [Sc.val,At.val,arr8,arr32,arr64]⟩
theorem sz4:sz Tryz.prog 4=1:=by kernel_rfl
theorem bz4:bz Tryz.prog 4=1:=by kernel_rfl
theorem Ag9:ZOk Tryz.prog 4 (.c [.v (.bool false)])=True:=eq_true ⟨.bool false,by kernel_rfl,fun _=>by first|rfl|simp [Value.cells,Cont.vals,arr8,arr32,arr64]⟩
theorem zv4:Aj Tryz.prog 4 (.a (.v (.bool false)))=True:=eq_true ⟨.bool false,by kernel_rfl,fun _=>by first|rfl|simp [Sc.val,At.val,arr8,arr32,arr64]⟩
theorem sz5:sz Tryz.prog 5=1:=by kernel_rfl
theorem bz5:bz Tryz.prog 5=1:=by kernel_rfl
theorem Aha:ZOk Tryz.prog 5 (.c [.v (.int .u8 0)])=True:=eq_true ⟨.int .u8 0,by kernel_rfl,fun _=>by first|rfl|simp [Value.cells,Cont.vals,arr8,arr32,arr64]⟩
theorem zv5:Aj Tryz.prog 5 (.a (.v (.int .u8 0)))=True:=eq_true ⟨.int .u8 0,by kernel_rfl,fun _=>by first|rfl|simp [Sc.val,At.val,arr8,arr32,arr64]⟩
theorem sz9:sz Tryz.prog 9=1:=by kernel_rfl
theorem bz9:bz Tryz.prog 9=16:=by kernel_rfl
theorem Ahb:ZOk Tryz.prog 9 (.c [.v (.string .empty)])=True:=eq_true ⟨.string .empty,by kernel_rfl,fun _=>by first|rfl|simp [Value.cells,Cont.vals,arr8,arr32,arr64]⟩
theorem zv9:Aj Tryz.prog 9 (.a (.v (.string .empty)))=True:=eq_true ⟨.string .empty,by kernel_rfl,fun _=>by first|rfl|simp [Sc.val,At.val,arr8,arr32,arr64]⟩
theorem Ahc:sz Tryz.prog 12=1:=by kernel_rfl
theorem Ahd:bz Tryz.prog 12=8:=by kernel_rfl
theorem Ahe:ZOk Tryz.prog 12 (.c [.v (.int .u64 0)])=True:=eq_true ⟨.int .u64 0,by kernel_rfl,fun _=>by first|rfl|simp [Value.cells,Cont.vals,arr8,arr32,arr64]⟩
theorem Ahf:Aj Tryz.prog 12 (.a (.v (.int .u64 0)))=True:=eq_true ⟨.int .u64 0,by kernel_rfl,fun _=>by first|rfl|simp [Sc.val,At.val,arr8,arr32,arr64]⟩
theorem Ahg:sz Tryz.prog 13=2:=by kernel_rfl
theorem Ahh:bz Tryz.prog 13=24:=by kernel_rfl
theorem Ahi:Ac Tryz.prog 13 0=some (0,9):=by kernel_rfl
theorem Ahj:Ac Tryz.prog 13 1=some (1,12):=by kernel_rfl
theorem Ahk:ZOk Tryz.prog 13 (.c [.v (.string .empty),.v (.int .u64 0)])=True:=eq_true ⟨.agg #[.string .empty,.int .u64 0],by kernel_rfl,fun _=>by first|rfl|simp [Value.cells,Cont.vals,arr8,arr32,arr64]⟩
theorem Ahl:Aj Tryz.prog 13 (.g [.v (.string .empty),.v (.int .u64 0)])=True:=eq_true ⟨.agg #[.string .empty,.int .u64 0],by kernel_rfl,fun _=>by first|rfl|simp [Sc.val,At.val,arr8,arr32,arr64]⟩
theorem Ahm:sz Tryz.prog 15=1:=by kernel_rfl
theorem Ahn:bz Tryz.prog 15=8:=by kernel_rfl
theorem Aho:ZOk Tryz.prog 15 (.c [.v (.pointer none)])=True:=eq_true ⟨.pointer none,by kernel_rfl,fun _=>by first|rfl|simp [Value.cells,Cont.vals,arr8,arr32,arr64]⟩
theorem Ahp:Aj Tryz.prog 15 (.a (.v (.pointer none)))=True:=eq_true ⟨.pointer none,by kernel_rfl,fun _=>by first|rfl|simp [Sc.val,At.val,arr8,arr32,arr64]⟩
theorem Ahq:sz Tryz.prog 16=1:=by kernel_rfl
theorem Ahr:bz Tryz.prog 16=8:=by kernel_rfl
theorem Ahs:ZOk Tryz.prog 16 (.c [.v (.pointer none)])=True:=eq_true ⟨.pointer none,by kernel_rfl,fun _=>by first|rfl|simp [Value.cells,Cont.vals,arr8,arr32,arr64]⟩
theorem Aht:Aj Tryz.prog 16 (.a (.v (.pointer none)))=True:=eq_true ⟨.pointer none,by kernel_rfl,fun _=>by first|rfl|simp [Sc.val,At.val,arr8,arr32,arr64]⟩
theorem Ahu:sz Tryz.prog 17=1:=by kernel_rfl
theorem Ahv:bz Tryz.prog 17=8:=by kernel_rfl
theorem Ahw:ZOk Tryz.prog 17 (.c [.v (.pointer none)])=True:=eq_true ⟨.pointer none,by kernel_rfl,fun _=>by first|rfl|simp [Value.cells,Cont.vals,arr8,arr32,arr64]⟩
theorem Ahx:Aj Tryz.prog 17 (.a (.v (.pointer none)))=True:=eq_true ⟨.pointer none,by kernel_rfl,fun _=>by first|rfl|simp [Sc.val,At.val,arr8,arr32,arr64]⟩
theorem Ahy:sz Tryz.prog 20=1:=by kernel_rfl
theorem Ahz:bz Tryz.prog 20=16:=by kernel_rfl
theorem Ah0:ZOk Tryz.prog 20 (.c [.v .nilIface])=True:=eq_true ⟨.nilIface,by kernel_rfl,fun _=>by first|rfl|simp [Value.cells,Cont.vals,arr8,arr32,arr64]⟩
theorem Ah1:Aj Tryz.prog 20 (.a (.v (.nilIface)))=True:=eq_true ⟨.nilIface,by kernel_rfl,fun _=>by first|rfl|simp [Sc.val,At.val,arr8,arr32,arr64]⟩
theorem Ah2:sz Tryz.prog 21=1:=by kernel_rfl
theorem Ah3:bz Tryz.prog 21=4:=by kernel_rfl
theorem Ah4:ZOk Tryz.prog 21 (.c [.v (.int .i32 0)])=True:=eq_true ⟨.int .i32 0,by kernel_rfl,fun _=>by first|rfl|simp [Value.cells,Cont.vals,arr8,arr32,arr64]⟩
theorem Ah5:Aj Tryz.prog 21 (.a (.v (.int .i32 0)))=True:=eq_true ⟨.int .i32 0,by kernel_rfl,fun _=>by first|rfl|simp [Sc.val,At.val,arr8,arr32,arr64]⟩
theorem Ah6:sz Tryz.prog 22=1:=by kernel_rfl
theorem Ah7:bz Tryz.prog 22=24:=by kernel_rfl
theorem Ah8:ZOk Tryz.prog 22 (.c [.v (.slice none 0 0)])=True:=eq_true ⟨.slice none 0 0,by kernel_rfl,fun _=>by first|rfl|simp [Value.cells,Cont.vals,arr8,arr32,arr64]⟩
theorem Ah9:Aj Tryz.prog 22 (.a (.v (.slice none 0 0)))=True:=eq_true ⟨.slice none 0 0,by kernel_rfl,fun _=>by first|rfl|simp [Sc.val,At.val,arr8,arr32,arr64]⟩
theorem Aia:sz Tryz.prog 23=1:=by kernel_rfl
theorem Aib:bz Tryz.prog 23=24:=by kernel_rfl
theorem Aic:ZOk Tryz.prog 23 (.c [.v (.slice none 0 0)])=True:=eq_true ⟨.slice none 0 0,by kernel_rfl,fun _=>by first|rfl|simp [Value.cells,Cont.vals,arr8,arr32,arr64]⟩
theorem Aid:Aj Tryz.prog 23 (.a (.v (.slice none 0 0)))=True:=eq_true ⟨.slice none 0 0,by kernel_rfl,fun _=>by first|rfl|simp [Sc.val,At.val,arr8,arr32,arr64]⟩
theorem Aie:sz Tryz.prog 24=5:=by kernel_rfl
theorem Aif:bz Tryz.prog 24=72:=by kernel_rfl
theorem Aig:Ac Tryz.prog 24 0=some (0,3):=by kernel_rfl
theorem Aih:Ac Tryz.prog 24 1=some (1,22):=by kernel_rfl
theorem Aii:Ac Tryz.prog 24 2=some (2,23):=by kernel_rfl
theorem Aij:Ac Tryz.prog 24 3=some (3,3):=by kernel_rfl
theorem Aik:Ac Tryz.prog 24 4=some (4,3):=by kernel_rfl
theorem Ail:ZOk Tryz.prog 24 (.c [.v (.int .i64 0),.v (.slice none 0 0),.v (.slice none 0 0),.v (.int .i64 0),.v (.int .i64 0)])=True:=eq_true ⟨.agg #[.int .i64 0,.slice none 0 0,.slice none 0 0,.int .i64 0,.int .i64 0],by kernel_rfl,fun _=>by first|rfl|simp [Value.cells,Cont.vals,arr8,arr32,arr64]⟩
theorem Aim:Aj Tryz.prog 24 (.g [.v (.int .i64 0),.v (.slice none 0 0),.v (.slice none 0 0),.v (.int .i64 0),.v (.int .i64 0)])=True:=eq_true ⟨.agg #[.int .i64 0,.slice none 0 0,.slice none 0 0,.int .i64 0,.int .i64 0],by kernel_rfl,fun _=>by first|rfl|simp [Sc.val,At.val,arr8,arr32,arr64]⟩
theorem Ain:sz Tryz.prog 25=5:=by kernel_rfl
theorem Aio:bz Tryz.prog 25=72:=by kernel_rfl
theorem Aip:Ac Tryz.prog 25 0=some (0,3):=by kernel_rfl
theorem Aiq:Ac Tryz.prog 25 1=some (1,22):=by kernel_rfl
theorem Air:Ac Tryz.prog 25 2=some (2,23):=by kernel_rfl
theorem Ais:Ac Tryz.prog 25 3=some (3,3):=by kernel_rfl
theorem Ait:Ac Tryz.prog 25 4=some (4,3):=by kernel_rfl
theorem Aiu:ZOk Tryz.prog 25 (.c [.v (.int .i64 0),.v (.slice none 0 0),.v (.slice none 0 0),.v (.int .i64 0),.v (.int .i64 0)])=True:=eq_true ⟨.agg #[.int .i64 0,.slice none 0 0,.slice none 0 0,.int .i64 0,.int .i64 0],by kernel_rfl,fun _=>by first|rfl|simp [Value.cells,Cont.vals,arr8,arr32,arr64]⟩
theorem Aiv:Aj Tryz.prog 25 (.g [.v (.int .i64 0),.v (.slice none 0 0),.v (.slice none 0 0),.v (.int .i64 0),.v (.int .i64 0)])=True:=eq_true ⟨.agg #[.int .i64 0,.slice none 0 0,.slice none 0 0,.int .i64 0,.int .i64 0],by kernel_rfl,fun _=>by first|rfl|simp [Sc.val,At.val,arr8,arr32,arr64]⟩
theorem Aiw:sz Tryz.prog 26=2:=by kernel_rfl
theorem Aix:bz Tryz.prog 26=16:=by kernel_rfl
theorem Aiy:Ki Tryz.prog 26 2 .i64=True:=eq_true ⟨3,Tryz.underlying26,Tryz.underlying3,by kernel_rfl,by kernel_rfl,by kernel_rfl⟩
theorem Aiz:sz Tryz.prog 27=1:=by kernel_rfl
theorem Ai0:bz Tryz.prog 27=24:=by kernel_rfl
theorem Ai1:ZOk Tryz.prog 27 (.c [.v (.slice none 0 0)])=True:=eq_true ⟨.slice none 0 0,by kernel_rfl,fun _=>by first|rfl|simp [Value.cells,Cont.vals,arr8,arr32,arr64]⟩
theorem Ai2:Aj Tryz.prog 27 (.a (.v (.slice none 0 0)))=True:=eq_true ⟨.slice none 0 0,by kernel_rfl,fun _=>by first|rfl|simp [Sc.val,At.val,arr8,arr32,arr64]⟩
theorem Ai3:sz Tryz.prog 30=1:=by kernel_rfl
theorem Ai4:bz Tryz.prog 30=8:=by kernel_rfl
theorem Ai5:ZOk Tryz.prog 30 (.c [.v (.pointer none)])=True:=eq_true ⟨.pointer none,by kernel_rfl,fun _=>by first|rfl|simp [Value.cells,Cont.vals,arr8,arr32,arr64]⟩
theorem Ai6:Aj Tryz.prog 30 (.a (.v (.pointer none)))=True:=eq_true ⟨.pointer none,by kernel_rfl,fun _=>by first|rfl|simp [Sc.val,At.val,arr8,arr32,arr64]⟩
theorem Ai7:sz Tryz.prog 31=1:=by kernel_rfl
theorem Ai8:bz Tryz.prog 31=16:=by kernel_rfl
theorem Ai9:ZOk Tryz.prog 31 (.c [.v .nilIface])=True:=eq_true ⟨.nilIface,by kernel_rfl,fun _=>by first|rfl|simp [Value.cells,Cont.vals,arr8,arr32,arr64]⟩
theorem Aja:Aj Tryz.prog 31 (.a (.v (.nilIface)))=True:=eq_true ⟨.nilIface,by kernel_rfl,fun _=>by first|rfl|simp [Sc.val,At.val,arr8,arr32,arr64]⟩
theorem Ajb:sz Tryz.prog 32=1:=by kernel_rfl
theorem Ajc:bz Tryz.prog 32=16:=by kernel_rfl
theorem Ajd:ZOk Tryz.prog 32 (.c [.v .nilIface])=True:=eq_true ⟨.nilIface,by kernel_rfl,fun _=>by first|rfl|simp [Value.cells,Cont.vals,arr8,arr32,arr64]⟩
theorem Aje:Aj Tryz.prog 32 (.a (.v (.nilIface)))=True:=eq_true ⟨.nilIface,by kernel_rfl,fun _=>by first|rfl|simp [Sc.val,At.val,arr8,arr32,arr64]⟩
theorem Ajf:sz Tryz.prog 35=1:=by kernel_rfl
theorem Ajg:bz Tryz.prog 35=24:=by kernel_rfl
theorem Ajh:ZOk Tryz.prog 35 (.c [.v (.slice none 0 0)])=True:=eq_true ⟨.slice none 0 0,by kernel_rfl,fun _=>by first|rfl|simp [Value.cells,Cont.vals,arr8,arr32,arr64]⟩
theorem Aji:Aj Tryz.prog 35 (.a (.v (.slice none 0 0)))=True:=eq_true ⟨.slice none 0 0,by kernel_rfl,fun _=>by first|rfl|simp [Sc.val,At.val,arr8,arr32,arr64]⟩
theorem Ajj:sz Tryz.prog 36=1:=by kernel_rfl
theorem Ajk:bz Tryz.prog 36=24:=by kernel_rfl
theorem Ajl:ZOk Tryz.prog 36 (.c [.v (.slice none 0 0)])=True:=eq_true ⟨.slice none 0 0,by kernel_rfl,fun _=>by first|rfl|simp [Value.cells,Cont.vals,arr8,arr32,arr64]⟩
theorem Ajm:Aj Tryz.prog 36 (.a (.v (.slice none 0 0)))=True:=eq_true ⟨.slice none 0 0,by kernel_rfl,fun _=>by first|rfl|simp [Sc.val,At.val,arr8,arr32,arr64]⟩
theorem Ajn:sz Tryz.prog 37=5:=by kernel_rfl
theorem Ajo:bz Tryz.prog 37=72:=by kernel_rfl
theorem Ajp:Ac Tryz.prog 37 0=some (0,3):=by kernel_rfl
theorem Ajq:Ac Tryz.prog 37 1=some (1,35):=by kernel_rfl
theorem Ajr:Ac Tryz.prog 37 2=some (2,36):=by kernel_rfl
theorem Ajs:Ac Tryz.prog 37 3=some (3,3):=by kernel_rfl
theorem Ajt:Ac Tryz.prog 37 4=some (4,3):=by kernel_rfl
theorem Aju:ZOk Tryz.prog 37 (.c [.v (.int .i64 0),.v (.slice none 0 0),.v (.slice none 0 0),.v (.int .i64 0),.v (.int .i64 0)])=True:=eq_true ⟨.agg #[.int .i64 0,.slice none 0 0,.slice none 0 0,.int .i64 0,.int .i64 0],by kernel_rfl,fun _=>by first|rfl|simp [Value.cells,Cont.vals,arr8,arr32,arr64]⟩
theorem Ajv:Aj Tryz.prog 37 (.g [.v (.int .i64 0),.v (.slice none 0 0),.v (.slice none 0 0),.v (.int .i64 0),.v (.int .i64 0)])=True:=eq_true ⟨.agg #[.int .i64 0,.slice none 0 0,.slice none 0 0,.int .i64 0,.int .i64 0],by kernel_rfl,fun _=>by first|rfl|simp [Sc.val,At.val,arr8,arr32,arr64]⟩
theorem Ajw:sz Tryz.prog 38=5:=by kernel_rfl
theorem Ajx:bz Tryz.prog 38=72:=by kernel_rfl
theorem Ajy:Ac Tryz.prog 38 0=some (0,3):=by kernel_rfl
theorem Ajz:Ac Tryz.prog 38 1=some (1,35):=by kernel_rfl
theorem Aj0:Ac Tryz.prog 38 2=some (2,36):=by kernel_rfl
theorem Aj1:Ac Tryz.prog 38 3=some (3,3):=by kernel_rfl
theorem Aj2:Ac Tryz.prog 38 4=some (4,3):=by kernel_rfl
theorem Aj3:ZOk Tryz.prog 38 (.c [.v (.int .i64 0),.v (.slice none 0 0),.v (.slice none 0 0),.v (.int .i64 0),.v (.int .i64 0)])=True:=eq_true ⟨.agg #[.int .i64 0,.slice none 0 0,.slice none 0 0,.int .i64 0,.int .i64 0],by kernel_rfl,fun _=>by first|rfl|simp [Value.cells,Cont.vals,arr8,arr32,arr64]⟩
theorem Aj4:Aj Tryz.prog 38 (.g [.v (.int .i64 0),.v (.slice none 0 0),.v (.slice none 0 0),.v (.int .i64 0),.v (.int .i64 0)])=True:=eq_true ⟨.agg #[.int .i64 0,.slice none 0 0,.slice none 0 0,.int .i64 0,.int .i64 0],by kernel_rfl,fun _=>by first|rfl|simp [Sc.val,At.val,arr8,arr32,arr64]⟩
theorem Aj5:sz Tryz.prog 40=1:=by kernel_rfl
theorem Aj6:bz Tryz.prog 40=8:=by kernel_rfl
theorem Aj7:ZOk Tryz.prog 40 (.c [.v (.map none)])=True:=eq_true ⟨.map none,by kernel_rfl,fun _=>by first|rfl|simp [Value.cells,Cont.vals,arr8,arr32,arr64]⟩
theorem Aj8:Aj Tryz.prog 40 (.a (.v (.map none)))=True:=eq_true ⟨.map none,by kernel_rfl,fun _=>by first|rfl|simp [Sc.val,At.val,arr8,arr32,arr64]⟩
theorem Aj9:sz Tryz.prog 41=1:=by kernel_rfl
theorem Aka:bz Tryz.prog 41=8:=by kernel_rfl
theorem Akb:ZOk Tryz.prog 41 (.c [.v (.int .u64 0)])=True:=eq_true ⟨.int .u64 0,by kernel_rfl,fun _=>by first|rfl|simp [Value.cells,Cont.vals,arr8,arr32,arr64]⟩
theorem Akc:Aj Tryz.prog 41 (.a (.v (.int .u64 0)))=True:=eq_true ⟨.int .u64 0,by kernel_rfl,fun _=>by first|rfl|simp [Sc.val,At.val,arr8,arr32,arr64]⟩
theorem Akd:sz Tryz.prog 42=32:=by kernel_rfl
theorem Ake:bz Tryz.prog 42=32:=by kernel_rfl
theorem Akf:Ki Tryz.prog 42 32 .u8=True:=eq_true ⟨5,Tryz.underlying42,Tryz.underlying5,by kernel_rfl,by kernel_rfl,by kernel_rfl⟩
theorem Akg:ZOk Tryz.prog 42 (.u8 (List.replicate 32 0))=True:=eq_true ⟨.agg (arr8 (List.replicate 32 0)),by kernel_rfl,fun _=>by first|rfl|simp [Value.cells,Cont.vals,arr8,arr32,arr64]⟩
theorem Akh:Aj Tryz.prog 42 (.a8 (List.replicate 32 0))=True:=eq_true ⟨.agg (arr8 (List.replicate 32 0)),by kernel_rfl,fun _=>by first|rfl|simp [Sc.val,At.val,arr8,arr32,arr64]⟩
theorem Aki:sz Tryz.prog 43=1:=by kernel_rfl
theorem Akj:bz Tryz.prog 43=24:=by kernel_rfl
theorem Akk:ZOk Tryz.prog 43 (.c [.v (.slice none 0 0)])=True:=eq_true ⟨.slice none 0 0,by kernel_rfl,fun _=>by first|rfl|simp [Value.cells,Cont.vals,arr8,arr32,arr64]⟩
theorem Akl:Aj Tryz.prog 43 (.a (.v (.slice none 0 0)))=True:=eq_true ⟨.slice none 0 0,by kernel_rfl,fun _=>by first|rfl|simp [Sc.val,At.val,arr8,arr32,arr64]⟩
theorem Akm:sz Tryz.prog 44=1:=by kernel_rfl
theorem Akn:bz Tryz.prog 44=24:=by kernel_rfl
theorem Ako:ZOk Tryz.prog 44 (.c [.v (.slice none 0 0)])=True:=eq_true ⟨.slice none 0 0,by kernel_rfl,fun _=>by first|rfl|simp [Value.cells,Cont.vals,arr8,arr32,arr64]⟩
theorem Akp:Aj Tryz.prog 44 (.a (.v (.slice none 0 0)))=True:=eq_true ⟨.slice none 0 0,by kernel_rfl,fun _=>by first|rfl|simp [Sc.val,At.val,arr8,arr32,arr64]⟩
theorem Akq:sz Tryz.prog 45=1:=by kernel_rfl
theorem Akr:bz Tryz.prog 45=24:=by kernel_rfl
theorem Aks:ZOk Tryz.prog 45 (.c [.v (.slice none 0 0)])=True:=eq_true ⟨.slice none 0 0,by kernel_rfl,fun _=>by first|rfl|simp [Value.cells,Cont.vals,arr8,arr32,arr64]⟩
theorem Akt:Aj Tryz.prog 45 (.a (.v (.slice none 0 0)))=True:=eq_true ⟨.slice none 0 0,by kernel_rfl,fun _=>by first|rfl|simp [Sc.val,At.val,arr8,arr32,arr64]⟩
theorem Aku:sz Tryz.prog 46=1:=by kernel_rfl
theorem Akv:bz Tryz.prog 46=24:=by kernel_rfl
theorem Akw:ZOk Tryz.prog 46 (.c [.v (.slice none 0 0)])=True:=eq_true ⟨.slice none 0 0,by kernel_rfl,fun _=>by first|rfl|simp [Value.cells,Cont.vals,arr8,arr32,arr64]⟩
theorem Akx:Aj Tryz.prog 46 (.a (.v (.slice none 0 0)))=True:=eq_true ⟨.slice none 0 0,by kernel_rfl,fun _=>by first|rfl|simp [Sc.val,At.val,arr8,arr32,arr64]⟩
theorem Aky:sz Tryz.prog 47=43:=by kernel_rfl
theorem Akz:bz Tryz.prog 47=184:=by kernel_rfl
theorem Ak0:Ac Tryz.prog 47 0=some (0,5):=by kernel_rfl
theorem Ak1:Ac Tryz.prog 47 1=some (1,3):=by kernel_rfl
theorem Ak2:Ac Tryz.prog 47 2=some (2,3):=by kernel_rfl
theorem Ak3:Ac Tryz.prog 47 3=some (3,3):=by kernel_rfl
theorem Ak4:Ac Tryz.prog 47 4=some (4,3):=by kernel_rfl
theorem Ak5:Ac Tryz.prog 47 5=some (5,41):=by kernel_rfl
theorem Ak6:Ac Tryz.prog 47 6=some (6,42):=by kernel_rfl
theorem Ak7:Ac Tryz.prog 47 7=some (38,43):=by kernel_rfl
theorem Ak8:Ac Tryz.prog 47 8=some (39,44):=by kernel_rfl
theorem Ak9:Ac Tryz.prog 47 9=some (40,45):=by kernel_rfl
theorem Ala:Ac Tryz.prog 47 10=some (41,46):=by kernel_rfl
theorem Alb:Ac Tryz.prog 47 11=some (42,3):=by kernel_rfl
theorem Alc:sz Tryz.prog 48=43:=by kernel_rfl
theorem Ald:bz Tryz.prog 48=184:=by kernel_rfl
theorem Ale:Ac Tryz.prog 48 0=some (0,5):=by kernel_rfl
theorem Alf:Ac Tryz.prog 48 1=some (1,3):=by kernel_rfl
theorem Alg:Ac Tryz.prog 48 2=some (2,3):=by kernel_rfl
theorem Alh:Ac Tryz.prog 48 3=some (3,3):=by kernel_rfl
theorem Ali:Ac Tryz.prog 48 4=some (4,3):=by kernel_rfl
theorem Alj:Ac Tryz.prog 48 5=some (5,41):=by kernel_rfl
theorem Alk:Ac Tryz.prog 48 6=some (6,42):=by kernel_rfl
theorem Alm:Ac Tryz.prog 48 7=some (38,43):=by kernel_rfl
theorem Aln:Ac Tryz.prog 48 8=some (39,44):=by kernel_rfl
theorem Alo:Ac Tryz.prog 48 9=some (40,45):=by kernel_rfl
theorem Alp:Ac Tryz.prog 48 10=some (41,46):=by kernel_rfl
theorem Alq:Ac Tryz.prog 48 11=some (42,3):=by kernel_rfl
theorem Alr:sz Tryz.prog 50=1:=by kernel_rfl
theorem Als:bz Tryz.prog 50=24:=by kernel_rfl
theorem Alt:ZOk Tryz.prog 50 (.c [.v (.slice none 0 0)])=True:=eq_true ⟨.slice none 0 0,by kernel_rfl,fun _=>by first|rfl|simp [Value.cells,Cont.vals,arr8,arr32,arr64]⟩
theorem Alu:Aj Tryz.prog 50 (.a (.v (.slice none 0 0)))=True:=eq_true ⟨.slice none 0 0,by kernel_rfl,fun _=>by first|rfl|simp [Sc.val,At.val,arr8,arr32,arr64]⟩
theorem Alv:sz Tryz.prog 51=43:=by kernel_rfl
theorem Alw:bz Tryz.prog 51=184:=by kernel_rfl
theorem Alx:Ac Tryz.prog 51 0=some (0,5):=by kernel_rfl
theorem Aly:Ac Tryz.prog 51 1=some (1,3):=by kernel_rfl
theorem Alz:Ac Tryz.prog 51 2=some (2,3):=by kernel_rfl
theorem Al0:Ac Tryz.prog 51 3=some (3,3):=by kernel_rfl
theorem Al1:Ac Tryz.prog 51 4=some (4,3):=by kernel_rfl
theorem Al2:Ac Tryz.prog 51 5=some (5,41):=by kernel_rfl
theorem Al3:Ac Tryz.prog 51 6=some (6,42):=by kernel_rfl
theorem Al4:Ac Tryz.prog 51 7=some (38,43):=by kernel_rfl
theorem Al5:Ac Tryz.prog 51 8=some (39,44):=by kernel_rfl
theorem Al6:Ac Tryz.prog 51 9=some (40,50):=by kernel_rfl
theorem Al7:Ac Tryz.prog 51 10=some (41,46):=by kernel_rfl
theorem Al8:Ac Tryz.prog 51 11=some (42,3):=by kernel_rfl
theorem Al9:sz Tryz.prog 52=43:=by kernel_rfl
theorem Ama:bz Tryz.prog 52=184:=by kernel_rfl
theorem Amb:Ac Tryz.prog 52 0=some (0,5):=by kernel_rfl
theorem Amc:Ac Tryz.prog 52 1=some (1,3):=by kernel_rfl
theorem Amd:Ac Tryz.prog 52 2=some (2,3):=by kernel_rfl
theorem Ame:Ac Tryz.prog 52 3=some (3,3):=by kernel_rfl
theorem Amf:Ac Tryz.prog 52 4=some (4,3):=by kernel_rfl
theorem Amg:Ac Tryz.prog 52 5=some (5,41):=by kernel_rfl
theorem Amh:Ac Tryz.prog 52 6=some (6,42):=by kernel_rfl
theorem Ami:Ac Tryz.prog 52 7=some (38,43):=by kernel_rfl
theorem Amj:Ac Tryz.prog 52 8=some (39,44):=by kernel_rfl
theorem Amk:Ac Tryz.prog 52 9=some (40,50):=by kernel_rfl
theorem Aml:Ac Tryz.prog 52 10=some (41,46):=by kernel_rfl
theorem Amm:Ac Tryz.prog 52 11=some (42,3):=by kernel_rfl
theorem Amn:sz Tryz.prog 55=1:=by kernel_rfl
theorem Amo:bz Tryz.prog 55=24:=by kernel_rfl
theorem Amp:ZOk Tryz.prog 55 (.c [.v (.slice none 0 0)])=True:=eq_true ⟨.slice none 0 0,by kernel_rfl,fun _=>by first|rfl|simp [Value.cells,Cont.vals,arr8,arr32,arr64]⟩
theorem Amq:Aj Tryz.prog 55 (.a (.v (.slice none 0 0)))=True:=eq_true ⟨.slice none 0 0,by kernel_rfl,fun _=>by first|rfl|simp [Sc.val,At.val,arr8,arr32,arr64]⟩
theorem Amr:sz Tryz.prog 59=45:=by kernel_rfl
theorem Ams:bz Tryz.prog 59=200:=by kernel_rfl
theorem Amt:Ac Tryz.prog 59 0=some (0,4):=by kernel_rfl
theorem Amu:Ac Tryz.prog 59 1=some (1,3):=by kernel_rfl
theorem Amv:Ac Tryz.prog 59 2=some (2,48):=by kernel_rfl
theorem Amw:sz Tryz.prog 60=45:=by kernel_rfl
theorem Amx:bz Tryz.prog 60=200:=by kernel_rfl
theorem Amy:Ac Tryz.prog 60 0=some (0,4):=by kernel_rfl
theorem Amz:Ac Tryz.prog 60 1=some (1,3):=by kernel_rfl
theorem Am0:Ac Tryz.prog 60 2=some (2,48):=by kernel_rfl
theorem Am1:sz Tryz.prog 66=1:=by kernel_rfl
theorem Am2:bz Tryz.prog 66=8:=by kernel_rfl
theorem Am3:ZOk Tryz.prog 66 (.c [.v (.pointer none)])=True:=eq_true ⟨.pointer none,by kernel_rfl,fun _=>by first|rfl|simp [Value.cells,Cont.vals,arr8,arr32,arr64]⟩
theorem Am4:Aj Tryz.prog 66 (.a (.v (.pointer none)))=True:=eq_true ⟨.pointer none,by kernel_rfl,fun _=>by first|rfl|simp [Sc.val,At.val,arr8,arr32,arr64]⟩
theorem Am5:sz Tryz.prog 78=1:=by kernel_rfl
theorem Am6:bz Tryz.prog 78=24:=by kernel_rfl
theorem Am7:ZOk Tryz.prog 78 (.c [.v (.slice none 0 0)])=True:=eq_true ⟨.slice none 0 0,by kernel_rfl,fun _=>by first|rfl|simp [Value.cells,Cont.vals,arr8,arr32,arr64]⟩
theorem Am8:Aj Tryz.prog 78 (.a (.v (.slice none 0 0)))=True:=eq_true ⟨.slice none 0 0,by kernel_rfl,fun _=>by first|rfl|simp [Sc.val,At.val,arr8,arr32,arr64]⟩
theorem Am9:sz Tryz.prog 79=1:=by kernel_rfl
theorem Ana:bz Tryz.prog 79=8:=by kernel_rfl
theorem Anb:ZOk Tryz.prog 79 (.c [.v (.pointer none)])=True:=eq_true ⟨.pointer none,by kernel_rfl,fun _=>by first|rfl|simp [Value.cells,Cont.vals,arr8,arr32,arr64]⟩
theorem Anc:Aj Tryz.prog 79 (.a (.v (.pointer none)))=True:=eq_true ⟨.pointer none,by kernel_rfl,fun _=>by first|rfl|simp [Sc.val,At.val,arr8,arr32,arr64]⟩
theorem Ane:sz Tryz.prog 82=44:=by kernel_rfl
theorem Anf:bz Tryz.prog 82=192:=by kernel_rfl
theorem Ang:Ac Tryz.prog 82 0=some (0,52):=by kernel_rfl
theorem Anh:Ac Tryz.prog 82 1=some (43,3):=by kernel_rfl
theorem Ani:sz Tryz.prog 83=44:=by kernel_rfl
theorem Anj:bz Tryz.prog 83=192:=by kernel_rfl
theorem Ank:Ac Tryz.prog 83 0=some (0,52):=by kernel_rfl
theorem Anl:Ac Tryz.prog 83 1=some (43,3):=by kernel_rfl
theorem Anm:sz Tryz.prog 86=3:=by kernel_rfl
theorem Ann:bz Tryz.prog 86=40:=by kernel_rfl
theorem Ano:Ac Tryz.prog 86 0=some (0,3):=by kernel_rfl
theorem Anp:Ac Tryz.prog 86 1=some (1,43):=by kernel_rfl
theorem Anq:Ac Tryz.prog 86 2=some (2,3):=by kernel_rfl
theorem Anr:ZOk Tryz.prog 86 (.c [.v (.int .i64 0),.v (.slice none 0 0),.v (.int .i64 0)])=True:=eq_true ⟨.agg #[.int .i64 0,.slice none 0 0,.int .i64 0],by kernel_rfl,fun _=>by first|rfl|simp [Value.cells,Cont.vals,arr8,arr32,arr64]⟩
theorem Ans:Aj Tryz.prog 86 (.g [.v (.int .i64 0),.v (.slice none 0 0),.v (.int .i64 0)])=True:=eq_true ⟨.agg #[.int .i64 0,.slice none 0 0,.int .i64 0],by kernel_rfl,fun _=>by first|rfl|simp [Sc.val,At.val,arr8,arr32,arr64]⟩
theorem Ant:sz Tryz.prog 87=3:=by kernel_rfl
theorem Anu:bz Tryz.prog 87=40:=by kernel_rfl
theorem Anv:Ac Tryz.prog 87 0=some (0,3):=by kernel_rfl
theorem Anw:Ac Tryz.prog 87 1=some (1,43):=by kernel_rfl
theorem Anx:Ac Tryz.prog 87 2=some (2,3):=by kernel_rfl
theorem Any:ZOk Tryz.prog 87 (.c [.v (.int .i64 0),.v (.slice none 0 0),.v (.int .i64 0)])=True:=eq_true ⟨.agg #[.int .i64 0,.slice none 0 0,.int .i64 0],by kernel_rfl,fun _=>by first|rfl|simp [Value.cells,Cont.vals,arr8,arr32,arr64]⟩
theorem Anz:Aj Tryz.prog 87 (.g [.v (.int .i64 0),.v (.slice none 0 0),.v (.int .i64 0)])=True:=eq_true ⟨.agg #[.int .i64 0,.slice none 0 0,.int .i64 0],by kernel_rfl,fun _=>by first|rfl|simp [Sc.val,At.val,arr8,arr32,arr64]⟩
theorem An0:sz Tryz.prog 91=1:=by kernel_rfl
theorem An1:bz Tryz.prog 91=8:=by kernel_rfl
theorem An2:ZOk Tryz.prog 91 (.c [.v (.int .i64 0)])=True:=eq_true ⟨.int .i64 0,by kernel_rfl,fun _=>by first|rfl|simp [Value.cells,Cont.vals,arr8,arr32,arr64]⟩
theorem An3:Aj Tryz.prog 91 (.a (.v (.int .i64 0)))=True:=eq_true ⟨.int .i64 0,by kernel_rfl,fun _=>by first|rfl|simp [Sc.val,At.val,arr8,arr32,arr64]⟩
theorem An4:sz Tryz.prog 96=3:=by kernel_rfl
theorem An5:bz Tryz.prog 96=40:=by kernel_rfl
theorem An6:Ac Tryz.prog 96 0=some (0,3):=by kernel_rfl
theorem An7:Ac Tryz.prog 96 1=some (1,43):=by kernel_rfl
theorem An8:Ac Tryz.prog 96 2=some (2,3):=by kernel_rfl
theorem An9:ZOk Tryz.prog 96 (.c [.v (.int .i64 0),.v (.slice none 0 0),.v (.int .i64 0)])=True:=eq_true ⟨.agg #[.int .i64 0,.slice none 0 0,.int .i64 0],by kernel_rfl,fun _=>by first|rfl|simp [Value.cells,Cont.vals,arr8,arr32,arr64]⟩
theorem Aoa:Aj Tryz.prog 96 (.g [.v (.int .i64 0),.v (.slice none 0 0),.v (.int .i64 0)])=True:=eq_true ⟨.agg #[.int .i64 0,.slice none 0 0,.int .i64 0],by kernel_rfl,fun _=>by first|rfl|simp [Sc.val,At.val,arr8,arr32,arr64]⟩
theorem Aob:sz Tryz.prog 97=3:=by kernel_rfl
theorem Aoc:bz Tryz.prog 97=24:=by kernel_rfl
theorem Aod:Ac Tryz.prog 97 0=some (0,3):=by kernel_rfl
theorem Aoe:Ac Tryz.prog 97 1=some (1,3):=by kernel_rfl
theorem Aof:Ac Tryz.prog 97 2=some (2,3):=by kernel_rfl
theorem Aog:ZOk Tryz.prog 97 (.c [.v (.int .i64 0),.v (.int .i64 0),.v (.int .i64 0)])=True:=eq_true ⟨.agg #[.int .i64 0,.int .i64 0,.int .i64 0],by kernel_rfl,fun _=>by first|rfl|simp [Value.cells,Cont.vals,arr8,arr32,arr64]⟩
theorem Aoh:Aj Tryz.prog 97 (.g [.v (.int .i64 0),.v (.int .i64 0),.v (.int .i64 0)])=True:=eq_true ⟨.agg #[.int .i64 0,.int .i64 0,.int .i64 0],by kernel_rfl,fun _=>by first|rfl|simp [Sc.val,At.val,arr8,arr32,arr64]⟩
theorem Aoi:sz Tryz.prog 98=3:=by kernel_rfl
theorem Aoj:bz Tryz.prog 98=24:=by kernel_rfl
theorem Aok:Ac Tryz.prog 98 0=some (0,3):=by kernel_rfl
theorem Aol:Ac Tryz.prog 98 1=some (1,3):=by kernel_rfl
theorem Aom:Ac Tryz.prog 98 2=some (2,3):=by kernel_rfl
theorem Aon:ZOk Tryz.prog 98 (.c [.v (.int .i64 0),.v (.int .i64 0),.v (.int .i64 0)])=True:=eq_true ⟨.agg #[.int .i64 0,.int .i64 0,.int .i64 0],by kernel_rfl,fun _=>by first|rfl|simp [Value.cells,Cont.vals,arr8,arr32,arr64]⟩
theorem Aoo:Aj Tryz.prog 98 (.g [.v (.int .i64 0),.v (.int .i64 0),.v (.int .i64 0)])=True:=eq_true ⟨.agg #[.int .i64 0,.int .i64 0,.int .i64 0],by kernel_rfl,fun _=>by first|rfl|simp [Sc.val,At.val,arr8,arr32,arr64]⟩
theorem Aop:Ls Tryz.prog 98 [.i64,.i64,.i64]=True:=eq_true ⟨by kernel_rfl,by kernel_rfl,by kernel_rfl,by kernel_rfl⟩
theorem Aoq:sz Tryz.prog 100=1:=by kernel_rfl
theorem Aor:bz Tryz.prog 100=8:=by kernel_rfl
theorem Aos:ZOk Tryz.prog 100 (.c [.v (.map none)])=True:=eq_true ⟨.map none,by kernel_rfl,fun _=>by first|rfl|simp [Value.cells,Cont.vals,arr8,arr32,arr64]⟩
theorem Aot:Aj Tryz.prog 100 (.a (.v (.map none)))=True:=eq_true ⟨.map none,by kernel_rfl,fun _=>by first|rfl|simp [Sc.val,At.val,arr8,arr32,arr64]⟩
theorem Aou:sz Tryz.prog 101=1:=by kernel_rfl
theorem Aov:bz Tryz.prog 101=8:=by kernel_rfl
theorem Aow:ZOk Tryz.prog 101 (.c [.v (.map none)])=True:=eq_true ⟨.map none,by kernel_rfl,fun _=>by first|rfl|simp [Value.cells,Cont.vals,arr8,arr32,arr64]⟩
theorem Aox:Aj Tryz.prog 101 (.a (.v (.map none)))=True:=eq_true ⟨.map none,by kernel_rfl,fun _=>by first|rfl|simp [Sc.val,At.val,arr8,arr32,arr64]⟩
theorem Aoy:sz Tryz.prog 102=1:=by kernel_rfl
theorem Aoz:bz Tryz.prog 102=8:=by kernel_rfl
theorem Ao0:ZOk Tryz.prog 102 (.c [.v (.pointer none)])=True:=eq_true ⟨.pointer none,by kernel_rfl,fun _=>by first|rfl|simp [Value.cells,Cont.vals,arr8,arr32,arr64]⟩
theorem Ao1:Aj Tryz.prog 102 (.a (.v (.pointer none)))=True:=eq_true ⟨.pointer none,by kernel_rfl,fun _=>by first|rfl|simp [Sc.val,At.val,arr8,arr32,arr64]⟩
theorem Ao2:sz Tryz.prog 103=58:=by kernel_rfl
theorem Ao3:bz Tryz.prog 103=368:=by kernel_rfl
theorem Ao4:Ac Tryz.prog 103 0=some (0,3):=by kernel_rfl
theorem Ao5:Ac Tryz.prog 103 1=some (1,3):=by kernel_rfl
theorem Ao6:Ac Tryz.prog 103 2=some (2,3):=by kernel_rfl
theorem Ao7:Ac Tryz.prog 103 3=some (3,3):=by kernel_rfl
theorem Ao8:Ac Tryz.prog 103 4=some (4,3):=by kernel_rfl
theorem Ao9:Ac Tryz.prog 103 5=some (5,3):=by kernel_rfl
theorem Apa:Ac Tryz.prog 103 6=some (6,43):=by kernel_rfl
theorem Apb:Ac Tryz.prog 103 7=some (7,43):=by kernel_rfl
theorem Apc:Ac Tryz.prog 103 8=some (8,3):=by kernel_rfl
theorem Apd:Ac Tryz.prog 103 9=some (9,43):=by kernel_rfl
theorem Ape:Ac Tryz.prog 103 10=some (10,102):=by kernel_rfl
theorem Apf:Ac Tryz.prog 103 11=some (11,43):=by kernel_rfl
theorem Apg:Ac Tryz.prog 103 12=some (12,100):=by kernel_rfl
theorem Aph:Ac Tryz.prog 103 13=some (13,101):=by kernel_rfl
theorem Api:Ac Tryz.prog 103 14=some (14,40):=by kernel_rfl
theorem Apj:Ac Tryz.prog 103 15=some (15,48):=by kernel_rfl
theorem Apk:sz Tryz.prog 104=58:=by kernel_rfl
theorem Apl:bz Tryz.prog 104=368:=by kernel_rfl
theorem Apm:Ac Tryz.prog 104 0=some (0,3):=by kernel_rfl
theorem Apn:Ac Tryz.prog 104 1=some (1,3):=by kernel_rfl
theorem Apo:Ac Tryz.prog 104 2=some (2,3):=by kernel_rfl
theorem App:Ac Tryz.prog 104 3=some (3,3):=by kernel_rfl
theorem Apq:Ac Tryz.prog 104 4=some (4,3):=by kernel_rfl
theorem Apr:Ac Tryz.prog 104 5=some (5,3):=by kernel_rfl
theorem Aps:Ac Tryz.prog 104 6=some (6,43):=by kernel_rfl
theorem Apt:Ac Tryz.prog 104 7=some (7,43):=by kernel_rfl
theorem Apu:Ac Tryz.prog 104 8=some (8,3):=by kernel_rfl
theorem Apv:Ac Tryz.prog 104 9=some (9,43):=by kernel_rfl
theorem Apw:Ac Tryz.prog 104 10=some (10,102):=by kernel_rfl
theorem Apx:Ac Tryz.prog 104 11=some (11,43):=by kernel_rfl
theorem Apy:Ac Tryz.prog 104 12=some (12,100):=by kernel_rfl
theorem Ap0:Ac Tryz.prog 104 13=some (13,101):=by kernel_rfl
theorem Ap1:Ac Tryz.prog 104 14=some (14,40):=by kernel_rfl
theorem Ap2:Ac Tryz.prog 104 15=some (15,48):=by kernel_rfl
theorem Ap3:sz Tryz.prog 106=3:=by kernel_rfl
theorem Ap4:bz Tryz.prog 106=24:=by kernel_rfl
theorem Ap5:Ac Tryz.prog 106 0=some (0,3):=by kernel_rfl
theorem Ap6:Ac Tryz.prog 106 1=some (1,3):=by kernel_rfl
theorem Ap7:Ac Tryz.prog 106 2=some (2,3):=by kernel_rfl
theorem Ap8:ZOk Tryz.prog 106 (.c [.v (.int .i64 0),.v (.int .i64 0),.v (.int .i64 0)])=True:=eq_true ⟨.agg #[.int .i64 0,.int .i64 0,.int .i64 0],by kernel_rfl,fun _=>by first|rfl|simp [Value.cells,Cont.vals,arr8,arr32,arr64]⟩
theorem Ap9:Aj Tryz.prog 106 (.g [.v (.int .i64 0),.v (.int .i64 0),.v (.int .i64 0)])=True:=eq_true ⟨.agg #[.int .i64 0,.int .i64 0,.int .i64 0],by kernel_rfl,fun _=>by first|rfl|simp [Sc.val,At.val,arr8,arr32,arr64]⟩
theorem Aqa:Ls Tryz.prog 106 [.i64,.i64,.i64]=True:=eq_true ⟨by kernel_rfl,by kernel_rfl,by kernel_rfl,by kernel_rfl⟩
theorem Aqb:sz Tryz.prog 111=1:=by kernel_rfl
theorem Aqc:bz Tryz.prog 111=4:=by kernel_rfl
theorem Aqd:ZOk Tryz.prog 111 (.c [.v (.int .u32 0)])=True:=eq_true ⟨.int .u32 0,by kernel_rfl,fun _=>by first|rfl|simp [Value.cells,Cont.vals,arr8,arr32,arr64]⟩
theorem Aqe:Aj Tryz.prog 111 (.a (.v (.int .u32 0)))=True:=eq_true ⟨.int .u32 0,by kernel_rfl,fun _=>by first|rfl|simp [Sc.val,At.val,arr8,arr32,arr64]⟩
theorem Aqf:sz Tryz.prog 114=2:=by kernel_rfl
theorem Aqg:bz Tryz.prog 114=16:=by kernel_rfl
theorem Aqh:Ac Tryz.prog 114 0=some (0,3):=by kernel_rfl
theorem Aqi:Ac Tryz.prog 114 1=some (1,41):=by kernel_rfl
theorem Aqj:ZOk Tryz.prog 114 (.c [.v (.int .i64 0),.v (.int .u64 0)])=True:=eq_true ⟨.agg #[.int .i64 0,.int .u64 0],by kernel_rfl,fun _=>by first|rfl|simp [Value.cells,Cont.vals,arr8,arr32,arr64]⟩
theorem Aqk:Aj Tryz.prog 114 (.g [.v (.int .i64 0),.v (.int .u64 0)])=True:=eq_true ⟨.agg #[.int .i64 0,.int .u64 0],by kernel_rfl,fun _=>by first|rfl|simp [Sc.val,At.val,arr8,arr32,arr64]⟩
theorem Aql:sz Tryz.prog 115=2:=by kernel_rfl
theorem Aqm:bz Tryz.prog 115=16:=by kernel_rfl
theorem Aqn:Ac Tryz.prog 115 0=some (0,3):=by kernel_rfl
theorem Aqo:Ac Tryz.prog 115 1=some (1,41):=by kernel_rfl
theorem Aqp:ZOk Tryz.prog 115 (.c [.v (.int .i64 0),.v (.int .u64 0)])=True:=eq_true ⟨.agg #[.int .i64 0,.int .u64 0],by kernel_rfl,fun _=>by first|rfl|simp [Value.cells,Cont.vals,arr8,arr32,arr64]⟩
theorem Aqq:Aj Tryz.prog 115 (.g [.v (.int .i64 0),.v (.int .u64 0)])=True:=eq_true ⟨.agg #[.int .i64 0,.int .u64 0],by kernel_rfl,fun _=>by first|rfl|simp [Sc.val,At.val,arr8,arr32,arr64]⟩
theorem Aqr:Ls Tryz.prog 115 [.i64,.u64]=True:=eq_true ⟨by kernel_rfl,by kernel_rfl,by kernel_rfl,by kernel_rfl⟩
theorem Aqs:sz Tryz.prog 116=1:=by kernel_rfl
theorem Aqt:bz Tryz.prog 116=8:=by kernel_rfl
theorem Aqu:ZOk Tryz.prog 116 (.c [.v (.map none)])=True:=eq_true ⟨.map none,by kernel_rfl,fun _=>by first|rfl|simp [Value.cells,Cont.vals,arr8,arr32,arr64]⟩
theorem Aqv:Aj Tryz.prog 116 (.a (.v (.map none)))=True:=eq_true ⟨.map none,by kernel_rfl,fun _=>by first|rfl|simp [Sc.val,At.val,arr8,arr32,arr64]⟩
theorem Aqw:sz Tryz.prog 117=1:=by kernel_rfl
theorem Aqx:bz Tryz.prog 117=8:=by kernel_rfl
theorem Aqy:ZOk Tryz.prog 117 (.c [.v (.map none)])=True:=eq_true ⟨.map none,by kernel_rfl,fun _=>by first|rfl|simp [Value.cells,Cont.vals,arr8,arr32,arr64]⟩
theorem Aqz:Aj Tryz.prog 117 (.a (.v (.map none)))=True:=eq_true ⟨.map none,by kernel_rfl,fun _=>by first|rfl|simp [Sc.val,At.val,arr8,arr32,arr64]⟩
theorem Aq0:sz Tryz.prog 118=1:=by kernel_rfl
theorem Aq1:bz Tryz.prog 118=24:=by kernel_rfl
theorem Aq2:ZOk Tryz.prog 118 (.c [.v (.slice none 0 0)])=True:=eq_true ⟨.slice none 0 0,by kernel_rfl,fun _=>by first|rfl|simp [Value.cells,Cont.vals,arr8,arr32,arr64]⟩
theorem Aq3:Aj Tryz.prog 118 (.a (.v (.slice none 0 0)))=True:=eq_true ⟨.slice none 0 0,by kernel_rfl,fun _=>by first|rfl|simp [Sc.val,At.val,arr8,arr32,arr64]⟩
theorem Aq4:sz Tryz.prog 119=5:=by kernel_rfl
theorem Aq5:bz Tryz.prog 119=56:=by kernel_rfl
theorem Aq6:Ac Tryz.prog 119 0=some (0,3):=by kernel_rfl
theorem Aq7:Ac Tryz.prog 119 1=some (1,3):=by kernel_rfl
theorem Aq8:Ac Tryz.prog 119 2=some (2,118):=by kernel_rfl
theorem Aq9:Ac Tryz.prog 119 3=some (3,116):=by kernel_rfl
theorem Ara:Ac Tryz.prog 119 4=some (4,117):=by kernel_rfl
theorem Arb:ZOk Tryz.prog 119 (.c [.v (.int .i64 0),.v (.int .i64 0),.v (.slice none 0 0),.v (.map none),.v (.map none)])=True:=eq_true ⟨.agg #[.int .i64 0,.int .i64 0,.slice none 0 0,.map none,.map none],by kernel_rfl,fun _=>by first|rfl|simp [Value.cells,Cont.vals,arr8,arr32,arr64]⟩
theorem Arc:Aj Tryz.prog 119 (.g [.v (.int .i64 0),.v (.int .i64 0),.v (.slice none 0 0),.v (.map none),.v (.map none)])=True:=eq_true ⟨.agg #[.int .i64 0,.int .i64 0,.slice none 0 0,.map none,.map none],by kernel_rfl,fun _=>by first|rfl|simp [Sc.val,At.val,arr8,arr32,arr64]⟩
theorem Ard:sz Tryz.prog 120=5:=by kernel_rfl
theorem Arf:bz Tryz.prog 120=56:=by kernel_rfl
theorem Arg:Ac Tryz.prog 120 0=some (0,3):=by kernel_rfl
theorem Arh:Ac Tryz.prog 120 1=some (1,3):=by kernel_rfl
theorem Ari:Ac Tryz.prog 120 2=some (2,118):=by kernel_rfl
theorem Arj:Ac Tryz.prog 120 3=some (3,116):=by kernel_rfl
theorem Ark:Ac Tryz.prog 120 4=some (4,117):=by kernel_rfl
theorem Arl:ZOk Tryz.prog 120 (.c [.v (.int .i64 0),.v (.int .i64 0),.v (.slice none 0 0),.v (.map none),.v (.map none)])=True:=eq_true ⟨.agg #[.int .i64 0,.int .i64 0,.slice none 0 0,.map none,.map none],by kernel_rfl,fun _=>by first|rfl|simp [Value.cells,Cont.vals,arr8,arr32,arr64]⟩
theorem Arm:Aj Tryz.prog 120 (.g [.v (.int .i64 0),.v (.int .i64 0),.v (.slice none 0 0),.v (.map none),.v (.map none)])=True:=eq_true ⟨.agg #[.int .i64 0,.int .i64 0,.slice none 0 0,.map none,.map none],by kernel_rfl,fun _=>by first|rfl|simp [Sc.val,At.val,arr8,arr32,arr64]⟩
theorem Arn:sz Tryz.prog 121=3:=by kernel_rfl
theorem Aro:bz Tryz.prog 121=56:=by kernel_rfl
theorem Arp:Ac Tryz.prog 121 0=some (0,43):=by kernel_rfl
theorem Arq:Ac Tryz.prog 121 1=some (1,43):=by kernel_rfl
theorem Arr:Ac Tryz.prog 121 2=some (2,3):=by kernel_rfl
theorem Ars:ZOk Tryz.prog 121 (.c [.v (.slice none 0 0),.v (.slice none 0 0),.v (.int .i64 0)])=True:=eq_true ⟨.agg #[.slice none 0 0,.slice none 0 0,.int .i64 0],by kernel_rfl,fun _=>by first|rfl|simp [Value.cells,Cont.vals,arr8,arr32,arr64]⟩
theorem Art:Aj Tryz.prog 121 (.g [.v (.slice none 0 0),.v (.slice none 0 0),.v (.int .i64 0)])=True:=eq_true ⟨.agg #[.slice none 0 0,.slice none 0 0,.int .i64 0],by kernel_rfl,fun _=>by first|rfl|simp [Sc.val,At.val,arr8,arr32,arr64]⟩
theorem Aru:sz Tryz.prog 122=3:=by kernel_rfl
theorem Arv:bz Tryz.prog 122=56:=by kernel_rfl
theorem Arw:Ac Tryz.prog 122 0=some (0,43):=by kernel_rfl
theorem Arx:Ac Tryz.prog 122 1=some (1,43):=by kernel_rfl
theorem Ary:Ac Tryz.prog 122 2=some (2,3):=by kernel_rfl
theorem Arz:ZOk Tryz.prog 122 (.c [.v (.slice none 0 0),.v (.slice none 0 0),.v (.int .i64 0)])=True:=eq_true ⟨.agg #[.slice none 0 0,.slice none 0 0,.int .i64 0],by kernel_rfl,fun _=>by first|rfl|simp [Value.cells,Cont.vals,arr8,arr32,arr64]⟩
theorem Ar0:Aj Tryz.prog 122 (.g [.v (.slice none 0 0),.v (.slice none 0 0),.v (.int .i64 0)])=True:=eq_true ⟨.agg #[.slice none 0 0,.slice none 0 0,.int .i64 0],by kernel_rfl,fun _=>by first|rfl|simp [Sc.val,At.val,arr8,arr32,arr64]⟩
theorem Ar1:sz Tryz.prog 129=1:=by kernel_rfl
theorem Ar2:bz Tryz.prog 129=24:=by kernel_rfl
theorem Ar3:ZOk Tryz.prog 129 (.c [.v (.slice none 0 0)])=True:=eq_true ⟨.slice none 0 0,by kernel_rfl,fun _=>by first|rfl|simp [Value.cells,Cont.vals,arr8,arr32,arr64]⟩
theorem Ar4:Aj Tryz.prog 129 (.a (.v (.slice none 0 0)))=True:=eq_true ⟨.slice none 0 0,by kernel_rfl,fun _=>by first|rfl|simp [Sc.val,At.val,arr8,arr32,arr64]⟩
theorem Ar5:sz Tryz.prog 130=1:=by kernel_rfl
theorem Ar6:bz Tryz.prog 130=24:=by kernel_rfl
theorem Ar7:ZOk Tryz.prog 130 (.c [.v (.slice none 0 0)])=True:=eq_true ⟨.slice none 0 0,by kernel_rfl,fun _=>by first|rfl|simp [Value.cells,Cont.vals,arr8,arr32,arr64]⟩
theorem Ar8:Aj Tryz.prog 130 (.a (.v (.slice none 0 0)))=True:=eq_true ⟨.slice none 0 0,by kernel_rfl,fun _=>by first|rfl|simp [Sc.val,At.val,arr8,arr32,arr64]⟩
theorem Ar9:sz Tryz.prog 131=2:=by kernel_rfl
theorem Asa:bz Tryz.prog 131=16:=by kernel_rfl
theorem Asb:Ki Tryz.prog 131 2 .u64=True:=eq_true ⟨41,Tryz.underlying131,Tryz.underlying41,by kernel_rfl,by kernel_rfl,by kernel_rfl⟩
theorem Asc:ZOk Tryz.prog 131 (.u64 (List.replicate 2 0))=True:=eq_true ⟨.agg (arr64 (List.replicate 2 0)),by kernel_rfl,fun _=>by first|rfl|simp [Value.cells,Cont.vals,arr8,arr32,arr64]⟩
theorem Asd:Aj Tryz.prog 131 (.a64 (List.replicate 2 0))=True:=eq_true ⟨.agg (arr64 (List.replicate 2 0)),by kernel_rfl,fun _=>by first|rfl|simp [Sc.val,At.val,arr8,arr32,arr64]⟩
theorem Ase:sz Tryz.prog 147=1:=by kernel_rfl
theorem Asf:bz Tryz.prog 147=8:=by kernel_rfl
theorem Asg:ZOk Tryz.prog 147 (.c [.v (.map none)])=True:=eq_true ⟨.map none,by kernel_rfl,fun _=>by first|rfl|simp [Value.cells,Cont.vals,arr8,arr32,arr64]⟩
theorem Ash:Aj Tryz.prog 147 (.a (.v (.map none)))=True:=eq_true ⟨.map none,by kernel_rfl,fun _=>by first|rfl|simp [Sc.val,At.val,arr8,arr32,arr64]⟩
theorem Asi:sz Tryz.prog 148=9:=by kernel_rfl
theorem Asj:bz Tryz.prog 148=104:=by kernel_rfl
theorem Asl:Ac Tryz.prog 148 0=some (0,3):=by kernel_rfl
theorem Asm:Ac Tryz.prog 148 1=some (1,3):=by kernel_rfl
theorem Asn:Ac Tryz.prog 148 2=some (2,3):=by kernel_rfl
theorem Aso:Ac Tryz.prog 148 3=some (3,43):=by kernel_rfl
theorem Asp:Ac Tryz.prog 148 4=some (4,43):=by kernel_rfl
theorem Asq:Ac Tryz.prog 148 5=some (5,147):=by kernel_rfl
theorem Asr:Ac Tryz.prog 148 6=some (6,102):=by kernel_rfl
theorem Ass:Ac Tryz.prog 148 7=some (7,66):=by kernel_rfl
theorem Ast:Ac Tryz.prog 148 8=some (8,3):=by kernel_rfl
theorem Asu:ZOk Tryz.prog 148 (.c [.v (.int .i64 0),.v (.int .i64 0),.v (.int .i64 0),.v (.slice none 0 0),.v (.slice none 0 0),.v (.map none),.v (.pointer none),.v (.pointer none),.v (.int .i64 0)])=True:=eq_true ⟨.agg #[.int .i64 0,.int .i64 0,.int .i64 0,.slice none 0 0,.slice none 0 0,.map none,.pointer none,.pointer none,.int .i64 0],by kernel_rfl,fun _=>by first|rfl|simp [Value.cells,Cont.vals,arr8,arr32,arr64]⟩
theorem Asv:Aj Tryz.prog 148 (.g [.v (.int .i64 0),.v (.int .i64 0),.v (.int .i64 0),.v (.slice none 0 0),.v (.slice none 0 0),.v (.map none),.v (.pointer none),.v (.pointer none),.v (.int .i64 0)])=True:=eq_true ⟨.agg #[.int .i64 0,.int .i64 0,.int .i64 0,.slice none 0 0,.slice none 0 0,.map none,.pointer none,.pointer none,.int .i64 0],by kernel_rfl,fun _=>by first|rfl|simp [Sc.val,At.val,arr8,arr32,arr64]⟩
theorem Asw:sz Tryz.prog 149=9:=by kernel_rfl
theorem Asx:bz Tryz.prog 149=104:=by kernel_rfl
theorem Asy:Ac Tryz.prog 149 0=some (0,3):=by kernel_rfl
theorem Asz:Ac Tryz.prog 149 1=some (1,3):=by kernel_rfl
theorem As0:Ac Tryz.prog 149 2=some (2,3):=by kernel_rfl
theorem As1:Ac Tryz.prog 149 3=some (3,43):=by kernel_rfl
theorem As2:Ac Tryz.prog 149 4=some (4,43):=by kernel_rfl
theorem As3:Ac Tryz.prog 149 5=some (5,147):=by kernel_rfl
theorem As4:Ac Tryz.prog 149 6=some (6,102):=by kernel_rfl
theorem As5:Ac Tryz.prog 149 7=some (7,66):=by kernel_rfl
theorem As6:Ac Tryz.prog 149 8=some (8,3):=by kernel_rfl
theorem As7:ZOk Tryz.prog 149 (.c [.v (.int .i64 0),.v (.int .i64 0),.v (.int .i64 0),.v (.slice none 0 0),.v (.slice none 0 0),.v (.map none),.v (.pointer none),.v (.pointer none),.v (.int .i64 0)])=True:=eq_true ⟨.agg #[.int .i64 0,.int .i64 0,.int .i64 0,.slice none 0 0,.slice none 0 0,.map none,.pointer none,.pointer none,.int .i64 0],by kernel_rfl,fun _=>by first|rfl|simp [Value.cells,Cont.vals,arr8,arr32,arr64]⟩
theorem As8:Aj Tryz.prog 149 (.g [.v (.int .i64 0),.v (.int .i64 0),.v (.int .i64 0),.v (.slice none 0 0),.v (.slice none 0 0),.v (.map none),.v (.pointer none),.v (.pointer none),.v (.int .i64 0)])=True:=eq_true ⟨.agg #[.int .i64 0,.int .i64 0,.int .i64 0,.slice none 0 0,.slice none 0 0,.map none,.pointer none,.pointer none,.int .i64 0],by kernel_rfl,fun _=>by first|rfl|simp [Sc.val,At.val,arr8,arr32,arr64]⟩
theorem As9:sz Tryz.prog 155=1:=by kernel_rfl
theorem Ata:bz Tryz.prog 155=8:=by kernel_rfl
theorem Atb:ZOk Tryz.prog 155 (.c [.v (.pointer none)])=True:=eq_true ⟨.pointer none,by kernel_rfl,fun _=>by first|rfl|simp [Value.cells,Cont.vals,arr8,arr32,arr64]⟩
theorem Atc:Aj Tryz.prog 155 (.a (.v (.pointer none)))=True:=eq_true ⟨.pointer none,by kernel_rfl,fun _=>by first|rfl|simp [Sc.val,At.val,arr8,arr32,arr64]⟩
theorem Atd:sz Tryz.prog 163=2:=by kernel_rfl
theorem Ate:bz Tryz.prog 163=16:=by kernel_rfl
theorem Atf:Ac Tryz.prog 163 0=some (0,3):=by kernel_rfl
theorem Atg:Ac Tryz.prog 163 1=some (1,41):=by kernel_rfl
theorem Ath:ZOk Tryz.prog 163 (.c [.v (.int .i64 0),.v (.int .u64 0)])=True:=eq_true ⟨.agg #[.int .i64 0,.int .u64 0],by kernel_rfl,fun _=>by first|rfl|simp [Value.cells,Cont.vals,arr8,arr32,arr64]⟩
theorem Ati:Aj Tryz.prog 163 (.g [.v (.int .i64 0),.v (.int .u64 0)])=True:=eq_true ⟨.agg #[.int .i64 0,.int .u64 0],by kernel_rfl,fun _=>by first|rfl|simp [Sc.val,At.val,arr8,arr32,arr64]⟩
theorem Atj:Ls Tryz.prog 163 [.i64,.u64]=True:=eq_true ⟨by kernel_rfl,by kernel_rfl,by kernel_rfl,by kernel_rfl⟩
theorem Atk:sz Tryz.prog 169=6:=by kernel_rfl
theorem Atl:bz Tryz.prog 169=96:=by kernel_rfl
theorem Atm:Ac Tryz.prog 169 0=some (0,43):=by kernel_rfl
theorem Atn:Ac Tryz.prog 169 1=some (1,43):=by kernel_rfl
theorem Ato:Ac Tryz.prog 169 2=some (2,43):=by kernel_rfl
theorem Atp:Ac Tryz.prog 169 3=some (3,3):=by kernel_rfl
theorem Atq:Ac Tryz.prog 169 4=some (4,3):=by kernel_rfl
theorem Atr:Ac Tryz.prog 169 5=some (5,3):=by kernel_rfl
theorem Ats:ZOk Tryz.prog 169 (.c [.v (.slice none 0 0),.v (.slice none 0 0),.v (.slice none 0 0),.v (.int .i64 0),.v (.int .i64 0),.v (.int .i64 0)])=True:=eq_true ⟨.agg #[.slice none 0 0,.slice none 0 0,.slice none 0 0,.int .i64 0,.int .i64 0,.int .i64 0],by kernel_rfl,fun _=>by first|rfl|simp [Value.cells,Cont.vals,arr8,arr32,arr64]⟩
theorem Att:Aj Tryz.prog 169 (.g [.v (.slice none 0 0),.v (.slice none 0 0),.v (.slice none 0 0),.v (.int .i64 0),.v (.int .i64 0),.v (.int .i64 0)])=True:=eq_true ⟨.agg #[.slice none 0 0,.slice none 0 0,.slice none 0 0,.int .i64 0,.int .i64 0,.int .i64 0],by kernel_rfl,fun _=>by first|rfl|simp [Sc.val,At.val,arr8,arr32,arr64]⟩
theorem Atu:sz Tryz.prog 170=6:=by kernel_rfl
theorem Atv:bz Tryz.prog 170=96:=by kernel_rfl
theorem Atw:Ac Tryz.prog 170 0=some (0,43):=by kernel_rfl
theorem Atx:Ac Tryz.prog 170 1=some (1,43):=by kernel_rfl
theorem Aty:Ac Tryz.prog 170 2=some (2,43):=by kernel_rfl
theorem Atz:Ac Tryz.prog 170 3=some (3,3):=by kernel_rfl
theorem At0:Ac Tryz.prog 170 4=some (4,3):=by kernel_rfl
theorem At1:Ac Tryz.prog 170 5=some (5,3):=by kernel_rfl
theorem At2:ZOk Tryz.prog 170 (.c [.v (.slice none 0 0),.v (.slice none 0 0),.v (.slice none 0 0),.v (.int .i64 0),.v (.int .i64 0),.v (.int .i64 0)])=True:=eq_true ⟨.agg #[.slice none 0 0,.slice none 0 0,.slice none 0 0,.int .i64 0,.int .i64 0,.int .i64 0],by kernel_rfl,fun _=>by first|rfl|simp [Value.cells,Cont.vals,arr8,arr32,arr64]⟩
theorem At3:Aj Tryz.prog 170 (.g [.v (.slice none 0 0),.v (.slice none 0 0),.v (.slice none 0 0),.v (.int .i64 0),.v (.int .i64 0),.v (.int .i64 0)])=True:=eq_true ⟨.agg #[.slice none 0 0,.slice none 0 0,.slice none 0 0,.int .i64 0,.int .i64 0,.int .i64 0],by kernel_rfl,fun _=>by first|rfl|simp [Sc.val,At.val,arr8,arr32,arr64]⟩
theorem At4:sz Tryz.prog 175=1:=by kernel_rfl
theorem At5:bz Tryz.prog 175=8:=by kernel_rfl
theorem At6:ZOk Tryz.prog 175 (.c [.v (.int .u64 0)])=True:=eq_true ⟨.int .u64 0,by kernel_rfl,fun _=>by first|rfl|simp [Value.cells,Cont.vals,arr8,arr32,arr64]⟩
theorem At7:Aj Tryz.prog 175 (.a (.v (.int .u64 0)))=True:=eq_true ⟨.int .u64 0,by kernel_rfl,fun _=>by first|rfl|simp [Sc.val,At.val,arr8,arr32,arr64]⟩
theorem At8:sz Tryz.prog 200=1:=by kernel_rfl
theorem At9:bz Tryz.prog 200=8:=by kernel_rfl
theorem Aua:ZOk Tryz.prog 200 (.c [.v (.int .i64 0)])=True:=eq_true ⟨.int .i64 0,by kernel_rfl,fun _=>by first|rfl|simp [Value.cells,Cont.vals,arr8,arr32,arr64]⟩
theorem Aub:Aj Tryz.prog 200 (.a (.v (.int .i64 0)))=True:=eq_true ⟨.int .i64 0,by kernel_rfl,fun _=>by first|rfl|simp [Sc.val,At.val,arr8,arr32,arr64]⟩
theorem Auc:sz Tryz.prog 217=1:=by kernel_rfl
theorem Aud:bz Tryz.prog 217=8:=by kernel_rfl
theorem Aue:Ac Tryz.prog 217 0=some (0,17):=by kernel_rfl
theorem Auf:ZOk Tryz.prog 217 (.c [.v (.pointer none)])=True:=eq_true ⟨.agg #[.pointer none],by kernel_rfl,fun _=>by first|rfl|simp [Value.cells,Cont.vals,arr8,arr32,arr64]⟩
theorem Aug:Aj Tryz.prog 217 (.g [.v (.pointer none)])=True:=eq_true ⟨.agg #[.pointer none],by kernel_rfl,fun _=>by first|rfl|simp [Sc.val,At.val,arr8,arr32,arr64]⟩
theorem Auh:sz Tryz.prog 218=1:=by kernel_rfl
theorem Aui:bz Tryz.prog 218=8:=by kernel_rfl
theorem Auj:ZOk Tryz.prog 218 (.c [.v (.pointer none)])=True:=eq_true ⟨.pointer none,by kernel_rfl,fun _=>by first|rfl|simp [Value.cells,Cont.vals,arr8,arr32,arr64]⟩
theorem Auk:Aj Tryz.prog 218 (.a (.v (.pointer none)))=True:=eq_true ⟨.pointer none,by kernel_rfl,fun _=>by first|rfl|simp [Sc.val,At.val,arr8,arr32,arr64]⟩
theorem Aul:sz Tryz.prog 222=1:=by kernel_rfl
theorem Aum:bz Tryz.prog 222=16:=by kernel_rfl
theorem Aun:ZOk Tryz.prog 222 (.c [.v .nilIface])=True:=eq_true ⟨.nilIface,by kernel_rfl,fun _=>by first|rfl|simp [Value.cells,Cont.vals,arr8,arr32,arr64]⟩
theorem Auo:Aj Tryz.prog 222 (.a (.v (.nilIface)))=True:=eq_true ⟨.nilIface,by kernel_rfl,fun _=>by first|rfl|simp [Sc.val,At.val,arr8,arr32,arr64]⟩
theorem Aup:sz Tryz.prog 225=1:=by kernel_rfl
theorem Auq:bz Tryz.prog 225=16:=by kernel_rfl
theorem Aur:ZOk Tryz.prog 225 (.c [.v .nilIface])=True:=eq_true ⟨.nilIface,by kernel_rfl,fun _=>by first|rfl|simp [Value.cells,Cont.vals,arr8,arr32,arr64]⟩
theorem Aus:Aj Tryz.prog 225 (.a (.v (.nilIface)))=True:=eq_true ⟨.nilIface,by kernel_rfl,fun _=>by first|rfl|simp [Sc.val,At.val,arr8,arr32,arr64]⟩
theorem Aut:sz Tryz.prog 227=1:=by kernel_rfl
theorem Auu:bz Tryz.prog 227=16:=by kernel_rfl
theorem Auv:ZOk Tryz.prog 227 (.c [.v .nilIface])=True:=eq_true ⟨.nilIface,by kernel_rfl,fun _=>by first|rfl|simp [Value.cells,Cont.vals,arr8,arr32,arr64]⟩
theorem Auw:Aj Tryz.prog 227 (.a (.v (.nilIface)))=True:=eq_true ⟨.nilIface,by kernel_rfl,fun _=>by first|rfl|simp [Sc.val,At.val,arr8,arr32,arr64]⟩
theorem Aux:sz Tryz.prog 228=1:=by kernel_rfl
theorem Auy:bz Tryz.prog 228=24:=by kernel_rfl
theorem Auz:ZOk Tryz.prog 228 (.c [.v (.slice none 0 0)])=True:=eq_true ⟨.slice none 0 0,by kernel_rfl,fun _=>by first|rfl|simp [Value.cells,Cont.vals,arr8,arr32,arr64]⟩
theorem Au0:Aj Tryz.prog 228 (.a (.v (.slice none 0 0)))=True:=eq_true ⟨.slice none 0 0,by kernel_rfl,fun _=>by first|rfl|simp [Sc.val,At.val,arr8,arr32,arr64]⟩
theorem Au1:sz Tryz.prog 231=1:=by kernel_rfl
theorem Au2:bz Tryz.prog 231=8:=by kernel_rfl
theorem Au3:ZOk Tryz.prog 231 (.c [.v (.int .u64 0)])=True:=eq_true ⟨.int .u64 0,by kernel_rfl,fun _=>by first|rfl|simp [Value.cells,Cont.vals,arr8,arr32,arr64]⟩
theorem Au4:Aj Tryz.prog 231 (.a (.v (.int .u64 0)))=True:=eq_true ⟨.int .u64 0,by kernel_rfl,fun _=>by first|rfl|simp [Sc.val,At.val,arr8,arr32,arr64]⟩
theorem Au5:sz Tryz.prog 235=1:=by kernel_rfl
theorem Au6:bz Tryz.prog 235=8:=by kernel_rfl
theorem Au7:ZOk Tryz.prog 235 (.c [.v (.pointer none)])=True:=eq_true ⟨.pointer none,by kernel_rfl,fun _=>by first|rfl|simp [Value.cells,Cont.vals,arr8,arr32,arr64]⟩
theorem Au8:Aj Tryz.prog 235 (.a (.v (.pointer none)))=True:=eq_true ⟨.pointer none,by kernel_rfl,fun _=>by first|rfl|simp [Sc.val,At.val,arr8,arr32,arr64]⟩
theorem Au9:sz Tryz.prog 244=1:=by kernel_rfl
theorem Ava:bz Tryz.prog 244=8:=by kernel_rfl
theorem Avb:ZOk Tryz.prog 244 (.c [.v (.pointer none)])=True:=eq_true ⟨.pointer none,by kernel_rfl,fun _=>by first|rfl|simp [Value.cells,Cont.vals,arr8,arr32,arr64]⟩
theorem Avc:Aj Tryz.prog 244 (.a (.v (.pointer none)))=True:=eq_true ⟨.pointer none,by kernel_rfl,fun _=>by first|rfl|simp [Sc.val,At.val,arr8,arr32,arr64]⟩
theorem Avd:sz Tryz.prog 260=1:=by kernel_rfl
theorem Ave:bz Tryz.prog 260=8:=by kernel_rfl
theorem Avf:ZOk Tryz.prog 260 (.c [.v (.pointer none)])=True:=eq_true ⟨.pointer none,by kernel_rfl,fun _=>by first|rfl|simp [Value.cells,Cont.vals,arr8,arr32,arr64]⟩
theorem Avg:Aj Tryz.prog 260 (.a (.v (.pointer none)))=True:=eq_true ⟨.pointer none,by kernel_rfl,fun _=>by first|rfl|simp [Sc.val,At.val,arr8,arr32,arr64]⟩
theorem Avh:sz Tryz.prog 269=1:=by kernel_rfl
theorem Avi:bz Tryz.prog 269=8:=by kernel_rfl
theorem Avj:ZOk Tryz.prog 269 (.c [.v (.pointer none)])=True:=eq_true ⟨.pointer none,by kernel_rfl,fun _=>by first|rfl|simp [Value.cells,Cont.vals,arr8,arr32,arr64]⟩
theorem Avk:Aj Tryz.prog 269 (.a (.v (.pointer none)))=True:=eq_true ⟨.pointer none,by kernel_rfl,fun _=>by first|rfl|simp [Sc.val,At.val,arr8,arr32,arr64]⟩
theorem Avl:sz Tryz.prog 271=1:=by kernel_rfl
theorem Avm:bz Tryz.prog 271=2:=by kernel_rfl
theorem Avn:ZOk Tryz.prog 271 (.c [.v (.int .u16 0)])=True:=eq_true ⟨.int .u16 0,by kernel_rfl,fun _=>by first|rfl|simp [Value.cells,Cont.vals,arr8,arr32,arr64]⟩
theorem Avo:Aj Tryz.prog 271 (.a (.v (.int .u16 0)))=True:=eq_true ⟨.int .u16 0,by kernel_rfl,fun _=>by first|rfl|simp [Sc.val,At.val,arr8,arr32,arr64]⟩
theorem Avp:sz Tryz.prog 278=1:=by kernel_rfl
theorem Avq:bz Tryz.prog 278=8:=by kernel_rfl
theorem Avr:ZOk Tryz.prog 278 (.c [.v (.pointer none)])=True:=eq_true ⟨.pointer none,by kernel_rfl,fun _=>by first|rfl|simp [Value.cells,Cont.vals,arr8,arr32,arr64]⟩
theorem Avs:Aj Tryz.prog 278 (.a (.v (.pointer none)))=True:=eq_true ⟨.pointer none,by kernel_rfl,fun _=>by first|rfl|simp [Sc.val,At.val,arr8,arr32,arr64]⟩
theorem X5:Ad Tryz.prog 18:=Aw Tryz.func18 (by kernel_rfl) rfl
theorem Avt:Ad Tryz.prog 19:=Aw Tryz.func19 (by kernel_rfl) rfl
theorem Ma:Ad Tryz.prog 20:=Aw Tryz.func20 (by kernel_rfl) rfl
theorem Mb:Ad Tryz.prog 21:=Aw Tryz.func21 (by kernel_rfl) rfl
theorem Ti:Ad Tryz.prog 22:=Aw Tryz.func22 (by kernel_rfl) rfl
theorem Avu:Ad Tryz.prog 23:=Aw Tryz.func23 (by kernel_rfl) rfl
theorem K0:Ad Tryz.prog 24:=Aw Tryz.func24 (by kernel_rfl) rfl
theorem X6:Ad Tryz.prog 25:=Aw Tryz.func25 (by kernel_rfl) rfl
theorem Pe:Ad Tryz.prog 26:=Aw Tryz.func26 (by kernel_rfl) rfl
theorem X7:Ad Tryz.prog 27:=Aw Tryz.func27 (by kernel_rfl) rfl
theorem Tj:Ad Tryz.prog 28:=Aw Tryz.func28 (by kernel_rfl) rfl
theorem X8:Ad Tryz.prog 29:=Aw Tryz.func29 (by kernel_rfl) rfl
theorem Pf:Ad Tryz.prog 31:=Aw Tryz.func31 (by kernel_rfl) rfl
theorem Tk:Ad Tryz.prog 49:=Aw Tryz.func49 (by kernel_rfl) rfl
theorem Avv:Ad Tryz.prog 50:=Aw Tryz.func50 (by kernel_rfl) rfl
theorem Avw:Ad Tryz.prog 51:=Aw Tryz.func51 (by kernel_rfl) rfl
theorem X9:Ad Tryz.prog 52:=Aw Tryz.func52 (by kernel_rfl) rfl
theorem Avx:Ad Tryz.prog 55:=Aw Tryz.func55 (by kernel_rfl) rfl
theorem Avy:Ad Tryz.prog 59:=Aw Tryz.func59 (by kernel_rfl) rfl
theorem Avz:Ad Tryz.prog 62:=Aw Tryz.func62 (by kernel_rfl) rfl
theorem Av0:Ad Tryz.prog 65:=Aw Tryz.func65 (by kernel_rfl) rfl
theorem Av1:Ad Tryz.prog 66:=Aw Tryz.func66 (by kernel_rfl) rfl
theorem Av2:Ad Tryz.prog 67:=Aw Tryz.func67 (by kernel_rfl) rfl
theorem Av3:Ad Tryz.prog 68:=Aw Tryz.func68 (by kernel_rfl) rfl
theorem Av4:Ad Tryz.prog 69:=Aw Tryz.func69 (by kernel_rfl) rfl
theorem Tm:Ad Tryz.prog 70:=Aw Tryz.func70 (by kernel_rfl) rfl
theorem Av5:Ad Tryz.prog 71:=Aw Tryz.func71 (by kernel_rfl) rfl
theorem Ya:Ad Tryz.prog 72:=Aw Tryz.func72 (by kernel_rfl) rfl
theorem Av6:Ad Tryz.prog 73:=Aw Tryz.func73 (by kernel_rfl) rfl
theorem Av7:Ad Tryz.prog 74:=Aw Tryz.func74 (by kernel_rfl) rfl
theorem Yb:Ad Tryz.prog 75:=Aw Tryz.func75 (by kernel_rfl) rfl
theorem Tn:Ad Tryz.prog 76:=Aw Tryz.func76 (by kernel_rfl) rfl
theorem K2:Ad Tryz.prog 77:=Aw Tryz.func77 (by kernel_rfl) rfl
theorem Av8:Ad Tryz.prog 78:=Aw Tryz.func78 (by kernel_rfl) rfl
theorem Av9:Ad Tryz.prog 81:=Aw Tryz.func81 (by kernel_rfl) rfl
theorem Awa:Ad Tryz.prog 84:=Aw Tryz.func84 (by kernel_rfl) rfl
theorem Gn:Ad Tryz.prog 104:=Aw Tryz.func104 (by kernel_rfl) rfl
theorem Awb:Ad Tryz.prog 105:=Aw Tryz.func105 (by kernel_rfl) rfl
theorem Awc:Ad Tryz.prog 106:=Aw Tryz.func106 (by kernel_rfl) rfl
theorem Awd:Ad Tryz.prog 107:=Aw Tryz.func107 (by kernel_rfl) rfl
theorem Yc:Ad Tryz.prog 108:=Aw Tryz.func108 (by kernel_rfl) rfl
theorem Yd:Ad Tryz.prog 109:=Aw Tryz.func109 (by kernel_rfl) rfl
theorem Awe:Ad Tryz.prog 110:=Aw Tryz.func110 (by kernel_rfl) rfl
theorem Awf:Ad Tryz.prog 111:=Aw Tryz.func111 (by kernel_rfl) rfl
theorem Awg:Ad Tryz.prog 112:=Aw Tryz.func112 (by kernel_rfl) rfl
theorem Awh:Ad Tryz.prog 113:=Aw Tryz.func113 (by kernel_rfl) rfl
theorem Awi:Ad Tryz.prog 114:=Aw Tryz.func114 (by kernel_rfl) rfl
theorem Ye:Ad Tryz.prog 120:=Aw Tryz.func120 (by kernel_rfl) rfl
theorem Awj:Ad Tryz.prog 121:=Aw Tryz.func121 (by kernel_rfl) rfl
theorem Yf:Ad Tryz.prog 122:=Aw Tryz.func122 (by kernel_rfl) rfl
theorem Tp:Ad Tryz.prog 123:=Aw Tryz.func123 (by kernel_rfl) rfl
theorem Yg:Ad Tryz.prog 124:=Aw Tryz.func124 (by kernel_rfl) rfl
theorem Awk:Ad Tryz.prog 130:=Aw Tryz.func130 (by kernel_rfl) rfl
theorem Yh:Ad Tryz.prog 135:=Aw Tryz.func135 (by kernel_rfl) rfl
theorem Awl:Ad Tryz.prog 142:=Aw Tryz.func142 (by kernel_rfl) rfl
theorem Awm:Ad Tryz.prog 143:=Aw Tryz.func143 (by kernel_rfl) rfl
theorem Awn:Ad Tryz.prog 144:=Aw Tryz.func144 (by kernel_rfl) rfl
theorem Awo:Ad Tryz.prog 145:=Aw Tryz.func145 (by kernel_rfl) rfl
theorem Mc:Ad Tryz.prog 146:=Aw Tryz.func146 (by kernel_rfl) rfl
theorem Awp:Ad Tryz.prog 147:=Aw Tryz.func147 (by kernel_rfl) rfl
theorem Awq:Ad Tryz.prog 148:=Aw Tryz.func148 (by kernel_rfl) rfl
theorem Awr:Ad Tryz.prog 149:=Aw Tryz.func149 (by kernel_rfl) rfl
theorem Aws:Ad Tryz.prog 177:=Aw Tryz.func177 (by kernel_rfl) rfl
attribute [push_cast] Ag6 Pd Nx I5 Cont.piece Adr Ads Af5 Af6 I6 eqB Oi I8 On Lx Cr C7 Om Lw Adt Vu Se bsA bsN Kr List.flatten_cons List.flatten_nil I7 Ks Cc Fj Lv Ol Cw E0 Km Kn Kp mkS N8 Kq N9 mmS Nu Lq Agh Agi Agj Agk Agl Agm Agn Ago Agp Agt Agu Agv Agq Ags List.forall_mem_append Oj H8 Kg H7 Fw Gk O8 Kw Adx Adv Ady Adz Adw Ad2 Adu Ad0 Ad1 Ad3 Ad4 Ad5 Ad6 Ad7 Ad8 Aea Ad9 Af4 Af3 Agw Agx Agy Agz Ag0 Ek Fb Hc Gf dOk Ep op1 S.put Fr.put Fr.ev Fr.get ev1 ev2 ev3 S.bnd Sv.bnd Sc.bnd At.bnd Res.bnd Cont.bnd B0 H6 Cl Du Lp N5 Nv Nq Nr Ns Nt shS ban unS Lt eqS N4 N6 Nw Oa Lr Ny Nz N2 N3 Gd Ob Oc Od Oe Og N7 bsS parts I4 Gc G9 Ha Kh Oh Dh Dh.zero1 Dh.zeroN Lu Ko Fy Dn Bu C6 Fi Ez I3 At.scalar scalar At.one Value.oneCell' Sc.cont Cont.cut Cont.part Cont.app Cont.len Cont.plain Cont.get Cont.set Cont.over Cont.whole Tc Td Te Xv Xw Xx Agb Agc Agd Age Agf Agg Af7 Af8 Le O7 Hd Sv.ren Sc.ren At.ren Res.ren Cont.ren rn Fin Gj Pb evs Dx Ih Ey maxLen Int.toNat_natCast Int.toNat_zero Nat.zero_add Nat.add_zero Nat.mul_one List.length_cons List.length_nil List.length_append List.length_map List.length_set List.length_replicate List.cons_append List.nil_append List.append_nil List.map_append List.getElem?_cons_zero List.getElem?_cons_succ List.getElem?_nil List.set_cons_zero List.set_cons_succ List.getD_cons_zero List.getD_cons_succ List.take_succ_cons List.take_zero List.drop_zero List.drop_succ_cons List.map_cons List.map_nil List.forall_mem_cons List.not_mem_nil List.reverse_cons List.toList_toArray Option.isSome_some Option.isNone_some Option.isNone_none false_implies implies_true true_implies forall_const true_and and_true and_self not_false_eq_true not_true_eq_false ne_eq or_false false_or or_true true_or or_self Nat.lt_irrefl Nat.le_refl Bool.false_eq_true Bool.true_eq_false Bool.not_true Bool.not_false Bool.or_true Bool.or_false Bool.and_true Bool.and_false Bool.true_and Bool.false_and decide_true decide_false eq_self gt_iff_lt ge_iff_le if_true if_false Option.some.injEq Prod.mk.injEq Sv.x.injEq Sc.a.injEq At.v.injEq At.o.injEq At.p.injEq Res.blk.injEq Res.own.injEq Value.int.injEq Value.bool.injEq Cont.u8.injEq Cont.u32.injEq Cont.u64.injEq Cont.c.injEq Cont.i64.injEq List.cons.injEq Ag3 Ag2 Jp Pc X3 Ag1 List.set_nil
attribute [push_cast] Tryz.underlying2 sz2 bz2 Ag7 zv2 Tryz.underlying3 sz3 bz3 Ag8 zv3 Tryz.underlying4 sz4 bz4 Ag9 zv4 Tryz.underlying5 sz5 bz5 Aha zv5 Tryz.underlying9 sz9 bz9 Ahb zv9 Tryz.underlying12 Ahc Ahd Ahe Ahf Tryz.underlying13 Ahg Ahh Ahi Ahj Ahk Ahl Tryz.underlying15 Ahm Ahn Aho Ahp Tryz.underlying16 Ahq Ahr Ahs Aht Tryz.underlying17 Ahu Ahv Ahw Ahx Tryz.underlying20 Ahy Ahz Ah0 Ah1 Tryz.underlying21 Ah2 Ah3 Ah4 Ah5 Tryz.underlying22 Ah6 Ah7 Ah8 Ah9 Tryz.underlying23 Aia Aib Aic Aid Tryz.underlying24 Aie Aif Aig Aih Aii Aij Aik Ail Aim Tryz.underlying25 Ain Aio Aip Aiq Air Ais Ait Aiu Aiv Tryz.underlying26 Aiw Aix Aiy Tryz.underlying27 Aiz Ai0 Ai1 Ai2 Tryz.underlying30 Ai3 Ai4 Ai5 Ai6 Tryz.underlying31 Ai7 Ai8 Ai9 Aja Tryz.underlying32 Ajb Ajc Ajd Aje Tryz.underlying35 Ajf Ajg Ajh Aji Tryz.underlying36 Ajj Ajk Ajl Ajm Tryz.underlying37 Ajn Ajo Ajp Ajq Ajr Ajs Ajt Aju Ajv Tryz.underlying38 Ajw Ajx Ajy Ajz Aj0 Aj1 Aj2 Aj3 Aj4 Tryz.underlying40 Aj5 Aj6 Aj7 Aj8 Tryz.underlying41 Aj9 Aka Akb Akc Tryz.underlying42 Akd Ake Akf Akg Akh Tryz.underlying43 Aki Akj Akk Akl Tryz.underlying44 Akm Akn Ako Akp Tryz.underlying45 Akq Akr Aks Akt Tryz.underlying46 Aku Akv Akw Akx Tryz.underlying47 Aky Akz Ak0 Ak1 Ak2 Ak3 Ak4 Ak5 Ak6 Ak7 Ak8 Ak9 Ala Alb Tryz.underlying48 Alc Ald Ale Alf Alg Alh Ali Alj Alk Alm Aln Alo Alp Alq Tryz.underlying50 Alr Als Alt Alu Tryz.underlying51 Alv Alw Alx Aly Alz Al0 Al1 Al2 Al3 Al4 Al5 Al6 Al7 Al8 Tryz.underlying52 Al9 Ama Amb Amc Amd Ame Amf Amg Amh Ami Amj Amk Aml Amm Tryz.underlying55 Amn Amo Amp Amq Tryz.underlying59 Amr Ams Amt Amu Amv Tryz.underlying60 Amw Amx Amy Amz Am0 Tryz.underlying66 Am1 Am2 Am3 Am4 Tryz.underlying78 Am5 Am6 Am7 Am8 Tryz.underlying79 Am9 Ana Anb Anc Tryz.underlying82 Ane Anf Ang Anh Tryz.underlying83 Ani Anj Ank Anl Tryz.underlying86 Anm Ann Ano Anp Anq Anr Ans Tryz.underlying87 Ant Anu Anv Anw Anx Any Anz Tryz.underlying91 An0 An1 An2 An3 Tryz.underlying96 An4 An5 An6 An7 An8 An9 Aoa Tryz.underlying97 Aob Aoc Aod Aoe Aof Aog Aoh Tryz.underlying98 Aoi Aoj Aok Aol Aom Aon Aoo Aop Tryz.underlying100 Aoq Aor Aos Aot Tryz.underlying101 Aou Aov Aow Aox Tryz.underlying102 Aoy Aoz Ao0 Ao1 Tryz.underlying103 Ao2 Ao3 Ao4 Ao5 Ao6 Ao7 Ao8 Ao9 Apa Apb Apc Apd Ape Apf Apg Aph Api Apj Tryz.underlying104 Apk Apl Apm Apn Apo App Apq Apr Aps Apt Apu Apv Apw Apx Apy Ap0 Ap1 Ap2 Tryz.underlying106 Ap3 Ap4 Ap5 Ap6 Ap7 Ap8 Ap9 Aqa Tryz.underlying111 Aqb Aqc Aqd Aqe Tryz.underlying114 Aqf Aqg Aqh Aqi Aqj Aqk Tryz.underlying115 Aql Aqm Aqn Aqo Aqp Aqq Aqr Tryz.underlying116 Aqs Aqt Aqu Aqv Tryz.underlying117 Aqw Aqx Aqy Aqz Tryz.underlying118 Aq0 Aq1 Aq2 Aq3 Tryz.underlying119 Aq4 Aq5 Aq6 Aq7 Aq8 Aq9 Ara Arb Arc Tryz.underlying120 Ard Arf Arg Arh Ari Arj Ark Arl Arm Tryz.underlying121 Arn Aro Arp Arq Arr Ars Art Tryz.underlying122 Aru Arv Arw Arx Ary Arz Ar0 Tryz.underlying129 Ar1 Ar2 Ar3 Ar4 Tryz.underlying130 Ar5 Ar6 Ar7 Ar8 Tryz.underlying131 Ar9 Asa Asb Asc Asd Tryz.underlying147 Ase Asf Asg Ash Tryz.underlying148 Asi Asj Asl Asm Asn Aso Asp Asq Asr Ass Ast Asu Asv Tryz.underlying149 Asw Asx Asy Asz As0 As1 As2 As3 As4 As5 As6 As7 As8 Tryz.underlying155 As9 Ata Atb Atc Tryz.underlying163 Atd Ate Atf Atg Ath Ati Atj Tryz.underlying169 Atk Atl Atm Atn Ato Atp Atq Atr Ats Att Tryz.underlying170 Atu Atv Atw Atx Aty Atz At0 At1 At2 At3 Tryz.underlying175 At4 At5 At6 At7 Tryz.underlying200 At8 At9 Aua Aub Tryz.underlying217 Auc Aud Aue Auf Aug Tryz.underlying218 Auh Aui Auj Auk Tryz.underlying222 Aul Aum Aun Auo Tryz.underlying225 Aup Auq Aur Aus Tryz.underlying227 Aut Auu Auv Auw Tryz.underlying228 Aux Auy Auz Au0 Tryz.underlying231 Au1 Au2 Au3 Au4 Tryz.underlying235 Au5 Au6 Au7 Au8 Tryz.underlying244 Au9 Ava Avb Avc Tryz.underlying260 Avd Ave Avf Avg Tryz.underlying269 Avh Avi Avj Avk Tryz.underlying271 Avl Avm Avn Avo Tryz.underlying278 Avp Avq Avr Avs
attribute [push_cast] Tryz.results3 Tryz.results4 Tryz.results5 Tryz.results6 Tryz.results7 Tryz.results8 Tryz.results9 Tryz.results10 Tryz.results11 Tryz.results12 Tryz.results13 Tryz.results14 Tryz.results15 Tryz.results16 Tryz.results17 Tryz.results18 Tryz.results19 Tryz.results20 Tryz.results21 Tryz.results22 Tryz.results23 Tryz.results24 Tryz.results25 Tryz.results26 Tryz.results27 Tryz.results28 Tryz.results29 Tryz.results30 Tryz.results31 Tryz.results32 Tryz.results33 Tryz.results34 Tryz.results35 Tryz.results36 Tryz.results37 Tryz.results38 Tryz.results39 Tryz.results40 Tryz.results41 Tryz.results42 Tryz.results43 Tryz.results44 Tryz.results45 Tryz.results46 Tryz.results47 Tryz.results48 Tryz.results49 Tryz.results50 Tryz.results51 Tryz.results52 Tryz.results53 Tryz.results54 Tryz.results55 Tryz.results56 Tryz.results57 Tryz.results58 Tryz.results59 Tryz.results60 Tryz.results61 Tryz.results62 Tryz.results63 Tryz.results64 Tryz.results65 Tryz.results66 Tryz.results67 Tryz.results68 Tryz.results69 Tryz.results70 Tryz.results71 Tryz.results72 Tryz.results73 Tryz.results74 Tryz.results75 Tryz.results76 Tryz.results77 Tryz.results78 Tryz.results79 Tryz.results81 Tryz.results82 Tryz.results84 Tryz.results85 Tryz.results87 Tryz.results88 Tryz.results89 Tryz.results90 Tryz.results91 Tryz.results92 Tryz.results93 Tryz.results94 Tryz.results95 Tryz.results96 Tryz.results97 Tryz.results98 Tryz.results99 Tryz.results100 Tryz.results101 Tryz.results102 Tryz.results104 Tryz.results105 Tryz.results106 Tryz.results107 Tryz.results108 Tryz.results109 Tryz.results110 Tryz.results111 Tryz.results112 Tryz.results113 Tryz.results114 Tryz.results115 Tryz.results116 Tryz.results117 Tryz.results118 Tryz.results119 Tryz.results120 Tryz.results121 Tryz.results122 Tryz.results123 Tryz.results124 Tryz.results125 Tryz.results126 Tryz.results128 Tryz.results130 Tryz.results131 Tryz.results132 Tryz.results134 Tryz.results135 Tryz.results136 Tryz.results137 Tryz.results142 Tryz.results143 Tryz.results144 Tryz.results145 Tryz.results146 Tryz.results147 Tryz.results148 Tryz.results149 Tryz.results150 Tryz.results151 Tryz.results152 Tryz.results153 Tryz.results154 Tryz.results155 Tryz.results156 Tryz.results157 Tryz.results158 Tryz.results159 Tryz.results160 Tryz.results161 Tryz.results162 Tryz.results163 Tryz.results164 Tryz.results165 Tryz.results166 Tryz.results167 Tryz.results168 Tryz.results169 Tryz.results170 Tryz.results171 Tryz.results172 Tryz.results173 Tryz.results177 Tryz.results178 Tryz.results179 Tryz.results181 Tryz.results182 Tryz.results183 Tryz.results184 Tryz.results185 Tryz.results186 Tryz.results187 Tryz.results188 Tryz.results189 Tryz.results190 Tryz.results191 Tryz.results193 Tryz.results194 Tryz.results195 Tryz.results196 Tryz.results197 Tryz.results198 Tryz.results199 Tryz.results200
end Go.Proofs.YtedaafmfjhjfmaaGreatDoor
