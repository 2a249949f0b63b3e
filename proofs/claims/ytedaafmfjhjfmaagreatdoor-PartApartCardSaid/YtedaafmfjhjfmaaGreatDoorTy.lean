import Derived.Test.YtedaafmfjhjfmaaGreatDoorEn3
import Derived.Test.YtedaafmfjhjfmaaGreatDoorProg
/- Facts on the types of the program, for the engine. Made by program. -/
namespace Go.Proofs.YtedaafmfjhjfmaaGreatDoor
open Go.RowKit
set_option linter.unusedSimpArgs false
theorem sz2:sz Tryz.prog 2=1:=by kernel_rfl
theorem bz2:bz Tryz.prog 2=8:=by kernel_rfl
theorem Ag8:ZOk Tryz.prog 2 (.c [.v (.int .i64 0)])=True:=eq_true ⟨.int .i64 0,by kernel_rfl,fun _=>by first|rfl|simp [Value.cells,Cont.vals,arr8,arr32,arr64]⟩
theorem zv2:Ak Tryz.prog 2 (.a (.v (.int .i64 0)))=True:=eq_true ⟨.int .i64 0,by kernel_rfl,fun _=>by first|rfl|simp [Sc.val,At.val,arr8,arr32,arr64]⟩
theorem sz3:sz Tryz.prog 3=1:=by kernel_rfl
theorem bz3:bz Tryz.prog 3=8:=by kernel_rfl
theorem Ag9:ZOk Tryz.prog 3 (.c [.v (.int .i64 0)])=True:=eq_true ⟨.int .i64 0,by kernel_rfl,fun _=>by first|rfl|simp [Value.cells,Cont.vals,arr8,arr32,arr64]⟩
theorem zv3:Ak Tryz.prog 3 (.a (.v (.int .i64 0)))=True:=eq_true ⟨.int .i64 0,by kernel_rfl,fun _=>by first|rfl|simp [Sc.val,At.val,arr8,arr32,arr64]⟩
theorem sz4:sz Tryz.prog 4=1:=by kernel_rfl
theorem bz4:bz Tryz.prog 4=1:=by kernel_rfl
theorem Aha:ZOk Tryz.prog 4 (.c [.v (.bool false)])=True:=eq_true ⟨.bool false,by kernel_rfl,fun _=>by first|rfl|simp [Value.cells,Cont.vals,arr8,arr32,arr64]⟩
theorem zv4:Ak Tryz.prog 4 (.a (.v (.bool false)))=True:=eq_true ⟨.bool false,by kernel_rfl,fun _=>by first|rfl|simp [Sc.val,At.val,arr8,arr32,arr64]⟩
theorem sz5:sz Tryz.prog 5=1:=by kernel_rfl
theorem bz5:bz Tryz.prog 5=1:=by kernel_rfl
theorem Ahb:ZOk Tryz.prog 5 (.c [.v (.int .u8 0)])=True:=eq_true ⟨.int .u8 0,by kernel_rfl,fun _=>by first|rfl|simp [Value.cells,Cont.vals,arr8,arr32,arr64]⟩
theorem zv5:Ak Tryz.prog 5 (.a (.v (.int .u8 0)))=True:=eq_true ⟨.int .u8 0,by kernel_rfl,fun _=>by first|rfl|simp [Sc.val,At.val,arr8,arr32,arr64]⟩
theorem sz9:sz Tryz.prog 9=1:=by kernel_rfl
theorem bz9:bz Tryz.prog 9=16:=by kernel_rfl
theorem Ahc:ZOk Tryz.prog 9 (.c [.v (.string .empty)])=True:=eq_true ⟨.string .empty,by kernel_rfl,fun _=>by first|rfl|simp [Value.cells,Cont.vals,arr8,arr32,arr64]⟩
theorem zv9:Ak Tryz.prog 9 (.a (.v (.string .empty)))=True:=eq_true ⟨.string .empty,by kernel_rfl,fun _=>by first|rfl|simp [Sc.val,At.val,arr8,arr32,arr64]⟩
theorem Ahd:sz Tryz.prog 12=1:=by kernel_rfl
theorem Ahe:bz Tryz.prog 12=8:=by kernel_rfl
theorem Ahf:ZOk Tryz.prog 12 (.c [.v (.int .u64 0)])=True:=eq_true ⟨.int .u64 0,by kernel_rfl,fun _=>by first|rfl|simp [Value.cells,Cont.vals,arr8,arr32,arr64]⟩
theorem Ahg:Ak Tryz.prog 12 (.a (.v (.int .u64 0)))=True:=eq_true ⟨.int .u64 0,by kernel_rfl,fun _=>by first|rfl|simp [Sc.val,At.val,arr8,arr32,arr64]⟩
theorem Ahh:sz Tryz.prog 13=2:=by kernel_rfl
theorem Ahi:bz Tryz.prog 13=24:=by kernel_rfl
theorem Ahj:Aa Tryz.prog 13 0=some (0,9):=by kernel_rfl
theorem Ahk:Aa Tryz.prog 13 1=some (1,12):=by kernel_rfl
theorem Ahl:ZOk Tryz.prog 13 (.c [.v (.string .empty),.v (.int .u64 0)])=True:=eq_true ⟨.agg #[.string .empty,.int .u64 0],by kernel_rfl,fun _=>by first|rfl|simp [Value.cells,Cont.vals,arr8,arr32,arr64]⟩
theorem Ahm:Ak Tryz.prog 13 (.g [.v (.string .empty),.v (.int .u64 0)])=True:=eq_true ⟨.agg #[.string .empty,.int .u64 0],by kernel_rfl,fun _=>by first|rfl|simp [Sc.val,At.val,arr8,arr32,arr64]⟩
theorem Ahn:sz Tryz.prog 15=1:=by kernel_rfl
theorem Aho:bz Tryz.prog 15=8:=by kernel_rfl
theorem Ahp:ZOk Tryz.prog 15 (.c [.v (.pointer none)])=True:=eq_true ⟨.pointer none,by kernel_rfl,fun _=>by first|rfl|simp [Value.cells,Cont.vals,arr8,arr32,arr64]⟩
theorem Ahq:Ak Tryz.prog 15 (.a (.v (.pointer none)))=True:=eq_true ⟨.pointer none,by kernel_rfl,fun _=>by first|rfl|simp [Sc.val,At.val,arr8,arr32,arr64]⟩
theorem Ahr:sz Tryz.prog 16=1:=by kernel_rfl
theorem Ahs:bz Tryz.prog 16=8:=by kernel_rfl
theorem Aht:ZOk Tryz.prog 16 (.c [.v (.pointer none)])=True:=eq_true ⟨.pointer none,by kernel_rfl,fun _=>by first|rfl|simp [Value.cells,Cont.vals,arr8,arr32,arr64]⟩
theorem Ahu:Ak Tryz.prog 16 (.a (.v (.pointer none)))=True:=eq_true ⟨.pointer none,by kernel_rfl,fun _=>by first|rfl|simp [Sc.val,At.val,arr8,arr32,arr64]⟩
theorem Ahv:sz Tryz.prog 17=1:=by kernel_rfl
theorem Ahw:bz Tryz.prog 17=8:=by kernel_rfl
theorem Ahx:ZOk Tryz.prog 17 (.c [.v (.pointer none)])=True:=eq_true ⟨.pointer none,by kernel_rfl,fun _=>by first|rfl|simp [Value.cells,Cont.vals,arr8,arr32,arr64]⟩
theorem Ahy:Ak Tryz.prog 17 (.a (.v (.pointer none)))=True:=eq_true ⟨.pointer none,by kernel_rfl,fun _=>by first|rfl|simp [Sc.val,At.val,arr8,arr32,arr64]⟩
theorem Ahz:sz Tryz.prog 20=1:=by kernel_rfl
theorem Ah0:bz Tryz.prog 20=16:=by kernel_rfl
theorem Ah1:ZOk Tryz.prog 20 (.c [.v .nilIface])=True:=eq_true ⟨.nilIface,by kernel_rfl,fun _=>by first|rfl|simp [Value.cells,Cont.vals,arr8,arr32,arr64]⟩
theorem Ah2:Ak Tryz.prog 20 (.a (.v (.nilIface)))=True:=eq_true ⟨.nilIface,by kernel_rfl,fun _=>by first|rfl|simp [Sc.val,At.val,arr8,arr32,arr64]⟩
theorem Ah3:sz Tryz.prog 21=1:=by kernel_rfl
theorem Ah4:bz Tryz.prog 21=4:=by kernel_rfl
theorem Ah5:ZOk Tryz.prog 21 (.c [.v (.int .i32 0)])=True:=eq_true ⟨.int .i32 0,by kernel_rfl,fun _=>by first|rfl|simp [Value.cells,Cont.vals,arr8,arr32,arr64]⟩
theorem Ah6:Ak Tryz.prog 21 (.a (.v (.int .i32 0)))=True:=eq_true ⟨.int .i32 0,by kernel_rfl,fun _=>by first|rfl|simp [Sc.val,At.val,arr8,arr32,arr64]⟩
theorem Ah7:sz Tryz.prog 22=1:=by kernel_rfl
theorem Ah8:bz Tryz.prog 22=24:=by kernel_rfl
theorem Ah9:ZOk Tryz.prog 22 (.c [.v (.slice none 0 0)])=True:=eq_true ⟨.slice none 0 0,by kernel_rfl,fun _=>by first|rfl|simp [Value.cells,Cont.vals,arr8,arr32,arr64]⟩
theorem Aia:Ak Tryz.prog 22 (.a (.v (.slice none 0 0)))=True:=eq_true ⟨.slice none 0 0,by kernel_rfl,fun _=>by first|rfl|simp [Sc.val,At.val,arr8,arr32,arr64]⟩
theorem Aib:sz Tryz.prog 23=1:=by kernel_rfl
theorem Aic:bz Tryz.prog 23=24:=by kernel_rfl
theorem Aid:ZOk Tryz.prog 23 (.c [.v (.slice none 0 0)])=True:=eq_true ⟨.slice none 0 0,by kernel_rfl,fun _=>by first|rfl|simp [Value.cells,Cont.vals,arr8,arr32,arr64]⟩
theorem Aie:Ak Tryz.prog 23 (.a (.v (.slice none 0 0)))=True:=eq_true ⟨.slice none 0 0,by kernel_rfl,fun _=>by first|rfl|simp [Sc.val,At.val,arr8,arr32,arr64]⟩
theorem Aif:sz Tryz.prog 24=5:=by kernel_rfl
theorem Aig:bz Tryz.prog 24=72:=by kernel_rfl
theorem Aih:Aa Tryz.prog 24 0=some (0,3):=by kernel_rfl
theorem Aii:Aa Tryz.prog 24 1=some (1,22):=by kernel_rfl
theorem Aij:Aa Tryz.prog 24 2=some (2,23):=by kernel_rfl
theorem Aik:Aa Tryz.prog 24 3=some (3,3):=by kernel_rfl
theorem Ail:Aa Tryz.prog 24 4=some (4,3):=by kernel_rfl
theorem Aim:ZOk Tryz.prog 24 (.c [.v (.int .i64 0),.v (.slice none 0 0),.v (.slice none 0 0),.v (.int .i64 0),.v (.int .i64 0)])=True:=eq_true ⟨.agg #[.int .i64 0,.slice none 0 0,.slice none 0 0,.int .i64 0,.int .i64 0],by kernel_rfl,fun _=>by first|rfl|simp [Value.cells,Cont.vals,arr8,arr32,arr64]⟩
theorem Ain:Ak Tryz.prog 24 (.g [.v (.int .i64 0),.v (.slice none 0 0),.v (.slice none 0 0),.v (.int .i64 0),.v (.int .i64 0)])=True:=eq_true ⟨.agg #[.int .i64 0,.slice none 0 0,.slice none 0 0,.int .i64 0,.int .i64 0],by kernel_rfl,fun _=>by first|rfl|simp [Sc.val,At.val,arr8,arr32,arr64]⟩
theorem Aio:sz Tryz.prog 25=5:=by kernel_rfl
theorem Aip:bz Tryz.prog 25=72:=by kernel_rfl
theorem Aiq:Aa Tryz.prog 25 0=some (0,3):=by kernel_rfl
theorem Air:Aa Tryz.prog 25 1=some (1,22):=by kernel_rfl
theorem Ais:Aa Tryz.prog 25 2=some (2,23):=by kernel_rfl
theorem Ait:Aa Tryz.prog 25 3=some (3,3):=by kernel_rfl
theorem Aiu:Aa Tryz.prog 25 4=some (4,3):=by kernel_rfl
theorem Aiv:ZOk Tryz.prog 25 (.c [.v (.int .i64 0),.v (.slice none 0 0),.v (.slice none 0 0),.v (.int .i64 0),.v (.int .i64 0)])=True:=eq_true ⟨.agg #[.int .i64 0,.slice none 0 0,.slice none 0 0,.int .i64 0,.int .i64 0],by kernel_rfl,fun _=>by first|rfl|simp [Value.cells,Cont.vals,arr8,arr32,arr64]⟩
theorem Aiw:Ak Tryz.prog 25 (.g [.v (.int .i64 0),.v (.slice none 0 0),.v (.slice none 0 0),.v (.int .i64 0),.v (.int .i64 0)])=True:=eq_true ⟨.agg #[.int .i64 0,.slice none 0 0,.slice none 0 0,.int .i64 0,.int .i64 0],by kernel_rfl,fun _=>by first|rfl|simp [Sc.val,At.val,arr8,arr32,arr64]⟩
theorem Aix:sz Tryz.prog 26=2:=by kernel_rfl
theorem Aiy:bz Tryz.prog 26=16:=by kernel_rfl
theorem Aiz:Ke Tryz.prog 26 2 .i64=True:=eq_true ⟨3,Tryz.underlying26,Tryz.underlying3,by kernel_rfl,by kernel_rfl,by kernel_rfl⟩
theorem Ai0:sz Tryz.prog 27=1:=by kernel_rfl
theorem Ai1:bz Tryz.prog 27=24:=by kernel_rfl
theorem Ai2:ZOk Tryz.prog 27 (.c [.v (.slice none 0 0)])=True:=eq_true ⟨.slice none 0 0,by kernel_rfl,fun _=>by first|rfl|simp [Value.cells,Cont.vals,arr8,arr32,arr64]⟩
theorem Ai3:Ak Tryz.prog 27 (.a (.v (.slice none 0 0)))=True:=eq_true ⟨.slice none 0 0,by kernel_rfl,fun _=>by first|rfl|simp [Sc.val,At.val,arr8,arr32,arr64]⟩
theorem Ai4:sz Tryz.prog 30=1:=by kernel_rfl
theorem Ai5:bz Tryz.prog 30=8:=by kernel_rfl
theorem Ai6:ZOk Tryz.prog 30 (.c [.v (.pointer none)])=True:=eq_true ⟨.pointer none,by kernel_rfl,fun _=>by first|rfl|simp [Value.cells,Cont.vals,arr8,arr32,arr64]⟩
theorem Ai7:Ak Tryz.prog 30 (.a (.v (.pointer none)))=True:=eq_true ⟨.pointer none,by kernel_rfl,fun _=>by first|rfl|simp [Sc.val,At.val,arr8,arr32,arr64]⟩
theorem Ai8:sz Tryz.prog 31=1:=by kernel_rfl
theorem Ai9:bz Tryz.prog 31=16:=by kernel_rfl
theorem Aja:ZOk Tryz.prog 31 (.c [.v .nilIface])=True:=eq_true ⟨.nilIface,by kernel_rfl,fun _=>by first|rfl|simp [Value.cells,Cont.vals,arr8,arr32,arr64]⟩
theorem Ajb:Ak Tryz.prog 31 (.a (.v (.nilIface)))=True:=eq_true ⟨.nilIface,by kernel_rfl,fun _=>by first|rfl|simp [Sc.val,At.val,arr8,arr32,arr64]⟩
theorem Ajc:sz Tryz.prog 32=1:=by kernel_rfl
theorem Ajd:bz Tryz.prog 32=16:=by kernel_rfl
theorem Aje:ZOk Tryz.prog 32 (.c [.v .nilIface])=True:=eq_true ⟨.nilIface,by kernel_rfl,fun _=>by first|rfl|simp [Value.cells,Cont.vals,arr8,arr32,arr64]⟩
theorem Ajf:Ak Tryz.prog 32 (.a (.v (.nilIface)))=True:=eq_true ⟨.nilIface,by kernel_rfl,fun _=>by first|rfl|simp [Sc.val,At.val,arr8,arr32,arr64]⟩
theorem Ajg:sz Tryz.prog 35=1:=by kernel_rfl
theorem Ajh:bz Tryz.prog 35=24:=by kernel_rfl
theorem Aji:ZOk Tryz.prog 35 (.c [.v (.slice none 0 0)])=True:=eq_true ⟨.slice none 0 0,by kernel_rfl,fun _=>by first|rfl|simp [Value.cells,Cont.vals,arr8,arr32,arr64]⟩
theorem Ajj:Ak Tryz.prog 35 (.a (.v (.slice none 0 0)))=True:=eq_true ⟨.slice none 0 0,by kernel_rfl,fun _=>by first|rfl|simp [Sc.val,At.val,arr8,arr32,arr64]⟩
theorem Ajk:sz Tryz.prog 36=1:=by kernel_rfl
theorem Ajl:bz Tryz.prog 36=24:=by kernel_rfl
theorem Ajm:ZOk Tryz.prog 36 (.c [.v (.slice none 0 0)])=True:=eq_true ⟨.slice none 0 0,by kernel_rfl,fun _=>by first|rfl|simp [Value.cells,Cont.vals,arr8,arr32,arr64]⟩
theorem Ajn:Ak Tryz.prog 36 (.a (.v (.slice none 0 0)))=True:=eq_true ⟨.slice none 0 0,by kernel_rfl,fun _=>by first|rfl|simp [Sc.val,At.val,arr8,arr32,arr64]⟩
theorem Ajo:sz Tryz.prog 37=5:=by kernel_rfl
theorem Ajp:bz Tryz.prog 37=72:=by kernel_rfl
theorem Ajq:Aa Tryz.prog 37 0=some (0,3):=by kernel_rfl
theorem Ajr:Aa Tryz.prog 37 1=some (1,35):=by kernel_rfl
theorem Ajs:Aa Tryz.prog 37 2=some (2,36):=by kernel_rfl
theorem Ajt:Aa Tryz.prog 37 3=some (3,3):=by kernel_rfl
theorem Aju:Aa Tryz.prog 37 4=some (4,3):=by kernel_rfl
theorem Ajv:ZOk Tryz.prog 37 (.c [.v (.int .i64 0),.v (.slice none 0 0),.v (.slice none 0 0),.v (.int .i64 0),.v (.int .i64 0)])=True:=eq_true ⟨.agg #[.int .i64 0,.slice none 0 0,.slice none 0 0,.int .i64 0,.int .i64 0],by kernel_rfl,fun _=>by first|rfl|simp [Value.cells,Cont.vals,arr8,arr32,arr64]⟩
theorem Ajw:Ak Tryz.prog 37 (.g [.v (.int .i64 0),.v (.slice none 0 0),.v (.slice none 0 0),.v (.int .i64 0),.v (.int .i64 0)])=True:=eq_true ⟨.agg #[.int .i64 0,.slice none 0 0,.slice none 0 0,.int .i64 0,.int .i64 0],by kernel_rfl,fun _=>by first|rfl|simp [Sc.val,At.val,arr8,arr32,arr64]⟩
theorem Ajx:sz Tryz.prog 38=5:=by kernel_rfl
theorem Ajy:bz Tryz.prog 38=72:=by kernel_rfl
theorem Ajz:Aa Tryz.prog 38 0=some (0,3):=by kernel_rfl
theorem Aj0:Aa Tryz.prog 38 1=some (1,35):=by kernel_rfl
theorem Aj1:Aa Tryz.prog 38 2=some (2,36):=by kernel_rfl
theorem Aj2:Aa Tryz.prog 38 3=some (3,3):=by kernel_rfl
theorem Aj3:Aa Tryz.prog 38 4=some (4,3):=by kernel_rfl
theorem Aj4:ZOk Tryz.prog 38 (.c [.v (.int .i64 0),.v (.slice none 0 0),.v (.slice none 0 0),.v (.int .i64 0),.v (.int .i64 0)])=True:=eq_true ⟨.agg #[.int .i64 0,.slice none 0 0,.slice none 0 0,.int .i64 0,.int .i64 0],by kernel_rfl,fun _=>by first|rfl|simp [Value.cells,Cont.vals,arr8,arr32,arr64]⟩
theorem Aj5:Ak Tryz.prog 38 (.g [.v (.int .i64 0),.v (.slice none 0 0),.v (.slice none 0 0),.v (.int .i64 0),.v (.int .i64 0)])=True:=eq_true ⟨.agg #[.int .i64 0,.slice none 0 0,.slice none 0 0,.int .i64 0,.int .i64 0],by kernel_rfl,fun _=>by first|rfl|simp [Sc.val,At.val,arr8,arr32,arr64]⟩
theorem Aj6:sz Tryz.prog 40=1:=by kernel_rfl
theorem Aj7:bz Tryz.prog 40=8:=by kernel_rfl
theorem Aj8:ZOk Tryz.prog 40 (.c [.v (.map none)])=True:=eq_true ⟨.map none,by kernel_rfl,fun _=>by first|rfl|simp [Value.cells,Cont.vals,arr8,arr32,arr64]⟩
theorem Aj9:Ak Tryz.prog 40 (.a (.v (.map none)))=True:=eq_true ⟨.map none,by kernel_rfl,fun _=>by first|rfl|simp [Sc.val,At.val,arr8,arr32,arr64]⟩
theorem Aka:sz Tryz.prog 41=1:=by kernel_rfl
theorem Akb:bz Tryz.prog 41=8:=by kernel_rfl
theorem Akc:ZOk Tryz.prog 41 (.c [.v (.int .u64 0)])=True:=eq_true ⟨.int .u64 0,by kernel_rfl,fun _=>by first|rfl|simp [Value.cells,Cont.vals,arr8,arr32,arr64]⟩
theorem Akd:Ak Tryz.prog 41 (.a (.v (.int .u64 0)))=True:=eq_true ⟨.int .u64 0,by kernel_rfl,fun _=>by first|rfl|simp [Sc.val,At.val,arr8,arr32,arr64]⟩
theorem Ake:sz Tryz.prog 42=32:=by kernel_rfl
theorem Akf:bz Tryz.prog 42=32:=by kernel_rfl
theorem Akg:Ke Tryz.prog 42 32 .u8=True:=eq_true ⟨5,Tryz.underlying42,Tryz.underlying5,by kernel_rfl,by kernel_rfl,by kernel_rfl⟩
theorem Akh:ZOk Tryz.prog 42 (.u8 (List.replicate 32 0))=True:=eq_true ⟨.agg (arr8 (List.replicate 32 0)),by kernel_rfl,fun _=>by first|rfl|simp [Value.cells,Cont.vals,arr8,arr32,arr64]⟩
theorem Aki:Ak Tryz.prog 42 (.a8 (List.replicate 32 0))=True:=eq_true ⟨.agg (arr8 (List.replicate 32 0)),by kernel_rfl,fun _=>by first|rfl|simp [Sc.val,At.val,arr8,arr32,arr64]⟩
theorem Akj:sz Tryz.prog 43=1:=by kernel_rfl
theorem Akk:bz Tryz.prog 43=24:=by kernel_rfl
theorem Akl:ZOk Tryz.prog 43 (.c [.v (.slice none 0 0)])=True:=eq_true ⟨.slice none 0 0,by kernel_rfl,fun _=>by first|rfl|simp [Value.cells,Cont.vals,arr8,arr32,arr64]⟩
theorem Akm:Ak Tryz.prog 43 (.a (.v (.slice none 0 0)))=True:=eq_true ⟨.slice none 0 0,by kernel_rfl,fun _=>by first|rfl|simp [Sc.val,At.val,arr8,arr32,arr64]⟩
theorem Akn:sz Tryz.prog 44=1:=by kernel_rfl
theorem Ako:bz Tryz.prog 44=24:=by kernel_rfl
theorem Akp:ZOk Tryz.prog 44 (.c [.v (.slice none 0 0)])=True:=eq_true ⟨.slice none 0 0,by kernel_rfl,fun _=>by first|rfl|simp [Value.cells,Cont.vals,arr8,arr32,arr64]⟩
theorem Akq:Ak Tryz.prog 44 (.a (.v (.slice none 0 0)))=True:=eq_true ⟨.slice none 0 0,by kernel_rfl,fun _=>by first|rfl|simp [Sc.val,At.val,arr8,arr32,arr64]⟩
theorem Akr:sz Tryz.prog 45=1:=by kernel_rfl
theorem Aks:bz Tryz.prog 45=24:=by kernel_rfl
theorem Akt:ZOk Tryz.prog 45 (.c [.v (.slice none 0 0)])=True:=eq_true ⟨.slice none 0 0,by kernel_rfl,fun _=>by first|rfl|simp [Value.cells,Cont.vals,arr8,arr32,arr64]⟩
theorem Aku:Ak Tryz.prog 45 (.a (.v (.slice none 0 0)))=True:=eq_true ⟨.slice none 0 0,by kernel_rfl,fun _=>by first|rfl|simp [Sc.val,At.val,arr8,arr32,arr64]⟩
theorem Akv:sz Tryz.prog 46=1:=by kernel_rfl
theorem Akw:bz Tryz.prog 46=24:=by kernel_rfl
theorem Akx:ZOk Tryz.prog 46 (.c [.v (.slice none 0 0)])=True:=eq_true ⟨.slice none 0 0,by kernel_rfl,fun _=>by first|rfl|simp [Value.cells,Cont.vals,arr8,arr32,arr64]⟩
theorem Aky:Ak Tryz.prog 46 (.a (.v (.slice none 0 0)))=True:=eq_true ⟨.slice none 0 0,by kernel_rfl,fun _=>by first|rfl|simp [Sc.val,At.val,arr8,arr32,arr64]⟩
theorem Akz:sz Tryz.prog 47=43:=by kernel_rfl
theorem Ak0:bz Tryz.prog 47=184:=by kernel_rfl
theorem Ak1:Aa Tryz.prog 47 0=some (0,5):=by kernel_rfl
theorem Ak2:Aa Tryz.prog 47 1=some (1,3):=by kernel_rfl
theorem Ak3:Aa Tryz.prog 47 2=some (2,3):=by kernel_rfl
theorem Ak4:Aa Tryz.prog 47 3=some (3,3):=by kernel_rfl
theorem Ak5:Aa Tryz.prog 47 4=some (4,3):=by kernel_rfl
theorem Ak6:Aa Tryz.prog 47 5=some (5,41):=by kernel_rfl
theorem Ak7:Aa Tryz.prog 47 6=some (6,42):=by kernel_rfl
theorem Ak8:Aa Tryz.prog 47 7=some (38,43):=by kernel_rfl
theorem Ak9:Aa Tryz.prog 47 8=some (39,44):=by kernel_rfl
theorem Ala:Aa Tryz.prog 47 9=some (40,45):=by kernel_rfl
theorem Alb:Aa Tryz.prog 47 10=some (41,46):=by kernel_rfl
theorem Alc:Aa Tryz.prog 47 11=some (42,3):=by kernel_rfl
theorem Ald:sz Tryz.prog 48=43:=by kernel_rfl
theorem Ale:bz Tryz.prog 48=184:=by kernel_rfl
theorem Alf:Aa Tryz.prog 48 0=some (0,5):=by kernel_rfl
theorem Alg:Aa Tryz.prog 48 1=some (1,3):=by kernel_rfl
theorem Alh:Aa Tryz.prog 48 2=some (2,3):=by kernel_rfl
theorem Ali:Aa Tryz.prog 48 3=some (3,3):=by kernel_rfl
theorem Alj:Aa Tryz.prog 48 4=some (4,3):=by kernel_rfl
theorem Alk:Aa Tryz.prog 48 5=some (5,41):=by kernel_rfl
theorem Alm:Aa Tryz.prog 48 6=some (6,42):=by kernel_rfl
theorem Aln:Aa Tryz.prog 48 7=some (38,43):=by kernel_rfl
theorem Alo:Aa Tryz.prog 48 8=some (39,44):=by kernel_rfl
theorem Alp:Aa Tryz.prog 48 9=some (40,45):=by kernel_rfl
theorem Alq:Aa Tryz.prog 48 10=some (41,46):=by kernel_rfl
theorem Alr:Aa Tryz.prog 48 11=some (42,3):=by kernel_rfl
theorem Als:sz Tryz.prog 50=1:=by kernel_rfl
theorem Alt:bz Tryz.prog 50=24:=by kernel_rfl
theorem Alu:ZOk Tryz.prog 50 (.c [.v (.slice none 0 0)])=True:=eq_true ⟨.slice none 0 0,by kernel_rfl,fun _=>by first|rfl|simp [Value.cells,Cont.vals,arr8,arr32,arr64]⟩
theorem Alv:Ak Tryz.prog 50 (.a (.v (.slice none 0 0)))=True:=eq_true ⟨.slice none 0 0,by kernel_rfl,fun _=>by first|rfl|simp [Sc.val,At.val,arr8,arr32,arr64]⟩
theorem Alw:sz Tryz.prog 51=43:=by kernel_rfl
theorem Alx:bz Tryz.prog 51=184:=by kernel_rfl
theorem Aly:Aa Tryz.prog 51 0=some (0,5):=by kernel_rfl
theorem Alz:Aa Tryz.prog 51 1=some (1,3):=by kernel_rfl
theorem Al0:Aa Tryz.prog 51 2=some (2,3):=by kernel_rfl
theorem Al1:Aa Tryz.prog 51 3=some (3,3):=by kernel_rfl
theorem Al2:Aa Tryz.prog 51 4=some (4,3):=by kernel_rfl
theorem Al3:Aa Tryz.prog 51 5=some (5,41):=by kernel_rfl
theorem Al4:Aa Tryz.prog 51 6=some (6,42):=by kernel_rfl
theorem Al5:Aa Tryz.prog 51 7=some (38,43):=by kernel_rfl
theorem Al6:Aa Tryz.prog 51 8=some (39,44):=by kernel_rfl
theorem Al7:Aa Tryz.prog 51 9=some (40,50):=by kernel_rfl
theorem Al8:Aa Tryz.prog 51 10=some (41,46):=by kernel_rfl
theorem Al9:Aa Tryz.prog 51 11=some (42,3):=by kernel_rfl
theorem Ama:sz Tryz.prog 52=43:=by kernel_rfl
theorem Amb:bz Tryz.prog 52=184:=by kernel_rfl
theorem Amc:Aa Tryz.prog 52 0=some (0,5):=by kernel_rfl
theorem Amd:Aa Tryz.prog 52 1=some (1,3):=by kernel_rfl
theorem Ame:Aa Tryz.prog 52 2=some (2,3):=by kernel_rfl
theorem Amf:Aa Tryz.prog 52 3=some (3,3):=by kernel_rfl
theorem Amg:Aa Tryz.prog 52 4=some (4,3):=by kernel_rfl
theorem Amh:Aa Tryz.prog 52 5=some (5,41):=by kernel_rfl
theorem Ami:Aa Tryz.prog 52 6=some (6,42):=by kernel_rfl
theorem Amj:Aa Tryz.prog 52 7=some (38,43):=by kernel_rfl
theorem Amk:Aa Tryz.prog 52 8=some (39,44):=by kernel_rfl
theorem Aml:Aa Tryz.prog 52 9=some (40,50):=by kernel_rfl
theorem Amm:Aa Tryz.prog 52 10=some (41,46):=by kernel_rfl
theorem Amn:Aa Tryz.prog 52 11=some (42,3):=by kernel_rfl
theorem Amo:sz Tryz.prog 55=1:=by kernel_rfl
theorem Amp:bz Tryz.prog 55=24:=by kernel_rfl
theorem Amq:ZOk Tryz.prog 55 (.c [.v (.slice none 0 0)])=True:=eq_true ⟨.slice none 0 0,by kernel_rfl,fun _=>by first|rfl|simp [Value.cells,Cont.vals,arr8,arr32,arr64]⟩
theorem Amr:Ak Tryz.prog 55 (.a (.v (.slice none 0 0)))=True:=eq_true ⟨.slice none 0 0,by kernel_rfl,fun _=>by first|rfl|simp [Sc.val,At.val,arr8,arr32,arr64]⟩
theorem Ams:sz Tryz.prog 59=45:=by kernel_rfl
theorem Amt:bz Tryz.prog 59=200:=by kernel_rfl
theorem Amu:Aa Tryz.prog 59 0=some (0,4):=by kernel_rfl
theorem Amv:Aa Tryz.prog 59 1=some (1,3):=by kernel_rfl
theorem Amw:Aa Tryz.prog 59 2=some (2,48):=by kernel_rfl
theorem Amx:sz Tryz.prog 60=45:=by kernel_rfl
theorem Amy:bz Tryz.prog 60=200:=by kernel_rfl
theorem Amz:Aa Tryz.prog 60 0=some (0,4):=by kernel_rfl
theorem Am0:Aa Tryz.prog 60 1=some (1,3):=by kernel_rfl
theorem Am1:Aa Tryz.prog 60 2=some (2,48):=by kernel_rfl
theorem Am2:sz Tryz.prog 66=1:=by kernel_rfl
theorem Am3:bz Tryz.prog 66=8:=by kernel_rfl
theorem Am4:ZOk Tryz.prog 66 (.c [.v (.pointer none)])=True:=eq_true ⟨.pointer none,by kernel_rfl,fun _=>by first|rfl|simp [Value.cells,Cont.vals,arr8,arr32,arr64]⟩
theorem Am5:Ak Tryz.prog 66 (.a (.v (.pointer none)))=True:=eq_true ⟨.pointer none,by kernel_rfl,fun _=>by first|rfl|simp [Sc.val,At.val,arr8,arr32,arr64]⟩
theorem Am6:sz Tryz.prog 78=1:=by kernel_rfl
theorem Am7:bz Tryz.prog 78=24:=by kernel_rfl
theorem Am8:ZOk Tryz.prog 78 (.c [.v (.slice none 0 0)])=True:=eq_true ⟨.slice none 0 0,by kernel_rfl,fun _=>by first|rfl|simp [Value.cells,Cont.vals,arr8,arr32,arr64]⟩
theorem Am9:Ak Tryz.prog 78 (.a (.v (.slice none 0 0)))=True:=eq_true ⟨.slice none 0 0,by kernel_rfl,fun _=>by first|rfl|simp [Sc.val,At.val,arr8,arr32,arr64]⟩
theorem Ana:sz Tryz.prog 79=1:=by kernel_rfl
theorem Anb:bz Tryz.prog 79=8:=by kernel_rfl
theorem Anc:ZOk Tryz.prog 79 (.c [.v (.pointer none)])=True:=eq_true ⟨.pointer none,by kernel_rfl,fun _=>by first|rfl|simp [Value.cells,Cont.vals,arr8,arr32,arr64]⟩
theorem Ane:Ak Tryz.prog 79 (.a (.v (.pointer none)))=True:=eq_true ⟨.pointer none,by kernel_rfl,fun _=>by first|rfl|simp [Sc.val,At.val,arr8,arr32,arr64]⟩
theorem Anf:sz Tryz.prog 82=44:=by kernel_rfl
theorem Ang:bz Tryz.prog 82=192:=by kernel_rfl
theorem Anh:Aa Tryz.prog 82 0=some (0,52):=by kernel_rfl
theorem Ani:Aa Tryz.prog 82 1=some (43,3):=by kernel_rfl
theorem Anj:sz Tryz.prog 83=44:=by kernel_rfl
theorem Ank:bz Tryz.prog 83=192:=by kernel_rfl
theorem Anl:Aa Tryz.prog 83 0=some (0,52):=by kernel_rfl
theorem Anm:Aa Tryz.prog 83 1=some (43,3):=by kernel_rfl
theorem Ann:sz Tryz.prog 86=3:=by kernel_rfl
theorem Ano:bz Tryz.prog 86=40:=by kernel_rfl
theorem Anp:Aa Tryz.prog 86 0=some (0,3):=by kernel_rfl
theorem Anq:Aa Tryz.prog 86 1=some (1,43):=by kernel_rfl
theorem Anr:Aa Tryz.prog 86 2=some (2,3):=by kernel_rfl
theorem Ans:ZOk Tryz.prog 86 (.c [.v (.int .i64 0),.v (.slice none 0 0),.v (.int .i64 0)])=True:=eq_true ⟨.agg #[.int .i64 0,.slice none 0 0,.int .i64 0],by kernel_rfl,fun _=>by first|rfl|simp [Value.cells,Cont.vals,arr8,arr32,arr64]⟩
theorem Ant:Ak Tryz.prog 86 (.g [.v (.int .i64 0),.v (.slice none 0 0),.v (.int .i64 0)])=True:=eq_true ⟨.agg #[.int .i64 0,.slice none 0 0,.int .i64 0],by kernel_rfl,fun _=>by first|rfl|simp [Sc.val,At.val,arr8,arr32,arr64]⟩
theorem Anu:sz Tryz.prog 87=3:=by kernel_rfl
theorem Anv:bz Tryz.prog 87=40:=by kernel_rfl
theorem Anw:Aa Tryz.prog 87 0=some (0,3):=by kernel_rfl
theorem Anx:Aa Tryz.prog 87 1=some (1,43):=by kernel_rfl
theorem Any:Aa Tryz.prog 87 2=some (2,3):=by kernel_rfl
theorem Anz:ZOk Tryz.prog 87 (.c [.v (.int .i64 0),.v (.slice none 0 0),.v (.int .i64 0)])=True:=eq_true ⟨.agg #[.int .i64 0,.slice none 0 0,.int .i64 0],by kernel_rfl,fun _=>by first|rfl|simp [Value.cells,Cont.vals,arr8,arr32,arr64]⟩
theorem An0:Ak Tryz.prog 87 (.g [.v (.int .i64 0),.v (.slice none 0 0),.v (.int .i64 0)])=True:=eq_true ⟨.agg #[.int .i64 0,.slice none 0 0,.int .i64 0],by kernel_rfl,fun _=>by first|rfl|simp [Sc.val,At.val,arr8,arr32,arr64]⟩
theorem An1:sz Tryz.prog 91=1:=by kernel_rfl
theorem An2:bz Tryz.prog 91=8:=by kernel_rfl
theorem An3:ZOk Tryz.prog 91 (.c [.v (.int .i64 0)])=True:=eq_true ⟨.int .i64 0,by kernel_rfl,fun _=>by first|rfl|simp [Value.cells,Cont.vals,arr8,arr32,arr64]⟩
theorem An4:Ak Tryz.prog 91 (.a (.v (.int .i64 0)))=True:=eq_true ⟨.int .i64 0,by kernel_rfl,fun _=>by first|rfl|simp [Sc.val,At.val,arr8,arr32,arr64]⟩
theorem An5:sz Tryz.prog 96=3:=by kernel_rfl
theorem An6:bz Tryz.prog 96=40:=by kernel_rfl
theorem An7:Aa Tryz.prog 96 0=some (0,3):=by kernel_rfl
theorem An8:Aa Tryz.prog 96 1=some (1,43):=by kernel_rfl
theorem An9:Aa Tryz.prog 96 2=some (2,3):=by kernel_rfl
theorem Aoa:ZOk Tryz.prog 96 (.c [.v (.int .i64 0),.v (.slice none 0 0),.v (.int .i64 0)])=True:=eq_true ⟨.agg #[.int .i64 0,.slice none 0 0,.int .i64 0],by kernel_rfl,fun _=>by first|rfl|simp [Value.cells,Cont.vals,arr8,arr32,arr64]⟩
theorem Aob:Ak Tryz.prog 96 (.g [.v (.int .i64 0),.v (.slice none 0 0),.v (.int .i64 0)])=True:=eq_true ⟨.agg #[.int .i64 0,.slice none 0 0,.int .i64 0],by kernel_rfl,fun _=>by first|rfl|simp [Sc.val,At.val,arr8,arr32,arr64]⟩
theorem Aoc:sz Tryz.prog 97=3:=by kernel_rfl
theorem Aod:bz Tryz.prog 97=24:=by kernel_rfl
theorem Aoe:Aa Tryz.prog 97 0=some (0,3):=by kernel_rfl
theorem Aof:Aa Tryz.prog 97 1=some (1,3):=by kernel_rfl
theorem Aog:Aa Tryz.prog 97 2=some (2,3):=by kernel_rfl
theorem Aoh:ZOk Tryz.prog 97 (.c [.v (.int .i64 0),.v (.int .i64 0),.v (.int .i64 0)])=True:=eq_true ⟨.agg #[.int .i64 0,.int .i64 0,.int .i64 0],by kernel_rfl,fun _=>by first|rfl|simp [Value.cells,Cont.vals,arr8,arr32,arr64]⟩
theorem Aoi:Ak Tryz.prog 97 (.g [.v (.int .i64 0),.v (.int .i64 0),.v (.int .i64 0)])=True:=eq_true ⟨.agg #[.int .i64 0,.int .i64 0,.int .i64 0],by kernel_rfl,fun _=>by first|rfl|simp [Sc.val,At.val,arr8,arr32,arr64]⟩
theorem Aoj:sz Tryz.prog 98=3:=by kernel_rfl
theorem Aok:bz Tryz.prog 98=24:=by kernel_rfl
theorem Aol:Aa Tryz.prog 98 0=some (0,3):=by kernel_rfl
theorem Aom:Aa Tryz.prog 98 1=some (1,3):=by kernel_rfl
theorem Aon:Aa Tryz.prog 98 2=some (2,3):=by kernel_rfl
theorem Aoo:ZOk Tryz.prog 98 (.c [.v (.int .i64 0),.v (.int .i64 0),.v (.int .i64 0)])=True:=eq_true ⟨.agg #[.int .i64 0,.int .i64 0,.int .i64 0],by kernel_rfl,fun _=>by first|rfl|simp [Value.cells,Cont.vals,arr8,arr32,arr64]⟩
theorem Aop:Ak Tryz.prog 98 (.g [.v (.int .i64 0),.v (.int .i64 0),.v (.int .i64 0)])=True:=eq_true ⟨.agg #[.int .i64 0,.int .i64 0,.int .i64 0],by kernel_rfl,fun _=>by first|rfl|simp [Sc.val,At.val,arr8,arr32,arr64]⟩
theorem Aoq:Lu Tryz.prog 98 [.i64,.i64,.i64]=True:=eq_true ⟨by kernel_rfl,by kernel_rfl,by kernel_rfl,by kernel_rfl⟩
theorem Aor:sz Tryz.prog 100=1:=by kernel_rfl
theorem Aos:bz Tryz.prog 100=8:=by kernel_rfl
theorem Aot:ZOk Tryz.prog 100 (.c [.v (.map none)])=True:=eq_true ⟨.map none,by kernel_rfl,fun _=>by first|rfl|simp [Value.cells,Cont.vals,arr8,arr32,arr64]⟩
theorem Aou:Ak Tryz.prog 100 (.a (.v (.map none)))=True:=eq_true ⟨.map none,by kernel_rfl,fun _=>by first|rfl|simp [Sc.val,At.val,arr8,arr32,arr64]⟩
theorem Aov:sz Tryz.prog 101=1:=by kernel_rfl
theorem Aow:bz Tryz.prog 101=8:=by kernel_rfl
theorem Aox:ZOk Tryz.prog 101 (.c [.v (.map none)])=True:=eq_true ⟨.map none,by kernel_rfl,fun _=>by first|rfl|simp [Value.cells,Cont.vals,arr8,arr32,arr64]⟩
theorem Aoy:Ak Tryz.prog 101 (.a (.v (.map none)))=True:=eq_true ⟨.map none,by kernel_rfl,fun _=>by first|rfl|simp [Sc.val,At.val,arr8,arr32,arr64]⟩
theorem Aoz:sz Tryz.prog 102=1:=by kernel_rfl
theorem Ao0:bz Tryz.prog 102=8:=by kernel_rfl
theorem Ao1:ZOk Tryz.prog 102 (.c [.v (.pointer none)])=True:=eq_true ⟨.pointer none,by kernel_rfl,fun _=>by first|rfl|simp [Value.cells,Cont.vals,arr8,arr32,arr64]⟩
theorem Ao2:Ak Tryz.prog 102 (.a (.v (.pointer none)))=True:=eq_true ⟨.pointer none,by kernel_rfl,fun _=>by first|rfl|simp [Sc.val,At.val,arr8,arr32,arr64]⟩
theorem Ao3:sz Tryz.prog 103=58:=by kernel_rfl
theorem Ao4:bz Tryz.prog 103=368:=by kernel_rfl
theorem Ao5:Aa Tryz.prog 103 0=some (0,3):=by kernel_rfl
theorem Ao6:Aa Tryz.prog 103 1=some (1,3):=by kernel_rfl
theorem Ao7:Aa Tryz.prog 103 2=some (2,3):=by kernel_rfl
theorem Ao8:Aa Tryz.prog 103 3=some (3,3):=by kernel_rfl
theorem Ao9:Aa Tryz.prog 103 4=some (4,3):=by kernel_rfl
theorem Apa:Aa Tryz.prog 103 5=some (5,3):=by kernel_rfl
theorem Apb:Aa Tryz.prog 103 6=some (6,43):=by kernel_rfl
theorem Apc:Aa Tryz.prog 103 7=some (7,43):=by kernel_rfl
theorem Apd:Aa Tryz.prog 103 8=some (8,3):=by kernel_rfl
theorem Ape:Aa Tryz.prog 103 9=some (9,43):=by kernel_rfl
theorem Apf:Aa Tryz.prog 103 10=some (10,102):=by kernel_rfl
theorem Apg:Aa Tryz.prog 103 11=some (11,43):=by kernel_rfl
theorem Aph:Aa Tryz.prog 103 12=some (12,100):=by kernel_rfl
theorem Api:Aa Tryz.prog 103 13=some (13,101):=by kernel_rfl
theorem Apj:Aa Tryz.prog 103 14=some (14,40):=by kernel_rfl
theorem Apk:Aa Tryz.prog 103 15=some (15,48):=by kernel_rfl
theorem Apl:sz Tryz.prog 104=58:=by kernel_rfl
theorem Apm:bz Tryz.prog 104=368:=by kernel_rfl
theorem Apn:Aa Tryz.prog 104 0=some (0,3):=by kernel_rfl
theorem Apo:Aa Tryz.prog 104 1=some (1,3):=by kernel_rfl
theorem App:Aa Tryz.prog 104 2=some (2,3):=by kernel_rfl
theorem Apq:Aa Tryz.prog 104 3=some (3,3):=by kernel_rfl
theorem Apr:Aa Tryz.prog 104 4=some (4,3):=by kernel_rfl
theorem Aps:Aa Tryz.prog 104 5=some (5,3):=by kernel_rfl
theorem Apt:Aa Tryz.prog 104 6=some (6,43):=by kernel_rfl
theorem Apu:Aa Tryz.prog 104 7=some (7,43):=by kernel_rfl
theorem Apv:Aa Tryz.prog 104 8=some (8,3):=by kernel_rfl
theorem Apw:Aa Tryz.prog 104 9=some (9,43):=by kernel_rfl
theorem Apx:Aa Tryz.prog 104 10=some (10,102):=by kernel_rfl
theorem Apy:Aa Tryz.prog 104 11=some (11,43):=by kernel_rfl
theorem Ap0:Aa Tryz.prog 104 12=some (12,100):=by kernel_rfl
theorem Ap1:Aa Tryz.prog 104 13=some (13,101):=by kernel_rfl
theorem Ap2:Aa Tryz.prog 104 14=some (14,40):=by kernel_rfl
theorem Ap3:Aa Tryz.prog 104 15=some (15,48):=by kernel_rfl
theorem Ap4:sz Tryz.prog 106=3:=by kernel_rfl
theorem Ap5:bz Tryz.prog 106=24:=by kernel_rfl
theorem Ap6:Aa Tryz.prog 106 0=some (0,3):=by kernel_rfl
theorem Ap7:Aa Tryz.prog 106 1=some (1,3):=by kernel_rfl
theorem Ap8:Aa Tryz.prog 106 2=some (2,3):=by kernel_rfl
theorem Ap9:ZOk Tryz.prog 106 (.c [.v (.int .i64 0),.v (.int .i64 0),.v (.int .i64 0)])=True:=eq_true ⟨.agg #[.int .i64 0,.int .i64 0,.int .i64 0],by kernel_rfl,fun _=>by first|rfl|simp [Value.cells,Cont.vals,arr8,arr32,arr64]⟩
theorem Aqa:Ak Tryz.prog 106 (.g [.v (.int .i64 0),.v (.int .i64 0),.v (.int .i64 0)])=True:=eq_true ⟨.agg #[.int .i64 0,.int .i64 0,.int .i64 0],by kernel_rfl,fun _=>by first|rfl|simp [Sc.val,At.val,arr8,arr32,arr64]⟩
theorem Aqb:Lu Tryz.prog 106 [.i64,.i64,.i64]=True:=eq_true ⟨by kernel_rfl,by kernel_rfl,by kernel_rfl,by kernel_rfl⟩
theorem Aqc:sz Tryz.prog 111=1:=by kernel_rfl
theorem Aqd:bz Tryz.prog 111=4:=by kernel_rfl
theorem Aqe:ZOk Tryz.prog 111 (.c [.v (.int .u32 0)])=True:=eq_true ⟨.int .u32 0,by kernel_rfl,fun _=>by first|rfl|simp [Value.cells,Cont.vals,arr8,arr32,arr64]⟩
theorem Aqf:Ak Tryz.prog 111 (.a (.v (.int .u32 0)))=True:=eq_true ⟨.int .u32 0,by kernel_rfl,fun _=>by first|rfl|simp [Sc.val,At.val,arr8,arr32,arr64]⟩
theorem Aqg:sz Tryz.prog 114=2:=by kernel_rfl
theorem Aqh:bz Tryz.prog 114=16:=by kernel_rfl
theorem Aqi:Aa Tryz.prog 114 0=some (0,3):=by kernel_rfl
theorem Aqj:Aa Tryz.prog 114 1=some (1,41):=by kernel_rfl
theorem Aqk:ZOk Tryz.prog 114 (.c [.v (.int .i64 0),.v (.int .u64 0)])=True:=eq_true ⟨.agg #[.int .i64 0,.int .u64 0],by kernel_rfl,fun _=>by first|rfl|simp [Value.cells,Cont.vals,arr8,arr32,arr64]⟩
theorem Aql:Ak Tryz.prog 114 (.g [.v (.int .i64 0),.v (.int .u64 0)])=True:=eq_true ⟨.agg #[.int .i64 0,.int .u64 0],by kernel_rfl,fun _=>by first|rfl|simp [Sc.val,At.val,arr8,arr32,arr64]⟩
theorem Aqm:sz Tryz.prog 115=2:=by kernel_rfl
theorem Aqn:bz Tryz.prog 115=16:=by kernel_rfl
theorem Aqo:Aa Tryz.prog 115 0=some (0,3):=by kernel_rfl
theorem Aqp:Aa Tryz.prog 115 1=some (1,41):=by kernel_rfl
theorem Aqq:ZOk Tryz.prog 115 (.c [.v (.int .i64 0),.v (.int .u64 0)])=True:=eq_true ⟨.agg #[.int .i64 0,.int .u64 0],by kernel_rfl,fun _=>by first|rfl|simp [Value.cells,Cont.vals,arr8,arr32,arr64]⟩
theorem Aqr:Ak Tryz.prog 115 (.g [.v (.int .i64 0),.v (.int .u64 0)])=True:=eq_true ⟨.agg #[.int .i64 0,.int .u64 0],by kernel_rfl,fun _=>by first|rfl|simp [Sc.val,At.val,arr8,arr32,arr64]⟩
theorem Aqs:Lu Tryz.prog 115 [.i64,.u64]=True:=eq_true ⟨by kernel_rfl,by kernel_rfl,by kernel_rfl,by kernel_rfl⟩
theorem Aqt:sz Tryz.prog 116=1:=by kernel_rfl
theorem Aqu:bz Tryz.prog 116=8:=by kernel_rfl
theorem Aqv:ZOk Tryz.prog 116 (.c [.v (.map none)])=True:=eq_true ⟨.map none,by kernel_rfl,fun _=>by first|rfl|simp [Value.cells,Cont.vals,arr8,arr32,arr64]⟩
theorem Aqw:Ak Tryz.prog 116 (.a (.v (.map none)))=True:=eq_true ⟨.map none,by kernel_rfl,fun _=>by first|rfl|simp [Sc.val,At.val,arr8,arr32,arr64]⟩
theorem Aqx:sz Tryz.prog 117=1:=by kernel_rfl
theorem Aqy:bz Tryz.prog 117=8:=by kernel_rfl
theorem Aqz:ZOk Tryz.prog 117 (.c [.v (.map none)])=True:=eq_true ⟨.map none,by kernel_rfl,fun _=>by first|rfl|simp [Value.cells,Cont.vals,arr8,arr32,arr64]⟩
theorem Aq0:Ak Tryz.prog 117 (.a (.v (.map none)))=True:=eq_true ⟨.map none,by kernel_rfl,fun _=>by first|rfl|simp [Sc.val,At.val,arr8,arr32,arr64]⟩
theorem Aq1:sz Tryz.prog 118=1:=by kernel_rfl
theorem Aq2:bz Tryz.prog 118=24:=by kernel_rfl
theorem Aq3:ZOk Tryz.prog 118 (.c [.v (.slice none 0 0)])=True:=eq_true ⟨.slice none 0 0,by kernel_rfl,fun _=>by first|rfl|simp [Value.cells,Cont.vals,arr8,arr32,arr64]⟩
theorem Aq4:Ak Tryz.prog 118 (.a (.v (.slice none 0 0)))=True:=eq_true ⟨.slice none 0 0,by kernel_rfl,fun _=>by first|rfl|simp [Sc.val,At.val,arr8,arr32,arr64]⟩
theorem Aq5:sz Tryz.prog 119=5:=by kernel_rfl
theorem Aq6:bz Tryz.prog 119=56:=by kernel_rfl
theorem Aq7:Aa Tryz.prog 119 0=some (0,3):=by kernel_rfl
theorem Aq8:Aa Tryz.prog 119 1=some (1,3):=by kernel_rfl
theorem Aq9:Aa Tryz.prog 119 2=some (2,118):=by kernel_rfl
theorem Ara:Aa Tryz.prog 119 3=some (3,116):=by kernel_rfl
theorem Arb:Aa Tryz.prog 119 4=some (4,117):=by kernel_rfl
theorem Arc:ZOk Tryz.prog 119 (.c [.v (.int .i64 0),.v (.int .i64 0),.v (.slice none 0 0),.v (.map none),.v (.map none)])=True:=eq_true ⟨.agg #[.int .i64 0,.int .i64 0,.slice none 0 0,.map none,.map none],by kernel_rfl,fun _=>by first|rfl|simp [Value.cells,Cont.vals,arr8,arr32,arr64]⟩
theorem Ard:Ak Tryz.prog 119 (.g [.v (.int .i64 0),.v (.int .i64 0),.v (.slice none 0 0),.v (.map none),.v (.map none)])=True:=eq_true ⟨.agg #[.int .i64 0,.int .i64 0,.slice none 0 0,.map none,.map none],by kernel_rfl,fun _=>by first|rfl|simp [Sc.val,At.val,arr8,arr32,arr64]⟩
theorem Arf:sz Tryz.prog 120=5:=by kernel_rfl
theorem Arg:bz Tryz.prog 120=56:=by kernel_rfl
theorem Arh:Aa Tryz.prog 120 0=some (0,3):=by kernel_rfl
theorem Ari:Aa Tryz.prog 120 1=some (1,3):=by kernel_rfl
theorem Arj:Aa Tryz.prog 120 2=some (2,118):=by kernel_rfl
theorem Ark:Aa Tryz.prog 120 3=some (3,116):=by kernel_rfl
theorem Arl:Aa Tryz.prog 120 4=some (4,117):=by kernel_rfl
theorem Arm:ZOk Tryz.prog 120 (.c [.v (.int .i64 0),.v (.int .i64 0),.v (.slice none 0 0),.v (.map none),.v (.map none)])=True:=eq_true ⟨.agg #[.int .i64 0,.int .i64 0,.slice none 0 0,.map none,.map none],by kernel_rfl,fun _=>by first|rfl|simp [Value.cells,Cont.vals,arr8,arr32,arr64]⟩
theorem Arn:Ak Tryz.prog 120 (.g [.v (.int .i64 0),.v (.int .i64 0),.v (.slice none 0 0),.v (.map none),.v (.map none)])=True:=eq_true ⟨.agg #[.int .i64 0,.int .i64 0,.slice none 0 0,.map none,.map none],by kernel_rfl,fun _=>by first|rfl|simp [Sc.val,At.val,arr8,arr32,arr64]⟩
theorem Aro:sz Tryz.prog 121=3:=by kernel_rfl
theorem Arp:bz Tryz.prog 121=56:=by kernel_rfl
theorem Arq:Aa Tryz.prog 121 0=some (0,43):=by kernel_rfl
theorem Arr:Aa Tryz.prog 121 1=some (1,43):=by kernel_rfl
theorem Ars:Aa Tryz.prog 121 2=some (2,3):=by kernel_rfl
theorem Art:ZOk Tryz.prog 121 (.c [.v (.slice none 0 0),.v (.slice none 0 0),.v (.int .i64 0)])=True:=eq_true ⟨.agg #[.slice none 0 0,.slice none 0 0,.int .i64 0],by kernel_rfl,fun _=>by first|rfl|simp [Value.cells,Cont.vals,arr8,arr32,arr64]⟩
theorem Aru:Ak Tryz.prog 121 (.g [.v (.slice none 0 0),.v (.slice none 0 0),.v (.int .i64 0)])=True:=eq_true ⟨.agg #[.slice none 0 0,.slice none 0 0,.int .i64 0],by kernel_rfl,fun _=>by first|rfl|simp [Sc.val,At.val,arr8,arr32,arr64]⟩
theorem Arv:sz Tryz.prog 122=3:=by kernel_rfl
theorem Arw:bz Tryz.prog 122=56:=by kernel_rfl
theorem Arx:Aa Tryz.prog 122 0=some (0,43):=by kernel_rfl
theorem Ary:Aa Tryz.prog 122 1=some (1,43):=by kernel_rfl
theorem Arz:Aa Tryz.prog 122 2=some (2,3):=by kernel_rfl
theorem Ar0:ZOk Tryz.prog 122 (.c [.v (.slice none 0 0),.v (.slice none 0 0),.v (.int .i64 0)])=True:=eq_true ⟨.agg #[.slice none 0 0,.slice none 0 0,.int .i64 0],by kernel_rfl,fun _=>by first|rfl|simp [Value.cells,Cont.vals,arr8,arr32,arr64]⟩
theorem Ar1:Ak Tryz.prog 122 (.g [.v (.slice none 0 0),.v (.slice none 0 0),.v (.int .i64 0)])=True:=eq_true ⟨.agg #[.slice none 0 0,.slice none 0 0,.int .i64 0],by kernel_rfl,fun _=>by first|rfl|simp [Sc.val,At.val,arr8,arr32,arr64]⟩
theorem Ar2:sz Tryz.prog 129=1:=by kernel_rfl
theorem Ar3:bz Tryz.prog 129=24:=by kernel_rfl
theorem Ar4:ZOk Tryz.prog 129 (.c [.v (.slice none 0 0)])=True:=eq_true ⟨.slice none 0 0,by kernel_rfl,fun _=>by first|rfl|simp [Value.cells,Cont.vals,arr8,arr32,arr64]⟩
theorem Ar5:Ak Tryz.prog 129 (.a (.v (.slice none 0 0)))=True:=eq_true ⟨.slice none 0 0,by kernel_rfl,fun _=>by first|rfl|simp [Sc.val,At.val,arr8,arr32,arr64]⟩
theorem Ar6:sz Tryz.prog 130=1:=by kernel_rfl
theorem Ar7:bz Tryz.prog 130=24:=by kernel_rfl
theorem Ar8:ZOk Tryz.prog 130 (.c [.v (.slice none 0 0)])=True:=eq_true ⟨.slice none 0 0,by kernel_rfl,fun _=>by first|rfl|simp [Value.cells,Cont.vals,arr8,arr32,arr64]⟩
theorem Ar9:Ak Tryz.prog 130 (.a (.v (.slice none 0 0)))=True:=eq_true ⟨.slice none 0 0,by kernel_rfl,fun _=>by first|rfl|simp [Sc.val,At.val,arr8,arr32,arr64]⟩
theorem Asa:sz Tryz.prog 131=2:=by kernel_rfl
theorem Asb:bz Tryz.prog 131=16:=by kernel_rfl
theorem Asc:Ke Tryz.prog 131 2 .u64=True:=eq_true ⟨41,Tryz.underlying131,Tryz.underlying41,by kernel_rfl,by kernel_rfl,by kernel_rfl⟩
theorem Asd:ZOk Tryz.prog 131 (.u64 (List.replicate 2 0))=True:=eq_true ⟨.agg (arr64 (List.replicate 2 0)),by kernel_rfl,fun _=>by first|rfl|simp [Value.cells,Cont.vals,arr8,arr32,arr64]⟩
theorem Ase:Ak Tryz.prog 131 (.a64 (List.replicate 2 0))=True:=eq_true ⟨.agg (arr64 (List.replicate 2 0)),by kernel_rfl,fun _=>by first|rfl|simp [Sc.val,At.val,arr8,arr32,arr64]⟩
theorem Asf:sz Tryz.prog 147=1:=by kernel_rfl
theorem Asg:bz Tryz.prog 147=8:=by kernel_rfl
theorem Ash:ZOk Tryz.prog 147 (.c [.v (.map none)])=True:=eq_true ⟨.map none,by kernel_rfl,fun _=>by first|rfl|simp [Value.cells,Cont.vals,arr8,arr32,arr64]⟩
theorem Asi:Ak Tryz.prog 147 (.a (.v (.map none)))=True:=eq_true ⟨.map none,by kernel_rfl,fun _=>by first|rfl|simp [Sc.val,At.val,arr8,arr32,arr64]⟩
theorem Asj:sz Tryz.prog 148=9:=by kernel_rfl
theorem Asl:bz Tryz.prog 148=104:=by kernel_rfl
theorem Asm:Aa Tryz.prog 148 0=some (0,3):=by kernel_rfl
theorem Asn:Aa Tryz.prog 148 1=some (1,3):=by kernel_rfl
theorem Aso:Aa Tryz.prog 148 2=some (2,3):=by kernel_rfl
theorem Asp:Aa Tryz.prog 148 3=some (3,43):=by kernel_rfl
theorem Asq:Aa Tryz.prog 148 4=some (4,43):=by kernel_rfl
theorem Asr:Aa Tryz.prog 148 5=some (5,147):=by kernel_rfl
theorem Ass:Aa Tryz.prog 148 6=some (6,102):=by kernel_rfl
theorem Ast:Aa Tryz.prog 148 7=some (7,66):=by kernel_rfl
theorem Asu:Aa Tryz.prog 148 8=some (8,3):=by kernel_rfl
theorem Asv:ZOk Tryz.prog 148 (.c [.v (.int .i64 0),.v (.int .i64 0),.v (.int .i64 0),.v (.slice none 0 0),.v (.slice none 0 0),.v (.map none),.v (.pointer none),.v (.pointer none),.v (.int .i64 0)])=True:=eq_true ⟨.agg #[.int .i64 0,.int .i64 0,.int .i64 0,.slice none 0 0,.slice none 0 0,.map none,.pointer none,.pointer none,.int .i64 0],by kernel_rfl,fun _=>by first|rfl|simp [Value.cells,Cont.vals,arr8,arr32,arr64]⟩
theorem Asw:Ak Tryz.prog 148 (.g [.v (.int .i64 0),.v (.int .i64 0),.v (.int .i64 0),.v (.slice none 0 0),.v (.slice none 0 0),.v (.map none),.v (.pointer none),.v (.pointer none),.v (.int .i64 0)])=True:=eq_true ⟨.agg #[.int .i64 0,.int .i64 0,.int .i64 0,.slice none 0 0,.slice none 0 0,.map none,.pointer none,.pointer none,.int .i64 0],by kernel_rfl,fun _=>by first|rfl|simp [Sc.val,At.val,arr8,arr32,arr64]⟩
theorem Asx:sz Tryz.prog 149=9:=by kernel_rfl
theorem Asy:bz Tryz.prog 149=104:=by kernel_rfl
theorem Asz:Aa Tryz.prog 149 0=some (0,3):=by kernel_rfl
theorem As0:Aa Tryz.prog 149 1=some (1,3):=by kernel_rfl
theorem As1:Aa Tryz.prog 149 2=some (2,3):=by kernel_rfl
theorem As2:Aa Tryz.prog 149 3=some (3,43):=by kernel_rfl
theorem As3:Aa Tryz.prog 149 4=some (4,43):=by kernel_rfl
theorem As4:Aa Tryz.prog 149 5=some (5,147):=by kernel_rfl
theorem As5:Aa Tryz.prog 149 6=some (6,102):=by kernel_rfl
theorem As6:Aa Tryz.prog 149 7=some (7,66):=by kernel_rfl
theorem As7:Aa Tryz.prog 149 8=some (8,3):=by kernel_rfl
theorem As8:ZOk Tryz.prog 149 (.c [.v (.int .i64 0),.v (.int .i64 0),.v (.int .i64 0),.v (.slice none 0 0),.v (.slice none 0 0),.v (.map none),.v (.pointer none),.v (.pointer none),.v (.int .i64 0)])=True:=eq_true ⟨.agg #[.int .i64 0,.int .i64 0,.int .i64 0,.slice none 0 0,.slice none 0 0,.map none,.pointer none,.pointer none,.int .i64 0],by kernel_rfl,fun _=>by first|rfl|simp [Value.cells,Cont.vals,arr8,arr32,arr64]⟩
theorem As9:Ak Tryz.prog 149 (.g [.v (.int .i64 0),.v (.int .i64 0),.v (.int .i64 0),.v (.slice none 0 0),.v (.slice none 0 0),.v (.map none),.v (.pointer none),.v (.pointer none),.v (.int .i64 0)])=True:=eq_true ⟨.agg #[.int .i64 0,.int .i64 0,.int .i64 0,.slice none 0 0,.slice none 0 0,.map none,.pointer none,.pointer none,.int .i64 0],by kernel_rfl,fun _=>by first|rfl|simp [Sc.val,At.val,arr8,arr32,arr64]⟩
theorem Ata:sz Tryz.prog 155=1:=by kernel_rfl
theorem Atb:bz Tryz.prog 155=8:=by kernel_rfl
theorem Atc:ZOk Tryz.prog 155 (.c [.v (.pointer none)])=True:=eq_true ⟨.pointer none,by kernel_rfl,fun _=>by first|rfl|simp [Value.cells,Cont.vals,arr8,arr32,arr64]⟩
theorem Atd:Ak Tryz.prog 155 (.a (.v (.pointer none)))=True:=eq_true ⟨.pointer none,by kernel_rfl,fun _=>by first|rfl|simp [Sc.val,At.val,arr8,arr32,arr64]⟩
theorem Ate:sz Tryz.prog 163=2:=by kernel_rfl
theorem Atf:bz Tryz.prog 163=16:=by kernel_rfl
theorem Atg:Aa Tryz.prog 163 0=some (0,3):=by kernel_rfl
theorem Ath:Aa Tryz.prog 163 1=some (1,41):=by kernel_rfl
theorem Ati:ZOk Tryz.prog 163 (.c [.v (.int .i64 0),.v (.int .u64 0)])=True:=eq_true ⟨.agg #[.int .i64 0,.int .u64 0],by kernel_rfl,fun _=>by first|rfl|simp [Value.cells,Cont.vals,arr8,arr32,arr64]⟩
theorem Atj:Ak Tryz.prog 163 (.g [.v (.int .i64 0),.v (.int .u64 0)])=True:=eq_true ⟨.agg #[.int .i64 0,.int .u64 0],by kernel_rfl,fun _=>by first|rfl|simp [Sc.val,At.val,arr8,arr32,arr64]⟩
theorem Atk:Lu Tryz.prog 163 [.i64,.u64]=True:=eq_true ⟨by kernel_rfl,by kernel_rfl,by kernel_rfl,by kernel_rfl⟩
theorem Atl:sz Tryz.prog 169=6:=by kernel_rfl
theorem Atm:bz Tryz.prog 169=96:=by kernel_rfl
theorem Atn:Aa Tryz.prog 169 0=some (0,43):=by kernel_rfl
theorem Ato:Aa Tryz.prog 169 1=some (1,43):=by kernel_rfl
theorem Atp:Aa Tryz.prog 169 2=some (2,43):=by kernel_rfl
theorem Atq:Aa Tryz.prog 169 3=some (3,3):=by kernel_rfl
theorem Atr:Aa Tryz.prog 169 4=some (4,3):=by kernel_rfl
theorem Ats:Aa Tryz.prog 169 5=some (5,3):=by kernel_rfl
theorem Att:ZOk Tryz.prog 169 (.c [.v (.slice none 0 0),.v (.slice none 0 0),.v (.slice none 0 0),.v (.int .i64 0),.v (.int .i64 0),.v (.int .i64 0)])=True:=eq_true ⟨.agg #[.slice none 0 0,.slice none 0 0,.slice none 0 0,.int .i64 0,.int .i64 0,.int .i64 0],by kernel_rfl,fun _=>by first|rfl|simp [Value.cells,Cont.vals,arr8,arr32,arr64]⟩
theorem Atu:Ak Tryz.prog 169 (.g [.v (.slice none 0 0),.v (.slice none 0 0),.v (.slice none 0 0),.v (.int .i64 0),.v (.int .i64 0),.v (.int .i64 0)])=True:=eq_true ⟨.agg #[.slice none 0 0,.slice none 0 0,.slice none 0 0,.int .i64 0,.int .i64 0,.int .i64 0],by kernel_rfl,fun _=>by first|rfl|simp [Sc.val,At.val,arr8,arr32,arr64]⟩
theorem Atv:sz Tryz.prog 170=6:=by kernel_rfl
theorem Atw:bz Tryz.prog 170=96:=by kernel_rfl
theorem Atx:Aa Tryz.prog 170 0=some (0,43):=by kernel_rfl
theorem Aty:Aa Tryz.prog 170 1=some (1,43):=by kernel_rfl
theorem Atz:Aa Tryz.prog 170 2=some (2,43):=by kernel_rfl
theorem At0:Aa Tryz.prog 170 3=some (3,3):=by kernel_rfl
theorem At1:Aa Tryz.prog 170 4=some (4,3):=by kernel_rfl
theorem At2:Aa Tryz.prog 170 5=some (5,3):=by kernel_rfl
theorem At3:ZOk Tryz.prog 170 (.c [.v (.slice none 0 0),.v (.slice none 0 0),.v (.slice none 0 0),.v (.int .i64 0),.v (.int .i64 0),.v (.int .i64 0)])=True:=eq_true ⟨.agg #[.slice none 0 0,.slice none 0 0,.slice none 0 0,.int .i64 0,.int .i64 0,.int .i64 0],by kernel_rfl,fun _=>by first|rfl|simp [Value.cells,Cont.vals,arr8,arr32,arr64]⟩
theorem At4:Ak Tryz.prog 170 (.g [.v (.slice none 0 0),.v (.slice none 0 0),.v (.slice none 0 0),.v (.int .i64 0),.v (.int .i64 0),.v (.int .i64 0)])=True:=eq_true ⟨.agg #[.slice none 0 0,.slice none 0 0,.slice none 0 0,.int .i64 0,.int .i64 0,.int .i64 0],by kernel_rfl,fun _=>by first|rfl|simp [Sc.val,At.val,arr8,arr32,arr64]⟩
theorem At5:sz Tryz.prog 175=1:=by kernel_rfl
theorem At6:bz Tryz.prog 175=8:=by kernel_rfl
theorem At7:ZOk Tryz.prog 175 (.c [.v (.int .u64 0)])=True:=eq_true ⟨.int .u64 0,by kernel_rfl,fun _=>by first|rfl|simp [Value.cells,Cont.vals,arr8,arr32,arr64]⟩
theorem At8:Ak Tryz.prog 175 (.a (.v (.int .u64 0)))=True:=eq_true ⟨.int .u64 0,by kernel_rfl,fun _=>by first|rfl|simp [Sc.val,At.val,arr8,arr32,arr64]⟩
theorem At9:sz Tryz.prog 200=1:=by kernel_rfl
theorem Aua:bz Tryz.prog 200=8:=by kernel_rfl
theorem Aub:ZOk Tryz.prog 200 (.c [.v (.int .i64 0)])=True:=eq_true ⟨.int .i64 0,by kernel_rfl,fun _=>by first|rfl|simp [Value.cells,Cont.vals,arr8,arr32,arr64]⟩
theorem Auc:Ak Tryz.prog 200 (.a (.v (.int .i64 0)))=True:=eq_true ⟨.int .i64 0,by kernel_rfl,fun _=>by first|rfl|simp [Sc.val,At.val,arr8,arr32,arr64]⟩
theorem Aud:sz Tryz.prog 217=1:=by kernel_rfl
theorem Aue:bz Tryz.prog 217=8:=by kernel_rfl
theorem Auf:Aa Tryz.prog 217 0=some (0,17):=by kernel_rfl
theorem Aug:ZOk Tryz.prog 217 (.c [.v (.pointer none)])=True:=eq_true ⟨.agg #[.pointer none],by kernel_rfl,fun _=>by first|rfl|simp [Value.cells,Cont.vals,arr8,arr32,arr64]⟩
theorem Auh:Ak Tryz.prog 217 (.g [.v (.pointer none)])=True:=eq_true ⟨.agg #[.pointer none],by kernel_rfl,fun _=>by first|rfl|simp [Sc.val,At.val,arr8,arr32,arr64]⟩
theorem Aui:sz Tryz.prog 218=1:=by kernel_rfl
theorem Auj:bz Tryz.prog 218=8:=by kernel_rfl
theorem Auk:ZOk Tryz.prog 218 (.c [.v (.pointer none)])=True:=eq_true ⟨.pointer none,by kernel_rfl,fun _=>by first|rfl|simp [Value.cells,Cont.vals,arr8,arr32,arr64]⟩
theorem Aul:Ak Tryz.prog 218 (.a (.v (.pointer none)))=True:=eq_true ⟨.pointer none,by kernel_rfl,fun _=>by first|rfl|simp [Sc.val,At.val,arr8,arr32,arr64]⟩
theorem Aum:sz Tryz.prog 222=1:=by kernel_rfl
theorem Aun:bz Tryz.prog 222=16:=by kernel_rfl
theorem Auo:ZOk Tryz.prog 222 (.c [.v .nilIface])=True:=eq_true ⟨.nilIface,by kernel_rfl,fun _=>by first|rfl|simp [Value.cells,Cont.vals,arr8,arr32,arr64]⟩
theorem Aup:Ak Tryz.prog 222 (.a (.v (.nilIface)))=True:=eq_true ⟨.nilIface,by kernel_rfl,fun _=>by first|rfl|simp [Sc.val,At.val,arr8,arr32,arr64]⟩
theorem Auq:sz Tryz.prog 225=1:=by kernel_rfl
theorem Aur:bz Tryz.prog 225=16:=by kernel_rfl
theorem Aus:ZOk Tryz.prog 225 (.c [.v .nilIface])=True:=eq_true ⟨.nilIface,by kernel_rfl,fun _=>by first|rfl|simp [Value.cells,Cont.vals,arr8,arr32,arr64]⟩
theorem Aut:Ak Tryz.prog 225 (.a (.v (.nilIface)))=True:=eq_true ⟨.nilIface,by kernel_rfl,fun _=>by first|rfl|simp [Sc.val,At.val,arr8,arr32,arr64]⟩
theorem Auu:sz Tryz.prog 227=1:=by kernel_rfl
theorem Auv:bz Tryz.prog 227=16:=by kernel_rfl
theorem Auw:ZOk Tryz.prog 227 (.c [.v .nilIface])=True:=eq_true ⟨.nilIface,by kernel_rfl,fun _=>by first|rfl|simp [Value.cells,Cont.vals,arr8,arr32,arr64]⟩
theorem Aux:Ak Tryz.prog 227 (.a (.v (.nilIface)))=True:=eq_true ⟨.nilIface,by kernel_rfl,fun _=>by first|rfl|simp [Sc.val,At.val,arr8,arr32,arr64]⟩
theorem Auy:sz Tryz.prog 228=1:=by kernel_rfl
theorem Auz:bz Tryz.prog 228=24:=by kernel_rfl
theorem Au0:ZOk Tryz.prog 228 (.c [.v (.slice none 0 0)])=True:=eq_true ⟨.slice none 0 0,by kernel_rfl,fun _=>by first|rfl|simp [Value.cells,Cont.vals,arr8,arr32,arr64]⟩
theorem Au1:Ak Tryz.prog 228 (.a (.v (.slice none 0 0)))=True:=eq_true ⟨.slice none 0 0,by kernel_rfl,fun _=>by first|rfl|simp [Sc.val,At.val,arr8,arr32,arr64]⟩
theorem Au2:sz Tryz.prog 231=1:=by kernel_rfl
theorem Au3:bz Tryz.prog 231=8:=by kernel_rfl
theorem Au4:ZOk Tryz.prog 231 (.c [.v (.int .u64 0)])=True:=eq_true ⟨.int .u64 0,by kernel_rfl,fun _=>by first|rfl|simp [Value.cells,Cont.vals,arr8,arr32,arr64]⟩
theorem Au5:Ak Tryz.prog 231 (.a (.v (.int .u64 0)))=True:=eq_true ⟨.int .u64 0,by kernel_rfl,fun _=>by first|rfl|simp [Sc.val,At.val,arr8,arr32,arr64]⟩
theorem Au6:sz Tryz.prog 235=1:=by kernel_rfl
theorem Au7:bz Tryz.prog 235=8:=by kernel_rfl
theorem Au8:ZOk Tryz.prog 235 (.c [.v (.pointer none)])=True:=eq_true ⟨.pointer none,by kernel_rfl,fun _=>by first|rfl|simp [Value.cells,Cont.vals,arr8,arr32,arr64]⟩
theorem Au9:Ak Tryz.prog 235 (.a (.v (.pointer none)))=True:=eq_true ⟨.pointer none,by kernel_rfl,fun _=>by first|rfl|simp [Sc.val,At.val,arr8,arr32,arr64]⟩
theorem Ava:sz Tryz.prog 244=1:=by kernel_rfl
theorem Avb:bz Tryz.prog 244=8:=by kernel_rfl
theorem Avc:ZOk Tryz.prog 244 (.c [.v (.pointer none)])=True:=eq_true ⟨.pointer none,by kernel_rfl,fun _=>by first|rfl|simp [Value.cells,Cont.vals,arr8,arr32,arr64]⟩
theorem Avd:Ak Tryz.prog 244 (.a (.v (.pointer none)))=True:=eq_true ⟨.pointer none,by kernel_rfl,fun _=>by first|rfl|simp [Sc.val,At.val,arr8,arr32,arr64]⟩
theorem Ave:sz Tryz.prog 260=1:=by kernel_rfl
theorem Avf:bz Tryz.prog 260=8:=by kernel_rfl
theorem Avg:ZOk Tryz.prog 260 (.c [.v (.pointer none)])=True:=eq_true ⟨.pointer none,by kernel_rfl,fun _=>by first|rfl|simp [Value.cells,Cont.vals,arr8,arr32,arr64]⟩
theorem Avh:Ak Tryz.prog 260 (.a (.v (.pointer none)))=True:=eq_true ⟨.pointer none,by kernel_rfl,fun _=>by first|rfl|simp [Sc.val,At.val,arr8,arr32,arr64]⟩
theorem Avi:sz Tryz.prog 269=1:=by kernel_rfl
theorem Avj:bz Tryz.prog 269=8:=by kernel_rfl
theorem Avk:ZOk Tryz.prog 269 (.c [.v (.pointer none)])=True:=eq_true ⟨.pointer none,by kernel_rfl,fun _=>by first|rfl|simp [Value.cells,Cont.vals,arr8,arr32,arr64]⟩
theorem Avl:Ak Tryz.prog 269 (.a (.v (.pointer none)))=True:=eq_true ⟨.pointer none,by kernel_rfl,fun _=>by first|rfl|simp [Sc.val,At.val,arr8,arr32,arr64]⟩
theorem Avm:sz Tryz.prog 271=1:=by kernel_rfl
theorem Avn:bz Tryz.prog 271=2:=by kernel_rfl
theorem Avo:ZOk Tryz.prog 271 (.c [.v (.int .u16 0)])=True:=eq_true ⟨.int .u16 0,by kernel_rfl,fun _=>by first|rfl|simp [Value.cells,Cont.vals,arr8,arr32,arr64]⟩
theorem Avp:Ak Tryz.prog 271 (.a (.v (.int .u16 0)))=True:=eq_true ⟨.int .u16 0,by kernel_rfl,fun _=>by first|rfl|simp [Sc.val,At.val,arr8,arr32,arr64]⟩
theorem Avq:sz Tryz.prog 278=1:=by kernel_rfl
theorem Avr:bz Tryz.prog 278=8:=by kernel_rfl
theorem Avs:ZOk Tryz.prog 278 (.c [.v (.pointer none)])=True:=eq_true ⟨.pointer none,by kernel_rfl,fun _=>by first|rfl|simp [Value.cells,Cont.vals,arr8,arr32,arr64]⟩
theorem Avt:Ak Tryz.prog 278 (.a (.v (.pointer none)))=True:=eq_true ⟨.pointer none,by kernel_rfl,fun _=>by first|rfl|simp [Sc.val,At.val,arr8,arr32,arr64]⟩
theorem Avu:Ad Tryz.prog 16:=Aq Tryz.func16 (by kernel_rfl) rfl
theorem Avv:Ad Tryz.prog 18:=Aq Tryz.func18 (by kernel_rfl) rfl
theorem Avw:Ad Tryz.prog 19:=Aq Tryz.func19 (by kernel_rfl) rfl
theorem Tf:Ad Tryz.prog 20:=Aq Tryz.func20 (by kernel_rfl) rfl
theorem Tg:Ad Tryz.prog 21:=Aq Tryz.func21 (by kernel_rfl) rfl
theorem Avx:Ad Tryz.prog 22:=Aq Tryz.func22 (by kernel_rfl) rfl
theorem Avy:Ad Tryz.prog 23:=Aq Tryz.func23 (by kernel_rfl) rfl
theorem Md:Ad Tryz.prog 24:=Aq Tryz.func24 (by kernel_rfl) rfl
theorem Avz:Ad Tryz.prog 25:=Aq Tryz.func25 (by kernel_rfl) rfl
theorem Me:Ad Tryz.prog 26:=Aq Tryz.func26 (by kernel_rfl) rfl
theorem Th:Ad Tryz.prog 27:=Aq Tryz.func27 (by kernel_rfl) rfl
theorem Xt:Ad Tryz.prog 28:=Aq Tryz.func28 (by kernel_rfl) rfl
theorem Xu:Ad Tryz.prog 29:=Aq Tryz.func29 (by kernel_rfl) rfl
theorem Av0:Ad Tryz.prog 30:=Aq Tryz.func30 (by kernel_rfl) rfl
theorem Ti:Ad Tryz.prog 31:=Aq Tryz.func31 (by kernel_rfl) rfl
theorem Xv:Ad Tryz.prog 32:=Aq Tryz.func32 (by kernel_rfl) rfl
theorem Av1:Ad Tryz.prog 33:=Aq Tryz.func33 (by kernel_rfl) rfl
theorem Tj:Ad Tryz.prog 49:=Aq Tryz.func49 (by kernel_rfl) rfl
theorem Av2:Ad Tryz.prog 50:=Aq Tryz.func50 (by kernel_rfl) rfl
theorem Av3:Ad Tryz.prog 51:=Aq Tryz.func51 (by kernel_rfl) rfl
theorem Xw:Ad Tryz.prog 52:=Aq Tryz.func52 (by kernel_rfl) rfl
theorem Av4:Ad Tryz.prog 55:=Aq Tryz.func55 (by kernel_rfl) rfl
theorem Av5:Ad Tryz.prog 59:=Aq Tryz.func59 (by kernel_rfl) rfl
theorem Av6:Ad Tryz.prog 62:=Aq Tryz.func62 (by kernel_rfl) rfl
theorem Av7:Ad Tryz.prog 65:=Aq Tryz.func65 (by kernel_rfl) rfl
theorem Av8:Ad Tryz.prog 66:=Aq Tryz.func66 (by kernel_rfl) rfl
theorem Av9:Ad Tryz.prog 67:=Aq Tryz.func67 (by kernel_rfl) rfl
theorem Awa:Ad Tryz.prog 68:=Aq Tryz.func68 (by kernel_rfl) rfl
theorem Awb:Ad Tryz.prog 69:=Aq Tryz.func69 (by kernel_rfl) rfl
theorem Tk:Ad Tryz.prog 70:=Aq Tryz.func70 (by kernel_rfl) rfl
theorem Awc:Ad Tryz.prog 71:=Aq Tryz.func71 (by kernel_rfl) rfl
theorem Xx:Ad Tryz.prog 72:=Aq Tryz.func72 (by kernel_rfl) rfl
theorem Awd:Ad Tryz.prog 73:=Aq Tryz.func73 (by kernel_rfl) rfl
theorem Awe:Ad Tryz.prog 74:=Aq Tryz.func74 (by kernel_rfl) rfl
theorem Xy:Ad Tryz.prog 75:=Aq Tryz.func75 (by kernel_rfl) rfl
theorem Tm:Ad Tryz.prog 76:=Aq Tryz.func76 (by kernel_rfl) rfl
theorem Kw:Ad Tryz.prog 77:=Aq Tryz.func77 (by kernel_rfl) rfl
theorem Awf:Ad Tryz.prog 78:=Aq Tryz.func78 (by kernel_rfl) rfl
theorem Awg:Ad Tryz.prog 81:=Aq Tryz.func81 (by kernel_rfl) rfl
theorem Awh:Ad Tryz.prog 84:=Aq Tryz.func84 (by kernel_rfl) rfl
theorem Xz:Ad Tryz.prog 87:=Aq Tryz.func87 (by kernel_rfl) rfl
theorem Awi:Ad Tryz.prog 88:=Aq Tryz.func88 (by kernel_rfl) rfl
theorem Awj:Ad Tryz.prog 89:=Aq Tryz.func89 (by kernel_rfl) rfl
theorem Gw:Ad Tryz.prog 104:=Aq Tryz.func104 (by kernel_rfl) rfl
theorem Awk:Ad Tryz.prog 105:=Aq Tryz.func105 (by kernel_rfl) rfl
theorem Awl:Ad Tryz.prog 106:=Aq Tryz.func106 (by kernel_rfl) rfl
theorem Awm:Ad Tryz.prog 107:=Aq Tryz.func107 (by kernel_rfl) rfl
theorem X0:Ad Tryz.prog 108:=Aq Tryz.func108 (by kernel_rfl) rfl
theorem X1:Ad Tryz.prog 109:=Aq Tryz.func109 (by kernel_rfl) rfl
theorem Awn:Ad Tryz.prog 110:=Aq Tryz.func110 (by kernel_rfl) rfl
theorem Awo:Ad Tryz.prog 111:=Aq Tryz.func111 (by kernel_rfl) rfl
theorem Awp:Ad Tryz.prog 112:=Aq Tryz.func112 (by kernel_rfl) rfl
theorem Awq:Ad Tryz.prog 113:=Aq Tryz.func113 (by kernel_rfl) rfl
theorem Awr:Ad Tryz.prog 114:=Aq Tryz.func114 (by kernel_rfl) rfl
theorem X2:Ad Tryz.prog 120:=Aq Tryz.func120 (by kernel_rfl) rfl
theorem Aws:Ad Tryz.prog 121:=Aq Tryz.func121 (by kernel_rfl) rfl
theorem X3:Ad Tryz.prog 122:=Aq Tryz.func122 (by kernel_rfl) rfl
theorem Tn:Ad Tryz.prog 123:=Aq Tryz.func123 (by kernel_rfl) rfl
theorem X4:Ad Tryz.prog 124:=Aq Tryz.func124 (by kernel_rfl) rfl
theorem Awt:Ad Tryz.prog 130:=Aq Tryz.func130 (by kernel_rfl) rfl
theorem Awu:Ad Tryz.prog 134:=Aq Tryz.func134 (by kernel_rfl) rfl
theorem X5:Ad Tryz.prog 135:=Aq Tryz.func135 (by kernel_rfl) rfl
theorem Awv:Ad Tryz.prog 142:=Aq Tryz.func142 (by kernel_rfl) rfl
theorem Aww:Ad Tryz.prog 143:=Aq Tryz.func143 (by kernel_rfl) rfl
theorem Awx:Ad Tryz.prog 144:=Aq Tryz.func144 (by kernel_rfl) rfl
theorem Awy:Ad Tryz.prog 145:=Aq Tryz.func145 (by kernel_rfl) rfl
theorem Mf:Ad Tryz.prog 146:=Aq Tryz.func146 (by kernel_rfl) rfl
theorem Awz:Ad Tryz.prog 147:=Aq Tryz.func147 (by kernel_rfl) rfl
theorem Aw0:Ad Tryz.prog 148:=Aq Tryz.func148 (by kernel_rfl) rfl
theorem Aw1:Ad Tryz.prog 149:=Aq Tryz.func149 (by kernel_rfl) rfl
theorem Aw2:Ad Tryz.prog 177:=Aq Tryz.func177 (by kernel_rfl) rfl
attribute [push_cast] Ag7 Pf Ny I9 Cont.piece Adt Adu Af6 Af7 Ja eqB Oj Jc Oo Lz Cr C8 On Ly Adv Vi Sb bsA bsN Kn List.flatten_cons List.flatten_nil Jb Ko Ca Fo Lx Om Cv Ff Ki Kj Kl mkS N9 Km Oa mmS Nv Ls Agi Agj Agk Agl Agm Agn Ago Agp Agq Agu Agv Agw Ags Agt List.forall_mem_append Ol Ib Kc Ia F5 Gu Pa Ks Adz Adx Ad0 Ad1 Ady Ad4 Adw Ad2 Ad3 Ad5 Ad6 Ad7 Ad8 Ad9 Aea Aec Aeb Af5 Af4 Agx Agy Agz Ag0 Ag1 El Fh Hi Gq dOk Et op1 S.put Fr.put Fr.ev Fr.get ev1 ev2 ev3 S.bnd Sv.bnd Sc.bnd At.bnd Res.bnd Cont.bnd B1 H9 Ck Du Lr N6 Nw Nr Ns Nt Nu shS ban unS Lv eqS N5 N7 Nx Ob Lt Nz N2 N3 N4 Gn Oc Od Oe Og Oh N8 bsS parts I8 Gl Hf Hg Kd Oi Dk Dk.zero1 Dk.zeroN Lw Kk F6 Dr Bq C7 Fm Fe I7 At.scalar scalar At.one Value.oneCell' Sc.cont Cont.cut Cont.part Cont.app Cont.len Cont.plain Cont.get Cont.set Cont.over Cont.whole Ta Tb Tc Xk Xl Xm Agc Agd Age Agf Agg Agh Af8 Af9 Le O9 Hj Sv.ren Sc.ren At.ren Res.ren Cont.ren rn Fin Gt Pc evs Da Gb Fc maxLen Int.toNat_natCast Int.toNat_zero Nat.zero_add Nat.add_zero Nat.mul_one List.length_cons List.length_nil List.length_append List.length_map List.length_set List.length_replicate List.cons_append List.nil_append List.append_nil List.map_append List.getElem?_cons_zero List.getElem?_cons_succ List.getElem?_nil List.set_cons_zero List.set_cons_succ List.getD_cons_zero List.getD_cons_succ List.take_succ_cons List.take_zero List.drop_zero List.drop_succ_cons List.map_cons List.map_nil List.forall_mem_cons List.not_mem_nil List.reverse_cons List.toList_toArray Option.isSome_some Option.isNone_some Option.isNone_none false_implies implies_true true_implies forall_const true_and and_true and_self not_false_eq_true not_true_eq_false ne_eq or_false false_or or_true true_or or_self Nat.lt_irrefl Nat.le_refl Bool.false_eq_true Bool.true_eq_false Bool.not_true Bool.not_false Bool.or_true Bool.or_false Bool.and_true Bool.and_false Bool.true_and Bool.false_and decide_true decide_false eq_self gt_iff_lt ge_iff_le if_true if_false Option.some.injEq Prod.mk.injEq Sv.x.injEq Sc.a.injEq At.v.injEq At.o.injEq At.p.injEq Res.blk.injEq Res.own.injEq Value.int.injEq Value.bool.injEq Cont.u8.injEq Cont.u32.injEq Cont.u64.injEq Cont.c.injEq Cont.i64.injEq List.cons.injEq Ag4 Ag3 Ju Pe Xr Ag2 List.set_nil
attribute [push_cast] Tryz.underlying2 sz2 bz2 Ag8 zv2 Tryz.underlying3 sz3 bz3 Ag9 zv3 Tryz.underlying4 sz4 bz4 Aha zv4 Tryz.underlying5 sz5 bz5 Ahb zv5 Tryz.underlying9 sz9 bz9 Ahc zv9 Tryz.underlying12 Ahd Ahe Ahf Ahg Tryz.underlying13 Ahh Ahi Ahj Ahk Ahl Ahm Tryz.underlying15 Ahn Aho Ahp Ahq Tryz.underlying16 Ahr Ahs Aht Ahu Tryz.underlying17 Ahv Ahw Ahx Ahy Tryz.underlying20 Ahz Ah0 Ah1 Ah2 Tryz.underlying21 Ah3 Ah4 Ah5 Ah6 Tryz.underlying22 Ah7 Ah8 Ah9 Aia Tryz.underlying23 Aib Aic Aid Aie Tryz.underlying24 Aif Aig Aih Aii Aij Aik Ail Aim Ain Tryz.underlying25 Aio Aip Aiq Air Ais Ait Aiu Aiv Aiw Tryz.underlying26 Aix Aiy Aiz Tryz.underlying27 Ai0 Ai1 Ai2 Ai3 Tryz.underlying30 Ai4 Ai5 Ai6 Ai7 Tryz.underlying31 Ai8 Ai9 Aja Ajb Tryz.underlying32 Ajc Ajd Aje Ajf Tryz.underlying35 Ajg Ajh Aji Ajj Tryz.underlying36 Ajk Ajl Ajm Ajn Tryz.underlying37 Ajo Ajp Ajq Ajr Ajs Ajt Aju Ajv Ajw Tryz.underlying38 Ajx Ajy Ajz Aj0 Aj1 Aj2 Aj3 Aj4 Aj5 Tryz.underlying40 Aj6 Aj7 Aj8 Aj9 Tryz.underlying41 Aka Akb Akc Akd Tryz.underlying42 Ake Akf Akg Akh Aki Tryz.underlying43 Akj Akk Akl Akm Tryz.underlying44 Akn Ako Akp Akq Tryz.underlying45 Akr Aks Akt Aku Tryz.underlying46 Akv Akw Akx Aky Tryz.underlying47 Akz Ak0 Ak1 Ak2 Ak3 Ak4 Ak5 Ak6 Ak7 Ak8 Ak9 Ala Alb Alc Tryz.underlying48 Ald Ale Alf Alg Alh Ali Alj Alk Alm Aln Alo Alp Alq Alr Tryz.underlying50 Als Alt Alu Alv Tryz.underlying51 Alw Alx Aly Alz Al0 Al1 Al2 Al3 Al4 Al5 Al6 Al7 Al8 Al9 Tryz.underlying52 Ama Amb Amc Amd Ame Amf Amg Amh Ami Amj Amk Aml Amm Amn Tryz.underlying55 Amo Amp Amq Amr Tryz.underlying59 Ams Amt Amu Amv Amw Tryz.underlying60 Amx Amy Amz Am0 Am1 Tryz.underlying66 Am2 Am3 Am4 Am5 Tryz.underlying78 Am6 Am7 Am8 Am9 Tryz.underlying79 Ana Anb Anc Ane Tryz.underlying82 Anf Ang Anh Ani Tryz.underlying83 Anj Ank Anl Anm Tryz.underlying86 Ann Ano Anp Anq Anr Ans Ant Tryz.underlying87 Anu Anv Anw Anx Any Anz An0 Tryz.underlying91 An1 An2 An3 An4 Tryz.underlying96 An5 An6 An7 An8 An9 Aoa Aob Tryz.underlying97 Aoc Aod Aoe Aof Aog Aoh Aoi Tryz.underlying98 Aoj Aok Aol Aom Aon Aoo Aop Aoq Tryz.underlying100 Aor Aos Aot Aou Tryz.underlying101 Aov Aow Aox Aoy Tryz.underlying102 Aoz Ao0 Ao1 Ao2 Tryz.underlying103 Ao3 Ao4 Ao5 Ao6 Ao7 Ao8 Ao9 Apa Apb Apc Apd Ape Apf Apg Aph Api Apj Apk Tryz.underlying104 Apl Apm Apn Apo App Apq Apr Aps Apt Apu Apv Apw Apx Apy Ap0 Ap1 Ap2 Ap3 Tryz.underlying106 Ap4 Ap5 Ap6 Ap7 Ap8 Ap9 Aqa Aqb Tryz.underlying111 Aqc Aqd Aqe Aqf Tryz.underlying114 Aqg Aqh Aqi Aqj Aqk Aql Tryz.underlying115 Aqm Aqn Aqo Aqp Aqq Aqr Aqs Tryz.underlying116 Aqt Aqu Aqv Aqw Tryz.underlying117 Aqx Aqy Aqz Aq0 Tryz.underlying118 Aq1 Aq2 Aq3 Aq4 Tryz.underlying119 Aq5 Aq6 Aq7 Aq8 Aq9 Ara Arb Arc Ard Tryz.underlying120 Arf Arg Arh Ari Arj Ark Arl Arm Arn Tryz.underlying121 Aro Arp Arq Arr Ars Art Aru Tryz.underlying122 Arv Arw Arx Ary Arz Ar0 Ar1 Tryz.underlying129 Ar2 Ar3 Ar4 Ar5 Tryz.underlying130 Ar6 Ar7 Ar8 Ar9 Tryz.underlying131 Asa Asb Asc Asd Ase Tryz.underlying147 Asf Asg Ash Asi Tryz.underlying148 Asj Asl Asm Asn Aso Asp Asq Asr Ass Ast Asu Asv Asw Tryz.underlying149 Asx Asy Asz As0 As1 As2 As3 As4 As5 As6 As7 As8 As9 Tryz.underlying155 Ata Atb Atc Atd Tryz.underlying163 Ate Atf Atg Ath Ati Atj Atk Tryz.underlying169 Atl Atm Atn Ato Atp Atq Atr Ats Att Atu Tryz.underlying170 Atv Atw Atx Aty Atz At0 At1 At2 At3 At4 Tryz.underlying175 At5 At6 At7 At8 Tryz.underlying200 At9 Aua Aub Auc Tryz.underlying217 Aud Aue Auf Aug Auh Tryz.underlying218 Aui Auj Auk Aul Tryz.underlying222 Aum Aun Auo Aup Tryz.underlying225 Auq Aur Aus Aut Tryz.underlying227 Auu Auv Auw Aux Tryz.underlying228 Auy Auz Au0 Au1 Tryz.underlying231 Au2 Au3 Au4 Au5 Tryz.underlying235 Au6 Au7 Au8 Au9 Tryz.underlying244 Ava Avb Avc Avd Tryz.underlying260 Ave Avf Avg Avh Tryz.underlying269 Avi Avj Avk Avl Tryz.underlying271 Avm Avn Avo Avp Tryz.underlying278 Avq Avr Avs Avt
attribute [push_cast] Tryz.results3 Tryz.results4 Tryz.results5 Tryz.results6 Tryz.results7 Tryz.results8 Tryz.results9 Tryz.results10 Tryz.results11 Tryz.results12 Tryz.results13 Tryz.results14 Tryz.results15 Tryz.results16 Tryz.results17 Tryz.results18 Tryz.results19 Tryz.results20 Tryz.results21 Tryz.results22 Tryz.results23 Tryz.results24 Tryz.results25 Tryz.results26 Tryz.results27 Tryz.results28 Tryz.results29 Tryz.results30 Tryz.results31 Tryz.results32 Tryz.results33 Tryz.results34 Tryz.results35 Tryz.results36 Tryz.results37 Tryz.results38 Tryz.results39 Tryz.results40 Tryz.results41 Tryz.results42 Tryz.results43 Tryz.results44 Tryz.results45 Tryz.results46 Tryz.results47 Tryz.results48 Tryz.results49 Tryz.results50 Tryz.results51 Tryz.results52 Tryz.results53 Tryz.results54 Tryz.results55 Tryz.results56 Tryz.results57 Tryz.results58 Tryz.results59 Tryz.results60 Tryz.results61 Tryz.results62 Tryz.results63 Tryz.results64 Tryz.results65 Tryz.results66 Tryz.results67 Tryz.results68 Tryz.results69 Tryz.results70 Tryz.results71 Tryz.results72 Tryz.results73 Tryz.results74 Tryz.results75 Tryz.results76 Tryz.results77 Tryz.results78 Tryz.results79 Tryz.results81 Tryz.results82 Tryz.results84 Tryz.results85 Tryz.results87 Tryz.results88 Tryz.results89 Tryz.results90 Tryz.results91 Tryz.results92 Tryz.results93 Tryz.results94 Tryz.results95 Tryz.results96 Tryz.results97 Tryz.results98 Tryz.results99 Tryz.results100 Tryz.results101 Tryz.results102 Tryz.results104 Tryz.results105 Tryz.results106 Tryz.results107 Tryz.results108 Tryz.results109 Tryz.results110 Tryz.results111 Tryz.results112 Tryz.results113 Tryz.results114 Tryz.results115 Tryz.results116 Tryz.results117 Tryz.results118 Tryz.results119 Tryz.results120 Tryz.results121 Tryz.results122 Tryz.results123 Tryz.results124 Tryz.results125 Tryz.results126 Tryz.results128 Tryz.results130 Tryz.results131 Tryz.results132 Tryz.results134 Tryz.results135 Tryz.results136 Tryz.results137 Tryz.results142 Tryz.results143 Tryz.results144 Tryz.results145 Tryz.results146 Tryz.results147 Tryz.results148 Tryz.results149 Tryz.results150 Tryz.results151 Tryz.results152 Tryz.results153 Tryz.results154 Tryz.results155 Tryz.results156 Tryz.results157 Tryz.results158 Tryz.results159 Tryz.results160 Tryz.results161 Tryz.results162 Tryz.results163 Tryz.results164 Tryz.results165 Tryz.results166 Tryz.results167 Tryz.results168 Tryz.results169 Tryz.results170 Tryz.results171 Tryz.results172 Tryz.results173 Tryz.results177 Tryz.results178 Tryz.results179 Tryz.results181 Tryz.results182 Tryz.results183 Tryz.results184 Tryz.results185 Tryz.results186 Tryz.results187 Tryz.results188 Tryz.results189 Tryz.results190 Tryz.results191 Tryz.results193 Tryz.results194 Tryz.results195 Tryz.results196 Tryz.results197 Tryz.results198 Tryz.results199 Tryz.results200
end Go.Proofs.YtedaafmfjhjfmaaGreatDoor
