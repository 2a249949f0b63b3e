import Derived.Test.YtedaafmfjhjfmaaGreatDoorEn3
import Derived.Test.YtedaafmfjhjfmaaGreatDoorProg
/- Facts on the types of the program, for the engine. Made by program. -/
namespace Go.Proofs.YtedaafmfjhjfmaaGreatDoor
open Go.RowKit
set_option linter.unusedSimpArgs false
theorem sz2:sz Tryz.prog 2=1:=by kernel_rfl
theorem bz2:bz Tryz.prog 2=8:=by kernel_rfl
theorem Aii:ZOk Tryz.prog 2 (.c [.v (.int .i64 0)])=True:=eq_true ⟨.int .i64 0,by kernel_rfl,fun _=>by first|rfl|simp [Value.cells,Cont.vals,arr8,arr32,arr64]⟩
theorem zv2:Ao Tryz.prog 2 (.a (.v (.int .i64 0)))=True:=eq_true ⟨.int .i64 0,by kernel_rfl,fun _=>by first|rfl|simp [Sc.val,At.val,arr8,arr32,arr64]⟩
theorem sz3:sz Tryz.prog 3=1:=by kernel_rfl
theorem bz3:bz Tryz.prog 3=8:=by kernel_rfl
theorem Aij:ZOk Tryz.prog 3 (.c [.v (.int .i64 0)])=True:=eq_true ⟨.int .i64 0,by kernel_rfl,fun _=>by first|rfl|simp [Value.cells,Cont.vals,arr8,arr32,arr64]⟩
theorem zv3:Ao Tryz.prog 3 (.a (.v (.int .i64 0)))=True:=eq_true ⟨.int .i64 0,by kernel_rfl,fun _=>by first|rfl|simp [Sc.val,At.val,arr8,arr32,arr64]⟩
theorem sz4:sz Tryz.prog 4=1:=by kernel_rfl
theorem bz4:bz Tryz.prog 4=1:=by kernel_rfl
theorem Aik:ZOk Tryz.prog 4 (.c [.v (.bool false)])=True:=eq_true ⟨.bool false,by kernel_rfl,fun _=>by first|rfl|simp [Value.cells,Cont.vals,arr8,arr32,arr64]⟩
theorem zv4:Ao Tryz.prog 4 (.a (.v (.bool false)))=True:=eq_true ⟨.bool false,by kernel_rfl,fun _=>by first|rfl|simp [Sc.val,At.val,arr8,arr32,arr64]⟩
theorem sz5:sz Tryz.prog 5=1:=by kernel_rfl
theorem bz5:bz Tryz.prog 5=1:=by kernel_rfl
theorem Ail:ZOk Tryz.prog 5 (.c [.v (.int .u8 0)])=True:=eq_true ⟨.int .u8 0,by kernel_rfl,fun _=>by first|rfl|simp [Value.cells,Cont.vals,arr8,arr32,arr64]⟩
theorem zv5:Ao Tryz.prog 5 (.a (.v (.int .u8 0)))=True:=eq_true ⟨.int .u8 0,by kernel_rfl,fun _=>by first|rfl|simp [Sc.val,At.val,arr8,arr32,arr64]⟩
theorem sz9:sz Tryz.prog 9=1:=by kernel_rfl
theorem bz9:bz Tryz.prog 9=16:=by kernel_rfl
theorem Aim:ZOk Tryz.prog 9 (.c [.v (.string .empty)])=True:=eq_true ⟨.string .empty,by kernel_rfl,fun _=>by first|rfl|simp [Value.cells,Cont.vals,arr8,arr32,arr64]⟩
theorem zv9:Ao Tryz.prog 9 (.a (.v (.string .empty)))=True:=eq_true ⟨.string .empty,by kernel_rfl,fun _=>by first|rfl|simp [Sc.val,At.val,arr8,arr32,arr64]⟩
theorem Ain:sz Tryz.prog 12=1:=by kernel_rfl
theorem Aio:bz Tryz.prog 12=8:=by kernel_rfl
theorem Aip:ZOk Tryz.prog 12 (.c [.v (.int .u64 0)])=True:=eq_true ⟨.int .u64 0,by kernel_rfl,fun _=>by first|rfl|simp [Value.cells,Cont.vals,arr8,arr32,arr64]⟩
theorem Aiq:Ao Tryz.prog 12 (.a (.v (.int .u64 0)))=True:=eq_true ⟨.int .u64 0,by kernel_rfl,fun _=>by first|rfl|simp [Sc.val,At.val,arr8,arr32,arr64]⟩
theorem Air:sz Tryz.prog 13=2:=by kernel_rfl
theorem Ais:bz Tryz.prog 13=24:=by kernel_rfl
theorem Ait:Ac Tryz.prog 13 0=some (0,9):=by kernel_rfl
theorem Aiu:Ac Tryz.prog 13 1=some (1,12):=by kernel_rfl
theorem Aiv:ZOk Tryz.prog 13 (.c [.v (.string .empty),.v (.int .u64 0)])=True:=eq_true ⟨.agg #[.string .empty,.int .u64 0],by kernel_rfl,fun _=>by first|rfl|simp [Value.cells,Cont.vals,arr8,arr32,arr64]⟩
theorem Aiw:Ao Tryz.prog 13 (.g [.v (.string .empty),.v (.int .u64 0)])=True:=eq_true ⟨.agg #[.string .empty,.int .u64 0],by kernel_rfl,fun _=>by first|rfl|simp [Sc.val,At.val,arr8,arr32,arr64]⟩
theorem Aix:sz Tryz.prog 15=1:=by kernel_rfl
theorem Aiy:bz Tryz.prog 15=8:=by kernel_rfl
theorem Aiz:ZOk Tryz.prog 15 (.c [.v (.pointer none)])=True:=eq_true ⟨.pointer none,by kernel_rfl,fun _=>by first|rfl|simp [Value.cells,Cont.vals,arr8,arr32,arr64]⟩
theorem Ai0:Ao Tryz.prog 15 (.a (.v (.pointer none)))=True:=eq_true ⟨.pointer none,by kernel_rfl,fun _=>by first|rfl|simp [Sc.val,At.val,arr8,arr32,arr64]⟩
theorem Ai1:sz Tryz.prog 16=1:=by kernel_rfl
theorem Ai2:bz Tryz.prog 16=8:=by kernel_rfl
theorem Ai3:ZOk Tryz.prog 16 (.c [.v (.pointer none)])=True:=eq_true ⟨.pointer none,by kernel_rfl,fun _=>by first|rfl|simp [Value.cells,Cont.vals,arr8,arr32,arr64]⟩
theorem Ai4:Ao Tryz.prog 16 (.a (.v (.pointer none)))=True:=eq_true ⟨.pointer none,by kernel_rfl,fun _=>by first|rfl|simp [Sc.val,At.val,arr8,arr32,arr64]⟩
theorem Ai5:sz Tryz.prog 17=1:=by kernel_rfl
theorem Ai6:bz Tryz.prog 17=8:=by kernel_rfl
theorem Ai7:ZOk Tryz.prog 17 (.c [.v (.pointer none)])=True:=eq_true ⟨.pointer none,by kernel_rfl,fun _=>by first|rfl|simp [Value.cells,Cont.vals,arr8,arr32,arr64]⟩
theorem Ai8:Ao Tryz.prog 17 (.a (.v (.pointer none)))=True:=eq_true ⟨.pointer none,by kernel_rfl,fun _=>by first|rfl|simp [Sc.val,At.val,arr8,arr32,arr64]⟩
theorem Ai9:sz Tryz.prog 20=1:=by kernel_rfl
theorem Aja:bz Tryz.prog 20=16:=by kernel_rfl
theorem Ajb:ZOk Tryz.prog 20 (.c [.v .nilIface])=True:=eq_true ⟨.nilIface,by kernel_rfl,fun _=>by first|rfl|simp [Value.cells,Cont.vals,arr8,arr32,arr64]⟩
theorem Ajc:Ao Tryz.prog 20 (.a (.v (.nilIface)))=True:=eq_true ⟨.nilIface,by kernel_rfl,fun _=>by first|rfl|simp [Sc.val,At.val,arr8,arr32,arr64]⟩
theorem Ajd:sz Tryz.prog 21=1:=by kernel_rfl
theorem Aje:bz Tryz.prog 21=4:=by kernel_rfl
theorem Ajf:ZOk Tryz.prog 21 (.c [.v (.int .i32 0)])=True:=eq_true ⟨.int .i32 0,by kernel_rfl,fun _=>by first|rfl|simp [Value.cells,Cont.vals,arr8,arr32,arr64]⟩
theorem Ajg:Ao Tryz.prog 21 (.a (.v (.int .i32 0)))=True:=eq_true ⟨.int .i32 0,by kernel_rfl,fun _=>by first|rfl|simp [Sc.val,At.val,arr8,arr32,arr64]⟩
theorem Ajh:sz Tryz.prog 22=1:=by kernel_rfl
theorem Aji:bz Tryz.prog 22=24:=by kernel_rfl
theorem Ajj:ZOk Tryz.prog 22 (.c [.v (.slice none 0 0)])=True:=eq_true ⟨.slice none 0 0,by kernel_rfl,fun _=>by first|rfl|simp [Value.cells,Cont.vals,arr8,arr32,arr64]⟩
theorem Ajk:Ao Tryz.prog 22 (.a (.v (.slice none 0 0)))=True:=eq_true ⟨.slice none 0 0,by kernel_rfl,fun _=>by first|rfl|simp [Sc.val,At.val,arr8,arr32,arr64]⟩
theorem Ajl:sz Tryz.prog 23=1:=by kernel_rfl
theorem Ajm:bz Tryz.prog 23=24:=by kernel_rfl
theorem Ajn:ZOk Tryz.prog 23 (.c [.v (.slice none 0 0)])=True:=eq_true ⟨.slice none 0 0,by kernel_rfl,fun _=>by first|rfl|simp [Value.cells,Cont.vals,arr8,arr32,arr64]⟩
theorem Ajo:Ao Tryz.prog 23 (.a (.v (.slice none 0 0)))=True:=eq_true ⟨.slice none 0 0,by kernel_rfl,fun _=>by first|rfl|simp [Sc.val,At.val,arr8,arr32,arr64]⟩
theorem Ajp:sz Tryz.prog 24=5:=by kernel_rfl
theorem Ajq:bz Tryz.prog 24=72:=by kernel_rfl
theorem Ajr:Ac Tryz.prog 24 0=some (0,3):=by kernel_rfl
theorem Ajs:Ac Tryz.prog 24 1=some (1,22):=by kernel_rfl
theorem Ajt:Ac Tryz.prog 24 2=some (2,23):=by kernel_rfl
theorem Aju:Ac Tryz.prog 24 3=some (3,3):=by kernel_rfl
theorem Ajv:Ac Tryz.prog 24 4=some (4,3):=by kernel_rfl
theorem Ajw:ZOk Tryz.prog 24 (.c [.v (.int .i64 0),.v (.slice none 0 0),.v (.slice none 0 0),.v (.int .i64 0),.v (.int .i64 0)])=True:=eq_true ⟨.agg #[.int .i64 0,.slice none 0 0,.slice none 0 0,.int .i64 0,.int .i64 0],by kernel_rfl,fun _=>by first|rfl|simp [Value.cells,Cont.vals,arr8,arr32,arr64]⟩
theorem Ajx:Ao Tryz.prog 24 (.g [.v (.int .i64 0),.v (.slice none 0 0),.v (.slice none 0 0),.v (.int .i64 0),.v (.int .i64 0)])=True:=eq_true ⟨.agg #[.int .i64 0,.slice none 0 0,.slice none 0 0,.int .i64 0,.int .i64 0],by kernel_rfl,fun _=>by first|rfl|simp [Sc.val,At.val,arr8,arr32,arr64]⟩
theorem Ajy:sz Tryz.prog 25=5:=by kernel_rfl
theorem Ajz:bz Tryz.prog 25=72:=by kernel_rfl
theorem Aj0:Ac Tryz.prog 25 0=some (0,3):=by kernel_rfl
theorem Aj1:Ac Tryz.prog 25 1=some (1,22):=by kernel_rfl
theorem Aj2:Ac Tryz.prog 25 2=some (2,23):=by kernel_rfl
theorem Aj3:Ac Tryz.prog 25 3=some (3,3):=by kernel_rfl
theorem Aj4:Ac Tryz.prog 25 4=some (4,3):=by kernel_rfl
theorem Aj5:ZOk Tryz.prog 25 (.c [.v (.int .i64 0),.v (.slice none 0 0),.v (.slice none 0 0),.v (.int .i64 0),.v (.int .i64 0)])=True:=eq_true ⟨.agg #[.int .i64 0,.slice none 0 0,.slice none 0 0,.int .i64 0,.int .i64 0],by kernel_rfl,fun _=>by first|rfl|simp [Value.cells,Cont.vals,arr8,arr32,arr64]⟩
theorem Aj6:Ao Tryz.prog 25 (.g [.v (.int .i64 0),.v (.slice none 0 0),.v (.slice none 0 0),.v (.int .i64 0),.v (.int .i64 0)])=True:=eq_true ⟨.agg #[.int .i64 0,.slice none 0 0,.slice none 0 0,.int .i64 0,.int .i64 0],by kernel_rfl,fun _=>by first|rfl|simp [Sc.val,At.val,arr8,arr32,arr64]⟩
theorem Aj7:sz Tryz.prog 26=2:=by kernel_rfl
theorem Aj8:bz Tryz.prog 26=16:=by kernel_rfl
theorem Aj9:Lg Tryz.prog 26 2 .i64=True:=eq_true ⟨3,Tryz.underlying26,Tryz.underlying3,by kernel_rfl,by kernel_rfl,by kernel_rfl⟩
theorem Aka:sz Tryz.prog 27=1:=by kernel_rfl
theorem Akb:bz Tryz.prog 27=24:=by kernel_rfl
theorem Akc:ZOk Tryz.prog 27 (.c [.v (.slice none 0 0)])=True:=eq_true ⟨.slice none 0 0,by kernel_rfl,fun _=>by first|rfl|simp [Value.cells,Cont.vals,arr8,arr32,arr64]⟩
theorem Akd:Ao Tryz.prog 27 (.a (.v (.slice none 0 0)))=True:=eq_true ⟨.slice none 0 0,by kernel_rfl,fun _=>by first|rfl|simp [Sc.val,At.val,arr8,arr32,arr64]⟩
theorem Ake:sz Tryz.prog 30=1:=by kernel_rfl
theorem Akf:bz Tryz.prog 30=8:=by kernel_rfl
theorem Akg:ZOk Tryz.prog 30 (.c [.v (.pointer none)])=True:=eq_true ⟨.pointer none,by kernel_rfl,fun _=>by first|rfl|simp [Value.cells,Cont.vals,arr8,arr32,arr64]⟩
theorem Akh:Ao Tryz.prog 30 (.a (.v (.pointer none)))=True:=eq_true ⟨.pointer none,by kernel_rfl,fun _=>by first|rfl|simp [Sc.val,At.val,arr8,arr32,arr64]⟩
theorem Aki:sz Tryz.prog 31=1:=by kernel_rfl
theorem Akj:bz Tryz.prog 31=16:=by kernel_rfl
theorem Akk:ZOk Tryz.prog 31 (.c [.v .nilIface])=True:=eq_true ⟨.nilIface,by kernel_rfl,fun _=>by first|rfl|simp [Value.cells,Cont.vals,arr8,arr32,arr64]⟩
theorem Akl:Ao Tryz.prog 31 (.a (.v (.nilIface)))=True:=eq_true ⟨.nilIface,by kernel_rfl,fun _=>by first|rfl|simp [Sc.val,At.val,arr8,arr32,arr64]⟩
theorem Akm:sz Tryz.prog 32=1:=by kernel_rfl
theorem Akn:bz Tryz.prog 32=16:=by kernel_rfl
theorem Ako:ZOk Tryz.prog 32 (.c [.v .nilIface])=True:=eq_true ⟨.nilIface,by kernel_rfl,fun _=>by first|rfl|simp [Value.cells,Cont.vals,arr8,arr32,arr64]⟩
theorem Akp:Ao Tryz.prog 32 (.a (.v (.nilIface)))=True:=eq_true ⟨.nilIface,by kernel_rfl,fun _=>by first|rfl|simp [Sc.val,At.val,arr8,arr32,arr64]⟩
theorem Akq:sz Tryz.prog 35=1:=by kernel_rfl
theorem Akr:bz Tryz.prog 35=24:=by kernel_rfl
theorem Aks:ZOk Tryz.prog 35 (.c [.v (.slice none 0 0)])=True:=eq_true ⟨.slice none 0 0,by kernel_rfl,fun _=>by first|rfl|simp [Value.cells,Cont.vals,arr8,arr32,arr64]⟩
theorem Akt:Ao Tryz.prog 35 (.a (.v (.slice none 0 0)))=True:=eq_true ⟨.slice none 0 0,by kernel_rfl,fun _=>by first|rfl|simp [Sc.val,At.val,arr8,arr32,arr64]⟩
theorem Aku:sz Tryz.prog 36=1:=by kernel_rfl
theorem Akv:bz Tryz.prog 36=24:=by kernel_rfl
theorem Akw:ZOk Tryz.prog 36 (.c [.v (.slice none 0 0)])=True:=eq_true ⟨.slice none 0 0,by kernel_rfl,fun _=>by first|rfl|simp [Value.cells,Cont.vals,arr8,arr32,arr64]⟩
theorem Akx:Ao Tryz.prog 36 (.a (.v (.slice none 0 0)))=True:=eq_true ⟨.slice none 0 0,by kernel_rfl,fun _=>by first|rfl|simp [Sc.val,At.val,arr8,arr32,arr64]⟩
theorem Aky:sz Tryz.prog 37=5:=by kernel_rfl
theorem Akz:bz Tryz.prog 37=72:=by kernel_rfl
theorem Ak0:Ac Tryz.prog 37 0=some (0,3):=by kernel_rfl
theorem Ak1:Ac Tryz.prog 37 1=some (1,35):=by kernel_rfl
theorem Ak2:Ac Tryz.prog 37 2=some (2,36):=by kernel_rfl
theorem Ak3:Ac Tryz.prog 37 3=some (3,3):=by kernel_rfl
theorem Ak4:Ac Tryz.prog 37 4=some (4,3):=by kernel_rfl
theorem Ak5:ZOk Tryz.prog 37 (.c [.v (.int .i64 0),.v (.slice none 0 0),.v (.slice none 0 0),.v (.int .i64 0),.v (.int .i64 0)])=True:=eq_true ⟨.agg #[.int .i64 0,.slice none 0 0,.slice none 0 0,.int .i64 0,.int .i64 0],by kernel_rfl,fun _=>by first|rfl|simp [Value.cells,Cont.vals,arr8,arr32,arr64]⟩
theorem Ak6:Ao Tryz.prog 37 (.g [.v (.int .i64 0),.v (.slice none 0 0),.v (.slice none 0 0),.v (.int .i64 0),.v (.int .i64 0)])=True:=eq_true ⟨.agg #[.int .i64 0,.slice none 0 0,.slice none 0 0,.int .i64 0,.int .i64 0],by kernel_rfl,fun _=>by first|rfl|simp [Sc.val,At.val,arr8,arr32,arr64]⟩
theorem Ak7:sz Tryz.prog 38=5:=by kernel_rfl
theorem Ak8:bz Tryz.prog 38=72:=by kernel_rfl
theorem Ak9:Ac Tryz.prog 38 0=some (0,3):=by kernel_rfl
theorem Ala:Ac Tryz.prog 38 1=some (1,35):=by kernel_rfl
theorem Alb:Ac Tryz.prog 38 2=some (2,36):=by kernel_rfl
theorem Alc:Ac Tryz.prog 38 3=some (3,3):=by kernel_rfl
theorem Ald:Ac Tryz.prog 38 4=some (4,3):=by kernel_rfl
theorem Ale:ZOk Tryz.prog 38 (.c [.v (.int .i64 0),.v (.slice none 0 0),.v (.slice none 0 0),.v (.int .i64 0),.v (.int .i64 0)])=True:=eq_true ⟨.agg #[.int .i64 0,.slice none 0 0,.slice none 0 0,.int .i64 0,.int .i64 0],by kernel_rfl,fun _=>by first|rfl|simp [Value.cells,Cont.vals,arr8,arr32,arr64]⟩
theorem Alf:Ao Tryz.prog 38 (.g [.v (.int .i64 0),.v (.slice none 0 0),.v (.slice none 0 0),.v (.int .i64 0),.v (.int .i64 0)])=True:=eq_true ⟨.agg #[.int .i64 0,.slice none 0 0,.slice none 0 0,.int .i64 0,.int .i64 0],by kernel_rfl,fun _=>by first|rfl|simp [Sc.val,At.val,arr8,arr32,arr64]⟩
theorem Alg:sz Tryz.prog 40=1:=by kernel_rfl
theorem Alh:bz Tryz.prog 40=8:=by kernel_rfl
theorem Ali:ZOk Tryz.prog 40 (.c [.v (.map none)])=True:=eq_true ⟨.map none,by kernel_rfl,fun _=>by first|rfl|simp [Value.cells,Cont.vals,arr8,arr32,arr64]⟩
theorem Alj:Ao Tryz.prog 40 (.a (.v (.map none)))=True:=eq_true ⟨.map none,by kernel_rfl,fun _=>by first|rfl|simp [Sc.val,At.val,arr8,arr32,arr64]⟩
theorem Alk:sz Tryz.prog 41=1:=by kernel_rfl
theorem Alm:bz Tryz.prog 41=8:=by kernel_rfl
theorem Aln:ZOk Tryz.prog 41 (.c [.v (.int .u64 0)])=True:=eq_true ⟨.int .u64 0,by kernel_rfl,fun _=>by first|rfl|simp [Value.cells,Cont.vals,arr8,arr32,arr64]⟩
theorem Alo:Ao Tryz.prog 41 (.a (.v (.int .u64 0)))=True:=eq_true ⟨.int .u64 0,by kernel_rfl,fun _=>by first|rfl|simp [Sc.val,At.val,arr8,arr32,arr64]⟩
theorem Alp:sz Tryz.prog 42=32:=by kernel_rfl
theorem Alq:bz Tryz.prog 42=32:=by kernel_rfl
theorem Alr:Lg Tryz.prog 42 32 .u8=True:=eq_true ⟨5,Tryz.underlying42,Tryz.underlying5,by kernel_rfl,by kernel_rfl,by kernel_rfl⟩
theorem Als:ZOk Tryz.prog 42 (.u8 (List.replicate 32 0))=True:=eq_true ⟨.agg (arr8 (List.replicate 32 0)),by kernel_rfl,fun _=>by first|rfl|simp [Value.cells,Cont.vals,arr8,arr32,arr64]⟩
theorem Alt:Ao Tryz.prog 42 (.a8 (List.replicate 32 0))=True:=eq_true ⟨.agg (arr8 (List.replicate 32 0)),by kernel_rfl,fun _=>by first|rfl|simp [Sc.val,At.val,arr8,arr32,arr64]⟩
theorem Alu:sz Tryz.prog 43=1:=by kernel_rfl
theorem Alv:bz Tryz.prog 43=24:=by kernel_rfl
theorem Alw:ZOk Tryz.prog 43 (.c [.v (.slice none 0 0)])=True:=eq_true ⟨.slice none 0 0,by kernel_rfl,fun _=>by first|rfl|simp [Value.cells,Cont.vals,arr8,arr32,arr64]⟩
theorem Alx:Ao Tryz.prog 43 (.a (.v (.slice none 0 0)))=True:=eq_true ⟨.slice none 0 0,by kernel_rfl,fun _=>by first|rfl|simp [Sc.val,At.val,arr8,arr32,arr64]⟩
theorem Aly:sz Tryz.prog 44=1:=by kernel_rfl
theorem Alz:bz Tryz.prog 44=24:=by kernel_rfl
theorem Al0:ZOk Tryz.prog 44 (.c [.v (.slice none 0 0)])=True:=eq_true ⟨.slice none 0 0,by kernel_rfl,fun _=>by first|rfl|simp [Value.cells,Cont.vals,arr8,arr32,arr64]⟩
theorem Al1:Ao Tryz.prog 44 (.a (.v (.slice none 0 0)))=True:=eq_true ⟨.slice none 0 0,by kernel_rfl,fun _=>by first|rfl|simp [Sc.val,At.val,arr8,arr32,arr64]⟩
theorem Al2:sz Tryz.prog 45=1:=by kernel_rfl
theorem Al3:bz Tryz.prog 45=24:=by kernel_rfl
theorem Al4:ZOk Tryz.prog 45 (.c [.v (.slice none 0 0)])=True:=eq_true ⟨.slice none 0 0,by kernel_rfl,fun _=>by first|rfl|simp [Value.cells,Cont.vals,arr8,arr32,arr64]⟩
theorem Al5:Ao Tryz.prog 45 (.a (.v (.slice none 0 0)))=True:=eq_true ⟨.slice none 0 0,by kernel_rfl,fun _=>by first|rfl|simp [Sc.val,At.val,arr8,arr32,arr64]⟩
theorem Al6:sz Tryz.prog 46=1:=by kernel_rfl
theorem Al7:bz Tryz.prog 46=24:=by kernel_rfl
theorem Al8:ZOk Tryz.prog 46 (.c [.v (.slice none 0 0)])=True:=eq_true ⟨.slice none 0 0,by kernel_rfl,fun _=>by first|rfl|simp [Value.cells,Cont.vals,arr8,arr32,arr64]⟩
theorem Al9:Ao Tryz.prog 46 (.a (.v (.slice none 0 0)))=True:=eq_true ⟨.slice none 0 0,by kernel_rfl,fun _=>by first|rfl|simp [Sc.val,At.val,arr8,arr32,arr64]⟩
theorem Ama:sz Tryz.prog 47=43:=by kernel_rfl
theorem Amb:bz Tryz.prog 47=184:=by kernel_rfl
theorem Amc:Ac Tryz.prog 47 0=some (0,5):=by kernel_rfl
theorem Amd:Ac Tryz.prog 47 1=some (1,3):=by kernel_rfl
theorem Ame:Ac Tryz.prog 47 2=some (2,3):=by kernel_rfl
theorem Amf:Ac Tryz.prog 47 3=some (3,3):=by kernel_rfl
theorem Amg:Ac Tryz.prog 47 4=some (4,3):=by kernel_rfl
theorem Amh:Ac Tryz.prog 47 5=some (5,41):=by kernel_rfl
theorem Ami:Ac Tryz.prog 47 6=some (6,42):=by kernel_rfl
theorem Amj:Ac Tryz.prog 47 7=some (38,43):=by kernel_rfl
theorem Amk:Ac Tryz.prog 47 8=some (39,44):=by kernel_rfl
theorem Aml:Ac Tryz.prog 47 9=some (40,45):=by kernel_rfl
theorem Amm:Ac Tryz.prog 47 10=some (41,46):=by kernel_rfl
theorem Amn:Ac Tryz.prog 47 11=some (42,3):=by kernel_rfl
theorem Amo:sz Tryz.prog 48=43:=by kernel_rfl
theorem Amp:bz Tryz.prog 48=184:=by kernel_rfl
theorem Amq:Ac Tryz.prog 48 0=some (0,5):=by kernel_rfl
theorem Amr:Ac Tryz.prog 48 1=some (1,3):=by kernel_rfl
theorem Ams:Ac Tryz.prog 48 2=some (2,3):=by kernel_rfl
theorem Amt:Ac Tryz.prog 48 3=some (3,3):=by kernel_rfl
theorem Amu:Ac Tryz.prog 48 4=some (4,3):=by kernel_rfl
theorem Amv:Ac Tryz.prog 48 5=some (5,41):=by kernel_rfl
theorem Amw:Ac Tryz.prog 48 6=some (6,42):=by kernel_rfl
theorem Amx:Ac Tryz.prog 48 7=some (38,43):=by kernel_rfl
theorem Amy:Ac Tryz.prog 48 8=some (39,44):=by kernel_rfl
theorem Amz:Ac Tryz.prog 48 9=some (40,45):=by kernel_rfl
theorem Am0:Ac Tryz.prog 48 10=some (41,46):=by kernel_rfl
theorem Am1:Ac Tryz.prog 48 11=some (42,3):=by kernel_rfl
theorem Am2:sz Tryz.prog 50=1:=by kernel_rfl
theorem Am3:bz Tryz.prog 50=24:=by kernel_rfl
theorem Am4:ZOk Tryz.prog 50 (.c [.v (.slice none 0 0)])=True:=eq_true ⟨.slice none 0 0,by kernel_rfl,fun _=>by first|rfl|simp [Value.cells,Cont.vals,arr8,arr32,arr64]⟩
theorem Am5:Ao Tryz.prog 50 (.a (.v (.slice none 0 0)))=True:=eq_true ⟨.slice none 0 0,by kernel_rfl,fun _=>by first|rfl|simp [Sc.val,At.val,arr8,arr32,arr64]⟩
theorem Am6:sz Tryz.prog 51=43:=by kernel_rfl
theorem Am7:bz Tryz.prog 51=184:=by kernel_rfl
theorem Am8:Ac Tryz.prog 51 0=some (0,5):=by kernel_rfl
theorem Am9:Ac Tryz.prog 51 1=some (1,3):=by kernel_rfl
theorem Ana:Ac Tryz.prog 51 2=some (2,3):=by kernel_rfl
theorem Anb:Ac Tryz.prog 51 3=some (3,3):=by kernel_rfl
theorem Anc:Ac Tryz.prog 51 4=some (4,3):=by kernel_rfl
theorem Ane:Ac Tryz.prog 51 5=some (5,41):=by kernel_rfl
theorem Anf:Ac Tryz.prog 51 6=some (6,42):=by kernel_rfl
theorem Ang:Ac Tryz.prog 51 7=some (38,43):=by kernel_rfl
theorem Anh:Ac Tryz.prog 51 8=some (39,44):=by kernel_rfl
theorem Ani:Ac Tryz.prog 51 9=some (40,50):=by kernel_rfl
theorem Anj:Ac Tryz.prog 51 10=some (41,46):=by kernel_rfl
theorem Ank:Ac Tryz.prog 51 11=some (42,3):=by kernel_rfl
theorem Anl:sz Tryz.prog 52=43:=by kernel_rfl
theorem Anm:bz Tryz.prog 52=184:=by kernel_rfl
theorem Ann:Ac Tryz.prog 52 0=some (0,5):=by kernel_rfl
theorem Ano:Ac Tryz.prog 52 1=some (1,3):=by kernel_rfl
theorem Anp:Ac Tryz.prog 52 2=some (2,3):=by kernel_rfl
theorem Anq:Ac Tryz.prog 52 3=some (3,3):=by kernel_rfl
theorem Anr:Ac Tryz.prog 52 4=some (4,3):=by kernel_rfl
theorem Ans:Ac Tryz.prog 52 5=some (5,41):=by kernel_rfl
theorem Ant:Ac Tryz.prog 52 6=some (6,42):=by kernel_rfl
theorem Anu:Ac Tryz.prog 52 7=some (38,43):=by kernel_rfl
theorem Anv:Ac Tryz.prog 52 8=some (39,44):=by kernel_rfl
theorem Anw:Ac Tryz.prog 52 9=some (40,50):=by kernel_rfl
theorem Anx:Ac Tryz.prog 52 10=some (41,46):=by kernel_rfl
theorem Any:Ac Tryz.prog 52 11=some (42,3):=by kernel_rfl
theorem Anz:sz Tryz.prog 55=1:=by kernel_rfl
theorem An0:bz Tryz.prog 55=24:=by kernel_rfl
theorem An1:ZOk Tryz.prog 55 (.c [.v (.slice none 0 0)])=True:=eq_true ⟨.slice none 0 0,by kernel_rfl,fun _=>by first|rfl|simp [Value.cells,Cont.vals,arr8,arr32,arr64]⟩
theorem An2:Ao Tryz.prog 55 (.a (.v (.slice none 0 0)))=True:=eq_true ⟨.slice none 0 0,by kernel_rfl,fun _=>by first|rfl|simp [Sc.val,At.val,arr8,arr32,arr64]⟩
theorem An3:sz Tryz.prog 59=45:=by kernel_rfl
theorem An4:bz Tryz.prog 59=200:=by kernel_rfl
theorem An5:Ac Tryz.prog 59 0=some (0,4):=by kernel_rfl
theorem An6:Ac Tryz.prog 59 1=some (1,3):=by kernel_rfl
theorem An7:Ac Tryz.prog 59 2=some (2,48):=by kernel_rfl
theorem An8:sz Tryz.prog 60=45:=by kernel_rfl
theorem An9:bz Tryz.prog 60=200:=by kernel_rfl
theorem Aoa:Ac Tryz.prog 60 0=some (0,4):=by kernel_rfl
theorem Aob:Ac Tryz.prog 60 1=some (1,3):=by kernel_rfl
theorem Aoc:Ac Tryz.prog 60 2=some (2,48):=by kernel_rfl
theorem Aod:sz Tryz.prog 66=1:=by kernel_rfl
theorem Aoe:bz Tryz.prog 66=8:=by kernel_rfl
theorem Aof:ZOk Tryz.prog 66 (.c [.v (.pointer none)])=True:=eq_true ⟨.pointer none,by kernel_rfl,fun _=>by first|rfl|simp [Value.cells,Cont.vals,arr8,arr32,arr64]⟩
theorem Aog:Ao Tryz.prog 66 (.a (.v (.pointer none)))=True:=eq_true ⟨.pointer none,by kernel_rfl,fun _=>by first|rfl|simp [Sc.val,At.val,arr8,arr32,arr64]⟩
theorem Aoh:sz Tryz.prog 78=1:=by kernel_rfl
theorem Aoi:bz Tryz.prog 78=24:=by kernel_rfl
theorem Aoj:ZOk Tryz.prog 78 (.c [.v (.slice none 0 0)])=True:=eq_true ⟨.slice none 0 0,by kernel_rfl,fun _=>by first|rfl|simp [Value.cells,Cont.vals,arr8,arr32,arr64]⟩
theorem Aok:Ao Tryz.prog 78 (.a (.v (.slice none 0 0)))=True:=eq_true ⟨.slice none 0 0,by kernel_rfl,fun _=>by first|rfl|simp [Sc.val,At.val,arr8,arr32,arr64]⟩
theorem Aol:sz Tryz.prog 79=1:=by kernel_rfl
theorem Aom:bz Tryz.prog 79=8:=by kernel_rfl
theorem Aon:ZOk Tryz.prog 79 (.c [.v (.pointer none)])=True:=eq_true ⟨.pointer none,by kernel_rfl,fun _=>by first|rfl|simp [Value.cells,Cont.vals,arr8,arr32,arr64]⟩
theorem Aoo:Ao Tryz.prog 79 (.a (.v (.pointer none)))=True:=eq_true ⟨.pointer none,by kernel_rfl,fun _=>by first|rfl|simp [Sc.val,At.val,arr8,arr32,arr64]⟩
theorem Aop:sz Tryz.prog 82=44:=by kernel_rfl
theorem Aoq:bz Tryz.prog 82=192:=by kernel_rfl
theorem Aor:Ac Tryz.prog 82 0=some (0,52):=by kernel_rfl
theorem Aos:Ac Tryz.prog 82 1=some (43,3):=by kernel_rfl
theorem Aot:sz Tryz.prog 83=44:=by kernel_rfl
theorem Aou:bz Tryz.prog 83=192:=by kernel_rfl
theorem Aov:Ac Tryz.prog 83 0=some (0,52):=by kernel_rfl
theorem Aow:Ac Tryz.prog 83 1=some (43,3):=by kernel_rfl
theorem Aox:sz Tryz.prog 86=3:=by kernel_rfl
theorem Aoy:bz Tryz.prog 86=40:=by kernel_rfl
theorem Aoz:Ac Tryz.prog 86 0=some (0,3):=by kernel_rfl
theorem Ao0:Ac Tryz.prog 86 1=some (1,43):=by kernel_rfl
theorem Ao1:Ac Tryz.prog 86 2=some (2,3):=by kernel_rfl
theorem Ao2:ZOk Tryz.prog 86 (.c [.v (.int .i64 0),.v (.slice none 0 0),.v (.int .i64 0)])=True:=eq_true ⟨.agg #[.int .i64 0,.slice none 0 0,.int .i64 0],by kernel_rfl,fun _=>by first|rfl|simp [Value.cells,Cont.vals,arr8,arr32,arr64]⟩
theorem Ao3:Ao Tryz.prog 86 (.g [.v (.int .i64 0),.v (.slice none 0 0),.v (.int .i64 0)])=True:=eq_true ⟨.agg #[.int .i64 0,.slice none 0 0,.int .i64 0],by kernel_rfl,fun _=>by first|rfl|simp [Sc.val,At.val,arr8,arr32,arr64]⟩
theorem Ao4:sz Tryz.prog 87=3:=by kernel_rfl
theorem Ao5:bz Tryz.prog 87=40:=by kernel_rfl
theorem Ao6:Ac Tryz.prog 87 0=some (0,3):=by kernel_rfl
theorem Ao7:Ac Tryz.prog 87 1=some (1,43):=by kernel_rfl
theorem Ao8:Ac Tryz.prog 87 2=some (2,3):=by kernel_rfl
theorem Ao9:ZOk Tryz.prog 87 (.c [.v (.int .i64 0),.v (.slice none 0 0),.v (.int .i64 0)])=True:=eq_true ⟨.agg #[.int .i64 0,.slice none 0 0,.int .i64 0],by kernel_rfl,fun _=>by first|rfl|simp [Value.cells,Cont.vals,arr8,arr32,arr64]⟩
theorem Apa:Ao Tryz.prog 87 (.g [.v (.int .i64 0),.v (.slice none 0 0),.v (.int .i64 0)])=True:=eq_true ⟨.agg #[.int .i64 0,.slice none 0 0,.int .i64 0],by kernel_rfl,fun _=>by first|rfl|simp [Sc.val,At.val,arr8,arr32,arr64]⟩
theorem Apb:sz Tryz.prog 91=1:=by kernel_rfl
theorem Apc:bz Tryz.prog 91=8:=by kernel_rfl
theorem Apd:ZOk Tryz.prog 91 (.c [.v (.int .i64 0)])=True:=eq_true ⟨.int .i64 0,by kernel_rfl,fun _=>by first|rfl|simp [Value.cells,Cont.vals,arr8,arr32,arr64]⟩
theorem Ape:Ao Tryz.prog 91 (.a (.v (.int .i64 0)))=True:=eq_true ⟨.int .i64 0,by kernel_rfl,fun _=>by first|rfl|simp [Sc.val,At.val,arr8,arr32,arr64]⟩
theorem Apf:sz Tryz.prog 96=3:=by kernel_rfl
theorem Apg:bz Tryz.prog 96=40:=by kernel_rfl
theorem Aph:Ac Tryz.prog 96 0=some (0,3):=by kernel_rfl
theorem Api:Ac Tryz.prog 96 1=some (1,43):=by kernel_rfl
theorem Apj:Ac Tryz.prog 96 2=some (2,3):=by kernel_rfl
theorem Apk:ZOk Tryz.prog 96 (.c [.v (.int .i64 0),.v (.slice none 0 0),.v (.int .i64 0)])=True:=eq_true ⟨.agg #[.int .i64 0,.slice none 0 0,.int .i64 0],by kernel_rfl,fun _=>by first|rfl|simp [Value.cells,Cont.vals,arr8,arr32,arr64]⟩
theorem Apl:Ao Tryz.prog 96 (.g [.v (.int .i64 0),.v (.slice none 0 0),.v (.int .i64 0)])=True:=eq_true ⟨.agg #[.int .i64 0,.slice none 0 0,.int .i64 0],by kernel_rfl,fun _=>by first|rfl|simp [Sc.val,At.val,arr8,arr32,arr64]⟩
theorem Apm:sz Tryz.prog 97=3:=by kernel_rfl
theorem Apn:bz Tryz.prog 97=24:=by kernel_rfl
theorem Apo:Ac Tryz.prog 97 0=some (0,3):=by kernel_rfl
theorem App:Ac Tryz.prog 97 1=some (1,3):=by kernel_rfl
theorem Apq:Ac Tryz.prog 97 2=some (2,3):=by kernel_rfl
theorem Apr:ZOk Tryz.prog 97 (.c [.v (.int .i64 0),.v (.int .i64 0),.v (.int .i64 0)])=True:=eq_true ⟨.agg #[.int .i64 0,.int .i64 0,.int .i64 0],by kernel_rfl,fun _=>by first|rfl|simp [Value.cells,Cont.vals,arr8,arr32,arr64]⟩
theorem Aps:Ao Tryz.prog 97 (.g [.v (.int .i64 0),.v (.int .i64 0),.v (.int .i64 0)])=True:=eq_true ⟨.agg #[.int .i64 0,.int .i64 0,.int .i64 0],by kernel_rfl,fun _=>by first|rfl|simp [Sc.val,At.val,arr8,arr32,arr64]⟩
theorem Apt:sz Tryz.prog 98=3:=by kernel_rfl
theorem Apu:bz Tryz.prog 98=24:=by kernel_rfl
theorem Apv:Ac Tryz.prog 98 0=some (0,3):=by kernel_rfl
theorem Apw:Ac Tryz.prog 98 1=some (1,3):=by kernel_rfl
theorem Apx:Ac Tryz.prog 98 2=some (2,3):=by kernel_rfl
theorem Apy:ZOk Tryz.prog 98 (.c [.v (.int .i64 0),.v (.int .i64 0),.v (.int .i64 0)])=True:=eq_true ⟨.agg #[.int .i64 0,.int .i64 0,.int .i64 0],by kernel_rfl,fun _=>by first|rfl|simp [Value.cells,Cont.vals,arr8,arr32,arr64]⟩
theorem Ap0:Ao Tryz.prog 98 (.g [.v (.int .i64 0),.v (.int .i64 0),.v (.int .i64 0)])=True:=eq_true ⟨.agg #[.int .i64 0,.int .i64 0,.int .i64 0],by kernel_rfl,fun _=>by first|rfl|simp [Sc.val,At.val,arr8,arr32,arr64]⟩
theorem Ap1:Mk Tryz.prog 98 [.i64,.i64,.i64]=True:=eq_true ⟨by kernel_rfl,by kernel_rfl,by kernel_rfl,by kernel_rfl⟩
theorem Ap2:sz Tryz.prog 100=1:=by kernel_rfl
theorem Ap3:bz Tryz.prog 100=8:=by kernel_rfl
theorem Ap4:ZOk Tryz.prog 100 (.c [.v (.map none)])=True:=eq_true ⟨.map none,by kernel_rfl,fun _=>by first|rfl|simp [Value.cells,Cont.vals,arr8,arr32,arr64]⟩
theorem Ap5:Ao Tryz.prog 100 (.a (.v (.map none)))=True:=eq_true ⟨.map none,by kernel_rfl,fun _=>by first|rfl|simp [Sc.val,At.val,arr8,arr32,arr64]⟩
theorem Ap6:sz Tryz.prog 101=1:=by kernel_rfl
theorem Ap7:bz Tryz.prog 101=8:=by kernel_rfl
theorem Ap8:ZOk Tryz.prog 101 (.c [.v (.map none)])=True:=eq_true ⟨.map none,by kernel_rfl,fun _=>by first|rfl|simp [Value.cells,Cont.vals,arr8,arr32,arr64]⟩
theorem Ap9:Ao Tryz.prog 101 (.a (.v (.map none)))=True:=eq_true ⟨.map none,by kernel_rfl,fun _=>by first|rfl|simp [Sc.val,At.val,arr8,arr32,arr64]⟩
theorem Aqa:sz Tryz.prog 102=1:=by kernel_rfl
theorem Aqb:bz Tryz.prog 102=8:=by kernel_rfl
theorem Aqc:ZOk Tryz.prog 102 (.c [.v (.pointer none)])=True:=eq_true ⟨.pointer none,by kernel_rfl,fun _=>by first|rfl|simp [Value.cells,Cont.vals,arr8,arr32,arr64]⟩
theorem Aqd:Ao Tryz.prog 102 (.a (.v (.pointer none)))=True:=eq_true ⟨.pointer none,by kernel_rfl,fun _=>by first|rfl|simp [Sc.val,At.val,arr8,arr32,arr64]⟩
theorem Aqe:sz Tryz.prog 103=58:=by kernel_rfl
theorem Aqf:bz Tryz.prog 103=368:=by kernel_rfl
theorem Aqg:Ac Tryz.prog 103 0=some (0,3):=by kernel_rfl
theorem Aqh:Ac Tryz.prog 103 1=some (1,3):=by kernel_rfl
theorem Aqi:Ac Tryz.prog 103 2=some (2,3):=by kernel_rfl
theorem Aqj:Ac Tryz.prog 103 3=some (3,3):=by kernel_rfl
theorem Aqk:Ac Tryz.prog 103 4=some (4,3):=by kernel_rfl
theorem Aql:Ac Tryz.prog 103 5=some (5,3):=by kernel_rfl
theorem Aqm:Ac Tryz.prog 103 6=some (6,43):=by kernel_rfl
theorem Aqn:Ac Tryz.prog 103 7=some (7,43):=by kernel_rfl
theorem Aqo:Ac Tryz.prog 103 8=some (8,3):=by kernel_rfl
theorem Aqp:Ac Tryz.prog 103 9=some (9,43):=by kernel_rfl
theorem Aqq:Ac Tryz.prog 103 10=some (10,102):=by kernel_rfl
theorem Aqr:Ac Tryz.prog 103 11=some (11,43):=by kernel_rfl
theorem Aqs:Ac Tryz.prog 103 12=some (12,100):=by kernel_rfl
theorem Aqt:Ac Tryz.prog 103 13=some (13,101):=by kernel_rfl
theorem Aqu:Ac Tryz.prog 103 14=some (14,40):=by kernel_rfl
theorem Aqv:Ac Tryz.prog 103 15=some (15,48):=by kernel_rfl
theorem Aqw:sz Tryz.prog 104=58:=by kernel_rfl
theorem Aqx:bz Tryz.prog 104=368:=by kernel_rfl
theorem Aqy:Ac Tryz.prog 104 0=some (0,3):=by kernel_rfl
theorem Aqz:Ac Tryz.prog 104 1=some (1,3):=by kernel_rfl
theorem Aq0:Ac Tryz.prog 104 2=some (2,3):=by kernel_rfl
theorem Aq1:Ac Tryz.prog 104 3=some (3,3):=by kernel_rfl
theorem Aq2:Ac Tryz.prog 104 4=some (4,3):=by kernel_rfl
theorem Aq3:Ac Tryz.prog 104 5=some (5,3):=by kernel_rfl
theorem Aq4:Ac Tryz.prog 104 6=some (6,43):=by kernel_rfl
theorem Aq5:Ac Tryz.prog 104 7=some (7,43):=by kernel_rfl
theorem Aq6:Ac Tryz.prog 104 8=some (8,3):=by kernel_rfl
theorem Aq7:Ac Tryz.prog 104 9=some (9,43):=by kernel_rfl
theorem Aq8:Ac Tryz.prog 104 10=some (10,102):=by kernel_rfl
theorem Aq9:Ac Tryz.prog 104 11=some (11,43):=by kernel_rfl
theorem Ara:Ac Tryz.prog 104 12=some (12,100):=by kernel_rfl
theorem Arb:Ac Tryz.prog 104 13=some (13,101):=by kernel_rfl
theorem Arc:Ac Tryz.prog 104 14=some (14,40):=by kernel_rfl
theorem Ard:Ac Tryz.prog 104 15=some (15,48):=by kernel_rfl
theorem Arf:sz Tryz.prog 106=3:=by kernel_rfl
theorem Arg:bz Tryz.prog 106=24:=by kernel_rfl
theorem Arh:Ac Tryz.prog 106 0=some (0,3):=by kernel_rfl
theorem Ari:Ac Tryz.prog 106 1=some (1,3):=by kernel_rfl
theorem Arj:Ac Tryz.prog 106 2=some (2,3):=by kernel_rfl
theorem Ark:ZOk Tryz.prog 106 (.c [.v (.int .i64 0),.v (.int .i64 0),.v (.int .i64 0)])=True:=eq_true ⟨.agg #[.int .i64 0,.int .i64 0,.int .i64 0],by kernel_rfl,fun _=>by first|rfl|simp [Value.cells,Cont.vals,arr8,arr32,arr64]⟩
theorem Arl:Ao Tryz.prog 106 (.g [.v (.int .i64 0),.v (.int .i64 0),.v (.int .i64 0)])=True:=eq_true ⟨.agg #[.int .i64 0,.int .i64 0,.int .i64 0],by kernel_rfl,fun _=>by first|rfl|simp [Sc.val,At.val,arr8,arr32,arr64]⟩
theorem Arm:Mk Tryz.prog 106 [.i64,.i64,.i64]=True:=eq_true ⟨by kernel_rfl,by kernel_rfl,by kernel_rfl,by kernel_rfl⟩
theorem Arn:sz Tryz.prog 111=1:=by kernel_rfl
theorem Aro:bz Tryz.prog 111=4:=by kernel_rfl
theorem Arp:ZOk Tryz.prog 111 (.c [.v (.int .u32 0)])=True:=eq_true ⟨.int .u32 0,by kernel_rfl,fun _=>by first|rfl|simp [Value.cells,Cont.vals,arr8,arr32,arr64]⟩
theorem Arq:Ao Tryz.prog 111 (.a (.v (.int .u32 0)))=True:=eq_true ⟨.int .u32 0,by kernel_rfl,fun _=>by first|rfl|simp [Sc.val,At.val,arr8,arr32,arr64]⟩
theorem Arr:sz Tryz.prog 114=2:=by kernel_rfl
theorem Ars:bz Tryz.prog 114=16:=by kernel_rfl
theorem Art:Ac Tryz.prog 114 0=some (0,3):=by kernel_rfl
theorem Aru:Ac Tryz.prog 114 1=some (1,41):=by kernel_rfl
theorem Arv:ZOk Tryz.prog 114 (.c [.v (.int .i64 0),.v (.int .u64 0)])=True:=eq_true ⟨.agg #[.int .i64 0,.int .u64 0],by kernel_rfl,fun _=>by first|rfl|simp [Value.cells,Cont.vals,arr8,arr32,arr64]⟩
theorem Arw:Ao Tryz.prog 114 (.g [.v (.int .i64 0),.v (.int .u64 0)])=True:=eq_true ⟨.agg #[.int .i64 0,.int .u64 0],by kernel_rfl,fun _=>by first|rfl|simp [Sc.val,At.val,arr8,arr32,arr64]⟩
theorem Arx:sz Tryz.prog 115=2:=by kernel_rfl
theorem Ary:bz Tryz.prog 115=16:=by kernel_rfl
theorem Arz:Ac Tryz.prog 115 0=some (0,3):=by kernel_rfl
theorem Ar0:Ac Tryz.prog 115 1=some (1,41):=by kernel_rfl
theorem Ar1:ZOk Tryz.prog 115 (.c [.v (.int .i64 0),.v (.int .u64 0)])=True:=eq_true ⟨.agg #[.int .i64 0,.int .u64 0],by kernel_rfl,fun _=>by first|rfl|simp [Value.cells,Cont.vals,arr8,arr32,arr64]⟩
theorem Ar2:Ao Tryz.prog 115 (.g [.v (.int .i64 0),.v (.int .u64 0)])=True:=eq_true ⟨.agg #[.int .i64 0,.int .u64 0],by kernel_rfl,fun _=>by first|rfl|simp [Sc.val,At.val,arr8,arr32,arr64]⟩
theorem Ar3:Mk Tryz.prog 115 [.i64,.u64]=True:=eq_true ⟨by kernel_rfl,by kernel_rfl,by kernel_rfl,by kernel_rfl⟩
theorem Ar4:sz Tryz.prog 116=1:=by kernel_rfl
theorem Ar5:bz Tryz.prog 116=8:=by kernel_rfl
theorem Ar6:ZOk Tryz.prog 116 (.c [.v (.map none)])=True:=eq_true ⟨.map none,by kernel_rfl,fun _=>by first|rfl|simp [Value.cells,Cont.vals,arr8,arr32,arr64]⟩
theorem Ar7:Ao Tryz.prog 116 (.a (.v (.map none)))=True:=eq_true ⟨.map none,by kernel_rfl,fun _=>by first|rfl|simp [Sc.val,At.val,arr8,arr32,arr64]⟩
theorem Ar8:sz Tryz.prog 117=1:=by kernel_rfl
theorem Ar9:bz Tryz.prog 117=8:=by kernel_rfl
theorem Asa:ZOk Tryz.prog 117 (.c [.v (.map none)])=True:=eq_true ⟨.map none,by kernel_rfl,fun _=>by first|rfl|simp [Value.cells,Cont.vals,arr8,arr32,arr64]⟩
theorem Asb:Ao Tryz.prog 117 (.a (.v (.map none)))=True:=eq_true ⟨.map none,by kernel_rfl,fun _=>by first|rfl|simp [Sc.val,At.val,arr8,arr32,arr64]⟩
theorem Asc:sz Tryz.prog 118=1:=by kernel_rfl
theorem Asd:bz Tryz.prog 118=24:=by kernel_rfl
theorem Ase:ZOk Tryz.prog 118 (.c [.v (.slice none 0 0)])=True:=eq_true ⟨.slice none 0 0,by kernel_rfl,fun _=>by first|rfl|simp [Value.cells,Cont.vals,arr8,arr32,arr64]⟩
theorem Asf:Ao Tryz.prog 118 (.a (.v (.slice none 0 0)))=True:=eq_true ⟨.slice none 0 0,by kernel_rfl,fun _=>by first|rfl|simp [Sc.val,At.val,arr8,arr32,arr64]⟩
theorem Asg:sz Tryz.prog 119=5:=by kernel_rfl
theorem Ash:bz Tryz.prog 119=56:=by kernel_rfl
theorem Asi:Ac Tryz.prog 119 0=some (0,3):=by kernel_rfl
theorem Asj:Ac Tryz.prog 119 1=some (1,3):=by kernel_rfl
theorem Asl:Ac Tryz.prog 119 2=some (2,118):=by kernel_rfl
theorem Asm:Ac Tryz.prog 119 3=some (3,116):=by kernel_rfl
theorem Asn:Ac Tryz.prog 119 4=some (4,117):=by kernel_rfl
theorem Aso:ZOk Tryz.prog 119 (.c [.v (.int .i64 0),.v (.int .i64 0),.v (.slice none 0 0),.v (.map none),.v (.map none)])=True:=eq_true ⟨.agg #[.int .i64 0,.int .i64 0,.slice none 0 0,.map none,.map none],by kernel_rfl,fun _=>by first|rfl|simp [Value.cells,Cont.vals,arr8,arr32,arr64]⟩
theorem Asp:Ao Tryz.prog 119 (.g [.v (.int .i64 0),.v (.int .i64 0),.v (.slice none 0 0),.v (.map none),.v (.map none)])=True:=eq_true ⟨.agg #[.int .i64 0,.int .i64 0,.slice none 0 0,.map none,.map none],by kernel_rfl,fun _=>by first|rfl|simp [Sc.val,At.val,arr8,arr32,arr64]⟩
theorem Asq:sz Tryz.prog 120=5:=by kernel_rfl
theorem Asr:bz Tryz.prog 120=56:=by kernel_rfl
theorem Ass:Ac Tryz.prog 120 0=some (0,3):=by kernel_rfl
theorem Ast:Ac Tryz.prog 120 1=some (1,3):=by kernel_rfl
theorem Asu:Ac Tryz.prog 120 2=some (2,118):=by kernel_rfl
theorem Asv:Ac Tryz.prog 120 3=some (3,116):=by kernel_rfl
theorem Asw:Ac Tryz.prog 120 4=some (4,117):=by kernel_rfl
theorem Asx:ZOk Tryz.prog 120 (.c [.v (.int .i64 0),.v (.int .i64 0),.v (.slice none 0 0),.v (.map none),.v (.map none)])=True:=eq_true ⟨.agg #[.int .i64 0,.int .i64 0,.slice none 0 0,.map none,.map none],by kernel_rfl,fun _=>by first|rfl|simp [Value.cells,Cont.vals,arr8,arr32,arr64]⟩
theorem Asy:Ao Tryz.prog 120 (.g [.v (.int .i64 0),.v (.int .i64 0),.v (.slice none 0 0),.v (.map none),.v (.map none)])=True:=eq_true ⟨.agg #[.int .i64 0,.int .i64 0,.slice none 0 0,.map none,.map none],by kernel_rfl,fun _=>by first|rfl|simp [Sc.val,At.val,arr8,arr32,arr64]⟩
theorem Asz:sz Tryz.prog 121=3:=by kernel_rfl
theorem As0:bz Tryz.prog 121=56:=by kernel_rfl
theorem As1:Ac Tryz.prog 121 0=some (0,43):=by kernel_rfl
theorem As2:Ac Tryz.prog 121 1=some (1,43):=by kernel_rfl
theorem As3:Ac Tryz.prog 121 2=some (2,3):=by kernel_rfl
theorem As4:ZOk Tryz.prog 121 (.c [.v (.slice none 0 0),.v (.slice none 0 0),.v (.int .i64 0)])=True:=eq_true ⟨.agg #[.slice none 0 0,.slice none 0 0,.int .i64 0],by kernel_rfl,fun _=>by first|rfl|simp [Value.cells,Cont.vals,arr8,arr32,arr64]⟩
theorem As5:Ao Tryz.prog 121 (.g [.v (.slice none 0 0),.v (.slice none 0 0),.v (.int .i64 0)])=True:=eq_true ⟨.agg #[.slice none 0 0,.slice none 0 0,.int .i64 0],by kernel_rfl,fun _=>by first|rfl|simp [Sc.val,At.val,arr8,arr32,arr64]⟩
theorem As6:sz Tryz.prog 122=3:=by kernel_rfl
theorem As7:bz Tryz.prog 122=56:=by kernel_rfl
theorem As8:Ac Tryz.prog 122 0=some (0,43):=by kernel_rfl
theorem As9:Ac Tryz.prog 122 1=some (1,43):=by kernel_rfl
theorem Ata:Ac Tryz.prog 122 2=some (2,3):=by kernel_rfl
theorem Atb:ZOk Tryz.prog 122 (.c [.v (.slice none 0 0),.v (.slice none 0 0),.v (.int .i64 0)])=True:=eq_true ⟨.agg #[.slice none 0 0,.slice none 0 0,.int .i64 0],by kernel_rfl,fun _=>by first|rfl|simp [Value.cells,Cont.vals,arr8,arr32,arr64]⟩
theorem Atc:Ao Tryz.prog 122 (.g [.v (.slice none 0 0),.v (.slice none 0 0),.v (.int .i64 0)])=True:=eq_true ⟨.agg #[.slice none 0 0,.slice none 0 0,.int .i64 0],by kernel_rfl,fun _=>by first|rfl|simp [Sc.val,At.val,arr8,arr32,arr64]⟩
theorem Atd:sz Tryz.prog 129=1:=by kernel_rfl
theorem Ate:bz Tryz.prog 129=24:=by kernel_rfl
theorem Atf:ZOk Tryz.prog 129 (.c [.v (.slice none 0 0)])=True:=eq_true ⟨.slice none 0 0,by kernel_rfl,fun _=>by first|rfl|simp [Value.cells,Cont.vals,arr8,arr32,arr64]⟩
theorem Atg:Ao Tryz.prog 129 (.a (.v (.slice none 0 0)))=True:=eq_true ⟨.slice none 0 0,by kernel_rfl,fun _=>by first|rfl|simp [Sc.val,At.val,arr8,arr32,arr64]⟩
theorem Ath:sz Tryz.prog 130=1:=by kernel_rfl
theorem Ati:bz Tryz.prog 130=24:=by kernel_rfl
theorem Atj:ZOk Tryz.prog 130 (.c [.v (.slice none 0 0)])=True:=eq_true ⟨.slice none 0 0,by kernel_rfl,fun _=>by first|rfl|simp [Value.cells,Cont.vals,arr8,arr32,arr64]⟩
theorem Atk:Ao Tryz.prog 130 (.a (.v (.slice none 0 0)))=True:=eq_true ⟨.slice none 0 0,by kernel_rfl,fun _=>by first|rfl|simp [Sc.val,At.val,arr8,arr32,arr64]⟩
theorem Atl:sz Tryz.prog 131=2:=by kernel_rfl
theorem Atm:bz Tryz.prog 131=16:=by kernel_rfl
theorem Atn:Lg Tryz.prog 131 2 .u64=True:=eq_true ⟨41,Tryz.underlying131,Tryz.underlying41,by kernel_rfl,by kernel_rfl,by kernel_rfl⟩
theorem Ato:ZOk Tryz.prog 131 (.u64 (List.replicate 2 0))=True:=eq_true ⟨.agg (arr64 (List.replicate 2 0)),by kernel_rfl,fun _=>by first|rfl|simp [Value.cells,Cont.vals,arr8,arr32,arr64]⟩
theorem Atp:Ao Tryz.prog 131 (.a64 (List.replicate 2 0))=True:=eq_true ⟨.agg (arr64 (List.replicate 2 0)),by kernel_rfl,fun _=>by first|rfl|simp [Sc.val,At.val,arr8,arr32,arr64]⟩
theorem Atq:sz Tryz.prog 147=1:=by kernel_rfl
theorem Atr:bz Tryz.prog 147=8:=by kernel_rfl
theorem Ats:ZOk Tryz.prog 147 (.c [.v (.map none)])=True:=eq_true ⟨.map none,by kernel_rfl,fun _=>by first|rfl|simp [Value.cells,Cont.vals,arr8,arr32,arr64]⟩
theorem Att:Ao Tryz.prog 147 (.a (.v (.map none)))=True:=eq_true ⟨.map none,by kernel_rfl,fun _=>by first|rfl|simp [Sc.val,At.val,arr8,arr32,arr64]⟩
theorem Atu:sz Tryz.prog 148=9:=by kernel_rfl
theorem Atv:bz Tryz.prog 148=104:=by kernel_rfl
theorem Atw:Ac Tryz.prog 148 0=some (0,3):=by kernel_rfl
theorem Atx:Ac Tryz.prog 148 1=some (1,3):=by kernel_rfl
theorem Aty:Ac Tryz.prog 148 2=some (2,3):=by kernel_rfl
theorem Atz:Ac Tryz.prog 148 3=some (3,43):=by kernel_rfl
theorem At0:Ac Tryz.prog 148 4=some (4,43):=by kernel_rfl
theorem At1:Ac Tryz.prog 148 5=some (5,147):=by kernel_rfl
theorem At2:Ac Tryz.prog 148 6=some (6,102):=by kernel_rfl
theorem At3:Ac Tryz.prog 148 7=some (7,66):=by kernel_rfl
theorem At4:Ac Tryz.prog 148 8=some (8,3):=by kernel_rfl
theorem At5:ZOk Tryz.prog 148 (.c [.v (.int .i64 0),.v (.int .i64 0),.v (.int .i64 0),.v (.slice none 0 0),.v (.slice none 0 0),.v (.map none),.v (.pointer none),.v (.pointer none),.v (.int .i64 0)])=True:=eq_true ⟨.agg #[.int .i64 0,.int .i64 0,.int .i64 0,.slice none 0 0,.slice none 0 0,.map none,.pointer none,.pointer none,.int .i64 0],by kernel_rfl,fun _=>by first|rfl|simp [Value.cells,Cont.vals,arr8,arr32,arr64]⟩
theorem At6:Ao Tryz.prog 148 (.g [.v (.int .i64 0),.v (.int .i64 0),.v (.int .i64 0),.v (.slice none 0 0),.v (.slice none 0 0),.v (.map none),.v (.pointer none),.v (.pointer none),.v (.int .i64 0)])=True:=eq_true ⟨.agg #[.int .i64 0,.int .i64 0,.int .i64 0,.slice none 0 0,.slice none 0 0,.map none,.pointer none,.pointer none,.int .i64 0],by kernel_rfl,fun _=>by first|rfl|simp [Sc.val,At.val,arr8,arr32,arr64]⟩
theorem At7:sz Tryz.prog 149=9:=by kernel_rfl
theorem At8:bz Tryz.prog 149=104:=by kernel_rfl
theorem At9:Ac Tryz.prog 149 0=some (0,3):=by kernel_rfl
theorem Aua:Ac Tryz.prog 149 1=some (1,3):=by kernel_rfl
theorem Aub:Ac Tryz.prog 149 2=some (2,3):=by kernel_rfl
theorem Auc:Ac Tryz.prog 149 3=some (3,43):=by kernel_rfl
theorem Aud:Ac Tryz.prog 149 4=some (4,43):=by kernel_rfl
theorem Aue:Ac Tryz.prog 149 5=some (5,147):=by kernel_rfl
theorem Auf:Ac Tryz.prog 149 6=some (6,102):=by kernel_rfl
theorem Aug:Ac Tryz.prog 149 7=some (7,66):=by kernel_rfl
theorem Auh:Ac Tryz.prog 149 8=some (8,3):=by kernel_rfl
theorem Aui:ZOk Tryz.prog 149 (.c [.v (.int .i64 0),.v (.int .i64 0),.v (.int .i64 0),.v (.slice none 0 0),.v (.slice none 0 0),.v (.map none),.v (.pointer none),.v (.pointer none),.v (.int .i64 0)])=True:=eq_true ⟨.agg #[.int .i64 0,.int .i64 0,.int .i64 0,.slice none 0 0,.slice none 0 0,.map none,.pointer none,.pointer none,.int .i64 0],by kernel_rfl,fun _=>by first|rfl|simp [Value.cells,Cont.vals,arr8,arr32,arr64]⟩
theorem Auj:Ao Tryz.prog 149 (.g [.v (.int .i64 0),.v (.int .i64 0),.v (.int .i64 0),.v (.slice none 0 0),.v (.slice none 0 0),.v (.map none),.v (.pointer none),.v (.pointer none),.v (.int .i64 0)])=True:=eq_true ⟨.agg #[.int .i64 0,.int .i64 0,.int .i64 0,.slice none 0 0,.slice none 0 0,.map none,.pointer none,.pointer none,.int .i64 0],by kernel_rfl,fun _=>by first|rfl|simp [Sc.val,At.val,arr8,arr32,arr64]⟩
theorem Auk:sz Tryz.prog 155=1:=by kernel_rfl
theorem Aul:bz Tryz.prog 155=8:=by kernel_rfl
theorem Aum:ZOk Tryz.prog 155 (.c [.v (.pointer none)])=True:=eq_true ⟨.pointer none,by kernel_rfl,fun _=>by first|rfl|simp [Value.cells,Cont.vals,arr8,arr32,arr64]⟩
theorem Aun:Ao Tryz.prog 155 (.a (.v (.pointer none)))=True:=eq_true ⟨.pointer none,by kernel_rfl,fun _=>by first|rfl|simp [Sc.val,At.val,arr8,arr32,arr64]⟩
theorem Auo:sz Tryz.prog 163=2:=by kernel_rfl
theorem Aup:bz Tryz.prog 163=16:=by kernel_rfl
theorem Auq:Ac Tryz.prog 163 0=some (0,3):=by kernel_rfl
theorem Aur:Ac Tryz.prog 163 1=some (1,41):=by kernel_rfl
theorem Aus:ZOk Tryz.prog 163 (.c [.v (.int .i64 0),.v (.int .u64 0)])=True:=eq_true ⟨.agg #[.int .i64 0,.int .u64 0],by kernel_rfl,fun _=>by first|rfl|simp [Value.cells,Cont.vals,arr8,arr32,arr64]⟩
theorem Aut:Ao Tryz.prog 163 (.g [.v (.int .i64 0),.v (.int .u64 0)])=True:=eq_true ⟨.agg #[.int .i64 0,.int .u64 0],by kernel_rfl,fun _=>by first|rfl|simp [Sc.val,At.val,arr8,arr32,arr64]⟩
theorem Auu:Mk Tryz.prog 163 [.i64,.u64]=True:=eq_true ⟨by kernel_rfl,by kernel_rfl,by kernel_rfl,by kernel_rfl⟩
theorem Auv:sz Tryz.prog 169=6:=by kernel_rfl
theorem Auw:bz Tryz.prog 169=96:=by kernel_rfl
theorem Aux:Ac Tryz.prog 169 0=some (0,43):=by kernel_rfl
theorem Auy:Ac Tryz.prog 169 1=some (1,43):=by kernel_rfl
theorem Auz:Ac Tryz.prog 169 2=some (2,43):=by kernel_rfl
theorem Au0:Ac Tryz.prog 169 3=some (3,3):=by kernel_rfl
theorem Au1:Ac Tryz.prog 169 4=some (4,3):=by kernel_rfl
theorem Au2:Ac Tryz.prog 169 5=some (5,3):=by kernel_rfl
theorem Au3:ZOk Tryz.prog 169 (.c [.v (.slice none 0 0),.v (.slice none 0 0),.v (.slice none 0 0),.v (.int .i64 0),.v (.int .i64 0),.v (.int .i64 0)])=True:=eq_true ⟨.agg #[.slice none 0 0,.slice none 0 0,.slice none 0 0,.int .i64 0,.int .i64 0,.int .i64 0],by kernel_rfl,fun _=>by first|rfl|simp [Value.cells,Cont.vals,arr8,arr32,arr64]⟩
theorem Au4:Ao Tryz.prog 169 (.g [.v (.slice none 0 0),.v (.slice none 0 0),.v (.slice none 0 0),.v (.int .i64 0),.v (.int .i64 0),.v (.int .i64 0)])=True:=eq_true ⟨.agg #[.slice none 0 0,.slice none 0 0,.slice none 0 0,.int .i64 0,.int .i64 0,.int .i64 0],by kernel_rfl,fun _=>by first|rfl|simp [Sc.val,At.val,arr8,arr32,arr64]⟩
theorem Au5:sz Tryz.prog 170=6:=by kernel_rfl
theorem Au6:bz Tryz.prog 170=96:=by kernel_rfl
theorem Au7:Ac Tryz.prog 170 0=some (0,43):=by kernel_rfl
theorem Au8:Ac Tryz.prog 170 1=some (1,43):=by kernel_rfl
theorem Au9:Ac Tryz.prog 170 2=some (2,43):=by kernel_rfl
theorem Ava:Ac Tryz.prog 170 3=some (3,3):=by kernel_rfl
theorem Avb:Ac Tryz.prog 170 4=some (4,3):=by kernel_rfl
theorem Avc:Ac Tryz.prog 170 5=some (5,3):=by kernel_rfl
theorem Avd:ZOk Tryz.prog 170 (.c [.v (.slice none 0 0),.v (.slice none 0 0),.v (.slice none 0 0),.v (.int .i64 0),.v (.int .i64 0),.v (.int .i64 0)])=True:=eq_true ⟨.agg #[.slice none 0 0,.slice none 0 0,.slice none 0 0,.int .i64 0,.int .i64 0,.int .i64 0],by kernel_rfl,fun _=>by first|rfl|simp [Value.cells,Cont.vals,arr8,arr32,arr64]⟩
theorem Ave:Ao Tryz.prog 170 (.g [.v (.slice none 0 0),.v (.slice none 0 0),.v (.slice none 0 0),.v (.int .i64 0),.v (.int .i64 0),.v (.int .i64 0)])=True:=eq_true ⟨.agg #[.slice none 0 0,.slice none 0 0,.slice none 0 0,.int .i64 0,.int .i64 0,.int .i64 0],by kernel_rfl,fun _=>by first|rfl|simp [Sc.val,At.val,arr8,arr32,arr64]⟩
theorem Avf:sz Tryz.prog 175=1:=by kernel_rfl
theorem Avg:bz Tryz.prog 175=8:=by kernel_rfl
theorem Avh:ZOk Tryz.prog 175 (.c [.v (.int .u64 0)])=True:=eq_true ⟨.int .u64 0,by kernel_rfl,fun _=>by first|rfl|simp [Value.cells,Cont.vals,arr8,arr32,arr64]⟩
theorem Avi:Ao Tryz.prog 175 (.a (.v (.int .u64 0)))=True:=eq_true ⟨.int .u64 0,by kernel_rfl,fun _=>by first|rfl|simp [Sc.val,At.val,arr8,arr32,arr64]⟩
theorem Avj:sz Tryz.prog 200=1:=by kernel_rfl
theorem Avk:bz Tryz.prog 200=8:=by kernel_rfl
theorem Avl:ZOk Tryz.prog 200 (.c [.v (.int .i64 0)])=True:=eq_true ⟨.int .i64 0,by kernel_rfl,fun _=>by first|rfl|simp [Value.cells,Cont.vals,arr8,arr32,arr64]⟩
theorem Avm:Ao Tryz.prog 200 (.a (.v (.int .i64 0)))=True:=eq_true ⟨.int .i64 0,by kernel_rfl,fun _=>by first|rfl|simp [Sc.val,At.val,arr8,arr32,arr64]⟩
theorem Avn:sz Tryz.prog 217=1:=by kernel_rfl
theorem Avo:bz Tryz.prog 217=8:=by kernel_rfl
theorem Avp:Ac Tryz.prog 217 0=some (0,17):=by kernel_rfl
theorem Avq:ZOk Tryz.prog 217 (.c [.v (.pointer none)])=True:=eq_true ⟨.agg #[.pointer none],by kernel_rfl,fun _=>by first|rfl|simp [Value.cells,Cont.vals,arr8,arr32,arr64]⟩
theorem Avr:Ao Tryz.prog 217 (.g [.v (.pointer none)])=True:=eq_true ⟨.agg #[.pointer none],by kernel_rfl,fun _=>by first|rfl|simp [Sc.val,At.val,arr8,arr32,arr64]⟩
theorem Avs:sz Tryz.prog 218=1:=by kernel_rfl
theorem Avt:bz Tryz.prog 218=8:=by kernel_rfl
theorem Avu:ZOk Tryz.prog 218 (.c [.v (.pointer none)])=True:=eq_true ⟨.pointer none,by kernel_rfl,fun _=>by first|rfl|simp [Value.cells,Cont.vals,arr8,arr32,arr64]⟩
theorem Avv:Ao Tryz.prog 218 (.a (.v (.pointer none)))=True:=eq_true ⟨.pointer none,by kernel_rfl,fun _=>by first|rfl|simp [Sc.val,At.val,arr8,arr32,arr64]⟩
theorem Avw:sz Tryz.prog 222=1:=by kernel_rfl
theorem Avx:bz Tryz.prog 222=16:=by kernel_rfl
theorem Avy:ZOk Tryz.prog 222 (.c [.v .nilIface])=True:=eq_true ⟨.nilIface,by kernel_rfl,fun _=>by first|rfl|simp [Value.cells,Cont.vals,arr8,arr32,arr64]⟩
theorem Avz:Ao Tryz.prog 222 (.a (.v (.nilIface)))=True:=eq_true ⟨.nilIface,by kernel_rfl,fun _=>by first|rfl|simp [Sc.val,At.val,arr8,arr32,arr64]⟩
theorem Av0:sz Tryz.prog 225=1:=by kernel_rfl
theorem Av1:bz Tryz.prog 225=16:=by kernel_rfl
theorem Av2:ZOk Tryz.prog 225 (.c [.v .nilIface])=True:=eq_true ⟨.nilIface,by kernel_rfl,fun _=>by first|rfl|simp [Value.cells,Cont.vals,arr8,arr32,arr64]⟩
theorem Av3:Ao Tryz.prog 225 (.a (.v (.nilIface)))=True:=eq_true ⟨.nilIface,by kernel_rfl,fun _=>by first|rfl|simp [Sc.val,At.val,arr8,arr32,arr64]⟩
theorem Av4:sz Tryz.prog 227=1:=by kernel_rfl
theorem Av5:bz Tryz.prog 227=16:=by kernel_rfl
theorem Av6:ZOk Tryz.prog 227 (.c [.v .nilIface])=True:=eq_true ⟨.nilIface,by kernel_rfl,fun _=>by first|rfl|simp [Value.cells,Cont.vals,arr8,arr32,arr64]⟩
theorem Av7:Ao Tryz.prog 227 (.a (.v (.nilIface)))=True:=eq_true ⟨.nilIface,by kernel_rfl,fun _=>by first|rfl|simp [Sc.val,At.val,arr8,arr32,arr64]⟩
theorem Av8:sz Tryz.prog 228=1:=by kernel_rfl
theorem Av9:bz Tryz.prog 228=24:=by kernel_rfl
theorem Awa:ZOk Tryz.prog 228 (.c [.v (.slice none 0 0)])=True:=eq_true ⟨.slice none 0 0,by kernel_rfl,fun _=>by first|rfl|simp [Value.cells,Cont.vals,arr8,arr32,arr64]⟩
theorem Awb:Ao Tryz.prog 228 (.a (.v (.slice none 0 0)))=True:=eq_true ⟨.slice none 0 0,by kernel_rfl,fun _=>by first|rfl|simp [Sc.val,At.val,arr8,arr32,arr64]⟩
theorem Awc:sz Tryz.prog 231=1:=by kernel_rfl
theorem Awd:bz Tryz.prog 231=8:=by kernel_rfl
theorem Awe:ZOk Tryz.prog 231 (.c [.v (.int .u64 0)])=True:=eq_true ⟨.int .u64 0,by kernel_rfl,fun _=>by first|rfl|simp [Value.cells,Cont.vals,arr8,arr32,arr64]⟩
theorem Awf:Ao Tryz.prog 231 (.a (.v (.int .u64 0)))=True:=eq_true ⟨.int .u64 0,by kernel_rfl,fun _=>by first|rfl|simp [Sc.val,At.val,arr8,arr32,arr64]⟩
theorem Awg:sz Tryz.prog 235=1:=by kernel_rfl
theorem Awh:bz Tryz.prog 235=8:=by kernel_rfl
theorem Awi:ZOk Tryz.prog 235 (.c [.v (.pointer none)])=True:=eq_true ⟨.pointer none,by kernel_rfl,fun _=>by first|rfl|simp [Value.cells,Cont.vals,arr8,arr32,arr64]⟩
theorem Awj:Ao Tryz.prog 235 (.a (.v (.pointer none)))=True:=eq_true ⟨.pointer none,by kernel_rfl,fun _=>by first|rfl|simp [Sc.val,At.val,arr8,arr32,arr64]⟩
theorem Awk:sz Tryz.prog 244=1:=by kernel_rfl
theorem Awl:bz Tryz.prog 244=8:=by kernel_rfl
theorem Awm:ZOk Tryz.prog 244 (.c [.v (.pointer none)])=True:=eq_true ⟨.pointer none,by kernel_rfl,fun _=>by first|rfl|simp [Value.cells,Cont.vals,arr8,arr32,arr64]⟩
theorem Awn:Ao Tryz.prog 244 (.a (.v (.pointer none)))=True:=eq_true ⟨.pointer none,by kernel_rfl,fun _=>by first|rfl|simp [Sc.val,At.val,arr8,arr32,arr64]⟩
theorem Awo:sz Tryz.prog 260=1:=by kernel_rfl
theorem Awp:bz Tryz.prog 260=8:=by kernel_rfl
theorem Awq:ZOk Tryz.prog 260 (.c [.v (.pointer none)])=True:=eq_true ⟨.pointer none,by kernel_rfl,fun _=>by first|rfl|simp [Value.cells,Cont.vals,arr8,arr32,arr64]⟩
theorem Awr:Ao Tryz.prog 260 (.a (.v (.pointer none)))=True:=eq_true ⟨.pointer none,by kernel_rfl,fun _=>by first|rfl|simp [Sc.val,At.val,arr8,arr32,arr64]⟩
theorem Aws:sz Tryz.prog 269=1:=by kernel_rfl
theorem Awt:bz Tryz.prog 269=8:=by kernel_rfl
theorem Awu:ZOk Tryz.prog 269 (.c [.v (.pointer none)])=True:=eq_true ⟨.pointer none,by kernel_rfl,fun _=>by first|rfl|simp [Value.cells,Cont.vals,arr8,arr32,arr64]⟩
theorem Awv:Ao Tryz.prog 269 (.a (.v (.pointer none)))=True:=eq_true ⟨.pointer none,by kernel_rfl,fun _=>by first|rfl|simp [Sc.val,At.val,arr8,arr32,arr64]⟩
theorem Aww:sz Tryz.prog 271=1:=by kernel_rfl
theorem Awx:bz Tryz.prog 271=2:=by kernel_rfl
theorem Awy:ZOk Tryz.prog 271 (.c [.v (.int .u16 0)])=True:=eq_true ⟨.int .u16 0,by kernel_rfl,fun _=>by first|rfl|simp [Value.cells,Cont.vals,arr8,arr32,arr64]⟩
theorem Awz:Ao Tryz.prog 271 (.a (.v (.int .u16 0)))=True:=eq_true ⟨.int .u16 0,by kernel_rfl,fun _=>by first|rfl|simp [Sc.val,At.val,arr8,arr32,arr64]⟩
theorem Aw0:sz Tryz.prog 278=1:=by kernel_rfl
theorem Aw1:bz Tryz.prog 278=8:=by kernel_rfl
theorem Aw2:ZOk Tryz.prog 278 (.c [.v (.pointer none)])=True:=eq_true ⟨.pointer none,by kernel_rfl,fun _=>by first|rfl|simp [Value.cells,Cont.vals,arr8,arr32,arr64]⟩
theorem Aw3:Ao Tryz.prog 278 (.a (.v (.pointer none)))=True:=eq_true ⟨.pointer none,by kernel_rfl,fun _=>by first|rfl|simp [Sc.val,At.val,arr8,arr32,arr64]⟩
theorem cb7:Ah Tryz.prog 7:=Av Tryz.func7 (by kernel_rfl) rfl
theorem cb8:Ah Tryz.prog 8:=Av Tryz.func8 (by kernel_rfl) rfl
theorem cb9:Ah Tryz.prog 9:=Av Tryz.func9 (by kernel_rfl) rfl
theorem Aw4:Ah Tryz.prog 10:=Av Tryz.func10 (by kernel_rfl) rfl
theorem Aw5:Ah Tryz.prog 11:=Av Tryz.func11 (by kernel_rfl) rfl
theorem Aw6:Ah Tryz.prog 12:=Av Tryz.func12 (by kernel_rfl) rfl
theorem Ut:Ah Tryz.prog 13:=Av Tryz.func13 (by kernel_rfl) rfl
theorem M2:Ah Tryz.prog 14:=Av Tryz.func14 (by kernel_rfl) rfl
theorem Aw7:Ah Tryz.prog 15:=Av Tryz.func15 (by kernel_rfl) rfl
theorem Aw8:Ah Tryz.prog 16:=Av Tryz.func16 (by kernel_rfl) rfl
theorem Aw9:Ah Tryz.prog 17:=Av Tryz.func17 (by kernel_rfl) rfl
theorem Zi:Ah Tryz.prog 18:=Av Tryz.func18 (by kernel_rfl) rfl
theorem Axa:Ah Tryz.prog 26:=Av Tryz.func26 (by kernel_rfl) rfl
theorem Zj:Ah Tryz.prog 27:=Av Tryz.func27 (by kernel_rfl) rfl
theorem Zk:Ah Tryz.prog 46:=Av Tryz.func46 (by kernel_rfl) rfl
theorem Axb:Ah Tryz.prog 47:=Av Tryz.func47 (by kernel_rfl) rfl
theorem Uu:Ah Tryz.prog 48:=Av Tryz.func48 (by kernel_rfl) rfl
theorem Uv:Ah Tryz.prog 49:=Av Tryz.func49 (by kernel_rfl) rfl
theorem Zl:Ah Tryz.prog 50:=Av Tryz.func50 (by kernel_rfl) rfl
theorem Axc:Ah Tryz.prog 51:=Av Tryz.func51 (by kernel_rfl) rfl
theorem Ew:Ah Tryz.prog 52:=Av Tryz.func52 (by kernel_rfl) rfl
theorem Uw:Ah Tryz.prog 53:=Av Tryz.func53 (by kernel_rfl) rfl
theorem Zm:Ah Tryz.prog 54:=Av Tryz.func54 (by kernel_rfl) rfl
theorem Gw:Ah Tryz.prog 55:=Av Tryz.func55 (by kernel_rfl) rfl
theorem Ux:Ah Tryz.prog 56:=Av Tryz.func56 (by kernel_rfl) rfl
theorem Qq:Ah Tryz.prog 57:=Av Tryz.func57 (by kernel_rfl) rfl
theorem Je:Ah Tryz.prog 58:=Av Tryz.func58 (by kernel_rfl) rfl
theorem Qr:Ah Tryz.prog 59:=Av Tryz.func59 (by kernel_rfl) rfl
theorem Qs:Ah Tryz.prog 60:=Av Tryz.func60 (by kernel_rfl) rfl
theorem Axd:Ah Tryz.prog 61:=Av Tryz.func61 (by kernel_rfl) rfl
theorem Axe:Ah Tryz.prog 62:=Av Tryz.func62 (by kernel_rfl) rfl
theorem Uy:Ah Tryz.prog 63:=Av Tryz.func63 (by kernel_rfl) rfl
theorem Axf:Ah Tryz.prog 64:=Av Tryz.func64 (by kernel_rfl) rfl
theorem Zn:Ah Tryz.prog 65:=Av Tryz.func65 (by kernel_rfl) rfl
theorem Axg:Ah Tryz.prog 66:=Av Tryz.func66 (by kernel_rfl) rfl
theorem Axh:Ah Tryz.prog 67:=Av Tryz.func67 (by kernel_rfl) rfl
theorem Axi:Ah Tryz.prog 68:=Av Tryz.func68 (by kernel_rfl) rfl
theorem Axj:Ah Tryz.prog 73:=Av Tryz.func73 (by kernel_rfl) rfl
theorem Zo:Ah Tryz.prog 74:=Av Tryz.func74 (by kernel_rfl) rfl
theorem Zp:Ah Tryz.prog 76:=Av Tryz.func76 (by kernel_rfl) rfl
theorem M3:Ah Tryz.prog 77:=Av Tryz.func77 (by kernel_rfl) rfl
theorem Axk:Ah Tryz.prog 84:=Av Tryz.func84 (by kernel_rfl) rfl
theorem Zq:Ah Tryz.prog 95:=Av Tryz.func95 (by kernel_rfl) rfl
theorem Axl:Ah Tryz.prog 102:=Av Tryz.func102 (by kernel_rfl) rfl
theorem Hq:Ah Tryz.prog 104:=Av Tryz.func104 (by kernel_rfl) rfl
theorem Axm:Ah Tryz.prog 105:=Av Tryz.func105 (by kernel_rfl) rfl
theorem Axn:Ah Tryz.prog 106:=Av Tryz.func106 (by kernel_rfl) rfl
theorem Axo:Ah Tryz.prog 107:=Av Tryz.func107 (by kernel_rfl) rfl
theorem Zr:Ah Tryz.prog 108:=Av Tryz.func108 (by kernel_rfl) rfl
theorem Zs:Ah Tryz.prog 109:=Av Tryz.func109 (by kernel_rfl) rfl
theorem Axp:Ah Tryz.prog 110:=Av Tryz.func110 (by kernel_rfl) rfl
theorem Axq:Ah Tryz.prog 111:=Av Tryz.func111 (by kernel_rfl) rfl
theorem Axr:Ah Tryz.prog 112:=Av Tryz.func112 (by kernel_rfl) rfl
theorem Axs:Ah Tryz.prog 113:=Av Tryz.func113 (by kernel_rfl) rfl
theorem Axt:Ah Tryz.prog 114:=Av Tryz.func114 (by kernel_rfl) rfl
theorem Uz:Ah Tryz.prog 115:=Av Tryz.func115 (by kernel_rfl) rfl
theorem M4:Ah Tryz.prog 116:=Av Tryz.func116 (by kernel_rfl) rfl
theorem Axu:Ah Tryz.prog 117:=Av Tryz.func117 (by kernel_rfl) rfl
theorem Axv:Ah Tryz.prog 118:=Av Tryz.func118 (by kernel_rfl) rfl
theorem Axw:Ah Tryz.prog 119:=Av Tryz.func119 (by kernel_rfl) rfl
theorem U0:Ah Tryz.prog 120:=Av Tryz.func120 (by kernel_rfl) rfl
theorem Zt:Ah Tryz.prog 121:=Av Tryz.func121 (by kernel_rfl) rfl
theorem Axx:Ah Tryz.prog 130:=Av Tryz.func130 (by kernel_rfl) rfl
theorem U1:Ah Tryz.prog 135:=Av Tryz.func135 (by kernel_rfl) rfl
theorem Axy:Ah Tryz.prog 136:=Av Tryz.func136 (by kernel_rfl) rfl
theorem Axz:Ah Tryz.prog 142:=Av Tryz.func142 (by kernel_rfl) rfl
theorem Ax0:Ah Tryz.prog 143:=Av Tryz.func143 (by kernel_rfl) rfl
theorem Ax1:Ah Tryz.prog 144:=Av Tryz.func144 (by kernel_rfl) rfl
theorem Ax2:Ah Tryz.prog 145:=Av Tryz.func145 (by kernel_rfl) rfl
theorem M5:Ah Tryz.prog 146:=Av Tryz.func146 (by kernel_rfl) rfl
theorem Ax3:Ah Tryz.prog 147:=Av Tryz.func147 (by kernel_rfl) rfl
theorem Ax4:Ah Tryz.prog 148:=Av Tryz.func148 (by kernel_rfl) rfl
theorem Ax5:Ah Tryz.prog 149:=Av Tryz.func149 (by kernel_rfl) rfl
theorem U2:Ah Tryz.prog 150:=Av Tryz.func150 (by kernel_rfl) rfl
theorem Ax6:Ah Tryz.prog 151:=Av Tryz.func151 (by kernel_rfl) rfl
theorem U3:Ah Tryz.prog 152:=Av Tryz.func152 (by kernel_rfl) rfl
theorem Ax7:Ah Tryz.prog 153:=Av Tryz.func153 (by kernel_rfl) rfl
theorem Ax8:Ah Tryz.prog 177:=Av Tryz.func177 (by kernel_rfl) rfl
attribute [push_cast] Aih Qp Pa I2 Cont.piece Ae4 Ae5 Ahh Ahi J3 eqB Pu J4 Pz Mq Cw putI Px Mo Ae6 W9 Ts bsA bsN Lp List.flatten_cons List.flatten_nil Lq Lr C1 Gc Mn Pw Cf C9 Lk Ll Ln mkS Pj Lo Pk mmS O7 Mi Aht Ahu Ahv Ahw Ahx Ahy Ahz Ah0 Ah1 Ah4 Ah5 Ah6 Ah2 Ah3 List.forall_mem_append Pv I3 Ld I0 Gp Hp Qk Lv Afa Ae8 Afb Afc Ae9 Aff Ae7 Afd Afe Afg Afh Afi Afj Afk Afl Afn Afm Ahg Ahf Ah8 Ah9 Aia Aib Aic Ev Fv Ie Hl dOk E0 op1 S.put Fr.put Fr.ev Fr.get ev1 ev2 ev3 S.bnd Sv.bnd Sc.bnd At.bnd Res.bnd Cont.bnd Cl Iz Cz D9 Mh Pg O8 O3 O4 O5 O6 shS ban unS Ml eqS Pf Ph O9 Pm Mj Pb Pc Pd Pe Hj Pn Po Pp Pq Ps Pi bsS parts J2 Hi Ia Ib Lf Pt Dv Dv.zero1 Dv.zeroN Mm Lm Gq D2 B7 Dj Ga Ft J0 At.scalar scalar At.one Value.oneCell' Sc.cont Cont.cut Cont.part Cont.app Cont.len Cont.plain Cont.get Cont.set Cont.over Cont.whole Un Uo Up Y9 Za Zb Ahn Aho Ahp Ahq Ahr Ahs Ahj Ahk Le Qj If Sv.ren Sc.ren At.ren Res.ren Cont.ren rn Fin Ho Qm evs Dh Gv Fq maxLen Int.toNat_natCast Int.toNat_zero Nat.zero_add Nat.add_zero Nat.mul_one List.length_cons List.length_nil List.length_append List.length_map List.length_set List.length_replicate List.cons_append List.nil_append List.append_nil List.map_append List.getElem?_cons_zero List.getElem?_cons_succ List.getElem?_nil List.set_cons_zero List.set_cons_succ List.getD_cons_zero List.getD_cons_succ List.take_succ_cons List.take_zero List.drop_zero List.drop_succ_cons List.map_cons List.map_nil List.forall_mem_cons List.not_mem_nil List.reverse_cons List.toList_toArray Option.isSome_some Option.isNone_some Option.isNone_none false_implies implies_true true_implies forall_const true_and and_true and_self not_false_eq_true not_true_eq_false ne_eq or_false false_or or_true true_or or_self Nat.lt_irrefl Nat.le_refl Bool.false_eq_true Bool.true_eq_false Bool.not_true Bool.not_false Bool.or_true Bool.or_false Bool.and_true Bool.and_false Bool.true_and Bool.false_and decide_true decide_false eq_self gt_iff_lt ge_iff_le if_true if_false Option.some.injEq Prod.mk.injEq Sv.x.injEq Sc.a.injEq At.v.injEq At.o.injEq At.p.injEq Res.blk.injEq Res.own.injEq Value.int.injEq Value.bool.injEq Cont.u8.injEq Cont.u32.injEq Cont.u64.injEq Cont.c.injEq Cont.i64.injEq List.cons.injEq Aig Aif Ki Us Zf Aid List.set_nil
attribute [push_cast] Tryz.underlying2 sz2 bz2 Aii zv2 Tryz.underlying3 sz3 bz3 Aij zv3 Tryz.underlying4 sz4 bz4 Aik zv4 Tryz.underlying5 sz5 bz5 Ail zv5 Tryz.underlying9 sz9 bz9 Aim zv9 Tryz.underlying12 Ain Aio Aip Aiq Tryz.underlying13 Air Ais Ait Aiu Aiv Aiw Tryz.underlying15 Aix Aiy Aiz Ai0 Tryz.underlying16 Ai1 Ai2 Ai3 Ai4 Tryz.underlying17 Ai5 Ai6 Ai7 Ai8 Tryz.underlying20 Ai9 Aja Ajb Ajc Tryz.underlying21 Ajd Aje Ajf Ajg Tryz.underlying22 Ajh Aji Ajj Ajk Tryz.underlying23 Ajl Ajm Ajn Ajo Tryz.underlying24 Ajp Ajq Ajr Ajs Ajt Aju Ajv Ajw Ajx Tryz.underlying25 Ajy Ajz Aj0 Aj1 Aj2 Aj3 Aj4 Aj5 Aj6 Tryz.underlying26 Aj7 Aj8 Aj9 Tryz.underlying27 Aka Akb Akc Akd Tryz.underlying30 Ake Akf Akg Akh Tryz.underlying31 Aki Akj Akk Akl Tryz.underlying32 Akm Akn Ako Akp Tryz.underlying35 Akq Akr Aks Akt Tryz.underlying36 Aku Akv Akw Akx Tryz.underlying37 Aky Akz Ak0 Ak1 Ak2 Ak3 Ak4 Ak5 Ak6 Tryz.underlying38 Ak7 Ak8 Ak9 Ala Alb Alc Ald Ale Alf Tryz.underlying40 Alg Alh Ali Alj Tryz.underlying41 Alk Alm Aln Alo Tryz.underlying42 Alp Alq Alr Als Alt Tryz.underlying43 Alu Alv Alw Alx Tryz.underlying44 Aly Alz Al0 Al1 Tryz.underlying45 Al2 Al3 Al4 Al5 Tryz.underlying46 Al6 Al7 Al8 Al9 Tryz.underlying47 Ama Amb Amc Amd Ame Amf Amg Amh Ami Amj Amk Aml Amm Amn Tryz.underlying48 Amo Amp Amq Amr Ams Amt Amu Amv Amw Amx Amy Amz Am0 Am1 Tryz.underlying50 Am2 Am3 Am4 Am5 Tryz.underlying51 Am6 Am7 Am8 Am9 Ana Anb Anc Ane Anf Ang Anh Ani Anj Ank Tryz.underlying52 Anl Anm Ann Ano Anp Anq Anr Ans Ant Anu Anv Anw Anx Any Tryz.underlying55 Anz An0 An1 An2 Tryz.underlying59 An3 An4 An5 An6 An7 Tryz.underlying60 An8 An9 Aoa Aob Aoc Tryz.underlying66 Aod Aoe Aof Aog Tryz.underlying78 Aoh Aoi Aoj Aok Tryz.underlying79 Aol Aom Aon Aoo Tryz.underlying82 Aop Aoq Aor Aos Tryz.underlying83 Aot Aou Aov Aow Tryz.underlying86 Aox Aoy Aoz Ao0 Ao1 Ao2 Ao3 Tryz.underlying87 Ao4 Ao5 Ao6 Ao7 Ao8 Ao9 Apa Tryz.underlying91 Apb Apc Apd Ape Tryz.underlying96 Apf Apg Aph Api Apj Apk Apl Tryz.underlying97 Apm Apn Apo App Apq Apr Aps Tryz.underlying98 Apt Apu Apv Apw Apx Apy Ap0 Ap1 Tryz.underlying100 Ap2 Ap3 Ap4 Ap5 Tryz.underlying101 Ap6 Ap7 Ap8 Ap9 Tryz.underlying102 Aqa Aqb Aqc Aqd Tryz.underlying103 Aqe Aqf Aqg Aqh Aqi Aqj Aqk Aql Aqm Aqn Aqo Aqp Aqq Aqr Aqs Aqt Aqu Aqv Tryz.underlying104 Aqw Aqx Aqy Aqz Aq0 Aq1 Aq2 Aq3 Aq4 Aq5 Aq6 Aq7 Aq8 Aq9 Ara Arb Arc Ard Tryz.underlying106 Arf Arg Arh Ari Arj Ark Arl Arm Tryz.underlying111 Arn Aro Arp Arq Tryz.underlying114 Arr Ars Art Aru Arv Arw Tryz.underlying115 Arx Ary Arz Ar0 Ar1 Ar2 Ar3 Tryz.underlying116 Ar4 Ar5 Ar6 Ar7 Tryz.underlying117 Ar8 Ar9 Asa Asb Tryz.underlying118 Asc Asd Ase Asf Tryz.underlying119 Asg Ash Asi Asj Asl Asm Asn Aso Asp Tryz.underlying120 Asq Asr Ass Ast Asu Asv Asw Asx Asy Tryz.underlying121 Asz As0 As1 As2 As3 As4 As5 Tryz.underlying122 As6 As7 As8 As9 Ata Atb Atc Tryz.underlying129 Atd Ate Atf Atg Tryz.underlying130 Ath Ati Atj Atk Tryz.underlying131 Atl Atm Atn Ato Atp Tryz.underlying147 Atq Atr Ats Att Tryz.underlying148 Atu Atv Atw Atx Aty Atz At0 At1 At2 At3 At4 At5 At6 Tryz.underlying149 At7 At8 At9 Aua Aub Auc Aud Aue Auf Aug Auh Aui Auj Tryz.underlying155 Auk Aul Aum Aun Tryz.underlying163 Auo Aup Auq Aur Aus Aut Auu Tryz.underlying169 Auv Auw Aux Auy Auz Au0 Au1 Au2 Au3 Au4 Tryz.underlying170 Au5 Au6 Au7 Au8 Au9 Ava Avb Avc Avd Ave Tryz.underlying175 Avf Avg Avh Avi Tryz.underlying200 Avj Avk Avl Avm Tryz.underlying217 Avn Avo Avp Avq Avr Tryz.underlying218 Avs Avt Avu Avv Tryz.underlying222 Avw Avx Avy Avz Tryz.underlying225 Av0 Av1 Av2 Av3 Tryz.underlying227 Av4 Av5 Av6 Av7 Tryz.underlying228 Av8 Av9 Awa Awb Tryz.underlying231 Awc Awd Awe Awf Tryz.underlying235 Awg Awh Awi Awj Tryz.underlying244 Awk Awl Awm Awn Tryz.underlying260 Awo Awp Awq Awr Tryz.underlying269 Aws Awt Awu Awv Tryz.underlying271 Aww Awx Awy Awz Tryz.underlying278 Aw0 Aw1 Aw2 Aw3
attribute [push_cast] Tryz.results3 Tryz.results4 Tryz.results5 Tryz.results6 Tryz.results7 Tryz.results8 Tryz.results9 Tryz.results10 Tryz.results11 Tryz.results12 Tryz.results13 Tryz.results14 Tryz.results15 Tryz.results16 Tryz.results17 Tryz.results18 Tryz.results19 Tryz.results20 Tryz.results21 Tryz.results22 Tryz.results23 Tryz.results24 Tryz.results25 Tryz.results26 Tryz.results27 Tryz.results28 Tryz.results29 Tryz.results30 Tryz.results31 Tryz.results32 Tryz.results33 Tryz.results34 Tryz.results35 Tryz.results36 Tryz.results37 Tryz.results38 Tryz.results39 Tryz.results40 Tryz.results41 Tryz.results42 Tryz.results43 Tryz.results44 Tryz.results45 Tryz.results46 Tryz.results47 Tryz.results48 Tryz.results49 Tryz.results50 Tryz.results51 Tryz.results52 Tryz.results53 Tryz.results54 Tryz.results55 Tryz.results56 Tryz.results57 Tryz.results58 Tryz.results59 Tryz.results60 Tryz.results61 Tryz.results62 Tryz.results63 Tryz.results64 Tryz.results65 Tryz.results66 Tryz.results67 Tryz.results68 Tryz.results69 Tryz.results70 Tryz.results71 Tryz.results72 Tryz.results73 Tryz.results74 Tryz.results75 Tryz.results76 Tryz.results77 Tryz.results78 Tryz.results79 Tryz.results81 Tryz.results82 Tryz.results84 Tryz.results85 Tryz.results87 Tryz.results88 Tryz.results89 Tryz.results90 Tryz.results91 Tryz.results92 Tryz.results93 Tryz.results94 Tryz.results95 Tryz.results96 Tryz.results97 Tryz.results98 Tryz.results99 Tryz.results100 Tryz.results101 Tryz.results102 Tryz.results104 Tryz.results105 Tryz.results106 Tryz.results107 Tryz.results108 Tryz.results109 Tryz.results110 Tryz.results111 Tryz.results112 Tryz.results113 Tryz.results114 Tryz.results115 Tryz.results116 Tryz.results117 Tryz.results118 Tryz.results119 Tryz.results120 Tryz.results121 Tryz.results122 Tryz.results123 Tryz.results124 Tryz.results125 Tryz.results126 Tryz.results128 Tryz.results130 Tryz.results131 Tryz.results132 Tryz.results134 Tryz.results135 Tryz.results136 Tryz.results137 Tryz.results142 Tryz.results143 Tryz.results144 Tryz.results145 Tryz.results146 Tryz.results147 Tryz.results148 Tryz.results149 Tryz.results150 Tryz.results151 Tryz.results152 Tryz.results153 Tryz.results154 Tryz.results155 Tryz.results156 Tryz.results157 Tryz.results158 Tryz.results159 Tryz.results160 Tryz.results161 Tryz.results162 Tryz.results163 Tryz.results164 Tryz.results165 Tryz.results166 Tryz.results167 Tryz.results168 Tryz.results169 Tryz.results170 Tryz.results171 Tryz.results172 Tryz.results173 Tryz.results177 Tryz.results178 Tryz.results179 Tryz.results181 Tryz.results182 Tryz.results183 Tryz.results184 Tryz.results185 Tryz.results186 Tryz.results187 Tryz.results188 Tryz.results189 Tryz.results190 Tryz.results191 Tryz.results193 Tryz.results194 Tryz.results195 Tryz.results196 Tryz.results197 Tryz.results198 Tryz.results199 Tryz.results200
end Go.Proofs.YtedaafmfjhjfmaaGreatDoor
