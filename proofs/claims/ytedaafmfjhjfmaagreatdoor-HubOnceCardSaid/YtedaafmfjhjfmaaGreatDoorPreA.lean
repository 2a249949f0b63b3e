import Derived.Test.YtedaafmfjhjfmaaGreatDoorEn3
import Derived.Test.YtedaafmfjhjfmaaGreatDoorProg
import Derived.Test.YtedaafmfjhjfmaaGreatDoorStr
import Derived.Test.YtedaafmfjhjfmaaGreatDoorBase
import Derived.LaidHandle
/- Facts on the types of the program, for the engine. Made by program. -/
namespace Go.Proofs.YtedaafmfjhjfmaaGreatDoor
open _root_.Go.Proofs.Tryz
set_option linter.unusedSimpArgs false
section
open Go.RowKit
theorem sz3:sz prog 3=1:=by kernel_rfl
theorem bz3:bz prog 3=8:=by kernel_rfl
theorem Akh:ZOk prog 3 (.c [.v (.int .i64 0)])=True:=eq_true ⟨.int .i64 0,by kernel_rfl,fun _=>rfl⟩
theorem zv3:L2 prog 3 (.a (.v (.int .i64 0)))=True:=eq_true ⟨.int .i64 0,by kernel_rfl,fun _=>rfl⟩
theorem sz4:sz prog 4=1:=by kernel_rfl
theorem sz5:sz prog 5=1:=by kernel_rfl
theorem Aki:sz prog 22=1:=by kernel_rfl
theorem Akj:sz prog 23=1:=by kernel_rfl
theorem Akk:sz prog 25=5:=by kernel_rfl
theorem Akl:Av prog 25 0=some (0,3):=by kernel_rfl
theorem Akm:Av prog 25 1=some (1,22):=by kernel_rfl
theorem Akn:Av prog 25 2=some (2,23):=by kernel_rfl
theorem Ako:Av prog 25 3=some (3,3):=by kernel_rfl
theorem Akp:Av prog 25 4=some (4,3):=by kernel_rfl
theorem Akq:sz prog 35=1:=by kernel_rfl
theorem Akr:sz prog 36=1:=by kernel_rfl
theorem Aks:sz prog 38=5:=by kernel_rfl
theorem Akt:Av prog 38 0=some (0,3):=by kernel_rfl
theorem Aku:Av prog 38 1=some (1,35):=by kernel_rfl
theorem Akv:Av prog 38 2=some (2,36):=by kernel_rfl
theorem Akw:Av prog 38 3=some (3,3):=by kernel_rfl
theorem Akx:Av prog 38 4=some (4,3):=by kernel_rfl
theorem Aky:ZOk prog 38 (.c [.v (.int .i64 0),.v (.slice none 0 0),.v (.slice none 0 0),.v (.int .i64 0),.v (.int .i64 0)])=True:=eq_true ⟨.agg #[.int .i64 0,.slice none 0 0,.slice none 0 0,.int .i64 0,.int .i64 0],by kernel_rfl,fun _=>rfl⟩
theorem Akz:sz prog 41=1:=by kernel_rfl
theorem Ak0:bz prog 41=8:=by kernel_rfl
theorem Ak1:ZOk prog 41 (.c [.v (.int .u64 0)])=True:=eq_true ⟨.int .u64 0,by kernel_rfl,fun _=>rfl⟩
theorem Ak2:sz prog 42=32:=by kernel_rfl
theorem Ak3:Qa prog 42 32 .u8=True:=eq_true ⟨5,underlying42,underlying5,by kernel_rfl,by kernel_rfl,by kernel_rfl⟩
theorem Ak4:ZOk prog 42 (.u8 (List.replicate 32 0))=True:=eq_true ⟨.agg (arr8 (List.replicate 32 0)),by kernel_rfl,fun _=>rfl⟩
theorem Ak5:sz prog 43=1:=by kernel_rfl
theorem Ak6:ZOk prog 43 (.c [.v (.slice none 0 0)])=True:=eq_true ⟨.slice none 0 0,by kernel_rfl,fun _=>rfl⟩
theorem Ak7:L2 prog 43 (.a (.v (.slice none 0 0)))=True:=eq_true ⟨.slice none 0 0,by kernel_rfl,fun _=>rfl⟩
theorem Ak8:sz prog 44=1:=by kernel_rfl
theorem Ak9:sz prog 45=1:=by kernel_rfl
theorem Ala:sz prog 46=1:=by kernel_rfl
theorem Alb:bz prog 46=24:=by kernel_rfl
theorem Alc:ZOk prog 46 (.c [.v (.slice none 0 0)])=True:=eq_true ⟨.slice none 0 0,by kernel_rfl,fun _=>rfl⟩
theorem Ald:sz prog 48=43:=by kernel_rfl
theorem Ale:Av prog 48 0=some (0,5):=by kernel_rfl
theorem Alf:Av prog 48 1=some (1,3):=by kernel_rfl
theorem Alg:Av prog 48 2=some (2,3):=by kernel_rfl
theorem Alh:Av prog 48 3=some (3,3):=by kernel_rfl
theorem Ali:Av prog 48 4=some (4,3):=by kernel_rfl
theorem Alj:Av prog 48 5=some (5,41):=by kernel_rfl
theorem Alk:Av prog 48 6=some (6,42):=by kernel_rfl
theorem Alm:Av prog 48 7=some (38,43):=by kernel_rfl
theorem Aln:Av prog 48 8=some (39,44):=by kernel_rfl
theorem Alo:Av prog 48 9=some (40,45):=by kernel_rfl
theorem Alp:Av prog 48 10=some (41,46):=by kernel_rfl
theorem Alq:Av prog 48 11=some (42,3):=by kernel_rfl
theorem Alr:sz prog 50=1:=by kernel_rfl
theorem Als:sz prog 52=43:=by kernel_rfl
theorem Alt:Av prog 52 0=some (0,5):=by kernel_rfl
theorem Alu:Av prog 52 1=some (1,3):=by kernel_rfl
theorem Alv:Av prog 52 2=some (2,3):=by kernel_rfl
theorem Alw:Av prog 52 3=some (3,3):=by kernel_rfl
theorem Alx:Av prog 52 4=some (4,3):=by kernel_rfl
theorem Aly:Av prog 52 5=some (5,41):=by kernel_rfl
theorem Alz:Av prog 52 6=some (6,42):=by kernel_rfl
theorem Al0:Av prog 52 7=some (38,43):=by kernel_rfl
theorem Al1:Av prog 52 8=some (39,44):=by kernel_rfl
theorem Al2:Av prog 52 9=some (40,50):=by kernel_rfl
theorem Al3:Av prog 52 10=some (41,46):=by kernel_rfl
theorem Al4:Av prog 52 11=some (42,3):=by kernel_rfl
theorem Al5:sz prog 60=45:=by kernel_rfl
theorem Al6:bz prog 60=200:=by kernel_rfl
theorem Al7:Av prog 60 1=some (1,3):=by kernel_rfl
theorem Al8:Av prog 60 2=some (2,48):=by kernel_rfl
theorem Al9:sz prog 66=1:=by kernel_rfl
theorem Ama:sz prog 83=44:=by kernel_rfl
theorem Amb:Av prog 83 0=some (0,52):=by kernel_rfl
theorem Amc:Av prog 83 1=some (43,3):=by kernel_rfl
theorem Amd:sz prog 87=3:=by kernel_rfl
theorem Ame:Av prog 87 0=some (0,3):=by kernel_rfl
theorem Amf:Av prog 87 1=some (1,43):=by kernel_rfl
theorem Amg:Av prog 87 2=some (2,3):=by kernel_rfl
theorem Amh:sz prog 96=3:=by kernel_rfl
theorem Ami:bz prog 96=40:=by kernel_rfl
theorem Amj:Av prog 96 0=some (0,3):=by kernel_rfl
theorem Amk:Av prog 96 1=some (1,43):=by kernel_rfl
theorem Aml:Av prog 96 2=some (2,3):=by kernel_rfl
theorem Amm:ZOk prog 96 (.c [.v (.int .i64 0),.v (.slice none 0 0),.v (.int .i64 0)])=True:=eq_true ⟨.agg #[.int .i64 0,.slice none 0 0,.int .i64 0],by kernel_rfl,fun _=>rfl⟩
theorem Amn:sz prog 98=3:=by kernel_rfl
theorem Amo:bz prog 98=24:=by kernel_rfl
theorem Amp:Av prog 98 0=some (0,3):=by kernel_rfl
theorem Amq:Av prog 98 1=some (1,3):=by kernel_rfl
theorem Amr:Av prog 98 2=some (2,3):=by kernel_rfl
theorem Ams:ZOk prog 98 (.c [.v (.int .i64 0),.v (.int .i64 0),.v (.int .i64 0)])=True:=eq_true ⟨.agg #[.int .i64 0,.int .i64 0,.int .i64 0],by kernel_rfl,fun _=>rfl⟩
theorem Amt:sz prog 102=1:=by kernel_rfl
theorem Amu:sz prog 106=3:=by kernel_rfl
theorem Amv:sz prog 111=1:=by kernel_rfl
theorem Amw:bz prog 111=4:=by kernel_rfl
theorem Amx:ZOk prog 111 (.c [.v (.int .u32 0)])=True:=eq_true ⟨.int .u32 0,by kernel_rfl,fun _=>rfl⟩
theorem Amy:sz prog 115=2:=by kernel_rfl
theorem Amz:bz prog 115=16:=by kernel_rfl
theorem Am0:Av prog 115 0=some (0,3):=by kernel_rfl
theorem Am1:Av prog 115 1=some (1,41):=by kernel_rfl
theorem Am2:ZOk prog 115 (.c [.v (.int .i64 0),.v (.int .u64 0)])=True:=eq_true ⟨.agg #[.int .i64 0,.int .u64 0],by kernel_rfl,fun _=>rfl⟩
theorem Am3:Yf prog 115 [.i64,.u64]=True:=eq_true ⟨by kernel_rfl,by kernel_rfl,by kernel_rfl,by kernel_rfl⟩
theorem Am4:sz prog 116=1:=by kernel_rfl
theorem Am5:sz prog 117=1:=by kernel_rfl
theorem Am6:sz prog 118=1:=by kernel_rfl
theorem Am7:Av prog 120 0=some (0,3):=by kernel_rfl
theorem Am8:Av prog 120 1=some (1,3):=by kernel_rfl
theorem Am9:Av prog 120 2=some (2,118):=by kernel_rfl
theorem Ana:Av prog 120 3=some (3,116):=by kernel_rfl
theorem Anb:Av prog 120 4=some (4,117):=by kernel_rfl
theorem Anc:ZOk prog 120 (.c [.v (.int .i64 0),.v (.int .i64 0),.v (.slice none 0 0),.v (.map none),.v (.map none)])=True:=eq_true ⟨.agg #[.int .i64 0,.int .i64 0,.slice none 0 0,.map none,.map none],by kernel_rfl,fun _=>rfl⟩
theorem Ane:sz prog 122=3:=by kernel_rfl
theorem Anf:bz prog 122=56:=by kernel_rfl
theorem Ang:Av prog 122 0=some (0,43):=by kernel_rfl
theorem Anh:Av prog 122 1=some (1,43):=by kernel_rfl
theorem Ani:Av prog 122 2=some (2,3):=by kernel_rfl
theorem Anj:ZOk prog 122 (.c [.v (.slice none 0 0),.v (.slice none 0 0),.v (.int .i64 0)])=True:=eq_true ⟨.agg #[.slice none 0 0,.slice none 0 0,.int .i64 0],by kernel_rfl,fun _=>rfl⟩
theorem Ank:sz prog 131=2:=by kernel_rfl
theorem Anl:bz prog 131=16:=by kernel_rfl
theorem Anm:ZOk prog 131 (.u64 (List.replicate 2 0))=True:=eq_true ⟨.agg (arr64 (List.replicate 2 0)),by kernel_rfl,fun _=>rfl⟩
theorem Ann:sz prog 147=1:=by kernel_rfl
theorem Ano:Av prog 149 0=some (0,3):=by kernel_rfl
theorem Anp:Av prog 149 1=some (1,3):=by kernel_rfl
theorem Anq:Av prog 149 2=some (2,3):=by kernel_rfl
theorem Anr:Av prog 149 3=some (3,43):=by kernel_rfl
theorem Ans:Av prog 149 4=some (4,43):=by kernel_rfl
theorem Ant:Av prog 149 5=some (5,147):=by kernel_rfl
theorem Anu:Av prog 149 6=some (6,102):=by kernel_rfl
theorem Anv:Av prog 149 7=some (7,66):=by kernel_rfl
theorem Anw:Av prog 149 8=some (8,3):=by kernel_rfl
theorem Anx:ZOk prog 149 (.c [.v (.int .i64 0),.v (.int .i64 0),.v (.int .i64 0),.v (.slice none 0 0),.v (.slice none 0 0),.v (.map none),.v (.pointer none),.v (.pointer none),.v (.int .i64 0)])=True:=eq_true ⟨.agg #[.int .i64 0,.int .i64 0,.int .i64 0,.slice none 0 0,.slice none 0 0,.map none,.pointer none,.pointer none,.int .i64 0],by kernel_rfl,fun _=>rfl⟩
theorem Any:sz prog 163=2:=by kernel_rfl
theorem Anz:Av prog 170 0=some (0,43):=by kernel_rfl
theorem An0:Av prog 170 1=some (1,43):=by kernel_rfl
theorem An1:Av prog 170 2=some (2,43):=by kernel_rfl
theorem An2:Av prog 170 3=some (3,3):=by kernel_rfl
theorem An3:Av prog 170 4=some (4,3):=by kernel_rfl
theorem An4:Av prog 170 5=some (5,3):=by kernel_rfl
theorem An5:Ac prog 16:=Aq func16 (by kernel_rfl) rfl
theorem Aaq:Ac prog 18:=Aq func18 (by kernel_rfl) rfl
theorem An6:Ac prog 21:=Aq func21 (by kernel_rfl) rfl
theorem An7:Ac prog 24:=Aq func24 (by kernel_rfl) rfl
theorem Ny:Ac prog 26:=Aq func26 (by kernel_rfl) rfl
theorem Nz:Ac prog 27:=Aq func27 (by kernel_rfl) rfl
theorem An8:Ac prog 28:=Aq func28 (by kernel_rfl) rfl
theorem An9:Ac prog 30:=Aq func30 (by kernel_rfl) rfl
theorem Aar:Ac prog 31:=Aq func31 (by kernel_rfl) rfl
theorem Aoa:Ac prog 34:=Aq func34 (by kernel_rfl) rfl
theorem Rf:Ac prog 35:=Aq func35 (by kernel_rfl) rfl
theorem Rg:Ac prog 36:=Aq func36 (by kernel_rfl) rfl
theorem Aob:Ac prog 37:=Aq func37 (by kernel_rfl) rfl
theorem Aoc:Ac prog 38:=Aq func38 (by kernel_rfl) rfl
theorem Aas:Ac prog 39:=Aq func39 (by kernel_rfl) rfl
theorem Aod:Ac prog 40:=Aq func40 (by kernel_rfl) rfl
theorem Va:Ac prog 41:=Aq func41 (by kernel_rfl) rfl
theorem Vb:Ac prog 42:=Aq func42 (by kernel_rfl) rfl
theorem Aoe:Ac prog 43:=Aq func43 (by kernel_rfl) rfl
theorem Aat:Ac prog 44:=Aq func44 (by kernel_rfl) rfl
theorem Aau:Ac prog 45:=Aq func45 (by kernel_rfl) rfl
theorem Rh:Ac prog 49:=Aq func49 (by kernel_rfl) rfl
theorem Vc:Ac prog 50:=Aq func50 (by kernel_rfl) rfl
theorem Vd:Ac prog 51:=Aq func51 (by kernel_rfl) rfl
theorem Ve:Ac prog 52:=Aq func52 (by kernel_rfl) rfl
theorem Aav:Ac prog 55:=Aq func55 (by kernel_rfl) rfl
theorem Vf:Ac prog 58:=Aq func58 (by kernel_rfl) rfl
theorem Aof:Ac prog 59:=Aq func59 (by kernel_rfl) rfl
theorem Kw:Ac prog 62:=Aq func62 (by kernel_rfl) rfl
theorem Aog:Ac prog 64:=Aq func64 (by kernel_rfl) rfl
theorem Aoh:Ac prog 65:=Aq func65 (by kernel_rfl) rfl
theorem Aoi:Ac prog 66:=Aq func66 (by kernel_rfl) rfl
theorem Aoj:Ac prog 67:=Aq func67 (by kernel_rfl) rfl
theorem Aok:Ac prog 68:=Aq func68 (by kernel_rfl) rfl
theorem Aol:Ac prog 71:=Aq func71 (by kernel_rfl) rfl
theorem Aaw:Ac prog 72:=Aq func72 (by kernel_rfl) rfl
theorem Aom:Ac prog 73:=Aq func73 (by kernel_rfl) rfl
theorem Aon:Ac prog 74:=Aq func74 (by kernel_rfl) rfl
theorem Vg:Ac prog 76:=Aq func76 (by kernel_rfl) rfl
theorem Kx:Ac prog 77:=Aq func77 (by kernel_rfl) rfl
theorem Aoo:Ac prog 78:=Aq func78 (by kernel_rfl) rfl
theorem Aop:Ac prog 81:=Aq func81 (by kernel_rfl) rfl
theorem Aoq:Ac prog 84:=Aq func84 (by kernel_rfl) rfl
theorem Aax:Ac prog 90:=Aq func90 (by kernel_rfl) rfl
theorem Aor:Ac prog 91:=Aq func91 (by kernel_rfl) rfl
theorem Vh:Ac prog 92:=Aq func92 (by kernel_rfl) rfl
theorem Aay:Ac prog 93:=Aq func93 (by kernel_rfl) rfl
theorem Aos:Ac prog 94:=Aq func94 (by kernel_rfl) rfl
theorem Aot:Ac prog 95:=Aq func95 (by kernel_rfl) rfl
theorem Aaz:Ac prog 96:=Aq func96 (by kernel_rfl) rfl
theorem N2:Ac prog 97:=Aq func97 (by kernel_rfl) rfl
theorem Aou:Ac prog 98:=Aq func98 (by kernel_rfl) rfl
theorem Aov:Ac prog 99:=Aq func99 (by kernel_rfl) rfl
theorem Vi:Ac prog 100:=Aq func100 (by kernel_rfl) rfl
theorem Aa0:Ac prog 101:=Aq func101 (by kernel_rfl) rfl
theorem Hv:Ac prog 104:=Aq func104 (by kernel_rfl) rfl
theorem Aow:Ac prog 105:=Aq func105 (by kernel_rfl) rfl
theorem Aox:Ac prog 106:=Aq func106 (by kernel_rfl) rfl
theorem Aoy:Ac prog 107:=Aq func107 (by kernel_rfl) rfl
theorem Vj:Ac prog 108:=Aq func108 (by kernel_rfl) rfl
theorem Aa1:Ac prog 109:=Aq func109 (by kernel_rfl) rfl
theorem Aoz:Ac prog 110:=Aq func110 (by kernel_rfl) rfl
theorem Ao0:Ac prog 111:=Aq func111 (by kernel_rfl) rfl
theorem Ao1:Ac prog 112:=Aq func112 (by kernel_rfl) rfl
theorem Ao2:Ac prog 113:=Aq func113 (by kernel_rfl) rfl
theorem Ao3:Ac prog 114:=Aq func114 (by kernel_rfl) rfl
theorem Ao4:Ac prog 115:=Aq func115 (by kernel_rfl) rfl
theorem Md:Ac prog 116:=Aq func116 (by kernel_rfl) rfl
theorem Vk:Ac prog 120:=Aq func120 (by kernel_rfl) rfl
theorem Aa2:Ac prog 121:=Aq func121 (by kernel_rfl) rfl
theorem Aa3:Ac prog 122:=Aq func122 (by kernel_rfl) rfl
theorem Vl:Ac prog 123:=Aq func123 (by kernel_rfl) rfl
theorem Aa4:Ac prog 124:=Aq func124 (by kernel_rfl) rfl
theorem Ao5:Ac prog 130:=Aq func130 (by kernel_rfl) rfl
theorem Vm:Ac prog 135:=Aq func135 (by kernel_rfl) rfl
theorem Aa5:Ac prog 136:=Aq func136 (by kernel_rfl) rfl
theorem Aa6:Ac prog 137:=Aq func137 (by kernel_rfl) rfl
theorem Ao6:Ac prog 142:=Aq func142 (by kernel_rfl) rfl
theorem Ao7:Ac prog 143:=Aq func143 (by kernel_rfl) rfl
theorem Ao8:Ac prog 144:=Aq func144 (by kernel_rfl) rfl
theorem Ao9:Ac prog 145:=Aq func145 (by kernel_rfl) rfl
theorem N3:Ac prog 146:=Aq func146 (by kernel_rfl) rfl
theorem Apa:Ac prog 147:=Aq func147 (by kernel_rfl) rfl
theorem Apb:Ac prog 148:=Aq func148 (by kernel_rfl) rfl
theorem Apc:Ac prog 149:=Aq func149 (by kernel_rfl) rfl
theorem Apd:Ac prog 177:=Aq func177 (by kernel_rfl) rfl
attribute [push_cast] Akg Re P5 Kc Cont.piece Ahg Ajr Ajs Kd eqB Qo Ke Qr Nh Co C3 Nf Ng Yh Uc bsA bsN L0 List.flatten_cons List.flatten_nil Il L1 Cl F4 Nd Qq Ch De Lv Lw Ly mkS Qf Lz Qg mmS P2 M9 Aj4 Aj5 Aj6 Aj7 Aj8 Aj9 Aka List.forall_mem_append Qp Jg Lq Jf G0 Ht Ra L6 Ahk Ahi Ahl Ahm Ahj Ahp Ahh Ahn Aho Ahq Ahr Ahs Aht Ahu Ahv Ahx Ahw Ajq Ajp Jm F6 Im Ho dOk Ff op1 S.put Fr.put Fr.ev Fr.get ev1 ev2 ev3 S.bnd Sv.bnd Sc.bnd At.bnd Res.bnd Cont.bnd Ci Je C1 D7 M8 Qc P3 Pw Px Py Pz shS ban unS Nb eqS Qb Qd P4 Qh Na P6 P7 P8 P9 Hm Qi Qj Qk Ql Qm Qe bsS parts Kb Hl Ij Ik Lr Qn Du Du.zero1 Du.zeroN Nc Lx G6 Dy Cb Dk Gg Fz Ka At.scalar scalar At.one Value.oneCell' Sc.cont Cont.cut Cont.part Cont.app Cont.len Cont.plain Cont.get Cont.set Cont.over Cont.whole U5 U6 U7 Aah Aai Aaj Ajy Ajz Aj0 Aj1 Aj2 Aj3 Aju Ajv Le Q9 Ir Sv.ren Sc.ren At.ren Res.ren Cont.ren rn Fin Hr Rc evs Dm Hb Fy maxLen Int.toNat_natCast Int.toNat_zero Nat.zero_add Nat.add_zero Nat.mul_one List.length_cons List.length_nil List.length_append List.length_map List.length_set List.length_replicate List.cons_append List.nil_append List.append_nil List.map_append List.getElem?_cons_zero List.getElem?_cons_succ List.getElem?_nil List.set_cons_zero List.set_cons_succ List.getD_cons_zero List.getD_cons_succ List.take_succ_cons List.take_zero List.drop_zero List.drop_succ_cons List.map_cons List.map_nil List.forall_mem_cons List.not_mem_nil List.reverse_cons List.toList_toArray Option.isSome_some Option.isNone_some Option.isNone_none false_implies implies_true true_implies forall_const true_and and_true and_self not_false_eq_true not_true_eq_false ne_eq or_false false_or or_true true_or or_self Nat.lt_irrefl Nat.le_refl Bool.false_eq_true Bool.true_eq_false Bool.not_true Bool.not_false Bool.or_true Bool.or_false Bool.and_true Bool.and_false Bool.true_and Bool.false_and decide_true decide_false eq_self gt_iff_lt ge_iff_le if_true if_false Option.some.injEq Prod.mk.injEq Sv.x.injEq Sc.a.injEq At.v.injEq At.o.injEq At.p.injEq Res.blk.injEq Res.own.injEq Value.int.injEq Value.bool.injEq Cont.u8.injEq Cont.u32.injEq Cont.u64.injEq Cont.c.injEq Cont.i64.injEq List.cons.injEq Akd Akc Kv Rd Aao Akb List.set_nil
attribute [push_cast] underlying2 underlying3 sz3 bz3 Akh zv3 underlying4 sz4 underlying5 sz5 underlying9 underlying12 underlying13 underlying15 underlying16 underlying17 underlying20 underlying21 underlying22 Aki underlying23 Akj underlying24 underlying25 Akk Akl Akm Akn Ako Akp underlying26 underlying27 underlying30 underlying31 underlying32 underlying35 Akq underlying36 Akr underlying37 underlying38 Aks Akt Aku Akv Akw Akx Aky underlying40 underlying41 Akz Ak0 Ak1 underlying42 Ak2 Ak3 Ak4 underlying43 Ak5 Ak6 Ak7 underlying44 Ak8 underlying45 Ak9 underlying46 Ala Alb Alc underlying47 underlying48 Ald Ale Alf Alg Alh Ali Alj Alk Alm Aln Alo Alp Alq underlying50 Alr underlying51 underlying52 Als Alt Alu Alv Alw Alx Aly Alz Al0 Al1 Al2 Al3 Al4 underlying55 underlying59 underlying60 Al5 Al6 Al7 Al8 underlying66 Al9 underlying78 underlying79 underlying82 underlying83 Ama Amb Amc underlying86 underlying87 Amd Ame Amf Amg underlying91 underlying96 Amh Ami Amj Amk Aml Amm underlying97 underlying98 Amn Amo Amp Amq Amr Ams underlying100 underlying101 underlying102 Amt underlying103 underlying104 underlying106 Amu underlying111 Amv Amw Amx underlying114 underlying115 Amy Amz Am0 Am1 Am2 Am3 underlying116 Am4 underlying117 Am5 underlying118 Am6 underlying120 Am7 Am8 Am9 Ana Anb Anc underlying121 underlying122 Ane Anf Ang Anh Ani Anj underlying129 underlying130 underlying131 Ank Anl Anm underlying147 Ann underlying148 underlying149 Ano Anp Anq Anr Ans Ant Anu Anv Anw Anx underlying155 underlying163 Any underlying169 underlying170 Anz An0 An1 An2 An3 An4 underlying175 underlying217 underlying225
attribute [push_cast] results6 results16 results18 results21 results24 results26 results27 results28 results30 results31 results34 results35 results36 results37 results38 results39 results40 results41 results42 results43 results44 results45 results49 results50 results51 results52 results55 results58 results59 results62 results64 results65 results66 results67 results68 results71 results72 results73 results74 results76 results77 results79 results82 results84 results90 results91 results92 results93 results94 results95 results96 results97 results98 results99 results100 results101 results104 results105 results106 results107 results108 results109 results110 results111 results112 results113 results114 results115 results116 results120 results121 results122 results123 results124 results130 results132 results135 results136 results137 results142 results143 results144 results145 results146 results147 results148 results149 results177
end
section
open Go.RowKit Go.Extern.Stop Go.Stop Go.Extern
def Handle (w:World):Prop:=w.cell? ⟨0,0,none⟩=some (.iface 217 (.agg #[.pointer (some ⟨1,32,none⟩)]))
theorem Handle.below {w w':World} {B:Nat} (h:Handle w) (hb:Below B w w') (hB:w.heap.size≤B):Handle w':=by
 have hlt:0 < w.heap.size:=block_lt_of_cell h
 exact (hb.cell (p:=⟨0,0,none⟩) (Nat.lt_of_lt_of_le hlt hB)).trans h
theorem Aa7 {w0:World} {hp:List Res} {γ:List Nm} {w:World} (h:Handle w0) (hS:Sat w0 No γ hp w):Handle w:=h.below (Hu hS.keeps) (Nat.le_refl _)
def erV (n:Int):Value:=if n=0 then .nilIface else .iface 91 (.int .i64 n)
end
section
open Go.ChangeShapes Go.WideShapes Go.ChangeAt Go.RowKit
abbrev N4:List (String×DataW Unit):=[("errors.errorType",Rows.laid_errors_errorType)]
theorem Ape:prog.globalNamed "errors.errorType"=some 0:=by kernel_rfl
theorem Apf:(prog.cutTypes.find? (·.1=="internal/reflectlite.rtype")).map (·.2)=some 217:=by kernel_rfl
theorem Apg:((List.range prog.types.size).filter fun t=>prog.rowNamed t [101,114,114,111,114])=[32]:=by kernel_rfl
theorem Aph:typeHandle prog 32=.pointer (some ⟨1,32,none⟩):=by kernel_rfl
theorem Api {W:World} (h:laidMetH prog N4 W):Handle W:=by
 have h':laidMet prog [] W∧handlesMet prog [("errors.errorType",Rows.laid_errors_errorType)] W:=h
 obtain⟨name,u,ty,e1,e2,e3,e4,e5⟩:=h'.2 _ (List.mem_singleton.2 rfl)
 have en:name=[101,114,114,111,114]:=(Option.some.inj e1).symm
 subst en
 obtain rfl:=Option.some.inj (Apf.symm.trans e2)
 have hm:ty∈(List.range prog.types.size).filter fun t=>prog.rowNamed t [101,114,114,111,114]:=List.mem_filter.2 ⟨List.mem_range.2 e3,e4⟩
 rw[Apg] at hm
 obtain rfl:=List.mem_singleton.1 hm
 rw[Aph] at e5
 unfold Handle
 simpa using World.var?_cell Ape e5 0
noncomputable def worldHA (os:Os):World:=
 let w0:=World.laidAll prog os []
 {w0 with heap:=w0.heap.modify 0 fun
   | .cells _ t frozen=>.cells #[.iface 217 (.agg #[.pointer (some ⟨1,32,none⟩)])] t frozen
   |o=>o}
theorem Apj (os:Os) (args:Array Value):laidMetH prog N4 ((worldHA os).forCall (fun _ _=>0) ⟨#[],args,[]⟩).memory:=
 laidMetH_of_parts (laidMet_of_run' 8 (by kernel_rfl) (by kernel_rfl)) (by kernel_rfl)
end
end Go.Proofs.YtedaafmfjhjfmaaGreatDoor
