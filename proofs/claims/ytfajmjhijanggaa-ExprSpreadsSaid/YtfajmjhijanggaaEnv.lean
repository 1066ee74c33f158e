import Derived.Test.YtfajmjhijanggaaProg
import Derived.Test.YtfajmjhijanggaaDcXc
import Derived.KernelRfl
set_option linter.unusedVariables false
set_option linter.unusedSimpArgs false
namespace Go.Dc.Ke
open Go.Proofs
set_option maxRecDepth 100000
noncomputable def tl:List (Nat × TI):=[
 (3,{ kd:=Kd.int IntKind.i64,size:=1,bytes:=8,zv:=AV.int IntKind.i64 0,eqs:=false }),
 (4,{ kd:=Kd.bool,size:=1,bytes:=1,zv:=AV.bool false,eqs:=false }),
 (9,{ kd:=Kd.str,size:=1,bytes:=16,zv:=AV.str [],eqs:=false }),
 (5,{ kd:=Kd.int IntKind.u8,size:=1,bytes:=1,zv:=AV.int IntKind.u8 0,eqs:=false }),
 (22,{ kd:=Kd.func,size:=1,bytes:=8,zv:=AV.nilf,eqs:=false }),
 (0,{ kd:=Kd.other,size:=1,bytes:=0,zv:=AV.tup [],eqs:=false }),
 (1,{ kd:=Kd.func,size:=1,bytes:=8,zv:=AV.nilf,eqs:=false }),
 (2,{ kd:=Kd.int IntKind.i64,size:=1,bytes:=8,zv:=AV.int IntKind.i64 0,eqs:=false }),
 (6,{ kd:=Kd.int IntKind.u8,size:=1,bytes:=1,zv:=AV.int IntKind.u8 0,eqs:=false }),
 (7,{ kd:=Kd.struct [(2,0,1),(3,1,1),(4,2,1),(6,3,1)],size:=4,bytes:=24,zv:=AV.agg [AV.int IntKind.i64 0,AV.int IntKind.i64 0,AV.bool false,AV.int IntKind.u8 0],eqs:=true }),
 (8,{ kd:=Kd.struct [(2,0,1),(3,1,1),(4,2,1),(6,3,1)],size:=4,bytes:=24,zv:=AV.agg [AV.int IntKind.i64 0,AV.int IntKind.i64 0,AV.bool false,AV.int IntKind.u8 0],eqs:=true }),
 (10,{ kd:=Kd.str,size:=1,bytes:=16,zv:=AV.str [],eqs:=false }),
 (11,{ kd:=Kd.str,size:=1,bytes:=16,zv:=AV.str [],eqs:=false }),
 (12,{ kd:=Kd.int IntKind.u64,size:=1,bytes:=8,zv:=AV.int IntKind.u64 0,eqs:=false }),
 (13,{ kd:=Kd.struct [(9,0,1),(12,1,1)],size:=2,bytes:=24,zv:=AV.agg [AV.str [],AV.int IntKind.u64 0],eqs:=false }),
 (14,{ kd:=Kd.struct [(9,0,1),(12,1,1)],size:=2,bytes:=24,zv:=AV.agg [AV.str [],AV.int IntKind.u64 0],eqs:=false }),
 (15,{ kd:=Kd.ptr 100,size:=1,bytes:=8,zv:=AV.nilp,eqs:=false }),
 (16,{ kd:=Kd.ptr 103,size:=1,bytes:=8,zv:=AV.nilp,eqs:=false }),
 (17,{ kd:=Kd.ptr 112,size:=1,bytes:=8,zv:=AV.nilp,eqs:=false }),
 (18,{ kd:=Kd.struct [(17,0,1)],size:=1,bytes:=8,zv:=AV.agg [AV.nilp],eqs:=false }),
 (19,{ kd:=Kd.struct [(17,0,1)],size:=1,bytes:=8,zv:=AV.agg [AV.nilp],eqs:=false }),
 (20,{ kd:=Kd.iface,size:=1,bytes:=16,zv:=AV.nili,eqs:=false }),
 (21,{ kd:=Kd.int IntKind.i32,size:=1,bytes:=4,zv:=AV.int IntKind.i32 0,eqs:=false }),
 (23,{ kd:=Kd.slice 25,size:=1,bytes:=24,zv:=AV.nils,eqs:=false }),
 (24,{ kd:=Kd.struct [(3,0,1),(9,1,1),(23,2,1)],size:=3,bytes:=48,zv:=AV.agg [AV.int IntKind.i64 0,AV.str [],AV.nils],eqs:=true }),
 (25,{ kd:=Kd.struct [(3,0,1),(9,1,1),(23,2,1)],size:=3,bytes:=48,zv:=AV.agg [AV.int IntKind.i64 0,AV.str [],AV.nils],eqs:=true }),
 (26,{ kd:=Kd.int IntKind.i64,size:=1,bytes:=8,zv:=AV.int IntKind.i64 0,eqs:=false }),
 (28,{ kd:=Kd.func,size:=1,bytes:=8,zv:=AV.nilf,eqs:=false }),
 (29,{ kd:=Kd.ptr 35,size:=1,bytes:=8,zv:=AV.nilp,eqs:=false }),
 (31,{ kd:=Kd.func,size:=1,bytes:=8,zv:=AV.nilf,eqs:=false }),
 (32,{ kd:=Kd.func,size:=1,bytes:=8,zv:=AV.nilf,eqs:=false }),
 (33,{ kd:=Kd.slice 62,size:=1,bytes:=24,zv:=AV.nils,eqs:=false }),
 (34,{ kd:=Kd.struct [(33,0,1),(3,1,1)],size:=2,bytes:=32,zv:=AV.agg [AV.nils,AV.int IntKind.i64 0],eqs:=true }),
 (35,{ kd:=Kd.struct [(33,0,1),(3,1,1)],size:=2,bytes:=32,zv:=AV.agg [AV.nils,AV.int IntKind.i64 0],eqs:=true }),
 (36,{ kd:=Kd.func,size:=1,bytes:=8,zv:=AV.nilf,eqs:=false }),
 (37,{ kd:=Kd.func,size:=1,bytes:=8,zv:=AV.nilf,eqs:=false }),
 (38,{ kd:=Kd.func,size:=1,bytes:=8,zv:=AV.nilf,eqs:=false }),
 (39,{ kd:=Kd.func,size:=1,bytes:=8,zv:=AV.nilf,eqs:=false }),
 (40,{ kd:=Kd.func,size:=1,bytes:=8,zv:=AV.nilf,eqs:=false }),
 (41,{ kd:=Kd.func,size:=1,bytes:=8,zv:=AV.nilf,eqs:=false }),
 (42,{ kd:=Kd.func,size:=1,bytes:=8,zv:=AV.nilf,eqs:=false }),
 (43,{ kd:=Kd.func,size:=1,bytes:=8,zv:=AV.nilf,eqs:=false }),
 (44,{ kd:=Kd.func,size:=1,bytes:=8,zv:=AV.nilf,eqs:=false }),
 (46,{ kd:=Kd.func,size:=1,bytes:=8,zv:=AV.nilf,eqs:=false }),
 (47,{ kd:=Kd.struct [(3,0,1),(26,1,1)],size:=2,bytes:=16,zv:=AV.agg [AV.int IntKind.i64 0,AV.int IntKind.i64 0],eqs:=true }),
 (48,{ kd:=Kd.struct [(3,0,1),(26,1,1)],size:=2,bytes:=16,zv:=AV.agg [AV.int IntKind.i64 0,AV.int IntKind.i64 0],eqs:=true }),
 (50,{ kd:=Kd.ptr 52,size:=1,bytes:=8,zv:=AV.nilp,eqs:=false }),
 (51,{ kd:=Kd.struct [(9,0,1),(3,1,1),(3,2,1)],size:=3,bytes:=32,zv:=AV.agg [AV.str [],AV.int IntKind.i64 0,AV.int IntKind.i64 0],eqs:=true }),
 (52,{ kd:=Kd.struct [(9,0,1),(3,1,1),(3,2,1)],size:=3,bytes:=32,zv:=AV.agg [AV.str [],AV.int IntKind.i64 0,AV.int IntKind.i64 0],eqs:=true }),
 (53,{ kd:=Kd.func,size:=1,bytes:=8,zv:=AV.nilf,eqs:=false }),
 (54,{ kd:=Kd.func,size:=1,bytes:=8,zv:=AV.nilf,eqs:=false }),
 (55,{ kd:=Kd.ptr 57,size:=1,bytes:=8,zv:=AV.nilp,eqs:=false }),
 (56,{ kd:=Kd.struct [(9,0,1),(3,1,1),(3,2,1),(3,3,1),(3,4,1)],size:=5,bytes:=48,zv:=AV.agg [AV.str [],AV.int IntKind.i64 0,AV.int IntKind.i64 0,AV.int IntKind.i64 0,AV.int IntKind.i64 0],eqs:=true }),
 (57,{ kd:=Kd.struct [(9,0,1),(3,1,1),(3,2,1),(3,3,1),(3,4,1)],size:=5,bytes:=48,zv:=AV.agg [AV.str [],AV.int IntKind.i64 0,AV.int IntKind.i64 0,AV.int IntKind.i64 0,AV.int IntKind.i64 0],eqs:=true }),
 (58,{ kd:=Kd.func,size:=1,bytes:=8,zv:=AV.nilf,eqs:=false }),
 (59,{ kd:=Kd.func,size:=1,bytes:=8,zv:=AV.nilf,eqs:=false }),
 (60,{ kd:=Kd.slice 3,size:=1,bytes:=24,zv:=AV.nils,eqs:=false }),
 (61,{ kd:=Kd.struct [(3,0,1),(9,1,1),(60,2,1)],size:=3,bytes:=48,zv:=AV.agg [AV.int IntKind.i64 0,AV.str [],AV.nils],eqs:=true }),
 (62,{ kd:=Kd.struct [(3,0,1),(9,1,1),(60,2,1)],size:=3,bytes:=48,zv:=AV.agg [AV.int IntKind.i64 0,AV.str [],AV.nils],eqs:=true }),
 (63,{ kd:=Kd.func,size:=1,bytes:=8,zv:=AV.nilf,eqs:=false }),
 (64,{ kd:=Kd.func,size:=1,bytes:=8,zv:=AV.nilf,eqs:=false }),
 (65,{ kd:=Kd.slice 60,size:=1,bytes:=24,zv:=AV.nils,eqs:=false }),
 (66,{ kd:=Kd.func,size:=1,bytes:=8,zv:=AV.nilf,eqs:=false }),
 (67,{ kd:=Kd.func,size:=1,bytes:=8,zv:=AV.nilf,eqs:=false }),
 (68,{ kd:=Kd.slice 4,size:=1,bytes:=24,zv:=AV.nils,eqs:=false }),
 (69,{ kd:=Kd.func,size:=1,bytes:=8,zv:=AV.nilf,eqs:=false }),
 (70,{ kd:=Kd.func,size:=1,bytes:=8,zv:=AV.nilf,eqs:=false }),
 (71,{ kd:=Kd.func,size:=1,bytes:=8,zv:=AV.nilf,eqs:=false }),
 (72,{ kd:=Kd.func,size:=1,bytes:=8,zv:=AV.nilf,eqs:=false }),
 (73,{ kd:=Kd.func,size:=1,bytes:=8,zv:=AV.nilf,eqs:=false }),
 (74,{ kd:=Kd.slice 9,size:=1,bytes:=24,zv:=AV.nils,eqs:=false }),
 (75,{ kd:=Kd.func,size:=1,bytes:=8,zv:=AV.nilf,eqs:=false }),
 (76,{ kd:=Kd.func,size:=1,bytes:=8,zv:=AV.nilf,eqs:=false }),
 (77,{ kd:=Kd.func,size:=1,bytes:=8,zv:=AV.nilf,eqs:=false }),
 (78,{ kd:=Kd.func,size:=1,bytes:=8,zv:=AV.nilf,eqs:=false }),
 (79,{ kd:=Kd.func,size:=1,bytes:=8,zv:=AV.nilf,eqs:=false }),
 (80,{ kd:=Kd.func,size:=1,bytes:=8,zv:=AV.nilf,eqs:=false }),
 (81,{ kd:=Kd.func,size:=1,bytes:=8,zv:=AV.nilf,eqs:=false }),
 (82,{ kd:=Kd.ptr 85,size:=1,bytes:=8,zv:=AV.nilp,eqs:=false }),
 (83,{ kd:=Kd.slice 5,size:=1,bytes:=24,zv:=AV.nils,eqs:=false }),
 (84,{ kd:=Kd.struct [(82,0,1),(83,1,1)],size:=2,bytes:=32,zv:=AV.agg [AV.nilp,AV.nils],eqs:=true }),
 (85,{ kd:=Kd.struct [(82,0,1),(83,1,1)],size:=2,bytes:=32,zv:=AV.agg [AV.nilp,AV.nils],eqs:=true }),
 (86,{ kd:=Kd.func,size:=1,bytes:=8,zv:=AV.nilf,eqs:=false }),
 (87,{ kd:=Kd.iface,size:=1,bytes:=16,zv:=AV.nili,eqs:=false }),
 (88,{ kd:=Kd.iface,size:=1,bytes:=16,zv:=AV.nili,eqs:=false }),
 (90,{ kd:=Kd.func,size:=1,bytes:=8,zv:=AV.nilf,eqs:=false }),
 (91,{ kd:=Kd.func,size:=1,bytes:=8,zv:=AV.nilf,eqs:=false }),
 (92,{ kd:=Kd.func,size:=1,bytes:=8,zv:=AV.nilf,eqs:=false }),
 (93,{ kd:=Kd.ptr 5,size:=1,bytes:=8,zv:=AV.nilp,eqs:=false }),
 (94,{ kd:=Kd.func,size:=1,bytes:=8,zv:=AV.nilf,eqs:=false }),
 (95,{ kd:=Kd.other,size:=1,bytes:=8,zv:=AV.nilp,eqs:=false }),
 (96,{ kd:=Kd.func,size:=1,bytes:=8,zv:=AV.nilf,eqs:=false }),
 (97,{ kd:=Kd.func,size:=1,bytes:=8,zv:=AV.nilf,eqs:=false }),
 (98,{ kd:=Kd.func,size:=1,bytes:=8,zv:=AV.nilf,eqs:=false }),
 (99,{ kd:=Kd.struct [(17,0,1),(17,1,1),(17,2,1),(9,3,1)],size:=4,bytes:=40,zv:=AV.agg [AV.nilp,AV.nilp,AV.nilp,AV.str []],eqs:=false }),
 (100,{ kd:=Kd.struct [(17,0,1),(17,1,1),(17,2,1),(9,3,1)],size:=4,bytes:=40,zv:=AV.agg [AV.nilp,AV.nilp,AV.nilp,AV.str []],eqs:=false }),
 (101,{ kd:=Kd.array 0 16,size:=0,bytes:=0,zv:=AV.agg [],eqs:=true }),
 (102,{ kd:=Kd.struct [(101,0,0)],size:=0,bytes:=0,zv:=AV.agg [],eqs:=false }),
 (103,{ kd:=Kd.struct [(101,0,0)],size:=0,bytes:=0,zv:=AV.agg [],eqs:=false }),
 (104,{ kd:=Kd.func,size:=1,bytes:=8,zv:=AV.nilf,eqs:=false }),
 (105,{ kd:=Kd.int IntKind.u32,size:=1,bytes:=4,zv:=AV.int IntKind.u32 0,eqs:=false }),
 (106,{ kd:=Kd.int IntKind.u8,size:=1,bytes:=1,zv:=AV.int IntKind.u8 0,eqs:=false }),
 (107,{ kd:=Kd.int IntKind.u8,size:=1,bytes:=1,zv:=AV.int IntKind.u8 0,eqs:=false }),
 (108,{ kd:=Kd.func,size:=1,bytes:=8,zv:=AV.nilf,eqs:=false }),
 (109,{ kd:=Kd.int IntKind.i32,size:=1,bytes:=4,zv:=AV.int IntKind.i32 0,eqs:=false }),
 (110,{ kd:=Kd.int IntKind.i32,size:=1,bytes:=4,zv:=AV.int IntKind.i32 0,eqs:=false }),
 (111,{ kd:=Kd.struct [(12,0,1),(12,1,1),(105,2,1),(106,3,1),(5,4,1),(5,5,1),(107,6,1),(108,7,1),(93,8,1),(109,9,1),(110,10,1)],size:=11,bytes:=48,zv:=AV.agg [AV.int IntKind.u64 0,AV.int IntKind.u64 0,AV.int IntKind.u32 0,AV.int IntKind.u8 0,AV.int IntKind.u8 0,AV.int IntKind.u8 0,AV.int IntKind.u8 0,AV.nilf,AV.nilp,AV.int IntKind.i32 0,AV.int IntKind.i32 0],eqs:=false }),
 (112,{ kd:=Kd.struct [(12,0,1),(12,1,1),(105,2,1),(106,3,1),(5,4,1),(5,5,1),(107,6,1),(108,7,1),(93,8,1),(109,9,1),(110,10,1)],size:=11,bytes:=48,zv:=AV.agg [AV.int IntKind.u64 0,AV.int IntKind.u64 0,AV.int IntKind.u32 0,AV.int IntKind.u8 0,AV.int IntKind.u8 0,AV.int IntKind.u8 0,AV.int IntKind.u8 0,AV.nilf,AV.nilp,AV.int IntKind.i32 0,AV.int IntKind.i32 0],eqs:=false })]
theorem tl_ok:TabOK Try.prog (lookT tl):=lookT_ok (by kernel_rfl)
noncomputable def fi3:FI:=match fiOf Try.f3 with | some x => x | none => ⟨.skip,0,[]⟩
theorem fi3_ok:FnOK Try.prog 3 fi3:=fiOf_ok Try.func3 (by kernel_rfl)
noncomputable def fi4:FI:=match fiOf Try.f4 with | some x => x | none => ⟨.skip,0,[]⟩
theorem fi4_ok:FnOK Try.prog 4 fi4:=fiOf_ok Try.func4 (by kernel_rfl)
noncomputable def fi5:FI:=match fiOf Try.f5 with | some x => x | none => ⟨.skip,0,[]⟩
theorem fi5_ok:FnOK Try.prog 5 fi5:=fiOf_ok Try.func5 (by kernel_rfl)
noncomputable def fi6:FI:=match fiOf Try.f6 with | some x => x | none => ⟨.skip,0,[]⟩
theorem fi6_ok:FnOK Try.prog 6 fi6:=fiOf_ok Try.func6 (by kernel_rfl)
noncomputable def fi7:FI:=match fiOf Try.f7 with | some x => x | none => ⟨.skip,0,[]⟩
theorem fi7_ok:FnOK Try.prog 7 fi7:=fiOf_ok Try.func7 (by kernel_rfl)
noncomputable def fi8:FI:=match fiOf Try.f8 with | some x => x | none => ⟨.skip,0,[]⟩
theorem fi8_ok:FnOK Try.prog 8 fi8:=fiOf_ok Try.func8 (by kernel_rfl)
noncomputable def fi9:FI:=match fiOf Try.f9 with | some x => x | none => ⟨.skip,0,[]⟩
theorem fi9_ok:FnOK Try.prog 9 fi9:=fiOf_ok Try.func9 (by kernel_rfl)
noncomputable def fi10:FI:=match fiOf Try.f10 with | some x => x | none => ⟨.skip,0,[]⟩
theorem fi10_ok:FnOK Try.prog 10 fi10:=fiOf_ok Try.func10 (by kernel_rfl)
noncomputable def fi11:FI:=match fiOf Try.f11 with | some x => x | none => ⟨.skip,0,[]⟩
theorem fi11_ok:FnOK Try.prog 11 fi11:=fiOf_ok Try.func11 (by kernel_rfl)
noncomputable def fi12:FI:=match fiOf Try.f12 with | some x => x | none => ⟨.skip,0,[]⟩
theorem fi12_ok:FnOK Try.prog 12 fi12:=fiOf_ok Try.func12 (by kernel_rfl)
noncomputable def fi13:FI:=match fiOf Try.f13 with | some x => x | none => ⟨.skip,0,[]⟩
theorem fi13_ok:FnOK Try.prog 13 fi13:=fiOf_ok Try.func13 (by kernel_rfl)
noncomputable def fi14:FI:=match fiOf Try.f14 with | some x => x | none => ⟨.skip,0,[]⟩
theorem fi14_ok:FnOK Try.prog 14 fi14:=fiOf_ok Try.func14 (by kernel_rfl)
noncomputable def fi15:FI:=match fiOf Try.f15 with | some x => x | none => ⟨.skip,0,[]⟩
theorem fi15_ok:FnOK Try.prog 15 fi15:=fiOf_ok Try.func15 (by kernel_rfl)
noncomputable def fi16:FI:=match fiOf Try.f16 with | some x => x | none => ⟨.skip,0,[]⟩
theorem fi16_ok:FnOK Try.prog 16 fi16:=fiOf_ok Try.func16 (by kernel_rfl)
noncomputable def fi17:FI:=match fiOf Try.f17 with | some x => x | none => ⟨.skip,0,[]⟩
theorem fi17_ok:FnOK Try.prog 17 fi17:=fiOf_ok Try.func17 (by kernel_rfl)
noncomputable def fi18:FI:=match fiOf Try.f18 with | some x => x | none => ⟨.skip,0,[]⟩
theorem fi18_ok:FnOK Try.prog 18 fi18:=fiOf_ok Try.func18 (by kernel_rfl)
noncomputable def fi19:FI:=match fiOf Try.f19 with | some x => x | none => ⟨.skip,0,[]⟩
theorem fi19_ok:FnOK Try.prog 19 fi19:=fiOf_ok Try.func19 (by kernel_rfl)
noncomputable def fi20:FI:=match fiOf Try.f20 with | some x => x | none => ⟨.skip,0,[]⟩
theorem fi20_ok:FnOK Try.prog 20 fi20:=fiOf_ok Try.func20 (by kernel_rfl)
noncomputable def fi21:FI:=match fiOf Try.f21 with | some x => x | none => ⟨.skip,0,[]⟩
theorem fi21_ok:FnOK Try.prog 21 fi21:=fiOf_ok Try.func21 (by kernel_rfl)
noncomputable def fi22:FI:=match fiOf Try.f22 with | some x => x | none => ⟨.skip,0,[]⟩
theorem fi22_ok:FnOK Try.prog 22 fi22:=fiOf_ok Try.func22 (by kernel_rfl)
noncomputable def fi23:FI:=match fiOf Try.f23 with | some x => x | none => ⟨.skip,0,[]⟩
theorem fi23_ok:FnOK Try.prog 23 fi23:=fiOf_ok Try.func23 (by kernel_rfl)
noncomputable def fi24:FI:=match fiOf Try.f24 with | some x => x | none => ⟨.skip,0,[]⟩
theorem fi24_ok:FnOK Try.prog 24 fi24:=fiOf_ok Try.func24 (by kernel_rfl)
noncomputable def fi25:FI:=match fiOf Try.f25 with | some x => x | none => ⟨.skip,0,[]⟩
theorem fi25_ok:FnOK Try.prog 25 fi25:=fiOf_ok Try.func25 (by kernel_rfl)
noncomputable def fi26:FI:=match fiOf Try.f26 with | some x => x | none => ⟨.skip,0,[]⟩
theorem fi26_ok:FnOK Try.prog 26 fi26:=fiOf_ok Try.func26 (by kernel_rfl)
noncomputable def fi27:FI:=match fiOf Try.f27 with | some x => x | none => ⟨.skip,0,[]⟩
theorem fi27_ok:FnOK Try.prog 27 fi27:=fiOf_ok Try.func27 (by kernel_rfl)
noncomputable def fi28:FI:=match fiOf Try.f28 with | some x => x | none => ⟨.skip,0,[]⟩
theorem fi28_ok:FnOK Try.prog 28 fi28:=fiOf_ok Try.func28 (by kernel_rfl)
noncomputable def fi29:FI:=match fiOf Try.f29 with | some x => x | none => ⟨.skip,0,[]⟩
theorem fi29_ok:FnOK Try.prog 29 fi29:=fiOf_ok Try.func29 (by kernel_rfl)
noncomputable def fi30:FI:=match fiOf Try.f30 with | some x => x | none => ⟨.skip,0,[]⟩
theorem fi30_ok:FnOK Try.prog 30 fi30:=fiOf_ok Try.func30 (by kernel_rfl)
noncomputable def fi31:FI:=match fiOf Try.f31 with | some x => x | none => ⟨.skip,0,[]⟩
theorem fi31_ok:FnOK Try.prog 31 fi31:=fiOf_ok Try.func31 (by kernel_rfl)
noncomputable def fi32:FI:=match fiOf Try.f32 with | some x => x | none => ⟨.skip,0,[]⟩
theorem fi32_ok:FnOK Try.prog 32 fi32:=fiOf_ok Try.func32 (by kernel_rfl)
noncomputable def fi33:FI:=match fiOf Try.f33 with | some x => x | none => ⟨.skip,0,[]⟩
theorem fi33_ok:FnOK Try.prog 33 fi33:=fiOf_ok Try.func33 (by kernel_rfl)
noncomputable def fi34:FI:=match fiOf Try.f34 with | some x => x | none => ⟨.skip,0,[]⟩
theorem fi34_ok:FnOK Try.prog 34 fi34:=fiOf_ok Try.func34 (by kernel_rfl)
noncomputable def fi35:FI:=match fiOf Try.f35 with | some x => x | none => ⟨.skip,0,[]⟩
theorem fi35_ok:FnOK Try.prog 35 fi35:=fiOf_ok Try.func35 (by kernel_rfl)
noncomputable def fi36:FI:=match fiOf Try.f36 with | some x => x | none => ⟨.skip,0,[]⟩
theorem fi36_ok:FnOK Try.prog 36 fi36:=fiOf_ok Try.func36 (by kernel_rfl)
noncomputable def fi37:FI:=match fiOf Try.f37 with | some x => x | none => ⟨.skip,0,[]⟩
theorem fi37_ok:FnOK Try.prog 37 fi37:=fiOf_ok Try.func37 (by kernel_rfl)
noncomputable def fi38:FI:=match fiOf Try.f38 with | some x => x | none => ⟨.skip,0,[]⟩
theorem fi38_ok:FnOK Try.prog 38 fi38:=fiOf_ok Try.func38 (by kernel_rfl)
noncomputable def fi39:FI:=match fiOf Try.f39 with | some x => x | none => ⟨.skip,0,[]⟩
theorem fi39_ok:FnOK Try.prog 39 fi39:=fiOf_ok Try.func39 (by kernel_rfl)
noncomputable def fi40:FI:=match fiOf Try.f40 with | some x => x | none => ⟨.skip,0,[]⟩
theorem fi40_ok:FnOK Try.prog 40 fi40:=fiOf_ok Try.func40 (by kernel_rfl)
noncomputable def fi41:FI:=match fiOf Try.f41 with | some x => x | none => ⟨.skip,0,[]⟩
theorem fi41_ok:FnOK Try.prog 41 fi41:=fiOf_ok Try.func41 (by kernel_rfl)
noncomputable def fi42:FI:=match fiOf Try.f42 with | some x => x | none => ⟨.skip,0,[]⟩
theorem fi42_ok:FnOK Try.prog 42 fi42:=fiOf_ok Try.func42 (by kernel_rfl)
noncomputable def fi43:FI:=match fiOf Try.f43 with | some x => x | none => ⟨.skip,0,[]⟩
theorem fi43_ok:FnOK Try.prog 43 fi43:=fiOf_ok Try.func43 (by kernel_rfl)
noncomputable def fi44:FI:=match fiOf Try.f44 with | some x => x | none => ⟨.skip,0,[]⟩
theorem fi44_ok:FnOK Try.prog 44 fi44:=fiOf_ok Try.func44 (by kernel_rfl)
noncomputable def fi45:FI:=match fiOf Try.f45 with | some x => x | none => ⟨.skip,0,[]⟩
theorem fi45_ok:FnOK Try.prog 45 fi45:=fiOf_ok Try.func45 (by kernel_rfl)
noncomputable def fi46:FI:=match fiOf Try.f46 with | some x => x | none => ⟨.skip,0,[]⟩
theorem fi46_ok:FnOK Try.prog 46 fi46:=fiOf_ok Try.func46 (by kernel_rfl)
noncomputable def fi47:FI:=match fiOf Try.f47 with | some x => x | none => ⟨.skip,0,[]⟩
theorem fi47_ok:FnOK Try.prog 47 fi47:=fiOf_ok Try.func47 (by kernel_rfl)
noncomputable def fi48:FI:=match fiOf Try.f48 with | some x => x | none => ⟨.skip,0,[]⟩
theorem fi48_ok:FnOK Try.prog 48 fi48:=fiOf_ok Try.func48 (by kernel_rfl)
noncomputable def fi49:FI:=match fiOf Try.f49 with | some x => x | none => ⟨.skip,0,[]⟩
theorem fi49_ok:FnOK Try.prog 49 fi49:=fiOf_ok Try.func49 (by kernel_rfl)
noncomputable def fi50:FI:=match fiOf Try.f50 with | some x => x | none => ⟨.skip,0,[]⟩
theorem fi50_ok:FnOK Try.prog 50 fi50:=fiOf_ok Try.func50 (by kernel_rfl)
noncomputable def fi51:FI:=match fiOf Try.f51 with | some x => x | none => ⟨.skip,0,[]⟩
theorem fi51_ok:FnOK Try.prog 51 fi51:=fiOf_ok Try.func51 (by kernel_rfl)
noncomputable def fi52:FI:=match fiOf Try.f52 with | some x => x | none => ⟨.skip,0,[]⟩
theorem fi52_ok:FnOK Try.prog 52 fi52:=fiOf_ok Try.func52 (by kernel_rfl)
noncomputable def fi53:FI:=match fiOf Try.f53 with | some x => x | none => ⟨.skip,0,[]⟩
theorem fi53_ok:FnOK Try.prog 53 fi53:=fiOf_ok Try.func53 (by kernel_rfl)
noncomputable def fi54:FI:=match fiOf Try.f54 with | some x => x | none => ⟨.skip,0,[]⟩
theorem fi54_ok:FnOK Try.prog 54 fi54:=fiOf_ok Try.func54 (by kernel_rfl)
noncomputable def fi57:FI:=match fiOf Try.f57 with | some x => x | none => ⟨.skip,0,[]⟩
theorem fi57_ok:FnOK Try.prog 57 fi57:=fiOf_ok Try.func57 (by kernel_rfl)
noncomputable def fi58:FI:=match fiOf Try.f58 with | some x => x | none => ⟨.skip,0,[]⟩
theorem fi58_ok:FnOK Try.prog 58 fi58:=fiOf_ok Try.func58 (by kernel_rfl)
noncomputable def fi59:FI:=match fiOf Try.f59 with | some x => x | none => ⟨.skip,0,[]⟩
theorem fi59_ok:FnOK Try.prog 59 fi59:=fiOf_ok Try.func59 (by kernel_rfl)
noncomputable def fi60:FI:=match fiOf Try.f60 with | some x => x | none => ⟨.skip,0,[]⟩
theorem fi60_ok:FnOK Try.prog 60 fi60:=fiOf_ok Try.func60 (by kernel_rfl)
noncomputable def fl:List (Nat × FI):=[(3,fi3),(4,fi4),(5,fi5),(6,fi6),(7,fi7),(8,fi8),(9,fi9),(10,fi10),(11,fi11),(12,fi12),(13,fi13),(14,fi14),(15,fi15),(16,fi16),(17,fi17),(18,fi18),(19,fi19),(20,fi20),(21,fi21),(22,fi22),(23,fi23),(24,fi24),(25,fi25),(26,fi26),(27,fi27),(28,fi28),(29,fi29),(30,fi30),(31,fi31),(32,fi32),(33,fi33),(34,fi34),(35,fi35),(36,fi36),(37,fi37),(38,fi38),(39,fi39),(40,fi40),(41,fi41),(42,fi42),(43,fi43),(44,fi44),(45,fi45),(46,fi46),(47,fi47),(48,fi48),(49,fi49),(50,fi50),(51,fi51),(52,fi52),(53,fi53),(54,fi54),(57,fi57),(58,fi58),(59,fi59),(60,fi60)]
theorem fl_ok:∀ f fi,lookF fl f = some fi -> FnOK Try.prog f fi:=lookF_ok (by
 intro p hp
 simp only [fl,List.mem_cons,List.not_mem_nil,or_false] at hp
 rcases hp with rfl | rfl | rfl | rfl | rfl | rfl | rfl | rfl | rfl | rfl | rfl | rfl | rfl | rfl | rfl | rfl | rfl | rfl | rfl | rfl | rfl | rfl | rfl | rfl | rfl | rfl | rfl | rfl | rfl | rfl | rfl | rfl | rfl | rfl | rfl | rfl | rfl | rfl | rfl | rfl | rfl | rfl | rfl | rfl | rfl | rfl | rfl | rfl | rfl | rfl | rfl | rfl | rfl | rfl | rfl | rfl
 ·exact fi3_ok
 ·exact fi4_ok
 ·exact fi5_ok
 ·exact fi6_ok
 ·exact fi7_ok
 ·exact fi8_ok
 ·exact fi9_ok
 ·exact fi10_ok
 ·exact fi11_ok
 ·exact fi12_ok
 ·exact fi13_ok
 ·exact fi14_ok
 ·exact fi15_ok
 ·exact fi16_ok
 ·exact fi17_ok
 ·exact fi18_ok
 ·exact fi19_ok
 ·exact fi20_ok
 ·exact fi21_ok
 ·exact fi22_ok
 ·exact fi23_ok
 ·exact fi24_ok
 ·exact fi25_ok
 ·exact fi26_ok
 ·exact fi27_ok
 ·exact fi28_ok
 ·exact fi29_ok
 ·exact fi30_ok
 ·exact fi31_ok
 ·exact fi32_ok
 ·exact fi33_ok
 ·exact fi34_ok
 ·exact fi35_ok
 ·exact fi36_ok
 ·exact fi37_ok
 ·exact fi38_ok
 ·exact fi39_ok
 ·exact fi40_ok
 ·exact fi41_ok
 ·exact fi42_ok
 ·exact fi43_ok
 ·exact fi44_ok
 ·exact fi45_ok
 ·exact fi46_ok
 ·exact fi47_ok
 ·exact fi48_ok
 ·exact fi49_ok
 ·exact fi50_ok
 ·exact fi51_ok
 ·exact fi52_ok
 ·exact fi53_ok
 ·exact fi54_ok
 ·exact fi57_ok
 ·exact fi58_ok
 ·exact fi59_ok
 ·exact fi60_ok)
noncomputable abbrev base (R:Nat -> RoRow):Env Prop:=Env.base (lookT tl) (lookF fl) R
theorem base_ok (R:Nat -> RoRow):EnvOK Try.prog (base R) id:=EnvOK.base tl_ok fl_ok
noncomputable abbrev bx (R:Nat -> RoRow):EnvX:=EnvX.base (lookT tl) (lookF fl) R
theorem bx_ok (R:Nat -> RoRow) (ds:List Deferred) (HP:AV -> Rows -> Fz -> Prop):OKX Try.prog (bx R) ds HP:=OKX.base tl_ok fl_ok
end Go.Dc.Ke
