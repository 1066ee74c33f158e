import Derived.Test.YtlhplhncdljicaaProg
import Derived.Test.YtlhplhncdljicaaDcYi
import Derived.KernelRfl
set_option linter.unusedVariables false
set_option linter.unusedSimpArgs false
namespace Go.Dc.Kb
open Go.Proofs
set_option maxRecDepth 100000
noncomputable def tl:List (Nat × TI):=[
 (3,{ kd:=Go.Dc.Kd.int Go.IntKind.i64,size:=1,bytes:=8,zv:=Go.Dc.AV.int Go.IntKind.i64 0,eqs:=false }),
 (4,{ kd:=Go.Dc.Kd.bool,size:=1,bytes:=1,zv:=Go.Dc.AV.bool false,eqs:=false }),
 (9,{ kd:=Go.Dc.Kd.str,size:=1,bytes:=16,zv:=Go.Dc.AV.str [],eqs:=false }),
 (5,{ kd:=Go.Dc.Kd.int Go.IntKind.u8,size:=1,bytes:=1,zv:=Go.Dc.AV.int Go.IntKind.u8 0,eqs:=false }),
 (22,{ kd:=Go.Dc.Kd.slice 9,size:=1,bytes:=24,zv:=Go.Dc.AV.nils,eqs:=false }),
 (0,{ kd:=Go.Dc.Kd.other,size:=1,bytes:=0,zv:=Go.Dc.AV.tup [],eqs:=false }),
 (1,{ kd:=Go.Dc.Kd.func,size:=1,bytes:=8,zv:=Go.Dc.AV.nilf,eqs:=false }),
 (2,{ kd:=Go.Dc.Kd.int Go.IntKind.i64,size:=1,bytes:=8,zv:=Go.Dc.AV.int Go.IntKind.i64 0,eqs:=false }),
 (6,{ kd:=Go.Dc.Kd.int Go.IntKind.u8,size:=1,bytes:=1,zv:=Go.Dc.AV.int Go.IntKind.u8 0,eqs:=false }),
 (7,{ kd:=Go.Dc.Kd.struct [(2,0,1),(3,1,1),(4,2,1),(6,3,1)],size:=4,bytes:=24,zv:=Go.Dc.AV.agg [Go.Dc.AV.int Go.IntKind.i64 0,Go.Dc.AV.int Go.IntKind.i64 0,Go.Dc.AV.bool false,Go.Dc.AV.int Go.IntKind.u8 0],eqs:=true }),
 (8,{ kd:=Go.Dc.Kd.struct [(2,0,1),(3,1,1),(4,2,1),(6,3,1)],size:=4,bytes:=24,zv:=Go.Dc.AV.agg [Go.Dc.AV.int Go.IntKind.i64 0,Go.Dc.AV.int Go.IntKind.i64 0,Go.Dc.AV.bool false,Go.Dc.AV.int Go.IntKind.u8 0],eqs:=true }),
 (10,{ kd:=Go.Dc.Kd.str,size:=1,bytes:=16,zv:=Go.Dc.AV.str [],eqs:=false }),
 (11,{ kd:=Go.Dc.Kd.str,size:=1,bytes:=16,zv:=Go.Dc.AV.str [],eqs:=false }),
 (12,{ kd:=Go.Dc.Kd.int Go.IntKind.u64,size:=1,bytes:=8,zv:=Go.Dc.AV.int Go.IntKind.u64 0,eqs:=false }),
 (13,{ kd:=Go.Dc.Kd.struct [(9,0,1),(12,1,1)],size:=2,bytes:=24,zv:=Go.Dc.AV.agg [Go.Dc.AV.str [],Go.Dc.AV.int Go.IntKind.u64 0],eqs:=false }),
 (14,{ kd:=Go.Dc.Kd.struct [(9,0,1),(12,1,1)],size:=2,bytes:=24,zv:=Go.Dc.AV.agg [Go.Dc.AV.str [],Go.Dc.AV.int Go.IntKind.u64 0],eqs:=false }),
 (15,{ kd:=Go.Dc.Kd.ptr 116,size:=1,bytes:=8,zv:=Go.Dc.AV.nilp,eqs:=false }),
 (16,{ kd:=Go.Dc.Kd.ptr 119,size:=1,bytes:=8,zv:=Go.Dc.AV.nilp,eqs:=false }),
 (17,{ kd:=Go.Dc.Kd.ptr 128,size:=1,bytes:=8,zv:=Go.Dc.AV.nilp,eqs:=false }),
 (18,{ kd:=Go.Dc.Kd.struct [(17,0,1)],size:=1,bytes:=8,zv:=Go.Dc.AV.agg [Go.Dc.AV.nilp],eqs:=false }),
 (19,{ kd:=Go.Dc.Kd.struct [(17,0,1)],size:=1,bytes:=8,zv:=Go.Dc.AV.agg [Go.Dc.AV.nilp],eqs:=false }),
 (20,{ kd:=Go.Dc.Kd.iface,size:=1,bytes:=16,zv:=Go.Dc.AV.nili,eqs:=false }),
 (21,{ kd:=Go.Dc.Kd.int Go.IntKind.i32,size:=1,bytes:=4,zv:=Go.Dc.AV.int Go.IntKind.i32 0,eqs:=false }),
 (23,{ kd:=Go.Dc.Kd.func,size:=1,bytes:=8,zv:=Go.Dc.AV.nilf,eqs:=false }),
 (24,{ kd:=Go.Dc.Kd.slice 29,size:=1,bytes:=24,zv:=Go.Dc.AV.nils,eqs:=false }),
 (25,{ kd:=Go.Dc.Kd.struct [(24,0,1)],size:=1,bytes:=24,zv:=Go.Dc.AV.agg [Go.Dc.AV.nils],eqs:=true }),
 (26,{ kd:=Go.Dc.Kd.struct [(24,0,1)],size:=1,bytes:=24,zv:=Go.Dc.AV.agg [Go.Dc.AV.nils],eqs:=true }),
 (27,{ kd:=Go.Dc.Kd.func,size:=1,bytes:=8,zv:=Go.Dc.AV.nilf,eqs:=false }),
 (28,{ kd:=Go.Dc.Kd.struct [(3,0,1),(9,1,1)],size:=2,bytes:=24,zv:=Go.Dc.AV.agg [Go.Dc.AV.int Go.IntKind.i64 0,Go.Dc.AV.str []],eqs:=true }),
 (29,{ kd:=Go.Dc.Kd.struct [(3,0,1),(9,1,1)],size:=2,bytes:=24,zv:=Go.Dc.AV.agg [Go.Dc.AV.int Go.IntKind.i64 0,Go.Dc.AV.str []],eqs:=true }),
 (30,{ kd:=Go.Dc.Kd.func,size:=1,bytes:=8,zv:=Go.Dc.AV.nilf,eqs:=false }),
 (31,{ kd:=Go.Dc.Kd.func,size:=1,bytes:=8,zv:=Go.Dc.AV.nilf,eqs:=false }),
 (32,{ kd:=Go.Dc.Kd.slice 89,size:=1,bytes:=24,zv:=Go.Dc.AV.nils,eqs:=false }),
 (33,{ kd:=Go.Dc.Kd.struct [(3,0,1),(3,1,1),(3,2,1),(9,3,1),(32,4,1)],size:=5,bytes:=64,zv:=Go.Dc.AV.agg [Go.Dc.AV.int Go.IntKind.i64 0,Go.Dc.AV.int Go.IntKind.i64 0,Go.Dc.AV.int Go.IntKind.i64 0,Go.Dc.AV.str [],Go.Dc.AV.nils],eqs:=true }),
 (34,{ kd:=Go.Dc.Kd.struct [(3,0,1),(3,1,1),(3,2,1),(9,3,1),(32,4,1)],size:=5,bytes:=64,zv:=Go.Dc.AV.agg [Go.Dc.AV.int Go.IntKind.i64 0,Go.Dc.AV.int Go.IntKind.i64 0,Go.Dc.AV.int Go.IntKind.i64 0,Go.Dc.AV.str [],Go.Dc.AV.nils],eqs:=true }),
 (35,{ kd:=Go.Dc.Kd.slice 90,size:=1,bytes:=24,zv:=Go.Dc.AV.nils,eqs:=false }),
 (36,{ kd:=Go.Dc.Kd.struct [(3,0,1),(9,1,1),(35,2,1)],size:=3,bytes:=48,zv:=Go.Dc.AV.agg [Go.Dc.AV.int Go.IntKind.i64 0,Go.Dc.AV.str [],Go.Dc.AV.nils],eqs:=true }),
 (37,{ kd:=Go.Dc.Kd.struct [(3,0,1),(9,1,1),(35,2,1)],size:=3,bytes:=48,zv:=Go.Dc.AV.agg [Go.Dc.AV.int Go.IntKind.i64 0,Go.Dc.AV.str [],Go.Dc.AV.nils],eqs:=true }),
 (38,{ kd:=Go.Dc.Kd.slice 88,size:=1,bytes:=24,zv:=Go.Dc.AV.nils,eqs:=false }),
 (39,{ kd:=Go.Dc.Kd.struct [(3,0,1),(9,1,1),(38,2,1)],size:=3,bytes:=48,zv:=Go.Dc.AV.agg [Go.Dc.AV.int Go.IntKind.i64 0,Go.Dc.AV.str [],Go.Dc.AV.nils],eqs:=true }),
 (40,{ kd:=Go.Dc.Kd.struct [(3,0,1),(9,1,1),(38,2,1)],size:=3,bytes:=48,zv:=Go.Dc.AV.agg [Go.Dc.AV.int Go.IntKind.i64 0,Go.Dc.AV.str [],Go.Dc.AV.nils],eqs:=true }),
 (42,{ kd:=Go.Dc.Kd.func,size:=1,bytes:=8,zv:=Go.Dc.AV.nilf,eqs:=false }),
 (43,{ kd:=Go.Dc.Kd.func,size:=1,bytes:=8,zv:=Go.Dc.AV.nilf,eqs:=false }),
 (44,{ kd:=Go.Dc.Kd.func,size:=1,bytes:=8,zv:=Go.Dc.AV.nilf,eqs:=false }),
 (45,{ kd:=Go.Dc.Kd.func,size:=1,bytes:=8,zv:=Go.Dc.AV.nilf,eqs:=false }),
 (46,{ kd:=Go.Dc.Kd.slice 34,size:=1,bytes:=24,zv:=Go.Dc.AV.nils,eqs:=false }),
 (47,{ kd:=Go.Dc.Kd.slice 37,size:=1,bytes:=24,zv:=Go.Dc.AV.nils,eqs:=false }),
 (48,{ kd:=Go.Dc.Kd.struct [(47,0,1)],size:=1,bytes:=24,zv:=Go.Dc.AV.agg [Go.Dc.AV.nils],eqs:=true }),
 (49,{ kd:=Go.Dc.Kd.struct [(47,0,1)],size:=1,bytes:=24,zv:=Go.Dc.AV.agg [Go.Dc.AV.nils],eqs:=true }),
 (50,{ kd:=Go.Dc.Kd.func,size:=1,bytes:=8,zv:=Go.Dc.AV.nilf,eqs:=false }),
 (51,{ kd:=Go.Dc.Kd.func,size:=1,bytes:=8,zv:=Go.Dc.AV.nilf,eqs:=false }),
 (52,{ kd:=Go.Dc.Kd.func,size:=1,bytes:=8,zv:=Go.Dc.AV.nilf,eqs:=false }),
 (53,{ kd:=Go.Dc.Kd.slice 56,size:=1,bytes:=24,zv:=Go.Dc.AV.nils,eqs:=false }),
 (54,{ kd:=Go.Dc.Kd.slice 57,size:=1,bytes:=24,zv:=Go.Dc.AV.nils,eqs:=false }),
 (55,{ kd:=Go.Dc.Kd.struct [(3,0,1),(3,1,1),(3,2,1),(9,3,1)],size:=4,bytes:=40,zv:=Go.Dc.AV.agg [Go.Dc.AV.int Go.IntKind.i64 0,Go.Dc.AV.int Go.IntKind.i64 0,Go.Dc.AV.int Go.IntKind.i64 0,Go.Dc.AV.str []],eqs:=true }),
 (56,{ kd:=Go.Dc.Kd.struct [(3,0,1),(3,1,1),(3,2,1),(9,3,1)],size:=4,bytes:=40,zv:=Go.Dc.AV.agg [Go.Dc.AV.int Go.IntKind.i64 0,Go.Dc.AV.int Go.IntKind.i64 0,Go.Dc.AV.int Go.IntKind.i64 0,Go.Dc.AV.str []],eqs:=true }),
 (57,{ kd:=Go.Dc.Kd.struct [(3,0,1),(9,1,1)],size:=2,bytes:=24,zv:=Go.Dc.AV.agg [Go.Dc.AV.int Go.IntKind.i64 0,Go.Dc.AV.str []],eqs:=true }),
 (59,{ kd:=Go.Dc.Kd.func,size:=1,bytes:=8,zv:=Go.Dc.AV.nilf,eqs:=false }),
 (60,{ kd:=Go.Dc.Kd.func,size:=1,bytes:=8,zv:=Go.Dc.AV.nilf,eqs:=false }),
 (61,{ kd:=Go.Dc.Kd.func,size:=1,bytes:=8,zv:=Go.Dc.AV.nilf,eqs:=false }),
 (62,{ kd:=Go.Dc.Kd.func,size:=1,bytes:=8,zv:=Go.Dc.AV.nilf,eqs:=false }),
 (63,{ kd:=Go.Dc.Kd.func,size:=1,bytes:=8,zv:=Go.Dc.AV.nilf,eqs:=false }),
 (64,{ kd:=Go.Dc.Kd.func,size:=1,bytes:=8,zv:=Go.Dc.AV.nilf,eqs:=false }),
 (65,{ kd:=Go.Dc.Kd.func,size:=1,bytes:=8,zv:=Go.Dc.AV.nilf,eqs:=false }),
 (66,{ kd:=Go.Dc.Kd.func,size:=1,bytes:=8,zv:=Go.Dc.AV.nilf,eqs:=false }),
 (67,{ kd:=Go.Dc.Kd.func,size:=1,bytes:=8,zv:=Go.Dc.AV.nilf,eqs:=false }),
 (68,{ kd:=Go.Dc.Kd.func,size:=1,bytes:=8,zv:=Go.Dc.AV.nilf,eqs:=false }),
 (69,{ kd:=Go.Dc.Kd.func,size:=1,bytes:=8,zv:=Go.Dc.AV.nilf,eqs:=false }),
 (70,{ kd:=Go.Dc.Kd.ptr 26,size:=1,bytes:=8,zv:=Go.Dc.AV.nilp,eqs:=false }),
 (71,{ kd:=Go.Dc.Kd.slice 3,size:=1,bytes:=24,zv:=Go.Dc.AV.nils,eqs:=false }),
 (72,{ kd:=Go.Dc.Kd.slice 40,size:=1,bytes:=24,zv:=Go.Dc.AV.nils,eqs:=false }),
 (73,{ kd:=Go.Dc.Kd.func,size:=1,bytes:=8,zv:=Go.Dc.AV.nilf,eqs:=false }),
 (74,{ kd:=Go.Dc.Kd.func,size:=1,bytes:=8,zv:=Go.Dc.AV.nilf,eqs:=false }),
 (75,{ kd:=Go.Dc.Kd.func,size:=1,bytes:=8,zv:=Go.Dc.AV.nilf,eqs:=false }),
 (76,{ kd:=Go.Dc.Kd.func,size:=1,bytes:=8,zv:=Go.Dc.AV.nilf,eqs:=false }),
 (77,{ kd:=Go.Dc.Kd.func,size:=1,bytes:=8,zv:=Go.Dc.AV.nilf,eqs:=false }),
 (78,{ kd:=Go.Dc.Kd.func,size:=1,bytes:=8,zv:=Go.Dc.AV.nilf,eqs:=false }),
 (79,{ kd:=Go.Dc.Kd.func,size:=1,bytes:=8,zv:=Go.Dc.AV.nilf,eqs:=false }),
 (80,{ kd:=Go.Dc.Kd.func,size:=1,bytes:=8,zv:=Go.Dc.AV.nilf,eqs:=false }),
 (81,{ kd:=Go.Dc.Kd.func,size:=1,bytes:=8,zv:=Go.Dc.AV.nilf,eqs:=false }),
 (82,{ kd:=Go.Dc.Kd.func,size:=1,bytes:=8,zv:=Go.Dc.AV.nilf,eqs:=false }),
 (83,{ kd:=Go.Dc.Kd.ptr 49,size:=1,bytes:=8,zv:=Go.Dc.AV.nilp,eqs:=false }),
 (84,{ kd:=Go.Dc.Kd.func,size:=1,bytes:=8,zv:=Go.Dc.AV.nilf,eqs:=false }),
 (85,{ kd:=Go.Dc.Kd.func,size:=1,bytes:=8,zv:=Go.Dc.AV.nilf,eqs:=false }),
 (86,{ kd:=Go.Dc.Kd.func,size:=1,bytes:=8,zv:=Go.Dc.AV.nilf,eqs:=false }),
 (87,{ kd:=Go.Dc.Kd.struct [(9,0,1),(9,1,1)],size:=2,bytes:=32,zv:=Go.Dc.AV.agg [Go.Dc.AV.str [],Go.Dc.AV.str []],eqs:=true }),
 (88,{ kd:=Go.Dc.Kd.struct [(9,0,1),(9,1,1)],size:=2,bytes:=32,zv:=Go.Dc.AV.agg [Go.Dc.AV.str [],Go.Dc.AV.str []],eqs:=true }),
 (89,{ kd:=Go.Dc.Kd.struct [(9,0,1),(9,1,1)],size:=2,bytes:=32,zv:=Go.Dc.AV.agg [Go.Dc.AV.str [],Go.Dc.AV.str []],eqs:=true }),
 (90,{ kd:=Go.Dc.Kd.struct [(9,0,1),(9,1,1)],size:=2,bytes:=32,zv:=Go.Dc.AV.agg [Go.Dc.AV.str [],Go.Dc.AV.str []],eqs:=true }),
 (91,{ kd:=Go.Dc.Kd.func,size:=1,bytes:=8,zv:=Go.Dc.AV.nilf,eqs:=false }),
 (92,{ kd:=Go.Dc.Kd.func,size:=1,bytes:=8,zv:=Go.Dc.AV.nilf,eqs:=false }),
 (93,{ kd:=Go.Dc.Kd.func,size:=1,bytes:=8,zv:=Go.Dc.AV.nilf,eqs:=false }),
 (94,{ kd:=Go.Dc.Kd.func,size:=1,bytes:=8,zv:=Go.Dc.AV.nilf,eqs:=false }),
 (95,{ kd:=Go.Dc.Kd.func,size:=1,bytes:=8,zv:=Go.Dc.AV.nilf,eqs:=false }),
 (96,{ kd:=Go.Dc.Kd.func,size:=1,bytes:=8,zv:=Go.Dc.AV.nilf,eqs:=false }),
 (97,{ kd:=Go.Dc.Kd.func,size:=1,bytes:=8,zv:=Go.Dc.AV.nilf,eqs:=false }),
 (98,{ kd:=Go.Dc.Kd.func,size:=1,bytes:=8,zv:=Go.Dc.AV.nilf,eqs:=false }),
 (99,{ kd:=Go.Dc.Kd.func,size:=1,bytes:=8,zv:=Go.Dc.AV.nilf,eqs:=false }),
 (100,{ kd:=Go.Dc.Kd.func,size:=1,bytes:=8,zv:=Go.Dc.AV.nilf,eqs:=false }),
 (101,{ kd:=Go.Dc.Kd.func,size:=1,bytes:=8,zv:=Go.Dc.AV.nilf,eqs:=false }),
 (102,{ kd:=Go.Dc.Kd.func,size:=1,bytes:=8,zv:=Go.Dc.AV.nilf,eqs:=false }),
 (103,{ kd:=Go.Dc.Kd.func,size:=1,bytes:=8,zv:=Go.Dc.AV.nilf,eqs:=false }),
 (104,{ kd:=Go.Dc.Kd.func,size:=1,bytes:=8,zv:=Go.Dc.AV.nilf,eqs:=false }),
 (105,{ kd:=Go.Dc.Kd.func,size:=1,bytes:=8,zv:=Go.Dc.AV.nilf,eqs:=false }),
 (106,{ kd:=Go.Dc.Kd.func,size:=1,bytes:=8,zv:=Go.Dc.AV.nilf,eqs:=false }),
 (107,{ kd:=Go.Dc.Kd.func,size:=1,bytes:=8,zv:=Go.Dc.AV.nilf,eqs:=false }),
 (108,{ kd:=Go.Dc.Kd.func,size:=1,bytes:=8,zv:=Go.Dc.AV.nilf,eqs:=false }),
 (109,{ kd:=Go.Dc.Kd.func,size:=1,bytes:=8,zv:=Go.Dc.AV.nilf,eqs:=false }),
 (110,{ kd:=Go.Dc.Kd.func,size:=1,bytes:=8,zv:=Go.Dc.AV.nilf,eqs:=false }),
 (111,{ kd:=Go.Dc.Kd.func,size:=1,bytes:=8,zv:=Go.Dc.AV.nilf,eqs:=false }),
 (112,{ kd:=Go.Dc.Kd.func,size:=1,bytes:=8,zv:=Go.Dc.AV.nilf,eqs:=false }),
 (113,{ kd:=Go.Dc.Kd.func,size:=1,bytes:=8,zv:=Go.Dc.AV.nilf,eqs:=false }),
 (114,{ kd:=Go.Dc.Kd.func,size:=1,bytes:=8,zv:=Go.Dc.AV.nilf,eqs:=false }),
 (115,{ kd:=Go.Dc.Kd.struct [(17,0,1),(17,1,1),(17,2,1),(9,3,1)],size:=4,bytes:=40,zv:=Go.Dc.AV.agg [Go.Dc.AV.nilp,Go.Dc.AV.nilp,Go.Dc.AV.nilp,Go.Dc.AV.str []],eqs:=false }),
 (116,{ kd:=Go.Dc.Kd.struct [(17,0,1),(17,1,1),(17,2,1),(9,3,1)],size:=4,bytes:=40,zv:=Go.Dc.AV.agg [Go.Dc.AV.nilp,Go.Dc.AV.nilp,Go.Dc.AV.nilp,Go.Dc.AV.str []],eqs:=false }),
 (117,{ kd:=Go.Dc.Kd.array 0 16,size:=0,bytes:=0,zv:=Go.Dc.AV.agg [],eqs:=true }),
 (118,{ kd:=Go.Dc.Kd.struct [(117,0,0)],size:=0,bytes:=0,zv:=Go.Dc.AV.agg [],eqs:=false }),
 (119,{ kd:=Go.Dc.Kd.struct [(117,0,0)],size:=0,bytes:=0,zv:=Go.Dc.AV.agg [],eqs:=false }),
 (120,{ kd:=Go.Dc.Kd.int Go.IntKind.u32,size:=1,bytes:=4,zv:=Go.Dc.AV.int Go.IntKind.u32 0,eqs:=false }),
 (121,{ kd:=Go.Dc.Kd.int Go.IntKind.u8,size:=1,bytes:=1,zv:=Go.Dc.AV.int Go.IntKind.u8 0,eqs:=false }),
 (122,{ kd:=Go.Dc.Kd.int Go.IntKind.u8,size:=1,bytes:=1,zv:=Go.Dc.AV.int Go.IntKind.u8 0,eqs:=false }),
 (123,{ kd:=Go.Dc.Kd.func,size:=1,bytes:=8,zv:=Go.Dc.AV.nilf,eqs:=false }),
 (124,{ kd:=Go.Dc.Kd.ptr 5,size:=1,bytes:=8,zv:=Go.Dc.AV.nilp,eqs:=false }),
 (125,{ kd:=Go.Dc.Kd.int Go.IntKind.i32,size:=1,bytes:=4,zv:=Go.Dc.AV.int Go.IntKind.i32 0,eqs:=false }),
 (126,{ kd:=Go.Dc.Kd.int Go.IntKind.i32,size:=1,bytes:=4,zv:=Go.Dc.AV.int Go.IntKind.i32 0,eqs:=false }),
 (127,{ kd:=Go.Dc.Kd.struct [(12,0,1),(12,1,1),(120,2,1),(121,3,1),(5,4,1),(5,5,1),(122,6,1),(123,7,1),(124,8,1),(125,9,1),(126,10,1)],size:=11,bytes:=48,zv:=Go.Dc.AV.agg [Go.Dc.AV.int Go.IntKind.u64 0,Go.Dc.AV.int Go.IntKind.u64 0,Go.Dc.AV.int Go.IntKind.u32 0,Go.Dc.AV.int Go.IntKind.u8 0,Go.Dc.AV.int Go.IntKind.u8 0,Go.Dc.AV.int Go.IntKind.u8 0,Go.Dc.AV.int Go.IntKind.u8 0,Go.Dc.AV.nilf,Go.Dc.AV.nilp,Go.Dc.AV.int Go.IntKind.i32 0,Go.Dc.AV.int Go.IntKind.i32 0],eqs:=false }),
 (128,{ kd:=Go.Dc.Kd.struct [(12,0,1),(12,1,1),(120,2,1),(121,3,1),(5,4,1),(5,5,1),(122,6,1),(123,7,1),(124,8,1),(125,9,1),(126,10,1)],size:=11,bytes:=48,zv:=Go.Dc.AV.agg [Go.Dc.AV.int Go.IntKind.u64 0,Go.Dc.AV.int Go.IntKind.u64 0,Go.Dc.AV.int Go.IntKind.u32 0,Go.Dc.AV.int Go.IntKind.u8 0,Go.Dc.AV.int Go.IntKind.u8 0,Go.Dc.AV.int Go.IntKind.u8 0,Go.Dc.AV.int Go.IntKind.u8 0,Go.Dc.AV.nilf,Go.Dc.AV.nilp,Go.Dc.AV.int Go.IntKind.i32 0,Go.Dc.AV.int Go.IntKind.i32 0],eqs:=false }),
 (129,{ kd:=Go.Dc.Kd.other,size:=1,bytes:=8,zv:=Go.Dc.AV.nilp,eqs:=false })]
theorem tl_ok:TabOK Try.prog (lookT tl):=lookT_ok (by kernel_rfl)
noncomputable def fi3:FI:=match fiOf Try.f3 with | some x => x | none => ⟨.skip,0,[]⟩
theorem fi3_ok:FnOK Try.prog 3 fi3:=fiOf_ok Try.func3 (by kernel_rfl)
noncomputable def fi4:FI:=match fiOf Try.f4 with | some x => x | none => ⟨.skip,0,[]⟩
theorem fi4_ok:FnOK Try.prog 4 fi4:=fiOf_ok Try.func4 (by kernel_rfl)
noncomputable def fi5:FI:=match fiOf Try.f5 with | some x => x | none => ⟨.skip,0,[]⟩
theorem fi5_ok:FnOK Try.prog 5 fi5:=fiOf_ok Try.func5 (by kernel_rfl)
noncomputable def fi6:FI:=match fiOf Try.f6 with | some x => x | none => ⟨.skip,0,[]⟩
theorem fi6_ok:FnOK Try.prog 6 fi6:=fiOf_ok Try.func6 (by kernel_rfl)
noncomputable def fi7:FI:=match fiOf Try.f7 with | some x => x | none => ⟨.skip,0,[]⟩
theorem fi7_ok:FnOK Try.prog 7 fi7:=fiOf_ok Try.func7 (by kernel_rfl)
noncomputable def fi8:FI:=match fiOf Try.f8 with | some x => x | none => ⟨.skip,0,[]⟩
theorem fi8_ok:FnOK Try.prog 8 fi8:=fiOf_ok Try.func8 (by kernel_rfl)
noncomputable def fi9:FI:=match fiOf Try.f9 with | some x => x | none => ⟨.skip,0,[]⟩
theorem fi9_ok:FnOK Try.prog 9 fi9:=fiOf_ok Try.func9 (by kernel_rfl)
noncomputable def fi10:FI:=match fiOf Try.f10 with | some x => x | none => ⟨.skip,0,[]⟩
theorem fi10_ok:FnOK Try.prog 10 fi10:=fiOf_ok Try.func10 (by kernel_rfl)
noncomputable def fi11:FI:=match fiOf Try.f11 with | some x => x | none => ⟨.skip,0,[]⟩
theorem fi11_ok:FnOK Try.prog 11 fi11:=fiOf_ok Try.func11 (by kernel_rfl)
noncomputable def fi12:FI:=match fiOf Try.f12 with | some x => x | none => ⟨.skip,0,[]⟩
theorem fi12_ok:FnOK Try.prog 12 fi12:=fiOf_ok Try.func12 (by kernel_rfl)
noncomputable def fi13:FI:=match fiOf Try.f13 with | some x => x | none => ⟨.skip,0,[]⟩
theorem fi13_ok:FnOK Try.prog 13 fi13:=fiOf_ok Try.func13 (by kernel_rfl)
noncomputable def fi14:FI:=match fiOf Try.f14 with | some x => x | none => ⟨.skip,0,[]⟩
theorem fi14_ok:FnOK Try.prog 14 fi14:=fiOf_ok Try.func14 (by kernel_rfl)
noncomputable def fi15:FI:=match fiOf Try.f15 with | some x => x | none => ⟨.skip,0,[]⟩
theorem fi15_ok:FnOK Try.prog 15 fi15:=fiOf_ok Try.func15 (by kernel_rfl)
noncomputable def fi16:FI:=match fiOf Try.f16 with | some x => x | none => ⟨.skip,0,[]⟩
theorem fi16_ok:FnOK Try.prog 16 fi16:=fiOf_ok Try.func16 (by kernel_rfl)
noncomputable def fi17:FI:=match fiOf Try.f17 with | some x => x | none => ⟨.skip,0,[]⟩
theorem fi17_ok:FnOK Try.prog 17 fi17:=fiOf_ok Try.func17 (by kernel_rfl)
noncomputable def fi18:FI:=match fiOf Try.f18 with | some x => x | none => ⟨.skip,0,[]⟩
theorem fi18_ok:FnOK Try.prog 18 fi18:=fiOf_ok Try.func18 (by kernel_rfl)
noncomputable def fi19:FI:=match fiOf Try.f19 with | some x => x | none => ⟨.skip,0,[]⟩
theorem fi19_ok:FnOK Try.prog 19 fi19:=fiOf_ok Try.func19 (by kernel_rfl)
noncomputable def fi20:FI:=match fiOf Try.f20 with | some x => x | none => ⟨.skip,0,[]⟩
theorem fi20_ok:FnOK Try.prog 20 fi20:=fiOf_ok Try.func20 (by kernel_rfl)
noncomputable def fi21:FI:=match fiOf Try.f21 with | some x => x | none => ⟨.skip,0,[]⟩
theorem fi21_ok:FnOK Try.prog 21 fi21:=fiOf_ok Try.func21 (by kernel_rfl)
noncomputable def fi22:FI:=match fiOf Try.f22 with | some x => x | none => ⟨.skip,0,[]⟩
theorem fi22_ok:FnOK Try.prog 22 fi22:=fiOf_ok Try.func22 (by kernel_rfl)
noncomputable def fi23:FI:=match fiOf Try.f23 with | some x => x | none => ⟨.skip,0,[]⟩
theorem fi23_ok:FnOK Try.prog 23 fi23:=fiOf_ok Try.func23 (by kernel_rfl)
noncomputable def fi24:FI:=match fiOf Try.f24 with | some x => x | none => ⟨.skip,0,[]⟩
theorem fi24_ok:FnOK Try.prog 24 fi24:=fiOf_ok Try.func24 (by kernel_rfl)
noncomputable def fi25:FI:=match fiOf Try.f25 with | some x => x | none => ⟨.skip,0,[]⟩
theorem fi25_ok:FnOK Try.prog 25 fi25:=fiOf_ok Try.func25 (by kernel_rfl)
noncomputable def fi26:FI:=match fiOf Try.f26 with | some x => x | none => ⟨.skip,0,[]⟩
theorem fi26_ok:FnOK Try.prog 26 fi26:=fiOf_ok Try.func26 (by kernel_rfl)
noncomputable def fi27:FI:=match fiOf Try.f27 with | some x => x | none => ⟨.skip,0,[]⟩
theorem fi27_ok:FnOK Try.prog 27 fi27:=fiOf_ok Try.func27 (by kernel_rfl)
noncomputable def fi28:FI:=match fiOf Try.f28 with | some x => x | none => ⟨.skip,0,[]⟩
theorem fi28_ok:FnOK Try.prog 28 fi28:=fiOf_ok Try.func28 (by kernel_rfl)
noncomputable def fi29:FI:=match fiOf Try.f29 with | some x => x | none => ⟨.skip,0,[]⟩
theorem fi29_ok:FnOK Try.prog 29 fi29:=fiOf_ok Try.func29 (by kernel_rfl)
noncomputable def fi30:FI:=match fiOf Try.f30 with | some x => x | none => ⟨.skip,0,[]⟩
theorem fi30_ok:FnOK Try.prog 30 fi30:=fiOf_ok Try.func30 (by kernel_rfl)
noncomputable def fi31:FI:=match fiOf Try.f31 with | some x => x | none => ⟨.skip,0,[]⟩
theorem fi31_ok:FnOK Try.prog 31 fi31:=fiOf_ok Try.func31 (by kernel_rfl)
noncomputable def fi32:FI:=match fiOf Try.f32 with | some x => x | none => ⟨.skip,0,[]⟩
theorem fi32_ok:FnOK Try.prog 32 fi32:=fiOf_ok Try.func32 (by kernel_rfl)
noncomputable def fi33:FI:=match fiOf Try.f33 with | some x => x | none => ⟨.skip,0,[]⟩
theorem fi33_ok:FnOK Try.prog 33 fi33:=fiOf_ok Try.func33 (by kernel_rfl)
noncomputable def fi34:FI:=match fiOf Try.f34 with | some x => x | none => ⟨.skip,0,[]⟩
theorem fi34_ok:FnOK Try.prog 34 fi34:=fiOf_ok Try.func34 (by kernel_rfl)
noncomputable def fi35:FI:=match fiOf Try.f35 with | some x => x | none => ⟨.skip,0,[]⟩
theorem fi35_ok:FnOK Try.prog 35 fi35:=fiOf_ok Try.func35 (by kernel_rfl)
noncomputable def fi36:FI:=match fiOf Try.f36 with | some x => x | none => ⟨.skip,0,[]⟩
theorem fi36_ok:FnOK Try.prog 36 fi36:=fiOf_ok Try.func36 (by kernel_rfl)
noncomputable def fi37:FI:=match fiOf Try.f37 with | some x => x | none => ⟨.skip,0,[]⟩
theorem fi37_ok:FnOK Try.prog 37 fi37:=fiOf_ok Try.func37 (by kernel_rfl)
noncomputable def fi38:FI:=match fiOf Try.f38 with | some x => x | none => ⟨.skip,0,[]⟩
theorem fi38_ok:FnOK Try.prog 38 fi38:=fiOf_ok Try.func38 (by kernel_rfl)
noncomputable def fi39:FI:=match fiOf Try.f39 with | some x => x | none => ⟨.skip,0,[]⟩
theorem fi39_ok:FnOK Try.prog 39 fi39:=fiOf_ok Try.func39 (by kernel_rfl)
noncomputable def fi40:FI:=match fiOf Try.f40 with | some x => x | none => ⟨.skip,0,[]⟩
theorem fi40_ok:FnOK Try.prog 40 fi40:=fiOf_ok Try.func40 (by kernel_rfl)
noncomputable def fi41:FI:=match fiOf Try.f41 with | some x => x | none => ⟨.skip,0,[]⟩
theorem fi41_ok:FnOK Try.prog 41 fi41:=fiOf_ok Try.func41 (by kernel_rfl)
noncomputable def fi42:FI:=match fiOf Try.f42 with | some x => x | none => ⟨.skip,0,[]⟩
theorem fi42_ok:FnOK Try.prog 42 fi42:=fiOf_ok Try.func42 (by kernel_rfl)
noncomputable def fi43:FI:=match fiOf Try.f43 with | some x => x | none => ⟨.skip,0,[]⟩
theorem fi43_ok:FnOK Try.prog 43 fi43:=fiOf_ok Try.func43 (by kernel_rfl)
noncomputable def fi44:FI:=match fiOf Try.f44 with | some x => x | none => ⟨.skip,0,[]⟩
theorem fi44_ok:FnOK Try.prog 44 fi44:=fiOf_ok Try.func44 (by kernel_rfl)
noncomputable def fi45:FI:=match fiOf Try.f45 with | some x => x | none => ⟨.skip,0,[]⟩
theorem fi45_ok:FnOK Try.prog 45 fi45:=fiOf_ok Try.func45 (by kernel_rfl)
noncomputable def fi46:FI:=match fiOf Try.f46 with | some x => x | none => ⟨.skip,0,[]⟩
theorem fi46_ok:FnOK Try.prog 46 fi46:=fiOf_ok Try.func46 (by kernel_rfl)
noncomputable def fi47:FI:=match fiOf Try.f47 with | some x => x | none => ⟨.skip,0,[]⟩
theorem fi47_ok:FnOK Try.prog 47 fi47:=fiOf_ok Try.func47 (by kernel_rfl)
noncomputable def fi48:FI:=match fiOf Try.f48 with | some x => x | none => ⟨.skip,0,[]⟩
theorem fi48_ok:FnOK Try.prog 48 fi48:=fiOf_ok Try.func48 (by kernel_rfl)
noncomputable def fi49:FI:=match fiOf Try.f49 with | some x => x | none => ⟨.skip,0,[]⟩
theorem fi49_ok:FnOK Try.prog 49 fi49:=fiOf_ok Try.func49 (by kernel_rfl)
noncomputable def fi50:FI:=match fiOf Try.f50 with | some x => x | none => ⟨.skip,0,[]⟩
theorem fi50_ok:FnOK Try.prog 50 fi50:=fiOf_ok Try.func50 (by kernel_rfl)
noncomputable def fi51:FI:=match fiOf Try.f51 with | some x => x | none => ⟨.skip,0,[]⟩
theorem fi51_ok:FnOK Try.prog 51 fi51:=fiOf_ok Try.func51 (by kernel_rfl)
noncomputable def fi52:FI:=match fiOf Try.f52 with | some x => x | none => ⟨.skip,0,[]⟩
theorem fi52_ok:FnOK Try.prog 52 fi52:=fiOf_ok Try.func52 (by kernel_rfl)
noncomputable def fi53:FI:=match fiOf Try.f53 with | some x => x | none => ⟨.skip,0,[]⟩
theorem fi53_ok:FnOK Try.prog 53 fi53:=fiOf_ok Try.func53 (by kernel_rfl)
noncomputable def fi54:FI:=match fiOf Try.f54 with | some x => x | none => ⟨.skip,0,[]⟩
theorem fi54_ok:FnOK Try.prog 54 fi54:=fiOf_ok Try.func54 (by kernel_rfl)
noncomputable def fi55:FI:=match fiOf Try.f55 with | some x => x | none => ⟨.skip,0,[]⟩
theorem fi55_ok:FnOK Try.prog 55 fi55:=fiOf_ok Try.func55 (by kernel_rfl)
noncomputable def fi56:FI:=match fiOf Try.f56 with | some x => x | none => ⟨.skip,0,[]⟩
theorem fi56_ok:FnOK Try.prog 56 fi56:=fiOf_ok Try.func56 (by kernel_rfl)
noncomputable def fi57:FI:=match fiOf Try.f57 with | some x => x | none => ⟨.skip,0,[]⟩
theorem fi57_ok:FnOK Try.prog 57 fi57:=fiOf_ok Try.func57 (by kernel_rfl)
noncomputable def fi58:FI:=match fiOf Try.f58 with | some x => x | none => ⟨.skip,0,[]⟩
theorem fi58_ok:FnOK Try.prog 58 fi58:=fiOf_ok Try.func58 (by kernel_rfl)
noncomputable def fi59:FI:=match fiOf Try.f59 with | some x => x | none => ⟨.skip,0,[]⟩
theorem fi59_ok:FnOK Try.prog 59 fi59:=fiOf_ok Try.func59 (by kernel_rfl)
noncomputable def fi60:FI:=match fiOf Try.f60 with | some x => x | none => ⟨.skip,0,[]⟩
theorem fi60_ok:FnOK Try.prog 60 fi60:=fiOf_ok Try.func60 (by kernel_rfl)
noncomputable def fi61:FI:=match fiOf Try.f61 with | some x => x | none => ⟨.skip,0,[]⟩
theorem fi61_ok:FnOK Try.prog 61 fi61:=fiOf_ok Try.func61 (by kernel_rfl)
noncomputable def fi62:FI:=match fiOf Try.f62 with | some x => x | none => ⟨.skip,0,[]⟩
theorem fi62_ok:FnOK Try.prog 62 fi62:=fiOf_ok Try.func62 (by kernel_rfl)
noncomputable def fi63:FI:=match fiOf Try.f63 with | some x => x | none => ⟨.skip,0,[]⟩
theorem fi63_ok:FnOK Try.prog 63 fi63:=fiOf_ok Try.func63 (by kernel_rfl)
noncomputable def fi64:FI:=match fiOf Try.f64 with | some x => x | none => ⟨.skip,0,[]⟩
theorem fi64_ok:FnOK Try.prog 64 fi64:=fiOf_ok Try.func64 (by kernel_rfl)
noncomputable def fi65:FI:=match fiOf Try.f65 with | some x => x | none => ⟨.skip,0,[]⟩
theorem fi65_ok:FnOK Try.prog 65 fi65:=fiOf_ok Try.func65 (by kernel_rfl)
noncomputable def fi66:FI:=match fiOf Try.f66 with | some x => x | none => ⟨.skip,0,[]⟩
theorem fi66_ok:FnOK Try.prog 66 fi66:=fiOf_ok Try.func66 (by kernel_rfl)
noncomputable def fi68:FI:=match fiOf Try.f68 with | some x => x | none => ⟨.skip,0,[]⟩
theorem fi68_ok:FnOK Try.prog 68 fi68:=fiOf_ok Try.func68 (by kernel_rfl)
noncomputable def fi70:FI:=match fiOf Try.f70 with | some x => x | none => ⟨.skip,0,[]⟩
theorem fi70_ok:FnOK Try.prog 70 fi70:=fiOf_ok Try.func70 (by kernel_rfl)
noncomputable def fi71:FI:=match fiOf Try.f71 with | some x => x | none => ⟨.skip,0,[]⟩
theorem fi71_ok:FnOK Try.prog 71 fi71:=fiOf_ok Try.func71 (by kernel_rfl)
noncomputable def fi72:FI:=match fiOf Try.f72 with | some x => x | none => ⟨.skip,0,[]⟩
theorem fi72_ok:FnOK Try.prog 72 fi72:=fiOf_ok Try.func72 (by kernel_rfl)
noncomputable def fi73:FI:=match fiOf Try.f73 with | some x => x | none => ⟨.skip,0,[]⟩
theorem fi73_ok:FnOK Try.prog 73 fi73:=fiOf_ok Try.func73 (by kernel_rfl)
noncomputable def fi74:FI:=match fiOf Try.f74 with | some x => x | none => ⟨.skip,0,[]⟩
theorem fi74_ok:FnOK Try.prog 74 fi74:=fiOf_ok Try.func74 (by kernel_rfl)
noncomputable def fi75:FI:=match fiOf Try.f75 with | some x => x | none => ⟨.skip,0,[]⟩
theorem fi75_ok:FnOK Try.prog 75 fi75:=fiOf_ok Try.func75 (by kernel_rfl)
noncomputable def fl:List (Nat × FI):=[(3,fi3),(4,fi4),(5,fi5),(6,fi6),(7,fi7),(8,fi8),(9,fi9),(10,fi10),(11,fi11),(12,fi12),(13,fi13),(14,fi14),(15,fi15),(16,fi16),(17,fi17),(18,fi18),(19,fi19),(20,fi20),(21,fi21),(22,fi22),(23,fi23),(24,fi24),(25,fi25),(26,fi26),(27,fi27),(28,fi28),(29,fi29),(30,fi30),(31,fi31),(32,fi32),(33,fi33),(34,fi34),(35,fi35),(36,fi36),(37,fi37),(38,fi38),(39,fi39),(40,fi40),(41,fi41),(42,fi42),(43,fi43),(44,fi44),(45,fi45),(46,fi46),(47,fi47),(48,fi48),(49,fi49),(50,fi50),(51,fi51),(52,fi52),(53,fi53),(54,fi54),(55,fi55),(56,fi56),(57,fi57),(58,fi58),(59,fi59),(60,fi60),(61,fi61),(62,fi62),(63,fi63),(64,fi64),(65,fi65),(66,fi66),(68,fi68),(70,fi70),(71,fi71),(72,fi72),(73,fi73),(74,fi74),(75,fi75)]
theorem fl_ok:∀ f fi,lookF fl f = some fi -> FnOK Try.prog f fi:=lookF_ok (by
 intro p hp
 simp only [fl,List.mem_cons,List.not_mem_nil,or_false] at hp
 rcases hp with rfl | rfl | rfl | rfl | rfl | rfl | rfl | rfl | rfl | rfl | rfl | rfl | rfl | rfl | rfl | rfl | rfl | rfl | rfl | rfl | rfl | rfl | rfl | rfl | rfl | rfl | rfl | rfl | rfl | rfl | rfl | rfl | rfl | rfl | rfl | rfl | rfl | rfl | rfl | rfl | rfl | rfl | rfl | rfl | rfl | rfl | rfl | rfl | rfl | rfl | rfl | rfl | rfl | rfl | rfl | rfl | rfl | rfl | rfl | rfl | rfl | rfl | rfl | rfl | rfl | rfl | rfl | rfl | rfl | rfl | rfl
 ·exact fi3_ok
 ·exact fi4_ok
 ·exact fi5_ok
 ·exact fi6_ok
 ·exact fi7_ok
 ·exact fi8_ok
 ·exact fi9_ok
 ·exact fi10_ok
 ·exact fi11_ok
 ·exact fi12_ok
 ·exact fi13_ok
 ·exact fi14_ok
 ·exact fi15_ok
 ·exact fi16_ok
 ·exact fi17_ok
 ·exact fi18_ok
 ·exact fi19_ok
 ·exact fi20_ok
 ·exact fi21_ok
 ·exact fi22_ok
 ·exact fi23_ok
 ·exact fi24_ok
 ·exact fi25_ok
 ·exact fi26_ok
 ·exact fi27_ok
 ·exact fi28_ok
 ·exact fi29_ok
 ·exact fi30_ok
 ·exact fi31_ok
 ·exact fi32_ok
 ·exact fi33_ok
 ·exact fi34_ok
 ·exact fi35_ok
 ·exact fi36_ok
 ·exact fi37_ok
 ·exact fi38_ok
 ·exact fi39_ok
 ·exact fi40_ok
 ·exact fi41_ok
 ·exact fi42_ok
 ·exact fi43_ok
 ·exact fi44_ok
 ·exact fi45_ok
 ·exact fi46_ok
 ·exact fi47_ok
 ·exact fi48_ok
 ·exact fi49_ok
 ·exact fi50_ok
 ·exact fi51_ok
 ·exact fi52_ok
 ·exact fi53_ok
 ·exact fi54_ok
 ·exact fi55_ok
 ·exact fi56_ok
 ·exact fi57_ok
 ·exact fi58_ok
 ·exact fi59_ok
 ·exact fi60_ok
 ·exact fi61_ok
 ·exact fi62_ok
 ·exact fi63_ok
 ·exact fi64_ok
 ·exact fi65_ok
 ·exact fi66_ok
 ·exact fi68_ok
 ·exact fi70_ok
 ·exact fi71_ok
 ·exact fi72_ok
 ·exact fi73_ok
 ·exact fi74_ok
 ·exact fi75_ok)
noncomputable abbrev base (R:Nat -> RoRow):Env Prop:=Env.base (lookT tl) (lookF fl) R
theorem base_ok (R:Nat -> RoRow):EnvOK Try.prog (base R) id:=EnvOK.base tl_ok fl_ok
end Go.Dc.Kb
