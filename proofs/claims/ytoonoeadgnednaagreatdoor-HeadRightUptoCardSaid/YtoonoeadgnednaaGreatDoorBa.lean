/- Walks of the program's functions and what they compute: contracts of calls; no condition beyond those that each theorem names. -/
import Derived.Test.YtoonoeadgnednaaGreatDoorKb
import Derived.Test.YtoonoeadgnednaaGreatDoorRows
import Derived.Test.YtoonoeadgnednaaGreatDoorKc
/- The table of this program's types. Written by a program of mine off the program's own types. -/
set_option linter.unusedVariables false
set_option maxRecDepth 100000
namespace Sp
open Go Go.Proofs

def tables : Tables where
  tys := [(1, ⟨1, false, [.nilf], 8⟩),
    (2, ⟨1, false, [.int .i64 0], 8⟩),
    (3, ⟨1, false, [.int .i64 0], 8⟩),
    (4, ⟨1, false, [.bool false], 1⟩),
    (5, ⟨1, false, [.int .u8 0], 1⟩),
    (6, ⟨1, false, [.int .u8 0], 1⟩),
    (7, ⟨4, true, [.int .i64 0, .int .i64 0, .bool false, .int .u8 0], 24⟩),
    (8, ⟨4, true, [.int .i64 0, .int .i64 0, .bool false, .int .u8 0], 24⟩),
    (9, ⟨1, false, [.any], 16⟩),
    (10, ⟨1, false, [.any], 16⟩),
    (11, ⟨1, false, [.any], 16⟩),
    (12, ⟨1, false, [.int .u64 0], 8⟩),
    (13, ⟨2, true, [.any, .int .u64 0], 24⟩),
    (14, ⟨2, true, [.any, .int .u64 0], 24⟩),
    (15, ⟨1, false, [.nilp], 8⟩),
    (16, ⟨1, false, [.nilp], 8⟩),
    (17, ⟨1, false, [.nilp], 8⟩),
    (18, ⟨1, true, [.nilp], 8⟩),
    (19, ⟨1, true, [.nilp], 8⟩),
    (20, ⟨1, false, [.nili], 16⟩),
    (21, ⟨1, false, [.int .i32 0], 4⟩),
    (22, ⟨1, false, [.emp], 24⟩),
    (23, ⟨1, false, [.int .i64 0], 8⟩),
    (24, ⟨1, false, [.emp], 24⟩),
    (25, ⟨1, false, [.emp], 24⟩),
    (26, ⟨5, true, [.int .i64 0, .int .i64 0, .int .i64 0, .emp, .emp], 72⟩),
    (27, ⟨5, true, [.int .i64 0, .int .i64 0, .int .i64 0, .emp, .emp], 72⟩),
    (28, ⟨1, false, [.nilf], 8⟩),
    (29, ⟨1, false, [.nilf], 8⟩),
    (30, ⟨1, false, [.emp], 24⟩),
    (31, ⟨1, false, [.nilf], 8⟩),
    (32, ⟨12, true, [.int .i64 0, .int .i64 0, .int .i64 0, .int .i64 0, .emp, .emp, .bool false, .int .i64 0, .int .i64 0, .int .i64 0, .emp, .emp], 160⟩),
    (33, ⟨12, true, [.int .i64 0, .int .i64 0, .int .i64 0, .int .i64 0, .emp, .emp, .bool false, .int .i64 0, .int .i64 0, .int .i64 0, .emp, .emp], 160⟩),
    (34, ⟨1, false, [.nilf], 8⟩),
    (35, ⟨1, false, [.nilf], 8⟩),
    (37, ⟨1, false, [.nilf], 8⟩),
    (38, ⟨1, false, [.nilf], 8⟩),
    (39, ⟨1, false, [.nilf], 8⟩),
    (40, ⟨1, false, [.nilf], 8⟩),
    (41, ⟨1, false, [.nilf], 8⟩),
    (42, ⟨1, false, [.nilf], 8⟩),
    (43, ⟨1, false, [.int .i64 0], 8⟩),
    (45, ⟨1, false, [.nilf], 8⟩),
    (46, ⟨1, false, [.nilf], 8⟩),
    (47, ⟨1, false, [.nilf], 8⟩),
    (48, ⟨1, false, [.nilf], 8⟩),
    (49, ⟨0, true, [], 0⟩),
    (50, ⟨0, true, [], 0⟩),
    (52, ⟨1, false, [.nilf], 8⟩),
    (53, ⟨2, true, [.int .i64 0, .int .i64 0], 16⟩),
    (54, ⟨2, true, [.int .i64 0, .int .i64 0], 16⟩),
    (55, ⟨1, false, [.any], 8⟩),
    (56, ⟨1, false, [.nilf], 8⟩),
    (57, ⟨4, true, [.int .i64 0, .int .i64 0, .emp, .any], 48⟩),
    (58, ⟨4, true, [.int .i64 0, .int .i64 0, .emp, .any], 48⟩),
    (59, ⟨1, false, [.nilf], 8⟩),
    (60, ⟨1, false, [.emp], 24⟩),
    (61, ⟨1, true, [.emp], 24⟩),
    (62, ⟨1, true, [.emp], 24⟩),
    (63, ⟨2, true, [.int .i64 0, .int .i64 0], 16⟩),
    (64, ⟨2, true, [.int .i64 0, .int .i64 0], 16⟩),
    (65, ⟨1, false, [.nilp], 8⟩),
    (66, ⟨1, false, [.nilf], 8⟩),
    (67, ⟨1, true, [.int .i64 0], 8⟩),
    (68, ⟨1, true, [.int .i64 0], 8⟩),
    (69, ⟨1, false, [.any], 8⟩),
    (70, ⟨5, true, [.int .i64 0, .emp, .bool false, .bool false, .any], 48⟩),
    (71, ⟨5, true, [.int .i64 0, .emp, .bool false, .bool false, .any], 48⟩),
    (72, ⟨1, false, [.nilf], 8⟩),
    (73, ⟨1, false, [.nilf], 8⟩),
    (74, ⟨1, false, [.nilf], 8⟩),
    (75, ⟨1, false, [.nilf], 8⟩),
    (76, ⟨0, true, [], 0⟩),
    (78, ⟨1, false, [.nilf], 8⟩),
    (79, ⟨1, false, [.nilf], 8⟩),
    (80, ⟨1, false, [.emp], 24⟩),
    (81, ⟨1, false, [.nilf], 8⟩),
    (82, ⟨1, false, [.nilf], 8⟩),
    (83, ⟨1, false, [.nilf], 8⟩),
    (85, ⟨1, false, [.nilf], 8⟩),
    (86, ⟨1, false, [.nilf], 8⟩),
    (87, ⟨1, false, [.nilf], 8⟩),
    (89, ⟨1, false, [.nilf], 8⟩),
    (90, ⟨1, false, [.nilf], 8⟩),
    (91, ⟨1, false, [.nilf], 8⟩),
    (93, ⟨1, false, [.nilf], 8⟩),
    (94, ⟨1, true, [.int .i64 0], 8⟩),
    (95, ⟨1, true, [.int .i64 0], 8⟩),
    (96, ⟨1, false, [.nilf], 8⟩),
    (97, ⟨2, true, [.int .i64 0, .nilf], 16⟩),
    (98, ⟨2, true, [.int .i64 0, .nilf], 16⟩),
    (100, ⟨1, false, [.nilf], 8⟩),
    (101, ⟨1, false, [.nilf], 8⟩),
    (102, ⟨1, false, [.nilf], 8⟩),
    (103, ⟨1, false, [.nilf], 8⟩),
    (104, ⟨1, false, [.nilf], 8⟩),
    (105, ⟨5, true, [.bool false, .bool false, .int .i64 0, .int .i64 0, .int .i64 0], 32⟩),
    (106, ⟨5, true, [.bool false, .bool false, .int .i64 0, .int .i64 0, .int .i64 0], 32⟩),
    (108, ⟨1, false, [.nilf], 8⟩),
    (109, ⟨1, false, [.nilf], 8⟩),
    (110, ⟨1, false, [.nilf], 8⟩),
    (111, ⟨1, false, [.nilf], 8⟩),
    (112, ⟨1, false, [.nilf], 8⟩),
    (113, ⟨1, false, [.nilf], 8⟩),
    (115, ⟨1, false, [.nilf], 8⟩),
    (116, ⟨1, false, [.nilf], 8⟩),
    (117, ⟨1, false, [.nilf], 8⟩),
    (118, ⟨1, false, [.nilf], 8⟩),
    (119, ⟨1, false, [.nilf], 8⟩),
    (121, ⟨1, false, [.nilf], 8⟩),
    (122, ⟨1, false, [.nilf], 8⟩),
    (123, ⟨1, false, [.nilp], 8⟩),
    (124, ⟨1, false, [.nilf], 8⟩),
    (125, ⟨1, false, [.nilf], 8⟩),
    (126, ⟨1, false, [.nilf], 8⟩),
    (127, ⟨1, false, [.nilf], 8⟩),
    (128, ⟨1, false, [.nilf], 8⟩),
    (129, ⟨1, false, [.nilf], 8⟩),
    (130, ⟨1, false, [.nilf], 8⟩),
    (131, ⟨1, false, [.nilf], 8⟩),
    (132, ⟨1, false, [.nilf], 8⟩),
    (133, ⟨1, false, [.nilf], 8⟩),
    (134, ⟨1, false, [.nilf], 8⟩),
    (135, ⟨1, false, [.any], 8⟩),
    (136, ⟨1, true, [.any], 8⟩),
    (137, ⟨1, true, [.any], 8⟩),
    (138, ⟨1, true, [.any], 8⟩),
    (139, ⟨1, true, [.any], 8⟩),
    (140, ⟨1, false, [.nilf], 8⟩),
    (141, ⟨1, false, [.nilf], 8⟩),
    (142, ⟨1, false, [.nilf], 8⟩),
    (143, ⟨0, true, [], 0⟩),
    (145, ⟨1, false, [.nilf], 8⟩),
    (146, ⟨1, false, [.nilf], 8⟩),
    (147, ⟨1, false, [.nilf], 8⟩),
    (148, ⟨1, false, [.nilf], 8⟩),
    (149, ⟨1, false, [.nilf], 8⟩),
    (150, ⟨1, false, [.nilf], 8⟩),
    (151, ⟨1, false, [.nilf], 8⟩),
    (152, ⟨1, false, [.nilf], 8⟩),
    (153, ⟨1, false, [.nilf], 8⟩),
    (154, ⟨1, false, [.nilf], 8⟩),
    (155, ⟨1, false, [.int .u64 0], 8⟩),
    (156, ⟨1, false, [.nilf], 8⟩),
    (157, ⟨1, false, [.int .i64 0], 8⟩),
    (159, ⟨1, false, [.nilf], 8⟩),
    (160, ⟨1, false, [.nilf], 8⟩),
    (161, ⟨1, false, [.nilf], 8⟩),
    (162, ⟨1, false, [.nilf], 8⟩),
    (163, ⟨1, false, [.nilf], 8⟩),
    (164, ⟨1, false, [.nilf], 8⟩),
    (165, ⟨1, false, [.int .u32 0], 4⟩),
    (166, ⟨1, false, [.nilf], 8⟩),
    (167, ⟨1, false, [.int .u64 0], 8⟩),
    (168, ⟨1, false, [.int .u64 0], 8⟩),
    (169, ⟨1, false, [.nilf], 8⟩),
    (170, ⟨1, false, [.nilf], 8⟩),
    (171, ⟨1, false, [.nilf], 8⟩),
    (172, ⟨1, false, [.nilp], 8⟩),
    (173, ⟨1, false, [.nilf], 8⟩),
    (174, ⟨1, false, [.nilp], 8⟩),
    (176, ⟨1, false, [.nilf], 8⟩),
    (177, ⟨1, false, [.nilf], 8⟩),
    (178, ⟨4, true, [.nilp, .nilp, .nilp, .any], 40⟩),
    (179, ⟨4, true, [.nilp, .nilp, .nilp, .any], 40⟩),
    (181, ⟨0, true, [], 0⟩),
    (182, ⟨0, true, [], 0⟩),
    (183, ⟨1, false, [.nilf], 8⟩),
    (184, ⟨1, false, [.int .u8 0], 1⟩),
    (185, ⟨1, false, [.int .u8 0], 1⟩),
    (186, ⟨1, false, [.nilf], 8⟩),
    (187, ⟨1, false, [.nilp], 8⟩),
    (188, ⟨1, false, [.int .i32 0], 4⟩),
    (189, ⟨1, false, [.int .i32 0], 4⟩),
    (190, ⟨11, true, [.int .u64 0, .int .u64 0, .int .u32 0, .int .u8 0, .int .u8 0, .int .u8 0, .int .u8 0, .nilf, .nilp, .int .i32 0, .int .i32 0], 48⟩),
    (191, ⟨11, true, [.int .u64 0, .int .u64 0, .int .u32 0, .int .u8 0, .int .u8 0, .int .u8 0, .int .u8 0, .nilf, .nilp, .int .i32 0, .int .i32 0], 48⟩)]
  flds := [(7, [0, 1, 2, 3]),
    (8, [0, 1, 2, 3]),
    (13, [0, 1]),
    (14, [0, 1]),
    (18, [0]),
    (19, [0]),
    (26, [0, 1, 2, 3, 4]),
    (27, [0, 1, 2, 3, 4]),
    (32, [0, 1, 6, 7]),
    (33, [0, 1, 6, 7]),
    (53, [0, 1]),
    (54, [0, 1]),
    (57, [0, 2, 3]),
    (58, [0, 2, 3]),
    (61, [0]),
    (62, [0]),
    (63, [0, 1]),
    (64, [0, 1]),
    (67, [0]),
    (68, [0]),
    (70, [0, 1, 2, 3, 4]),
    (71, [0, 1, 2, 3, 4]),
    (94, [0]),
    (95, [0]),
    (97, [0, 1]),
    (98, [0, 1]),
    (105, [0, 1, 2, 3, 4]),
    (106, [0, 1, 2, 3, 4]),
    (136, [0]),
    (137, [0]),
    (138, [0]),
    (139, [0]),
    (178, [0, 1, 2, 3]),
    (179, [0, 1, 2, 3]),
    (190, [0, 1, 2, 3, 4, 5, 6, 7, 8, 9, 10]),
    (191, [0, 1, 2, 3, 4, 5, 6, 7, 8, 9, 10])]
  elems := [(22, 33), (24, 62), (25, 27), (30, 3), (60, 64), (80, 4)]
  plcs := [(7, [(0, 1), (1, 1), (2, 1), (3, 1)]),
    (8, [(0, 1), (1, 1), (2, 1), (3, 1)]),
    (13, [(0, 1), (1, 1)]),
    (14, [(0, 1), (1, 1)]),
    (18, [(0, 1)]),
    (19, [(0, 1)]),
    (26, [(0, 1), (1, 1), (2, 1), (3, 1), (4, 1)]),
    (27, [(0, 1), (1, 1), (2, 1), (3, 1), (4, 1)]),
    (32, [(0, 1), (1, 5), (6, 1), (7, 5)]),
    (33, [(0, 1), (1, 5), (6, 1), (7, 5)]),
    (53, [(0, 1), (1, 1)]),
    (54, [(0, 1), (1, 1)]),
    (57, [(0, 2), (2, 1), (3, 1)]),
    (58, [(0, 2), (2, 1), (3, 1)]),
    (61, [(0, 1)]),
    (62, [(0, 1)]),
    (63, [(0, 1), (1, 1)]),
    (64, [(0, 1), (1, 1)]),
    (67, [(0, 1)]),
    (68, [(0, 1)]),
    (70, [(0, 1), (1, 1), (2, 1), (3, 1), (4, 1)]),
    (71, [(0, 1), (1, 1), (2, 1), (3, 1), (4, 1)]),
    (94, [(0, 1)]),
    (95, [(0, 1)]),
    (97, [(0, 1), (1, 1)]),
    (98, [(0, 1), (1, 1)]),
    (105, [(0, 1), (1, 1), (2, 1), (3, 1), (4, 1)]),
    (106, [(0, 1), (1, 1), (2, 1), (3, 1), (4, 1)]),
    (136, [(0, 1)]),
    (137, [(0, 1)]),
    (138, [(0, 1)]),
    (139, [(0, 1)]),
    (178, [(0, 1), (1, 1), (2, 1), (3, 1)]),
    (179, [(0, 1), (1, 1), (2, 1), (3, 1)]),
    (190, [(0, 1), (1, 1), (2, 1), (3, 1), (4, 1), (5, 1), (6, 1), (7, 1), (8, 1), (9, 1), (10, 1)]),
    (191, [(0, 1), (1, 1), (2, 1), (3, 1), (4, 1), (5, 1), (6, 1), (7, 1), (8, 1), (9, 1), (10, 1)])]

theorem t1 : tables.tys.all (fun p => tokB Tryz.prog p.1 p.2) = true := by kernel_rfl
theorem t2 : tables.flds.all (fun p => fokB Tryz.prog p.1 p.2) = true := by kernel_rfl
theorem t3 : tables.elems.all (fun p => eokB Tryz.prog p.1 p.2) = true := by kernel_rfl
theorem t4 : tables.plcs.all (fun p => pokB Tryz.prog p.1 p.2) = true := by kernel_rfl
theorem t5 : tables.elems.all (fun p => match lookupN tables.tys p.2 with | some i => Nat.blt 0 i.size | none => true) = true := by kernel_rfl
noncomputable def X : PT := PT.of Tryz.prog tables t1 t2 t3 t4 t5
theorem mixed : X.P.follows .mixedOrders = true := by kernel_rfl

end Sp

/- The walks of the kit's counting and of terms. Written by a program of mine. -/
set_option linter.unusedVariables false
set_option linter.unusedSimpArgs false
set_option maxRecDepth 20000
namespace Sp
open Go Go.Proofs

theorem binds_c (k i : Int) : AFn X 45 [.int .i64 k, .int .i64 i] (.bool (binds k i)) := by
  refine ACalls.of_code Tryz.func45 rfl (by rfl) (Nat.le_of_ble_eq_true rfl) ?_
  refine ACode.seq ?_
  refine ACode.region ?_
  refine AOps.v rfl rfl rfl (AVal.assignN (by constructor)) ?_
  refine AOps.nil ?_
  refine ACode.seq ?_
  refine ACode.region ?_
  refine AOps.v rfl rfl rfl (AVal.moveN (by constructor)) ?_
  refine AOps.v rfl rfl rfl (AVal.gtr rfl rfl) ?_
  refine AOps.v rfl rfl rfl (AVal.moveN (by constructor)) ?_
  refine AOps.split 7 rfl (fun h7 => ?_) (fun h7 => ?_)
  ·
    try simp only [decide_eq_true_eq, decide_eq_false_iff_not, Bool.not_eq_true', Bool.not_eq_false', Bool.and_eq_true, Bool.or_eq_true, beq_iff_eq, beq_eq_false_iff_ne] at h7
    refine AOps.vT rfl rfl rfl rfl rfl rfl (AVal.moveN (by constructor)) ?_
    refine AOps.vT rfl rfl rfl rfl rfl rfl (AVal.lss rfl rfl) ?_
    refine AOps.v rfl rfl rfl (AVal.pickT rfl (by constructor)) ?_
    refine AOps.v rfl rfl rfl (AVal.moveN (by constructor)) ?_
    refine AOps.split 11 rfl (fun h11 => ?_) (fun h11 => ?_)
    ·
      try simp only [decide_eq_true_eq, decide_eq_false_iff_not, Bool.not_eq_true', Bool.not_eq_false', Bool.and_eq_true, Bool.or_eq_true, beq_iff_eq, beq_eq_false_iff_ne] at h11
      refine AOps.vT rfl rfl rfl rfl rfl rfl (AVal.moveN (by constructor)) ?_
      refine AOps.vT rfl rfl rfl rfl rfl rfl (AVal.geq rfl rfl) ?_
      refine AOps.v rfl rfl rfl (AVal.pickT rfl (by constructor)) ?_
      refine AOps.v rfl rfl rfl (AVal.moveN (by constructor)) ?_
      refine AOps.split 15 rfl (fun h15 => ?_) (fun h15 => ?_)
      ·
        try simp only [decide_eq_true_eq, decide_eq_false_iff_not, Bool.not_eq_true', Bool.not_eq_false', Bool.and_eq_true, Bool.or_eq_true, beq_iff_eq, beq_eq_false_iff_ne] at h15
        refine AOps.vT rfl rfl rfl rfl rfl rfl (AVal.moveN (by constructor)) ?_
        refine AOps.vT rfl rfl rfl rfl rfl rfl (AVal.indexG rfl rfl (by kernel_rfl) (by omega)) ?_
        refine AOps.vT rfl rfl rfl rfl rfl rfl (AVal.fieldE rfl rfl) ?_
        refine AOps.vT rfl rfl rfl rfl rfl rfl (AVal.loadEN rfl rfl rfl (by constructor)) ?_
        refine AOps.vT rfl rfl rfl rfl rfl rfl (AVal.moveN (by constructor)) ?_
        refine AOps.vT rfl rfl rfl rfl rfl rfl (AVal.eql rfl rfl) ?_
        refine AOps.v rfl rfl rfl (AVal.pickT rfl (by constructor)) ?_
        refine AOps.v rfl rfl rfl (AVal.assignN (by constructor)) ?_
        refine AOps.nil ?_
        refine ACode.ret ?_
        refine AFin.pureRet rfl (.cons rfl .nil) ?_
        exact D.Le.eq (congrArg D.bool (by simp [binds, *] <;> omega))
      ·
        try simp only [decide_eq_true_eq, decide_eq_false_iff_not, Bool.not_eq_true', Bool.not_eq_false', Bool.and_eq_true, Bool.or_eq_true, beq_iff_eq, beq_eq_false_iff_ne] at h15
        refine AOps.vF rfl rfl rfl rfl rfl rfl rfl ?_
        refine AOps.vF rfl rfl rfl rfl rfl rfl rfl ?_
        refine AOps.vF rfl rfl rfl rfl rfl rfl rfl ?_
        refine AOps.vF rfl rfl rfl rfl rfl rfl rfl ?_
        refine AOps.vF rfl rfl rfl rfl rfl rfl rfl ?_
        refine AOps.vF rfl rfl rfl rfl rfl rfl rfl ?_
        refine AOps.v rfl rfl rfl (AVal.pickF rfl (by constructor)) ?_
        refine AOps.v rfl rfl rfl (AVal.assignN (by constructor)) ?_
        refine AOps.nil ?_
        refine ACode.ret ?_
        refine AFin.pureRet rfl (.cons rfl .nil) ?_
        exact D.Le.eq (congrArg D.bool (by simp [binds, *] <;> omega))
    ·
      try simp only [decide_eq_true_eq, decide_eq_false_iff_not, Bool.not_eq_true', Bool.not_eq_false', Bool.and_eq_true, Bool.or_eq_true, beq_iff_eq, beq_eq_false_iff_ne] at h11
      refine AOps.vF rfl rfl rfl rfl rfl rfl rfl ?_
      refine AOps.vF rfl rfl rfl rfl rfl rfl rfl ?_
      refine AOps.v rfl rfl rfl (AVal.pickF rfl (by constructor)) ?_
      refine AOps.v rfl rfl rfl (AVal.moveN (by constructor)) ?_
      refine AOps.vF rfl rfl rfl rfl rfl rfl rfl ?_
      refine AOps.vF rfl rfl rfl rfl rfl rfl rfl ?_
      refine AOps.vF rfl rfl rfl rfl rfl rfl rfl ?_
      refine AOps.vF rfl rfl rfl rfl rfl rfl rfl ?_
      refine AOps.vF rfl rfl rfl rfl rfl rfl rfl ?_
      refine AOps.vF rfl rfl rfl rfl rfl rfl rfl ?_
      refine AOps.v rfl rfl rfl (AVal.pickF rfl (by constructor)) ?_
      refine AOps.v rfl rfl rfl (AVal.assignN (by constructor)) ?_
      refine AOps.nil ?_
      refine ACode.ret ?_
      refine AFin.pureRet rfl (.cons rfl .nil) ?_
      exact D.Le.eq (congrArg D.bool (by simp [binds, *] <;> omega))
  ·
    try simp only [decide_eq_true_eq, decide_eq_false_iff_not, Bool.not_eq_true', Bool.not_eq_false', Bool.and_eq_true, Bool.or_eq_true, beq_iff_eq, beq_eq_false_iff_ne] at h7
    refine AOps.vF rfl rfl rfl rfl rfl rfl rfl ?_
    refine AOps.vF rfl rfl rfl rfl rfl rfl rfl ?_
    refine AOps.v rfl rfl rfl (AVal.pickF rfl (by constructor)) ?_
    refine AOps.v rfl rfl rfl (AVal.moveN (by constructor)) ?_
    refine AOps.vF rfl rfl rfl rfl rfl rfl rfl ?_
    refine AOps.vF rfl rfl rfl rfl rfl rfl rfl ?_
    refine AOps.v rfl rfl rfl (AVal.pickF rfl (by constructor)) ?_
    refine AOps.v rfl rfl rfl (AVal.moveN (by constructor)) ?_
    refine AOps.vF rfl rfl rfl rfl rfl rfl rfl ?_
    refine AOps.vF rfl rfl rfl rfl rfl rfl rfl ?_
    refine AOps.vF rfl rfl rfl rfl rfl rfl rfl ?_
    refine AOps.vF rfl rfl rfl rfl rfl rfl rfl ?_
    refine AOps.vF rfl rfl rfl rfl rfl rfl rfl ?_
    refine AOps.vF rfl rfl rfl rfl rfl rfl rfl ?_
    refine AOps.v rfl rfl rfl (AVal.pickF rfl (by constructor)) ?_
    refine AOps.v rfl rfl rfl (AVal.assignN (by constructor)) ?_
    refine AOps.nil ?_
    refine ACode.ret ?_
    refine AFin.pureRet rfl (.cons rfl .nil) ?_
    exact D.Le.eq (congrArg D.bool (by simp [binds, *] <;> omega))

theorem size_c  : ∀ (m : Nat) (t : Term), t.sz = m → t.fit 9223372036854775807 → AFn X 81 [encT t] (.int .i64 (w64 t.sz)) := by
  intro m
  induction m using Nat.strongRecOn with
  | _ m ih =>
  intro t hm hf
  refine ACalls.of_code Tryz.func81 rfl (by rfl) (Nat.le_of_ble_eq_true rfl) ?_
  refine ACode.seq ?_
  refine ACode.region ?_
  refine AOps.e rfl rfl rfl (AOp.boxA rfl (fun b1 => ?_))
  refine AOps.v rfl rfl rfl (AVal.assignN (by constructor)) ?_
  refine AOps.nil ?_
  refine ACode.seq ?_
  refine ACode.region ?_
  refine AOps.v rfl rfl rfl (AVal.assignN (by constructor)) ?_
  refine AOps.nil ?_
  refine ACode.seq ?_
  refine ACode.seq ?_
  refine ACode.region ?_
  refine AOps.v rfl rfl rfl (AVal.fieldP rfl rfl) ?_
  refine AOps.v rfl rfl rfl (AVal.loadPN 0 rfl rfl rfl rfl (by constructor)) ?_
  refine AOps.v rfl rfl rfl (AVal.len rfl rfl rfl) ?_
  refine AOps.v rfl rfl rfl (AVal.moveN (by constructor)) ?_
  refine AOps.nil ?_
  refine ACode.block ?_
  refine ACode.loop (γ := Nat) (fun g => [(7, .slT t.kids), (8, .int .i64 t.kids.length), (9, .int .i64 g), (3, .int .i64 (w64 (1 + Term.szs (t.kids.take g))))]) (fun g => []) (fun g => g ≤ t.kids.length) (fun g => t.kids.length - g) 0 (Nat.zero_le _) (by repeat first | exact Agree.nil | refine Agree.cons (.refl _) ?_) (by repeat first | exact List.Sublist.refl _ | apply List.Sublist.cons_cons | apply List.Sublist.cons | exact List.nil_sublist _) ?_
  intro i hi t1
  have hlen := hf.len
  refine ACode.seq ?_
  refine ACode.region ?_
  refine AOps.v rfl rfl rfl (AVal.lss rfl rfl) ?_
  refine AOps.nil ?_
  refine ACode.seq ?_
  refine ACode.condS rfl (fun h10 => ?_) (fun h10 => ?_)
  ·
    try simp only [decide_eq_true_eq, decide_eq_false_iff_not, Bool.not_eq_true', Bool.not_eq_false', Bool.and_eq_true, Bool.or_eq_true, beq_iff_eq, beq_eq_false_iff_ne] at h10
    have hlt : i < t.kids.length := by omega
    refine ACode.skip ?_
    refine ACode.seq ?_
    refine ACode.block ?_
    refine ACode.seq ?_
    refine ACode.region ?_
    refine AOps.v rfl rfl rfl (AVal.indexTN rfl rfl rfl rfl rfl ⟨by omega, by omega⟩) ?_
    refine AOps.v rfl rfl rfl (AVal.loadE (d := encT _) rfl rfl rfl) ?_
    refine AOps.e rfl rfl rfl (AOp.allocN rfl rfl (fun b5 => ?_))
    refine AOps.e0 rfl rfl (AOp.storeN 0 rfl rfl rfl (by constructor) rfl rfl rfl (by repeat constructor) (by repeat constructor) ?_)
    refine AOps.nil ?_
    refine ACode.region ?_
    refine AOps.v rfl rfl rfl (AVal.moveN (by constructor)) ?_
    refine AOps.v rfl rfl rfl (AVal.loadP (d := encT _) 0 rfl rfl rfl rfl) ?_
    refine AOps.e rfl rfl rfl (AOp.callP (ih (t.kids.getD i default).sz (by rw [← hm]; exact Term.sz_lt (getD_mem hlt)) _ rfl (hf.kid (getD_mem hlt))) (by first | exact LeL.eq rfl | (repeat constructor)) ?_)
    refine AOps.v rfl rfl rfl (AVal.add rfl rfl) ?_
    refine AOps.v rfl rfl rfl (AVal.assignN (by constructor)) ?_
    refine AOps.nil ?_
    refine ACode.region ?_
    refine AOps.v rfl rfl rfl (AVal.addn rfl rfl (by omega)) ?_
    refine AOps.v rfl rfl rfl (AVal.moveN (by constructor)) ?_
    refine AOps.nil ?_
    refine ⟨i + 1, by omega, by omega, rfl, (by refine Agree.cons (.refl _) (Agree.cons (.refl _) (Agree.cons (.refl _) (Agree.cons (D.Le.eq (congrArg (D.int .i64) ((w64_add _ _).trans (congrArg w64 ?_)))) Agree.nil))); rw [Term.szs_take_succ hlt]; omega), (by repeat first | exact List.Sublist.refl _ | apply List.Sublist.cons_cons | apply List.Sublist.cons | exact List.nil_sublist _)⟩
  ·
    try simp only [decide_eq_true_eq, decide_eq_false_iff_not, Bool.not_eq_true', Bool.not_eq_false', Bool.and_eq_true, Bool.or_eq_true, beq_iff_eq, beq_eq_false_iff_ne] at h10
    refine ACode.exit ?_
    refine ACode.seq ?_
    refine ACode.region ?_
    refine AOps.v rfl rfl rfl (AVal.moveN (by constructor)) ?_
    refine AOps.v rfl rfl rfl (AVal.assignN (by constructor)) ?_
    refine AOps.nil ?_
    refine ACode.ret ?_
    refine AFin.pureRet rfl (.cons rfl .nil) ?_
    exact D.Le.eq (congrArg (D.int .i64) (by rw [List.take_of_length_le (by omega), Term.sz_eq]; rfl))

theorem levelOf_c (l : Level) (q : Int) : AFn X 63 [encL l, .int .i64 q] (.int .i64 (levelOfM l q)) := by
  refine ACalls.of_code Tryz.func63 rfl (by rfl) (Nat.le_of_ble_eq_true rfl) ?_
  refine ACode.seq ?_
  refine ACode.region ?_
  refine AOps.e rfl rfl rfl (AOp.boxA rfl (fun b2 => ?_))
  refine AOps.v rfl rfl rfl (AVal.assignN (by constructor)) ?_
  refine AOps.nil ?_
  refine ACode.seq ?_
  refine ACode.region ?_
  refine AOps.v rfl rfl rfl (AVal.fieldP rfl rfl) ?_
  refine AOps.v rfl rfl rfl (AVal.loadPN 0 rfl rfl rfl rfl (by constructor)) ?_
  refine AOps.v rfl rfl rfl (AVal.len rfl rfl rfl) ?_
  refine AOps.v rfl rfl rfl (AVal.add rfl rfl) ?_
  refine AOps.v rfl rfl rfl (AVal.moveN (by constructor)) ?_
  refine AOps.v rfl rfl rfl (AVal.add rfl rfl) ?_
  refine AOps.v rfl rfl rfl (AVal.min rfl rfl) ?_
  refine AOps.v rfl rfl rfl (AVal.assignN (by constructor)) ?_
  refine AOps.nil ?_
  refine ACode.ret ?_
  refine AFin.pureRet rfl (.cons rfl .nil) ?_
  exact D.Le.eq (congrArg (D.int .i64) (rfl))

theorem levelsOf_c (ls : List Level) (q : Int) (hl : ls.length ≤ 9223372036854775807) : AFn X 30 [.slL ls, .int .i64 q] (.int .i64 (levelsGo q 0 ls)) := by
  refine ACalls.of_code Tryz.func30 rfl (by rfl) (Nat.le_of_ble_eq_true rfl) ?_
  refine ACode.seq ?_
  refine ACode.region ?_
  refine AOps.v rfl rfl rfl (AVal.assignN (by constructor)) ?_
  refine AOps.nil ?_
  refine ACode.seq ?_
  refine ACode.region ?_
  refine AOps.v rfl rfl rfl (AVal.assignN (by constructor)) ?_
  refine AOps.nil ?_
  refine ACode.seq ?_
  refine ACode.seq ?_
  refine ACode.region ?_
  refine AOps.v rfl rfl rfl (AVal.assignN (by constructor)) ?_
  refine AOps.nil ?_
  refine ACode.block ?_
  refine ACode.loop (γ := Nat × Int) (fun g => [(0, .slL ls), (1, .int .i64 q), (5, .int .i64 g.2), (6, .int .i64 g.1)]) (fun g => []) (fun g => g.1 ≤ ls.length ∧ levelsGo q g.2 (ls.drop g.1) = levelsGo q 0 ls) (fun g => ls.length - g.1) (0, 0) ⟨Nat.zero_le _, by simp⟩ (by repeat first | exact Agree.nil | refine Agree.cons (.refl _) ?_) (by repeat first | exact List.Sublist.refl _ | apply List.Sublist.cons_cons | apply List.Sublist.cons | exact List.nil_sublist _) ?_
  rintro ⟨i, n⟩ ⟨hi, hg⟩ t1
  simp only at hi hg ⊢
  refine ACode.seq ?_
  refine ACode.seq ?_
  refine ACode.region ?_
  refine AOps.v rfl rfl rfl (AVal.moveN (by constructor)) ?_
  refine AOps.v rfl rfl rfl (AVal.moveN (by constructor)) ?_
  refine AOps.v rfl rfl rfl (AVal.len rfl rfl rfl) ?_
  refine AOps.v rfl rfl rfl (AVal.lss rfl rfl) ?_
  refine AOps.v rfl rfl rfl (AVal.moveN (by constructor)) ?_
  refine AOps.split 11 rfl (fun h11 => ?_) (fun h11 => ?_)
  ·
    try simp only [decide_eq_true_eq, decide_eq_false_iff_not, Bool.not_eq_true', Bool.not_eq_false', Bool.and_eq_true, Bool.or_eq_true, beq_iff_eq, beq_eq_false_iff_ne] at h11
    refine AOps.vT rfl rfl rfl rfl rfl rfl (AVal.moveN (by constructor)) ?_
    refine AOps.vT rfl rfl rfl rfl rfl rfl (AVal.moveN (by constructor)) ?_
    refine AOps.vT rfl rfl rfl rfl rfl rfl (AVal.leq rfl rfl) ?_
    refine AOps.v rfl rfl rfl (AVal.pickT rfl (by constructor)) ?_
    refine AOps.nil ?_
    refine ACode.condS rfl (fun h15 => ?_) (fun h15 => ?_)
    ·
      try simp only [decide_eq_true_eq, decide_eq_false_iff_not, Bool.not_eq_true', Bool.not_eq_false', Bool.and_eq_true, Bool.or_eq_true, beq_iff_eq, beq_eq_false_iff_ne] at h15
      have hlt : i < ls.length := by omega
      refine ACode.skip ?_
      refine ACode.seq ?_
      refine ACode.block ?_
      refine ACode.region ?_
      refine AOps.v rfl rfl rfl (AVal.moveN (by constructor)) ?_
      refine AOps.v rfl rfl rfl (AVal.moveN (by constructor)) ?_
      refine AOps.v rfl rfl rfl (AVal.moveN (by constructor)) ?_
      refine AOps.v rfl rfl rfl (AVal.indexLN rfl rfl rfl rfl rfl ⟨by omega, by omega⟩) ?_
      refine AOps.v rfl rfl rfl (AVal.loadE (d := encL _) rfl rfl rfl) ?_
      refine AOps.v rfl rfl rfl (AVal.moveN (by constructor)) ?_
      refine AOps.e rfl rfl rfl (AOp.callP (levelOf_c _ _) (by first | exact LeL.eq rfl | (repeat constructor)) ?_)
      refine AOps.v rfl rfl rfl (AVal.add rfl rfl) ?_
      refine AOps.v rfl rfl rfl (AVal.assignN (by constructor)) ?_
      refine AOps.nil ?_
      refine ACode.region ?_
      refine AOps.v rfl rfl rfl (AVal.moveN (by constructor)) ?_
      refine AOps.v rfl rfl rfl (AVal.addn rfl rfl (by omega)) ?_
      refine AOps.v rfl rfl rfl (AVal.assignN (by constructor)) ?_
      refine AOps.nil ?_
      refine ⟨(i + 1, w64 (n + levelOfM (ls.getD i default) q)), ⟨by simp only; omega, by simp only; rw [← hg, drop_getD hlt, levelsGo, if_pos h15]⟩, by simp only; omega, rfl, (by repeat first | exact Agree.nil | refine Agree.cons (.refl _) ?_), (by repeat first | exact List.Sublist.refl _ | apply List.Sublist.cons_cons | apply List.Sublist.cons | exact List.nil_sublist _)⟩
    ·
      try simp only [decide_eq_true_eq, decide_eq_false_iff_not, Bool.not_eq_true', Bool.not_eq_false', Bool.and_eq_true, Bool.or_eq_true, beq_iff_eq, beq_eq_false_iff_ne] at h15
      refine ACode.exit ?_
      refine ACode.seq ?_
      refine ACode.region ?_
      refine AOps.v rfl rfl rfl (AVal.moveN (by constructor)) ?_
      refine AOps.v rfl rfl rfl (AVal.assignN (by constructor)) ?_
      refine AOps.nil ?_
      refine ACode.ret ?_
      refine AFin.pureRet rfl (.cons rfl .nil) ?_
      exact D.Le.eq (congrArg (D.int .i64) (by rw [← hg, levelsGo_stop (by omega)]))
  ·
    try simp only [decide_eq_true_eq, decide_eq_false_iff_not, Bool.not_eq_true', Bool.not_eq_false', Bool.and_eq_true, Bool.or_eq_true, beq_iff_eq, beq_eq_false_iff_ne] at h11
    refine AOps.vF rfl rfl rfl rfl rfl rfl rfl ?_
    refine AOps.vF rfl rfl rfl rfl rfl rfl rfl ?_
    refine AOps.vF rfl rfl rfl rfl rfl rfl rfl ?_
    refine AOps.v rfl rfl rfl (AVal.pickF rfl (by constructor)) ?_
    refine AOps.nil ?_
    refine ACode.condF rfl ?_
    refine ACode.exit ?_
    refine ACode.seq ?_
    refine ACode.region ?_
    refine AOps.v rfl rfl rfl (AVal.moveN (by constructor)) ?_
    refine AOps.v rfl rfl rfl (AVal.assignN (by constructor)) ?_
    refine AOps.nil ?_
    refine ACode.ret ?_
    refine AFin.pureRet rfl (.cons rfl .nil) ?_
    exact D.Le.eq (congrArg (D.int .i64) (by rw [← hg, List.drop_of_length_le (by omega), levelsGo]))

theorem termsOf_c (ts : List Term) (q : Int) (hl : ts.length ≤ 9223372036854775807) (h : ∀ k ∈ ts, ∀ q, AFn X 19 [encT k, .int .i64 q] (.int .i64 (termOfM q k))) : AFn X 31 [.slT ts, .int .i64 q] (.int .i64 (termsGo q 0 ts)) := by
  refine ACalls.of_code Tryz.func31 rfl (by rfl) (Nat.le_of_ble_eq_true rfl) ?_
  refine ACode.seq ?_
  refine ACode.region ?_
  refine AOps.v rfl rfl rfl (AVal.assignN (by constructor)) ?_
  refine AOps.nil ?_
  refine ACode.seq ?_
  refine ACode.region ?_
  refine AOps.v rfl rfl rfl (AVal.assignN (by constructor)) ?_
  refine AOps.nil ?_
  refine ACode.seq ?_
  refine ACode.seq ?_
  refine ACode.region ?_
  refine AOps.v rfl rfl rfl (AVal.assignN (by constructor)) ?_
  refine AOps.nil ?_
  refine ACode.block ?_
  refine ACode.loop (γ := Nat × Int) (fun g => [(0, .slT ts), (1, .int .i64 q), (5, .int .i64 g.2), (6, .int .i64 g.1)]) (fun g => []) (fun g => g.1 ≤ ts.length ∧ termsGo q g.2 (ts.drop g.1) = termsGo q 0 ts) (fun g => ts.length - g.1) (0, 0) ⟨Nat.zero_le _, by simp⟩ (by repeat first | exact Agree.nil | refine Agree.cons (.refl _) ?_) (by repeat first | exact List.Sublist.refl _ | apply List.Sublist.cons_cons | apply List.Sublist.cons | exact List.nil_sublist _) ?_
  rintro ⟨i, n⟩ ⟨hi, hg⟩ t1
  simp only at hi hg ⊢
  refine ACode.seq ?_
  refine ACode.seq ?_
  refine ACode.region ?_
  refine AOps.v rfl rfl rfl (AVal.moveN (by constructor)) ?_
  refine AOps.v rfl rfl rfl (AVal.moveN (by constructor)) ?_
  refine AOps.v rfl rfl rfl (AVal.len rfl rfl rfl) ?_
  refine AOps.v rfl rfl rfl (AVal.lss rfl rfl) ?_
  refine AOps.v rfl rfl rfl (AVal.moveN (by constructor)) ?_
  refine AOps.split 11 rfl (fun h11 => ?_) (fun h11 => ?_)
  ·
    try simp only [decide_eq_true_eq, decide_eq_false_iff_not, Bool.not_eq_true', Bool.not_eq_false', Bool.and_eq_true, Bool.or_eq_true, beq_iff_eq, beq_eq_false_iff_ne] at h11
    refine AOps.vT rfl rfl rfl rfl rfl rfl (AVal.moveN (by constructor)) ?_
    refine AOps.vT rfl rfl rfl rfl rfl rfl (AVal.moveN (by constructor)) ?_
    refine AOps.vT rfl rfl rfl rfl rfl rfl (AVal.leq rfl rfl) ?_
    refine AOps.v rfl rfl rfl (AVal.pickT rfl (by constructor)) ?_
    refine AOps.nil ?_
    refine ACode.condS rfl (fun h15 => ?_) (fun h15 => ?_)
    ·
      try simp only [decide_eq_true_eq, decide_eq_false_iff_not, Bool.not_eq_true', Bool.not_eq_false', Bool.and_eq_true, Bool.or_eq_true, beq_iff_eq, beq_eq_false_iff_ne] at h15
      have hlt : i < ts.length := by omega
      refine ACode.skip ?_
      refine ACode.seq ?_
      refine ACode.block ?_
      refine ACode.region ?_
      refine AOps.v rfl rfl rfl (AVal.moveN (by constructor)) ?_
      refine AOps.v rfl rfl rfl (AVal.moveN (by constructor)) ?_
      refine AOps.v rfl rfl rfl (AVal.moveN (by constructor)) ?_
      refine AOps.v rfl rfl rfl (AVal.indexTN rfl rfl rfl rfl rfl ⟨by omega, by omega⟩) ?_
      refine AOps.v rfl rfl rfl (AVal.loadE (d := encT _) rfl rfl rfl) ?_
      refine AOps.v rfl rfl rfl (AVal.moveN (by constructor)) ?_
      refine AOps.v rfl rfl rfl (AVal.moveN (by constructor)) ?_
      refine AOps.v rfl rfl rfl (AVal.sub rfl rfl) ?_
      refine AOps.e rfl rfl rfl (AOp.callP (h (ts.getD i default) (getD_mem hlt) _) (by first | exact LeL.eq rfl | (repeat constructor)) ?_)
      refine AOps.v rfl rfl rfl (AVal.add rfl rfl) ?_
      refine AOps.v rfl rfl rfl (AVal.assignN (by constructor)) ?_
      refine AOps.nil ?_
      refine ACode.region ?_
      refine AOps.v rfl rfl rfl (AVal.moveN (by constructor)) ?_
      refine AOps.v rfl rfl rfl (AVal.addn rfl rfl (by omega)) ?_
      refine AOps.v rfl rfl rfl (AVal.assignN (by constructor)) ?_
      refine AOps.nil ?_
      refine ⟨(i + 1, w64 (n + termOfM (w64 (q - n)) (ts.getD i default))), ⟨by simp only; omega, by simp only; rw [← hg, drop_getD hlt, termsGo, if_pos h15]⟩, by simp only; omega, rfl, (by repeat first | exact Agree.nil | refine Agree.cons (.refl _) ?_), (by repeat first | exact List.Sublist.refl _ | apply List.Sublist.cons_cons | apply List.Sublist.cons | exact List.nil_sublist _)⟩
    ·
      try simp only [decide_eq_true_eq, decide_eq_false_iff_not, Bool.not_eq_true', Bool.not_eq_false', Bool.and_eq_true, Bool.or_eq_true, beq_iff_eq, beq_eq_false_iff_ne] at h15
      refine ACode.exit ?_
      refine ACode.seq ?_
      refine ACode.region ?_
      refine AOps.v rfl rfl rfl (AVal.moveN (by constructor)) ?_
      refine AOps.v rfl rfl rfl (AVal.assignN (by constructor)) ?_
      refine AOps.nil ?_
      refine ACode.ret ?_
      refine AFin.pureRet rfl (.cons rfl .nil) ?_
      exact D.Le.eq (congrArg (D.int .i64) (by rw [← hg, termsGo_stop (by omega)]))
  ·
    try simp only [decide_eq_true_eq, decide_eq_false_iff_not, Bool.not_eq_true', Bool.not_eq_false', Bool.and_eq_true, Bool.or_eq_true, beq_iff_eq, beq_eq_false_iff_ne] at h11
    refine AOps.vF rfl rfl rfl rfl rfl rfl rfl ?_
    refine AOps.vF rfl rfl rfl rfl rfl rfl rfl ?_
    refine AOps.vF rfl rfl rfl rfl rfl rfl rfl ?_
    refine AOps.v rfl rfl rfl (AVal.pickF rfl (by constructor)) ?_
    refine AOps.nil ?_
    refine ACode.condF rfl ?_
    refine ACode.exit ?_
    refine ACode.seq ?_
    refine ACode.region ?_
    refine AOps.v rfl rfl rfl (AVal.moveN (by constructor)) ?_
    refine AOps.v rfl rfl rfl (AVal.assignN (by constructor)) ?_
    refine AOps.nil ?_
    refine ACode.ret ?_
    refine AFin.pureRet rfl (.cons rfl .nil) ?_
    exact D.Le.eq (congrArg (D.int .i64) (by rw [← hg, List.drop_of_length_le (by omega), termsGo]))

theorem termOf_c  : ∀ (m : Nat) (t : Term), t.sz = m → t.fit 9223372036854775807 → ∀ q, AFn X 19 [encT t, .int .i64 q] (.int .i64 (termOfM q t)) := by
  intro m
  induction m using Nat.strongRecOn with
  | _ m ih =>
  intro t hm hf q
  refine ACalls.of_code Tryz.func19 rfl (by rfl) (Nat.le_of_ble_eq_true rfl) ?_
  refine ACode.seq ?_
  refine ACode.region ?_
  refine AOps.e rfl rfl rfl (AOp.boxA rfl (fun b2 => ?_))
  refine AOps.v rfl rfl rfl (AVal.assignN (by constructor)) ?_
  refine AOps.nil ?_
  refine ACode.seq ?_
  refine ACode.draws [.p 0, .l 1, .p 2, .p 3, .p 4, .p 5, .l 6, .p 7, .p 8, .p 9, .p 10] mixed (by kernel_rfl) ?_
  refine ASeq.pv rfl rfl rfl rfl (fun L0 => (AVal.fieldP rfl rfl)) ?_
  refine ASeq.lv rfl rfl rfl rfl (HasCell.mk 0 rfl rfl (by constructor)) ?_
  refine ASeq.pv rfl rfl rfl rfl (fun L0 => (AVal.moveN (by constructor))) ?_
  refine ASeq.pe rfl rfl rfl rfl (fun L0 => (AOp.callP (levelsOf_c _ _ hf.llen) (by first | exact LeL.eq rfl | (repeat constructor)) ⟨rfl, rfl⟩)) ?_
  refine ASeq.pv rfl rfl rfl rfl (fun L0 => (AVal.add rfl rfl)) ?_
  refine ASeq.pv rfl rfl rfl rfl (fun L0 => (AVal.fieldP rfl rfl)) ?_
  refine ASeq.lv rfl rfl rfl rfl (HasCell.mk 0 rfl rfl (by constructor)) ?_
  refine ASeq.pv rfl rfl rfl rfl (fun L0 => (AVal.moveN (by constructor))) ?_
  refine ASeq.pe rfl rfl rfl rfl (fun L0 => (AOp.callP (termsOf_c _ _ hf.len (fun k hk q => ih k.sz (by rw [← hm]; exact Term.sz_lt hk) k rfl (hf.kid hk) q)) (by first | exact LeL.eq rfl | (repeat constructor)) ⟨rfl, rfl⟩)) ?_
  refine ASeq.pv rfl rfl rfl rfl (fun L0 => (AVal.add rfl rfl)) ?_
  refine ASeq.pv rfl rfl rfl rfl (fun L0 => (AVal.assignN (by constructor))) ?_
  refine ASeq.nil ?_
  refine ACode.ret ?_
  refine AFin.pureRet rfl (.cons rfl .nil) ?_
  exact D.Le.eq (congrArg (D.int .i64) (by rw [termOfM_eq]))

theorem deep_c  : ∀ (m : Nat) (t : Term), t.sz = m → t.fit 9223372036854775807 → ∀ d, AFn X 17 [encT t, .int .i64 d] (.int .i64 (deepM d t)) := by
  intro m
  induction m using Nat.strongRecOn with
  | _ m ih =>
  intro t hm hf q
  have hl := hf.len
  refine ACalls.of_code Tryz.func17 rfl (by rfl) (Nat.le_of_ble_eq_true rfl) ?_
  refine ACode.seq ?_
  refine ACode.region ?_
  refine AOps.e rfl rfl rfl (AOp.boxA rfl (fun b2 => ?_))
  refine AOps.v rfl rfl rfl (AVal.assignN (by constructor)) ?_
  refine AOps.nil ?_
  refine ACode.seq ?_
  refine ACode.region ?_
  refine AOps.v rfl rfl rfl (AVal.assignN (by constructor)) ?_
  refine AOps.nil ?_
  refine ACode.seq ?_
  refine ACode.seq ?_
  refine ACode.region ?_
  refine AOps.v rfl rfl rfl (AVal.assignN (by constructor)) ?_
  refine AOps.nil ?_
  refine ACode.block ?_
  refine ACode.loop (γ := Nat × Int) (fun g => [(1, .int .i64 q), (2, .ptr b2 0), (5, .int .i64 g.2), (6, .int .i64 g.1)]) (fun g => [(b2, .cells 27 (cellsT t))]) (fun g => g.1 ≤ t.kids.length ∧ deepsGo q g.2 (t.kids.drop g.1) = deepsGo q 0 t.kids) (fun g => t.kids.length - g.1) (0, 0) ⟨Nat.zero_le _, by simp⟩ (by repeat first | exact Agree.nil | refine Agree.cons (.refl _) ?_) (by repeat first | exact List.Sublist.refl _ | apply List.Sublist.cons_cons | apply List.Sublist.cons | exact List.nil_sublist _) ?_
  rintro ⟨i, n⟩ ⟨hi, hg⟩ t1
  simp only at hi hg ⊢
  refine ACode.seq ?_
  refine ACode.seq ?_
  refine ACode.region ?_
  refine AOps.v rfl rfl rfl (AVal.moveN (by constructor)) ?_
  refine AOps.v rfl rfl rfl (AVal.fieldP rfl rfl) ?_
  refine AOps.v rfl rfl rfl (AVal.loadPN 0 rfl rfl rfl rfl (by constructor)) ?_
  refine AOps.v rfl rfl rfl (AVal.len rfl rfl rfl) ?_
  refine AOps.v rfl rfl rfl (AVal.lss rfl rfl) ?_
  refine AOps.v rfl rfl rfl (AVal.moveN (by constructor)) ?_
  refine AOps.split 12 rfl (fun h12 => ?_) (fun h12 => ?_)
  ·
    try simp only [decide_eq_true_eq, decide_eq_false_iff_not, Bool.not_eq_true', Bool.not_eq_false', Bool.and_eq_true, Bool.or_eq_true, beq_iff_eq, beq_eq_false_iff_ne] at h12
    refine AOps.vT rfl rfl rfl rfl rfl rfl (AVal.moveN (by constructor)) ?_
    refine AOps.vT rfl rfl rfl rfl rfl rfl (AVal.gtr rfl rfl) ?_
    refine AOps.v rfl rfl rfl (AVal.pickT rfl (by constructor)) ?_
    refine AOps.nil ?_
    refine ACode.condS rfl (fun h15 => ?_) (fun h15 => ?_)
    ·
      try simp only [decide_eq_true_eq, decide_eq_false_iff_not, Bool.not_eq_true', Bool.not_eq_false', Bool.and_eq_true, Bool.or_eq_true, beq_iff_eq, beq_eq_false_iff_ne] at h15
      have hlt : i < t.kids.length := by omega
      refine ACode.skip ?_
      refine ACode.seq ?_
      refine ACode.block ?_
      refine ACode.region ?_
      refine AOps.v rfl rfl rfl (AVal.moveN (by constructor)) ?_
      refine AOps.v rfl rfl rfl (AVal.fieldP rfl rfl) ?_
      refine AOps.v rfl rfl rfl (AVal.loadPN 0 rfl rfl rfl rfl (by constructor)) ?_
      refine AOps.v rfl rfl rfl (AVal.moveN (by constructor)) ?_
      refine AOps.v rfl rfl rfl (AVal.indexTN rfl rfl rfl rfl rfl ⟨by omega, by omega⟩) ?_
      refine AOps.v rfl rfl rfl (AVal.loadE (d := encT _) rfl rfl rfl) ?_
      refine AOps.v rfl rfl rfl (AVal.moveN (by constructor)) ?_
      refine AOps.v rfl rfl rfl (AVal.sub rfl rfl) ?_
      refine AOps.e rfl rfl rfl (AOp.callP (ih (t.kids.getD i default).sz (by rw [← hm]; exact Term.sz_lt (getD_mem hlt)) _ rfl (hf.kid (getD_mem hlt)) _) (by first | exact LeL.eq rfl | (repeat constructor)) ?_)
      refine AOps.v rfl rfl rfl (AVal.max rfl rfl) ?_
      refine AOps.v rfl rfl rfl (AVal.assignN (by constructor)) ?_
      refine AOps.nil ?_
      refine ACode.region ?_
      refine AOps.v rfl rfl rfl (AVal.moveN (by constructor)) ?_
      refine AOps.v rfl rfl rfl (AVal.addn rfl rfl (by omega)) ?_
      refine AOps.v rfl rfl rfl (AVal.assignN (by constructor)) ?_
      refine AOps.nil ?_
      refine ⟨(i + 1, max n (deepM (w64 (q - 1)) (t.kids.getD i default))), ⟨by simp only; omega, by simp only; rw [← hg, drop_getD hlt, deepsGo, if_pos h15]⟩, by simp only; omega, rfl, (by repeat first | exact Agree.nil | refine Agree.cons (.refl _) ?_), (by repeat first | exact List.Sublist.refl _ | apply List.Sublist.cons_cons | apply List.Sublist.cons | exact List.nil_sublist _)⟩
    ·
      try simp only [decide_eq_true_eq, decide_eq_false_iff_not, Bool.not_eq_true', Bool.not_eq_false', Bool.and_eq_true, Bool.or_eq_true, beq_iff_eq, beq_eq_false_iff_ne] at h15
      refine ACode.exit ?_
      refine ACode.seq ?_
      refine ACode.region ?_
      refine AOps.v rfl rfl rfl (AVal.moveN (by constructor)) ?_
      refine AOps.v rfl rfl rfl (AVal.add rfl rfl) ?_
      refine AOps.v rfl rfl rfl (AVal.assignN (by constructor)) ?_
      refine AOps.nil ?_
      refine ACode.ret ?_
      refine AFin.pureRet rfl (.cons rfl .nil) ?_
      exact D.Le.eq (congrArg (D.int .i64) (by rw [deepM_eq, ← hg, deepsGo_stop (by omega)]))
  ·
    try simp only [decide_eq_true_eq, decide_eq_false_iff_not, Bool.not_eq_true', Bool.not_eq_false', Bool.and_eq_true, Bool.or_eq_true, beq_iff_eq, beq_eq_false_iff_ne] at h12
    refine AOps.vF rfl rfl rfl rfl rfl rfl rfl ?_
    refine AOps.vF rfl rfl rfl rfl rfl rfl rfl ?_
    refine AOps.v rfl rfl rfl (AVal.pickF rfl (by constructor)) ?_
    refine AOps.nil ?_
    refine ACode.condF rfl ?_
    refine ACode.exit ?_
    refine ACode.seq ?_
    refine ACode.region ?_
    refine AOps.v rfl rfl rfl (AVal.moveN (by constructor)) ?_
    refine AOps.v rfl rfl rfl (AVal.add rfl rfl) ?_
    refine AOps.v rfl rfl rfl (AVal.assignN (by constructor)) ?_
    refine AOps.nil ?_
    refine ACode.ret ?_
    refine AFin.pureRet rfl (.cons rfl .nil) ?_
    exact D.Le.eq (congrArg (D.int .i64) (by rw [deepM_eq, ← hg, List.drop_of_length_le (by omega), deepsGo]))

theorem coresOf_c (cs : List Core) (q : Int) (hl : cs.length ≤ 9223372036854775807) (hf : ∀ c ∈ cs, c.typ.fit 9223372036854775807 ∧ c.body.fit 9223372036854775807) : AFn X 18 [.slC cs, .int .i64 q] (.int .i64 (coresGo q 0 cs)) := by
  refine ACalls.of_code Tryz.func18 rfl (by rfl) (Nat.le_of_ble_eq_true rfl) ?_
  refine ACode.seq ?_
  refine ACode.region ?_
  refine AOps.v rfl rfl rfl (AVal.assignN (by constructor)) ?_
  refine AOps.nil ?_
  refine ACode.seq ?_
  refine ACode.region ?_
  refine AOps.v rfl rfl rfl (AVal.assignN (by constructor)) ?_
  refine AOps.nil ?_
  refine ACode.seq ?_
  refine ACode.seq ?_
  refine ACode.region ?_
  refine AOps.v rfl rfl rfl (AVal.assignN (by constructor)) ?_
  refine AOps.nil ?_
  refine ACode.block ?_
  refine ACode.loop (γ := Nat × Int) (fun g => [(0, .slC cs), (1, .int .i64 q), (5, .int .i64 g.2), (6, .int .i64 g.1)]) (fun g => []) (fun g => g.1 ≤ cs.length ∧ coresGo q g.2 (cs.drop g.1) = coresGo q 0 cs) (fun g => cs.length - g.1) (0, 0) ⟨Nat.zero_le _, by simp⟩ (by repeat first | exact Agree.nil | refine Agree.cons (.refl _) ?_) (by repeat first | exact List.Sublist.refl _ | apply List.Sublist.cons_cons | apply List.Sublist.cons | exact List.nil_sublist _) ?_
  rintro ⟨i, n⟩ ⟨hi, hg⟩ t1
  simp only at hi hg ⊢
  refine ACode.seq ?_
  refine ACode.seq ?_
  refine ACode.region ?_
  refine AOps.v rfl rfl rfl (AVal.moveN (by constructor)) ?_
  refine AOps.v rfl rfl rfl (AVal.moveN (by constructor)) ?_
  refine AOps.v rfl rfl rfl (AVal.len rfl rfl rfl) ?_
  refine AOps.v rfl rfl rfl (AVal.lss rfl rfl) ?_
  refine AOps.v rfl rfl rfl (AVal.moveN (by constructor)) ?_
  refine AOps.split 11 rfl (fun h11 => ?_) (fun h11 => ?_)
  ·
    try simp only [decide_eq_true_eq, decide_eq_false_iff_not, Bool.not_eq_true', Bool.not_eq_false', Bool.and_eq_true, Bool.or_eq_true, beq_iff_eq, beq_eq_false_iff_ne] at h11
    refine AOps.vT rfl rfl rfl rfl rfl rfl (AVal.moveN (by constructor)) ?_
    refine AOps.vT rfl rfl rfl rfl rfl rfl (AVal.moveN (by constructor)) ?_
    refine AOps.vT rfl rfl rfl rfl rfl rfl (AVal.leq rfl rfl) ?_
    refine AOps.v rfl rfl rfl (AVal.pickT rfl (by constructor)) ?_
    refine AOps.nil ?_
    refine ACode.condS rfl (fun h15 => ?_) (fun h15 => ?_)
    ·
      try simp only [decide_eq_true_eq, decide_eq_false_iff_not, Bool.not_eq_true', Bool.not_eq_false', Bool.and_eq_true, Bool.or_eq_true, beq_iff_eq, beq_eq_false_iff_ne] at h15
      have hlt : i < cs.length := by omega
      refine ACode.skip ?_
      refine ACode.seq ?_
      refine ACode.block ?_
      refine ACode.draws [.p 0, .p 1, .p 2, .p 3, .p 4, .p 5, .p 6, .p 7, .p 8, .p 9, .p 10, .p 11, .p 12, .p 13, .p 14, .p 15, .p 16, .p 17, .e 18 []] mixed (by kernel_rfl) ?_
      refine ASeq.pv rfl rfl rfl rfl (fun L0 => (AVal.moveN (by constructor))) ?_
      refine ASeq.pv rfl rfl rfl rfl (fun L0 => (AVal.add rfl rfl)) ?_
      refine ASeq.pv rfl rfl rfl rfl (fun L0 => (AVal.moveN (by constructor))) ?_
      refine ASeq.pv rfl rfl rfl rfl (fun L0 => (AVal.moveN (by constructor))) ?_
      refine ASeq.pv rfl rfl rfl rfl (fun L0 => (AVal.indexCN rfl rfl rfl rfl rfl ⟨by omega, by omega⟩)) ?_
      refine ASeq.pv rfl rfl rfl rfl (fun L0 => (AVal.fieldE rfl rfl)) ?_
      refine ASeq.pv rfl rfl rfl rfl (fun L0 => (AVal.loadE (d := encT _) rfl rfl rfl)) ?_
      refine ASeq.pv rfl rfl rfl rfl (fun L0 => (AVal.moveN (by constructor))) ?_
      refine ASeq.pe rfl rfl rfl rfl (fun L0 => (AOp.callP (termOf_c _ (cs.getD i default).typ rfl (hf _ (getD_mem hlt)).1 _) (by first | exact LeL.eq rfl | (repeat constructor)) ⟨rfl, rfl⟩)) ?_
      refine ASeq.pv rfl rfl rfl rfl (fun L0 => (AVal.add rfl rfl)) ?_
      refine ASeq.pv rfl rfl rfl rfl (fun L0 => (AVal.moveN (by constructor))) ?_
      refine ASeq.pv rfl rfl rfl rfl (fun L0 => (AVal.moveN (by constructor))) ?_
      refine ASeq.pv rfl rfl rfl rfl (fun L0 => (AVal.indexCN rfl rfl rfl rfl rfl ⟨by omega, by omega⟩)) ?_
      refine ASeq.pv rfl rfl rfl rfl (fun L0 => (AVal.fieldE rfl rfl)) ?_
      refine ASeq.pv rfl rfl rfl rfl (fun L0 => (AVal.loadE (d := encT _) rfl rfl rfl)) ?_
      refine ASeq.pv rfl rfl rfl rfl (fun L0 => (AVal.moveN (by constructor))) ?_
      refine ASeq.pe rfl rfl rfl rfl (fun L0 => (AOp.callP (termOf_c _ (cs.getD i default).body rfl (hf _ (getD_mem hlt)).2 _) (by first | exact LeL.eq rfl | (repeat constructor)) ⟨rfl, rfl⟩)) ?_
      refine ASeq.pv rfl rfl rfl rfl (fun L0 => (AVal.add rfl rfl)) ?_
      refine ASeq.ev0 rfl rfl rfl rfl rfl (by first | exact Keeps.nil | (repeat first | exact Keeps.nil | refine Keeps.cons (by first | exact HasCell.mk 0 rfl rfl (.refl _) | exact HasCell.mk 1 rfl rfl (.refl _) | exact HasCell.mk 2 rfl rfl (.refl _) | exact HasCell.mk 3 rfl rfl (.refl _) | exact HasCell.mk 4 rfl rfl (.refl _) | exact HasCell.mk 5 rfl rfl (.refl _) | exact HasCell.mk 6 rfl rfl (.refl _) | exact HasCell.mk 7 rfl rfl (.refl _)) ?_)) (AVal.assignN (by constructor)) ?_
      refine ASeq.nil ?_
      refine ACode.region ?_
      refine AOps.v rfl rfl rfl (AVal.moveN (by constructor)) ?_
      refine AOps.v rfl rfl rfl (AVal.addn rfl rfl (by omega)) ?_
      refine AOps.v rfl rfl rfl (AVal.assignN (by constructor)) ?_
      refine AOps.nil ?_
      refine ⟨(i + 1, w64 (w64 (w64 (n + 1) + termOfM q (cs.getD i default).typ) + termOfM q (cs.getD i default).body)), ⟨by simp only; omega, by simp only; rw [← hg, drop_getD hlt, coresGo, if_pos h15]⟩, by simp only; omega, rfl, (by repeat first | exact Agree.nil | refine Agree.cons (.refl _) ?_), (by repeat first | exact List.Sublist.refl _ | apply List.Sublist.cons_cons | apply List.Sublist.cons | exact List.nil_sublist _)⟩
    ·
      try simp only [decide_eq_true_eq, decide_eq_false_iff_not, Bool.not_eq_true', Bool.not_eq_false', Bool.and_eq_true, Bool.or_eq_true, beq_iff_eq, beq_eq_false_iff_ne] at h15
      refine ACode.exit ?_
      refine ACode.seq ?_
      refine ACode.region ?_
      refine AOps.v rfl rfl rfl (AVal.moveN (by constructor)) ?_
      refine AOps.v rfl rfl rfl (AVal.assignN (by constructor)) ?_
      refine AOps.nil ?_
      refine ACode.ret ?_
      refine AFin.pureRet rfl (.cons rfl .nil) ?_
      exact D.Le.eq (congrArg (D.int .i64) (by rw [← hg, coresGo_stop (by omega)]))
  ·
    try simp only [decide_eq_true_eq, decide_eq_false_iff_not, Bool.not_eq_true', Bool.not_eq_false', Bool.and_eq_true, Bool.or_eq_true, beq_iff_eq, beq_eq_false_iff_ne] at h11
    refine AOps.vF rfl rfl rfl rfl rfl rfl rfl ?_
    refine AOps.vF rfl rfl rfl rfl rfl rfl rfl ?_
    refine AOps.vF rfl rfl rfl rfl rfl rfl rfl ?_
    refine AOps.v rfl rfl rfl (AVal.pickF rfl (by constructor)) ?_
    refine AOps.nil ?_
    refine ACode.condF rfl ?_
    refine ACode.exit ?_
    refine ACode.seq ?_
    refine ACode.region ?_
    refine AOps.v rfl rfl rfl (AVal.moveN (by constructor)) ?_
    refine AOps.v rfl rfl rfl (AVal.assignN (by constructor)) ?_
    refine AOps.nil ?_
    refine ACode.ret ?_
    refine AFin.pureRet rfl (.cons rfl .nil) ?_
    exact D.Le.eq (congrArg (D.int .i64) (by rw [← hg, List.drop_of_length_le (by omega), coresGo]))

theorem sameParts_c (a b : List Part) (hl : a.length ≤ 9223372036854775807) : AFn X 79 [.slP a, .slP b] (.bool (decide (a = b))) := by
  refine ACalls.of_code Tryz.func79 rfl (by rfl) (Nat.le_of_ble_eq_true rfl) ?_
  refine ACode.seq ?_
  refine ACode.region ?_
  refine AOps.v rfl rfl rfl (AVal.assignN (by constructor)) ?_
  refine AOps.nil ?_
  refine ACode.seq ?_
  refine ACode.seq ?_
  refine ACode.region ?_
  refine AOps.v rfl rfl rfl (AVal.moveN (by constructor)) ?_
  refine AOps.v rfl rfl rfl (AVal.len rfl rfl rfl) ?_
  refine AOps.v rfl rfl rfl (AVal.moveN (by constructor)) ?_
  refine AOps.v rfl rfl rfl (AVal.len rfl rfl rfl) ?_
  refine AOps.v rfl rfl rfl (AVal.neq rfl rfl) ?_
  refine AOps.nil ?_
  refine ACode.condS rfl (fun h10 => ?_) (fun h10 => ?_)
  ·
    try simp only [decide_eq_true_eq, decide_eq_false_iff_not, Bool.not_eq_true', Bool.not_eq_false', Bool.and_eq_true, Bool.or_eq_true, beq_iff_eq, beq_eq_false_iff_ne] at h10
    refine ACode.seq ?_
    refine ACode.region ?_
    refine AOps.v rfl rfl rfl (AVal.assignN (by constructor)) ?_
    refine AOps.nil ?_
    refine ACode.ret ?_
    refine AFin.pureRet rfl (.cons rfl .nil) ?_
    exact D.Le.eq (congrArg D.bool (by rw [decide_eq_false (fun e => by subst e; exact h10 rfl)]))
  ·
    try simp only [decide_eq_true_eq, decide_eq_false_iff_not, Bool.not_eq_true', Bool.not_eq_false', Bool.and_eq_true, Bool.or_eq_true, beq_iff_eq, beq_eq_false_iff_ne] at h10
    refine ACode.skip ?_
    refine ACode.seq ?_
    refine ACode.seq ?_
    refine ACode.region ?_
    refine AOps.v rfl rfl rfl (AVal.assignN (by constructor)) ?_
    refine AOps.nil ?_
    refine ACode.block ?_
    refine ACode.loop (γ := Nat) (fun g => [(0, .slP a), (1, .slP b), (5, .int .i64 g)]) (fun g => []) (fun g => g ≤ a.length ∧ a.take g = b.take g) (fun g => a.length - g) 0 ⟨Nat.zero_le _, by simp⟩ (by repeat first | exact Agree.nil | refine Agree.cons (.refl _) ?_) (by repeat first | exact List.Sublist.refl _ | apply List.Sublist.cons_cons | apply List.Sublist.cons | exact List.nil_sublist _) ?_
    rintro i ⟨hi, hg⟩ t1
    have hab : a.length = b.length := by omega
    refine ACode.seq ?_
    refine ACode.seq ?_
    refine ACode.region ?_
    refine AOps.v rfl rfl rfl (AVal.moveN (by constructor)) ?_
    refine AOps.v rfl rfl rfl (AVal.moveN (by constructor)) ?_
    refine AOps.v rfl rfl rfl (AVal.len rfl rfl rfl) ?_
    refine AOps.v rfl rfl rfl (AVal.lss rfl rfl) ?_
    refine AOps.nil ?_
    refine ACode.condS rfl (fun h14 => ?_) (fun h14 => ?_)
    ·
      try simp only [decide_eq_true_eq, decide_eq_false_iff_not, Bool.not_eq_true', Bool.not_eq_false', Bool.and_eq_true, Bool.or_eq_true, beq_iff_eq, beq_eq_false_iff_ne] at h14
      have hlt : i < a.length := by omega
      refine ACode.skip ?_
      refine ACode.seq ?_
      refine ACode.block ?_
      refine ACode.seq ?_
      refine ACode.draws [.p 0, .p 1, .p 2, .p 3, .p 4, .p 5, .p 6, .p 7, .p 8] mixed (by kernel_rfl) ?_
      refine ASeq.pv rfl rfl rfl rfl (fun L0 => (AVal.moveN (by constructor))) ?_
      refine ASeq.pv rfl rfl rfl rfl (fun L0 => (AVal.moveN (by constructor))) ?_
      refine ASeq.pv rfl rfl rfl rfl (fun L0 => (AVal.indexPN rfl rfl rfl rfl rfl ⟨by omega, by omega⟩)) ?_
      refine ASeq.pv rfl rfl rfl rfl (fun L0 => (AVal.loadE (d := encP _) rfl rfl rfl)) ?_
      refine ASeq.pv rfl rfl rfl rfl (fun L0 => (AVal.moveN (by constructor))) ?_
      refine ASeq.pv rfl rfl rfl rfl (fun L0 => (AVal.moveN (by constructor))) ?_
      refine ASeq.pv rfl rfl rfl rfl (fun L0 => (AVal.indexPN rfl rfl rfl rfl rfl ⟨by omega, by omega⟩)) ?_
      refine ASeq.pv rfl rfl rfl rfl (fun L0 => (AVal.loadE (d := encP _) rfl rfl rfl)) ?_
      refine ASeq.pv rfl rfl rfl rfl (fun L0 => (AVal.neqPart rfl rfl (by kernel_rfl))) ?_
      refine ASeq.nil ?_
      refine ACode.condS rfl (fun h25 => ?_) (fun h25 => ?_)
      ·
        try simp only [decide_eq_true_eq, decide_eq_false_iff_not, Bool.not_eq_true', Bool.not_eq_false', Bool.and_eq_true, Bool.or_eq_true, beq_iff_eq, beq_eq_false_iff_ne] at h25
        refine ACode.seq ?_
        refine ACode.region ?_
        refine AOps.v rfl rfl rfl (AVal.assignN (by constructor)) ?_
        refine AOps.nil ?_
        refine ACode.ret ?_
        refine AFin.pureRet rfl (.cons rfl .nil) ?_
        exact D.Le.eq (congrArg D.bool (by rw [decide_eq_false (ne_of_getD (by simpa using h25))]))
      ·
        try simp only [decide_eq_true_eq, decide_eq_false_iff_not, Bool.not_eq_true', Bool.not_eq_false', Bool.and_eq_true, Bool.or_eq_true, beq_iff_eq, beq_eq_false_iff_ne] at h25
        refine ACode.skip ?_
        refine ACode.region ?_
        refine AOps.v rfl rfl rfl (AVal.moveN (by constructor)) ?_
        refine AOps.v rfl rfl rfl (AVal.addn rfl rfl (by omega)) ?_
        refine AOps.v rfl rfl rfl (AVal.assignN (by constructor)) ?_
        refine AOps.nil ?_
        refine ⟨i + 1, ⟨by omega, take_eq_succ hab hlt hg (by simpa using h25)⟩, by omega, rfl, (by repeat first | exact Agree.nil | refine Agree.cons (.refl _) ?_), (by repeat first | exact List.Sublist.refl _ | apply List.Sublist.cons_cons | apply List.Sublist.cons | exact List.nil_sublist _)⟩
    ·
      try simp only [decide_eq_true_eq, decide_eq_false_iff_not, Bool.not_eq_true', Bool.not_eq_false', Bool.and_eq_true, Bool.or_eq_true, beq_iff_eq, beq_eq_false_iff_ne] at h14
      refine ACode.exit ?_
      refine ACode.seq ?_
      refine ACode.region ?_
      refine AOps.v rfl rfl rfl (AVal.assignN (by constructor)) ?_
      refine AOps.nil ?_
      refine ACode.ret ?_
      refine AFin.pureRet rfl (.cons rfl .nil) ?_
      exact D.Le.eq (congrArg D.bool (by rw [decide_eq_true (eq_of_take hab (by omega) hg)]))

theorem sameLevel_c (a b : Level) (hl : a.length ≤ 9223372036854775807) : AFn X 62 [encL a, encL b] (.bool (decide (a = b))) := by
  refine ACalls.of_code Tryz.func62 rfl (by rfl) (Nat.le_of_ble_eq_true rfl) ?_
  refine ACode.seq ?_
  refine ACode.region ?_
  refine AOps.e rfl rfl rfl (AOp.boxA rfl (fun b2 => ?_))
  refine AOps.e rfl rfl rfl (AOp.boxA rfl (fun b3 => ?_))
  refine AOps.v rfl rfl rfl (AVal.assignN (by constructor)) ?_
  refine AOps.nil ?_
  refine ACode.seq ?_
  refine ACode.region ?_
  refine AOps.v rfl rfl rfl (AVal.fieldP rfl rfl) ?_
  refine AOps.v rfl rfl rfl (AVal.loadPN 1 rfl rfl rfl rfl (by constructor)) ?_
  refine AOps.v rfl rfl rfl (AVal.fieldP rfl rfl) ?_
  refine AOps.v rfl rfl rfl (AVal.loadPN 0 rfl rfl rfl rfl (by constructor)) ?_
  refine AOps.e rfl rfl rfl (AOp.callP (sameParts_c _ _ hl) (by first | exact LeL.eq rfl | (repeat constructor)) ?_)
  refine AOps.v rfl rfl rfl (AVal.assignN (by constructor)) ?_
  refine AOps.nil ?_
  refine ACode.ret ?_
  refine AFin.pureRet rfl (.cons rfl .nil) ?_
  exact D.Le.eq (congrArg D.bool (rfl))

theorem sameLevels_c (a b : List Level) (hl : a.length ≤ 9223372036854775807) (hp : ∀ l ∈ a, l.length ≤ 9223372036854775807) : AFn X 27 [.slL a, .slL b] (.bool (decide (a = b))) := by
  refine ACalls.of_code Tryz.func27 rfl (by rfl) (Nat.le_of_ble_eq_true rfl) ?_
  refine ACode.seq ?_
  refine ACode.region ?_
  refine AOps.v rfl rfl rfl (AVal.assignN (by constructor)) ?_
  refine AOps.nil ?_
  refine ACode.seq ?_
  refine ACode.seq ?_
  refine ACode.region ?_
  refine AOps.v rfl rfl rfl (AVal.moveN (by constructor)) ?_
  refine AOps.v rfl rfl rfl (AVal.len rfl rfl rfl) ?_
  refine AOps.v rfl rfl rfl (AVal.moveN (by constructor)) ?_
  refine AOps.v rfl rfl rfl (AVal.len rfl rfl rfl) ?_
  refine AOps.v rfl rfl rfl (AVal.neq rfl rfl) ?_
  refine AOps.nil ?_
  refine ACode.condS rfl (fun h10 => ?_) (fun h10 => ?_)
  ·
    try simp only [decide_eq_true_eq, decide_eq_false_iff_not, Bool.not_eq_true', Bool.not_eq_false', Bool.and_eq_true, Bool.or_eq_true, beq_iff_eq, beq_eq_false_iff_ne] at h10
    refine ACode.seq ?_
    refine ACode.region ?_
    refine AOps.v rfl rfl rfl (AVal.assignN (by constructor)) ?_
    refine AOps.nil ?_
    refine ACode.ret ?_
    refine AFin.pureRet rfl (.cons rfl .nil) ?_
    exact D.Le.eq (congrArg D.bool (by rw [decide_eq_false (fun e => by subst e; exact h10 rfl)]))
  ·
    try simp only [decide_eq_true_eq, decide_eq_false_iff_not, Bool.not_eq_true', Bool.not_eq_false', Bool.and_eq_true, Bool.or_eq_true, beq_iff_eq, beq_eq_false_iff_ne] at h10
    refine ACode.skip ?_
    refine ACode.seq ?_
    refine ACode.seq ?_
    refine ACode.region ?_
    refine AOps.v rfl rfl rfl (AVal.assignN (by constructor)) ?_
    refine AOps.nil ?_
    refine ACode.block ?_
    refine ACode.loop (γ := Nat) (fun g => [(0, .slL a), (1, .slL b), (5, .int .i64 g)]) (fun g => []) (fun g => g ≤ a.length ∧ a.take g = b.take g) (fun g => a.length - g) 0 ⟨Nat.zero_le _, by simp⟩ (by repeat first | exact Agree.nil | refine Agree.cons (.refl _) ?_) (by repeat first | exact List.Sublist.refl _ | apply List.Sublist.cons_cons | apply List.Sublist.cons | exact List.nil_sublist _) ?_
    rintro i ⟨hi, hg⟩ t1
    have hab : a.length = b.length := by omega
    refine ACode.seq ?_
    refine ACode.seq ?_
    refine ACode.region ?_
    refine AOps.v rfl rfl rfl (AVal.moveN (by constructor)) ?_
    refine AOps.v rfl rfl rfl (AVal.moveN (by constructor)) ?_
    refine AOps.v rfl rfl rfl (AVal.len rfl rfl rfl) ?_
    refine AOps.v rfl rfl rfl (AVal.lss rfl rfl) ?_
    refine AOps.nil ?_
    refine ACode.condS rfl (fun h14 => ?_) (fun h14 => ?_)
    ·
      try simp only [decide_eq_true_eq, decide_eq_false_iff_not, Bool.not_eq_true', Bool.not_eq_false', Bool.and_eq_true, Bool.or_eq_true, beq_iff_eq, beq_eq_false_iff_ne] at h14
      have hlt : i < a.length := by omega
      refine ACode.skip ?_
      refine ACode.seq ?_
      refine ACode.block ?_
      refine ACode.seq ?_
      refine ACode.draws [.p 0, .p 1, .p 2, .p 3, .p 4, .p 5, .p 6, .p 7, .p 8, .p 9] mixed (by kernel_rfl) ?_
      refine ASeq.pv rfl rfl rfl rfl (fun L0 => (AVal.moveN (by constructor))) ?_
      refine ASeq.pv rfl rfl rfl rfl (fun L0 => (AVal.moveN (by constructor))) ?_
      refine ASeq.pv rfl rfl rfl rfl (fun L0 => (AVal.indexLN rfl rfl rfl rfl rfl ⟨by omega, by omega⟩)) ?_
      refine ASeq.pv rfl rfl rfl rfl (fun L0 => (AVal.loadE (d := encL _) rfl rfl rfl)) ?_
      refine ASeq.pv rfl rfl rfl rfl (fun L0 => (AVal.moveN (by constructor))) ?_
      refine ASeq.pv rfl rfl rfl rfl (fun L0 => (AVal.moveN (by constructor))) ?_
      refine ASeq.pv rfl rfl rfl rfl (fun L0 => (AVal.indexLN rfl rfl rfl rfl rfl ⟨by omega, by omega⟩)) ?_
      refine ASeq.pv rfl rfl rfl rfl (fun L0 => (AVal.loadE (d := encL _) rfl rfl rfl)) ?_
      refine ASeq.pe rfl rfl rfl rfl (fun L0 => (AOp.callP (sameLevel_c (a.getD i default) (b.getD i default) (hp _ (getD_mem hlt))) (by first | exact LeL.eq rfl | (repeat constructor)) ⟨rfl, rfl⟩)) ?_
      refine ASeq.pv rfl rfl rfl rfl (fun L0 => (AVal.not rfl)) ?_
      refine ASeq.nil ?_
      refine ACode.condS rfl (fun h26 => ?_) (fun h26 => ?_)
      ·
        try simp only [decide_eq_true_eq, decide_eq_false_iff_not, Bool.not_eq_true', Bool.not_eq_false', Bool.and_eq_true, Bool.or_eq_true, beq_iff_eq, beq_eq_false_iff_ne] at h26
        refine ACode.seq ?_
        refine ACode.region ?_
        refine AOps.v rfl rfl rfl (AVal.assignN (by constructor)) ?_
        refine AOps.nil ?_
        refine ACode.ret ?_
        refine AFin.pureRet rfl (.cons rfl .nil) ?_
        exact D.Le.eq (congrArg D.bool (by rw [decide_eq_false (ne_of_getD (by simpa using h26))]))
      ·
        try simp only [decide_eq_true_eq, decide_eq_false_iff_not, Bool.not_eq_true', Bool.not_eq_false', Bool.and_eq_true, Bool.or_eq_true, beq_iff_eq, beq_eq_false_iff_ne] at h26
        refine ACode.skip ?_
        refine ACode.region ?_
        refine AOps.v rfl rfl rfl (AVal.moveN (by constructor)) ?_
        refine AOps.v rfl rfl rfl (AVal.addn rfl rfl (by omega)) ?_
        refine AOps.v rfl rfl rfl (AVal.assignN (by constructor)) ?_
        refine AOps.nil ?_
        refine ⟨i + 1, ⟨by omega, take_eq_succ hab hlt hg (by simpa using h26)⟩, by omega, rfl, (by repeat first | exact Agree.nil | refine Agree.cons (.refl _) ?_), (by repeat first | exact List.Sublist.refl _ | apply List.Sublist.cons_cons | apply List.Sublist.cons | exact List.nil_sublist _)⟩
    ·
      try simp only [decide_eq_true_eq, decide_eq_false_iff_not, Bool.not_eq_true', Bool.not_eq_false', Bool.and_eq_true, Bool.or_eq_true, beq_iff_eq, beq_eq_false_iff_ne] at h14
      refine ACode.exit ?_
      refine ACode.seq ?_
      refine ACode.region ?_
      refine AOps.v rfl rfl rfl (AVal.assignN (by constructor)) ?_
      refine AOps.nil ?_
      refine ACode.ret ?_
      refine AFin.pureRet rfl (.cons rfl .nil) ?_
      exact D.Le.eq (congrArg D.bool (by rw [decide_eq_true (eq_of_take hab (by omega) hg)]))

theorem sameTerms_c (a b : List Term) (hl : a.length ≤ 9223372036854775807) (h : ∀ k ∈ a, ∀ u, AFn X 10 [encT k, encT u] (.bool (decide (k = u)))) : AFn X 28 [.slT a, .slT b] (.bool (decide (a = b))) := by
  refine ACalls.of_code Tryz.func28 rfl (by rfl) (Nat.le_of_ble_eq_true rfl) ?_
  refine ACode.seq ?_
  refine ACode.region ?_
  refine AOps.v rfl rfl rfl (AVal.assignN (by constructor)) ?_
  refine AOps.nil ?_
  refine ACode.seq ?_
  refine ACode.seq ?_
  refine ACode.region ?_
  refine AOps.v rfl rfl rfl (AVal.moveN (by constructor)) ?_
  refine AOps.v rfl rfl rfl (AVal.len rfl rfl rfl) ?_
  refine AOps.v rfl rfl rfl (AVal.moveN (by constructor)) ?_
  refine AOps.v rfl rfl rfl (AVal.len rfl rfl rfl) ?_
  refine AOps.v rfl rfl rfl (AVal.neq rfl rfl) ?_
  refine AOps.nil ?_
  refine ACode.condS rfl (fun h10 => ?_) (fun h10 => ?_)
  ·
    try simp only [decide_eq_true_eq, decide_eq_false_iff_not, Bool.not_eq_true', Bool.not_eq_false', Bool.and_eq_true, Bool.or_eq_true, beq_iff_eq, beq_eq_false_iff_ne] at h10
    refine ACode.seq ?_
    refine ACode.region ?_
    refine AOps.v rfl rfl rfl (AVal.assignN (by constructor)) ?_
    refine AOps.nil ?_
    refine ACode.ret ?_
    refine AFin.pureRet rfl (.cons rfl .nil) ?_
    exact D.Le.eq (congrArg D.bool (by rw [decide_eq_false (fun e => by subst e; exact h10 rfl)]))
  ·
    try simp only [decide_eq_true_eq, decide_eq_false_iff_not, Bool.not_eq_true', Bool.not_eq_false', Bool.and_eq_true, Bool.or_eq_true, beq_iff_eq, beq_eq_false_iff_ne] at h10
    refine ACode.skip ?_
    refine ACode.seq ?_
    refine ACode.seq ?_
    refine ACode.region ?_
    refine AOps.v rfl rfl rfl (AVal.assignN (by constructor)) ?_
    refine AOps.nil ?_
    refine ACode.block ?_
    refine ACode.loop (γ := Nat) (fun g => [(0, .slT a), (1, .slT b), (5, .int .i64 g)]) (fun g => []) (fun g => g ≤ a.length ∧ a.take g = b.take g) (fun g => a.length - g) 0 ⟨Nat.zero_le _, by simp⟩ (by repeat first | exact Agree.nil | refine Agree.cons (.refl _) ?_) (by repeat first | exact List.Sublist.refl _ | apply List.Sublist.cons_cons | apply List.Sublist.cons | exact List.nil_sublist _) ?_
    rintro i ⟨hi, hg⟩ t1
    have hab : a.length = b.length := by omega
    refine ACode.seq ?_
    refine ACode.seq ?_
    refine ACode.region ?_
    refine AOps.v rfl rfl rfl (AVal.moveN (by constructor)) ?_
    refine AOps.v rfl rfl rfl (AVal.moveN (by constructor)) ?_
    refine AOps.v rfl rfl rfl (AVal.len rfl rfl rfl) ?_
    refine AOps.v rfl rfl rfl (AVal.lss rfl rfl) ?_
    refine AOps.nil ?_
    refine ACode.condS rfl (fun h14 => ?_) (fun h14 => ?_)
    ·
      try simp only [decide_eq_true_eq, decide_eq_false_iff_not, Bool.not_eq_true', Bool.not_eq_false', Bool.and_eq_true, Bool.or_eq_true, beq_iff_eq, beq_eq_false_iff_ne] at h14
      have hlt : i < a.length := by omega
      refine ACode.skip ?_
      refine ACode.seq ?_
      refine ACode.block ?_
      refine ACode.seq ?_
      refine ACode.draws [.p 0, .p 1, .p 2, .p 3, .p 4, .p 5, .p 6, .p 7, .p 8, .p 9] mixed (by kernel_rfl) ?_
      refine ASeq.pv rfl rfl rfl rfl (fun L0 => (AVal.moveN (by constructor))) ?_
      refine ASeq.pv rfl rfl rfl rfl (fun L0 => (AVal.moveN (by constructor))) ?_
      refine ASeq.pv rfl rfl rfl rfl (fun L0 => (AVal.indexTN rfl rfl rfl rfl rfl ⟨by omega, by omega⟩)) ?_
      refine ASeq.pv rfl rfl rfl rfl (fun L0 => (AVal.loadE (d := encT _) rfl rfl rfl)) ?_
      refine ASeq.pv rfl rfl rfl rfl (fun L0 => (AVal.moveN (by constructor))) ?_
      refine ASeq.pv rfl rfl rfl rfl (fun L0 => (AVal.moveN (by constructor))) ?_
      refine ASeq.pv rfl rfl rfl rfl (fun L0 => (AVal.indexTN rfl rfl rfl rfl rfl ⟨by omega, by omega⟩)) ?_
      refine ASeq.pv rfl rfl rfl rfl (fun L0 => (AVal.loadE (d := encT _) rfl rfl rfl)) ?_
      refine ASeq.pe rfl rfl rfl rfl (fun L0 => (AOp.callP (h (a.getD i default) (getD_mem hlt) (b.getD i default)) (by first | exact LeL.eq rfl | (repeat constructor)) ⟨rfl, rfl⟩)) ?_
      refine ASeq.pv rfl rfl rfl rfl (fun L0 => (AVal.not rfl)) ?_
      refine ASeq.nil ?_
      refine ACode.condS rfl (fun h26 => ?_) (fun h26 => ?_)
      ·
        try simp only [decide_eq_true_eq, decide_eq_false_iff_not, Bool.not_eq_true', Bool.not_eq_false', Bool.and_eq_true, Bool.or_eq_true, beq_iff_eq, beq_eq_false_iff_ne] at h26
        refine ACode.seq ?_
        refine ACode.region ?_
        refine AOps.v rfl rfl rfl (AVal.assignN (by constructor)) ?_
        refine AOps.nil ?_
        refine ACode.ret ?_
        refine AFin.pureRet rfl (.cons rfl .nil) ?_
        exact D.Le.eq (congrArg D.bool (by rw [decide_eq_false (ne_of_getD (by simpa using h26))]))
      ·
        try simp only [decide_eq_true_eq, decide_eq_false_iff_not, Bool.not_eq_true', Bool.not_eq_false', Bool.and_eq_true, Bool.or_eq_true, beq_iff_eq, beq_eq_false_iff_ne] at h26
        refine ACode.skip ?_
        refine ACode.region ?_
        refine AOps.v rfl rfl rfl (AVal.moveN (by constructor)) ?_
        refine AOps.v rfl rfl rfl (AVal.addn rfl rfl (by omega)) ?_
        refine AOps.v rfl rfl rfl (AVal.assignN (by constructor)) ?_
        refine AOps.nil ?_
        refine ⟨i + 1, ⟨by omega, take_eq_succ hab hlt hg (by simpa using h26)⟩, by omega, rfl, (by repeat first | exact Agree.nil | refine Agree.cons (.refl _) ?_), (by repeat first | exact List.Sublist.refl _ | apply List.Sublist.cons_cons | apply List.Sublist.cons | exact List.nil_sublist _)⟩
    ·
      try simp only [decide_eq_true_eq, decide_eq_false_iff_not, Bool.not_eq_true', Bool.not_eq_false', Bool.and_eq_true, Bool.or_eq_true, beq_iff_eq, beq_eq_false_iff_ne] at h14
      refine ACode.exit ?_
      refine ACode.seq ?_
      refine ACode.region ?_
      refine AOps.v rfl rfl rfl (AVal.assignN (by constructor)) ?_
      refine AOps.nil ?_
      refine ACode.ret ?_
      refine AFin.pureRet rfl (.cons rfl .nil) ?_
      exact D.Le.eq (congrArg D.bool (by rw [decide_eq_true (eq_of_take hab (by omega) hg)]))

theorem sameTerm_c  : ∀ (m : Nat) (t u : Term), t.sz = m → t.fit 9223372036854775807 → AFn X 10 [encT t, encT u] (.bool (decide (t = u))) := by
  intro m
  induction m using Nat.strongRecOn with
  | _ m ih =>
  intro t u hm hf
  refine ACalls.of_code Tryz.func10 rfl (by rfl) (Nat.le_of_ble_eq_true rfl) ?_
  refine ACode.seq ?_
  refine ACode.region ?_
  refine AOps.e rfl rfl rfl (AOp.boxA rfl (fun b2 => ?_))
  refine AOps.e rfl rfl rfl (AOp.boxA rfl (fun b3 => ?_))
  refine AOps.v rfl rfl rfl (AVal.assignN (by constructor)) ?_
  refine AOps.nil ?_
  refine ACode.seq ?_
  refine ACode.region ?_
  refine AOps.v rfl rfl rfl (AVal.fieldP rfl rfl) ?_
  refine AOps.v rfl rfl rfl (AVal.loadPN 1 rfl rfl rfl rfl (by constructor)) ?_
  refine AOps.v rfl rfl rfl (AVal.fieldP rfl rfl) ?_
  refine AOps.v rfl rfl rfl (AVal.loadPN 0 rfl rfl rfl rfl (by constructor)) ?_
  refine AOps.v rfl rfl rfl (AVal.eql rfl rfl) ?_
  refine AOps.v rfl rfl rfl (AVal.moveN (by constructor)) ?_
  refine AOps.split 10 rfl (fun h10 => ?_) (fun h10 => ?_)
  ·
    try simp only [decide_eq_true_eq, decide_eq_false_iff_not, Bool.not_eq_true', Bool.not_eq_false', Bool.and_eq_true, Bool.or_eq_true, beq_iff_eq, beq_eq_false_iff_ne] at h10
    refine AOps.vT rfl rfl rfl rfl rfl rfl (AVal.fieldP rfl rfl) ?_
    refine AOps.vT rfl rfl rfl rfl rfl rfl (AVal.loadPN 1 rfl rfl rfl rfl (by constructor)) ?_
    refine AOps.vT rfl rfl rfl rfl rfl rfl (AVal.fieldP rfl rfl) ?_
    refine AOps.vT rfl rfl rfl rfl rfl rfl (AVal.loadPN 0 rfl rfl rfl rfl (by constructor)) ?_
    refine AOps.vT rfl rfl rfl rfl rfl rfl (AVal.eql rfl rfl) ?_
    refine AOps.v rfl rfl rfl (AVal.pickT rfl (by constructor)) ?_
    refine AOps.v rfl rfl rfl (AVal.moveN (by constructor)) ?_
    refine AOps.split 17 rfl (fun h17 => ?_) (fun h17 => ?_)
    ·
      try simp only [decide_eq_true_eq, decide_eq_false_iff_not, Bool.not_eq_true', Bool.not_eq_false', Bool.and_eq_true, Bool.or_eq_true, beq_iff_eq, beq_eq_false_iff_ne] at h17
      refine AOps.vT rfl rfl rfl rfl rfl rfl (AVal.fieldP rfl rfl) ?_
      refine AOps.vT rfl rfl rfl rfl rfl rfl (AVal.loadPN 1 rfl rfl rfl rfl (by constructor)) ?_
      refine AOps.vT rfl rfl rfl rfl rfl rfl (AVal.fieldP rfl rfl) ?_
      refine AOps.vT rfl rfl rfl rfl rfl rfl (AVal.loadPN 0 rfl rfl rfl rfl (by constructor)) ?_
      refine AOps.vT rfl rfl rfl rfl rfl rfl (AVal.eql rfl rfl) ?_
      refine AOps.v rfl rfl rfl (AVal.pickT rfl (by constructor)) ?_
      refine AOps.v rfl rfl rfl (AVal.moveN (by constructor)) ?_
      refine AOps.split 24 rfl (fun h24 => ?_) (fun h24 => ?_)
      ·
        try simp only [decide_eq_true_eq, decide_eq_false_iff_not, Bool.not_eq_true', Bool.not_eq_false', Bool.and_eq_true, Bool.or_eq_true, beq_iff_eq, beq_eq_false_iff_ne] at h24
        refine AOps.vT rfl rfl rfl rfl rfl rfl (AVal.fieldP rfl rfl) ?_
        refine AOps.vT rfl rfl rfl rfl rfl rfl (AVal.loadPN 1 rfl rfl rfl rfl (by constructor)) ?_
        refine AOps.vT rfl rfl rfl rfl rfl rfl (AVal.fieldP rfl rfl) ?_
        refine AOps.vT rfl rfl rfl rfl rfl rfl (AVal.loadPN 0 rfl rfl rfl rfl (by constructor)) ?_
        refine AOps.eT rfl rfl rfl rfl rfl rfl (AOp.callP (sameLevels_c _ _ hf.llen (fun l hl => hf.plen hl)) (by first | exact LeL.eq rfl | (repeat constructor)) ?_)
        refine AOps.v rfl rfl rfl (AVal.pickT rfl (by constructor)) ?_
        refine AOps.v rfl rfl rfl (AVal.moveN (by constructor)) ?_
        refine AOps.split 31 rfl (fun h31 => ?_) (fun h31 => ?_)
        ·
          try simp only [decide_eq_true_eq, decide_eq_false_iff_not, Bool.not_eq_true', Bool.not_eq_false', Bool.and_eq_true, Bool.or_eq_true, beq_iff_eq, beq_eq_false_iff_ne] at h31
          refine AOps.vT rfl rfl rfl rfl rfl rfl (AVal.fieldP rfl rfl) ?_
          refine AOps.vT rfl rfl rfl rfl rfl rfl (AVal.loadPN 1 rfl rfl rfl rfl (by constructor)) ?_
          refine AOps.vT rfl rfl rfl rfl rfl rfl (AVal.fieldP rfl rfl) ?_
          refine AOps.vT rfl rfl rfl rfl rfl rfl (AVal.loadPN 0 rfl rfl rfl rfl (by constructor)) ?_
          refine AOps.eT rfl rfl rfl rfl rfl rfl (AOp.callP (sameTerms_c _ _ hf.len (fun k hk u => ih k.sz (by rw [← hm]; exact Term.sz_lt hk) k u rfl (hf.kid hk))) (by first | exact LeL.eq rfl | (repeat constructor)) ?_)
          refine AOps.v rfl rfl rfl (AVal.pickT rfl (by constructor)) ?_
          refine AOps.v rfl rfl rfl (AVal.assignN (by constructor)) ?_
          refine AOps.nil ?_
          refine ACode.ret ?_
          refine AFin.pureRet rfl (.cons rfl .nil) ?_
          exact D.Le.eq (congrArg D.bool (by rw [Bool.eq_iff_iff]; simp only [decide_eq_true_eq, decide_eq_false_iff_not, Bool.false_eq_true, false_iff, true_iff]; first | exact ⟨fun e => Term.ext' (by assumption) (by assumption) (by assumption) (by assumption) e, fun e => by rw [e]⟩ | (intro e; subst e; simp_all)))
        ·
          try simp only [decide_eq_true_eq, decide_eq_false_iff_not, Bool.not_eq_true', Bool.not_eq_false', Bool.and_eq_true, Bool.or_eq_true, beq_iff_eq, beq_eq_false_iff_ne] at h31
          refine AOps.vF rfl rfl rfl rfl rfl rfl rfl ?_
          refine AOps.vF rfl rfl rfl rfl rfl rfl rfl ?_
          refine AOps.vF rfl rfl rfl rfl rfl rfl rfl ?_
          refine AOps.vF rfl rfl rfl rfl rfl rfl rfl ?_
          refine AOps.vF rfl rfl rfl rfl rfl rfl rfl ?_
          refine AOps.v rfl rfl rfl (AVal.pickF rfl (by constructor)) ?_
          refine AOps.v rfl rfl rfl (AVal.assignN (by constructor)) ?_
          refine AOps.nil ?_
          refine ACode.ret ?_
          refine AFin.pureRet rfl (.cons rfl .nil) ?_
          exact D.Le.eq (congrArg D.bool (by rw [Bool.eq_iff_iff]; simp only [decide_eq_true_eq, decide_eq_false_iff_not, Bool.false_eq_true, false_iff, true_iff]; first | exact ⟨fun e => Term.ext' (by assumption) (by assumption) (by assumption) (by assumption) e, fun e => by rw [e]⟩ | (intro e; subst e; simp_all)))
      ·
        try simp only [decide_eq_true_eq, decide_eq_false_iff_not, Bool.not_eq_true', Bool.not_eq_false', Bool.and_eq_true, Bool.or_eq_true, beq_iff_eq, beq_eq_false_iff_ne] at h24
        refine AOps.vF rfl rfl rfl rfl rfl rfl rfl ?_
        refine AOps.vF rfl rfl rfl rfl rfl rfl rfl ?_
        refine AOps.vF rfl rfl rfl rfl rfl rfl rfl ?_
        refine AOps.vF rfl rfl rfl rfl rfl rfl rfl ?_
        refine AOps.vF rfl rfl rfl rfl rfl rfl rfl ?_
        refine AOps.v rfl rfl rfl (AVal.pickF rfl (by constructor)) ?_
        refine AOps.v rfl rfl rfl (AVal.moveN (by constructor)) ?_
        refine AOps.vF rfl rfl rfl rfl rfl rfl rfl ?_
        refine AOps.vF rfl rfl rfl rfl rfl rfl rfl ?_
        refine AOps.vF rfl rfl rfl rfl rfl rfl rfl ?_
        refine AOps.vF rfl rfl rfl rfl rfl rfl rfl ?_
        refine AOps.vF rfl rfl rfl rfl rfl rfl rfl ?_
        refine AOps.v rfl rfl rfl (AVal.pickF rfl (by constructor)) ?_
        refine AOps.v rfl rfl rfl (AVal.assignN (by constructor)) ?_
        refine AOps.nil ?_
        refine ACode.ret ?_
        refine AFin.pureRet rfl (.cons rfl .nil) ?_
        exact D.Le.eq (congrArg D.bool (by rw [Bool.eq_iff_iff]; simp only [decide_eq_true_eq, decide_eq_false_iff_not, Bool.false_eq_true, false_iff, true_iff]; first | exact ⟨fun e => Term.ext' (by assumption) (by assumption) (by assumption) (by assumption) e, fun e => by rw [e]⟩ | (intro e; subst e; simp_all)))
    ·
      try simp only [decide_eq_true_eq, decide_eq_false_iff_not, Bool.not_eq_true', Bool.not_eq_false', Bool.and_eq_true, Bool.or_eq_true, beq_iff_eq, beq_eq_false_iff_ne] at h17
      refine AOps.vF rfl rfl rfl rfl rfl rfl rfl ?_
      refine AOps.vF rfl rfl rfl rfl rfl rfl rfl ?_
      refine AOps.vF rfl rfl rfl rfl rfl rfl rfl ?_
      refine AOps.vF rfl rfl rfl rfl rfl rfl rfl ?_
      refine AOps.vF rfl rfl rfl rfl rfl rfl rfl ?_
      refine AOps.v rfl rfl rfl (AVal.pickF rfl (by constructor)) ?_
      refine AOps.v rfl rfl rfl (AVal.moveN (by constructor)) ?_
      refine AOps.vF rfl rfl rfl rfl rfl rfl rfl ?_
      refine AOps.vF rfl rfl rfl rfl rfl rfl rfl ?_
      refine AOps.vF rfl rfl rfl rfl rfl rfl rfl ?_
      refine AOps.vF rfl rfl rfl rfl rfl rfl rfl ?_
      refine AOps.vF rfl rfl rfl rfl rfl rfl rfl ?_
      refine AOps.v rfl rfl rfl (AVal.pickF rfl (by constructor)) ?_
      refine AOps.v rfl rfl rfl (AVal.moveN (by constructor)) ?_
      refine AOps.vF rfl rfl rfl rfl rfl rfl rfl ?_
      refine AOps.vF rfl rfl rfl rfl rfl rfl rfl ?_
      refine AOps.vF rfl rfl rfl rfl rfl rfl rfl ?_
      refine AOps.vF rfl rfl rfl rfl rfl rfl rfl ?_
      refine AOps.vF rfl rfl rfl rfl rfl rfl rfl ?_
      refine AOps.v rfl rfl rfl (AVal.pickF rfl (by constructor)) ?_
      refine AOps.v rfl rfl rfl (AVal.assignN (by constructor)) ?_
      refine AOps.nil ?_
      refine ACode.ret ?_
      refine AFin.pureRet rfl (.cons rfl .nil) ?_
      exact D.Le.eq (congrArg D.bool (by rw [Bool.eq_iff_iff]; simp only [decide_eq_true_eq, decide_eq_false_iff_not, Bool.false_eq_true, false_iff, true_iff]; first | exact ⟨fun e => Term.ext' (by assumption) (by assumption) (by assumption) (by assumption) e, fun e => by rw [e]⟩ | (intro e; subst e; simp_all)))
  ·
    try simp only [decide_eq_true_eq, decide_eq_false_iff_not, Bool.not_eq_true', Bool.not_eq_false', Bool.and_eq_true, Bool.or_eq_true, beq_iff_eq, beq_eq_false_iff_ne] at h10
    refine AOps.vF rfl rfl rfl rfl rfl rfl rfl ?_
    refine AOps.vF rfl rfl rfl rfl rfl rfl rfl ?_
    refine AOps.vF rfl rfl rfl rfl rfl rfl rfl ?_
    refine AOps.vF rfl rfl rfl rfl rfl rfl rfl ?_
    refine AOps.vF rfl rfl rfl rfl rfl rfl rfl ?_
    refine AOps.v rfl rfl rfl (AVal.pickF rfl (by constructor)) ?_
    refine AOps.v rfl rfl rfl (AVal.moveN (by constructor)) ?_
    refine AOps.vF rfl rfl rfl rfl rfl rfl rfl ?_
    refine AOps.vF rfl rfl rfl rfl rfl rfl rfl ?_
    refine AOps.vF rfl rfl rfl rfl rfl rfl rfl ?_
    refine AOps.vF rfl rfl rfl rfl rfl rfl rfl ?_
    refine AOps.vF rfl rfl rfl rfl rfl rfl rfl ?_
    refine AOps.v rfl rfl rfl (AVal.pickF rfl (by constructor)) ?_
    refine AOps.v rfl rfl rfl (AVal.moveN (by constructor)) ?_
    refine AOps.vF rfl rfl rfl rfl rfl rfl rfl ?_
    refine AOps.vF rfl rfl rfl rfl rfl rfl rfl ?_
    refine AOps.vF rfl rfl rfl rfl rfl rfl rfl ?_
    refine AOps.vF rfl rfl rfl rfl rfl rfl rfl ?_
    refine AOps.vF rfl rfl rfl rfl rfl rfl rfl ?_
    refine AOps.v rfl rfl rfl (AVal.pickF rfl (by constructor)) ?_
    refine AOps.v rfl rfl rfl (AVal.moveN (by constructor)) ?_
    refine AOps.vF rfl rfl rfl rfl rfl rfl rfl ?_
    refine AOps.vF rfl rfl rfl rfl rfl rfl rfl ?_
    refine AOps.vF rfl rfl rfl rfl rfl rfl rfl ?_
    refine AOps.vF rfl rfl rfl rfl rfl rfl rfl ?_
    refine AOps.vF rfl rfl rfl rfl rfl rfl rfl ?_
    refine AOps.v rfl rfl rfl (AVal.pickF rfl (by constructor)) ?_
    refine AOps.v rfl rfl rfl (AVal.assignN (by constructor)) ?_
    refine AOps.nil ?_
    refine ACode.ret ?_
    refine AFin.pureRet rfl (.cons rfl .nil) ?_
    exact D.Le.eq (congrArg D.bool (by rw [Bool.eq_iff_iff]; simp only [decide_eq_true_eq, decide_eq_false_iff_not, Bool.false_eq_true, false_iff, true_iff]; first | exact ⟨fun e => Term.ext' (by assumption) (by assumption) (by assumption) (by assumption) e, fun e => by rw [e]⟩ | (intro e; subst e; simp_all)))

end Sp

/- The walks of terms: walking, lifting, putting. Written by a program of mine. -/
set_option linter.unusedVariables false
set_option linter.unusedSimpArgs false
set_option maxRecDepth 20000
namespace Sp
open Go Go.Proofs

theorem means_c (b num : Int) : AFn X 59 [.agg [.int .i64 b], .int .i64 num] (.tup [.int .i64 (w64 (num - b)), .bool (decide (b ≤ num))]) := by
  refine ACalls.of_code Tryz.func59 rfl (by rfl) (Nat.le_of_ble_eq_true rfl) ?_
  refine ACode.seq ?_
  refine ACode.region ?_
  refine AOps.e rfl rfl rfl (AOp.boxA rfl (fun b2 => ?_))
  refine AOps.v rfl rfl rfl (AVal.assignN (by constructor)) ?_
  refine AOps.v rfl rfl rfl (AVal.assignN (by constructor)) ?_
  refine AOps.nil ?_
  refine ACode.seq ?_
  refine ACode.draws [.p 0, .p 1, .l 2, .p 3, .p 4, .p 5, .l 6, .p 7, .p 8, .p 9] mixed (by kernel_rfl) ?_
  refine ASeq.pv rfl rfl rfl rfl (fun L0 => (AVal.moveN (by constructor))) ?_
  refine ASeq.pv rfl rfl rfl rfl (fun L0 => (AVal.fieldP rfl rfl)) ?_
  refine ASeq.lv rfl rfl rfl rfl (HasCell.mk 0 rfl rfl (by constructor)) ?_
  refine ASeq.pv rfl rfl rfl rfl (fun L0 => (AVal.sub rfl rfl)) ?_
  refine ASeq.pv rfl rfl rfl rfl (fun L0 => (AVal.moveN (by constructor))) ?_
  refine ASeq.pv rfl rfl rfl rfl (fun L0 => (AVal.fieldP rfl rfl)) ?_
  refine ASeq.lv rfl rfl rfl rfl (HasCell.mk 0 rfl rfl (by constructor)) ?_
  refine ASeq.pv rfl rfl rfl rfl (fun L0 => (AVal.geq rfl rfl)) ?_
  refine ASeq.pv rfl rfl rfl rfl (fun L0 => (AVal.assignN (by constructor))) ?_
  refine ASeq.pv rfl rfl rfl rfl (fun L0 => (AVal.assignN (by constructor))) ?_
  refine ASeq.nil ?_
  refine ACode.ret ?_
  refine AFin.pureRet rfl (.cons rfl (.cons rfl .nil)) ?_
  exact D.Le.refl _

theorem below_c (b k i : Int) (f : D) (hf : f.one = true) (h0 : 0 ≤ b) (h1 : b ≤ 4611686018427387904) : AFn X 78 [.agg [.int .i64 b, f], .int .i64 k, .int .i64 i] (.agg [.int .i64 (bif binds k i then b + 1 else b), f]) := by
  refine ACalls.of_code Tryz.func78 rfl (by rfl) (Nat.le_of_ble_eq_true rfl) ?_
  refine ACode.seq ?_
  refine ACode.region ?_
  refine AOps.e rfl rfl rfl (AOp.boxA rfl (fun b3 => ?_))
  refine AOps.e rfl rfl rfl (AOp.allocN rfl rfl (fun b6 => ?_))
  refine AOps.nil ?_
  refine ACode.seq ?_
  refine ACode.seq ?_
  refine ACode.region ?_
  refine AOps.v rfl rfl rfl (AVal.moveN (by constructor)) ?_
  refine AOps.v rfl rfl rfl (AVal.moveN (by constructor)) ?_
  refine AOps.e rfl rfl rfl (AOp.callP (binds_c _ _) (by first | exact LeL.eq rfl | (repeat constructor)) ?_)
  refine AOps.nil ?_
  refine ACode.condS rfl (fun h9 => ?_) (fun h9 => ?_)
  ·
    try simp only [decide_eq_true_eq, decide_eq_false_iff_not, Bool.not_eq_true', Bool.not_eq_false', Bool.and_eq_true, Bool.or_eq_true, beq_iff_eq, beq_eq_false_iff_ne] at h9
    refine ACode.region ?_
    refine AOps.v rfl rfl rfl (AVal.fieldP rfl rfl) ?_
    refine AOps.v rfl rfl rfl (AVal.fieldP rfl rfl) ?_
    refine AOps.v rfl rfl rfl (AVal.loadPN 1 rfl rfl rfl rfl (by constructor)) ?_
    refine AOps.v rfl rfl rfl (AVal.addn rfl rfl (by omega)) ?_
    refine AOps.v rfl rfl rfl (AVal.fieldP rfl rfl) ?_
    refine AOps.v rfl rfl rfl (AVal.fieldP rfl rfl) ?_
    refine AOps.e0 rfl rfl (AOp.storeN 1 rfl rfl rfl (by constructor) rfl rfl rfl (by repeat constructor) (by repeat constructor) ?_)
    refine AOps.nil ?_
    refine ACode.seq ?_
    refine ACode.region ?_
    refine AOps.v rfl rfl rfl (AVal.loadPN 1 rfl rfl rfl rfl (by constructor)) ?_
    refine AOps.e0 rfl rfl (AOp.storeN 0 rfl rfl rfl (by constructor) rfl rfl rfl (by repeat constructor) (by repeat constructor) ?_)
    refine AOps.nil ?_
    refine ACode.ret ?_
    refine AFin.pureRet rfl (.cons (by first | exact ARead.box 0 rfl rfl rfl rfl | exact ARead.box 1 rfl rfl rfl rfl | exact ARead.box 2 rfl rfl rfl rfl | exact ARead.box 3 rfl rfl rfl rfl | exact ARead.box 4 rfl rfl rfl rfl | exact ARead.box 5 rfl rfl rfl rfl | exact ARead.box 6 rfl rfl rfl rfl | exact ARead.box 7 rfl rfl rfl rfl) .nil) ?_
    exact D.Le.eq (by rw [h9]; rfl)
  ·
    try simp only [decide_eq_true_eq, decide_eq_false_iff_not, Bool.not_eq_true', Bool.not_eq_false', Bool.and_eq_true, Bool.or_eq_true, beq_iff_eq, beq_eq_false_iff_ne] at h9
    refine ACode.skip ?_
    refine ACode.seq ?_
    refine ACode.region ?_
    refine AOps.v rfl rfl rfl (AVal.loadPN 1 rfl rfl rfl rfl (by constructor)) ?_
    refine AOps.e0 rfl rfl (AOp.storeN 0 rfl rfl rfl (by constructor) rfl rfl rfl (by repeat constructor) (by repeat constructor) ?_)
    refine AOps.nil ?_
    refine ACode.ret ?_
    refine AFin.pureRet rfl (.cons (by first | exact ARead.box 0 rfl rfl rfl rfl | exact ARead.box 1 rfl rfl rfl rfl | exact ARead.box 2 rfl rfl rfl rfl | exact ARead.box 3 rfl rfl rfl rfl | exact ARead.box 4 rfl rfl rfl rfl | exact ARead.box 5 rfl rfl rfl rfl | exact ARead.box 6 rfl rfl rfl rfl | exact ARead.box 7 rfl rfl rfl rfl) .nil) ?_
    exact D.Le.eq (by rw [h9]; rfl)

theorem walk_c {f : FuncId} {caps : List D} {L0 : Loc} {gg : Int → Term → Term} {dn : Int → Term → Bool} (H : ∀ b t, 0 ≤ b → b ≤ 4611686018427387904 → t.fit 1099511627776 → AKeep X f ([.agg [.int .i64 b, .func (.func f) [] caps], encT t] ++ caps) L0 (.tup [encT (gg b t), .bool (dn b t)])) (hk : ∀ b t, 0 ≤ b → dn b t = false → (gg b t).kids = t.kids) : ∀ (m : Nat) (t : Term), t.sz = m → t.fit 1099511627776 → ∀ b : Int, 0 ≤ b → b + m ≤ 4611686018427387904 → AKeep X 61 [.agg [.int .i64 b, .func (.func f) [] caps], encT t] L0 (encT (walkM gg dn b t)) := by
  intro m
  induction m using Nat.strongRecOn with
  | _ m ih =>
  intro t hm hf b hb0 hb1
  have hbb : b ≤ 4611686018427387904 := by omega
  refine ACalls.of_code Tryz.func61 rfl (by rfl) (Nat.le_of_ble_eq_true rfl) ?_
  refine ACode.seq ?_
  refine ACode.region ?_
  refine AOps.e rfl rfl rfl (AOp.boxA rfl (fun b2 => ?_))
  refine AOps.e rfl rfl rfl (AOp.boxA rfl (fun b3 => ?_))
  refine AOps.e rfl rfl rfl (AOp.allocN rfl rfl (fun b4 => ?_))
  refine AOps.nil ?_
  refine ACode.seq ?_
  refine ACode.region ?_
  refine AOps.v rfl rfl rfl (AVal.fieldP rfl rfl) ?_
  refine AOps.v rfl rfl rfl (AVal.loadPN 2 rfl rfl rfl rfl (by constructor)) ?_
  refine AOps.v rfl rfl rfl (AVal.loadPN 2 rfl rfl rfl rfl (by constructor)) ?_
  refine AOps.v rfl rfl rfl (AVal.loadP (d := encT _) 1 rfl rfl rfl rfl) ?_
  refine AOps.e rfl rfl rfl (AOp.callVK [_, _, _] rfl (H b t hb0 hbb hf) (LeL.eq rfl) rfl ?_)
  refine AOps.v rfl rfl rfl (AVal.moveN (by constructor)) ?_
  refine AOps.v rfl rfl rfl (AVal.extractN rfl rfl (by constructor)) ?_
  refine AOps.v rfl rfl rfl (AVal.extractN rfl rfl (by constructor)) ?_
  refine AOps.e rfl rfl rfl (AOp.allocN rfl rfl (fun b5 => ?_))
  refine AOps.e0 rfl rfl (AOp.storeN 0 rfl rfl rfl (by constructor) rfl rfl rfl (by repeat constructor) (by repeat constructor) ?_)
  refine AOps.v rfl rfl rfl (AVal.assignN (by constructor)) ?_
  refine AOps.nil ?_
  refine ACode.seq ?_
  refine ACode.seq ?_
  refine ACode.region ?_
  refine AOps.v rfl rfl rfl (AVal.moveN (by constructor)) ?_
  refine AOps.nil ?_
  refine ACode.condS rfl (fun h18 => ?_) (fun h18 => ?_)
  ·
    try simp only [decide_eq_true_eq, decide_eq_false_iff_not, Bool.not_eq_true', Bool.not_eq_false', Bool.and_eq_true, Bool.or_eq_true, beq_iff_eq, beq_eq_false_iff_ne] at h18
    refine ACode.seq ?_
    refine ACode.region ?_
    refine AOps.v rfl rfl rfl (AVal.loadP (d := encT _) 0 rfl rfl rfl rfl) ?_
    refine AOps.e0 rfl rfl (AOp.storeN 1 rfl rfl rfl (by constructor) rfl rfl rfl (by repeat constructor) (by repeat constructor) ?_)
    refine AOps.nil ?_
    refine ACode.ret ?_
    refine AFin.keepRet rfl (.cons (by first | exact ARead.box (d := encT _) 0 rfl rfl rfl rfl | exact ARead.box (d := encT _) 1 rfl rfl rfl rfl | exact ARead.box (d := encT _) 2 rfl rfl rfl rfl | exact ARead.box (d := encT _) 3 rfl rfl rfl rfl | exact ARead.box (d := encT _) 4 rfl rfl rfl rfl | exact ARead.box (d := encT _) 5 rfl rfl rfl rfl | exact ARead.box (d := encT _) 6 rfl rfl rfl rfl | exact ARead.box (d := encT _) 7 rfl rfl rfl rfl | exact ARead.box 0 rfl rfl rfl rfl | exact ARead.box 1 rfl rfl rfl rfl | exact ARead.box 2 rfl rfl rfl rfl | exact ARead.box 3 rfl rfl rfl rfl | exact ARead.box 4 rfl rfl rfl rfl | exact ARead.box 5 rfl rfl rfl rfl | exact ARead.box 6 rfl rfl rfl rfl | exact ARead.box 7 rfl rfl rfl rfl) .nil) (by repeat first | exact List.Sublist.refl _ | apply List.Sublist.cons_cons | apply List.Sublist.cons) ?_
    exact D.Le.eq (encT_eq (by rw [walkM_eq, h18]; rfl))
  ·
    try simp only [decide_eq_true_eq, decide_eq_false_iff_not, Bool.not_eq_true', Bool.not_eq_false', Bool.and_eq_true, Bool.or_eq_true, beq_iff_eq, beq_eq_false_iff_ne] at h18
    refine ACode.skip ?_
    refine ACode.seq ?_
    refine ACode.region ?_
    refine AOps.v rfl rfl rfl (AVal.fieldP rfl rfl) ?_
    refine AOps.v rfl rfl rfl (AVal.loadPN 0 rfl rfl rfl rfl (by constructor)) ?_
    refine AOps.v rfl rfl rfl (AVal.assignN (by constructor)) ?_
    refine AOps.nil ?_
    refine ACode.seq ?_
    refine ACode.region ?_
    refine AOps.v rfl rfl rfl (AVal.fieldP rfl rfl) ?_
    refine AOps.e0 rfl rfl (AOp.storeN 0 rfl rfl rfl (by constructor) rfl rfl rfl (by repeat constructor) (by repeat constructor) ?_)
    refine AOps.nil ?_
    refine ACode.seq ?_
    refine ACode.seq ?_
    refine ACode.region ?_
    refine AOps.v rfl rfl rfl (AVal.moveN (by constructor)) ?_
    refine AOps.v rfl rfl rfl (AVal.len rfl rfl rfl) ?_
    refine AOps.v rfl rfl rfl (AVal.moveN (by constructor)) ?_
    refine AOps.nil ?_
    refine ACode.block ?_
    have hkk : (gg b t).kids = t.kids := hk b t hb0 h18
    have hlen : (gg b t).kids.length ≤ 1099511627776 := by rw [hkk]; exact hf.len
    refine ACode.loop (γ := Nat × Nat × Nat) (fun g => [(2, .ptr b2 0), (3, .ptr b3 0), (4, .ptr b4 0), (5, .ptr b5 0), (23, .slT (gg b t).kids), (24, .int .i64 (gg b t).kids.length), (25, .int .i64 g.1)]) (fun g => (growL 27 5 g.1 g.2.1 g.2.2 ((walkMs gg dn b t.kind 0 ((gg b t).kids.take g.1)).map encT)) ++ ((b5, .cells 27 [.int .i64 (gg b t).kind, .int .i64 (gg b t).num, .int .i64 (gg b t).at_, .slL (gg b t).levels, (growD g.1 g.2.1 g.2.2 ((walkMs gg dn b t.kind 0 ((gg b t).kids.take g.1)).map encT))]) :: (b4, .cells 27 [.int .i64 0, .int .i64 0, .int .i64 0, .emp, .emp]) :: (b3, .cells 27 (cellsT t)) :: (b2, .cells 98 [.int .i64 b, .func (.func f) [] caps]) :: L0)) (fun g => g.1 ≤ (gg b t).kids.length) (fun g => (gg b t).kids.length - g.1) (0, 0, 0) (Nat.zero_le _) (by repeat first | exact Agree.nil | refine Agree.cons (.refl _) ?_) (List.Sublist.refl _) ?_
    rintro ⟨i, bb, cap⟩ hi t1
    simp only at hi ⊢
    rcases i with _ | i
    ·
      simp only [growL, growD, List.nil_append]
      refine ACode.seq ?_
      refine ACode.region ?_
      refine AOps.v rfl rfl rfl (AVal.lss rfl rfl) ?_
      refine AOps.nil ?_
      refine ACode.seq ?_
      refine ACode.condS rfl (fun h26 => ?_) (fun h26 => ?_)
      ·
        try simp only [decide_eq_true_eq, decide_eq_false_iff_not, Bool.not_eq_true', Bool.not_eq_false', Bool.and_eq_true, Bool.or_eq_true, beq_iff_eq, beq_eq_false_iff_ne] at h26
        have hlt : (0 : Nat) < (gg b t).kids.length := by omega
        have hmem : (gg b t).kids.getD (0) default ∈ t.kids := by rw [hkk] at hlt ⊢; exact getD_mem hlt
        refine ACode.skip ?_
        refine ACode.seq ?_
        refine ACode.block ?_
        refine ACode.seq ?_
        refine ACode.region ?_
        refine AOps.v rfl rfl rfl (AVal.moveN (by constructor)) ?_
        refine AOps.v rfl rfl rfl (AVal.indexTN rfl rfl rfl rfl rfl ⟨by omega, by omega⟩) ?_
        refine AOps.v rfl rfl rfl (AVal.loadE (d := encT _) rfl rfl rfl) ?_
        refine AOps.e rfl rfl rfl (AOp.allocN rfl rfl (fun b9 => ?_))
        refine AOps.v rfl rfl rfl (AVal.assignN (by constructor)) ?_
        refine AOps.e0 rfl rfl (AOp.storeN 0 rfl rfl rfl (by constructor) rfl rfl rfl (by repeat constructor) (by repeat constructor) ?_)
        refine AOps.nil ?_
        refine ACode.draws [.p 0, .l 1, .l 2, .p 3, .l 4, .p 5, .p 6, .l 7, .e 8 [1], .p 9, .e 10 [], .p 11, .e 12 []] mixed (by kernel_rfl) ?_
        refine ASeq.pv rfl rfl rfl rfl (fun L0 => (AVal.fieldP rfl rfl)) ?_
        refine ASeq.lv rfl rfl rfl rfl (HasCell.mk 1 rfl rfl (by constructor)) ?_
        refine ASeq.lv rfl rfl rfl rfl (HasCell.mk 4 rfl rfl (by constructor)) ?_
        refine ASeq.pv rfl rfl rfl rfl (fun L0 => (AVal.fieldP rfl rfl)) ?_
        refine ASeq.lv rfl rfl rfl rfl (HasCell.mk 3 rfl rfl (by constructor)) ?_
        refine ASeq.pv rfl rfl rfl rfl (fun L0 => (AVal.moveN (by constructor))) ?_
        refine ASeq.pe rfl rfl rfl rfl (fun L0 => (AOp.callP (below_c b t.kind (0 : Nat) (.func (.func f) [] caps) rfl hb0 hbb) (by first | exact LeL.eq rfl | (repeat constructor)) ⟨rfl, rfl⟩)) ?_
        refine ASeq.lv rfl rfl rfl rfl (HasCell.mk (d := encT _) 0 rfl rfl (.refl _)) ?_
        refine ASeq.ee rfl rfl rfl rfl rfl (AOp.callK [_, _, _, _, _] (ih ((gg b t).kids.getD (0) default).sz (by rw [← hm]; exact Term.sz_lt hmem) _ rfl (hf.kid hmem) (bif binds t.kind (0 : Nat) then b + 1 else b) (by cases binds t.kind (0 : Nat) <;> simp only [cond_true, cond_false] <;> omega) (by have := Term.sz_lt hmem; cases binds t.kind (0 : Nat) <;> simp only [cond_true, cond_false] <;> omega)) (LeL.eq rfl) rfl ⟨(by first | exact Keeps.nil | (repeat first | exact Keeps.nil | refine Keeps.cons (by first | exact HasCell.mk 0 rfl rfl (.refl _) | exact HasCell.mk 1 rfl rfl (.refl _) | exact HasCell.mk 2 rfl rfl (.refl _) | exact HasCell.mk 3 rfl rfl (.refl _) | exact HasCell.mk 4 rfl rfl (.refl _) | exact HasCell.mk 5 rfl rfl (.refl _) | exact HasCell.mk 6 rfl rfl (.refl _) | exact HasCell.mk 7 rfl rfl (.refl _)) ?_)), ?_⟩)
        refine ASeq.pe rfl rfl rfl rfl (fun L0 => (AOp.buildSliceT (ts := [_]) rfl rfl rfl rfl rfl ⟨rfl, rfl⟩)) ?_
        refine ASeq.ee rfl rfl rfl rfl rfl (AOp.app1New rfl rfl rfl rfl rfl rfl rfl rfl (fun b40 cap' => ⟨(by first | exact Keeps.nil | (repeat first | exact Keeps.nil | refine Keeps.cons (by first | exact HasCell.mk 0 rfl rfl (.refl _) | exact HasCell.mk 1 rfl rfl (.refl _) | exact HasCell.mk 2 rfl rfl (.refl _) | exact HasCell.mk 3 rfl rfl (.refl _) | exact HasCell.mk 4 rfl rfl (.refl _) | exact HasCell.mk 5 rfl rfl (.refl _) | exact HasCell.mk 6 rfl rfl (.refl _) | exact HasCell.mk 7 rfl rfl (.refl _)) ?_)), ?_⟩))
        refine ASeq.pv rfl rfl rfl rfl (fun L0 => (AVal.fieldP rfl rfl)) ?_
        refine ASeq.ee0 rfl rfl rfl rfl (AOp.storeN 2 rfl rfl rfl (by constructor) rfl rfl rfl (by repeat constructor) (by repeat constructor) ⟨(by first | exact Keeps.nil | (repeat first | exact Keeps.nil | refine Keeps.cons (by first | exact HasCell.mk 0 rfl rfl (.refl _) | exact HasCell.mk 1 rfl rfl (.refl _) | exact HasCell.mk 2 rfl rfl (.refl _) | exact HasCell.mk 3 rfl rfl (.refl _) | exact HasCell.mk 4 rfl rfl (.refl _) | exact HasCell.mk 5 rfl rfl (.refl _) | exact HasCell.mk 6 rfl rfl (.refl _) | exact HasCell.mk 7 rfl rfl (.refl _)) ?_)), ?_⟩)
        refine ASeq.nil ?_
        refine ACode.region ?_
        refine AOps.v rfl rfl rfl (AVal.addn rfl rfl (by omega)) ?_
        refine AOps.v rfl rfl rfl (AVal.moveN (by constructor)) ?_
        refine AOps.nil ?_
        refine ⟨(0 + 1, b40, cap'), by simp only; omega, by simp only; omega, rfl, (by repeat first | exact Agree.nil | refine Agree.cons (.refl _) ?_), ?_⟩
        simp only [growL, growD, List.cons_append, List.nil_append, walkMs_take_succ gg dn b t.kind hlt, List.map_append, List.map_cons, List.map_nil]
        exact (by repeat first | exact List.Sublist.refl _ | apply List.Sublist.cons_cons | apply List.Sublist.cons | exact List.nil_sublist _)
      ·
        try simp only [decide_eq_true_eq, decide_eq_false_iff_not, Bool.not_eq_true', Bool.not_eq_false', Bool.and_eq_true, Bool.or_eq_true, beq_iff_eq, beq_eq_false_iff_ne] at h26
        refine ACode.exit ?_
        refine ACode.seq ?_
        refine ACode.region ?_
        refine AOps.v rfl rfl rfl (AVal.loadPN 0 rfl rfl rfl rfl (by constructor)) ?_
        refine AOps.e0 rfl rfl (AOp.storeN 1 rfl rfl rfl (by constructor) rfl rfl rfl (by repeat constructor) (by repeat constructor) ?_)
        refine AOps.nil ?_
        refine ACode.ret ?_
        refine AFin.keepRet rfl (.cons (by first | exact ARead.box (d := encT _) 0 rfl rfl rfl rfl | exact ARead.box (d := encT _) 1 rfl rfl rfl rfl | exact ARead.box (d := encT _) 2 rfl rfl rfl rfl | exact ARead.box (d := encT _) 3 rfl rfl rfl rfl | exact ARead.box (d := encT _) 4 rfl rfl rfl rfl | exact ARead.box (d := encT _) 5 rfl rfl rfl rfl | exact ARead.box (d := encT _) 6 rfl rfl rfl rfl | exact ARead.box (d := encT _) 7 rfl rfl rfl rfl | exact ARead.box 0 rfl rfl rfl rfl | exact ARead.box 1 rfl rfl rfl rfl | exact ARead.box 2 rfl rfl rfl rfl | exact ARead.box 3 rfl rfl rfl rfl | exact ARead.box 4 rfl rfl rfl rfl | exact ARead.box 5 rfl rfl rfl rfl | exact ARead.box 6 rfl rfl rfl rfl | exact ARead.box 7 rfl rfl rfl rfl) .nil) (by repeat first | exact List.Sublist.refl _ | apply List.Sublist.cons_cons | apply List.Sublist.cons) ?_
        exact leT' (.slL _) .emp (by rw [walkM_eq, h18, cond_false, ← hkk, List.eq_nil_of_length_eq_zero (by omega : (gg b t).kids.length = 0)]; rfl)
    ·
      simp only [growL, growD, List.cons_append, List.nil_append]
      refine ACode.seq ?_
      refine ACode.region ?_
      refine AOps.v rfl rfl rfl (AVal.lss rfl rfl) ?_
      refine AOps.nil ?_
      refine ACode.seq ?_
      refine ACode.condS rfl (fun h26 => ?_) (fun h26 => ?_)
      ·
        try simp only [decide_eq_true_eq, decide_eq_false_iff_not, Bool.not_eq_true', Bool.not_eq_false', Bool.and_eq_true, Bool.or_eq_true, beq_iff_eq, beq_eq_false_iff_ne] at h26
        have hlt : (i + 1 : Nat) < (gg b t).kids.length := by omega
        have hmem : (gg b t).kids.getD (i + 1) default ∈ t.kids := by rw [hkk] at hlt ⊢; exact getD_mem hlt
        refine ACode.skip ?_
        refine ACode.seq ?_
        refine ACode.block ?_
        refine ACode.seq ?_
        refine ACode.region ?_
        refine AOps.v rfl rfl rfl (AVal.moveN (by constructor)) ?_
        refine AOps.v rfl rfl rfl (AVal.indexTN rfl rfl rfl rfl rfl ⟨by omega, by omega⟩) ?_
        refine AOps.v rfl rfl rfl (AVal.loadE (d := encT _) rfl rfl rfl) ?_
        refine AOps.e rfl rfl rfl (AOp.allocN rfl rfl (fun b9 => ?_))
        refine AOps.v rfl rfl rfl (AVal.assignN (by constructor)) ?_
        refine AOps.e0 rfl rfl (AOp.storeN 0 rfl rfl rfl (by constructor) rfl rfl rfl (by repeat constructor) (by repeat constructor) ?_)
        refine AOps.nil ?_
        refine ACode.draws [.p 0, .l 1, .l 2, .p 3, .l 4, .p 5, .p 6, .l 7, .e 8 [1], .p 9, .e 10 [], .p 11, .e 12 []] mixed (by kernel_rfl) ?_
        refine ASeq.pv rfl rfl rfl rfl (fun L0 => (AVal.fieldP rfl rfl)) ?_
        refine ASeq.lv rfl rfl rfl rfl (HasCell.mk 2 rfl rfl (by constructor)) ?_
        refine ASeq.lv rfl rfl rfl rfl (HasCell.mk 5 rfl rfl (by constructor)) ?_
        refine ASeq.pv rfl rfl rfl rfl (fun L0 => (AVal.fieldP rfl rfl)) ?_
        refine ASeq.lv rfl rfl rfl rfl (HasCell.mk 4 rfl rfl (by constructor)) ?_
        refine ASeq.pv rfl rfl rfl rfl (fun L0 => (AVal.moveN (by constructor))) ?_
        refine ASeq.pe rfl rfl rfl rfl (fun L0 => (AOp.callP (below_c b t.kind (i + 1 : Nat) (.func (.func f) [] caps) rfl hb0 hbb) (by first | exact LeL.eq rfl | (repeat constructor)) ⟨rfl, rfl⟩)) ?_
        refine ASeq.lv rfl rfl rfl rfl (HasCell.mk (d := encT _) 0 rfl rfl (.refl _)) ?_
        refine ASeq.ee rfl rfl rfl rfl rfl (AOp.callK [_, _, _, _, _, _] (ih ((gg b t).kids.getD (i + 1) default).sz (by rw [← hm]; exact Term.sz_lt hmem) _ rfl (hf.kid hmem) (bif binds t.kind (i + 1 : Nat) then b + 1 else b) (by cases binds t.kind (i + 1 : Nat) <;> simp only [cond_true, cond_false] <;> omega) (by have := Term.sz_lt hmem; cases binds t.kind (i + 1 : Nat) <;> simp only [cond_true, cond_false] <;> omega)) (LeL.eq rfl) rfl ⟨(by first | exact Keeps.nil | (repeat first | exact Keeps.nil | refine Keeps.cons (by first | exact HasCell.mk 0 rfl rfl (.refl _) | exact HasCell.mk 1 rfl rfl (.refl _) | exact HasCell.mk 2 rfl rfl (.refl _) | exact HasCell.mk 3 rfl rfl (.refl _) | exact HasCell.mk 4 rfl rfl (.refl _) | exact HasCell.mk 5 rfl rfl (.refl _) | exact HasCell.mk 6 rfl rfl (.refl _) | exact HasCell.mk 7 rfl rfl (.refl _)) ?_)), ?_⟩)
        refine ASeq.pe rfl rfl rfl rfl (fun L0 => (AOp.buildSliceT (ts := [_]) rfl rfl rfl rfl rfl ⟨rfl, rfl⟩)) ?_
        refine ASeq.ee rfl rfl rfl rfl rfl (AOp.app1Own 1 rfl rfl rfl rfl rfl rfl rfl rfl rfl (by simp only [List.length_map, walkMs_length, List.length_take]; omega) rfl (by repeat constructor) (fun b40 cap' => ⟨(by first | exact Keeps.nil | (repeat first | exact Keeps.nil | refine Keeps.cons (by first | exact HasCell.mk 0 rfl rfl (.refl _) | exact HasCell.mk 1 rfl rfl (.refl _) | exact HasCell.mk 2 rfl rfl (.refl _) | exact HasCell.mk 3 rfl rfl (.refl _) | exact HasCell.mk 4 rfl rfl (.refl _) | exact HasCell.mk 5 rfl rfl (.refl _) | exact HasCell.mk 6 rfl rfl (.refl _) | exact HasCell.mk 7 rfl rfl (.refl _)) ?_)), ?_⟩))
        refine ASeq.pv rfl rfl rfl rfl (fun L0 => (AVal.fieldP rfl rfl)) ?_
        refine ASeq.ee0 rfl rfl rfl rfl (AOp.storeN 2 rfl rfl rfl (by constructor) rfl rfl rfl (by repeat constructor) (by repeat constructor) ⟨(by first | exact Keeps.nil | (repeat first | exact Keeps.nil | refine Keeps.cons (by first | exact HasCell.mk 0 rfl rfl (.refl _) | exact HasCell.mk 1 rfl rfl (.refl _) | exact HasCell.mk 2 rfl rfl (.refl _) | exact HasCell.mk 3 rfl rfl (.refl _) | exact HasCell.mk 4 rfl rfl (.refl _) | exact HasCell.mk 5 rfl rfl (.refl _) | exact HasCell.mk 6 rfl rfl (.refl _) | exact HasCell.mk 7 rfl rfl (.refl _)) ?_)), ?_⟩)
        refine ASeq.nil ?_
        refine ACode.region ?_
        refine AOps.v rfl rfl rfl (AVal.addn rfl rfl (by omega)) ?_
        refine AOps.v rfl rfl rfl (AVal.moveN (by constructor)) ?_
        refine AOps.nil ?_
        refine ⟨(i + 1 + 1, b40, cap'), by simp only; omega, by simp only; omega, rfl, (by repeat first | exact Agree.nil | refine Agree.cons (.refl _) ?_), ?_⟩
        simp only [growL, growD, List.cons_append, List.nil_append, walkMs_take_succ gg dn b t.kind hlt, List.map_append, List.map_cons, List.map_nil]
        exact (by repeat first | exact List.Sublist.refl _ | apply List.Sublist.cons_cons | apply List.Sublist.cons | exact List.nil_sublist _)
      ·
        try simp only [decide_eq_true_eq, decide_eq_false_iff_not, Bool.not_eq_true', Bool.not_eq_false', Bool.and_eq_true, Bool.or_eq_true, beq_iff_eq, beq_eq_false_iff_ne] at h26
        refine ACode.exit ?_
        refine ACode.seq ?_
        refine ACode.region ?_
        refine AOps.v rfl rfl rfl (AVal.loadPN 1 rfl rfl rfl rfl (by constructor)) ?_
        refine AOps.e0 rfl rfl (AOp.storeN 2 rfl rfl rfl (by constructor) rfl rfl rfl (by repeat constructor) (by repeat constructor) ?_)
        refine AOps.nil ?_
        refine ACode.ret ?_
        refine AFin.keepRet rfl (.cons (by first | exact ARead.box (d := encT _) 0 rfl rfl rfl rfl | exact ARead.box (d := encT _) 1 rfl rfl rfl rfl | exact ARead.box (d := encT _) 2 rfl rfl rfl rfl | exact ARead.box (d := encT _) 3 rfl rfl rfl rfl | exact ARead.box (d := encT _) 4 rfl rfl rfl rfl | exact ARead.box (d := encT _) 5 rfl rfl rfl rfl | exact ARead.box (d := encT _) 6 rfl rfl rfl rfl | exact ARead.box (d := encT _) 7 rfl rfl rfl rfl | exact ARead.box 0 rfl rfl rfl rfl | exact ARead.box 1 rfl rfl rfl rfl | exact ARead.box 2 rfl rfl rfl rfl | exact ARead.box 3 rfl rfl rfl rfl | exact ARead.box 4 rfl rfl rfl rfl | exact ARead.box 5 rfl rfl rfl rfl | exact ARead.box 6 rfl rfl rfl rfl | exact ARead.box 7 rfl rfl rfl rfl) .nil) (by repeat first | exact List.Sublist.refl _ | apply List.Sublist.cons_cons | apply List.Sublist.cons) ?_
        exact leT' (.slL _) (.own _ _ _) (by rw [walkM_eq, h18, cond_false, ← hkk, List.take_of_length_le (by omega)])

theorem cloneP_c (ps : List Part) (hl : ps.length ≤ 1099511627776) : AFn X 77 [.slP ps] (.slP ps) := by
  refine ACalls.of_code Tryz.func77 rfl (by rfl) (Nat.le_of_ble_eq_true rfl) ?_
  refine ACode.seq ?_
  refine ACode.region ?_
  refine AOps.v rfl rfl rfl (AVal.assignN (by constructor)) ?_
  refine AOps.nil ?_
  refine ACode.seq ?_
  refine ACode.seq ?_
  refine ACode.region ?_
  refine AOps.v rfl rfl rfl (AVal.moveN (by constructor)) ?_
  refine AOps.e rfl rfl rfl (AOp.eqNil rfl rfl rfl rfl (fun c hc => ?_))
  refine AOps.nil ?_
  refine ACode.condS rfl (fun h4 => ?_) (fun h4 => ?_)
  ·
    try simp only [decide_eq_true_eq, decide_eq_false_iff_not, Bool.not_eq_true', Bool.not_eq_false', Bool.and_eq_true, Bool.or_eq_true, beq_iff_eq, beq_eq_false_iff_ne] at h4
    refine ACode.seq ?_
    refine ACode.region ?_
    refine AOps.v rfl rfl rfl (AVal.assignN (by constructor)) ?_
    refine AOps.nil ?_
    refine ACode.ret ?_
    refine AFin.pureRet rfl (.cons rfl .nil) ?_
    exact .emp _ (congrArg some (hc h4))
  ·
    try simp only [decide_eq_true_eq, decide_eq_false_iff_not, Bool.not_eq_true', Bool.not_eq_false', Bool.and_eq_true, Bool.or_eq_true, beq_iff_eq, beq_eq_false_iff_ne] at h4
    refine ACode.skip ?_
    refine ACode.seq ?_
    refine ACode.region ?_
    refine AOps.e rfl rfl rfl (AOp.buildEmpty rfl rfl ?_)
    refine AOps.v rfl rfl rfl (AVal.moveN (by constructor)) ?_
    refine AOps.e rfl rfl rfl (AOp.appendEmp (d := .slP ps) rfl rfl rfl rfl rfl rfl (fun e he => by obtain ⟨p, _, rfl⟩ := List.mem_map.1 he; rfl) (by simpa using hl) rfl ?_)
    refine AOps.v rfl rfl rfl (AVal.assignN (by constructor)) ?_
    refine AOps.nil ?_
    refine ACode.ret ?_
    refine AFin.pureRet rfl (.cons rfl .nil) ?_
    exact .refl _

theorem cloneL_c (ls : List Level) (hl : ls.length ≤ 1099511627776) : ACalls X 76 [.slL ls] [] (fun r L' => (ls = [] ∧ r = .ret .emp ∧ L' = []) ∨ ∃ b k, r = .ret (.sl b 0 ls.length) ∧ L' = [(b, .cells 62 (flatL ls k))]) := by
  refine ACalls.of_code Tryz.func76 rfl (by rfl) (Nat.le_of_ble_eq_true rfl) ?_
  refine ACode.seq ?_
  refine ACode.region ?_
  refine AOps.v rfl rfl rfl (AVal.assignN (by constructor)) ?_
  refine AOps.nil ?_
  refine ACode.seq ?_
  refine ACode.seq ?_
  refine ACode.region ?_
  refine AOps.v rfl rfl rfl (AVal.moveN (by constructor)) ?_
  refine AOps.e rfl rfl rfl (AOp.eqNil rfl rfl rfl rfl (fun c hc => ?_))
  refine AOps.nil ?_
  refine ACode.condS rfl (fun h4 => ?_) (fun h4 => ?_)
  ·
    try simp only [decide_eq_true_eq, decide_eq_false_iff_not, Bool.not_eq_true', Bool.not_eq_false', Bool.and_eq_true, Bool.or_eq_true, beq_iff_eq, beq_eq_false_iff_ne] at h4
    refine ACode.seq ?_
    refine ACode.region ?_
    refine AOps.v rfl rfl rfl (AVal.assignN (by constructor)) ?_
    refine AOps.nil ?_
    refine ACode.ret ?_
    exact ⟨rfl, _, .emp, [], .cons rfl .nil, Conv.drop (List.nil_sublist _) (.refl _), .inl ⟨by simpa using hc h4, rfl, rfl⟩⟩
  ·
    try simp only [decide_eq_true_eq, decide_eq_false_iff_not, Bool.not_eq_true', Bool.not_eq_false', Bool.and_eq_true, Bool.or_eq_true, beq_iff_eq, beq_eq_false_iff_ne] at h4
    refine ACode.skip ?_
    refine ACode.seq ?_
    refine ACode.region ?_
    refine AOps.e rfl rfl rfl (AOp.buildEmpty rfl rfl ?_)
    refine AOps.v rfl rfl rfl (AVal.moveN (by constructor)) ?_
    refine AOps.e rfl rfl rfl (AOp.cloneL (ls := ls) rfl rfl rfl rfl rfl rfl rfl hl (fun h0 => ?_) (fun b7 k7 h1 => ?_))
    ·
      refine AOps.v rfl rfl rfl (AVal.assignN (by constructor)) ?_
      refine AOps.nil ?_
      refine ACode.ret ?_
      exact ⟨rfl, _, .emp, [], .cons rfl .nil, Conv.drop (List.nil_sublist _) (.refl _), .inl ⟨h0, rfl, rfl⟩⟩
    ·
      refine AOps.v rfl rfl rfl (AVal.assignN (by constructor)) ?_
      refine AOps.nil ?_
      refine ACode.ret ?_
      exact ⟨rfl, _, _, _, .cons rfl .nil, Conv.drop (List.Sublist.refl _) (.refl _), .inr ⟨b7, k7, rfl, rfl⟩⟩

theorem callCloneL {ρ : Operand → D} {L : Loc} {dst : Option Tmp} {ty : TypeId} {pos : String} {after : Array Edge} {guard : Option (Nat × Bool)} {K Kp : D → Loc → Prop} {x : Operand} {tys : Array TypeId} (ls : List Level) (hl : ls.length ≤ 1099511627776) (hx : ρ x = .slL ls)
    (h0 : ls = [] → K .emp L) (h1 : ∀ b k, K (.sl b 0 ls.length) ((b, .cells 62 (flatL ls k)) :: L)) : AOp X ⟨dst, .call ⟨.value (.func 76), #[x], tys⟩, ty, pos, after, guard⟩ ρ L K Kp :=
  AOp.call (L0 := []) (L1 := L) (cloneL_c ls hl) (LeL.eq (by simp [hx])) (List.Perm.refl _) (fun d L' h => by
    rcases h with ⟨e, h, rfl⟩ | ⟨b, k, h, rfl⟩
    · cases h; exact h0 e
    · cases h; exact h1 b k) (fun d L' h => by
    rcases h with ⟨e, h, rfl⟩ | ⟨b, k, h, rfl⟩ <;> cases h)

theorem own_c (t : Term) (hf : t.fit 1099511627776) : AFn X 60 [encT t] (encT t) := by
  refine ACalls.of_code Tryz.func60 rfl (by rfl) (Nat.le_of_ble_eq_true rfl) ?_
  refine ACode.seq ?_
  refine ACode.region ?_
  refine AOps.e rfl rfl rfl (AOp.boxA rfl (fun b1 => ?_))
  refine AOps.e rfl rfl rfl (AOp.allocN rfl rfl (fun b2 => ?_))
  refine AOps.nil ?_
  refine ACode.seq ?_
  refine ACode.region ?_
  refine AOps.v rfl rfl rfl (AVal.fieldP rfl rfl) ?_
  refine AOps.v rfl rfl rfl (AVal.loadPN 1 rfl rfl rfl rfl (by constructor)) ?_
  refine AOps.e rfl rfl rfl (callCloneL t.levels hf.llen rfl (fun hls => ?_) (fun b6 k6 => ?_))
  ·
    refine AOps.v rfl rfl rfl (AVal.fieldP rfl rfl) ?_
    refine AOps.e0 rfl rfl (AOp.storeN 1 rfl rfl rfl (by constructor) rfl rfl rfl (by repeat constructor) (by repeat constructor) ?_)
    refine AOps.nil ?_
    refine ACode.seq ?_
    refine ACode.seq ?_
    refine ACode.region ?_
    refine AOps.v rfl rfl rfl (AVal.fieldP rfl rfl) ?_
    refine AOps.v rfl rfl rfl (AVal.loadPN 1 rfl rfl rfl rfl (by constructor)) ?_
    refine AOps.v rfl rfl rfl (AVal.len rfl rfl rfl) ?_
    refine AOps.v rfl rfl rfl (AVal.moveN (by constructor)) ?_
    refine AOps.nil ?_
    refine ACode.block ?_
    refine ACode.loop (γ := Unit) (fun g => [(1, .ptr b1 0), (2, .ptr b2 0), (10, .int .i64 0), (11, .int .i64 0)]) (fun g => [(b2, .cells 27 [.int .i64 0, .int .i64 0, .int .i64 0, .emp, .emp]), (b1, .cells 27 [.int .i64 t.kind, .int .i64 t.num, .int .i64 t.at_, .emp, .slT t.kids])]) (fun g => True) (fun g => 0) () trivial (by repeat first | exact Agree.nil | refine Agree.cons (.refl _) ?_) (by repeat first | exact List.Sublist.refl _ | apply List.Sublist.cons_cons | apply List.Sublist.cons | exact List.nil_sublist _) ?_
    rintro _ _ t1
    refine ACode.seq ?_
    refine ACode.region ?_
    refine AOps.v rfl rfl rfl (AVal.lss rfl rfl) ?_
    refine AOps.nil ?_
    refine ACode.seq ?_
    refine ACode.condS rfl (fun h12 => ?_) (fun h12 => ?_)
    ·
      try simp only [decide_eq_true_eq, decide_eq_false_iff_not, Bool.not_eq_true', Bool.not_eq_false', Bool.and_eq_true, Bool.or_eq_true, beq_iff_eq, beq_eq_false_iff_ne] at h12
      exact absurd h12 (by simp) --END
    ·
      try simp only [decide_eq_true_eq, decide_eq_false_iff_not, Bool.not_eq_true', Bool.not_eq_false', Bool.and_eq_true, Bool.or_eq_true, beq_iff_eq, beq_eq_false_iff_ne] at h12
      refine ACode.exit ?_
      refine ACode.seq ?_
      refine ACode.region ?_
      refine AOps.v rfl rfl rfl (AVal.loadPN 1 rfl rfl rfl rfl (by constructor)) ?_
      refine AOps.e0 rfl rfl (AOp.storeN 0 rfl rfl rfl (by constructor) rfl rfl rfl (by repeat constructor) (by repeat constructor) ?_)
      refine AOps.nil ?_
      refine ACode.ret ?_
      refine AFin.pureRet rfl (.cons (by first | exact ARead.box 0 rfl rfl rfl rfl | exact ARead.box 1 rfl rfl rfl rfl) .nil) ?_
      exact leT' .emp (.slT _) (by rw [← hls]; exact (Term.eta t).symm)
  ·
    refine AOps.v rfl rfl rfl (AVal.fieldP rfl rfl) ?_
    refine AOps.e0 rfl rfl (AOp.storeN 2 rfl rfl rfl (by constructor) rfl rfl rfl (by repeat constructor) (by repeat constructor) ?_)
    refine AOps.nil ?_
    refine ACode.seq ?_
    refine ACode.seq ?_
    refine ACode.region ?_
    refine AOps.v rfl rfl rfl (AVal.fieldP rfl rfl) ?_
    refine AOps.v rfl rfl rfl (AVal.loadPN 2 rfl rfl rfl rfl (by constructor)) ?_
    refine AOps.v rfl rfl rfl (AVal.len rfl rfl rfl) ?_
    refine AOps.v rfl rfl rfl (AVal.moveN (by constructor)) ?_
    refine AOps.nil ?_
    refine ACode.block ?_
    refine ACode.loop (γ := Nat) (fun g => [(1, .ptr b1 0), (2, .ptr b2 0), (10, .int .i64 t.levels.length), (11, .int .i64 g)]) (fun g => [(b6, .cells 62 (flatL t.levels k6)), (b2, .cells 27 [.int .i64 0, .int .i64 0, .int .i64 0, .emp, .emp]), (b1, .cells 27 [.int .i64 t.kind, .int .i64 t.num, .int .i64 t.at_, .sl b6 0 t.levels.length, .slT t.kids])]) (fun g => g ≤ t.levels.length) (fun g => t.levels.length - g) 0 (Nat.zero_le _) (by repeat first | exact Agree.nil | refine Agree.cons (.refl _) ?_) (by repeat first | exact List.Sublist.refl _ | apply List.Sublist.cons_cons | apply List.Sublist.cons | exact List.nil_sublist _) ?_
    intro i hi t1
    have hlen := hf.llen
    refine ACode.seq ?_
    refine ACode.region ?_
    refine AOps.v rfl rfl rfl (AVal.lss rfl rfl) ?_
    refine AOps.nil ?_
    refine ACode.seq ?_
    refine ACode.condS rfl (fun h12 => ?_) (fun h12 => ?_)
    ·
      try simp only [decide_eq_true_eq, decide_eq_false_iff_not, Bool.not_eq_true', Bool.not_eq_false', Bool.and_eq_true, Bool.or_eq_true, beq_iff_eq, beq_eq_false_iff_ne] at h12
      have hlt : i < t.levels.length := by omega
      refine ACode.skip ?_
      refine ACode.seq ?_
      refine ACode.block ?_
      refine ACode.seq ?_
      refine ACode.region ?_
      refine AOps.v rfl rfl rfl (AVal.moveN (by constructor)) ?_
      refine AOps.v rfl rfl rfl (AVal.assignN (by constructor)) ?_
      refine AOps.nil ?_
      refine ACode.draws [.p 0, .l 1, .p 2, .p 3, .l 4, .p 5, .p 6, .p 7, .l 8, .p 9, .p 10, .p 11, .e 12 []] mixed (by kernel_rfl) ?_
      refine ASeq.pv rfl rfl rfl rfl (fun L0 => (AVal.fieldP rfl rfl)) ?_
      refine ASeq.lv rfl rfl rfl rfl (HasCell.mk 2 rfl rfl (by constructor)) ?_
      refine ASeq.pv rfl rfl rfl rfl (fun L0 => (AVal.moveN (by constructor))) ?_
      refine ASeq.pv rfl rfl rfl rfl (fun L0 => (AVal.fieldP rfl rfl)) ?_
      refine ASeq.lv rfl rfl rfl rfl (HasCell.mk 2 rfl rfl (by constructor)) ?_
      refine ASeq.pv rfl rfl rfl rfl (fun L0 => (AVal.moveN (by constructor))) ?_
      refine ASeq.pv rfl rfl rfl rfl (fun L0 => (AVal.indexSN (p := i) rfl rfl rfl rfl ⟨by omega, by omega⟩ (by simp))) ?_
      refine ASeq.pv rfl rfl rfl rfl (fun L0 => (AVal.fieldP rfl rfl)) ?_
      refine ASeq.lv rfl rfl rfl rfl (by first | exact flatL_has 0 rfl hlt rfl | exact flatL_has 1 rfl hlt rfl | exact flatL_has 2 rfl hlt rfl | exact flatL_has 3 rfl hlt rfl | exact flatL_has 4 rfl hlt rfl) ?_
      refine ASeq.pe rfl rfl rfl rfl (fun L0 => (AOp.callP (cloneP_c _ (hf.plen (getD_mem hlt))) (by first | exact LeL.eq rfl | (repeat constructor)) ⟨rfl, rfl⟩)) ?_
      refine ASeq.pv rfl rfl rfl rfl (fun L0 => (AVal.indexSN (p := i) rfl rfl rfl rfl ⟨by omega, by omega⟩ (by simp))) ?_
      refine ASeq.pv rfl rfl rfl rfl (fun L0 => (AVal.fieldP rfl rfl)) ?_
      refine ASeq.ee0 rfl rfl rfl rfl (AOp.storeSame 0 rfl rfl rfl (by constructor) rfl rfl (by rw [flatL_len]; simp only []; omega) (flatL_set hlt) ⟨(by first | exact Keeps.nil | (repeat first | exact Keeps.nil | refine Keeps.cons (by first | exact HasCell.mk 0 rfl rfl (.refl _) | exact HasCell.mk 1 rfl rfl (.refl _) | exact HasCell.mk 2 rfl rfl (.refl _) | exact HasCell.mk 3 rfl rfl (.refl _) | exact HasCell.mk 4 rfl rfl (.refl _) | exact HasCell.mk 5 rfl rfl (.refl _) | exact HasCell.mk 6 rfl rfl (.refl _) | exact HasCell.mk 7 rfl rfl (.refl _)) ?_)), ?_⟩)
      refine ASeq.nil ?_
      refine ACode.region ?_
      refine AOps.v rfl rfl rfl (AVal.addn rfl rfl (by omega)) ?_
      refine AOps.v rfl rfl rfl (AVal.moveN (by constructor)) ?_
      refine AOps.nil ?_
      refine ⟨i + 1, by omega, by omega, rfl, (by repeat first | exact Agree.nil | refine Agree.cons (.refl _) ?_), (by repeat first | exact List.Sublist.refl _ | apply List.Sublist.cons_cons | apply List.Sublist.cons | exact List.nil_sublist _)⟩
    ·
      try simp only [decide_eq_true_eq, decide_eq_false_iff_not, Bool.not_eq_true', Bool.not_eq_false', Bool.and_eq_true, Bool.or_eq_true, beq_iff_eq, beq_eq_false_iff_ne] at h12
      refine ACode.exit ?_
      refine ACode.seq ?_
      refine ACode.region ?_
      refine AOps.v rfl rfl rfl (AVal.loadPN 2 rfl rfl rfl rfl (by constructor)) ?_
      refine AOps.e0 rfl rfl (AOp.storeN 1 rfl rfl rfl (by constructor) rfl rfl rfl (by repeat constructor) (by repeat constructor) ?_)
      refine AOps.nil ?_
      refine ACode.ret ?_
      refine AFin.conv rfl (.cons (by first | exact ARead.box 0 rfl rfl rfl rfl | exact ARead.box 1 rfl rfl rfl rfl) .nil) ?_
      exact (congrArg (fun u => Conv _ _ [] (encT u)) (Term.eta t)).mp (Conv.levels 0 rfl (.slT _))

theorem lift1_c (n from_ b : Int) (t : Term) (F : D) (hF : F.one = true) (b5 b4 : Nat) (R : Loc) (hb0 : 0 ≤ b) (hb1 : b ≤ 4611686018427387904) (hf : t.fit 1099511627776) : AKeep X 58 [.agg [.int .i64 b, F], encT t, .ptr b5 0, .ptr b4 0] ((b5, .cells 3 [.int .i64 from_]) :: (b4, .cells 3 [.int .i64 n]) :: R) (.tup [encT (liftG n from_ b t), .bool (no b t)]) := by
  have hr := hf.nr
  refine ACalls.of_code Tryz.func58 rfl (by rfl) (Nat.le_of_ble_eq_true rfl) ?_
  refine ACode.seq ?_
  refine ACode.region ?_
  refine AOps.e rfl rfl rfl (AOp.boxA rfl (fun b4 => ?_))
  refine AOps.e rfl rfl rfl (AOp.boxA rfl (fun b5 => ?_))
  refine AOps.e rfl rfl rfl (AOp.allocN rfl rfl (fun b6 => ?_))
  refine AOps.v rfl rfl rfl (AVal.assignN (by constructor)) ?_
  refine AOps.nil ?_
  refine ACode.seq ?_
  refine ACode.seq ?_
  refine ACode.region ?_
  refine AOps.v rfl rfl rfl (AVal.fieldP rfl rfl) ?_
  refine AOps.v rfl rfl rfl (AVal.loadPN 2 rfl rfl rfl rfl (by constructor)) ?_
  refine AOps.v rfl rfl rfl (AVal.fieldP rfl rfl) ?_
  refine AOps.v rfl rfl rfl (AVal.loadPN 1 rfl rfl rfl rfl (by constructor)) ?_
  refine AOps.e rfl rfl rfl (AOp.callP (means_c _ _) (by first | exact LeL.eq rfl | (repeat constructor)) ?_)
  refine AOps.v rfl rfl rfl (AVal.moveN (by constructor)) ?_
  refine AOps.v rfl rfl rfl (AVal.extractN rfl rfl (by constructor)) ?_
  refine AOps.v rfl rfl rfl (AVal.extractN rfl rfl (by constructor)) ?_
  refine AOps.v rfl rfl rfl (AVal.assignN (by constructor)) ?_
  refine AOps.v rfl rfl rfl (AVal.assignN (by constructor)) ?_
  refine AOps.nil ?_
  refine ACode.seq ?_
  refine ACode.region ?_
  refine AOps.v rfl rfl rfl (AVal.fieldP rfl rfl) ?_
  refine AOps.v rfl rfl rfl (AVal.loadPN 1 rfl rfl rfl rfl (by constructor)) ?_
  refine AOps.v rfl rfl rfl (AVal.eql rfl rfl) ?_
  refine AOps.v rfl rfl rfl (AVal.moveN (by constructor)) ?_
  refine AOps.split 21 rfl (fun h21 => ?_) (fun h21 => ?_)
  ·
    try simp only [decide_eq_true_eq, decide_eq_false_iff_not, Bool.not_eq_true', Bool.not_eq_false', Bool.and_eq_true, Bool.or_eq_true, beq_iff_eq, beq_eq_false_iff_ne] at h21
    refine AOps.vT rfl rfl rfl rfl rfl rfl (AVal.moveN (by constructor)) ?_
    refine AOps.v rfl rfl rfl (AVal.pickT rfl (by constructor)) ?_
    refine AOps.v rfl rfl rfl (AVal.moveN (by constructor)) ?_
    refine AOps.split 24 rfl (fun h24 => ?_) (fun h24 => ?_)
    ·
      try simp only [decide_eq_true_eq, decide_eq_false_iff_not, Bool.not_eq_true', Bool.not_eq_false', Bool.and_eq_true, Bool.or_eq_true, beq_iff_eq, beq_eq_false_iff_ne] at h24
      refine AOps.vT rfl rfl rfl rfl rfl rfl (AVal.moveN (by constructor)) ?_
      refine AOps.vT rfl rfl rfl rfl rfl rfl (AVal.loadPN 3 rfl rfl rfl rfl (by constructor)) ?_
      refine AOps.vT rfl rfl rfl rfl rfl rfl (AVal.geq rfl rfl) ?_
      refine AOps.v rfl rfl rfl (AVal.pickT rfl (by constructor)) ?_
      refine AOps.nil ?_
      refine ACode.condS rfl (fun h28 => ?_) (fun h28 => ?_)
      ·
        try simp only [decide_eq_true_eq, decide_eq_false_iff_not, Bool.not_eq_true', Bool.not_eq_false', Bool.and_eq_true, Bool.or_eq_true, beq_iff_eq, beq_eq_false_iff_ne] at h28
        refine ACode.region ?_
        refine AOps.v rfl rfl rfl (AVal.fieldP rfl rfl) ?_
        refine AOps.v rfl rfl rfl (AVal.loadPN 1 rfl rfl rfl rfl (by constructor)) ?_
        refine AOps.v rfl rfl rfl (AVal.loadPN 4 rfl rfl rfl rfl (by constructor)) ?_
        refine AOps.v rfl rfl rfl (AVal.add rfl rfl) ?_
        refine AOps.v rfl rfl rfl (AVal.fieldP rfl rfl) ?_
        refine AOps.e0 rfl rfl (AOp.storeN 1 rfl rfl rfl (by constructor) rfl rfl rfl (by repeat constructor) (by repeat constructor) ?_)
        refine AOps.nil ?_
        refine ACode.seq ?_
        refine ACode.region ?_
        refine AOps.v rfl rfl rfl (AVal.loadPN 1 rfl rfl rfl rfl (by constructor)) ?_
        refine AOps.e rfl rfl rfl (AOp.callP (own_c (.mk t.kind (w64 (t.num + n)) t.at_ t.levels t.kids) (hf.renum (w64_range _))) (by first | exact LeL.eq rfl | (repeat constructor)) ?_)
        refine AOps.e0 rfl rfl (AOp.storeN 0 rfl rfl rfl (by constructor) rfl rfl rfl (by repeat constructor) (by repeat constructor) ?_)
        refine AOps.v rfl rfl rfl (AVal.assignN (by constructor)) ?_
        refine AOps.nil ?_
        refine ACode.ret ?_
        refine AFin.keepRet rfl (.cons (by first | exact ARead.box (d := encT _) 0 rfl rfl rfl rfl | exact ARead.box (d := encT _) 1 rfl rfl rfl rfl | exact ARead.box (d := encT _) 2 rfl rfl rfl rfl | exact ARead.box (d := encT _) 3 rfl rfl rfl rfl | exact ARead.box (d := encT _) 4 rfl rfl rfl rfl | exact ARead.box (d := encT _) 5 rfl rfl rfl rfl | exact ARead.box (d := encT _) 6 rfl rfl rfl rfl | exact ARead.box (d := encT _) 7 rfl rfl rfl rfl | exact ARead.box 0 rfl rfl rfl rfl | exact ARead.box 1 rfl rfl rfl rfl | exact ARead.box 2 rfl rfl rfl rfl | exact ARead.box 3 rfl rfl rfl rfl | exact ARead.box 4 rfl rfl rfl rfl | exact ARead.box 5 rfl rfl rfl rfl | exact ARead.box 6 rfl rfl rfl rfl | exact ARead.box 7 rfl rfl rfl rfl) (.cons rfl .nil)) (by repeat first | exact List.Sublist.refl _ | apply List.Sublist.cons_cons | apply List.Sublist.cons) ?_
        exact D.Le.eq (by rw [liftG, if_pos ⟨h21, h24, by rw [w64_id (by omega) (by omega)] at h28; exact h28⟩]; rfl)
      ·
        try simp only [decide_eq_true_eq, decide_eq_false_iff_not, Bool.not_eq_true', Bool.not_eq_false', Bool.and_eq_true, Bool.or_eq_true, beq_iff_eq, beq_eq_false_iff_ne] at h28
        refine ACode.skip ?_
        refine ACode.seq ?_
        refine ACode.region ?_
        refine AOps.v rfl rfl rfl (AVal.loadP (d := encT _) 1 rfl rfl rfl rfl) ?_
        refine AOps.e rfl rfl rfl (AOp.callP (own_c t hf) (by first | exact LeL.eq rfl | (repeat constructor)) ?_)
        refine AOps.e0 rfl rfl (AOp.storeN 0 rfl rfl rfl (by constructor) rfl rfl rfl (by repeat constructor) (by repeat constructor) ?_)
        refine AOps.v rfl rfl rfl (AVal.assignN (by constructor)) ?_
        refine AOps.nil ?_
        refine ACode.ret ?_
        refine AFin.keepRet rfl (.cons (by first | exact ARead.box (d := encT _) 0 rfl rfl rfl rfl | exact ARead.box (d := encT _) 1 rfl rfl rfl rfl | exact ARead.box (d := encT _) 2 rfl rfl rfl rfl | exact ARead.box (d := encT _) 3 rfl rfl rfl rfl | exact ARead.box (d := encT _) 4 rfl rfl rfl rfl | exact ARead.box (d := encT _) 5 rfl rfl rfl rfl | exact ARead.box (d := encT _) 6 rfl rfl rfl rfl | exact ARead.box (d := encT _) 7 rfl rfl rfl rfl | exact ARead.box 0 rfl rfl rfl rfl | exact ARead.box 1 rfl rfl rfl rfl | exact ARead.box 2 rfl rfl rfl rfl | exact ARead.box 3 rfl rfl rfl rfl | exact ARead.box 4 rfl rfl rfl rfl | exact ARead.box 5 rfl rfl rfl rfl | exact ARead.box 6 rfl rfl rfl rfl | exact ARead.box 7 rfl rfl rfl rfl) (.cons rfl .nil)) (by repeat first | exact List.Sublist.refl _ | apply List.Sublist.cons_cons | apply List.Sublist.cons) ?_
        exact D.Le.eq (by rw [liftG, if_neg (fun e => h28 (by rw [w64_id (by omega) (by omega)]; exact e.2.2))]; rfl)
    ·
      try simp only [decide_eq_true_eq, decide_eq_false_iff_not, Bool.not_eq_true', Bool.not_eq_false', Bool.and_eq_true, Bool.or_eq_true, beq_iff_eq, beq_eq_false_iff_ne] at h24
      refine AOps.vF rfl rfl rfl rfl rfl rfl rfl ?_
      refine AOps.vF rfl rfl rfl rfl rfl rfl rfl ?_
      refine AOps.vF rfl rfl rfl rfl rfl rfl rfl ?_
      refine AOps.v rfl rfl rfl (AVal.pickF rfl (by constructor)) ?_
      refine AOps.nil ?_
      refine ACode.condF rfl ?_
      refine ACode.skip ?_
      refine ACode.seq ?_
      refine ACode.region ?_
      refine AOps.v rfl rfl rfl (AVal.loadP (d := encT _) 1 rfl rfl rfl rfl) ?_
      refine AOps.e rfl rfl rfl (AOp.callP (own_c t hf) (by first | exact LeL.eq rfl | (repeat constructor)) ?_)
      refine AOps.e0 rfl rfl (AOp.storeN 0 rfl rfl rfl (by constructor) rfl rfl rfl (by repeat constructor) (by repeat constructor) ?_)
      refine AOps.v rfl rfl rfl (AVal.assignN (by constructor)) ?_
      refine AOps.nil ?_
      refine ACode.ret ?_
      refine AFin.keepRet rfl (.cons (by first | exact ARead.box (d := encT _) 0 rfl rfl rfl rfl | exact ARead.box (d := encT _) 1 rfl rfl rfl rfl | exact ARead.box (d := encT _) 2 rfl rfl rfl rfl | exact ARead.box (d := encT _) 3 rfl rfl rfl rfl | exact ARead.box (d := encT _) 4 rfl rfl rfl rfl | exact ARead.box (d := encT _) 5 rfl rfl rfl rfl | exact ARead.box (d := encT _) 6 rfl rfl rfl rfl | exact ARead.box (d := encT _) 7 rfl rfl rfl rfl | exact ARead.box 0 rfl rfl rfl rfl | exact ARead.box 1 rfl rfl rfl rfl | exact ARead.box 2 rfl rfl rfl rfl | exact ARead.box 3 rfl rfl rfl rfl | exact ARead.box 4 rfl rfl rfl rfl | exact ARead.box 5 rfl rfl rfl rfl | exact ARead.box 6 rfl rfl rfl rfl | exact ARead.box 7 rfl rfl rfl rfl) (.cons rfl .nil)) (by repeat first | exact List.Sublist.refl _ | apply List.Sublist.cons_cons | apply List.Sublist.cons) ?_
      exact D.Le.eq (by rw [liftG, if_neg (fun e => h24 e.2.1)]; rfl)
  ·
    try simp only [decide_eq_true_eq, decide_eq_false_iff_not, Bool.not_eq_true', Bool.not_eq_false', Bool.and_eq_true, Bool.or_eq_true, beq_iff_eq, beq_eq_false_iff_ne] at h21
    refine AOps.vF rfl rfl rfl rfl rfl rfl rfl ?_
    refine AOps.v rfl rfl rfl (AVal.pickF rfl (by constructor)) ?_
    refine AOps.v rfl rfl rfl (AVal.moveN (by constructor)) ?_
    refine AOps.vF rfl rfl rfl rfl rfl rfl rfl ?_
    refine AOps.vF rfl rfl rfl rfl rfl rfl rfl ?_
    refine AOps.vF rfl rfl rfl rfl rfl rfl rfl ?_
    refine AOps.v rfl rfl rfl (AVal.pickF rfl (by constructor)) ?_
    refine AOps.nil ?_
    refine ACode.condF rfl ?_
    refine ACode.skip ?_
    refine ACode.seq ?_
    refine ACode.region ?_
    refine AOps.v rfl rfl rfl (AVal.loadP (d := encT _) 1 rfl rfl rfl rfl) ?_
    refine AOps.e rfl rfl rfl (AOp.callP (own_c t hf) (by first | exact LeL.eq rfl | (repeat constructor)) ?_)
    refine AOps.e0 rfl rfl (AOp.storeN 0 rfl rfl rfl (by constructor) rfl rfl rfl (by repeat constructor) (by repeat constructor) ?_)
    refine AOps.v rfl rfl rfl (AVal.assignN (by constructor)) ?_
    refine AOps.nil ?_
    refine ACode.ret ?_
    refine AFin.keepRet rfl (.cons (by first | exact ARead.box (d := encT _) 0 rfl rfl rfl rfl | exact ARead.box (d := encT _) 1 rfl rfl rfl rfl | exact ARead.box (d := encT _) 2 rfl rfl rfl rfl | exact ARead.box (d := encT _) 3 rfl rfl rfl rfl | exact ARead.box (d := encT _) 4 rfl rfl rfl rfl | exact ARead.box (d := encT _) 5 rfl rfl rfl rfl | exact ARead.box (d := encT _) 6 rfl rfl rfl rfl | exact ARead.box (d := encT _) 7 rfl rfl rfl rfl | exact ARead.box 0 rfl rfl rfl rfl | exact ARead.box 1 rfl rfl rfl rfl | exact ARead.box 2 rfl rfl rfl rfl | exact ARead.box 3 rfl rfl rfl rfl | exact ARead.box 4 rfl rfl rfl rfl | exact ARead.box 5 rfl rfl rfl rfl | exact ARead.box 6 rfl rfl rfl rfl | exact ARead.box 7 rfl rfl rfl rfl) (.cons rfl .nil)) (by repeat first | exact List.Sublist.refl _ | apply List.Sublist.cons_cons | apply List.Sublist.cons) ?_
    exact D.Le.eq (by rw [liftG, if_neg (fun e => h21 e.1)]; rfl)

theorem lift_c (t : Term) (n from_ : Int) (hf : t.fit 1099511627776) (hs : t.sz ≤ 4611686018427387904) : AFn X 26 [encT t, .int .i64 n, .int .i64 from_] (encT (lift t n from_)) := by
  refine ACalls.of_code Tryz.func26 rfl (by rfl) (Nat.le_of_ble_eq_true rfl) ?_
  refine ACode.seq ?_
  refine ACode.region ?_
  refine AOps.e rfl rfl rfl (AOp.boxA rfl (fun b3 => ?_))
  refine AOps.e rfl rfl rfl (AOp.box1 (by constructor) rfl rfl (fun b4 => ?_))
  refine AOps.e rfl rfl rfl (AOp.box1 (by constructor) rfl rfl (fun b5 => ?_))
  refine AOps.e rfl rfl rfl (AOp.allocN rfl rfl (fun b6 => ?_))
  refine AOps.nil ?_
  refine ACode.seq ?_
  refine ACode.region ?_
  refine AOps.v rfl rfl rfl (AVal.makeFunc) ?_
  refine AOps.v rfl rfl rfl (AVal.build rfl rfl rfl) ?_
  refine AOps.v rfl rfl rfl (AVal.loadP (d := encT _) 3 rfl rfl rfl rfl) ?_
  refine AOps.e rfl rfl rfl (AOp.callK [_] (walk_c (gg := liftG n from_) (dn := no) (fun b u h0 h1 hu => lift1_c n from_ b u _ rfl b5 b4 _ h0 h1 hu) (fun b u _ _ => by unfold liftG; split <;> rfl) _ t rfl hf 0 (by omega) (by omega)) (LeL.eq rfl) rfl ?_)
  refine AOps.e0 rfl rfl (AOp.storeN 0 rfl rfl rfl (by constructor) rfl rfl rfl (by repeat constructor) (by repeat constructor) ?_)
  refine AOps.nil ?_
  refine ACode.ret ?_
  refine AFin.pureRet rfl (.cons (by first | exact ARead.box (d := encT _) 0 rfl rfl rfl rfl | exact ARead.box (d := encT _) 1 rfl rfl rfl rfl | exact ARead.box (d := encT _) 2 rfl rfl rfl rfl | exact ARead.box (d := encT _) 3 rfl rfl rfl rfl | exact ARead.box (d := encT _) 4 rfl rfl rfl rfl | exact ARead.box (d := encT _) 5 rfl rfl rfl rfl | exact ARead.box (d := encT _) 6 rfl rfl rfl rfl | exact ARead.box (d := encT _) 7 rfl rfl rfl rfl | exact ARead.box 0 rfl rfl rfl rfl | exact ARead.box 1 rfl rfl rfl rfl | exact ARead.box 2 rfl rfl rfl rfl | exact ARead.box 3 rfl rfl rfl rfl | exact ARead.box 4 rfl rfl rfl rfl | exact ARead.box 5 rfl rfl rfl rfl | exact ARead.box 6 rfl rfl rfl rfl | exact ARead.box 7 rfl rfl rfl rfl) .nil) ?_
  exact .refl _

theorem put1_c (by_ : List Term) (b : Int) (t : Term) (F : D) (hF : F.one = true) (b3 : Nat) (R : Loc) (hb0 : 0 ≤ b) (hb1 : b ≤ 4611686018427387904) (hf : t.fit 1099511627776) (hbl : by_.length ≤ 1099511627776) (hby : ∀ u ∈ by_, u.fit 1099511627776 ∧ u.sz ≤ 4611686018427387904) : AKeep X 85 [.agg [.int .i64 b, F], encT t, .ptr b3 0] ((b3, .cells 25 [.slT by_]) :: R) (.tup [encT (putG by_ b t), .bool (putHit by_ b t)]) := by
  have hr := hf.nr
  refine ACalls.of_code Tryz.func85 rfl (by rfl) (Nat.le_of_ble_eq_true rfl) ?_
  refine ACode.seq ?_
  refine ACode.region ?_
  refine AOps.e rfl rfl rfl (AOp.boxA rfl (fun b3 => ?_))
  refine AOps.e rfl rfl rfl (AOp.boxA rfl (fun b4 => ?_))
  refine AOps.e rfl rfl rfl (AOp.allocN rfl rfl (fun b5 => ?_))
  refine AOps.v rfl rfl rfl (AVal.assignN (by constructor)) ?_
  refine AOps.nil ?_
  refine ACode.seq ?_
  refine ACode.region ?_
  refine AOps.v rfl rfl rfl (AVal.fieldP rfl rfl) ?_
  refine AOps.v rfl rfl rfl (AVal.loadPN 2 rfl rfl rfl rfl (by constructor)) ?_
  refine AOps.v rfl rfl rfl (AVal.fieldP rfl rfl) ?_
  refine AOps.v rfl rfl rfl (AVal.loadPN 1 rfl rfl rfl rfl (by constructor)) ?_
  refine AOps.e rfl rfl rfl (AOp.callP (means_c _ _) (by first | exact LeL.eq rfl | (repeat constructor)) ?_)
  refine AOps.v rfl rfl rfl (AVal.moveN (by constructor)) ?_
  refine AOps.v rfl rfl rfl (AVal.extractN rfl rfl (by constructor)) ?_
  refine AOps.v rfl rfl rfl (AVal.extractN rfl rfl (by constructor)) ?_
  refine AOps.v rfl rfl rfl (AVal.assignN (by constructor)) ?_
  refine AOps.v rfl rfl rfl (AVal.assignN (by constructor)) ?_
  refine AOps.nil ?_
  refine ACode.seq ?_
  refine ACode.block ?_
  refine ACode.seq ?_
  refine ACode.region ?_
  refine AOps.v rfl rfl rfl (AVal.fieldP rfl rfl) ?_
  refine AOps.v rfl rfl rfl (AVal.loadPN 1 rfl rfl rfl rfl (by constructor)) ?_
  refine AOps.v rfl rfl rfl (AVal.neq rfl rfl) ?_
  refine AOps.v rfl rfl rfl (AVal.moveN (by constructor)) ?_
  refine AOps.split 27 rfl (fun h27 => ?_) (fun h27 => ?_)
  ·
    try simp only [decide_eq_true_eq, decide_eq_false_iff_not, Bool.not_eq_true', Bool.not_eq_false', Bool.and_eq_true, Bool.or_eq_true, beq_iff_eq, beq_eq_false_iff_ne] at h27
    refine AOps.vF rfl rfl rfl rfl rfl rfl rfl ?_
    refine AOps.vF rfl rfl rfl rfl rfl rfl rfl ?_
    refine AOps.v rfl rfl rfl (AVal.pickT rfl (by constructor)) ?_
    refine AOps.v rfl rfl rfl (AVal.assignN (by constructor)) ?_
    refine AOps.nil ?_
    refine ACode.condT rfl ?_
    refine ACode.skip ?_
    refine ACode.seq ?_
    refine ACode.region ?_
    refine AOps.v rfl rfl rfl (AVal.loadP (d := encT _) 1 rfl rfl rfl rfl) ?_
    refine AOps.e rfl rfl rfl (AOp.callP (own_c t hf) (by first | exact LeL.eq rfl | (repeat constructor)) ?_)
    refine AOps.e0 rfl rfl (AOp.storeN 0 rfl rfl rfl (by constructor) rfl rfl rfl (by repeat constructor) (by repeat constructor) ?_)
    refine AOps.v rfl rfl rfl (AVal.assignN (by constructor)) ?_
    refine AOps.nil ?_
    refine ACode.ret ?_
    refine AFin.keepRet rfl (.cons (by first | exact ARead.box (d := encT _) 0 rfl rfl rfl rfl | exact ARead.box (d := encT _) 1 rfl rfl rfl rfl | exact ARead.box (d := encT _) 2 rfl rfl rfl rfl | exact ARead.box (d := encT _) 3 rfl rfl rfl rfl | exact ARead.box (d := encT _) 4 rfl rfl rfl rfl | exact ARead.box (d := encT _) 5 rfl rfl rfl rfl | exact ARead.box (d := encT _) 6 rfl rfl rfl rfl | exact ARead.box (d := encT _) 7 rfl rfl rfl rfl | exact ARead.box 0 rfl rfl rfl rfl | exact ARead.box 1 rfl rfl rfl rfl | exact ARead.box 2 rfl rfl rfl rfl | exact ARead.box 3 rfl rfl rfl rfl | exact ARead.box 4 rfl rfl rfl rfl | exact ARead.box 5 rfl rfl rfl rfl | exact ARead.box 6 rfl rfl rfl rfl | exact ARead.box 7 rfl rfl rfl rfl) (.cons rfl .nil)) (by repeat first | exact List.Sublist.refl _ | apply List.Sublist.cons_cons | apply List.Sublist.cons) ?_
    exact D.Le.eq (by have hh : putHit by_ b t = false := by { simp [putHit, h27] }; rw [putG, hh, if_neg (by simp), if_neg (fun e => h27 e.1)]; rfl)
  ·
    try simp only [decide_eq_true_eq, decide_eq_false_iff_not, Bool.not_eq_true', Bool.not_eq_false', Bool.and_eq_true, Bool.or_eq_true, beq_iff_eq, beq_eq_false_iff_ne] at h27
    refine AOps.vT rfl rfl rfl rfl rfl rfl (AVal.moveN (by constructor)) ?_
    refine AOps.vT rfl rfl rfl rfl rfl rfl (AVal.not rfl) ?_
    refine AOps.v rfl rfl rfl (AVal.pickF rfl (by constructor)) ?_
    refine AOps.v rfl rfl rfl (AVal.assignN (by constructor)) ?_
    refine AOps.nil ?_
    refine ACode.condS rfl (fun h23 => ?_) (fun h23 => ?_)
    ·
      try simp only [decide_eq_true_eq, decide_eq_false_iff_not, Bool.not_eq_true', Bool.not_eq_false', Bool.and_eq_true, Bool.or_eq_true, beq_iff_eq, beq_eq_false_iff_ne] at h23
      refine ACode.skip ?_
      refine ACode.seq ?_
      refine ACode.region ?_
      refine AOps.v rfl rfl rfl (AVal.loadP (d := encT _) 1 rfl rfl rfl rfl) ?_
      refine AOps.e rfl rfl rfl (AOp.callP (own_c t hf) (by first | exact LeL.eq rfl | (repeat constructor)) ?_)
      refine AOps.e0 rfl rfl (AOp.storeN 0 rfl rfl rfl (by constructor) rfl rfl rfl (by repeat constructor) (by repeat constructor) ?_)
      refine AOps.v rfl rfl rfl (AVal.assignN (by constructor)) ?_
      refine AOps.nil ?_
      refine ACode.ret ?_
      refine AFin.keepRet rfl (.cons (by first | exact ARead.box (d := encT _) 0 rfl rfl rfl rfl | exact ARead.box (d := encT _) 1 rfl rfl rfl rfl | exact ARead.box (d := encT _) 2 rfl rfl rfl rfl | exact ARead.box (d := encT _) 3 rfl rfl rfl rfl | exact ARead.box (d := encT _) 4 rfl rfl rfl rfl | exact ARead.box (d := encT _) 5 rfl rfl rfl rfl | exact ARead.box (d := encT _) 6 rfl rfl rfl rfl | exact ARead.box (d := encT _) 7 rfl rfl rfl rfl | exact ARead.box 0 rfl rfl rfl rfl | exact ARead.box 1 rfl rfl rfl rfl | exact ARead.box 2 rfl rfl rfl rfl | exact ARead.box 3 rfl rfl rfl rfl | exact ARead.box 4 rfl rfl rfl rfl | exact ARead.box 5 rfl rfl rfl rfl | exact ARead.box 6 rfl rfl rfl rfl | exact ARead.box 7 rfl rfl rfl rfl) (.cons rfl .nil)) (by repeat first | exact List.Sublist.refl _ | apply List.Sublist.cons_cons | apply List.Sublist.cons) ?_
      exact D.Le.eq (by have hh : putHit by_ b t = false := by { simp [putHit]; intros; omega }; rw [putG, hh, if_neg (by simp), if_neg (fun e => by omega)]; rfl)
    ·
      try simp only [decide_eq_true_eq, decide_eq_false_iff_not, Bool.not_eq_true', Bool.not_eq_false', Bool.and_eq_true, Bool.or_eq_true, beq_iff_eq, beq_eq_false_iff_ne] at h23
      have hk : w64 (t.num - b) = t.num - b := w64_id (by omega) (by omega)
      refine ACode.seq ?_
      refine ACode.region ?_
      refine AOps.v rfl rfl rfl (AVal.moveN (by constructor)) ?_
      refine AOps.v rfl rfl rfl (AVal.loadPN 3 rfl rfl rfl rfl (by constructor)) ?_
      refine AOps.v rfl rfl rfl (AVal.len rfl rfl rfl) ?_
      refine AOps.v rfl rfl rfl (AVal.lss rfl rfl) ?_
      refine AOps.v rfl rfl rfl (AVal.assignN (by constructor)) ?_
      refine AOps.nil ?_
      refine ACode.condS rfl (fun h31 => ?_) (fun h31 => ?_)
      ·
        try simp only [decide_eq_true_eq, decide_eq_false_iff_not, Bool.not_eq_true', Bool.not_eq_false', Bool.and_eq_true, Bool.or_eq_true, beq_iff_eq, beq_eq_false_iff_ne] at h31
        have hmem : by_.getD ((by_.length : Int) - 1 - w64 (t.num - b)).toNat default ∈ by_ := getD_mem (by rw [hk] at h31 ⊢; omega)
        refine ACode.seq ?_
        refine ACode.draws [.l 0, .l 1, .p 2, .p 3, .p 4, .p 5, .p 6, .p 7, .p 8, .p 9, .l 10, .p 11, .e 12 [], .p 13] mixed (by kernel_rfl) ?_
        refine ASeq.lv rfl rfl rfl rfl (HasCell.mk 3 rfl rfl (by constructor)) ?_
        refine ASeq.lv rfl rfl rfl rfl (HasCell.mk 3 rfl rfl (by constructor)) ?_
        refine ASeq.pv rfl rfl rfl rfl (fun L0 => (AVal.len rfl rfl rfl)) ?_
        refine ASeq.pv rfl rfl rfl rfl (fun L0 => (AVal.subn rfl rfl (by omega))) ?_
        refine ASeq.pv rfl rfl rfl rfl (fun L0 => (AVal.moveN (by constructor))) ?_
        refine ASeq.pv rfl rfl rfl rfl (fun L0 => (AVal.subn rfl rfl (by rw [hk]; omega))) ?_
        refine ASeq.pv rfl rfl rfl rfl (fun L0 => (AVal.indexTN rfl rfl rfl rfl rfl (by rw [hk]; omega))) ?_
        refine ASeq.pv rfl rfl rfl rfl (fun L0 => (AVal.loadE (d := encT _) rfl rfl rfl)) ?_
        refine ASeq.pv rfl rfl rfl rfl (fun L0 => (AVal.fieldP rfl rfl)) ?_
        refine ASeq.pv rfl rfl rfl rfl (fun L0 => (AVal.fieldP rfl rfl)) ?_
        refine ASeq.lv rfl rfl rfl rfl (HasCell.mk 2 rfl rfl (by constructor)) ?_
        refine ASeq.pe rfl rfl rfl rfl (fun L0 => (AOp.callP (lift_c _ b 0 (hby _ hmem).1 (hby _ hmem).2) (by first | exact LeL.eq rfl | (repeat constructor)) ⟨rfl, rfl⟩)) ?_
        refine ASeq.ee0 rfl rfl rfl rfl (AOp.storeN 0 rfl rfl rfl (by constructor) rfl rfl rfl (by repeat constructor) (by repeat constructor) ⟨(by first | exact Keeps.nil | (repeat first | exact Keeps.nil | refine Keeps.cons (by first | exact HasCell.mk 0 rfl rfl (.refl _) | exact HasCell.mk 1 rfl rfl (.refl _) | exact HasCell.mk 2 rfl rfl (.refl _) | exact HasCell.mk 3 rfl rfl (.refl _) | exact HasCell.mk 4 rfl rfl (.refl _) | exact HasCell.mk 5 rfl rfl (.refl _) | exact HasCell.mk 6 rfl rfl (.refl _) | exact HasCell.mk 7 rfl rfl (.refl _)) ?_)), ?_⟩)
        refine ASeq.pv rfl rfl rfl rfl (fun L0 => (AVal.assignN (by constructor))) ?_
        refine ASeq.nil ?_
        refine ACode.ret ?_
        refine AFin.keepRet rfl (.cons (by first | exact ARead.box (d := encT _) 0 rfl rfl rfl rfl | exact ARead.box (d := encT _) 1 rfl rfl rfl rfl | exact ARead.box (d := encT _) 2 rfl rfl rfl rfl | exact ARead.box (d := encT _) 3 rfl rfl rfl rfl | exact ARead.box (d := encT _) 4 rfl rfl rfl rfl | exact ARead.box (d := encT _) 5 rfl rfl rfl rfl | exact ARead.box (d := encT _) 6 rfl rfl rfl rfl | exact ARead.box (d := encT _) 7 rfl rfl rfl rfl | exact ARead.box 0 rfl rfl rfl rfl | exact ARead.box 1 rfl rfl rfl rfl | exact ARead.box 2 rfl rfl rfl rfl | exact ARead.box 3 rfl rfl rfl rfl | exact ARead.box 4 rfl rfl rfl rfl | exact ARead.box 5 rfl rfl rfl rfl | exact ARead.box 6 rfl rfl rfl rfl | exact ARead.box 7 rfl rfl rfl rfl) (.cons rfl .nil)) (by repeat first | exact List.Sublist.refl _ | apply List.Sublist.cons_cons | apply List.Sublist.cons) ?_
        exact D.Le.eq (by have hh : putHit by_ b t = true := by { rw [hk] at h31; simp [putHit]; omega }; rw [putG, hh, if_pos rfl, hk]; rfl)
      ·
        try simp only [decide_eq_true_eq, decide_eq_false_iff_not, Bool.not_eq_true', Bool.not_eq_false', Bool.and_eq_true, Bool.or_eq_true, beq_iff_eq, beq_eq_false_iff_ne] at h31
        refine ACode.region ?_
        refine AOps.v rfl rfl rfl (AVal.fieldP rfl rfl) ?_
        refine AOps.v rfl rfl rfl (AVal.loadPN 1 rfl rfl rfl rfl (by constructor)) ?_
        refine AOps.v rfl rfl rfl (AVal.loadPN 3 rfl rfl rfl rfl (by constructor)) ?_
        refine AOps.v rfl rfl rfl (AVal.len rfl rfl rfl) ?_
        refine AOps.v rfl rfl rfl (AVal.subn rfl rfl (by omega)) ?_
        refine AOps.v rfl rfl rfl (AVal.fieldP rfl rfl) ?_
        refine AOps.e0 rfl rfl (AOp.storeN 1 rfl rfl rfl (by constructor) rfl rfl rfl (by repeat constructor) (by repeat constructor) ?_)
        refine AOps.nil ?_
        refine ACode.seq ?_
        refine ACode.region ?_
        refine AOps.v rfl rfl rfl (AVal.loadPN 1 rfl rfl rfl rfl (by constructor)) ?_
        refine AOps.e rfl rfl rfl (AOp.callP (own_c (.mk t.kind (t.num - by_.length) t.at_ t.levels t.kids) (hf.renum ⟨by omega, by omega⟩)) (by first | exact LeL.eq rfl | (repeat constructor)) ?_)
        refine AOps.e0 rfl rfl (AOp.storeN 0 rfl rfl rfl (by constructor) rfl rfl rfl (by repeat constructor) (by repeat constructor) ?_)
        refine AOps.v rfl rfl rfl (AVal.assignN (by constructor)) ?_
        refine AOps.nil ?_
        refine ACode.ret ?_
        refine AFin.keepRet rfl (.cons (by first | exact ARead.box (d := encT _) 0 rfl rfl rfl rfl | exact ARead.box (d := encT _) 1 rfl rfl rfl rfl | exact ARead.box (d := encT _) 2 rfl rfl rfl rfl | exact ARead.box (d := encT _) 3 rfl rfl rfl rfl | exact ARead.box (d := encT _) 4 rfl rfl rfl rfl | exact ARead.box (d := encT _) 5 rfl rfl rfl rfl | exact ARead.box (d := encT _) 6 rfl rfl rfl rfl | exact ARead.box (d := encT _) 7 rfl rfl rfl rfl | exact ARead.box 0 rfl rfl rfl rfl | exact ARead.box 1 rfl rfl rfl rfl | exact ARead.box 2 rfl rfl rfl rfl | exact ARead.box 3 rfl rfl rfl rfl | exact ARead.box 4 rfl rfl rfl rfl | exact ARead.box 5 rfl rfl rfl rfl | exact ARead.box 6 rfl rfl rfl rfl | exact ARead.box 7 rfl rfl rfl rfl) (.cons rfl .nil)) (by repeat first | exact List.Sublist.refl _ | apply List.Sublist.cons_cons | apply List.Sublist.cons) ?_
        exact D.Le.eq (by have hh : putHit by_ b t = false := by { rw [hk] at h31; simp [putHit]; intros; omega }; rw [putG, hh, if_neg (by simp), if_pos ⟨by omega, by omega⟩]; rfl)

theorem put_c (t : Term) (by_ : List Term) (hf : t.fit 1099511627776) (hs : t.sz ≤ 4611686018427387904) (hbl : by_.length ≤ 1099511627776) (hby : ∀ u ∈ by_, u.fit 1099511627776 ∧ u.sz ≤ 4611686018427387904) : AFn X 75 [encT t, .slT by_] (encT (put t by_)) := by
  refine ACalls.of_code Tryz.func75 rfl (by rfl) (Nat.le_of_ble_eq_true rfl) ?_
  refine ACode.seq ?_
  refine ACode.region ?_
  refine AOps.e rfl rfl rfl (AOp.boxA rfl (fun b2 => ?_))
  refine AOps.e rfl rfl rfl (AOp.box1 (by constructor) rfl rfl (fun b3 => ?_))
  refine AOps.e rfl rfl rfl (AOp.allocN rfl rfl (fun b4 => ?_))
  refine AOps.nil ?_
  refine ACode.seq ?_
  refine ACode.region ?_
  refine AOps.v rfl rfl rfl (AVal.makeFunc) ?_
  refine AOps.v rfl rfl rfl (AVal.build rfl rfl rfl) ?_
  refine AOps.v rfl rfl rfl (AVal.loadP (d := encT _) 2 rfl rfl rfl rfl) ?_
  refine AOps.e rfl rfl rfl (AOp.callK [_] (walk_c (gg := putG by_) (dn := putHit by_) (fun b u h0 h1 hu => put1_c by_ b u _ rfl b3 _ h0 h1 hu hbl hby) (fun b u _ hd => by unfold putG; rw [hd, if_neg (by simp)]; split <;> rfl) _ t rfl hf 0 (by omega) (by omega)) (LeL.eq rfl) rfl ?_)
  refine AOps.e0 rfl rfl (AOp.storeN 0 rfl rfl rfl (by constructor) rfl rfl rfl (by repeat constructor) (by repeat constructor) ?_)
  refine AOps.nil ?_
  refine ACode.ret ?_
  refine AFin.pureRet rfl (.cons (by first | exact ARead.box (d := encT _) 0 rfl rfl rfl rfl | exact ARead.box (d := encT _) 1 rfl rfl rfl rfl | exact ARead.box (d := encT _) 2 rfl rfl rfl rfl | exact ARead.box (d := encT _) 3 rfl rfl rfl rfl | exact ARead.box (d := encT _) 4 rfl rfl rfl rfl | exact ARead.box (d := encT _) 5 rfl rfl rfl rfl | exact ARead.box (d := encT _) 6 rfl rfl rfl rfl | exact ARead.box (d := encT _) 7 rfl rfl rfl rfl | exact ARead.box 0 rfl rfl rfl rfl | exact ARead.box 1 rfl rfl rfl rfl | exact ARead.box 2 rfl rfl rfl rfl | exact ARead.box 3 rfl rfl rfl rfl | exact ARead.box 4 rfl rfl rfl rfl | exact ARead.box 5 rfl rfl rfl rfl | exact ARead.box 6 rfl rfl rfl rfl | exact ARead.box 7 rfl rfl rfl rfl) .nil) ?_
  exact .refl _

end Sp
