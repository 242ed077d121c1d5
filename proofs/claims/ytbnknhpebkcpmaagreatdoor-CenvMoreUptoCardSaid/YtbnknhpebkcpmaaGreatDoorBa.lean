/- Walks of the program's functions and what they compute: contracts of calls; no condition beyond those that each theorem names. -/
import Derived.Test.YtbnknhpebkcpmaaGreatDoorKb
import Derived.Test.YtbnknhpebkcpmaaGreatDoorRows
import Derived.Test.YtbnknhpebkcpmaaGreatDoorKd
import Derived.Test.YtbnknhpebkcpmaaGreatDoorKc
/- The table of this program's types. Written by a program of mine off the program's own types. -/
set_option linter.unusedVariables false
set_option maxRecDepth 100000
namespace Sp
open Go Go.Proofs
def tables : Tables where
  tys := [(1, ⟨1, false, [.nilf], 8⟩),
    (2, ⟨1, false, [.int .i64 0], 8⟩),
    (3, ⟨1, false, [.int .i64 0], 8⟩),
    (4, ⟨1, false, [.bool false], 1⟩),
    (5, ⟨1, false, [.int .u8 0], 1⟩),
    (6, ⟨1, false, [.int .u8 0], 1⟩),
    (7, ⟨4, true, [.int .i64 0, .int .i64 0, .bool false, .int .u8 0], 24⟩),
    (8, ⟨4, true, [.int .i64 0, .int .i64 0, .bool false, .int .u8 0], 24⟩),
    (9, ⟨1, false, [.any], 16⟩),
    (10, ⟨1, false, [.any], 16⟩),
    (11, ⟨1, false, [.any], 16⟩),
    (12, ⟨1, false, [.int .u64 0], 8⟩),
    (13, ⟨2, true, [.any, .int .u64 0], 24⟩),
    (14, ⟨2, true, [.any, .int .u64 0], 24⟩),
    (15, ⟨1, false, [.nilp], 8⟩),
    (16, ⟨1, false, [.nilp], 8⟩),
    (17, ⟨1, false, [.nilp], 8⟩),
    (18, ⟨1, true, [.nilp], 8⟩),
    (19, ⟨1, true, [.nilp], 8⟩),
    (20, ⟨1, false, [.nili], 16⟩),
    (21, ⟨1, false, [.int .i32 0], 4⟩),
    (22, ⟨1, false, [.emp], 24⟩),
    (23, ⟨1, false, [.int .i64 0], 8⟩),
    (24, ⟨1, false, [.emp], 24⟩),
    (25, ⟨1, false, [.emp], 24⟩),
    (26, ⟨5, true, [.int .i64 0, .int .i64 0, .int .i64 0, .emp, .emp], 72⟩),
    (27, ⟨5, true, [.int .i64 0, .int .i64 0, .int .i64 0, .emp, .emp], 72⟩),
    (28, ⟨1, false, [.nilf], 8⟩),
    (29, ⟨1, false, [.nilf], 8⟩),
    (30, ⟨1, false, [.int .i64 0], 8⟩),
    (32, ⟨1, false, [.nilf], 8⟩),
    (33, ⟨1, false, [.nilf], 8⟩),
    (34, ⟨1, false, [.nilf], 8⟩),
    (35, ⟨1, false, [.nilf], 8⟩),
    (36, ⟨1, false, [.nilf], 8⟩),
    (37, ⟨1, false, [.emp], 24⟩),
    (38, ⟨1, false, [.nilf], 8⟩),
    (40, ⟨1, false, [.nilf], 8⟩),
    (41, ⟨1, false, [.nilf], 8⟩),
    (42, ⟨1, false, [.nilf], 8⟩),
    (43, ⟨1, false, [.nilf], 8⟩),
    (45, ⟨1, false, [.nilf], 8⟩),
    (46, ⟨1, false, [.nilf], 8⟩),
    (47, ⟨1, false, [.nilf], 8⟩),
    (49, ⟨1, false, [.nilf], 8⟩),
    (51, ⟨1, false, [.nilf], 8⟩),
    (52, ⟨12, true, [.int .i64 0, .int .i64 0, .int .i64 0, .int .i64 0, .emp, .emp, .bool false, .int .i64 0, .int .i64 0, .int .i64 0, .emp, .emp], 160⟩),
    (53, ⟨12, true, [.int .i64 0, .int .i64 0, .int .i64 0, .int .i64 0, .emp, .emp, .bool false, .int .i64 0, .int .i64 0, .int .i64 0, .emp, .emp], 160⟩),
    (54, ⟨1, false, [.emp], 24⟩),
    (55, ⟨1, true, [.emp], 24⟩),
    (56, ⟨1, true, [.emp], 24⟩),
    (58, ⟨1, false, [.nilf], 8⟩),
    (59, ⟨1, false, [.nilf], 8⟩),
    (60, ⟨1, false, [.nilf], 8⟩),
    (61, ⟨1, false, [.nilf], 8⟩),
    (62, ⟨1, false, [.nilf], 8⟩),
    (63, ⟨1, false, [.nilf], 8⟩),
    (64, ⟨1, false, [.nilf], 8⟩),
    (65, ⟨1, false, [.nilf], 8⟩),
    (66, ⟨1, false, [.nilf], 8⟩),
    (67, ⟨1, false, [.nilf], 8⟩),
    (68, ⟨1, false, [.nilf], 8⟩),
    (69, ⟨1, false, [.nilp], 8⟩),
    (70, ⟨1, false, [.nilf], 8⟩),
    (71, ⟨1, false, [.nilf], 8⟩),
    (72, ⟨0, true, [], 0⟩),
    (73, ⟨0, true, [], 0⟩),
    (75, ⟨1, false, [.nilf], 8⟩),
    (76, ⟨2, true, [.int .i64 0, .int .i64 0], 16⟩),
    (77, ⟨2, true, [.int .i64 0, .int .i64 0], 16⟩),
    (78, ⟨1, false, [.any], 8⟩),
    (79, ⟨1, false, [.nilf], 8⟩),
    (80, ⟨4, true, [.int .i64 0, .int .i64 0, .emp, .any], 48⟩),
    (81, ⟨4, true, [.int .i64 0, .int .i64 0, .emp, .any], 48⟩),
    (82, ⟨1, false, [.nilf], 8⟩),
    (83, ⟨1, false, [.nilf], 8⟩),
    (84, ⟨1, false, [.nilp], 8⟩),
    (85, ⟨1, false, [.nilf], 8⟩),
    (86, ⟨1, false, [.nilf], 8⟩),
    (87, ⟨1, false, [.nilf], 8⟩),
    (88, ⟨1, true, [.int .i64 0], 8⟩),
    (89, ⟨1, true, [.int .i64 0], 8⟩),
    (90, ⟨1, false, [.nilf], 8⟩),
    (91, ⟨2, true, [.int .i64 0, .nilf], 16⟩),
    (92, ⟨2, true, [.int .i64 0, .nilf], 16⟩),
    (94, ⟨1, false, [.nilf], 8⟩),
    (95, ⟨1, false, [.nilf], 8⟩),
    (96, ⟨1, false, [.nilf], 8⟩),
    (97, ⟨1, false, [.nilf], 8⟩),
    (98, ⟨1, false, [.nilf], 8⟩),
    (99, ⟨1, false, [.nilf], 8⟩),
    (100, ⟨1, false, [.nilf], 8⟩),
    (101, ⟨1, false, [.nilp], 8⟩),
    (102, ⟨1, true, [.int .i64 0], 8⟩),
    (103, ⟨1, true, [.int .i64 0], 8⟩),
    (104, ⟨14, true, [.int .i64 0, .emp, .int .i64 0, .int .i64 0, .int .i64 0, .int .i64 0, .emp, .emp, .bool false, .int .i64 0, .int .i64 0, .int .i64 0, .emp, .emp], 192⟩),
    (105, ⟨14, true, [.int .i64 0, .emp, .int .i64 0, .int .i64 0, .int .i64 0, .int .i64 0, .emp, .emp, .bool false, .int .i64 0, .int .i64 0, .int .i64 0, .emp, .emp], 192⟩),
    (106, ⟨1, false, [.nilf], 8⟩),
    (107, ⟨1, false, [.nilf], 8⟩),
    (108, ⟨1, false, [.nilf], 8⟩),
    (109, ⟨1, false, [.nilf], 8⟩),
    (110, ⟨1, false, [.nilf], 8⟩),
    (111, ⟨1, false, [.nilf], 8⟩),
    (112, ⟨1, false, [.nilf], 8⟩),
    (113, ⟨2, true, [.int .i64 0, .int .i64 0], 16⟩),
    (114, ⟨2, true, [.int .i64 0, .int .i64 0], 16⟩),
    (116, ⟨1, true, [.int .i64 0], 8⟩),
    (117, ⟨1, true, [.int .i64 0], 8⟩),
    (118, ⟨2, true, [.int .i64 0, .emp], 32⟩),
    (119, ⟨2, true, [.int .i64 0, .emp], 32⟩),
    (120, ⟨1, false, [.nilf], 8⟩),
    (121, ⟨1, false, [.nilf], 8⟩),
    (122, ⟨1, false, [.nilf], 8⟩),
    (123, ⟨1, false, [.emp], 24⟩),
    (124, ⟨1, false, [.nilf], 8⟩),
    (125, ⟨1, false, [.nilf], 8⟩),
    (126, ⟨1, false, [.nilf], 8⟩),
    (128, ⟨1, false, [.nilf], 8⟩),
    (129, ⟨1, false, [.nilf], 8⟩),
    (130, ⟨1, false, [.nilf], 8⟩),
    (131, ⟨1, true, [.int .i64 0], 8⟩),
    (132, ⟨1, true, [.int .i64 0], 8⟩),
    (133, ⟨1, false, [.any], 8⟩),
    (134, ⟨1, false, [.nilf], 8⟩),
    (135, ⟨4, true, [.int .i64 0, .emp, .int .i64 0, .any], 48⟩),
    (136, ⟨4, true, [.int .i64 0, .emp, .int .i64 0, .any], 48⟩),
    (137, ⟨1, false, [.emp], 24⟩),
    (138, ⟨1, false, [.nilf], 8⟩),
    (139, ⟨1, false, [.nilf], 8⟩),
    (140, ⟨1, false, [.nilf], 8⟩),
    (142, ⟨1, false, [.nilf], 8⟩),
    (143, ⟨1, false, [.nilf], 8⟩),
    (145, ⟨1, false, [.nilf], 8⟩),
    (147, ⟨1, false, [.nilf], 8⟩),
    (148, ⟨1, false, [.nilf], 8⟩),
    (149, ⟨1, false, [.nilf], 8⟩),
    (150, ⟨1, false, [.nilf], 8⟩),
    (151, ⟨1, false, [.nilf], 8⟩),
    (152, ⟨1, false, [.emp], 24⟩),
    (153, ⟨1, false, [.nilf], 8⟩),
    (154, ⟨1, false, [.nilf], 8⟩),
    (155, ⟨1, false, [.nilf], 8⟩),
    (156, ⟨1, false, [.nilp], 8⟩),
    (157, ⟨1, false, [.nilf], 8⟩),
    (158, ⟨1, false, [.nilf], 8⟩),
    (159, ⟨1, false, [.nilf], 8⟩),
    (160, ⟨1, false, [.emp], 24⟩),
    (161, ⟨1, false, [.nilf], 8⟩),
    (162, ⟨1, false, [.nilf], 8⟩),
    (163, ⟨1, false, [.nilf], 8⟩),
    (164, ⟨1, false, [.nilf], 8⟩),
    (165, ⟨1, false, [.nilf], 8⟩),
    (166, ⟨1, false, [.nilf], 8⟩),
    (167, ⟨5, true, [.bool false, .bool false, .int .i64 0, .int .i64 0, .int .i64 0], 32⟩),
    (168, ⟨5, true, [.bool false, .bool false, .int .i64 0, .int .i64 0, .int .i64 0], 32⟩),
    (170, ⟨1, false, [.nilp], 8⟩),
    (171, ⟨1, false, [.nilf], 8⟩),
    (172, ⟨1, false, [.nilf], 8⟩),
    (173, ⟨1, false, [.nilf], 8⟩),
    (174, ⟨1, false, [.nilf], 8⟩),
    (175, ⟨1, false, [.nilf], 8⟩),
    (176, ⟨1, false, [.any], 8⟩),
    (177, ⟨1, true, [.any], 8⟩),
    (178, ⟨1, true, [.any], 8⟩),
    (179, ⟨1, true, [.any], 8⟩),
    (180, ⟨1, true, [.any], 8⟩),
    (181, ⟨1, false, [.nilf], 8⟩),
    (182, ⟨1, false, [.nilf], 8⟩),
    (183, ⟨1, false, [.nilf], 8⟩),
    (184, ⟨0, true, [], 0⟩),
    (186, ⟨1, false, [.nilp], 8⟩),
    (187, ⟨1, false, [.nilf], 8⟩),
    (188, ⟨1, true, [.int .i64 0], 8⟩),
    (189, ⟨1, true, [.int .i64 0], 8⟩),
    (190, ⟨1, false, [.any], 8⟩),
    (191, ⟨5, true, [.int .i64 0, .emp, .bool false, .bool false, .any], 48⟩),
    (192, ⟨5, true, [.int .i64 0, .emp, .bool false, .bool false, .any], 48⟩),
    (193, ⟨1, false, [.nilf], 8⟩),
    (194, ⟨1, false, [.nilf], 8⟩),
    (195, ⟨1, false, [.nilf], 8⟩),
    (196, ⟨1, false, [.nilf], 8⟩),
    (197, ⟨1, false, [.nilf], 8⟩),
    (198, ⟨1, false, [.nilf], 8⟩),
    (199, ⟨1, false, [.emp], 24⟩),
    (200, ⟨1, false, [.nilf], 8⟩),
    (201, ⟨1, false, [.nilp], 8⟩),
    (202, ⟨0, true, [], 0⟩),
    (204, ⟨1, false, [.nilf], 8⟩),
    (205, ⟨1, false, [.nilf], 8⟩),
    (207, ⟨1, false, [.nilf], 8⟩),
    (208, ⟨1, false, [.nilf], 8⟩),
    (209, ⟨1, false, [.nilf], 8⟩),
    (210, ⟨1, false, [.nilf], 8⟩),
    (211, ⟨1, false, [.nilf], 8⟩),
    (212, ⟨1, false, [.nilf], 8⟩),
    (213, ⟨1, false, [.nilf], 8⟩),
    (214, ⟨1, false, [.nilf], 8⟩),
    (216, ⟨1, false, [.nilf], 8⟩),
    (217, ⟨1, false, [.nilf], 8⟩),
    (218, ⟨1, false, [.nilf], 8⟩),
    (219, ⟨1, false, [.nilf], 8⟩),
    (220, ⟨1, false, [.nilf], 8⟩),
    (221, ⟨1, false, [.nilf], 8⟩),
    (222, ⟨1, false, [.nilf], 8⟩),
    (223, ⟨1, false, [.nilf], 8⟩),
    (224, ⟨1, false, [.nilf], 8⟩),
    (226, ⟨1, false, [.nilf], 8⟩),
    (227, ⟨1, false, [.nilf], 8⟩),
    (228, ⟨1, false, [.nilf], 8⟩),
    (229, ⟨1, false, [.nilp], 8⟩),
    (230, ⟨1, false, [.nilf], 8⟩),
    (231, ⟨1, false, [.nilf], 8⟩),
    (232, ⟨1, false, [.nilf], 8⟩),
    (233, ⟨1, false, [.int .u64 0], 8⟩),
    (234, ⟨1, false, [.nilf], 8⟩),
    (235, ⟨1, false, [.int .i64 0], 8⟩),
    (237, ⟨1, false, [.nilf], 8⟩),
    (238, ⟨1, false, [.nilf], 8⟩),
    (239, ⟨1, false, [.nilf], 8⟩),
    (240, ⟨1, false, [.nilf], 8⟩),
    (241, ⟨1, false, [.nilf], 8⟩),
    (242, ⟨1, false, [.nilf], 8⟩),
    (243, ⟨1, false, [.int .u32 0], 4⟩),
    (244, ⟨1, false, [.nilf], 8⟩),
    (245, ⟨1, false, [.int .u64 0], 8⟩),
    (246, ⟨1, false, [.int .u64 0], 8⟩),
    (247, ⟨1, false, [.nilf], 8⟩),
    (248, ⟨1, false, [.nilf], 8⟩),
    (249, ⟨1, false, [.nilf], 8⟩),
    (250, ⟨1, false, [.nilp], 8⟩),
    (251, ⟨1, false, [.nilf], 8⟩),
    (252, ⟨1, false, [.nilp], 8⟩),
    (254, ⟨1, false, [.nilf], 8⟩),
    (255, ⟨1, false, [.nilf], 8⟩),
    (256, ⟨4, true, [.nilp, .nilp, .nilp, .any], 40⟩),
    (257, ⟨4, true, [.nilp, .nilp, .nilp, .any], 40⟩),
    (259, ⟨0, true, [], 0⟩),
    (260, ⟨0, true, [], 0⟩),
    (261, ⟨1, false, [.nilf], 8⟩),
    (262, ⟨1, false, [.int .u8 0], 1⟩),
    (263, ⟨1, false, [.int .u8 0], 1⟩),
    (264, ⟨1, false, [.nilf], 8⟩),
    (265, ⟨1, false, [.nilp], 8⟩),
    (266, ⟨1, false, [.int .i32 0], 4⟩),
    (267, ⟨1, false, [.int .i32 0], 4⟩),
    (268, ⟨11, true, [.int .u64 0, .int .u64 0, .int .u32 0, .int .u8 0, .int .u8 0, .int .u8 0, .int .u8 0, .nilf, .nilp, .int .i32 0, .int .i32 0], 48⟩),
    (269, ⟨11, true, [.int .u64 0, .int .u64 0, .int .u32 0, .int .u8 0, .int .u8 0, .int .u8 0, .int .u8 0, .nilf, .nilp, .int .i32 0, .int .i32 0], 48⟩)]
  flds := [(7, [0, 1, 2, 3]),
    (8, [0, 1, 2, 3]),
    (13, [0, 1]),
    (14, [0, 1]),
    (18, [0]),
    (19, [0]),
    (26, [0, 1, 2, 3, 4]),
    (27, [0, 1, 2, 3, 4]),
    (52, [0, 1, 6, 7]),
    (53, [0, 1, 6, 7]),
    (55, [0]),
    (56, [0]),
    (76, [0, 1]),
    (77, [0, 1]),
    (80, [0, 2, 3]),
    (81, [0, 2, 3]),
    (88, [0]),
    (89, [0]),
    (91, [0, 1]),
    (92, [0, 1]),
    (102, [0]),
    (103, [0]),
    (104, [0, 1, 2]),
    (105, [0, 1, 2]),
    (113, [0, 1]),
    (114, [0, 1]),
    (116, [0]),
    (117, [0]),
    (118, [0, 1]),
    (119, [0, 1]),
    (131, [0]),
    (132, [0]),
    (135, [0, 1, 2, 3]),
    (136, [0, 1, 2, 3]),
    (167, [0, 1, 2, 3, 4]),
    (168, [0, 1, 2, 3, 4]),
    (177, [0]),
    (178, [0]),
    (179, [0]),
    (180, [0]),
    (188, [0]),
    (189, [0]),
    (191, [0, 1, 2, 3, 4]),
    (192, [0, 1, 2, 3, 4]),
    (256, [0, 1, 2, 3]),
    (257, [0, 1, 2, 3]),
    (268, [0, 1, 2, 3, 4, 5, 6, 7, 8, 9, 10]),
    (269, [0, 1, 2, 3, 4, 5, 6, 7, 8, 9, 10])]
  elems := [(22, 53), (24, 56), (25, 27), (37, 3), (54, 114), (123, 4), (137, 27), (152, 1), (160, 23), (199, 137)]
  plcs := [(7, [(0, 1), (1, 1), (2, 1), (3, 1)]),
    (8, [(0, 1), (1, 1), (2, 1), (3, 1)]),
    (13, [(0, 1), (1, 1)]),
    (14, [(0, 1), (1, 1)]),
    (18, [(0, 1)]),
    (19, [(0, 1)]),
    (26, [(0, 1), (1, 1), (2, 1), (3, 1), (4, 1)]),
    (27, [(0, 1), (1, 1), (2, 1), (3, 1), (4, 1)]),
    (52, [(0, 1), (1, 5), (6, 1), (7, 5)]),
    (53, [(0, 1), (1, 5), (6, 1), (7, 5)]),
    (55, [(0, 1)]),
    (56, [(0, 1)]),
    (76, [(0, 1), (1, 1)]),
    (77, [(0, 1), (1, 1)]),
    (80, [(0, 2), (2, 1), (3, 1)]),
    (81, [(0, 2), (2, 1), (3, 1)]),
    (88, [(0, 1)]),
    (89, [(0, 1)]),
    (91, [(0, 1), (1, 1)]),
    (92, [(0, 1), (1, 1)]),
    (102, [(0, 1)]),
    (103, [(0, 1)]),
    (104, [(0, 1), (1, 1), (2, 12)]),
    (105, [(0, 1), (1, 1), (2, 12)]),
    (113, [(0, 1), (1, 1)]),
    (114, [(0, 1), (1, 1)]),
    (116, [(0, 1)]),
    (117, [(0, 1)]),
    (118, [(0, 1), (1, 1)]),
    (119, [(0, 1), (1, 1)]),
    (131, [(0, 1)]),
    (132, [(0, 1)]),
    (135, [(0, 1), (1, 1), (2, 1), (3, 1)]),
    (136, [(0, 1), (1, 1), (2, 1), (3, 1)]),
    (167, [(0, 1), (1, 1), (2, 1), (3, 1), (4, 1)]),
    (168, [(0, 1), (1, 1), (2, 1), (3, 1), (4, 1)]),
    (177, [(0, 1)]),
    (178, [(0, 1)]),
    (179, [(0, 1)]),
    (180, [(0, 1)]),
    (188, [(0, 1)]),
    (189, [(0, 1)]),
    (191, [(0, 1), (1, 1), (2, 1), (3, 1), (4, 1)]),
    (192, [(0, 1), (1, 1), (2, 1), (3, 1), (4, 1)]),
    (256, [(0, 1), (1, 1), (2, 1), (3, 1)]),
    (257, [(0, 1), (1, 1), (2, 1), (3, 1)]),
    (268, [(0, 1), (1, 1), (2, 1), (3, 1), (4, 1), (5, 1), (6, 1), (7, 1), (8, 1), (9, 1), (10, 1)]),
    (269, [(0, 1), (1, 1), (2, 1), (3, 1), (4, 1), (5, 1), (6, 1), (7, 1), (8, 1), (9, 1), (10, 1)])]
theorem t1 : tables.tys.all (fun p => tokB Tryz.prog p.1 p.2) = true := by kernel_rfl
theorem t2 : tables.flds.all (fun p => fokB Tryz.prog p.1 p.2) = true := by kernel_rfl
theorem t3 : tables.elems.all (fun p => eokB Tryz.prog p.1 p.2) = true := by kernel_rfl
theorem t4 : tables.plcs.all (fun p => pokB Tryz.prog p.1 p.2) = true := by kernel_rfl
theorem t5 : tables.elems.all (fun p => match lookupN tables.tys p.2 with | some i => Nat.blt 0 i.size | none => true) = true := by kernel_rfl
noncomputable def X : PT := PT.of Tryz.prog tables t1 t2 t3 t4 t5
theorem mixed : X.P.follows .mixedOrders = true := by kernel_rfl
end Sp

/- The walks of the kit's counting and of terms. Written by a program of mine. -/
set_option linter.unusedVariables false
set_option linter.unusedSimpArgs false
set_option maxRecDepth 20000
namespace Sp
open Go Go.Proofs
theorem binds_c (k i : Int) : AFn X 94 [.int .i64 k, .int .i64 i] (.bool (binds k i)) := by
 refine Zf Tryz.func94 ?_
 refine Yb (Ya ?_)
 refine Z2 ?_
 refine Yc (Yb (Ya ?_))
 refine Z1 ?_
 refine Z89 ?_
 refine Z1 ?_
 refine Zs 7 (fun h7 => ?_) (fun h7 => ?_)
 try simp only [sz] at h7
 refine Z14 ?_
 refine Yp rfl rfl rfl rfl rfl rfl (AVal.lss rfl rfl) ?_
 refine Z15 ?_
 refine Z1 ?_
 refine Zs 11 (fun h11 => ?_) (fun h11 => ?_)
 try simp only [sz] at h11
 refine Z14 ?_
 refine Yp rfl rfl rfl rfl rfl rfl (AVal.geq rfl rfl) ?_
 refine Z15 ?_
 refine Z1 ?_
 refine Zs 15 (fun h15 => ?_) (fun h15 => ?_)
 try simp only [sz] at h15
 refine Z14 ?_
 refine Yp rfl rfl rfl rfl rfl rfl (AVal.indexG rfl rfl (by kernel_rfl) (by omega)) ?_
 refine Yp rfl rfl rfl rfl rfl rfl (AVal.fieldE rfl rfl) ?_
 refine Yp rfl rfl rfl rfl rfl rfl (AVal.loadEN rfl rfl rfl (by constructor)) ?_
 refine Z14 ?_
 refine Z47 ?_
 refine Z15 ?_
 refine Z2 ?_
 refine Yc (Yd ?_)
 refine Yh rfl (.cons rfl .nil) ?_
 exact D.Le.eq (congrArg D.bool (by simp [binds, *] <;> omega))
 try simp only [sz] at h15
 refine Z4 ?_
 refine Z4 ?_
 refine Z4 ?_
 refine Z4 ?_
 refine Z4 ?_
 refine Z4 ?_
 refine Z13 ?_
 refine Z2 ?_
 refine Yc (Yd ?_)
 refine Yh rfl (.cons rfl .nil) ?_
 exact D.Le.eq (congrArg D.bool (by simp [binds, *] <;> omega))
 try simp only [sz] at h11
 refine Z4 ?_
 refine Z4 ?_
 refine Z13 ?_
 refine Z1 ?_
 refine Z4 ?_
 refine Z4 ?_
 refine Z4 ?_
 refine Z4 ?_
 refine Z4 ?_
 refine Z4 ?_
 refine Z13 ?_
 refine Z2 ?_
 refine Yc (Yd ?_)
 refine Yh rfl (.cons rfl .nil) ?_
 exact D.Le.eq (congrArg D.bool (by simp [binds, *] <;> omega))
 try simp only [sz] at h7
 refine Z4 ?_
 refine Z4 ?_
 refine Z13 ?_
 refine Z1 ?_
 refine Z4 ?_
 refine Z4 ?_
 refine Z13 ?_
 refine Z1 ?_
 refine Z4 ?_
 refine Z4 ?_
 refine Z4 ?_
 refine Z4 ?_
 refine Z4 ?_
 refine Z4 ?_
 refine Z13 ?_
 refine Z2 ?_
 refine Yc (Yd ?_)
 refine Yh rfl (.cons rfl .nil) ?_
 exact D.Le.eq (congrArg D.bool (by simp [binds, *] <;> omega))
theorem size_c  : ∀ (m : Nat) (t : Term), t.sz = m → t.fit 9223372036854775807 → AFn X 152 [encT t] (.int .i64 (w64 t.sz)) := by
 intro m
 induction m using Nat.strongRecOn with
 | _ m ih =>
 intro t hm hf
 refine Zf Tryz.func152 ?_
 refine Yb (Ya ?_)
 refine Z9 (fun b1 => ?_)
 refine Z2 ?_
 refine Yc (Yb (Ya ?_))
 refine Z2 ?_
 refine Yc (Yb (Yb (Ya ?_)))
 refine Z6 ?_
 refine Z11 ?_
 refine Z24 ?_
 refine Z1 ?_
 refine Yc (Yf ?_)
 refine Yu (γ := Nat) (fun g => [(7, .slT t.kids), (8, .int .i64 t.kids.length), (9, .int .i64 g), (3, .int .i64 (w64 (1 + Term.szs (t.kids.take g))))]) (fun g => []) (fun g => g ≤ t.kids.length) (fun g => t.kids.length - g) 0 (Nat.zero_le _) (by repeat first | exact Ym | refine Yl (.refl _) ?_) (by repeat first | exact X0 _ | apply X1 | apply X2 | exact X3 _) ?_
 intro i hi t1
 have hlen := hf.len
 refine Yb (Ya ?_)
 refine Z26 ?_
 refine Yc (Yb ?_)
 refine Zc (fun h10 => ?_) (fun h10 => ?_)
 try simp only [sz] at h10
 have hlt : i < t.kids.length := by omega
 refine Ye (Yb (Yf (Yb (Ya ?_))))
 refine Z53 ?_
 refine Z41 ?_
 refine Z7 (fun b5 => ?_)
 refine Z3 ?_
 refine Yc (Ya ?_)
 refine Z1 ?_
 refine Z20 ?_
 refine AOps.e rfl rfl rfl (Yk (ih (t.kids.getD i default).sz (by rw [← hm]; exact Term.sz_lt (getD_mem hlt)) _ rfl (hf.kid (getD_mem hlt))) (Yn rfl) ?_)
 refine Z63 ?_
 refine Z2 ?_
 refine Yc (Ya ?_)
 refine Z19 ?_
 refine Z1 ?_
 refine Yc ?_
 refine ⟨i + 1, by omega, by omega, rfl, (by refine Yl (.refl _) (Yl (.refl _) (Yl (.refl _) (Yl (D.Le.eq (congrArg (D.int .i64) ((w64_add _ _).trans (congrArg w64 ?_)))) Ym))); rw [Term.szs_take_succ hlt]; omega), (by repeat first | exact X0 _ | apply X1 | apply X2 | exact X3 _)⟩
 try simp only [sz] at h10
 refine Yg (Yb (Ya ?_))
 refine Z1 ?_
 refine Z2 ?_
 refine Yc (Yd ?_)
 refine Yh rfl (.cons rfl .nil) ?_
 exact D.Le.eq (congrArg (D.int .i64) (by rw [List.take_of_length_le (by omega), Term.sz_eq]; rfl))
theorem levelOf_c (l : Level) (q : Int) : AFn X 158 [encL l, .int .i64 q] (.int .i64 (levelOfM l q)) := by
 refine Zf Tryz.func158 ?_
 refine Yb (Ya ?_)
 refine Z9 (fun b2 => ?_)
 refine Z2 ?_
 refine Yc (Yb (Ya ?_))
 refine Z6 ?_
 refine Z11 ?_
 refine Z24 ?_
 refine Z63 ?_
 refine Z1 ?_
 refine Z63 ?_
 refine AOps.v rfl rfl rfl (AVal.min rfl rfl) ?_
 refine Z2 ?_
 refine Yc (Yd ?_)
 refine Yh rfl (.cons rfl .nil) ?_
 exact D.Le.eq (congrArg (D.int .i64) (rfl))
theorem levelsOf_c (ls : List Level) (q : Int) (hl : ls.length ≤ 9223372036854775807) : AFn X 121 [.slL ls, .int .i64 q] (.int .i64 (levelsGo q 0 ls)) := by
 refine Zf Tryz.func121 ?_
 refine Yb (Ya ?_)
 refine Z2 ?_
 refine Yc (Yb (Ya ?_))
 refine Z2 ?_
 refine Yc (Yb (Yb (Ya ?_)))
 refine Z2 ?_
 refine Yc (Yf ?_)
 refine Yu (γ := Nat × Int) (fun g => [(0, .slL ls), (1, .int .i64 q), (5, .int .i64 g.2), (6, .int .i64 g.1)]) (fun g => []) (fun g => g.1 ≤ ls.length ∧ levelsGo q g.2 (ls.drop g.1) = levelsGo q 0 ls) (fun g => ls.length - g.1) (0, 0) ⟨Nat.zero_le _, by simp⟩ (by repeat first | exact Ym | refine Yl (.refl _) ?_) (by repeat first | exact X0 _ | apply X1 | apply X2 | exact X3 _) ?_
 rintro ⟨i, n⟩ ⟨hi, hg⟩ t1
 simp only at hi hg ⊢
 refine Yb (Yb (Ya ?_))
 refine Z1 ?_
 refine Z1 ?_
 refine Z24 ?_
 refine Z26 ?_
 refine Z1 ?_
 refine Zs 11 (fun h11 => ?_) (fun h11 => ?_)
 try simp only [sz] at h11
 refine Z14 ?_
 refine Z14 ?_
 refine Z78 ?_
 refine Z15 ?_
 refine Yc ?_
 refine Zc (fun h15 => ?_) (fun h15 => ?_)
 try simp only [sz] at h15
 have hlt : i < ls.length := by omega
 refine Ye (Yb (Yf (Ya ?_)))
 refine Z1 ?_
 refine Z1 ?_
 refine Z1 ?_
 refine Z82 ?_
 refine Z77 ?_
 refine Z1 ?_
 refine AOps.e rfl rfl rfl (Yk (levelOf_c _ _) (Yn rfl) ?_)
 refine Z63 ?_
 refine Z2 ?_
 refine Yc (Ya ?_)
 refine Z1 ?_
 refine Z19 ?_
 refine Z2 ?_
 refine Yc ?_
 refine ⟨(i + 1, w64 (n + levelOfM (ls.getD i default) q)), ⟨by simp only; omega, by simp only; rw [← hg, drop_getD hlt, levelsGo, if_pos h15]⟩, by simp only; omega, rfl, (by repeat first | exact Ym | refine Yl (.refl _) ?_), (by repeat first | exact X0 _ | apply X1 | apply X2 | exact X3 _)⟩
 try simp only [sz] at h15
 refine Yg (Yb (Ya ?_))
 refine Z1 ?_
 refine Z2 ?_
 refine Yc (Yd ?_)
 refine Yh rfl (.cons rfl .nil) ?_
 exact D.Le.eq (congrArg (D.int .i64) (by rw [← hg, levelsGo_stop (by omega)]))
 try simp only [sz] at h11
 refine Z4 ?_
 refine Z4 ?_
 refine Z4 ?_
 refine Z13 ?_
 refine Yc (ACode.condF rfl (Yg (Yb (Ya ?_))))
 refine Z1 ?_
 refine Z2 ?_
 refine Yc (Yd ?_)
 refine Yh rfl (.cons rfl .nil) ?_
 exact D.Le.eq (congrArg (D.int .i64) (by rw [← hg, List.drop_of_length_le (by omega), levelsGo]))
theorem termsOf_c (ts : List Term) (q : Int) (hl : ts.length ≤ 9223372036854775807) (h : ∀ k ∈ ts, ∀ q, AFn X 71 [encT k, .int .i64 q] (.int .i64 (termOfM q k))) : AFn X 33 [.slT ts, .int .i64 q] (.int .i64 (termsGo q 0 ts)) := by
 refine Zf Tryz.func33 ?_
 refine Yb (Ya ?_)
 refine Z2 ?_
 refine Yc (Yb (Ya ?_))
 refine Z2 ?_
 refine Yc (Yb (Yb (Ya ?_)))
 refine Z2 ?_
 refine Yc (Yf ?_)
 refine Yu (γ := Nat × Int) (fun g => [(0, .slT ts), (1, .int .i64 q), (5, .int .i64 g.2), (6, .int .i64 g.1)]) (fun g => []) (fun g => g.1 ≤ ts.length ∧ termsGo q g.2 (ts.drop g.1) = termsGo q 0 ts) (fun g => ts.length - g.1) (0, 0) ⟨Nat.zero_le _, by simp⟩ (by repeat first | exact Ym | refine Yl (.refl _) ?_) (by repeat first | exact X0 _ | apply X1 | apply X2 | exact X3 _) ?_
 rintro ⟨i, n⟩ ⟨hi, hg⟩ t1
 simp only at hi hg ⊢
 refine Yb (Yb (Ya ?_))
 refine Z1 ?_
 refine Z1 ?_
 refine Z24 ?_
 refine Z26 ?_
 refine Z1 ?_
 refine Zs 11 (fun h11 => ?_) (fun h11 => ?_)
 try simp only [sz] at h11
 refine Z14 ?_
 refine Z14 ?_
 refine Z78 ?_
 refine Z15 ?_
 refine Yc ?_
 refine Zc (fun h15 => ?_) (fun h15 => ?_)
 try simp only [sz] at h15
 have hlt : i < ts.length := by omega
 refine Ye (Yb (Yf (Ya ?_)))
 refine Z1 ?_
 refine Z1 ?_
 refine Z1 ?_
 refine Z53 ?_
 refine Z41 ?_
 refine Z1 ?_
 refine Z1 ?_
 refine AOps.v rfl rfl rfl (AVal.sub rfl rfl) ?_
 refine AOps.e rfl rfl rfl (Yk (h (ts.getD i default) (getD_mem hlt) _) (Yn rfl) ?_)
 refine Z63 ?_
 refine Z2 ?_
 refine Yc (Ya ?_)
 refine Z1 ?_
 refine Z19 ?_
 refine Z2 ?_
 refine Yc ?_
 refine ⟨(i + 1, w64 (n + termOfM (w64 (q - n)) (ts.getD i default))), ⟨by simp only; omega, by simp only; rw [← hg, drop_getD hlt, termsGo, if_pos h15]⟩, by simp only; omega, rfl, (by repeat first | exact Ym | refine Yl (.refl _) ?_), (by repeat first | exact X0 _ | apply X1 | apply X2 | exact X3 _)⟩
 try simp only [sz] at h15
 refine Yg (Yb (Ya ?_))
 refine Z1 ?_
 refine Z2 ?_
 refine Yc (Yd ?_)
 refine Yh rfl (.cons rfl .nil) ?_
 exact D.Le.eq (congrArg (D.int .i64) (by rw [← hg, termsGo_stop (by omega)]))
 try simp only [sz] at h11
 refine Z4 ?_
 refine Z4 ?_
 refine Z4 ?_
 refine Z13 ?_
 refine Yc (ACode.condF rfl (Yg (Yb (Ya ?_))))
 refine Z1 ?_
 refine Z2 ?_
 refine Yc (Yd ?_)
 refine Yh rfl (.cons rfl .nil) ?_
 exact D.Le.eq (congrArg (D.int .i64) (by rw [← hg, List.drop_of_length_le (by omega), termsGo]))
theorem termOf_c  : ∀ (m : Nat) (t : Term), t.sz = m → t.fit 9223372036854775807 → ∀ q, AFn X 71 [encT t, .int .i64 q] (.int .i64 (termOfM q t)) := by
 intro m
 induction m using Nat.strongRecOn with
 | _ m ih =>
 intro t hm hf q
 refine Zf Tryz.func71 ?_
 refine Yb (Ya ?_)
 refine Z9 (fun b2 => ?_)
 refine Z2 ?_
 refine Yc (Yb ?_)
 refine Yj [.p 0, .l 1, .p 2, .p 3, .p 4, .p 5, .l 6, .p 7, .p 8, .p 9, .p 10] mixed (by kernel_rfl) ?_
 refine Z8 ?_
 refine Z50 ?_
 refine Z5 ?_
 refine ASeq.pe rfl rfl rfl rfl (fun L0 => (Yk (levelsOf_c _ _ hf.llen) (Yn rfl) ⟨rfl, rfl⟩)) ?_
 refine Yt rfl rfl rfl rfl (fun L0 => (AVal.add rfl rfl)) ?_
 refine Z8 ?_
 refine Z50 ?_
 refine Z5 ?_
 refine ASeq.pe rfl rfl rfl rfl (fun L0 => (Yk (termsOf_c _ _ hf.len (fun k hk q => ih k.sz (by rw [← hm]; exact Term.sz_lt hk) k rfl (hf.kid hk) q)) (Yn rfl) ⟨rfl, rfl⟩)) ?_
 refine Yt rfl rfl rfl rfl (fun L0 => (AVal.add rfl rfl)) ?_
 refine Z17 ?_
 refine ASeq.nil (Yd ?_)
 refine Yh rfl (.cons rfl .nil) ?_
 exact D.Le.eq (congrArg (D.int .i64) (by rw [termOfM_eq]))
theorem deep_c  : ∀ (m : Nat) (t : Term), t.sz = m → t.fit 9223372036854775807 → ∀ d, AFn X 31 [encT t, .int .i64 d] (.int .i64 (deepM d t)) := by
 intro m
 induction m using Nat.strongRecOn with
 | _ m ih =>
 intro t hm hf q
 have hl := hf.len
 refine Zf Tryz.func31 ?_
 refine Yb (Ya ?_)
 refine Z9 (fun b2 => ?_)
 refine Z2 ?_
 refine Yc (Yb (Ya ?_))
 refine Z2 ?_
 refine Yc (Yb (Yb (Ya ?_)))
 refine Z2 ?_
 refine Yc (Yf ?_)
 refine Yu (γ := Nat × Int) (fun g => [(1, .int .i64 q), (2, .ptr b2 0), (5, .int .i64 g.2), (6, .int .i64 g.1)]) (fun g => [(b2, .cells 27 (cellsT t))]) (fun g => g.1 ≤ t.kids.length ∧ deepsGo q g.2 (t.kids.drop g.1) = deepsGo q 0 t.kids) (fun g => t.kids.length - g.1) (0, 0) ⟨Nat.zero_le _, by simp⟩ (by repeat first | exact Ym | refine Yl (.refl _) ?_) (by repeat first | exact X0 _ | apply X1 | apply X2 | exact X3 _) ?_
 rintro ⟨i, n⟩ ⟨hi, hg⟩ t1
 simp only at hi hg ⊢
 refine Yb (Yb (Ya ?_))
 refine Z1 ?_
 refine Z6 ?_
 refine Z11 ?_
 refine Z24 ?_
 refine Z26 ?_
 refine Z1 ?_
 refine Zs 12 (fun h12 => ?_) (fun h12 => ?_)
 try simp only [sz] at h12
 refine Z14 ?_
 refine Z59 ?_
 refine Z15 ?_
 refine Yc ?_
 refine Zc (fun h15 => ?_) (fun h15 => ?_)
 try simp only [sz] at h15
 have hlt : i < t.kids.length := by omega
 refine Ye (Yb (Yf (Ya ?_)))
 refine Z1 ?_
 refine Z6 ?_
 refine Z11 ?_
 refine Z1 ?_
 refine Z53 ?_
 refine Z41 ?_
 refine Z1 ?_
 refine AOps.v rfl rfl rfl (AVal.sub rfl rfl) ?_
 refine AOps.e rfl rfl rfl (Yk (ih (t.kids.getD i default).sz (by rw [← hm]; exact Term.sz_lt (getD_mem hlt)) _ rfl (hf.kid (getD_mem hlt)) _) (Yn rfl) ?_)
 refine AOps.v rfl rfl rfl (AVal.max rfl rfl) ?_
 refine Z2 ?_
 refine Yc (Ya ?_)
 refine Z1 ?_
 refine Z19 ?_
 refine Z2 ?_
 refine Yc ?_
 refine ⟨(i + 1, max n (deepM (w64 (q - 1)) (t.kids.getD i default))), ⟨by simp only; omega, by simp only; rw [← hg, drop_getD hlt, deepsGo, if_pos h15]⟩, by simp only; omega, rfl, (by repeat first | exact Ym | refine Yl (.refl _) ?_), (by repeat first | exact X0 _ | apply X1 | apply X2 | exact X3 _)⟩
 try simp only [sz] at h15
 refine Yg (Yb (Ya ?_))
 refine Z1 ?_
 refine Z63 ?_
 refine Z2 ?_
 refine Yc (Yd ?_)
 refine Yh rfl (.cons rfl .nil) ?_
 exact D.Le.eq (congrArg (D.int .i64) (by rw [deepM_eq, ← hg, deepsGo_stop (by omega)]))
 try simp only [sz] at h12
 refine Z4 ?_
 refine Z4 ?_
 refine Z13 ?_
 refine Yc (ACode.condF rfl (Yg (Yb (Ya ?_))))
 refine Z1 ?_
 refine Z63 ?_
 refine Z2 ?_
 refine Yc (Yd ?_)
 refine Yh rfl (.cons rfl .nil) ?_
 exact D.Le.eq (congrArg (D.int .i64) (by rw [deepM_eq, ← hg, List.drop_of_length_le (by omega), deepsGo]))
theorem coresOf_c (cs : List Core) (q : Int) (hl : cs.length ≤ 9223372036854775807) (hf : ∀ c ∈ cs, c.typ.fit 9223372036854775807 ∧ c.body.fit 9223372036854775807) : AFn X 32 [.slC cs, .int .i64 q] (.int .i64 (coresGo q 0 cs)) := by
 refine Zf Tryz.func32 ?_
 refine Yb (Ya ?_)
 refine Z2 ?_
 refine Yc (Yb (Ya ?_))
 refine Z2 ?_
 refine Yc (Yb (Yb (Ya ?_)))
 refine Z2 ?_
 refine Yc (Yf ?_)
 refine Yu (γ := Nat × Int) (fun g => [(0, .slC cs), (1, .int .i64 q), (5, .int .i64 g.2), (6, .int .i64 g.1)]) (fun g => []) (fun g => g.1 ≤ cs.length ∧ coresGo q g.2 (cs.drop g.1) = coresGo q 0 cs) (fun g => cs.length - g.1) (0, 0) ⟨Nat.zero_le _, by simp⟩ (by repeat first | exact Ym | refine Yl (.refl _) ?_) (by repeat first | exact X0 _ | apply X1 | apply X2 | exact X3 _) ?_
 rintro ⟨i, n⟩ ⟨hi, hg⟩ t1
 simp only at hi hg ⊢
 refine Yb (Yb (Ya ?_))
 refine Z1 ?_
 refine Z1 ?_
 refine Z24 ?_
 refine Z26 ?_
 refine Z1 ?_
 refine Zs 11 (fun h11 => ?_) (fun h11 => ?_)
 try simp only [sz] at h11
 refine Z14 ?_
 refine Z14 ?_
 refine Z78 ?_
 refine Z15 ?_
 refine Yc ?_
 refine Zc (fun h15 => ?_) (fun h15 => ?_)
 try simp only [sz] at h15
 have hlt : i < cs.length := by omega
 refine Ye (Yb (Yf ?_))
 refine Yj [.p 0, .p 1, .p 2, .p 3, .p 4, .p 5, .p 6, .p 7, .p 8, .p 9, .p 10, .p 11, .p 12, .p 13, .p 14, .p 15, .p 16, .p 17, .e 18 []] mixed (by kernel_rfl) ?_
 refine Z5 ?_
 refine Yt rfl rfl rfl rfl (fun L0 => (AVal.add rfl rfl)) ?_
 refine Z5 ?_
 refine Z5 ?_
 refine Yt rfl rfl rfl rfl (fun L0 => (AVal.indexCN rfl rfl rfl rfl rfl ⟨by omega, by omega⟩)) ?_
 refine Yt rfl rfl rfl rfl (fun L0 => (AVal.fieldE rfl rfl)) ?_
 refine Z21 ?_
 refine Z5 ?_
 refine ASeq.pe rfl rfl rfl rfl (fun L0 => (Yk (termOf_c _ (cs.getD i default).typ rfl (hf _ (getD_mem hlt)).1 _) (Yn rfl) ⟨rfl, rfl⟩)) ?_
 refine Yt rfl rfl rfl rfl (fun L0 => (AVal.add rfl rfl)) ?_
 refine Z5 ?_
 refine Z5 ?_
 refine Yt rfl rfl rfl rfl (fun L0 => (AVal.indexCN rfl rfl rfl rfl rfl ⟨by omega, by omega⟩)) ?_
 refine Yt rfl rfl rfl rfl (fun L0 => (AVal.fieldE rfl rfl)) ?_
 refine Z21 ?_
 refine Z5 ?_
 refine ASeq.pe rfl rfl rfl rfl (fun L0 => (Yk (termOf_c _ (cs.getD i default).body rfl (hf _ (getD_mem hlt)).2 _) (Yn rfl) ⟨rfl, rfl⟩)) ?_
 refine Yt rfl rfl rfl rfl (fun L0 => (AVal.add rfl rfl)) ?_
 refine ASeq.ev0 rfl rfl rfl rfl rfl Yo (AVal.assignN (by constructor)) ?_
 refine ASeq.nil (Ya ?_)
 refine Z1 ?_
 refine Z19 ?_
 refine Z2 ?_
 refine Yc ?_
 refine ⟨(i + 1, w64 (w64 (w64 (n + 1) + termOfM q (cs.getD i default).typ) + termOfM q (cs.getD i default).body)), ⟨by simp only; omega, by simp only; rw [← hg, drop_getD hlt, coresGo, if_pos h15]⟩, by simp only; omega, rfl, (by repeat first | exact Ym | refine Yl (.refl _) ?_), (by repeat first | exact X0 _ | apply X1 | apply X2 | exact X3 _)⟩
 try simp only [sz] at h15
 refine Yg (Yb (Ya ?_))
 refine Z1 ?_
 refine Z2 ?_
 refine Yc (Yd ?_)
 refine Yh rfl (.cons rfl .nil) ?_
 exact D.Le.eq (congrArg (D.int .i64) (by rw [← hg, coresGo_stop (by omega)]))
 try simp only [sz] at h11
 refine Z4 ?_
 refine Z4 ?_
 refine Z4 ?_
 refine Z13 ?_
 refine Yc (ACode.condF rfl (Yg (Yb (Ya ?_))))
 refine Z1 ?_
 refine Z2 ?_
 refine Yc (Yd ?_)
 refine Yh rfl (.cons rfl .nil) ?_
 exact D.Le.eq (congrArg (D.int .i64) (by rw [← hg, List.drop_of_length_le (by omega), coresGo]))
theorem sameParts_c (a b : List Part) (hl : a.length ≤ 9223372036854775807) : AFn X 149 [.slP a, .slP b] (.bool (decide (a = b))) := by
 refine Zf Tryz.func149 ?_
 refine Yb (Ya ?_)
 refine Z2 ?_
 refine Yc (Yb (Yb (Ya ?_)))
 refine Z1 ?_
 refine Z24 ?_
 refine Z1 ?_
 refine Z24 ?_
 refine Z60 ?_
 refine Yc ?_
 refine Zc (fun h10 => ?_) (fun h10 => ?_)
 try simp only [sz] at h10
 refine Yb (Ya ?_)
 refine Z2 ?_
 refine Yc (Yd ?_)
 refine Yh rfl (.cons rfl .nil) ?_
 exact D.Le.eq (congrArg D.bool (by rw [decide_eq_false (fun e => by subst e; exact h10 rfl)]))
 try simp only [sz] at h10
 refine Ye (Yb (Yb (Ya ?_)))
 refine Z2 ?_
 refine Yc (Yf ?_)
 refine Yu (γ := Nat) (fun g => [(0, .slP a), (1, .slP b), (5, .int .i64 g)]) (fun g => []) (fun g => g ≤ a.length ∧ a.take g = b.take g) (fun g => a.length - g) 0 ⟨Nat.zero_le _, by simp⟩ (by repeat first | exact Ym | refine Yl (.refl _) ?_) (by repeat first | exact X0 _ | apply X1 | apply X2 | exact X3 _) ?_
 rintro i ⟨hi, hg⟩ t1
 have hab : a.length = b.length := by omega
 refine Yb (Yb (Ya ?_))
 refine Z1 ?_
 refine Z1 ?_
 refine Z24 ?_
 refine Z26 ?_
 refine Yc ?_
 refine Zc (fun h14 => ?_) (fun h14 => ?_)
 try simp only [sz] at h14
 have hlt : i < a.length := by omega
 refine Ye (Yb (Yf (Yb ?_)))
 refine Yj [.p 0, .p 1, .p 2, .p 3, .p 4, .p 5, .p 6, .p 7, .p 8] mixed (by kernel_rfl) ?_
 refine Z5 ?_
 refine Z5 ?_
 refine Z79 ?_
 refine Yt rfl rfl rfl rfl (fun L0 => (AVal.loadE (d := encP _) rfl rfl rfl)) ?_
 refine Z5 ?_
 refine Z5 ?_
 refine Z79 ?_
 refine Yt rfl rfl rfl rfl (fun L0 => (AVal.loadE (d := encP _) rfl rfl rfl)) ?_
 refine Yt rfl rfl rfl rfl (fun L0 => (AVal.neqPart rfl rfl (by kernel_rfl))) ?_
 refine ASeq.nil ?_
 refine Zc (fun h25 => ?_) (fun h25 => ?_)
 try simp only [sz] at h25
 refine Yb (Ya ?_)
 refine Z2 ?_
 refine Yc (Yd ?_)
 refine Yh rfl (.cons rfl .nil) ?_
 exact D.Le.eq (congrArg D.bool (by rw [decide_eq_false (ne_of_getD (by simpa using h25))]))
 try simp only [sz] at h25
 refine Ye (Ya ?_)
 refine Z1 ?_
 refine Z19 ?_
 refine Z2 ?_
 refine Yc ?_
 refine ⟨i + 1, ⟨by omega, take_eq_succ hab hlt hg (by simpa using h25)⟩, by omega, rfl, (by repeat first | exact Ym | refine Yl (.refl _) ?_), (by repeat first | exact X0 _ | apply X1 | apply X2 | exact X3 _)⟩
 try simp only [sz] at h14
 refine Yg (Yb (Ya ?_))
 refine Z2 ?_
 refine Yc (Yd ?_)
 refine Yh rfl (.cons rfl .nil) ?_
 exact D.Le.eq (congrArg D.bool (by rw [decide_eq_true (eq_of_take hab (by omega) hg)]))
theorem sameLevel_c (a b : Level) (hl : a.length ≤ 9223372036854775807) : AFn X 103 [encL a, encL b] (.bool (decide (a = b))) := by
 refine Zf Tryz.func103 ?_
 refine Yb (Ya ?_)
 refine Z9 (fun b2 => ?_)
 refine Z9 (fun b3 => ?_)
 refine Z2 ?_
 refine Yc (Yb (Ya ?_))
 refine Z6 ?_
 refine Z16 ?_
 refine Z6 ?_
 refine Z11 ?_
 refine AOps.e rfl rfl rfl (Yk (sameParts_c _ _ hl) (Yn rfl) ?_)
 refine Z2 ?_
 refine Yc (Yd ?_)
 refine Yh rfl (.cons rfl .nil) ?_
 exact D.Le.eq (congrArg D.bool (rfl))
theorem sameLevels_c (a b : List Level) (hl : a.length ≤ 9223372036854775807) (hp : ∀ l ∈ a, l.length ≤ 9223372036854775807) : AFn X 56 [.slL a, .slL b] (.bool (decide (a = b))) := by
 refine Zf Tryz.func56 ?_
 refine Yb (Ya ?_)
 refine Z2 ?_
 refine Yc (Yb (Yb (Ya ?_)))
 refine Z1 ?_
 refine Z24 ?_
 refine Z1 ?_
 refine Z24 ?_
 refine Z60 ?_
 refine Yc ?_
 refine Zc (fun h10 => ?_) (fun h10 => ?_)
 try simp only [sz] at h10
 refine Yb (Ya ?_)
 refine Z2 ?_
 refine Yc (Yd ?_)
 refine Yh rfl (.cons rfl .nil) ?_
 exact D.Le.eq (congrArg D.bool (by rw [decide_eq_false (fun e => by subst e; exact h10 rfl)]))
 try simp only [sz] at h10
 refine Ye (Yb (Yb (Ya ?_)))
 refine Z2 ?_
 refine Yc (Yf ?_)
 refine Yu (γ := Nat) (fun g => [(0, .slL a), (1, .slL b), (5, .int .i64 g)]) (fun g => []) (fun g => g ≤ a.length ∧ a.take g = b.take g) (fun g => a.length - g) 0 ⟨Nat.zero_le _, by simp⟩ (by repeat first | exact Ym | refine Yl (.refl _) ?_) (by repeat first | exact X0 _ | apply X1 | apply X2 | exact X3 _) ?_
 rintro i ⟨hi, hg⟩ t1
 have hab : a.length = b.length := by omega
 refine Yb (Yb (Ya ?_))
 refine Z1 ?_
 refine Z1 ?_
 refine Z24 ?_
 refine Z26 ?_
 refine Yc ?_
 refine Zc (fun h14 => ?_) (fun h14 => ?_)
 try simp only [sz] at h14
 have hlt : i < a.length := by omega
 refine Ye (Yb (Yf (Yb ?_)))
 refine Yj [.p 0, .p 1, .p 2, .p 3, .p 4, .p 5, .p 6, .p 7, .p 8, .p 9] mixed (by kernel_rfl) ?_
 refine Z5 ?_
 refine Z5 ?_
 refine Yt rfl rfl rfl rfl (fun L0 => (AVal.indexLN rfl rfl rfl rfl rfl ⟨by omega, by omega⟩)) ?_
 refine Yt rfl rfl rfl rfl (fun L0 => (AVal.loadE (d := encL _) rfl rfl rfl)) ?_
 refine Z5 ?_
 refine Z5 ?_
 refine Yt rfl rfl rfl rfl (fun L0 => (AVal.indexLN rfl rfl rfl rfl rfl ⟨by omega, by omega⟩)) ?_
 refine Yt rfl rfl rfl rfl (fun L0 => (AVal.loadE (d := encL _) rfl rfl rfl)) ?_
 refine ASeq.pe rfl rfl rfl rfl (fun L0 => (Yk (sameLevel_c (a.getD i default) (b.getD i default) (hp _ (getD_mem hlt))) (Yn rfl) ⟨rfl, rfl⟩)) ?_
 refine Yt rfl rfl rfl rfl (fun L0 => (AVal.not rfl)) ?_
 refine ASeq.nil ?_
 refine Zc (fun h26 => ?_) (fun h26 => ?_)
 try simp only [sz] at h26
 refine Yb (Ya ?_)
 refine Z2 ?_
 refine Yc (Yd ?_)
 refine Yh rfl (.cons rfl .nil) ?_
 exact D.Le.eq (congrArg D.bool (by rw [decide_eq_false (ne_of_getD (by simpa using h26))]))
 try simp only [sz] at h26
 refine Ye (Ya ?_)
 refine Z1 ?_
 refine Z19 ?_
 refine Z2 ?_
 refine Yc ?_
 refine ⟨i + 1, ⟨by omega, take_eq_succ hab hlt hg (by simpa using h26)⟩, by omega, rfl, (by repeat first | exact Ym | refine Yl (.refl _) ?_), (by repeat first | exact X0 _ | apply X1 | apply X2 | exact X3 _)⟩
 try simp only [sz] at h14
 refine Yg (Yb (Ya ?_))
 refine Z2 ?_
 refine Yc (Yd ?_)
 refine Yh rfl (.cons rfl .nil) ?_
 exact D.Le.eq (congrArg D.bool (by rw [decide_eq_true (eq_of_take hab (by omega) hg)]))
theorem sameTerms_c (a b : List Term) (hl : a.length ≤ 9223372036854775807) (h : ∀ k ∈ a, ∀ u, AFn X 18 [encT k, encT u] (.bool (decide (k = u)))) : AFn X 57 [.slT a, .slT b] (.bool (decide (a = b))) := by
 refine Zf Tryz.func57 ?_
 refine Yb (Ya ?_)
 refine Z2 ?_
 refine Yc (Yb (Yb (Ya ?_)))
 refine Z1 ?_
 refine Z24 ?_
 refine Z1 ?_
 refine Z24 ?_
 refine Z60 ?_
 refine Yc ?_
 refine Zc (fun h10 => ?_) (fun h10 => ?_)
 try simp only [sz] at h10
 refine Yb (Ya ?_)
 refine Z2 ?_
 refine Yc (Yd ?_)
 refine Yh rfl (.cons rfl .nil) ?_
 exact D.Le.eq (congrArg D.bool (by rw [decide_eq_false (fun e => by subst e; exact h10 rfl)]))
 try simp only [sz] at h10
 refine Ye (Yb (Yb (Ya ?_)))
 refine Z2 ?_
 refine Yc (Yf ?_)
 refine Yu (γ := Nat) (fun g => [(0, .slT a), (1, .slT b), (5, .int .i64 g)]) (fun g => []) (fun g => g ≤ a.length ∧ a.take g = b.take g) (fun g => a.length - g) 0 ⟨Nat.zero_le _, by simp⟩ (by repeat first | exact Ym | refine Yl (.refl _) ?_) (by repeat first | exact X0 _ | apply X1 | apply X2 | exact X3 _) ?_
 rintro i ⟨hi, hg⟩ t1
 have hab : a.length = b.length := by omega
 refine Yb (Yb (Ya ?_))
 refine Z1 ?_
 refine Z1 ?_
 refine Z24 ?_
 refine Z26 ?_
 refine Yc ?_
 refine Zc (fun h14 => ?_) (fun h14 => ?_)
 try simp only [sz] at h14
 have hlt : i < a.length := by omega
 refine Ye (Yb (Yf (Yb ?_)))
 refine Yj [.p 0, .p 1, .p 2, .p 3, .p 4, .p 5, .p 6, .p 7, .p 8, .p 9] mixed (by kernel_rfl) ?_
 refine Z5 ?_
 refine Z5 ?_
 refine Z86 ?_
 refine Z21 ?_
 refine Z5 ?_
 refine Z5 ?_
 refine Z86 ?_
 refine Z21 ?_
 refine ASeq.pe rfl rfl rfl rfl (fun L0 => (Yk (h (a.getD i default) (getD_mem hlt) (b.getD i default)) (Yn rfl) ⟨rfl, rfl⟩)) ?_
 refine Yt rfl rfl rfl rfl (fun L0 => (AVal.not rfl)) ?_
 refine ASeq.nil ?_
 refine Zc (fun h26 => ?_) (fun h26 => ?_)
 try simp only [sz] at h26
 refine Yb (Ya ?_)
 refine Z2 ?_
 refine Yc (Yd ?_)
 refine Yh rfl (.cons rfl .nil) ?_
 exact D.Le.eq (congrArg D.bool (by rw [decide_eq_false (ne_of_getD (by simpa using h26))]))
 try simp only [sz] at h26
 refine Ye (Ya ?_)
 refine Z1 ?_
 refine Z19 ?_
 refine Z2 ?_
 refine Yc ?_
 refine ⟨i + 1, ⟨by omega, take_eq_succ hab hlt hg (by simpa using h26)⟩, by omega, rfl, (by repeat first | exact Ym | refine Yl (.refl _) ?_), (by repeat first | exact X0 _ | apply X1 | apply X2 | exact X3 _)⟩
 try simp only [sz] at h14
 refine Yg (Yb (Ya ?_))
 refine Z2 ?_
 refine Yc (Yd ?_)
 refine Yh rfl (.cons rfl .nil) ?_
 exact D.Le.eq (congrArg D.bool (by rw [decide_eq_true (eq_of_take hab (by omega) hg)]))
theorem sameTerm_c  : ∀ (m : Nat) (t u : Term), t.sz = m → t.fit 9223372036854775807 → AFn X 18 [encT t, encT u] (.bool (decide (t = u))) := by
 intro m
 induction m using Nat.strongRecOn with
 | _ m ih =>
 intro t u hm hf
 refine Zf Tryz.func18 ?_
 refine Yb (Ya ?_)
 refine Z9 (fun b2 => ?_)
 refine Z9 (fun b3 => ?_)
 refine Z2 ?_
 refine Yc (Yb (Ya ?_))
 refine Z6 ?_
 refine Z16 ?_
 refine Z6 ?_
 refine Z11 ?_
 refine Z40 ?_
 refine Z1 ?_
 refine Zs 10 (fun h10 => ?_) (fun h10 => ?_)
 try simp only [sz] at h10
 refine Z18 ?_
 refine Z27 ?_
 refine Z18 ?_
 refine Z30 ?_
 refine Z47 ?_
 refine Z15 ?_
 refine Z1 ?_
 refine Zs 17 (fun h17 => ?_) (fun h17 => ?_)
 try simp only [sz] at h17
 refine Z18 ?_
 refine Z27 ?_
 refine Z18 ?_
 refine Z30 ?_
 refine Z47 ?_
 refine Z15 ?_
 refine Z1 ?_
 refine Zs 24 (fun h24 => ?_) (fun h24 => ?_)
 try simp only [sz] at h24
 refine Z18 ?_
 refine Z27 ?_
 refine Z18 ?_
 refine Z30 ?_
 refine AOps.eT rfl rfl rfl rfl rfl rfl (Yk (sameLevels_c _ _ hf.llen (fun l hl => hf.plen hl)) (Yn rfl) ?_)
 refine Z15 ?_
 refine Z1 ?_
 refine Zs 31 (fun h31 => ?_) (fun h31 => ?_)
 try simp only [sz] at h31
 refine Z18 ?_
 refine Z27 ?_
 refine Z18 ?_
 refine Z30 ?_
 refine AOps.eT rfl rfl rfl rfl rfl rfl (Yk (sameTerms_c _ _ hf.len (fun k hk u => ih k.sz (by rw [← hm]; exact Term.sz_lt hk) k u rfl (hf.kid hk))) (Yn rfl) ?_)
 refine Z15 ?_
 refine Z2 ?_
 refine Yc (Yd ?_)
 refine Yh rfl (.cons rfl .nil) ?_
 exact D.Le.eq (congrArg D.bool (by rw [Bool.eq_iff_iff]; simp only [decide_eq_true_eq, decide_eq_false_iff_not, Bool.false_eq_true, false_iff, true_iff]; first | exact ⟨fun e => Term.ext' (by assumption) (by assumption) (by assumption) (by assumption) e, fun e => by rw [e]⟩ | (intro e; subst e; simp_all)))
 try simp only [sz] at h31
 refine Z4 ?_
 refine Z4 ?_
 refine Z4 ?_
 refine Z4 ?_
 refine Z4 ?_
 refine Z13 ?_
 refine Z2 ?_
 refine Yc (Yd ?_)
 refine Yh rfl (.cons rfl .nil) ?_
 exact D.Le.eq (congrArg D.bool (by rw [Bool.eq_iff_iff]; simp only [decide_eq_true_eq, decide_eq_false_iff_not, Bool.false_eq_true, false_iff, true_iff]; first | exact ⟨fun e => Term.ext' (by assumption) (by assumption) (by assumption) (by assumption) e, fun e => by rw [e]⟩ | (intro e; subst e; simp_all)))
 try simp only [sz] at h24
 refine Z4 ?_
 refine Z4 ?_
 refine Z4 ?_
 refine Z4 ?_
 refine Z4 ?_
 refine Z13 ?_
 refine Z1 ?_
 refine Z4 ?_
 refine Z4 ?_
 refine Z4 ?_
 refine Z4 ?_
 refine Z4 ?_
 refine Z13 ?_
 refine Z2 ?_
 refine Yc (Yd ?_)
 refine Yh rfl (.cons rfl .nil) ?_
 exact D.Le.eq (congrArg D.bool (by rw [Bool.eq_iff_iff]; simp only [decide_eq_true_eq, decide_eq_false_iff_not, Bool.false_eq_true, false_iff, true_iff]; first | exact ⟨fun e => Term.ext' (by assumption) (by assumption) (by assumption) (by assumption) e, fun e => by rw [e]⟩ | (intro e; subst e; simp_all)))
 try simp only [sz] at h17
 refine Z4 ?_
 refine Z4 ?_
 refine Z4 ?_
 refine Z4 ?_
 refine Z4 ?_
 refine Z13 ?_
 refine Z1 ?_
 refine Z4 ?_
 refine Z4 ?_
 refine Z4 ?_
 refine Z4 ?_
 refine Z4 ?_
 refine Z13 ?_
 refine Z1 ?_
 refine Z4 ?_
 refine Z4 ?_
 refine Z4 ?_
 refine Z4 ?_
 refine Z4 ?_
 refine Z13 ?_
 refine Z2 ?_
 refine Yc (Yd ?_)
 refine Yh rfl (.cons rfl .nil) ?_
 exact D.Le.eq (congrArg D.bool (by rw [Bool.eq_iff_iff]; simp only [decide_eq_true_eq, decide_eq_false_iff_not, Bool.false_eq_true, false_iff, true_iff]; first | exact ⟨fun e => Term.ext' (by assumption) (by assumption) (by assumption) (by assumption) e, fun e => by rw [e]⟩ | (intro e; subst e; simp_all)))
 try simp only [sz] at h10
 refine Z4 ?_
 refine Z4 ?_
 refine Z4 ?_
 refine Z4 ?_
 refine Z4 ?_
 refine Z13 ?_
 refine Z1 ?_
 refine Z4 ?_
 refine Z4 ?_
 refine Z4 ?_
 refine Z4 ?_
 refine Z4 ?_
 refine Z13 ?_
 refine Z1 ?_
 refine Z4 ?_
 refine Z4 ?_
 refine Z4 ?_
 refine Z4 ?_
 refine Z4 ?_
 refine Z13 ?_
 refine Z1 ?_
 refine Z4 ?_
 refine Z4 ?_
 refine Z4 ?_
 refine Z4 ?_
 refine Z4 ?_
 refine Z13 ?_
 refine Z2 ?_
 refine Yc (Yd ?_)
 refine Yh rfl (.cons rfl .nil) ?_
 exact D.Le.eq (congrArg D.bool (by rw [Bool.eq_iff_iff]; simp only [decide_eq_true_eq, decide_eq_false_iff_not, Bool.false_eq_true, false_iff, true_iff]; first | exact ⟨fun e => Term.ext' (by assumption) (by assumption) (by assumption) (by assumption) e, fun e => by rw [e]⟩ | (intro e; subst e; simp_all)))
end Sp

/- The walks of terms: walking, lifting, putting. Written by a program of mine. -/
set_option linter.unusedVariables false
set_option linter.unusedSimpArgs false
set_option maxRecDepth 20000
namespace Sp
open Go Go.Proofs
theorem means_c (b num : Int) : AFn X 53 [.agg [.int .i64 b], .int .i64 num] (.tup [.int .i64 (w64 (num - b)), .bool (decide (b ≤ num))]) := by
 refine Zf Tryz.func53 ?_
 refine Yb (Ya ?_)
 refine Z9 (fun b2 => ?_)
 refine Z2 ?_
 refine Z2 ?_
 refine Yc (Yb ?_)
 refine Yj [.p 0, .p 1, .l 2, .p 3, .p 4, .p 5, .l 6, .p 7, .p 8, .p 9] mixed (by kernel_rfl) ?_
 refine Z5 ?_
 refine Z8 ?_
 refine Z50 ?_
 refine Yt rfl rfl rfl rfl (fun L0 => (AVal.sub rfl rfl)) ?_
 refine Z5 ?_
 refine Z8 ?_
 refine Z50 ?_
 refine Yt rfl rfl rfl rfl (fun L0 => (AVal.geq rfl rfl)) ?_
 refine Z17 ?_
 refine Z17 ?_
 refine ASeq.nil (Yd ?_)
 refine Yh rfl (.cons rfl (.cons rfl .nil)) ?_
 exact D.Le.refl _
theorem below_c (b k i : Int) (f : D) (hf : f.one = true) (h0 : 0 ≤ b) (h1 : b ≤ 4611686018427387904) : AFn X 102 [.agg [.int .i64 b, f], .int .i64 k, .int .i64 i] (.agg [.int .i64 (bif binds k i then b + 1 else b), f]) := by
 refine Zf Tryz.func102 ?_
 refine Yb (Ya ?_)
 refine Z9 (fun b3 => ?_)
 refine Z7 (fun b6 => ?_)
 refine Yc (Yb (Yb (Ya ?_)))
 refine Z1 ?_
 refine Z1 ?_
 refine AOps.e rfl rfl rfl (Yk (binds_c _ _) (Yn rfl) ?_)
 refine Yc ?_
 refine Zc (fun h9 => ?_) (fun h9 => ?_)
 refine Ya ?_
 refine Z6 ?_
 refine Z6 ?_
 refine Z16 ?_
 refine Z19 ?_
 refine Z6 ?_
 refine Z6 ?_
 refine Z10 ?_
 refine Yc (Yb (Ya ?_))
 refine Z16 ?_
 refine Z3 ?_
 refine Yc (Yd ?_)
 refine Yh rfl (.cons (Yi 0 rfl rfl rfl rfl) .nil) ?_
 exact D.Le.eq (by rw [h9]; rfl)
 refine Ye (Yb (Ya ?_))
 refine Z16 ?_
 refine Z3 ?_
 refine Yc (Yd ?_)
 refine Yh rfl (.cons (Yi 0 rfl rfl rfl rfl) .nil) ?_
 exact D.Le.eq (by rw [h9]; rfl)
theorem walk_c {f : FuncId} {caps : List D} {L0 : Loc} {gg : Int → Term → Term} {dn : Int → Term → Bool} (H : ∀ b t, 0 ≤ b → b ≤ 4611686018427387904 → t.fit 1099511627776 → AKeep X f ([.agg [.int .i64 b, .func (.func f) [] caps], encT t] ++ caps) L0 (.tup [encT (gg b t), .bool (dn b t)])) (hk : ∀ b t, 0 ≤ b → dn b t = false → (gg b t).kids = t.kids) : ∀ (m : Nat) (t : Term), t.sz = m → t.fit 1099511627776 → ∀ b : Int, 0 ≤ b → b + m ≤ 4611686018427387904 → AKeep X 55 [.agg [.int .i64 b, .func (.func f) [] caps], encT t] L0 (encT (walkM gg dn b t)) := by
 intro m
 induction m using Nat.strongRecOn with
 | _ m ih =>
 intro t hm hf b hb0 hb1
 have hbb : b ≤ 4611686018427387904 := by omega
 refine Zf Tryz.func55 ?_
 refine Yb (Ya ?_)
 refine Z9 (fun b2 => ?_)
 refine Z9 (fun b3 => ?_)
 refine Z7 (fun b4 => ?_)
 refine Yc (Yb (Ya ?_))
 refine Z6 ?_
 refine Z35 ?_
 refine Z35 ?_
 refine Z23 ?_
 refine AOps.e rfl rfl rfl (AOp.callVK [_, _, _] rfl (H b t hb0 hbb hf) (Yn rfl) rfl ?_)
 refine Z1 ?_
 refine Z12 ?_
 refine Z12 ?_
 refine Z7 (fun b5 => ?_)
 refine Z3 ?_
 refine Z2 ?_
 refine Yc (Yb (Yb (Ya ?_)))
 refine Z1 ?_
 refine Yc ?_
 refine Zc (fun h18 => ?_) (fun h18 => ?_)
 refine Yb (Ya ?_)
 refine Z20 ?_
 refine Z10 ?_
 refine Yc (Yd ?_)
 refine Yr rfl (.cons (Yi (d := encT _) 1 rfl rfl rfl rfl) .nil) (by repeat first | exact X0 _ | apply X1 | apply X2) ?_
 exact D.Le.eq (encT_eq (by rw [walkM_eq, h18]; rfl))
 refine Ye (Yb (Ya ?_))
 refine Z6 ?_
 refine Z11 ?_
 refine Z2 ?_
 refine Yc (Yb (Ya ?_))
 refine Z6 ?_
 refine Z3 ?_
 refine Yc (Yb (Yb (Ya ?_)))
 refine Z1 ?_
 refine Z24 ?_
 refine Z1 ?_
 refine Yc (Yf ?_)
 have hkk : (gg b t).kids = t.kids := hk b t hb0 h18
 have hlen : (gg b t).kids.length ≤ 1099511627776 := by rw [hkk]; exact hf.len
 refine Yu (γ := Nat × Nat × Nat) (fun g => [(2, .ptr b2 0), (3, .ptr b3 0), (4, .ptr b4 0), (5, .ptr b5 0), (23, .slT (gg b t).kids), (24, .int .i64 (gg b t).kids.length), (25, .int .i64 g.1)]) (fun g => (growL 27 5 g.1 g.2.1 g.2.2 ((walkMs gg dn b t.kind 0 ((gg b t).kids.take g.1)).map encT)) ++ ((b5, .cells 27 [.int .i64 (gg b t).kind, .int .i64 (gg b t).num, .int .i64 (gg b t).at_, .slL (gg b t).levels, (growD g.1 g.2.1 g.2.2 ((walkMs gg dn b t.kind 0 ((gg b t).kids.take g.1)).map encT))]) :: (b4, .cells 27 [.int .i64 0, .int .i64 0, .int .i64 0, .emp, .emp]) :: (b3, .cells 27 (cellsT t)) :: (b2, .cells 92 [.int .i64 b, .func (.func f) [] caps]) :: L0)) (fun g => g.1 ≤ (gg b t).kids.length) (fun g => (gg b t).kids.length - g.1) (0, 0, 0) (Nat.zero_le _) (by repeat first | exact Ym | refine Yl (.refl _) ?_) (List.Sublist.refl _) ?_
 rintro ⟨i, bb, cap⟩ hi t1
 simp only at hi ⊢
 rcases i with _ | i
 simp only [growL, growD, List.nil_append]
 refine Yb (Ya ?_)
 refine Z26 ?_
 refine Yc (Yb ?_)
 refine Zc (fun h26 => ?_) (fun h26 => ?_)
 try simp only [sz] at h26
 have hlt : (0 : Nat) < (gg b t).kids.length := by omega
 have hmem : (gg b t).kids.getD (0) default ∈ t.kids := by rw [hkk] at hlt ⊢; exact getD_mem hlt
 refine Ye (Yb (Yf (Yb (Ya ?_))))
 refine Z1 ?_
 refine Z53 ?_
 refine Z41 ?_
 refine Z7 (fun b9 => ?_)
 refine Z2 ?_
 refine Z3 ?_
 refine Yc ?_
 refine Yj [.p 0, .l 1, .l 2, .p 3, .l 4, .p 5, .p 6, .l 7, .e 8 [1], .p 9, .e 10 [], .p 11, .e 12 []] mixed (by kernel_rfl) ?_
 refine Z8 ?_
 refine Z36 ?_
 refine ASeq.lv rfl rfl rfl rfl (Yv 4 rfl rfl (by constructor)) ?_
 refine Z8 ?_
 refine Z43 ?_
 refine Z5 ?_
 refine ASeq.pe rfl rfl rfl rfl (fun L0 => (Yk (below_c b t.kind (0 : Nat) (.func (.func f) [] caps) rfl hb0 hbb) (Yn rfl) ⟨rfl, rfl⟩)) ?_
 refine Z31 ?_
 refine ASeq.ee rfl rfl rfl rfl rfl (AOp.callK [_, _, _, _, _] (ih ((gg b t).kids.getD (0) default).sz (by rw [← hm]; exact Term.sz_lt hmem) _ rfl (hf.kid hmem) (bif binds t.kind (0 : Nat) then b + 1 else b) (by cases binds t.kind (0 : Nat) <;> simp only [cond_true, cond_false] <;> omega) (by have := Term.sz_lt hmem; cases binds t.kind (0 : Nat) <;> simp only [cond_true, cond_false] <;> omega)) (Yn rfl) rfl ⟨(Keeps.cons (Yv 1 rfl rfl (.refl _)) Yo), ?_⟩)
 refine Z57 ?_
 refine ASeq.ee rfl rfl rfl rfl rfl (AOp.app1New rfl rfl rfl rfl rfl rfl rfl rfl (fun b40 cap' => ⟨Yo, ?_⟩))
 refine Z8 ?_
 refine Z46 ?_
 refine ASeq.nil (Ya ?_)
 refine Z19 ?_
 refine Z1 ?_
 refine Yc ?_
 refine ⟨(0 + 1, b40, cap'), by simp only; omega, by simp only; omega, rfl, (by repeat first | exact Ym | refine Yl (.refl _) ?_), ?_⟩
 simp only [growL, growD, List.cons_append, List.nil_append, walkMs_take_succ gg dn b t.kind hlt, List.map_append, List.map_cons, List.map_nil]
 exact (by repeat first | exact X0 _ | apply X1 | apply X2 | exact X3 _)
 try simp only [sz] at h26
 refine Yg (Yb (Ya ?_))
 refine Z11 ?_
 refine Z10 ?_
 refine Yc (Yd ?_)
 refine Yr rfl (.cons (Yi 1 rfl rfl rfl rfl) .nil) (by repeat first | exact X0 _ | apply X1 | apply X2) ?_
 exact leT' (.slL _) .emp (by rw [walkM_eq, h18, cond_false, ← hkk, List.eq_nil_of_length_eq_zero (by omega : (gg b t).kids.length = 0)]; rfl)
 simp only [growL, growD, List.cons_append, List.nil_append]
 refine Yb (Ya ?_)
 refine Z26 ?_
 refine Yc (Yb ?_)
 refine Zc (fun h26 => ?_) (fun h26 => ?_)
 try simp only [sz] at h26
 have hlt : (i + 1 : Nat) < (gg b t).kids.length := by omega
 have hmem : (gg b t).kids.getD (i + 1) default ∈ t.kids := by rw [hkk] at hlt ⊢; exact getD_mem hlt
 refine Ye (Yb (Yf (Yb (Ya ?_))))
 refine Z1 ?_
 refine Z53 ?_
 refine Z41 ?_
 refine Z7 (fun b9 => ?_)
 refine Z2 ?_
 refine Z3 ?_
 refine Yc ?_
 refine Yj [.p 0, .l 1, .l 2, .p 3, .l 4, .p 5, .p 6, .l 7, .e 8 [1], .p 9, .e 10 [], .p 11, .e 12 []] mixed (by kernel_rfl) ?_
 refine Z8 ?_
 refine Z45 ?_
 refine ASeq.lv rfl rfl rfl rfl (Yv 5 rfl rfl (by constructor)) ?_
 refine Z8 ?_
 refine ASeq.lv rfl rfl rfl rfl (Yv 4 rfl rfl (by constructor)) ?_
 refine Z5 ?_
 refine ASeq.pe rfl rfl rfl rfl (fun L0 => (Yk (below_c b t.kind (i + 1 : Nat) (.func (.func f) [] caps) rfl hb0 hbb) (Yn rfl) ⟨rfl, rfl⟩)) ?_
 refine Z31 ?_
 refine ASeq.ee rfl rfl rfl rfl rfl (AOp.callK [_, _, _, _, _, _] (ih ((gg b t).kids.getD (i + 1) default).sz (by rw [← hm]; exact Term.sz_lt hmem) _ rfl (hf.kid hmem) (bif binds t.kind (i + 1 : Nat) then b + 1 else b) (by cases binds t.kind (i + 1 : Nat) <;> simp only [cond_true, cond_false] <;> omega) (by have := Term.sz_lt hmem; cases binds t.kind (i + 1 : Nat) <;> simp only [cond_true, cond_false] <;> omega)) (Yn rfl) rfl ⟨(Keeps.cons (Yv 2 rfl rfl (.refl _)) Yo), ?_⟩)
 refine Z57 ?_
 refine ASeq.ee rfl rfl rfl rfl rfl (AOp.app1Own 1 rfl rfl rfl rfl rfl rfl rfl rfl rfl (by simp only [List.length_map, walkMs_length, List.length_take]; omega) rfl (by repeat constructor) (fun b40 cap' => ⟨Yo, ?_⟩))
 refine Z8 ?_
 refine Z46 ?_
 refine ASeq.nil (Ya ?_)
 refine Z19 ?_
 refine Z1 ?_
 refine Yc ?_
 refine ⟨(i + 1 + 1, b40, cap'), by simp only; omega, by simp only; omega, rfl, (by repeat first | exact Ym | refine Yl (.refl _) ?_), ?_⟩
 simp only [growL, growD, List.cons_append, List.nil_append, walkMs_take_succ gg dn b t.kind hlt, List.map_append, List.map_cons, List.map_nil]
 exact (by repeat first | exact X0 _ | apply X1 | apply X2 | exact X3 _)
 try simp only [sz] at h26
 refine Yg (Yb (Ya ?_))
 refine Z16 ?_
 refine Z34 ?_
 refine Yc (Yd ?_)
 refine Yr rfl (.cons (Yi 2 rfl rfl rfl rfl) .nil) (by repeat first | exact X0 _ | apply X1 | apply X2) ?_
 exact leT' (.slL _) (.own _ _ _) (by rw [walkM_eq, h18, cond_false, ← hkk, List.take_of_length_le (by omega)])
theorem cloneP_c (ps : List Part) (hl : ps.length ≤ 1099511627776) : AFn X 101 [.slP ps] (.slP ps) := by
 refine Zf Tryz.func101 ?_
 refine Yb (Ya ?_)
 refine Z2 ?_
 refine Yc (Yb (Yb (Ya ?_)))
 refine Z1 ?_
 refine AOps.e rfl rfl rfl (AOp.eqNil rfl rfl rfl rfl (fun c hc => ?_))
 refine Yc ?_
 refine Zc (fun h4 => ?_) (fun h4 => ?_)
 refine Yb (Ya ?_)
 refine Z2 ?_
 refine Yc (Yd ?_)
 refine Yh rfl (.cons rfl .nil) ?_
 exact .emp _ (congrArg some (hc h4))
 refine Ye (Yb (Ya ?_))
 refine AOps.e rfl rfl rfl (AOp.buildEmpty rfl rfl ?_)
 refine Z1 ?_
 refine AOps.e rfl rfl rfl (AOp.appendEmp (d := .slP ps) rfl rfl rfl rfl rfl rfl (fun e he => by obtain ⟨p, _, rfl⟩ := List.mem_map.1 he; rfl) (by simpa using hl) rfl ?_)
 refine Z2 ?_
 refine Yc (Yd ?_)
 refine Yh rfl (.cons rfl .nil) ?_
 exact .refl _
theorem cloneL_c (ls : List Level) (hl : ls.length ≤ 1099511627776) : ACalls X 100 [.slL ls] [] (fun r L' => (ls = [] ∧ r = .ret .emp ∧ L' = []) ∨ ∃ b k, r = .ret (.sl b 0 ls.length) ∧ L' = [(b, .cells 56 (flatL ls k))]) := by
 refine Zf Tryz.func100 ?_
 refine Yb (Ya ?_)
 refine Z2 ?_
 refine Yc (Yb (Yb (Ya ?_)))
 refine Z1 ?_
 refine AOps.e rfl rfl rfl (AOp.eqNil rfl rfl rfl rfl (fun c hc => ?_))
 refine Yc ?_
 refine Zc (fun h4 => ?_) (fun h4 => ?_)
 refine Yb (Ya ?_)
 refine Z2 ?_
 refine Yc (Yd ?_)
 exact ⟨rfl, _, .emp, [], .cons rfl .nil, Conv.drop (List.nil_sublist _) (.refl _), .inl ⟨by simpa using hc h4, rfl, rfl⟩⟩
 refine Ye (Yb (Ya ?_))
 refine AOps.e rfl rfl rfl (AOp.buildEmpty rfl rfl ?_)
 refine Z1 ?_
 refine AOps.e rfl rfl rfl (AOp.cloneL (ls := ls) rfl rfl rfl rfl rfl rfl rfl hl (fun h0 => ?_) (fun b7 k7 h1 => ?_))
 refine Z2 ?_
 refine Yc (Yd ?_)
 exact ⟨rfl, _, .emp, [], .cons rfl .nil, Conv.drop (List.nil_sublist _) (.refl _), .inl ⟨h0, rfl, rfl⟩⟩
 refine Z2 ?_
 refine Yc (Yd ?_)
 exact ⟨rfl, _, _, _, .cons rfl .nil, Conv.drop (List.Sublist.refl _) (.refl _), .inr ⟨b7, k7, rfl, rfl⟩⟩
theorem callCloneL {ρ : Operand → D} {L : Loc} {dst : Option Tmp} {ty : TypeId} {pos : String} {after : Array Edge} {guard : Option (Nat × Bool)} {K Kp : D → Loc → Prop} {x : Operand} {tys : Array TypeId} (ls : List Level) (hl : ls.length ≤ 1099511627776) (hx : ρ x = .slL ls)
    (h0 : ls = [] → K .emp L) (h1 : ∀ b k, K (.sl b 0 ls.length) ((b, .cells 56 (flatL ls k)) :: L)) : AOp X ⟨dst, .call ⟨.value (.func 100), #[x], tys⟩, ty, pos, after, guard⟩ ρ L K Kp :=
  AOp.call (L0 := []) (L1 := L) (cloneL_c ls hl) (Yn (by simp [hx])) (List.Perm.refl _) (fun d L' h => by
    rcases h with ⟨e, h, rfl⟩ | ⟨b, k, h, rfl⟩
    · cases h; exact h0 e
    · cases h; exact h1 b k) (fun d L' h => by
    rcases h with ⟨e, h, rfl⟩ | ⟨b, k, h, rfl⟩ <;> cases h)
theorem own_c (t : Term) (hf : t.fit 1099511627776) : AFn X 54 [encT t] (encT t) := by
 refine Zf Tryz.func54 ?_
 refine Yb (Ya ?_)
 refine Z9 (fun b1 => ?_)
 refine Z7 (fun b2 => ?_)
 refine Yc (Yb (Ya ?_))
 refine Z6 ?_
 refine Z16 ?_
 refine AOps.e rfl rfl rfl (callCloneL t.levels hf.llen rfl (fun hls => ?_) (fun b6 k6 => ?_))
 refine Z6 ?_
 refine Z10 ?_
 refine Yc (Yb (Yb (Ya ?_)))
 refine Z6 ?_
 refine Z16 ?_
 refine Z24 ?_
 refine Z1 ?_
 refine Yc (Yf ?_)
 refine Yu (γ := Unit) (fun g => [(1, .ptr b1 0), (2, .ptr b2 0), (10, .int .i64 0), (11, .int .i64 0)]) (fun g => [(b2, .cells 27 [.int .i64 0, .int .i64 0, .int .i64 0, .emp, .emp]), (b1, .cells 27 [.int .i64 t.kind, .int .i64 t.num, .int .i64 t.at_, .emp, .slT t.kids])]) (fun g => True) (fun g => 0) () trivial (by repeat first | exact Ym | refine Yl (.refl _) ?_) (by repeat first | exact X0 _ | apply X1 | apply X2 | exact X3 _) ?_
 rintro _ _ t1
 refine Yb (Ya ?_)
 refine Z26 ?_
 refine Yc (Yb ?_)
 refine Zc (fun h12 => ?_) (fun h12 => ?_)
 try simp only [sz] at h12
 exact absurd h12 (by simp) --END
 try simp only [sz] at h12
 refine Yg (Yb (Ya ?_))
 refine Z16 ?_
 refine Z3 ?_
 refine Yc (Yd ?_)
 refine Yh rfl (.cons (Yi 0 rfl rfl rfl rfl) .nil) ?_
 exact leT' .emp (.slT _) (by rw [← hls]; exact (Term.eta t).symm)
 refine Z6 ?_
 refine Z34 ?_
 refine Yc (Yb (Yb (Ya ?_)))
 refine Z6 ?_
 refine Z35 ?_
 refine Z24 ?_
 refine Z1 ?_
 refine Yc (Yf ?_)
 refine Yu (γ := Nat) (fun g => [(1, .ptr b1 0), (2, .ptr b2 0), (10, .int .i64 t.levels.length), (11, .int .i64 g)]) (fun g => [(b6, .cells 56 (flatL t.levels k6)), (b2, .cells 27 [.int .i64 0, .int .i64 0, .int .i64 0, .emp, .emp]), (b1, .cells 27 [.int .i64 t.kind, .int .i64 t.num, .int .i64 t.at_, .sl b6 0 t.levels.length, .slT t.kids])]) (fun g => g ≤ t.levels.length) (fun g => t.levels.length - g) 0 (Nat.zero_le _) (by repeat first | exact Ym | refine Yl (.refl _) ?_) (by repeat first | exact X0 _ | apply X1 | apply X2 | exact X3 _) ?_
 intro i hi t1
 have hlen := hf.llen
 refine Yb (Ya ?_)
 refine Z26 ?_
 refine Yc (Yb ?_)
 refine Zc (fun h12 => ?_) (fun h12 => ?_)
 try simp only [sz] at h12
 have hlt : i < t.levels.length := by omega
 refine Ye (Yb (Yf (Yb (Ya ?_))))
 refine Z1 ?_
 refine Z2 ?_
 refine Yc ?_
 refine Yj [.p 0, .l 1, .p 2, .p 3, .l 4, .p 5, .p 6, .p 7, .l 8, .p 9, .p 10, .p 11, .e 12 []] mixed (by kernel_rfl) ?_
 refine Z8 ?_
 refine Z45 ?_
 refine Z5 ?_
 refine Z8 ?_
 refine Z45 ?_
 refine Z5 ?_
 refine Yt rfl rfl rfl rfl (fun L0 => (AVal.indexSN (p := i) rfl rfl rfl rfl ⟨by omega, by omega⟩ (by simp))) ?_
 refine Z8 ?_
 refine ASeq.lv rfl rfl rfl rfl (flatL_has 0 rfl hlt rfl) ?_
 refine ASeq.pe rfl rfl rfl rfl (fun L0 => (Yk (cloneP_c _ (hf.plen (getD_mem hlt))) (Yn rfl) ⟨rfl, rfl⟩)) ?_
 refine Yt rfl rfl rfl rfl (fun L0 => (AVal.indexSN (p := i) rfl rfl rfl rfl ⟨by omega, by omega⟩ (by simp))) ?_
 refine Z8 ?_
 refine ASeq.ee0 rfl rfl rfl rfl (AOp.storeSame 0 rfl rfl rfl (by constructor) rfl rfl (by rw [flatL_len]; simp only []; omega) (flatL_set hlt) ⟨Yo, ?_⟩)
 refine ASeq.nil (Ya ?_)
 refine Z19 ?_
 refine Z1 ?_
 refine Yc ?_
 refine ⟨i + 1, by omega, by omega, rfl, (by repeat first | exact Ym | refine Yl (.refl _) ?_), (by repeat first | exact X0 _ | apply X1 | apply X2 | exact X3 _)⟩
 try simp only [sz] at h12
 refine Yg (Yb (Ya ?_))
 refine Z35 ?_
 refine Z10 ?_
 refine Yc (Yd ?_)
 refine AFin.conv rfl (.cons (Yi 1 rfl rfl rfl rfl) .nil) ?_
 exact (congrArg (fun u => Conv _ _ [] (encT u)) (Term.eta t)).mp (Conv.levels 0 rfl (.slT _))
theorem lift1_c (n from_ b : Int) (t : Term) (F : D) (hF : F.one = true) (b5 b4 : Nat) (R : Loc) (hb0 : 0 ≤ b) (hb1 : b ≤ 4611686018427387904) (hf : t.fit 1099511627776) : AKeep X 52 [.agg [.int .i64 b, F], encT t, .ptr b5 0, .ptr b4 0] ((b5, .cells 3 [.int .i64 from_]) :: (b4, .cells 3 [.int .i64 n]) :: R) (.tup [encT (liftG n from_ b t), .bool (no b t)]) := by
 have hr := hf.nr
 refine Zf Tryz.func52 ?_
 refine Yb (Ya ?_)
 refine Z9 (fun b4 => ?_)
 refine Z9 (fun b5 => ?_)
 refine Z7 (fun b6 => ?_)
 refine Z2 ?_
 refine Yc (Yb (Yb (Ya ?_)))
 refine Z6 ?_
 refine Z35 ?_
 refine Z6 ?_
 refine Z16 ?_
 refine AOps.e rfl rfl rfl (Yk (means_c _ _) (Yn rfl) ?_)
 refine Z1 ?_
 refine Z12 ?_
 refine Z12 ?_
 refine Z2 ?_
 refine Z2 ?_
 refine Yc (Yb (Ya ?_))
 refine Z6 ?_
 refine Z16 ?_
 refine Z40 ?_
 refine Z1 ?_
 refine Zs 21 (fun h21 => ?_) (fun h21 => ?_)
 try simp only [sz] at h21
 refine Z14 ?_
 refine Z15 ?_
 refine Z1 ?_
 refine Zs 24 (fun h24 => ?_) (fun h24 => ?_)
 try simp only [sz] at h24
 refine Z14 ?_
 refine Yp rfl rfl rfl rfl rfl rfl (AVal.loadPN 3 rfl rfl rfl rfl (by constructor)) ?_
 refine Yp rfl rfl rfl rfl rfl rfl (AVal.geq rfl rfl) ?_
 refine Z15 ?_
 refine Yc ?_
 refine Zc (fun h28 => ?_) (fun h28 => ?_)
 try simp only [sz] at h28
 refine Ya ?_
 refine Z6 ?_
 refine Z16 ?_
 refine Z83 ?_
 refine Z63 ?_
 refine Z6 ?_
 refine Z10 ?_
 refine Yc (Yb (Ya ?_))
 refine Z16 ?_
 refine AOps.e rfl rfl rfl (Yk (own_c (.mk t.kind (w64 (t.num + n)) t.at_ t.levels t.kids) (hf.renum (w64_range _))) (Yn rfl) ?_)
 refine Z3 ?_
 refine Z2 ?_
 refine Yc (Yd ?_)
 refine Yr rfl (.cons (Yi (d := encT _) 0 rfl rfl rfl rfl) (.cons rfl .nil)) (by repeat first | exact X0 _ | apply X1 | apply X2) ?_
 exact D.Le.eq (by rw [liftG, if_pos ⟨h21, h24, by rw [w64_id (by omega) (by omega)] at h28; exact h28⟩]; rfl)
 try simp only [sz] at h28
 refine Ye (Yb (Ya ?_))
 refine Z23 ?_
 refine AOps.e rfl rfl rfl (Yk (own_c t hf) (Yn rfl) ?_)
 refine Z3 ?_
 refine Z2 ?_
 refine Yc (Yd ?_)
 refine Yr rfl (.cons (Yi (d := encT _) 0 rfl rfl rfl rfl) (.cons rfl .nil)) (by repeat first | exact X0 _ | apply X1 | apply X2) ?_
 exact D.Le.eq (by rw [liftG, if_neg (fun e => h28 (by rw [w64_id (by omega) (by omega)]; exact e.2.2))]; rfl)
 try simp only [sz] at h24
 refine Z4 ?_
 refine Z4 ?_
 refine Z4 ?_
 refine Z13 ?_
 refine Yc (ACode.condF rfl (Ye (Yb (Ya ?_))))
 refine Z23 ?_
 refine AOps.e rfl rfl rfl (Yk (own_c t hf) (Yn rfl) ?_)
 refine Z3 ?_
 refine Z2 ?_
 refine Yc (Yd ?_)
 refine Yr rfl (.cons (Yi (d := encT _) 0 rfl rfl rfl rfl) (.cons rfl .nil)) (by repeat first | exact X0 _ | apply X1 | apply X2) ?_
 exact D.Le.eq (by rw [liftG, if_neg (fun e => h24 e.2.1)]; rfl)
 try simp only [sz] at h21
 refine Z4 ?_
 refine Z13 ?_
 refine Z1 ?_
 refine Z4 ?_
 refine Z4 ?_
 refine Z4 ?_
 refine Z13 ?_
 refine Yc (ACode.condF rfl (Ye (Yb (Ya ?_))))
 refine Z23 ?_
 refine AOps.e rfl rfl rfl (Yk (own_c t hf) (Yn rfl) ?_)
 refine Z3 ?_
 refine Z2 ?_
 refine Yc (Yd ?_)
 refine Yr rfl (.cons (Yi (d := encT _) 0 rfl rfl rfl rfl) (.cons rfl .nil)) (by repeat first | exact X0 _ | apply X1 | apply X2) ?_
 exact D.Le.eq (by rw [liftG, if_neg (fun e => h21 e.1)]; rfl)
theorem lift_c (t : Term) (n from_ : Int) (hf : t.fit 1099511627776) (hs : t.sz ≤ 4611686018427387904) : AFn X 17 [encT t, .int .i64 n, .int .i64 from_] (encT (lift t n from_)) := by
 refine Zf Tryz.func17 ?_
 refine Yb (Ya ?_)
 refine Z9 (fun b3 => ?_)
 refine Z71 (fun b4 => ?_)
 refine Z71 (fun b5 => ?_)
 refine Z7 (fun b6 => ?_)
 refine Yc (Yb (Ya ?_))
 refine Z54 ?_
 refine Z52 ?_
 refine AOps.v rfl rfl rfl (AVal.loadP (d := encT _) 3 rfl rfl rfl rfl) ?_
 refine AOps.e rfl rfl rfl (AOp.callK [_] (walk_c (gg := liftG n from_) (dn := no) (fun b u h0 h1 hu => lift1_c n from_ b u _ rfl b5 b4 _ h0 h1 hu) (fun b u _ _ => by unfold liftG; split <;> rfl) _ t rfl hf 0 (by omega) (by omega)) (Yn rfl) rfl ?_)
 refine Z3 ?_
 refine Yc (Yd ?_)
 refine Yh rfl (.cons (Yi (d := encT _) 0 rfl rfl rfl rfl) .nil) ?_
 exact .refl _
theorem put1_c (by_ : List Term) (b : Int) (t : Term) (F : D) (hF : F.one = true) (b3 : Nat) (R : Loc) (hb0 : 0 ≤ b) (hb1 : b ≤ 4611686018427387904) (hf : t.fit 1099511627776) (hbl : by_.length ≤ 1099511627776) (hby : ∀ u ∈ by_, u.fit 1099511627776 ∧ u.sz ≤ 4611686018427387904) : AKeep X 177 [.agg [.int .i64 b, F], encT t, .ptr b3 0] ((b3, .cells 25 [.slT by_]) :: R) (.tup [encT (putG by_ b t), .bool (putHit by_ b t)]) := by
 have hr := hf.nr
 refine Zf Tryz.func177 ?_
 refine Yb (Ya ?_)
 refine Z9 (fun b3 => ?_)
 refine Z9 (fun b4 => ?_)
 refine Z7 (fun b5 => ?_)
 refine Z2 ?_
 refine Yc (Yb (Ya ?_))
 refine Z6 ?_
 refine Z35 ?_
 refine Z6 ?_
 refine Z16 ?_
 refine AOps.e rfl rfl rfl (Yk (means_c _ _) (Yn rfl) ?_)
 refine Z1 ?_
 refine Z12 ?_
 refine Z12 ?_
 refine Z2 ?_
 refine Z2 ?_
 refine Yc (Yb (Yf (Yb (Ya ?_))))
 refine Z6 ?_
 refine Z16 ?_
 refine Z60 ?_
 refine Z1 ?_
 refine Zs 27 (fun h27 => ?_) (fun h27 => ?_)
 try simp only [sz] at h27
 refine Z4 ?_
 refine Z4 ?_
 refine Z15 ?_
 refine Z2 ?_
 refine Yc (ACode.condT rfl (Ye (Yb (Ya ?_))))
 refine Z23 ?_
 refine AOps.e rfl rfl rfl (Yk (own_c t hf) (Yn rfl) ?_)
 refine Z3 ?_
 refine Z2 ?_
 refine Yc (Yd ?_)
 refine Yr rfl (.cons (Yi (d := encT _) 0 rfl rfl rfl rfl) (.cons rfl .nil)) (by repeat first | exact X0 _ | apply X1 | apply X2) ?_
 exact D.Le.eq (by have hh : putHit by_ b t = false := by { simp [putHit, h27] }; rw [putG, hh, if_neg (by simp), if_neg (fun e => h27 e.1)]; rfl)
 try simp only [sz] at h27
 refine Z14 ?_
 refine Z69 ?_
 refine Z13 ?_
 refine Z2 ?_
 refine Yc ?_
 refine Zc (fun h23 => ?_) (fun h23 => ?_)
 try simp only [sz] at h23
 refine Ye (Yb (Ya ?_))
 refine Z23 ?_
 refine AOps.e rfl rfl rfl (Yk (own_c t hf) (Yn rfl) ?_)
 refine Z3 ?_
 refine Z2 ?_
 refine Yc (Yd ?_)
 refine Yr rfl (.cons (Yi (d := encT _) 0 rfl rfl rfl rfl) (.cons rfl .nil)) (by repeat first | exact X0 _ | apply X1 | apply X2) ?_
 exact D.Le.eq (by have hh : putHit by_ b t = false := by { simp [putHit]; intros; omega }; rw [putG, hh, if_neg (by simp), if_neg (fun e => by omega)]; rfl)
 try simp only [sz] at h23
 have hk : w64 (t.num - b) = t.num - b := w64_id (by omega) (by omega)
 refine Yb (Ya ?_)
 refine Z1 ?_
 refine Z66 ?_
 refine Z24 ?_
 refine Z26 ?_
 refine Z2 ?_
 refine Yc ?_
 refine Zc (fun h31 => ?_) (fun h31 => ?_)
 try simp only [sz] at h31
 have hmem : by_.getD ((by_.length : Int) - 1 - w64 (t.num - b)).toNat default ∈ by_ := getD_mem (by rw [hk] at h31 ⊢; omega)
 refine Yb ?_
 refine Yj [.l 0, .l 1, .p 2, .p 3, .p 4, .p 5, .p 6, .p 7, .p 8, .p 9, .l 10, .p 11, .e 12 [], .p 13] mixed (by kernel_rfl) ?_
 refine Z43 ?_
 refine Z43 ?_
 refine Yt rfl rfl rfl rfl (fun L0 => (AVal.len rfl rfl rfl)) ?_
 refine Yt rfl rfl rfl rfl (fun L0 => (AVal.subn rfl rfl (by omega))) ?_
 refine Z5 ?_
 refine Yt rfl rfl rfl rfl (fun L0 => (AVal.subn rfl rfl (by rw [hk]; omega))) ?_
 refine Yt rfl rfl rfl rfl (fun L0 => (AVal.indexTN rfl rfl rfl rfl rfl (by rw [hk]; omega))) ?_
 refine Z21 ?_
 refine Z8 ?_
 refine Z8 ?_
 refine Z45 ?_
 refine ASeq.pe rfl rfl rfl rfl (fun L0 => (Yk (lift_c _ b 0 (hby _ hmem).1 (hby _ hmem).2) (Yn rfl) ⟨rfl, rfl⟩)) ?_
 refine Z25 ?_
 refine Z17 ?_
 refine ASeq.nil (Yd ?_)
 refine Yr rfl (.cons (Yi (d := encT _) 0 rfl rfl rfl rfl) (.cons rfl .nil)) (by repeat first | exact X0 _ | apply X1 | apply X2) ?_
 exact D.Le.eq (by have hh : putHit by_ b t = true := by { rw [hk] at h31; simp [putHit]; omega }; rw [putG, hh, if_pos rfl, hk]; rfl)
 try simp only [sz] at h31
 refine Ya ?_
 refine Z6 ?_
 refine Z16 ?_
 refine Z66 ?_
 refine Z24 ?_
 refine Z92 ?_
 refine Z6 ?_
 refine Z10 ?_
 refine Yc (Yb (Ya ?_))
 refine Z16 ?_
 refine AOps.e rfl rfl rfl (Yk (own_c (.mk t.kind (t.num - by_.length) t.at_ t.levels t.kids) (hf.renum ⟨by omega, by omega⟩)) (Yn rfl) ?_)
 refine Z3 ?_
 refine Z2 ?_
 refine Yc (Yd ?_)
 refine Yr rfl (.cons (Yi (d := encT _) 0 rfl rfl rfl rfl) (.cons rfl .nil)) (by repeat first | exact X0 _ | apply X1 | apply X2) ?_
 exact D.Le.eq (by have hh : putHit by_ b t = false := by { rw [hk] at h31; simp [putHit]; intros; omega }; rw [putG, hh, if_neg (by simp), if_pos ⟨by omega, by omega⟩]; rfl)
theorem put_c (t : Term) (by_ : List Term) (hf : t.fit 1099511627776) (hs : t.sz ≤ 4611686018427387904) (hbl : by_.length ≤ 1099511627776) (hby : ∀ u ∈ by_, u.fit 1099511627776 ∧ u.sz ≤ 4611686018427387904) : AFn X 153 [encT t, .slT by_] (encT (put t by_)) := by
 refine Zf Tryz.func153 ?_
 refine Yb (Ya ?_)
 refine Z9 (fun b2 => ?_)
 refine Z71 (fun b3 => ?_)
 refine Z7 (fun b4 => ?_)
 refine Yc (Yb (Ya ?_))
 refine Z54 ?_
 refine Z52 ?_
 refine Z39 ?_
 refine AOps.e rfl rfl rfl (AOp.callK [_] (walk_c (gg := putG by_) (dn := putHit by_) (fun b u h0 h1 hu => put1_c by_ b u _ rfl b3 _ h0 h1 hu hbl hby) (fun b u _ hd => by unfold putG; rw [hd, if_neg (by simp)]; split <;> rfl) _ t rfl hf 0 (by omega) (by omega)) (Yn rfl) rfl ?_)
 refine Z3 ?_
 refine Yc (Yd ?_)
 refine Yh rfl (.cons (Yi (d := encT _) 0 rfl rfl rfl rfl) .nil) ?_
 exact .refl _
end Sp

/- The walks of head: spots, sizes, the steps that burn fuel. Written by a program of mine. -/
set_option linter.unusedVariables false
set_option linter.unusedSimpArgs false
set_option maxRecDepth 20000
namespace Sp
open Go Go.Proofs
theorem kid_c (t : Term) (k : Int) : AFn X 189 [encT t, .int .i64 k] (encT (kid t k)) := by
 refine Zf Tryz.func189 ?_
 refine Yb (Ya ?_)
 refine Z9 (fun b2 => ?_)
 refine Z7 (fun b4 => ?_)
 refine Yc (Yb (Yb (Ya ?_)))
 refine Z1 ?_
 refine Z26 ?_
 refine Z1 ?_
 refine Zs 7 (fun h7 => ?_) (fun h7 => ?_)
 try simp only [sz] at h7
 refine Z4 ?_
 refine Z4 ?_
 refine Z4 ?_
 refine Z4 ?_
 refine Z4 ?_
 refine Z15 ?_
 refine Yc (ACode.condT rfl (Yb (Ya ?_)))
 refine Z48 ?_
 refine Z3 ?_
 refine Yc (Yd ?_)
 refine Yh rfl (.cons (Yi (d := encT _) 0 rfl rfl rfl rfl) .nil) ?_
 exact D.Le.eq (encT_eq (by unfold kid; rw [if_pos (by omega)]; rfl))
 try simp only [sz] at h7
 refine Z14 ?_
 refine Z18 ?_
 refine Z27 ?_
 refine Z64 ?_
 refine Yp rfl rfl rfl rfl rfl rfl (AVal.geq rfl rfl) ?_
 refine Z13 ?_
 refine Yc ?_
 refine Zc (fun h13 => ?_) (fun h13 => ?_)
 try simp only [sz] at h13
 refine Yb (Ya ?_)
 refine Z48 ?_
 refine Z3 ?_
 refine Yc (Yd ?_)
 refine Yh rfl (.cons (Yi (d := encT _) 0 rfl rfl rfl rfl) .nil) ?_
 exact D.Le.eq (encT_eq (by unfold kid; rw [if_pos (by omega)]; rfl))
 try simp only [sz] at h13
 refine Ye (Yb (Ya ?_))
 refine Z6 ?_
 refine Z16 ?_
 refine Z1 ?_
 refine AOps.v rfl rfl rfl (AVal.indexTN rfl rfl rfl rfl rfl (by omega)) ?_
 refine Z41 ?_
 refine Z3 ?_
 refine Yc (Yd ?_)
 refine Yh rfl (.cons (Yi (d := encT _) 0 rfl rfl rfl rfl) .nil) ?_
 exact D.Le.eq (encT_eq (by unfold kid; rw [if_neg (by omega)]))
theorem of_c (k : Int) (ts : List Term) : AFn X 209 [.int .i64 k, .slT ts] (encT (.mk k 0 0 [] ts)) := by
 refine Zf Tryz.func209 ?_
 refine Yb (Ya ?_)
 refine Z7 (fun b4 => ?_)
 refine Yc (Yb (Ya ?_))
 refine Z1 ?_
 refine Z1 ?_
 refine Z48 ?_
 refine Z3 ?_
 refine Yc (Yd ?_)
 refine Yh rfl (.cons (Yi (d := encT _) 0 rfl rfl rfl rfl) .nil) ?_
 exact D.Le.refl _
theorem spot_c (t : Term) (hl : t.kids.length ≤ 1099511627776) : AFn X 187 [encT t] (.tup [.int .i64 (spotM t).1, .int .i64 (spotM t).2.1, .bool (spotM t).2.2]) := by
 refine Zf Tryz.func187 ?_
 refine Yb (Ya ?_)
 refine Z9 (fun b1 => ?_)
 refine Z2 ?_
 refine Z2 ?_
 refine Z2 ?_
 refine Yc (Yb (Yb (Ya ?_)))
 refine Z6 ?_
 refine Z11 ?_
 refine Yc (Yf (Yb (Ya ?_)))
 refine Z40 ?_
 refine Z2 ?_
 refine Yc ?_
 refine Zc (fun h7 => ?_) (fun h7 => ?_)
 try simp only [sz] at h7
 refine Yb (Ya ?_)
 refine Z2 ?_
 refine Z2 ?_
 refine Z2 ?_
 refine Yc (Yd ?_)
 refine Yh rfl (.cons rfl (.cons rfl (.cons rfl .nil))) ?_
 exact D.Le.eq (by simp only [spotM, h7, if_true]; rfl)
 try simp only [sz] at h7
 refine Yb (Yb (Ya ?_))
 refine Z40 ?_
 refine Z2 ?_
 refine Yc ?_
 refine Zc (fun h9 => ?_) (fun h9 => ?_)
 try simp only [sz] at h9
 refine Ye (ACode.condT rfl (Yb (Ya ?_)))
 refine Z2 ?_
 refine Z2 ?_
 refine Z2 ?_
 refine Yc (Yd ?_)
 refine Yh rfl (.cons rfl (.cons rfl (.cons rfl .nil))) ?_
 exact D.Le.eq (by rw [show spotM t = (0, 1, true) by simp [spotM, h9]]; rfl)
 try simp only [sz] at h9
 refine Ya ?_
 refine Z40 ?_
 refine Z2 ?_
 refine Yc ?_
 refine Zc (fun h9 => ?_) (fun h9 => ?_)
 try simp only [sz] at h9
 refine Yb (Ya ?_)
 refine Z2 ?_
 refine Z2 ?_
 refine Z2 ?_
 refine Yc (Yd ?_)
 refine Yh rfl (.cons rfl (.cons rfl (.cons rfl .nil))) ?_
 exact D.Le.eq (by rw [show spotM t = (0, 1, true) by simp [spotM, h9]]; rfl)
 try simp only [sz] at h9
 refine Yb (Ya ?_)
 refine Z40 ?_
 refine Z2 ?_
 refine Yc ?_
 refine Zc (fun h12 => ?_) (fun h12 => ?_)
 try simp only [sz] at h12
 refine Yb (Ya ?_)
 refine Z2 ?_
 refine Z2 ?_
 refine Z2 ?_
 refine Yc (Yd ?_)
 refine Yh rfl (.cons rfl (.cons rfl (.cons rfl .nil))) ?_
 exact D.Le.eq (by rw [show spotM t = (4, 5, true) by simp [spotM, h12]]; rfl)
 try simp only [sz] at h12
 refine Yb (Ya ?_)
 refine Z40 ?_
 refine Z2 ?_
 refine Yc ?_
 refine Zc (fun h14 => ?_) (fun h14 => ?_)
 try simp only [sz] at h14
 refine Yb (Ya ?_)
 refine Z2 ?_
 refine Z2 ?_
 refine Z2 ?_
 refine Yc (Yd ?_)
 refine Yh rfl (.cons rfl (.cons rfl (.cons rfl .nil))) ?_
 exact D.Le.eq (by rw [show spotM t = (5, 6, true) by simp [spotM, h14]]; rfl)
 try simp only [sz] at h14
 refine Yb (Ya ?_)
 refine Z40 ?_
 refine Z2 ?_
 refine Yc ?_
 refine Zc (fun h16 => ?_) (fun h16 => ?_)
 try simp only [sz] at h16
 refine Yb ?_
 refine Yj [.p 0, .l 1, .p 2, .p 3, .l 4, .p 5, .p 6, .l 7, .p 8, .p 9, .p 10, .l 11, .p 12, .p 13, .p 14, .l 15, .p 16, .p 17, .p 18, .p 19, .p 20] mixed (by kernel_rfl) ?_
 refine Z8 ?_
 refine Z50 ?_
 refine Yt rfl rfl rfl rfl (fun L0 => (AVal.add rfl rfl)) ?_
 refine Z8 ?_
 refine Z50 ?_
 refine Yt rfl rfl rfl rfl (fun L0 => (AVal.add rfl rfl)) ?_
 refine Z8 ?_
 refine Z50 ?_
 refine Yt rfl rfl rfl rfl (fun L0 => (AVal.geq rfl rfl)) ?_
 refine Z5 ?_
 refine ASeq.split 27 rfl (fun h27 => ?_) (fun h27 => ?_)
 try simp only [sz] at h27
 refine ASeq.pvT rfl rfl rfl rfl rfl rfl rfl (fun L0 => (AVal.fieldP rfl rfl)) ?_
 refine ASeq.lvT rfl rfl rfl rfl rfl rfl rfl (Yv 0 rfl rfl (by constructor)) ?_
 refine ASeq.pvT rfl rfl rfl rfl rfl rfl rfl (fun L0 => (AVal.len rfl rfl rfl)) ?_
 refine ASeq.pvT rfl rfl rfl rfl rfl rfl rfl (fun L0 => (AVal.subn rfl rfl (by omega))) ?_
 refine ASeq.pvT rfl rfl rfl rfl rfl rfl rfl (fun L0 => (AVal.fieldP rfl rfl)) ?_
 refine ASeq.lvT rfl rfl rfl rfl rfl rfl rfl (Yv 0 rfl rfl (by constructor)) ?_
 refine ASeq.pvT rfl rfl rfl rfl rfl rfl rfl (fun L0 => (AVal.eql rfl rfl)) ?_
 refine Yt rfl rfl rfl rfl (fun L0 => (AVal.pickT rfl (by constructor))) ?_
 refine Z17 ?_
 refine Z17 ?_
 refine Z17 ?_
 refine ASeq.nil (Yd ?_)
 refine Yh rfl (.cons rfl (.cons rfl (.cons rfl .nil))) ?_
 exact D.Le.eq (by rw [show spotM t = (w64 (t.at_ + 1), w64 (t.at_ + 2), decide ((t.kids.length : Int) - 2 = t.at_)) by simp [spotM, h16, h27]]; rfl)
 try simp only [sz] at h27
 refine ASeq.pvF rfl rfl rfl rfl rfl rfl rfl rfl ?_
 refine ASeq.lvF rfl rfl rfl rfl rfl rfl (Yv (o := 0) (i := ⟨1, false, [], 0⟩) 0 rfl rfl (.refl _)) ?_
 refine ASeq.pvF rfl rfl rfl rfl rfl rfl rfl rfl ?_
 refine ASeq.pvF rfl rfl rfl rfl rfl rfl rfl rfl ?_
 refine ASeq.pvF rfl rfl rfl rfl rfl rfl rfl rfl ?_
 refine ASeq.lvF rfl rfl rfl rfl rfl rfl (Yv (o := 0) (i := ⟨1, false, [], 0⟩) 0 rfl rfl (.refl _)) ?_
 refine ASeq.pvF rfl rfl rfl rfl rfl rfl rfl rfl ?_
 refine Yt rfl rfl rfl rfl (fun L0 => (AVal.pickF rfl (by constructor))) ?_
 refine Z17 ?_
 refine Z17 ?_
 refine Z17 ?_
 refine ASeq.nil (Yd ?_)
 refine Yh rfl (.cons rfl (.cons rfl (.cons rfl .nil))) ?_
 exact D.Le.eq (by rw [show spotM t = (w64 (t.at_ + 1), w64 (t.at_ + 2), false) by simp [spotM, h16]; intros; omega]; rfl)
 try simp only [sz] at h16
 refine Ye (Yb (Ya ?_))
 refine Z2 ?_
 refine Z2 ?_
 refine Z2 ?_
 refine Yc (Yd ?_)
 refine Yh rfl (.cons rfl (.cons rfl (.cons rfl .nil))) ?_
 exact D.Le.eq (by rw [show spotM t = (0, 0, false) by simp [spotM, *]]; rfl)
theorem with_c (t x : Term) (at_ many : Int) (hm : many ≤ 1099511627776) : AFn X 188 [encT t, encT x, .int .i64 at_, .int .i64 many] (encT (withM t x at_ many)) := by
 refine Zf Tryz.func188 ?_
 refine Yb (Ya ?_)
 refine Z9 (fun b4 => ?_)
 refine Z9 (fun b5 => ?_)
 refine Z7 (fun b8 => ?_)
 refine Yc (Yb (Ya ?_))
 refine Z6 ?_
 refine Z35 ?_
 refine Z6 ?_
 refine Z35 ?_
 refine Z6 ?_
 refine Z35 ?_
 refine Z6 ?_
 refine Z35 ?_
 refine Z52 ?_
 refine Z7 (fun b9 => ?_)
 refine Z3 ?_
 refine Yc (Yb (Yb (Ya ?_)))
 refine Z1 ?_
 refine Z1 ?_
 refine Yc (Yf ?_)
 refine Yu (γ := Nat × Nat × Nat) (fun g => [(2, .int .i64 at_), (4, .ptr b4 0), (5, .ptr b5 0), (8, .ptr b8 0), (9, .ptr b9 0), (20, .int .i64 many), (21, .int .i64 g.1)]) (fun g => growL 27 5 g.1 g.2.1 g.2.2 ((withKids t x at_ g.1).map encT) ++ [(b9, .cells 27 [.int .i64 t.kind, .int .i64 t.num, .int .i64 t.at_, .slL t.levels, (growD g.1 g.2.1 g.2.2 ((withKids t x at_ g.1).map encT))]), (b8, .cells 27 [.int .i64 0, .int .i64 0, .int .i64 0, .emp, .emp]), (b5, .cells 27 (cellsT x)), (b4, .cells 27 (cellsT t))]) (fun g => g.1 ≤ many.toNat) (fun g => many.toNat - g.1) (0, 0, 0) (Nat.zero_le _) (by repeat first | exact Ym | refine Yl (.refl _) ?_) (List.Sublist.refl _) ?_
 rintro ⟨i, bb, cap⟩ hi t1
 simp only at hi ⊢
 rcases i with _ | i
 simp only [growL, growD, List.nil_append]
 refine Yb (Ya ?_)
 refine Z26 ?_
 refine Yc (Yb ?_)
 refine Zc (fun h22 => ?_) (fun h22 => ?_)
 try simp only [sz] at h22
 refine Ye (Yb (Yf (Yb (Ya ?_))))
 refine Z1 ?_
 refine Z2 ?_
 refine Yc (Yb (Yb (Ya ?_)))
 refine Z1 ?_
 refine Z1 ?_
 refine Z40 ?_
 refine Yc ?_
 refine Zc (fun h26 => ?_) (fun h26 => ?_)
 try simp only [sz] at h26
 have h26 : ((0 : Nat) : Int) = at_ := by simpa using h26
 refine Yb (Ya ?_)
 refine Z6 ?_
 refine Z11 ?_
 refine Z39 ?_
 refine Z62 ?_
 refine AOps.e rfl rfl rfl (AOp.app1New rfl rfl rfl rfl rfl rfl rfl rfl (fun bq cap' => ?_))
 refine Z6 ?_
 refine Z10 ?_
 refine Yc (Yg (Ya ?_))
 refine Z19 ?_
 refine Z1 ?_
 refine Yc ?_
 refine ⟨(0 + 1, bq, cap'), by simp only; omega, by simp only; omega, rfl, (by repeat first | exact Ym | refine Yl (.refl _) ?_), ?_⟩
 simp only [growL, growD, List.cons_append, List.nil_append, withKids_succ t x at_ (0), if_pos h26, List.map_append, List.map_cons, List.map_nil]
 exact (by repeat first | exact X0 _ | apply X1 | apply X2 | exact X3 _)
 try simp only [sz] at h26
 have h26 : ¬ ((0 : Nat) : Int) = at_ := by simpa using h26
 refine Ye ?_
 refine Yj [.p 0, .l 1, .l 2, .p 3, .p 4, .p 5, .e 6 [], .p 7, .e 8 []] mixed (by kernel_rfl) ?_
 refine Z8 ?_
 refine Z50 ?_
 refine Z76 ?_
 refine Z5 ?_
 refine ASeq.pe rfl rfl rfl rfl (fun L0 => (Yk (kid_c t (0 : Nat)) (Yn rfl) ⟨rfl, rfl⟩)) ?_
 refine Z57 ?_
 refine ASeq.ee rfl rfl rfl rfl rfl (AOp.app1New rfl rfl rfl rfl rfl rfl rfl rfl (fun bq cap' => ⟨Yo, ?_⟩))
 refine Z8 ?_
 refine Z42 ?_
 refine ASeq.nil (Ya ?_)
 refine Z19 ?_
 refine Z1 ?_
 refine Yc ?_
 refine ⟨(0 + 1, bq, cap'), by simp only; omega, by simp only; omega, rfl, (by repeat first | exact Ym | refine Yl (.refl _) ?_), ?_⟩
 simp only [growL, growD, List.cons_append, List.nil_append, withKids_succ t x at_ (0), if_neg h26, List.map_append, List.map_cons, List.map_nil]
 exact (by repeat first | exact X0 _ | apply X1 | apply X2 | exact X3 _)
 try simp only [sz] at h22
 refine Yg (Yb (Ya ?_))
 refine Z11 ?_
 refine Z10 ?_
 refine Yc (Yd ?_)
 refine Yh rfl (.cons (Yi 1 rfl rfl rfl rfl) .nil) ?_
 exact leT' (.slL _) .emp (by unfold withM; rw [show many.toNat = 0 by omega]; rfl)
 simp only [growL, growD, List.cons_append, List.nil_append]
 refine Yb (Ya ?_)
 refine Z26 ?_
 refine Yc (Yb ?_)
 refine Zc (fun h22 => ?_) (fun h22 => ?_)
 try simp only [sz] at h22
 refine Ye (Yb (Yf (Yb (Ya ?_))))
 refine Z1 ?_
 refine Z2 ?_
 refine Yc (Yb (Yb (Ya ?_)))
 refine Z1 ?_
 refine Z1 ?_
 refine Z40 ?_
 refine Yc ?_
 refine Zc (fun h26 => ?_) (fun h26 => ?_)
 try simp only [sz] at h26
 have h26 : ((i + 1 : Nat) : Int) = at_ := by simpa using h26
 refine Yb (Ya ?_)
 refine Z6 ?_
 refine Z16 ?_
 refine AOps.v rfl rfl rfl (AVal.loadP (d := encT _) 3 rfl rfl rfl rfl) ?_
 refine Z62 ?_
 refine AOps.e rfl rfl rfl (AOp.app1Own 0 rfl rfl rfl rfl rfl rfl rfl rfl rfl (by simp only [List.length_map, withKids, List.length_range]; omega) rfl (by repeat constructor) (fun bq cap' => ?_))
 refine Z6 ?_
 refine Z10 ?_
 refine Yc (Yg (Ya ?_))
 refine Z19 ?_
 refine Z1 ?_
 refine Yc ?_
 refine ⟨(i + 1 + 1, bq, cap'), by simp only; omega, by simp only; omega, rfl, (by repeat first | exact Ym | refine Yl (.refl _) ?_), ?_⟩
 simp only [growL, growD, List.cons_append, List.nil_append, withKids_succ t x at_ (i + 1), if_pos h26, List.map_append, List.map_cons, List.map_nil]
 exact (by repeat first | exact X0 _ | apply X1 | apply X2 | exact X3 _)
 try simp only [sz] at h26
 have h26 : ¬ ((i + 1 : Nat) : Int) = at_ := by simpa using h26
 refine Ye ?_
 refine Yj [.p 0, .l 1, .l 2, .p 3, .p 4, .p 5, .e 6 [], .p 7, .e 8 []] mixed (by kernel_rfl) ?_
 refine Z8 ?_
 refine Z36 ?_
 refine ASeq.lv rfl rfl rfl rfl (Yv (d := encT _) 4 rfl rfl (.refl _)) ?_
 refine Z5 ?_
 refine ASeq.pe rfl rfl rfl rfl (fun L0 => (Yk (kid_c t (i + 1 : Nat)) (Yn rfl) ⟨rfl, rfl⟩)) ?_
 refine Z57 ?_
 refine ASeq.ee rfl rfl rfl rfl rfl (AOp.app1Own 0 rfl rfl rfl rfl rfl rfl rfl rfl rfl (by simp only [List.length_map, withKids, List.length_range]; omega) rfl (by repeat constructor) (fun bq cap' => ⟨Yo, ?_⟩))
 refine Z8 ?_
 refine Z42 ?_
 refine ASeq.nil (Ya ?_)
 refine Z19 ?_
 refine Z1 ?_
 refine Yc ?_
 refine ⟨(i + 1 + 1, bq, cap'), by simp only; omega, by simp only; omega, rfl, (by repeat first | exact Ym | refine Yl (.refl _) ?_), ?_⟩
 simp only [growL, growD, List.cons_append, List.nil_append, withKids_succ t x at_ (i + 1), if_neg h26, List.map_append, List.map_cons, List.map_nil]
 exact (by repeat first | exact X0 _ | apply X1 | apply X2 | exact X3 _)
 try simp only [sz] at h22
 refine Yg (Yb (Ya ?_))
 refine Z16 ?_
 refine Z34 ?_
 refine Yc (Yd ?_)
 refine Yh rfl (.cons (Yi 2 rfl rfl rfl rfl) .nil) ?_
 exact leT' (.slL _) (.own _ _ _) (by unfold withM; rw [show many.toNat = i + 1 by omega])
theorem sizes_c (ts : List Term) (hl : ts.length ≤ 9223372036854775807) (h : ∀ k ∈ ts, k.fit 9223372036854775807) : AFn X 206 [.slT ts] (.int .i64 (w64 (Term.szs ts))) := by
 refine Zf Tryz.func206 ?_
 refine Yb (Ya ?_)
 refine Z2 ?_
 refine Yc (Yb (Ya ?_))
 refine Z2 ?_
 refine Yc (Yb (Yb (Ya ?_)))
 refine Z1 ?_
 refine Z24 ?_
 refine Z1 ?_
 refine Yc (Yf ?_)
 refine Yu (γ := Nat) (fun g => [(6, .slT ts), (7, .int .i64 ts.length), (8, .int .i64 g), (3, .int .i64 (w64 (Term.szs (ts.take g))))]) (fun g => []) (fun g => g ≤ ts.length) (fun g => ts.length - g) 0 (Nat.zero_le _) (by repeat first | exact Ym | refine Yl (.refl _) ?_) (by repeat first | exact X0 _ | apply X1 | apply X2 | exact X3 _) ?_
 intro i hi t1
 refine Yb (Ya ?_)
 refine Z26 ?_
 refine Yc (Yb ?_)
 refine Zc (fun h9 => ?_) (fun h9 => ?_)
 try simp only [sz] at h9
 have hlt : i < ts.length := by omega
 refine Ye (Yb (Yf (Yb (Ya ?_))))
 refine Z53 ?_
 refine Z41 ?_
 refine Z7 (fun b5 => ?_)
 refine Z3 ?_
 refine Yc (Ya ?_)
 refine Z1 ?_
 refine Z20 ?_
 refine AOps.e rfl rfl rfl (Yk (size_c _ (ts.getD i default) rfl (h _ (getD_mem hlt))) (Yn rfl) ?_)
 refine Z63 ?_
 refine Z2 ?_
 refine Yc (Ya ?_)
 refine Z19 ?_
 refine Z1 ?_
 refine Yc ?_
 refine ⟨i + 1, by omega, by omega, rfl, (by refine Yl (.refl _) (Yl (.refl _) (Yl (.refl _) (Yl (D.Le.eq (congrArg (D.int .i64) ((w64_add _ _).trans (congrArg w64 ?_)))) Ym))); rw [Term.szs_take_succ hlt]; omega), (by repeat first | exact X0 _ | apply X1 | apply X2 | exact X3 _)⟩
 try simp only [sz] at h9
 refine Yg (Yb (Ya ?_))
 refine Z1 ?_
 refine Z2 ?_
 refine Yc (Yd ?_)
 refine Yh rfl (.cons rfl .nil) ?_
 exact D.Le.eq (congrArg (D.int .i64) (by rw [List.take_of_length_le (by omega)]))
theorem sized_c  : ∀ (m : Nat) (t : Term), t.sz = m → t.fit 9223372036854775807 → ∀ (many below : Int), (-9223372036854775808 ≤ many ∧ many ≤ 9223372036854775807) → 0 ≤ below → below + m ≤ 4611686018427387904 → AFn X 217 [encT t, .int .i64 many, .int .i64 below] (.int .i64 (w64 (sizedM many below t))) := by
 intro m
 induction m using Nat.strongRecOn with
 | _ m ih =>
 intro t hm hf many below hmr hb0 hb1
 have hlen := hf.len
 have hpos := Term.sz_pos t
 refine Zf Tryz.func217 ?_
 refine Yb (Ya ?_)
 refine Z9 (fun b3 => ?_)
 refine Z2 ?_
 refine Yc (Yb (Yb (Ya ?_)))
 refine Z6 ?_
 refine Z11 ?_
 refine Z40 ?_
 refine Z1 ?_
 refine Zs 13 (fun h13 => ?_) (fun h13 => ?_)
 try simp only [sz] at h13
 refine Z18 ?_
 refine Z30 ?_
 refine Z14 ?_
 refine Z47 ?_
 refine Z15 ?_
 refine Yc ?_
 refine Zc (fun h18 => ?_) (fun h18 => ?_)
 try simp only [sz] at h18
 refine Yb (Ya ?_)
 refine Z1 ?_
 refine Z2 ?_
 refine Yc (Yd ?_)
 refine Yh rfl (.cons rfl .nil) ?_
 exact D.Le.eq (congrArg (D.int .i64) (by rw [sizedM_eq, if_pos ⟨h13, h18⟩, w64_id hmr.1 hmr.2]))
 try simp only [sz] at h18
 refine Ye (Yb (Ya ?_))
 refine Z2 ?_
 refine Yc (Yb (Yb (Ya ?_)))
 refine Z6 ?_
 refine Z11 ?_
 refine Z24 ?_
 refine Z1 ?_
 refine Yc (Yf ?_)
 refine Yu (γ := Nat) (fun g => [(1, .int .i64 many), (2, .int .i64 below), (3, .ptr b3 0), (21, .slT t.kids), (22, .int .i64 t.kids.length), (23, .int .i64 g), (7, .int .i64 (w64 (1 + sizedsM many below t.kind 0 (t.kids.take g))))]) (fun g => [(b3, .cells 27 (cellsT t))]) (fun g => g ≤ t.kids.length) (fun g => t.kids.length - g) 0 (Nat.zero_le _) (by repeat first | exact Ym | refine Yl (.refl _) ?_) (by repeat first | exact X0 _ | apply X1 | apply X2 | exact X3 _) ?_
 intro i hi t1
 refine Yb (Ya ?_)
 refine Z26 ?_
 refine Yc (Yb ?_)
 refine Zc (fun h24 => ?_) (fun h24 => ?_)
 try simp only [sz] at h24
 have hlt : i < t.kids.length := by omega
 have hmem : t.kids.getD i default ∈ t.kids := getD_mem hlt
 refine Ye (Yb (Yf (Yb (Ya ?_))))
 refine Z1 ?_
 refine Z53 ?_
 refine Z41 ?_
 refine Z7 (fun b9 => ?_)
 refine Z2 ?_
 refine Z3 ?_
 refine Yc (Yb (Ya ?_))
 refine Z6 ?_
 refine Z16 ?_
 refine Z1 ?_
 refine AOps.e rfl rfl rfl (Yk (binds_c t.kind i) (Yn rfl) ?_)
 refine Yc ?_
 refine Zc (fun h31 => ?_) (fun h31 => ?_)
 refine Ya ?_
 refine Z1 ?_
 refine Z20 ?_
 refine Z1 ?_
 refine Z1 ?_
 refine Z19 ?_
 refine AOps.e rfl rfl rfl (Yk (ih (t.kids.getD i default).sz (by rw [← hm]; exact Term.sz_lt hmem) _ rfl (hf.kid hmem) many (below + 1) hmr (by omega) (by have := Term.sz_lt hmem; omega)) (Yn rfl) ?_)
 refine Z63 ?_
 refine Z2 ?_
 refine Yc (Ya ?_)
 refine Z19 ?_
 refine Z1 ?_
 refine Yc ?_
 refine ⟨i + 1, by omega, by omega, rfl, (by refine Yl (.refl _) (Yl (.refl _) (Yl (.refl _) (Yl (.refl _) (Yl (.refl _) (Yl (.refl _) (Yl (D.Le.eq (congrArg (D.int .i64) ((w64_add _ _).trans (congrArg w64 ?_)))) Ym)))))); rw [sizedsM_take_succ _ _ _ hlt, h31]; simp only [cond_true, cond_false]; omega), (by repeat first | exact X0 _ | apply X1 | apply X2 | exact X3 _)⟩
 refine Ya ?_
 refine Z1 ?_
 refine Z20 ?_
 refine Z1 ?_
 refine Z1 ?_
 refine AOps.e rfl rfl rfl (Yk (ih (t.kids.getD i default).sz (by rw [← hm]; exact Term.sz_lt hmem) _ rfl (hf.kid hmem) many below hmr (by omega) (by have := Term.sz_lt hmem; omega)) (Yn rfl) ?_)
 refine Z63 ?_
 refine Z2 ?_
 refine Yc (Ya ?_)
 refine Z19 ?_
 refine Z1 ?_
 refine Yc ?_
 refine ⟨i + 1, by omega, by omega, rfl, (by refine Yl (.refl _) (Yl (.refl _) (Yl (.refl _) (Yl (.refl _) (Yl (.refl _) (Yl (.refl _) (Yl (D.Le.eq (congrArg (D.int .i64) ((w64_add _ _).trans (congrArg w64 ?_)))) Ym)))))); rw [sizedsM_take_succ _ _ _ hlt, h31]; simp only [cond_true, cond_false]; omega), (by repeat first | exact X0 _ | apply X1 | apply X2 | exact X3 _)⟩
 try simp only [sz] at h24
 refine Yg (Yb (Ya ?_))
 refine Z1 ?_
 refine Z2 ?_
 refine Yc (Yd ?_)
 refine Yh rfl (.cons rfl .nil) ?_
 exact D.Le.eq (congrArg (D.int .i64) (by rw [sizedM_eq, if_neg (fun e => h18 e.2), List.take_of_length_le (by omega)]))
 try simp only [sz] at h13
 refine Z4 ?_
 refine Z4 ?_
 refine Z4 ?_
 refine Z4 ?_
 refine Z13 ?_
 refine Yc (ACode.condF rfl (Ye (Yb (Ya ?_))))
 refine Z2 ?_
 refine Yc (Yb (Yb (Ya ?_)))
 refine Z6 ?_
 refine Z11 ?_
 refine Z24 ?_
 refine Z1 ?_
 refine Yc (Yf ?_)
 refine Yu (γ := Nat) (fun g => [(1, .int .i64 many), (2, .int .i64 below), (3, .ptr b3 0), (21, .slT t.kids), (22, .int .i64 t.kids.length), (23, .int .i64 g), (7, .int .i64 (w64 (1 + sizedsM many below t.kind 0 (t.kids.take g))))]) (fun g => [(b3, .cells 27 (cellsT t))]) (fun g => g ≤ t.kids.length) (fun g => t.kids.length - g) 0 (Nat.zero_le _) (by repeat first | exact Ym | refine Yl (.refl _) ?_) (by repeat first | exact X0 _ | apply X1 | apply X2 | exact X3 _) ?_
 intro i hi t1
 refine Yb (Ya ?_)
 refine Z26 ?_
 refine Yc (Yb ?_)
 refine Zc (fun h24 => ?_) (fun h24 => ?_)
 try simp only [sz] at h24
 have hlt : i < t.kids.length := by omega
 have hmem : t.kids.getD i default ∈ t.kids := getD_mem hlt
 refine Ye (Yb (Yf (Yb (Ya ?_))))
 refine Z1 ?_
 refine Z53 ?_
 refine Z41 ?_
 refine Z7 (fun b9 => ?_)
 refine Z2 ?_
 refine Z3 ?_
 refine Yc (Yb (Ya ?_))
 refine Z6 ?_
 refine Z16 ?_
 refine Z1 ?_
 refine AOps.e rfl rfl rfl (Yk (binds_c t.kind i) (Yn rfl) ?_)
 refine Yc ?_
 refine Zc (fun h31 => ?_) (fun h31 => ?_)
 refine Ya ?_
 refine Z1 ?_
 refine Z20 ?_
 refine Z1 ?_
 refine Z1 ?_
 refine Z19 ?_
 refine AOps.e rfl rfl rfl (Yk (ih (t.kids.getD i default).sz (by rw [← hm]; exact Term.sz_lt hmem) _ rfl (hf.kid hmem) many (below + 1) hmr (by omega) (by have := Term.sz_lt hmem; omega)) (Yn rfl) ?_)
 refine Z63 ?_
 refine Z2 ?_
 refine Yc (Ya ?_)
 refine Z19 ?_
 refine Z1 ?_
 refine Yc ?_
 refine ⟨i + 1, by omega, by omega, rfl, (by refine Yl (.refl _) (Yl (.refl _) (Yl (.refl _) (Yl (.refl _) (Yl (.refl _) (Yl (.refl _) (Yl (D.Le.eq (congrArg (D.int .i64) ((w64_add _ _).trans (congrArg w64 ?_)))) Ym)))))); rw [sizedsM_take_succ _ _ _ hlt, h31]; simp only [cond_true, cond_false]; omega), (by repeat first | exact X0 _ | apply X1 | apply X2 | exact X3 _)⟩
 refine Ya ?_
 refine Z1 ?_
 refine Z20 ?_
 refine Z1 ?_
 refine Z1 ?_
 refine AOps.e rfl rfl rfl (Yk (ih (t.kids.getD i default).sz (by rw [← hm]; exact Term.sz_lt hmem) _ rfl (hf.kid hmem) many below hmr (by omega) (by have := Term.sz_lt hmem; omega)) (Yn rfl) ?_)
 refine Z63 ?_
 refine Z2 ?_
 refine Yc (Ya ?_)
 refine Z19 ?_
 refine Z1 ?_
 refine Yc ?_
 refine ⟨i + 1, by omega, by omega, rfl, (by refine Yl (.refl _) (Yl (.refl _) (Yl (.refl _) (Yl (.refl _) (Yl (.refl _) (Yl (.refl _) (Yl (D.Le.eq (congrArg (D.int .i64) ((w64_add _ _).trans (congrArg w64 ?_)))) Ym)))))); rw [sizedsM_take_succ _ _ _ hlt, h31]; simp only [cond_true, cond_false]; omega), (by repeat first | exact X0 _ | apply X1 | apply X2 | exact X3 _)⟩
 try simp only [sz] at h24
 refine Yg (Yb (Ya ?_))
 refine Z1 ?_
 refine Z2 ?_
 refine Yc (Yd ?_)
 refine Yh rfl (.cons rfl .nil) ?_
 exact D.Le.eq (congrArg (D.int .i64) (by rw [sizedM_eq, if_neg (fun e => h13 e.1), List.take_of_length_le (by omega)]))
theorem hsize_c (t a : Term) (ht : t.fit 9223372036854775807) (ha : a.fit 9223372036854775807) (h1 : t.sz ≤ 4611686018427387904) (h2 : a.sz ≤ 4611686018427387904) (h3 : sizeM t a ≤ 9223372036854775807) : AFn X 207 [encT t, encT a] (.int .i64 (sizeM t a)) := by
 refine Zf Tryz.func207 ?_
 refine Yb (Ya ?_)
 refine Z9 (fun b2 => ?_)
 refine Z9 (fun b3 => ?_)
 refine Z2 ?_
 refine Yc (Yb ?_)
 refine Yj [.l 0, .l 1, .p 2, .p 3, .p 4] mixed (by kernel_rfl) ?_
 refine Z28 ?_
 refine Z31 ?_
 refine ASeq.pe rfl rfl rfl rfl (fun L0 => (Yk (size_c _ a rfl ha) (Yn rfl) ⟨rfl, rfl⟩)) ?_
 refine ASeq.pe rfl rfl rfl rfl (fun L0 => (Yk (sized_c _ t rfl ht (w64 a.sz) 0 (w64_range _) (by omega) (by omega)) (Yn rfl) ⟨rfl, rfl⟩)) ?_
 refine Z17 ?_
 refine ASeq.nil (Yd ?_)
 refine Yh rfl (.cons rfl .nil) ?_
 exact D.Le.eq (congrArg (D.int .i64) (by rw [w64_id (a := (a.sz : Int)) (by omega) (by omega)]; exact w64_id (by have := sizeM_nonneg t a; unfold sizeM at this; omega) h3))
theorem burn_c (b mb : Nat) (left : Int) (cs : List Core) (once dn : Bool) (hl : 0 ≤ left ∧ left ≤ 9223372036854775807) (n : Int) (h0 : 0 ≤ n ∧ n ≤ 9223372036854775807) : AMay X 205 [.ptr b 0, .int .i64 n] [(b, .cells 192 (workC (left) cs once dn mb))] (n ≤ left) (.tup []) [(b, .cells 192 (workC (left - n) cs once dn mb))] (.iface 184 (.agg [])) [(b, .cells 192 (workC (left) cs once dn mb))] := by
 refine Zf Tryz.func205 ?_
 refine Yb (Yb (Ya ?_))
 refine Z1 ?_
 refine Z1 ?_
 refine Z44 ?_
 refine Z6 ?_
 refine Z11 ?_
 refine Z89 ?_
 refine Yc ?_
 refine Zc (fun h9 => ?_) (fun h9 => ?_)
 try simp only [sz] at h9
 refine Ya ?_
 refine AOps.v rfl rfl rfl (AVal.build0 (by kernel_rfl)) ?_
 refine Z51 ?_
 refine AOps.e0 rfl rfl (AOp.panic rfl ?_)
 exact AFin.mayPan (X := X) (fn := Tryz.f205) rfl (by repeat first | exact X0 _ | apply X1 | apply X2 | exact X3 _) (by omega)
 try simp only [sz] at h9
 refine Ye (Ya ?_)
 refine Z1 ?_
 refine Z44 ?_
 refine Z6 ?_
 refine Z11 ?_
 refine Z1 ?_
 refine Z92 ?_
 refine Z44 ?_
 refine Z6 ?_
 refine Z3 ?_
 refine Yc ?_
 refine AFin.mayEnd rfl .nil (by repeat first | exact X0 _ | apply X1 | apply X2) ?_ (by omega)
 exact .refl _
theorem size_c1 (t : Term) (ht : t.fit 9223372036854775807) (h1 : t.sz ≤ 4611686018427387904) : AFn X 152 [encT t] (.int .i64 t.sz) := by
  have := size_c _ t rfl ht
  rwa [w64_id (by omega) (by omega)] at this
theorem take_c (b mb : Nat) (left : Int) (cs : List Core) (once dn : Bool) (hl : 0 ≤ left ∧ left ≤ 9223372036854775807) (t : Term) (ht : t.fit 9223372036854775807) (h1 : t.sz ≤ 4611686018427387904) : AMay X 203 [.ptr b 0, encT t] [(b, .cells 192 (workC (left) cs once dn mb))] ((t.sz : Int) ≤ left) (encT t) [(b, .cells 192 (workC (left - t.sz) cs once dn mb))] (.iface 184 (.agg [])) [(b, .cells 192 (workC (left) cs once dn mb))] := by
 refine Zf Tryz.func203 ?_
 refine Yb (Ya ?_)
 refine Z9 (fun b3 => ?_)
 refine Z7 (fun b4 => ?_)
 refine Yc (Yb ?_)
 refine Yj [.p 0, .p 1, .p 2, .l 3, .p 4, .e 5 []] mixed (by kernel_rfl) ?_
 refine Z5 ?_
 refine Z38 ?_
 refine Z8 ?_
 refine Z28 ?_
 refine ASeq.pe rfl rfl rfl rfl (fun L0 => (Yk (size_c1 t ht h1) (Yn rfl) ⟨rfl, rfl⟩)) ?_
 refine ASeq.ee rfl rfl rfl rfl rfl (AOp.callM [_, _] (burn_c b mb left cs once dn hl t.sz (by omega)) (Yn rfl) rfl (fun hok => ⟨Yo, ?_⟩) (fun hno => ?_))
 refine ASeq.nil (Yb (Ya ?_))
 refine Z23 ?_
 refine Z3 ?_
 refine Yc (Yd ?_)
 refine AFin.mayRet rfl (.cons (Yi (d := encT _) 0 rfl rfl rfl rfl) .nil) (by repeat first | exact X0 _ | apply X1 | apply X2) ?_ (hok)
 exact .refl _
 exact AFin.mayPan (X := X) (fn := Tryz.f203) rfl (by repeat first | exact X0 _ | apply X1 | apply X2 | exact X3 _) (hno)
theorem fit_mono {A B : Nat} (h : A ≤ B) : ∀ (m : Nat) (t : Term), t.sz = m → t.fit A → t.fit B := by
  intro m
  induction m using Nat.strongRecOn with
  | _ m ih =>
    intro t hm hf
    rw [Term.fit_iff] at hf ⊢
    exact ⟨Nat.le_trans hf.1 h, fun l hl => Nat.le_trans (hf.2.1 l hl) h, Nat.le_trans hf.2.2.1 h, fun k hk => ih k.sz (by rw [← hm]; exact Term.sz_lt hk) k rfl (hf.2.2.2.1 k hk), hf.2.2.2.2⟩
theorem fitX {t : Term} (h : t.fit 1099511627776) : t.fit 9223372036854775807 := fit_mono (by omega) _ t rfl h
theorem wput_c (b mb : Nat) (left : Int) (cs : List Core) (once dn : Bool) (hl : 0 ≤ left ∧ left ≤ 9223372036854775807) (t a : Term) (ht : t.fit 1099511627776) (ha : a.fit 1099511627776) (h1 : t.sz ≤ 4611686018427387904) (h2 : a.sz ≤ 4611686018427387904) (h3 : sizeM t a ≤ 9223372036854775807) : AMay X 202 [.ptr b 0, encT t, encT a] [(b, .cells 192 (workC (left) cs once dn mb))] (sizeM t a ≤ left) (encT (put t [a])) [(b, .cells 192 (workC (left - sizeM t a) cs once dn mb))] (.iface 184 (.agg [])) [(b, .cells 192 (workC (left) cs once dn mb))] := by
 refine Zf Tryz.func202 ?_
 refine Yb (Ya ?_)
 refine Z9 (fun b4 => ?_)
 refine Z9 (fun b5 => ?_)
 refine Z7 (fun b6 => ?_)
 refine Yc (Yb ?_)
 refine Yj [.p 0, .p 1, .p 2, .l 3, .l 4, .p 5, .e 6 []] mixed (by kernel_rfl) ?_
 refine Z5 ?_
 refine Z38 ?_
 refine Z8 ?_
 refine Z55 ?_
 refine Z28 ?_
 refine ASeq.pe rfl rfl rfl rfl (fun L0 => (Yk (hsize_c t a (fitX ht) (fitX ha) h1 h2 h3) (Yn rfl) ⟨rfl, rfl⟩)) ?_
 refine ASeq.ee rfl rfl rfl rfl rfl (AOp.callM [_, _, _] (burn_c b mb left cs once dn hl (sizeM t a) ⟨sizeM_nonneg t a, h3⟩) (Yn rfl) rfl (fun hok => ⟨Yo, ?_⟩) (fun hno => ?_))
 refine ASeq.nil (Yb (Ya ?_))
 refine Z39 ?_
 refine Z23 ?_
 refine Z62 ?_
 refine AOps.e rfl rfl rfl (Yk (put_c t [a] ht h1 (by simp) (fun u hu => by rw [List.mem_singleton.1 hu]; exact ⟨ha, h2⟩)) (Yn rfl) ?_)
 refine Z3 ?_
 refine Yc (Yd ?_)
 refine AFin.mayRet rfl (.cons (Yi (d := encT _) 0 rfl rfl rfl rfl) .nil) (by repeat first | exact X0 _ | apply X1 | apply X2) ?_ (hok)
 exact .refl _
 exact AFin.mayPan (X := X) (fn := Tryz.f202) rfl (by repeat first | exact X0 _ | apply X1 | apply X2 | exact X3 _) (hno)
theorem app_c0 (b mb : Nat) (left : Int) (cs : List Core) (once dn : Bool) (hl : 0 ≤ left ∧ left ≤ 9223372036854775807) (t x : Term) (hk : ¬ x.kind = 5) : AKeep X 180 [.ptr b 0, encT t, encT x] [(b, .cells 192 (workC (left) cs once dn mb))] (.tup [encT t, .bool false]) := by
 refine Zf Tryz.func180 ?_
 refine Yb (Ya ?_)
 refine Z9 (fun b4 => ?_)
 refine Z9 (fun b5 => ?_)
 refine Z7 (fun b6 => ?_)
 refine Z2 ?_
 refine Yc (Yb (Yb (Ya ?_)))
 refine Z6 ?_
 refine Z16 ?_
 refine Z60 ?_
 refine Yc ?_
 refine Zc (fun h10 => ?_) (fun h10 => ?_)
 try simp only [sz] at h10
 refine Yb (Ya ?_)
 refine Z39 ?_
 refine Z3 ?_
 refine Z2 ?_
 refine Yc (Yd ?_)
 refine Yr rfl (.cons (Yi (d := encT _) 0 rfl rfl rfl rfl) (.cons rfl .nil)) (by repeat first | exact X0 _ | apply X1 | apply X2) ?_
 exact .refl _
 try simp only [sz] at h10
 exact absurd (by simpa using h10) hk --END
theorem app_c1 (b mb : Nat) (left : Int) (cs : List Core) (once dn : Bool) (hl : 0 ≤ left ∧ left ≤ 9223372036854775807) (t x : Term) (hk : x.kind = 5) (ht : t.fit 1099511627776) (hx : x.fit 1099511627776) (h1 : t.sz ≤ 268435456) (h2 : x.sz ≤ 268435456) : AMay X 180 [.ptr b 0, encT t, encT x] [(b, .cells 192 (workC (left) cs once dn mb))] (sizeM (kid x 1) (kid t 1) ≤ left) (.tup [encT (put (kid x 1) [kid t 1]), .bool true]) [(b, .cells 192 (workC (left - sizeM (kid x 1) (kid t 1)) cs once dn mb))] (.iface 184 (.agg [])) [(b, .cells 192 (workC (left) cs once dn mb))] := by
 refine Zf Tryz.func180 ?_
 refine Yb (Ya ?_)
 refine Z9 (fun b4 => ?_)
 refine Z9 (fun b5 => ?_)
 refine Z7 (fun b6 => ?_)
 refine Z2 ?_
 refine Yc (Yb (Yb (Ya ?_)))
 refine Z6 ?_
 refine Z16 ?_
 refine Z60 ?_
 refine Yc ?_
 refine Zc (fun h10 => ?_) (fun h10 => ?_)
 try simp only [sz] at h10
 exact absurd hk (by simpa using h10) --END
 try simp only [sz] at h10
 refine Ye (Yb ?_)
 refine Yj [.p 0, .l 1, .p 2, .l 3, .p 4, .e 5 [], .e 6 [], .p 7] mixed (by kernel_rfl) ?_
 refine Z5 ?_
 refine Z28 ?_
 refine ASeq.pe rfl rfl rfl rfl (fun L0 => (Yk (kid_c x 1) (Yn rfl) ⟨rfl, rfl⟩)) ?_
 refine Z55 ?_
 refine ASeq.pe rfl rfl rfl rfl (fun L0 => (Yk (kid_c t 1) (Yn rfl) ⟨rfl, rfl⟩)) ?_
 refine ASeq.ee rfl rfl rfl rfl rfl (AOp.callM [_, _, _] (wput_c b mb left cs once dn hl (kid x 1) (kid t 1) (kid_fit hx _) (kid_fit ht _) (Nat.le_trans (kid_sz _ _) (by omega)) (Nat.le_trans (kid_sz _ _) (by omega)) (by have := sizeM_small (t := kid x 1) (a := kid t 1) (Nat.le_trans (kid_sz _ _) (by omega)) (Nat.le_trans (kid_sz _ _) (by omega)); omega)) (Yn rfl) rfl (fun hok => ⟨Yo, ?_⟩) (fun hno => ?_))
 refine Z25 ?_
 refine Z17 ?_
 refine ASeq.nil (Yd ?_)
 refine AFin.mayRet rfl (.cons (Yi (d := encT _) 0 rfl rfl rfl rfl) (.cons rfl .nil)) (by repeat first | exact X0 _ | apply X1 | apply X2) ?_ (hok)
 exact .refl _
 exact AFin.mayPan (X := X) (fn := Tryz.f180) rfl (by repeat first | exact X0 _ | apply X1 | apply X2 | exact X3 _) (hno)
theorem half_c0 (b mb : Nat) (left : Int) (cs : List Core) (once dn : Bool) (hl : 0 ≤ left ∧ left ≤ 9223372036854775807) (t x : Term) (hk : ¬ x.kind = 13) : AKeep X 181 [.ptr b 0, encT t, encT x] [(b, .cells 192 (workC (left) cs once dn mb))] (.tup [encT t, .bool false]) := by
 refine Zf Tryz.func181 ?_
 refine Yb (Ya ?_)
 refine Z9 (fun b4 => ?_)
 refine Z9 (fun b5 => ?_)
 refine Z7 (fun b6 => ?_)
 refine Z2 ?_
 refine Yc (Yb (Yb (Ya ?_)))
 refine Z6 ?_
 refine Z16 ?_
 refine Z60 ?_
 refine Yc ?_
 refine Zc (fun h11 => ?_) (fun h11 => ?_)
 try simp only [sz] at h11
 refine Yb (Ya ?_)
 refine Z39 ?_
 refine Z3 ?_
 refine Z2 ?_
 refine Yc (Yd ?_)
 refine Yr rfl (.cons (Yi (d := encT _) 0 rfl rfl rfl rfl) (.cons rfl .nil)) (by repeat first | exact X0 _ | apply X1 | apply X2) ?_
 exact .refl _
 try simp only [sz] at h11
 exact absurd (by simpa using h11) hk --END
theorem half_c1 (b mb : Nat) (left : Int) (cs : List Core) (once dn : Bool) (hl : 0 ≤ left ∧ left ≤ 9223372036854775807) (t x : Term) (hk : x.kind = 13) (ht : t.fit 1099511627776) (hx : x.fit 1099511627776) (h1 : t.sz ≤ 268435456) (h2 : x.sz ≤ 268435456) : AMay X 181 [.ptr b 0, encT t, encT x] [(b, .cells 192 (workC (left) cs once dn mb))] (((kid x (if t.kind = 15 then 1 else 0)).sz : Int) ≤ left) (.tup [encT (kid x (if t.kind = 15 then 1 else 0)), .bool true]) [(b, .cells 192 (workC (left - (kid x (if t.kind = 15 then 1 else 0)).sz) cs once dn mb))] (.iface 184 (.agg [])) [(b, .cells 192 (workC (left) cs once dn mb))] := by
 refine Zf Tryz.func181 ?_
 refine Yb (Ya ?_)
 refine Z9 (fun b4 => ?_)
 refine Z9 (fun b5 => ?_)
 refine Z7 (fun b6 => ?_)
 refine Z2 ?_
 refine Yc (Yb (Yb (Ya ?_)))
 refine Z6 ?_
 refine Z16 ?_
 refine Z60 ?_
 refine Yc ?_
 refine Zc (fun h11 => ?_) (fun h11 => ?_)
 try simp only [sz] at h11
 exact absurd hk (by simpa using h11) --END
 try simp only [sz] at h11
 refine Ye (Yb (Ya ?_))
 refine Z2 ?_
 refine Yc (Yb (Yb (Ya ?_)))
 refine Z6 ?_
 refine Z35 ?_
 refine Z40 ?_
 refine Yc ?_
 refine Zc (fun h15 => ?_) (fun h15 => ?_)
 try simp only [sz] at h15
 rw [if_pos h15]
 refine Ya ?_
 refine Z2 ?_
 refine Yc (Yb (Ya ?_))
 refine Z1 ?_
 refine Z23 ?_
 refine Z1 ?_
 refine AOps.e rfl rfl rfl (Yk (kid_c x 1) (Yn rfl) ?_)
 refine AOps.e rfl rfl rfl (AOp.callM [_, _, _] (take_c b mb left cs once dn hl (kid x 1) (fitX (kid_fit hx _)) (Nat.le_trans (kid_sz _ _) (by omega))) (Yn rfl) rfl (fun hok => ?_) (fun hno => ?_))
 refine Z3 ?_
 refine Z2 ?_
 refine Yc (Yd ?_)
 refine AFin.mayRet rfl (.cons (Yi (d := encT _) 0 rfl rfl rfl rfl) (.cons rfl .nil)) (by repeat first | exact X0 _ | apply X1 | apply X2) ?_ (hok)
 exact .refl _
 exact AFin.mayPan (X := X) (fn := Tryz.f181) rfl (by repeat first | exact X0 _ | apply X1 | apply X2 | exact X3 _) (hno)
 try simp only [sz] at h15
 rw [if_neg h15]
 refine Ye (Yb (Ya ?_))
 refine Z1 ?_
 refine Z23 ?_
 refine Z1 ?_
 refine AOps.e rfl rfl rfl (Yk (kid_c x 0) (Yn rfl) ?_)
 refine AOps.e rfl rfl rfl (AOp.callM [_, _, _] (take_c b mb left cs once dn hl (kid x 0) (fitX (kid_fit hx _)) (Nat.le_trans (kid_sz _ _) (by omega))) (Yn rfl) rfl (fun hok => ?_) (fun hno => ?_))
 refine Z3 ?_
 refine Z2 ?_
 refine Yc (Yd ?_)
 refine AFin.mayRet rfl (.cons (Yi (d := encT _) 0 rfl rfl rfl rfl) (.cons rfl .nil)) (by repeat first | exact X0 _ | apply X1 | apply X2) ?_ (hok)
 exact .refl _
 exact AFin.mayPan (X := X) (fn := Tryz.f181) rfl (by repeat first | exact X0 _ | apply X1 | apply X2 | exact X3 _) (hno)
theorem let_c1 (b mb : Nat) (left : Int) (cs : List Core) (once dn : Bool) (hl : 0 ≤ left ∧ left ≤ 9223372036854775807) (t x : Term) (ht : t.fit 1099511627776) (hx : x.fit 1099511627776) (h1 : t.sz ≤ 268435456) (h2 : x.sz ≤ 268435456) : AMay X 182 [.ptr b 0, encT t, encT x] [(b, .cells 192 (workC (left) cs once dn mb))] (sizeM (kid t 2) (kid t 1) ≤ left) (.tup [encT (put (kid t 2) [kid t 1]), .bool true]) [(b, .cells 192 (workC (left - sizeM (kid t 2) (kid t 1)) cs once dn mb))] (.iface 184 (.agg [])) [(b, .cells 192 (workC (left) cs once dn mb))] := by
 refine Zf Tryz.func182 ?_
 refine Yb (Ya ?_)
 refine Z9 (fun b4 => ?_)
 refine Z9 (fun b5 => ?_)
 refine Z7 (fun b6 => ?_)
 refine Z2 ?_
 refine Yc (Yb ?_)
 refine Yj [.p 0, .l 1, .p 2, .l 3, .p 4, .e 5 [], .e 6 [], .p 7] mixed (by kernel_rfl) ?_
 refine Z5 ?_
 refine Z55 ?_
 refine ASeq.pe rfl rfl rfl rfl (fun L0 => (Yk (kid_c t 2) (Yn rfl) ⟨rfl, rfl⟩)) ?_
 refine Z55 ?_
 refine ASeq.pe rfl rfl rfl rfl (fun L0 => (Yk (kid_c t 1) (Yn rfl) ⟨rfl, rfl⟩)) ?_
 refine ASeq.ee rfl rfl rfl rfl rfl (AOp.callM [_, _, _] (wput_c b mb left cs once dn hl (kid t 2) (kid t 1) (kid_fit ht _) (kid_fit ht _) (Nat.le_trans (kid_sz _ _) (by omega)) (Nat.le_trans (kid_sz _ _) (by omega)) (by have := sizeM_small (t := kid t 2) (a := kid t 1) (Nat.le_trans (kid_sz _ _) (by omega)) (Nat.le_trans (kid_sz _ _) (by omega)); omega)) (Yn rfl) rfl (fun hok => ⟨Yo, ?_⟩) (fun hno => ?_))
 refine Z25 ?_
 refine Z17 ?_
 refine ASeq.nil (Yd ?_)
 refine AFin.mayRet rfl (.cons (Yi (d := encT _) 0 rfl rfl rfl rfl) (.cons rfl .nil)) (by repeat first | exact X0 _ | apply X1 | apply X2) ?_ (hok)
 exact .refl _
 exact AFin.mayPan (X := X) (fn := Tryz.f182) rfl (by repeat first | exact X0 _ | apply X1 | apply X2 | exact X3 _) (hno)
theorem path_c0 (b mb : Nat) (left : Int) (cs : List Core) (once dn : Bool) (hl : 0 ≤ left ∧ left ≤ 9223372036854775807) (t x : Term) (hk : ¬ x.kind = 20) : AKeep X 185 [.ptr b 0, encT t, encT x] [(b, .cells 192 (workC (left) cs once dn mb))] (.tup [encT t, .bool false]) := by
 refine Zf Tryz.func185 ?_
 refine Yb (Ya ?_)
 refine Z9 (fun b4 => ?_)
 refine Z9 (fun b5 => ?_)
 refine Z7 (fun b6 => ?_)
 refine Z2 ?_
 refine Yc (Yb (Yb (Ya ?_)))
 refine Z6 ?_
 refine Z16 ?_
 refine Z60 ?_
 refine Yc ?_
 refine Zc (fun h10 => ?_) (fun h10 => ?_)
 try simp only [sz] at h10
 refine Yb (Ya ?_)
 refine Z39 ?_
 refine Z3 ?_
 refine Z2 ?_
 refine Yc (Yd ?_)
 refine Yr rfl (.cons (Yi (d := encT _) 0 rfl rfl rfl rfl) (.cons rfl .nil)) (by repeat first | exact X0 _ | apply X1 | apply X2) ?_
 exact .refl _
 try simp only [sz] at h10
 exact absurd (by simpa using h10) hk --END
theorem path_c1 (b mb : Nat) (left : Int) (cs : List Core) (once dn : Bool) (hl : 0 ≤ left ∧ left ≤ 9223372036854775807) (t x : Term) (hk : x.kind = 20) (ht : t.fit 1099511627776) (hx : x.fit 1099511627776) (h1 : t.sz ≤ 268435456) (h2 : x.sz ≤ 268435456) : AMay X 185 [.ptr b 0, encT t, encT x] [(b, .cells 192 (workC (left) cs once dn mb))] (((kid t 3).sz : Int) ≤ left) (.tup [encT (kid t 3), .bool true]) [(b, .cells 192 (workC (left - (kid t 3).sz) cs once dn mb))] (.iface 184 (.agg [])) [(b, .cells 192 (workC (left) cs once dn mb))] := by
 refine Zf Tryz.func185 ?_
 refine Yb (Ya ?_)
 refine Z9 (fun b4 => ?_)
 refine Z9 (fun b5 => ?_)
 refine Z7 (fun b6 => ?_)
 refine Z2 ?_
 refine Yc (Yb (Yb (Ya ?_)))
 refine Z6 ?_
 refine Z16 ?_
 refine Z60 ?_
 refine Yc ?_
 refine Zc (fun h10 => ?_) (fun h10 => ?_)
 try simp only [sz] at h10
 exact absurd hk (by simpa using h10) --END
 try simp only [sz] at h10
 refine Ye (Yb (Ya ?_))
 refine Z1 ?_
 refine Z39 ?_
 refine AOps.e rfl rfl rfl (Yk (kid_c t 3) (Yn rfl) ?_)
 refine AOps.e rfl rfl rfl (AOp.callM [_, _, _] (take_c b mb left cs once dn hl (kid t 3) (fitX (kid_fit ht _)) (Nat.le_trans (kid_sz _ _) (by omega))) (Yn rfl) rfl (fun hok => ?_) (fun hno => ?_))
 refine Z3 ?_
 refine Z2 ?_
 refine Yc (Yd ?_)
 refine AFin.mayRet rfl (.cons (Yi (d := encT _) 0 rfl rfl rfl rfl) (.cons rfl .nil)) (by repeat first | exact X0 _ | apply X1 | apply X2) ?_ (hok)
 exact .refl _
 exact AFin.mayPan (X := X) (fn := Tryz.f185) rfl (by repeat first | exact X0 _ | apply X1 | apply X2 | exact X3 _) (hno)
theorem branch_c0 (b mb : Nat) (left : Int) (cs : List Core) (once dn : Bool) (hl : 0 ≤ left ∧ left ≤ 9223372036854775807) (t x : Term) (hk : ¬ (x.kind = 23 ∧ 0 ≤ x.num ∧ x.num < t.at_)) : AKeep X 186 [.ptr b 0, encT t, encT x] [(b, .cells 192 (workC (left) cs once dn mb))] (.tup [encT t, .bool false]) := by
 refine Zf Tryz.func186 ?_
 refine Yb (Ya ?_)
 refine Z9 (fun b4 => ?_)
 refine Z9 (fun b5 => ?_)
 refine Z7 (fun b6 => ?_)
 refine Z2 ?_
 refine Yc (Yb (Yb (Ya ?_)))
 refine Z6 ?_
 refine Z16 ?_
 refine Z60 ?_
 refine Z1 ?_
 refine Zs 11 (fun h11 => ?_) (fun h11 => ?_)
 try simp only [sz] at h11
 refine Z4 ?_
 refine Z4 ?_
 refine Z4 ?_
 refine Z15 ?_
 refine Z1 ?_
 refine Z4 ?_
 refine Z4 ?_
 refine Z4 ?_
 refine Z4 ?_
 refine Z4 ?_
 refine Z15 ?_
 refine Yc (ACode.condT rfl (Yb (Ya ?_)))
 refine Z39 ?_
 refine Z3 ?_
 refine Z2 ?_
 refine Yc (Yd ?_)
 refine Yr rfl (.cons (Yi (d := encT _) 0 rfl rfl rfl rfl) (.cons rfl .nil)) (by repeat first | exact X0 _ | apply X1 | apply X2) ?_
 exact .refl _
 try simp only [sz] at h11
 refine Z18 ?_
 refine Z27 ?_
 refine Yp rfl rfl rfl rfl rfl rfl (AVal.lss rfl rfl) ?_
 refine Z13 ?_
 refine Z1 ?_
 refine Zs 16 (fun h16 => ?_) (fun h16 => ?_)
 try simp only [sz] at h16
 refine Z4 ?_
 refine Z4 ?_
 refine Z4 ?_
 refine Z4 ?_
 refine Z4 ?_
 refine Z15 ?_
 refine Yc (ACode.condT rfl (Yb (Ya ?_)))
 refine Z39 ?_
 refine Z3 ?_
 refine Z2 ?_
 refine Yc (Yd ?_)
 refine Yr rfl (.cons (Yi (d := encT _) 0 rfl rfl rfl rfl) (.cons rfl .nil)) (by repeat first | exact X0 _ | apply X1 | apply X2) ?_
 exact .refl _
 try simp only [sz] at h16
 refine Z18 ?_
 refine Z27 ?_
 refine Z18 ?_
 refine Yp rfl rfl rfl rfl rfl rfl (AVal.loadPN 2 rfl rfl rfl rfl (by constructor)) ?_
 refine Yp rfl rfl rfl rfl rfl rfl (AVal.geq rfl rfl) ?_
 refine Z13 ?_
 refine Yc ?_
 refine Zc (fun h22 => ?_) (fun h22 => ?_)
 try simp only [sz] at h22
 refine Yb (Ya ?_)
 refine Z39 ?_
 refine Z3 ?_
 refine Z2 ?_
 refine Yc (Yd ?_)
 refine Yr rfl (.cons (Yi (d := encT _) 0 rfl rfl rfl rfl) (.cons rfl .nil)) (by repeat first | exact X0 _ | apply X1 | apply X2) ?_
 exact .refl _
 try simp only [sz] at h22
 exact absurd ⟨by omega, by omega, by omega⟩ hk --END
theorem branch_c1 (b mb : Nat) (left : Int) (cs : List Core) (once dn : Bool) (hl : 0 ≤ left ∧ left ≤ 9223372036854775807) (t x : Term) (hk : (x.kind = 23 ∧ 0 ≤ x.num ∧ x.num < t.at_)) (hat : t.at_ ≤ 1099511627776) (ht : t.fit 1099511627776) (hx : x.fit 1099511627776) (h1 : t.sz ≤ 268435456) (h2 : x.sz ≤ 268435456) : AMay X 186 [.ptr b 0, encT t, encT x] [(b, .cells 192 (workC (left) cs once dn mb))] (((kid t (x.num + 1)).sz : Int) ≤ left) (.tup [encT (kid t (x.num + 1)), .bool true]) [(b, .cells 192 (workC (left - (kid t (x.num + 1)).sz) cs once dn mb))] (.iface 184 (.agg [])) [(b, .cells 192 (workC (left) cs once dn mb))] := by
 refine Zf Tryz.func186 ?_
 refine Yb (Ya ?_)
 refine Z9 (fun b4 => ?_)
 refine Z9 (fun b5 => ?_)
 refine Z7 (fun b6 => ?_)
 refine Z2 ?_
 refine Yc (Yb (Yb (Ya ?_)))
 refine Z6 ?_
 refine Z16 ?_
 refine Z60 ?_
 refine Z1 ?_
 refine Zs 11 (fun h11 => ?_) (fun h11 => ?_)
 try simp only [sz] at h11
 refine Z4 ?_
 refine Z4 ?_
 refine Z4 ?_
 refine Z15 ?_
 refine Z1 ?_
 refine Z4 ?_
 refine Z4 ?_
 refine Z4 ?_
 refine Z4 ?_
 refine Z4 ?_
 refine Z15 ?_
 refine Yc (ACode.condT rfl ?_)
 exfalso; obtain ⟨a1, a2, a3⟩ := hk; omega --END
 try simp only [sz] at h11
 refine Z18 ?_
 refine Z27 ?_
 refine Yp rfl rfl rfl rfl rfl rfl (AVal.lss rfl rfl) ?_
 refine Z13 ?_
 refine Z1 ?_
 refine Zs 16 (fun h16 => ?_) (fun h16 => ?_)
 try simp only [sz] at h16
 refine Z4 ?_
 refine Z4 ?_
 refine Z4 ?_
 refine Z4 ?_
 refine Z4 ?_
 refine Z15 ?_
 refine Yc (ACode.condT rfl ?_)
 exfalso; obtain ⟨a1, a2, a3⟩ := hk; omega --END
 try simp only [sz] at h16
 refine Z18 ?_
 refine Z27 ?_
 refine Z18 ?_
 refine Yp rfl rfl rfl rfl rfl rfl (AVal.loadPN 2 rfl rfl rfl rfl (by constructor)) ?_
 refine Yp rfl rfl rfl rfl rfl rfl (AVal.geq rfl rfl) ?_
 refine Z13 ?_
 refine Yc ?_
 refine Zc (fun h22 => ?_) (fun h22 => ?_)
 try simp only [sz] at h22
 exfalso; obtain ⟨a1, a2, a3⟩ := hk; omega --END
 try simp only [sz] at h22
 refine Ye (Yb (Ya ?_))
 refine Z1 ?_
 refine Z39 ?_
 refine Z6 ?_
 refine Z16 ?_
 refine AOps.v rfl rfl rfl (AVal.addn rfl rfl (by obtain ⟨a1, a2, a3⟩ := hk; omega)) ?_
 refine AOps.e rfl rfl rfl (Yk (kid_c t (x.num + 1)) (Yn rfl) ?_)
 refine AOps.e rfl rfl rfl (AOp.callM [_, _, _] (take_c b mb left cs once dn hl (kid t (x.num + 1)) (fitX (kid_fit ht _)) (Nat.le_trans (kid_sz _ _) (by omega))) (Yn rfl) rfl (fun hok => ?_) (fun hno => ?_))
 refine Z3 ?_
 refine Z2 ?_
 refine Yc (Yd ?_)
 refine AFin.mayRet rfl (.cons (Yi (d := encT _) 0 rfl rfl rfl rfl) (.cons rfl .nil)) (by repeat first | exact X0 _ | apply X1 | apply X2) ?_ (hok)
 exact .refl _
 exact AFin.mayPan (X := X) (fn := Tryz.f186) rfl (by repeat first | exact X0 _ | apply X1 | apply X2 | exact X3 _) (hno)
theorem tree1_c (t : Term) (k from_ : Int) (b4 : Nat) (R : Loc) (ht : t.fit 1099511627776) (h1 : t.sz ≤ 4611686018427387904) : AKeep X 208 [.int .i64 k, .int .i64 from_, .ptr b4 0] ((b4, .cells 27 (cellsT t)) :: R) (encT (upM t k from_)) := by
 refine Zf Tryz.func208 ?_
 refine Yb (Ya ?_)
 refine Z7 (fun b5 => ?_)
 refine Yc (Yb (Ya ?_))
 refine Z23 ?_
 refine Z1 ?_
 refine AOps.e rfl rfl rfl (Yk (kid_c t k) (Yn rfl) ?_)
 refine Z1 ?_
 refine AOps.e rfl rfl rfl (Yk (lift_c (kid t k) 1 from_ (kid_fit ht _) (Nat.le_trans (kid_sz _ _) h1)) (Yn rfl) ?_)
 refine Z3 ?_
 refine Yc (Yd ?_)
 refine Yr rfl (.cons (Yi (d := encT _) 0 rfl rfl rfl rfl) .nil) (by repeat first | exact X0 _ | apply X1 | apply X2) ?_
 exact .refl _
theorem sizes_c1 (ts : List Term) (hl : ts.length ≤ 9223372036854775807) (h : ∀ k ∈ ts, k.fit 9223372036854775807) (hs : Term.szs ts ≤ 4611686018427387904) : AFn X 206 [.slT ts] (.int .i64 (Term.szs ts)) := by
  have := sizes_c ts hl h
  rwa [w64_id (by omega) (by omega)] at this
theorem tree_c0 (b mb : Nat) (left : Int) (cs : List Core) (once dn : Bool) (hl : 0 ≤ left ∧ left ≤ 9223372036854775807) (t x : Term) (hk : ¬ x.kind = 17) : AKeep X 184 [.ptr b 0, encT t, encT x] [(b, .cells 192 (workC (left) cs once dn mb))] (.tup [encT t, .bool false]) := by
 refine Zf Tryz.func184 ?_
 refine Yb (Ya ?_)
 refine Z9 (fun b4 => ?_)
 refine Z9 (fun b5 => ?_)
 refine Z7 (fun b6 => ?_)
 refine Z2 ?_
 refine Yc (Yb (Yb (Ya ?_)))
 refine Z6 ?_
 refine Z16 ?_
 refine Z60 ?_
 refine Yc ?_
 refine Zc (fun h16 => ?_) (fun h16 => ?_)
 try simp only [sz] at h16
 refine Yb (Ya ?_)
 refine Z39 ?_
 refine Z3 ?_
 refine Z2 ?_
 refine Yc (Yd ?_)
 refine Yr rfl (.cons (Yi (d := encT _) 0 rfl rfl rfl rfl) (.cons rfl .nil)) (by repeat first | exact X0 _ | apply X1 | apply X2) ?_
 exact .refl _
 try simp only [sz] at h16
 exact absurd (by simpa using h16) hk --END
theorem tree_c1 (b mb : Nat) (left : Int) (cs : List Core) (once dn : Bool) (hl : 0 ≤ left ∧ left ≤ 9223372036854775807) (t x : Term) (hk : x.kind = 17) (ht : t.fit 1099511627776) (hx : x.fit 1099511627776) (h1 : t.sz ≤ 268435456) (h2 : x.sz ≤ 268435456) : AMay X 184 [.ptr b 0, encT t, encT x] [(b, .cells 192 (workC (left) cs once dn mb))] (treeCost t x ≤ left) (.tup [encT (treeM t x), .bool true]) [(b, .cells 192 (workC (left - treeCost t x) cs once dn mb))] (.iface 184 (.agg [])) [(b, .cells 192 (workC (left) cs once dn mb))] := by
 have hsum := treeArgs_sz t x h1 h2
 have hsz := sizeM_small (t := kid t 1) (a := kid x 0) (Nat.le_trans (kid_sz _ _) (by omega)) (Nat.le_trans (kid_sz _ _) (by omega))
 have hsn := sizeM_nonneg (kid t 1) (kid x 0)
 refine Zf Tryz.func184 ?_
 refine Yb (Ya ?_)
 refine Z9 (fun b4 => ?_)
 refine Z9 (fun b5 => ?_)
 refine Z7 (fun b6 => ?_)
 refine Z2 ?_
 refine Yc (Yb (Yb (Ya ?_)))
 refine Z6 ?_
 refine Z16 ?_
 refine Z60 ?_
 refine Yc ?_
 refine Zc (fun h16 => ?_) (fun h16 => ?_)
 try simp only [sz] at h16
 exact absurd hk (by simpa using h16) --END
 try simp only [sz] at h16
 refine Ye (Yb ?_)
 refine Yj [.l 0, .p 1, .l 2, .p 3, .l 4, .p 5, .a 6, .a 7, .a 8, .e 9 [], .e 10 [], .e 11 []] mixed (by kernel_rfl) ?_
 refine Z28 ?_
 refine ASeq.pe rfl rfl rfl rfl (fun L0 => (Yk (kid_c x 0) (Yn rfl) ⟨rfl, rfl⟩)) ?_
 refine Z28 ?_
 refine ASeq.pe rfl rfl rfl rfl (fun L0 => (Yk (kid_c x 1) (Yn rfl) ⟨rfl, rfl⟩)) ?_
 refine Z55 ?_
 refine ASeq.pe rfl rfl rfl rfl (fun L0 => (Yk (kid_c t 3) (Yn rfl) ⟨rfl, rfl⟩)) ?_
 refine Za (fun b8 => ?_)
 refine Za (fun b9 => ?_)
 refine Za (fun b10 => ?_)
 refine Z46 ?_
 refine Z42 ?_
 refine Z25 ?_
 refine ASeq.nil (Yb ?_)
 refine Yj [.p 0, .p 1, .p 2, .l 3, .l 4, .l 5, .l 6, .l 7, .l 8, .p 9, .l 10, .p 11, .l 12, .p 13, .p 14, .p 15, .p 16, .l 17, .p 18, .l 19, .p 20, .p 21, .e 22 []] mixed (by kernel_rfl) ?_
 refine Z5 ?_
 refine Z38 ?_
 refine Z8 ?_
 refine Z55 ?_
 refine Z28 ?_
 refine Z28 ?_
 refine Z31 ?_
 refine Z31 ?_
 refine ASeq.lv rfl rfl rfl rfl (Yv (d := encT _) 5 rfl rfl (.refl _)) ?_
 refine ASeq.pe rfl rfl rfl rfl (fun L0 => (Yk (kid_c t 0) (Yn rfl) ⟨rfl, rfl⟩)) ?_
 refine ASeq.lv rfl rfl rfl rfl (Yv (d := encT _) 5 rfl rfl (.refl _)) ?_
 refine ASeq.pe rfl rfl rfl rfl (fun L0 => (Yk (kid_c t 1) (Yn rfl) ⟨rfl, rfl⟩)) ?_
 refine ASeq.lv rfl rfl rfl rfl (Yv (d := encT _) 5 rfl rfl (.refl _)) ?_
 refine ASeq.pe rfl rfl rfl rfl (fun L0 => (Yk (kid_c t 2) (Yn rfl) ⟨rfl, rfl⟩)) ?_
 refine ASeq.pe rfl rfl rfl rfl (fun L0 => (AOp.buildSliceT (ts := treeArgs t x) rfl rfl rfl (by kernel_rfl) rfl ⟨rfl, rfl⟩)) ?_
 refine ASeq.pe rfl rfl rfl rfl (fun L0 => (Yk (sizes_c1 (treeArgs t x) (by simp [treeArgs]) (fun k hk => by simp only [treeArgs, List.mem_cons, List.not_mem_nil, or_false] at hk; rcases hk with rfl | rfl | rfl | rfl | rfl | rfl | rfl | rfl <;> exact fitX (kid_fit (by assumption) _)) (by omega)) (Yn rfl) ⟨rfl, rfl⟩)) ?_
 refine Yt rfl rfl rfl rfl (fun L0 => (AVal.addn rfl rfl (by omega))) ?_
 refine ASeq.lv rfl rfl rfl rfl (Yv (d := encT _) 5 rfl rfl (.refl _)) ?_
 refine ASeq.pe rfl rfl rfl rfl (fun L0 => (Yk (kid_c t 1) (Yn rfl) ⟨rfl, rfl⟩)) ?_
 refine Z55 ?_
 refine ASeq.pe rfl rfl rfl rfl (fun L0 => (Yk (hsize_c (kid t 1) (kid x 0) (fitX (kid_fit ht _)) (fitX (kid_fit hx _)) (Nat.le_trans (kid_sz _ _) (by omega)) (Nat.le_trans (kid_sz _ _) (by omega)) (by omega)) (Yn rfl) ⟨rfl, rfl⟩)) ?_
 refine Yt rfl rfl rfl rfl (fun L0 => (AVal.addn rfl rfl (by omega))) ?_
 refine ASeq.ee rfl rfl rfl rfl rfl (AOp.callM [_, _, _, _, _, _] (burn_c b mb left cs once dn hl (treeCost t x) (by unfold treeCost; omega)) (Yn rfl) rfl (fun hok => ⟨Yo, ?_⟩) (fun hno => ?_))
 refine ASeq.nil (Yb (Ya ?_))
 refine Z54 ?_
 refine Z2 ?_
 refine Yc (Yb ?_)
 refine Yj [.p 0, .p 2, .p 4, .p 6, .l 8, .e 1 [8], .e 3 [8], .e 5 [8], .e 7 [8], .p 9, .p 10, .p 11, .p 12, .p 13, .p 14, .a 15, .e 16 []] mixed (by kernel_rfl) ?_
 refine Z5 ?_
 refine Z5 ?_
 refine Z5 ?_
 refine Z5 ?_
 refine Z28 ?_
 refine ASeq.ee rfl rfl rfl rfl rfl (AOp.callVK [_, _, _, _, _] rfl (tree1_c t 0 0 b4 _ ht (by omega)) (Yn rfl) rfl ⟨(Keeps.cons (Yv 1 rfl rfl (.refl _)) Yo), ?_⟩)
 refine ASeq.ee rfl rfl rfl rfl rfl (AOp.callVK [_, _, _, _, _] rfl (tree1_c t 1 1 b4 _ ht (by omega)) (Yn rfl) rfl ⟨(Keeps.cons (Yv 1 rfl rfl (.refl _)) Yo), ?_⟩)
 refine ASeq.ee rfl rfl rfl rfl rfl (AOp.callVK [_, _, _, _, _] rfl (tree1_c t 2 0 b4 _ ht (by omega)) (Yn rfl) rfl ⟨(Keeps.cons (Yv 1 rfl rfl (.refl _)) Yo), ?_⟩)
 refine ASeq.ee rfl rfl rfl rfl rfl (AOp.callVK [_, _, _, _, _] rfl (tree1_c t 3 0 b4 _ ht (by omega)) (Yn rfl) rfl ⟨(Keeps.cons (Yv 1 rfl rfl (.refl _)) Yo), ?_⟩)
 refine ASeq.pe rfl rfl rfl rfl (fun L0 => (Yk (lift_c (kid x 1) 1 0 (kid_fit hx _) (Nat.le_trans (kid_sz _ _) (by omega))) (Yn rfl) ⟨rfl, rfl⟩)) ?_
 refine ASeq.pe rfl rfl rfl rfl (fun L0 => (Yk (of_c 1 []) (LeL.cons (.refl _) (LeL.cons (.emp _ rfl) .nil)) ⟨rfl, rfl⟩)) ?_
 refine Z32 ?_
 refine ASeq.pe rfl rfl rfl rfl (fun L0 => (Yk (of_c _ _) (Yn rfl) ⟨rfl, rfl⟩)) ?_
 refine ASeq.pe rfl rfl rfl rfl (fun L0 => (AOp.buildSliceT (ts := [_, _, _, _, _]) rfl rfl rfl rfl rfl ⟨rfl, rfl⟩)) ?_
 refine ASeq.pe rfl rfl rfl rfl (fun L0 => (Yk (of_c _ _) (Yn rfl) ⟨rfl, rfl⟩)) ?_
 refine Za (fun b12 => ?_)
 refine Z25 ?_
 refine ASeq.nil (Yb ?_)
 refine Yj [.l 0, .p 1, .l 2, .p 3, .p 4, .l 5, .p 6, .p 7, .a 8, .e 9 []] mixed (by kernel_rfl) ?_
 refine ASeq.lv rfl rfl rfl rfl (Yv (d := encT _) 6 rfl rfl (.refl _)) ?_
 refine ASeq.pe rfl rfl rfl rfl (fun L0 => (Yk (kid_c t 1) (Yn rfl) ⟨rfl, rfl⟩)) ?_
 refine Z76 ?_
 refine Z57 ?_
 refine ASeq.pe rfl rfl rfl rfl (fun L0 => (Yk (put_c (kid t 1) [kid x 0] (kid_fit ht _) (Nat.le_trans (kid_sz _ _) (by omega)) (by simp) (fun u hu => by rw [List.mem_singleton.1 hu]; exact ⟨kid_fit hx _, (Nat.le_trans (kid_sz _ _) (by omega))⟩)) (Yn rfl) ⟨rfl, rfl⟩)) ?_
 refine Z31 ?_
 refine Z32 ?_
 refine ASeq.pe rfl rfl rfl rfl (fun L0 => (Yk (of_c _ _) (Yn rfl) ⟨rfl, rfl⟩)) ?_
 refine Za (fun b13 => ?_)
 refine Z25 ?_
 refine ASeq.nil (Yb ?_)
 refine Yj [.l 0, .l 1, .p 2, .p 3, .l 4, .p 5, .p 6, .l 7, .p 8, .p 9, .e 10 [], .p 11] mixed (by kernel_rfl) ?_
 refine Z55 ?_
 refine ASeq.lv rfl rfl rfl rfl (Yv (d := encT _) 4 rfl rfl (.refl _)) ?_
 refine Z32 ?_
 refine ASeq.pe rfl rfl rfl rfl (fun L0 => (Yk (of_c _ _) (Yn rfl) ⟨rfl, rfl⟩)) ?_
 refine Z76 ?_
 refine Z32 ?_
 refine ASeq.pe rfl rfl rfl rfl (fun L0 => (Yk (of_c _ _) (Yn rfl) ⟨rfl, rfl⟩)) ?_
 refine Z31 ?_
 refine Z32 ?_
 refine ASeq.pe rfl rfl rfl rfl (fun L0 => (Yk (of_c _ _) (Yn rfl) ⟨rfl, rfl⟩)) ?_
 refine ASeq.ee0 rfl rfl rfl rfl (AOp.storeN 5 rfl rfl rfl (by constructor) rfl rfl rfl (by repeat constructor) (by repeat constructor) ⟨Yo, ?_⟩)
 refine Z17 ?_
 refine ASeq.nil (Yd ?_)
 refine AFin.mayRet rfl (.cons (Yi (d := encT _) 5 rfl rfl rfl rfl) (.cons rfl .nil)) (by repeat first | exact X0 _ | apply X1 | apply X2) ?_ (hok)
 exact .refl _
 exact AFin.mayPan (X := X) (fn := Tryz.f184) rfl (by repeat first | exact X0 _ | apply X1 | apply X2 | exact X3 _) (hno)
end Sp
