/-
  Texts of this claim, joined: Tab, Err, Cells, Mirror, EvL, Mirrored.
-/
import Derived.Test.YtoaghhcjlfiflaaGreatDoorPlayAgainB
import Derived.Test.YtoaghhcjlfiflaaGreatDoorProg
import Derived.LaidSub
import Derived.Stop.LaidTwo

/-
  The table of the program's types as the evaluator wants it (written by program), and that it is right.
-/
namespace Go.Proofs.YtoaghhcjlfiflaaGreatDoor
open Go Ev
def tab : Tab := [
  (1, ⟨1, .other, [.nilFunc]⟩),
  (2, ⟨1, .int, [.int .i64 0]⟩),
  (3, ⟨1, .int, [.int .i64 0]⟩),
  (4, ⟨1, .bool, [.bool false]⟩),
  (5, ⟨1, .other, [.int .u8 0]⟩),
  (9, ⟨1, .str, [.string ByteArray.empty]⟩),
  (12, ⟨1, .other, [.int .u64 0]⟩),
  (13, ⟨2, .struct [(0, 1, false), (1, 1, false)], [.string ByteArray.empty, .int .u64 0]⟩),
  (20, ⟨1, .iface, [.nilIface]⟩),
  (21, ⟨1, .other, [.int .i32 0]⟩),
  (22, ⟨1, .slice 92 5 true, [.slice none 0 0]⟩),
  (23, ⟨1, .slice 38 10 true, [.slice none 0 0]⟩),
  (24, ⟨1, .other, [.nilFunc]⟩),
  (25, ⟨1, .other, [.nilFunc]⟩),
  (26, ⟨1, .ptr, [.pointer none]⟩),
  (27, ⟨1, .iface, [.nilIface]⟩),
  (28, ⟨1, .iface, [.nilIface]⟩),
  (30, ⟨1, .other, [.nilFunc]⟩),
  (31, ⟨1, .other, [.nilFunc]⟩),
  (32, ⟨1, .other, [.nilFunc]⟩),
  (33, ⟨2, .struct [(0, 1, false), (1, 1, false)], [.int .i64 0, .int .i64 0]⟩),
  (34, ⟨2, .struct [(0, 1, false), (1, 1, false)], [.int .i64 0, .int .i64 0]⟩),
  (35, ⟨6, .struct [(0, 1, false), (1, 2, true), (3, 2, true), (5, 1, false)], [.int .i64 0, .int .i64 0, .int .i64 0, .int .i64 0, .int .i64 0, .int .i64 0]⟩),
  (36, ⟨6, .struct [(0, 1, false), (1, 2, true), (3, 2, true), (5, 1, false)], [.int .i64 0, .int .i64 0, .int .i64 0, .int .i64 0, .int .i64 0, .int .i64 0]⟩),
  (37, ⟨10, .struct [(0, 1, false), (1, 1, false), (2, 1, false), (3, 6, true), (9, 1, false)], [.string ByteArray.empty, .int .i64 0, .int .i64 0, .int .i64 0, .int .i64 0, .int .i64 0, .int .i64 0, .int .i64 0, .int .i64 0, .slice none 0 0]⟩),
  (38, ⟨10, .struct [(0, 1, false), (1, 1, false), (2, 1, false), (3, 6, true), (9, 1, false)], [.string ByteArray.empty, .int .i64 0, .int .i64 0, .int .i64 0, .int .i64 0, .int .i64 0, .int .i64 0, .int .i64 0, .int .i64 0, .slice none 0 0]⟩),
  (39, ⟨1, .other, [.nilFunc]⟩),
  (40, ⟨1, .ptr, [.pointer none]⟩),
  (42, ⟨1, .other, [.nilFunc]⟩),
  (43, ⟨1, .ptr, [.pointer none]⟩),
  (44, ⟨1, .ptr, [.pointer none]⟩),
  (45, ⟨1, .ptr, [.pointer none]⟩),
  (46, ⟨1, .ptr, [.pointer none]⟩),
  (47, ⟨1, .ptr, [.pointer none]⟩),
  (48, ⟨8, .struct [(0, 1, false), (1, 1, false), (2, 1, false), (3, 1, false), (4, 1, false), (5, 1, false), (6, 1, false), (7, 1, false)], [.pointer none, .int .i64 0, .int .i64 0, .pointer none, .pointer none, .pointer none, .pointer none, .slice none 0 0]⟩),
  (49, ⟨8, .struct [(0, 1, false), (1, 1, false), (2, 1, false), (3, 1, false), (4, 1, false), (5, 1, false), (6, 1, false), (7, 1, false)], [.pointer none, .int .i64 0, .int .i64 0, .pointer none, .pointer none, .pointer none, .pointer none, .slice none 0 0]⟩),
  (51, ⟨1, .other, [.nilFunc]⟩),
  (52, ⟨1, .other, [.nilFunc]⟩),
  (53, ⟨1, .other, [.nilFunc]⟩),
  (54, ⟨1, .slice 59 10 true, [.slice none 0 0]⟩),
  (55, ⟨1, .other, [.nilFunc]⟩),
  (56, ⟨8, .struct [(0, 1, false), (1, 2, true), (3, 2, true), (5, 1, false), (6, 1, false), (7, 1, false)], [.int .i64 0, .int .i64 0, .int .i64 0, .int .i64 0, .int .i64 0, .int .i64 0, .int .i64 0, .int .i64 0]⟩),
  (57, ⟨8, .struct [(0, 1, false), (1, 2, true), (3, 2, true), (5, 1, false), (6, 1, false), (7, 1, false)], [.int .i64 0, .int .i64 0, .int .i64 0, .int .i64 0, .int .i64 0, .int .i64 0, .int .i64 0, .int .i64 0]⟩),
  (58, ⟨10, .struct [(0, 1, false), (1, 1, false), (2, 8, true)], [.int .i64 0, .int .i64 0, .int .i64 0, .int .i64 0, .int .i64 0, .int .i64 0, .int .i64 0, .int .i64 0, .int .i64 0, .int .i64 0]⟩),
  (59, ⟨10, .struct [(0, 1, false), (1, 1, false), (2, 8, true)], [.int .i64 0, .int .i64 0, .int .i64 0, .int .i64 0, .int .i64 0, .int .i64 0, .int .i64 0, .int .i64 0, .int .i64 0, .int .i64 0]⟩),
  (60, ⟨1, .slice 64 2 true, [.slice none 0 0]⟩),
  (61, ⟨1, .other, [.nilFunc]⟩),
  (62, ⟨1, .slice 3 1 false, [.slice none 0 0]⟩),
  (63, ⟨2, .struct [(0, 1, false), (1, 1, false)], [.int .i64 0, .int .i64 0]⟩),
  (64, ⟨2, .struct [(0, 1, false), (1, 1, false)], [.int .i64 0, .int .i64 0]⟩),
  (65, ⟨1, .other, [.nilFunc]⟩),
  (66, ⟨1, .other, [.nilFunc]⟩),
  (67, ⟨1, .other, [.nilFunc]⟩),
  (68, ⟨2, .struct [(0, 1, false), (1, 1, false)], [.int .i64 0, .int .i64 0]⟩),
  (69, ⟨2, .struct [(0, 1, false), (1, 1, false)], [.int .i64 0, .int .i64 0]⟩),
  (70, ⟨1, .other, [.nilFunc]⟩),
  (71, ⟨1, .other, [.nilFunc]⟩),
  (72, ⟨1, .ptr, [.pointer none]⟩),
  (73, ⟨1, .other, [.nilFunc]⟩),
  (74, ⟨1, .other, [.nilFunc]⟩),
  (75, ⟨1, .other, [.nilFunc]⟩),
  (76, ⟨1, .other, [.nilFunc]⟩),
  (77, ⟨1, .other, [.nilFunc]⟩),
  (78, ⟨1, .other, [.nilFunc]⟩),
  (79, ⟨1, .slice 134 5 true, [.slice none 0 0]⟩),
  (80, ⟨1, .other, [.nilFunc]⟩),
  (81, ⟨1, .slice 107 5 true, [.slice none 0 0]⟩),
  (82, ⟨1, .other, [.nilFunc]⟩),
  (83, ⟨1, .other, [.nilFunc]⟩),
  (84, ⟨1, .slice 135 2 true, [.slice none 0 0]⟩),
  (85, ⟨1, .other, [.nilFunc]⟩),
  (86, ⟨1, .other, [.nilFunc]⟩),
  (87, ⟨1, .other, [.nilFunc]⟩),
  (88, ⟨1, .other, [.nilFunc]⟩),
  (89, ⟨1, .other, [.nilFunc]⟩),
  (90, ⟨1, .other, [.nilFunc]⟩),
  (91, ⟨5, .struct [(0, 1, false), (1, 1, false), (2, 1, false), (3, 1, false), (4, 1, false)], [.bool false, .bool false, .int .i64 0, .int .i64 0, .int .i64 0]⟩),
  (92, ⟨5, .struct [(0, 1, false), (1, 1, false), (2, 1, false), (3, 1, false), (4, 1, false)], [.bool false, .bool false, .int .i64 0, .int .i64 0, .int .i64 0]⟩),
  (93, ⟨1, .ptr, [.pointer none]⟩),
  (94, ⟨2, .arr 2 93 1 false, [.pointer none, .pointer none]⟩),
  (95, ⟨7, .struct [(0, 2, true), (2, 1, false), (3, 1, false), (4, 1, false), (5, 1, false), (6, 1, false)], [.pointer none, .pointer none, .slice none 0 0, .slice none 0 0, .int .i64 0, .int .i64 0, .slice none 0 0]⟩),
  (96, ⟨7, .struct [(0, 2, true), (2, 1, false), (3, 1, false), (4, 1, false), (5, 1, false), (6, 1, false)], [.pointer none, .pointer none, .slice none 0 0, .slice none 0 0, .int .i64 0, .int .i64 0, .slice none 0 0]⟩),
  (97, ⟨1, .ptr, [.pointer none]⟩),
  (98, ⟨1, .other, [.nilFunc]⟩),
  (99, ⟨1, .other, [.nilFunc]⟩),
  (100, ⟨2, .struct [(0, 1, false), (1, 1, false)], [.pointer none, .pointer none]⟩),
  (101, ⟨2, .struct [(0, 1, false), (1, 1, false)], [.pointer none, .pointer none]⟩),
  (102, ⟨1, .other, [.nilFunc]⟩),
  (104, ⟨1, .other, [.nilFunc]⟩),
  (105, ⟨1, .other, [.nilFunc]⟩),
  (106, ⟨5, .struct [(0, 1, false), (1, 1, false), (2, 1, false), (3, 1, false), (4, 1, false)], [.int .i64 0, .int .i64 0, .int .i64 0, .bool false, .slice none 0 0]⟩),
  (107, ⟨5, .struct [(0, 1, false), (1, 1, false), (2, 1, false), (3, 1, false), (4, 1, false)], [.int .i64 0, .int .i64 0, .int .i64 0, .bool false, .slice none 0 0]⟩),
  (109, ⟨1, .other, [.nilFunc]⟩),
  (111, ⟨1, .other, [.nilFunc]⟩),
  (112, ⟨1, .other, [.nilFunc]⟩),
  (113, ⟨1, .other, [.nilFunc]⟩),
  (114, ⟨4, .struct [(0, 1, false), (1, 1, false), (2, 1, false), (3, 1, false)], [.int .i64 0, .int .i64 0, .int .i64 0, .bool false]⟩),
  (115, ⟨4, .struct [(0, 1, false), (1, 1, false), (2, 1, false), (3, 1, false)], [.int .i64 0, .int .i64 0, .int .i64 0, .bool false]⟩),
  (116, ⟨1, .other, [.nilFunc]⟩),
  (117, ⟨1, .other, [.nilFunc]⟩),
  (118, ⟨1, .other, [.nilFunc]⟩),
  (119, ⟨1, .other, [.nilFunc]⟩),
  (120, ⟨1, .slice 126 1 false, [.slice none 0 0]⟩),
  (121, ⟨1, .slice 124 1 false, [.slice none 0 0]⟩),
  (122, ⟨7, .struct [(0, 1, false), (1, 1, false), (2, 1, false), (3, 1, false), (4, 1, false), (5, 1, false), (6, 1, false)], [.slice none 0 0, .slice none 0 0, .slice none 0 0, .slice none 0 0, .int .i64 0, .int .i64 0, .slice none 0 0]⟩),
  (123, ⟨7, .struct [(0, 1, false), (1, 1, false), (2, 1, false), (3, 1, false), (4, 1, false), (5, 1, false), (6, 1, false)], [.slice none 0 0, .slice none 0 0, .slice none 0 0, .slice none 0 0, .int .i64 0, .int .i64 0, .slice none 0 0]⟩),
  (124, ⟨1, .ptr, [.pointer none]⟩),
  (125, ⟨1, .other, [.nilFunc]⟩),
  (126, ⟨1, .ptr, [.pointer none]⟩),
  (128, ⟨1, .other, [.nilFunc]⟩),
  (129, ⟨1, .other, [.nilFunc]⟩),
  (131, ⟨1, .other, [.nilFunc]⟩),
  (132, ⟨1, .other, [.nilFunc]⟩),
  (133, ⟨1, .other, [.nilFunc]⟩),
  (134, ⟨5, .struct [(0, 1, false), (1, 1, false), (2, 1, false), (3, 1, false), (4, 1, false)], [.int .i64 0, .int .i64 0, .int .i64 0, .bool false, .slice none 0 0]⟩),
  (135, ⟨2, .struct [(0, 1, false), (1, 1, false)], [.int .i64 0, .int .i64 0]⟩),
  (136, ⟨1, .other, [.nilFunc]⟩),
  (137, ⟨1, .other, [.nilFunc]⟩),
  (138, ⟨1, .ptr, [.pointer none]⟩),
  (139, ⟨2, .struct [(0, 1, false), (1, 1, false)], [.int .i64 0, .nilIface]⟩),
  (140, ⟨2, .struct [(0, 1, false), (1, 1, false)], [.int .i64 0, .nilIface]⟩),
  (141, ⟨64, .arr 64 5 1 false, []⟩),
  (142, ⟨66, .struct [(0, 64, true), (64, 1, false), (65, 1, false)], []⟩),
  (143, ⟨66, .struct [(0, 64, true), (64, 1, false), (65, 1, false)], []⟩),
  (145, ⟨1, .other, [.nilFunc]⟩),
  (147, ⟨1, .other, [.nilFunc]⟩),
  (149, ⟨1, .other, [.nilFunc]⟩),
  (150, ⟨1, .other, [.nilFunc]⟩),
  (151, ⟨1, .other, [.nilFunc]⟩),
  (152, ⟨1, .other, [.nilFunc]⟩),
  (153, ⟨1, .other, [.nilFunc]⟩),
  (154, ⟨1, .other, [.nilFunc]⟩),
  (156, ⟨1, .other, [.nilFunc]⟩),
  (157, ⟨1, .other, [.nilFunc]⟩),
  (158, ⟨1, .other, [.nilFunc]⟩),
  (159, ⟨1, .other, [.nilFunc]⟩),
  (160, ⟨320, .arr 32 59 10 true, []⟩),
  (161, ⟨321, .struct [(0, 1, false), (1, 320, true)], []⟩),
  (162, ⟨321, .struct [(0, 1, false), (1, 320, true)], []⟩),
  (163, ⟨321, .struct [(0, 1, false), (1, 320, true)], []⟩),
  (164, ⟨321, .struct [(0, 1, false), (1, 320, true)], []⟩),
  (165, ⟨1, .other, [.nilFunc]⟩),
  (166, ⟨1, .ptr, [.pointer none]⟩),
  (167, ⟨1, .slice 28 1 false, [.slice none 0 0]⟩),
  (168, ⟨1, .other, [.nilFunc]⟩),
  (169, ⟨1, .slice 5 1 false, [.slice none 0 0]⟩),
  (170, ⟨4, .struct [(0, 1, false), (1, 1, false), (2, 1, false), (3, 1, false)], [.string ByteArray.empty, .bool false, .int .i64 0, .bool false]⟩),
  (171, ⟨4, .struct [(0, 1, false), (1, 1, false), (2, 1, false), (3, 1, false)], [.string ByteArray.empty, .bool false, .int .i64 0, .bool false]⟩),
  (172, ⟨1, .ptr, [.pointer none]⟩),
  (173, ⟨1, .other, [.nilFunc]⟩),
  (174, ⟨5, .struct [(0, 1, false), (1, 1, false), (2, 1, false), (3, 1, false), (4, 1, false)], [.pointer none, .int .i64 0, .int .i64 0, .int .i64 0, .bool false]⟩),
  (175, ⟨5, .struct [(0, 1, false), (1, 1, false), (2, 1, false), (3, 1, false), (4, 1, false)], [.pointer none, .int .i64 0, .int .i64 0, .int .i64 0, .bool false]⟩),
  (176, ⟨1, .ptr, [.pointer none]⟩),
  (177, ⟨4, .struct [(0, 1, false), (1, 1, false), (2, 1, false), (3, 1, false)], [.int .i64 0, .int .i64 0, .int .i64 0, .bool false]⟩),
  (178, ⟨4, .struct [(0, 1, false), (1, 1, false), (2, 1, false), (3, 1, false)], [.int .i64 0, .int .i64 0, .int .i64 0, .bool false]⟩),
  (179, ⟨1, .ptr, [.pointer none]⟩),
  (180, ⟨1, .other, [.nilFunc]⟩),
  (181, ⟨1, .ptr, [.pointer none]⟩),
  (182, ⟨2, .struct [(0, 1, false), (1, 1, false)], [.int .i64 0, .slice none 0 0]⟩),
  (183, ⟨2, .struct [(0, 1, false), (1, 1, false)], [.int .i64 0, .slice none 0 0]⟩),
  (184, ⟨1, .ptr, [.pointer none]⟩),
  (185, ⟨8, .struct [(0, 1, false), (1, 1, false), (2, 1, false), (3, 1, false), (4, 1, false), (5, 1, false), (6, 1, false), (7, 1, false)], [.int .i64 0, .int .i64 0, .pointer none, .pointer none, .pointer none, .pointer none, .pointer none, .slice none 0 0]⟩),
  (186, ⟨8, .struct [(0, 1, false), (1, 1, false), (2, 1, false), (3, 1, false), (4, 1, false), (5, 1, false), (6, 1, false), (7, 1, false)], [.int .i64 0, .int .i64 0, .pointer none, .pointer none, .pointer none, .pointer none, .pointer none, .slice none 0 0]⟩),
  (187, ⟨1, .other, [.nilFunc]⟩),
  (189, ⟨1, .other, [.nilFunc]⟩),
  (190, ⟨1, .other, [.nilFunc]⟩),
  (192, ⟨1, .other, [.nilFunc]⟩),
  (193, ⟨1, .other, [.nilFunc]⟩),
  (194, ⟨2, .struct [(0, 1, false), (1, 1, false)], [.int .i64 0, .slice none 0 0]⟩),
  (195, ⟨2, .struct [(0, 1, false), (1, 1, false)], [.int .i64 0, .slice none 0 0]⟩),
  (196, ⟨1, .other, [.nilFunc]⟩),
  (197, ⟨1, .other, [.nilFunc]⟩),
  (198, ⟨5, .struct [(0, 1, false), (1, 1, false), (2, 1, false), (3, 1, false), (4, 1, false)], [.pointer none, .int .i64 0, .int .i64 0, .int .i64 0, .bool false]⟩),
  (199, ⟨5, .struct [(0, 1, false), (1, 1, false), (2, 1, false), (3, 1, false), (4, 1, false)], [.pointer none, .int .i64 0, .int .i64 0, .int .i64 0, .bool false]⟩),
  (200, ⟨1, .other, [.nilFunc]⟩),
  (201, ⟨1, .other, [.nilFunc]⟩),
  (202, ⟨1, .other, [.nilFunc]⟩),
  (203, ⟨1, .other, [.nilFunc]⟩),
  (204, ⟨32, .arr 32 3 1 false, []⟩),
  (205, ⟨34, .struct [(0, 1, false), (1, 32, true), (33, 1, false)], []⟩),
  (206, ⟨34, .struct [(0, 1, false), (1, 32, true), (33, 1, false)], []⟩),
  (207, ⟨1, .other, [.nilFunc]⟩),
  (208, ⟨1, .other, [.nilFunc]⟩),
  (210, ⟨1, .other, [.nilFunc]⟩),
  (212, ⟨1, .other, [.nilFunc]⟩),
  (214, ⟨1, .other, [.nilFunc]⟩),
  (216, ⟨1, .other, [.nilFunc]⟩),
  (217, ⟨1, .other, [.nilFunc]⟩),
  (218, ⟨1, .other, [.nilFunc]⟩),
  (219, ⟨1, .other, [.nilFunc]⟩),
  (220, ⟨1, .other, [.nilFunc]⟩),
  (221, ⟨1, .slice 57 8 true, [.slice none 0 0]⟩),
  (222, ⟨1, .other, [.nilFunc]⟩),
  (223, ⟨1, .other, [.nilFunc]⟩),
  (224, ⟨1, .other, [.map none]⟩),
  (225, ⟨1, .other, [.nilFunc]⟩),
  (226, ⟨1, .other, [.nilFunc]⟩),
  (230, ⟨3, .struct [(0, 1, false), (1, 1, false), (2, 1, false)], [.pointer none, .pointer none, .int .u64 0]⟩),
  (233, ⟨1, .iface, [.nilIface]⟩),
  (235, ⟨1, .other, [.int .u8 0]⟩),
  (240, ⟨1, .other, [.nilFunc]⟩),
  (241, ⟨1, .other, [.nilFunc]⟩),
  (242, ⟨1, .other, [.nilFunc]⟩),
  (243, ⟨3, .struct [(0, 1, false), (1, 1, false), (2, 1, false)], [.pointer none, .slice none 0 0, .int .i64 0]⟩),
  (244, ⟨3, .struct [(0, 1, false), (1, 1, false), (2, 1, false)], [.pointer none, .slice none 0 0, .int .i64 0]⟩),
  (245, ⟨1, .other, [.nilFunc]⟩),
  (246, ⟨1, .other, [.nilFunc]⟩),
  (247, ⟨1, .other, [.nilFunc]⟩),
  (248, ⟨1, .other, [.nilFunc]⟩),
  (249, ⟨1, .other, [.nilFunc]⟩),
  (250, ⟨1, .other, [.nilFunc]⟩),
  (251, ⟨1, .other, [.nilFunc]⟩),
  (252, ⟨1, .other, [.nilFunc]⟩),
  (253, ⟨1, .other, [.nilFunc]⟩),
  (254, ⟨1, .other, [.nilFunc]⟩),
  (255, ⟨1, .other, [.nilFunc]⟩),
  (256, ⟨4, .arr 4 3 1 false, [.int .i64 0, .int .i64 0, .int .i64 0, .int .i64 0]⟩),
  (257, ⟨1, .other, [.int .u64 0]⟩),
  (258, ⟨1, .other, [.nilFunc]⟩),
  (259, ⟨1, .other, [.nilFunc]⟩),
  (260, ⟨1, .other, [.nilFunc]⟩),
  (261, ⟨1, .other, [.nilFunc]⟩),
  (262, ⟨1, .other, [.nilFunc]⟩),
  (263, ⟨1, .other, [.nilFunc]⟩),
  (264, ⟨1, .other, [.nilFunc]⟩),
  (265, ⟨1, .other, [.nilFunc]⟩),
  (266, ⟨1, .other, [.nilFunc]⟩),
  (267, ⟨1, .other, [.nilFunc]⟩),
  (268, ⟨1, .ptr, [.pointer none]⟩),
  (270, ⟨1, .other, [.nilFunc]⟩),
  (271, ⟨1, .other, [.map none]⟩),
  (272, ⟨1, .other, [.nilFunc]⟩),
  (273, ⟨2, .struct [(0, 1, false), (1, 1, false)], [.int .i64 0, .int .i64 0]⟩),
  (274, ⟨2, .struct [(0, 1, false), (1, 1, false)], [.int .i64 0, .int .i64 0]⟩),
  (275, ⟨1, .other, [.nilFunc]⟩),
  (281, ⟨1, .iface, [.nilIface]⟩),
  (283, ⟨1, .other, [.nilFunc]⟩),
  (284, ⟨1, .iface, [.nilIface]⟩),
  (285, ⟨1, .other, [.nilFunc]⟩),
  (286, ⟨1, .iface, [.nilIface]⟩),
  (287, ⟨1, .other, [.nilFunc]⟩),
  (288, ⟨1, .iface, [.nilIface]⟩),
  (290, ⟨1, .other, [.nilFunc]⟩),
  (291, ⟨1, .slice 4 1 false, [.slice none 0 0]⟩),
  (292, ⟨1, .other, [.nilFunc]⟩),
  (293, ⟨1, .other, [.int .u32 0]⟩),
  (294, ⟨1, .other, [.nilFunc]⟩),
  (295, ⟨1, .other, [.nilFunc]⟩),
  (296, ⟨1, .other, [.nilFunc]⟩),
  (297, ⟨1, .ptr, [.pointer none]⟩),
  (305, ⟨1, .other, [.nilFunc]⟩),
  (306, ⟨1, .ptr, [.pointer none]⟩),
  (311, ⟨1, .other, [.nilFunc]⟩),
  (315, ⟨1, .struct [(0, 1, false)], [.string ByteArray.empty]⟩),
  (316, ⟨1, .struct [(0, 1, false)], [.string ByteArray.empty]⟩),
  (319, ⟨1, .other, [.int .u16 0]⟩),
  (326, ⟨1, .other, [.nilFunc]⟩),
  (327, ⟨1, .ptr, [.pointer none]⟩)]
theorem tabOk1 : TIok Tryz.prog 1 ⟨1, .other, [.nilFunc]⟩ := ⟨by kernel_rfl, by kernel_rfl, .inr (by kernel_rfl)⟩
theorem tabOk2 : TIok Tryz.prog 2 ⟨1, .int, [.int .i64 0]⟩ := ⟨by kernel_rfl, by kernel_rfl, .inr (by kernel_rfl)⟩
theorem tabOk3 : TIok Tryz.prog 3 ⟨1, .int, [.int .i64 0]⟩ := ⟨by kernel_rfl, by kernel_rfl, .inr (by kernel_rfl)⟩
theorem tabOk4 : TIok Tryz.prog 4 ⟨1, .bool, [.bool false]⟩ := ⟨by kernel_rfl, by kernel_rfl, .inr (by kernel_rfl)⟩
theorem tabOk5 : TIok Tryz.prog 5 ⟨1, .other, [.int .u8 0]⟩ := ⟨by kernel_rfl, by kernel_rfl, .inr (by kernel_rfl)⟩
theorem tabOk9 : TIok Tryz.prog 9 ⟨1, .str, [.string ByteArray.empty]⟩ := ⟨by kernel_rfl, by kernel_rfl, .inr (by kernel_rfl)⟩
theorem tabOk12 : TIok Tryz.prog 12 ⟨1, .other, [.int .u64 0]⟩ := ⟨by kernel_rfl, by kernel_rfl, .inr (by kernel_rfl)⟩
theorem tabOk13 : TIok Tryz.prog 13 ⟨2, .struct [(0, 1, false), (1, 1, false)], [.string ByteArray.empty, .int .u64 0]⟩ := ⟨by kernel_rfl, by kernel_rfl, .inr (by kernel_rfl)⟩
theorem tabOk20 : TIok Tryz.prog 20 ⟨1, .iface, [.nilIface]⟩ := ⟨by kernel_rfl, by kernel_rfl, .inr (by kernel_rfl)⟩
theorem tabOk21 : TIok Tryz.prog 21 ⟨1, .other, [.int .i32 0]⟩ := ⟨by kernel_rfl, by kernel_rfl, .inr (by kernel_rfl)⟩
theorem tabOk22 : TIok Tryz.prog 22 ⟨1, .slice 92 5 true, [.slice none 0 0]⟩ := ⟨by kernel_rfl, by kernel_rfl, .inr (by kernel_rfl)⟩
theorem tabOk23 : TIok Tryz.prog 23 ⟨1, .slice 38 10 true, [.slice none 0 0]⟩ := ⟨by kernel_rfl, by kernel_rfl, .inr (by kernel_rfl)⟩
theorem tabOk24 : TIok Tryz.prog 24 ⟨1, .other, [.nilFunc]⟩ := ⟨by kernel_rfl, by kernel_rfl, .inr (by kernel_rfl)⟩
theorem tabOk25 : TIok Tryz.prog 25 ⟨1, .other, [.nilFunc]⟩ := ⟨by kernel_rfl, by kernel_rfl, .inr (by kernel_rfl)⟩
theorem tabOk26 : TIok Tryz.prog 26 ⟨1, .ptr, [.pointer none]⟩ := ⟨by kernel_rfl, by kernel_rfl, .inr (by kernel_rfl)⟩
theorem tabOk27 : TIok Tryz.prog 27 ⟨1, .iface, [.nilIface]⟩ := ⟨by kernel_rfl, by kernel_rfl, .inr (by kernel_rfl)⟩
theorem tabOk28 : TIok Tryz.prog 28 ⟨1, .iface, [.nilIface]⟩ := ⟨by kernel_rfl, by kernel_rfl, .inr (by kernel_rfl)⟩
theorem tabOk30 : TIok Tryz.prog 30 ⟨1, .other, [.nilFunc]⟩ := ⟨by kernel_rfl, by kernel_rfl, .inr (by kernel_rfl)⟩
theorem tabOk31 : TIok Tryz.prog 31 ⟨1, .other, [.nilFunc]⟩ := ⟨by kernel_rfl, by kernel_rfl, .inr (by kernel_rfl)⟩
theorem tabOk32 : TIok Tryz.prog 32 ⟨1, .other, [.nilFunc]⟩ := ⟨by kernel_rfl, by kernel_rfl, .inr (by kernel_rfl)⟩
theorem tabOk33 : TIok Tryz.prog 33 ⟨2, .struct [(0, 1, false), (1, 1, false)], [.int .i64 0, .int .i64 0]⟩ := ⟨by kernel_rfl, by kernel_rfl, .inr (by kernel_rfl)⟩
theorem tabOk34 : TIok Tryz.prog 34 ⟨2, .struct [(0, 1, false), (1, 1, false)], [.int .i64 0, .int .i64 0]⟩ := ⟨by kernel_rfl, by kernel_rfl, .inr (by kernel_rfl)⟩
theorem tabOk35 : TIok Tryz.prog 35 ⟨6, .struct [(0, 1, false), (1, 2, true), (3, 2, true), (5, 1, false)], [.int .i64 0, .int .i64 0, .int .i64 0, .int .i64 0, .int .i64 0, .int .i64 0]⟩ := ⟨by kernel_rfl, by kernel_rfl, .inr (by kernel_rfl)⟩
theorem tabOk36 : TIok Tryz.prog 36 ⟨6, .struct [(0, 1, false), (1, 2, true), (3, 2, true), (5, 1, false)], [.int .i64 0, .int .i64 0, .int .i64 0, .int .i64 0, .int .i64 0, .int .i64 0]⟩ := ⟨by kernel_rfl, by kernel_rfl, .inr (by kernel_rfl)⟩
theorem tabOk37 : TIok Tryz.prog 37 ⟨10, .struct [(0, 1, false), (1, 1, false), (2, 1, false), (3, 6, true), (9, 1, false)], [.string ByteArray.empty, .int .i64 0, .int .i64 0, .int .i64 0, .int .i64 0, .int .i64 0, .int .i64 0, .int .i64 0, .int .i64 0, .slice none 0 0]⟩ := ⟨by kernel_rfl, by kernel_rfl, .inr (by kernel_rfl)⟩
theorem tabOk38 : TIok Tryz.prog 38 ⟨10, .struct [(0, 1, false), (1, 1, false), (2, 1, false), (3, 6, true), (9, 1, false)], [.string ByteArray.empty, .int .i64 0, .int .i64 0, .int .i64 0, .int .i64 0, .int .i64 0, .int .i64 0, .int .i64 0, .int .i64 0, .slice none 0 0]⟩ := ⟨by kernel_rfl, by kernel_rfl, .inr (by kernel_rfl)⟩
theorem tabOk39 : TIok Tryz.prog 39 ⟨1, .other, [.nilFunc]⟩ := ⟨by kernel_rfl, by kernel_rfl, .inr (by kernel_rfl)⟩
theorem tabOk40 : TIok Tryz.prog 40 ⟨1, .ptr, [.pointer none]⟩ := ⟨by kernel_rfl, by kernel_rfl, .inr (by kernel_rfl)⟩
theorem tabOk42 : TIok Tryz.prog 42 ⟨1, .other, [.nilFunc]⟩ := ⟨by kernel_rfl, by kernel_rfl, .inr (by kernel_rfl)⟩
theorem tabOk43 : TIok Tryz.prog 43 ⟨1, .ptr, [.pointer none]⟩ := ⟨by kernel_rfl, by kernel_rfl, .inr (by kernel_rfl)⟩
theorem tabOk44 : TIok Tryz.prog 44 ⟨1, .ptr, [.pointer none]⟩ := ⟨by kernel_rfl, by kernel_rfl, .inr (by kernel_rfl)⟩
theorem tabOk45 : TIok Tryz.prog 45 ⟨1, .ptr, [.pointer none]⟩ := ⟨by kernel_rfl, by kernel_rfl, .inr (by kernel_rfl)⟩
theorem tabOk46 : TIok Tryz.prog 46 ⟨1, .ptr, [.pointer none]⟩ := ⟨by kernel_rfl, by kernel_rfl, .inr (by kernel_rfl)⟩
theorem tabOk47 : TIok Tryz.prog 47 ⟨1, .ptr, [.pointer none]⟩ := ⟨by kernel_rfl, by kernel_rfl, .inr (by kernel_rfl)⟩
theorem tabOk48 : TIok Tryz.prog 48 ⟨8, .struct [(0, 1, false), (1, 1, false), (2, 1, false), (3, 1, false), (4, 1, false), (5, 1, false), (6, 1, false), (7, 1, false)], [.pointer none, .int .i64 0, .int .i64 0, .pointer none, .pointer none, .pointer none, .pointer none, .slice none 0 0]⟩ := ⟨by kernel_rfl, by kernel_rfl, .inr (by kernel_rfl)⟩
theorem tabOk49 : TIok Tryz.prog 49 ⟨8, .struct [(0, 1, false), (1, 1, false), (2, 1, false), (3, 1, false), (4, 1, false), (5, 1, false), (6, 1, false), (7, 1, false)], [.pointer none, .int .i64 0, .int .i64 0, .pointer none, .pointer none, .pointer none, .pointer none, .slice none 0 0]⟩ := ⟨by kernel_rfl, by kernel_rfl, .inr (by kernel_rfl)⟩
theorem tabOk51 : TIok Tryz.prog 51 ⟨1, .other, [.nilFunc]⟩ := ⟨by kernel_rfl, by kernel_rfl, .inr (by kernel_rfl)⟩
theorem tabOk52 : TIok Tryz.prog 52 ⟨1, .other, [.nilFunc]⟩ := ⟨by kernel_rfl, by kernel_rfl, .inr (by kernel_rfl)⟩
theorem tabOk53 : TIok Tryz.prog 53 ⟨1, .other, [.nilFunc]⟩ := ⟨by kernel_rfl, by kernel_rfl, .inr (by kernel_rfl)⟩
theorem tabOk54 : TIok Tryz.prog 54 ⟨1, .slice 59 10 true, [.slice none 0 0]⟩ := ⟨by kernel_rfl, by kernel_rfl, .inr (by kernel_rfl)⟩
theorem tabOk55 : TIok Tryz.prog 55 ⟨1, .other, [.nilFunc]⟩ := ⟨by kernel_rfl, by kernel_rfl, .inr (by kernel_rfl)⟩
theorem tabOk56 : TIok Tryz.prog 56 ⟨8, .struct [(0, 1, false), (1, 2, true), (3, 2, true), (5, 1, false), (6, 1, false), (7, 1, false)], [.int .i64 0, .int .i64 0, .int .i64 0, .int .i64 0, .int .i64 0, .int .i64 0, .int .i64 0, .int .i64 0]⟩ := ⟨by kernel_rfl, by kernel_rfl, .inr (by kernel_rfl)⟩
theorem tabOk57 : TIok Tryz.prog 57 ⟨8, .struct [(0, 1, false), (1, 2, true), (3, 2, true), (5, 1, false), (6, 1, false), (7, 1, false)], [.int .i64 0, .int .i64 0, .int .i64 0, .int .i64 0, .int .i64 0, .int .i64 0, .int .i64 0, .int .i64 0]⟩ := ⟨by kernel_rfl, by kernel_rfl, .inr (by kernel_rfl)⟩
theorem tabOk58 : TIok Tryz.prog 58 ⟨10, .struct [(0, 1, false), (1, 1, false), (2, 8, true)], [.int .i64 0, .int .i64 0, .int .i64 0, .int .i64 0, .int .i64 0, .int .i64 0, .int .i64 0, .int .i64 0, .int .i64 0, .int .i64 0]⟩ := ⟨by kernel_rfl, by kernel_rfl, .inr (by kernel_rfl)⟩
theorem tabOk59 : TIok Tryz.prog 59 ⟨10, .struct [(0, 1, false), (1, 1, false), (2, 8, true)], [.int .i64 0, .int .i64 0, .int .i64 0, .int .i64 0, .int .i64 0, .int .i64 0, .int .i64 0, .int .i64 0, .int .i64 0, .int .i64 0]⟩ := ⟨by kernel_rfl, by kernel_rfl, .inr (by kernel_rfl)⟩
theorem tabOk60 : TIok Tryz.prog 60 ⟨1, .slice 64 2 true, [.slice none 0 0]⟩ := ⟨by kernel_rfl, by kernel_rfl, .inr (by kernel_rfl)⟩
theorem tabOk61 : TIok Tryz.prog 61 ⟨1, .other, [.nilFunc]⟩ := ⟨by kernel_rfl, by kernel_rfl, .inr (by kernel_rfl)⟩
theorem tabOk62 : TIok Tryz.prog 62 ⟨1, .slice 3 1 false, [.slice none 0 0]⟩ := ⟨by kernel_rfl, by kernel_rfl, .inr (by kernel_rfl)⟩
theorem tabOk63 : TIok Tryz.prog 63 ⟨2, .struct [(0, 1, false), (1, 1, false)], [.int .i64 0, .int .i64 0]⟩ := ⟨by kernel_rfl, by kernel_rfl, .inr (by kernel_rfl)⟩
theorem tabOk64 : TIok Tryz.prog 64 ⟨2, .struct [(0, 1, false), (1, 1, false)], [.int .i64 0, .int .i64 0]⟩ := ⟨by kernel_rfl, by kernel_rfl, .inr (by kernel_rfl)⟩
theorem tabOk65 : TIok Tryz.prog 65 ⟨1, .other, [.nilFunc]⟩ := ⟨by kernel_rfl, by kernel_rfl, .inr (by kernel_rfl)⟩
theorem tabOk66 : TIok Tryz.prog 66 ⟨1, .other, [.nilFunc]⟩ := ⟨by kernel_rfl, by kernel_rfl, .inr (by kernel_rfl)⟩
theorem tabOk67 : TIok Tryz.prog 67 ⟨1, .other, [.nilFunc]⟩ := ⟨by kernel_rfl, by kernel_rfl, .inr (by kernel_rfl)⟩
theorem tabOk68 : TIok Tryz.prog 68 ⟨2, .struct [(0, 1, false), (1, 1, false)], [.int .i64 0, .int .i64 0]⟩ := ⟨by kernel_rfl, by kernel_rfl, .inr (by kernel_rfl)⟩
theorem tabOk69 : TIok Tryz.prog 69 ⟨2, .struct [(0, 1, false), (1, 1, false)], [.int .i64 0, .int .i64 0]⟩ := ⟨by kernel_rfl, by kernel_rfl, .inr (by kernel_rfl)⟩
theorem tabOk70 : TIok Tryz.prog 70 ⟨1, .other, [.nilFunc]⟩ := ⟨by kernel_rfl, by kernel_rfl, .inr (by kernel_rfl)⟩
theorem tabOk71 : TIok Tryz.prog 71 ⟨1, .other, [.nilFunc]⟩ := ⟨by kernel_rfl, by kernel_rfl, .inr (by kernel_rfl)⟩
theorem tabOk72 : TIok Tryz.prog 72 ⟨1, .ptr, [.pointer none]⟩ := ⟨by kernel_rfl, by kernel_rfl, .inr (by kernel_rfl)⟩
theorem tabOk73 : TIok Tryz.prog 73 ⟨1, .other, [.nilFunc]⟩ := ⟨by kernel_rfl, by kernel_rfl, .inr (by kernel_rfl)⟩
theorem tabOk74 : TIok Tryz.prog 74 ⟨1, .other, [.nilFunc]⟩ := ⟨by kernel_rfl, by kernel_rfl, .inr (by kernel_rfl)⟩
theorem tabOk75 : TIok Tryz.prog 75 ⟨1, .other, [.nilFunc]⟩ := ⟨by kernel_rfl, by kernel_rfl, .inr (by kernel_rfl)⟩
theorem tabOk76 : TIok Tryz.prog 76 ⟨1, .other, [.nilFunc]⟩ := ⟨by kernel_rfl, by kernel_rfl, .inr (by kernel_rfl)⟩
theorem tabOk77 : TIok Tryz.prog 77 ⟨1, .other, [.nilFunc]⟩ := ⟨by kernel_rfl, by kernel_rfl, .inr (by kernel_rfl)⟩
theorem tabOk78 : TIok Tryz.prog 78 ⟨1, .other, [.nilFunc]⟩ := ⟨by kernel_rfl, by kernel_rfl, .inr (by kernel_rfl)⟩
theorem tabOk79 : TIok Tryz.prog 79 ⟨1, .slice 134 5 true, [.slice none 0 0]⟩ := ⟨by kernel_rfl, by kernel_rfl, .inr (by kernel_rfl)⟩
theorem tabOk80 : TIok Tryz.prog 80 ⟨1, .other, [.nilFunc]⟩ := ⟨by kernel_rfl, by kernel_rfl, .inr (by kernel_rfl)⟩
theorem tabOk81 : TIok Tryz.prog 81 ⟨1, .slice 107 5 true, [.slice none 0 0]⟩ := ⟨by kernel_rfl, by kernel_rfl, .inr (by kernel_rfl)⟩
theorem tabOk82 : TIok Tryz.prog 82 ⟨1, .other, [.nilFunc]⟩ := ⟨by kernel_rfl, by kernel_rfl, .inr (by kernel_rfl)⟩
theorem tabOk83 : TIok Tryz.prog 83 ⟨1, .other, [.nilFunc]⟩ := ⟨by kernel_rfl, by kernel_rfl, .inr (by kernel_rfl)⟩
theorem tabOk84 : TIok Tryz.prog 84 ⟨1, .slice 135 2 true, [.slice none 0 0]⟩ := ⟨by kernel_rfl, by kernel_rfl, .inr (by kernel_rfl)⟩
theorem tabOk85 : TIok Tryz.prog 85 ⟨1, .other, [.nilFunc]⟩ := ⟨by kernel_rfl, by kernel_rfl, .inr (by kernel_rfl)⟩
theorem tabOk86 : TIok Tryz.prog 86 ⟨1, .other, [.nilFunc]⟩ := ⟨by kernel_rfl, by kernel_rfl, .inr (by kernel_rfl)⟩
theorem tabOk87 : TIok Tryz.prog 87 ⟨1, .other, [.nilFunc]⟩ := ⟨by kernel_rfl, by kernel_rfl, .inr (by kernel_rfl)⟩
theorem tabOk88 : TIok Tryz.prog 88 ⟨1, .other, [.nilFunc]⟩ := ⟨by kernel_rfl, by kernel_rfl, .inr (by kernel_rfl)⟩
theorem tabOk89 : TIok Tryz.prog 89 ⟨1, .other, [.nilFunc]⟩ := ⟨by kernel_rfl, by kernel_rfl, .inr (by kernel_rfl)⟩
theorem tabOk90 : TIok Tryz.prog 90 ⟨1, .other, [.nilFunc]⟩ := ⟨by kernel_rfl, by kernel_rfl, .inr (by kernel_rfl)⟩
theorem tabOk91 : TIok Tryz.prog 91 ⟨5, .struct [(0, 1, false), (1, 1, false), (2, 1, false), (3, 1, false), (4, 1, false)], [.bool false, .bool false, .int .i64 0, .int .i64 0, .int .i64 0]⟩ := ⟨by kernel_rfl, by kernel_rfl, .inr (by kernel_rfl)⟩
theorem tabOk92 : TIok Tryz.prog 92 ⟨5, .struct [(0, 1, false), (1, 1, false), (2, 1, false), (3, 1, false), (4, 1, false)], [.bool false, .bool false, .int .i64 0, .int .i64 0, .int .i64 0]⟩ := ⟨by kernel_rfl, by kernel_rfl, .inr (by kernel_rfl)⟩
theorem tabOk93 : TIok Tryz.prog 93 ⟨1, .ptr, [.pointer none]⟩ := ⟨by kernel_rfl, by kernel_rfl, .inr (by kernel_rfl)⟩
theorem tabOk94 : TIok Tryz.prog 94 ⟨2, .arr 2 93 1 false, [.pointer none, .pointer none]⟩ := ⟨by kernel_rfl, by kernel_rfl, .inr (by kernel_rfl)⟩
theorem tabOk95 : TIok Tryz.prog 95 ⟨7, .struct [(0, 2, true), (2, 1, false), (3, 1, false), (4, 1, false), (5, 1, false), (6, 1, false)], [.pointer none, .pointer none, .slice none 0 0, .slice none 0 0, .int .i64 0, .int .i64 0, .slice none 0 0]⟩ := ⟨by kernel_rfl, by kernel_rfl, .inr (by kernel_rfl)⟩
theorem tabOk96 : TIok Tryz.prog 96 ⟨7, .struct [(0, 2, true), (2, 1, false), (3, 1, false), (4, 1, false), (5, 1, false), (6, 1, false)], [.pointer none, .pointer none, .slice none 0 0, .slice none 0 0, .int .i64 0, .int .i64 0, .slice none 0 0]⟩ := ⟨by kernel_rfl, by kernel_rfl, .inr (by kernel_rfl)⟩
theorem tabOk97 : TIok Tryz.prog 97 ⟨1, .ptr, [.pointer none]⟩ := ⟨by kernel_rfl, by kernel_rfl, .inr (by kernel_rfl)⟩
theorem tabOk98 : TIok Tryz.prog 98 ⟨1, .other, [.nilFunc]⟩ := ⟨by kernel_rfl, by kernel_rfl, .inr (by kernel_rfl)⟩
theorem tabOk99 : TIok Tryz.prog 99 ⟨1, .other, [.nilFunc]⟩ := ⟨by kernel_rfl, by kernel_rfl, .inr (by kernel_rfl)⟩
theorem tabOk100 : TIok Tryz.prog 100 ⟨2, .struct [(0, 1, false), (1, 1, false)], [.pointer none, .pointer none]⟩ := ⟨by kernel_rfl, by kernel_rfl, .inr (by kernel_rfl)⟩
theorem tabOk101 : TIok Tryz.prog 101 ⟨2, .struct [(0, 1, false), (1, 1, false)], [.pointer none, .pointer none]⟩ := ⟨by kernel_rfl, by kernel_rfl, .inr (by kernel_rfl)⟩
theorem tabOk102 : TIok Tryz.prog 102 ⟨1, .other, [.nilFunc]⟩ := ⟨by kernel_rfl, by kernel_rfl, .inr (by kernel_rfl)⟩
theorem tabOk104 : TIok Tryz.prog 104 ⟨1, .other, [.nilFunc]⟩ := ⟨by kernel_rfl, by kernel_rfl, .inr (by kernel_rfl)⟩
theorem tabOk105 : TIok Tryz.prog 105 ⟨1, .other, [.nilFunc]⟩ := ⟨by kernel_rfl, by kernel_rfl, .inr (by kernel_rfl)⟩
theorem tabOk106 : TIok Tryz.prog 106 ⟨5, .struct [(0, 1, false), (1, 1, false), (2, 1, false), (3, 1, false), (4, 1, false)], [.int .i64 0, .int .i64 0, .int .i64 0, .bool false, .slice none 0 0]⟩ := ⟨by kernel_rfl, by kernel_rfl, .inr (by kernel_rfl)⟩
theorem tabOk107 : TIok Tryz.prog 107 ⟨5, .struct [(0, 1, false), (1, 1, false), (2, 1, false), (3, 1, false), (4, 1, false)], [.int .i64 0, .int .i64 0, .int .i64 0, .bool false, .slice none 0 0]⟩ := ⟨by kernel_rfl, by kernel_rfl, .inr (by kernel_rfl)⟩
theorem tabOk109 : TIok Tryz.prog 109 ⟨1, .other, [.nilFunc]⟩ := ⟨by kernel_rfl, by kernel_rfl, .inr (by kernel_rfl)⟩
theorem tabOk111 : TIok Tryz.prog 111 ⟨1, .other, [.nilFunc]⟩ := ⟨by kernel_rfl, by kernel_rfl, .inr (by kernel_rfl)⟩
theorem tabOk112 : TIok Tryz.prog 112 ⟨1, .other, [.nilFunc]⟩ := ⟨by kernel_rfl, by kernel_rfl, .inr (by kernel_rfl)⟩
theorem tabOk113 : TIok Tryz.prog 113 ⟨1, .other, [.nilFunc]⟩ := ⟨by kernel_rfl, by kernel_rfl, .inr (by kernel_rfl)⟩
theorem tabOk114 : TIok Tryz.prog 114 ⟨4, .struct [(0, 1, false), (1, 1, false), (2, 1, false), (3, 1, false)], [.int .i64 0, .int .i64 0, .int .i64 0, .bool false]⟩ := ⟨by kernel_rfl, by kernel_rfl, .inr (by kernel_rfl)⟩
theorem tabOk115 : TIok Tryz.prog 115 ⟨4, .struct [(0, 1, false), (1, 1, false), (2, 1, false), (3, 1, false)], [.int .i64 0, .int .i64 0, .int .i64 0, .bool false]⟩ := ⟨by kernel_rfl, by kernel_rfl, .inr (by kernel_rfl)⟩
theorem tabOk116 : TIok Tryz.prog 116 ⟨1, .other, [.nilFunc]⟩ := ⟨by kernel_rfl, by kernel_rfl, .inr (by kernel_rfl)⟩
theorem tabOk117 : TIok Tryz.prog 117 ⟨1, .other, [.nilFunc]⟩ := ⟨by kernel_rfl, by kernel_rfl, .inr (by kernel_rfl)⟩
theorem tabOk118 : TIok Tryz.prog 118 ⟨1, .other, [.nilFunc]⟩ := ⟨by kernel_rfl, by kernel_rfl, .inr (by kernel_rfl)⟩
theorem tabOk119 : TIok Tryz.prog 119 ⟨1, .other, [.nilFunc]⟩ := ⟨by kernel_rfl, by kernel_rfl, .inr (by kernel_rfl)⟩
theorem tabOk120 : TIok Tryz.prog 120 ⟨1, .slice 126 1 false, [.slice none 0 0]⟩ := ⟨by kernel_rfl, by kernel_rfl, .inr (by kernel_rfl)⟩
theorem tabOk121 : TIok Tryz.prog 121 ⟨1, .slice 124 1 false, [.slice none 0 0]⟩ := ⟨by kernel_rfl, by kernel_rfl, .inr (by kernel_rfl)⟩
theorem tabOk122 : TIok Tryz.prog 122 ⟨7, .struct [(0, 1, false), (1, 1, false), (2, 1, false), (3, 1, false), (4, 1, false), (5, 1, false), (6, 1, false)], [.slice none 0 0, .slice none 0 0, .slice none 0 0, .slice none 0 0, .int .i64 0, .int .i64 0, .slice none 0 0]⟩ := ⟨by kernel_rfl, by kernel_rfl, .inr (by kernel_rfl)⟩
theorem tabOk123 : TIok Tryz.prog 123 ⟨7, .struct [(0, 1, false), (1, 1, false), (2, 1, false), (3, 1, false), (4, 1, false), (5, 1, false), (6, 1, false)], [.slice none 0 0, .slice none 0 0, .slice none 0 0, .slice none 0 0, .int .i64 0, .int .i64 0, .slice none 0 0]⟩ := ⟨by kernel_rfl, by kernel_rfl, .inr (by kernel_rfl)⟩
theorem tabOk124 : TIok Tryz.prog 124 ⟨1, .ptr, [.pointer none]⟩ := ⟨by kernel_rfl, by kernel_rfl, .inr (by kernel_rfl)⟩
theorem tabOk125 : TIok Tryz.prog 125 ⟨1, .other, [.nilFunc]⟩ := ⟨by kernel_rfl, by kernel_rfl, .inr (by kernel_rfl)⟩
theorem tabOk126 : TIok Tryz.prog 126 ⟨1, .ptr, [.pointer none]⟩ := ⟨by kernel_rfl, by kernel_rfl, .inr (by kernel_rfl)⟩
theorem tabOk128 : TIok Tryz.prog 128 ⟨1, .other, [.nilFunc]⟩ := ⟨by kernel_rfl, by kernel_rfl, .inr (by kernel_rfl)⟩
theorem tabOk129 : TIok Tryz.prog 129 ⟨1, .other, [.nilFunc]⟩ := ⟨by kernel_rfl, by kernel_rfl, .inr (by kernel_rfl)⟩
theorem tabOk131 : TIok Tryz.prog 131 ⟨1, .other, [.nilFunc]⟩ := ⟨by kernel_rfl, by kernel_rfl, .inr (by kernel_rfl)⟩
theorem tabOk132 : TIok Tryz.prog 132 ⟨1, .other, [.nilFunc]⟩ := ⟨by kernel_rfl, by kernel_rfl, .inr (by kernel_rfl)⟩
theorem tabOk133 : TIok Tryz.prog 133 ⟨1, .other, [.nilFunc]⟩ := ⟨by kernel_rfl, by kernel_rfl, .inr (by kernel_rfl)⟩
theorem tabOk134 : TIok Tryz.prog 134 ⟨5, .struct [(0, 1, false), (1, 1, false), (2, 1, false), (3, 1, false), (4, 1, false)], [.int .i64 0, .int .i64 0, .int .i64 0, .bool false, .slice none 0 0]⟩ := ⟨by kernel_rfl, by kernel_rfl, .inr (by kernel_rfl)⟩
theorem tabOk135 : TIok Tryz.prog 135 ⟨2, .struct [(0, 1, false), (1, 1, false)], [.int .i64 0, .int .i64 0]⟩ := ⟨by kernel_rfl, by kernel_rfl, .inr (by kernel_rfl)⟩
theorem tabOk136 : TIok Tryz.prog 136 ⟨1, .other, [.nilFunc]⟩ := ⟨by kernel_rfl, by kernel_rfl, .inr (by kernel_rfl)⟩
theorem tabOk137 : TIok Tryz.prog 137 ⟨1, .other, [.nilFunc]⟩ := ⟨by kernel_rfl, by kernel_rfl, .inr (by kernel_rfl)⟩
theorem tabOk138 : TIok Tryz.prog 138 ⟨1, .ptr, [.pointer none]⟩ := ⟨by kernel_rfl, by kernel_rfl, .inr (by kernel_rfl)⟩
theorem tabOk139 : TIok Tryz.prog 139 ⟨2, .struct [(0, 1, false), (1, 1, false)], [.int .i64 0, .nilIface]⟩ := ⟨by kernel_rfl, by kernel_rfl, .inr (by kernel_rfl)⟩
theorem tabOk140 : TIok Tryz.prog 140 ⟨2, .struct [(0, 1, false), (1, 1, false)], [.int .i64 0, .nilIface]⟩ := ⟨by kernel_rfl, by kernel_rfl, .inr (by kernel_rfl)⟩
theorem tabOk141 : TIok Tryz.prog 141 ⟨64, .arr 64 5 1 false, []⟩ := ⟨by kernel_rfl, by kernel_rfl, .inl rfl⟩
theorem tabOk142 : TIok Tryz.prog 142 ⟨66, .struct [(0, 64, true), (64, 1, false), (65, 1, false)], []⟩ := ⟨by kernel_rfl, by kernel_rfl, .inl rfl⟩
theorem tabOk143 : TIok Tryz.prog 143 ⟨66, .struct [(0, 64, true), (64, 1, false), (65, 1, false)], []⟩ := ⟨by kernel_rfl, by kernel_rfl, .inl rfl⟩
theorem tabOk145 : TIok Tryz.prog 145 ⟨1, .other, [.nilFunc]⟩ := ⟨by kernel_rfl, by kernel_rfl, .inr (by kernel_rfl)⟩
theorem tabOk147 : TIok Tryz.prog 147 ⟨1, .other, [.nilFunc]⟩ := ⟨by kernel_rfl, by kernel_rfl, .inr (by kernel_rfl)⟩
theorem tabOk149 : TIok Tryz.prog 149 ⟨1, .other, [.nilFunc]⟩ := ⟨by kernel_rfl, by kernel_rfl, .inr (by kernel_rfl)⟩
theorem tabOk150 : TIok Tryz.prog 150 ⟨1, .other, [.nilFunc]⟩ := ⟨by kernel_rfl, by kernel_rfl, .inr (by kernel_rfl)⟩
theorem tabOk151 : TIok Tryz.prog 151 ⟨1, .other, [.nilFunc]⟩ := ⟨by kernel_rfl, by kernel_rfl, .inr (by kernel_rfl)⟩
theorem tabOk152 : TIok Tryz.prog 152 ⟨1, .other, [.nilFunc]⟩ := ⟨by kernel_rfl, by kernel_rfl, .inr (by kernel_rfl)⟩
theorem tabOk153 : TIok Tryz.prog 153 ⟨1, .other, [.nilFunc]⟩ := ⟨by kernel_rfl, by kernel_rfl, .inr (by kernel_rfl)⟩
theorem tabOk154 : TIok Tryz.prog 154 ⟨1, .other, [.nilFunc]⟩ := ⟨by kernel_rfl, by kernel_rfl, .inr (by kernel_rfl)⟩
theorem tabOk156 : TIok Tryz.prog 156 ⟨1, .other, [.nilFunc]⟩ := ⟨by kernel_rfl, by kernel_rfl, .inr (by kernel_rfl)⟩
theorem tabOk157 : TIok Tryz.prog 157 ⟨1, .other, [.nilFunc]⟩ := ⟨by kernel_rfl, by kernel_rfl, .inr (by kernel_rfl)⟩
theorem tabOk158 : TIok Tryz.prog 158 ⟨1, .other, [.nilFunc]⟩ := ⟨by kernel_rfl, by kernel_rfl, .inr (by kernel_rfl)⟩
theorem tabOk159 : TIok Tryz.prog 159 ⟨1, .other, [.nilFunc]⟩ := ⟨by kernel_rfl, by kernel_rfl, .inr (by kernel_rfl)⟩
theorem tabOk160 : TIok Tryz.prog 160 ⟨320, .arr 32 59 10 true, []⟩ := ⟨by kernel_rfl, by kernel_rfl, .inl rfl⟩
theorem tabOk161 : TIok Tryz.prog 161 ⟨321, .struct [(0, 1, false), (1, 320, true)], []⟩ := ⟨by kernel_rfl, by kernel_rfl, .inl rfl⟩
theorem tabOk162 : TIok Tryz.prog 162 ⟨321, .struct [(0, 1, false), (1, 320, true)], []⟩ := ⟨by kernel_rfl, by kernel_rfl, .inl rfl⟩
theorem tabOk163 : TIok Tryz.prog 163 ⟨321, .struct [(0, 1, false), (1, 320, true)], []⟩ := ⟨by kernel_rfl, by kernel_rfl, .inl rfl⟩
theorem tabOk164 : TIok Tryz.prog 164 ⟨321, .struct [(0, 1, false), (1, 320, true)], []⟩ := ⟨by kernel_rfl, by kernel_rfl, .inl rfl⟩
theorem tabOk165 : TIok Tryz.prog 165 ⟨1, .other, [.nilFunc]⟩ := ⟨by kernel_rfl, by kernel_rfl, .inr (by kernel_rfl)⟩
theorem tabOk166 : TIok Tryz.prog 166 ⟨1, .ptr, [.pointer none]⟩ := ⟨by kernel_rfl, by kernel_rfl, .inr (by kernel_rfl)⟩
theorem tabOk167 : TIok Tryz.prog 167 ⟨1, .slice 28 1 false, [.slice none 0 0]⟩ := ⟨by kernel_rfl, by kernel_rfl, .inr (by kernel_rfl)⟩
theorem tabOk168 : TIok Tryz.prog 168 ⟨1, .other, [.nilFunc]⟩ := ⟨by kernel_rfl, by kernel_rfl, .inr (by kernel_rfl)⟩
theorem tabOk169 : TIok Tryz.prog 169 ⟨1, .slice 5 1 false, [.slice none 0 0]⟩ := ⟨by kernel_rfl, by kernel_rfl, .inr (by kernel_rfl)⟩
theorem tabOk170 : TIok Tryz.prog 170 ⟨4, .struct [(0, 1, false), (1, 1, false), (2, 1, false), (3, 1, false)], [.string ByteArray.empty, .bool false, .int .i64 0, .bool false]⟩ := ⟨by kernel_rfl, by kernel_rfl, .inr (by kernel_rfl)⟩
theorem tabOk171 : TIok Tryz.prog 171 ⟨4, .struct [(0, 1, false), (1, 1, false), (2, 1, false), (3, 1, false)], [.string ByteArray.empty, .bool false, .int .i64 0, .bool false]⟩ := ⟨by kernel_rfl, by kernel_rfl, .inr (by kernel_rfl)⟩
theorem tabOk172 : TIok Tryz.prog 172 ⟨1, .ptr, [.pointer none]⟩ := ⟨by kernel_rfl, by kernel_rfl, .inr (by kernel_rfl)⟩
theorem tabOk173 : TIok Tryz.prog 173 ⟨1, .other, [.nilFunc]⟩ := ⟨by kernel_rfl, by kernel_rfl, .inr (by kernel_rfl)⟩
theorem tabOk174 : TIok Tryz.prog 174 ⟨5, .struct [(0, 1, false), (1, 1, false), (2, 1, false), (3, 1, false), (4, 1, false)], [.pointer none, .int .i64 0, .int .i64 0, .int .i64 0, .bool false]⟩ := ⟨by kernel_rfl, by kernel_rfl, .inr (by kernel_rfl)⟩
theorem tabOk175 : TIok Tryz.prog 175 ⟨5, .struct [(0, 1, false), (1, 1, false), (2, 1, false), (3, 1, false), (4, 1, false)], [.pointer none, .int .i64 0, .int .i64 0, .int .i64 0, .bool false]⟩ := ⟨by kernel_rfl, by kernel_rfl, .inr (by kernel_rfl)⟩
theorem tabOk176 : TIok Tryz.prog 176 ⟨1, .ptr, [.pointer none]⟩ := ⟨by kernel_rfl, by kernel_rfl, .inr (by kernel_rfl)⟩
theorem tabOk177 : TIok Tryz.prog 177 ⟨4, .struct [(0, 1, false), (1, 1, false), (2, 1, false), (3, 1, false)], [.int .i64 0, .int .i64 0, .int .i64 0, .bool false]⟩ := ⟨by kernel_rfl, by kernel_rfl, .inr (by kernel_rfl)⟩
theorem tabOk178 : TIok Tryz.prog 178 ⟨4, .struct [(0, 1, false), (1, 1, false), (2, 1, false), (3, 1, false)], [.int .i64 0, .int .i64 0, .int .i64 0, .bool false]⟩ := ⟨by kernel_rfl, by kernel_rfl, .inr (by kernel_rfl)⟩
theorem tabOk179 : TIok Tryz.prog 179 ⟨1, .ptr, [.pointer none]⟩ := ⟨by kernel_rfl, by kernel_rfl, .inr (by kernel_rfl)⟩
theorem tabOk180 : TIok Tryz.prog 180 ⟨1, .other, [.nilFunc]⟩ := ⟨by kernel_rfl, by kernel_rfl, .inr (by kernel_rfl)⟩
theorem tabOk181 : TIok Tryz.prog 181 ⟨1, .ptr, [.pointer none]⟩ := ⟨by kernel_rfl, by kernel_rfl, .inr (by kernel_rfl)⟩
theorem tabOk182 : TIok Tryz.prog 182 ⟨2, .struct [(0, 1, false), (1, 1, false)], [.int .i64 0, .slice none 0 0]⟩ := ⟨by kernel_rfl, by kernel_rfl, .inr (by kernel_rfl)⟩
theorem tabOk183 : TIok Tryz.prog 183 ⟨2, .struct [(0, 1, false), (1, 1, false)], [.int .i64 0, .slice none 0 0]⟩ := ⟨by kernel_rfl, by kernel_rfl, .inr (by kernel_rfl)⟩
theorem tabOk184 : TIok Tryz.prog 184 ⟨1, .ptr, [.pointer none]⟩ := ⟨by kernel_rfl, by kernel_rfl, .inr (by kernel_rfl)⟩
theorem tabOk185 : TIok Tryz.prog 185 ⟨8, .struct [(0, 1, false), (1, 1, false), (2, 1, false), (3, 1, false), (4, 1, false), (5, 1, false), (6, 1, false), (7, 1, false)], [.int .i64 0, .int .i64 0, .pointer none, .pointer none, .pointer none, .pointer none, .pointer none, .slice none 0 0]⟩ := ⟨by kernel_rfl, by kernel_rfl, .inr (by kernel_rfl)⟩
theorem tabOk186 : TIok Tryz.prog 186 ⟨8, .struct [(0, 1, false), (1, 1, false), (2, 1, false), (3, 1, false), (4, 1, false), (5, 1, false), (6, 1, false), (7, 1, false)], [.int .i64 0, .int .i64 0, .pointer none, .pointer none, .pointer none, .pointer none, .pointer none, .slice none 0 0]⟩ := ⟨by kernel_rfl, by kernel_rfl, .inr (by kernel_rfl)⟩
theorem tabOk187 : TIok Tryz.prog 187 ⟨1, .other, [.nilFunc]⟩ := ⟨by kernel_rfl, by kernel_rfl, .inr (by kernel_rfl)⟩
theorem tabOk189 : TIok Tryz.prog 189 ⟨1, .other, [.nilFunc]⟩ := ⟨by kernel_rfl, by kernel_rfl, .inr (by kernel_rfl)⟩
theorem tabOk190 : TIok Tryz.prog 190 ⟨1, .other, [.nilFunc]⟩ := ⟨by kernel_rfl, by kernel_rfl, .inr (by kernel_rfl)⟩
theorem tabOk192 : TIok Tryz.prog 192 ⟨1, .other, [.nilFunc]⟩ := ⟨by kernel_rfl, by kernel_rfl, .inr (by kernel_rfl)⟩
theorem tabOk193 : TIok Tryz.prog 193 ⟨1, .other, [.nilFunc]⟩ := ⟨by kernel_rfl, by kernel_rfl, .inr (by kernel_rfl)⟩
theorem tabOk194 : TIok Tryz.prog 194 ⟨2, .struct [(0, 1, false), (1, 1, false)], [.int .i64 0, .slice none 0 0]⟩ := ⟨by kernel_rfl, by kernel_rfl, .inr (by kernel_rfl)⟩
theorem tabOk195 : TIok Tryz.prog 195 ⟨2, .struct [(0, 1, false), (1, 1, false)], [.int .i64 0, .slice none 0 0]⟩ := ⟨by kernel_rfl, by kernel_rfl, .inr (by kernel_rfl)⟩
theorem tabOk196 : TIok Tryz.prog 196 ⟨1, .other, [.nilFunc]⟩ := ⟨by kernel_rfl, by kernel_rfl, .inr (by kernel_rfl)⟩
theorem tabOk197 : TIok Tryz.prog 197 ⟨1, .other, [.nilFunc]⟩ := ⟨by kernel_rfl, by kernel_rfl, .inr (by kernel_rfl)⟩
theorem tabOk198 : TIok Tryz.prog 198 ⟨5, .struct [(0, 1, false), (1, 1, false), (2, 1, false), (3, 1, false), (4, 1, false)], [.pointer none, .int .i64 0, .int .i64 0, .int .i64 0, .bool false]⟩ := ⟨by kernel_rfl, by kernel_rfl, .inr (by kernel_rfl)⟩
theorem tabOk199 : TIok Tryz.prog 199 ⟨5, .struct [(0, 1, false), (1, 1, false), (2, 1, false), (3, 1, false), (4, 1, false)], [.pointer none, .int .i64 0, .int .i64 0, .int .i64 0, .bool false]⟩ := ⟨by kernel_rfl, by kernel_rfl, .inr (by kernel_rfl)⟩
theorem tabOk200 : TIok Tryz.prog 200 ⟨1, .other, [.nilFunc]⟩ := ⟨by kernel_rfl, by kernel_rfl, .inr (by kernel_rfl)⟩
theorem tabOk201 : TIok Tryz.prog 201 ⟨1, .other, [.nilFunc]⟩ := ⟨by kernel_rfl, by kernel_rfl, .inr (by kernel_rfl)⟩
theorem tabOk202 : TIok Tryz.prog 202 ⟨1, .other, [.nilFunc]⟩ := ⟨by kernel_rfl, by kernel_rfl, .inr (by kernel_rfl)⟩
theorem tabOk203 : TIok Tryz.prog 203 ⟨1, .other, [.nilFunc]⟩ := ⟨by kernel_rfl, by kernel_rfl, .inr (by kernel_rfl)⟩
theorem tabOk204 : TIok Tryz.prog 204 ⟨32, .arr 32 3 1 false, []⟩ := ⟨by kernel_rfl, by kernel_rfl, .inl rfl⟩
theorem tabOk205 : TIok Tryz.prog 205 ⟨34, .struct [(0, 1, false), (1, 32, true), (33, 1, false)], []⟩ := ⟨by kernel_rfl, by kernel_rfl, .inl rfl⟩
theorem tabOk206 : TIok Tryz.prog 206 ⟨34, .struct [(0, 1, false), (1, 32, true), (33, 1, false)], []⟩ := ⟨by kernel_rfl, by kernel_rfl, .inl rfl⟩
theorem tabOk207 : TIok Tryz.prog 207 ⟨1, .other, [.nilFunc]⟩ := ⟨by kernel_rfl, by kernel_rfl, .inr (by kernel_rfl)⟩
theorem tabOk208 : TIok Tryz.prog 208 ⟨1, .other, [.nilFunc]⟩ := ⟨by kernel_rfl, by kernel_rfl, .inr (by kernel_rfl)⟩
theorem tabOk210 : TIok Tryz.prog 210 ⟨1, .other, [.nilFunc]⟩ := ⟨by kernel_rfl, by kernel_rfl, .inr (by kernel_rfl)⟩
theorem tabOk212 : TIok Tryz.prog 212 ⟨1, .other, [.nilFunc]⟩ := ⟨by kernel_rfl, by kernel_rfl, .inr (by kernel_rfl)⟩
theorem tabOk214 : TIok Tryz.prog 214 ⟨1, .other, [.nilFunc]⟩ := ⟨by kernel_rfl, by kernel_rfl, .inr (by kernel_rfl)⟩
theorem tabOk216 : TIok Tryz.prog 216 ⟨1, .other, [.nilFunc]⟩ := ⟨by kernel_rfl, by kernel_rfl, .inr (by kernel_rfl)⟩
theorem tabOk217 : TIok Tryz.prog 217 ⟨1, .other, [.nilFunc]⟩ := ⟨by kernel_rfl, by kernel_rfl, .inr (by kernel_rfl)⟩
theorem tabOk218 : TIok Tryz.prog 218 ⟨1, .other, [.nilFunc]⟩ := ⟨by kernel_rfl, by kernel_rfl, .inr (by kernel_rfl)⟩
theorem tabOk219 : TIok Tryz.prog 219 ⟨1, .other, [.nilFunc]⟩ := ⟨by kernel_rfl, by kernel_rfl, .inr (by kernel_rfl)⟩
theorem tabOk220 : TIok Tryz.prog 220 ⟨1, .other, [.nilFunc]⟩ := ⟨by kernel_rfl, by kernel_rfl, .inr (by kernel_rfl)⟩
theorem tabOk221 : TIok Tryz.prog 221 ⟨1, .slice 57 8 true, [.slice none 0 0]⟩ := ⟨by kernel_rfl, by kernel_rfl, .inr (by kernel_rfl)⟩
theorem tabOk222 : TIok Tryz.prog 222 ⟨1, .other, [.nilFunc]⟩ := ⟨by kernel_rfl, by kernel_rfl, .inr (by kernel_rfl)⟩
theorem tabOk223 : TIok Tryz.prog 223 ⟨1, .other, [.nilFunc]⟩ := ⟨by kernel_rfl, by kernel_rfl, .inr (by kernel_rfl)⟩
theorem tabOk224 : TIok Tryz.prog 224 ⟨1, .other, [.map none]⟩ := ⟨by kernel_rfl, by kernel_rfl, .inr (by kernel_rfl)⟩
theorem tabOk225 : TIok Tryz.prog 225 ⟨1, .other, [.nilFunc]⟩ := ⟨by kernel_rfl, by kernel_rfl, .inr (by kernel_rfl)⟩
theorem tabOk226 : TIok Tryz.prog 226 ⟨1, .other, [.nilFunc]⟩ := ⟨by kernel_rfl, by kernel_rfl, .inr (by kernel_rfl)⟩
theorem tabOk230 : TIok Tryz.prog 230 ⟨3, .struct [(0, 1, false), (1, 1, false), (2, 1, false)], [.pointer none, .pointer none, .int .u64 0]⟩ := ⟨by kernel_rfl, by kernel_rfl, .inr (by kernel_rfl)⟩
theorem tabOk233 : TIok Tryz.prog 233 ⟨1, .iface, [.nilIface]⟩ := ⟨by kernel_rfl, by kernel_rfl, .inr (by kernel_rfl)⟩
theorem tabOk235 : TIok Tryz.prog 235 ⟨1, .other, [.int .u8 0]⟩ := ⟨by kernel_rfl, by kernel_rfl, .inr (by kernel_rfl)⟩
theorem tabOk240 : TIok Tryz.prog 240 ⟨1, .other, [.nilFunc]⟩ := ⟨by kernel_rfl, by kernel_rfl, .inr (by kernel_rfl)⟩
theorem tabOk241 : TIok Tryz.prog 241 ⟨1, .other, [.nilFunc]⟩ := ⟨by kernel_rfl, by kernel_rfl, .inr (by kernel_rfl)⟩
theorem tabOk242 : TIok Tryz.prog 242 ⟨1, .other, [.nilFunc]⟩ := ⟨by kernel_rfl, by kernel_rfl, .inr (by kernel_rfl)⟩
theorem tabOk243 : TIok Tryz.prog 243 ⟨3, .struct [(0, 1, false), (1, 1, false), (2, 1, false)], [.pointer none, .slice none 0 0, .int .i64 0]⟩ := ⟨by kernel_rfl, by kernel_rfl, .inr (by kernel_rfl)⟩
theorem tabOk244 : TIok Tryz.prog 244 ⟨3, .struct [(0, 1, false), (1, 1, false), (2, 1, false)], [.pointer none, .slice none 0 0, .int .i64 0]⟩ := ⟨by kernel_rfl, by kernel_rfl, .inr (by kernel_rfl)⟩
theorem tabOk245 : TIok Tryz.prog 245 ⟨1, .other, [.nilFunc]⟩ := ⟨by kernel_rfl, by kernel_rfl, .inr (by kernel_rfl)⟩
theorem tabOk246 : TIok Tryz.prog 246 ⟨1, .other, [.nilFunc]⟩ := ⟨by kernel_rfl, by kernel_rfl, .inr (by kernel_rfl)⟩
theorem tabOk247 : TIok Tryz.prog 247 ⟨1, .other, [.nilFunc]⟩ := ⟨by kernel_rfl, by kernel_rfl, .inr (by kernel_rfl)⟩
theorem tabOk248 : TIok Tryz.prog 248 ⟨1, .other, [.nilFunc]⟩ := ⟨by kernel_rfl, by kernel_rfl, .inr (by kernel_rfl)⟩
theorem tabOk249 : TIok Tryz.prog 249 ⟨1, .other, [.nilFunc]⟩ := ⟨by kernel_rfl, by kernel_rfl, .inr (by kernel_rfl)⟩
theorem tabOk250 : TIok Tryz.prog 250 ⟨1, .other, [.nilFunc]⟩ := ⟨by kernel_rfl, by kernel_rfl, .inr (by kernel_rfl)⟩
theorem tabOk251 : TIok Tryz.prog 251 ⟨1, .other, [.nilFunc]⟩ := ⟨by kernel_rfl, by kernel_rfl, .inr (by kernel_rfl)⟩
theorem tabOk252 : TIok Tryz.prog 252 ⟨1, .other, [.nilFunc]⟩ := ⟨by kernel_rfl, by kernel_rfl, .inr (by kernel_rfl)⟩
theorem tabOk253 : TIok Tryz.prog 253 ⟨1, .other, [.nilFunc]⟩ := ⟨by kernel_rfl, by kernel_rfl, .inr (by kernel_rfl)⟩
theorem tabOk254 : TIok Tryz.prog 254 ⟨1, .other, [.nilFunc]⟩ := ⟨by kernel_rfl, by kernel_rfl, .inr (by kernel_rfl)⟩
theorem tabOk255 : TIok Tryz.prog 255 ⟨1, .other, [.nilFunc]⟩ := ⟨by kernel_rfl, by kernel_rfl, .inr (by kernel_rfl)⟩
theorem tabOk256 : TIok Tryz.prog 256 ⟨4, .arr 4 3 1 false, [.int .i64 0, .int .i64 0, .int .i64 0, .int .i64 0]⟩ := ⟨by kernel_rfl, by kernel_rfl, .inr (by kernel_rfl)⟩
theorem tabOk257 : TIok Tryz.prog 257 ⟨1, .other, [.int .u64 0]⟩ := ⟨by kernel_rfl, by kernel_rfl, .inr (by kernel_rfl)⟩
theorem tabOk258 : TIok Tryz.prog 258 ⟨1, .other, [.nilFunc]⟩ := ⟨by kernel_rfl, by kernel_rfl, .inr (by kernel_rfl)⟩
theorem tabOk259 : TIok Tryz.prog 259 ⟨1, .other, [.nilFunc]⟩ := ⟨by kernel_rfl, by kernel_rfl, .inr (by kernel_rfl)⟩
theorem tabOk260 : TIok Tryz.prog 260 ⟨1, .other, [.nilFunc]⟩ := ⟨by kernel_rfl, by kernel_rfl, .inr (by kernel_rfl)⟩
theorem tabOk261 : TIok Tryz.prog 261 ⟨1, .other, [.nilFunc]⟩ := ⟨by kernel_rfl, by kernel_rfl, .inr (by kernel_rfl)⟩
theorem tabOk262 : TIok Tryz.prog 262 ⟨1, .other, [.nilFunc]⟩ := ⟨by kernel_rfl, by kernel_rfl, .inr (by kernel_rfl)⟩
theorem tabOk263 : TIok Tryz.prog 263 ⟨1, .other, [.nilFunc]⟩ := ⟨by kernel_rfl, by kernel_rfl, .inr (by kernel_rfl)⟩
theorem tabOk264 : TIok Tryz.prog 264 ⟨1, .other, [.nilFunc]⟩ := ⟨by kernel_rfl, by kernel_rfl, .inr (by kernel_rfl)⟩
theorem tabOk265 : TIok Tryz.prog 265 ⟨1, .other, [.nilFunc]⟩ := ⟨by kernel_rfl, by kernel_rfl, .inr (by kernel_rfl)⟩
theorem tabOk266 : TIok Tryz.prog 266 ⟨1, .other, [.nilFunc]⟩ := ⟨by kernel_rfl, by kernel_rfl, .inr (by kernel_rfl)⟩
theorem tabOk267 : TIok Tryz.prog 267 ⟨1, .other, [.nilFunc]⟩ := ⟨by kernel_rfl, by kernel_rfl, .inr (by kernel_rfl)⟩
theorem tabOk268 : TIok Tryz.prog 268 ⟨1, .ptr, [.pointer none]⟩ := ⟨by kernel_rfl, by kernel_rfl, .inr (by kernel_rfl)⟩
theorem tabOk270 : TIok Tryz.prog 270 ⟨1, .other, [.nilFunc]⟩ := ⟨by kernel_rfl, by kernel_rfl, .inr (by kernel_rfl)⟩
theorem tabOk271 : TIok Tryz.prog 271 ⟨1, .other, [.map none]⟩ := ⟨by kernel_rfl, by kernel_rfl, .inr (by kernel_rfl)⟩
theorem tabOk272 : TIok Tryz.prog 272 ⟨1, .other, [.nilFunc]⟩ := ⟨by kernel_rfl, by kernel_rfl, .inr (by kernel_rfl)⟩
theorem tabOk273 : TIok Tryz.prog 273 ⟨2, .struct [(0, 1, false), (1, 1, false)], [.int .i64 0, .int .i64 0]⟩ := ⟨by kernel_rfl, by kernel_rfl, .inr (by kernel_rfl)⟩
theorem tabOk274 : TIok Tryz.prog 274 ⟨2, .struct [(0, 1, false), (1, 1, false)], [.int .i64 0, .int .i64 0]⟩ := ⟨by kernel_rfl, by kernel_rfl, .inr (by kernel_rfl)⟩
theorem tabOk275 : TIok Tryz.prog 275 ⟨1, .other, [.nilFunc]⟩ := ⟨by kernel_rfl, by kernel_rfl, .inr (by kernel_rfl)⟩
theorem tabOk281 : TIok Tryz.prog 281 ⟨1, .iface, [.nilIface]⟩ := ⟨by kernel_rfl, by kernel_rfl, .inr (by kernel_rfl)⟩
theorem tabOk283 : TIok Tryz.prog 283 ⟨1, .other, [.nilFunc]⟩ := ⟨by kernel_rfl, by kernel_rfl, .inr (by kernel_rfl)⟩
theorem tabOk284 : TIok Tryz.prog 284 ⟨1, .iface, [.nilIface]⟩ := ⟨by kernel_rfl, by kernel_rfl, .inr (by kernel_rfl)⟩
theorem tabOk285 : TIok Tryz.prog 285 ⟨1, .other, [.nilFunc]⟩ := ⟨by kernel_rfl, by kernel_rfl, .inr (by kernel_rfl)⟩
theorem tabOk286 : TIok Tryz.prog 286 ⟨1, .iface, [.nilIface]⟩ := ⟨by kernel_rfl, by kernel_rfl, .inr (by kernel_rfl)⟩
theorem tabOk287 : TIok Tryz.prog 287 ⟨1, .other, [.nilFunc]⟩ := ⟨by kernel_rfl, by kernel_rfl, .inr (by kernel_rfl)⟩
theorem tabOk288 : TIok Tryz.prog 288 ⟨1, .iface, [.nilIface]⟩ := ⟨by kernel_rfl, by kernel_rfl, .inr (by kernel_rfl)⟩
theorem tabOk290 : TIok Tryz.prog 290 ⟨1, .other, [.nilFunc]⟩ := ⟨by kernel_rfl, by kernel_rfl, .inr (by kernel_rfl)⟩
theorem tabOk291 : TIok Tryz.prog 291 ⟨1, .slice 4 1 false, [.slice none 0 0]⟩ := ⟨by kernel_rfl, by kernel_rfl, .inr (by kernel_rfl)⟩
theorem tabOk292 : TIok Tryz.prog 292 ⟨1, .other, [.nilFunc]⟩ := ⟨by kernel_rfl, by kernel_rfl, .inr (by kernel_rfl)⟩
theorem tabOk293 : TIok Tryz.prog 293 ⟨1, .other, [.int .u32 0]⟩ := ⟨by kernel_rfl, by kernel_rfl, .inr (by kernel_rfl)⟩
theorem tabOk294 : TIok Tryz.prog 294 ⟨1, .other, [.nilFunc]⟩ := ⟨by kernel_rfl, by kernel_rfl, .inr (by kernel_rfl)⟩
theorem tabOk295 : TIok Tryz.prog 295 ⟨1, .other, [.nilFunc]⟩ := ⟨by kernel_rfl, by kernel_rfl, .inr (by kernel_rfl)⟩
theorem tabOk296 : TIok Tryz.prog 296 ⟨1, .other, [.nilFunc]⟩ := ⟨by kernel_rfl, by kernel_rfl, .inr (by kernel_rfl)⟩
theorem tabOk297 : TIok Tryz.prog 297 ⟨1, .ptr, [.pointer none]⟩ := ⟨by kernel_rfl, by kernel_rfl, .inr (by kernel_rfl)⟩
theorem tabOk305 : TIok Tryz.prog 305 ⟨1, .other, [.nilFunc]⟩ := ⟨by kernel_rfl, by kernel_rfl, .inr (by kernel_rfl)⟩
theorem tabOk306 : TIok Tryz.prog 306 ⟨1, .ptr, [.pointer none]⟩ := ⟨by kernel_rfl, by kernel_rfl, .inr (by kernel_rfl)⟩
theorem tabOk311 : TIok Tryz.prog 311 ⟨1, .other, [.nilFunc]⟩ := ⟨by kernel_rfl, by kernel_rfl, .inr (by kernel_rfl)⟩
theorem tabOk315 : TIok Tryz.prog 315 ⟨1, .struct [(0, 1, false)], [.string ByteArray.empty]⟩ := ⟨by kernel_rfl, by kernel_rfl, .inr (by kernel_rfl)⟩
theorem tabOk316 : TIok Tryz.prog 316 ⟨1, .struct [(0, 1, false)], [.string ByteArray.empty]⟩ := ⟨by kernel_rfl, by kernel_rfl, .inr (by kernel_rfl)⟩
theorem tabOk319 : TIok Tryz.prog 319 ⟨1, .other, [.int .u16 0]⟩ := ⟨by kernel_rfl, by kernel_rfl, .inr (by kernel_rfl)⟩
theorem tabOk326 : TIok Tryz.prog 326 ⟨1, .other, [.nilFunc]⟩ := ⟨by kernel_rfl, by kernel_rfl, .inr (by kernel_rfl)⟩
theorem tabOk327 : TIok Tryz.prog 327 ⟨1, .ptr, [.pointer none]⟩ := ⟨by kernel_rfl, by kernel_rfl, .inr (by kernel_rfl)⟩
set_option maxRecDepth 100000 in
theorem tabOk : TabOk Tryz.prog tab :=
  TabOk.of_all (⟨tabOk1, ⟨tabOk2, ⟨tabOk3, ⟨tabOk4, ⟨tabOk5, ⟨tabOk9, ⟨tabOk12, ⟨tabOk13, ⟨tabOk20, ⟨tabOk21, ⟨tabOk22, ⟨tabOk23, ⟨tabOk24, ⟨tabOk25, ⟨tabOk26, ⟨tabOk27, ⟨tabOk28, ⟨tabOk30, ⟨tabOk31, ⟨tabOk32, ⟨tabOk33, ⟨tabOk34, ⟨tabOk35, ⟨tabOk36, ⟨tabOk37, ⟨tabOk38, ⟨tabOk39, ⟨tabOk40, ⟨tabOk42, ⟨tabOk43, ⟨tabOk44, ⟨tabOk45, ⟨tabOk46, ⟨tabOk47, ⟨tabOk48, ⟨tabOk49, ⟨tabOk51, ⟨tabOk52, ⟨tabOk53, ⟨tabOk54, ⟨tabOk55, ⟨tabOk56, ⟨tabOk57, ⟨tabOk58, ⟨tabOk59, ⟨tabOk60, ⟨tabOk61, ⟨tabOk62, ⟨tabOk63, ⟨tabOk64, ⟨tabOk65, ⟨tabOk66, ⟨tabOk67, ⟨tabOk68, ⟨tabOk69, ⟨tabOk70, ⟨tabOk71, ⟨tabOk72, ⟨tabOk73, ⟨tabOk74, ⟨tabOk75, ⟨tabOk76, ⟨tabOk77, ⟨tabOk78, ⟨tabOk79, ⟨tabOk80, ⟨tabOk81, ⟨tabOk82, ⟨tabOk83, ⟨tabOk84, ⟨tabOk85, ⟨tabOk86, ⟨tabOk87, ⟨tabOk88, ⟨tabOk89, ⟨tabOk90, ⟨tabOk91, ⟨tabOk92, ⟨tabOk93, ⟨tabOk94, ⟨tabOk95, ⟨tabOk96, ⟨tabOk97, ⟨tabOk98, ⟨tabOk99, ⟨tabOk100, ⟨tabOk101, ⟨tabOk102, ⟨tabOk104, ⟨tabOk105, ⟨tabOk106, ⟨tabOk107, ⟨tabOk109, ⟨tabOk111, ⟨tabOk112, ⟨tabOk113, ⟨tabOk114, ⟨tabOk115, ⟨tabOk116, ⟨tabOk117, ⟨tabOk118, ⟨tabOk119, ⟨tabOk120, ⟨tabOk121, ⟨tabOk122, ⟨tabOk123, ⟨tabOk124, ⟨tabOk125, ⟨tabOk126, ⟨tabOk128, ⟨tabOk129, ⟨tabOk131, ⟨tabOk132, ⟨tabOk133, ⟨tabOk134, ⟨tabOk135, ⟨tabOk136, ⟨tabOk137, ⟨tabOk138, ⟨tabOk139, ⟨tabOk140, ⟨tabOk141, ⟨tabOk142, ⟨tabOk143, ⟨tabOk145, ⟨tabOk147, ⟨tabOk149, ⟨tabOk150, ⟨tabOk151, ⟨tabOk152, ⟨tabOk153, ⟨tabOk154, ⟨tabOk156, ⟨tabOk157, ⟨tabOk158, ⟨tabOk159, ⟨tabOk160, ⟨tabOk161, ⟨tabOk162, ⟨tabOk163, ⟨tabOk164, ⟨tabOk165, ⟨tabOk166, ⟨tabOk167, ⟨tabOk168, ⟨tabOk169, ⟨tabOk170, ⟨tabOk171, ⟨tabOk172, ⟨tabOk173, ⟨tabOk174, ⟨tabOk175, ⟨tabOk176, ⟨tabOk177, ⟨tabOk178, ⟨tabOk179, ⟨tabOk180, ⟨tabOk181, ⟨tabOk182, ⟨tabOk183, ⟨tabOk184, ⟨tabOk185, ⟨tabOk186, ⟨tabOk187, ⟨tabOk189, ⟨tabOk190, ⟨tabOk192, ⟨tabOk193, ⟨tabOk194, ⟨tabOk195, ⟨tabOk196, ⟨tabOk197, ⟨tabOk198, ⟨tabOk199, ⟨tabOk200, ⟨tabOk201, ⟨tabOk202, ⟨tabOk203, ⟨tabOk204, ⟨tabOk205, ⟨tabOk206, ⟨tabOk207, ⟨tabOk208, ⟨tabOk210, ⟨tabOk212, ⟨tabOk214, ⟨tabOk216, ⟨tabOk217, ⟨tabOk218, ⟨tabOk219, ⟨tabOk220, ⟨tabOk221, ⟨tabOk222, ⟨tabOk223, ⟨tabOk224, ⟨tabOk225, ⟨tabOk226, ⟨tabOk230, ⟨tabOk233, ⟨tabOk235, ⟨tabOk240, ⟨tabOk241, ⟨tabOk242, ⟨tabOk243, ⟨tabOk244, ⟨tabOk245, ⟨tabOk246, ⟨tabOk247, ⟨tabOk248, ⟨tabOk249, ⟨tabOk250, ⟨tabOk251, ⟨tabOk252, ⟨tabOk253, ⟨tabOk254, ⟨tabOk255, ⟨tabOk256, ⟨tabOk257, ⟨tabOk258, ⟨tabOk259, ⟨tabOk260, ⟨tabOk261, ⟨tabOk262, ⟨tabOk263, ⟨tabOk264, ⟨tabOk265, ⟨tabOk266, ⟨tabOk267, ⟨tabOk268, ⟨tabOk270, ⟨tabOk271, ⟨tabOk272, ⟨tabOk273, ⟨tabOk274, ⟨tabOk275, ⟨tabOk281, ⟨tabOk283, ⟨tabOk284, ⟨tabOk285, ⟨tabOk286, ⟨tabOk287, ⟨tabOk288, ⟨tabOk290, ⟨tabOk291, ⟨tabOk292, ⟨tabOk293, ⟨tabOk294, ⟨tabOk295, ⟨tabOk296, ⟨tabOk297, ⟨tabOk305, ⟨tabOk306, ⟨tabOk311, ⟨tabOk315, ⟨tabOk316, ⟨tabOk319, ⟨tabOk326, ⟨tabOk327, trivial⟩⟩⟩⟩⟩⟩⟩⟩⟩⟩⟩⟩⟩⟩⟩⟩⟩⟩⟩⟩⟩⟩⟩⟩⟩⟩⟩⟩⟩⟩⟩⟩⟩⟩⟩⟩⟩⟩⟩⟩⟩⟩⟩⟩⟩⟩⟩⟩⟩⟩⟩⟩⟩⟩⟩⟩⟩⟩⟩⟩⟩⟩⟩⟩⟩⟩⟩⟩⟩⟩⟩⟩⟩⟩⟩⟩⟩⟩⟩⟩⟩⟩⟩⟩⟩⟩⟩⟩⟩⟩⟩⟩⟩⟩⟩⟩⟩⟩⟩⟩⟩⟩⟩⟩⟩⟩⟩⟩⟩⟩⟩⟩⟩⟩⟩⟩⟩⟩⟩⟩⟩⟩⟩⟩⟩⟩⟩⟩⟩⟩⟩⟩⟩⟩⟩⟩⟩⟩⟩⟩⟩⟩⟩⟩⟩⟩⟩⟩⟩⟩⟩⟩⟩⟩⟩⟩⟩⟩⟩⟩⟩⟩⟩⟩⟩⟩⟩⟩⟩⟩⟩⟩⟩⟩⟩⟩⟩⟩⟩⟩⟩⟩⟩⟩⟩⟩⟩⟩⟩⟩⟩⟩⟩⟩⟩⟩⟩⟩⟩⟩⟩⟩⟩⟩⟩⟩⟩⟩⟩⟩⟩⟩⟩⟩⟩⟩⟩⟩⟩⟩⟩⟩⟩⟩⟩⟩⟩⟩⟩⟩⟩⟩⟩⟩⟩⟩⟩⟩⟩⟩⟩⟩⟩⟩⟩⟩⟩⟩⟩⟩⟩⟩⟩⟩⟩⟩⟩⟩)
theorem mixed : Tryz.prog.follows .mixedOrders = true := by kernel_rfl
end Go.Proofs.YtoaghhcjlfiflaaGreatDoor

/-
  The program's errors: each by its number; where the variables of package api hold them.
-/
namespace Go.Proofs.YtoaghhcjlfiflaaGreatDoor
open Go Ev

abbrev encI (x : Int) : List Value := [.int .i64 x]
abbrev encB (x : Bool) : List Value := [.bool x]

theorem Ev.St.fresh {w0 w : World} {H : List Ent} (h : St w0 No w H) (i : Nat) {b : Nat} {t : TypeId} {cs : List Value} (hi : H[i]? = some (Ev.blk b t cs)) : w0.heap.size ≤ b := by
  rcases (h.may _ (List.mem_of_getElem? hi) b (by simp [Ev.blk])).1 with h | h
  · exact h.elim
  · exact h
/-- What an element of a slice argument says of memory. -/
theorem Ev.Slc.at1 {α : Type} {w : World} {enc : α → List Value} {G : α → Prop} {a : Option Addr} {n : Nat} {xs : List α} (h : Slc w 1 enc G a n xs) {k : Nat} (hk : k < n) : ∃ b o x, xs[k]? = some x ∧ G x ∧ a = some ⟨b, o, none⟩ ∧ CellsAt w b (o + k * 1) (enc x) := by
  have hlt : k < xs.length := by rw [h.len]; exact hk
  obtain ⟨b, o, ha, _, hc⟩ := h.cells k _ (List.getElem?_eq_getElem hlt)
  exact ⟨b, o, _, List.getElem?_eq_getElem hlt, h.good _ (List.getElem_mem hlt), ha, hc⟩

/-- An error by its number: nil, or what the package's variable holds. -/
def errV (E : Nat → Addr) : Nat → Value
  | 0 => .nilIface
  | k + 1 => .iface 297 (.pointer (some (E (k + 1))))

/-- The package's variable of that number. -/
def gErr : Nat → Nat
  | 1 => 6
  | 2 => 0
  | 3 => 5
  | 4 => 3
  | 5 => 7
  | 6 => 2
  | 7 => 4
  | 8 => 8
  | 9 => 9
  | 10 => 10
  | _ => 1

/-- The row's entry of that number. -/
def errRow {H : Type} : Nat → String × DataW H
  | 1 => ("twinrampart/api.ErrText", .iface "*errors.errorString" (.ptr (.agg [.lit (.string [116, 119, 105, 110, 114, 97, 109, 112, 97, 114, 116, 58, 32, 116, 101, 120, 116])])))
  | 2 => ("twinrampart/api.ErrBound", .iface "*errors.errorString" (.ptr (.agg [.lit (.string [116, 119, 105, 110, 114, 97, 109, 112, 97, 114, 116, 58, 32, 98, 111, 117, 110, 100])])))
  | 3 => ("twinrampart/api.ErrShape", .iface "*errors.errorString" (.ptr (.agg [.lit (.string [116, 119, 105, 110, 114, 97, 109, 112, 97, 114, 116, 58, 32, 115, 104, 97, 112, 101])])))
  | 4 => ("twinrampart/api.ErrNone", .iface "*errors.errorString" (.ptr (.agg [.lit (.string [116, 119, 105, 110, 114, 97, 109, 112, 97, 114, 116, 58, 32, 110, 111, 110, 101])])))
  | 5 => ("twinrampart/api.ErrExist", .iface "*errors.errorString" (.ptr (.agg [.lit (.string [116, 119, 105, 110, 114, 97, 109, 112, 97, 114, 116, 58, 32, 101, 120, 105, 115, 116])])))
  | 6 => ("twinrampart/api.ErrFull", .iface "*errors.errorString" (.ptr (.agg [.lit (.string [116, 119, 105, 110, 114, 97, 109, 112, 97, 114, 116, 58, 32, 102, 117, 108, 108])])))
  | 7 => ("twinrampart/api.ErrOff", .iface "*errors.errorString" (.ptr (.agg [.lit (.string [116, 119, 105, 110, 114, 97, 109, 112, 97, 114, 116, 58, 32, 111, 102, 102])])))
  | 8 => ("twinrampart/api.ErrDeny", .iface "*errors.errorString" (.ptr (.agg [.lit (.string [116, 119, 105, 110, 114, 97, 109, 112, 97, 114, 116, 58, 32, 100, 101, 110, 121])])))
  | 9 => ("twinrampart/api.ErrState", .iface "*errors.errorString" (.ptr (.agg [.lit (.string [116, 119, 105, 110, 114, 97, 109, 112, 97, 114, 116, 58, 32, 115, 116, 97, 116, 101])])))
  | 10 => ("twinrampart/api.ErrOld", .iface "*errors.errorString" (.ptr (.agg [.lit (.string [116, 119, 105, 110, 114, 97, 109, 112, 97, 114, 116, 58, 32, 111, 108, 100])])))
  | _ => ("twinrampart/api.ErrHeld", .iface "*errors.errorString" (.ptr (.agg [.lit (.string [116, 119, 105, 110, 114, 97, 109, 112, 97, 114, 116, 58, 32, 104, 101, 108, 100])])))

theorem errRow_named (k : Nat) : Tryz.prog.globalNamed (errRow (H := Unit) k).1 = some (gErr k) ∧ (Tryz.prog.globals[gErr k]?).map (·.type) = some 28 := by
  unfold errRow gErr
  split <;> exact ⟨by kernel_rfl, by kernel_rfl⟩

theorem errRow_form (k : Nat) : ∃ n text, errRow (H := Unit) k = (n, .iface "*errors.errorString" (.ptr (.agg [.lit (.string text)]))) := by
  unfold errRow
  split <;> exact ⟨_, _, rfl⟩

theorem errStar : "*" ++ "errors.errorString" = "*errors.errorString" := by decide
theorem errStr_only (u : TypeId) (h : Tryz.prog.typeName? 3 u = some "*errors.errorString") : u = 297 :=
  typeName_ptr_named (nm := "errors.errorString") (by rw [errStar]; kernel_rfl) (by kernel_rfl) (by decide) u (by rw [errStar]; exact h)

/-- The errors of the numbers 'ks' are in their variables; those lie below n. -/
structure Errs (w : World) (E : Nat → Addr) (n : Nat) (ks : List Nat) : Prop where
  at_ : ∀ k, ks.contains k = true → w.cell? ⟨gErr k, 0, none⟩ = some (.iface 297 (.pointer (some (E k))))
  lt : ∀ k, ks.contains k = true → gErr k < n
  row : ∀ k, ks.contains k = true → (∃ c t, w.heap[(E k).block]? = some (.cells c t (0, 0))) ∧ (E k).block < n
  inj : ∀ j k, ks.contains j = true → ks.contains k = true → j ≠ k → E j ≠ E k

theorem Errs.ext {w w' : World} {E : Nat → Addr} {n : Nat} {ks : List Nat} {S : Nat → Prop} (h : Errs w E n ks) (hx : Ext S w w') (hS : ∀ b, S b → n ≤ b) : Errs w' E n ks :=
  ⟨fun k hk => hx.cell (h.at_ k hk) (fun hs => by have := hS _ hs; have := h.lt k hk; omega), h.lt, fun k hk => by
    obtain ⟨⟨c, t, hc⟩, hb⟩ := h.row k hk
    refine ⟨⟨c, t, ?_⟩, hb⟩
    rw [hx.block _ (Array.getElem?_eq_some_iff.1 hc).1 (fun hs => by have := hS _ hs; omega)]
    exact hc, h.inj⟩
theorem Errs.sub {w : World} {E : Nat → Addr} {n : Nat} {ks ks' : List Nat} (h : Errs w E n ks) (hs : ks'.all (fun k => ks.contains k) = true) : Errs w E n ks' := by
  have key : ∀ k, ks'.contains k = true → ks.contains k = true := fun k hk => List.all_eq_true.1 hs k (by simpa using hk)
  exact ⟨fun k hk => h.at_ k (key k hk), fun k hk => h.lt k (key k hk), fun k hk => h.row k (key k hk), fun j k hj hk => h.inj j k (key j hj) (key k hk)⟩
theorem Errs.le {w : World} {E : Nat → Addr} {n n' : Nat} {ks : List Nat} (h : Errs w E n ks) (hn : n ≤ n') : Errs w E n' ks :=
  ⟨h.at_, fun k hk => Nat.lt_of_lt_of_le (h.lt k hk) hn, fun k hk => ⟨(h.row k hk).1, Nat.lt_of_lt_of_le (h.row k hk).2 hn⟩, h.inj⟩
theorem Errs.ne {w : World} {E : Nat → Addr} {n : Nat} {ks : List Nat} (h : Errs w E n ks) (k : Nat) (hk : ks.contains k = true) {b : Nat} (hb : n ≤ b) : gErr k ≠ b := by
  have := h.lt k hk
  omega

theorem laidVars_sub {P : Program} {w : World} {l l' : List (String × DataW Unit)} (hs : l'.Sublist l) : ∀ {ps : List MemPlace}, DataW.LaidVars P w l ps → ∃ ps', DataW.LaidVars P w l' ps' ∧ ps'.Sublist ps := by
  induction hs with
  | slnil => exact fun {ps} h => ⟨ps, h, List.Sublist.refl _⟩
  | cons x hs ih =>
    intro ps h
    obtain ⟨n, d⟩ := x
    obtain ⟨g, t, cs, fuel, p, q, e1, e2, e3, e4, hr, rfl⟩ := h
    obtain ⟨q', hq, hs⟩ := ih hr
    exact ⟨q', hq, hs.trans (List.sublist_append_right _ _)⟩
  | cons_cons x hs ih =>
    intro ps h
    obtain ⟨n, d⟩ := x
    obtain ⟨g, t, cs, fuel, p, q, e1, e2, e3, e4, hr, rfl⟩ := h
    obtain ⟨q', hq, hs⟩ := ih hr
    exact ⟨_, ⟨g, t, cs, fuel, p, q', e1, e2, e3, e4, hq, rfl⟩, List.Sublist.append (List.Sublist.refl _) hs⟩
theorem laidMet_sub {P : Program} {w : World} {l l' : List (String × DataW Unit)} (hs : l'.Sublist l) (h : laidMet P l w) : laidMet P l' w := by
  obtain ⟨ps, hl, hnd, hrows⟩ := h
  obtain ⟨ps', hl', hs⟩ := laidVars_sub hs hl
  exact ⟨ps', hl', hnd.sublist hs, fun b off hp => hrows b off (hs.subset hp)⟩
theorem pair_sub {α : Type} {x y : α} (hne : x ≠ y) {l : List α} (hx : x ∈ l) (hy : y ∈ l) : [x, y].Sublist l ∨ [y, x].Sublist l := by
  induction l with
  | nil => cases hx
  | cons z l ih =>
    rcases List.mem_cons.1 hx with h1 | h1
    · rcases List.mem_cons.1 hy with h2 | h2
      · exact absurd (h1.trans h2.symm) hne
      · subst h1
        exact .inl (.cons_cons _ (List.singleton_sublist.2 h2))
    · rcases List.mem_cons.1 hy with h2 | h2
      · subst h2
        exact .inr (.cons_cons _ (List.singleton_sublist.2 h1))
      · rcases ih h1 h2 with h | h
        · exact .inl (.cons _ h)
        · exact .inr (.cons _ h)

theorem gErr_inj (j : Nat) (hj : j < 12) (k : Nat) (hk : k < 12) (j0 : 0 < j) (k0 : 0 < k) (hne : j ≠ k) : gErr j ≠ gErr k := by
  have h : ((List.range 12).all fun j => (List.range 12).all fun k => Nat.beq j 0 || Nat.beq k 0 || Nat.beq j k || !Nat.beq (gErr j) (gErr k)) = true := by rfl
  have h1 := List.all_eq_true.1 (List.all_eq_true.1 h j (List.mem_range.2 hj)) k (List.mem_range.2 hk)
  intro he
  rw [he] at h1
  simp at h1
  omega

/-- One sentinel, with its row. -/
theorem sentinel1 {P : Program} {n nm : String} {text : List UInt8} {W : World} {g : Nat} {ti tp te ts : TypeId} {ms : Array (String × TypeId)} {f : Field}
    (h : laidMet P [(n, .iface nm (.ptr (.agg [.lit (.string text)])))] W)
    (hg : P.globalNamed n = some g) (ht : (P.globals[g]?).map (·.type) = some ti) (hi : P.underlying ti = some (.interface ms)) (hrow : ∀ u, P.typeName? 3 u = some nm → u = tp)
    (hp : P.underlying tp = some (.pointer te)) (he : P.underlying te = some (.struct #[f])) (hft : f.type = ts) (hfo : f.offset = 0) (hs : P.underlying ts = some .string) (hc : P.cellsOf te = 1) (hcs : P.cellsOf ts = 1) :
    ∃ (a : Addr), W.cell? ⟨g, 0, none⟩ = some (.iface tp (.pointer (some a))) ∧ (∃ c t, W.heap[a.block]? = some (.cells c t (0, 0))) := by
  obtain ⟨ps, ⟨g0, t0, cs0, f0, p0, q0, hg0, ht0, hv0, hd0, _, e0⟩, _, hrows⟩ := h
  obtain rfl := Option.some.inj (hg.symm.trans hg0)
  obtain rfl := Option.some.inj (ht.symm.trans ht0)
  subst e0
  obtain ⟨l0⟩ := cs0
  have ok0 : ∀ u v, l0 = [.iface u v] → Value.okWide P W .any 0 u v := fun u v e => by
    subst e
    exact (hrows g 0 (by simp [MemPlace.row])).2 u v (by simpa using World.var?_cell hg0 hv0 0)
  obtain ⟨a0, s0, rfl, hc0, hs0, hz0, rfl⟩ := errorString_of_trod hi hrow hp he hft hfo hs hc hcs hd0 ok0
  refine ⟨a0, by simpa using World.var?_cell hg0 hv0 0, ?_⟩
  obtain ⟨c, t, hb⟩ := (hrows a0.block a0.off (by simp [MemPlace.row])).1
  exact ⟨c, t, hb⟩

theorem errs_of {L : List (String × DataW Unit)} {W : World} (ks : List Nat) (hks : ks.all (fun k => decide (0 < k ∧ k < 12)) = true) (hl : laidMetH Tryz.prog L W) (hm : ∀ k ∈ ks, errRow k ∈ L) : ∃ E, Errs W E W.heap.size ks := by
  have h1 := (laidMetH_iff.1 hl).1
  have hin : ∀ k, k ∈ ks → errRow (H := Unit) k ∈ L.filter fun x => x.2.handleName?.isNone := fun k hk => by
    obtain ⟨n, text, hf⟩ := errRow_form k
    refine List.mem_filter.2 ⟨hm k hk, ?_⟩
    rw [hf]
    rfl
  have key : ∀ k, ∃ a : Addr, k ∈ ks → W.cell? ⟨gErr k, 0, none⟩ = some (.iface 297 (.pointer (some a))) ∧ (∃ c t, W.heap[a.block]? = some (.cells c t (0, 0))) := by
    intro k
    by_cases hk : k ∈ ks
    · have hk2 := hin k hk
      obtain ⟨hg, ht⟩ := errRow_named k
      obtain ⟨n, text, hf⟩ := errRow_form k
      rw [hf] at hk2 hg
      have h2 := laidMet_sub (List.singleton_sublist.2 hk2) h1
      obtain ⟨a, h3, h4⟩ := sentinel1 (P := Tryz.prog) h2 hg ht Tryz.underlying28 errStr_only Tryz.underlying297 Tryz.underlying316 rfl rfl Tryz.underlying9 (by kernel_rfl) (by kernel_rfl)
      exact ⟨a, fun _ => ⟨h3, h4⟩⟩
    · exact ⟨⟨0, 0, none⟩, fun h => absurd h hk⟩
  have spec : ∀ k, ks.contains k = true → _ := fun k hk => (key k).choose_spec (by simpa using hk)
  refine ⟨fun k => (key k).choose, fun k hk => (spec k hk).1, fun k hk => ?_, fun k hk => ?_, fun j k hj hk hne => ?_⟩
  · exact cell_lt (spec k hk).1
  · obtain ⟨_, c, t, hc⟩ := spec k hk
    exact ⟨⟨c, t, hc⟩, (Array.getElem?_eq_some_iff.1 hc).1⟩
  · have bj := of_decide_eq_true (List.all_eq_true.1 hks j (by simpa using hj))
    have bk := of_decide_eq_true (List.all_eq_true.1 hks k (by simpa using hk))
    have gne := gErr_inj j bj.2 k bk.2 bj.1 bk.1 hne
    have two : ∀ j k, ks.contains j = true → ks.contains k = true → [errRow (H := Unit) j, errRow k].Sublist (L.filter fun x => x.2.handleName?.isNone) → (key j).choose ≠ (key k).choose := by
      intro j k hj hk hsub
      have h2 := laidMet_sub hsub h1
      obtain ⟨hgj, htj⟩ := errRow_named j
      obtain ⟨hgk, htk⟩ := errRow_named k
      obtain ⟨nj, textj, hfj⟩ := errRow_form j
      obtain ⟨nk, textk, hfk⟩ := errRow_form k
      rw [hfj] at hgj
      rw [hfk] at hgk
      rw [hfj, hfk] at h2
      obtain ⟨a0, a1, _, _, _, _, _, _, v0, v1, _, _, _, _, _, _, hne2, _⟩ := laid_sentinels2 (P := Tryz.prog) h2 hgj htj hgk htk Tryz.underlying28 errStr_only Tryz.underlying297 Tryz.underlying316 rfl rfl Tryz.underlying9 (by kernel_rfl) (by kernel_rfl)
      have c0 : W.cell? ⟨gErr j, 0, none⟩ = some (.iface 297 (.pointer (some a0))) := by simpa using World.var?_cell hgj v0 0
      have c1 : W.cell? ⟨gErr k, 0, none⟩ = some (.iface 297 (.pointer (some a1))) := by simpa using World.var?_cell hgk v1 0
      have d0 := (spec j hj).1
      have d1 := (spec k hk).1
      have d0 := c0.symm.trans d0
      have d1 := c1.symm.trans d1
      simp only [Option.some.injEq, Value.iface.injEq, Value.pointer.injEq, true_and] at d0 d1
      intro he
      exact hne2 (d0.trans (he.trans d1.symm))
    have hrne : errRow (H := Unit) j ≠ errRow k := by
      intro he
      have a := (errRow_named j).1
      rw [he, (errRow_named k).1] at a
      exact gne (Option.some.inj a).symm
    rcases pair_sub hrne (hin j (by simpa using hj)) (hin k (by simpa using hk)) with h | h
    · exact two j k hj hk h
    · exact (two k j hk hj h).symm
end Go.Proofs.YtoaghhcjlfiflaaGreatDoor

/-
  Cells and flows, and what package slices does with rows of cells.
-/
namespace Go.Proofs.YtoaghhcjlfiflaaGreatDoor
open Go Ev

structure FlowS where
  proto : Int
  ia : Int
  ip : Int
  fa : Int
  fp : Int
  port : Int
  state : Int
  til : Int
  deriving DecidableEq
structure CellS where
  slot : Int
  ver : Int
  f : FlowS
  deriving DecidableEq

def encFlow (f : FlowS) : List Value := [.int .i64 f.proto, .int .i64 f.ia, .int .i64 f.ip, .int .i64 f.fa, .int .i64 f.fp, .int .i64 f.port, .int .i64 f.state, .int .i64 f.til]
def encCell (c : CellS) : List Value := [.int .i64 c.slot, .int .i64 c.ver, .int .i64 c.f.proto, .int .i64 c.f.ia, .int .i64 c.f.ip, .int .i64 c.f.fa, .int .i64 c.f.fp, .int .i64 c.f.port, .int .i64 c.f.state, .int .i64 c.f.til]
def FlowS.pr (f : FlowS) : List Pr := [.int f.proto, .int f.ia, .int f.ip, .int f.fa, .int f.fp, .int f.port, .int f.state, .int f.til]
def CellS.pr (c : CellS) : List Pr := [.int c.slot, .int c.ver, .int c.f.proto, .int c.f.ia, .int c.f.ip, .int c.f.fa, .int c.f.fp, .int c.f.port, .int c.f.state, .int c.f.til]
def endPr (a p : Int) : List Pr := [.int a, .int p]
def noFlow : FlowS := ⟨0, 0, 0, 0, 0, 0, 0, 0⟩

theorem codCell : Codec 10 encCell := ⟨fun _ => rfl, fun _ => rfl, by decide⟩
theorem codFlow : Codec 8 encFlow := ⟨fun _ => rfl, fun _ => rfl, by decide⟩
theorem pr_flow (f g : FlowS) : (f.pr = g.pr) = (f = g) := by
  obtain ⟨a, b, c, d, e, p, s, u⟩ := f
  obtain ⟨a', b', c', d', e', p', s', u'⟩ := g
  simp [FlowS.pr]
theorem pr_cell (f g : CellS) : (f.pr = g.pr) = (f = g) := by
  obtain ⟨x, y, a, b, c, d, e, p, s, u⟩ := f
  obtain ⟨x', y', a', b', c', d', e', p', s', u'⟩ := g
  simp [CellS.pr]

theorem eqCell {c d : CellS} {k : Value → Prop} (hk : k (.bool (decide (c = d)))) :
    PureC Tryz.prog (do eqGuard .eql 59 (.tmp 0) (.tmp 0) (.agg (encCell c).toArray) (.agg (encCell d).toArray); Go.binOp .eql 59 (.agg (encCell c).toArray) (.agg (encCell d).toArray)) k :=
  eqS (a := c.pr) (b := d.pr) (ks := [.int, .int, .int, .int, .int, .int, .int, .int, .int, .int]) (by kernel_rfl) (by kernel_rfl) (by kernel_rfl) rfl rfl (by simpa only [pr_cell] using hk)
theorem neCell {c d : CellS} {k : Value → Prop} (hk : k (.bool (!decide (c = d)))) :
    PureC Tryz.prog (do eqGuard .neq 59 (.tmp 0) (.tmp 0) (.agg (encCell c).toArray) (.agg (encCell d).toArray); Go.binOp .neq 59 (.agg (encCell c).toArray) (.agg (encCell d).toArray)) k :=
  neS (a := c.pr) (b := d.pr) (ks := [.int, .int, .int, .int, .int, .int, .int, .int, .int, .int]) (by kernel_rfl) (by kernel_rfl) (by kernel_rfl) rfl rfl (by simpa only [pr_cell] using hk)
theorem neFlow {c d : FlowS} {k : Value → Prop} (hk : k (.bool (!decide (c = d)))) :
    PureC Tryz.prog (do eqGuard .neq 57 (.tmp 0) (.tmp 0) (.agg (encFlow c).toArray) (.agg (encFlow d).toArray); Go.binOp .neq 57 (.agg (encFlow c).toArray) (.agg (encFlow d).toArray)) k :=
  neS (a := c.pr) (b := d.pr) (ks := [.int, .int, .int, .int, .int, .int, .int, .int]) (by kernel_rfl) (by kernel_rfl) (by kernel_rfl) rfl rfl (by simpa only [pr_flow] using hk)

/-! ### The first that is so -/
def idxI {α : Type} (p : α → Bool) : List α → Nat → Int
  | [], _ => -1
  | x :: xs, k => match p x with | true => (k : Int) | false => idxI p xs (k + 1)
theorem idxI_step {α : Type} (p : α → Bool) {xs : List α} {k : Nat} {x : α} (hx : xs[k]? = some x) : idxI p (xs.drop k) k = match p x with | true => (k : Int) | false => idxI p (xs.drop (k + 1)) (k + 1) := by
  obtain ⟨hlt, rfl⟩ := List.getElem?_eq_some_iff.1 hx
  rw [List.drop_eq_getElem_cons hlt]
  rfl
theorem idxI_nonneg {α : Type} (p : α → Bool) : ∀ (xs : List α) (k : Nat), (0 ≤ idxI p xs k) = (xs.any p = true)
  | [], k => by simp [idxI]
  | x :: xs, k => by
    unfold idxI
    cases h : p x
    · simp [h, idxI_nonneg p xs (k + 1)]
    · simp [h]

section
variable {w : World} {G : CellS → Prop} {a b : Option Addr} {n m c d : Nat} {xs ys : List CellS}

theorem indexFunc_ok (p : CellS → Bool) (g : FuncId) (caps : List Value) (hx : Slc w 10 encCell G a n xs)
    (hg : ∀ x ∈ xs, G x → ∀ w', Ext No w w' → CallC Tryz.prog g ([Value.agg (encCell x).toArray] ++ caps).toArray w' fun v w'' => v = .bool (p x) ∧ Ext No w' w'') :
    CallC Tryz.prog 200 #[.slice a n c, .func (.func g) #[] caps.toArray] w fun v w' => v = .int .i64 (idxI p xs 0) ∧ Ext No w w' := by
  have hm := hx.max
  have hl := hx.len
  refine fn_intro tabOk Tryz.func200 (by kernel_rfl) rfl Tryz.ntmps200 (Nat.le_of_ble_eq_true rfl) ?_
  have hS := St.start w No
  (conv => whnf)
  refine loopR tabOk (fun σ w' q => ∃ k : Nat, σ = [(8, .int .i64 k), (7, .int .i64 n), (1, .func (.func g) #[] caps.toArray), (0, .slice a n c)] ∧ q = n - k ∧ k ≤ n ∧ St w No w' [] ∧ idxI p xs 0 = idxI p (xs.drop k) k)
    (σ' := [(8, .int .i64 ((0 : Nat) : Int)), (7, .int .i64 n), (1, .func (.func g) #[] caps.toArray), (0, .slice a n c)]) (n := n) ⟨rfl, rfl, rfl, rfl, trivial⟩ ⟨0, rfl, rfl, Nat.zero_le _, hS, by simp⟩ ?_
  clear hS
  rintro _ w1 q ⟨k, rfl, rfl, hk, hS, hi⟩
  (conv => whnf)
  refine brD (fun h3 => ?_) (fun h3 => ?_)
  · obtain ⟨b0, o0, x, hxk, hgx, rfl, _, hc⟩ := hx.at (k := k) (by omega)
    have hst := idxI_step p hxk
    (conv => whnf)
    refine IdxC.mk (by omega) (by omega) ?_
    (conv => whnf)
    refine hS.lar (l := encCell x) rfl hc id ?_
    have key := hg x (List.mem_of_getElem? hxk) hgx w1 hS.ext
    have fin : ∀ (K : Value → World → Prop), (∀ w', Ext No w1 w' → K (.bool (p x)) w') → CallC Tryz.prog g ([Value.agg (encCell x).toArray] ++ caps).toArray w1 K := by
      intro K hK
      refine key.mono ?_
      rintro v w' ⟨rfl, hx'⟩
      exact hK w' hx'
    clear key
    cases caps
    all_goals
      (conv => whnf)
      refine fin _ ?_
      intro w' hx'
      replace hS := hS.no hx'
      (conv => whnf)
      refine brI (fun h4 => ?_) (fun h4 => ?_)
      · repeat' ((conv => whnf); first | refine RetC.mk ?_ | refine NzC.mk (by decide) ?_ | refine RngC.mk (by omega) (by omega) ?_ | refine IdxC.mk (by omega) (by omega) ?_ | refine brD (fun _ => ?_) (fun _ => ?_) | refine brND (fun _ => ?_) (fun _ => ?_) | refine brN (fun _ => ?_) (fun _ => ?_) | refine brI (fun _ => ?_) (fun _ => ?_))
        rw [hi, hst, h4]
        exact ⟨rfl, hS.ext⟩
      · (conv => whnf)
        refine RngC.mk (by omega) (by omega) ?_
        (conv => whnf)
        refine LoopE.mk ⟨_, [(8, .int .i64 ((k + 1 : Nat) : Int)), (7, _), (1, _), (0, _)], ?_, ⟨rfl, rfl, rfl, rfl, trivial⟩, ⟨k + 1, rfl, rfl, by omega, hS, ?_⟩⟩
        · omega
        · rw [hi, hst, h4]
  · repeat' ((conv => whnf); first | refine RetC.mk ?_ | refine NzC.mk (by decide) ?_ | refine RngC.mk (by omega) (by omega) ?_ | refine IdxC.mk (by omega) (by omega) ?_ | refine brD (fun _ => ?_) (fun _ => ?_) | refine brND (fun _ => ?_) (fun _ => ?_) | refine brN (fun _ => ?_) (fun _ => ?_) | refine brI (fun _ => ?_) (fun _ => ?_))
    have : k = n := by omega
    subst this
    rw [hi, List.drop_of_length_le (by omega)]
    exact ⟨rfl, hS.ext⟩

theorem containsFunc_ok (p : CellS → Bool) (g : FuncId) (caps : List Value) (hx : Slc w 10 encCell G a n xs)
    (hg : ∀ x ∈ xs, G x → ∀ w', Ext No w w' → CallC Tryz.prog g ([Value.agg (encCell x).toArray] ++ caps).toArray w' fun v w'' => v = .bool (p x) ∧ Ext No w' w'') :
    CallC Tryz.prog 151 #[.slice a n c, .func (.func g) #[] caps.toArray] w fun v w' => v = .bool (xs.any p) ∧ Ext No w w' := by
  refine fn_intro tabOk Tryz.func151 (by kernel_rfl) rfl Tryz.ntmps151 (Nat.le_of_ble_eq_true rfl) ?_
  (conv => whnf)
  refine (indexFunc_ok p g caps hx hg).mono ?_
  rintro v w' ⟨rfl, hx'⟩
  repeat' ((conv => whnf); first | refine RetC.mk ?_ | refine NzC.mk (by decide) ?_ | refine RngC.mk (by omega) (by omega) ?_ | refine IdxC.mk (by omega) (by omega) ?_ | refine brD (fun _ => ?_) (fun _ => ?_) | refine brND (fun _ => ?_) (fun _ => ?_) | refine brN (fun _ => ?_) (fun _ => ?_) | refine brI (fun _ => ?_) (fun _ => ?_))
  have e : decide (idxI p xs 0 ≥ 0) = xs.any p := by
    show decide (0 ≤ _) = _
    simp only [idxI_nonneg]
    cases xs.any p <;> rfl
  rw [e]
  exact ⟨rfl, hx'⟩

theorem take_succ_eq {α : Type} {xs ys : List α} {k : Nat} {x y : α} (hx : xs[k]? = some x) (hy : ys[k]? = some y) (h : xs.take k = ys.take k) (he : x = y) : xs.take (k + 1) = ys.take (k + 1) := by
  rw [List.take_add_one, List.take_add_one, hx, hy, h, he]

theorem sameCells_ok (hx : Slc w 10 encCell G a n xs) (hy : Slc w 10 encCell G b m ys) :
    CallC Tryz.prog 81 #[.slice a n c, .slice b m d] w fun v w' => v = .bool (decide (xs = ys)) ∧ Ext No w w' := by
  have hm := hx.max
  have hl := hx.len
  have hl2 := hy.len
  refine fn_intro tabOk Tryz.func81 (by kernel_rfl) rfl Tryz.ntmps81 (Nat.le_of_ble_eq_true rfl) ?_
  have hS := St.start w No
  (conv => whnf)
  refine brND (fun h1 => ?_) (fun h1 => ?_)
  · repeat' ((conv => whnf); first | refine RetC.mk ?_ | refine NzC.mk (by decide) ?_ | refine RngC.mk (by omega) (by omega) ?_ | refine IdxC.mk (by omega) (by omega) ?_ | refine brD (fun _ => ?_) (fun _ => ?_) | refine brND (fun _ => ?_) (fun _ => ?_) | refine brN (fun _ => ?_) (fun _ => ?_) | refine brI (fun _ => ?_) (fun _ => ?_))
    refine ⟨?_, hS.ext⟩
    have : xs ≠ ys := fun e => h1 (by rw [← hl, ← hl2, e])
    simp [this]
  have hnm : n = m := by omega
  subst hnm
  (conv => whnf)
  refine loopR tabOk (fun σ w' q => ∃ k : Nat, σ = [(5, .int .i64 k), (1, .slice b n d), (0, .slice a n c)] ∧ q = n - k ∧ k ≤ n ∧ St w No w' [] ∧ xs.take k = ys.take k)
    (σ' := [(5, .int .i64 ((0 : Nat) : Int)), (1, .slice b n d), (0, .slice a n c)]) (n := n) ⟨rfl, rfl, rfl, trivial⟩ ⟨0, rfl, rfl, Nat.zero_le _, hS, rfl⟩ ?_
  clear hS
  rintro _ w1 q ⟨k, rfl, rfl, hk, hS, hi⟩
  (conv => whnf)
  refine brD (fun h3 => ?_) (fun h3 => ?_)
  · obtain ⟨b0, o0, x, hxk, _, rfl, _, hc⟩ := hx.at (k := k) (by omega)
    obtain ⟨b1, o1, y, hyk, _, rfl, _, hd⟩ := hy.at (k := k) (by omega)
    repeat' ((conv => whnf); first | refine RetC.mk ?_ | refine NzC.mk (by decide) ?_ | refine RngC.mk (by omega) (by omega) ?_ | refine IdxC.mk (by omega) (by omega) ?_ | (refine drawL tabOk mixed [] No [0, 1, 2, 3, 4, 5, 6, 7, 8] rfl (by kernel_rfl) ?_; rintro w1 rfl; replace hS := hS.drew) | refine hS.larF (l := encCell x) rfl hc id id ?_ | refine hS.larF (l := encCell y) rfl hd id id ?_ | refine neCell ?_ | refine brD (fun _ => ?_) (fun _ => ?_) | refine brND (fun _ => ?_) (fun _ => ?_) | refine brN (fun _ => ?_) (fun _ => ?_) | refine brI (fun _ => ?_) (fun _ => ?_))
    · rename_i h4
      refine ⟨?_, hS.ext⟩
      have : xs ≠ ys := fun e => h4 (by subst e; exact Option.some.inj (hxk.symm.trans hyk))
      simp [this]
    · rename_i h4
      refine LoopE.mk ⟨_, [(5, .int .i64 ((k + 1 : Nat) : Int)), (1, _), (0, _)], ?_, ⟨rfl, rfl, rfl, trivial⟩, ⟨k + 1, rfl, rfl, by omega, hS, take_succ_eq hxk hyk hi h4⟩⟩
      omega
  · repeat' ((conv => whnf); first | refine RetC.mk ?_ | refine NzC.mk (by decide) ?_ | refine RngC.mk (by omega) (by omega) ?_ | refine IdxC.mk (by omega) (by omega) ?_ | refine brD (fun _ => ?_) (fun _ => ?_) | refine brND (fun _ => ?_) (fun _ => ?_) | refine brN (fun _ => ?_) (fun _ => ?_) | refine brI (fun _ => ?_) (fun _ => ?_))
    have : k = n := by omega
    subst this
    rw [List.take_of_length_le (by omega), List.take_of_length_le (by omega)] at hi
    exact ⟨by simp [hi], hS.ext⟩

theorem equal_ok (hx : Slc w 10 encCell G a n xs) (hy : Slc w 10 encCell G b m ys) :
    CallC Tryz.prog 63 #[.slice a n c, .slice b m d] w fun v w' => v = .bool (decide (xs = ys)) ∧ Ext No w w' := by
  have hm := hx.max
  have hl := hx.len
  have hl2 := hy.len
  refine fn_intro tabOk Tryz.func63 (by kernel_rfl) rfl Tryz.ntmps63 (Nat.le_of_ble_eq_true rfl) ?_
  have hS := St.start w No
  (conv => whnf)
  refine brND (fun h1 => ?_) (fun h1 => ?_)
  · repeat' ((conv => whnf); first | refine RetC.mk ?_ | refine NzC.mk (by decide) ?_ | refine RngC.mk (by omega) (by omega) ?_ | refine IdxC.mk (by omega) (by omega) ?_ | refine brD (fun _ => ?_) (fun _ => ?_) | refine brND (fun _ => ?_) (fun _ => ?_) | refine brN (fun _ => ?_) (fun _ => ?_) | refine brI (fun _ => ?_) (fun _ => ?_))
    refine ⟨?_, hS.ext⟩
    have : xs ≠ ys := fun e => h1 (by rw [← hl, ← hl2, e])
    simp [this]
  have hnm : n = m := by omega
  subst hnm
  (conv => whnf)
  refine loopR tabOk (fun σ w' q => ∃ k : Nat, σ = [(13, .int .i64 k), (12, .int .i64 n), (1, .slice b n d), (0, .slice a n c)] ∧ q = n - k ∧ k ≤ n ∧ St w No w' [] ∧ xs.take k = ys.take k)
    (σ' := [(13, .int .i64 ((0 : Nat) : Int)), (12, .int .i64 n), (1, .slice b n d), (0, .slice a n c)]) (n := n) ⟨rfl, rfl, rfl, rfl, trivial⟩ ⟨0, rfl, rfl, Nat.zero_le _, hS, rfl⟩ ?_
  clear hS
  rintro _ w1 q ⟨k, rfl, rfl, hk, hS, hi⟩
  (conv => whnf)
  refine brD (fun h3 => ?_) (fun h3 => ?_)
  · obtain ⟨b0, o0, x, hxk, _, rfl, _, hc⟩ := hx.at (k := k) (by omega)
    obtain ⟨b1, o1, y, hyk, _, rfl, _, hd⟩ := hy.at (k := k) (by omega)
    repeat' ((conv => whnf); first | refine RetC.mk ?_ | refine NzC.mk (by decide) ?_ | refine RngC.mk (by omega) (by omega) ?_ | refine IdxC.mk (by omega) (by omega) ?_ | (refine drawL tabOk mixed [] No [0, 1, 2, 3, 4, 5, 6, 7, 8] rfl (by kernel_rfl) ?_; rintro w1 rfl; replace hS := hS.drew) | refine hS.larF (l := encCell x) rfl hc id id ?_ | refine hS.larF (l := encCell y) rfl hd id id ?_ | refine neCell ?_ | refine brD (fun _ => ?_) (fun _ => ?_) | refine brND (fun _ => ?_) (fun _ => ?_) | refine brN (fun _ => ?_) (fun _ => ?_) | refine brI (fun _ => ?_) (fun _ => ?_))
    · rename_i h4
      refine ⟨?_, hS.ext⟩
      have : xs ≠ ys := fun e => h4 (by subst e; exact Option.some.inj (hxk.symm.trans hyk))
      simp [this]
    · rename_i h4
      refine LoopE.mk ⟨_, [(13, .int .i64 ((k + 1 : Nat) : Int)), (12, _), (1, _), (0, _)], ?_, ⟨rfl, rfl, rfl, rfl, trivial⟩, ⟨k + 1, rfl, rfl, by omega, hS, take_succ_eq hxk hyk hi h4⟩⟩
      omega
  · repeat' ((conv => whnf); first | refine RetC.mk ?_ | refine NzC.mk (by decide) ?_ | refine RngC.mk (by omega) (by omega) ?_ | refine IdxC.mk (by omega) (by omega) ?_ | refine brD (fun _ => ?_) (fun _ => ?_) | refine brND (fun _ => ?_) (fun _ => ?_) | refine brN (fun _ => ?_) (fun _ => ?_) | refine brI (fun _ => ?_) (fun _ => ?_))
    have : k = n := by omega
    subst this
    rw [List.take_of_length_le (by omega), List.take_of_length_le (by omega)] at hi
    exact ⟨by simp [hi], hS.ext⟩
end
theorem sameCells_same {w : World} {G : CellS → Prop} {a b : Option Addr} {n m c d : Nat} {xs : List CellS} (hx : Slc w 10 encCell G a n xs) (hy : Slc w 10 encCell G b m xs) :
    CallC Tryz.prog 81 #[.slice a n c, .slice b m d] w fun v w' => v = .bool true ∧ Ext No w w' := by
  have h := sameCells_ok (c := c) (d := d) hx hy
  rwa [decide_eq_true rfl] at h
theorem Ev.St.ownNe {w0 w : World} {S : Nat → Prop} {H : List Ent} (h : St w0 S w H) (i j : Nat) {α : Type} {b : Nat} {t e : TypeId} {cs : List Value} {sz n c : Nat} {enc : α → List Value} {a : Option Addr} {xs : List α} (hi : H[i]? = some (Ev.blk b t cs)) (hj : H[j]? = some (ownL e sz enc (.slice a n c) xs)) (hne : i ≠ j) : ∀ b0 o0, a = some ⟨b0, o0, none⟩ → b0 ≠ b := by
  rintro b0 o0 rfl rfl
  have := pairwise_at apart_symm h.apart hi hj hne b0 (by simp [Ev.blk])
  simp [ownL, own, Value.ownBlock] at this
end Go.Proofs.YtoaghhcjlfiflaaGreatDoor

/-
  Package mirror, walked.
-/
namespace Go.Proofs.YtoaghhcjlfiflaaGreatDoor
open Go Ev

structure MirS where
  life : Int
  cells : List CellS
def encM (m : MirS) : List Value := .int .i64 m.life :: m.cells.flatMap encCell
def emptyCells : List CellS := (List.range 32).map fun (i : Nat) => (⟨(i : Int), 0, noFlow⟩ : CellS)
theorem emptyCells_at {s : Nat} (h : s < 32) : emptyCells[s]? = some ⟨s, 0, noFlow⟩ := by simp [emptyCells, h]
theorem emptyCells_len : emptyCells.length = 32 := by simp [emptyCells]
def badSlot (c : CellS) : Bool := decide (c.slot < 0) || decide (c.slot ≥ 32)
def put1C (l : List CellS) (c : CellS) : List CellS := match l[c.slot.toNat]? with
  | some d => if c.ver > d.ver then l.set c.slot.toNat c else l
  | none => l
def MirS.tell (m : MirS) (life : Int) (xs : List CellS) : Nat × MirS :=
  if life < 1 ∨ xs.length > 8 ∨ xs.any badSlot = true then (2, m) else if life < m.life then (10, m) else
  (0, ⟨if life > m.life then life else m.life, xs.foldl put1C (if life > m.life then emptyCells else m.cells)⟩)
def flowsOf (l : List CellS) : List FlowS := (l.filter fun c => decide (c.f.proto ≠ 0)).map (·.f)

theorem put1C_len (l : List CellS) (c : CellS) : (put1C l c).length = l.length := by
  unfold put1C
  split
  · split
    · exact List.length_set
    · rfl
  · rfl
theorem fold_len (xs : List CellS) : ∀ l : List CellS, (xs.foldl put1C l).length = l.length := by
  induction xs with
  | nil => intro l; rfl
  | cons x xs ih => intro l; rw [List.foldl_cons, ih, put1C_len]
theorem MirS.tell_len {m : MirS} (h : m.cells.length = 32) (life : Int) (xs : List CellS) : (m.tell life xs).2.cells.length = 32 := by
  unfold MirS.tell
  repeat' split
  all_goals first | exact h | skip
  all_goals
    simp only [fold_len]
    first | exact h | exact emptyCells_len
theorem MirS.tell_code (m : MirS) (life : Int) (xs : List CellS) : (m.tell life xs).1 < 12 := by
  unfold MirS.tell
  repeat' split
  all_goals simp
theorem encM_len {m : MirS} (h : m.cells.length = 32) : (encM m).length = 321 := by
  unfold encM
  rw [List.length_cons, flat_len codCell, h]

theorem flat_take (xs : List CellS) : (xs.flatMap encCell).take (xs.length * 10) = xs.flatMap encCell := List.take_of_length_le (by rw [flat_len codCell]; exact Nat.le_refl _)

section
variable {w : World} {b : Nat} {m : MirS}
theorem mir_slc (hb : Blk w b 164 (encM m)) (hm : m.cells.length = 32) : Slc w 10 encCell (fun _ => True) (some ⟨b, 1, none⟩) 32 m.cells :=
  Slc.of_blk codCell hb hm (by decide) (fun _ _ => trivial) (by simp only [encM, List.drop_succ_cons, List.drop_zero]; exact flat_take _)

theorem mir_cell {v : Value} {k j o : Nat} {c : CellS} (hc : m.cells[k]? = some c) (hv : (encCell c)[j]? = some v) (ho : o = 1 + (k * 10 + j)) : (encM m)[o]? = some v := by
  subst ho
  rw [Nat.add_comm 1]
  exact flat_get codCell hc hv
theorem mir_over {vs : List Value} {k j o : Nat} {c c' : CellS} (hc : m.cells[k]? = some c) (hn : j + vs.length ≤ 10) (hy : over (encCell c) j vs = encCell c') (ho : o = 1 + (k * 10 + j)) : over (encM m) o vs = encM ⟨m.life, m.cells.set k c'⟩ := by
  subst ho
  rw [Nat.add_comm 1]
  unfold encM
  rw [over_cons, flat_over codCell hc hn hy]

theorem clear_build (life : Int) (w : World) : (Instr.build 164 #[(0, .int .i64 life)]).run Tryz.prog w = .ok (.agg (encM ⟨life, List.replicate 32 ⟨0, 0, noFlow⟩⟩).toArray) w := by kernel_rfl
theorem new_build (w : World) : (Instr.build 164 #[]).run Tryz.prog w = .ok (.agg (encM ⟨0, List.replicate 32 ⟨0, 0, noFlow⟩⟩).toArray) w := by kernel_rfl

/-- While 'clear' goes on: the first k cells have their slot. -/
def partCells (k : Nat) : List CellS := (List.range k).map (fun (i : Nat) => (⟨(i : Int), 0, noFlow⟩ : CellS)) ++ List.replicate (32 - k) ⟨0, 0, noFlow⟩
theorem partCells_len {k : Nat} (h : k ≤ 32) : (partCells k).length = 32 := by simp [partCells]; omega
theorem partCells_at {k : Nat} (h : k < 32) : (partCells k)[k]? = some ⟨0, 0, noFlow⟩ := by
  unfold partCells
  rw [List.getElem?_append_right (by simp), List.getElem?_replicate]
  simp
  omega
theorem partCells_set {k : Nat} (h : k < 32) : (partCells k).set k ⟨(k : Int), 0, noFlow⟩ = partCells (k + 1) := by
  unfold partCells
  rw [List.set_append_right _ _ (by simp), List.range_succ, List.map_append, List.append_assoc]
  congr 1
  rw [show 32 - k = (32 - (k + 1)) + 1 by omega, List.replicate_succ]
  simp

theorem partCells_full : partCells 32 = emptyCells := by simp [partCells, emptyCells]

theorem clear_ok (life : Int) (hb : Blk w b 164 (encM m)) (hm : m.cells.length = 32) :
    CallC Tryz.prog 135 #[.pointer (some ⟨b, 0, none⟩), .int .i64 life] w fun v w' => Ext (· = b) w w' ∧ Blk w' b 164 (encM ⟨life, emptyCells⟩) := by
  obtain ⟨V, hV, hl, h1, hbld⟩ : ∃ V : List Value, V = encM ⟨life, partCells 0⟩ ∧ V.length = 321 ∧ V.all isOne = true ∧ ∀ w, (Instr.build 164 #[(0, .int .i64 life)]).run Tryz.prog w = .ok (.agg V.toArray) w := ⟨_, rfl, encM_len (by simp [partCells]), by unfold encM; rw [List.all_cons, flat_one codCell]; rfl, clear_build life⟩
  refine fn_intro tabOk Tryz.func135 (by kernel_rfl) rfl Tryz.ntmps135 (Nat.le_of_ble_eq_true rfl) ?_
  have hS := (St.start w (· = b)).add (blk_local b _ _) hb (by simp [blk]; exact hb.lt) (by simp)
  refine eSeq ?_
  refine eReg ?_
  refine sMov (d := 5) rfl rfl ?_
  refine sMov (d := 6) rfl rfl ?_
  refine sBuild (d := 7) rfl (fun k h => h) hbld rfl ?_
  refine sNil (d := 8) rfl rfl ?_
  refine sSt (v := .agg V.toArray) rfl rfl rfl (by simp [cellsL, hl]) ?_
  refine hS.st 0 rfl (by rw [encM_len hm]; simp [cellsL, hl]) (by simpa [cellsL] using h1) (fun w' hS => ?_)
  have ho : over (encM m) 0 (cellsL (.agg V.toArray)) = encM ⟨life, partCells 0⟩ := by
    rw [over_whole (by rw [encM_len hm]; simp [cellsL, hl])]
    simp [cellsL, hV]
  replace hS : St w (· = b) w' [blk b 164 (encM ⟨life, partCells 0⟩)] := by rw [← ho]; exact hS
  clear ho hV hl h1 hbld
  refine eNil ?_
  (conv => whnf)
  refine loopR tabOk (fun σ w' q => ∃ k : Nat, σ = [(9, .int .i64 k), (0, .pointer (some ⟨b, 0, none⟩))] ∧ q = 32 - k ∧ k ≤ 32 ∧ St w (· = b) w' [blk b 164 (encM ⟨life, partCells k⟩)])
    (σ' := [(9, .int .i64 ((0 : Nat) : Int)), (0, .pointer (some ⟨b, 0, none⟩))]) (n := 32) ⟨rfl, rfl, trivial⟩ ⟨0, rfl, rfl, Nat.zero_le _, hS⟩ ?_
  clear hS
  rintro _ w1 q ⟨k, rfl, rfl, hk, hS⟩
  (conv => whnf)
  refine brD (fun h3 => ?_) (fun h3 => ?_)
  · have hk : k < 32 := by omega
    have hc := partCells_at hk
    (conv => whnf)
    refine IdxC.mk (by omega) (by omega) ?_
    (conv => whnf)
    refine hS.st 0 rfl (by rw [encM_len (partCells_len (by omega))]; simp [cellsL]; omega) rfl (fun w' hS => ?_)
    have ho : over (encM ⟨life, partCells k⟩) (0 + 1 + Int.toNat (k : Int) * 10 + 0) [.int .i64 (k : Int)] = encM ⟨life, partCells (k + 1)⟩ := by
      rw [mir_over (k := k) (j := 0) (c' := ⟨(k : Int), 0, noFlow⟩) hc (by simp) rfl (by simp <;> omega)]
      simp only [partCells_set hk]
    replace hS : St w (· = b) w' [blk b 164 (encM ⟨life, partCells (k + 1)⟩)] := by rw [← ho]; exact hS
    clear ho
    (conv => whnf)
    refine RngC.mk (by omega) (by omega) ?_
    (conv => whnf)
    refine LoopE.mk ⟨_, [(9, .int .i64 ((k + 1 : Nat) : Int)), (0, _)], ?_, ⟨rfl, rfl, trivial⟩, ⟨k + 1, rfl, rfl, by omega, hS⟩⟩
    omega
  · obtain rfl : k = 32 := by omega
    rw [partCells_full] at hS
    repeat' ((conv => whnf); first | refine RetC.mk ?_ | refine NzC.mk (by decide) ?_ | refine RngC.mk (by omega) (by omega) ?_ | refine IdxC.mk (by omega) (by omega) ?_ | refine brD (fun _ => ?_) (fun _ => ?_) | refine brND (fun _ => ?_) (fun _ => ?_) | refine brN (fun _ => ?_) (fun _ => ?_) | refine brI (fun _ => ?_) (fun _ => ?_))
    exact ⟨hS.ext, hS.blk 0 rfl⟩

theorem new_ok (w : World) : CallC Tryz.prog 92 #[] w fun v w' => ∃ b, v = .pointer (some ⟨b, 0, none⟩) ∧ w.heap.size ≤ b ∧ Ext No w w' ∧ Blk w' b 164 (encM ⟨0, emptyCells⟩) := by
  obtain ⟨V, hV, hl, h1, hbld⟩ : ∃ V : List Value, V = encM ⟨0, partCells 0⟩ ∧ V.length = 321 ∧ V.all isOne = true ∧ ∀ w, (Instr.build 164 #[]).run Tryz.prog w = .ok (.agg V.toArray) w := ⟨_, rfl, encM_len (by simp [partCells]), by unfold encM; rw [List.all_cons, flat_one codCell]; rfl, new_build⟩
  refine fn_intro tabOk Tryz.func92 (by kernel_rfl) rfl Tryz.ntmps92 (Nat.le_of_ble_eq_true rfl) ?_
  have hS := St.start w No
  refine eSeq ?_
  refine eReg ?_
  refine sAsg (d := 0) rfl rfl ?_
  refine eNil ?_
  refine eNext ?_
  refine eSeq ?_
  refine eReg ?_
  refine sBuild (d := 2) rfl (fun k h => h) hbld rfl ?_
  refine sBox (d := 3) rfl rfl ?_
  refine hS.new (fun b w' hb hS => ?_)
  have ho : cellsL (.agg V.toArray) = encM ⟨0, partCells 0⟩ := by simp [cellsL, hV]
  rw [ho] at hS
  clear ho hV hl h1 hbld
  refine sAsg (d := 1) rfl rfl ?_
  refine eNil ?_
  (conv => whnf)
  refine (clear_ok 0 (hS.blk 0 rfl) (partCells_len (by omega))).mono ?_
  rintro v w' ⟨hx, hB⟩
  replace hS := hS.upd 0 rfl hx (fun c hc => by subst hc; exact List.mem_singleton.2 rfl) (blk_local _ _ _) hB (fun c hc => .inl hc)
  repeat' ((conv => whnf); first | refine RetC.mk ?_ | refine NzC.mk (by decide) ?_ | refine RngC.mk (by omega) (by omega) ?_ | refine IdxC.mk (by omega) (by omega) ?_ | refine brD (fun _ => ?_) (fun _ => ?_) | refine brND (fun _ => ?_) (fun _ => ?_) | refine brN (fun _ => ?_) (fun _ => ?_) | refine brI (fun _ => ?_) (fun _ => ?_))
  exact ⟨b, rfl, hb, hS.ext, hS.blk 0 rfl⟩

theorem clone_ok {G : CellS → Prop} {a : Option Addr} {n c : Nat} {xs : List CellS} (hx : Slc w 10 encCell G a n xs) (hn : n ≤ 1000) (ha : a.isSome = true) :
    CallC Tryz.prog 103 #[.slice a n c] w fun v w' => ∃ a' c', v = .slice a' n c' ∧ Ext No w w' ∧ (ownL 59 10 encCell v xs).holds w' ∧ ∀ g, v.ownBlock = some g → w.heap.size ≤ g ∧ g < w'.heap.size := by
  refine fn_intro tabOk Tryz.func103 (by kernel_rfl) rfl Tryz.ntmps103 (Nat.le_of_ble_eq_true rfl) ?_
  have hS := St.start w No
  (conv => whnf)
  refine brF (by cases a <;> simp_all) ?_
  (conv => whnf)
  refine hS.lit0 Tryz.underlying54 (sz := 10) (by kernel_rfl) (fun b0 w1 hS => ?_)
  (conv => whnf)
  refine hS.appS codCell 0 (xs := []) Tryz.underlying54 (bytes := 80) (by kernel_rfl) (z := .agg (encCell ⟨0, 0, noFlow⟩).toArray) (by kernel_rfl) rfl rfl (hx.no hS.ext) (by unfold maxLen; simp; omega) (by simp; omega) (fun a' c' w' hS => ?_)
  repeat' ((conv => whnf); first | refine RetC.mk ?_ | refine NzC.mk (by decide) ?_ | refine RngC.mk (by omega) (by omega) ?_ | refine IdxC.mk (by omega) (by omega) ?_ | refine brD (fun _ => ?_) (fun _ => ?_) | refine brND (fun _ => ?_) (fun _ => ?_) | refine brN (fun _ => ?_) (fun _ => ?_) | refine brI (fun _ => ?_) (fun _ => ?_))
  have hn0 : ([] : List CellS).length + n = n := by simp
  rw [hn0] at hS ⊢
  exact ⟨a', c', rfl, hS.ext, hS.get 0 rfl, fun g hg => by
    rcases hS.may _ (List.mem_of_getElem? (i := 0) rfl) g (by simpa [ownL, own] using hg) with ⟨h1 | h1, h2⟩
    · exact h1.elim
    · exact ⟨h1, h2⟩⟩

theorem cells_ok (hb : Blk w b 164 (encM m)) (hm : m.cells.length = 32) :
    CallC Tryz.prog 64 #[.pointer (some ⟨b, 0, none⟩)] w fun v w' => ∃ a' c', v = .slice a' 32 c' ∧ Ext No w w' ∧ (ownL 59 10 encCell v m.cells).holds w' ∧ ∀ g, v.ownBlock = some g → w.heap.size ≤ g ∧ g < w'.heap.size := by
  refine fn_intro tabOk Tryz.func64 (by kernel_rfl) rfl Tryz.ntmps64 (Nat.le_of_ble_eq_true rfl) ?_
  (conv => whnf)
  refine (clone_ok (mir_slc hb hm) (by decide) rfl).mono ?_
  rintro v w' ⟨a', c', rfl, h⟩
  repeat' ((conv => whnf); first | refine RetC.mk ?_ | refine NzC.mk (by decide) ?_ | refine RngC.mk (by omega) (by omega) ?_ | refine IdxC.mk (by omega) (by omega) ?_ | refine brD (fun _ => ?_) (fun _ => ?_) | refine brND (fun _ => ?_) (fun _ => ?_) | refine brN (fun _ => ?_) (fun _ => ?_) | refine brI (fun _ => ?_) (fun _ => ?_))
  exact ⟨a', c', rfl, h⟩

theorem tellF_ok (c : CellS) (w : World) : CallC Tryz.prog 152 ([Value.agg (encCell c).toArray] ++ []).toArray w fun v w' => v = .bool (badSlot c) ∧ Ext No w w' := by
  refine fn_intro tabOk Tryz.func152 (by kernel_rfl) rfl Tryz.ntmps152 (Nat.le_of_ble_eq_true rfl) ?_
  have hS := St.start w No
  (conv => whnf)
  refine hS.new (fun b w' hb hS => ?_)
  repeat' ((conv => whnf); first | refine RetC.mk ?_ | refine NzC.mk (by decide) ?_ | refine RngC.mk (by omega) (by omega) ?_ | refine IdxC.mk (by omega) (by omega) ?_ | refine hS.ld 0 rfl rfl ?_ | refine brD (fun _ => ?_) (fun _ => ?_) | refine brND (fun _ => ?_) (fun _ => ?_) | refine brN (fun _ => ?_) (fun _ => ?_) | refine brI (fun _ => ?_) (fun _ => ?_))
  all_goals refine ⟨?_, hS.ext⟩
  all_goals simp_all [badSlot]
  all_goals omega

theorem put1C_at {l : List CellS} {c d : CellS} (h : l[c.slot.toNat]? = some d) : put1C l c = if c.ver > d.ver then l.set c.slot.toNat c else l := by
  unfold put1C
  rw [h]
theorem fold_step {xs l : List CellS} {k : Nat} {x : CellS} (hx : xs[k]? = some x) : (xs.take (k + 1)).foldl put1C l = put1C ((xs.take k).foldl put1C l) x := by
  rw [List.take_add_one, hx, List.foldl_append]
  rfl

theorem tell_ok {E : Nat → Addr} {q : Nat} {G : CellS → Prop} {a : Option Addr} {n c : Nat} {xs : List CellS} (life : Int) (hb : Blk w b 164 (encM m)) (hm : m.cells.length = 32) (hE : Errs w E q [2, 10]) (hq : q ≤ b) (hx : Slc w 10 encCell G a n xs) (hsrc : 0 < n → ∀ b0 o0, a = some ⟨b0, o0, none⟩ → b0 ≠ b) :
    CallC Tryz.prog 104 #[.pointer (some ⟨b, 0, none⟩), .int .i64 life, .slice a n c] w fun v w' => v = errV E (m.tell life xs).1 ∧ Ext (· = b) w w' ∧ Blk w' b 164 (encM (m.tell life xs).2) := by
  have hmax := hx.max
  have hlen := hx.len
  have hbw := hb.lt
  refine fn_intro tabOk Tryz.func104 (by kernel_rfl) rfl Tryz.ntmps104 (Nat.le_of_ble_eq_true rfl) ?_
  have hS := (St.start w (· = b)).add (blk_local b _ _) hb (by simp [blk]; exact hb.lt) (by simp)
  (conv => whnf)
  refine (containsFunc_ok badSlot _ [] hx (fun x _ _ w' _ => tellF_ok x w')).mono ?_
  rintro v w' ⟨rfl, hx'⟩
  replace hS := hS.no hx'
  clear hx'
  cases hany : xs.any badSlot
  all_goals repeat' ((conv => whnf); first | refine RetC.mk ?_ | refine NzC.mk (by decide) ?_ | refine RngC.mk (by omega) (by omega) ?_ | refine IdxC.mk (by omega) (by omega) ?_ | refine hS.ldr (hE.at_ 2 rfl) (hE.ne 2 rfl hq) ?_ | refine hS.ldr (hE.at_ 10 rfl) (hE.ne 10 rfl hq) ?_ | refine hS.ld 0 rfl rfl ?_ | (refine (clear_ok life (hS.blk 0 rfl) hm).mono ?_; rintro v w' ⟨hx', hB⟩; replace hS := hS.upd 0 rfl hx' (fun c hc => by subst hc; exact List.mem_singleton.2 rfl) (blk_local _ _ _) hB (fun c hc => .inl hc)) | refine brD (fun _ => ?_) (fun _ => ?_) | refine brND (fun _ => ?_) (fun _ => ?_) | refine brN (fun _ => ?_) (fun _ => ?_) | refine brI (fun _ => ?_) (fun _ => ?_))
  all_goals first | (rw [show m.tell life xs = (2, m) from if_pos (by first | (left; assumption) | (right; left; omega) | (right; right; assumption))]; exact ⟨rfl, hS.ext, hS.blk 0 rfl⟩) | skip
  · rename_i h1 h2 h3
    rw [show m.tell life xs = (10, m) by
      unfold MirS.tell
      rw [if_neg (by rintro (h | h | h); omega; omega; simp [hany] at h), if_pos h3]]
    exact ⟨rfl, hS.ext, hS.blk 0 rfl⟩
  · have hgood : ∀ x ∈ xs, 0 ≤ x.slot ∧ x.slot < 32 := fun x hx => by
      have := List.any_eq_false.1 hany x hx
      simp [badSlot] at this
      omega
    have htell : m.tell life xs = (0, ⟨life, xs.foldl put1C emptyCells⟩) := by
      unfold MirS.tell
      rw [if_neg (by rintro (h | h | h); omega; omega; simp [hany] at h), if_neg (show ¬ life < m.life by assumption), if_pos (show life > m.life by assumption), if_pos (show life > m.life by assumption)]
    have hl1 : ((⟨life, emptyCells⟩ : MirS)).cells.length = 32 := by first | exact hm | exact emptyCells_len
    refine loopR tabOk (fun σ w' q => ∃ k : Nat, σ = [(44, .int .i64 k), (43, .int .i64 n), (42, .slice a n c), (0, .pointer (some ⟨b, 0, none⟩))] ∧ q = n - k ∧ k ≤ n ∧ St w (· = b) w' [blk b 164 (encM ⟨((⟨life, emptyCells⟩ : MirS)).life, (xs.take k).foldl put1C ((⟨life, emptyCells⟩ : MirS)).cells⟩)])
      (σ' := [(44, .int .i64 ((0 : Nat) : Int)), (43, .int .i64 n), (42, .slice a n c), (0, .pointer (some ⟨b, 0, none⟩))]) (n := n) ⟨rfl, rfl, rfl, rfl, trivial⟩ ⟨0, rfl, rfl, Nat.zero_le _, hS⟩ ?_
    clear hS
    rintro _ w1 q ⟨k, rfl, rfl, hk, hS⟩
    (conv => whnf)
    refine brD (fun h3 => ?_) (fun h3 => ?_)
    · obtain ⟨b0, o0, x, hxk, _, rfl, hb0, hc⟩ := hx.at (k := k) (by omega)
      have hnb : ¬ b0 = b := hsrc (by omega) b0 o0 rfl
      have hin := hgood x (List.mem_of_getElem? hxk)
      have hlk : ((xs.take k).foldl put1C ((⟨life, emptyCells⟩ : MirS)).cells).length = 32 := by rw [fold_len, hl1]
      have hstep := fold_step (l := ((⟨life, emptyCells⟩ : MirS)).cells) hxk
      generalize hL : (xs.take k).foldl put1C ((⟨life, emptyCells⟩ : MirS)).cells = L at hS hlk hstep
      obtain ⟨d, hd⟩ : ∃ d, L[x.slot.toNat]? = some d := ⟨_, List.getElem?_eq_getElem (by omega)⟩
      rw [put1C_at hd] at hstep
      (conv => whnf)
      refine IdxC.mk (by omega) (by omega) ?_
      (conv => whnf)
      refine hS.lar (l := encCell x) rfl hc hnb ?_
      (conv => whnf)
      refine hS.new (fun bc w' hbc hS => ?_)
      have hbcb : ¬ bc = b := by omega
      (conv => whnf)
      refine hS.st 1 rfl (Nat.le_of_ble_eq_true rfl) rfl (fun w' hS => ?_)
      replace hS : St w (· = b) w' [blk b 164 (encM ⟨((⟨life, emptyCells⟩ : MirS)).life, L⟩), blk bc 59 (encCell x)] := hS
      (conv => whnf)
      (refine drawS tabOk mixed [] No [0, 1, 2, 3, 4, 5, 6, 7, 8, 9, 10] (by kernel_rfl) ?_; rintro w1 rfl; replace hS := hS.drew)
      repeat' ((conv => whnf); first | refine RetC.mk ?_ | refine NzC.mk (by decide) ?_ | refine RngC.mk (by omega) (by omega) ?_ | refine IdxC.mk (by omega) (by omega) ?_ | refine hS.ldF 1 rfl rfl id ?_ | refine hS.ldF 0 rfl (mir_cell (k := x.slot.toNat) (j := 1) hd rfl (by simp <;> omega)) id ?_ | (refine drawS tabOk mixed [] ((· = b)) [0, 1, 2, 3, 4, 5, 6, 7] (by kernel_rfl) ?_; rintro w1 rfl; replace hS := hS.drew) | refine brD (fun _ => ?_) (fun _ => ?_) | refine brND (fun _ => ?_) (fun _ => ?_) | refine brN (fun _ => ?_) (fun _ => ?_) | refine brI (fun _ => ?_) (fun _ => ?_))
      · rename_i hv
        rw [if_pos hv] at hstep
        repeat' ((conv => whnf); first | refine IdxC.mk (by omega) (by omega) ?_ | refine hS.ldF 1 rfl rfl hbcb ?_ | refine hS.laF 1 rfl (l := encCell x) rfl rfl hbcb ?_)
        refine hS.stX 0 rfl (by rw [encM_len hlk]; simp [cellsL, encCell]; omega) rfl (fun w' hx' hS => ?_)
        refine KeepC.mk hx' ?_
        replace hS := hS.keep 1
        have ho : over (encM ⟨((⟨life, emptyCells⟩ : MirS)).life, L⟩) (0 + 1 + x.slot.toNat * 10) (cellsL (.agg (encCell x).toArray)) = encM ⟨((⟨life, emptyCells⟩ : MirS)).life, (xs.take (k + 1)).foldl put1C ((⟨life, emptyCells⟩ : MirS)).cells⟩ := by
          rw [mir_over (k := x.slot.toNat) (j := 0) (c' := x) hd (by simp [cellsL, encCell]) rfl (by simp <;> omega), hstep]
        replace hS : St w (· = b) w' [blk b 164 (encM ⟨((⟨life, emptyCells⟩ : MirS)).life, (xs.take (k + 1)).foldl put1C ((⟨life, emptyCells⟩ : MirS)).cells⟩)] := by rw [← ho]; exact hS
        (conv => whnf)
        refine RngC.mk (by omega) (by omega) ?_
        (conv => whnf)
        refine LoopE.mk ⟨_, [(44, .int .i64 ((k + 1 : Nat) : Int)), (43, _), (42, _), (0, _)], ?_, ⟨rfl, rfl, rfl, rfl, trivial⟩, ⟨k + 1, rfl, rfl, by omega, hS⟩⟩
        omega
      · rename_i hv
        rw [if_neg hv] at hstep
        replace hS := hS.keep 1
        refine LoopE.mk ⟨_, [(44, .int .i64 ((k + 1 : Nat) : Int)), (43, _), (42, _), (0, _)], ?_, ⟨rfl, rfl, rfl, rfl, trivial⟩, ⟨k + 1, rfl, rfl, by omega, by rw [hstep]; exact hS⟩⟩
        omega
    · obtain rfl : k = n := by omega
      rw [List.take_of_length_le (by omega)] at hS
      repeat' ((conv => whnf); first | refine RetC.mk ?_ | refine NzC.mk (by decide) ?_ | refine RngC.mk (by omega) (by omega) ?_ | refine IdxC.mk (by omega) (by omega) ?_ | refine brD (fun _ => ?_) (fun _ => ?_) | refine brND (fun _ => ?_) (fun _ => ?_) | refine brN (fun _ => ?_) (fun _ => ?_) | refine brI (fun _ => ?_) (fun _ => ?_))
      rw [htell]
      exact ⟨rfl, hS.ext, hS.blk 0 rfl⟩
  · have hgood : ∀ x ∈ xs, 0 ≤ x.slot ∧ x.slot < 32 := fun x hx => by
      have := List.any_eq_false.1 hany x hx
      simp [badSlot] at this
      omega
    have htell : m.tell life xs = (0, ⟨m.life, xs.foldl put1C m.cells⟩) := by
      unfold MirS.tell
      rw [if_neg (by rintro (h | h | h); omega; omega; simp [hany] at h), if_neg (show ¬ life < m.life by assumption), if_neg (show ¬ life > m.life by assumption), if_neg (show ¬ life > m.life by assumption)]
    have hl1 : (m).cells.length = 32 := by first | exact hm | exact emptyCells_len
    refine loopR tabOk (fun σ w' q => ∃ k : Nat, σ = [(44, .int .i64 k), (43, .int .i64 n), (42, .slice a n c), (0, .pointer (some ⟨b, 0, none⟩))] ∧ q = n - k ∧ k ≤ n ∧ St w (· = b) w' [blk b 164 (encM ⟨(m).life, (xs.take k).foldl put1C (m).cells⟩)])
      (σ' := [(44, .int .i64 ((0 : Nat) : Int)), (43, .int .i64 n), (42, .slice a n c), (0, .pointer (some ⟨b, 0, none⟩))]) (n := n) ⟨rfl, rfl, rfl, rfl, trivial⟩ ⟨0, rfl, rfl, Nat.zero_le _, hS⟩ ?_
    clear hS
    rintro _ w1 q ⟨k, rfl, rfl, hk, hS⟩
    (conv => whnf)
    refine brD (fun h3 => ?_) (fun h3 => ?_)
    · obtain ⟨b0, o0, x, hxk, _, rfl, hb0, hc⟩ := hx.at (k := k) (by omega)
      have hnb : ¬ b0 = b := hsrc (by omega) b0 o0 rfl
      have hin := hgood x (List.mem_of_getElem? hxk)
      have hlk : ((xs.take k).foldl put1C (m).cells).length = 32 := by rw [fold_len, hl1]
      have hstep := fold_step (l := (m).cells) hxk
      generalize hL : (xs.take k).foldl put1C (m).cells = L at hS hlk hstep
      obtain ⟨d, hd⟩ : ∃ d, L[x.slot.toNat]? = some d := ⟨_, List.getElem?_eq_getElem (by omega)⟩
      rw [put1C_at hd] at hstep
      (conv => whnf)
      refine IdxC.mk (by omega) (by omega) ?_
      (conv => whnf)
      refine hS.lar (l := encCell x) rfl hc hnb ?_
      (conv => whnf)
      refine hS.new (fun bc w' hbc hS => ?_)
      have hbcb : ¬ bc = b := by omega
      (conv => whnf)
      refine hS.st 1 rfl (Nat.le_of_ble_eq_true rfl) rfl (fun w' hS => ?_)
      replace hS : St w (· = b) w' [blk b 164 (encM ⟨(m).life, L⟩), blk bc 59 (encCell x)] := hS
      (conv => whnf)
      (refine drawS tabOk mixed [] No [0, 1, 2, 3, 4, 5, 6, 7, 8, 9, 10] (by kernel_rfl) ?_; rintro w1 rfl; replace hS := hS.drew)
      repeat' ((conv => whnf); first | refine RetC.mk ?_ | refine NzC.mk (by decide) ?_ | refine RngC.mk (by omega) (by omega) ?_ | refine IdxC.mk (by omega) (by omega) ?_ | refine hS.ldF 1 rfl rfl id ?_ | refine hS.ldF 0 rfl (mir_cell (k := x.slot.toNat) (j := 1) hd rfl (by simp <;> omega)) id ?_ | (refine drawS tabOk mixed [] ((· = b)) [0, 1, 2, 3, 4, 5, 6, 7] (by kernel_rfl) ?_; rintro w1 rfl; replace hS := hS.drew) | refine brD (fun _ => ?_) (fun _ => ?_) | refine brND (fun _ => ?_) (fun _ => ?_) | refine brN (fun _ => ?_) (fun _ => ?_) | refine brI (fun _ => ?_) (fun _ => ?_))
      · rename_i hv
        rw [if_pos hv] at hstep
        repeat' ((conv => whnf); first | refine IdxC.mk (by omega) (by omega) ?_ | refine hS.ldF 1 rfl rfl hbcb ?_ | refine hS.laF 1 rfl (l := encCell x) rfl rfl hbcb ?_)
        refine hS.stX 0 rfl (by rw [encM_len hlk]; simp [cellsL, encCell]; omega) rfl (fun w' hx' hS => ?_)
        refine KeepC.mk hx' ?_
        replace hS := hS.keep 1
        have ho : over (encM ⟨(m).life, L⟩) (0 + 1 + x.slot.toNat * 10) (cellsL (.agg (encCell x).toArray)) = encM ⟨(m).life, (xs.take (k + 1)).foldl put1C (m).cells⟩ := by
          rw [mir_over (k := x.slot.toNat) (j := 0) (c' := x) hd (by simp [cellsL, encCell]) rfl (by simp <;> omega), hstep]
        replace hS : St w (· = b) w' [blk b 164 (encM ⟨(m).life, (xs.take (k + 1)).foldl put1C (m).cells⟩)] := by rw [← ho]; exact hS
        (conv => whnf)
        refine RngC.mk (by omega) (by omega) ?_
        (conv => whnf)
        refine LoopE.mk ⟨_, [(44, .int .i64 ((k + 1 : Nat) : Int)), (43, _), (42, _), (0, _)], ?_, ⟨rfl, rfl, rfl, rfl, trivial⟩, ⟨k + 1, rfl, rfl, by omega, hS⟩⟩
        omega
      · rename_i hv
        rw [if_neg hv] at hstep
        replace hS := hS.keep 1
        refine LoopE.mk ⟨_, [(44, .int .i64 ((k + 1 : Nat) : Int)), (43, _), (42, _), (0, _)], ?_, ⟨rfl, rfl, rfl, rfl, trivial⟩, ⟨k + 1, rfl, rfl, by omega, by rw [hstep]; exact hS⟩⟩
        omega
    · obtain rfl : k = n := by omega
      rw [List.take_of_length_le (by omega)] at hS
      repeat' ((conv => whnf); first | refine RetC.mk ?_ | refine NzC.mk (by decide) ?_ | refine RngC.mk (by omega) (by omega) ?_ | refine IdxC.mk (by omega) (by omega) ?_ | refine brD (fun _ => ?_) (fun _ => ?_) | refine brND (fun _ => ?_) (fun _ => ?_) | refine brN (fun _ => ?_) (fun _ => ?_) | refine brI (fun _ => ?_) (fun _ => ?_))
      rw [htell]
      exact ⟨rfl, hS.ext, hS.blk 0 rfl⟩

/-! ### Flows -/
theorem flowsOf_step {l : List CellS} {k : Nat} {x : CellS} (hx : l[k]? = some x) : flowsOf (l.take (k + 1)) = flowsOf (l.take k) ++ (if x.f.proto ≠ 0 then [x.f] else []) := by
  rw [List.take_add_one, hx]
  unfold flowsOf
  rw [List.filter_append, List.map_append]
  congr 1
  by_cases h : x.f.proto = 0 <;> simp [h]
theorem flowsOf_len (l : List CellS) : (flowsOf l).length ≤ l.length := by
  unfold flowsOf
  rw [List.length_map]
  exact List.length_filter_le _ _

/-- What a slice of the call's own is made of anew: a row that was not there before. -/
theorem flows_ok (hb : Blk w b 164 (encM m)) (hm : m.cells.length = 32) :
    CallC Tryz.prog 147 #[.pointer (some ⟨b, 0, none⟩)] w fun v w' => ∃ a' c', v = .slice a' (flowsOf m.cells).length c' ∧ Ext No w w' ∧ (ownL 57 8 encFlow v (flowsOf m.cells)).holds w' ∧ Fresh w w' v := by
  refine fn_intro tabOk Tryz.func147 (by kernel_rfl) rfl Tryz.ntmps147 (Nat.le_of_ble_eq_true rfl) ?_
  have hS := St.start w No
  have hl0 : CellsAt w b 1 (m.cells.flatMap encCell) := hb.cells (by rw [flat_len codCell]; simp only [encM, List.drop_succ_cons, List.drop_zero]; exact flat_take _)
  (conv => whnf)
  refine hS.lar (l := m.cells.flatMap encCell) (by rw [flat_len codCell, hm]) hl0 id ?_
  have hS := hS.add (ownL_local (e := 57) (enc := encFlow) (sz := 8) (v := .slice none 0 0) (xs := [])) (own_nil _ _ _) (by simp [ownL, own, Value.ownBlock]) (by simp [ownL, own, Value.ownBlock])
  (conv => whnf)
  refine loopR tabOk (fun σ w' q => ∃ (k : Nat) (v : Value), σ = [(10, .int .i64 k), (9, .agg (m.cells.flatMap encCell).toArray), (3, v)] ∧ q = 32 - k ∧ k ≤ 32 ∧ (∃ a' c', v = .slice a' (flowsOf (m.cells.take k)).length c') ∧ St w No w' [ownL 57 8 encFlow v (flowsOf (m.cells.take k))])
    (σ' := [(10, .int .i64 ((0 : Nat) : Int)), (9, .agg (m.cells.flatMap encCell).toArray), (3, .slice none 0 0)]) (n := 32) ⟨rfl, rfl, rfl, trivial⟩ ⟨0, _, rfl, rfl, Nat.zero_le _, ⟨none, 0, rfl⟩, hS⟩ ?_
  clear hS
  rintro _ w1 q ⟨k, _, rfl, rfl, hk, ⟨a', c', rfl⟩, hS⟩
  (conv => whnf)
  refine brD (fun h3 => ?_) (fun h3 => ?_)
  · obtain ⟨x, hxk⟩ : ∃ x, m.cells[k]? = some x := ⟨_, List.getElem?_eq_getElem (by omega)⟩
    have hstep := flowsOf_step hxk
    have hlen := flowsOf_len (m.cells.take k)
    rw [List.length_take] at hlen
    (conv => whnf)
    refine PureC.of (index_run codCell (k := k) (by rw [hm]; exact Tryz.underlying160) (by kernel_rfl) ⟨_, Tryz.underlying59⟩ (by kernel_rfl) (by kernel_rfl) hxk rfl) ?_
    (conv => whnf)
    refine hS.new (fun bc w' hbc hS => ?_)
    (conv => whnf)
    refine hS.st 1 rfl (Nat.le_of_ble_eq_true rfl) rfl (fun w' hS => ?_)
    replace hS : St w No w' [ownL 57 8 encFlow (.slice a' (flowsOf (m.cells.take k)).length c') (flowsOf (m.cells.take k)), blk bc 59 (encCell x)] := hS
    (conv => whnf)
    refine hS.ld 1 rfl rfl ?_
    (conv => whnf)
    refine brND (fun h4 => ?_) (fun h4 => ?_)
    · rw [if_pos h4] at hstep
      (conv => whnf)
      refine hS.la 1 rfl (l := encFlow x.f) rfl rfl ?_
      (conv => whnf)
      refine hS.lit (cs := encFlow x.f) Tryz.underlying221 (sz := 8) (by kernel_rfl) (z := .agg (encFlow noFlow).toArray) (by kernel_rfl) rfl rfl (by rfl) (fun bl w' hbl hS => ?_)
      (conv => whnf)
      refine hS.appS codFlow 0 (ys := [x.f]) (G := fun _ => True) Tryz.underlying221 (bytes := 64) (by kernel_rfl) (z := .agg (encFlow noFlow).toArray) (by kernel_rfl) rfl rfl (Slc.of_blk codFlow (hS.blk 2 rfl) rfl (by decide) (fun _ _ => trivial) rfl) (by unfold maxLen; omega) (by omega) (fun a2 c2 w' hS => ?_)
      replace hS := hS.keep 1
      rw [← hstep] at hS
      have hl2 : (flowsOf (m.cells.take k)).length + 1 = (flowsOf (m.cells.take (k + 1))).length := by rw [hstep]; simp
      rw [hl2] at hS ⊢
      (conv => whnf)
      refine RngC.mk (by omega) (by omega) ?_
      (conv => whnf)
      refine LoopE.mk ⟨_, [(10, .int .i64 ((k + 1 : Nat) : Int)), (9, _), (3, _)], ?_, ⟨rfl, rfl, rfl, trivial⟩, ⟨k + 1, _, rfl, rfl, by omega, ⟨a2, c2, rfl⟩, hS⟩⟩
      omega
    · rw [if_neg (fun h => h h4), List.append_nil] at hstep
      replace hS := hS.keep 1
      (conv => whnf)
      refine RngC.mk (by omega) (by omega) ?_
      (conv => whnf)
      refine LoopE.mk ⟨_, [(10, .int .i64 ((k + 1 : Nat) : Int)), (9, _), (3, _)], ?_, ⟨rfl, rfl, rfl, trivial⟩, ⟨k + 1, _, rfl, rfl, by omega, ⟨a', c', by rw [hstep]⟩, by rw [hstep]; exact hS⟩⟩
      omega
  · obtain rfl : k = 32 := by omega
    rw [List.take_of_length_le (by omega)] at hS ⊢
    repeat' ((conv => whnf); first | refine RetC.mk ?_ | refine NzC.mk (by decide) ?_ | refine RngC.mk (by omega) (by omega) ?_ | refine IdxC.mk (by omega) (by omega) ?_ | refine brD (fun _ => ?_) (fun _ => ?_) | refine brND (fun _ => ?_) (fun _ => ?_) | refine brN (fun _ => ?_) (fun _ => ?_) | refine brI (fun _ => ?_) (fun _ => ?_))
    exact ⟨a', c', rfl, hS.ext, hS.get 0 rfl, hS.freshAt 0 rfl⟩
end
end Go.Proofs.YtoaghhcjlfiflaaGreatDoor

/-
  What an argument that can be read says, where its type is made of numbers, truth values and strings alone.
-/
namespace Go.Proofs.YtoaghhcjlfiflaaGreatDoor.Ev
open Go

def I64 (n : Int) : Prop := -9223372036854775808 ≤ n ∧ n ≤ 9223372036854775807
def Pr.ok : Pr → Prop
  | .int n => I64 n
  | .bool _ => True
  | .str s => s.size ≤ maxLen

section
variable {P : Program} {w : World}
theorem shp_flatFs {rec_ : TypeId → Option (List PK)} {D : Nat} {cs : List Value} (IH : ∀ (t : TypeId) (ks : List PK) (cs : List Value), rec_ t = some ks → P.cellsOf t = ks.length → Shp P w D t cs → ∃ ps : List Pr, cs = ps.map Pr.v ∧ ps.map Pr.k = ks ∧ ∀ p ∈ ps, p.ok) :
    ∀ (fs : List Field) (off : Nat) (ks : List PK), flatFs P rec_ fs off = some ks → (∀ f ∈ fs, Shp P w D f.type ((cs.drop f.offset).take (P.cellsOf f.type))) → ∃ ps : List Pr, (cs.drop off).take ks.length = ps.map Pr.v ∧ ps.map Pr.k = ks ∧ ∀ p ∈ ps, p.ok := by
  intro fs
  induction fs with
  | nil =>
    intro off ks h _
    simp only [flatFs, Option.some.injEq] at h
    subst h
    exact ⟨[], by simp, rfl, by simp⟩
  | cons f r ih =>
    intro off ks h hs
    unfold flatFs at h
    split at h
    · cases h
    · rename_i hc
      simp only [Bool.and_eq_true, bne_iff_ne, ne_eq, beq_iff_eq] at hc
      obtain ⟨⟨⟨_, rfl⟩, _⟩, _⟩ := hc
      split at h
      · cases h
      · rename_i k hk
        split at h
        · cases h
        · rename_i hcs
          simp only [Bool.and_eq_true, Bool.or_eq_true, beq_iff_eq] at hcs
          obtain ⟨ks', hr, rfl⟩ := Option.map_eq_some_iff.1 h
          obtain ⟨ps, h1, h2, h3⟩ := IH f.type k _ hk hcs.1 (hs f (by simp))
          obtain ⟨qs, h4, h5, h6⟩ := ih (f.offset + k.length) ks' hr (fun g hg => hs g (by simp [hg]))
          refine ⟨ps ++ qs, ?_, by rw [List.map_append, h2, h5], ?_⟩
          · rw [hcs.1] at h1
            rw [List.length_append, List.take_add, List.drop_drop, h1, h4, List.map_append]
          · intro p hp
            rcases List.mem_append.1 hp with hp | hp
            · exact h3 p hp
            · exact h6 p hp
theorem shp_flat : ∀ (d : Nat) (D : Nat) (t : TypeId) (ks : List PK) (cs : List Value), flatK P d t = some ks → d ≤ D → P.cellsOf t = ks.length → Shp P w D t cs → ∃ ps : List Pr, cs = ps.map Pr.v ∧ ps.map Pr.k = ks ∧ ∀ p ∈ ps, p.ok := by
  intro d
  induction d with
  | zero => intro D t ks cs h; simp [flatK] at h
  | succ d ih =>
    intro D t ks cs h hD hc hs
    obtain ⟨D, rfl⟩ : ∃ D', D = D' + 1 := ⟨D - 1, by omega⟩
    unfold Shp at hs
    unfold flatK at h
    split at h
    · rename_i hu
      rw [hu] at hs
      simp only [Option.some.injEq] at h
      subst h
      obtain ⟨n, rfl, hw⟩ := hs
      refine ⟨[.int n], rfl, rfl, ?_⟩
      intro p hp
      obtain rfl := List.mem_singleton.1 hp
      have h1 : IntKind.i64.min = -9223372036854775808 := rfl
      have h2 : IntKind.i64.max = 9223372036854775807 := rfl
      simp only [Lit.wf, Bool.and_eq_true, decide_eq_true_eq] at hw
      show I64 n
      unfold I64
      omega
    · rename_i hu
      rw [hu] at hs
      simp only [Option.some.injEq] at h
      subst h
      obtain ⟨n, rfl⟩ := hs
      exact ⟨[.bool n], rfl, rfl, by intro p hp; obtain rfl := List.mem_singleton.1 hp; trivial⟩
    · rename_i hu
      rw [hu] at hs
      simp only [Option.some.injEq] at h
      subst h
      obtain ⟨n, rfl, hn⟩ := hs
      exact ⟨[.str n], rfl, rfl, by intro p hp; obtain rfl := List.mem_singleton.1 hp; exact hn⟩
    · rename_i fs hu
      rw [hu] at hs
      split at h
      · cases h
      · obtain ⟨hl, hf⟩ := hs
        obtain ⟨ps, h1, h2, h3⟩ := shp_flatFs (w := w) (D := D) (cs := cs) (fun t ks cs h hc hs => ih D t ks cs h (by omega) hc hs) fs.toList 0 ks h (fun f hf' => by
          obtain ⟨i, hi⟩ := List.mem_iff_getElem?.1 hf'
          exact hf i f (by simpa using hi))
        refine ⟨ps, ?_, h2, h3⟩
        rw [List.drop_zero, List.take_of_length_le (by omega)] at h1
        exact h1
    · cases h

/-! The depth stands apart ('e = d + 1'), that nothing is reckoned out at a closed type. -/
theorem shp_struct {e d : Nat} {t : TypeId} {fs : Array Field} {cs : List Value} (he : e = d + 1) (hu : P.underlying t = some (.struct fs)) (h : Shp P w e t cs) : cs.length = P.cellsOf t ∧ ∀ (i : Nat) (f : Field), fs[i]? = some f → Shp P w d f.type ((cs.drop f.offset).take (P.cellsOf f.type)) := by
  subst he
  unfold Shp at h
  rw [hu] at h
  exact h
theorem shp_slice {e d : Nat} {t u : TypeId} {v : Value} (he : e = d + 1) (hu : P.underlying t = some (.slice u)) (h : Shp P w e t [v]) : ∃ a n c, v = .slice a n c := by
  subst he
  unfold Shp at h
  rw [hu] at h
  rcases h with h1 | ⟨a, n, c, h1, _⟩
  · simp only [List.cons.injEq, and_true] at h1; exact ⟨_, _, _, h1⟩
  · simp only [List.cons.injEq, and_true] at h1; exact ⟨_, _, _, h1⟩
theorem shp_int {e d : Nat} {t : TypeId} {cs : List Value} (he : e = d + 1) (hu : P.underlying t = some (.int .i64)) (h : Shp P w e t cs) : ∃ n, cs = [.int .i64 n] ∧ I64 n := by
  subst he
  exact dec_int hu cs h
theorem shp_slc {α : Type} {e d : Nat} {t u : TypeId} {sz : Nat} {enc : α → List Value} {G : α → Prop} {a : Option Addr} {n c : Nat} (he : e = d + 1) (hu : P.underlying t = some (.slice u)) (hc : P.cellsOf u = sz) (hsz : 0 < sz) (hd : Dec P w d u enc G) (h : Shp P w e t [.slice a n c]) : ∃ xs, Slc w sz enc G a n xs ∧ n ≤ c := by
  subst he
  exact slc_of hu hc hsz hd h
theorem len2 {α : Type} {l : List α} (h : l.length = 2) : ∃ x y, l = [x, y] := by
  match l, h with
  | [x, y], _ => exact ⟨x, y, rfl⟩
theorem kinds_cons {l : List Pr} {k : PK} {ks : List PK} (h : l.map Pr.k = k :: ks) : ∃ p r, l = p :: r ∧ p.k = k ∧ r.map Pr.k = ks := by
  cases l with
  | nil => cases h
  | cons p r =>
    simp only [List.map_cons, List.cons.injEq] at h
    exact ⟨p, r, rfl, h.1, h.2⟩
theorem kinds_nil {l : List Pr} (h : l.map Pr.k = []) : l = [] := by simpa using h
theorem k_int {p : Pr} (h : p.k = .int) : ∃ n, p = .int n := by cases p <;> simp [Pr.k] at h; exact ⟨_, rfl⟩
theorem k_bool {p : Pr} (h : p.k = .bool) : ∃ n, p = .bool n := by cases p <;> simp [Pr.k] at h; exact ⟨_, rfl⟩
theorem k_str {p : Pr} (h : p.k = .str) : ∃ n, p = .str n := by cases p <;> simp [Pr.k] at h; exact ⟨_, rfl⟩
theorem kinds_ints : ∀ (n : Nat) {l : List Pr} {ks : List PK}, l.map Pr.k = List.replicate n .int ++ ks → ∃ (ns : List Int) (r : List Pr), l = ns.map .int ++ r ∧ ns.length = n ∧ r.map Pr.k = ks
  | 0, l, ks, h => ⟨[], l, rfl, rfl, by simpa using h⟩
  | n + 1, l, ks, h => by
    rw [List.replicate_succ, List.cons_append] at h
    obtain ⟨p, r, rfl, hp, hr⟩ := kinds_cons h
    obtain ⟨i, rfl⟩ := k_int hp
    obtain ⟨ns, r', rfl, h2, h3⟩ := kinds_ints n hr
    exact ⟨i :: ns, r', rfl, by simp [h2], h3⟩
theorem arg_flat {W : World} {t : TypeId} {fs : Array Field} {ks : List PK} {v : Value} (hu : P.underlying t = some (.struct fs)) (hk : flatK P 10 t = some ks) (hc : P.cellsOf t = ks.length) (h : ArgOk P W t v) : ∃ ps : List Pr, v = .agg (ps.map Pr.v).toArray ∧ ps.map Pr.k = ks ∧ ∀ p ∈ ps, p.ok := by
  obtain ⟨⟨base, h1⟩, h2⟩ := h
  obtain ⟨cs, rfl, _⟩ := Go.WideShapes.okWide_struct hu h1
  obtain ⟨d, hd⟩ : ∃ d, 10 ≤ d := ⟨10, Nat.le_refl _⟩
  obtain ⟨ps, h3, h4, h5⟩ := shp_flat 10 d t ks cs.toList hk hd hc (h2 d)
  refine ⟨ps, ?_, h4, h5⟩
  rw [← h3]
end
end Go.Proofs.YtoaghhcjlfiflaaGreatDoor.Ev

/-
  What the laws on mirrors ask first; arguments that are cells.
-/
namespace Go.Proofs.YtoaghhcjlfiflaaGreatDoor
open Go Ev

def CellS.Ok (c : CellS) : Prop := ∀ p ∈ c.pr, p.ok
theorem dec_cell {w : World} {d : Nat} (hd : 10 ≤ d) : Dec Tryz.prog w d 59 encCell CellS.Ok := by
  intro cs h
  have h1 : flatK Tryz.prog 10 59 = some (List.replicate 10 .int ++ []) := by kernel_rfl
  have h2 : Tryz.prog.cellsOf 59 = (List.replicate 10 PK.int ++ []).length := (show Tryz.prog.cellsOf 59 = 10 by kernel_rfl).trans (by simp)
  obtain ⟨ps, rfl, hk, hok⟩ := shp_flat 10 d _ _ cs h1 hd h2 h
  obtain ⟨ns, r, rfl, hn, hr⟩ := kinds_ints 10 hk
  obtain rfl := kinds_nil hr
  match ns, hn with
  | [x0, x1, x2, x3, x4, x5, x6, x7, x8, x9], _ => exact ⟨⟨x0, x1, ⟨x2, x3, x4, x5, x6, x7, x8, x9⟩⟩, rfl, fun p hp => hok p (by simpa [CellS.pr] using hp)⟩

def c5 : CellS := ⟨5, 1, ⟨1, 0, 0, 0, 0, 0, 0, 0⟩⟩
theorem told5 : ∃ m, (MirS.mk 0 emptyCells).tell 3 [c5] = (0, m) ∧ m.life = 3 ∧ m.cells.length = 32 ∧ (flowsOf m.cells).length = 1 := ⟨((MirS.mk 0 emptyCells).tell 3 [c5]).2, by kernel_rfl, by kernel_rfl, by kernel_rfl, by kernel_rfl⟩

theorem same_ok {w : World} {G : CellS → Prop} {a b : Option Addr} {n m c d : Nat} {xs ys : List CellS} (hx : Slc w 10 encCell G a n xs) (hy : Slc w 10 encCell G b m ys) :
    CallC Tryz.prog 26 #[.slice a n c, .slice b m d] w fun v w' => v = .bool (decide (xs = ys)) ∧ Ext No w w' := by
  refine fn_intro tabOk Tryz.func26 (by kernel_rfl) rfl Tryz.ntmps26 (Nat.le_of_ble_eq_true rfl) ?_
  (conv => whnf)
  refine (equal_ok hx hy).mono ?_
  rintro v w' ⟨rfl, h⟩
  repeat' ((conv => whnf); first | refine RetC.mk ?_ | refine NzC.mk (by decide) ?_ | refine RngC.mk (by omega) (by omega) ?_ | refine IdxC.mk (by omega) (by omega) ?_ | refine brD (fun _ => ?_) (fun _ => ?_) | refine brND (fun _ => ?_) (fun _ => ?_) | refine brN (fun _ => ?_) (fun _ => ?_) | refine brI (fun _ => ?_) (fun _ => ?_))
  exact ⟨rfl, h⟩
end Go.Proofs.YtoaghhcjlfiflaaGreatDoor
