/-
  Texts of this claim, joined: Tab, Err, Cells, Mirror, EvL, Mirrored, RefMirror.
-/
import Derived.Test.YtogjajjdaoihdaaGreatDoorScriptReadsB
import Derived.Test.YtogjajjdaoihdaaGreatDoorProg
import Derived.LaidSub
import Derived.Stop.LaidTwo

namespace Go.Proofs.YtogjajjdaoihdaaGreatDoor
open Go Ev
def tab : Tab := [
 (1, ⟨1, .other, [.nilFunc]⟩),
 (2, ⟨1, .int, [.int .i64 0]⟩),
 (3, ⟨1, .int, [.int .i64 0]⟩),
 (4, ⟨1, .bool, [.bool false]⟩),
 (5, ⟨1, .other, [.int .u8 0]⟩),
 (9, ⟨1, .str, [.string ByteArray.empty]⟩),
 (12, ⟨1, .other, [.int .u64 0]⟩),
 (13, ⟨2, .struct [(0, 1, false), (1, 1, false)], [.string ByteArray.empty, .int .u64 0]⟩),
 (20, ⟨1, .iface, [.nilIface]⟩),
 (21, ⟨1, .other, [.int .i32 0]⟩),
 (22, ⟨1, .slice 9 1 false, [.slice none 0 0]⟩),
 (23, ⟨1, .other, [.nilFunc]⟩),
 (24, ⟨1, .iface, [.nilIface]⟩),
 (25, ⟨1, .iface, [.nilIface]⟩),
 (27, ⟨1, .other, [.nilFunc]⟩),
 (28, ⟨1, .slice 98 5 true, [.slice none 0 0]⟩),
 (29, ⟨2, .struct [(0, 1, false), (1, 1, false)], [.int .i64 0, .int .i64 0]⟩),
 (30, ⟨2, .struct [(0, 1, false), (1, 1, false)], [.int .i64 0, .int .i64 0]⟩),
 (32, ⟨1, .other, [.nilFunc]⟩),
 (33, ⟨1, .other, [.nilFunc]⟩),
 (34, ⟨1, .other, [.nilFunc]⟩),
 (36, ⟨1, .other, [.nilFunc]⟩),
 (37, ⟨1, .other, [.nilFunc]⟩),
 (38, ⟨2, .struct [(0, 1, false), (1, 1, false)], [.int .i64 0, .int .i64 0]⟩),
 (39, ⟨2, .struct [(0, 1, false), (1, 1, false)], [.int .i64 0, .int .i64 0]⟩),
 (40, ⟨6, .struct [(0, 1, false), (1, 2, true), (3, 2, true), (5, 1, false)], [.int .i64 0, .int .i64 0, .int .i64 0, .int .i64 0, .int .i64 0, .int .i64 0]⟩),
 (41, ⟨6, .struct [(0, 1, false), (1, 2, true), (3, 2, true), (5, 1, false)], [.int .i64 0, .int .i64 0, .int .i64 0, .int .i64 0, .int .i64 0, .int .i64 0]⟩),
 (43, ⟨1, .other, [.nilFunc]⟩),
 (44, ⟨1, .other, [.nilFunc]⟩),
 (45, ⟨1, .slice 49 8 true, [.slice none 0 0]⟩),
 (46, ⟨1, .other, [.nilFunc]⟩),
 (47, ⟨1, .slice 3 1 false, [.slice none 0 0]⟩),
 (48, ⟨8, .struct [(0, 1, false), (1, 1, false), (2, 6, true)], [.string ByteArray.empty, .slice none 0 0, .int .i64 0, .int .i64 0, .int .i64 0, .int .i64 0, .int .i64 0, .int .i64 0]⟩),
 (49, ⟨8, .struct [(0, 1, false), (1, 1, false), (2, 6, true)], [.string ByteArray.empty, .slice none 0 0, .int .i64 0, .int .i64 0, .int .i64 0, .int .i64 0, .int .i64 0, .int .i64 0]⟩),
 (50, ⟨1, .other, [.nilFunc]⟩),
 (51, ⟨1, .other, [.nilFunc]⟩),
 (52, ⟨1, .other, [.nilFunc]⟩),
 (53, ⟨1, .other, [.nilFunc]⟩),
 (54, ⟨1, .ptr, [.pointer none]⟩),
 (55, ⟨1, .other, [.nilFunc]⟩),
 (56, ⟨1, .other, [.nilFunc]⟩),
 (57, ⟨1, .other, [.nilFunc]⟩),
 (58, ⟨1, .slice 28 1 false, [.slice none 0 0]⟩),
 (60, ⟨1, .other, [.nilFunc]⟩),
 (61, ⟨1, .other, [.nilFunc]⟩),
 (63, ⟨1, .other, [.nilFunc]⟩),
 (64, ⟨1, .other, [.nilFunc]⟩),
 (65, ⟨1, .other, [.nilFunc]⟩),
 (66, ⟨1, .slice 47 1 false, [.slice none 0 0]⟩),
 (67, ⟨1, .slice 75 2 true, [.slice none 0 0]⟩),
 (69, ⟨1, .other, [.nilFunc]⟩),
 (70, ⟨1, .other, [.nilFunc]⟩),
 (71, ⟨1, .other, [.nilFunc]⟩),
 (72, ⟨1, .other, [.nilFunc]⟩),
 (73, ⟨1, .slice 157 2 true, [.slice none 0 0]⟩),
 (74, ⟨2, .struct [(0, 1, false), (1, 1, false)], [.slice none 0 0, .slice none 0 0]⟩),
 (75, ⟨2, .struct [(0, 1, false), (1, 1, false)], [.slice none 0 0, .slice none 0 0]⟩),
 (76, ⟨1, .other, [.nilFunc]⟩),
 (77, ⟨1, .slice 156 2 true, [.slice none 0 0]⟩),
 (78, ⟨1, .other, [.nilFunc]⟩),
 (79, ⟨1, .slice 111 1 false, [.slice none 0 0]⟩),
 (80, ⟨1, .slice 109 1 false, [.slice none 0 0]⟩),
 (81, ⟨1, .slice 200 5 true, [.slice none 0 0]⟩),
 (82, ⟨7, .struct [(0, 1, false), (1, 1, false), (2, 1, false), (3, 1, false), (4, 1, false), (5, 1, false), (6, 1, false)], [.slice none 0 0, .slice none 0 0, .slice none 0 0, .slice none 0 0, .int .i64 0, .int .i64 0, .slice none 0 0]⟩),
 (83, ⟨7, .struct [(0, 1, false), (1, 1, false), (2, 1, false), (3, 1, false), (4, 1, false), (5, 1, false), (6, 1, false)], [.slice none 0 0, .slice none 0 0, .slice none 0 0, .slice none 0 0, .int .i64 0, .int .i64 0, .slice none 0 0]⟩),
 (84, ⟨1, .other, [.nilFunc]⟩),
 (85, ⟨1, .ptr, [.pointer none]⟩),
 (87, ⟨1, .other, [.nilFunc]⟩),
 (88, ⟨1, .ptr, [.pointer none]⟩),
 (89, ⟨1, .struct [(0, 1, false)], [.pointer none]⟩),
 (90, ⟨1, .struct [(0, 1, false)], [.pointer none]⟩),
 (92, ⟨1, .other, [.nilFunc]⟩),
 (93, ⟨1, .other, [.nilFunc]⟩),
 (94, ⟨1, .other, [.nilFunc]⟩),
 (95, ⟨1, .other, [.nilFunc]⟩),
 (96, ⟨1, .other, [.nilFunc]⟩),
 (97, ⟨5, .struct [(0, 1, false), (1, 1, false), (2, 1, false), (3, 1, false), (4, 1, false)], [.bool false, .bool false, .int .i64 0, .int .i64 0, .int .i64 0]⟩),
 (98, ⟨5, .struct [(0, 1, false), (1, 1, false), (2, 1, false), (3, 1, false), (4, 1, false)], [.bool false, .bool false, .int .i64 0, .int .i64 0, .int .i64 0]⟩),
 (100, ⟨1, .other, [.nilFunc]⟩),
 (102, ⟨1, .other, [.nilFunc]⟩),
 (103, ⟨1, .other, [.nilFunc]⟩),
 (105, ⟨1, .other, [.nilFunc]⟩),
 (106, ⟨1, .other, [.nilFunc]⟩),
 (107, ⟨1, .other, [.nilFunc]⟩),
 (108, ⟨1, .other, [.nilFunc]⟩),
 (109, ⟨1, .ptr, [.pointer none]⟩),
 (110, ⟨1, .other, [.nilFunc]⟩),
 (111, ⟨1, .ptr, [.pointer none]⟩),
 (113, ⟨1, .other, [.nilFunc]⟩),
 (114, ⟨1, .other, [.nilFunc]⟩),
 (115, ⟨1, .other, [.nilFunc]⟩),
 (116, ⟨1, .other, [.nilFunc]⟩),
 (118, ⟨1, .other, [.nilFunc]⟩),
 (119, ⟨1, .other, [.nilFunc]⟩),
 (120, ⟨4, .struct [(0, 1, false), (1, 1, false), (2, 1, false), (3, 1, false)], [.int .i64 0, .int .i64 0, .int .i64 0, .bool false]⟩),
 (121, ⟨4, .struct [(0, 1, false), (1, 1, false), (2, 1, false), (3, 1, false)], [.int .i64 0, .int .i64 0, .int .i64 0, .bool false]⟩),
 (122, ⟨1, .ptr, [.pointer none]⟩),
 (123, ⟨1, .ptr, [.pointer none]⟩),
 (124, ⟨1, .ptr, [.pointer none]⟩),
 (125, ⟨1, .ptr, [.pointer none]⟩),
 (126, ⟨1, .ptr, [.pointer none]⟩),
 (127, ⟨8, .struct [(0, 1, false), (1, 1, false), (2, 1, false), (3, 1, false), (4, 1, false), (5, 1, false), (6, 1, false), (7, 1, false)], [.int .i64 0, .int .i64 0, .pointer none, .pointer none, .pointer none, .pointer none, .pointer none, .slice none 0 0]⟩),
 (128, ⟨8, .struct [(0, 1, false), (1, 1, false), (2, 1, false), (3, 1, false), (4, 1, false), (5, 1, false), (6, 1, false), (7, 1, false)], [.int .i64 0, .int .i64 0, .pointer none, .pointer none, .pointer none, .pointer none, .pointer none, .slice none 0 0]⟩),
 (129, ⟨1, .slice 207 8 true, [.slice none 0 0]⟩),
 (130, ⟨1, .other, [.nilFunc]⟩),
 (131, ⟨1, .slice 209 10 true, [.slice none 0 0]⟩),
 (132, ⟨2, .struct [(0, 1, false), (1, 1, false)], [.int .i64 0, .slice none 0 0]⟩),
 (133, ⟨2, .struct [(0, 1, false), (1, 1, false)], [.int .i64 0, .slice none 0 0]⟩),
 (134, ⟨2, .struct [(0, 1, false), (1, 1, false)], [.int .i64 0, .slice none 0 0]⟩),
 (135, ⟨2, .struct [(0, 1, false), (1, 1, false)], [.int .i64 0, .slice none 0 0]⟩),
 (136, ⟨5, .struct [(0, 1, false), (1, 1, false), (2, 1, false), (3, 1, false), (4, 1, false)], [.pointer none, .int .i64 0, .int .i64 0, .int .i64 0, .bool false]⟩),
 (137, ⟨5, .struct [(0, 1, false), (1, 1, false), (2, 1, false), (3, 1, false), (4, 1, false)], [.pointer none, .int .i64 0, .int .i64 0, .int .i64 0, .bool false]⟩),
 (138, ⟨1, .other, [.nilFunc]⟩),
 (139, ⟨1, .slice 25 1 false, [.slice none 0 0]⟩),
 (141, ⟨1, .other, [.nilFunc]⟩),
 (142, ⟨1, .other, [.nilFunc]⟩),
 (143, ⟨1, .ptr, [.pointer none]⟩),
 (144, ⟨1, .other, [.nilFunc]⟩),
 (145, ⟨1, .ptr, [.pointer none]⟩),
 (146, ⟨2, .struct [(0, 1, false), (1, 1, false)], [.int .i64 0, .nilIface]⟩),
 (147, ⟨2, .struct [(0, 1, false), (1, 1, false)], [.int .i64 0, .nilIface]⟩),
 (148, ⟨1, .other, [.nilFunc]⟩),
 (149, ⟨1, .other, [.nilFunc]⟩),
 (151, ⟨1, .other, [.nilFunc]⟩),
 (152, ⟨1, .other, [.nilFunc]⟩),
 (153, ⟨1, .other, [.nilFunc]⟩),
 (154, ⟨1, .other, [.nilFunc]⟩),
 (155, ⟨2, .struct [(0, 1, false), (1, 1, false)], [.int .i64 0, .int .i64 0]⟩),
 (156, ⟨2, .struct [(0, 1, false), (1, 1, false)], [.int .i64 0, .int .i64 0]⟩),
 (157, ⟨2, .struct [(0, 1, false), (1, 1, false)], [.int .i64 0, .int .i64 0]⟩),
 (158, ⟨1, .ptr, [.pointer none]⟩),
 (159, ⟨2, .arr 2 158 1 false, [.pointer none, .pointer none]⟩),
 (160, ⟨1, .slice 350 5 true, [.slice none 0 0]⟩),
 (161, ⟨7, .struct [(0, 2, true), (2, 1, false), (3, 1, false), (4, 1, false), (5, 1, false), (6, 1, false)], [.pointer none, .pointer none, .slice none 0 0, .slice none 0 0, .int .i64 0, .int .i64 0, .slice none 0 0]⟩),
 (162, ⟨7, .struct [(0, 2, true), (2, 1, false), (3, 1, false), (4, 1, false), (5, 1, false), (6, 1, false)], [.pointer none, .pointer none, .slice none 0 0, .slice none 0 0, .int .i64 0, .int .i64 0, .slice none 0 0]⟩),
 (163, ⟨1, .ptr, [.pointer none]⟩),
 (164, ⟨1, .other, [.nilFunc]⟩),
 (165, ⟨1, .ptr, [.pointer none]⟩),
 (167, ⟨1, .other, [.nilFunc]⟩),
 (168, ⟨2, .struct [(0, 1, false), (1, 1, false)], [.pointer none, .pointer none]⟩),
 (169, ⟨2, .struct [(0, 1, false), (1, 1, false)], [.pointer none, .pointer none]⟩),
 (171, ⟨1, .other, [.nilFunc]⟩),
 (172, ⟨1, .other, [.nilFunc]⟩),
 (173, ⟨1, .other, [.nilFunc]⟩),
 (174, ⟨1, .other, [.nilFunc]⟩),
 (175, ⟨2, .struct [(0, 1, false), (1, 1, false)], [.string ByteArray.empty, .nilFunc]⟩),
 (176, ⟨2, .struct [(0, 1, false), (1, 1, false)], [.string ByteArray.empty, .nilFunc]⟩),
 (178, ⟨1, .other, [.map none]⟩),
 (179, ⟨1, .other, [.nilFunc]⟩),
 (181, ⟨1, .other, [.nilFunc]⟩),
 (182, ⟨1, .other, [.nilFunc]⟩),
 (183, ⟨1, .other, [.nilFunc]⟩),
 (184, ⟨1, .other, [.nilFunc]⟩),
 (186, ⟨1, .other, [.nilFunc]⟩),
 (187, ⟨1, .other, [.nilFunc]⟩),
 (188, ⟨4, .arr 4 9 1 false, [.string ByteArray.empty, .string ByteArray.empty, .string ByteArray.empty, .string ByteArray.empty]⟩),
 (189, ⟨1, .other, [.nilFunc]⟩),
 (190, ⟨1, .other, [.nilFunc]⟩),
 (191, ⟨1, .other, [.nilFunc]⟩),
 (192, ⟨1, .slice 5 1 false, [.slice none 0 0]⟩),
 (193, ⟨4, .struct [(0, 1, false), (1, 1, false), (2, 1, false), (3, 1, false)], [.string ByteArray.empty, .bool false, .int .i64 0, .bool false]⟩),
 (194, ⟨4, .struct [(0, 1, false), (1, 1, false), (2, 1, false), (3, 1, false)], [.string ByteArray.empty, .bool false, .int .i64 0, .bool false]⟩),
 (195, ⟨1, .other, [.nilFunc]⟩),
 (196, ⟨1, .other, [.nilFunc]⟩),
 (197, ⟨1, .other, [.nilFunc]⟩),
 (198, ⟨1, .other, [.nilFunc]⟩),
 (199, ⟨5, .struct [(0, 1, false), (1, 1, false), (2, 1, false), (3, 1, false), (4, 1, false)], [.int .i64 0, .int .i64 0, .int .i64 0, .bool false, .slice none 0 0]⟩),
 (200, ⟨5, .struct [(0, 1, false), (1, 1, false), (2, 1, false), (3, 1, false), (4, 1, false)], [.int .i64 0, .int .i64 0, .int .i64 0, .bool false, .slice none 0 0]⟩),
 (202, ⟨1, .other, [.nilFunc]⟩),
 (203, ⟨1, .other, [.nilFunc]⟩),
 (204, ⟨1, .other, [.nilFunc]⟩),
 (205, ⟨1, .other, [.nilFunc]⟩),
 (206, ⟨8, .struct [(0, 1, false), (1, 2, true), (3, 2, true), (5, 1, false), (6, 1, false), (7, 1, false)], [.int .i64 0, .int .i64 0, .int .i64 0, .int .i64 0, .int .i64 0, .int .i64 0, .int .i64 0, .int .i64 0]⟩),
 (207, ⟨8, .struct [(0, 1, false), (1, 2, true), (3, 2, true), (5, 1, false), (6, 1, false), (7, 1, false)], [.int .i64 0, .int .i64 0, .int .i64 0, .int .i64 0, .int .i64 0, .int .i64 0, .int .i64 0, .int .i64 0]⟩),
 (208, ⟨10, .struct [(0, 1, false), (1, 1, false), (2, 8, true)], [.int .i64 0, .int .i64 0, .int .i64 0, .int .i64 0, .int .i64 0, .int .i64 0, .int .i64 0, .int .i64 0, .int .i64 0, .int .i64 0]⟩),
 (209, ⟨10, .struct [(0, 1, false), (1, 1, false), (2, 8, true)], [.int .i64 0, .int .i64 0, .int .i64 0, .int .i64 0, .int .i64 0, .int .i64 0, .int .i64 0, .int .i64 0, .int .i64 0, .int .i64 0]⟩),
 (216, ⟨1, .other, [.int .u64 0]⟩),
 (219, ⟨1, .other, [.int .u32 0]⟩),
 (222, ⟨1, .other, [.nilFunc]⟩),
 (223, ⟨3, .struct [(0, 1, false), (1, 1, false), (2, 1, false)], [.int .i64 0, .slice none 0 0, .nilIface]⟩),
 (224, ⟨3, .struct [(0, 1, false), (1, 1, false), (2, 1, false)], [.int .i64 0, .slice none 0 0, .nilIface]⟩),
 (228, ⟨3, .struct [(0, 1, false), (1, 1, false), (2, 1, false)], [.pointer none, .pointer none, .int .u64 0]⟩),
 (231, ⟨1, .iface, [.nilIface]⟩),
 (233, ⟨1, .other, [.int .u8 0]⟩),
 (237, ⟨1, .other, [.nilFunc]⟩),
 (238, ⟨3, .arr 3 9 1 false, [.string ByteArray.empty, .string ByteArray.empty, .string ByteArray.empty]⟩),
 (240, ⟨1, .other, [.nilFunc]⟩),
 (241, ⟨1, .other, [.nilFunc]⟩),
 (242, ⟨1, .other, [.nilFunc]⟩),
 (243, ⟨1, .other, [.nilFunc]⟩),
 (246, ⟨4, .struct [(0, 1, false), (1, 2, true), (3, 1, false)], [.int .i64 0, .slice none 0 0, .slice none 0 0, .nilIface]⟩),
 (247, ⟨4, .struct [(0, 1, false), (1, 2, true), (3, 1, false)], [.int .i64 0, .slice none 0 0, .slice none 0 0, .nilIface]⟩),
 (248, ⟨1, .other, [.nilFunc]⟩),
 (249, ⟨1, .other, [.nilFunc]⟩),
 (250, ⟨1, .other, [.nilFunc]⟩),
 (251, ⟨64, .arr 64 5 1 false, []⟩),
 (252, ⟨66, .struct [(0, 64, true), (64, 1, false), (65, 1, false)], []⟩),
 (253, ⟨66, .struct [(0, 64, true), (64, 1, false), (65, 1, false)], []⟩),
 (254, ⟨1, .ptr, [.pointer none]⟩),
 (256, ⟨1, .other, [.nilFunc]⟩),
 (257, ⟨1, .ptr, [.pointer none]⟩),
 (259, ⟨1, .other, [.nilFunc]⟩),
 (260, ⟨1, .ptr, [.pointer none]⟩),
 (262, ⟨1, .other, [.nilFunc]⟩),
 (263, ⟨1, .ptr, [.pointer none]⟩),
 (264, ⟨1, .other, [.nilFunc]⟩),
 (265, ⟨1, .ptr, [.pointer none]⟩),
 (266, ⟨1, .other, [.nilFunc]⟩),
 (267, ⟨8, .struct [(0, 1, false), (1, 1, false), (2, 1, false), (3, 1, false), (4, 1, false), (5, 1, false), (6, 1, false), (7, 1, false)], [.pointer none, .int .i64 0, .int .i64 0, .pointer none, .pointer none, .pointer none, .pointer none, .slice none 0 0]⟩),
 (268, ⟨8, .struct [(0, 1, false), (1, 1, false), (2, 1, false), (3, 1, false), (4, 1, false), (5, 1, false), (6, 1, false), (7, 1, false)], [.pointer none, .int .i64 0, .int .i64 0, .pointer none, .pointer none, .pointer none, .pointer none, .slice none 0 0]⟩),
 (270, ⟨1, .other, [.nilFunc]⟩),
 (271, ⟨1, .other, [.nilFunc]⟩),
 (272, ⟨1, .other, [.nilFunc]⟩),
 (273, ⟨1, .other, [.nilFunc]⟩),
 (274, ⟨1, .other, [.nilFunc]⟩),
 (275, ⟨1, .other, [.nilFunc]⟩),
 (276, ⟨1, .other, [.nilFunc]⟩),
 (277, ⟨1, .other, [.nilFunc]⟩),
 (278, ⟨1, .other, [.nilFunc]⟩),
 (279, ⟨1, .other, [.nilFunc]⟩),
 (280, ⟨1, .other, [.nilFunc]⟩),
 (282, ⟨1, .other, [.nilFunc]⟩),
 (283, ⟨1, .other, [.nilFunc]⟩),
 (284, ⟨1, .other, [.nilFunc]⟩),
 (285, ⟨1, .other, [.nilFunc]⟩),
 (286, ⟨1, .ptr, [.pointer none]⟩),
 (287, ⟨2, .struct [(0, 1, false), (1, 1, false)], [.pointer none, .slice none 0 0]⟩),
 (288, ⟨2, .struct [(0, 1, false), (1, 1, false)], [.pointer none, .slice none 0 0]⟩),
 (289, ⟨1, .other, [.nilFunc]⟩),
 (290, ⟨1, .other, [.nilFunc]⟩),
 (291, ⟨1, .other, [.nilFunc]⟩),
 (292, ⟨1, .other, [.nilFunc]⟩),
 (293, ⟨3, .struct [(0, 1, false), (1, 1, false), (2, 1, false)], [.pointer none, .slice none 0 0, .int .i64 0]⟩),
 (294, ⟨3, .struct [(0, 1, false), (1, 1, false), (2, 1, false)], [.pointer none, .slice none 0 0, .int .i64 0]⟩),
 (296, ⟨1, .other, [.nilFunc]⟩),
 (297, ⟨1, .other, [.nilFunc]⟩),
 (298, ⟨1, .other, [.nilFunc]⟩),
 (299, ⟨1, .other, [.nilFunc]⟩),
 (300, ⟨1, .other, [.nilFunc]⟩),
 (301, ⟨1, .other, [.nilFunc]⟩),
 (302, ⟨1, .other, [.nilFunc]⟩),
 (303, ⟨1, .other, [.nilFunc]⟩),
 (304, ⟨1, .other, [.nilFunc]⟩),
 (305, ⟨1, .ptr, [.pointer none]⟩),
 (306, ⟨1, .other, [.nilFunc]⟩),
 (307, ⟨1, .other, [.int .u64 0]⟩),
 (308, ⟨1, .other, [.nilFunc]⟩),
 (309, ⟨1, .other, [.nilFunc]⟩),
 (310, ⟨1, .other, [.nilFunc]⟩),
 (311, ⟨1, .other, [.nilFunc]⟩),
 (312, ⟨1, .ptr, [.pointer none]⟩),
 (313, ⟨1, .other, [.nilFunc]⟩),
 (319, ⟨1, .iface, [.nilIface]⟩),
 (321, ⟨1, .other, [.nilFunc]⟩),
 (322, ⟨1, .iface, [.nilIface]⟩),
 (323, ⟨1, .other, [.nilFunc]⟩),
 (324, ⟨1, .iface, [.nilIface]⟩),
 (325, ⟨1, .other, [.nilFunc]⟩),
 (326, ⟨1, .other, [.nilFunc]⟩),
 (327, ⟨1, .other, [.nilFunc]⟩),
 (328, ⟨320, .arr 32 209 10 true, []⟩),
 (329, ⟨321, .struct [(0, 1, false), (1, 320, true)], []⟩),
 (330, ⟨321, .struct [(0, 1, false), (1, 320, true)], []⟩),
 (331, ⟨5, .struct [(0, 1, false), (1, 1, false), (2, 1, false), (3, 1, false), (4, 1, false)], [.pointer none, .int .i64 0, .int .i64 0, .int .i64 0, .bool false]⟩),
 (332, ⟨5, .struct [(0, 1, false), (1, 1, false), (2, 1, false), (3, 1, false), (4, 1, false)], [.pointer none, .int .i64 0, .int .i64 0, .int .i64 0, .bool false]⟩),
 (333, ⟨1, .other, [.nilFunc]⟩),
 (334, ⟨4, .struct [(0, 1, false), (1, 1, false), (2, 1, false), (3, 1, false)], [.int .i64 0, .int .i64 0, .int .i64 0, .bool false]⟩),
 (335, ⟨4, .struct [(0, 1, false), (1, 1, false), (2, 1, false), (3, 1, false)], [.int .i64 0, .int .i64 0, .int .i64 0, .bool false]⟩),
 (336, ⟨32, .arr 32 3 1 false, []⟩),
 (337, ⟨34, .struct [(0, 1, false), (1, 32, true), (33, 1, false)], []⟩),
 (338, ⟨34, .struct [(0, 1, false), (1, 32, true), (33, 1, false)], []⟩),
 (339, ⟨321, .struct [(0, 1, false), (1, 320, true)], []⟩),
 (340, ⟨321, .struct [(0, 1, false), (1, 320, true)], []⟩),
 (341, ⟨1, .other, [.nilFunc]⟩),
 (342, ⟨1, .other, [.nilFunc]⟩),
 (344, ⟨1, .other, [.nilFunc]⟩),
 (345, ⟨1, .other, [.nilFunc]⟩),
 (347, ⟨1, .other, [.nilFunc]⟩),
 (348, ⟨1, .other, [.nilFunc]⟩),
 (349, ⟨1, .other, [.nilFunc]⟩),
 (350, ⟨5, .struct [(0, 1, false), (1, 1, false), (2, 1, false), (3, 1, false), (4, 1, false)], [.int .i64 0, .int .i64 0, .int .i64 0, .bool false, .slice none 0 0]⟩),
 (351, ⟨1, .other, [.nilFunc]⟩),
 (352, ⟨1, .other, [.nilFunc]⟩),
 (353, ⟨1, .other, [.nilFunc]⟩),
 (354, ⟨1, .other, [.nilFunc]⟩),
 (355, ⟨1, .iface, [.nilIface]⟩),
 (357, ⟨1, .other, [.nilFunc]⟩),
 (359, ⟨1, .other, [.nilFunc]⟩),
 (360, ⟨1, .other, [.nilFunc]⟩),
 (361, ⟨1, .int, [.int .i64 0]⟩),
 (363, ⟨1, .other, [.nilFunc]⟩),
 (364, ⟨1, .ptr, [.pointer none]⟩),
 (365, ⟨1, .other, [.nilFunc]⟩),
 (366, ⟨1, .other, [.nilFunc]⟩),
 (367, ⟨1, .ptr, [.pointer none]⟩),
 (368, ⟨1, .other, [.nilFunc]⟩),
 (369, ⟨1, .other, [.nilFunc]⟩),
 (370, ⟨1, .other, [.nilFunc]⟩),
 (371, ⟨1, .other, [.nilFunc]⟩),
 (372, ⟨1, .other, [.nilFunc]⟩),
 (373, ⟨1, .int, [.int .i64 0]⟩),
 (374, ⟨1, .other, [.nilFunc]⟩),
 (375, ⟨1, .other, [.nilFunc]⟩),
 (376, ⟨1, .other, [.nilFunc]⟩),
 (377, ⟨1, .other, [.nilFunc]⟩),
 (378, ⟨1, .other, [.nilFunc]⟩),
 (379, ⟨1, .ptr, [.pointer none]⟩),
 (380, ⟨1, .other, [.nilFunc]⟩),
 (381, ⟨1, .ptr, [.pointer none]⟩),
 (382, ⟨1, .other, [.nilFunc]⟩),
 (384, ⟨1, .other, [.nilFunc]⟩),
 (385, ⟨1, .other, [.nilFunc]⟩),
 (386, ⟨4, .arr 4 3 1 false, [.int .i64 0, .int .i64 0, .int .i64 0, .int .i64 0]⟩),
 (387, ⟨1, .other, [.nilFunc]⟩),
 (388, ⟨1, .other, [.nilFunc]⟩),
 (389, ⟨1, .other, [.nilFunc]⟩),
 (390, ⟨1, .other, [.nilFunc]⟩),
 (392, ⟨1, .other, [.nilFunc]⟩),
 (393, ⟨1, .other, [.nilFunc]⟩),
 (394, ⟨1, .other, [.nilFunc]⟩),
 (395, ⟨1, .ptr, [.pointer none]⟩),
 (397, ⟨1, .other, [.nilFunc]⟩),
 (398, ⟨1, .other, [.nilFunc]⟩),
 (399, ⟨1, .other, [.nilFunc]⟩),
 (400, ⟨1, .other, [.nilFunc]⟩),
 (401, ⟨1, .other, [.nilFunc]⟩),
 (402, ⟨1, .other, [.nilFunc]⟩),
 (404, ⟨1, .other, [.nilFunc]⟩),
 (405, ⟨1, .other, [.nilFunc]⟩),
 (406, ⟨3, .struct [(0, 1, false), (1, 1, false), (2, 1, false)], [.string ByteArray.empty, .string ByteArray.empty, .nilIface]⟩),
 (407, ⟨3, .struct [(0, 1, false), (1, 1, false), (2, 1, false)], [.string ByteArray.empty, .string ByteArray.empty, .nilIface]⟩),
 (408, ⟨1, .other, [.nilFunc]⟩),
 (409, ⟨1, .other, [.nilFunc]⟩),
 (410, ⟨1, .other, [.nilFunc]⟩),
 (411, ⟨1, .slice 4 1 false, [.slice none 0 0]⟩),
 (412, ⟨1, .other, [.nilFunc]⟩),
 (413, ⟨1, .other, [.nilFunc]⟩),
 (414, ⟨1, .other, [.nilFunc]⟩),
 (415, ⟨1, .other, [.nilFunc]⟩),
 (416, ⟨1, .other, [.nilFunc]⟩),
 (418, ⟨1, .other, [.nilFunc]⟩),
 (419, ⟨1, .other, [.nilFunc]⟩),
 (420, ⟨1, .other, [.nilFunc]⟩),
 (421, ⟨1, .other, [.map none]⟩),
 (422, ⟨1, .other, [.nilFunc]⟩),
 (423, ⟨2, .struct [(0, 1, false), (1, 1, false)], [.int .i64 0, .int .i64 0]⟩),
 (424, ⟨2, .struct [(0, 1, false), (1, 1, false)], [.int .i64 0, .int .i64 0]⟩),
 (425, ⟨1, .other, [.nilFunc]⟩),
 (426, ⟨1, .other, [.nilFunc]⟩),
 (427, ⟨24, .arr 24 5 1 false, []⟩),
 (428, ⟨1, .other, [.nilFunc]⟩),
 (429, ⟨1, .other, [.nilFunc]⟩),
 (431, ⟨1, .other, [.nilFunc]⟩),
 (432, ⟨256, .arr 256 5 1 false, []⟩),
 (433, ⟨2, .struct [(0, 1, false), (1, 1, false)], [.int .u8 0, .int .u8 0]⟩),
 (434, ⟨2, .struct [(0, 1, false), (1, 1, false)], [.int .u8 0, .int .u8 0]⟩),
 (435, ⟨32, .arr 16 434 2 true, []⟩),
 (436, ⟨1, .other, [.nilFunc]⟩),
 (437, ⟨1, .other, [.nilFunc]⟩),
 (438, ⟨1, .ptr, [.pointer none]⟩),
 (439, ⟨1, .struct [(0, 1, false)], [.string ByteArray.empty]⟩),
 (440, ⟨1, .struct [(0, 1, false)], [.string ByteArray.empty]⟩),
 (441, ⟨1, .other, [.nilFunc]⟩),
 (442, ⟨1, .other, [.nilFunc]⟩),
 (443, ⟨1, .other, [.map none]⟩),
 (444, ⟨1, .other, [.nilFunc]⟩),
 (445, ⟨1, .other, [.nilFunc]⟩),
 (446, ⟨20, .arr 20 216 1 false, []⟩),
 (447, ⟨65, .arr 65 5 1 false, []⟩),
 (448, ⟨1, .other, [.nilFunc]⟩),
 (449, ⟨1, .other, [.nilFunc]⟩),
 (450, ⟨32, .arr 32 5 1 false, []⟩),
 (458, ⟨1, .other, [.nilFunc]⟩),
 (463, ⟨1, .other, [.nilFunc]⟩),
 (467, ⟨1, .other, [.nilFunc]⟩),
 (468, ⟨1, .other, [.nilFunc]⟩),
 (469, ⟨1, .other, [.nilFunc]⟩),
 (470, ⟨1, .other, [.nilFunc]⟩),
 (471, ⟨1, .other, [.nilFunc]⟩),
 (472, ⟨1, .other, [.int .u16 0]⟩),
 (473, ⟨1, .slice 472 1 false, [.slice none 0 0]⟩),
 (474, ⟨1, .other, [.nilFunc]⟩),
 (475, ⟨1, .slice 219 1 false, [.slice none 0 0]⟩),
 (476, ⟨1, .other, [.nilFunc]⟩),
 (485, ⟨1, .ptr, [.pointer none]⟩)]
theorem tabOk1 : TIok Tryz.prog 1 ⟨1, .other, [.nilFunc]⟩ := ⟨by kernel_rfl, by kernel_rfl, .inr (by kernel_rfl)⟩
theorem tabOk2 : TIok Tryz.prog 2 ⟨1, .int, [.int .i64 0]⟩ := ⟨by kernel_rfl, by kernel_rfl, .inr (by kernel_rfl)⟩
theorem tabOk3 : TIok Tryz.prog 3 ⟨1, .int, [.int .i64 0]⟩ := ⟨by kernel_rfl, by kernel_rfl, .inr (by kernel_rfl)⟩
theorem tabOk4 : TIok Tryz.prog 4 ⟨1, .bool, [.bool false]⟩ := ⟨by kernel_rfl, by kernel_rfl, .inr (by kernel_rfl)⟩
theorem tabOk5 : TIok Tryz.prog 5 ⟨1, .other, [.int .u8 0]⟩ := ⟨by kernel_rfl, by kernel_rfl, .inr (by kernel_rfl)⟩
theorem tabOk9 : TIok Tryz.prog 9 ⟨1, .str, [.string ByteArray.empty]⟩ := ⟨by kernel_rfl, by kernel_rfl, .inr (by kernel_rfl)⟩
theorem tabOk12 : TIok Tryz.prog 12 ⟨1, .other, [.int .u64 0]⟩ := ⟨by kernel_rfl, by kernel_rfl, .inr (by kernel_rfl)⟩
theorem tabOk13 : TIok Tryz.prog 13 ⟨2, .struct [(0, 1, false), (1, 1, false)], [.string ByteArray.empty, .int .u64 0]⟩ := ⟨by kernel_rfl, by kernel_rfl, .inr (by kernel_rfl)⟩
theorem tabOk20 : TIok Tryz.prog 20 ⟨1, .iface, [.nilIface]⟩ := ⟨by kernel_rfl, by kernel_rfl, .inr (by kernel_rfl)⟩
theorem tabOk21 : TIok Tryz.prog 21 ⟨1, .other, [.int .i32 0]⟩ := ⟨by kernel_rfl, by kernel_rfl, .inr (by kernel_rfl)⟩
theorem tabOk22 : TIok Tryz.prog 22 ⟨1, .slice 9 1 false, [.slice none 0 0]⟩ := ⟨by kernel_rfl, by kernel_rfl, .inr (by kernel_rfl)⟩
theorem tabOk23 : TIok Tryz.prog 23 ⟨1, .other, [.nilFunc]⟩ := ⟨by kernel_rfl, by kernel_rfl, .inr (by kernel_rfl)⟩
theorem tabOk24 : TIok Tryz.prog 24 ⟨1, .iface, [.nilIface]⟩ := ⟨by kernel_rfl, by kernel_rfl, .inr (by kernel_rfl)⟩
theorem tabOk25 : TIok Tryz.prog 25 ⟨1, .iface, [.nilIface]⟩ := ⟨by kernel_rfl, by kernel_rfl, .inr (by kernel_rfl)⟩
theorem tabOk27 : TIok Tryz.prog 27 ⟨1, .other, [.nilFunc]⟩ := ⟨by kernel_rfl, by kernel_rfl, .inr (by kernel_rfl)⟩
theorem tabOk28 : TIok Tryz.prog 28 ⟨1, .slice 98 5 true, [.slice none 0 0]⟩ := ⟨by kernel_rfl, by kernel_rfl, .inr (by kernel_rfl)⟩
theorem tabOk29 : TIok Tryz.prog 29 ⟨2, .struct [(0, 1, false), (1, 1, false)], [.int .i64 0, .int .i64 0]⟩ := ⟨by kernel_rfl, by kernel_rfl, .inr (by kernel_rfl)⟩
theorem tabOk30 : TIok Tryz.prog 30 ⟨2, .struct [(0, 1, false), (1, 1, false)], [.int .i64 0, .int .i64 0]⟩ := ⟨by kernel_rfl, by kernel_rfl, .inr (by kernel_rfl)⟩
theorem tabOk32 : TIok Tryz.prog 32 ⟨1, .other, [.nilFunc]⟩ := ⟨by kernel_rfl, by kernel_rfl, .inr (by kernel_rfl)⟩
theorem tabOk33 : TIok Tryz.prog 33 ⟨1, .other, [.nilFunc]⟩ := ⟨by kernel_rfl, by kernel_rfl, .inr (by kernel_rfl)⟩
theorem tabOk34 : TIok Tryz.prog 34 ⟨1, .other, [.nilFunc]⟩ := ⟨by kernel_rfl, by kernel_rfl, .inr (by kernel_rfl)⟩
theorem tabOk36 : TIok Tryz.prog 36 ⟨1, .other, [.nilFunc]⟩ := ⟨by kernel_rfl, by kernel_rfl, .inr (by kernel_rfl)⟩
theorem tabOk37 : TIok Tryz.prog 37 ⟨1, .other, [.nilFunc]⟩ := ⟨by kernel_rfl, by kernel_rfl, .inr (by kernel_rfl)⟩
theorem tabOk38 : TIok Tryz.prog 38 ⟨2, .struct [(0, 1, false), (1, 1, false)], [.int .i64 0, .int .i64 0]⟩ := ⟨by kernel_rfl, by kernel_rfl, .inr (by kernel_rfl)⟩
theorem tabOk39 : TIok Tryz.prog 39 ⟨2, .struct [(0, 1, false), (1, 1, false)], [.int .i64 0, .int .i64 0]⟩ := ⟨by kernel_rfl, by kernel_rfl, .inr (by kernel_rfl)⟩
theorem tabOk40 : TIok Tryz.prog 40 ⟨6, .struct [(0, 1, false), (1, 2, true), (3, 2, true), (5, 1, false)], [.int .i64 0, .int .i64 0, .int .i64 0, .int .i64 0, .int .i64 0, .int .i64 0]⟩ := ⟨by kernel_rfl, by kernel_rfl, .inr (by kernel_rfl)⟩
theorem tabOk41 : TIok Tryz.prog 41 ⟨6, .struct [(0, 1, false), (1, 2, true), (3, 2, true), (5, 1, false)], [.int .i64 0, .int .i64 0, .int .i64 0, .int .i64 0, .int .i64 0, .int .i64 0]⟩ := ⟨by kernel_rfl, by kernel_rfl, .inr (by kernel_rfl)⟩
theorem tabOk43 : TIok Tryz.prog 43 ⟨1, .other, [.nilFunc]⟩ := ⟨by kernel_rfl, by kernel_rfl, .inr (by kernel_rfl)⟩
theorem tabOk44 : TIok Tryz.prog 44 ⟨1, .other, [.nilFunc]⟩ := ⟨by kernel_rfl, by kernel_rfl, .inr (by kernel_rfl)⟩
theorem tabOk45 : TIok Tryz.prog 45 ⟨1, .slice 49 8 true, [.slice none 0 0]⟩ := ⟨by kernel_rfl, by kernel_rfl, .inr (by kernel_rfl)⟩
theorem tabOk46 : TIok Tryz.prog 46 ⟨1, .other, [.nilFunc]⟩ := ⟨by kernel_rfl, by kernel_rfl, .inr (by kernel_rfl)⟩
theorem tabOk47 : TIok Tryz.prog 47 ⟨1, .slice 3 1 false, [.slice none 0 0]⟩ := ⟨by kernel_rfl, by kernel_rfl, .inr (by kernel_rfl)⟩
theorem tabOk48 : TIok Tryz.prog 48 ⟨8, .struct [(0, 1, false), (1, 1, false), (2, 6, true)], [.string ByteArray.empty, .slice none 0 0, .int .i64 0, .int .i64 0, .int .i64 0, .int .i64 0, .int .i64 0, .int .i64 0]⟩ := ⟨by kernel_rfl, by kernel_rfl, .inr (by kernel_rfl)⟩
theorem tabOk49 : TIok Tryz.prog 49 ⟨8, .struct [(0, 1, false), (1, 1, false), (2, 6, true)], [.string ByteArray.empty, .slice none 0 0, .int .i64 0, .int .i64 0, .int .i64 0, .int .i64 0, .int .i64 0, .int .i64 0]⟩ := ⟨by kernel_rfl, by kernel_rfl, .inr (by kernel_rfl)⟩
theorem tabOk50 : TIok Tryz.prog 50 ⟨1, .other, [.nilFunc]⟩ := ⟨by kernel_rfl, by kernel_rfl, .inr (by kernel_rfl)⟩
theorem tabOk51 : TIok Tryz.prog 51 ⟨1, .other, [.nilFunc]⟩ := ⟨by kernel_rfl, by kernel_rfl, .inr (by kernel_rfl)⟩
theorem tabOk52 : TIok Tryz.prog 52 ⟨1, .other, [.nilFunc]⟩ := ⟨by kernel_rfl, by kernel_rfl, .inr (by kernel_rfl)⟩
theorem tabOk53 : TIok Tryz.prog 53 ⟨1, .other, [.nilFunc]⟩ := ⟨by kernel_rfl, by kernel_rfl, .inr (by kernel_rfl)⟩
theorem tabOk54 : TIok Tryz.prog 54 ⟨1, .ptr, [.pointer none]⟩ := ⟨by kernel_rfl, by kernel_rfl, .inr (by kernel_rfl)⟩
theorem tabOk55 : TIok Tryz.prog 55 ⟨1, .other, [.nilFunc]⟩ := ⟨by kernel_rfl, by kernel_rfl, .inr (by kernel_rfl)⟩
theorem tabOk56 : TIok Tryz.prog 56 ⟨1, .other, [.nilFunc]⟩ := ⟨by kernel_rfl, by kernel_rfl, .inr (by kernel_rfl)⟩
theorem tabOk57 : TIok Tryz.prog 57 ⟨1, .other, [.nilFunc]⟩ := ⟨by kernel_rfl, by kernel_rfl, .inr (by kernel_rfl)⟩
theorem tabOk58 : TIok Tryz.prog 58 ⟨1, .slice 28 1 false, [.slice none 0 0]⟩ := ⟨by kernel_rfl, by kernel_rfl, .inr (by kernel_rfl)⟩
theorem tabOk60 : TIok Tryz.prog 60 ⟨1, .other, [.nilFunc]⟩ := ⟨by kernel_rfl, by kernel_rfl, .inr (by kernel_rfl)⟩
theorem tabOk61 : TIok Tryz.prog 61 ⟨1, .other, [.nilFunc]⟩ := ⟨by kernel_rfl, by kernel_rfl, .inr (by kernel_rfl)⟩
theorem tabOk63 : TIok Tryz.prog 63 ⟨1, .other, [.nilFunc]⟩ := ⟨by kernel_rfl, by kernel_rfl, .inr (by kernel_rfl)⟩
theorem tabOk64 : TIok Tryz.prog 64 ⟨1, .other, [.nilFunc]⟩ := ⟨by kernel_rfl, by kernel_rfl, .inr (by kernel_rfl)⟩
theorem tabOk65 : TIok Tryz.prog 65 ⟨1, .other, [.nilFunc]⟩ := ⟨by kernel_rfl, by kernel_rfl, .inr (by kernel_rfl)⟩
theorem tabOk66 : TIok Tryz.prog 66 ⟨1, .slice 47 1 false, [.slice none 0 0]⟩ := ⟨by kernel_rfl, by kernel_rfl, .inr (by kernel_rfl)⟩
theorem tabOk67 : TIok Tryz.prog 67 ⟨1, .slice 75 2 true, [.slice none 0 0]⟩ := ⟨by kernel_rfl, by kernel_rfl, .inr (by kernel_rfl)⟩
theorem tabOk69 : TIok Tryz.prog 69 ⟨1, .other, [.nilFunc]⟩ := ⟨by kernel_rfl, by kernel_rfl, .inr (by kernel_rfl)⟩
theorem tabOk70 : TIok Tryz.prog 70 ⟨1, .other, [.nilFunc]⟩ := ⟨by kernel_rfl, by kernel_rfl, .inr (by kernel_rfl)⟩
theorem tabOk71 : TIok Tryz.prog 71 ⟨1, .other, [.nilFunc]⟩ := ⟨by kernel_rfl, by kernel_rfl, .inr (by kernel_rfl)⟩
theorem tabOk72 : TIok Tryz.prog 72 ⟨1, .other, [.nilFunc]⟩ := ⟨by kernel_rfl, by kernel_rfl, .inr (by kernel_rfl)⟩
theorem tabOk73 : TIok Tryz.prog 73 ⟨1, .slice 157 2 true, [.slice none 0 0]⟩ := ⟨by kernel_rfl, by kernel_rfl, .inr (by kernel_rfl)⟩
theorem tabOk74 : TIok Tryz.prog 74 ⟨2, .struct [(0, 1, false), (1, 1, false)], [.slice none 0 0, .slice none 0 0]⟩ := ⟨by kernel_rfl, by kernel_rfl, .inr (by kernel_rfl)⟩
theorem tabOk75 : TIok Tryz.prog 75 ⟨2, .struct [(0, 1, false), (1, 1, false)], [.slice none 0 0, .slice none 0 0]⟩ := ⟨by kernel_rfl, by kernel_rfl, .inr (by kernel_rfl)⟩
theorem tabOk76 : TIok Tryz.prog 76 ⟨1, .other, [.nilFunc]⟩ := ⟨by kernel_rfl, by kernel_rfl, .inr (by kernel_rfl)⟩
theorem tabOk77 : TIok Tryz.prog 77 ⟨1, .slice 156 2 true, [.slice none 0 0]⟩ := ⟨by kernel_rfl, by kernel_rfl, .inr (by kernel_rfl)⟩
theorem tabOk78 : TIok Tryz.prog 78 ⟨1, .other, [.nilFunc]⟩ := ⟨by kernel_rfl, by kernel_rfl, .inr (by kernel_rfl)⟩
theorem tabOk79 : TIok Tryz.prog 79 ⟨1, .slice 111 1 false, [.slice none 0 0]⟩ := ⟨by kernel_rfl, by kernel_rfl, .inr (by kernel_rfl)⟩
theorem tabOk80 : TIok Tryz.prog 80 ⟨1, .slice 109 1 false, [.slice none 0 0]⟩ := ⟨by kernel_rfl, by kernel_rfl, .inr (by kernel_rfl)⟩
theorem tabOk81 : TIok Tryz.prog 81 ⟨1, .slice 200 5 true, [.slice none 0 0]⟩ := ⟨by kernel_rfl, by kernel_rfl, .inr (by kernel_rfl)⟩
theorem tabOk82 : TIok Tryz.prog 82 ⟨7, .struct [(0, 1, false), (1, 1, false), (2, 1, false), (3, 1, false), (4, 1, false), (5, 1, false), (6, 1, false)], [.slice none 0 0, .slice none 0 0, .slice none 0 0, .slice none 0 0, .int .i64 0, .int .i64 0, .slice none 0 0]⟩ := ⟨by kernel_rfl, by kernel_rfl, .inr (by kernel_rfl)⟩
theorem tabOk83 : TIok Tryz.prog 83 ⟨7, .struct [(0, 1, false), (1, 1, false), (2, 1, false), (3, 1, false), (4, 1, false), (5, 1, false), (6, 1, false)], [.slice none 0 0, .slice none 0 0, .slice none 0 0, .slice none 0 0, .int .i64 0, .int .i64 0, .slice none 0 0]⟩ := ⟨by kernel_rfl, by kernel_rfl, .inr (by kernel_rfl)⟩
theorem tabOk84 : TIok Tryz.prog 84 ⟨1, .other, [.nilFunc]⟩ := ⟨by kernel_rfl, by kernel_rfl, .inr (by kernel_rfl)⟩
theorem tabOk85 : TIok Tryz.prog 85 ⟨1, .ptr, [.pointer none]⟩ := ⟨by kernel_rfl, by kernel_rfl, .inr (by kernel_rfl)⟩
theorem tabOk87 : TIok Tryz.prog 87 ⟨1, .other, [.nilFunc]⟩ := ⟨by kernel_rfl, by kernel_rfl, .inr (by kernel_rfl)⟩
theorem tabOk88 : TIok Tryz.prog 88 ⟨1, .ptr, [.pointer none]⟩ := ⟨by kernel_rfl, by kernel_rfl, .inr (by kernel_rfl)⟩
theorem tabOk89 : TIok Tryz.prog 89 ⟨1, .struct [(0, 1, false)], [.pointer none]⟩ := ⟨by kernel_rfl, by kernel_rfl, .inr (by kernel_rfl)⟩
theorem tabOk90 : TIok Tryz.prog 90 ⟨1, .struct [(0, 1, false)], [.pointer none]⟩ := ⟨by kernel_rfl, by kernel_rfl, .inr (by kernel_rfl)⟩
theorem tabOk92 : TIok Tryz.prog 92 ⟨1, .other, [.nilFunc]⟩ := ⟨by kernel_rfl, by kernel_rfl, .inr (by kernel_rfl)⟩
theorem tabOk93 : TIok Tryz.prog 93 ⟨1, .other, [.nilFunc]⟩ := ⟨by kernel_rfl, by kernel_rfl, .inr (by kernel_rfl)⟩
theorem tabOk94 : TIok Tryz.prog 94 ⟨1, .other, [.nilFunc]⟩ := ⟨by kernel_rfl, by kernel_rfl, .inr (by kernel_rfl)⟩
theorem tabOk95 : TIok Tryz.prog 95 ⟨1, .other, [.nilFunc]⟩ := ⟨by kernel_rfl, by kernel_rfl, .inr (by kernel_rfl)⟩
theorem tabOk96 : TIok Tryz.prog 96 ⟨1, .other, [.nilFunc]⟩ := ⟨by kernel_rfl, by kernel_rfl, .inr (by kernel_rfl)⟩
theorem tabOk97 : TIok Tryz.prog 97 ⟨5, .struct [(0, 1, false), (1, 1, false), (2, 1, false), (3, 1, false), (4, 1, false)], [.bool false, .bool false, .int .i64 0, .int .i64 0, .int .i64 0]⟩ := ⟨by kernel_rfl, by kernel_rfl, .inr (by kernel_rfl)⟩
theorem tabOk98 : TIok Tryz.prog 98 ⟨5, .struct [(0, 1, false), (1, 1, false), (2, 1, false), (3, 1, false), (4, 1, false)], [.bool false, .bool false, .int .i64 0, .int .i64 0, .int .i64 0]⟩ := ⟨by kernel_rfl, by kernel_rfl, .inr (by kernel_rfl)⟩
theorem tabOk100 : TIok Tryz.prog 100 ⟨1, .other, [.nilFunc]⟩ := ⟨by kernel_rfl, by kernel_rfl, .inr (by kernel_rfl)⟩
theorem tabOk102 : TIok Tryz.prog 102 ⟨1, .other, [.nilFunc]⟩ := ⟨by kernel_rfl, by kernel_rfl, .inr (by kernel_rfl)⟩
theorem tabOk103 : TIok Tryz.prog 103 ⟨1, .other, [.nilFunc]⟩ := ⟨by kernel_rfl, by kernel_rfl, .inr (by kernel_rfl)⟩
theorem tabOk105 : TIok Tryz.prog 105 ⟨1, .other, [.nilFunc]⟩ := ⟨by kernel_rfl, by kernel_rfl, .inr (by kernel_rfl)⟩
theorem tabOk106 : TIok Tryz.prog 106 ⟨1, .other, [.nilFunc]⟩ := ⟨by kernel_rfl, by kernel_rfl, .inr (by kernel_rfl)⟩
theorem tabOk107 : TIok Tryz.prog 107 ⟨1, .other, [.nilFunc]⟩ := ⟨by kernel_rfl, by kernel_rfl, .inr (by kernel_rfl)⟩
theorem tabOk108 : TIok Tryz.prog 108 ⟨1, .other, [.nilFunc]⟩ := ⟨by kernel_rfl, by kernel_rfl, .inr (by kernel_rfl)⟩
theorem tabOk109 : TIok Tryz.prog 109 ⟨1, .ptr, [.pointer none]⟩ := ⟨by kernel_rfl, by kernel_rfl, .inr (by kernel_rfl)⟩
theorem tabOk110 : TIok Tryz.prog 110 ⟨1, .other, [.nilFunc]⟩ := ⟨by kernel_rfl, by kernel_rfl, .inr (by kernel_rfl)⟩
theorem tabOk111 : TIok Tryz.prog 111 ⟨1, .ptr, [.pointer none]⟩ := ⟨by kernel_rfl, by kernel_rfl, .inr (by kernel_rfl)⟩
theorem tabOk113 : TIok Tryz.prog 113 ⟨1, .other, [.nilFunc]⟩ := ⟨by kernel_rfl, by kernel_rfl, .inr (by kernel_rfl)⟩
theorem tabOk114 : TIok Tryz.prog 114 ⟨1, .other, [.nilFunc]⟩ := ⟨by kernel_rfl, by kernel_rfl, .inr (by kernel_rfl)⟩
theorem tabOk115 : TIok Tryz.prog 115 ⟨1, .other, [.nilFunc]⟩ := ⟨by kernel_rfl, by kernel_rfl, .inr (by kernel_rfl)⟩
theorem tabOk116 : TIok Tryz.prog 116 ⟨1, .other, [.nilFunc]⟩ := ⟨by kernel_rfl, by kernel_rfl, .inr (by kernel_rfl)⟩
theorem tabOk118 : TIok Tryz.prog 118 ⟨1, .other, [.nilFunc]⟩ := ⟨by kernel_rfl, by kernel_rfl, .inr (by kernel_rfl)⟩
theorem tabOk119 : TIok Tryz.prog 119 ⟨1, .other, [.nilFunc]⟩ := ⟨by kernel_rfl, by kernel_rfl, .inr (by kernel_rfl)⟩
theorem tabOk120 : TIok Tryz.prog 120 ⟨4, .struct [(0, 1, false), (1, 1, false), (2, 1, false), (3, 1, false)], [.int .i64 0, .int .i64 0, .int .i64 0, .bool false]⟩ := ⟨by kernel_rfl, by kernel_rfl, .inr (by kernel_rfl)⟩
theorem tabOk121 : TIok Tryz.prog 121 ⟨4, .struct [(0, 1, false), (1, 1, false), (2, 1, false), (3, 1, false)], [.int .i64 0, .int .i64 0, .int .i64 0, .bool false]⟩ := ⟨by kernel_rfl, by kernel_rfl, .inr (by kernel_rfl)⟩
theorem tabOk122 : TIok Tryz.prog 122 ⟨1, .ptr, [.pointer none]⟩ := ⟨by kernel_rfl, by kernel_rfl, .inr (by kernel_rfl)⟩
theorem tabOk123 : TIok Tryz.prog 123 ⟨1, .ptr, [.pointer none]⟩ := ⟨by kernel_rfl, by kernel_rfl, .inr (by kernel_rfl)⟩
theorem tabOk124 : TIok Tryz.prog 124 ⟨1, .ptr, [.pointer none]⟩ := ⟨by kernel_rfl, by kernel_rfl, .inr (by kernel_rfl)⟩
theorem tabOk125 : TIok Tryz.prog 125 ⟨1, .ptr, [.pointer none]⟩ := ⟨by kernel_rfl, by kernel_rfl, .inr (by kernel_rfl)⟩
theorem tabOk126 : TIok Tryz.prog 126 ⟨1, .ptr, [.pointer none]⟩ := ⟨by kernel_rfl, by kernel_rfl, .inr (by kernel_rfl)⟩
theorem tabOk127 : TIok Tryz.prog 127 ⟨8, .struct [(0, 1, false), (1, 1, false), (2, 1, false), (3, 1, false), (4, 1, false), (5, 1, false), (6, 1, false), (7, 1, false)], [.int .i64 0, .int .i64 0, .pointer none, .pointer none, .pointer none, .pointer none, .pointer none, .slice none 0 0]⟩ := ⟨by kernel_rfl, by kernel_rfl, .inr (by kernel_rfl)⟩
theorem tabOk128 : TIok Tryz.prog 128 ⟨8, .struct [(0, 1, false), (1, 1, false), (2, 1, false), (3, 1, false), (4, 1, false), (5, 1, false), (6, 1, false), (7, 1, false)], [.int .i64 0, .int .i64 0, .pointer none, .pointer none, .pointer none, .pointer none, .pointer none, .slice none 0 0]⟩ := ⟨by kernel_rfl, by kernel_rfl, .inr (by kernel_rfl)⟩
theorem tabOk129 : TIok Tryz.prog 129 ⟨1, .slice 207 8 true, [.slice none 0 0]⟩ := ⟨by kernel_rfl, by kernel_rfl, .inr (by kernel_rfl)⟩
theorem tabOk130 : TIok Tryz.prog 130 ⟨1, .other, [.nilFunc]⟩ := ⟨by kernel_rfl, by kernel_rfl, .inr (by kernel_rfl)⟩
theorem tabOk131 : TIok Tryz.prog 131 ⟨1, .slice 209 10 true, [.slice none 0 0]⟩ := ⟨by kernel_rfl, by kernel_rfl, .inr (by kernel_rfl)⟩
theorem tabOk132 : TIok Tryz.prog 132 ⟨2, .struct [(0, 1, false), (1, 1, false)], [.int .i64 0, .slice none 0 0]⟩ := ⟨by kernel_rfl, by kernel_rfl, .inr (by kernel_rfl)⟩
theorem tabOk133 : TIok Tryz.prog 133 ⟨2, .struct [(0, 1, false), (1, 1, false)], [.int .i64 0, .slice none 0 0]⟩ := ⟨by kernel_rfl, by kernel_rfl, .inr (by kernel_rfl)⟩
theorem tabOk134 : TIok Tryz.prog 134 ⟨2, .struct [(0, 1, false), (1, 1, false)], [.int .i64 0, .slice none 0 0]⟩ := ⟨by kernel_rfl, by kernel_rfl, .inr (by kernel_rfl)⟩
theorem tabOk135 : TIok Tryz.prog 135 ⟨2, .struct [(0, 1, false), (1, 1, false)], [.int .i64 0, .slice none 0 0]⟩ := ⟨by kernel_rfl, by kernel_rfl, .inr (by kernel_rfl)⟩
theorem tabOk136 : TIok Tryz.prog 136 ⟨5, .struct [(0, 1, false), (1, 1, false), (2, 1, false), (3, 1, false), (4, 1, false)], [.pointer none, .int .i64 0, .int .i64 0, .int .i64 0, .bool false]⟩ := ⟨by kernel_rfl, by kernel_rfl, .inr (by kernel_rfl)⟩
theorem tabOk137 : TIok Tryz.prog 137 ⟨5, .struct [(0, 1, false), (1, 1, false), (2, 1, false), (3, 1, false), (4, 1, false)], [.pointer none, .int .i64 0, .int .i64 0, .int .i64 0, .bool false]⟩ := ⟨by kernel_rfl, by kernel_rfl, .inr (by kernel_rfl)⟩
theorem tabOk138 : TIok Tryz.prog 138 ⟨1, .other, [.nilFunc]⟩ := ⟨by kernel_rfl, by kernel_rfl, .inr (by kernel_rfl)⟩
theorem tabOk139 : TIok Tryz.prog 139 ⟨1, .slice 25 1 false, [.slice none 0 0]⟩ := ⟨by kernel_rfl, by kernel_rfl, .inr (by kernel_rfl)⟩
theorem tabOk141 : TIok Tryz.prog 141 ⟨1, .other, [.nilFunc]⟩ := ⟨by kernel_rfl, by kernel_rfl, .inr (by kernel_rfl)⟩
theorem tabOk142 : TIok Tryz.prog 142 ⟨1, .other, [.nilFunc]⟩ := ⟨by kernel_rfl, by kernel_rfl, .inr (by kernel_rfl)⟩
theorem tabOk143 : TIok Tryz.prog 143 ⟨1, .ptr, [.pointer none]⟩ := ⟨by kernel_rfl, by kernel_rfl, .inr (by kernel_rfl)⟩
theorem tabOk144 : TIok Tryz.prog 144 ⟨1, .other, [.nilFunc]⟩ := ⟨by kernel_rfl, by kernel_rfl, .inr (by kernel_rfl)⟩
theorem tabOk145 : TIok Tryz.prog 145 ⟨1, .ptr, [.pointer none]⟩ := ⟨by kernel_rfl, by kernel_rfl, .inr (by kernel_rfl)⟩
theorem tabOk146 : TIok Tryz.prog 146 ⟨2, .struct [(0, 1, false), (1, 1, false)], [.int .i64 0, .nilIface]⟩ := ⟨by kernel_rfl, by kernel_rfl, .inr (by kernel_rfl)⟩
theorem tabOk147 : TIok Tryz.prog 147 ⟨2, .struct [(0, 1, false), (1, 1, false)], [.int .i64 0, .nilIface]⟩ := ⟨by kernel_rfl, by kernel_rfl, .inr (by kernel_rfl)⟩
theorem tabOk148 : TIok Tryz.prog 148 ⟨1, .other, [.nilFunc]⟩ := ⟨by kernel_rfl, by kernel_rfl, .inr (by kernel_rfl)⟩
theorem tabOk149 : TIok Tryz.prog 149 ⟨1, .other, [.nilFunc]⟩ := ⟨by kernel_rfl, by kernel_rfl, .inr (by kernel_rfl)⟩
theorem tabOk151 : TIok Tryz.prog 151 ⟨1, .other, [.nilFunc]⟩ := ⟨by kernel_rfl, by kernel_rfl, .inr (by kernel_rfl)⟩
theorem tabOk152 : TIok Tryz.prog 152 ⟨1, .other, [.nilFunc]⟩ := ⟨by kernel_rfl, by kernel_rfl, .inr (by kernel_rfl)⟩
theorem tabOk153 : TIok Tryz.prog 153 ⟨1, .other, [.nilFunc]⟩ := ⟨by kernel_rfl, by kernel_rfl, .inr (by kernel_rfl)⟩
theorem tabOk154 : TIok Tryz.prog 154 ⟨1, .other, [.nilFunc]⟩ := ⟨by kernel_rfl, by kernel_rfl, .inr (by kernel_rfl)⟩
theorem tabOk155 : TIok Tryz.prog 155 ⟨2, .struct [(0, 1, false), (1, 1, false)], [.int .i64 0, .int .i64 0]⟩ := ⟨by kernel_rfl, by kernel_rfl, .inr (by kernel_rfl)⟩
theorem tabOk156 : TIok Tryz.prog 156 ⟨2, .struct [(0, 1, false), (1, 1, false)], [.int .i64 0, .int .i64 0]⟩ := ⟨by kernel_rfl, by kernel_rfl, .inr (by kernel_rfl)⟩
theorem tabOk157 : TIok Tryz.prog 157 ⟨2, .struct [(0, 1, false), (1, 1, false)], [.int .i64 0, .int .i64 0]⟩ := ⟨by kernel_rfl, by kernel_rfl, .inr (by kernel_rfl)⟩
theorem tabOk158 : TIok Tryz.prog 158 ⟨1, .ptr, [.pointer none]⟩ := ⟨by kernel_rfl, by kernel_rfl, .inr (by kernel_rfl)⟩
theorem tabOk159 : TIok Tryz.prog 159 ⟨2, .arr 2 158 1 false, [.pointer none, .pointer none]⟩ := ⟨by kernel_rfl, by kernel_rfl, .inr (by kernel_rfl)⟩
theorem tabOk160 : TIok Tryz.prog 160 ⟨1, .slice 350 5 true, [.slice none 0 0]⟩ := ⟨by kernel_rfl, by kernel_rfl, .inr (by kernel_rfl)⟩
theorem tabOk161 : TIok Tryz.prog 161 ⟨7, .struct [(0, 2, true), (2, 1, false), (3, 1, false), (4, 1, false), (5, 1, false), (6, 1, false)], [.pointer none, .pointer none, .slice none 0 0, .slice none 0 0, .int .i64 0, .int .i64 0, .slice none 0 0]⟩ := ⟨by kernel_rfl, by kernel_rfl, .inr (by kernel_rfl)⟩
theorem tabOk162 : TIok Tryz.prog 162 ⟨7, .struct [(0, 2, true), (2, 1, false), (3, 1, false), (4, 1, false), (5, 1, false), (6, 1, false)], [.pointer none, .pointer none, .slice none 0 0, .slice none 0 0, .int .i64 0, .int .i64 0, .slice none 0 0]⟩ := ⟨by kernel_rfl, by kernel_rfl, .inr (by kernel_rfl)⟩
theorem tabOk163 : TIok Tryz.prog 163 ⟨1, .ptr, [.pointer none]⟩ := ⟨by kernel_rfl, by kernel_rfl, .inr (by kernel_rfl)⟩
theorem tabOk164 : TIok Tryz.prog 164 ⟨1, .other, [.nilFunc]⟩ := ⟨by kernel_rfl, by kernel_rfl, .inr (by kernel_rfl)⟩
theorem tabOk165 : TIok Tryz.prog 165 ⟨1, .ptr, [.pointer none]⟩ := ⟨by kernel_rfl, by kernel_rfl, .inr (by kernel_rfl)⟩
theorem tabOk167 : TIok Tryz.prog 167 ⟨1, .other, [.nilFunc]⟩ := ⟨by kernel_rfl, by kernel_rfl, .inr (by kernel_rfl)⟩
theorem tabOk168 : TIok Tryz.prog 168 ⟨2, .struct [(0, 1, false), (1, 1, false)], [.pointer none, .pointer none]⟩ := ⟨by kernel_rfl, by kernel_rfl, .inr (by kernel_rfl)⟩
theorem tabOk169 : TIok Tryz.prog 169 ⟨2, .struct [(0, 1, false), (1, 1, false)], [.pointer none, .pointer none]⟩ := ⟨by kernel_rfl, by kernel_rfl, .inr (by kernel_rfl)⟩
theorem tabOk171 : TIok Tryz.prog 171 ⟨1, .other, [.nilFunc]⟩ := ⟨by kernel_rfl, by kernel_rfl, .inr (by kernel_rfl)⟩
theorem tabOk172 : TIok Tryz.prog 172 ⟨1, .other, [.nilFunc]⟩ := ⟨by kernel_rfl, by kernel_rfl, .inr (by kernel_rfl)⟩
theorem tabOk173 : TIok Tryz.prog 173 ⟨1, .other, [.nilFunc]⟩ := ⟨by kernel_rfl, by kernel_rfl, .inr (by kernel_rfl)⟩
theorem tabOk174 : TIok Tryz.prog 174 ⟨1, .other, [.nilFunc]⟩ := ⟨by kernel_rfl, by kernel_rfl, .inr (by kernel_rfl)⟩
theorem tabOk175 : TIok Tryz.prog 175 ⟨2, .struct [(0, 1, false), (1, 1, false)], [.string ByteArray.empty, .nilFunc]⟩ := ⟨by kernel_rfl, by kernel_rfl, .inr (by kernel_rfl)⟩
theorem tabOk176 : TIok Tryz.prog 176 ⟨2, .struct [(0, 1, false), (1, 1, false)], [.string ByteArray.empty, .nilFunc]⟩ := ⟨by kernel_rfl, by kernel_rfl, .inr (by kernel_rfl)⟩
theorem tabOk178 : TIok Tryz.prog 178 ⟨1, .other, [.map none]⟩ := ⟨by kernel_rfl, by kernel_rfl, .inr (by kernel_rfl)⟩
theorem tabOk179 : TIok Tryz.prog 179 ⟨1, .other, [.nilFunc]⟩ := ⟨by kernel_rfl, by kernel_rfl, .inr (by kernel_rfl)⟩
theorem tabOk181 : TIok Tryz.prog 181 ⟨1, .other, [.nilFunc]⟩ := ⟨by kernel_rfl, by kernel_rfl, .inr (by kernel_rfl)⟩
theorem tabOk182 : TIok Tryz.prog 182 ⟨1, .other, [.nilFunc]⟩ := ⟨by kernel_rfl, by kernel_rfl, .inr (by kernel_rfl)⟩
theorem tabOk183 : TIok Tryz.prog 183 ⟨1, .other, [.nilFunc]⟩ := ⟨by kernel_rfl, by kernel_rfl, .inr (by kernel_rfl)⟩
theorem tabOk184 : TIok Tryz.prog 184 ⟨1, .other, [.nilFunc]⟩ := ⟨by kernel_rfl, by kernel_rfl, .inr (by kernel_rfl)⟩
theorem tabOk186 : TIok Tryz.prog 186 ⟨1, .other, [.nilFunc]⟩ := ⟨by kernel_rfl, by kernel_rfl, .inr (by kernel_rfl)⟩
theorem tabOk187 : TIok Tryz.prog 187 ⟨1, .other, [.nilFunc]⟩ := ⟨by kernel_rfl, by kernel_rfl, .inr (by kernel_rfl)⟩
theorem tabOk188 : TIok Tryz.prog 188 ⟨4, .arr 4 9 1 false, [.string ByteArray.empty, .string ByteArray.empty, .string ByteArray.empty, .string ByteArray.empty]⟩ := ⟨by kernel_rfl, by kernel_rfl, .inr (by kernel_rfl)⟩
theorem tabOk189 : TIok Tryz.prog 189 ⟨1, .other, [.nilFunc]⟩ := ⟨by kernel_rfl, by kernel_rfl, .inr (by kernel_rfl)⟩
theorem tabOk190 : TIok Tryz.prog 190 ⟨1, .other, [.nilFunc]⟩ := ⟨by kernel_rfl, by kernel_rfl, .inr (by kernel_rfl)⟩
theorem tabOk191 : TIok Tryz.prog 191 ⟨1, .other, [.nilFunc]⟩ := ⟨by kernel_rfl, by kernel_rfl, .inr (by kernel_rfl)⟩
theorem tabOk192 : TIok Tryz.prog 192 ⟨1, .slice 5 1 false, [.slice none 0 0]⟩ := ⟨by kernel_rfl, by kernel_rfl, .inr (by kernel_rfl)⟩
theorem tabOk193 : TIok Tryz.prog 193 ⟨4, .struct [(0, 1, false), (1, 1, false), (2, 1, false), (3, 1, false)], [.string ByteArray.empty, .bool false, .int .i64 0, .bool false]⟩ := ⟨by kernel_rfl, by kernel_rfl, .inr (by kernel_rfl)⟩
theorem tabOk194 : TIok Tryz.prog 194 ⟨4, .struct [(0, 1, false), (1, 1, false), (2, 1, false), (3, 1, false)], [.string ByteArray.empty, .bool false, .int .i64 0, .bool false]⟩ := ⟨by kernel_rfl, by kernel_rfl, .inr (by kernel_rfl)⟩
theorem tabOk195 : TIok Tryz.prog 195 ⟨1, .other, [.nilFunc]⟩ := ⟨by kernel_rfl, by kernel_rfl, .inr (by kernel_rfl)⟩
theorem tabOk196 : TIok Tryz.prog 196 ⟨1, .other, [.nilFunc]⟩ := ⟨by kernel_rfl, by kernel_rfl, .inr (by kernel_rfl)⟩
theorem tabOk197 : TIok Tryz.prog 197 ⟨1, .other, [.nilFunc]⟩ := ⟨by kernel_rfl, by kernel_rfl, .inr (by kernel_rfl)⟩
theorem tabOk198 : TIok Tryz.prog 198 ⟨1, .other, [.nilFunc]⟩ := ⟨by kernel_rfl, by kernel_rfl, .inr (by kernel_rfl)⟩
theorem tabOk199 : TIok Tryz.prog 199 ⟨5, .struct [(0, 1, false), (1, 1, false), (2, 1, false), (3, 1, false), (4, 1, false)], [.int .i64 0, .int .i64 0, .int .i64 0, .bool false, .slice none 0 0]⟩ := ⟨by kernel_rfl, by kernel_rfl, .inr (by kernel_rfl)⟩
theorem tabOk200 : TIok Tryz.prog 200 ⟨5, .struct [(0, 1, false), (1, 1, false), (2, 1, false), (3, 1, false), (4, 1, false)], [.int .i64 0, .int .i64 0, .int .i64 0, .bool false, .slice none 0 0]⟩ := ⟨by kernel_rfl, by kernel_rfl, .inr (by kernel_rfl)⟩
theorem tabOk202 : TIok Tryz.prog 202 ⟨1, .other, [.nilFunc]⟩ := ⟨by kernel_rfl, by kernel_rfl, .inr (by kernel_rfl)⟩
theorem tabOk203 : TIok Tryz.prog 203 ⟨1, .other, [.nilFunc]⟩ := ⟨by kernel_rfl, by kernel_rfl, .inr (by kernel_rfl)⟩
theorem tabOk204 : TIok Tryz.prog 204 ⟨1, .other, [.nilFunc]⟩ := ⟨by kernel_rfl, by kernel_rfl, .inr (by kernel_rfl)⟩
theorem tabOk205 : TIok Tryz.prog 205 ⟨1, .other, [.nilFunc]⟩ := ⟨by kernel_rfl, by kernel_rfl, .inr (by kernel_rfl)⟩
theorem tabOk206 : TIok Tryz.prog 206 ⟨8, .struct [(0, 1, false), (1, 2, true), (3, 2, true), (5, 1, false), (6, 1, false), (7, 1, false)], [.int .i64 0, .int .i64 0, .int .i64 0, .int .i64 0, .int .i64 0, .int .i64 0, .int .i64 0, .int .i64 0]⟩ := ⟨by kernel_rfl, by kernel_rfl, .inr (by kernel_rfl)⟩
theorem tabOk207 : TIok Tryz.prog 207 ⟨8, .struct [(0, 1, false), (1, 2, true), (3, 2, true), (5, 1, false), (6, 1, false), (7, 1, false)], [.int .i64 0, .int .i64 0, .int .i64 0, .int .i64 0, .int .i64 0, .int .i64 0, .int .i64 0, .int .i64 0]⟩ := ⟨by kernel_rfl, by kernel_rfl, .inr (by kernel_rfl)⟩
theorem tabOk208 : TIok Tryz.prog 208 ⟨10, .struct [(0, 1, false), (1, 1, false), (2, 8, true)], [.int .i64 0, .int .i64 0, .int .i64 0, .int .i64 0, .int .i64 0, .int .i64 0, .int .i64 0, .int .i64 0, .int .i64 0, .int .i64 0]⟩ := ⟨by kernel_rfl, by kernel_rfl, .inr (by kernel_rfl)⟩
theorem tabOk209 : TIok Tryz.prog 209 ⟨10, .struct [(0, 1, false), (1, 1, false), (2, 8, true)], [.int .i64 0, .int .i64 0, .int .i64 0, .int .i64 0, .int .i64 0, .int .i64 0, .int .i64 0, .int .i64 0, .int .i64 0, .int .i64 0]⟩ := ⟨by kernel_rfl, by kernel_rfl, .inr (by kernel_rfl)⟩
theorem tabOk216 : TIok Tryz.prog 216 ⟨1, .other, [.int .u64 0]⟩ := ⟨by kernel_rfl, by kernel_rfl, .inr (by kernel_rfl)⟩
theorem tabOk219 : TIok Tryz.prog 219 ⟨1, .other, [.int .u32 0]⟩ := ⟨by kernel_rfl, by kernel_rfl, .inr (by kernel_rfl)⟩
theorem tabOk222 : TIok Tryz.prog 222 ⟨1, .other, [.nilFunc]⟩ := ⟨by kernel_rfl, by kernel_rfl, .inr (by kernel_rfl)⟩
theorem tabOk223 : TIok Tryz.prog 223 ⟨3, .struct [(0, 1, false), (1, 1, false), (2, 1, false)], [.int .i64 0, .slice none 0 0, .nilIface]⟩ := ⟨by kernel_rfl, by kernel_rfl, .inr (by kernel_rfl)⟩
theorem tabOk224 : TIok Tryz.prog 224 ⟨3, .struct [(0, 1, false), (1, 1, false), (2, 1, false)], [.int .i64 0, .slice none 0 0, .nilIface]⟩ := ⟨by kernel_rfl, by kernel_rfl, .inr (by kernel_rfl)⟩
theorem tabOk228 : TIok Tryz.prog 228 ⟨3, .struct [(0, 1, false), (1, 1, false), (2, 1, false)], [.pointer none, .pointer none, .int .u64 0]⟩ := ⟨by kernel_rfl, by kernel_rfl, .inr (by kernel_rfl)⟩
theorem tabOk231 : TIok Tryz.prog 231 ⟨1, .iface, [.nilIface]⟩ := ⟨by kernel_rfl, by kernel_rfl, .inr (by kernel_rfl)⟩
theorem tabOk233 : TIok Tryz.prog 233 ⟨1, .other, [.int .u8 0]⟩ := ⟨by kernel_rfl, by kernel_rfl, .inr (by kernel_rfl)⟩
theorem tabOk237 : TIok Tryz.prog 237 ⟨1, .other, [.nilFunc]⟩ := ⟨by kernel_rfl, by kernel_rfl, .inr (by kernel_rfl)⟩
theorem tabOk238 : TIok Tryz.prog 238 ⟨3, .arr 3 9 1 false, [.string ByteArray.empty, .string ByteArray.empty, .string ByteArray.empty]⟩ := ⟨by kernel_rfl, by kernel_rfl, .inr (by kernel_rfl)⟩
theorem tabOk240 : TIok Tryz.prog 240 ⟨1, .other, [.nilFunc]⟩ := ⟨by kernel_rfl, by kernel_rfl, .inr (by kernel_rfl)⟩
theorem tabOk241 : TIok Tryz.prog 241 ⟨1, .other, [.nilFunc]⟩ := ⟨by kernel_rfl, by kernel_rfl, .inr (by kernel_rfl)⟩
theorem tabOk242 : TIok Tryz.prog 242 ⟨1, .other, [.nilFunc]⟩ := ⟨by kernel_rfl, by kernel_rfl, .inr (by kernel_rfl)⟩
theorem tabOk243 : TIok Tryz.prog 243 ⟨1, .other, [.nilFunc]⟩ := ⟨by kernel_rfl, by kernel_rfl, .inr (by kernel_rfl)⟩
theorem tabOk246 : TIok Tryz.prog 246 ⟨4, .struct [(0, 1, false), (1, 2, true), (3, 1, false)], [.int .i64 0, .slice none 0 0, .slice none 0 0, .nilIface]⟩ := ⟨by kernel_rfl, by kernel_rfl, .inr (by kernel_rfl)⟩
theorem tabOk247 : TIok Tryz.prog 247 ⟨4, .struct [(0, 1, false), (1, 2, true), (3, 1, false)], [.int .i64 0, .slice none 0 0, .slice none 0 0, .nilIface]⟩ := ⟨by kernel_rfl, by kernel_rfl, .inr (by kernel_rfl)⟩
theorem tabOk248 : TIok Tryz.prog 248 ⟨1, .other, [.nilFunc]⟩ := ⟨by kernel_rfl, by kernel_rfl, .inr (by kernel_rfl)⟩
theorem tabOk249 : TIok Tryz.prog 249 ⟨1, .other, [.nilFunc]⟩ := ⟨by kernel_rfl, by kernel_rfl, .inr (by kernel_rfl)⟩
theorem tabOk250 : TIok Tryz.prog 250 ⟨1, .other, [.nilFunc]⟩ := ⟨by kernel_rfl, by kernel_rfl, .inr (by kernel_rfl)⟩
theorem tabOk251 : TIok Tryz.prog 251 ⟨64, .arr 64 5 1 false, []⟩ := ⟨by kernel_rfl, by kernel_rfl, .inl rfl⟩
theorem tabOk252 : TIok Tryz.prog 252 ⟨66, .struct [(0, 64, true), (64, 1, false), (65, 1, false)], []⟩ := ⟨by kernel_rfl, by kernel_rfl, .inl rfl⟩
theorem tabOk253 : TIok Tryz.prog 253 ⟨66, .struct [(0, 64, true), (64, 1, false), (65, 1, false)], []⟩ := ⟨by kernel_rfl, by kernel_rfl, .inl rfl⟩
theorem tabOk254 : TIok Tryz.prog 254 ⟨1, .ptr, [.pointer none]⟩ := ⟨by kernel_rfl, by kernel_rfl, .inr (by kernel_rfl)⟩
theorem tabOk256 : TIok Tryz.prog 256 ⟨1, .other, [.nilFunc]⟩ := ⟨by kernel_rfl, by kernel_rfl, .inr (by kernel_rfl)⟩
theorem tabOk257 : TIok Tryz.prog 257 ⟨1, .ptr, [.pointer none]⟩ := ⟨by kernel_rfl, by kernel_rfl, .inr (by kernel_rfl)⟩
theorem tabOk259 : TIok Tryz.prog 259 ⟨1, .other, [.nilFunc]⟩ := ⟨by kernel_rfl, by kernel_rfl, .inr (by kernel_rfl)⟩
theorem tabOk260 : TIok Tryz.prog 260 ⟨1, .ptr, [.pointer none]⟩ := ⟨by kernel_rfl, by kernel_rfl, .inr (by kernel_rfl)⟩
theorem tabOk262 : TIok Tryz.prog 262 ⟨1, .other, [.nilFunc]⟩ := ⟨by kernel_rfl, by kernel_rfl, .inr (by kernel_rfl)⟩
theorem tabOk263 : TIok Tryz.prog 263 ⟨1, .ptr, [.pointer none]⟩ := ⟨by kernel_rfl, by kernel_rfl, .inr (by kernel_rfl)⟩
theorem tabOk264 : TIok Tryz.prog 264 ⟨1, .other, [.nilFunc]⟩ := ⟨by kernel_rfl, by kernel_rfl, .inr (by kernel_rfl)⟩
theorem tabOk265 : TIok Tryz.prog 265 ⟨1, .ptr, [.pointer none]⟩ := ⟨by kernel_rfl, by kernel_rfl, .inr (by kernel_rfl)⟩
theorem tabOk266 : TIok Tryz.prog 266 ⟨1, .other, [.nilFunc]⟩ := ⟨by kernel_rfl, by kernel_rfl, .inr (by kernel_rfl)⟩
theorem tabOk267 : TIok Tryz.prog 267 ⟨8, .struct [(0, 1, false), (1, 1, false), (2, 1, false), (3, 1, false), (4, 1, false), (5, 1, false), (6, 1, false), (7, 1, false)], [.pointer none, .int .i64 0, .int .i64 0, .pointer none, .pointer none, .pointer none, .pointer none, .slice none 0 0]⟩ := ⟨by kernel_rfl, by kernel_rfl, .inr (by kernel_rfl)⟩
theorem tabOk268 : TIok Tryz.prog 268 ⟨8, .struct [(0, 1, false), (1, 1, false), (2, 1, false), (3, 1, false), (4, 1, false), (5, 1, false), (6, 1, false), (7, 1, false)], [.pointer none, .int .i64 0, .int .i64 0, .pointer none, .pointer none, .pointer none, .pointer none, .slice none 0 0]⟩ := ⟨by kernel_rfl, by kernel_rfl, .inr (by kernel_rfl)⟩
theorem tabOk270 : TIok Tryz.prog 270 ⟨1, .other, [.nilFunc]⟩ := ⟨by kernel_rfl, by kernel_rfl, .inr (by kernel_rfl)⟩
theorem tabOk271 : TIok Tryz.prog 271 ⟨1, .other, [.nilFunc]⟩ := ⟨by kernel_rfl, by kernel_rfl, .inr (by kernel_rfl)⟩
theorem tabOk272 : TIok Tryz.prog 272 ⟨1, .other, [.nilFunc]⟩ := ⟨by kernel_rfl, by kernel_rfl, .inr (by kernel_rfl)⟩
theorem tabOk273 : TIok Tryz.prog 273 ⟨1, .other, [.nilFunc]⟩ := ⟨by kernel_rfl, by kernel_rfl, .inr (by kernel_rfl)⟩
theorem tabOk274 : TIok Tryz.prog 274 ⟨1, .other, [.nilFunc]⟩ := ⟨by kernel_rfl, by kernel_rfl, .inr (by kernel_rfl)⟩
theorem tabOk275 : TIok Tryz.prog 275 ⟨1, .other, [.nilFunc]⟩ := ⟨by kernel_rfl, by kernel_rfl, .inr (by kernel_rfl)⟩
theorem tabOk276 : TIok Tryz.prog 276 ⟨1, .other, [.nilFunc]⟩ := ⟨by kernel_rfl, by kernel_rfl, .inr (by kernel_rfl)⟩
theorem tabOk277 : TIok Tryz.prog 277 ⟨1, .other, [.nilFunc]⟩ := ⟨by kernel_rfl, by kernel_rfl, .inr (by kernel_rfl)⟩
theorem tabOk278 : TIok Tryz.prog 278 ⟨1, .other, [.nilFunc]⟩ := ⟨by kernel_rfl, by kernel_rfl, .inr (by kernel_rfl)⟩
theorem tabOk279 : TIok Tryz.prog 279 ⟨1, .other, [.nilFunc]⟩ := ⟨by kernel_rfl, by kernel_rfl, .inr (by kernel_rfl)⟩
theorem tabOk280 : TIok Tryz.prog 280 ⟨1, .other, [.nilFunc]⟩ := ⟨by kernel_rfl, by kernel_rfl, .inr (by kernel_rfl)⟩
theorem tabOk282 : TIok Tryz.prog 282 ⟨1, .other, [.nilFunc]⟩ := ⟨by kernel_rfl, by kernel_rfl, .inr (by kernel_rfl)⟩
theorem tabOk283 : TIok Tryz.prog 283 ⟨1, .other, [.nilFunc]⟩ := ⟨by kernel_rfl, by kernel_rfl, .inr (by kernel_rfl)⟩
theorem tabOk284 : TIok Tryz.prog 284 ⟨1, .other, [.nilFunc]⟩ := ⟨by kernel_rfl, by kernel_rfl, .inr (by kernel_rfl)⟩
theorem tabOk285 : TIok Tryz.prog 285 ⟨1, .other, [.nilFunc]⟩ := ⟨by kernel_rfl, by kernel_rfl, .inr (by kernel_rfl)⟩
theorem tabOk286 : TIok Tryz.prog 286 ⟨1, .ptr, [.pointer none]⟩ := ⟨by kernel_rfl, by kernel_rfl, .inr (by kernel_rfl)⟩
theorem tabOk287 : TIok Tryz.prog 287 ⟨2, .struct [(0, 1, false), (1, 1, false)], [.pointer none, .slice none 0 0]⟩ := ⟨by kernel_rfl, by kernel_rfl, .inr (by kernel_rfl)⟩
theorem tabOk288 : TIok Tryz.prog 288 ⟨2, .struct [(0, 1, false), (1, 1, false)], [.pointer none, .slice none 0 0]⟩ := ⟨by kernel_rfl, by kernel_rfl, .inr (by kernel_rfl)⟩
theorem tabOk289 : TIok Tryz.prog 289 ⟨1, .other, [.nilFunc]⟩ := ⟨by kernel_rfl, by kernel_rfl, .inr (by kernel_rfl)⟩
theorem tabOk290 : TIok Tryz.prog 290 ⟨1, .other, [.nilFunc]⟩ := ⟨by kernel_rfl, by kernel_rfl, .inr (by kernel_rfl)⟩
theorem tabOk291 : TIok Tryz.prog 291 ⟨1, .other, [.nilFunc]⟩ := ⟨by kernel_rfl, by kernel_rfl, .inr (by kernel_rfl)⟩
theorem tabOk292 : TIok Tryz.prog 292 ⟨1, .other, [.nilFunc]⟩ := ⟨by kernel_rfl, by kernel_rfl, .inr (by kernel_rfl)⟩
theorem tabOk293 : TIok Tryz.prog 293 ⟨3, .struct [(0, 1, false), (1, 1, false), (2, 1, false)], [.pointer none, .slice none 0 0, .int .i64 0]⟩ := ⟨by kernel_rfl, by kernel_rfl, .inr (by kernel_rfl)⟩
theorem tabOk294 : TIok Tryz.prog 294 ⟨3, .struct [(0, 1, false), (1, 1, false), (2, 1, false)], [.pointer none, .slice none 0 0, .int .i64 0]⟩ := ⟨by kernel_rfl, by kernel_rfl, .inr (by kernel_rfl)⟩
theorem tabOk296 : TIok Tryz.prog 296 ⟨1, .other, [.nilFunc]⟩ := ⟨by kernel_rfl, by kernel_rfl, .inr (by kernel_rfl)⟩
theorem tabOk297 : TIok Tryz.prog 297 ⟨1, .other, [.nilFunc]⟩ := ⟨by kernel_rfl, by kernel_rfl, .inr (by kernel_rfl)⟩
theorem tabOk298 : TIok Tryz.prog 298 ⟨1, .other, [.nilFunc]⟩ := ⟨by kernel_rfl, by kernel_rfl, .inr (by kernel_rfl)⟩
theorem tabOk299 : TIok Tryz.prog 299 ⟨1, .other, [.nilFunc]⟩ := ⟨by kernel_rfl, by kernel_rfl, .inr (by kernel_rfl)⟩
theorem tabOk300 : TIok Tryz.prog 300 ⟨1, .other, [.nilFunc]⟩ := ⟨by kernel_rfl, by kernel_rfl, .inr (by kernel_rfl)⟩
theorem tabOk301 : TIok Tryz.prog 301 ⟨1, .other, [.nilFunc]⟩ := ⟨by kernel_rfl, by kernel_rfl, .inr (by kernel_rfl)⟩
theorem tabOk302 : TIok Tryz.prog 302 ⟨1, .other, [.nilFunc]⟩ := ⟨by kernel_rfl, by kernel_rfl, .inr (by kernel_rfl)⟩
theorem tabOk303 : TIok Tryz.prog 303 ⟨1, .other, [.nilFunc]⟩ := ⟨by kernel_rfl, by kernel_rfl, .inr (by kernel_rfl)⟩
theorem tabOk304 : TIok Tryz.prog 304 ⟨1, .other, [.nilFunc]⟩ := ⟨by kernel_rfl, by kernel_rfl, .inr (by kernel_rfl)⟩
theorem tabOk305 : TIok Tryz.prog 305 ⟨1, .ptr, [.pointer none]⟩ := ⟨by kernel_rfl, by kernel_rfl, .inr (by kernel_rfl)⟩
theorem tabOk306 : TIok Tryz.prog 306 ⟨1, .other, [.nilFunc]⟩ := ⟨by kernel_rfl, by kernel_rfl, .inr (by kernel_rfl)⟩
theorem tabOk307 : TIok Tryz.prog 307 ⟨1, .other, [.int .u64 0]⟩ := ⟨by kernel_rfl, by kernel_rfl, .inr (by kernel_rfl)⟩
theorem tabOk308 : TIok Tryz.prog 308 ⟨1, .other, [.nilFunc]⟩ := ⟨by kernel_rfl, by kernel_rfl, .inr (by kernel_rfl)⟩
theorem tabOk309 : TIok Tryz.prog 309 ⟨1, .other, [.nilFunc]⟩ := ⟨by kernel_rfl, by kernel_rfl, .inr (by kernel_rfl)⟩
theorem tabOk310 : TIok Tryz.prog 310 ⟨1, .other, [.nilFunc]⟩ := ⟨by kernel_rfl, by kernel_rfl, .inr (by kernel_rfl)⟩
theorem tabOk311 : TIok Tryz.prog 311 ⟨1, .other, [.nilFunc]⟩ := ⟨by kernel_rfl, by kernel_rfl, .inr (by kernel_rfl)⟩
theorem tabOk312 : TIok Tryz.prog 312 ⟨1, .ptr, [.pointer none]⟩ := ⟨by kernel_rfl, by kernel_rfl, .inr (by kernel_rfl)⟩
theorem tabOk313 : TIok Tryz.prog 313 ⟨1, .other, [.nilFunc]⟩ := ⟨by kernel_rfl, by kernel_rfl, .inr (by kernel_rfl)⟩
theorem tabOk319 : TIok Tryz.prog 319 ⟨1, .iface, [.nilIface]⟩ := ⟨by kernel_rfl, by kernel_rfl, .inr (by kernel_rfl)⟩
theorem tabOk321 : TIok Tryz.prog 321 ⟨1, .other, [.nilFunc]⟩ := ⟨by kernel_rfl, by kernel_rfl, .inr (by kernel_rfl)⟩
theorem tabOk322 : TIok Tryz.prog 322 ⟨1, .iface, [.nilIface]⟩ := ⟨by kernel_rfl, by kernel_rfl, .inr (by kernel_rfl)⟩
theorem tabOk323 : TIok Tryz.prog 323 ⟨1, .other, [.nilFunc]⟩ := ⟨by kernel_rfl, by kernel_rfl, .inr (by kernel_rfl)⟩
theorem tabOk324 : TIok Tryz.prog 324 ⟨1, .iface, [.nilIface]⟩ := ⟨by kernel_rfl, by kernel_rfl, .inr (by kernel_rfl)⟩
theorem tabOk325 : TIok Tryz.prog 325 ⟨1, .other, [.nilFunc]⟩ := ⟨by kernel_rfl, by kernel_rfl, .inr (by kernel_rfl)⟩
theorem tabOk326 : TIok Tryz.prog 326 ⟨1, .other, [.nilFunc]⟩ := ⟨by kernel_rfl, by kernel_rfl, .inr (by kernel_rfl)⟩
theorem tabOk327 : TIok Tryz.prog 327 ⟨1, .other, [.nilFunc]⟩ := ⟨by kernel_rfl, by kernel_rfl, .inr (by kernel_rfl)⟩
theorem tabOk328 : TIok Tryz.prog 328 ⟨320, .arr 32 209 10 true, []⟩ := ⟨by kernel_rfl, by kernel_rfl, .inl rfl⟩
theorem tabOk329 : TIok Tryz.prog 329 ⟨321, .struct [(0, 1, false), (1, 320, true)], []⟩ := ⟨by kernel_rfl, by kernel_rfl, .inl rfl⟩
theorem tabOk330 : TIok Tryz.prog 330 ⟨321, .struct [(0, 1, false), (1, 320, true)], []⟩ := ⟨by kernel_rfl, by kernel_rfl, .inl rfl⟩
theorem tabOk331 : TIok Tryz.prog 331 ⟨5, .struct [(0, 1, false), (1, 1, false), (2, 1, false), (3, 1, false), (4, 1, false)], [.pointer none, .int .i64 0, .int .i64 0, .int .i64 0, .bool false]⟩ := ⟨by kernel_rfl, by kernel_rfl, .inr (by kernel_rfl)⟩
theorem tabOk332 : TIok Tryz.prog 332 ⟨5, .struct [(0, 1, false), (1, 1, false), (2, 1, false), (3, 1, false), (4, 1, false)], [.pointer none, .int .i64 0, .int .i64 0, .int .i64 0, .bool false]⟩ := ⟨by kernel_rfl, by kernel_rfl, .inr (by kernel_rfl)⟩
theorem tabOk333 : TIok Tryz.prog 333 ⟨1, .other, [.nilFunc]⟩ := ⟨by kernel_rfl, by kernel_rfl, .inr (by kernel_rfl)⟩
theorem tabOk334 : TIok Tryz.prog 334 ⟨4, .struct [(0, 1, false), (1, 1, false), (2, 1, false), (3, 1, false)], [.int .i64 0, .int .i64 0, .int .i64 0, .bool false]⟩ := ⟨by kernel_rfl, by kernel_rfl, .inr (by kernel_rfl)⟩
theorem tabOk335 : TIok Tryz.prog 335 ⟨4, .struct [(0, 1, false), (1, 1, false), (2, 1, false), (3, 1, false)], [.int .i64 0, .int .i64 0, .int .i64 0, .bool false]⟩ := ⟨by kernel_rfl, by kernel_rfl, .inr (by kernel_rfl)⟩
theorem tabOk336 : TIok Tryz.prog 336 ⟨32, .arr 32 3 1 false, []⟩ := ⟨by kernel_rfl, by kernel_rfl, .inl rfl⟩
theorem tabOk337 : TIok Tryz.prog 337 ⟨34, .struct [(0, 1, false), (1, 32, true), (33, 1, false)], []⟩ := ⟨by kernel_rfl, by kernel_rfl, .inl rfl⟩
theorem tabOk338 : TIok Tryz.prog 338 ⟨34, .struct [(0, 1, false), (1, 32, true), (33, 1, false)], []⟩ := ⟨by kernel_rfl, by kernel_rfl, .inl rfl⟩
theorem tabOk339 : TIok Tryz.prog 339 ⟨321, .struct [(0, 1, false), (1, 320, true)], []⟩ := ⟨by kernel_rfl, by kernel_rfl, .inl rfl⟩
theorem tabOk340 : TIok Tryz.prog 340 ⟨321, .struct [(0, 1, false), (1, 320, true)], []⟩ := ⟨by kernel_rfl, by kernel_rfl, .inl rfl⟩
theorem tabOk341 : TIok Tryz.prog 341 ⟨1, .other, [.nilFunc]⟩ := ⟨by kernel_rfl, by kernel_rfl, .inr (by kernel_rfl)⟩
theorem tabOk342 : TIok Tryz.prog 342 ⟨1, .other, [.nilFunc]⟩ := ⟨by kernel_rfl, by kernel_rfl, .inr (by kernel_rfl)⟩
theorem tabOk344 : TIok Tryz.prog 344 ⟨1, .other, [.nilFunc]⟩ := ⟨by kernel_rfl, by kernel_rfl, .inr (by kernel_rfl)⟩
theorem tabOk345 : TIok Tryz.prog 345 ⟨1, .other, [.nilFunc]⟩ := ⟨by kernel_rfl, by kernel_rfl, .inr (by kernel_rfl)⟩
theorem tabOk347 : TIok Tryz.prog 347 ⟨1, .other, [.nilFunc]⟩ := ⟨by kernel_rfl, by kernel_rfl, .inr (by kernel_rfl)⟩
theorem tabOk348 : TIok Tryz.prog 348 ⟨1, .other, [.nilFunc]⟩ := ⟨by kernel_rfl, by kernel_rfl, .inr (by kernel_rfl)⟩
theorem tabOk349 : TIok Tryz.prog 349 ⟨1, .other, [.nilFunc]⟩ := ⟨by kernel_rfl, by kernel_rfl, .inr (by kernel_rfl)⟩
theorem tabOk350 : TIok Tryz.prog 350 ⟨5, .struct [(0, 1, false), (1, 1, false), (2, 1, false), (3, 1, false), (4, 1, false)], [.int .i64 0, .int .i64 0, .int .i64 0, .bool false, .slice none 0 0]⟩ := ⟨by kernel_rfl, by kernel_rfl, .inr (by kernel_rfl)⟩
theorem tabOk351 : TIok Tryz.prog 351 ⟨1, .other, [.nilFunc]⟩ := ⟨by kernel_rfl, by kernel_rfl, .inr (by kernel_rfl)⟩
theorem tabOk352 : TIok Tryz.prog 352 ⟨1, .other, [.nilFunc]⟩ := ⟨by kernel_rfl, by kernel_rfl, .inr (by kernel_rfl)⟩
theorem tabOk353 : TIok Tryz.prog 353 ⟨1, .other, [.nilFunc]⟩ := ⟨by kernel_rfl, by kernel_rfl, .inr (by kernel_rfl)⟩
theorem tabOk354 : TIok Tryz.prog 354 ⟨1, .other, [.nilFunc]⟩ := ⟨by kernel_rfl, by kernel_rfl, .inr (by kernel_rfl)⟩
theorem tabOk355 : TIok Tryz.prog 355 ⟨1, .iface, [.nilIface]⟩ := ⟨by kernel_rfl, by kernel_rfl, .inr (by kernel_rfl)⟩
theorem tabOk357 : TIok Tryz.prog 357 ⟨1, .other, [.nilFunc]⟩ := ⟨by kernel_rfl, by kernel_rfl, .inr (by kernel_rfl)⟩
theorem tabOk359 : TIok Tryz.prog 359 ⟨1, .other, [.nilFunc]⟩ := ⟨by kernel_rfl, by kernel_rfl, .inr (by kernel_rfl)⟩
theorem tabOk360 : TIok Tryz.prog 360 ⟨1, .other, [.nilFunc]⟩ := ⟨by kernel_rfl, by kernel_rfl, .inr (by kernel_rfl)⟩
theorem tabOk361 : TIok Tryz.prog 361 ⟨1, .int, [.int .i64 0]⟩ := ⟨by kernel_rfl, by kernel_rfl, .inr (by kernel_rfl)⟩
theorem tabOk363 : TIok Tryz.prog 363 ⟨1, .other, [.nilFunc]⟩ := ⟨by kernel_rfl, by kernel_rfl, .inr (by kernel_rfl)⟩
theorem tabOk364 : TIok Tryz.prog 364 ⟨1, .ptr, [.pointer none]⟩ := ⟨by kernel_rfl, by kernel_rfl, .inr (by kernel_rfl)⟩
theorem tabOk365 : TIok Tryz.prog 365 ⟨1, .other, [.nilFunc]⟩ := ⟨by kernel_rfl, by kernel_rfl, .inr (by kernel_rfl)⟩
theorem tabOk366 : TIok Tryz.prog 366 ⟨1, .other, [.nilFunc]⟩ := ⟨by kernel_rfl, by kernel_rfl, .inr (by kernel_rfl)⟩
theorem tabOk367 : TIok Tryz.prog 367 ⟨1, .ptr, [.pointer none]⟩ := ⟨by kernel_rfl, by kernel_rfl, .inr (by kernel_rfl)⟩
theorem tabOk368 : TIok Tryz.prog 368 ⟨1, .other, [.nilFunc]⟩ := ⟨by kernel_rfl, by kernel_rfl, .inr (by kernel_rfl)⟩
theorem tabOk369 : TIok Tryz.prog 369 ⟨1, .other, [.nilFunc]⟩ := ⟨by kernel_rfl, by kernel_rfl, .inr (by kernel_rfl)⟩
theorem tabOk370 : TIok Tryz.prog 370 ⟨1, .other, [.nilFunc]⟩ := ⟨by kernel_rfl, by kernel_rfl, .inr (by kernel_rfl)⟩
theorem tabOk371 : TIok Tryz.prog 371 ⟨1, .other, [.nilFunc]⟩ := ⟨by kernel_rfl, by kernel_rfl, .inr (by kernel_rfl)⟩
theorem tabOk372 : TIok Tryz.prog 372 ⟨1, .other, [.nilFunc]⟩ := ⟨by kernel_rfl, by kernel_rfl, .inr (by kernel_rfl)⟩
theorem tabOk373 : TIok Tryz.prog 373 ⟨1, .int, [.int .i64 0]⟩ := ⟨by kernel_rfl, by kernel_rfl, .inr (by kernel_rfl)⟩
theorem tabOk374 : TIok Tryz.prog 374 ⟨1, .other, [.nilFunc]⟩ := ⟨by kernel_rfl, by kernel_rfl, .inr (by kernel_rfl)⟩
theorem tabOk375 : TIok Tryz.prog 375 ⟨1, .other, [.nilFunc]⟩ := ⟨by kernel_rfl, by kernel_rfl, .inr (by kernel_rfl)⟩
theorem tabOk376 : TIok Tryz.prog 376 ⟨1, .other, [.nilFunc]⟩ := ⟨by kernel_rfl, by kernel_rfl, .inr (by kernel_rfl)⟩
theorem tabOk377 : TIok Tryz.prog 377 ⟨1, .other, [.nilFunc]⟩ := ⟨by kernel_rfl, by kernel_rfl, .inr (by kernel_rfl)⟩
theorem tabOk378 : TIok Tryz.prog 378 ⟨1, .other, [.nilFunc]⟩ := ⟨by kernel_rfl, by kernel_rfl, .inr (by kernel_rfl)⟩
theorem tabOk379 : TIok Tryz.prog 379 ⟨1, .ptr, [.pointer none]⟩ := ⟨by kernel_rfl, by kernel_rfl, .inr (by kernel_rfl)⟩
theorem tabOk380 : TIok Tryz.prog 380 ⟨1, .other, [.nilFunc]⟩ := ⟨by kernel_rfl, by kernel_rfl, .inr (by kernel_rfl)⟩
theorem tabOk381 : TIok Tryz.prog 381 ⟨1, .ptr, [.pointer none]⟩ := ⟨by kernel_rfl, by kernel_rfl, .inr (by kernel_rfl)⟩
theorem tabOk382 : TIok Tryz.prog 382 ⟨1, .other, [.nilFunc]⟩ := ⟨by kernel_rfl, by kernel_rfl, .inr (by kernel_rfl)⟩
theorem tabOk384 : TIok Tryz.prog 384 ⟨1, .other, [.nilFunc]⟩ := ⟨by kernel_rfl, by kernel_rfl, .inr (by kernel_rfl)⟩
theorem tabOk385 : TIok Tryz.prog 385 ⟨1, .other, [.nilFunc]⟩ := ⟨by kernel_rfl, by kernel_rfl, .inr (by kernel_rfl)⟩
theorem tabOk386 : TIok Tryz.prog 386 ⟨4, .arr 4 3 1 false, [.int .i64 0, .int .i64 0, .int .i64 0, .int .i64 0]⟩ := ⟨by kernel_rfl, by kernel_rfl, .inr (by kernel_rfl)⟩
theorem tabOk387 : TIok Tryz.prog 387 ⟨1, .other, [.nilFunc]⟩ := ⟨by kernel_rfl, by kernel_rfl, .inr (by kernel_rfl)⟩
theorem tabOk388 : TIok Tryz.prog 388 ⟨1, .other, [.nilFunc]⟩ := ⟨by kernel_rfl, by kernel_rfl, .inr (by kernel_rfl)⟩
theorem tabOk389 : TIok Tryz.prog 389 ⟨1, .other, [.nilFunc]⟩ := ⟨by kernel_rfl, by kernel_rfl, .inr (by kernel_rfl)⟩
theorem tabOk390 : TIok Tryz.prog 390 ⟨1, .other, [.nilFunc]⟩ := ⟨by kernel_rfl, by kernel_rfl, .inr (by kernel_rfl)⟩
theorem tabOk392 : TIok Tryz.prog 392 ⟨1, .other, [.nilFunc]⟩ := ⟨by kernel_rfl, by kernel_rfl, .inr (by kernel_rfl)⟩
theorem tabOk393 : TIok Tryz.prog 393 ⟨1, .other, [.nilFunc]⟩ := ⟨by kernel_rfl, by kernel_rfl, .inr (by kernel_rfl)⟩
theorem tabOk394 : TIok Tryz.prog 394 ⟨1, .other, [.nilFunc]⟩ := ⟨by kernel_rfl, by kernel_rfl, .inr (by kernel_rfl)⟩
theorem tabOk395 : TIok Tryz.prog 395 ⟨1, .ptr, [.pointer none]⟩ := ⟨by kernel_rfl, by kernel_rfl, .inr (by kernel_rfl)⟩
theorem tabOk397 : TIok Tryz.prog 397 ⟨1, .other, [.nilFunc]⟩ := ⟨by kernel_rfl, by kernel_rfl, .inr (by kernel_rfl)⟩
theorem tabOk398 : TIok Tryz.prog 398 ⟨1, .other, [.nilFunc]⟩ := ⟨by kernel_rfl, by kernel_rfl, .inr (by kernel_rfl)⟩
theorem tabOk399 : TIok Tryz.prog 399 ⟨1, .other, [.nilFunc]⟩ := ⟨by kernel_rfl, by kernel_rfl, .inr (by kernel_rfl)⟩
theorem tabOk400 : TIok Tryz.prog 400 ⟨1, .other, [.nilFunc]⟩ := ⟨by kernel_rfl, by kernel_rfl, .inr (by kernel_rfl)⟩
theorem tabOk401 : TIok Tryz.prog 401 ⟨1, .other, [.nilFunc]⟩ := ⟨by kernel_rfl, by kernel_rfl, .inr (by kernel_rfl)⟩
theorem tabOk402 : TIok Tryz.prog 402 ⟨1, .other, [.nilFunc]⟩ := ⟨by kernel_rfl, by kernel_rfl, .inr (by kernel_rfl)⟩
theorem tabOk404 : TIok Tryz.prog 404 ⟨1, .other, [.nilFunc]⟩ := ⟨by kernel_rfl, by kernel_rfl, .inr (by kernel_rfl)⟩
theorem tabOk405 : TIok Tryz.prog 405 ⟨1, .other, [.nilFunc]⟩ := ⟨by kernel_rfl, by kernel_rfl, .inr (by kernel_rfl)⟩
theorem tabOk406 : TIok Tryz.prog 406 ⟨3, .struct [(0, 1, false), (1, 1, false), (2, 1, false)], [.string ByteArray.empty, .string ByteArray.empty, .nilIface]⟩ := ⟨by kernel_rfl, by kernel_rfl, .inr (by kernel_rfl)⟩
theorem tabOk407 : TIok Tryz.prog 407 ⟨3, .struct [(0, 1, false), (1, 1, false), (2, 1, false)], [.string ByteArray.empty, .string ByteArray.empty, .nilIface]⟩ := ⟨by kernel_rfl, by kernel_rfl, .inr (by kernel_rfl)⟩
theorem tabOk408 : TIok Tryz.prog 408 ⟨1, .other, [.nilFunc]⟩ := ⟨by kernel_rfl, by kernel_rfl, .inr (by kernel_rfl)⟩
theorem tabOk409 : TIok Tryz.prog 409 ⟨1, .other, [.nilFunc]⟩ := ⟨by kernel_rfl, by kernel_rfl, .inr (by kernel_rfl)⟩
theorem tabOk410 : TIok Tryz.prog 410 ⟨1, .other, [.nilFunc]⟩ := ⟨by kernel_rfl, by kernel_rfl, .inr (by kernel_rfl)⟩
theorem tabOk411 : TIok Tryz.prog 411 ⟨1, .slice 4 1 false, [.slice none 0 0]⟩ := ⟨by kernel_rfl, by kernel_rfl, .inr (by kernel_rfl)⟩
theorem tabOk412 : TIok Tryz.prog 412 ⟨1, .other, [.nilFunc]⟩ := ⟨by kernel_rfl, by kernel_rfl, .inr (by kernel_rfl)⟩
theorem tabOk413 : TIok Tryz.prog 413 ⟨1, .other, [.nilFunc]⟩ := ⟨by kernel_rfl, by kernel_rfl, .inr (by kernel_rfl)⟩
theorem tabOk414 : TIok Tryz.prog 414 ⟨1, .other, [.nilFunc]⟩ := ⟨by kernel_rfl, by kernel_rfl, .inr (by kernel_rfl)⟩
theorem tabOk415 : TIok Tryz.prog 415 ⟨1, .other, [.nilFunc]⟩ := ⟨by kernel_rfl, by kernel_rfl, .inr (by kernel_rfl)⟩
theorem tabOk416 : TIok Tryz.prog 416 ⟨1, .other, [.nilFunc]⟩ := ⟨by kernel_rfl, by kernel_rfl, .inr (by kernel_rfl)⟩
theorem tabOk418 : TIok Tryz.prog 418 ⟨1, .other, [.nilFunc]⟩ := ⟨by kernel_rfl, by kernel_rfl, .inr (by kernel_rfl)⟩
theorem tabOk419 : TIok Tryz.prog 419 ⟨1, .other, [.nilFunc]⟩ := ⟨by kernel_rfl, by kernel_rfl, .inr (by kernel_rfl)⟩
theorem tabOk420 : TIok Tryz.prog 420 ⟨1, .other, [.nilFunc]⟩ := ⟨by kernel_rfl, by kernel_rfl, .inr (by kernel_rfl)⟩
theorem tabOk421 : TIok Tryz.prog 421 ⟨1, .other, [.map none]⟩ := ⟨by kernel_rfl, by kernel_rfl, .inr (by kernel_rfl)⟩
theorem tabOk422 : TIok Tryz.prog 422 ⟨1, .other, [.nilFunc]⟩ := ⟨by kernel_rfl, by kernel_rfl, .inr (by kernel_rfl)⟩
theorem tabOk423 : TIok Tryz.prog 423 ⟨2, .struct [(0, 1, false), (1, 1, false)], [.int .i64 0, .int .i64 0]⟩ := ⟨by kernel_rfl, by kernel_rfl, .inr (by kernel_rfl)⟩
theorem tabOk424 : TIok Tryz.prog 424 ⟨2, .struct [(0, 1, false), (1, 1, false)], [.int .i64 0, .int .i64 0]⟩ := ⟨by kernel_rfl, by kernel_rfl, .inr (by kernel_rfl)⟩
theorem tabOk425 : TIok Tryz.prog 425 ⟨1, .other, [.nilFunc]⟩ := ⟨by kernel_rfl, by kernel_rfl, .inr (by kernel_rfl)⟩
theorem tabOk426 : TIok Tryz.prog 426 ⟨1, .other, [.nilFunc]⟩ := ⟨by kernel_rfl, by kernel_rfl, .inr (by kernel_rfl)⟩
theorem tabOk427 : TIok Tryz.prog 427 ⟨24, .arr 24 5 1 false, []⟩ := ⟨by kernel_rfl, by kernel_rfl, .inl rfl⟩
theorem tabOk428 : TIok Tryz.prog 428 ⟨1, .other, [.nilFunc]⟩ := ⟨by kernel_rfl, by kernel_rfl, .inr (by kernel_rfl)⟩
theorem tabOk429 : TIok Tryz.prog 429 ⟨1, .other, [.nilFunc]⟩ := ⟨by kernel_rfl, by kernel_rfl, .inr (by kernel_rfl)⟩
theorem tabOk431 : TIok Tryz.prog 431 ⟨1, .other, [.nilFunc]⟩ := ⟨by kernel_rfl, by kernel_rfl, .inr (by kernel_rfl)⟩
theorem tabOk432 : TIok Tryz.prog 432 ⟨256, .arr 256 5 1 false, []⟩ := ⟨by kernel_rfl, by kernel_rfl, .inl rfl⟩
theorem tabOk433 : TIok Tryz.prog 433 ⟨2, .struct [(0, 1, false), (1, 1, false)], [.int .u8 0, .int .u8 0]⟩ := ⟨by kernel_rfl, by kernel_rfl, .inr (by kernel_rfl)⟩
theorem tabOk434 : TIok Tryz.prog 434 ⟨2, .struct [(0, 1, false), (1, 1, false)], [.int .u8 0, .int .u8 0]⟩ := ⟨by kernel_rfl, by kernel_rfl, .inr (by kernel_rfl)⟩
theorem tabOk435 : TIok Tryz.prog 435 ⟨32, .arr 16 434 2 true, []⟩ := ⟨by kernel_rfl, by kernel_rfl, .inl rfl⟩
theorem tabOk436 : TIok Tryz.prog 436 ⟨1, .other, [.nilFunc]⟩ := ⟨by kernel_rfl, by kernel_rfl, .inr (by kernel_rfl)⟩
theorem tabOk437 : TIok Tryz.prog 437 ⟨1, .other, [.nilFunc]⟩ := ⟨by kernel_rfl, by kernel_rfl, .inr (by kernel_rfl)⟩
theorem tabOk438 : TIok Tryz.prog 438 ⟨1, .ptr, [.pointer none]⟩ := ⟨by kernel_rfl, by kernel_rfl, .inr (by kernel_rfl)⟩
theorem tabOk439 : TIok Tryz.prog 439 ⟨1, .struct [(0, 1, false)], [.string ByteArray.empty]⟩ := ⟨by kernel_rfl, by kernel_rfl, .inr (by kernel_rfl)⟩
theorem tabOk440 : TIok Tryz.prog 440 ⟨1, .struct [(0, 1, false)], [.string ByteArray.empty]⟩ := ⟨by kernel_rfl, by kernel_rfl, .inr (by kernel_rfl)⟩
theorem tabOk441 : TIok Tryz.prog 441 ⟨1, .other, [.nilFunc]⟩ := ⟨by kernel_rfl, by kernel_rfl, .inr (by kernel_rfl)⟩
theorem tabOk442 : TIok Tryz.prog 442 ⟨1, .other, [.nilFunc]⟩ := ⟨by kernel_rfl, by kernel_rfl, .inr (by kernel_rfl)⟩
theorem tabOk443 : TIok Tryz.prog 443 ⟨1, .other, [.map none]⟩ := ⟨by kernel_rfl, by kernel_rfl, .inr (by kernel_rfl)⟩
theorem tabOk444 : TIok Tryz.prog 444 ⟨1, .other, [.nilFunc]⟩ := ⟨by kernel_rfl, by kernel_rfl, .inr (by kernel_rfl)⟩
theorem tabOk445 : TIok Tryz.prog 445 ⟨1, .other, [.nilFunc]⟩ := ⟨by kernel_rfl, by kernel_rfl, .inr (by kernel_rfl)⟩
theorem tabOk446 : TIok Tryz.prog 446 ⟨20, .arr 20 216 1 false, []⟩ := ⟨by kernel_rfl, by kernel_rfl, .inl rfl⟩
theorem tabOk447 : TIok Tryz.prog 447 ⟨65, .arr 65 5 1 false, []⟩ := ⟨by kernel_rfl, by kernel_rfl, .inl rfl⟩
theorem tabOk448 : TIok Tryz.prog 448 ⟨1, .other, [.nilFunc]⟩ := ⟨by kernel_rfl, by kernel_rfl, .inr (by kernel_rfl)⟩
theorem tabOk449 : TIok Tryz.prog 449 ⟨1, .other, [.nilFunc]⟩ := ⟨by kernel_rfl, by kernel_rfl, .inr (by kernel_rfl)⟩
theorem tabOk450 : TIok Tryz.prog 450 ⟨32, .arr 32 5 1 false, []⟩ := ⟨by kernel_rfl, by kernel_rfl, .inl rfl⟩
theorem tabOk458 : TIok Tryz.prog 458 ⟨1, .other, [.nilFunc]⟩ := ⟨by kernel_rfl, by kernel_rfl, .inr (by kernel_rfl)⟩
theorem tabOk463 : TIok Tryz.prog 463 ⟨1, .other, [.nilFunc]⟩ := ⟨by kernel_rfl, by kernel_rfl, .inr (by kernel_rfl)⟩
theorem tabOk467 : TIok Tryz.prog 467 ⟨1, .other, [.nilFunc]⟩ := ⟨by kernel_rfl, by kernel_rfl, .inr (by kernel_rfl)⟩
theorem tabOk468 : TIok Tryz.prog 468 ⟨1, .other, [.nilFunc]⟩ := ⟨by kernel_rfl, by kernel_rfl, .inr (by kernel_rfl)⟩
theorem tabOk469 : TIok Tryz.prog 469 ⟨1, .other, [.nilFunc]⟩ := ⟨by kernel_rfl, by kernel_rfl, .inr (by kernel_rfl)⟩
theorem tabOk470 : TIok Tryz.prog 470 ⟨1, .other, [.nilFunc]⟩ := ⟨by kernel_rfl, by kernel_rfl, .inr (by kernel_rfl)⟩
theorem tabOk471 : TIok Tryz.prog 471 ⟨1, .other, [.nilFunc]⟩ := ⟨by kernel_rfl, by kernel_rfl, .inr (by kernel_rfl)⟩
theorem tabOk472 : TIok Tryz.prog 472 ⟨1, .other, [.int .u16 0]⟩ := ⟨by kernel_rfl, by kernel_rfl, .inr (by kernel_rfl)⟩
theorem tabOk473 : TIok Tryz.prog 473 ⟨1, .slice 472 1 false, [.slice none 0 0]⟩ := ⟨by kernel_rfl, by kernel_rfl, .inr (by kernel_rfl)⟩
theorem tabOk474 : TIok Tryz.prog 474 ⟨1, .other, [.nilFunc]⟩ := ⟨by kernel_rfl, by kernel_rfl, .inr (by kernel_rfl)⟩
theorem tabOk475 : TIok Tryz.prog 475 ⟨1, .slice 219 1 false, [.slice none 0 0]⟩ := ⟨by kernel_rfl, by kernel_rfl, .inr (by kernel_rfl)⟩
theorem tabOk476 : TIok Tryz.prog 476 ⟨1, .other, [.nilFunc]⟩ := ⟨by kernel_rfl, by kernel_rfl, .inr (by kernel_rfl)⟩
theorem tabOk485 : TIok Tryz.prog 485 ⟨1, .ptr, [.pointer none]⟩ := ⟨by kernel_rfl, by kernel_rfl, .inr (by kernel_rfl)⟩
set_option maxRecDepth 100000 in
theorem tabOk : TabOk Tryz.prog tab :=
 TabOk.of_all (⟨tabOk1, ⟨tabOk2, ⟨tabOk3, ⟨tabOk4, ⟨tabOk5, ⟨tabOk9, ⟨tabOk12, ⟨tabOk13, ⟨tabOk20, ⟨tabOk21, ⟨tabOk22, ⟨tabOk23, ⟨tabOk24, ⟨tabOk25, ⟨tabOk27, ⟨tabOk28, ⟨tabOk29, ⟨tabOk30, ⟨tabOk32, ⟨tabOk33, ⟨tabOk34, ⟨tabOk36, ⟨tabOk37, ⟨tabOk38, ⟨tabOk39, ⟨tabOk40, ⟨tabOk41, ⟨tabOk43, ⟨tabOk44, ⟨tabOk45, ⟨tabOk46, ⟨tabOk47, ⟨tabOk48, ⟨tabOk49, ⟨tabOk50, ⟨tabOk51, ⟨tabOk52, ⟨tabOk53, ⟨tabOk54, ⟨tabOk55, ⟨tabOk56, ⟨tabOk57, ⟨tabOk58, ⟨tabOk60, ⟨tabOk61, ⟨tabOk63, ⟨tabOk64, ⟨tabOk65, ⟨tabOk66, ⟨tabOk67, ⟨tabOk69, ⟨tabOk70, ⟨tabOk71, ⟨tabOk72, ⟨tabOk73, ⟨tabOk74, ⟨tabOk75, ⟨tabOk76, ⟨tabOk77, ⟨tabOk78, ⟨tabOk79, ⟨tabOk80, ⟨tabOk81, ⟨tabOk82, ⟨tabOk83, ⟨tabOk84, ⟨tabOk85, ⟨tabOk87, ⟨tabOk88, ⟨tabOk89, ⟨tabOk90, ⟨tabOk92, ⟨tabOk93, ⟨tabOk94, ⟨tabOk95, ⟨tabOk96, ⟨tabOk97, ⟨tabOk98, ⟨tabOk100, ⟨tabOk102, ⟨tabOk103, ⟨tabOk105, ⟨tabOk106, ⟨tabOk107, ⟨tabOk108, ⟨tabOk109, ⟨tabOk110, ⟨tabOk111, ⟨tabOk113, ⟨tabOk114, ⟨tabOk115, ⟨tabOk116, ⟨tabOk118, ⟨tabOk119, ⟨tabOk120, ⟨tabOk121, ⟨tabOk122, ⟨tabOk123, ⟨tabOk124, ⟨tabOk125, ⟨tabOk126, ⟨tabOk127, ⟨tabOk128, ⟨tabOk129, ⟨tabOk130, ⟨tabOk131, ⟨tabOk132, ⟨tabOk133, ⟨tabOk134, ⟨tabOk135, ⟨tabOk136, ⟨tabOk137, ⟨tabOk138, ⟨tabOk139, ⟨tabOk141, ⟨tabOk142, ⟨tabOk143, ⟨tabOk144, ⟨tabOk145, ⟨tabOk146, ⟨tabOk147, ⟨tabOk148, ⟨tabOk149, ⟨tabOk151, ⟨tabOk152, ⟨tabOk153, ⟨tabOk154, ⟨tabOk155, ⟨tabOk156, ⟨tabOk157, ⟨tabOk158, ⟨tabOk159, ⟨tabOk160, ⟨tabOk161, ⟨tabOk162, ⟨tabOk163, ⟨tabOk164, ⟨tabOk165, ⟨tabOk167, ⟨tabOk168, ⟨tabOk169, ⟨tabOk171, ⟨tabOk172, ⟨tabOk173, ⟨tabOk174, ⟨tabOk175, ⟨tabOk176, ⟨tabOk178, ⟨tabOk179, ⟨tabOk181, ⟨tabOk182, ⟨tabOk183, ⟨tabOk184, ⟨tabOk186, ⟨tabOk187, ⟨tabOk188, ⟨tabOk189, ⟨tabOk190, ⟨tabOk191, ⟨tabOk192, ⟨tabOk193, ⟨tabOk194, ⟨tabOk195, ⟨tabOk196, ⟨tabOk197, ⟨tabOk198, ⟨tabOk199, ⟨tabOk200, ⟨tabOk202, ⟨tabOk203, ⟨tabOk204, ⟨tabOk205, ⟨tabOk206, ⟨tabOk207, ⟨tabOk208, ⟨tabOk209, ⟨tabOk216, ⟨tabOk219, ⟨tabOk222, ⟨tabOk223, ⟨tabOk224, ⟨tabOk228, ⟨tabOk231, ⟨tabOk233, ⟨tabOk237, ⟨tabOk238, ⟨tabOk240, ⟨tabOk241, ⟨tabOk242, ⟨tabOk243, ⟨tabOk246, ⟨tabOk247, ⟨tabOk248, ⟨tabOk249, ⟨tabOk250, ⟨tabOk251, ⟨tabOk252, ⟨tabOk253, ⟨tabOk254, ⟨tabOk256, ⟨tabOk257, ⟨tabOk259, ⟨tabOk260, ⟨tabOk262, ⟨tabOk263, ⟨tabOk264, ⟨tabOk265, ⟨tabOk266, ⟨tabOk267, ⟨tabOk268, ⟨tabOk270, ⟨tabOk271, ⟨tabOk272, ⟨tabOk273, ⟨tabOk274, ⟨tabOk275, ⟨tabOk276, ⟨tabOk277, ⟨tabOk278, ⟨tabOk279, ⟨tabOk280, ⟨tabOk282, ⟨tabOk283, ⟨tabOk284, ⟨tabOk285, ⟨tabOk286, ⟨tabOk287, ⟨tabOk288, ⟨tabOk289, ⟨tabOk290, ⟨tabOk291, ⟨tabOk292, ⟨tabOk293, ⟨tabOk294, ⟨tabOk296, ⟨tabOk297, ⟨tabOk298, ⟨tabOk299, ⟨tabOk300, ⟨tabOk301, ⟨tabOk302, ⟨tabOk303, ⟨tabOk304, ⟨tabOk305, ⟨tabOk306, ⟨tabOk307, ⟨tabOk308, ⟨tabOk309, ⟨tabOk310, ⟨tabOk311, ⟨tabOk312, ⟨tabOk313, ⟨tabOk319, ⟨tabOk321, ⟨tabOk322, ⟨tabOk323, ⟨tabOk324, ⟨tabOk325, ⟨tabOk326, ⟨tabOk327, ⟨tabOk328, ⟨tabOk329, ⟨tabOk330, ⟨tabOk331, ⟨tabOk332, ⟨tabOk333, ⟨tabOk334, ⟨tabOk335, ⟨tabOk336, ⟨tabOk337, ⟨tabOk338, ⟨tabOk339, ⟨tabOk340, ⟨tabOk341, ⟨tabOk342, ⟨tabOk344, ⟨tabOk345, ⟨tabOk347, ⟨tabOk348, ⟨tabOk349, ⟨tabOk350, ⟨tabOk351, ⟨tabOk352, ⟨tabOk353, ⟨tabOk354, ⟨tabOk355, ⟨tabOk357, ⟨tabOk359, ⟨tabOk360, ⟨tabOk361, ⟨tabOk363, ⟨tabOk364, ⟨tabOk365, ⟨tabOk366, ⟨tabOk367, ⟨tabOk368, ⟨tabOk369, ⟨tabOk370, ⟨tabOk371, ⟨tabOk372, ⟨tabOk373, ⟨tabOk374, ⟨tabOk375, ⟨tabOk376, ⟨tabOk377, ⟨tabOk378, ⟨tabOk379, ⟨tabOk380, ⟨tabOk381, ⟨tabOk382, ⟨tabOk384, ⟨tabOk385, ⟨tabOk386, ⟨tabOk387, ⟨tabOk388, ⟨tabOk389, ⟨tabOk390, ⟨tabOk392, ⟨tabOk393, ⟨tabOk394, ⟨tabOk395, ⟨tabOk397, ⟨tabOk398, ⟨tabOk399, ⟨tabOk400, ⟨tabOk401, ⟨tabOk402, ⟨tabOk404, ⟨tabOk405, ⟨tabOk406, ⟨tabOk407, ⟨tabOk408, ⟨tabOk409, ⟨tabOk410, ⟨tabOk411, ⟨tabOk412, ⟨tabOk413, ⟨tabOk414, ⟨tabOk415, ⟨tabOk416, ⟨tabOk418, ⟨tabOk419, ⟨tabOk420, ⟨tabOk421, ⟨tabOk422, ⟨tabOk423, ⟨tabOk424, ⟨tabOk425, ⟨tabOk426, ⟨tabOk427, ⟨tabOk428, ⟨tabOk429, ⟨tabOk431, ⟨tabOk432, ⟨tabOk433, ⟨tabOk434, ⟨tabOk435, ⟨tabOk436, ⟨tabOk437, ⟨tabOk438, ⟨tabOk439, ⟨tabOk440, ⟨tabOk441, ⟨tabOk442, ⟨tabOk443, ⟨tabOk444, ⟨tabOk445, ⟨tabOk446, ⟨tabOk447, ⟨tabOk448, ⟨tabOk449, ⟨tabOk450, ⟨tabOk458, ⟨tabOk463, ⟨tabOk467, ⟨tabOk468, ⟨tabOk469, ⟨tabOk470, ⟨tabOk471, ⟨tabOk472, ⟨tabOk473, ⟨tabOk474, ⟨tabOk475, ⟨tabOk476, ⟨tabOk485, trivial⟩⟩⟩⟩⟩⟩⟩⟩⟩⟩⟩⟩⟩⟩⟩⟩⟩⟩⟩⟩⟩⟩⟩⟩⟩⟩⟩⟩⟩⟩⟩⟩⟩⟩⟩⟩⟩⟩⟩⟩⟩⟩⟩⟩⟩⟩⟩⟩⟩⟩⟩⟩⟩⟩⟩⟩⟩⟩⟩⟩⟩⟩⟩⟩⟩⟩⟩⟩⟩⟩⟩⟩⟩⟩⟩⟩⟩⟩⟩⟩⟩⟩⟩⟩⟩⟩⟩⟩⟩⟩⟩⟩⟩⟩⟩⟩⟩⟩⟩⟩⟩⟩⟩⟩⟩⟩⟩⟩⟩⟩⟩⟩⟩⟩⟩⟩⟩⟩⟩⟩⟩⟩⟩⟩⟩⟩⟩⟩⟩⟩⟩⟩⟩⟩⟩⟩⟩⟩⟩⟩⟩⟩⟩⟩⟩⟩⟩⟩⟩⟩⟩⟩⟩⟩⟩⟩⟩⟩⟩⟩⟩⟩⟩⟩⟩⟩⟩⟩⟩⟩⟩⟩⟩⟩⟩⟩⟩⟩⟩⟩⟩⟩⟩⟩⟩⟩⟩⟩⟩⟩⟩⟩⟩⟩⟩⟩⟩⟩⟩⟩⟩⟩⟩⟩⟩⟩⟩⟩⟩⟩⟩⟩⟩⟩⟩⟩⟩⟩⟩⟩⟩⟩⟩⟩⟩⟩⟩⟩⟩⟩⟩⟩⟩⟩⟩⟩⟩⟩⟩⟩⟩⟩⟩⟩⟩⟩⟩⟩⟩⟩⟩⟩⟩⟩⟩⟩⟩⟩⟩⟩⟩⟩⟩⟩⟩⟩⟩⟩⟩⟩⟩⟩⟩⟩⟩⟩⟩⟩⟩⟩⟩⟩⟩⟩⟩⟩⟩⟩⟩⟩⟩⟩⟩⟩⟩⟩⟩⟩⟩⟩⟩⟩⟩⟩⟩⟩⟩⟩⟩⟩⟩⟩⟩⟩⟩⟩⟩⟩⟩⟩⟩⟩⟩⟩⟩⟩⟩⟩⟩⟩⟩⟩⟩⟩⟩⟩⟩⟩⟩⟩⟩⟩⟩⟩⟩⟩⟩⟩⟩⟩⟩⟩⟩⟩⟩⟩⟩⟩⟩⟩⟩⟩⟩⟩⟩⟩⟩⟩⟩⟩⟩⟩⟩⟩⟩⟩⟩⟩⟩⟩⟩⟩⟩⟩⟩)
theorem mixed : Tryz.prog.follows .mixedOrders = true := by kernel_rfl
end Go.Proofs.YtogjajjdaoihdaaGreatDoor

namespace Go.Proofs.YtogjajjdaoihdaaGreatDoor
set_option maxRecDepth 20000
open Go Ev

abbrev encI (x : Int) : List Value := [.int .i64 x]
theorem Ev.St.fresh {w0 w : World} {H : List Ent} (h : St w0 No w H) (i : Nat) {b : Nat} {t : TypeId} {cs : List Value} (hi : H[i]? = some (Ev.blk b t cs)) : w0.heap.size ≤ b := by
 rcases (h.may _ (List.mem_of_getElem? hi) b (by simp [Ev.blk])).1 with h | h
 · exact h.elim
 · exact h
def errV (E : Nat → Addr) : Nat → Value
 | 0 => .nilIface
 | k + 1 => .iface 438 (.pointer (some (E (k + 1))))

def gErr : Nat → Nat
 | 1 => 1
 | 2 => 0
 | 3 => 2
 | 4 => 3
 | 5 => 4
 | 6 => 5
 | 7 => 6
 | 8 => 7
 | 9 => 8
 | 10 => 9
 | _ => 10

def errRow {H : Type} : Nat → String × DataW H
 | 1 => ("twinrampart/api.ErrText", .iface "*errors.errorString" (.ptr (.agg [.lit (.string [116, 119, 105, 110, 114, 97, 109, 112, 97, 114, 116, 58, 32, 116, 101, 120, 116])])))
 | 2 => ("twinrampart/api.ErrBound", .iface "*errors.errorString" (.ptr (.agg [.lit (.string [116, 119, 105, 110, 114, 97, 109, 112, 97, 114, 116, 58, 32, 98, 111, 117, 110, 100])])))
 | 3 => ("twinrampart/api.ErrShape", .iface "*errors.errorString" (.ptr (.agg [.lit (.string [116, 119, 105, 110, 114, 97, 109, 112, 97, 114, 116, 58, 32, 115, 104, 97, 112, 101])])))
 | 4 => ("twinrampart/api.ErrNone", .iface "*errors.errorString" (.ptr (.agg [.lit (.string [116, 119, 105, 110, 114, 97, 109, 112, 97, 114, 116, 58, 32, 110, 111, 110, 101])])))
 | 5 => ("twinrampart/api.ErrExist", .iface "*errors.errorString" (.ptr (.agg [.lit (.string [116, 119, 105, 110, 114, 97, 109, 112, 97, 114, 116, 58, 32, 101, 120, 105, 115, 116])])))
 | 6 => ("twinrampart/api.ErrFull", .iface "*errors.errorString" (.ptr (.agg [.lit (.string [116, 119, 105, 110, 114, 97, 109, 112, 97, 114, 116, 58, 32, 102, 117, 108, 108])])))
 | 7 => ("twinrampart/api.ErrOff", .iface "*errors.errorString" (.ptr (.agg [.lit (.string [116, 119, 105, 110, 114, 97, 109, 112, 97, 114, 116, 58, 32, 111, 102, 102])])))
 | 8 => ("twinrampart/api.ErrDeny", .iface "*errors.errorString" (.ptr (.agg [.lit (.string [116, 119, 105, 110, 114, 97, 109, 112, 97, 114, 116, 58, 32, 100, 101, 110, 121])])))
 | 9 => ("twinrampart/api.ErrState", .iface "*errors.errorString" (.ptr (.agg [.lit (.string [116, 119, 105, 110, 114, 97, 109, 112, 97, 114, 116, 58, 32, 115, 116, 97, 116, 101])])))
 | 10 => ("twinrampart/api.ErrOld", .iface "*errors.errorString" (.ptr (.agg [.lit (.string [116, 119, 105, 110, 114, 97, 109, 112, 97, 114, 116, 58, 32, 111, 108, 100])])))
 | _ => ("twinrampart/api.ErrHeld", .iface "*errors.errorString" (.ptr (.agg [.lit (.string [116, 119, 105, 110, 114, 97, 109, 112, 97, 114, 116, 58, 32, 104, 101, 108, 100])])))

theorem errRow_named (k : Nat) : Tryz.prog.globalNamed (errRow (H := Unit) k).1 = some (gErr k) ∧ (Tryz.prog.globals[gErr k]?).map (·.type) = some 25 := by
 unfold errRow gErr
 split <;> exact ⟨by kernel_rfl, by kernel_rfl⟩

theorem errRow_form (k : Nat) : ∃ n text, errRow (H := Unit) k = (n, .iface "*errors.errorString" (.ptr (.agg [.lit (.string text)]))) := by
 unfold errRow
 split <;> exact ⟨_, _, rfl⟩

theorem errStar : "*" ++ "errors.errorString" = "*errors.errorString" := by decide
theorem errStr_only (u : TypeId) (h : Tryz.prog.typeName? 3 u = some "*errors.errorString") : u = 438 :=
 typeName_ptr_named (nm := "errors.errorString") (by rw [errStar]; kernel_rfl) (by kernel_rfl) (by decide) u (by rw [errStar]; exact h)

structure Errs (w : World) (E : Nat → Addr) (n : Nat) (ks : List Nat) : Prop where
 at_ : ∀ k, ks.contains k = true → w.cell? ⟨gErr k, 0, none⟩ = some (.iface 438 (.pointer (some (E k))))
 lt : ∀ k, ks.contains k = true → gErr k < n
 row : ∀ k, ks.contains k = true → (∃ c t, w.heap[(E k).block]? = some (.cells c t (0, 0))) ∧ (E k).block < n
 inj : ∀ j k, ks.contains j = true → ks.contains k = true → j ≠ k → E j ≠ E k

theorem Errs.ext {w w' : World} {E : Nat → Addr} {n : Nat} {ks : List Nat} {S : Nat → Prop} (h : Errs w E n ks) (hx : Ext S w w') (hS : ∀ b, S b → n ≤ b) : Errs w' E n ks :=
 ⟨fun k hk => hx.cell (h.at_ k hk) (fun hs => by have := hS _ hs; have := h.lt k hk; omega), h.lt, fun k hk => by
   obtain ⟨⟨c, t, hc⟩, hb⟩ := h.row k hk
   refine ⟨⟨c, t, ?_⟩, hb⟩
   rw [hx.block _ (Array.getElem?_eq_some_iff.1 hc).1 (fun hs => by have := hS _ hs; omega)]
   exact hc, h.inj⟩
theorem Errs.sub {w : World} {E : Nat → Addr} {n : Nat} {ks ks' : List Nat} (h : Errs w E n ks) (hs : ks'.all (fun k => ks.contains k) = true) : Errs w E n ks' := by
 have key : ∀ k, ks'.contains k = true → ks.contains k = true := fun k hk => List.all_eq_true.1 hs k (by simpa using hk)
 exact ⟨fun k hk => h.at_ k (key k hk), fun k hk => h.lt k (key k hk), fun k hk => h.row k (key k hk), fun j k hj hk => h.inj j k (key j hj) (key k hk)⟩
theorem Errs.ne {w : World} {E : Nat → Addr} {n : Nat} {ks : List Nat} (h : Errs w E n ks) (k : Nat) (hk : ks.contains k = true) {b : Nat} (hb : n ≤ b) : gErr k ≠ b := by
 have := h.lt k hk
 omega

theorem laidVars_sub {P : Program} {w : World} {l l' : List (String × DataW Unit)} (hs : l'.Sublist l) : ∀ {ps : List MemPlace}, DataW.LaidVars P w l ps → ∃ ps', DataW.LaidVars P w l' ps' ∧ ps'.Sublist ps := by
 induction hs with
 | slnil => exact fun {ps} h => ⟨ps, h, List.Sublist.refl _⟩
 | cons x hs ih =>
   intro ps h
   obtain ⟨n, d⟩ := x
   obtain ⟨g, t, cs, fuel, p, q, e1, e2, e3, e4, hr, rfl⟩ := h
   obtain ⟨q', hq, hs⟩ := ih hr
   exact ⟨q', hq, hs.trans (List.sublist_append_right _ _)⟩
 | cons_cons x hs ih =>
   intro ps h
   obtain ⟨n, d⟩ := x
   obtain ⟨g, t, cs, fuel, p, q, e1, e2, e3, e4, hr, rfl⟩ := h
   obtain ⟨q', hq, hs⟩ := ih hr
   exact ⟨_, ⟨g, t, cs, fuel, p, q', e1, e2, e3, e4, hq, rfl⟩, List.Sublist.append (List.Sublist.refl _) hs⟩
theorem laidMet_sub {P : Program} {w : World} {l l' : List (String × DataW Unit)} (hs : l'.Sublist l) (h : laidMet P l w) : laidMet P l' w := by
 obtain ⟨ps, hl, hnd, hrows⟩ := h
 obtain ⟨ps', hl', hs⟩ := laidVars_sub hs hl
 exact ⟨ps', hl', hnd.sublist hs, fun b off hp => hrows b off (hs.subset hp)⟩
theorem pair_sub {α : Type} {x y : α} (hne : x ≠ y) {l : List α} (hx : x ∈ l) (hy : y ∈ l) : [x, y].Sublist l ∨ [y, x].Sublist l := by
 induction l with
 | nil => cases hx
 | cons z l ih =>
   rcases List.mem_cons.1 hx with h1 | h1
   · rcases List.mem_cons.1 hy with h2 | h2
     · exact absurd (h1.trans h2.symm) hne
     · subst h1
       exact .inl (.cons_cons _ (List.singleton_sublist.2 h2))
   · rcases List.mem_cons.1 hy with h2 | h2
     · subst h2
       exact .inr (.cons_cons _ (List.singleton_sublist.2 h1))
     · rcases ih h1 h2 with h | h
       · exact .inl (.cons _ h)
       · exact .inr (.cons _ h)

theorem gErr_inj (j : Nat) (hj : j < 12) (k : Nat) (hk : k < 12) (j0 : 1 ≤ j) (k0 : 1 ≤ k) (hne : j ≠ k) : gErr j ≠ gErr k := by
 have h : ((List.range 12).all fun j => (List.range 12).all fun k => Nat.ble j 0 || Nat.ble k 0 || Nat.beq j k || !Nat.beq (gErr j) (gErr k)) = true := by rfl
 have h1 := List.all_eq_true.1 (List.all_eq_true.1 h j (List.mem_range.2 hj)) k (List.mem_range.2 hk)
 intro he
 rw [he] at h1
 simp at h1
 omega

theorem sentinel1 {P : Program} {n nm : String} {text : List UInt8} {W : World} {g : Nat} {ti tp te ts : TypeId} {ms : Array (String × TypeId)} {f : Field}
   (h : laidMet P [(n, .iface nm (.ptr (.agg [.lit (.string text)])))] W)
   (hg : P.globalNamed n = some g) (ht : (P.globals[g]?).map (·.type) = some ti) (hi : P.underlying ti = some (.interface ms)) (hrow : ∀ u, P.typeName? 3 u = some nm → u = tp)
   (hp : P.underlying tp = some (.pointer te)) (he : P.underlying te = some (.struct #[f])) (hft : f.type = ts) (hfo : f.offset = 0) (hs : P.underlying ts = some .string) (hc : P.cellsOf te = 1) (hcs : P.cellsOf ts = 1) :
   ∃ (a : Addr), W.cell? ⟨g, 0, none⟩ = some (.iface tp (.pointer (some a))) ∧ (∃ c t, W.heap[a.block]? = some (.cells c t (0, 0))) := by
 obtain ⟨ps, ⟨g0, t0, cs0, f0, p0, q0, hg0, ht0, hv0, hd0, _, e0⟩, _, hrows⟩ := h
 obtain rfl := Option.some.inj (hg.symm.trans hg0)
 obtain rfl := Option.some.inj (ht.symm.trans ht0)
 subst e0
 obtain ⟨l0⟩ := cs0
 have ok0 : ∀ u v, l0 = [.iface u v] → Value.okWide P W .any 0 u v := fun u v e => by
   subst e
   exact (hrows g 0 (by simp [MemPlace.row])).2 u v (by simpa using World.var?_cell hg0 hv0 0)
 obtain ⟨a0, s0, rfl, hc0, hs0, hz0, rfl⟩ := errorString_of_trod hi hrow hp he hft hfo hs hc hcs hd0 ok0
 refine ⟨a0, by simpa using World.var?_cell hg0 hv0 0, ?_⟩
 obtain ⟨c, t, hb⟩ := (hrows a0.block a0.off (by simp [MemPlace.row])).1
 exact ⟨c, t, hb⟩

theorem errs_of {L : List (String × DataW Unit)} {W : World} (ks : List Nat) (hks : ks.all (fun k => decide (1 ≤ k ∧ k < 12)) = true) (hl : laidMetH Tryz.prog L W) (hm : ∀ k ∈ ks, errRow k ∈ L) : ∃ E, Errs W E W.heap.size ks := by
 have h1 := (laidMetH_iff.1 hl).1
 have hin : ∀ k, k ∈ ks → errRow (H := Unit) k ∈ L.filter fun x => x.2.handleName?.isNone := fun k hk => by
   obtain ⟨n, text, hf⟩ := errRow_form k
   refine List.mem_filter.2 ⟨hm k hk, ?_⟩
   rw [hf]
   rfl
 have key : ∀ k, ∃ a : Addr, k ∈ ks → W.cell? ⟨gErr k, 0, none⟩ = some (.iface 438 (.pointer (some a))) ∧ (∃ c t, W.heap[a.block]? = some (.cells c t (0, 0))) := by
   intro k
   by_cases hk : k ∈ ks
   · have hk2 := hin k hk
     obtain ⟨hg, ht⟩ := errRow_named k
     obtain ⟨n, text, hf⟩ := errRow_form k
     rw [hf] at hk2 hg
     have h2 := laidMet_sub (List.singleton_sublist.2 hk2) h1
     obtain ⟨a, h3, h4⟩ := sentinel1 (P := Tryz.prog) h2 hg ht Tryz.underlying25 errStr_only Tryz.underlying438 Tryz.underlying440 rfl rfl Tryz.underlying9 (by kernel_rfl) (by kernel_rfl)
     exact ⟨a, fun _ => ⟨h3, h4⟩⟩
   · exact ⟨⟨0, 0, none⟩, fun h => absurd h hk⟩
 have spec : ∀ k, ks.contains k = true → _ := fun k hk => (key k).choose_spec (by simpa using hk)
 refine ⟨fun k => (key k).choose, fun k hk => (spec k hk).1, fun k hk => ?_, fun k hk => ?_, fun j k hj hk hne => ?_⟩
 · exact cell_lt (spec k hk).1
 · obtain ⟨_, c, t, hc⟩ := spec k hk
   exact ⟨⟨c, t, hc⟩, (Array.getElem?_eq_some_iff.1 hc).1⟩
 · have bj := of_decide_eq_true (List.all_eq_true.1 hks j (by simpa using hj))
   have bk := of_decide_eq_true (List.all_eq_true.1 hks k (by simpa using hk))
   have gne := gErr_inj j bj.2 k bk.2 bj.1 bk.1 hne
   have two : ∀ j k, ks.contains j = true → ks.contains k = true → [errRow (H := Unit) j, errRow k].Sublist (L.filter fun x => x.2.handleName?.isNone) → (key j).choose ≠ (key k).choose := by
     intro j k hj hk hsub
     have h2 := laidMet_sub hsub h1
     obtain ⟨hgj, htj⟩ := errRow_named j
     obtain ⟨hgk, htk⟩ := errRow_named k
     obtain ⟨nj, textj, hfj⟩ := errRow_form j
     obtain ⟨nk, textk, hfk⟩ := errRow_form k
     rw [hfj] at hgj
     rw [hfk] at hgk
     rw [hfj, hfk] at h2
     obtain ⟨a0, a1, _, _, _, _, _, _, v0, v1, _, _, _, _, _, _, hne2, _⟩ := laid_sentinels2 (P := Tryz.prog) h2 hgj htj hgk htk Tryz.underlying25 errStr_only Tryz.underlying438 Tryz.underlying440 rfl rfl Tryz.underlying9 (by kernel_rfl) (by kernel_rfl)
     have c0 : W.cell? ⟨gErr j, 0, none⟩ = some (.iface 438 (.pointer (some a0))) := by simpa using World.var?_cell hgj v0 0
     have c1 : W.cell? ⟨gErr k, 0, none⟩ = some (.iface 438 (.pointer (some a1))) := by simpa using World.var?_cell hgk v1 0
     have d0 := (spec j hj).1
     have d1 := (spec k hk).1
     have d0 := c0.symm.trans d0
     have d1 := c1.symm.trans d1
     simp only [Option.some.injEq, Value.iface.injEq, Value.pointer.injEq, true_and] at d0 d1
     intro he
     exact hne2 (d0.trans (he.trans d1.symm))
   have hrne : errRow (H := Unit) j ≠ errRow k := by
     intro he
     have a := (errRow_named j).1
     rw [he, (errRow_named k).1] at a
     exact gne (Option.some.inj a).symm
   rcases pair_sub hrne (hin j (by simpa using hj)) (hin k (by simpa using hk)) with h | h
   · exact two j k hj hk h
   · exact (two k j hk hj h).symm
end Go.Proofs.YtogjajjdaoihdaaGreatDoor

namespace Go.Proofs.YtogjajjdaoihdaaGreatDoor
set_option maxRecDepth 20000
open Go Ev

structure FlowS where
 proto : Int
 ia : Int
 ip : Int
 fa : Int
 fp : Int
 port : Int
 state : Int
 til : Int
 deriving DecidableEq
structure CellS where
 slot : Int
 ver : Int
 f : FlowS
 deriving DecidableEq

def encFlow (f : FlowS) : List Value := [.int .i64 f.proto, .int .i64 f.ia, .int .i64 f.ip, .int .i64 f.fa, .int .i64 f.fp, .int .i64 f.port, .int .i64 f.state, .int .i64 f.til]
def encCell (c : CellS) : List Value := [.int .i64 c.slot, .int .i64 c.ver, .int .i64 c.f.proto, .int .i64 c.f.ia, .int .i64 c.f.ip, .int .i64 c.f.fa, .int .i64 c.f.fp, .int .i64 c.f.port, .int .i64 c.f.state, .int .i64 c.f.til]
def FlowS.pr (f : FlowS) : List Pr := [.int f.proto, .int f.ia, .int f.ip, .int f.fa, .int f.fp, .int f.port, .int f.state, .int f.til]
def CellS.pr (c : CellS) : List Pr := [.int c.slot, .int c.ver, .int c.f.proto, .int c.f.ia, .int c.f.ip, .int c.f.fa, .int c.f.fp, .int c.f.port, .int c.f.state, .int c.f.til]
def endPr (a p : Int) : List Pr := [.int a, .int p]
def noFlow : FlowS := ⟨0, 0, 0, 0, 0, 0, 0, 0⟩

theorem codCell : Codec 10 encCell := ⟨fun _ => rfl, fun _ => rfl, by decide⟩
theorem codFlow : Codec 8 encFlow := ⟨fun _ => rfl, fun _ => rfl, by decide⟩
def idxI {α : Type} (p : α → Bool) : List α → Nat → Int
 | [], _ => -1
 | x :: xs, k => match p x with | true => (k : Int) | false => idxI p xs (k + 1)
theorem idxI_step {α : Type} (p : α → Bool) {xs : List α} {k : Nat} {x : α} (hx : xs[k]? = some x) : idxI p (xs.drop k) k = match p x with | true => (k : Int) | false => idxI p (xs.drop (k + 1)) (k + 1) := by
 obtain ⟨hlt, rfl⟩ := List.getElem?_eq_some_iff.1 hx
 rw [List.drop_eq_getElem_cons hlt]
 rfl
theorem idxI_nonneg {α : Type} (p : α → Bool) : ∀ (xs : List α) (k : Nat), (0 ≤ idxI p xs k) = (xs.any p = true)
 | [], k => by simp [idxI]
 | x :: xs, k => by
   unfold idxI
   cases h : p x
   · simp [h, idxI_nonneg p xs (k + 1)]
   · simp [h]

section
variable {w : World} {G : CellS → Prop} {a b : Option Addr} {n m c d : Nat} {xs ys : List CellS}

theorem indexFunc_ok (p : CellS → Bool) (g : FuncId) (caps : List Value) (hx : Slc w 10 encCell G a n xs)
   (hg : ∀ x ∈ xs, G x → ∀ w', Ext No w w' → CallC Tryz.prog g ([Value.agg (encCell x).toArray] ++ caps).toArray w' fun v w'' => v = .bool (p x) ∧ Ext No w' w'') :
   CallC Tryz.prog 324 #[.slice a n c, .func (.func g) #[] caps.toArray] w fun v w' => v = .int .i64 (idxI p xs 0) ∧ Ext No w w' := by
 have hm := hx.max
 have hl := hx.len
 refine fn_intro tabOk Tryz.func324 (by kernel_rfl) rfl Tryz.ntmps324 (lbO rfl) ?_
 have hS := St.start w No
 conv=>whnf
 refine loopR tabOk (fun σ w' q => ∃ k : Nat, σ = [(8, .int .i64 k), (7, .int .i64 n), (1, .func (.func g) #[] caps.toArray), (0, .slice a n c)] ∧ q = n - k ∧ k ≤ n ∧ St w No w' [] ∧ idxI p xs 0 = idxI p (xs.drop k) k)
   (σ' := [(8, .int .i64 ((0 : Nat) : Int)), (7, .int .i64 n), (1, .func (.func g) #[] caps.toArray), (0, .slice a n c)]) (n := n) ⟨rfl, rfl, rfl, rfl, trivial⟩ ⟨0, rfl, rfl, Nat.zero_le _, hS, by simp⟩ ?_
 clear hS
 rintro _ w1 q ⟨k, rfl, rfl, hk, hS, hi⟩
 conv=>whnf
 refine brD (fun h3 => ?_) (fun h3 => ?_)
 · obtain ⟨b0, o0, x, hxk, hgx, rfl, _, hc⟩ := hx.at (k := k) (by omega)
   have hst := idxI_step p hxk
   conv=>whnf
   refine ixO ?_
   conv=>whnf
   refine hS.lar (l := encCell x) rfl hc id ?_
   have key := hg x (List.mem_of_getElem? hxk) hgx w1 hS.ext
   have fin : ∀ (K : Value → World → Prop), (∀ w', Ext No w1 w' → K (.bool (p x)) w') → CallC Tryz.prog g ([Value.agg (encCell x).toArray] ++ caps).toArray w1 K := by
     intro K hK
     refine key.mono ?_
     rintro v w' ⟨rfl, hx'⟩
     exact hK w' hx'
   clear key
   cases caps
   all_goals
     conv=>whnf
     refine fin _ ?_
     intro w' hx'
     replace hS := hS.no hx'
     conv=>whnf
     refine brI (fun h4 => ?_) (fun h4 => ?_)
     · repeat' ((conv => whnf); first | refine RetC.mk ?_ | refine NzC.mk (by decide) ?_ | refine rgO ?_ | refine ixO ?_ | refine brD ?_ ?_ <;> (intro) | refine brND ?_ ?_ <;> (intro) | refine brN ?_ ?_ <;> (intro) | refine brI ?_ ?_ <;> (intro))
       rw [hi, hst, h4]
       exact ⟨rfl, hS.ext⟩
     · (conv => whnf)
       refine rgO ?_
       conv=>whnf
       refine LoopE.mk ⟨_, [(8, .int .i64 ((k + 1 : Nat) : Int)), (7, _), (1, _), (0, _)], ?_, ⟨rfl, rfl, rfl, rfl, trivial⟩, ⟨k + 1, rfl, rfl, by omega, hS, ?_⟩⟩
       · omega
       · rw [hi, hst, h4]
 · repeat' ((conv => whnf); first | refine RetC.mk ?_ | refine NzC.mk (by decide) ?_ | refine rgO ?_ | refine ixO ?_ | refine brD ?_ ?_ <;> (intro) | refine brND ?_ ?_ <;> (intro) | refine brN ?_ ?_ <;> (intro) | refine brI ?_ ?_ <;> (intro))
   have : k = n := by omega
   subst this
   rw [hi, List.drop_of_length_le (by omega)]
   exact ⟨rfl, hS.ext⟩

theorem containsFunc_ok (p : CellS → Bool) (g : FuncId) (caps : List Value) (hx : Slc w 10 encCell G a n xs)
   (hg : ∀ x ∈ xs, G x → ∀ w', Ext No w w' → CallC Tryz.prog g ([Value.agg (encCell x).toArray] ++ caps).toArray w' fun v w'' => v = .bool (p x) ∧ Ext No w' w'') :
   CallC Tryz.prog 330 #[.slice a n c, .func (.func g) #[] caps.toArray] w fun v w' => v = .bool (xs.any p) ∧ Ext No w w' := by
 refine fn_intro tabOk Tryz.func330 (by kernel_rfl) rfl Tryz.ntmps330 (lbO rfl) ?_
 conv=>whnf
 refine (indexFunc_ok p g caps hx hg).mono ?_
 rintro v w' ⟨rfl, hx'⟩
 repeat' ((conv => whnf); first | refine RetC.mk ?_ | refine NzC.mk (by decide) ?_ | refine rgO ?_ | refine ixO ?_ | refine brD ?_ ?_ <;> (intro) | refine brND ?_ ?_ <;> (intro) | refine brN ?_ ?_ <;> (intro) | refine brI ?_ ?_ <;> (intro))
 have e : decide (idxI p xs 0 ≥ 0) = xs.any p := by
   show decide (0 ≤ _) = _
   simp only [idxI_nonneg]
   cases xs.any p <;> rfl
 rw [e]
 exact ⟨rfl, hx'⟩

end
theorem Ev.St.ownNe {w0 w : World} {S : Nat → Prop} {H : List Ent} (h : St w0 S w H) (i j : Nat) {α : Type} {b : Nat} {t e : TypeId} {cs : List Value} {sz n c : Nat} {enc : α → List Value} {a : Option Addr} {xs : List α} (hi : H[i]? = some (Ev.blk b t cs)) (hj : H[j]? = some (ownL e sz enc (.slice a n c) xs)) (hne : i ≠ j) : ∀ b0 o0, a = some ⟨b0, o0, none⟩ → b0 ≠ b := by
 rintro b0 o0 rfl rfl
 have := pairwise_at apart_symm h.apart hi hj hne b0 (by simp [Ev.blk])
 simp [ownL, own, Value.ownBlock] at this
end Go.Proofs.YtogjajjdaoihdaaGreatDoor

namespace Go.Proofs.YtogjajjdaoihdaaGreatDoor
set_option maxRecDepth 20000
open Go Ev

structure MirS where
 life : Int
 cells : List CellS
def encM (m : MirS) : List Value := .int .i64 m.life :: m.cells.flatMap encCell
def emptyCells : List CellS := (List.range 32).map fun (i : Nat) => (⟨(i : Int), 0, noFlow⟩ : CellS)
theorem emptyCells_at {s : Nat} (h : s < 32) : emptyCells[s]? = some ⟨s, 0, noFlow⟩ := by simp [emptyCells, h]
theorem emptyCells_len : emptyCells.length = 32 := by simp [emptyCells]
def badSlot (c : CellS) : Bool := decide (c.slot < 0) || decide (c.slot ≥ 32)
def put1C (l : List CellS) (c : CellS) : List CellS := match l[c.slot.toNat]? with
 | some d => if c.ver > d.ver then l.set c.slot.toNat c else l
 | none => l
def MirS.tell (m : MirS) (life : Int) (xs : List CellS) : Nat × MirS :=
 if life < 1 ∨ xs.length > 8 ∨ xs.any badSlot = true then (2, m) else if life < m.life then (10, m) else
 (0, ⟨if life > m.life then life else m.life, xs.foldl put1C (if life > m.life then emptyCells else m.cells)⟩)
def flowsOf (l : List CellS) : List FlowS := (l.filter fun c => decide (c.f.proto ≠ 0)).map (·.f)

theorem put1C_len (l : List CellS) (c : CellS) : (put1C l c).length = l.length := by
 unfold put1C
 split
 · split
   · exact List.length_set
   · rfl
 · rfl
theorem fold_len (xs : List CellS) : ∀ l : List CellS, (xs.foldl put1C l).length = l.length := by
 induction xs with
 | nil => intro l; rfl
 | cons x xs ih => intro l; rw [List.foldl_cons, ih, put1C_len]
theorem MirS.tell_len {m : MirS} (h : m.cells.length = 32) (life : Int) (xs : List CellS) : (m.tell life xs).2.cells.length = 32 := by
 unfold MirS.tell
 repeat' split
 all_goals first | exact h | skip
 all_goals
   simp only [fold_len]
   first | exact h | exact emptyCells_len
theorem encM_len {m : MirS} (h : m.cells.length = 32) : (encM m).length = 321 := by
 unfold encM
 rw [List.length_cons, flat_len codCell, h]

theorem flat_take (xs : List CellS) : (xs.flatMap encCell).take (xs.length * 10) = xs.flatMap encCell := List.take_of_length_le (by rw [flat_len codCell]; exact Nat.le_refl _)

section
variable {w : World} {b : Nat} {m : MirS}
theorem mir_slc (hb : Blk w b 340 (encM m)) (hm : m.cells.length = 32) : Slc w 10 encCell (fun _ => True) (some ⟨b, 1, none⟩) 32 m.cells :=
 Slc.of_blk codCell hb hm (by decide) (fun _ _ => trivial) (by simp only [encM, List.drop_succ_cons, List.drop_zero]; exact flat_take _)

theorem mir_cell {v : Value} {k j o : Nat} {c : CellS} (hc : m.cells[k]? = some c) (hv : (encCell c)[j]? = some v) (ho : o = 1 + (k * 10 + j)) : (encM m)[o]? = some v := by
 subst ho
 rw [Nat.add_comm 1]
 exact flat_get codCell hc hv
theorem mir_over {vs : List Value} {k j o : Nat} {c c' : CellS} (hc : m.cells[k]? = some c) (hn : j + vs.length ≤ 10) (hy : over (encCell c) j vs = encCell c') (ho : o = 1 + (k * 10 + j)) : over (encM m) o vs = encM ⟨m.life, m.cells.set k c'⟩ := by
 subst ho
 rw [Nat.add_comm 1]
 unfold encM
 rw [over_cons, flat_over codCell hc hn hy]

theorem clear_build (life : Int) (w : World) : (Instr.build 340 #[(0, .int .i64 life)]).run Tryz.prog w = .ok (.agg (encM ⟨life, List.replicate 32 ⟨0, 0, noFlow⟩⟩).toArray) w := by kernel_rfl
theorem new_build (w : World) : (Instr.build 340 #[]).run Tryz.prog w = .ok (.agg (encM ⟨0, List.replicate 32 ⟨0, 0, noFlow⟩⟩).toArray) w := by kernel_rfl

def partCells (k : Nat) : List CellS := (List.range k).map (fun (i : Nat) => (⟨(i : Int), 0, noFlow⟩ : CellS)) ++ List.replicate (32 - k) ⟨0, 0, noFlow⟩
theorem partCells_len {k : Nat} (h : k ≤ 32) : (partCells k).length = 32 := by simp [partCells]; omega
theorem partCells_at {k : Nat} (h : k < 32) : (partCells k)[k]? = some ⟨0, 0, noFlow⟩ := by
 unfold partCells
 rw [List.getElem?_append_right (by simp), List.getElem?_replicate]
 simp
 omega
theorem partCells_set {k : Nat} (h : k < 32) : (partCells k).set k ⟨(k : Int), 0, noFlow⟩ = partCells (k + 1) := by
 unfold partCells
 rw [List.set_append_right _ _ (by simp), List.range_succ, List.map_append, List.append_assoc]
 congr 1
 rw [show 32 - k = (32 - (k + 1)) + 1 by omega, List.replicate_succ]
 simp

theorem partCells_full : partCells 32 = emptyCells := by simp [partCells, emptyCells]

theorem clear_ok (life : Int) (hb : Blk w b 340 (encM m)) (hm : m.cells.length = 32) :
   CallC Tryz.prog 223 #[.pointer (some ⟨b, 0, none⟩), .int .i64 life] w fun v w' => Ext (· = b) w w' ∧ Blk w' b 340 (encM ⟨life, emptyCells⟩) := by
 obtain ⟨V, hV, hl, h1, hbld⟩ : ∃ V : List Value, V = encM ⟨life, partCells 0⟩ ∧ V.length = 321 ∧ V.all isOne = true ∧ ∀ w, (Instr.build 340 #[(0, .int .i64 life)]).run Tryz.prog w = .ok (.agg V.toArray) w := ⟨_, rfl, encM_len (by simp [partCells]), by unfold encM; rw [List.all_cons, flat_one codCell]; rfl, clear_build life⟩
 refine fn_intro tabOk Tryz.func223 (by kernel_rfl) rfl Tryz.ntmps223 (lbO rfl) ?_
 have hS := (St.start w (· = b)).add (blk_local b _ _) hb (by simp [blk]; exact hb.lt) (by simp)
 refine eSeq ?_
 refine eReg ?_
 refine sMov (d := 5) rfl rfl ?_
 refine sMov (d := 6) rfl rfl ?_
 refine sBuild (d := 7) rfl (fun k h => h) hbld rfl ?_
 refine sNil (d := 8) rfl rfl ?_
 refine sSt (v := .agg V.toArray) rfl rfl rfl (by simp [cellsL, hl]) ?_
 refine hS.st 0 rfl (by rw [encM_len hm]; simp [cellsL, hl]) (by simpa [cellsL] using h1) (fun w' hS => ?_)
 have ho : over (encM m) 0 (cellsL (.agg V.toArray)) = encM ⟨life, partCells 0⟩ := by
   rw [over_whole (by rw [encM_len hm]; simp [cellsL, hl])]
   simp [cellsL, hV]
 replace hS : St w (· = b) w' [blk b 340 (encM ⟨life, partCells 0⟩)] := by rw [← ho]; exact hS
 clear ho hV hl h1 hbld
 refine eNil ?_
 conv=>whnf
 refine loopR tabOk (fun σ w' q => ∃ k : Nat, σ = [(9, .int .i64 k), (0, .pointer (some ⟨b, 0, none⟩))] ∧ q = 32 - k ∧ k ≤ 32 ∧ St w (· = b) w' [blk b 340 (encM ⟨life, partCells k⟩)])
   (σ' := [(9, .int .i64 ((0 : Nat) : Int)), (0, .pointer (some ⟨b, 0, none⟩))]) (n := 32) ⟨rfl, rfl, trivial⟩ ⟨0, rfl, rfl, Nat.zero_le _, hS⟩ ?_
 clear hS
 rintro _ w1 q ⟨k, rfl, rfl, hk, hS⟩
 conv=>whnf
 refine brD (fun h3 => ?_) (fun h3 => ?_)
 · have hk : k < 32 := by omega
   have hc := partCells_at hk
   conv=>whnf
   refine ixO ?_
   conv=>whnf
   refine hS.st 0 rfl (by rw [encM_len (partCells_len (by omega))]; simp [cellsL]; omega) rfl (fun w' hS => ?_)
   have ho : over (encM ⟨life, partCells k⟩) (0 + 1 + Int.toNat (k : Int) * 10 + 0) [.int .i64 (k : Int)] = encM ⟨life, partCells (k + 1)⟩ := by
     rw [mir_over (k := k) (j := 0) (c' := ⟨(k : Int), 0, noFlow⟩) hc (by simp) rfl (by simp <;> omega)]
     simp only [partCells_set hk]
   replace hS : St w (· = b) w' [blk b 340 (encM ⟨life, partCells (k + 1)⟩)] := by rw [← ho]; exact hS
   clear ho
   conv=>whnf
   refine rgO ?_
   conv=>whnf
   refine LoopE.mk ⟨_, [(9, .int .i64 ((k + 1 : Nat) : Int)), (0, _)], ?_, ⟨rfl, rfl, trivial⟩, ⟨k + 1, rfl, rfl, by omega, hS⟩⟩
   omega
 · obtain rfl : k = 32 := by omega
   rw [partCells_full] at hS
   repeat' ((conv => whnf); first | refine RetC.mk ?_ | refine NzC.mk (by decide) ?_ | refine rgO ?_ | refine ixO ?_ | refine brD ?_ ?_ <;> (intro) | refine brND ?_ ?_ <;> (intro) | refine brN ?_ ?_ <;> (intro) | refine brI ?_ ?_ <;> (intro))
   exact ⟨hS.ext, hS.blk 0 rfl⟩

theorem new_ok (w : World) : CallC Tryz.prog 131 #[] w fun v w' => ∃ b, v = .pointer (some ⟨b, 0, none⟩) ∧ w.heap.size ≤ b ∧ Ext No w w' ∧ Blk w' b 340 (encM ⟨0, emptyCells⟩) := by
 obtain ⟨V, hV, hl, h1, hbld⟩ : ∃ V : List Value, V = encM ⟨0, partCells 0⟩ ∧ V.length = 321 ∧ V.all isOne = true ∧ ∀ w, (Instr.build 340 #[]).run Tryz.prog w = .ok (.agg V.toArray) w := ⟨_, rfl, encM_len (by simp [partCells]), by unfold encM; rw [List.all_cons, flat_one codCell]; rfl, new_build⟩
 refine fn_intro tabOk Tryz.func131 (by kernel_rfl) rfl Tryz.ntmps131 (lbO rfl) ?_
 have hS := St.start w No
 refine eSeq ?_
 refine eReg ?_
 refine sAsg (d := 0) rfl rfl ?_
 refine eNil ?_
 refine eNext ?_
 refine eSeq ?_
 refine eReg ?_
 refine sBuild (d := 2) rfl (fun k h => h) hbld rfl ?_
 refine sBox (d := 3) rfl rfl ?_
 refine hS.new (fun b w' hb hS => ?_)
 have ho : cellsL (.agg V.toArray) = encM ⟨0, partCells 0⟩ := by simp [cellsL, hV]
 rw [ho] at hS
 clear ho hV hl h1 hbld
 refine sAsg (d := 1) rfl rfl ?_
 refine eNil ?_
 conv=>whnf
 refine (clear_ok 0 (hS.blk 0 rfl) (partCells_len (by omega))).mono ?_
 rintro v w' ⟨hx, hB⟩
 replace hS := hS.upd 0 rfl hx (fun c hc => by subst hc; exact List.mem_singleton.2 rfl) (blk_local _ _ _) hB (fun c hc => .inl hc)
 repeat' ((conv => whnf); first | refine RetC.mk ?_ | refine NzC.mk (by decide) ?_ | refine rgO ?_ | refine ixO ?_ | refine brD ?_ ?_ <;> (intro) | refine brND ?_ ?_ <;> (intro) | refine brN ?_ ?_ <;> (intro) | refine brI ?_ ?_ <;> (intro))
 exact ⟨b, rfl, hb, hS.ext, hS.blk 0 rfl⟩

theorem clone_ok {G : CellS → Prop} {a : Option Addr} {n c : Nat} {xs : List CellS} (hx : Slc w 10 encCell G a n xs) (hn : n ≤ 1000) (ha : a.isSome = true) :
   CallC Tryz.prog 304 #[.slice a n c] w fun v w' => ∃ a' c', v = .slice a' n c' ∧ Ext No w w' ∧ (ownL 209 10 encCell v xs).holds w' ∧ ∀ g, v.ownBlock = some g → w.heap.size ≤ g ∧ g < w'.heap.size := by
 refine fn_intro tabOk Tryz.func304 (by kernel_rfl) rfl Tryz.ntmps304 (lbO rfl) ?_
 have hS := St.start w No
 conv=>whnf
 refine brF (by cases a <;> simp_all) ?_
 conv=>whnf
 refine hS.lit0 Tryz.underlying131 (sz := 10) (by kernel_rfl) (fun b0 w1 hS => ?_)
 conv=>whnf
 refine hS.appS codCell 0 (xs := []) Tryz.underlying131 (bytes := 80) (by kernel_rfl) (z := .agg (encCell ⟨0, 0, noFlow⟩).toArray) (by kernel_rfl) rfl rfl (hx.no hS.ext) (by unfold maxLen; simp; omega) (by simp; omega) (fun a' c' w' hS => ?_)
 repeat' ((conv => whnf); first | refine RetC.mk ?_ | refine NzC.mk (by decide) ?_ | refine rgO ?_ | refine ixO ?_ | refine brD ?_ ?_ <;> (intro) | refine brND ?_ ?_ <;> (intro) | refine brN ?_ ?_ <;> (intro) | refine brI ?_ ?_ <;> (intro))
 have hn0 : ([] : List CellS).length + n = n := by simp
 rw [hn0] at hS ⊢
 exact ⟨a', c', rfl, hS.ext, hS.get 0 rfl, fun g hg => by
   rcases hS.may _ (List.mem_of_getElem? (i := 0) rfl) g (by simpa [ownL, own] using hg) with ⟨h1 | h1, h2⟩
   · exact h1.elim
   · exact ⟨h1, h2⟩⟩

theorem cells_ok (hb : Blk w b 340 (encM m)) (hm : m.cells.length = 32) :
   CallC Tryz.prog 244 #[.pointer (some ⟨b, 0, none⟩)] w fun v w' => ∃ a' c', v = .slice a' 32 c' ∧ Ext No w w' ∧ (ownL 209 10 encCell v m.cells).holds w' ∧ ∀ g, v.ownBlock = some g → w.heap.size ≤ g ∧ g < w'.heap.size := by
 refine fn_intro tabOk Tryz.func244 (by kernel_rfl) rfl Tryz.ntmps244 (lbO rfl) ?_
 conv=>whnf
 refine (clone_ok (mir_slc hb hm) (by decide) rfl).mono ?_
 rintro v w' ⟨a', c', rfl, h⟩
 repeat' ((conv => whnf); first | refine RetC.mk ?_ | refine NzC.mk (by decide) ?_ | refine rgO ?_ | refine ixO ?_ | refine brD ?_ ?_ <;> (intro) | refine brND ?_ ?_ <;> (intro) | refine brN ?_ ?_ <;> (intro) | refine brI ?_ ?_ <;> (intro))
 exact ⟨a', c', rfl, h⟩

theorem tellF_ok (c : CellS) (w : World) : CallC Tryz.prog 331 ([Value.agg (encCell c).toArray] ++ []).toArray w fun v w' => v = .bool (badSlot c) ∧ Ext No w w' := by
 refine fn_intro tabOk Tryz.func331 (by kernel_rfl) rfl Tryz.ntmps331 (lbO rfl) ?_
 have hS := St.start w No
 conv=>whnf
 refine hS.new (fun b w' hb hS => ?_)
 repeat' ((conv => whnf); first | refine RetC.mk ?_ | refine NzC.mk (by decide) ?_ | refine rgO ?_ | refine ixO ?_ | refine hS.ld 0 rfl rfl ?_ | refine brD ?_ ?_ <;> (intro) | refine brND ?_ ?_ <;> (intro) | refine brN ?_ ?_ <;> (intro) | refine brI ?_ ?_ <;> (intro))
 all_goals refine ⟨?_, hS.ext⟩
 all_goals simp_all [badSlot]
 all_goals omega

theorem put1C_at {l : List CellS} {c d : CellS} (h : l[c.slot.toNat]? = some d) : put1C l c = if c.ver > d.ver then l.set c.slot.toNat c else l := by
 unfold put1C
 rw [h]
theorem fold_step {xs l : List CellS} {k : Nat} {x : CellS} (hx : xs[k]? = some x) : (xs.take (k + 1)).foldl put1C l = put1C ((xs.take k).foldl put1C l) x := by
 rw [List.take_add_one, hx, List.foldl_append]
 rfl

theorem tell_ok {E : Nat → Addr} {q : Nat} {G : CellS → Prop} {a : Option Addr} {n c : Nat} {xs : List CellS} (life : Int) (hb : Blk w b 340 (encM m)) (hm : m.cells.length = 32) (hE : Errs w E q [2, 10]) (hq : q ≤ b) (hx : Slc w 10 encCell G a n xs) (hsrc : 0 < n → ∀ b0 o0, a = some ⟨b0, o0, none⟩ → b0 ≠ b) :
   CallC Tryz.prog 300 #[.pointer (some ⟨b, 0, none⟩), .int .i64 life, .slice a n c] w fun v w' => v = errV E (m.tell life xs).1 ∧ Ext (· = b) w w' ∧ Blk w' b 340 (encM (m.tell life xs).2) := by
 have hmax := hx.max
 have hlen := hx.len
 have hbw := hb.lt
 refine fn_intro tabOk Tryz.func300 (by kernel_rfl) rfl Tryz.ntmps300 (lbO rfl) ?_
 have hS := (St.start w (· = b)).add (blk_local b _ _) hb (by simp [blk]; exact hb.lt) (by simp)
 conv=>whnf
 refine (containsFunc_ok badSlot _ [] hx (fun x _ _ w' _ => tellF_ok x w')).mono ?_
 rintro v w' ⟨rfl, hx'⟩
 replace hS := hS.no hx'
 clear hx'
 cases hany : xs.any badSlot
 all_goals repeat' ((conv => whnf); first | refine RetC.mk ?_ | refine NzC.mk (by decide) ?_ | refine rgO ?_ | refine ixO ?_ | refine hS.ldr (hE.at_ 2 rfl) (hE.ne 2 rfl hq) ?_ | refine hS.ldr (hE.at_ 10 rfl) (hE.ne 10 rfl hq) ?_ | refine hS.ld 0 rfl rfl ?_ | (refine (clear_ok life (hS.blk 0 rfl) hm).mono ?_; rintro v w' ⟨hx', hB⟩; replace hS := hS.upd 0 rfl hx' (fun c hc => by subst hc; exact List.mem_singleton.2 rfl) (blk_local _ _ _) hB (fun c hc => .inl hc)) | refine brD ?_ ?_ <;> (intro) | refine brND ?_ ?_ <;> (intro) | refine brN ?_ ?_ <;> (intro) | refine brI ?_ ?_ <;> (intro))
 all_goals first | (rw [show m.tell life xs = (2, m) from if_pos (by first | (left; assumption) | (right; left; omega) | (right; right; assumption))]; exact ⟨rfl, hS.ext, hS.blk 0 rfl⟩) | skip
 · rename_i h1 h2 h3
   rw [show m.tell life xs = (10, m) by
     unfold MirS.tell
     rw [if_neg (by rintro (h | h | h); omega; omega; simp [hany] at h), if_pos h3]]
   exact ⟨rfl, hS.ext, hS.blk 0 rfl⟩
 · have hgood : ∀ x ∈ xs, 0 ≤ x.slot ∧ x.slot < 32 := fun x hx => by
     have := List.any_eq_false.1 hany x hx
     simp [badSlot] at this
     omega
   have htell : m.tell life xs = (0, ⟨life, xs.foldl put1C emptyCells⟩) := by
     unfold MirS.tell
     rw [if_neg (by rintro (h | h | h); omega; omega; simp [hany] at h), if_neg (show ¬ life < m.life by assumption), if_pos (show life > m.life by assumption), if_pos (show life > m.life by assumption)]
   have hl1 : ((⟨life, emptyCells⟩ : MirS)).cells.length = 32 := by first | exact hm | exact emptyCells_len
   refine loopR tabOk (fun σ w' q => ∃ k : Nat, σ = [(44, .int .i64 k), (43, .int .i64 n), (42, .slice a n c), (0, .pointer (some ⟨b, 0, none⟩))] ∧ q = n - k ∧ k ≤ n ∧ St w (· = b) w' [blk b 340 (encM ⟨((⟨life, emptyCells⟩ : MirS)).life, (xs.take k).foldl put1C ((⟨life, emptyCells⟩ : MirS)).cells⟩)])
     (σ' := [(44, .int .i64 ((0 : Nat) : Int)), (43, .int .i64 n), (42, .slice a n c), (0, .pointer (some ⟨b, 0, none⟩))]) (n := n) ⟨rfl, rfl, rfl, rfl, trivial⟩ ⟨0, rfl, rfl, Nat.zero_le _, hS⟩ ?_
   clear hS
   rintro _ w1 q ⟨k, rfl, rfl, hk, hS⟩
   conv=>whnf
   refine brD (fun h3 => ?_) (fun h3 => ?_)
   · obtain ⟨b0, o0, x, hxk, _, rfl, hb0, hc⟩ := hx.at (k := k) (by omega)
     have hnb : ¬ b0 = b := hsrc (by omega) b0 o0 rfl
     have hin := hgood x (List.mem_of_getElem? hxk)
     have hlk : ((xs.take k).foldl put1C ((⟨life, emptyCells⟩ : MirS)).cells).length = 32 := by rw [fold_len, hl1]
     have hstep := fold_step (l := ((⟨life, emptyCells⟩ : MirS)).cells) hxk
     generalize hL : (xs.take k).foldl put1C ((⟨life, emptyCells⟩ : MirS)).cells = L at hS hlk hstep
     obtain ⟨d, hd⟩ : ∃ d, L[x.slot.toNat]? = some d := ⟨_, List.getElem?_eq_getElem (by omega)⟩
     rw [put1C_at hd] at hstep
     conv=>whnf
     refine ixO ?_
     conv=>whnf
     refine hS.lar (l := encCell x) rfl hc hnb ?_
     conv=>whnf
     refine hS.new (fun bc w' hbc hS => ?_)
     have hbcb : ¬ bc = b := by omega
     conv=>whnf
     refine hS.st 1 rfl (lbO rfl) rfl (fun w' hS => ?_)
     replace hS : St w (· = b) w' [blk b 340 (encM ⟨((⟨life, emptyCells⟩ : MirS)).life, L⟩), blk bc 209 (encCell x)] := hS
     conv=>whnf
     (refine drawS tabOk mixed [] No [0, 1, 2, 3, 4, 5, 6, 7, 8, 9, 10] (by kernel_rfl) ?_; rintro w1 rfl; replace hS := hS.drew)
     repeat' ((conv => whnf); first | refine RetC.mk ?_ | refine NzC.mk (by decide) ?_ | refine rgO ?_ | refine ixO ?_ | refine hS.ldF 1 rfl rfl id ?_ | refine hS.ldF 0 rfl (mir_cell (k := x.slot.toNat) (j := 1) hd rfl (by simp <;> omega)) id ?_ | (refine drawS tabOk mixed [] ((· = b)) [0, 1, 2, 3, 4, 5, 6, 7] (by kernel_rfl) ?_; rintro w1 rfl; replace hS := hS.drew) | refine brD ?_ ?_ <;> (intro) | refine brND ?_ ?_ <;> (intro) | refine brN ?_ ?_ <;> (intro) | refine brI ?_ ?_ <;> (intro))
     · rename_i hv
       rw [if_pos hv] at hstep
       repeat' ((conv => whnf); first | refine ixO ?_ | refine hS.ldF 1 rfl rfl hbcb ?_ | refine hS.laF 1 rfl (l := encCell x) rfl rfl hbcb ?_)
       refine hS.stX 0 rfl (by rw [encM_len hlk]; simp [cellsL, encCell]; omega) rfl (fun w' hx' hS => ?_)
       refine KeepC.mk hx' ?_
       replace hS := hS.keep 1
       have ho : over (encM ⟨((⟨life, emptyCells⟩ : MirS)).life, L⟩) (0 + 1 + x.slot.toNat * 10) (cellsL (.agg (encCell x).toArray)) = encM ⟨((⟨life, emptyCells⟩ : MirS)).life, (xs.take (k + 1)).foldl put1C ((⟨life, emptyCells⟩ : MirS)).cells⟩ := by
         rw [mir_over (k := x.slot.toNat) (j := 0) (c' := x) hd (by simp [cellsL, encCell]) rfl (by simp <;> omega), hstep]
       replace hS : St w (· = b) w' [blk b 340 (encM ⟨((⟨life, emptyCells⟩ : MirS)).life, (xs.take (k + 1)).foldl put1C ((⟨life, emptyCells⟩ : MirS)).cells⟩)] := by rw [← ho]; exact hS
       conv=>whnf
       refine rgO ?_
       conv=>whnf
       refine LoopE.mk ⟨_, [(44, .int .i64 ((k + 1 : Nat) : Int)), (43, _), (42, _), (0, _)], ?_, ⟨rfl, rfl, rfl, rfl, trivial⟩, ⟨k + 1, rfl, rfl, by omega, hS⟩⟩
       omega
     · rename_i hv
       rw [if_neg hv] at hstep
       replace hS := hS.keep 1
       refine LoopE.mk ⟨_, [(44, .int .i64 ((k + 1 : Nat) : Int)), (43, _), (42, _), (0, _)], ?_, ⟨rfl, rfl, rfl, rfl, trivial⟩, ⟨k + 1, rfl, rfl, by omega, by rw [hstep]; exact hS⟩⟩
       omega
   · obtain rfl : k = n := by omega
     rw [List.take_of_length_le (by omega)] at hS
     repeat' ((conv => whnf); first | refine RetC.mk ?_ | refine NzC.mk (by decide) ?_ | refine rgO ?_ | refine ixO ?_ | refine brD ?_ ?_ <;> (intro) | refine brND ?_ ?_ <;> (intro) | refine brN ?_ ?_ <;> (intro) | refine brI ?_ ?_ <;> (intro))
     rw [htell]
     exact ⟨rfl, hS.ext, hS.blk 0 rfl⟩
 · have hgood : ∀ x ∈ xs, 0 ≤ x.slot ∧ x.slot < 32 := fun x hx => by
     have := List.any_eq_false.1 hany x hx
     simp [badSlot] at this
     omega
   have htell : m.tell life xs = (0, ⟨m.life, xs.foldl put1C m.cells⟩) := by
     unfold MirS.tell
     rw [if_neg (by rintro (h | h | h); omega; omega; simp [hany] at h), if_neg (show ¬ life < m.life by assumption), if_neg (show ¬ life > m.life by assumption), if_neg (show ¬ life > m.life by assumption)]
   have hl1 : (m).cells.length = 32 := by first | exact hm | exact emptyCells_len
   refine loopR tabOk (fun σ w' q => ∃ k : Nat, σ = [(44, .int .i64 k), (43, .int .i64 n), (42, .slice a n c), (0, .pointer (some ⟨b, 0, none⟩))] ∧ q = n - k ∧ k ≤ n ∧ St w (· = b) w' [blk b 340 (encM ⟨(m).life, (xs.take k).foldl put1C (m).cells⟩)])
     (σ' := [(44, .int .i64 ((0 : Nat) : Int)), (43, .int .i64 n), (42, .slice a n c), (0, .pointer (some ⟨b, 0, none⟩))]) (n := n) ⟨rfl, rfl, rfl, rfl, trivial⟩ ⟨0, rfl, rfl, Nat.zero_le _, hS⟩ ?_
   clear hS
   rintro _ w1 q ⟨k, rfl, rfl, hk, hS⟩
   conv=>whnf
   refine brD (fun h3 => ?_) (fun h3 => ?_)
   · obtain ⟨b0, o0, x, hxk, _, rfl, hb0, hc⟩ := hx.at (k := k) (by omega)
     have hnb : ¬ b0 = b := hsrc (by omega) b0 o0 rfl
     have hin := hgood x (List.mem_of_getElem? hxk)
     have hlk : ((xs.take k).foldl put1C (m).cells).length = 32 := by rw [fold_len, hl1]
     have hstep := fold_step (l := (m).cells) hxk
     generalize hL : (xs.take k).foldl put1C (m).cells = L at hS hlk hstep
     obtain ⟨d, hd⟩ : ∃ d, L[x.slot.toNat]? = some d := ⟨_, List.getElem?_eq_getElem (by omega)⟩
     rw [put1C_at hd] at hstep
     conv=>whnf
     refine ixO ?_
     conv=>whnf
     refine hS.lar (l := encCell x) rfl hc hnb ?_
     conv=>whnf
     refine hS.new (fun bc w' hbc hS => ?_)
     have hbcb : ¬ bc = b := by omega
     conv=>whnf
     refine hS.st 1 rfl (lbO rfl) rfl (fun w' hS => ?_)
     replace hS : St w (· = b) w' [blk b 340 (encM ⟨(m).life, L⟩), blk bc 209 (encCell x)] := hS
     conv=>whnf
     (refine drawS tabOk mixed [] No [0, 1, 2, 3, 4, 5, 6, 7, 8, 9, 10] (by kernel_rfl) ?_; rintro w1 rfl; replace hS := hS.drew)
     repeat' ((conv => whnf); first | refine RetC.mk ?_ | refine NzC.mk (by decide) ?_ | refine rgO ?_ | refine ixO ?_ | refine hS.ldF 1 rfl rfl id ?_ | refine hS.ldF 0 rfl (mir_cell (k := x.slot.toNat) (j := 1) hd rfl (by simp <;> omega)) id ?_ | (refine drawS tabOk mixed [] ((· = b)) [0, 1, 2, 3, 4, 5, 6, 7] (by kernel_rfl) ?_; rintro w1 rfl; replace hS := hS.drew) | refine brD ?_ ?_ <;> (intro) | refine brND ?_ ?_ <;> (intro) | refine brN ?_ ?_ <;> (intro) | refine brI ?_ ?_ <;> (intro))
     · rename_i hv
       rw [if_pos hv] at hstep
       repeat' ((conv => whnf); first | refine ixO ?_ | refine hS.ldF 1 rfl rfl hbcb ?_ | refine hS.laF 1 rfl (l := encCell x) rfl rfl hbcb ?_)
       refine hS.stX 0 rfl (by rw [encM_len hlk]; simp [cellsL, encCell]; omega) rfl (fun w' hx' hS => ?_)
       refine KeepC.mk hx' ?_
       replace hS := hS.keep 1
       have ho : over (encM ⟨(m).life, L⟩) (0 + 1 + x.slot.toNat * 10) (cellsL (.agg (encCell x).toArray)) = encM ⟨(m).life, (xs.take (k + 1)).foldl put1C (m).cells⟩ := by
         rw [mir_over (k := x.slot.toNat) (j := 0) (c' := x) hd (by simp [cellsL, encCell]) rfl (by simp <;> omega), hstep]
       replace hS : St w (· = b) w' [blk b 340 (encM ⟨(m).life, (xs.take (k + 1)).foldl put1C (m).cells⟩)] := by rw [← ho]; exact hS
       conv=>whnf
       refine rgO ?_
       conv=>whnf
       refine LoopE.mk ⟨_, [(44, .int .i64 ((k + 1 : Nat) : Int)), (43, _), (42, _), (0, _)], ?_, ⟨rfl, rfl, rfl, rfl, trivial⟩, ⟨k + 1, rfl, rfl, by omega, hS⟩⟩
       omega
     · rename_i hv
       rw [if_neg hv] at hstep
       replace hS := hS.keep 1
       refine LoopE.mk ⟨_, [(44, .int .i64 ((k + 1 : Nat) : Int)), (43, _), (42, _), (0, _)], ?_, ⟨rfl, rfl, rfl, rfl, trivial⟩, ⟨k + 1, rfl, rfl, by omega, by rw [hstep]; exact hS⟩⟩
       omega
   · obtain rfl : k = n := by omega
     rw [List.take_of_length_le (by omega)] at hS
     repeat' ((conv => whnf); first | refine RetC.mk ?_ | refine NzC.mk (by decide) ?_ | refine rgO ?_ | refine ixO ?_ | refine brD ?_ ?_ <;> (intro) | refine brND ?_ ?_ <;> (intro) | refine brN ?_ ?_ <;> (intro) | refine brI ?_ ?_ <;> (intro))
     rw [htell]
     exact ⟨rfl, hS.ext, hS.blk 0 rfl⟩

theorem flowsOf_step {l : List CellS} {k : Nat} {x : CellS} (hx : l[k]? = some x) : flowsOf (l.take (k + 1)) = flowsOf (l.take k) ++ (if x.f.proto ≠ 0 then [x.f] else []) := by
 rw [List.take_add_one, hx]
 unfold flowsOf
 rw [List.filter_append, List.map_append]
 congr 1
 by_cases h : x.f.proto = 0 <;> simp [h]
theorem flowsOf_len (l : List CellS) : (flowsOf l).length ≤ l.length := by
 unfold flowsOf
 rw [List.length_map]
 exact List.length_filter_le _ _

theorem flows_ok (hb : Blk w b 340 (encM m)) (hm : m.cells.length = 32) :
   CallC Tryz.prog 341 #[.pointer (some ⟨b, 0, none⟩)] w fun v w' => ∃ a' c', v = .slice a' (flowsOf m.cells).length c' ∧ Ext No w w' ∧ (ownL 207 8 encFlow v (flowsOf m.cells)).holds w' ∧ Fresh w w' v := by
 refine fn_intro tabOk Tryz.func341 (by kernel_rfl) rfl Tryz.ntmps341 (lbO rfl) ?_
 have hS := St.start w No
 have hl0 : CellsAt w b 1 (m.cells.flatMap encCell) := hb.cells (by rw [flat_len codCell]; simp only [encM, List.drop_succ_cons, List.drop_zero]; exact flat_take _)
 conv=>whnf
 refine hS.lar (l := m.cells.flatMap encCell) (by rw [flat_len codCell, hm]) hl0 id ?_
 have hS := hS.add (ownL_local (e := 207) (enc := encFlow) (sz := 8) (v := .slice none 0 0) (xs := [])) (own_nil _ _ _) (by simp [ownL, own, Value.ownBlock]) (by simp [ownL, own, Value.ownBlock])
 conv=>whnf
 refine loopR tabOk (fun σ w' q => ∃ (k : Nat) (v : Value), σ = [(10, .int .i64 k), (9, .agg (m.cells.flatMap encCell).toArray), (3, v)] ∧ q = 32 - k ∧ k ≤ 32 ∧ (∃ a' c', v = .slice a' (flowsOf (m.cells.take k)).length c') ∧ St w No w' [ownL 207 8 encFlow v (flowsOf (m.cells.take k))])
   (σ' := [(10, .int .i64 ((0 : Nat) : Int)), (9, .agg (m.cells.flatMap encCell).toArray), (3, .slice none 0 0)]) (n := 32) ⟨rfl, rfl, rfl, trivial⟩ ⟨0, _, rfl, rfl, Nat.zero_le _, ⟨none, 0, rfl⟩, hS⟩ ?_
 clear hS
 rintro _ w1 q ⟨k, _, rfl, rfl, hk, ⟨a', c', rfl⟩, hS⟩
 conv=>whnf
 refine brD (fun h3 => ?_) (fun h3 => ?_)
 · obtain ⟨x, hxk⟩ : ∃ x, m.cells[k]? = some x := ⟨_, List.getElem?_eq_getElem (by omega)⟩
   have hstep := flowsOf_step hxk
   have hlen := flowsOf_len (m.cells.take k)
   rw [List.length_take] at hlen
   conv=>whnf
   refine PureC.of (index_run codCell (k := k) (by rw [hm]; exact Tryz.underlying328) (by kernel_rfl) ⟨_, Tryz.underlying209⟩ (by kernel_rfl) (by kernel_rfl) hxk rfl) ?_
   conv=>whnf
   refine hS.new (fun bc w' hbc hS => ?_)
   conv=>whnf
   refine hS.st 1 rfl (lbO rfl) rfl (fun w' hS => ?_)
   replace hS : St w No w' [ownL 207 8 encFlow (.slice a' (flowsOf (m.cells.take k)).length c') (flowsOf (m.cells.take k)), blk bc 209 (encCell x)] := hS
   conv=>whnf
   refine hS.ld 1 rfl rfl ?_
   conv=>whnf
   refine brND (fun h4 => ?_) (fun h4 => ?_)
   · rw [if_pos h4] at hstep
     conv=>whnf
     refine hS.la 1 rfl (l := encFlow x.f) rfl rfl ?_
     conv=>whnf
     refine hS.lit (cs := encFlow x.f) Tryz.underlying129 (sz := 8) (by kernel_rfl) (z := .agg (encFlow noFlow).toArray) (by kernel_rfl) rfl rfl (by rfl) (fun bl w' hbl hS => ?_)
     conv=>whnf
     refine hS.appS codFlow 0 (ys := [x.f]) (G := fun _ => True) Tryz.underlying129 (bytes := 64) (by kernel_rfl) (z := .agg (encFlow noFlow).toArray) (by kernel_rfl) rfl rfl (Slc.of_blk codFlow (hS.blk 2 rfl) rfl (by decide) (fun _ _ => trivial) rfl) (by unfold maxLen; omega) (by omega) (fun a2 c2 w' hS => ?_)
     replace hS := hS.keep 1
     rw [← hstep] at hS
     have hl2 : (flowsOf (m.cells.take k)).length + 1 = (flowsOf (m.cells.take (k + 1))).length := by rw [hstep]; simp
     rw [hl2] at hS ⊢
     conv=>whnf
     refine rgO ?_
     conv=>whnf
     refine LoopE.mk ⟨_, [(10, .int .i64 ((k + 1 : Nat) : Int)), (9, _), (3, _)], ?_, ⟨rfl, rfl, rfl, trivial⟩, ⟨k + 1, _, rfl, rfl, by omega, ⟨a2, c2, rfl⟩, hS⟩⟩
     omega
   · rw [if_neg (fun h => h h4), List.append_nil] at hstep
     replace hS := hS.keep 1
     conv=>whnf
     refine rgO ?_
     conv=>whnf
     refine LoopE.mk ⟨_, [(10, .int .i64 ((k + 1 : Nat) : Int)), (9, _), (3, _)], ?_, ⟨rfl, rfl, rfl, trivial⟩, ⟨k + 1, _, rfl, rfl, by omega, ⟨a', c', by rw [hstep]⟩, by rw [hstep]; exact hS⟩⟩
     omega
 · obtain rfl : k = 32 := by omega
   rw [List.take_of_length_le (by omega)] at hS ⊢
   repeat' ((conv => whnf); first | refine RetC.mk ?_ | refine NzC.mk (by decide) ?_ | refine rgO ?_ | refine ixO ?_ | refine brD ?_ ?_ <;> (intro) | refine brND ?_ ?_ <;> (intro) | refine brN ?_ ?_ <;> (intro) | refine brI ?_ ?_ <;> (intro))
   exact ⟨a', c', rfl, hS.ext, hS.get 0 rfl, hS.freshAt 0 rfl⟩
end
end Go.Proofs.YtogjajjdaoihdaaGreatDoor

namespace Go.Proofs.YtogjajjdaoihdaaGreatDoor.Ev
set_option maxRecDepth 20000
open Go

def I64 (n : Int) : Prop := -9223372036854775808 ≤ n ∧ n ≤ 9223372036854775807
def Pr.ok : Pr → Prop
 | .int n => I64 n
 | .bool _ => True
 | .str s => s.size ≤ maxLen

section
variable {P : Program} {w : World}
end
end Go.Proofs.YtogjajjdaoihdaaGreatDoor.Ev

namespace Go.Proofs.YtogjajjdaoihdaaGreatDoor
set_option maxRecDepth 20000
open Go Ev

def CellS.Ok (c : CellS) : Prop := ∀ p ∈ c.pr, p.ok
def c5 : CellS := ⟨5, 1, ⟨1, 0, 0, 0, 0, 0, 0, 0⟩⟩
end Go.Proofs.YtogjajjdaoihdaaGreatDoor

namespace Go.Proofs.YtogjajjdaoihdaaGreatDoor
set_option maxRecDepth 20000
open Go Ev

end Go.Proofs.YtogjajjdaoihdaaGreatDoor
