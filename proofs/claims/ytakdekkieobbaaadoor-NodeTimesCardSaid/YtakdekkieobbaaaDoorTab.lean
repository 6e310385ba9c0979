/-
  The table of the program's types as the evaluator wants it (written by program), and that it is right.
-/
import Derived.Test.YtakdekkieobbaaaDoorProg
import Derived.Test.YtakdekkieobbaaaDoorEvF
namespace Go.Proofs.YtakdekkieobbaaaDoor
open Go Ev
def tab : Tab := [
  (1, ⟨1, .other, [.nilFunc]⟩),
  (2, ⟨1, .int, [.int .i64 0]⟩),
  (3, ⟨1, .int, [.int .i64 0]⟩),
  (4, ⟨1, .bool, [.bool false]⟩),
  (5, ⟨1, .other, [.int .u8 0]⟩),
  (9, ⟨1, .str, [.string ByteArray.empty]⟩),
  (12, ⟨1, .other, [.int .u64 0]⟩),
  (13, ⟨2, .struct [(0, 1, false), (1, 1, false)], [.string ByteArray.empty, .int .u64 0]⟩),
  (20, ⟨1, .iface, [.nilIface]⟩),
  (21, ⟨1, .other, [.int .i32 0]⟩),
  (22, ⟨1, .slice 24 5 true, [.slice none 0 0]⟩),
  (23, ⟨5, .struct [(0, 1, false), (1, 1, false), (2, 1, false), (3, 1, false), (4, 1, false)], [.bool false, .bool false, .int .i64 0, .int .i64 0, .int .i64 0]⟩),
  (24, ⟨5, .struct [(0, 1, false), (1, 1, false), (2, 1, false), (3, 1, false), (4, 1, false)], [.bool false, .bool false, .int .i64 0, .int .i64 0, .int .i64 0]⟩),
  (25, ⟨2, .struct [(0, 1, false), (1, 1, false)], [.int .i64 0, .int .i64 0]⟩),
  (26, ⟨2, .struct [(0, 1, false), (1, 1, false)], [.int .i64 0, .int .i64 0]⟩),
  (27, ⟨6, .struct [(0, 1, false), (1, 2, true), (3, 2, true), (5, 1, false)], [.int .i64 0, .int .i64 0, .int .i64 0, .int .i64 0, .int .i64 0, .int .i64 0]⟩),
  (28, ⟨6, .struct [(0, 1, false), (1, 2, true), (3, 2, true), (5, 1, false)], [.int .i64 0, .int .i64 0, .int .i64 0, .int .i64 0, .int .i64 0, .int .i64 0]⟩),
  (29, ⟨1, .other, [.nilFunc]⟩),
  (30, ⟨1, .other, [.nilFunc]⟩),
  (31, ⟨1, .iface, [.nilIface]⟩),
  (32, ⟨1, .iface, [.nilIface]⟩),
  (34, ⟨1, .other, [.nilFunc]⟩),
  (35, ⟨1, .other, [.nilFunc]⟩),
  (36, ⟨1, .other, [.nilFunc]⟩),
  (37, ⟨1, .other, [.nilFunc]⟩),
  (38, ⟨1, .other, [.nilFunc]⟩),
  (39, ⟨1, .other, [.nilFunc]⟩),
  (40, ⟨2, .struct [(0, 1, false), (1, 1, false)], [.int .i64 0, .int .i64 0]⟩),
  (41, ⟨2, .struct [(0, 1, false), (1, 1, false)], [.int .i64 0, .int .i64 0]⟩),
  (42, ⟨1, .other, [.nilFunc]⟩),
  (43, ⟨1, .other, [.nilFunc]⟩),
  (44, ⟨1, .other, [.nilFunc]⟩),
  (45, ⟨1, .other, [.nilFunc]⟩),
  (46, ⟨1, .other, [.nilFunc]⟩),
  (47, ⟨1, .other, [.nilFunc]⟩),
  (48, ⟨1, .slice 3 1 false, [.slice none 0 0]⟩),
  (49, ⟨1, .other, [.nilFunc]⟩),
  (50, ⟨1, .slice 32 1 false, [.slice none 0 0]⟩),
  (52, ⟨1, .other, [.nilFunc]⟩),
  (53, ⟨1, .ptr, [.pointer none]⟩),
  (54, ⟨2, .struct [(0, 1, false), (1, 1, false)], [.int .i64 0, .nilIface]⟩),
  (55, ⟨2, .struct [(0, 1, false), (1, 1, false)], [.int .i64 0, .nilIface]⟩),
  (56, ⟨1, .other, [.nilFunc]⟩),
  (57, ⟨1, .other, [.nilFunc]⟩),
  (58, ⟨1, .ptr, [.pointer none]⟩),
  (59, ⟨1, .other, [.nilFunc]⟩),
  (60, ⟨1, .ptr, [.pointer none]⟩),
  (62, ⟨1, .other, [.nilFunc]⟩),
  (63, ⟨1, .other, [.nilFunc]⟩),
  (64, ⟨1, .ptr, [.pointer none]⟩),
  (65, ⟨1, .ptr, [.pointer none]⟩),
  (66, ⟨1, .ptr, [.pointer none]⟩),
  (67, ⟨1, .ptr, [.pointer none]⟩),
  (68, ⟨1, .ptr, [.pointer none]⟩),
  (69, ⟨8, .struct [(0, 1, false), (1, 1, false), (2, 1, false), (3, 1, false), (4, 1, false), (5, 1, false), (6, 1, false), (7, 1, false)], [.pointer none, .int .i64 0, .int .i64 0, .pointer none, .pointer none, .pointer none, .pointer none, .slice none 0 0]⟩),
  (70, ⟨8, .struct [(0, 1, false), (1, 1, false), (2, 1, false), (3, 1, false), (4, 1, false), (5, 1, false), (6, 1, false), (7, 1, false)], [.pointer none, .int .i64 0, .int .i64 0, .pointer none, .pointer none, .pointer none, .pointer none, .slice none 0 0]⟩),
  (71, ⟨1, .slice 76 10 true, [.slice none 0 0]⟩),
  (72, ⟨1, .other, [.nilFunc]⟩),
  (73, ⟨8, .struct [(0, 1, false), (1, 2, true), (3, 2, true), (5, 1, false), (6, 1, false), (7, 1, false)], [.int .i64 0, .int .i64 0, .int .i64 0, .int .i64 0, .int .i64 0, .int .i64 0, .int .i64 0, .int .i64 0]⟩),
  (74, ⟨8, .struct [(0, 1, false), (1, 2, true), (3, 2, true), (5, 1, false), (6, 1, false), (7, 1, false)], [.int .i64 0, .int .i64 0, .int .i64 0, .int .i64 0, .int .i64 0, .int .i64 0, .int .i64 0, .int .i64 0]⟩),
  (75, ⟨10, .struct [(0, 1, false), (1, 1, false), (2, 8, true)], [.int .i64 0, .int .i64 0, .int .i64 0, .int .i64 0, .int .i64 0, .int .i64 0, .int .i64 0, .int .i64 0, .int .i64 0, .int .i64 0]⟩),
  (76, ⟨10, .struct [(0, 1, false), (1, 1, false), (2, 8, true)], [.int .i64 0, .int .i64 0, .int .i64 0, .int .i64 0, .int .i64 0, .int .i64 0, .int .i64 0, .int .i64 0, .int .i64 0, .int .i64 0]⟩),
  (77, ⟨1, .slice 118 5 true, [.slice none 0 0]⟩),
  (79, ⟨1, .other, [.nilFunc]⟩),
  (80, ⟨1, .other, [.nilFunc]⟩),
  (82, ⟨1, .other, [.nilFunc]⟩),
  (83, ⟨1, .other, [.nilFunc]⟩),
  (84, ⟨1, .slice 26 2 true, [.slice none 0 0]⟩),
  (85, ⟨1, .other, [.nilFunc]⟩),
  (87, ⟨1, .other, [.nilFunc]⟩),
  (88, ⟨1, .other, [.nilFunc]⟩),
  (89, ⟨1, .other, [.nilFunc]⟩),
  (90, ⟨1, .other, [.nilFunc]⟩),
  (91, ⟨1, .other, [.nilFunc]⟩),
  (92, ⟨1, .other, [.nilFunc]⟩),
  (93, ⟨1, .slice 4 1 false, [.slice none 0 0]⟩),
  (94, ⟨1, .other, [.nilFunc]⟩),
  (95, ⟨1, .other, [.nilFunc]⟩),
  (96, ⟨1, .ptr, [.pointer none]⟩),
  (97, ⟨1, .other, [.nilFunc]⟩),
  (98, ⟨1, .ptr, [.pointer none]⟩),
  (99, ⟨1, .struct [(0, 1, false)], [.string ByteArray.empty]⟩),
  (100, ⟨1, .struct [(0, 1, false)], [.string ByteArray.empty]⟩),
  (101, ⟨64, .arr 64 5 1 false, []⟩),
  (102, ⟨66, .struct [(0, 64, true), (64, 1, false), (65, 1, false)], []⟩),
  (103, ⟨66, .struct [(0, 64, true), (64, 1, false), (65, 1, false)], []⟩),
  (105, ⟨1, .other, [.nilFunc]⟩),
  (107, ⟨1, .other, [.nilFunc]⟩),
  (108, ⟨1, .other, [.nilFunc]⟩),
  (110, ⟨1, .other, [.nilFunc]⟩),
  (111, ⟨1, .other, [.nilFunc]⟩),
  (112, ⟨1, .other, [.nilFunc]⟩),
  (113, ⟨4, .struct [(0, 1, false), (1, 1, false), (2, 1, false), (3, 1, false)], [.int .i64 0, .int .i64 0, .int .i64 0, .bool false]⟩),
  (114, ⟨4, .struct [(0, 1, false), (1, 1, false), (2, 1, false), (3, 1, false)], [.int .i64 0, .int .i64 0, .int .i64 0, .bool false]⟩),
  (115, ⟨1, .other, [.nilFunc]⟩),
  (116, ⟨1, .other, [.nilFunc]⟩),
  (117, ⟨5, .struct [(0, 1, false), (1, 1, false), (2, 1, false), (3, 1, false), (4, 1, false)], [.int .i64 0, .int .i64 0, .int .i64 0, .bool false, .slice none 0 0]⟩),
  (118, ⟨5, .struct [(0, 1, false), (1, 1, false), (2, 1, false), (3, 1, false), (4, 1, false)], [.int .i64 0, .int .i64 0, .int .i64 0, .bool false, .slice none 0 0]⟩),
  (120, ⟨1, .other, [.nilFunc]⟩),
  (122, ⟨1, .other, [.nilFunc]⟩),
  (124, ⟨1, .other, [.nilFunc]⟩),
  (126, ⟨1, .other, [.nilFunc]⟩),
  (127, ⟨1, .other, [.nilFunc]⟩),
  (128, ⟨1, .other, [.nilFunc]⟩),
  (129, ⟨1, .slice 22 1 false, [.slice none 0 0]⟩),
  (130, ⟨1, .other, [.nilFunc]⟩),
  (134, ⟨3, .struct [(0, 1, false), (1, 1, false), (2, 1, false)], [.pointer none, .pointer none, .int .u64 0]⟩),
  (137, ⟨1, .iface, [.nilIface]⟩),
  (139, ⟨1, .other, [.int .u8 0]⟩),
  (144, ⟨1, .other, [.nilFunc]⟩),
  (145, ⟨320, .arr 32 76 10 true, []⟩),
  (146, ⟨321, .struct [(0, 1, false), (1, 320, true)], []⟩),
  (147, ⟨321, .struct [(0, 1, false), (1, 320, true)], []⟩),
  (148, ⟨5, .struct [(0, 1, false), (1, 1, false), (2, 1, false), (3, 1, false), (4, 1, false)], [.pointer none, .int .i64 0, .int .i64 0, .int .i64 0, .bool false]⟩),
  (149, ⟨5, .struct [(0, 1, false), (1, 1, false), (2, 1, false), (3, 1, false), (4, 1, false)], [.pointer none, .int .i64 0, .int .i64 0, .int .i64 0, .bool false]⟩),
  (150, ⟨1, .other, [.nilFunc]⟩),
  (151, ⟨1, .other, [.nilFunc]⟩),
  (152, ⟨1, .other, [.nilFunc]⟩),
  (153, ⟨1, .other, [.nilFunc]⟩),
  (154, ⟨32, .arr 32 3 1 false, []⟩),
  (155, ⟨34, .struct [(0, 1, false), (1, 32, true), (33, 1, false)], []⟩),
  (156, ⟨34, .struct [(0, 1, false), (1, 32, true), (33, 1, false)], []⟩),
  (157, ⟨321, .struct [(0, 1, false), (1, 320, true)], []⟩),
  (158, ⟨321, .struct [(0, 1, false), (1, 320, true)], []⟩),
  (159, ⟨1, .other, [.nilFunc]⟩),
  (160, ⟨1, .other, [.nilFunc]⟩),
  (161, ⟨1, .other, [.nilFunc]⟩),
  (162, ⟨1, .other, [.nilFunc]⟩),
  (163, ⟨1, .slice 74 8 true, [.slice none 0 0]⟩),
  (164, ⟨1, .other, [.nilFunc]⟩),
  (165, ⟨1, .other, [.nilFunc]⟩),
  (166, ⟨1, .other, [.nilFunc]⟩),
  (167, ⟨1, .other, [.map none]⟩),
  (168, ⟨1, .other, [.nilFunc]⟩),
  (169, ⟨1, .other, [.nilFunc]⟩),
  (170, ⟨1, .other, [.nilFunc]⟩),
  (171, ⟨1, .other, [.nilFunc]⟩),
  (172, ⟨1, .other, [.nilFunc]⟩),
  (173, ⟨1, .other, [.nilFunc]⟩),
  (174, ⟨1, .ptr, [.pointer none]⟩),
  (176, ⟨1, .other, [.nilFunc]⟩),
  (177, ⟨1, .other, [.nilFunc]⟩),
  (178, ⟨1, .other, [.nilFunc]⟩),
  (179, ⟨3, .arr 3 9 1 false, [.string ByteArray.empty, .string ByteArray.empty, .string ByteArray.empty]⟩),
  (180, ⟨1, .other, [.nilFunc]⟩),
  (181, ⟨1, .slice 9 1 false, [.slice none 0 0]⟩),
  (187, ⟨1, .iface, [.nilIface]⟩),
  (189, ⟨1, .other, [.nilFunc]⟩),
  (190, ⟨1, .iface, [.nilIface]⟩),
  (191, ⟨1, .other, [.nilFunc]⟩),
  (192, ⟨1, .iface, [.nilIface]⟩),
  (193, ⟨1, .other, [.nilFunc]⟩),
  (194, ⟨1, .iface, [.nilIface]⟩),
  (196, ⟨1, .other, [.nilFunc]⟩),
  (197, ⟨1, .slice 5 1 false, [.slice none 0 0]⟩),
  (198, ⟨1, .other, [.int .u64 0]⟩),
  (199, ⟨1, .other, [.nilFunc]⟩),
  (200, ⟨1, .other, [.nilFunc]⟩),
  (201, ⟨1, .other, [.map none]⟩),
  (202, ⟨1, .other, [.nilFunc]⟩),
  (203, ⟨2, .struct [(0, 1, false), (1, 1, false)], [.int .i64 0, .int .i64 0]⟩),
  (204, ⟨2, .struct [(0, 1, false), (1, 1, false)], [.int .i64 0, .int .i64 0]⟩),
  (205, ⟨1, .other, [.nilFunc]⟩),
  (206, ⟨1, .other, [.nilFunc]⟩),
  (207, ⟨1, .ptr, [.pointer none]⟩),
  (208, ⟨2, .struct [(0, 1, false), (1, 1, false)], [.pointer none, .slice none 0 0]⟩),
  (209, ⟨2, .struct [(0, 1, false), (1, 1, false)], [.pointer none, .slice none 0 0]⟩),
  (210, ⟨1, .other, [.nilFunc]⟩),
  (211, ⟨1, .other, [.int .u32 0]⟩),
  (212, ⟨1, .ptr, [.pointer none]⟩),
  (213, ⟨1, .other, [.nilFunc]⟩),
  (214, ⟨1, .other, [.nilFunc]⟩),
  (215, ⟨1, .other, [.nilFunc]⟩),
  (216, ⟨24, .arr 24 5 1 false, []⟩),
  (217, ⟨1, .other, [.int .u64 0]⟩),
  (218, ⟨1, .other, [.nilFunc]⟩),
  (219, ⟨1, .other, [.nilFunc]⟩),
  (221, ⟨1, .other, [.nilFunc]⟩),
  (222, ⟨1, .other, [.nilFunc]⟩),
  (223, ⟨1, .other, [.nilFunc]⟩),
  (224, ⟨20, .arr 20 217 1 false, []⟩),
  (225, ⟨65, .arr 65 5 1 false, []⟩),
  (226, ⟨1, .other, [.nilFunc]⟩),
  (227, ⟨1, .other, [.nilFunc]⟩),
  (228, ⟨1, .other, [.nilFunc]⟩),
  (229, ⟨32, .arr 32 5 1 false, []⟩),
  (237, ⟨1, .other, [.nilFunc]⟩),
  (242, ⟨1, .other, [.nilFunc]⟩),
  (248, ⟨1, .other, [.int .u16 0]⟩),
  (255, ⟨1, .ptr, [.pointer none]⟩)]
theorem tabOk1 : TIok Tryd.prog 1 ⟨1, .other, [.nilFunc]⟩ := ⟨by kernel_rfl, by kernel_rfl, .inr (by kernel_rfl)⟩
theorem tabOk2 : TIok Tryd.prog 2 ⟨1, .int, [.int .i64 0]⟩ := ⟨by kernel_rfl, by kernel_rfl, .inr (by kernel_rfl)⟩
theorem tabOk3 : TIok Tryd.prog 3 ⟨1, .int, [.int .i64 0]⟩ := ⟨by kernel_rfl, by kernel_rfl, .inr (by kernel_rfl)⟩
theorem tabOk4 : TIok Tryd.prog 4 ⟨1, .bool, [.bool false]⟩ := ⟨by kernel_rfl, by kernel_rfl, .inr (by kernel_rfl)⟩
theorem tabOk5 : TIok Tryd.prog 5 ⟨1, .other, [.int .u8 0]⟩ := ⟨by kernel_rfl, by kernel_rfl, .inr (by kernel_rfl)⟩
theorem tabOk9 : TIok Tryd.prog 9 ⟨1, .str, [.string ByteArray.empty]⟩ := ⟨by kernel_rfl, by kernel_rfl, .inr (by kernel_rfl)⟩
theorem tabOk12 : TIok Tryd.prog 12 ⟨1, .other, [.int .u64 0]⟩ := ⟨by kernel_rfl, by kernel_rfl, .inr (by kernel_rfl)⟩
theorem tabOk13 : TIok Tryd.prog 13 ⟨2, .struct [(0, 1, false), (1, 1, false)], [.string ByteArray.empty, .int .u64 0]⟩ := ⟨by kernel_rfl, by kernel_rfl, .inr (by kernel_rfl)⟩
theorem tabOk20 : TIok Tryd.prog 20 ⟨1, .iface, [.nilIface]⟩ := ⟨by kernel_rfl, by kernel_rfl, .inr (by kernel_rfl)⟩
theorem tabOk21 : TIok Tryd.prog 21 ⟨1, .other, [.int .i32 0]⟩ := ⟨by kernel_rfl, by kernel_rfl, .inr (by kernel_rfl)⟩
theorem tabOk22 : TIok Tryd.prog 22 ⟨1, .slice 24 5 true, [.slice none 0 0]⟩ := ⟨by kernel_rfl, by kernel_rfl, .inr (by kernel_rfl)⟩
theorem tabOk23 : TIok Tryd.prog 23 ⟨5, .struct [(0, 1, false), (1, 1, false), (2, 1, false), (3, 1, false), (4, 1, false)], [.bool false, .bool false, .int .i64 0, .int .i64 0, .int .i64 0]⟩ := ⟨by kernel_rfl, by kernel_rfl, .inr (by kernel_rfl)⟩
theorem tabOk24 : TIok Tryd.prog 24 ⟨5, .struct [(0, 1, false), (1, 1, false), (2, 1, false), (3, 1, false), (4, 1, false)], [.bool false, .bool false, .int .i64 0, .int .i64 0, .int .i64 0]⟩ := ⟨by kernel_rfl, by kernel_rfl, .inr (by kernel_rfl)⟩
theorem tabOk25 : TIok Tryd.prog 25 ⟨2, .struct [(0, 1, false), (1, 1, false)], [.int .i64 0, .int .i64 0]⟩ := ⟨by kernel_rfl, by kernel_rfl, .inr (by kernel_rfl)⟩
theorem tabOk26 : TIok Tryd.prog 26 ⟨2, .struct [(0, 1, false), (1, 1, false)], [.int .i64 0, .int .i64 0]⟩ := ⟨by kernel_rfl, by kernel_rfl, .inr (by kernel_rfl)⟩
theorem tabOk27 : TIok Tryd.prog 27 ⟨6, .struct [(0, 1, false), (1, 2, true), (3, 2, true), (5, 1, false)], [.int .i64 0, .int .i64 0, .int .i64 0, .int .i64 0, .int .i64 0, .int .i64 0]⟩ := ⟨by kernel_rfl, by kernel_rfl, .inr (by kernel_rfl)⟩
theorem tabOk28 : TIok Tryd.prog 28 ⟨6, .struct [(0, 1, false), (1, 2, true), (3, 2, true), (5, 1, false)], [.int .i64 0, .int .i64 0, .int .i64 0, .int .i64 0, .int .i64 0, .int .i64 0]⟩ := ⟨by kernel_rfl, by kernel_rfl, .inr (by kernel_rfl)⟩
theorem tabOk29 : TIok Tryd.prog 29 ⟨1, .other, [.nilFunc]⟩ := ⟨by kernel_rfl, by kernel_rfl, .inr (by kernel_rfl)⟩
theorem tabOk30 : TIok Tryd.prog 30 ⟨1, .other, [.nilFunc]⟩ := ⟨by kernel_rfl, by kernel_rfl, .inr (by kernel_rfl)⟩
theorem tabOk31 : TIok Tryd.prog 31 ⟨1, .iface, [.nilIface]⟩ := ⟨by kernel_rfl, by kernel_rfl, .inr (by kernel_rfl)⟩
theorem tabOk32 : TIok Tryd.prog 32 ⟨1, .iface, [.nilIface]⟩ := ⟨by kernel_rfl, by kernel_rfl, .inr (by kernel_rfl)⟩
theorem tabOk34 : TIok Tryd.prog 34 ⟨1, .other, [.nilFunc]⟩ := ⟨by kernel_rfl, by kernel_rfl, .inr (by kernel_rfl)⟩
theorem tabOk35 : TIok Tryd.prog 35 ⟨1, .other, [.nilFunc]⟩ := ⟨by kernel_rfl, by kernel_rfl, .inr (by kernel_rfl)⟩
theorem tabOk36 : TIok Tryd.prog 36 ⟨1, .other, [.nilFunc]⟩ := ⟨by kernel_rfl, by kernel_rfl, .inr (by kernel_rfl)⟩
theorem tabOk37 : TIok Tryd.prog 37 ⟨1, .other, [.nilFunc]⟩ := ⟨by kernel_rfl, by kernel_rfl, .inr (by kernel_rfl)⟩
theorem tabOk38 : TIok Tryd.prog 38 ⟨1, .other, [.nilFunc]⟩ := ⟨by kernel_rfl, by kernel_rfl, .inr (by kernel_rfl)⟩
theorem tabOk39 : TIok Tryd.prog 39 ⟨1, .other, [.nilFunc]⟩ := ⟨by kernel_rfl, by kernel_rfl, .inr (by kernel_rfl)⟩
theorem tabOk40 : TIok Tryd.prog 40 ⟨2, .struct [(0, 1, false), (1, 1, false)], [.int .i64 0, .int .i64 0]⟩ := ⟨by kernel_rfl, by kernel_rfl, .inr (by kernel_rfl)⟩
theorem tabOk41 : TIok Tryd.prog 41 ⟨2, .struct [(0, 1, false), (1, 1, false)], [.int .i64 0, .int .i64 0]⟩ := ⟨by kernel_rfl, by kernel_rfl, .inr (by kernel_rfl)⟩
theorem tabOk42 : TIok Tryd.prog 42 ⟨1, .other, [.nilFunc]⟩ := ⟨by kernel_rfl, by kernel_rfl, .inr (by kernel_rfl)⟩
theorem tabOk43 : TIok Tryd.prog 43 ⟨1, .other, [.nilFunc]⟩ := ⟨by kernel_rfl, by kernel_rfl, .inr (by kernel_rfl)⟩
theorem tabOk44 : TIok Tryd.prog 44 ⟨1, .other, [.nilFunc]⟩ := ⟨by kernel_rfl, by kernel_rfl, .inr (by kernel_rfl)⟩
theorem tabOk45 : TIok Tryd.prog 45 ⟨1, .other, [.nilFunc]⟩ := ⟨by kernel_rfl, by kernel_rfl, .inr (by kernel_rfl)⟩
theorem tabOk46 : TIok Tryd.prog 46 ⟨1, .other, [.nilFunc]⟩ := ⟨by kernel_rfl, by kernel_rfl, .inr (by kernel_rfl)⟩
theorem tabOk47 : TIok Tryd.prog 47 ⟨1, .other, [.nilFunc]⟩ := ⟨by kernel_rfl, by kernel_rfl, .inr (by kernel_rfl)⟩
theorem tabOk48 : TIok Tryd.prog 48 ⟨1, .slice 3 1 false, [.slice none 0 0]⟩ := ⟨by kernel_rfl, by kernel_rfl, .inr (by kernel_rfl)⟩
theorem tabOk49 : TIok Tryd.prog 49 ⟨1, .other, [.nilFunc]⟩ := ⟨by kernel_rfl, by kernel_rfl, .inr (by kernel_rfl)⟩
theorem tabOk50 : TIok Tryd.prog 50 ⟨1, .slice 32 1 false, [.slice none 0 0]⟩ := ⟨by kernel_rfl, by kernel_rfl, .inr (by kernel_rfl)⟩
theorem tabOk52 : TIok Tryd.prog 52 ⟨1, .other, [.nilFunc]⟩ := ⟨by kernel_rfl, by kernel_rfl, .inr (by kernel_rfl)⟩
theorem tabOk53 : TIok Tryd.prog 53 ⟨1, .ptr, [.pointer none]⟩ := ⟨by kernel_rfl, by kernel_rfl, .inr (by kernel_rfl)⟩
theorem tabOk54 : TIok Tryd.prog 54 ⟨2, .struct [(0, 1, false), (1, 1, false)], [.int .i64 0, .nilIface]⟩ := ⟨by kernel_rfl, by kernel_rfl, .inr (by kernel_rfl)⟩
theorem tabOk55 : TIok Tryd.prog 55 ⟨2, .struct [(0, 1, false), (1, 1, false)], [.int .i64 0, .nilIface]⟩ := ⟨by kernel_rfl, by kernel_rfl, .inr (by kernel_rfl)⟩
theorem tabOk56 : TIok Tryd.prog 56 ⟨1, .other, [.nilFunc]⟩ := ⟨by kernel_rfl, by kernel_rfl, .inr (by kernel_rfl)⟩
theorem tabOk57 : TIok Tryd.prog 57 ⟨1, .other, [.nilFunc]⟩ := ⟨by kernel_rfl, by kernel_rfl, .inr (by kernel_rfl)⟩
theorem tabOk58 : TIok Tryd.prog 58 ⟨1, .ptr, [.pointer none]⟩ := ⟨by kernel_rfl, by kernel_rfl, .inr (by kernel_rfl)⟩
theorem tabOk59 : TIok Tryd.prog 59 ⟨1, .other, [.nilFunc]⟩ := ⟨by kernel_rfl, by kernel_rfl, .inr (by kernel_rfl)⟩
theorem tabOk60 : TIok Tryd.prog 60 ⟨1, .ptr, [.pointer none]⟩ := ⟨by kernel_rfl, by kernel_rfl, .inr (by kernel_rfl)⟩
theorem tabOk62 : TIok Tryd.prog 62 ⟨1, .other, [.nilFunc]⟩ := ⟨by kernel_rfl, by kernel_rfl, .inr (by kernel_rfl)⟩
theorem tabOk63 : TIok Tryd.prog 63 ⟨1, .other, [.nilFunc]⟩ := ⟨by kernel_rfl, by kernel_rfl, .inr (by kernel_rfl)⟩
theorem tabOk64 : TIok Tryd.prog 64 ⟨1, .ptr, [.pointer none]⟩ := ⟨by kernel_rfl, by kernel_rfl, .inr (by kernel_rfl)⟩
theorem tabOk65 : TIok Tryd.prog 65 ⟨1, .ptr, [.pointer none]⟩ := ⟨by kernel_rfl, by kernel_rfl, .inr (by kernel_rfl)⟩
theorem tabOk66 : TIok Tryd.prog 66 ⟨1, .ptr, [.pointer none]⟩ := ⟨by kernel_rfl, by kernel_rfl, .inr (by kernel_rfl)⟩
theorem tabOk67 : TIok Tryd.prog 67 ⟨1, .ptr, [.pointer none]⟩ := ⟨by kernel_rfl, by kernel_rfl, .inr (by kernel_rfl)⟩
theorem tabOk68 : TIok Tryd.prog 68 ⟨1, .ptr, [.pointer none]⟩ := ⟨by kernel_rfl, by kernel_rfl, .inr (by kernel_rfl)⟩
theorem tabOk69 : TIok Tryd.prog 69 ⟨8, .struct [(0, 1, false), (1, 1, false), (2, 1, false), (3, 1, false), (4, 1, false), (5, 1, false), (6, 1, false), (7, 1, false)], [.pointer none, .int .i64 0, .int .i64 0, .pointer none, .pointer none, .pointer none, .pointer none, .slice none 0 0]⟩ := ⟨by kernel_rfl, by kernel_rfl, .inr (by kernel_rfl)⟩
theorem tabOk70 : TIok Tryd.prog 70 ⟨8, .struct [(0, 1, false), (1, 1, false), (2, 1, false), (3, 1, false), (4, 1, false), (5, 1, false), (6, 1, false), (7, 1, false)], [.pointer none, .int .i64 0, .int .i64 0, .pointer none, .pointer none, .pointer none, .pointer none, .slice none 0 0]⟩ := ⟨by kernel_rfl, by kernel_rfl, .inr (by kernel_rfl)⟩
theorem tabOk71 : TIok Tryd.prog 71 ⟨1, .slice 76 10 true, [.slice none 0 0]⟩ := ⟨by kernel_rfl, by kernel_rfl, .inr (by kernel_rfl)⟩
theorem tabOk72 : TIok Tryd.prog 72 ⟨1, .other, [.nilFunc]⟩ := ⟨by kernel_rfl, by kernel_rfl, .inr (by kernel_rfl)⟩
theorem tabOk73 : TIok Tryd.prog 73 ⟨8, .struct [(0, 1, false), (1, 2, true), (3, 2, true), (5, 1, false), (6, 1, false), (7, 1, false)], [.int .i64 0, .int .i64 0, .int .i64 0, .int .i64 0, .int .i64 0, .int .i64 0, .int .i64 0, .int .i64 0]⟩ := ⟨by kernel_rfl, by kernel_rfl, .inr (by kernel_rfl)⟩
theorem tabOk74 : TIok Tryd.prog 74 ⟨8, .struct [(0, 1, false), (1, 2, true), (3, 2, true), (5, 1, false), (6, 1, false), (7, 1, false)], [.int .i64 0, .int .i64 0, .int .i64 0, .int .i64 0, .int .i64 0, .int .i64 0, .int .i64 0, .int .i64 0]⟩ := ⟨by kernel_rfl, by kernel_rfl, .inr (by kernel_rfl)⟩
theorem tabOk75 : TIok Tryd.prog 75 ⟨10, .struct [(0, 1, false), (1, 1, false), (2, 8, true)], [.int .i64 0, .int .i64 0, .int .i64 0, .int .i64 0, .int .i64 0, .int .i64 0, .int .i64 0, .int .i64 0, .int .i64 0, .int .i64 0]⟩ := ⟨by kernel_rfl, by kernel_rfl, .inr (by kernel_rfl)⟩
theorem tabOk76 : TIok Tryd.prog 76 ⟨10, .struct [(0, 1, false), (1, 1, false), (2, 8, true)], [.int .i64 0, .int .i64 0, .int .i64 0, .int .i64 0, .int .i64 0, .int .i64 0, .int .i64 0, .int .i64 0, .int .i64 0, .int .i64 0]⟩ := ⟨by kernel_rfl, by kernel_rfl, .inr (by kernel_rfl)⟩
theorem tabOk77 : TIok Tryd.prog 77 ⟨1, .slice 118 5 true, [.slice none 0 0]⟩ := ⟨by kernel_rfl, by kernel_rfl, .inr (by kernel_rfl)⟩
theorem tabOk79 : TIok Tryd.prog 79 ⟨1, .other, [.nilFunc]⟩ := ⟨by kernel_rfl, by kernel_rfl, .inr (by kernel_rfl)⟩
theorem tabOk80 : TIok Tryd.prog 80 ⟨1, .other, [.nilFunc]⟩ := ⟨by kernel_rfl, by kernel_rfl, .inr (by kernel_rfl)⟩
theorem tabOk82 : TIok Tryd.prog 82 ⟨1, .other, [.nilFunc]⟩ := ⟨by kernel_rfl, by kernel_rfl, .inr (by kernel_rfl)⟩
theorem tabOk83 : TIok Tryd.prog 83 ⟨1, .other, [.nilFunc]⟩ := ⟨by kernel_rfl, by kernel_rfl, .inr (by kernel_rfl)⟩
theorem tabOk84 : TIok Tryd.prog 84 ⟨1, .slice 26 2 true, [.slice none 0 0]⟩ := ⟨by kernel_rfl, by kernel_rfl, .inr (by kernel_rfl)⟩
theorem tabOk85 : TIok Tryd.prog 85 ⟨1, .other, [.nilFunc]⟩ := ⟨by kernel_rfl, by kernel_rfl, .inr (by kernel_rfl)⟩
theorem tabOk87 : TIok Tryd.prog 87 ⟨1, .other, [.nilFunc]⟩ := ⟨by kernel_rfl, by kernel_rfl, .inr (by kernel_rfl)⟩
theorem tabOk88 : TIok Tryd.prog 88 ⟨1, .other, [.nilFunc]⟩ := ⟨by kernel_rfl, by kernel_rfl, .inr (by kernel_rfl)⟩
theorem tabOk89 : TIok Tryd.prog 89 ⟨1, .other, [.nilFunc]⟩ := ⟨by kernel_rfl, by kernel_rfl, .inr (by kernel_rfl)⟩
theorem tabOk90 : TIok Tryd.prog 90 ⟨1, .other, [.nilFunc]⟩ := ⟨by kernel_rfl, by kernel_rfl, .inr (by kernel_rfl)⟩
theorem tabOk91 : TIok Tryd.prog 91 ⟨1, .other, [.nilFunc]⟩ := ⟨by kernel_rfl, by kernel_rfl, .inr (by kernel_rfl)⟩
theorem tabOk92 : TIok Tryd.prog 92 ⟨1, .other, [.nilFunc]⟩ := ⟨by kernel_rfl, by kernel_rfl, .inr (by kernel_rfl)⟩
theorem tabOk93 : TIok Tryd.prog 93 ⟨1, .slice 4 1 false, [.slice none 0 0]⟩ := ⟨by kernel_rfl, by kernel_rfl, .inr (by kernel_rfl)⟩
theorem tabOk94 : TIok Tryd.prog 94 ⟨1, .other, [.nilFunc]⟩ := ⟨by kernel_rfl, by kernel_rfl, .inr (by kernel_rfl)⟩
theorem tabOk95 : TIok Tryd.prog 95 ⟨1, .other, [.nilFunc]⟩ := ⟨by kernel_rfl, by kernel_rfl, .inr (by kernel_rfl)⟩
theorem tabOk96 : TIok Tryd.prog 96 ⟨1, .ptr, [.pointer none]⟩ := ⟨by kernel_rfl, by kernel_rfl, .inr (by kernel_rfl)⟩
theorem tabOk97 : TIok Tryd.prog 97 ⟨1, .other, [.nilFunc]⟩ := ⟨by kernel_rfl, by kernel_rfl, .inr (by kernel_rfl)⟩
theorem tabOk98 : TIok Tryd.prog 98 ⟨1, .ptr, [.pointer none]⟩ := ⟨by kernel_rfl, by kernel_rfl, .inr (by kernel_rfl)⟩
theorem tabOk99 : TIok Tryd.prog 99 ⟨1, .struct [(0, 1, false)], [.string ByteArray.empty]⟩ := ⟨by kernel_rfl, by kernel_rfl, .inr (by kernel_rfl)⟩
theorem tabOk100 : TIok Tryd.prog 100 ⟨1, .struct [(0, 1, false)], [.string ByteArray.empty]⟩ := ⟨by kernel_rfl, by kernel_rfl, .inr (by kernel_rfl)⟩
theorem tabOk101 : TIok Tryd.prog 101 ⟨64, .arr 64 5 1 false, []⟩ := ⟨by kernel_rfl, by kernel_rfl, .inl rfl⟩
theorem tabOk102 : TIok Tryd.prog 102 ⟨66, .struct [(0, 64, true), (64, 1, false), (65, 1, false)], []⟩ := ⟨by kernel_rfl, by kernel_rfl, .inl rfl⟩
theorem tabOk103 : TIok Tryd.prog 103 ⟨66, .struct [(0, 64, true), (64, 1, false), (65, 1, false)], []⟩ := ⟨by kernel_rfl, by kernel_rfl, .inl rfl⟩
theorem tabOk105 : TIok Tryd.prog 105 ⟨1, .other, [.nilFunc]⟩ := ⟨by kernel_rfl, by kernel_rfl, .inr (by kernel_rfl)⟩
theorem tabOk107 : TIok Tryd.prog 107 ⟨1, .other, [.nilFunc]⟩ := ⟨by kernel_rfl, by kernel_rfl, .inr (by kernel_rfl)⟩
theorem tabOk108 : TIok Tryd.prog 108 ⟨1, .other, [.nilFunc]⟩ := ⟨by kernel_rfl, by kernel_rfl, .inr (by kernel_rfl)⟩
theorem tabOk110 : TIok Tryd.prog 110 ⟨1, .other, [.nilFunc]⟩ := ⟨by kernel_rfl, by kernel_rfl, .inr (by kernel_rfl)⟩
theorem tabOk111 : TIok Tryd.prog 111 ⟨1, .other, [.nilFunc]⟩ := ⟨by kernel_rfl, by kernel_rfl, .inr (by kernel_rfl)⟩
theorem tabOk112 : TIok Tryd.prog 112 ⟨1, .other, [.nilFunc]⟩ := ⟨by kernel_rfl, by kernel_rfl, .inr (by kernel_rfl)⟩
theorem tabOk113 : TIok Tryd.prog 113 ⟨4, .struct [(0, 1, false), (1, 1, false), (2, 1, false), (3, 1, false)], [.int .i64 0, .int .i64 0, .int .i64 0, .bool false]⟩ := ⟨by kernel_rfl, by kernel_rfl, .inr (by kernel_rfl)⟩
theorem tabOk114 : TIok Tryd.prog 114 ⟨4, .struct [(0, 1, false), (1, 1, false), (2, 1, false), (3, 1, false)], [.int .i64 0, .int .i64 0, .int .i64 0, .bool false]⟩ := ⟨by kernel_rfl, by kernel_rfl, .inr (by kernel_rfl)⟩
theorem tabOk115 : TIok Tryd.prog 115 ⟨1, .other, [.nilFunc]⟩ := ⟨by kernel_rfl, by kernel_rfl, .inr (by kernel_rfl)⟩
theorem tabOk116 : TIok Tryd.prog 116 ⟨1, .other, [.nilFunc]⟩ := ⟨by kernel_rfl, by kernel_rfl, .inr (by kernel_rfl)⟩
theorem tabOk117 : TIok Tryd.prog 117 ⟨5, .struct [(0, 1, false), (1, 1, false), (2, 1, false), (3, 1, false), (4, 1, false)], [.int .i64 0, .int .i64 0, .int .i64 0, .bool false, .slice none 0 0]⟩ := ⟨by kernel_rfl, by kernel_rfl, .inr (by kernel_rfl)⟩
theorem tabOk118 : TIok Tryd.prog 118 ⟨5, .struct [(0, 1, false), (1, 1, false), (2, 1, false), (3, 1, false), (4, 1, false)], [.int .i64 0, .int .i64 0, .int .i64 0, .bool false, .slice none 0 0]⟩ := ⟨by kernel_rfl, by kernel_rfl, .inr (by kernel_rfl)⟩
theorem tabOk120 : TIok Tryd.prog 120 ⟨1, .other, [.nilFunc]⟩ := ⟨by kernel_rfl, by kernel_rfl, .inr (by kernel_rfl)⟩
theorem tabOk122 : TIok Tryd.prog 122 ⟨1, .other, [.nilFunc]⟩ := ⟨by kernel_rfl, by kernel_rfl, .inr (by kernel_rfl)⟩
theorem tabOk124 : TIok Tryd.prog 124 ⟨1, .other, [.nilFunc]⟩ := ⟨by kernel_rfl, by kernel_rfl, .inr (by kernel_rfl)⟩
theorem tabOk126 : TIok Tryd.prog 126 ⟨1, .other, [.nilFunc]⟩ := ⟨by kernel_rfl, by kernel_rfl, .inr (by kernel_rfl)⟩
theorem tabOk127 : TIok Tryd.prog 127 ⟨1, .other, [.nilFunc]⟩ := ⟨by kernel_rfl, by kernel_rfl, .inr (by kernel_rfl)⟩
theorem tabOk128 : TIok Tryd.prog 128 ⟨1, .other, [.nilFunc]⟩ := ⟨by kernel_rfl, by kernel_rfl, .inr (by kernel_rfl)⟩
theorem tabOk129 : TIok Tryd.prog 129 ⟨1, .slice 22 1 false, [.slice none 0 0]⟩ := ⟨by kernel_rfl, by kernel_rfl, .inr (by kernel_rfl)⟩
theorem tabOk130 : TIok Tryd.prog 130 ⟨1, .other, [.nilFunc]⟩ := ⟨by kernel_rfl, by kernel_rfl, .inr (by kernel_rfl)⟩
theorem tabOk134 : TIok Tryd.prog 134 ⟨3, .struct [(0, 1, false), (1, 1, false), (2, 1, false)], [.pointer none, .pointer none, .int .u64 0]⟩ := ⟨by kernel_rfl, by kernel_rfl, .inr (by kernel_rfl)⟩
theorem tabOk137 : TIok Tryd.prog 137 ⟨1, .iface, [.nilIface]⟩ := ⟨by kernel_rfl, by kernel_rfl, .inr (by kernel_rfl)⟩
theorem tabOk139 : TIok Tryd.prog 139 ⟨1, .other, [.int .u8 0]⟩ := ⟨by kernel_rfl, by kernel_rfl, .inr (by kernel_rfl)⟩
theorem tabOk144 : TIok Tryd.prog 144 ⟨1, .other, [.nilFunc]⟩ := ⟨by kernel_rfl, by kernel_rfl, .inr (by kernel_rfl)⟩
theorem tabOk145 : TIok Tryd.prog 145 ⟨320, .arr 32 76 10 true, []⟩ := ⟨by kernel_rfl, by kernel_rfl, .inl rfl⟩
theorem tabOk146 : TIok Tryd.prog 146 ⟨321, .struct [(0, 1, false), (1, 320, true)], []⟩ := ⟨by kernel_rfl, by kernel_rfl, .inl rfl⟩
theorem tabOk147 : TIok Tryd.prog 147 ⟨321, .struct [(0, 1, false), (1, 320, true)], []⟩ := ⟨by kernel_rfl, by kernel_rfl, .inl rfl⟩
theorem tabOk148 : TIok Tryd.prog 148 ⟨5, .struct [(0, 1, false), (1, 1, false), (2, 1, false), (3, 1, false), (4, 1, false)], [.pointer none, .int .i64 0, .int .i64 0, .int .i64 0, .bool false]⟩ := ⟨by kernel_rfl, by kernel_rfl, .inr (by kernel_rfl)⟩
theorem tabOk149 : TIok Tryd.prog 149 ⟨5, .struct [(0, 1, false), (1, 1, false), (2, 1, false), (3, 1, false), (4, 1, false)], [.pointer none, .int .i64 0, .int .i64 0, .int .i64 0, .bool false]⟩ := ⟨by kernel_rfl, by kernel_rfl, .inr (by kernel_rfl)⟩
theorem tabOk150 : TIok Tryd.prog 150 ⟨1, .other, [.nilFunc]⟩ := ⟨by kernel_rfl, by kernel_rfl, .inr (by kernel_rfl)⟩
theorem tabOk151 : TIok Tryd.prog 151 ⟨1, .other, [.nilFunc]⟩ := ⟨by kernel_rfl, by kernel_rfl, .inr (by kernel_rfl)⟩
theorem tabOk152 : TIok Tryd.prog 152 ⟨1, .other, [.nilFunc]⟩ := ⟨by kernel_rfl, by kernel_rfl, .inr (by kernel_rfl)⟩
theorem tabOk153 : TIok Tryd.prog 153 ⟨1, .other, [.nilFunc]⟩ := ⟨by kernel_rfl, by kernel_rfl, .inr (by kernel_rfl)⟩
theorem tabOk154 : TIok Tryd.prog 154 ⟨32, .arr 32 3 1 false, []⟩ := ⟨by kernel_rfl, by kernel_rfl, .inl rfl⟩
theorem tabOk155 : TIok Tryd.prog 155 ⟨34, .struct [(0, 1, false), (1, 32, true), (33, 1, false)], []⟩ := ⟨by kernel_rfl, by kernel_rfl, .inl rfl⟩
theorem tabOk156 : TIok Tryd.prog 156 ⟨34, .struct [(0, 1, false), (1, 32, true), (33, 1, false)], []⟩ := ⟨by kernel_rfl, by kernel_rfl, .inl rfl⟩
theorem tabOk157 : TIok Tryd.prog 157 ⟨321, .struct [(0, 1, false), (1, 320, true)], []⟩ := ⟨by kernel_rfl, by kernel_rfl, .inl rfl⟩
theorem tabOk158 : TIok Tryd.prog 158 ⟨321, .struct [(0, 1, false), (1, 320, true)], []⟩ := ⟨by kernel_rfl, by kernel_rfl, .inl rfl⟩
theorem tabOk159 : TIok Tryd.prog 159 ⟨1, .other, [.nilFunc]⟩ := ⟨by kernel_rfl, by kernel_rfl, .inr (by kernel_rfl)⟩
theorem tabOk160 : TIok Tryd.prog 160 ⟨1, .other, [.nilFunc]⟩ := ⟨by kernel_rfl, by kernel_rfl, .inr (by kernel_rfl)⟩
theorem tabOk161 : TIok Tryd.prog 161 ⟨1, .other, [.nilFunc]⟩ := ⟨by kernel_rfl, by kernel_rfl, .inr (by kernel_rfl)⟩
theorem tabOk162 : TIok Tryd.prog 162 ⟨1, .other, [.nilFunc]⟩ := ⟨by kernel_rfl, by kernel_rfl, .inr (by kernel_rfl)⟩
theorem tabOk163 : TIok Tryd.prog 163 ⟨1, .slice 74 8 true, [.slice none 0 0]⟩ := ⟨by kernel_rfl, by kernel_rfl, .inr (by kernel_rfl)⟩
theorem tabOk164 : TIok Tryd.prog 164 ⟨1, .other, [.nilFunc]⟩ := ⟨by kernel_rfl, by kernel_rfl, .inr (by kernel_rfl)⟩
theorem tabOk165 : TIok Tryd.prog 165 ⟨1, .other, [.nilFunc]⟩ := ⟨by kernel_rfl, by kernel_rfl, .inr (by kernel_rfl)⟩
theorem tabOk166 : TIok Tryd.prog 166 ⟨1, .other, [.nilFunc]⟩ := ⟨by kernel_rfl, by kernel_rfl, .inr (by kernel_rfl)⟩
theorem tabOk167 : TIok Tryd.prog 167 ⟨1, .other, [.map none]⟩ := ⟨by kernel_rfl, by kernel_rfl, .inr (by kernel_rfl)⟩
theorem tabOk168 : TIok Tryd.prog 168 ⟨1, .other, [.nilFunc]⟩ := ⟨by kernel_rfl, by kernel_rfl, .inr (by kernel_rfl)⟩
theorem tabOk169 : TIok Tryd.prog 169 ⟨1, .other, [.nilFunc]⟩ := ⟨by kernel_rfl, by kernel_rfl, .inr (by kernel_rfl)⟩
theorem tabOk170 : TIok Tryd.prog 170 ⟨1, .other, [.nilFunc]⟩ := ⟨by kernel_rfl, by kernel_rfl, .inr (by kernel_rfl)⟩
theorem tabOk171 : TIok Tryd.prog 171 ⟨1, .other, [.nilFunc]⟩ := ⟨by kernel_rfl, by kernel_rfl, .inr (by kernel_rfl)⟩
theorem tabOk172 : TIok Tryd.prog 172 ⟨1, .other, [.nilFunc]⟩ := ⟨by kernel_rfl, by kernel_rfl, .inr (by kernel_rfl)⟩
theorem tabOk173 : TIok Tryd.prog 173 ⟨1, .other, [.nilFunc]⟩ := ⟨by kernel_rfl, by kernel_rfl, .inr (by kernel_rfl)⟩
theorem tabOk174 : TIok Tryd.prog 174 ⟨1, .ptr, [.pointer none]⟩ := ⟨by kernel_rfl, by kernel_rfl, .inr (by kernel_rfl)⟩
theorem tabOk176 : TIok Tryd.prog 176 ⟨1, .other, [.nilFunc]⟩ := ⟨by kernel_rfl, by kernel_rfl, .inr (by kernel_rfl)⟩
theorem tabOk177 : TIok Tryd.prog 177 ⟨1, .other, [.nilFunc]⟩ := ⟨by kernel_rfl, by kernel_rfl, .inr (by kernel_rfl)⟩
theorem tabOk178 : TIok Tryd.prog 178 ⟨1, .other, [.nilFunc]⟩ := ⟨by kernel_rfl, by kernel_rfl, .inr (by kernel_rfl)⟩
theorem tabOk179 : TIok Tryd.prog 179 ⟨3, .arr 3 9 1 false, [.string ByteArray.empty, .string ByteArray.empty, .string ByteArray.empty]⟩ := ⟨by kernel_rfl, by kernel_rfl, .inr (by kernel_rfl)⟩
theorem tabOk180 : TIok Tryd.prog 180 ⟨1, .other, [.nilFunc]⟩ := ⟨by kernel_rfl, by kernel_rfl, .inr (by kernel_rfl)⟩
theorem tabOk181 : TIok Tryd.prog 181 ⟨1, .slice 9 1 false, [.slice none 0 0]⟩ := ⟨by kernel_rfl, by kernel_rfl, .inr (by kernel_rfl)⟩
theorem tabOk187 : TIok Tryd.prog 187 ⟨1, .iface, [.nilIface]⟩ := ⟨by kernel_rfl, by kernel_rfl, .inr (by kernel_rfl)⟩
theorem tabOk189 : TIok Tryd.prog 189 ⟨1, .other, [.nilFunc]⟩ := ⟨by kernel_rfl, by kernel_rfl, .inr (by kernel_rfl)⟩
theorem tabOk190 : TIok Tryd.prog 190 ⟨1, .iface, [.nilIface]⟩ := ⟨by kernel_rfl, by kernel_rfl, .inr (by kernel_rfl)⟩
theorem tabOk191 : TIok Tryd.prog 191 ⟨1, .other, [.nilFunc]⟩ := ⟨by kernel_rfl, by kernel_rfl, .inr (by kernel_rfl)⟩
theorem tabOk192 : TIok Tryd.prog 192 ⟨1, .iface, [.nilIface]⟩ := ⟨by kernel_rfl, by kernel_rfl, .inr (by kernel_rfl)⟩
theorem tabOk193 : TIok Tryd.prog 193 ⟨1, .other, [.nilFunc]⟩ := ⟨by kernel_rfl, by kernel_rfl, .inr (by kernel_rfl)⟩
theorem tabOk194 : TIok Tryd.prog 194 ⟨1, .iface, [.nilIface]⟩ := ⟨by kernel_rfl, by kernel_rfl, .inr (by kernel_rfl)⟩
theorem tabOk196 : TIok Tryd.prog 196 ⟨1, .other, [.nilFunc]⟩ := ⟨by kernel_rfl, by kernel_rfl, .inr (by kernel_rfl)⟩
theorem tabOk197 : TIok Tryd.prog 197 ⟨1, .slice 5 1 false, [.slice none 0 0]⟩ := ⟨by kernel_rfl, by kernel_rfl, .inr (by kernel_rfl)⟩
theorem tabOk198 : TIok Tryd.prog 198 ⟨1, .other, [.int .u64 0]⟩ := ⟨by kernel_rfl, by kernel_rfl, .inr (by kernel_rfl)⟩
theorem tabOk199 : TIok Tryd.prog 199 ⟨1, .other, [.nilFunc]⟩ := ⟨by kernel_rfl, by kernel_rfl, .inr (by kernel_rfl)⟩
theorem tabOk200 : TIok Tryd.prog 200 ⟨1, .other, [.nilFunc]⟩ := ⟨by kernel_rfl, by kernel_rfl, .inr (by kernel_rfl)⟩
theorem tabOk201 : TIok Tryd.prog 201 ⟨1, .other, [.map none]⟩ := ⟨by kernel_rfl, by kernel_rfl, .inr (by kernel_rfl)⟩
theorem tabOk202 : TIok Tryd.prog 202 ⟨1, .other, [.nilFunc]⟩ := ⟨by kernel_rfl, by kernel_rfl, .inr (by kernel_rfl)⟩
theorem tabOk203 : TIok Tryd.prog 203 ⟨2, .struct [(0, 1, false), (1, 1, false)], [.int .i64 0, .int .i64 0]⟩ := ⟨by kernel_rfl, by kernel_rfl, .inr (by kernel_rfl)⟩
theorem tabOk204 : TIok Tryd.prog 204 ⟨2, .struct [(0, 1, false), (1, 1, false)], [.int .i64 0, .int .i64 0]⟩ := ⟨by kernel_rfl, by kernel_rfl, .inr (by kernel_rfl)⟩
theorem tabOk205 : TIok Tryd.prog 205 ⟨1, .other, [.nilFunc]⟩ := ⟨by kernel_rfl, by kernel_rfl, .inr (by kernel_rfl)⟩
theorem tabOk206 : TIok Tryd.prog 206 ⟨1, .other, [.nilFunc]⟩ := ⟨by kernel_rfl, by kernel_rfl, .inr (by kernel_rfl)⟩
theorem tabOk207 : TIok Tryd.prog 207 ⟨1, .ptr, [.pointer none]⟩ := ⟨by kernel_rfl, by kernel_rfl, .inr (by kernel_rfl)⟩
theorem tabOk208 : TIok Tryd.prog 208 ⟨2, .struct [(0, 1, false), (1, 1, false)], [.pointer none, .slice none 0 0]⟩ := ⟨by kernel_rfl, by kernel_rfl, .inr (by kernel_rfl)⟩
theorem tabOk209 : TIok Tryd.prog 209 ⟨2, .struct [(0, 1, false), (1, 1, false)], [.pointer none, .slice none 0 0]⟩ := ⟨by kernel_rfl, by kernel_rfl, .inr (by kernel_rfl)⟩
theorem tabOk210 : TIok Tryd.prog 210 ⟨1, .other, [.nilFunc]⟩ := ⟨by kernel_rfl, by kernel_rfl, .inr (by kernel_rfl)⟩
theorem tabOk211 : TIok Tryd.prog 211 ⟨1, .other, [.int .u32 0]⟩ := ⟨by kernel_rfl, by kernel_rfl, .inr (by kernel_rfl)⟩
theorem tabOk212 : TIok Tryd.prog 212 ⟨1, .ptr, [.pointer none]⟩ := ⟨by kernel_rfl, by kernel_rfl, .inr (by kernel_rfl)⟩
theorem tabOk213 : TIok Tryd.prog 213 ⟨1, .other, [.nilFunc]⟩ := ⟨by kernel_rfl, by kernel_rfl, .inr (by kernel_rfl)⟩
theorem tabOk214 : TIok Tryd.prog 214 ⟨1, .other, [.nilFunc]⟩ := ⟨by kernel_rfl, by kernel_rfl, .inr (by kernel_rfl)⟩
theorem tabOk215 : TIok Tryd.prog 215 ⟨1, .other, [.nilFunc]⟩ := ⟨by kernel_rfl, by kernel_rfl, .inr (by kernel_rfl)⟩
theorem tabOk216 : TIok Tryd.prog 216 ⟨24, .arr 24 5 1 false, []⟩ := ⟨by kernel_rfl, by kernel_rfl, .inl rfl⟩
theorem tabOk217 : TIok Tryd.prog 217 ⟨1, .other, [.int .u64 0]⟩ := ⟨by kernel_rfl, by kernel_rfl, .inr (by kernel_rfl)⟩
theorem tabOk218 : TIok Tryd.prog 218 ⟨1, .other, [.nilFunc]⟩ := ⟨by kernel_rfl, by kernel_rfl, .inr (by kernel_rfl)⟩
theorem tabOk219 : TIok Tryd.prog 219 ⟨1, .other, [.nilFunc]⟩ := ⟨by kernel_rfl, by kernel_rfl, .inr (by kernel_rfl)⟩
theorem tabOk221 : TIok Tryd.prog 221 ⟨1, .other, [.nilFunc]⟩ := ⟨by kernel_rfl, by kernel_rfl, .inr (by kernel_rfl)⟩
theorem tabOk222 : TIok Tryd.prog 222 ⟨1, .other, [.nilFunc]⟩ := ⟨by kernel_rfl, by kernel_rfl, .inr (by kernel_rfl)⟩
theorem tabOk223 : TIok Tryd.prog 223 ⟨1, .other, [.nilFunc]⟩ := ⟨by kernel_rfl, by kernel_rfl, .inr (by kernel_rfl)⟩
theorem tabOk224 : TIok Tryd.prog 224 ⟨20, .arr 20 217 1 false, []⟩ := ⟨by kernel_rfl, by kernel_rfl, .inl rfl⟩
theorem tabOk225 : TIok Tryd.prog 225 ⟨65, .arr 65 5 1 false, []⟩ := ⟨by kernel_rfl, by kernel_rfl, .inl rfl⟩
theorem tabOk226 : TIok Tryd.prog 226 ⟨1, .other, [.nilFunc]⟩ := ⟨by kernel_rfl, by kernel_rfl, .inr (by kernel_rfl)⟩
theorem tabOk227 : TIok Tryd.prog 227 ⟨1, .other, [.nilFunc]⟩ := ⟨by kernel_rfl, by kernel_rfl, .inr (by kernel_rfl)⟩
theorem tabOk228 : TIok Tryd.prog 228 ⟨1, .other, [.nilFunc]⟩ := ⟨by kernel_rfl, by kernel_rfl, .inr (by kernel_rfl)⟩
theorem tabOk229 : TIok Tryd.prog 229 ⟨32, .arr 32 5 1 false, []⟩ := ⟨by kernel_rfl, by kernel_rfl, .inl rfl⟩
theorem tabOk237 : TIok Tryd.prog 237 ⟨1, .other, [.nilFunc]⟩ := ⟨by kernel_rfl, by kernel_rfl, .inr (by kernel_rfl)⟩
theorem tabOk242 : TIok Tryd.prog 242 ⟨1, .other, [.nilFunc]⟩ := ⟨by kernel_rfl, by kernel_rfl, .inr (by kernel_rfl)⟩
theorem tabOk248 : TIok Tryd.prog 248 ⟨1, .other, [.int .u16 0]⟩ := ⟨by kernel_rfl, by kernel_rfl, .inr (by kernel_rfl)⟩
theorem tabOk255 : TIok Tryd.prog 255 ⟨1, .ptr, [.pointer none]⟩ := ⟨by kernel_rfl, by kernel_rfl, .inr (by kernel_rfl)⟩
theorem tabOk : TabOk Tryd.prog tab :=
  TabOk.of_all (⟨tabOk1, ⟨tabOk2, ⟨tabOk3, ⟨tabOk4, ⟨tabOk5, ⟨tabOk9, ⟨tabOk12, ⟨tabOk13, ⟨tabOk20, ⟨tabOk21, ⟨tabOk22, ⟨tabOk23, ⟨tabOk24, ⟨tabOk25, ⟨tabOk26, ⟨tabOk27, ⟨tabOk28, ⟨tabOk29, ⟨tabOk30, ⟨tabOk31, ⟨tabOk32, ⟨tabOk34, ⟨tabOk35, ⟨tabOk36, ⟨tabOk37, ⟨tabOk38, ⟨tabOk39, ⟨tabOk40, ⟨tabOk41, ⟨tabOk42, ⟨tabOk43, ⟨tabOk44, ⟨tabOk45, ⟨tabOk46, ⟨tabOk47, ⟨tabOk48, ⟨tabOk49, ⟨tabOk50, ⟨tabOk52, ⟨tabOk53, ⟨tabOk54, ⟨tabOk55, ⟨tabOk56, ⟨tabOk57, ⟨tabOk58, ⟨tabOk59, ⟨tabOk60, ⟨tabOk62, ⟨tabOk63, ⟨tabOk64, ⟨tabOk65, ⟨tabOk66, ⟨tabOk67, ⟨tabOk68, ⟨tabOk69, ⟨tabOk70, ⟨tabOk71, ⟨tabOk72, ⟨tabOk73, ⟨tabOk74, ⟨tabOk75, ⟨tabOk76, ⟨tabOk77, ⟨tabOk79, ⟨tabOk80, ⟨tabOk82, ⟨tabOk83, ⟨tabOk84, ⟨tabOk85, ⟨tabOk87, ⟨tabOk88, ⟨tabOk89, ⟨tabOk90, ⟨tabOk91, ⟨tabOk92, ⟨tabOk93, ⟨tabOk94, ⟨tabOk95, ⟨tabOk96, ⟨tabOk97, ⟨tabOk98, ⟨tabOk99, ⟨tabOk100, ⟨tabOk101, ⟨tabOk102, ⟨tabOk103, ⟨tabOk105, ⟨tabOk107, ⟨tabOk108, ⟨tabOk110, ⟨tabOk111, ⟨tabOk112, ⟨tabOk113, ⟨tabOk114, ⟨tabOk115, ⟨tabOk116, ⟨tabOk117, ⟨tabOk118, ⟨tabOk120, ⟨tabOk122, ⟨tabOk124, ⟨tabOk126, ⟨tabOk127, ⟨tabOk128, ⟨tabOk129, ⟨tabOk130, ⟨tabOk134, ⟨tabOk137, ⟨tabOk139, ⟨tabOk144, ⟨tabOk145, ⟨tabOk146, ⟨tabOk147, ⟨tabOk148, ⟨tabOk149, ⟨tabOk150, ⟨tabOk151, ⟨tabOk152, ⟨tabOk153, ⟨tabOk154, ⟨tabOk155, ⟨tabOk156, ⟨tabOk157, ⟨tabOk158, ⟨tabOk159, ⟨tabOk160, ⟨tabOk161, ⟨tabOk162, ⟨tabOk163, ⟨tabOk164, ⟨tabOk165, ⟨tabOk166, ⟨tabOk167, ⟨tabOk168, ⟨tabOk169, ⟨tabOk170, ⟨tabOk171, ⟨tabOk172, ⟨tabOk173, ⟨tabOk174, ⟨tabOk176, ⟨tabOk177, ⟨tabOk178, ⟨tabOk179, ⟨tabOk180, ⟨tabOk181, ⟨tabOk187, ⟨tabOk189, ⟨tabOk190, ⟨tabOk191, ⟨tabOk192, ⟨tabOk193, ⟨tabOk194, ⟨tabOk196, ⟨tabOk197, ⟨tabOk198, ⟨tabOk199, ⟨tabOk200, ⟨tabOk201, ⟨tabOk202, ⟨tabOk203, ⟨tabOk204, ⟨tabOk205, ⟨tabOk206, ⟨tabOk207, ⟨tabOk208, ⟨tabOk209, ⟨tabOk210, ⟨tabOk211, ⟨tabOk212, ⟨tabOk213, ⟨tabOk214, ⟨tabOk215, ⟨tabOk216, ⟨tabOk217, ⟨tabOk218, ⟨tabOk219, ⟨tabOk221, ⟨tabOk222, ⟨tabOk223, ⟨tabOk224, ⟨tabOk225, ⟨tabOk226, ⟨tabOk227, ⟨tabOk228, ⟨tabOk229, ⟨tabOk237, ⟨tabOk242, ⟨tabOk248, ⟨tabOk255, trivial⟩⟩⟩⟩⟩⟩⟩⟩⟩⟩⟩⟩⟩⟩⟩⟩⟩⟩⟩⟩⟩⟩⟩⟩⟩⟩⟩⟩⟩⟩⟩⟩⟩⟩⟩⟩⟩⟩⟩⟩⟩⟩⟩⟩⟩⟩⟩⟩⟩⟩⟩⟩⟩⟩⟩⟩⟩⟩⟩⟩⟩⟩⟩⟩⟩⟩⟩⟩⟩⟩⟩⟩⟩⟩⟩⟩⟩⟩⟩⟩⟩⟩⟩⟩⟩⟩⟩⟩⟩⟩⟩⟩⟩⟩⟩⟩⟩⟩⟩⟩⟩⟩⟩⟩⟩⟩⟩⟩⟩⟩⟩⟩⟩⟩⟩⟩⟩⟩⟩⟩⟩⟩⟩⟩⟩⟩⟩⟩⟩⟩⟩⟩⟩⟩⟩⟩⟩⟩⟩⟩⟩⟩⟩⟩⟩⟩⟩⟩⟩⟩⟩⟩⟩⟩⟩⟩⟩⟩⟩⟩⟩⟩⟩⟩⟩⟩⟩⟩⟩⟩⟩⟩⟩⟩⟩⟩⟩⟩⟩⟩⟩⟩⟩⟩⟩⟩⟩⟩⟩⟩)
theorem mixed : Tryd.prog.follows .mixedOrders = true := by kernel_rfl
end Go.Proofs.YtakdekkieobbaaaDoor
