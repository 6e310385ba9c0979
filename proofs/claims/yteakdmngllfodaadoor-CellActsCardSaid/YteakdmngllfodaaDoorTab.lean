/-
  The table of the program's types as the evaluator wants it (written by program), and that it is right.
-/
import Derived.Test.YteakdmngllfodaaDoorProg
import Derived.Test.YteakdmngllfodaaDoorEvF
namespace Go.Proofs.YteakdmngllfodaaDoor
open Go Ev
def tab : Tab := [
  (1, ⟨1, .other, [.nilFunc]⟩),
  (2, ⟨1, .int, [.int .i64 0]⟩),
  (3, ⟨1, .int, [.int .i64 0]⟩),
  (4, ⟨1, .bool, [.bool false]⟩),
  (5, ⟨1, .other, [.int .u8 0]⟩),
  (9, ⟨1, .str, [.string ByteArray.empty]⟩),
  (12, ⟨1, .other, [.int .u64 0]⟩),
  (13, ⟨2, .struct [(0, 1, false), (1, 1, false)], [.string ByteArray.empty, .int .u64 0]⟩),
  (20, ⟨1, .iface, [.nilIface]⟩),
  (21, ⟨1, .other, [.int .i32 0]⟩),
  (22, ⟨1, .slice 40 10 true, [.slice none 0 0]⟩),
  (23, ⟨1, .other, [.nilFunc]⟩),
  (24, ⟨1, .ptr, [.pointer none]⟩),
  (25, ⟨1, .iface, [.nilIface]⟩),
  (26, ⟨1, .iface, [.nilIface]⟩),
  (28, ⟨1, .other, [.nilFunc]⟩),
  (29, ⟨1, .ptr, [.pointer none]⟩),
  (30, ⟨1, .other, [.nilFunc]⟩),
  (31, ⟨1, .ptr, [.pointer none]⟩),
  (32, ⟨1, .other, [.nilFunc]⟩),
  (33, ⟨1, .ptr, [.pointer none]⟩),
  (34, ⟨1, .other, [.nilFunc]⟩),
  (35, ⟨2, .struct [(0, 1, false), (1, 1, false)], [.int .i64 0, .int .i64 0]⟩),
  (36, ⟨2, .struct [(0, 1, false), (1, 1, false)], [.int .i64 0, .int .i64 0]⟩),
  (37, ⟨8, .struct [(0, 1, false), (1, 2, true), (3, 2, true), (5, 1, false), (6, 1, false), (7, 1, false)], [.int .i64 0, .int .i64 0, .int .i64 0, .int .i64 0, .int .i64 0, .int .i64 0, .int .i64 0, .int .i64 0]⟩),
  (38, ⟨8, .struct [(0, 1, false), (1, 2, true), (3, 2, true), (5, 1, false), (6, 1, false), (7, 1, false)], [.int .i64 0, .int .i64 0, .int .i64 0, .int .i64 0, .int .i64 0, .int .i64 0, .int .i64 0, .int .i64 0]⟩),
  (39, ⟨10, .struct [(0, 1, false), (1, 1, false), (2, 8, true)], [.string ByteArray.empty, .int .i64 0, .int .i64 0, .int .i64 0, .int .i64 0, .int .i64 0, .int .i64 0, .int .i64 0, .int .i64 0, .int .i64 0]⟩),
  (40, ⟨10, .struct [(0, 1, false), (1, 1, false), (2, 8, true)], [.string ByteArray.empty, .int .i64 0, .int .i64 0, .int .i64 0, .int .i64 0, .int .i64 0, .int .i64 0, .int .i64 0, .int .i64 0, .int .i64 0]⟩),
  (42, ⟨1, .other, [.nilFunc]⟩),
  (44, ⟨1, .other, [.nilFunc]⟩),
  (45, ⟨1, .other, [.nilFunc]⟩),
  (46, ⟨1, .other, [.nilFunc]⟩),
  (47, ⟨1, .other, [.nilFunc]⟩),
  (48, ⟨1, .other, [.nilFunc]⟩),
  (49, ⟨1, .other, [.nilFunc]⟩),
  (50, ⟨1, .slice 55 10 true, [.slice none 0 0]⟩),
  (51, ⟨1, .other, [.nilFunc]⟩),
  (52, ⟨1, .other, [.nilFunc]⟩),
  (53, ⟨1, .other, [.nilFunc]⟩),
  (54, ⟨10, .struct [(0, 1, false), (1, 1, false), (2, 8, true)], [.int .i64 0, .int .i64 0, .int .i64 0, .int .i64 0, .int .i64 0, .int .i64 0, .int .i64 0, .int .i64 0, .int .i64 0, .int .i64 0]⟩),
  (55, ⟨10, .struct [(0, 1, false), (1, 1, false), (2, 8, true)], [.int .i64 0, .int .i64 0, .int .i64 0, .int .i64 0, .int .i64 0, .int .i64 0, .int .i64 0, .int .i64 0, .int .i64 0, .int .i64 0]⟩),
  (56, ⟨1, .other, [.nilFunc]⟩),
  (57, ⟨1, .ptr, [.pointer none]⟩),
  (58, ⟨1, .other, [.nilFunc]⟩),
  (59, ⟨1, .other, [.nilFunc]⟩),
  (60, ⟨1, .other, [.nilFunc]⟩),
  (61, ⟨1, .other, [.nilFunc]⟩),
  (62, ⟨1, .other, [.nilFunc]⟩),
  (63, ⟨1, .other, [.nilFunc]⟩),
  (64, ⟨1, .slice 3 1 false, [.slice none 0 0]⟩),
  (65, ⟨1, .other, [.nilFunc]⟩),
  (67, ⟨1, .other, [.nilFunc]⟩),
  (68, ⟨1, .other, [.nilFunc]⟩),
  (69, ⟨1, .other, [.nilFunc]⟩),
  (70, ⟨1, .other, [.nilFunc]⟩),
  (71, ⟨1, .other, [.nilFunc]⟩),
  (73, ⟨1, .other, [.nilFunc]⟩),
  (74, ⟨2, .struct [(0, 1, false), (1, 1, false)], [.int .i64 0, .slice none 0 0]⟩),
  (75, ⟨2, .struct [(0, 1, false), (1, 1, false)], [.int .i64 0, .slice none 0 0]⟩),
  (76, ⟨1, .slice 83 5 true, [.slice none 0 0]⟩),
  (77, ⟨1, .ptr, [.pointer none]⟩),
  (78, ⟨1, .other, [.nilFunc]⟩),
  (79, ⟨1, .ptr, [.pointer none]⟩),
  (81, ⟨1, .other, [.nilFunc]⟩),
  (82, ⟨5, .struct [(0, 1, false), (1, 1, false), (2, 1, false), (3, 1, false), (4, 1, false)], [.int .i64 0, .int .i64 0, .int .i64 0, .bool false, .bool false]⟩),
  (83, ⟨5, .struct [(0, 1, false), (1, 1, false), (2, 1, false), (3, 1, false), (4, 1, false)], [.int .i64 0, .int .i64 0, .int .i64 0, .bool false, .bool false]⟩),
  (84, ⟨1, .other, [.nilFunc]⟩),
  (85, ⟨1, .other, [.nilFunc]⟩),
  (86, ⟨1, .other, [.nilFunc]⟩),
  (87, ⟨1, .slice 5 1 false, [.slice none 0 0]⟩),
  (88, ⟨1, .other, [.nilFunc]⟩),
  (89, ⟨1, .ptr, [.pointer none]⟩),
  (90, ⟨4, .struct [(0, 1, false), (1, 1, false), (2, 1, false), (3, 1, false)], [.string ByteArray.empty, .bool false, .int .i64 0, .bool false]⟩),
  (91, ⟨4, .struct [(0, 1, false), (1, 1, false), (2, 1, false), (3, 1, false)], [.string ByteArray.empty, .bool false, .int .i64 0, .bool false]⟩),
  (92, ⟨1, .ptr, [.pointer none]⟩),
  (93, ⟨1, .other, [.nilFunc]⟩),
  (94, ⟨1, .other, [.nilFunc]⟩),
  (95, ⟨5, .struct [(0, 1, false), (1, 1, false), (2, 1, false), (3, 1, false), (4, 1, false)], [.pointer none, .int .i64 0, .int .i64 0, .int .i64 0, .bool false]⟩),
  (96, ⟨5, .struct [(0, 1, false), (1, 1, false), (2, 1, false), (3, 1, false), (4, 1, false)], [.pointer none, .int .i64 0, .int .i64 0, .int .i64 0, .bool false]⟩),
  (97, ⟨1, .other, [.nilFunc]⟩),
  (98, ⟨320, .arr 32 55 10 true, []⟩),
  (99, ⟨321, .struct [(0, 1, false), (1, 320, true)], []⟩),
  (100, ⟨321, .struct [(0, 1, false), (1, 320, true)], []⟩),
  (101, ⟨32, .arr 32 3 1 false, []⟩),
  (102, ⟨34, .struct [(0, 1, false), (1, 32, true), (33, 1, false)], []⟩),
  (103, ⟨34, .struct [(0, 1, false), (1, 32, true), (33, 1, false)], []⟩),
  (104, ⟨3, .struct [(0, 1, false), (1, 1, false), (2, 1, false)], [.pointer none, .slice none 0 0, .int .i64 0]⟩),
  (105, ⟨3, .struct [(0, 1, false), (1, 1, false), (2, 1, false)], [.pointer none, .slice none 0 0, .int .i64 0]⟩),
  (106, ⟨1, .ptr, [.pointer none]⟩),
  (108, ⟨1, .other, [.nilFunc]⟩),
  (109, ⟨1, .other, [.nilFunc]⟩),
  (110, ⟨1, .other, [.map none]⟩),
  (111, ⟨1, .other, [.nilFunc]⟩),
  (112, ⟨1, .slice 4 1 false, [.slice none 0 0]⟩),
  (113, ⟨321, .struct [(0, 1, false), (1, 320, true)], []⟩),
  (114, ⟨321, .struct [(0, 1, false), (1, 320, true)], []⟩),
  (115, ⟨1, .other, [.nilFunc]⟩),
  (116, ⟨1, .other, [.nilFunc]⟩),
  (117, ⟨1, .other, [.nilFunc]⟩),
  (118, ⟨1, .other, [.nilFunc]⟩),
  (119, ⟨1, .other, [.nilFunc]⟩),
  (120, ⟨1, .other, [.nilFunc]⟩),
  (121, ⟨1, .other, [.nilFunc]⟩),
  (122, ⟨64, .arr 64 5 1 false, []⟩),
  (123, ⟨66, .struct [(0, 64, true), (64, 1, false), (65, 1, false)], []⟩),
  (124, ⟨66, .struct [(0, 64, true), (64, 1, false), (65, 1, false)], []⟩),
  (125, ⟨5, .struct [(0, 1, false), (1, 1, false), (2, 1, false), (3, 1, false), (4, 1, false)], [.pointer none, .int .i64 0, .int .i64 0, .int .i64 0, .bool false]⟩),
  (126, ⟨5, .struct [(0, 1, false), (1, 1, false), (2, 1, false), (3, 1, false), (4, 1, false)], [.pointer none, .int .i64 0, .int .i64 0, .int .i64 0, .bool false]⟩),
  (127, ⟨1, .other, [.nilFunc]⟩),
  (128, ⟨1, .other, [.nilFunc]⟩),
  (129, ⟨1, .other, [.nilFunc]⟩),
  (130, ⟨1, .other, [.nilFunc]⟩),
  (131, ⟨1, .other, [.nilFunc]⟩),
  (132, ⟨1, .ptr, [.pointer none]⟩),
  (133, ⟨1, .other, [.nilFunc]⟩),
  (134, ⟨1, .ptr, [.pointer none]⟩),
  (135, ⟨2, .struct [(0, 1, false), (1, 1, false)], [.int .i64 0, .nilIface]⟩),
  (136, ⟨2, .struct [(0, 1, false), (1, 1, false)], [.int .i64 0, .nilIface]⟩),
  (137, ⟨1, .slice 26 1 false, [.slice none 0 0]⟩),
  (138, ⟨1, .other, [.nilFunc]⟩),
  (139, ⟨1, .other, [.int .u64 0]⟩),
  (140, ⟨1, .other, [.nilFunc]⟩),
  (141, ⟨1, .other, [.nilFunc]⟩),
  (145, ⟨3, .struct [(0, 1, false), (1, 1, false), (2, 1, false)], [.pointer none, .pointer none, .int .u64 0]⟩),
  (148, ⟨1, .iface, [.nilIface]⟩),
  (150, ⟨1, .other, [.int .u8 0]⟩),
  (155, ⟨1, .other, [.nilFunc]⟩),
  (156, ⟨1, .other, [.int .u32 0]⟩),
  (162, ⟨1, .iface, [.nilIface]⟩),
  (164, ⟨1, .other, [.nilFunc]⟩),
  (165, ⟨1, .iface, [.nilIface]⟩),
  (166, ⟨1, .other, [.nilFunc]⟩),
  (167, ⟨1, .iface, [.nilIface]⟩),
  (168, ⟨1, .other, [.nilFunc]⟩),
  (169, ⟨1, .iface, [.nilIface]⟩),
  (171, ⟨1, .other, [.nilFunc]⟩),
  (172, ⟨1, .ptr, [.pointer none]⟩),
  (180, ⟨1, .other, [.nilFunc]⟩),
  (181, ⟨1, .ptr, [.pointer none]⟩),
  (186, ⟨1, .other, [.nilFunc]⟩),
  (190, ⟨1, .struct [(0, 1, false)], [.string ByteArray.empty]⟩),
  (191, ⟨1, .struct [(0, 1, false)], [.string ByteArray.empty]⟩),
  (194, ⟨1, .other, [.int .u16 0]⟩),
  (201, ⟨1, .ptr, [.pointer none]⟩)]
theorem tabOk1 : TIok Tryd.prog 1 ⟨1, .other, [.nilFunc]⟩ := ⟨by kernel_rfl, by kernel_rfl, .inr (by kernel_rfl)⟩
theorem tabOk2 : TIok Tryd.prog 2 ⟨1, .int, [.int .i64 0]⟩ := ⟨by kernel_rfl, by kernel_rfl, .inr (by kernel_rfl)⟩
theorem tabOk3 : TIok Tryd.prog 3 ⟨1, .int, [.int .i64 0]⟩ := ⟨by kernel_rfl, by kernel_rfl, .inr (by kernel_rfl)⟩
theorem tabOk4 : TIok Tryd.prog 4 ⟨1, .bool, [.bool false]⟩ := ⟨by kernel_rfl, by kernel_rfl, .inr (by kernel_rfl)⟩
theorem tabOk5 : TIok Tryd.prog 5 ⟨1, .other, [.int .u8 0]⟩ := ⟨by kernel_rfl, by kernel_rfl, .inr (by kernel_rfl)⟩
theorem tabOk9 : TIok Tryd.prog 9 ⟨1, .str, [.string ByteArray.empty]⟩ := ⟨by kernel_rfl, by kernel_rfl, .inr (by kernel_rfl)⟩
theorem tabOk12 : TIok Tryd.prog 12 ⟨1, .other, [.int .u64 0]⟩ := ⟨by kernel_rfl, by kernel_rfl, .inr (by kernel_rfl)⟩
theorem tabOk13 : TIok Tryd.prog 13 ⟨2, .struct [(0, 1, false), (1, 1, false)], [.string ByteArray.empty, .int .u64 0]⟩ := ⟨by kernel_rfl, by kernel_rfl, .inr (by kernel_rfl)⟩
theorem tabOk20 : TIok Tryd.prog 20 ⟨1, .iface, [.nilIface]⟩ := ⟨by kernel_rfl, by kernel_rfl, .inr (by kernel_rfl)⟩
theorem tabOk21 : TIok Tryd.prog 21 ⟨1, .other, [.int .i32 0]⟩ := ⟨by kernel_rfl, by kernel_rfl, .inr (by kernel_rfl)⟩
theorem tabOk22 : TIok Tryd.prog 22 ⟨1, .slice 40 10 true, [.slice none 0 0]⟩ := ⟨by kernel_rfl, by kernel_rfl, .inr (by kernel_rfl)⟩
theorem tabOk23 : TIok Tryd.prog 23 ⟨1, .other, [.nilFunc]⟩ := ⟨by kernel_rfl, by kernel_rfl, .inr (by kernel_rfl)⟩
theorem tabOk24 : TIok Tryd.prog 24 ⟨1, .ptr, [.pointer none]⟩ := ⟨by kernel_rfl, by kernel_rfl, .inr (by kernel_rfl)⟩
theorem tabOk25 : TIok Tryd.prog 25 ⟨1, .iface, [.nilIface]⟩ := ⟨by kernel_rfl, by kernel_rfl, .inr (by kernel_rfl)⟩
theorem tabOk26 : TIok Tryd.prog 26 ⟨1, .iface, [.nilIface]⟩ := ⟨by kernel_rfl, by kernel_rfl, .inr (by kernel_rfl)⟩
theorem tabOk28 : TIok Tryd.prog 28 ⟨1, .other, [.nilFunc]⟩ := ⟨by kernel_rfl, by kernel_rfl, .inr (by kernel_rfl)⟩
theorem tabOk29 : TIok Tryd.prog 29 ⟨1, .ptr, [.pointer none]⟩ := ⟨by kernel_rfl, by kernel_rfl, .inr (by kernel_rfl)⟩
theorem tabOk30 : TIok Tryd.prog 30 ⟨1, .other, [.nilFunc]⟩ := ⟨by kernel_rfl, by kernel_rfl, .inr (by kernel_rfl)⟩
theorem tabOk31 : TIok Tryd.prog 31 ⟨1, .ptr, [.pointer none]⟩ := ⟨by kernel_rfl, by kernel_rfl, .inr (by kernel_rfl)⟩
theorem tabOk32 : TIok Tryd.prog 32 ⟨1, .other, [.nilFunc]⟩ := ⟨by kernel_rfl, by kernel_rfl, .inr (by kernel_rfl)⟩
theorem tabOk33 : TIok Tryd.prog 33 ⟨1, .ptr, [.pointer none]⟩ := ⟨by kernel_rfl, by kernel_rfl, .inr (by kernel_rfl)⟩
theorem tabOk34 : TIok Tryd.prog 34 ⟨1, .other, [.nilFunc]⟩ := ⟨by kernel_rfl, by kernel_rfl, .inr (by kernel_rfl)⟩
theorem tabOk35 : TIok Tryd.prog 35 ⟨2, .struct [(0, 1, false), (1, 1, false)], [.int .i64 0, .int .i64 0]⟩ := ⟨by kernel_rfl, by kernel_rfl, .inr (by kernel_rfl)⟩
theorem tabOk36 : TIok Tryd.prog 36 ⟨2, .struct [(0, 1, false), (1, 1, false)], [.int .i64 0, .int .i64 0]⟩ := ⟨by kernel_rfl, by kernel_rfl, .inr (by kernel_rfl)⟩
theorem tabOk37 : TIok Tryd.prog 37 ⟨8, .struct [(0, 1, false), (1, 2, true), (3, 2, true), (5, 1, false), (6, 1, false), (7, 1, false)], [.int .i64 0, .int .i64 0, .int .i64 0, .int .i64 0, .int .i64 0, .int .i64 0, .int .i64 0, .int .i64 0]⟩ := ⟨by kernel_rfl, by kernel_rfl, .inr (by kernel_rfl)⟩
theorem tabOk38 : TIok Tryd.prog 38 ⟨8, .struct [(0, 1, false), (1, 2, true), (3, 2, true), (5, 1, false), (6, 1, false), (7, 1, false)], [.int .i64 0, .int .i64 0, .int .i64 0, .int .i64 0, .int .i64 0, .int .i64 0, .int .i64 0, .int .i64 0]⟩ := ⟨by kernel_rfl, by kernel_rfl, .inr (by kernel_rfl)⟩
theorem tabOk39 : TIok Tryd.prog 39 ⟨10, .struct [(0, 1, false), (1, 1, false), (2, 8, true)], [.string ByteArray.empty, .int .i64 0, .int .i64 0, .int .i64 0, .int .i64 0, .int .i64 0, .int .i64 0, .int .i64 0, .int .i64 0, .int .i64 0]⟩ := ⟨by kernel_rfl, by kernel_rfl, .inr (by kernel_rfl)⟩
theorem tabOk40 : TIok Tryd.prog 40 ⟨10, .struct [(0, 1, false), (1, 1, false), (2, 8, true)], [.string ByteArray.empty, .int .i64 0, .int .i64 0, .int .i64 0, .int .i64 0, .int .i64 0, .int .i64 0, .int .i64 0, .int .i64 0, .int .i64 0]⟩ := ⟨by kernel_rfl, by kernel_rfl, .inr (by kernel_rfl)⟩
theorem tabOk42 : TIok Tryd.prog 42 ⟨1, .other, [.nilFunc]⟩ := ⟨by kernel_rfl, by kernel_rfl, .inr (by kernel_rfl)⟩
theorem tabOk44 : TIok Tryd.prog 44 ⟨1, .other, [.nilFunc]⟩ := ⟨by kernel_rfl, by kernel_rfl, .inr (by kernel_rfl)⟩
theorem tabOk45 : TIok Tryd.prog 45 ⟨1, .other, [.nilFunc]⟩ := ⟨by kernel_rfl, by kernel_rfl, .inr (by kernel_rfl)⟩
theorem tabOk46 : TIok Tryd.prog 46 ⟨1, .other, [.nilFunc]⟩ := ⟨by kernel_rfl, by kernel_rfl, .inr (by kernel_rfl)⟩
theorem tabOk47 : TIok Tryd.prog 47 ⟨1, .other, [.nilFunc]⟩ := ⟨by kernel_rfl, by kernel_rfl, .inr (by kernel_rfl)⟩
theorem tabOk48 : TIok Tryd.prog 48 ⟨1, .other, [.nilFunc]⟩ := ⟨by kernel_rfl, by kernel_rfl, .inr (by kernel_rfl)⟩
theorem tabOk49 : TIok Tryd.prog 49 ⟨1, .other, [.nilFunc]⟩ := ⟨by kernel_rfl, by kernel_rfl, .inr (by kernel_rfl)⟩
theorem tabOk50 : TIok Tryd.prog 50 ⟨1, .slice 55 10 true, [.slice none 0 0]⟩ := ⟨by kernel_rfl, by kernel_rfl, .inr (by kernel_rfl)⟩
theorem tabOk51 : TIok Tryd.prog 51 ⟨1, .other, [.nilFunc]⟩ := ⟨by kernel_rfl, by kernel_rfl, .inr (by kernel_rfl)⟩
theorem tabOk52 : TIok Tryd.prog 52 ⟨1, .other, [.nilFunc]⟩ := ⟨by kernel_rfl, by kernel_rfl, .inr (by kernel_rfl)⟩
theorem tabOk53 : TIok Tryd.prog 53 ⟨1, .other, [.nilFunc]⟩ := ⟨by kernel_rfl, by kernel_rfl, .inr (by kernel_rfl)⟩
theorem tabOk54 : TIok Tryd.prog 54 ⟨10, .struct [(0, 1, false), (1, 1, false), (2, 8, true)], [.int .i64 0, .int .i64 0, .int .i64 0, .int .i64 0, .int .i64 0, .int .i64 0, .int .i64 0, .int .i64 0, .int .i64 0, .int .i64 0]⟩ := ⟨by kernel_rfl, by kernel_rfl, .inr (by kernel_rfl)⟩
theorem tabOk55 : TIok Tryd.prog 55 ⟨10, .struct [(0, 1, false), (1, 1, false), (2, 8, true)], [.int .i64 0, .int .i64 0, .int .i64 0, .int .i64 0, .int .i64 0, .int .i64 0, .int .i64 0, .int .i64 0, .int .i64 0, .int .i64 0]⟩ := ⟨by kernel_rfl, by kernel_rfl, .inr (by kernel_rfl)⟩
theorem tabOk56 : TIok Tryd.prog 56 ⟨1, .other, [.nilFunc]⟩ := ⟨by kernel_rfl, by kernel_rfl, .inr (by kernel_rfl)⟩
theorem tabOk57 : TIok Tryd.prog 57 ⟨1, .ptr, [.pointer none]⟩ := ⟨by kernel_rfl, by kernel_rfl, .inr (by kernel_rfl)⟩
theorem tabOk58 : TIok Tryd.prog 58 ⟨1, .other, [.nilFunc]⟩ := ⟨by kernel_rfl, by kernel_rfl, .inr (by kernel_rfl)⟩
theorem tabOk59 : TIok Tryd.prog 59 ⟨1, .other, [.nilFunc]⟩ := ⟨by kernel_rfl, by kernel_rfl, .inr (by kernel_rfl)⟩
theorem tabOk60 : TIok Tryd.prog 60 ⟨1, .other, [.nilFunc]⟩ := ⟨by kernel_rfl, by kernel_rfl, .inr (by kernel_rfl)⟩
theorem tabOk61 : TIok Tryd.prog 61 ⟨1, .other, [.nilFunc]⟩ := ⟨by kernel_rfl, by kernel_rfl, .inr (by kernel_rfl)⟩
theorem tabOk62 : TIok Tryd.prog 62 ⟨1, .other, [.nilFunc]⟩ := ⟨by kernel_rfl, by kernel_rfl, .inr (by kernel_rfl)⟩
theorem tabOk63 : TIok Tryd.prog 63 ⟨1, .other, [.nilFunc]⟩ := ⟨by kernel_rfl, by kernel_rfl, .inr (by kernel_rfl)⟩
theorem tabOk64 : TIok Tryd.prog 64 ⟨1, .slice 3 1 false, [.slice none 0 0]⟩ := ⟨by kernel_rfl, by kernel_rfl, .inr (by kernel_rfl)⟩
theorem tabOk65 : TIok Tryd.prog 65 ⟨1, .other, [.nilFunc]⟩ := ⟨by kernel_rfl, by kernel_rfl, .inr (by kernel_rfl)⟩
theorem tabOk67 : TIok Tryd.prog 67 ⟨1, .other, [.nilFunc]⟩ := ⟨by kernel_rfl, by kernel_rfl, .inr (by kernel_rfl)⟩
theorem tabOk68 : TIok Tryd.prog 68 ⟨1, .other, [.nilFunc]⟩ := ⟨by kernel_rfl, by kernel_rfl, .inr (by kernel_rfl)⟩
theorem tabOk69 : TIok Tryd.prog 69 ⟨1, .other, [.nilFunc]⟩ := ⟨by kernel_rfl, by kernel_rfl, .inr (by kernel_rfl)⟩
theorem tabOk70 : TIok Tryd.prog 70 ⟨1, .other, [.nilFunc]⟩ := ⟨by kernel_rfl, by kernel_rfl, .inr (by kernel_rfl)⟩
theorem tabOk71 : TIok Tryd.prog 71 ⟨1, .other, [.nilFunc]⟩ := ⟨by kernel_rfl, by kernel_rfl, .inr (by kernel_rfl)⟩
theorem tabOk73 : TIok Tryd.prog 73 ⟨1, .other, [.nilFunc]⟩ := ⟨by kernel_rfl, by kernel_rfl, .inr (by kernel_rfl)⟩
theorem tabOk74 : TIok Tryd.prog 74 ⟨2, .struct [(0, 1, false), (1, 1, false)], [.int .i64 0, .slice none 0 0]⟩ := ⟨by kernel_rfl, by kernel_rfl, .inr (by kernel_rfl)⟩
theorem tabOk75 : TIok Tryd.prog 75 ⟨2, .struct [(0, 1, false), (1, 1, false)], [.int .i64 0, .slice none 0 0]⟩ := ⟨by kernel_rfl, by kernel_rfl, .inr (by kernel_rfl)⟩
theorem tabOk76 : TIok Tryd.prog 76 ⟨1, .slice 83 5 true, [.slice none 0 0]⟩ := ⟨by kernel_rfl, by kernel_rfl, .inr (by kernel_rfl)⟩
theorem tabOk77 : TIok Tryd.prog 77 ⟨1, .ptr, [.pointer none]⟩ := ⟨by kernel_rfl, by kernel_rfl, .inr (by kernel_rfl)⟩
theorem tabOk78 : TIok Tryd.prog 78 ⟨1, .other, [.nilFunc]⟩ := ⟨by kernel_rfl, by kernel_rfl, .inr (by kernel_rfl)⟩
theorem tabOk79 : TIok Tryd.prog 79 ⟨1, .ptr, [.pointer none]⟩ := ⟨by kernel_rfl, by kernel_rfl, .inr (by kernel_rfl)⟩
theorem tabOk81 : TIok Tryd.prog 81 ⟨1, .other, [.nilFunc]⟩ := ⟨by kernel_rfl, by kernel_rfl, .inr (by kernel_rfl)⟩
theorem tabOk82 : TIok Tryd.prog 82 ⟨5, .struct [(0, 1, false), (1, 1, false), (2, 1, false), (3, 1, false), (4, 1, false)], [.int .i64 0, .int .i64 0, .int .i64 0, .bool false, .bool false]⟩ := ⟨by kernel_rfl, by kernel_rfl, .inr (by kernel_rfl)⟩
theorem tabOk83 : TIok Tryd.prog 83 ⟨5, .struct [(0, 1, false), (1, 1, false), (2, 1, false), (3, 1, false), (4, 1, false)], [.int .i64 0, .int .i64 0, .int .i64 0, .bool false, .bool false]⟩ := ⟨by kernel_rfl, by kernel_rfl, .inr (by kernel_rfl)⟩
theorem tabOk84 : TIok Tryd.prog 84 ⟨1, .other, [.nilFunc]⟩ := ⟨by kernel_rfl, by kernel_rfl, .inr (by kernel_rfl)⟩
theorem tabOk85 : TIok Tryd.prog 85 ⟨1, .other, [.nilFunc]⟩ := ⟨by kernel_rfl, by kernel_rfl, .inr (by kernel_rfl)⟩
theorem tabOk86 : TIok Tryd.prog 86 ⟨1, .other, [.nilFunc]⟩ := ⟨by kernel_rfl, by kernel_rfl, .inr (by kernel_rfl)⟩
theorem tabOk87 : TIok Tryd.prog 87 ⟨1, .slice 5 1 false, [.slice none 0 0]⟩ := ⟨by kernel_rfl, by kernel_rfl, .inr (by kernel_rfl)⟩
theorem tabOk88 : TIok Tryd.prog 88 ⟨1, .other, [.nilFunc]⟩ := ⟨by kernel_rfl, by kernel_rfl, .inr (by kernel_rfl)⟩
theorem tabOk89 : TIok Tryd.prog 89 ⟨1, .ptr, [.pointer none]⟩ := ⟨by kernel_rfl, by kernel_rfl, .inr (by kernel_rfl)⟩
theorem tabOk90 : TIok Tryd.prog 90 ⟨4, .struct [(0, 1, false), (1, 1, false), (2, 1, false), (3, 1, false)], [.string ByteArray.empty, .bool false, .int .i64 0, .bool false]⟩ := ⟨by kernel_rfl, by kernel_rfl, .inr (by kernel_rfl)⟩
theorem tabOk91 : TIok Tryd.prog 91 ⟨4, .struct [(0, 1, false), (1, 1, false), (2, 1, false), (3, 1, false)], [.string ByteArray.empty, .bool false, .int .i64 0, .bool false]⟩ := ⟨by kernel_rfl, by kernel_rfl, .inr (by kernel_rfl)⟩
theorem tabOk92 : TIok Tryd.prog 92 ⟨1, .ptr, [.pointer none]⟩ := ⟨by kernel_rfl, by kernel_rfl, .inr (by kernel_rfl)⟩
theorem tabOk93 : TIok Tryd.prog 93 ⟨1, .other, [.nilFunc]⟩ := ⟨by kernel_rfl, by kernel_rfl, .inr (by kernel_rfl)⟩
theorem tabOk94 : TIok Tryd.prog 94 ⟨1, .other, [.nilFunc]⟩ := ⟨by kernel_rfl, by kernel_rfl, .inr (by kernel_rfl)⟩
theorem tabOk95 : TIok Tryd.prog 95 ⟨5, .struct [(0, 1, false), (1, 1, false), (2, 1, false), (3, 1, false), (4, 1, false)], [.pointer none, .int .i64 0, .int .i64 0, .int .i64 0, .bool false]⟩ := ⟨by kernel_rfl, by kernel_rfl, .inr (by kernel_rfl)⟩
theorem tabOk96 : TIok Tryd.prog 96 ⟨5, .struct [(0, 1, false), (1, 1, false), (2, 1, false), (3, 1, false), (4, 1, false)], [.pointer none, .int .i64 0, .int .i64 0, .int .i64 0, .bool false]⟩ := ⟨by kernel_rfl, by kernel_rfl, .inr (by kernel_rfl)⟩
theorem tabOk97 : TIok Tryd.prog 97 ⟨1, .other, [.nilFunc]⟩ := ⟨by kernel_rfl, by kernel_rfl, .inr (by kernel_rfl)⟩
theorem tabOk98 : TIok Tryd.prog 98 ⟨320, .arr 32 55 10 true, []⟩ := ⟨by kernel_rfl, by kernel_rfl, .inl rfl⟩
theorem tabOk99 : TIok Tryd.prog 99 ⟨321, .struct [(0, 1, false), (1, 320, true)], []⟩ := ⟨by kernel_rfl, by kernel_rfl, .inl rfl⟩
theorem tabOk100 : TIok Tryd.prog 100 ⟨321, .struct [(0, 1, false), (1, 320, true)], []⟩ := ⟨by kernel_rfl, by kernel_rfl, .inl rfl⟩
theorem tabOk101 : TIok Tryd.prog 101 ⟨32, .arr 32 3 1 false, []⟩ := ⟨by kernel_rfl, by kernel_rfl, .inl rfl⟩
theorem tabOk102 : TIok Tryd.prog 102 ⟨34, .struct [(0, 1, false), (1, 32, true), (33, 1, false)], []⟩ := ⟨by kernel_rfl, by kernel_rfl, .inl rfl⟩
theorem tabOk103 : TIok Tryd.prog 103 ⟨34, .struct [(0, 1, false), (1, 32, true), (33, 1, false)], []⟩ := ⟨by kernel_rfl, by kernel_rfl, .inl rfl⟩
theorem tabOk104 : TIok Tryd.prog 104 ⟨3, .struct [(0, 1, false), (1, 1, false), (2, 1, false)], [.pointer none, .slice none 0 0, .int .i64 0]⟩ := ⟨by kernel_rfl, by kernel_rfl, .inr (by kernel_rfl)⟩
theorem tabOk105 : TIok Tryd.prog 105 ⟨3, .struct [(0, 1, false), (1, 1, false), (2, 1, false)], [.pointer none, .slice none 0 0, .int .i64 0]⟩ := ⟨by kernel_rfl, by kernel_rfl, .inr (by kernel_rfl)⟩
theorem tabOk106 : TIok Tryd.prog 106 ⟨1, .ptr, [.pointer none]⟩ := ⟨by kernel_rfl, by kernel_rfl, .inr (by kernel_rfl)⟩
theorem tabOk108 : TIok Tryd.prog 108 ⟨1, .other, [.nilFunc]⟩ := ⟨by kernel_rfl, by kernel_rfl, .inr (by kernel_rfl)⟩
theorem tabOk109 : TIok Tryd.prog 109 ⟨1, .other, [.nilFunc]⟩ := ⟨by kernel_rfl, by kernel_rfl, .inr (by kernel_rfl)⟩
theorem tabOk110 : TIok Tryd.prog 110 ⟨1, .other, [.map none]⟩ := ⟨by kernel_rfl, by kernel_rfl, .inr (by kernel_rfl)⟩
theorem tabOk111 : TIok Tryd.prog 111 ⟨1, .other, [.nilFunc]⟩ := ⟨by kernel_rfl, by kernel_rfl, .inr (by kernel_rfl)⟩
theorem tabOk112 : TIok Tryd.prog 112 ⟨1, .slice 4 1 false, [.slice none 0 0]⟩ := ⟨by kernel_rfl, by kernel_rfl, .inr (by kernel_rfl)⟩
theorem tabOk113 : TIok Tryd.prog 113 ⟨321, .struct [(0, 1, false), (1, 320, true)], []⟩ := ⟨by kernel_rfl, by kernel_rfl, .inl rfl⟩
theorem tabOk114 : TIok Tryd.prog 114 ⟨321, .struct [(0, 1, false), (1, 320, true)], []⟩ := ⟨by kernel_rfl, by kernel_rfl, .inl rfl⟩
theorem tabOk115 : TIok Tryd.prog 115 ⟨1, .other, [.nilFunc]⟩ := ⟨by kernel_rfl, by kernel_rfl, .inr (by kernel_rfl)⟩
theorem tabOk116 : TIok Tryd.prog 116 ⟨1, .other, [.nilFunc]⟩ := ⟨by kernel_rfl, by kernel_rfl, .inr (by kernel_rfl)⟩
theorem tabOk117 : TIok Tryd.prog 117 ⟨1, .other, [.nilFunc]⟩ := ⟨by kernel_rfl, by kernel_rfl, .inr (by kernel_rfl)⟩
theorem tabOk118 : TIok Tryd.prog 118 ⟨1, .other, [.nilFunc]⟩ := ⟨by kernel_rfl, by kernel_rfl, .inr (by kernel_rfl)⟩
theorem tabOk119 : TIok Tryd.prog 119 ⟨1, .other, [.nilFunc]⟩ := ⟨by kernel_rfl, by kernel_rfl, .inr (by kernel_rfl)⟩
theorem tabOk120 : TIok Tryd.prog 120 ⟨1, .other, [.nilFunc]⟩ := ⟨by kernel_rfl, by kernel_rfl, .inr (by kernel_rfl)⟩
theorem tabOk121 : TIok Tryd.prog 121 ⟨1, .other, [.nilFunc]⟩ := ⟨by kernel_rfl, by kernel_rfl, .inr (by kernel_rfl)⟩
theorem tabOk122 : TIok Tryd.prog 122 ⟨64, .arr 64 5 1 false, []⟩ := ⟨by kernel_rfl, by kernel_rfl, .inl rfl⟩
theorem tabOk123 : TIok Tryd.prog 123 ⟨66, .struct [(0, 64, true), (64, 1, false), (65, 1, false)], []⟩ := ⟨by kernel_rfl, by kernel_rfl, .inl rfl⟩
theorem tabOk124 : TIok Tryd.prog 124 ⟨66, .struct [(0, 64, true), (64, 1, false), (65, 1, false)], []⟩ := ⟨by kernel_rfl, by kernel_rfl, .inl rfl⟩
theorem tabOk125 : TIok Tryd.prog 125 ⟨5, .struct [(0, 1, false), (1, 1, false), (2, 1, false), (3, 1, false), (4, 1, false)], [.pointer none, .int .i64 0, .int .i64 0, .int .i64 0, .bool false]⟩ := ⟨by kernel_rfl, by kernel_rfl, .inr (by kernel_rfl)⟩
theorem tabOk126 : TIok Tryd.prog 126 ⟨5, .struct [(0, 1, false), (1, 1, false), (2, 1, false), (3, 1, false), (4, 1, false)], [.pointer none, .int .i64 0, .int .i64 0, .int .i64 0, .bool false]⟩ := ⟨by kernel_rfl, by kernel_rfl, .inr (by kernel_rfl)⟩
theorem tabOk127 : TIok Tryd.prog 127 ⟨1, .other, [.nilFunc]⟩ := ⟨by kernel_rfl, by kernel_rfl, .inr (by kernel_rfl)⟩
theorem tabOk128 : TIok Tryd.prog 128 ⟨1, .other, [.nilFunc]⟩ := ⟨by kernel_rfl, by kernel_rfl, .inr (by kernel_rfl)⟩
theorem tabOk129 : TIok Tryd.prog 129 ⟨1, .other, [.nilFunc]⟩ := ⟨by kernel_rfl, by kernel_rfl, .inr (by kernel_rfl)⟩
theorem tabOk130 : TIok Tryd.prog 130 ⟨1, .other, [.nilFunc]⟩ := ⟨by kernel_rfl, by kernel_rfl, .inr (by kernel_rfl)⟩
theorem tabOk131 : TIok Tryd.prog 131 ⟨1, .other, [.nilFunc]⟩ := ⟨by kernel_rfl, by kernel_rfl, .inr (by kernel_rfl)⟩
theorem tabOk132 : TIok Tryd.prog 132 ⟨1, .ptr, [.pointer none]⟩ := ⟨by kernel_rfl, by kernel_rfl, .inr (by kernel_rfl)⟩
theorem tabOk133 : TIok Tryd.prog 133 ⟨1, .other, [.nilFunc]⟩ := ⟨by kernel_rfl, by kernel_rfl, .inr (by kernel_rfl)⟩
theorem tabOk134 : TIok Tryd.prog 134 ⟨1, .ptr, [.pointer none]⟩ := ⟨by kernel_rfl, by kernel_rfl, .inr (by kernel_rfl)⟩
theorem tabOk135 : TIok Tryd.prog 135 ⟨2, .struct [(0, 1, false), (1, 1, false)], [.int .i64 0, .nilIface]⟩ := ⟨by kernel_rfl, by kernel_rfl, .inr (by kernel_rfl)⟩
theorem tabOk136 : TIok Tryd.prog 136 ⟨2, .struct [(0, 1, false), (1, 1, false)], [.int .i64 0, .nilIface]⟩ := ⟨by kernel_rfl, by kernel_rfl, .inr (by kernel_rfl)⟩
theorem tabOk137 : TIok Tryd.prog 137 ⟨1, .slice 26 1 false, [.slice none 0 0]⟩ := ⟨by kernel_rfl, by kernel_rfl, .inr (by kernel_rfl)⟩
theorem tabOk138 : TIok Tryd.prog 138 ⟨1, .other, [.nilFunc]⟩ := ⟨by kernel_rfl, by kernel_rfl, .inr (by kernel_rfl)⟩
theorem tabOk139 : TIok Tryd.prog 139 ⟨1, .other, [.int .u64 0]⟩ := ⟨by kernel_rfl, by kernel_rfl, .inr (by kernel_rfl)⟩
theorem tabOk140 : TIok Tryd.prog 140 ⟨1, .other, [.nilFunc]⟩ := ⟨by kernel_rfl, by kernel_rfl, .inr (by kernel_rfl)⟩
theorem tabOk141 : TIok Tryd.prog 141 ⟨1, .other, [.nilFunc]⟩ := ⟨by kernel_rfl, by kernel_rfl, .inr (by kernel_rfl)⟩
theorem tabOk145 : TIok Tryd.prog 145 ⟨3, .struct [(0, 1, false), (1, 1, false), (2, 1, false)], [.pointer none, .pointer none, .int .u64 0]⟩ := ⟨by kernel_rfl, by kernel_rfl, .inr (by kernel_rfl)⟩
theorem tabOk148 : TIok Tryd.prog 148 ⟨1, .iface, [.nilIface]⟩ := ⟨by kernel_rfl, by kernel_rfl, .inr (by kernel_rfl)⟩
theorem tabOk150 : TIok Tryd.prog 150 ⟨1, .other, [.int .u8 0]⟩ := ⟨by kernel_rfl, by kernel_rfl, .inr (by kernel_rfl)⟩
theorem tabOk155 : TIok Tryd.prog 155 ⟨1, .other, [.nilFunc]⟩ := ⟨by kernel_rfl, by kernel_rfl, .inr (by kernel_rfl)⟩
theorem tabOk156 : TIok Tryd.prog 156 ⟨1, .other, [.int .u32 0]⟩ := ⟨by kernel_rfl, by kernel_rfl, .inr (by kernel_rfl)⟩
theorem tabOk162 : TIok Tryd.prog 162 ⟨1, .iface, [.nilIface]⟩ := ⟨by kernel_rfl, by kernel_rfl, .inr (by kernel_rfl)⟩
theorem tabOk164 : TIok Tryd.prog 164 ⟨1, .other, [.nilFunc]⟩ := ⟨by kernel_rfl, by kernel_rfl, .inr (by kernel_rfl)⟩
theorem tabOk165 : TIok Tryd.prog 165 ⟨1, .iface, [.nilIface]⟩ := ⟨by kernel_rfl, by kernel_rfl, .inr (by kernel_rfl)⟩
theorem tabOk166 : TIok Tryd.prog 166 ⟨1, .other, [.nilFunc]⟩ := ⟨by kernel_rfl, by kernel_rfl, .inr (by kernel_rfl)⟩
theorem tabOk167 : TIok Tryd.prog 167 ⟨1, .iface, [.nilIface]⟩ := ⟨by kernel_rfl, by kernel_rfl, .inr (by kernel_rfl)⟩
theorem tabOk168 : TIok Tryd.prog 168 ⟨1, .other, [.nilFunc]⟩ := ⟨by kernel_rfl, by kernel_rfl, .inr (by kernel_rfl)⟩
theorem tabOk169 : TIok Tryd.prog 169 ⟨1, .iface, [.nilIface]⟩ := ⟨by kernel_rfl, by kernel_rfl, .inr (by kernel_rfl)⟩
theorem tabOk171 : TIok Tryd.prog 171 ⟨1, .other, [.nilFunc]⟩ := ⟨by kernel_rfl, by kernel_rfl, .inr (by kernel_rfl)⟩
theorem tabOk172 : TIok Tryd.prog 172 ⟨1, .ptr, [.pointer none]⟩ := ⟨by kernel_rfl, by kernel_rfl, .inr (by kernel_rfl)⟩
theorem tabOk180 : TIok Tryd.prog 180 ⟨1, .other, [.nilFunc]⟩ := ⟨by kernel_rfl, by kernel_rfl, .inr (by kernel_rfl)⟩
theorem tabOk181 : TIok Tryd.prog 181 ⟨1, .ptr, [.pointer none]⟩ := ⟨by kernel_rfl, by kernel_rfl, .inr (by kernel_rfl)⟩
theorem tabOk186 : TIok Tryd.prog 186 ⟨1, .other, [.nilFunc]⟩ := ⟨by kernel_rfl, by kernel_rfl, .inr (by kernel_rfl)⟩
theorem tabOk190 : TIok Tryd.prog 190 ⟨1, .struct [(0, 1, false)], [.string ByteArray.empty]⟩ := ⟨by kernel_rfl, by kernel_rfl, .inr (by kernel_rfl)⟩
theorem tabOk191 : TIok Tryd.prog 191 ⟨1, .struct [(0, 1, false)], [.string ByteArray.empty]⟩ := ⟨by kernel_rfl, by kernel_rfl, .inr (by kernel_rfl)⟩
theorem tabOk194 : TIok Tryd.prog 194 ⟨1, .other, [.int .u16 0]⟩ := ⟨by kernel_rfl, by kernel_rfl, .inr (by kernel_rfl)⟩
theorem tabOk201 : TIok Tryd.prog 201 ⟨1, .ptr, [.pointer none]⟩ := ⟨by kernel_rfl, by kernel_rfl, .inr (by kernel_rfl)⟩
theorem tabOk : TabOk Tryd.prog tab :=
  TabOk.of_all (⟨tabOk1, ⟨tabOk2, ⟨tabOk3, ⟨tabOk4, ⟨tabOk5, ⟨tabOk9, ⟨tabOk12, ⟨tabOk13, ⟨tabOk20, ⟨tabOk21, ⟨tabOk22, ⟨tabOk23, ⟨tabOk24, ⟨tabOk25, ⟨tabOk26, ⟨tabOk28, ⟨tabOk29, ⟨tabOk30, ⟨tabOk31, ⟨tabOk32, ⟨tabOk33, ⟨tabOk34, ⟨tabOk35, ⟨tabOk36, ⟨tabOk37, ⟨tabOk38, ⟨tabOk39, ⟨tabOk40, ⟨tabOk42, ⟨tabOk44, ⟨tabOk45, ⟨tabOk46, ⟨tabOk47, ⟨tabOk48, ⟨tabOk49, ⟨tabOk50, ⟨tabOk51, ⟨tabOk52, ⟨tabOk53, ⟨tabOk54, ⟨tabOk55, ⟨tabOk56, ⟨tabOk57, ⟨tabOk58, ⟨tabOk59, ⟨tabOk60, ⟨tabOk61, ⟨tabOk62, ⟨tabOk63, ⟨tabOk64, ⟨tabOk65, ⟨tabOk67, ⟨tabOk68, ⟨tabOk69, ⟨tabOk70, ⟨tabOk71, ⟨tabOk73, ⟨tabOk74, ⟨tabOk75, ⟨tabOk76, ⟨tabOk77, ⟨tabOk78, ⟨tabOk79, ⟨tabOk81, ⟨tabOk82, ⟨tabOk83, ⟨tabOk84, ⟨tabOk85, ⟨tabOk86, ⟨tabOk87, ⟨tabOk88, ⟨tabOk89, ⟨tabOk90, ⟨tabOk91, ⟨tabOk92, ⟨tabOk93, ⟨tabOk94, ⟨tabOk95, ⟨tabOk96, ⟨tabOk97, ⟨tabOk98, ⟨tabOk99, ⟨tabOk100, ⟨tabOk101, ⟨tabOk102, ⟨tabOk103, ⟨tabOk104, ⟨tabOk105, ⟨tabOk106, ⟨tabOk108, ⟨tabOk109, ⟨tabOk110, ⟨tabOk111, ⟨tabOk112, ⟨tabOk113, ⟨tabOk114, ⟨tabOk115, ⟨tabOk116, ⟨tabOk117, ⟨tabOk118, ⟨tabOk119, ⟨tabOk120, ⟨tabOk121, ⟨tabOk122, ⟨tabOk123, ⟨tabOk124, ⟨tabOk125, ⟨tabOk126, ⟨tabOk127, ⟨tabOk128, ⟨tabOk129, ⟨tabOk130, ⟨tabOk131, ⟨tabOk132, ⟨tabOk133, ⟨tabOk134, ⟨tabOk135, ⟨tabOk136, ⟨tabOk137, ⟨tabOk138, ⟨tabOk139, ⟨tabOk140, ⟨tabOk141, ⟨tabOk145, ⟨tabOk148, ⟨tabOk150, ⟨tabOk155, ⟨tabOk156, ⟨tabOk162, ⟨tabOk164, ⟨tabOk165, ⟨tabOk166, ⟨tabOk167, ⟨tabOk168, ⟨tabOk169, ⟨tabOk171, ⟨tabOk172, ⟨tabOk180, ⟨tabOk181, ⟨tabOk186, ⟨tabOk190, ⟨tabOk191, ⟨tabOk194, ⟨tabOk201, trivial⟩⟩⟩⟩⟩⟩⟩⟩⟩⟩⟩⟩⟩⟩⟩⟩⟩⟩⟩⟩⟩⟩⟩⟩⟩⟩⟩⟩⟩⟩⟩⟩⟩⟩⟩⟩⟩⟩⟩⟩⟩⟩⟩⟩⟩⟩⟩⟩⟩⟩⟩⟩⟩⟩⟩⟩⟩⟩⟩⟩⟩⟩⟩⟩⟩⟩⟩⟩⟩⟩⟩⟩⟩⟩⟩⟩⟩⟩⟩⟩⟩⟩⟩⟩⟩⟩⟩⟩⟩⟩⟩⟩⟩⟩⟩⟩⟩⟩⟩⟩⟩⟩⟩⟩⟩⟩⟩⟩⟩⟩⟩⟩⟩⟩⟩⟩⟩⟩⟩⟩⟩⟩⟩⟩⟩⟩⟩⟩⟩⟩⟩⟩⟩⟩⟩⟩⟩⟩⟩⟩⟩⟩⟩⟩)
theorem mixed : Tryd.prog.follows .mixedOrders = true := by kernel_rfl
end Go.Proofs.YteakdmngllfodaaDoor
