/-
  The table of the program's types as the evaluator wants it (written by program), and that it is right.
-/
import Derived.Test.YtnpfaghfcbbmdaaDoorProg
import Derived.Test.YtnpfaghfcbbmdaaDoorEvF
namespace Go.Proofs.YtnpfaghfcbbmdaaDoor
open Go Ev
def tab : Tab := [
  (1, ⟨1, .other, [.nilFunc]⟩),
  (2, ⟨1, .int, [.int .i64 0]⟩),
  (3, ⟨1, .int, [.int .i64 0]⟩),
  (4, ⟨1, .bool, [.bool false]⟩),
  (5, ⟨1, .other, [.int .u8 0]⟩),
  (9, ⟨1, .str, [.string ByteArray.empty]⟩),
  (12, ⟨1, .other, [.int .u64 0]⟩),
  (13, ⟨2, .struct [(0, 1, false), (1, 1, false)], [.string ByteArray.empty, .int .u64 0]⟩),
  (20, ⟨1, .iface, [.nilIface]⟩),
  (21, ⟨1, .other, [.int .i32 0]⟩),
  (22, ⟨1, .slice 3 1 false, [.slice none 0 0]⟩),
  (23, ⟨1, .slice 4 1 false, [.slice none 0 0]⟩),
  (24, ⟨1, .other, [.nilFunc]⟩),
  (26, ⟨1, .other, [.nilFunc]⟩),
  (27, ⟨1, .other, [.nilFunc]⟩),
  (28, ⟨1, .iface, [.nilIface]⟩),
  (29, ⟨1, .iface, [.nilIface]⟩),
  (31, ⟨1, .other, [.nilFunc]⟩),
  (33, ⟨1, .other, [.nilFunc]⟩),
  (34, ⟨1, .other, [.nilFunc]⟩),
  (35, ⟨1, .other, [.nilFunc]⟩),
  (36, ⟨1, .other, [.nilFunc]⟩),
  (37, ⟨1, .ptr, [.pointer none]⟩),
  (39, ⟨1, .other, [.nilFunc]⟩),
  (40, ⟨1, .slice 37 1 false, [.slice none 0 0]⟩),
  (41, ⟨1, .other, [.nilFunc]⟩),
  (42, ⟨1, .other, [.nilFunc]⟩),
  (43, ⟨1, .other, [.nilFunc]⟩),
  (44, ⟨1, .other, [.nilFunc]⟩),
  (45, ⟨1, .other, [.nilFunc]⟩),
  (46, ⟨1, .other, [.nilFunc]⟩),
  (47, ⟨1, .ptr, [.pointer none]⟩),
  (48, ⟨4, .struct [(0, 1, false), (1, 1, false), (2, 1, false), (3, 1, false)], [.int .i64 0, .int .i64 0, .int .i64 0, .bool false]⟩),
  (49, ⟨4, .struct [(0, 1, false), (1, 1, false), (2, 1, false), (3, 1, false)], [.int .i64 0, .int .i64 0, .int .i64 0, .bool false]⟩),
  (50, ⟨1, .other, [.nilFunc]⟩),
  (51, ⟨1, .other, [.nilFunc]⟩),
  (52, ⟨1, .other, [.nilFunc]⟩),
  (53, ⟨1, .slice 59 10 true, [.slice none 0 0]⟩),
  (54, ⟨2, .struct [(0, 1, false), (1, 1, false)], [.int .i64 0, .int .i64 0]⟩),
  (55, ⟨2, .struct [(0, 1, false), (1, 1, false)], [.int .i64 0, .int .i64 0]⟩),
  (56, ⟨8, .struct [(0, 1, false), (1, 2, true), (3, 2, true), (5, 1, false), (6, 1, false), (7, 1, false)], [.int .i64 0, .int .i64 0, .int .i64 0, .int .i64 0, .int .i64 0, .int .i64 0, .int .i64 0, .int .i64 0]⟩),
  (57, ⟨8, .struct [(0, 1, false), (1, 2, true), (3, 2, true), (5, 1, false), (6, 1, false), (7, 1, false)], [.int .i64 0, .int .i64 0, .int .i64 0, .int .i64 0, .int .i64 0, .int .i64 0, .int .i64 0, .int .i64 0]⟩),
  (58, ⟨10, .struct [(0, 1, false), (1, 1, false), (2, 8, true)], [.int .i64 0, .int .i64 0, .int .i64 0, .int .i64 0, .int .i64 0, .int .i64 0, .int .i64 0, .int .i64 0, .int .i64 0, .int .i64 0]⟩),
  (59, ⟨10, .struct [(0, 1, false), (1, 1, false), (2, 8, true)], [.int .i64 0, .int .i64 0, .int .i64 0, .int .i64 0, .int .i64 0, .int .i64 0, .int .i64 0, .int .i64 0, .int .i64 0, .int .i64 0]⟩),
  (60, ⟨1, .ptr, [.pointer none]⟩),
  (61, ⟨1, .other, [.nilFunc]⟩),
  (62, ⟨1, .other, [.nilFunc]⟩),
  (63, ⟨1, .other, [.nilFunc]⟩),
  (64, ⟨1, .other, [.nilFunc]⟩),
  (65, ⟨1, .other, [.nilFunc]⟩),
  (66, ⟨1, .slice 70 2 true, [.slice none 0 0]⟩),
  (67, ⟨1, .ptr, [.pointer none]⟩),
  (68, ⟨2, .struct [(0, 1, false), (1, 1, false)], [.int .i64 0, .slice none 0 0]⟩),
  (69, ⟨2, .struct [(0, 1, false), (1, 1, false)], [.int .i64 0, .slice none 0 0]⟩),
  (70, ⟨2, .struct [(0, 1, false), (1, 1, false)], [.int .i64 0, .slice none 0 0]⟩),
  (71, ⟨1, .other, [.nilFunc]⟩),
  (72, ⟨1, .other, [.nilFunc]⟩),
  (73, ⟨1, .slice 57 8 true, [.slice none 0 0]⟩),
  (74, ⟨1, .other, [.nilFunc]⟩),
  (75, ⟨1, .other, [.nilFunc]⟩),
  (76, ⟨1, .other, [.nilFunc]⟩),
  (77, ⟨1, .slice 82 10 true, [.slice none 0 0]⟩),
  (78, ⟨1, .ptr, [.pointer none]⟩),
  (80, ⟨1, .other, [.nilFunc]⟩),
  (81, ⟨10, .struct [(0, 1, false), (1, 1, false), (2, 8, true)], [.string ByteArray.empty, .int .i64 0, .int .i64 0, .int .i64 0, .int .i64 0, .int .i64 0, .int .i64 0, .int .i64 0, .int .i64 0, .int .i64 0]⟩),
  (82, ⟨10, .struct [(0, 1, false), (1, 1, false), (2, 8, true)], [.string ByteArray.empty, .int .i64 0, .int .i64 0, .int .i64 0, .int .i64 0, .int .i64 0, .int .i64 0, .int .i64 0, .int .i64 0, .int .i64 0]⟩),
  (83, ⟨1, .other, [.nilFunc]⟩),
  (85, ⟨1, .other, [.nilFunc]⟩),
  (86, ⟨1, .other, [.nilFunc]⟩),
  (87, ⟨1, .other, [.nilFunc]⟩),
  (88, ⟨1, .other, [.nilFunc]⟩),
  (89, ⟨1, .other, [.nilFunc]⟩),
  (90, ⟨1, .other, [.nilFunc]⟩),
  (91, ⟨1, .other, [.map none]⟩),
  (92, ⟨1, .other, [.nilFunc]⟩),
  (93, ⟨2, .struct [(0, 1, false), (1, 1, false)], [.int .i64 0, .int .i64 0]⟩),
  (94, ⟨2, .struct [(0, 1, false), (1, 1, false)], [.int .i64 0, .int .i64 0]⟩),
  (95, ⟨4, .struct [(0, 1, false), (1, 1, false), (2, 1, false), (3, 1, false)], [.int .i64 0, .int .i64 0, .int .i64 0, .bool false]⟩),
  (96, ⟨4, .struct [(0, 1, false), (1, 1, false), (2, 1, false), (3, 1, false)], [.int .i64 0, .int .i64 0, .int .i64 0, .bool false]⟩),
  (97, ⟨320, .arr 32 59 10 true, []⟩),
  (98, ⟨321, .struct [(0, 1, false), (1, 320, true)], []⟩),
  (99, ⟨321, .struct [(0, 1, false), (1, 320, true)], []⟩),
  (100, ⟨1, .other, [.nilFunc]⟩),
  (101, ⟨1, .other, [.nilFunc]⟩),
  (102, ⟨1, .other, [.nilFunc]⟩),
  (103, ⟨321, .struct [(0, 1, false), (1, 320, true)], []⟩),
  (104, ⟨321, .struct [(0, 1, false), (1, 320, true)], []⟩),
  (105, ⟨1, .other, [.nilFunc]⟩),
  (106, ⟨1, .other, [.nilFunc]⟩),
  (107, ⟨1, .ptr, [.pointer none]⟩),
  (109, ⟨1, .other, [.nilFunc]⟩),
  (110, ⟨1, .ptr, [.pointer none]⟩),
  (111, ⟨1, .other, [.nilFunc]⟩),
  (112, ⟨1, .ptr, [.pointer none]⟩),
  (113, ⟨2, .struct [(0, 1, false), (1, 1, false)], [.int .i64 0, .nilIface]⟩),
  (114, ⟨2, .struct [(0, 1, false), (1, 1, false)], [.int .i64 0, .nilIface]⟩),
  (115, ⟨1, .slice 29 1 false, [.slice none 0 0]⟩),
  (116, ⟨1, .other, [.nilFunc]⟩),
  (117, ⟨1, .other, [.nilFunc]⟩),
  (118, ⟨1, .other, [.nilFunc]⟩),
  (119, ⟨1, .other, [.nilFunc]⟩),
  (120, ⟨1, .other, [.nilFunc]⟩),
  (124, ⟨3, .struct [(0, 1, false), (1, 1, false), (2, 1, false)], [.pointer none, .pointer none, .int .u64 0]⟩),
  (127, ⟨1, .iface, [.nilIface]⟩),
  (129, ⟨1, .other, [.int .u8 0]⟩),
  (134, ⟨1, .other, [.nilFunc]⟩),
  (140, ⟨1, .iface, [.nilIface]⟩),
  (142, ⟨1, .other, [.nilFunc]⟩),
  (143, ⟨1, .iface, [.nilIface]⟩),
  (144, ⟨1, .other, [.nilFunc]⟩),
  (145, ⟨1, .iface, [.nilIface]⟩),
  (146, ⟨1, .other, [.nilFunc]⟩),
  (147, ⟨1, .iface, [.nilIface]⟩),
  (149, ⟨1, .other, [.nilFunc]⟩),
  (150, ⟨1, .ptr, [.pointer none]⟩),
  (151, ⟨1, .other, [.nilFunc]⟩),
  (158, ⟨1, .other, [.int .u32 0]⟩),
  (160, ⟨1, .other, [.nilFunc]⟩),
  (161, ⟨1, .ptr, [.pointer none]⟩),
  (166, ⟨1, .other, [.nilFunc]⟩),
  (170, ⟨1, .struct [(0, 1, false)], [.string ByteArray.empty]⟩),
  (171, ⟨1, .struct [(0, 1, false)], [.string ByteArray.empty]⟩),
  (174, ⟨1, .other, [.int .u16 0]⟩),
  (181, ⟨1, .other, [.nilFunc]⟩),
  (182, ⟨1, .ptr, [.pointer none]⟩)]
theorem tabOk1 : TIok Tryd.prog 1 ⟨1, .other, [.nilFunc]⟩ := ⟨by kernel_rfl, by kernel_rfl, .inr (by kernel_rfl)⟩
theorem tabOk2 : TIok Tryd.prog 2 ⟨1, .int, [.int .i64 0]⟩ := ⟨by kernel_rfl, by kernel_rfl, .inr (by kernel_rfl)⟩
theorem tabOk3 : TIok Tryd.prog 3 ⟨1, .int, [.int .i64 0]⟩ := ⟨by kernel_rfl, by kernel_rfl, .inr (by kernel_rfl)⟩
theorem tabOk4 : TIok Tryd.prog 4 ⟨1, .bool, [.bool false]⟩ := ⟨by kernel_rfl, by kernel_rfl, .inr (by kernel_rfl)⟩
theorem tabOk5 : TIok Tryd.prog 5 ⟨1, .other, [.int .u8 0]⟩ := ⟨by kernel_rfl, by kernel_rfl, .inr (by kernel_rfl)⟩
theorem tabOk9 : TIok Tryd.prog 9 ⟨1, .str, [.string ByteArray.empty]⟩ := ⟨by kernel_rfl, by kernel_rfl, .inr (by kernel_rfl)⟩
theorem tabOk12 : TIok Tryd.prog 12 ⟨1, .other, [.int .u64 0]⟩ := ⟨by kernel_rfl, by kernel_rfl, .inr (by kernel_rfl)⟩
theorem tabOk13 : TIok Tryd.prog 13 ⟨2, .struct [(0, 1, false), (1, 1, false)], [.string ByteArray.empty, .int .u64 0]⟩ := ⟨by kernel_rfl, by kernel_rfl, .inr (by kernel_rfl)⟩
theorem tabOk20 : TIok Tryd.prog 20 ⟨1, .iface, [.nilIface]⟩ := ⟨by kernel_rfl, by kernel_rfl, .inr (by kernel_rfl)⟩
theorem tabOk21 : TIok Tryd.prog 21 ⟨1, .other, [.int .i32 0]⟩ := ⟨by kernel_rfl, by kernel_rfl, .inr (by kernel_rfl)⟩
theorem tabOk22 : TIok Tryd.prog 22 ⟨1, .slice 3 1 false, [.slice none 0 0]⟩ := ⟨by kernel_rfl, by kernel_rfl, .inr (by kernel_rfl)⟩
theorem tabOk23 : TIok Tryd.prog 23 ⟨1, .slice 4 1 false, [.slice none 0 0]⟩ := ⟨by kernel_rfl, by kernel_rfl, .inr (by kernel_rfl)⟩
theorem tabOk24 : TIok Tryd.prog 24 ⟨1, .other, [.nilFunc]⟩ := ⟨by kernel_rfl, by kernel_rfl, .inr (by kernel_rfl)⟩
theorem tabOk26 : TIok Tryd.prog 26 ⟨1, .other, [.nilFunc]⟩ := ⟨by kernel_rfl, by kernel_rfl, .inr (by kernel_rfl)⟩
theorem tabOk27 : TIok Tryd.prog 27 ⟨1, .other, [.nilFunc]⟩ := ⟨by kernel_rfl, by kernel_rfl, .inr (by kernel_rfl)⟩
theorem tabOk28 : TIok Tryd.prog 28 ⟨1, .iface, [.nilIface]⟩ := ⟨by kernel_rfl, by kernel_rfl, .inr (by kernel_rfl)⟩
theorem tabOk29 : TIok Tryd.prog 29 ⟨1, .iface, [.nilIface]⟩ := ⟨by kernel_rfl, by kernel_rfl, .inr (by kernel_rfl)⟩
theorem tabOk31 : TIok Tryd.prog 31 ⟨1, .other, [.nilFunc]⟩ := ⟨by kernel_rfl, by kernel_rfl, .inr (by kernel_rfl)⟩
theorem tabOk33 : TIok Tryd.prog 33 ⟨1, .other, [.nilFunc]⟩ := ⟨by kernel_rfl, by kernel_rfl, .inr (by kernel_rfl)⟩
theorem tabOk34 : TIok Tryd.prog 34 ⟨1, .other, [.nilFunc]⟩ := ⟨by kernel_rfl, by kernel_rfl, .inr (by kernel_rfl)⟩
theorem tabOk35 : TIok Tryd.prog 35 ⟨1, .other, [.nilFunc]⟩ := ⟨by kernel_rfl, by kernel_rfl, .inr (by kernel_rfl)⟩
theorem tabOk36 : TIok Tryd.prog 36 ⟨1, .other, [.nilFunc]⟩ := ⟨by kernel_rfl, by kernel_rfl, .inr (by kernel_rfl)⟩
theorem tabOk37 : TIok Tryd.prog 37 ⟨1, .ptr, [.pointer none]⟩ := ⟨by kernel_rfl, by kernel_rfl, .inr (by kernel_rfl)⟩
theorem tabOk39 : TIok Tryd.prog 39 ⟨1, .other, [.nilFunc]⟩ := ⟨by kernel_rfl, by kernel_rfl, .inr (by kernel_rfl)⟩
theorem tabOk40 : TIok Tryd.prog 40 ⟨1, .slice 37 1 false, [.slice none 0 0]⟩ := ⟨by kernel_rfl, by kernel_rfl, .inr (by kernel_rfl)⟩
theorem tabOk41 : TIok Tryd.prog 41 ⟨1, .other, [.nilFunc]⟩ := ⟨by kernel_rfl, by kernel_rfl, .inr (by kernel_rfl)⟩
theorem tabOk42 : TIok Tryd.prog 42 ⟨1, .other, [.nilFunc]⟩ := ⟨by kernel_rfl, by kernel_rfl, .inr (by kernel_rfl)⟩
theorem tabOk43 : TIok Tryd.prog 43 ⟨1, .other, [.nilFunc]⟩ := ⟨by kernel_rfl, by kernel_rfl, .inr (by kernel_rfl)⟩
theorem tabOk44 : TIok Tryd.prog 44 ⟨1, .other, [.nilFunc]⟩ := ⟨by kernel_rfl, by kernel_rfl, .inr (by kernel_rfl)⟩
theorem tabOk45 : TIok Tryd.prog 45 ⟨1, .other, [.nilFunc]⟩ := ⟨by kernel_rfl, by kernel_rfl, .inr (by kernel_rfl)⟩
theorem tabOk46 : TIok Tryd.prog 46 ⟨1, .other, [.nilFunc]⟩ := ⟨by kernel_rfl, by kernel_rfl, .inr (by kernel_rfl)⟩
theorem tabOk47 : TIok Tryd.prog 47 ⟨1, .ptr, [.pointer none]⟩ := ⟨by kernel_rfl, by kernel_rfl, .inr (by kernel_rfl)⟩
theorem tabOk48 : TIok Tryd.prog 48 ⟨4, .struct [(0, 1, false), (1, 1, false), (2, 1, false), (3, 1, false)], [.int .i64 0, .int .i64 0, .int .i64 0, .bool false]⟩ := ⟨by kernel_rfl, by kernel_rfl, .inr (by kernel_rfl)⟩
theorem tabOk49 : TIok Tryd.prog 49 ⟨4, .struct [(0, 1, false), (1, 1, false), (2, 1, false), (3, 1, false)], [.int .i64 0, .int .i64 0, .int .i64 0, .bool false]⟩ := ⟨by kernel_rfl, by kernel_rfl, .inr (by kernel_rfl)⟩
theorem tabOk50 : TIok Tryd.prog 50 ⟨1, .other, [.nilFunc]⟩ := ⟨by kernel_rfl, by kernel_rfl, .inr (by kernel_rfl)⟩
theorem tabOk51 : TIok Tryd.prog 51 ⟨1, .other, [.nilFunc]⟩ := ⟨by kernel_rfl, by kernel_rfl, .inr (by kernel_rfl)⟩
theorem tabOk52 : TIok Tryd.prog 52 ⟨1, .other, [.nilFunc]⟩ := ⟨by kernel_rfl, by kernel_rfl, .inr (by kernel_rfl)⟩
theorem tabOk53 : TIok Tryd.prog 53 ⟨1, .slice 59 10 true, [.slice none 0 0]⟩ := ⟨by kernel_rfl, by kernel_rfl, .inr (by kernel_rfl)⟩
theorem tabOk54 : TIok Tryd.prog 54 ⟨2, .struct [(0, 1, false), (1, 1, false)], [.int .i64 0, .int .i64 0]⟩ := ⟨by kernel_rfl, by kernel_rfl, .inr (by kernel_rfl)⟩
theorem tabOk55 : TIok Tryd.prog 55 ⟨2, .struct [(0, 1, false), (1, 1, false)], [.int .i64 0, .int .i64 0]⟩ := ⟨by kernel_rfl, by kernel_rfl, .inr (by kernel_rfl)⟩
theorem tabOk56 : TIok Tryd.prog 56 ⟨8, .struct [(0, 1, false), (1, 2, true), (3, 2, true), (5, 1, false), (6, 1, false), (7, 1, false)], [.int .i64 0, .int .i64 0, .int .i64 0, .int .i64 0, .int .i64 0, .int .i64 0, .int .i64 0, .int .i64 0]⟩ := ⟨by kernel_rfl, by kernel_rfl, .inr (by kernel_rfl)⟩
theorem tabOk57 : TIok Tryd.prog 57 ⟨8, .struct [(0, 1, false), (1, 2, true), (3, 2, true), (5, 1, false), (6, 1, false), (7, 1, false)], [.int .i64 0, .int .i64 0, .int .i64 0, .int .i64 0, .int .i64 0, .int .i64 0, .int .i64 0, .int .i64 0]⟩ := ⟨by kernel_rfl, by kernel_rfl, .inr (by kernel_rfl)⟩
theorem tabOk58 : TIok Tryd.prog 58 ⟨10, .struct [(0, 1, false), (1, 1, false), (2, 8, true)], [.int .i64 0, .int .i64 0, .int .i64 0, .int .i64 0, .int .i64 0, .int .i64 0, .int .i64 0, .int .i64 0, .int .i64 0, .int .i64 0]⟩ := ⟨by kernel_rfl, by kernel_rfl, .inr (by kernel_rfl)⟩
theorem tabOk59 : TIok Tryd.prog 59 ⟨10, .struct [(0, 1, false), (1, 1, false), (2, 8, true)], [.int .i64 0, .int .i64 0, .int .i64 0, .int .i64 0, .int .i64 0, .int .i64 0, .int .i64 0, .int .i64 0, .int .i64 0, .int .i64 0]⟩ := ⟨by kernel_rfl, by kernel_rfl, .inr (by kernel_rfl)⟩
theorem tabOk60 : TIok Tryd.prog 60 ⟨1, .ptr, [.pointer none]⟩ := ⟨by kernel_rfl, by kernel_rfl, .inr (by kernel_rfl)⟩
theorem tabOk61 : TIok Tryd.prog 61 ⟨1, .other, [.nilFunc]⟩ := ⟨by kernel_rfl, by kernel_rfl, .inr (by kernel_rfl)⟩
theorem tabOk62 : TIok Tryd.prog 62 ⟨1, .other, [.nilFunc]⟩ := ⟨by kernel_rfl, by kernel_rfl, .inr (by kernel_rfl)⟩
theorem tabOk63 : TIok Tryd.prog 63 ⟨1, .other, [.nilFunc]⟩ := ⟨by kernel_rfl, by kernel_rfl, .inr (by kernel_rfl)⟩
theorem tabOk64 : TIok Tryd.prog 64 ⟨1, .other, [.nilFunc]⟩ := ⟨by kernel_rfl, by kernel_rfl, .inr (by kernel_rfl)⟩
theorem tabOk65 : TIok Tryd.prog 65 ⟨1, .other, [.nilFunc]⟩ := ⟨by kernel_rfl, by kernel_rfl, .inr (by kernel_rfl)⟩
theorem tabOk66 : TIok Tryd.prog 66 ⟨1, .slice 70 2 true, [.slice none 0 0]⟩ := ⟨by kernel_rfl, by kernel_rfl, .inr (by kernel_rfl)⟩
theorem tabOk67 : TIok Tryd.prog 67 ⟨1, .ptr, [.pointer none]⟩ := ⟨by kernel_rfl, by kernel_rfl, .inr (by kernel_rfl)⟩
theorem tabOk68 : TIok Tryd.prog 68 ⟨2, .struct [(0, 1, false), (1, 1, false)], [.int .i64 0, .slice none 0 0]⟩ := ⟨by kernel_rfl, by kernel_rfl, .inr (by kernel_rfl)⟩
theorem tabOk69 : TIok Tryd.prog 69 ⟨2, .struct [(0, 1, false), (1, 1, false)], [.int .i64 0, .slice none 0 0]⟩ := ⟨by kernel_rfl, by kernel_rfl, .inr (by kernel_rfl)⟩
theorem tabOk70 : TIok Tryd.prog 70 ⟨2, .struct [(0, 1, false), (1, 1, false)], [.int .i64 0, .slice none 0 0]⟩ := ⟨by kernel_rfl, by kernel_rfl, .inr (by kernel_rfl)⟩
theorem tabOk71 : TIok Tryd.prog 71 ⟨1, .other, [.nilFunc]⟩ := ⟨by kernel_rfl, by kernel_rfl, .inr (by kernel_rfl)⟩
theorem tabOk72 : TIok Tryd.prog 72 ⟨1, .other, [.nilFunc]⟩ := ⟨by kernel_rfl, by kernel_rfl, .inr (by kernel_rfl)⟩
theorem tabOk73 : TIok Tryd.prog 73 ⟨1, .slice 57 8 true, [.slice none 0 0]⟩ := ⟨by kernel_rfl, by kernel_rfl, .inr (by kernel_rfl)⟩
theorem tabOk74 : TIok Tryd.prog 74 ⟨1, .other, [.nilFunc]⟩ := ⟨by kernel_rfl, by kernel_rfl, .inr (by kernel_rfl)⟩
theorem tabOk75 : TIok Tryd.prog 75 ⟨1, .other, [.nilFunc]⟩ := ⟨by kernel_rfl, by kernel_rfl, .inr (by kernel_rfl)⟩
theorem tabOk76 : TIok Tryd.prog 76 ⟨1, .other, [.nilFunc]⟩ := ⟨by kernel_rfl, by kernel_rfl, .inr (by kernel_rfl)⟩
theorem tabOk77 : TIok Tryd.prog 77 ⟨1, .slice 82 10 true, [.slice none 0 0]⟩ := ⟨by kernel_rfl, by kernel_rfl, .inr (by kernel_rfl)⟩
theorem tabOk78 : TIok Tryd.prog 78 ⟨1, .ptr, [.pointer none]⟩ := ⟨by kernel_rfl, by kernel_rfl, .inr (by kernel_rfl)⟩
theorem tabOk80 : TIok Tryd.prog 80 ⟨1, .other, [.nilFunc]⟩ := ⟨by kernel_rfl, by kernel_rfl, .inr (by kernel_rfl)⟩
theorem tabOk81 : TIok Tryd.prog 81 ⟨10, .struct [(0, 1, false), (1, 1, false), (2, 8, true)], [.string ByteArray.empty, .int .i64 0, .int .i64 0, .int .i64 0, .int .i64 0, .int .i64 0, .int .i64 0, .int .i64 0, .int .i64 0, .int .i64 0]⟩ := ⟨by kernel_rfl, by kernel_rfl, .inr (by kernel_rfl)⟩
theorem tabOk82 : TIok Tryd.prog 82 ⟨10, .struct [(0, 1, false), (1, 1, false), (2, 8, true)], [.string ByteArray.empty, .int .i64 0, .int .i64 0, .int .i64 0, .int .i64 0, .int .i64 0, .int .i64 0, .int .i64 0, .int .i64 0, .int .i64 0]⟩ := ⟨by kernel_rfl, by kernel_rfl, .inr (by kernel_rfl)⟩
theorem tabOk83 : TIok Tryd.prog 83 ⟨1, .other, [.nilFunc]⟩ := ⟨by kernel_rfl, by kernel_rfl, .inr (by kernel_rfl)⟩
theorem tabOk85 : TIok Tryd.prog 85 ⟨1, .other, [.nilFunc]⟩ := ⟨by kernel_rfl, by kernel_rfl, .inr (by kernel_rfl)⟩
theorem tabOk86 : TIok Tryd.prog 86 ⟨1, .other, [.nilFunc]⟩ := ⟨by kernel_rfl, by kernel_rfl, .inr (by kernel_rfl)⟩
theorem tabOk87 : TIok Tryd.prog 87 ⟨1, .other, [.nilFunc]⟩ := ⟨by kernel_rfl, by kernel_rfl, .inr (by kernel_rfl)⟩
theorem tabOk88 : TIok Tryd.prog 88 ⟨1, .other, [.nilFunc]⟩ := ⟨by kernel_rfl, by kernel_rfl, .inr (by kernel_rfl)⟩
theorem tabOk89 : TIok Tryd.prog 89 ⟨1, .other, [.nilFunc]⟩ := ⟨by kernel_rfl, by kernel_rfl, .inr (by kernel_rfl)⟩
theorem tabOk90 : TIok Tryd.prog 90 ⟨1, .other, [.nilFunc]⟩ := ⟨by kernel_rfl, by kernel_rfl, .inr (by kernel_rfl)⟩
theorem tabOk91 : TIok Tryd.prog 91 ⟨1, .other, [.map none]⟩ := ⟨by kernel_rfl, by kernel_rfl, .inr (by kernel_rfl)⟩
theorem tabOk92 : TIok Tryd.prog 92 ⟨1, .other, [.nilFunc]⟩ := ⟨by kernel_rfl, by kernel_rfl, .inr (by kernel_rfl)⟩
theorem tabOk93 : TIok Tryd.prog 93 ⟨2, .struct [(0, 1, false), (1, 1, false)], [.int .i64 0, .int .i64 0]⟩ := ⟨by kernel_rfl, by kernel_rfl, .inr (by kernel_rfl)⟩
theorem tabOk94 : TIok Tryd.prog 94 ⟨2, .struct [(0, 1, false), (1, 1, false)], [.int .i64 0, .int .i64 0]⟩ := ⟨by kernel_rfl, by kernel_rfl, .inr (by kernel_rfl)⟩
theorem tabOk95 : TIok Tryd.prog 95 ⟨4, .struct [(0, 1, false), (1, 1, false), (2, 1, false), (3, 1, false)], [.int .i64 0, .int .i64 0, .int .i64 0, .bool false]⟩ := ⟨by kernel_rfl, by kernel_rfl, .inr (by kernel_rfl)⟩
theorem tabOk96 : TIok Tryd.prog 96 ⟨4, .struct [(0, 1, false), (1, 1, false), (2, 1, false), (3, 1, false)], [.int .i64 0, .int .i64 0, .int .i64 0, .bool false]⟩ := ⟨by kernel_rfl, by kernel_rfl, .inr (by kernel_rfl)⟩
theorem tabOk97 : TIok Tryd.prog 97 ⟨320, .arr 32 59 10 true, []⟩ := ⟨by kernel_rfl, by kernel_rfl, .inl rfl⟩
theorem tabOk98 : TIok Tryd.prog 98 ⟨321, .struct [(0, 1, false), (1, 320, true)], []⟩ := ⟨by kernel_rfl, by kernel_rfl, .inl rfl⟩
theorem tabOk99 : TIok Tryd.prog 99 ⟨321, .struct [(0, 1, false), (1, 320, true)], []⟩ := ⟨by kernel_rfl, by kernel_rfl, .inl rfl⟩
theorem tabOk100 : TIok Tryd.prog 100 ⟨1, .other, [.nilFunc]⟩ := ⟨by kernel_rfl, by kernel_rfl, .inr (by kernel_rfl)⟩
theorem tabOk101 : TIok Tryd.prog 101 ⟨1, .other, [.nilFunc]⟩ := ⟨by kernel_rfl, by kernel_rfl, .inr (by kernel_rfl)⟩
theorem tabOk102 : TIok Tryd.prog 102 ⟨1, .other, [.nilFunc]⟩ := ⟨by kernel_rfl, by kernel_rfl, .inr (by kernel_rfl)⟩
theorem tabOk103 : TIok Tryd.prog 103 ⟨321, .struct [(0, 1, false), (1, 320, true)], []⟩ := ⟨by kernel_rfl, by kernel_rfl, .inl rfl⟩
theorem tabOk104 : TIok Tryd.prog 104 ⟨321, .struct [(0, 1, false), (1, 320, true)], []⟩ := ⟨by kernel_rfl, by kernel_rfl, .inl rfl⟩
theorem tabOk105 : TIok Tryd.prog 105 ⟨1, .other, [.nilFunc]⟩ := ⟨by kernel_rfl, by kernel_rfl, .inr (by kernel_rfl)⟩
theorem tabOk106 : TIok Tryd.prog 106 ⟨1, .other, [.nilFunc]⟩ := ⟨by kernel_rfl, by kernel_rfl, .inr (by kernel_rfl)⟩
theorem tabOk107 : TIok Tryd.prog 107 ⟨1, .ptr, [.pointer none]⟩ := ⟨by kernel_rfl, by kernel_rfl, .inr (by kernel_rfl)⟩
theorem tabOk109 : TIok Tryd.prog 109 ⟨1, .other, [.nilFunc]⟩ := ⟨by kernel_rfl, by kernel_rfl, .inr (by kernel_rfl)⟩
theorem tabOk110 : TIok Tryd.prog 110 ⟨1, .ptr, [.pointer none]⟩ := ⟨by kernel_rfl, by kernel_rfl, .inr (by kernel_rfl)⟩
theorem tabOk111 : TIok Tryd.prog 111 ⟨1, .other, [.nilFunc]⟩ := ⟨by kernel_rfl, by kernel_rfl, .inr (by kernel_rfl)⟩
theorem tabOk112 : TIok Tryd.prog 112 ⟨1, .ptr, [.pointer none]⟩ := ⟨by kernel_rfl, by kernel_rfl, .inr (by kernel_rfl)⟩
theorem tabOk113 : TIok Tryd.prog 113 ⟨2, .struct [(0, 1, false), (1, 1, false)], [.int .i64 0, .nilIface]⟩ := ⟨by kernel_rfl, by kernel_rfl, .inr (by kernel_rfl)⟩
theorem tabOk114 : TIok Tryd.prog 114 ⟨2, .struct [(0, 1, false), (1, 1, false)], [.int .i64 0, .nilIface]⟩ := ⟨by kernel_rfl, by kernel_rfl, .inr (by kernel_rfl)⟩
theorem tabOk115 : TIok Tryd.prog 115 ⟨1, .slice 29 1 false, [.slice none 0 0]⟩ := ⟨by kernel_rfl, by kernel_rfl, .inr (by kernel_rfl)⟩
theorem tabOk116 : TIok Tryd.prog 116 ⟨1, .other, [.nilFunc]⟩ := ⟨by kernel_rfl, by kernel_rfl, .inr (by kernel_rfl)⟩
theorem tabOk117 : TIok Tryd.prog 117 ⟨1, .other, [.nilFunc]⟩ := ⟨by kernel_rfl, by kernel_rfl, .inr (by kernel_rfl)⟩
theorem tabOk118 : TIok Tryd.prog 118 ⟨1, .other, [.nilFunc]⟩ := ⟨by kernel_rfl, by kernel_rfl, .inr (by kernel_rfl)⟩
theorem tabOk119 : TIok Tryd.prog 119 ⟨1, .other, [.nilFunc]⟩ := ⟨by kernel_rfl, by kernel_rfl, .inr (by kernel_rfl)⟩
theorem tabOk120 : TIok Tryd.prog 120 ⟨1, .other, [.nilFunc]⟩ := ⟨by kernel_rfl, by kernel_rfl, .inr (by kernel_rfl)⟩
theorem tabOk124 : TIok Tryd.prog 124 ⟨3, .struct [(0, 1, false), (1, 1, false), (2, 1, false)], [.pointer none, .pointer none, .int .u64 0]⟩ := ⟨by kernel_rfl, by kernel_rfl, .inr (by kernel_rfl)⟩
theorem tabOk127 : TIok Tryd.prog 127 ⟨1, .iface, [.nilIface]⟩ := ⟨by kernel_rfl, by kernel_rfl, .inr (by kernel_rfl)⟩
theorem tabOk129 : TIok Tryd.prog 129 ⟨1, .other, [.int .u8 0]⟩ := ⟨by kernel_rfl, by kernel_rfl, .inr (by kernel_rfl)⟩
theorem tabOk134 : TIok Tryd.prog 134 ⟨1, .other, [.nilFunc]⟩ := ⟨by kernel_rfl, by kernel_rfl, .inr (by kernel_rfl)⟩
theorem tabOk140 : TIok Tryd.prog 140 ⟨1, .iface, [.nilIface]⟩ := ⟨by kernel_rfl, by kernel_rfl, .inr (by kernel_rfl)⟩
theorem tabOk142 : TIok Tryd.prog 142 ⟨1, .other, [.nilFunc]⟩ := ⟨by kernel_rfl, by kernel_rfl, .inr (by kernel_rfl)⟩
theorem tabOk143 : TIok Tryd.prog 143 ⟨1, .iface, [.nilIface]⟩ := ⟨by kernel_rfl, by kernel_rfl, .inr (by kernel_rfl)⟩
theorem tabOk144 : TIok Tryd.prog 144 ⟨1, .other, [.nilFunc]⟩ := ⟨by kernel_rfl, by kernel_rfl, .inr (by kernel_rfl)⟩
theorem tabOk145 : TIok Tryd.prog 145 ⟨1, .iface, [.nilIface]⟩ := ⟨by kernel_rfl, by kernel_rfl, .inr (by kernel_rfl)⟩
theorem tabOk146 : TIok Tryd.prog 146 ⟨1, .other, [.nilFunc]⟩ := ⟨by kernel_rfl, by kernel_rfl, .inr (by kernel_rfl)⟩
theorem tabOk147 : TIok Tryd.prog 147 ⟨1, .iface, [.nilIface]⟩ := ⟨by kernel_rfl, by kernel_rfl, .inr (by kernel_rfl)⟩
theorem tabOk149 : TIok Tryd.prog 149 ⟨1, .other, [.nilFunc]⟩ := ⟨by kernel_rfl, by kernel_rfl, .inr (by kernel_rfl)⟩
theorem tabOk150 : TIok Tryd.prog 150 ⟨1, .ptr, [.pointer none]⟩ := ⟨by kernel_rfl, by kernel_rfl, .inr (by kernel_rfl)⟩
theorem tabOk151 : TIok Tryd.prog 151 ⟨1, .other, [.nilFunc]⟩ := ⟨by kernel_rfl, by kernel_rfl, .inr (by kernel_rfl)⟩
theorem tabOk158 : TIok Tryd.prog 158 ⟨1, .other, [.int .u32 0]⟩ := ⟨by kernel_rfl, by kernel_rfl, .inr (by kernel_rfl)⟩
theorem tabOk160 : TIok Tryd.prog 160 ⟨1, .other, [.nilFunc]⟩ := ⟨by kernel_rfl, by kernel_rfl, .inr (by kernel_rfl)⟩
theorem tabOk161 : TIok Tryd.prog 161 ⟨1, .ptr, [.pointer none]⟩ := ⟨by kernel_rfl, by kernel_rfl, .inr (by kernel_rfl)⟩
theorem tabOk166 : TIok Tryd.prog 166 ⟨1, .other, [.nilFunc]⟩ := ⟨by kernel_rfl, by kernel_rfl, .inr (by kernel_rfl)⟩
theorem tabOk170 : TIok Tryd.prog 170 ⟨1, .struct [(0, 1, false)], [.string ByteArray.empty]⟩ := ⟨by kernel_rfl, by kernel_rfl, .inr (by kernel_rfl)⟩
theorem tabOk171 : TIok Tryd.prog 171 ⟨1, .struct [(0, 1, false)], [.string ByteArray.empty]⟩ := ⟨by kernel_rfl, by kernel_rfl, .inr (by kernel_rfl)⟩
theorem tabOk174 : TIok Tryd.prog 174 ⟨1, .other, [.int .u16 0]⟩ := ⟨by kernel_rfl, by kernel_rfl, .inr (by kernel_rfl)⟩
theorem tabOk181 : TIok Tryd.prog 181 ⟨1, .other, [.nilFunc]⟩ := ⟨by kernel_rfl, by kernel_rfl, .inr (by kernel_rfl)⟩
theorem tabOk182 : TIok Tryd.prog 182 ⟨1, .ptr, [.pointer none]⟩ := ⟨by kernel_rfl, by kernel_rfl, .inr (by kernel_rfl)⟩
theorem tabOk : TabOk Tryd.prog tab :=
  TabOk.of_all (⟨tabOk1, ⟨tabOk2, ⟨tabOk3, ⟨tabOk4, ⟨tabOk5, ⟨tabOk9, ⟨tabOk12, ⟨tabOk13, ⟨tabOk20, ⟨tabOk21, ⟨tabOk22, ⟨tabOk23, ⟨tabOk24, ⟨tabOk26, ⟨tabOk27, ⟨tabOk28, ⟨tabOk29, ⟨tabOk31, ⟨tabOk33, ⟨tabOk34, ⟨tabOk35, ⟨tabOk36, ⟨tabOk37, ⟨tabOk39, ⟨tabOk40, ⟨tabOk41, ⟨tabOk42, ⟨tabOk43, ⟨tabOk44, ⟨tabOk45, ⟨tabOk46, ⟨tabOk47, ⟨tabOk48, ⟨tabOk49, ⟨tabOk50, ⟨tabOk51, ⟨tabOk52, ⟨tabOk53, ⟨tabOk54, ⟨tabOk55, ⟨tabOk56, ⟨tabOk57, ⟨tabOk58, ⟨tabOk59, ⟨tabOk60, ⟨tabOk61, ⟨tabOk62, ⟨tabOk63, ⟨tabOk64, ⟨tabOk65, ⟨tabOk66, ⟨tabOk67, ⟨tabOk68, ⟨tabOk69, ⟨tabOk70, ⟨tabOk71, ⟨tabOk72, ⟨tabOk73, ⟨tabOk74, ⟨tabOk75, ⟨tabOk76, ⟨tabOk77, ⟨tabOk78, ⟨tabOk80, ⟨tabOk81, ⟨tabOk82, ⟨tabOk83, ⟨tabOk85, ⟨tabOk86, ⟨tabOk87, ⟨tabOk88, ⟨tabOk89, ⟨tabOk90, ⟨tabOk91, ⟨tabOk92, ⟨tabOk93, ⟨tabOk94, ⟨tabOk95, ⟨tabOk96, ⟨tabOk97, ⟨tabOk98, ⟨tabOk99, ⟨tabOk100, ⟨tabOk101, ⟨tabOk102, ⟨tabOk103, ⟨tabOk104, ⟨tabOk105, ⟨tabOk106, ⟨tabOk107, ⟨tabOk109, ⟨tabOk110, ⟨tabOk111, ⟨tabOk112, ⟨tabOk113, ⟨tabOk114, ⟨tabOk115, ⟨tabOk116, ⟨tabOk117, ⟨tabOk118, ⟨tabOk119, ⟨tabOk120, ⟨tabOk124, ⟨tabOk127, ⟨tabOk129, ⟨tabOk134, ⟨tabOk140, ⟨tabOk142, ⟨tabOk143, ⟨tabOk144, ⟨tabOk145, ⟨tabOk146, ⟨tabOk147, ⟨tabOk149, ⟨tabOk150, ⟨tabOk151, ⟨tabOk158, ⟨tabOk160, ⟨tabOk161, ⟨tabOk166, ⟨tabOk170, ⟨tabOk171, ⟨tabOk174, ⟨tabOk181, ⟨tabOk182, trivial⟩⟩⟩⟩⟩⟩⟩⟩⟩⟩⟩⟩⟩⟩⟩⟩⟩⟩⟩⟩⟩⟩⟩⟩⟩⟩⟩⟩⟩⟩⟩⟩⟩⟩⟩⟩⟩⟩⟩⟩⟩⟩⟩⟩⟩⟩⟩⟩⟩⟩⟩⟩⟩⟩⟩⟩⟩⟩⟩⟩⟩⟩⟩⟩⟩⟩⟩⟩⟩⟩⟩⟩⟩⟩⟩⟩⟩⟩⟩⟩⟩⟩⟩⟩⟩⟩⟩⟩⟩⟩⟩⟩⟩⟩⟩⟩⟩⟩⟩⟩⟩⟩⟩⟩⟩⟩⟩⟩⟩⟩⟩⟩⟩⟩⟩⟩⟩⟩⟩⟩⟩⟩⟩⟩⟩)
theorem mixed : Tryd.prog.follows .mixedOrders = true := by kernel_rfl
end Go.Proofs.YtnpfaghfcbbmdaaDoor
