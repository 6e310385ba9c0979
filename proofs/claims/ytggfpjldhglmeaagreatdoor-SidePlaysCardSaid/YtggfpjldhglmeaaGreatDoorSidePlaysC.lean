/-
  Texts of this claim, joined: Tab, ZMac, ZMb, PoolA, PoolB, PoolC, PoolD, PoolE, PoolF, PoolG, PoolH, PoolI, PoolJ.
-/
import Derived.Test.YtggfpjldhglmeaaGreatDoorSidePlaysB
import Derived.Test.YtggfpjldhglmeaaGreatDoorProg
import Derived.Conc.Beside
import Derived.Conc.CrowdTrace
import Derived.Conc.CrowdBase
import Derived.Conc.CrowdSel
import Derived.Conc.CrowdRun
set_option linter.unusedSectionVars false
set_option linter.unusedSimpArgs false
set_option linter.unusedVariables false
set_option maxRecDepth 20000
namespace Go.Proofs.YtggfpjldhglmeaaGreatDoor
open Go Tryz
section
open Ev
variable [Gap.Leaps]
variable {n:Nat}{p:Prop}{w:World}
abbrev oF:TI:=⟨1,.other,[.nilFunc]⟩
def aL:Tab:=[
 (1,oF),
 (2,⟨1,.int,[.int .i64 0]⟩),
 (3,⟨1,.int,[.int .i64 0]⟩),
 (4,⟨1,.bool,[.bool false]⟩),
 (5,⟨1,.other,[.int .u8 0]⟩),
 (9,⟨1,.str,[.string ByteArray.empty]⟩),
 (20,⟨1,.iface,[.nilIface]⟩),
 (21,⟨1,.other,[.int .i32 0]⟩),
 (22,⟨1,.slice 58 5 true,[.slice none 0 0]⟩),
 (23,⟨1,.slice 25 1 false,[.slice none 0 0]⟩),
 (25,⟨1,.slice 3 1 false,[.slice none 0 0]⟩),
 (26,⟨1,.slice 43 2 true,[.slice none 0 0]⟩),
 (28,⟨1,.iface,[.nilIface]⟩),
 (33,⟨2,.struct [(0,1,false),(1,1,false)],[.int .i64 0,.int .i64 0]⟩),
 (37,⟨1,.ptr,[.pointer none]⟩),
 (41,⟨1,.slice 81 2 true,[.slice none 0 0]⟩),
 (43,⟨2,.struct [(0,1,false),(1,1,false)],[.slice none 0 0,.slice none 0 0]⟩),
 (45,⟨1,.slice 80 2 true,[.slice none 0 0]⟩),
 (47,⟨1,.slice 75 1 false,[.slice none 0 0]⟩),
 (48,⟨1,.slice 73 1 false,[.slice none 0 0]⟩),
 (49,⟨1,.slice 222 5 true,[.slice none 0 0]⟩),
 (51,⟨7,.struct [(0,1,false),(1,1,false),(2,1,false),(3,1,false),(4,1,false),(5,1,false),(6,1,false)],[.slice none 0 0,.slice none 0 0,.slice none 0 0,.slice none 0 0,.int .i64 0,.int .i64 0,.slice none 0 0]⟩),
 (53,⟨1,.slice 22 1 false,[.slice none 0 0]⟩),
 (56,⟨1,.slice 9 1 false,[.slice none 0 0]⟩),
 (58,⟨5,.struct [(0,1,false),(1,1,false),(2,1,false),(3,1,false),(4,1,false)],[.bool false,.bool false,.int .i64 0,.int .i64 0,.int .i64 0]⟩),
 (60,⟨1,.ptr,[.pointer none]⟩),
 (63,⟨1,.slice 28 1 false,[.slice none 0 0]⟩),
 (68,oF),
 (73,⟨1,.ptr,[.pointer none]⟩),
 (75,⟨1,.ptr,[.pointer none]⟩),
 (80,⟨2,.struct [(0,1,false),(1,1,false)],[.int .i64 0,.int .i64 0]⟩),
 (81,⟨2,.struct [(0,1,false),(1,1,false)],[.int .i64 0,.int .i64 0]⟩),
 (86,oF),
 (87,⟨1,.ptr,[.pointer none]⟩),
 (89,⟨1,.ptr,[.pointer none]⟩),
 (91,⟨2,.struct [(0,1,false),(1,1,false)],[.int .i64 0,.nilIface]⟩),
 (93,⟨1,.ptr,[.pointer none]⟩),
 (94,⟨2,.arr 2 93 1 false,[.pointer none,.pointer none]⟩),
 (95,⟨1,.slice 273 5 true,[.slice none 0 0]⟩),
 (97,⟨7,.struct [(0,2,true),(2,1,false),(3,1,false),(4,1,false),(5,1,false),(6,1,false)],[.pointer none,.pointer none,.slice none 0 0,.slice none 0 0,.int .i64 0,.int .i64 0,.slice none 0 0]⟩),
 (98,⟨1,.ptr,[.pointer none]⟩),
 (100,⟨1,.ptr,[.pointer none]⟩),
 (104,⟨2,.struct [(0,1,false),(1,1,false)],[.pointer none,.pointer none]⟩),
 (105,⟨1,.other,[.chan none]⟩),
 (106,⟨1,.other,[.chan none]⟩),
 (111,⟨1,.other,[.int .u64 0]⟩),
 (114,⟨1,.other,[.int .u32 0]⟩),
 (120,⟨4,.struct [(0,1,false),(1,2,true),(3,1,false)],[.int .i64 0,.slice none 0 0,.slice none 0 0,.nilIface]⟩),
 (124,⟨1,.slice 5 1 false,[.slice none 0 0]⟩),
 (126,⟨4,.struct [(0,1,false),(1,1,false),(2,1,false),(3,1,false)],[.string ByteArray.empty,.bool false,.int .i64 0,.bool false]⟩),
 (127,⟨1,.ptr,[.pointer none]⟩),
 (131,⟨5,.struct [(0,1,false),(1,1,false),(2,1,false),(3,1,false),(4,1,false)],[.pointer none,.int .i64 0,.int .i64 0,.int .i64 0,.bool false]⟩),
 (132,⟨1,.ptr,[.pointer none]⟩),
 (134,⟨4,.struct [(0,1,false),(1,1,false),(2,1,false),(3,1,false)],[.int .i64 0,.int .i64 0,.int .i64 0,.bool false]⟩),
 (135,⟨1,.ptr,[.pointer none]⟩),
 (137,⟨1,.ptr,[.pointer none]⟩),
 (138,⟨1,.slice 218 10 true,[.slice none 0 0]⟩),
 (141,⟨2,.struct [(0,1,false),(1,1,false)],[.int .i64 0,.slice none 0 0]⟩),
 (142,⟨1,.ptr,[.pointer none]⟩),
 (144,⟨8,.struct [(0,1,false),(1,1,false),(2,1,false),(3,1,false),(4,1,false),(5,1,false),(6,1,false),(7,1,false)],[.int .i64 0,.int .i64 0,.pointer none,.pointer none,.pointer none,.pointer none,.pointer none,.slice none 0 0]⟩),
 (147,⟨2,.struct [(0,1,false),(1,1,false)],[.int .i64 0,.int .i64 0]⟩),
 (149,⟨6,.struct [(0,1,false),(1,2,true),(3,2,true),(5,1,false)],[.int .i64 0,.int .i64 0,.int .i64 0,.int .i64 0,.int .i64 0,.int .i64 0]⟩),
 (153,⟨1,.other,[.chan none]⟩),
 (155,⟨3,.struct [(0,1,false),(1,1,false),(2,1,false)],[.int .i64 0,.slice none 0 0,.nilIface]⟩),
 (163,⟨3,.struct [(0,1,false),(1,1,false),(2,1,false)],[.pointer none,.pointer none,.int .u64 0]⟩),
 (166,⟨1,.iface,[.nilIface]⟩),
 (168,⟨1,.other,[.int .u8 0]⟩),
 (174,⟨64,.arr 64 5 1 false,[]⟩),
 (176,⟨66,.struct [(0,64,true),(64,1,false),(65,1,false)],[]⟩),
 (177,⟨1,.ptr,[.pointer none]⟩),
 (180,⟨1,.ptr,[.pointer none]⟩),
 (184,⟨1,.ptr,[.pointer none]⟩),
 (187,⟨1,.ptr,[.pointer none]⟩),
 (189,⟨1,.ptr,[.pointer none]⟩),
 (192,⟨8,.struct [(0,1,false),(1,1,false),(2,1,false),(3,1,false),(4,1,false),(5,1,false),(6,1,false),(7,1,false)],[.pointer none,.int .i64 0,.int .i64 0,.pointer none,.pointer none,.pointer none,.pointer none,.slice none 0 0]⟩),
 (193,⟨1,.ptr,[.pointer none]⟩),
 (196,⟨1,.other,[.int .u64 0]⟩),
 (201,⟨1,.ptr,[.pointer none]⟩),
 (214,⟨2,.struct [(0,1,false),(1,1,false)],[.int .i64 0,.slice none 0 0]⟩),
 (216,⟨8,.struct [(0,1,false),(1,2,true),(3,2,true),(5,1,false),(6,1,false),(7,1,false)],[.int .i64 0,.int .i64 0,.int .i64 0,.int .i64 0,.int .i64 0,.int .i64 0,.int .i64 0,.int .i64 0]⟩),
 (218,⟨10,.struct [(0,1,false),(1,1,false),(2,8,true)],[.int .i64 0,.int .i64 0,.int .i64 0,.int .i64 0,.int .i64 0,.int .i64 0,.int .i64 0,.int .i64 0,.int .i64 0,.int .i64 0]⟩),
 (220,⟨3,.struct [(0,1,false),(1,1,false),(2,1,false)],[.pointer none,.slice none 0 0,.int .i64 0]⟩),
 (222,⟨5,.struct [(0,1,false),(1,1,false),(2,1,false),(3,1,false),(4,1,false)],[.int .i64 0,.int .i64 0,.int .i64 0,.bool false,.slice none 0 0]⟩),
 (231,⟨3,.arr 3 9 1 false,[.string ByteArray.empty,.string ByteArray.empty,.string ByteArray.empty]⟩),
 (242,⟨1,.iface,[.nilIface]⟩),
 (245,⟨1,.iface,[.nilIface]⟩),
 (247,⟨1,.iface,[.nilIface]⟩),
 (249,⟨320,.arr 32 218 10 true,[]⟩),
 (251,⟨321,.struct [(0,1,false),(1,320,true)],[]⟩),
 (253,⟨5,.struct [(0,1,false),(1,1,false),(2,1,false),(3,1,false),(4,1,false)],[.pointer none,.int .i64 0,.int .i64 0,.int .i64 0,.bool false]⟩),
 (257,⟨4,.struct [(0,1,false),(1,1,false),(2,1,false),(3,1,false)],[.int .i64 0,.int .i64 0,.int .i64 0,.bool false]⟩),
 (258,⟨32,.arr 32 3 1 false,[]⟩),
 (260,⟨34,.struct [(0,1,false),(1,32,true),(33,1,false)],[]⟩),
 (262,⟨321,.struct [(0,1,false),(1,320,true)],[]⟩),
 (263,⟨1,.int,[.int .i64 0]⟩),
 (269,⟨1,.ptr,[.pointer none]⟩),
 (271,⟨1,.ptr,[.pointer none]⟩),
 (273,⟨5,.struct [(0,1,false),(1,1,false),(2,1,false),(3,1,false),(4,1,false)],[.int .i64 0,.int .i64 0,.int .i64 0,.bool false,.slice none 0 0]⟩),
 (284,⟨4,.arr 4 3 1 false,[.int .i64 0,.int .i64 0,.int .i64 0,.int .i64 0]⟩),
 (285,⟨1,.iface,[.nilIface]⟩),
 (293,⟨1,.slice 216 8 true,[.slice none 0 0]⟩),
 (327,⟨1,.slice 4 1 false,[.slice none 0 0]⟩),
 (335,⟨1,.ptr,[.pointer none]⟩),
 (337,⟨2,.struct [(0,1,false),(1,1,false)],[.pointer none,.slice none 0 0]⟩),
 (343,⟨1,.other,[.map none]⟩),
 (346,oF),
 (350,⟨1,.ptr,[.pointer none]⟩),
 (355,⟨1,.int,[.int .i64 0]⟩),
 (365,⟨1,.other,[.map none]⟩),
 (368,⟨2,.struct [(0,1,false),(1,1,false)],[.int .i64 0,.int .i64 0]⟩),
 (381,⟨24,.arr 24 5 1 false,[]⟩),
 (390,⟨1,.ptr,[.pointer none]⟩),
 (392,⟨1,.struct [(0,1,false)],[.string ByteArray.empty]⟩)]
theorem zyY:aK prog 1 oF:=⟨zk,zk,.inr zk⟩
theorem zyZ:aK prog 2 ⟨1,.int,[.int .i64 0]⟩:=⟨zk,zk,.inr zk⟩
theorem zy0:aK prog 3 ⟨1,.int,[.int .i64 0]⟩:=⟨zk,zk,.inr zk⟩
theorem zy1:aK prog 4 ⟨1,.bool,[.bool false]⟩:=⟨zk,zk,.inr zk⟩
theorem zy2:aK prog 5 ⟨1,.other,[.int .u8 0]⟩:=⟨zk,zk,.inr zk⟩
theorem zy3:aK prog 9 ⟨1,.str,[.string ByteArray.empty]⟩:=⟨zk,zk,.inr zk⟩
theorem zw2:aK prog 20 ⟨1,.iface,[.nilIface]⟩:=⟨zk,zk,.inr zk⟩
theorem zw3:aK prog 21 ⟨1,.other,[.int .i32 0]⟩:=⟨zk,zk,.inr zk⟩
theorem zw4:aK prog 22 ⟨1,.slice 58 5 true,[.slice none 0 0]⟩:=⟨zk,zk,.inr zk⟩
theorem zw5:aK prog 23 ⟨1,.slice 25 1 false,[.slice none 0 0]⟩:=⟨zk,zk,.inr zk⟩
theorem zw6:aK prog 25 ⟨1,.slice 3 1 false,[.slice none 0 0]⟩:=⟨zk,zk,.inr zk⟩
theorem zw7:aK prog 26 ⟨1,.slice 43 2 true,[.slice none 0 0]⟩:=⟨zk,zk,.inr zk⟩
theorem zw8:aK prog 28 ⟨1,.iface,[.nilIface]⟩:=⟨zk,zk,.inr zk⟩
theorem zw9:aK prog 33 ⟨2,.struct [(0,1,false),(1,1,false)],[.int .i64 0,.int .i64 0]⟩:=⟨zk,zk,.inr zk⟩
theorem zxa:aK prog 37 ⟨1,.ptr,[.pointer none]⟩:=⟨zk,zk,.inr zk⟩
theorem zxb:aK prog 41 ⟨1,.slice 81 2 true,[.slice none 0 0]⟩:=⟨zk,zk,.inr zk⟩
theorem zxc:aK prog 43 ⟨2,.struct [(0,1,false),(1,1,false)],[.slice none 0 0,.slice none 0 0]⟩:=⟨zk,zk,.inr zk⟩
theorem zxd:aK prog 45 ⟨1,.slice 80 2 true,[.slice none 0 0]⟩:=⟨zk,zk,.inr zk⟩
theorem zxe:aK prog 47 ⟨1,.slice 75 1 false,[.slice none 0 0]⟩:=⟨zk,zk,.inr zk⟩
theorem zxf:aK prog 48 ⟨1,.slice 73 1 false,[.slice none 0 0]⟩:=⟨zk,zk,.inr zk⟩
theorem zxg:aK prog 49 ⟨1,.slice 222 5 true,[.slice none 0 0]⟩:=⟨zk,zk,.inr zk⟩
theorem zxh:aK prog 51 ⟨7,.struct [(0,1,false),(1,1,false),(2,1,false),(3,1,false),(4,1,false),(5,1,false),(6,1,false)],[.slice none 0 0,.slice none 0 0,.slice none 0 0,.slice none 0 0,.int .i64 0,.int .i64 0,.slice none 0 0]⟩:=⟨zk,zk,.inr zk⟩
theorem zxi:aK prog 53 ⟨1,.slice 22 1 false,[.slice none 0 0]⟩:=⟨zk,zk,.inr zk⟩
theorem zxj:aK prog 56 ⟨1,.slice 9 1 false,[.slice none 0 0]⟩:=⟨zk,zk,.inr zk⟩
theorem zxk:aK prog 58 ⟨5,.struct [(0,1,false),(1,1,false),(2,1,false),(3,1,false),(4,1,false)],[.bool false,.bool false,.int .i64 0,.int .i64 0,.int .i64 0]⟩:=⟨zk,zk,.inr zk⟩
theorem zxl:aK prog 60 ⟨1,.ptr,[.pointer none]⟩:=⟨zk,zk,.inr zk⟩
theorem zxm:aK prog 63 ⟨1,.slice 28 1 false,[.slice none 0 0]⟩:=⟨zk,zk,.inr zk⟩
theorem zxn:aK prog 68 oF:=⟨zk,zk,.inr zk⟩
theorem zxo:aK prog 73 ⟨1,.ptr,[.pointer none]⟩:=⟨zk,zk,.inr zk⟩
theorem zxp:aK prog 75 ⟨1,.ptr,[.pointer none]⟩:=⟨zk,zk,.inr zk⟩
theorem zxq:aK prog 80 ⟨2,.struct [(0,1,false),(1,1,false)],[.int .i64 0,.int .i64 0]⟩:=⟨zk,zk,.inr zk⟩
theorem zxr:aK prog 81 ⟨2,.struct [(0,1,false),(1,1,false)],[.int .i64 0,.int .i64 0]⟩:=⟨zk,zk,.inr zk⟩
theorem zxs:aK prog 86 oF:=⟨zk,zk,.inr zk⟩
theorem zxt:aK prog 87 ⟨1,.ptr,[.pointer none]⟩:=⟨zk,zk,.inr zk⟩
theorem zxu:aK prog 89 ⟨1,.ptr,[.pointer none]⟩:=⟨zk,zk,.inr zk⟩
theorem zxv:aK prog 91 ⟨2,.struct [(0,1,false),(1,1,false)],[.int .i64 0,.nilIface]⟩:=⟨zk,zk,.inr zk⟩
theorem zxw:aK prog 93 ⟨1,.ptr,[.pointer none]⟩:=⟨zk,zk,.inr zk⟩
theorem zxx:aK prog 94 ⟨2,.arr 2 93 1 false,[.pointer none,.pointer none]⟩:=⟨zk,zk,.inr zk⟩
theorem zxy:aK prog 95 ⟨1,.slice 273 5 true,[.slice none 0 0]⟩:=⟨zk,zk,.inr zk⟩
theorem zxz:aK prog 97 ⟨7,.struct [(0,2,true),(2,1,false),(3,1,false),(4,1,false),(5,1,false),(6,1,false)],[.pointer none,.pointer none,.slice none 0 0,.slice none 0 0,.int .i64 0,.int .i64 0,.slice none 0 0]⟩:=⟨zk,zk,.inr zk⟩
theorem zxA:aK prog 98 ⟨1,.ptr,[.pointer none]⟩:=⟨zk,zk,.inr zk⟩
theorem ztU:aK prog 100 ⟨1,.ptr,[.pointer none]⟩:=⟨zk,zk,.inr zk⟩
theorem ztV:aK prog 104 ⟨2,.struct [(0,1,false),(1,1,false)],[.pointer none,.pointer none]⟩:=⟨zk,zk,.inr zk⟩
theorem ztW:aK prog 105 ⟨1,.other,[.chan none]⟩:=⟨zk,zk,.inr zk⟩
theorem ztX:aK prog 106 ⟨1,.other,[.chan none]⟩:=⟨zk,zk,.inr zk⟩
theorem ztY:aK prog 111 ⟨1,.other,[.int .u64 0]⟩:=⟨zk,zk,.inr zk⟩
theorem ztZ:aK prog 114 ⟨1,.other,[.int .u32 0]⟩:=⟨zk,zk,.inr zk⟩
theorem zt0:aK prog 120 ⟨4,.struct [(0,1,false),(1,2,true),(3,1,false)],[.int .i64 0,.slice none 0 0,.slice none 0 0,.nilIface]⟩:=⟨zk,zk,.inr zk⟩
theorem zt1:aK prog 124 ⟨1,.slice 5 1 false,[.slice none 0 0]⟩:=⟨zk,zk,.inr zk⟩
theorem zt2:aK prog 126 ⟨4,.struct [(0,1,false),(1,1,false),(2,1,false),(3,1,false)],[.string ByteArray.empty,.bool false,.int .i64 0,.bool false]⟩:=⟨zk,zk,.inr zk⟩
theorem zt3:aK prog 127 ⟨1,.ptr,[.pointer none]⟩:=⟨zk,zk,.inr zk⟩
theorem zt4:aK prog 131 ⟨5,.struct [(0,1,false),(1,1,false),(2,1,false),(3,1,false),(4,1,false)],[.pointer none,.int .i64 0,.int .i64 0,.int .i64 0,.bool false]⟩:=⟨zk,zk,.inr zk⟩
theorem zt5:aK prog 132 ⟨1,.ptr,[.pointer none]⟩:=⟨zk,zk,.inr zk⟩
theorem zt6:aK prog 134 ⟨4,.struct [(0,1,false),(1,1,false),(2,1,false),(3,1,false)],[.int .i64 0,.int .i64 0,.int .i64 0,.bool false]⟩:=⟨zk,zk,.inr zk⟩
theorem zt7:aK prog 135 ⟨1,.ptr,[.pointer none]⟩:=⟨zk,zk,.inr zk⟩
theorem zt8:aK prog 137 ⟨1,.ptr,[.pointer none]⟩:=⟨zk,zk,.inr zk⟩
theorem zt9:aK prog 138 ⟨1,.slice 218 10 true,[.slice none 0 0]⟩:=⟨zk,zk,.inr zk⟩
theorem zua:aK prog 141 ⟨2,.struct [(0,1,false),(1,1,false)],[.int .i64 0,.slice none 0 0]⟩:=⟨zk,zk,.inr zk⟩
theorem zub:aK prog 142 ⟨1,.ptr,[.pointer none]⟩:=⟨zk,zk,.inr zk⟩
theorem zuc:aK prog 144 ⟨8,.struct [(0,1,false),(1,1,false),(2,1,false),(3,1,false),(4,1,false),(5,1,false),(6,1,false),(7,1,false)],[.int .i64 0,.int .i64 0,.pointer none,.pointer none,.pointer none,.pointer none,.pointer none,.slice none 0 0]⟩:=⟨zk,zk,.inr zk⟩
theorem zud:aK prog 147 ⟨2,.struct [(0,1,false),(1,1,false)],[.int .i64 0,.int .i64 0]⟩:=⟨zk,zk,.inr zk⟩
theorem zue:aK prog 149 ⟨6,.struct [(0,1,false),(1,2,true),(3,2,true),(5,1,false)],[.int .i64 0,.int .i64 0,.int .i64 0,.int .i64 0,.int .i64 0,.int .i64 0]⟩:=⟨zk,zk,.inr zk⟩
theorem zuf:aK prog 153 ⟨1,.other,[.chan none]⟩:=⟨zk,zk,.inr zk⟩
theorem zug:aK prog 155 ⟨3,.struct [(0,1,false),(1,1,false),(2,1,false)],[.int .i64 0,.slice none 0 0,.nilIface]⟩:=⟨zk,zk,.inr zk⟩
theorem zuh:aK prog 163 ⟨3,.struct [(0,1,false),(1,1,false),(2,1,false)],[.pointer none,.pointer none,.int .u64 0]⟩:=⟨zk,zk,.inr zk⟩
theorem zui:aK prog 166 ⟨1,.iface,[.nilIface]⟩:=⟨zk,zk,.inr zk⟩
theorem zuj:aK prog 168 ⟨1,.other,[.int .u8 0]⟩:=⟨zk,zk,.inr zk⟩
theorem zuk:aK prog 174 ⟨64,.arr 64 5 1 false,[]⟩:=⟨zk,zk,.inl rfl⟩
theorem zul:aK prog 176 ⟨66,.struct [(0,64,true),(64,1,false),(65,1,false)],[]⟩:=⟨zk,zk,.inl rfl⟩
theorem zum:aK prog 177 ⟨1,.ptr,[.pointer none]⟩:=⟨zk,zk,.inr zk⟩
theorem zun:aK prog 180 ⟨1,.ptr,[.pointer none]⟩:=⟨zk,zk,.inr zk⟩
theorem zuo:aK prog 184 ⟨1,.ptr,[.pointer none]⟩:=⟨zk,zk,.inr zk⟩
theorem zup:aK prog 187 ⟨1,.ptr,[.pointer none]⟩:=⟨zk,zk,.inr zk⟩
theorem zuq:aK prog 189 ⟨1,.ptr,[.pointer none]⟩:=⟨zk,zk,.inr zk⟩
theorem zur:aK prog 192 ⟨8,.struct [(0,1,false),(1,1,false),(2,1,false),(3,1,false),(4,1,false),(5,1,false),(6,1,false),(7,1,false)],[.pointer none,.int .i64 0,.int .i64 0,.pointer none,.pointer none,.pointer none,.pointer none,.slice none 0 0]⟩:=⟨zk,zk,.inr zk⟩
theorem zus:aK prog 193 ⟨1,.ptr,[.pointer none]⟩:=⟨zk,zk,.inr zk⟩
theorem zut:aK prog 196 ⟨1,.other,[.int .u64 0]⟩:=⟨zk,zk,.inr zk⟩
theorem zuu:aK prog 201 ⟨1,.ptr,[.pointer none]⟩:=⟨zk,zk,.inr zk⟩
theorem zuv:aK prog 214 ⟨2,.struct [(0,1,false),(1,1,false)],[.int .i64 0,.slice none 0 0]⟩:=⟨zk,zk,.inr zk⟩
theorem zuw:aK prog 216 ⟨8,.struct [(0,1,false),(1,2,true),(3,2,true),(5,1,false),(6,1,false),(7,1,false)],[.int .i64 0,.int .i64 0,.int .i64 0,.int .i64 0,.int .i64 0,.int .i64 0,.int .i64 0,.int .i64 0]⟩:=⟨zk,zk,.inr zk⟩
theorem zux:aK prog 218 ⟨10,.struct [(0,1,false),(1,1,false),(2,8,true)],[.int .i64 0,.int .i64 0,.int .i64 0,.int .i64 0,.int .i64 0,.int .i64 0,.int .i64 0,.int .i64 0,.int .i64 0,.int .i64 0]⟩:=⟨zk,zk,.inr zk⟩
theorem zuy:aK prog 220 ⟨3,.struct [(0,1,false),(1,1,false),(2,1,false)],[.pointer none,.slice none 0 0,.int .i64 0]⟩:=⟨zk,zk,.inr zk⟩
theorem zuz:aK prog 222 ⟨5,.struct [(0,1,false),(1,1,false),(2,1,false),(3,1,false),(4,1,false)],[.int .i64 0,.int .i64 0,.int .i64 0,.bool false,.slice none 0 0]⟩:=⟨zk,zk,.inr zk⟩
theorem zuA:aK prog 231 ⟨3,.arr 3 9 1 false,[.string ByteArray.empty,.string ByteArray.empty,.string ByteArray.empty]⟩:=⟨zk,zk,.inr zk⟩
theorem zuB:aK prog 242 ⟨1,.iface,[.nilIface]⟩:=⟨zk,zk,.inr zk⟩
theorem zuC:aK prog 245 ⟨1,.iface,[.nilIface]⟩:=⟨zk,zk,.inr zk⟩
theorem zuD:aK prog 247 ⟨1,.iface,[.nilIface]⟩:=⟨zk,zk,.inr zk⟩
theorem zuE:aK prog 249 ⟨320,.arr 32 218 10 true,[]⟩:=⟨zk,zk,.inl rfl⟩
theorem zuF:aK prog 251 ⟨321,.struct [(0,1,false),(1,320,true)],[]⟩:=⟨zk,zk,.inl rfl⟩
theorem zuG:aK prog 253 ⟨5,.struct [(0,1,false),(1,1,false),(2,1,false),(3,1,false),(4,1,false)],[.pointer none,.int .i64 0,.int .i64 0,.int .i64 0,.bool false]⟩:=⟨zk,zk,.inr zk⟩
theorem zuH:aK prog 257 ⟨4,.struct [(0,1,false),(1,1,false),(2,1,false),(3,1,false)],[.int .i64 0,.int .i64 0,.int .i64 0,.bool false]⟩:=⟨zk,zk,.inr zk⟩
theorem zuI:aK prog 258 ⟨32,.arr 32 3 1 false,[]⟩:=⟨zk,zk,.inl rfl⟩
theorem zuJ:aK prog 260 ⟨34,.struct [(0,1,false),(1,32,true),(33,1,false)],[]⟩:=⟨zk,zk,.inl rfl⟩
theorem zuK:aK prog 262 ⟨321,.struct [(0,1,false),(1,320,true)],[]⟩:=⟨zk,zk,.inl rfl⟩
theorem zuL:aK prog 263 ⟨1,.int,[.int .i64 0]⟩:=⟨zk,zk,.inr zk⟩
theorem zuM:aK prog 269 ⟨1,.ptr,[.pointer none]⟩:=⟨zk,zk,.inr zk⟩
theorem zuN:aK prog 271 ⟨1,.ptr,[.pointer none]⟩:=⟨zk,zk,.inr zk⟩
theorem zuO:aK prog 273 ⟨5,.struct [(0,1,false),(1,1,false),(2,1,false),(3,1,false),(4,1,false)],[.int .i64 0,.int .i64 0,.int .i64 0,.bool false,.slice none 0 0]⟩:=⟨zk,zk,.inr zk⟩
theorem zuP:aK prog 284 ⟨4,.arr 4 3 1 false,[.int .i64 0,.int .i64 0,.int .i64 0,.int .i64 0]⟩:=⟨zk,zk,.inr zk⟩
theorem zuQ:aK prog 285 ⟨1,.iface,[.nilIface]⟩:=⟨zk,zk,.inr zk⟩
theorem zuR:aK prog 293 ⟨1,.slice 216 8 true,[.slice none 0 0]⟩:=⟨zk,zk,.inr zk⟩
theorem zuS:aK prog 327 ⟨1,.slice 4 1 false,[.slice none 0 0]⟩:=⟨zk,zk,.inr zk⟩
theorem zuT:aK prog 335 ⟨1,.ptr,[.pointer none]⟩:=⟨zk,zk,.inr zk⟩
theorem zuU:aK prog 337 ⟨2,.struct [(0,1,false),(1,1,false)],[.pointer none,.slice none 0 0]⟩:=⟨zk,zk,.inr zk⟩
theorem zuV:aK prog 343 ⟨1,.other,[.map none]⟩:=⟨zk,zk,.inr zk⟩
theorem zuW:aK prog 346 oF:=⟨zk,zk,.inr zk⟩
theorem zuX:aK prog 350 ⟨1,.ptr,[.pointer none]⟩:=⟨zk,zk,.inr zk⟩
theorem zuY:aK prog 355 ⟨1,.int,[.int .i64 0]⟩:=⟨zk,zk,.inr zk⟩
theorem zuZ:aK prog 365 ⟨1,.other,[.map none]⟩:=⟨zk,zk,.inr zk⟩
theorem zu0:aK prog 368 ⟨2,.struct [(0,1,false),(1,1,false)],[.int .i64 0,.int .i64 0]⟩:=⟨zk,zk,.inr zk⟩
theorem zu1:aK prog 381 ⟨24,.arr 24 5 1 false,[]⟩:=⟨zk,zk,.inl rfl⟩
theorem zu2:aK prog 390 ⟨1,.ptr,[.pointer none]⟩:=⟨zk,zk,.inr zk⟩
theorem zu3:aK prog 392 ⟨1,.struct [(0,1,false)],[.string ByteArray.empty]⟩:=⟨zk,zk,.inr zk⟩
set_option maxRecDepth 100000 in
theorem aj:cO prog aL:=cO.Ab (by repeat' first|exact trivial|refine⟨zyY,?_⟩|refine⟨zyZ,?_⟩|refine⟨zy0,?_⟩|refine⟨zy1,?_⟩|refine⟨zy2,?_⟩|refine⟨zy3,?_⟩|refine⟨zw2,?_⟩|refine⟨zw3,?_⟩|refine⟨zw4,?_⟩|refine⟨zw5,?_⟩|refine⟨zw6,?_⟩|refine⟨zw7,?_⟩|refine⟨zw8,?_⟩|refine⟨zw9,?_⟩|refine⟨zxa,?_⟩|refine⟨zxb,?_⟩|refine⟨zxc,?_⟩|refine⟨zxd,?_⟩|refine⟨zxe,?_⟩|refine⟨zxf,?_⟩|refine⟨zxg,?_⟩|refine⟨zxh,?_⟩|refine⟨zxi,?_⟩|refine⟨zxj,?_⟩|refine⟨zxk,?_⟩|refine⟨zxl,?_⟩|refine⟨zxm,?_⟩|refine⟨zxn,?_⟩|refine⟨zxo,?_⟩|refine⟨zxp,?_⟩|refine⟨zxq,?_⟩|refine⟨zxr,?_⟩|refine⟨zxs,?_⟩|refine⟨zxt,?_⟩|refine⟨zxu,?_⟩|refine⟨zxv,?_⟩|refine⟨zxw,?_⟩|refine⟨zxx,?_⟩|refine⟨zxy,?_⟩|refine⟨zxz,?_⟩|refine⟨zxA,?_⟩|refine⟨ztU,?_⟩|refine⟨ztV,?_⟩|refine⟨ztW,?_⟩|refine⟨ztX,?_⟩|refine⟨ztY,?_⟩|refine⟨ztZ,?_⟩|refine⟨zt0,?_⟩|refine⟨zt1,?_⟩|refine⟨zt2,?_⟩|refine⟨zt3,?_⟩|refine⟨zt4,?_⟩|refine⟨zt5,?_⟩|refine⟨zt6,?_⟩|refine⟨zt7,?_⟩|refine⟨zt8,?_⟩|refine⟨zt9,?_⟩|refine⟨zua,?_⟩|refine⟨zub,?_⟩|refine⟨zuc,?_⟩|refine⟨zud,?_⟩|refine⟨zue,?_⟩|refine⟨zuf,?_⟩|refine⟨zug,?_⟩|refine⟨zuh,?_⟩|refine⟨zui,?_⟩|refine⟨zuj,?_⟩|refine⟨zuk,?_⟩|refine⟨zul,?_⟩|refine⟨zum,?_⟩|refine⟨zun,?_⟩|refine⟨zuo,?_⟩|refine⟨zup,?_⟩|refine⟨zuq,?_⟩|refine⟨zur,?_⟩|refine⟨zus,?_⟩|refine⟨zut,?_⟩|refine⟨zuu,?_⟩|refine⟨zuv,?_⟩|refine⟨zuw,?_⟩|refine⟨zux,?_⟩|refine⟨zuy,?_⟩|refine⟨zuz,?_⟩|refine⟨zuA,?_⟩|refine⟨zuB,?_⟩|refine⟨zuC,?_⟩|refine⟨zuD,?_⟩|refine⟨zuE,?_⟩|refine⟨zuF,?_⟩|refine⟨zuG,?_⟩|refine⟨zuH,?_⟩|refine⟨zuI,?_⟩|refine⟨zuJ,?_⟩|refine⟨zuK,?_⟩|refine⟨zuL,?_⟩|refine⟨zuM,?_⟩|refine⟨zuN,?_⟩|refine⟨zuO,?_⟩|refine⟨zuP,?_⟩|refine⟨zuQ,?_⟩|refine⟨zuR,?_⟩|refine⟨zuS,?_⟩|refine⟨zuT,?_⟩|refine⟨zuU,?_⟩|refine⟨zuV,?_⟩|refine⟨zuW,?_⟩|refine⟨zuX,?_⟩|refine⟨zuY,?_⟩|refine⟨zuZ,?_⟩|refine⟨zu0,?_⟩|refine⟨zu1,?_⟩|refine⟨zu2,?_⟩|refine⟨zu3,?_⟩|refine⟨X1,?_⟩)
theorem mixed:prog.follows .mixedOrders=true:=zk
theorem zN {f:FuncId} {fn:Func} {c:Code} {args:List Value}   {R:Value → World → Prop}(hf : prog.funcs[f]? = some fn) (hN : fn.ntmps = n) (h : oP prog aL n c (M8 aL fn.results.toList R) (AU 0 args) w) (eG : (fn.name == "runtime.NumGoroutine") = false := by kernel_rfl) (hb : fn.body = some c := by rfl) (hle : args.length ≤ n := by exact Nat.le_of_ble_eq_true rfl) : aa prog f args.toArray w R := r5 aj hf eG hb hN hle h
namespace Ev
section
variable {w0:World}{S:Nat→Prop}{H:List bZ}{b o:Nat}{t:TypeId}{cs vs:List Value}
theorem St.lD (h:St w0 S w H)(i:Nat){v:Value}{k:Value→Prop}(hk:k v)(hi:H[i]?=some (Ev.blk b t cs):=by rfl)(hv:cs[o]?=some v:=by rfl):uU w b o k:=h.ld i hi hv hk
theorem St.lX (h:St w0 S w H)(i:Nat){k:Value→Prop}(hk:k (.agg ((cs.drop o).take n).toArray))(hi:H[i]?=some (Ev.blk b t cs):=by rfl)(hn:Nat.ble (o+n) cs.length=true:=by rfl):uf w b o n k:=h.mF i hi hn hk
theorem St.sT (h:St w0 S w H)(i:Nat){k:World→Prop}(hk:∀w',St w0 S w' (H.set i (Ev.blk b t (over cs o vs)))→k w')(hi:H[i]?=some (Ev.blk b t cs):=by rfl)(hle:o+vs.length≤cs.length:=by exact Nat.le_of_ble_eq_true rfl)(h1:vs.all kG=true:=by rfl):rL w b o vs k:=h.st i hi hle h1 hk
end
end Ev
theorem zF (h:p:=by refine zE ?_;exact⟨rfl,hS.ext⟩):p:=h
theorem zG (h:p:=by refine zE ?_;exact⟨rfl,hS.ext,hS.blk 0 rfl⟩):p:=h
theorem zH (h:p:=by refine zE ?_;exact⟨rfl,rfl⟩):p:=h
namespace Ev
section
variable {w0 w':World}{S:Nat→Prop}{H:List bZ}{b:Nat}{t t':TypeId}{cs kK:List Value}
theorem St.dr {σ:cr}{ops:Array Oper}{Q:cr→World→Prop}(h:St w0 S w H)(late:List Nat)(T:Nat→Prop)(order:List Nat)(k:∀w1,St w0 S w1 H→BI prog aL n ops late (Ext T w1) order Q σ w1)
  (bR:(Region.noSelect ops&&Nat.beq order.length ops.size&&vU ops late order (Array.replicate ops.size false))=true:=by kernel_rfl):ek prog aL n ops Q σ w:=ir aj mixed late T order bR fun w1 e=>k w1 (by rw[e];exact h.drew)
theorem St.uB (h:St w0 S w H)(i:Nat)(k:Ext (· = b) w w')(hB:bC w' b t' kK)(hi:H[i]?=some (Ev.blk b t cs):=by rfl):St w0 S w' (H.set i (Ev.blk b t' kK)) :=
 h.upd i hi k (fun c hc=>by subst hc;exact List.mem_singleton.2 rfl) (eh _ _ _) hB (fun c hc=>.inl hc)
theorem St.sb (hb:bC w b t cs):St w (· = b) w ([]++[Ev.blk b t cs]):=(St.start w (· = b)).add (eh b _ _) hb (fun c hc=>by obtain rfl:=List.mem_singleton.1 hc;exact⟨.inl rfl,hb.lt⟩) (by simp)
end
end Ev
end
namespace Pool
open Go.Conc Gap
variable {gs gs':Array Goroutine}{a a' g g' x:Goroutine}{l:Loc}{aA:Loc→Prop}{S b c i k:Nat}{rK Sit':Nat→Nat→(Nat→Prop)→Goroutine→World→Prop}{O O':Nat→Nat→Prop}{K Sh Z:Nat→Prop}{sl:Option (Nat×Nat)}{P:Program}{t u:Trace}{W W' W1:World}
def fD (l:Loc)(b:Nat):Prop :=
 match l with
 | .cell a=>a.block=b
 | .obj r=>r=b
 | _=>False
theorem fD.uniq (h:fD l b)(k:fD l c):b=c:=by
 unfold fD at h k;split at h<;>first|exact h.symm.trans k|exact h.elim
theorem fD.low (h:fD l b)(k:l.low S):b<S:=by
 unfold fD at h;split at h
 ·subst h;exact k
 ·subst h;exact k
 ·exact h.elim
structure Apart (Sh Z:Nat→Prop)(O:Nat→Nat→Prop)(S:Nat):Prop where
 two:∀g h b,g≠h→O g b→¬O h b
 shr:∀g b,O g b→¬Z b
 sh:∀g b,O g b→¬Sh b
 m9:∀b,Z b→¬Sh b
 lo:∀g b,O g b→b<S
 mf:∀b,Z b→b<S
 tR:∀b,Sh b→b<S
structure eo (aA:Loc→Prop)(Sh Z K:Nat→Prop)(O:Nat→Nat→Prop)(S:Nat)(t:Trace):Prop where
 clean:∀said,¬Race said t
 own:∀g b,O g b→∀i a,touchAt t i=some a→fD a.loc b→Knows t g i
 shr:∀g,(g=0∨K g)→∀b,Z b→∀i a,touchAt t i=some a→fD a.loc b→a.write=true→Knows t g i
 sh:∀b,Sh b→∀i a,touchAt t i=some a→fD a.loc b→(a.kind=.plain→∀g,g=0∨K g→Knows t g i)∧(a.kind=.said→Knows t 0 i)
 low:∀i a,touchAt t i=some a→a.loc.low S
 known:∀i a,touchAt t i=some a→a.loc.isMemory=true→Knows t 0 i∨(∃k,K k∧t.g? i=some k)∨(aA a.loc∧a.kind=.atomic)
 over:∀i g,t.g? i=some g→g≠0→¬K g→t.counts i→∃j,t.g? j=some 0∧HappensBefore t i j
 norel:∀op∈t,∀a,op.act≠.mark (.release a)
 off:∀l b,aA l→fD l b→(∀g,¬O g b)∧¬Z b∧b<S
def MG (Sh Z:Nat→Prop)(Og:Nat→Prop)(g:Nat)(b:Touch):Prop :=
 (∃c,fD b.loc c∧(Og c∨(Z c∧b.write=false)∨(Sh c∧b.kind≠.plain∧(b.kind=.said→g=0))))
def zz8 (Sh Z:Nat→Prop)(Og:Nat→Prop)(g:Nat)(op:MemOp):Prop:=op.g=g∧(∀b,op.act.touch?=some b→MG Sh Z Og g b)∧∀a,op.act≠.mark (.release a)
section
variable {S':Nat}  {g:Nat}
theorem fD.lt (h:fD l b)(k:b<S):l.low S:=by
 unfold fD at h;split at h
 ·subst h;exact k
 ·subst h;exact k
 ·exact h.elim
theorem eo.step (h:eo aA Sh Z K O S t)(ap:Apart Sh Z O S)(hg:g=0∨K g)(hS:S≤S')(hO:∀x b,x≠g→(O' x b↔O x b))(yF:∀b,O' g b→(O g b∨S≤b)∧b<S')(hu:∀op∈u,zz8 Sh Z (O' g) g op):eo aA Sh Z K O' S' (t++u):=by
 have ot:∀i a,touchAt t i=some a→∀op∈u,∀b,op.act.touch?=some b→∀said,a.conflicts said b→Knows t g i:=by
  intro i a ha op cN b hb said hc;obtain⟨c,nh,fT⟩:=(hu op cN).2.1 b hb;have ha':fD a.loc c:=by rw[hc.1];exact nh
  rcases fT with fT | ⟨hz,hw⟩|⟨hs,hp,tL⟩
  ·rcases (yF c fT).1 with ho|ho
   ·exact h.own g c ho i a ha ha'
   ·have:=ha'.low (h.low i a ha);omega
  ·refine h.shr g hg c hz i a ha ha' ?_;rcases hc.2.2.1 with x|x
   ·exact x
   ·rw[hw]at x;cases x
  ·obtain⟨n1,n2⟩:=h.sh c hs i a ha ha';rcases hc.2.2.2 with x|x | ⟨_,x,y⟩
   ·exact n1 x g hg
   ·exact absurd x hp
   ·have:=tL y;subst this;exact n2 x
 have old:∀i a,touchAt (t++u) i=some a→(i<t.size∧touchAt t i=some a)∨∃op∈u,op.act.touch?=some a∧(t++u)[i]?=some op:=by
  intro i a ha;obtain⟨op,ho,hb⟩:=touch_of ha;rcases getElem?_append_cases ho with⟨hi,iQ⟩|⟨_,vp⟩
  ·exact .inl ⟨hi,by rw[touchAt_of iQ];exact hb⟩
  ·exact .inr ⟨op,vp,hb,ho⟩
 have mine:∀i op,op∈u→(t++u)[i]?=some op→Knows (t++u) g i:=fun i op cN ho=>by
  have:=knows_own ho
  rwa [(hu op cN).1]at this
 refine⟨fun said=>noRace_append (h.clean said) (fun op cN=>(hu op cN).1) fun i a ha op cN b hb hc=>ot i a ha op cN b hb said hc,fun x b hx i a ha hl=>?_,fun x hx b hz i a ha hl hw=>?_,fun b hs i a ha hl=>?_,fun i a ha=>?_,fun i a ha hm=>?_,fun i x hi ij hk hc=>?_,fun op cN a=>(Array.mem_append.1 cN).elim (fun x=>h.norel op x a) fun x=>(hu op x).2.2 a,fun l b hl hb=>?_⟩
 rotate_right
 ·obtain⟨h1,h2,h3⟩:=h.off l b hl hb;refine⟨fun x hx=>?_,h2,Nat.lt_of_lt_of_le h3 hS⟩;by_cases vC:x=g
  ·subst vC;rcases (yF b hx).1 with h4|h4
   ·exact h1 x h4
   ·omega
  ·exact h1 x ((hO x b vC).1 hx)
 ·rcases old i a ha with⟨_,ha'⟩|⟨op,cN,hb,ho⟩
  ·by_cases vC:x=g
   ·subst vC;rcases (yF b hx).1 with h1|h1
    ·exact(h.own x b h1 i a ha' hl).app u
    ·have:=hl.low (h.low i a ha');omega
   ·exact(h.own x b ((hO x b vC).1 hx) i a ha' hl).app u
  ·by_cases vC:x=g
   ·subst vC;exact mine i op cN ho
   ·exfalso;have FW:=(hO x b vC).1 hx;obtain⟨c,nh,fT⟩:=(hu op cN).2.1 a hb;obtain rfl:=hl.uniq nh;rcases fT with fT | ⟨hz,_⟩|⟨hs,_⟩
    ·rcases (yF b fT).1 with h1|h1
     ·exact ap.two x g b vC FW h1
     ·have:=ap.lo x b FW;omega
    ·exact ap.shr x b FW hz
    ·exact ap.sh x b FW hs
 ·rcases old i a ha with⟨_,ha'⟩|⟨op,cN,hb,ho⟩
  ·exact(h.shr x hx b hz i a ha' hl hw).app u
  ·exfalso;obtain⟨c,nh,fT⟩:=(hu op cN).2.1 a hb;obtain rfl:=hl.uniq nh;rcases fT with fT | ⟨_,f8⟩|⟨hs,_⟩
   ·rcases (yF b fT).1 with h1|h1
    ·exact ap.shr g b h1 hz
    ·have:=ap.mf b hz;omega
   ·rw[f8]at hw;cases hw
   ·exact ap.m9 b hz hs
 ·rcases old i a ha with⟨_,ha'⟩|⟨op,cN,hb,ho⟩
  ·obtain⟨n1,n2⟩:=h.sh b hs i a ha' hl;exact⟨fun e x hx=>(n1 e x hx).app u,fun e=>(n2 e).app u⟩
  ·obtain⟨c,nh,fT⟩:=(hu op cN).2.1 a hb;obtain rfl:=hl.uniq nh;rcases fT with fT | ⟨hz,_⟩|⟨_,hp,tL⟩
   ·exfalso;rcases (yF b fT).1 with h1|h1
    ·exact ap.sh g b h1 hs
    ·have:=ap.tR b hs;omega
   ·exact absurd hs (ap.m9 b hz)
   ·exact⟨fun e=>absurd e hp,fun e=>by have:=tL e;subst this;exact mine i op cN ho⟩
 ·rcases old i a ha with⟨_,ha'⟩|⟨op,cN,hb,ho⟩
  ·exact Loc.low_mono hS (h.low i a ha')
  ·obtain⟨c,nh,fT⟩:=(hu op cN).2.1 a hb;refine nh.lt ?_;rcases fT with fT | ⟨hz,_⟩|⟨hs,_⟩
   ·exact(yF c fT).2
   ·exact Nat.lt_of_lt_of_le (ap.mf c hz) hS
   ·exact Nat.lt_of_lt_of_le (ap.tR c hs) hS
 ·rcases old i a ha with⟨hi,ha'⟩|⟨op,cN,hb,ho⟩
  ·rcases h.known i a ha' hm with h1 | ⟨k,hk,h1⟩|h1
   ·exact .inl (h1.app u)
   ·exact .inr (.inl ⟨k,hk,by rw[g?_old hi];exact h1⟩)
   ·exact .inr (.inr h1)
  ·rcases hg with rfl|hg
   ·exact .inl (mine i op cN ho)
   ·exact .inr (.inl ⟨g,hg,by simp[Trace.g?,ho,(hu op cN).1]⟩)
 ·unfold Trace.g? at hi;obtain⟨op,ho,JL⟩:=Option.map_eq_some_iff.1 hi;rcases getElem?_append_cases ho with⟨aQ,iQ⟩|⟨_,vp⟩
  ·have Bd:t.counts i:=(counts_old aQ).1 hc;obtain⟨j,hj,hb⟩:=h.over i x (by simp[Trace.g?,iQ,JL]) ij hk Bd
   exact⟨j,by
    unfold Trace.g? at hj;obtain⟨z,hz,Kf⟩:=Option.map_eq_some_iff.1 hj;rw[g?_old (lt_size_of_getElem? hz)];simp[Trace.g?,hz,Kf],hb_app u hb⟩
  ·exfalso;have:=(hu op vp).1;rcases hg with rfl|hg
   ·exact ij (JL.symm.trans this)
   ·exact hk (JL ▸ this ▸ hg)
end
open Go.ConcN (fork_knows)
section
variable {K':Nat→Prop}  {S':Nat}  {g:Nat}
theorem rv (hu:∀op∈u,op.act.touch?=none){i:Nat}{a:Touch}(ha:touchAt (t++u) i=some a):i<t.size∧touchAt t i=some a:=by
 obtain⟨op,ho,hb⟩:=touch_of ha;rcases getElem?_append_cases ho with⟨hi,iQ⟩|⟨_,vp⟩
 ·exact⟨hi,by rw[touchAt_of iQ];exact hb⟩
 ·rw[hu op vp]at hb;cases hb
theorem Si {said:Bool}(hu:∀op∈u,op.act.touch?=none)(h:¬Race said t):¬Race said (t++u):=by
 rintro⟨i,j,Bi,⟨a,b,ha,hb,hc⟩,h1,h2⟩;obtain⟨_,ha'⟩:=rv hu (i:=i) ha;obtain⟨_,dk⟩:=rv hu (i:=j) hb;exact h ⟨i,j,Bi,⟨a,b,ha',dk,hc⟩,fun x=>h1 (hb_app u x),fun x=>h2 (hb_app u x)⟩
theorem Li {x:Nat}(hi:i<t.size)(h:(t++u).g? i=some x):t.g? i=some x:=by rw[←g?_old (u:=u) hi];exact h
theorem PV (h:t.counts i):∃a,touchAt t i=some a∧a.loc.isMemory=true∧(a.kind≠.atomic∨t.heard i):=h
theorem eo.move (h:eo aA Sh Z K O S t)(hu:∀op∈u,op.act.touch?=none∧∀a,op.act≠.mark (.release a))(hO:∀g b,O' g b→∃k,O k b∧∀i,Knows t k i→Knows (t++u) g i)
  (hK:∀g,K' g→g=0∨K g∨∀i,Knows t 0 i→Knows (t++u) g i) (NQ:∀g,K g→K' g):eo aA Sh Z K' O' S (t++u):=by
 have vv:∀op∈u,op.act.touch?=none:=fun op x=>(hu op x).1
 refine⟨fun said=>Si vv (h.clean said),fun g b hg i a ha hl=>?_,fun g hg b hz i a ha hl hw=>?_,fun b hs i a ha hl=>?_,fun i a ha=>h.low i a (rv vv ha).2,fun i a ha hm=>?_,fun i x hi ij hk hc=>?_,fun op cN a=>(Array.mem_append.1 cN).elim (fun x=>h.norel op x a) fun x=>(hu op x).2 a,fun l b hl hb=>?_⟩
 rotate_right
 ·obtain⟨h1,h2,h3⟩:=h.off l b hl hb;exact⟨fun x hx=>let ⟨k,hk,_⟩:=hO x b hx;h1 k hk,h2,h3⟩
 ·obtain⟨k,hk,rU⟩:=hO g b hg;exact rU i (h.own k b hk i a (rv vv ha).2 hl)
 ·have ha':=(rv vv ha).2;rcases hg with rfl|hg
  ·exact(h.shr 0 (.inl rfl) b hz i a ha' hl hw).app u
  ·rcases hK g hg with rfl|hg|hg
   ·exact(h.shr 0 (.inl rfl) b hz i a ha' hl hw).app u
   ·exact(h.shr g (.inr hg) b hz i a ha' hl hw).app u
   ·exact hg i (h.shr 0 (.inl rfl) b hz i a ha' hl hw)
 ·obtain⟨n1,n2⟩:=h.sh b hs i a (rv vv ha).2 hl;refine⟨fun e g hg=>?_,fun e=>(n2 e).app u⟩;rcases hg with rfl|hg
  ·exact(n1 e 0 (.inl rfl)).app u
  ·rcases hK g hg with rfl|hg|hg
   ·exact(n1 e 0 (.inl rfl)).app u
   ·exact(n1 e g (.inr hg)).app u
   ·exact hg i (n1 e 0 (.inl rfl))
 ·obtain⟨hi,ha'⟩:=rv vv ha;rcases h.known i a ha' hm with h1 | ⟨k,hk,h1⟩|h1
  ·exact .inl (h1.app u)
  ·exact .inr (.inl ⟨k,NQ k hk,by rw[g?_old hi];exact h1⟩)
  ·exact .inr (.inr h1)
 ·obtain⟨a,ha,_⟩:=PV hc;obtain⟨aQ,_⟩:=rv vv ha;obtain⟨j,hj,hb⟩:=h.over i x (Li aQ hi) ij (fun hx=>hk (NQ x hx)) ((counts_old aQ).1 hc);refine⟨j,?_,hb_app u hb⟩
  have C1:j<t.size:=by
   unfold Trace.g? at hj;obtain⟨z,hz,_⟩:=Option.map_eq_some_iff.1 hj;exact lt_size_of_getElem? hz
  rw[g?_old C1];exact hj
theorem eo.share {iC:Loc→Prop}{NF Z':Nat→Prop}(h:eo aA Sh Z K O S t)(hN:∀g,¬K g)(hS:S≤S')(eX:∀b,NF b→Sh b∨S≤b∨O 0 b)(hZ:∀b,Z' b→Z b∨O 0 b)(hO:∀g b,O' g b→O g b∨S≤b)(NV:∀l,aA l↔iC l):eo iC NF Z' K O' S' t:=by
 refine⟨h.clean,fun g b hg i a ha hl=>?_,fun g hg b hz i a ha hl hw=>?_,fun b hs i a ha hl=>?_,fun i a ha=>Loc.low_mono hS (h.low i a ha),fun i a ha hm=>?_,h.over,h.norel,fun l b hl hb=>?_⟩
 ·rcases hO g b hg with h1|h1
  ·exact h.own g b h1 i a ha hl
  ·have:=hl.low (h.low i a ha);omega
 ·have qV:=hg.resolve_right (hN g);subst qV;rcases hZ b hz with h1|h1
  ·exact h.shr 0 (.inl rfl) b h1 i a ha hl hw
  ·exact h.own 0 b h1 i a ha hl
 ·rcases eX b hs with h1|h1|h1
  ·exact h.sh b h1 i a ha hl
  ·have:=hl.low (h.low i a ha);omega
  ·exact⟨fun _ g hg=>(hg.resolve_right (hN g)) ▸ h.own 0 b h1 i a ha hl,fun _=>h.own 0 b h1 i a ha hl⟩
 ·rcases h.known i a ha hm with h1|h1 | ⟨h1,h2⟩
  ·exact .inl h1
  ·exact .inr (.inl h1)
  ·exact .inr (.inr ⟨(NV _).1 h1,h2⟩)
 ·obtain⟨h1,h2,h3⟩:=h.off l b ((NV l).2 hl) hb;refine⟨fun x hx=>?_,fun hz=>?_,Nat.lt_of_lt_of_le h3 hS⟩
  ·rcases hO x b hx with h4|h4
   ·exact h1 x h4
   ·omega
  ·exact(hZ b hz).elim h2 (h1 0)
theorem Hd (hu:∀op∈u,op.act≠.mark .disable∧op.act≠.mark .enable)(g:Nat):∀k,k≤u.size→(t++u).deaf g (t.size+k)=Deaf t g
 | 0,_=>deaf_old (Nat.le_refl _)
 | k+1,hk=>by
  have hg:(t++u)[t.size+k]?=some u[k]:=by rw[Array.getElem?_append_right zo];simp
  have hm:=hu u[k] (Array.getElem_mem _);rw[show t.size+(k+1)=t.size+k+1 from rfl,deaf_succ hg,Hd hu g k zo];unfold deafStep;split
  ·rename_i e;exact absurd e hm.1
  ·rename_i e;exact absurd e hm.2
  ·rfl
theorem Ha (hu:∀op∈u,op.act≠.mark .disable∧op.act≠.mark .enable)(g:Nat):Deaf (t++u) g=Deaf t g:=by
 have:=Hd (t:=t) hu g u.size (Nat.le_refl _);unfold Deaf at *;rw[Array.size_append];exact this
theorem zoY {a s cap:Nat}{x0 x1 x2 x3:MemOp}(h0:x0.g=a∧x0.act=.send c s)(h1:x1.g=b∧x1.act=.recv c s cap)(h2:x2.g=a∧x2.act=.sendDone c s)(h3:x3.g=b∧x3.act=.recvDone c s)(da:Deaf t a=0)(db:Deaf t b=0)
  {i:Nat} (h:Knows t a i):Knows (t++#[x0,x1,x2,x3]) b i:=by
 have e0:(t++#[x0,x1,x2,x3])[t.size]?=some x0:=by rw[Array.getElem?_append_right (Nat.le_refl _)];simp
 have e3:(t++#[x0,x1,x2,x3])[t.size+3]?=some x3:=by rw[Array.getElem?_append_right zo];simp
 have hb:HappensBefore (t++#[x0,x1,x2,x3]) i t.size:=h.hb_new (Nat.le_refl _) e0 h0.1
 have fl:∀op∈#[x0,x1,x2,x3],op.act≠.mark .disable∧op.act≠.mark .enable:=by
  intro op cN;simp at cN;rcases cN with rfl|rfl|rfl|rfl
  ·rw[h0.2];simp
  ·rw[h1.2];simp
  ·rw[h2.2];simp
  ·rw[h3.2];simp
 have g0:(t++#[x0,x1,x2,x3]).heard t.size:=⟨a,by simp[Trace.g?,e0,h0.1],by have:=Hd (t:=t) fl a 0 (Nat.zero_le _);rw[Nat.add_zero]at this;rw[this,da]⟩;have g3:(t++#[x0,x1,x2,x3]).heard (t.size+3):=⟨b,by simp[Trace.g?,e3,h3.1],by rw[Hd (t:=t) fl b 3 zi,db]⟩;exact⟨t.size+3,x3,e3,h3.1,.inr (hb.trans (.single (.inr ⟨.handOver (c:=c) (k:=s) (by rw[act?_of e0,h0.2]) (by rw[act?_of e3,h3.2]),g0,g3⟩)))⟩
end
structure gH (a:Addr)(t:Trace)(k r:Nat):Prop where
 act:t.act? r=some (.mark (.releaseMerge a))
 g:t.g? r=some k
 heard:t.heard r
 after:∀i x,r<i→t.g? i=some k→touchAt t i=some x→fD x.loc a.block∧x.kind=.atomic∧¬t.heard i
section
variable {a:Addr}{r:Nat}
theorem gH.app (h:gH a t k r)(hu:∀i op,(t++u)[i]?=some op→t.size≤i→op.g=k→∀x,op.act.touch?=some x→fD x.loc a.block∧x.kind=.atomic∧¬(t++u).heard i):gH a (t++u) k r:=by
 have hr:r<t.size:=lt_of_act? h.act;refine⟨by rw[act?_old hr];exact h.act,by rw[g?_old hr];exact h.g,(heard_old hr).2 h.heard,fun i x hi hg hx=>?_⟩;rcases Nat.lt_or_ge i t.size with aQ|tq
 ·have:=h.after i x hi (Li aQ hg) (by rw[←touchAt_old (u:=u) aQ];exact hx);exact⟨this.1,this.2.1,fun e=>this.2.2 ((heard_old aQ).1 e)⟩
 ·obtain⟨op,ho,hb⟩:=touch_of hx;refine hu i op ho tq ?_ x hb;unfold Trace.g? at hg;rw[ho]at hg;exact Option.some.inj hg
theorem gH.other (h:gH a t k r)(hu:∀op∈u,op.g≠k):gH a (t++u) k r:=h.app fun i op ho hi hk=>absurd hk (hu op (by
 rcases getElem?_append_cases ho with⟨aQ,_⟩|⟨_,vp⟩
 ·omega
 ·exact vp))
theorem gH.mute (h:gH a t k r)(hu:∀op∈u,op.act.touch?=none):gH a (t++u) k r:=h.app fun i op ho hi hk x hx=>by
 rcases getElem?_append_cases ho with⟨aQ,_⟩|⟨_,vp⟩
 ·omega
 ·rw[hu op vp]at hx;cases hx
theorem gH.new (fn:FuncId)(pos:String)(hd:Deaf t k=0):gH a (t++#[{ g:=k,fn,pos,act:=.mark (.releaseMerge a) }]) k t.size:=by
 have e:(t++#[({ g:=k,fn,pos,act:=.mark (.releaseMerge a) }:MemOp)])[t.size]?=some { g:=k,fn,pos,act:=.mark (.releaseMerge a) }:=by rw[Array.getElem?_append_right (Nat.le_refl _)];simp
 refine⟨by rw[act?_of e],by simp[Trace.g?,e],⟨k,by simp[Trace.g?,e],by rw[deaf_old (Nat.le_refl _)];exact hd⟩,fun i x hi _ hx=>?_⟩;obtain⟨op,ho,_⟩:=touch_of hx;have:=lt_size_of_getElem? ho;simp at this;omega
theorem eo.join (h:eo aA Sh Z K O S t)(hg:∀k,K k→∃r,gH a t k r)(hd:Deaf t 0=0)(j9:(∀g,¬O g a.block)∧¬Z a.block∧a.block<S)(fn:FuncId)(pos:String) :
  eo (fun l=>aA l∨fD l a.block) (fun _=>False) Z (fun _=>False) (fun g b=>g=0∧O 0 b) S (t++#[{ g:=0,fn,pos,act:=.mark (.acquire a) }]):=by
 have hu:∀op∈#[({ g:=0,fn,pos,act:=.mark (.acquire a) }:MemOp)],op.act.touch?=none:=by intro op cN;simp at cN;subst cN;rfl
 have e:(t++#[({ g:=0,fn,pos,act:=.mark (.acquire a) }:MemOp)])[t.size]?=some { g:=0,fn,pos,act:=.mark (.acquire a) }:=by rw[Array.getElem?_append_right (Nat.le_refl _)];simp
 have Ch:∀k r,gH a t k r→HappensBefore (t++#[({ g:=0,fn,pos,act:=.mark (.acquire a) }:MemOp)]) r t.size:=fun k r hG=>by
  have hr:r<t.size:=lt_of_act? hG.act;refine .single (.inr ⟨.marked (a:=a) hr (.inr (by rw[act?_old hr];exact hG.act)) (by rw[act?_of e]) (fun j _ hj=>?_),(heard_old hr).2 hG.heard,⟨0,by simp[Trace.g?,e],by rw[deaf_old (Nat.le_refl _)];exact hd⟩⟩);rw[act?_old hj];intro hx;obtain⟨op,ho,WZ⟩:=Option.map_eq_some_iff.1 hx;exact h.norel op (mem_of_getElem? ho) a WZ
 have upto:∀k r i,gH a t k r→t.g? i=some k→i≤r→HappensBefore (t++#[({ g:=0,fn,pos,act:=.mark (.acquire a) }:MemOp)]) i t.size:=fun k r i hG hi hle=>by
  rcases Nat.lt_or_ge i r with aQ|tq
  ·have hr:r<t.size:=lt_of_act? hG.act;refine .trans (.single (.inl ⟨aQ,k,by rw[g?_old zo];exact hi,by rw[g?_old hr];exact hG.g⟩)) (Ch k r hG)
  ·obtain rfl:i=r:=by omega
   exact Ch k i hG
 have q0:(t++#[({ g:=0,fn,pos,act:=.mark (.acquire a) }:MemOp)]).g? t.size=some 0:=by simp[Trace.g?,e]
 refine⟨fun said=>Si hu (h.clean said),fun g b FG i x hx hl=>?_,fun g qV b hz i x hx hl hw=>?_,fun b hs=>hs.elim,fun i x hx=>h.low i x (rv hu hx).2,fun i x hx hm=>?_,fun i g hi qV _ hc=>?_,fun op cN b=>(Array.mem_append.1 cN).elim (fun x=>h.norel op x b) fun x=>by simp at x;subst x;simp,fun l b hl hb=>?_⟩
 rotate_right
 ·rcases hl with hl|hl
  ·obtain⟨h1,h2,h3⟩:=h.off l b hl hb;exact⟨fun x hx=>h1 0 hx.2,h2,h3⟩
  ·obtain rfl:=hl.uniq hb;exact⟨fun x hx=>j9.1 0 hx.2,j9.2⟩
 ·obtain⟨rfl,hb⟩:=FG;exact(h.own 0 b hb i x (rv hu hx).2 hl).app _
 ·have:=qV.resolve_right id;subst this;exact(h.shr 0 (.inl rfl) b hz i x (rv hu hx).2 hl hw).app _
 ·obtain⟨aQ,aU⟩:=rv hu hx;rcases h.known i x aU hm with h1 | ⟨k,hk,h1⟩|⟨h1,h2⟩
  ·exact .inl (h1.app _)
  ·obtain⟨r,hG⟩:=hg k hk;rcases Nat.lt_or_ge r i with zM|zM
   ·have:=hG.after i x zM h1 aU;exact .inr (.inr ⟨.inr this.1,this.2.1⟩)
   ·exact .inl ⟨t.size,_,e,rfl,.inr (upto k r i hG h1 zM)⟩
  ·exact .inr (.inr ⟨.inl h1,h2⟩)
 ·obtain⟨x,hx,_,k3⟩:=PV hc;obtain⟨aQ,aU⟩:=rv hu hx;have mD:=Li aQ hi;by_cases hk:K g
  ·obtain⟨r,hG⟩:=hg g hk;rcases Nat.lt_or_ge r i with zM|zM
   ·exfalso;have:=hG.after i x zM mD aU;rcases k3 with h1|h1
    ·exact h1 this.2.1
    ·exact this.2.2 ((heard_old aQ).1 h1)
   ·exact⟨t.size,q0,upto g r i hG mD zM⟩
  ·obtain⟨j,hj,hb⟩:=h.over i g mD qV hk ((counts_old aQ).1 hc);refine⟨j,?_,hb_app _ hb⟩
   have C1:j<t.size:=by
    unfold Trace.g? at hj;obtain⟨z,hz,_⟩:=Option.map_eq_some_iff.1 hj;exact lt_size_of_getElem? hz
   rw[g?_old C1];exact hj
end
section
variable {w w₁:World}   {g₂:Goroutine}{es:Array Event}{cases:Array CommCase}{shape:CommShape}
theorem YQ (n:Nat)(hn:0<n)(w:World):∃a d,a<n∧(choose (.select n)).run P w=.ok a (w.at d):=by
 by_cases hf:(Question.select n).forced=true
 ·exact⟨0,w.drawn,hn,by simp only[choose,Sem.run,hf,if_true];rfl⟩
 ·exact⟨_,w.drawn+1,Nat.mod_lt _ hn,by simp only[choose,Sem.run,hf,Bool.false_eq_true,if_false];rfl⟩
theorem YP (s:String)(n:Nat)(hn:0<n)(w:World):∃a d,a<n∧(choose (.extern s n)).run P w=.ok a (w.at d):=by
 by_cases hf:(Question.extern s n).forced=true
 ·exact⟨0,w.drawn,hn,by simp only[choose,Sem.run,hf,if_true];rfl⟩
 ·refine⟨_,w.drawn+1,?_,by simp only[choose,Sem.run,hf,Bool.false_eq_true,if_false];rfl⟩;simp only[Question.cut];rw[if_neg zo];exact Nat.mod_lt _ hn
theorem zq9 {h:Goroutine}{r:Nat}{send:Bool}(hk:k∈offersAt h r send):h.status=.blocked∧∃cs sh cc,h.offers=some (cs,sh)∧cs[k]?=some cc∧cc.send.isSome=send∧cc.chan=.chan (some r):=by
 unfold offersAt at hk;split at hk
 ·rename_i cs sh hs ho;refine⟨hs,cs,sh,?_⟩;simp only[List.mem_map,Prod.exists,List.mem_filter,Bool.and_eq_true,beq_iff_eq]at hk;obtain⟨cc,k',⟨hm,h1,h2⟩,rfl⟩:=hk;refine⟨cc,ho,mem_of_zipIdx hm,h1,?_⟩;split at h2
  ·rename_i r' e;rw[e,eq_of_beq h2]
  ·cases h2
 ·cases hk
theorem GG {h:Goroutine}{cs:Array CommCase}{sh:CommShape}{r:Nat}{cc:CommCase}(hs:h.status=.blocked)(ho:h.offers=some (cs,sh))(hk:cs[k]?=some cc)(hc:cc.chan=.chan (some r)):k∈offersAt h r cc.send.isSome:=by
 unfold offersAt;rw[hs,ho];simp only[List.mem_map,Prod.exists,List.mem_filter,Bool.and_eq_true,beq_iff_eq];refine⟨cc,k,⟨Array.mem_toList_iff.2 (Array.mem_zipIdx_iff_getElem?.2 (by simpa using hk)),rfl,?_⟩,rfl⟩;rw[hc];simp
def HO (w:World)(cc:CommCase):Prop:=cc.chan=.chan none∨∃c m tm,cc.chan=.chan (some c)∧w.heap[c]?=some (.chan 0 #[] false m m tm)
theorem Qa {cc:CommCase}(h:HO w cc):illMade w cc=false:=by
 unfold illMade;rcases h with h | ⟨c,m,tm,h,hc⟩
 ·rw[h]
 ·rw[h];simp[hc]
theorem QZ {cc:CommCase}{m:Nat}{tm:Bool}(h:cc.chan=.chan (some c))(hc:w.heap[c]?=some (.chan 0 #[] false m m tm)):ways w gs cc=(partners gs c cc.send.isNone).map fun(h,k)=>Way.partner h k:=by
 unfold ways;rw[h];simp only[hc];cases hs:cc.send with
 | none =>
  simp only[Option.isNone_none];cases partners gs c true<;>simp
 | some v =>
  simp only[Option.isNone_some];cases partners gs c false<;>simp
theorem zr8 {cc:CommCase}(h:cc.chan=.chan none):ways w gs cc=[]:=by unfold ways;rw[h]
structure Vg (P:Program)(gs:Array Goroutine)(w₁:World)(i:Nat)(g₂:Goroutine)(cases:Array CommCase)(shape:CommShape)(gs':Array Goroutine)(w':World)(u:Trace):Prop where
 ex:∃(k:Nat) (cc:CommCase) (c m:Nat) (tm:Bool) (j:Nat) (gj:Goroutine) (kK:Array CommCase) (vJ:CommShape) (k':Nat) (ng:CommCase) (d:Nat) (x0 x1 x2 x3:MemOp),
  cases[k]?=some cc∧cc.chan=.chan (some c)∧w₁.heap[c]?=some (.chan 0 #[] false m m tm)∧j≠i∧gs[j]?=some gj∧gj.status=.blocked∧gj.offers=some (kK,vJ)∧kK[k']?=some ng∧ng.chan=.chan (some c)∧ng.send.isSome=cc.send.isNone ∧
  gs'=(gs.setIfInBounds j (gj.finishComm P kK vJ k' (cc.send.getD undef) ng.send.isNone)).setIfInBounds i (g₂.finishComm P cases shape k (ng.send.getD undef) cc.send.isNone) ∧
  w'=(w₁.at d).setChan c 0 #[] false (m+1) (m+1) tm∧u = #[x0,x1,x2,x3] ∧
  (x0.g=(if cc.send.isSome then i else j)∧x0.act=.send c m)∧(x1.g=(if cc.send.isSome then j else i)∧x1.act=.recv c m 0)∧(x2.g=(if cc.send.isSome then i else j)∧x2.act=.sendDone c m)∧(x3.g=(if cc.send.isSome then j else i)∧x3.act=.recvDone c m)
theorem Hc (hi:gs[i]?=some g)(h:stepG P (i == 0) g w=.comm g₂ cases true shape w₁ es)(hc:∀cc∈cases,HO w₁ cc) :
  ((∀cc∈cases,∀c,cc.chan=.chan (some c)→∀j gj,j≠i→gs[j]?=some gj→offersAt gj c cc.send.isNone=[]) ∧
   runT P (crowd gs w sl) i=(.next (crowd (gs.setIfInBounds i (parked g₂ cases shape)) w₁ sl),MemOp.ofEvents i g.frame.fn g.frame.place es)) ∨
  ∃gs' w' u,Vg P gs w₁ i g₂ cases shape gs' w' u∧runT P (crowd gs w sl) i=(.next (crowd gs' w' sl),MemOp.ofEvents i g.frame.fn g.frame.place es++u):=by
 have CZ:cases.any (illMade w₁)=false:=any_ill fun cc fI=>Qa (hc cc fI)
 by_cases hr:∀cc∈cases,ways w₁ (gs.setIfInBounds i ph) cc=[]
 ·refine .inl ⟨fun cc fI c mA j gj eQ hj=>?_,crowd_waits hi h fun cc fI=>⟨Qa (hc cc fI),hr cc fI⟩⟩;rcases hc cc fI with h1 | ⟨c',m,tm,h1,h2⟩
  ·rw[h1]at mA;cases mA
  ·rw[h1]at mA;injection mA with mA
   injection mA with mA
   subst mA;have:=hr cc fI;rw[QZ h1 h2,List.map_eq_nil_iff]at this;apply List.eq_nil_iff_forall_not_mem.2;intro k hk;have:(j,k)∈partners (gs.setIfInBounds i ph) c' cc.send.isNone:=mem_partners.2 ⟨gj,stand_get eQ hj,hk⟩;rw[‹partners _ _ _=[]›]at this;cases this
 ·refine .inr ?_;rw[runT_crowd_comm hi h];generalize kg:((cases.zipIdx.toList.map fun(c,k)=>(k,c,ways w₁ (gs.setIfInBounds i ph) c)).filter fun(_,_,ws)=>!ws.isEmpty)=ready
  have gQ:0<ready.length:=by
   rw[List.length_pos_iff];intro e;refine hr fun cc fI=>?_
   obtain⟨k,hk,rfl⟩:=Array.mem_iff_getElem.1 fI;rw[e,List.filter_eq_nil_iff]at kg;have:=kg (k,cases[k],ways w₁ (gs.setIfInBounds i ph) cases[k]) (List.mem_map.2 ⟨(cases[k],k),Array.mem_toList_iff.2 (Array.mem_zipIdx_iff_getElem?.2 zi),rfl⟩);simpa using this
  obtain⟨a,d,ha,Wl⟩:=YQ (P:=P) ready.length gQ w₁;obtain⟨⟨k,cc,ws⟩,tz⟩:∃p,ready[a]?=some p:=⟨ready[a],List.getElem?_eq_getElem ha⟩;have Dc:=List.mem_of_getElem? tz;rw[←kg,List.mem_filter,List.mem_map]at Dc;obtain⟨⟨⟨ui,k0⟩,hz,he⟩,z4⟩:=Dc;injection he with e1 e2
  injection e2 with e2 e3
  subst e1 e2;have hk:=mem_of_zipIdx hz
  have DO:0<ws.length:=by
   rw[List.length_pos_iff];simpa using z4
  rcases hc ui (Array.mem_of_getElem? hk) with h1 | ⟨c,m,tm,h1,h2⟩
  ·rw[zr8 h1]at e3;subst e3;cases DO
  rw[QZ h1 h2]at e3
  obtain ⟨b, d', hb, Wm⟩ := YP (P := P) "which waiting goroutine is the partner" ws.length DO (w₁.at d)
  obtain⟨⟨j,k'⟩,hp⟩:∃p,(partners (gs.setIfInBounds i ph) c ui.send.isNone)[b]?=some p:=by
   have:b<(partners (gs.setIfInBounds i ph) c ui.send.isNone).length:=by rw[←e3,List.length_map]at hb;exact hb
   exact⟨_,List.getElem?_eq_getElem this⟩
  have zZ:ws.getD b .closed=.partner j k':=by rw[←e3];exact getD_map_partner _ b (j,k') hp
  obtain⟨gj,wX,j9⟩:=mem_partners.1 (List.mem_of_getElem? hp);obtain⟨aX,kK,vJ,ng,ho,gO,hsend,mA⟩:=zq9 j9
  have eQ:j≠i∧gs[j]?=some gj:=by
   rcases getElem?_stand gs i j gj wX with⟨_,rfl⟩|x
   ·cases aX
   ·exact x
  have Wv:ready.getD a (0,default,[])=(k0,ui,ws):=by rw[List.getD_eq_getElem?_getD,tz];rfl
  have FF:=finishPartner_at P (gs.setIfInBounds i ph) wX ho k';rw[gO]at FF;simp only[Option.map_some,Option.getD_some]at FF;have JJ:offeredValue (gs.setIfInBounds i ph) j k'=ng.send.getD undef:=by simp[offeredValue,wX,ho,gO]
  have wY:(gs.setIfInBounds i ph).getD j default=gj:=by rw[Array.getD_eq_getD_getElem?,wX];rfl
  have cj:ready.isEmpty=false:=by
   cases ready with
   | nil=>cases gQ
   | cons _ _=>rfl
  have xj:((choose (.select ready.length) >>= fun a=>match ready.getD a (0,default,[]) with
    | (k, c, ws) => choose (.extern "which waiting goroutine is the partner" ws.length) >>= fun b => pure (k, c, ws.getD b .closed) : Sem (Nat × CommCase × Go.Way))).run P w₁ = .ok (k0, ui, .partner j k') (w₁.at d') := by
   rw[Sem.run_bind,Wl]
   show Sem.run P (choose (.extern "which waiting goroutine is the partner" (ready.getD a (0, default, [])).2.2.length) >>= fun b => pure ((ready.getD a (0, default, [])).1, (ready.getD a (0, default, [])).2.1, (ready.getD a (0, default, [])).2.2.getD b .closed)) (w₁.at d) = _
   rw[Wv]
   show Sem.run P (choose (.extern "which waiting goroutine is the partner" ws.length) >>= fun b => pure (k0, ui, ws.getD b .closed)) (w₁.at d) = _
   rw[Sem.run_bind,Wm];show Sem.run P (pure (k0,ui,ws.getD b .closed)) ((w₁.at d).at d')=_;rw[zZ];rfl
  have Bd:(w₁.at d').heap[c]?=some (.chan 0 #[] false m m tm):=h2;unfold communicate;cases hs:ui.send with
  | some v =>
   rw[hs]at hsend;simp only[Option.isNone_some]at hsend;have vt:ng.send=none:=by cases h:ng.send<;>simp_all
   refine⟨_,_,_,⟨k0,ui,c,m,tm,j,gj,kK,vJ,k',ng,d',{ g:=i,fn:=g₂.frame.fn,pos:=g₂.frame.place,act:=.send c m },{ g:=j,fn:=gj.frame.fn,pos:=gj.frame.place,act:=.recv c m 0 },{ g:=i,fn:=g₂.frame.fn,pos:=g₂.frame.place,act:=.sendDone c m },{ g:=j,fn:=gj.frame.fn,pos:=gj.frame.place,act:=.recvDone c m },hk,h1,h2,eQ.1,eQ.2,aX,ho,gO,mA,by rw[hs,hsend];rfl,rfl,rfl,rfl,⟨?_,?_⟩,⟨?_,?_⟩,⟨?_,?_⟩,⟨?_,?_⟩⟩,?_⟩
   rotate_right
   ·simp only[kg,cj,Bool.false_eq_true,if_false];rw[xj];simp only[h1,Bd,hs,FF,set_stand2,wY,vt,Option.getD_some,Option.isNone_none,Option.getD_none,Option.isNone_some];rw[if_neg]
    ·rfl
    ·rw[Bool.not_eq_true];exact CZ
   all_goals simp[hs]
  | none =>
   rw[hs]at hsend;simp only[Option.isNone_none]at hsend;obtain⟨v,vt⟩:=Option.isSome_iff_exists.1 hsend;refine⟨_,_,_,⟨k0,ui,c,m,tm,j,gj,kK,vJ,k',ng,d',{ g:=j,fn:=gj.frame.fn,pos:=gj.frame.place,act:=.send c m },{ g:=i,fn:=g₂.frame.fn,pos:=g₂.frame.place,act:=.recv c m 0 },{ g:=j,fn:=gj.frame.fn,pos:=gj.frame.place,act:=.sendDone c m },{ g:=i,fn:=g₂.frame.fn,pos:=g₂.frame.place,act:=.recvDone c m },hk,h1,h2,eQ.1,eQ.2,aX,ho,gO,mA,by rw[hs,hsend];rfl,rfl,rfl,rfl,⟨?_,?_⟩,⟨?_,?_⟩,⟨?_,?_⟩,⟨?_,?_⟩⟩,?_⟩
   rotate_right
   ·simp only[kg,cj,Bool.false_eq_true,if_false];rw[xj];simp only[h1,Bd,hs,FF,set_stand2,wY,JJ,vt,Option.getD_some,Option.isNone_none,Option.getD_none,Option.isNone_some];rw[if_neg]
    ·rfl
    ·rw[Bool.not_eq_true];exact CZ
   all_goals simp[hs]
end
open Go.ConcN (upd upd_same upd_ne WgLive)
inductive Rk where
 | leaf
 | node (f:World→Rk)
def Rk.Sub (a b:Rk):Prop:=∃f w,b=.node f∧a=f w
theorem Rk.wf:WellFounded Rk.Sub:=⟨fun a=>by
 induction a with
 | leaf=>exact⟨_,fun y ⟨f,w,h,_⟩=>by cases h⟩
 | node f ih=>exact⟨_,fun y ⟨g,w,h,e⟩=>by cases h;subst e;exact ih w⟩⟩
def Rk.succ (r:Rk):Rk:=.node fun _=>r
def Rk.nat:Nat→Rk
 | 0=>.leaf
 | n+1=>.succ (.nat n)
def Rk.up:Rk→Rk
 | .leaf=>.node fun _=>.leaf
 | .node f=>.node fun w=>(f w).up
theorem Rk.up_sub {a b:Rk}(h:Rk.Sub a b):Rk.Sub a.up b.up:=by
 obtain⟨f,w,rfl,rfl⟩:=h;exact⟨fun w=>(f w).up,w,rfl,rfl⟩
theorem Rk.tX (r:Rk):∃r',Rk.Sub r' r.up:=by
 cases r with
 | leaf=>exact⟨.leaf,fun _=>.leaf,default,rfl,rfl⟩
 | node f=>exact⟨_,fun w=>(f w).up,default,rfl,rfl⟩
theorem Rk.sub_succ (r:Rk):Rk.Sub r r.succ:=⟨_,default,rfl,rfl⟩
theorem Rk.tV (f:World→Rk)(w:World):Rk.Sub (f w) (.node f):=⟨f,w,rfl,rfl⟩
theorem Rk.ew (n:Nat):Rk.Sub (.nat n) (.nat (n+1)):=Rk.sub_succ _
def Dec (n:Nat)(f g:Nat→Rk):Prop:=∃i,i<n∧Rk.Sub (f i) (g i)∧∀j,j≠i→f j=g j
theorem Dec.wf:∀n,WellFounded (Dec n)
 | 0=>⟨fun f=>⟨_,fun g ⟨i,hi,_⟩=>by omega⟩⟩
 | n+1=>by
  have key:∀r:Rk,∀f:Nat→Rk,f n=r→Acc (Dec (n+1)) f:=by
   intro r
   induction r using Rk.wf.induction with
   | _ r Kk =>
    intro f
    induction f using (Dec.wf n).induction with
    | _ f Xx =>
     intro hf;refine⟨_,fun g ⟨i,hi,hs,ho⟩=>?_⟩;by_cases ez:i=n
     ·subst ez;exact Kk (g i) (hf ▸ hs) g rfl
     ·exact Xx g ⟨i,by omega,hs,ho⟩ ((ho n (Ne.symm ez)).trans hf)
  exact⟨fun f=>key (f n) f rfl⟩
theorem Dec.of {n:Nat}{ρ:Nat→Rk}{r:Rk}(hi:i<n)(hr:Rk.Sub r (ρ i)):Dec n (upd ρ i r) ρ:=⟨i,hi,by rw[upd_same];exact hr,fun j hj=>upd_ne _ _ hj⟩
abbrev gk:=@Gap.Way uH
def ji (P:Program)(main:Bool)(Z:Nat→Prop)(Stop:(Nat→Prop)→Goroutine→World→Prop):Rk→(Nat→Prop)→Goroutine→World→Prop
 | .leaf,O,g,W=>∀W1,cv O Z W W1→Stop O g W1
 | .node f,O,g,W=>(∀W1,cv O Z W W1→Stop O g W1)∨(g.status=.running∧∀W1,cv O Z W W1→∃g' W' es,stepG P main g W1=.go g' W' es∧iW O Z W1 W' es∧ji P main Z Stop (f W1) (fQ O W1 W') g' W')
section
variable {main:Bool}  {Stop:(Nat→Prop)→Goroutine→World→Prop}{O:Nat→Prop}
open Classical in
theorem HI (h:gk P main Z Stop O g W):∃r,ji P main Z Stop r O g W:=by
 induction h with
 | stop h=>exact⟨.leaf,h⟩
 | @step O g W hs hg hk ih =>
  have key:∀W1,∃r,cv O Z W W1→∃g' W' es,stepG P main g W1=.go g' W' es∧iW O Z W1 W' es∧ji P main Z Stop r (fQ O W1 W') g' W':=fun W1=>by
   by_cases h1:cv O Z W W1
   ·obtain⟨g',W',es,e,iP⟩:=hg W1 h1;obtain⟨r,hr⟩:=ih W1 g' W' es h1 e;exact⟨r,fun _=>⟨g',W',es,e,iP,hr⟩⟩
   ·exact⟨.leaf,fun x=>absurd x h1⟩
  exact⟨.node fun W1=>(key W1).choose,.inr ⟨hs,fun W1 h1=>(key W1).choose_spec h1⟩⟩
 | me T _ h=>exact(h _ (.refl _)).elim
theorem ji.rely {r:Rk}(h:ji P main Z Stop r O g W)(hr:cv O Z W W1):ji P main Z Stop r O g W1:=by
 cases r with
 | leaf=>exact fun W2 h2=>h W2 (hr.trans h2)
 | node f=>exact h.imp (fun h W2 h2=>h W2 (hr.trans h2)) fun⟨hs,h⟩=>⟨hs,fun W2 h2=>h W2 (hr.trans h2)⟩
theorem ji.cases {r:Rk}(h:ji P main Z Stop r O g W):(∀W1,cv O Z W W1→Stop O g W1)∨(g.status=.running∧∀W1,cv O Z W W1→∃g' W' es r',stepG P main g W1=.go g' W' es∧iW O Z W1 W' es∧Rk.Sub r' r∧ji P main Z Stop r' (fQ O W1 W') g' W'):=by
 cases r with
 | leaf=>exact .inl h
 | node f=>exact h.imp id fun⟨hs,h⟩=>⟨hs,fun W1 h1=>let ⟨g',W',es,e1,e2,e3⟩:=h W1 h1;⟨g',W',es,_,e1,e2,Rk.tV f W1,e3⟩⟩
theorem si (W:World)(d:Nat):cv O Z W (W.at d):=⟨rfl,rfl,rfl,Nat.le_refl _,fun _ _=>rfl⟩
end
structure wE (ty:TypeId)(Wg:Nat)(O Z:Nat→Prop)(w w1:World):Prop where
 rel:cv O Z w w1
 live:WgLive ty Wg w→WgLive ty Wg w1
theorem wE.at {ty:TypeId}{Wg:Nat}{O:Nat→Prop}(w:World)(d:Nat):wE ty Wg O Z w (w.at d):=⟨si w d,fun h=>h⟩
structure gr (Sh Z O O':Nat→Prop)(g:Nat)(W W':World)(es:Array Event):Prop where
 os:W'.os=W.os
 tape:W'.tape=W.tape
 output:W'.output=W.output
 size:W.heap.size≤W'.heap.size
 keep:∀b,b<W.heap.size→¬O b→¬Sh b→W'.heap[b]?=W.heap[b]?
 own:∀b,O' b→(O b∨W.heap.size≤b)∧b<W'.heap.size
 evs:∀e∈es,(∀b,(MemAct.ofEvent e).touch?=some b→MG Sh Z O' g b)∧∀a,MemAct.ofEvent e≠.mark (.release a)
theorem Ay {O:Nat→Prop}{g:Nat}{e:Event}(h:iU O Z e):(∀b,(MemAct.ofEvent e).touch?=some b→MG Sh Z O g b)∧(∀a,MemAct.ofEvent e≠.mark (.release a))∧e.loc≠.mark .disable∧e.loc≠.mark .enable:=by
 obtain⟨loc,wr,sy⟩:=e;unfold iU at h;cases loc with
 | cell a =>
  simp only at h;obtain⟨rfl,h⟩:=h;refine⟨fun b hb=>?_,by simp[MemAct.ofEvent],by simp,by simp⟩;simp only[MemAct.ofEvent,MemAct.touch?,Option.some.injEq]at hb;subst hb;exact⟨a.block,rfl,h.imp id fun h=>.inl h⟩
 | obj r =>
  simp only at h;refine⟨fun b hb=>?_,?_,by simp,by simp⟩
  ·cases wr<;>cases sy<;>simp[MemAct.ofEvent,MemAct.touch?]at hb h;all_goals (subst hb;exact⟨r,rfl,.inl h⟩)
  ·cases wr<;>cases sy<;>simp[MemAct.ofEvent]
 | mark m =>
  cases m with
  | noRoom=>exact⟨fun b hb=>by simp[MemAct.ofEvent,MemAct.touch?]at hb,by simp[MemAct.ofEvent],by simp,by simp⟩
  | extern f=>exact⟨fun b hb=>by simp[MemAct.ofEvent,MemAct.touch?]at hb,by simp[MemAct.ofEvent],by simp,by simp⟩
  | _=>exact h.elim
 | _=>exact h.elim
theorem vO {O:Nat→Prop}{es:Array Event}(h:∀e∈es,iU O Z e)(d:Nat):deafBehind d es=d:=deafBehind_still (fun e he=>(Ay (Sh:=fun _=>False) (g:=0) (h e he)).2.2) d
theorem gr.of {O:Nat→Prop}{g:Nat}  {es:Array Event}(h:iW O Z W W' es)(hO:∀b,O b→b<W.heap.size):gr Sh Z O (fQ O W W') g W W' es :=
 ⟨h.os,h.tape,h.output,h.size,fun b hb hn _=>h.keep b hb hn,fun b hb=>hb.elim (fun x=>⟨.inl x,Nat.lt_of_lt_of_le (hO b x) h.size⟩) fun x=>⟨.inr x.1,x.2⟩,fun e he=>⟨(Ay (h.evs e he)).1,(Ay (Sh:=Sh) (g:=g) (h.evs e he)).2.1⟩⟩
structure Core (aA:Loc→Prop)(Sh Z K:Nat→Prop)(rK:Nat→Nat→(Nat→Prop)→Goroutine→World→Prop)(gs:Array Goroutine)(W:World)(t:Trace)(O:Nat→Nat→Prop):Prop where
 eg:∀j g,gs[j]?=some g→rK j (Deaf t j) (O j) g W
 above:∀j,gs.size≤j→Deaf t j=0
 tok:eo aA Sh Z K O W.heap.size t
 apart:Apart Sh Z O W.heap.size
section
variable {O':Nat→Prop}   {es:Array Event}
theorem Core.at (h:Core aA Sh Z K rK gs W t O)(d:Nat)(hs:∀j x,gs[j]?=some x→rK j (Deaf t j) (O j) x W→Sit' j (Deaf t j) (O j) x (W.at d)):Core aA Sh Z K Sit' gs (W.at d) t O :=
 ⟨fun j x hj=>hs j x hj (h.eg j x hj),h.above,h.tok,h.apart⟩
theorem Apart.step (ap:Apart Sh Z O W.heap.size)(hS:W.heap.size≤W'.heap.size)(hO:∀b,O' b→(O i b∨W.heap.size≤b)∧b<W'.heap.size):Apart Sh Z (upd O i O') W'.heap.size:=by
 have low:∀g b,g≠i→upd O i O' g b→O g b:=fun g b hg h=>by rwa [upd_ne _ _ hg]at h
 refine⟨fun g h b y3 hg hh=>?_,fun g b hg=>?_,fun g b hg=>?_,ap.m9,fun g b hg=>?_,fun b hb=>Nat.lt_of_lt_of_le (ap.mf b hb) hS,fun b hb=>Nat.lt_of_lt_of_le (ap.tR b hb) hS⟩
 ·by_cases tu:g=i
  ·subst tu;rw[upd_same]at hg;have Oc:=low h b (Ne.symm y3) hh;rcases (hO b hg).1 with x|x
   ·exact ap.two g h b y3 x Oc
   ·have:=ap.lo h b Oc;omega
  ·have ni:=low g b tu hg;by_cases Od:h=i
   ·subst Od;rw[upd_same]at hh;rcases (hO b hh).1 with x|x
    ·exact ap.two g h b y3 ni x
    ·have:=ap.lo g b ni;omega
   ·exact ap.two g h b y3 ni (low h b Od hh)
 ·by_cases tu:g=i
  ·subst tu;rw[upd_same]at hg;rcases (hO b hg).1 with x|x
   ·exact ap.shr g b x
   ·intro hz;have:=ap.mf b hz;omega
  ·exact ap.shr g b (low g b tu hg)
 ·by_cases tu:g=i
  ·subst tu;rw[upd_same]at hg;rcases (hO b hg).1 with x|x
   ·exact ap.sh g b x
   ·intro hz;have:=ap.tR b hz;omega
  ·exact ap.sh g b (low g b tu hg)
 ·by_cases tu:g=i
  ·subst tu;rw[upd_same]at hg;exact(hO b hg).2
  ·exact Nat.lt_of_lt_of_le (ap.lo g b (low g b tu hg)) hS
theorem gr.rely (ap:Apart Sh Z O W.heap.size)(hf:gr Sh Z (O i) O' i W W' es){j:Nat}(hj:j≠i):cv (O j) Z W W' :=
 ⟨hf.os,hf.tape,hf.output,hf.size,fun b hb=>by
  rcases hb with hb|hb
  ·exact hf.keep b (ap.lo j b hb) (ap.two j i b hj hb) (ap.sh j b hb)
  ·exact hf.keep b (ap.mf b hb) (fun x=>ap.shr i b x hb) (ap.m9 b hb)⟩
theorem Core.own (h:Core aA Sh Z K rK gs W t O)(hi:gs[i]?=some g)(hg:i=0∨K i)(hf:gr Sh Z (O i) O' i W W' es)
  (hw:∀j x,j≠i→gs[j]?=some x→rK j (Deaf t j) (O j) x W→cv (O j) Z W W'→Sit' j (Deaf t j) (O j) (woken P g g' W' x) W') (hs:Sit' i (deafBehind (Deaf t i) es) O' g' W') (fn:FuncId) (pos:String) :
  Core aA Sh Z K Sit' ((gs.map (woken P g g' W')).setIfInBounds i g') W' (t++MemOp.ofEvents i fn pos es) (upd O i O'):=by
 have aQ:i<gs.size:=(Array.getElem?_eq_some_iff.1 hi).1;have hu:∀op∈MemOp.ofEvents i fn pos es,op.g=i:=fun op cN=>by obtain⟨e,_,rfl⟩:=Go.Conc.mem_ofEvents cN;rfl
 refine⟨fun j x hj=>?_,fun j hj=>?_,?_,h.apart.step hf.size hf.own⟩
 ·by_cases eQ:i=j
  ·subst eQ;rw[Array.getElem?_setIfInBounds_self_of_lt (by simpa using aQ)]at hj;obtain rfl:=Option.some.inj hj;rw[Deaf_own,upd_same];exact hs
  ·rw[Array.getElem?_setIfInBounds_ne eQ,Array.getElem?_map]at hj;obtain⟨y,hy,rfl⟩:=Option.map_eq_some_iff.1 hj;rw[Deaf_other t eQ _ hu,upd_ne _ _ (Ne.symm eQ)];exact hw j y (Ne.symm eQ) hy (h.eg j y hy) (hf.rely h.apart (Ne.symm eQ))
 ·simp only[Array.size_setIfInBounds,Array.size_map]at hj;rw[Deaf_other t zo _ hu];exact h.above j hj
 ·refine h.tok.step h.apart hg hf.size (fun x b hx=>by rw[upd_ne _ _ hx]) (fun b hb=>by rw[upd_same]at hb;exact hf.own b hb) fun op cN=>?_
  obtain⟨e,he,rfl⟩:=Go.Conc.mem_ofEvents cN;exact⟨rfl,fun b hb=>by rw[upd_same];exact(hf.evs e he).1 b hb,(hf.evs e he).2⟩
theorem Core.slip (h:Core aA Sh Z K rK gs W t O)(hi:gs[i]?=some g)(hm:∀e∈es,e.mute=true)
  (hw:∀j x,j≠i→gs[j]?=some x→rK j (Deaf t j) (O j) x W→Sit' j (Deaf t j) (O j) (woken P g g' W x) W) (hs:Sit' i (deafBehind (Deaf t i) es) (O i) g' W) (fn:FuncId) (pos:String) :
  Core aA Sh Z K Sit' ((gs.map (woken P g g' W)).setIfInBounds i g') W (t++MemOp.ofEvents i fn pos es) O:=by
 have aQ:i<gs.size:=(Array.getElem?_eq_some_iff.1 hi).1;have hu:∀op∈MemOp.ofEvents i fn pos es,op.g=i:=fun op cN=>by obtain⟨e,_,rfl⟩:=Go.Conc.mem_ofEvents cN;rfl
 refine⟨fun j x hj=>?_,fun j hj=>?_,?_,h.apart⟩
 ·by_cases eQ:i=j
  ·subst eQ;rw[Array.getElem?_setIfInBounds_self_of_lt (by simpa using aQ)]at hj;obtain rfl:=Option.some.inj hj;rw[Deaf_own];exact hs
  ·rw[Array.getElem?_setIfInBounds_ne eQ,Array.getElem?_map]at hj;obtain⟨y,hy,rfl⟩:=Option.map_eq_some_iff.1 hj;rw[Deaf_other t eQ _ hu];exact hw j y (Ne.symm eQ) hy (h.eg j y hy)
 ·simp only[Array.size_setIfInBounds,Array.size_map]at hj;rw[Deaf_other t zo _ hu];exact h.above j hj
 ·refine h.tok.move (fun op cN=>?_) (fun g b hb=>⟨g,hb,fun i hk=>hk.app _⟩) (fun g hg=>.inr (.inl hg)) fun g hg=>hg
  obtain⟨e,he,rfl⟩:=Go.Conc.mem_ofEvents cN;refine⟨touch_mute (hm e he),fun a=>?_⟩;have:=hm e he;obtain⟨loc,wr,sy⟩:=e;cases loc with
  | mark m=>cases m<;>first|(cases this;done)|simp[MemAct.ofEvent]
  | _=>cases this
end
def Comes (P:Program)(m:Machine)(t:Trace)(Q:Machine→Trace→Prop):Prop:=∃N m' t',runNT P N m t=(.next m',t')∧Q m' t'
theorem Comes.done {m:Machine}  {Q:Machine→Trace→Prop}(h:Q m t):Comes P m t Q:=⟨0,m,t,rfl,h⟩
theorem Comes.step {m m':Machine}  {ops:Array MemOp}{Q:Machine→Trace→Prop}(h:stepT P m=(.next m',ops))(hk:Comes P m' (t++ops) Q):Comes P m t Q:=by
 obtain⟨N,m2,t2,hr,hq⟩:=hk;exact⟨N+1,m2,t2,by simp only[runNT,h];exact hr,hq⟩
theorem Comes.bind {m:Machine}  {Q R:Machine→Trace→Prop}(h:Comes P m t Q)(hk:∀m' t',Q m' t'→Comes P m' t' R):Comes P m t R:=by
 obtain⟨N,m',t',hr,hq⟩:=h;obtain⟨N2,m2,t2,zL,Xa⟩:=hk m' t' hq;exact⟨N+N2,m2,t2,by rw[runNT_add,hr];exact zL,Xa⟩
theorem Comes.mono {m:Machine}  {Q R:Machine→Trace→Prop}(h:Comes P m t Q)(hk:∀m' t',Q m' t'→R m' t'):Comes P m t R:=h.bind fun m' t' q=>.done (hk m' t' q)
open Go.ConcN (upd upd_same upd_ne WgLive PayAt RW AtK1 AtD1 AtD2 AtD3 AtD4)
open Go.ConcR (WgAt stA smA KK Payload DC0 mk)
structure dT where
 P:Program
 Z:Nat→Prop
 ct:Nat
 cb:Nat
 zt:Value
 zb:Value
 zr:Value
 ty:TypeId
 Wg:Nat
 many:Nat
 AR:Nat→Goroutine→World→Prop
 AS:Nat→Nat→(Nat→Prop)→Goroutine→World→Prop
 Fl:Nat→Value→(Nat→Prop)→World→Prop
def eA (C b:Nat):Prop:=b=C∨b=C+1
def mJ (O:Nat→Prop)(C:Nat):Prop:=∀b,eA C b→O b
section
variable [Payload] (X:dT)
def RO (C:Nat)(w w1:World):Prop:=(∀b,eA C b∨X.Z b→w1.heap[b]?=w.heap[b]?)∧(WgLive X.ty X.Wg w→WgLive X.ty X.Wg w1)
def D0 (C:Nat)(w w':World)(es:Array Event):Prop:=w'=w∧∀e∈es,iU (eA C) X.Z e
def NC (C:Nat)(g:Goroutine)(w:World):Prop:=g.status=.running∧∃g',stepG X.P false g w=.go g' w #[mk (.releaseMerge (stA X.Wg))]∧∃m,Goes X.P false (RW X.ty X.Wg C 1 0 0) DC0 (AtK1 X.P X.ty X.Wg C 1 0 1) m g' w
inductive WS:Nat→Option Nat→Rk→Nat→(Nat→Prop)→Goroutine→World→Prop
 | quit {q d:Nat} {O:Nat→Prop} {g:Goroutine} {W:World}:QuitsD X.P q d g→WS 1 none (.nat q) d O g W
 | recv {n C:Nat} {O:Nat→Prop} {g:Goroutine} {W:World}:Goes X.P false (RO X C) (D0 X C) (X.AR C) n g W→mJ O C→WS 9 none (.nat (n+1)) 0 O g W
 | iH {C:Nat} {r:Rk} {O:Nat→Prop} {g:Goroutine} {W:World}:(∀W1,RO X C W W1→X.AR C g W1)→mJ O C→WS 9 none r 0 O (parked g #[rcase X.ct X.zt] (.recv true)) W
 | gS {C:Nat} {r:Rk} {O:Nat→Prop} {g:Goroutine} {W:World}:(∀W1,RO X C W W1→X.AR C g W1)→mJ O C→WS 9 none r.succ 0 O { parked g #[rcase X.ct X.zt] (.recv true) with status:=.running } W
 | task {i C:Nat} {r:Rk} {O:Nat→Prop} {g:Goroutine} {W:World}:ji X.P false X.Z (X.AS i C) r O g W→mJ O C→WS 9 (some i) r.up 0 O g W
 | iI {i C:Nat} {v:Value} {r:Rk} {O:Nat→Prop} {g:Goroutine} {W:World}:(∀W1,cv O X.Z W W1→X.AS i C O g W1)→(∀w,stepG X.P false g w=.comm g #[scase X.cb v X.zb] true .send w #[])→mJ O C→WS 9 (some i) r 0 O (parked g #[scase X.cb v X.zb] .send) W
 | l4 {n C:Nat} {O:Nat→Prop} {g:Goroutine} {W:World}:Goes X.P false (RW X.ty X.Wg C 1 0 0) (D0 X C) (NC X C) n g W→mJ O C→WS 7 none (.nat n) 0 O g W
 | k1 {n C:Nat} {O:Nat→Prop} {g:Goroutine} {W:World}:Goes X.P false (RW X.ty X.Wg C 1 0 0) DC0 (AtK1 X.P X.ty X.Wg C 1 0 1) n g W→mJ O C→WS 6 none (.nat n) 0 O g W
 | d1 {n C:Nat} {O:Nat→Prop} {g:Goroutine} {W:World}:Goes X.P false (RW X.ty X.Wg C 1 0 0) DC0 (AtD1 X.P X.ty X.Wg C 1 0 1) n g W→mJ O C→WS 5 none (.nat n) 1 O g W
 | d2 {n C:Nat} {O:Nat→Prop} {g:Goroutine} {W:World}:Goes X.P false (RW X.ty X.Wg C 1 0 0) DC0 (AtD2 X.P X.ty X.Wg C 1 0 1) n g W→mJ O C→WS 4 none (.nat n) 1 O g W
 | d3 {n C:Nat} {O:Nat→Prop} {g:Goroutine} {W:World}:Goes X.P false (RW X.ty X.Wg C 1 0 0) DC0 (AtD3 X.P X.ty X.Wg C 1 0 1) n g W→mJ O C→WS 3 none (.nat n) 1 O g W
 | d4 {n C:Nat} {O:Nat→Prop} {g:Goroutine} {W:World}:Goes X.P false (RW X.ty X.Wg C 1 0 0) DC0 (AtD4 X.P X.ty X.Wg) n g W→mJ O C→WS 2 none (.nat n) 1 O g W
structure dT.Ok:Prop where
 ar:∀C g W,X.AR C g W→g.status=.running∧(∀w,stepG X.P false g w=.comm g #[rcase X.ct X.zt] true (.recv true) w #[]) ∧
  (∀i:Nat,i<X.many→gk X.P false X.Z (X.AS i C) (eA C) (Go.Conc.served g (.tuple #[.int .i64 i,.bool true])) W) ∧
  ∃n,Goes X.P false (RW X.ty X.Wg C 1 0 0) (D0 X C) (NC X C) n (Go.Conc.served g (.tuple #[X.zt,.bool false])) W
 yo:∀i C O g W,X.AS i C O g W→g.status=.running∧∃v,(∀w,stepG X.P false g w=.comm g #[scase X.cb v X.zb] true .send w #[])∧X.Fl i v (fun b=>O b∧¬eA C b) W ∧
  (WgLive X.ty X.Wg W→∃n,Goes X.P false (RO X C) (D0 X C) (X.AR C) n (Go.Conc.served g undef) W)
end
section
variable [Payload] {X:dT}{C st d:Nat}{tk:Option Nat}{r:Rk}{O:Nat→Prop}{g g' a:Goroutine}{W W1 W2 W':World}
omit [Payload] in
theorem RO.refl (w:World):RO X C w w:=⟨fun _ _=>rfl,id⟩
omit [Payload] in
theorem RO.trans {a b c:World}(h:RO X C a b)(k:RO X C b c):RO X C a c:=⟨fun x hx=>(k.1 x hx).trans (h.1 x hx),k.2 ∘ h.2⟩
omit [Payload] in
theorem wE.ro (h:wE X.ty X.Wg O X.Z W W1)(hC:mJ O C):RO X C W W1:=⟨fun b hb=>h.rel.keep b (hb.imp (hC b) id),h.live⟩
theorem wE.rw (h:wE X.ty X.Wg O X.Z W W1)(hC:mJ O C):RW X.ty X.Wg C 1 0 0 W W1:=by
 have e:=h.rel.keep C (.inl (hC C (.inl rfl)));exact⟨fun b hb=>by omega,h.live,fun⟨cs,hc,hn⟩=>⟨cs,e.trans hc,hn⟩,by simp[World.cell?,e]⟩
omit [Payload] in
theorem Mf (a b c:World)(h:RO X C a b)(k:RO X C b c):RO X C a c:=h.trans k
theorem BD (a b c:World)(h:RW X.ty X.Wg C 1 0 0 a b)(k:RW X.ty X.Wg C 1 0 0 b c):RW X.ty X.Wg C 1 0 0 a c:=Go.ConcN.RW.trans h k
theorem WS.rely (h:WS X st tk r d O g W)(hr:1<st→wE X.ty X.Wg O X.Z W W1):WS X st tk r d O g W1:=by
 cases h with
 | quit h=>exact .quit h
 | recv h hC=>exact .recv (Goes.rely Mf h ((hr zo).ro hC)) hC
 | iH h hC=>exact .iH (fun W2 h2=>h W2 (((hr zo).ro hC).trans h2)) hC
 | gS h hC=>exact .gS (fun W2 h2=>h W2 (((hr zo).ro hC).trans h2)) hC
 | task h hC=>exact .task (h.rely (hr zo).rel) hC
 | iI h hs hC=>exact .iI (fun W2 h2=>h W2 ((hr zo).rel.trans h2)) hs hC
 | l4 h hC=>exact .l4 (Goes.rely BD h ((hr zo).rw hC)) hC
 | k1 h hC=>exact .k1 (Goes.rely BD h ((hr zo).rw hC)) hC
 | d1 h hC=>exact .d1 (Goes.rely BD h ((hr zo).rw hC)) hC
 | d2 h hC=>exact .d2 (Goes.rely BD h ((hr zo).rw hC)) hC
 | d3 h hC=>exact .d3 (Goes.rely BD h ((hr zo).rw hC)) hC
 | d4 h hC=>exact .d4 (Goes.rely BD h ((hr zo).rw hC)) hC
omit [Payload] in
theorem ji.run {main:Bool}  {Stop:(Nat→Prop)→Goroutine→World→Prop}(aX:∀O g W,Stop O g W→g.status=.running)(h:ji P main Z Stop r O g W):g.status=.running:=by
 rcases h.cases with h|h
 ·exact aX _ _ _ (h W (.refl W))
 ·exact h.1
theorem WS.status (ok:X.Ok)(h:WS X st tk r d O g W):g.status=.running∨g.status=.finished∨∃g0 cs sh,g=parked g0 cs sh∧∀cc∈cs,cc.chan=.chan (some X.ct)∨cc.chan=.chan (some X.cb):=by
 cases h with
 | quit h=>exact h.status.imp id .inl
 | recv h hC=>exact .inl (Goes.running (fun g w h=>(ok.ar _ g w h).1) W (.refl W) h)
 | iH h hC=>exact .inr (.inr ⟨_,_,_,rfl,fun cc fI=>by simp at fI;subst fI;exact .inl rfl⟩)
 | gS h hC=>exact .inl rfl
 | task h hC=>exact .inl (h.run fun O g W h=>(ok.yo _ _ O g W h).1)
 | iI h hs hC=>exact .inr (.inr ⟨_,_,_,rfl,fun cc fI=>by simp at fI;subst fI;exact .inr rfl⟩)
 | l4 h hC=>exact .inl (Goes.running (fun g w h=>h.1) W (Go.ConcN.RW.refl W) h)
 | k1 h hC=>exact .inl (Goes.running (fun g w h=>h.1) W (Go.ConcN.RW.refl W) h)
 | d1 h hC=>exact .inl (Goes.running (fun g w h=>h.1) W (Go.ConcN.RW.refl W) h)
 | d2 h hC=>exact .inl (Goes.running (fun g w h=>h.1) W (Go.ConcN.RW.refl W) h)
 | d3 h hC=>exact .inl (Goes.running (fun g w h=>h.1) W (Go.ConcN.RW.refl W) h)
 | d4 h hC=>exact .inl (Goes.running (fun g w h=>h.1) W (Go.ConcN.RW.refl W) h)
theorem WS.awake (ok:X.Ok)(h:WS X st tk r d O g W):awake g:=by
 rcases h.status ok with h|h | ⟨g0,cs,sh,rfl,_⟩
 ·exact awake_of (.inl h)
 ·exact awake_of (.inr (.inr h))
 ·exact awake_of (.inr (.inl rfl))
def eC (c:Nat)(W:World):Prop:=∃m tm,W.heap[c]?=some (.chan 0 #[] false m m tm)
omit [Payload] in
theorem KX {cs:Array CommCase}{sh:CommShape}(h:∀cc∈cs,HO W cc):(parked g cs sh).again W=parked g cs sh:=by
 simp[Goroutine.again,parked];intro x hx;rcases h cs[x] (Array.getElem_mem hx) with e | ⟨c,m,tm,e,hc⟩
 ·rw[e]
 ·rw[e];simp[hc]
omit [Payload] in
theorem rq {P:Program}{a a' x:Goroutine}(h:x.again W=x):woken P a a' W x=x:=by
 unfold woken;split
 ·exact h
 ·rfl
theorem WS.woken (ok:X.Ok)(h:WS X st tk r d O g W)(h1:1<st→eC X.ct W')(h2:tk≠none→eC X.cb W')(a a':Goroutine):woken X.P a a' W' g=g:=by
 have hs:=h.status ok;cases h with
 | iH h hC=>exact rq (KX fun cc fI=>by simp at fI;subst fI;obtain⟨m,tm,e⟩:=h1 zo;exact .inr ⟨X.ct,m,tm,rfl,e⟩)
 | iI h hs hC=>exact rq (KX fun cc fI=>by simp at fI;subst fI;obtain⟨m,tm,e⟩:=h2 zi;exact .inr ⟨X.cb,m,tm,rfl,e⟩)
 | quit h=>exact woken_quitsD h
 | gS h hC=>exact rq (again_running _ (.inl rfl))
 | recv h hC=>exact rq (again_running _ (.inl (Goes.running (fun g w h=>(ok.ar _ g w h).1) W (.refl W) h)))
 | task h hC=>exact rq (again_running _ (.inl (h.run fun O g W h=>(ok.yo _ _ O g W h).1)))
 | l4 h hC=>exact rq (again_running _ (.inl (Goes.running (fun g w h=>h.1) W (Go.ConcN.RW.refl W) h)))
 | k1 h hC=>exact rq (again_running _ (.inl (Goes.running (fun g w h=>h.1) W (Go.ConcN.RW.refl W) h)))
 | d1 h hC=>exact rq (again_running _ (.inl (Goes.running (fun g w h=>h.1) W (Go.ConcN.RW.refl W) h)))
 | d2 h hC=>exact rq (again_running _ (.inl (Goes.running (fun g w h=>h.1) W (Go.ConcN.RW.refl W) h)))
 | d3 h hC=>exact rq (again_running _ (.inl (Goes.running (fun g w h=>h.1) W (Go.ConcN.RW.refl W) h)))
 | d4 h hC=>exact rq (again_running _ (.inl (Goes.running (fun g w h=>h.1) W (Go.ConcN.RW.refl W) h)))
theorem WS.next (ok:X.Ok)(h:WS X st none r d O g W)(aX:st=1∨st=9)(cm:g.status=.running) :
  (∃g' es r',stepG X.P false g W=.go g' W es∧Rk.Sub r' r∧WS X st none r' (deafBehind d es) O g' W∧g'.status≠.blocked∧(st=1→∀e∈es,e.mute=true)∧(st=9→∀e∈es,iU O X.Z e)) ∨
  (st=9∧d=0∧∃C g0 r',mJ O C∧(∀w,stepG X.P false g w=.comm g0 #[rcase X.ct X.zt] true (.recv true) w #[])∧(∀W1,RO X C W W1→X.AR C g0 W1)∧Rk.Sub r' r):=by
 generalize gv:(none:Option Nat)=tk at h;cases h with
 | @quit q d O g W h =>
  cases q with
  | zero=>rw[h.1]at cm;cases cm
  | succ q =>
   rcases h with⟨h,_⟩|⟨_,g',es,hm,cf,hq⟩
   ·rw[h]at cm;cases cm
   ·exact .inl ⟨g',es,.nat q,cf W,Rk.ew q,.quit hq,(by rcases hq.status with e|e<;>rw[e]<;>simp),fun _=>hm,fun x=>by cases x⟩
 | @recv n C O g W h hC =>
  rcases h.cases with hk | ⟨n',rfl,hk⟩
  ·exact .inr ⟨rfl,rfl,C,g,.nat n,hC,(ok.ar C g W (hk W (.refl W))).2.1,hk,Rk.ew n⟩
  ·obtain⟨g',w',es,e,⟨rfl,pB⟩,hg⟩:=hk W (.refl W);refine .inl ⟨g',es,.nat (n'+1),e,Rk.ew _,?_,(by rw[Goes.running (fun g w h=>(ok.ar _ g w h).1) _ (.refl _) hg];simp),fun x=>(by cases x),fun _ e he=>(pB e he).mono fun b hb=>hC b hb⟩;rw[vO pB];exact .recv hg hC
 | iH h hC=>cases cm
 | @gS C r O g W h hC =>
  refine .inr ⟨rfl,rfl,C,g,r,hC,fun w=>?_,h,Rk.sub_succ r⟩;rw[stepG_tries];have:=ok.ar C g W (h W (.refl W));rw[←this.2.1 w];exact stepG_same rfl rfl rfl w
 | task h hC=>cases gv
 | iI h hs hC=>cases gv
 | l4 h hC=>omega
 | k1 h hC=>omega
 | d1 h hC=>omega
 | d2 h hC=>omega
 | d3 h hC=>omega
 | d4 h hC=>omega
end
open Go.ConcN (upd upd_same upd_ne WgLive PayAt RW AtK1 AtD1 AtD2 AtD3 AtD4 fork_knows)
section
theorem Core.put (h:Core aA Sh Z K rK gs W t O)(hi:gs[i]?=some g)(hw:∀j x,j≠i→gs[j]?=some x→rK j (Deaf t j) (O j) x W→Sit' j (Deaf t j) (O j) x W)(hs:Sit' i (Deaf t i) (O i) g' W) :
  Core aA Sh Z K Sit' (gs.setIfInBounds i g') W t O:=by
 have aQ:i<gs.size:=(Array.getElem?_eq_some_iff.1 hi).1;refine⟨fun j x hj=>?_,fun j hj=>h.above j (by simpa using hj),h.tok,h.apart⟩;by_cases eQ:i=j
 ·subst eQ;rw[Array.getElem?_setIfInBounds_self_of_lt aQ]at hj;obtain rfl:=Option.some.inj hj;exact hs
 ·rw[Array.getElem?_setIfInBounds_ne eQ]at hj;exact hw j x (Ne.symm eQ) hj (h.eg j x hj)
theorem vS {α:Type}(f:Nat→α)(i:Nat):upd f i (f i)=f:=by
 funext x
 by_cases hx:x=i
 ·subst hx;rw[upd_same]
 ·rw[upd_ne _ _ hx]
theorem vP (g:Nat)(fn:FuncId)(pos:String):MemOp.ofEvents g fn pos #[] = #[]:=rfl
theorem gr.still {O:Nat→Prop}{es:Array Event}(hO:∀b,O b→b<W.heap.size)(h:∀e∈es,iU O Z e):gr Sh Z O O i W W es :=
 ⟨rfl,rfl,rfl,Nat.le_refl _,fun _ _ _ _=>rfl,fun b hb=>⟨.inl hb,hO b hb⟩,fun e he=>⟨(Ay (h e he)).1,(Ay (Sh:=Sh) (g:=i) (h e he)).2.1⟩⟩
end
section
variable [Payload] (X:dT)
def HY (K:Nat→Prop)(d0:Nat)(j d:Nat)(Oj:Nat→Prop)(x:Goroutine)(W:World):Prop:=(j=0→d=d0)∧(j≠0→∃r st,WS X st none r d Oj x W∧(st=1∧¬K j∨st=9∧K j))
def wy (K:Nat→Prop)(d0:Nat)(ρ:Nat→Rk)(j d:Nat)(Oj:Nat→Prop)(x:Goroutine)(W:World):Prop:=(j=0→d=d0)∧(j≠0→∃st,WS X st none (ρ j) d Oj x W∧(st=1∧¬K j∨st=9∧K j))
structure Idle (d0:Nat)(aA:Loc→Prop)(Sh K:Nat→Prop)(gs:Array Goroutine)(W:World)(t:Trace)(O:Nat→Nat→Prop):Prop where
 core:Core aA Sh X.Z K (HY X K d0) gs W t O
 sh:(∃j,K j)→Sh X.ct∧Sh X.Wg
 chan:(∃j,K j)→eC X.ct W
 iR:∀j,K j→0<j∧j<gs.size
end
section
variable [Payload] {X:dT}{aA:Loc→Prop}{Sh K:Nat→Prop}{gs:Array Goroutine}{W W':World}{t:Trace}{O:Nat→Nat→Prop}{O':Nat→Prop}{a a':Goroutine}{sl:Option (Nat × Nat)}{es:Array Event}{d0 d1:Nat}
theorem WS.blocked (ok:X.Ok){st d:Nat}{r:Rk}{Oj:Nat→Prop}{x:Goroutine}(h:WS X st none r d Oj x W)(hb:x.status=.blocked):∃g0,x=parked g0 #[rcase X.ct X.zt] (.recv true):=by
 have no:x.status=.running→∃g0,x=parked g0 #[rcase X.ct X.zt] (.recv true):=fun e=>by rw[e]at hb;cases hb
 generalize gv:(none:Option Nat)=tk at h;cases h with
 | quit h=>rcases h.status with e|e<;>rw[e]at hb<;>cases hb
 | iH h hC=>exact⟨_,rfl⟩
 | gS h hC=>cases hb
 | recv h hC=>exact no (Goes.running (fun g w h=>(ok.ar _ g w h).1) W (.refl W) h)
 | task h hC=>cases gv
 | iI h hs hC=>cases gv
 | l4 h hC=>exact no (Goes.running (fun g w h=>h.1) W (Go.ConcN.RW.refl W) h)
 | k1 h hC=>exact no (Goes.running (fun g w h=>h.1) W (Go.ConcN.RW.refl W) h)
 | d1 h hC=>exact no (Goes.running (fun g w h=>h.1) W (Go.ConcN.RW.refl W) h)
 | d2 h hC=>exact no (Goes.running (fun g w h=>h.1) W (Go.ConcN.RW.refl W) h)
 | d3 h hC=>exact no (Goes.running (fun g w h=>h.1) W (Go.ConcN.RW.refl W) h)
 | d4 h hC=>exact no (Goes.running (fun g w h=>h.1) W (Go.ConcN.RW.refl W) h)
theorem PU (h:Core aA Sh X.Z K (HY X K d0) gs W t O):∃ρ,Core aA Sh X.Z K (wy X K d0 ρ) gs W t O:=by
 have key:∀j,∃r,∀x,gs[j]?=some x→j≠0→∃st,WS X st none r (Deaf t j) (O j) x W∧(st=1∧¬K j∨st=9∧K j):=fun j=>by
  cases hj:gs[j]? with
  | none=>exact⟨.leaf,fun x hx=>by cases hx⟩
  | some y =>
   by_cases h0:j=0
   ·exact⟨.leaf,fun _ _ hn=>absurd h0 hn⟩
   ·obtain⟨r,st,hw⟩:=(h.eg j y hj).2 h0;exact⟨r,fun x hx _=>by cases hx;exact⟨st,hw⟩⟩
 exact⟨fun j=>(key j).choose,⟨fun j x hj=>⟨(h.eg j x hj).1,(key j).choose_spec x hj⟩,h.above,h.tok,h.apart⟩⟩
theorem ztq (ok:X.Ok)(cm:a.status=.running):∀(n:Nat) (ρ:Nat→Rk) (gs:Array Goroutine) (W:World) (sl:Option (Nat × Nat)) (t:Trace),gs.size=n→Core aA Sh X.Z K (wy X K d0 ρ) gs W t O→((∃j,K j)→Sh X.ct∧Sh X.Wg)→((∃j,K j)→eC X.ct W)→(∀j,K j→0<j∧j<gs.size)→gs[0]?=some a →
  Comes X.P (crowd gs W sl) t fun m' t'=>∃gs' W1 oC iy d,m'=crowd gs' W1 oC∧stepT X.P m'=runT X.P (crowd gs' (W1.at d) iy) 0∧Idle X d0 aA Sh K gs' (W1.at d) t' O∧gs'[0]?=some a∧gs'.size=n∧∃e,W1.at d=W.at e:=by
 intro n ρ
 induction ρ using (Dec.wf n).induction with
 | _ ρ ih =>
  intro gs W sl t hn hC hsh mA y7 h0
  have Cv:∀g∈gs,awake g:=by
   intro g hg;obtain⟨i,hi,rfl⟩:=Array.mem_iff_getElem.1 hg;by_cases dz:i=0
   ·subst dz;have:gs[0]=a:=by simpa[Array.getElem?_eq_getElem hi]using h0
    rw[this];exact awake_of (.inl cm)
   ·obtain⟨st,hw,_⟩:=(hC.eg i _ (Array.getElem?_eq_getElem hi)).2 dz;exact hw.awake ok
  obtain⟨i,g,d,eI,hi,hg,aX⟩:=crowd_pick (P:=X.P) (w:=W) (sl:=sl) Cv ⟨0,a,h0,cm⟩;have qd:Core aA Sh X.Z K (wy X K d0 ρ) gs (W.at d) t O:=hC.at d fun _ _ _ hs=>⟨hs.1,fun h0=>let ⟨st,hw,hc⟩:=hs.2 h0;⟨st,hw.rely fun _=>.at W d,hc⟩⟩
  have jE:(∃j,K j)→eC X.ct (W.at d):=fun hk=>let ⟨m,tm,e⟩:=mA hk;⟨m,tm,e⟩
  by_cases dz:i=0
  ·subst dz;exact .done ⟨gs,W,sl,eI,d,rfl,aX,⟨⟨fun j x hj=>⟨(qd.eg j x hj).1,fun h0=>let ⟨st,hw⟩:=(qd.eg j x hj).2 h0;⟨_,st,hw⟩⟩,qd.above,qd.tok,qd.apart⟩,hsh,jE,y7⟩,h0,hn,d,rfl⟩
  ·obtain⟨st,hw,pK⟩:=(qd.eg i g hi).2 dz;have aQ:i<gs.size:=(Array.getElem?_eq_some_iff.1 hi).1;have lB:(i == 0)=false:=by simpa using dz
   rcases hw.next ok (pK.elim (fun x=>.inl x.1) (fun x=>.inr x.1)) hg with⟨g',es,r',e,eT,f8,_,h1,h9⟩|⟨rfl,hd,C,g0,r',um,fY,uk,eT⟩
   ·have gR:=runT_crowd_go (P:=X.P) (sl:=eI) (i:=i) hi (by rw[lB];exact e)
    have others:∀j x,j≠i→gs[j]?=some x→wy X K d0 ρ j (Deaf t j) (O j) x (W.at d)→wy X K d0 (upd ρ i r') j (Deaf t j) (O j) (woken X.P g g' (W.at d) x) (W.at d):=fun j x hj hx hs=>by
     refine⟨hs.1,fun h0=>?_⟩;obtain⟨xE,gw,fT⟩:=hs.2 h0;refine⟨xE,?_,fT⟩;rw[upd_ne _ _ hj,gw.woken ok (fun h=>jE ⟨j,fT.elim (fun x=>by omega) (·.2)⟩) (fun h=>absurd rfl h)];exact gw
    have mine:wy X K d0 (upd ρ i r') i (deafBehind (Deaf t i) es) (O i) g' (W.at d):=⟨fun h=>absurd h dz,fun _=>⟨st,by rw[upd_same];exact f8,pK⟩⟩
    have key:Core aA Sh X.Z K (wy X K d0 (upd ρ i r')) ((gs.map (woken X.P g g' (W.at d))).setIfInBounds i g') (W.at d) (t++MemOp.ofEvents i g.frame.fn g.frame.place es) O:=by
     rcases pK with⟨rfl,hk⟩|⟨rfl,hk⟩
     ·exact qd.slip hi (h1 rfl) others mine _ _
     ·have:=qd.own (Sit':=wy X K d0 (upd ρ i r')) hi (.inr hk) (.still (fun b hb=>qd.apart.lo i b hb) (h9 rfl)) (fun j x hj hx hs _=>others j x hj hx hs) mine g.frame.fn g.frame.place
      rwa [vS]at this
    refine .step (aX.trans gR) ?_;refine(ih (upd ρ i r') (.of zo eT) _ _ _ _ (by simpa using hn) key hsh jE (fun j hj=>by simpa using y7 j hj) ?_).mono fun m' t' ⟨gs',W1,oC,iy,d',x1,x2,x3,x4,x5,e',x6⟩=>⟨gs',W1,oC,iy,d',x1,x2,x3,x4,x5,e',x6⟩
    have cj:i≠0:=dz;rw[Array.getElem?_setIfInBounds_ne cj,Array.getElem?_map,h0];simp[woken_run cm]
   ·have hk:K i:=pK.elim (fun x=>by omega) (·.2);obtain⟨m,tm,CM⟩:=jE ⟨i,hk⟩;rcases Hc (P:=X.P) (sl:=eI) (i:=i) hi (by rw[lB];exact fY (W.at d)) (fun cc fI=>by simp at fI;subst fI;exact .inr ⟨X.ct,m,tm,rfl,CM⟩) with⟨_,hr⟩|⟨gs',w',u,⟨k,cc,c,m',Ed,j,gj,kK,vJ,k',ng,d',x0,x1,x2,x3,tz,fI,_,eQ,hj,hb,ho,gO,_,hs,_⟩,_⟩
    ·refine .step (aX.trans hr) ?_;rw[vP,Array.append_empty]
     have key:Core aA Sh X.Z K (wy X K d0 (upd ρ i r')) (gs.setIfInBounds i (parked g0 #[rcase X.ct X.zt] (.recv true))) (W.at d) t O:=by
      refine qd.put hi (fun j x hj hx hs=>⟨hs.1,fun h0=>?_⟩) ⟨fun h=>absurd h dz,fun _=>⟨9,by rw[upd_same,hd];exact .iH uk um,.inr ⟨rfl,hk⟩⟩⟩;obtain⟨xE,gw,fT⟩:=hs.2 h0;exact⟨xE,by rw[upd_ne _ _ hj];exact gw,fT⟩
     refine(ih (upd ρ i r') (.of zo eT) _ _ _ _ (by simpa using hn) key hsh jE (fun j hj=>by simpa using y7 j hj) ?_).mono fun m' t' ⟨gs',W1,oC,iy,d',x1,x2,x3,x4,x5,e',x6⟩=>⟨gs',W1,oC,iy,d',x1,x2,x3,x4,x5,e',x6⟩
     have cj:i≠0:=dz;rw[Array.getElem?_setIfInBounds_ne cj,h0]
    ·exfalso
     have Jb:cc=rcase X.ct X.zt:=by
      obtain⟨zc,e'⟩:=Array.getElem?_eq_some_iff.1 tz;have:k=0:=by simp at zc;omega
      subst this;exact e'.symm
     by_cases kx:j=0
     ·subst kx;rw[h0]at hj;cases hj;rw[cm]at hb;cases hb
     ·obtain⟨xE,gw,_⟩:=(qd.eg j gj hj).2 kx;obtain⟨g1,rfl⟩:=gw.blocked ok hb;simp only[parked,Option.some.injEq,Prod.mk.injEq]at ho;obtain⟨rfl,_⟩:=ho
      have:ng=rcase X.ct X.zt:=by
       obtain⟨zc,e'⟩:=Array.getElem?_eq_some_iff.1 gO;have:k'=0:=by simp at zc;omega
       subst this;exact e'.symm
      subst this Jb;cases hs
theorem pick (ok:X.Ok)(h:Idle X d0 aA Sh K gs W t O)(h0:gs[0]?=some a)(cm:a.status=.running) :
  Comes X.P (crowd gs W sl) t fun m' t'=>∃gs' W1 oC iy d,m'=crowd gs' W1 oC∧stepT X.P m'=runT X.P (crowd gs' (W1.at d) iy) 0∧Idle X d0 aA Sh K gs' (W1.at d) t' O∧gs'[0]?=some a∧gs'.size=gs.size∧∃e,W1.at d=W.at e:=by
 obtain⟨ρ,hρ⟩:=PU h.core;exact ztq ok cm gs.size ρ gs W sl t rfl hρ h.sh h.chan h.iR h0
theorem Idle.own (ok:X.Ok)(h:Idle X d0 aA Sh K gs W t O)(h0:gs[0]?=some a)(hf:gr Sh X.Z (O 0) O' 0 W W' es)(gN:deafBehind d0 es=d1)(hl:(∃j,K j)→WgLive X.ty X.Wg W→WgLive X.ty X.Wg W')(mA:(∃j,K j)→eC X.ct W')(fn:FuncId)(pos:String) :
  Idle X d1 aA Sh K ((gs.map (woken X.P a a' W')).setIfInBounds 0 a') W' (t++MemOp.ofEvents 0 fn pos es) (upd O 0 O'):=by
 refine⟨h.core.own h0 (.inl rfl) hf (fun j x hj hx hs hr=>⟨fun e=>absurd e hj,fun h0=>?_⟩) ⟨fun _=>?_,fun h=>absurd rfl h⟩ fn pos,h.sh,mA,fun j hj=>by simpa using h.iR j hj⟩
 ·obtain⟨r,st,hw,hc⟩:=hs.2 h0;refine⟨r,st,?_,hc⟩;have hk:1<st→K j:=fun h=>hc.elim (fun x=>by omega) (·.2)
  have f8:=hw.rely fun h=>⟨hr,hl ⟨j,hk h⟩⟩
  rw[f8.woken ok (fun h=>mA ⟨j,hk h⟩) (fun h=>absurd rfl h)];exact f8
 ·rw[(h.core.eg 0 a h0).1 rfl];exact gN
theorem KQ (ok:X.Ok){Stop:(Nat→Prop)→Goroutine→World→Prop}{Oa:Nat→Prop}(h:gk X.P true X.Z Stop Oa a W):∀(gs:Array Goroutine) (t:Trace) (O:Nat→Nat→Prop) (sl:Option (Nat × Nat)),O 0=Oa→Idle X d0 aA Sh K gs W t O→gs[0]?=some a →
  Comes X.P (crowd gs W sl) t fun m' t'=>∃gs' W' eI O' a',m'=crowd gs' W' eI∧Idle X d0 aA Sh K gs' W' t' O'∧gs'[0]?=some a'∧gs'.size=gs.size∧(∀j,j≠0→O' j=O j)∧(∀b,Sh b∨X.Z b→W'.heap[b]?=W.heap[b]?)∧(∀W1,cv (O' 0) X.Z W' W1→Stop (O' 0) a' W1):=by
 induction h with
 | @stop Oa a W h=>exact fun gs t O sl hO hI h0=>.done ⟨gs,W,sl,O,a,rfl,hI,h0,rfl,fun _ _=>rfl,fun _ _=>rfl,by rw[hO];exact h⟩
 | me T _ h=>exact(h _ (.refl _)).elim
 | @step Oa a W hs hg hk ih =>
  intro gs t O sl hO hI h0;subst hO;refine(pick (sl:=sl) ok hI h0 hs).bind fun m' t' ⟨gs',W1,oC,iy,d,hm,aX,gL,jW,hsz,e,he⟩=>?_
  subst hm;have hr:cv (O 0) X.Z W (W1.at d):=by rw[he];exact si W e
  obtain⟨a',W',es,aw,iP⟩:=hg (W1.at d) hr;have gR:=runT_crowd_go (P:=X.P) (sl:=iy) (i:=0) jW (show stepG X.P (0 == 0) a (W1.at d)=_ from aw);have jo:∀b,O 0 b→b<(W1.at d).heap.size:=fun b hb=>gL.core.apart.lo 0 b hb
  have tU:∀b,Sh b∨X.Z b→W'.heap[b]?=(W1.at d).heap[b]?:=fun b hb=>hb.elim (fun hb=>iP.keep b (gL.core.apart.tR b hb) fun x=>gL.core.apart.sh 0 b x hb) fun hb=>iP.keep b (gL.core.apart.mf b hb) fun x=>gL.core.apart.shr 0 b x hb
  have uo:=gL.own (a':=a') ok jW (gr.of (g:=0) iP jo) (vO iP.evs d0) (fun hk ⟨st,sm,hl⟩=>⟨st,sm,(tU _ (.inl (gL.sh hk).2)).trans hl⟩) (fun hk=>by
   obtain⟨m,tm,e⟩:=gL.chan hk;exact⟨m,tm,(tU _ (.inl (gL.sh hk).1)).trans e⟩) a.frame.fn a.frame.place
  refine .step (aX.trans gR) ?_;have aQ:0<gs'.size:=(Array.getElem?_eq_some_iff.1 jW).1;refine(ih (W1.at d) a' W' es hr aw _ _ _ iy (upd_same _ _ _) uo (by simp[aQ])).mono fun m' t' ⟨lQ,W2,m3,O2,a2,x1,x2,x3,x4,x5,x7,x6⟩=>⟨lQ,W2,m3,O2,a2,x1,x2,x3,?_,fun j hj=>(x5 j hj).trans (upd_ne _ _ hj),fun b hb=>(x7 b hb).trans ((tU b hb).trans (by rw[he];rfl)),x6⟩
  rw[x4];simpa using hsz
theorem take (ok:X.Ok){Q:Goroutine→World→Array Event→(Nat→Prop)→Prop}(cm:a.status=.running)(hI:Idle X d0 aA Sh K gs W t O)(h0:gs[0]?=some a)
  (hs:∀e,∃a' W' es O',stepG X.P true a (W.at e)=.go a' W' es∧gr Sh X.Z (O 0) O' 0 (W.at e) W' es∧deafBehind d0 es=d1∧((∃j,K j)→WgLive X.ty X.Wg W→WgLive X.ty X.Wg W')∧((∃j,K j)→W'.heap[X.ct]?=W.heap[X.ct]?)∧Q a' W' es O') :
  Comes X.P (crowd gs W sl) t fun m' t'=>∃gs' W' eI O' a' es,m'=crowd gs' W' eI∧Idle X d1 aA Sh K gs' W' t' (upd O 0 O')∧gs'[0]?=some a'∧gs'.size=gs.size∧Q a' W' es O':=by
 refine(pick (sl:=sl) ok hI h0 cm).bind fun m' t' ⟨gs',W1,oC,iy,d,hm,aX,gL,jW,hsz,e,he⟩=>?_
 subst hm;obtain⟨a',W',es,O',aw,hf,hd,hl,hc,hq⟩:=hs e;rw[←he]at aw hf;have gR:=runT_crowd_go (P:=X.P) (sl:=iy) (i:=0) jW (show stepG X.P (0 == 0) a (W1.at d)=_ from aw)
 have uo:=gL.own (a':=a') ok jW hf hd (fun hk x=>hl hk (by rw[he]at x;exact x)) (fun hk=>by
  obtain⟨m,tm,x⟩:=hI.chan hk;exact⟨m,tm,(hc hk).trans x⟩) a.frame.fn a.frame.place
 have aQ:0<gs'.size:=(Array.getElem?_eq_some_iff.1 jW).1;exact .step (aX.trans gR) (.done ⟨_,W',iy,O',a',es,rfl,uo,by simp[aQ],by simpa using hsz,hq⟩)
theorem ZO (ok:X.Ok){R:World→World→Prop}{Stop:Goroutine→World→Prop}(hR:∀w d,R w (w.at d)):∀(n:Nat) (a:Goroutine) (gs:Array Goroutine) (W:World) (t:Trace) (sl:Option (Nat × Nat)),Goes X.P true R DC0 Stop n a W→Idle X d0 aA Sh K gs W t O→gs[0]?=some a →
  Comes X.P (crowd gs W sl) t fun m' t'=>∃gs' W' eI a',m'=crowd gs' W' eI∧Idle X d0 aA Sh K gs' W' t' O∧gs'[0]?=some a'∧gs'.size=gs.size∧(∃e,W'=W.at e)∧(∀W1,R W' W1→Stop a' W1):=by
 intro n
 induction n with
 | zero=>exact fun a gs W t sl h hI h0=>.done ⟨gs,W,sl,a,rfl,hI,h0,rfl,⟨W.drawn,rfl⟩,h⟩
 | succ n ih =>
  intro a gs W t sl h hI h0;rcases h with h | ⟨hs,h⟩
  ·exact .done ⟨gs,W,sl,a,rfl,hI,h0,rfl,⟨W.drawn,rfl⟩,h⟩
  refine(take (sl:=sl) (d1:=d0) (Q:=fun a' W' _ O'=>(∃e,W'=W.at e)∧O'=O 0∧Goes X.P true R DC0 Stop n a' W') ok hs hI h0 fun e=>?_).bind fun m' t' ⟨gs',W',eI,O',a',es,hm,gL,jW,hsz,⟨e,he⟩,hO,hg⟩=>?_
  ·obtain⟨a',W',es,aX,⟨rfl,rfl⟩,hg⟩:=goes_elim (h (W.at e) (hR W e));exact⟨a',_,_,O 0,aX,.still (fun b hb=>hI.core.apart.lo 0 b hb) zi,rfl,fun _ x=>x,fun _=>rfl,⟨e,rfl⟩,rfl,hg⟩
  ·subst hm hO;rw[vS]at gL;exact(ih a' gs' W' t' eI hg gL jW).mono fun m2 t2 ⟨lQ,W2,m3,a2,x1,x2,x3,x4,⟨e2,x5⟩,x6⟩=>⟨lQ,W2,m3,a2,x1,x2,x3,x4.trans hsz,⟨e2,by rw[x5,he];rfl⟩,x6⟩
end
open Go.ConcN (upd upd_same upd_ne WgLive PayAt RW fork_knows)
section
variable [Payload] {X:dT}{aA:Loc→Prop}{Sh K:Nat→Prop}{gs:Array Goroutine}{W W':World}{t:Trace}{O:Nat→Nat→Prop}{a a' child:Goroutine}{sl:Option (Nat × Nat)}{C:Nat}
theorem born (ok:X.Ok)(hI:Idle X 0 aA Sh K gs W t O)(h0:gs[0]?=some a)(cm:a.status=.running)(hsh:Sh X.ct∧Sh X.Wg)(mA:eC X.ct W)(hC:mJ (O 0) C)
  (hs:∀e,stepG X.P true a (W.at e)=.spawn a' child (W.at e) #[]) (hw:∃n,Goes X.P false (RO X C) (D0 X C) (X.AR C) n child W) :
  Comes X.P (crowd gs W sl) t fun m' t'=>∃gs' W' eI,m'=crowd gs' W' eI∧Idle X 0 aA Sh (fun j=>K j∨j=gs.size) gs' W' t' (upd (upd O 0 fun b=>O 0 b∧¬eA C b) gs.size (eA C))∧gs'[0]?=some a'∧gs'.size=gs.size+1∧∃e,W'=W.at e:=by
 refine(pick (sl:=sl) ok hI h0 cm).bind fun m' t' ⟨gs',W1,oC,iy,d,hm,aX,gL,jW,hsz,e,he⟩=>?_
 subst hm;have aw:=hs e;rw[←he]at aw;have gR:=runT_crowd_spawn (P:=X.P) (sl:=iy) (i:=0) jW (show stepG X.P (0 == 0) a (W1.at d)=_ from aw);have gQ:0<gs'.size:=(Array.getElem?_eq_some_iff.1 jW).1;refine .step (aX.trans gR) (.done ⟨_,W1.at d,iy,rfl,?_,by rw[Array.getElem?_push,if_neg (by simp only[Array.size_setIfInBounds];omega),Array.getElem?_setIfInBounds_self_of_lt gQ],by simp[hsz],e,he⟩);obtain⟨n,hg⟩:=hw;have FD:Deaf t' 0=0:=(gL.core.eg 0 a jW).1 rfl;have Bf:Deaf t' gs'.size=0:=gL.core.above _ (Nat.le_refl _)
 have hu:∀op∈#[({ g:=0,fn:=a.frame.fn,pos:=a.frame.place,act:=.go gs'.size }:MemOp),{ g:=gs'.size,fn:=child.frame.fn,pos:=a.frame.place,act:=.start }],op.act.touch?=none∧(∀x,op.act≠.mark (.release x))∧op.act≠.mark .disable∧op.act≠.mark .enable:=by
  intro op cN;simp at cN;rcases cN with rfl|rfl<;>simp[MemAct.touch?]
 have rU:∀i,Knows t' 0 i→Knows (t'++#[({ g:=0,fn:=a.frame.fn,pos:=a.frame.place,act:=.go gs'.size }:MemOp),{ g:=gs'.size,fn:=child.frame.fn,pos:=a.frame.place,act:=.start }]) gs'.size i:=fun i h=>fork_knows ⟨rfl,rfl⟩ ⟨rfl,rfl⟩ FD Bf h
 have hD:∀j,Deaf (t'++#[({ g:=0,fn:=a.frame.fn,pos:=a.frame.place,act:=.go gs'.size }:MemOp),{ g:=gs'.size,fn:=child.frame.fn,pos:=a.frame.place,act:=.start }]) j=Deaf t' j:=fun j=>Ha (fun op cN=>(hu op cN).2.2) j
 have cj:gs'.size≠0:=by omega
 have oc:∀j,j≠0→j≠gs'.size→upd (upd O 0 fun b=>O 0 b∧¬eA C b) gs'.size (eA C) j=O j:=fun j h1 h2=>by rw[upd_ne _ _ h2,upd_ne _ _ h1]
 have o0:upd (upd O 0 fun b=>O 0 b∧¬eA C b) gs'.size (eA C) 0=fun b=>O 0 b∧¬eA C b:=by rw[upd_ne _ _ (Ne.symm cj),upd_same]
 have on:upd (upd O 0 fun b=>O 0 b∧¬eA C b) gs'.size (eA C) gs'.size=eA C:=upd_same _ _ _;rw[←hsz]
 have gI:∀j b,upd (upd O 0 fun b=>O 0 b∧¬eA C b) gs'.size (eA C) j b→(j=gs'.size∧eA C b∧O 0 b)∨(j≠gs'.size∧O j b∧(j=0→¬eA C b)):=fun j b h=>by
  by_cases h1:j=gs'.size
  ·subst h1;rw[on]at h;exact .inl ⟨rfl,h,hC b h⟩
  ·by_cases h2:j=0
   ·subst h2;rw[o0]at h;exact .inr ⟨h1,h.1,fun _=>h.2⟩
   ·rw[oc j h2 h1]at h;exact .inr ⟨h1,h,fun x=>absurd x h2⟩
 have ap:=gL.core.apart;refine⟨⟨fun j x hj=>?_,fun j hj=>?_,?_,⟨fun g h b y3 hg hh=>?_,fun g b hg=>?_,fun g b hg=>?_,ap.m9,fun g b hg=>?_,ap.mf,ap.tR⟩⟩,fun _=>hsh,fun _=>?_,fun j hj=>?_⟩
 ·show HY X _ 0 j (Deaf _ j) _ x _;rw[Array.getElem?_push]at hj;split at hj
  ·rename_i uw;simp only[Array.size_setIfInBounds]at uw;obtain rfl:=Option.some.inj hj;refine⟨fun h=>absurd (uw.symm.trans h) cj,fun _=>⟨.nat (n+1),9,?_,.inr ⟨rfl,.inr uw⟩⟩⟩;rw[uw];have:=hD gs'.size;rw[on];have e0:Deaf (t'++((MemOp.ofEvents 0 a.frame.fn a.frame.place #[]).push { g:=0,fn:=a.frame.fn,pos:=a.frame.place,act:=.go gs'.size } |>.push { g:=gs'.size,fn:=child.frame.fn,pos:=a.frame.place,act:=.start })) gs'.size=0:=this.trans Bf;rw[e0];exact .recv (Goes.rely Mf hg (by rw[he];exact⟨fun _ _=>rfl,fun x=>x⟩)) fun b hb=>hb
  ·rename_i uw;simp only[Array.size_setIfInBounds]at uw;have e0:Deaf (t'++((MemOp.ofEvents 0 a.frame.fn a.frame.place #[]).push { g:=0,fn:=a.frame.fn,pos:=a.frame.place,act:=.go gs'.size } |>.push { g:=gs'.size,fn:=child.frame.fn,pos:=a.frame.place,act:=.start })) j=Deaf t' j:=hD j;rw[e0];by_cases kx:j=0
   ·subst kx;exact⟨fun _=>FD,fun h=>absurd rfl h⟩
   ·rw[Array.getElem?_setIfInBounds_ne (Ne.symm kx)]at hj;obtain⟨r,st,hw,hc⟩:=(gL.core.eg j x hj).2 kx;rw[oc j kx uw];exact⟨fun h=>absurd h kx,fun _=>⟨r,st,hw,hc.imp (fun x=>⟨x.1,fun y=>y.elim x.2 uw⟩) fun x=>⟨x.1,.inl x.2⟩⟩⟩
 ·simp only[Array.size_push,Array.size_setIfInBounds]at hj;exact(hD j).trans (gL.core.above j zo)
 ·refine gL.core.tok.move (u:=#[({ g:=0,fn:=a.frame.fn,pos:=a.frame.place,act:=.go gs'.size }:MemOp),{ g:=gs'.size,fn:=child.frame.fn,pos:=a.frame.place,act:=.start }]) (fun op cN=>⟨(hu op cN).1,(hu op cN).2.1⟩) (fun g b hb=>?_) (fun g hg=>?_) fun g hg=>.inl hg
  ·rcases gI g b hb with⟨rfl,_,h⟩|⟨_,h,_⟩
   ·exact⟨0,h,rU⟩
   ·exact⟨g,h,fun i hk=>hk.app _⟩
  ·rcases hg with hg|rfl
   ·exact .inr (.inl hg)
   ·exact .inr (.inr rU)
 ·rcases gI g b hg with⟨rfl,m1,h1⟩|⟨n1,h1,k1⟩<;>rcases gI h b hh with⟨rfl,e2,h2⟩|⟨n2,h2,k2⟩
  ·exact y3 rfl
  ·by_cases hz:h=0
   ·exact k2 hz m1
   ·exact ap.two 0 h b (Ne.symm hz) h1 h2
  ·by_cases hz:g=0
   ·exact k1 hz e2
   ·exact ap.two g 0 b hz h1 h2
  ·exact ap.two g h b y3 h1 h2
 ·rcases gI g b hg with⟨_,_,h1⟩|⟨_,h1,_⟩<;>exact ap.shr _ b h1
 ·rcases gI g b hg with⟨_,_,h1⟩|⟨_,h1,_⟩<;>exact ap.sh _ b h1
 ·rcases gI g b hg with⟨_,_,h1⟩|⟨_,h1,_⟩<;>exact ap.lo _ b h1
 ·obtain⟨m,tm,x⟩:=mA;rw[he];exact⟨m,tm,x⟩
 ·simp only[Array.size_push,Array.size_setIfInBounds];rcases hj with hj|hj
  ·have:=gL.iR j hj;omega
  ·omega
end
open Go.ConcN (upd upd_same upd_ne WgLive PayAt RW sumTo sumTo_upd)
section
variable {xp xq:Goroutine}{p q m s:Nat}{tm:Bool}{x0 x1 x2 x3:MemOp}
theorem G3 {O:Nat→Prop}(hO:¬O c)(hZ:¬Z c)(d:Nat)(x y:Nat)(cl:Bool):cv O Z W ((W.at d).setChan c 0 #[] cl x y tm):=by
 refine⟨rfl,rfl,rfl,by simp[World.setChan,World.at],fun b hb=>?_⟩;have:c≠b:=by rintro rfl;exact hb.elim hO hZ
 simp only[World.setChan,World.at,Array.getElem?_setIfInBounds_ne this]
theorem Core.meet (h:Core aA Sh Z K rK gs W t O)(hpq:p≠q)(hsz:gs'.size=gs.size)(l9:∀k,k≠p→k≠q→gs'[k]?=gs[k]?)(hp:gs'[p]?=some xp)(hq:gs'[q]?=some xq)(hc:Sh c)(ve:¬Z c){d x y:Nat}{cl:Bool}(hW:W'=(W.at d).setChan c 0 #[] cl x y tm)
  (h0:x0.g=p∧x0.act=.send c s) (h1:x1.g=q∧x1.act=.recv c s m) (h2:x2.g=p∧x2.act=.sendDone c s) (h3:x3.g=q∧x3.act=.recvDone c s) (dp:Deaf t p=0) (dq:Deaf t q=0)
  (V0:∀b,O' p b→O p b) (V1:∀b,O' q b→O q b∨(O p b∧¬O' p b)) (NU:∀k,k≠p→k≠q→O' k=O k)
  (hw:∀k x,k≠p→k≠q→gs[k]?=some x→rK k (Deaf t k) (O k) x W→cv (O k) Z W W'→Sit' k (Deaf t k) (O k) x W') (sp:Sit' p 0 (O' p) xp W') (sq:Sit' q 0 (O' q) xq W') :
  Core aA Sh Z K Sit' gs' W' (t++#[x0,x1,x2,x3]) O':=by
 have ap:=h.apart
 have hu:∀op∈#[x0,x1,x2,x3],op.act.touch?=none∧(∀a,op.act≠.mark (.release a))∧op.act≠.mark .disable∧op.act≠.mark .enable:=by
  intro op cN;simp at cN;rcases cN with rfl|rfl|rfl|rfl
  ·rw[h0.2];simp[MemAct.touch?]
  ·rw[h1.2];simp[MemAct.touch?]
  ·rw[h2.2];simp[MemAct.touch?]
  ·rw[h3.2];simp[MemAct.touch?]
 have hD:∀j,Deaf (t++#[x0,x1,x2,x3]) j=Deaf t j:=fun j=>Ha (fun op cN=>(hu op cN).2.2) j
 have dZ:W'.heap.size=W.heap.size:=by rw[hW];simp[World.setChan,World.at]
 have gI:∀k b,O' k b→(O k b∧(k=p→O' p b))∨(k=q∧O p b∧¬O' p b):=fun k b hb=>by
  by_cases k1:k=p
  ·subst k1;exact .inl ⟨V0 b hb,fun _=>hb⟩
  ·by_cases k2:k=q
   ·subst k2;rcases V1 b hb with x|x
    ·exact .inl ⟨x,fun e=>absurd e k1⟩
    ·exact .inr ⟨rfl,x⟩
   ·rw[NU k k1 k2]at hb;exact .inl ⟨hb,fun e=>absurd e k1⟩
 refine⟨fun k g hk=>?_,fun j hj=>(hD j).trans (h.above j zo),?_,⟨fun g k b rT hg hk=>?_,fun g b hg=>?_,fun g b hg=>?_,ap.m9,fun g b hg=>?_,fun b hb=>?_,fun b hb=>?_⟩⟩
 ·rw[hD];by_cases k1:k=p
  ·subst k1;rw[hp]at hk;cases hk;rw[dp];exact sp
  ·by_cases k2:k=q
   ·subst k2;rw[hq]at hk;cases hk;rw[dq];exact sq
   ·rw[l9 k k1 k2]at hk;rw[NU k k1 k2];refine hw k g k1 k2 hk (h.eg k g hk) ?_;rw[hW];exact G3 (fun x=>ap.sh k c x hc) ve d x y cl
 ·rw[dZ];refine h.tok.move (fun op cN=>⟨(hu op cN).1,(hu op cN).2.1⟩) (fun g b hb=>?_) (fun g hg=>.inr (.inl hg)) fun g hg=>hg
  rcases gI g b hb with⟨x,_⟩|⟨rfl,x,_⟩
  ·exact⟨g,x,fun i hk=>hk.app _⟩
  ·exact⟨p,x,fun i hk=>zoY h0 h1 h2 h3 dp dq hk⟩
 ·rcases gI g b hg with⟨a1,b1⟩|⟨rfl,a1,n1⟩<;>rcases gI k b hk with⟨a2,b2⟩|⟨rfl,a2,n2⟩
  ·exact ap.two g k b rT a1 a2
  ·by_cases e:g=p
   ·exact n2 (b1 e)
   ·exact ap.two g p b e a1 a2
  ·by_cases e:k=p
   ·exact n1 (b2 e)
   ·exact ap.two k p b e a2 a1
  ·exact rT rfl
 ·rcases gI g b hg with⟨x,_⟩|⟨_,x,_⟩<;>exact ap.shr _ b x
 ·rcases gI g b hg with⟨x,_⟩|⟨_,x,_⟩<;>exact ap.sh _ b x
 ·rw[dZ];rcases gI g b hg with⟨x,_⟩|⟨_,x,_⟩<;>exact ap.lo _ b x
 ·rw[dZ];exact ap.mf b hb
 ·rw[dZ];exact ap.tR b hb
theorem SX (h:∃a b Ed,W.heap[c]?=some (.chan 0 #[] false a b Ed))(d x:Nat):eC c ((W.at d).setChan c 0 #[] false x x tm):=by
 obtain⟨_,_,_,h⟩:=h;have aQ:c<W.heap.size:=(Array.getElem?_eq_some_iff.1 h).1;refine⟨x,tm,?_⟩;simp only[World.setChan,World.at];exact Array.getElem?_setIfInBounds_self_of_lt aQ
theorem QE {c':Nat}(h:eC c' W)(cj:c≠c')(d x y:Nat)(cl:Bool):eC c' ((W.at d).setChan c 0 #[] cl x y tm):=by
 obtain⟨a,b,h⟩:=h;refine⟨a,b,?_⟩;simp only[World.setChan,World.at,Array.getElem?_setIfInBounds_ne cj];exact h
end
section
variable [Payload] {X:dT}{st d:Nat}{tk:Option Nat}{r:Rk}{O:Nat→Prop}{x:Goroutine}{W:World}
theorem WS.nine (ok:X.Ok)(h:WS X 9 tk r d O x W):d=0∧(x.status=.running∨(tk=none∧∃C g,x=parked g #[rcase X.ct X.zt] (.recv true)∧(∀W1,RO X C W W1→X.AR C g W1)∧mJ O C) ∨
  ∃i C v g,tk=some i∧x=parked g #[scase X.cb v X.zb] .send∧(∀W1,cv O X.Z W W1→X.AS i C O g W1)∧(∀w,stepG X.P false g w=.comm g #[scase X.cb v X.zb] true .send w #[])∧mJ O C):=by
 generalize aX:(9:Nat)=st at h;cases h with
 | recv h hC=>exact⟨rfl,.inl (Goes.running (fun g w h=>(ok.ar _ g w h).1) W (.refl W) h)⟩
 | iH h hC=>exact⟨rfl,.inr (.inl ⟨rfl,_,_,rfl,h,hC⟩)⟩
 | gS h hC=>exact⟨rfl,.inl rfl⟩
 | task h hC=>exact⟨rfl,.inl (h.run fun O g W h=>(ok.yo _ _ O g W h).1)⟩
 | iI h hs hC=>exact⟨rfl,.inr (.inr ⟨_,_,_,_,rfl,rfl,h,hs,hC⟩)⟩
 | _=>omega
theorem WS.one (h:WS X 1 tk r d O x W):x.status≠.blocked:=by
 generalize aX:(1:Nat)=st at h;cases h with
 | quit h=>rcases h.status with e|e<;>rw[e]<;>simp
 | _=>omega
omit [Payload] in
theorem xP {cs:Array CommCase}{c0 cc:CommCase}(h:cs = #[c0])(hk:cs[k]?=some cc):k=0∧cc=c0:=by
 subst h;obtain⟨aQ,e⟩:=Array.getElem?_eq_some_iff.1 hk;have:k=0:=by simp at aQ;omega
 subst this;exact⟨rfl,e.symm⟩
omit [Payload] in
theorem G6 {c0 c1 cc:CommCase}(hk : #[c0,c1][k]?=some cc):(k=0∧cc=c0)∨(k=1∧cc=c1):=by
 obtain⟨aQ,e⟩:=Array.getElem?_eq_some_iff.1 hk;have:k=0∨k=1:=by simp at aQ;omega
 rcases this with rfl|rfl
 ·exact .inl ⟨rfl,e.symm⟩
 ·exact .inr ⟨rfl,e.symm⟩
theorem WS.q8 (ok:X.Ok){i:Nat}(h:WS X st (some i) r d O x W)(cm:x.status=.running):st=9∧d=0 ∧
  ((∃g' W' es r',stepG X.P false x W=.go g' W' es∧iW O X.Z W W' es∧Rk.Sub r' r∧WS X 9 (some i) r' 0 (fQ O W W') g' W'∧g'.status=.running) ∨
  ∃C v r',(∀W1,cv O X.Z W W1→X.AS i C O x W1)∧(∀w,stepG X.P false x w=.comm x #[scase X.cb v X.zb] true .send w #[])∧mJ O C∧Rk.Sub r' r):=by
 generalize gv:some i=tk at h;cases h with
 | @task i' C r O g W h hC =>
  cases gv;refine⟨rfl,rfl,?_⟩;rcases h.cases with hk | ⟨_,hk⟩
  ·obtain⟨_,v,hs,_⟩:=ok.yo _ _ _ _ _ (hk W (.refl W));obtain⟨r',tI⟩:=r.tX;exact .inr ⟨C,v,r',hk,hs,hC,tI⟩
  ·obtain⟨g',W',es,r',e1,e2,e3,e4⟩:=hk W (.refl W);exact .inl ⟨g',W',es,r'.up,e1,e2,Rk.up_sub e3,.task e4 (fun b hb=>.inl (hC b hb)),e4.run fun O g W h=>(ok.yo _ _ O g W h).1⟩
 | iI h hs hC=>cases cm
 | _=>cases gv
end
section
variable [Payload] (X:dT) (zs:Value)
def jy (next:Nat):Array CommCase:=#[if next<X.many then scase X.ct (.int .i64 next) zs else { chan:=.chan none,send:=some (.int .i64 next),zero:=zs },rcase X.cb X.zr]
def left (done:Nat→Bool):Nat:=sumTo X.many fun i=>if done i then 0 else 1
variable (SEL:Nat→(Nat→Bool)→(Nat→Prop)→Goroutine→World→Prop)
structure gX:Prop where
 dv:∀next done O g W,SEL next done O g W→next≤X.many∧((next<X.many∨∃i,i<next∧done i=false)→g.status=.running∧(∀w,stepG X.P true g w=.comm g (jy X zs next) true .select w #[]) ∧
  (next<X.many→gk X.P true X.Z (SEL (next+1) done) O (g.finishComm X.P (jy X zs next) .select 0 undef false) W) ∧
  (∀i v T,i<next→done i=false→X.Fl i v T W→(∀b,T b→¬O b∧¬X.Z b)→gk X.P true X.Z (SEL next (upd done i true)) (fun b=>O b∨T b) (g.finishComm X.P (jy X zs next) .select 1 v true) W))
inductive SS (next:Nat) (done:Nat→Bool):Rk→(Nat→Prop)→Goroutine→World→Prop
 | run {r:Rk} {O:Nat→Prop} {g:Goroutine} {W:World}:ji X.P true X.Z (SEL next done) r O g W→SS next done r.up O g W
 | ko {r:Rk} {O:Nat→Prop} {g:Goroutine} {W:World}:(∀W1,cv O X.Z W W1→SEL next done O g W1)→(∀w,stepG X.P true g w=.comm g (jy X zs next) true .select w #[])→(next<X.many∨∃i,i<next∧done i=false)→SS next done r O (parked g (jy X zs next) .select) W
def Nr (K:Nat→Prop)(next:Nat)(done:Nat→Bool)(tk:Nat→Option Nat)(ρ:Nat→Rk)(j d:Nat)(Oj:Nat→Prop)(x:Goroutine)(W:World):Prop :=
 (j=0→d=0∧SS X zs SEL next done (ρ 0) Oj x W)∧(j≠0→∃st,WS X st (tk j) (ρ j) d Oj x W∧(st=1∧¬K j∨st=9∧K j))
structure eJ (Sh:Nat→Prop):Prop where
 ct:Sh X.ct
 cb:Sh X.cb
 wg:Sh X.Wg
 tb:X.ct≠X.cb
 tw:X.ct≠X.Wg
 bw:X.cb≠X.Wg
structure Pool (aA:Loc→Prop)(Sh K:Nat→Prop)(ow:Option Obj)(kz:Nat→Option Obj)(next:Nat)(done:Nat→Bool)(tk:Nat→Option Nat)(ρ:Nat→Rk)(gs:Array Goroutine)(W:World)(t:Trace)(O:Nat→Nat→Prop):Prop where
 core:Core aA Sh X.Z K (Nr X zs SEL K next done tk ρ) gs W t O
 qb:eC X.ct W
 pj:eC X.cb W
 iR:∀j,K j→0<j∧j<gs.size
 qx:∀j i,tk j=some i→K j∧i<next∧done i=false
 pS:∀j j' i,tk j=some i→tk j'=some i→j=j'
 rN:∀i,done i=true→i<next
 pR:∀i,i<next→done i=false→∃j,tk j=some i
 ko:∀a,gs[0]?=some a→a.status=.blocked→∀j x,j≠0→gs[j]?=some x→x.status=.blocked→next=X.many∧tk j=none
 xH:W.heap[X.Wg]?=ow
 zk:∀b,X.Z b→W.heap[b]?=kz b
end
section
variable [Payload] {X:dT}{zs:Value}{SEL:Nat→(Nat→Bool)→(Nat→Prop)→Goroutine→World→Prop}{aA:Loc→Prop}{Sh K:Nat→Prop}{ow:Option Obj}{kz:Nat→Option Obj}{next:Nat}{done:Nat→Bool}{tk:Nat→Option Nat}{ρ:Nat→Rk}{gs gs':Array Goroutine}{W W':World}{t:Trace}{O:Nat→Nat→Prop}
 {sl:Option (Nat × Nat)} {j d m:Nat} {tm:Bool} {x0 x1 x2 x3:MemOp} {C:Nat} {a0 g0:Goroutine}
omit [Payload] in
theorem SS.rely {r:Rk}{Oj:Nat→Prop}(h:SS X zs SEL next done r Oj x W)(hr:cv Oj X.Z W W1):SS X zs SEL next done r Oj x W1:=by
 cases h with
 | run h=>exact .run (h.rely hr)
 | ko h hs hc=>exact .ko (fun W2 h2=>h W2 (hr.trans h2)) hs hc
omit [Payload] in
theorem Uc (pl:eJ X Sh){c x y:Nat}{cl:Bool}(hc:c=X.ct∨c=X.cb):((W.at d).setChan c 0 #[] cl x y tm).heap[X.Wg]?=W.heap[X.Wg]?:=by
 have cj:c≠X.Wg:=by rcases hc with rfl|rfl;exact pl.tw;exact pl.bw
 simp only[World.setChan,World.at,Array.getElem?_setIfInBounds_ne cj]
omit [Payload] in
theorem Uv (pl:eJ X Sh)(hz:∀b,X.Z b→¬Sh b){c x y:Nat}{cl:Bool}(hc:c=X.ct∨c=X.cb){b:Nat}(hb:X.Z b):((W.at d).setChan c 0 #[] cl x y tm).heap[b]?=W.heap[b]?:=by
 have cj:c≠b:=by
  rintro rfl;rcases hc with rfl|rfl
  ·exact hz _ hb pl.ct
  ·exact hz _ hb pl.cb
 simp only[World.setChan,World.at,Array.getElem?_setIfInBounds_ne cj]
omit [Payload] in
theorem Ll (pl:eJ X Sh){c x y:Nat}{cl:Bool}(hc:c=X.ct∨c=X.cb)(h:WgLive X.ty X.Wg W):WgLive X.ty X.Wg ((W.at d).setChan c 0 #[] cl x y tm):=by
 obtain⟨st,sm,h⟩:=h;have cj:c≠X.Wg:=by rcases hc with rfl|rfl;exact pl.tw;exact pl.bw
 refine⟨st,sm,?_⟩;show((W.at d).setChan c 0 #[] cl x y tm).heap[X.Wg]?=_;simp only[World.setChan,World.at,Array.getElem?_setIfInBounds_ne cj];exact h
omit [Payload] in
theorem zwL (pl:eJ X Sh)(hz:∀b,X.Z b→¬Sh b){c x y:Nat}{cl:Bool}(hc:c=X.ct∨c=X.cb)(hC:∀b,eA C b→¬Sh b):RO X C W ((W.at d).setChan c 0 #[] cl x y tm):=by
 have hs:Sh c:=by rcases hc with rfl|rfl;exact pl.ct;exact pl.cb
 refine⟨fun b hb=>?_,Ll pl hc⟩
 have cj:c≠b:=by
  rintro rfl;rcases hb with hb|hb
  ·exact hC c hb hs
  ·exact hz c hb hs
 simp only[World.setChan,World.at,Array.getElem?_setIfInBounds_ne cj]
def E4 (ty:TypeId)(ow:Option Obj):Prop:=∃st sm,ow=some (Go.ConcR.wgBlock ty st sm)
theorem Pool.give (ok:X.Ok)(so:gX X zs SEL)(pl:eJ X Sh)(nu:E4 X.ty ow)(h:Pool X zs SEL aA Sh K ow kz next done tk ρ gs W t O)(aQ:next<X.many)(ha:∀W1,cv (O 0) X.Z W W1→SEL next done (O 0) a0 W1)(hk:K j)(gv:tk j=none)
  (hg:∀W1,RO X C W W1→X.AR C g0 W1) (hC:mJ (O j) C) (hsz:gs'.size=gs.size) (l9:∀k,k≠0→k≠j→gs'[k]?=gs[k]?) (hp:gs'[0]?=some (a0.finishComm X.P (jy X zs next) .select 0 undef false)) (hq:gs'[j]?=some (Go.Conc.served g0 (.tuple #[.int .i64 next,.bool true])))
  (hW:W'=(W.at d).setChan X.ct 0 #[] false (m+1) (m+1) tm) (h0:x0.g=0∧x0.act=.send X.ct m) (h1:x1.g=j∧x1.act=.recv X.ct m 0) (h2:x2.g=0∧x2.act=.sendDone X.ct m) (h3:x3.g=j∧x3.act=.recvDone X.ct m) :
  ∃ρ' O',Pool X zs SEL aA Sh K ow kz (next+1) done (upd tk j (some next)) ρ' gs' W' (t++#[x0,x1,x2,x3]) O':=by
 have hj:0≠j:=by have:=(h.iR j hk).1;omega
 have ap:=h.core.apart;have ve:¬X.Z X.ct:=fun x=>ap.m9 _ x pl.ct
 obtain⟨r0,zK⟩:=HI (((so.dv _ _ _ _ _ (ha W (.refl W))).2 (.inl aQ)).2.2.1 aQ);obtain⟨rj,Xd⟩:=HI ((ok.ar C g0 W (hg W (.refl W))).2.2.1 next aQ);have py:0<gs.size:=by have:=h.iR j hk;omega
 obtain⟨a,I1⟩:∃a,gs[0]?=some a:=⟨gs[0],Array.getElem?_eq_getElem py⟩;obtain⟨y,Ke⟩:∃a,gs[j]?=some a:=⟨gs[j]'(h.iR j hk).2,Array.getElem?_eq_getElem (h.iR j hk).2⟩;have d0:Deaf t 0=0:=((h.core.eg 0 a I1).1 rfl).1
 have dj:Deaf t j=0:=by
  obtain⟨st,hw,hc⟩:=(h.core.eg j y Ke).2 (Ne.symm hj);rcases hc with⟨_,x⟩|⟨rfl,_⟩
  ·exact absurd hk x
  ·exact(hw.nine ok).1
 have vH:∀Oj:Nat→Prop,¬Oj X.ct→cv Oj X.Z W W':=fun Oj hn=>by rw[hW];exact G3 hn ve d _ _ false
 refine⟨upd (upd ρ 0 r0.up) j rj.up,upd O j (eA C),⟨?_,?_,?_,fun k hk=>by rw[hsz];exact h.iR k hk,fun k i hi=>?_,fun k k' i hi mD=>?_,fun i hd=>Nat.lt_succ_of_lt (h.rN i hd),fun i hi hd=>?_,fun a hb gY=>?_,by rw[hW];exact(Uc pl zi).trans h.xH,fun b hb=>by rw[hW];exact(Uv pl ap.m9 zi hb).trans (h.zk b hb)⟩⟩
 ·refine h.core.meet (gs':=gs') hj hsz l9 hp hq pl.ct ve hW h0 h1 h2 h3 d0 dj (fun b hb=>by rwa [upd_ne _ _ hj]at hb) (fun b hb=>by rw[upd_same]at hb;exact .inl (hC b hb)) (fun k _ hk=>upd_ne _ _ hk) (fun k x k1 k2 hx hs hr=>⟨fun e=>absurd e k1,fun _=>?_⟩) ⟨fun _=>⟨rfl,?_⟩,fun e=>absurd rfl e⟩ ⟨fun e=>absurd e.symm hj,fun _=>⟨9,?_,.inr ⟨rfl,hk⟩⟩⟩
  ·obtain⟨st,hw,hc⟩:=hs.2 k1;refine⟨st,?_,hc⟩;rw[upd_ne _ _ k2,upd_ne _ _ k2,upd_ne _ _ k1];exact hw.rely fun _=>⟨hr,fun x=>by rw[hW];exact Ll pl (.inl rfl) x⟩
  ·rw[upd_ne _ _ hj,upd_ne _ _ hj,upd_same];exact .run (zK.rely (vH _ fun x=>ap.sh 0 _ x pl.ct))
  ·rw[upd_same,upd_same,upd_same];exact .task (Xd.rely (vH _ fun x=>ap.sh j _ (hC _ x) pl.ct)) fun b hb=>hb
 ·rw[hW];obtain⟨_,_,e⟩:=h.qb;exact SX ⟨_,_,_,e⟩ d _
 ·rw[hW];exact QE h.pj pl.tb d _ _ _
 ·by_cases nq:k=j
  ·subst nq;rw[upd_same]at hi;cases hi;refine⟨hk,by omega,?_⟩;cases hd:done next with
   | false=>rfl
   | true=>have:=h.rN next hd;omega
  ·rw[upd_ne _ _ nq]at hi;have:=h.qx k i hi;exact⟨this.1,by omega,this.2.2⟩
 ·by_cases nq:k=j<;>by_cases pF:k'=j
  ·rw[nq,pF]
  ·subst nq;rw[upd_same]at hi;cases hi;rw[upd_ne _ _ pF]at mD;have:=(h.qx k' _ mD).2.1;omega
  ·subst pF;rw[upd_same]at mD;cases mD;rw[upd_ne _ _ nq]at hi;have:=(h.qx k _ hi).2.1;omega
  ·rw[upd_ne _ _ nq]at hi;rw[upd_ne _ _ pF]at mD;exact h.pS k k' i hi mD
 ·by_cases ez:i=next
  ·exact⟨j,by rw[upd_same,ez]⟩
  ·obtain⟨k,gO⟩:=h.pR i zo hd;refine⟨k,?_⟩;rw[upd_ne _ _ (by rintro rfl;rw[gv]at gO;cases gO)];exact gO
 ·rw[hp]at hb;cases hb;cases gY
theorem Pool.take (ok:X.Ok)(so:gX X zs SEL)(pl:eJ X Sh)(nu:E4 X.ty ow){i:Nat}{v:Value}(h:Pool X zs SEL aA Sh K ow kz next done tk ρ gs W t O)(ha:∀W1,cv (O 0) X.Z W W1→SEL next done (O 0) a0 W1)(hk:K j)(gv:tk j=some i)
  (hg:∀W1,cv (O j) X.Z W W1→X.AS i C (O j) g0 W1) (fY:∀w,stepG X.P false g0 w=.comm g0 #[scase X.cb v X.zb] true .send w #[]) (hC:mJ (O j) C) (hsz:gs'.size=gs.size) (l9:∀k,k≠j→k≠0→gs'[k]?=gs[k]?) (hp:gs'[0]?=some (a0.finishComm X.P (jy X zs next) .select 1 v true)) (hq:gs'[j]?=some (Go.Conc.served g0 undef))
  (hW:W'=(W.at d).setChan X.cb 0 #[] false (m+1) (m+1) tm) (h0:x0.g=j∧x0.act=.send X.cb m) (h1:x1.g=0∧x1.act=.recv X.cb m 0) (h2:x2.g=j∧x2.act=.sendDone X.cb m) (h3:x3.g=0∧x3.act=.recvDone X.cb m) :
  ∃ρ' O',Pool X zs SEL aA Sh K ow kz next (upd done i true) (upd tk j none) ρ' gs' W' (t++#[x0,x1,x2,x3]) O':=by
 have hj:j≠0:=by have:=(h.iR j hk).1;omega
 have ap:=h.core.apart;have ve:¬X.Z X.cb:=fun x=>ap.m9 _ x pl.cb
 obtain⟨_,ez,rS⟩:=h.qx j i gv;obtain⟨_,v',yQ,kh,hgo⟩:=ok.yo _ _ _ _ _ (hg W (.refl W));obtain⟨XY,XW,JK⟩:=nu;obtain⟨n,hgo⟩:=hgo ⟨XY,XW,h.xH.trans JK⟩
 have hv:v'=v:=by
  have:=yQ W;rw[fY W]at this;injection this with _ e
  have e:=congrArg (fun cs=>(cs[0]?).bind (·.send)) e;simp[scase]at e;exact e.symm
 subst hv;obtain⟨r0,zK⟩:=HI (((so.dv _ _ _ _ _ (ha W (.refl W))).2 (.inr ⟨i,ez,rS⟩)).2.2.2 i v' _ ez rS kh fun b hb=>⟨fun x=>ap.two 0 j b (Ne.symm hj) x hb.1,ap.shr j b hb.1⟩);have py:0<gs.size:=by have:=h.iR j hk;omega
 obtain⟨a,I1⟩:∃a,gs[0]?=some a:=⟨gs[0],Array.getElem?_eq_getElem py⟩;obtain⟨y,Ke⟩:∃a,gs[j]?=some a:=⟨gs[j]'(h.iR j hk).2,Array.getElem?_eq_getElem (h.iR j hk).2⟩;have d0:Deaf t 0=0:=((h.core.eg 0 a I1).1 rfl).1
 have dj:Deaf t j=0:=by
  obtain⟨st,hw,hc⟩:=(h.core.eg j y Ke).2 hj;rcases hc with⟨_,x⟩|⟨rfl,_⟩
  ·exact absurd hk x
  ·exact(hw.nine ok).1
 have vH:∀Oj:Nat→Prop,¬Oj X.cb→cv Oj X.Z W W':=fun Oj hn=>by rw[hW];exact G3 hn ve d _ _ false
 refine⟨upd (upd ρ 0 r0.up) j (.nat (n+1)),upd (upd O 0 fun b=>O 0 b∨(O j b∧¬eA C b)) j (eA C),⟨?_,?_,?_,fun k hk=>by rw[hsz];exact h.iR k hk,fun k i' hi=>?_,fun k k' i' hi mD=>?_,fun i' hd=>?_,fun i' hi hd=>?_,fun a hb gY=>?_,by rw[hW];exact(Uc pl zi).trans h.xH,fun b hb=>by rw[hW];exact(Uv pl ap.m9 zi hb).trans (h.zk b hb)⟩⟩
 ·refine h.core.meet (gs':=gs') hj hsz l9 hq hp pl.cb ve hW h0 h1 h2 h3 dj d0 (fun b hb=>by rw[upd_same]at hb;exact hC b hb) (fun b hb=>?_) (fun k hk h0=>by rw[upd_ne _ _ hk,upd_ne _ _ h0]) (fun k x k1 k2 hx hs hr=>⟨fun e=>absurd e k2,fun _=>?_⟩) ⟨fun e=>absurd e hj,fun _=>⟨9,?_,.inr ⟨rfl,hk⟩⟩⟩ ⟨fun _=>⟨rfl,?_⟩,fun e=>absurd rfl e⟩
  ·rw[upd_ne _ _ (Ne.symm hj),upd_same]at hb;rw[upd_same];exact hb
  ·obtain⟨st,hw,hc⟩:=hs.2 k2;refine⟨st,?_,hc⟩;rw[upd_ne _ _ k1,upd_ne _ _ k1,upd_ne _ _ k2];exact hw.rely fun _=>⟨hr,fun x=>by rw[hW];exact Ll pl (.inr rfl) x⟩
  ·rw[upd_same,upd_same,upd_same];exact .recv (Goes.rely Mf hgo (by rw[hW];exact zwL pl ap.m9 (.inr rfl) fun b hb x=>ap.sh j b (hC b hb) x)) fun b hb=>hb
  ·rw[upd_ne _ _ (Ne.symm hj),upd_ne _ _ (Ne.symm hj),upd_same,upd_same];exact .run (zK.rely (vH _ fun x=>x.elim (fun x=>ap.sh 0 _ x pl.cb) fun x=>ap.sh j _ x.1 pl.cb))
 ·rw[hW];exact QE h.qb (Ne.symm pl.tb) d _ _ _
 ·rw[hW];obtain⟨_,_,e⟩:=h.pj;exact SX ⟨_,_,_,e⟩ d _
 ·by_cases nq:k=j
  ·subst nq;rw[upd_same]at hi;cases hi
  ·rw[upd_ne _ _ nq]at hi;have:=h.qx k i' hi;refine⟨this.1,this.2.1,?_⟩;rw[upd_ne _ _ (by rintro rfl;exact nq (h.pS k j _ hi gv))];exact this.2.2
 ·by_cases nq:k=j
  ·subst nq;rw[upd_same]at hi;cases hi
  ·by_cases pF:k'=j
   ·subst pF;rw[upd_same]at mD;cases mD
   ·rw[upd_ne _ _ nq]at hi;rw[upd_ne _ _ pF]at mD;exact h.pS k k' i' hi mD
 ·by_cases e:i'=i
  ·rw[e];exact ez
  ·rw[upd_ne _ _ e]at hd;exact h.rN i' hd
 ·have e:i'≠i:=by rintro rfl;rw[upd_same]at hd;cases hd
  rw[upd_ne _ _ e]at hd;obtain⟨k,gO⟩:=h.pR i' hi hd;refine⟨k,?_⟩;rw[upd_ne _ _ (by rintro rfl;rw[gv]at gO;cases gO;exact e rfl)];exact gO
 ·rw[hp]at hb;cases hb;cases gY
end
section
variable [Payload] {X:dT}{zs:Value}{SEL:Nat→(Nat→Bool)→(Nat→Prop)→Goroutine→World→Prop}{aA:Loc→Prop}{Sh K:Nat→Prop}{ow:Option Obj}{kz:Nat→Option Obj}{next:Nat}{done:Nat→Bool}{tk:Nat→Option Nat}{ρ:Nat→Rk}{gs gs':Array Goroutine}{W W':World}{t:Trace}{O:Nat→Nat→Prop}{O':Nat→Prop}
 {sl:Option (Nat × Nat)} {i:Nat} {g g':Goroutine} {es:Array Event} {r':Rk}
omit [Payload] in
theorem Hj (hi:i<X.many)(hd:done i=false):left X (upd done i true)+1=left X done:=by
 have:=sumTo_upd done true (fun b=>if b then 0 else 1) hi;simp only[hd]at this;simpa[left]using this
theorem Pool.at (h:Pool X zs SEL aA Sh K ow kz next done tk ρ gs W t O)(d:Nat):Pool X zs SEL aA Sh K ow kz next done tk ρ gs (W.at d) t O :=
 ⟨h.core.at d fun _ _ _ hs=>⟨fun e=>⟨(hs.1 e).1,(hs.1 e).2.rely (si W d)⟩,fun e=>let ⟨st,hw,hc⟩:=hs.2 e;⟨st,hw.rely fun _=>.at W d,hc⟩⟩,let ⟨m,tm,e⟩:=h.qb;⟨m,tm,e⟩,let ⟨m,tm,e⟩:=h.pj;⟨m,tm,e⟩,h.iR,h.qx,h.pS,h.rN,h.pR,h.ko,h.xH,h.zk⟩
omit [Payload] in
theorem Qb (h1:eC X.ct W)(h2:eC X.cb W):∀cc∈jy X zs next,HO W cc:=by
 intro cc fI;simp only[jy,List.mem_toArray,List.mem_cons,List.not_mem_nil,or_false]at fI;rcases fI with rfl|rfl
 ·split
  ·obtain⟨m,tm,e⟩:=h1;exact .inr ⟨X.ct,m,tm,rfl,e⟩
  ·exact .inl rfl
 ·obtain⟨m,tm,e⟩:=h2;exact .inr ⟨X.cb,m,tm,rfl,e⟩
theorem Pool.iK (ok:X.Ok){Oj:Nat→Prop}{j:Nat}{x:Goroutine}{d:Nat}(h1:eC X.ct W')(h2:eC X.cb W')(hs:Nr X zs SEL K next done tk ρ j d Oj x W)(hr:j=0→x.status=.running∨∃g0,x=parked g0 (jy X zs next) .select)(a a':Goroutine):Go.Conc.woken X.P a a' W' x=x:=by
 by_cases hj:j=0
 ·rcases hr hj with h | ⟨g0,rfl⟩
  ·exact woken_run h
  ·exact rq (KX (Qb h1 h2))
 ·obtain⟨st,hw,_⟩:=hs.2 hj;exact hw.woken ok (fun _=>h1) (fun _=>h2) a a'
theorem Pool.own (ok:X.Ok)(h:Pool X zs SEL aA Sh K ow kz next done tk ρ gs W t O)(hz:∀x,gs[0]?=some x→x.status=.running∨∃g0,x=parked g0 (jy X zs next) .select)(hi:gs[i]?=some g)(hg:i=0∨K i)(hf:gr Sh X.Z (O i) O' i W W' es)(gN:deafBehind 0 es=0)(DN:W'.heap[X.Wg]?=W.heap[X.Wg]?)(h1:eC X.ct W')(h2:eC X.cb W')
  (jG:i=0→SS X zs SEL next done r' O' g' W') (eE:i≠0→WS X 9 (tk i) r' 0 O' g' W') (f7:g'.status≠.blocked) (hd:Deaf t i=0) (fn:FuncId) (pos:String) :
  Pool X zs SEL aA Sh K ow kz next done tk (upd ρ i r') ((gs.map (Go.Conc.woken X.P g g' W')).setIfInBounds i g') W' (t++MemOp.ofEvents i fn pos es) (upd O i O'):=by
 have ky:WgLive X.ty X.Wg W→WgLive X.ty X.Wg W':=fun⟨st,sm,x⟩=>⟨st,sm,DN.trans x⟩
 have z0:∀j x,gs[j]?=some x→Go.Conc.woken X.P g g' W' x=x:=fun j x hx=>Pool.iK ok h1 h2 (h.core.eg j x hx) (fun e=>hz x (by subst e;exact hx)) g g'
 have tt:∀j,j≠i→((gs.map (Go.Conc.woken X.P g g' W')).setIfInBounds i g')[j]?=gs[j]?:=fun j hj=>by
  rw[Array.getElem?_setIfInBounds_ne (Ne.symm hj),Array.getElem?_map];cases hx:gs[j]? with
  | none=>rfl
  | some x=>simp[z0 j x hx]
 have aQ:i<gs.size:=(Array.getElem?_eq_some_iff.1 hi).1;have og:((gs.map (Go.Conc.woken X.P g g' W')).setIfInBounds i g')[i]?=some g':=Array.getElem?_setIfInBounds_self_of_lt (by simpa using aQ);refine⟨h.core.own (Sit':=Nr X zs SEL K next done tk (upd ρ i r')) hi hg hf (fun j x hj hx hs hr=>?_) ⟨fun e=>?_,fun e=>?_⟩ fn pos,h1,h2,fun j hj=>by simpa using h.iR j hj,h.qx,h.pS,h.rN,h.pR,fun a ha hb j x hj hx lU=>?_,DN.trans h.xH,fun b hb=>(hf.keep b (h.core.apart.mf b hb) (fun x=>h.core.apart.shr i b x hb) (h.core.apart.m9 b hb)).trans (h.zk b hb)⟩
 ·rw[z0 j x hx];refine⟨fun e=>⟨(hs.1 e).1,?_⟩,fun e=>?_⟩
  ·subst e;rw[upd_ne _ _ hj];exact(hs.1 rfl).2.rely hr
  ·obtain⟨st,hw,hc⟩:=hs.2 e;refine⟨st,?_,hc⟩;rw[upd_ne _ _ hj];exact hw.rely fun _=>⟨hr,ky⟩
 ·subst e;rw[upd_same,hd];exact⟨gN,jG rfl⟩
 ·refine⟨9,?_,.inr ⟨rfl,hg.resolve_left e⟩⟩;rw[upd_same,hd,gN];exact eE e
 ·by_cases dz:i=0
  ·subst dz;rw[og]at ha;cases ha;exact absurd hb f7
  ·rw[tt 0 (Ne.symm dz)]at ha;by_cases eQ:j=i
   ·subst eQ;rw[og]at hx;cases hx;exact absurd lU f7
   ·rw[tt j eQ]at hx;exact h.ko a ha hb j x hj hx lU
theorem Pool.put (h:Pool X zs SEL aA Sh K ow kz next done tk ρ gs W t O)(hi:gs[i]?=some g)(hg:i=0∨K i)(jG:i=0→SS X zs SEL next done r' (O 0) g' W)(eE:i≠0→WS X 9 (tk i) r' 0 (O i) g' W)(hd:Deaf t i=0)
  (hp:∀a,(gs.setIfInBounds i g')[0]?=some a→a.status=.blocked→∀j x,j≠0→(gs.setIfInBounds i g')[j]?=some x→x.status=.blocked→next=X.many∧tk j=none) :
  Pool X zs SEL aA Sh K ow kz next done tk (upd ρ i r') (gs.setIfInBounds i g') W t O:=by
 refine⟨h.core.put hi (fun j x hj hx hs=>⟨fun e=>⟨(hs.1 e).1,?_⟩,fun e=>?_⟩) ⟨fun e=>?_,fun e=>?_⟩,h.qb,h.pj,fun j hj=>by simpa using h.iR j hj,h.qx,h.pS,h.rN,h.pR,hp,h.xH,h.zk⟩
 ·subst e;rw[upd_ne _ _ hj];exact(hs.1 rfl).2
 ·obtain⟨st,hw,hc⟩:=hs.2 e;exact⟨st,by rw[upd_ne _ _ hj];exact hw,hc⟩
 ·subst e;rw[upd_same];exact⟨hd,jG rfl⟩
 ·refine⟨9,?_,.inr ⟨rfl,hg.resolve_left e⟩⟩;rw[upd_same,hd];exact eE e
def Nt (X:dT)(zs:Value)(SEL:Nat→(Nat→Bool)→(Nat→Prop)→Goroutine→World→Prop)(aA:Loc→Prop)(Sh K:Nat→Prop)(ow:Option Obj)(kz:Nat→Option Obj)(next:Nat)(done:Nat→Bool)(ρ:Nat→Rk)(n:Nat)(t:Trace)(m':Machine)(ops:Trace):Prop :=
 ∃next' ku ρ' F7 gs' W' O' eI,m'=crowd gs' W' eI∧gs'.size=n∧Pool X zs SEL aA Sh K ow kz next' ku F7 ρ' gs' W' (t++ops) O'∧((next'=next∧ku=done∧Dec n ρ' ρ)∨(X.many-next')+left X ku<(X.many-next)+left X done)
omit [Payload] in
theorem xJ {g1:Goroutine}{c1:Array CommCase}{s1:CommShape}{cs:Array CommCase}{sh:CommShape}(h:(parked g1 c1 s1).offers=some (cs,sh)):cs=c1∧sh=s1:=by
 simp only[parked,Option.some.injEq,Prod.mk.injEq]at h;exact⟨h.1.symm,h.2.symm⟩
theorem Pool.worker (ok:X.Ok)(so:gX X zs SEL)(pl:eJ X Sh)(nu:E4 X.ty ow)(h:Pool X zs SEL aA Sh K ow kz next done tk ρ gs W t O){a:Goroutine}(h0:gs[0]?=some a)(hS:a.status=.running∨∃g0,a=parked g0 (jy X zs next) .select∧(∀W1,cv (O 0) X.Z W W1→SEL next done (O 0) g0 W1)∧(next<X.many∨∃i,i<next∧done i=false))
  (dz:i≠0) (hi:gs[i]?=some g) (cm:g.status=.running):∃m' ops,runT X.P (crowd gs W sl) i=(.next m',ops)∧Nt X zs SEL aA Sh K ow kz next done ρ gs.size t m' ops:=by
 have lB:(i == 0)=false:=by simpa using dz
 have aQ:i<gs.size:=(Array.getElem?_eq_some_iff.1 hi).1;have ap:=h.core.apart
 have hz:∀x,gs[0]?=some x→x.status=.running∨∃g0,x=parked g0 (jy X zs next) .select:=fun x hx=>by
  rw[h0]at hx;cases hx;exact hS.imp id fun⟨g0,e,_⟩=>⟨g0,e⟩
 obtain⟨st,hw,hc⟩:=(h.core.eg i g hi).2 dz;cases gv:tk i with
 | none =>
  rw[gv]at hw;rcases hw.next ok (hc.elim (fun x=>.inl x.1) (fun x=>.inr x.1)) cm with⟨g',es,r',e,eT,f8,f7,h1,h9⟩|⟨rfl,hd,C,g0,r',um,fY,uk,eT⟩
  ·refine⟨_,_,runT_crowd_go (P:=X.P) (sl:=sl) (i:=i) hi (by rw[lB];exact e),next,done,upd ρ i r',tk,_,W,O,sl,rfl,by simp,?_,.inl ⟨rfl,rfl,.of aQ eT⟩⟩;rcases hc with⟨rfl,hk⟩|⟨rfl,hk⟩
   ·have z0:∀j x,gs[j]?=some x→Go.Conc.woken X.P g g' W x=x:=fun j x hx=>Pool.iK ok h.qb h.pj (h.core.eg j x hx) (fun e=>hz x (by subst e;exact hx)) g g'
    have tt:∀j,j≠i→((gs.map (Go.Conc.woken X.P g g' W)).setIfInBounds i g')[j]?=gs[j]?:=fun j hj=>by
     rw[Array.getElem?_setIfInBounds_ne (Ne.symm hj),Array.getElem?_map];cases hx:gs[j]? with
     | none=>rfl
     | some x=>simp[z0 j x hx]
    refine⟨h.core.slip hi (h1 rfl) (fun j x hj hx hs=>?_) ⟨fun e=>absurd e dz,fun _=>⟨1,by rw[upd_same,gv];exact f8,.inl ⟨rfl,hk⟩⟩⟩ _ _,h.qb,h.pj,fun j hj=>by simpa using h.iR j hj,h.qx,h.pS,h.rN,h.pR,fun a' ha hb j x hj hx lU=>?_,h.xH,h.zk⟩
    ·rw[z0 j x hx];refine⟨fun e=>⟨(hs.1 e).1,?_⟩,fun e=>?_⟩
     ·subst e;rw[upd_ne _ _ hj];exact(hs.1 rfl).2
     ·obtain⟨st,hw,hc⟩:=hs.2 e;exact⟨st,by rw[upd_ne _ _ hj];exact hw,hc⟩
    ·rw[tt 0 (Ne.symm dz)]at ha;by_cases eQ:j=i
     ·subst eQ;rw[Array.getElem?_setIfInBounds_self_of_lt (by simpa using aQ)]at hx;cases hx;exact absurd lU f7
     ·rw[tt j eQ]at hx;exact h.ko a' ha hb j x hj hx lU
   ·have hd:=(hw.nine ok).1;rw[hd]at f8;have qh:deafBehind 0 es=0:=vO (h9 rfl) 0;rw[qh]at f8;have:=h.own (O':=O i) ok hz hi (.inr hk) (.still (fun b hb=>ap.lo i b hb) (h9 rfl)) qh rfl h.qb h.pj (fun e=>absurd e dz) (fun _=>by rw[gv];exact f8) f7 hd g.frame.fn g.frame.place
    rwa [vS]at this
  ·have hk:K i:=hc.elim (fun x=>by omega) (·.2);obtain⟨mt,X4,mB⟩:=h.qb;rcases Hc (P:=X.P) (sl:=sl) (i:=i) hi (by rw[lB];exact fY W) (fun cc fI=>by simp at fI;subst fI;exact .inr ⟨X.ct,mt,X4,rfl,mB⟩) with⟨uy,hr⟩|⟨gs',w',u,⟨k,cc,c,m',Ed,j,gj,kK,vJ,k',ng,d',x0,x1,x2,x3,tz,fI,yV,eQ,hj,hb,ho,gO,jE,hs,fJ,f8,hu,e0,e1,e2,e3⟩,Bm⟩
   ·refine⟨_,_,hr,next,done,upd ρ i r',tk,_,W,O,sl,rfl,by simp,?_,.inl ⟨rfl,rfl,.of aQ eT⟩⟩;rw[vP,Array.append_empty];refine h.put hi (.inr hk) (fun e=>absurd e dz) (fun _=>by rw[gv];exact .iH uk um) hd fun a' ha hb j x hj hx lU=>?_
    rw[Array.getElem?_setIfInBounds_ne dz]at ha;by_cases eQ:j=i
    ·subst eQ;refine⟨?_,gv⟩;rcases hz a' ha with tI | ⟨g1,rfl⟩
     ·rw[tI]at hb;cases hb
     ·by_cases pG:next<X.many
      ·exfalso;have:=uy (rcase X.ct X.zt) zi X.ct rfl 0 _ (Ne.symm dz) ha;have hm:=GG (h:=parked g1 (jy X zs next) .select) (k:=0) (r:=X.ct) (cc:=scase X.ct (.int .i64 next) zs) hb rfl (by simp[jy,pG]) rfl;have e':offersAt (parked g1 (jy X zs next) .select) X.ct true=[]:=this;have tC:0∈offersAt (parked g1 (jy X zs next) .select) X.ct true:=hm;rw[e']at tC;cases tC
      ·rw[h0]at ha;cases ha;rcases hS with hS | ⟨g2,e2,ff,_⟩
       ·cases hS
       ·have:=(so.dv _ _ _ _ _ (ff W (.refl W))).1;omega
    ·rw[Array.getElem?_setIfInBounds_ne (Ne.symm eQ)]at hx;exact h.ko a' ha hb j x hj hx lU
   ·obtain⟨_,rfl⟩:=xP rfl tz;have yS:c=X.ct:=by injection fI with e;injection e with e;exact e.symm
    subst yS;by_cases kx:j=0
    ·subst kx;rw[h0]at hj;cases hj;rcases hS with tI | ⟨g1,rfl,ff,hgo⟩
     ·rw[tI]at hb;cases hb
     ·obtain⟨rfl,rfl⟩:=xJ ho
      have Jr:k'=0∧next<X.many∧ng=scase X.ct (.int .i64 next) zs:=by
       rcases G6 gO with⟨rfl,rfl⟩|⟨_,rfl⟩
       ·by_cases pG:next<X.many
        ·rw[if_pos pG];exact⟨rfl,pG,rfl⟩
        ·rw[if_neg pG]at jE;cases jE
       ·cases hs
      obtain⟨rfl,pG,rfl⟩:=Jr;have cj:(0:Nat)≠i:=Ne.symm dz;have ze:0<gs.size:=(Array.getElem?_eq_some_iff.1 h0).1;have yv:x0.g=0∧x0.act=.send X.ct m':=e0;have yw:x1.g=i∧x1.act=.recv X.ct m' 0:=e1;have yx:x2.g=0∧x2.act=.sendDone X.ct m':=e2;have yy:x3.g=i∧x3.act=.recvDone X.ct m':=e3
      obtain⟨ρ',O',hP⟩:=h.give (gs':=gs') ok so pl nu pG ff hk gv uk um (by rw[fJ];simp) (fun k k0 ki=>by rw[fJ,Array.getElem?_setIfInBounds_ne (Ne.symm ki),Array.getElem?_setIfInBounds_ne (Ne.symm k0)])
       (by rw[fJ,Array.getElem?_setIfInBounds_ne dz,Array.getElem?_setIfInBounds_self_of_lt ze];rfl) (by rw[fJ,Array.getElem?_setIfInBounds_self_of_lt (by simpa using aQ)];rfl) f8 yv yw yx yy
      refine⟨_,_,Bm,next+1,done,ρ',upd tk i (some next),gs',w',O',sl,rfl,by rw[fJ];simp,?_,.inr zo⟩;rw[vP,Array.empty_append,hu];exact hP
    ·exfalso;obtain⟨KE,gw,fT⟩:=(h.core.eg j gj hj).2 kx;rcases fT with⟨rfl,_⟩|⟨rfl,_⟩
     ·exact absurd hb gw.one
     ·rcases (gw.nine ok).2 with e | ⟨_,C2,g2,rfl,_⟩|⟨i2,C2,v2,g2,_,rfl,_⟩
      ·rw[e]at hb;cases hb
      ·obtain⟨rfl,_⟩:=xJ ho;obtain⟨_,rfl⟩:=xP rfl gO;cases hs
      ·obtain⟨rfl,_⟩:=xJ ho;obtain⟨_,rfl⟩:=xP rfl gO;injection jE with e
       injection e with e
       exact pl.tb e.symm
 | some ti =>
  rw[gv]at hw;have hk:K i:=(h.qx i ti gv).1;obtain⟨rfl,hd,ib⟩:=hw.q8 ok cm;rcases ib with⟨g',W',es,r',e,iP,eT,f8,tJ⟩|⟨C,v,r',Fx,fY,um,eT⟩
  ·have tU:∀b,Sh b→W'.heap[b]?=W.heap[b]?:=fun b hb=>iP.keep b (ap.tR b hb) fun x=>ap.sh i b x hb
   have:=h.own (W':=W') (O':=fQ (O i) W W') (r':=r') ok hz hi (.inr hk) (.of iP fun b hb=>ap.lo i b hb) (vO iP.evs 0) (tU _ pl.wg)
    (let ⟨m,tm,x⟩:=h.qb;⟨m,tm,(tU _ pl.ct).trans x⟩) (let ⟨m,tm,x⟩:=h.pj;⟨m,tm,(tU _ pl.cb).trans x⟩) (fun e=>absurd e dz) (fun _=>by rw[gv];exact f8) (by rw[tJ];simp) hd g.frame.fn g.frame.place
   exact⟨_,_,runT_crowd_go (P:=X.P) (sl:=sl) (i:=i) hi (by rw[lB];exact e),next,done,upd ρ i r',tk,_,W',_,sl,rfl,by simp,this,.inl ⟨rfl,rfl,.of aQ eT⟩⟩
  ·obtain⟨mb,X3,lR⟩:=h.pj;rcases Hc (P:=X.P) (sl:=sl) (i:=i) hi (by rw[lB];exact fY W) (fun cc fI=>by simp at fI;subst fI;exact .inr ⟨X.cb,mb,X3,rfl,lR⟩) with⟨uy,hr⟩|⟨gs',w',u,⟨k,cc,c,m',Ed,j,gj,kK,vJ,k',ng,d',x0,x1,x2,x3,tz,fI,yV,eQ,hj,hb,ho,gO,jE,hs,fJ,f8,hu,e0,e1,e2,e3⟩,Bm⟩
   ·refine⟨_,_,hr,next,done,upd ρ i r',tk,_,W,O,sl,rfl,by simp,?_,.inl ⟨rfl,rfl,.of aQ eT⟩⟩;rw[vP,Array.append_empty];refine h.put hi (.inr hk) (fun e=>absurd e dz) (fun _=>by rw[gv];exact .iI Fx fY um) hd fun a' ha hb j x hj hx lU=>?_
    rw[Array.getElem?_setIfInBounds_ne dz]at ha;exfalso;rcases hz a' ha with tI | ⟨g1,rfl⟩
    ·rw[tI]at hb;cases hb
    ·have:=uy (scase X.cb v X.zb) zi X.cb rfl 0 _ (Ne.symm dz) ha;have hm:=GG (h:=parked g1 (jy X zs next) .select) (k:=1) (r:=X.cb) (cc:=rcase X.cb X.zr) hb rfl (by simp[jy]) rfl;have e':offersAt (parked g1 (jy X zs next) .select) X.cb false=[]:=this;have tC:1∈offersAt (parked g1 (jy X zs next) .select) X.cb false:=hm;rw[e']at tC;cases tC
   ·obtain⟨_,rfl⟩:=xP rfl tz;have yM:c=X.cb:=by injection fI with e;injection e with e;exact e.symm
    subst yM;by_cases kx:j=0
    ·subst kx;rw[h0]at hj;cases hj;rcases hS with tI | ⟨g1,rfl,ff,hgo⟩
     ·rw[tI]at hb;cases hb
     ·obtain⟨rfl,rfl⟩:=xJ ho
      have Jr:k'=1∧ng=rcase X.cb X.zr:=by
       rcases G6 gO with⟨_,rfl⟩|⟨rfl,rfl⟩
       ·split at hs<;>cases hs
       ·exact⟨rfl,rfl⟩
      obtain⟨rfl,rfl⟩:=Jr;have cj:(0:Nat)≠i:=Ne.symm dz;have ze:0<gs.size:=(Array.getElem?_eq_some_iff.1 h0).1;obtain⟨_,ez,rS⟩:=h.qx i ti gv;have tD:ti<X.many:=Nat.lt_of_lt_of_le ez (so.dv _ _ _ _ _ (ff W (.refl W))).1;have yv:x0.g=i∧x0.act=.send X.cb m':=e0;have yw:x1.g=0∧x1.act=.recv X.cb m' 0:=e1;have yx:x2.g=i∧x2.act=.sendDone X.cb m':=e2;have yy:x3.g=0∧x3.act=.recvDone X.cb m':=e3
      obtain⟨ρ',O',hP⟩:=h.take (gs':=gs') ok so pl nu ff hk gv Fx (fun w=>by rw[stepG_same (h:=g) rfl rfl rfl];exact fY w) um (by rw[fJ];simp) (fun k ki k0=>by rw[fJ,Array.getElem?_setIfInBounds_ne (Ne.symm ki),Array.getElem?_setIfInBounds_ne (Ne.symm k0)])
       (by rw[fJ,Array.getElem?_setIfInBounds_ne dz,Array.getElem?_setIfInBounds_self_of_lt ze];rfl) (by rw[fJ,Array.getElem?_setIfInBounds_self_of_lt (by simpa using aQ)];rfl) f8 yv yw yx yy
      refine⟨_,_,Bm,next,upd done ti true,ρ',upd tk i none,gs',w',O',sl,rfl,by rw[fJ];simp,?_,.inr (by have:=Hj (X:=X) tD rS;omega)⟩;rw[vP,Array.empty_append,hu];exact hP
    ·exfalso;obtain⟨KE,gw,fT⟩:=(h.core.eg j gj hj).2 kx;rcases fT with⟨rfl,_⟩|⟨rfl,_⟩
     ·exact absurd hb gw.one
     ·rcases (gw.nine ok).2 with e | ⟨_,C2,g2,rfl,_⟩|⟨i2,C2,v2,g2,_,rfl,_⟩
      ·rw[e]at hb;cases hb
      ·obtain⟨rfl,_⟩:=xJ ho;obtain⟨_,rfl⟩:=xP rfl gO;injection jE with e
       injection e with e
       exact pl.tb e
      ·obtain⟨rfl,_⟩:=xJ ho;obtain⟨_,rfl⟩:=xP rfl gO;cases hs
theorem Pool.jP (ok:X.Ok)(so:gX X zs SEL)(pl:eJ X Sh)(nu:E4 X.ty ow)(h:Pool X zs SEL aA Sh K ow kz next done tk ρ gs W t O){a:Goroutine}(h0:gs[0]?=some a)(cm:a.status=.running)
  (hv:((∀W1,cv (O 0) X.Z W W1→SEL next done (O 0) a W1)∧(next<X.many∨∃i,i<next∧done i=false)∧∃r',Rk.Sub r' (ρ 0))∨∃g' W' es r',stepG X.P true a W=.go g' W' es∧iW (O 0) X.Z W W' es∧Rk.Sub r'.up (ρ 0)∧ji X.P true X.Z (SEL next done) r' (fQ (O 0) W W') g' W'∧g'.status≠.blocked) :
  ∃m' ops,runT X.P (crowd gs W sl) 0=(.next m',ops)∧Nt X zs SEL aA Sh K ow kz next done ρ gs.size t m' ops:=by
 have aQ:0<gs.size:=(Array.getElem?_eq_some_iff.1 h0).1;have ap:=h.core.apart;have hd:Deaf t 0=0:=((h.core.eg 0 a h0).1 rfl).1;rcases hv with⟨ff,hgo,r',eT⟩|⟨g',W',es,r',e,iP,eT,f8,f7⟩
 ·obtain⟨_,fY,Ob,xm⟩:=(so.dv _ _ _ _ _ (ff W (.refl W))).2 hgo;rcases Hc (P:=X.P) (sl:=sl) (i:=0) h0 (fY W) (Qb h.qb h.pj) with⟨uy,hr⟩|⟨gs',w',u,⟨k,cc,c,m',Ed,j,gj,kK,vJ,k',ng,d',x0,x1,x2,x3,tz,fI,yV,eQ,hj,hb,ho,gO,jE,hs,fJ,f8,hu,e0,e1,e2,e3⟩,Bm⟩
  ·refine⟨_,_,hr,next,done,upd ρ 0 r',tk,_,W,O,sl,rfl,by simp,?_,.inl ⟨rfl,rfl,.of aQ eT⟩⟩;rw[vP,Array.append_empty];refine h.put h0 (.inl rfl) (fun _=>.ko ff fY hgo) (fun e=>absurd rfl e) hd fun a' ha hb j x hj hx lU=>?_
   rw[Array.getElem?_setIfInBounds_ne (Ne.symm hj)]at hx;obtain⟨KE,gw,fT⟩:=(h.core.eg j x hx).2 hj;rcases fT with⟨rfl,_⟩|⟨rfl,_⟩
   ·exact absurd lU gw.one
   ·rcases (gw.nine ok).2 with e | ⟨hn,C2,g2,rfl,_⟩|⟨i2,C2,v2,g2,_,rfl,_⟩
    ·rw[e]at lU;cases lU
    ·refine⟨?_,hn⟩;by_cases pG:next<X.many
     ·exfalso;have:=uy (scase X.ct (.int .i64 next) zs) (by simp[jy,pG]) X.ct rfl j _ hj hx;have hm:=GG (h:=parked g2 #[rcase X.ct X.zt] (.recv true)) (k:=0) (r:=X.ct) (cc:=rcase X.ct X.zt) lU rfl rfl rfl;have e':offersAt (parked g2 #[rcase X.ct X.zt] (.recv true)) X.ct false=[]:=this;have tC:0∈offersAt (parked g2 #[rcase X.ct X.zt] (.recv true)) X.ct false:=hm;rw[e']at tC;cases tC
     ·have:=(so.dv _ _ _ _ _ (ff W (.refl W))).1;omega
    ·exfalso;have:=uy (rcase X.cb X.zr) (by simp[jy]) X.cb rfl j _ hj hx;have hm:=GG (h:=parked g2 #[scase X.cb v2 X.zb] .send) (k:=0) (r:=X.cb) (cc:=scase X.cb v2 X.zb) lU rfl rfl rfl;have e':offersAt (parked g2 #[scase X.cb v2 X.zb] .send) X.cb true=[]:=this;have tC:0∈offersAt (parked g2 #[scase X.cb v2 X.zb] .send) X.cb true:=hm;rw[e']at tC;cases tC
  ·obtain⟨KE,gw,fT⟩:=(h.core.eg j gj hj).2 eQ;rcases fT with⟨rfl,_⟩|⟨rfl,nq⟩
   ·exact absurd hb gw.one
   ·have C9:j<gs.size:=(h.iR j nq).2;rcases (gw.nine ok).2 with e | ⟨hn,C2,g2,rfl,uk,yE⟩|⟨i2,C2,v2,g2,Ow,rfl,Fx,Jd,yE⟩
    ·rw[e]at hb;cases hb
    ·obtain⟨rfl,rfl⟩:=xJ ho;obtain⟨rfl,rfl⟩:=xP rfl gO;have yS:c=X.ct:=by injection jE with e;injection e with e;exact e.symm
     subst yS;rcases G6 tz with⟨rfl,rfl⟩|⟨_,rfl⟩
     ·by_cases pG:next<X.many
      ·rw[if_pos pG]at fJ e0 e1 e2 e3;have yv:x0.g=0∧x0.act=.send X.ct m':=e0;have yw:x1.g=j∧x1.act=.recv X.ct m' 0:=e1;have yx:x2.g=0∧x2.act=.sendDone X.ct m':=e2;have yy:x3.g=j∧x3.act=.recvDone X.ct m':=e3
       obtain⟨ρ',O',hP⟩:=h.give (gs':=gs') ok so pl nu pG ff nq hn uk yE (by rw[fJ];simp) (fun k k0 ki=>by rw[fJ,Array.getElem?_setIfInBounds_ne (Ne.symm k0),Array.getElem?_setIfInBounds_ne (Ne.symm ki)])
        (by rw[fJ,Array.getElem?_setIfInBounds_self_of_lt (by simpa using aQ)];rfl) (by rw[fJ,Array.getElem?_setIfInBounds_ne (Ne.symm eQ),Array.getElem?_setIfInBounds_self_of_lt C9];rfl) f8 yv yw yx yy
       refine⟨_,_,Bm,next+1,done,ρ',upd tk j (some next),gs',w',O',sl,rfl,by rw[fJ];simp,?_,.inr zo⟩;rw[vP,Array.empty_append,hu];exact hP
      ·rw[if_neg pG]at fI;cases fI
     ·exfalso;injection fI with e
      injection e with e
      exact pl.tb e.symm
    ·obtain⟨rfl,rfl⟩:=xJ ho;obtain⟨rfl,rfl⟩:=xP rfl gO;have yM:c=X.cb:=by injection jE with e;injection e with e;exact e.symm
     subst yM;rcases G6 tz with⟨rfl,rfl⟩|⟨rfl,rfl⟩
     ·exfalso;split at fI
      ·injection fI with e
       injection e with e
       exact pl.tb e
      ·cases fI
     ·obtain⟨_,ez,rS⟩:=h.qx j i2 Ow;have tD:i2<X.many:=Nat.lt_of_lt_of_le ez (so.dv _ _ _ _ _ (ff W (.refl W))).1;have yv:x0.g=j∧x0.act=.send X.cb m':=e0;have yw:x1.g=0∧x1.act=.recv X.cb m' 0:=e1;have yx:x2.g=j∧x2.act=.sendDone X.cb m':=e2;have yy:x3.g=0∧x3.act=.recvDone X.cb m':=e3
      obtain⟨ρ',O',hP⟩:=h.take (gs':=gs') ok so pl nu ff nq Ow Fx Jd yE (by rw[fJ];simp) (fun k ki k0=>by rw[fJ,Array.getElem?_setIfInBounds_ne (Ne.symm k0),Array.getElem?_setIfInBounds_ne (Ne.symm ki)])
       (by rw[fJ,Array.getElem?_setIfInBounds_self_of_lt (by simpa using aQ)];rfl) (by rw[fJ,Array.getElem?_setIfInBounds_ne (Ne.symm eQ),Array.getElem?_setIfInBounds_self_of_lt C9];rfl) f8 yv yw yx yy
      refine⟨_,_,Bm,next,upd done i2 true,ρ',upd tk j none,gs',w',O',sl,rfl,by rw[fJ];simp,?_,.inr (by have:=Hj (X:=X) tD rS;omega)⟩;rw[vP,Array.empty_append,hu];exact hP
 ·have tU:∀b,Sh b→W'.heap[b]?=W.heap[b]?:=fun b hb=>iP.keep b (ap.tR b hb) fun x=>ap.sh 0 b x hb
  have:=h.own (W':=W') (O':=fQ (O 0) W W') (r':=r'.up) ok (fun x hx=>by rw[h0]at hx;cases hx;exact .inl cm) h0 (.inl rfl) (.of iP fun b hb=>ap.lo 0 b hb) (vO iP.evs 0) (tU _ pl.wg)
   (let ⟨m,tm,x⟩:=h.qb;⟨m,tm,(tU _ pl.ct).trans x⟩) (let ⟨m,tm,x⟩:=h.pj;⟨m,tm,(tU _ pl.cb).trans x⟩) (fun _=>.run f8) (fun e=>absurd rfl e) f7 hd a.frame.fn a.frame.place
  exact⟨_,_,runT_crowd_go (P:=X.P) (sl:=sl) (i:=0) h0 e,next,done,upd ρ 0 r'.up,tk,_,W',_,sl,rfl,by simp,this,.inl ⟨rfl,rfl,.of aQ eT⟩⟩
end
end Pool
end Go.Proofs.YtggfpjldhglmeaaGreatDoor