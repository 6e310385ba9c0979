/-
  Texts of this claim, joined: Shelf, ShelfC, PolicyT, Dec, CutS, RuleS, TextS, PktS, ShelfD, RefRead, PolicyR, RefReadB, RefReadC, PktA, PktB, PktD, PktE, PktF, RefPkt.
-/
import Derived.Test.YtcioicoedmmkhaaGreatDoorPacketCodesB
import Derived.Shelf.Strings.Builder1
import Derived.Shelf.Strings.Builder2
import Derived.Shelf.Strings.OnBuilder
import Derived.Shelf.Strconv.Atoi
import Derived.Shelf.Strconv.Itoa0
import Derived.Shelf.Strconv.Itoa1
import Derived.Shelf.LaysM
import Derived.Shelf.Strconv.Itoa2
import Derived.Shelf.Strconv.Itoa3
import Derived.Shelf.Strconv.AtoiErrFast
import Derived.Shelf.Strconv.ParseIntEmpty
import Derived.Shelf.Strconv.AtoiFail
import Derived.Shelf.Strconv.Clone
import Derived.Shelf.Strconv.SyntaxError
import Derived.Shelf.LaysC
import Derived.Shelf.Strconv.ToError
import Derived.Shelf.Strconv.AtoiErr
import Derived.Shelf.Strconv.ErrVar
import Derived.Shelf.Strconv.Lower
import Derived.Shelf.Strconv.ParseUint10
import Derived.Shelf.Strconv.ParseUint10Empty
import Derived.Shelf.Strconv.ParseUint10Any
import Derived.Shelf.Strconv.ParseInt10
import Derived.Shelf.Strconv.AtoiLong
import Derived.Shelf.Strconv.AtoiInnerAll
import Derived.Shelf.Strconv.RangeError
import Derived.Shelf.Strconv.ToErrorRange
import Derived.Shelf.Strconv.AtoiAll
import Derived.Shelf.Strconv.ErrVarAll
import Derived.Shelf.Strings.Search1
import Derived.Shelf.Strings.Search2
import Derived.Shelf.Strings.Search3
import Derived.Shelf.Strings.Cut
import Derived.Shelf.Strings.Count
import Derived.Shelf.Strings.Shaped
import Derived.Shelf.Strings.Prefix
import Derived.Shelf.Strings.Split
import Derived.Shelf.Unicode.DecodeSlow
import Derived.Test.YtcioicoedmmkhaaGreatDoorProg
import Derived.Lib.LaidTab
import Derived.Lib.ItoaLen
import Derived.Lib.AtoiAll
import Derived.Lib.SplitLaws
import Derived.Lib.AtoiAllCases

namespace Go.Proofs
open Go.Shelf
def Tryz.lays156_ren : Go.Shelf.Ren := ⟨fun | 156 => 58 | 165 => 81 | 166 => 82 | 169 => 83 | 240 => 97 | 241 => 98 | 276 => 108 | 277 => 109 | n => n, fun | 31 => 66 | 9 => 9 | 3 => 3 | 4 => 4 | 0 => 0 | 20 => 20 | 72 => 131 | 76 => 98 | 70 => 129 | 37 => 103 | 75 => 28 | 127 => 158 | 164 => 112 | 5 => 5 | 80 => 133 | n => n, fun | n => n⟩
theorem Tryz.lays156 : Go.Proofs.Lays.n156 Tryz.prog Tryz.lays156_ren := {
  mixed := by kernel_rfl
  f156 := Tryz.func58.trans (congrArg some (by kernel_rfl))
  f165 := Tryz.func81.trans (congrArg some (by kernel_rfl))
  f166 := Tryz.func82.trans (congrArg some (by kernel_rfl))
  f169 := Tryz.func83.trans (congrArg some (by kernel_rfl))
  f240 := Tryz.func97.trans (congrArg some (by kernel_rfl))
  f241 := Tryz.func98.trans (congrArg some (by kernel_rfl))
  f276 := Tryz.func108.trans (congrArg some (by kernel_rfl))
  f277 := Tryz.func109.trans (congrArg some (by kernel_rfl))
  t0 := Tryz.underlying0
  a0 := Tryz.isAgg0
  z0 := Tryz.sizeOf0
  v0 := Tryz.zeroValue0
  t3 := Tryz.underlying3
  a3 := Tryz.isAgg3
  z3 := Tryz.sizeOf3
  v3 := Tryz.zeroValue3
  t4 := Tryz.underlying4
  a4 := Tryz.isAgg4
  z4 := Tryz.sizeOf4
  v4 := Tryz.zeroValue4
  t9 := Tryz.underlying9
  a9 := Tryz.isAgg9
  z9 := Tryz.sizeOf9
  v9 := Tryz.zeroValue9
  t20 := Tryz.underlying20
  a20 := Tryz.isAgg20
  z20 := Tryz.sizeOf20
  v20 := Tryz.zeroValue20
  t31 := Tryz.underlying66
  a31 := Tryz.isAgg66
  z31 := Tryz.sizeOf66
  v31 := Tryz.zeroValue66
  t37 := Tryz.underlying103
  a37 := Tryz.isAgg103
  z37 := Tryz.sizeOf103
  v37 := Tryz.zeroValue103
  t70 := Tryz.underlying129
  a70 := Tryz.isAgg129
  z70 := Tryz.sizeOf129
  v70 := Tryz.zeroValue129
  t72 := Tryz.underlying131
  a72 := Tryz.isAgg131
  z72 := Tryz.sizeOf131
  v72 := Tryz.zeroValue131
  t75 := Tryz.underlying28
  a75 := Tryz.isAgg28
  z75 := Tryz.sizeOf28
  v75 := Tryz.zeroValue28
  t76 := Tryz.underlying98
  a76 := Tryz.isAgg98
  z76 := Tryz.sizeOf98
  v76 := Tryz.zeroValue98
  t127 := Tryz.underlying158
  a127 := Tryz.isAgg158
  z127 := Tryz.sizeOf158
  v127 := Tryz.zeroValue158
  t164 := Tryz.underlying112
  a164 := Tryz.isAgg112
  z164 := Tryz.sizeOf112
  v164 := Tryz.zeroValue112 }
theorem Tryz.Builder_Extra_156 : Builder.Extra Tryz.prog Tryz.lays156_ren := {
  sizeBuilder := by kernel_rfl
  liesBuilder := by kernel_rfl
  t5 := Tryz.underlying5
  a5 := Tryz.isAgg5
  z5 := Tryz.sizeOf5
  v5 := Tryz.zeroValue5
  infoByte := by kernel_rfl
  cellsByte := by kernel_rfl
  sizeByte := by kernel_rfl
  neB5 := by decide }
open Go.RowKit in
theorem Tryz.strings_Join (bk o c : Nat) (xs : List ByteArray) (sep : ByteArray) (w : World) (hcells : ∀ (j : Nat) x, xs[j]? = some x → w.cell? ⟨bk, o + j, none⟩ = some (.string x)) (hbk : bk < w.heap.size) (hN : xs.length ≤ 140737488355328) (hcap : xs.length ≤ c) (hlen : (Lib.join (xs.map (·.data.toList)) sep.data.toList).length ≤ 140737488355328) :
    Calls Tryz.prog 58 #[.slice (some ⟨bk, o, none⟩) xs.length c, .string sep] w fun e w' => e = .returned (.string ⟨(Lib.join (xs.map (·.data.toList)) sep.data.toList).toArray⟩) ∧ Below w.heap.size w w' := Any.strings_Join Tryz.lays156 Tryz.Builder_Extra_156 bk o c xs sep w hcells hbk hN hcap hlen
def Tryz.laysM171_ren : Go.Shelf.Ren := ⟨fun | 171 => 60 | 243 => 84 | 246 => 99 | 283 => 110 | 284 => 111 | 285 => 112 | 286 => 113 | 129 => 119 | 317 => 118 | 318 => 120 | 319 => 121 | 320 => 122 | 337 => 123 | 338 => 124 | n => n, fun | 3 => 3 | 9 => 9 | 2 => 2 | 4 => 4 | 171 => 169 | 0 => 0 | 53 => 160 | 37 => 103 | 5 => 5 | 173 => 172 | 212 => 186 | 51 => 178 | 20 => 20 | 213 => 187 | 46 => 90 | 232 => 191 | 233 => 192 | n => n, fun | 17 => 19 | 18 => 20 | 19 => 21 | n => n⟩
theorem Tryz.laysM171 : Go.Proofs.LaysM.n171 Tryz.prog Tryz.laysM171_ren := {
  mixed := by kernel_rfl
  f129 := Tryz.func119.trans (congrArg some (by kernel_rfl))
  f171 := Tryz.func60.trans (congrArg some (by kernel_rfl))
  f243 := Tryz.func84.trans (congrArg some (by kernel_rfl))
  f246 := Tryz.func99.trans (congrArg some (by kernel_rfl))
  f283 := Tryz.func110.trans (congrArg some (by kernel_rfl))
  f284 := Tryz.func111.trans (congrArg some (by kernel_rfl))
  f285 := Tryz.func112.trans (congrArg some (by kernel_rfl))
  f286 := Tryz.func113.trans (congrArg some (by kernel_rfl))
  f317 := Tryz.func118.trans (congrArg some (by kernel_rfl))
  f318 := Tryz.func120.trans (congrArg some (by kernel_rfl))
  f319 := Tryz.func121.trans (congrArg some (by kernel_rfl))
  f320 := Tryz.func122.trans (congrArg some (by kernel_rfl))
  f337 := Tryz.func123.trans (congrArg some (by kernel_rfl))
  f338 := Tryz.func124.trans (congrArg some (by kernel_rfl))
  t0 := Tryz.underlying0
  a0 := Tryz.isAgg0
  z0 := Tryz.sizeOf0
  v0 := Tryz.zeroValue0
  t2 := Tryz.underlying2
  a2 := Tryz.isAgg2
  z2 := Tryz.sizeOf2
  v2 := Tryz.zeroValue2
  t3 := Tryz.underlying3
  a3 := Tryz.isAgg3
  z3 := Tryz.sizeOf3
  v3 := Tryz.zeroValue3
  t4 := Tryz.underlying4
  a4 := Tryz.isAgg4
  z4 := Tryz.sizeOf4
  v4 := Tryz.zeroValue4
  t5 := Tryz.underlying5
  a5 := Tryz.isAgg5
  z5 := Tryz.sizeOf5
  v5 := Tryz.zeroValue5
  t9 := Tryz.underlying9
  a9 := Tryz.isAgg9
  z9 := Tryz.sizeOf9
  v9 := Tryz.zeroValue9
  t20 := Tryz.underlying20
  a20 := Tryz.isAgg20
  z20 := Tryz.sizeOf20
  v20 := Tryz.zeroValue20
  t37 := Tryz.underlying103
  a37 := Tryz.isAgg103
  z37 := Tryz.sizeOf103
  v37 := Tryz.zeroValue103
  t46 := Tryz.underlying90
  a46 := Tryz.isAgg90
  z46 := Tryz.sizeOf90
  v46 := Tryz.zeroValue90
  t51 := Tryz.underlying178
  a51 := Tryz.isAgg178
  z51 := Tryz.sizeOf178
  v51 := Tryz.zeroValue178
  t53 := Tryz.underlying160
  a53 := Tryz.isAgg160
  z53 := Tryz.sizeOf160
  v53 := Tryz.zeroValue160
  t171 := Tryz.underlying169
  a171 := Tryz.isAgg169
  z171 := Tryz.sizeOf169
  v171 := Tryz.zeroValue169
  t173 := Tryz.underlying172
  a173 := Tryz.isAgg172
  z173 := Tryz.sizeOf172
  v173 := Tryz.zeroValue172
  t212 := Tryz.underlying186
  a212 := Tryz.isAgg186
  z212 := Tryz.sizeOf186
  v212 := Tryz.zeroValue186
  t213 := Tryz.underlying187
  a213 := Tryz.isAgg187
  z213 := Tryz.sizeOf187
  t232 := Tryz.underlying191
  a232 := Tryz.isAgg191
  z232 := Tryz.sizeOf191
  v232 := Tryz.zeroValue191
  t233 := Tryz.underlying192
  a233 := Tryz.isAgg192
  z233 := Tryz.sizeOf192
  v233 := Tryz.zeroValue192
  g17 := by kernel_rfl
  g18 := by kernel_rfl
  g19 := by kernel_rfl
  i0 := by kernel_rfl
  i2 := by kernel_rfl
  i3 := by kernel_rfl
  i4 := by kernel_rfl
  i5 := by kernel_rfl
  i9 := by kernel_rfl
  i20 := by kernel_rfl
  i37 := by kernel_rfl
  i46 := by kernel_rfl
  i51 := by kernel_rfl
  i53 := by kernel_rfl
  i171 := by kernel_rfl
  i173 := by kernel_rfl
  i212 := by kernel_rfl
  i232 := by kernel_rfl
  i233 := by kernel_rfl
  m17 := by kernel_rfl
  m18 := by kernel_rfl
  m19 := by kernel_rfl }
open Go.RowKit Go.Sort Go.Lib in
theorem Tryz.strconv_Itoa (n : Int) (h0 : -9223372036854775808 ≤ n) (h1 : n ≤ 9223372036854775807) (w : World) (htab : Lib.TabIs Tryz.prog w "internal/strconv.uint64pow10" .u64 Lib.pow10Tab) :
    Calls Tryz.prog 60 #[.int .i64 n] w fun e w' => e = .returned (.string ⟨(Lib.itoa n).toArray⟩) ∧ ∃ k os, w' = grow (w.drewN k) os := Any.strconv_Itoa Tryz.laysM171 n h0 h1 w htab
def Tryz.laysC245_ren : Go.Shelf.Ren := ⟨fun | 245 => 80 | 279 => 93 | 280 => 94 | 281 => 95 | 282 => 96 | 316 => 106 | 171 => 60 | 205 => 107 | 243 => 84 | 246 => 99 | 283 => 110 | 284 => 111 | 285 => 112 | 286 => 113 | 129 => 119 | 317 => 118 | 318 => 120 | 319 => 121 | 320 => 122 | 337 => 123 | 338 => 124 | n => n, fun | 9 => 9 | 3 => 3 | 75 => 28 | 167 => 152 | 4 => 4 | 168 => 155 | 210 => 165 | 37 => 103 | 0 => 0 | 127 => 158 | 145 => 184 | 143 => 182 | 2 => 2 | 171 => 169 | 53 => 160 | 5 => 5 | 173 => 172 | 212 => 186 | 51 => 178 | 20 => 20 | 213 => 187 | 46 => 90 | 232 => 191 | 233 => 192 | 80 => 133 | n => n, fun | 15 => 15 | 16 => 16 | 17 => 19 | 18 => 20 | 19 => 21 | n => n⟩
theorem Tryz.laysC245 : Go.Proofs.LaysC.n245 Tryz.prog Tryz.laysC245_ren := {
  mixed := by kernel_rfl
  f129 := Tryz.func119.trans (congrArg some (by kernel_rfl))
  f171 := Tryz.func60.trans (congrArg some (by kernel_rfl))
  f205 := Tryz.func107.trans (congrArg some (by kernel_rfl))
  f243 := Tryz.func84.trans (congrArg some (by kernel_rfl))
  f245 := Tryz.func80.trans (congrArg some (by kernel_rfl))
  f246 := Tryz.func99.trans (congrArg some (by kernel_rfl))
  f279 := Tryz.func93.trans (congrArg some (by kernel_rfl))
  f280 := Tryz.func94.trans (congrArg some (by kernel_rfl))
  f281 := Tryz.func95.trans (congrArg some (by kernel_rfl))
  f282 := Tryz.func96.trans (congrArg some (by kernel_rfl))
  f283 := Tryz.func110.trans (congrArg some (by kernel_rfl))
  f284 := Tryz.func111.trans (congrArg some (by kernel_rfl))
  f285 := Tryz.func112.trans (congrArg some (by kernel_rfl))
  f286 := Tryz.func113.trans (congrArg some (by kernel_rfl))
  f316 := Tryz.func106.trans (congrArg some (by kernel_rfl))
  f317 := Tryz.func118.trans (congrArg some (by kernel_rfl))
  f318 := Tryz.func120.trans (congrArg some (by kernel_rfl))
  f319 := Tryz.func121.trans (congrArg some (by kernel_rfl))
  f320 := Tryz.func122.trans (congrArg some (by kernel_rfl))
  f337 := Tryz.func123.trans (congrArg some (by kernel_rfl))
  f338 := Tryz.func124.trans (congrArg some (by kernel_rfl))
  t0 := Tryz.underlying0
  a0 := Tryz.isAgg0
  z0 := Tryz.sizeOf0
  v0 := Tryz.zeroValue0
  t2 := Tryz.underlying2
  a2 := Tryz.isAgg2
  z2 := Tryz.sizeOf2
  v2 := Tryz.zeroValue2
  t3 := Tryz.underlying3
  a3 := Tryz.isAgg3
  z3 := Tryz.sizeOf3
  v3 := Tryz.zeroValue3
  t4 := Tryz.underlying4
  a4 := Tryz.isAgg4
  z4 := Tryz.sizeOf4
  v4 := Tryz.zeroValue4
  t5 := Tryz.underlying5
  a5 := Tryz.isAgg5
  z5 := Tryz.sizeOf5
  v5 := Tryz.zeroValue5
  t9 := Tryz.underlying9
  a9 := Tryz.isAgg9
  z9 := Tryz.sizeOf9
  v9 := Tryz.zeroValue9
  t20 := Tryz.underlying20
  a20 := Tryz.isAgg20
  z20 := Tryz.sizeOf20
  v20 := Tryz.zeroValue20
  t37 := Tryz.underlying103
  a37 := Tryz.isAgg103
  z37 := Tryz.sizeOf103
  v37 := Tryz.zeroValue103
  t46 := Tryz.underlying90
  a46 := Tryz.isAgg90
  z46 := Tryz.sizeOf90
  v46 := Tryz.zeroValue90
  t51 := Tryz.underlying178
  a51 := Tryz.isAgg178
  z51 := Tryz.sizeOf178
  v51 := Tryz.zeroValue178
  t53 := Tryz.underlying160
  a53 := Tryz.isAgg160
  z53 := Tryz.sizeOf160
  v53 := Tryz.zeroValue160
  t75 := Tryz.underlying28
  a75 := Tryz.isAgg28
  z75 := Tryz.sizeOf28
  v75 := Tryz.zeroValue28
  t127 := Tryz.underlying158
  a127 := Tryz.isAgg158
  z127 := Tryz.sizeOf158
  v127 := Tryz.zeroValue158
  t143 := Tryz.underlying182
  a143 := Tryz.isAgg182
  z143 := Tryz.sizeOf182
  v143 := Tryz.zeroValue182
  t145 := Tryz.underlying184
  a145 := Tryz.isAgg184
  z145 := Tryz.sizeOf184
  v145 := Tryz.zeroValue184
  t167 := Tryz.underlying152
  a167 := Tryz.isAgg152
  z167 := Tryz.sizeOf152
  v167 := Tryz.zeroValue152
  t168 := Tryz.underlying155
  a168 := Tryz.isAgg155
  z168 := Tryz.sizeOf155
  v168 := Tryz.zeroValue155
  t171 := Tryz.underlying169
  a171 := Tryz.isAgg169
  z171 := Tryz.sizeOf169
  v171 := Tryz.zeroValue169
  t173 := Tryz.underlying172
  a173 := Tryz.isAgg172
  z173 := Tryz.sizeOf172
  v173 := Tryz.zeroValue172
  t210 := Tryz.underlying165
  a210 := Tryz.isAgg165
  z210 := Tryz.sizeOf165
  v210 := Tryz.zeroValue165
  t212 := Tryz.underlying186
  a212 := Tryz.isAgg186
  z212 := Tryz.sizeOf186
  v212 := Tryz.zeroValue186
  t213 := Tryz.underlying187
  a213 := Tryz.isAgg187
  z213 := Tryz.sizeOf187
  t232 := Tryz.underlying191
  a232 := Tryz.isAgg191
  z232 := Tryz.sizeOf191
  v232 := Tryz.zeroValue191
  t233 := Tryz.underlying192
  a233 := Tryz.isAgg192
  z233 := Tryz.sizeOf192
  v233 := Tryz.zeroValue192
  g15 := by kernel_rfl
  g16 := by kernel_rfl
  g17 := by kernel_rfl
  g18 := by kernel_rfl
  g19 := by kernel_rfl
  t80 := Tryz.underlying133
  a80 := Tryz.isAgg133
  z80 := Tryz.sizeOf133
  v80 := Tryz.zeroValue133
  i0 := by kernel_rfl
  i2 := by kernel_rfl
  i3 := by kernel_rfl
  i4 := by kernel_rfl
  i5 := by kernel_rfl
  i9 := by kernel_rfl
  i20 := by kernel_rfl
  i37 := by kernel_rfl
  i46 := by kernel_rfl
  i51 := by kernel_rfl
  i53 := by kernel_rfl
  i75 := by kernel_rfl
  i80 := by kernel_rfl
  i127 := by kernel_rfl
  i143 := by kernel_rfl
  i145 := by kernel_rfl
  i167 := by kernel_rfl
  i168 := by kernel_rfl
  i171 := by kernel_rfl
  i173 := by kernel_rfl
  i210 := by kernel_rfl
  i212 := by kernel_rfl
  i232 := by kernel_rfl
  i233 := by kernel_rfl
  m15 := by kernel_rfl
  m16 := by kernel_rfl
  m17 := by kernel_rfl
  m18 := by kernel_rfl
  m19 := by kernel_rfl
  c0 := by kernel_rfl
  c2 := by kernel_rfl
  c3 := by kernel_rfl
  c4 := by kernel_rfl
  c5 := by kernel_rfl
  c9 := by kernel_rfl
  c20 := by kernel_rfl
  c37 := by kernel_rfl
  c46 := by kernel_rfl
  c51 := by kernel_rfl
  c53 := by kernel_rfl
  c75 := by kernel_rfl
  c80 := by kernel_rfl
  c127 := by kernel_rfl
  c143 := by kernel_rfl
  c145 := by kernel_rfl
  c167 := by kernel_rfl
  c168 := by kernel_rfl
  c171 := by kernel_rfl
  c173 := by kernel_rfl
  c210 := by kernel_rfl
  c212 := by kernel_rfl
  c213 := by kernel_rfl
  c232 := by kernel_rfl
  c233 := by kernel_rfl }
open Go.RowKit in
theorem Tryz.strconv_toError_syntax (fn s : ByteArray) (base bits : Int) (ev : Value) (w : World) (hlim : s.size ≤ 281474976710656) (hv : w.cell? ⟨15, 0, none⟩ = some ev) (hev : ev = .nilIface ∨ ∃ te pe, ev = .iface te pe) :
    Calls Tryz.prog 80 #[.string fn, .string s, .int .i64 base, .int .i64 bits, .iface 152 (.int .i64 2)] w fun e w' => ∃ N, e = .returned (.iface 155 (.pointer (some ⟨N, 0, none⟩))) ∧ w.heap.size ≤ N ∧ w'.heap[N]? = some (.cells #[.string fn, .string s, ev] 165 (0, 0)) ∧ Below w.heap.size w w' := Any.strconv_toError_syntax Tryz.laysC245 fn s base bits ev w hlim hv hev
def Tryz.laysC244_ren : Go.Shelf.Ren := ⟨fun | 244 => 79 | 247 => 92 | 287 => 105 | 321 => 116 | 322 => 117 | n => n, fun | 9 => 9 | 3 => 3 | 75 => 28 | 4 => 4 | 5 => 5 | 167 => 152 | 37 => 103 | 0 => 0 | 85 => 153 | 2 => 2 | 53 => 160 | 175 => 161 | 46 => 90 | 21 => 21 | 80 => 133 | n => n, fun | n => n⟩
theorem Tryz.laysC244 : Go.Proofs.LaysC.n244 Tryz.prog Tryz.laysC244_ren := {
  mixed := by kernel_rfl
  f244 := Tryz.func79.trans (congrArg some (by kernel_rfl))
  f247 := Tryz.func92.trans (congrArg some (by kernel_rfl))
  f287 := Tryz.func105.trans (congrArg some (by kernel_rfl))
  f321 := Tryz.func116.trans (congrArg some (by kernel_rfl))
  f322 := Tryz.func117.trans (congrArg some (by kernel_rfl))
  t0 := Tryz.underlying0
  a0 := Tryz.isAgg0
  z0 := Tryz.sizeOf0
  v0 := Tryz.zeroValue0
  t2 := Tryz.underlying2
  a2 := Tryz.isAgg2
  z2 := Tryz.sizeOf2
  v2 := Tryz.zeroValue2
  t3 := Tryz.underlying3
  a3 := Tryz.isAgg3
  z3 := Tryz.sizeOf3
  v3 := Tryz.zeroValue3
  t4 := Tryz.underlying4
  a4 := Tryz.isAgg4
  z4 := Tryz.sizeOf4
  v4 := Tryz.zeroValue4
  t5 := Tryz.underlying5
  a5 := Tryz.isAgg5
  z5 := Tryz.sizeOf5
  v5 := Tryz.zeroValue5
  t9 := Tryz.underlying9
  a9 := Tryz.isAgg9
  z9 := Tryz.sizeOf9
  v9 := Tryz.zeroValue9
  t21 := Tryz.underlying21
  a21 := Tryz.isAgg21
  z21 := Tryz.sizeOf21
  v21 := Tryz.zeroValue21
  t37 := Tryz.underlying103
  a37 := Tryz.isAgg103
  z37 := Tryz.sizeOf103
  v37 := Tryz.zeroValue103
  t46 := Tryz.underlying90
  a46 := Tryz.isAgg90
  z46 := Tryz.sizeOf90
  v46 := Tryz.zeroValue90
  t53 := Tryz.underlying160
  a53 := Tryz.isAgg160
  z53 := Tryz.sizeOf160
  v53 := Tryz.zeroValue160
  t75 := Tryz.underlying28
  a75 := Tryz.isAgg28
  z75 := Tryz.sizeOf28
  v75 := Tryz.zeroValue28
  t85 := Tryz.underlying153
  a85 := Tryz.isAgg153
  z85 := Tryz.sizeOf153
  v85 := Tryz.zeroValue153
  t167 := Tryz.underlying152
  a167 := Tryz.isAgg152
  z167 := Tryz.sizeOf152
  v167 := Tryz.zeroValue152
  t175 := Tryz.underlying161
  a175 := Tryz.isAgg161
  z175 := Tryz.sizeOf161
  v175 := Tryz.zeroValue161
  t80 := Tryz.underlying133
  a80 := Tryz.isAgg133
  z80 := Tryz.sizeOf133
  v80 := Tryz.zeroValue133
  i0 := by kernel_rfl
  i2 := by kernel_rfl
  i3 := by kernel_rfl
  i4 := by kernel_rfl
  i5 := by kernel_rfl
  i9 := by kernel_rfl
  i21 := by kernel_rfl
  i37 := by kernel_rfl
  i46 := by kernel_rfl
  i53 := by kernel_rfl
  i75 := by kernel_rfl
  i80 := by kernel_rfl
  i85 := by kernel_rfl
  i167 := by kernel_rfl
  i175 := by kernel_rfl
  c0 := by kernel_rfl
  c2 := by kernel_rfl
  c3 := by kernel_rfl
  c4 := by kernel_rfl
  c5 := by kernel_rfl
  c9 := by kernel_rfl
  c21 := by kernel_rfl
  c37 := by kernel_rfl
  c46 := by kernel_rfl
  c53 := by kernel_rfl
  c75 := by kernel_rfl
  c80 := by kernel_rfl
  c85 := by kernel_rfl
  c167 := by kernel_rfl
  c175 := by kernel_rfl }
open Go.RowKit in
theorem Tryz.internal_strconv_Atoi_all (s : ByteArray) (hmax : s.size ≤ 9223372036854775806) (w : World) :
    Calls Tryz.prog 79 #[.string s] w fun e w' => e = .returned (Lib.intTuple 152 (Lib.atoiSat s.data.toList) (Lib.atoiAll s.data.toList)) ∧ (w' = w ∨ ∃ t, w' = Lib.bytesWorld w 5 t) := Any.internal_strconv_Atoi_all Tryz.laysC244 s hmax w
open Go.RowKit in
theorem Tryz.strconv_toError_range (fn s : ByteArray) (base bits : Int) (ev : Value) (w : World) (hlim : s.size ≤ 281474976710656) (hv : w.cell? ⟨16, 0, none⟩ = some ev) (hev : ev = .nilIface ∨ ∃ te pe, ev = .iface te pe) :
    Calls Tryz.prog 80 #[.string fn, .string s, .int .i64 base, .int .i64 bits, .iface 152 (.int .i64 1)] w fun e w' => ∃ N, e = .returned (.iface 155 (.pointer (some ⟨N, 0, none⟩))) ∧ w.heap.size ≤ N ∧ w'.heap[N]? = some (.cells #[.string fn, .string s, ev] 165 (0, 0)) ∧ Below w.heap.size w w' := Any.strconv_toError_range Tryz.laysC245 fn s base bits ev w hlim hv hev
def Tryz.lays145_ren : Go.Shelf.Ren := ⟨fun | 145 => 56 | 220 => 78 | 219 => 91 | 217 => 101 | 225 => 102 | 224 => 103 | 267 => 104 | 266 => 114 | 314 => 115 | n => n, fun | 9 => 9 | 4 => 4 | 59 => 96 | 3 => 3 | 5 => 5 | 46 => 90 | 146 => 179 | 51 => 178 | n => n, fun | 1 => 14 | n => n⟩
theorem Tryz.lays145 : Go.Proofs.Lays.n145 Tryz.prog Tryz.lays145_ren := {
  mixed := by kernel_rfl
  f145 := Tryz.func56.trans (congrArg some (by kernel_rfl))
  f217 := Tryz.func101.trans (congrArg some (by kernel_rfl))
  f219 := Tryz.func91.trans (congrArg some (by kernel_rfl))
  f220 := Tryz.func78.trans (congrArg some (by kernel_rfl))
  f224 := Tryz.func103.trans (congrArg some (by kernel_rfl))
  f225 := Tryz.func102.trans (congrArg some (by kernel_rfl))
  f266 := Tryz.func114.trans (congrArg some (by kernel_rfl))
  f267 := Tryz.func104.trans (congrArg some (by kernel_rfl))
  f314 := Tryz.func115.trans (congrArg some (by kernel_rfl))
  t3 := Tryz.underlying3
  a3 := Tryz.isAgg3
  z3 := Tryz.sizeOf3
  v3 := Tryz.zeroValue3
  t4 := Tryz.underlying4
  a4 := Tryz.isAgg4
  z4 := Tryz.sizeOf4
  v4 := Tryz.zeroValue4
  t5 := Tryz.underlying5
  a5 := Tryz.isAgg5
  z5 := Tryz.sizeOf5
  v5 := Tryz.zeroValue5
  t9 := Tryz.underlying9
  a9 := Tryz.isAgg9
  z9 := Tryz.sizeOf9
  v9 := Tryz.zeroValue9
  t46 := Tryz.underlying90
  a46 := Tryz.isAgg90
  z46 := Tryz.sizeOf90
  v46 := Tryz.zeroValue90
  t51 := Tryz.underlying178
  a51 := Tryz.isAgg178
  z51 := Tryz.sizeOf178
  v51 := Tryz.zeroValue178
  t59 := Tryz.underlying96
  a59 := Tryz.isAgg96
  z59 := Tryz.sizeOf96
  v59 := Tryz.zeroValue96
  t146 := Tryz.underlying179
  a146 := Tryz.isAgg179
  z146 := Tryz.sizeOf179
  v146 := Tryz.zeroValue179
  g1 := by kernel_rfl }
open Go.RowKit Go.Lib in
theorem Tryz.strings_Cut (s sep : ByteArray) (m : Int) (w : World) (hs : s.size < 4294967281) (hm : w.cell? ⟨14, 0, none⟩ = some (.int .i64 m)) :
    Calls Tryz.prog 56 #[.string s, .string sep] w fun e w' => e = .returned (.tuple #[.string ⟨(Lib.cut s.data.toList sep.data.toList).1.toArray⟩, .string ⟨(Lib.cut s.data.toList sep.data.toList).2.1.toArray⟩, .bool (Lib.cut s.data.toList sep.data.toList).2.2]) ∧ ∃ n, w' = w.drewN n := Any.strings_Cut Tryz.lays145 s sep m w hs hm
def Tryz.lays146_ren : Go.Shelf.Ren := ⟨fun | 146 => 32 | 221 => 55 | 268 => 75 | 138 => 76 | 143 => 77 | 195 => 88 | 197 => 89 | 218 => 90 | 219 => 91 | 260 => 100 | 217 => 101 | 225 => 102 | 224 => 103 | 267 => 104 | 266 => 114 | 314 => 115 | n => n, fun | 9 => 9 | 31 => 66 | 3 => 3 | 4 => 4 | 0 => 0 | 105 => 149 | 21 => 21 | 5 => 5 | 46 => 90 | 119 => 174 | 139 => 177 | 138 => 176 | 146 => 179 | 51 => 178 | n => n, fun | 1 => 14 | 3 => 17 | 4 => 18 | n => n⟩
theorem Tryz.lays146 : Go.Proofs.Lays.n146 Tryz.prog Tryz.lays146_ren := {
  mixed := by kernel_rfl
  f138 := Tryz.func76.trans (congrArg some (by kernel_rfl))
  f143 := Tryz.func77.trans (congrArg some (by kernel_rfl))
  f146 := Tryz.func32.trans (congrArg some (by kernel_rfl))
  f195 := Tryz.func88.trans (congrArg some (by kernel_rfl))
  f197 := Tryz.func89.trans (congrArg some (by kernel_rfl))
  f217 := Tryz.func101.trans (congrArg some (by kernel_rfl))
  f218 := Tryz.func90.trans (congrArg some (by kernel_rfl))
  f219 := Tryz.func91.trans (congrArg some (by kernel_rfl))
  f221 := Tryz.func55.trans (congrArg some (by kernel_rfl))
  f224 := Tryz.func103.trans (congrArg some (by kernel_rfl))
  f225 := Tryz.func102.trans (congrArg some (by kernel_rfl))
  f260 := Tryz.func100.trans (congrArg some (by kernel_rfl))
  f266 := Tryz.func114.trans (congrArg some (by kernel_rfl))
  f267 := Tryz.func104.trans (congrArg some (by kernel_rfl))
  f268 := Tryz.func75.trans (congrArg some (by kernel_rfl))
  f314 := Tryz.func115.trans (congrArg some (by kernel_rfl))
  t0 := Tryz.underlying0
  a0 := Tryz.isAgg0
  z0 := Tryz.sizeOf0
  v0 := Tryz.zeroValue0
  t3 := Tryz.underlying3
  a3 := Tryz.isAgg3
  z3 := Tryz.sizeOf3
  v3 := Tryz.zeroValue3
  t4 := Tryz.underlying4
  a4 := Tryz.isAgg4
  z4 := Tryz.sizeOf4
  v4 := Tryz.zeroValue4
  t5 := Tryz.underlying5
  a5 := Tryz.isAgg5
  z5 := Tryz.sizeOf5
  v5 := Tryz.zeroValue5
  t9 := Tryz.underlying9
  a9 := Tryz.isAgg9
  z9 := Tryz.sizeOf9
  v9 := Tryz.zeroValue9
  t21 := Tryz.underlying21
  a21 := Tryz.isAgg21
  z21 := Tryz.sizeOf21
  v21 := Tryz.zeroValue21
  t31 := Tryz.underlying66
  a31 := Tryz.isAgg66
  z31 := Tryz.sizeOf66
  v31 := Tryz.zeroValue66
  t46 := Tryz.underlying90
  a46 := Tryz.isAgg90
  z46 := Tryz.sizeOf90
  v46 := Tryz.zeroValue90
  t51 := Tryz.underlying178
  a51 := Tryz.isAgg178
  z51 := Tryz.sizeOf178
  v51 := Tryz.zeroValue178
  t105 := Tryz.underlying149
  a105 := Tryz.isAgg149
  z105 := Tryz.sizeOf149
  v105 := Tryz.zeroValue149
  t119 := Tryz.underlying174
  a119 := Tryz.isAgg174
  z119 := Tryz.sizeOf174
  t138 := Tryz.underlying176
  a138 := Tryz.isAgg176
  z138 := Tryz.sizeOf176
  v138 := Tryz.zeroValue176
  t139 := Tryz.underlying177
  a139 := Tryz.isAgg177
  z139 := Tryz.sizeOf177
  v139 := Tryz.zeroValue177
  t146 := Tryz.underlying179
  a146 := Tryz.isAgg179
  z146 := Tryz.sizeOf179
  v146 := Tryz.zeroValue179
  g1 := by kernel_rfl
  g3 := by kernel_rfl
  g4 := by kernel_rfl }
open Go.RowKit Go.Lib in
theorem Tryz.strings_Split (s sep : ByteArray) (m : Int) (w : World) (hs : s.size < 4294967281) (hm : w.cell? ⟨14, 0, none⟩ = some (.int .i64 m)) (h1 : 1 ≤ sep.size) :
    Calls Tryz.prog 32 #[.string s, .string sep] w fun e w' =>
      e = .returned (.slice (some ⟨w.heap.size, 0, none⟩) (Lib.countB s sep + 1) (Lib.countB s sep + 1)) ∧ w' = w.alloc (.cells ((Lib.splitB sep 0 (Lib.countB s sep) s).map Value.string).toArray 9) := Any.strings_Split Tryz.lays146 (by kernel_rfl) s sep m w hs hm h1
end Go.Proofs

namespace Go.Proofs.YtcioicoedmmkhaaGreatDoor
open Go Ev Go.RowKit Go.Sort

theorem Ev.CallC.of {P : Program} {f : FuncId} {fn : Func} {args : Array Value} {w : World} {k : Value → World → Prop} (hf : P.funcs[f]? = some fn) (hname : (fn.name == "runtime.NumGoroutine") = false) (hb : fn.body.isSome = true) (h : Calls P f args w fun e w' => ∃ v, e = .returned v ∧ k v w') : CallC P f args w k := by
  have hname' : ¬ fn.name = "runtime.NumGoroutine" := by simpa using hname
  obtain ⟨c, hb⟩ := Option.isSome_iff_exists.1 hb
  exact ⟨.inl ⟨by simp [callFunc, program, Sem.run, hf, hname', hb], h⟩⟩
theorem Ev.Ext.of_below {w w' : World} (h : Below w.heap.size w w') : Ext No w w' := ⟨h.os, h.tape, h.output, h.size, fun k hk _ => h.block k hk⟩
theorem ext_grow (w : World) (k : Nat) (os : Array Obj) : Ext No w (grow (w.drewN k) os) := by
  refine ⟨rfl, rfl, rfl, ?_, fun b hb _ => ?_⟩
  · show w.heap.size ≤ (w.heap ++ os).size
    rw [Array.size_append]
    omega
  · show (w.heap ++ os)[b]? = _
    rw [Array.getElem?_append_left hb]

def Pow10 (w : World) : Prop := Lib.TabIs Tryz.prog w "internal/strconv.uint64pow10" .u64 Lib.pow10Tab
theorem Pow10.no {w w' : World} (h : Pow10 w) (hx : Ext No w w') : Pow10 w' := by
  have hg : Tryz.prog.globalNamed "internal/strconv.uint64pow10" = some 19 := by kernel_rfl
  unfold Pow10 Lib.TabIs at h ⊢
  rw [← h]
  have key : w'.heap[19]? = w.heap[19]? := by
    refine hx.block _ ?_ id
    have h2 := h
    simp only [World.var?, hg, Option.bind_some] at h2
    by_cases hb : 19 < w.heap.size
    · exact hb
    · have hn : w.heap[19]? = none := Array.getElem?_eq_none (by omega)
      rw [hn] at h2
      cases h2
  simp only [World.var?, hg, Option.bind_some, key]
theorem itoa_ok (n : Int) (h0 : -9223372036854775808 ≤ n) (h1 : n ≤ 9223372036854775807) (w : World) (ht : Pow10 w) :
    CallC Tryz.prog 60 #[.int .i64 n] w fun v w' => v = .string (bs (Lib.itoa n)) ∧ Ext No w w' := by
  refine Ev.CallC.of Tryz.func60 (by kernel_rfl) rfl ((Tryz.strconv_Itoa n h0 h1 w ht).mono ?_)
  rintro e w' ⟨rfl, k, os, rfl⟩
  exact ⟨_, rfl, rfl, ext_grow w k os⟩
theorem join_ok (xs : List (List UInt8)) (sep : List UInt8) {b o n c : Nat} (w : World) (hn : xs.length = n) (hc : CellsAt w b o (xs.map fun l => .string (bs l))) (h0 : 0 < n) (hcap : n ≤ c) (hl : (Lib.join xs sep).length ≤ 1000000) (hN : n ≤ 1000000) :
    CallC Tryz.prog 58 #[.slice (some ⟨b, o, none⟩) n c, .string (bs sep)] w fun v w' => v = .string (bs (Lib.join xs sep)) ∧ Ext No w w' := by
  subst hn
  have e1 : ((xs.map bs).map (·.data.toList)) = xs := by
    rw [List.map_map]
    conv => rhs; rw [← List.map_id xs]
    rfl
  have hcell : ∀ (j : Nat) x, (xs.map bs)[j]? = some x → w.cell? ⟨b, o + j, none⟩ = some (.string x) := fun j x hj => by
    refine hc j _ ?_
    rw [List.getElem?_map] at hj ⊢
    obtain ⟨l, hl, rfl⟩ := Option.map_eq_some_iff.1 hj
    rw [hl]
    rfl
  have hb : b < w.heap.size := hc.lt (by simpa using h0)
  have h := Tryz.strings_Join b o c (xs.map bs) (bs sep) w hcell hb (by rw [List.length_map]; omega) (by rw [List.length_map]; exact hcap) (by rw [e1]; exact Nat.le_trans hl (by omega))
  rw [List.length_map] at h
  refine Ev.CallC.of Tryz.func58 (by kernel_rfl) rfl (h.mono ?_)
  rintro e w' ⟨rfl, hb⟩
  refine ⟨_, rfl, ?_, .of_below hb⟩
  rw [e1]
  rfl

theorem laid_one {L : List (String × DataW Unit)} {W : World} {n : String} {d : DataW Unit} (hl : laidMetH Tryz.prog L W) (hm : (n, d) ∈ L) (hd : d.handleName?.isNone = true) : laidMet Tryz.prog [(n, d)] W :=
  laidMet_sub (List.singleton_sublist.2 (List.mem_filter.2 ⟨hm, hd⟩)) (laidMetH_iff.1 hl).1
theorem pow10_of {L : List (String × DataW Unit)} {W : World} (hl : laidMetH Tryz.prog L W) (hm : ("internal/strconv.uint64pow10", Lib.tabData .u64 Lib.pow10Tab) ∈ L) : Pow10 W :=
  Lib.tabIs_of_head (g := 19) (t := 186) (e := 160) (n := 20) (by kernel_rfl) (by kernel_rfl) Tryz.underlying186 Tryz.underlying160 (by kernel_rfl) (by kernel_rfl) (laid_one hl hm rfl)
theorem strs_of_trod {H : Type} {enc : TypeId × Value → H} {P : Program} {w : World} {base : Nat} {sp : Nat → Bool} {held : Bool} {fuel : Nat} {t e : TypeId} {n : Nat} {cs : List Value} {zs : List (List UInt8)} {p : List MemPlace}
    (ht : P.underlying t = some (.array n e)) (he : P.underlying e = some .string) (hce : P.cellsOf e = 1) (hct : P.cellsOf t = n)
    (h : DataW.trod enc P w base sp held fuel t cs = some (.agg (zs.map fun z => .lit (.string z)), p)) : cs = zs.map fun z => Value.string (bs z) := by
  cases fuel with
  | zero => simp [DataW.trod] at h
  | succ fuel =>
    simp only [DataW.trod, ht, hce, hct, Nat.mul_one] at h
    split at h
    · rename_i hl
      obtain ⟨xs, hm, hx⟩ := Option.map_eq_some_iff.1 h
      have hxs : xs.map (·.1) = zs.map fun z => (DataW.lit (.string z) : DataW H) := by
        have := congrArg Prod.fst hx
        simpa using this
      have hxl : xs.length = n := by simpa using Lib.mapM_length hm
      have hzl : zs.length = n := by
        have := congrArg List.length hxs
        simp at this
        omega
      apply List.ext_getElem?
      intro i
      by_cases hi : i < n
      · obtain ⟨b, hb, hf⟩ := Lib.mapM_at hm i i (by simp [hi])
        obtain ⟨z, hc, rfl, _⟩ := DataW.trod_string he hf
        have h1 : cs[i]? = some (.string z) := by
          have := congrArg (·[0]?) hc
          simpa [List.getElem?_take, List.getElem?_drop] using this
        have h2 : (xs.map (·.1))[i]? = some (DataW.lit (.string z.data.toList) : DataW H) := by simp [hb]
        rw [hxs] at h2
        simp only [List.getElem?_map, Option.map_eq_some_iff, DataW.lit.injEq, Lit.string.injEq] at h2
        obtain ⟨z', hz', h3⟩ := h2
        rw [h1, List.getElem?_map, hz']
        show some (Value.string z) = some (Value.string (bs z'))
        rw [h3]
        simp [bs]
      · rw [List.getElem?_eq_none (by omega), List.getElem?_eq_none (by simp; omega)]
    · cases h
end Go.Proofs.YtcioicoedmmkhaaGreatDoor

namespace Go.Proofs.YtcioicoedmmkhaaGreatDoor
open Go Ev

def sAllow : List UInt8 := [97, 108, 108, 111, 119]
def sDeny : List UInt8 := [100, 101, 110, 121]
def sOut : List UInt8 := [111, 117, 116]
def sIn : List UInt8 := [105, 110]
def sAny : List UInt8 := [97, 110, 121]
def sUdp : List UInt8 := [117, 100, 112]
def sTcp : List UInt8 := [116, 99, 112]
def protoB (p : Int) : List UInt8 := if p = 0 then sAny else if p = 1 then sUdp else sTcp
def RuleS.words (r : RuleS) : List (List UInt8) := [if r.allow = true then sAllow else sDeny, if r.out = true then sOut else sIn, protoB r.proto, Lib.itoa r.low ++ [45] ++ Lib.itoa r.top]
def RuleS.line (r : RuleS) : List UInt8 := Lib.join r.words [32]
section
variable {w : World} {G : RuleS → Prop} {a b : Option Addr} {n m c d : Nat} {xs ys : List RuleS}
end
end Go.Proofs.YtcioicoedmmkhaaGreatDoor

namespace Go.Proofs.YtcioicoedmmkhaaGreatDoor
open Go Ev
def isDig (b : UInt8) : Bool := decide (48 ≤ b.toNat ∧ b.toNat ≤ 57)
def valD (l : List UInt8) : Nat := l.foldl (fun n b => 10 * n + (b.toNat - 48)) 0
theorem valD_app (l : List UInt8) (b : UInt8) : valD (l ++ [b]) = 10 * valD l + (b.toNat - 48) := by
  unfold valD
  rw [List.foldl_append]
  rfl
structure Canon (l : List UInt8) : Prop where
  ne : l ≠ []
  dig : ∀ b ∈ l, isDig b = true
  lead : 1 < l.length → l[0]? ≠ some 48
theorem isDig_iff {b : UInt8} : isDig b = true ↔ 48 ≤ b.toNat ∧ b.toNat ≤ 57 := decide_eq_true_iff
theorem dec_facts : ∀ n : Nat, Lib.decDigits n ≠ [] ∧ (∀ b ∈ Lib.decDigits n, isDig b = true) ∧ (1 ≤ n → (Lib.decDigits n)[0]? ≠ some 48) ∧ valD (Lib.decDigits n) = n ∧ (n < 10 → (Lib.decDigits n).length = 1) := by
  intro n
  induction n using Nat.strongRecOn with
  | ind n ih =>
    by_cases h : n < 10
    · rw [Lib.decDigits_one h]
      have ht : (UInt8.ofNat (48 + n)).toNat = 48 + n := by
        rw [UInt8.toNat_ofNat']
        omega
      refine ⟨by simp, fun b hb => ?_, fun h1 => ?_, ?_, fun _ => rfl⟩
      · obtain rfl := List.mem_singleton.1 hb
        rw [isDig_iff, ht]
        omega
      · simp only [List.getElem?_cons_zero, ne_eq, Option.some.injEq]
        intro e
        have := congrArg UInt8.toNat e
        rw [ht] at this
        have h48 : (48 : UInt8).toNat = 48 := rfl
        omega
      · show 10 * 0 + ((UInt8.ofNat (48 + n)).toNat - 48) = n
        rw [ht]
        omega
    · obtain ⟨i1, i2, i3, i4, _⟩ := ih (n / 10) (by omega)
      rw [Lib.decDigits, dif_neg h]
      have ht : (UInt8.ofNat (48 + n % 10)).toNat = 48 + n % 10 := by
        rw [UInt8.toNat_ofNat']
        omega
      have hl : 0 < (Lib.decDigits (n / 10)).length := List.length_pos_iff.2 i1
      refine ⟨by simp, fun b hb => ?_, fun h1 => ?_, ?_, fun h1 => absurd h1 h⟩
      · rcases List.mem_append.1 hb with hb | hb
        · exact i2 b hb
        · obtain rfl := List.mem_singleton.1 hb
          rw [isDig_iff, ht]
          omega
      · rw [List.getElem?_append_left hl]
        exact i3 (by omega)
      · rw [valD_app, i4, ht]
        omega
theorem dec_canon (n : Nat) : Canon (Lib.decDigits n) := by
  obtain ⟨h1, h2, h3, _, h5⟩ := dec_facts n
  exact ⟨h1, h2, fun hl => h3 (by
    refine Nat.le_of_not_lt fun h => ?_
    have := h5 (by omega)
    omega)⟩
theorem itoa_nat (n : Nat) : Lib.itoa (n : Int) = Lib.decDigits n := by
  unfold Lib.itoa
  rw [if_neg (by omega), Int.toNat_natCast]
theorem itoa_canon {v : Int} (h : 0 ≤ v) : Canon (Lib.itoa v) ∧ (valD (Lib.itoa v) : Int) = v := by
  obtain ⟨n, rfl⟩ : ∃ n : Nat, v = n := ⟨v.toNat, by omega⟩
  rw [itoa_nat]
  exact ⟨dec_canon n, by rw [(dec_facts n).2.2.2.1]⟩
theorem parse_dig : ∀ (l : List UInt8) (acc : Nat), (∀ b ∈ l, isDig b = true) → (acc + 1) * 10 ^ l.length ≤ 1000000000000000000 → Lib.parseUint10 acc l = .ok (l.foldl (fun n b => 10 * n + (b.toNat - 48)) acc)
  | [], _, _, _ => rfl
  | b :: l, acc, h, hb => by
    have hd := isDig_iff.1 (h b List.mem_cons_self)
    rw [List.length_cons, Nat.pow_succ] at hb
    have h1 : (acc * 10 + (b.toNat - 48) + 1) * 10 ^ l.length ≤ 1000000000000000000 := by
      refine Nat.le_trans (Nat.mul_le_mul_right _ (show acc * 10 + (b.toNat - 48) + 1 ≤ (acc + 1) * 10 by omega)) ?_
      rw [Nat.mul_assoc, Nat.mul_comm 10]
      exact hb
    have h10 : 1 ≤ 10 ^ l.length := Nat.one_le_pow _ _ (by omega)
    have h2 : acc * 10 + (b.toNat - 48) + 1 ≤ 1000000000000000000 := Nat.le_trans (Nat.le_mul_of_pos_right _ h10) h1
    simp only [Lib.parseUint10]
    rw [if_pos hd, if_neg (by omega), if_neg (by omega), parse_dig l _ (fun c hc => h c (List.mem_cons_of_mem _ hc)) h1, List.foldl_cons, Nat.mul_comm acc]
theorem atoi_canon {s : List UInt8} (h : Canon s) (hl : s.length ≤ 18) : Lib.atoiAll s = .ok (valD s : Nat) := by
  obtain ⟨c, r, rfl⟩ : ∃ c r, s = c :: r := by
    cases s with
    | nil => exact absurd rfl h.ne
    | cons c r => exact ⟨c, r, rfl⟩
  have hd := isDig_iff.1 (h.dig c List.mem_cons_self)
  have hp : (0 + 1) * 10 ^ (c :: r).length ≤ 1000000000000000000 := by
    rw [Nat.zero_add, Nat.one_mul]
    exact Nat.pow_le_pow_right (by omega) hl
  have hv := parse_dig (c :: r) 0 h.dig hp
  have hlt : valD (c :: r) < 1000000000000000001 := by
    have key : ∀ (l : List UInt8) (acc : Nat), (∀ b ∈ l, isDig b = true) → l.foldl (fun n b => 10 * n + (b.toNat - 48)) acc < (acc + 1) * 10 ^ l.length := by
      intro l
      induction l with
      | nil => intro acc _; simp
      | cons b l ih =>
        intro acc hb
        have hd := isDig_iff.1 (hb b List.mem_cons_self)
        have := ih (10 * acc + (b.toNat - 48)) fun c hc => hb c (List.mem_cons_of_mem _ hc)
        rw [List.foldl_cons, List.length_cons, Nat.pow_succ]
        refine Nat.lt_of_lt_of_le this ?_
        rw [Nat.mul_comm (10 ^ l.length) 10, ← Nat.mul_assoc]
        exact Nat.mul_le_mul_right _ (by omega)
    exact Nat.lt_succ_of_le (Nat.le_trans (Nat.le_of_lt (key (c :: r) 0 h.dig)) hp)
  unfold Lib.atoiAll
  dsimp only
  rw [if_neg (by omega)]
  unfold Lib.parseMag
  rw [if_neg (by simp), hv]
  dsimp only
  show (if ¬ c.toNat = 45 ∧ 9223372036854775808 ≤ valD (c :: r) then _ else _) = _
  rw [if_neg (by omega), if_neg (by omega), if_neg (by omega)]
  rfl
end Go.Proofs.YtcioicoedmmkhaaGreatDoor

namespace Go.Proofs.YtcioicoedmmkhaaGreatDoor
open Go Ev
def cutR (c : UInt8) : List UInt8 → List (List UInt8)
  | [] => [[]]
  | b :: l => if b = c then [] :: cutR c l else match cutR c l with
    | w :: ws => (b :: w) :: ws
    | [] => [[b]]
theorem cutR_ne (c : UInt8) (l : List UInt8) : cutR c l ≠ [] := by
  cases l with
  | nil => simp [cutR]
  | cons b l =>
    unfold cutR
    split
    · simp
    · split <;> simp
theorem cutR_cons (c : UInt8) (l : List UInt8) : ∃ w ws, cutR c l = w :: ws := by
  cases h : cutR c l with
  | nil => exact absurd h (cutR_ne c l)
  | cons w ws => exact ⟨w, ws, rfl⟩
theorem cutR_eq (c : UInt8) (l : List UInt8) : cutR c (c :: l) = [] :: cutR c l := by
  show (if c = c then _ else _) = _
  rw [if_pos rfl]
theorem cutR_other {c b : UInt8} {l : List UInt8} (h : b ≠ c) {w : List UInt8} {ws : List (List UInt8)} (hw : cutR c l = w :: ws) : cutR c (b :: l) = (b :: w) :: ws := by
  show (if b = c then _ else match cutR c l with | w :: ws => _ | [] => _) = _
  rw [if_neg h, hw]
theorem cutR_word {c : UInt8} : ∀ (w l : List UInt8), c ∉ w → cutR c (w ++ c :: l) = w :: cutR c l
  | [], l, _ => cutR_eq c l
  | b :: w, l, h => by
    have hb : b ≠ c := fun e => h (e ▸ List.mem_cons_self)
    exact cutR_other hb (cutR_word w l fun hc => h (List.mem_cons_of_mem _ hc))
theorem cutR_one {c : UInt8} : ∀ (w : List UInt8), c ∉ w → cutR c w = [w]
  | [], _ => rfl
  | b :: w, h => by
    have hb : b ≠ c := fun e => h (e ▸ List.mem_cons_self)
    exact cutR_other hb (cutR_one w fun hc => h (List.mem_cons_of_mem _ hc))
theorem join_cc (x y : List UInt8) (r : List (List UInt8)) (sep : List UInt8) : Lib.join (x :: y :: r) sep = x ++ (sep ++ Lib.join (y :: r) sep) := by
  rw [Lib.join_cons, Lib.join_cons]
  simp [Lib.joinTail, List.append_assoc]
theorem join_cutR (c : UInt8) : ∀ l : List UInt8, Lib.join (cutR c l) [c] = l
  | [] => Lib.join_one _ _
  | b :: l => by
    have ih := join_cutR c l
    obtain ⟨w, ws, hw⟩ := cutR_cons c l
    by_cases h : b = c
    · subst h
      rw [cutR_eq, hw, join_cc, ← hw, ih]
      rfl
    · rw [cutR_other h hw]
      rw [hw] at ih
      rw [Lib.join_cons] at ih ⊢
      rw [List.cons_append, ih]
theorem cutR_no {c : UInt8} : ∀ (l w : List UInt8), w ∈ cutR c l → c ∉ w
  | [], w, h => by
    obtain rfl := List.mem_singleton.1 h
    simp
  | b :: l, w, h => by
    obtain ⟨v, vs, hv⟩ := cutR_cons c l
    have ih := cutR_no (c := c) l
    rw [hv] at ih
    by_cases hb : b = c
    · subst hb
      rw [cutR_eq, hv] at h
      rcases List.mem_cons.1 h with rfl | h
      · simp
      · exact ih w h
    · rw [cutR_other hb hv] at h
      rcases List.mem_cons.1 h with rfl | h
      · intro hc
        rcases List.mem_cons.1 hc with e | hc
        · exact hb e.symm
        · exact ih v List.mem_cons_self hc
      · exact ih w (List.mem_cons_of_mem _ h)
theorem splitK_cutR (c : UInt8) : ∀ (s : List UInt8) (k : Nat), s.count c ≤ k → Lib.splitK [c] 0 k s = cutR c s
  | [], 0, _ => rfl
  | [], k + 1, _ => by
    unfold Lib.splitK
    rfl
  | b :: l, k, h => by
    obtain ⟨w, ws, hw⟩ := cutR_cons c l
    by_cases hb : b = c
    · subst hb
      rw [List.count_cons_self] at h
      obtain ⟨k, rfl⟩ : ∃ j, k = j + 1 := ⟨k - 1, by omega⟩
      have hi : Lib.index (b :: l) [b] = 0 := by
        unfold Lib.index
        rw [if_pos (by simp)]
      unfold Lib.splitK
      rw [hi, if_neg (by decide), cutR_eq, ← splitK_cutR b l k (by omega)]
      rfl
    · rw [List.count_cons_of_ne hb] at h
      rw [cutR_other hb hw]
      have ih := splitK_cutR c l k h
      rw [hw] at ih
      cases k with
      | zero =>
        cases ih
        rfl
      | succ k =>
        have hi : Lib.index (b :: l) [c] = if Lib.index l [c] == -1 then -1 else Lib.index l [c] + 1 := by
          show (if ([c] : List UInt8).isPrefixOf (b :: l) = true then _ else _) = _
          rw [if_neg (by simp [List.isPrefixOf, Ne.symm hb])]
        have hge := Lib.index_ge l [c]
        unfold Lib.splitK at ih ⊢
        rw [hi]
        by_cases hm : Lib.index l [c] == -1
        · rw [if_pos hm] at ih ⊢
          rw [if_pos (by decide)]
          cases ih
          rfl
        · rw [if_neg hm] at ih ⊢
          have hne : Lib.index l [c] ≠ -1 := fun e => hm (by rw [e]; rfl)
          rw [if_neg (by simp; omega)]
          obtain ⟨e1, e2⟩ := List.cons.inj ih
          have ht : (Lib.index l [c] + 1).toNat = (Lib.index l [c]).toNat + 1 := by omega
          rw [ht, ← e1, ← e2]
          simp only [Nat.add_zero, List.take_succ_cons, List.length_singleton, List.drop_succ_cons]
theorem cut_two {c : UInt8} {l a b : List UInt8} {r : List (List UInt8)} (h : cutR c l = a :: b :: r) : Lib.cut l [c] = (a, Lib.join (b :: r) [c], true) := by
  have hl := join_cutR c l
  have hna := cutR_no (c := c) l a (by rw [h]; exact List.mem_cons_self)
  rw [h, join_cc, List.singleton_append] at hl
  have hi : ∀ (a t : List UInt8), c ∉ a → Lib.index (a ++ c :: t) [c] = (a.length : Int) := by
    intro a
    induction a with
    | nil =>
      intro t _
      show (if ([c] : List UInt8).isPrefixOf (c :: t) = true then (0 : Int) else _) = _
      rw [if_pos (by simp)]
      rfl
    | cons x a ih =>
      intro t hx
      have hxc : x ≠ c := fun e => hx (e ▸ List.mem_cons_self)
      have h2 := ih t fun hc => hx (List.mem_cons_of_mem _ hc)
      show (if ([c] : List UInt8).isPrefixOf (x :: (a ++ c :: t)) = true then (0 : Int) else if Lib.index (a ++ c :: t) [c] == -1 then -1 else Lib.index (a ++ c :: t) [c] + 1) = _
      rw [if_neg (by simp [List.isPrefixOf, Ne.symm hxc]), h2, if_neg (by simp only [beq_iff_eq]; omega), List.length_cons]
      omega
  rw [← hl]
  unfold Lib.cut
  rw [hi a _ hna, if_pos (by omega), Int.toNat_natCast, List.take_left, List.length_singleton]
  congr 2
  rw [show a.length + 1 = (a ++ [c]).length by simp, show a ++ c :: Lib.join (b :: r) [c] = (a ++ [c]) ++ Lib.join (b :: r) [c] by simp]
  exact List.drop_left
end Go.Proofs.YtcioicoedmmkhaaGreatDoor

namespace Go.Proofs.YtcioicoedmmkhaaGreatDoor
open Go Ev
theorem canon_no {l : List UInt8} (h : Canon l) {c : UInt8} (hc : isDig c = false) : c ∉ l := fun hm => by
  rw [h.dig c hm] at hc
  cases hc
theorem words4 {s : List UInt8} (h : (cutR 32 s).length = 4) : ∃ a b p n, cutR 32 s = [a, b, p, n] := by
  generalize cutR 32 s = l at h
  match l, h with
  | [a, b, p, n], _ => exact ⟨a, b, p, n, rfl⟩
end Go.Proofs.YtcioicoedmmkhaaGreatDoor

namespace Go.Proofs.YtcioicoedmmkhaaGreatDoor
open Go Ev
theorem dec_len : ∀ (k n : Nat), n < 10 ^ (k + 1) → (Lib.decDigits n).length ≤ k + 1
  | 0, n, h => by
    rw [Lib.decDigits_one (by omega)]
    simp
  | k + 1, n, h => by
    rw [Lib.decDigits]
    split
    · simp
    · rw [List.length_append, List.length_singleton]
      have := dec_len k (n / 10) (by rw [Nat.div_lt_iff_lt_mul (by decide), ← Nat.pow_succ]; exact h)
      omega
theorem mem_join {c : UInt8} {sep : List UInt8} : ∀ (ws : List (List UInt8)), c ∈ Lib.join ws sep → c ∈ sep ∨ ∃ w ∈ ws, c ∈ w
  | [], h => by simp [Lib.join] at h
  | [w], h => by
    rw [Lib.join_one] at h
    exact .inr ⟨w, List.mem_cons_self, h⟩
  | w :: v :: r, h => by
    rw [join_cc] at h
    rcases List.mem_append.1 h with h | h
    · exact .inr ⟨w, List.mem_cons_self, h⟩
    rcases List.mem_append.1 h with h | h
    · exact .inl h
    rcases mem_join (v :: r) h with h | ⟨u, hu, h⟩
    · exact .inl h
    · exact .inr ⟨u, List.mem_cons_of_mem _ hu, h⟩
end Go.Proofs.YtcioicoedmmkhaaGreatDoor

namespace Go.Proofs.YtcioicoedmmkhaaGreatDoor
open Go Ev
def endT (a p : Int) : List UInt8 := Lib.itoa a ++ [58] ++ Lib.itoa p
def fSyn : List UInt8 := [115, 121, 110]
def fAck : List UInt8 := [97, 99, 107]
def fFin : List UInt8 := [102, 105, 110]
def fRst : List UInt8 := [114, 115, 116]
def fnames : List (List UInt8) := [fSyn, fAck, fFin, fRst]
def fbit (n : Int) (i : Nat) : Bool := decide ((n.tdiv ((2 ^ i : Nat) : Int)).tmod 2 = 1)
def fwords (n : Int) (k : Nat) : List (List UInt8) := ((List.range k).filter (fbit n)).map fun i => fnames.getD i []
theorem fwords_step (n : Int) (k : Nat) : fwords n (k + 1) = fwords n k ++ if fbit n k = true then [fnames.getD k []] else [] := by
  unfold fwords
  rw [List.range_succ, List.filter_append, List.map_append]
  congr 1
  simp only [List.filter_cons, List.filter_nil]
  split <;> rfl
theorem fwords_len (n : Int) (k : Nat) : (fwords n k).length ≤ k := by
  unfold fwords
  rw [List.length_map]
  exact Nat.le_trans (List.length_filter_le _ _) (by simp)
theorem fwords_mem {n : Int} {k : Nat} {w : List UInt8} (hk : k ≤ 4) (h : w ∈ fwords n k) : w.length = 3 ∧ (32 : UInt8) ∉ w ∧ (43 : UInt8) ∉ w ∧ (10 : UInt8) ∉ w := by
  unfold fwords at h
  obtain ⟨i, hi, rfl⟩ := List.mem_map.1 h
  have := List.mem_range.1 (List.mem_filter.1 hi).1
  have : i = 0 ∨ i = 1 ∨ i = 2 ∨ i = 3 := by omega
  rcases this with rfl | rfl | rfl | rfl <;> decide
def ftext (n : Int) : List UInt8 := if fwords n 4 = [] then [45] else Lib.join (fwords n 4) [43]
theorem join_len3 : ∀ (l : List (List UInt8)), (∀ w ∈ l, w.length = 3) → (Lib.join l [43]).length ≤ 4 * l.length
  | [], _ => by simp [Lib.join]
  | [w], h => by
    rw [Lib.join_one, h w List.mem_cons_self]
    simp
  | w :: v :: r, h => by
    have ih := join_len3 (v :: r) fun x hx => h x (List.mem_cons_of_mem _ hx)
    rw [join_cc, List.length_append, List.length_append, h w List.mem_cons_self]
    simp only [List.length_cons, List.length_nil] at ih ⊢
    omega
theorem fjoin_len (n : Int) {k : Nat} (hk : k ≤ 4) : (Lib.join (fwords n k) [43]).length ≤ 16 := by
  have h1 := join_len3 (fwords n k) fun w hw => (fwords_mem hk hw).1
  have h2 := fwords_len n k
  omega
theorem ftext_len (n : Int) : (ftext n).length ≤ 16 := by
  unfold ftext
  split
  · decide
  · exact fjoin_len n (Nat.le_refl 4)
theorem ftext_no (n : Int) : (32 : UInt8) ∉ ftext n ∧ (10 : UInt8) ∉ ftext n := by
  unfold ftext
  split
  · decide
  · constructor
    · intro h
      rcases mem_join _ h with h | ⟨w, hw, h⟩
      · simp at h
      · exact (fwords_mem (Nat.le_refl 4) hw).2.1 h
    · intro h
      rcases mem_join _ h with h | ⟨w, hw, h⟩
      · simp at h
      · exact (fwords_mem (Nat.le_refl 4) hw).2.2.2 h
theorem ftext_inj : ∀ m, m < 16 → ∀ n, n < 16 → ftext (m : Nat) = ftext (n : Nat) → m = n := by decide +kernel
def PktS.head (p : PktS) : List UInt8 := if p.proto = 1 then sUdp else sTcp
def PktS.text (p : PktS) : List UInt8 := if p.proto = 1 then [117, 100, 112, 32] ++ endT p.sa p.sp ++ [32] ++ endT p.da p.dp else [116, 99, 112, 32] ++ endT p.sa p.sp ++ [32] ++ endT p.da p.dp ++ [32] ++ ftext p.flags
theorem endT_len (a p : Int) (h1 : I64 a) (h2 : I64 p) : (endT a p).length ≤ 43 := by
  have e1 := Lib.itoa_length_le a h1.1 h1.2
  have e2 := Lib.itoa_length_le p h2.1 h2.2
  unfold endT
  simp only [List.length_append, List.length_cons, List.length_nil]
  omega
theorem endB_facts {a p : Int} (h : endB a p = true) : 0 ≤ a ∧ a ≤ 1048576 ∧ 1 ≤ p ∧ p ≤ 65535 := of_decide_eq_true h
theorem err_facts {p : PktS} (h : p.err = 0) : (p.proto = 1 ∧ p.flags = 0 ∨ p.proto = 2) ∧ endB p.sa p.sp = true ∧ endB p.da p.dp = true ∧ 0 ≤ p.flags ∧ p.flags ≤ 15 := by
  unfold PktS.err at h
  split at h
  · cases h
  · rename_i hb
    split at h
    · cases h
    · rename_i hf
      unfold PktS.bad at hb
      rw [decide_eq_true_iff] at hb
      cases h1 : endB p.sa p.sp
      · exact absurd (.inr (.inl h1)) hb
      cases h2 : endB p.da p.dp
      · exact absurd (.inr (.inr (.inl h2))) hb
      refine ⟨?_, rfl, rfl, ?_⟩ <;> omega
theorem endT_no {a p : Int} (h : endB a p = true) (c : UInt8) (hc : isDig c = false) (hne : c ≠ 58) : c ∉ endT a p := by
  obtain ⟨h1, h2, h3, h4⟩ := endB_facts h
  intro hm
  rcases List.mem_append.1 hm with hm | hm
  · rcases List.mem_append.1 hm with hm | hm
    · exact canon_no (itoa_canon (by omega)).1 hc hm
    · exact hne (List.mem_singleton.1 hm)
  · exact canon_no (itoa_canon (by omega)).1 hc hm
theorem text_cut {p : PktS} (h : p.err = 0) : cutR 32 p.text = if p.proto = 1 then [sUdp, endT p.sa p.sp, endT p.da p.dp] else [sTcp, endT p.sa p.sp, endT p.da p.dp, ftext p.flags] := by
  obtain ⟨_, h2, h3, _⟩ := err_facts h
  have n2 := endT_no h2 32 (by decide) (by decide)
  have n3 := endT_no h3 32 (by decide) (by decide)
  unfold PktS.text
  split
  · rw [show [117, 100, 112, 32] ++ endT p.sa p.sp ++ [32] ++ endT p.da p.dp = sUdp ++ 32 :: (endT p.sa p.sp ++ 32 :: endT p.da p.dp) by simp [sUdp], cutR_word _ _ (by decide), cutR_word _ _ n2, cutR_one _ n3]
  · rw [show [116, 99, 112, 32] ++ endT p.sa p.sp ++ [32] ++ endT p.da p.dp ++ [32] ++ ftext p.flags = sTcp ++ 32 :: (endT p.sa p.sp ++ 32 :: (endT p.da p.dp ++ 32 :: ftext p.flags)) by simp [sTcp], cutR_word _ _ (by decide), cutR_word _ _ n2, cutR_word _ _ n3, cutR_one _ (ftext_no _).1]
def EndR (s : List UInt8) (x y : Int) (k : Bool) : Prop := (k = true → endT x y = s) ∧ ∀ x' y', endB x' y' = true → endT x' y' = s → k = true ∧ x = x' ∧ y = y'
def PktR (s : List UInt8) (p : PktS) (k : Bool) : Prop := (k = true → p.err = 0 ∧ p.text = s) ∧ (k = false → p = noPkt) ∧ ∀ q : PktS, q.err = 0 → q.text = s → k = true ∧ p = q
theorem endT_cut {x y : Int} (h : endB x y = true) : Lib.cut (endT x y) [58] = (Lib.itoa x, Lib.itoa y, true) ∧ cutR 58 (endT x y) = [Lib.itoa x, Lib.itoa y] := by
  obtain ⟨h1, h2, h3, h4⟩ := endB_facts h
  have hc : cutR 58 (endT x y) = [Lib.itoa x, Lib.itoa y] := by
    unfold endT
    rw [List.append_assoc, List.singleton_append, cutR_word _ _ (canon_no (itoa_canon (by omega)).1 (by decide)), cutR_one _ (canon_no (itoa_canon (by omega)).1 (by decide))]
  refine ⟨?_, hc⟩
  have := cut_two hc
  rw [Lib.join_one] at this
  exact this
theorem itoa_len9 {v : Int} (h0 : 0 ≤ v) (h1 : v < 1000000000) : (Lib.itoa v).length ≤ 9 := by
  obtain ⟨n, rfl⟩ : ∃ n : Nat, v = n := ⟨v.toNat, by omega⟩
  rw [itoa_nat]
  exact dec_len 8 n (by omega)
theorem atoi_itoa {v : Int} (h0 : 0 ≤ v) (h1 : v < 1000000000) : Lib.atoiAll (Lib.itoa v) = .ok v := by
  obtain ⟨g1, g2⟩ := itoa_canon h0
  have := itoa_len9 h0 h1
  rw [atoi_canon g1 (by omega), g2]
theorem endR_of {s a b : List UInt8} {c k : Bool} {x y : Int} (hcut : Lib.cut s [58] = (a, b, c)) (ha : ∀ m, Lib.atoiAll a = .ok m → x = m) (hb : ∀ m, Lib.atoiAll b = .ok m → y = m)
    (hk : k = true ↔ (∃ m, Lib.atoiAll a = .ok m) ∧ (∃ m, Lib.atoiAll b = .ok m) ∧ endT x y = s) : EndR s x y k := by
  refine ⟨fun h => (hk.1 h).2.2, fun x' y' he hs => ?_⟩
  obtain ⟨h1, h2, h3, h4⟩ := endB_facts he
  obtain ⟨e, _⟩ := endT_cut he
  rw [hs, hcut] at e
  obtain ⟨rfl, e2⟩ := Prod.mk.inj e
  obtain ⟨rfl, _⟩ := Prod.mk.inj e2
  clear e e2
  obtain rfl := ha x' (atoi_itoa h1 (by omega))
  obtain rfl := hb y' (atoi_itoa (by omega) (by omega))
  exact ⟨hk.2 ⟨⟨_, atoi_itoa h1 (by omega)⟩, ⟨_, atoi_itoa (by omega) (by omega)⟩, hs⟩, rfl, rfl⟩
def flagOf (f : List UInt8) : Nat → Option Nat
  | 0 => none
  | n + 1 => if ftext (n : Nat) = f then some n else flagOf f n
theorem flagOf_some {f : List UInt8} : ∀ {k n : Nat}, flagOf f k = some n → n < k ∧ ftext (n : Nat) = f
  | 0, n, h => by cases h
  | k + 1, n, h => by
    unfold flagOf at h
    split at h
    · cases h
      exact ⟨by omega, by assumption⟩
    · obtain ⟨h1, h2⟩ := flagOf_some h
      exact ⟨by omega, h2⟩
theorem flagOf_none {f : List UInt8} : ∀ {k : Nat}, flagOf f k = none → ∀ n, n < k → ftext (n : Nat) ≠ f
  | 0, _, n, hn => by omega
  | k + 1, h, n, hn => by
    unfold flagOf at h
    split at h
    · cases h
    · rename_i hne
      by_cases e : n = k
      · subst e
        exact hne
      · exact flagOf_none h n (by omega)
theorem flagOf_eq {n : Nat} (h : n < 16) : flagOf (ftext (n : Nat)) 16 = some n := by
  cases e : flagOf (ftext (n : Nat)) 16 with
  | none => exact absurd rfl (flagOf_none e n h)
  | some m =>
    obtain ⟨h1, h2⟩ := flagOf_some e
    rw [ftext_inj m h1 n h h2]
end Go.Proofs.YtcioicoedmmkhaaGreatDoor

namespace Go.Proofs.YtcioicoedmmkhaaGreatDoor
open Go Ev

abbrev encT (l : List UInt8) : List Value := [.string (bs l)]
theorem codT : Codec 1 encT := ⟨fun _ => rfl, fun _ => rfl, by decide⟩
theorem flat_encT (l : List (List UInt8)) : l.flatMap encT = l.map fun l => .string (bs l) := by
  induction l with
  | nil => rfl
  | cons x l ih => rw [List.flatMap_cons, ih]; rfl
def MaxL (w : World) : Prop := ∃ m : Int, w.cell? ⟨14, 0, none⟩ = some (.int .i64 m)
theorem MaxL.no {w w' : World} (h : MaxL w) (hx : Ext No w w') : MaxL w' := h.elim fun m hm => ⟨m, hx.cell hm id⟩
structure NumV (w : World) : Prop where
  syn : ∃ e, w.cell? ⟨15, 0, none⟩ = some e ∧ (e = .nilIface ∨ ∃ t p, e = .iface t p)
  rng : ∃ e, w.cell? ⟨16, 0, none⟩ = some e ∧ (e = .nilIface ∨ ∃ t p, e = .iface t p)
theorem NumV.no {w w' : World} (h : NumV w) (hx : Ext No w w') : NumV w' :=
  ⟨h.syn.elim fun e he => ⟨e, hx.cell he.1 id, he.2⟩, h.rng.elim fun e he => ⟨e, hx.cell he.1 id, he.2⟩⟩

theorem split_ok (l : List UInt8) (c : UInt8) (w : World) (hl : l.length ≤ 100000) (hM : MaxL w) :
    CallC Tryz.prog 32 #[.string (bs l), .string (bs [c])] w fun v w' => (∃ b, v = .slice (some ⟨b, 0, none⟩) (cutR c l).length (cutR c l).length ∧ w.heap.size ≤ b ∧ Blk w' b 9 ((cutR c l).map fun l => .string (bs l))) ∧ Ext No w w' := by
  obtain ⟨m, hm⟩ := hM
  have hc : Lib.countB (bs l) (bs [c]) = l.count c := Lib.count_one c l
  have hd := Lib.splitB_data (bs [c]) 0 (Lib.countB (bs l) (bs [c])) (bs l)
  have hsk : Lib.splitK (bs [c]).data.toList 0 (Lib.countB (bs l) (bs [c])) (bs l).data.toList = cutR c l := splitK_cutR c l _ (by rw [hc]; exact Nat.le_refl _)
  rw [hsk] at hd
  have hlen : (cutR c l).length = Lib.countB (bs l) (bs [c]) + 1 := by
    rw [← hd, List.length_map]
    exact Lib.splitB_all _ (by rw [bs_size]; simp) _ _ _ rfl
  have hmap : (Lib.splitB (bs [c]) 0 (Lib.countB (bs l) (bs [c])) (bs l)).map Value.string = (cutR c l).map fun l => .string (bs l) := by
    rw [← hd, List.map_map]
    exact List.map_congr_left fun x _ => rfl
  refine Ev.CallC.of Tryz.func32 (by kernel_rfl) rfl ((Tryz.strings_Split (bs l) (bs [c]) m w (by rw [bs_size]; omega) hm (by rw [bs_size]; simp)).mono ?_)
  rintro e w' ⟨rfl, rfl⟩
  refine ⟨_, rfl, ⟨w.heap.size, by rw [hlen], Nat.le_refl _, ?_⟩, ?_⟩
  · rw [← hmap]
    show (w.heap.push _)[w.heap.size]? = _
    rw [Array.getElem?_push, if_pos rfl]
  · exact Ext.push No w 9 _
theorem cutT_ok (l : List UInt8) (c : UInt8) (w : World) (hl : l.length ≤ 100000) (hM : MaxL w) :
    CallC Tryz.prog 56 #[.string (bs l), .string (bs [c])] w fun v w' => v = .tuple #[.string (bs (Lib.cut l [c]).1), .string (bs (Lib.cut l [c]).2.1), .bool (Lib.cut l [c]).2.2] ∧ Ext No w w' := by
  obtain ⟨m, hm⟩ := hM
  refine Ev.CallC.of Tryz.func56 (by kernel_rfl) rfl ((Tryz.strings_Cut (bs l) (bs [c]) m w (by rw [bs_size]; omega) hm).mono ?_)
  rintro e w' ⟨rfl, n, rfl⟩
  exact ⟨_, rfl, rfl, Ext.drawn _ _ _⟩
theorem atoi_ok (l : List UInt8) (w : World) (hl : l.length ≤ 100000) (hV : NumV w) :
    CallC Tryz.prog 57 #[.string (bs l)] w fun v w' => (∃ n e, v = .tuple #[.int .i64 n, e] ∧ I64 n ∧ (Lib.atoiAll l = .ok n ∧ e = .nilIface ∨ (∀ m, Lib.atoiAll l ≠ .ok m) ∧ ∃ t u, e = .iface t u)) ∧ Ext No w w' := by
  have hall : CallC Tryz.prog 79 #[.string (bs l)] w fun v w' => v = Lib.intTuple 152 (Lib.atoiSat l) (Lib.atoiAll l) ∧ Ext No w w' := by
    refine Ev.CallC.of Tryz.func79 (by kernel_rfl) rfl ((Tryz.internal_strconv_Atoi_all (bs l) (by rw [bs_size]; omega) w).mono ?_)
    rintro e w' ⟨rfl, hw⟩
    refine ⟨_, rfl, rfl, ?_⟩
    rcases hw with rfl | ⟨t, rfl⟩
    · exact Ext.refl _ _
    · exact .of_below (Lib.bytesWorld_below _ _ _)
  have hbd := @Lib.atoiAll_bounds l
  obtain ⟨b1, b2⟩ := Lib.atoiSat_bounds l
  generalize Lib.atoiSat l = sat at hall b1 b2
  generalize Lib.atoiAll l = r at hall hbd ⊢
  refine fn_intro tabOk Tryz.func57 (by kernel_rfl) rfl Tryz.ntmps57 (Nat.le_of_ble_eq_true rfl) ?_
  have hS := St.start w No
  (conv => whnf)
  refine hall.mono ?_
  rintro v w1 ⟨rfl, hx⟩
  replace hS := hS.no hx
  clear hall
  cases r
  · rename_i n
    obtain ⟨c1, c2⟩ := hbd rfl
    repeat' ((conv => whnf); first | refine RetC.mk ?_ | refine NzC.mk (by decide) ?_ | refine RngC.mk (by omega) (by omega) ?_ | refine IdxC.mk (by omega) (by omega) ?_ | refine brD (fun _ => ?_) (fun _ => ?_) | refine brND (fun _ => ?_) (fun _ => ?_) | refine brN (fun _ => ?_) (fun _ => ?_) | refine brI (fun _ => ?_) (fun _ => ?_))
    exact ⟨⟨_, _, rfl, ⟨by omega, by omega⟩, .inl ⟨rfl, rfl⟩⟩, hS.ext⟩
  · obtain ⟨ev, h1, h2⟩ := (hV.no hS.ext).syn
    (conv => whnf)
    refine (Ev.CallC.of Tryz.func80 (by kernel_rfl) rfl ((Tryz.strconv_toError_syntax (bs [65, 116, 111, 105]) (bs l) 0 0 ev _ (by rw [bs_size]; omega) h1 h2).mono (R' := fun e w' => ∃ v, e = .returned v ∧ (∃ t u, v = .iface t u) ∧ Ext No w1 w') ?_)).mono ?_
    · rintro e w' ⟨N, rfl, _, _, hb⟩
      exact ⟨_, rfl, ⟨_, _, rfl⟩, .of_below hb⟩
    · rintro v w2 ⟨⟨t, u, rfl⟩, hx⟩
      replace hS := hS.no hx
      repeat' ((conv => whnf); first | refine RetC.mk ?_ | refine NzC.mk (by decide) ?_ | refine RngC.mk (by omega) (by omega) ?_ | refine IdxC.mk (by omega) (by omega) ?_ | refine brD (fun _ => ?_) (fun _ => ?_) | refine brND (fun _ => ?_) (fun _ => ?_) | refine brN (fun _ => ?_) (fun _ => ?_) | refine brI (fun _ => ?_) (fun _ => ?_))
      exact ⟨⟨_, _, rfl, ⟨by decide, by decide⟩, .inr ⟨(fun m hm => by cases hm), _, _, rfl⟩⟩, hS.ext⟩
  · obtain ⟨ev, h1, h2⟩ := (hV.no hS.ext).rng
    (conv => whnf)
    refine (Ev.CallC.of Tryz.func80 (by kernel_rfl) rfl ((Tryz.strconv_toError_range (bs [65, 116, 111, 105]) (bs l) 0 0 ev _ (by rw [bs_size]; omega) h1 h2).mono (R' := fun e w' => ∃ v, e = .returned v ∧ (∃ t u, v = .iface t u) ∧ Ext No w1 w') ?_)).mono ?_
    · rintro e w' ⟨N, rfl, _, _, hb⟩
      exact ⟨_, rfl, ⟨_, _, rfl⟩, .of_below hb⟩
    · rintro v w2 ⟨⟨t, u, rfl⟩, hx⟩
      replace hS := hS.no hx
      repeat' ((conv => whnf); first | refine RetC.mk ?_ | refine NzC.mk (by decide) ?_ | refine RngC.mk (by omega) (by omega) ?_ | refine IdxC.mk (by omega) (by omega) ?_ | refine brD (fun _ => ?_) (fun _ => ?_) | refine brND (fun _ => ?_) (fun _ => ?_) | refine brN (fun _ => ?_) (fun _ => ?_) | refine brI (fun _ => ?_) (fun _ => ?_))
      exact ⟨⟨_, _, rfl, ⟨by omega, by omega⟩, .inr ⟨(fun m hm => by cases hm), _, _, rfl⟩⟩, hS.ext⟩
end Go.Proofs.YtcioicoedmmkhaaGreatDoor

namespace Go.Proofs.YtcioicoedmmkhaaGreatDoor
open Go Ev

theorem below_ok : ∀ (m n : Nat), n < 10 ^ (m + 1) → m ≤ 18 → ∀ w : World, CallC Tryz.prog 61 #[.int .i64 (-(n : Int))] w fun v w' => v = .string (bs (Lib.decDigits n)) ∧ Ext No w w' := by
  intro m
  induction m with
  | zero =>
    intro n hn hm w
    have hd : Lib.decDigits n = [UInt8.ofNat (48 + n)] := Lib.decDigits_one (by omega)
    refine fn_intro tabOk Tryz.func61 (by kernel_rfl) rfl Tryz.ntmps61 (Nat.le_of_ble_eq_true rfl) ?_
    have hS := St.start w No
    (conv => whnf)
    refine brD (fun h => ?_) (fun h => absurd (show -(n : Int) > -10 by omega) h)
    (conv => whnf)
    refine RngC.mk (by omega) (by omega) ?_
    rw [show (48 : Int) - -(n : Int) = ((48 + n : Nat) : Int) by omega]
    (conv => whnf)
    refine (rbyte_ok (48 + n) (by omega) _).mono ?_
    rintro v w1 ⟨rfl, hx⟩
    replace hS := hS.no hx
    repeat' ((conv => whnf); first | refine RetC.mk ?_ | refine NzC.mk (by decide) ?_ | refine RngC.mk (by omega) (by omega) ?_ | refine IdxC.mk (by omega) (by omega) ?_ | refine brD (fun _ => ?_) (fun _ => ?_) | refine brND (fun _ => ?_) (fun _ => ?_) | refine brN (fun _ => ?_) (fun _ => ?_) | refine brI (fun _ => ?_) (fun _ => ?_))
    rw [hd]
    exact ⟨rfl, hS.ext⟩
  | succ m ih =>
    intro n hn hm w
    by_cases hlt : n < 10
    · exact ih n (Nat.lt_of_lt_of_le (by omega) (Nat.pow_le_pow_right (by decide) (show 1 ≤ m + 1 by omega))) (by omega) w
    have hd : Lib.decDigits n = Lib.decDigits (n / 10) ++ [UInt8.ofNat (48 + n % 10)] := by
      rw [Lib.decDigits, dif_neg hlt]
    have hdl := dec_len (m + 1) n hn
    rw [hd, List.length_append, List.length_singleton] at hdl
    have hbig : n < 10 ^ 19 := Nat.lt_of_lt_of_le hn (Nat.pow_le_pow_right (by decide) (by omega))
    have hq : (-(n : Int)).tdiv 10 = -((n / 10 : Nat) : Int) := by
      rw [Int.neg_tdiv, Int.tdiv_eq_ediv_of_nonneg (by omega)]
      omega
    have hr : (-(n : Int)).tmod 10 = -((n % 10 : Nat) : Int) := by
      rw [Int.neg_tmod, Int.tmod_eq_emod_of_nonneg (by omega)]
      omega
    refine fn_intro tabOk Tryz.func61 (by kernel_rfl) rfl Tryz.ntmps61 (Nat.le_of_ble_eq_true rfl) ?_
    have hS := St.start w No
    (conv => whnf)
    refine brD (fun h => absurd (show ¬ -(n : Int) > -10 by omega) (not_not_intro h)) (fun h => ?_)
    (conv => whnf)
    refine NzC.mk (by decide) ?_
    rw [hq]
    refine RngC.mk (by omega) (by omega) ?_
    (conv => whnf)
    refine (ih (n / 10) (by rw [Nat.div_lt_iff_lt_mul (by decide), ← Nat.pow_succ]; exact hn) (by omega) _).mono ?_
    rintro v w1 ⟨rfl, hx⟩
    replace hS := hS.no hx
    (conv => whnf)
    refine NzC.mk (by decide) ?_
    rw [hr]
    (conv => whnf)
    refine RngC.mk (by omega) (by omega) ?_
    rw [show (48 : Int) - -((n % 10 : Nat) : Int) = ((48 + n % 10 : Nat) : Int) by omega]
    (conv => whnf)
    refine (rbyte_ok (48 + n % 10) (by omega) _).mono ?_
    rintro v w2 ⟨rfl, hx⟩
    replace hS := hS.no hx
    (conv => whnf)
    refine addS (by simp; omega) ?_
    repeat' ((conv => whnf); first | refine RetC.mk ?_ | refine NzC.mk (by decide) ?_ | refine RngC.mk (by omega) (by omega) ?_ | refine IdxC.mk (by omega) (by omega) ?_ | refine brD (fun _ => ?_) (fun _ => ?_) | refine brND (fun _ => ?_) (fun _ => ?_) | refine brN (fun _ => ?_) (fun _ => ?_) | refine brI (fun _ => ?_) (fun _ => ?_))
    rw [hd]
    exact ⟨rfl, hS.ext⟩
end Go.Proofs.YtcioicoedmmkhaaGreatDoor

namespace Go.Proofs.YtcioicoedmmkhaaGreatDoor
open Go Ev

theorem cut_small (l : List UInt8) (c : UInt8) : ∃ x y k, Lib.cut l [c] = (x, y, k) ∧ x.length ≤ l.length ∧ y.length ≤ l.length := by
  unfold Lib.cut
  split
  · exact ⟨_, _, _, rfl, by rw [List.length_take]; omega, by rw [List.length_drop]; omega⟩
  · exact ⟨_, _, _, rfl, Nat.le_refl _, by simp⟩
theorem join_mem_len {w sep : List UInt8} : ∀ (ws : List (List UInt8)), w ∈ ws → w.length ≤ (Lib.join ws sep).length
  | [], h => by cases h
  | [x], h => by
    obtain rfl := List.mem_singleton.1 h
    rw [Lib.join_one]
    exact Nat.le_refl _
  | x :: y :: r, h => by
    rw [join_cc, List.length_append, List.length_append]
    rcases List.mem_cons.1 h with rfl | h
    · omega
    · have := join_mem_len (w := w) (sep := sep) (y :: r) h
      omega
theorem cutR_mem_len {c : UInt8} {l w : List UInt8} (h : w ∈ cutR c l) : w.length ≤ l.length := by
  have := join_mem_len (sep := [c]) _ h
  rwa [join_cutR] at this
end Go.Proofs.YtcioicoedmmkhaaGreatDoor

namespace Go.Proofs.YtcioicoedmmkhaaGreatDoor
open Go Ev
section
variable {P : Program} {k : Value → Prop} {t : TypeId}
end
end Go.Proofs.YtcioicoedmmkhaaGreatDoor

namespace Go.Proofs.YtcioicoedmmkhaaGreatDoor
open Go Ev
theorem ownT_some {w : World} {a : Option Addr} {n c : Nat} {xs : List (List UInt8)} (h : (ownL 9 1 encT (.slice a n c) xs).holds w) (hn : xs ≠ []) : ∃ b, a = some ⟨b, 0, none⟩ := by
  obtain ⟨h1, ⟨h2, h3⟩ | ⟨g, cap, cur, h2, _⟩⟩ := h
  · exact absurd (List.eq_nil_of_length_eq_zero h3) hn
  · cases h2
    exact ⟨g, rfl⟩
end Go.Proofs.YtcioicoedmmkhaaGreatDoor

namespace Go.Proofs.YtcioicoedmmkhaaGreatDoor
open Go Ev
theorem Ev.index_run1 {P : Program} {t e : TypeId} {l : List Value} {k : Nat} {x : Value} {i : Int} (hu : P.underlying t = some (.array l.length e)) (hi : (P.info? e).isSome = true) (hd : ∃ d, P.underlying e = some d) (hc : P.cellsOf e = 1) (hg : aggB P e = false) (hx : l[k]? = some x) (hk : i = (k : Int)) (w : World) :
    (Instr.index t (.agg l.toArray) (.int .i64 i)).run P w = .ok x w := by
  subst hk
  have hlt := (List.getElem?_eq_some_iff.1 hx).1
  have h1 := cellsOf_run hi w
  have h2 := part_run1 (P := P) (t := e) (cs := l) (off := k) hd hx hg w
  rw [hc] at h1
  simp [Instr.index, underlying, hu, asIntOf, asAgg, h1, h2, hlt]
theorem ownT_cap {w : World} {a : Option Addr} {n c : Nat} {xs : List (List UInt8)} (h : (ownL 9 1 encT (.slice a n c) xs).holds w) : n ≤ c := by
  obtain ⟨h1, ⟨h2, h3⟩ | ⟨g, cap, cur, h2, h3, h4, h5, h6, h7, h8⟩⟩ := h
  · cases h2
    exact Nat.le_refl _
  · cases h2
    assumption
def NamesV (w : World) : Prop := CellsAt w 11 0 (fnames.map fun l => .string (bs l))
theorem NamesV.no {w w' : World} (h : NamesV w) (hx : Ext No w w') : NamesV w' := hx.cells h id
theorem names_of {L : List (String × DataW Unit)} {W : World} (hl : laidMetH Tryz.prog L W) (hm : ("twinrampart/packet.names", .agg (fnames.map fun z => .lit (.string z))) ∈ L) : NamesV W := by
  obtain ⟨ps, ⟨g', t', cs, fuel, p, q, hg', ht', hvar, hd, _, _⟩, _⟩ := laid_one hl hm rfl
  have hg : Tryz.prog.globalNamed "twinrampart/packet.names" = some 11 := by kernel_rfl
  have hty : (Tryz.prog.globals[11]?).map (·.type) = some 100 := by kernel_rfl
  obtain rfl := Option.some.inj (hg.symm.trans hg')
  obtain rfl := Option.some.inj (hty.symm.trans ht')
  have hc := strs_of_trod Tryz.underlying100 Tryz.underlying9 (by kernel_rfl) (by kernel_rfl) hd
  intro i v hv
  have := World.var?_cell hg hvar i
  rw [Nat.zero_add, this, ← Array.getElem?_toList, hc]
  exact hv
theorem fbit_and : ∀ n, n < 16 → ∀ i, i < 4 → (band ((n / 2 ^ i : Nat) : Int) 1 == 1) = fbit (n : Nat) i := by decide +kernel
theorem pflags_ok (n : Nat) (hn : n < 16) (w : World) (hN : NamesV w) : CallC Tryz.prog 34 #[.int .i64 (n : Int)] w fun v w' => v = .string (bs (ftext n)) ∧ Ext No w w' := by
  refine fn_intro tabOk Tryz.func34 (by kernel_rfl) rfl Tryz.ntmps34 (Nat.le_of_ble_eq_true rfl) ?_
  have hS := St.start w No
  have hS := hS.add (ownL_local (e := 9) (enc := encT) (sz := 1) (v := .slice none 0 0) (xs := [])) (own_nil _ _ _) (by simp [ownL, own, Value.ownBlock]) (by simp [ownL, own, Value.ownBlock])
  (conv => whnf)
  refine hS.lar (l := fnames.map fun l => .string (bs l)) rfl hN id ?_
  (conv => whnf)
  refine loopR tabOk (fun σ w' q => ∃ (k : Nat) (a : Option Addr) (m c : Nat), σ = [(7, .int .i64 (k : Int)), (6, .agg (fnames.map fun l => .string (bs l)).toArray), (3, .slice a m c), (0, .int .i64 (n : Int))] ∧ q = 4 - k ∧ k ≤ 4 ∧ (fwords n k).length = m ∧ (m = 0 → a = none) ∧ St w No w' [ownL 9 1 encT (.slice a m c) (fwords n k)])
    (σ' := [(7, .int .i64 ((0 : Nat) : Int)), (6, .agg (fnames.map fun l => .string (bs l)).toArray), (3, .slice none 0 0), (0, .int .i64 (n : Int))]) (n := 4) ⟨rfl, rfl, rfl, rfl, trivial⟩ ⟨0, none, 0, 0, rfl, rfl, Nat.zero_le _, rfl, fun _ => rfl, hS⟩ ?_
  clear hS
  rintro _ w1 q ⟨k, a, m, c, rfl, rfl, hk, hm, ha, hS⟩
  have hm4 := fwords_len n k
  (conv => whnf)
  refine brD (fun h3 => ?_) (fun h3 => ?_)
  · have hk4 : k < 4 := by omega
    have hst := fwords_step n k
    have hat : (fnames.map fun l => Value.string (bs l))[k]? = some (.string (bs (fnames.getD k []))) := by
      rw [List.getElem?_map, List.getD_eq_getElem?_getD, List.getElem?_eq_getElem (show k < fnames.length from hk4)]
      rfl
    (conv => whnf)
    refine PureC.of (index_run1 (l := fnames.map fun l => .string (bs l)) (k := k) Tryz.underlying100 (by kernel_rfl) ⟨_, Tryz.underlying9⟩ (by kernel_rfl) (by kernel_rfl) hat rfl) ?_
    (conv => whnf)
    refine shrN (n := k) rfl (by show k ≤ 64; omega) ?_
    have hb := fbit_and n hn k hk4
    (conv => whnf)
    rw [hb]
    refine brI (fun h4 => ?_) (fun h4 => ?_)
    · rw [if_pos h4] at hst
      (conv => whnf)
      refine hS.lit (cs := encT (fnames.getD k [])) Tryz.underlying66 (sz := 1) (by kernel_rfl) (z := .string (bs [])) (by kernel_rfl) rfl rfl (by rfl) (fun bl w' hbl hS => ?_)
      have hx : Slc w' 1 encT (fun _ => True) (some ⟨bl, 0, none⟩) 1 [fnames.getD k []] := Slc.of_blk codT (hS.blk 1 rfl) rfl (by decide) (fun _ _ => trivial) rfl
      (conv => whnf)
      refine hS.appS codT 0 Tryz.underlying66 (bytes := 16) (by kernel_rfl) (z := .string (bs [])) (by kernel_rfl) rfl rfl hx (by unfold maxLen; omega) (by omega) (fun a2 c2 w' hS => ?_)
      rw [hm] at hS ⊢
      replace hS : St w No w' [ownL 9 1 encT (.slice a2 (m + 1) c2) (fwords n k ++ [fnames.getD k []]), blk bl 9 (encT (fnames.getD k []))] := hS
      replace hS := hS.keep 1
      rw [← hst] at hS
      (conv => whnf)
      refine RngC.mk (by omega) (by omega) ?_
      (conv => whnf)
      refine LoopE.mk ⟨_, [(7, .int .i64 ((k + 1 : Nat) : Int)), (6, _), (3, _), (0, _)], ?_, ⟨rfl, rfl, rfl, rfl, trivial⟩, ⟨k + 1, a2, m + 1, c2, rfl, rfl, by omega, by rw [hst, List.length_append, hm]; rfl, fun h => absurd h (by omega), hS⟩⟩
      omega
    · rw [if_neg (by rw [h4]; decide), List.append_nil] at hst
      (conv => whnf)
      refine RngC.mk (by omega) (by omega) ?_
      (conv => whnf)
      refine LoopE.mk ⟨_, [(7, .int .i64 ((k + 1 : Nat) : Int)), (6, _), (3, _), (0, _)], ?_, ⟨rfl, rfl, rfl, rfl, trivial⟩, ⟨k + 1, a, m, c, rfl, rfl, by omega, by rw [hst, hm], ha, by rw [hst]; exact hS⟩⟩
      omega
  · obtain rfl : k = 4 := by omega
    have hj := fjoin_len n (Nat.le_refl 4)
    by_cases hz : fwords n 4 = []
    · have hm0 : m = 0 := by rw [← hm, hz]; rfl
      obtain rfl := ha hm0
      repeat' ((conv => whnf); first | refine RetC.mk ?_ | refine NzC.mk (by decide) ?_ | refine RngC.mk (by omega) (by omega) ?_ | refine IdxC.mk (by omega) (by omega) ?_ | refine brD (fun _ => ?_) (fun _ => ?_) | refine brND (fun _ => ?_) (fun _ => ?_) | refine brN (fun _ => ?_) (fun _ => ?_) | refine brI (fun _ => ?_) (fun _ => ?_))
      unfold ftext
      rw [if_pos hz]
      exact ⟨rfl, hS.ext⟩
    · obtain ⟨b, rfl⟩ := ownT_some (hS.get 0 rfl) hz
      have hpos : 0 < m := by
        rw [← hm]
        exact List.length_pos_iff.2 hz
      have hcap := ownT_cap (hS.get 0 rfl)
      have hcells : CellsAt w1 b 0 ((fwords n 4).map fun l => .string (bs l)) := by
        have := own_cells codT (hS.get 0 rfl)
        rwa [flat_encT] at this
      (conv => whnf)
      refine (join_ok (fwords n 4) [43] _ hm hcells hpos hcap (by omega) (by omega)).mono ?_
      rintro v w2 ⟨rfl, hx⟩
      replace hS := hS.no hx
      repeat' ((conv => whnf); first | refine RetC.mk ?_ | refine NzC.mk (by decide) ?_ | refine RngC.mk (by omega) (by omega) ?_ | refine IdxC.mk (by omega) (by omega) ?_ | refine brD (fun _ => ?_) (fun _ => ?_) | refine brND (fun _ => ?_) (fun _ => ?_) | refine brN (fun _ => ?_) (fun _ => ?_) | refine brI (fun _ => ?_) (fun _ => ?_))
      unfold ftext
      rw [if_neg hz]
      exact ⟨rfl, hS.ext⟩
theorem endText_ok (a p : Int) (h1 : I64 a) (h2 : I64 p) (w : World) (ht : Pow10 w) : CallC Tryz.prog 38 #[.agg #[.int .i64 a, .int .i64 p]] w fun v w' => v = .string (bs (endT a p)) ∧ Ext No w w' := by
  have e1 := Lib.itoa_length_le a h1.1 h1.2
  have e2 := Lib.itoa_length_le p h2.1 h2.2
  refine fn_intro tabOk Tryz.func38 (by kernel_rfl) rfl Tryz.ntmps38 (Nat.le_of_ble_eq_true rfl) ?_
  have hS := St.start w No
  (conv => whnf)
  refine hS.new (fun b w' hb hS => ?_)
  replace hS : St w No w' [blk b 24 [.int .i64 a, .int .i64 p]] := hS
  (conv => whnf)
  (refine drawS tabOk mixed [] (No) [0, 1, 4, 5, 2, 3, 6, 7, 8] (by kernel_rfl) ?_; rintro w1 rfl; replace hS := hS.drew)
  have hK := hS.ref No
  (conv => whnf)
  refine hS.ldF 0 rfl rfl id ?_
  (conv => whnf)
  refine hS.ldF 0 rfl rfl id ?_
  (conv => whnf)
  refine (itoa_ok a h1.1 h1.2 _ (ht.no hS.ext)).mono ?_
  rintro v w2 ⟨rfl, hx⟩
  replace hS := hS.no hx
  replace hK := hK.trans hx
  refine KeepC.mk hK ?_
  (conv => whnf)
  refine addS (b := [58]) (by simp; omega) ?_
  (conv => whnf)
  refine (itoa_ok p h2.1 h2.2 _ (ht.no hS.ext)).mono ?_
  rintro v w3 ⟨rfl, hx⟩
  replace hS := hS.no hx
  replace hK := hK.trans hx
  refine KeepC.mk hK ?_
  (conv => whnf)
  refine addS (by simp; omega) ?_
  repeat' ((conv => whnf); first | refine RetC.mk ?_ | refine NzC.mk (by decide) ?_ | refine RngC.mk (by omega) (by omega) ?_ | refine IdxC.mk (by omega) (by omega) ?_ | refine brD (fun _ => ?_) (fun _ => ?_) | refine brND (fun _ => ?_) (fun _ => ?_) | refine brN (fun _ => ?_) (fun _ => ?_) | refine brI (fun _ => ?_) (fun _ => ?_))
  exact ⟨rfl, hS.ext⟩
end Go.Proofs.YtcioicoedmmkhaaGreatDoor

namespace Go.Proofs.YtcioicoedmmkhaaGreatDoor
open Go Ev
theorem ptextP_ok {E : Nat → Addr} {q : Nat} (p : PktS) (w : World) (hE : Errs w E q [2, 3]) (ht : Pow10 w) (hN : NamesV w) :
    CallC Tryz.prog 13 #[.agg (encPkt p).toArray] w fun v w' => v = .tuple #[.string (bs (if p.err = 0 then p.text else [])), errV E p.err] ∧ Ext No w w' := by
  refine fn_intro tabOk Tryz.func13 (by kernel_rfl) rfl Tryz.ntmps13 (Nat.le_of_ble_eq_true rfl) ?_
  have hS := St.start w No
  (conv => whnf)
  refine hS.new (fun b w' hb hS => ?_)
  replace hS : St w No w' [blk b 26 (encPkt p)] := hS
  (conv => whnf)
  refine hS.laX 0 rfl rfl ?_
  (conv => whnf)
  refine (pcheck_ok p _ (hE.ext hS.ext fun _ h => h.elim)).mono ?_
  rintro v w2 ⟨rfl, hx⟩
  replace hS := hS.no hx
  clear hx
  cases hpe : p.err with
  | succ j =>
    rw [if_neg (by omega)]
    repeat' ((conv => whnf); first | refine RetC.mk ?_ | refine NzC.mk (by decide) ?_ | refine RngC.mk (by omega) (by omega) ?_ | refine IdxC.mk (by omega) (by omega) ?_ | refine brD (fun _ => ?_) (fun _ => ?_) | refine brND (fun _ => ?_) (fun _ => ?_) | refine brN (fun _ => ?_) (fun _ => ?_) | refine brI (fun _ => ?_) (fun _ => ?_))
    exact ⟨rfl, hS.ext⟩
  | zero =>
    rw [if_pos rfl]
    obtain ⟨f1, f2, f3, f4, f5⟩ := err_facts hpe
    have g2 := endB_facts f2
    have g3 := endB_facts f3
    obtain ⟨pr, sa, sp, da, dp, fl⟩ := p
    dsimp only at f1 f4 f5 g2 g3
    have i1 : I64 sa := ⟨by omega, by omega⟩
    have i2 : I64 sp := ⟨by omega, by omega⟩
    have i3 : I64 da := ⟨by omega, by omega⟩
    have i4 : I64 dp := ⟨by omega, by omega⟩
    have l1 := endT_len sa sp i1 i2
    have l2 := endT_len da dp i3 i4
    unfold PktS.text
    (conv => whnf)
    refine hS.ld 0 rfl rfl ?_
    (conv => whnf)
    refine brD (fun h1 => ?_) (fun h1 => ?_)
    · rw [if_pos (by exact h1)]
      (conv => whnf)
      (refine drawS tabOk mixed [] (No) [0, 1, 5, 6, 2, 3, 4, 7, 8, 9, 10] (by kernel_rfl) ?_; rintro w1 rfl; replace hS := hS.drew)
      have hK := hS.ref No
      (conv => whnf)
      refine hS.laXF 0 rfl rfl id ?_
      (conv => whnf)
      refine hS.laXF 0 rfl rfl id ?_
      (conv => whnf)
      refine (endText_ok sa sp i1 i2 _ (ht.no hS.ext)).mono ?_
      rintro v w3 ⟨rfl, hx⟩
      replace hS := hS.no hx
      replace hK := hK.trans hx
      refine KeepC.mk hK ?_
      clear hx
      (conv => whnf)
      refine addS (a := [117, 100, 112, 32]) (by simp; omega) ?_
      (conv => whnf)
      refine addS (b := [32]) (by simp; omega) ?_
      (conv => whnf)
      refine (endText_ok da dp i3 i4 _ (ht.no hS.ext)).mono ?_
      rintro v w4 ⟨rfl, hx⟩
      replace hS := hS.no hx
      replace hK := hK.trans hx
      refine KeepC.mk hK ?_
      clear hx
      (conv => whnf)
      refine addS (by simp; omega) ?_
      repeat' ((conv => whnf); first | refine RetC.mk ?_ | refine NzC.mk (by decide) ?_ | refine RngC.mk (by omega) (by omega) ?_ | refine IdxC.mk (by omega) (by omega) ?_ | refine brD (fun _ => ?_) (fun _ => ?_) | refine brND (fun _ => ?_) (fun _ => ?_) | refine brN (fun _ => ?_) (fun _ => ?_) | refine brI (fun _ => ?_) (fun _ => ?_))
      exact ⟨rfl, hS.ext⟩
    · rw [if_neg (by exact h1)]
      obtain ⟨fn, rfl⟩ : ∃ n : Nat, fl = n := ⟨fl.toNat, by omega⟩
      have l3 := ftext_len (fn : Int)
      (conv => whnf)
      (refine drawS tabOk mixed [] (No) [0, 1, 5, 6, 10, 11, 2, 3, 4, 7, 8, 9, 12, 13, 14, 15] (by kernel_rfl) ?_; rintro w1 rfl; replace hS := hS.drew)
      have hK := hS.ref No
      (conv => whnf)
      refine hS.laXF 0 rfl rfl id ?_
      (conv => whnf)
      refine hS.laXF 0 rfl rfl id ?_
      (conv => whnf)
      refine hS.ldF 0 rfl rfl id ?_
      (conv => whnf)
      refine (endText_ok sa sp i1 i2 _ (ht.no hS.ext)).mono ?_
      rintro v w3 ⟨rfl, hx⟩
      replace hS := hS.no hx
      replace hK := hK.trans hx
      refine KeepC.mk hK ?_
      clear hx
      (conv => whnf)
      refine addS (a := [116, 99, 112, 32]) (by simp; omega) ?_
      (conv => whnf)
      refine addS (b := [32]) (by simp; omega) ?_
      (conv => whnf)
      refine (endText_ok da dp i3 i4 _ (ht.no hS.ext)).mono ?_
      rintro v w4 ⟨rfl, hx⟩
      replace hS := hS.no hx
      replace hK := hK.trans hx
      refine KeepC.mk hK ?_
      clear hx
      (conv => whnf)
      refine addS (by simp; omega) ?_
      (conv => whnf)
      refine addS (b := [32]) (by simp; omega) ?_
      (conv => whnf)
      refine (pflags_ok fn (by omega) _ (hN.no hS.ext)).mono ?_
      rintro v w5 ⟨rfl, hx⟩
      replace hS := hS.no hx
      replace hK := hK.trans hx
      refine KeepC.mk hK ?_
      clear hx
      (conv => whnf)
      refine addS (by simp; omega) ?_
      repeat' ((conv => whnf); first | refine RetC.mk ?_ | refine NzC.mk (by decide) ?_ | refine RngC.mk (by omega) (by omega) ?_ | refine IdxC.mk (by omega) (by omega) ?_ | refine brD (fun _ => ?_) (fun _ => ?_) | refine brND (fun _ => ?_) (fun _ => ?_) | refine brN (fun _ => ?_) (fun _ => ?_) | refine brI (fun _ => ?_) (fun _ => ?_))
      exact ⟨rfl, hS.ext⟩
def PktS.bytes (p : PktS) : List UInt8 := numB p.proto.toNat 1 ++ (numB p.sa.toNat 4 ++ numB p.sp.toNat 2) ++ (numB p.da.toNat 4 ++ numB p.dp.toNat 2) ++ numB p.flags.toNat 1
theorem pencode_ok {E : Nat → Addr} {q : Nat} (p : PktS) (w : World) (hE : Errs w E q [2, 3]) :
    CallC Tryz.prog 14 #[.agg (encPkt p).toArray] w fun v w' => v = .tuple #[.string (bs (if p.err = 0 then p.bytes else [])), errV E p.err] ∧ Ext No w w' := by
  refine fn_intro tabOk Tryz.func14 (by kernel_rfl) rfl Tryz.ntmps14 (Nat.le_of_ble_eq_true rfl) ?_
  have hS := St.start w No
  (conv => whnf)
  refine hS.new (fun b w' hb hS => ?_)
  replace hS : St w No w' [blk b 26 (encPkt p)] := hS
  (conv => whnf)
  refine hS.laX 0 rfl rfl ?_
  (conv => whnf)
  refine (pcheck_ok p _ (hE.ext hS.ext fun _ h => h.elim)).mono ?_
  rintro v w2 ⟨rfl, hx⟩
  replace hS := hS.no hx
  clear hx
  cases hpe : p.err with
  | succ j =>
    rw [if_neg (by omega)]
    repeat' ((conv => whnf); first | refine RetC.mk ?_ | refine NzC.mk (by decide) ?_ | refine RngC.mk (by omega) (by omega) ?_ | refine IdxC.mk (by omega) (by omega) ?_ | refine brD (fun _ => ?_) (fun _ => ?_) | refine brND (fun _ => ?_) (fun _ => ?_) | refine brN (fun _ => ?_) (fun _ => ?_) | refine brI (fun _ => ?_) (fun _ => ?_))
    exact ⟨rfl, hS.ext⟩
  | zero =>
    rw [if_pos rfl]
    obtain ⟨f1, f2, f3, f4, f5⟩ := err_facts hpe
    have g2 := endB_facts f2
    have g3 := endB_facts f3
    obtain ⟨pr, sa, sp, da, dp, fl⟩ := p
    dsimp only at f1 f4 f5 g2 g3
    obtain ⟨pr, rfl⟩ : ∃ n : Nat, pr = n := ⟨pr.toNat, by omega⟩
    obtain ⟨sa, rfl⟩ : ∃ n : Nat, sa = n := ⟨sa.toNat, by omega⟩
    obtain ⟨sp, rfl⟩ : ∃ n : Nat, sp = n := ⟨sp.toNat, by omega⟩
    obtain ⟨da, rfl⟩ : ∃ n : Nat, da = n := ⟨da.toNat, by omega⟩
    obtain ⟨dp, rfl⟩ : ∃ n : Nat, dp = n := ⟨dp.toNat, by omega⟩
    obtain ⟨fl, rfl⟩ : ∃ n : Nat, fl = n := ⟨fl.toNat, by omega⟩
    have hn := numB_len
    unfold PktS.bytes
    simp only [Int.toNat_natCast]
    clear hpe f2 f3
    (conv => whnf)
    refine hS.ld 0 rfl rfl ?_
    (conv => whnf)
    refine (number_ok pr 1 (by omega) (by omega) _).mono ?_
    rintro v w3 ⟨rfl, hx⟩
    replace hS := hS.no hx
    clear hx
    (conv => whnf)
    refine hS.laX 0 rfl rfl ?_
    (conv => whnf)
    refine hS.laX 0 rfl rfl ?_
    (conv => whnf)
    refine hS.lit (cs := [.int .i64 sa, .int .i64 sp, .int .i64 da, .int .i64 dp]) Tryz.underlying74 (sz := 2) (by kernel_rfl) (z := .agg #[.int .i64 0, .int .i64 0]) (by kernel_rfl) rfl rfl (by rfl) (fun bl w' hbl hS => ?_)
    (conv => whnf)
    refine loopR tabOk (fun σ w' q => ∃ (k : Nat) (s : List UInt8), σ = [(22, .int .i64 (k : Int)), (21, .int .i64 2), (20, .slice (some ⟨bl, 0, none⟩) 2 2), (5, .string (bs s)), (1, .pointer (some ⟨b, 0, none⟩))] ∧ q = 2 - k ∧ (k = 0 ∧ s = numB pr 1 ∨ k = 1 ∧ s = numB pr 1 ++ (numB sa 4 ++ numB sp 2) ∨ k = 2 ∧ s = numB pr 1 ++ (numB sa 4 ++ numB sp 2) ++ (numB da 4 ++ numB dp 2)) ∧ St w No w' [blk b 26 (encPkt ⟨pr, sa, sp, da, dp, fl⟩), blk bl 24 [.int .i64 sa, .int .i64 sp, .int .i64 da, .int .i64 dp]])
      (σ' := [(22, .int .i64 ((0 : Nat) : Int)), (21, .int .i64 2), (20, .slice (some ⟨bl, 0, none⟩) 2 2), (5, .string (bs (numB pr 1))), (1, .pointer (some ⟨b, 0, none⟩))]) (n := 2) ⟨rfl, rfl, rfl, rfl, rfl, trivial⟩ ⟨0, _, rfl, rfl, .inl ⟨rfl, rfl⟩, hS⟩ ?_
    clear hS
    rintro _ w1 q ⟨k, s, rfl, rfl, ⟨rfl, rfl⟩ | ⟨rfl, rfl⟩ | ⟨rfl, rfl⟩, hS⟩
    · skip
      (conv => whnf)
      refine IdxC.mk (by omega) (by omega) ?_
      (conv => whnf)
      refine hS.laX 1 rfl rfl ?_
      (conv => whnf)
      refine hS.new (fun b7 w' hb7 hS => ?_)
      (conv => whnf)
      refine hS.st 2 rfl (Nat.le_of_ble_eq_true rfl) rfl (fun w' hS => ?_)
      (conv => whnf)
      (refine drawS tabOk mixed [] (No) [0, 1, 2, 4, 5, 3, 6, 7, 8, 9] (by kernel_rfl) ?_; rintro w1 rfl; replace hS := hS.drew)
      have hK := hS.ref No
      (conv => whnf)
      refine hS.ldF 2 rfl rfl id ?_
      (conv => whnf)
      refine hS.ldF 2 rfl rfl id ?_
      (conv => whnf)
      refine (number_ok sa 4 (by omega) (by omega) _).mono ?_
      rintro v w3 ⟨rfl, hx⟩
      replace hS := hS.no hx
      replace hK := hK.trans hx
      refine KeepC.mk hK ?_
      clear hx
      (conv => whnf)
      refine (number_ok sp 2 (by omega) (by omega) _).mono ?_
      rintro v w4 ⟨rfl, hx⟩
      replace hS := hS.no hx
      replace hK := hK.trans hx
      refine KeepC.mk hK ?_
      clear hx
      (conv => whnf)
      refine addS (by simp [hn]) ?_
      (conv => whnf)
      refine addS (by simp [hn]) ?_
      (conv => whnf)
      refine RngC.mk (by omega) (by omega) ?_
      (conv => whnf)
      refine LoopE.mk ⟨_, [(22, .int .i64 ((1 : Nat) : Int)), (21, _), (20, _), (5, _), (1, _)], ?_, ⟨rfl, rfl, rfl, rfl, rfl, trivial⟩, ⟨1, _, rfl, rfl, .inr (.inl ⟨rfl, rfl⟩), hS.keep 2⟩⟩
      omega
    · skip
      (conv => whnf)
      refine IdxC.mk (by omega) (by omega) ?_
      (conv => whnf)
      refine hS.laX 1 rfl rfl ?_
      (conv => whnf)
      refine hS.new (fun b7 w' hb7 hS => ?_)
      (conv => whnf)
      refine hS.st 2 rfl (Nat.le_of_ble_eq_true rfl) rfl (fun w' hS => ?_)
      (conv => whnf)
      (refine drawS tabOk mixed [] (No) [0, 1, 2, 4, 5, 3, 6, 7, 8, 9] (by kernel_rfl) ?_; rintro w1 rfl; replace hS := hS.drew)
      have hK := hS.ref No
      (conv => whnf)
      refine hS.ldF 2 rfl rfl id ?_
      (conv => whnf)
      refine hS.ldF 2 rfl rfl id ?_
      (conv => whnf)
      refine (number_ok da 4 (by omega) (by omega) _).mono ?_
      rintro v w3 ⟨rfl, hx⟩
      replace hS := hS.no hx
      replace hK := hK.trans hx
      refine KeepC.mk hK ?_
      clear hx
      (conv => whnf)
      refine (number_ok dp 2 (by omega) (by omega) _).mono ?_
      rintro v w4 ⟨rfl, hx⟩
      replace hS := hS.no hx
      replace hK := hK.trans hx
      refine KeepC.mk hK ?_
      clear hx
      (conv => whnf)
      refine addS (by simp [hn]) ?_
      (conv => whnf)
      refine addS (by simp [hn]) ?_
      (conv => whnf)
      refine RngC.mk (by omega) (by omega) ?_
      (conv => whnf)
      refine LoopE.mk ⟨_, [(22, .int .i64 ((2 : Nat) : Int)), (21, _), (20, _), (5, _), (1, _)], ?_, ⟨rfl, rfl, rfl, rfl, rfl, trivial⟩, ⟨2, _, rfl, rfl, .inr (.inr ⟨rfl, rfl⟩), hS.keep 2⟩⟩
      omega
    · (conv => whnf)
      refine hS.ld 0 rfl rfl ?_
      (conv => whnf)
      refine (number_ok fl 1 (by omega) (by omega) _).mono ?_
      rintro v w4 ⟨rfl, hx⟩
      replace hS := hS.no hx
      (conv => whnf)
      refine addS (by simp [hn]) ?_
      repeat' ((conv => whnf); first | refine RetC.mk ?_ | refine NzC.mk (by decide) ?_ | refine RngC.mk (by omega) (by omega) ?_ | refine IdxC.mk (by omega) (by omega) ?_ | refine brD (fun _ => ?_) (fun _ => ?_) | refine brND (fun _ => ?_) (fun _ => ?_) | refine brN (fun _ => ?_) (fun _ => ?_) | refine brI (fun _ => ?_) (fun _ => ?_))
      exact ⟨rfl, hS.ext⟩
end Go.Proofs.YtcioicoedmmkhaaGreatDoor

namespace Go.Proofs.YtcioicoedmmkhaaGreatDoor
open Go Ev
theorem decode1_ok {w : World} {b b1 : Nat} (s : List UInt8) (k n : Nat) (hk : k + n ≤ s.length) (hs : s.length ≤ 1000) (hn : n ≤ 7) (hb : Blk w b 3 [.int .i64 (k : Int)]) (h1 : Blk w b1 9 [.string (bs s)]) (hne : ¬ b1 = b) :
    CallC Tryz.prog 28 ([Value.int .i64 (n : Int)] ++ [Value.pointer (some ⟨b, 0, none⟩), Value.pointer (some ⟨b1, 0, none⟩)]).toArray w fun v w' => v = .int .i64 (valB ((s.drop k).take n) : Nat) ∧ Ext (· = b) w w' ∧ Blk w' b 3 [.int .i64 ((k + n : Nat) : Int)] := by
  have hc1 : w.cell? ⟨b1, 0, none⟩ = some (.string (bs s)) := by rw [h1.cell]; rfl
  refine fn_intro tabOk Tryz.func28 (by kernel_rfl) rfl Tryz.ntmps28 (Nat.le_of_ble_eq_true rfl) ?_
  have hS := (St.start w (· = b)).add (blk_local b _ _) hb (by simp [blk]; exact hb.lt) (by simp)
  (conv => whnf)
  refine hS.ld 0 rfl rfl ?_
  (conv => whnf)
  refine RngC.mk (by omega) (by omega) ?_
  (conv => whnf)
  refine hS.st 0 rfl (Nat.le_of_ble_eq_true rfl) rfl (fun w' hS => ?_)
  replace hS : St w (· = b) w' [blk b 3 [.int .i64 ((k + n : Nat) : Int)]] := hS
  (conv => whnf)
  refine hS.ldr hc1 hne ?_
  (conv => whnf)
  refine hS.ld 0 rfl rfl ?_
  (conv => whnf)
  refine RngC.mk (by omega) (by omega) ?_
  (conv => whnf)
  refine hS.ld 0 rfl rfl ?_
  (conv => whnf)
  refine slcS Tryz.underlying9 (a := k) (b := k + n) (r := (s.drop k).take n) (by omega) (by omega) (by omega) (by omega) (by rw [show k + n - k = n by omega]) ?_
  (conv => whnf)
  refine (value_ok ((s.drop k).take n) (by rw [List.length_take]; omega) _).mono ?_
  rintro v w2 ⟨rfl, hx⟩
  replace hS := hS.no hx
  repeat' ((conv => whnf); first | refine RetC.mk ?_ | refine NzC.mk (by decide) ?_ | refine RngC.mk (by omega) (by omega) ?_ | refine IdxC.mk (by omega) (by omega) ?_ | refine brD (fun _ => ?_) (fun _ => ?_) | refine brND (fun _ => ?_) (fun _ => ?_) | refine brN (fun _ => ?_) (fun _ => ?_) | refine brI (fun _ => ?_) (fun _ => ?_))
  exact ⟨rfl, hS.ext, hS.blk 0 rfl⟩
def pktOf (s : List UInt8) : PktS := ⟨(valB ((s.drop 0).take 1) : Nat), (valB ((s.drop 1).take 4) : Nat), (valB ((s.drop 5).take 2) : Nat), (valB ((s.drop 7).take 4) : Nat), (valB ((s.drop 11).take 2) : Nat), (valB ((s.drop 13).take 1) : Nat)⟩
def decodeS (s : List UInt8) : PktS × Nat := if s.length ≠ 14 then (noPkt, 1) else if (pktOf s).err = 0 then (pktOf s, 0) else (noPkt, (pktOf s).err)
theorem pdecode_ok {E : Nat → Addr} {q : Nat} (s : List UInt8) (hs : s.length ≤ 1000) (w : World) (hE : Errs w E q [1, 2, 3]) :
    CallC Tryz.prog 8 #[.string (bs s)] w fun v w' => v = .tuple #[.agg (encPkt (decodeS s).1).toArray, errV E (decodeS s).2] ∧ Ext No w w' := by
  have hsz := bs_size s
  unfold decodeS
  refine fn_intro tabOk Tryz.func8 (by kernel_rfl) rfl Tryz.ntmps8 (Nat.le_of_ble_eq_true rfl) ?_
  have hS := St.start w No
  (conv => whnf)
  refine hS.new (fun b1 w' hb1 hS => ?_)
  (conv => whnf)
  refine hS.new (fun b2 w' hb2 hS => ?_)
  replace hS : St w No w' [blk b1 9 [.string (bs s)], blk b2 26 (encPkt noPkt)] := hS
  (conv => whnf)
  refine hS.ld 0 rfl rfl ?_
  (conv => whnf)
  refine brND (fun h1 => ?_) (fun h1 => ?_)
  · rw [if_pos (by omega)]
    (conv => whnf)
    (refine drawS tabOk mixed [] ((· = b2)) [0, 1, 2, 3] (by kernel_rfl) ?_; rintro w1 rfl; replace hS := hS.drew)
    have hK := hS.ref (· = b2)
    (conv => whnf)
    refine hS.ldrF (hE.at_ 1 rfl) id (fun e => by have := cell_lt (hE.at_ 1 rfl); dsimp only at this; omega) ?_
    (conv => whnf)
    refine hS.stK hK 1 rfl (Nat.le_of_ble_eq_true rfl) rfl rfl (fun w' hK hS => KeepC.mk hK ?_)
    replace hS : St w No w' [blk b1 9 [.string (bs s)], blk b2 26 (encPkt noPkt)] := hS
    (conv => whnf)
    refine hS.laX 1 rfl rfl ?_
    repeat' ((conv => whnf); first | refine RetC.mk ?_ | refine NzC.mk (by decide) ?_ | refine RngC.mk (by omega) (by omega) ?_ | refine IdxC.mk (by omega) (by omega) ?_ | refine brD (fun _ => ?_) (fun _ => ?_) | refine brND (fun _ => ?_) (fun _ => ?_) | refine brN (fun _ => ?_) (fun _ => ?_) | refine brI (fun _ => ?_) (fun _ => ?_))
    exact ⟨rfl, hS.ext⟩
  have h14 : s.length = 14 := by omega
  rw [if_neg (by omega)]
  (conv => whnf)
  refine hS.new (fun b4 w' hb4 hS => ?_)
  (conv => whnf)
  refine hS.st 2 rfl (Nat.le_of_ble_eq_true rfl) rfl (fun w' hS => ?_)
  replace hS : St w No w' [blk b1 9 [.string (bs s)], blk b2 26 (encPkt noPkt), blk b4 3 [.int .i64 ((0 : Nat) : Int)]] := hS
  (conv => whnf)
  refine (decode1_ok s 0 1 (by omega) (by omega) (by omega) (hS.blk 2 rfl) (hS.blk 0 rfl) (hS.ne 0 2 rfl rfl (by decide))).mono ?_
  rintro v w9 ⟨rfl, hx, hB⟩
  replace hS := hS.upd 2 rfl hx (fun c hc => by subst hc; exact List.mem_singleton.2 rfl) (blk_local _ _ _) hB (fun c hc => .inl hc)
  clear hx hB
  replace hS : St w No w9 [blk b1 9 [.string (bs s)], blk b2 26 (encPkt noPkt), blk b4 3 [.int .i64 ((1 : Nat) : Int)]] := hS
  (conv => whnf)
  refine hS.new (fun b6 w' hb6 hS => ?_)
  (conv => whnf)
  refine hS.st 3 rfl (Nat.le_of_ble_eq_true rfl) rfl (fun w' hS => ?_)
  replace hS : St w No w' [blk b1 9 [.string (bs s)], blk b2 26 (encPkt noPkt), blk b4 3 [.int .i64 ((1 : Nat) : Int)], blk b6 26 (encPkt ⟨(valB ((s.drop 0).take 1) : Nat), 0, 0, 0, 0, 0⟩)] := hS
  (conv => whnf)
  refine hS.lit (cs := [.pointer (some ⟨b6, 1, none⟩), .pointer (some ⟨b6, 3, none⟩)]) Tryz.underlying61 (sz := 1) (by kernel_rfl) (z := .pointer none) (by kernel_rfl) rfl rfl (by rfl) (fun bl w' hbl hS => ?_)
  (conv => whnf)
  refine loopR tabOk (fun σ w' q => ∃ (k : Nat) (p : PktS), σ = [(23, .int .i64 (k : Int)), (22, .int .i64 2), (21, .slice (some ⟨bl, 0, none⟩) 2 2), (6, .pointer (some ⟨b6, 0, none⟩)), (5, .func (.func 28) #[] #[.pointer (some ⟨b4, 0, none⟩), .pointer (some ⟨b1, 0, none⟩)]), (2, .pointer (some ⟨b2, 0, none⟩))] ∧ q = 2 - k ∧ (k = 0 ∧ p = ⟨(valB ((s.drop 0).take 1) : Nat), 0, 0, 0, 0, 0⟩ ∨ k = 1 ∧ p = ⟨(valB ((s.drop 0).take 1) : Nat), (valB ((s.drop 1).take 4) : Nat), (valB ((s.drop 5).take 2) : Nat), 0, 0, 0⟩ ∨ k = 2 ∧ p = ⟨(valB ((s.drop 0).take 1) : Nat), (valB ((s.drop 1).take 4) : Nat), (valB ((s.drop 5).take 2) : Nat), (valB ((s.drop 7).take 4) : Nat), (valB ((s.drop 11).take 2) : Nat), 0⟩) ∧ St w No w' [blk b1 9 [.string (bs s)], blk b2 26 (encPkt noPkt), blk b4 3 [.int .i64 ((1 + 6 * k : Nat) : Int)], blk b6 26 (encPkt p), blk bl 60 [.pointer (some ⟨b6, 1, none⟩), .pointer (some ⟨b6, 3, none⟩)]])
    (σ' := [(23, .int .i64 ((0 : Nat) : Int)), (22, .int .i64 2), (21, .slice (some ⟨bl, 0, none⟩) 2 2), (6, .pointer (some ⟨b6, 0, none⟩)), (5, .func (.func 28) #[] #[.pointer (some ⟨b4, 0, none⟩), .pointer (some ⟨b1, 0, none⟩)]), (2, .pointer (some ⟨b2, 0, none⟩))]) (n := 2) ⟨rfl, rfl, rfl, rfl, rfl, rfl, trivial⟩ ⟨0, _, rfl, rfl, .inl ⟨rfl, rfl⟩, hS⟩ ?_
  clear hS
  rintro _ w1 q ⟨k, p, rfl, rfl, ⟨rfl, hp⟩ | ⟨rfl, hp⟩ | ⟨rfl, hp⟩, hS⟩
  · skip
    (conv => whnf)
    refine IdxC.mk (by omega) (by omega) ?_
    (conv => whnf)
    refine hS.ld 4 rfl rfl ?_
    (conv => whnf)
    refine (decode1_ok s 1 4 (by omega) (by omega) (by omega) (hS.blk 2 rfl) (hS.blk 0 rfl) (hS.ne 0 2 rfl rfl (by decide))).mono ?_
    rintro v w9 ⟨rfl, hx, hB⟩
    replace hS := hS.upd 2 rfl hx (fun c hc => by subst hc; exact List.mem_singleton.2 rfl) (blk_local _ _ _) hB (fun c hc => .inl hc)
    clear hx hB
    replace hS : St w No w9 [blk b1 9 [.string (bs s)], blk b2 26 (encPkt noPkt), blk b4 3 [.int .i64 ((5 : Nat) : Int)], blk b6 26 (encPkt p), blk bl 60 [.pointer (some ⟨b6, 1, none⟩), .pointer (some ⟨b6, 3, none⟩)]] := hS
    (conv => whnf)
    refine (decode1_ok s 5 2 (by omega) (by omega) (by omega) (hS.blk 2 rfl) (hS.blk 0 rfl) (hS.ne 0 2 rfl rfl (by decide))).mono ?_
    rintro v w9 ⟨rfl, hx, hB⟩
    replace hS := hS.upd 2 rfl hx (fun c hc => by subst hc; exact List.mem_singleton.2 rfl) (blk_local _ _ _) hB (fun c hc => .inl hc)
    clear hx hB
    replace hS : St w No w9 [blk b1 9 [.string (bs s)], blk b2 26 (encPkt noPkt), blk b4 3 [.int .i64 ((7 : Nat) : Int)], blk b6 26 (encPkt p), blk bl 60 [.pointer (some ⟨b6, 1, none⟩), .pointer (some ⟨b6, 3, none⟩)]] := hS
    subst hp
    (conv => whnf)
    refine hS.st 3 rfl (Nat.le_of_ble_eq_true rfl) rfl (fun w' hS => ?_)
    (conv => whnf)
    refine hS.st 3 rfl (Nat.le_of_ble_eq_true rfl) rfl (fun w' hS => ?_)
    (conv => whnf)
    refine RngC.mk (by omega) (by omega) ?_
    (conv => whnf)
    refine LoopE.mk ⟨_, [(23, .int .i64 (((0 + 1) : Nat) : Int)), (22, _), (21, _), (6, _), (5, _), (2, _)], ?_, ⟨rfl, rfl, rfl, rfl, rfl, rfl, trivial⟩, ⟨0 + 1, _, rfl, rfl, .inr (.inl ⟨rfl, rfl⟩), hS⟩⟩
    omega
  · skip
    (conv => whnf)
    refine IdxC.mk (by omega) (by omega) ?_
    (conv => whnf)
    refine hS.ld 4 rfl rfl ?_
    (conv => whnf)
    refine (decode1_ok s 7 4 (by omega) (by omega) (by omega) (hS.blk 2 rfl) (hS.blk 0 rfl) (hS.ne 0 2 rfl rfl (by decide))).mono ?_
    rintro v w9 ⟨rfl, hx, hB⟩
    replace hS := hS.upd 2 rfl hx (fun c hc => by subst hc; exact List.mem_singleton.2 rfl) (blk_local _ _ _) hB (fun c hc => .inl hc)
    clear hx hB
    replace hS : St w No w9 [blk b1 9 [.string (bs s)], blk b2 26 (encPkt noPkt), blk b4 3 [.int .i64 ((11 : Nat) : Int)], blk b6 26 (encPkt p), blk bl 60 [.pointer (some ⟨b6, 1, none⟩), .pointer (some ⟨b6, 3, none⟩)]] := hS
    (conv => whnf)
    refine (decode1_ok s 11 2 (by omega) (by omega) (by omega) (hS.blk 2 rfl) (hS.blk 0 rfl) (hS.ne 0 2 rfl rfl (by decide))).mono ?_
    rintro v w9 ⟨rfl, hx, hB⟩
    replace hS := hS.upd 2 rfl hx (fun c hc => by subst hc; exact List.mem_singleton.2 rfl) (blk_local _ _ _) hB (fun c hc => .inl hc)
    clear hx hB
    replace hS : St w No w9 [blk b1 9 [.string (bs s)], blk b2 26 (encPkt noPkt), blk b4 3 [.int .i64 ((13 : Nat) : Int)], blk b6 26 (encPkt p), blk bl 60 [.pointer (some ⟨b6, 1, none⟩), .pointer (some ⟨b6, 3, none⟩)]] := hS
    subst hp
    (conv => whnf)
    refine hS.st 3 rfl (Nat.le_of_ble_eq_true rfl) rfl (fun w' hS => ?_)
    (conv => whnf)
    refine hS.st 3 rfl (Nat.le_of_ble_eq_true rfl) rfl (fun w' hS => ?_)
    (conv => whnf)
    refine RngC.mk (by omega) (by omega) ?_
    (conv => whnf)
    refine LoopE.mk ⟨_, [(23, .int .i64 (((1 + 1) : Nat) : Int)), (22, _), (21, _), (6, _), (5, _), (2, _)], ?_, ⟨rfl, rfl, rfl, rfl, rfl, rfl, trivial⟩, ⟨1 + 1, _, rfl, rfl, .inr (.inr ⟨rfl, rfl⟩), hS⟩⟩
    omega
  · (conv => whnf)
    refine (decode1_ok s 13 1 (by omega) (by omega) (by omega) (hS.blk 2 rfl) (hS.blk 0 rfl) (hS.ne 0 2 rfl rfl (by decide))).mono ?_
    rintro v w9 ⟨rfl, hx, hB⟩
    replace hS := hS.upd 2 rfl hx (fun c hc => by subst hc; exact List.mem_singleton.2 rfl) (blk_local _ _ _) hB (fun c hc => .inl hc)
    clear hx hB
    replace hS : St w No w9 [blk b1 9 [.string (bs s)], blk b2 26 (encPkt noPkt), blk b4 3 [.int .i64 ((14 : Nat) : Int)], blk b6 26 (encPkt p), blk bl 60 [.pointer (some ⟨b6, 1, none⟩), .pointer (some ⟨b6, 3, none⟩)]] := hS
    subst hp
    (conv => whnf)
    refine hS.st 3 rfl (Nat.le_of_ble_eq_true rfl) rfl (fun w' hS => ?_)
    replace hS : St w No w' [blk b1 9 [.string (bs s)], blk b2 26 (encPkt noPkt), blk b4 3 [.int .i64 ((14 : Nat) : Int)], blk b6 26 (encPkt (pktOf s)), blk bl 60 [.pointer (some ⟨b6, 1, none⟩), .pointer (some ⟨b6, 3, none⟩)]] := hS
    generalize pktOf s = p at hS ⊢
    (conv => whnf)
    refine hS.laX 3 rfl rfl ?_
    (conv => whnf)
    refine (pcheck_ok p _ ((hE.sub rfl).ext hS.ext fun _ h => h.elim)).mono ?_
    rintro v w3 ⟨rfl, hx⟩
    replace hS := hS.no hx
    cases hpe : p.err with
    | succ j =>
      rw [if_neg (by omega)]
      (conv => whnf)
      refine hS.st 1 rfl (Nat.le_of_ble_eq_true rfl) rfl (fun w' hS => ?_)
      (conv => whnf)
      refine hS.laX 1 rfl rfl ?_
      repeat' ((conv => whnf); first | refine RetC.mk ?_ | refine NzC.mk (by decide) ?_ | refine RngC.mk (by omega) (by omega) ?_ | refine IdxC.mk (by omega) (by omega) ?_ | refine brD (fun _ => ?_) (fun _ => ?_) | refine brND (fun _ => ?_) (fun _ => ?_) | refine brN (fun _ => ?_) (fun _ => ?_) | refine brI (fun _ => ?_) (fun _ => ?_))
      exact ⟨rfl, hS.ext⟩
    | zero =>
      rw [if_pos rfl]
      (conv => whnf)
      refine hS.laX 3 rfl rfl ?_
      (conv => whnf)
      refine hS.st 1 rfl (Nat.le_of_ble_eq_true rfl) rfl (fun w' hS => ?_)
      (conv => whnf)
      refine hS.laX 1 rfl rfl ?_
      repeat' ((conv => whnf); first | refine RetC.mk ?_ | refine NzC.mk (by decide) ?_ | refine RngC.mk (by omega) (by omega) ?_ | refine IdxC.mk (by omega) (by omega) ?_ | refine brD (fun _ => ?_) (fun _ => ?_) | refine brND (fun _ => ?_) (fun _ => ?_) | refine brN (fun _ => ?_) (fun _ => ?_) | refine brI (fun _ => ?_) (fun _ => ?_))
      exact ⟨rfl, hS.ext⟩
end Go.Proofs.YtcioicoedmmkhaaGreatDoor

namespace Go.Proofs.YtcioicoedmmkhaaGreatDoor
open Go Ev
theorem Ev.drawB {P : Program} {τ : Tab} {N : Nat} {σ : Slots} {w : World} {b : Nat} {t : TypeId} {cs : List Value} (hτ : TabOk P τ) (hm : P.follows .mixedOrders = true) (hb : Blk w b t cs) {ops : Array Oper} {Q : Slots → World → Prop} (order : List Nat)
    (hok : (Region.noSelect ops && Nat.beq order.length ops.size && orderOk ops [] order (Array.replicate ops.size false)) = true)
    (h : ∀ w1, w1 = { w with drawn := w.drawn + 1 } → Blk w1 b t cs → evDrawR P τ N ops [] (fun w' => Ext (· = b) w1 w' ∧ Blk w' b t cs) order Q σ w1) : DrawC P τ N ops Q σ w :=
  drawR hτ hm [] (fun w1 w' => Ext (· = b) w1 w' ∧ Blk w' b t cs) order hok ⟨Ext.refl _ _, hb⟩ (by have := h _ rfl hb; rwa [evDrawR_eq] at this)
theorem Ev.laB {w1 : World} {b o n : Nat} {t : TypeId} {cs : List Value} {k : Value → Prop} (hn : Nat.ble (o + n) cs.length = true) (hk : k (.agg ((cs.drop o).take n).toArray)) : LdG (fun w' => Ext (· = b) w1 w' ∧ Blk w' b t cs) b o n k :=
  ⟨(cs.drop o).take n, by rw [List.length_take, List.length_drop]; have := Nat.le_of_ble_eq_true hn; omega, fun _ h => h.2.cells (by rw [List.length_take, List.length_drop]; have := Nat.le_of_ble_eq_true hn; rw [Nat.min_eq_left (by omega)]), hk⟩
theorem readEnd_ok (s : List UInt8) (hl : s.length ≤ 100000) (w : World) (hM : MaxL w) (hV : NumV w) (ht : Pow10 w) :
    CallC Tryz.prog 33 #[.string (bs s)] w fun v w' => (∃ x y k, v = .tuple #[.agg #[.int .i64 x, .int .i64 y], .bool k] ∧ I64 x ∧ I64 y ∧ EndR s x y k) ∧ Ext No w w' := by
  refine fn_intro tabOk Tryz.func33 (by kernel_rfl) rfl Tryz.ntmps33 (Nat.le_of_ble_eq_true rfl) ?_
  have hS := St.start w No
  (conv => whnf)
  refine hS.new (fun b2 w' hb2 hS => ?_)
  obtain ⟨a, c, j, hcut, hal, hcl⟩ := cut_small s 58
  (conv => whnf)
  refine (cutT_ok s 58 _ hl (hM.no hS.ext)).mono ?_
  rintro v w1 ⟨rfl, hx⟩
  replace hS := hS.no hx
  rw [hcut]
  (conv => whnf)
  refine (atoi_ok a _ (by omega) (hV.no hS.ext)).mono ?_
  rintro v w2 ⟨⟨x, e1, rfl, ix, hc1⟩, hx⟩
  replace hS := hS.no hx
  (conv => whnf)
  refine (atoi_ok c _ (by omega) (hV.no hS.ext)).mono ?_
  rintro v w3 ⟨⟨y, e2, rfl, iy, hc2⟩, hx⟩
  replace hS := hS.no hx
  have hxm : ∀ m, Lib.atoiAll a = .ok m → x = m := fun m h => by
    rcases hc1 with ⟨h1, _⟩ | ⟨h1, _⟩
    · rw [h1] at h
      cases h
      rfl
    · exact absurd h (h1 m)
  have hym : ∀ m, Lib.atoiAll c = .ok m → y = m := fun m h => by
    rcases hc2 with ⟨h1, _⟩ | ⟨h1, _⟩
    · rw [h1] at h
      cases h
      rfl
    · exact absurd h (h1 m)
  have hel := endT_len x y ix iy
  (conv => whnf)
  refine hS.st 0 rfl (Nat.le_of_ble_eq_true rfl) rfl (fun w' hS => ?_)
  replace hS : St w No w' [blk b2 24 [.int .i64 x, .int .i64 y]] := hS
  (conv => whnf)
  refine Ev.drawB tabOk mixed (hS.blk 0 rfl) [0, 1, 2, 3, 4, 5, 6, 7, 8, 10, 9, 11, 12, 13, 14] (by kernel_rfl) ?_
  rintro w4 rfl hB
  replace hS := hS.drew
  have hK := hS.ref (· = b2)
  (conv => whnf)
  refine laB rfl ?_
  rcases hc1 with ⟨ha, rfl⟩ | ⟨ha, t1, u1, rfl⟩
  · rcases hc2 with ⟨hc, rfl⟩ | ⟨hc, t2, u2, rfl⟩
    · (conv => whnf)
      refine laB rfl ?_
      (conv => whnf)
      refine (endText_ok x y ix iy _ (ht.no hS.ext)).mono ?_
      rintro v w5 ⟨rfl, hx⟩
      replace hS := hS.no hx
      replace hK := hK.trans hx.of_no
      refine KeepC.mk ⟨hK, hS.blk 0 rfl⟩ ?_
      (conv => whnf)
      refine eqS2 ?_
      (conv => whnf)
      refine hS.stK hK 0 rfl (Nat.le_of_ble_eq_true rfl) rfl rfl (fun w' hK hS => KeepC.mk ⟨hK, hS.blk 0 rfl⟩ ?_)
      (conv => whnf)
      refine hS.laX 0 rfl rfl ?_
      repeat' ((conv => whnf); first | refine RetC.mk ?_ | refine NzC.mk (by decide) ?_ | refine RngC.mk (by omega) (by omega) ?_ | refine IdxC.mk (by omega) (by omega) ?_ | refine brD (fun _ => ?_) (fun _ => ?_) | refine brND (fun _ => ?_) (fun _ => ?_) | refine brN (fun _ => ?_) (fun _ => ?_) | refine brI (fun _ => ?_) (fun _ => ?_))
      exact ⟨⟨x, y, _, rfl, ix, iy, endR_of hcut hxm hym (by rw [decide_eq_true_iff]; exact ⟨fun h => ⟨⟨_, ha⟩, ⟨_, hc⟩, h⟩, fun h => h.2.2⟩)⟩, hS.ext⟩
    · (conv => whnf)
      refine hS.stK hK 0 rfl (Nat.le_of_ble_eq_true rfl) rfl rfl (fun w' hK hS => KeepC.mk ⟨hK, hS.blk 0 rfl⟩ ?_)
      (conv => whnf)
      refine hS.laX 0 rfl rfl ?_
      repeat' ((conv => whnf); first | refine RetC.mk ?_ | refine NzC.mk (by decide) ?_ | refine RngC.mk (by omega) (by omega) ?_ | refine IdxC.mk (by omega) (by omega) ?_ | refine brD (fun _ => ?_) (fun _ => ?_) | refine brND (fun _ => ?_) (fun _ => ?_) | refine brN (fun _ => ?_) (fun _ => ?_) | refine brI (fun _ => ?_) (fun _ => ?_))
      exact ⟨⟨x, y, _, rfl, ix, iy, endR_of hcut hxm hym ⟨fun h => (by cases h), fun h => absurd h.2.1.choose_spec (hc _)⟩⟩, hS.ext⟩
  · (conv => whnf)
    refine hS.stK hK 0 rfl (Nat.le_of_ble_eq_true rfl) rfl rfl (fun w' hK hS => KeepC.mk ⟨hK, hS.blk 0 rfl⟩ ?_)
    (conv => whnf)
    refine hS.laX 0 rfl rfl ?_
    repeat' ((conv => whnf); first | refine RetC.mk ?_ | refine NzC.mk (by decide) ?_ | refine RngC.mk (by omega) (by omega) ?_ | refine IdxC.mk (by omega) (by omega) ?_ | refine brD (fun _ => ?_) (fun _ => ?_) | refine brND (fun _ => ?_) (fun _ => ?_) | refine brN (fun _ => ?_) (fun _ => ?_) | refine brI (fun _ => ?_) (fun _ => ?_))
    exact ⟨⟨x, y, _, rfl, ix, iy, endR_of hcut hxm hym ⟨fun h => (by cases h), fun h => absurd h.1.choose_spec (ha _)⟩⟩, hS.ext⟩
theorem pktR_bad {s : List UInt8} {p : PktS} {ka kb : Bool} (key : ∀ q : PktS, q.err = 0 → q.text = s → ka = true ∧ kb = true ∧ p = q) (h : p.err ≠ 0 ∨ p.text ≠ s ∨ ka = false ∨ kb = false) : PktR s noPkt false := by
  refine ⟨fun h => (by cases h), fun _ => rfl, fun q h1 h2 => ?_⟩
  obtain ⟨g1, g2, rfl⟩ := key q h1 h2
  rcases h with h | h | h | h
  · exact absurd h1 h
  · exact absurd h2 h
  · rw [h] at g1
    cases g1
  · rw [h] at g2
    cases g2
theorem pktR_good {s : List UInt8} {p : PktS} {ka kb : Bool} (key : ∀ q : PktS, q.err = 0 → q.text = s → ka = true ∧ kb = true ∧ p = q) (h1 : p.err = 0) (h2 : p.text = s) : PktR s p true :=
  ⟨fun _ => ⟨h1, h2⟩, fun h => (by cases h), fun q g1 g2 => ⟨rfl, (key q g1 g2).2.2⟩⟩
theorem key3 {s t a b : List UInt8} {x1 y1 x2 y2 : Int} {ka kb : Bool} (hw : cutR 32 s = [t, a, b]) (ha : EndR a x1 y1 ka) (hb : EndR b x2 y2 kb) :
    ∀ q : PktS, q.err = 0 → q.text = s → ka = true ∧ kb = true ∧ (⟨1, x1, y1, x2, y2, 0⟩ : PktS) = q := fun q h1 h2 => by
  obtain ⟨f1, f2, f3, f4, f5⟩ := err_facts h1
  have hc := text_cut h1
  rw [h2, hw] at hc
  split at hc
  · rename_i hp
    simp only [List.cons.injEq, and_true] at hc
    obtain ⟨_, rfl, rfl⟩ := hc
    obtain ⟨k1, rfl, rfl⟩ := ha.2 _ _ f2 rfl
    obtain ⟨k2, rfl, rfl⟩ := hb.2 _ _ f3 rfl
    refine ⟨k1, k2, ?_⟩
    obtain ⟨pr, sa, sp, da, dp, fl⟩ := q
    dsimp only at hp f1 ⊢
    obtain rfl := hp
    obtain rfl : fl = 0 := by omega
    rfl
  · simp at hc
theorem key4 {s t a b f : List UInt8} {x1 y1 x2 y2 : Int} {ka kb : Bool} (hw : cutR 32 s = [t, a, b, f]) (ha : EndR a x1 y1 ka) (hb : EndR b x2 y2 kb) :
    ∀ q : PktS, q.err = 0 → q.text = s → ka = true ∧ kb = true ∧ (⟨2, x1, y1, x2, y2, (((flagOf f 16).getD 0 : Nat) : Int)⟩ : PktS) = q := fun q h1 h2 => by
  obtain ⟨f1, f2, f3, f4, f5⟩ := err_facts h1
  have hc := text_cut h1
  rw [h2, hw] at hc
  split at hc
  · simp at hc
  · rename_i hp
    simp only [List.cons.injEq, and_true] at hc
    obtain ⟨_, rfl, rfl, rfl⟩ := hc
    obtain ⟨k1, rfl, rfl⟩ := ha.2 _ _ f2 rfl
    obtain ⟨k2, rfl, rfl⟩ := hb.2 _ _ f3 rfl
    refine ⟨k1, k2, ?_⟩
    obtain ⟨pr, sa, sp, da, dp, fl⟩ := q
    dsimp only at hp f1 f4 f5 ⊢
    obtain ⟨fl, rfl⟩ : ∃ n : Nat, fl = n := ⟨fl.toNat, by omega⟩
    rw [flagOf_eq (n := fl) (by omega)]
    obtain rfl : pr = 2 := by omega
    rfl
theorem keyN {s : List UInt8} (h3 : (cutR 32 s).length ≠ 3) (h4 : (cutR 32 s).length ≠ 4) : PktR s noPkt false := by
  refine ⟨fun h => (by cases h), fun _ => rfl, fun q h1 h2 => ?_⟩
  have hc := text_cut h1
  rw [h2] at hc
  split at hc
  · exact absurd (by rw [hc]; rfl) h3
  · exact absurd (by rw [hc]; rfl) h4
theorem words3 {s : List UInt8} (h : (cutR 32 s).length = 3) : ∃ a b p, cutR 32 s = [a, b, p] := by
  generalize cutR 32 s = l at h
  match l, h with
  | [a, b, p], _ => exact ⟨a, b, p, rfl⟩
end Go.Proofs.YtcioicoedmmkhaaGreatDoor

namespace Go.Proofs.YtcioicoedmmkhaaGreatDoor
open Go Ev
theorem flag_step (f : List UInt8) (k : Nat) : (flagOf f (k + 1)).getD 0 = if ftext (k : Nat) = f then k else (flagOf f k).getD 0 := by
  show (if ftext (k : Nat) = f then some k else flagOf f k).getD 0 = _
  split <;> rfl
theorem packetRead_ok {E : Nat → Addr} {q : Nat} (s : List UInt8) (hl : s.length ≤ 100000) (w : World) (hM : MaxL w) (hV : NumV w) (ht : Pow10 w) (hN : NamesV w) (hE : Errs w E q [1, 2, 3]) :
    CallC Tryz.prog 11 #[.string (bs s)] w fun v w' => (∃ p k, v = .tuple #[.agg (encPkt p).toArray, errV E (if k = true then 0 else 1)] ∧ PktR s p k) ∧ Ext No w w' := by
  refine fn_intro tabOk Tryz.func11 (by kernel_rfl) rfl Tryz.ntmps11 (Nat.le_of_ble_eq_true rfl) ?_
  have hS := St.start w No
  (conv => whnf)
  refine hS.new (fun b2 w' hb2 hS => ?_)
  replace hS : St w No w' [blk b2 26 (encPkt noPkt)] := hS
  (conv => whnf)
  refine (split_ok s 32 _ hl (hM.no hS.ext)).mono ?_
  rintro v w1 ⟨⟨b, rfl, hb, hB⟩, hx⟩
  replace hS := hS.made hx (blk_local _ _ _) hB (by intro c hc; obtain rfl := List.mem_singleton.1 hc; exact ⟨hb, hB.lt⟩)
  clear hx hB hb
  have hmem : ∀ t ∈ cutR 32 s, t.length ≤ s.length := fun t h => cutR_mem_len h
  (conv => whnf)
  refine brD (fun h1 => ?_) (fun h1 => ?_)
  · have hbad := keyN (s := s) (by omega) (by omega)
    (conv => whnf)
    (refine drawS tabOk mixed [] ((· = b2)) [0, 1, 2, 3] (by kernel_rfl) ?_; rintro w1 rfl; replace hS := hS.drew)
    have hK := hS.ref (· = b2)
    (conv => whnf)
    refine hS.ldrF (hE.at_ 1 rfl) id (fun e => by have := cell_lt (hE.at_ 1 rfl); dsimp only at this; omega) ?_
    (conv => whnf)
    refine hS.stK hK 0 rfl (Nat.le_of_ble_eq_true rfl) rfl rfl (fun w' hK hS => KeepC.mk hK ?_)
    (conv => whnf)
    refine hS.laX 0 rfl rfl ?_
    repeat' ((conv => whnf); first | refine RetC.mk ?_ | refine NzC.mk (by decide) ?_ | refine RngC.mk (by omega) (by omega) ?_ | refine IdxC.mk (by omega) (by omega) ?_ | refine brD (fun _ => ?_) (fun _ => ?_) | refine brND (fun _ => ?_) (fun _ => ?_) | refine brN (fun _ => ?_) (fun _ => ?_) | refine brI (fun _ => ?_) (fun _ => ?_))
    exact ⟨⟨noPkt, false, rfl, hbad⟩, hS.ext⟩
  (conv => whnf)
  refine brD (fun h2 => ?_) (fun h2 => ?_)
  · have hbad := keyN (s := s) (by omega) (by omega)
    (conv => whnf)
    (refine drawS tabOk mixed [] ((· = b2)) [0, 1, 2, 3] (by kernel_rfl) ?_; rintro w1 rfl; replace hS := hS.drew)
    have hK := hS.ref (· = b2)
    (conv => whnf)
    refine hS.ldrF (hE.at_ 1 rfl) id (fun e => by have := cell_lt (hE.at_ 1 rfl); dsimp only at this; omega) ?_
    (conv => whnf)
    refine hS.stK hK 0 rfl (Nat.le_of_ble_eq_true rfl) rfl rfl (fun w' hK hS => KeepC.mk hK ?_)
    (conv => whnf)
    refine hS.laX 0 rfl rfl ?_
    repeat' ((conv => whnf); first | refine RetC.mk ?_ | refine NzC.mk (by decide) ?_ | refine RngC.mk (by omega) (by omega) ?_ | refine IdxC.mk (by omega) (by omega) ?_ | refine brD (fun _ => ?_) (fun _ => ?_) | refine brND (fun _ => ?_) (fun _ => ?_) | refine brN (fun _ => ?_) (fun _ => ?_) | refine brI (fun _ => ?_) (fun _ => ?_))
    exact ⟨⟨noPkt, false, rfl, hbad⟩, hS.ext⟩
  by_cases h4 : (cutR 32 s).length = 4
  · obtain ⟨t, a1, a2, f, hw⟩ := words4 h4
    rw [hw] at hS hmem ⊢
    have hl4 : ([t, a1, a2, f] : List (List UInt8)).length = 4 := rfl
    have m1 := hmem a1 (by simp)
    have m2 := hmem a2 (by simp)
    replace hS : St w No w1 [blk b2 26 (encPkt noPkt), blk b 9 [.string (bs t), .string (bs a1), .string (bs a2), .string (bs f)]] := hS
    (conv => whnf)
    refine IdxC.mk (by omega) (by omega) ?_
    (conv => whnf)
    refine hS.ld 1 rfl rfl ?_
    (conv => whnf)
    refine (readEnd_ok a1 (by omega) _ (hM.no hS.ext) (hV.no hS.ext) (ht.no hS.ext)).mono ?_
    rintro v w3 ⟨⟨x1, y1, ka, rfl, ix1, iy1, hra⟩, hx⟩
    replace hS := hS.no hx
    clear hx
    (conv => whnf)
    refine hS.new (fun b5 w' hb5 hS => ?_)
    (conv => whnf)
    refine hS.st 2 rfl (Nat.le_of_ble_eq_true rfl) rfl (fun w' hS => ?_)
    (conv => whnf)
    refine IdxC.mk (by omega) (by omega) ?_
    (conv => whnf)
    refine hS.ld 1 rfl rfl ?_
    (conv => whnf)
    refine (readEnd_ok a2 (by omega) _ (hM.no hS.ext) (hV.no hS.ext) (ht.no hS.ext)).mono ?_
    rintro v w4 ⟨⟨x2, y2, kb, rfl, ix2, iy2, hrb⟩, hx⟩
    replace hS := hS.no hx
    clear hx
    (conv => whnf)
    refine hS.new (fun b7 w' hb7 hS => ?_)
    (conv => whnf)
    refine hS.st 3 rfl (Nat.le_of_ble_eq_true rfl) rfl (fun w' hS => ?_)
    (conv => whnf)
    refine hS.laX 2 rfl rfl ?_
    (conv => whnf)
    refine hS.laX 3 rfl rfl ?_
    (conv => whnf)
    refine hS.new (fun b9 w' hb9 hS => ?_)
    (conv => whnf)
    refine hS.st 4 rfl (Nat.le_of_ble_eq_true rfl) rfl (fun w' hS => ?_)
    replace hS := hS.sel [0, 4, 1] (by decide)
    (conv => whnf)
    refine hS.st 1 rfl (Nat.le_of_ble_eq_true rfl) rfl (fun w' hS => ?_)
    (conv => whnf)
    refine loopR tabOk (fun σ w' q => ∃ (k : Nat), σ = [(46, .int .i64 (k : Int)), (9, .pointer (some ⟨b9, 0, none⟩)), (8, .bool kb), (6, .bool ka), (4, .slice (some ⟨b, 0, none⟩) 4 4), (2, .pointer (some ⟨b2, 0, none⟩)), (0, .string (bs s))] ∧ q = 16 - k ∧ k ≤ 16 ∧ St w No w' [blk b2 26 (encPkt noPkt), blk b9 26 (encPkt ⟨2, x1, y1, x2, y2, (((flagOf f k).getD 0 : Nat) : Int)⟩), blk b 9 [.string (bs t), .string (bs a1), .string (bs a2), .string (bs f)]])
      (σ' := [(46, .int .i64 ((0 : Nat) : Int)), (9, .pointer (some ⟨b9, 0, none⟩)), (8, .bool kb), (6, .bool ka), (4, .slice (some ⟨b, 0, none⟩) 4 4), (2, .pointer (some ⟨b2, 0, none⟩)), (0, .string (bs s))]) (n := 16) ⟨rfl, rfl, rfl, rfl, rfl, rfl, rfl, trivial⟩ ⟨0, rfl, rfl, Nat.zero_le _, hS⟩ ?_
    clear hS
    rintro _ w5 q ⟨k, rfl, rfl, hk, hS⟩
    (conv => whnf)
    refine brD (fun h3 => ?_) (fun h3 => ?_)
    · have hst := flag_step f k
      (conv => whnf)
      (refine drawS tabOk mixed [] (No) [0, 2, 3, 4, 1, 5] (by kernel_rfl) ?_; rintro w1 rfl; replace hS := hS.drew)
      have hK := hS.ref No
      (conv => whnf)
      refine IdxC.mk (by omega) (by omega) ?_
      (conv => whnf)
      refine hS.ldF 2 rfl rfl id ?_
      (conv => whnf)
      refine (pflags_ok k (by omega) _ (hN.no hS.ext)).mono ?_
      rintro v w6 ⟨rfl, hx⟩
      replace hS := hS.no hx
      refine KeepC.mk (hK.trans hx) ?_
      clear hx hK
      (conv => whnf)
      refine eqS2 ?_
      (conv => whnf)
      refine brD (fun h5 => ?_) (fun h5 => ?_)
      · rw [if_pos h5] at hst
        (conv => whnf)
        refine hS.st 1 rfl (Nat.le_of_ble_eq_true rfl) rfl (fun w' hS => ?_)
        (conv => whnf)
        refine RngC.mk (by omega) (by omega) ?_
        (conv => whnf)
        refine LoopE.mk ⟨_, [(46, .int .i64 ((k + 1 : Nat) : Int)), (9, _), (8, _), (6, _), (4, _), (2, _), (0, _)], ?_, ⟨rfl, rfl, rfl, rfl, rfl, rfl, rfl, trivial⟩, ⟨k + 1, rfl, rfl, by omega, by rw [hst]; exact hS⟩⟩
        omega
      · rw [if_neg h5] at hst
        (conv => whnf)
        refine RngC.mk (by omega) (by omega) ?_
        (conv => whnf)
        refine LoopE.mk ⟨_, [(46, .int .i64 ((k + 1 : Nat) : Int)), (9, _), (8, _), (6, _), (4, _), (2, _), (0, _)], ?_, ⟨rfl, rfl, rfl, rfl, rfl, rfl, rfl, trivial⟩, ⟨k + 1, rfl, rfl, by omega, by rw [hst]; exact hS⟩⟩
        omega
    · obtain rfl : k = 16 := by omega
      have hkey := key4 hw hra hrb
      generalize hp : (⟨_, _, _, _, _, _⟩ : PktS) = p at hkey hS
      have hS : St w No _ (blk b2 26 (encPkt noPkt) :: blk b9 26 (encPkt p) :: _) := hS
      (conv => whnf)
      refine hS.laX 1 rfl rfl ?_
      (conv => whnf)
      refine (ptextP_ok p _ ((hE.sub rfl).ext hS.ext fun _ h => h.elim) (ht.no hS.ext) (hN.no hS.ext)).mono ?_
      rintro v w8 ⟨rfl, hx⟩
      replace hS := hS.no hx
      clear hx
      cases hpe : p.err with
      | succ j =>
        have hbad := pktR_bad hkey (.inl (by omega))
        rw [if_neg (by omega)]
        (conv => whnf)
        (refine drawS tabOk mixed [] ((· = b2)) [0, 1, 2, 3] (by kernel_rfl) ?_; rintro w1 rfl; replace hS := hS.drew)
        have hK := hS.ref (· = b2)
        (conv => whnf)
        refine hS.ldrF (hE.at_ 1 rfl) id (fun e => by have := cell_lt (hE.at_ 1 rfl); dsimp only at this; omega) ?_
        (conv => whnf)
        refine hS.stK hK 0 rfl (Nat.le_of_ble_eq_true rfl) rfl rfl (fun w' hK hS => KeepC.mk hK ?_)
        (conv => whnf)
        refine hS.laX 0 rfl rfl ?_
        repeat' ((conv => whnf); first | refine RetC.mk ?_ | refine NzC.mk (by decide) ?_ | refine RngC.mk (by omega) (by omega) ?_ | refine IdxC.mk (by omega) (by omega) ?_ | refine brD (fun _ => ?_) (fun _ => ?_) | refine brND (fun _ => ?_) (fun _ => ?_) | refine brN (fun _ => ?_) (fun _ => ?_) | refine brI (fun _ => ?_) (fun _ => ?_))
        exact ⟨⟨noPkt, false, rfl, hbad⟩, hS.ext⟩
      | zero =>
        rw [if_pos rfl]
        (conv => whnf)
        refine neS2 ?_
        (conv => whnf)
        refine brND (fun h1 => ?_) (fun h1 => ?_)
        · have hbad := pktR_bad hkey (.inr (.inl h1))
          (conv => whnf)
          (refine drawS tabOk mixed [] ((· = b2)) [0, 1, 2, 3] (by kernel_rfl) ?_; rintro w1 rfl; replace hS := hS.drew)
          have hK := hS.ref (· = b2)
          (conv => whnf)
          refine hS.ldrF (hE.at_ 1 rfl) id (fun e => by have := cell_lt (hE.at_ 1 rfl); dsimp only at this; omega) ?_
          (conv => whnf)
          refine hS.stK hK 0 rfl (Nat.le_of_ble_eq_true rfl) rfl rfl (fun w' hK hS => KeepC.mk hK ?_)
          (conv => whnf)
          refine hS.laX 0 rfl rfl ?_
          repeat' ((conv => whnf); first | refine RetC.mk ?_ | refine NzC.mk (by decide) ?_ | refine RngC.mk (by omega) (by omega) ?_ | refine IdxC.mk (by omega) (by omega) ?_ | refine brD (fun _ => ?_) (fun _ => ?_) | refine brND (fun _ => ?_) (fun _ => ?_) | refine brN (fun _ => ?_) (fun _ => ?_) | refine brI (fun _ => ?_) (fun _ => ?_))
          exact ⟨⟨noPkt, false, rfl, hbad⟩, hS.ext⟩
        cases ka with
        | false =>
          have hbad := pktR_bad hkey (.inr (.inr (.inl rfl)))
          (conv => whnf)
          (refine drawS tabOk mixed [] ((· = b2)) [0, 1, 2, 3] (by kernel_rfl) ?_; rintro w1 rfl; replace hS := hS.drew)
          have hK := hS.ref (· = b2)
          (conv => whnf)
          refine hS.ldrF (hE.at_ 1 rfl) id (fun e => by have := cell_lt (hE.at_ 1 rfl); dsimp only at this; omega) ?_
          (conv => whnf)
          refine hS.stK hK 0 rfl (Nat.le_of_ble_eq_true rfl) rfl rfl (fun w' hK hS => KeepC.mk hK ?_)
          (conv => whnf)
          refine hS.laX 0 rfl rfl ?_
          repeat' ((conv => whnf); first | refine RetC.mk ?_ | refine NzC.mk (by decide) ?_ | refine RngC.mk (by omega) (by omega) ?_ | refine IdxC.mk (by omega) (by omega) ?_ | refine brD (fun _ => ?_) (fun _ => ?_) | refine brND (fun _ => ?_) (fun _ => ?_) | refine brN (fun _ => ?_) (fun _ => ?_) | refine brI (fun _ => ?_) (fun _ => ?_))
          exact ⟨⟨noPkt, false, rfl, hbad⟩, hS.ext⟩
        | true =>
          cases kb with
          | false =>
            have hbad := pktR_bad hkey (.inr (.inr (.inr rfl)))
            (conv => whnf)
            (refine drawS tabOk mixed [] ((· = b2)) [0, 1, 2, 3] (by kernel_rfl) ?_; rintro w1 rfl; replace hS := hS.drew)
            have hK := hS.ref (· = b2)
            (conv => whnf)
            refine hS.ldrF (hE.at_ 1 rfl) id (fun e => by have := cell_lt (hE.at_ 1 rfl); dsimp only at this; omega) ?_
            (conv => whnf)
            refine hS.stK hK 0 rfl (Nat.le_of_ble_eq_true rfl) rfl rfl (fun w' hK hS => KeepC.mk hK ?_)
            (conv => whnf)
            refine hS.laX 0 rfl rfl ?_
            repeat' ((conv => whnf); first | refine RetC.mk ?_ | refine NzC.mk (by decide) ?_ | refine RngC.mk (by omega) (by omega) ?_ | refine IdxC.mk (by omega) (by omega) ?_ | refine brD (fun _ => ?_) (fun _ => ?_) | refine brND (fun _ => ?_) (fun _ => ?_) | refine brN (fun _ => ?_) (fun _ => ?_) | refine brI (fun _ => ?_) (fun _ => ?_))
            exact ⟨⟨noPkt, false, rfl, hbad⟩, hS.ext⟩
          | true =>
            (conv => whnf)
            refine hS.laX 1 rfl rfl ?_
            (conv => whnf)
            refine hS.st 0 rfl (Nat.le_of_ble_eq_true rfl) rfl (fun w' hS => ?_)
            (conv => whnf)
            refine hS.laX 0 rfl rfl ?_
            repeat' ((conv => whnf); first | refine RetC.mk ?_ | refine NzC.mk (by decide) ?_ | refine RngC.mk (by omega) (by omega) ?_ | refine IdxC.mk (by omega) (by omega) ?_ | refine brD (fun _ => ?_) (fun _ => ?_) | refine brND (fun _ => ?_) (fun _ => ?_) | refine brN (fun _ => ?_) (fun _ => ?_) | refine brI (fun _ => ?_) (fun _ => ?_))
            exact ⟨⟨p, true, rfl, pktR_good hkey hpe h1⟩, hS.ext⟩
  · obtain ⟨t, a1, a2, hw⟩ := words3 (s := s) (by omega)
    rw [hw] at hS hmem ⊢
    have hl3 : ([t, a1, a2] : List (List UInt8)).length = 3 := rfl
    have m1 := hmem a1 (by simp)
    have m2 := hmem a2 (by simp)
    replace hS : St w No w1 [blk b2 26 (encPkt noPkt), blk b 9 [.string (bs t), .string (bs a1), .string (bs a2)]] := hS
    (conv => whnf)
    refine IdxC.mk (by omega) (by omega) ?_
    (conv => whnf)
    refine hS.ld 1 rfl rfl ?_
    (conv => whnf)
    refine (readEnd_ok a1 (by omega) _ (hM.no hS.ext) (hV.no hS.ext) (ht.no hS.ext)).mono ?_
    rintro v w3 ⟨⟨x1, y1, ka, rfl, ix1, iy1, hra⟩, hx⟩
    replace hS := hS.no hx
    clear hx
    (conv => whnf)
    refine hS.new (fun b5 w' hb5 hS => ?_)
    (conv => whnf)
    refine hS.st 2 rfl (Nat.le_of_ble_eq_true rfl) rfl (fun w' hS => ?_)
    (conv => whnf)
    refine IdxC.mk (by omega) (by omega) ?_
    (conv => whnf)
    refine hS.ld 1 rfl rfl ?_
    (conv => whnf)
    refine (readEnd_ok a2 (by omega) _ (hM.no hS.ext) (hV.no hS.ext) (ht.no hS.ext)).mono ?_
    rintro v w4 ⟨⟨x2, y2, kb, rfl, ix2, iy2, hrb⟩, hx⟩
    replace hS := hS.no hx
    clear hx
    (conv => whnf)
    refine hS.new (fun b7 w' hb7 hS => ?_)
    (conv => whnf)
    refine hS.st 3 rfl (Nat.le_of_ble_eq_true rfl) rfl (fun w' hS => ?_)
    (conv => whnf)
    refine hS.laX 2 rfl rfl ?_
    (conv => whnf)
    refine hS.laX 3 rfl rfl ?_
    (conv => whnf)
    refine hS.new (fun b9 w' hb9 hS => ?_)
    (conv => whnf)
    refine hS.st 4 rfl (Nat.le_of_ble_eq_true rfl) rfl (fun w' hS => ?_)
    replace hS := hS.sel [0, 4, 1] (by decide)
    replace hS : St w No w' [blk b2 26 (encPkt noPkt), blk b9 26 (encPkt ⟨1, x1, y1, x2, y2, 0⟩), blk b 9 [.string (bs t), .string (bs a1), .string (bs a2)]] := hS
    have hkey := key3 hw hra hrb
    generalize hp : (⟨_, _, _, _, _, _⟩ : PktS) = p at hkey hS
    have hS : St w No _ (blk b2 26 (encPkt noPkt) :: blk b9 26 (encPkt p) :: _) := hS
    (conv => whnf)
    refine hS.laX 1 rfl rfl ?_
    (conv => whnf)
    refine (ptextP_ok p _ ((hE.sub rfl).ext hS.ext fun _ h => h.elim) (ht.no hS.ext) (hN.no hS.ext)).mono ?_
    rintro v w8 ⟨rfl, hx⟩
    replace hS := hS.no hx
    clear hx
    cases hpe : p.err with
    | succ j =>
      have hbad := pktR_bad hkey (.inl (by omega))
      rw [if_neg (by omega)]
      (conv => whnf)
      (refine drawS tabOk mixed [] ((· = b2)) [0, 1, 2, 3] (by kernel_rfl) ?_; rintro w1 rfl; replace hS := hS.drew)
      have hK := hS.ref (· = b2)
      (conv => whnf)
      refine hS.ldrF (hE.at_ 1 rfl) id (fun e => by have := cell_lt (hE.at_ 1 rfl); dsimp only at this; omega) ?_
      (conv => whnf)
      refine hS.stK hK 0 rfl (Nat.le_of_ble_eq_true rfl) rfl rfl (fun w' hK hS => KeepC.mk hK ?_)
      (conv => whnf)
      refine hS.laX 0 rfl rfl ?_
      repeat' ((conv => whnf); first | refine RetC.mk ?_ | refine NzC.mk (by decide) ?_ | refine RngC.mk (by omega) (by omega) ?_ | refine IdxC.mk (by omega) (by omega) ?_ | refine brD (fun _ => ?_) (fun _ => ?_) | refine brND (fun _ => ?_) (fun _ => ?_) | refine brN (fun _ => ?_) (fun _ => ?_) | refine brI (fun _ => ?_) (fun _ => ?_))
      exact ⟨⟨noPkt, false, rfl, hbad⟩, hS.ext⟩
    | zero =>
      rw [if_pos rfl]
      (conv => whnf)
      refine neS2 ?_
      (conv => whnf)
      refine brND (fun h1 => ?_) (fun h1 => ?_)
      · have hbad := pktR_bad hkey (.inr (.inl h1))
        (conv => whnf)
        (refine drawS tabOk mixed [] ((· = b2)) [0, 1, 2, 3] (by kernel_rfl) ?_; rintro w1 rfl; replace hS := hS.drew)
        have hK := hS.ref (· = b2)
        (conv => whnf)
        refine hS.ldrF (hE.at_ 1 rfl) id (fun e => by have := cell_lt (hE.at_ 1 rfl); dsimp only at this; omega) ?_
        (conv => whnf)
        refine hS.stK hK 0 rfl (Nat.le_of_ble_eq_true rfl) rfl rfl (fun w' hK hS => KeepC.mk hK ?_)
        (conv => whnf)
        refine hS.laX 0 rfl rfl ?_
        repeat' ((conv => whnf); first | refine RetC.mk ?_ | refine NzC.mk (by decide) ?_ | refine RngC.mk (by omega) (by omega) ?_ | refine IdxC.mk (by omega) (by omega) ?_ | refine brD (fun _ => ?_) (fun _ => ?_) | refine brND (fun _ => ?_) (fun _ => ?_) | refine brN (fun _ => ?_) (fun _ => ?_) | refine brI (fun _ => ?_) (fun _ => ?_))
        exact ⟨⟨noPkt, false, rfl, hbad⟩, hS.ext⟩
      cases ka with
      | false =>
        have hbad := pktR_bad hkey (.inr (.inr (.inl rfl)))
        (conv => whnf)
        (refine drawS tabOk mixed [] ((· = b2)) [0, 1, 2, 3] (by kernel_rfl) ?_; rintro w1 rfl; replace hS := hS.drew)
        have hK := hS.ref (· = b2)
        (conv => whnf)
        refine hS.ldrF (hE.at_ 1 rfl) id (fun e => by have := cell_lt (hE.at_ 1 rfl); dsimp only at this; omega) ?_
        (conv => whnf)
        refine hS.stK hK 0 rfl (Nat.le_of_ble_eq_true rfl) rfl rfl (fun w' hK hS => KeepC.mk hK ?_)
        (conv => whnf)
        refine hS.laX 0 rfl rfl ?_
        repeat' ((conv => whnf); first | refine RetC.mk ?_ | refine NzC.mk (by decide) ?_ | refine RngC.mk (by omega) (by omega) ?_ | refine IdxC.mk (by omega) (by omega) ?_ | refine brD (fun _ => ?_) (fun _ => ?_) | refine brND (fun _ => ?_) (fun _ => ?_) | refine brN (fun _ => ?_) (fun _ => ?_) | refine brI (fun _ => ?_) (fun _ => ?_))
        exact ⟨⟨noPkt, false, rfl, hbad⟩, hS.ext⟩
      | true =>
        cases kb with
        | false =>
          have hbad := pktR_bad hkey (.inr (.inr (.inr rfl)))
          (conv => whnf)
          (refine drawS tabOk mixed [] ((· = b2)) [0, 1, 2, 3] (by kernel_rfl) ?_; rintro w1 rfl; replace hS := hS.drew)
          have hK := hS.ref (· = b2)
          (conv => whnf)
          refine hS.ldrF (hE.at_ 1 rfl) id (fun e => by have := cell_lt (hE.at_ 1 rfl); dsimp only at this; omega) ?_
          (conv => whnf)
          refine hS.stK hK 0 rfl (Nat.le_of_ble_eq_true rfl) rfl rfl (fun w' hK hS => KeepC.mk hK ?_)
          (conv => whnf)
          refine hS.laX 0 rfl rfl ?_
          repeat' ((conv => whnf); first | refine RetC.mk ?_ | refine NzC.mk (by decide) ?_ | refine RngC.mk (by omega) (by omega) ?_ | refine IdxC.mk (by omega) (by omega) ?_ | refine brD (fun _ => ?_) (fun _ => ?_) | refine brND (fun _ => ?_) (fun _ => ?_) | refine brN (fun _ => ?_) (fun _ => ?_) | refine brI (fun _ => ?_) (fun _ => ?_))
          exact ⟨⟨noPkt, false, rfl, hbad⟩, hS.ext⟩
        | true =>
          (conv => whnf)
          refine hS.laX 1 rfl rfl ?_
          (conv => whnf)
          refine hS.st 0 rfl (Nat.le_of_ble_eq_true rfl) rfl (fun w' hS => ?_)
          (conv => whnf)
          refine hS.laX 0 rfl rfl ?_
          repeat' ((conv => whnf); first | refine RetC.mk ?_ | refine NzC.mk (by decide) ?_ | refine RngC.mk (by omega) (by omega) ?_ | refine IdxC.mk (by omega) (by omega) ?_ | refine brD (fun _ => ?_) (fun _ => ?_) | refine brND (fun _ => ?_) (fun _ => ?_) | refine brN (fun _ => ?_) (fun _ => ?_) | refine brI (fun _ => ?_) (fun _ => ?_))
          exact ⟨⟨p, true, rfl, pktR_good hkey hpe h1⟩, hS.ext⟩
end Go.Proofs.YtcioicoedmmkhaaGreatDoor

namespace Go.Proofs.YtcioicoedmmkhaaGreatDoor
open Go Ev
theorem decimalZ_ok (n : Int) (hn : I64 n) (w : World) : CallC Tryz.prog 44 #[.int .i64 n] w fun v w' => v = .string (bs (Lib.itoa n)) ∧ Ext No w w' := by
  obtain ⟨h1, h2⟩ := hn
  have he : Lib.itoa n = if n < 0 then 45 :: Lib.decDigits n.natAbs else Lib.decDigits n.toNat := rfl
  have hl := Lib.itoa_length_le n h1 h2
  refine fn_intro tabOk Tryz.func44 (by kernel_rfl) rfl Tryz.ntmps44 (Nat.le_of_ble_eq_true rfl) ?_
  have hS := St.start w No
  (conv => whnf)
  refine brD (fun h => ?_) (fun h => ?_)
  · obtain ⟨m, rfl⟩ : ∃ m : Nat, n = -(m : Int) := ⟨(-n).toNat, by omega⟩
    rw [if_pos (by omega), show (-(m : Int)).natAbs = m by omega] at he
    (conv => whnf)
    refine (below_ok 18 m (by omega) (by omega) _).mono ?_
    rintro v w1 ⟨rfl, hx⟩
    replace hS := hS.no hx
    rw [he, List.length_cons] at hl
    (conv => whnf)
    refine addS (a := [45]) (by simp; omega) ?_
    repeat' ((conv => whnf); first | refine RetC.mk ?_ | refine NzC.mk (by decide) ?_ | refine RngC.mk (by omega) (by omega) ?_ | refine IdxC.mk (by omega) (by omega) ?_ | refine brD (fun _ => ?_) (fun _ => ?_) | refine brND (fun _ => ?_) (fun _ => ?_) | refine brN (fun _ => ?_) (fun _ => ?_) | refine brI (fun _ => ?_) (fun _ => ?_))
    rw [he]
    exact ⟨rfl, hS.ext⟩
  · obtain ⟨m, rfl⟩ : ∃ m : Nat, n = m := ⟨n.toNat, by omega⟩
    rw [if_neg (by omega), Int.toNat_natCast] at he
    (conv => whnf)
    refine RngC.mk (by omega) (by omega) ?_
    rw [show (0 : Int) - (m : Int) = -(m : Int) by omega]
    (conv => whnf)
    refine (below_ok 18 m (by omega) (by omega) _).mono ?_
    rintro v w1 ⟨rfl, hx⟩
    replace hS := hS.no hx
    repeat' ((conv => whnf); first | refine RetC.mk ?_ | refine NzC.mk (by decide) ?_ | refine RngC.mk (by omega) (by omega) ?_ | refine IdxC.mk (by omega) (by omega) ?_ | refine brD (fun _ => ?_) (fun _ => ?_) | refine brND (fun _ => ?_) (fun _ => ?_) | refine brN (fun _ => ?_) (fun _ => ?_) | refine brI (fun _ => ?_) (fun _ => ?_))
    rw [he]
    exact ⟨rfl, hS.ext⟩
theorem join_snoc (w : List UInt8) (sep : List UInt8) : ∀ l : List (List UInt8), l ≠ [] → Lib.join (l ++ [w]) sep = Lib.join l sep ++ sep ++ w
  | [], h => absurd rfl h
  | [x], _ => by
    rw [List.singleton_append, join_cc, Lib.join_one, Lib.join_one]
    simp
  | x :: y :: r, _ => by
    have ih := join_snoc w sep (y :: r) (by simp)
    rw [List.cons_append, List.cons_append, join_cc, join_cc, ← List.cons_append, ih]
    simp
theorem fjoin_nil (n : Int) {k : Nat} (hk : k ≤ 4) : Lib.join (fwords n k) [43] = [] ↔ fwords n k = [] := by
  constructor
  · intro h
    cases hw : fwords n k with
    | nil => rfl
    | cons w ws =>
      exfalso
      have h3 := (fwords_mem hk (show w ∈ fwords n k by rw [hw]; exact List.mem_cons_self)).1
      have hm := join_mem_len (sep := [43]) (fwords n k) (show w ∈ fwords n k by rw [hw]; exact List.mem_cons_self)
      rw [h, List.length_nil] at hm
      omega
  · intro h
    rw [h]
    rfl
theorem tdiv_rng {n : Int} (hn : I64 n) (m : Nat) : -9223372036854775808 ≤ n.tdiv (m : Int) ∧ n.tdiv (m : Int) ≤ 9223372036854775807 := by
  obtain ⟨h1, h2⟩ := hn
  rcases Int.le_total 0 n with h | h
  · rw [Int.tdiv_eq_ediv_of_nonneg h]
    have := Int.ediv_le_self (a := n) (m : Int) h
    have := Int.ediv_nonneg h (Int.natCast_nonneg m)
    omega
  · obtain ⟨j, rfl⟩ : ∃ j : Nat, n = -(j : Int) := ⟨(-n).toNat, by omega⟩
    rw [Int.neg_tdiv, Int.tdiv_eq_ediv_of_nonneg (Int.natCast_nonneg j)]
    have := Int.ediv_le_self (a := (j : Int)) (m : Int) (Int.natCast_nonneg j)
    have := Int.ediv_nonneg (Int.natCast_nonneg j) (Int.natCast_nonneg m)
    omega
theorem flagsText_ok (n : Int) (hn : I64 n) (w : World) : CallC Tryz.prog 36 #[.int .i64 n] w fun v w' => v = .string (bs (ftext n)) ∧ Ext No w w' := by
  refine fn_intro tabOk Tryz.func36 (by kernel_rfl) rfl Tryz.ntmps36 (Nat.le_of_ble_eq_true rfl) ?_
  have hS := St.start w No
  (conv => whnf)
  refine hS.lit (cs := fnames.map fun l => .string (bs l)) Tryz.underlying66 (sz := 1) (by kernel_rfl) (z := .string (bs [])) (by kernel_rfl) rfl rfl (by rfl) (fun bl w' hbl hS => ?_)
  (conv => whnf)
  refine loopR tabOk (fun σ w' q => ∃ (k : Nat), σ = [(6, .int .i64 (k : Int)), (5, .int .i64 ((2 ^ k : Nat) : Int)), (4, .string (bs (Lib.join (fwords n k) [43]))), (3, .slice (some ⟨bl, 0, none⟩) 4 4), (0, .int .i64 n)] ∧ q = 4 - k ∧ k ≤ 4 ∧ St w No w' [blk bl 9 (fnames.map fun l => .string (bs l))])
    (σ' := [(6, .int .i64 ((0 : Nat) : Int)), (5, .int .i64 ((2 ^ 0 : Nat) : Int)), (4, .string (bs [])), (3, .slice (some ⟨bl, 0, none⟩) 4 4), (0, .int .i64 n)]) (n := 4) ⟨rfl, rfl, rfl, rfl, rfl, trivial⟩ ⟨0, rfl, rfl, Nat.zero_le _, hS⟩ ?_
  clear hS
  rintro _ w1 q ⟨k, rfl, rfl, hk, hS⟩
  have hjl := fjoin_len n hk
  have hjn := fjoin_nil n hk
  (conv => whnf)
  refine brD (fun h3 => ?_) (fun h3 => ?_)
  · have hk4 : k < 4 := by omega
    have hst := fwords_step n k
    have hjl1 := fjoin_len n (show k + 1 ≤ 4 by omega)
    have h2k : 2 ^ k ≤ 2 ^ 3 ∧ 1 ≤ 2 ^ k := ⟨Nat.pow_le_pow_right (by decide) (by omega), Nat.one_le_pow _ _ (by decide)⟩
    have h2s : 2 ^ (k + 1) = 2 * 2 ^ k := by rw [Nat.pow_succ, Nat.mul_comm]
    obtain ⟨t1, t2⟩ := tdiv_rng hn (2 ^ k)
    have hfb : ((n.tdiv ((2 ^ k : Nat) : Int)).tmod 2 == 1) = fbit n k := by
      unfold fbit
      rw [Bool.eq_iff_iff, beq_iff_eq, decide_eq_true_iff]
    have hat : (fnames.map fun l => Value.string (bs l))[0 + k * 1]? = some (.string (bs (fnames.getD k []))) := by
      rw [Nat.zero_add, Nat.mul_one, List.getElem?_map, List.getD_eq_getElem?_getD, List.getElem?_eq_getElem (show k < fnames.length from hk4)]
      rfl
    (conv => whnf)
    refine NzC.mk (by omega) ?_
    refine RngC.mk t1 t2 ?_
    (conv => whnf)
    refine NzC.mk (by decide) ?_
    (conv => whnf)
    rw [hfb]
    refine brI (fun h4 => ?_) (fun h4 => ?_)
    · rw [if_pos h4] at hst
      (conv => whnf)
      refine neS2 ?_
      (conv => whnf)
      refine brND (fun h5 => ?_) (fun h5 => ?_)
      · have hne : fwords n k ≠ [] := fun e => h5 (hjn.2 e)
        have hj : Lib.join (fwords n (k + 1)) [43] = Lib.join (fwords n k) [43] ++ [43] ++ fnames.getD k [] := by rw [hst, join_snoc _ _ _ hne]
        rw [hj] at hjl1
        simp only [List.length_append] at hjl1
        (conv => whnf)
        refine addS (b := [43]) (by simp; omega) ?_
        (conv => whnf)
        refine IdxC.mk (by omega) (by omega) ?_
        (conv => whnf)
        refine hS.ld 0 rfl hat ?_
        (conv => whnf)
        refine addS (by simp only [List.length_append]; omega) ?_
        rw [← hj]
        (conv => whnf)
        refine RngC.mk (by omega) (by omega) ?_
        (conv => whnf)
        refine RngC.mk (by omega) (by omega) ?_
        (conv => whnf)
        refine LoopE.mk ⟨_, [(6, .int .i64 ((k + 1 : Nat) : Int)), (5, .int .i64 ((2 ^ (k + 1) : Nat) : Int)), (4, _), (3, _), (0, _)], ?_, ⟨rfl, by rw [h2s, Int.natCast_mul]; rfl, rfl, rfl, rfl, trivial⟩, ⟨k + 1, rfl, rfl, by omega, hS⟩⟩
        omega
      · have hnil : fwords n k = [] := hjn.1 h5
        have hj : Lib.join (fwords n (k + 1)) [43] = fnames.getD k [] := by rw [hst, hnil, List.nil_append, Lib.join_one]
        have h5 : Lib.join (fwords n k) [43] = [] := h5
        rw [h5]
        rw [hj] at hjl1
        (conv => whnf)
        refine IdxC.mk (by omega) (by omega) ?_
        (conv => whnf)
        refine hS.ld 0 rfl hat ?_
        (conv => whnf)
        refine addS (a := []) (by simp only [List.length_nil]; omega) ?_
        rw [List.nil_append, ← hj]
        (conv => whnf)
        refine RngC.mk (by omega) (by omega) ?_
        (conv => whnf)
        refine RngC.mk (by omega) (by omega) ?_
        (conv => whnf)
        refine LoopE.mk ⟨_, [(6, .int .i64 ((k + 1 : Nat) : Int)), (5, .int .i64 ((2 ^ (k + 1) : Nat) : Int)), (4, _), (3, _), (0, _)], ?_, ⟨rfl, by rw [h2s, Int.natCast_mul]; rfl, rfl, rfl, rfl, trivial⟩, ⟨k + 1, rfl, rfl, by omega, hS⟩⟩
        omega
    · rw [if_neg (by rw [h4]; decide), List.append_nil] at hst
      rw [← hst]
      (conv => whnf)
      refine RngC.mk (by omega) (by omega) ?_
      (conv => whnf)
      refine RngC.mk (by omega) (by omega) ?_
      (conv => whnf)
      refine LoopE.mk ⟨_, [(6, .int .i64 ((k + 1 : Nat) : Int)), (5, .int .i64 ((2 ^ (k + 1) : Nat) : Int)), (4, _), (3, _), (0, _)], ?_, ⟨rfl, by rw [h2s, Int.natCast_mul]; rfl, rfl, rfl, rfl, trivial⟩, ⟨k + 1, rfl, rfl, by omega, hS⟩⟩
      omega
  · obtain rfl : k = 4 := by omega
    unfold ftext
    (conv => whnf)
    refine eqS2 ?_
    (conv => whnf)
    refine brD (fun h5 => ?_) (fun h5 => ?_)
    · rw [if_pos (hjn.1 h5)]
      repeat' ((conv => whnf); first | refine RetC.mk ?_ | refine NzC.mk (by decide) ?_ | refine RngC.mk (by omega) (by omega) ?_ | refine IdxC.mk (by omega) (by omega) ?_ | refine brD (fun _ => ?_) (fun _ => ?_) | refine brND (fun _ => ?_) (fun _ => ?_) | refine brN (fun _ => ?_) (fun _ => ?_) | refine brI (fun _ => ?_) (fun _ => ?_))
      exact ⟨rfl, hS.ext⟩
    · rw [if_neg (fun e => h5 (hjn.2 e))]
      repeat' ((conv => whnf); first | refine RetC.mk ?_ | refine NzC.mk (by decide) ?_ | refine RngC.mk (by omega) (by omega) ?_ | refine IdxC.mk (by omega) (by omega) ?_ | refine brD (fun _ => ?_) (fun _ => ?_) | refine brND (fun _ => ?_) (fun _ => ?_) | refine brN (fun _ => ?_) (fun _ => ?_) | refine brI (fun _ => ?_) (fun _ => ?_))
      exact ⟨rfl, hS.ext⟩
def PktS.IP (p : PktS) : Prop := I64 p.proto ∧ I64 p.sa ∧ I64 p.sp ∧ I64 p.da ∧ I64 p.dp ∧ I64 p.flags
theorem packetText_ok (p : PktS) (hp : p.IP) (w : World) : CallC Tryz.prog 18 #[.agg (encPkt p).toArray] w fun v w' => v = .string (bs p.text) ∧ Ext No w w' := by
  obtain ⟨pr, sa, sp, da, dp, fl⟩ := p
  obtain ⟨i0, i1, i2, i3, i4, i5⟩ := hp
  dsimp only at i0 i1 i2 i3 i4 i5
  have e1 := Lib.itoa_length_le sa i1.1 i1.2
  have e2 := Lib.itoa_length_le sp i2.1 i2.2
  have e3 := Lib.itoa_length_le da i3.1 i3.2
  have e4 := Lib.itoa_length_le dp i4.1 i4.2
  have e5 := ftext_len fl
  unfold PktS.text endT
  refine fn_intro tabOk Tryz.func18 (by kernel_rfl) rfl Tryz.ntmps18 (Nat.le_of_ble_eq_true rfl) ?_
  have hS := St.start w No
  (conv => whnf)
  refine hS.new (fun b w' hb hS => ?_)
  replace hS : St w No w' [blk b 26 (encPkt ⟨pr, sa, sp, da, dp, fl⟩)] := hS
  (conv => whnf)
  (refine drawS tabOk mixed [] (No) [0, 1, 2, 5, 6, 7, 11, 12, 13, 17, 18, 19, 3, 4, 8, 9, 10, 14, 15, 16, 20, 21, 22] (by kernel_rfl) ?_; rintro w1 rfl; replace hS := hS.drew)
  have hK := hS.ref No
  (conv => whnf)
  refine hS.ldF 0 rfl rfl id ?_
  (conv => whnf)
  refine hS.ldF 0 rfl rfl id ?_
  (conv => whnf)
  refine hS.ldF 0 rfl rfl id ?_
  (conv => whnf)
  refine hS.ldF 0 rfl rfl id ?_
  (conv => whnf)
  refine (decimalZ_ok sa i1 _).mono ?_
  rintro v w3 ⟨rfl, hx⟩
  replace hS := hS.no hx
  replace hK := hK.trans hx
  refine KeepC.mk hK ?_
  clear hx
  (conv => whnf)
  refine addS (b := [58]) (by simp; omega) ?_
  (conv => whnf)
  refine (decimalZ_ok sp i2 _).mono ?_
  rintro v w3 ⟨rfl, hx⟩
  replace hS := hS.no hx
  replace hK := hK.trans hx
  refine KeepC.mk hK ?_
  clear hx
  (conv => whnf)
  refine addS (by simp; omega) ?_
  (conv => whnf)
  refine addS (b := [32]) (by simp; omega) ?_
  (conv => whnf)
  refine (decimalZ_ok da i3 _).mono ?_
  rintro v w3 ⟨rfl, hx⟩
  replace hS := hS.no hx
  replace hK := hK.trans hx
  refine KeepC.mk hK ?_
  clear hx
  (conv => whnf)
  refine addS (by simp; omega) ?_
  (conv => whnf)
  refine addS (b := [58]) (by simp; omega) ?_
  (conv => whnf)
  refine (decimalZ_ok dp i4 _).mono ?_
  rintro v w3 ⟨rfl, hx⟩
  replace hS := hS.no hx
  replace hK := hK.trans hx
  refine KeepC.mk hK ?_
  clear hx
  (conv => whnf)
  refine addS (by simp; omega) ?_
  (conv => whnf)
  refine hS.ld 0 rfl rfl ?_
  (conv => whnf)
  refine brD (fun h1 => ?_) (fun h1 => ?_)
  · rw [if_pos (by exact h1)]
    (conv => whnf)
    refine addS (a := [117, 100, 112, 32]) (by simp; omega) ?_
    repeat' ((conv => whnf); first | refine RetC.mk ?_ | refine NzC.mk (by decide) ?_ | refine RngC.mk (by omega) (by omega) ?_ | refine IdxC.mk (by omega) (by omega) ?_ | refine brD (fun _ => ?_) (fun _ => ?_) | refine brND (fun _ => ?_) (fun _ => ?_) | refine brN (fun _ => ?_) (fun _ => ?_) | refine brI (fun _ => ?_) (fun _ => ?_))
    exact ⟨by simp, hS.ext⟩
  · rw [if_neg (by exact h1)]
    (conv => whnf)
    refine addS (a := [116, 99, 112, 32]) (by simp; omega) ?_
    (conv => whnf)
    refine addS (b := [32]) (by simp; omega) ?_
    (conv => whnf)
    refine hS.ld 0 rfl rfl ?_
    (conv => whnf)
    refine (flagsText_ok fl i5 _).mono ?_
    rintro v w5 ⟨rfl, hx⟩
    replace hS := hS.no hx
    (conv => whnf)
    refine addS (by simp; omega) ?_
    repeat' ((conv => whnf); first | refine RetC.mk ?_ | refine NzC.mk (by decide) ?_ | refine RngC.mk (by omega) (by omega) ?_ | refine IdxC.mk (by omega) (by omega) ?_ | refine brD (fun _ => ?_) (fun _ => ?_) | refine brND (fun _ => ?_) (fun _ => ?_) | refine brN (fun _ => ?_) (fun _ => ?_) | refine brI (fun _ => ?_) (fun _ => ?_))
    exact ⟨by simp, hS.ext⟩
theorem numB_one (n : Nat) : numB n 1 = [UInt8.ofNat n] := by
  unfold numB
  simp [List.range_succ]
theorem packetBytes_ok (p : PktS) (hp : p.err = 0) (w : World) : CallC Tryz.prog 17 #[.agg (encPkt p).toArray] w fun v w' => v = .string (bs p.bytes) ∧ Ext No w w' := by
  obtain ⟨f1, f2, f3, f4, f5⟩ := err_facts hp
  have g2 := endB_facts f2
  have g3 := endB_facts f3
  obtain ⟨pr, sa, sp, da, dp, fl⟩ := p
  dsimp only at f1 f4 f5 g2 g3
  obtain ⟨pr, rfl⟩ : ∃ n : Nat, pr = n := ⟨pr.toNat, by omega⟩
  obtain ⟨sa, rfl⟩ : ∃ n : Nat, sa = n := ⟨sa.toNat, by omega⟩
  obtain ⟨sp, rfl⟩ : ∃ n : Nat, sp = n := ⟨sp.toNat, by omega⟩
  obtain ⟨da, rfl⟩ : ∃ n : Nat, da = n := ⟨da.toNat, by omega⟩
  obtain ⟨dp, rfl⟩ : ∃ n : Nat, dp = n := ⟨dp.toNat, by omega⟩
  obtain ⟨fl, rfl⟩ : ∃ n : Nat, fl = n := ⟨fl.toNat, by omega⟩
  have hn := numB_len
  unfold PktS.bytes
  simp only [Int.toNat_natCast]
  clear hp f2 f3
  refine fn_intro tabOk Tryz.func17 (by kernel_rfl) rfl Tryz.ntmps17 (Nat.le_of_ble_eq_true rfl) ?_
  have hS := St.start w No
  (conv => whnf)
  refine hS.new (fun b w' hb hS => ?_)
  replace hS : St w No w' [blk b 26 (encPkt ⟨pr, sa, sp, da, dp, fl⟩)] := hS
  (conv => whnf)
  (refine drawS tabOk mixed [] (No) [0, 1, 3, 4, 5, 8, 9, 10, 13, 14, 15, 18, 19, 20, 23, 24, 2, 6, 7, 11, 12, 16, 17, 21, 22, 25, 26, 27] (by kernel_rfl) ?_; rintro w1 rfl; replace hS := hS.drew)
  have hK := hS.ref No
  repeat' ((conv => whnf); first | refine hS.ldF 0 rfl rfl id ?_ | refine addS (by simp [hn]) ?_ | (refine (rbyte_ok pr (by omega) _).mono ?_; rintro v w3 ⟨rfl, hx⟩; replace hS := hS.no hx; replace hK := hK.trans hx; refine KeepC.mk hK ?_; clear hx) | (refine (wide_ok sa 4 (by omega) (by omega) _).mono ?_; rintro v w3 ⟨rfl, hx⟩; replace hS := hS.no hx; replace hK := hK.trans hx; refine KeepC.mk hK ?_; clear hx) | (refine (wide_ok sp 2 (by omega) (by omega) _).mono ?_; rintro v w3 ⟨rfl, hx⟩; replace hS := hS.no hx; replace hK := hK.trans hx; refine KeepC.mk hK ?_; clear hx) | (refine (wide_ok da 4 (by omega) (by omega) _).mono ?_; rintro v w3 ⟨rfl, hx⟩; replace hS := hS.no hx; replace hK := hK.trans hx; refine KeepC.mk hK ?_; clear hx) | (refine (wide_ok dp 2 (by omega) (by omega) _).mono ?_; rintro v w3 ⟨rfl, hx⟩; replace hS := hS.no hx; replace hK := hK.trans hx; refine KeepC.mk hK ?_; clear hx) | (refine (rbyte_ok fl (by omega) _).mono ?_; rintro v w3 ⟨rfl, hx⟩; replace hS := hS.no hx; replace hK := hK.trans hx; refine KeepC.mk hK ?_; clear hx) | refine RetC.mk ?_)
  refine ⟨congrArg (fun l => Value.string (bs l)) ?_, hS.ext⟩
  rw [numB_one, numB_one]
  simp
end Go.Proofs.YtcioicoedmmkhaaGreatDoor
