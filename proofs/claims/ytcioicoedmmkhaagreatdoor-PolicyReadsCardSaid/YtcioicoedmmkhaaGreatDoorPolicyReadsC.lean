/-
  Texts of this claim, joined: Shelf, ShelfC, PolicyT, Dec, CutS, RuleS, TextS, ShelfD, RefRead, PolicyR, RefReadB.
-/
import Derived.Test.YtcioicoedmmkhaaGreatDoorPolicyReadsB
import Derived.Shelf.Strings.Builder1
import Derived.Shelf.Strings.Builder2
import Derived.Shelf.Strings.OnBuilder
import Derived.Shelf.Strconv.Atoi
import Derived.Shelf.Strconv.Itoa0
import Derived.Shelf.Strconv.Itoa1
import Derived.Shelf.LaysM
import Derived.Shelf.Strconv.Itoa2
import Derived.Shelf.Strconv.Itoa3
import Derived.Shelf.Strconv.AtoiErrFast
import Derived.Shelf.Strconv.ParseIntEmpty
import Derived.Shelf.Strconv.AtoiFail
import Derived.Shelf.Strconv.Clone
import Derived.Shelf.Strconv.SyntaxError
import Derived.Shelf.LaysC
import Derived.Shelf.Strconv.ToError
import Derived.Shelf.Strconv.AtoiErr
import Derived.Shelf.Strconv.ErrVar
import Derived.Shelf.Strconv.Lower
import Derived.Shelf.Strconv.ParseUint10
import Derived.Shelf.Strconv.ParseUint10Empty
import Derived.Shelf.Strconv.ParseUint10Any
import Derived.Shelf.Strconv.ParseInt10
import Derived.Shelf.Strconv.AtoiLong
import Derived.Shelf.Strconv.AtoiInnerAll
import Derived.Shelf.Strconv.RangeError
import Derived.Shelf.Strconv.ToErrorRange
import Derived.Shelf.Strconv.AtoiAll
import Derived.Shelf.Strconv.ErrVarAll
import Derived.Shelf.Strings.Search1
import Derived.Shelf.Strings.Search2
import Derived.Shelf.Strings.Search3
import Derived.Shelf.Strings.Cut
import Derived.Shelf.Strings.Count
import Derived.Shelf.Strings.Shaped
import Derived.Shelf.Strings.Prefix
import Derived.Shelf.Strings.Split
import Derived.Shelf.Unicode.DecodeSlow
import Derived.Test.YtcioicoedmmkhaaGreatDoorProg
import Derived.Lib.LaidTab
import Derived.Lib.ItoaLen
import Derived.Lib.AtoiAll
import Derived.Lib.SplitLaws
import Derived.Lib.AtoiAllCases

namespace Go.Proofs
open Go.Shelf
def Tryz.lays156_ren : Go.Shelf.Ren := ⟨fun | 156 => 58 | 165 => 81 | 166 => 82 | 169 => 83 | 240 => 97 | 241 => 98 | 276 => 108 | 277 => 109 | n => n, fun | 31 => 66 | 9 => 9 | 3 => 3 | 4 => 4 | 0 => 0 | 20 => 20 | 72 => 131 | 76 => 98 | 70 => 129 | 37 => 103 | 75 => 28 | 127 => 158 | 164 => 112 | 5 => 5 | 80 => 133 | n => n, fun | n => n⟩
theorem Tryz.lays156 : Go.Proofs.Lays.n156 Tryz.prog Tryz.lays156_ren := {
  mixed := by kernel_rfl
  f156 := Tryz.func58.trans (congrArg some (by kernel_rfl))
  f165 := Tryz.func81.trans (congrArg some (by kernel_rfl))
  f166 := Tryz.func82.trans (congrArg some (by kernel_rfl))
  f169 := Tryz.func83.trans (congrArg some (by kernel_rfl))
  f240 := Tryz.func97.trans (congrArg some (by kernel_rfl))
  f241 := Tryz.func98.trans (congrArg some (by kernel_rfl))
  f276 := Tryz.func108.trans (congrArg some (by kernel_rfl))
  f277 := Tryz.func109.trans (congrArg some (by kernel_rfl))
  t0 := Tryz.underlying0
  a0 := Tryz.isAgg0
  z0 := Tryz.sizeOf0
  v0 := Tryz.zeroValue0
  t3 := Tryz.underlying3
  a3 := Tryz.isAgg3
  z3 := Tryz.sizeOf3
  v3 := Tryz.zeroValue3
  t4 := Tryz.underlying4
  a4 := Tryz.isAgg4
  z4 := Tryz.sizeOf4
  v4 := Tryz.zeroValue4
  t9 := Tryz.underlying9
  a9 := Tryz.isAgg9
  z9 := Tryz.sizeOf9
  v9 := Tryz.zeroValue9
  t20 := Tryz.underlying20
  a20 := Tryz.isAgg20
  z20 := Tryz.sizeOf20
  v20 := Tryz.zeroValue20
  t31 := Tryz.underlying66
  a31 := Tryz.isAgg66
  z31 := Tryz.sizeOf66
  v31 := Tryz.zeroValue66
  t37 := Tryz.underlying103
  a37 := Tryz.isAgg103
  z37 := Tryz.sizeOf103
  v37 := Tryz.zeroValue103
  t70 := Tryz.underlying129
  a70 := Tryz.isAgg129
  z70 := Tryz.sizeOf129
  v70 := Tryz.zeroValue129
  t72 := Tryz.underlying131
  a72 := Tryz.isAgg131
  z72 := Tryz.sizeOf131
  v72 := Tryz.zeroValue131
  t75 := Tryz.underlying28
  a75 := Tryz.isAgg28
  z75 := Tryz.sizeOf28
  v75 := Tryz.zeroValue28
  t76 := Tryz.underlying98
  a76 := Tryz.isAgg98
  z76 := Tryz.sizeOf98
  v76 := Tryz.zeroValue98
  t127 := Tryz.underlying158
  a127 := Tryz.isAgg158
  z127 := Tryz.sizeOf158
  v127 := Tryz.zeroValue158
  t164 := Tryz.underlying112
  a164 := Tryz.isAgg112
  z164 := Tryz.sizeOf112
  v164 := Tryz.zeroValue112 }
theorem Tryz.Builder_Extra_156 : Builder.Extra Tryz.prog Tryz.lays156_ren := {
  sizeBuilder := by kernel_rfl
  liesBuilder := by kernel_rfl
  t5 := Tryz.underlying5
  a5 := Tryz.isAgg5
  z5 := Tryz.sizeOf5
  v5 := Tryz.zeroValue5
  infoByte := by kernel_rfl
  cellsByte := by kernel_rfl
  sizeByte := by kernel_rfl
  neB5 := by decide }
open Go.RowKit in
theorem Tryz.strings_Join (bk o c : Nat) (xs : List ByteArray) (sep : ByteArray) (w : World) (hcells : ∀ (j : Nat) x, xs[j]? = some x → w.cell? ⟨bk, o + j, none⟩ = some (.string x)) (hbk : bk < w.heap.size) (hN : xs.length ≤ 140737488355328) (hcap : xs.length ≤ c) (hlen : (Lib.join (xs.map (·.data.toList)) sep.data.toList).length ≤ 140737488355328) :
    Calls Tryz.prog 58 #[.slice (some ⟨bk, o, none⟩) xs.length c, .string sep] w fun e w' => e = .returned (.string ⟨(Lib.join (xs.map (·.data.toList)) sep.data.toList).toArray⟩) ∧ Below w.heap.size w w' := Any.strings_Join Tryz.lays156 Tryz.Builder_Extra_156 bk o c xs sep w hcells hbk hN hcap hlen
def Tryz.laysM171_ren : Go.Shelf.Ren := ⟨fun | 171 => 60 | 243 => 84 | 246 => 99 | 283 => 110 | 284 => 111 | 285 => 112 | 286 => 113 | 129 => 119 | 317 => 118 | 318 => 120 | 319 => 121 | 320 => 122 | 337 => 123 | 338 => 124 | n => n, fun | 3 => 3 | 9 => 9 | 2 => 2 | 4 => 4 | 171 => 169 | 0 => 0 | 53 => 160 | 37 => 103 | 5 => 5 | 173 => 172 | 212 => 186 | 51 => 178 | 20 => 20 | 213 => 187 | 46 => 90 | 232 => 191 | 233 => 192 | n => n, fun | 17 => 19 | 18 => 20 | 19 => 21 | n => n⟩
theorem Tryz.laysM171 : Go.Proofs.LaysM.n171 Tryz.prog Tryz.laysM171_ren := {
  mixed := by kernel_rfl
  f129 := Tryz.func119.trans (congrArg some (by kernel_rfl))
  f171 := Tryz.func60.trans (congrArg some (by kernel_rfl))
  f243 := Tryz.func84.trans (congrArg some (by kernel_rfl))
  f246 := Tryz.func99.trans (congrArg some (by kernel_rfl))
  f283 := Tryz.func110.trans (congrArg some (by kernel_rfl))
  f284 := Tryz.func111.trans (congrArg some (by kernel_rfl))
  f285 := Tryz.func112.trans (congrArg some (by kernel_rfl))
  f286 := Tryz.func113.trans (congrArg some (by kernel_rfl))
  f317 := Tryz.func118.trans (congrArg some (by kernel_rfl))
  f318 := Tryz.func120.trans (congrArg some (by kernel_rfl))
  f319 := Tryz.func121.trans (congrArg some (by kernel_rfl))
  f320 := Tryz.func122.trans (congrArg some (by kernel_rfl))
  f337 := Tryz.func123.trans (congrArg some (by kernel_rfl))
  f338 := Tryz.func124.trans (congrArg some (by kernel_rfl))
  t0 := Tryz.underlying0
  a0 := Tryz.isAgg0
  z0 := Tryz.sizeOf0
  v0 := Tryz.zeroValue0
  t2 := Tryz.underlying2
  a2 := Tryz.isAgg2
  z2 := Tryz.sizeOf2
  v2 := Tryz.zeroValue2
  t3 := Tryz.underlying3
  a3 := Tryz.isAgg3
  z3 := Tryz.sizeOf3
  v3 := Tryz.zeroValue3
  t4 := Tryz.underlying4
  a4 := Tryz.isAgg4
  z4 := Tryz.sizeOf4
  v4 := Tryz.zeroValue4
  t5 := Tryz.underlying5
  a5 := Tryz.isAgg5
  z5 := Tryz.sizeOf5
  v5 := Tryz.zeroValue5
  t9 := Tryz.underlying9
  a9 := Tryz.isAgg9
  z9 := Tryz.sizeOf9
  v9 := Tryz.zeroValue9
  t20 := Tryz.underlying20
  a20 := Tryz.isAgg20
  z20 := Tryz.sizeOf20
  v20 := Tryz.zeroValue20
  t37 := Tryz.underlying103
  a37 := Tryz.isAgg103
  z37 := Tryz.sizeOf103
  v37 := Tryz.zeroValue103
  t46 := Tryz.underlying90
  a46 := Tryz.isAgg90
  z46 := Tryz.sizeOf90
  v46 := Tryz.zeroValue90
  t51 := Tryz.underlying178
  a51 := Tryz.isAgg178
  z51 := Tryz.sizeOf178
  v51 := Tryz.zeroValue178
  t53 := Tryz.underlying160
  a53 := Tryz.isAgg160
  z53 := Tryz.sizeOf160
  v53 := Tryz.zeroValue160
  t171 := Tryz.underlying169
  a171 := Tryz.isAgg169
  z171 := Tryz.sizeOf169
  v171 := Tryz.zeroValue169
  t173 := Tryz.underlying172
  a173 := Tryz.isAgg172
  z173 := Tryz.sizeOf172
  v173 := Tryz.zeroValue172
  t212 := Tryz.underlying186
  a212 := Tryz.isAgg186
  z212 := Tryz.sizeOf186
  v212 := Tryz.zeroValue186
  t213 := Tryz.underlying187
  a213 := Tryz.isAgg187
  z213 := Tryz.sizeOf187
  t232 := Tryz.underlying191
  a232 := Tryz.isAgg191
  z232 := Tryz.sizeOf191
  v232 := Tryz.zeroValue191
  t233 := Tryz.underlying192
  a233 := Tryz.isAgg192
  z233 := Tryz.sizeOf192
  v233 := Tryz.zeroValue192
  g17 := by kernel_rfl
  g18 := by kernel_rfl
  g19 := by kernel_rfl
  i0 := by kernel_rfl
  i2 := by kernel_rfl
  i3 := by kernel_rfl
  i4 := by kernel_rfl
  i5 := by kernel_rfl
  i9 := by kernel_rfl
  i20 := by kernel_rfl
  i37 := by kernel_rfl
  i46 := by kernel_rfl
  i51 := by kernel_rfl
  i53 := by kernel_rfl
  i171 := by kernel_rfl
  i173 := by kernel_rfl
  i212 := by kernel_rfl
  i232 := by kernel_rfl
  i233 := by kernel_rfl
  m17 := by kernel_rfl
  m18 := by kernel_rfl
  m19 := by kernel_rfl }
open Go.RowKit Go.Sort Go.Lib in
theorem Tryz.strconv_Itoa (n : Int) (h0 : -9223372036854775808 ≤ n) (h1 : n ≤ 9223372036854775807) (w : World) (htab : Lib.TabIs Tryz.prog w "internal/strconv.uint64pow10" .u64 Lib.pow10Tab) :
    Calls Tryz.prog 60 #[.int .i64 n] w fun e w' => e = .returned (.string ⟨(Lib.itoa n).toArray⟩) ∧ ∃ k os, w' = grow (w.drewN k) os := Any.strconv_Itoa Tryz.laysM171 n h0 h1 w htab
def Tryz.laysC245_ren : Go.Shelf.Ren := ⟨fun | 245 => 80 | 279 => 93 | 280 => 94 | 281 => 95 | 282 => 96 | 316 => 106 | 171 => 60 | 205 => 107 | 243 => 84 | 246 => 99 | 283 => 110 | 284 => 111 | 285 => 112 | 286 => 113 | 129 => 119 | 317 => 118 | 318 => 120 | 319 => 121 | 320 => 122 | 337 => 123 | 338 => 124 | n => n, fun | 9 => 9 | 3 => 3 | 75 => 28 | 167 => 152 | 4 => 4 | 168 => 155 | 210 => 165 | 37 => 103 | 0 => 0 | 127 => 158 | 145 => 184 | 143 => 182 | 2 => 2 | 171 => 169 | 53 => 160 | 5 => 5 | 173 => 172 | 212 => 186 | 51 => 178 | 20 => 20 | 213 => 187 | 46 => 90 | 232 => 191 | 233 => 192 | 80 => 133 | n => n, fun | 15 => 15 | 16 => 16 | 17 => 19 | 18 => 20 | 19 => 21 | n => n⟩
theorem Tryz.laysC245 : Go.Proofs.LaysC.n245 Tryz.prog Tryz.laysC245_ren := {
  mixed := by kernel_rfl
  f129 := Tryz.func119.trans (congrArg some (by kernel_rfl))
  f171 := Tryz.func60.trans (congrArg some (by kernel_rfl))
  f205 := Tryz.func107.trans (congrArg some (by kernel_rfl))
  f243 := Tryz.func84.trans (congrArg some (by kernel_rfl))
  f245 := Tryz.func80.trans (congrArg some (by kernel_rfl))
  f246 := Tryz.func99.trans (congrArg some (by kernel_rfl))
  f279 := Tryz.func93.trans (congrArg some (by kernel_rfl))
  f280 := Tryz.func94.trans (congrArg some (by kernel_rfl))
  f281 := Tryz.func95.trans (congrArg some (by kernel_rfl))
  f282 := Tryz.func96.trans (congrArg some (by kernel_rfl))
  f283 := Tryz.func110.trans (congrArg some (by kernel_rfl))
  f284 := Tryz.func111.trans (congrArg some (by kernel_rfl))
  f285 := Tryz.func112.trans (congrArg some (by kernel_rfl))
  f286 := Tryz.func113.trans (congrArg some (by kernel_rfl))
  f316 := Tryz.func106.trans (congrArg some (by kernel_rfl))
  f317 := Tryz.func118.trans (congrArg some (by kernel_rfl))
  f318 := Tryz.func120.trans (congrArg some (by kernel_rfl))
  f319 := Tryz.func121.trans (congrArg some (by kernel_rfl))
  f320 := Tryz.func122.trans (congrArg some (by kernel_rfl))
  f337 := Tryz.func123.trans (congrArg some (by kernel_rfl))
  f338 := Tryz.func124.trans (congrArg some (by kernel_rfl))
  t0 := Tryz.underlying0
  a0 := Tryz.isAgg0
  z0 := Tryz.sizeOf0
  v0 := Tryz.zeroValue0
  t2 := Tryz.underlying2
  a2 := Tryz.isAgg2
  z2 := Tryz.sizeOf2
  v2 := Tryz.zeroValue2
  t3 := Tryz.underlying3
  a3 := Tryz.isAgg3
  z3 := Tryz.sizeOf3
  v3 := Tryz.zeroValue3
  t4 := Tryz.underlying4
  a4 := Tryz.isAgg4
  z4 := Tryz.sizeOf4
  v4 := Tryz.zeroValue4
  t5 := Tryz.underlying5
  a5 := Tryz.isAgg5
  z5 := Tryz.sizeOf5
  v5 := Tryz.zeroValue5
  t9 := Tryz.underlying9
  a9 := Tryz.isAgg9
  z9 := Tryz.sizeOf9
  v9 := Tryz.zeroValue9
  t20 := Tryz.underlying20
  a20 := Tryz.isAgg20
  z20 := Tryz.sizeOf20
  v20 := Tryz.zeroValue20
  t37 := Tryz.underlying103
  a37 := Tryz.isAgg103
  z37 := Tryz.sizeOf103
  v37 := Tryz.zeroValue103
  t46 := Tryz.underlying90
  a46 := Tryz.isAgg90
  z46 := Tryz.sizeOf90
  v46 := Tryz.zeroValue90
  t51 := Tryz.underlying178
  a51 := Tryz.isAgg178
  z51 := Tryz.sizeOf178
  v51 := Tryz.zeroValue178
  t53 := Tryz.underlying160
  a53 := Tryz.isAgg160
  z53 := Tryz.sizeOf160
  v53 := Tryz.zeroValue160
  t75 := Tryz.underlying28
  a75 := Tryz.isAgg28
  z75 := Tryz.sizeOf28
  v75 := Tryz.zeroValue28
  t127 := Tryz.underlying158
  a127 := Tryz.isAgg158
  z127 := Tryz.sizeOf158
  v127 := Tryz.zeroValue158
  t143 := Tryz.underlying182
  a143 := Tryz.isAgg182
  z143 := Tryz.sizeOf182
  v143 := Tryz.zeroValue182
  t145 := Tryz.underlying184
  a145 := Tryz.isAgg184
  z145 := Tryz.sizeOf184
  v145 := Tryz.zeroValue184
  t167 := Tryz.underlying152
  a167 := Tryz.isAgg152
  z167 := Tryz.sizeOf152
  v167 := Tryz.zeroValue152
  t168 := Tryz.underlying155
  a168 := Tryz.isAgg155
  z168 := Tryz.sizeOf155
  v168 := Tryz.zeroValue155
  t171 := Tryz.underlying169
  a171 := Tryz.isAgg169
  z171 := Tryz.sizeOf169
  v171 := Tryz.zeroValue169
  t173 := Tryz.underlying172
  a173 := Tryz.isAgg172
  z173 := Tryz.sizeOf172
  v173 := Tryz.zeroValue172
  t210 := Tryz.underlying165
  a210 := Tryz.isAgg165
  z210 := Tryz.sizeOf165
  v210 := Tryz.zeroValue165
  t212 := Tryz.underlying186
  a212 := Tryz.isAgg186
  z212 := Tryz.sizeOf186
  v212 := Tryz.zeroValue186
  t213 := Tryz.underlying187
  a213 := Tryz.isAgg187
  z213 := Tryz.sizeOf187
  t232 := Tryz.underlying191
  a232 := Tryz.isAgg191
  z232 := Tryz.sizeOf191
  v232 := Tryz.zeroValue191
  t233 := Tryz.underlying192
  a233 := Tryz.isAgg192
  z233 := Tryz.sizeOf192
  v233 := Tryz.zeroValue192
  g15 := by kernel_rfl
  g16 := by kernel_rfl
  g17 := by kernel_rfl
  g18 := by kernel_rfl
  g19 := by kernel_rfl
  t80 := Tryz.underlying133
  a80 := Tryz.isAgg133
  z80 := Tryz.sizeOf133
  v80 := Tryz.zeroValue133
  i0 := by kernel_rfl
  i2 := by kernel_rfl
  i3 := by kernel_rfl
  i4 := by kernel_rfl
  i5 := by kernel_rfl
  i9 := by kernel_rfl
  i20 := by kernel_rfl
  i37 := by kernel_rfl
  i46 := by kernel_rfl
  i51 := by kernel_rfl
  i53 := by kernel_rfl
  i75 := by kernel_rfl
  i80 := by kernel_rfl
  i127 := by kernel_rfl
  i143 := by kernel_rfl
  i145 := by kernel_rfl
  i167 := by kernel_rfl
  i168 := by kernel_rfl
  i171 := by kernel_rfl
  i173 := by kernel_rfl
  i210 := by kernel_rfl
  i212 := by kernel_rfl
  i232 := by kernel_rfl
  i233 := by kernel_rfl
  m15 := by kernel_rfl
  m16 := by kernel_rfl
  m17 := by kernel_rfl
  m18 := by kernel_rfl
  m19 := by kernel_rfl
  c0 := by kernel_rfl
  c2 := by kernel_rfl
  c3 := by kernel_rfl
  c4 := by kernel_rfl
  c5 := by kernel_rfl
  c9 := by kernel_rfl
  c20 := by kernel_rfl
  c37 := by kernel_rfl
  c46 := by kernel_rfl
  c51 := by kernel_rfl
  c53 := by kernel_rfl
  c75 := by kernel_rfl
  c80 := by kernel_rfl
  c127 := by kernel_rfl
  c143 := by kernel_rfl
  c145 := by kernel_rfl
  c167 := by kernel_rfl
  c168 := by kernel_rfl
  c171 := by kernel_rfl
  c173 := by kernel_rfl
  c210 := by kernel_rfl
  c212 := by kernel_rfl
  c213 := by kernel_rfl
  c232 := by kernel_rfl
  c233 := by kernel_rfl }
open Go.RowKit in
theorem Tryz.strconv_toError_syntax (fn s : ByteArray) (base bits : Int) (ev : Value) (w : World) (hlim : s.size ≤ 281474976710656) (hv : w.cell? ⟨15, 0, none⟩ = some ev) (hev : ev = .nilIface ∨ ∃ te pe, ev = .iface te pe) :
    Calls Tryz.prog 80 #[.string fn, .string s, .int .i64 base, .int .i64 bits, .iface 152 (.int .i64 2)] w fun e w' => ∃ N, e = .returned (.iface 155 (.pointer (some ⟨N, 0, none⟩))) ∧ w.heap.size ≤ N ∧ w'.heap[N]? = some (.cells #[.string fn, .string s, ev] 165 (0, 0)) ∧ Below w.heap.size w w' := Any.strconv_toError_syntax Tryz.laysC245 fn s base bits ev w hlim hv hev
def Tryz.laysC244_ren : Go.Shelf.Ren := ⟨fun | 244 => 79 | 247 => 92 | 287 => 105 | 321 => 116 | 322 => 117 | n => n, fun | 9 => 9 | 3 => 3 | 75 => 28 | 4 => 4 | 5 => 5 | 167 => 152 | 37 => 103 | 0 => 0 | 85 => 153 | 2 => 2 | 53 => 160 | 175 => 161 | 46 => 90 | 21 => 21 | 80 => 133 | n => n, fun | n => n⟩
theorem Tryz.laysC244 : Go.Proofs.LaysC.n244 Tryz.prog Tryz.laysC244_ren := {
  mixed := by kernel_rfl
  f244 := Tryz.func79.trans (congrArg some (by kernel_rfl))
  f247 := Tryz.func92.trans (congrArg some (by kernel_rfl))
  f287 := Tryz.func105.trans (congrArg some (by kernel_rfl))
  f321 := Tryz.func116.trans (congrArg some (by kernel_rfl))
  f322 := Tryz.func117.trans (congrArg some (by kernel_rfl))
  t0 := Tryz.underlying0
  a0 := Tryz.isAgg0
  z0 := Tryz.sizeOf0
  v0 := Tryz.zeroValue0
  t2 := Tryz.underlying2
  a2 := Tryz.isAgg2
  z2 := Tryz.sizeOf2
  v2 := Tryz.zeroValue2
  t3 := Tryz.underlying3
  a3 := Tryz.isAgg3
  z3 := Tryz.sizeOf3
  v3 := Tryz.zeroValue3
  t4 := Tryz.underlying4
  a4 := Tryz.isAgg4
  z4 := Tryz.sizeOf4
  v4 := Tryz.zeroValue4
  t5 := Tryz.underlying5
  a5 := Tryz.isAgg5
  z5 := Tryz.sizeOf5
  v5 := Tryz.zeroValue5
  t9 := Tryz.underlying9
  a9 := Tryz.isAgg9
  z9 := Tryz.sizeOf9
  v9 := Tryz.zeroValue9
  t21 := Tryz.underlying21
  a21 := Tryz.isAgg21
  z21 := Tryz.sizeOf21
  v21 := Tryz.zeroValue21
  t37 := Tryz.underlying103
  a37 := Tryz.isAgg103
  z37 := Tryz.sizeOf103
  v37 := Tryz.zeroValue103
  t46 := Tryz.underlying90
  a46 := Tryz.isAgg90
  z46 := Tryz.sizeOf90
  v46 := Tryz.zeroValue90
  t53 := Tryz.underlying160
  a53 := Tryz.isAgg160
  z53 := Tryz.sizeOf160
  v53 := Tryz.zeroValue160
  t75 := Tryz.underlying28
  a75 := Tryz.isAgg28
  z75 := Tryz.sizeOf28
  v75 := Tryz.zeroValue28
  t85 := Tryz.underlying153
  a85 := Tryz.isAgg153
  z85 := Tryz.sizeOf153
  v85 := Tryz.zeroValue153
  t167 := Tryz.underlying152
  a167 := Tryz.isAgg152
  z167 := Tryz.sizeOf152
  v167 := Tryz.zeroValue152
  t175 := Tryz.underlying161
  a175 := Tryz.isAgg161
  z175 := Tryz.sizeOf161
  v175 := Tryz.zeroValue161
  t80 := Tryz.underlying133
  a80 := Tryz.isAgg133
  z80 := Tryz.sizeOf133
  v80 := Tryz.zeroValue133
  i0 := by kernel_rfl
  i2 := by kernel_rfl
  i3 := by kernel_rfl
  i4 := by kernel_rfl
  i5 := by kernel_rfl
  i9 := by kernel_rfl
  i21 := by kernel_rfl
  i37 := by kernel_rfl
  i46 := by kernel_rfl
  i53 := by kernel_rfl
  i75 := by kernel_rfl
  i80 := by kernel_rfl
  i85 := by kernel_rfl
  i167 := by kernel_rfl
  i175 := by kernel_rfl
  c0 := by kernel_rfl
  c2 := by kernel_rfl
  c3 := by kernel_rfl
  c4 := by kernel_rfl
  c5 := by kernel_rfl
  c9 := by kernel_rfl
  c21 := by kernel_rfl
  c37 := by kernel_rfl
  c46 := by kernel_rfl
  c53 := by kernel_rfl
  c75 := by kernel_rfl
  c80 := by kernel_rfl
  c85 := by kernel_rfl
  c167 := by kernel_rfl
  c175 := by kernel_rfl }
open Go.RowKit in
theorem Tryz.internal_strconv_Atoi_all (s : ByteArray) (hmax : s.size ≤ 9223372036854775806) (w : World) :
    Calls Tryz.prog 79 #[.string s] w fun e w' => e = .returned (Lib.intTuple 152 (Lib.atoiSat s.data.toList) (Lib.atoiAll s.data.toList)) ∧ (w' = w ∨ ∃ t, w' = Lib.bytesWorld w 5 t) := Any.internal_strconv_Atoi_all Tryz.laysC244 s hmax w
open Go.RowKit in
theorem Tryz.strconv_toError_range (fn s : ByteArray) (base bits : Int) (ev : Value) (w : World) (hlim : s.size ≤ 281474976710656) (hv : w.cell? ⟨16, 0, none⟩ = some ev) (hev : ev = .nilIface ∨ ∃ te pe, ev = .iface te pe) :
    Calls Tryz.prog 80 #[.string fn, .string s, .int .i64 base, .int .i64 bits, .iface 152 (.int .i64 1)] w fun e w' => ∃ N, e = .returned (.iface 155 (.pointer (some ⟨N, 0, none⟩))) ∧ w.heap.size ≤ N ∧ w'.heap[N]? = some (.cells #[.string fn, .string s, ev] 165 (0, 0)) ∧ Below w.heap.size w w' := Any.strconv_toError_range Tryz.laysC245 fn s base bits ev w hlim hv hev
def Tryz.lays145_ren : Go.Shelf.Ren := ⟨fun | 145 => 56 | 220 => 78 | 219 => 91 | 217 => 101 | 225 => 102 | 224 => 103 | 267 => 104 | 266 => 114 | 314 => 115 | n => n, fun | 9 => 9 | 4 => 4 | 59 => 96 | 3 => 3 | 5 => 5 | 46 => 90 | 146 => 179 | 51 => 178 | n => n, fun | 1 => 14 | n => n⟩
theorem Tryz.lays145 : Go.Proofs.Lays.n145 Tryz.prog Tryz.lays145_ren := {
  mixed := by kernel_rfl
  f145 := Tryz.func56.trans (congrArg some (by kernel_rfl))
  f217 := Tryz.func101.trans (congrArg some (by kernel_rfl))
  f219 := Tryz.func91.trans (congrArg some (by kernel_rfl))
  f220 := Tryz.func78.trans (congrArg some (by kernel_rfl))
  f224 := Tryz.func103.trans (congrArg some (by kernel_rfl))
  f225 := Tryz.func102.trans (congrArg some (by kernel_rfl))
  f266 := Tryz.func114.trans (congrArg some (by kernel_rfl))
  f267 := Tryz.func104.trans (congrArg some (by kernel_rfl))
  f314 := Tryz.func115.trans (congrArg some (by kernel_rfl))
  t3 := Tryz.underlying3
  a3 := Tryz.isAgg3
  z3 := Tryz.sizeOf3
  v3 := Tryz.zeroValue3
  t4 := Tryz.underlying4
  a4 := Tryz.isAgg4
  z4 := Tryz.sizeOf4
  v4 := Tryz.zeroValue4
  t5 := Tryz.underlying5
  a5 := Tryz.isAgg5
  z5 := Tryz.sizeOf5
  v5 := Tryz.zeroValue5
  t9 := Tryz.underlying9
  a9 := Tryz.isAgg9
  z9 := Tryz.sizeOf9
  v9 := Tryz.zeroValue9
  t46 := Tryz.underlying90
  a46 := Tryz.isAgg90
  z46 := Tryz.sizeOf90
  v46 := Tryz.zeroValue90
  t51 := Tryz.underlying178
  a51 := Tryz.isAgg178
  z51 := Tryz.sizeOf178
  v51 := Tryz.zeroValue178
  t59 := Tryz.underlying96
  a59 := Tryz.isAgg96
  z59 := Tryz.sizeOf96
  v59 := Tryz.zeroValue96
  t146 := Tryz.underlying179
  a146 := Tryz.isAgg179
  z146 := Tryz.sizeOf179
  v146 := Tryz.zeroValue179
  g1 := by kernel_rfl }
open Go.RowKit Go.Lib in
theorem Tryz.strings_Cut (s sep : ByteArray) (m : Int) (w : World) (hs : s.size < 4294967281) (hm : w.cell? ⟨14, 0, none⟩ = some (.int .i64 m)) :
    Calls Tryz.prog 56 #[.string s, .string sep] w fun e w' => e = .returned (.tuple #[.string ⟨(Lib.cut s.data.toList sep.data.toList).1.toArray⟩, .string ⟨(Lib.cut s.data.toList sep.data.toList).2.1.toArray⟩, .bool (Lib.cut s.data.toList sep.data.toList).2.2]) ∧ ∃ n, w' = w.drewN n := Any.strings_Cut Tryz.lays145 s sep m w hs hm
def Tryz.lays102_ren : Go.Shelf.Ren := ⟨fun | 102 => 50 | 209 => 66 | 207 => 85 | n => n, fun | 9 => 9 | 4 => 4 | 3 => 3 | n => n, fun | n => n⟩
theorem Tryz.lays102 : Go.Proofs.Lays.n102 Tryz.prog Tryz.lays102_ren := {
  mixed := by kernel_rfl
  f102 := Tryz.func50.trans (congrArg some (by kernel_rfl))
  f207 := Tryz.func85.trans (congrArg some (by kernel_rfl))
  f209 := Tryz.func66.trans (congrArg some (by kernel_rfl))
  t3 := Tryz.underlying3
  a3 := Tryz.isAgg3
  z3 := Tryz.sizeOf3
  v3 := Tryz.zeroValue3
  t4 := Tryz.underlying4
  a4 := Tryz.isAgg4
  z4 := Tryz.sizeOf4
  v4 := Tryz.zeroValue4
  t9 := Tryz.underlying9
  a9 := Tryz.isAgg9
  z9 := Tryz.sizeOf9
  v9 := Tryz.zeroValue9 }
open Go.RowKit Go.Lib in
theorem Tryz.strings_TrimSuffix (s p : ByteArray) (w : World) (hs : s.size ≤ 9223372036854775807) :
    Calls Tryz.prog 50 #[.string s, .string p] w fun e w' => e = .returned (.string ⟨(Lib.trimSuffix s.data.toList p.data.toList).toArray⟩) ∧ w' = w := Any.strings_TrimSuffix Tryz.lays102 s p w hs
def Tryz.lays146_ren : Go.Shelf.Ren := ⟨fun | 146 => 32 | 221 => 55 | 268 => 75 | 138 => 76 | 143 => 77 | 195 => 88 | 197 => 89 | 218 => 90 | 219 => 91 | 260 => 100 | 217 => 101 | 225 => 102 | 224 => 103 | 267 => 104 | 266 => 114 | 314 => 115 | n => n, fun | 9 => 9 | 31 => 66 | 3 => 3 | 4 => 4 | 0 => 0 | 105 => 149 | 21 => 21 | 5 => 5 | 46 => 90 | 119 => 174 | 139 => 177 | 138 => 176 | 146 => 179 | 51 => 178 | n => n, fun | 1 => 14 | 3 => 17 | 4 => 18 | n => n⟩
theorem Tryz.lays146 : Go.Proofs.Lays.n146 Tryz.prog Tryz.lays146_ren := {
  mixed := by kernel_rfl
  f138 := Tryz.func76.trans (congrArg some (by kernel_rfl))
  f143 := Tryz.func77.trans (congrArg some (by kernel_rfl))
  f146 := Tryz.func32.trans (congrArg some (by kernel_rfl))
  f195 := Tryz.func88.trans (congrArg some (by kernel_rfl))
  f197 := Tryz.func89.trans (congrArg some (by kernel_rfl))
  f217 := Tryz.func101.trans (congrArg some (by kernel_rfl))
  f218 := Tryz.func90.trans (congrArg some (by kernel_rfl))
  f219 := Tryz.func91.trans (congrArg some (by kernel_rfl))
  f221 := Tryz.func55.trans (congrArg some (by kernel_rfl))
  f224 := Tryz.func103.trans (congrArg some (by kernel_rfl))
  f225 := Tryz.func102.trans (congrArg some (by kernel_rfl))
  f260 := Tryz.func100.trans (congrArg some (by kernel_rfl))
  f266 := Tryz.func114.trans (congrArg some (by kernel_rfl))
  f267 := Tryz.func104.trans (congrArg some (by kernel_rfl))
  f268 := Tryz.func75.trans (congrArg some (by kernel_rfl))
  f314 := Tryz.func115.trans (congrArg some (by kernel_rfl))
  t0 := Tryz.underlying0
  a0 := Tryz.isAgg0
  z0 := Tryz.sizeOf0
  v0 := Tryz.zeroValue0
  t3 := Tryz.underlying3
  a3 := Tryz.isAgg3
  z3 := Tryz.sizeOf3
  v3 := Tryz.zeroValue3
  t4 := Tryz.underlying4
  a4 := Tryz.isAgg4
  z4 := Tryz.sizeOf4
  v4 := Tryz.zeroValue4
  t5 := Tryz.underlying5
  a5 := Tryz.isAgg5
  z5 := Tryz.sizeOf5
  v5 := Tryz.zeroValue5
  t9 := Tryz.underlying9
  a9 := Tryz.isAgg9
  z9 := Tryz.sizeOf9
  v9 := Tryz.zeroValue9
  t21 := Tryz.underlying21
  a21 := Tryz.isAgg21
  z21 := Tryz.sizeOf21
  v21 := Tryz.zeroValue21
  t31 := Tryz.underlying66
  a31 := Tryz.isAgg66
  z31 := Tryz.sizeOf66
  v31 := Tryz.zeroValue66
  t46 := Tryz.underlying90
  a46 := Tryz.isAgg90
  z46 := Tryz.sizeOf90
  v46 := Tryz.zeroValue90
  t51 := Tryz.underlying178
  a51 := Tryz.isAgg178
  z51 := Tryz.sizeOf178
  v51 := Tryz.zeroValue178
  t105 := Tryz.underlying149
  a105 := Tryz.isAgg149
  z105 := Tryz.sizeOf149
  v105 := Tryz.zeroValue149
  t119 := Tryz.underlying174
  a119 := Tryz.isAgg174
  z119 := Tryz.sizeOf174
  t138 := Tryz.underlying176
  a138 := Tryz.isAgg176
  z138 := Tryz.sizeOf176
  v138 := Tryz.zeroValue176
  t139 := Tryz.underlying177
  a139 := Tryz.isAgg177
  z139 := Tryz.sizeOf177
  v139 := Tryz.zeroValue177
  t146 := Tryz.underlying179
  a146 := Tryz.isAgg179
  z146 := Tryz.sizeOf179
  v146 := Tryz.zeroValue179
  g1 := by kernel_rfl
  g3 := by kernel_rfl
  g4 := by kernel_rfl }
open Go.RowKit Go.Lib in
theorem Tryz.strings_Split (s sep : ByteArray) (m : Int) (w : World) (hs : s.size < 4294967281) (hm : w.cell? ⟨14, 0, none⟩ = some (.int .i64 m)) (h1 : 1 ≤ sep.size) :
    Calls Tryz.prog 32 #[.string s, .string sep] w fun e w' =>
      e = .returned (.slice (some ⟨w.heap.size, 0, none⟩) (Lib.countB s sep + 1) (Lib.countB s sep + 1)) ∧ w' = w.alloc (.cells ((Lib.splitB sep 0 (Lib.countB s sep) s).map Value.string).toArray 9) := Any.strings_Split Tryz.lays146 (by kernel_rfl) s sep m w hs hm h1
end Go.Proofs

namespace Go.Proofs.YtcioicoedmmkhaaGreatDoor
open Go Ev Go.RowKit Go.Sort

theorem Ev.CallC.of {P : Program} {f : FuncId} {fn : Func} {args : Array Value} {w : World} {k : Value → World → Prop} (hf : P.funcs[f]? = some fn) (hname : (fn.name == "runtime.NumGoroutine") = false) (hb : fn.body.isSome = true) (h : Calls P f args w fun e w' => ∃ v, e = .returned v ∧ k v w') : CallC P f args w k := by
  have hname' : ¬ fn.name = "runtime.NumGoroutine" := by simpa using hname
  obtain ⟨c, hb⟩ := Option.isSome_iff_exists.1 hb
  exact ⟨.inl ⟨by simp [callFunc, program, Sem.run, hf, hname', hb], h⟩⟩
theorem Ev.Ext.of_below {w w' : World} (h : Below w.heap.size w w') : Ext No w w' := ⟨h.os, h.tape, h.output, h.size, fun k hk _ => h.block k hk⟩
theorem ext_grow (w : World) (k : Nat) (os : Array Obj) : Ext No w (grow (w.drewN k) os) := by
  refine ⟨rfl, rfl, rfl, ?_, fun b hb _ => ?_⟩
  · show w.heap.size ≤ (w.heap ++ os).size
    rw [Array.size_append]
    omega
  · show (w.heap ++ os)[b]? = _
    rw [Array.getElem?_append_left hb]

def Pow10 (w : World) : Prop := Lib.TabIs Tryz.prog w "internal/strconv.uint64pow10" .u64 Lib.pow10Tab
theorem Pow10.no {w w' : World} (h : Pow10 w) (hx : Ext No w w') : Pow10 w' := by
  have hg : Tryz.prog.globalNamed "internal/strconv.uint64pow10" = some 19 := by kernel_rfl
  unfold Pow10 Lib.TabIs at h ⊢
  rw [← h]
  have key : w'.heap[19]? = w.heap[19]? := by
    refine hx.block _ ?_ id
    have h2 := h
    simp only [World.var?, hg, Option.bind_some] at h2
    by_cases hb : 19 < w.heap.size
    · exact hb
    · have hn : w.heap[19]? = none := Array.getElem?_eq_none (by omega)
      rw [hn] at h2
      cases h2
  simp only [World.var?, hg, Option.bind_some, key]
theorem itoa_ok (n : Int) (h0 : -9223372036854775808 ≤ n) (h1 : n ≤ 9223372036854775807) (w : World) (ht : Pow10 w) :
    CallC Tryz.prog 60 #[.int .i64 n] w fun v w' => v = .string (bs (Lib.itoa n)) ∧ Ext No w w' := by
  refine Ev.CallC.of Tryz.func60 (by kernel_rfl) rfl ((Tryz.strconv_Itoa n h0 h1 w ht).mono ?_)
  rintro e w' ⟨rfl, k, os, rfl⟩
  exact ⟨_, rfl, rfl, ext_grow w k os⟩
theorem join_ok (xs : List (List UInt8)) (sep : List UInt8) {b o n c : Nat} (w : World) (hn : xs.length = n) (hc : CellsAt w b o (xs.map fun l => .string (bs l))) (h0 : 0 < n) (hcap : n ≤ c) (hl : (Lib.join xs sep).length ≤ 1000000) (hN : n ≤ 1000000) :
    CallC Tryz.prog 58 #[.slice (some ⟨b, o, none⟩) n c, .string (bs sep)] w fun v w' => v = .string (bs (Lib.join xs sep)) ∧ Ext No w w' := by
  subst hn
  have e1 : ((xs.map bs).map (·.data.toList)) = xs := by
    rw [List.map_map]
    conv => rhs; rw [← List.map_id xs]
    rfl
  have hcell : ∀ (j : Nat) x, (xs.map bs)[j]? = some x → w.cell? ⟨b, o + j, none⟩ = some (.string x) := fun j x hj => by
    refine hc j _ ?_
    rw [List.getElem?_map] at hj ⊢
    obtain ⟨l, hl, rfl⟩ := Option.map_eq_some_iff.1 hj
    rw [hl]
    rfl
  have hb : b < w.heap.size := hc.lt (by simpa using h0)
  have h := Tryz.strings_Join b o c (xs.map bs) (bs sep) w hcell hb (by rw [List.length_map]; omega) (by rw [List.length_map]; exact hcap) (by rw [e1]; exact Nat.le_trans hl (by omega))
  rw [List.length_map] at h
  refine Ev.CallC.of Tryz.func58 (by kernel_rfl) rfl (h.mono ?_)
  rintro e w' ⟨rfl, hb⟩
  refine ⟨_, rfl, ?_, .of_below hb⟩
  rw [e1]
  rfl

theorem laid_one {L : List (String × DataW Unit)} {W : World} {n : String} {d : DataW Unit} (hl : laidMetH Tryz.prog L W) (hm : (n, d) ∈ L) (hd : d.handleName?.isNone = true) : laidMet Tryz.prog [(n, d)] W :=
  laidMet_sub (List.singleton_sublist.2 (List.mem_filter.2 ⟨hm, hd⟩)) (laidMetH_iff.1 hl).1
theorem pow10_of {L : List (String × DataW Unit)} {W : World} (hl : laidMetH Tryz.prog L W) (hm : ("internal/strconv.uint64pow10", Lib.tabData .u64 Lib.pow10Tab) ∈ L) : Pow10 W :=
  Lib.tabIs_of_head (g := 19) (t := 186) (e := 160) (n := 20) (by kernel_rfl) (by kernel_rfl) Tryz.underlying186 Tryz.underlying160 (by kernel_rfl) (by kernel_rfl) (laid_one hl hm rfl)
theorem strs_of_trod {H : Type} {enc : TypeId × Value → H} {P : Program} {w : World} {base : Nat} {sp : Nat → Bool} {held : Bool} {fuel : Nat} {t e : TypeId} {n : Nat} {cs : List Value} {zs : List (List UInt8)} {p : List MemPlace}
    (ht : P.underlying t = some (.array n e)) (he : P.underlying e = some .string) (hce : P.cellsOf e = 1) (hct : P.cellsOf t = n)
    (h : DataW.trod enc P w base sp held fuel t cs = some (.agg (zs.map fun z => .lit (.string z)), p)) : cs = zs.map fun z => Value.string (bs z) := by
  cases fuel with
  | zero => simp [DataW.trod] at h
  | succ fuel =>
    simp only [DataW.trod, ht, hce, hct, Nat.mul_one] at h
    split at h
    · rename_i hl
      obtain ⟨xs, hm, hx⟩ := Option.map_eq_some_iff.1 h
      have hxs : xs.map (·.1) = zs.map fun z => (DataW.lit (.string z) : DataW H) := by
        have := congrArg Prod.fst hx
        simpa using this
      have hxl : xs.length = n := by simpa using Lib.mapM_length hm
      have hzl : zs.length = n := by
        have := congrArg List.length hxs
        simp at this
        omega
      apply List.ext_getElem?
      intro i
      by_cases hi : i < n
      · obtain ⟨b, hb, hf⟩ := Lib.mapM_at hm i i (by simp [hi])
        obtain ⟨z, hc, rfl, _⟩ := DataW.trod_string he hf
        have h1 : cs[i]? = some (.string z) := by
          have := congrArg (·[0]?) hc
          simpa [List.getElem?_take, List.getElem?_drop] using this
        have h2 : (xs.map (·.1))[i]? = some (DataW.lit (.string z.data.toList) : DataW H) := by simp [hb]
        rw [hxs] at h2
        simp only [List.getElem?_map, Option.map_eq_some_iff, DataW.lit.injEq, Lit.string.injEq] at h2
        obtain ⟨z', hz', h3⟩ := h2
        rw [h1, List.getElem?_map, hz']
        show some (Value.string z) = some (Value.string (bs z'))
        rw [h3]
        simp [bs]
      · rw [List.getElem?_eq_none (by omega), List.getElem?_eq_none (by simp; omega)]
    · cases h
def Protos (w : World) : Prop := CellsAt w 12 0 [.string (bs [97, 110, 121]), .string (bs [117, 100, 112]), .string (bs [116, 99, 112])]
theorem Protos.no {w w' : World} (h : Protos w) (hx : Ext No w w') : Protos w' := hx.cells h id
theorem protos_of {L : List (String × DataW Unit)} {W : World} (hl : laidMetH Tryz.prog L W) (hm : ("twinrampart/policy.protos", .agg ([[97, 110, 121], [117, 100, 112], [116, 99, 112]].map fun z => .lit (.string z))) ∈ L) : Protos W := by
  obtain ⟨ps, ⟨g', t', cs, fuel, p, q, hg', ht', hvar, hd, _, _⟩, _⟩ := laid_one hl hm rfl
  have hg : Tryz.prog.globalNamed "twinrampart/policy.protos" = some 12 := by kernel_rfl
  have hty : (Tryz.prog.globals[12]?).map (·.type) = some 108 := by kernel_rfl
  obtain rfl := Option.some.inj (hg.symm.trans hg')
  obtain rfl := Option.some.inj (hty.symm.trans ht')
  have hc := strs_of_trod Tryz.underlying108 Tryz.underlying9 (by kernel_rfl) (by kernel_rfl) hd
  intro i v hv
  have := World.var?_cell hg hvar i
  rw [Nat.zero_add, this, ← Array.getElem?_toList, hc]
  exact hv
end Go.Proofs.YtcioicoedmmkhaaGreatDoor

namespace Go.Proofs.YtcioicoedmmkhaaGreatDoor
open Go Ev

def sAllow : List UInt8 := [97, 108, 108, 111, 119]
def sDeny : List UInt8 := [100, 101, 110, 121]
def sOut : List UInt8 := [111, 117, 116]
def sIn : List UInt8 := [105, 110]
def sAny : List UInt8 := [97, 110, 121]
def sUdp : List UInt8 := [117, 100, 112]
def sTcp : List UInt8 := [116, 99, 112]
def protoB (p : Int) : List UInt8 := if p = 0 then sAny else if p = 1 then sUdp else sTcp
def RuleS.words (r : RuleS) : List (List UInt8) := [if r.allow = true then sAllow else sDeny, if r.out = true then sOut else sIn, protoB r.proto, Lib.itoa r.low ++ [45] ++ Lib.itoa r.top]
def RuleS.line (r : RuleS) : List UInt8 := Lib.join r.words [32]
theorem line_len (r : RuleS) (h1 : -9223372036854775808 ≤ r.low ∧ r.low ≤ 9223372036854775807) (h2 : -9223372036854775808 ≤ r.top ∧ r.top ≤ 9223372036854775807) : r.line.length ≤ 100 := by
  have e1 := Lib.itoa_length_le r.low h1.1 h1.2
  have e2 := Lib.itoa_length_le r.top h2.1 h2.2
  have w1 : (if r.allow = true then sAllow else sDeny).length ≤ 5 := by split <;> decide
  have w2 : (if r.out = true then sOut else sIn).length ≤ 3 := by split <;> decide
  have w3 : (protoB r.proto).length ≤ 3 := by
    unfold protoB
    split
    · decide
    · split <;> decide
  unfold RuleS.line RuleS.words
  rw [Lib.join_cons]
  simp only [Lib.joinTail, List.map_cons, List.map_nil, List.flatten_cons, List.flatten_nil, List.length_append, List.length_cons, List.length_nil]
  omega
def linesB (l : List RuleS) : List UInt8 := l.flatMap fun r => r.line ++ [10]
def NumR (r : RuleS) : Prop := (-9223372036854775808 ≤ r.low ∧ r.low ≤ 9223372036854775807) ∧ (-9223372036854775808 ≤ r.top ∧ r.top ≤ 9223372036854775807)
theorem numR_of {r : RuleS} (h : r.bad = false) : NumR r ∧ 0 ≤ r.proto ∧ r.proto ≤ 2 := by
  have h : ¬ (r.proto < 0 ∨ r.proto > 2 ∨ r.low < 1 ∨ r.low > r.top ∨ r.top > 65535) := of_decide_eq_false h
  unfold NumR
  omega
theorem lines_len : ∀ {l : List RuleS}, (∀ r ∈ l, NumR r) → (linesB l).length ≤ 101 * l.length
  | [], _ => by simp [linesB]
  | r :: l, h => by
    have ih := lines_len (l := l) fun x hx => h x (List.mem_cons_of_mem _ hx)
    have h1 := h r (by simp)
    have := line_len r h1.1 h1.2
    simp only [linesB, List.flatMap_cons, List.length_append, List.length_cons, List.length_nil] at ih ⊢
    omega
theorem lines_step {l : List RuleS} {k : Nat} {r : RuleS} (h : l[k]? = some r) : linesB (l.take (k + 1)) = linesB (l.take k) ++ (r.line ++ [10]) := by
  unfold linesB
  rw [List.take_add_one, h, List.flatMap_append]
  simp

section
variable {w : World} {G : RuleS → Prop} {a b : Option Addr} {n m c d : Nat} {xs ys : List RuleS}
theorem word_ok (i : Bool) (y z : List UInt8) (w : World) : CallC Tryz.prog 65 #[.bool i, .string (bs y), .string (bs z)] w fun v w' => v = .string (bs (if i = true then y else z)) ∧ Ext No w w' := by
  refine fn_intro tabOk Tryz.func65 (by kernel_rfl) rfl Tryz.ntmps65 (Nat.le_of_ble_eq_true rfl) ?_
  have hS := St.start w No
  cases i
  · repeat' ((conv => whnf); first | refine RetC.mk ?_ | refine NzC.mk (by decide) ?_ | refine RngC.mk (by omega) (by omega) ?_ | refine IdxC.mk (by omega) (by omega) ?_ | refine brD (fun _ => ?_) (fun _ => ?_) | refine brND (fun _ => ?_) (fun _ => ?_) | refine brN (fun _ => ?_) (fun _ => ?_) | refine brI (fun _ => ?_) (fun _ => ?_))
    exact ⟨rfl, hS.ext⟩
  · repeat' ((conv => whnf); first | refine RetC.mk ?_ | refine NzC.mk (by decide) ?_ | refine RngC.mk (by omega) (by omega) ?_ | refine IdxC.mk (by omega) (by omega) ?_ | refine brD (fun _ => ?_) (fun _ => ?_) | refine brND (fun _ => ?_) (fun _ => ?_) | refine brN (fun _ => ?_) (fun _ => ?_) | refine brI (fun _ => ?_) (fun _ => ?_))
    exact ⟨rfl, hS.ext⟩
theorem line_ok (r : RuleS) (hr : NumR r) (hp : 0 ≤ r.proto ∧ r.proto ≤ 2) (w : World) (ht : Pow10 w) (hP : Protos w) : CallC Tryz.prog 47 #[.agg (encRule r).toArray] w fun v w' => v = .string (bs r.line) ∧ Ext No w w' := by
  have hlen := line_len r hr.1 hr.2
  have e1 := Lib.itoa_length_le r.low hr.1.1 hr.1.2
  have e2 := Lib.itoa_length_le r.top hr.2.1 hr.2.2
  refine fn_intro tabOk Tryz.func47 (by kernel_rfl) rfl Tryz.ntmps47 (Nat.le_of_ble_eq_true rfl) ?_
  have hS := St.start w No
  (conv => whnf)
  refine hS.new (fun b w' hb hS => ?_)
  replace hS : St w No w' [blk b 77 (encRule r)] := hS
  (conv => whnf)
  (refine drawS tabOk mixed [] (No) [0, 1, 3, 4, 6, 7, 8, 9, 10, 11, 14, 15, 2, 5, 12, 13, 16, 17, 18, 19, 20] (by kernel_rfl) ?_; rintro w1 rfl; replace hS := hS.drew)
  (conv => whnf)
  refine hS.ldF 0 rfl rfl id ?_
  (conv => whnf)
  refine hS.ldF 0 rfl rfl id ?_
  (conv => whnf)
  refine hS.ldF 0 rfl rfl id ?_
  (conv => whnf)
  refine IdxC.mk (by omega) (by omega) ?_
  (conv => whnf)
  refine hS.ldrF (v := .string (bs (protoB r.proto))) (by
    have : r.proto = 0 ∨ r.proto = 1 ∨ r.proto = 2 := by omega
    rcases this with h | h | h
    · rw [h]; exact hP.one 0 rfl
    · rw [h]; exact hP.one 1 rfl
    · rw [h]; exact hP.one 2 rfl) id id ?_
  (conv => whnf)
  refine hS.ldF 0 rfl rfl id ?_
  (conv => whnf)
  refine hS.ldF 0 rfl rfl id ?_
  (conv => whnf)
  refine (word_ok r.allow sAllow sDeny _).mono ?_
  rintro v w1 ⟨rfl, hx'⟩
  replace hS := hS.no hx'
  have hK := hx'
  refine KeepC.mk hK ?_
  clear hx'
  (conv => whnf)
  refine (word_ok r.out sOut sIn _).mono ?_
  rintro v w2 ⟨rfl, hx'⟩
  replace hS := hS.no hx'
  replace hK := hK.trans hx'
  refine KeepC.mk hK ?_
  clear hx'
  (conv => whnf)
  refine (itoa_ok r.low hr.1.1 hr.1.2 _ (ht.no hS.ext)).mono ?_
  rintro v w3 ⟨rfl, hx'⟩
  replace hS := hS.no hx'
  replace hK := hK.trans hx'
  refine KeepC.mk hK ?_
  clear hx'
  (conv => whnf)
  refine addS (b := [45]) (by simp; omega) ?_
  (conv => whnf)
  refine (itoa_ok r.top hr.2.1 hr.2.2 _ (ht.no hS.ext)).mono ?_
  rintro v w4 ⟨rfl, hx'⟩
  replace hS := hS.no hx'
  replace hK := hK.trans hx'
  refine KeepC.mk hK ?_
  clear hx'
  (conv => whnf)
  refine addS (by simp; omega) ?_
  (conv => whnf)
  refine hS.litX (cs := r.words.map fun l => .string (bs l)) Tryz.underlying66 (sz := 1) (by kernel_rfl) (z := .string (bs [])) (by kernel_rfl) rfl rfl (by rfl) (fun bl w5 hbl hx' hS => ?_)
  replace hK := hK.trans hx'
  refine KeepC.mk hK ?_
  clear hx'
  have hc : CellsAt w5 bl 0 (r.words.map fun l => .string (bs l)) := (hS.blk 1 rfl).cells rfl
  (conv => whnf)
  refine (join_ok r.words [32] _ rfl hc (by show 0 < 4; decide) (Nat.le_refl _) (by show r.line.length ≤ _; omega) (by show 4 ≤ _; decide)).mono ?_
  rintro v w6 ⟨rfl, hx'⟩
  replace hS := hS.no hx'
  replace hK := hK.trans hx'
  refine KeepC.mk hK ?_
  repeat' ((conv => whnf); first | refine RetC.mk ?_ | refine NzC.mk (by decide) ?_ | refine RngC.mk (by omega) (by omega) ?_ | refine IdxC.mk (by omega) (by omega) ?_ | refine brD (fun _ => ?_) (fun _ => ?_) | refine brND (fun _ => ?_) (fun _ => ?_) | refine brN (fun _ => ?_) (fun _ => ?_) | refine brI (fun _ => ?_) (fun _ => ?_))
  exact ⟨rfl, hS.ext⟩
theorem ptext_ok {E : Nat → Addr} {q : Nat} (hx : Slc w 5 encRule G a n xs) (ht : Pow10 w) (hP : Protos w) (hE : Errs w E q [2]) :
    CallC Tryz.prog 20 #[.slice a n c] w fun v w' => (∃ e, v = .tuple #[.string (bs (if GoodR xs then linesB xs else [])), e] ∧ FaultV E w w' e (faultL xs).1 (faultL xs).2) ∧ Ext No w w' := by
  have hm := hx.max
  have hl := hx.len
  have hg := @fault_good xs
  refine fn_intro tabOk Tryz.func20 (by kernel_rfl) rfl Tryz.ntmps20 (Nat.le_of_ble_eq_true rfl) ?_
  have hS := St.start w No
  (conv => whnf)
  refine (rcheck_ok hx hE).mono ?_
  rintro v w2 ⟨hf, hx'⟩
  replace hS := hS.no hx'
  generalize hfl : faultL xs = F at hf hg
  obtain ⟨fc, fa⟩ := F
  dsimp only at hf hg ⊢
  cases fc with
  | succ j =>
    rw [if_neg (fun h => by have := hg.2 h; omega)]
    obtain ⟨t, u, rfl⟩ := hf.ne
    repeat' ((conv => whnf); first | refine RetC.mk ?_ | refine NzC.mk (by decide) ?_ | refine RngC.mk (by omega) (by omega) ?_ | refine IdxC.mk (by omega) (by omega) ?_ | refine brD (fun _ => ?_) (fun _ => ?_) | refine brND (fun _ => ?_) (fun _ => ?_) | refine brN (fun _ => ?_) (fun _ => ?_) | refine brI (fun _ => ?_) (fun _ => ?_))
    exact ⟨⟨_, rfl, hf⟩, hS.ext⟩
  | zero =>
    have hgr : GoodR xs := hg.1 rfl
    rw [if_pos hgr]
    obtain ⟨rfl, rfl⟩ : v = .nilIface ∧ fa = -1 := by
      rcases hf with ⟨h1, h⟩ | ⟨_, h, _⟩
      · exact ⟨h, h1⟩
      · omega
    clear hf
    (conv => whnf)
    refine loopR tabOk (fun σ w' q => ∃ k : Nat, σ = [(15, .int .i64 (k : Int)), (14, .int .i64 n), (13, .slice a n c), (5, .string (bs (linesB (xs.take k))))] ∧ q = n - k ∧ k ≤ n ∧ St w No w' [])
      (σ' := [(15, .int .i64 ((0 : Nat) : Int)), (14, .int .i64 n), (13, .slice a n c), (5, .string (bs (linesB (xs.take 0))))]) (n := n) ⟨rfl, rfl, rfl, rfl, trivial⟩ ⟨0, rfl, rfl, Nat.zero_le _, hS⟩ ?_
    clear hS
    rintro _ w1 q ⟨k, rfl, rfl, hk, hS⟩
    (conv => whnf)
    refine brD (fun h3 => ?_) (fun h3 => ?_)
    · obtain ⟨b0, o0, x, hxk, hgx, rfl, _, hc⟩ := hx.at (k := k) (by omega)
      have hst := lines_step hxk
      obtain ⟨hn1, hp1⟩ := numR_of (hgr.2 x (List.mem_of_getElem? hxk))
      have hl1 := lines_len (l := xs.take k) fun r hr => (numR_of (hgr.2 r (List.mem_of_mem_take hr))).1
      have hl2 := line_len x hn1.1 hn1.2
      have hl3 := hgr.1
      rw [List.length_take] at hl1
      (conv => whnf)
      refine IdxC.mk (by omega) (by omega) ?_
      (conv => whnf)
      refine hS.lar (l := encRule x) rfl hc id ?_
      (conv => whnf)
      refine hS.new (fun bx w' hb hS => ?_)
      (conv => whnf)
      refine hS.st 0 rfl (Nat.le_of_ble_eq_true rfl) rfl (fun w' hS => ?_)
      replace hS : St w No w' [blk bx 77 (encRule x)] := hS
      (conv => whnf)
      refine hS.laX 0 rfl rfl ?_
      (conv => whnf)
      refine (line_ok x hn1 hp1 _ (ht.no hS.ext) (hP.no hS.ext)).mono ?_
      rintro v w' ⟨rfl, hx'⟩
      replace hS := hS.no hx'
      (conv => whnf)
      refine addS (b := [10]) (by simp; omega) ?_
      (conv => whnf)
      refine addS (by simp; omega) ?_
      rw [← hst]
      (conv => whnf)
      refine RngC.mk (by omega) (by omega) ?_
      (conv => whnf)
      refine LoopE.mk ⟨_, [(15, .int .i64 ((k + 1 : Nat) : Int)), (14, _), (13, _), (5, _)], ?_, ⟨rfl, rfl, rfl, rfl, trivial⟩, ⟨k + 1, rfl, rfl, by omega, hS.keep 0⟩⟩
      omega
    · have : k = n := by omega
      subst this
      rw [List.take_of_length_le (by omega)]
      repeat' ((conv => whnf); first | refine RetC.mk ?_ | refine NzC.mk (by decide) ?_ | refine RngC.mk (by omega) (by omega) ?_ | refine IdxC.mk (by omega) (by omega) ?_ | refine brD (fun _ => ?_) (fun _ => ?_) | refine brND (fun _ => ?_) (fun _ => ?_) | refine brN (fun _ => ?_) (fun _ => ?_) | refine brI (fun _ => ?_) (fun _ => ?_))
      exact ⟨⟨_, rfl, .inl ⟨rfl, rfl⟩⟩, hS.ext⟩
end
def rule59 : RuleS := ⟨true, true, 0, 5, 9⟩
theorem ruled_facts : GoodR [rule59] ∧ linesB [rule59] = [97, 108, 108, 111, 119, 32, 111, 117, 116, 32, 97, 110, 121, 32, 53, 45, 57, 10] ∧ faultL [rule59] = (0, -1) := by
  refine ⟨by decide, ?_, by decide⟩
  have h5 : Lib.itoa 5 = [53] := Lib.decDigits_one (i := 5) (by decide)
  have h9 : Lib.itoa 9 = [57] := Lib.decDigits_one (i := 9) (by decide)
  simp only [linesB, rule59, List.flatMap_cons, List.flatMap_nil, RuleS.line, RuleS.words, h5, h9]
  decide
theorem ruled_ok {E : Nat → Addr} {n : Nat} (w : World) (hE : Errs w E n [2, 3]) (ht : Pow10 w) (hP : Protos w) : CallC Tryz.prog 19 #[] w fun v w' => v = .bool true ∧ Ext No w w' := by
  obtain ⟨r1, r2, r3⟩ := ruled_facts
  refine fn_intro tabOk Tryz.func19 (by kernel_rfl) rfl Tryz.ntmps19 (Nat.le_of_ble_eq_true rfl) ?_
  have hS := St.start w No
  (conv => whnf)
  refine hS.lit (cs := encRule rule59) Tryz.underlying43 (sz := 5) (by kernel_rfl) (z := .agg (encRule noRule).toArray) (by kernel_rfl) rfl rfl (by rfl) (fun b w' hb hS => ?_)
  have hx : Slc w' 5 encRule (fun _ => True) (some ⟨b, 0, none⟩) 1 [rule59] := Slc.of_blk codRule (hS.blk 0 rfl) rfl (by decide) (fun _ _ => trivial) rfl
  (conv => whnf)
  refine (admitsP_ok hx ⟨1, 0, 1, 0, 9, 0⟩ true (hE.ext hS.ext fun _ h => h.elim)).mono ?_
  rintro v w2 ⟨⟨e, rfl, hf⟩, hx'⟩
  rw [r3] at hf
  obtain rfl : e = .nilIface := by
    rcases hf with ⟨_, h⟩ | ⟨_, h, _⟩
    · exact h
    · exact absurd h (by decide)
  replace hS := hS.no hx'
  replace hx := hx.no hx'
  clear hx' hf
  rw [show (decide (GoodR [rule59] ∧ PktS.err ⟨1, 0, 1, 0, 9, 0⟩ = 0) && admitsL 1 9 true [rule59]) = true by decide]
  (conv => whnf)
  refine (ptext_ok hx (ht.no hS.ext) (hP.no hS.ext) ((hE.sub rfl).ext hS.ext fun _ h => h.elim)).mono ?_
  rintro v w3 ⟨⟨e, rfl, hf⟩, hx'⟩
  rw [r3] at hf
  rw [if_pos r1, r2]
  obtain rfl : e = .nilIface := by
    rcases hf with ⟨_, h⟩ | ⟨_, h, _⟩
    · exact h
    · exact absurd h (by decide)
  replace hS := hS.no hx'
  (conv => whnf)
  refine eqS2 ?_
  repeat' ((conv => whnf); first | refine RetC.mk ?_ | refine NzC.mk (by decide) ?_ | refine RngC.mk (by omega) (by omega) ?_ | refine IdxC.mk (by omega) (by omega) ?_ | refine brD (fun _ => ?_) (fun _ => ?_) | refine brND (fun _ => ?_) (fun _ => ?_) | refine brN (fun _ => ?_) (fun _ => ?_) | refine brI (fun _ => ?_) (fun _ => ?_))
  exact ⟨rfl, hS.ext⟩
end Go.Proofs.YtcioicoedmmkhaaGreatDoor

namespace Go.Proofs.YtcioicoedmmkhaaGreatDoor
open Go Ev
def isDig (b : UInt8) : Bool := decide (48 ≤ b.toNat ∧ b.toNat ≤ 57)
def valD (l : List UInt8) : Nat := l.foldl (fun n b => 10 * n + (b.toNat - 48)) 0
theorem valD_app (l : List UInt8) (b : UInt8) : valD (l ++ [b]) = 10 * valD l + (b.toNat - 48) := by
  unfold valD
  rw [List.foldl_append]
  rfl
def numS (s : List UInt8) (most : Nat) : Int := if s.length < 1 ∨ s.length > most ∨ (s.length > 1 ∧ s[0]? = some 48) then -1 else if s.all isDig = true then (valD s : Nat) else -1
structure Canon (l : List UInt8) : Prop where
  ne : l ≠ []
  dig : ∀ b ∈ l, isDig b = true
  lead : 1 < l.length → l[0]? ≠ some 48
theorem isDig_iff {b : UInt8} : isDig b = true ↔ 48 ≤ b.toNat ∧ b.toNat ≤ 57 := decide_eq_true_iff
theorem u8_of {b : UInt8} (h : 48 ≤ b.toNat) : UInt8.ofNat (48 + (b.toNat - 48)) = b := by
  rw [show 48 + (b.toNat - 48) = b.toNat by omega]
  exact UInt8.ofNat_toNat
theorem numS_canon {s : List UInt8} {most : Nat} (h : 0 ≤ numS s most) : Canon s ∧ s.length ≤ most ∧ numS s most = (valD s : Nat) := by
  unfold numS at h ⊢
  split at h
  · omega
  rename_i h1
  rw [if_neg h1]
  split at h
  · rename_i h2
    rw [if_pos h2]
    refine ⟨⟨fun e => ?_, fun b hb => List.all_eq_true.1 h2 b hb, fun hl e => h1 (.inr (.inr ⟨hl, e⟩))⟩, by omega, rfl⟩
    subst e
    simp at h1
  · omega
theorem canon_numS {s : List UInt8} {most : Nat} (h : Canon s) (hl : s.length ≤ most) : numS s most = (valD s : Nat) := by
  unfold numS
  have hne := h.ne
  have h0 : 1 ≤ s.length := by
    cases s with
    | nil => exact absurd rfl hne
    | cons b s => simp
  rw [if_neg (by
    rintro (h1 | h1 | ⟨h1, h2⟩)
    · omega
    · omega
    · exact h.lead h1 h2), if_pos (List.all_eq_true.2 h.dig)]
theorem canon_init {l : List UInt8} {b : UInt8} (h : Canon (l ++ [b])) (hl : l ≠ []) : Canon l ∧ 1 ≤ valD l := by
  have hlen : 1 ≤ l.length := by
    cases l with
    | nil => exact absurd rfl hl
    | cons _ _ => simp
  have hlead : l[0]? ≠ some 48 := by
    have := h.lead (by simp; omega)
    rwa [List.getElem?_append_left (by omega)] at this
  have hd : ∀ c ∈ l, isDig c = true := fun c hc => h.dig c (List.mem_append_left _ hc)
  refine ⟨⟨hl, hd, fun _ => hlead⟩, ?_⟩
  have key : ∀ (n : Nat) (l : List UInt8), l.length = n + 1 → l[0]? ≠ some 48 → (∀ c ∈ l, isDig c = true) → 1 ≤ valD l := by
    intro n
    induction n with
    | zero =>
      intro l h1 h2 h3
      match l, h1 with
      | [c], _ =>
        have hc := isDig_iff.1 (h3 c List.mem_cons_self)
        have hne : c.toNat ≠ 48 := fun e => h2 (by
          have : c = 48 := UInt8.toNat_inj.1 e
          subst this
          rfl)
        show 1 ≤ 10 * 0 + (c.toNat - 48)
        omega
    | succ n ih =>
      intro l h1 h2 h3
      obtain ⟨r, c, rfl⟩ : ∃ r c, l = r ++ [c] := ⟨l.dropLast, l.getLast (by intro e; subst e; cases h1), (List.dropLast_concat_getLast _).symm⟩
      rw [List.length_append, List.length_singleton] at h1
      rw [List.getElem?_append_left (by omega)] at h2
      have := ih r (by omega) h2 fun c hc => h3 c (List.mem_append_left _ hc)
      rw [valD_app]
      omega
  exact key (l.length - 1) l (by omega) hlead hd
theorem canon_dec : ∀ (n : Nat) (l : List UInt8), l.length = n + 1 → Canon l → Lib.decDigits (valD l) = l := by
  intro n
  induction n with
  | zero =>
    intro l h1 h
    match l, h1 with
    | [c], _ =>
      have hc := isDig_iff.1 (h.dig c List.mem_cons_self)
      have hv : valD [c] = c.toNat - 48 := by show 10 * 0 + (c.toNat - 48) = _; omega
      rw [hv, Lib.decDigits_one (by omega), u8_of hc.1]
  | succ n ih =>
    intro l h1 h
    obtain ⟨r, c, rfl⟩ : ∃ r c, l = r ++ [c] := ⟨l.dropLast, l.getLast (by intro e; subst e; cases h1), (List.dropLast_concat_getLast _).symm⟩
    rw [List.length_append, List.length_singleton] at h1
    obtain ⟨g1, g2⟩ := canon_init h (by intro e; subst e; simp at h1)
    have hc := isDig_iff.1 (h.dig c (List.mem_append_right _ (List.mem_singleton.2 rfl)))
    rw [valD_app, Lib.decDigits, dif_neg (by omega), show (10 * valD r + (c.toNat - 48)) / 10 = valD r by omega, show (10 * valD r + (c.toNat - 48)) % 10 = c.toNat - 48 by omega, ih r (by omega) g1, u8_of hc.1]
theorem dec_facts : ∀ n : Nat, Lib.decDigits n ≠ [] ∧ (∀ b ∈ Lib.decDigits n, isDig b = true) ∧ (1 ≤ n → (Lib.decDigits n)[0]? ≠ some 48) ∧ valD (Lib.decDigits n) = n ∧ (n < 10 → (Lib.decDigits n).length = 1) := by
  intro n
  induction n using Nat.strongRecOn with
  | ind n ih =>
    by_cases h : n < 10
    · rw [Lib.decDigits_one h]
      have ht : (UInt8.ofNat (48 + n)).toNat = 48 + n := by
        rw [UInt8.toNat_ofNat']
        omega
      refine ⟨by simp, fun b hb => ?_, fun h1 => ?_, ?_, fun _ => rfl⟩
      · obtain rfl := List.mem_singleton.1 hb
        rw [isDig_iff, ht]
        omega
      · simp only [List.getElem?_cons_zero, ne_eq, Option.some.injEq]
        intro e
        have := congrArg UInt8.toNat e
        rw [ht] at this
        have h48 : (48 : UInt8).toNat = 48 := rfl
        omega
      · show 10 * 0 + ((UInt8.ofNat (48 + n)).toNat - 48) = n
        rw [ht]
        omega
    · obtain ⟨i1, i2, i3, i4, _⟩ := ih (n / 10) (by omega)
      rw [Lib.decDigits, dif_neg h]
      have ht : (UInt8.ofNat (48 + n % 10)).toNat = 48 + n % 10 := by
        rw [UInt8.toNat_ofNat']
        omega
      have hl : 0 < (Lib.decDigits (n / 10)).length := List.length_pos_iff.2 i1
      refine ⟨by simp, fun b hb => ?_, fun h1 => ?_, ?_, fun h1 => absurd h1 h⟩
      · rcases List.mem_append.1 hb with hb | hb
        · exact i2 b hb
        · obtain rfl := List.mem_singleton.1 hb
          rw [isDig_iff, ht]
          omega
      · rw [List.getElem?_append_left hl]
        exact i3 (by omega)
      · rw [valD_app, i4, ht]
        omega
theorem dec_canon (n : Nat) : Canon (Lib.decDigits n) := by
  obtain ⟨h1, h2, h3, _, h5⟩ := dec_facts n
  exact ⟨h1, h2, fun hl => h3 (by
    refine Nat.le_of_not_lt fun h => ?_
    have := h5 (by omega)
    omega)⟩
theorem itoa_nat (n : Nat) : Lib.itoa (n : Int) = Lib.decDigits n := by
  unfold Lib.itoa
  rw [if_neg (by omega), Int.toNat_natCast]
theorem canon_itoa {s : List UInt8} (h : Canon s) : Lib.itoa (valD s : Nat) = s := by
  rw [itoa_nat]
  refine canon_dec (s.length - 1) s ?_ h
  have := List.length_pos_iff.2 h.ne
  omega
theorem itoa_canon {v : Int} (h : 0 ≤ v) : Canon (Lib.itoa v) ∧ (valD (Lib.itoa v) : Int) = v := by
  obtain ⟨n, rfl⟩ : ∃ n : Nat, v = n := ⟨v.toNat, by omega⟩
  rw [itoa_nat]
  exact ⟨dec_canon n, by rw [(dec_facts n).2.2.2.1]⟩
theorem parse_dig : ∀ (l : List UInt8) (acc : Nat), (∀ b ∈ l, isDig b = true) → (acc + 1) * 10 ^ l.length ≤ 1000000000000000000 → Lib.parseUint10 acc l = .ok (l.foldl (fun n b => 10 * n + (b.toNat - 48)) acc)
  | [], _, _, _ => rfl
  | b :: l, acc, h, hb => by
    have hd := isDig_iff.1 (h b List.mem_cons_self)
    rw [List.length_cons, Nat.pow_succ] at hb
    have h1 : (acc * 10 + (b.toNat - 48) + 1) * 10 ^ l.length ≤ 1000000000000000000 := by
      refine Nat.le_trans (Nat.mul_le_mul_right _ (show acc * 10 + (b.toNat - 48) + 1 ≤ (acc + 1) * 10 by omega)) ?_
      rw [Nat.mul_assoc, Nat.mul_comm 10]
      exact hb
    have h10 : 1 ≤ 10 ^ l.length := Nat.one_le_pow _ _ (by omega)
    have h2 : acc * 10 + (b.toNat - 48) + 1 ≤ 1000000000000000000 := Nat.le_trans (Nat.le_mul_of_pos_right _ h10) h1
    simp only [Lib.parseUint10]
    rw [if_pos hd, if_neg (by omega), if_neg (by omega), parse_dig l _ (fun c hc => h c (List.mem_cons_of_mem _ hc)) h1, List.foldl_cons, Nat.mul_comm acc]
theorem atoi_canon {s : List UInt8} (h : Canon s) (hl : s.length ≤ 18) : Lib.atoiAll s = .ok (valD s : Nat) := by
  obtain ⟨c, r, rfl⟩ : ∃ c r, s = c :: r := by
    cases s with
    | nil => exact absurd rfl h.ne
    | cons c r => exact ⟨c, r, rfl⟩
  have hd := isDig_iff.1 (h.dig c List.mem_cons_self)
  have hp : (0 + 1) * 10 ^ (c :: r).length ≤ 1000000000000000000 := by
    rw [Nat.zero_add, Nat.one_mul]
    exact Nat.pow_le_pow_right (by omega) hl
  have hv := parse_dig (c :: r) 0 h.dig hp
  have hlt : valD (c :: r) < 1000000000000000001 := by
    have key : ∀ (l : List UInt8) (acc : Nat), (∀ b ∈ l, isDig b = true) → l.foldl (fun n b => 10 * n + (b.toNat - 48)) acc < (acc + 1) * 10 ^ l.length := by
      intro l
      induction l with
      | nil => intro acc _; simp
      | cons b l ih =>
        intro acc hb
        have hd := isDig_iff.1 (hb b List.mem_cons_self)
        have := ih (10 * acc + (b.toNat - 48)) fun c hc => hb c (List.mem_cons_of_mem _ hc)
        rw [List.foldl_cons, List.length_cons, Nat.pow_succ]
        refine Nat.lt_of_lt_of_le this ?_
        rw [Nat.mul_comm (10 ^ l.length) 10, ← Nat.mul_assoc]
        exact Nat.mul_le_mul_right _ (by omega)
    exact Nat.lt_succ_of_le (Nat.le_trans (Nat.le_of_lt (key (c :: r) 0 h.dig)) hp)
  unfold Lib.atoiAll
  dsimp only
  rw [if_neg (by omega)]
  unfold Lib.parseMag
  rw [if_neg (by simp), hv]
  dsimp only
  show (if ¬ c.toNat = 45 ∧ 9223372036854775808 ≤ valD (c :: r) then _ else _) = _
  rw [if_neg (by omega), if_neg (by omega), if_neg (by omega)]
  rfl
end Go.Proofs.YtcioicoedmmkhaaGreatDoor

namespace Go.Proofs.YtcioicoedmmkhaaGreatDoor
open Go Ev
def cutR (c : UInt8) : List UInt8 → List (List UInt8)
  | [] => [[]]
  | b :: l => if b = c then [] :: cutR c l else match cutR c l with
    | w :: ws => (b :: w) :: ws
    | [] => [[b]]
theorem cutR_ne (c : UInt8) (l : List UInt8) : cutR c l ≠ [] := by
  cases l with
  | nil => simp [cutR]
  | cons b l =>
    unfold cutR
    split
    · simp
    · split <;> simp
theorem cutR_cons (c : UInt8) (l : List UInt8) : ∃ w ws, cutR c l = w :: ws := by
  cases h : cutR c l with
  | nil => exact absurd h (cutR_ne c l)
  | cons w ws => exact ⟨w, ws, rfl⟩
theorem cutR_eq (c : UInt8) (l : List UInt8) : cutR c (c :: l) = [] :: cutR c l := by
  show (if c = c then _ else _) = _
  rw [if_pos rfl]
theorem cutR_other {c b : UInt8} {l : List UInt8} (h : b ≠ c) {w : List UInt8} {ws : List (List UInt8)} (hw : cutR c l = w :: ws) : cutR c (b :: l) = (b :: w) :: ws := by
  show (if b = c then _ else match cutR c l with | w :: ws => _ | [] => _) = _
  rw [if_neg h, hw]
theorem cutR_word {c : UInt8} : ∀ (w l : List UInt8), c ∉ w → cutR c (w ++ c :: l) = w :: cutR c l
  | [], l, _ => cutR_eq c l
  | b :: w, l, h => by
    have hb : b ≠ c := fun e => h (e ▸ List.mem_cons_self)
    exact cutR_other hb (cutR_word w l fun hc => h (List.mem_cons_of_mem _ hc))
theorem cutR_one {c : UInt8} : ∀ (w : List UInt8), c ∉ w → cutR c w = [w]
  | [], _ => rfl
  | b :: w, h => by
    have hb : b ≠ c := fun e => h (e ▸ List.mem_cons_self)
    exact cutR_other hb (cutR_one w fun hc => h (List.mem_cons_of_mem _ hc))
theorem join_cc (x y : List UInt8) (r : List (List UInt8)) (sep : List UInt8) : Lib.join (x :: y :: r) sep = x ++ (sep ++ Lib.join (y :: r) sep) := by
  rw [Lib.join_cons, Lib.join_cons]
  simp [Lib.joinTail, List.append_assoc]
theorem cutR_join {c : UInt8} : ∀ (ws : List (List UInt8)), ws ≠ [] → (∀ w ∈ ws, c ∉ w) → cutR c (Lib.join ws [c]) = ws
  | [], h, _ => absurd rfl h
  | [w], _, h => by
    rw [Lib.join_one]
    exact cutR_one w (h w List.mem_cons_self)
  | w :: v :: r, _, h => by
    rw [join_cc, List.singleton_append, cutR_word w _ (h w List.mem_cons_self), cutR_join (v :: r) (by simp) fun u hu => h u (List.mem_cons_of_mem _ hu)]
theorem join_cutR (c : UInt8) : ∀ l : List UInt8, Lib.join (cutR c l) [c] = l
  | [] => Lib.join_one _ _
  | b :: l => by
    have ih := join_cutR c l
    obtain ⟨w, ws, hw⟩ := cutR_cons c l
    by_cases h : b = c
    · subst h
      rw [cutR_eq, hw, join_cc, ← hw, ih]
      rfl
    · rw [cutR_other h hw]
      rw [hw] at ih
      rw [Lib.join_cons] at ih ⊢
      rw [List.cons_append, ih]
theorem cutR_no {c : UInt8} : ∀ (l w : List UInt8), w ∈ cutR c l → c ∉ w
  | [], w, h => by
    obtain rfl := List.mem_singleton.1 h
    simp
  | b :: l, w, h => by
    obtain ⟨v, vs, hv⟩ := cutR_cons c l
    have ih := cutR_no (c := c) l
    rw [hv] at ih
    by_cases hb : b = c
    · subst hb
      rw [cutR_eq, hv] at h
      rcases List.mem_cons.1 h with rfl | h
      · simp
      · exact ih w h
    · rw [cutR_other hb hv] at h
      rcases List.mem_cons.1 h with rfl | h
      · intro hc
        rcases List.mem_cons.1 hc with e | hc
        · exact hb e.symm
        · exact ih v List.mem_cons_self hc
      · exact ih w (List.mem_cons_of_mem _ h)
def cutStep (c : UInt8) (p : List (List UInt8) × List UInt8) (b : UInt8) : List (List UInt8) × List UInt8 := if b = c then (p.1 ++ [p.2], []) else (p.1, p.2 ++ [b])
def cutF (c : UInt8) (l : List UInt8) : List (List UInt8) × List UInt8 := l.foldl (cutStep c) ([], [])
theorem cutF_step {c b : UInt8} {l : List UInt8} {k : Nat} (h : l[k]? = some b) : cutF c (l.take (k + 1)) = cutStep c (cutF c (l.take k)) b := by
  unfold cutF
  rw [List.take_add_one, h, List.foldl_append]
  rfl
theorem cutF_gen (c : UInt8) : ∀ (l : List UInt8) (out : List (List UInt8)) (w v : List UInt8) (vs : List (List UInt8)), cutR c l = v :: vs → (l.foldl (cutStep c) (out, w)).1 ++ [(l.foldl (cutStep c) (out, w)).2] = out ++ ((w ++ v) :: vs)
  | [], out, w, v, vs, h => by
    cases h
    simp
  | b :: l, out, w, v, vs, h => by
    obtain ⟨u, us, hu⟩ := cutR_cons c l
    rw [List.foldl_cons]
    by_cases hb : b = c
    · subst hb
      rw [cutR_eq, hu] at h
      cases h
      have := cutF_gen b l (out ++ [w]) [] u us hu
      rw [show cutStep b (out, w) b = (out ++ [w], []) from if_pos rfl, this]
      simp
    · rw [cutR_other hb hu] at h
      obtain ⟨rfl, rfl⟩ := List.cons.inj h
      have := cutF_gen c l out (w ++ [b]) u us hu
      rw [show cutStep c (out, w) b = (out, w ++ [b]) from if_neg hb, this]
      simp
theorem cutF_cutR (c : UInt8) (l : List UInt8) : (cutF c l).1 ++ [(cutF c l).2] = cutR c l := by
  obtain ⟨v, vs, h⟩ := cutR_cons c l
  rw [h]
  exact cutF_gen c l [] [] v vs h
theorem cutF_len (c : UInt8) (l : List UInt8) : (cutF c l).1.length ≤ l.length ∧ (cutF c l).2.length ≤ l.length := by
  have key : ∀ (l : List UInt8) (p : List (List UInt8) × List UInt8), (l.foldl (cutStep c) p).1.length ≤ p.1.length + l.length ∧ (l.foldl (cutStep c) p).2.length ≤ p.2.length + l.length := by
    intro l
    induction l with
    | nil => exact fun p => ⟨Nat.le_refl _, Nat.le_refl _⟩
    | cons b l ih =>
      intro p
      obtain ⟨h1, h2⟩ := ih (cutStep c p b)
      rw [List.foldl_cons, List.length_cons]
      unfold cutStep at h1 h2 ⊢
      split at h1
      · rename_i hb
        rw [if_pos hb] at h2 ⊢
        simp only [List.length_append, List.length_singleton, List.length_nil] at h1 h2
        omega
      · rename_i hb
        rw [if_neg hb] at h2 ⊢
        simp only [List.length_append, List.length_singleton] at h1 h2
        omega
  have := key l ([], [])
  simp only [List.length_nil, Nat.zero_add] at this
  exact this
theorem cutR_len (c : UInt8) (l : List UInt8) : (cutR c l).length ≤ l.length + 1 := by
  rw [← cutF_cutR, List.length_append, List.length_singleton]
  have := (cutF_len c l).1
  omega
theorem splitK_cutR (c : UInt8) : ∀ (s : List UInt8) (k : Nat), s.count c ≤ k → Lib.splitK [c] 0 k s = cutR c s
  | [], 0, _ => rfl
  | [], k + 1, _ => by
    unfold Lib.splitK
    rfl
  | b :: l, k, h => by
    obtain ⟨w, ws, hw⟩ := cutR_cons c l
    by_cases hb : b = c
    · subst hb
      rw [List.count_cons_self] at h
      obtain ⟨k, rfl⟩ : ∃ j, k = j + 1 := ⟨k - 1, by omega⟩
      have hi : Lib.index (b :: l) [b] = 0 := by
        unfold Lib.index
        rw [if_pos (by simp)]
      unfold Lib.splitK
      rw [hi, if_neg (by decide), cutR_eq, ← splitK_cutR b l k (by omega)]
      rfl
    · rw [List.count_cons_of_ne hb] at h
      rw [cutR_other hb hw]
      have ih := splitK_cutR c l k h
      rw [hw] at ih
      cases k with
      | zero =>
        cases ih
        rfl
      | succ k =>
        have hi : Lib.index (b :: l) [c] = if Lib.index l [c] == -1 then -1 else Lib.index l [c] + 1 := by
          show (if ([c] : List UInt8).isPrefixOf (b :: l) = true then _ else _) = _
          rw [if_neg (by simp [List.isPrefixOf, Ne.symm hb])]
        have hge := Lib.index_ge l [c]
        unfold Lib.splitK at ih ⊢
        rw [hi]
        by_cases hm : Lib.index l [c] == -1
        · rw [if_pos hm] at ih ⊢
          rw [if_pos (by decide)]
          cases ih
          rfl
        · rw [if_neg hm] at ih ⊢
          have hne : Lib.index l [c] ≠ -1 := fun e => hm (by rw [e]; rfl)
          rw [if_neg (by simp; omega)]
          obtain ⟨e1, e2⟩ := List.cons.inj ih
          have ht : (Lib.index l [c] + 1).toNat = (Lib.index l [c]).toNat + 1 := by omega
          rw [ht, ← e1, ← e2]
          simp only [Nat.add_zero, List.take_succ_cons, List.length_singleton, List.drop_succ_cons]
theorem cut_two {c : UInt8} {l a b : List UInt8} {r : List (List UInt8)} (h : cutR c l = a :: b :: r) : Lib.cut l [c] = (a, Lib.join (b :: r) [c], true) := by
  have hl := join_cutR c l
  have hna := cutR_no (c := c) l a (by rw [h]; exact List.mem_cons_self)
  rw [h, join_cc, List.singleton_append] at hl
  have hi : ∀ (a t : List UInt8), c ∉ a → Lib.index (a ++ c :: t) [c] = (a.length : Int) := by
    intro a
    induction a with
    | nil =>
      intro t _
      show (if ([c] : List UInt8).isPrefixOf (c :: t) = true then (0 : Int) else _) = _
      rw [if_pos (by simp)]
      rfl
    | cons x a ih =>
      intro t hx
      have hxc : x ≠ c := fun e => hx (e ▸ List.mem_cons_self)
      have h2 := ih t fun hc => hx (List.mem_cons_of_mem _ hc)
      show (if ([c] : List UInt8).isPrefixOf (x :: (a ++ c :: t)) = true then (0 : Int) else if Lib.index (a ++ c :: t) [c] == -1 then -1 else Lib.index (a ++ c :: t) [c] + 1) = _
      rw [if_neg (by simp [List.isPrefixOf, Ne.symm hxc]), h2, if_neg (by simp only [beq_iff_eq]; omega), List.length_cons]
      omega
  rw [← hl]
  unfold Lib.cut
  rw [hi a _ hna, if_pos (by omega), Int.toNat_natCast, List.take_left, List.length_singleton]
  congr 2
  rw [show a.length + 1 = (a ++ [c]).length by simp, show a ++ c :: Lib.join (b :: r) [c] = (a ++ [c]) ++ Lib.join (b :: r) [c] by simp]
  exact List.drop_left
end Go.Proofs.YtcioicoedmmkhaaGreatDoor

namespace Go.Proofs.YtcioicoedmmkhaaGreatDoor
open Go Ev
def protoK (w : List UInt8) : Int := if w = sAny then 0 else if w = sUdp then 1 else if w = sTcp then 2 else -1
def ruleOfS (s : List UInt8) : Option RuleS := match cutR 32 s with
  | [a, b, p, n] => if (a = sAllow ∨ a = sDeny) ∧ (b = sOut ∨ b = sIn) ∧ 0 ≤ protoK p then (match cutR 45 n with
    | [x, y] => if 0 ≤ numS x 5 ∧ 0 ≤ numS y 5 then some ⟨decide (a = sAllow), decide (b = sOut), protoK p, numS x 5, numS y 5⟩ else none
    | _ => none) else none
  | _ => none
theorem protoK_b {p : List UInt8} (h : 0 ≤ protoK p) : protoB (protoK p) = p ∧ protoK p ≤ 2 := by
  unfold protoK at h ⊢
  split
  · rename_i e
    exact ⟨e.symm, by decide⟩
  split
  · rename_i e
    exact ⟨e.symm, by decide⟩
  split
  · rename_i e
    exact ⟨e.symm, by decide⟩
  · rename_i e1 e2 e3
    rw [if_neg e1, if_neg e2, if_neg e3] at h
    exact absurd h (by decide)
theorem canon_no {l : List UInt8} (h : Canon l) {c : UInt8} (hc : isDig c = false) : c ∉ l := fun hm => by
  rw [h.dig c hm] at hc
  cases hc
theorem words_no {r : RuleS} (h1 : 0 ≤ r.low) (h2 : 0 ≤ r.top) : ∀ w ∈ r.words, (32 : UInt8) ∉ w := by
  intro w hw
  unfold RuleS.words at hw
  rcases List.mem_cons.1 hw with rfl | hw
  · split <;> decide
  rcases List.mem_cons.1 hw with rfl | hw
  · split <;> decide
  rcases List.mem_cons.1 hw with rfl | hw
  · unfold protoB
    split
    · decide
    split
    · decide
    · decide
  obtain rfl := List.mem_singleton.1 hw
  intro hm
  rcases List.mem_append.1 hm with hm | hm
  · rcases List.mem_append.1 hm with hm | hm
    · exact canon_no (itoa_canon h1).1 (by decide) hm
    · simp at hm
  · exact canon_no (itoa_canon h2).1 (by decide) hm
theorem line_cut {r : RuleS} (h1 : 0 ≤ r.low) (h2 : 0 ≤ r.top) : cutR 32 r.line = r.words := cutR_join _ (by simp [RuleS.words]) (words_no h1 h2)
theorem nums_cut {x y : List UInt8} (h1 : Canon x) (h2 : Canon y) : cutR 45 (x ++ [45] ++ y) = [x, y] := by
  rw [List.append_assoc, List.singleton_append, cutR_word x y (canon_no h1 (by decide)), cutR_one y (canon_no h2 (by decide))]
theorem numS_itoa {x : List UInt8} (h : 0 ≤ numS x 5) : Lib.itoa (numS x 5) = x := by
  obtain ⟨h1, _, h3⟩ := numS_canon h
  rw [h3]
  exact canon_itoa h1
theorem ruleOfS_some {s a b p n : List UInt8} (hw : cutR 32 s = [a, b, p, n]) {x y : List UInt8} {k : Bool} (hc : Lib.cut n [45] = (x, y, k)) (hp : 0 ≤ protoK p) (hx : 0 ≤ numS x 5) (hy : 0 ≤ numS y 5) :
    ((⟨decide (a = sAllow), decide (b = sOut), protoK p, numS x 5, numS y 5⟩ : RuleS).line = s ↔ ruleOfS s = some ⟨decide (a = sAllow), decide (b = sOut), protoK p, numS x 5, numS y 5⟩) := by
  generalize hr : (⟨decide (a = sAllow), decide (b = sOut), protoK p, numS x 5, numS y 5⟩ : RuleS) = r
  have hwords : r.words = [if decide (a = sAllow) = true then sAllow else sDeny, if decide (b = sOut) = true then sOut else sIn, p, x ++ [45] ++ y] := by
    subst hr
    unfold RuleS.words
    dsimp only
    rw [(protoK_b hp).1, numS_itoa hx, numS_itoa hy]
  have hcx := (numS_canon hx).1
  have hcy := (numS_canon hy).1
  constructor
  · intro hl
    have h1 := line_cut (r := r) (by rw [← hr]; exact hx) (by rw [← hr]; exact hy)
    rw [hl, hw, hwords] at h1
    obtain ⟨g1, h1⟩ := List.cons.inj h1
    obtain ⟨g2, h1⟩ := List.cons.inj h1
    obtain ⟨_, h1⟩ := List.cons.inj h1
    obtain ⟨g4, _⟩ := List.cons.inj h1
    have ga : a = sAllow ∨ a = sDeny := by
      by_cases ha : a = sAllow
      · exact .inl ha
      · rw [decide_eq_false ha, if_neg (by decide)] at g1
        exact .inr g1
    have gb : b = sOut ∨ b = sIn := by
      by_cases hb : b = sOut
      · exact .inl hb
      · rw [decide_eq_false hb, if_neg (by decide)] at g2
        exact .inr g2
    unfold ruleOfS
    rw [hw]
    dsimp only
    rw [if_pos ⟨ga, gb, hp⟩, g4, nums_cut hcx hcy]
    dsimp only
    rw [if_pos ⟨hx, hy⟩, hr]
  · intro h
    unfold ruleOfS at h
    rw [hw] at h
    dsimp only at h
    split at h
    · rename_i hab
      obtain ⟨ha, hb, _⟩ := hab
      split at h
      · rename_i x' y' hn
        have hcut := cut_two hn
        rw [Lib.join_one, hc] at hcut
        obtain ⟨e1, e2⟩ := Prod.mk.inj hcut
        obtain ⟨e2, _⟩ := Prod.mk.inj e2
        have hn2 : n = x ++ [45] ++ y := by
          have := join_cutR 45 n
          rw [hn, join_cc, Lib.join_one, ← e1, ← e2] at this
          rw [← this]
          simp
        have hws : r.words = [a, b, p, n] := by
          rw [hwords, hn2]
          congr 1
          · rcases ha with rfl | rfl <;> decide
          · congr 1
            rcases hb with rfl | rfl <;> decide
        unfold RuleS.line
        rw [hws, ← hw]
        exact join_cutR 32 s
      · cases h
    · cases h
theorem ruleOfS_none {s a b p n : List UInt8} (hw : cutR 32 s = [a, b, p, n]) {x y : List UInt8} {k : Bool} (hc : Lib.cut n [45] = (x, y, k)) (h : protoK p < 0 ∨ numS x 5 < 0 ∨ numS y 5 < 0) : ruleOfS s = none := by
  unfold ruleOfS
  rw [hw]
  dsimp only
  split
  · rename_i hab
    split
    · rename_i x' y' hn
      have hcut := cut_two hn
      rw [Lib.join_one, hc] at hcut
      obtain ⟨e1, e2⟩ := Prod.mk.inj hcut
      obtain ⟨e2, _⟩ := Prod.mk.inj e2
      subst e1 e2
      rw [if_neg (by have := hab.2.2; omega)]
    · rfl
  · rfl
theorem ruleOfS_words {s : List UInt8} (h : (cutR 32 s).length ≠ 4) : ruleOfS s = none := by
  unfold ruleOfS
  split
  · rename_i hw
    rw [hw] at h
    exact absurd rfl h
  · rfl
theorem words4 {s : List UInt8} (h : (cutR 32 s).length = 4) : ∃ a b p n, cutR 32 s = [a, b, p, n] := by
  generalize cutR 32 s = l at h
  match l, h with
  | [a, b, p, n], _ => exact ⟨a, b, p, n, rfl⟩
def rulesOfL : List (List UInt8) → Nat → List RuleS × Option Nat
  | [], _ => ([], none)
  | t :: l, i => match ruleOfS t with
    | some r => (r :: (rulesOfL l (i + 1)).1, (rulesOfL l (i + 1)).2)
    | none => ([], some i)
def trimN (s : List UInt8) : List UInt8 := if s.getLast? = some 10 then s.dropLast else s
def rulesOfS (s : List UInt8) : List RuleS × (Nat × Int) :=
  if s.length > 3000 then ([], (2, -1)) else if s = [] then ([], (0, -1)) else
  match (rulesOfL (cutR 10 (trimN s)) 0).2 with
  | some i => ([], (1, (i : Int)))
  | none => if (faultL (rulesOfL (cutR 10 (trimN s)) 0).1).1 ≠ 0 then ([], faultL (rulesOfL (cutR 10 (trimN s)) 0).1) else ((rulesOfL (cutR 10 (trimN s)) 0).1, (0, -1))
end Go.Proofs.YtcioicoedmmkhaaGreatDoor

namespace Go.Proofs.YtcioicoedmmkhaaGreatDoor
open Go Ev
end Go.Proofs.YtcioicoedmmkhaaGreatDoor

namespace Go.Proofs.YtcioicoedmmkhaaGreatDoor
open Go Ev

abbrev encT (l : List UInt8) : List Value := [.string (bs l)]
theorem codT : Codec 1 encT := ⟨fun _ => rfl, fun _ => rfl, by decide⟩
def MaxL (w : World) : Prop := ∃ m : Int, w.cell? ⟨14, 0, none⟩ = some (.int .i64 m)
theorem MaxL.no {w w' : World} (h : MaxL w) (hx : Ext No w w') : MaxL w' := h.elim fun m hm => ⟨m, hx.cell hm id⟩
structure NumV (w : World) : Prop where
  syn : ∃ e, w.cell? ⟨15, 0, none⟩ = some e ∧ (e = .nilIface ∨ ∃ t p, e = .iface t p)
  rng : ∃ e, w.cell? ⟨16, 0, none⟩ = some e ∧ (e = .nilIface ∨ ∃ t p, e = .iface t p)
theorem NumV.no {w w' : World} (h : NumV w) (hx : Ext No w w') : NumV w' :=
  ⟨h.syn.elim fun e he => ⟨e, hx.cell he.1 id, he.2⟩, h.rng.elim fun e he => ⟨e, hx.cell he.1 id, he.2⟩⟩

theorem split_ok (l : List UInt8) (c : UInt8) (w : World) (hl : l.length ≤ 100000) (hM : MaxL w) :
    CallC Tryz.prog 32 #[.string (bs l), .string (bs [c])] w fun v w' => (∃ b, v = .slice (some ⟨b, 0, none⟩) (cutR c l).length (cutR c l).length ∧ w.heap.size ≤ b ∧ Blk w' b 9 ((cutR c l).map fun l => .string (bs l))) ∧ Ext No w w' := by
  obtain ⟨m, hm⟩ := hM
  have hc : Lib.countB (bs l) (bs [c]) = l.count c := Lib.count_one c l
  have hd := Lib.splitB_data (bs [c]) 0 (Lib.countB (bs l) (bs [c])) (bs l)
  have hsk : Lib.splitK (bs [c]).data.toList 0 (Lib.countB (bs l) (bs [c])) (bs l).data.toList = cutR c l := splitK_cutR c l _ (by rw [hc]; exact Nat.le_refl _)
  rw [hsk] at hd
  have hlen : (cutR c l).length = Lib.countB (bs l) (bs [c]) + 1 := by
    rw [← hd, List.length_map]
    exact Lib.splitB_all _ (by rw [bs_size]; simp) _ _ _ rfl
  have hmap : (Lib.splitB (bs [c]) 0 (Lib.countB (bs l) (bs [c])) (bs l)).map Value.string = (cutR c l).map fun l => .string (bs l) := by
    rw [← hd, List.map_map]
    exact List.map_congr_left fun x _ => rfl
  refine Ev.CallC.of Tryz.func32 (by kernel_rfl) rfl ((Tryz.strings_Split (bs l) (bs [c]) m w (by rw [bs_size]; omega) hm (by rw [bs_size]; simp)).mono ?_)
  rintro e w' ⟨rfl, rfl⟩
  refine ⟨_, rfl, ⟨w.heap.size, by rw [hlen], Nat.le_refl _, ?_⟩, ?_⟩
  · rw [← hmap]
    show (w.heap.push _)[w.heap.size]? = _
    rw [Array.getElem?_push, if_pos rfl]
  · exact Ext.push No w 9 _
theorem cutT_ok (l : List UInt8) (c : UInt8) (w : World) (hl : l.length ≤ 100000) (hM : MaxL w) :
    CallC Tryz.prog 56 #[.string (bs l), .string (bs [c])] w fun v w' => v = .tuple #[.string (bs (Lib.cut l [c]).1), .string (bs (Lib.cut l [c]).2.1), .bool (Lib.cut l [c]).2.2] ∧ Ext No w w' := by
  obtain ⟨m, hm⟩ := hM
  refine Ev.CallC.of Tryz.func56 (by kernel_rfl) rfl ((Tryz.strings_Cut (bs l) (bs [c]) m w (by rw [bs_size]; omega) hm).mono ?_)
  rintro e w' ⟨rfl, n, rfl⟩
  exact ⟨_, rfl, rfl, Ext.drawn _ _ _⟩
theorem atoi_ok (l : List UInt8) (w : World) (hl : l.length ≤ 100000) (hV : NumV w) :
    CallC Tryz.prog 57 #[.string (bs l)] w fun v w' => (∃ n e, v = .tuple #[.int .i64 n, e] ∧ I64 n ∧ (Lib.atoiAll l = .ok n ∧ e = .nilIface ∨ (∀ m, Lib.atoiAll l ≠ .ok m) ∧ ∃ t u, e = .iface t u)) ∧ Ext No w w' := by
  have hall : CallC Tryz.prog 79 #[.string (bs l)] w fun v w' => v = Lib.intTuple 152 (Lib.atoiSat l) (Lib.atoiAll l) ∧ Ext No w w' := by
    refine Ev.CallC.of Tryz.func79 (by kernel_rfl) rfl ((Tryz.internal_strconv_Atoi_all (bs l) (by rw [bs_size]; omega) w).mono ?_)
    rintro e w' ⟨rfl, hw⟩
    refine ⟨_, rfl, rfl, ?_⟩
    rcases hw with rfl | ⟨t, rfl⟩
    · exact Ext.refl _ _
    · exact .of_below (Lib.bytesWorld_below _ _ _)
  have hbd := @Lib.atoiAll_bounds l
  obtain ⟨b1, b2⟩ := Lib.atoiSat_bounds l
  generalize Lib.atoiSat l = sat at hall b1 b2
  generalize Lib.atoiAll l = r at hall hbd ⊢
  refine fn_intro tabOk Tryz.func57 (by kernel_rfl) rfl Tryz.ntmps57 (Nat.le_of_ble_eq_true rfl) ?_
  have hS := St.start w No
  (conv => whnf)
  refine hall.mono ?_
  rintro v w1 ⟨rfl, hx⟩
  replace hS := hS.no hx
  clear hall
  cases r
  · rename_i n
    obtain ⟨c1, c2⟩ := hbd rfl
    repeat' ((conv => whnf); first | refine RetC.mk ?_ | refine NzC.mk (by decide) ?_ | refine RngC.mk (by omega) (by omega) ?_ | refine IdxC.mk (by omega) (by omega) ?_ | refine brD (fun _ => ?_) (fun _ => ?_) | refine brND (fun _ => ?_) (fun _ => ?_) | refine brN (fun _ => ?_) (fun _ => ?_) | refine brI (fun _ => ?_) (fun _ => ?_))
    exact ⟨⟨_, _, rfl, ⟨by omega, by omega⟩, .inl ⟨rfl, rfl⟩⟩, hS.ext⟩
  · obtain ⟨ev, h1, h2⟩ := (hV.no hS.ext).syn
    (conv => whnf)
    refine (Ev.CallC.of Tryz.func80 (by kernel_rfl) rfl ((Tryz.strconv_toError_syntax (bs [65, 116, 111, 105]) (bs l) 0 0 ev _ (by rw [bs_size]; omega) h1 h2).mono (R' := fun e w' => ∃ v, e = .returned v ∧ (∃ t u, v = .iface t u) ∧ Ext No w1 w') ?_)).mono ?_
    · rintro e w' ⟨N, rfl, _, _, hb⟩
      exact ⟨_, rfl, ⟨_, _, rfl⟩, .of_below hb⟩
    · rintro v w2 ⟨⟨t, u, rfl⟩, hx⟩
      replace hS := hS.no hx
      repeat' ((conv => whnf); first | refine RetC.mk ?_ | refine NzC.mk (by decide) ?_ | refine RngC.mk (by omega) (by omega) ?_ | refine IdxC.mk (by omega) (by omega) ?_ | refine brD (fun _ => ?_) (fun _ => ?_) | refine brND (fun _ => ?_) (fun _ => ?_) | refine brN (fun _ => ?_) (fun _ => ?_) | refine brI (fun _ => ?_) (fun _ => ?_))
      exact ⟨⟨_, _, rfl, ⟨by decide, by decide⟩, .inr ⟨(fun m hm => by cases hm), _, _, rfl⟩⟩, hS.ext⟩
  · obtain ⟨ev, h1, h2⟩ := (hV.no hS.ext).rng
    (conv => whnf)
    refine (Ev.CallC.of Tryz.func80 (by kernel_rfl) rfl ((Tryz.strconv_toError_range (bs [65, 116, 111, 105]) (bs l) 0 0 ev _ (by rw [bs_size]; omega) h1 h2).mono (R' := fun e w' => ∃ v, e = .returned v ∧ (∃ t u, v = .iface t u) ∧ Ext No w1 w') ?_)).mono ?_
    · rintro e w' ⟨N, rfl, _, _, hb⟩
      exact ⟨_, rfl, ⟨_, _, rfl⟩, .of_below hb⟩
    · rintro v w2 ⟨⟨t, u, rfl⟩, hx⟩
      replace hS := hS.no hx
      repeat' ((conv => whnf); first | refine RetC.mk ?_ | refine NzC.mk (by decide) ?_ | refine RngC.mk (by omega) (by omega) ?_ | refine IdxC.mk (by omega) (by omega) ?_ | refine brD (fun _ => ?_) (fun _ => ?_) | refine brND (fun _ => ?_) (fun _ => ?_) | refine brN (fun _ => ?_) (fun _ => ?_) | refine brI (fun _ => ?_) (fun _ => ?_))
      exact ⟨⟨_, _, rfl, ⟨by omega, by omega⟩, .inr ⟨(fun m hm => by cases hm), _, _, rfl⟩⟩, hS.ext⟩
theorem trim_eq (l : List UInt8) : Lib.trimSuffix l [10] = trimN l := by
  unfold Lib.trimSuffix Lib.hasSuffix trimN
  rcases List.eq_nil_or_concat l with rfl | ⟨r, b, hl⟩
  · rfl
  · rw [List.concat_eq_append] at hl
    subst hl
    rw [List.getLast?_concat, List.dropLast_concat, show ([10] : List UInt8).isSuffixOf (r ++ [b]) = decide (b = 10) by
      have h : ((10 : UInt8) == b) = decide (b = 10) := by
        rw [Bool.eq_iff_iff, beq_iff_eq, decide_eq_true_iff, eq_comm]
      simpa [List.isSuffixOf, List.isPrefixOf] using h]
    by_cases h : b = 10
    · subst h
      simp
    · simp [h]
theorem trim_ok (l : List UInt8) (w : World) (hl : l.length ≤ 100000) :
    CallC Tryz.prog 50 #[.string (bs l), .string (bs [10])] w fun v w' => v = .string (bs (trimN l)) ∧ Ext No w w' := by
  refine Ev.CallC.of Tryz.func50 (by kernel_rfl) rfl ((Tryz.strings_TrimSuffix (bs l) (bs [10]) w (by rw [bs_size]; omega)).mono ?_)
  rintro e w' ⟨rfl, rfl⟩
  refine ⟨_, rfl, ?_, Ext.refl _ _⟩
  rw [← trim_eq]
  rfl
theorem numS_atoi {l : List UInt8} {n : Int} (most : Nat) (hm : most ≤ 18) (h : Lib.atoiAll l = .ok n) : ((l.length ≤ most ∧ Lib.itoa n = l) ∧ 0 ≤ n ↔ 0 ≤ numS l most) ∧ (0 ≤ numS l most → n = numS l most) := by
  have key : 0 ≤ numS l most → l.length ≤ most ∧ n = numS l most ∧ Lib.itoa n = l := fun h0 => by
    obtain ⟨h1, h2, h3⟩ := numS_canon h0
    have := atoi_canon h1 (by omega)
    rw [h] at this
    cases this
    exact ⟨h2, h3.symm, canon_itoa h1⟩
  refine ⟨⟨fun ⟨⟨h1, h2⟩, h3⟩ => ?_, fun h0 => ?_⟩, fun h0 => (key h0).2.1⟩
  · have hc := (itoa_canon h3).1
    rw [h2] at hc
    rw [canon_numS hc h1]
    omega
  · obtain ⟨h1, h2, h3⟩ := key h0
    exact ⟨⟨h1, h3⟩, by omega⟩
theorem numS_atoi_none {l : List UInt8} {most : Nat} (hm : most ≤ 18) (h : ∀ m, Lib.atoiAll l ≠ .ok m) : numS l most < 0 := by
  refine Int.not_le.1 fun h0 => ?_
  obtain ⟨h1, h2, _⟩ := numS_canon h0
  exact h _ (atoi_canon h1 (by omega))
end Go.Proofs.YtcioicoedmmkhaaGreatDoor

namespace Go.Proofs.YtcioicoedmmkhaaGreatDoor
open Go Ev

theorem nilT_holds (w : World) : (ownL 9 1 encT (.slice none 0 0) []).holds w := own_nil _ _ _
theorem rcut_ok (l : List UInt8) (c : UInt8) (hl : l.length ≤ 100000) (w : World) :
    CallC Tryz.prog 35 #[.string (bs l), .int .u8 (c.toNat : Int)] w fun v w' => (∃ a d, v = .slice a (cutR c l).length d ∧ (ownL 9 1 encT (.slice a (cutR c l).length d) (cutR c l)).holds w' ∧ Fresh w w' (.slice a (cutR c l).length d)) ∧ Ext No w w' := by
  have hsz := bs_size l
  have hcut := cutF_cutR c l
  refine fn_intro tabOk Tryz.func35 (by kernel_rfl) rfl Tryz.ntmps35 (Nat.le_of_ble_eq_true rfl) ?_
  have hS := St.start w No
  have hS := hS.add (ownL_local (e := 9) (enc := encT) (sz := 1) (v := .slice none 0 0) (xs := [])) (nilT_holds _) (by simp [ownL, own, Value.ownBlock]) (by simp [ownL, own, Value.ownBlock])
  (conv => whnf)
  refine loopR tabOk (fun σ w' q => ∃ (k : Nat) (a : Option Addr) (d : Nat) (m : Nat), σ = [(7, .int .i64 (k : Int)), (6, .string (bs (cutF c (l.take k)).2)), (5, .slice a m d), (1, .int .u8 (c.toNat : Int)), (0, .string (bs l))] ∧ q = l.length - k ∧ k ≤ l.length ∧ (cutF c (l.take k)).1.length = m ∧ St w No w' [ownL 9 1 encT (.slice a m d) (cutF c (l.take k)).1])
    (σ' := [(7, .int .i64 ((0 : Nat) : Int)), (6, .string (bs [])), (5, .slice none 0 0), (1, .int .u8 (c.toNat : Int)), (0, .string (bs l))]) (n := l.length) ⟨rfl, rfl, rfl, rfl, rfl, trivial⟩ ⟨0, none, 0, 0, rfl, rfl, Nat.zero_le _, rfl, hS⟩ ?_
  clear hS
  rintro _ w1 q ⟨k, a, d, m, rfl, rfl, hk, hm, hS⟩
  have hcl := cutF_len c (l.take k)
  rw [List.length_take] at hcl
  (conv => whnf)
  refine brD (fun h3 => ?_) (fun h3 => ?_)
  · have hkn : k < l.length := by omega
    have hat := List.getElem?_eq_getElem hkn
    generalize l[k] = x at hat
    have hst := cutF_step (c := c) hat
    unfold cutStep at hst
    (conv => whnf)
    refine idxS Tryz.underlying9 rfl hat ?_
    (conv => whnf)
    refine eqC ?_
    have hxc : ((x.toNat : Int) == (c.toNat : Int)) = decide (x = c) := by
      rw [Bool.eq_iff_iff, beq_iff_eq, decide_eq_true_iff]
      exact ⟨fun h => UInt8.toNat_inj.1 (by omega), fun h => by rw [h]⟩
    rw [hxc]
    (conv => whnf)
    refine brD (fun h4 => ?_) (fun h4 => ?_)
    · rw [if_pos h4] at hst
      (conv => whnf)
      refine hS.lit (cs := encT (cutF c (l.take k)).2) Tryz.underlying66 (sz := 1) (by kernel_rfl) (z := .string (bs [])) (by kernel_rfl) rfl rfl (by rfl) (fun bl w' hbl hS => ?_)
      have hx : Slc w' 1 encT (fun _ => True) (some ⟨bl, 0, none⟩) 1 [(cutF c (l.take k)).2] := Slc.of_blk codT (hS.blk 1 rfl) rfl (by decide) (fun _ _ => trivial) rfl
      (conv => whnf)
      refine hS.appS codT 0 Tryz.underlying66 (bytes := 16) (by kernel_rfl) (z := .string (bs [])) (by kernel_rfl) rfl rfl hx (by unfold maxLen; omega) (by omega) (fun a2 c2 w' hS => ?_)
      rw [hm] at hS ⊢
      replace hS : St w No w' [ownL 9 1 encT (.slice a2 (m + 1) c2) ((cutF c (l.take k)).1 ++ [(cutF c (l.take k)).2]), blk bl 9 (encT (cutF c (l.take k)).2)] := hS
      replace hS := hS.keep 1
      have e1 : (cutF c (l.take (k + 1))).1 = (cutF c (l.take k)).1 ++ [(cutF c (l.take k)).2] := by rw [hst]
      have e2 : (cutF c (l.take (k + 1))).2 = [] := by rw [hst]
      (conv => whnf)
      refine RngC.mk (by omega) (by omega) ?_
      (conv => whnf)
      refine LoopE.mk ⟨_, [(7, .int .i64 ((k + 1 : Nat) : Int)), (6, .string (bs (cutF c (l.take (k + 1))).2)), (5, _), (1, _), (0, _)], ?_, ⟨rfl, by rw [e2]; rfl, rfl, rfl, rfl, trivial⟩, ⟨k + 1, a2, c2, m + 1, rfl, rfl, by omega, by rw [e1, List.length_append, hm]; rfl, by rw [e1]; exact hS⟩⟩
      omega
    · rw [if_neg h4] at hst
      have e1 : (cutF c (l.take (k + 1))).1 = (cutF c (l.take k)).1 := by rw [hst]
      have e2 : (cutF c (l.take (k + 1))).2 = (cutF c (l.take k)).2 ++ [x] := by rw [hst]
      have hsl : (l.drop k).take (k + 1 - k) = [x] := by
        rw [drop_at hat, show k + 1 - k = 1 by omega]
        rfl
      (conv => whnf)
      refine RngC.mk (by omega) (by omega) ?_
      (conv => whnf)
      refine slcS Tryz.underlying9 (a := k) (b := k + 1) rfl (by omega) (by omega) (by omega) hsl ?_
      (conv => whnf)
      refine addS (by simp; omega) ?_
      rw [← e2]
      (conv => whnf)
      refine RngC.mk (by omega) (by omega) ?_
      (conv => whnf)
      refine LoopE.mk ⟨_, [(7, .int .i64 ((k + 1 : Nat) : Int)), (6, _), (5, _), (1, _), (0, _)], ?_, ⟨rfl, rfl, rfl, rfl, rfl, trivial⟩, ⟨k + 1, a, d, m, rfl, rfl, by omega, by rw [e1, hm], by rw [e1]; exact hS⟩⟩
      omega
  · obtain rfl : k = l.length := by omega
    rw [List.take_length] at hS hm hcl ⊢
    (conv => whnf)
    refine hS.lit (cs := encT (cutF c l).2) Tryz.underlying66 (sz := 1) (by kernel_rfl) (z := .string (bs [])) (by kernel_rfl) rfl rfl (by rfl) (fun bl w' hbl hS => ?_)
    have hx : Slc w' 1 encT (fun _ => True) (some ⟨bl, 0, none⟩) 1 [(cutF c l).2] := Slc.of_blk codT (hS.blk 1 rfl) rfl (by decide) (fun _ _ => trivial) rfl
    (conv => whnf)
    refine hS.appS codT 0 Tryz.underlying66 (bytes := 16) (by kernel_rfl) (z := .string (bs [])) (by kernel_rfl) rfl rfl hx (by unfold maxLen; omega) (by omega) (fun a2 c2 w' hS => ?_)
    replace hS : St w No w' [ownL 9 1 encT (.slice a2 ((cutF c l).1.length + 1) c2) ((cutF c l).1 ++ [(cutF c l).2]), blk bl 9 (encT (cutF c l).2)] := hS
    have hlen : (cutF c l).1.length + 1 = (cutR c l).length := by rw [← hcut, List.length_append]; rfl
    rw [hlen, hcut] at hS
    rw [hlen]
    repeat' ((conv => whnf); first | refine RetC.mk ?_ | refine NzC.mk (by decide) ?_ | refine RngC.mk (by omega) (by omega) ?_ | refine IdxC.mk (by omega) (by omega) ?_ | refine brD (fun _ => ?_) (fun _ => ?_) | refine brND (fun _ => ?_) (fun _ => ?_) | refine brN (fun _ => ?_) (fun _ => ?_) | refine brI (fun _ => ?_) (fun _ => ?_))
    exact ⟨⟨a2, c2, rfl, hS.get 0 rfl, hS.freshAt 0 rfl⟩, hS.ext⟩
end Go.Proofs.YtcioicoedmmkhaaGreatDoor

namespace Go.Proofs.YtcioicoedmmkhaaGreatDoor
open Go Ev

def idxT (p : List UInt8) : List (List UInt8) → Nat → Int
  | [], _ => -1
  | x :: l, k => if p = x then (k : Int) else idxT p l (k + 1)
theorem idxT_step {p : List UInt8} {l : List (List UInt8)} {k : Nat} {x : List UInt8} (h : l[k]? = some x) : idxT p (l.drop k) k = if p = x then (k : Int) else idxT p (l.drop (k + 1)) (k + 1) := by
  obtain ⟨lt, e⟩ := List.getElem?_eq_some_iff.1 h
  rw [List.drop_eq_getElem_cons lt, e]
  rfl
theorem protoK_idx (p : List UInt8) : protoK p = idxT p [sAny, sUdp, sTcp] 0 := rfl
theorem idxT_ok {w : World} {G : List UInt8 → Prop} {a : Option Addr} {n c : Nat} {xs : List (List UInt8)} (p : List UInt8) (hx : Slc w 1 encT G a n xs) :
    CallC Tryz.prog 67 #[.slice a n c, .string (bs p)] w fun v w' => v = .int .i64 (idxT p xs 0) ∧ Ext No w w' := by
  have hm := hx.max
  have hl := hx.len
  refine fn_intro tabOk Tryz.func67 (by kernel_rfl) rfl Tryz.ntmps67 (Nat.le_of_ble_eq_true rfl) ?_
  have hS := St.start w No
  (conv => whnf)
  refine loopR tabOk (fun σ w' q => ∃ k : Nat, σ = [(8, .int .i64 (k : Int)), (7, .int .i64 n), (1, .string (bs p)), (0, .slice a n c)] ∧ q = n - k ∧ k ≤ n ∧ St w No w' [] ∧ idxT p xs 0 = idxT p (xs.drop k) k)
    (σ' := [(8, .int .i64 ((0 : Nat) : Int)), (7, .int .i64 n), (1, .string (bs p)), (0, .slice a n c)]) (n := n) ⟨rfl, rfl, rfl, rfl, trivial⟩ ⟨0, rfl, rfl, Nat.zero_le _, hS, by simp⟩ ?_
  clear hS
  rintro _ w1 q ⟨k, rfl, rfl, hk, hS, hi⟩
  (conv => whnf)
  refine brD (fun h3 => ?_) (fun h3 => ?_)
  · obtain ⟨b0, o0, x, hxk, hgx, rfl, _, hc⟩ := hx.at (k := k) (by omega)
    have hst := idxT_step (p := p) hxk
    (conv => whnf)
    refine IdxC.mk (by omega) (by omega) ?_
    (conv => whnf)
    refine hS.ldr (hc 0 _ rfl) id ?_
    (conv => whnf)
    refine eqS2 ?_
    (conv => whnf)
    refine brD (fun h4 => ?_) (fun h4 => ?_)
    · repeat' ((conv => whnf); first | refine RetC.mk ?_ | refine NzC.mk (by decide) ?_ | refine RngC.mk (by omega) (by omega) ?_ | refine IdxC.mk (by omega) (by omega) ?_ | refine brD (fun _ => ?_) (fun _ => ?_) | refine brND (fun _ => ?_) (fun _ => ?_) | refine brN (fun _ => ?_) (fun _ => ?_) | refine brI (fun _ => ?_) (fun _ => ?_))
      rw [hi, hst, if_pos h4]
      exact ⟨rfl, hS.ext⟩
    · (conv => whnf)
      refine RngC.mk (by omega) (by omega) ?_
      (conv => whnf)
      refine LoopE.mk ⟨_, [(8, .int .i64 ((k + 1 : Nat) : Int)), (7, _), (1, _), (0, _)], ?_, ⟨rfl, rfl, rfl, rfl, trivial⟩, ⟨k + 1, rfl, rfl, by omega, hS, by rw [hi, hst, if_neg h4]⟩⟩
      omega
  · repeat' ((conv => whnf); first | refine RetC.mk ?_ | refine NzC.mk (by decide) ?_ | refine RngC.mk (by omega) (by omega) ?_ | refine IdxC.mk (by omega) (by omega) ?_ | refine brD (fun _ => ?_) (fun _ => ?_) | refine brND (fun _ => ?_) (fun _ => ?_) | refine brN (fun _ => ?_) (fun _ => ?_) | refine brI (fun _ => ?_) (fun _ => ?_))
    have : k = n := by omega
    subst this
    rw [hi, List.drop_of_length_le (by omega)]
    exact ⟨rfl, hS.ext⟩
theorem protos_slc {w : World} (h : Protos w) : Slc w 1 encT (fun _ => True) (some ⟨12, 0, none⟩) 3 [sAny, sUdp, sTcp] :=
  Slc.of_cells codT rfl (by decide) (fun _ _ => trivial) fun j v hj => ⟨_, _, rfl, h j v hj⟩
theorem pnumber_ok (l : List UInt8) (w : World) (hl : l.length ≤ 100000) (hV : NumV w) (ht : Pow10 w) :
    CallC Tryz.prog 68 #[.string (bs l)] w fun v w' => (∃ n k, v = .tuple #[.int .i64 n, .bool k] ∧ I64 n ∧ ((k = true ∧ 0 ≤ n) ↔ 0 ≤ numS l 5) ∧ (0 ≤ numS l 5 → n = numS l 5)) ∧ Ext No w w' := by
  refine fn_intro tabOk Tryz.func68 (by kernel_rfl) rfl Tryz.ntmps68 (Nat.le_of_ble_eq_true rfl) ?_
  have hS := St.start w No
  (conv => whnf)
  refine (atoi_ok l w hl hV).mono ?_
  rintro v w1 ⟨⟨n, e, rfl, hn, hcase⟩, hx⟩
  replace hS := hS.no hx
  rcases hcase with ⟨ha, rfl⟩ | ⟨ha, t, u, rfl⟩
  · obtain ⟨k1, k2⟩ := numS_atoi 5 (by omega) ha
    (conv => whnf)
    refine brD (fun h5 => ?_) (fun h5 => ?_)
    · have h5 : l.length ≤ 5 := by
        have := bs_size l
        omega
      (conv => whnf)
      refine (itoa_ok n hn.1 hn.2 _ (ht.no hS.ext)).mono ?_
      rintro v w2 ⟨rfl, hx⟩
      replace hS := hS.no hx
      (conv => whnf)
      refine eqS2 ?_
      repeat' ((conv => whnf); first | refine RetC.mk ?_ | refine NzC.mk (by decide) ?_ | refine RngC.mk (by omega) (by omega) ?_ | refine IdxC.mk (by omega) (by omega) ?_ | refine brD (fun _ => ?_) (fun _ => ?_) | refine brND (fun _ => ?_) (fun _ => ?_) | refine brN (fun _ => ?_) (fun _ => ?_) | refine brI (fun _ => ?_) (fun _ => ?_))
      refine ⟨⟨_, _, rfl, hn, ?_, k2⟩, hS.ext⟩
      rw [← k1, decide_eq_true_iff]
      exact ⟨fun h => ⟨⟨h5, h.1⟩, h.2⟩, fun h => ⟨h.1.2, h.2⟩⟩
    · have h5 : ¬ l.length ≤ 5 := by
        have := bs_size l
        omega
      repeat' ((conv => whnf); first | refine RetC.mk ?_ | refine NzC.mk (by decide) ?_ | refine RngC.mk (by omega) (by omega) ?_ | refine IdxC.mk (by omega) (by omega) ?_ | refine brD (fun _ => ?_) (fun _ => ?_) | refine brND (fun _ => ?_) (fun _ => ?_) | refine brN (fun _ => ?_) (fun _ => ?_) | refine brI (fun _ => ?_) (fun _ => ?_))
      refine ⟨⟨_, _, rfl, hn, ?_, k2⟩, hS.ext⟩
      rw [← k1]
      exact ⟨fun h => (by cases h.1), fun h => absurd h.1.1 h5⟩
  · have hneg := numS_atoi_none (most := 5) (by omega) ha
    repeat' ((conv => whnf); first | refine RetC.mk ?_ | refine NzC.mk (by decide) ?_ | refine RngC.mk (by omega) (by omega) ?_ | refine IdxC.mk (by omega) (by omega) ?_ | refine brD (fun _ => ?_) (fun _ => ?_) | refine brND (fun _ => ?_) (fun _ => ?_) | refine brN (fun _ => ?_) (fun _ => ?_) | refine brI (fun _ => ?_) (fun _ => ?_))
    exact ⟨⟨_, _, rfl, hn, ⟨fun h => (by cases h.1), fun h => absurd h (by omega)⟩, fun h => absurd h (by omega)⟩, hS.ext⟩
theorem cut_small (l : List UInt8) (c : UInt8) : ∃ x y k, Lib.cut l [c] = (x, y, k) ∧ x.length ≤ l.length ∧ y.length ≤ l.length := by
  unfold Lib.cut
  split
  · exact ⟨_, _, _, rfl, by rw [List.length_take]; omega, by rw [List.length_drop]; omega⟩
  · exact ⟨_, _, _, rfl, Nat.le_refl _, by simp⟩
theorem ruleOfS_is {s a b p n x y : List UInt8} {k : Bool} {q : RuleS} (hw : cutR 32 s = [a, b, p, n]) (hc : Lib.cut n [45] = (x, y, k)) (h : ruleOfS s = some q) : (⟨decide (a = sAllow), decide (b = sOut), protoK p, numS x 5, numS y 5⟩ : RuleS) = q := by
  unfold ruleOfS at h
  rw [hw] at h
  dsimp only at h
  split at h
  · split at h
    · rename_i x' y' hn
      have hcut := cut_two hn
      rw [Lib.join_one, hc] at hcut
      obtain ⟨e1, e2⟩ := Prod.mk.inj hcut
      obtain ⟨e2, _⟩ := Prod.mk.inj e2
      subst e1 e2
      split at h
      · exact Option.some.inj h
      · cases h
    · cases h
  · cases h
theorem pread_ok (s : List UInt8) (w : World) (hl : s.length ≤ 100000) (hM : MaxL w) (hV : NumV w) (ht : Pow10 w) (hP : Protos w) :
    CallC Tryz.prog 51 #[.string (bs s)] w fun v w' => (∃ r k, v = .tuple #[.agg (encRule r).toArray, .bool k] ∧ (ruleOfS s = if k = true then some r else none)) ∧ Ext No w w' := by
  refine fn_intro tabOk Tryz.func51 (by kernel_rfl) rfl Tryz.ntmps51 (Nat.le_of_ble_eq_true rfl) ?_
  have hS := St.start w No
  (conv => whnf)
  refine hS.new (fun b2 w' hb2 hS => ?_)
  replace hS : St w No w' [blk b2 77 (encRule noRule)] := hS
  (conv => whnf)
  refine (split_ok s 32 _ hl (hM.no hS.ext)).mono ?_
  rintro v w1 ⟨⟨b, rfl, hb, hB⟩, hx⟩
  replace hS := hS.made hx (blk_local _ _ _) hB (by intro c hc; obtain rfl := List.mem_singleton.1 hc; exact ⟨hb, hB.lt⟩)
  (conv => whnf)
  refine brND (fun h4 => ?_) (fun h4 => ?_)
  · have h4 : (cutR 32 s).length ≠ 4 := by omega
    (conv => whnf)
    refine hS.st 0 rfl (Nat.le_of_ble_eq_true rfl) rfl (fun w' hS => ?_)
    replace hS : St w No w' [blk b2 77 (encRule noRule), blk b 9 ((cutR 32 s).map fun l => .string (bs l))] := hS
    (conv => whnf)
    refine hS.laX 0 rfl rfl ?_
    repeat' ((conv => whnf); first | refine RetC.mk ?_ | refine NzC.mk (by decide) ?_ | refine RngC.mk (by omega) (by omega) ?_ | refine IdxC.mk (by omega) (by omega) ?_ | refine brD (fun _ => ?_) (fun _ => ?_) | refine brND (fun _ => ?_) (fun _ => ?_) | refine brN (fun _ => ?_) (fun _ => ?_) | refine brI (fun _ => ?_) (fun _ => ?_))
    exact ⟨⟨noRule, false, rfl, ruleOfS_words h4⟩, hS.ext⟩
  obtain ⟨a, b4, p, n, hw⟩ := words4 (s := s) (by omega)
  have hlen := cutR_len 32 s
  rw [hw] at hS ⊢
  have hl4 : ([a, b4, p, n] : List (List UInt8)).length = 4 := rfl
  replace hS : St w No w1 [blk b2 77 (encRule noRule), blk b 9 [.string (bs a), .string (bs b4), .string (bs p), .string (bs n)]] := hS
  (conv => whnf)
  (refine drawS tabOk mixed [] (No) [0, 1, 2, 3, 4, 5] (by kernel_rfl) ?_; rintro w1 rfl; replace hS := hS.drew)
  (conv => whnf)
  refine IdxC.mk (by omega) (by omega) ?_
  (conv => whnf)
  refine hS.ldF 1 rfl rfl id ?_
  (conv => whnf)
  refine (idxT_ok p (protos_slc (hP.no hS.ext))).mono ?_
  rintro v w2 ⟨rfl, hx⟩
  replace hS := hS.no hx
  refine KeepC.mk hx ?_
  rw [← protoK_idx]
  clear hx
  (conv => whnf)
  refine IdxC.mk (by omega) (by omega) ?_
  (conv => whnf)
  refine hS.ld 1 rfl rfl ?_
  have hjn := join_cutR 32 s
  have hnl : n.length ≤ s.length := by
    rw [← hjn, hw]
    simp only [join_cc, Lib.join_one, List.length_append]
    omega
  obtain ⟨x, y, k, hcut, hxl, hyl⟩ := cut_small n 45
  (conv => whnf)
  refine (cutT_ok n 45 _ (by omega) (hM.no hS.ext)).mono ?_
  rintro v w3 ⟨rfl, hx⟩
  replace hS := hS.no hx
  rw [hcut]
  clear hx
  (conv => whnf)
  refine (pnumber_ok x _ (by omega) (hV.no hS.ext) (ht.no hS.ext)).mono ?_
  rintro v w4 ⟨⟨n1, k1, rfl, i1, c1, e1⟩, hx⟩
  replace hS := hS.no hx
  clear hx
  (conv => whnf)
  refine (pnumber_ok y _ (by omega) (hV.no hS.ext) (ht.no hS.ext)).mono ?_
  rintro v w5 ⟨⟨n2, k2, rfl, i2, c2, e2⟩, hx⟩
  replace hS := hS.no hx
  clear hx
  (conv => whnf)
  refine brD (fun h1 => ?_) (fun h1 => ?_)
  · skip
    (conv => whnf)
    refine hS.st 0 rfl (Nat.le_of_ble_eq_true rfl) rfl (fun w' hS => ?_)
    replace hS : St w No w' [blk b2 77 (encRule noRule), blk b 9 [.string (bs a), .string (bs b4), .string (bs p), .string (bs n)]] := hS
    (conv => whnf)
    refine hS.laX 0 rfl rfl ?_
    repeat' ((conv => whnf); first | refine RetC.mk ?_ | refine NzC.mk (by decide) ?_ | refine RngC.mk (by omega) (by omega) ?_ | refine IdxC.mk (by omega) (by omega) ?_ | refine brD (fun _ => ?_) (fun _ => ?_) | refine brND (fun _ => ?_) (fun _ => ?_) | refine brN (fun _ => ?_) (fun _ => ?_) | refine brI (fun _ => ?_) (fun _ => ?_))
    exact ⟨⟨noRule, false, rfl, ruleOfS_none hw hcut (.inl h1)⟩, hS.ext⟩
  cases k1 with
  | false =>
    have h2 : numS x 5 < 0 := Int.not_le.1 fun h => (by cases (c1.2 h).1)
    (conv => whnf)
    refine hS.st 0 rfl (Nat.le_of_ble_eq_true rfl) rfl (fun w' hS => ?_)
    replace hS : St w No w' [blk b2 77 (encRule noRule), blk b 9 [.string (bs a), .string (bs b4), .string (bs p), .string (bs n)]] := hS
    (conv => whnf)
    refine hS.laX 0 rfl rfl ?_
    repeat' ((conv => whnf); first | refine RetC.mk ?_ | refine NzC.mk (by decide) ?_ | refine RngC.mk (by omega) (by omega) ?_ | refine IdxC.mk (by omega) (by omega) ?_ | refine brD (fun _ => ?_) (fun _ => ?_) | refine brND (fun _ => ?_) (fun _ => ?_) | refine brN (fun _ => ?_) (fun _ => ?_) | refine brI (fun _ => ?_) (fun _ => ?_))
    exact ⟨⟨noRule, false, rfl, ruleOfS_none hw hcut (.inr (.inl h2))⟩, hS.ext⟩
  | true =>
  cases k2 with
  | false =>
    have h2 : numS y 5 < 0 := Int.not_le.1 fun h => (by cases (c2.2 h).1)
    (conv => whnf)
    refine hS.st 0 rfl (Nat.le_of_ble_eq_true rfl) rfl (fun w' hS => ?_)
    replace hS : St w No w' [blk b2 77 (encRule noRule), blk b 9 [.string (bs a), .string (bs b4), .string (bs p), .string (bs n)]] := hS
    (conv => whnf)
    refine hS.laX 0 rfl rfl ?_
    repeat' ((conv => whnf); first | refine RetC.mk ?_ | refine NzC.mk (by decide) ?_ | refine RngC.mk (by omega) (by omega) ?_ | refine IdxC.mk (by omega) (by omega) ?_ | refine brD (fun _ => ?_) (fun _ => ?_) | refine brND (fun _ => ?_) (fun _ => ?_) | refine brN (fun _ => ?_) (fun _ => ?_) | refine brI (fun _ => ?_) (fun _ => ?_))
    exact ⟨⟨noRule, false, rfl, ruleOfS_none hw hcut (.inr (.inr h2))⟩, hS.ext⟩
  | true =>
  (conv => whnf)
  refine brD (fun h2 => ?_) (fun h2 => ?_)
  · have h3 : numS x 5 < 0 := Int.not_le.1 fun h => absurd (c1.2 h).2 (by omega)
    (conv => whnf)
    refine hS.st 0 rfl (Nat.le_of_ble_eq_true rfl) rfl (fun w' hS => ?_)
    replace hS : St w No w' [blk b2 77 (encRule noRule), blk b 9 [.string (bs a), .string (bs b4), .string (bs p), .string (bs n)]] := hS
    (conv => whnf)
    refine hS.laX 0 rfl rfl ?_
    repeat' ((conv => whnf); first | refine RetC.mk ?_ | refine NzC.mk (by decide) ?_ | refine RngC.mk (by omega) (by omega) ?_ | refine IdxC.mk (by omega) (by omega) ?_ | refine brD (fun _ => ?_) (fun _ => ?_) | refine brND (fun _ => ?_) (fun _ => ?_) | refine brN (fun _ => ?_) (fun _ => ?_) | refine brI (fun _ => ?_) (fun _ => ?_))
    exact ⟨⟨noRule, false, rfl, ruleOfS_none hw hcut (.inr (.inl h3))⟩, hS.ext⟩
  (conv => whnf)
  refine brD (fun h3 => ?_) (fun h3 => ?_)
  · have h4 : numS y 5 < 0 := Int.not_le.1 fun h => absurd (c2.2 h).2 (by omega)
    (conv => whnf)
    refine hS.st 0 rfl (Nat.le_of_ble_eq_true rfl) rfl (fun w' hS => ?_)
    replace hS : St w No w' [blk b2 77 (encRule noRule), blk b 9 [.string (bs a), .string (bs b4), .string (bs p), .string (bs n)]] := hS
    (conv => whnf)
    refine hS.laX 0 rfl rfl ?_
    repeat' ((conv => whnf); first | refine RetC.mk ?_ | refine NzC.mk (by decide) ?_ | refine RngC.mk (by omega) (by omega) ?_ | refine IdxC.mk (by omega) (by omega) ?_ | refine brD (fun _ => ?_) (fun _ => ?_) | refine brND (fun _ => ?_) (fun _ => ?_) | refine brN (fun _ => ?_) (fun _ => ?_) | refine brI (fun _ => ?_) (fun _ => ?_))
    exact ⟨⟨noRule, false, rfl, ruleOfS_none hw hcut (.inr (.inr h4))⟩, hS.ext⟩
  have g1 : 0 ≤ numS x 5 := c1.1 ⟨rfl, by omega⟩
  have g2 : 0 ≤ numS y 5 := c2.1 ⟨rfl, by omega⟩
  obtain rfl := e1 g1
  obtain rfl := e2 g2
  have hiff := ruleOfS_some hw hcut (by omega) g1 g2
  generalize hr : (⟨decide (a = sAllow), decide (b4 = sOut), protoK p, numS x 5, numS y 5⟩ : RuleS) = r at hiff
  have hp2 := (protoK_b (p := p) (by omega)).2
  (conv => whnf)
  (refine drawS tabOk mixed [] ((· ≠ b)) [0, 1, 2, 3, 4, 5, 6, 7, 8, 9, 10, 11, 12, 13] (by kernel_rfl) ?_; rintro w1 rfl; replace hS := hS.drew)
  have hK := hS.ref (· ≠ b)
  (conv => whnf)
  refine IdxC.mk (by omega) (by omega) ?_
  (conv => whnf)
  refine hS.ldF 1 rfl rfl (fun h => h rfl) ?_
  (conv => whnf)
  refine eqS2 ?_
  (conv => whnf)
  refine IdxC.mk (by omega) (by omega) ?_
  (conv => whnf)
  refine hS.ldF 1 rfl rfl (fun h => h rfl) ?_
  (conv => whnf)
  refine eqS2 ?_
  (conv => whnf)
  refine hS.newK hK (fun b13 w' hK hS => KeepC.mk hK ?_)
  (conv => whnf)
  refine hS.stK hK 2 rfl (Nat.le_of_ble_eq_true rfl) rfl (hS.ne 2 1 rfl rfl (by decide)) (fun w' hK hS => KeepC.mk hK ?_)
  replace hS : St w No w' [blk b2 77 (encRule noRule), blk b 9 [.string (bs a), .string (bs b4), .string (bs p), .string (bs n)], blk b13 77 (encRule r)] := by
    rw [← hr]
    exact hS
  clear hK
  (conv => whnf)
  (refine drawS tabOk mixed [] ((· = b2)) [0, 1, 3, 2, 4, 5, 6] (by kernel_rfl) ?_; rintro w1 rfl; replace hS := hS.drew)
  have hK := hS.ref (· = b2)
  (conv => whnf)
  refine hS.laXF 2 rfl rfl (hS.ne 2 0 rfl rfl (by decide)) ?_
  (conv => whnf)
  refine hS.laXF 2 rfl rfl (hS.ne 2 0 rfl rfl (by decide)) ?_
  have hnum : NumR r ∧ 0 ≤ r.proto ∧ r.proto ≤ 2 := by
    rw [← hr]
    exact ⟨⟨i1, i2⟩, by dsimp only; omega, hp2⟩
  (conv => whnf)
  refine (line_ok r hnum.1 hnum.2 _ (ht.no hS.ext) (hP.no hS.ext)).mono ?_
  rintro v w6 ⟨rfl, hx⟩
  replace hS := hS.no hx
  replace hK := hK.trans hx.of_no
  refine KeepC.mk hK ?_
  clear hx
  (conv => whnf)
  refine eqS2 ?_
  (conv => whnf)
  refine hS.stK hK 0 rfl (Nat.le_of_ble_eq_true rfl) rfl rfl (fun w' hK hS => KeepC.mk hK ?_)
  replace hS : St w No w' [blk b2 77 (encRule r), blk b 9 [.string (bs a), .string (bs b4), .string (bs p), .string (bs n)], blk b13 77 (encRule r)] := hS
  (conv => whnf)
  refine hS.laX 0 rfl rfl ?_
  repeat' ((conv => whnf); first | refine RetC.mk ?_ | refine NzC.mk (by decide) ?_ | refine RngC.mk (by omega) (by omega) ?_ | refine IdxC.mk (by omega) (by omega) ?_ | refine brD (fun _ => ?_) (fun _ => ?_) | refine brND (fun _ => ?_) (fun _ => ?_) | refine brN (fun _ => ?_) (fun _ => ?_) | refine brI (fun _ => ?_) (fun _ => ?_))
  refine ⟨⟨r, _, rfl, ?_⟩, hS.ext⟩
  by_cases h : r.line = s
  · rw [if_pos (decide_eq_true h), hiff.1 h]
  · rw [if_neg (fun e => h (of_decide_eq_true e))]
    cases ho : ruleOfS s with
    | none => rfl
    | some q =>
      exfalso
      obtain rfl := ruleOfS_is hw hcut ho
      exact h (hiff.2 (by rw [ho, hr]))
theorem join_mem_len {w sep : List UInt8} : ∀ (ws : List (List UInt8)), w ∈ ws → w.length ≤ (Lib.join ws sep).length
  | [], h => by cases h
  | [x], h => by
    obtain rfl := List.mem_singleton.1 h
    rw [Lib.join_one]
    exact Nat.le_refl _
  | x :: y :: r, h => by
    rw [join_cc, List.length_append, List.length_append]
    rcases List.mem_cons.1 h with rfl | h
    · omega
    · have := join_mem_len (w := w) (sep := sep) (y :: r) h
      omega
theorem cutR_mem_len {c : UInt8} {l w : List UInt8} (h : w ∈ cutR c l) : w.length ≤ l.length := by
  have := join_mem_len (sep := [c]) _ h
  rwa [join_cutR] at this
theorem rulesOfL_step {ts : List (List UInt8)} {k : Nat} {t : List UInt8} (h : ts[k]? = some t) : rulesOfL (ts.drop k) k = match ruleOfS t with
    | some r => (r :: (rulesOfL (ts.drop (k + 1)) (k + 1)).1, (rulesOfL (ts.drop (k + 1)) (k + 1)).2)
    | none => ([], some k) := by
  obtain ⟨lt, e⟩ := List.getElem?_eq_some_iff.1 h
  rw [List.drop_eq_getElem_cons lt, e]
  rfl
theorem trimN_len (s : List UInt8) : (trimN s).length ≤ s.length := by
  unfold trimN
  split
  · rw [List.length_dropLast]
    omega
  · exact Nat.le_refl _
theorem nilR_holds (w : World) : (ownL 77 5 encRule (.slice none 0 0) []).holds w := own_nil _ _ _
theorem preads_ok {E : Nat → Addr} {q : Nat} (s : List UInt8) (w : World) (hl : s.length ≤ 100000) (hM : MaxL w) (hV : NumV w) (ht : Pow10 w) (hP : Protos w) (hE : Errs w E q [1, 2]) :
    CallC Tryz.prog 24 #[.string (bs s)] w fun v w' => (∃ a c e, v = .tuple #[.slice a (rulesOfS s).1.length c, e] ∧ FaultV E w w' e (rulesOfS s).2.1 (rulesOfS s).2.2 ∧ (ownL 77 5 encRule (.slice a (rulesOfS s).1.length c) (rulesOfS s).1).holds w' ∧ Fresh w w' (.slice a (rulesOfS s).1.length c)) ∧ Ext No w w' := by
  have hsz := bs_size s
  refine fn_intro tabOk Tryz.func24 (by kernel_rfl) rfl Tryz.ntmps24 (Nat.le_of_ble_eq_true rfl) ?_
  have hS := St.start w No
  unfold rulesOfS
  (conv => whnf)
  refine brD (fun h1 => ?_) (fun h1 => ?_)
  · rw [if_pos (by omega)]
    repeat' ((conv => whnf); first | refine RetC.mk ?_ | refine NzC.mk (by decide) ?_ | refine RngC.mk (by omega) (by omega) ?_ | refine IdxC.mk (by omega) (by omega) ?_ | (refine drawS tabOk mixed [] (No) [0, 1, 2] (by kernel_rfl) ?_; rintro w1 rfl; replace hS := hS.drew) | refine hS.ldr (hE.at_ 2 rfl) id ?_ | refine hS.ldrF (hE.at_ 2 rfl) id id ?_ | refine brD (fun _ => ?_) (fun _ => ?_) | refine brND (fun _ => ?_) (fun _ => ?_) | refine brN (fun _ => ?_) (fun _ => ?_) | refine brI (fun _ => ?_) (fun _ => ?_))
    exact ⟨⟨none, 0, _, rfl, .inl ⟨rfl, rfl⟩, nilR_holds _, fun g hg => by cases hg⟩, hS.ext⟩
  rw [if_neg (by omega)]
  (conv => whnf)
  refine eqS2 ?_
  (conv => whnf)
  refine brD (fun h2 => ?_) (fun h2 => ?_)
  · rw [if_pos h2]
    repeat' ((conv => whnf); first | refine RetC.mk ?_ | refine NzC.mk (by decide) ?_ | refine RngC.mk (by omega) (by omega) ?_ | refine IdxC.mk (by omega) (by omega) ?_ | refine brD (fun _ => ?_) (fun _ => ?_) | refine brND (fun _ => ?_) (fun _ => ?_) | refine brN (fun _ => ?_) (fun _ => ?_) | refine brI (fun _ => ?_) (fun _ => ?_))
    exact ⟨⟨none, 0, _, rfl, .inl ⟨rfl, rfl⟩, nilR_holds _, fun g hg => by cases hg⟩, hS.ext⟩
  rw [if_neg h2]
  have htl := trimN_len s
  (conv => whnf)
  refine (trim_ok s _ hl).mono ?_
  rintro v w1 ⟨rfl, hx⟩
  replace hS := hS.no hx
  clear hx
  (conv => whnf)
  refine (split_ok (trimN s) 10 _ (by omega) (hM.no hS.ext)).mono ?_
  rintro v w2 ⟨⟨b, rfl, hb, hB⟩, hx⟩
  replace hS := hS.made hx (blk_local _ _ _) hB (by intro c hc; obtain rfl := List.mem_singleton.1 hc; exact ⟨hb, hB.lt⟩)
  clear hx hB hb
  have hcl := cutR_len 10 (trimN s)
  have hmem : ∀ t ∈ cutR 10 (trimN s), t.length ≤ 100000 := fun t h => by
    have := cutR_mem_len h
    omega
  generalize hts : cutR 10 (trimN s) = ts at hS hcl hmem ⊢
  obtain ⟨n, hn⟩ : ∃ n, n = ts.length := ⟨_, rfl⟩
  rw [← hn]
  have hS := hS.add (ownL_local (e := 77) (enc := encRule) (sz := 5) (v := .slice none 0 0) (xs := [])) (nilR_holds _) (by simp [ownL, own, Value.ownBlock]) (by simp [ownL, own, Value.ownBlock])
  (conv => whnf)
  refine loopR tabOk (fun σ w' q => ∃ (k : Nat) (a : Option Addr) (c : Nat) (rs : List RuleS), σ = [(20, .int .i64 (k : Int)), (19, .int .i64 (n : Int)), (18, .slice (some ⟨b, 0, none⟩) n n), (4, .slice a k c)] ∧ q = n - k ∧ k ≤ n ∧ rs.length = k ∧ rulesOfL ts 0 = (rs ++ (rulesOfL (ts.drop k) k).1, (rulesOfL (ts.drop k) k).2) ∧ St w No w' [blk b 9 (ts.map fun l => .string (bs l)), ownL 77 5 encRule (.slice a k c) rs])
    (σ' := [(20, .int .i64 ((0 : Nat) : Int)), (19, .int .i64 (n : Int)), (18, .slice (some ⟨b, 0, none⟩) n n), (4, .slice none 0 0)]) (n := n) ⟨rfl, rfl, rfl, rfl, trivial⟩ ⟨0, none, 0, [], rfl, rfl, Nat.zero_le _, rfl, rfl, hS⟩ ?_
  clear hS
  rintro _ w1 q ⟨k, a, c, rs, rfl, rfl, hk, hrs, hi, hS⟩
  (conv => whnf)
  refine brD (fun h3 => ?_) (fun h3 => ?_)
  · have hkn : k < ts.length := by omega
    have hat := List.getElem?_eq_getElem hkn
    generalize ts[k] = t at hat
    have hst := rulesOfL_step hat
    have htl := hmem t (List.mem_of_getElem? hat)
    have hcell : (ts.map fun l => Value.string (bs l))[0 + k * 1]? = some (.string (bs t)) := by
      rw [Nat.zero_add, Nat.mul_one, List.getElem?_map, hat]
      rfl
    (conv => whnf)
    refine IdxC.mk (by omega) (by omega) ?_
    (conv => whnf)
    refine hS.ld 0 rfl hcell ?_
    (conv => whnf)
    refine (pread_ok t _ htl (hM.no hS.ext) (hV.no hS.ext) (ht.no hS.ext) (hP.no hS.ext)).mono ?_
    rintro v w3 ⟨⟨r, kk, rfl, hr⟩, hx⟩
    replace hS := hS.no hx
    clear hx
    (conv => whnf)
    refine hS.new (fun b7 w' hb7 hS => ?_)
    (conv => whnf)
    refine hS.st 2 rfl (Nat.le_of_ble_eq_true rfl) rfl (fun w' hS => ?_)
    replace hS : St w No w' [blk b 9 (ts.map fun l => .string (bs l)), ownL 77 5 encRule (.slice a k c) rs, blk b7 77 (encRule r)] := hS
    cases kk with
    | false =>
      rw [if_neg (by simp)] at hr
      rw [hr] at hst
      have e1 : (rulesOfL ts 0).2 = some k := by rw [hi, hst]
      rw [e1]
      (conv => whnf)
      (refine drawS tabOk mixed [] (No) [0, 1, 2, 5, 3, 4, 6] (by kernel_rfl) ?_; rintro w1 rfl; replace hS := hS.drew)
      (conv => whnf)
      refine hS.ldrF (hE.at_ 1 rfl) id id ?_
      (conv => whnf)
      refine hS.newK (hS.ref No) (fun f w' hK hS => KeepC.mk hK ?_)
      have hf := hS.fresh 3 rfl
      repeat' ((conv => whnf); first | refine RetC.mk ?_ | refine NzC.mk (by decide) ?_ | refine RngC.mk (by omega) (by omega) ?_ | refine IdxC.mk (by omega) (by omega) ?_ | refine brD (fun _ => ?_) (fun _ => ?_) | refine brND (fun _ => ?_) (fun _ => ?_) | refine brN (fun _ => ?_) (fun _ => ?_) | refine brI (fun _ => ?_) (fun _ => ?_))
      exact ⟨⟨none, 0, _, rfl, .inr ⟨by dsimp only; omega, by dsimp only; omega, f, rfl, hf, hS.blk 3 rfl⟩, nilR_holds _, fun g hg => by cases hg⟩, hS.ext⟩
    | true =>
      rw [if_pos rfl] at hr
      rw [hr] at hst
      dsimp only at hst
      (conv => whnf)
      refine hS.laX 2 rfl rfl ?_
      (conv => whnf)
      refine hS.lit (cs := encRule r) Tryz.underlying43 (sz := 5) (by kernel_rfl) (z := .agg (encRule noRule).toArray) (by kernel_rfl) rfl rfl (by rfl) (fun bl w' hbl hS => ?_)
      have hx : Slc w' 5 encRule (fun _ => True) (some ⟨bl, 0, none⟩) 1 [r] := Slc.of_blk codRule (hS.blk 3 rfl) rfl (by decide) (fun _ _ => trivial) rfl
      (conv => whnf)
      refine hS.appS codRule 1 Tryz.underlying43 (bytes := 32) (by kernel_rfl) (z := .agg (encRule noRule).toArray) (by kernel_rfl) rfl rfl hx (by unfold maxLen; omega) (by omega) (fun a2 c2 w' hS => ?_)
      rw [hrs] at hS ⊢
      replace hS : St w No w' [blk b 9 (ts.map fun l => .string (bs l)), ownL 77 5 encRule (.slice a2 (k + 1) c2) (rs ++ [r]), blk b7 77 (encRule r), blk bl 77 (encRule r)] := hS
      (conv => whnf)
      refine RngC.mk (by omega) (by omega) ?_
      (conv => whnf)
      refine LoopE.mk ⟨_, [(20, .int .i64 ((k + 1 : Nat) : Int)), (19, _), (18, _), (4, _)], ?_, ⟨rfl, rfl, rfl, rfl, trivial⟩, ⟨k + 1, a2, c2, rs ++ [r], rfl, rfl, by omega, by rw [List.length_append, hrs]; rfl, by rw [hi, hst]; simp, hS.keep 2⟩⟩
      omega
  · obtain rfl : k = n := by omega
    rw [List.drop_of_length_le (by omega)] at hi
    have e1 : rulesOfL ts 0 = (rs, none) := by
      rw [hi]
      simp [rulesOfL]
    rw [e1]
    dsimp only
    have hx := ownL_slc (G := fun _ => True) codRule (hS.get 1 rfl) fun _ _ => trivial
    (conv => whnf)
    refine (rcheck_ok hx ((hE.sub rfl).ext hS.ext fun _ h => h.elim)).mono ?_
    rintro v w3 ⟨hf, hx'⟩
    have hle := hS.ext.size
    replace hS := hS.no hx'
    have hcd := fault_code rs
    generalize faultL rs = F at hf hcd ⊢
    obtain ⟨fc, fa⟩ := F
    dsimp only at hf hcd ⊢
    cases fc with
    | succ j =>
      rw [if_pos (by omega)]
      obtain ⟨t, u, rfl⟩ := hf.ne
      repeat' ((conv => whnf); first | refine RetC.mk ?_ | refine NzC.mk (by decide) ?_ | refine RngC.mk (by omega) (by omega) ?_ | refine IdxC.mk (by omega) (by omega) ?_ | refine brD (fun _ => ?_) (fun _ => ?_) | refine brND (fun _ => ?_) (fun _ => ?_) | refine brN (fun _ => ?_) (fun _ => ?_) | refine brI (fun _ => ?_) (fun _ => ?_))
      exact ⟨⟨none, 0, _, rfl, hf.older hle, nilR_holds _, fun g hg => by cases hg⟩, hS.ext⟩
    | zero =>
      rw [if_neg (by omega)]
      obtain rfl : v = .nilIface := by
        rcases hf with ⟨_, h⟩ | ⟨_, h, _⟩
        · exact h
        · omega
      repeat' ((conv => whnf); first | refine RetC.mk ?_ | refine NzC.mk (by decide) ?_ | refine RngC.mk (by omega) (by omega) ?_ | refine IdxC.mk (by omega) (by omega) ?_ | refine brD (fun _ => ?_) (fun _ => ?_) | refine brND (fun _ => ?_) (fun _ => ?_) | refine brN (fun _ => ?_) (fun _ => ?_) | refine brI (fun _ => ?_) (fun _ => ?_))
      rw [← hrs]
      exact ⟨⟨a, c, _, rfl, .inl ⟨rfl, rfl⟩, by rw [hrs]; exact hS.get 1 rfl, by rw [hrs]; exact hS.freshAt 1 rfl⟩, hS.ext⟩
end Go.Proofs.YtcioicoedmmkhaaGreatDoor

namespace Go.Proofs.YtcioicoedmmkhaaGreatDoor
open Go Ev
section
variable {P : Program} {k : Value → Prop} {t : TypeId}
theorem Ev.ltC {kd : IntKind} {a b : Int} (hk : k (.bool (decide (a < b)))) : PureC P (Go.binOp .lss t (.int kd a) (.int kd b)) k :=
  PureC.of (fun w => by simp [Go.binOp, Op.intCmp]) hk
theorem Ev.gtC {kd : IntKind} {a b : Int} (hk : k (.bool (decide (a > b)))) : PureC P (Go.binOp .gtr t (.int kd a) (.int kd b)) k :=
  PureC.of (fun w => by simp [Go.binOp, Op.intCmp]) hk
theorem Ev.subC8 {a b : Nat} (h : b ≤ a) (ha : a < 256) (hk : k (.int .u8 ((a - b : Nat) : Int))) : PureC P (Go.binOp .sub t (.int .u8 (a : Int)) (.int .u8 (b : Int))) k :=
  PureC.of (fun w => by
    rw [show Go.binOp .sub t (.int .u8 (a : Int)) (.int .u8 (b : Int)) = Op.intArith .sub .u8 (a : Int) (b : Int) by simp [Go.binOp]]
    show (pure (Value.int .u8 (IntKind.u8.wrap ((a : Int) - (b : Int)))) : Sem Value).run P w = _
    rw [IntKind.wrap_u8', show ((a : Int) - (b : Int)) = ((a - b : Nat) : Int) by omega, show (((a - b : Nat) : Int)) % 256 = ((a - b : Nat) : Int) by omega]
    rfl) hk
end
theorem valD_lt : ∀ (l : List UInt8), (∀ b ∈ l, isDig b = true) → valD l < 10 ^ l.length := by
  have key : ∀ (l : List UInt8) (acc : Nat), (∀ b ∈ l, isDig b = true) → l.foldl (fun n b => 10 * n + (b.toNat - 48)) acc < (acc + 1) * 10 ^ l.length := by
    intro l
    induction l with
    | nil => intro acc _; simp
    | cons b l ih =>
      intro acc hb
      have hd := isDig_iff.1 (hb b List.mem_cons_self)
      have := ih (10 * acc + (b.toNat - 48)) fun c hc => hb c (List.mem_cons_of_mem _ hc)
      rw [List.foldl_cons, List.length_cons, Nat.pow_succ]
      refine Nat.lt_of_lt_of_le this ?_
      rw [Nat.mul_comm (10 ^ l.length) 10, ← Nat.mul_assoc]
      exact Nat.mul_le_mul_right _ (by omega)
  intro l h
  have := key l 0 h
  rwa [Nat.zero_add, Nat.one_mul] at this
theorem valD_take {s : List UInt8} {k : Nat} {x : UInt8} (h : s[k]? = some x) : valD (s.take (k + 1)) = 10 * valD (s.take k) + (x.toNat - 48) := by
  rw [List.take_add_one, h]
  exact valD_app _ _
theorem take_dig {s : List UInt8} {k : Nat} {x : UInt8} (h : s[k]? = some x) (hx : isDig x = true) (hd : ∀ b ∈ s.take k, isDig b = true) : ∀ b ∈ s.take (k + 1), isDig b = true := by
  rw [List.take_add_one, h]
  intro b hb
  rcases List.mem_append.1 hb with hb | hb
  · exact hd b hb
  · obtain rfl : b = x := by simpa using hb
    exact hx
theorem all_bad {s : List UInt8} {k : Nat} {x : UInt8} (h : s[k]? = some x) (hx : ¬ isDig x = true) : ¬ s.all isDig = true := fun ha => hx (List.all_eq_true.1 ha x (List.mem_of_getElem? h))
theorem numberOf_ok (s : List UInt8) (most : Nat) (hl : s.length ≤ 100000) (hm : most ≤ 18) (w : World) :
    CallC Tryz.prog 59 #[.string (bs s), .int .i64 (most : Int)] w fun v w' => v = .int .i64 (numS s most) ∧ Ext No w w' := by
  have hsz := bs_size s
  unfold numS
  refine fn_intro tabOk Tryz.func59 (by kernel_rfl) rfl Tryz.ntmps59 (Nat.le_of_ble_eq_true rfl) ?_
  have hS := St.start w No
  (conv => whnf)
  refine brD (fun h1 => ?_) (fun h1 => ?_)
  · rw [if_pos (.inl (by omega))]
    repeat' ((conv => whnf); first | refine RetC.mk ?_ | refine NzC.mk (by decide) ?_ | refine RngC.mk (by omega) (by omega) ?_ | refine IdxC.mk (by omega) (by omega) ?_ | refine brD (fun _ => ?_) (fun _ => ?_) | refine brND (fun _ => ?_) (fun _ => ?_) | refine brN (fun _ => ?_) (fun _ => ?_) | refine brI (fun _ => ?_) (fun _ => ?_))
    exact ⟨rfl, hS.ext⟩
  (conv => whnf)
  refine brD (fun h2 => ?_) (fun h2 => ?_)
  · rw [if_pos (.inr (.inl (by omega)))]
    repeat' ((conv => whnf); first | refine RetC.mk ?_ | refine NzC.mk (by decide) ?_ | refine RngC.mk (by omega) (by omega) ?_ | refine IdxC.mk (by omega) (by omega) ?_ | refine brD (fun _ => ?_) (fun _ => ?_) | refine brND (fun _ => ?_) (fun _ => ?_) | refine brN (fun _ => ?_) (fun _ => ?_) | refine brI (fun _ => ?_) (fun _ => ?_))
    exact ⟨rfl, hS.ext⟩
  have main : ∀ {Q : Prop}, (¬ (s.length < 1 ∨ s.length > most ∨ (s.length > 1 ∧ s[0]? = some 48)) → Q) → ¬ (s.length > 1 ∧ s[0]? = some 48) → Q := fun h h3 => h (by
    rintro (h | h | h)
    · omega
    · omega
    · exact h3 h)
  (conv => whnf)
  refine brD (fun h3 => ?_) (fun h3 => ?_)
  · obtain ⟨x, hx⟩ : ∃ x, s[0]? = some x := ⟨_, List.getElem?_eq_getElem (by omega)⟩
    (conv => whnf)
    refine idxS (j := 0) Tryz.underlying9 rfl hx ?_
    (conv => whnf)
    refine eqC ?_
    have hxc : ((x.toNat : Int) == 48) = decide (x = 48) := by
      rw [Bool.eq_iff_iff, beq_iff_eq, decide_eq_true_iff]
      exact ⟨fun h => UInt8.toNat_inj.1 (by show x.toNat = 48; omega), fun h => by rw [h]; rfl⟩
    rw [hxc]
    (conv => whnf)
    refine brD (fun h4 => ?_) (fun h4 => ?_)
    · rw [if_pos (.inr (.inr ⟨by omega, by rw [hx, h4]⟩))]
      repeat' ((conv => whnf); first | refine RetC.mk ?_ | refine NzC.mk (by decide) ?_ | refine RngC.mk (by omega) (by omega) ?_ | refine IdxC.mk (by omega) (by omega) ?_ | refine brD (fun _ => ?_) (fun _ => ?_) | refine brND (fun _ => ?_) (fun _ => ?_) | refine brN (fun _ => ?_) (fun _ => ?_) | refine brI (fun _ => ?_) (fun _ => ?_))
      exact ⟨rfl, hS.ext⟩
    · refine main (fun h => ?_) (fun h => h4 (by have := h.2; rw [hx] at this; exact Option.some.inj this))
      rw [if_neg h]
      (conv => whnf)
      refine loopR tabOk (fun σ w' q => ∃ k : Nat, σ = [(6, .int .i64 (k : Int)), (5, .int .i64 (valD (s.take k) : Nat)), (0, .string (bs s))] ∧ q = s.length - k ∧ k ≤ s.length ∧ (∀ b ∈ s.take k, isDig b = true) ∧ St w No w' [])
        (σ' := [(6, .int .i64 ((0 : Nat) : Int)), (5, .int .i64 ((0 : Nat) : Int)), (0, .string (bs s))]) (n := s.length) ⟨rfl, rfl, rfl, trivial⟩ ⟨0, rfl, rfl, Nat.zero_le _, by simp, hS⟩ ?_
      clear hS
      rintro _ w1 q ⟨k, rfl, rfl, hk, hd, hS⟩
      (conv => whnf)
      refine brD (fun h5 => ?_) (fun h5 => ?_)
      · obtain ⟨x, hx⟩ : ∃ x, s[k]? = some x := ⟨_, List.getElem?_eq_getElem (by omega)⟩
        have hst := valD_take hx
        have hlt : valD (s.take k) < 10 ^ 17 := Nat.lt_of_lt_of_le (valD_lt _ hd) (Nat.pow_le_pow_right (by decide) (by rw [List.length_take]; omega))
        have hxl := x.toNat_lt
        (conv => whnf)
        refine idxS (j := k) Tryz.underlying9 rfl hx ?_
        (conv => whnf)
        refine ltC ?_
        (conv => whnf)
        refine brD (fun h6 => ?_) (fun h6 => ?_)
        · rw [if_neg (all_bad hx (by rw [isDig_iff]; omega))]
          repeat' ((conv => whnf); first | refine RetC.mk ?_ | refine NzC.mk (by decide) ?_ | refine RngC.mk (by omega) (by omega) ?_ | refine IdxC.mk (by omega) (by omega) ?_ | refine brD (fun _ => ?_) (fun _ => ?_) | refine brND (fun _ => ?_) (fun _ => ?_) | refine brN (fun _ => ?_) (fun _ => ?_) | refine brI (fun _ => ?_) (fun _ => ?_))
          exact ⟨rfl, hS.ext⟩
        (conv => whnf)
        refine idxS (j := k) Tryz.underlying9 rfl hx ?_
        (conv => whnf)
        refine gtC ?_
        (conv => whnf)
        refine brD (fun h7 => ?_) (fun h7 => ?_)
        · rw [if_neg (all_bad hx (by rw [isDig_iff]; omega))]
          repeat' ((conv => whnf); first | refine RetC.mk ?_ | refine NzC.mk (by decide) ?_ | refine RngC.mk (by omega) (by omega) ?_ | refine IdxC.mk (by omega) (by omega) ?_ | refine brD (fun _ => ?_) (fun _ => ?_) | refine brND (fun _ => ?_) (fun _ => ?_) | refine brN (fun _ => ?_) (fun _ => ?_) | refine brI (fun _ => ?_) (fun _ => ?_))
          exact ⟨rfl, hS.ext⟩
        (conv => whnf)
        refine RngC.mk (by omega) (by omega) ?_
        (conv => whnf)
        refine idxS (j := k) Tryz.underlying9 rfl hx ?_
        (conv => whnf)
        refine subC8 (b := 48) (by omega) (by omega) ?_
        (conv => whnf)
        refine convI (kd := .i64) (m := ((x.toNat - 48 : Nat) : Int)) (by kernel_rfl) Tryz.underlying3 (by rw [IntKind.wrap_i64]; omega) ?_
        (conv => whnf)
        refine RngC.mk (by omega) (by omega) ?_
        (conv => whnf)
        refine RngC.mk (by omega) (by omega) ?_
        (conv => whnf)
        refine LoopE.mk ⟨_, [(6, .int .i64 ((k + 1 : Nat) : Int)), (5, .int .i64 (valD (s.take (k + 1)) : Nat)), (0, _)], ?_, ⟨rfl, by rw [hst, Int.natCast_add, Int.natCast_mul]; rfl, rfl, trivial⟩, ⟨k + 1, rfl, rfl, by omega, take_dig hx (isDig_iff.2 ⟨by omega, by omega⟩) hd, hS⟩⟩
        omega
      · obtain rfl : k = s.length := by omega
        rw [List.take_length] at hd ⊢
        rw [if_pos (List.all_eq_true.2 hd)]
        repeat' ((conv => whnf); first | refine RetC.mk ?_ | refine NzC.mk (by decide) ?_ | refine RngC.mk (by omega) (by omega) ?_ | refine IdxC.mk (by omega) (by omega) ?_ | refine brD (fun _ => ?_) (fun _ => ?_) | refine brND (fun _ => ?_) (fun _ => ?_) | refine brN (fun _ => ?_) (fun _ => ?_) | refine brI (fun _ => ?_) (fun _ => ?_))
        exact ⟨rfl, hS.ext⟩
  · refine main (fun h => ?_) (fun h => h3 (by have := h.1; omega))
    rw [if_neg h]
    (conv => whnf)
    refine loopR tabOk (fun σ w' q => ∃ k : Nat, σ = [(6, .int .i64 (k : Int)), (5, .int .i64 (valD (s.take k) : Nat)), (0, .string (bs s))] ∧ q = s.length - k ∧ k ≤ s.length ∧ (∀ b ∈ s.take k, isDig b = true) ∧ St w No w' [])
      (σ' := [(6, .int .i64 ((0 : Nat) : Int)), (5, .int .i64 ((0 : Nat) : Int)), (0, .string (bs s))]) (n := s.length) ⟨rfl, rfl, rfl, trivial⟩ ⟨0, rfl, rfl, Nat.zero_le _, by simp, hS⟩ ?_
    clear hS
    rintro _ w1 q ⟨k, rfl, rfl, hk, hd, hS⟩
    (conv => whnf)
    refine brD (fun h5 => ?_) (fun h5 => ?_)
    · obtain ⟨x, hx⟩ : ∃ x, s[k]? = some x := ⟨_, List.getElem?_eq_getElem (by omega)⟩
      have hst := valD_take hx
      have hlt : valD (s.take k) < 10 ^ 17 := Nat.lt_of_lt_of_le (valD_lt _ hd) (Nat.pow_le_pow_right (by decide) (by rw [List.length_take]; omega))
      have hxl := x.toNat_lt
      (conv => whnf)
      refine idxS (j := k) Tryz.underlying9 rfl hx ?_
      (conv => whnf)
      refine ltC ?_
      (conv => whnf)
      refine brD (fun h6 => ?_) (fun h6 => ?_)
      · rw [if_neg (all_bad hx (by rw [isDig_iff]; omega))]
        repeat' ((conv => whnf); first | refine RetC.mk ?_ | refine NzC.mk (by decide) ?_ | refine RngC.mk (by omega) (by omega) ?_ | refine IdxC.mk (by omega) (by omega) ?_ | refine brD (fun _ => ?_) (fun _ => ?_) | refine brND (fun _ => ?_) (fun _ => ?_) | refine brN (fun _ => ?_) (fun _ => ?_) | refine brI (fun _ => ?_) (fun _ => ?_))
        exact ⟨rfl, hS.ext⟩
      (conv => whnf)
      refine idxS (j := k) Tryz.underlying9 rfl hx ?_
      (conv => whnf)
      refine gtC ?_
      (conv => whnf)
      refine brD (fun h7 => ?_) (fun h7 => ?_)
      · rw [if_neg (all_bad hx (by rw [isDig_iff]; omega))]
        repeat' ((conv => whnf); first | refine RetC.mk ?_ | refine NzC.mk (by decide) ?_ | refine RngC.mk (by omega) (by omega) ?_ | refine IdxC.mk (by omega) (by omega) ?_ | refine brD (fun _ => ?_) (fun _ => ?_) | refine brND (fun _ => ?_) (fun _ => ?_) | refine brN (fun _ => ?_) (fun _ => ?_) | refine brI (fun _ => ?_) (fun _ => ?_))
        exact ⟨rfl, hS.ext⟩
      (conv => whnf)
      refine RngC.mk (by omega) (by omega) ?_
      (conv => whnf)
      refine idxS (j := k) Tryz.underlying9 rfl hx ?_
      (conv => whnf)
      refine subC8 (b := 48) (by omega) (by omega) ?_
      (conv => whnf)
      refine convI (kd := .i64) (m := ((x.toNat - 48 : Nat) : Int)) (by kernel_rfl) Tryz.underlying3 (by rw [IntKind.wrap_i64]; omega) ?_
      (conv => whnf)
      refine RngC.mk (by omega) (by omega) ?_
      (conv => whnf)
      refine RngC.mk (by omega) (by omega) ?_
      (conv => whnf)
      refine LoopE.mk ⟨_, [(6, .int .i64 ((k + 1 : Nat) : Int)), (5, .int .i64 (valD (s.take (k + 1)) : Nat)), (0, _)], ?_, ⟨rfl, by rw [hst, Int.natCast_add, Int.natCast_mul]; rfl, rfl, trivial⟩, ⟨k + 1, rfl, rfl, by omega, take_dig hx (isDig_iff.2 ⟨by omega, by omega⟩) hd, hS⟩⟩
      omega
    · obtain rfl : k = s.length := by omega
      rw [List.take_length] at hd ⊢
      rw [if_pos (List.all_eq_true.2 hd)]
      repeat' ((conv => whnf); first | refine RetC.mk ?_ | refine NzC.mk (by decide) ?_ | refine RngC.mk (by omega) (by omega) ?_ | refine IdxC.mk (by omega) (by omega) ?_ | refine brD (fun _ => ?_) (fun _ => ?_) | refine brND (fun _ => ?_) (fun _ => ?_) | refine brN (fun _ => ?_) (fun _ => ?_) | refine brI (fun _ => ?_) (fun _ => ?_))
      exact ⟨rfl, hS.ext⟩
end Go.Proofs.YtcioicoedmmkhaaGreatDoor
