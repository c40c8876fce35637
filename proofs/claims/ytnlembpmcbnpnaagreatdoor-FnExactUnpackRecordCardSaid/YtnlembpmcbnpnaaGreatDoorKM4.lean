/- Part 4 of the proof of laws.FnExactUnpackRecord: contracts of functions that it reaches, and laws of what these compute. No condition beyond what each theorem says. -/
import Derived.Lib.AppendIntMem
import Derived.Lib.Join
import Derived.Shelf.LaysC
import Derived.Shelf.LaysM
import Derived.Shelf.Small.Strs
import Derived.Shelf.Small.Utf8
import Derived.Shelf.Strconv.Atoi
import Derived.Shelf.Strconv.AtoiAll
import Derived.Shelf.Strconv.AtoiErr
import Derived.Shelf.Strconv.AtoiErrFast
import Derived.Shelf.Strconv.AtoiFail
import Derived.Shelf.Strconv.AtoiInnerAll
import Derived.Shelf.Strconv.AtoiLong
import Derived.Shelf.Strconv.Clone
import Derived.Shelf.Strconv.ErrVar
import Derived.Shelf.Strconv.ErrVarAll
import Derived.Shelf.Strconv.ErrVarParseInt
import Derived.Shelf.Strconv.Itoa0
import Derived.Shelf.Strconv.Itoa1
import Derived.Shelf.Strconv.Itoa2
import Derived.Shelf.Strconv.Itoa3
import Derived.Shelf.Strconv.Itoa4
import Derived.Shelf.Strconv.Lower
import Derived.Shelf.Strconv.ParseInt10
import Derived.Shelf.Strconv.ParseInt10All
import Derived.Shelf.Strconv.ParseInt10At16
import Derived.Shelf.Strconv.ParseInt10At32
import Derived.Shelf.Strconv.ParseInt10At64
import Derived.Shelf.Strconv.ParseInt10At8
import Derived.Shelf.Strconv.ParseIntEmpty
import Derived.Shelf.Strconv.ParseIntPublic10
import Derived.Shelf.Strconv.ParseUint10
import Derived.Shelf.Strconv.ParseUint10Any
import Derived.Shelf.Strconv.ParseUint10At
import Derived.Shelf.Strconv.ParseUint10Empty
import Derived.Shelf.Strconv.ParseUint10b16
import Derived.Shelf.Strconv.ParseUint10b32
import Derived.Shelf.Strconv.ParseUint10b64
import Derived.Shelf.Strconv.ParseUint10b8
import Derived.Shelf.Strconv.ParseUintEmpty
import Derived.Shelf.Strconv.RangeError
import Derived.Shelf.Strconv.SyntaxError
import Derived.Shelf.Strconv.ToError
import Derived.Shelf.Strconv.ToErrorRange
import Derived.Shelf.Strings.AsciiSet
import Derived.Shelf.Strings.Builder1
import Derived.Shelf.Strings.Builder2
import Derived.Shelf.Strings.Count
import Derived.Shelf.Strings.Cut
import Derived.Shelf.Strings.IndexAny
import Derived.Shelf.Strings.IndexAnyAll
import Derived.Shelf.Strings.OnBuilder
import Derived.Shelf.Strings.Prefix
import Derived.Shelf.Strings.Runes
import Derived.Shelf.Strings.Search1
import Derived.Shelf.Strings.Search2
import Derived.Shelf.Strings.Search3
import Derived.Shelf.Strings.Shaped
import Derived.Shelf.Strings.Split
import Derived.Shelf.Strings.SplitShaped
import Derived.Shelf.Unicode.DecodeSlow
import Derived.Test.YtnlembpmcbnpnaaGreatDoorProg
import Derived.Test.YtnlembpmcbnpnaaGreatDoorKM1
import Derived.Test.YtnlembpmcbnpnaaGreatDoorKM2
import Derived.Test.YtnlembpmcbnpnaaGreatDoorKM3
/-
  DERIVED: THE SHELF's CONTRACTS AT THIS DUMP, IN PLAIN WORDS (tools/lay-plain.mjs out of 'TryzShelf.lean', which tools/lay-shelf.mjs wrote): THE SAME DECLARATIONS UNDER THE SAME NAMES: 'import', 'namespace', 'open', 'def', 'theorem' AND NOTHING ELSE: no command of the shelf's: FOR A HAND-IN. Each laying: the table of numbers ('.._ren') and one theorem, a field a fact of the dump's own or the kernel's comparison; each contract: ONE APPLICATION.
-/
namespace Go.Proofs
open Go.Shelf
def Tryz.lays156_ren : Go.Shelf.Ren := ⟨fun | 156 => 154 | 165 => 158 | 166 => 159 | 169 => 160 | 240 => 164 | 241 => 165 | 276 => 176 | 277 => 177 | n => n, fun | 31 => 22 | 9 => 9 | 3 => 3 | 4 => 4 | 0 => 0 | 20 => 20 | 72 => 173 | 76 => 93 | 70 => 171 | 37 => 34 | 75 => 90 | 127 => 139 | 164 => 177 | 5 => 5 | 80 => 57 | n => n, fun | n => n⟩
theorem Tryz.lays156 : Go.Proofs.Lays.n156 Tryz.prog Tryz.lays156_ren := {
  mixed := by kernel_rfl
  f156 := Tryz.func154.trans (congrArg some (by kernel_rfl))
  f165 := Tryz.func158.trans (congrArg some (by kernel_rfl))
  f166 := Tryz.func159.trans (congrArg some (by kernel_rfl))
  f169 := Tryz.func160.trans (congrArg some (by kernel_rfl))
  f240 := Tryz.func164.trans (congrArg some (by kernel_rfl))
  f241 := Tryz.func165.trans (congrArg some (by kernel_rfl))
  f276 := Tryz.func176.trans (congrArg some (by kernel_rfl))
  f277 := Tryz.func177.trans (congrArg some (by kernel_rfl))
  t0 := Tryz.underlying0
  a0 := Tryz.isAgg0
  z0 := Tryz.sizeOf0
  v0 := Tryz.zeroValue0
  t3 := Tryz.underlying3
  a3 := Tryz.isAgg3
  z3 := Tryz.sizeOf3
  v3 := Tryz.zeroValue3
  t4 := Tryz.underlying4
  a4 := Tryz.isAgg4
  z4 := Tryz.sizeOf4
  v4 := Tryz.zeroValue4
  t9 := Tryz.underlying9
  a9 := Tryz.isAgg9
  z9 := Tryz.sizeOf9
  v9 := Tryz.zeroValue9
  t20 := Tryz.underlying20
  a20 := Tryz.isAgg20
  z20 := Tryz.sizeOf20
  v20 := Tryz.zeroValue20
  t31 := Tryz.underlying22
  a31 := Tryz.isAgg22
  z31 := Tryz.sizeOf22
  v31 := Tryz.zeroValue22
  t37 := Tryz.underlying34
  a37 := Tryz.isAgg34
  z37 := Tryz.sizeOf34
  v37 := Tryz.zeroValue34
  t70 := Tryz.underlying171
  a70 := Tryz.isAgg171
  z70 := Tryz.sizeOf171
  v70 := Tryz.zeroValue171
  t72 := Tryz.underlying173
  a72 := Tryz.isAgg173
  z72 := Tryz.sizeOf173
  v72 := Tryz.zeroValue173
  t75 := Tryz.underlying90
  a75 := Tryz.isAgg90
  z75 := Tryz.sizeOf90
  v75 := Tryz.zeroValue90
  t76 := Tryz.underlying93
  a76 := Tryz.isAgg93
  z76 := Tryz.sizeOf93
  v76 := Tryz.zeroValue93
  t127 := Tryz.underlying139
  a127 := Tryz.isAgg139
  z127 := Tryz.sizeOf139
  v127 := Tryz.zeroValue139
  t164 := Tryz.underlying177
  a164 := Tryz.isAgg177
  z164 := Tryz.sizeOf177
  v164 := Tryz.zeroValue177 }
theorem Tryz.Builder_Extra_156 : Builder.Extra Tryz.prog Tryz.lays156_ren := {
  sizeBuilder := by kernel_rfl
  liesBuilder := by kernel_rfl
  t5 := Tryz.underlying5
  a5 := Tryz.isAgg5
  z5 := Tryz.sizeOf5
  v5 := Tryz.zeroValue5
  infoByte := by kernel_rfl
  cellsByte := by kernel_rfl
  sizeByte := by kernel_rfl
  neB5 := by decide }
open Go.RowKit in
theorem Tryz.strings_Join_none (a : Option Addr) (c : Nat) (sep : ByteArray) (w : World) :
    Calls Tryz.prog 154 #[.slice a 0 c, .string sep] w fun e w' => e = .returned (.string ⟨#[]⟩) ∧ w' = w := Any.strings_Join_none Tryz.lays156 Tryz.Builder_Extra_156 a c sep w
open Go.RowKit in
theorem Tryz.strings_Join (bk o c : Nat) (xs : List ByteArray) (sep : ByteArray) (w : World) (hcells : ∀ (j : Nat) x, xs[j]? = some x → w.cell? ⟨bk, o + j, none⟩ = some (.string x)) (hbk : bk < w.heap.size) (hN : xs.length ≤ 140737488355328) (hcap : xs.length ≤ c) (hlen : (Lib.join (xs.map (·.data.toList)) sep.data.toList).length ≤ 140737488355328) :
    Calls Tryz.prog 154 #[.slice (some ⟨bk, o, none⟩) xs.length c, .string sep] w fun e w' => e = .returned (.string ⟨(Lib.join (xs.map (·.data.toList)) sep.data.toList).toArray⟩) ∧ Below w.heap.size w w' := Any.strings_Join Tryz.lays156 Tryz.Builder_Extra_156 bk o c xs sep w hcells hbk hN hcap hlen
def Tryz.lays119_ren : Go.Shelf.Ren := ⟨fun | 119 => 191 | n => n, fun | 21 => 21 | 4 => 4 | n => n, fun | n => n⟩
theorem Tryz.lays119 : Go.Proofs.Lays.n119 Tryz.prog Tryz.lays119_ren := {
  mixed := by kernel_rfl
  f119 := Tryz.func191.trans (congrArg some (by kernel_rfl))
  t4 := Tryz.underlying4
  a4 := Tryz.isAgg4
  z4 := Tryz.sizeOf4
  v4 := Tryz.zeroValue4
  t21 := Tryz.underlying21
  a21 := Tryz.isAgg21
  z21 := Tryz.sizeOf21
  v21 := Tryz.zeroValue21 }
theorem Tryz.utf8_ValidRune (r : Int) (w : World) :
    Calls Tryz.prog 191 #[.int .i32 r] w fun e w' => e = .returned (.bool (Lib.validRune r)) ∧ w' = w := Any.utf8_ValidRune Tryz.lays119 r w
def Tryz.lays137_ren : Go.Shelf.Ren := ⟨fun | 137 => 172 | 217 => 108 | 266 => 118 | n => n, fun | 9 => 9 | 5 => 5 | 3 => 3 | n => n, fun | n => n⟩
theorem Tryz.lays137 : Go.Proofs.Lays.n137 Tryz.prog Tryz.lays137_ren := {
  mixed := by kernel_rfl
  f137 := Tryz.func172.trans (congrArg some (by kernel_rfl))
  f217 := Tryz.func108.trans (congrArg some (by kernel_rfl))
  f266 := Tryz.func118.trans (congrArg some (by kernel_rfl))
  t3 := Tryz.underlying3
  a3 := Tryz.isAgg3
  z3 := Tryz.sizeOf3
  v3 := Tryz.zeroValue3
  t5 := Tryz.underlying5
  a5 := Tryz.isAgg5
  z5 := Tryz.sizeOf5
  v5 := Tryz.zeroValue5
  t9 := Tryz.underlying9
  a9 := Tryz.isAgg9
  z9 := Tryz.sizeOf9
  v9 := Tryz.zeroValue9 }
open Go.RowKit in
theorem Tryz.strings_IndexByte (s : ByteArray) (c : Int) (w : World) :
    Calls Tryz.prog 172 #[.string s, .int .u8 c] w fun e w' => e = .returned (.int .i64 (Lib.indexByte s.data.toList c.toNat.toUInt8)) ∧ w' = w := Any.strings_IndexByte Tryz.lays137 s c w
def Tryz.laysM171_ren : Go.Shelf.Ren := ⟨fun | 171 => 116 | 243 => 120 | 246 => 121 | 283 => 122 | 284 => 123 | 285 => 124 | 286 => 125 | 129 => 127 | 317 => 126 | 318 => 128 | 319 => 129 | 320 => 130 | 337 => 131 | 338 => 132 | n => n, fun | 3 => 3 | 9 => 9 | 2 => 2 | 4 => 4 | 171 => 144 | 0 => 0 | 53 => 123 | 37 => 34 | 5 => 5 | 173 => 147 | 212 => 150 | 51 => 136 | 20 => 20 | 213 => 151 | 46 => 117 | 232 => 154 | 233 => 155 | n => n, fun | 17 => 3 | 18 => 4 | 19 => 5 | n => n⟩
theorem Tryz.laysM171 : Go.Proofs.LaysM.n171 Tryz.prog Tryz.laysM171_ren := {
  mixed := by kernel_rfl
  f129 := Tryz.func127.trans (congrArg some (by kernel_rfl))
  f171 := Tryz.func116.trans (congrArg some (by kernel_rfl))
  f243 := Tryz.func120.trans (congrArg some (by kernel_rfl))
  f246 := Tryz.func121.trans (congrArg some (by kernel_rfl))
  f283 := Tryz.func122.trans (congrArg some (by kernel_rfl))
  f284 := Tryz.func123.trans (congrArg some (by kernel_rfl))
  f285 := Tryz.func124.trans (congrArg some (by kernel_rfl))
  f286 := Tryz.func125.trans (congrArg some (by kernel_rfl))
  f317 := Tryz.func126.trans (congrArg some (by kernel_rfl))
  f318 := Tryz.func128.trans (congrArg some (by kernel_rfl))
  f319 := Tryz.func129.trans (congrArg some (by kernel_rfl))
  f320 := Tryz.func130.trans (congrArg some (by kernel_rfl))
  f337 := Tryz.func131.trans (congrArg some (by kernel_rfl))
  f338 := Tryz.func132.trans (congrArg some (by kernel_rfl))
  t0 := Tryz.underlying0
  a0 := Tryz.isAgg0
  z0 := Tryz.sizeOf0
  v0 := Tryz.zeroValue0
  t2 := Tryz.underlying2
  a2 := Tryz.isAgg2
  z2 := Tryz.sizeOf2
  v2 := Tryz.zeroValue2
  t3 := Tryz.underlying3
  a3 := Tryz.isAgg3
  z3 := Tryz.sizeOf3
  v3 := Tryz.zeroValue3
  t4 := Tryz.underlying4
  a4 := Tryz.isAgg4
  z4 := Tryz.sizeOf4
  v4 := Tryz.zeroValue4
  t5 := Tryz.underlying5
  a5 := Tryz.isAgg5
  z5 := Tryz.sizeOf5
  v5 := Tryz.zeroValue5
  t9 := Tryz.underlying9
  a9 := Tryz.isAgg9
  z9 := Tryz.sizeOf9
  v9 := Tryz.zeroValue9
  t20 := Tryz.underlying20
  a20 := Tryz.isAgg20
  z20 := Tryz.sizeOf20
  v20 := Tryz.zeroValue20
  t37 := Tryz.underlying34
  a37 := Tryz.isAgg34
  z37 := Tryz.sizeOf34
  v37 := Tryz.zeroValue34
  t46 := Tryz.underlying117
  a46 := Tryz.isAgg117
  z46 := Tryz.sizeOf117
  v46 := Tryz.zeroValue117
  t51 := Tryz.underlying136
  a51 := Tryz.isAgg136
  z51 := Tryz.sizeOf136
  v51 := Tryz.zeroValue136
  t53 := Tryz.underlying123
  a53 := Tryz.isAgg123
  z53 := Tryz.sizeOf123
  v53 := Tryz.zeroValue123
  t171 := Tryz.underlying144
  a171 := Tryz.isAgg144
  z171 := Tryz.sizeOf144
  v171 := Tryz.zeroValue144
  t173 := Tryz.underlying147
  a173 := Tryz.isAgg147
  z173 := Tryz.sizeOf147
  v173 := Tryz.zeroValue147
  t212 := Tryz.underlying150
  a212 := Tryz.isAgg150
  z212 := Tryz.sizeOf150
  v212 := Tryz.zeroValue150
  t213 := Tryz.underlying151
  a213 := Tryz.isAgg151
  z213 := Tryz.sizeOf151
  t232 := Tryz.underlying154
  a232 := Tryz.isAgg154
  z232 := Tryz.sizeOf154
  v232 := Tryz.zeroValue154
  t233 := Tryz.underlying155
  a233 := Tryz.isAgg155
  z233 := Tryz.sizeOf155
  v233 := Tryz.zeroValue155
  g17 := by kernel_rfl
  g18 := by kernel_rfl
  g19 := by kernel_rfl
  i0 := by kernel_rfl
  i2 := by kernel_rfl
  i3 := by kernel_rfl
  i4 := by kernel_rfl
  i5 := by kernel_rfl
  i9 := by kernel_rfl
  i20 := by kernel_rfl
  i37 := by kernel_rfl
  i46 := by kernel_rfl
  i51 := by kernel_rfl
  i53 := by kernel_rfl
  i171 := by kernel_rfl
  i173 := by kernel_rfl
  i212 := by kernel_rfl
  i232 := by kernel_rfl
  i233 := by kernel_rfl
  m17 := by kernel_rfl
  m18 := by kernel_rfl
  m19 := by kernel_rfl }
open Go.RowKit Go.Sort Go.Lib in
theorem Tryz.strconv_Itoa (n : Int) (h0 : -9223372036854775808 ≤ n) (h1 : n ≤ 9223372036854775807) (w : World) (htab : Lib.TabIs Tryz.prog w "internal/strconv.uint64pow10" .u64 Lib.pow10Tab) :
    Calls Tryz.prog 116 #[.int .i64 n] w fun e w' => e = .returned (.string ⟨(Lib.itoa n).toArray⟩) ∧ ∃ k os, w' = grow (w.drewN k) os := Any.strconv_Itoa Tryz.laysM171 n h0 h1 w htab
def Tryz.laysM173_ren : Go.Shelf.Ren := ⟨fun | 173 => 157 | 246 => 121 | 283 => 122 | 284 => 123 | 285 => 124 | 286 => 125 | 129 => 127 | 317 => 126 | 318 => 128 | 319 => 129 | 320 => 130 | 337 => 131 | 338 => 132 | n => n, fun | 2 => 2 | 3 => 3 | 9 => 9 | 4 => 4 | 171 => 144 | 0 => 0 | 53 => 123 | 37 => 34 | 5 => 5 | 173 => 147 | 212 => 150 | 51 => 136 | 20 => 20 | 213 => 151 | 46 => 117 | 232 => 154 | 233 => 155 | n => n, fun | 17 => 3 | 18 => 4 | 19 => 5 | n => n⟩
theorem Tryz.laysM173 : Go.Proofs.LaysM.n173 Tryz.prog Tryz.laysM173_ren := {
  mixed := by kernel_rfl
  f129 := Tryz.func127.trans (congrArg some (by kernel_rfl))
  f173 := Tryz.func157.trans (congrArg some (by kernel_rfl))
  f246 := Tryz.func121.trans (congrArg some (by kernel_rfl))
  f283 := Tryz.func122.trans (congrArg some (by kernel_rfl))
  f284 := Tryz.func123.trans (congrArg some (by kernel_rfl))
  f285 := Tryz.func124.trans (congrArg some (by kernel_rfl))
  f286 := Tryz.func125.trans (congrArg some (by kernel_rfl))
  f317 := Tryz.func126.trans (congrArg some (by kernel_rfl))
  f318 := Tryz.func128.trans (congrArg some (by kernel_rfl))
  f319 := Tryz.func129.trans (congrArg some (by kernel_rfl))
  f320 := Tryz.func130.trans (congrArg some (by kernel_rfl))
  f337 := Tryz.func131.trans (congrArg some (by kernel_rfl))
  f338 := Tryz.func132.trans (congrArg some (by kernel_rfl))
  t0 := Tryz.underlying0
  a0 := Tryz.isAgg0
  z0 := Tryz.sizeOf0
  v0 := Tryz.zeroValue0
  t2 := Tryz.underlying2
  a2 := Tryz.isAgg2
  z2 := Tryz.sizeOf2
  v2 := Tryz.zeroValue2
  t3 := Tryz.underlying3
  a3 := Tryz.isAgg3
  z3 := Tryz.sizeOf3
  v3 := Tryz.zeroValue3
  t4 := Tryz.underlying4
  a4 := Tryz.isAgg4
  z4 := Tryz.sizeOf4
  v4 := Tryz.zeroValue4
  t5 := Tryz.underlying5
  a5 := Tryz.isAgg5
  z5 := Tryz.sizeOf5
  v5 := Tryz.zeroValue5
  t9 := Tryz.underlying9
  a9 := Tryz.isAgg9
  z9 := Tryz.sizeOf9
  v9 := Tryz.zeroValue9
  t20 := Tryz.underlying20
  a20 := Tryz.isAgg20
  z20 := Tryz.sizeOf20
  v20 := Tryz.zeroValue20
  t37 := Tryz.underlying34
  a37 := Tryz.isAgg34
  z37 := Tryz.sizeOf34
  v37 := Tryz.zeroValue34
  t46 := Tryz.underlying117
  a46 := Tryz.isAgg117
  z46 := Tryz.sizeOf117
  v46 := Tryz.zeroValue117
  t51 := Tryz.underlying136
  a51 := Tryz.isAgg136
  z51 := Tryz.sizeOf136
  v51 := Tryz.zeroValue136
  t53 := Tryz.underlying123
  a53 := Tryz.isAgg123
  z53 := Tryz.sizeOf123
  v53 := Tryz.zeroValue123
  t171 := Tryz.underlying144
  a171 := Tryz.isAgg144
  z171 := Tryz.sizeOf144
  v171 := Tryz.zeroValue144
  t173 := Tryz.underlying147
  a173 := Tryz.isAgg147
  z173 := Tryz.sizeOf147
  v173 := Tryz.zeroValue147
  t212 := Tryz.underlying150
  a212 := Tryz.isAgg150
  z212 := Tryz.sizeOf150
  v212 := Tryz.zeroValue150
  t213 := Tryz.underlying151
  a213 := Tryz.isAgg151
  z213 := Tryz.sizeOf151
  t232 := Tryz.underlying154
  a232 := Tryz.isAgg154
  z232 := Tryz.sizeOf154
  v232 := Tryz.zeroValue154
  t233 := Tryz.underlying155
  a233 := Tryz.isAgg155
  z233 := Tryz.sizeOf155
  v233 := Tryz.zeroValue155
  g17 := by kernel_rfl
  g18 := by kernel_rfl
  g19 := by kernel_rfl
  i0 := by kernel_rfl
  i2 := by kernel_rfl
  i3 := by kernel_rfl
  i4 := by kernel_rfl
  i5 := by kernel_rfl
  i9 := by kernel_rfl
  i20 := by kernel_rfl
  i37 := by kernel_rfl
  i46 := by kernel_rfl
  i51 := by kernel_rfl
  i53 := by kernel_rfl
  i171 := by kernel_rfl
  i173 := by kernel_rfl
  i212 := by kernel_rfl
  i232 := by kernel_rfl
  i233 := by kernel_rfl
  m17 := by kernel_rfl
  m18 := by kernel_rfl
  m19 := by kernel_rfl }
open Go.RowKit Go.Sort Go.Lib in
theorem Tryz.strconv_FormatInt_10 (n : Int) (h0 : -9223372036854775808 ≤ n) (h1 : n ≤ 9223372036854775807) (w : World) (htab : Lib.TabIs Tryz.prog w "internal/strconv.uint64pow10" .u64 Lib.pow10Tab) :
    Calls Tryz.prog 157 #[.int .i64 n, .int .i64 10] w fun e w' => e = .returned (.string ⟨(Lib.itoa n).toArray⟩) ∧ ∃ k os, w' = grow (w.drewN k) os := Any.strconv_FormatInt_10 Tryz.laysM173 n h0 h1 w htab
def Tryz.laysC172_ren : Go.Shelf.Ren := ⟨fun | 172 => 63 | 244 => 85 | 245 => 84 | 247 => 83 | 279 => 99 | 280 => 100 | 281 => 101 | 282 => 102 | 287 => 98 | 316 => 114 | 171 => 116 | 205 => 115 | 321 => 112 | 322 => 113 | 243 => 120 | 246 => 121 | 283 => 122 | 284 => 123 | 285 => 124 | 286 => 125 | 129 => 127 | 317 => 126 | 318 => 128 | 319 => 129 | 320 => 130 | 337 => 131 | 338 => 132 | n => n, fun | 9 => 9 | 3 => 3 | 75 => 90 | 76 => 93 | 4 => 4 | 5 => 5 | 167 => 122 | 37 => 34 | 0 => 0 | 85 => 91 | 2 => 2 | 168 => 126 | 53 => 123 | 175 => 124 | 46 => 117 | 210 => 134 | 127 => 139 | 145 => 142 | 143 => 140 | 21 => 21 | 171 => 144 | 173 => 147 | 212 => 150 | 51 => 136 | 20 => 20 | 213 => 151 | 232 => 154 | 233 => 155 | 80 => 57 | n => n, fun | 15 => 1 | 16 => 2 | 17 => 3 | 18 => 4 | 19 => 5 | n => n⟩
theorem Tryz.laysC172 : Go.Proofs.LaysC.n172 Tryz.prog Tryz.laysC172_ren := {
  mixed := by kernel_rfl
  f129 := Tryz.func127.trans (congrArg some (by kernel_rfl))
  f171 := Tryz.func116.trans (congrArg some (by kernel_rfl))
  f172 := Tryz.func63.trans (congrArg some (by kernel_rfl))
  f205 := Tryz.func115.trans (congrArg some (by kernel_rfl))
  f243 := Tryz.func120.trans (congrArg some (by kernel_rfl))
  f244 := Tryz.func85.trans (congrArg some (by kernel_rfl))
  f245 := Tryz.func84.trans (congrArg some (by kernel_rfl))
  f246 := Tryz.func121.trans (congrArg some (by kernel_rfl))
  f247 := Tryz.func83.trans (congrArg some (by kernel_rfl))
  f279 := Tryz.func99.trans (congrArg some (by kernel_rfl))
  f280 := Tryz.func100.trans (congrArg some (by kernel_rfl))
  f281 := Tryz.func101.trans (congrArg some (by kernel_rfl))
  f282 := Tryz.func102.trans (congrArg some (by kernel_rfl))
  f283 := Tryz.func122.trans (congrArg some (by kernel_rfl))
  f284 := Tryz.func123.trans (congrArg some (by kernel_rfl))
  f285 := Tryz.func124.trans (congrArg some (by kernel_rfl))
  f286 := Tryz.func125.trans (congrArg some (by kernel_rfl))
  f287 := Tryz.func98.trans (congrArg some (by kernel_rfl))
  f316 := Tryz.func114.trans (congrArg some (by kernel_rfl))
  f317 := Tryz.func126.trans (congrArg some (by kernel_rfl))
  f318 := Tryz.func128.trans (congrArg some (by kernel_rfl))
  f319 := Tryz.func129.trans (congrArg some (by kernel_rfl))
  f320 := Tryz.func130.trans (congrArg some (by kernel_rfl))
  f321 := Tryz.func112.trans (congrArg some (by kernel_rfl))
  f322 := Tryz.func113.trans (congrArg some (by kernel_rfl))
  f337 := Tryz.func131.trans (congrArg some (by kernel_rfl))
  f338 := Tryz.func132.trans (congrArg some (by kernel_rfl))
  t0 := Tryz.underlying0
  a0 := Tryz.isAgg0
  z0 := Tryz.sizeOf0
  v0 := Tryz.zeroValue0
  t2 := Tryz.underlying2
  a2 := Tryz.isAgg2
  z2 := Tryz.sizeOf2
  v2 := Tryz.zeroValue2
  t3 := Tryz.underlying3
  a3 := Tryz.isAgg3
  z3 := Tryz.sizeOf3
  v3 := Tryz.zeroValue3
  t4 := Tryz.underlying4
  a4 := Tryz.isAgg4
  z4 := Tryz.sizeOf4
  v4 := Tryz.zeroValue4
  t5 := Tryz.underlying5
  a5 := Tryz.isAgg5
  z5 := Tryz.sizeOf5
  v5 := Tryz.zeroValue5
  t9 := Tryz.underlying9
  a9 := Tryz.isAgg9
  z9 := Tryz.sizeOf9
  v9 := Tryz.zeroValue9
  t20 := Tryz.underlying20
  a20 := Tryz.isAgg20
  z20 := Tryz.sizeOf20
  v20 := Tryz.zeroValue20
  t21 := Tryz.underlying21
  a21 := Tryz.isAgg21
  z21 := Tryz.sizeOf21
  v21 := Tryz.zeroValue21
  t37 := Tryz.underlying34
  a37 := Tryz.isAgg34
  z37 := Tryz.sizeOf34
  v37 := Tryz.zeroValue34
  t46 := Tryz.underlying117
  a46 := Tryz.isAgg117
  z46 := Tryz.sizeOf117
  v46 := Tryz.zeroValue117
  t51 := Tryz.underlying136
  a51 := Tryz.isAgg136
  z51 := Tryz.sizeOf136
  v51 := Tryz.zeroValue136
  t53 := Tryz.underlying123
  a53 := Tryz.isAgg123
  z53 := Tryz.sizeOf123
  v53 := Tryz.zeroValue123
  t75 := Tryz.underlying90
  a75 := Tryz.isAgg90
  z75 := Tryz.sizeOf90
  v75 := Tryz.zeroValue90
  t76 := Tryz.underlying93
  a76 := Tryz.isAgg93
  z76 := Tryz.sizeOf93
  v76 := Tryz.zeroValue93
  t85 := Tryz.underlying91
  a85 := Tryz.isAgg91
  z85 := Tryz.sizeOf91
  v85 := Tryz.zeroValue91
  t127 := Tryz.underlying139
  a127 := Tryz.isAgg139
  z127 := Tryz.sizeOf139
  v127 := Tryz.zeroValue139
  t143 := Tryz.underlying140
  a143 := Tryz.isAgg140
  z143 := Tryz.sizeOf140
  v143 := Tryz.zeroValue140
  t145 := Tryz.underlying142
  a145 := Tryz.isAgg142
  z145 := Tryz.sizeOf142
  v145 := Tryz.zeroValue142
  t167 := Tryz.underlying122
  a167 := Tryz.isAgg122
  z167 := Tryz.sizeOf122
  v167 := Tryz.zeroValue122
  t168 := Tryz.underlying126
  a168 := Tryz.isAgg126
  z168 := Tryz.sizeOf126
  v168 := Tryz.zeroValue126
  t171 := Tryz.underlying144
  a171 := Tryz.isAgg144
  z171 := Tryz.sizeOf144
  v171 := Tryz.zeroValue144
  t173 := Tryz.underlying147
  a173 := Tryz.isAgg147
  z173 := Tryz.sizeOf147
  v173 := Tryz.zeroValue147
  t175 := Tryz.underlying124
  a175 := Tryz.isAgg124
  z175 := Tryz.sizeOf124
  v175 := Tryz.zeroValue124
  t210 := Tryz.underlying134
  a210 := Tryz.isAgg134
  z210 := Tryz.sizeOf134
  v210 := Tryz.zeroValue134
  t212 := Tryz.underlying150
  a212 := Tryz.isAgg150
  z212 := Tryz.sizeOf150
  v212 := Tryz.zeroValue150
  t213 := Tryz.underlying151
  a213 := Tryz.isAgg151
  z213 := Tryz.sizeOf151
  t232 := Tryz.underlying154
  a232 := Tryz.isAgg154
  z232 := Tryz.sizeOf154
  v232 := Tryz.zeroValue154
  t233 := Tryz.underlying155
  a233 := Tryz.isAgg155
  z233 := Tryz.sizeOf155
  v233 := Tryz.zeroValue155
  g15 := by kernel_rfl
  g16 := by kernel_rfl
  g17 := by kernel_rfl
  g18 := by kernel_rfl
  g19 := by kernel_rfl
  t80 := Tryz.underlying57
  a80 := Tryz.isAgg57
  z80 := Tryz.sizeOf57
  v80 := Tryz.zeroValue57
  i0 := by kernel_rfl
  i2 := by kernel_rfl
  i3 := by kernel_rfl
  i4 := by kernel_rfl
  i5 := by kernel_rfl
  i9 := by kernel_rfl
  i20 := by kernel_rfl
  i21 := by kernel_rfl
  i37 := by kernel_rfl
  i46 := by kernel_rfl
  i51 := by kernel_rfl
  i53 := by kernel_rfl
  i75 := by kernel_rfl
  i76 := by kernel_rfl
  i80 := by kernel_rfl
  i85 := by kernel_rfl
  i127 := by kernel_rfl
  i143 := by kernel_rfl
  i145 := by kernel_rfl
  i167 := by kernel_rfl
  i168 := by kernel_rfl
  i171 := by kernel_rfl
  i173 := by kernel_rfl
  i175 := by kernel_rfl
  i210 := by kernel_rfl
  i212 := by kernel_rfl
  i232 := by kernel_rfl
  i233 := by kernel_rfl
  m15 := by kernel_rfl
  m16 := by kernel_rfl
  m17 := by kernel_rfl
  m18 := by kernel_rfl
  m19 := by kernel_rfl
  c0 := by kernel_rfl
  c2 := by kernel_rfl
  c3 := by kernel_rfl
  c4 := by kernel_rfl
  c5 := by kernel_rfl
  c9 := by kernel_rfl
  c20 := by kernel_rfl
  c21 := by kernel_rfl
  c37 := by kernel_rfl
  c46 := by kernel_rfl
  c51 := by kernel_rfl
  c53 := by kernel_rfl
  c75 := by kernel_rfl
  c76 := by kernel_rfl
  c80 := by kernel_rfl
  c85 := by kernel_rfl
  c127 := by kernel_rfl
  c143 := by kernel_rfl
  c145 := by kernel_rfl
  c167 := by kernel_rfl
  c168 := by kernel_rfl
  c171 := by kernel_rfl
  c173 := by kernel_rfl
  c175 := by kernel_rfl
  c210 := by kernel_rfl
  c212 := by kernel_rfl
  c213 := by kernel_rfl
  c232 := by kernel_rfl
  c233 := by kernel_rfl }
open Go.RowKit in
theorem Tryz.strconv_Atoi_ok (s : ByteArray) (hmax : s.size ≤ 9223372036854775806) (v : Int) (h : Lib.atoiAll s.data.toList = .ok v) (w : World) :
    Calls Tryz.prog 63 #[.string s] w fun e w' => e = .returned (.tuple #[.int .i64 v, .nilIface]) ∧ (w' = w ∨ ∃ t, w' = Lib.bytesWorld w 5 t) := Any.strconv_Atoi_ok Tryz.laysC172 s hmax v h w
open Go.RowKit in
theorem Tryz.strconv_Atoi_range (s : ByteArray) (hlim : s.size ≤ 281474976710656) (h : Lib.atoiAll s.data.toList = .range) (ev : Value) (w : World) (hv : w.cell? ⟨2, 0, none⟩ = some ev) (hev : ev = .nilIface ∨ ∃ te pe, ev = .iface te pe) :
    Calls Tryz.prog 63 #[.string s] w fun e w' => ∃ N, e = .returned (.tuple #[.int .i64 (Lib.atoiSat s.data.toList), .iface 126 (.pointer (some ⟨N, 0, none⟩))]) ∧ w.heap.size ≤ N ∧ w'.heap[N]? = some (.cells #[.string ⟨#[65, 116, 111, 105]⟩, .string s, ev] 134 (0, 0)) ∧ Below w.heap.size w w' := Any.strconv_Atoi_range Tryz.laysC172 s hlim h ev w hv hev
def Tryz.laysC174_ren : Go.Shelf.Ren := ⟨fun | 174 => 62 | 247 => 83 | 245 => 84 | 287 => 98 | 279 => 99 | 280 => 100 | 281 => 101 | 282 => 102 | 321 => 112 | 322 => 113 | 316 => 114 | 171 => 116 | 205 => 115 | 243 => 120 | 246 => 121 | 283 => 122 | 284 => 123 | 285 => 124 | 286 => 125 | 129 => 127 | 317 => 126 | 318 => 128 | 319 => 129 | 320 => 130 | 337 => 131 | 338 => 132 | n => n, fun | 9 => 9 | 3 => 3 | 2 => 2 | 75 => 90 | 85 => 91 | 4 => 4 | 167 => 122 | 5 => 5 | 53 => 123 | 175 => 124 | 46 => 117 | 168 => 126 | 37 => 34 | 0 => 0 | 210 => 134 | 21 => 21 | 127 => 139 | 145 => 142 | 143 => 140 | 171 => 144 | 173 => 147 | 212 => 150 | 51 => 136 | 20 => 20 | 213 => 151 | 232 => 154 | 233 => 155 | 80 => 57 | n => n, fun | 15 => 1 | 16 => 2 | 17 => 3 | 18 => 4 | 19 => 5 | n => n⟩
theorem Tryz.laysC174 : Go.Proofs.LaysC.n174 Tryz.prog Tryz.laysC174_ren := {
  mixed := by kernel_rfl
  f129 := Tryz.func127.trans (congrArg some (by kernel_rfl))
  f171 := Tryz.func116.trans (congrArg some (by kernel_rfl))
  f174 := Tryz.func62.trans (congrArg some (by kernel_rfl))
  f205 := Tryz.func115.trans (congrArg some (by kernel_rfl))
  f243 := Tryz.func120.trans (congrArg some (by kernel_rfl))
  f245 := Tryz.func84.trans (congrArg some (by kernel_rfl))
  f246 := Tryz.func121.trans (congrArg some (by kernel_rfl))
  f247 := Tryz.func83.trans (congrArg some (by kernel_rfl))
  f279 := Tryz.func99.trans (congrArg some (by kernel_rfl))
  f280 := Tryz.func100.trans (congrArg some (by kernel_rfl))
  f281 := Tryz.func101.trans (congrArg some (by kernel_rfl))
  f282 := Tryz.func102.trans (congrArg some (by kernel_rfl))
  f283 := Tryz.func122.trans (congrArg some (by kernel_rfl))
  f284 := Tryz.func123.trans (congrArg some (by kernel_rfl))
  f285 := Tryz.func124.trans (congrArg some (by kernel_rfl))
  f286 := Tryz.func125.trans (congrArg some (by kernel_rfl))
  f287 := Tryz.func98.trans (congrArg some (by kernel_rfl))
  f316 := Tryz.func114.trans (congrArg some (by kernel_rfl))
  f317 := Tryz.func126.trans (congrArg some (by kernel_rfl))
  f318 := Tryz.func128.trans (congrArg some (by kernel_rfl))
  f319 := Tryz.func129.trans (congrArg some (by kernel_rfl))
  f320 := Tryz.func130.trans (congrArg some (by kernel_rfl))
  f321 := Tryz.func112.trans (congrArg some (by kernel_rfl))
  f322 := Tryz.func113.trans (congrArg some (by kernel_rfl))
  f337 := Tryz.func131.trans (congrArg some (by kernel_rfl))
  f338 := Tryz.func132.trans (congrArg some (by kernel_rfl))
  t0 := Tryz.underlying0
  a0 := Tryz.isAgg0
  z0 := Tryz.sizeOf0
  v0 := Tryz.zeroValue0
  t2 := Tryz.underlying2
  a2 := Tryz.isAgg2
  z2 := Tryz.sizeOf2
  v2 := Tryz.zeroValue2
  t3 := Tryz.underlying3
  a3 := Tryz.isAgg3
  z3 := Tryz.sizeOf3
  v3 := Tryz.zeroValue3
  t4 := Tryz.underlying4
  a4 := Tryz.isAgg4
  z4 := Tryz.sizeOf4
  v4 := Tryz.zeroValue4
  t5 := Tryz.underlying5
  a5 := Tryz.isAgg5
  z5 := Tryz.sizeOf5
  v5 := Tryz.zeroValue5
  t9 := Tryz.underlying9
  a9 := Tryz.isAgg9
  z9 := Tryz.sizeOf9
  v9 := Tryz.zeroValue9
  t20 := Tryz.underlying20
  a20 := Tryz.isAgg20
  z20 := Tryz.sizeOf20
  v20 := Tryz.zeroValue20
  t21 := Tryz.underlying21
  a21 := Tryz.isAgg21
  z21 := Tryz.sizeOf21
  v21 := Tryz.zeroValue21
  t37 := Tryz.underlying34
  a37 := Tryz.isAgg34
  z37 := Tryz.sizeOf34
  v37 := Tryz.zeroValue34
  t46 := Tryz.underlying117
  a46 := Tryz.isAgg117
  z46 := Tryz.sizeOf117
  v46 := Tryz.zeroValue117
  t51 := Tryz.underlying136
  a51 := Tryz.isAgg136
  z51 := Tryz.sizeOf136
  v51 := Tryz.zeroValue136
  t53 := Tryz.underlying123
  a53 := Tryz.isAgg123
  z53 := Tryz.sizeOf123
  v53 := Tryz.zeroValue123
  t75 := Tryz.underlying90
  a75 := Tryz.isAgg90
  z75 := Tryz.sizeOf90
  v75 := Tryz.zeroValue90
  t85 := Tryz.underlying91
  a85 := Tryz.isAgg91
  z85 := Tryz.sizeOf91
  v85 := Tryz.zeroValue91
  t127 := Tryz.underlying139
  a127 := Tryz.isAgg139
  z127 := Tryz.sizeOf139
  v127 := Tryz.zeroValue139
  t143 := Tryz.underlying140
  a143 := Tryz.isAgg140
  z143 := Tryz.sizeOf140
  v143 := Tryz.zeroValue140
  t145 := Tryz.underlying142
  a145 := Tryz.isAgg142
  z145 := Tryz.sizeOf142
  v145 := Tryz.zeroValue142
  t167 := Tryz.underlying122
  a167 := Tryz.isAgg122
  z167 := Tryz.sizeOf122
  v167 := Tryz.zeroValue122
  t168 := Tryz.underlying126
  a168 := Tryz.isAgg126
  z168 := Tryz.sizeOf126
  v168 := Tryz.zeroValue126
  t171 := Tryz.underlying144
  a171 := Tryz.isAgg144
  z171 := Tryz.sizeOf144
  v171 := Tryz.zeroValue144
  t173 := Tryz.underlying147
  a173 := Tryz.isAgg147
  z173 := Tryz.sizeOf147
  v173 := Tryz.zeroValue147
  t175 := Tryz.underlying124
  a175 := Tryz.isAgg124
  z175 := Tryz.sizeOf124
  v175 := Tryz.zeroValue124
  t210 := Tryz.underlying134
  a210 := Tryz.isAgg134
  z210 := Tryz.sizeOf134
  v210 := Tryz.zeroValue134
  t212 := Tryz.underlying150
  a212 := Tryz.isAgg150
  z212 := Tryz.sizeOf150
  v212 := Tryz.zeroValue150
  t213 := Tryz.underlying151
  a213 := Tryz.isAgg151
  z213 := Tryz.sizeOf151
  t232 := Tryz.underlying154
  a232 := Tryz.isAgg154
  z232 := Tryz.sizeOf154
  v232 := Tryz.zeroValue154
  t233 := Tryz.underlying155
  a233 := Tryz.isAgg155
  z233 := Tryz.sizeOf155
  v233 := Tryz.zeroValue155
  g15 := by kernel_rfl
  g16 := by kernel_rfl
  g17 := by kernel_rfl
  g18 := by kernel_rfl
  g19 := by kernel_rfl
  t80 := Tryz.underlying57
  a80 := Tryz.isAgg57
  z80 := Tryz.sizeOf57
  v80 := Tryz.zeroValue57
  i0 := by kernel_rfl
  i2 := by kernel_rfl
  i3 := by kernel_rfl
  i4 := by kernel_rfl
  i5 := by kernel_rfl
  i9 := by kernel_rfl
  i20 := by kernel_rfl
  i21 := by kernel_rfl
  i37 := by kernel_rfl
  i46 := by kernel_rfl
  i51 := by kernel_rfl
  i53 := by kernel_rfl
  i75 := by kernel_rfl
  i80 := by kernel_rfl
  i85 := by kernel_rfl
  i127 := by kernel_rfl
  i143 := by kernel_rfl
  i145 := by kernel_rfl
  i167 := by kernel_rfl
  i168 := by kernel_rfl
  i171 := by kernel_rfl
  i173 := by kernel_rfl
  i175 := by kernel_rfl
  i210 := by kernel_rfl
  i212 := by kernel_rfl
  i232 := by kernel_rfl
  i233 := by kernel_rfl
  m15 := by kernel_rfl
  m16 := by kernel_rfl
  m17 := by kernel_rfl
  m18 := by kernel_rfl
  m19 := by kernel_rfl
  c0 := by kernel_rfl
  c2 := by kernel_rfl
  c3 := by kernel_rfl
  c4 := by kernel_rfl
  c5 := by kernel_rfl
  c9 := by kernel_rfl
  c20 := by kernel_rfl
  c21 := by kernel_rfl
  c37 := by kernel_rfl
  c46 := by kernel_rfl
  c51 := by kernel_rfl
  c53 := by kernel_rfl
  c75 := by kernel_rfl
  c80 := by kernel_rfl
  c85 := by kernel_rfl
  c127 := by kernel_rfl
  c143 := by kernel_rfl
  c145 := by kernel_rfl
  c167 := by kernel_rfl
  c168 := by kernel_rfl
  c171 := by kernel_rfl
  c173 := by kernel_rfl
  c175 := by kernel_rfl
  c210 := by kernel_rfl
  c212 := by kernel_rfl
  c213 := by kernel_rfl
  c232 := by kernel_rfl
  c233 := by kernel_rfl }
open Go.RowKit in
theorem Tryz.strconv_ParseInt_10_at64_ok (s : ByteArray) (hmax : s.size ≤ 9223372036854775806) (v : Int) (h : Lib.parseIntB 64 s.data.toList = .ok v) (w : World) :
    Calls Tryz.prog 62 #[.string s, .int .i64 10, .int .i64 64] w fun e w' => e = .returned (.tuple #[.int .i64 v, .nilIface]) ∧ (w' = w ∨ ∃ t, w' = Lib.bytesWorld w 5 t) := Any.strconv_ParseInt_10_at64_ok Tryz.laysC174 s hmax v h w
open Go.RowKit in
theorem Tryz.strconv_ParseInt_10_at64_range (s : ByteArray) (hlim : s.size ≤ 281474976710656) (h : Lib.parseIntB 64 s.data.toList = .range) (ev : Value) (w : World) (hv : w.cell? ⟨2, 0, none⟩ = some ev) (hev : ev = .nilIface ∨ ∃ te pe, ev = .iface te pe) :
    Calls Tryz.prog 62 #[.string s, .int .i64 10, .int .i64 64] w fun e w' => ∃ N, e = .returned (.tuple #[.int .i64 (Lib.intSat 64 s.data.toList), .iface 126 (.pointer (some ⟨N, 0, none⟩))]) ∧ w.heap.size ≤ N ∧ w'.heap[N]? = some (.cells #[.string ⟨#[80, 97, 114, 115, 101, 73, 110, 116]⟩, .string s, ev] 134 (0, 0)) ∧ Below w.heap.size w w' := Any.strconv_ParseInt_10_at64_range Tryz.laysC174 s hlim h ev w hv hev
def Tryz.lays143_ren : Go.Shelf.Ren := ⟨fun | 143 => 179 | 219 => 97 | 217 => 108 | 225 => 109 | 224 => 110 | 267 => 111 | 266 => 118 | 314 => 119 | n => n, fun | 9 => 9 | 3 => 3 | 4 => 4 | 5 => 5 | 46 => 117 | 146 => 137 | 51 => 136 | n => n, fun | 1 => 0 | n => n⟩
theorem Tryz.lays143 : Go.Proofs.Lays.n143 Tryz.prog Tryz.lays143_ren := {
  mixed := by kernel_rfl
  f143 := Tryz.func179.trans (congrArg some (by kernel_rfl))
  f217 := Tryz.func108.trans (congrArg some (by kernel_rfl))
  f219 := Tryz.func97.trans (congrArg some (by kernel_rfl))
  f224 := Tryz.func110.trans (congrArg some (by kernel_rfl))
  f225 := Tryz.func109.trans (congrArg some (by kernel_rfl))
  f266 := Tryz.func118.trans (congrArg some (by kernel_rfl))
  f267 := Tryz.func111.trans (congrArg some (by kernel_rfl))
  f314 := Tryz.func119.trans (congrArg some (by kernel_rfl))
  t3 := Tryz.underlying3
  a3 := Tryz.isAgg3
  z3 := Tryz.sizeOf3
  v3 := Tryz.zeroValue3
  t4 := Tryz.underlying4
  a4 := Tryz.isAgg4
  z4 := Tryz.sizeOf4
  v4 := Tryz.zeroValue4
  t5 := Tryz.underlying5
  a5 := Tryz.isAgg5
  z5 := Tryz.sizeOf5
  v5 := Tryz.zeroValue5
  t9 := Tryz.underlying9
  a9 := Tryz.isAgg9
  z9 := Tryz.sizeOf9
  v9 := Tryz.zeroValue9
  t46 := Tryz.underlying117
  a46 := Tryz.isAgg117
  z46 := Tryz.sizeOf117
  v46 := Tryz.zeroValue117
  t51 := Tryz.underlying136
  a51 := Tryz.isAgg136
  z51 := Tryz.sizeOf136
  v51 := Tryz.zeroValue136
  t146 := Tryz.underlying137
  a146 := Tryz.isAgg137
  z146 := Tryz.sizeOf137
  v146 := Tryz.zeroValue137
  g1 := by kernel_rfl }
open Go.RowKit Go.Lib in
theorem Tryz.strings_Index (s sub : ByteArray) (m : Int) (w : World) (hs : s.size < 4294967281) (hm : w.cell? ⟨0, 0, none⟩ = some (.int .i64 m)) :
    Calls Tryz.prog 179 #[.string s, .string sub] w fun e w' => e = .returned (.int .i64 (Lib.index s.data.toList sub.data.toList)) ∧ w' = w := Any.strings_Index Tryz.lays143 s sub m w hs hm
def Tryz.lays144_ren : Go.Shelf.Ren := ⟨fun | 144 => 173 | 143 => 179 | 219 => 97 | 217 => 108 | 225 => 109 | 224 => 110 | 267 => 111 | 266 => 118 | 314 => 119 | n => n, fun | 9 => 9 | 4 => 4 | 3 => 3 | 5 => 5 | 46 => 117 | 146 => 137 | 51 => 136 | n => n, fun | 1 => 0 | n => n⟩
theorem Tryz.lays144 : Go.Proofs.Lays.n144 Tryz.prog Tryz.lays144_ren := {
  mixed := by kernel_rfl
  f143 := Tryz.func179.trans (congrArg some (by kernel_rfl))
  f144 := Tryz.func173.trans (congrArg some (by kernel_rfl))
  f217 := Tryz.func108.trans (congrArg some (by kernel_rfl))
  f219 := Tryz.func97.trans (congrArg some (by kernel_rfl))
  f224 := Tryz.func110.trans (congrArg some (by kernel_rfl))
  f225 := Tryz.func109.trans (congrArg some (by kernel_rfl))
  f266 := Tryz.func118.trans (congrArg some (by kernel_rfl))
  f267 := Tryz.func111.trans (congrArg some (by kernel_rfl))
  f314 := Tryz.func119.trans (congrArg some (by kernel_rfl))
  t3 := Tryz.underlying3
  a3 := Tryz.isAgg3
  z3 := Tryz.sizeOf3
  v3 := Tryz.zeroValue3
  t4 := Tryz.underlying4
  a4 := Tryz.isAgg4
  z4 := Tryz.sizeOf4
  v4 := Tryz.zeroValue4
  t5 := Tryz.underlying5
  a5 := Tryz.isAgg5
  z5 := Tryz.sizeOf5
  v5 := Tryz.zeroValue5
  t9 := Tryz.underlying9
  a9 := Tryz.isAgg9
  z9 := Tryz.sizeOf9
  v9 := Tryz.zeroValue9
  t46 := Tryz.underlying117
  a46 := Tryz.isAgg117
  z46 := Tryz.sizeOf117
  v46 := Tryz.zeroValue117
  t51 := Tryz.underlying136
  a51 := Tryz.isAgg136
  z51 := Tryz.sizeOf136
  v51 := Tryz.zeroValue136
  t146 := Tryz.underlying137
  a146 := Tryz.isAgg137
  z146 := Tryz.sizeOf137
  v146 := Tryz.zeroValue137
  g1 := by kernel_rfl }
open Go.RowKit Go.Lib in
theorem Tryz.strings_Contains (s sub : ByteArray) (m : Int) (w : World) (hs : s.size < 4294967281) (hm : w.cell? ⟨0, 0, none⟩ = some (.int .i64 m)) :
    Calls Tryz.prog 173 #[.string s, .string sub] w fun e w' => e = .returned (.bool (Lib.contains s.data.toList sub.data.toList)) ∧ w' = w := Any.strings_Contains Tryz.lays144 s sub m w hs hm
def Tryz.lays145_ren : Go.Shelf.Ren := ⟨fun | 145 => 61 | 220 => 82 | 219 => 97 | 217 => 108 | 225 => 109 | 224 => 110 | 267 => 111 | 266 => 118 | 314 => 119 | n => n, fun | 9 => 9 | 4 => 4 | 59 => 87 | 3 => 3 | 5 => 5 | 46 => 117 | 146 => 137 | 51 => 136 | n => n, fun | 1 => 0 | n => n⟩
theorem Tryz.lays145 : Go.Proofs.Lays.n145 Tryz.prog Tryz.lays145_ren := {
  mixed := by kernel_rfl
  f145 := Tryz.func61.trans (congrArg some (by kernel_rfl))
  f217 := Tryz.func108.trans (congrArg some (by kernel_rfl))
  f219 := Tryz.func97.trans (congrArg some (by kernel_rfl))
  f220 := Tryz.func82.trans (congrArg some (by kernel_rfl))
  f224 := Tryz.func110.trans (congrArg some (by kernel_rfl))
  f225 := Tryz.func109.trans (congrArg some (by kernel_rfl))
  f266 := Tryz.func118.trans (congrArg some (by kernel_rfl))
  f267 := Tryz.func111.trans (congrArg some (by kernel_rfl))
  f314 := Tryz.func119.trans (congrArg some (by kernel_rfl))
  t3 := Tryz.underlying3
  a3 := Tryz.isAgg3
  z3 := Tryz.sizeOf3
  v3 := Tryz.zeroValue3
  t4 := Tryz.underlying4
  a4 := Tryz.isAgg4
  z4 := Tryz.sizeOf4
  v4 := Tryz.zeroValue4
  t5 := Tryz.underlying5
  a5 := Tryz.isAgg5
  z5 := Tryz.sizeOf5
  v5 := Tryz.zeroValue5
  t9 := Tryz.underlying9
  a9 := Tryz.isAgg9
  z9 := Tryz.sizeOf9
  v9 := Tryz.zeroValue9
  t46 := Tryz.underlying117
  a46 := Tryz.isAgg117
  z46 := Tryz.sizeOf117
  v46 := Tryz.zeroValue117
  t51 := Tryz.underlying136
  a51 := Tryz.isAgg136
  z51 := Tryz.sizeOf136
  v51 := Tryz.zeroValue136
  t59 := Tryz.underlying87
  a59 := Tryz.isAgg87
  z59 := Tryz.sizeOf87
  v59 := Tryz.zeroValue87
  t146 := Tryz.underlying137
  a146 := Tryz.isAgg137
  z146 := Tryz.sizeOf137
  v146 := Tryz.zeroValue137
  g1 := by kernel_rfl }
open Go.RowKit Go.Lib in
theorem Tryz.strings_Cut (s sep : ByteArray) (m : Int) (w : World) (hs : s.size < 4294967281) (hm : w.cell? ⟨0, 0, none⟩ = some (.int .i64 m)) :
    Calls Tryz.prog 61 #[.string s, .string sep] w fun e w' => e = .returned (.tuple #[.string ⟨(Lib.cut s.data.toList sep.data.toList).1.toArray⟩, .string ⟨(Lib.cut s.data.toList sep.data.toList).2.1.toArray⟩, .bool (Lib.cut s.data.toList sep.data.toList).2.2]) ∧ ∃ n, w' = w.drewN n := Any.strings_Cut Tryz.lays145 s sep m w hs hm
def Tryz.lays221_ren : Go.Shelf.Ren := ⟨fun | 221 => 178 | 268 => 182 | 138 => 183 | 143 => 179 | 195 => 188 | 197 => 189 | 218 => 190 | 219 => 97 | 260 => 192 | 217 => 108 | 225 => 109 | 224 => 110 | 267 => 111 | 266 => 118 | 314 => 119 | n => n, fun | 9 => 9 | 3 => 3 | 31 => 22 | 4 => 4 | 0 => 0 | 105 => 188 | 21 => 21 | 5 => 5 | 46 => 117 | 119 => 192 | 139 => 195 | 138 => 194 | 146 => 137 | 51 => 136 | n => n, fun | 1 => 0 | 3 => 6 | 4 => 7 | n => n⟩
theorem Tryz.lays221 : Go.Proofs.Lays.n221 Tryz.prog Tryz.lays221_ren := {
  mixed := by kernel_rfl
  f138 := Tryz.func183.trans (congrArg some (by kernel_rfl))
  f143 := Tryz.func179.trans (congrArg some (by kernel_rfl))
  f195 := Tryz.func188.trans (congrArg some (by kernel_rfl))
  f197 := Tryz.func189.trans (congrArg some (by kernel_rfl))
  f217 := Tryz.func108.trans (congrArg some (by kernel_rfl))
  f218 := Tryz.func190.trans (congrArg some (by kernel_rfl))
  f219 := Tryz.func97.trans (congrArg some (by kernel_rfl))
  f221 := Tryz.func178.trans (congrArg some (by kernel_rfl))
  f224 := Tryz.func110.trans (congrArg some (by kernel_rfl))
  f225 := Tryz.func109.trans (congrArg some (by kernel_rfl))
  f260 := Tryz.func192.trans (congrArg some (by kernel_rfl))
  f266 := Tryz.func118.trans (congrArg some (by kernel_rfl))
  f267 := Tryz.func111.trans (congrArg some (by kernel_rfl))
  f268 := Tryz.func182.trans (congrArg some (by kernel_rfl))
  f314 := Tryz.func119.trans (congrArg some (by kernel_rfl))
  t0 := Tryz.underlying0
  a0 := Tryz.isAgg0
  z0 := Tryz.sizeOf0
  v0 := Tryz.zeroValue0
  t3 := Tryz.underlying3
  a3 := Tryz.isAgg3
  z3 := Tryz.sizeOf3
  v3 := Tryz.zeroValue3
  t4 := Tryz.underlying4
  a4 := Tryz.isAgg4
  z4 := Tryz.sizeOf4
  v4 := Tryz.zeroValue4
  t5 := Tryz.underlying5
  a5 := Tryz.isAgg5
  z5 := Tryz.sizeOf5
  v5 := Tryz.zeroValue5
  t9 := Tryz.underlying9
  a9 := Tryz.isAgg9
  z9 := Tryz.sizeOf9
  v9 := Tryz.zeroValue9
  t21 := Tryz.underlying21
  a21 := Tryz.isAgg21
  z21 := Tryz.sizeOf21
  v21 := Tryz.zeroValue21
  t31 := Tryz.underlying22
  a31 := Tryz.isAgg22
  z31 := Tryz.sizeOf22
  v31 := Tryz.zeroValue22
  t46 := Tryz.underlying117
  a46 := Tryz.isAgg117
  z46 := Tryz.sizeOf117
  v46 := Tryz.zeroValue117
  t51 := Tryz.underlying136
  a51 := Tryz.isAgg136
  z51 := Tryz.sizeOf136
  v51 := Tryz.zeroValue136
  t105 := Tryz.underlying188
  a105 := Tryz.isAgg188
  z105 := Tryz.sizeOf188
  v105 := Tryz.zeroValue188
  t119 := Tryz.underlying192
  a119 := Tryz.isAgg192
  z119 := Tryz.sizeOf192
  t138 := Tryz.underlying194
  a138 := Tryz.isAgg194
  z138 := Tryz.sizeOf194
  v138 := Tryz.zeroValue194
  t139 := Tryz.underlying195
  a139 := Tryz.isAgg195
  z139 := Tryz.sizeOf195
  v139 := Tryz.zeroValue195
  t146 := Tryz.underlying137
  a146 := Tryz.isAgg137
  z146 := Tryz.sizeOf137
  v146 := Tryz.zeroValue137
  g1 := by kernel_rfl
  g3 := by kernel_rfl
  g4 := by kernel_rfl }
def Tryz.lays152_ren : Go.Shelf.Ren := ⟨fun | 152 => 184 | 137 => 172 | 119 => 191 | 224 => 110 | 225 => 109 | 217 => 108 | 266 => 118 | n => n, fun | 9 => 9 | 21 => 21 | 3 => 3 | 4 => 4 | 5 => 5 | 0 => 0 | 46 => 117 | n => n, fun | n => n⟩
theorem Tryz.lays152 : Go.Proofs.Lays.n152 Tryz.prog Tryz.lays152_ren := {
  mixed := by kernel_rfl
  f119 := Tryz.func191.trans (congrArg some (by kernel_rfl))
  f137 := Tryz.func172.trans (congrArg some (by kernel_rfl))
  f152 := Tryz.func184.trans (congrArg some (by kernel_rfl))
  f217 := Tryz.func108.trans (congrArg some (by kernel_rfl))
  f224 := Tryz.func110.trans (congrArg some (by kernel_rfl))
  f225 := Tryz.func109.trans (congrArg some (by kernel_rfl))
  f266 := Tryz.func118.trans (congrArg some (by kernel_rfl))
  t0 := Tryz.underlying0
  a0 := Tryz.isAgg0
  z0 := Tryz.sizeOf0
  v0 := Tryz.zeroValue0
  t3 := Tryz.underlying3
  a3 := Tryz.isAgg3
  z3 := Tryz.sizeOf3
  v3 := Tryz.zeroValue3
  t4 := Tryz.underlying4
  a4 := Tryz.isAgg4
  z4 := Tryz.sizeOf4
  v4 := Tryz.zeroValue4
  t5 := Tryz.underlying5
  a5 := Tryz.isAgg5
  z5 := Tryz.sizeOf5
  v5 := Tryz.zeroValue5
  t9 := Tryz.underlying9
  a9 := Tryz.isAgg9
  z9 := Tryz.sizeOf9
  v9 := Tryz.zeroValue9
  t21 := Tryz.underlying21
  a21 := Tryz.isAgg21
  z21 := Tryz.sizeOf21
  v21 := Tryz.zeroValue21
  t46 := Tryz.underlying117
  a46 := Tryz.isAgg117
  z46 := Tryz.sizeOf117
  v46 := Tryz.zeroValue117 }
open Go.RowKit Go.Lib in
theorem Tryz.strings_IndexRune_ascii (s : ByteArray) (r : Int) (w : World) (h0 : 0 ≤ r) (h1 : r < 128) :
    Calls Tryz.prog 184 #[.string s, .int .i32 r] w fun e w' => e = .returned (.int .i64 (Lib.indexByte s.data.toList r.toNat.toUInt8)) ∧ w' = w := Any.strings_IndexRune_ascii Tryz.lays152 s r w h0 h1
def Tryz.lays226_ren : Go.Shelf.Ren := ⟨fun | 226 => 185 | n => n, fun | 3 => 3 | 4 => 4 | n => n, fun | n => n⟩
theorem Tryz.lays226 : Go.Proofs.Lays.n226 Tryz.prog Tryz.lays226_ren := {
  mixed := by kernel_rfl
  f226 := Tryz.func185.trans (congrArg some (by kernel_rfl))
  t3 := Tryz.underlying3
  a3 := Tryz.isAgg3
  z3 := Tryz.sizeOf3
  v3 := Tryz.zeroValue3
  t4 := Tryz.underlying4
  a4 := Tryz.isAgg4
  z4 := Tryz.sizeOf4
  v4 := Tryz.zeroValue4 }
open Go.RowKit Go.Lib in
theorem Tryz.strings_shouldUseASCIISet (n : Int) (w : World) :
    Calls Tryz.prog 185 #[.int .i64 n] w fun e w' => e = .returned (.bool (decide (8 < n))) ∧ w' = w := Any.strings_shouldUseASCIISet Tryz.lays226 n w
def Tryz.lays153_ren : Go.Shelf.Ren := ⟨fun | 153 => 181 | 152 => 184 | 226 => 185 | 227 => 186 | 228 => 187 | 137 => 172 | 119 => 191 | 224 => 110 | 225 => 109 | 217 => 108 | 266 => 118 | n => n, fun | 9 => 9 | 3 => 3 | 4 => 4 | 5 => 5 | 21 => 21 | 117 => 185 | 116 => 184 | 0 => 0 | 46 => 117 | 124 => 191 | n => n, fun | n => n⟩
theorem Tryz.lays153 : Go.Proofs.Lays.n153 Tryz.prog Tryz.lays153_ren := {
  mixed := by kernel_rfl
  f119 := Tryz.func191.trans (congrArg some (by kernel_rfl))
  f137 := Tryz.func172.trans (congrArg some (by kernel_rfl))
  f152 := Tryz.func184.trans (congrArg some (by kernel_rfl))
  f153 := Tryz.func181.trans (congrArg some (by kernel_rfl))
  f217 := Tryz.func108.trans (congrArg some (by kernel_rfl))
  f224 := Tryz.func110.trans (congrArg some (by kernel_rfl))
  f225 := Tryz.func109.trans (congrArg some (by kernel_rfl))
  f226 := Tryz.func185.trans (congrArg some (by kernel_rfl))
  f227 := Tryz.func186.trans (congrArg some (by kernel_rfl))
  f228 := Tryz.func187.trans (congrArg some (by kernel_rfl))
  f266 := Tryz.func118.trans (congrArg some (by kernel_rfl))
  t0 := Tryz.underlying0
  a0 := Tryz.isAgg0
  z0 := Tryz.sizeOf0
  v0 := Tryz.zeroValue0
  t3 := Tryz.underlying3
  a3 := Tryz.isAgg3
  z3 := Tryz.sizeOf3
  v3 := Tryz.zeroValue3
  t4 := Tryz.underlying4
  a4 := Tryz.isAgg4
  z4 := Tryz.sizeOf4
  v4 := Tryz.zeroValue4
  t5 := Tryz.underlying5
  a5 := Tryz.isAgg5
  z5 := Tryz.sizeOf5
  v5 := Tryz.zeroValue5
  t9 := Tryz.underlying9
  a9 := Tryz.isAgg9
  z9 := Tryz.sizeOf9
  v9 := Tryz.zeroValue9
  t21 := Tryz.underlying21
  a21 := Tryz.isAgg21
  z21 := Tryz.sizeOf21
  v21 := Tryz.zeroValue21
  t46 := Tryz.underlying117
  a46 := Tryz.isAgg117
  z46 := Tryz.sizeOf117
  v46 := Tryz.zeroValue117
  t116 := Tryz.underlying184
  a116 := Tryz.isAgg184
  z116 := Tryz.sizeOf184
  t117 := Tryz.underlying185
  a117 := Tryz.isAgg185
  z117 := Tryz.sizeOf185
  v117 := Tryz.zeroValue185
  t124 := Tryz.underlying191
  a124 := Tryz.isAgg191
  z124 := Tryz.sizeOf191
  v124 := Tryz.zeroValue191 }
open Go.RowKit Go.Lib in
theorem Tryz.strings_IndexAny_long (hv116 : ∀ w, (zeroValue 184).run Tryz.prog w = .ok (.agg (Array.replicate 256 (.bool false))) w) (s chars : ByteArray) (w : World) (h2 : 2 ≤ chars.size) (h8 : 8 < s.size) (hs : s.size < 4294967281) (hcs : chars.size < 4294967281) (hascii : ∀ (j : Nat) b, chars.data.toList[j]? = some b → b.toNat < 128) :
    Calls Tryz.prog 181 #[.string s, .string chars] w fun e w' => e = .returned (.int .i64 (Lib.indexAny s.data.toList chars.data.toList)) ∧ w' = ((w.alloc (.cells (Lib.setCells chars.data.toList) 184)).alloc (.cells (Lib.setCells chars.data.toList) 184)) := Any.strings_IndexAny_long Tryz.lays153 hv116 (by kernel_rfl) s chars w h2 h8 hs hcs hascii
end Go.Proofs
/- The contract of strconv.FormatInt at base 10 in the form in which this seat's printed functions are told: at every number of the type, the decimal text. Condition: the table of the powers of ten is as its initialiser lays it. -/
namespace Go.Proofs.YtnlembpmcbnpnaaGreatDoor.X
open Go Go.RowKit Go.Proofs.YtnlembpmcbnpnaaGreatDoorW.PrintWords
def strconv_FormatInt.f (a0 a1 : Int) : Option ByteArray := if (-9223372036854775808 ≤ a0 ∧ a0 ≤ 9223372036854775807) ∧ a1 = 10 then some ⟨(Lib.itoa a0).toArray⟩ else none
theorem strconv_FormatInt.calls (a0 a1 : Int) (r : ByteArray) (w : World) (hGI : GlI w) (h : strconv_FormatInt.f a0 a1 = some r) :
    Calls Tryz.prog 157 #[.int .i64 a0, .int .i64 a1] w fun e w' => e = .returned (.string r) ∧ Below w.heap.size w w' := by
  unfold strconv_FormatInt.f at h
  split at h
  · rename_i hs
    obtain ⟨hs, rfl⟩ := hs
    obtain rfl := Option.some.inj h
    refine (Tryz.strconv_FormatInt_10 a0 hs.1 hs.2 w hGI).mono ?_
    rintro e w' ⟨rfl, k, os, rfl⟩
    exact ⟨rfl, Lib.below_grow _ _ (Nat.le_refl _) _ _⟩
  · cases h
end Go.Proofs.YtnlembpmcbnpnaaGreatDoor.X
/- Conditions on package-level variables, kept by every world that leaves what lay below as it was: internal/bytealg.MaxLen holds some int. No condition on inputs. -/
namespace Go.Proofs.YtnlembpmcbnpnaaGreatDoor.X
open Go.RowKit Go.Proofs.YtnlembpmcbnpnaaGreatDoorW.PrintWords
def GlM (w : World) : Prop := ∃ m : Int, w.cell? ⟨0, 0, none⟩ = some (.int .i64 m)
theorem GlM.below {w W : World} (h : GlM w) (hb : Below w.heap.size w W) : GlM W := by
  obtain ⟨m, hm⟩ := h
  exact ⟨m, pw_cell_below hb hm⟩
end Go.Proofs.YtnlembpmcbnpnaaGreatDoor.X
namespace Go.Proofs.YtnlembpmcbnpnaaGreatDoor.X
open Go.RowKit Go.Proofs.YtnlembpmcbnpnaaGreatDoorW.PrintWords Go.Proofs.YtnlembpmcbnpnaaGreatDoorW.PrintLast Go.Proofs.YtnlembpmcbnpnaaGreatDoorW.PrintMore
set_option linter.unusedVariables false
set_option linter.unusedSimpArgs false
/-! ### impl_num: function 152 -/
def impl_num.f (a0 : Int) : Option (ByteArray) := (strconv_FormatInt.f a0 10).bind fun t117 => (some t117)
set_option maxHeartbeats 8000000 in
set_option maxRecDepth 100000 in
theorem impl_num.calls (a0 : Int) (r : ByteArray) (w : World) (hGI : GlI w) (h : impl_num.f a0 = some r) :
  Calls Tryz.prog 152 #[.int .i64 a0] w fun e w' => e = .returned (.string r) ∧ Below w.heap.size w w' := by
 have HB := Aside0.mk (Below.refl w.heap.size w)
 have H : ((strconv_FormatInt.f a0 10).bind fun t117 => (some t117)) = some r := h
 clear h
 obtain ⟨t117, A2, H⟩ := zbi H
 obtain rfl := Option.some.inj H
 go_enter Tryz.func152, Tryz.ntmps152
 go_wp2_with (first | ((with_reducible refine gate_callee (f := 157) rfl ?_); refine goesL_ (some 4) rfl rfl Tryz.func157 (by kernel_rfl) rfl #[.int .i64 a0, .int .i64 10] rfl (by (try simp only [List.map_toArray, List.map_cons, List.map_nil]); first | done | rfl | (simp only [List.length_drop, List.length_take]; rfl)) ?_; (with_reducible refine (strconv_FormatInt.calls a0 10 t117 _ ?side1 A2.out).mono ?_); (case side1 => exact GlI.below hGI (bq_)); rintro e w3 ⟨rfl, hb⟩; refine ⟨_, rfl, ?_⟩; replace HB := Aside0.mk (below_step (bq_) hb); clear hb))
 go_ret
 exact ⟨(by first | rfl | (simp [errW_none, errW_some] <;> rfl) | (simp [*, errW_none, errW_some] <;> rfl)), bq_⟩
end Go.Proofs.YtnlembpmcbnpnaaGreatDoor.X
/- The contract of strconv.Itoa in the form in which this seat's printed functions are told: at every number of the type, the decimal text. Condition: the table of the powers of ten is as its initialiser lays it. -/
namespace Go.Proofs.YtnlembpmcbnpnaaGreatDoor.X
open Go Go.RowKit Go.Proofs.YtnlembpmcbnpnaaGreatDoorW.PrintWords
def strconv_Itoa.f (a0 : Int) : Option ByteArray := if -9223372036854775808 ≤ a0 ∧ a0 ≤ 9223372036854775807 then some ⟨(Lib.itoa a0).toArray⟩ else none
theorem strconv_Itoa.calls (a0 : Int) (r : ByteArray) (w : World) (hGI : GlI w) (h : strconv_Itoa.f a0 = some r) :
    Calls Tryz.prog 116 #[.int .i64 a0] w fun e w' => e = .returned (.string r) ∧ Below w.heap.size w w' := by
  unfold strconv_Itoa.f at h
  split at h
  · rename_i hs
    obtain rfl := Option.some.inj h
    refine (Tryz.strconv_Itoa a0 hs.1 hs.2 w hGI).mono ?_
    rintro e w' ⟨rfl, k, os, rfl⟩
    exact ⟨rfl, Lib.below_grow _ _ (Nat.le_refl _) _ _⟩
  · cases h
end Go.Proofs.YtnlembpmcbnpnaaGreatDoor.X
namespace Go.Proofs.YtnlembpmcbnpnaaGreatDoor.X
open Go.RowKit Go.Proofs.YtnlembpmcbnpnaaGreatDoorW.PrintWords Go.Proofs.YtnlembpmcbnpnaaGreatDoorW.PrintLast Go.Proofs.YtnlembpmcbnpnaaGreatDoorW.PrintMore
set_option linter.unusedVariables false
set_option linter.unusedSimpArgs false
/-! ### impl_str: function 153 -/
def impl_str.f (a0 : ByteArray) : Option (ByteArray) := (strconv_Itoa.f (a0.size : Int)).bind fun t118 => (if t118.size + 1 ≤ 9223372036854775807 then (if (t118 ++ (⟨#[58]⟩ : ByteArray)).size + a0.size ≤ 9223372036854775807 then (some ((t118 ++ (⟨#[58]⟩ : ByteArray)) ++ a0)) else (none)) else (none))
set_option maxHeartbeats 8000000 in
set_option maxRecDepth 100000 in
theorem impl_str.calls (a0 : ByteArray) (r : ByteArray) (w : World) (hGI : GlI w) (h : impl_str.f a0 = some r) :
  Calls Tryz.prog 153 #[.string a0] w fun e w' => e = .returned (.string r) ∧ Below w.heap.size w w' := by
 have HB := Aside0.mk (Below.refl w.heap.size w)
 have H := h
 unfold impl_str.f at H
 clear h
 obtain ⟨t118, A2, H⟩ := zbi H
 by_cases c3 : t118.size + 1 ≤ 9223372036854775807
 ·rw [if_pos c3] at H
  have c3b0 := eq_true c3
  have c3b1 : decide (t118.size + 1 ≤ 9223372036854775807) = true := decide_eq_true c3
  try have c3b2 : (9223372036854775807 < t118.size + 1) = False := eq_false (Nat.not_lt.2 c3)
  by_cases c4 : (t118 ++ (⟨#[58]⟩ : ByteArray)).size + a0.size ≤ 9223372036854775807
  ·rw [if_pos c4] at H
   have c4b0 := eq_true c4
   have c4b1 : decide ((t118 ++ (⟨#[58]⟩ : ByteArray)).size + a0.size ≤ 9223372036854775807) = true := decide_eq_true c4
   try have c4b2 : (9223372036854775807 < (t118 ++ (⟨#[58]⟩ : ByteArray)).size + a0.size) = False := eq_false (Nat.not_lt.2 c4)
   try have c4b3 := c4b2
   try simp only [ByteArray.size_append, ByteArray.size_extract, Nat.min_self, Nat.sub_zero, show (⟨#[58]⟩ : ByteArray).size = 1 from rfl] at c4b3
   obtain rfl := Option.some.inj H
   go_enter Tryz.func153, Tryz.ntmps153
   go_wp2_with (first | ((with_reducible refine gate_callee (f := 116) rfl ?_); refine goesL_ (some 5) rfl rfl Tryz.func116 (by kernel_rfl) rfl #[.int .i64 (a0.size : Int)] rfl (by (try simp only [List.map_toArray, List.map_cons, List.map_nil]); first | done | rfl | (simp only [List.length_drop, List.length_take]; rfl)) ?_; (with_reducible refine (strconv_Itoa.calls (a0.size : Int) t118 _ ?side1 A2.out).mono ?_); (case side1 => exact GlI.below hGI (bq_)); rintro e w5 ⟨rfl, hb⟩; refine ⟨_, rfl, ?_⟩; replace HB := Aside0.mk (below_step (bq_) hb); clear hb))
   go_ret
   exact ⟨(by first | rfl | (simp [errW_none, errW_some] <;> rfl) | (simp [*, errW_none, errW_some] <;> rfl)), bq_⟩
  ·rw [if_neg c4] at H
   exact absurd H (by simp)
 ·rw [if_neg c3] at H
  exact absurd H (by simp)
end Go.Proofs.YtnlembpmcbnpnaaGreatDoor.X
/- The contract of strings.Join in the form in which this seat's printed functions are told. Condition: at most 1048576 elements whose joined text is no longer than 140737488355328 bytes. -/
namespace Go.Proofs.YtnlembpmcbnpnaaGreatDoor.X
open Go Go.RowKit Go.Proofs.YtnlembpmcbnpnaaGreatDoorW.PrintWords
theorem spot_none {w : World} {ad : Addr} {v : Value} (h : w.cell? ad = some v) : ad = ⟨ad.block, ad.off, none⟩ := by
  obtain ⟨b, o, s⟩ := ad
  cases s with
  | none => rfl
  | some k =>
    unfold World.cell? at h
    simp only [Option.isSome_some, if_true] at h
    split at h <;> cases h
def strings_Join.f (l0 : List ByteArray) (a1 : ByteArray) : Option ByteArray := if l0.length ≤ 1048576 ∧ (Lib.join (l0.map (·.data.toList)) a1.data.toList).length ≤ 140737488355328 then some ⟨(Lib.join (l0.map (·.data.toList)) a1.data.toList).toArray⟩ else none
theorem strings_Join.calls (A0 : Option Addr) (c0 : Nat) (l0 : List ByteArray) (a1 : ByteArray) (r : ByteArray) (w : World) (hr0 : Kd.C Kd.string w A0 l0.length l0) (hc0 : l0.length ≤ c0) (h : strings_Join.f l0 a1 = some r) :
    Calls Tryz.prog 154 #[.slice A0 l0.length c0, .string a1] w fun e w' => e = .returned (.string r) ∧ Below w.heap.size w w' := by
  unfold strings_Join.f at h
  split at h
  · rename_i hs
    obtain rfl := Option.some.inj h
    cases hl : l0 with
    | nil =>
      refine (Tryz.strings_Join_none A0 c0 a1 w).mono ?_
      rintro e w' ⟨rfl, rfl⟩
      exact ⟨rfl, Below.refl _ _⟩
    | cons x t =>
      rw [← hl]
      have hpos : (0 : Int) < l0.length := by rw [hl]; simp
      obtain ⟨ad, rfl, hc⟩ := Kd.at_string hr0 0 (by decide) hpos
      have hsp : ad = ⟨ad.block, ad.off, none⟩ := spot_none (show w.cell? ad = _ from hc)
      generalize ad.block = b at hsp
      generalize ad.off = o at hsp
      subst hsp
      refine (Tryz.strings_Join b o c0 l0 a1 w ?_ (World.block_lt_of_cell? w _ hc) (by omega) hc0 hs.2).mono ?_
      · intro j y hy
        have hj := (List.getElem?_eq_some_iff.1 hy).1
        obtain ⟨ad', e', hc'⟩ := Kd.at_string hr0 (j : Int) (by omega) (by omega)
        obtain rfl := Option.some.inj e'
        rw [add_at, Int.toNat_natCast] at hc'
        rw [hc']
        unfold rdOf
        rw [Int.toNat_natCast, List.getD_eq_getElem?_getD, hy]; rfl
      · rintro e w' ⟨rfl, hb⟩
        exact ⟨rfl, hb⟩
  · cases h
end Go.Proofs.YtnlembpmcbnpnaaGreatDoor.X
namespace Go.Proofs.YtnlembpmcbnpnaaGreatDoor.X
open Go.RowKit Go.Proofs.YtnlembpmcbnpnaaGreatDoorW.PrintWords Go.Proofs.YtnlembpmcbnpnaaGreatDoorW.PrintLast Go.Proofs.YtnlembpmcbnpnaaGreatDoorW.PrintMore
set_option linter.unusedVariables false
set_option linter.unusedSimpArgs false
theorem z5_0_ {P : Prop} (h : P := by repeat (first | (with_reducible first | exact HB.out | apply below_alloc | apply pw_below_drewN | apply below_drew1 | refine below_set ?_ GE119.out | refine below_set ?_ GE120.out | refine below_set ?_ GE121.out) | exact HB.out)) : P := h
theorem z5_1_ {P : Prop} (h : P := by (try simp only [List.map_toArray, List.map_cons, List.map_nil]); first | done | rfl | (simp only [List.length_drop, List.length_take]; rfl)) : P := h
theorem z5_2_ {P : Prop} (h : P := by (with_reducible repeat (first | refine blk_drewN ?_ _ | refine blk_drew ?_ | refine blk_alloc ?_ _)); exact BK119.out) : P := h
theorem z5_3_ {P : Prop} (h : P := by (with_reducible repeat (first | refine blk_drewN ?_ _ | refine blk_drew ?_ | refine blk_alloc ?_ _)); exact BK120.out) : P := h
/-! ### impl_messageKind_pack: function 150 -/
def impl_messageKind_pack.l0 : Nat → List ByteArray → List ByteArray → Int → Int → Int → Int → ByteArray → List ByteArray → ByteArray → Option (ByteArray)
 | 0, _, _, _, _, _, _, _, _, _ => none
 | k + 1, x6, x26, x27, x28, x122000, x122001, x122002, x122003, x122004 => if x28 < x27 then (if 0 ≤ x28 then (if x28 < (x26.length : Int) then ((impl_str.f (rdOf ByteArray.empty x26 x28)).bind fun t130 => (if x6.length < 8796093022208 then (impl_messageKind_pack.l0 k (x6 ++ [t130]) x26 x27 (wrap64 (x28 + 1)) x122000 x122001 x122002 x122003 x122004) else (none))) else (none)) else (none)) else ((impl_str.f x122004).bind fun t134 => (if x6.length < 8796093022208 then ((strings_Join.f (x6 ++ [t134]) (⟨#[32]⟩ : ByteArray)).bind fun t138 => (some t138)) else (none)))
def impl_messageKind_pack.f (k : Nat)  (a1_0 : Int) (a1_1 : Int) (a1_2 : Int) (a1_3 : ByteArray) (l1_4 : List ByteArray) (a1_5 : ByteArray) (a1_6 : Int) (a1_7 : Int) (a1_8 : Int) (a1_9 : Int) (a1_10 : ByteArray) (a1_11 : Int) (a1_12 : Int) : Option (ByteArray) := (impl_num.f a1_1).bind fun t122 => ((impl_num.f a1_2).bind fun t123 => ((impl_num.f (l1_4.length : Int)).bind fun t124 => ((impl_str.f a1_3).bind fun t125 => (impl_messageKind_pack.l0 k (([(⟨#[77]⟩ : ByteArray), t122, t123, t124, t125] : List ByteArray)) l1_4 (l1_4.length : Int) 0 a1_1 a1_2 a1_3 l1_4 a1_5))))
theorem impl_messageKind_pack.mono_l : ∀ k, (∀ y0 y1 y2 y3 y4 y5 y6 y7 y8, LeO (impl_messageKind_pack.l0 k y0 y1 y2 y3 y4 y5 y6 y7 y8) (impl_messageKind_pack.l0 (k + 1) y0 y1 y2 y3 y4 y5 y6 y7 y8))
 | 0 => fun _ _ _ _ _ _ _ _ _ r h => by simp [impl_messageKind_pack.l0] at h
 | k + 1 => by
  have ih0 := impl_messageKind_pack.mono_l k
  ·intro y0 y1 y2 y3 y4 y5 y6 y7 y8
   unfold impl_messageKind_pack.l0
   repeat' first
   | (with_reducible exact ih0 _ _ _ _ _ _ _ _ _)
   | (with_reducible exact LeO.refl _)
   | (with_reducible exact LeO.none _)
   | (with_reducible refine LeO.ite ?_ ?_)
   | (with_reducible refine LeO.bind ?_ (fun _ => ?_))
   | exact ih0 _ _ _ _ _ _ _ _ _
   | exact LeO.none _
   | refine LeO.ite ?_ ?_
   | refine LeO.bind ?_ (fun _ => ?_)
theorem impl_messageKind_pack.mono : ∀ a0 a1 a2 a3 a4 a5 a6 a7 a8 a9 a10 a11 a12 k, LeO (impl_messageKind_pack.f k a0 a1 a2 a3 a4 a5 a6 a7 a8 a9 a10 a11 a12) (impl_messageKind_pack.f (k + 1) a0 a1 a2 a3 a4 a5 a6 a7 a8 a9 a10 a11 a12) := by
 intro a0 a1 a2 a3 a4 a5 a6 a7 a8 a9 a10 a11 a12 k
 have ih0 := impl_messageKind_pack.mono_l k
 unfold impl_messageKind_pack.f
 repeat' first
   | (with_reducible exact ih0 _ _ _ _ _ _ _ _ _)
   | (with_reducible exact LeO.refl _)
   | (with_reducible exact LeO.none _)
   | (with_reducible refine LeO.ite ?_ ?_)
   | (with_reducible refine LeO.bind ?_ (fun _ => ?_))
   | exact ih0 _ _ _ _ _ _ _ _ _
   | exact LeO.none _
   | refine LeO.ite ?_ ?_
   | refine LeO.bind ?_ (fun _ => ?_)
def impl_messageKind_pack.T2 : Bool × List (List Nat × List Nat) := (true, [([], []), ([0], [0]), ([1], [1]), ([], []), ([3], [3]), ([4, 2], [4]), ([], []), ([6], [6]), ([7], [7]), ([8, 5], [8]), ([], []), ([10], [10]), ([11, 9], [11]), ([2, 5, 9, 12], [2, 5, 9, 12]), ([13, 12, 0, 1, 2, 3, 4, 5, 6, 7, 8, 9, 10, 11, 12, 13], [13])])
def impl_messageKind_pack.B2 : List Nat := [0, 1, 3, 0, 8, 31, 0, 64, 192, 511, 0, 1024, 4095, 8191, 16383]
theorem impl_messageKind_pack.tab2 : rtab .any (opsOf Tryz.f150 2) = impl_messageKind_pack.T2 := by kernel_rfl
theorem impl_messageKind_pack.bits2 : waitsOk impl_messageKind_pack.T2.2 impl_messageKind_pack.B2 = true := by kernel_rfl
set_option maxHeartbeats 8000000 in
set_option maxRecDepth 100000 in
theorem impl_messageKind_pack.calls (k : Nat)  (a1_0 : Int) (a1_1 : Int) (a1_2 : Int) (a1_3 : ByteArray) (A1_4 : Option Addr) (c1_4 : Nat) (l1_4 : List ByteArray) (a1_5 : ByteArray) (a1_6 : Int) (a1_7 : Int) (a1_8 : Int) (a1_9 : Int) (a1_10 : ByteArray) (a1_11 : Int) (a1_12 : Int) (r : ByteArray) (w : World) (hGI : GlI w) (hr1_4 : Kd.C Kd.string w A1_4 l1_4.length l1_4) (hc1_4 : l1_4.length ≤ c1_4) (h : impl_messageKind_pack.f k a1_0 a1_1 a1_2 a1_3 l1_4 a1_5 a1_6 a1_7 a1_8 a1_9 a1_10 a1_11 a1_12 = some r) :
  Calls Tryz.prog 150 #[.agg #[], .agg #[.int .i64 a1_0, .int .i64 a1_1, .int .i64 a1_2, .string a1_3, .slice A1_4 l1_4.length c1_4, .string a1_5, .int .i64 a1_6, .int .i64 a1_7, .int .i64 a1_8, .int .i64 a1_9, .string a1_10, .int .i64 a1_11, .int .i64 a1_12]] w fun e w' => e = .returned (.string r) ∧ Below w.heap.size w w' := by
 have hu111 := Tryz.underlying111
 have hu28 := Tryz.underlying28
 have hu24 := Tryz.underlying24
 have HR1_4 := Aside0.mk hr1_4
 have HC1_4 := Aside0.mk hc1_4
 clear hr1_4 hc1_4
 have HB := Aside0.mk (Below.refl w.heap.size w)
 have H := h
 unfold impl_messageKind_pack.f at H
 clear h
 obtain ⟨t122, A3, H⟩ := zbi H
 obtain ⟨t123, A4, H⟩ := zbi H
 obtain ⟨t124, A5, H⟩ := zbi H
 obtain ⟨t125, A6, H⟩ := zbi H
 obtain ⟨y126, hy126⟩ : ∃ y_ : List ByteArray, y_ = (([(⟨#[77]⟩ : ByteArray), t122, t123, t124, t125] : List ByteArray)) := ⟨_, rfl⟩
 replace H : (impl_messageKind_pack.l0 k y126 l1_4 (l1_4.length : Int) 0 a1_1 a1_2 a1_3 l1_4 a1_5) = some r := by first | (rw [hy126]; with_reducible exact H) | (have H2_ := (Option.bind_some _ _).symm.trans H; rw [hy126]; with_reducible exact H2_) | (have H2_ := (Option.bind_some _ _).symm.trans H; with_reducible exact H2_) | with_reducible exact H | (rw [hy126]; exact H) | exact H
 have Ny126 := Aside0.mk hy126
 clear hy126
 have H' := Aside0.mk H
 clear H
 go_enter Tryz.func150, Tryz.ntmps150
 try go_wp2_with (first | ((with_reducible refine gate_dst (N := 2) rfl ?_); refine box_event (by rfl) (N := 2) (by rfl) (cs := #[]) (t := 111) (by first | (go_simp; done) | (go_simp; rfl)) ?_; intro gb119 hg w7 hbox hb; have BK119 := Aside0.mk (hbox); have GW119 := Aside0.mk ((by rw [hg]; exact (below_size (bq_)) : w.heap.size ≤ gb119)); have GE119 := GW119; replace HB := Aside0.mk (below_step (bq_) hb); clear hb hbox hg) | ((with_reducible refine gate_dst (N := 3) rfl ?_); refine box_event (by rfl) (N := 3) (by rfl) (cs := #[.int .i64 a1_0, .int .i64 a1_1, .int .i64 a1_2, .string a1_3, .slice A1_4 l1_4.length c1_4, .string a1_5, .int .i64 a1_6, .int .i64 a1_7, .int .i64 a1_8, .int .i64 a1_9, .string a1_10, .int .i64 a1_11, .int .i64 a1_12]) (t := 28) (by first | (go_simp; done) | (go_simp; rfl)) ?_; intro gb120 hg w8 hbox hb; have BK120 := Aside0.mk (hbox); have GW120 := Aside0.mk ((by rw [hg]; exact (below_size (by repeat (first | (with_reducible first | exact HB.out | apply below_alloc | apply pw_below_drewN | apply below_drew1 | refine below_set ?_ GE119.out) | exact HB.out))) : w.heap.size ≤ gb120)); have GE120 := GW120; replace HB := Aside0.mk (below_step (by repeat (first | (with_reducible first | exact HB.out | apply below_alloc | apply pw_below_drewN | apply below_drew1 | refine below_set ?_ GE119.out) | exact HB.out)) hb); have NB119_120 := Aside0.mk ((by rw [hg]; exact Nat.ne_of_lt (blk_lt (g := gb119) (o := .cells #[] 111 (0, 0)) z5_2_) : gb119 ≠ gb120)); have NB120_119 := Aside0.mk NB119_120.out.symm; replace BK119 := Aside0.mk (zbb BK119.out hb); clear hb hbox hg; have hnb9 := NB120_119.out; have hnc9 := NB119_120.out; obtain ⟨q10_0, q10_1, q10_2, q10_3, q10_4, q10_5, q10_6, q10_7, q10_8, q10_9, q10_10, q10_11, q10_12⟩ := zc13 BK120.out; obtain ⟨f10_0, f10_1, f10_2, f10_3, f10_4, f10_5, f10_6, f10_7, f10_8, f10_9, f10_10, f10_11, f10_12⟩ := zf13 BK120.out) | ((with_reducible refine gate_dst (N := 5) rfl ?_); refine box_event (by rfl) (N := 5) (by rfl) (cs := #[.int .i64 0, .int .i64 0, .string (⟨#[]⟩ : ByteArray), .slice none 0 0, .string (⟨#[]⟩ : ByteArray)]) (t := 24) (by first | (go_simp; done) | (go_simp; rfl)) ?_; intro gb121 hg w11 hbox hb; have BK121 := Aside0.mk (hbox); have GW121 := Aside0.mk ((by rw [hg]; exact (below_size (by repeat (first | (with_reducible first | exact HB.out | apply below_alloc | apply pw_below_drewN | apply below_drew1 | refine below_set ?_ GE119.out | refine below_set ?_ GE120.out) | exact HB.out))) : w.heap.size ≤ gb121)); have GE121 := GW121; replace HB := Aside0.mk (below_step (by repeat (first | (with_reducible first | exact HB.out | apply below_alloc | apply pw_below_drewN | apply below_drew1 | refine below_set ?_ GE119.out | refine below_set ?_ GE120.out) | exact HB.out)) hb); have NB119_121 := Aside0.mk ((by rw [hg]; exact Nat.ne_of_lt (blk_lt (g := gb119) (o := .cells #[] 111 (0, 0)) z5_2_) : gb119 ≠ gb121)); have NB121_119 := Aside0.mk NB119_121.out.symm; replace BK119 := Aside0.mk (zbb BK119.out hb); have NB120_121 := Aside0.mk ((by rw [hg]; exact Nat.ne_of_lt (blk_lt (g := gb120) (o := .cells #[.int .i64 a1_0, .int .i64 a1_1, .int .i64 a1_2, .string a1_3, .slice A1_4 l1_4.length c1_4, .string a1_5, .int .i64 a1_6, .int .i64 a1_7, .int .i64 a1_8, .int .i64 a1_9, .string a1_10, .int .i64 a1_11, .int .i64 a1_12] 28 (0, 0)) z5_3_) : gb120 ≠ gb121)); have NB121_120 := Aside0.mk NB120_121.out.symm; replace BK120 := Aside0.mk (zbb BK120.out hb); clear hb hbox hg; have hnb12 := NB121_119.out; have hnc12 := NB119_121.out; have hnb13 := NB121_120.out; have hnc13 := NB120_121.out; obtain ⟨q14_0, q14_1, q14_2, q14_3, q14_4⟩ := zc5 BK121.out; obtain ⟨f14_0, f14_1, f14_2, f14_3, f14_4⟩ := zf5 BK121.out))
 have n0_ : Aside0 ((((((w11.setCell ⟨gb121, 0, none⟩ (.int .i64 a1_1)).setCell ⟨gb121, 1, none⟩ (.int .i64 a1_2)).setCell ⟨gb121, 2, none⟩ (.string a1_3)).setCell ⟨gb121, 3, none⟩ (.slice A1_4 l1_4.length c1_4)).setCell ⟨gb121, 4, none⟩ (.string a1_5)).heap[gb119]? = some (.cells #[] 111 (0, 0))) := ⟨(by (with_reducible repeat (first | refine blk_drewN ?_ _ | refine blk_drew ?_ | refine blk_alloc ?_ _)); (iterate 5 (refine blk_far ?_ NB119_121.out _; (with_reducible repeat (first | refine blk_drewN ?_ _ | refine blk_drew ?_ | refine blk_alloc ?_ _)))); exact BK119.out)⟩
 have n1_ : Aside0 ((((((w11.setCell ⟨gb121, 0, none⟩ (.int .i64 a1_1)).setCell ⟨gb121, 1, none⟩ (.int .i64 a1_2)).setCell ⟨gb121, 2, none⟩ (.string a1_3)).setCell ⟨gb121, 3, none⟩ (.slice A1_4 l1_4.length c1_4)).setCell ⟨gb121, 4, none⟩ (.string a1_5)).heap[gb120]? = some (.cells #[.int .i64 a1_0, .int .i64 a1_1, .int .i64 a1_2, .string a1_3, .slice A1_4 l1_4.length c1_4, .string a1_5, .int .i64 a1_6, .int .i64 a1_7, .int .i64 a1_8, .int .i64 a1_9, .string a1_10, .int .i64 a1_11, .int .i64 a1_12] 28 (0, 0))) := ⟨(by (with_reducible repeat (first | refine blk_drewN ?_ _ | refine blk_drew ?_ | refine blk_alloc ?_ _)); (iterate 5 (refine blk_far ?_ NB120_121.out _; (with_reducible repeat (first | refine blk_drewN ?_ _ | refine blk_drew ?_ | refine blk_alloc ?_ _)))); exact BK120.out)⟩
 have n2_ : Aside0 ((((((w11.setCell ⟨gb121, 0, none⟩ (.int .i64 a1_1)).setCell ⟨gb121, 1, none⟩ (.int .i64 a1_2)).setCell ⟨gb121, 2, none⟩ (.string a1_3)).setCell ⟨gb121, 3, none⟩ (.slice A1_4 l1_4.length c1_4)).setCell ⟨gb121, 4, none⟩ (.string a1_5)).heap[gb121]? = some (.cells #[.int .i64 a1_1, .int .i64 a1_2, .string a1_3, .slice A1_4 l1_4.length c1_4, .string a1_5] 24 (0, 0))) := ⟨(by (with_reducible repeat (first | refine blk_drewN ?_ _ | refine blk_drew ?_ | refine blk_alloc ?_ _)); apply zp5; (with_reducible repeat (first | refine blk_drewN ?_ _ | refine blk_drew ?_ | refine blk_alloc ?_ _)); exact BK121.out)⟩
 have n3_ : Aside0 (Below w.heap.size w (((((w11.setCell ⟨gb121, 0, none⟩ (.int .i64 a1_1)).setCell ⟨gb121, 1, none⟩ (.int .i64 a1_2)).setCell ⟨gb121, 2, none⟩ (.string a1_3)).setCell ⟨gb121, 3, none⟩ (.slice A1_4 l1_4.length c1_4)).setCell ⟨gb121, 4, none⟩ (.string a1_5))) := ⟨z5_0_⟩
 (try clear BK119)
 (try clear BK120)
 (try clear BK121)
 (try clear HB)
 generalize (((((w11.setCell ⟨gb121, 0, none⟩ (.int .i64 a1_1)).setCell ⟨gb121, 1, none⟩ (.int .i64 a1_2)).setCell ⟨gb121, 2, none⟩ (.string a1_3)).setCell ⟨gb121, 3, none⟩ (.slice A1_4 l1_4.length c1_4)).setCell ⟨gb121, 4, none⟩ (.string a1_5)) = w15 at n0_ n1_ n2_ n3_ ⊢
 have BK119 := n0_
 have BK120 := n1_
 have BK121 := n2_
 have HB := n3_
 clear n0_ n1_ n2_ n3_
 replace BK119 := Aside0.mk (blk_drew BK119.out)
 replace BK120 := Aside0.mk (blk_drew BK120.out)
 replace BK121 := Aside0.mk (blk_drew BK121.out)
 replace HB := Aside0.mk (below_drew1 HB.out)
 refine start_ (n := 15) (S := fun w' => w'.cell? ⟨gb121, 0, none⟩ = some (.int .i64 a1_1) ∧ w'.cell? ⟨gb121, 1, none⟩ = some (.int .i64 a1_2) ∧ w'.cell? ⟨gb121, 2, none⟩ = some (.string a1_3) ∧ w'.cell? ⟨gb121, 3, none⟩ = some (.slice A1_4 l1_4.length c1_4) ∧ w'.cell? ⟨gb121, 4, none⟩ = some (.string a1_5)) (ds := []) (zfl 15 []) (by kernel_rfl) rfl rfl ⟨(blk_cell BK121.out 0).trans rfl, (blk_cell BK121.out 1).trans rfl, (blk_cell BK121.out 2).trans rfl, (blk_cell BK121.out 3).trans rfl, (blk_cell BK121.out 4).trans rfl⟩ (fun hHeld => ?_); refine with_tabW impl_messageKind_pack.tab2 impl_messageKind_pack.bits2 (fun HT_ HW_ => ?_)
 generalize w15.drew = w16 at BK119 BK120 BK121 HB hHeld ⊢
 refine zpu 0 11 (zfl 15 [0]) HT_ ?_
 refine zpu 3 14 (zfl 15 [0, 3]) HT_ ?_
 refine zpu 6 17 (zfl 15 [0, 3, 6]) HT_ ?_
 refine zpu 10 21 (zfl 15 [0, 3, 6, 10]) HT_ ?_
 refine ztk 1 12 (zfl 15 [0, 1, 3, 6, 10]) HT_ HW_ hHeld ?_
 refine ztk 4 15 (zfl 15 [0, 1, 3, 4, 6, 10]) HT_ HW_ hHeld ?_
 refine ztk 7 18 (zfl 15 [0, 1, 3, 4, 6, 7, 10]) HT_ HW_ hHeld ?_
 refine zpu 8 19 (zfl 15 [0, 1, 3, 4, 6, 7, 8, 10]) HT_ ?_
 refine ztk 11 22 (zfl 15 [0, 1, 3, 4, 6, 7, 8, 10, 11]) HT_ HW_ hHeld ?_
 refine zon 2 13 (zfl 15 [0, 1, 2, 3, 4, 6, 7, 8, 10, 11]) HT_ (fun K hK => ?_)
 refine goes_ Tryz.func152 (by kernel_rfl) rfl #[.int .i64 a1_1] (by rfl) rfl rfl z5_1_ ?_
 with_reducible refine (impl_num.calls a1_1 t122 _ ?side1 A3.out).mono ?_
 (case side1 => exact GlI.below hGI z5_0_)
 rintro e w17 ⟨rfl, hb⟩
 refine ⟨_, rfl, ?_⟩
 replace BK119 := Aside0.mk (zbb BK119.out hb)
 replace BK120 := Aside0.mk (zbb BK120.out hb)
 replace BK121 := Aside0.mk (zbb BK121.out hb)
 replace HB := Aside0.mk (below_step z5_0_ hb)
 (try clear hb)
 (try clear hb2)
 (try clear hk)
 (try clear hi)
 refine hK.out _ _ ⟨(blk_cell BK121.out 0).trans rfl, (blk_cell BK121.out 1).trans rfl, (blk_cell BK121.out 2).trans rfl, (blk_cell BK121.out 3).trans rfl, (blk_cell BK121.out 4).trans rfl⟩ (fun hHeld => ?_)
 clear hK K
 refine znm ?_
 refine zon 5 16 (zfl 15 [0, 1, 2, 3, 4, 5, 6, 7, 8, 10, 11]) HT_ (fun K hK => ?_)
 refine goes_ Tryz.func152 (by kernel_rfl) rfl #[.int .i64 a1_2] (by rfl) rfl rfl z5_1_ ?_
 with_reducible refine (impl_num.calls a1_2 t123 _ ?side1 A4.out).mono ?_
 (case side1 => exact GlI.below hGI z5_0_)
 rintro e w18 ⟨rfl, hb⟩
 refine ⟨_, rfl, ?_⟩
 replace BK119 := Aside0.mk (zbb BK119.out hb)
 replace BK120 := Aside0.mk (zbb BK120.out hb)
 replace BK121 := Aside0.mk (zbb BK121.out hb)
 replace HB := Aside0.mk (below_step z5_0_ hb)
 (try clear hb)
 (try clear hb2)
 (try clear hk)
 (try clear hi)
 refine hK.out _ _ ⟨(blk_cell BK121.out 0).trans rfl, (blk_cell BK121.out 1).trans rfl, (blk_cell BK121.out 2).trans rfl, (blk_cell BK121.out 3).trans rfl, (blk_cell BK121.out 4).trans rfl⟩ (fun hHeld => ?_)
 clear hK K
 refine znm ?_
 refine zon 9 20 (zfl 15 [0, 1, 2, 3, 4, 5, 6, 7, 8, 9, 10, 11]) HT_ (fun K hK => ?_)
 refine goes_ Tryz.func152 (by kernel_rfl) rfl #[.int .i64 (l1_4.length : Int)] (by rfl) rfl rfl z5_1_ ?_
 with_reducible refine (impl_num.calls (l1_4.length : Int) t124 _ ?side1 A5.out).mono ?_
 (case side1 => exact GlI.below hGI z5_0_)
 rintro e w19 ⟨rfl, hb⟩
 refine ⟨_, rfl, ?_⟩
 replace BK119 := Aside0.mk (zbb BK119.out hb)
 replace BK120 := Aside0.mk (zbb BK120.out hb)
 replace BK121 := Aside0.mk (zbb BK121.out hb)
 replace HB := Aside0.mk (below_step z5_0_ hb)
 (try clear hb)
 (try clear hb2)
 (try clear hk)
 (try clear hi)
 refine hK.out _ _ ⟨(blk_cell BK121.out 0).trans rfl, (blk_cell BK121.out 1).trans rfl, (blk_cell BK121.out 2).trans rfl, (blk_cell BK121.out 3).trans rfl, (blk_cell BK121.out 4).trans rfl⟩ (fun hHeld => ?_)
 clear hK K
 refine znm ?_
 refine zon 12 23 (zfl 15 [0, 1, 2, 3, 4, 5, 6, 7, 8, 9, 10, 11, 12]) HT_ (fun K hK => ?_)
 refine goes_ Tryz.func153 (by kernel_rfl) rfl #[.string a1_3] (by rfl) rfl rfl z5_1_ ?_
 with_reducible refine (impl_str.calls a1_3 t125 _ ?side1 A6.out).mono ?_
 (case side1 => exact GlI.below hGI z5_0_)
 rintro e w20 ⟨rfl, hb⟩
 refine ⟨_, rfl, ?_⟩
 replace BK119 := Aside0.mk (zbb BK119.out hb)
 replace BK120 := Aside0.mk (zbb BK120.out hb)
 replace BK121 := Aside0.mk (zbb BK121.out hb)
 replace HB := Aside0.mk (below_step z5_0_ hb)
 (try clear hb)
 (try clear hb2)
 (try clear hk)
 (try clear hi)
 refine hK.out _ _ ⟨(blk_cell BK121.out 0).trans rfl, (blk_cell BK121.out 1).trans rfl, (blk_cell BK121.out 2).trans rfl, (blk_cell BK121.out 3).trans rfl, (blk_cell BK121.out 4).trans rfl⟩ (fun hHeld => ?_)
 clear hK K
 refine znm ?_
 refine zon 13 24 (zfl 15 [0, 1, 2, 3, 4, 5, 6, 7, 8, 9, 10, 11, 12, 13]) HT_ (fun K hK => ?_)
 refine Kd.R_lit_step Kd.string _ 9 ?hg (N := 24) ?hd (xs := ([(⟨#[77]⟩ : ByteArray), t122, t123, t124, t125] : List ByteArray)) (inner := [.string (⟨#[77]⟩ : ByteArray), .string t122, .string t123, .string t124, .string t125]) (ok := fun _ => True) (okp := fun _ => True) ?hr ?hp (fun _ hk => hk) trivial (Below.refl _ _) (Nat.le_refl _) (by simp) ?_; (case hd => rfl); (case hg => rfl); (case hr => first | (go_simp; done) | (go_simp; rfl)); (case hp => exact (Reps.one (show Kd.M Kd.string _ _ _ (⟨#[77]⟩ : ByteArray) [.string (⟨#[77]⟩ : ByteArray)] from rfl) (Reps.one (show Kd.M Kd.string _ _ _ t122 [.string t122] from rfl) (Reps.one (show Kd.M Kd.string _ _ _ t123 [.string t123] from rfl) (Reps.one (show Kd.M Kd.string _ _ _ t124 [.string t124] from rfl) (Reps.one (show Kd.M Kd.string _ _ _ t125 [.string t125] from rfl) (Reps.none _ _)))))))
 intro v127 w21 ho22 hb hg_ hnew_
 clear hg_ hnew_
 (first | rw [← Ny126.out] at ho22 | (simp only [Int.reduceToNat] at ho22; rw [← Ny126.out] at ho22))
 have HO128 := Aside0.mk (Kd.R_lower ho22 (below_size z5_0_))
 replace BK119 := Aside0.mk (zbb BK119.out hb)
 replace BK120 := Aside0.mk (zbb BK120.out hb)
 replace BK121 := Aside0.mk (zbb BK121.out hb)
 replace HB := Aside0.mk (below_step z5_0_ hb)
 clear hb ho22
 refine hK.out _ _ ⟨(blk_cell BK121.out 0).trans rfl, (blk_cell BK121.out 1).trans rfl, (blk_cell BK121.out 2).trans rfl, (blk_cell BK121.out 3).trans rfl, (blk_cell BK121.out 4).trans rfl⟩ (fun hHeld => ?_)
 clear hK K
 refine znm ?_
 refine zpu 14 6 (zfl 15 [0, 1, 2, 3, 4, 5, 6, 7, 8, 9, 10, 11, 12, 13, 14]) HT_ ?_
 refine done_ (done_of HT_.out (by kernel_rfl)) ?_
 obtain ⟨q23_0, q23_1, q23_2, q23_3, q23_4⟩ := zc5 BK121.out
 obtain ⟨f23_0, f23_1, f23_2, f23_3, f23_4⟩ := zf5 BK121.out
 try go_wp2
 go_loopg [6, 28] k (fun kq v6 v28 w' => ∃ (x6_1 : List ByteArray) (x28_1 : Int), v28 = .int .i64 x28_1 ∧ Aside0 (impl_messageKind_pack.l0 kq x6_1 l1_4 (l1_4.length : Int) x28_1 a1_1 a1_2 a1_3 l1_4 a1_5 = some r) ∧ Aside0 (kq ≤ k) ∧ Aside0 (Kd.R Kd.string 9 w' w.heap.size (fun _ => True) v6 x6_1) ∧ Aside0 (w'.heap[gb119]? = some (.cells #[] 111 (0, 0))) ∧ Aside0 (w'.heap[gb120]? = some (.cells #[.int .i64 a1_0, .int .i64 a1_1, .int .i64 a1_2, .string a1_3, (.slice A1_4 l1_4.length c1_4), .string a1_5, .int .i64 a1_6, .int .i64 a1_7, .int .i64 a1_8, .int .i64 a1_9, .string a1_10, .int .i64 a1_11, .int .i64 a1_12] 28 (0, 0))) ∧ Aside0 (w'.heap[gb121]? = some (.cells #[.int .i64 a1_1, .int .i64 a1_2, .string a1_3, (.slice A1_4 l1_4.length c1_4), .string a1_5] 24 (0, 0))) ∧ Aside0 (Below w.heap.size w w'))
 case atStart => exact ⟨(y126), (0), (by first | rfl | (simp; done) | (simp [*]; done)), H', ⟨Nat.le_refl _⟩, ⟨(by (with_reducible repeat (first | apply Kd.R_alloc | apply Kd.R_drewN | apply Kd.R_drew)); exact HO128.out)⟩, ⟨z5_2_⟩, ⟨z5_3_⟩, ⟨(by (with_reducible repeat (first | refine blk_drewN ?_ _ | refine blk_drew ?_ | refine blk_alloc ?_ _)); exact BK121.out)⟩, ⟨z5_0_⟩⟩
 case round =>
  clear H'
  try clear c1
  try clear p2
  try clear c9
  try clear c12
  try clear c13
  try clear c15
  try clear q10_0 q10_1 q10_10 q10_11 q10_12 q10_2 q10_3 q10_4 q10_5 q10_6 q10_7 q10_8 q10_9
  try clear q14_0 q14_1 q14_2 q14_3 q14_4
  try clear q23_0 q23_1 q23_2 q23_3 q23_4
  try clear f10_0 f10_1 f10_10 f10_11 f10_12 f10_2 f10_3 f10_4 f10_5 f10_6 f10_7 f10_8 f10_9
  try clear f14_0 f14_1 f14_2 f14_3 f14_4
  try clear f23_0 f23_1 f23_2 f23_3 f23_4
  obtain ⟨x6_1, x28_1, rfl, HA, HK1, HO_6, BK119, BK120, BK121, HB⟩ := hrel
  cases gk with
  | zero => exact absurd HA.out (by simp [impl_messageKind_pack.l0])
  | succ k1 =>
   have H := HA.out
   clear HA
   simp only [impl_messageKind_pack.l0] at H
   by_cases c24 : x28_1 < (l1_4.length : Int)
   ·rw [if_pos c24] at H
    have c24b0 : decide (x28_1 < (l1_4.length : Int)) = true := decide_eq_true c24
    clear c24
    by_cases c25 : 0 ≤ x28_1
    ·rw [if_pos c25] at H
     have c25b0 : decide (0 ≤ x28_1) = true := decide_eq_true c25
     clear c25
     by_cases c26 : x28_1 < (l1_4.length : Int)
     ·rw [if_pos c26] at H
      have c26b0 : decide (x28_1 < (l1_4.length : Int)) = true := decide_eq_true c26
      clear c26
      obtain ⟨t130, A27, H⟩ := zbi H
      by_cases c28 : x6_1.length < 8796093022208
      ·rw [if_pos c28] at H
       have LMc28 := Aside0.mk c28
       clear c28
       obtain ⟨y131, hy131⟩ : ∃ y_ : List ByteArray, y_ = (x6_1 ++ [t130]) := ⟨_, rfl⟩
       replace H : (impl_messageKind_pack.l0 k1 y131 l1_4 (l1_4.length : Int) (wrap64 (x28_1 + 1)) a1_1 a1_2 a1_3 l1_4 a1_5) = some r := by first | (rw [hy131]; with_reducible exact H) | (have H2_ := (Option.bind_some _ _).symm.trans H; rw [hy131]; with_reducible exact H2_) | (have H2_ := (Option.bind_some _ _).symm.trans H; with_reducible exact H2_) | with_reducible exact H | (rw [hy131]; exact H) | exact H
       have Ny131 := Aside0.mk hy131
       clear hy131
       have H' := Aside0.mk H
       clear H
       have p129 : 0 ≤ (x28_1 : Int) := of_decide_eq_true (by first | (with_reducible assumption) | assumption)
       have q129 : x28_1 < (l1_4.length : Int) := of_decide_eq_true (by first | (with_reducible assumption) | assumption)
       obtain ⟨ad129, e129, hx129_0⟩ := Kd.at_string HR1_4.out x28_1 p129 q129
       cases e129
       try replace hx129_0 := (HB.out.cell (World.block_lt_of_cell? w _ hx129_0)).trans hx129_0
       replace p129 := eq_true p129
       replace q129 := eq_true q129
       go_wp2_with (first | ((with_reducible refine gate_callee (f := 153) rfl ?_); refine goesL_ (some 34) rfl rfl Tryz.func153 (by kernel_rfl) rfl #[.string (rdOf ByteArray.empty l1_4 x28_1)] rfl z5_1_ ?_; (with_reducible refine (impl_str.calls (rdOf ByteArray.empty l1_4 x28_1) t130 _ ?side1 A27.out).mono ?_); (case side1 => exact GlI.below hGI z5_0_); rintro e w29 ⟨rfl, hb⟩; refine ⟨_, rfl, ?_⟩; replace HO_6 := Aside0.mk (Kd.R_below (by (with_reducible repeat (first | apply Kd.R_alloc | apply Kd.R_drewN | apply Kd.R_drew)); exact HO_6.out) hb); replace BK119 := Aside0.mk (zbb BK119.out hb); replace BK120 := Aside0.mk (zbb BK120.out hb); replace BK121 := Aside0.mk (zbb BK121.out hb); replace HB := Aside0.mk (below_step z5_0_ hb); clear hb) | ((with_reducible refine gate_builtin (b := .append) (xs := #[.tmp 32, .tmp 35]) rfl ?_); at_builtin; refine Kd.R_append Kd.string (w0 := w) w.heap.size rfl (.tmp 32) (.tmp 35) 22 9 (.string ⟨#[]⟩) 16 rfl Tryz.underlying22 info9 rfl (by decide) (by omega) u6 x6_1 t130 [.string t130] (fun _ => True) (fun _ => False) rfl rfl ?aP (fun _ hk => hk.elim) ?aF ?aO ?aB ?aS ?aL ?_; (case aP => exact rfl); (case aB => exact z5_0_); (case aF => exact (fun _ _ => trivial)); (case aO => exact (by (with_reducible repeat (first | apply Kd.R_alloc | apply Kd.R_drewN | apply Kd.R_drew)); exact HO_6.out)); (case aS => exact (below_size z5_0_)); (case aL => have := LMc28.out; omega); intro v132 w30 ho hb hg hat; rw [← Ny131.out] at ho; have n0_ := Aside0.mk (blk_grown (g := gb119) (o := .cells #[] 111 (0, 0)) z5_2_ hg (Kd.R_ne HO_6.out BK119.out (by decide))); have n1_ := Aside0.mk (blk_grown (g := gb120) (o := .cells #[.int .i64 a1_0, .int .i64 a1_1, .int .i64 a1_2, .string a1_3, .slice (some ad129) l1_4.length c1_4, .string a1_5, .int .i64 a1_6, .int .i64 a1_7, .int .i64 a1_8, .int .i64 a1_9, .string a1_10, .int .i64 a1_11, .int .i64 a1_12] 28 (0, 0)) z5_3_ hg (Kd.R_ne HO_6.out BK120.out (by decide))); have n2_ := Aside0.mk (blk_grown (g := gb121) (o := .cells #[.int .i64 a1_1, .int .i64 a1_2, .string a1_3, .slice (some ad129) l1_4.length c1_4, .string a1_5] 24 (0, 0)) (by (with_reducible repeat (first | refine blk_drewN ?_ _ | refine blk_drew ?_ | refine blk_alloc ?_ _)); exact BK121.out) hg (Kd.R_ne HO_6.out BK121.out (by decide))); have n3_ := Aside0.mk (hb); have n4_ := Aside0.mk (ho); clear BK119; clear BK120; clear BK121; clear HB; clear HO_6; have BK119 := n0_; have BK120 := n1_; have BK121 := n2_; have HB := n3_; have HO133 := n4_; clear n0_ n1_ n2_ n3_ n4_; clear ho hb hg hat))
       go_roundg k1
       case measure => have := HK1.out; omega
       case rel => exact ⟨(y131), (wrap64 (x28_1 + 1)), (by first | rfl | (simp; done) | (simp [*]; done)), H', ⟨(by have := HK1.out; omega)⟩, ⟨(by (with_reducible repeat (first | apply Kd.R_alloc | apply Kd.R_drewN | apply Kd.R_drew)); exact HO133.out)⟩, ⟨z5_2_⟩, ⟨z5_3_⟩, ⟨(by (with_reducible repeat (first | refine blk_drewN ?_ _ | refine blk_drew ?_ | refine blk_alloc ?_ _)); exact BK121.out)⟩, ⟨z5_0_⟩⟩
      ·rw [if_neg c28] at H
       exact absurd H (by simp)
     ·rw [if_neg c26] at H
      exact absurd H (by simp)
    ·rw [if_neg c25] at H
     exact absurd H (by simp)
   ·rw [if_neg c24] at H
    have c24b0 : decide (x28_1 < (l1_4.length : Int)) = false := decide_eq_false c24
    clear c24
    obtain ⟨t134, A31, H⟩ := zbi H
    by_cases c32 : x6_1.length < 8796093022208
    ·rw [if_pos c32] at H
     have LMc32 := Aside0.mk c32
     clear c32
     obtain ⟨y135, hy135⟩ : ∃ y_ : List ByteArray, y_ = (x6_1 ++ [t134]) := ⟨_, rfl⟩
     replace H : ((strings_Join.f y135 (⟨#[32]⟩ : ByteArray)).bind fun t138 => (some t138)) = some r := by first | (rw [hy135]; with_reducible exact H) | (have H2_ := (Option.bind_some _ _).symm.trans H; rw [hy135]; with_reducible exact H2_) | (have H2_ := (Option.bind_some _ _).symm.trans H; with_reducible exact H2_) | with_reducible exact H | (rw [hy135]; exact H) | exact H
     have Ny135 := Aside0.mk hy135
     clear hy135
     obtain ⟨t138, A33, H⟩ := zbi H
     obtain rfl := Option.some.inj H
     have hnb34 := NB121_119.out
     have hnc34 := NB119_121.out
     have hnb35 := NB121_120.out
     have hnc35 := NB120_121.out
     obtain ⟨q36_0, q36_1, q36_2, q36_3, q36_4⟩ := zc5 BK121.out
     obtain ⟨f36_0, f36_1, f36_2, f36_3, f36_4⟩ := zf5 BK121.out
     go_wp2_with (first | ((with_reducible refine gate_callee (f := 153) rfl ?_); refine goesL_ (some 41) rfl rfl Tryz.func153 (by kernel_rfl) rfl #[.string a1_5] rfl z5_1_ ?_; (with_reducible refine (impl_str.calls a1_5 t134 _ ?side1 A31.out).mono ?_); (case side1 => exact GlI.below hGI z5_0_); rintro e w37 ⟨rfl, hb⟩; refine ⟨_, rfl, ?_⟩; replace HO_6 := Aside0.mk (Kd.R_below (by (with_reducible repeat (first | apply Kd.R_alloc | apply Kd.R_drewN | apply Kd.R_drew)); exact HO_6.out) hb); replace BK119 := Aside0.mk (zbb BK119.out hb); replace BK120 := Aside0.mk (zbb BK120.out hb); replace BK121 := Aside0.mk (zbb BK121.out hb); replace HB := Aside0.mk (below_step z5_0_ hb); clear hb) | ((with_reducible refine gate_builtin (b := .append) (xs := #[.tmp 38, .tmp 42]) rfl ?_); at_builtin; refine Kd.R_append Kd.string (w0 := w) w.heap.size rfl (.tmp 38) (.tmp 42) 22 9 (.string ⟨#[]⟩) 16 rfl Tryz.underlying22 info9 rfl (by decide) (by omega) u6 x6_1 t134 [.string t134] (fun _ => True) (fun _ => False) rfl rfl ?aP (fun _ hk => hk.elim) ?aF ?aO ?aB ?aS ?aL ?_; (case aP => exact rfl); (case aB => exact z5_0_); (case aF => exact (fun _ _ => trivial)); (case aO => exact (by (with_reducible repeat (first | apply Kd.R_alloc | apply Kd.R_drewN | apply Kd.R_drew)); exact HO_6.out)); (case aS => exact (below_size z5_0_)); (case aL => have := LMc32.out; omega); intro v136 w38 ho hb hg hat; rw [← Ny135.out] at ho; have n0_ := Aside0.mk (blk_grown (g := gb119) (o := .cells #[] 111 (0, 0)) z5_2_ hg (Kd.R_ne HO_6.out BK119.out (by decide))); have n1_ := Aside0.mk (blk_grown (g := gb120) (o := .cells #[.int .i64 a1_0, .int .i64 a1_1, .int .i64 a1_2, .string a1_3, .slice A1_4 l1_4.length c1_4, .string a1_5, .int .i64 a1_6, .int .i64 a1_7, .int .i64 a1_8, .int .i64 a1_9, .string a1_10, .int .i64 a1_11, .int .i64 a1_12] 28 (0, 0)) z5_3_ hg (Kd.R_ne HO_6.out BK120.out (by decide))); have n2_ := Aside0.mk (blk_grown (g := gb121) (o := .cells #[.int .i64 a1_1, .int .i64 a1_2, .string a1_3, .slice A1_4 l1_4.length c1_4, .string a1_5] 24 (0, 0)) (by (with_reducible repeat (first | refine blk_drewN ?_ _ | refine blk_drew ?_ | refine blk_alloc ?_ _)); exact BK121.out) hg (Kd.R_ne HO_6.out BK121.out (by decide))); have n3_ := Aside0.mk (hb); have n4_ := Aside0.mk (ho); clear BK119; clear BK120; clear BK121; clear HB; clear HO_6; have BK119 := n0_; have BK120 := n1_; have BK121 := n2_; have HB := n3_; have HO137 := n4_; clear n0_ n1_ n2_ n3_ n4_; clear ho hb hg hat; obtain ⟨Ao39, co39, eo39⟩ := Kd.R_slice HO137.out; subst eo39) | ((with_reducible refine gate_callee (f := 154) rfl ?_); refine goesL_ (some 44) rfl rfl Tryz.func154 (by kernel_rfl) rfl #[.slice Ao39 y135.length co39, .string (⟨#[32]⟩ : ByteArray)] rfl z5_1_ ?_; (with_reducible refine (strings_Join.calls _ _ y135 (⟨#[32]⟩ : ByteArray) t138 _ ?side1 ?side2 A33.out).mono ?_); (case side1 => exact (by repeat (first | exact (Kd.R_reads' HO137.out).2.2 | (with_reducible refine Kd.C_alloc ?_ _) | (with_reducible refine Kd.C_drewN ?_ _) | (with_reducible refine Kd.C_drew ?_)))); (case side2 => exact (Kd.R_reads' HO137.out).2.1); rintro e w40 ⟨rfl, hb⟩; refine ⟨_, rfl, ?_⟩; replace HO137 := Aside0.mk (Kd.R_below (by (with_reducible repeat (first | apply Kd.R_alloc | apply Kd.R_drewN | apply Kd.R_drew)); exact HO137.out) hb); replace BK119 := Aside0.mk (zbb BK119.out hb); replace BK120 := Aside0.mk (zbb BK120.out hb); replace BK121 := Aside0.mk (zbb BK121.out hb); replace HB := Aside0.mk (below_step z5_0_ hb); clear hb))
     go_ret
     exact ⟨(by first | rfl | (simp [errW_none, errW_some] <;> rfl) | (simp [*, errW_none, errW_some] <;> rfl)), z5_0_⟩
    ·rw [if_neg c32] at H
     exact absurd H (by simp)
/-! ### impl_in: function 155 -/
def impl_in.f (a0 : Int) (a1 : Int) (a2 : Int) : Option (Bool) := if a0 ≥ a1 then (some (decide (a0 ≤ a2))) else (some false)
set_option maxHeartbeats 8000000 in
set_option maxRecDepth 100000 in
theorem impl_in.calls (a0 : Int) (a1 : Int) (a2 : Int) (r : Bool) (w : World) (h : impl_in.f a0 a1 a2 = some r) :
  Calls Tryz.prog 155 #[.int .i64 a0, .int .i64 a1, .int .i64 a2] w fun e w' => e = .returned (.bool r) ∧ Drawn0 w w' := by
 have H : (if a0 ≥ a1 then (some (decide (a0 ≤ a2))) else (some false)) = some r := h
 clear h
 by_cases c4 : a0 ≥ a1
 ·rw [if_pos c4] at H
  have c4b0 : decide (a1 ≤ a0) = true := decide_eq_true c4
  clear c4
  obtain rfl := Option.some.inj H
  go_enter Tryz.func155, Tryz.ntmps155
  go_wp2
  go_ret
  exact ⟨(by first | rfl | (simp; done) | (simp [*]; done)), (by repeat (first | exact Drawn0.refl _ | apply Drawn0.step))⟩
 ·rw [if_neg c4] at H
  have c4b0 : decide (a1 ≤ a0) = false := decide_eq_false c4
  clear c4
  obtain rfl := Option.some.inj H
  go_enter Tryz.func155, Tryz.ntmps155
  go_wp2
  go_ret
  exact ⟨(by first | rfl | (simp; done) | (simp [*]; done)), (by repeat (first | exact Drawn0.refl _ | apply Drawn0.step))⟩
end Go.Proofs.YtnlembpmcbnpnaaGreatDoor.X
/- Contracts of strings.IndexByte, Index, Contains and Cut in the form in which this seat's printed functions are told. Condition: texts shorter than 4294967281 bytes. -/
namespace Go.Proofs.YtnlembpmcbnpnaaGreatDoor.X
open Go.RowKit Go.Proofs.YtnlembpmcbnpnaaGreatDoorW.PrintWords
def strings_IndexByte.f (a0 : ByteArray) (a1 : Int) : Option Int := some (Lib.indexByte a0.data.toList a1.toNat.toUInt8)
theorem strings_IndexByte.calls (a0 : ByteArray) (a1 : Int) (r : Int) (w : World) (h : strings_IndexByte.f a0 a1 = some r) :
    Calls Tryz.prog 172 #[.string a0, .int .u8 a1] w fun e w' => e = .returned (.int .i64 r) ∧ Drawn0 w w' := by
  obtain rfl := Option.some.inj h
  refine (Tryz.strings_IndexByte a0 a1 w).mono ?_
  rintro e w' ⟨rfl, rfl⟩
  exact ⟨rfl, Drawn0.refl _⟩
def strings_Index.f (a0 a1 : ByteArray) : Option Int := if a0.size < 4294967281 then some (Lib.index a0.data.toList a1.data.toList) else none
theorem strings_Index.calls (a0 a1 : ByteArray) (r : Int) (w : World) (hGM : GlM w) (h : strings_Index.f a0 a1 = some r) :
    Calls Tryz.prog 179 #[.string a0, .string a1] w fun e w' => e = .returned (.int .i64 r) ∧ Drawn0 w w' := by
  unfold strings_Index.f at h
  split at h
  · rename_i hs
    obtain rfl := Option.some.inj h
    obtain ⟨m, hm⟩ := hGM
    refine (Tryz.strings_Index a0 a1 m w hs hm).mono ?_
    rintro e w' ⟨rfl, rfl⟩
    exact ⟨rfl, Drawn0.refl _⟩
  · cases h
def strings_Contains.f (a0 a1 : ByteArray) : Option Bool := if a0.size < 4294967281 then some (Lib.contains a0.data.toList a1.data.toList) else none
theorem strings_Contains.calls (a0 a1 : ByteArray) (r : Bool) (w : World) (hGM : GlM w) (h : strings_Contains.f a0 a1 = some r) :
    Calls Tryz.prog 173 #[.string a0, .string a1] w fun e w' => e = .returned (.bool r) ∧ Drawn0 w w' := by
  unfold strings_Contains.f at h
  split at h
  · rename_i hs
    obtain rfl := Option.some.inj h
    obtain ⟨m, hm⟩ := hGM
    refine (Tryz.strings_Contains a0 a1 m w hs hm).mono ?_
    rintro e w' ⟨rfl, rfl⟩
    exact ⟨rfl, Drawn0.refl _⟩
  · cases h
def strings_Cut.f (a0 a1 : ByteArray) : Option (ByteArray × ByteArray × Bool) :=
  if a0.size < 4294967281 then some (⟨(Lib.cut a0.data.toList a1.data.toList).1.toArray⟩, ⟨(Lib.cut a0.data.toList a1.data.toList).2.1.toArray⟩, (Lib.cut a0.data.toList a1.data.toList).2.2) else none
theorem strings_Cut.calls (a0 a1 : ByteArray) (r1 : ByteArray) (r2 : ByteArray) (r3 : Bool) (w : World) (hGM : GlM w) (h : strings_Cut.f a0 a1 = some (r1, r2, r3)) :
    Calls Tryz.prog 61 #[.string a0, .string a1] w fun e w' => e = .returned (.tuple #[.string r1, .string r2, .bool r3]) ∧ Drawn0 w w' := by
  unfold strings_Cut.f at h
  split at h
  · rename_i hs
    have h := Option.some.inj h
    simp only [Prod.mk.injEq] at h
    obtain ⟨rfl, rfl, rfl⟩ := h
    obtain ⟨m, hm⟩ := hGM
    refine (Tryz.strings_Cut a0 a1 m w hs hm).mono ?_
    rintro e w' ⟨rfl, n, rfl⟩
    exact ⟨rfl, ⟨⟨n, rfl⟩⟩⟩
  · cases h
end Go.Proofs.YtnlembpmcbnpnaaGreatDoor.X
/- Contracts of strings.Split and strings.SplitAfter at a separator of one byte or more, in the form in which this seat's printed functions are told. Condition: texts shorter than 4294967281 bytes. -/
namespace Go.Proofs.YtnlembpmcbnpnaaGreatDoor.X
open Go.RowKit Go.Proofs.YtnlembpmcbnpnaaGreatDoorW.PrintWords
theorem info_str : (Tryz.prog.info? 9).map (fun i => (i.zero, i.size, i.bytes)) = some (some (.string ByteArray.empty), 1, 16) := by kernel_rfl
theorem cells_row (w : World) (ps : List ByteArray) (N : Nat) (hN : ps.length ≤ N) (hm : N ≤ maxLen) :
    Kd.R Kd.string 9 (w.alloc (.cells (Lib.cellsOf ps N) 9)) w.heap.size (fun _ => True) (.slice (some ⟨w.heap.size, 0, none⟩) ps.length N) ps := by
  refine Kd.R_of_own ⟨by simp [encs], .inr ⟨w.heap.size, N, Lib.cellsOf ps N, rfl, Nat.le_refl _, heap_alloc_new w _, hN, hm, by rw [Lib.cellsOf_size hN, Nat.mul_one], ?_⟩⟩ (fun _ _ => trivial)
  simp [Lib.cellsOf, encs]
def pieces (s sep : ByteArray) : Nat := min (Lib.countB s sep + 1) (s.size + 1)
theorem pieces_eq (s sep : ByteArray) : (pieces s sep : Int) = min (if (-1 : Int) < 0 then (Lib.countB s sep : Int) + 1 else -1) ((s.size : Int) + 1) := by
  unfold pieces
  simp only [show ((-1 : Int) < 0) from by decide, if_true]
  omega
def strings_Split.f (a0 a1 : ByteArray) : Option (List ByteArray) := if a0.size < 4294967281 ∧ 1 ≤ a1.size then some (Lib.splitB a1 0 (pieces a0 a1 - 1) a0) else none
def strings_SplitAfter.f (a0 a1 : ByteArray) : Option (List ByteArray) := if a0.size < 4294967281 ∧ 1 ≤ a1.size then some (Lib.splitB a1 a1.size (pieces a0 a1 - 1) a0) else none
theorem splitB_len (sep : ByteArray) (sv : Nat) : ∀ (k : Nat) (s : ByteArray), (Lib.splitB sep sv k s).length ≤ k + 1
  | 0, s => by simp [Lib.splitB]
  | k + 1, s => by
    unfold Lib.splitB
    split
    · simp
    · simp only [List.length_cons]
      have := splitB_len sep sv k (s.extract ((Lib.indexB s sep).toNat + sep.size) s.size)
      omega
theorem genSplit_all (a0 a1 : ByteArray) (sv : Nat) (w : World) (hGM : GlM w) (hs : a0.size < 4294967281) (h1 : 1 ≤ a1.size) (hsv : sv ≤ a1.size) :
    Calls Tryz.prog 178 #[.string a0, .string a1, .int .i64 sv, .int .i64 (-1)] w fun e w' => ∃ v : Value, e = .returned v ∧ Kd.R Kd.string 9 w' w.heap.size (fun _ => True) v (Lib.splitB a1 sv (pieces a0 a1 - 1) a0) ∧ Below w.heap.size w w' := by
  obtain ⟨m, hm⟩ := hGM
  refine (Any.strings_genSplit { Tryz.lays221 with } info_str a0 a1 sv (-1) (pieces a0 a1) m w hs hm h1 hsv (by decide) (by decide) (pieces_eq a0 a1)).mono ?_
  rintro e w' ⟨rfl, rfl⟩
  have hl := splitB_len a1 sv (pieces a0 a1 - 1) a0
  have hp : 1 ≤ pieces a0 a1 ∧ pieces a0 a1 ≤ a0.size + 1 := by unfold pieces; omega
  exact ⟨_, rfl, cells_row w _ _ (by omega) (by simp only [maxLen]; omega), (Below.refl _ _).alloc (Nat.le_refl _) _⟩
set_option maxHeartbeats 1000000 in
theorem strings_Split.calls (a0 a1 : ByteArray) (r : List ByteArray) (w : World) (hGM : GlM w) (h : strings_Split.f a0 a1 = some r) :
    Calls Tryz.prog 166 #[.string a0, .string a1] w fun e w' => ∃ v0_ : Value, e = .returned (v0_) ∧ Kd.R Kd.string 9 w' w.heap.size (fun _ => True) v0_ r ∧ Below w.heap.size w w' := by
  unfold strings_Split.f at h
  split at h
  · rename_i hs
    obtain rfl := Option.some.inj h
    obtain ⟨hs0, hs1⟩ := hs
    have HG := Lib.hid hGM
    clear hGM
    have H1 := Lib.hid hs1
    have H0 := Lib.hid hs0
    clear hs0 hs1
    go_enter Tryz.func166, Tryz.ntmps166
    go_wp2_with fail
    refine (genSplit_all a0 a1 0 _ HG.out H0.out H1.out (Nat.zero_le _)).mono ?_
    rintro e w1 ⟨v, rfl, hv, hb⟩
    have HV := Lib.hid hv
    have HB := Lib.hid hb
    clear hv hb
    go_wp2_with fail
    go_ret
    exact ⟨v, rfl, HV.out, HB.out⟩
  · cases h
set_option maxHeartbeats 1000000 in
theorem strings_SplitAfter.calls (a0 a1 : ByteArray) (r : List ByteArray) (w : World) (hGM : GlM w) (h : strings_SplitAfter.f a0 a1 = some r) :
    Calls Tryz.prog 180 #[.string a0, .string a1] w fun e w' => ∃ v0_ : Value, e = .returned (v0_) ∧ Kd.R Kd.string 9 w' w.heap.size (fun _ => True) v0_ r ∧ Below w.heap.size w w' := by
  unfold strings_SplitAfter.f at h
  split at h
  · rename_i hs
    obtain rfl := Option.some.inj h
    obtain ⟨hs0, hs1⟩ := hs
    have HG := Lib.hid hGM
    clear hGM
    have H1 := Lib.hid hs1
    have H0 := Lib.hid hs0
    clear hs0 hs1
    go_enter Tryz.func180, Tryz.ntmps180
    go_wp2_with fail
    refine (genSplit_all a0 a1 a1.size _ HG.out H0.out H1.out (Nat.le_refl _)).mono ?_
    rintro e w1 ⟨v, rfl, hv, hb⟩
    have HV := Lib.hid hv
    have HB := Lib.hid hb
    clear hv hb
    go_wp2_with fail
    go_ret
    exact ⟨v, rfl, HV.out, HB.out⟩
  · cases h
end Go.Proofs.YtnlembpmcbnpnaaGreatDoor.X
namespace Go.Proofs.YtnlembpmcbnpnaaGreatDoor.X
open Go.RowKit Go.Proofs.YtnlembpmcbnpnaaGreatDoorW.PrintWords Go.Proofs.YtnlembpmcbnpnaaGreatDoorW.PrintLast Go.Proofs.YtnlembpmcbnpnaaGreatDoorW.PrintMore
set_option linter.unusedVariables false
set_option linter.unusedSimpArgs false
/-! ### impl_isLetter: function 169 -/
def impl_isLetter.f (a0 : Int) : Option (Bool) := if a0 ≥ 97 then (some (decide (a0 ≤ 122))) else (some false)
set_option maxHeartbeats 8000000 in
set_option maxRecDepth 100000 in
theorem impl_isLetter.calls (a0 : Int) (r : Bool) (w : World) (h : impl_isLetter.f a0 = some r) :
  Calls Tryz.prog 169 #[.int .u8 a0] w fun e w' => e = .returned (.bool r) ∧ Drawn0 w w' := by
 have H : (if a0 ≥ 97 then (some (decide (a0 ≤ 122))) else (some false)) = some r := h
 clear h
 by_cases c2 : a0 ≥ 97
 ·rw [if_pos c2] at H
  have c2b0 : decide (97 ≤ a0) = true := decide_eq_true c2
  clear c2
  obtain rfl := Option.some.inj H
  go_enter Tryz.func169, Tryz.ntmps169
  go_wp2
  go_ret
  exact ⟨(by first | rfl | (simp; done) | (simp [*]; done)), (by repeat (first | exact Drawn0.refl _ | apply Drawn0.step))⟩
 ·rw [if_neg c2] at H
  have c2b0 : decide (97 ≤ a0) = false := decide_eq_false c2
  clear c2
  obtain rfl := Option.some.inj H
  go_enter Tryz.func169, Tryz.ntmps169
  go_wp2
  go_ret
  exact ⟨(by first | rfl | (simp; done) | (simp [*]; done)), (by repeat (first | exact Drawn0.refl _ | apply Drawn0.step))⟩
/-! ### impl_isDigit: function 170 -/
def impl_isDigit.f (a0 : Int) : Option (Bool) := if a0 ≥ 48 then (some (decide (a0 ≤ 57))) else (some false)
set_option maxHeartbeats 8000000 in
set_option maxRecDepth 100000 in
theorem impl_isDigit.calls (a0 : Int) (r : Bool) (w : World) (h : impl_isDigit.f a0 = some r) :
  Calls Tryz.prog 170 #[.int .u8 a0] w fun e w' => e = .returned (.bool r) ∧ Drawn0 w w' := by
 have H : (if a0 ≥ 48 then (some (decide (a0 ≤ 57))) else (some false)) = some r := h
 clear h
 by_cases c2 : a0 ≥ 48
 ·rw [if_pos c2] at H
  have c2b0 : decide (48 ≤ a0) = true := decide_eq_true c2
  clear c2
  obtain rfl := Option.some.inj H
  go_enter Tryz.func170, Tryz.ntmps170
  go_wp2
  go_ret
  exact ⟨(by first | rfl | (simp; done) | (simp [*]; done)), (by repeat (first | exact Drawn0.refl _ | apply Drawn0.step))⟩
 ·rw [if_neg c2] at H
  have c2b0 : decide (48 ≤ a0) = false := decide_eq_false c2
  clear c2
  obtain rfl := Option.some.inj H
  go_enter Tryz.func170, Tryz.ntmps170
  go_wp2
  go_ret
  exact ⟨(by first | rfl | (simp; done) | (simp [*]; done)), (by repeat (first | exact Drawn0.refl _ | apply Drawn0.step))⟩
/-! ### impl_ValidDomain_1: function 168 -/
def impl_ValidDomain_1.f (a0 : Int) : Option (Bool) := (impl_isLetter.f a0).bind fun t139 => (if t139 = true then (some true) else ((impl_isDigit.f a0).bind fun t140 => (if t140 = true then (some true) else (some (a0 == 45)))))
set_option maxHeartbeats 8000000 in
set_option maxRecDepth 100000 in
theorem impl_ValidDomain_1.calls (a0 : Int) (r : Bool) (w : World) (h : impl_ValidDomain_1.f a0 = some r) :
  Calls Tryz.prog 168 #[.int .u8 a0] w fun e w' => e = .returned (.bool r) ∧ Drawn0 w w' := by
 have H : ((impl_isLetter.f a0).bind fun t139 => (if t139 = true then (some true) else ((impl_isDigit.f a0).bind fun t140 => (if t140 = true then (some true) else (some (a0 == 45)))))) = some r := h
 clear h
 obtain ⟨t139, A2, H⟩ := zbi H
 by_cases c3 : t139 = true
 ·subst c3
  rw [if_pos rfl] at H
  obtain rfl := Option.some.inj H
  go_enter Tryz.func168, Tryz.ntmps168
  go_wp2_with (first | ((with_reducible refine gate_callee (f := 169) rfl ?_); refine goesL_ (some 4) rfl rfl Tryz.func169 (by kernel_rfl) rfl #[.int .u8 a0] rfl (by (try simp only [List.map_toArray, List.map_cons, List.map_nil]); first | done | rfl | (simp only [List.length_drop, List.length_take]; rfl)) ?_; (with_reducible refine (impl_isLetter.calls a0 true _ A2.out).mono ?_); rintro e w' ⟨rfl, ⟨nd, rfl⟩⟩; refine ⟨_, rfl, ?_⟩))
  go_ret
  exact ⟨(by first | rfl | (simp; done) | (simp [*]; done)), (by repeat (first | exact Drawn0.refl _ | apply Drawn0.step))⟩
 ·replace c3 := Bool.eq_false_iff.mpr c3
  subst c3
  rw [if_neg (show ¬ (false = true) by decide)] at H
  obtain ⟨t140, A4, H⟩ := zbi H
  by_cases c5 : t140 = true
  ·subst c5
   rw [if_pos rfl] at H
   obtain rfl := Option.some.inj H
   go_enter Tryz.func168, Tryz.ntmps168
   go_wp2_with (first | ((with_reducible refine gate_callee (f := 169) rfl ?_); refine goesL_ (some 4) rfl rfl Tryz.func169 (by kernel_rfl) rfl #[.int .u8 a0] rfl (by (try simp only [List.map_toArray, List.map_cons, List.map_nil]); first | done | rfl | (simp only [List.length_drop, List.length_take]; rfl)) ?_; (with_reducible refine (impl_isLetter.calls a0 false _ A2.out).mono ?_); rintro e w' ⟨rfl, ⟨nd, rfl⟩⟩; refine ⟨_, rfl, ?_⟩) | (go_at_call 170; (with_reducible refine (impl_isDigit.calls a0 true _ A4.out).mono ?_); rintro e w' ⟨rfl, ⟨nd, rfl⟩⟩))
   go_ret
   exact ⟨(by first | rfl | (simp; done) | (simp [*]; done)), (by repeat (first | exact Drawn0.refl _ | apply Drawn0.step))⟩
  ·replace c5 := Bool.eq_false_iff.mpr c5
   subst c5
   rw [if_neg (show ¬ (false = true) by decide)] at H
   obtain rfl := Option.some.inj H
   go_enter Tryz.func168, Tryz.ntmps168
   go_wp2_with (first | ((with_reducible refine gate_callee (f := 169) rfl ?_); refine goesL_ (some 4) rfl rfl Tryz.func169 (by kernel_rfl) rfl #[.int .u8 a0] rfl (by (try simp only [List.map_toArray, List.map_cons, List.map_nil]); first | done | rfl | (simp only [List.length_drop, List.length_take]; rfl)) ?_; (with_reducible refine (impl_isLetter.calls a0 false _ A2.out).mono ?_); rintro e w' ⟨rfl, ⟨nd, rfl⟩⟩; refine ⟨_, rfl, ?_⟩) | (go_at_call 170; (with_reducible refine (impl_isDigit.calls a0 false _ A4.out).mono ?_); rintro e w' ⟨rfl, ⟨nd, rfl⟩⟩))
   go_ret
   exact ⟨(by first | rfl | (simp; done) | (simp [*]; done)), (by repeat (first | exact Drawn0.refl _ | apply Drawn0.step))⟩
end Go.Proofs.YtnlembpmcbnpnaaGreatDoor.X
namespace Go.Proofs.YtnlembpmcbnpnaaGreatDoor.X
open Go.RowKit Go.Proofs.YtnlembpmcbnpnaaGreatDoorW.PrintWords Go.Proofs.YtnlembpmcbnpnaaGreatDoorW.PrintLast Go.Proofs.YtnlembpmcbnpnaaGreatDoorW.PrintMore
set_option linter.unusedVariables false
set_option linter.unusedSimpArgs false
/-! ### impl_ValidAddress_1: function 171 -/
def impl_ValidAddress_1.f (a0 : Int) : Option (Bool) := (impl_isLetter.f a0).bind fun t141 => (if t141 = true then (some true) else ((impl_isDigit.f a0).bind fun t142 => (if t142 = true then (some true) else ((strings_IndexByte.f (⟨#[46, 43, 95, 45]⟩ : ByteArray) a0).bind fun t143 => (some (decide (t143 ≥ 0)))))))
set_option maxHeartbeats 8000000 in
set_option maxRecDepth 100000 in
theorem impl_ValidAddress_1.calls (a0 : Int) (r : Bool) (w : World) (h : impl_ValidAddress_1.f a0 = some r) :
  Calls Tryz.prog 171 #[.int .u8 a0] w fun e w' => e = .returned (.bool r) ∧ Drawn0 w w' := by
 have H := h
 unfold impl_ValidAddress_1.f at H
 clear h
 obtain ⟨t141, A2, H⟩ := zbi H
 by_cases c3 : t141 = true
 ·subst c3
  rw [if_pos rfl] at H
  obtain rfl := Option.some.inj H
  go_enter Tryz.func171, Tryz.ntmps171
  go_wp2_with (first | ((with_reducible refine gate_callee (f := 169) rfl ?_); refine goesL_ (some 4) rfl rfl Tryz.func169 (by kernel_rfl) rfl #[.int .u8 a0] rfl (by (try simp only [List.map_toArray, List.map_cons, List.map_nil]); first | done | rfl | (simp only [List.length_drop, List.length_take]; rfl)) ?_; (with_reducible refine (impl_isLetter.calls a0 true _ A2.out).mono ?_); rintro e w' ⟨rfl, ⟨nd, rfl⟩⟩; refine ⟨_, rfl, ?_⟩))
  go_ret
  exact ⟨(by first | rfl | (simp; done) | (simp [*]; done)), (by repeat (first | exact Drawn0.refl _ | apply Drawn0.step))⟩
 ·replace c3 := Bool.eq_false_iff.mpr c3
  subst c3
  rw [if_neg (show ¬ (false = true) by decide)] at H
  obtain ⟨t142, A4, H⟩ := zbi H
  by_cases c5 : t142 = true
  ·subst c5
   rw [if_pos rfl] at H
   obtain rfl := Option.some.inj H
   go_enter Tryz.func171, Tryz.ntmps171
   go_wp2_with (first | ((with_reducible refine gate_callee (f := 169) rfl ?_); refine goesL_ (some 4) rfl rfl Tryz.func169 (by kernel_rfl) rfl #[.int .u8 a0] rfl (by (try simp only [List.map_toArray, List.map_cons, List.map_nil]); first | done | rfl | (simp only [List.length_drop, List.length_take]; rfl)) ?_; (with_reducible refine (impl_isLetter.calls a0 false _ A2.out).mono ?_); rintro e w' ⟨rfl, ⟨nd, rfl⟩⟩; refine ⟨_, rfl, ?_⟩) | (go_at_call 170; (with_reducible refine (impl_isDigit.calls a0 true _ A4.out).mono ?_); rintro e w' ⟨rfl, ⟨nd, rfl⟩⟩))
   go_ret
   exact ⟨(by first | rfl | (simp; done) | (simp [*]; done)), (by repeat (first | exact Drawn0.refl _ | apply Drawn0.step))⟩
  ·replace c5 := Bool.eq_false_iff.mpr c5
   subst c5
   rw [if_neg (show ¬ (false = true) by decide)] at H
   obtain ⟨t143, A6, H⟩ := zbi H
   obtain rfl := Option.some.inj H
   go_enter Tryz.func171, Tryz.ntmps171
   go_wp2_with (first | ((with_reducible refine gate_callee (f := 169) rfl ?_); refine goesL_ (some 4) rfl rfl Tryz.func169 (by kernel_rfl) rfl #[.int .u8 a0] rfl (by (try simp only [List.map_toArray, List.map_cons, List.map_nil]); first | done | rfl | (simp only [List.length_drop, List.length_take]; rfl)) ?_; (with_reducible refine (impl_isLetter.calls a0 false _ A2.out).mono ?_); rintro e w' ⟨rfl, ⟨nd, rfl⟩⟩; refine ⟨_, rfl, ?_⟩) | (go_at_call 170; (with_reducible refine (impl_isDigit.calls a0 false _ A4.out).mono ?_); rintro e w' ⟨rfl, ⟨nd, rfl⟩⟩) | (go_at_call 172; (with_reducible refine (strings_IndexByte.calls (⟨#[46, 43, 95, 45]⟩ : ByteArray) a0 t143 _ A6.out).mono ?_); rintro e w' ⟨rfl, ⟨nd, rfl⟩⟩))
   go_ret
   exact ⟨(by first | rfl | (simp; done) | (simp [*]; done)), (by repeat (first | exact Drawn0.refl _ | apply Drawn0.step))⟩
end Go.Proofs.YtnlembpmcbnpnaaGreatDoor.X
/- Contracts of impl.all, one for each function that the program hands to it: every byte of the text meets it. Condition: a text within the model's bound. -/
namespace Go.Proofs.YtnlembpmcbnpnaaGreatDoor.X
open Go.RowKit Go.Proofs.YtnlembpmcbnpnaaGreatDoorW.PrintWords
def allB (p : Int → Bool) (s : ByteArray) : Bool := s.data.toList.all fun c => p (c.toNat : Int)
theorem allB_iff (p : Int → Bool) (s : ByteArray) : allB p s = true ↔ ∀ j : Nat, j < s.size → p (bt s j) = true := by
  unfold allB
  rw [List.all_eq_true]
  constructor
  · intro h j hj
    have hl : j < s.data.toList.length := by rw [data_length]; exact hj
    have := h s.data.toList[j] (List.getElem_mem hl)
    unfold bt
    rw [dif_pos (show (j : Int).toNat < s.size by simpa using hj)]
    exact this
  · intro h c hc
    obtain ⟨j, hj, rfl⟩ := List.getElem_of_mem hc
    have hj' : j < s.size := by rw [data_length] at hj; exact hj
    have := h j hj'
    unfold bt at this
    rw [dif_pos (show (j : Int).toNat < s.size by simpa using hj')] at this
    exact this
set_option maxHeartbeats 2000000 in
theorem all_any_170 (p : Int → Bool) (hK : ∀ (c : Int) (w : World), 0 ≤ c → c ≤ 255 → Calls Tryz.prog 170 #[.int .u8 c] w fun e w' => e = .returned (.bool (p c)) ∧ Drawn0 w w') (s : ByteArray) (w : World) (hs : s.size ≤ 9223372036854775807) :
    Calls Tryz.prog 167 #[.string s, .func (.func 170) #[] #[]] w fun e w' => e = .returned (.bool (allB p s)) ∧ Drawn0 w w' := by
  have HK := Lib.hid hK
  clear hK
  go_enter Tryz.func167, Tryz.ntmps167
  go_wp2
  go_loopw [8] (fun v W => ∃ i : Int, 0 ≤ i ∧ i ≤ s.size ∧ v = .int .i64 i ∧ Aside0 (∀ j : Nat, (j : Int) < i → p (bt s j) = true) ∧ Drawn0 w W) (fun v _ => s.size - (intOf v).toNat)
  case atStart => exact ⟨0, Int.le_refl _, by omega, rfl, ⟨fun j hj => absurd hj (by omega)⟩, Drawn0.refl _⟩
  case round =>
    obtain ⟨i, h0, hk, rfl, hp, hd⟩ := hrel
    obtain ⟨⟨n, rfl⟩⟩ := hd
    by_cases hlt : i < (s.size : Int)
    · have HB := Lib.hid (bt_range s i)
      have HL := Lib.hid hlt
      have H0 := Lib.hid h0
      have hx5 := bt_at s i
      have c3b0 : decide (i < (s.size : Int)) = true := decide_eq_true hlt
      replace h0 := eq_true h0
      replace hlt := eq_true hlt
      cases hpc : p (bt s i) with
      | true =>
        have HP := Lib.hid hpc
        clear hpc
        go_wp2_with fail
        refine (HK.out _ _ HB.out.1 HB.out.2).mono ?_
        rw [HP.out]
        rintro e w' ⟨rfl, ⟨nd, rfl⟩⟩
        go_wp2_with fail
        have h0' := H0.out
        have hl' := HL.out
        have key : ∀ j : Nat, (j : Int) < wrap64 (i + 1) → p (bt s j) = true := by
          intro j hj
          by_cases h : (j : Int) < i
          · exact hp.out j h
          · obtain rfl : i = j := by unfold wrap64 at hj; omega
            exact HP.out
        go_roundw
        case rel => exact ⟨wrap64 (i + 1), by unfold wrap64; omega, by unfold wrap64; omega, rfl, ⟨key⟩, by repeat (first | exact Drawn0.refl _ | apply Drawn0.step)⟩
        case measure => simp only [intOf, wrap64]; omega
      | false =>
        have HP := Lib.hid hpc
        clear hpc
        go_wp2_with fail
        refine (HK.out _ _ HB.out.1 HB.out.2).mono ?_
        rw [HP.out]
        rintro e w' ⟨rfl, ⟨nd, rfl⟩⟩
        go_wp2_with fail
        go_ret
        refine ⟨?_, by repeat (first | exact Drawn0.refl _ | apply Drawn0.step)⟩
        have : allB p s = false := by
          rcases Bool.eq_false_or_eq_true (allB p s) with h | h
          · obtain ⟨j, hj⟩ := Int.eq_ofNat_of_zero_le H0.out
            have hl' := HL.out
            rw [hj] at HP hl'
            rw [(allB_iff p s).1 h j (by omega)] at HP; exact absurd HP.out (by simp)
          · exact h
        rw [this]; rfl
    · have c3b0 : decide (i < (s.size : Int)) = false := decide_eq_false hlt
      have HL := Lib.hid hlt
      clear hlt
      go_wp2
      go_ret
      refine ⟨?_, by repeat (first | exact Drawn0.refl _ | apply Drawn0.step)⟩
      have hl' := HL.out
      have : allB p s = true := (allB_iff p s).2 fun j hj => hp.out j (by omega)
      rw [this]; rfl
set_option maxHeartbeats 2000000 in
theorem all_any_168 (p : Int → Bool) (hK : ∀ (c : Int) (w : World), 0 ≤ c → c ≤ 255 → Calls Tryz.prog 168 #[.int .u8 c] w fun e w' => e = .returned (.bool (p c)) ∧ Drawn0 w w') (s : ByteArray) (w : World) (hs : s.size ≤ 9223372036854775807) :
    Calls Tryz.prog 167 #[.string s, .func (.func 168) #[] #[]] w fun e w' => e = .returned (.bool (allB p s)) ∧ Drawn0 w w' := by
  have HK := Lib.hid hK
  clear hK
  go_enter Tryz.func167, Tryz.ntmps167
  go_wp2
  go_loopw [8] (fun v W => ∃ i : Int, 0 ≤ i ∧ i ≤ s.size ∧ v = .int .i64 i ∧ Aside0 (∀ j : Nat, (j : Int) < i → p (bt s j) = true) ∧ Drawn0 w W) (fun v _ => s.size - (intOf v).toNat)
  case atStart => exact ⟨0, Int.le_refl _, by omega, rfl, ⟨fun j hj => absurd hj (by omega)⟩, Drawn0.refl _⟩
  case round =>
    obtain ⟨i, h0, hk, rfl, hp, hd⟩ := hrel
    obtain ⟨⟨n, rfl⟩⟩ := hd
    by_cases hlt : i < (s.size : Int)
    · have HB := Lib.hid (bt_range s i)
      have HL := Lib.hid hlt
      have H0 := Lib.hid h0
      have hx5 := bt_at s i
      have c3b0 : decide (i < (s.size : Int)) = true := decide_eq_true hlt
      replace h0 := eq_true h0
      replace hlt := eq_true hlt
      cases hpc : p (bt s i) with
      | true =>
        have HP := Lib.hid hpc
        clear hpc
        go_wp2_with fail
        refine (HK.out _ _ HB.out.1 HB.out.2).mono ?_
        rw [HP.out]
        rintro e w' ⟨rfl, ⟨nd, rfl⟩⟩
        go_wp2_with fail
        have h0' := H0.out
        have hl' := HL.out
        have key : ∀ j : Nat, (j : Int) < wrap64 (i + 1) → p (bt s j) = true := by
          intro j hj
          by_cases h : (j : Int) < i
          · exact hp.out j h
          · obtain rfl : i = j := by unfold wrap64 at hj; omega
            exact HP.out
        go_roundw
        case rel => exact ⟨wrap64 (i + 1), by unfold wrap64; omega, by unfold wrap64; omega, rfl, ⟨key⟩, by repeat (first | exact Drawn0.refl _ | apply Drawn0.step)⟩
        case measure => simp only [intOf, wrap64]; omega
      | false =>
        have HP := Lib.hid hpc
        clear hpc
        go_wp2_with fail
        refine (HK.out _ _ HB.out.1 HB.out.2).mono ?_
        rw [HP.out]
        rintro e w' ⟨rfl, ⟨nd, rfl⟩⟩
        go_wp2_with fail
        go_ret
        refine ⟨?_, by repeat (first | exact Drawn0.refl _ | apply Drawn0.step)⟩
        have : allB p s = false := by
          rcases Bool.eq_false_or_eq_true (allB p s) with h | h
          · obtain ⟨j, hj⟩ := Int.eq_ofNat_of_zero_le H0.out
            have hl' := HL.out
            rw [hj] at HP hl'
            rw [(allB_iff p s).1 h j (by omega)] at HP; exact absurd HP.out (by simp)
          · exact h
        rw [this]; rfl
    · have c3b0 : decide (i < (s.size : Int)) = false := decide_eq_false hlt
      have HL := Lib.hid hlt
      clear hlt
      go_wp2
      go_ret
      refine ⟨?_, by repeat (first | exact Drawn0.refl _ | apply Drawn0.step)⟩
      have hl' := HL.out
      have : allB p s = true := (allB_iff p s).2 fun j hj => hp.out j (by omega)
      rw [this]; rfl
set_option maxHeartbeats 2000000 in
theorem all_any_171 (p : Int → Bool) (hK : ∀ (c : Int) (w : World), 0 ≤ c → c ≤ 255 → Calls Tryz.prog 171 #[.int .u8 c] w fun e w' => e = .returned (.bool (p c)) ∧ Drawn0 w w') (s : ByteArray) (w : World) (hs : s.size ≤ 9223372036854775807) :
    Calls Tryz.prog 167 #[.string s, .func (.func 171) #[] #[]] w fun e w' => e = .returned (.bool (allB p s)) ∧ Drawn0 w w' := by
  have HK := Lib.hid hK
  clear hK
  go_enter Tryz.func167, Tryz.ntmps167
  go_wp2
  go_loopw [8] (fun v W => ∃ i : Int, 0 ≤ i ∧ i ≤ s.size ∧ v = .int .i64 i ∧ Aside0 (∀ j : Nat, (j : Int) < i → p (bt s j) = true) ∧ Drawn0 w W) (fun v _ => s.size - (intOf v).toNat)
  case atStart => exact ⟨0, Int.le_refl _, by omega, rfl, ⟨fun j hj => absurd hj (by omega)⟩, Drawn0.refl _⟩
  case round =>
    obtain ⟨i, h0, hk, rfl, hp, hd⟩ := hrel
    obtain ⟨⟨n, rfl⟩⟩ := hd
    by_cases hlt : i < (s.size : Int)
    · have HB := Lib.hid (bt_range s i)
      have HL := Lib.hid hlt
      have H0 := Lib.hid h0
      have hx5 := bt_at s i
      have c3b0 : decide (i < (s.size : Int)) = true := decide_eq_true hlt
      replace h0 := eq_true h0
      replace hlt := eq_true hlt
      cases hpc : p (bt s i) with
      | true =>
        have HP := Lib.hid hpc
        clear hpc
        go_wp2_with fail
        refine (HK.out _ _ HB.out.1 HB.out.2).mono ?_
        rw [HP.out]
        rintro e w' ⟨rfl, ⟨nd, rfl⟩⟩
        go_wp2_with fail
        have h0' := H0.out
        have hl' := HL.out
        have key : ∀ j : Nat, (j : Int) < wrap64 (i + 1) → p (bt s j) = true := by
          intro j hj
          by_cases h : (j : Int) < i
          · exact hp.out j h
          · obtain rfl : i = j := by unfold wrap64 at hj; omega
            exact HP.out
        go_roundw
        case rel => exact ⟨wrap64 (i + 1), by unfold wrap64; omega, by unfold wrap64; omega, rfl, ⟨key⟩, by repeat (first | exact Drawn0.refl _ | apply Drawn0.step)⟩
        case measure => simp only [intOf, wrap64]; omega
      | false =>
        have HP := Lib.hid hpc
        clear hpc
        go_wp2_with fail
        refine (HK.out _ _ HB.out.1 HB.out.2).mono ?_
        rw [HP.out]
        rintro e w' ⟨rfl, ⟨nd, rfl⟩⟩
        go_wp2_with fail
        go_ret
        refine ⟨?_, by repeat (first | exact Drawn0.refl _ | apply Drawn0.step)⟩
        have : allB p s = false := by
          rcases Bool.eq_false_or_eq_true (allB p s) with h | h
          · obtain ⟨j, hj⟩ := Int.eq_ofNat_of_zero_le H0.out
            have hl' := HL.out
            rw [hj] at HP hl'
            rw [(allB_iff p s).1 h j (by omega)] at HP; exact absurd HP.out (by simp)
          · exact h
        rw [this]; rfl
    · have c3b0 : decide (i < (s.size : Int)) = false := decide_eq_false hlt
      have HL := Lib.hid hlt
      clear hlt
      go_wp2
      go_ret
      refine ⟨?_, by repeat (first | exact Drawn0.refl _ | apply Drawn0.step)⟩
      have hl' := HL.out
      have : allB p s = true := (allB_iff p s).2 fun j hj => hp.out j (by omega)
      rw [this]; rfl
def isDigitB (c : Int) : Bool := decide (48 ≤ c ∧ c ≤ 57)
def isLetterB (c : Int) : Bool := decide (97 ≤ c ∧ c ≤ 122)
theorem digit_f (c : Int) : impl_isDigit.f c = some (isDigitB c) := by
  unfold impl_isDigit.f isDigitB
  by_cases h : c ≥ 48 <;> by_cases h' : c ≤ 57 <;> simp [h, h'] <;> omega
theorem letter_f (c : Int) : impl_isLetter.f c = some (isLetterB c) := by
  unfold impl_isLetter.f isLetterB
  by_cases h : c ≥ 97 <;> by_cases h' : c ≤ 122 <;> simp [h, h'] <;> omega
def domB (c : Int) : Bool := isLetterB c || isDigitB c || (c == 45)
theorem dom_f (c : Int) : impl_ValidDomain_1.f c = some (domB c) := by
  unfold impl_ValidDomain_1.f domB
  simp only [letter_f, digit_f, Option.bind_some]
  cases isLetterB c <;> cases isDigitB c <;> simp
def impl_all_impl_isDigit.f (a0 : ByteArray) : Option Bool := if a0.size ≤ 9223372036854775807 then some (allB isDigitB a0) else none
theorem impl_all_impl_isDigit.calls (a0 : ByteArray) (r : Bool) (w : World) (h : impl_all_impl_isDigit.f a0 = some r) :
    Calls Tryz.prog 167 #[.string a0, .func (.func 170) #[] #[]] w fun e w' => e = .returned (.bool r) ∧ Drawn0 w w' := by
  unfold impl_all_impl_isDigit.f at h
  split at h
  · rename_i hs
    obtain rfl := Option.some.inj h
    exact all_any_170 isDigitB (fun c w _ _ => impl_isDigit.calls c _ w (digit_f c)) a0 w hs
  · cases h
def impl_all_impl_ValidDomain_1.f (a0 : ByteArray) : Option Bool := if a0.size ≤ 9223372036854775807 then some (allB domB a0) else none
theorem impl_all_impl_ValidDomain_1.calls (a0 : ByteArray) (r : Bool) (w : World) (h : impl_all_impl_ValidDomain_1.f a0 = some r) :
    Calls Tryz.prog 167 #[.string a0, .func (.func 168) #[] #[]] w fun e w' => e = .returned (.bool r) ∧ Drawn0 w w' := by
  unfold impl_all_impl_ValidDomain_1.f at h
  split at h
  · rename_i hs
    obtain rfl := Option.some.inj h
    exact all_any_168 domB (fun c w _ _ => impl_ValidDomain_1.calls c _ w (dom_f c)) a0 w hs
  · cases h
def locB (c : Int) : Bool := isLetterB c || isDigitB c || decide (0 ≤ Lib.indexByte [46, 43, 95, 45] c.toNat.toUInt8)
theorem loc_f (c : Int) : impl_ValidAddress_1.f c = some (locB c) := by
  unfold impl_ValidAddress_1.f locB strings_IndexByte.f
  simp only [letter_f, digit_f, Option.bind_some]
  cases isLetterB c <;> cases isDigitB c <;> simp
def impl_all_impl_ValidAddress_1.f (a0 : ByteArray) : Option Bool := if a0.size ≤ 9223372036854775807 then some (allB locB a0) else none
theorem impl_all_impl_ValidAddress_1.calls (a0 : ByteArray) (r : Bool) (w : World) (h : impl_all_impl_ValidAddress_1.f a0 = some r) :
    Calls Tryz.prog 167 #[.string a0, .func (.func 171) #[] #[]] w fun e w' => e = .returned (.bool r) ∧ Drawn0 w w' := by
  unfold impl_all_impl_ValidAddress_1.f at h
  split at h
  · rename_i hs
    obtain rfl := Option.some.inj h
    exact all_any_171 locB (fun c w _ _ => impl_ValidAddress_1.calls c _ w (loc_f c)) a0 w hs
  · cases h
end Go.Proofs.YtnlembpmcbnpnaaGreatDoor.X
namespace Go.Proofs.YtnlembpmcbnpnaaGreatDoor.X
open Go.RowKit Go.Proofs.YtnlembpmcbnpnaaGreatDoorW.PrintWords Go.Proofs.YtnlembpmcbnpnaaGreatDoorW.PrintLast Go.Proofs.YtnlembpmcbnpnaaGreatDoorW.PrintMore
set_option linter.unusedVariables false
set_option linter.unusedSimpArgs false
theorem z8_0_ {P : Prop} (h : P := by first | (with_reducible assumption) | assumption) : P := h
theorem z8_1_ {P : Prop} (h : P := by first | rfl | (simp [errW_none, errW_some] <;> rfl) | (simp [*, errW_none, errW_some] <;> rfl)) : P := h
/-! ### impl_ValidDomain: function 161 -/
mutual
def impl_ValidDomain.j0 : Nat → ByteArray → Bool → Option (Bool)
 | 0, _, _ => none
 | k + 1, x0, x12 => if x12 = true then (some false) else ((strings_Split.f x0 (⟨#[46]⟩ : ByteArray)).bind fun t144 => (impl_ValidDomain.l0 k t144 (t144.length : Int) 0))
def impl_ValidDomain.l0 : Nat → List ByteArray → Int → Int → Option (Bool)
 | 0, _, _, _ => none
 | k + 1, x14, x15, x16 => if x16 < x15 then (if 0 ≤ x16 then (if x16 < (x14.length : Int) then (if ((rdOf ByteArray.empty x14 x16).size : Int) < 1 then (some false) else (if ((rdOf ByteArray.empty x14 x16).size : Int) > 63 then (some false) else (if 0 < ((rdOf ByteArray.empty x14 x16).size : Int) then (if (bt (rdOf ByteArray.empty x14 x16) 0) = 45 then (some false) else (if 0 ≤ (wrap64 (((rdOf ByteArray.empty x14 x16).size : Int) - 1)) then (if (wrap64 (((rdOf ByteArray.empty x14 x16).size : Int) - 1)) < ((rdOf ByteArray.empty x14 x16).size : Int) then (if (bt (rdOf ByteArray.empty x14 x16) (wrap64 (((rdOf ByteArray.empty x14 x16).size : Int) - 1))) = 45 then (some false) else ((impl_all_impl_ValidDomain_1.f (rdOf ByteArray.empty x14 x16)).bind fun t148 => (if t148 = true then (impl_ValidDomain.l0 k x14 x15 (wrap64 (x16 + 1))) else (some false)))) else (none)) else (none))) else (none)))) else (none)) else (none)) else (some true)
end
def impl_ValidDomain.f (k : Nat) (a0 : ByteArray) : Option (Bool) := if (a0.size : Int) < 1 then (impl_ValidDomain.j0 k a0 true) else (impl_ValidDomain.j0 k a0 (decide ((a0.size : Int) > 100)))
theorem impl_ValidDomain.mono_l : ∀ k, (∀ y0 y1, LeO (impl_ValidDomain.j0 k y0 y1) (impl_ValidDomain.j0 (k + 1) y0 y1)) ∧ (∀ y0 y1 y2, LeO (impl_ValidDomain.l0 k y0 y1 y2) (impl_ValidDomain.l0 (k + 1) y0 y1 y2))
 | 0 => ⟨fun _ _ r h => by simp [impl_ValidDomain.j0] at h, fun _ _ _ r h => by simp [impl_ValidDomain.l0] at h⟩
 | k + 1 => by
  obtain ⟨ih0, ih1⟩ := impl_ValidDomain.mono_l k
  refine ⟨?_, ?_⟩
  ·intro y0 y1
   unfold impl_ValidDomain.j0
   repeat' first
   | (with_reducible exact ih0 _ _)
   | (with_reducible exact ih1 _ _ _)
   | (with_reducible exact LeO.refl _)
   | (with_reducible exact LeO.none _)
   | (with_reducible refine LeO.ite ?_ ?_)
   | (with_reducible refine LeO.bind ?_ (fun _ => ?_))
   | exact ih0 _ _
   | exact ih1 _ _ _
   | exact LeO.none _
   | refine LeO.ite ?_ ?_
   | refine LeO.bind ?_ (fun _ => ?_)
  ·intro y0 y1 y2
   unfold impl_ValidDomain.l0
   repeat' first
   | (with_reducible exact ih0 _ _)
   | (with_reducible exact ih1 _ _ _)
   | (with_reducible exact LeO.refl _)
   | (with_reducible exact LeO.none _)
   | (with_reducible refine LeO.ite ?_ ?_)
   | (with_reducible refine LeO.bind ?_ (fun _ => ?_))
   | exact ih0 _ _
   | exact ih1 _ _ _
   | exact LeO.none _
   | refine LeO.ite ?_ ?_
   | refine LeO.bind ?_ (fun _ => ?_)
theorem impl_ValidDomain.mono : ∀ a0 k, LeO (impl_ValidDomain.f k a0) (impl_ValidDomain.f (k + 1) a0) := by
 intro a0 k
 obtain ⟨ih0, ih1⟩ := impl_ValidDomain.mono_l k
 unfold impl_ValidDomain.f
 repeat' first
   | (with_reducible exact ih0 _ _)
   | (with_reducible exact ih1 _ _ _)
   | (with_reducible exact LeO.refl _)
   | (with_reducible exact LeO.none _)
   | (with_reducible refine LeO.ite ?_ ?_)
   | (with_reducible refine LeO.bind ?_ (fun _ => ?_))
   | exact ih0 _ _
   | exact ih1 _ _ _
   | exact LeO.none _
   | refine LeO.ite ?_ ?_
   | refine LeO.bind ?_ (fun _ => ?_)
set_option maxHeartbeats 8000000 in
set_option maxRecDepth 100000 in
theorem impl_ValidDomain.calls (k : Nat) (a0 : ByteArray) (r : Bool) (w : World) (hGM : GlM w) (h : impl_ValidDomain.f k a0 = some r) :
  Calls Tryz.prog 161 #[.string a0] w fun e w' => e = .returned (.bool r) ∧ Below w.heap.size w w' := by
 have HB := Aside0.mk (Below.refl w.heap.size w)
 have H : (if (a0.size : Int) < 1 then (impl_ValidDomain.j0 k a0 true) else (impl_ValidDomain.j0 k a0 (decide ((a0.size : Int) > 100)))) = some r := h
 clear h
 have HC2 := Aside0.mk H
 clear H
 go_enter Tryz.func161, Tryz.ntmps161
 go_upto_region 1 with (fail)
 go_cut [12] (fun v12 wc => ∃ (kq : Nat) (x12_1 : Bool), v12 = .bool x12_1 ∧ Aside0 (impl_ValidDomain.j0 kq a0 x12_1 = some r) ∧ Aside0 (kq ≤ k) ∧ Aside0 (Below w.heap.size w wc))
 case first =>
  have H := HC2.out
  clear HC2
  by_cases c3 : (a0.size : Int) < 1
  ·rw [if_pos c3] at H
   have c3b0 : decide ((a0.size : Int) < 1) = true := decide_eq_true c3
   have c3b1 : decide (a0.size < 1) = true := decide_eq_true (by omega)
   clear c3
   (first | rw [c3b0] | (simp only [i64_w, i32_w]; rw [c3b0]) | rw [c3b1] | simp only [c3b2, decide_true, decide_false] | skip)
   have H' := Aside0.mk H
   clear H
   go_wp2
   go_meet
   case rel => exact ⟨_, (true), (by first | rfl | (simp; done) | (simp [*]; done)), H', ⟨(by first | omega | exact Nat.le_refl _)⟩, ⟨bq_⟩⟩
  ·rw [if_neg c3] at H
   have c3b0 : decide ((a0.size : Int) < 1) = false := decide_eq_false c3
   have c3b1 : decide (a0.size < 1) = false := decide_eq_false (by omega)
   clear c3
   (first | rw [c3b0] | (simp only [i64_w, i32_w]; rw [c3b0]) | rw [c3b1] | simp only [c3b2, decide_true, decide_false] | skip)
   have H' := Aside0.mk H
   clear H
   go_wp2
   go_meet
   case rel => exact ⟨_, (decide ((a0.size : Int) > 100)), (by first | rfl | (simp; done) | (simp [*]; done)), H', ⟨(by first | omega | exact Nat.le_refl _)⟩, ⟨bq_⟩⟩
 case rest =>
  clear HC2
  try clear c1
  try clear p2
  try clear c3
  try clear c3b0
  try clear c3b1
  obtain ⟨kq, x12_1, rfl, HA, HJ1, HB⟩ := hcut
  cases kq with
  | zero => exact absurd HA.out (by simp [impl_ValidDomain.j0])
  | succ kj1 =>
   have H := HA.out
   clear HA
   simp only [impl_ValidDomain.j0] at H
   by_cases c4 : x12_1 = true
   ·subst c4
    rw [if_pos rfl] at H
    obtain rfl := Option.some.inj H
    go_wp2
    go_ret
    exact ⟨z8_1_, bq_⟩
   ·replace c4 := Bool.eq_false_iff.mpr c4
    subst c4
    rw [if_neg (show ¬ (false = true) by decide)] at H
    obtain ⟨t144, A5, H⟩ := zbi H
    have H' := Aside0.mk H
    clear H
    go_wp2_with (first | ((with_reducible refine gate_callee (f := 166) rfl ?_); refine goesL_ (some 14) rfl rfl Tryz.func166 (by kernel_rfl) rfl #[.string a0, .string (⟨#[46]⟩ : ByteArray)] rfl (by (try simp only [List.map_toArray, List.map_cons, List.map_nil]); first | done | rfl | (simp only [List.length_drop, List.length_take]; rfl)) ?_; (with_reducible refine (strings_Split.calls a0 (⟨#[46]⟩ : ByteArray) t144 _ ?side1 A5.out).mono ?_); (case side1 => exact GlM.below hGM (bq_)); rintro e w6 ⟨v145, rfl, ho0, hb⟩; refine ⟨_, rfl, ?_⟩; have HO146 := Aside0.mk (Kd.R_lower ho0 (below_size (bq_))); replace HB := Aside0.mk (below_step (bq_) hb); clear hb; (try clear ho0); obtain ⟨Ao7, co7, eo7⟩ := Kd.R_slice HO146.out; subst eo7))
    go_loopg [16] kj1 (fun kq v16 w' => ∃ (x16_2 : Int), v16 = .int .i64 x16_2 ∧ Aside0 (impl_ValidDomain.l0 kq t144 (t144.length : Int) x16_2 = some r) ∧ Aside0 (kq ≤ kj1) ∧ Aside0 (Kd.R Kd.string 9 w' w.heap.size (fun _ => True) (.slice Ao7 t144.length co7) t144) ∧ Aside0 (Below w.heap.size w w'))
    case atStart => exact ⟨(0), (by first | rfl | (simp; done) | (simp [*]; done)), H', ⟨Nat.le_refl _⟩, ⟨(by (with_reducible repeat (first | apply Kd.R_alloc | apply Kd.R_drewN | apply Kd.R_drew)); exact HO146.out)⟩, ⟨bq_⟩⟩
    case round =>
     clear H'
     try clear c1
     try clear p2
     try clear c3
     try clear c3b0
     try clear c3b1
     try clear c4
     try clear p2
     obtain ⟨x16_2, rfl, HA, HK2, HO_14, HB⟩ := hrel
     cases gk with
     | zero => exact absurd HA.out (by simp [impl_ValidDomain.l0])
     | succ k2 =>
      have H := HA.out
      clear HA
      simp only [impl_ValidDomain.l0] at H
      by_cases c8 : x16_2 < (t144.length : Int)
      ·rw [if_pos c8] at H
       have c8b0 : decide (x16_2 < (t144.length : Int)) = true := decide_eq_true c8
       clear c8
       by_cases c9 : 0 ≤ x16_2
       ·rw [if_pos c9] at H
        have c9b0 : decide (0 ≤ x16_2) = true := decide_eq_true c9
        clear c9
        by_cases c10 : x16_2 < (t144.length : Int)
        ·rw [if_pos c10] at H
         have c10b0 : decide (x16_2 < (t144.length : Int)) = true := decide_eq_true c10
         clear c10
         by_cases c11 : ((rdOf ByteArray.empty t144 x16_2).size : Int) < 1
         ·rw [if_pos c11] at H
          have c11b0 : decide (((rdOf ByteArray.empty t144 x16_2).size : Int) < 1) = true := decide_eq_true c11
          have c11b1 : decide ((rdOf ByteArray.empty t144 x16_2).size < 1) = true := decide_eq_true (by omega)
          clear c11
          obtain rfl := Option.some.inj H
          have p147 : 0 ≤ (x16_2 : Int) := of_decide_eq_true z8_0_
          have q147 : x16_2 < (t144.length : Int) := of_decide_eq_true z8_0_
          obtain ⟨ad147, e147, hx147_0⟩ := Kd.at_string (Kd.R_reads' HO_14.out).2.2 x16_2 p147 q147
          cases e147
          replace p147 := eq_true p147
          replace q147 := eq_true q147
          go_wp2
          go_ret
          exact ⟨z8_1_, bq_⟩
         ·rw [if_neg c11] at H
          have c11b0 : decide (((rdOf ByteArray.empty t144 x16_2).size : Int) < 1) = false := decide_eq_false c11
          have c11b1 : decide ((rdOf ByteArray.empty t144 x16_2).size < 1) = false := decide_eq_false (by omega)
          clear c11
          by_cases c12 : ((rdOf ByteArray.empty t144 x16_2).size : Int) > 63
          ·rw [if_pos c12] at H
           have c12b0 : decide (63 < ((rdOf ByteArray.empty t144 x16_2).size : Int)) = true := decide_eq_true c12
           have c12b1 : decide (63 < (rdOf ByteArray.empty t144 x16_2).size) = true := decide_eq_true (by omega)
           clear c12
           obtain rfl := Option.some.inj H
           have p147 : 0 ≤ (x16_2 : Int) := of_decide_eq_true z8_0_
           have q147 : x16_2 < (t144.length : Int) := of_decide_eq_true z8_0_
           obtain ⟨ad147, e147, hx147_0⟩ := Kd.at_string (Kd.R_reads' HO_14.out).2.2 x16_2 p147 q147
           cases e147
           replace p147 := eq_true p147
           replace q147 := eq_true q147
           go_wp2
           go_ret
           exact ⟨z8_1_, bq_⟩
          ·rw [if_neg c12] at H
           have c12b0 : decide (63 < ((rdOf ByteArray.empty t144 x16_2).size : Int)) = false := decide_eq_false c12
           have c12b1 : decide (63 < (rdOf ByteArray.empty t144 x16_2).size) = false := decide_eq_false (by omega)
           clear c12
           by_cases c13 : 0 < ((rdOf ByteArray.empty t144 x16_2).size : Int)
           ·rw [if_pos c13] at H
            have c13b0 : decide (0 < ((rdOf ByteArray.empty t144 x16_2).size : Int)) = true := decide_eq_true c13
            have c13b1 : decide (0 < (rdOf ByteArray.empty t144 x16_2).size) = true := decide_eq_true (by omega)
            clear c13
            by_cases c15 : (bt (rdOf ByteArray.empty t144 x16_2) 0) = 45
            ·rw [if_pos c15] at H
             have c15b0 : ((bt (rdOf ByteArray.empty t144 x16_2) 0) == 45) = true := beq_iff_eq.mpr c15
             have c15b1 : ((bt (rdOf ByteArray.empty t144 x16_2) 0) != 45) = false := bne_eq_false_iff_eq.mpr c15
             clear c15
             obtain rfl := Option.some.inj H
             have p147 : 0 ≤ (x16_2 : Int) := of_decide_eq_true z8_0_
             have q147 : x16_2 < (t144.length : Int) := of_decide_eq_true z8_0_
             obtain ⟨ad147, e147, hx147_0⟩ := Kd.at_string (Kd.R_reads' HO_14.out).2.2 x16_2 p147 q147
             cases e147
             replace p147 := eq_true p147
             replace q147 := eq_true q147
             have p14 : 0 ≤ (0 : Int) := (by omega)
             have q14 : 0 < (rdOf ByteArray.empty t144 x16_2).size := (by have : (0 : Int) < ((rdOf ByteArray.empty t144 x16_2).size : Int) := of_decide_eq_true z8_0_; omega)
             have hx14 : ∀ h : 0 < (rdOf ByteArray.empty t144 x16_2).size, (((rdOf ByteArray.empty t144 x16_2)[0]'h).toNat : Int) = bt (rdOf ByteArray.empty t144 x16_2) 0 := bt_at (rdOf ByteArray.empty t144 x16_2) 0
             clear p14
             have qi14 : (0 < ((rdOf ByteArray.empty t144 x16_2).size : Int)) = True := eq_true (of_decide_eq_true z8_0_)
             replace q14 := eq_true q14
             go_wp2
             go_ret
             exact ⟨z8_1_, bq_⟩
            ·rw [if_neg c15] at H
             have c15b0 : ((bt (rdOf ByteArray.empty t144 x16_2) 0) == 45) = false := beq_eq_false_iff_ne.mpr c15
             have c15b1 : ((bt (rdOf ByteArray.empty t144 x16_2) 0) != 45) = true := bne_iff_ne.mpr c15
             obtain ⟨ji16, hji16⟩ : ∃ j_ : Int, (wrap64 (((rdOf ByteArray.empty t144 x16_2).size : Int) - 1)) = j_ := ⟨_, rfl⟩
             replace H : (if 0 ≤ (ji16) then (if (ji16) < ((rdOf ByteArray.empty t144 x16_2).size : Int) then (if (bt (rdOf ByteArray.empty t144 x16_2) (ji16)) = 45 then (some false) else ((impl_all_impl_ValidDomain_1.f (rdOf ByteArray.empty t144 x16_2)).bind fun t148 => (if t148 = true then (impl_ValidDomain.l0 k2 t144 (t144.length : Int) (wrap64 (x16_2 + 1))) else (some false)))) else (none)) else (none)) = some r := by first | (rw [hji16] at H; exact H) | (simp only [hji16] at H ⊢; exact H)
             have hji16w : (IntKind.i64.wrap (((rdOf ByteArray.empty t144 x16_2).size : Int) - 1)) = ji16 := (i64_w _).trans hji16
             by_cases c17 : 0 ≤ (ji16)
             ·rw [if_pos c17] at H
              have c17b0 : decide (0 ≤ (ji16)) = true := decide_eq_true c17
              clear c17
              by_cases c18 : (ji16) < ((rdOf ByteArray.empty t144 x16_2).size : Int)
              ·rw [if_pos c18] at H
               have c18b0 : decide ((ji16) < ((rdOf ByteArray.empty t144 x16_2).size : Int)) = true := decide_eq_true c18
               clear c18
               by_cases c20 : (bt (rdOf ByteArray.empty t144 x16_2) (ji16)) = 45
               ·rw [if_pos c20] at H
                have c20b0 : ((bt (rdOf ByteArray.empty t144 x16_2) (ji16)) == 45) = true := beq_iff_eq.mpr c20
                have c20b1 : ((bt (rdOf ByteArray.empty t144 x16_2) (ji16)) != 45) = false := bne_eq_false_iff_eq.mpr c20
                clear c20
                obtain rfl := Option.some.inj H
                have p147 : 0 ≤ (x16_2 : Int) := of_decide_eq_true z8_0_
                have q147 : x16_2 < (t144.length : Int) := of_decide_eq_true z8_0_
                obtain ⟨ad147, e147, hx147_0⟩ := Kd.at_string (Kd.R_reads' HO_14.out).2.2 x16_2 p147 q147
                cases e147
                replace p147 := eq_true p147
                replace q147 := eq_true q147
                have p14 : 0 ≤ (0 : Int) := (by omega)
                have q14 : 0 < (rdOf ByteArray.empty t144 x16_2).size := (by have : (0 : Int) < ((rdOf ByteArray.empty t144 x16_2).size : Int) := of_decide_eq_true z8_0_; omega)
                have hx14 : ∀ h : 0 < (rdOf ByteArray.empty t144 x16_2).size, (((rdOf ByteArray.empty t144 x16_2)[0]'h).toNat : Int) = bt (rdOf ByteArray.empty t144 x16_2) 0 := bt_at (rdOf ByteArray.empty t144 x16_2) 0
                clear p14
                have qi14 : (0 < ((rdOf ByteArray.empty t144 x16_2).size : Int)) = True := eq_true (of_decide_eq_true z8_0_)
                replace q14 := eq_true q14
                have p19 : 0 ≤ ((ji16) : Int) := of_decide_eq_true z8_0_
                have q19 : (ji16) < ((rdOf ByteArray.empty t144 x16_2).size : Int) := of_decide_eq_true z8_0_
                have hx19 := bt_at (rdOf ByteArray.empty t144 x16_2) (ji16)
                replace p19 := eq_true p19
                replace q19 := eq_true q19
                go_wp2
                go_ret
                exact ⟨(by first | rfl | (simp [errW_none, errW_some] <;> rfl) | (simp only [← hji16]; first | rfl | (simp [errW_none, errW_some] <;> rfl)) | (simp [*, errW_none, errW_some] <;> rfl)), bq_⟩
               ·rw [if_neg c20] at H
                have c20b0 : ((bt (rdOf ByteArray.empty t144 x16_2) (ji16)) == 45) = false := beq_eq_false_iff_ne.mpr c20
                have c20b1 : ((bt (rdOf ByteArray.empty t144 x16_2) (ji16)) != 45) = true := bne_iff_ne.mpr c20
                obtain ⟨t148, A21, H⟩ := zbi H
                have HS22 := Aside0.mk H
                clear H
                have p147 : 0 ≤ (x16_2 : Int) := of_decide_eq_true z8_0_
                have q147 : x16_2 < (t144.length : Int) := of_decide_eq_true z8_0_
                obtain ⟨ad147, e147, hx147_0⟩ := Kd.at_string (Kd.R_reads' HO_14.out).2.2 x16_2 p147 q147
                cases e147
                replace p147 := eq_true p147
                replace q147 := eq_true q147
                have p14 : 0 ≤ (0 : Int) := (by omega)
                have q14 : 0 < (rdOf ByteArray.empty t144 x16_2).size := (by have : (0 : Int) < ((rdOf ByteArray.empty t144 x16_2).size : Int) := of_decide_eq_true z8_0_; omega)
                have hx14 : ∀ h : 0 < (rdOf ByteArray.empty t144 x16_2).size, (((rdOf ByteArray.empty t144 x16_2)[0]'h).toNat : Int) = bt (rdOf ByteArray.empty t144 x16_2) 0 := bt_at (rdOf ByteArray.empty t144 x16_2) 0
                clear p14
                have qi14 : (0 < ((rdOf ByteArray.empty t144 x16_2).size : Int)) = True := eq_true (of_decide_eq_true z8_0_)
                replace q14 := eq_true q14
                have p19 : 0 ≤ ((ji16) : Int) := of_decide_eq_true z8_0_
                have q19 : (ji16) < ((rdOf ByteArray.empty t144 x16_2).size : Int) := of_decide_eq_true z8_0_
                have hx19 := bt_at (rdOf ByteArray.empty t144 x16_2) (ji16)
                replace p19 := eq_true p19
                replace q19 := eq_true q19
                go_upto_if 45 with (first | (go_at_call 167; (with_reducible refine (impl_all_impl_ValidDomain_1.calls (rdOf ByteArray.empty t144 x16_2) t148 _ A21.out).mono ?_); rintro e w' ⟨rfl, ⟨nd, rfl⟩⟩))
                (try simp only [Act.put, List.setIfInBounds_toArray, List.set_cons_zero, List.set_cons_succ])
                have H := HS22.out
                clear HS22
                by_cases c23 : t148 = true
                ·subst c23
                 rw [if_pos rfl] at H
                 have H' := Aside0.mk H
                 clear H
                 go_wp2
                 go_roundg k2
                 case measure => have := HJ1.out; have := HK2.out; omega
                 case rel => exact ⟨(wrap64 (x16_2 + 1)), (by first | rfl | (simp; done) | (simp [*]; done)), H', ⟨(by have := HJ1.out; have := HK2.out; omega)⟩, ⟨(by (with_reducible repeat (first | apply Kd.R_alloc | apply Kd.R_drewN | apply Kd.R_drew)); exact HO_14.out)⟩, ⟨bq_⟩⟩
                ·replace c23 := Bool.eq_false_iff.mpr c23
                 subst c23
                 rw [if_neg (show ¬ (false = true) by decide)] at H
                 obtain rfl := Option.some.inj H
                 go_wp2
                 go_ret
                 exact ⟨(by first | rfl | (simp [errW_none, errW_some] <;> rfl) | (simp only [← hji16]; first | rfl | (simp [errW_none, errW_some] <;> rfl)) | (simp [*, errW_none, errW_some] <;> rfl)), bq_⟩
              ·rw [if_neg c18] at H
               exact absurd H (by simp)
             ·rw [if_neg c17] at H
              exact absurd H (by simp)
           ·rw [if_neg c13] at H
            exact absurd H (by simp)
        ·rw [if_neg c10] at H
         exact absurd H (by simp)
       ·rw [if_neg c9] at H
        exact absurd H (by simp)
      ·rw [if_neg c8] at H
       have c8b0 : decide (x16_2 < (t144.length : Int)) = false := decide_eq_false c8
       clear c8
       obtain rfl := Option.some.inj H
       go_wp2
       go_ret
       exact ⟨z8_1_, bq_⟩
end Go.Proofs.YtnlembpmcbnpnaaGreatDoor.X
