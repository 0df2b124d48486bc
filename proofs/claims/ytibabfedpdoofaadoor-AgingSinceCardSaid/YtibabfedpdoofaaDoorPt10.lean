/-
  What the library's functions hand back, of which the kit's shelf has contracts, laid at this program (written by the kit's lay-shelf.mjs and lay-plain.mjs, by name); conditions: those that stand in each.
  A row of zero structs made; a one-byte slice as a string; over any program; conditions: none.
  Numbers and deeds as texts, by walking both texts and by the kit's contracts of strconv; conditions: the laid tables, int64 numbers.
  A range over a map that was there when the call began, entry by entry, whatever their order; over any program; conditions: none.
  Long regions whose order the model draws, walked in one order, where what the quiet ones read stays all the time; over any program; conditions: none.
  A key as a text, by walking both texts; conditions: the laid tables, int64 numbers.
  A core's Apply: a reply, by walking the program's text; conditions: the core is one that entries come to, int64 numbers.
  sum 89b25afa6f611b0ac053fe43e698b3b4e6fbcf71
-/
import Derived.Shelf.Strconv.Itoa0
import Derived.Shelf.Strconv.Itoa1
import Derived.Shelf.LaysM
import Derived.Shelf.Strconv.Itoa2
import Derived.Shelf.Strconv.Itoa3
import Derived.Shelf.Strconv.Itoa4
import Derived.Test.YtibabfedpdoofaaDoorProg
import Derived.Laws.MakeOwn
import Derived.Laws.IdiomStrings
import Derived.Lib.ItoaLen
import Derived.Lib.AppendIntMem
import Derived.StringKeys
import Derived.Test.YtibabfedpdoofaaDoorPt1
import Derived.Test.YtibabfedpdoofaaDoorPt3
import Derived.Test.YtibabfedpdoofaaDoorPt4
import Derived.Test.YtibabfedpdoofaaDoorPt9
namespace Go.Proofs
open Go.Shelf
def Tryd.lays129_ren : Go.Shelf.Ren := ⟨fun | 129 => 107 | n => n, fun | 53 => 157 | 3 => 3 | 4 => 4 | 46 => 166 | 5 => 5 | 9 => 9 | n => n, fun | n => n⟩
theorem Tryd.lays129 : Go.Proofs.Lays.n129 Tryd.prog Tryd.lays129_ren := {
  mixed := by kernel_rfl
  f129 := Tryd.func107.trans (congrArg some (by kernel_rfl))
  t3 := Tryd.underlying3
  a3 := Tryd.isAgg3
  z3 := Tryd.sizeOf3
  v3 := Tryd.zeroValue3
  t4 := Tryd.underlying4
  a4 := Tryd.isAgg4
  z4 := Tryd.sizeOf4
  v4 := Tryd.zeroValue4
  t5 := Tryd.underlying5
  a5 := Tryd.isAgg5
  z5 := Tryd.sizeOf5
  v5 := Tryd.zeroValue5
  t9 := Tryd.underlying9
  a9 := Tryd.isAgg9
  z9 := Tryd.sizeOf9
  v9 := Tryd.zeroValue9
  t46 := Tryd.underlying166
  a46 := Tryd.isAgg166
  z46 := Tryd.sizeOf166
  v46 := Tryd.zeroValue166
  t53 := Tryd.underlying157
  a53 := Tryd.isAgg157
  z53 := Tryd.sizeOf157
  v53 := Tryd.zeroValue157 }
/-- bits.Len64: "Len64 returns the minimum number of bits required to represent x; the result is 0 for x == 0.": IT RETURNS 'Lib.bitLen x'; the world is as it was. ('h0', 'h1': x is a uint64.) (LAID: no walk: one application.) -/
theorem Tryd.bits_Len64 (x : Int) (w : World) (h0 : 0 ≤ x) (h1 : x ≤ 18446744073709551615) :
    Calls Tryd.prog 107 #[.int .u64 x] w fun e w' => e = .returned (.int .i64 (Lib.bitLen x.toNat)) ∧ w' = w := Any.bits_Len64 Tryd.lays129 x w h0 h1
def Tryd.lays317_ren : Go.Shelf.Ren := ⟨fun | 317 => 106 | n => n, fun | 3 => 3 | 46 => 166 | n => n, fun | n => n⟩
theorem Tryd.lays317 : Go.Proofs.Lays.n317 Tryd.prog Tryd.lays317_ren := {
  mixed := by kernel_rfl
  f317 := Tryd.func106.trans (congrArg some (by kernel_rfl))
  t3 := Tryd.underlying3
  a3 := Tryd.isAgg3
  z3 := Tryd.sizeOf3
  v3 := Tryd.zeroValue3
  t46 := Tryd.underlying166
  a46 := Tryd.isAgg166
  z46 := Tryd.sizeOf166
  v46 := Tryd.zeroValue166 }
open Go.Lib in
/-- internal/strconv.log10Pow2: "log10Pow2(x) returns ⌊log₁₀ 2**x⌋ = ⌊x * log₁₀ 2⌋.": '(x * 78913) >> 18', at an x up to 64 (a length in bits). The world is as it was. (LAID: no walk: one application.) -/
theorem Tryd.internal_strconv_log10Pow2 (x : Nat) (h : x ≤ 64) (w : World) :
    Calls Tryd.prog 106 #[.int .i64 x] w fun e w' => e = .returned (.int .i64 (Lib.l10 x)) ∧ w' = w := Any.internal_strconv_log10Pow2 Tryd.lays317 x h w
def Tryd.lays318_ren : Go.Shelf.Ren := ⟨fun | 318 => 108 | n => n, fun | 3 => 3 | 4 => 4 | n => n, fun | n => n⟩
theorem Tryd.lays318 : Go.Proofs.Lays.n318 Tryd.prog Tryd.lays318_ren := {
  mixed := by kernel_rfl
  f318 := Tryd.func108.trans (congrArg some (by kernel_rfl))
  t3 := Tryd.underlying3
  a3 := Tryd.isAgg3
  z3 := Tryd.sizeOf3
  v3 := Tryd.zeroValue3
  t4 := Tryd.underlying4
  a4 := Tryd.isAgg4
  z4 := Tryd.sizeOf4
  v4 := Tryd.zeroValue4 }
open Go.Lib in
/-- internal/strconv.bool2: "bool2 converts b to an integer: 1 for true, 0 for false." The world is as it was. (LAID: no walk: one application.) -/
theorem Tryd.internal_strconv_bool2_int (b : Bool) (w : World) :
    Calls Tryd.prog 108 #[.bool b] w fun e w' => e = .returned (.int .i64 (if b then 1 else 0)) ∧ w' = w := Any.internal_strconv_bool2_int Tryd.lays318 b w
def Tryd.lays283_ren : Go.Shelf.Ren := ⟨fun | 283 => 95 | n => n, fun | 3 => 3 | 9 => 9 | 4 => 4 | n => n, fun | n => n⟩
theorem Tryd.lays283 : Go.Proofs.Lays.n283 Tryd.prog Tryd.lays283_ren := {
  mixed := by kernel_rfl
  f283 := Tryd.func95.trans (congrArg some (by kernel_rfl))
  t3 := Tryd.underlying3
  a3 := Tryd.isAgg3
  z3 := Tryd.sizeOf3
  v3 := Tryd.zeroValue3
  t4 := Tryd.underlying4
  a4 := Tryd.isAgg4
  z4 := Tryd.sizeOf4
  v4 := Tryd.zeroValue4
  t9 := Tryd.underlying9
  a9 := Tryd.isAgg9
  z9 := Tryd.sizeOf9
  v9 := Tryd.zeroValue9 }
open Go.Lib in
/-- internal/strconv.small: "small returns the string for an i with 0 <= i < nSmalls.": i's decimal numeral. The world is as it was. (LAID: no walk: one application.) -/
theorem Tryd.internal_strconv_small (i : Nat) (h : i < 100) (w : World) :
    Calls Tryd.prog 95 #[.int .i64 i] w fun e w' => e = .returned (.string ⟨(Lib.decDigits i).toArray⟩) ∧ w' = w := Any.internal_strconv_small Tryd.lays283 i h w
def Tryd.laysM284_ren : Go.Shelf.Ren := ⟨fun | 284 => 96 | 129 => 107 | 317 => 106 | 318 => 108 | n => n, fun | 53 => 157 | 3 => 3 | 212 => 163 | 0 => 0 | 4 => 4 | 46 => 166 | 5 => 5 | 9 => 9 | n => n, fun | 17 => 1 | n => n⟩
theorem Tryd.laysM284 : Go.Proofs.LaysM.n284 Tryd.prog Tryd.laysM284_ren := {
  mixed := by kernel_rfl
  f129 := Tryd.func107.trans (congrArg some (by kernel_rfl))
  f284 := Tryd.func96.trans (congrArg some (by kernel_rfl))
  f317 := Tryd.func106.trans (congrArg some (by kernel_rfl))
  f318 := Tryd.func108.trans (congrArg some (by kernel_rfl))
  t0 := Tryd.underlying0
  a0 := Tryd.isAgg0
  z0 := Tryd.sizeOf0
  v0 := Tryd.zeroValue0
  t3 := Tryd.underlying3
  a3 := Tryd.isAgg3
  z3 := Tryd.sizeOf3
  v3 := Tryd.zeroValue3
  t4 := Tryd.underlying4
  a4 := Tryd.isAgg4
  z4 := Tryd.sizeOf4
  v4 := Tryd.zeroValue4
  t5 := Tryd.underlying5
  a5 := Tryd.isAgg5
  z5 := Tryd.sizeOf5
  v5 := Tryd.zeroValue5
  t9 := Tryd.underlying9
  a9 := Tryd.isAgg9
  z9 := Tryd.sizeOf9
  v9 := Tryd.zeroValue9
  t46 := Tryd.underlying166
  a46 := Tryd.isAgg166
  z46 := Tryd.sizeOf166
  v46 := Tryd.zeroValue166
  t53 := Tryd.underlying157
  a53 := Tryd.isAgg157
  z53 := Tryd.sizeOf157
  v53 := Tryd.zeroValue157
  t212 := Tryd.underlying163
  a212 := Tryd.isAgg163
  z212 := Tryd.sizeOf163
  v212 := Tryd.zeroValue163
  g17 := by kernel_rfl
  i0 := by kernel_rfl
  i3 := by kernel_rfl
  i4 := by kernel_rfl
  i5 := by kernel_rfl
  i9 := by kernel_rfl
  i46 := by kernel_rfl
  i53 := by kernel_rfl
  i212 := by kernel_rfl
  m17 := by kernel_rfl }
open Go.Lib in
/-- internal/strconv.numDigits, at a d that is not 0: THE NUMBER OF d's DECIMAL DIGITS. The world is as it was. (LAID: no walk: one application.) -/
theorem Tryd.internal_strconv_numDigits (u : Nat) (h1 : 1 ≤ u) (h2 : u < 18446744073709551616) (w : World) (htab : Lib.TabIs Tryd.prog w "internal/strconv.uint64pow10" .u64 Lib.pow10Tab) :
    Calls Tryd.prog 96 #[.int .u64 u] w fun e w' => e = .returned (.int .i64 (Lib.nDigits u)) ∧ w' = w := Any.internal_strconv_numDigits Tryd.laysM284 u h1 h2 w htab
def Tryd.lays285_ren : Go.Shelf.Ren := ⟨fun | 285 => 97 | n => n, fun | 37 => 49 | 53 => 157 | 3 => 3 | 4 => 4 | 51 => 164 | 9 => 9 | 5 => 5 | 0 => 0 | n => n, fun | n => n⟩
theorem Tryd.lays285 : Go.Proofs.Lays.n285 Tryd.prog Tryd.lays285_ren := {
  mixed := by kernel_rfl
  f285 := Tryd.func97.trans (congrArg some (by kernel_rfl))
  t0 := Tryd.underlying0
  a0 := Tryd.isAgg0
  z0 := Tryd.sizeOf0
  v0 := Tryd.zeroValue0
  t3 := Tryd.underlying3
  a3 := Tryd.isAgg3
  z3 := Tryd.sizeOf3
  v3 := Tryd.zeroValue3
  t4 := Tryd.underlying4
  a4 := Tryd.isAgg4
  z4 := Tryd.sizeOf4
  v4 := Tryd.zeroValue4
  t5 := Tryd.underlying5
  a5 := Tryd.isAgg5
  z5 := Tryd.sizeOf5
  v5 := Tryd.zeroValue5
  t9 := Tryd.underlying9
  a9 := Tryd.isAgg9
  z9 := Tryd.sizeOf9
  v9 := Tryd.zeroValue9
  t37 := Tryd.underlying49
  a37 := Tryd.isAgg49
  z37 := Tryd.sizeOf49
  v37 := Tryd.zeroValue49
  t51 := Tryd.underlying164
  a51 := Tryd.isAgg164
  z51 := Tryd.sizeOf164
  v51 := Tryd.zeroValue164
  t53 := Tryd.underlying157
  a53 := Tryd.isAgg157
  z53 := Tryd.sizeOf157
  v53 := Tryd.zeroValue157 }
open Go.RowKit Go.Sort Go.Lib in
/-- internal/strconv.formatBase10: "formatBase10 formats the decimal representation of u into a. The caller is responsible for ensuring that a is big enough to hold u. If a is too big, leading zeros will be filled in as needed.": THE ROW HOLDS u's DIGITS ('FmtInv .. 0 ..': every place t holds 'dg u (len - 1 - t)'); all else is as it was but for the count of draws. (LAID: no walk: one application.) -/
theorem Tryd.internal_strconv_formatBase10 (blk off cap : Nat) (u : Nat) (d : Array UInt8) (w : World) (hH : Holds (fun (b : UInt8) => Value.int .u8 (b.toNat : Int)) w blk off d) (hu : u < 10 ^ d.size) (hu64 : u < 18446744073709551616) (hsz : d.size < 4611686018427387904) :
    Calls Tryd.prog 97 #[.slice (some ⟨blk, off, none⟩) d.size cap, .int .u64 u] w fun e w' =>
      e = .returned (.tuple #[]) ∧ ∃ (n v' : Nat) (dk : Array UInt8), w' = (putRow (fun (b : UInt8) => Value.int .u8 (b.toNat : Int)) w blk off dk).drewN n ∧ FmtInv d.size u 0 v' dk := Any.internal_strconv_formatBase10 Tryd.lays285 blk off cap u d w hH hu hu64 hsz
def Tryd.laysM246_ren : Go.Shelf.Ren := ⟨fun | 246 => 83 | 283 => 95 | 284 => 96 | 285 => 97 | 286 => 98 | 129 => 107 | 317 => 106 | 318 => 108 | 319 => 109 | 320 => 110 | 337 => 114 | 338 => 115 | n => n, fun | 2 => 2 | 3 => 3 | 9 => 9 | 4 => 4 | 171 => 156 | 0 => 0 | 53 => 157 | 37 => 49 | 5 => 5 | 173 => 160 | 212 => 163 | 51 => 164 | 20 => 20 | 213 => 165 | 46 => 166 | 232 => 172 | 233 => 173 | n => n, fun | 17 => 1 | 18 => 3 | 19 => 4 | n => n⟩
theorem Tryd.laysM246 : Go.Proofs.LaysM.n246 Tryd.prog Tryd.laysM246_ren := {
  mixed := by kernel_rfl
  f129 := Tryd.func107.trans (congrArg some (by kernel_rfl))
  f246 := Tryd.func83.trans (congrArg some (by kernel_rfl))
  f283 := Tryd.func95.trans (congrArg some (by kernel_rfl))
  f284 := Tryd.func96.trans (congrArg some (by kernel_rfl))
  f285 := Tryd.func97.trans (congrArg some (by kernel_rfl))
  f286 := Tryd.func98.trans (congrArg some (by kernel_rfl))
  f317 := Tryd.func106.trans (congrArg some (by kernel_rfl))
  f318 := Tryd.func108.trans (congrArg some (by kernel_rfl))
  f319 := Tryd.func109.trans (congrArg some (by kernel_rfl))
  f320 := Tryd.func110.trans (congrArg some (by kernel_rfl))
  f337 := Tryd.func114.trans (congrArg some (by kernel_rfl))
  f338 := Tryd.func115.trans (congrArg some (by kernel_rfl))
  t0 := Tryd.underlying0
  a0 := Tryd.isAgg0
  z0 := Tryd.sizeOf0
  v0 := Tryd.zeroValue0
  t2 := Tryd.underlying2
  a2 := Tryd.isAgg2
  z2 := Tryd.sizeOf2
  v2 := Tryd.zeroValue2
  t3 := Tryd.underlying3
  a3 := Tryd.isAgg3
  z3 := Tryd.sizeOf3
  v3 := Tryd.zeroValue3
  t4 := Tryd.underlying4
  a4 := Tryd.isAgg4
  z4 := Tryd.sizeOf4
  v4 := Tryd.zeroValue4
  t5 := Tryd.underlying5
  a5 := Tryd.isAgg5
  z5 := Tryd.sizeOf5
  v5 := Tryd.zeroValue5
  t9 := Tryd.underlying9
  a9 := Tryd.isAgg9
  z9 := Tryd.sizeOf9
  v9 := Tryd.zeroValue9
  t20 := Tryd.underlying20
  a20 := Tryd.isAgg20
  z20 := Tryd.sizeOf20
  v20 := Tryd.zeroValue20
  t37 := Tryd.underlying49
  a37 := Tryd.isAgg49
  z37 := Tryd.sizeOf49
  v37 := Tryd.zeroValue49
  t46 := Tryd.underlying166
  a46 := Tryd.isAgg166
  z46 := Tryd.sizeOf166
  v46 := Tryd.zeroValue166
  t51 := Tryd.underlying164
  a51 := Tryd.isAgg164
  z51 := Tryd.sizeOf164
  v51 := Tryd.zeroValue164
  t53 := Tryd.underlying157
  a53 := Tryd.isAgg157
  z53 := Tryd.sizeOf157
  v53 := Tryd.zeroValue157
  t171 := Tryd.underlying156
  a171 := Tryd.isAgg156
  z171 := Tryd.sizeOf156
  v171 := Tryd.zeroValue156
  t173 := Tryd.underlying160
  a173 := Tryd.isAgg160
  z173 := Tryd.sizeOf160
  v173 := Tryd.zeroValue160
  t212 := Tryd.underlying163
  a212 := Tryd.isAgg163
  z212 := Tryd.sizeOf163
  v212 := Tryd.zeroValue163
  t213 := Tryd.underlying165
  a213 := Tryd.isAgg165
  z213 := Tryd.sizeOf165
  t232 := Tryd.underlying172
  a232 := Tryd.isAgg172
  z232 := Tryd.sizeOf172
  v232 := Tryd.zeroValue172
  t233 := Tryd.underlying173
  a233 := Tryd.isAgg173
  z233 := Tryd.sizeOf173
  v233 := Tryd.zeroValue173
  g17 := by kernel_rfl
  g18 := by kernel_rfl
  g19 := by kernel_rfl
  i0 := by kernel_rfl
  i2 := by kernel_rfl
  i3 := by kernel_rfl
  i4 := by kernel_rfl
  i5 := by kernel_rfl
  i9 := by kernel_rfl
  i20 := by kernel_rfl
  i37 := by kernel_rfl
  i46 := by kernel_rfl
  i51 := by kernel_rfl
  i53 := by kernel_rfl
  i171 := by kernel_rfl
  i173 := by kernel_rfl
  i212 := by kernel_rfl
  i232 := by kernel_rfl
  i233 := by kernel_rfl
  m17 := by kernel_rfl
  m18 := by kernel_rfl
  m19 := by kernel_rfl }
open Go.RowKit Go.Sort Go.Lib in
/-- internal/strconv.FormatInt: "FormatInt returns the string representation of i in the given base": AT BASE 10: i's decimal numeral, for every int64. The world behind the call: the world before it, new blocks behind the heap, draws. (LAID: no walk: one application.) -/
theorem Tryd.internal_strconv_FormatInt_10 (n : Int) (h0 : -9223372036854775808 ≤ n) (h1 : n ≤ 9223372036854775807) (w : World) (htab : Lib.TabIs Tryd.prog w "internal/strconv.uint64pow10" .u64 Lib.pow10Tab) :
    Calls Tryd.prog 83 #[.int .i64 n, .int .i64 10] w fun e w' => e = .returned (.string ⟨(Lib.itoa n).toArray⟩) ∧ ∃ k os, w' = grow (w.drewN k) os := Any.internal_strconv_FormatInt_10 Tryd.laysM246 n h0 h1 w htab
def Tryd.lays246_ren : Go.Shelf.Ren := ⟨fun | 246 => 83 | 283 => 95 | 284 => 96 | 285 => 97 | 286 => 98 | 129 => 107 | 317 => 106 | 318 => 108 | 319 => 109 | 320 => 110 | 337 => 114 | 338 => 115 | n => n, fun | 2 => 2 | 3 => 3 | 9 => 9 | 4 => 4 | 171 => 156 | 0 => 0 | 53 => 157 | 37 => 49 | 5 => 5 | 173 => 160 | 212 => 163 | 51 => 164 | 20 => 20 | 213 => 165 | 46 => 166 | 232 => 172 | 233 => 173 | n => n, fun | 17 => 1 | 18 => 3 | 19 => 4 | n => n⟩
theorem Tryd.lays246 : Go.Proofs.Lays.n246 Tryd.prog Tryd.lays246_ren := {
  mixed := by kernel_rfl
  f129 := Tryd.func107.trans (congrArg some (by kernel_rfl))
  f246 := Tryd.func83.trans (congrArg some (by kernel_rfl))
  f283 := Tryd.func95.trans (congrArg some (by kernel_rfl))
  f284 := Tryd.func96.trans (congrArg some (by kernel_rfl))
  f285 := Tryd.func97.trans (congrArg some (by kernel_rfl))
  f286 := Tryd.func98.trans (congrArg some (by kernel_rfl))
  f317 := Tryd.func106.trans (congrArg some (by kernel_rfl))
  f318 := Tryd.func108.trans (congrArg some (by kernel_rfl))
  f319 := Tryd.func109.trans (congrArg some (by kernel_rfl))
  f320 := Tryd.func110.trans (congrArg some (by kernel_rfl))
  f337 := Tryd.func114.trans (congrArg some (by kernel_rfl))
  f338 := Tryd.func115.trans (congrArg some (by kernel_rfl))
  t0 := Tryd.underlying0
  a0 := Tryd.isAgg0
  z0 := Tryd.sizeOf0
  v0 := Tryd.zeroValue0
  t2 := Tryd.underlying2
  a2 := Tryd.isAgg2
  z2 := Tryd.sizeOf2
  v2 := Tryd.zeroValue2
  t3 := Tryd.underlying3
  a3 := Tryd.isAgg3
  z3 := Tryd.sizeOf3
  v3 := Tryd.zeroValue3
  t4 := Tryd.underlying4
  a4 := Tryd.isAgg4
  z4 := Tryd.sizeOf4
  v4 := Tryd.zeroValue4
  t5 := Tryd.underlying5
  a5 := Tryd.isAgg5
  z5 := Tryd.sizeOf5
  v5 := Tryd.zeroValue5
  t9 := Tryd.underlying9
  a9 := Tryd.isAgg9
  z9 := Tryd.sizeOf9
  v9 := Tryd.zeroValue9
  t20 := Tryd.underlying20
  a20 := Tryd.isAgg20
  z20 := Tryd.sizeOf20
  v20 := Tryd.zeroValue20
  t37 := Tryd.underlying49
  a37 := Tryd.isAgg49
  z37 := Tryd.sizeOf49
  v37 := Tryd.zeroValue49
  t46 := Tryd.underlying166
  a46 := Tryd.isAgg166
  z46 := Tryd.sizeOf166
  v46 := Tryd.zeroValue166
  t51 := Tryd.underlying164
  a51 := Tryd.isAgg164
  z51 := Tryd.sizeOf164
  v51 := Tryd.zeroValue164
  t53 := Tryd.underlying157
  a53 := Tryd.isAgg157
  z53 := Tryd.sizeOf157
  v53 := Tryd.zeroValue157
  t171 := Tryd.underlying156
  a171 := Tryd.isAgg156
  z171 := Tryd.sizeOf156
  v171 := Tryd.zeroValue156
  t173 := Tryd.underlying160
  a173 := Tryd.isAgg160
  z173 := Tryd.sizeOf160
  v173 := Tryd.zeroValue160
  t212 := Tryd.underlying163
  a212 := Tryd.isAgg163
  z212 := Tryd.sizeOf163
  v212 := Tryd.zeroValue163
  t213 := Tryd.underlying165
  a213 := Tryd.isAgg165
  z213 := Tryd.sizeOf165
  t232 := Tryd.underlying172
  a232 := Tryd.isAgg172
  z232 := Tryd.sizeOf172
  v232 := Tryd.zeroValue172
  t233 := Tryd.underlying173
  a233 := Tryd.isAgg173
  z233 := Tryd.sizeOf173
  v233 := Tryd.zeroValue173
  g17 := by kernel_rfl
  g18 := by kernel_rfl
  g19 := by kernel_rfl }
open Go.RowKit Go.Sort Go.Lib in
/-- THE ROAD WITHOUT THE TABLE: 0 <= i < 100: two constants are read, nothing is laid: no premise on the world, and the world is as it was. (LAID: no walk: one application.) -/
theorem Tryd.internal_strconv_FormatInt_10_small (i : Nat) (hi : i < 100) (w : World) :
    Calls Tryd.prog 83 #[.int .i64 i, .int .i64 10] w fun e w' => e = .returned (.string ⟨(Lib.decDigits i).toArray⟩) ∧ w' = w := Any.internal_strconv_FormatInt_10_small Tryd.lays246 i hi w
def Tryd.laysM243_ren : Go.Shelf.Ren := ⟨fun | 243 => 66 | 246 => 83 | 283 => 95 | 284 => 96 | 285 => 97 | 286 => 98 | 129 => 107 | 317 => 106 | 318 => 108 | 319 => 109 | 320 => 110 | 337 => 114 | 338 => 115 | n => n, fun | 3 => 3 | 9 => 9 | 2 => 2 | 4 => 4 | 171 => 156 | 0 => 0 | 53 => 157 | 37 => 49 | 5 => 5 | 173 => 160 | 212 => 163 | 51 => 164 | 20 => 20 | 213 => 165 | 46 => 166 | 232 => 172 | 233 => 173 | n => n, fun | 17 => 1 | 18 => 3 | 19 => 4 | n => n⟩
theorem Tryd.laysM243 : Go.Proofs.LaysM.n243 Tryd.prog Tryd.laysM243_ren := {
  mixed := by kernel_rfl
  f129 := Tryd.func107.trans (congrArg some (by kernel_rfl))
  f243 := Tryd.func66.trans (congrArg some (by kernel_rfl))
  f246 := Tryd.func83.trans (congrArg some (by kernel_rfl))
  f283 := Tryd.func95.trans (congrArg some (by kernel_rfl))
  f284 := Tryd.func96.trans (congrArg some (by kernel_rfl))
  f285 := Tryd.func97.trans (congrArg some (by kernel_rfl))
  f286 := Tryd.func98.trans (congrArg some (by kernel_rfl))
  f317 := Tryd.func106.trans (congrArg some (by kernel_rfl))
  f318 := Tryd.func108.trans (congrArg some (by kernel_rfl))
  f319 := Tryd.func109.trans (congrArg some (by kernel_rfl))
  f320 := Tryd.func110.trans (congrArg some (by kernel_rfl))
  f337 := Tryd.func114.trans (congrArg some (by kernel_rfl))
  f338 := Tryd.func115.trans (congrArg some (by kernel_rfl))
  t0 := Tryd.underlying0
  a0 := Tryd.isAgg0
  z0 := Tryd.sizeOf0
  v0 := Tryd.zeroValue0
  t2 := Tryd.underlying2
  a2 := Tryd.isAgg2
  z2 := Tryd.sizeOf2
  v2 := Tryd.zeroValue2
  t3 := Tryd.underlying3
  a3 := Tryd.isAgg3
  z3 := Tryd.sizeOf3
  v3 := Tryd.zeroValue3
  t4 := Tryd.underlying4
  a4 := Tryd.isAgg4
  z4 := Tryd.sizeOf4
  v4 := Tryd.zeroValue4
  t5 := Tryd.underlying5
  a5 := Tryd.isAgg5
  z5 := Tryd.sizeOf5
  v5 := Tryd.zeroValue5
  t9 := Tryd.underlying9
  a9 := Tryd.isAgg9
  z9 := Tryd.sizeOf9
  v9 := Tryd.zeroValue9
  t20 := Tryd.underlying20
  a20 := Tryd.isAgg20
  z20 := Tryd.sizeOf20
  v20 := Tryd.zeroValue20
  t37 := Tryd.underlying49
  a37 := Tryd.isAgg49
  z37 := Tryd.sizeOf49
  v37 := Tryd.zeroValue49
  t46 := Tryd.underlying166
  a46 := Tryd.isAgg166
  z46 := Tryd.sizeOf166
  v46 := Tryd.zeroValue166
  t51 := Tryd.underlying164
  a51 := Tryd.isAgg164
  z51 := Tryd.sizeOf164
  v51 := Tryd.zeroValue164
  t53 := Tryd.underlying157
  a53 := Tryd.isAgg157
  z53 := Tryd.sizeOf157
  v53 := Tryd.zeroValue157
  t171 := Tryd.underlying156
  a171 := Tryd.isAgg156
  z171 := Tryd.sizeOf156
  v171 := Tryd.zeroValue156
  t173 := Tryd.underlying160
  a173 := Tryd.isAgg160
  z173 := Tryd.sizeOf160
  v173 := Tryd.zeroValue160
  t212 := Tryd.underlying163
  a212 := Tryd.isAgg163
  z212 := Tryd.sizeOf163
  v212 := Tryd.zeroValue163
  t213 := Tryd.underlying165
  a213 := Tryd.isAgg165
  z213 := Tryd.sizeOf165
  t232 := Tryd.underlying172
  a232 := Tryd.isAgg172
  z232 := Tryd.sizeOf172
  v232 := Tryd.zeroValue172
  t233 := Tryd.underlying173
  a233 := Tryd.isAgg173
  z233 := Tryd.sizeOf173
  v233 := Tryd.zeroValue173
  g17 := by kernel_rfl
  g18 := by kernel_rfl
  g19 := by kernel_rfl
  i0 := by kernel_rfl
  i2 := by kernel_rfl
  i3 := by kernel_rfl
  i4 := by kernel_rfl
  i5 := by kernel_rfl
  i9 := by kernel_rfl
  i20 := by kernel_rfl
  i37 := by kernel_rfl
  i46 := by kernel_rfl
  i51 := by kernel_rfl
  i53 := by kernel_rfl
  i171 := by kernel_rfl
  i173 := by kernel_rfl
  i212 := by kernel_rfl
  i232 := by kernel_rfl
  i233 := by kernel_rfl
  m17 := by kernel_rfl
  m18 := by kernel_rfl
  m19 := by kernel_rfl }
open Go.RowKit Go.Sort Go.Lib in
/-- internal/strconv.Itoa: "Itoa is equivalent to FormatInt(int64(i), 10).": i's decimal numeral, for every int. (LAID: no walk: one application.) -/
theorem Tryd.internal_strconv_Itoa (n : Int) (h0 : -9223372036854775808 ≤ n) (h1 : n ≤ 9223372036854775807) (w : World) (htab : Lib.TabIs Tryd.prog w "internal/strconv.uint64pow10" .u64 Lib.pow10Tab) :
    Calls Tryd.prog 66 #[.int .i64 n] w fun e w' => e = .returned (.string ⟨(Lib.itoa n).toArray⟩) ∧ ∃ k os, w' = grow (w.drewN k) os := Any.internal_strconv_Itoa Tryd.laysM243 n h0 h1 w htab
def Tryd.lays243_ren : Go.Shelf.Ren := ⟨fun | 243 => 66 | 246 => 83 | 283 => 95 | 284 => 96 | 285 => 97 | 286 => 98 | 129 => 107 | 317 => 106 | 318 => 108 | 319 => 109 | 320 => 110 | 337 => 114 | 338 => 115 | n => n, fun | 3 => 3 | 9 => 9 | 2 => 2 | 4 => 4 | 171 => 156 | 0 => 0 | 53 => 157 | 37 => 49 | 5 => 5 | 173 => 160 | 212 => 163 | 51 => 164 | 20 => 20 | 213 => 165 | 46 => 166 | 232 => 172 | 233 => 173 | n => n, fun | 17 => 1 | 18 => 3 | 19 => 4 | n => n⟩
theorem Tryd.lays243 : Go.Proofs.Lays.n243 Tryd.prog Tryd.lays243_ren := {
  mixed := by kernel_rfl
  f129 := Tryd.func107.trans (congrArg some (by kernel_rfl))
  f243 := Tryd.func66.trans (congrArg some (by kernel_rfl))
  f246 := Tryd.func83.trans (congrArg some (by kernel_rfl))
  f283 := Tryd.func95.trans (congrArg some (by kernel_rfl))
  f284 := Tryd.func96.trans (congrArg some (by kernel_rfl))
  f285 := Tryd.func97.trans (congrArg some (by kernel_rfl))
  f286 := Tryd.func98.trans (congrArg some (by kernel_rfl))
  f317 := Tryd.func106.trans (congrArg some (by kernel_rfl))
  f318 := Tryd.func108.trans (congrArg some (by kernel_rfl))
  f319 := Tryd.func109.trans (congrArg some (by kernel_rfl))
  f320 := Tryd.func110.trans (congrArg some (by kernel_rfl))
  f337 := Tryd.func114.trans (congrArg some (by kernel_rfl))
  f338 := Tryd.func115.trans (congrArg some (by kernel_rfl))
  t0 := Tryd.underlying0
  a0 := Tryd.isAgg0
  z0 := Tryd.sizeOf0
  v0 := Tryd.zeroValue0
  t2 := Tryd.underlying2
  a2 := Tryd.isAgg2
  z2 := Tryd.sizeOf2
  v2 := Tryd.zeroValue2
  t3 := Tryd.underlying3
  a3 := Tryd.isAgg3
  z3 := Tryd.sizeOf3
  v3 := Tryd.zeroValue3
  t4 := Tryd.underlying4
  a4 := Tryd.isAgg4
  z4 := Tryd.sizeOf4
  v4 := Tryd.zeroValue4
  t5 := Tryd.underlying5
  a5 := Tryd.isAgg5
  z5 := Tryd.sizeOf5
  v5 := Tryd.zeroValue5
  t9 := Tryd.underlying9
  a9 := Tryd.isAgg9
  z9 := Tryd.sizeOf9
  v9 := Tryd.zeroValue9
  t20 := Tryd.underlying20
  a20 := Tryd.isAgg20
  z20 := Tryd.sizeOf20
  v20 := Tryd.zeroValue20
  t37 := Tryd.underlying49
  a37 := Tryd.isAgg49
  z37 := Tryd.sizeOf49
  v37 := Tryd.zeroValue49
  t46 := Tryd.underlying166
  a46 := Tryd.isAgg166
  z46 := Tryd.sizeOf166
  v46 := Tryd.zeroValue166
  t51 := Tryd.underlying164
  a51 := Tryd.isAgg164
  z51 := Tryd.sizeOf164
  v51 := Tryd.zeroValue164
  t53 := Tryd.underlying157
  a53 := Tryd.isAgg157
  z53 := Tryd.sizeOf157
  v53 := Tryd.zeroValue157
  t171 := Tryd.underlying156
  a171 := Tryd.isAgg156
  z171 := Tryd.sizeOf156
  v171 := Tryd.zeroValue156
  t173 := Tryd.underlying160
  a173 := Tryd.isAgg160
  z173 := Tryd.sizeOf160
  v173 := Tryd.zeroValue160
  t212 := Tryd.underlying163
  a212 := Tryd.isAgg163
  z212 := Tryd.sizeOf163
  v212 := Tryd.zeroValue163
  t213 := Tryd.underlying165
  a213 := Tryd.isAgg165
  z213 := Tryd.sizeOf165
  t232 := Tryd.underlying172
  a232 := Tryd.isAgg172
  z232 := Tryd.sizeOf172
  v232 := Tryd.zeroValue172
  t233 := Tryd.underlying173
  a233 := Tryd.isAgg173
  z233 := Tryd.sizeOf173
  v233 := Tryd.zeroValue173
  g17 := by kernel_rfl
  g18 := by kernel_rfl
  g19 := by kernel_rfl }
open Go.RowKit Go.Sort Go.Lib in
/-- THE ROAD WITHOUT THE TABLE: 0 <= i < 100. (LAID: no walk: one application.) -/
theorem Tryd.internal_strconv_Itoa_small (i : Nat) (hi : i < 100) (w : World) :
    Calls Tryd.prog 66 #[.int .i64 i] w fun e w' => e = .returned (.string ⟨(Lib.decDigits i).toArray⟩) ∧ w' = w := Any.internal_strconv_Itoa_small Tryd.lays243 i hi w
def Tryd.laysM171_ren : Go.Shelf.Ren := ⟨fun | 171 => 52 | 243 => 66 | 246 => 83 | 283 => 95 | 284 => 96 | 285 => 97 | 286 => 98 | 129 => 107 | 317 => 106 | 318 => 108 | 319 => 109 | 320 => 110 | 337 => 114 | 338 => 115 | n => n, fun | 3 => 3 | 9 => 9 | 2 => 2 | 4 => 4 | 171 => 156 | 0 => 0 | 53 => 157 | 37 => 49 | 5 => 5 | 173 => 160 | 212 => 163 | 51 => 164 | 20 => 20 | 213 => 165 | 46 => 166 | 232 => 172 | 233 => 173 | n => n, fun | 17 => 1 | 18 => 3 | 19 => 4 | n => n⟩
theorem Tryd.laysM171 : Go.Proofs.LaysM.n171 Tryd.prog Tryd.laysM171_ren := {
  mixed := by kernel_rfl
  f129 := Tryd.func107.trans (congrArg some (by kernel_rfl))
  f171 := Tryd.func52.trans (congrArg some (by kernel_rfl))
  f243 := Tryd.func66.trans (congrArg some (by kernel_rfl))
  f246 := Tryd.func83.trans (congrArg some (by kernel_rfl))
  f283 := Tryd.func95.trans (congrArg some (by kernel_rfl))
  f284 := Tryd.func96.trans (congrArg some (by kernel_rfl))
  f285 := Tryd.func97.trans (congrArg some (by kernel_rfl))
  f286 := Tryd.func98.trans (congrArg some (by kernel_rfl))
  f317 := Tryd.func106.trans (congrArg some (by kernel_rfl))
  f318 := Tryd.func108.trans (congrArg some (by kernel_rfl))
  f319 := Tryd.func109.trans (congrArg some (by kernel_rfl))
  f320 := Tryd.func110.trans (congrArg some (by kernel_rfl))
  f337 := Tryd.func114.trans (congrArg some (by kernel_rfl))
  f338 := Tryd.func115.trans (congrArg some (by kernel_rfl))
  t0 := Tryd.underlying0
  a0 := Tryd.isAgg0
  z0 := Tryd.sizeOf0
  v0 := Tryd.zeroValue0
  t2 := Tryd.underlying2
  a2 := Tryd.isAgg2
  z2 := Tryd.sizeOf2
  v2 := Tryd.zeroValue2
  t3 := Tryd.underlying3
  a3 := Tryd.isAgg3
  z3 := Tryd.sizeOf3
  v3 := Tryd.zeroValue3
  t4 := Tryd.underlying4
  a4 := Tryd.isAgg4
  z4 := Tryd.sizeOf4
  v4 := Tryd.zeroValue4
  t5 := Tryd.underlying5
  a5 := Tryd.isAgg5
  z5 := Tryd.sizeOf5
  v5 := Tryd.zeroValue5
  t9 := Tryd.underlying9
  a9 := Tryd.isAgg9
  z9 := Tryd.sizeOf9
  v9 := Tryd.zeroValue9
  t20 := Tryd.underlying20
  a20 := Tryd.isAgg20
  z20 := Tryd.sizeOf20
  v20 := Tryd.zeroValue20
  t37 := Tryd.underlying49
  a37 := Tryd.isAgg49
  z37 := Tryd.sizeOf49
  v37 := Tryd.zeroValue49
  t46 := Tryd.underlying166
  a46 := Tryd.isAgg166
  z46 := Tryd.sizeOf166
  v46 := Tryd.zeroValue166
  t51 := Tryd.underlying164
  a51 := Tryd.isAgg164
  z51 := Tryd.sizeOf164
  v51 := Tryd.zeroValue164
  t53 := Tryd.underlying157
  a53 := Tryd.isAgg157
  z53 := Tryd.sizeOf157
  v53 := Tryd.zeroValue157
  t171 := Tryd.underlying156
  a171 := Tryd.isAgg156
  z171 := Tryd.sizeOf156
  v171 := Tryd.zeroValue156
  t173 := Tryd.underlying160
  a173 := Tryd.isAgg160
  z173 := Tryd.sizeOf160
  v173 := Tryd.zeroValue160
  t212 := Tryd.underlying163
  a212 := Tryd.isAgg163
  z212 := Tryd.sizeOf163
  v212 := Tryd.zeroValue163
  t213 := Tryd.underlying165
  a213 := Tryd.isAgg165
  z213 := Tryd.sizeOf165
  t232 := Tryd.underlying172
  a232 := Tryd.isAgg172
  z232 := Tryd.sizeOf172
  v232 := Tryd.zeroValue172
  t233 := Tryd.underlying173
  a233 := Tryd.isAgg173
  z233 := Tryd.sizeOf173
  v233 := Tryd.zeroValue173
  g17 := by kernel_rfl
  g18 := by kernel_rfl
  g19 := by kernel_rfl
  i0 := by kernel_rfl
  i2 := by kernel_rfl
  i3 := by kernel_rfl
  i4 := by kernel_rfl
  i5 := by kernel_rfl
  i9 := by kernel_rfl
  i20 := by kernel_rfl
  i37 := by kernel_rfl
  i46 := by kernel_rfl
  i51 := by kernel_rfl
  i53 := by kernel_rfl
  i171 := by kernel_rfl
  i173 := by kernel_rfl
  i212 := by kernel_rfl
  i232 := by kernel_rfl
  i233 := by kernel_rfl
  m17 := by kernel_rfl
  m18 := by kernel_rfl
  m19 := by kernel_rfl }
open Go.RowKit Go.Sort Go.Lib in
/-- strconv.Itoa: "Itoa is equivalent to FormatInt(int64(i), 10).": i's DECIMAL NUMERAL ('Lib.itoa': a '-' where i is negative, then the digits), FOR EVERY int. The world behind the call: the world before it, new blocks behind the heap (the library's 'var a [24]byte'), draws. (LAID: no walk: one application.) -/
theorem Tryd.strconv_Itoa (n : Int) (h0 : -9223372036854775808 ≤ n) (h1 : n ≤ 9223372036854775807) (w : World) (htab : Lib.TabIs Tryd.prog w "internal/strconv.uint64pow10" .u64 Lib.pow10Tab) :
    Calls Tryd.prog 52 #[.int .i64 n] w fun e w' => e = .returned (.string ⟨(Lib.itoa n).toArray⟩) ∧ ∃ k os, w' = grow (w.drewN k) os := Any.strconv_Itoa Tryd.laysM171 n h0 h1 w htab
def Tryd.lays171_ren : Go.Shelf.Ren := ⟨fun | 171 => 52 | 243 => 66 | 246 => 83 | 283 => 95 | 284 => 96 | 285 => 97 | 286 => 98 | 129 => 107 | 317 => 106 | 318 => 108 | 319 => 109 | 320 => 110 | 337 => 114 | 338 => 115 | n => n, fun | 3 => 3 | 9 => 9 | 2 => 2 | 4 => 4 | 171 => 156 | 0 => 0 | 53 => 157 | 37 => 49 | 5 => 5 | 173 => 160 | 212 => 163 | 51 => 164 | 20 => 20 | 213 => 165 | 46 => 166 | 232 => 172 | 233 => 173 | n => n, fun | 17 => 1 | 18 => 3 | 19 => 4 | n => n⟩
theorem Tryd.lays171 : Go.Proofs.Lays.n171 Tryd.prog Tryd.lays171_ren := {
  mixed := by kernel_rfl
  f129 := Tryd.func107.trans (congrArg some (by kernel_rfl))
  f171 := Tryd.func52.trans (congrArg some (by kernel_rfl))
  f243 := Tryd.func66.trans (congrArg some (by kernel_rfl))
  f246 := Tryd.func83.trans (congrArg some (by kernel_rfl))
  f283 := Tryd.func95.trans (congrArg some (by kernel_rfl))
  f284 := Tryd.func96.trans (congrArg some (by kernel_rfl))
  f285 := Tryd.func97.trans (congrArg some (by kernel_rfl))
  f286 := Tryd.func98.trans (congrArg some (by kernel_rfl))
  f317 := Tryd.func106.trans (congrArg some (by kernel_rfl))
  f318 := Tryd.func108.trans (congrArg some (by kernel_rfl))
  f319 := Tryd.func109.trans (congrArg some (by kernel_rfl))
  f320 := Tryd.func110.trans (congrArg some (by kernel_rfl))
  f337 := Tryd.func114.trans (congrArg some (by kernel_rfl))
  f338 := Tryd.func115.trans (congrArg some (by kernel_rfl))
  t0 := Tryd.underlying0
  a0 := Tryd.isAgg0
  z0 := Tryd.sizeOf0
  v0 := Tryd.zeroValue0
  t2 := Tryd.underlying2
  a2 := Tryd.isAgg2
  z2 := Tryd.sizeOf2
  v2 := Tryd.zeroValue2
  t3 := Tryd.underlying3
  a3 := Tryd.isAgg3
  z3 := Tryd.sizeOf3
  v3 := Tryd.zeroValue3
  t4 := Tryd.underlying4
  a4 := Tryd.isAgg4
  z4 := Tryd.sizeOf4
  v4 := Tryd.zeroValue4
  t5 := Tryd.underlying5
  a5 := Tryd.isAgg5
  z5 := Tryd.sizeOf5
  v5 := Tryd.zeroValue5
  t9 := Tryd.underlying9
  a9 := Tryd.isAgg9
  z9 := Tryd.sizeOf9
  v9 := Tryd.zeroValue9
  t20 := Tryd.underlying20
  a20 := Tryd.isAgg20
  z20 := Tryd.sizeOf20
  v20 := Tryd.zeroValue20
  t37 := Tryd.underlying49
  a37 := Tryd.isAgg49
  z37 := Tryd.sizeOf49
  v37 := Tryd.zeroValue49
  t46 := Tryd.underlying166
  a46 := Tryd.isAgg166
  z46 := Tryd.sizeOf166
  v46 := Tryd.zeroValue166
  t51 := Tryd.underlying164
  a51 := Tryd.isAgg164
  z51 := Tryd.sizeOf164
  v51 := Tryd.zeroValue164
  t53 := Tryd.underlying157
  a53 := Tryd.isAgg157
  z53 := Tryd.sizeOf157
  v53 := Tryd.zeroValue157
  t171 := Tryd.underlying156
  a171 := Tryd.isAgg156
  z171 := Tryd.sizeOf156
  v171 := Tryd.zeroValue156
  t173 := Tryd.underlying160
  a173 := Tryd.isAgg160
  z173 := Tryd.sizeOf160
  v173 := Tryd.zeroValue160
  t212 := Tryd.underlying163
  a212 := Tryd.isAgg163
  z212 := Tryd.sizeOf163
  v212 := Tryd.zeroValue163
  t213 := Tryd.underlying165
  a213 := Tryd.isAgg165
  z213 := Tryd.sizeOf165
  t232 := Tryd.underlying172
  a232 := Tryd.isAgg172
  z232 := Tryd.sizeOf172
  v232 := Tryd.zeroValue172
  t233 := Tryd.underlying173
  a233 := Tryd.isAgg173
  z233 := Tryd.sizeOf173
  v233 := Tryd.zeroValue173
  g17 := by kernel_rfl
  g18 := by kernel_rfl
  g19 := by kernel_rfl }
open Go.RowKit Go.Sort Go.Lib in
/-- THE ROAD WITHOUT THE TABLE: 0 <= i < 100: NO PREMISE ON THE WORLD, AND THE WORLD IS AS IT WAS: a row that keeps its argument in that range need list no table ('laid = []'). (LAID: no walk: one application.) -/
theorem Tryd.strconv_Itoa_small (i : Nat) (hi : i < 100) (w : World) :
    Calls Tryd.prog 52 #[.int .i64 i] w fun e w' => e = .returned (.string ⟨(Lib.decDigits i).toArray⟩) ∧ w' = w := Any.strconv_Itoa_small Tryd.lays171 i hi w
def Tryd.laysM173_ren : Go.Shelf.Ren := ⟨fun | 173 => 81 | 246 => 83 | 283 => 95 | 284 => 96 | 285 => 97 | 286 => 98 | 129 => 107 | 317 => 106 | 318 => 108 | 319 => 109 | 320 => 110 | 337 => 114 | 338 => 115 | n => n, fun | 2 => 2 | 3 => 3 | 9 => 9 | 4 => 4 | 171 => 156 | 0 => 0 | 53 => 157 | 37 => 49 | 5 => 5 | 173 => 160 | 212 => 163 | 51 => 164 | 20 => 20 | 213 => 165 | 46 => 166 | 232 => 172 | 233 => 173 | n => n, fun | 17 => 1 | 18 => 3 | 19 => 4 | n => n⟩
theorem Tryd.laysM173 : Go.Proofs.LaysM.n173 Tryd.prog Tryd.laysM173_ren := {
  mixed := by kernel_rfl
  f129 := Tryd.func107.trans (congrArg some (by kernel_rfl))
  f173 := Tryd.func81.trans (congrArg some (by kernel_rfl))
  f246 := Tryd.func83.trans (congrArg some (by kernel_rfl))
  f283 := Tryd.func95.trans (congrArg some (by kernel_rfl))
  f284 := Tryd.func96.trans (congrArg some (by kernel_rfl))
  f285 := Tryd.func97.trans (congrArg some (by kernel_rfl))
  f286 := Tryd.func98.trans (congrArg some (by kernel_rfl))
  f317 := Tryd.func106.trans (congrArg some (by kernel_rfl))
  f318 := Tryd.func108.trans (congrArg some (by kernel_rfl))
  f319 := Tryd.func109.trans (congrArg some (by kernel_rfl))
  f320 := Tryd.func110.trans (congrArg some (by kernel_rfl))
  f337 := Tryd.func114.trans (congrArg some (by kernel_rfl))
  f338 := Tryd.func115.trans (congrArg some (by kernel_rfl))
  t0 := Tryd.underlying0
  a0 := Tryd.isAgg0
  z0 := Tryd.sizeOf0
  v0 := Tryd.zeroValue0
  t2 := Tryd.underlying2
  a2 := Tryd.isAgg2
  z2 := Tryd.sizeOf2
  v2 := Tryd.zeroValue2
  t3 := Tryd.underlying3
  a3 := Tryd.isAgg3
  z3 := Tryd.sizeOf3
  v3 := Tryd.zeroValue3
  t4 := Tryd.underlying4
  a4 := Tryd.isAgg4
  z4 := Tryd.sizeOf4
  v4 := Tryd.zeroValue4
  t5 := Tryd.underlying5
  a5 := Tryd.isAgg5
  z5 := Tryd.sizeOf5
  v5 := Tryd.zeroValue5
  t9 := Tryd.underlying9
  a9 := Tryd.isAgg9
  z9 := Tryd.sizeOf9
  v9 := Tryd.zeroValue9
  t20 := Tryd.underlying20
  a20 := Tryd.isAgg20
  z20 := Tryd.sizeOf20
  v20 := Tryd.zeroValue20
  t37 := Tryd.underlying49
  a37 := Tryd.isAgg49
  z37 := Tryd.sizeOf49
  v37 := Tryd.zeroValue49
  t46 := Tryd.underlying166
  a46 := Tryd.isAgg166
  z46 := Tryd.sizeOf166
  v46 := Tryd.zeroValue166
  t51 := Tryd.underlying164
  a51 := Tryd.isAgg164
  z51 := Tryd.sizeOf164
  v51 := Tryd.zeroValue164
  t53 := Tryd.underlying157
  a53 := Tryd.isAgg157
  z53 := Tryd.sizeOf157
  v53 := Tryd.zeroValue157
  t171 := Tryd.underlying156
  a171 := Tryd.isAgg156
  z171 := Tryd.sizeOf156
  v171 := Tryd.zeroValue156
  t173 := Tryd.underlying160
  a173 := Tryd.isAgg160
  z173 := Tryd.sizeOf160
  v173 := Tryd.zeroValue160
  t212 := Tryd.underlying163
  a212 := Tryd.isAgg163
  z212 := Tryd.sizeOf163
  v212 := Tryd.zeroValue163
  t213 := Tryd.underlying165
  a213 := Tryd.isAgg165
  z213 := Tryd.sizeOf165
  t232 := Tryd.underlying172
  a232 := Tryd.isAgg172
  z232 := Tryd.sizeOf172
  v232 := Tryd.zeroValue172
  t233 := Tryd.underlying173
  a233 := Tryd.isAgg173
  z233 := Tryd.sizeOf173
  v233 := Tryd.zeroValue173
  g17 := by kernel_rfl
  g18 := by kernel_rfl
  g19 := by kernel_rfl
  i0 := by kernel_rfl
  i2 := by kernel_rfl
  i3 := by kernel_rfl
  i4 := by kernel_rfl
  i5 := by kernel_rfl
  i9 := by kernel_rfl
  i20 := by kernel_rfl
  i37 := by kernel_rfl
  i46 := by kernel_rfl
  i51 := by kernel_rfl
  i53 := by kernel_rfl
  i171 := by kernel_rfl
  i173 := by kernel_rfl
  i212 := by kernel_rfl
  i232 := by kernel_rfl
  i233 := by kernel_rfl
  m17 := by kernel_rfl
  m18 := by kernel_rfl
  m19 := by kernel_rfl }
open Go.RowKit Go.Sort Go.Lib in
/-- strconv.FormatInt: "FormatInt returns the string representation of i in the given base": AT BASE 10: i's decimal numeral, for every int64. (LAID: no walk: one application.) -/
theorem Tryd.strconv_FormatInt_10 (n : Int) (h0 : -9223372036854775808 ≤ n) (h1 : n ≤ 9223372036854775807) (w : World) (htab : Lib.TabIs Tryd.prog w "internal/strconv.uint64pow10" .u64 Lib.pow10Tab) :
    Calls Tryd.prog 81 #[.int .i64 n, .int .i64 10] w fun e w' => e = .returned (.string ⟨(Lib.itoa n).toArray⟩) ∧ ∃ k os, w' = grow (w.drewN k) os := Any.strconv_FormatInt_10 Tryd.laysM173 n h0 h1 w htab
def Tryd.lays173_ren : Go.Shelf.Ren := ⟨fun | 173 => 81 | 246 => 83 | 283 => 95 | 284 => 96 | 285 => 97 | 286 => 98 | 129 => 107 | 317 => 106 | 318 => 108 | 319 => 109 | 320 => 110 | 337 => 114 | 338 => 115 | n => n, fun | 2 => 2 | 3 => 3 | 9 => 9 | 4 => 4 | 171 => 156 | 0 => 0 | 53 => 157 | 37 => 49 | 5 => 5 | 173 => 160 | 212 => 163 | 51 => 164 | 20 => 20 | 213 => 165 | 46 => 166 | 232 => 172 | 233 => 173 | n => n, fun | 17 => 1 | 18 => 3 | 19 => 4 | n => n⟩
theorem Tryd.lays173 : Go.Proofs.Lays.n173 Tryd.prog Tryd.lays173_ren := {
  mixed := by kernel_rfl
  f129 := Tryd.func107.trans (congrArg some (by kernel_rfl))
  f173 := Tryd.func81.trans (congrArg some (by kernel_rfl))
  f246 := Tryd.func83.trans (congrArg some (by kernel_rfl))
  f283 := Tryd.func95.trans (congrArg some (by kernel_rfl))
  f284 := Tryd.func96.trans (congrArg some (by kernel_rfl))
  f285 := Tryd.func97.trans (congrArg some (by kernel_rfl))
  f286 := Tryd.func98.trans (congrArg some (by kernel_rfl))
  f317 := Tryd.func106.trans (congrArg some (by kernel_rfl))
  f318 := Tryd.func108.trans (congrArg some (by kernel_rfl))
  f319 := Tryd.func109.trans (congrArg some (by kernel_rfl))
  f320 := Tryd.func110.trans (congrArg some (by kernel_rfl))
  f337 := Tryd.func114.trans (congrArg some (by kernel_rfl))
  f338 := Tryd.func115.trans (congrArg some (by kernel_rfl))
  t0 := Tryd.underlying0
  a0 := Tryd.isAgg0
  z0 := Tryd.sizeOf0
  v0 := Tryd.zeroValue0
  t2 := Tryd.underlying2
  a2 := Tryd.isAgg2
  z2 := Tryd.sizeOf2
  v2 := Tryd.zeroValue2
  t3 := Tryd.underlying3
  a3 := Tryd.isAgg3
  z3 := Tryd.sizeOf3
  v3 := Tryd.zeroValue3
  t4 := Tryd.underlying4
  a4 := Tryd.isAgg4
  z4 := Tryd.sizeOf4
  v4 := Tryd.zeroValue4
  t5 := Tryd.underlying5
  a5 := Tryd.isAgg5
  z5 := Tryd.sizeOf5
  v5 := Tryd.zeroValue5
  t9 := Tryd.underlying9
  a9 := Tryd.isAgg9
  z9 := Tryd.sizeOf9
  v9 := Tryd.zeroValue9
  t20 := Tryd.underlying20
  a20 := Tryd.isAgg20
  z20 := Tryd.sizeOf20
  v20 := Tryd.zeroValue20
  t37 := Tryd.underlying49
  a37 := Tryd.isAgg49
  z37 := Tryd.sizeOf49
  v37 := Tryd.zeroValue49
  t46 := Tryd.underlying166
  a46 := Tryd.isAgg166
  z46 := Tryd.sizeOf166
  v46 := Tryd.zeroValue166
  t51 := Tryd.underlying164
  a51 := Tryd.isAgg164
  z51 := Tryd.sizeOf164
  v51 := Tryd.zeroValue164
  t53 := Tryd.underlying157
  a53 := Tryd.isAgg157
  z53 := Tryd.sizeOf157
  v53 := Tryd.zeroValue157
  t171 := Tryd.underlying156
  a171 := Tryd.isAgg156
  z171 := Tryd.sizeOf156
  v171 := Tryd.zeroValue156
  t173 := Tryd.underlying160
  a173 := Tryd.isAgg160
  z173 := Tryd.sizeOf160
  v173 := Tryd.zeroValue160
  t212 := Tryd.underlying163
  a212 := Tryd.isAgg163
  z212 := Tryd.sizeOf163
  v212 := Tryd.zeroValue163
  t213 := Tryd.underlying165
  a213 := Tryd.isAgg165
  z213 := Tryd.sizeOf165
  t232 := Tryd.underlying172
  a232 := Tryd.isAgg172
  z232 := Tryd.sizeOf172
  v232 := Tryd.zeroValue172
  t233 := Tryd.underlying173
  a233 := Tryd.isAgg173
  z233 := Tryd.sizeOf173
  v233 := Tryd.zeroValue173
  g17 := by kernel_rfl
  g18 := by kernel_rfl
  g19 := by kernel_rfl }
open Go.RowKit Go.Sort Go.Lib in
/-- THE ROAD WITHOUT THE TABLE: 0 <= i < 100. (LAID: no walk: one application.) -/
theorem Tryd.strconv_FormatInt_10_small (i : Nat) (hi : i < 100) (w : World) :
    Calls Tryd.prog 81 #[.int .i64 i, .int .i64 10] w fun e w' => e = .returned (.string ⟨(Lib.decDigits i).toArray⟩) ∧ w' = w := Any.strconv_FormatInt_10_small Tryd.lays173 i hi w
end Go.Proofs
namespace Go.Own
open Go.RowKit
theorem made_flat (z : Array Value) (hz : 0 < z.size) : ∀ n, madeCells z (n * z.size) = (List.replicate n z.toList).flatten.toArray := by
  intro n
  apply Array.ext
  · simp [madeCells]
  · intro i h1 h2
    have hi : i < n * z.size := by simpa [madeCells] using h1
    have hm : i % z.size < z.size := Nat.mod_lt _ hz
    simp only [madeCells, Array.getElem_map, Array.getElem_range, List.getElem_toArray]
    rw [getElem!_pos z (i % z.size) hm]
    clear h1
    induction n generalizing i with
    | zero => simp at hi
    | succ n ih =>
      simp only [List.replicate_succ, List.flatten_cons]
      by_cases hlt : i < z.size
      · rw [List.getElem_append_left (by simpa using hlt)]
        simp [Nat.mod_eq_of_lt hlt]
      · have hsub : i - z.size < n * z.size := by rw [Nat.succ_mul] at hi; omega
        rw [List.getElem_append_right (by simpa using Nat.le_of_not_lt hlt)]
        have e : i % z.size = (i - z.size) % z.size := (Nat.mod_eq_sub_mod (Nat.le_of_not_lt hlt))
        have h3 := ih (i - z.size) (by simpa using hsub) hsub (Nat.mod_lt _ hz)
        simp only [Array.length_toList]
        rw [← h3]
        congr 1
section
variable {P : Program} {ops : Array Oper} {rest : List Oper} {o : Oper} {a : Act} {W w : World} {Q : Exit → Act → World → Prop} {L L' : List Ent}
theorem wpList_makeRow {t e k by' : Nat} {x y : Operand} {n : Nat} {kd : IntKind} {z : Value} (hO : Own W w L) (ho : o.op = .makeSlice t x y) (hx : a.eval x = .int kd (n : Int)) (hy : a.eval y = .int kd (n : Int)) (ht : P.underlying t = some (.slice e)) (he : IsElem P e k by') (hz : HasZero P e z) (hzk : z.cells.size = k) (hn : n * k ≤ 1000000) (hb : by' * n ≤ 281474976710656)
    (hw : Region.wanted o (yielded ops a.tmps) = true) (h : ∀ b w', Own W w' (row e k (.slice (some ⟨b, 0, none⟩) n n) (List.replicate n z.cells.toList) :: L) → wpList P ops Q rest (a.put o.dst (.slice (some ⟨b, 0, none⟩) n n)) w') : wpList P ops Q (o :: rest) a w := by
  have hpos := he.pos
  have h1 := he.out
  cases hi : P.info? e with
  | none => simp [hi] at h1
  | some i =>
    cases hzz : i.zero with
    | none => simp [hi, hzz] at h1
    | some zv =>
      simp only [hi, hzz, Option.bind_some, Option.map_some, Option.some.injEq, Prod.mk.injEq] at h1
      obtain ⟨h2, h3, h4⟩ := h1
      have hz2 := hz.out
      rw [hi] at hz2
      obtain rfl : zv = z := by
        have : i.zero = some z := hz2
        rw [hzz] at this
        exact Option.some.inj this
      have hr := run_makeSlice (P := P) w t e i zv ht hi hzz kd kd (n : Int) (n : Int) (by omega) (Int.le_refl _) (by rw [h3, Int.toNat_natCast]; omega) (by rw [h4, ← Int.natCast_mul]; omega) (by have : n ≤ n * k := Nat.le_mul_of_pos_right n hpos; omega)
      rw [h3, Int.toNat_natCast, ← hzk, made_flat zv.cells (by omega)] at hr
      obtain ⟨cs, hcs⟩ : ∃ cs, (List.replicate n zv.cells.toList).flatten.toArray = cs := ⟨_, rfl⟩
      rw [hcs] at hr
      have hnk : n ≤ maxLen := by
        have : n ≤ n * k := Nat.le_mul_of_pos_right n hpos
        unfold maxLen; omega
      exact wpList_value hw (by simp [execOp, ho, hx, hy, hr, Result.andThen]) (h _ _ (Own.litRow (n := n) (hO.alloc _) (fun l hl => by rw [List.eq_of_mem_replicate hl]; simpa using hzk) (by simp) hcs hnk))
theorem wpList_strGen {src dst e : TypeId} {x : Operand} {q : Addr} {c : Nat} {l : List UInt8} (ho : o.op = .convert src dst x) (hx : a.eval x = .slice (some q) l.length c) (hs : P.underlying src = some (.slice e)) (he : P.underlying e = some (.int .u8)) (hd : P.underlying dst = some .string)
    (hc : ∀ j (hj : j < l.length), w.cell? (q.add j) = some (.int .u8 (l[j].toNat : Int)))
    (hw : Region.wanted o (yielded ops a.tmps) = true) (h : wpList P ops Q rest (a.put o.dst (.string ⟨l.toArray⟩)) w) : wpList P ops Q (o :: rest) a w := by
  have h1 := run_convert_bytes_back (P := P) w src dst e q c l hs he hd hc
  exact wpList_value hw (by simp [execOp, ho, hx, h1, Result.andThen]) h
theorem wpList_strOne {src dst e : TypeId} {x : Operand} {b n c : Nat} {v : Int} {T : TypeId} (hO : Own W w L) (ho : o.op = .convert src dst x) (hx : a.eval x = .slice (some ⟨b, 0, none⟩) 1 c) (hat : At (box b (.cells [Value.int .u8 v].toArray T)) (box b (.cells [Value.int .u8 v].toArray T)) L L') (hv : v = (n : Int)) (hs : P.underlying src = some (.slice e)) (he : P.underlying e = some (.int .u8)) (hd : P.underlying dst = some .string)
    (hn : n < 256) (hw : Region.wanted o (yielded ops a.tmps) = true) (h : wpList P ops Q rest (a.put o.dst (.string ⟨#[UInt8.ofNat n]⟩)) w) : wpList P ops Q (o :: rest) a w := by
  have hc : ∀ j (hj : j < [UInt8.ofNat n].length), w.cell? ((⟨b, 0, none⟩ : Addr).add j) = some (.int .u8 (([UInt8.ofNat n][j]).toNat : Int)) := fun j hj => by
    obtain rfl : j = 0 := by simp at hj; exact hj
    rw [addAt, cellAt (hO.has _ hat.mem)]
    simp [hv]
    omega
  exact wpList_strGen (l := [UInt8.ofNat n]) ho hx hs he hd hc hw h
end
end Go.Own
namespace Go.Proofs.YtibabfedpdoofaaDoor
open Go.RowKit Go.Own Go.Maps

/-- The value of a numeral. -/
def valD (l : List UInt8) : Nat := l.foldl (fun a b => 10 * a + (b.toNat - 48)) 0
theorem valD_app (l : List UInt8) (b : UInt8) : valD (l ++ [b]) = 10 * valD l + (b.toNat - 48) := by simp [valD, List.foldl_append]
theorem valD_dec (u : Nat) : valD (Lib.decDigits u) = u := by
  induction u using Nat.strongRecOn with
  | _ u ih =>
    by_cases h : u < 10
    · rw [Lib.decDigits, dif_pos h]
      simp only [valD, List.foldl_cons, List.foldl_nil, UInt8.toNat_ofNat']
      omega
    · rw [Lib.decDigits, dif_neg h, valD_app, ih (u / 10) (by omega), UInt8.toNat_ofNat']
      omega
theorem dec_inj {u v : Nat} (h : Lib.decDigits u = Lib.decDigits v) : u = v := by rw [← valD_dec u, h, valD_dec]
theorem dec_digit (u : Nat) : ∀ b ∈ Lib.decDigits u, 48 ≤ b.toNat ∧ b.toNat ≤ 57 := by
  induction u using Nat.strongRecOn with
  | _ u ih =>
    intro b hb
    by_cases h : u < 10
    · rw [Lib.decDigits, dif_pos h] at hb
      rw [List.mem_singleton.1 hb, UInt8.toNat_ofNat']
      omega
    · rw [Lib.decDigits, dif_neg h] at hb
      rcases List.mem_append.1 hb with hb | hb
      · exact ih (u / 10) (by omega) b hb
      · rw [List.mem_singleton.1 hb, UInt8.toNat_ofNat']
        omega
theorem dec_ne (u : Nat) : Lib.decDigits u ≠ [] := by
  by_cases h : u < 10
  · rw [Lib.decDigits, dif_pos h]; simp
  · rw [Lib.decDigits, dif_neg h]; simp
/-- A deed's word. -/
def deedL (d : Int) : List UInt8 := if d = 0 then [114, 101, 115, 101, 114, 118, 101] else if d = 1 then [99, 104, 97, 114, 103, 101] else if d = 2 then [115, 104, 105, 112] else if d = 3 then [114, 101, 108, 101, 97, 115, 101] else if d = 4 then [114, 101, 102, 117, 110, 100] else if d = 5 then [118, 111, 105, 100] else []
def deedsF : Lit → Option Value
  | .string s => if s = deedL 0 then some (.int .i64 0) else if s = deedL 1 then some (.int .i64 1) else if s = deedL 2 then some (.int .i64 2) else if s = deedL 3 then some (.int .i64 3) else if s = deedL 4 then some (.int .i64 4) else if s = deedL 5 then some (.int .i64 5) else none
  | _ => none
theorem deedsF_inv {l : Lit} {v : Value} (h : deedsF l = some v) : ∃ d : Int, 0 ≤ d ∧ d ≤ 5 ∧ l = .string (deedL d) ∧ v = .int .i64 d := by
  cases l <;> simp only [deedsF, reduceCtorEq] at h
  rename_i s
  repeat' split at h
  all_goals first
    | (cases h; done)
    | (rename_i e; simp only [Option.some.injEq] at h; subst e h; first | exact ⟨0, by decide, by decide, rfl, rfl⟩ | exact ⟨1, by decide, by decide, rfl, rfl⟩ | exact ⟨2, by decide, by decide, rfl, rfl⟩ | exact ⟨3, by decide, by decide, rfl, rfl⟩ | exact ⟨4, by decide, by decide, rfl, rfl⟩ | exact ⟨5, by decide, by decide, rfl, rfl⟩)
theorem deedsF_word {d : Int} (h0 : 0 ≤ d) (h5 : d ≤ 5) : deedsF (.string (deedL d)) = some (.int .i64 d) := by
  have : d = 0 ∨ d = 1 ∨ d = 2 ∨ d = 3 ∨ d = 4 ∨ d = 5 := by omega
  rcases this with rfl | rfl | rfl | rfl | rfl | rfl <;> rfl
/-- The words of the deeds, as the program's text lays them. -/
structure DeedsLaid (w : World) : Prop where
  lt : 0 < w.heap.size
  has : ∃ mb n, w.cell? ⟨0, 0, none⟩ = some (.map (some mb)) ∧ (mapE Tryd.prog 9 mb n deedsF).F w
theorem DeedsLaid.below {w w' : World} (h : DeedsLaid w) (hb : Below w.heap.size w w') : DeedsLaid w' := by
  obtain ⟨mb, n, hc, hF⟩ := h.has
  have hlt : mb < w.heap.size := by obtain ⟨D, hD, _⟩ := hF; exact hD.lt
  exact ⟨Nat.lt_of_lt_of_le h.lt hb.size, mb, n, by rw [hb.cell h.lt]; exact hc, mapE_ok _ _ _ _ _ w w' (fun b hb' => by rw [List.mem_singleton.1 hb']; exact hb.block _ hlt) hF⟩
structure LaidE (w : World) : Prop where
  p : Laid w
  d : DeedsLaid w
  t : Lib.TabIs Tryd.prog w "internal/strconv.uint64pow10" .u64 Lib.pow10Tab
theorem gPow : Tryd.prog.globalNamed "internal/strconv.uint64pow10" = some 1 := by kernel_rfl
theorem tab_below {w w' : World} (h : Lib.TabIs Tryd.prog w "internal/strconv.uint64pow10" .u64 Lib.pow10Tab) (hb : Below w.heap.size w w') : Lib.TabIs Tryd.prog w' "internal/strconv.uint64pow10" .u64 Lib.pow10Tab := by
  have hlt : 1 < w.heap.size := by
    have := h.cell gPow 0 (by decide)
    exact World.block_lt_of_cell? w _ this
  unfold Lib.TabIs World.var? at *
  rw [gPow] at h ⊢
  simp only [Option.bind_some] at h ⊢
  rw [hb.block _ hlt]
  exact h
theorem LaidE.below {w w' : World} (h : LaidE w) (hb : Below w.heap.size w w') : LaidE w' := ⟨h.p.below hb h.p.1, h.d.below hb, tab_below h.t hb⟩

theorem itoaK_any (n : Int) (h0 : -9223372036854775808 ≤ n) (h1 : n ≤ 9223372036854775807) {w : World} (hT : LaidE w) : Calls Tryd.prog 52 #[.int .i64 n] w fun e w' => e = .returned (.string ⟨(Lib.itoa n).toArray⟩) ∧ Below w.heap.size w w' :=
  (Tryd.strconv_Itoa n h0 h1 w hT.t).mono fun e w' ⟨he, k, os, hw⟩ => ⟨he, by rw [hw]; exact Lib.below_grow _ w (Nat.le_refl _) k os⟩
theorem mPut_any (n : Int) (h0 : -9223372036854775808 ≤ n) (h1 : n ≤ 9223372036854775807) {w : World} (hT : LaidE w) : Calls Tryd.prog 63 #[.int .i64 n] w fun e w' => e = .returned (.string ⟨(Lib.itoa n).toArray⟩) ∧ Below w.heap.size w w' := by
  have HO := Own.start w
  have FI : Calls Tryd.prog 81 #[.int .i64 n, .int .i64 10] w fun e w' => e = .returned (.string ⟨(Lib.itoa n).toArray⟩) ∧ Below w.heap.size w w' :=
    (Tryd.strconv_FormatInt_10 n h0 h1 w hT.t).mono fun e w' ⟨he, k, os, hw⟩ => ⟨he, by rw [hw]; exact Lib.below_grow _ w (Nat.le_refl _) k os⟩
  clear hT
  go_enter Tryd.func63, Tryd.ntmps63
  go_wp2_with (first | (go_at_call 81; go_must ((with_reducible refine (FI).mono ?_); rintro e w ⟨rfl, hb⟩; replace HO := HO.call hb; clear hb)))
  go_ret
  exact ⟨rfl, HO.grown⟩
end Go.Proofs.YtibabfedpdoofaaDoor
namespace Go.Own
open Go.RowKit Go.Maps Go.WideElems

/-- A map as it lies: entries, what it reads as, what it bears. -/
structure OldMap (P : Program) (kt : TypeId) (w : World) (b n : Nat) (es : Array MapEntry) (clock : Nat) (D : DataW Value) (f : Lit → Option Value) : Prop where
  at' : w.heap[b]? = some (.map es clock)
  fit : Fit P kt tokR es clock
  size : es.size ≤ n
  reads : D = .map ((es.toList.map (rg P kt tokR)).foldr DataW.insert [])
  bears : Bears D f
theorem OldMap.of {P : Program} {kt : TypeId} {w : World} {b n : Nat} {f : Lit → Option Value} (h : (mapE P kt b n f).F w) : ∃ es clock D, OldMap P kt w b n es clock D f := by
  obtain ⟨D, ⟨es, clock, hb, F, hs, hD⟩, hB⟩ := h
  exact ⟨es, clock, D, hb, F, hs, hD, hB⟩
/-- Its iterator. -/
def iterE (P : Program) (kt : TypeId) (b r : Nat) (es : Array MapEntry) (clock : Nat) (left : Lit → Bool) (cnt : Nat) : Ent := ⟨[r], fun w => ∃ since seen c0, w.heap[r]? = some (.mapIter (some b) since seen c0) ∧ (∀ x ∈ es.toList, x.born < since) ∧ (leftOf es seen).size = cnt ∧
    (∀ x ∈ es.toList, left (rg (H := Value) P kt tokR x).1 = !seen.contains x.born) ∧ (∀ kl, left kl = true → ∃ x ∈ es.toList, (rg (H := Value) P kt tokR x).1 = kl) ∧ since ≤ c0 ∧ since ≤ clock⟩
theorem iterE_ok (P : Program) (kt : TypeId) (b r : Nat) (es : Array MapEntry) (clock : Nat) (left : Lit → Bool) (cnt : Nat) : (iterE P kt b r es clock left cnt).Ok := fun w w' h hF => by
  obtain ⟨since, seen, c0, hr, rest⟩ := hF
  exact ⟨since, seen, c0, (h r (by simp [iterE])).trans hr, rest⟩
theorem OldMap.ranges {P : Program} {kt : TypeId} {W w : World} {b r n : Nat} {es : Array MapEntry} {clock : Nat} {D : DataW Value} {f : Lit → Option Value} {left : Lit → Bool} {cnt : Nat} (h : OldMap P kt W b n es clock D f) (hb : Below W.heap.size W w) (hF : (iterE P kt b r es clock left cnt).F w) : w.ranges P kt tokR b r n D left cnt := by
  obtain ⟨since, seen, c0, hr, rest⟩ := hF
  exact ⟨es, clock, since, seen, c0, by rw [hb.block b (lt_of_block h.at')]; exact h.at', h.fit, h.size, h.reads, hr, rest⟩
section
variable {P : Program} {ops : Array Oper} {rest : List Oper} {o : Oper} {a : Act} {W w : World} {Q : Exit → Act → World → Prop} {L : List Ent} {kt et mt : TypeId}
theorem wpList_rangeOld {m : Operand} {b n : Nat} {es : Array MapEntry} {clock : Nat} {D : DataW Value} {f : Lit → Option Value} (hO : Own W w L) (hM : OldMap P kt W b n es clock D f) (ho : o.op = .range mt m) (hm : a.eval m = .map (some b)) (K : Keyed P kt) (ht : P.underlying mt = some (.map kt et))
    (hw : Region.wanted o (yielded ops a.tmps) = true) (h : ∀ r left cnt w', (∀ l, WideAt.IsKeyLit l → ∀ v, f l = some v → left l = true) → Own W w' (iterE P kt b r es clock left cnt :: L) → wpList P ops Q rest (a.put o.dst (.pointer (some ⟨r, 0, none⟩))) w') : wpList P ops Q (o :: rest) a w := by
  have hat := (hO.grown.block b (lt_of_block hM.at')).trans hM.at'
  have hown : w.ownsMap P kt tokR b n D := ⟨es, clock, hat, hM.fit, hM.size, hM.reads⟩
  obtain ⟨w', hrun, r1, r2, r3⟩ := hown.range K ht
  have hr : (execOp a.eval o).run P w = .ok (.value (.pointer (some ⟨w.heap.size, 0, none⟩))) w' := by
    simp [execOp, ho, hm, hrun, Result.andThen]
  have hB : Below w.heap.size w w' := ⟨r2.os, r2.tape, r2.output, r2.size, fun k hk => r2.block k hk (by simp)⟩
  obtain ⟨es', clock', since, seen, c0, hb', F', hs', hD', hit, rest'⟩ := r1
  have e : es' = es ∧ clock' = clock := by
    have := (hB.block b (lt_of_block hat)).trans hat
    rw [hb'] at this
    simpa using this
  obtain ⟨rfl, rfl⟩ := e
  refine wpList_value hw hr (h _ _ _ w' (fun l hl v hv => hM.bears.has hl hv) (hO.more hB (iterE_ok _ _ _ _ _ _ _ _) ⟨since, seen, c0, hit, rest'⟩ (fun b' hb' => ?_) (fun b' hb' => ?_)))
  · rw [show b' = w.heap.size from List.mem_singleton.1 hb']; exact Nat.le_refl _
  · rw [show b' = w.heap.size from List.mem_singleton.1 hb', r3]; omega
theorem wpList_nextOld {it : Operand} {b r n cnt : Nat} {es : Array MapEntry} {clock : Nat} {D : DataW Value} {f : Lit → Option Value} {left : Lit → Bool} {L' : (Lit → Bool) → Nat → List Ent} (hO : Own W w L) (hM : OldMap P kt W b n es clock D f) (ho : o.op = .next it false) (hit : a.eval it = .pointer (some ⟨r, 0, none⟩)) (K : Keyed P kt)
    (hat : ∀ left' cnt', At (iterE P kt b r es clock left cnt) (iterE P kt b r es clock left' cnt') L (L' left' cnt'))
    (hw : Region.wanted o (yielded ops a.tmps) = true) (hDone : (∀ l, left l = false) → wpList P ops Q rest (a.put o.dst (.tuple #[.bool false])) w)
    (hMore : ∀ key c kl cnt' w', keyOf P kt key = some kl → left kl = true → f kl = some c → cnt' < cnt → Own W w' (L' (fun z => left z && !z.sameKey kl) cnt') → (Instr.entry (.pointer (some ⟨r, 0, none⟩))).run P w' = .ok (.tuple #[key, c]) w' →
      wpList P ops Q rest (a.put o.dst (.tuple #[.bool true, key, c])) w') : wpList P ops Q (o :: rest) a w := by
  have hD := hM.ranges hO.grown (hO.has _ (hat left cnt).mem)
  rcases hD.next K o.type with ⟨h0, hl, hrun⟩ | ⟨key, v, kl, y, w', cnt', hkey, hlk, hv, hat', hrun, hrg, hlt, hgr, hsz, hen⟩
  · have hr : (execOp a.eval o).run P w = .ok (.value (.tuple #[.bool false])) w := by
      simp [execOp, ho, hit, hrun, Result.andThen]
    exact wpList_value hw hr (hDone hl)
  · have hr : (execOp a.eval o).run P w = .ok (.value (.tuple #[.bool true, key, v])) w' := by
      simp [execOp, ho, hit, hrun, Result.andThen]
    have hy : y = (.held v, []) := by simp [tokR] at hv; exact hv.symm
    subst hy
    have hne := hD.ne
    have hbb : w.heap[b]? = some (.map es clock) := (hO.grown.block b (lt_of_block hM.at')).trans hM.at'
    have hb2 : w'.heap[b]? = some (.map es clock) := (hgr.block b (lt_of_block hbb) (fun e => hne (Option.some.inj e).symm)).trans hbb
    obtain ⟨es', clock', since, seen, c0, hb', F', hs', hD', hit', rest'⟩ := hrg
    have e : es' = es ∧ clock' = clock := by
      rw [hb'] at hb2
      simpa using hb2
    obtain ⟨rfl, rfl⟩ := e
    refine wpList_value hw hr (hMore key v kl cnt' w' hkey hlk (hM.bears.at (K.key hkey) hat') hlt (hO.turn (hat _ _) hgr.os hgr.tape hgr.output hgr.size (fun k hk hne => hgr.block k hk (fun e => hne (by simp only [Option.some.injEq] at e; simp [iterE, e]))) (iterE_ok _ _ _ _ _ _ _ _) ⟨since, seen, c0, hit', rest'⟩ (fun b' hb' => .inl hb') (fun b' hb' => ?_)) hen)
    rw [show b' = r from List.mem_singleton.1 hb']
    exact lt_of_block hit'
end
end Go.Own
namespace Go.Own
open Go.RowKit Go.Maps

section
variable {P : Program} {Q : Exit → Act → World → Prop} {T : World → Prop} {rest : List (Nat × Bool)} {i : Nat} {l : List Oper} {a : Act} {w : World} {o : Oper}
theorem wpHeld_end {Q : Exit → Act → World → Prop} (h : Q .normal a w) : wpHeld P l.toArray (NoPanic Q) T [] a w := h
theorem wpHeld_value {v : Value} (ho : l[i]? = some o) (hw : Region.wanted o (yielded l.toArray a.tmps) = true) (hr : ∀ w', T w' → (execOp a.eval o).run P w' = .ok (.value v) w') (h : wpHeld P l.toArray Q T rest (a.put o.dst v) w) : wpHeld P l.toArray Q T ((i, true) :: rest) a w := by
  refine ⟨v, ?_, ?_⟩ <;> rw [getD_of ho]
  · exact .inl ⟨hw, hr⟩
  · exact h
theorem wpHeld_pure {v : Value} (ho : l[i]? = some o) (hw : Region.wanted o (yielded l.toArray a.tmps) = true) (hr : ∀ w', (execOp a.eval o).run P w' = .ok (.value v) w') (h : wpHeld P l.toArray Q T rest (a.put o.dst v) w) : wpHeld P l.toArray Q T ((i, true) :: rest) a w :=
  wpHeld_value ho hw (fun w' _ => hr w') h
theorem wpHeld_skip (ho : l[i]? = some o) (hw : Region.wanted o (yielded l.toArray a.tmps) = false) (h : wpHeld P l.toArray Q T rest (a.put o.dst undef) w) : wpHeld P l.toArray Q T ((i, true) :: rest) a w := by
  refine ⟨undef, ?_, ?_⟩ <;> rw [getD_of ho]
  · exact .inr ⟨hw, rfl⟩
  · exact h
theorem wpHeld_loud (ho : l[i]? = some o) (h : wpList P l.toArray (thenQ Q T (wpHeld P l.toArray Q T rest)) [o] a w) : wpHeld P l.toArray Q T ((i, false) :: rest) a w := by
  unfold wpHeld
  rw [getD_of ho]
  exact h
theorem wpHeld_loadAt {p : Addr} {cs : List Value} {t m : Nat} {x : Operand} (ho : l[i]? = some o) (hop : o.op = .load t x) (hx : a.eval x = .pointer (some p)) (hc : ∀ w', T w' → ∀ j u, cs[j]? = some u → w'.cell? (p.add j) = some u) (ht : IsAgg P t m) (hm : cs.length = m)
    (hw : Region.wanted o (yielded l.toArray a.tmps) = true) (h : wpHeld P l.toArray Q T rest (a.put o.dst (.agg cs.toArray)) w) : wpHeld P l.toArray Q T ((i, true) :: rest) a w :=
  wpHeld_value ho hw (fun w' hw' => run_load_at x hop hx (hc w' hw') (by rw [hm]; exact ht.1)) h
theorem wpHeld_loadAt1 {p : Addr} {v : Value} {t : Nat} {x : Operand} (ho : l[i]? = some o) (hop : o.op = .load t x) (hx : a.eval x = .pointer (some p)) (hc : ∀ w', T w' → w'.cell? p = some v) (ht : IsOne P t)
    (hw : Region.wanted o (yielded l.toArray a.tmps) = true) (h : wpHeld P l.toArray Q T rest (a.put o.dst v) w) : wpHeld P l.toArray Q T ((i, true) :: rest) a w :=
  wpHeld_value ho hw (fun w' hw' => run_load_at1 x hop hx (hc w' hw') ht.1) h
variable {Ls Ls' : List Ent}
theorem wpHeld_loadAll {b n : Nat} {cs : List Value} {U t : TypeId} {x : Operand} (ho : l[i]? = some o) (hop : o.op = .load t x) (hx : a.eval x = .pointer (some ⟨b, 0, none⟩)) (hat : At (box b (.cells cs.toArray U)) (box b (.cells cs.toArray U)) Ls Ls')
    (ht : IsAgg P t n) (hn : cs.length = n) (hw : Region.wanted o (yielded l.toArray a.tmps) = true) (h : wpHeld P l.toArray Q (Held Ls) rest (a.put o.dst (.agg cs.toArray)) w) : wpHeld P l.toArray Q (Held Ls) ((i, true) :: rest) a w :=
  wpHeld_value ho hw (fun w' hw' => run_load_at x hop hx (fun j v hv => by rw [addAt, cellAt (hw' _ hat.mem)]; simpa using hv) (by rw [hn]; exact ht.1)) h
theorem wpHeld_loadOne {b off : Nat} {cs : List Value} {v : Value} {U t : TypeId} {x : Operand} (ho : l[i]? = some o) (hop : o.op = .load t x) (hx : a.eval x = .pointer (some ⟨b, off, none⟩)) (hat : At (box b (.cells cs.toArray U)) (box b (.cells cs.toArray U)) Ls Ls')
    (hv : cs[off]? = some v) (ht : IsOne P t) (hw : Region.wanted o (yielded l.toArray a.tmps) = true) (h : wpHeld P l.toArray Q (Held Ls) rest (a.put o.dst v) w) : wpHeld P l.toArray Q (Held Ls) ((i, true) :: rest) a w :=
  wpHeld_value ho hw (fun w' hw' => run_load_at1 x hop hx (by rw [cellAt (hw' _ hat.mem)]; exact hv) ht.1) h
end
/-- The beginning, where old memory is read too. -/
theorem region_schedO {P : Program} {Q : Exit → Act → World → Prop} {W w : World} {L : List Ent} {id : Nat} {a : Act} {l : List Oper} (Ls : List Ent) (π : List (Nat × Bool)) (hO : Own W w L) (hLs : Ls.Sublist L) (hm : P.follows .mixedOrders = true)
    (hB : (Region.noSelect l.toArray && decide (π.length = l.length) && schedB l.toArray π (Array.replicate l.toArray.size false)) = true)
    (h : ∀ w', Own W w' L → wpHeld P l.toArray (NoPanic Q) (Held (oldE W :: Ls)) π a w') : (Code.region id l.toArray true).wp P Q a w := by
  simp only [Bool.and_eq_true, decide_eq_true_eq] at hB
  obtain ⟨⟨h1, h2⟩, h3⟩ := hB
  refine wp_region_noPanic (wp_region_held (S := Held (oldE W :: Ls)) hm ?_)
  have hO' := hO.drew
  have := anyH_of_sched (P := P) (Q := NoPanic Q) (S := Held (oldE W :: Ls)) h1 (fun _ _ _ _ _ hh => (hh : False).elim) π _ a _ h3 (hO'.heldO hLs) (h _ hO')
  rw [h2] at this
  simpa using this
end Go.Own
namespace Go.Proofs.YtibabfedpdoofaaDoor
open Go.RowKit Go.Own Go.Maps

theorem bytesKeyed : Keyed Tryd.prog 9 := string_keyed Tryd.underlying9
theorem strKey_inv {v : Value} {l : Lit} (h : keyOf Tryd.prog 9 v = some l) : ∃ s : ByteArray, v = .string s ∧ l = .string s.data.toList := by
  obtain ⟨s, h1, h2, _⟩ := WideMaps.string_of_keyOf Tryd.underlying9 h
  exact ⟨s, h1, h2⟩

set_option maxHeartbeats 8000000 in
set_option maxRecDepth 100000 in
theorem word_any {d : Int} (h0 : 0 ≤ d) (h5 : d ≤ 5) {W : World} (hL : DeedsLaid W) : Calls Tryd.prog 64 #[.int .i64 d] W fun e w' => e = .returned (.string ⟨(deedL d).toArray⟩) ∧ Below W.heap.size W w' := by
  have HO := Own.start W
  obtain ⟨mb, n, hc, hF⟩ := hL.has
  have hlt := hL.lt
  obtain ⟨es, clock, D, hM⟩ := OldMap.of hF
  have hu := Tryd.underlying144
  clear hF hL
  go_enter Tryd.func64, Tryd.ntmps64
  go_wp2_with (first | go_big_skip | ((with_reducible apply wpList_loadOld1 HO); exact rfl; exact rfl; exact hlt; exact hc; infer_instance; exact rfl; (simp only [Act.put, List.setIfInBounds_toArray, List.set_cons_succ, List.set_cons_zero])) | ((with_reducible apply wpList_rangeOld (et := 3) HO hM); exact rfl; exact rfl; exact bytesKeyed; exact hu; exact rfl; clear HO; intro r left cnt w hleft HO; (simp only [Act.put, List.setIfInBounds_toArray, List.set_cons_succ, List.set_cons_zero])))
  have hl0 : left (.string (deedL d)) = true := hleft _ trivial _ (deedsF_word h0 h5)
  clear hleft
  go_loopw [] (fun wr => ∃ (left' : Lit → Bool) (cnt' : Nat), left' (.string (deedL d)) = true ∧ Own W wr [iterE Tryd.prog 9 mb r es clock left' cnt']) (fun wr => wr.rangeLeft mb r)
  case atStart => exact ⟨left, cnt, hl0, HO⟩
  case round =>
    clear HO
    obtain ⟨left', cnt', hl, HO⟩ := hrel
    have hm := (hM.ranges HO.grown (HO.has _ (.head _))).left_eq
    go_wp2_with (first | ((with_reducible apply wpList_nextOld HO hM); exact rfl; exact rfl; exact bytesKeyed; (intro _ _; (repeat (with_reducible (first | exact At.head _ | apply At.tail)))); exact rfl) | go_big_skip)
    · intro hno
      rw [hno] at hl
      cases hl
    · intro key c kl cnt2 w hkey hlk hgk hlt2 HO hen
      obtain ⟨s, rfl, rfl⟩ := strKey_inv hkey
      obtain ⟨d2, g0, g5, g6, rfl⟩ := deedsF_inv hgk
      simp only [Lit.string.injEq] at g6
      have hm2 := (hM.ranges HO.grown (HO.has _ (.head _))).left_eq
      by_cases hd : d2 = d
      · subst hd
        have hs : s = ⟨(deedL d2).toArray⟩ := by
          obtain ⟨⟨x⟩⟩ := s
          simp only at g6
          rw [← g6]
        subst hs
        clear hm hm2 hlk hgk hkey
        go_wp2_with (first | (first | go_big_skip | ((with_reducible apply wpList_loadAll HO); exact rfl; exact rfl; (repeat (with_reducible (first | exact At.head _ | apply At.tail))); infer_instance; exact rfl; exact rfl; (simp only [Act.put, List.setIfInBounds_toArray, List.set_cons_succ, List.set_cons_zero])) | ((with_reducible apply wpList_loadOne HO); exact rfl; exact rfl; (repeat (with_reducible (first | exact At.head _ | apply At.tail))); exact rfl; infer_instance; exact rfl; (simp only [Act.put, List.setIfInBounds_toArray, List.set_cons_succ, List.set_cons_zero]))))
        go_ret
        exact ⟨rfl, HO.grown⟩
      · have hdB : (d2 == d) = false := by rw [beq_eq_false_iff_ne]; exact hd
        have hne : deedL d ≠ deedL d2 := by
          intro e
          have h1 := deedsF_word h0 h5
          rw [e, deedsF_word g0 g5] at h1
          simp at h1
          exact hd h1
        have hl2 : (left' (.string (deedL d)) && !(Lit.string (deedL d)).sameKey (.string s.data.toList)) = true := by
          rw [hl, Bool.true_and]
          cases hk : (Lit.string (deedL d)).sameKey (.string s.data.toList) with
          | false => rfl
          | true =>
            have := WideAt.sameKey_eq hk
            simp only [Lit.string.injEq] at this
            exact absurd (this.trans g6) hne
        replace hm := Lib.hid hm
        replace hm2 := Lib.hid hm2
        replace hl2 := Lib.hid hl2
        clear hgk hlk hl
        go_wp2_with (first | (first | go_big_skip | ((with_reducible apply wpList_loadAll HO); exact rfl; exact rfl; (repeat (with_reducible (first | exact At.head _ | apply At.tail))); infer_instance; exact rfl; exact rfl; (simp only [Act.put, List.setIfInBounds_toArray, List.set_cons_succ, List.set_cons_zero])) | ((with_reducible apply wpList_loadOne HO); exact rfl; exact rfl; (repeat (with_reducible (first | exact At.head _ | apply At.tail))); exact rfl; infer_instance; exact rfl; (simp only [Act.put, List.setIfInBounds_toArray, List.set_cons_succ, List.set_cons_zero]))))
        go_roundw
        case rel => exact ⟨_, cnt2, hl2.out, HO⟩
        case measure => rw [hm2.out, hm.out]; exact hlt2
def putK (o d : Int) : ByteArray := ⟨(Lib.itoa o).toArray⟩ ++ ⟨#[45]⟩ ++ ⟨(deedL d).toArray⟩

set_option maxHeartbeats 8000000 in
set_option maxRecDepth 100000 in
theorem keysPut_any {o d : Int} (hk : keyOk o d = true) {W : World} (hL : LaidE W) : Calls Tryd.prog 50 #[.agg #[.int .i64 o, .int .i64 d]] W fun e w' => e = .returned (.string (putK o d)) ∧ Below W.heap.size W w' := by
  have HO := Own.start W
  have h1 : 1 ≤ o ∧ o ≤ 60 ∧ 0 ≤ d ∧ d ≤ 5 := by
    simp only [keyOk, isDeed, Bool.and_eq_true, decide_eq_true_eq] at hk
    omega
  have KC := fun w => keyCheck_any o d w
  rw [hk] at KC
  have MP := fun w (hb : Below W.heap.size W w) => mPut_any o (by omega) (by omega) (hL.below hb)
  have WD := fun w (hb : Below W.heap.size W w) => word_any h1.2.2.1 h1.2.2.2 (hL.below hb).d
  have hlen := Lib.itoa_length_le o (by omega) (by omega)
  have s1 : (⟨(Lib.itoa o).toArray⟩ : ByteArray).size ≤ 21 := hlen
  have s2 : (⟨(deedL d).toArray⟩ : ByteArray).size ≤ 7 := by
    show (deedL d).length ≤ 7
    unfold deedL
    repeat' split
    all_goals decide
  have c1 : ¬ (9223372036854775807 < (⟨(Lib.itoa o).toArray⟩ : ByteArray).size + (⟨#[45]⟩ : ByteArray).size) := by
    show ¬ (9223372036854775807 < (⟨(Lib.itoa o).toArray⟩ : ByteArray).size + 1); omega
  have c2 : ¬ (9223372036854775807 < (⟨(Lib.itoa o).toArray⟩ : ByteArray).size + 1) := by omega
  have e1 : ((⟨(Lib.itoa o).toArray⟩ : ByteArray) ++ ⟨#[45]⟩).size = (⟨(Lib.itoa o).toArray⟩ : ByteArray).size + 1 := by rw [ByteArray.size_append]; rfl
  have c3 : ¬ (9223372036854775807 < ((⟨(Lib.itoa o).toArray⟩ : ByteArray) ++ ⟨#[45]⟩).size + (⟨(deedL d).toArray⟩ : ByteArray).size) := by rw [e1]; omega
  have c4 : ¬ (9223372036854775807 < (⟨(Lib.itoa o).toArray⟩ : ByteArray).size + 1 + (⟨(deedL d).toArray⟩ : ByteArray).size) := by omega
  have HP := Lib.hid (show putK o d = (⟨(Lib.itoa o).toArray⟩ : ByteArray) ++ ⟨#[45]⟩ ++ ⟨(deedL d).toArray⟩ from rfl)
  generalize putK o d = y at *
  generalize (⟨(Lib.itoa o).toArray⟩ : ByteArray) = x1 at *
  generalize (⟨(deedL d).toArray⟩ : ByteArray) = x2 at *
  clear hk hL h1 hlen s1 s2 e1
  go_enter Tryd.func50, Tryd.ntmps50
  go_wp2_with (first | (first | go_big_skip | ((with_reducible apply wpList_loadAll HO); exact rfl; exact rfl; (repeat (with_reducible (first | exact At.head _ | apply At.tail))); infer_instance; exact rfl; exact rfl; (simp only [Act.put, List.setIfInBounds_toArray, List.set_cons_succ, List.set_cons_zero])) | ((with_reducible apply wpList_loadOne HO); exact rfl; exact rfl; (repeat (with_reducible (first | exact At.head _ | apply At.tail))); exact rfl; infer_instance; exact rfl; (simp only [Act.put, List.setIfInBounds_toArray, List.set_cons_succ, List.set_cons_zero]))) | (first | ((with_reducible apply wpList_boxAgg _ HO rfl); exact rfl; exact rfl; exact rfl; clear HO; intro b3 w HO; (simp only [Act.put, List.setIfInBounds_toArray, List.set_cons_succ, List.set_cons_zero])) | ((with_reducible apply wpList_allocAgg _ HO rfl); exact rfl; infer_instance; exact rfl; clear HO; intro b3 w HO; (simp only [Act.put, List.setIfInBounds_toArray, List.set_cons_succ, List.set_cons_zero]))) | (go_at_call 62; go_must ((with_reducible refine (KC _).mono ?_); rintro e w ⟨rfl, hb⟩; replace HO := HO.call hb; clear hb)))
  refine region_own HO (by kernel_rfl) (by kernel_rfl) ?_
  clear HO
  intro F HF
  repeat (first | (first | go_big_quiet_skip | ((with_reducible apply wpQuiet_loadAll HF); exact rfl; exact rfl; (repeat (with_reducible (first | exact At.head _ | apply At.tail))); infer_instance; exact rfl; exact rfl; (simp only [Act.put, List.setIfInBounds_toArray, List.set_cons_succ, List.set_cons_zero])) | ((with_reducible apply wpQuiet_loadOne HF); exact rfl; exact rfl; (repeat (with_reducible (first | exact At.head _ | apply At.tail))); exact rfl; infer_instance; exact rfl; (simp only [Act.put, List.setIfInBounds_toArray, List.set_cons_succ, List.set_cons_zero])) | ((with_reducible apply wpQuiet_loadPart HF); exact rfl; exact rfl; (repeat (with_reducible (first | exact At.head _ | apply At.tail))); infer_instance; exact (Nat.le_of_ble_eq_true rfl); (simp only [List.drop_succ_cons, List.drop_zero, List.take_succ_cons, List.take_zero]; rfl); exact rfl; (simp only [Act.put, List.setIfInBounds_toArray, List.set_cons_succ, List.set_cons_zero]))) | go_big_quiet_step ((first | (go_at_call 63; (with_reducible exact calls_fam HF (MP _ (HF.own _).grown))) | (go_at_call 64; (with_reducible exact calls_fam HF (WD _ (HF.own _).grown))))))
  refine wpQuiet_nil ?_
  intro x
  have HO := HF.own x
  clear HF
  generalize F x = w at *
  clear x F
  go_wp2_with fail
  go_ret
  exact ⟨by rw [HP.out]; rfl, HO.grown⟩
theorem cat1 (b : UInt8) (l : List UInt8) : (Value.string ((⟨#[b]⟩ : ByteArray) ++ ⟨l.toArray⟩)) = .string ⟨(b :: l).toArray⟩ := by
  congr 1
/-- What is left of a numeral. -/
def decLeft (n : Nat) : List UInt8 := if n = 0 then [] else Lib.decDigits n
theorem decLeft_step {n : Nat} (h : n ≠ 0) : decLeft n = decLeft (n / 10) ++ [UInt8.ofNat (48 + n % 10)] := by
  unfold decLeft
  rw [if_neg h]
  by_cases h1 : n < 10
  · rw [Lib.decDigits, dif_pos h1, if_pos (by omega), Nat.mod_eq_of_lt h1]; rfl
  · rw [Lib.decDigits, dif_neg h1, if_neg (by omega)]

set_option maxHeartbeats 8000000 in
set_option maxRecDepth 100000 in
theorem refDigits_any {n : Nat} (hn : n < 18446744073709551616) (W : World) : Calls Tryd.prog 111 #[.int .u64 (n : Int)] W fun e w' => e = .returned (.string ⟨(Lib.decDigits n).toArray⟩) ∧ Below W.heap.size W w' := by
  have HO := Own.start W
  have HN := Lib.hid (Lib.lt_pow_nDigits n)
  go_enter Tryd.func111, Tryd.ntmps111
  go_wp2_with fail
  go_loopw [0, 3] (fun u s wr => ∃ (m : Nat) (l : List UInt8), m ≤ n ∧ m * 2 ^ l.length ≤ n ∧ u = .int .u64 (m : Int) ∧ s = .string ⟨l.toArray⟩ ∧ (l = [] ∧ m = n ∨ l ≠ [] ∧ Lib.decDigits n = decLeft m ++ l) ∧ Own W wr []) (fun u s _ => match s with
    | .string b => if b.size = 0 then n + 2 else (intOf u).toNat
    | _ => 0)
  case atStart => exact ⟨n, [], Nat.le_refl _, by simp, rfl, rfl, .inl ⟨rfl, rfl⟩, HO⟩
  case round =>
    clear HO
    obtain ⟨m, l, hm, hlm, rfl, rfl, hs, HO⟩ := hrel
    by_cases hex : l ≠ [] ∧ m = 0
    · obtain ⟨hl, rfl⟩ := hex
      rcases hs with ⟨h, _⟩ | ⟨-, hs⟩
      · exact absurd h hl
      have hle : l.isEmpty = false := by cases l <;> simp_all
      have HS := Lib.hid (show l = Lib.decDigits n by rw [hs]; rfl)
      clear hs hlm hm hl
      go_wp2_with fail
      go_ret
      exact ⟨by rw [← HS.out]; rfl, HO.grown⟩
    · have hbd : l.length < 64 := by
        by_cases hl0 : l = []
        · subst hl0; decide
        · have h1 : 1 ≤ m := by
            rcases Nat.eq_zero_or_pos m with h | h
            · exact absurd ⟨hl0, h⟩ hex
            · exact h
          have h2 : 2 ^ l.length ≤ m * 2 ^ l.length := Nat.le_mul_of_pos_left _ h1
          have h3 : 2 ^ l.length < 2 ^ 64 := by
            have : (18446744073709551616 : Nat) = 2 ^ 64 := by decide
            omega
          exact (Nat.pow_lt_pow_iff_right (by decide)).1 h3
      obtain ⟨k, hk⟩ : ∃ k, k = m % 10 := ⟨_, rfl⟩
      obtain ⟨q, hq⟩ : ∃ q, q = m / 10 := ⟨_, rfl⟩
      have hk10 : k < 10 := by omega
      have hqm : q ≤ m := by omega
      have hk58 : 48 + k < 256 := by omega
      have e1 : (m : Int).tmod 10 = (k : Int) := by rw [Int.tmod_eq_emod_of_nonneg (by omega), hk]; rfl
      have e2 : (m : Int).tdiv 10 = (q : Int) := by rw [Int.tdiv_eq_ediv_of_nonneg (by omega), hq]; rfl
      have e3 : IntKind.u64.wrap (48 + (k : Int)) = 48 + (k : Int) := by rw [IntKind.wrap_u64]; omega
      have e4 : IntKind.u8.wrap (48 + (k : Int)) = 48 + (k : Int) := by rw [IntKind.wrap_u8]; omega
      have e5 : IntKind.u64.wrap (q : Int) = (q : Int) := by rw [IntKind.wrap_u64]; omega
      have c1 : ¬ (9223372036854775807 < 1 + l.length) := by omega
      have c2 : ¬ (9223372036854775807 < (⟨#[UInt8.ofNat (48 + k)]⟩ : ByteArray).size + (⟨l.toArray⟩ : ByteArray).size) := by
        show ¬ (9223372036854775807 < 1 + l.length); omega
      have HB := Lib.hid (show q * 2 ^ (UInt8.ofNat (48 + k) :: l).length ≤ n by
        rw [List.length_cons, Nat.pow_succ]
        have : q * 2 ≤ m := by omega
        calc q * (2 ^ l.length * 2) = (q * 2) * 2 ^ l.length := by rw [Nat.mul_comm (2 ^ l.length) 2, Nat.mul_assoc]
          _ ≤ m * 2 ^ l.length := Nat.mul_le_mul_right _ this
          _ ≤ n := hlm)
      have HD := Lib.hid (show Lib.decDigits n = decLeft q ++ (UInt8.ofNat (48 + k) :: l) by
        rcases hs with ⟨rfl, rfl⟩ | ⟨hl, hs⟩
        · by_cases h0 : m = 0
          · subst h0; subst hk; subst hq; rw [Lib.decDigits, dif_pos (by omega)]; rfl
          · have := decLeft_step h0
            rw [← hk, ← hq] at this
            rw [show Lib.decDigits m = decLeft m by rw [decLeft, if_neg h0], this]
        · have h0 : m ≠ 0 := fun h => hex ⟨hl, h⟩
          have := decLeft_step h0
          rw [← hk, ← hq] at this
          rw [hs, this, List.append_assoc]
          rfl)
      by_cases hl0 : l = []
      · subst hl0
        by_cases hm0 : 0 < m
        · have hmI : (0 : Int) < (m : Int) := by omega
          clear hs hex hk hq hlm
          go_wp2_with (first | (first | go_big_skip | ((with_reducible apply wpList_loadAll HO); exact rfl; exact rfl; (repeat (with_reducible (first | exact At.head _ | apply At.tail))); infer_instance; exact rfl; exact rfl; (simp only [Act.put, List.setIfInBounds_toArray, List.set_cons_succ, List.set_cons_zero])) | ((with_reducible apply wpList_loadOne HO); exact rfl; exact rfl; (repeat (with_reducible (first | exact At.head _ | apply At.tail))); exact rfl; infer_instance; exact rfl; (simp only [Act.put, List.setIfInBounds_toArray, List.set_cons_succ, List.set_cons_zero]))) | (first | ((with_reducible apply wpList_lit1 HO); exact rfl; infer_instance; infer_instance; exact rfl; exact rfl; exact (by decide); exact rfl; clear HO; intro bb w HO; (simp only [Act.put, List.setIfInBounds_toArray, List.set_cons_succ, List.set_cons_zero])) | ((with_reducible apply wpList_lit1c HO); exact rfl; infer_instance; infer_instance; (first | (simp [Act.eval]; rfl) | exact rfl); exact rfl; exact rfl; clear HO; intro bb w HO; (simp only [Act.put, List.setIfInBounds_toArray, List.set_cons_succ, List.set_cons_zero]))) | ((with_reducible apply wpList_strOne (n := 48 + k) HO); exact rfl; exact rfl; (repeat (with_reducible (first | exact At.head _ | apply At.tail))); (first | omega | (simp; done) | (simp; omega)); exact Tryd.underlying49; exact Tryd.underlying5; exact Tryd.underlying9; (first | omega | decide); exact rfl; (simp only [Act.put, List.setIfInBounds_toArray, List.set_cons_succ, List.set_cons_zero])))
          replace HO := HO.tail
          go_roundw
          case rel => exact ⟨q, [UInt8.ofNat (48 + k)], by omega, HB.out, by go_num, by first | rfl | simp | (congr 3; simp), .inr ⟨by simp, HD.out⟩, HO⟩
          case measure => simp [intOf, ByteArray.size] <;> omega
        · have hmI : ¬ (0 : Int) < (m : Int) := by omega
          clear hs hex hk hq hlm
          go_wp2_with (first | (first | go_big_skip | ((with_reducible apply wpList_loadAll HO); exact rfl; exact rfl; (repeat (with_reducible (first | exact At.head _ | apply At.tail))); infer_instance; exact rfl; exact rfl; (simp only [Act.put, List.setIfInBounds_toArray, List.set_cons_succ, List.set_cons_zero])) | ((with_reducible apply wpList_loadOne HO); exact rfl; exact rfl; (repeat (with_reducible (first | exact At.head _ | apply At.tail))); exact rfl; infer_instance; exact rfl; (simp only [Act.put, List.setIfInBounds_toArray, List.set_cons_succ, List.set_cons_zero]))) | (first | ((with_reducible apply wpList_lit1 HO); exact rfl; infer_instance; infer_instance; exact rfl; exact rfl; exact (by decide); exact rfl; clear HO; intro bb w HO; (simp only [Act.put, List.setIfInBounds_toArray, List.set_cons_succ, List.set_cons_zero])) | ((with_reducible apply wpList_lit1c HO); exact rfl; infer_instance; infer_instance; (first | (simp [Act.eval]; rfl) | exact rfl); exact rfl; exact rfl; clear HO; intro bb w HO; (simp only [Act.put, List.setIfInBounds_toArray, List.set_cons_succ, List.set_cons_zero]))) | ((with_reducible apply wpList_strOne (n := 48 + k) HO); exact rfl; exact rfl; (repeat (with_reducible (first | exact At.head _ | apply At.tail))); (first | omega | (simp; done) | (simp; omega)); exact Tryd.underlying49; exact Tryd.underlying5; exact Tryd.underlying9; (first | omega | decide); exact rfl; (simp only [Act.put, List.setIfInBounds_toArray, List.set_cons_succ, List.set_cons_zero])))
          replace HO := HO.tail
          go_roundw
          case rel => exact ⟨q, [UInt8.ofNat (48 + k)], by omega, HB.out, by go_num, by first | rfl | simp | (congr 3; simp), .inr ⟨by simp, HD.out⟩, HO⟩
          case measure => simp [intOf, ByteArray.size] <;> omega
      · have h1 : 0 < m := by
          rcases Nat.eq_zero_or_pos m with h | h
          · exact absurd ⟨hl0, h⟩ hex
          · exact h
        have hmI : (0 : Int) < (m : Int) := by omega
        have hqlt : q < m := by omega
        have hls : l.length ≠ 0 := by simpa using hl0
        clear hs hex hk hq hlm
        go_wp2_with (first | (first | go_big_skip | ((with_reducible apply wpList_loadAll HO); exact rfl; exact rfl; (repeat (with_reducible (first | exact At.head _ | apply At.tail))); infer_instance; exact rfl; exact rfl; (simp only [Act.put, List.setIfInBounds_toArray, List.set_cons_succ, List.set_cons_zero])) | ((with_reducible apply wpList_loadOne HO); exact rfl; exact rfl; (repeat (with_reducible (first | exact At.head _ | apply At.tail))); exact rfl; infer_instance; exact rfl; (simp only [Act.put, List.setIfInBounds_toArray, List.set_cons_succ, List.set_cons_zero]))) | (first | ((with_reducible apply wpList_lit1 HO); exact rfl; infer_instance; infer_instance; exact rfl; exact rfl; exact (by decide); exact rfl; clear HO; intro bb w HO; (simp only [Act.put, List.setIfInBounds_toArray, List.set_cons_succ, List.set_cons_zero])) | ((with_reducible apply wpList_lit1c HO); exact rfl; infer_instance; infer_instance; (first | (simp [Act.eval]; rfl) | exact rfl); exact rfl; exact rfl; clear HO; intro bb w HO; (simp only [Act.put, List.setIfInBounds_toArray, List.set_cons_succ, List.set_cons_zero]))) | ((with_reducible apply wpList_strOne (n := 48 + k) HO); exact rfl; exact rfl; (repeat (with_reducible (first | exact At.head _ | apply At.tail))); (first | omega | (simp; done) | (simp; omega)); exact Tryd.underlying49; exact Tryd.underlying5; exact Tryd.underlying9; (first | omega | decide); exact rfl; (simp only [Act.put, List.setIfInBounds_toArray, List.set_cons_succ, List.set_cons_zero])))
        replace HO := HO.tail
        go_roundw
        case rel => exact ⟨q, UInt8.ofNat (48 + k) :: l, by omega, HB.out, by go_num, by first | exact cat1 _ _ | rfl | simp | (congr 3; simp), .inr ⟨by simp, HD.out⟩, HO⟩
        case measure => simp [intOf, ByteArray.size, hls] <;> omega
end Go.Proofs.YtibabfedpdoofaaDoor
namespace Go.Proofs.YtibabfedpdoofaaDoor
open Go.RowKit Go.Own Go.Maps

/-- Cores that entries come to. -/
structure CoOk (S : CoS) : Prop where
  len : S.L.length ≤ 60
  ord : ∀ x ∈ S.L, ordE x.1 = 0
  bk : Bk S.P
/-- What a reply posts. -/
def replyP (P : List Pst) (id d by' : Int) : List Pst := if 0 < by' then postL P ⟨putK id d, id, 1, 0, by'⟩ else if by' < 0 then postL P ⟨putK id d, id, 3, 1, -by'⟩ else P
def replyE (L : List (OrdS × D6)) (id d code : Int) : Int := match ordAt L id with
  | none => 4
  | some x => match replyOf x.2 d code with
    | none => 92
    | some _ => 0
def replyS (S : CoS) (id d code : Int) : CoS := match ordAt S.L id with
  | none => S
  | some x => match replyOf x.2 d code with
    | none => S
    | some t => ⟨sagAt S.L id (x.1, t), replyP S.P id d (netS x.1 t - netS x.1 x.2)⟩
theorem replyOf_deed {s t : D6} {d code : Int} (h : replyOf s d code = some t) : 0 ≤ d ∧ d ≤ 5 := by
  unfold replyOf at h
  split at h
  · rename_i h1
    obtain ⟨_, rfl, _⟩ := h1
    unfold waitsOf
    repeat' split
    all_goals decide
  · cases h
theorem netS_bound {o : OrdS} (h : ordE o = 0) (s : D6) : 0 ≤ netS o s ∧ netS o s ≤ 1099511627776 := by
  have := ordCheck_ok h
  unfold netS
  split <;> omega

theorem putK_size (o d : Int) (h0 : -9223372036854775808 ≤ o) (h1 : o ≤ 9223372036854775807) : (putK o d).size ≤ 40 := by
  have h2 : (Lib.itoa o).length ≤ 21 := Lib.itoa_length_le o h0 h1
  have s2 : (deedL d).length ≤ 7 := by
    unfold deedL
    repeat' split
    all_goals decide
  unfold putK
  rw [ByteArray.size_append, ByteArray.size_append]
  show (Lib.itoa o).length + 1 + (deedL d).length ≤ 40
  omega

set_option maxHeartbeats 16000000 in
set_option maxRecDepth 100000 in
theorem coReply_any {W w : World} {M : List Ent} {a : CoA} {S : CoS} {i : InA} {A : InS} (id d code : Int) (HO : Own W w (coPs a S i A ++ M)) (hid : inI id = true) (hok : CoOk S) (hlen : S.P.length ≤ 100000) (hL : LaidE W) :
    Calls Tryd.prog 31 #[.pointer (some ⟨a.c, 0, none⟩), .agg #[.int .i64 id, .int .i64 d], .int .i64 code] w fun e w' => e = .returned (.int .i64 (replyE S.L id d code)) ∧ ∃ u', Own W w' (coPs { a with u := u' } (replyS S id d code) i A ++ M) := by
  have OR := fun (w : World) (L : List Ent) (h : Own W w L) h1 h2 h3 => coOrder_any (Own.coAt h (a := a) (S := S) (i := i) (A := A) h1 h2 h3) hid
  have hpv := (Own.coAt HO (a := a) (S := S) (i := i) (A := A) (by repeat (first | exact List.mem_cons_self | apply List.mem_cons_of_mem)) (by repeat (first | exact List.mem_cons_self | apply List.mem_cons_of_mem)) (by repeat (first | exact List.mem_cons_self | apply List.mem_cons_of_mem))).row.slice
  obtain ⟨ac, av, ak, au, apm, abm⟩ := a
  obtain ⟨p, c, hv, hmx⟩ := hpv
  simp only at hv
  subst hv
  rw [List.length_map] at HO
  rw [List.length_map] at OR
  simp only [coC] at OR
  unfold coPs coC at HO
  simp only [List.cons_append, List.nil_append] at HO
  rcases hx : ordAt S.L id with _ | x
  · rw [hx] at OR
    rw [show replyE S.L id d code = 4 by unfold replyE; rw [hx], show replyS S id d code = S by unfold replyS; rw [hx]]
    simp only [ordR] at OR
    have OR0 := Lib.hid OR
    clear OR
    go_enter Tryd.func31, Tryd.ntmps31
    go_wp2_with (first | go_big_skip | (first | go_big_skip | ((with_reducible apply wpList_loadAll HO); exact rfl; exact rfl; (repeat (with_reducible (first | exact At.head _ | apply At.tail))); infer_instance; exact rfl; exact rfl; (simp only [Act.put, List.setIfInBounds_toArray, List.set_cons_succ, List.set_cons_zero])) | ((with_reducible apply wpList_loadOne HO); exact rfl; exact rfl; (repeat (with_reducible (first | exact At.head _ | apply At.tail))); exact rfl; infer_instance; exact rfl; (simp only [Act.put, List.setIfInBounds_toArray, List.set_cons_succ, List.set_cons_zero]))) | ((with_reducible apply wpList_storeAll HO); exact rfl; exact rfl; exact rfl; (repeat (with_reducible (first | exact At.head _ | apply At.tail))); infer_instance; exact rfl; exact rfl; exact rfl; exact rfl; clear HO; intro w HO; (simp only [Act.put])) | (first | ((with_reducible apply wpList_boxAgg _ HO rfl); exact rfl; exact rfl; exact rfl; clear HO; intro b1 w HO; (simp only [Act.put, List.setIfInBounds_toArray, List.set_cons_succ, List.set_cons_zero])) | ((with_reducible apply wpList_allocAgg _ HO rfl); exact rfl; infer_instance; exact rfl; clear HO; intro b1 w HO; (simp only [Act.put, List.setIfInBounds_toArray, List.set_cons_succ, List.set_cons_zero]))) | (go_at_call 16; go_must ((with_reducible refine (OR0.out _ _ HO (by repeat (first | exact List.mem_cons_self | apply List.mem_cons_of_mem)) (by repeat (first | exact List.mem_cons_self | apply List.mem_cons_of_mem)) (by repeat (first | exact List.mem_cons_self | apply List.mem_cons_of_mem))).mono ?_); rintro e w ⟨rfl, hb⟩; replace HO := HO.call hb; clear hb)))
    go_ret
    refine ⟨rfl, au, ?_⟩
    unfold coPs coC
    rw [List.length_map]
    exact HO.tail.tail
  · obtain ⟨j, hj, hid2, rfl⟩ := ordAt_some hx
    have hi := inI_iff.1 hid
    have hjI : (j : Int) < (S.L.length : Int) := by omega
    have e1 : IntKind.i64.wrap (id - 1) = (j : Int) := by rw [wrap_in (inI_iff.2 (by omega))]; omega
    have e2 : (id - 1).toNat = j := by omega
    have hset := Lib.hid (fun y => show (S.L.set j y).map sagaL = (S.L.map sagaL).set j (sagaL y) from List.map_set ..)
    have hjm := Lib.hid (show j < (S.L.map sagaL).length by simpa using hj)
    obtain ⟨q, hq⟩ : ∃ q, p = some q := by
      rcases p with _ | q
      · have := (Own.coAt HO (a := ⟨ac, .slice none S.L.length c, ak, au, apm, abm⟩) (S := S) (i := i) (A := A) (by repeat (first | exact List.mem_cons_self | apply List.mem_cons_of_mem)) (by repeat (first | exact List.mem_cons_self | apply List.mem_cons_of_mem)) (by repeat (first | exact List.mem_cons_self | apply List.mem_cons_of_mem))).row.at (by simp; omega)
        obtain ⟨_, _, h, _⟩ := this
        cases h
      · exact ⟨q, rfl⟩
    subst hq
    have hsl := Lib.hid (sagaL_len S.L)
    have hoo := hok.ord _ (List.getElem_mem hj)
    have hl60 := hok.len
    rw [hx] at OR
    rw [List.length_map]
    rw [show replyE S.L id d code = (match replyOf S.L[j].2 d code with | none => 92 | some _ => 0) by unfold replyE; rw [hx], show replyS S id d code = (match replyOf S.L[j].2 d code with | none => S | some t => ⟨S.L.set j (S.L[j].1, t), replyP S.P id d (netS S.L[j].1 t - netS S.L[j].1 S.L[j].2)⟩) by unfold replyS; rw [hx]; simp only [sagAt, e2]]
    generalize hy : S.L[j] = y at *
    obtain ⟨o, s⟩ := y
    dsimp only
    have RP := fun w => reply_any o s d code w
    simp only [ordR, sagaV] at OR
    have OR0 := Lib.hid OR
    clear OR hx
    rcases hst : replyOf s d code with _ | t
    · rw [hst] at RP
      simp only [replyV, noneV, sagaV] at RP
      clear hid2 e2 hi
      go_enter Tryd.func31, Tryd.ntmps31
      go_wp2_with (first | go_big_skip | (first | go_big_skip | ((with_reducible apply wpList_loadAll HO); exact rfl; exact rfl; (repeat (with_reducible (first | exact At.head _ | apply At.tail))); infer_instance; exact rfl; exact rfl; (simp only [Act.put, List.setIfInBounds_toArray, List.set_cons_succ, List.set_cons_zero])) | ((with_reducible apply wpList_loadOne HO); exact rfl; exact rfl; (repeat (with_reducible (first | exact At.head _ | apply At.tail))); exact rfl; infer_instance; exact rfl; (simp only [Act.put, List.setIfInBounds_toArray, List.set_cons_succ, List.set_cons_zero]))) | ((with_reducible apply wpList_storeAll HO); exact rfl; exact rfl; exact rfl; (repeat (with_reducible (first | exact At.head _ | apply At.tail))); infer_instance; exact rfl; exact rfl; exact rfl; exact rfl; clear HO; intro w HO; (simp only [Act.put])) | ((have _h : Own W _ (box _ _ :: box _ _ :: box _ _ :: _) := HO); clear _h; (first | ((with_reducible apply wpList_boxAgg _ HO rfl); exact rfl; exact rfl; exact rfl; clear HO; intro b3 w HO; (simp only [Act.put, List.setIfInBounds_toArray, List.set_cons_succ, List.set_cons_zero])) | ((with_reducible apply wpList_allocAgg _ HO rfl); exact rfl; infer_instance; exact rfl; clear HO; intro b3 w HO; (simp only [Act.put, List.setIfInBounds_toArray, List.set_cons_succ, List.set_cons_zero])))) | ((have _h : Own W _ (box _ _ :: box _ _ :: _) := HO); clear _h; (first | ((with_reducible apply wpList_boxAgg _ HO rfl); exact rfl; exact rfl; exact rfl; clear HO; intro b2 w HO; (simp only [Act.put, List.setIfInBounds_toArray, List.set_cons_succ, List.set_cons_zero])) | ((with_reducible apply wpList_allocAgg _ HO rfl); exact rfl; infer_instance; exact rfl; clear HO; intro b2 w HO; (simp only [Act.put, List.setIfInBounds_toArray, List.set_cons_succ, List.set_cons_zero])))) | (first | ((with_reducible apply wpList_boxAgg _ HO rfl); exact rfl; exact rfl; exact rfl; clear HO; intro b1 w HO; (simp only [Act.put, List.setIfInBounds_toArray, List.set_cons_succ, List.set_cons_zero])) | ((with_reducible apply wpList_allocAgg _ HO rfl); exact rfl; infer_instance; exact rfl; clear HO; intro b1 w HO; (simp only [Act.put, List.setIfInBounds_toArray, List.set_cons_succ, List.set_cons_zero]))) | (go_at_call 16; go_must ((with_reducible refine (OR0.out _ _ HO (by repeat (first | exact List.mem_cons_self | apply List.mem_cons_of_mem)) (by repeat (first | exact List.mem_cons_self | apply List.mem_cons_of_mem)) (by repeat (first | exact List.mem_cons_self | apply List.mem_cons_of_mem))).mono ?_); rintro e w ⟨rfl, hb⟩; replace HO := HO.call hb; clear hb)) | (go_at_call 48; go_must ((with_reducible refine (RP _).mono ?_); rintro e w ⟨rfl, hb⟩; replace HO := HO.call hb; clear hb)))
      go_ret
      exact ⟨rfl, au, HO.tail.tail.tail⟩
    · rw [hst] at RP
      simp only [replyV, sagaV] at RP
      dsimp only
      have hd := replyOf_deed hst
      have KP := fun w (hb : Below W.heap.size W w) => keysPut_any (o := id) (d := d) (by simp only [keyOk, isDeed, Bool.and_eq_true, decide_eq_true_eq]; omega) (hL.below hb)
      have hps : (putK id d).size ≤ maxLen := by
        have h1 : (putK id d).size ≤ 40 := putK_size id d (by omega) (by omega)
        unfold maxLen; omega
      have NT := fun w => sagaNet_any o t w
      have NS := fun w => sagaNet_any o s w
      have n1 := netS_bound hoo t
      have n2 := netS_bound hoo s
      have HR := Lib.hid (show replyP S.P id d (netS o t - netS o s) = if 0 < netS o t - netS o s then postL S.P ⟨putK id d, id, 1, 0, netS o t - netS o s⟩ else if netS o t - netS o s < 0 then postL S.P ⟨putK id d, id, 3, 1, -(netS o t - netS o s)⟩ else S.P from rfl)
      simp only [sagaV] at NT NS
      have wp1 : ∀ x, inI x = true → WfP ⟨putK id d, id, 1, 0, x⟩ := fun x hx => ⟨hid, rfl, rfl, hx, hps⟩
      have wp2 : ∀ x, inI x = true → WfP ⟨putK id d, id, 3, 1, x⟩ := fun x hx => ⟨hid, rfl, rfl, hx, hps⟩
      have PO1 := fun x hx (w : World) (L : List Ent) (L' : Value → List Ent) (h : Own W w L) hat => bkPost_any (W := W) (w := w) (L := L) (L' := L') (b := ak) (v := au) (pm := apm) (bm := abm) (l := S.P) ⟨putK id d, id, 1, 0, x⟩ h hat hok.bk (wp1 x hx) hlen
      have PO2 := fun x hx (w : World) (L : List Ent) (L' : Value → List Ent) (h : Own W w L) hat => bkPost_any (W := W) (w := w) (L := L) (L' := L') (b := ak) (v := au) (pm := apm) (bm := abm) (l := S.P) ⟨putK id d, id, 3, 1, x⟩ h hat hok.bk (wp2 x hx) hlen
      simp only [pstV, pstC] at PO1 PO2
      generalize netS o t = nt at *
      generalize netS o s = ns at *
      generalize replyP S.P id d (nt - ns) = Px at *
      clear hid2 e2 hi hoo hst hy
      go_enter Tryd.func31, Tryd.ntmps31
      go_upto_region 7 with (first | go_big_skip | (first | go_big_skip | ((with_reducible apply wpList_loadAll HO); exact rfl; exact rfl; (repeat (with_reducible (first | exact At.head _ | apply At.tail))); infer_instance; exact rfl; exact rfl; (simp only [Act.put, List.setIfInBounds_toArray, List.set_cons_succ, List.set_cons_zero])) | ((with_reducible apply wpList_loadOne HO); exact rfl; exact rfl; (repeat (with_reducible (first | exact At.head _ | apply At.tail))); exact rfl; infer_instance; exact rfl; (simp only [Act.put, List.setIfInBounds_toArray, List.set_cons_succ, List.set_cons_zero]))) | ((with_reducible apply wpList_storeAll HO); exact rfl; exact rfl; exact rfl; (repeat (with_reducible (first | exact At.head _ | apply At.tail))); infer_instance; exact rfl; exact rfl; exact rfl; exact rfl; clear HO; intro w HO; (simp only [Act.put])) | ((have _h : Own W _ (box _ _ :: box _ _ :: box _ _ :: _) := HO); clear _h; (first | ((with_reducible apply wpList_boxAgg _ HO rfl); exact rfl; exact rfl; exact rfl; clear HO; intro b3 w HO; (simp only [Act.put, List.setIfInBounds_toArray, List.set_cons_succ, List.set_cons_zero])) | ((with_reducible apply wpList_allocAgg _ HO rfl); exact rfl; infer_instance; exact rfl; clear HO; intro b3 w HO; (simp only [Act.put, List.setIfInBounds_toArray, List.set_cons_succ, List.set_cons_zero])))) | ((have _h : Own W _ (box _ _ :: box _ _ :: _) := HO); clear _h; (first | ((with_reducible apply wpList_boxAgg _ HO rfl); exact rfl; exact rfl; exact rfl; clear HO; intro b2 w HO; (simp only [Act.put, List.setIfInBounds_toArray, List.set_cons_succ, List.set_cons_zero])) | ((with_reducible apply wpList_allocAgg _ HO rfl); exact rfl; infer_instance; exact rfl; clear HO; intro b2 w HO; (simp only [Act.put, List.setIfInBounds_toArray, List.set_cons_succ, List.set_cons_zero])))) | (first | ((with_reducible apply wpList_boxAgg _ HO rfl); exact rfl; exact rfl; exact rfl; clear HO; intro b1 w HO; (simp only [Act.put, List.setIfInBounds_toArray, List.set_cons_succ, List.set_cons_zero])) | ((with_reducible apply wpList_allocAgg _ HO rfl); exact rfl; infer_instance; exact rfl; clear HO; intro b1 w HO; (simp only [Act.put, List.setIfInBounds_toArray, List.set_cons_succ, List.set_cons_zero]))) | (go_at_call 16; go_must ((with_reducible refine (OR0.out _ _ HO (by repeat (first | exact List.mem_cons_self | apply List.mem_cons_of_mem)) (by repeat (first | exact List.mem_cons_self | apply List.mem_cons_of_mem)) (by repeat (first | exact List.mem_cons_self | apply List.mem_cons_of_mem))).mono ?_); rintro e w ⟨rfl, hb⟩; replace HO := HO.call hb; clear hb)) | (go_at_call 48; go_must ((with_reducible refine (RP _).mono ?_); rintro e w ⟨rfl, hb⟩; replace HO := HO.call hb; clear hb)))
      refine region_sched2 ([box b3 (.cells #[.int .i64 o.id, .string ⟨o.ref.toArray⟩, .string ⟨o.sku.toArray⟩, .int .i64 o.qty, .int .i64 o.amt, .int .i64 t.a, .int .i64 t.b, .int .i64 t.c, .int .i64 t.d, .int .i64 t.e, .int .i64 t.f, .bool t.x] 52), box b1 (.cells #[.int .i64 id, .int .i64 d] 35), box ac (.cells #[.slice (some q) S.L.length c, .pointer (some ⟨ak, 0, none⟩), .int .i64 A.p0, .int .i64 A.q0, i.v0, .int .i64 A.p1, .int .i64 A.q1, i.v1, .int .i64 A.p2, .int .i64 A.q2, i.v2, i.m] 82)]) [(0, true), (1, true), (2, true), (3, true), (4, true), (5, true), (6, true), (7, true), (8, true), (9, false)] HO (by with_reducible (repeat (first | exact List.nil_sublist _ | apply List.Sublist.cons_cons | apply List.Sublist.cons))) (by kernel_rfl) (by kernel_rfl) ?_
      clear HO
      intro w HO
      repeat (first | ((with_reducible apply wpSched_loadOne); exact rfl; exact rfl; exact rfl; (repeat (with_reducible (first | exact At.head _ | apply At.tail))); exact rfl; infer_instance; exact rfl; (simp only [Act.put, List.setIfInBounds_toArray, List.set_cons_succ, List.set_cons_zero])) | ((with_reducible apply wpSched_loadAll); exact rfl; exact rfl; exact rfl; (repeat (with_reducible (first | exact At.head _ | apply At.tail))); infer_instance; exact rfl; exact rfl; (simp only [Act.put, List.setIfInBounds_toArray, List.set_cons_succ, List.set_cons_zero])) | ((with_reducible apply wpSched_pure); exact rfl; exact rfl; (intro w'; go_simp; try with_reducible rfl); (simp only [Act.put, List.setIfInBounds_toArray, List.set_cons_succ, List.set_cons_zero])))
      ((with_reducible apply wpSched_loud); exact rfl; ((with_reducible apply wpList_storeRow HO); exact rfl; exact rfl; (first | (simp [Act.eval]; rfl) | exact rfl); exact rfl; (repeat (with_reducible (first | exact At.head _ | apply At.tail))); exact (hsl.out); (simp; omega); exact rfl; infer_instance; exact rfl; exact rfl; clear HO; intro w HO; (simp only [Act.put])))
      refine wpList_nil (thenQ_free (by kernel_rfl) ?_)
      refine wpSched_end ?_
      go_upto_region 8 with fail
      refine region_own HO (by kernel_rfl) (by kernel_rfl) ?_
      clear HO
      intro F HF
      repeat (first | (first | go_big_quiet_skip | ((with_reducible apply wpQuiet_loadAll HF); exact rfl; exact rfl; (repeat (with_reducible (first | exact At.head _ | apply At.tail))); infer_instance; exact rfl; exact rfl; (simp only [Act.put, List.setIfInBounds_toArray, List.set_cons_succ, List.set_cons_zero])) | ((with_reducible apply wpQuiet_loadOne HF); exact rfl; exact rfl; (repeat (with_reducible (first | exact At.head _ | apply At.tail))); exact rfl; infer_instance; exact rfl; (simp only [Act.put, List.setIfInBounds_toArray, List.set_cons_succ, List.set_cons_zero])) | ((with_reducible apply wpQuiet_loadPart HF); exact rfl; exact rfl; (repeat (with_reducible (first | exact At.head _ | apply At.tail))); infer_instance; exact (Nat.le_of_ble_eq_true rfl); (simp only [List.drop_succ_cons, List.drop_zero, List.take_succ_cons, List.take_zero]; rfl); exact rfl; (simp only [Act.put, List.setIfInBounds_toArray, List.set_cons_succ, List.set_cons_zero]))) | go_big_quiet_step ((go_at_call 20; first | (with_reducible exact calls_fam HF (NT _)) | (with_reducible exact calls_fam HF (NS _)))))
      refine wpQuiet_nil ?_
      intro x
      have HO := HF.own x
      clear HF
      generalize F x = w at *
      clear x F
      by_cases c1 : 0 < nt - ns
      · have c1' : 0 < nt - ns := c1
        rw [if_pos c1] at HR
        obtain rfl := HR.out
        have PO := PO1 (nt - ns) (inI_iff.2 (by omega))
        clear HR PO1 PO2 wp1 wp2
        go_upto_region 10 with fail
        refine region_sched2 ([box b1 (.cells #[.int .i64 id, .int .i64 d] 35), box ac (.cells #[.slice (some q) S.L.length c, .pointer (some ⟨ak, 0, none⟩), .int .i64 A.p0, .int .i64 A.q0, i.v0, .int .i64 A.p1, .int .i64 A.q1, i.v1, .int .i64 A.p2, .int .i64 A.q2, i.v2, i.m] 82)]) [(0, true), (1, true), (2, true), (3, true), (4, true), (6, true), (7, true), (8, true), (5, false), (9, true), (10, false)] HO (by with_reducible (repeat (first | exact List.nil_sublist _ | apply List.Sublist.cons_cons | apply List.Sublist.cons))) (by kernel_rfl) (by kernel_rfl) ?_
        clear HO
        intro w HO
        repeat (first | ((with_reducible apply wpSched_loadOne); exact rfl; exact rfl; exact rfl; (repeat (with_reducible (first | exact At.head _ | apply At.tail))); exact rfl; infer_instance; exact rfl; (simp only [Act.put, List.setIfInBounds_toArray, List.set_cons_succ, List.set_cons_zero])) | ((with_reducible apply wpSched_loadAll); exact rfl; exact rfl; exact rfl; (repeat (with_reducible (first | exact At.head _ | apply At.tail))); infer_instance; exact rfl; exact rfl; (simp only [Act.put, List.setIfInBounds_toArray, List.set_cons_succ, List.set_cons_zero])) | ((with_reducible apply wpSched_pure); exact rfl; exact rfl; (intro w'; go_simp; try with_reducible rfl); (simp only [Act.put, List.setIfInBounds_toArray, List.set_cons_succ, List.set_cons_zero])))
        ((with_reducible apply wpSched_loud); exact rfl; go_wp2_with ((go_at_call 50; go_must ((with_reducible refine (KP _ HO.grown).mono ?_); rintro e w ⟨rfl, hb⟩; replace HO := HO.call hb; clear hb))))
        refine thenQ_keep (HO.held (by with_reducible (repeat (first | exact List.nil_sublist _ | apply List.Sublist.cons_cons | apply List.Sublist.cons)))) ?_
        repeat (first | ((with_reducible apply wpSched_loadOne); exact rfl; exact rfl; exact rfl; (repeat (with_reducible (first | exact At.head _ | apply At.tail))); exact rfl; infer_instance; exact rfl; (simp only [Act.put, List.setIfInBounds_toArray, List.set_cons_succ, List.set_cons_zero])) | ((with_reducible apply wpSched_loadAll); exact rfl; exact rfl; exact rfl; (repeat (with_reducible (first | exact At.head _ | apply At.tail))); infer_instance; exact rfl; exact rfl; (simp only [Act.put, List.setIfInBounds_toArray, List.set_cons_succ, List.set_cons_zero])) | ((with_reducible apply wpSched_pure); exact rfl; exact rfl; (intro w'; go_simp; try with_reducible rfl); (simp only [Act.put, List.setIfInBounds_toArray, List.set_cons_succ, List.set_cons_zero])))
        ((with_reducible apply wpSched_loud); exact rfl; go_wp2_with ((go_at_call 49; go_must ((have h9 := PO _ _ _ HO (by intro v9; (repeat (with_reducible (first | exact At.head _ | apply At.tail))))); (with_reducible refine h9.mono ?_); clear h9 HO; rintro e w ⟨rfl, u9, HO⟩))))
        refine thenQ_free (by kernel_rfl) ?_
        refine wpSched_end ?_
        go_wp2_with fail
        go_ret
        refine ⟨rfl, u9, ?_⟩
        unfold coPs coC
        rw [hset.out]
        exact (HO.tail).tail.tail
      rw [if_neg c1] at HR
      by_cases c2 : nt - ns < 0
      · rw [if_pos c2] at HR
        obtain rfl := HR.out
        have PO := PO2 (-(nt - ns)) (inI_iff.2 (by omega))
        clear HR PO1 PO2 wp1 wp2
        go_upto_region 12 with fail
        refine region_sched2 ([box b1 (.cells #[.int .i64 id, .int .i64 d] 35), box ac (.cells #[.slice (some q) S.L.length c, .pointer (some ⟨ak, 0, none⟩), .int .i64 A.p0, .int .i64 A.q0, i.v0, .int .i64 A.p1, .int .i64 A.q1, i.v1, .int .i64 A.p2, .int .i64 A.q2, i.v2, i.m] 82)]) [(0, true), (1, true), (2, true), (3, true), (4, true), (6, true), (7, true), (8, true), (9, true), (5, false), (10, true), (11, false)] HO (by with_reducible (repeat (first | exact List.nil_sublist _ | apply List.Sublist.cons_cons | apply List.Sublist.cons))) (by kernel_rfl) (by kernel_rfl) ?_
        clear HO
        intro w HO
        repeat (first | ((with_reducible apply wpSched_loadOne); exact rfl; exact rfl; exact rfl; (repeat (with_reducible (first | exact At.head _ | apply At.tail))); exact rfl; infer_instance; exact rfl; (simp only [Act.put, List.setIfInBounds_toArray, List.set_cons_succ, List.set_cons_zero])) | ((with_reducible apply wpSched_loadAll); exact rfl; exact rfl; exact rfl; (repeat (with_reducible (first | exact At.head _ | apply At.tail))); infer_instance; exact rfl; exact rfl; (simp only [Act.put, List.setIfInBounds_toArray, List.set_cons_succ, List.set_cons_zero])) | ((with_reducible apply wpSched_pure); exact rfl; exact rfl; (intro w'; go_simp; try with_reducible rfl); (simp only [Act.put, List.setIfInBounds_toArray, List.set_cons_succ, List.set_cons_zero])))
        ((with_reducible apply wpSched_loud); exact rfl; go_wp2_with ((go_at_call 50; go_must ((with_reducible refine (KP _ HO.grown).mono ?_); rintro e w ⟨rfl, hb⟩; replace HO := HO.call hb; clear hb))))
        refine thenQ_keep (HO.held (by with_reducible (repeat (first | exact List.nil_sublist _ | apply List.Sublist.cons_cons | apply List.Sublist.cons)))) ?_
        repeat (first | ((with_reducible apply wpSched_loadOne); exact rfl; exact rfl; exact rfl; (repeat (with_reducible (first | exact At.head _ | apply At.tail))); exact rfl; infer_instance; exact rfl; (simp only [Act.put, List.setIfInBounds_toArray, List.set_cons_succ, List.set_cons_zero])) | ((with_reducible apply wpSched_loadAll); exact rfl; exact rfl; exact rfl; (repeat (with_reducible (first | exact At.head _ | apply At.tail))); infer_instance; exact rfl; exact rfl; (simp only [Act.put, List.setIfInBounds_toArray, List.set_cons_succ, List.set_cons_zero])) | ((with_reducible apply wpSched_pure); exact rfl; exact rfl; (intro w'; go_simp; try with_reducible rfl); (simp only [Act.put, List.setIfInBounds_toArray, List.set_cons_succ, List.set_cons_zero])))
        ((with_reducible apply wpSched_loud); exact rfl; go_wp2_with ((go_at_call 49; go_must ((have h9 := PO _ _ _ HO (by intro v9; (repeat (with_reducible (first | exact At.head _ | apply At.tail))))); (with_reducible refine h9.mono ?_); clear h9 HO; rintro e w ⟨rfl, u9, HO⟩))))
        refine thenQ_free (by kernel_rfl) ?_
        refine wpSched_end ?_
        go_wp2_with fail
        go_ret
        refine ⟨rfl, u9, ?_⟩
        unfold coPs coC
        rw [hset.out]
        exact (HO.tail).tail.tail
      · rw [if_neg c2] at HR
        obtain rfl := HR.out
        go_wp2_with fail
        go_ret
        refine ⟨rfl, au, ?_⟩
        unfold coPs coC
        rw [hset.out]
        exact (HO.tail).tail.tail
end Go.Proofs.YtibabfedpdoofaaDoor
