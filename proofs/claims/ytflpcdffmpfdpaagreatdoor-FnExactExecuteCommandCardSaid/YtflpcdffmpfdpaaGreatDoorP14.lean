/- Joined texts of this proof: ShelfKZD, RecD, Num, Seal. -/
import Derived.Shelf.Strings.Builder1
import Derived.Shelf.Strings.Builder2
import Derived.Shelf.Strings.OnBuilder
import Derived.Shelf.Small.Wraps
import Derived.Shelf.Strings.BuilderF
import Derived.Shelf.Strings.BuilderK
import Derived.Shelf.Utf8.RuneCount
import Derived.Shelf.Strings.Builder2Cap
import Derived.Shelf.Strconv.Atoi
import Derived.Shelf.Strconv.Itoa0
import Derived.Shelf.Strconv.Itoa1
import Derived.Shelf.LaysM
import Derived.Shelf.Strconv.Itoa2
import Derived.Shelf.Strconv.Itoa3
import Derived.Shelf.Strconv.AtoiErrFast
import Derived.Shelf.Strconv.ParseIntEmpty
import Derived.Shelf.Strconv.AtoiFail
import Derived.Shelf.Strconv.Clone
import Derived.Shelf.Strconv.SyntaxError
import Derived.Shelf.LaysC
import Derived.Shelf.Strconv.ToError
import Derived.Shelf.Strconv.AtoiErr
import Derived.Shelf.Strconv.ErrVar
import Derived.Shelf.Strconv.Lower
import Derived.Shelf.Strconv.ParseUint10
import Derived.Shelf.Strconv.ParseUint10Empty
import Derived.Shelf.Strconv.ParseUint10Any
import Derived.Shelf.Strconv.ParseInt10
import Derived.Shelf.Strconv.AtoiLong
import Derived.Shelf.Strconv.AtoiInnerAll
import Derived.Shelf.Strconv.RangeError
import Derived.Shelf.Strconv.ToErrorRange
import Derived.Shelf.Strconv.AtoiAll
import Derived.Shelf.Strconv.ErrVarAll
import Derived.Shelf.Strconv.ParseUintEmpty
import Derived.Shelf.Strconv.ParseUint10b64
import Derived.Shelf.Strconv.ParseUint10b32
import Derived.Shelf.Strconv.ParseUint10b16
import Derived.Shelf.Strconv.ParseUint10b8
import Derived.Shelf.Strconv.ParseUint10At
import Derived.Shelf.Strings.Search1
import Derived.Shelf.Strings.Search2
import Derived.Shelf.Strings.Search3
import Derived.Shelf.Strings.Cut
import Derived.Shelf.Strings.Count
import Derived.Shelf.Strings.Shaped
import Derived.Shelf.Strings.Split
import Derived.Shelf.Strings.SplitShaped
import Derived.Shelf.Unicode.Decode
import Derived.Shelf.Strings.RuneCount
import Derived.Shelf.Strings.Explode
import Derived.Shelf.Unicode.DecodeSlow
import Derived.Shelf.Unicode.DecodeAny
import Derived.Shelf.Strings.BuilderCap
import Derived.Ground.Names2Prog
import Derived.Shelf.Slices.SearchI
import Derived.Lib.IndexAny
import Derived.Lib.ItoaMem
import Derived.Lib.SmallJoins
import Derived.Test.YtflpcdffmpfdpaaGreatDoorChecked
import Derived.Test.YtflpcdffmpfdpaaGreatDoorP01
import Derived.Test.YtflpcdffmpfdpaaGreatDoorP13
import Derived.Test.YtflpcdffmpfdpaaGreatDoorP04
import Derived.Test.YtflpcdffmpfdpaaGreatDoorP02
namespace Go.Proofs.YtflpcdffmpfdpaaGreatDoor
open Go.Shelf
def sh_laysM243_ren : Go.Shelf.Ren := ⟨fun | 243 => 116 | 246 => 156 | 283 => 194 | 284 => 195 | 285 => 196 | 286 => 197 | 129 => 224 | 317 => 223 | 318 => 225 | 319 => 226 | 320 => 227 | 337 => 244 | 338 => 245 | n => n, fun | 3 => 3 | 9 => 9 | 2 => 2 | 4 => 4 | 171 => 214 | 0 => 0 | 53 => 86 | 37 => 47 | 5 => 5 | 173 => 217 | 212 => 237 | 51 => 238 | 20 => 20 | 213 => 239 | 46 => 179 | 232 => 268 | 233 => 269 | n => n, fun | 17 => 1 | 18 => 6 | 19 => 7 | n => n⟩
theorem sh_laysM243 : Go.Proofs.LaysM.n243 Tryz.prog sh_laysM243_ren := {
  mixed := by kernel_rfl
  f129 := Tryz.func224.trans (congrArg some (by kernel_rfl))
  f243 := Tryz.func116.trans (congrArg some (by kernel_rfl))
  f246 := Tryz.func156.trans (congrArg some (by kernel_rfl))
  f283 := Tryz.func194.trans (congrArg some (by kernel_rfl))
  f284 := Tryz.func195.trans (congrArg some (by kernel_rfl))
  f285 := Tryz.func196.trans (congrArg some (by kernel_rfl))
  f286 := Tryz.func197.trans (congrArg some (by kernel_rfl))
  f317 := Tryz.func223.trans (congrArg some (by kernel_rfl))
  f318 := Tryz.func225.trans (congrArg some (by kernel_rfl))
  f319 := Tryz.func226.trans (congrArg some (by kernel_rfl))
  f320 := Tryz.func227.trans (congrArg some (by kernel_rfl))
  f337 := Tryz.func244.trans (congrArg some (by kernel_rfl))
  f338 := Tryz.func245.trans (congrArg some (by kernel_rfl))
  t0 := Tryz.underlying0
  a0 := Tryz.isAgg0
  z0 := Tryz.sizeOf0
  v0 := Tryz.zeroValue0
  t2 := Tryz.underlying2
  a2 := Tryz.isAgg2
  z2 := Tryz.sizeOf2
  v2 := Tryz.zeroValue2
  t3 := Tryz.underlying3
  a3 := Tryz.isAgg3
  z3 := Tryz.sizeOf3
  v3 := Tryz.zeroValue3
  t4 := Tryz.underlying4
  a4 := Tryz.isAgg4
  z4 := Tryz.sizeOf4
  v4 := Tryz.zeroValue4
  t5 := Tryz.underlying5
  a5 := Tryz.isAgg5
  z5 := Tryz.sizeOf5
  v5 := Tryz.zeroValue5
  t9 := Tryz.underlying9
  a9 := Tryz.isAgg9
  z9 := Tryz.sizeOf9
  v9 := Tryz.zeroValue9
  t20 := Tryz.underlying20
  a20 := Tryz.isAgg20
  z20 := Tryz.sizeOf20
  v20 := Tryz.zeroValue20
  t37 := Tryz.underlying47
  a37 := Tryz.isAgg47
  z37 := Tryz.sizeOf47
  v37 := Tryz.zeroValue47
  t46 := Tryz.underlying179
  a46 := Tryz.isAgg179
  z46 := Tryz.sizeOf179
  v46 := Tryz.zeroValue179
  t51 := Tryz.underlying238
  a51 := Tryz.isAgg238
  z51 := Tryz.sizeOf238
  v51 := Tryz.zeroValue238
  t53 := Tryz.underlying86
  a53 := Tryz.isAgg86
  z53 := Tryz.sizeOf86
  v53 := Tryz.zeroValue86
  t171 := Tryz.underlying214
  a171 := Tryz.isAgg214
  z171 := Tryz.sizeOf214
  v171 := Tryz.zeroValue214
  t173 := Tryz.underlying217
  a173 := Tryz.isAgg217
  z173 := Tryz.sizeOf217
  v173 := Tryz.zeroValue217
  t212 := Tryz.underlying237
  a212 := Tryz.isAgg237
  z212 := Tryz.sizeOf237
  v212 := Tryz.zeroValue237
  t213 := Tryz.underlying239
  a213 := Tryz.isAgg239
  z213 := Tryz.sizeOf239
  t232 := Tryz.underlying268
  a232 := Tryz.isAgg268
  z232 := Tryz.sizeOf268
  v232 := Tryz.zeroValue268
  t233 := Tryz.underlying269
  a233 := Tryz.isAgg269
  z233 := Tryz.sizeOf269
  v233 := Tryz.zeroValue269
  g17 := by kernel_rfl
  g18 := by kernel_rfl
  g19 := by kernel_rfl
  i0 := by kernel_rfl
  i2 := by kernel_rfl
  i3 := by kernel_rfl
  i4 := by kernel_rfl
  i5 := by kernel_rfl
  i9 := by kernel_rfl
  i20 := by kernel_rfl
  i37 := by kernel_rfl
  i46 := by kernel_rfl
  i51 := by kernel_rfl
  i53 := by kernel_rfl
  i171 := by kernel_rfl
  i173 := by kernel_rfl
  i212 := by kernel_rfl
  i232 := by kernel_rfl
  i233 := by kernel_rfl
  m17 := by kernel_rfl
  m18 := by kernel_rfl
  m19 := by kernel_rfl }
open Go.RowKit Go.Sort Go.Lib in
theorem sh_internal_strconv_Itoa (n : Int) (h0 : -9223372036854775808 ≤ n) (h1 : n ≤ 9223372036854775807) (w : World) (htab : Lib.TabIs Tryz.prog w "internal/strconv.uint64pow10" .u64 Lib.pow10Tab) :
    Calls Tryz.prog 116 #[.int .i64 n] w fun e w' => e = .returned (.string ⟨(Lib.itoa n).toArray⟩) ∧ ∃ k os, w' = grow (w.drewN k) os := Any.internal_strconv_Itoa sh_laysM243 n h0 h1 w htab
def sh_laysM171_ren : Go.Shelf.Ren := ⟨fun | 171 => 74 | 243 => 116 | 246 => 156 | 283 => 194 | 284 => 195 | 285 => 196 | 286 => 197 | 129 => 224 | 317 => 223 | 318 => 225 | 319 => 226 | 320 => 227 | 337 => 244 | 338 => 245 | n => n, fun | 3 => 3 | 9 => 9 | 2 => 2 | 4 => 4 | 171 => 214 | 0 => 0 | 53 => 86 | 37 => 47 | 5 => 5 | 173 => 217 | 212 => 237 | 51 => 238 | 20 => 20 | 213 => 239 | 46 => 179 | 232 => 268 | 233 => 269 | n => n, fun | 17 => 1 | 18 => 6 | 19 => 7 | n => n⟩
theorem sh_laysM171 : Go.Proofs.LaysM.n171 Tryz.prog sh_laysM171_ren := {
  mixed := by kernel_rfl
  f129 := Tryz.func224.trans (congrArg some (by kernel_rfl))
  f171 := Tryz.func74.trans (congrArg some (by kernel_rfl))
  f243 := Tryz.func116.trans (congrArg some (by kernel_rfl))
  f246 := Tryz.func156.trans (congrArg some (by kernel_rfl))
  f283 := Tryz.func194.trans (congrArg some (by kernel_rfl))
  f284 := Tryz.func195.trans (congrArg some (by kernel_rfl))
  f285 := Tryz.func196.trans (congrArg some (by kernel_rfl))
  f286 := Tryz.func197.trans (congrArg some (by kernel_rfl))
  f317 := Tryz.func223.trans (congrArg some (by kernel_rfl))
  f318 := Tryz.func225.trans (congrArg some (by kernel_rfl))
  f319 := Tryz.func226.trans (congrArg some (by kernel_rfl))
  f320 := Tryz.func227.trans (congrArg some (by kernel_rfl))
  f337 := Tryz.func244.trans (congrArg some (by kernel_rfl))
  f338 := Tryz.func245.trans (congrArg some (by kernel_rfl))
  t0 := Tryz.underlying0
  a0 := Tryz.isAgg0
  z0 := Tryz.sizeOf0
  v0 := Tryz.zeroValue0
  t2 := Tryz.underlying2
  a2 := Tryz.isAgg2
  z2 := Tryz.sizeOf2
  v2 := Tryz.zeroValue2
  t3 := Tryz.underlying3
  a3 := Tryz.isAgg3
  z3 := Tryz.sizeOf3
  v3 := Tryz.zeroValue3
  t4 := Tryz.underlying4
  a4 := Tryz.isAgg4
  z4 := Tryz.sizeOf4
  v4 := Tryz.zeroValue4
  t5 := Tryz.underlying5
  a5 := Tryz.isAgg5
  z5 := Tryz.sizeOf5
  v5 := Tryz.zeroValue5
  t9 := Tryz.underlying9
  a9 := Tryz.isAgg9
  z9 := Tryz.sizeOf9
  v9 := Tryz.zeroValue9
  t20 := Tryz.underlying20
  a20 := Tryz.isAgg20
  z20 := Tryz.sizeOf20
  v20 := Tryz.zeroValue20
  t37 := Tryz.underlying47
  a37 := Tryz.isAgg47
  z37 := Tryz.sizeOf47
  v37 := Tryz.zeroValue47
  t46 := Tryz.underlying179
  a46 := Tryz.isAgg179
  z46 := Tryz.sizeOf179
  v46 := Tryz.zeroValue179
  t51 := Tryz.underlying238
  a51 := Tryz.isAgg238
  z51 := Tryz.sizeOf238
  v51 := Tryz.zeroValue238
  t53 := Tryz.underlying86
  a53 := Tryz.isAgg86
  z53 := Tryz.sizeOf86
  v53 := Tryz.zeroValue86
  t171 := Tryz.underlying214
  a171 := Tryz.isAgg214
  z171 := Tryz.sizeOf214
  v171 := Tryz.zeroValue214
  t173 := Tryz.underlying217
  a173 := Tryz.isAgg217
  z173 := Tryz.sizeOf217
  v173 := Tryz.zeroValue217
  t212 := Tryz.underlying237
  a212 := Tryz.isAgg237
  z212 := Tryz.sizeOf237
  v212 := Tryz.zeroValue237
  t213 := Tryz.underlying239
  a213 := Tryz.isAgg239
  z213 := Tryz.sizeOf239
  t232 := Tryz.underlying268
  a232 := Tryz.isAgg268
  z232 := Tryz.sizeOf268
  v232 := Tryz.zeroValue268
  t233 := Tryz.underlying269
  a233 := Tryz.isAgg269
  z233 := Tryz.sizeOf269
  v233 := Tryz.zeroValue269
  g17 := by kernel_rfl
  g18 := by kernel_rfl
  g19 := by kernel_rfl
  i0 := by kernel_rfl
  i2 := by kernel_rfl
  i3 := by kernel_rfl
  i4 := by kernel_rfl
  i5 := by kernel_rfl
  i9 := by kernel_rfl
  i20 := by kernel_rfl
  i37 := by kernel_rfl
  i46 := by kernel_rfl
  i51 := by kernel_rfl
  i53 := by kernel_rfl
  i171 := by kernel_rfl
  i173 := by kernel_rfl
  i212 := by kernel_rfl
  i232 := by kernel_rfl
  i233 := by kernel_rfl
  m17 := by kernel_rfl
  m18 := by kernel_rfl
  m19 := by kernel_rfl }
open Go.RowKit Go.Sort Go.Lib in
theorem sh_strconv_Itoa (n : Int) (h0 : -9223372036854775808 ≤ n) (h1 : n ≤ 9223372036854775807) (w : World) (htab : Lib.TabIs Tryz.prog w "internal/strconv.uint64pow10" .u64 Lib.pow10Tab) :
    Calls Tryz.prog 74 #[.int .i64 n] w fun e w' => e = .returned (.string ⟨(Lib.itoa n).toArray⟩) ∧ ∃ k os, w' = grow (w.drewN k) os := Any.strconv_Itoa sh_laysM171 n h0 h1 w htab
def sh_lays144_ren : Go.Shelf.Ren := ⟨fun | 144 => 92 | 143 => 132 | 219 => 171 | 217 => 204 | 225 => 205 | 224 => 206 | 267 => 207 | 266 => 230 | 314 => 231 | n => n, fun | 9 => 9 | 4 => 4 | 3 => 3 | 5 => 5 | 46 => 179 | 146 => 243 | 51 => 238 | n => n, fun | 1 => 0 | n => n⟩
theorem sh_lays144 : Go.Proofs.Lays.n144 Tryz.prog sh_lays144_ren := {
  mixed := by kernel_rfl
  f143 := Tryz.func132.trans (congrArg some (by kernel_rfl))
  f144 := Tryz.func92.trans (congrArg some (by kernel_rfl))
  f217 := Tryz.func204.trans (congrArg some (by kernel_rfl))
  f219 := Tryz.func171.trans (congrArg some (by kernel_rfl))
  f224 := Tryz.func206.trans (congrArg some (by kernel_rfl))
  f225 := Tryz.func205.trans (congrArg some (by kernel_rfl))
  f266 := Tryz.func230.trans (congrArg some (by kernel_rfl))
  f267 := Tryz.func207.trans (congrArg some (by kernel_rfl))
  f314 := Tryz.func231.trans (congrArg some (by kernel_rfl))
  t3 := Tryz.underlying3
  a3 := Tryz.isAgg3
  z3 := Tryz.sizeOf3
  v3 := Tryz.zeroValue3
  t4 := Tryz.underlying4
  a4 := Tryz.isAgg4
  z4 := Tryz.sizeOf4
  v4 := Tryz.zeroValue4
  t5 := Tryz.underlying5
  a5 := Tryz.isAgg5
  z5 := Tryz.sizeOf5
  v5 := Tryz.zeroValue5
  t9 := Tryz.underlying9
  a9 := Tryz.isAgg9
  z9 := Tryz.sizeOf9
  v9 := Tryz.zeroValue9
  t46 := Tryz.underlying179
  a46 := Tryz.isAgg179
  z46 := Tryz.sizeOf179
  v46 := Tryz.zeroValue179
  t51 := Tryz.underlying238
  a51 := Tryz.isAgg238
  z51 := Tryz.sizeOf238
  v51 := Tryz.zeroValue238
  t146 := Tryz.underlying243
  a146 := Tryz.isAgg243
  z146 := Tryz.sizeOf243
  v146 := Tryz.zeroValue243
  g1 := by kernel_rfl }
open Go.RowKit Go.Lib in
theorem sh_strings_Contains_one (s : ByteArray) (c : UInt8) (w : World) :
    Calls Tryz.prog 92 #[.string s, .string ⟨#[c]⟩] w fun e w' => e = .returned (.bool (decide (0 ≤ Lib.indexByte s.data.toList c))) ∧ w' = w := Any.strings_Contains_one sh_lays144 s c w
def sh_lays145_ren : Go.Shelf.Ren := ⟨fun | 145 => 151 | 220 => 191 | 219 => 171 | 217 => 204 | 225 => 205 | 224 => 206 | 267 => 207 | 266 => 230 | 314 => 231 | n => n, fun | 9 => 9 | 4 => 4 | 59 => 183 | 3 => 3 | 5 => 5 | 46 => 179 | 146 => 243 | 51 => 238 | n => n, fun | 1 => 0 | n => n⟩
theorem sh_lays145 : Go.Proofs.Lays.n145 Tryz.prog sh_lays145_ren := {
  mixed := by kernel_rfl
  f145 := Tryz.func151.trans (congrArg some (by kernel_rfl))
  f217 := Tryz.func204.trans (congrArg some (by kernel_rfl))
  f219 := Tryz.func171.trans (congrArg some (by kernel_rfl))
  f220 := Tryz.func191.trans (congrArg some (by kernel_rfl))
  f224 := Tryz.func206.trans (congrArg some (by kernel_rfl))
  f225 := Tryz.func205.trans (congrArg some (by kernel_rfl))
  f266 := Tryz.func230.trans (congrArg some (by kernel_rfl))
  f267 := Tryz.func207.trans (congrArg some (by kernel_rfl))
  f314 := Tryz.func231.trans (congrArg some (by kernel_rfl))
  t3 := Tryz.underlying3
  a3 := Tryz.isAgg3
  z3 := Tryz.sizeOf3
  v3 := Tryz.zeroValue3
  t4 := Tryz.underlying4
  a4 := Tryz.isAgg4
  z4 := Tryz.sizeOf4
  v4 := Tryz.zeroValue4
  t5 := Tryz.underlying5
  a5 := Tryz.isAgg5
  z5 := Tryz.sizeOf5
  v5 := Tryz.zeroValue5
  t9 := Tryz.underlying9
  a9 := Tryz.isAgg9
  z9 := Tryz.sizeOf9
  v9 := Tryz.zeroValue9
  t46 := Tryz.underlying179
  a46 := Tryz.isAgg179
  z46 := Tryz.sizeOf179
  v46 := Tryz.zeroValue179
  t51 := Tryz.underlying238
  a51 := Tryz.isAgg238
  z51 := Tryz.sizeOf238
  v51 := Tryz.zeroValue238
  t59 := Tryz.underlying183
  a59 := Tryz.isAgg183
  z59 := Tryz.sizeOf183
  v59 := Tryz.zeroValue183
  t146 := Tryz.underlying243
  a146 := Tryz.isAgg243
  z146 := Tryz.sizeOf243
  v146 := Tryz.zeroValue243
  g1 := by kernel_rfl }
open Go.RowKit Go.Lib in
theorem sh_strings_Cut (s sep : ByteArray) (m : Int) (w : World) (hs : s.size < 4294967281) (hm : w.cell? ⟨0, 0, none⟩ = some (.int .i64 m)) :
    Calls Tryz.prog 151 #[.string s, .string sep] w fun e w' => e = .returned (.tuple #[.string ⟨(Lib.cut s.data.toList sep.data.toList).1.toArray⟩, .string ⟨(Lib.cut s.data.toList sep.data.toList).2.1.toArray⟩, .bool (Lib.cut s.data.toList sep.data.toList).2.2]) ∧ ∃ n, w' = w.drewN n := Any.strings_Cut sh_lays145 s sep m w hs hm
def sh_laysM145_ren : Go.Shelf.Ren := ⟨fun | 145 => 151 | 220 => 191 | 219 => 171 | 217 => 204 | 225 => 205 | 224 => 206 | 267 => 207 | 266 => 230 | 314 => 231 | n => n, fun | 9 => 9 | 4 => 4 | 59 => 183 | 3 => 3 | 5 => 5 | 46 => 179 | 146 => 243 | 51 => 238 | n => n, fun | 1 => 0 | n => n⟩
theorem sh_laysM145 : Go.Proofs.LaysM.n145 Tryz.prog sh_laysM145_ren := {
  mixed := by kernel_rfl
  f145 := Tryz.func151.trans (congrArg some (by kernel_rfl))
  f217 := Tryz.func204.trans (congrArg some (by kernel_rfl))
  f219 := Tryz.func171.trans (congrArg some (by kernel_rfl))
  f220 := Tryz.func191.trans (congrArg some (by kernel_rfl))
  f224 := Tryz.func206.trans (congrArg some (by kernel_rfl))
  f225 := Tryz.func205.trans (congrArg some (by kernel_rfl))
  f266 := Tryz.func230.trans (congrArg some (by kernel_rfl))
  f267 := Tryz.func207.trans (congrArg some (by kernel_rfl))
  f314 := Tryz.func231.trans (congrArg some (by kernel_rfl))
  t3 := Tryz.underlying3
  a3 := Tryz.isAgg3
  z3 := Tryz.sizeOf3
  v3 := Tryz.zeroValue3
  t4 := Tryz.underlying4
  a4 := Tryz.isAgg4
  z4 := Tryz.sizeOf4
  v4 := Tryz.zeroValue4
  t5 := Tryz.underlying5
  a5 := Tryz.isAgg5
  z5 := Tryz.sizeOf5
  v5 := Tryz.zeroValue5
  t9 := Tryz.underlying9
  a9 := Tryz.isAgg9
  z9 := Tryz.sizeOf9
  v9 := Tryz.zeroValue9
  t46 := Tryz.underlying179
  a46 := Tryz.isAgg179
  z46 := Tryz.sizeOf179
  v46 := Tryz.zeroValue179
  t51 := Tryz.underlying238
  a51 := Tryz.isAgg238
  z51 := Tryz.sizeOf238
  v51 := Tryz.zeroValue238
  t59 := Tryz.underlying183
  a59 := Tryz.isAgg183
  z59 := Tryz.sizeOf183
  v59 := Tryz.zeroValue183
  t146 := Tryz.underlying243
  a146 := Tryz.isAgg243
  z146 := Tryz.sizeOf243
  v146 := Tryz.zeroValue243
  g1 := by kernel_rfl
  i3 := by kernel_rfl
  i4 := by kernel_rfl
  i5 := by kernel_rfl
  i9 := by kernel_rfl
  i46 := by kernel_rfl
  i51 := by kernel_rfl
  i59 := by kernel_rfl
  i146 := by kernel_rfl
  m1 := by kernel_rfl
  s1_3 := fun w h => Go.Proofs.cell_of_shapedOpen_int (zero := #[.int .i64 0]) (t := 3) h (of_decide_eq_true (by kernel_rfl)) (by kernel_rfl) rfl (by kernel_rfl) (by kernel_rfl) Tryz.underlying3 }
open Go.RowKit Go.Lib in
theorem sh_strings_Cut_shaped (s sep : ByteArray) (w : World) (h : w.ShapedOpen Tryz.prog) (hs : s.size < 4294967281) :
    Calls Tryz.prog 151 #[.string s, .string sep] w fun e w' => e = .returned (.tuple #[.string ⟨(Lib.cut s.data.toList sep.data.toList).1.toArray⟩, .string ⟨(Lib.cut s.data.toList sep.data.toList).2.1.toArray⟩, .bool (Lib.cut s.data.toList sep.data.toList).2.2]) ∧ ∃ n, w' = w.drewN n := Any.strings_Cut_shaped sh_laysM145 s sep w h hs
end Go.Proofs.YtflpcdffmpfdpaaGreatDoor

namespace Go.Proofs.YtflpcdffmpfdpaaGreatDoor
open Go.RowKit

def plainC (c : UInt8) : Bool := decide (32 ≤ c.toNat) && decide (c.toNat ≤ 126) && !decide (c.toNat = 35)
def plainB (s : ByteArray) : Bool := s.data.toList.all plainC
/-- a byte stands in a text -/
def hasC (b : UInt8) (s : ByteArray) : Bool := s.data.toList.contains b
def recB (e : LogRecord) : Bool := inB e.command.size 1 160 && decide (e.reply.size ≤ 200) && plainB e.command && plainB e.reply && !hasC 64 e.command
theorem plainC_at {c : UInt8} : plainC c = true ↔ (32 ≤ (c.toNat : Int) ∧ (c.toNat : Int) ≤ 126) ∧ (c.toNat : Int) ≠ 35 := by simp [plainC]; omega
theorem byte_cast (c : UInt8) : IntKind.i64.wrap (c.toNat : Int) = c.toNat := by
  have := c.toNat_lt
  rw [IntKind.wrap_i64]; omega
theorem contains_at (s : ByteArray) (b : UInt8) (k : Nat) (hk : k < s.size) (h : s[k] = b) : hasC b s = true := by
  rw [hasC, List.contains_iff_mem]
  exact h ▸ List.mem_of_getElem (i := k) (h := by simpa using hk) rfl
theorem contains_not (s : ByteArray) (b : UInt8) (h : ∀ k (hk : k < s.size), s[k] ≠ b) : hasC b s = false := by
  rw [hasC, ← Bool.not_eq_true, List.contains_iff_mem]
  intro hm
  obtain ⟨k, hk, rfl⟩ := List.getElem_of_mem hm
  exact h k (by simpa using hk) rfl

set_option maxHeartbeats 400000 in
theorem isPlain_any (s : ByteArray) (w : World) (hs : s.size ≤ 9223372036854775807) :
    Calls Tryz.prog 91 #[.string s] w fun e w' => e = .returned (.bool (plainB s)) ∧ w = w' := by
  go_enter Tryz.func91, Tryz.ntmps91
  go_wp2
  go_loop [3] (fun i => ∃ k : Nat, k ≤ s.size ∧ i = .int .i64 k ∧ ∀ j (hj : j < s.size), j < k → plainC s[j] = true) (fun i => s.size - (intOf i).toNat)
  case atStart => exact ⟨0, Nat.zero_le _, rfl, fun j _ h => absurd h (by omega)⟩
  case round =>
    obtain ⟨k, hk, rfl, ha⟩ := hrel
    by_cases hlt : k < s.size
    · cases g : plainC s[k]
      · have hn : ¬ ((32 ≤ (s[k].toNat : Int) ∧ (s[k].toNat : Int) ≤ 126) ∧ (s[k].toNat : Int) ≠ 35) := fun h => by rw [plainC_at.2 h] at g; cases g
        have hr := Lib.hid (show plainB s = false by rw [plainB, bytes_not s k hlt g])
        clear g ha
        by_cases p1 : (s[k].toNat : Int) < 32
        · go_wp2
          all_goals first | (go_ret; exact ⟨ret_bool hr.out.symm, rfl⟩) | (exfalso; omega)
        · by_cases p2 : 126 < (s[k].toNat : Int)
          · go_wp2
            all_goals first | (go_ret; exact ⟨ret_bool hr.out.symm, rfl⟩) | (exfalso; omega)
          · have h35 : ((s[k].toNat : Int) == 35) = true := by simp; omega
            go_wp2
            all_goals first | (go_ret; exact ⟨ret_bool hr.out.symm, rfl⟩) | (exfalso; omega)
      · have hn := plainC_at.1 g
        have ha' := Lib.hid (show ∀ j (hj : j < s.size), j < k + 1 → plainC s[j] = true by
          intro j hj h
          by_cases hjk : j = k
          · subst hjk; exact g
          · exact ha j hj (by omega))
        clear g ha
        have p1 : ¬ (s[k].toNat : Int) < 32 := by omega
        have p2 : ¬ 126 < (s[k].toNat : Int) := by omega
        have h35 : ((s[k].toNat : Int) == 35) = false := by simp; omega
        go_wp2
        go_round
        case rel => exact ⟨k + 1, by omega, by go_num, ha'.out⟩
        case measure => simp [intOf]; omega
    · have hr := Lib.hid (show plainB s = true by rw [plainB, bytes_all s fun j hj => ha j hj (by omega)])
      clear ha
      go_wp2
      go_ret
      exact ⟨ret_bool hr.out.symm, rfl⟩

set_option maxHeartbeats 400000 in
theorem l27Plain_any (s : ByteArray) (m : Int) (w : World) (hs : s.size ≤ 9223372036854775807) :
    Calls Tryz.prog 79 #[.string s, .int .i64 m] w fun e w' => e = .returned (.bool (plainB s && decide ((s.size : Int) ≤ m))) ∧ w = w' := by
  go_enter Tryz.func79, Tryz.ntmps79
  go_wp2
  go_loop [5] (fun i => ∃ k : Nat, k ≤ s.size ∧ i = .int .i64 k ∧ ∀ j (hj : j < s.size), j < k → plainC s[j] = true) (fun i => s.size - (intOf i).toNat)
  case atStart => exact ⟨0, Nat.zero_le _, rfl, fun j _ h => absurd h (by omega)⟩
  case round =>
    obtain ⟨k, hk, rfl, ha⟩ := hrel
    by_cases hlt : k < s.size
    · have hwr := byte_cast s[k]
      cases g : plainC s[k]
      · have hn : ¬ ((32 ≤ (s[k].toNat : Int) ∧ (s[k].toNat : Int) ≤ 126) ∧ (s[k].toNat : Int) ≠ 35) := fun h => by rw [plainC_at.2 h] at g; cases g
        have hr := Lib.hid (show (plainB s && decide ((s.size : Int) ≤ m)) = false by rw [plainB, bytes_not s k hlt g]; rfl)
        clear g ha
        cases gi : inB (s[k].toNat : Int) 32 126
        · go_wp2_with (go_at_call 111; refine (l1In_any _ _ _ _).mono ?_; rintro e w' ⟨rfl, rfl⟩)
          go_ret
          exact ⟨ret_bool hr.out.symm, rfl⟩
        · have h35 : (s[k].toNat : Int) = 35 := by have := inB_true gi; omega
          have h35' : ((s[k].toNat : Int) == 35) = true := by simp [h35]
          go_wp2_with (go_at_call 111; refine (l1In_any _ _ _ _).mono ?_; rintro e w' ⟨rfl, rfl⟩)
          all_goals first | (go_ret; exact ⟨ret_bool hr.out.symm, rfl⟩) | (exfalso; omega)
      · have hn := plainC_at.1 g
        have ha' := Lib.hid (show ∀ j (hj : j < s.size), j < k + 1 → plainC s[j] = true by
          intro j hj h
          by_cases hjk : j = k
          · subst hjk; exact g
          · exact ha j hj (by omega))
        clear g ha
        have gi : inB (s[k].toNat : Int) 32 126 = true := by simp [inB]; omega
        have h35' : ((s[k].toNat : Int) == 35) = false := by simp; omega
        go_wp2_with (go_at_call 111; refine (l1In_any _ _ _ _).mono ?_; rintro e w' ⟨rfl, rfl⟩)
        go_round
        case rel => exact ⟨k + 1, by omega, by go_num, ha'.out⟩
        case measure => simp [intOf]; omega
    · have hr := Lib.hid (show plainB s = true by rw [plainB, bytes_all s fun j hj => ha j hj (by omega)])
      clear ha
      go_wp2
      go_ret
      exact ⟨ret_bool (by rw [hr.out]; rfl), rfl⟩

set_option maxHeartbeats 400000 in
theorem l1Stands_any (s : ByteArray) (b : UInt8) (w : World) (hs : s.size ≤ 9223372036854775807) :
    Calls Tryz.prog 80 #[.string s, .int .u8 (b.toNat : Int)] w fun e w' => e = .returned (.bool (hasC b s)) ∧ w = w' := by
  go_enter Tryz.func80, Tryz.ntmps80
  go_wp2
  go_loop [5] (fun i => ∃ k : Nat, k ≤ s.size ∧ i = .int .i64 k ∧ ∀ j (hj : j < s.size), j < k → s[j] ≠ b) (fun i => s.size - (intOf i).toNat)
  case atStart => exact ⟨0, Nat.zero_le _, rfl, fun j _ h => absurd h (by omega)⟩
  case round =>
    obtain ⟨k, hk, rfl, ha⟩ := hrel
    by_cases hlt : k < s.size
    · have e1 : ((s[k].toNat : Int) == (b.toNat : Int)) = (s[k] == b) := by
        rw [Bool.eq_iff_iff]; simp only [beq_iff_eq, Int.natCast_inj]; exact UInt8.toNat_inj
      cases g : (s[k] == b)
      · rw [g] at e1
        have ha' := Lib.hid (show ∀ j (hj : j < s.size), j < k + 1 → s[j] ≠ b by
          intro j hj h
          by_cases hjk : j = k
          · subst hjk; simpa using g
          · exact ha j hj (by omega))
        clear g ha
        go_wp2
        go_round
        case rel => exact ⟨k + 1, by omega, by go_num, ha'.out⟩
        case measure => simp [intOf]; omega
      · rw [g] at e1
        have hr := Lib.hid (show hasC b s = true from contains_at s b k hlt (by simpa using g))
        clear g ha
        go_wp2
        go_ret
        exact ⟨ret_bool hr.out.symm, rfl⟩
    · have hr := Lib.hid (show hasC b s = false from contains_not s b fun j hj => ha j hj (by omega))
      clear ha
      go_wp2
      go_ret
      exact ⟨ret_bool hr.out.symm, rfl⟩

set_option maxHeartbeats 1000000 in
theorem IsValidRecord_any (x : LogRecord) (w : World) (h : x.upto 9223372036854775807) : Calls Tryz.prog 48 #[.agg #[.string x.command, .string x.reply]] w fun e w' => e = .returned (.bool (recB x)) ∧ Below w.heap.size w w' := by
  unfold LogRecord.upto at h
  go_enter Tryz.func48, Tryz.ntmps48
  go_wp2_with (first | (go_at_call 70; refine (inside_any _ _ _ _).mono ?_; rintro e w' ⟨rfl, rfl⟩) | (go_at_call 91; refine (isPlain_any _ _ (by first | exact h.1 | exact h.2)).mono ?_; rintro e w' ⟨rfl, rfl⟩) | (go_at_call 92; refine (sh_strings_Contains_one _ 64 _).mono ?_; rw [← Lib.contains_iff_indexByte, show ∀ s : ByteArray, s.data.toList.contains 64 = hasC 64 s from fun _ => rfl]; rintro e w' ⟨rfl, rfl⟩))
  all_goals go_ret
  all_goals refine ⟨ret_bool ?_, (Below.refl _ _).alloc (Nat.le_refl _) _⟩
  all_goals (rw [Bool.eq_iff_iff]; simp [recB, *]; try omega)

set_option maxHeartbeats 1000000 in
theorem l27Good_any (x : LogRecord) (w : World) (h : x.upto 9223372036854775807) : Calls Tryz.prog 43 #[.agg #[.string x.command, .string x.reply]] w fun e w' => e = .returned (.bool (recB x)) ∧ Below w.heap.size w w' := by
  unfold LogRecord.upto at h
  by_cases h0 : x.command = ByteArray.empty
  · have hr := Lib.hid (show recB x = false by unfold recB; rw [h0]; rfl)
    go_enter Tryz.func43, Tryz.ntmps43
    go_wp2
    go_ret
    exact ⟨ret_bool hr.out.symm, (Below.refl _ _).alloc (Nat.le_refl _) _⟩
  · have h1 : 1 ≤ x.command.size := by
      rcases Nat.eq_zero_or_pos x.command.size with hz | hz
      · exact absurd (ByteArray.ext (Array.eq_empty_of_size_eq_zero hz)) h0
      · exact hz
    have hl : ¬ x.command.toList = [] := fun hn => h0 (ByteArray.ext (by rw [ByteArray.toList_eq] at hn; exact Array.toList_eq_nil_iff.1 hn))
    go_enter Tryz.func43, Tryz.ntmps43
    go_wp2_with (first | (go_at_call 79; refine (l27Plain_any _ _ _ (by first | exact h.1 | exact h.2)).mono ?_; rintro e w' ⟨rfl, rfl⟩) | (go_at_call 80; refine (l1Stands_any _ 64 _ (by first | exact h.1 | exact h.2)).mono ?_; rintro e w' ⟨rfl, rfl⟩))
    all_goals go_ret
    all_goals refine ⟨ret_bool ?_, (Below.refl _ _).alloc (Nat.le_refl _) _⟩
    all_goals (rw [Bool.eq_iff_iff]; simp [recB, inB, *]; try grind)

end Go.Proofs.YtflpcdffmpfdpaaGreatDoor

namespace Go.Proofs.YtflpcdffmpfdpaaGreatDoor
open Go.RowKit

def numT (n : Nat) : ByteArray := ⟨(Lib.decDigits n).toArray⟩
theorem numT_small {n : Nat} (h : n < 10) : numT n = ⟨#[UInt8.ofNat (48 + n)]⟩ := by
  unfold numT
  rw [Lib.decDigits, dif_pos h]
theorem numT_big {n : Nat} (h : ¬ n < 10) : numT n = numT (n / 10) ++ ⟨#[UInt8.ofNat (48 + n % 10)]⟩ := by
  unfold numT
  rw [Lib.decDigits, dif_neg h]
  apply ByteArray.ext
  simp
theorem numT_size (n d : Nat) (h : n < 10 ^ d) (hd : 1 ≤ d) : (numT n).size ≤ d := by
  unfold numT
  show (Lib.decDigits n).toArray.size ≤ d
  rw [List.size_toArray, Lib.decDigits_length]
  induction d generalizing n with
  | zero => omega
  | succ d ih =>
    by_cases h1 : n < 10
    · rw [Lib.nDigits_small h1]; omega
    · rw [Lib.nDigits_big h1]
      have hd1 : 1 ≤ d := by
        rcases Nat.eq_zero_or_pos d with rfl | hp
        · simp at h; omega
        · exact hp
      have := ih (n / 10) (Nat.div_lt_of_lt_mul (by rw [Nat.pow_succ] at h; omega)) hd1
      omega
theorem numT_pos (n : Nat) : 1 ≤ (numT n).size := by
  unfold numT
  show 1 ≤ (Lib.decDigits n).toArray.size
  rw [List.size_toArray, Lib.decDigits_length]
  exact Lib.nDigits_pos n

theorem dig_one : ∀ d : Fin 10, (⟨#[48, 49, 50, 51, 52, 53, 54, 55, 56, 57]⟩ : ByteArray).extract d.val (d.val + 1) = ⟨#[UInt8.ofNat (48 + d.val)]⟩ := by decide +kernel
theorem dig_at (n : Nat) (h : n < 10) : (⟨#[48, 49, 50, 51, 52, 53, 54, 55, 56, 57]⟩ : ByteArray).extract n (n + 1) = ⟨#[UInt8.ofNat (48 + n)]⟩ := dig_one ⟨n, h⟩
theorem l1Num_all (f : Nat) : ∀ (n : Nat) (z : Int) (w : World), z = (n : Int) → n ≤ f → n ≤ 1000000000 →
    Calls Tryz.prog 75 #[.int .i64 z] w fun e w' => e = .returned (.string (numT n)) ∧ Quiet w w' := by
  induction f with
  | zero =>
    rintro n z w rfl hn _
    obtain rfl : n = 0 := by omega
    have HD := Lib.hid (numT_small (n := 0) (by decide))
    go_enter Tryz.func75, Tryz.ntmps75
    go_wp2_with fail
    go_ret
    exact ⟨by rw [HD.out]; rfl, Quiet.refl _⟩
  | succ f ih =>
    rintro n z w rfl hn hb
    by_cases h : n < 10
    · have HD := Lib.hid ((numT_small h).trans (dig_at n h).symm)
      go_enter Tryz.func75, Tryz.ntmps75
      go_wp2_with fail
      go_ret
      exact ⟨by rw [HD.out]; rfl, Quiet.refl _⟩
    · have HD := Lib.hid (numT_big h)
      have HE := Lib.hid (dig_at (n % 10) (Nat.mod_lt _ (by decide)))
      have IH := Lib.hid ih
      have hm : n % 10 < 10 := Nat.mod_lt _ (by decide)
      have hq : n / 10 ≤ f := by omega
      have hq2 : n / 10 ≤ 1000000000 := by omega
      have hz : (n : Int) / 10 = ((n / 10 : Nat) : Int) := by omega
      have Hz := Lib.hid hz
      clear hz
      clear ih
      go_enter Tryz.func75, Tryz.ntmps75
      go_wp2_with fail
      have hA1 : (numT (n / 10)).size ≤ 9 := numT_size _ 9 (by omega) (by decide)
      have hD1 : ((⟨#[48, 49, 50, 51, 52, 53, 54, 55, 56, 57]⟩ : ByteArray).extract (n % 10) (n % 10 + 1)).size ≤ 1 := by rw [HE.out]; exact Nat.le_refl _
      have hS1 : (numT (n / 10)).size + ((⟨#[48, 49, 50, 51, 52, 53, 54, 55, 56, 57]⟩ : ByteArray).extract (n % 10) (n % 10 + 1)).size ≤ 9223372036854775807 := by omega
      have t1 : ((n : Int) % 10).toNat = n % 10 := by omega
      have t2 : ((n : Int) % 10 + 1).toNat = n % 10 + 1 := by omega
      have t3 : (0 : Int) ≤ (n : Int) % 10 := by omega
      have t4 : (n : Int) % 10 ≤ (n : Int) % 10 + 1 := by omega
      have t5 : (n : Int) % 10 + 1 ≤ 10 := by omega
      have t6 : (0 : Int) ≤ (n : Int) % 10 + 1 := by omega
      have t0 : (n : Int).tmod 10 = (n : Int) % 10 := Int.tmod_eq_emod_of_nonneg (by omega)
      have w1 : IntKind.i64.wrap ((n : Int) / 10) = (n : Int) / 10 := IntWalk.i64_in _ (by omega)
      have w2 : IntKind.i64.wrap ((n : Int) % 10) = (n : Int) % 10 := IntWalk.i64_in _ (by omega)
      have w3 : IntKind.i64.wrap ((n : Int) % 10 + 1) = (n : Int) % 10 + 1 := IntWalk.i64_in _ (by omega)
      go_quiet ((go_at_call 75; exact quiet_rightG (IH.out (n / 10) _ _ Hz.out hq hq2)))
      go_wp2_with fail
      go_ret
      exact ⟨by rw [HD.out, ← HE.out]; rfl, Quiet.mk _ _⟩

theorem l1Num_any (n : Nat) (w : World) (hn : n ≤ 1000000000) : Calls Tryz.prog 75 #[.int .i64 (n : Int)] w fun e w' => e = .returned (.string (numT n)) ∧ Quiet w w' := l1Num_all n n n w rfl (Nat.le_refl _) hn
theorem digits_in (n : Nat) : ∀ c ∈ Lib.decDigits n, 48 ≤ c.toNat ∧ c.toNat ≤ 57 := by
  induction n using Nat.strongRecOn with
  | _ n ih =>
    have hd : ∀ d, d < 10 → (UInt8.ofNat (48 + d)).toNat = 48 + d := fun d h => by rw [UInt8.toNat_ofNat']; omega
    rw [Lib.decDigits]
    split
    · rename_i h
      intro c hc
      obtain rfl := List.mem_singleton.1 hc
      rw [hd n h]; omega
    · rename_i h
      intro c hc
      rcases List.mem_append.1 hc with hc | hc
      · exact ih (n / 10) (by omega) c hc
      · obtain rfl := List.mem_singleton.1 hc
        have := Nat.mod_lt n (show 0 < 10 by decide)
        rw [hd _ this]; omega

end Go.Proofs.YtflpcdffmpfdpaaGreatDoor

namespace Go.Proofs.YtflpcdffmpfdpaaGreatDoor
open Go.RowKit

def sumC (l : List UInt8) : Nat := l.foldl (fun h c => (41 * h + c.toNat + 1) % 999979) 7
def sumT (s : ByteArray) : Nat := sumC s.data.toList
def sealT (s : ByteArray) : ByteArray := s ++ ⟨#[35]⟩ ++ numT (sumT s)
def bodyT (k : Nat) (e : LogRecord) : ByteArray := numT k ++ ⟨#[32]⟩ ++ e.command ++ ⟨#[64]⟩ ++ e.reply
def lineT (k : Nat) (e : LogRecord) : ByteArray := sealT (bodyT k e) ++ ⟨#[10]⟩
theorem sumC_lt (l : List UInt8) : sumC l < 999979 := by
  unfold sumC
  have : ∀ (l : List UInt8) (h : Nat), h < 999979 → l.foldl (fun h c => (41 * h + c.toNat + 1) % 999979) h < 999979 := by
    intro l
    induction l with
    | nil => exact fun h hh => hh
    | cons c l ih => exact fun h _ => ih _ (Nat.mod_lt _ (by decide))
  exact this l 7 (by decide)
theorem sumC_snoc (l : List UInt8) (c : UInt8) : sumC (l ++ [c]) = (41 * sumC l + c.toNat + 1) % 999979 := by
  unfold sumC
  rw [List.foldl_append]; rfl
theorem take_byte (s : ByteArray) (k : Nat) (h : k < s.size) : s.data.toList.take (k + 1) = s.data.toList.take k ++ [s[k]] := by
  rw [List.take_succ_eq_append_getElem (by simpa using h)]; rfl
/-- The variables of Go's library that these functions read. -/
structure Gl (w : World) : Prop where
  tab : Lib.TabIs Tryz.prog w "internal/strconv.uint64pow10" .u64 Lib.pow10Tab
  ml : ∃ m, w.cell? ⟨0, 0, none⟩ = some (.int .i64 m)
theorem gPow : Tryz.prog.globalNamed "internal/strconv.uint64pow10" = some 1 := by kernel_rfl
theorem Gl.next {w w' : World} (h : Gl w) (hb : Below w.heap.size w w') : Gl w' := by
  obtain ⟨m, hm⟩ := h.ml
  refine ⟨Joins.tab_stays gPow h.tab hb (Nat.le_refl _), m, ?_⟩
  rw [(bcell hb).1 0 0 (World.block_lt_of_cell? w _ hm)]
  exact hm
theorem below_grow (w : World) (q : Nat) (os : Array Obj) : Below w.heap.size w (Sort.grow (w.drewN q) os) :=
  ⟨rfl, rfl, rfl, by simp [Sort.grow], fun i hi => by
    show ((w.drewN q).heap ++ os)[i]? = _
    rw [Array.getElem?_append_left (by show i < w.heap.size; omega)]
    rfl⟩
theorem Itoa_any (n : Nat) (w : World) (hn : n ≤ 1000000000) (hg : Gl w) :
    Calls Tryz.prog 74 #[.int .i64 (n : Int)] w fun e w' => e = .returned (.string (numT n)) ∧ Below w.heap.size w w' :=
  (sh_strconv_Itoa n (by omega) (by omega) w hg.tab).mono fun e w' ⟨he, k, os, hw⟩ => ⟨by rw [he, Lib.itoa_nonneg]; rfl, by rw [hw]; exact below_grow _ _ _⟩

set_option maxHeartbeats 400000 in
theorem checksum_any (s : ByteArray) (w : World) (hs : s.size ≤ 9223372036854775807) :
    Calls Tryz.prog 185 #[.string s] w fun e w' => e = .returned (.int .i64 (sumT s : Nat)) ∧ w = w' := by
  go_enter Tryz.func185, Tryz.ntmps185
  go_wp2
  go_loop [3, 4] (fun h i => ∃ k : Nat, k ≤ s.size ∧ i = .int .i64 k ∧ h = .int .i64 (sumC (s.data.toList.take k) : Nat)) (fun _ i => s.size - (intOf i).toNat)
  case atStart => exact ⟨0, Nat.zero_le _, rfl, rfl⟩
  case round =>
    obtain ⟨k, hk, rfl, rfl⟩ := hrel
    by_cases hlt : k < s.size
    · have hb := byte_cast s[k]
      have hc := s[k].toNat_lt
      have hl := sumC_lt (s.data.toList.take k)
      have HN := Lib.hid (show sumC (s.data.toList.take (k + 1)) = (41 * sumC (s.data.toList.take k) + s[k].toNat + 1) % 999979 by rw [take_byte s k hlt, sumC_snoc])
      generalize sumC (s.data.toList.take k) = h0 at *
      go_wp2
      go_round
      case rel => exact ⟨k + 1, by omega, by go_num, by rw [HN.out]; first | done | rfl | go_num⟩
      case measure => simp [intOf]; omega
    · have HR := Lib.hid (show sumT s = sumC (s.data.toList.take k) by rw [sumT, List.take_of_length_le (by simp; omega)])
      go_wp2
      go_ret
      exact ⟨ret_int (by rw [HR.out]), rfl⟩

set_option maxHeartbeats 400000 in
theorem l1Sum_any (s : ByteArray) (w : World) (hs : s.size ≤ 9223372036854775807) :
    Calls Tryz.prog 169 #[.string s] w fun e w' => e = .returned (.int .i64 (sumT s : Nat)) ∧ w = w' := by
  go_enter Tryz.func169, Tryz.ntmps169
  go_wp2
  go_loop [3, 4] (fun h i => ∃ k : Nat, k ≤ s.size ∧ i = .int .i64 k ∧ h = .int .i64 (sumC (s.data.toList.take k) : Nat)) (fun _ i => s.size - (intOf i).toNat)
  case atStart => exact ⟨0, Nat.zero_le _, rfl, rfl⟩
  case round =>
    obtain ⟨k, hk, rfl, rfl⟩ := hrel
    by_cases hlt : k < s.size
    · have hb := byte_cast s[k]
      have hc := s[k].toNat_lt
      have hl := sumC_lt (s.data.toList.take k)
      have HN := Lib.hid (show sumC (s.data.toList.take (k + 1)) = (41 * sumC (s.data.toList.take k) + s[k].toNat + 1) % 999979 by rw [take_byte s k hlt, sumC_snoc])
      generalize sumC (s.data.toList.take k) = h0 at *
      go_wp2
      go_round
      case rel => exact ⟨k + 1, by omega, by go_num, by rw [HN.out]; first | done | rfl | go_num⟩
      case measure => simp [intOf]; omega
    · have HR := Lib.hid (show sumT s = sumC (s.data.toList.take k) by rw [sumT, List.take_of_length_le (by simp; omega)])
      go_wp2
      go_ret
      exact ⟨ret_int (by rw [HR.out]), rfl⟩

theorem sumT_num (s : ByteArray) : (numT (sumT s)).size ≤ 6 := numT_size _ 6 (Nat.lt_of_lt_of_le (sumC_lt _) (by decide)) (by decide)
theorem sealT_size (s : ByteArray) : (sealT s).size ≤ s.size + 7 := by
  have := sumT_num s
  have h1 : (⟨#[35]⟩ : ByteArray).size = 1 := rfl
  unfold sealT
  rw [ByteArray.size_append, ByteArray.size_append]
  omega
theorem hasC_append (b : UInt8) (s t : ByteArray) : hasC b (s ++ t) = (hasC b s || hasC b t) := by
  unfold hasC
  rw [Bool.eq_iff_iff]
  simp [ByteArray.data_append]
theorem hasC_num (b : UInt8) (n : Nat) (h : b.toNat < 48 ∨ 57 < b.toNat) : hasC b (numT n) = false := by
  unfold hasC numT
  rw [← Bool.not_eq_true, List.contains_iff_mem]
  intro hm
  have := digits_in n b (by simpa using hm)
  omega
theorem plain_no {s : ByteArray} (h : plainB s = true) (b : UInt8) (hb : plainC b = false) : hasC b s = false := by
  unfold hasC
  rw [← Bool.not_eq_true, List.contains_iff_mem]
  intro hm
  unfold plainB at h
  have := List.all_eq_true.1 h b hm
  rw [hb] at this; cases this
theorem recB_facts {e : LogRecord} (h : recB e = true) : (1 ≤ e.command.size ∧ e.command.size ≤ 160) ∧ e.reply.size ≤ 200 ∧ plainB e.command = true ∧ plainB e.reply = true ∧ hasC 64 e.command = false := by
  unfold recB at h
  simp only [Bool.and_eq_true, decide_eq_true_eq, Bool.not_eq_true'] at h
  have := inB_true h.1.1.1.1
  exact ⟨by omega, h.1.1.1.2, h.1.1.2, h.1.2, h.2⟩
theorem body_no {k : Nat} {e : LogRecord} (h : recB e = true) : hasC 35 (bodyT k e) = false := by
  obtain ⟨_, _, h1, h2, _⟩ := recB_facts h
  unfold bodyT
  simp only [hasC_append, hasC_num 35 k (by decide), plain_no h1 35 (by decide), plain_no h2 35 (by decide)]
  rfl
theorem body_size {k : Nat} {e : LogRecord} (h : recB e = true) (hk : k < 100) : (bodyT k e).size ≤ 364 := by
  obtain ⟨h1, h2, _⟩ := recB_facts h
  have h3 := numT_size k 2 (by omega) (by decide)
  have e1 : (⟨#[32]⟩ : ByteArray).size = 1 := rfl
  have e2 : (⟨#[64]⟩ : ByteArray).size = 1 := rfl
  unfold bodyT
  simp only [ByteArray.size_append]
  omega

theorem l1Seal_any (s : ByteArray) (w : World) (hs : s.size ≤ 1000000) :
    Calls Tryz.prog 129 #[.string s] w fun e w' => e = .returned (.string (sealT s)) ∧ Quiet w w' := by
  have h6 := sumT_num s
  have hl : sumT s ≤ 1000000000 := Nat.le_trans (Nat.le_of_lt (sumC_lt _)) (by decide)
  have HS := Lib.hid (show sealT s = s ++ ⟨#[35]⟩ ++ numT (sumT s) from rfl)
  go_enter Tryz.func129, Tryz.ntmps129
  go_wp2_with (go_at_call 169; refine (l1Sum_any _ _ (by omega)).mono ?_; rintro e w' ⟨rfl, rfl⟩)
  refine (l1Num_any _ _ hl).mono ?_
  rintro e w1 ⟨rfl, q1⟩
  go_wp2_with fail
  go_ret
  exact ⟨by rw [HS.out]; rfl, q1⟩

theorem AppendChecksum_any (s : ByteArray) (w : World) (hs : s.size ≤ 3000) (hno : hasC 35 s = false) (hg : Gl w) :
    Calls Tryz.prog 142 #[.string s] w fun e w' => e = .returned (.tuple #[.string (sealT s), .bool true]) ∧ Below w.heap.size w w' := by
  have h6 := sumT_num s
  have hl : sumT s ≤ 1000000000 := Nat.le_trans (Nat.le_of_lt (sumC_lt _)) (by decide)
  have HS := Lib.hid (show sealT s = s ++ ⟨#[35]⟩ ++ numT (sumT s) from rfl)
  have HN := Lib.hid hno
  clear hno
  go_enter Tryz.func142, Tryz.ntmps142
  go_wp2_with fail
  refine (sh_strings_Contains_one _ 35 _).mono ?_
  rw [← Lib.contains_iff_indexByte, show s.data.toList.contains 35 = false from HN.out]
  rintro e w' ⟨rfl, rfl⟩
  go_wp2_with (go_at_call 185; refine (checksum_any _ _ (by omega)).mono ?_; rintro e w' ⟨rfl, rfl⟩)
  refine (Itoa_any _ _ hl hg).mono ?_
  rintro e w1 ⟨rfl, b1⟩
  go_wp2_with fail
  go_ret2
  exact ⟨by rw [HS.out]; rfl, b1⟩

end Go.Proofs.YtflpcdffmpfdpaaGreatDoor
