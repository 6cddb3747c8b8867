/- Joined texts of this proof: ShelfKZDP, TxtI, Cut. -/
import Derived.Shelf.Strings.Builder1
import Derived.Shelf.Strings.Builder2
import Derived.Shelf.Strings.OnBuilder
import Derived.Shelf.Small.Wraps
import Derived.Shelf.Strings.BuilderF
import Derived.Shelf.Strings.BuilderK
import Derived.Shelf.Utf8.RuneCount
import Derived.Shelf.Strings.Builder2Cap
import Derived.Shelf.Strconv.Atoi
import Derived.Shelf.Strconv.Itoa0
import Derived.Shelf.Strconv.Itoa1
import Derived.Shelf.LaysM
import Derived.Shelf.Strconv.Itoa2
import Derived.Shelf.Strconv.Itoa3
import Derived.Shelf.Strconv.AtoiErrFast
import Derived.Shelf.Strconv.ParseIntEmpty
import Derived.Shelf.Strconv.AtoiFail
import Derived.Shelf.Strconv.Clone
import Derived.Shelf.Strconv.SyntaxError
import Derived.Shelf.LaysC
import Derived.Shelf.Strconv.ToError
import Derived.Shelf.Strconv.AtoiErr
import Derived.Shelf.Strconv.ErrVar
import Derived.Shelf.Strconv.Lower
import Derived.Shelf.Strconv.ParseUint10
import Derived.Shelf.Strconv.ParseUint10Empty
import Derived.Shelf.Strconv.ParseUint10Any
import Derived.Shelf.Strconv.ParseInt10
import Derived.Shelf.Strconv.AtoiLong
import Derived.Shelf.Strconv.AtoiInnerAll
import Derived.Shelf.Strconv.RangeError
import Derived.Shelf.Strconv.ToErrorRange
import Derived.Shelf.Strconv.AtoiAll
import Derived.Shelf.Strconv.ErrVarAll
import Derived.Shelf.Strconv.ParseUintEmpty
import Derived.Shelf.Strconv.ParseUint10b64
import Derived.Shelf.Strconv.ParseUint10b32
import Derived.Shelf.Strconv.ParseUint10b16
import Derived.Shelf.Strconv.ParseUint10b8
import Derived.Shelf.Strconv.ParseUint10At
import Derived.Shelf.Strings.Search1
import Derived.Shelf.Strings.Search2
import Derived.Shelf.Strings.Search3
import Derived.Shelf.Strings.Cut
import Derived.Shelf.Strings.Count
import Derived.Shelf.Strings.Shaped
import Derived.Shelf.Strings.Split
import Derived.Shelf.Strings.SplitShaped
import Derived.Shelf.Unicode.Decode
import Derived.Shelf.Strings.RuneCount
import Derived.Shelf.Strings.Explode
import Derived.Shelf.Unicode.DecodeSlow
import Derived.Shelf.Unicode.DecodeAny
import Derived.Shelf.Strings.BuilderCap
import Derived.Ground.Names2Prog
import Derived.Shelf.Slices.SearchI
import Derived.Lib.AtoiTie
import Derived.Lib.ItoaMem
import Derived.Test.YtflpcdffmpfdpaaGreatDoorChecked
import Derived.Test.YtflpcdffmpfdpaaGreatDoorP01
import Derived.Test.YtflpcdffmpfdpaaGreatDoorP14
namespace Go.Proofs.YtflpcdffmpfdpaaGreatDoor
open Go.Shelf
def sh_lays156_ren : Go.Shelf.Ren := ⟨fun | 156 => 175 | 165 => 213 | 166 => 214 | 169 => 215 | 240 => 235 | 241 => 236 | 276 => 248 | 277 => 249 | n => n, fun | 31 => 42 | 9 => 9 | 3 => 3 | 4 => 4 | 0 => 0 | 20 => 20 | 72 => 231 | 76 => 170 | 70 => 229 | 37 => 47 | 75 => 169 | 127 => 250 | 164 => 264 | 5 => 5 | 80 => 233 | n => n, fun | n => n⟩
theorem sh_lays156 : Go.Proofs.Lays.n156 Tryz.prog sh_lays156_ren := {
  mixed := by kernel_rfl
  f156 := Tryz.func175.trans (congrArg some (by kernel_rfl))
  f165 := Tryz.func213.trans (congrArg some (by kernel_rfl))
  f166 := Tryz.func214.trans (congrArg some (by kernel_rfl))
  f169 := Tryz.func215.trans (congrArg some (by kernel_rfl))
  f240 := Tryz.func235.trans (congrArg some (by kernel_rfl))
  f241 := Tryz.func236.trans (congrArg some (by kernel_rfl))
  f276 := Tryz.func248.trans (congrArg some (by kernel_rfl))
  f277 := Tryz.func249.trans (congrArg some (by kernel_rfl))
  t0 := Tryz.underlying0
  a0 := Tryz.isAgg0
  z0 := Tryz.sizeOf0
  v0 := Tryz.zeroValue0
  t3 := Tryz.underlying3
  a3 := Tryz.isAgg3
  z3 := Tryz.sizeOf3
  v3 := Tryz.zeroValue3
  t4 := Tryz.underlying4
  a4 := Tryz.isAgg4
  z4 := Tryz.sizeOf4
  v4 := Tryz.zeroValue4
  t9 := Tryz.underlying9
  a9 := Tryz.isAgg9
  z9 := Tryz.sizeOf9
  v9 := Tryz.zeroValue9
  t20 := Tryz.underlying20
  a20 := Tryz.isAgg20
  z20 := Tryz.sizeOf20
  v20 := Tryz.zeroValue20
  t31 := Tryz.underlying42
  a31 := Tryz.isAgg42
  z31 := Tryz.sizeOf42
  v31 := Tryz.zeroValue42
  t37 := Tryz.underlying47
  a37 := Tryz.isAgg47
  z37 := Tryz.sizeOf47
  v37 := Tryz.zeroValue47
  t70 := Tryz.underlying229
  a70 := Tryz.isAgg229
  z70 := Tryz.sizeOf229
  v70 := Tryz.zeroValue229
  t72 := Tryz.underlying231
  a72 := Tryz.isAgg231
  z72 := Tryz.sizeOf231
  v72 := Tryz.zeroValue231
  t75 := Tryz.underlying169
  a75 := Tryz.isAgg169
  z75 := Tryz.sizeOf169
  v75 := Tryz.zeroValue169
  t76 := Tryz.underlying170
  a76 := Tryz.isAgg170
  z76 := Tryz.sizeOf170
  v76 := Tryz.zeroValue170
  t127 := Tryz.underlying250
  a127 := Tryz.isAgg250
  z127 := Tryz.sizeOf250
  v127 := Tryz.zeroValue250
  t164 := Tryz.underlying264
  a164 := Tryz.isAgg264
  z164 := Tryz.sizeOf264
  v164 := Tryz.zeroValue264 }
theorem sh_Builder_Extra_156 : Builder.Extra Tryz.prog sh_lays156_ren := {
  sizeBuilder := by kernel_rfl
  liesBuilder := by kernel_rfl
  t5 := Tryz.underlying5
  a5 := Tryz.isAgg5
  z5 := Tryz.sizeOf5
  v5 := Tryz.zeroValue5
  infoByte := by kernel_rfl
  cellsByte := by kernel_rfl
  sizeByte := by kernel_rfl
  neB5 := by decide }
open Go.RowKit in
theorem sh_strings_Join_none (a : Option Addr) (c : Nat) (sep : ByteArray) (w : World) :
    Calls Tryz.prog 175 #[.slice a 0 c, .string sep] w fun e w' => e = .returned (.string ⟨#[]⟩) ∧ w' = w := Any.strings_Join_none sh_lays156 sh_Builder_Extra_156 a c sep w
open Go.RowKit in
theorem sh_strings_Join (bk o c : Nat) (xs : List ByteArray) (sep : ByteArray) (w : World) (hcells : ∀ (j : Nat) x, xs[j]? = some x → w.cell? ⟨bk, o + j, none⟩ = some (.string x)) (hbk : bk < w.heap.size) (hN : xs.length ≤ 140737488355328) (hcap : xs.length ≤ c) (hlen : (Lib.join (xs.map (·.data.toList)) sep.data.toList).length ≤ 140737488355328) :
    Calls Tryz.prog 175 #[.slice (some ⟨bk, o, none⟩) xs.length c, .string sep] w fun e w' => e = .returned (.string ⟨(Lib.join (xs.map (·.data.toList)) sep.data.toList).toArray⟩) ∧ Below w.heap.size w w' := Any.strings_Join sh_lays156 sh_Builder_Extra_156 bk o c xs sep w hcells hbk hN hcap hlen
def sh_laysC172_ren : Go.Shelf.Ren := ⟨fun | 172 => 133 | 244 => 172 | 245 => 173 | 247 => 208 | 279 => 209 | 280 => 210 | 281 => 211 | 282 => 212 | 287 => 232 | 316 => 233 | 171 => 74 | 205 => 234 | 321 => 246 | 322 => 247 | 243 => 116 | 246 => 156 | 283 => 194 | 284 => 195 | 285 => 196 | 286 => 197 | 129 => 224 | 317 => 223 | 318 => 225 | 319 => 226 | 320 => 227 | 337 => 244 | 338 => 245 | n => n, fun | 9 => 9 | 3 => 3 | 75 => 169 | 76 => 170 | 4 => 4 | 5 => 5 | 167 => 223 | 37 => 47 | 0 => 0 | 85 => 224 | 2 => 2 | 168 => 226 | 53 => 86 | 175 => 245 | 46 => 179 | 210 => 248 | 127 => 250 | 145 => 263 | 143 => 261 | 21 => 21 | 171 => 214 | 173 => 217 | 212 => 237 | 51 => 238 | 20 => 20 | 213 => 239 | 232 => 268 | 233 => 269 | 80 => 233 | n => n, fun | 15 => 2 | 16 => 3 | 17 => 1 | 18 => 6 | 19 => 7 | n => n⟩
theorem sh_laysC172 : Go.Proofs.LaysC.n172 Tryz.prog sh_laysC172_ren := {
  mixed := by kernel_rfl
  f129 := Tryz.func224.trans (congrArg some (by kernel_rfl))
  f171 := Tryz.func74.trans (congrArg some (by kernel_rfl))
  f172 := Tryz.func133.trans (congrArg some (by kernel_rfl))
  f205 := Tryz.func234.trans (congrArg some (by kernel_rfl))
  f243 := Tryz.func116.trans (congrArg some (by kernel_rfl))
  f244 := Tryz.func172.trans (congrArg some (by kernel_rfl))
  f245 := Tryz.func173.trans (congrArg some (by kernel_rfl))
  f246 := Tryz.func156.trans (congrArg some (by kernel_rfl))
  f247 := Tryz.func208.trans (congrArg some (by kernel_rfl))
  f279 := Tryz.func209.trans (congrArg some (by kernel_rfl))
  f280 := Tryz.func210.trans (congrArg some (by kernel_rfl))
  f281 := Tryz.func211.trans (congrArg some (by kernel_rfl))
  f282 := Tryz.func212.trans (congrArg some (by kernel_rfl))
  f283 := Tryz.func194.trans (congrArg some (by kernel_rfl))
  f284 := Tryz.func195.trans (congrArg some (by kernel_rfl))
  f285 := Tryz.func196.trans (congrArg some (by kernel_rfl))
  f286 := Tryz.func197.trans (congrArg some (by kernel_rfl))
  f287 := Tryz.func232.trans (congrArg some (by kernel_rfl))
  f316 := Tryz.func233.trans (congrArg some (by kernel_rfl))
  f317 := Tryz.func223.trans (congrArg some (by kernel_rfl))
  f318 := Tryz.func225.trans (congrArg some (by kernel_rfl))
  f319 := Tryz.func226.trans (congrArg some (by kernel_rfl))
  f320 := Tryz.func227.trans (congrArg some (by kernel_rfl))
  f321 := Tryz.func246.trans (congrArg some (by kernel_rfl))
  f322 := Tryz.func247.trans (congrArg some (by kernel_rfl))
  f337 := Tryz.func244.trans (congrArg some (by kernel_rfl))
  f338 := Tryz.func245.trans (congrArg some (by kernel_rfl))
  t0 := Tryz.underlying0
  a0 := Tryz.isAgg0
  z0 := Tryz.sizeOf0
  v0 := Tryz.zeroValue0
  t2 := Tryz.underlying2
  a2 := Tryz.isAgg2
  z2 := Tryz.sizeOf2
  v2 := Tryz.zeroValue2
  t3 := Tryz.underlying3
  a3 := Tryz.isAgg3
  z3 := Tryz.sizeOf3
  v3 := Tryz.zeroValue3
  t4 := Tryz.underlying4
  a4 := Tryz.isAgg4
  z4 := Tryz.sizeOf4
  v4 := Tryz.zeroValue4
  t5 := Tryz.underlying5
  a5 := Tryz.isAgg5
  z5 := Tryz.sizeOf5
  v5 := Tryz.zeroValue5
  t9 := Tryz.underlying9
  a9 := Tryz.isAgg9
  z9 := Tryz.sizeOf9
  v9 := Tryz.zeroValue9
  t20 := Tryz.underlying20
  a20 := Tryz.isAgg20
  z20 := Tryz.sizeOf20
  v20 := Tryz.zeroValue20
  t21 := Tryz.underlying21
  a21 := Tryz.isAgg21
  z21 := Tryz.sizeOf21
  v21 := Tryz.zeroValue21
  t37 := Tryz.underlying47
  a37 := Tryz.isAgg47
  z37 := Tryz.sizeOf47
  v37 := Tryz.zeroValue47
  t46 := Tryz.underlying179
  a46 := Tryz.isAgg179
  z46 := Tryz.sizeOf179
  v46 := Tryz.zeroValue179
  t51 := Tryz.underlying238
  a51 := Tryz.isAgg238
  z51 := Tryz.sizeOf238
  v51 := Tryz.zeroValue238
  t53 := Tryz.underlying86
  a53 := Tryz.isAgg86
  z53 := Tryz.sizeOf86
  v53 := Tryz.zeroValue86
  t75 := Tryz.underlying169
  a75 := Tryz.isAgg169
  z75 := Tryz.sizeOf169
  v75 := Tryz.zeroValue169
  t76 := Tryz.underlying170
  a76 := Tryz.isAgg170
  z76 := Tryz.sizeOf170
  v76 := Tryz.zeroValue170
  t85 := Tryz.underlying224
  a85 := Tryz.isAgg224
  z85 := Tryz.sizeOf224
  v85 := Tryz.zeroValue224
  t127 := Tryz.underlying250
  a127 := Tryz.isAgg250
  z127 := Tryz.sizeOf250
  v127 := Tryz.zeroValue250
  t143 := Tryz.underlying261
  a143 := Tryz.isAgg261
  z143 := Tryz.sizeOf261
  v143 := Tryz.zeroValue261
  t145 := Tryz.underlying263
  a145 := Tryz.isAgg263
  z145 := Tryz.sizeOf263
  v145 := Tryz.zeroValue263
  t167 := Tryz.underlying223
  a167 := Tryz.isAgg223
  z167 := Tryz.sizeOf223
  v167 := Tryz.zeroValue223
  t168 := Tryz.underlying226
  a168 := Tryz.isAgg226
  z168 := Tryz.sizeOf226
  v168 := Tryz.zeroValue226
  t171 := Tryz.underlying214
  a171 := Tryz.isAgg214
  z171 := Tryz.sizeOf214
  v171 := Tryz.zeroValue214
  t173 := Tryz.underlying217
  a173 := Tryz.isAgg217
  z173 := Tryz.sizeOf217
  v173 := Tryz.zeroValue217
  t175 := Tryz.underlying245
  a175 := Tryz.isAgg245
  z175 := Tryz.sizeOf245
  v175 := Tryz.zeroValue245
  t210 := Tryz.underlying248
  a210 := Tryz.isAgg248
  z210 := Tryz.sizeOf248
  v210 := Tryz.zeroValue248
  t212 := Tryz.underlying237
  a212 := Tryz.isAgg237
  z212 := Tryz.sizeOf237
  v212 := Tryz.zeroValue237
  t213 := Tryz.underlying239
  a213 := Tryz.isAgg239
  z213 := Tryz.sizeOf239
  t232 := Tryz.underlying268
  a232 := Tryz.isAgg268
  z232 := Tryz.sizeOf268
  v232 := Tryz.zeroValue268
  t233 := Tryz.underlying269
  a233 := Tryz.isAgg269
  z233 := Tryz.sizeOf269
  v233 := Tryz.zeroValue269
  g15 := by kernel_rfl
  g16 := by kernel_rfl
  g17 := by kernel_rfl
  g18 := by kernel_rfl
  g19 := by kernel_rfl
  t80 := Tryz.underlying233
  a80 := Tryz.isAgg233
  z80 := Tryz.sizeOf233
  v80 := Tryz.zeroValue233
  i0 := by kernel_rfl
  i2 := by kernel_rfl
  i3 := by kernel_rfl
  i4 := by kernel_rfl
  i5 := by kernel_rfl
  i9 := by kernel_rfl
  i20 := by kernel_rfl
  i21 := by kernel_rfl
  i37 := by kernel_rfl
  i46 := by kernel_rfl
  i51 := by kernel_rfl
  i53 := by kernel_rfl
  i75 := by kernel_rfl
  i76 := by kernel_rfl
  i80 := by kernel_rfl
  i85 := by kernel_rfl
  i127 := by kernel_rfl
  i143 := by kernel_rfl
  i145 := by kernel_rfl
  i167 := by kernel_rfl
  i168 := by kernel_rfl
  i171 := by kernel_rfl
  i173 := by kernel_rfl
  i175 := by kernel_rfl
  i210 := by kernel_rfl
  i212 := by kernel_rfl
  i232 := by kernel_rfl
  i233 := by kernel_rfl
  m15 := by kernel_rfl
  m16 := by kernel_rfl
  m17 := by kernel_rfl
  m18 := by kernel_rfl
  m19 := by kernel_rfl
  c0 := by kernel_rfl
  c2 := by kernel_rfl
  c3 := by kernel_rfl
  c4 := by kernel_rfl
  c5 := by kernel_rfl
  c9 := by kernel_rfl
  c20 := by kernel_rfl
  c21 := by kernel_rfl
  c37 := by kernel_rfl
  c46 := by kernel_rfl
  c51 := by kernel_rfl
  c53 := by kernel_rfl
  c75 := by kernel_rfl
  c76 := by kernel_rfl
  c80 := by kernel_rfl
  c85 := by kernel_rfl
  c127 := by kernel_rfl
  c143 := by kernel_rfl
  c145 := by kernel_rfl
  c167 := by kernel_rfl
  c168 := by kernel_rfl
  c171 := by kernel_rfl
  c173 := by kernel_rfl
  c175 := by kernel_rfl
  c210 := by kernel_rfl
  c212 := by kernel_rfl
  c213 := by kernel_rfl
  c232 := by kernel_rfl
  c233 := by kernel_rfl }
open Go.RowKit in
theorem sh_strconv_Atoi_ok (s : ByteArray) (hmax : s.size ≤ 9223372036854775806) (v : Int) (h : Lib.atoiAll s.data.toList = .ok v) (w : World) :
    Calls Tryz.prog 133 #[.string s] w fun e w' => e = .returned (.tuple #[.int .i64 v, .nilIface]) ∧ (w' = w ∨ ∃ t, w' = Lib.bytesWorld w 5 t) := Any.strconv_Atoi_ok sh_laysC172 s hmax v h w
open Go.RowKit in
theorem sh_strconv_Atoi_syntax (s : ByteArray) (hlim : s.size ≤ 281474976710656) (h : Lib.atoiAll s.data.toList = .«syntax») (ev : Value) (w : World) (hv : w.cell? ⟨2, 0, none⟩ = some ev) (hev : ev = .nilIface ∨ ∃ te pe, ev = .iface te pe) :
    Calls Tryz.prog 133 #[.string s] w fun e w' => ∃ N, e = .returned (.tuple #[.int .i64 (0), .iface 226 (.pointer (some ⟨N, 0, none⟩))]) ∧ w.heap.size ≤ N ∧ w'.heap[N]? = some (.cells #[.string ⟨#[65, 116, 111, 105]⟩, .string s, ev] 248 (0, 0)) ∧ Below w.heap.size w w' := Any.strconv_Atoi_syntax sh_laysC172 s hlim h ev w hv hev
open Go.RowKit in
theorem sh_strconv_Atoi_range (s : ByteArray) (hlim : s.size ≤ 281474976710656) (h : Lib.atoiAll s.data.toList = .range) (ev : Value) (w : World) (hv : w.cell? ⟨3, 0, none⟩ = some ev) (hev : ev = .nilIface ∨ ∃ te pe, ev = .iface te pe) :
    Calls Tryz.prog 133 #[.string s] w fun e w' => ∃ N, e = .returned (.tuple #[.int .i64 (Lib.atoiSat s.data.toList), .iface 226 (.pointer (some ⟨N, 0, none⟩))]) ∧ w.heap.size ≤ N ∧ w'.heap[N]? = some (.cells #[.string ⟨#[65, 116, 111, 105]⟩, .string s, ev] 248 (0, 0)) ∧ Below w.heap.size w w' := Any.strconv_Atoi_range sh_laysC172 s hlim h ev w hv hev
def sh_lays146_ren : Go.Shelf.Ren := ⟨fun | 146 => 56 | 221 => 103 | 268 => 146 | 138 => 147 | 143 => 132 | 195 => 187 | 197 => 188 | 218 => 189 | 219 => 171 | 260 => 222 | 217 => 204 | 225 => 205 | 224 => 206 | 267 => 207 | 266 => 230 | 314 => 231 | n => n, fun | 9 => 9 | 31 => 42 | 3 => 3 | 4 => 4 | 0 => 0 | 105 => 208 | 21 => 21 | 5 => 5 | 46 => 179 | 119 => 255 | 139 => 258 | 138 => 257 | 146 => 243 | 51 => 238 | n => n, fun | 1 => 0 | 3 => 4 | 4 => 5 | n => n⟩
theorem sh_lays146 : Go.Proofs.Lays.n146 Tryz.prog sh_lays146_ren := {
  mixed := by kernel_rfl
  f138 := Tryz.func147.trans (congrArg some (by kernel_rfl))
  f143 := Tryz.func132.trans (congrArg some (by kernel_rfl))
  f146 := Tryz.func56.trans (congrArg some (by kernel_rfl))
  f195 := Tryz.func187.trans (congrArg some (by kernel_rfl))
  f197 := Tryz.func188.trans (congrArg some (by kernel_rfl))
  f217 := Tryz.func204.trans (congrArg some (by kernel_rfl))
  f218 := Tryz.func189.trans (congrArg some (by kernel_rfl))
  f219 := Tryz.func171.trans (congrArg some (by kernel_rfl))
  f221 := Tryz.func103.trans (congrArg some (by kernel_rfl))
  f224 := Tryz.func206.trans (congrArg some (by kernel_rfl))
  f225 := Tryz.func205.trans (congrArg some (by kernel_rfl))
  f260 := Tryz.func222.trans (congrArg some (by kernel_rfl))
  f266 := Tryz.func230.trans (congrArg some (by kernel_rfl))
  f267 := Tryz.func207.trans (congrArg some (by kernel_rfl))
  f268 := Tryz.func146.trans (congrArg some (by kernel_rfl))
  f314 := Tryz.func231.trans (congrArg some (by kernel_rfl))
  t0 := Tryz.underlying0
  a0 := Tryz.isAgg0
  z0 := Tryz.sizeOf0
  v0 := Tryz.zeroValue0
  t3 := Tryz.underlying3
  a3 := Tryz.isAgg3
  z3 := Tryz.sizeOf3
  v3 := Tryz.zeroValue3
  t4 := Tryz.underlying4
  a4 := Tryz.isAgg4
  z4 := Tryz.sizeOf4
  v4 := Tryz.zeroValue4
  t5 := Tryz.underlying5
  a5 := Tryz.isAgg5
  z5 := Tryz.sizeOf5
  v5 := Tryz.zeroValue5
  t9 := Tryz.underlying9
  a9 := Tryz.isAgg9
  z9 := Tryz.sizeOf9
  v9 := Tryz.zeroValue9
  t21 := Tryz.underlying21
  a21 := Tryz.isAgg21
  z21 := Tryz.sizeOf21
  v21 := Tryz.zeroValue21
  t31 := Tryz.underlying42
  a31 := Tryz.isAgg42
  z31 := Tryz.sizeOf42
  v31 := Tryz.zeroValue42
  t46 := Tryz.underlying179
  a46 := Tryz.isAgg179
  z46 := Tryz.sizeOf179
  v46 := Tryz.zeroValue179
  t51 := Tryz.underlying238
  a51 := Tryz.isAgg238
  z51 := Tryz.sizeOf238
  v51 := Tryz.zeroValue238
  t105 := Tryz.underlying208
  a105 := Tryz.isAgg208
  z105 := Tryz.sizeOf208
  v105 := Tryz.zeroValue208
  t119 := Tryz.underlying255
  a119 := Tryz.isAgg255
  z119 := Tryz.sizeOf255
  t138 := Tryz.underlying257
  a138 := Tryz.isAgg257
  z138 := Tryz.sizeOf257
  v138 := Tryz.zeroValue257
  t139 := Tryz.underlying258
  a139 := Tryz.isAgg258
  z139 := Tryz.sizeOf258
  v139 := Tryz.zeroValue258
  t146 := Tryz.underlying243
  a146 := Tryz.isAgg243
  z146 := Tryz.sizeOf243
  v146 := Tryz.zeroValue243
  g1 := by kernel_rfl
  g3 := by kernel_rfl
  g4 := by kernel_rfl }
open Go.RowKit Go.Lib in
theorem sh_strings_Split (s sep : ByteArray) (m : Int) (w : World) (hs : s.size < 4294967281) (hm : w.cell? ⟨0, 0, none⟩ = some (.int .i64 m)) (h1 : 1 ≤ sep.size) :
    Calls Tryz.prog 56 #[.string s, .string sep] w fun e w' =>
      e = .returned (.slice (some ⟨w.heap.size, 0, none⟩) (Lib.countB s sep + 1) (Lib.countB s sep + 1)) ∧ w' = w.alloc (.cells ((Lib.splitB sep 0 (Lib.countB s sep) s).map Value.string).toArray 9) := Any.strings_Split sh_lays146 (by kernel_rfl) s sep m w hs hm h1
def sh_laysM146_ren : Go.Shelf.Ren := ⟨fun | 146 => 56 | 221 => 103 | 268 => 146 | 138 => 147 | 143 => 132 | 195 => 187 | 197 => 188 | 218 => 189 | 219 => 171 | 260 => 222 | 217 => 204 | 225 => 205 | 224 => 206 | 267 => 207 | 266 => 230 | 314 => 231 | n => n, fun | 9 => 9 | 31 => 42 | 3 => 3 | 4 => 4 | 0 => 0 | 105 => 208 | 21 => 21 | 5 => 5 | 46 => 179 | 119 => 255 | 139 => 258 | 138 => 257 | 146 => 243 | 51 => 238 | n => n, fun | 1 => 0 | 3 => 4 | 4 => 5 | n => n⟩
theorem sh_laysM146 : Go.Proofs.LaysM.n146 Tryz.prog sh_laysM146_ren := {
  mixed := by kernel_rfl
  f138 := Tryz.func147.trans (congrArg some (by kernel_rfl))
  f143 := Tryz.func132.trans (congrArg some (by kernel_rfl))
  f146 := Tryz.func56.trans (congrArg some (by kernel_rfl))
  f195 := Tryz.func187.trans (congrArg some (by kernel_rfl))
  f197 := Tryz.func188.trans (congrArg some (by kernel_rfl))
  f217 := Tryz.func204.trans (congrArg some (by kernel_rfl))
  f218 := Tryz.func189.trans (congrArg some (by kernel_rfl))
  f219 := Tryz.func171.trans (congrArg some (by kernel_rfl))
  f221 := Tryz.func103.trans (congrArg some (by kernel_rfl))
  f224 := Tryz.func206.trans (congrArg some (by kernel_rfl))
  f225 := Tryz.func205.trans (congrArg some (by kernel_rfl))
  f260 := Tryz.func222.trans (congrArg some (by kernel_rfl))
  f266 := Tryz.func230.trans (congrArg some (by kernel_rfl))
  f267 := Tryz.func207.trans (congrArg some (by kernel_rfl))
  f268 := Tryz.func146.trans (congrArg some (by kernel_rfl))
  f314 := Tryz.func231.trans (congrArg some (by kernel_rfl))
  t0 := Tryz.underlying0
  a0 := Tryz.isAgg0
  z0 := Tryz.sizeOf0
  v0 := Tryz.zeroValue0
  t3 := Tryz.underlying3
  a3 := Tryz.isAgg3
  z3 := Tryz.sizeOf3
  v3 := Tryz.zeroValue3
  t4 := Tryz.underlying4
  a4 := Tryz.isAgg4
  z4 := Tryz.sizeOf4
  v4 := Tryz.zeroValue4
  t5 := Tryz.underlying5
  a5 := Tryz.isAgg5
  z5 := Tryz.sizeOf5
  v5 := Tryz.zeroValue5
  t9 := Tryz.underlying9
  a9 := Tryz.isAgg9
  z9 := Tryz.sizeOf9
  v9 := Tryz.zeroValue9
  t21 := Tryz.underlying21
  a21 := Tryz.isAgg21
  z21 := Tryz.sizeOf21
  v21 := Tryz.zeroValue21
  t31 := Tryz.underlying42
  a31 := Tryz.isAgg42
  z31 := Tryz.sizeOf42
  v31 := Tryz.zeroValue42
  t46 := Tryz.underlying179
  a46 := Tryz.isAgg179
  z46 := Tryz.sizeOf179
  v46 := Tryz.zeroValue179
  t51 := Tryz.underlying238
  a51 := Tryz.isAgg238
  z51 := Tryz.sizeOf238
  v51 := Tryz.zeroValue238
  t105 := Tryz.underlying208
  a105 := Tryz.isAgg208
  z105 := Tryz.sizeOf208
  v105 := Tryz.zeroValue208
  t119 := Tryz.underlying255
  a119 := Tryz.isAgg255
  z119 := Tryz.sizeOf255
  t138 := Tryz.underlying257
  a138 := Tryz.isAgg257
  z138 := Tryz.sizeOf257
  v138 := Tryz.zeroValue257
  t139 := Tryz.underlying258
  a139 := Tryz.isAgg258
  z139 := Tryz.sizeOf258
  v139 := Tryz.zeroValue258
  t146 := Tryz.underlying243
  a146 := Tryz.isAgg243
  z146 := Tryz.sizeOf243
  v146 := Tryz.zeroValue243
  g1 := by kernel_rfl
  g3 := by kernel_rfl
  g4 := by kernel_rfl
  i0 := by kernel_rfl
  i3 := by kernel_rfl
  i4 := by kernel_rfl
  i5 := by kernel_rfl
  i9 := by kernel_rfl
  i21 := by kernel_rfl
  i31 := by kernel_rfl
  i46 := by kernel_rfl
  i51 := by kernel_rfl
  i105 := by kernel_rfl
  i138 := by kernel_rfl
  i139 := by kernel_rfl
  i146 := by kernel_rfl
  m1 := by kernel_rfl
  s1_3 := fun w h => Go.Proofs.cell_of_shapedOpen_int (zero := #[.int .i64 0]) (t := 3) h (of_decide_eq_true (by kernel_rfl)) (by kernel_rfl) rfl (by kernel_rfl) (by kernel_rfl) Tryz.underlying3
  m3 := by kernel_rfl
  m4 := by kernel_rfl }
open Go.RowKit Go.Lib in
theorem sh_strings_Split_shaped (s sep : ByteArray) (w : World) (h : w.ShapedOpen Tryz.prog) (hs : s.size < 4294967281) (h1 : 1 ≤ sep.size) :
    Calls Tryz.prog 56 #[.string s, .string sep] w fun e w' =>
      e = .returned (.slice (some ⟨w.heap.size, 0, none⟩) (Lib.countB s sep + 1) (Lib.countB s sep + 1)) ∧ w' = w.alloc (.cells ((Lib.splitB sep 0 (Lib.countB s sep) s).map Value.string).toArray 9) := Any.strings_Split_shaped sh_laysM146 s sep w h hs h1
end Go.Proofs.YtflpcdffmpfdpaaGreatDoor

namespace Go.Proofs.YtflpcdffmpfdpaaGreatDoor
open Go.RowKit

/-- the text of a number -/
def intT (z : Int) : ByteArray := ⟨(Lib.itoa z).toArray⟩
theorem intT_nat (n : Nat) : intT (n : Int) = numT n := by unfold intT numT; rw [Lib.itoa_nonneg]
theorem intT_neg (n : Nat) (h : 1 ≤ n) : intT (-(n : Int)) = ⟨#[45]⟩ ++ numT n := by
  unfold intT numT
  rw [Lib.itoa_neg n h]
  refine ByteArray.ext ?_
  simp
theorem intT_cases (z : Int) : (∃ n : Nat, z = n ∧ intT z = numT n) ∨ ∃ n : Nat, z = -(n : Int) ∧ 1 ≤ n ∧ intT z = ⟨#[45]⟩ ++ numT n := by
  by_cases h : 0 ≤ z
  · exact .inl ⟨z.toNat, by omega, by rw [← intT_nat]; congr 1; omega⟩
  · exact .inr ⟨(-z).toNat, by omega, by omega, by rw [← intT_neg _ (by omega)]; congr 1; omega⟩
/-- the number whose text it is, of six digits at most -/
def parseI (s : ByteArray) : Option Int := (Lib.atoi s.data.toList).bind fun v => if inB v (-999999) 999999 = true ∧ intT v = s then some v else none
theorem parseI_some {s : ByteArray} {v : Int} (h : parseI s = some v) : Lib.atoi s.data.toList = some v ∧ inB v (-999999) 999999 = true ∧ intT v = s := by
  unfold parseI at h
  cases ha : Lib.atoi s.data.toList with
  | none => rw [ha] at h; cases h
  | some u =>
    rw [ha] at h
    simp only [Option.bind_some] at h
    by_cases hc : inB u (-999999) 999999 = true ∧ intT u = s
    · rw [if_pos hc] at h
      injection h with h
      subst h
      exact ⟨rfl, hc⟩
    · rw [if_neg hc] at h; cases h
theorem numT_six {n : Nat} (h : n ≤ 999999) : (numT n).size ≤ 6 := numT_size n 6 (Nat.lt_of_le_of_lt h (by decide)) (by decide)
theorem parseI_size {s : ByteArray} {v : Int} (h : parseI s = some v) : s.size ≤ 7 := by
  obtain ⟨-, hb, rfl⟩ := parseI_some h
  unfold inB at hb
  simp only [Bool.and_eq_true, decide_eq_true_eq] at hb
  rcases intT_cases v with ⟨n, rfl, e⟩ | ⟨n, rfl, h1, e⟩
  · rw [e]
    have := numT_six (n := n) (by omega)
    omega
  · rw [e]
    have := numT_six (n := n) (by omega)
    have h2 : (⟨#[45]⟩ ++ numT n : ByteArray).size = 1 + (numT n).size := by rw [ByteArray.size_append]; rfl
    omega
theorem parseI_long {s : ByteArray} (h : 7 < s.size) : parseI s = none := by
  cases hp : parseI s with
  | none => rfl
  | some v => have := parseI_size hp; omega
theorem parseI_atoi {s : ByteArray} {v : Int} (h : Lib.atoi s.data.toList = some v) : parseI s = if inB v (-999999) 999999 = true ∧ intT v = s then some v else none := by unfold parseI; rw [h]; rfl
theorem parseI_bad {s : ByteArray} (h : Lib.atoi s.data.toList = none) : parseI s = none := by unfold parseI; rw [h]; rfl
/-- What a list of the library's variables gives. -/
structure GlE (w : World) : Prop where
  gl : Gl w
  es : ∃ ev, w.cell? ⟨2, 0, none⟩ = some ev ∧ (ev = .nilIface ∨ ∃ te pe, ev = .iface te pe)
theorem GlE.next {w w' : World} (h : GlE w) (hb : Below w.heap.size w w') : GlE w' := by
  obtain ⟨ev, h1, h2⟩ := h.es
  exact ⟨h.gl.next hb, ev, (hb.cell (p := ⟨2, 0, none⟩) (World.block_lt_of_cell? w _ h1)).trans h1, h2⟩
theorem ItoaI_any (z : Int) (w : World) (h0 : -1000000000 ≤ z) (h1 : z ≤ 1000000000) (hg : Gl w) :
    Calls Tryz.prog 74 #[.int .i64 z] w fun e w' => e = .returned (.string (intT z)) ∧ Below w.heap.size w w' :=
  (sh_strconv_Itoa z (by omega) (by omega) w hg.tab).mono fun e w' ⟨he, k, os, hw⟩ => ⟨he, by rw [hw]; exact below_grow _ _ _⟩
theorem l1NumI_any (z : Int) (w : World) (h0 : -1000000000 ≤ z) (h1 : z ≤ 1000000000) :
    Calls Tryz.prog 75 #[.int .i64 z] w fun e w' => e = .returned (.string (intT z)) ∧ Quiet w w' := by
  rcases intT_cases z with ⟨n, rfl, e⟩ | ⟨n, rfl, h2, e⟩
  · rw [e]
    exact l1Num_any n w (by omega)
  · have HE := Lib.hid e
    have hn : -(n : Int) < 0 := by omega
    clear e
    go_enter Tryz.func75, Tryz.ntmps75
    go_wp2_with fail
    refine (l1Num_any n w (by omega)).mono ?_
    rintro e w1 ⟨rfl, q1⟩
    have hsz := numT_size n 10 (by omega) (by decide)
    have hs2 : ¬ 9223372036854775807 < 1 + (numT n).size := by omega
    obtain ⟨tt, htt⟩ : ∃ tt, numT n = tt := ⟨_, rfl⟩
    rw [htt] at HE hs2 hsz ⊢
    clear htt
    go_wp2_with fail
    go_ret
    rw [HE.out]
    exact ⟨rfl, q1⟩

set_option maxRecDepth 100000 in
set_option maxHeartbeats 2000000 in
theorem ParseInt_any (s : ByteArray) (w : World) (hs : s.size ≤ 9223372036854775807) (hg : GlE w) :
    Calls Tryz.prog 94 #[.string s] w fun e w' => e = .returned (.tuple #[.int .i64 ((parseI s).getD 0), .bool (parseI s).isSome]) ∧ Below w.heap.size w w' := by
  by_cases h7 : 7 < s.size
  · have HR := Lib.hid (parseI_long h7)
    have h7' : (7 : Int) < (s.size : Int) := by omega
    go_enter Tryz.func94, Tryz.ntmps94
    go_wp2_with fail
    go_ret2
    rw [HR.out]
    exact ⟨rfl, Below.refl _ _⟩
  have h7' : ¬ (7 : Int) < (s.size : Int) := by omega
  have hsh := Lib.atoiAll_short s.data.toList (by have h : s.data.toList.length = s.size := by simp
                                                  omega)
  have hs7 : s.size ≤ 7 := by omega
  clear h7
  cases ha : Lib.atoi s.data.toList with
  | none =>
    have HR := Lib.hid (parseI_bad ha)
    rw [ha] at hsh
    obtain ⟨ev, hev1, hev2⟩ := hg.es
    have HS := Lib.hid hsh
    clear hsh ha
    go_enter Tryz.func94, Tryz.ntmps94
    go_wp2_with fail
    refine (sh_strconv_Atoi_syntax s (by omega) HS.out ev w hev1 hev2).mono ?_
    rintro e w1 ⟨N, rfl, -, -, b⟩
    go_wp2_with fail
    go_ret2
    rw [HR.out]
    exact ⟨rfl, b⟩
  | some v =>
    have HR0 := Lib.hid (parseI_atoi ha)
    rw [ha] at hsh
    have HS := Lib.hid hsh
    have hbnd := Lib.atoiAll_bounds hsh
    clear hsh ha
    obtain ⟨ib, hib⟩ : ∃ ib, inB v (-999999) 999999 = ib := ⟨_, rfl⟩
    have HIB := Lib.hid hib
    go_enter Tryz.func94, Tryz.ntmps94
    go_wp2_with fail
    refine (sh_strconv_Atoi_ok s (by omega) v HS.out w).mono ?_
    rintro e w1 ⟨rfl, hw1⟩
    have K : Below w.heap.size w w1 := by
      rcases hw1 with rfl | ⟨t, rfl⟩
      · exact Below.refl _ _
      · exact Lib.bytesWorld_below _ _ _
    clear hw1
    cases ib
    · have HR := Lib.hid (show parseI s = none by rw [HR0.out, HIB.out]; rfl)
      go_wp2_with (go_at_call 70; refine (inside_any _ _ _ _).mono ?_; rw [HIB.out]; rintro e w' ⟨rfl, rfl⟩)
      go_ret2
      rw [HR.out]
      exact ⟨rfl, K⟩
    unfold inB at hib
    simp only [Bool.and_eq_true, decide_eq_true_eq] at hib
    have hv0 : -1000000000 ≤ v := by omega
    have hv1 : v ≤ 1000000000 := by omega
    have hg1 := hg.gl.next K
    clear hib
    go_wp2_with (go_at_call 70; refine (inside_any _ _ _ _).mono ?_; rw [HIB.out]; rintro e w' ⟨rfl, rfl⟩)
    refine (ItoaI_any v _ hv0 hv1 hg1).mono ?_
    rintro e w2 ⟨rfl, b⟩
    by_cases hc : intT v = s
    · have HR := Lib.hid (show parseI s = some v by rw [HR0.out, if_pos ⟨HIB.out, hc⟩])
      have f1 : ((intT v).toList == s.toList) = true := by rw [str_beq]; exact decide_eq_true hc
      clear hc
      go_wp2_with fail
      go_ret2
      rw [HR.out]
      exact ⟨rfl, bel_then K b⟩
    · have HR := Lib.hid (show parseI s = none by rw [HR0.out, if_neg (fun h => hc h.2)])
      have f1 : ((intT v).toList == s.toList) = false := by rw [str_beq]; exact decide_eq_false hc
      clear hc
      go_wp2_with fail
      go_ret2
      rw [HR.out]
      exact ⟨rfl, bel_then K b⟩

end Go.Proofs.YtflpcdffmpfdpaaGreatDoor

namespace Go.Proofs.YtflpcdffmpfdpaaGreatDoor
open Go.RowKit

/-- what stands ahead of the first b; the whole text if there is none -/
def upto (b : UInt8) (s : ByteArray) : ByteArray := ⟨(s.data.toList.takeWhile (· != b)).toArray⟩
/-- what stands behind the first b; nothing if there is none -/
def past (b : UInt8) (s : ByteArray) : ByteArray := ⟨((s.data.toList.dropWhile (· != b)).drop 1).toArray⟩
theorem upto_size (b : UInt8) (s : ByteArray) : (upto b s).size ≤ s.size := by
  show (s.data.toList.takeWhile (· != b)).toArray.size ≤ s.data.size
  rw [List.size_toArray, ← Array.length_toList]
  exact (List.takeWhile_sublist _).length_le
theorem past_size (b : UInt8) (s : ByteArray) : (past b s).size ≤ s.size := by
  show ((s.data.toList.dropWhile (· != b)).drop 1).toArray.size ≤ s.data.size
  rw [List.size_toArray, ← Array.length_toList]
  exact ((List.drop_sublist _ _).trans (List.dropWhile_sublist _)).length_le
theorem cut_byte (b : UInt8) : ∀ l : List UInt8, Lib.cut l [b] = (l.takeWhile (· != b), (l.dropWhile (· != b)).drop 1, l.contains b) := by
  intro l
  unfold Lib.cut
  rw [Lib.index_one]
  induction l with
  | nil => simp [Lib.indexByte]
  | cons c l ih =>
    have hge := Lib.indexByte_ge l b
    by_cases hc : c = b
    · subst hc
      have e : Lib.indexByte (c :: l) c = 0 := by simp [Lib.indexByte]
      rw [e]; simp
    · have hc2 : (b == c) = false := by simpa using fun h => hc h.symm
      have hcn : (c != b) = true := by simp [bne, hc]
      by_cases hm : Lib.indexByte l b = -1
      · have e : Lib.indexByte (c :: l) b = -1 := by simp [Lib.indexByte, hc, hm]
        rw [hm, if_neg (by omega)] at ih
        rw [e, if_neg (by omega)]
        simp only [Prod.mk.injEq] at ih
        rw [List.takeWhile_cons, List.dropWhile_cons, if_pos hcn, if_pos hcn, List.contains_cons, hc2, ← ih.1, ← ih.2.1, ← ih.2.2]; rfl
      · have e : Lib.indexByte (c :: l) b = Lib.indexByte l b + 1 := by simp [Lib.indexByte, hc, hm]
        have h0 : 0 ≤ Lib.indexByte l b := by omega
        rw [if_pos h0] at ih
        rw [e, if_pos (by omega)]
        simp only [Prod.mk.injEq] at ih
        have e1 : (Lib.indexByte l b + 1).toNat = (Lib.indexByte l b).toNat + 1 := by omega
        have e2 : (Lib.indexByte l b + 1).toNat + [b].length = ((Lib.indexByte l b).toNat + [b].length) + 1 := by omega
        rw [List.takeWhile_cons, List.dropWhile_cons, if_pos hcn, if_pos hcn, List.contains_cons, hc2, ← ih.1, ← ih.2.1, ← ih.2.2, e2, e1]; rfl
theorem Cut_any (s : ByteArray) (b : UInt8) (w : World) (hs : s.size ≤ 3000000) (hg : Gl w) :
    Calls Tryz.prog 151 #[.string s, .string ⟨#[b]⟩] w fun e w' => e = .returned (.tuple #[.string (upto b s), .string (past b s), .bool (hasC b s)]) ∧ Quiet w w' := by
  obtain ⟨m, hm⟩ := hg.ml
  refine (sh_strings_Cut s ⟨#[b]⟩ m w (by omega) hm).mono ?_
  rw [show (⟨#[b]⟩ : ByteArray).data.toList = [b] from rfl, cut_byte]
  rintro e w' ⟨rfl, n, rfl⟩
  exact ⟨rfl, Quiet.mk _ _⟩
theorem split_list {b : UInt8} : ∀ {l : List UInt8} {k : Nat} (hk : k < l.length), (∀ j (hj : j < l.length), j < k → l[j] ≠ b) → l[k] = b → l.takeWhile (· != b) = l.take k
  | c :: l, 0, _, _, h => by
    have hc : c = b := h
    subst hc
    simp
  | c :: l, k + 1, hk, h, h1 => by
    have hc : c ≠ b := h 0 (by simp) (by omega)
    have hcn : (c != b) = true := by simpa using hc
    rw [List.takeWhile_cons, if_pos hcn, List.take_succ_cons, split_list (k := k) (by simpa using hk) (fun j hj hjk => by
      have := h (j + 1) (by simpa using hj) (by omega)
      simpa using this) (by simpa using h1)]
theorem upto_at {b : UInt8} {s : ByteArray} {k : Nat} (hk : k < s.size) (h : ∀ j (hj : j < s.size), j < k → s[j] ≠ b) (h1 : s[k] = b) : s.extract 0 k = upto b s := by
  unfold upto
  rw [split_list (k := k) (by simpa using hk) (fun j hj hjk => h j (by simpa using hj) hjk) h1]
  apply ByteArray.ext
  apply Array.toList_inj.1
  simp
theorem take_self {p : UInt8 → Bool} : ∀ {l : List UInt8}, (∀ x ∈ l, p x = true) → l.takeWhile p = l
  | [], _ => rfl
  | c :: l, h => by rw [List.takeWhile_cons, if_pos (h c List.mem_cons_self), take_self fun x hx => h x (List.mem_cons_of_mem _ hx)]
theorem drop_head {b : UInt8} : ∀ {l : List UInt8}, b ∈ l → l.dropWhile (· != b) = b :: (l.dropWhile (· != b)).drop 1
  | c :: l, h => by
    by_cases hc : c = b
    · subst hc; simp
    · have hcn : (c != b) = true := by simp [bne, hc]
      rw [List.dropWhile_cons, if_pos hcn]
      exact drop_head ((List.mem_cons.1 h).resolve_left fun e => hc e.symm)
theorem upto_none {b : UInt8} {s : ByteArray} (h : hasC b s = false) : upto b s = s := by
  unfold upto
  have : s.data.toList.takeWhile (· != b) = s.data.toList := by
    refine take_self fun x hx => ?_
    unfold hasC at h
    rw [← Bool.not_eq_true, List.contains_iff_mem] at h
    have hne : x ≠ b := fun e => h (e ▸ hx)
    simpa using hne
  rw [this]
theorem take_stop {b : UInt8} : ∀ {l r : List UInt8}, b ∉ l → (l ++ b :: r).takeWhile (· != b) = l ∧ (l ++ b :: r).dropWhile (· != b) = b :: r
  | [], r, _ => by simp
  | c :: l, r, h => by
    have hne : c ≠ b := fun e => h (e ▸ List.mem_cons_self)
    have hc : (c != b) = true := by simpa using hne
    have ih := take_stop (b := b) (l := l) (r := r) fun h1 => h (List.mem_cons_of_mem _ h1)
    rw [List.cons_append, List.takeWhile_cons, List.dropWhile_cons, if_pos hc, if_pos hc, ih.1, ih.2]
    exact ⟨rfl, rfl⟩
theorem cut_join {b : UInt8} {p q : ByteArray} (h : hasC b p = false) : upto b (p ++ ⟨#[b]⟩ ++ q) = p ∧ past b (p ++ ⟨#[b]⟩ ++ q) = q ∧ hasC b (p ++ ⟨#[b]⟩ ++ q) = true := by
  have hn : b ∉ p.data.toList := by
    unfold hasC at h
    rw [← Bool.not_eq_true, List.contains_iff_mem] at h
    exact h
  have he : (p ++ ⟨#[b]⟩ ++ q).data.toList = p.data.toList ++ b :: q.data.toList := by simp
  have ht := take_stop (r := q.data.toList) hn
  unfold upto past hasC
  rw [he, ht.1, ht.2]
  refine ⟨?_, ?_, ?_⟩
  · apply ByteArray.ext; simp
  · apply ByteArray.ext; simp
  · simp
theorem cut_split {b : UInt8} {s : ByteArray} (h : hasC b s = true) : s = upto b s ++ ⟨#[b]⟩ ++ past b s := by
  have hm : b ∈ s.data.toList := by
    unfold hasC at h
    exact List.contains_iff_mem.1 h
  apply ByteArray.ext
  apply Array.toList_inj.1
  have h1 := drop_head hm
  have h2 := List.takeWhile_append_dropWhile (p := (· != b)) (l := s.data.toList)
  rw [h1] at h2
  simpa [upto, past] using h2.symm
/-- how l1Split goes along -/
def SplitI (b : UInt8) (s : ByteArray) (k q : Nat) (L : List ByteArray) : Prop :=
  (L = [] ∧ q = 0 ∧ ∀ j (hj : j < s.size), j < k → s[j] ≠ b) ∨ (L[0]? = some (upto b s) ∧ hasC b s = true ∧ L ≠ [])
theorem SplitI.skip {b : UInt8} {s : ByteArray} {k q : Nat} {L : List ByteArray} (h : SplitI b s k q L) (hk : k < s.size) (h1 : s[k] ≠ b) : SplitI b s (k + 1) q L := by
  rcases h with ⟨h2, h3, h4⟩ | h
  · refine .inl ⟨h2, h3, fun j hj hjk => ?_⟩
    by_cases e : j = k
    · subst e; exact h1
    · exact h4 j hj (by omega)
  · exact .inr h
theorem SplitI.hit {b : UInt8} {s : ByteArray} {k q : Nat} {L : List ByteArray} (h : SplitI b s k q L) (hk : k < s.size) (h1 : s[k] = b) : SplitI b s (k + 1) (k + 1) (L ++ [s.extract q k]) := by
  rcases h with ⟨rfl, rfl, h4⟩ | ⟨h2, h3, h4⟩
  · exact .inr ⟨by simp [upto_at hk h4 h1], contains_at s b k hk h1, by simp⟩
  · refine .inr ⟨?_, h3, by simp⟩
    cases L with
    | nil => exact absurd rfl h4
    | cons x L => simpa using h2
theorem SplitI.fin {b : UInt8} {s : ByteArray} {q : Nat} {L : List ByteArray} (h : SplitI b s s.size q L) : (L ++ [s.extract q s.size])[0]? = some (upto b s) ∧ decide (2 ≤ (L ++ [s.extract q s.size]).length) = hasC b s := by
  rcases h with ⟨rfl, rfl, h4⟩ | ⟨h2, h3, h4⟩
  · have hn := contains_not s b fun k hk => h4 k hk hk
    refine ⟨?_, by rw [hn]; rfl⟩
    rw [upto_none hn]
    simp
  · cases L with
    | nil => exact absurd rfl h4
    | cons x L => exact ⟨by simpa using h2, by rw [h3]; simp⟩
def strs (l : List ByteArray) : List Value := l.map Value.string
theorem info_string : (Tryz.prog.info? 9).map (fun i => (i.zero, i.size, i.bytes)) = some (some (.string ⟨#[]⟩), 1, 16) := by kernel_rfl
/-- What l1Split gives: the first piece, and whether there are two. -/
def GivesSplit (w : World) (b : UInt8) (s : ByteArray) (e : Ending) (w' : World) : Prop :=
  ∃ (A : Option Addr) (n c : Nat) (L : List ByteArray), e = .returned (.slice A n c) ∧ n = L.length ∧ w'.ownsRow w.heap.size 9 1 (.slice A n c) n (strs L) ∧ L[0]? = some (upto b s) ∧ decide (2 ≤ n) = hasC b s ∧ Below w.heap.size w w'

set_option maxRecDepth 100000 in
set_option maxHeartbeats 1000000 in
theorem l1Split_any (s : ByteArray) (b : UInt8) (z : Int) (w : World) (hz : z = (b.toNat : Int)) (hs : s.size ≤ 3000000) :
    Calls Tryz.prog 55 #[.string s, .int .u8 z] w (GivesSplit w b s) := by
  subst hz
  go_enter Tryz.func55, Tryz.ntmps55
  go_wp2_with fail
  have hown0 := own_empty w 9 1
  have hb0 : Below w.heap.size w (w.alloc (.cells #[] 9)) := (Below.refl _ _).alloc (Nat.le_refl _) _
  go_loopw [5, 6, 7] (fun v q' i wr => ∃ (k q : Nat) (L : List ByteArray) (A' : Option Addr) (c' : Nat), k ≤ s.size ∧ q ≤ k ∧ i = .int .i64 k ∧ q' = .int .i64 q ∧ v = .slice A' L.length c' ∧ L.length ≤ k ∧ wr.ownsRow w.heap.size 9 1 (.slice A' L.length c') L.length (strs L) ∧ Hid (SplitI b s k q L) ∧ Below w.heap.size w wr) (fun _ _ i _ => s.size - (intOf i).toNat)
  case atStart => exact ⟨0, 0, [], _, _, Nat.zero_le _, Nat.le_refl _, rfl, rfl, rfl, Nat.le_refl _, hown0, Lib.hid (.inl ⟨rfl, rfl, fun j _ h => absurd h (by omega)⟩), hb0⟩
  case round =>
    obtain ⟨k, q, L, A', c', hk, hq, rfl, rfl, rfl, hlo, hown, HI, hb⟩ := hrel
    by_cases hlt : k < s.size
    · by_cases hc : s[k] = b
      · have HN := Lib.hid (HI.out.hit hlt hc)
        have hbq : ((s[k].toNat : Int) == (b.toNat : Int)) = true := by rw [hc]; simp
        clear HI hc
        go_wp2_with (at_builtin; go_loud (refine wpList_pushNew rfl _ _ _ rfl Tryz.underlying42 info_string rfl (by decide) rfl hown rfl (by simp) (by rfl) (by rfl) (by omega) (by decide) hb.size ?_); intro A2 c2 w2 hown2 ho2 hbb2 hat2)
        go_roundw
        case rel => exact ⟨k + 1, k + 1, L ++ [s.extract q k], A2, c2, by omega, by omega, by go_num, by go_num, by simp, by simp; omega, by simpa [strs] using hown2, HN, hb.trans hbb2⟩
        case measure => simp [intOf]; omega
      · have HN := Lib.hid (HI.out.skip hlt hc)
        have hbq : ((s[k].toNat : Int) == (b.toNat : Int)) = false := by
          rw [beq_eq_false_iff_ne]
          intro h
          exact hc (UInt8.toNat_inj.1 (by omega))
        clear HI hc
        go_wp2_with fail
        go_roundw
        case rel => exact ⟨k + 1, q, L, _, _, by omega, by omega, by go_num, rfl, rfl, by omega, hown, HN, hb⟩
        case measure => simp [intOf]; omega
    · obtain rfl : k = s.size := by omega
      have HE := Lib.hid HI.out.fin
      clear HI
      go_wp2_with (at_builtin; go_loud (refine wpList_pushNew rfl _ _ _ rfl Tryz.underlying42 info_string rfl (by decide) rfl hown rfl (by simp) (by rfl) (by rfl) (by omega) (by decide) hb.size ?_); intro A2 c2 w2 hown2 ho2 hbb2 hat2)
      go_ret
      exact ⟨A2, L.length + 1, c2, L ++ [s.extract q s.size], rfl, by simp, by simpa [strs] using hown2, HE.out.1, by rw [← HE.out.2]; simp, hb.trans hbb2⟩

end Go.Proofs.YtflpcdffmpfdpaaGreatDoor
