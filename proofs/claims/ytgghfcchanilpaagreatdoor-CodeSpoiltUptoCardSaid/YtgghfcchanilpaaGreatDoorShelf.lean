import Derived.Shelf.Strings.Builder1
import Derived.Shelf.Strings.Builder2
import Derived.Shelf.Strings.OnBuilder
import Derived.Shelf.Strings.Trim
import Derived.Shelf.Small.Utf8
import Derived.Shelf.Small.Bits
import Derived.Shelf.Small.Strs
import Derived.Shelf.Small.Wraps
import Derived.Shelf.Strings.BuilderF
import Derived.Shelf.Strings.BuilderK
import Derived.Shelf.Utf8.RuneCount
import Derived.Shelf.Strings.Builder2Cap
import Derived.Shelf.Strconv.Atoi
import Derived.Shelf.Strconv.Itoa0
import Derived.Shelf.Strconv.Itoa1
import Derived.Shelf.LaysM
import Derived.Shelf.Strconv.Itoa2
import Derived.Shelf.Strconv.Itoa3
import Derived.Shelf.Strconv.Itoa4
import Derived.Shelf.Strconv.AtoiErrFast
import Derived.Shelf.Strconv.ParseIntEmpty
import Derived.Shelf.Strconv.AtoiFail
import Derived.Shelf.Strconv.Clone
import Derived.Shelf.Strconv.SyntaxError
import Derived.Shelf.LaysC
import Derived.Shelf.Strconv.ToError
import Derived.Shelf.Strconv.Lower
import Derived.Shelf.Strconv.ParseUint10
import Derived.Shelf.Strconv.ParseUint10Empty
import Derived.Shelf.Strconv.ParseUint10Any
import Derived.Shelf.Strconv.ParseInt10
import Derived.Shelf.Strconv.AtoiLong
import Derived.Shelf.Strconv.AtoiInnerAll
import Derived.Shelf.Strconv.RangeError
import Derived.Shelf.Strconv.ToErrorRange
import Derived.Shelf.Strconv.AtoiAll
import Derived.Shelf.Strconv.ErrVarAll
import Derived.Shelf.Strconv.ParseUintEmpty
import Derived.Shelf.Strconv.ParseUint10b64
import Derived.Shelf.Strconv.ParseUint10b32
import Derived.Shelf.Strconv.ParseUint10b16
import Derived.Shelf.Strconv.ParseUint10b8
import Derived.Shelf.Strconv.ParseUint10At
import Derived.Shelf.Strconv.ParseInt10At64
import Derived.Shelf.Strconv.ParseInt10At32
import Derived.Shelf.Strconv.ParseInt10At16
import Derived.Shelf.Strconv.ParseInt10At8
import Derived.Shelf.Strconv.ParseInt10All
import Derived.Shelf.Strconv.ParseIntPublic10
import Derived.Shelf.Strconv.ErrVarParseInt
import Derived.Shelf.Strings.Search1
import Derived.Shelf.Strings.Search2
import Derived.Shelf.Strings.Search3
import Derived.Shelf.Strings.Cut
import Derived.Shelf.Strings.Count
import Derived.Shelf.Strings.Shaped
import Derived.Shelf.Sort.Plain
import Derived.Shelf.Strings.Prefix
import Derived.Shelf.Strings.Split
import Derived.Shelf.Strings.Fields
import Derived.Shelf.Strings.Replace
import Derived.Shelf.Strings.SplitShaped
import Derived.Shelf.Unicode.Latin
import Derived.Shelf.Unicode.Decode
import Derived.Shelf.Strings.Runes
import Derived.Shelf.Strings.RuneCount
import Derived.Shelf.Strings.AsciiSet
import Derived.Shelf.Strings.Explode
import Derived.Shelf.Unicode.DecodeSlow
import Derived.Shelf.Unicode.DecodeAny
import Derived.Shelf.Unicode.Is16White
import Derived.Shelf.Unicode.IsSpaceAny
import Derived.Shelf.Unicode.Is16WhiteD
import Derived.Shelf.Unicode.Is16Any
import Derived.Shelf.Unicode.Is32Any
import Derived.Shelf.Unicode.ExclAny
import Derived.Shelf.Strings.BuilderCap
import Derived.Ground.Names2Prog
import Derived.Shelf.Slices.Clone
import Derived.Shelf.Slices.CompactI
import Derived.Shelf.Slices.SearchI
import Derived.Shelf.Slices.Cells
import Derived.Shelf.Slices.In.SortNone
import Derived.Ground.SlgnProg
import Derived.Shelf.SlicesE.Clone
import Derived.Test.YtgghfcchanilpaaGreatDoorProg
set_option linter.unusedVariables false
set_option linter.unusedSimpArgs false
namespace Go.Proofs
open Go.Shelf
def Tryz.lays156_ren : Go.Shelf.Ren := ⟨fun | 156 => 270 | 165 => 271 | 166 => 272 | 169 => 273 | 240 => 292 | 241 => 293 | 276 => 298 | 277 => 299 | n => n,fun | 31 => 43 | 9 => 9 | 3 => 3 | 4 => 4 | 0 => 0 | 20 => 20 | 72 => 344 | 76 => 101 | 70 => 342 | 37 => 61 | 75 => 98 | 127 => 354 | 164 => 381 | 5 => 5 | 80 => 260 | n => n,fun | n => n⟩
theorem Tryz.lays156 : Go.Proofs.Lays.n156 Tryz.prog Tryz.lays156_ren := {
 mixed := by kernel_rfl
 f156 := Tryz.func270.trans (congrArg some (by kernel_rfl))
 f165 := Tryz.func271.trans (congrArg some (by kernel_rfl))
 f166 := Tryz.func272.trans (congrArg some (by kernel_rfl))
 f169 := Tryz.func273.trans (congrArg some (by kernel_rfl))
 f240 := Tryz.func292.trans (congrArg some (by kernel_rfl))
 f241 := Tryz.func293.trans (congrArg some (by kernel_rfl))
 f276 := Tryz.func298.trans (congrArg some (by kernel_rfl))
 f277 := Tryz.func299.trans (congrArg some (by kernel_rfl))
 t0 := Tryz.underlying0
 a0 := Tryz.isAgg0
 z0 := Tryz.sizeOf0
 v0 := Tryz.zeroValue0
 t3 := Tryz.underlying3
 a3 := Tryz.isAgg3
 z3 := Tryz.sizeOf3
 v3 := Tryz.zeroValue3
 t4 := Tryz.underlying4
 a4 := Tryz.isAgg4
 z4 := Tryz.sizeOf4
 v4 := Tryz.zeroValue4
 t9 := Tryz.underlying9
 a9 := Tryz.isAgg9
 z9 := Tryz.sizeOf9
 v9 := Tryz.zeroValue9
 t20 := Tryz.underlying20
 a20 := Tryz.isAgg20
 z20 := Tryz.sizeOf20
 v20 := Tryz.zeroValue20
 t31 := Tryz.underlying43
 a31 := Tryz.isAgg43
 z31 := Tryz.sizeOf43
 v31 := Tryz.zeroValue43
 t37 := Tryz.underlying61
 a37 := Tryz.isAgg61
 z37 := Tryz.sizeOf61
 v37 := Tryz.zeroValue61
 t70 := Tryz.underlying342
 a70 := Tryz.isAgg342
 z70 := Tryz.sizeOf342
 v70 := Tryz.zeroValue342
 t72 := Tryz.underlying344
 a72 := Tryz.isAgg344
 z72 := Tryz.sizeOf344
 v72 := Tryz.zeroValue344
 t75 := Tryz.underlying98
 a75 := Tryz.isAgg98
 z75 := Tryz.sizeOf98
 v75 := Tryz.zeroValue98
 t76 := Tryz.underlying101
 a76 := Tryz.isAgg101
 z76 := Tryz.sizeOf101
 v76 := Tryz.zeroValue101
 t127 := Tryz.underlying354
 a127 := Tryz.isAgg354
 z127 := Tryz.sizeOf354
 v127 := Tryz.zeroValue354
 t164 := Tryz.underlying381
 a164 := Tryz.isAgg381
 z164 := Tryz.sizeOf381
 v164 := Tryz.zeroValue381 }
theorem Tryz.Builder_Extra_156 : Builder.Extra Tryz.prog Tryz.lays156_ren := {
 sizeBuilder := by kernel_rfl
 liesBuilder := by kernel_rfl
 t5 := Tryz.underlying5
 a5 := Tryz.isAgg5
 z5 := Tryz.sizeOf5
 v5 := Tryz.zeroValue5
 infoByte := by kernel_rfl
 cellsByte := by kernel_rfl
 sizeByte := by kernel_rfl
 neB5 := by decide }
open Go.RowKit in
theorem Tryz.strings_Join_none (a : Option Addr) (c : Nat) (sep : ByteArray) (w : World) :
  Calls Tryz.prog 270 #[.slice a 0 c,.string sep] w fun e w' => e = .returned (.string ⟨#[]⟩) ∧ w' = w := Any.strings_Join_none Tryz.lays156 Tryz.Builder_Extra_156 a c sep w
open Go.RowKit in
theorem Tryz.strings_Join (bk o c : Nat) (xs : List ByteArray) (sep : ByteArray) (w : World) (hcells : ∀ (j : Nat) x,xs[j]? = some x → w.cell? ⟨bk,o + j,none⟩ = some (.string x)) (hbk : bk < w.heap.size) (hN : xs.length ≤ 140737488355328) (hcap : xs.length ≤ c) (hlen : (Lib.join (xs.map (·.data.toList)) sep.data.toList).length ≤ 140737488355328) :
  Calls Tryz.prog 270 #[.slice (some ⟨bk,o,none⟩) xs.length c,.string sep] w fun e w' => e = .returned (.string ⟨(Lib.join (xs.map (·.data.toList)) sep.data.toList).toArray⟩) ∧ Below w.heap.size w w' := Any.strings_Join Tryz.lays156 Tryz.Builder_Extra_156 bk o c xs sep w hcells hbk hN hcap hlen
def Tryz.lays172_ren : Go.Shelf.Ren := ⟨fun | 172 => 50 | 244 => 95 | 245 => 94 | 247 => 93 | 279 => 204 | 280 => 205 | 281 => 206 | 282 => 207 | 287 => 203 | 316 => 267 | 171 => 45 | 205 => 268 | 321 => 265 | 322 => 266 | 243 => 91 | 246 => 90 | 283 => 196 | 284 => 197 | 285 => 198 | 286 => 199 | 129 => 245 | 317 => 257 | 318 => 258 | 319 => 259 | 320 => 260 | 337 => 283 | 338 => 284 | n => n,fun | 9 => 9 | 3 => 3 | 75 => 98 | 76 => 101 | 4 => 4 | 5 => 5 | 167 => 276 | 37 => 61 | 0 => 0 | 85 => 99 | 2 => 2 | 168 => 279 | 53 => 157 | 175 => 277 | 46 => 60 | 210 => 334 | 127 => 354 | 145 => 357 | 143 => 355 | 21 => 21 | 171 => 269 | 173 => 272 | 212 => 325 | 51 => 58 | 20 => 20 | 213 => 326 | 232 => 372 | 233 => 373 | 80 => 260 | n => n,fun | 15 => 4 | 16 => 5 | 17 => 3 | 18 => 8 | 19 => 9 | n => n⟩
def Tryz.laysM246_ren : Go.Shelf.Ren := ⟨fun | 246 => 90 | 283 => 196 | 284 => 197 | 285 => 198 | 286 => 199 | 129 => 245 | 317 => 257 | 318 => 258 | 319 => 259 | 320 => 260 | 337 => 283 | 338 => 284 | n => n,fun | 2 => 2 | 3 => 3 | 9 => 9 | 4 => 4 | 171 => 269 | 0 => 0 | 53 => 157 | 37 => 61 | 5 => 5 | 173 => 272 | 212 => 325 | 51 => 58 | 20 => 20 | 213 => 326 | 46 => 60 | 232 => 372 | 233 => 373 | n => n,fun | 17 => 3 | 18 => 8 | 19 => 9 | n => n⟩
def Tryz.laysM243_ren : Go.Shelf.Ren := ⟨fun | 243 => 91 | 246 => 90 | 283 => 196 | 284 => 197 | 285 => 198 | 286 => 199 | 129 => 245 | 317 => 257 | 318 => 258 | 319 => 259 | 320 => 260 | 337 => 283 | 338 => 284 | n => n,fun | 3 => 3 | 9 => 9 | 2 => 2 | 4 => 4 | 171 => 269 | 0 => 0 | 53 => 157 | 37 => 61 | 5 => 5 | 173 => 272 | 212 => 325 | 51 => 58 | 20 => 20 | 213 => 326 | 46 => 60 | 232 => 372 | 233 => 373 | n => n,fun | 17 => 3 | 18 => 8 | 19 => 9 | n => n⟩
def Tryz.laysM171_ren : Go.Shelf.Ren := ⟨fun | 171 => 45 | 243 => 91 | 246 => 90 | 283 => 196 | 284 => 197 | 285 => 198 | 286 => 199 | 129 => 245 | 317 => 257 | 318 => 258 | 319 => 259 | 320 => 260 | 337 => 283 | 338 => 284 | n => n,fun | 3 => 3 | 9 => 9 | 2 => 2 | 4 => 4 | 171 => 269 | 0 => 0 | 53 => 157 | 37 => 61 | 5 => 5 | 173 => 272 | 212 => 325 | 51 => 58 | 20 => 20 | 213 => 326 | 46 => 60 | 232 => 372 | 233 => 373 | n => n,fun | 17 => 3 | 18 => 8 | 19 => 9 | n => n⟩
theorem Tryz.laysM171 : Go.Proofs.LaysM.n171 Tryz.prog Tryz.laysM171_ren := {
 mixed := by kernel_rfl
 f129 := Tryz.func245.trans (congrArg some (by kernel_rfl))
 f171 := Tryz.func45.trans (congrArg some (by kernel_rfl))
 f243 := Tryz.func91.trans (congrArg some (by kernel_rfl))
 f246 := Tryz.func90.trans (congrArg some (by kernel_rfl))
 f283 := Tryz.func196.trans (congrArg some (by kernel_rfl))
 f284 := Tryz.func197.trans (congrArg some (by kernel_rfl))
 f285 := Tryz.func198.trans (congrArg some (by kernel_rfl))
 f286 := Tryz.func199.trans (congrArg some (by kernel_rfl))
 f317 := Tryz.func257.trans (congrArg some (by kernel_rfl))
 f318 := Tryz.func258.trans (congrArg some (by kernel_rfl))
 f319 := Tryz.func259.trans (congrArg some (by kernel_rfl))
 f320 := Tryz.func260.trans (congrArg some (by kernel_rfl))
 f337 := Tryz.func283.trans (congrArg some (by kernel_rfl))
 f338 := Tryz.func284.trans (congrArg some (by kernel_rfl))
 t0 := Tryz.underlying0
 a0 := Tryz.isAgg0
 z0 := Tryz.sizeOf0
 v0 := Tryz.zeroValue0
 t2 := Tryz.underlying2
 a2 := Tryz.isAgg2
 z2 := Tryz.sizeOf2
 v2 := Tryz.zeroValue2
 t3 := Tryz.underlying3
 a3 := Tryz.isAgg3
 z3 := Tryz.sizeOf3
 v3 := Tryz.zeroValue3
 t4 := Tryz.underlying4
 a4 := Tryz.isAgg4
 z4 := Tryz.sizeOf4
 v4 := Tryz.zeroValue4
 t5 := Tryz.underlying5
 a5 := Tryz.isAgg5
 z5 := Tryz.sizeOf5
 v5 := Tryz.zeroValue5
 t9 := Tryz.underlying9
 a9 := Tryz.isAgg9
 z9 := Tryz.sizeOf9
 v9 := Tryz.zeroValue9
 t20 := Tryz.underlying20
 a20 := Tryz.isAgg20
 z20 := Tryz.sizeOf20
 v20 := Tryz.zeroValue20
 t37 := Tryz.underlying61
 a37 := Tryz.isAgg61
 z37 := Tryz.sizeOf61
 v37 := Tryz.zeroValue61
 t46 := Tryz.underlying60
 a46 := Tryz.isAgg60
 z46 := Tryz.sizeOf60
 v46 := Tryz.zeroValue60
 t51 := Tryz.underlying58
 a51 := Tryz.isAgg58
 z51 := Tryz.sizeOf58
 v51 := Tryz.zeroValue58
 t53 := Tryz.underlying157
 a53 := Tryz.isAgg157
 z53 := Tryz.sizeOf157
 v53 := Tryz.zeroValue157
 t171 := Tryz.underlying269
 a171 := Tryz.isAgg269
 z171 := Tryz.sizeOf269
 v171 := Tryz.zeroValue269
 t173 := Tryz.underlying272
 a173 := Tryz.isAgg272
 z173 := Tryz.sizeOf272
 v173 := Tryz.zeroValue272
 t212 := Tryz.underlying325
 a212 := Tryz.isAgg325
 z212 := Tryz.sizeOf325
 v212 := Tryz.zeroValue325
 t213 := Tryz.underlying326
 a213 := Tryz.isAgg326
 z213 := Tryz.sizeOf326
 t232 := Tryz.underlying372
 a232 := Tryz.isAgg372
 z232 := Tryz.sizeOf372
 v232 := Tryz.zeroValue372
 t233 := Tryz.underlying373
 a233 := Tryz.isAgg373
 z233 := Tryz.sizeOf373
 v233 := Tryz.zeroValue373
 g17 := by kernel_rfl
 g18 := by kernel_rfl
 g19 := by kernel_rfl
 i0 := by kernel_rfl
 i2 := by kernel_rfl
 i3 := by kernel_rfl
 i4 := by kernel_rfl
 i5 := by kernel_rfl
 i9 := by kernel_rfl
 i20 := by kernel_rfl
 i37 := by kernel_rfl
 i46 := by kernel_rfl
 i51 := by kernel_rfl
 i53 := by kernel_rfl
 i171 := by kernel_rfl
 i173 := by kernel_rfl
 i212 := by kernel_rfl
 i232 := by kernel_rfl
 i233 := by kernel_rfl
 m17 := by kernel_rfl
 m18 := by kernel_rfl
 m19 := by kernel_rfl }
open Go.RowKit Go.Sort Go.Lib in
theorem Tryz.strconv_Itoa (n : Int) (h0 : -9223372036854775808 ≤ n) (h1 : n ≤ 9223372036854775807) (w : World) (htab : Lib.TabIs Tryz.prog w "internal/strconv.uint64pow10" .u64 Lib.pow10Tab) :
  Calls Tryz.prog 45 #[.int .i64 n] w fun e w' => e = .returned (.string ⟨(Lib.itoa n).toArray⟩) ∧ ∃ k os,w' = grow (w.drewN k) os := Any.strconv_Itoa Tryz.laysM171 n h0 h1 w htab
def Tryz.laysM173_ren : Go.Shelf.Ren := ⟨fun | 173 => 44 | 246 => 90 | 283 => 196 | 284 => 197 | 285 => 198 | 286 => 199 | 129 => 245 | 317 => 257 | 318 => 258 | 319 => 259 | 320 => 260 | 337 => 283 | 338 => 284 | n => n,fun | 2 => 2 | 3 => 3 | 9 => 9 | 4 => 4 | 171 => 269 | 0 => 0 | 53 => 157 | 37 => 61 | 5 => 5 | 173 => 272 | 212 => 325 | 51 => 58 | 20 => 20 | 213 => 326 | 46 => 60 | 232 => 372 | 233 => 373 | n => n,fun | 17 => 3 | 18 => 8 | 19 => 9 | n => n⟩
theorem Tryz.laysM173 : Go.Proofs.LaysM.n173 Tryz.prog Tryz.laysM173_ren := {
 mixed := by kernel_rfl
 f129 := Tryz.func245.trans (congrArg some (by kernel_rfl))
 f173 := Tryz.func44.trans (congrArg some (by kernel_rfl))
 f246 := Tryz.func90.trans (congrArg some (by kernel_rfl))
 f283 := Tryz.func196.trans (congrArg some (by kernel_rfl))
 f284 := Tryz.func197.trans (congrArg some (by kernel_rfl))
 f285 := Tryz.func198.trans (congrArg some (by kernel_rfl))
 f286 := Tryz.func199.trans (congrArg some (by kernel_rfl))
 f317 := Tryz.func257.trans (congrArg some (by kernel_rfl))
 f318 := Tryz.func258.trans (congrArg some (by kernel_rfl))
 f319 := Tryz.func259.trans (congrArg some (by kernel_rfl))
 f320 := Tryz.func260.trans (congrArg some (by kernel_rfl))
 f337 := Tryz.func283.trans (congrArg some (by kernel_rfl))
 f338 := Tryz.func284.trans (congrArg some (by kernel_rfl))
 t0 := Tryz.underlying0
 a0 := Tryz.isAgg0
 z0 := Tryz.sizeOf0
 v0 := Tryz.zeroValue0
 t2 := Tryz.underlying2
 a2 := Tryz.isAgg2
 z2 := Tryz.sizeOf2
 v2 := Tryz.zeroValue2
 t3 := Tryz.underlying3
 a3 := Tryz.isAgg3
 z3 := Tryz.sizeOf3
 v3 := Tryz.zeroValue3
 t4 := Tryz.underlying4
 a4 := Tryz.isAgg4
 z4 := Tryz.sizeOf4
 v4 := Tryz.zeroValue4
 t5 := Tryz.underlying5
 a5 := Tryz.isAgg5
 z5 := Tryz.sizeOf5
 v5 := Tryz.zeroValue5
 t9 := Tryz.underlying9
 a9 := Tryz.isAgg9
 z9 := Tryz.sizeOf9
 v9 := Tryz.zeroValue9
 t20 := Tryz.underlying20
 a20 := Tryz.isAgg20
 z20 := Tryz.sizeOf20
 v20 := Tryz.zeroValue20
 t37 := Tryz.underlying61
 a37 := Tryz.isAgg61
 z37 := Tryz.sizeOf61
 v37 := Tryz.zeroValue61
 t46 := Tryz.underlying60
 a46 := Tryz.isAgg60
 z46 := Tryz.sizeOf60
 v46 := Tryz.zeroValue60
 t51 := Tryz.underlying58
 a51 := Tryz.isAgg58
 z51 := Tryz.sizeOf58
 v51 := Tryz.zeroValue58
 t53 := Tryz.underlying157
 a53 := Tryz.isAgg157
 z53 := Tryz.sizeOf157
 v53 := Tryz.zeroValue157
 t171 := Tryz.underlying269
 a171 := Tryz.isAgg269
 z171 := Tryz.sizeOf269
 v171 := Tryz.zeroValue269
 t173 := Tryz.underlying272
 a173 := Tryz.isAgg272
 z173 := Tryz.sizeOf272
 v173 := Tryz.zeroValue272
 t212 := Tryz.underlying325
 a212 := Tryz.isAgg325
 z212 := Tryz.sizeOf325
 v212 := Tryz.zeroValue325
 t213 := Tryz.underlying326
 a213 := Tryz.isAgg326
 z213 := Tryz.sizeOf326
 t232 := Tryz.underlying372
 a232 := Tryz.isAgg372
 z232 := Tryz.sizeOf372
 v232 := Tryz.zeroValue372
 t233 := Tryz.underlying373
 a233 := Tryz.isAgg373
 z233 := Tryz.sizeOf373
 v233 := Tryz.zeroValue373
 g17 := by kernel_rfl
 g18 := by kernel_rfl
 g19 := by kernel_rfl
 i0 := by kernel_rfl
 i2 := by kernel_rfl
 i3 := by kernel_rfl
 i4 := by kernel_rfl
 i5 := by kernel_rfl
 i9 := by kernel_rfl
 i20 := by kernel_rfl
 i37 := by kernel_rfl
 i46 := by kernel_rfl
 i51 := by kernel_rfl
 i53 := by kernel_rfl
 i171 := by kernel_rfl
 i173 := by kernel_rfl
 i212 := by kernel_rfl
 i232 := by kernel_rfl
 i233 := by kernel_rfl
 m17 := by kernel_rfl
 m18 := by kernel_rfl
 m19 := by kernel_rfl }
open Go.RowKit Go.Sort Go.Lib in
theorem Tryz.strconv_FormatInt_10 (n : Int) (h0 : -9223372036854775808 ≤ n) (h1 : n ≤ 9223372036854775807) (w : World) (htab : Lib.TabIs Tryz.prog w "internal/strconv.uint64pow10" .u64 Lib.pow10Tab) :
  Calls Tryz.prog 44 #[.int .i64 n,.int .i64 10] w fun e w' => e = .returned (.string ⟨(Lib.itoa n).toArray⟩) ∧ ∃ k os,w' = grow (w.drewN k) os := Any.strconv_FormatInt_10 Tryz.laysM173 n h0 h1 w htab
def Tryz.laysC172_ren : Go.Shelf.Ren := ⟨fun | 172 => 50 | 244 => 95 | 245 => 94 | 247 => 93 | 279 => 204 | 280 => 205 | 281 => 206 | 282 => 207 | 287 => 203 | 316 => 267 | 171 => 45 | 205 => 268 | 321 => 265 | 322 => 266 | 243 => 91 | 246 => 90 | 283 => 196 | 284 => 197 | 285 => 198 | 286 => 199 | 129 => 245 | 317 => 257 | 318 => 258 | 319 => 259 | 320 => 260 | 337 => 283 | 338 => 284 | n => n,fun | 9 => 9 | 3 => 3 | 75 => 98 | 76 => 101 | 4 => 4 | 5 => 5 | 167 => 276 | 37 => 61 | 0 => 0 | 85 => 99 | 2 => 2 | 168 => 279 | 53 => 157 | 175 => 277 | 46 => 60 | 210 => 334 | 127 => 354 | 145 => 357 | 143 => 355 | 21 => 21 | 171 => 269 | 173 => 272 | 212 => 325 | 51 => 58 | 20 => 20 | 213 => 326 | 232 => 372 | 233 => 373 | 80 => 260 | n => n,fun | 15 => 4 | 16 => 5 | 17 => 3 | 18 => 8 | 19 => 9 | n => n⟩
theorem Tryz.laysC172 : Go.Proofs.LaysC.n172 Tryz.prog Tryz.laysC172_ren := {
 mixed := by kernel_rfl
 f129 := Tryz.func245.trans (congrArg some (by kernel_rfl))
 f171 := Tryz.func45.trans (congrArg some (by kernel_rfl))
 f172 := Tryz.func50.trans (congrArg some (by kernel_rfl))
 f205 := Tryz.func268.trans (congrArg some (by kernel_rfl))
 f243 := Tryz.func91.trans (congrArg some (by kernel_rfl))
 f244 := Tryz.func95.trans (congrArg some (by kernel_rfl))
 f245 := Tryz.func94.trans (congrArg some (by kernel_rfl))
 f246 := Tryz.func90.trans (congrArg some (by kernel_rfl))
 f247 := Tryz.func93.trans (congrArg some (by kernel_rfl))
 f279 := Tryz.func204.trans (congrArg some (by kernel_rfl))
 f280 := Tryz.func205.trans (congrArg some (by kernel_rfl))
 f281 := Tryz.func206.trans (congrArg some (by kernel_rfl))
 f282 := Tryz.func207.trans (congrArg some (by kernel_rfl))
 f283 := Tryz.func196.trans (congrArg some (by kernel_rfl))
 f284 := Tryz.func197.trans (congrArg some (by kernel_rfl))
 f285 := Tryz.func198.trans (congrArg some (by kernel_rfl))
 f286 := Tryz.func199.trans (congrArg some (by kernel_rfl))
 f287 := Tryz.func203.trans (congrArg some (by kernel_rfl))
 f316 := Tryz.func267.trans (congrArg some (by kernel_rfl))
 f317 := Tryz.func257.trans (congrArg some (by kernel_rfl))
 f318 := Tryz.func258.trans (congrArg some (by kernel_rfl))
 f319 := Tryz.func259.trans (congrArg some (by kernel_rfl))
 f320 := Tryz.func260.trans (congrArg some (by kernel_rfl))
 f321 := Tryz.func265.trans (congrArg some (by kernel_rfl))
 f322 := Tryz.func266.trans (congrArg some (by kernel_rfl))
 f337 := Tryz.func283.trans (congrArg some (by kernel_rfl))
 f338 := Tryz.func284.trans (congrArg some (by kernel_rfl))
 t0 := Tryz.underlying0
 a0 := Tryz.isAgg0
 z0 := Tryz.sizeOf0
 v0 := Tryz.zeroValue0
 t2 := Tryz.underlying2
 a2 := Tryz.isAgg2
 z2 := Tryz.sizeOf2
 v2 := Tryz.zeroValue2
 t3 := Tryz.underlying3
 a3 := Tryz.isAgg3
 z3 := Tryz.sizeOf3
 v3 := Tryz.zeroValue3
 t4 := Tryz.underlying4
 a4 := Tryz.isAgg4
 z4 := Tryz.sizeOf4
 v4 := Tryz.zeroValue4
 t5 := Tryz.underlying5
 a5 := Tryz.isAgg5
 z5 := Tryz.sizeOf5
 v5 := Tryz.zeroValue5
 t9 := Tryz.underlying9
 a9 := Tryz.isAgg9
 z9 := Tryz.sizeOf9
 v9 := Tryz.zeroValue9
 t20 := Tryz.underlying20
 a20 := Tryz.isAgg20
 z20 := Tryz.sizeOf20
 v20 := Tryz.zeroValue20
 t21 := Tryz.underlying21
 a21 := Tryz.isAgg21
 z21 := Tryz.sizeOf21
 v21 := Tryz.zeroValue21
 t37 := Tryz.underlying61
 a37 := Tryz.isAgg61
 z37 := Tryz.sizeOf61
 v37 := Tryz.zeroValue61
 t46 := Tryz.underlying60
 a46 := Tryz.isAgg60
 z46 := Tryz.sizeOf60
 v46 := Tryz.zeroValue60
 t51 := Tryz.underlying58
 a51 := Tryz.isAgg58
 z51 := Tryz.sizeOf58
 v51 := Tryz.zeroValue58
 t53 := Tryz.underlying157
 a53 := Tryz.isAgg157
 z53 := Tryz.sizeOf157
 v53 := Tryz.zeroValue157
 t75 := Tryz.underlying98
 a75 := Tryz.isAgg98
 z75 := Tryz.sizeOf98
 v75 := Tryz.zeroValue98
 t76 := Tryz.underlying101
 a76 := Tryz.isAgg101
 z76 := Tryz.sizeOf101
 v76 := Tryz.zeroValue101
 t85 := Tryz.underlying99
 a85 := Tryz.isAgg99
 z85 := Tryz.sizeOf99
 v85 := Tryz.zeroValue99
 t127 := Tryz.underlying354
 a127 := Tryz.isAgg354
 z127 := Tryz.sizeOf354
 v127 := Tryz.zeroValue354
 t143 := Tryz.underlying355
 a143 := Tryz.isAgg355
 z143 := Tryz.sizeOf355
 v143 := Tryz.zeroValue355
 t145 := Tryz.underlying357
 a145 := Tryz.isAgg357
 z145 := Tryz.sizeOf357
 v145 := Tryz.zeroValue357
 t167 := Tryz.underlying276
 a167 := Tryz.isAgg276
 z167 := Tryz.sizeOf276
 v167 := Tryz.zeroValue276
 t168 := Tryz.underlying279
 a168 := Tryz.isAgg279
 z168 := Tryz.sizeOf279
 v168 := Tryz.zeroValue279
 t171 := Tryz.underlying269
 a171 := Tryz.isAgg269
 z171 := Tryz.sizeOf269
 v171 := Tryz.zeroValue269
 t173 := Tryz.underlying272
 a173 := Tryz.isAgg272
 z173 := Tryz.sizeOf272
 v173 := Tryz.zeroValue272
 t175 := Tryz.underlying277
 a175 := Tryz.isAgg277
 z175 := Tryz.sizeOf277
 v175 := Tryz.zeroValue277
 t210 := Tryz.underlying334
 a210 := Tryz.isAgg334
 z210 := Tryz.sizeOf334
 v210 := Tryz.zeroValue334
 t212 := Tryz.underlying325
 a212 := Tryz.isAgg325
 z212 := Tryz.sizeOf325
 v212 := Tryz.zeroValue325
 t213 := Tryz.underlying326
 a213 := Tryz.isAgg326
 z213 := Tryz.sizeOf326
 t232 := Tryz.underlying372
 a232 := Tryz.isAgg372
 z232 := Tryz.sizeOf372
 v232 := Tryz.zeroValue372
 t233 := Tryz.underlying373
 a233 := Tryz.isAgg373
 z233 := Tryz.sizeOf373
 v233 := Tryz.zeroValue373
 g15 := by kernel_rfl
 g16 := by kernel_rfl
 g17 := by kernel_rfl
 g18 := by kernel_rfl
 g19 := by kernel_rfl
 t80 := Tryz.underlying260
 a80 := Tryz.isAgg260
 z80 := Tryz.sizeOf260
 v80 := Tryz.zeroValue260
 i0 := by kernel_rfl
 i2 := by kernel_rfl
 i3 := by kernel_rfl
 i4 := by kernel_rfl
 i5 := by kernel_rfl
 i9 := by kernel_rfl
 i20 := by kernel_rfl
 i21 := by kernel_rfl
 i37 := by kernel_rfl
 i46 := by kernel_rfl
 i51 := by kernel_rfl
 i53 := by kernel_rfl
 i75 := by kernel_rfl
 i76 := by kernel_rfl
 i80 := by kernel_rfl
 i85 := by kernel_rfl
 i127 := by kernel_rfl
 i143 := by kernel_rfl
 i145 := by kernel_rfl
 i167 := by kernel_rfl
 i168 := by kernel_rfl
 i171 := by kernel_rfl
 i173 := by kernel_rfl
 i175 := by kernel_rfl
 i210 := by kernel_rfl
 i212 := by kernel_rfl
 i232 := by kernel_rfl
 i233 := by kernel_rfl
 m15 := by kernel_rfl
 m16 := by kernel_rfl
 m17 := by kernel_rfl
 m18 := by kernel_rfl
 m19 := by kernel_rfl
 c0 := by kernel_rfl
 c2 := by kernel_rfl
 c3 := by kernel_rfl
 c4 := by kernel_rfl
 c5 := by kernel_rfl
 c9 := by kernel_rfl
 c20 := by kernel_rfl
 c21 := by kernel_rfl
 c37 := by kernel_rfl
 c46 := by kernel_rfl
 c51 := by kernel_rfl
 c53 := by kernel_rfl
 c75 := by kernel_rfl
 c76 := by kernel_rfl
 c80 := by kernel_rfl
 c85 := by kernel_rfl
 c127 := by kernel_rfl
 c143 := by kernel_rfl
 c145 := by kernel_rfl
 c167 := by kernel_rfl
 c168 := by kernel_rfl
 c171 := by kernel_rfl
 c173 := by kernel_rfl
 c175 := by kernel_rfl
 c210 := by kernel_rfl
 c212 := by kernel_rfl
 c213 := by kernel_rfl
 c232 := by kernel_rfl
 c233 := by kernel_rfl }
open Go.RowKit in
theorem Tryz.strconv_Atoi_ok (s : ByteArray) (hmax : s.size ≤ 9223372036854775806) (v : Int) (h : Lib.atoiAll s.data.toList = .ok v) (w : World) :
  Calls Tryz.prog 50 #[.string s] w fun e w' => e = .returned (.tuple #[.int .i64 v,.nilIface]) ∧ (w' = w ∨ ∃ t,w' = Lib.bytesWorld w 5 t) := Any.strconv_Atoi_ok Tryz.laysC172 s hmax v h w
open Go.RowKit in
theorem Tryz.strconv_Atoi_syntax (s : ByteArray) (hlim : s.size ≤ 281474976710656) (h : Lib.atoiAll s.data.toList = Lib.NumEnd.syntax) (ev : Value) (w : World) (hv : w.cell? ⟨4,0,none⟩ = some ev) (hev : ev = .nilIface ∨ ∃ te pe,ev = .iface te pe) :
  Calls Tryz.prog 50 #[.string s] w fun e w' => ∃ N,e = .returned (.tuple #[.int .i64 (0),.iface 279 (.pointer (some ⟨N,0,none⟩))]) ∧ w.heap.size ≤ N ∧ w'.heap[N]? = some (.cells #[.string ⟨#[65,116,111,105]⟩,.string s,ev] 334 (0,0)) ∧ Below w.heap.size w w' := Any.strconv_Atoi_syntax Tryz.laysC172 s hlim h ev w hv hev
open Go.RowKit in
theorem Tryz.strconv_Atoi_range (s : ByteArray) (hlim : s.size ≤ 281474976710656) (h : Lib.atoiAll s.data.toList = .range) (ev : Value) (w : World) (hv : w.cell? ⟨5,0,none⟩ = some ev) (hev : ev = .nilIface ∨ ∃ te pe,ev = .iface te pe) :
  Calls Tryz.prog 50 #[.string s] w fun e w' => ∃ N,e = .returned (.tuple #[.int .i64 (Lib.atoiSat s.data.toList),.iface 279 (.pointer (some ⟨N,0,none⟩))]) ∧ w.heap.size ≤ N ∧ w'.heap[N]? = some (.cells #[.string ⟨#[65,116,111,105]⟩,.string s,ev] 334 (0,0)) ∧ Below w.heap.size w w' := Any.strconv_Atoi_range Tryz.laysC172 s hlim h ev w hv hev
def Tryz.laysC174_ren : Go.Shelf.Ren := ⟨fun | 174 => 49 | 247 => 93 | 245 => 94 | 287 => 203 | 279 => 204 | 280 => 205 | 281 => 206 | 282 => 207 | 321 => 265 | 322 => 266 | 316 => 267 | 171 => 45 | 205 => 268 | 243 => 91 | 246 => 90 | 283 => 196 | 284 => 197 | 285 => 198 | 286 => 199 | 129 => 245 | 317 => 257 | 318 => 258 | 319 => 259 | 320 => 260 | 337 => 283 | 338 => 284 | n => n,fun | 9 => 9 | 3 => 3 | 2 => 2 | 75 => 98 | 85 => 99 | 4 => 4 | 167 => 276 | 5 => 5 | 53 => 157 | 175 => 277 | 46 => 60 | 168 => 279 | 37 => 61 | 0 => 0 | 210 => 334 | 21 => 21 | 127 => 354 | 145 => 357 | 143 => 355 | 171 => 269 | 173 => 272 | 212 => 325 | 51 => 58 | 20 => 20 | 213 => 326 | 232 => 372 | 233 => 373 | 80 => 260 | n => n,fun | 15 => 4 | 16 => 5 | 17 => 3 | 18 => 8 | 19 => 9 | n => n⟩
theorem Tryz.laysC174 : Go.Proofs.LaysC.n174 Tryz.prog Tryz.laysC174_ren := {
 mixed := by kernel_rfl
 f129 := Tryz.func245.trans (congrArg some (by kernel_rfl))
 f171 := Tryz.func45.trans (congrArg some (by kernel_rfl))
 f174 := Tryz.func49.trans (congrArg some (by kernel_rfl))
 f205 := Tryz.func268.trans (congrArg some (by kernel_rfl))
 f243 := Tryz.func91.trans (congrArg some (by kernel_rfl))
 f245 := Tryz.func94.trans (congrArg some (by kernel_rfl))
 f246 := Tryz.func90.trans (congrArg some (by kernel_rfl))
 f247 := Tryz.func93.trans (congrArg some (by kernel_rfl))
 f279 := Tryz.func204.trans (congrArg some (by kernel_rfl))
 f280 := Tryz.func205.trans (congrArg some (by kernel_rfl))
 f281 := Tryz.func206.trans (congrArg some (by kernel_rfl))
 f282 := Tryz.func207.trans (congrArg some (by kernel_rfl))
 f283 := Tryz.func196.trans (congrArg some (by kernel_rfl))
 f284 := Tryz.func197.trans (congrArg some (by kernel_rfl))
 f285 := Tryz.func198.trans (congrArg some (by kernel_rfl))
 f286 := Tryz.func199.trans (congrArg some (by kernel_rfl))
 f287 := Tryz.func203.trans (congrArg some (by kernel_rfl))
 f316 := Tryz.func267.trans (congrArg some (by kernel_rfl))
 f317 := Tryz.func257.trans (congrArg some (by kernel_rfl))
 f318 := Tryz.func258.trans (congrArg some (by kernel_rfl))
 f319 := Tryz.func259.trans (congrArg some (by kernel_rfl))
 f320 := Tryz.func260.trans (congrArg some (by kernel_rfl))
 f321 := Tryz.func265.trans (congrArg some (by kernel_rfl))
 f322 := Tryz.func266.trans (congrArg some (by kernel_rfl))
 f337 := Tryz.func283.trans (congrArg some (by kernel_rfl))
 f338 := Tryz.func284.trans (congrArg some (by kernel_rfl))
 t0 := Tryz.underlying0
 a0 := Tryz.isAgg0
 z0 := Tryz.sizeOf0
 v0 := Tryz.zeroValue0
 t2 := Tryz.underlying2
 a2 := Tryz.isAgg2
 z2 := Tryz.sizeOf2
 v2 := Tryz.zeroValue2
 t3 := Tryz.underlying3
 a3 := Tryz.isAgg3
 z3 := Tryz.sizeOf3
 v3 := Tryz.zeroValue3
 t4 := Tryz.underlying4
 a4 := Tryz.isAgg4
 z4 := Tryz.sizeOf4
 v4 := Tryz.zeroValue4
 t5 := Tryz.underlying5
 a5 := Tryz.isAgg5
 z5 := Tryz.sizeOf5
 v5 := Tryz.zeroValue5
 t9 := Tryz.underlying9
 a9 := Tryz.isAgg9
 z9 := Tryz.sizeOf9
 v9 := Tryz.zeroValue9
 t20 := Tryz.underlying20
 a20 := Tryz.isAgg20
 z20 := Tryz.sizeOf20
 v20 := Tryz.zeroValue20
 t21 := Tryz.underlying21
 a21 := Tryz.isAgg21
 z21 := Tryz.sizeOf21
 v21 := Tryz.zeroValue21
 t37 := Tryz.underlying61
 a37 := Tryz.isAgg61
 z37 := Tryz.sizeOf61
 v37 := Tryz.zeroValue61
 t46 := Tryz.underlying60
 a46 := Tryz.isAgg60
 z46 := Tryz.sizeOf60
 v46 := Tryz.zeroValue60
 t51 := Tryz.underlying58
 a51 := Tryz.isAgg58
 z51 := Tryz.sizeOf58
 v51 := Tryz.zeroValue58
 t53 := Tryz.underlying157
 a53 := Tryz.isAgg157
 z53 := Tryz.sizeOf157
 v53 := Tryz.zeroValue157
 t75 := Tryz.underlying98
 a75 := Tryz.isAgg98
 z75 := Tryz.sizeOf98
 v75 := Tryz.zeroValue98
 t85 := Tryz.underlying99
 a85 := Tryz.isAgg99
 z85 := Tryz.sizeOf99
 v85 := Tryz.zeroValue99
 t127 := Tryz.underlying354
 a127 := Tryz.isAgg354
 z127 := Tryz.sizeOf354
 v127 := Tryz.zeroValue354
 t143 := Tryz.underlying355
 a143 := Tryz.isAgg355
 z143 := Tryz.sizeOf355
 v143 := Tryz.zeroValue355
 t145 := Tryz.underlying357
 a145 := Tryz.isAgg357
 z145 := Tryz.sizeOf357
 v145 := Tryz.zeroValue357
 t167 := Tryz.underlying276
 a167 := Tryz.isAgg276
 z167 := Tryz.sizeOf276
 v167 := Tryz.zeroValue276
 t168 := Tryz.underlying279
 a168 := Tryz.isAgg279
 z168 := Tryz.sizeOf279
 v168 := Tryz.zeroValue279
 t171 := Tryz.underlying269
 a171 := Tryz.isAgg269
 z171 := Tryz.sizeOf269
 v171 := Tryz.zeroValue269
 t173 := Tryz.underlying272
 a173 := Tryz.isAgg272
 z173 := Tryz.sizeOf272
 v173 := Tryz.zeroValue272
 t175 := Tryz.underlying277
 a175 := Tryz.isAgg277
 z175 := Tryz.sizeOf277
 v175 := Tryz.zeroValue277
 t210 := Tryz.underlying334
 a210 := Tryz.isAgg334
 z210 := Tryz.sizeOf334
 v210 := Tryz.zeroValue334
 t212 := Tryz.underlying325
 a212 := Tryz.isAgg325
 z212 := Tryz.sizeOf325
 v212 := Tryz.zeroValue325
 t213 := Tryz.underlying326
 a213 := Tryz.isAgg326
 z213 := Tryz.sizeOf326
 t232 := Tryz.underlying372
 a232 := Tryz.isAgg372
 z232 := Tryz.sizeOf372
 v232 := Tryz.zeroValue372
 t233 := Tryz.underlying373
 a233 := Tryz.isAgg373
 z233 := Tryz.sizeOf373
 v233 := Tryz.zeroValue373
 g15 := by kernel_rfl
 g16 := by kernel_rfl
 g17 := by kernel_rfl
 g18 := by kernel_rfl
 g19 := by kernel_rfl
 t80 := Tryz.underlying260
 a80 := Tryz.isAgg260
 z80 := Tryz.sizeOf260
 v80 := Tryz.zeroValue260
 i0 := by kernel_rfl
 i2 := by kernel_rfl
 i3 := by kernel_rfl
 i4 := by kernel_rfl
 i5 := by kernel_rfl
 i9 := by kernel_rfl
 i20 := by kernel_rfl
 i21 := by kernel_rfl
 i37 := by kernel_rfl
 i46 := by kernel_rfl
 i51 := by kernel_rfl
 i53 := by kernel_rfl
 i75 := by kernel_rfl
 i80 := by kernel_rfl
 i85 := by kernel_rfl
 i127 := by kernel_rfl
 i143 := by kernel_rfl
 i145 := by kernel_rfl
 i167 := by kernel_rfl
 i168 := by kernel_rfl
 i171 := by kernel_rfl
 i173 := by kernel_rfl
 i175 := by kernel_rfl
 i210 := by kernel_rfl
 i212 := by kernel_rfl
 i232 := by kernel_rfl
 i233 := by kernel_rfl
 m15 := by kernel_rfl
 m16 := by kernel_rfl
 m17 := by kernel_rfl
 m18 := by kernel_rfl
 m19 := by kernel_rfl
 c0 := by kernel_rfl
 c2 := by kernel_rfl
 c3 := by kernel_rfl
 c4 := by kernel_rfl
 c5 := by kernel_rfl
 c9 := by kernel_rfl
 c20 := by kernel_rfl
 c21 := by kernel_rfl
 c37 := by kernel_rfl
 c46 := by kernel_rfl
 c51 := by kernel_rfl
 c53 := by kernel_rfl
 c75 := by kernel_rfl
 c80 := by kernel_rfl
 c85 := by kernel_rfl
 c127 := by kernel_rfl
 c143 := by kernel_rfl
 c145 := by kernel_rfl
 c167 := by kernel_rfl
 c168 := by kernel_rfl
 c171 := by kernel_rfl
 c173 := by kernel_rfl
 c175 := by kernel_rfl
 c210 := by kernel_rfl
 c212 := by kernel_rfl
 c213 := by kernel_rfl
 c232 := by kernel_rfl
 c233 := by kernel_rfl }
open Go.RowKit in
theorem Tryz.strconv_ParseInt_10_at64_ok (s : ByteArray) (hmax : s.size ≤ 9223372036854775806) (v : Int) (h : Lib.parseIntB 64 s.data.toList = .ok v) (w : World) :
  Calls Tryz.prog 49 #[.string s,.int .i64 10,.int .i64 64] w fun e w' => e = .returned (.tuple #[.int .i64 v,.nilIface]) ∧ (w' = w ∨ ∃ t,w' = Lib.bytesWorld w 5 t) := Any.strconv_ParseInt_10_at64_ok Tryz.laysC174 s hmax v h w
open Go.RowKit in
theorem Tryz.strconv_ParseInt_10_at64_syntax (s : ByteArray) (hlim : s.size ≤ 281474976710656) (h : Lib.parseIntB 64 s.data.toList = Lib.NumEnd.syntax) (ev : Value) (w : World) (hv : w.cell? ⟨4,0,none⟩ = some ev) (hev : ev = .nilIface ∨ ∃ te pe,ev = .iface te pe) :
  Calls Tryz.prog 49 #[.string s,.int .i64 10,.int .i64 64] w fun e w' => ∃ N,e = .returned (.tuple #[.int .i64 (0),.iface 279 (.pointer (some ⟨N,0,none⟩))]) ∧ w.heap.size ≤ N ∧ w'.heap[N]? = some (.cells #[.string ⟨#[80,97,114,115,101,73,110,116]⟩,.string s,ev] 334 (0,0)) ∧ Below w.heap.size w w' := Any.strconv_ParseInt_10_at64_syntax Tryz.laysC174 s hlim h ev w hv hev
open Go.RowKit in
theorem Tryz.strconv_ParseInt_10_at64_range (s : ByteArray) (hlim : s.size ≤ 281474976710656) (h : Lib.parseIntB 64 s.data.toList = .range) (ev : Value) (w : World) (hv : w.cell? ⟨5,0,none⟩ = some ev) (hev : ev = .nilIface ∨ ∃ te pe,ev = .iface te pe) :
  Calls Tryz.prog 49 #[.string s,.int .i64 10,.int .i64 64] w fun e w' => ∃ N,e = .returned (.tuple #[.int .i64 (Lib.intSat 64 s.data.toList),.iface 279 (.pointer (some ⟨N,0,none⟩))]) ∧ w.heap.size ≤ N ∧ w'.heap[N]? = some (.cells #[.string ⟨#[80,97,114,115,101,73,110,116]⟩,.string s,ev] 334 (0,0)) ∧ Below w.heap.size w w' := Any.strconv_ParseInt_10_at64_range Tryz.laysC174 s hlim h ev w hv hev
def Tryz.lays219_ren : Go.Shelf.Ren := ⟨fun | 219 => 264 | 217 => 286 | 225 => 287 | 224 => 288 | 267 => 289 | 266 => 296 | 314 => 297 | n => n,fun | 9 => 9 | 3 => 3 | 4 => 4 | 5 => 5 | 46 => 60 | 146 => 377 | 51 => 58 | n => n,fun | 1 => 7 | n => n⟩
def Tryz.lays144_ren : Go.Shelf.Ren := ⟨fun | 144 => 117 | 143 => 202 | 219 => 264 | 217 => 286 | 225 => 287 | 224 => 288 | 267 => 289 | 266 => 296 | 314 => 297 | n => n,fun | 9 => 9 | 4 => 4 | 3 => 3 | 5 => 5 | 46 => 60 | 146 => 377 | 51 => 58 | n => n,fun | 1 => 7 | n => n⟩
theorem Tryz.lays144 : Go.Proofs.Lays.n144 Tryz.prog Tryz.lays144_ren := {
 mixed := by kernel_rfl
 f143 := Tryz.func202.trans (congrArg some (by kernel_rfl))
 f144 := Tryz.func117.trans (congrArg some (by kernel_rfl))
 f217 := Tryz.func286.trans (congrArg some (by kernel_rfl))
 f219 := Tryz.func264.trans (congrArg some (by kernel_rfl))
 f224 := Tryz.func288.trans (congrArg some (by kernel_rfl))
 f225 := Tryz.func287.trans (congrArg some (by kernel_rfl))
 f266 := Tryz.func296.trans (congrArg some (by kernel_rfl))
 f267 := Tryz.func289.trans (congrArg some (by kernel_rfl))
 f314 := Tryz.func297.trans (congrArg some (by kernel_rfl))
 t3 := Tryz.underlying3
 a3 := Tryz.isAgg3
 z3 := Tryz.sizeOf3
 v3 := Tryz.zeroValue3
 t4 := Tryz.underlying4
 a4 := Tryz.isAgg4
 z4 := Tryz.sizeOf4
 v4 := Tryz.zeroValue4
 t5 := Tryz.underlying5
 a5 := Tryz.isAgg5
 z5 := Tryz.sizeOf5
 v5 := Tryz.zeroValue5
 t9 := Tryz.underlying9
 a9 := Tryz.isAgg9
 z9 := Tryz.sizeOf9
 v9 := Tryz.zeroValue9
 t46 := Tryz.underlying60
 a46 := Tryz.isAgg60
 z46 := Tryz.sizeOf60
 v46 := Tryz.zeroValue60
 t51 := Tryz.underlying58
 a51 := Tryz.isAgg58
 z51 := Tryz.sizeOf58
 v51 := Tryz.zeroValue58
 t146 := Tryz.underlying377
 a146 := Tryz.isAgg377
 z146 := Tryz.sizeOf377
 v146 := Tryz.zeroValue377
 g1 := by kernel_rfl }
open Go.RowKit Go.Lib in
theorem Tryz.strings_Contains (s sub : ByteArray) (m : Int) (w : World) (hs : s.size < 4294967281) (hm : w.cell? ⟨7,0,none⟩ = some (.int .i64 m)) :
  Calls Tryz.prog 117 #[.string s,.string sub] w fun e w' => e = .returned (.bool (Lib.contains s.data.toList sub.data.toList)) ∧ w' = w := Any.strings_Contains Tryz.lays144 s sub m w hs hm
def Tryz.lays145_ren : Go.Shelf.Ren := ⟨fun | 145 => 96 | 220 => 208 | 219 => 264 | 217 => 286 | 225 => 287 | 224 => 288 | 267 => 289 | 266 => 296 | 314 => 297 | n => n,fun | 9 => 9 | 4 => 4 | 59 => 161 | 3 => 3 | 5 => 5 | 46 => 60 | 146 => 377 | 51 => 58 | n => n,fun | 1 => 7 | n => n⟩
theorem Tryz.lays145 : Go.Proofs.Lays.n145 Tryz.prog Tryz.lays145_ren := {
 mixed := by kernel_rfl
 f145 := Tryz.func96.trans (congrArg some (by kernel_rfl))
 f217 := Tryz.func286.trans (congrArg some (by kernel_rfl))
 f219 := Tryz.func264.trans (congrArg some (by kernel_rfl))
 f220 := Tryz.func208.trans (congrArg some (by kernel_rfl))
 f224 := Tryz.func288.trans (congrArg some (by kernel_rfl))
 f225 := Tryz.func287.trans (congrArg some (by kernel_rfl))
 f266 := Tryz.func296.trans (congrArg some (by kernel_rfl))
 f267 := Tryz.func289.trans (congrArg some (by kernel_rfl))
 f314 := Tryz.func297.trans (congrArg some (by kernel_rfl))
 t3 := Tryz.underlying3
 a3 := Tryz.isAgg3
 z3 := Tryz.sizeOf3
 v3 := Tryz.zeroValue3
 t4 := Tryz.underlying4
 a4 := Tryz.isAgg4
 z4 := Tryz.sizeOf4
 v4 := Tryz.zeroValue4
 t5 := Tryz.underlying5
 a5 := Tryz.isAgg5
 z5 := Tryz.sizeOf5
 v5 := Tryz.zeroValue5
 t9 := Tryz.underlying9
 a9 := Tryz.isAgg9
 z9 := Tryz.sizeOf9
 v9 := Tryz.zeroValue9
 t46 := Tryz.underlying60
 a46 := Tryz.isAgg60
 z46 := Tryz.sizeOf60
 v46 := Tryz.zeroValue60
 t51 := Tryz.underlying58
 a51 := Tryz.isAgg58
 z51 := Tryz.sizeOf58
 v51 := Tryz.zeroValue58
 t59 := Tryz.underlying161
 a59 := Tryz.isAgg161
 z59 := Tryz.sizeOf161
 v59 := Tryz.zeroValue161
 t146 := Tryz.underlying377
 a146 := Tryz.isAgg377
 z146 := Tryz.sizeOf377
 v146 := Tryz.zeroValue377
 g1 := by kernel_rfl }
open Go.RowKit Go.Lib in
theorem Tryz.strings_Cut (s sep : ByteArray) (m : Int) (w : World) (hs : s.size < 4294967281) (hm : w.cell? ⟨7,0,none⟩ = some (.int .i64 m)) :
  Calls Tryz.prog 96 #[.string s,.string sep] w fun e w' => e = .returned (.tuple #[.string ⟨(Lib.cut s.data.toList sep.data.toList).1.toArray⟩,.string ⟨(Lib.cut s.data.toList sep.data.toList).2.1.toArray⟩,.bool (Lib.cut s.data.toList sep.data.toList).2.2]) ∧ ∃ n,w' = w.drewN n := Any.strings_Cut Tryz.lays145 s sep m w hs hm
def Tryz.lays189_ren : Go.Shelf.Ren := ⟨fun | 189 => 73 | 125 => 139 | 257 => 138 | 128 => 244 | 129 => 245 | 294 => 235 | 295 => 236 | 296 => 237 | 297 => 238 | 298 => 239 | 299 => 240 | 216 => 241 | 300 => 242 | 301 => 243 | 328 => 277 | 329 => 278 | 330 => 279 | 331 => 280 | 332 => 281 | 215 => 282 | 343 => 295 | n => n,fun | 28 => 52 | 3 => 3 | 46 => 60 | 0 => 0 | 51 => 58 | 53 => 157 | 4 => 4 | 183 => 307 | 182 => 306 | 131 => 23 | 5 => 5 | 9 => 9 | 218 => 349 | 222 => 318 | 228 => 369 | 229 => 370 | n => n,fun | n => n⟩
theorem Tryz.lays189 : Go.Proofs.Lays.n189 Tryz.prog Tryz.lays189_ren := {
 mixed := by kernel_rfl
 f125 := Tryz.func139.trans (congrArg some (by kernel_rfl))
 f128 := Tryz.func244.trans (congrArg some (by kernel_rfl))
 f129 := Tryz.func245.trans (congrArg some (by kernel_rfl))
 f189 := Tryz.func73.trans (congrArg some (by kernel_rfl))
 f215 := Tryz.func282.trans (congrArg some (by kernel_rfl))
 f216 := Tryz.func241.trans (congrArg some (by kernel_rfl))
 f257 := Tryz.func138.trans (congrArg some (by kernel_rfl))
 f294 := Tryz.func235.trans (congrArg some (by kernel_rfl))
 f295 := Tryz.func236.trans (congrArg some (by kernel_rfl))
 f296 := Tryz.func237.trans (congrArg some (by kernel_rfl))
 f297 := Tryz.func238.trans (congrArg some (by kernel_rfl))
 f298 := Tryz.func239.trans (congrArg some (by kernel_rfl))
 f299 := Tryz.func240.trans (congrArg some (by kernel_rfl))
 f300 := Tryz.func242.trans (congrArg some (by kernel_rfl))
 f301 := Tryz.func243.trans (congrArg some (by kernel_rfl))
 f328 := Tryz.func277.trans (congrArg some (by kernel_rfl))
 f329 := Tryz.func278.trans (congrArg some (by kernel_rfl))
 f330 := Tryz.func279.trans (congrArg some (by kernel_rfl))
 f331 := Tryz.func280.trans (congrArg some (by kernel_rfl))
 f332 := Tryz.func281.trans (congrArg some (by kernel_rfl))
 f343 := Tryz.func295.trans (congrArg some (by kernel_rfl))
 t0 := Tryz.underlying0
 a0 := Tryz.isAgg0
 z0 := Tryz.sizeOf0
 v0 := Tryz.zeroValue0
 t3 := Tryz.underlying3
 a3 := Tryz.isAgg3
 z3 := Tryz.sizeOf3
 v3 := Tryz.zeroValue3
 t4 := Tryz.underlying4
 a4 := Tryz.isAgg4
 z4 := Tryz.sizeOf4
 v4 := Tryz.zeroValue4
 t5 := Tryz.underlying5
 a5 := Tryz.isAgg5
 z5 := Tryz.sizeOf5
 v5 := Tryz.zeroValue5
 t9 := Tryz.underlying9
 a9 := Tryz.isAgg9
 z9 := Tryz.sizeOf9
 v9 := Tryz.zeroValue9
 t28 := Tryz.underlying52
 a28 := Tryz.isAgg52
 z28 := Tryz.sizeOf52
 v28 := Tryz.zeroValue52
 t46 := Tryz.underlying60
 a46 := Tryz.isAgg60
 z46 := Tryz.sizeOf60
 v46 := Tryz.zeroValue60
 t51 := Tryz.underlying58
 a51 := Tryz.isAgg58
 z51 := Tryz.sizeOf58
 v51 := Tryz.zeroValue58
 t53 := Tryz.underlying157
 a53 := Tryz.isAgg157
 z53 := Tryz.sizeOf157
 v53 := Tryz.zeroValue157
 t131 := Tryz.underlying23
 a131 := Tryz.isAgg23
 z131 := Tryz.sizeOf23
 v131 := Tryz.zeroValue23
 t182 := Tryz.underlying306
 a182 := Tryz.isAgg306
 z182 := Tryz.sizeOf306
 v182 := Tryz.zeroValue306
 t183 := Tryz.underlying307
 a183 := Tryz.isAgg307
 z183 := Tryz.sizeOf307
 v183 := Tryz.zeroValue307
 t218 := Tryz.underlying349
 a218 := Tryz.isAgg349
 z218 := Tryz.sizeOf349
 v218 := Tryz.zeroValue349
 t222 := Tryz.underlying318
 a222 := Tryz.isAgg318
 z222 := Tryz.sizeOf318
 v222 := Tryz.zeroValue318
 t228 := Tryz.underlying369
 a228 := Tryz.isAgg369
 z228 := Tryz.sizeOf369
 v228 := Tryz.zeroValue369
 t229 := Tryz.underlying370
 a229 := Tryz.isAgg370
 z229 := Tryz.sizeOf370
 v229 := Tryz.zeroValue370 }
open Go.Sort Go.RowKit in
theorem Tryz.slices_Sort_int (blk off cap : Nat) (zs : List Int) (w : World) (hH : Holds (Value.int .i64) w blk off zs.toArray) (hblk : blk < w.heap.size) (hsz : zs.length < 4611686018427387904) :
  Calls Tryz.prog 73 #[.slice (some ⟨blk,off,none⟩) zs.length cap] w fun e w' =>
   e = .returned (.tuple #[]) ∧ ∃ n os,w' = grow (putRow (Value.int .i64) (Sort.ahead w n) blk off (zs.mergeSort fun x y => decide (x ≤ y)).toArray) os := Any.slices_Sort_int Tryz.lays189 blk off cap zs w hH hblk hsz
def Tryz.lays221_ren : Go.Shelf.Ren := ⟨fun | 221 => 92 | 268 => 200 | 138 => 201 | 143 => 202 | 195 => 261 | 197 => 262 | 218 => 263 | 219 => 264 | 260 => 285 | 217 => 286 | 225 => 287 | 224 => 288 | 267 => 289 | 266 => 296 | 314 => 297 | n => n,fun | 9 => 9 | 3 => 3 | 31 => 43 | 4 => 4 | 0 => 0 | 105 => 328 | 21 => 21 | 5 => 5 | 46 => 60 | 119 => 282 | 139 => 376 | 138 => 375 | 146 => 377 | 51 => 58 | n => n,fun | 1 => 7 | 3 => 10 | 4 => 11 | n => n⟩
def Tryz.lays146_ren : Go.Shelf.Ren := ⟨fun | 146 => 48 | 221 => 92 | 268 => 200 | 138 => 201 | 143 => 202 | 195 => 261 | 197 => 262 | 218 => 263 | 219 => 264 | 260 => 285 | 217 => 286 | 225 => 287 | 224 => 288 | 267 => 289 | 266 => 296 | 314 => 297 | n => n,fun | 9 => 9 | 31 => 43 | 3 => 3 | 4 => 4 | 0 => 0 | 105 => 328 | 21 => 21 | 5 => 5 | 46 => 60 | 119 => 282 | 139 => 376 | 138 => 375 | 146 => 377 | 51 => 58 | n => n,fun | 1 => 7 | 3 => 10 | 4 => 11 | n => n⟩
theorem Tryz.lays146 : Go.Proofs.Lays.n146 Tryz.prog Tryz.lays146_ren := {
 mixed := by kernel_rfl
 f138 := Tryz.func201.trans (congrArg some (by kernel_rfl))
 f143 := Tryz.func202.trans (congrArg some (by kernel_rfl))
 f146 := Tryz.func48.trans (congrArg some (by kernel_rfl))
 f195 := Tryz.func261.trans (congrArg some (by kernel_rfl))
 f197 := Tryz.func262.trans (congrArg some (by kernel_rfl))
 f217 := Tryz.func286.trans (congrArg some (by kernel_rfl))
 f218 := Tryz.func263.trans (congrArg some (by kernel_rfl))
 f219 := Tryz.func264.trans (congrArg some (by kernel_rfl))
 f221 := Tryz.func92.trans (congrArg some (by kernel_rfl))
 f224 := Tryz.func288.trans (congrArg some (by kernel_rfl))
 f225 := Tryz.func287.trans (congrArg some (by kernel_rfl))
 f260 := Tryz.func285.trans (congrArg some (by kernel_rfl))
 f266 := Tryz.func296.trans (congrArg some (by kernel_rfl))
 f267 := Tryz.func289.trans (congrArg some (by kernel_rfl))
 f268 := Tryz.func200.trans (congrArg some (by kernel_rfl))
 f314 := Tryz.func297.trans (congrArg some (by kernel_rfl))
 t0 := Tryz.underlying0
 a0 := Tryz.isAgg0
 z0 := Tryz.sizeOf0
 v0 := Tryz.zeroValue0
 t3 := Tryz.underlying3
 a3 := Tryz.isAgg3
 z3 := Tryz.sizeOf3
 v3 := Tryz.zeroValue3
 t4 := Tryz.underlying4
 a4 := Tryz.isAgg4
 z4 := Tryz.sizeOf4
 v4 := Tryz.zeroValue4
 t5 := Tryz.underlying5
 a5 := Tryz.isAgg5
 z5 := Tryz.sizeOf5
 v5 := Tryz.zeroValue5
 t9 := Tryz.underlying9
 a9 := Tryz.isAgg9
 z9 := Tryz.sizeOf9
 v9 := Tryz.zeroValue9
 t21 := Tryz.underlying21
 a21 := Tryz.isAgg21
 z21 := Tryz.sizeOf21
 v21 := Tryz.zeroValue21
 t31 := Tryz.underlying43
 a31 := Tryz.isAgg43
 z31 := Tryz.sizeOf43
 v31 := Tryz.zeroValue43
 t46 := Tryz.underlying60
 a46 := Tryz.isAgg60
 z46 := Tryz.sizeOf60
 v46 := Tryz.zeroValue60
 t51 := Tryz.underlying58
 a51 := Tryz.isAgg58
 z51 := Tryz.sizeOf58
 v51 := Tryz.zeroValue58
 t105 := Tryz.underlying328
 a105 := Tryz.isAgg328
 z105 := Tryz.sizeOf328
 v105 := Tryz.zeroValue328
 t119 := Tryz.underlying282
 a119 := Tryz.isAgg282
 z119 := Tryz.sizeOf282
 t138 := Tryz.underlying375
 a138 := Tryz.isAgg375
 z138 := Tryz.sizeOf375
 v138 := Tryz.zeroValue375
 t139 := Tryz.underlying376
 a139 := Tryz.isAgg376
 z139 := Tryz.sizeOf376
 v139 := Tryz.zeroValue376
 t146 := Tryz.underlying377
 a146 := Tryz.isAgg377
 z146 := Tryz.sizeOf377
 v146 := Tryz.zeroValue377
 g1 := by kernel_rfl
 g3 := by kernel_rfl
 g4 := by kernel_rfl }
open Go.RowKit Go.Lib in
theorem Tryz.strings_Split (s sep : ByteArray) (m : Int) (w : World) (hs : s.size < 4294967281) (hm : w.cell? ⟨7,0,none⟩ = some (.int .i64 m)) (h1 : 1 ≤ sep.size) :
  Calls Tryz.prog 48 #[.string s,.string sep] w fun e w' =>
   e = .returned (.slice (some ⟨w.heap.size,0,none⟩) (Lib.countB s sep + 1) (Lib.countB s sep + 1)) ∧ w' = w.alloc (.cells ((Lib.splitB sep 0 (Lib.countB s sep) s).map Value.string).toArray 9) := Any.strings_Split Tryz.lays146 (by kernel_rfl) s sep m w hs hm h1
def Tryz.lays157_ren : Go.Shelf.Ren := ⟨fun | 157 => 98 | 229 => 212 | 199 => 213 | 261 => 269 | 311 => 290 | 312 => 291 | n => n,fun | 9 => 9 | 31 => 43 | 3 => 3 | 5 => 5 | 4 => 4 | 119 => 282 | 0 => 0 | 40 => 284 | 152 => 336 | 21 => 21 | 154 => 338 | 51 => 58 | 141 => 340 | 196 => 361 | 193 => 358 | 198 => 363 | 49 => 66 | 194 => 359 | 201 => 366 | 226 => 379 | 46 => 60 | 227 => 380 | n => n,fun | 0 => 2 | 6 => 6 | n => n⟩
theorem Tryz.lays157 : Go.Proofs.Lays.n157 Tryz.prog Tryz.lays157_ren := {
 mixed := by kernel_rfl
 f157 := Tryz.func98.trans (congrArg some (by kernel_rfl))
 f199 := Tryz.func213.trans (congrArg some (by kernel_rfl))
 f229 := Tryz.func212.trans (congrArg some (by kernel_rfl))
 f261 := Tryz.func269.trans (congrArg some (by kernel_rfl))
 f311 := Tryz.func290.trans (congrArg some (by kernel_rfl))
 f312 := Tryz.func291.trans (congrArg some (by kernel_rfl))
 t0 := Tryz.underlying0
 a0 := Tryz.isAgg0
 z0 := Tryz.sizeOf0
 v0 := Tryz.zeroValue0
 t3 := Tryz.underlying3
 a3 := Tryz.isAgg3
 z3 := Tryz.sizeOf3
 v3 := Tryz.zeroValue3
 t4 := Tryz.underlying4
 a4 := Tryz.isAgg4
 z4 := Tryz.sizeOf4
 v4 := Tryz.zeroValue4
 t5 := Tryz.underlying5
 a5 := Tryz.isAgg5
 z5 := Tryz.sizeOf5
 v5 := Tryz.zeroValue5
 t9 := Tryz.underlying9
 a9 := Tryz.isAgg9
 z9 := Tryz.sizeOf9
 v9 := Tryz.zeroValue9
 t21 := Tryz.underlying21
 a21 := Tryz.isAgg21
 z21 := Tryz.sizeOf21
 v21 := Tryz.zeroValue21
 t31 := Tryz.underlying43
 a31 := Tryz.isAgg43
 z31 := Tryz.sizeOf43
 v31 := Tryz.zeroValue43
 t40 := Tryz.underlying284
 a40 := Tryz.isAgg284
 z40 := Tryz.sizeOf284
 v40 := Tryz.zeroValue284
 t46 := Tryz.underlying60
 a46 := Tryz.isAgg60
 z46 := Tryz.sizeOf60
 v46 := Tryz.zeroValue60
 t49 := Tryz.underlying66
 a49 := Tryz.isAgg66
 z49 := Tryz.sizeOf66
 v49 := Tryz.zeroValue66
 t51 := Tryz.underlying58
 a51 := Tryz.isAgg58
 z51 := Tryz.sizeOf58
 v51 := Tryz.zeroValue58
 t119 := Tryz.underlying282
 a119 := Tryz.isAgg282
 z119 := Tryz.sizeOf282
 t141 := Tryz.underlying340
 a141 := Tryz.isAgg340
 z141 := Tryz.sizeOf340
 v141 := Tryz.zeroValue340
 t152 := Tryz.underlying336
 a152 := Tryz.isAgg336
 z152 := Tryz.sizeOf336
 v152 := Tryz.zeroValue336
 t154 := Tryz.underlying338
 a154 := Tryz.isAgg338
 z154 := Tryz.sizeOf338
 v154 := Tryz.zeroValue338
 t193 := Tryz.underlying358
 a193 := Tryz.isAgg358
 z193 := Tryz.sizeOf358
 v193 := Tryz.zeroValue358
 t194 := Tryz.underlying359
 a194 := Tryz.isAgg359
 z194 := Tryz.sizeOf359
 v194 := Tryz.zeroValue359
 t196 := Tryz.underlying361
 a196 := Tryz.isAgg361
 z196 := Tryz.sizeOf361
 v196 := Tryz.zeroValue361
 t198 := Tryz.underlying363
 a198 := Tryz.isAgg363
 z198 := Tryz.sizeOf363
 v198 := Tryz.zeroValue363
 t201 := Tryz.underlying366
 a201 := Tryz.isAgg366
 z201 := Tryz.sizeOf366
 v201 := Tryz.zeroValue366
 t226 := Tryz.underlying379
 a226 := Tryz.isAgg379
 z226 := Tryz.sizeOf379
 v226 := Tryz.zeroValue379
 t227 := Tryz.underlying380
 a227 := Tryz.isAgg380
 z227 := Tryz.sizeOf380
 v227 := Tryz.zeroValue380
 g0 := by kernel_rfl
 g6 := by kernel_rfl }
open Go.RowKit Go.Lib in
theorem Tryz.strings_Fields (s : ByteArray) (w : World) (hs : s.size < 4294967281) (hascii : ∀ (j : Nat) b,s.data.toList[j]? = some b → b.toNat < 128) (htab : Lib.TabIs Tryz.prog w "strings.asciiSpace" .u8 Lib.asciiSpaceTab) :
  Calls Tryz.prog 98 #[.string s] w fun e w' =>
   e = .returned (.slice (some ⟨w.heap.size,0,none⟩) (Lib.fields s.data.toList).length (Lib.fields s.data.toList).length) ∧ w' = w.alloc (.cells ((Lib.fields s.data.toList).map fun l => Value.string ⟨l.toArray⟩).toArray 9) := Any.strings_Fields Tryz.lays157 (by kernel_rfl) (by kernel_rfl) s w hs hascii htab
def Tryz.lays154_ren : Go.Shelf.Ren := ⟨fun | 154 => 215 | 138 => 201 | 165 => 271 | 143 => 202 | 166 => 272 | 197 => 262 | 169 => 273 | 195 => 261 | 218 => 263 | 240 => 292 | 241 => 293 | 219 => 264 | 260 => 285 | 276 => 298 | 277 => 299 | 217 => 286 | 225 => 287 | 224 => 288 | 267 => 289 | 266 => 296 | 314 => 297 | n => n,fun | 9 => 9 | 3 => 3 | 4 => 4 | 72 => 344 | 0 => 0 | 76 => 101 | 105 => 328 | 21 => 21 | 5 => 5 | 70 => 342 | 20 => 20 | 37 => 61 | 75 => 98 | 127 => 354 | 164 => 381 | 46 => 60 | 119 => 282 | 139 => 376 | 138 => 375 | 146 => 377 | 51 => 58 | 80 => 260 | n => n,fun | 1 => 7 | 3 => 10 | 4 => 11 | n => n⟩
def Tryz.lays155_ren : Go.Shelf.Ren := ⟨fun | 155 => 101 | 154 => 215 | 138 => 201 | 165 => 271 | 143 => 202 | 166 => 272 | 197 => 262 | 169 => 273 | 195 => 261 | 218 => 263 | 240 => 292 | 241 => 293 | 219 => 264 | 260 => 285 | 276 => 298 | 277 => 299 | 217 => 286 | 225 => 287 | 224 => 288 | 267 => 289 | 266 => 296 | 314 => 297 | n => n,fun | 9 => 9 | 3 => 3 | 4 => 4 | 72 => 344 | 0 => 0 | 76 => 101 | 105 => 328 | 21 => 21 | 5 => 5 | 70 => 342 | 20 => 20 | 37 => 61 | 75 => 98 | 127 => 354 | 164 => 381 | 46 => 60 | 119 => 282 | 139 => 376 | 138 => 375 | 146 => 377 | 51 => 58 | 80 => 260 | n => n,fun | 1 => 7 | 3 => 10 | 4 => 11 | n => n⟩
theorem Tryz.lays155 : Go.Proofs.Lays.n155 Tryz.prog Tryz.lays155_ren := {
 mixed := by kernel_rfl
 f138 := Tryz.func201.trans (congrArg some (by kernel_rfl))
 f143 := Tryz.func202.trans (congrArg some (by kernel_rfl))
 f154 := Tryz.func215.trans (congrArg some (by kernel_rfl))
 f155 := Tryz.func101.trans (congrArg some (by kernel_rfl))
 f165 := Tryz.func271.trans (congrArg some (by kernel_rfl))
 f166 := Tryz.func272.trans (congrArg some (by kernel_rfl))
 f169 := Tryz.func273.trans (congrArg some (by kernel_rfl))
 f195 := Tryz.func261.trans (congrArg some (by kernel_rfl))
 f197 := Tryz.func262.trans (congrArg some (by kernel_rfl))
 f217 := Tryz.func286.trans (congrArg some (by kernel_rfl))
 f218 := Tryz.func263.trans (congrArg some (by kernel_rfl))
 f219 := Tryz.func264.trans (congrArg some (by kernel_rfl))
 f224 := Tryz.func288.trans (congrArg some (by kernel_rfl))
 f225 := Tryz.func287.trans (congrArg some (by kernel_rfl))
 f240 := Tryz.func292.trans (congrArg some (by kernel_rfl))
 f241 := Tryz.func293.trans (congrArg some (by kernel_rfl))
 f260 := Tryz.func285.trans (congrArg some (by kernel_rfl))
 f266 := Tryz.func296.trans (congrArg some (by kernel_rfl))
 f267 := Tryz.func289.trans (congrArg some (by kernel_rfl))
 f276 := Tryz.func298.trans (congrArg some (by kernel_rfl))
 f277 := Tryz.func299.trans (congrArg some (by kernel_rfl))
 f314 := Tryz.func297.trans (congrArg some (by kernel_rfl))
 t0 := Tryz.underlying0
 a0 := Tryz.isAgg0
 z0 := Tryz.sizeOf0
 v0 := Tryz.zeroValue0
 t3 := Tryz.underlying3
 a3 := Tryz.isAgg3
 z3 := Tryz.sizeOf3
 v3 := Tryz.zeroValue3
 t4 := Tryz.underlying4
 a4 := Tryz.isAgg4
 z4 := Tryz.sizeOf4
 v4 := Tryz.zeroValue4
 t5 := Tryz.underlying5
 a5 := Tryz.isAgg5
 z5 := Tryz.sizeOf5
 v5 := Tryz.zeroValue5
 t9 := Tryz.underlying9
 a9 := Tryz.isAgg9
 z9 := Tryz.sizeOf9
 v9 := Tryz.zeroValue9
 t20 := Tryz.underlying20
 a20 := Tryz.isAgg20
 z20 := Tryz.sizeOf20
 v20 := Tryz.zeroValue20
 t21 := Tryz.underlying21
 a21 := Tryz.isAgg21
 z21 := Tryz.sizeOf21
 v21 := Tryz.zeroValue21
 t37 := Tryz.underlying61
 a37 := Tryz.isAgg61
 z37 := Tryz.sizeOf61
 v37 := Tryz.zeroValue61
 t46 := Tryz.underlying60
 a46 := Tryz.isAgg60
 z46 := Tryz.sizeOf60
 v46 := Tryz.zeroValue60
 t51 := Tryz.underlying58
 a51 := Tryz.isAgg58
 z51 := Tryz.sizeOf58
 v51 := Tryz.zeroValue58
 t70 := Tryz.underlying342
 a70 := Tryz.isAgg342
 z70 := Tryz.sizeOf342
 v70 := Tryz.zeroValue342
 t72 := Tryz.underlying344
 a72 := Tryz.isAgg344
 z72 := Tryz.sizeOf344
 v72 := Tryz.zeroValue344
 t75 := Tryz.underlying98
 a75 := Tryz.isAgg98
 z75 := Tryz.sizeOf98
 v75 := Tryz.zeroValue98
 t76 := Tryz.underlying101
 a76 := Tryz.isAgg101
 z76 := Tryz.sizeOf101
 v76 := Tryz.zeroValue101
 t105 := Tryz.underlying328
 a105 := Tryz.isAgg328
 z105 := Tryz.sizeOf328
 v105 := Tryz.zeroValue328
 t119 := Tryz.underlying282
 a119 := Tryz.isAgg282
 z119 := Tryz.sizeOf282
 t127 := Tryz.underlying354
 a127 := Tryz.isAgg354
 z127 := Tryz.sizeOf354
 v127 := Tryz.zeroValue354
 t138 := Tryz.underlying375
 a138 := Tryz.isAgg375
 z138 := Tryz.sizeOf375
 v138 := Tryz.zeroValue375
 t139 := Tryz.underlying376
 a139 := Tryz.isAgg376
 z139 := Tryz.sizeOf376
 v139 := Tryz.zeroValue376
 t146 := Tryz.underlying377
 a146 := Tryz.isAgg377
 z146 := Tryz.sizeOf377
 v146 := Tryz.zeroValue377
 t164 := Tryz.underlying381
 a164 := Tryz.isAgg381
 z164 := Tryz.sizeOf381
 v164 := Tryz.zeroValue381
 g1 := by kernel_rfl
 g3 := by kernel_rfl
 g4 := by kernel_rfl }
theorem Tryz.Builder_Extra_155 : Builder.Extra Tryz.prog Tryz.lays155_ren := {
 sizeBuilder := by kernel_rfl
 liesBuilder := by kernel_rfl
 t5 := Tryz.underlying5
 a5 := Tryz.isAgg5
 z5 := Tryz.sizeOf5
 v5 := Tryz.zeroValue5
 infoByte := by kernel_rfl
 cellsByte := by kernel_rfl
 sizeByte := by kernel_rfl
 neB5 := by decide }
open Go.RowKit Go.Lib in
theorem Tryz.strings_ReplaceAll (s old new : ByteArray) (m : Int) (w : World) (hs : s.size < 4294967281) (hm : w.cell? ⟨7,0,none⟩ = some (.int .i64 m)) (h1 : 1 ≤ old.size) (hlen : s.size + Lib.countB s old * new.size ≤ 140737488355328) :
  Calls Tryz.prog 101 #[.string s,.string old,.string new] w fun e w' =>
   e = .returned (.string ⟨(Lib.replaceAll s.data.toList old.data.toList new.data.toList).toArray⟩) ∧ Below w.heap.size w w' := Any.strings_ReplaceAll Tryz.lays155 Tryz.Builder_Extra_155 s old new m w hs hm h1 hlen
def Tryz.laysM146_ren : Go.Shelf.Ren := ⟨fun | 146 => 48 | 221 => 92 | 268 => 200 | 138 => 201 | 143 => 202 | 195 => 261 | 197 => 262 | 218 => 263 | 219 => 264 | 260 => 285 | 217 => 286 | 225 => 287 | 224 => 288 | 267 => 289 | 266 => 296 | 314 => 297 | n => n,fun | 9 => 9 | 31 => 43 | 3 => 3 | 4 => 4 | 0 => 0 | 105 => 328 | 21 => 21 | 5 => 5 | 46 => 60 | 119 => 282 | 139 => 376 | 138 => 375 | 146 => 377 | 51 => 58 | n => n,fun | 1 => 7 | 3 => 10 | 4 => 11 | n => n⟩
theorem Tryz.laysM146 : Go.Proofs.LaysM.n146 Tryz.prog Tryz.laysM146_ren := {
 mixed := by kernel_rfl
 f138 := Tryz.func201.trans (congrArg some (by kernel_rfl))
 f143 := Tryz.func202.trans (congrArg some (by kernel_rfl))
 f146 := Tryz.func48.trans (congrArg some (by kernel_rfl))
 f195 := Tryz.func261.trans (congrArg some (by kernel_rfl))
 f197 := Tryz.func262.trans (congrArg some (by kernel_rfl))
 f217 := Tryz.func286.trans (congrArg some (by kernel_rfl))
 f218 := Tryz.func263.trans (congrArg some (by kernel_rfl))
 f219 := Tryz.func264.trans (congrArg some (by kernel_rfl))
 f221 := Tryz.func92.trans (congrArg some (by kernel_rfl))
 f224 := Tryz.func288.trans (congrArg some (by kernel_rfl))
 f225 := Tryz.func287.trans (congrArg some (by kernel_rfl))
 f260 := Tryz.func285.trans (congrArg some (by kernel_rfl))
 f266 := Tryz.func296.trans (congrArg some (by kernel_rfl))
 f267 := Tryz.func289.trans (congrArg some (by kernel_rfl))
 f268 := Tryz.func200.trans (congrArg some (by kernel_rfl))
 f314 := Tryz.func297.trans (congrArg some (by kernel_rfl))
 t0 := Tryz.underlying0
 a0 := Tryz.isAgg0
 z0 := Tryz.sizeOf0
 v0 := Tryz.zeroValue0
 t3 := Tryz.underlying3
 a3 := Tryz.isAgg3
 z3 := Tryz.sizeOf3
 v3 := Tryz.zeroValue3
 t4 := Tryz.underlying4
 a4 := Tryz.isAgg4
 z4 := Tryz.sizeOf4
 v4 := Tryz.zeroValue4
 t5 := Tryz.underlying5
 a5 := Tryz.isAgg5
 z5 := Tryz.sizeOf5
 v5 := Tryz.zeroValue5
 t9 := Tryz.underlying9
 a9 := Tryz.isAgg9
 z9 := Tryz.sizeOf9
 v9 := Tryz.zeroValue9
 t21 := Tryz.underlying21
 a21 := Tryz.isAgg21
 z21 := Tryz.sizeOf21
 v21 := Tryz.zeroValue21
 t31 := Tryz.underlying43
 a31 := Tryz.isAgg43
 z31 := Tryz.sizeOf43
 v31 := Tryz.zeroValue43
 t46 := Tryz.underlying60
 a46 := Tryz.isAgg60
 z46 := Tryz.sizeOf60
 v46 := Tryz.zeroValue60
 t51 := Tryz.underlying58
 a51 := Tryz.isAgg58
 z51 := Tryz.sizeOf58
 v51 := Tryz.zeroValue58
 t105 := Tryz.underlying328
 a105 := Tryz.isAgg328
 z105 := Tryz.sizeOf328
 v105 := Tryz.zeroValue328
 t119 := Tryz.underlying282
 a119 := Tryz.isAgg282
 z119 := Tryz.sizeOf282
 t138 := Tryz.underlying375
 a138 := Tryz.isAgg375
 z138 := Tryz.sizeOf375
 v138 := Tryz.zeroValue375
 t139 := Tryz.underlying376
 a139 := Tryz.isAgg376
 z139 := Tryz.sizeOf376
 v139 := Tryz.zeroValue376
 t146 := Tryz.underlying377
 a146 := Tryz.isAgg377
 z146 := Tryz.sizeOf377
 v146 := Tryz.zeroValue377
 g1 := by kernel_rfl
 g3 := by kernel_rfl
 g4 := by kernel_rfl
 i0 := by kernel_rfl
 i3 := by kernel_rfl
 i4 := by kernel_rfl
 i5 := by kernel_rfl
 i9 := by kernel_rfl
 i21 := by kernel_rfl
 i31 := by kernel_rfl
 i46 := by kernel_rfl
 i51 := by kernel_rfl
 i105 := by kernel_rfl
 i138 := by kernel_rfl
 i139 := by kernel_rfl
 i146 := by kernel_rfl
 m1 := by kernel_rfl
 s1_3 := fun w h => Go.Proofs.cell_of_shapedOpen_int (zero := #[.int .i64 0]) (t := 3) h (of_decide_eq_true (by kernel_rfl)) (by kernel_rfl) rfl (by kernel_rfl) (by kernel_rfl) Tryz.underlying3
 m3 := by kernel_rfl
 m4 := by kernel_rfl }
def Tryz.laysNm215_ren : Go.Shelf.Ren := ⟨fun | 15 => 71 | n => n,fun | 22 => 52 | 3 => 3 | 4 => 4 | n => n,fun | n => n⟩
theorem Tryz.laysNm215 : Go.Proofs.Lays2.n15 Tryz.prog Tryz.laysNm215_ren := {
 mixed := by kernel_rfl
 f15 := Tryz.func71.trans (congrArg some (by kernel_rfl))
 t3 := Tryz.underlying3
 a3 := Tryz.isAgg3
 z3 := Tryz.sizeOf3
 v3 := Tryz.zeroValue3
 t4 := Tryz.underlying4
 a4 := Tryz.isAgg4
 z4 := Tryz.sizeOf4
 v4 := Tryz.zeroValue4
 t22 := Tryz.underlying52
 a22 := Tryz.isAgg52
 z22 := Tryz.sizeOf52
 v22 := Tryz.zeroValue52
 i3 := by kernel_rfl }
open Go.RowKit Go.Lib in
theorem Tryz.slices_Clone_int (b off n c : Nat) (zs : List Int) (w : World) (hz : n ≤ zs.length) (hbig : n * 8 ≤ 140737488355328) (hc : ∀ j,j < zs.length → w.cell? ⟨b,off + j,none⟩ = some (.int .i64 (zs.getD j 0))) :
  Calls Tryz.prog 71 #[.slice (some ⟨b,off,none⟩) n c] w fun e w' => ∃ v',e = .returned v' ∧ w'.ownsRow w.heap.size 3 1 v' n ((zs.take n).map (Value.int .i64)) ∧ v' ≠ .slice none 0 0 ∧ Below w.heap.size w w' := Any.slices_Clone_int Tryz.laysNm215 b off n c zs w hz hbig hc
def Tryz.laysNm220_ren : Go.Shelf.Ren := ⟨fun | 20 => 74 | n => n,fun | 22 => 52 | 3 => 3 | 4 => 4 | 0 => 0 | n => n,fun | n => n⟩
theorem Tryz.laysNm220 : Go.Proofs.Lays2.n20 Tryz.prog Tryz.laysNm220_ren := {
 mixed := by kernel_rfl
 f20 := Tryz.func74.trans (congrArg some (by kernel_rfl))
 t0 := Tryz.underlying0
 a0 := Tryz.isAgg0
 z0 := Tryz.sizeOf0
 v0 := Tryz.zeroValue0
 t3 := Tryz.underlying3
 a3 := Tryz.isAgg3
 z3 := Tryz.sizeOf3
 v3 := Tryz.zeroValue3
 t4 := Tryz.underlying4
 a4 := Tryz.isAgg4
 z4 := Tryz.sizeOf4
 v4 := Tryz.zeroValue4
 t22 := Tryz.underlying52
 a22 := Tryz.isAgg52
 z22 := Tryz.sizeOf52
 v22 := Tryz.zeroValue52
 i3 := by kernel_rfl }
open Go.RowKit Go.Lib Go.Sort in
theorem Tryz.slices_Compact_int (blk off cap : Nat) (zs : List Int) (w : World) (hH : Holds (Value.int .i64) w blk off zs.toArray) (hsz : zs.length ≤ 9223372036854775807) (hcap : zs.length ≤ cap) :
  Calls Tryz.prog 74 #[.slice (some ⟨blk,off,none⟩) zs.length cap] w fun e w' => e = .returned (.slice (some ⟨blk,off,none⟩) (Lib.compact zs).length cap) ∧ ∃ q,w' = putRow (Value.int .i64) (Sort.ahead w q) blk off (Lib.compact zs ++ List.replicate (zs.length - (Lib.compact zs).length) 0).toArray := Any.slices_Compact_int Tryz.laysNm220 blk off cap zs w hH hsz hcap
open Go.RowKit Go.Lib Go.Sort in
theorem Tryz.slices_Compact_int_empty (a : Option Addr) (cap : Nat) (w : World) :
  Calls Tryz.prog 74 #[.slice a 0 cap] w fun e w' => e = .returned (.slice a 0 cap) ∧ w' = w := Any.slices_Compact_int_empty Tryz.laysNm220 a cap w
open Go.RowKit Go.Sort in
theorem Tryz.slices_Sort_int_none (p : Option Addr) (cap : Nat) (w : World) :
  Calls Tryz.prog 73 #[.slice p 0 cap] w fun e w' => e = .returned (.tuple #[]) ∧ w' = w := Any.slices_Sort_int_none Tryz.lays189 p cap w
end Go.Proofs
