import Derived.Shelf.Strings.Builder1
import Derived.Shelf.Strings.Builder2
import Derived.Shelf.Strings.OnBuilder
import Derived.Shelf.Strings.Trim
import Derived.Shelf.Small.Utf8
import Derived.Shelf.Small.Bits
import Derived.Shelf.Small.Strs
import Derived.Shelf.Small.Wraps
import Derived.Shelf.Strings.BuilderF
import Derived.Shelf.Strings.BuilderK
import Derived.Shelf.Utf8.RuneCount
import Derived.Shelf.Strings.Builder2Cap
import Derived.Shelf.Strconv.Itoa0
import Derived.Shelf.Strconv.Itoa1
import Derived.Shelf.LaysM
import Derived.Shelf.Strconv.Itoa2
import Derived.Shelf.Strconv.Itoa3
import Derived.Shelf.Strings.Search1
import Derived.Shelf.Strings.Search2
import Derived.Shelf.Strings.Search3
import Derived.Shelf.Strings.Cut
import Derived.Shelf.Strings.Count
import Derived.Shelf.Strings.Shaped
import Derived.Shelf.Sort.Plain
import Derived.Shelf.Strings.Prefix
import Derived.Shelf.Strings.Split
import Derived.Shelf.Strings.Fields
import Derived.Shelf.Strings.Replace
import Derived.Shelf.Strings.SplitShaped
import Derived.Shelf.Unicode.Latin
import Derived.Shelf.Unicode.Decode
import Derived.Shelf.Strings.Runes
import Derived.Shelf.Strings.RuneCount
import Derived.Shelf.Strings.AsciiSet
import Derived.Shelf.Strings.Explode
import Derived.Shelf.Bits.Mul64
import Derived.Shelf.Unicode.DecodeSlow
import Derived.Shelf.Unicode.DecodeAny
import Derived.Shelf.Unicode.Is16White
import Derived.Shelf.Unicode.IsSpaceAny
import Derived.Shelf.Unicode.Is16WhiteD
import Derived.Shelf.Unicode.Is16Any
import Derived.Shelf.Unicode.Is32Any
import Derived.Shelf.Unicode.ExclAny
import Derived.Shelf.Strings.BuilderCap
import Derived.Ground.Names2Prog
import Derived.Shelf.Slices.Clone
import Derived.Shelf.Slices.CompactI
import Derived.Shelf.Slices.SearchI
import Derived.Shelf.Slices.Cells
import Derived.Shelf.Slices.In.SortNone
import Derived.Ground.SlgnProg
import Derived.Shelf.SlicesE.Clone
import Derived.Test.YteikomnahelckaaGreatDoorProg
set_option linter.unusedVariables false
set_option linter.unusedSimpArgs false
namespace Go.Proofs
open Go.Shelf
def Tryz.lays156_ren : Go.Shelf.Ren := ⟨fun | 156 => 263 | 165 => 285 | 166 => 78 | 169 => 83 | 240 => 125 | 241 => 314 | 276 => 193 | 277 => 344 | n => n,fun | 31 => 39 | 9 => 9 | 3 => 3 | 4 => 4 | 0 => 0 | 20 => 20 | 72 => 133 | 76 => 136 | 70 => 131 | 37 => 51 | 75 => 135 | 127 => 188 | 164 => 223 | 5 => 5 | 80 => 141 | n => n,fun | n => n⟩
theorem Tryz.lays156 : Go.Proofs.Lays.n156 Tryz.prog Tryz.lays156_ren := {
 mixed := by kernel_rfl
 f156 := Tryz.func263.trans (congrArg some (by kernel_rfl))
 f165 := Tryz.func285.trans (congrArg some (by kernel_rfl))
 f166 := Tryz.func78.trans (congrArg some (by kernel_rfl))
 f169 := Tryz.func83.trans (congrArg some (by kernel_rfl))
 f240 := Tryz.func125.trans (congrArg some (by kernel_rfl))
 f241 := Tryz.func314.trans (congrArg some (by kernel_rfl))
 f276 := Tryz.func193.trans (congrArg some (by kernel_rfl))
 f277 := Tryz.func344.trans (congrArg some (by kernel_rfl))
 t0 := Tryz.underlying0
 a0 := Tryz.isAgg0
 z0 := Tryz.sizeOf0
 v0 := Tryz.zeroValue0
 t3 := Tryz.underlying3
 a3 := Tryz.isAgg3
 z3 := Tryz.sizeOf3
 v3 := Tryz.zeroValue3
 t4 := Tryz.underlying4
 a4 := Tryz.isAgg4
 z4 := Tryz.sizeOf4
 v4 := Tryz.zeroValue4
 t9 := Tryz.underlying9
 a9 := Tryz.isAgg9
 z9 := Tryz.sizeOf9
 v9 := Tryz.zeroValue9
 t20 := Tryz.underlying20
 a20 := Tryz.isAgg20
 z20 := Tryz.sizeOf20
 v20 := Tryz.zeroValue20
 t31 := Tryz.underlying39
 a31 := Tryz.isAgg39
 z31 := Tryz.sizeOf39
 v31 := Tryz.zeroValue39
 t37 := Tryz.underlying51
 a37 := Tryz.isAgg51
 z37 := Tryz.sizeOf51
 v37 := Tryz.zeroValue51
 t70 := Tryz.underlying131
 a70 := Tryz.isAgg131
 z70 := Tryz.sizeOf131
 v70 := Tryz.zeroValue131
 t72 := Tryz.underlying133
 a72 := Tryz.isAgg133
 z72 := Tryz.sizeOf133
 v72 := Tryz.zeroValue133
 t75 := Tryz.underlying135
 a75 := Tryz.isAgg135
 z75 := Tryz.sizeOf135
 v75 := Tryz.zeroValue135
 t76 := Tryz.underlying136
 a76 := Tryz.isAgg136
 z76 := Tryz.sizeOf136
 v76 := Tryz.zeroValue136
 t127 := Tryz.underlying188
 a127 := Tryz.isAgg188
 z127 := Tryz.sizeOf188
 v127 := Tryz.zeroValue188
 t164 := Tryz.underlying223
 a164 := Tryz.isAgg223
 z164 := Tryz.sizeOf223
 v164 := Tryz.zeroValue223 }
theorem Tryz.Builder_Extra_156 : Builder.Extra Tryz.prog Tryz.lays156_ren := {
 sizeBuilder := by kernel_rfl
 liesBuilder := by kernel_rfl
 t5 := Tryz.underlying5
 a5 := Tryz.isAgg5
 z5 := Tryz.sizeOf5
 v5 := Tryz.zeroValue5
 infoByte := by kernel_rfl
 cellsByte := by kernel_rfl
 sizeByte := by kernel_rfl
 neB5 := by decide }
open Go.RowKit in
theorem Tryz.strings_Join_none (a : Option Addr) (c : Nat) (sep : ByteArray) (w : World) :
  Calls Tryz.prog 263 #[.slice a 0 c,.string sep] w fun e w' => e = .returned (.string ⟨#[]⟩) ∧ w' = w := Any.strings_Join_none Tryz.lays156 Tryz.Builder_Extra_156 a c sep w
open Go.RowKit in
theorem Tryz.strings_Join (bk o c : Nat) (xs : List ByteArray) (sep : ByteArray) (w : World) (hcells : ∀ (j : Nat) x,xs[j]? = some x → w.cell? ⟨bk,o + j,none⟩ = some (.string x)) (hbk : bk < w.heap.size) (hN : xs.length ≤ 140737488355328) (hcap : xs.length ≤ c) (hlen : (Lib.join (xs.map (·.data.toList)) sep.data.toList).length ≤ 140737488355328) :
  Calls Tryz.prog 263 #[.slice (some ⟨bk,o,none⟩) xs.length c,.string sep] w fun e w' => e = .returned (.string ⟨(Lib.join (xs.map (·.data.toList)) sep.data.toList).toArray⟩) ∧ Below w.heap.size w w' := Any.strings_Join Tryz.lays156 Tryz.Builder_Extra_156 bk o c xs sep w hcells hbk hN hcap hlen
def Tryz.lays214_ren : Go.Shelf.Ren := ⟨fun | 214 => 127 | n => n,fun | 4 => 4 | 9 => 9 | n => n,fun | n => n⟩
def Tryz.lays121_ren : Go.Shelf.Ren := ⟨fun | 121 => 80 | 214 => 127 | n => n,fun | 4 => 4 | 9 => 9 | n => n,fun | n => n⟩
theorem Tryz.lays121 : Go.Proofs.Lays.n121 Tryz.prog Tryz.lays121_ren := {
 mixed := by kernel_rfl
 f121 := Tryz.func80.trans (congrArg some (by kernel_rfl))
 f214 := Tryz.func127.trans (congrArg some (by kernel_rfl))
 t4 := Tryz.underlying4
 a4 := Tryz.isAgg4
 z4 := Tryz.sizeOf4
 v4 := Tryz.zeroValue4
 t9 := Tryz.underlying9
 a9 := Tryz.isAgg9
 z9 := Tryz.sizeOf9
 v9 := Tryz.zeroValue9 }
open Go.RowKit in
theorem Tryz.strconv_FormatBool (b : Bool) (w : World) :
  Calls Tryz.prog 80 #[.bool b] w fun e w' => e = .returned (.string ⟨(Lib.formatBool b).toArray⟩) ∧ w' = w := Any.strconv_FormatBool Tryz.lays121 b w
def Tryz.laysM246_ren : Go.Shelf.Ren := ⟨fun | 246 => 194 | 283 => 244 | 284 => 245 | 285 => 246 | 286 => 247 | 129 => 290 | 317 => 289 | 318 => 291 | 319 => 292 | 320 => 293 | 337 => 317 | 338 => 318 | n => n,fun | 2 => 2 | 3 => 3 | 9 => 9 | 4 => 4 | 171 => 254 | 0 => 0 | 53 => 255 | 37 => 51 | 5 => 5 | 173 => 258 | 212 => 300 | 51 => 271 | 20 => 20 | 213 => 301 | 46 => 302 | 232 => 349 | 233 => 350 | n => n,fun | 17 => 4 | 18 => 8 | 19 => 9 | n => n⟩
def Tryz.laysM243_ren : Go.Shelf.Ren := ⟨fun | 243 => 126 | 246 => 194 | 283 => 244 | 284 => 245 | 285 => 246 | 286 => 247 | 129 => 290 | 317 => 289 | 318 => 291 | 319 => 292 | 320 => 293 | 337 => 317 | 338 => 318 | n => n,fun | 3 => 3 | 9 => 9 | 2 => 2 | 4 => 4 | 171 => 254 | 0 => 0 | 53 => 255 | 37 => 51 | 5 => 5 | 173 => 258 | 212 => 300 | 51 => 271 | 20 => 20 | 213 => 301 | 46 => 302 | 232 => 349 | 233 => 350 | n => n,fun | 17 => 4 | 18 => 8 | 19 => 9 | n => n⟩
def Tryz.laysM171_ren : Go.Shelf.Ren := ⟨fun | 171 => 79 | 243 => 126 | 246 => 194 | 283 => 244 | 284 => 245 | 285 => 246 | 286 => 247 | 129 => 290 | 317 => 289 | 318 => 291 | 319 => 292 | 320 => 293 | 337 => 317 | 338 => 318 | n => n,fun | 3 => 3 | 9 => 9 | 2 => 2 | 4 => 4 | 171 => 254 | 0 => 0 | 53 => 255 | 37 => 51 | 5 => 5 | 173 => 258 | 212 => 300 | 51 => 271 | 20 => 20 | 213 => 301 | 46 => 302 | 232 => 349 | 233 => 350 | n => n,fun | 17 => 4 | 18 => 8 | 19 => 9 | n => n⟩
theorem Tryz.laysM171 : Go.Proofs.LaysM.n171 Tryz.prog Tryz.laysM171_ren := {
 mixed := by kernel_rfl
 f129 := Tryz.func290.trans (congrArg some (by kernel_rfl))
 f171 := Tryz.func79.trans (congrArg some (by kernel_rfl))
 f243 := Tryz.func126.trans (congrArg some (by kernel_rfl))
 f246 := Tryz.func194.trans (congrArg some (by kernel_rfl))
 f283 := Tryz.func244.trans (congrArg some (by kernel_rfl))
 f284 := Tryz.func245.trans (congrArg some (by kernel_rfl))
 f285 := Tryz.func246.trans (congrArg some (by kernel_rfl))
 f286 := Tryz.func247.trans (congrArg some (by kernel_rfl))
 f317 := Tryz.func289.trans (congrArg some (by kernel_rfl))
 f318 := Tryz.func291.trans (congrArg some (by kernel_rfl))
 f319 := Tryz.func292.trans (congrArg some (by kernel_rfl))
 f320 := Tryz.func293.trans (congrArg some (by kernel_rfl))
 f337 := Tryz.func317.trans (congrArg some (by kernel_rfl))
 f338 := Tryz.func318.trans (congrArg some (by kernel_rfl))
 t0 := Tryz.underlying0
 a0 := Tryz.isAgg0
 z0 := Tryz.sizeOf0
 v0 := Tryz.zeroValue0
 t2 := Tryz.underlying2
 a2 := Tryz.isAgg2
 z2 := Tryz.sizeOf2
 v2 := Tryz.zeroValue2
 t3 := Tryz.underlying3
 a3 := Tryz.isAgg3
 z3 := Tryz.sizeOf3
 v3 := Tryz.zeroValue3
 t4 := Tryz.underlying4
 a4 := Tryz.isAgg4
 z4 := Tryz.sizeOf4
 v4 := Tryz.zeroValue4
 t5 := Tryz.underlying5
 a5 := Tryz.isAgg5
 z5 := Tryz.sizeOf5
 v5 := Tryz.zeroValue5
 t9 := Tryz.underlying9
 a9 := Tryz.isAgg9
 z9 := Tryz.sizeOf9
 v9 := Tryz.zeroValue9
 t20 := Tryz.underlying20
 a20 := Tryz.isAgg20
 z20 := Tryz.sizeOf20
 v20 := Tryz.zeroValue20
 t37 := Tryz.underlying51
 a37 := Tryz.isAgg51
 z37 := Tryz.sizeOf51
 v37 := Tryz.zeroValue51
 t46 := Tryz.underlying302
 a46 := Tryz.isAgg302
 z46 := Tryz.sizeOf302
 v46 := Tryz.zeroValue302
 t51 := Tryz.underlying271
 a51 := Tryz.isAgg271
 z51 := Tryz.sizeOf271
 v51 := Tryz.zeroValue271
 t53 := Tryz.underlying255
 a53 := Tryz.isAgg255
 z53 := Tryz.sizeOf255
 v53 := Tryz.zeroValue255
 t171 := Tryz.underlying254
 a171 := Tryz.isAgg254
 z171 := Tryz.sizeOf254
 v171 := Tryz.zeroValue254
 t173 := Tryz.underlying258
 a173 := Tryz.isAgg258
 z173 := Tryz.sizeOf258
 v173 := Tryz.zeroValue258
 t212 := Tryz.underlying300
 a212 := Tryz.isAgg300
 z212 := Tryz.sizeOf300
 v212 := Tryz.zeroValue300
 t213 := Tryz.underlying301
 a213 := Tryz.isAgg301
 z213 := Tryz.sizeOf301
 t232 := Tryz.underlying349
 a232 := Tryz.isAgg349
 z232 := Tryz.sizeOf349
 v232 := Tryz.zeroValue349
 t233 := Tryz.underlying350
 a233 := Tryz.isAgg350
 z233 := Tryz.sizeOf350
 v233 := Tryz.zeroValue350
 g17 := by kernel_rfl
 g18 := by kernel_rfl
 g19 := by kernel_rfl
 i0 := by kernel_rfl
 i2 := by kernel_rfl
 i3 := by kernel_rfl
 i4 := by kernel_rfl
 i5 := by kernel_rfl
 i9 := by kernel_rfl
 i20 := by kernel_rfl
 i37 := by kernel_rfl
 i46 := by kernel_rfl
 i51 := by kernel_rfl
 i53 := by kernel_rfl
 i171 := by kernel_rfl
 i173 := by kernel_rfl
 i212 := by kernel_rfl
 i232 := by kernel_rfl
 i233 := by kernel_rfl
 m17 := by kernel_rfl
 m18 := by kernel_rfl
 m19 := by kernel_rfl }
open Go.RowKit Go.Sort Go.Lib in
theorem Tryz.strconv_Itoa (n : Int) (h0 : -9223372036854775808 ≤ n) (h1 : n ≤ 9223372036854775807) (w : World) (htab : Lib.TabIs Tryz.prog w "internal/strconv.uint64pow10" .u64 Lib.pow10Tab) :
  Calls Tryz.prog 79 #[.int .i64 n] w fun e w' => e = .returned (.string ⟨(Lib.itoa n).toArray⟩) ∧ ∃ k os,w' = grow (w.drewN k) os := Any.strconv_Itoa Tryz.laysM171 n h0 h1 w htab
def Tryz.lays219_ren : Go.Shelf.Ren := ⟨fun | 219 => 313 | 217 => 340 | 225 => 341 | 224 => 342 | 267 => 343 | 266 => 356 | 314 => 357 | n => n,fun | 9 => 9 | 3 => 3 | 4 => 4 | 5 => 5 | 46 => 302 | 146 => 359 | 51 => 271 | n => n,fun | 1 => 5 | n => n⟩
def Tryz.lays143_ren : Go.Shelf.Ren := ⟨fun | 143 => 284 | 219 => 313 | 217 => 340 | 225 => 341 | 224 => 342 | 267 => 343 | 266 => 356 | 314 => 357 | n => n,fun | 9 => 9 | 3 => 3 | 4 => 4 | 5 => 5 | 46 => 302 | 146 => 359 | 51 => 271 | n => n,fun | 1 => 5 | n => n⟩
def Tryz.laysM143_ren : Go.Shelf.Ren := ⟨fun | 143 => 284 | 219 => 313 | 217 => 340 | 225 => 341 | 224 => 342 | 267 => 343 | 266 => 356 | 314 => 357 | n => n,fun | 9 => 9 | 3 => 3 | 4 => 4 | 5 => 5 | 46 => 302 | 146 => 359 | 51 => 271 | n => n,fun | 1 => 5 | n => n⟩
theorem Tryz.laysM143 : Go.Proofs.LaysM.n143 Tryz.prog Tryz.laysM143_ren := {
 mixed := by kernel_rfl
 f143 := Tryz.func284.trans (congrArg some (by kernel_rfl))
 f217 := Tryz.func340.trans (congrArg some (by kernel_rfl))
 f219 := Tryz.func313.trans (congrArg some (by kernel_rfl))
 f224 := Tryz.func342.trans (congrArg some (by kernel_rfl))
 f225 := Tryz.func341.trans (congrArg some (by kernel_rfl))
 f266 := Tryz.func356.trans (congrArg some (by kernel_rfl))
 f267 := Tryz.func343.trans (congrArg some (by kernel_rfl))
 f314 := Tryz.func357.trans (congrArg some (by kernel_rfl))
 t3 := Tryz.underlying3
 a3 := Tryz.isAgg3
 z3 := Tryz.sizeOf3
 v3 := Tryz.zeroValue3
 t4 := Tryz.underlying4
 a4 := Tryz.isAgg4
 z4 := Tryz.sizeOf4
 v4 := Tryz.zeroValue4
 t5 := Tryz.underlying5
 a5 := Tryz.isAgg5
 z5 := Tryz.sizeOf5
 v5 := Tryz.zeroValue5
 t9 := Tryz.underlying9
 a9 := Tryz.isAgg9
 z9 := Tryz.sizeOf9
 v9 := Tryz.zeroValue9
 t46 := Tryz.underlying302
 a46 := Tryz.isAgg302
 z46 := Tryz.sizeOf302
 v46 := Tryz.zeroValue302
 t51 := Tryz.underlying271
 a51 := Tryz.isAgg271
 z51 := Tryz.sizeOf271
 v51 := Tryz.zeroValue271
 t146 := Tryz.underlying359
 a146 := Tryz.isAgg359
 z146 := Tryz.sizeOf359
 v146 := Tryz.zeroValue359
 g1 := by kernel_rfl
 i3 := by kernel_rfl
 i4 := by kernel_rfl
 i5 := by kernel_rfl
 i9 := by kernel_rfl
 i46 := by kernel_rfl
 i51 := by kernel_rfl
 i146 := by kernel_rfl
 m1 := by kernel_rfl
 s1_3 := fun w h => Go.Proofs.cell_of_shapedOpen_int (zero := #[.int .i64 0]) (t := 3) h (of_decide_eq_true (by kernel_rfl)) (by kernel_rfl) rfl (by kernel_rfl) (by kernel_rfl) Tryz.underlying3 }
def Tryz.lays221_ren : Go.Shelf.Ren := ⟨fun | 221 => 237 | 268 => 282 | 138 => 283 | 143 => 284 | 195 => 311 | 197 => 286 | 218 => 312 | 219 => 313 | 260 => 315 | 217 => 340 | 225 => 341 | 224 => 342 | 267 => 343 | 266 => 356 | 314 => 357 | n => n,fun | 9 => 9 | 3 => 3 | 31 => 39 | 4 => 4 | 0 => 0 | 105 => 295 | 21 => 21 | 5 => 5 | 46 => 302 | 119 => 229 | 139 => 348 | 138 => 347 | 146 => 359 | 51 => 271 | n => n,fun | 1 => 5 | 3 => 6 | 4 => 7 | n => n⟩
def Tryz.lays146_ren : Go.Shelf.Ren := ⟨fun | 146 => 182 | 221 => 237 | 268 => 282 | 138 => 283 | 143 => 284 | 195 => 311 | 197 => 286 | 218 => 312 | 219 => 313 | 260 => 315 | 217 => 340 | 225 => 341 | 224 => 342 | 267 => 343 | 266 => 356 | 314 => 357 | n => n,fun | 9 => 9 | 31 => 39 | 3 => 3 | 4 => 4 | 0 => 0 | 105 => 295 | 21 => 21 | 5 => 5 | 46 => 302 | 119 => 229 | 139 => 348 | 138 => 347 | 146 => 359 | 51 => 271 | n => n,fun | 1 => 5 | 3 => 6 | 4 => 7 | n => n⟩
theorem Tryz.lays146 : Go.Proofs.Lays.n146 Tryz.prog Tryz.lays146_ren := {
 mixed := by kernel_rfl
 f138 := Tryz.func283.trans (congrArg some (by kernel_rfl))
 f143 := Tryz.func284.trans (congrArg some (by kernel_rfl))
 f146 := Tryz.func182.trans (congrArg some (by kernel_rfl))
 f195 := Tryz.func311.trans (congrArg some (by kernel_rfl))
 f197 := Tryz.func286.trans (congrArg some (by kernel_rfl))
 f217 := Tryz.func340.trans (congrArg some (by kernel_rfl))
 f218 := Tryz.func312.trans (congrArg some (by kernel_rfl))
 f219 := Tryz.func313.trans (congrArg some (by kernel_rfl))
 f221 := Tryz.func237.trans (congrArg some (by kernel_rfl))
 f224 := Tryz.func342.trans (congrArg some (by kernel_rfl))
 f225 := Tryz.func341.trans (congrArg some (by kernel_rfl))
 f260 := Tryz.func315.trans (congrArg some (by kernel_rfl))
 f266 := Tryz.func356.trans (congrArg some (by kernel_rfl))
 f267 := Tryz.func343.trans (congrArg some (by kernel_rfl))
 f268 := Tryz.func282.trans (congrArg some (by kernel_rfl))
 f314 := Tryz.func357.trans (congrArg some (by kernel_rfl))
 t0 := Tryz.underlying0
 a0 := Tryz.isAgg0
 z0 := Tryz.sizeOf0
 v0 := Tryz.zeroValue0
 t3 := Tryz.underlying3
 a3 := Tryz.isAgg3
 z3 := Tryz.sizeOf3
 v3 := Tryz.zeroValue3
 t4 := Tryz.underlying4
 a4 := Tryz.isAgg4
 z4 := Tryz.sizeOf4
 v4 := Tryz.zeroValue4
 t5 := Tryz.underlying5
 a5 := Tryz.isAgg5
 z5 := Tryz.sizeOf5
 v5 := Tryz.zeroValue5
 t9 := Tryz.underlying9
 a9 := Tryz.isAgg9
 z9 := Tryz.sizeOf9
 v9 := Tryz.zeroValue9
 t21 := Tryz.underlying21
 a21 := Tryz.isAgg21
 z21 := Tryz.sizeOf21
 v21 := Tryz.zeroValue21
 t31 := Tryz.underlying39
 a31 := Tryz.isAgg39
 z31 := Tryz.sizeOf39
 v31 := Tryz.zeroValue39
 t46 := Tryz.underlying302
 a46 := Tryz.isAgg302
 z46 := Tryz.sizeOf302
 v46 := Tryz.zeroValue302
 t51 := Tryz.underlying271
 a51 := Tryz.isAgg271
 z51 := Tryz.sizeOf271
 v51 := Tryz.zeroValue271
 t105 := Tryz.underlying295
 a105 := Tryz.isAgg295
 z105 := Tryz.sizeOf295
 v105 := Tryz.zeroValue295
 t119 := Tryz.underlying229
 a119 := Tryz.isAgg229
 z119 := Tryz.sizeOf229
 t138 := Tryz.underlying347
 a138 := Tryz.isAgg347
 z138 := Tryz.sizeOf347
 v138 := Tryz.zeroValue347
 t139 := Tryz.underlying348
 a139 := Tryz.isAgg348
 z139 := Tryz.sizeOf348
 v139 := Tryz.zeroValue348
 t146 := Tryz.underlying359
 a146 := Tryz.isAgg359
 z146 := Tryz.sizeOf359
 v146 := Tryz.zeroValue359
 g1 := by kernel_rfl
 g3 := by kernel_rfl
 g4 := by kernel_rfl }
open Go.RowKit Go.Lib in
theorem Tryz.strings_Split (s sep : ByteArray) (m : Int) (w : World) (hs : s.size < 4294967281) (hm : w.cell? ⟨5,0,none⟩ = some (.int .i64 m)) (h1 : 1 ≤ sep.size) :
  Calls Tryz.prog 182 #[.string s,.string sep] w fun e w' =>
   e = .returned (.slice (some ⟨w.heap.size,0,none⟩) (Lib.countB s sep + 1) (Lib.countB s sep + 1)) ∧ w' = w.alloc (.cells ((Lib.splitB sep 0 (Lib.countB s sep) s).map Value.string).toArray 9) := Any.strings_Split Tryz.lays146 (by kernel_rfl) s sep m w hs hm h1
def Tryz.lays157_ren : Go.Shelf.Ren := ⟨fun | 157 => 137 | 229 => 204 | 199 => 205 | 261 => 262 | 311 => 300 | 312 => 301 | n => n,fun | 9 => 9 | 31 => 39 | 3 => 3 | 5 => 5 | 4 => 4 | 119 => 229 | 0 => 0 | 40 => 231 | 152 => 268 | 21 => 21 | 154 => 270 | 51 => 271 | 141 => 273 | 196 => 310 | 193 => 307 | 198 => 312 | 49 => 50 | 194 => 308 | 201 => 315 | 226 => 341 | 46 => 302 | 227 => 342 | n => n,fun | 0 => 2 | 6 => 3 | n => n⟩
theorem Tryz.lays157 : Go.Proofs.Lays.n157 Tryz.prog Tryz.lays157_ren := {
 mixed := by kernel_rfl
 f157 := Tryz.func137.trans (congrArg some (by kernel_rfl))
 f199 := Tryz.func205.trans (congrArg some (by kernel_rfl))
 f229 := Tryz.func204.trans (congrArg some (by kernel_rfl))
 f261 := Tryz.func262.trans (congrArg some (by kernel_rfl))
 f311 := Tryz.func300.trans (congrArg some (by kernel_rfl))
 f312 := Tryz.func301.trans (congrArg some (by kernel_rfl))
 t0 := Tryz.underlying0
 a0 := Tryz.isAgg0
 z0 := Tryz.sizeOf0
 v0 := Tryz.zeroValue0
 t3 := Tryz.underlying3
 a3 := Tryz.isAgg3
 z3 := Tryz.sizeOf3
 v3 := Tryz.zeroValue3
 t4 := Tryz.underlying4
 a4 := Tryz.isAgg4
 z4 := Tryz.sizeOf4
 v4 := Tryz.zeroValue4
 t5 := Tryz.underlying5
 a5 := Tryz.isAgg5
 z5 := Tryz.sizeOf5
 v5 := Tryz.zeroValue5
 t9 := Tryz.underlying9
 a9 := Tryz.isAgg9
 z9 := Tryz.sizeOf9
 v9 := Tryz.zeroValue9
 t21 := Tryz.underlying21
 a21 := Tryz.isAgg21
 z21 := Tryz.sizeOf21
 v21 := Tryz.zeroValue21
 t31 := Tryz.underlying39
 a31 := Tryz.isAgg39
 z31 := Tryz.sizeOf39
 v31 := Tryz.zeroValue39
 t40 := Tryz.underlying231
 a40 := Tryz.isAgg231
 z40 := Tryz.sizeOf231
 v40 := Tryz.zeroValue231
 t46 := Tryz.underlying302
 a46 := Tryz.isAgg302
 z46 := Tryz.sizeOf302
 v46 := Tryz.zeroValue302
 t49 := Tryz.underlying50
 a49 := Tryz.isAgg50
 z49 := Tryz.sizeOf50
 v49 := Tryz.zeroValue50
 t51 := Tryz.underlying271
 a51 := Tryz.isAgg271
 z51 := Tryz.sizeOf271
 v51 := Tryz.zeroValue271
 t119 := Tryz.underlying229
 a119 := Tryz.isAgg229
 z119 := Tryz.sizeOf229
 t141 := Tryz.underlying273
 a141 := Tryz.isAgg273
 z141 := Tryz.sizeOf273
 v141 := Tryz.zeroValue273
 t152 := Tryz.underlying268
 a152 := Tryz.isAgg268
 z152 := Tryz.sizeOf268
 v152 := Tryz.zeroValue268
 t154 := Tryz.underlying270
 a154 := Tryz.isAgg270
 z154 := Tryz.sizeOf270
 v154 := Tryz.zeroValue270
 t193 := Tryz.underlying307
 a193 := Tryz.isAgg307
 z193 := Tryz.sizeOf307
 v193 := Tryz.zeroValue307
 t194 := Tryz.underlying308
 a194 := Tryz.isAgg308
 z194 := Tryz.sizeOf308
 v194 := Tryz.zeroValue308
 t196 := Tryz.underlying310
 a196 := Tryz.isAgg310
 z196 := Tryz.sizeOf310
 v196 := Tryz.zeroValue310
 t198 := Tryz.underlying312
 a198 := Tryz.isAgg312
 z198 := Tryz.sizeOf312
 v198 := Tryz.zeroValue312
 t201 := Tryz.underlying315
 a201 := Tryz.isAgg315
 z201 := Tryz.sizeOf315
 v201 := Tryz.zeroValue315
 t226 := Tryz.underlying341
 a226 := Tryz.isAgg341
 z226 := Tryz.sizeOf341
 v226 := Tryz.zeroValue341
 t227 := Tryz.underlying342
 a227 := Tryz.isAgg342
 z227 := Tryz.sizeOf342
 v227 := Tryz.zeroValue342
 g0 := by kernel_rfl
 g6 := by kernel_rfl }
open Go.RowKit Go.Lib in
theorem Tryz.strings_Fields (s : ByteArray) (w : World) (hs : s.size < 4294967281) (hascii : ∀ (j : Nat) b,s.data.toList[j]? = some b → b.toNat < 128) (htab : Lib.TabIs Tryz.prog w "strings.asciiSpace" .u8 Lib.asciiSpaceTab) :
  Calls Tryz.prog 137 #[.string s] w fun e w' =>
   e = .returned (.slice (some ⟨w.heap.size,0,none⟩) (Lib.fields s.data.toList).length (Lib.fields s.data.toList).length) ∧ w' = w.alloc (.cells ((Lib.fields s.data.toList).map fun l => Value.string ⟨l.toArray⟩).toArray 9) := Any.strings_Fields Tryz.lays157 (by kernel_rfl) (by kernel_rfl) s w hs hascii htab
def Tryz.lays154_ren : Go.Shelf.Ren := ⟨fun | 154 => 238 | 138 => 283 | 165 => 285 | 143 => 284 | 166 => 78 | 197 => 286 | 169 => 83 | 195 => 311 | 218 => 312 | 240 => 125 | 241 => 314 | 219 => 313 | 260 => 315 | 276 => 193 | 277 => 344 | 217 => 340 | 225 => 341 | 224 => 342 | 267 => 343 | 266 => 356 | 314 => 357 | n => n,fun | 9 => 9 | 3 => 3 | 4 => 4 | 72 => 133 | 0 => 0 | 76 => 136 | 105 => 295 | 21 => 21 | 5 => 5 | 70 => 131 | 20 => 20 | 37 => 51 | 75 => 135 | 127 => 188 | 164 => 223 | 46 => 302 | 119 => 229 | 139 => 348 | 138 => 347 | 146 => 359 | 51 => 271 | 80 => 141 | n => n,fun | 1 => 5 | 3 => 6 | 4 => 7 | n => n⟩
def Tryz.lays155_ren : Go.Shelf.Ren := ⟨fun | 155 => 183 | 154 => 238 | 138 => 283 | 165 => 285 | 143 => 284 | 166 => 78 | 197 => 286 | 169 => 83 | 195 => 311 | 218 => 312 | 240 => 125 | 241 => 314 | 219 => 313 | 260 => 315 | 276 => 193 | 277 => 344 | 217 => 340 | 225 => 341 | 224 => 342 | 267 => 343 | 266 => 356 | 314 => 357 | n => n,fun | 9 => 9 | 3 => 3 | 4 => 4 | 72 => 133 | 0 => 0 | 76 => 136 | 105 => 295 | 21 => 21 | 5 => 5 | 70 => 131 | 20 => 20 | 37 => 51 | 75 => 135 | 127 => 188 | 164 => 223 | 46 => 302 | 119 => 229 | 139 => 348 | 138 => 347 | 146 => 359 | 51 => 271 | 80 => 141 | n => n,fun | 1 => 5 | 3 => 6 | 4 => 7 | n => n⟩
theorem Tryz.lays155 : Go.Proofs.Lays.n155 Tryz.prog Tryz.lays155_ren := {
 mixed := by kernel_rfl
 f138 := Tryz.func283.trans (congrArg some (by kernel_rfl))
 f143 := Tryz.func284.trans (congrArg some (by kernel_rfl))
 f154 := Tryz.func238.trans (congrArg some (by kernel_rfl))
 f155 := Tryz.func183.trans (congrArg some (by kernel_rfl))
 f165 := Tryz.func285.trans (congrArg some (by kernel_rfl))
 f166 := Tryz.func78.trans (congrArg some (by kernel_rfl))
 f169 := Tryz.func83.trans (congrArg some (by kernel_rfl))
 f195 := Tryz.func311.trans (congrArg some (by kernel_rfl))
 f197 := Tryz.func286.trans (congrArg some (by kernel_rfl))
 f217 := Tryz.func340.trans (congrArg some (by kernel_rfl))
 f218 := Tryz.func312.trans (congrArg some (by kernel_rfl))
 f219 := Tryz.func313.trans (congrArg some (by kernel_rfl))
 f224 := Tryz.func342.trans (congrArg some (by kernel_rfl))
 f225 := Tryz.func341.trans (congrArg some (by kernel_rfl))
 f240 := Tryz.func125.trans (congrArg some (by kernel_rfl))
 f241 := Tryz.func314.trans (congrArg some (by kernel_rfl))
 f260 := Tryz.func315.trans (congrArg some (by kernel_rfl))
 f266 := Tryz.func356.trans (congrArg some (by kernel_rfl))
 f267 := Tryz.func343.trans (congrArg some (by kernel_rfl))
 f276 := Tryz.func193.trans (congrArg some (by kernel_rfl))
 f277 := Tryz.func344.trans (congrArg some (by kernel_rfl))
 f314 := Tryz.func357.trans (congrArg some (by kernel_rfl))
 t0 := Tryz.underlying0
 a0 := Tryz.isAgg0
 z0 := Tryz.sizeOf0
 v0 := Tryz.zeroValue0
 t3 := Tryz.underlying3
 a3 := Tryz.isAgg3
 z3 := Tryz.sizeOf3
 v3 := Tryz.zeroValue3
 t4 := Tryz.underlying4
 a4 := Tryz.isAgg4
 z4 := Tryz.sizeOf4
 v4 := Tryz.zeroValue4
 t5 := Tryz.underlying5
 a5 := Tryz.isAgg5
 z5 := Tryz.sizeOf5
 v5 := Tryz.zeroValue5
 t9 := Tryz.underlying9
 a9 := Tryz.isAgg9
 z9 := Tryz.sizeOf9
 v9 := Tryz.zeroValue9
 t20 := Tryz.underlying20
 a20 := Tryz.isAgg20
 z20 := Tryz.sizeOf20
 v20 := Tryz.zeroValue20
 t21 := Tryz.underlying21
 a21 := Tryz.isAgg21
 z21 := Tryz.sizeOf21
 v21 := Tryz.zeroValue21
 t37 := Tryz.underlying51
 a37 := Tryz.isAgg51
 z37 := Tryz.sizeOf51
 v37 := Tryz.zeroValue51
 t46 := Tryz.underlying302
 a46 := Tryz.isAgg302
 z46 := Tryz.sizeOf302
 v46 := Tryz.zeroValue302
 t51 := Tryz.underlying271
 a51 := Tryz.isAgg271
 z51 := Tryz.sizeOf271
 v51 := Tryz.zeroValue271
 t70 := Tryz.underlying131
 a70 := Tryz.isAgg131
 z70 := Tryz.sizeOf131
 v70 := Tryz.zeroValue131
 t72 := Tryz.underlying133
 a72 := Tryz.isAgg133
 z72 := Tryz.sizeOf133
 v72 := Tryz.zeroValue133
 t75 := Tryz.underlying135
 a75 := Tryz.isAgg135
 z75 := Tryz.sizeOf135
 v75 := Tryz.zeroValue135
 t76 := Tryz.underlying136
 a76 := Tryz.isAgg136
 z76 := Tryz.sizeOf136
 v76 := Tryz.zeroValue136
 t105 := Tryz.underlying295
 a105 := Tryz.isAgg295
 z105 := Tryz.sizeOf295
 v105 := Tryz.zeroValue295
 t119 := Tryz.underlying229
 a119 := Tryz.isAgg229
 z119 := Tryz.sizeOf229
 t127 := Tryz.underlying188
 a127 := Tryz.isAgg188
 z127 := Tryz.sizeOf188
 v127 := Tryz.zeroValue188
 t138 := Tryz.underlying347
 a138 := Tryz.isAgg347
 z138 := Tryz.sizeOf347
 v138 := Tryz.zeroValue347
 t139 := Tryz.underlying348
 a139 := Tryz.isAgg348
 z139 := Tryz.sizeOf348
 v139 := Tryz.zeroValue348
 t146 := Tryz.underlying359
 a146 := Tryz.isAgg359
 z146 := Tryz.sizeOf359
 v146 := Tryz.zeroValue359
 t164 := Tryz.underlying223
 a164 := Tryz.isAgg223
 z164 := Tryz.sizeOf223
 v164 := Tryz.zeroValue223
 g1 := by kernel_rfl
 g3 := by kernel_rfl
 g4 := by kernel_rfl }
theorem Tryz.Builder_Extra_155 : Builder.Extra Tryz.prog Tryz.lays155_ren := {
 sizeBuilder := by kernel_rfl
 liesBuilder := by kernel_rfl
 t5 := Tryz.underlying5
 a5 := Tryz.isAgg5
 z5 := Tryz.sizeOf5
 v5 := Tryz.zeroValue5
 infoByte := by kernel_rfl
 cellsByte := by kernel_rfl
 sizeByte := by kernel_rfl
 neB5 := by decide }
open Go.RowKit Go.Lib in
theorem Tryz.strings_ReplaceAll (s old new : ByteArray) (m : Int) (w : World) (hs : s.size < 4294967281) (hm : w.cell? ⟨5,0,none⟩ = some (.int .i64 m)) (h1 : 1 ≤ old.size) (hlen : s.size + Lib.countB s old * new.size ≤ 140737488355328) :
  Calls Tryz.prog 183 #[.string s,.string old,.string new] w fun e w' =>
   e = .returned (.string ⟨(Lib.replaceAll s.data.toList old.data.toList new.data.toList).toArray⟩) ∧ Below w.heap.size w w' := Any.strings_ReplaceAll Tryz.lays155 Tryz.Builder_Extra_155 s old new m w hs hm h1 hlen
end Go.Proofs
