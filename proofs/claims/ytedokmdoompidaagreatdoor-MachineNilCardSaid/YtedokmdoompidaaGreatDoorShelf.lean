/- The library contracts that this claim uses, laid over the program by the kit's own tool in plain words. -/
import Derived.Shelf.Strings.Trim
import Derived.Shelf.Small.Utf8
import Derived.Shelf.Small.Bits
import Derived.Shelf.Small.Strs
import Derived.Shelf.Strconv.Atoi
import Derived.Shelf.Strconv.Itoa0
import Derived.Shelf.Strconv.Itoa1
import Derived.Shelf.LaysM
import Derived.Shelf.Strconv.Itoa2
import Derived.Shelf.Strconv.Itoa3
import Derived.Shelf.Strconv.AtoiErrFast
import Derived.Shelf.Strconv.ParseIntEmpty
import Derived.Shelf.Strconv.AtoiFail
import Derived.Shelf.Strconv.Clone
import Derived.Shelf.Strconv.SyntaxError
import Derived.Shelf.LaysC
import Derived.Shelf.Strconv.ToError
import Derived.Shelf.Strconv.Lower
import Derived.Shelf.Strconv.ParseUint10
import Derived.Shelf.Strconv.ParseUint10Empty
import Derived.Shelf.Strconv.ParseUint10Any
import Derived.Shelf.Strconv.ParseInt10
import Derived.Shelf.Strconv.AtoiLong
import Derived.Shelf.Strconv.AtoiInnerAll
import Derived.Shelf.Strconv.RangeError
import Derived.Shelf.Strconv.ToErrorRange
import Derived.Shelf.Strconv.AtoiAll
import Derived.Shelf.Strconv.ErrVarAll
import Derived.Shelf.Strings.Search1
import Derived.Shelf.Sort.Plain
import Derived.Shelf.Strings.Prefix
import Derived.Shelf.Strings.Runes
import Derived.Shelf.Strings.AsciiSet
import Derived.Shelf.Unicode.DecodeSlow
import Derived.Shelf.Unicode.DecodeAny
import Derived.Shelf.Unicode.DecodeLast
import Derived.Shelf.Slices.CompactS
import Derived.Shelf.Slices.Cells
import Derived.Shelf.Slices.In.SortNone
import Derived.Test.YtedokmdoompidaaGreatDoorProg
namespace Go.Proofs
open Go.Shelf
def Tryz.lays160_ren : Go.Shelf.Ren := ⟨fun | 160 => 277 | 232 => 317 | 231 => 316 | 227 => 318 | 234 => 320 | 233 => 319 | 236 => 322 | 235 => 321 | 228 => 358 | 271 => 361 | 151 => 360 | 197 => 359 | 120 => 378 | 152 => 377 | 260 => 376 | 137 => 390 | 119 => 391 | 224 => 392 | 225 => 393 | 217 => 401 | 266 => 408 | n => n, fun | 9 => 9 | 4 => 4 | 3 => 3 | 5 => 5 | 117 => 412 | 116 => 411 | 0 => 0 | 124 => 415 | 21 => 21 | 105 => 451 | 46 => 197 | 119 => 478 | 139 => 481 | 138 => 480 | n => n, fun | 3 => 1 | 4 => 2 | n => n⟩
theorem Tryz.lays160 : Go.Proofs.Lays.n160 Tryz.prog Tryz.lays160_ren := {
  mixed := by kernel_rfl
  f119 := Tryz.func391.trans (congrArg some (by kernel_rfl))
  f120 := Tryz.func378.trans (congrArg some (by kernel_rfl))
  f137 := Tryz.func390.trans (congrArg some (by kernel_rfl))
  f151 := Tryz.func360.trans (congrArg some (by kernel_rfl))
  f152 := Tryz.func377.trans (congrArg some (by kernel_rfl))
  f160 := Tryz.func277.trans (congrArg some (by kernel_rfl))
  f197 := Tryz.func359.trans (congrArg some (by kernel_rfl))
  f217 := Tryz.func401.trans (congrArg some (by kernel_rfl))
  f224 := Tryz.func392.trans (congrArg some (by kernel_rfl))
  f225 := Tryz.func393.trans (congrArg some (by kernel_rfl))
  f227 := Tryz.func318.trans (congrArg some (by kernel_rfl))
  f228 := Tryz.func358.trans (congrArg some (by kernel_rfl))
  f231 := Tryz.func316.trans (congrArg some (by kernel_rfl))
  f232 := Tryz.func317.trans (congrArg some (by kernel_rfl))
  f233 := Tryz.func319.trans (congrArg some (by kernel_rfl))
  f234 := Tryz.func320.trans (congrArg some (by kernel_rfl))
  f235 := Tryz.func321.trans (congrArg some (by kernel_rfl))
  f236 := Tryz.func322.trans (congrArg some (by kernel_rfl))
  f260 := Tryz.func376.trans (congrArg some (by kernel_rfl))
  f266 := Tryz.func408.trans (congrArg some (by kernel_rfl))
  f271 := Tryz.func361.trans (congrArg some (by kernel_rfl))
  t0 := Tryz.underlying0
  a0 := Tryz.isAgg0
  z0 := Tryz.sizeOf0
  v0 := Tryz.zeroValue0
  t3 := Tryz.underlying3
  a3 := Tryz.isAgg3
  z3 := Tryz.sizeOf3
  v3 := Tryz.zeroValue3
  t4 := Tryz.underlying4
  a4 := Tryz.isAgg4
  z4 := Tryz.sizeOf4
  v4 := Tryz.zeroValue4
  t5 := Tryz.underlying5
  a5 := Tryz.isAgg5
  z5 := Tryz.sizeOf5
  v5 := Tryz.zeroValue5
  t9 := Tryz.underlying9
  a9 := Tryz.isAgg9
  z9 := Tryz.sizeOf9
  v9 := Tryz.zeroValue9
  t21 := Tryz.underlying21
  a21 := Tryz.isAgg21
  z21 := Tryz.sizeOf21
  v21 := Tryz.zeroValue21
  t46 := Tryz.underlying197
  a46 := Tryz.isAgg197
  z46 := Tryz.sizeOf197
  v46 := Tryz.zeroValue197
  t105 := Tryz.underlying451
  a105 := Tryz.isAgg451
  z105 := Tryz.sizeOf451
  v105 := Tryz.zeroValue451
  t116 := Tryz.underlying411
  a116 := Tryz.isAgg411
  z116 := Tryz.sizeOf411
  t117 := Tryz.underlying412
  a117 := Tryz.isAgg412
  z117 := Tryz.sizeOf412
  v117 := Tryz.zeroValue412
  t119 := Tryz.underlying478
  a119 := Tryz.isAgg478
  z119 := Tryz.sizeOf478
  t124 := Tryz.underlying415
  a124 := Tryz.isAgg415
  z124 := Tryz.sizeOf415
  v124 := Tryz.zeroValue415
  t138 := Tryz.underlying480
  a138 := Tryz.isAgg480
  z138 := Tryz.sizeOf480
  v138 := Tryz.zeroValue480
  t139 := Tryz.underlying481
  a139 := Tryz.isAgg481
  z139 := Tryz.sizeOf481
  v139 := Tryz.zeroValue481
  g3 := by kernel_rfl
  g4 := by kernel_rfl }
open Go.RowKit in
theorem Tryz.strings_Trim_one (s : ByteArray) (c : UInt8) (hc : c.toNat < 128) (w : World) (hs : s.size ≤ 9223372036854775807) :
    Calls Tryz.prog 277 #[.string s, .string ⟨#[c]⟩] w fun e w' => e = .returned (.string ⟨(Lib.trimB s.data.toList c).toArray⟩) ∧ (w' = w ∨ w' = w.drew) := Any.strings_Trim_one Tryz.lays160 s c hc w hs
def Tryz.laysM171_ren : Go.Shelf.Ren := ⟨fun | 171 => 335 | 243 => 367 | 246 => 380 | 283 => 394 | 284 => 395 | 285 => 396 | 286 => 397 | 129 => 333 | 317 => 402 | 318 => 403 | 319 => 404 | 320 => 405 | 337 => 409 | 338 => 410 | n => n, fun | 3 => 3 | 9 => 9 | 2 => 2 | 4 => 4 | 171 => 484 | 0 => 0 | 53 => 427 | 37 => 22 | 5 => 5 | 173 => 486 | 212 => 495 | 51 => 425 | 20 => 20 | 213 => 496 | 46 => 197 | 232 => 502 | 233 => 503 | n => n, fun | 17 => 5 | 18 => 6 | 19 => 7 | n => n⟩
theorem Tryz.laysM171 : Go.Proofs.LaysM.n171 Tryz.prog Tryz.laysM171_ren := {
  mixed := by kernel_rfl
  f129 := Tryz.func333.trans (congrArg some (by kernel_rfl))
  f171 := Tryz.func335.trans (congrArg some (by kernel_rfl))
  f243 := Tryz.func367.trans (congrArg some (by kernel_rfl))
  f246 := Tryz.func380.trans (congrArg some (by kernel_rfl))
  f283 := Tryz.func394.trans (congrArg some (by kernel_rfl))
  f284 := Tryz.func395.trans (congrArg some (by kernel_rfl))
  f285 := Tryz.func396.trans (congrArg some (by kernel_rfl))
  f286 := Tryz.func397.trans (congrArg some (by kernel_rfl))
  f317 := Tryz.func402.trans (congrArg some (by kernel_rfl))
  f318 := Tryz.func403.trans (congrArg some (by kernel_rfl))
  f319 := Tryz.func404.trans (congrArg some (by kernel_rfl))
  f320 := Tryz.func405.trans (congrArg some (by kernel_rfl))
  f337 := Tryz.func409.trans (congrArg some (by kernel_rfl))
  f338 := Tryz.func410.trans (congrArg some (by kernel_rfl))
  t0 := Tryz.underlying0
  a0 := Tryz.isAgg0
  z0 := Tryz.sizeOf0
  v0 := Tryz.zeroValue0
  t2 := Tryz.underlying2
  a2 := Tryz.isAgg2
  z2 := Tryz.sizeOf2
  v2 := Tryz.zeroValue2
  t3 := Tryz.underlying3
  a3 := Tryz.isAgg3
  z3 := Tryz.sizeOf3
  v3 := Tryz.zeroValue3
  t4 := Tryz.underlying4
  a4 := Tryz.isAgg4
  z4 := Tryz.sizeOf4
  v4 := Tryz.zeroValue4
  t5 := Tryz.underlying5
  a5 := Tryz.isAgg5
  z5 := Tryz.sizeOf5
  v5 := Tryz.zeroValue5
  t9 := Tryz.underlying9
  a9 := Tryz.isAgg9
  z9 := Tryz.sizeOf9
  v9 := Tryz.zeroValue9
  t20 := Tryz.underlying20
  a20 := Tryz.isAgg20
  z20 := Tryz.sizeOf20
  v20 := Tryz.zeroValue20
  t37 := Tryz.underlying22
  a37 := Tryz.isAgg22
  z37 := Tryz.sizeOf22
  v37 := Tryz.zeroValue22
  t46 := Tryz.underlying197
  a46 := Tryz.isAgg197
  z46 := Tryz.sizeOf197
  v46 := Tryz.zeroValue197
  t51 := Tryz.underlying425
  a51 := Tryz.isAgg425
  z51 := Tryz.sizeOf425
  v51 := Tryz.zeroValue425
  t53 := Tryz.underlying427
  a53 := Tryz.isAgg427
  z53 := Tryz.sizeOf427
  v53 := Tryz.zeroValue427
  t171 := Tryz.underlying484
  a171 := Tryz.isAgg484
  z171 := Tryz.sizeOf484
  v171 := Tryz.zeroValue484
  t173 := Tryz.underlying486
  a173 := Tryz.isAgg486
  z173 := Tryz.sizeOf486
  v173 := Tryz.zeroValue486
  t212 := Tryz.underlying495
  a212 := Tryz.isAgg495
  z212 := Tryz.sizeOf495
  v212 := Tryz.zeroValue495
  t213 := Tryz.underlying496
  a213 := Tryz.isAgg496
  z213 := Tryz.sizeOf496
  t232 := Tryz.underlying502
  a232 := Tryz.isAgg502
  z232 := Tryz.sizeOf502
  v232 := Tryz.zeroValue502
  t233 := Tryz.underlying503
  a233 := Tryz.isAgg503
  z233 := Tryz.sizeOf503
  v233 := Tryz.zeroValue503
  g17 := by kernel_rfl
  g18 := by kernel_rfl
  g19 := by kernel_rfl
  i0 := by kernel_rfl
  i2 := by kernel_rfl
  i3 := by kernel_rfl
  i4 := by kernel_rfl
  i5 := by kernel_rfl
  i9 := by kernel_rfl
  i20 := by kernel_rfl
  i37 := by kernel_rfl
  i46 := by kernel_rfl
  i51 := by kernel_rfl
  i53 := by kernel_rfl
  i171 := by kernel_rfl
  i173 := by kernel_rfl
  i212 := by kernel_rfl
  i232 := by kernel_rfl
  i233 := by kernel_rfl
  m17 := by kernel_rfl
  m18 := by kernel_rfl
  m19 := by kernel_rfl }
open Go.RowKit Go.Sort Go.Lib in
theorem Tryz.strconv_Itoa (n : Int) (h0 : -9223372036854775808 ≤ n) (h1 : n ≤ 9223372036854775807) (w : World) (htab : Lib.TabIs Tryz.prog w "internal/strconv.uint64pow10" .u64 Lib.pow10Tab) :
    Calls Tryz.prog 335 #[.int .i64 n] w fun e w' => e = .returned (.string ⟨(Lib.itoa n).toArray⟩) ∧ ∃ k os, w' = grow (w.drewN k) os := Any.strconv_Itoa Tryz.laysM171 n h0 h1 w htab
def Tryz.laysC172_ren : Go.Shelf.Ren := ⟨fun | 172 => 337 | 244 => 369 | 245 => 370 | 247 => 382 | 279 => 383 | 280 => 384 | 281 => 385 | 282 => 386 | 287 => 398 | 316 => 399 | 171 => 335 | 205 => 400 | 321 => 406 | 322 => 407 | 243 => 367 | 246 => 380 | 283 => 394 | 284 => 395 | 285 => 396 | 286 => 397 | 129 => 333 | 317 => 402 | 318 => 403 | 319 => 404 | 320 => 405 | 337 => 409 | 338 => 410 | n => n, fun | 9 => 9 | 3 => 3 | 75 => 431 | 76 => 432 | 4 => 4 | 5 => 5 | 167 => 469 | 37 => 22 | 0 => 0 | 85 => 470 | 2 => 2 | 168 => 472 | 53 => 427 | 175 => 488 | 46 => 197 | 210 => 492 | 127 => 498 | 145 => 501 | 143 => 499 | 21 => 21 | 171 => 484 | 173 => 486 | 212 => 495 | 51 => 425 | 20 => 20 | 213 => 496 | 232 => 502 | 233 => 503 | 80 => 504 | n => n, fun | 15 => 3 | 16 => 4 | 17 => 5 | 18 => 6 | 19 => 7 | n => n⟩
theorem Tryz.laysC172 : Go.Proofs.LaysC.n172 Tryz.prog Tryz.laysC172_ren := {
  mixed := by kernel_rfl
  f129 := Tryz.func333.trans (congrArg some (by kernel_rfl))
  f171 := Tryz.func335.trans (congrArg some (by kernel_rfl))
  f172 := Tryz.func337.trans (congrArg some (by kernel_rfl))
  f205 := Tryz.func400.trans (congrArg some (by kernel_rfl))
  f243 := Tryz.func367.trans (congrArg some (by kernel_rfl))
  f244 := Tryz.func369.trans (congrArg some (by kernel_rfl))
  f245 := Tryz.func370.trans (congrArg some (by kernel_rfl))
  f246 := Tryz.func380.trans (congrArg some (by kernel_rfl))
  f247 := Tryz.func382.trans (congrArg some (by kernel_rfl))
  f279 := Tryz.func383.trans (congrArg some (by kernel_rfl))
  f280 := Tryz.func384.trans (congrArg some (by kernel_rfl))
  f281 := Tryz.func385.trans (congrArg some (by kernel_rfl))
  f282 := Tryz.func386.trans (congrArg some (by kernel_rfl))
  f283 := Tryz.func394.trans (congrArg some (by kernel_rfl))
  f284 := Tryz.func395.trans (congrArg some (by kernel_rfl))
  f285 := Tryz.func396.trans (congrArg some (by kernel_rfl))
  f286 := Tryz.func397.trans (congrArg some (by kernel_rfl))
  f287 := Tryz.func398.trans (congrArg some (by kernel_rfl))
  f316 := Tryz.func399.trans (congrArg some (by kernel_rfl))
  f317 := Tryz.func402.trans (congrArg some (by kernel_rfl))
  f318 := Tryz.func403.trans (congrArg some (by kernel_rfl))
  f319 := Tryz.func404.trans (congrArg some (by kernel_rfl))
  f320 := Tryz.func405.trans (congrArg some (by kernel_rfl))
  f321 := Tryz.func406.trans (congrArg some (by kernel_rfl))
  f322 := Tryz.func407.trans (congrArg some (by kernel_rfl))
  f337 := Tryz.func409.trans (congrArg some (by kernel_rfl))
  f338 := Tryz.func410.trans (congrArg some (by kernel_rfl))
  t0 := Tryz.underlying0
  a0 := Tryz.isAgg0
  z0 := Tryz.sizeOf0
  v0 := Tryz.zeroValue0
  t2 := Tryz.underlying2
  a2 := Tryz.isAgg2
  z2 := Tryz.sizeOf2
  v2 := Tryz.zeroValue2
  t3 := Tryz.underlying3
  a3 := Tryz.isAgg3
  z3 := Tryz.sizeOf3
  v3 := Tryz.zeroValue3
  t4 := Tryz.underlying4
  a4 := Tryz.isAgg4
  z4 := Tryz.sizeOf4
  v4 := Tryz.zeroValue4
  t5 := Tryz.underlying5
  a5 := Tryz.isAgg5
  z5 := Tryz.sizeOf5
  v5 := Tryz.zeroValue5
  t9 := Tryz.underlying9
  a9 := Tryz.isAgg9
  z9 := Tryz.sizeOf9
  v9 := Tryz.zeroValue9
  t20 := Tryz.underlying20
  a20 := Tryz.isAgg20
  z20 := Tryz.sizeOf20
  v20 := Tryz.zeroValue20
  t21 := Tryz.underlying21
  a21 := Tryz.isAgg21
  z21 := Tryz.sizeOf21
  v21 := Tryz.zeroValue21
  t37 := Tryz.underlying22
  a37 := Tryz.isAgg22
  z37 := Tryz.sizeOf22
  v37 := Tryz.zeroValue22
  t46 := Tryz.underlying197
  a46 := Tryz.isAgg197
  z46 := Tryz.sizeOf197
  v46 := Tryz.zeroValue197
  t51 := Tryz.underlying425
  a51 := Tryz.isAgg425
  z51 := Tryz.sizeOf425
  v51 := Tryz.zeroValue425
  t53 := Tryz.underlying427
  a53 := Tryz.isAgg427
  z53 := Tryz.sizeOf427
  v53 := Tryz.zeroValue427
  t75 := Tryz.underlying431
  a75 := Tryz.isAgg431
  z75 := Tryz.sizeOf431
  v75 := Tryz.zeroValue431
  t76 := Tryz.underlying432
  a76 := Tryz.isAgg432
  z76 := Tryz.sizeOf432
  v76 := Tryz.zeroValue432
  t85 := Tryz.underlying470
  a85 := Tryz.isAgg470
  z85 := Tryz.sizeOf470
  v85 := Tryz.zeroValue470
  t127 := Tryz.underlying498
  a127 := Tryz.isAgg498
  z127 := Tryz.sizeOf498
  v127 := Tryz.zeroValue498
  t143 := Tryz.underlying499
  a143 := Tryz.isAgg499
  z143 := Tryz.sizeOf499
  v143 := Tryz.zeroValue499
  t145 := Tryz.underlying501
  a145 := Tryz.isAgg501
  z145 := Tryz.sizeOf501
  v145 := Tryz.zeroValue501
  t167 := Tryz.underlying469
  a167 := Tryz.isAgg469
  z167 := Tryz.sizeOf469
  v167 := Tryz.zeroValue469
  t168 := Tryz.underlying472
  a168 := Tryz.isAgg472
  z168 := Tryz.sizeOf472
  v168 := Tryz.zeroValue472
  t171 := Tryz.underlying484
  a171 := Tryz.isAgg484
  z171 := Tryz.sizeOf484
  v171 := Tryz.zeroValue484
  t173 := Tryz.underlying486
  a173 := Tryz.isAgg486
  z173 := Tryz.sizeOf486
  v173 := Tryz.zeroValue486
  t175 := Tryz.underlying488
  a175 := Tryz.isAgg488
  z175 := Tryz.sizeOf488
  v175 := Tryz.zeroValue488
  t210 := Tryz.underlying492
  a210 := Tryz.isAgg492
  z210 := Tryz.sizeOf492
  v210 := Tryz.zeroValue492
  t212 := Tryz.underlying495
  a212 := Tryz.isAgg495
  z212 := Tryz.sizeOf495
  v212 := Tryz.zeroValue495
  t213 := Tryz.underlying496
  a213 := Tryz.isAgg496
  z213 := Tryz.sizeOf496
  t232 := Tryz.underlying502
  a232 := Tryz.isAgg502
  z232 := Tryz.sizeOf502
  v232 := Tryz.zeroValue502
  t233 := Tryz.underlying503
  a233 := Tryz.isAgg503
  z233 := Tryz.sizeOf503
  v233 := Tryz.zeroValue503
  g15 := by kernel_rfl
  g16 := by kernel_rfl
  g17 := by kernel_rfl
  g18 := by kernel_rfl
  g19 := by kernel_rfl
  t80 := Tryz.underlying504
  a80 := Tryz.isAgg504
  z80 := Tryz.sizeOf504
  v80 := Tryz.zeroValue504
  i0 := by kernel_rfl
  i2 := by kernel_rfl
  i3 := by kernel_rfl
  i4 := by kernel_rfl
  i5 := by kernel_rfl
  i9 := by kernel_rfl
  i20 := by kernel_rfl
  i21 := by kernel_rfl
  i37 := by kernel_rfl
  i46 := by kernel_rfl
  i51 := by kernel_rfl
  i53 := by kernel_rfl
  i75 := by kernel_rfl
  i76 := by kernel_rfl
  i80 := by kernel_rfl
  i85 := by kernel_rfl
  i127 := by kernel_rfl
  i143 := by kernel_rfl
  i145 := by kernel_rfl
  i167 := by kernel_rfl
  i168 := by kernel_rfl
  i171 := by kernel_rfl
  i173 := by kernel_rfl
  i175 := by kernel_rfl
  i210 := by kernel_rfl
  i212 := by kernel_rfl
  i232 := by kernel_rfl
  i233 := by kernel_rfl
  m15 := by kernel_rfl
  m16 := by kernel_rfl
  m17 := by kernel_rfl
  m18 := by kernel_rfl
  m19 := by kernel_rfl
  c0 := by kernel_rfl
  c2 := by kernel_rfl
  c3 := by kernel_rfl
  c4 := by kernel_rfl
  c5 := by kernel_rfl
  c9 := by kernel_rfl
  c20 := by kernel_rfl
  c21 := by kernel_rfl
  c37 := by kernel_rfl
  c46 := by kernel_rfl
  c51 := by kernel_rfl
  c53 := by kernel_rfl
  c75 := by kernel_rfl
  c76 := by kernel_rfl
  c80 := by kernel_rfl
  c85 := by kernel_rfl
  c127 := by kernel_rfl
  c143 := by kernel_rfl
  c145 := by kernel_rfl
  c167 := by kernel_rfl
  c168 := by kernel_rfl
  c171 := by kernel_rfl
  c173 := by kernel_rfl
  c175 := by kernel_rfl
  c210 := by kernel_rfl
  c212 := by kernel_rfl
  c213 := by kernel_rfl
  c232 := by kernel_rfl
  c233 := by kernel_rfl }
open Go.RowKit in
theorem Tryz.strconv_Atoi_ok (s : ByteArray) (hmax : s.size ≤ 9223372036854775806) (v : Int) (h : Lib.atoiAll s.data.toList = .ok v) (w : World) :
    Calls Tryz.prog 337 #[.string s] w fun e w' => e = .returned (.tuple #[.int .i64 v, .nilIface]) ∧ (w' = w ∨ ∃ t, w' = Lib.bytesWorld w 5 t) := Any.strconv_Atoi_ok Tryz.laysC172 s hmax v h w
open Go.RowKit in
theorem Tryz.strconv_Atoi_syntax_var (s : ByteArray) (hlim : s.size ≤ 281474976710656) (h : Lib.atoiAll s.data.toList = Lib.atoiAll []) (tp : TypeId) (p : Value) (w : World) (hvar : w.var? Tryz.prog "strconv.ErrSyntax" = some #[.iface tp p]) :
    Calls Tryz.prog 337 #[.string s] w fun e w' => ∃ N, e = .returned (.tuple #[.int .i64 0, .iface 472 (.pointer (some ⟨N, 0, none⟩))]) ∧ w.heap.size ≤ N ∧ w'.heap[N]? = some (.cells #[.string ⟨#[65, 116, 111, 105]⟩, .string s, .iface tp p] 492 (0, 0)) ∧ Below w.heap.size w w' := Any.strconv_Atoi_syntax_var Tryz.laysC172 s hlim h tp p w hvar
open Go.RowKit in
theorem Tryz.strconv_Atoi_range_var (s : ByteArray) (hlim : s.size ≤ 281474976710656) (h : Lib.atoiAll s.data.toList = .range) (tp : TypeId) (p : Value) (w : World) (hvar : w.var? Tryz.prog "strconv.ErrRange" = some #[.iface tp p]) :
    Calls Tryz.prog 337 #[.string s] w fun e w' => ∃ N, e = .returned (.tuple #[.int .i64 (Lib.atoiSat s.data.toList), .iface 472 (.pointer (some ⟨N, 0, none⟩))]) ∧ w.heap.size ≤ N ∧ w'.heap[N]? = some (.cells #[.string ⟨#[65, 116, 111, 105]⟩, .string s, .iface tp p] 492 (0, 0)) ∧ Below w.heap.size w w' := Any.strconv_Atoi_range_var Tryz.laysC172 s hlim h tp p w hvar
def Tryz.lays190_ren : Go.Shelf.Ren := ⟨fun | 190 => 221 | 125 => 280 | 258 => 279 | 128 => 332 | 129 => 333 | 302 => 323 | 303 => 324 | 304 => 325 | 305 => 326 | 306 => 327 | 307 => 328 | 308 => 329 | 309 => 330 | 310 => 331 | 333 => 362 | 329 => 363 | 330 => 364 | 334 => 365 | 335 => 366 | 336 => 258 | 344 => 379 | n => n, fun | 31 => 205 | 9 => 9 | 3 => 3 | 46 => 197 | 0 => 0 | 51 => 425 | 53 => 427 | 4 => 4 | 183 => 418 | 182 => 417 | 131 => 227 | 5 => 5 | 218 => 454 | 222 => 92 | 228 => 466 | 229 => 165 | n => n, fun | n => n⟩
theorem Tryz.lays190 : Go.Proofs.Lays.n190 Tryz.prog Tryz.lays190_ren := {
  mixed := by kernel_rfl
  f125 := Tryz.func280.trans (congrArg some (by kernel_rfl))
  f128 := Tryz.func332.trans (congrArg some (by kernel_rfl))
  f129 := Tryz.func333.trans (congrArg some (by kernel_rfl))
  f190 := Tryz.func221.trans (congrArg some (by kernel_rfl))
  f258 := Tryz.func279.trans (congrArg some (by kernel_rfl))
  f302 := Tryz.func323.trans (congrArg some (by kernel_rfl))
  f303 := Tryz.func324.trans (congrArg some (by kernel_rfl))
  f304 := Tryz.func325.trans (congrArg some (by kernel_rfl))
  f305 := Tryz.func326.trans (congrArg some (by kernel_rfl))
  f306 := Tryz.func327.trans (congrArg some (by kernel_rfl))
  f307 := Tryz.func328.trans (congrArg some (by kernel_rfl))
  f308 := Tryz.func329.trans (congrArg some (by kernel_rfl))
  f309 := Tryz.func330.trans (congrArg some (by kernel_rfl))
  f310 := Tryz.func331.trans (congrArg some (by kernel_rfl))
  f329 := Tryz.func363.trans (congrArg some (by kernel_rfl))
  f330 := Tryz.func364.trans (congrArg some (by kernel_rfl))
  f333 := Tryz.func362.trans (congrArg some (by kernel_rfl))
  f334 := Tryz.func365.trans (congrArg some (by kernel_rfl))
  f335 := Tryz.func366.trans (congrArg some (by kernel_rfl))
  f336 := Tryz.func258.trans (congrArg some (by kernel_rfl))
  f344 := Tryz.func379.trans (congrArg some (by kernel_rfl))
  t0 := Tryz.underlying0
  a0 := Tryz.isAgg0
  z0 := Tryz.sizeOf0
  v0 := Tryz.zeroValue0
  t3 := Tryz.underlying3
  a3 := Tryz.isAgg3
  z3 := Tryz.sizeOf3
  v3 := Tryz.zeroValue3
  t4 := Tryz.underlying4
  a4 := Tryz.isAgg4
  z4 := Tryz.sizeOf4
  v4 := Tryz.zeroValue4
  t5 := Tryz.underlying5
  a5 := Tryz.isAgg5
  z5 := Tryz.sizeOf5
  v5 := Tryz.zeroValue5
  t9 := Tryz.underlying9
  a9 := Tryz.isAgg9
  z9 := Tryz.sizeOf9
  v9 := Tryz.zeroValue9
  t31 := Tryz.underlying205
  a31 := Tryz.isAgg205
  z31 := Tryz.sizeOf205
  v31 := Tryz.zeroValue205
  t46 := Tryz.underlying197
  a46 := Tryz.isAgg197
  z46 := Tryz.sizeOf197
  v46 := Tryz.zeroValue197
  t51 := Tryz.underlying425
  a51 := Tryz.isAgg425
  z51 := Tryz.sizeOf425
  v51 := Tryz.zeroValue425
  t53 := Tryz.underlying427
  a53 := Tryz.isAgg427
  z53 := Tryz.sizeOf427
  v53 := Tryz.zeroValue427
  t131 := Tryz.underlying227
  a131 := Tryz.isAgg227
  z131 := Tryz.sizeOf227
  v131 := Tryz.zeroValue227
  t182 := Tryz.underlying417
  a182 := Tryz.isAgg417
  z182 := Tryz.sizeOf417
  v182 := Tryz.zeroValue417
  t183 := Tryz.underlying418
  a183 := Tryz.isAgg418
  z183 := Tryz.sizeOf418
  v183 := Tryz.zeroValue418
  t218 := Tryz.underlying454
  a218 := Tryz.isAgg454
  z218 := Tryz.sizeOf454
  v218 := Tryz.zeroValue454
  t222 := Tryz.underlying92
  a222 := Tryz.isAgg92
  z222 := Tryz.sizeOf92
  v222 := Tryz.zeroValue92
  t228 := Tryz.underlying466
  a228 := Tryz.isAgg466
  z228 := Tryz.sizeOf466
  v228 := Tryz.zeroValue466
  t229 := Tryz.underlying165
  a229 := Tryz.isAgg165
  z229 := Tryz.sizeOf165
  v229 := Tryz.zeroValue165 }
open Go.Sort Go.RowKit in
theorem Tryz.slices_Sort_string (blk off cap : Nat) (ss : List (List UInt8)) (w : World) (hH : Holds encStr w blk off ss.toArray) (hblk : blk < w.heap.size) (hsz : ss.length < 4611686018427387904) :
    Calls Tryz.prog 221 #[.slice (some ⟨blk, off, none⟩) ss.length cap] w fun e w' =>
      e = .returned (.tuple #[]) ∧ ∃ n os, w' = grow (putRow encStr (Sort.ahead w n) blk off (ss.mergeSort fun x y => decide (x ≤ y)).toArray) os := Any.slices_Sort_string Tryz.lays190 blk off cap ss w hH hblk hsz
def Tryz.lays101_ren : Go.Shelf.Ren := ⟨fun | 101 => 336 | 208 => 368 | 206 => 381 | n => n, fun | 9 => 9 | 4 => 4 | 3 => 3 | n => n, fun | n => n⟩
theorem Tryz.lays101 : Go.Proofs.Lays.n101 Tryz.prog Tryz.lays101_ren := {
  mixed := by kernel_rfl
  f101 := Tryz.func336.trans (congrArg some (by kernel_rfl))
  f206 := Tryz.func381.trans (congrArg some (by kernel_rfl))
  f208 := Tryz.func368.trans (congrArg some (by kernel_rfl))
  t3 := Tryz.underlying3
  a3 := Tryz.isAgg3
  z3 := Tryz.sizeOf3
  v3 := Tryz.zeroValue3
  t4 := Tryz.underlying4
  a4 := Tryz.isAgg4
  z4 := Tryz.sizeOf4
  v4 := Tryz.zeroValue4
  t9 := Tryz.underlying9
  a9 := Tryz.isAgg9
  z9 := Tryz.sizeOf9
  v9 := Tryz.zeroValue9 }
open Go.RowKit Go.Lib in
theorem Tryz.strings_TrimPrefix (s p : ByteArray) (w : World) :
    Calls Tryz.prog 336 #[.string s, .string p] w fun e w' => e = .returned (.string ⟨(Lib.trimPrefix s.data.toList p.data.toList).toArray⟩) ∧ w' = w := Any.strings_TrimPrefix Tryz.lays101 s p w
def Tryz.lays194_ren : Go.Shelf.Ren := ⟨fun | 194 => 222 | n => n, fun | 31 => 205 | 9 => 9 | 3 => 3 | 4 => 4 | 0 => 0 | n => n, fun | n => n⟩
theorem Tryz.lays194 : Go.Proofs.Lays.n194 Tryz.prog Tryz.lays194_ren := {
  mixed := by kernel_rfl
  f194 := Tryz.func222.trans (congrArg some (by kernel_rfl))
  t0 := Tryz.underlying0
  a0 := Tryz.isAgg0
  z0 := Tryz.sizeOf0
  v0 := Tryz.zeroValue0
  t3 := Tryz.underlying3
  a3 := Tryz.isAgg3
  z3 := Tryz.sizeOf3
  v3 := Tryz.zeroValue3
  t4 := Tryz.underlying4
  a4 := Tryz.isAgg4
  z4 := Tryz.sizeOf4
  v4 := Tryz.zeroValue4
  t9 := Tryz.underlying9
  a9 := Tryz.isAgg9
  z9 := Tryz.sizeOf9
  v9 := Tryz.zeroValue9
  t31 := Tryz.underlying205
  a31 := Tryz.isAgg205
  z31 := Tryz.sizeOf205
  v31 := Tryz.zeroValue205 }
open Go.RowKit Go.Lib Go.Sort in
theorem Tryz.slices_Compact_string_arr (blk off cap : Nat) (d : Array (List UInt8)) (w : World) (hH : Holds encStr w blk off d) (hsz : d.size ≤ 9223372036854775807) (hcap : d.size ≤ cap) :
    Calls Tryz.prog 222 #[.slice (some ⟨blk, off, none⟩) d.size cap] w fun e w' => e = .returned (.slice (some ⟨blk, off, none⟩) (compactUpTo d d.size).length cap) ∧ ∃ q, w' = putRow encStr (Sort.ahead w q) blk off (compactUpTo d d.size ++ List.replicate (d.size - (compactUpTo d d.size).length) []).toArray := Any.slices_Compact_string_arr Tryz.lays194 blk off cap d w hH hsz hcap
open Go.RowKit Go.Lib Go.Sort in
theorem Tryz.slices_Compact_string (blk off cap : Nat) (zs : List (List UInt8)) (w : World) (hH : Holds encStr w blk off zs.toArray) (hsz : zs.length ≤ 9223372036854775807) (hcap : zs.length ≤ cap) :
    Calls Tryz.prog 222 #[.slice (some ⟨blk, off, none⟩) zs.length cap] w fun e w' => e = .returned (.slice (some ⟨blk, off, none⟩) (Lib.compact zs).length cap) ∧ ∃ q, w' = putRow encStr (Sort.ahead w q) blk off (Lib.compact zs ++ List.replicate (zs.length - (Lib.compact zs).length) []).toArray := Any.slices_Compact_string Tryz.lays194 blk off cap zs w hH hsz hcap
open Go.RowKit Go.Lib Go.Sort in
theorem Tryz.slices_Compact_string_empty (a : Option Addr) (cap : Nat) (w : World) :
    Calls Tryz.prog 222 #[.slice a 0 cap] w fun e w' => e = .returned (.slice a 0 cap) ∧ w' = w := Any.slices_Compact_string_empty Tryz.lays194 a cap w
open Go.RowKit Go.Sort in
theorem Tryz.slices_Sort_string_none (p : Option Addr) (cap : Nat) (w : World) :
    Calls Tryz.prog 221 #[.slice p 0 cap] w fun e w' => e = .returned (.tuple #[]) ∧ w' = w := Any.slices_Sort_string_none Tryz.lays190 p cap w
end Go.Proofs
