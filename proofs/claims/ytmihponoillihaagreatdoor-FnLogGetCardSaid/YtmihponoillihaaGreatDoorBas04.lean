/- Part of the texts of a proof: own texts joined in the order of their building; what they say stands at each theorem. -/
import Derived.Shelf.Strings.Builder1
import Derived.Shelf.Small.Bits
import Derived.Shelf.Small.Strs
import Derived.Shelf.Small.Wraps
import Derived.Shelf.Strings.BuilderF
import Derived.Shelf.Strings.BuilderK
import Derived.Shelf.Utf8.RuneCount
import Derived.Shelf.Strconv.Itoa0
import Derived.Shelf.Strconv.Itoa1
import Derived.Shelf.LaysM
import Derived.Shelf.Strconv.Itoa2
import Derived.Shelf.Strconv.Itoa3
import Derived.Shelf.Strings.Search1
import Derived.Shelf.Strings.Search2
import Derived.Shelf.Strings.Search3
import Derived.Shelf.Strings.Cut
import Derived.Shelf.Strings.Count
import Derived.Shelf.Strings.Shaped
import Derived.Shelf.Strings.LastIndex
import Derived.Shelf.Strings.Prefix
import Derived.Shelf.Strings.Split
import Derived.Shelf.Strings.SplitShaped
import Derived.Shelf.Unicode.DecodeSlow
import Derived.Shelf.Strings.BuilderCap
import Derived.Ground.SlsfProg
import Derived.Shelf.SlSortCmp.Insertion
import Derived.Test.YtmihponoillihaaGreatDoorProg
import Derived.Test.YtmihponoillihaaGreatDoorBas03
import Derived.Laws.EntriesVeiled
import Derived.RangeFuncNested
import Derived.RangeFuncBound
import Derived.RangeFuncCalls
import Derived.RangeFuncLeaves
import Derived.RangeFuncWrites
import Derived.Shelf.Abstract
import Derived.Shelf.RegionOpen
import Derived.OwnWalkIn
import Derived.TacticsInMore
import Derived.LoopNIn
import Derived.LoopIn
set_option linter.unusedSimpArgs false
set_option linter.unusedVariables false
namespace Go.Proofs
open Go.Shelf
def Tryz.lays169_ren : Go.Shelf.Ren := ⟨fun | 169 => 96 | n => n, fun | 70 => 142 | 9 => 9 | 0 => 0 | 72 => 144 | 37 => 22 | 127 => 218 | 3 => 3 | 5 => 5 | n => n, fun | n => n⟩
theorem Tryz.lays169 : Go.Proofs.Lays.n169 Tryz.prog Tryz.lays169_ren := {
 mixed := by kernel_rfl
 f169 := Tryz.func96.trans (congrArg some (by kernel_rfl))
 t0 := Tryz.underlying0
 a0 := Tryz.isAgg0
 z0 := Tryz.sizeOf0
 v0 := Tryz.zeroValue0
 t3 := Tryz.underlying3
 a3 := Tryz.isAgg3
 z3 := Tryz.sizeOf3
 v3 := Tryz.zeroValue3
 t9 := Tryz.underlying9
 a9 := Tryz.isAgg9
 z9 := Tryz.sizeOf9
 v9 := Tryz.zeroValue9
 t37 := Tryz.underlying22
 a37 := Tryz.isAgg22
 z37 := Tryz.sizeOf22
 v37 := Tryz.zeroValue22
 t70 := Tryz.underlying142
 a70 := Tryz.isAgg142
 z70 := Tryz.sizeOf142
 v70 := Tryz.zeroValue142
 t72 := Tryz.underlying144
 a72 := Tryz.isAgg144
 z72 := Tryz.sizeOf144
 v72 := Tryz.zeroValue144
 t127 := Tryz.underlying218
 a127 := Tryz.isAgg218
 z127 := Tryz.sizeOf218
 v127 := Tryz.zeroValue218 }
theorem Tryz.Builder_Extra_169 : Builder.Extra Tryz.prog Tryz.lays169_ren := {
 sizeBuilder := by kernel_rfl
 liesBuilder := by kernel_rfl
 t5 := Tryz.underlying5
 a5 := Tryz.isAgg5
 z5 := Tryz.sizeOf5
 v5 := Tryz.zeroValue5
 infoByte := by kernel_rfl
 cellsByte := by kernel_rfl
 sizeByte := by kernel_rfl
 neB5 := by decide }
open Go.RowKit in
/-- (*strings.Builder).String: "String returns the accumulated string.": WHATEVER THE BUILDER HOLDS. (LAID: no walk: one application.) -/
theorem Tryz.Builder_String_any (B b : Nat) (l : List UInt8) (w : World) (h : Lib.IsBuilder 144 5 B b (Lib.byteCells l) w) (hBw : B ≤ w.heap.size) :
 Calls Tryz.prog 96 #[.pointer (some ⟨b, 0, none⟩)] w fun e w' => e = .returned (.string ⟨l.toArray⟩) ∧ Below B w w' := Any.Builder_String_any Tryz.lays169 Tryz.Builder_Extra_169 B b l w h hBw
def Tryz.lays106_ren : Go.Shelf.Ren := ⟨fun | 106 => 189 | 213 => 266 | 265 => 313 | n => n, fun | 9 => 9 | 3 => 3 | n => n, fun | n => n⟩
theorem Tryz.lays106 : Go.Proofs.Lays.n106 Tryz.prog Tryz.lays106_ren := {
 mixed := by kernel_rfl
 f106 := Tryz.func189.trans (congrArg some (by kernel_rfl))
 f213 := Tryz.func266.trans (congrArg some (by kernel_rfl))
 f265 := Tryz.func313.trans (congrArg some (by kernel_rfl))
 t3 := Tryz.underlying3
 a3 := Tryz.isAgg3
 z3 := Tryz.sizeOf3
 v3 := Tryz.zeroValue3
 t9 := Tryz.underlying9
 a9 := Tryz.isAgg9
 z9 := Tryz.sizeOf9
 v9 := Tryz.zeroValue9 }
open Go.RowKit in
/-- strings.Compare: "Compare returns an integer comparing two strings lexicographically. The result will be 0 if a == b, -1 if a < b, and +1 if a > b.": IT RETURNS 'Lib.compareBytes a b'; the world is as it was. (LAID: no walk: one application.) -/
theorem Tryz.strings_Compare (a b : ByteArray) (w : World) :
 Calls Tryz.prog 189 #[.string a, .string b] w fun e w' => e = .returned (.int .i64 (Lib.compareBytes a.data.toList b.data.toList)) ∧ w' = w := Any.strings_Compare Tryz.lays106 a b w
def Tryz.lays104_ren : Go.Shelf.Ren := ⟨fun | 104 => 288 | 211 => 330 | 207 => 348 | n => n, fun | 9 => 9 | 4 => 4 | 24 => 137 | 3 => 3 | n => n, fun | n => n⟩
theorem Tryz.lays104 : Go.Proofs.Lays.n104 Tryz.prog Tryz.lays104_ren := {
 mixed := by kernel_rfl
 f104 := Tryz.func288.trans (congrArg some (by kernel_rfl))
 f207 := Tryz.func348.trans (congrArg some (by kernel_rfl))
 f211 := Tryz.func330.trans (congrArg some (by kernel_rfl))
 t3 := Tryz.underlying3
 a3 := Tryz.isAgg3
 z3 := Tryz.sizeOf3
 v3 := Tryz.zeroValue3
 t4 := Tryz.underlying4
 a4 := Tryz.isAgg4
 z4 := Tryz.sizeOf4
 v4 := Tryz.zeroValue4
 t9 := Tryz.underlying9
 a9 := Tryz.isAgg9
 z9 := Tryz.sizeOf9
 v9 := Tryz.zeroValue9
 t24 := Tryz.underlying137
 a24 := Tryz.isAgg137
 z24 := Tryz.sizeOf137
 v24 := Tryz.zeroValue137 }
open Go.RowKit in
/-- strings.CutSuffix: "CutSuffix returns s without the provided ending suffix string and reports whether it found the suffix. If s doesn't end with suffix, CutSuffix returns s, false. If suffix is the empty string, CutSuffix returns s, true.": IT RETURNS '(Lib.trimSuffix s p, Lib.hasSuffix s p)'; the world is as it was. (LAID: no walk: one application.) -/
theorem Tryz.strings_CutSuffix (s p : ByteArray) (w : World) (hs : s.size ≤ 9223372036854775807) :
 Calls Tryz.prog 288 #[.string s, .string p] w fun e w' => e = .returned (.tuple #[.string ⟨(Lib.trimSuffix s.data.toList p.data.toList).toArray⟩, .bool (Lib.hasSuffix s.data.toList p.data.toList)]) ∧ w' = w := Any.strings_CutSuffix Tryz.lays104 s p w hs
def Tryz.laysM171_ren : Go.Shelf.Ren := ⟨fun | 171 => 93 | 243 => 160 | 246 => 217 | 283 => 291 | 284 => 292 | 285 => 293 | 286 => 294 | 129 => 253 | 317 => 332 | 318 => 333 | 319 => 334 | 320 => 335 | 337 => 352 | 338 => 353 | n => n, fun | 3 => 3 | 9 => 9 | 2 => 2 | 4 => 4 | 171 => 348 | 0 => 0 | 53 => 313 | 37 => 22 | 5 => 5 | 173 => 350 | 212 => 398 | 51 => 311 | 20 => 20 | 213 => 399 | 46 => 239 | 232 => 419 | 233 => 420 | n => n, fun | 17 => 3 | 18 => 4 | 19 => 5 | n => n⟩
theorem Tryz.laysM171 : Go.Proofs.LaysM.n171 Tryz.prog Tryz.laysM171_ren := {
 mixed := by kernel_rfl
 f129 := Tryz.func253.trans (congrArg some (by kernel_rfl))
 f171 := Tryz.func93.trans (congrArg some (by kernel_rfl))
 f243 := Tryz.func160.trans (congrArg some (by kernel_rfl))
 f246 := Tryz.func217.trans (congrArg some (by kernel_rfl))
 f283 := Tryz.func291.trans (congrArg some (by kernel_rfl))
 f284 := Tryz.func292.trans (congrArg some (by kernel_rfl))
 f285 := Tryz.func293.trans (congrArg some (by kernel_rfl))
 f286 := Tryz.func294.trans (congrArg some (by kernel_rfl))
 f317 := Tryz.func332.trans (congrArg some (by kernel_rfl))
 f318 := Tryz.func333.trans (congrArg some (by kernel_rfl))
 f319 := Tryz.func334.trans (congrArg some (by kernel_rfl))
 f320 := Tryz.func335.trans (congrArg some (by kernel_rfl))
 f337 := Tryz.func352.trans (congrArg some (by kernel_rfl))
 f338 := Tryz.func353.trans (congrArg some (by kernel_rfl))
 t0 := Tryz.underlying0
 a0 := Tryz.isAgg0
 z0 := Tryz.sizeOf0
 v0 := Tryz.zeroValue0
 t2 := Tryz.underlying2
 a2 := Tryz.isAgg2
 z2 := Tryz.sizeOf2
 v2 := Tryz.zeroValue2
 t3 := Tryz.underlying3
 a3 := Tryz.isAgg3
 z3 := Tryz.sizeOf3
 v3 := Tryz.zeroValue3
 t4 := Tryz.underlying4
 a4 := Tryz.isAgg4
 z4 := Tryz.sizeOf4
 v4 := Tryz.zeroValue4
 t5 := Tryz.underlying5
 a5 := Tryz.isAgg5
 z5 := Tryz.sizeOf5
 v5 := Tryz.zeroValue5
 t9 := Tryz.underlying9
 a9 := Tryz.isAgg9
 z9 := Tryz.sizeOf9
 v9 := Tryz.zeroValue9
 t20 := Tryz.underlying20
 a20 := Tryz.isAgg20
 z20 := Tryz.sizeOf20
 v20 := Tryz.zeroValue20
 t37 := Tryz.underlying22
 a37 := Tryz.isAgg22
 z37 := Tryz.sizeOf22
 v37 := Tryz.zeroValue22
 t46 := Tryz.underlying239
 a46 := Tryz.isAgg239
 z46 := Tryz.sizeOf239
 v46 := Tryz.zeroValue239
 t51 := Tryz.underlying311
 a51 := Tryz.isAgg311
 z51 := Tryz.sizeOf311
 v51 := Tryz.zeroValue311
 t53 := Tryz.underlying313
 a53 := Tryz.isAgg313
 z53 := Tryz.sizeOf313
 v53 := Tryz.zeroValue313
 t171 := Tryz.underlying348
 a171 := Tryz.isAgg348
 z171 := Tryz.sizeOf348
 v171 := Tryz.zeroValue348
 t173 := Tryz.underlying350
 a173 := Tryz.isAgg350
 z173 := Tryz.sizeOf350
 v173 := Tryz.zeroValue350
 t212 := Tryz.underlying398
 a212 := Tryz.isAgg398
 z212 := Tryz.sizeOf398
 v212 := Tryz.zeroValue398
 t213 := Tryz.underlying399
 a213 := Tryz.isAgg399
 z213 := Tryz.sizeOf399
 t232 := Tryz.underlying419
 a232 := Tryz.isAgg419
 z232 := Tryz.sizeOf419
 v232 := Tryz.zeroValue419
 t233 := Tryz.underlying420
 a233 := Tryz.isAgg420
 z233 := Tryz.sizeOf420
 v233 := Tryz.zeroValue420
 g17 := by kernel_rfl
 g18 := by kernel_rfl
 g19 := by kernel_rfl
 i0 := by kernel_rfl
 i2 := by kernel_rfl
 i3 := by kernel_rfl
 i4 := by kernel_rfl
 i5 := by kernel_rfl
 i9 := by kernel_rfl
 i20 := by kernel_rfl
 i37 := by kernel_rfl
 i46 := by kernel_rfl
 i51 := by kernel_rfl
 i53 := by kernel_rfl
 i171 := by kernel_rfl
 i173 := by kernel_rfl
 i212 := by kernel_rfl
 i232 := by kernel_rfl
 i233 := by kernel_rfl
 m17 := by kernel_rfl
 m18 := by kernel_rfl
 m19 := by kernel_rfl }
open Go.RowKit Go.Sort Go.Lib in
/-- strconv.Itoa: "Itoa is equivalent to FormatInt(int64(i), 10).": i's DECIMAL NUMERAL ('Lib.itoa': a '-' where i is negative, then the digits), FOR EVERY int. The world behind the call: the world before it, new blocks behind the heap (the library's 'var a [24]byte'), draws. (LAID: no walk: one application.) -/
theorem Tryz.strconv_Itoa (n : Int) (h0 : -9223372036854775808 ≤ n) (h1 : n ≤ 9223372036854775807) (w : World) (htab : Lib.TabIs Tryz.prog w "internal/strconv.uint64pow10" .u64 Lib.pow10Tab) :
 Calls Tryz.prog 93 #[.int .i64 n] w fun e w' => e = .returned (.string ⟨(Lib.itoa n).toArray⟩) ∧ ∃ k os, w' = grow (w.drewN k) os := Any.strconv_Itoa Tryz.laysM171 n h0 h1 w htab
def Tryz.lays145_ren : Go.Shelf.Ren := ⟨fun | 145 => 154 | 220 => 212 | 219 => 287 | 217 => 326 | 225 => 327 | 224 => 328 | 267 => 329 | 266 => 346 | 314 => 347 | n => n, fun | 9 => 9 | 4 => 4 | 59 => 213 | 3 => 3 | 5 => 5 | 46 => 239 | 146 => 413 | 51 => 311 | n => n, fun | 1 => 2 | n => n⟩
theorem Tryz.lays145 : Go.Proofs.Lays.n145 Tryz.prog Tryz.lays145_ren := {
 mixed := by kernel_rfl
 f145 := Tryz.func154.trans (congrArg some (by kernel_rfl))
 f217 := Tryz.func326.trans (congrArg some (by kernel_rfl))
 f219 := Tryz.func287.trans (congrArg some (by kernel_rfl))
 f220 := Tryz.func212.trans (congrArg some (by kernel_rfl))
 f224 := Tryz.func328.trans (congrArg some (by kernel_rfl))
 f225 := Tryz.func327.trans (congrArg some (by kernel_rfl))
 f266 := Tryz.func346.trans (congrArg some (by kernel_rfl))
 f267 := Tryz.func329.trans (congrArg some (by kernel_rfl))
 f314 := Tryz.func347.trans (congrArg some (by kernel_rfl))
 t3 := Tryz.underlying3
 a3 := Tryz.isAgg3
 z3 := Tryz.sizeOf3
 v3 := Tryz.zeroValue3
 t4 := Tryz.underlying4
 a4 := Tryz.isAgg4
 z4 := Tryz.sizeOf4
 v4 := Tryz.zeroValue4
 t5 := Tryz.underlying5
 a5 := Tryz.isAgg5
 z5 := Tryz.sizeOf5
 v5 := Tryz.zeroValue5
 t9 := Tryz.underlying9
 a9 := Tryz.isAgg9
 z9 := Tryz.sizeOf9
 v9 := Tryz.zeroValue9
 t46 := Tryz.underlying239
 a46 := Tryz.isAgg239
 z46 := Tryz.sizeOf239
 v46 := Tryz.zeroValue239
 t51 := Tryz.underlying311
 a51 := Tryz.isAgg311
 z51 := Tryz.sizeOf311
 v51 := Tryz.zeroValue311
 t59 := Tryz.underlying213
 a59 := Tryz.isAgg213
 z59 := Tryz.sizeOf213
 v59 := Tryz.zeroValue213
 t146 := Tryz.underlying413
 a146 := Tryz.isAgg413
 z146 := Tryz.sizeOf413
 v146 := Tryz.zeroValue413
 g1 := by kernel_rfl }
open Go.RowKit Go.Lib in
/-- strings.Cut: "Cut slices s around the first instance of sep, returning the text before and after sep. The found result reports whether sep appears in s. If sep does not appear in s, cut returns s, "", false.": IT RETURNS 'Lib.cut s sep'; the world is as it was but for the count of draws. (LAID: no walk: one application.) -/
theorem Tryz.strings_Cut (s sep : ByteArray) (m : Int) (w : World) (hs : s.size < 4294967281) (hm : w.cell? ⟨2, 0, none⟩ = some (.int .i64 m)) :
 Calls Tryz.prog 154 #[.string s, .string sep] w fun e w' => e = .returned (.tuple #[.string ⟨(Lib.cut s.data.toList sep.data.toList).1.toArray⟩, .string ⟨(Lib.cut s.data.toList sep.data.toList).2.1.toArray⟩, .bool (Lib.cut s.data.toList sep.data.toList).2.2]) ∧ ∃ n, w' = w.drewN n := Any.strings_Cut Tryz.lays145 s sep m w hs hm
def Tryz.lays149_ren : Go.Shelf.Ren := ⟨fun | 149 => 156 | 222 => 214 | n => n, fun | 9 => 9 | 5 => 5 | 3 => 3 | 4 => 4 | n => n, fun | n => n⟩
theorem Tryz.lays149 : Go.Proofs.Lays.n149 Tryz.prog Tryz.lays149_ren := {
 mixed := by kernel_rfl
 f149 := Tryz.func156.trans (congrArg some (by kernel_rfl))
 f222 := Tryz.func214.trans (congrArg some (by kernel_rfl))
 t3 := Tryz.underlying3
 a3 := Tryz.isAgg3
 z3 := Tryz.sizeOf3
 v3 := Tryz.zeroValue3
 t4 := Tryz.underlying4
 a4 := Tryz.isAgg4
 z4 := Tryz.sizeOf4
 v4 := Tryz.zeroValue4
 t5 := Tryz.underlying5
 a5 := Tryz.isAgg5
 z5 := Tryz.sizeOf5
 v5 := Tryz.zeroValue5
 t9 := Tryz.underlying9
 a9 := Tryz.isAgg9
 z9 := Tryz.sizeOf9
 v9 := Tryz.zeroValue9 }
open Go.RowKit Go.Lib in
/-- strings.LastIndexByte: "LastIndexByte returns the index of the last instance of c in s, or -1 if c is not present in s." (LAID: no walk: one application.) -/
theorem Tryz.strings_LastIndexByte (s : ByteArray) (c : Int) (hs : s.size < 4611686018427387904) (w : World) :
 Calls Tryz.prog 156 #[.string s, .int .u8 c] w fun e w' => e = .returned (.int .i64 (Lib.lastIndexByte s c)) ∧ w' = w := Any.strings_LastIndexByte Tryz.lays149 s c hs w
def Tryz.lays146_ren : Go.Shelf.Ren := ⟨fun | 146 => 289 | 221 => 331 | 268 => 349 | 138 => 350 | 143 => 351 | 195 => 355 | 197 => 356 | 218 => 357 | 219 => 287 | 260 => 358 | 217 => 326 | 225 => 327 | 224 => 328 | 267 => 329 | 266 => 346 | 314 => 347 | n => n, fun | 9 => 9 | 31 => 65 | 3 => 3 | 4 => 4 | 0 => 0 | 105 => 417 | 21 => 21 | 5 => 5 | 46 => 239 | 119 => 421 | 139 => 424 | 138 => 423 | 146 => 413 | 51 => 311 | n => n, fun | 1 => 2 | 3 => 6 | 4 => 7 | n => n⟩
theorem Tryz.lays146 : Go.Proofs.Lays.n146 Tryz.prog Tryz.lays146_ren := {
 mixed := by kernel_rfl
 f138 := Tryz.func350.trans (congrArg some (by kernel_rfl))
 f143 := Tryz.func351.trans (congrArg some (by kernel_rfl))
 f146 := Tryz.func289.trans (congrArg some (by kernel_rfl))
 f195 := Tryz.func355.trans (congrArg some (by kernel_rfl))
 f197 := Tryz.func356.trans (congrArg some (by kernel_rfl))
 f217 := Tryz.func326.trans (congrArg some (by kernel_rfl))
 f218 := Tryz.func357.trans (congrArg some (by kernel_rfl))
 f219 := Tryz.func287.trans (congrArg some (by kernel_rfl))
 f221 := Tryz.func331.trans (congrArg some (by kernel_rfl))
 f224 := Tryz.func328.trans (congrArg some (by kernel_rfl))
 f225 := Tryz.func327.trans (congrArg some (by kernel_rfl))
 f260 := Tryz.func358.trans (congrArg some (by kernel_rfl))
 f266 := Tryz.func346.trans (congrArg some (by kernel_rfl))
 f267 := Tryz.func329.trans (congrArg some (by kernel_rfl))
 f268 := Tryz.func349.trans (congrArg some (by kernel_rfl))
 f314 := Tryz.func347.trans (congrArg some (by kernel_rfl))
 t0 := Tryz.underlying0
 a0 := Tryz.isAgg0
 z0 := Tryz.sizeOf0
 v0 := Tryz.zeroValue0
 t3 := Tryz.underlying3
 a3 := Tryz.isAgg3
 z3 := Tryz.sizeOf3
 v3 := Tryz.zeroValue3
 t4 := Tryz.underlying4
 a4 := Tryz.isAgg4
 z4 := Tryz.sizeOf4
 v4 := Tryz.zeroValue4
 t5 := Tryz.underlying5
 a5 := Tryz.isAgg5
 z5 := Tryz.sizeOf5
 v5 := Tryz.zeroValue5
 t9 := Tryz.underlying9
 a9 := Tryz.isAgg9
 z9 := Tryz.sizeOf9
 v9 := Tryz.zeroValue9
 t21 := Tryz.underlying21
 a21 := Tryz.isAgg21
 z21 := Tryz.sizeOf21
 v21 := Tryz.zeroValue21
 t31 := Tryz.underlying65
 a31 := Tryz.isAgg65
 z31 := Tryz.sizeOf65
 v31 := Tryz.zeroValue65
 t46 := Tryz.underlying239
 a46 := Tryz.isAgg239
 z46 := Tryz.sizeOf239
 v46 := Tryz.zeroValue239
 t51 := Tryz.underlying311
 a51 := Tryz.isAgg311
 z51 := Tryz.sizeOf311
 v51 := Tryz.zeroValue311
 t105 := Tryz.underlying417
 a105 := Tryz.isAgg417
 z105 := Tryz.sizeOf417
 v105 := Tryz.zeroValue417
 t119 := Tryz.underlying421
 a119 := Tryz.isAgg421
 z119 := Tryz.sizeOf421
 t138 := Tryz.underlying423
 a138 := Tryz.isAgg423
 z138 := Tryz.sizeOf423
 v138 := Tryz.zeroValue423
 t139 := Tryz.underlying424
 a139 := Tryz.isAgg424
 z139 := Tryz.sizeOf424
 v139 := Tryz.zeroValue424
 t146 := Tryz.underlying413
 a146 := Tryz.isAgg413
 z146 := Tryz.sizeOf413
 v146 := Tryz.zeroValue413
 g1 := by kernel_rfl
 g3 := by kernel_rfl
 g4 := by kernel_rfl }
open Go.RowKit Go.Lib in
/-- strings.Split. (LAID: no walk: one application.) -/
theorem Tryz.strings_Split (s sep : ByteArray) (m : Int) (w : World) (hs : s.size < 4294967281) (hm : w.cell? ⟨2, 0, none⟩ = some (.int .i64 m)) (h1 : 1 ≤ sep.size) :
 Calls Tryz.prog 289 #[.string s, .string sep] w fun e w' =>
  e = .returned (.slice (some ⟨w.heap.size, 0, none⟩) (Lib.countB s sep + 1) (Lib.countB s sep + 1)) ∧ w' = w.alloc (.cells ((Lib.splitB sep 0 (Lib.countB s sep) s).map Value.string).toArray 9) := Any.strings_Split Tryz.lays146 (by kernel_rfl) s sep m w hs hm h1
end Go.Proofs

namespace Go.Proofs.YtmihponoillihaaGreatDoor
open Go.RowKit

theorem compare_any (a b : ByteArray) (w : World) :
 Calls Tryz.prog 189 #[.string a, .string b] w fun e w' => e = .returned (.int .i64 (cmpS a b)) ∧ w' = w := Tryz.strings_Compare a b w

set_option maxHeartbeats 400000 in
theorem aOrder1_any (s t : GT) (w : World) :
 Calls Tryz.prog 191 #[.agg #[.bool s.v, .string s.n], .agg #[.bool t.v, .string t.n]] w fun e w' => e = .returned (.int .i64 (cmpS s.n t.n)) ∧ Ext w w' := by
 go_enter Tryz.func191, Tryz.ntmps191
 go_wp2_with (go_at_call 189; refine (compare_any _ _ _).mono ?_; rintro e w1 ⟨rfl, rfl⟩)
 go_ret
 exact ⟨rfl, ((Ext.refl _).alloc _).alloc _⟩

theorem cmpFrom_zero (x y : List GT) : cmpArgs x y = cmpFrom x y 0 0 := by unfold cmpFrom; rw [if_pos rfl]; rfl

set_option maxRecDepth 100000 in
set_option maxHeartbeats 2000000 in
theorem cmpFunc_any (v u : Value) (xs ys : List GT) (w : World) {S T : Nat → Prop} (hv : TermsR S w v xs) (hu : TermsR T w u ys) :
 Calls Tryz.prog 190 #[v, u, .func (.func 191) #[] #[]] w fun e w' => e = .returned (.int .i64 (cmpArgs xs ys)) ∧ Ext w w' := by
 obtain ⟨A, c, rfl, hc1, hc2⟩ := SliceR.form hv
 obtain ⟨B, d, rfl, hd1, hd2⟩ := SliceR.form hu
 have HV := Lib.hid hv
 have HU := Lib.hid hu
 clear hv hu
 go_enter Tryz.func190, Tryz.ntmps190
 go_wp2
 go_loopw [13] (fun i wr => ∃ k : Nat, (k ≤ xs.length ∧ k ≤ ys.length) ∧ i = .int .i64 k ∧ Hid (cmpArgs xs ys = cmpFrom xs ys k 0) ∧ Ext w wr) (fun i _ => xs.length - (intOf i).toNat)
 case atStart => exact ⟨0, ⟨Nat.zero_le _, Nat.zero_le _⟩, rfl, cmpFrom_zero _ _, Ext.refl _⟩
 case round =>
  obtain ⟨k, ⟨hk1, hk2⟩, rfl, hz, hx⟩ := hrel
  by_cases h1 : k < xs.length
  · obtain ⟨ba, offa, x, rfl, hba, hxk, hxs, hx0, hx1⟩ := TermsR.at_ (HV.out.ext hx) h1
    by_cases h2 : k < ys.length
    · obtain ⟨bb, offb, y, rfl, hbb, hyk, hys, hy0, hy1⟩ := TermsR.at_ (HU.out.ext hx) h2
      have HZ := Lib.hid (hz.out.trans (cmpFrom_step hxk hyk))
      have hg : decide (ys.length ≤ k) = false := decide_eq_false (by omega)
      clear hxk hyk hz
      by_cases hq : cmpS x.n y.n = 0
      · have HQ := Lib.hid (show cmpArgs xs ys = cmpFrom xs ys (k + 1) 0 from by rw [HZ.out, hq])
        have HC : ∀ W : World, Calls Tryz.prog 191 #[.agg #[.bool x.v, .string x.n], .agg #[.bool y.v, .string y.n]] W fun e w' => e = .returned (.int .i64 0) ∧ Ext W w' := fun W => by
         have := aOrder1_any x y W; rw [hq] at this; exact this
        have HC := Lib.hid HC
        clear hq
        go_wp2_with (go_at_call 191; refine (HC.out _).mono ?_; rintro e w1 ⟨rfl, hw1⟩)
        go_roundw
        case rel => exact ⟨k + 1, ⟨by omega, by omega⟩, by go_num, HQ, ((hx.alloc _).alloc _).trans' hw1⟩
        case measure => simp [intOf]; omega
      · have HQ := Lib.hid (HZ.out.trans (cmpFrom_done hq))
        have hq1 : ((cmpS x.n y.n : Int) != 0) = true := by simp [hq]
        have hq2 : ((cmpS x.n y.n : Int) == 0) = false := by simp [hq]
        clear hq
        go_wp2_with (go_at_call 191; refine (aOrder1_any x y _).mono ?_; rintro e w1 ⟨rfl, hw1⟩)
        go_ret
        exact ⟨by rw [HQ.out]; rfl, ((hx.alloc _).alloc _).trans' hw1⟩
    · have HZ := Lib.hid (hz.out.trans (cmpFrom_end (.inr (by omega)) ⟨hk1, hk2⟩))
      have hl : ys.length < xs.length := by omega
      have hg : decide (ys.length ≤ k) = true := decide_eq_true (by omega)
      clear hxk hz
      go_wp2
      go_ret
      exact ⟨by rw [HZ.out, if_neg (by omega), if_pos hl]; rfl, hx.alloc _⟩
  · have HZ := Lib.hid (hz.out.trans (cmpFrom_end (.inl (by omega)) ⟨hk1, hk2⟩))
    clear hz
    by_cases hl : xs.length < ys.length
    · go_wp2
      go_ret
      exact ⟨by rw [HZ.out, if_pos hl]; rfl, hx⟩
    · go_wp2
      go_ret
      exact ⟨by rw [HZ.out, if_neg (by omega), if_neg (by omega)]; rfl, hx⟩

set_option maxRecDepth 100000 in
set_option maxHeartbeats 1000000 in
theorem order_any (a b : GA) (v u : Value) (w : World) {S T : Nat → Prop} (hv : TermsR S w v a.args) (hu : TermsR T w u b.args) :
 Calls Tryz.prog 136 #[.agg #[.string a.n, v], .agg #[.string b.n, u]] w fun e w' => e = .returned (.int .i64 (cmpA a b)) ∧ Ext w w' := by
 obtain ⟨A, c, rfl, hc1, hc2⟩ := SliceR.form hv
 obtain ⟨B, d, rfl, hd1, hd2⟩ := SliceR.form hu
 have HV := Lib.hid (hv.ext (((Ext.refl w).alloc (.cells #[.string a.n, .slice A a.args.length c] 54)).alloc (.cells #[.string b.n, .slice B b.args.length d] 54)))
 have HU := Lib.hid (hu.ext (((Ext.refl w).alloc (.cells #[.string a.n, .slice A a.args.length c] 54)).alloc (.cells #[.string b.n, .slice B b.args.length d] 54)))
 clear hv hu
 by_cases hq : cmpS a.n b.n = 0
 · have HC : ∀ W : World, Calls Tryz.prog 189 #[.string a.n, .string b.n] W fun e w' => e = .returned (.int .i64 0) ∧ w' = W := fun W => by
     have := compare_any a.n b.n W; rw [hq] at this; exact this
   have HC := Lib.hid HC
   have HF := Lib.hid (show cmpA a b = cmpArgs a.args b.args from if_pos hq)
   clear hq
   go_enter Tryz.func136, Tryz.ntmps136
   go_wp2_with (first
    | (go_at_call 189; refine (HC.out _).mono ?_; rintro e w1 ⟨rfl, rfl⟩)
    | (go_at_call 190; refine (cmpFunc_any _ _ a.args b.args _ HV.out HU.out).mono ?_; rintro e w1 ⟨rfl, hx1⟩))
   go_ret
   exact ⟨by rw [HF.out]; rfl, (((Ext.refl _).alloc _).alloc _).trans' hx1⟩
 · have HF := Lib.hid (show cmpA a b = cmpS a.n b.n from if_neg hq)
   have hq1 : ((cmpS a.n b.n : Int) != 0) = true := by simp [hq]
   have hq2 : ((cmpS a.n b.n : Int) == 0) = false := by simp [hq]
   clear hq
   go_enter Tryz.func136, Tryz.ntmps136
   go_wp2_with (go_at_call 189; refine (compare_any _ _ _).mono ?_; rintro e w1 ⟨rfl, rfl⟩)
   go_ret
   exact ⟨by rw [HF.out]; rfl, ((Ext.refl _).alloc _).alloc _⟩

set_option maxHeartbeats 400000 in
theorem sorted_any (A : Option Addr) (n c : Nat) (w : World) :
 Calls Tryz.prog 111 #[.slice A n c] w fun e w' => e = .returned (.agg #[.slice A n c, .func (.func 136) #[] #[]]) ∧ Ext w w' := by
 go_enter Tryz.func111, Tryz.ntmps111
 go_wp2
 exact bodyPost_ret (v := .agg #[.slice A n c, .func (.func 136) #[] #[]]) (by simp [results, Tryz.results111, go_sem]) rfl ⟨rfl, (Ext.refl _).alloc _⟩

set_option maxRecDepth 100000 in
set_option maxHeartbeats 2000000 in
theorem ascends_any (v : Value) (xs : List GA) (w : World) {S : Nat → Prop} (hv : AtomsR S w v xs) :
 Calls Tryz.prog 140 #[.agg #[v, .func (.func 136) #[] #[]]] w fun e w' => e = .returned (.bool (ascB xs)) ∧ Ext w w' := by
 obtain ⟨A, c, rfl, hc1, hc2⟩ := SliceR.form hv
 have HV := Lib.hid (hv.ext ((Ext.refl w).alloc (.cells #[.slice A xs.length c, .func (.func 136) #[] #[]] 176)))
 clear hv
 go_enter Tryz.func140, Tryz.ntmps140
 go_wp2
 go_loopw [3] (fun i wr => ∃ k : Nat, (1 ≤ k ∧ (k ≤ xs.length ∨ k = 1)) ∧ i = .int .i64 k ∧ Hid (ascTo xs k = true) ∧ Ext (w.alloc (.cells #[.slice A xs.length c, .func (.func 136) #[] #[]] 176)) wr) (fun i _ => xs.length - (intOf i).toNat)
 case atStart => exact ⟨1, ⟨Nat.le_refl _, .inr rfl⟩, rfl, (by show _ = _; unfold ascTo; cases xs <;> rfl), Ext.refl _⟩
 case round =>
  obtain ⟨k, ⟨hk1, hk2⟩, rfl, ha, hx⟩ := hrel
  obtain ⟨hcc, hcf⟩ := hx.cells
  have hz1 := hx.size
  simp only [World.size_alloc] at hz1
  have hz2 : w.heap.size < wr.heap.size := by omega
  obtain ⟨j, rfl⟩ : ∃ j, k = j + 1 := ⟨k - 1, by omega⟩
  clear hk1 hz1
  by_cases hlt : j + 1 < xs.length
  · obtain ⟨b, off, y, v2, rfl, hb, hyk, hys, ht', hd0, hd1⟩ := AtomsR.at_ (HV.out.ext hx) (k := j) (by omega)
    obtain ⟨b', off', x, v1, hbb, hb', hxk, hxs, ht, hc0, hc1⟩ := AtomsR.at_ (HV.out.ext hx) hlt
    injection hbb with hbb
    injection hbb with e1 e2
    subst e1; subst e2
    have HS := Lib.hid (ascTo_step hyk hxk)
    have HC := Lib.hid (fun (W : World) (h : Ext wr W) => order_any y x v2 v1 W (ht'.ext h) (ht.ext h))
    have hj0 : (0 : Int) ≤ (j : Int) := Int.natCast_nonneg _
    have hj1 : (j : Int) < (xs.length : Int) := by omega
    have hj2 : (j : Int) + 1 < (xs.length : Int) := by omega
    have hk2' := Lib.hid hk2
    clear ht' ht hyk hxk hk2
    by_cases hcmp : cmpA y x < 0
    · have HA := Lib.hid (show ascTo xs (j + 1 + 1) = true from by rw [HS.out, ha.out]; unfold ltA; simp [hcmp])
      go_wp2_with fail
      refine calm_region (by kernel_rfl) (by kernel_rfl) ?_
      repeat (go_big_quiet_step ((go_at_call 136; exact calm_call (HC.out _ (Later.ext _)))))
      refine wpQuiet_nil ?_
      rintro w1 ⟨⟨_, hx1⟩, rfl⟩
      go_wp2
      go_roundw
      case rel => exact ⟨j + 1 + 1, ⟨by omega, .inl (by omega)⟩, by go_num, HA, hx.trans' hx1⟩
      case measure => simp [intOf]; omega
    · have HF := Lib.hid (show ascB xs = false from ascTo_false (k := j + 1 + 1) (by rw [HS.out]; unfold ltA; simp [hcmp]))
      go_wp2_with fail
      refine calm_region (by kernel_rfl) (by kernel_rfl) ?_
      repeat (go_big_quiet_step ((go_at_call 136; exact calm_call (HC.out _ (Later.ext _)))))
      refine wpQuiet_nil ?_
      rintro w1 ⟨⟨_, hx1⟩, rfl⟩
      go_wp2
      go_ret
      exact ⟨by rw [HF.out]; rfl, ((Ext.refl _).alloc _).trans' (hx.trans' hx1)⟩
  · have HF := Lib.hid (show ascB xs = true from by
      have h2 := ha.out
      unfold ascTo at h2
      rwa [List.take_of_length_le (by omega)] at h2)
    clear hk2
    go_wp2
    go_ret
    exact ⟨by rw [HF.out]; rfl, ((Ext.refl _).alloc _).trans' hx⟩

set_option maxRecDepth 100000 in
set_option maxHeartbeats 2000000 in
theorem factsOk_any (v : Value) (xs : List GA) (w : World) {S : Nat → Prop} (hv : AtomsR S w v xs) :
 Calls Tryz.prog 83 #[v] w fun e w' => e = .returned (.bool (factsB xs 300)) ∧ Ext w w' := by
 obtain ⟨A, c, rfl, hc1, hc2⟩ := SliceR.form hv
 have HV := Lib.hid hv
 clear hv
 by_cases h3 : xs.length ≤ 300
 · go_enter Tryz.func83, Tryz.ntmps83
   go_wp2
   go_loopw [10] (fun i wr => ∃ k : Nat, k ≤ xs.length ∧ i = .int .i64 k ∧ Hid ((xs.take k).all factB = true) ∧ Ext w wr) (fun i _ => xs.length - (intOf i).toNat)
   case atStart => exact ⟨0, Nat.zero_le _, rfl, rfl, Ext.refl _⟩
   case round =>
    obtain ⟨k, hk, rfl, hp, hx⟩ := hrel
    by_cases hlt : k < xs.length
    · obtain ⟨b, off, x, v1, rfl, hb, hxk, hxs, ht, hc0, hc1⟩ := AtomsR.at_ (HV.out.ext hx) hlt
      obtain ⟨A1, c1, rfl, hq1, hq2⟩ := SliceR.form ht
      have HK := Lib.hid hxk
      have hw := bool_ways (isFact_any x _ (wr.alloc (.cells #[.string x.n, .slice A1 x.args.length c1] 54)) hxs (ht.ext ((Ext.refl _).alloc _)))
      clear hxk ht
      cases hf : factB x
      · have HF := Lib.hid (show factsB xs 300 = false from by unfold factsB; rw [all_false factB _ k x HK.out hf]; rfl)
        have HW := Lib.hid (hw.2 hf)
        clear hw hf
        go_wp2_with (go_at_call 139; refine HW.out.mono ?_; rintro e w1 ⟨rfl, hx1⟩)
        go_ret
        exact ⟨by rw [HF.out]; rfl, (hx.alloc _).trans' hx1⟩
      · have HP := Lib.hid (show (xs.take (k + 1)).all factB = true from by rw [all_snoc _ _ k x HK.out, hp.out, hf]; rfl)
        have HW := Lib.hid (hw.1 hf)
        clear hw hf
        go_wp2_with (go_at_call 139; refine HW.out.mono ?_; rintro e w1 ⟨rfl, hx1⟩)
        go_roundw
        case rel => exact ⟨k + 1, by omega, by go_num, HP, (hx.alloc _).trans' hx1⟩
        case measure => simp [intOf]; omega
    · have HF := Lib.hid (show factsB xs 300 = ascB xs from by
        unfold factsB; rw [all_whole factB _ k hlt hp.out]; simp [h3])
      go_wp2_with (first
       | (go_at_call 111; refine (sorted_any _ _ _ _).mono ?_; rintro e w1 ⟨rfl, hx1⟩)
       | (go_at_call 140; refine (ascends_any _ xs _ (HV.out.ext (hx.trans' hx1))).mono ?_; rintro e w2 ⟨rfl, hx2⟩))
      go_ret
      exact ⟨by rw [HF.out]; rfl, (hx.trans' hx1).trans' hx2⟩
 · have HF := Lib.hid (show factsB xs 300 = false from by unfold factsB; simp [h3])
   go_enter Tryz.func83, Tryz.ntmps83
   go_wp2
   go_ret
   exact ⟨by rw [HF.out]; rfl, Ext.refl _⟩

end Go.Proofs.YtmihponoillihaaGreatDoor

namespace Go.Proofs.YtmihponoillihaaGreatDoor
open Go.RowKit Go.Shelf

attribute [local go_sem] Oper.semAt_some

/-- What the merge yields: a fact, its terms' slice, and in which list it is (0, 1, both: 2). -/
structure ME where
 x : GA
 v : Value
 s : Int

def encME (e : ME) : Array Value := #[.agg #[.string e.x.n, e.v], .int .i64 e.s]

/-- A fact with the slice value that holds its terms. -/
abbrev P2 : Type := GA × Value

def mergeN : Nat → List P2 → List P2 → List ME
 | 0, _, _ => []
 | _ + 1, [], [] => []
 | n + 1, x :: xs, [] => ⟨x.1, x.2, 0⟩ :: mergeN n xs []
 | n + 1, [], y :: ys => ⟨y.1, y.2, 1⟩ :: mergeN n [] ys
 | n + 1, x :: xs, y :: ys =>
   if cmpA x.1 y.1 < 0 then ⟨x.1, x.2, 0⟩ :: mergeN n xs (y :: ys)
   else if 0 < cmpA x.1 y.1 then ⟨y.1, y.2, 1⟩ :: mergeN n (x :: xs) ys
   else ⟨x.1, x.2, 2⟩ :: mergeN n xs ys
def mergeP (xs ys : List P2) : List ME := mergeN (xs.length + ys.length) xs ys

theorem mergeN_more : ∀ (n : Nat) (xs ys : List P2), xs.length + ys.length ≤ n → mergeN (n + 1) xs ys = mergeN n xs ys
 | 0, [], [], _ => rfl
 | 0, _ :: _, _, h => by simp at h
 | 0, [], _ :: _, h => by simp at h
 | n + 1, [], [], _ => rfl
 | n + 1, x :: xs, [], h => by
   have ih := mergeN_more n xs [] (by simp at h ⊢; omega)
   rw [mergeN, ih, ← mergeN]
 | n + 1, [], y :: ys, h => by
   have ih := mergeN_more n [] ys (by simp at h ⊢; omega)
   rw [mergeN, ih, ← mergeN]
 | n + 1, x :: xs, y :: ys, h => by
   have i1 := mergeN_more n xs (y :: ys) (by simp at h ⊢; omega)
   have i2 := mergeN_more n (x :: xs) ys (by simp at h ⊢; omega)
   have i3 := mergeN_more n xs ys (by simp at h ⊢; omega)
   rw [mergeN, i1, i2, i3, ← mergeN]
theorem mergeN_enough (n : Nat) (xs ys : List P2) (h : xs.length + ys.length ≤ n) : mergeN n xs ys = mergeP xs ys := by
 induction n with
 | zero =>
   have h1 : xs = [] := List.eq_nil_of_length_eq_zero (by omega)
   have h2 : ys = [] := List.eq_nil_of_length_eq_zero (by omega)
   subst h1; subst h2; rfl
 | succ n ih =>
   by_cases hn : xs.length + ys.length ≤ n
   · rw [mergeN_more n xs ys hn, ih hn]
   · have : n + 1 = xs.length + ys.length := by omega
     rw [this]; rfl

theorem mergeP_nil : mergeP [] [] = [] := rfl
theorem mergeP_left (x : P2) (xs : List P2) : mergeP (x :: xs) [] = ⟨x.1, x.2, 0⟩ :: mergeP xs [] := by
 unfold mergeP; rw [show (x :: xs).length + ([] : List P2).length = (xs.length + 0) + 1 from by simp, mergeN]; rfl
theorem mergeP_right (y : P2) (ys : List P2) : mergeP [] (y :: ys) = ⟨y.1, y.2, 1⟩ :: mergeP [] ys := by
 unfold mergeP; rw [show ([] : List P2).length + (y :: ys).length = (0 + ys.length) + 1 from by simp, mergeN]; rfl
theorem mergeP_lt {x y : P2} (xs ys : List P2) (h : cmpA x.1 y.1 < 0) : mergeP (x :: xs) (y :: ys) = ⟨x.1, x.2, 0⟩ :: mergeP xs (y :: ys) := by
 rw [← mergeN_enough ((xs.length + ys.length + 1) + 1) (x :: xs) (y :: ys) (by simp; omega), mergeN, if_pos h, mergeN_enough _ _ _ (by simp; omega)]
theorem mergeP_gt {x y : P2} (xs ys : List P2) (h : 0 < cmpA x.1 y.1) : mergeP (x :: xs) (y :: ys) = ⟨y.1, y.2, 1⟩ :: mergeP (x :: xs) ys := by
 rw [← mergeN_enough ((xs.length + ys.length + 1) + 1) (x :: xs) (y :: ys) (by simp; omega), mergeN, if_neg (by omega), if_pos h, mergeN_enough _ _ _ (by simp; omega)]
theorem mergeP_eq {x y : P2} (xs ys : List P2) (h : cmpA x.1 y.1 = 0) : mergeP (x :: xs) (y :: ys) = ⟨x.1, x.2, 2⟩ :: mergeP xs ys := by
 rw [← mergeN_enough ((xs.length + ys.length + 1) + 1) (x :: xs) (y :: ys) (by simp; omega), mergeN, if_neg (by omega), if_neg (by omega), mergeN_enough _ _ _ (by omega)]

/-- The cells of a fact, its slice value named. -/
def PairE (S : Nat → Prop) (w : World) (cs : List Value) (p : P2) : Prop := cs = [.string p.1.n, p.2] ∧ p.1.n.size ≤ maxLen ∧ TermsR S w p.2 p.1.args
def AtomsP (S : Nat → Prop) : World → Value → List P2 → Prop := SliceR S 2 (PairE S)

theorem AtomsP.imp {S S' : Nat → Prop} {w w' : World} {v : Value} {xs : List P2} (h : AtomsP S w v xs) (hS : ∀ b, S b → S' b) (he : Agree S w w') (hsz : w.heap.size ≤ w'.heap.size) : AtomsP S' w' v xs :=
 SliceR.imp (fun _ _ _ h => ⟨h.1, h.2.1, h.2.2.imp hS he hsz⟩) hS h he hsz
theorem AtomsP.at_ {S : Nat → Prop} {w : World} {A : Option Addr} {n c : Nat} {xs : List P2} (h : AtomsP S w (.slice A n c) xs) {k : Nat} (hk : k < n) :
 ∃ (b off : Nat) (x : P2), A = some ⟨b, off, none⟩ ∧ b < w.heap.size ∧ xs[k]? = some x ∧ x.1.n.size ≤ maxLen ∧ TermsR S w x.2 x.1.args ∧
   w.cell? ⟨b, off + k * 2, none⟩ = some (.string x.1.n) ∧ w.cell? ⟨b, off + k * 2 + 1, none⟩ = some x.2 := by
 obtain ⟨b, off, x, cs, hA, hb, hx, _, hc, rfl, hs, ht⟩ := SliceR.at_ h hk
 exact ⟨b, off, x, hA, hb, hx, hs, ht, hc 0 _ rfl, hc 1 _ rfl⟩

theorem choose_list {α β : Type} (R : Nat → α → β → Prop) : ∀ (xs : List α) (k : Nat), (∀ (i : Nat) (x : α), xs[i]? = some x → ∃ y, R (k + i) x y) → ∃ ys : List β, ys.length = xs.length ∧ ∀ (i : Nat) (x : α) (y : β), xs[i]? = some x → ys[i]? = some y → R (k + i) x y
 | [], _, _ => ⟨[], rfl, fun i x y h => by simp at h⟩
 | x :: xs, k, h => by
   obtain ⟨y, hy⟩ := h 0 x rfl
   obtain ⟨ys, hl, hr⟩ := choose_list R xs (k + 1) (fun i z hz => by
    have := h (i + 1) z (by simpa using hz)
    rwa [show k + (i + 1) = k + 1 + i from by omega] at this)
   refine ⟨y :: ys, by simp [hl], fun i a b ha hb => ?_⟩
   cases i with
   | zero => simp at ha hb; subst ha; subst hb; exact hy
   | succ i =>
     have := hr i a b (by simpa using ha) (by simpa using hb)
     rwa [show k + 1 + i = k + (i + 1) from by omega] at this

/-- Each fact with its slice value. -/
theorem AtomsR.pairs {S : Nat → Prop} {w : World} {v : Value} {xs : List GA} (h : AtomsR S w v xs) : ∃ ps : List P2, ps.map (·.1) = xs ∧ AtomsP S w v ps := by
 obtain ⟨A, c, hv, h1, h2, h3⟩ := h
 by_cases h0 : 0 < xs.length
 · obtain ⟨b, off, hA, hb, hs, hc⟩ := h3 h0
   obtain ⟨ys, hl, hr⟩ := choose_list (fun i (x : GA) (u : Value) => w.cell? ⟨b, off + (i * 2 + 0), none⟩ = some (.string x.n) ∧ w.cell? ⟨b, off + (i * 2 + 1), none⟩ = some u ∧ x.n.size ≤ maxLen ∧ TermsR S w u x.args) xs 0
    (fun i x hx => by
     obtain ⟨cs, hcl, hcs, u, rfl, hn, ht⟩ := hc i x hx
     exact ⟨u, by simpa using hcs 0 _ rfl, by simpa using hcs 1 _ rfl, hn, ht⟩)
   refine ⟨xs.zip ys, by rw [List.map_fst_zip (by omega)], A, c, ?_, ?_, h2, fun _ => ⟨b, off, hA, hb, hs, fun i p hp => ?_⟩⟩
   · rw [hv]; simp [hl]
   · simp [hl]; exact h1
   · rw [List.getElem?_zip_eq_some] at hp
     have := hr i p.1 p.2 hp.1 hp.2
     rw [Nat.zero_add] at this
     refine ⟨[.string p.1.n, p.2], rfl, fun j u hu => ?_, rfl, this.2.2.1, this.2.2.2⟩
     match j, hu with
     | 0, hu => simp at hu; subst hu; exact this.1
     | 1, hu => simp at hu; subst hu; exact this.2.1
 · have : xs = [] := List.eq_nil_of_length_eq_zero (by omega)
   subst this
   exact ⟨[], rfl, A, c, hv, h1, h2, fun h => absurd h (by simp)⟩

/-- What a round that goes on must keep: the blocks of R that were there. -/
def KeepR (R : Nat → Prop) (W W' : World) : Prop := W.heap.size ≤ W'.heap.size ∧ Agree R W W'
theorem KeepR.trans {R : Nat → Prop} {A B C : World} (h : KeepR R A B) (k : KeepR R B C) : KeepR R A C := ⟨Nat.le_trans h.1 k.1, h.2.trans' k.2 h.1⟩
theorem KeepR.of_ext {R : Nat → Prop} {A B : World} (h : Ext A B) : KeepR R A B := ⟨h.size, .of_ext h⟩
theorem KeepR.cell {R : Nat → Prop} {A B : World} (h : KeepR R A B) {b o : Nat} {u : Value} (hb : R b) (hc : A.cell? ⟨b, o, none⟩ = some u) : B.cell? ⟨b, o, none⟩ = some u :=
 (World.cell?_of_block (w := A) (a := ⟨b, o, none⟩) (h.2 b hb (cell_lt hc))).trans hc

theorem grown_ext {A B : World} (h : Ext A B) : A.grownBy B none := ⟨h.os, h.tape, h.output, h.size, fun k hk _ => h.block k hk⟩

set_option maxRecDepth 100000 in
set_option maxHeartbeats 4000000 in
theorem merge1_stops (n : Nat) (hn : 1 ≤ n) (B1 B2 : Nat) (R : Nat → Prop) (w : World) (s1 s2 : Value) (ps qs : List P2)
 (hB1 : R B1) (hB2 : R B2) (c10 : w.cell? ⟨B1, 0, none⟩ = some s1) (c11 : w.cell? ⟨B1, 1, none⟩ = some (.func (.func 136) #[] #[]))
 (c20 : w.cell? ⟨B2, 0, none⟩ = some s2) (h1 : AtomsP R w s1 ps) (h2 : AtomsP R w s2 qs) :
 SeqStopsK Fence.wide n Tryz.prog 176 #[.pointer (some ⟨B1, 0, none⟩), .pointer (some ⟨B2, 0, none⟩)] encME (KeepR R) (fun L => L = mergeP ps qs) (fun pre => pre <+: mergeP ps qs) (mergeP ps qs).length w := by
 intro l J Jx W hW hJ hJx hY h0
 obtain ⟨A1, d1, rfl, hd1, hd1'⟩ := SliceR.form h1
 obtain ⟨A2, d2, rfl, hd2, hd2'⟩ := SliceR.form h2
 have hw0 : KeepR R w W := .of_ext hW
 have HY := Lib.hid hY
 have HJ := Lib.hid hJ
 have H1 := Lib.hid h1
 have H2 := Lib.hid h2
 have HB1 := Lib.hid hB1
 have HB2 := Lib.hid hB2
 have C10 := Lib.hid c10
 have C11 := Lib.hid c11
 have C20 := Lib.hid c20
 clear hY hJ hJx h1 h2 c10 c11 c20 hW hB1 hB2
 refine callsIn_of_wp Tryz.func176 rfl trivial ?_ rfl
 simp only [Tryz.ntmps176, List.size_toArray, List.length_cons, List.length_nil, Nat.reduceAdd, Nat.reduceSub, Array.replicate_succ, Array.replicate_zero, List.push_toArray, List.append_toArray, List.nil_append, List.cons_append]
 gi_wp2
 gi_loopw [4, 5] (fun i j wr => ∃ (a b : Nat) (pre : List ME), (a ≤ ps.length ∧ b ≤ qs.length) ∧ i = .int .i64 a ∧ j = .int .i64 b ∧ Hid (mergeP ps qs = pre ++ mergeP (ps.drop a) (qs.drop b)) ∧ J pre wr ∧ KeepR R w wr) (fun i j _ => (ps.length - (intOf i).toNat) + (qs.length - (intOf j).toNat))
 case atStart => exact ⟨0, 0, [], ⟨Nat.zero_le _, Nat.zero_le _⟩, rfl, rfl, rfl, h0, hw0⟩
 case round =>
  obtain ⟨a, b, pre, ⟨ha, hb⟩, rfl, rfl, hm, hJs, hk⟩ := hrel
  have e10 := hk.cell HB1.out C10.out
  have e11 := hk.cell HB1.out C11.out
  have e20 := hk.cell HB2.out C20.out
  have hl1 := cell_lt e10
  have hl2 := cell_lt e20
  have hga : ¬ a < ps.length → ps.drop a = [] := fun h => List.drop_eq_nil_of_le (by omega)
  have hgb : ¬ b < qs.length → qs.drop b = [] := fun h => List.drop_eq_nil_of_le (by omega)
  have HGA := Lib.hid hga
  have HGB := Lib.hid hgb
  clear hga hgb
  by_cases h1 : a < ps.length
  · obtain ⟨ba, offa, x, rfl, hba, hxk, hxs, htx, hx0, hx1⟩ := AtomsP.at_ (H1.out.imp (fun _ h => h) hk.2 hk.1) h1
    have HDX := Lib.hid (drop_cons hxk)
    have HTX := Lib.hid htx
    have t1 : decide (a < ps.length) = true := decide_eq_true h1
    have t2 : (((a : Nat) : Int) == ((ps.length : Nat) : Int)) = false := by rw [beq_eq_false_iff_ne]; omega
    have hi0 : (0 : Int) ≤ (a : Int) := Int.natCast_nonneg _
    have hi1 : (a : Int) < (ps.length : Int) := by omega
    clear hxk htx
    by_cases h2 : b < qs.length
    · obtain ⟨bb, offb, y, rfl, hbb, hyk, hys, hty, hy0, hy1⟩ := AtomsP.at_ (H2.out.imp (fun _ h => h) hk.2 hk.1) h2
      have HDY := Lib.hid (drop_cons hyk)
      have HTY := Lib.hid hty
      have t3 : decide (b < qs.length) = true := decide_eq_true h2
      have t4 : (((b : Nat) : Int) == ((qs.length : Nat) : Int)) = false := by rw [beq_eq_false_iff_ne]; omega
      have hj0 : (0 : Int) ≤ (b : Int) := Int.natCast_nonneg _
      have hj1 : (b : Int) < (qs.length : Int) := by omega
      have HC := Lib.hid (fun (W : World) (h : Ext wr W) => order_any x.1 y.1 x.2 y.2 W (HTX.out.ext h) (HTY.out.ext h))
      clear hyk hty
      gi_wp2
      refine wpIn_wide.2 (calm_region (by kernel_rfl) (by kernel_rfl) ?_)
      repeat (go_big_quiet_step ((go_at_call 136; exact calm_call (HC.out _ (Later.ext _)))))
      refine wpQuiet_nil ?_
      rintro w1 ⟨⟨_, hx⟩, rfl⟩
      have hJ1 : J pre w1 := HJ.out _ _ _ none hJs (grown_ext hx) (fun r e => by cases e)
      have hk1 : KeepR R w w1 := hk.trans (.of_ext hx)
      have hz := hx.size
      have hl1' : B1 < w1.heap.size := by omega
      have hl2' : B2 < w1.heap.size := by omega
      have hba' : ba < w1.heap.size := by omega
      have hbb' : bb < w1.heap.size := by omega
      have f10 := (KeepR.of_ext (R := Any) hx).cell trivial e10
      have f20 := (KeepR.of_ext (R := Any) hx).cell trivial e20
      have fx0 := (KeepR.of_ext (R := Any) hx).cell trivial hx0
      have fx1 := (KeepR.of_ext (R := Any) hx).cell trivial hx1
      have fy0 := (KeepR.of_ext (R := Any) hx).cell trivial hy0
      have fy1 := (KeepR.of_ext (R := Any) hx).cell trivial hy1
      clear hz e10 e11 e20 hx0 hx1 hy0 hy1 hl1 hl2 hba hbb hJs hx HC
      rcases Int.lt_trichotomy (cmpA x.1 y.1) 0 with hc | hc | hc
      · have HM := Lib.hid (show mergeP ps qs = pre ++ (⟨x.1, x.2, 0⟩ :: mergeP (ps.drop (a + 1)) (qs.drop b)) from by rw [hm.out, HDX.out, HDY.out, mergeP_lt _ _ hc])
        have HM2 := Lib.hid (show mergeP ps qs = (pre ++ [(⟨x.1, x.2, 0⟩ : ME)]) ++ mergeP (ps.drop (a + 1)) (qs.drop b) from by rw [HM.out, List.append_assoc]; rfl)
        obtain ⟨fn, tmps, assign, body, hy, hR⟩ := HY.out pre (⟨x.1, x.2, 0⟩ : ME) w1 hJ1 (by rw [HM.out]; simp)
        dsimp only [encME] at hy
        have HR := Lib.hid hR
        clear hR
        gi_wp2
        refine HR.out.mono ?_
        rintro e W3 (⟨rfl, hJ3, hk3⟩ | ⟨rfl, hJx3⟩)
        · gi_wp2
          go_roundw
          case rel => exact ⟨(a + 1), b, pre ++ [_], ⟨by omega, by omega⟩, by go_num, rfl, HM2, hJ3, hk1.trans hk3⟩
          case measure => simp [intOf]; omega
        · gi_wp2
          refine bodyPost_ret (results_none rfl _ _ _) rfl ?_
          exact ⟨⟨_, rfl⟩, .inr ⟨pre ++ [_], ⟨_, HM2.out.symm⟩, hJx3⟩⟩
      · have HM := Lib.hid (show mergeP ps qs = pre ++ (⟨x.1, x.2, 2⟩ :: mergeP (ps.drop (a + 1)) (qs.drop (b + 1))) from by rw [hm.out, HDX.out, HDY.out, mergeP_eq _ _ hc])
        have hc1 : ¬ cmpA x.1 y.1 < 0 := by omega
        have hc2 : ¬ 0 < cmpA x.1 y.1 := by omega
        clear hc
        have HM2 := Lib.hid (show mergeP ps qs = (pre ++ [(⟨x.1, x.2, 2⟩ : ME)]) ++ mergeP (ps.drop (a + 1)) (qs.drop (b + 1)) from by rw [HM.out, List.append_assoc]; rfl)
        obtain ⟨fn, tmps, assign, body, hy, hR⟩ := HY.out pre (⟨x.1, x.2, 2⟩ : ME) w1 hJ1 (by rw [HM.out]; simp)
        dsimp only [encME] at hy
        have HR := Lib.hid hR
        clear hR
        gi_wp2
        refine HR.out.mono ?_
        rintro e W3 (⟨rfl, hJ3, hk3⟩ | ⟨rfl, hJx3⟩)
        · gi_wp2
          go_roundw
          case rel => exact ⟨(a + 1), (b + 1), pre ++ [_], ⟨by omega, by omega⟩, by go_num, by go_num, HM2, hJ3, hk1.trans hk3⟩
          case measure => simp [intOf]; omega
        · gi_wp2
          refine bodyPost_ret (results_none rfl _ _ _) rfl ?_
          exact ⟨⟨_, rfl⟩, .inr ⟨pre ++ [_], ⟨_, HM2.out.symm⟩, hJx3⟩⟩
      · have HM := Lib.hid (show mergeP ps qs = pre ++ (⟨y.1, y.2, 1⟩ :: mergeP (ps.drop a) (qs.drop (b + 1))) from by rw [hm.out, HDX.out, HDY.out, mergeP_gt _ _ hc])
        have HM2 := Lib.hid (show mergeP ps qs = (pre ++ [(⟨y.1, y.2, 1⟩ : ME)]) ++ mergeP (ps.drop a) (qs.drop (b + 1)) from by rw [HM.out, List.append_assoc]; rfl)
        obtain ⟨fn, tmps, assign, body, hy, hR⟩ := HY.out pre (⟨y.1, y.2, 1⟩ : ME) w1 hJ1 (by rw [HM.out]; simp)
        dsimp only [encME] at hy
        have HR := Lib.hid hR
        clear hR
        gi_wp2
        refine HR.out.mono ?_
        rintro e W3 (⟨rfl, hJ3, hk3⟩ | ⟨rfl, hJx3⟩)
        · gi_wp2
          go_roundw
          case rel => exact ⟨a, (b + 1), pre ++ [_], ⟨by omega, by omega⟩, rfl, by go_num, HM2, hJ3, hk1.trans hk3⟩
          case measure => simp [intOf]; omega
        · gi_wp2
          refine bodyPost_ret (results_none rfl _ _ _) rfl ?_
          exact ⟨⟨_, rfl⟩, .inr ⟨pre ++ [_], ⟨_, HM2.out.symm⟩, hJx3⟩⟩
    · have HM := Lib.hid (show mergeP ps qs = pre ++ (⟨x.1, x.2, 0⟩ :: mergeP (ps.drop (a + 1)) (qs.drop b)) from by rw [hm.out, HGB.out h2, HDX.out, mergeP_left])
      have t3 : decide (b < qs.length) = false := decide_eq_false h2
      have t4 : (((b : Nat) : Int) == ((qs.length : Nat) : Int)) = true := by rw [beq_iff_eq]; omega
      have HM2 := Lib.hid (show mergeP ps qs = (pre ++ [(⟨x.1, x.2, 0⟩ : ME)]) ++ mergeP (ps.drop (a + 1)) (qs.drop b) from by rw [HM.out, List.append_assoc]; rfl)
      obtain ⟨fn, tmps, assign, body, hy, hR⟩ := HY.out pre (⟨x.1, x.2, 0⟩ : ME) wr hJs (by rw [HM.out]; simp)
      dsimp only [encME] at hy
      have HR := Lib.hid hR
      clear hR
      gi_wp2
      refine HR.out.mono ?_
      rintro e W3 (⟨rfl, hJ3, hk3⟩ | ⟨rfl, hJx3⟩)
      · gi_wp2
        go_roundw
        case rel => exact ⟨(a + 1), b, pre ++ [_], ⟨by omega, by omega⟩, by go_num, rfl, HM2, hJ3, hk.trans hk3⟩
        case measure => simp [intOf]; omega
      · gi_wp2
        refine bodyPost_ret (results_none rfl _ _ _) rfl ?_
        exact ⟨⟨_, rfl⟩, .inr ⟨pre ++ [_], ⟨_, HM2.out.symm⟩, hJx3⟩⟩
  · have t1 : decide (a < ps.length) = false := decide_eq_false h1
    have t2 : (((a : Nat) : Int) == ((ps.length : Nat) : Int)) = true := by rw [beq_iff_eq]; omega
    by_cases h2 : b < qs.length
    · obtain ⟨bb, offb, y, rfl, hbb, hyk, hys, hty, hy0, hy1⟩ := AtomsP.at_ (H2.out.imp (fun _ h => h) hk.2 hk.1) h2
      have HM := Lib.hid (show mergeP ps qs = pre ++ (⟨y.1, y.2, 1⟩ :: mergeP (ps.drop a) (qs.drop (b + 1))) from by rw [hm.out, HGA.out h1, drop_cons hyk, mergeP_right])
      have t3 : decide (b < qs.length) = true := decide_eq_true h2
      have hj0 : (0 : Int) ≤ (b : Int) := Int.natCast_nonneg _
      have hj1 : (b : Int) < (qs.length : Int) := by omega
      clear hyk hty
      have HM2 := Lib.hid (show mergeP ps qs = (pre ++ [(⟨y.1, y.2, 1⟩ : ME)]) ++ mergeP (ps.drop a) (qs.drop (b + 1)) from by rw [HM.out, List.append_assoc]; rfl)
      obtain ⟨fn, tmps, assign, body, hy, hR⟩ := HY.out pre (⟨y.1, y.2, 1⟩ : ME) wr hJs (by rw [HM.out]; simp)
      dsimp only [encME] at hy
      have HR := Lib.hid hR
      clear hR
      gi_wp2
      refine HR.out.mono ?_
      rintro e W3 (⟨rfl, hJ3, hk3⟩ | ⟨rfl, hJx3⟩)
      · gi_wp2
        go_roundw
        case rel => exact ⟨a, (b + 1), pre ++ [_], ⟨by omega, by omega⟩, rfl, by go_num, HM2, hJ3, hk.trans hk3⟩
        case measure => simp [intOf]; omega
      · gi_wp2
        refine bodyPost_ret (results_none rfl _ _ _) rfl ?_
        exact ⟨⟨_, rfl⟩, .inr ⟨pre ++ [_], ⟨_, HM2.out.symm⟩, hJx3⟩⟩
    · have HM := Lib.hid (show mergeP ps qs = pre from by rw [hm.out, HGA.out h1, HGB.out h2, mergeP_nil, List.append_nil])
      have t3 : decide (b < qs.length) = false := decide_eq_false h2
      gi_wp2
      go_end0
      exact ⟨⟨_, rfl⟩, .inl ⟨_, HM.out.symm, hJs⟩⟩

end Go.Proofs.YtmihponoillihaaGreatDoor

namespace Go.Proofs.YtmihponoillihaaGreatDoor
open Go.RowKit Go.Shelf

attribute [local go_sem] Oper.semAt_some

set_option maxHeartbeats 400000 in
theorem merge_any (A B : Option Addr) (n c m d : Nat) (w : World) :
 Calls Tryz.prog 112 #[.agg #[.slice A n c, .func (.func 136) #[] #[]], .agg #[.slice B m d, .func (.func 136) #[] #[]]] w fun e w' =>
  e = .returned (.func (.func 176) #[] #[.pointer (some ⟨w.heap.size, 0, none⟩), .pointer (some ⟨w.heap.size + 1, 0, none⟩)]) ∧
  w' = (w.alloc (.cells #[.slice A n c, .func (.func 136) #[] #[]] 176)).alloc (.cells #[.slice B m d, .func (.func 136) #[] #[]] 176) := by
 go_enter Tryz.func112, Tryz.ntmps112
 go_wp2
 go_ret
 exact ⟨rfl, rfl⟩

theorem TermsR.low {S : Nat → Prop} {w : World} {v : Value} {xs : List GT} (h : TermsR S w v xs) : TermsR (fun b => b < w.heap.size) w v xs := by
 obtain ⟨A, c, hv, h1, h2, h3⟩ := h
 exact ⟨A, c, hv, h1, h2, fun h0 => let ⟨b, off, ha, hb, _, hc⟩ := h3 h0; ⟨b, off, ha, hb, hb, hc⟩⟩
theorem AtomsR.low {S : Nat → Prop} {w : World} {v : Value} {xs : List GA} (h : AtomsR S w v xs) : AtomsR (fun b => b < w.heap.size) w v xs := by
 obtain ⟨A, c, hv, h1, h2, h3⟩ := h
 exact ⟨A, c, hv, h1, h2, fun h0 => let ⟨b, off, ha, hb, _, hc⟩ := h3 h0; ⟨b, off, ha, hb, hb, fun i x hx => let ⟨cs, hl, hcs, u, e1, e2, e3⟩ := hc i x hx; ⟨cs, hl, hcs, u, e1, e2, e3.low⟩⟩⟩

def noBoth (L : List ME) : Bool := L.all fun e => !(e.s == 2)

set_option maxRecDepth 100000 in
set_option maxHeartbeats 4000000 in
theorem common_merge (v u : Value) (xs ys : List GA) (w : World) {S T : Nat → Prop} (hv : AtomsR S w v xs) (hu : AtomsR T w u ys) :
 ∃ ps qs : List P2, ps.map (·.1) = xs ∧ qs.map (·.1) = ys ∧
 Calls Tryz.prog 55 #[v, u] w fun e w' => e = .returned (.bool (!noBoth (mergeP ps qs))) ∧ Ext w w' := by
 obtain ⟨ps, hps, hp⟩ := hv.low.pairs
 obtain ⟨qs, hqs, hq⟩ := hu.low.pairs
 refine ⟨ps, qs, hps, hqs, ?_⟩
 clear hps hqs hv hu
 obtain ⟨A, c, rfl, hc1, hc2⟩ := SliceR.form hp
 obtain ⟨B, d, rfl, hd1, hd2⟩ := SliceR.form hq
 have HP := Lib.hid hp
 have HQ := Lib.hid hq
 clear hp hq
 refine (callsIn_wide (n := 5)).1 ?_
 refine callsIn_of_wp_marks Tryz.func55 rfl trivial ?_ rfl
 simp only [Tryz.ntmps55, List.size_toArray, List.length_cons, List.length_nil, Nat.reduceAdd, Nat.reduceSub, Array.replicate_succ, Array.replicate_zero, List.push_toArray, List.append_toArray, List.nil_append, List.cons_append]
 have tok : True := trivial
 gi_wp2_with (first
  | (refine ⟨trivial, ?_⟩; gi_at_call 111; have _t := tok; refine (callsIn_wide.2 (sorted_any _ _ _ _)).mono ?_; clear tok _t; rintro e w1 ⟨rfl, hx1⟩)
  | (refine ⟨trivial, ?_⟩; gi_at_call 111; refine (callsIn_wide.2 (sorted_any _ _ _ _)).mono ?_; rintro e w2 ⟨rfl, hx2⟩)
  | (refine ⟨trivial, ?_⟩; gi_at_call 112; refine (callsIn_wide.2 (merge_any _ _ _ _ _ _ _)).mono ?_; rintro e w3 ⟨rfl, rfl⟩))
 have hs1 := hx1.size
 have hs2 := hx2.size
 simp only [World.size_alloc] at hs1
 have hB0 : Ext w ((w2.alloc (.cells #[.slice A ps.length c, .func (.func 136) #[] #[]] 176)).alloc (.cells #[.slice B qs.length d, .func (.func 136) #[] #[]] 176)) :=
  (((((Ext.refl w).alloc _).trans' hx1).trans' hx2).alloc _).alloc _
 have hB1 : Ext (w.alloc (.cells #[.bool false] 4)) ((w2.alloc (.cells #[.slice A ps.length c, .func (.func 136) #[] #[]] 176)).alloc (.cells #[.slice B qs.length d, .func (.func 136) #[] #[]] 176)) :=
  ((hx1.trans' hx2).alloc _).alloc _
 have hr0 : Blk (w.alloc (.cells #[.bool false] 4)) w.heap.size 4 #[.bool false] := Blk.new _ _ _
 have hr1 := hr0.ext hB1
 have hb1 : Blk ((w2.alloc (.cells #[.slice A ps.length c, .func (.func 136) #[] #[]] 176)).alloc (.cells #[.slice B qs.length d, .func (.func 136) #[] #[]] 176)) w2.heap.size 176 #[.slice A ps.length c, .func (.func 136) #[] #[]] := (Blk.new _ _ _).alloc _
 have hb2 : Blk ((w2.alloc (.cells #[.slice A ps.length c, .func (.func 136) #[] #[]] 176)).alloc (.cells #[.slice B qs.length d, .func (.func 136) #[] #[]] 176)) (w2.heap.size + 1) 176 #[.slice B qs.length d, .func (.func 136) #[] #[]] := by
  have := Blk.new (w2.alloc (.cells #[.slice A ps.length c, .func (.func 136) #[] #[]] 176)) 176 #[.slice B qs.length d, .func (.func 136) #[] #[]]
  rwa [World.size_alloc] at this
 refine wpIn_rangeFunc_ownF (F := Fence.wide) rfl (by omega) (gf := 176) (lb := #[.pointer (some ⟨w2.heap.size, 0, none⟩), .pointer (some ⟨w2.heap.size + 1, 0, none⟩)]) rfl trivial (enters_of Tryz.func176 (by kernel_rfl) rfl)
  (merge1_stops 4 (by omega) w2.heap.size (w2.heap.size + 1) (fun b => b ≠ w.heap.size ∧ b < w2.heap.size + 2) _ _ _ ps qs ⟨by omega, by omega⟩ ⟨by omega, by omega⟩
   (hb1.cell 0) (hb1.cell 1) (hb2.cell 0) (HP.out.imp (fun b hb => ⟨by omega, by omega⟩) (.of_ext hB0) hB0.size) (HQ.out.imp (fun b hb => ⟨by omega, by omega⟩) (.of_ext hB0) hB0.size))
  KeepR.trans (fun W l o o' hl ho _ _ => ⟨by simp [World.putObj], fun b hb hlt => (grownBy_putObj' W l o').block b hlt (fun e => by injection e with e; simp only [World.size_alloc] at hl; omega)⟩) (Below.refl _ _) (fun _ => rfl)
  (fun pre W => (noBoth pre = true ∧ W.cell? ⟨w.heap.size, 0, none⟩ = some (.bool false) ∧ W.frozen? ⟨w.heap.size, 0, none⟩ = false) ∧ Below w.heap.size w W)
  (fun c pre W => (c = .ret ∧ noBoth pre = false ∧ W.cell? ⟨w.heap.size, 0, none⟩ = some (.bool true)) ∧ Below w.heap.size w W)
  (OwnFrom.and (Own.from (fun s A B row hs hg hr => ⟨hs.1, cell_kept hs.2.1 hg hr, (frozen_kept hs.2.1 hg hr).trans hs.2.2⟩) _) (ownFrom_below (Nat.le_refl _) hB0.size))
  (fun c => OwnFrom.and (Own.from (fun s A B row hs hg hr => ⟨hs.1, hs.2.1, cell_kept hs.2.2 hg hr⟩) _) (ownFrom_below (Nat.le_refl _) hB0.size))
  ⟨⟨rfl, hr1.cell 0, hr1.frozen 0⟩, hB0⟩
  (fun e => { tmps := #[.slice A ps.length c, .slice B qs.length d, undef, undef, .pointer (some ⟨w.heap.size, 0, none⟩), undef, .int .i64 e.s, .slice A ps.length c,
   .agg #[.slice A ps.length c, .func (.func 136) #[] #[]], .slice B qs.length d, .agg #[.slice B qs.length d, .func (.func 136) #[] #[]],
   .func (.func 176) #[] #[.pointer (some ⟨w2.heap.size, 0, none⟩), .pointer (some ⟨w2.heap.size + 1, 0, none⟩)], .agg #[.string e.x.n, e.v], .int .i64 e.s, undef, undef], defers := [] }) ?assign ?body ?done ?stop
 case assign =>
  intro l x W K hK
  simp only [encME]
  gi_wp2
  exact hK
 case body =>
  rintro l pre x W ⟨⟨hp, hcr, hfr⟩, hB⟩ _
  have HX := Lib.hid hp
  clear hp
  by_cases hs : x.s = 2
  · have h1 : ((x.s : Int) == 2) = true := by simp [hs]
    have HN := Lib.hid (show noBoth (pre ++ [x]) = false from by unfold noBoth; rw [List.all_append]; simp [hs])
    clear hs
    gi_wp2
    exact ⟨KeepsOthers.setCell _ _ _, ⟨rfl, HN.out, World.cell?_setCell_same' _ _ _ (by rw [hcr]; rfl)⟩, hB.setCell (p := ⟨w.heap.size, 0, none⟩) (Nat.le_refl _) _⟩
  · have h1 : ((x.s : Int) == 2) = false := by simp [hs]
    have HN := Lib.hid (show noBoth (pre ++ [x]) = true from by have := HX.out; unfold noBoth at this ⊢; rw [List.all_append, this]; simp [hs])
    clear hs
    gi_wp2
    exact ⟨KeepsOthers.refl _, ⟨Nat.le_refl _, .refl _ _⟩, ⟨HN.out, hcr, hfr⟩, hB⟩
 case done =>
  rintro D L W hD rfl ⟨⟨hne, hcr, hfr⟩, hB⟩ hK
  have HN := Lib.hid hne
  clear hne
  gi_wp2
  have hK' := (KeepsOthers.setCell W ⟨w.heap.size, 0, none⟩ (.bool false)).same D _ hK rfl
  refine ⟨by simp, .inl ⟨_, _, rfl, run_takeDeferred hK', ?_⟩⟩
  have hc5 := cell_kept (World.cell?_setCell_same' W ⟨w.heap.size, 0, none⟩ (.bool false) (by rw [hcr]; rfl)) (grownBy_putObj' _ D (.deferred none)) (fun r e => by cases e; exact ⟨_, hK', rfl⟩)
  refine ⟨.bool false, ?_, by rw [HN.out]; rfl, (hB.setCell (p := ⟨w.heap.size, 0, none⟩) (Nat.le_refl _) _).trans (belowK_b (w := w) (Nat.le_refl _) _ D _ _ (by simp only [World.size_alloc] at hD; omega) hK' rfl rfl)⟩
  simp [results, Tryz.f55, go_sem, hc5]
 case stop =>
  rintro D c pre W hD hpre ⟨⟨rfl, hin, hcr⟩, hB⟩ hK
  have HN := Lib.hid (show noBoth (mergeP ps qs) = false from by
   obtain ⟨r, hr⟩ := hpre
   rw [← hr]; unfold noBoth at hin ⊢; rw [List.all_append, hin]; rfl)
  clear hpre hin
  gi_wp2
  refine ⟨by simp, .inl ⟨_, _, rfl, run_takeDeferred hK, ?_⟩⟩
  have hc5 := cell_kept hcr (grownBy_putObj' _ D (.deferred none)) (fun r e => by cases e; exact ⟨_, hK, rfl⟩)
  refine ⟨.bool true, ?_, by rw [HN.out]; rfl, hB.trans (belowK_b (w := w) (Nat.le_refl _) W D _ _ (by simp only [World.size_alloc] at hD; omega) hK rfl rfl)⟩
  simp [results, Tryz.f55, go_sem, hc5]

end Go.Proofs.YtmihponoillihaaGreatDoor
