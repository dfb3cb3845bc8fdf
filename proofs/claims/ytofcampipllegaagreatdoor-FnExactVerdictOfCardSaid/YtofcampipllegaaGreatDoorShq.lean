/-
  DERIVED: THE SHELF's CONTRACTS AT THIS DUMP, IN PLAIN WORDS (tools/lay-plain.mjs out of 'TryzShq.lean', which tools/lay-shelf.mjs wrote): THE SAME DECLARATIONS UNDER THE SAME NAMES: 'import', 'namespace', 'open', 'def', 'theorem' AND NOTHING ELSE: no command of the shelf's: FOR A HAND-IN. Each laying: the table of numbers ('.._ren') and one theorem, a field a fact of the dump's own or the kernel's comparison; each contract: ONE APPLICATION.
-/
import Derived.Shelf.Strings.Builder1
import Derived.Shelf.Strings.Builder2
import Derived.Shelf.Strings.OnBuilder
import Derived.Shelf.Small.Utf8
import Derived.Shelf.Small.Strs
import Derived.Shelf.Strings.BuilderF
import Derived.Shelf.Strings.BuilderK
import Derived.Shelf.Strings.BuilderRune
import Derived.Shelf.Strconv.Itoa0
import Derived.Shelf.Strings.Search1
import Derived.Shelf.Strings.Search2
import Derived.Shelf.Strings.Search3
import Derived.Shelf.Strings.Count
import Derived.Shelf.LaysM
import Derived.Shelf.Strings.Shaped
import Derived.Shelf.Strings.Prefix
import Derived.Shelf.Strings.Split
import Derived.Shelf.Strings.Replace
import Derived.Shelf.Strings.SplitShaped
import Derived.Shelf.Unicode.Latin
import Derived.Shelf.Bits.Mul64
import Derived.Shelf.Strings.Repeat
import Derived.Shelf.Unicode.DecodeSlow
import Derived.Shelf.Unicode.DecodeAny
import Derived.Shelf.Unicode.CaseLookup
import Derived.Shelf.Unicode.CaseConvert
import Derived.Shelf.Unicode.CaseTo
import Derived.Shelf.Unicode.CaseLaid
import Derived.Shelf.Strings.MapAny
import Derived.Shelf.Strings.CaseAny
import Derived.Test.YtofcampipllegaaGreatDoorProg
namespace Go.Proofs
open Go.Shelf
def Tryz.lays169_ren : Go.Shelf.Ren := ⟨fun | 169 => 261 | n => n, fun | 70 => 261 | 9 => 9 | 0 => 0 | 72 => 263 | 37 => 183 | 127 => 285 | 3 => 3 | 5 => 5 | n => n, fun | n => n⟩
theorem Tryz.lays169 : Go.Proofs.Lays.n169 Tryz.prog Tryz.lays169_ren := {
  mixed := by kernel_rfl
  f169 := Tryz.func261.trans (congrArg some (by kernel_rfl))
  t0 := Tryz.underlying0
  a0 := Tryz.isAgg0
  z0 := Tryz.sizeOf0
  v0 := Tryz.zeroValue0
  t3 := Tryz.underlying3
  a3 := Tryz.isAgg3
  z3 := Tryz.sizeOf3
  v3 := Tryz.zeroValue3
  t9 := Tryz.underlying9
  a9 := Tryz.isAgg9
  z9 := Tryz.sizeOf9
  v9 := Tryz.zeroValue9
  t37 := Tryz.underlying183
  a37 := Tryz.isAgg183
  z37 := Tryz.sizeOf183
  v37 := Tryz.zeroValue183
  t70 := Tryz.underlying261
  a70 := Tryz.isAgg261
  z70 := Tryz.sizeOf261
  v70 := Tryz.zeroValue261
  t72 := Tryz.underlying263
  a72 := Tryz.isAgg263
  z72 := Tryz.sizeOf263
  v72 := Tryz.zeroValue263
  t127 := Tryz.underlying285
  a127 := Tryz.isAgg285
  z127 := Tryz.sizeOf285
  v127 := Tryz.zeroValue285 }
theorem Tryz.Builder_Extra_169 : Builder.Extra Tryz.prog Tryz.lays169_ren := {
  sizeBuilder := by kernel_rfl
  liesBuilder := by kernel_rfl
  t5 := Tryz.underlying5
  a5 := Tryz.isAgg5
  z5 := Tryz.sizeOf5
  v5 := Tryz.zeroValue5
  infoByte := by kernel_rfl
  cellsByte := by kernel_rfl
  sizeByte := by kernel_rfl
  neB5 := by decide }
def Tryz.lays159_ren : Go.Shelf.Ren := ⟨fun | 159 => 266 | 165 => 264 | 166 => 259 | 167 => 268 | 169 => 261 | 230 => 285 | 204 => 286 | 240 => 276 | 241 => 284 | 197 => 292 | 118 => 303 | 168 => 304 | 270 => 305 | 262 => 306 | 276 => 293 | 277 => 302 | 260 => 310 | 242 => 313 | 313 => 314 | 278 => 318 | 274 => 319 | 275 => 320 | n => n, fun | 9 => 9 | 4 => 4 | 3 => 3 | 5 => 5 | 72 => 263 | 0 => 0 | 76 => 266 | 75 => 265 | 107 => 293 | 70 => 261 | 20 => 20 | 37 => 183 | 127 => 285 | 21 => 21 | 105 => 294 | 164 => 296 | 162 => 318 | 203 => 316 | 119 => 319 | 46 => 280 | 139 => 322 | 138 => 321 | 51 => 298 | 160 => 325 | 208 => 332 | 206 => 330 | 80 => 131 | n => n, fun | 13 => 2 | 3 => 3 | 4 => 4 | n => n⟩
theorem Tryz.lays159 : Go.Proofs.Lays.n159 Tryz.prog Tryz.lays159_ren := {
  mixed := by kernel_rfl
  f118 := Tryz.func303.trans (congrArg some (by kernel_rfl))
  f159 := Tryz.func266.trans (congrArg some (by kernel_rfl))
  f165 := Tryz.func264.trans (congrArg some (by kernel_rfl))
  f166 := Tryz.func259.trans (congrArg some (by kernel_rfl))
  f167 := Tryz.func268.trans (congrArg some (by kernel_rfl))
  f168 := Tryz.func304.trans (congrArg some (by kernel_rfl))
  f169 := Tryz.func261.trans (congrArg some (by kernel_rfl))
  f197 := Tryz.func292.trans (congrArg some (by kernel_rfl))
  f204 := Tryz.func286.trans (congrArg some (by kernel_rfl))
  f230 := Tryz.func285.trans (congrArg some (by kernel_rfl))
  f240 := Tryz.func276.trans (congrArg some (by kernel_rfl))
  f241 := Tryz.func284.trans (congrArg some (by kernel_rfl))
  f242 := Tryz.func313.trans (congrArg some (by kernel_rfl))
  f260 := Tryz.func310.trans (congrArg some (by kernel_rfl))
  f262 := Tryz.func306.trans (congrArg some (by kernel_rfl))
  f270 := Tryz.func305.trans (congrArg some (by kernel_rfl))
  f274 := Tryz.func319.trans (congrArg some (by kernel_rfl))
  f275 := Tryz.func320.trans (congrArg some (by kernel_rfl))
  f276 := Tryz.func293.trans (congrArg some (by kernel_rfl))
  f277 := Tryz.func302.trans (congrArg some (by kernel_rfl))
  f278 := Tryz.func318.trans (congrArg some (by kernel_rfl))
  f313 := Tryz.func314.trans (congrArg some (by kernel_rfl))
  t0 := Tryz.underlying0
  a0 := Tryz.isAgg0
  z0 := Tryz.sizeOf0
  v0 := Tryz.zeroValue0
  t3 := Tryz.underlying3
  a3 := Tryz.isAgg3
  z3 := Tryz.sizeOf3
  v3 := Tryz.zeroValue3
  t4 := Tryz.underlying4
  a4 := Tryz.isAgg4
  z4 := Tryz.sizeOf4
  v4 := Tryz.zeroValue4
  t5 := Tryz.underlying5
  a5 := Tryz.isAgg5
  z5 := Tryz.sizeOf5
  v5 := Tryz.zeroValue5
  t9 := Tryz.underlying9
  a9 := Tryz.isAgg9
  z9 := Tryz.sizeOf9
  v9 := Tryz.zeroValue9
  t20 := Tryz.underlying20
  a20 := Tryz.isAgg20
  z20 := Tryz.sizeOf20
  v20 := Tryz.zeroValue20
  t21 := Tryz.underlying21
  a21 := Tryz.isAgg21
  z21 := Tryz.sizeOf21
  v21 := Tryz.zeroValue21
  t37 := Tryz.underlying183
  a37 := Tryz.isAgg183
  z37 := Tryz.sizeOf183
  v37 := Tryz.zeroValue183
  t46 := Tryz.underlying280
  a46 := Tryz.isAgg280
  z46 := Tryz.sizeOf280
  v46 := Tryz.zeroValue280
  t51 := Tryz.underlying298
  a51 := Tryz.isAgg298
  z51 := Tryz.sizeOf298
  v51 := Tryz.zeroValue298
  t70 := Tryz.underlying261
  a70 := Tryz.isAgg261
  z70 := Tryz.sizeOf261
  v70 := Tryz.zeroValue261
  t72 := Tryz.underlying263
  a72 := Tryz.isAgg263
  z72 := Tryz.sizeOf263
  v72 := Tryz.zeroValue263
  t75 := Tryz.underlying265
  a75 := Tryz.isAgg265
  z75 := Tryz.sizeOf265
  v75 := Tryz.zeroValue265
  t76 := Tryz.underlying266
  a76 := Tryz.isAgg266
  z76 := Tryz.sizeOf266
  v76 := Tryz.zeroValue266
  t105 := Tryz.underlying294
  a105 := Tryz.isAgg294
  z105 := Tryz.sizeOf294
  v105 := Tryz.zeroValue294
  t107 := Tryz.underlying293
  a107 := Tryz.isAgg293
  z107 := Tryz.sizeOf293
  v107 := Tryz.zeroValue293
  t119 := Tryz.underlying319
  a119 := Tryz.isAgg319
  z119 := Tryz.sizeOf319
  t127 := Tryz.underlying285
  a127 := Tryz.isAgg285
  z127 := Tryz.sizeOf285
  v127 := Tryz.zeroValue285
  t138 := Tryz.underlying321
  a138 := Tryz.isAgg321
  z138 := Tryz.sizeOf321
  v138 := Tryz.zeroValue321
  t139 := Tryz.underlying322
  a139 := Tryz.isAgg322
  z139 := Tryz.sizeOf322
  v139 := Tryz.zeroValue322
  t160 := Tryz.underlying325
  a160 := Tryz.isAgg325
  z160 := Tryz.sizeOf325
  v160 := Tryz.zeroValue325
  t162 := Tryz.underlying318
  a162 := Tryz.isAgg318
  z162 := Tryz.sizeOf318
  v162 := Tryz.zeroValue318
  t164 := Tryz.underlying296
  a164 := Tryz.isAgg296
  z164 := Tryz.sizeOf296
  v164 := Tryz.zeroValue296
  t203 := Tryz.underlying316
  a203 := Tryz.isAgg316
  z203 := Tryz.sizeOf316
  v203 := Tryz.zeroValue316
  t206 := Tryz.underlying330
  a206 := Tryz.isAgg330
  z206 := Tryz.sizeOf330
  v206 := Tryz.zeroValue330
  t208 := Tryz.underlying332
  a208 := Tryz.isAgg332
  z208 := Tryz.sizeOf332
  v208 := Tryz.zeroValue332
  g3 := by kernel_rfl
  g4 := by kernel_rfl
  g13 := by kernel_rfl }
theorem Tryz.Builder_Extra_159 : Builder.Extra Tryz.prog Tryz.lays159_ren := {
  sizeBuilder := by kernel_rfl
  liesBuilder := by kernel_rfl
  t5 := Tryz.underlying5
  a5 := Tryz.isAgg5
  z5 := Tryz.sizeOf5
  v5 := Tryz.zeroValue5
  infoByte := by kernel_rfl
  cellsByte := by kernel_rfl
  sizeByte := by kernel_rfl
  neB5 := by decide }
open Go.RowKit in
/-- strings.ToLower: "ToLower returns s with all Unicode letters mapped to their lower case.": ON ASCII TEXT OF AT MOST 2^47 BYTES. Below the heap's end the world is as it was: where a letter turns, the call makes a builder and its buffer. (LAID: no walk: one application.) -/
theorem Tryz.strings_ToLower_ascii (s : ByteArray) (w : World) (hs : s.size ≤ 140737488355328) (hascii : ∀ (j : Nat) (b : UInt8), s.data.toList[j]? = some b → b.toNat < 128) :
    Calls Tryz.prog 266 #[.string s] w fun e w' => e = .returned (.string ⟨(Lib.toLowerA s.data.toList).toArray⟩) ∧ Below w.heap.size w w' := Any.strings_ToLower_ascii Tryz.lays159 Tryz.Builder_Extra_159 s w hs hascii
def Tryz.lays137_ren : Go.Shelf.Ren := ⟨fun | 137 => 244 | 217 => 270 | 266 => 289 | n => n, fun | 9 => 9 | 5 => 5 | 3 => 3 | n => n, fun | n => n⟩
theorem Tryz.lays137 : Go.Proofs.Lays.n137 Tryz.prog Tryz.lays137_ren := {
  mixed := by kernel_rfl
  f137 := Tryz.func244.trans (congrArg some (by kernel_rfl))
  f217 := Tryz.func270.trans (congrArg some (by kernel_rfl))
  f266 := Tryz.func289.trans (congrArg some (by kernel_rfl))
  t3 := Tryz.underlying3
  a3 := Tryz.isAgg3
  z3 := Tryz.sizeOf3
  v3 := Tryz.zeroValue3
  t5 := Tryz.underlying5
  a5 := Tryz.isAgg5
  z5 := Tryz.sizeOf5
  v5 := Tryz.zeroValue5
  t9 := Tryz.underlying9
  a9 := Tryz.isAgg9
  z9 := Tryz.sizeOf9
  v9 := Tryz.zeroValue9 }
open Go.RowKit in
/-- strings.IndexByte: "IndexByte returns the index of the first instance of c in s, or -1 if c is not present in s.": IT RETURNS 'Lib.indexByte s c'; the world is as it was. (LAID: no walk: one application.) -/
theorem Tryz.strings_IndexByte (s : ByteArray) (c : Int) (w : World) :
    Calls Tryz.prog 244 #[.string s, .int .u8 c] w fun e w' => e = .returned (.int .i64 (Lib.indexByte s.data.toList c.toNat.toUInt8)) ∧ w' = w := Any.strings_IndexByte Tryz.lays137 s c w
open Go.RowKit in
/-- (*strings.Builder).String: "String returns the accumulated string.": WHATEVER THE BUILDER HOLDS; THE FORM '_k': OVER 'Lib.IsBuilderF' (a builder that 'String()' may have read), AND WITH THE FRAME THAT REACHES ABOVE THE BUILDER: 'Lib.OthersKept': every block that is not b and is no row of uint8's stands as it stood: the iterator of a range among them. (LAID: no walk: one application.) -/
theorem Tryz.Builder_String_any_k (B b : Nat) (l : List UInt8) (w : World) (h : Lib.IsBuilderF 263 5 B b (Lib.byteCells l) w) (hBw : B ≤ w.heap.size) :
    Calls Tryz.prog 261 #[.pointer (some ⟨b, 0, none⟩)] w fun e w' => e = .returned (.string ⟨l.toArray⟩) ∧ (Lib.IsBuilderF 263 5 B b (Lib.byteCells l) w' ∧ Below B w w' ∧ Lib.OthersKept 5 (some b) w w') := Any.Builder_String_any_k Tryz.lays169 Tryz.Builder_Extra_169 B b l w h hBw
def Tryz.lays155_ren : Go.Shelf.Ren := ⟨fun | 155 => 258 | 154 => 275 | 138 => 290 | 165 => 264 | 143 => 291 | 166 => 259 | 197 => 292 | 169 => 261 | 195 => 307 | 218 => 308 | 240 => 276 | 241 => 284 | 219 => 309 | 260 => 310 | 276 => 293 | 277 => 302 | 217 => 270 | 225 => 315 | 224 => 316 | 267 => 317 | 266 => 289 | 314 => 321 | n => n, fun | 9 => 9 | 3 => 3 | 4 => 4 | 72 => 263 | 0 => 0 | 76 => 266 | 105 => 294 | 21 => 21 | 5 => 5 | 70 => 261 | 20 => 20 | 37 => 183 | 75 => 265 | 127 => 285 | 164 => 296 | 46 => 280 | 119 => 319 | 139 => 322 | 138 => 321 | 146 => 299 | 51 => 298 | 80 => 131 | n => n, fun | 1 => 1 | 3 => 3 | 4 => 4 | n => n⟩
theorem Tryz.lays155 : Go.Proofs.Lays.n155 Tryz.prog Tryz.lays155_ren := {
  mixed := by kernel_rfl
  f138 := Tryz.func290.trans (congrArg some (by kernel_rfl))
  f143 := Tryz.func291.trans (congrArg some (by kernel_rfl))
  f154 := Tryz.func275.trans (congrArg some (by kernel_rfl))
  f155 := Tryz.func258.trans (congrArg some (by kernel_rfl))
  f165 := Tryz.func264.trans (congrArg some (by kernel_rfl))
  f166 := Tryz.func259.trans (congrArg some (by kernel_rfl))
  f169 := Tryz.func261.trans (congrArg some (by kernel_rfl))
  f195 := Tryz.func307.trans (congrArg some (by kernel_rfl))
  f197 := Tryz.func292.trans (congrArg some (by kernel_rfl))
  f217 := Tryz.func270.trans (congrArg some (by kernel_rfl))
  f218 := Tryz.func308.trans (congrArg some (by kernel_rfl))
  f219 := Tryz.func309.trans (congrArg some (by kernel_rfl))
  f224 := Tryz.func316.trans (congrArg some (by kernel_rfl))
  f225 := Tryz.func315.trans (congrArg some (by kernel_rfl))
  f240 := Tryz.func276.trans (congrArg some (by kernel_rfl))
  f241 := Tryz.func284.trans (congrArg some (by kernel_rfl))
  f260 := Tryz.func310.trans (congrArg some (by kernel_rfl))
  f266 := Tryz.func289.trans (congrArg some (by kernel_rfl))
  f267 := Tryz.func317.trans (congrArg some (by kernel_rfl))
  f276 := Tryz.func293.trans (congrArg some (by kernel_rfl))
  f277 := Tryz.func302.trans (congrArg some (by kernel_rfl))
  f314 := Tryz.func321.trans (congrArg some (by kernel_rfl))
  t0 := Tryz.underlying0
  a0 := Tryz.isAgg0
  z0 := Tryz.sizeOf0
  v0 := Tryz.zeroValue0
  t3 := Tryz.underlying3
  a3 := Tryz.isAgg3
  z3 := Tryz.sizeOf3
  v3 := Tryz.zeroValue3
  t4 := Tryz.underlying4
  a4 := Tryz.isAgg4
  z4 := Tryz.sizeOf4
  v4 := Tryz.zeroValue4
  t5 := Tryz.underlying5
  a5 := Tryz.isAgg5
  z5 := Tryz.sizeOf5
  v5 := Tryz.zeroValue5
  t9 := Tryz.underlying9
  a9 := Tryz.isAgg9
  z9 := Tryz.sizeOf9
  v9 := Tryz.zeroValue9
  t20 := Tryz.underlying20
  a20 := Tryz.isAgg20
  z20 := Tryz.sizeOf20
  v20 := Tryz.zeroValue20
  t21 := Tryz.underlying21
  a21 := Tryz.isAgg21
  z21 := Tryz.sizeOf21
  v21 := Tryz.zeroValue21
  t37 := Tryz.underlying183
  a37 := Tryz.isAgg183
  z37 := Tryz.sizeOf183
  v37 := Tryz.zeroValue183
  t46 := Tryz.underlying280
  a46 := Tryz.isAgg280
  z46 := Tryz.sizeOf280
  v46 := Tryz.zeroValue280
  t51 := Tryz.underlying298
  a51 := Tryz.isAgg298
  z51 := Tryz.sizeOf298
  v51 := Tryz.zeroValue298
  t70 := Tryz.underlying261
  a70 := Tryz.isAgg261
  z70 := Tryz.sizeOf261
  v70 := Tryz.zeroValue261
  t72 := Tryz.underlying263
  a72 := Tryz.isAgg263
  z72 := Tryz.sizeOf263
  v72 := Tryz.zeroValue263
  t75 := Tryz.underlying265
  a75 := Tryz.isAgg265
  z75 := Tryz.sizeOf265
  v75 := Tryz.zeroValue265
  t76 := Tryz.underlying266
  a76 := Tryz.isAgg266
  z76 := Tryz.sizeOf266
  v76 := Tryz.zeroValue266
  t105 := Tryz.underlying294
  a105 := Tryz.isAgg294
  z105 := Tryz.sizeOf294
  v105 := Tryz.zeroValue294
  t119 := Tryz.underlying319
  a119 := Tryz.isAgg319
  z119 := Tryz.sizeOf319
  t127 := Tryz.underlying285
  a127 := Tryz.isAgg285
  z127 := Tryz.sizeOf285
  v127 := Tryz.zeroValue285
  t138 := Tryz.underlying321
  a138 := Tryz.isAgg321
  z138 := Tryz.sizeOf321
  v138 := Tryz.zeroValue321
  t139 := Tryz.underlying322
  a139 := Tryz.isAgg322
  z139 := Tryz.sizeOf322
  v139 := Tryz.zeroValue322
  t146 := Tryz.underlying299
  a146 := Tryz.isAgg299
  z146 := Tryz.sizeOf299
  v146 := Tryz.zeroValue299
  t164 := Tryz.underlying296
  a164 := Tryz.isAgg296
  z164 := Tryz.sizeOf296
  v164 := Tryz.zeroValue296
  g1 := by kernel_rfl
  g3 := by kernel_rfl
  g4 := by kernel_rfl }
theorem Tryz.Builder_Extra_155 : Builder.Extra Tryz.prog Tryz.lays155_ren := {
  sizeBuilder := by kernel_rfl
  liesBuilder := by kernel_rfl
  t5 := Tryz.underlying5
  a5 := Tryz.isAgg5
  z5 := Tryz.sizeOf5
  v5 := Tryz.zeroValue5
  infoByte := by kernel_rfl
  cellsByte := by kernel_rfl
  sizeByte := by kernel_rfl
  neB5 := by decide }
open Go.RowKit Go.Lib in
/-- strings.ReplaceAll: "ReplaceAll returns a copy of the string s with all non-overlapping instances of old replaced by new.": AT AN old THAT IS NOT EMPTY: 'Lib.replaceAll s old new'. (LAID: no walk: one application.) -/
theorem Tryz.strings_ReplaceAll (s old new : ByteArray) (m : Int) (w : World) (hs : s.size < 4294967281) (hm : w.cell? ⟨1, 0, none⟩ = some (.int .i64 m)) (h1 : 1 ≤ old.size) (hlen : s.size + Lib.countB s old * new.size ≤ 140737488355328) :
    Calls Tryz.prog 258 #[.string s, .string old, .string new] w fun e w' =>
      e = .returned (.string ⟨(Lib.replaceAll s.data.toList old.data.toList new.data.toList).toArray⟩) ∧ Below w.heap.size w w' := Any.strings_ReplaceAll Tryz.lays155 Tryz.Builder_Extra_155 s old new m w hs hm h1 hlen
def Tryz.laysM155_ren : Go.Shelf.Ren := ⟨fun | 155 => 258 | 154 => 275 | 138 => 290 | 165 => 264 | 143 => 291 | 166 => 259 | 197 => 292 | 169 => 261 | 195 => 307 | 218 => 308 | 240 => 276 | 241 => 284 | 219 => 309 | 260 => 310 | 276 => 293 | 277 => 302 | 217 => 270 | 225 => 315 | 224 => 316 | 267 => 317 | 266 => 289 | 314 => 321 | n => n, fun | 9 => 9 | 3 => 3 | 4 => 4 | 72 => 263 | 0 => 0 | 76 => 266 | 105 => 294 | 21 => 21 | 5 => 5 | 70 => 261 | 20 => 20 | 37 => 183 | 75 => 265 | 127 => 285 | 164 => 296 | 46 => 280 | 119 => 319 | 139 => 322 | 138 => 321 | 146 => 299 | 51 => 298 | 80 => 131 | n => n, fun | 1 => 1 | 3 => 3 | 4 => 4 | n => n⟩
theorem Tryz.laysM155 : Go.Proofs.LaysM.n155 Tryz.prog Tryz.laysM155_ren := {
  mixed := by kernel_rfl
  f138 := Tryz.func290.trans (congrArg some (by kernel_rfl))
  f143 := Tryz.func291.trans (congrArg some (by kernel_rfl))
  f154 := Tryz.func275.trans (congrArg some (by kernel_rfl))
  f155 := Tryz.func258.trans (congrArg some (by kernel_rfl))
  f165 := Tryz.func264.trans (congrArg some (by kernel_rfl))
  f166 := Tryz.func259.trans (congrArg some (by kernel_rfl))
  f169 := Tryz.func261.trans (congrArg some (by kernel_rfl))
  f195 := Tryz.func307.trans (congrArg some (by kernel_rfl))
  f197 := Tryz.func292.trans (congrArg some (by kernel_rfl))
  f217 := Tryz.func270.trans (congrArg some (by kernel_rfl))
  f218 := Tryz.func308.trans (congrArg some (by kernel_rfl))
  f219 := Tryz.func309.trans (congrArg some (by kernel_rfl))
  f224 := Tryz.func316.trans (congrArg some (by kernel_rfl))
  f225 := Tryz.func315.trans (congrArg some (by kernel_rfl))
  f240 := Tryz.func276.trans (congrArg some (by kernel_rfl))
  f241 := Tryz.func284.trans (congrArg some (by kernel_rfl))
  f260 := Tryz.func310.trans (congrArg some (by kernel_rfl))
  f266 := Tryz.func289.trans (congrArg some (by kernel_rfl))
  f267 := Tryz.func317.trans (congrArg some (by kernel_rfl))
  f276 := Tryz.func293.trans (congrArg some (by kernel_rfl))
  f277 := Tryz.func302.trans (congrArg some (by kernel_rfl))
  f314 := Tryz.func321.trans (congrArg some (by kernel_rfl))
  t0 := Tryz.underlying0
  a0 := Tryz.isAgg0
  z0 := Tryz.sizeOf0
  v0 := Tryz.zeroValue0
  t3 := Tryz.underlying3
  a3 := Tryz.isAgg3
  z3 := Tryz.sizeOf3
  v3 := Tryz.zeroValue3
  t4 := Tryz.underlying4
  a4 := Tryz.isAgg4
  z4 := Tryz.sizeOf4
  v4 := Tryz.zeroValue4
  t5 := Tryz.underlying5
  a5 := Tryz.isAgg5
  z5 := Tryz.sizeOf5
  v5 := Tryz.zeroValue5
  t9 := Tryz.underlying9
  a9 := Tryz.isAgg9
  z9 := Tryz.sizeOf9
  v9 := Tryz.zeroValue9
  t20 := Tryz.underlying20
  a20 := Tryz.isAgg20
  z20 := Tryz.sizeOf20
  v20 := Tryz.zeroValue20
  t21 := Tryz.underlying21
  a21 := Tryz.isAgg21
  z21 := Tryz.sizeOf21
  v21 := Tryz.zeroValue21
  t37 := Tryz.underlying183
  a37 := Tryz.isAgg183
  z37 := Tryz.sizeOf183
  v37 := Tryz.zeroValue183
  t46 := Tryz.underlying280
  a46 := Tryz.isAgg280
  z46 := Tryz.sizeOf280
  v46 := Tryz.zeroValue280
  t51 := Tryz.underlying298
  a51 := Tryz.isAgg298
  z51 := Tryz.sizeOf298
  v51 := Tryz.zeroValue298
  t70 := Tryz.underlying261
  a70 := Tryz.isAgg261
  z70 := Tryz.sizeOf261
  v70 := Tryz.zeroValue261
  t72 := Tryz.underlying263
  a72 := Tryz.isAgg263
  z72 := Tryz.sizeOf263
  v72 := Tryz.zeroValue263
  t75 := Tryz.underlying265
  a75 := Tryz.isAgg265
  z75 := Tryz.sizeOf265
  v75 := Tryz.zeroValue265
  t76 := Tryz.underlying266
  a76 := Tryz.isAgg266
  z76 := Tryz.sizeOf266
  v76 := Tryz.zeroValue266
  t105 := Tryz.underlying294
  a105 := Tryz.isAgg294
  z105 := Tryz.sizeOf294
  v105 := Tryz.zeroValue294
  t119 := Tryz.underlying319
  a119 := Tryz.isAgg319
  z119 := Tryz.sizeOf319
  t127 := Tryz.underlying285
  a127 := Tryz.isAgg285
  z127 := Tryz.sizeOf285
  v127 := Tryz.zeroValue285
  t138 := Tryz.underlying321
  a138 := Tryz.isAgg321
  z138 := Tryz.sizeOf321
  v138 := Tryz.zeroValue321
  t139 := Tryz.underlying322
  a139 := Tryz.isAgg322
  z139 := Tryz.sizeOf322
  v139 := Tryz.zeroValue322
  t146 := Tryz.underlying299
  a146 := Tryz.isAgg299
  z146 := Tryz.sizeOf299
  v146 := Tryz.zeroValue299
  t164 := Tryz.underlying296
  a164 := Tryz.isAgg296
  z164 := Tryz.sizeOf296
  v164 := Tryz.zeroValue296
  g1 := by kernel_rfl
  g3 := by kernel_rfl
  g4 := by kernel_rfl
  t80 := Tryz.underlying131
  a80 := Tryz.isAgg131
  z80 := Tryz.sizeOf131
  v80 := Tryz.zeroValue131
  i0 := by kernel_rfl
  i3 := by kernel_rfl
  i4 := by kernel_rfl
  i5 := by kernel_rfl
  i9 := by kernel_rfl
  i20 := by kernel_rfl
  i21 := by kernel_rfl
  i37 := by kernel_rfl
  i46 := by kernel_rfl
  i51 := by kernel_rfl
  i70 := by kernel_rfl
  i72 := by kernel_rfl
  i75 := by kernel_rfl
  i76 := by kernel_rfl
  i80 := by kernel_rfl
  i105 := by kernel_rfl
  i127 := by kernel_rfl
  i138 := by kernel_rfl
  i139 := by kernel_rfl
  i146 := by kernel_rfl
  i164 := by kernel_rfl
  m1 := by kernel_rfl
  s1_3 := fun w h => Go.Proofs.cell_of_shapedOpen_int (zero := #[.int .i64 0]) (t := 3) h (of_decide_eq_true (by kernel_rfl)) (by kernel_rfl) rfl (by kernel_rfl) (by kernel_rfl) Tryz.underlying3
  m3 := by kernel_rfl
  m4 := by kernel_rfl }
theorem Tryz.Builder_Extra_M155 : Builder.Extra Tryz.prog Tryz.laysM155_ren := {
  sizeBuilder := by kernel_rfl
  liesBuilder := by kernel_rfl
  t5 := Tryz.underlying5
  a5 := Tryz.isAgg5
  z5 := Tryz.sizeOf5
  v5 := Tryz.zeroValue5
  infoByte := by kernel_rfl
  cellsByte := by kernel_rfl
  sizeByte := by kernel_rfl
  neB5 := by decide }
open Go.RowKit Go.Lib in
/-- strings.ReplaceAll, old not empty. (LAID: no walk: one application.) -/
theorem Tryz.strings_ReplaceAll_shaped (s old new : ByteArray) (w : World) (h : w.ShapedOpen Tryz.prog) (hs : s.size < 4294967281) (h1 : 1 ≤ old.size) (hlen : s.size + Lib.countB s old * new.size ≤ 140737488355328) :
    Calls Tryz.prog 258 #[.string s, .string old, .string new] w fun e w' =>
      e = .returned (.string ⟨(Lib.replaceAll s.data.toList old.data.toList new.data.toList).toArray⟩) ∧ Below w.heap.size w w' := Any.strings_ReplaceAll_shaped Tryz.laysM155 Tryz.Builder_Extra_M155 s old new w h hs h1 hlen
def Tryz.lays105_ren : Go.Shelf.Ren := ⟨fun | 105 => 260 | 212 => 277 | 99 => 278 | 165 => 264 | 166 => 259 | 170 => 279 | 169 => 261 | 263 => 294 | 264 => 295 | 206 => 296 | 240 => 276 | 241 => 284 | 276 => 293 | 277 => 302 | n => n, fun | 9 => 9 | 3 => 3 | 4 => 4 | 20 => 20 | 0 => 0 | 46 => 280 | 109 => 281 | 5 => 5 | 72 => 263 | 76 => 266 | 51 => 298 | 146 => 299 | 53 => 287 | 148 => 301 | 70 => 261 | 37 => 183 | 75 => 265 | 127 => 285 | 164 => 296 | 80 => 131 | n => n, fun | n => n⟩
theorem Tryz.lays105 : Go.Proofs.Lays.n105 Tryz.prog Tryz.lays105_ren := {
  mixed := by kernel_rfl
  f99 := Tryz.func278.trans (congrArg some (by kernel_rfl))
  f105 := Tryz.func260.trans (congrArg some (by kernel_rfl))
  f165 := Tryz.func264.trans (congrArg some (by kernel_rfl))
  f166 := Tryz.func259.trans (congrArg some (by kernel_rfl))
  f169 := Tryz.func261.trans (congrArg some (by kernel_rfl))
  f170 := Tryz.func279.trans (congrArg some (by kernel_rfl))
  f206 := Tryz.func296.trans (congrArg some (by kernel_rfl))
  f212 := Tryz.func277.trans (congrArg some (by kernel_rfl))
  f240 := Tryz.func276.trans (congrArg some (by kernel_rfl))
  f241 := Tryz.func284.trans (congrArg some (by kernel_rfl))
  f263 := Tryz.func294.trans (congrArg some (by kernel_rfl))
  f264 := Tryz.func295.trans (congrArg some (by kernel_rfl))
  f276 := Tryz.func293.trans (congrArg some (by kernel_rfl))
  f277 := Tryz.func302.trans (congrArg some (by kernel_rfl))
  t0 := Tryz.underlying0
  a0 := Tryz.isAgg0
  z0 := Tryz.sizeOf0
  v0 := Tryz.zeroValue0
  t3 := Tryz.underlying3
  a3 := Tryz.isAgg3
  z3 := Tryz.sizeOf3
  v3 := Tryz.zeroValue3
  t4 := Tryz.underlying4
  a4 := Tryz.isAgg4
  z4 := Tryz.sizeOf4
  v4 := Tryz.zeroValue4
  t5 := Tryz.underlying5
  a5 := Tryz.isAgg5
  z5 := Tryz.sizeOf5
  v5 := Tryz.zeroValue5
  t9 := Tryz.underlying9
  a9 := Tryz.isAgg9
  z9 := Tryz.sizeOf9
  v9 := Tryz.zeroValue9
  t20 := Tryz.underlying20
  a20 := Tryz.isAgg20
  z20 := Tryz.sizeOf20
  v20 := Tryz.zeroValue20
  t37 := Tryz.underlying183
  a37 := Tryz.isAgg183
  z37 := Tryz.sizeOf183
  v37 := Tryz.zeroValue183
  t46 := Tryz.underlying280
  a46 := Tryz.isAgg280
  z46 := Tryz.sizeOf280
  v46 := Tryz.zeroValue280
  t51 := Tryz.underlying298
  a51 := Tryz.isAgg298
  z51 := Tryz.sizeOf298
  v51 := Tryz.zeroValue298
  t53 := Tryz.underlying287
  a53 := Tryz.isAgg287
  z53 := Tryz.sizeOf287
  v53 := Tryz.zeroValue287
  t70 := Tryz.underlying261
  a70 := Tryz.isAgg261
  z70 := Tryz.sizeOf261
  v70 := Tryz.zeroValue261
  t72 := Tryz.underlying263
  a72 := Tryz.isAgg263
  z72 := Tryz.sizeOf263
  v72 := Tryz.zeroValue263
  t75 := Tryz.underlying265
  a75 := Tryz.isAgg265
  z75 := Tryz.sizeOf265
  v75 := Tryz.zeroValue265
  t76 := Tryz.underlying266
  a76 := Tryz.isAgg266
  z76 := Tryz.sizeOf266
  v76 := Tryz.zeroValue266
  t109 := Tryz.underlying281
  a109 := Tryz.isAgg281
  z109 := Tryz.sizeOf281
  v109 := Tryz.zeroValue281
  t127 := Tryz.underlying285
  a127 := Tryz.isAgg285
  z127 := Tryz.sizeOf285
  v127 := Tryz.zeroValue285
  t146 := Tryz.underlying299
  a146 := Tryz.isAgg299
  z146 := Tryz.sizeOf299
  v146 := Tryz.zeroValue299
  t148 := Tryz.underlying301
  a148 := Tryz.isAgg301
  z148 := Tryz.sizeOf301
  v148 := Tryz.zeroValue301
  t164 := Tryz.underlying296
  a164 := Tryz.isAgg296
  z164 := Tryz.sizeOf296
  v164 := Tryz.zeroValue296 }
theorem Tryz.Builder_Extra_105 : Builder.Extra Tryz.prog Tryz.lays105_ren := {
  sizeBuilder := by kernel_rfl
  liesBuilder := by kernel_rfl
  t5 := Tryz.underlying5
  a5 := Tryz.isAgg5
  z5 := Tryz.sizeOf5
  v5 := Tryz.zeroValue5
  infoByte := by kernel_rfl
  cellsByte := by kernel_rfl
  sizeByte := by kernel_rfl
  neB5 := by decide }
open Go.RowKit Go.Lib in
/-- **strings.Repeat: count ≥ 0, the result within one allocation: count copies of s.** (LAID: no walk: one application.) -/
theorem Tryz.strings_Repeat (s : ByteArray) (c : Nat) (w : World) (hc : c ≤ 9223372036854775807) (hlen : s.size * c ≤ 140737488355328) :
    Calls Tryz.prog 260 #[.string s, .int .i64 c] w fun e w' => e = .returned (.string ⟨(Lib.repeatL s.data.toList c).toArray⟩) ∧ Below w.heap.size w w' := Any.strings_Repeat Tryz.lays105 Tryz.Builder_Extra_105 s c w hc hlen
open Go.RowKit Go.Lib in
/-- **strings.ToLower AT EVERY STRING, VALID UTF-8 OR NOT.** (LAID: no walk: one application.) -/
theorem Tryz.strings_ToLower_any (s : ByteArray) (w : World) (hs : s.size < 35184372088832) (hV : CaseVar 2 caseA w) (hT : Lib.Utf8Tabs 3 4 w) :
    Calls Tryz.prog 266 #[.string s] w fun e w' => e = .returned (.string ⟨(Lib.toLowerD s.data.toList).toArray⟩) ∧ Below w.heap.size w w' := Any.strings_ToLower_any Tryz.lays159 Tryz.Builder_Extra_159 s w hs hV hT
end Go.Proofs
