/- A part of the proof behind the last text of this folder: XShelf, S2, S3, S4, S5, F1, L1, L2, M2, R1, M3, R2, M4. -/
import Derived.Shelf.Strings.Builder1
import Derived.Shelf.Small.Bits
import Derived.Shelf.Strings.BuilderF
import Derived.Shelf.Strings.BuilderK
import Derived.Shelf.Strings.BuilderRune
import Derived.Shelf.Strconv.Itoa0
import Derived.Shelf.Strings.Prefix
import Derived.Shelf.Unicode.Latin
import Derived.Shelf.Unicode.Props
import Derived.Shelf.Unicode.Is16White
import Derived.Shelf.Unicode.IsSpaceAny
import Derived.Shelf.Unicode.CaseLookup
import Derived.Shelf.Unicode.CaseConvert
import Derived.Shelf.Unicode.CaseTo
import Derived.Shelf.Unicode.CaseLaid
import Derived.Shelf.Unicode.Is16Any
import Derived.Shelf.Unicode.Is32Any
import Derived.Shelf.Unicode.ExclAny
import Derived.Shelf.Unicode.PredsAny
import Derived.Ground.Names2Prog
import Derived.Shelf.Slices.SearchI
import Derived.Ground.SlgnProg
import Derived.Shelf.SlicesE.Clone
import Derived.Ground.SlgmProg
import Derived.Ground.SlsfProg
import Derived.Shelf.SlSortCmp.NoneTotal
import Derived.Shelf.SortM.Plain
import Derived.Shelf.SortM.SortNone
import Derived.Test.YtbbpedjbfgcdoaaGreatDoorProg
import Derived.Test.YtbbpedjbfgcdoaaGreatDoorP6
import Derived.WalkKit
import Derived.BigCall
import Derived.Lib.Hide
set_option linter.unusedSimpArgs false
set_option linter.unusedSectionVars false

/-
  DERIVED: THE SHELF's CONTRACTS AT THIS DUMP, IN PLAIN WORDS (tools/lay-plain.mjs out of 'TryzShelf.lean', which tools/lay-shelf.mjs wrote): THE SAME DECLARATIONS UNDER THE SAME NAMES: 'import', 'namespace', 'open', 'def', 'theorem' AND NOTHING ELSE: no command of the shelf's: FOR A HAND-IN. Each laying: the table of numbers ('.._ren') and one theorem, a field a fact of the dump's own or the kernel's comparison; each contract: ONE APPLICATION.
-/
namespace Go.Proofs
open Go.Shelf
def Tryz.lays169_ren : Go.Shelf.Ren := ⟨fun | 169 => 115 | n => n, fun | 70 => 138 | 9 => 9 | 0 => 0 | 72 => 141 | 37 => 139 | 127 => 221 | 3 => 3 | 5 => 5 | n => n, fun | n => n⟩
theorem Tryz.lays169 : Go.Proofs.Lays.n169 Tryz.prog Tryz.lays169_ren := {
  mixed := by kernel_rfl
  f169 := Tryz.func115.trans (congrArg some (by kernel_rfl))
  t0 := Tryz.underlying0
  a0 := Tryz.isAgg0
  z0 := Tryz.sizeOf0
  v0 := Tryz.zeroValue0
  t3 := Tryz.underlying3
  a3 := Tryz.isAgg3
  z3 := Tryz.sizeOf3
  v3 := Tryz.zeroValue3
  t9 := Tryz.underlying9
  a9 := Tryz.isAgg9
  z9 := Tryz.sizeOf9
  v9 := Tryz.zeroValue9
  t37 := Tryz.underlying139
  a37 := Tryz.isAgg139
  z37 := Tryz.sizeOf139
  v37 := Tryz.zeroValue139
  t70 := Tryz.underlying138
  a70 := Tryz.isAgg138
  z70 := Tryz.sizeOf138
  v70 := Tryz.zeroValue138
  t72 := Tryz.underlying141
  a72 := Tryz.isAgg141
  z72 := Tryz.sizeOf141
  v72 := Tryz.zeroValue141
  t127 := Tryz.underlying221
  a127 := Tryz.isAgg221
  z127 := Tryz.sizeOf221
  v127 := Tryz.zeroValue221 }
theorem Tryz.Builder_Extra_169 : Builder.Extra Tryz.prog Tryz.lays169_ren := {
  sizeBuilder := by kernel_rfl
  liesBuilder := by kernel_rfl
  t5 := Tryz.underlying5
  a5 := Tryz.isAgg5
  z5 := Tryz.sizeOf5
  v5 := Tryz.zeroValue5
  infoByte := by kernel_rfl
  cellsByte := by kernel_rfl
  sizeByte := by kernel_rfl
  neB5 := by decide }
open Go.RowKit in
/-- (*strings.Builder).String: "String returns the accumulated string.": WHATEVER THE BUILDER HOLDS; THE FORM '_k': OVER 'Lib.IsBuilderF' (a builder that 'String()' may have read), AND WITH THE FRAME THAT REACHES ABOVE THE BUILDER: 'Lib.OthersKept': every block that is not b and is no row of uint8's stands as it stood: the iterator of a range among them. (LAID: no walk: one application.) -/
theorem Tryz.Builder_String_any_k (B b : Nat) (l : List UInt8) (w : World) (h : Lib.IsBuilderF 141 5 B b (Lib.byteCells l) w) (hBw : B ≤ w.heap.size) :
    Calls Tryz.prog 115 #[.pointer (some ⟨b, 0, none⟩)] w fun e w' => e = .returned (.string ⟨l.toArray⟩) ∧ (Lib.IsBuilderF 141 5 B b (Lib.byteCells l) w' ∧ Below B w w' ∧ Lib.OthersKept 5 (some b) w w') := Any.Builder_String_any_k Tryz.lays169 Tryz.Builder_Extra_169 B b l w h hBw
def Tryz.lays99_ren : Go.Shelf.Ren := ⟨fun | 99 => 120 | 206 => 138 | n => n, fun | 9 => 9 | 4 => 4 | 3 => 3 | n => n, fun | n => n⟩
theorem Tryz.lays99 : Go.Proofs.Lays.n99 Tryz.prog Tryz.lays99_ren := {
  mixed := by kernel_rfl
  f99 := Tryz.func120.trans (congrArg some (by kernel_rfl))
  f206 := Tryz.func138.trans (congrArg some (by kernel_rfl))
  t3 := Tryz.underlying3
  a3 := Tryz.isAgg3
  z3 := Tryz.sizeOf3
  v3 := Tryz.zeroValue3
  t4 := Tryz.underlying4
  a4 := Tryz.isAgg4
  z4 := Tryz.sizeOf4
  v4 := Tryz.zeroValue4
  t9 := Tryz.underlying9
  a9 := Tryz.isAgg9
  z9 := Tryz.sizeOf9
  v9 := Tryz.zeroValue9 }
open Go.RowKit Go.Lib in
/-- strings.HasPrefix: "HasPrefix reports whether the string s begins with prefix.": IT RETURNS 'Lib.hasPrefix s prefix'; the world is as it was. (LAID: no walk: one application.) -/
theorem Tryz.strings_HasPrefix (s p : ByteArray) (w : World) :
    Calls Tryz.prog 120 #[.string s, .string p] w fun e w' => e = .returned (.bool (Lib.hasPrefix s.data.toList p.data.toList)) ∧ w' = w := Any.strings_HasPrefix Tryz.lays99 s p w
def Tryz.lays198_ren : Go.Shelf.Ren := ⟨fun | 198 => 137 | 261 => 159 | 311 => 171 | 312 => 172 | n => n, fun | 21 => 21 | 4 => 4 | 141 => 241 | 0 => 0 | 196 => 258 | 193 => 255 | 3 => 3 | 51 => 54 | 198 => 260 | 49 => 87 | 194 => 256 | 201 => 263 | 226 => 280 | 46 => 132 | 227 => 281 | n => n, fun | 5 => 2 | n => n⟩
theorem Tryz.lays198 : Go.Proofs.Lays.n198 Tryz.prog Tryz.lays198_ren := {
  mixed := by kernel_rfl
  f198 := Tryz.func137.trans (congrArg some (by kernel_rfl))
  f261 := Tryz.func159.trans (congrArg some (by kernel_rfl))
  f311 := Tryz.func171.trans (congrArg some (by kernel_rfl))
  f312 := Tryz.func172.trans (congrArg some (by kernel_rfl))
  t0 := Tryz.underlying0
  a0 := Tryz.isAgg0
  z0 := Tryz.sizeOf0
  v0 := Tryz.zeroValue0
  t3 := Tryz.underlying3
  a3 := Tryz.isAgg3
  z3 := Tryz.sizeOf3
  v3 := Tryz.zeroValue3
  t4 := Tryz.underlying4
  a4 := Tryz.isAgg4
  z4 := Tryz.sizeOf4
  v4 := Tryz.zeroValue4
  t21 := Tryz.underlying21
  a21 := Tryz.isAgg21
  z21 := Tryz.sizeOf21
  v21 := Tryz.zeroValue21
  t46 := Tryz.underlying132
  a46 := Tryz.isAgg132
  z46 := Tryz.sizeOf132
  v46 := Tryz.zeroValue132
  t49 := Tryz.underlying87
  a49 := Tryz.isAgg87
  z49 := Tryz.sizeOf87
  v49 := Tryz.zeroValue87
  t51 := Tryz.underlying54
  a51 := Tryz.isAgg54
  z51 := Tryz.sizeOf54
  v51 := Tryz.zeroValue54
  t141 := Tryz.underlying241
  a141 := Tryz.isAgg241
  z141 := Tryz.sizeOf241
  v141 := Tryz.zeroValue241
  t193 := Tryz.underlying255
  a193 := Tryz.isAgg255
  z193 := Tryz.sizeOf255
  v193 := Tryz.zeroValue255
  t194 := Tryz.underlying256
  a194 := Tryz.isAgg256
  z194 := Tryz.sizeOf256
  v194 := Tryz.zeroValue256
  t196 := Tryz.underlying258
  a196 := Tryz.isAgg258
  z196 := Tryz.sizeOf258
  v196 := Tryz.zeroValue258
  t198 := Tryz.underlying260
  a198 := Tryz.isAgg260
  z198 := Tryz.sizeOf260
  v198 := Tryz.zeroValue260
  t201 := Tryz.underlying263
  a201 := Tryz.isAgg263
  z201 := Tryz.sizeOf263
  v201 := Tryz.zeroValue263
  t226 := Tryz.underlying280
  a226 := Tryz.isAgg280
  z226 := Tryz.sizeOf280
  v226 := Tryz.zeroValue280
  t227 := Tryz.underlying281
  a227 := Tryz.isAgg281
  z227 := Tryz.sizeOf281
  v227 := Tryz.zeroValue281
  g5 := by kernel_rfl }
def Tryz.lays204_ren : Go.Shelf.Ren := ⟨fun | 204 => 128 | 262 => 146 | 313 => 165 | 274 => 191 | 275 => 192 | n => n, fun | 21 => 21 | 4 => 4 | 3 => 3 | 162 => 248 | 203 => 246 | 160 => 275 | 46 => 132 | 0 => 0 | 208 => 289 | 51 => 54 | 206 => 287 | n => n, fun | 13 => 3 | n => n⟩
theorem Tryz.lays204 : Go.Proofs.Lays.n204 Tryz.prog Tryz.lays204_ren := {
  mixed := by kernel_rfl
  f204 := Tryz.func128.trans (congrArg some (by kernel_rfl))
  f262 := Tryz.func146.trans (congrArg some (by kernel_rfl))
  f274 := Tryz.func191.trans (congrArg some (by kernel_rfl))
  f275 := Tryz.func192.trans (congrArg some (by kernel_rfl))
  f313 := Tryz.func165.trans (congrArg some (by kernel_rfl))
  t0 := Tryz.underlying0
  a0 := Tryz.isAgg0
  z0 := Tryz.sizeOf0
  v0 := Tryz.zeroValue0
  t3 := Tryz.underlying3
  a3 := Tryz.isAgg3
  z3 := Tryz.sizeOf3
  v3 := Tryz.zeroValue3
  t4 := Tryz.underlying4
  a4 := Tryz.isAgg4
  z4 := Tryz.sizeOf4
  v4 := Tryz.zeroValue4
  t21 := Tryz.underlying21
  a21 := Tryz.isAgg21
  z21 := Tryz.sizeOf21
  v21 := Tryz.zeroValue21
  t46 := Tryz.underlying132
  a46 := Tryz.isAgg132
  z46 := Tryz.sizeOf132
  v46 := Tryz.zeroValue132
  t51 := Tryz.underlying54
  a51 := Tryz.isAgg54
  z51 := Tryz.sizeOf54
  v51 := Tryz.zeroValue54
  t160 := Tryz.underlying275
  a160 := Tryz.isAgg275
  z160 := Tryz.sizeOf275
  v160 := Tryz.zeroValue275
  t162 := Tryz.underlying248
  a162 := Tryz.isAgg248
  z162 := Tryz.sizeOf248
  v162 := Tryz.zeroValue248
  t203 := Tryz.underlying246
  a203 := Tryz.isAgg246
  z203 := Tryz.sizeOf246
  v203 := Tryz.zeroValue246
  t206 := Tryz.underlying287
  a206 := Tryz.isAgg287
  z206 := Tryz.sizeOf287
  v206 := Tryz.zeroValue287
  t208 := Tryz.underlying289
  a208 := Tryz.isAgg289
  z208 := Tryz.sizeOf289
  v208 := Tryz.zeroValue289
  g13 := by kernel_rfl }
def Tryz.lays200_ren : Go.Shelf.Ren := ⟨fun | 200 => 136 | 261 => 159 | 311 => 171 | 312 => 172 | n => n, fun | 21 => 21 | 4 => 4 | 51 => 54 | 5 => 5 | 119 => 239 | 0 => 0 | 141 => 241 | 196 => 258 | 193 => 255 | 3 => 3 | 198 => 260 | 49 => 87 | 194 => 256 | 201 => 263 | 226 => 280 | 46 => 132 | 227 => 281 | n => n, fun | 7 => 0 | 8 => 1 | n => n⟩
theorem Tryz.lays200 : Go.Proofs.Lays.n200 Tryz.prog Tryz.lays200_ren := {
  mixed := by kernel_rfl
  f200 := Tryz.func136.trans (congrArg some (by kernel_rfl))
  f261 := Tryz.func159.trans (congrArg some (by kernel_rfl))
  f311 := Tryz.func171.trans (congrArg some (by kernel_rfl))
  f312 := Tryz.func172.trans (congrArg some (by kernel_rfl))
  t0 := Tryz.underlying0
  a0 := Tryz.isAgg0
  z0 := Tryz.sizeOf0
  v0 := Tryz.zeroValue0
  t3 := Tryz.underlying3
  a3 := Tryz.isAgg3
  z3 := Tryz.sizeOf3
  v3 := Tryz.zeroValue3
  t4 := Tryz.underlying4
  a4 := Tryz.isAgg4
  z4 := Tryz.sizeOf4
  v4 := Tryz.zeroValue4
  t5 := Tryz.underlying5
  a5 := Tryz.isAgg5
  z5 := Tryz.sizeOf5
  v5 := Tryz.zeroValue5
  t21 := Tryz.underlying21
  a21 := Tryz.isAgg21
  z21 := Tryz.sizeOf21
  v21 := Tryz.zeroValue21
  t46 := Tryz.underlying132
  a46 := Tryz.isAgg132
  z46 := Tryz.sizeOf132
  v46 := Tryz.zeroValue132
  t49 := Tryz.underlying87
  a49 := Tryz.isAgg87
  z49 := Tryz.sizeOf87
  v49 := Tryz.zeroValue87
  t51 := Tryz.underlying54
  a51 := Tryz.isAgg54
  z51 := Tryz.sizeOf54
  v51 := Tryz.zeroValue54
  t119 := Tryz.underlying239
  a119 := Tryz.isAgg239
  z119 := Tryz.sizeOf239
  t141 := Tryz.underlying241
  a141 := Tryz.isAgg241
  z141 := Tryz.sizeOf241
  v141 := Tryz.zeroValue241
  t193 := Tryz.underlying255
  a193 := Tryz.isAgg255
  z193 := Tryz.sizeOf255
  v193 := Tryz.zeroValue255
  t194 := Tryz.underlying256
  a194 := Tryz.isAgg256
  z194 := Tryz.sizeOf256
  v194 := Tryz.zeroValue256
  t196 := Tryz.underlying258
  a196 := Tryz.isAgg258
  z196 := Tryz.sizeOf258
  v196 := Tryz.zeroValue258
  t198 := Tryz.underlying260
  a198 := Tryz.isAgg260
  z198 := Tryz.sizeOf260
  v198 := Tryz.zeroValue260
  t201 := Tryz.underlying263
  a201 := Tryz.isAgg263
  z201 := Tryz.sizeOf263
  v201 := Tryz.zeroValue263
  t226 := Tryz.underlying280
  a226 := Tryz.isAgg280
  z226 := Tryz.sizeOf280
  v226 := Tryz.zeroValue280
  t227 := Tryz.underlying281
  a227 := Tryz.isAgg281
  z227 := Tryz.sizeOf281
  v227 := Tryz.zeroValue281
  g7 := by kernel_rfl
  g8 := by kernel_rfl }
open Go.RowKit Go.Lib in
theorem Tryz.unicode_ToLower_laid (r : Int) (w : World) (hV : CaseVar 3 caseA w) :
    Calls Tryz.prog 128 #[.int .i32 r] w fun e w' => e = .returned (.int .i32 (toLowerU r)) ∧ ∃ q, w' = w.drewN q := Any.unicode_ToLower_laid Tryz.lays204 r w hV
open Go.RowKit Go.Lib in
/-- unicode.IsLetter(r) AT EVERY int32, over whatever table the variable unicode.Letter leads to. (LAID: no walk: one application.) -/
theorem Tryz.unicode_IsLetter_any (T : RTab) (r : Int) (w : World) (hlo : -2147483648 ≤ r) (hhi : r ≤ 2147483647) (htab : Lib.TabIs Tryz.prog w "unicode.properties" .u8 Lib.propertiesTab) (hV : RVar 1 T w) (hok : RTabOk T) :
    Calls Tryz.prog 136 #[.int .i32 r] w fun e w' => e = .returned (.bool (if latin1 r then isLetterL r else exclGo T r)) ∧ Below w.heap.size w w' := Any.unicode_IsLetter_any Tryz.lays200 (by kernel_rfl) T r w hlo hhi htab hV hok
open Go.RowKit Go.Lib in
/-- unicode.IsDigit(r) AT EVERY int32, over whatever table the variable unicode.Digit leads to. (LAID: no walk: one application.) -/
theorem Tryz.unicode_IsDigit_any (T : RTab) (r : Int) (w : World) (hlo : -2147483648 ≤ r) (hhi : r ≤ 2147483647) (hV : RVar 2 T w) (hok : RTabOk T) :
    Calls Tryz.prog 137 #[.int .i32 r] w fun e w' => e = .returned (.bool (if r ≤ 255 then isDigitL r else exclGo T r)) ∧ Below w.heap.size w w' := Any.unicode_IsDigit_any Tryz.lays198 T r w hlo hhi hV hok
def Tryz.laysSlM5_f140_ren : Go.Shelf.Ren := ⟨fun | 5 => 140 | 8 => 131 | 7 => 161 | 19 => 155 | 20 => 156 | 10 => 173 | 11 => 174 | 12 => 175 | 13 => 176 | 14 => 177 | 15 => 178 | 16 => 179 | 17 => 180 | 18 => 181 | 30 => 194 | 31 => 167 | 32 => 168 | 33 => 195 | 34 => 196 | 35 => 94 | 40 => 201 | n => n, fun | 23 => 39 | 25 => 3 | 3 => 3 | 32 => 132 | 22 => 39 | 0 => 0 | 44 => 54 | 46 => 186 | 4 => 4 | 36 => 229 | 35 => 228 | 41 => 233 | 5 => 5 | 9 => 9 | 53 => 249 | 57 => 253 | 63 => 278 | 64 => 179 | n => n, fun | n => n⟩
theorem Tryz.laysSlM5_f140 : Go.Proofs.SlLaysM.n5 Tryz.prog Tryz.laysSlM5_f140_ren := {
  mixed := by kernel_rfl
  f5 := ⟨Tryz.f140.name, by decide, Tryz.func140.trans (congrArg some (by kernel_rfl))⟩
  f7 := ⟨Tryz.f161.name, by decide, Tryz.func161.trans (congrArg some (by kernel_rfl))⟩
  f8 := Tryz.func131.trans (congrArg some (by kernel_rfl))
  f10 := ⟨Tryz.f173.name, by decide, Tryz.func173.trans (congrArg some (by kernel_rfl))⟩
  f11 := ⟨Tryz.f174.name, by decide, Tryz.func174.trans (congrArg some (by kernel_rfl))⟩
  f12 := ⟨Tryz.f175.name, by decide, Tryz.func175.trans (congrArg some (by kernel_rfl))⟩
  f13 := ⟨Tryz.f176.name, by decide, Tryz.func176.trans (congrArg some (by kernel_rfl))⟩
  f14 := ⟨Tryz.f177.name, by decide, Tryz.func177.trans (congrArg some (by kernel_rfl))⟩
  f15 := ⟨Tryz.f178.name, by decide, Tryz.func178.trans (congrArg some (by kernel_rfl))⟩
  f16 := ⟨Tryz.f179.name, by decide, Tryz.func179.trans (congrArg some (by kernel_rfl))⟩
  f17 := ⟨Tryz.f180.name, by decide, Tryz.func180.trans (congrArg some (by kernel_rfl))⟩
  f18 := ⟨Tryz.f181.name, by decide, Tryz.func181.trans (congrArg some (by kernel_rfl))⟩
  f19 := Tryz.func155.trans (congrArg some (by kernel_rfl))
  f20 := Tryz.func156.trans (congrArg some (by kernel_rfl))
  f30 := ⟨Tryz.f194.name, by decide, Tryz.func194.trans (congrArg some (by kernel_rfl))⟩
  f31 := Tryz.func167.trans (congrArg some (by kernel_rfl))
  f32 := Tryz.func168.trans (congrArg some (by kernel_rfl))
  f33 := ⟨Tryz.f195.name, by decide, Tryz.func195.trans (congrArg some (by kernel_rfl))⟩
  f34 := ⟨Tryz.f196.name, by decide, Tryz.func196.trans (congrArg some (by kernel_rfl))⟩
  f35 := ⟨Tryz.f94.name, by decide, Tryz.func94.trans (congrArg some (by kernel_rfl))⟩
  f40 := ⟨Tryz.f201.name, by decide, Tryz.func201.trans (congrArg some (by kernel_rfl))⟩
  t0 := Tryz.underlying0
  a0 := Tryz.isAgg0
  z0 := Tryz.sizeOf0
  v0 := Tryz.zeroValue0
  t3 := Tryz.underlying3
  a3 := Tryz.isAgg3
  z3 := Tryz.sizeOf3
  v3 := Tryz.zeroValue3
  t4 := Tryz.underlying4
  a4 := Tryz.isAgg4
  z4 := Tryz.sizeOf4
  v4 := Tryz.zeroValue4
  t5 := Tryz.underlying5
  a5 := Tryz.isAgg5
  z5 := Tryz.sizeOf5
  v5 := Tryz.zeroValue5
  t9 := Tryz.underlying9
  a9 := Tryz.isAgg9
  z9 := Tryz.sizeOf9
  v9 := Tryz.zeroValue9
  t22 := Tryz.underlying39
  a22 := Tryz.isAgg39
  z22 := Tryz.sizeOf39
  v22 := Tryz.zeroValue39
  t23 := Tryz.underlying39
  a23 := Tryz.isAgg39
  z23 := Tryz.sizeOf39
  v23 := Tryz.zeroValue39
  t25 := Tryz.underlying3
  a25 := Tryz.isAgg3
  z25 := Tryz.sizeOf3
  v25 := Tryz.zeroValue3
  t32 := Tryz.underlying132
  a32 := Tryz.isAgg132
  z32 := Tryz.sizeOf132
  v32 := Tryz.zeroValue132
  t35 := Tryz.underlying228
  a35 := Tryz.isAgg228
  z35 := Tryz.sizeOf228
  v35 := Tryz.zeroValue228
  t36 := Tryz.underlying229
  a36 := Tryz.isAgg229
  z36 := Tryz.sizeOf229
  v36 := Tryz.zeroValue229
  t41 := Tryz.underlying233
  a41 := Tryz.isAgg233
  z41 := Tryz.sizeOf233
  v41 := Tryz.zeroValue233
  t44 := Tryz.underlying54
  a44 := Tryz.isAgg54
  z44 := Tryz.sizeOf54
  v44 := Tryz.zeroValue54
  t46 := Tryz.underlying186
  a46 := Tryz.isAgg186
  z46 := Tryz.sizeOf186
  v46 := Tryz.zeroValue186
  t53 := Tryz.underlying249
  a53 := Tryz.isAgg249
  z53 := Tryz.sizeOf249
  v53 := Tryz.zeroValue249
  t57 := Tryz.underlying253
  a57 := Tryz.isAgg253
  z57 := Tryz.sizeOf253
  v57 := Tryz.zeroValue253
  t63 := Tryz.underlying278
  a63 := Tryz.isAgg278
  z63 := Tryz.sizeOf278
  v63 := Tryz.zeroValue278
  t64 := Tryz.underlying179
  a64 := Tryz.isAgg179
  z64 := Tryz.sizeOf179
  v64 := Tryz.zeroValue179 }
open Go.Sort Go.RowKit in
theorem Tryz.slices_Sort_int (blk off cap : Nat) (zs : List Int) (w : World) (hH : Holds (Value.int .i64) w blk off zs.toArray) (hblk : blk < w.heap.size) (hsz : zs.length < 4611686018427387904) :
    Calls Tryz.prog 140 #[.slice (some ⟨blk, off, none⟩) zs.length cap] w fun e w' =>
      e = .returned (.tuple #[]) ∧ ∃ n os, w' = grow (putRow (Value.int .i64) (Sort.ahead w n) blk off (zs.mergeSort fun x y => decide (x ≤ y)).toArray) os := AnyM.slices_Sort_int Tryz.laysSlM5_f140 blk off cap zs w hH hblk hsz
def Tryz.laysSlM6_f143_ren : Go.Shelf.Ren := ⟨fun | 6 => 143 | 8 => 131 | 9 => 163 | 19 => 155 | 20 => 156 | 21 => 182 | 22 => 183 | 23 => 184 | 24 => 185 | 25 => 186 | 26 => 187 | 27 => 188 | 28 => 189 | 29 => 190 | 36 => 197 | 31 => 167 | 32 => 168 | 37 => 198 | 38 => 199 | 39 => 200 | 41 => 202 | n => n, fun | 27 => 163 | 29 => 9 | 3 => 3 | 32 => 132 | 26 => 163 | 0 => 0 | 44 => 54 | 46 => 186 | 4 => 4 | 36 => 229 | 35 => 228 | 41 => 233 | 5 => 5 | 9 => 9 | 53 => 249 | 57 => 253 | 63 => 278 | 64 => 179 | n => n, fun | n => n⟩
theorem Tryz.laysSlM6_f143 : Go.Proofs.SlLaysM.n6 Tryz.prog Tryz.laysSlM6_f143_ren := {
  mixed := by kernel_rfl
  f6 := ⟨Tryz.f143.name, by decide, Tryz.func143.trans (congrArg some (by kernel_rfl))⟩
  f8 := Tryz.func131.trans (congrArg some (by kernel_rfl))
  f9 := ⟨Tryz.f163.name, by decide, Tryz.func163.trans (congrArg some (by kernel_rfl))⟩
  f19 := Tryz.func155.trans (congrArg some (by kernel_rfl))
  f20 := Tryz.func156.trans (congrArg some (by kernel_rfl))
  f21 := ⟨Tryz.f182.name, by decide, Tryz.func182.trans (congrArg some (by kernel_rfl))⟩
  f22 := ⟨Tryz.f183.name, by decide, Tryz.func183.trans (congrArg some (by kernel_rfl))⟩
  f23 := ⟨Tryz.f184.name, by decide, Tryz.func184.trans (congrArg some (by kernel_rfl))⟩
  f24 := ⟨Tryz.f185.name, by decide, Tryz.func185.trans (congrArg some (by kernel_rfl))⟩
  f25 := ⟨Tryz.f186.name, by decide, Tryz.func186.trans (congrArg some (by kernel_rfl))⟩
  f26 := ⟨Tryz.f187.name, by decide, Tryz.func187.trans (congrArg some (by kernel_rfl))⟩
  f27 := ⟨Tryz.f188.name, by decide, Tryz.func188.trans (congrArg some (by kernel_rfl))⟩
  f28 := ⟨Tryz.f189.name, by decide, Tryz.func189.trans (congrArg some (by kernel_rfl))⟩
  f29 := ⟨Tryz.f190.name, by decide, Tryz.func190.trans (congrArg some (by kernel_rfl))⟩
  f31 := Tryz.func167.trans (congrArg some (by kernel_rfl))
  f32 := Tryz.func168.trans (congrArg some (by kernel_rfl))
  f36 := ⟨Tryz.f197.name, by decide, Tryz.func197.trans (congrArg some (by kernel_rfl))⟩
  f37 := ⟨Tryz.f198.name, by decide, Tryz.func198.trans (congrArg some (by kernel_rfl))⟩
  f38 := ⟨Tryz.f199.name, by decide, Tryz.func199.trans (congrArg some (by kernel_rfl))⟩
  f39 := ⟨Tryz.f200.name, by decide, Tryz.func200.trans (congrArg some (by kernel_rfl))⟩
  f41 := ⟨Tryz.f202.name, by decide, Tryz.func202.trans (congrArg some (by kernel_rfl))⟩
  t0 := Tryz.underlying0
  a0 := Tryz.isAgg0
  z0 := Tryz.sizeOf0
  v0 := Tryz.zeroValue0
  t3 := Tryz.underlying3
  a3 := Tryz.isAgg3
  z3 := Tryz.sizeOf3
  v3 := Tryz.zeroValue3
  t4 := Tryz.underlying4
  a4 := Tryz.isAgg4
  z4 := Tryz.sizeOf4
  v4 := Tryz.zeroValue4
  t5 := Tryz.underlying5
  a5 := Tryz.isAgg5
  z5 := Tryz.sizeOf5
  v5 := Tryz.zeroValue5
  t9 := Tryz.underlying9
  a9 := Tryz.isAgg9
  z9 := Tryz.sizeOf9
  v9 := Tryz.zeroValue9
  t26 := Tryz.underlying163
  a26 := Tryz.isAgg163
  z26 := Tryz.sizeOf163
  v26 := Tryz.zeroValue163
  t27 := Tryz.underlying163
  a27 := Tryz.isAgg163
  z27 := Tryz.sizeOf163
  v27 := Tryz.zeroValue163
  t29 := Tryz.underlying9
  a29 := Tryz.isAgg9
  z29 := Tryz.sizeOf9
  v29 := Tryz.zeroValue9
  t32 := Tryz.underlying132
  a32 := Tryz.isAgg132
  z32 := Tryz.sizeOf132
  v32 := Tryz.zeroValue132
  t35 := Tryz.underlying228
  a35 := Tryz.isAgg228
  z35 := Tryz.sizeOf228
  v35 := Tryz.zeroValue228
  t36 := Tryz.underlying229
  a36 := Tryz.isAgg229
  z36 := Tryz.sizeOf229
  v36 := Tryz.zeroValue229
  t41 := Tryz.underlying233
  a41 := Tryz.isAgg233
  z41 := Tryz.sizeOf233
  v41 := Tryz.zeroValue233
  t44 := Tryz.underlying54
  a44 := Tryz.isAgg54
  z44 := Tryz.sizeOf54
  v44 := Tryz.zeroValue54
  t46 := Tryz.underlying186
  a46 := Tryz.isAgg186
  z46 := Tryz.sizeOf186
  v46 := Tryz.zeroValue186
  t53 := Tryz.underlying249
  a53 := Tryz.isAgg249
  z53 := Tryz.sizeOf249
  v53 := Tryz.zeroValue249
  t57 := Tryz.underlying253
  a57 := Tryz.isAgg253
  z57 := Tryz.sizeOf253
  v57 := Tryz.zeroValue253
  t63 := Tryz.underlying278
  a63 := Tryz.isAgg278
  z63 := Tryz.sizeOf278
  v63 := Tryz.zeroValue278
  t64 := Tryz.underlying179
  a64 := Tryz.isAgg179
  z64 := Tryz.sizeOf179
  v64 := Tryz.zeroValue179 }
open Go.Sort Go.RowKit in
theorem Tryz.slices_Sort_string (blk off cap : Nat) (ss : List (List UInt8)) (w : World) (hH : Holds encStr w blk off ss.toArray) (hblk : blk < w.heap.size) (hsz : ss.length < 4611686018427387904) :
    Calls Tryz.prog 143 #[.slice (some ⟨blk, off, none⟩) ss.length cap] w fun e w' =>
      e = .returned (.tuple #[]) ∧ ∃ n os, w' = grow (putRow encStr (Sort.ahead w n) blk off (ss.mergeSort fun x y => decide (x ≤ y)).toArray) os := AnyM.slices_Sort_string Tryz.laysSlM6_f143 blk off cap ss w hH hblk hsz
open Go.RowKit Go.Sort in
/-- .. and plain. (LAID AT THE INSTANCE 'slices.Sort[[]string,string]': no walk: one application.) -/
theorem Tryz.slices_Sort_string_none (p : Option Addr) (cap : Nat) (w : World) :
    Calls Tryz.prog 143 #[.slice p 0 cap] w fun e w' => e = .returned (.tuple #[]) ∧ w' = w := AnyM.slices_Sort_string_none Tryz.laysSlM6_f143 p cap w
open Go.RowKit Go.Sort in
/-- .. and plain. (LAID AT THE INSTANCE 'slices.Sort[[]int,int]': no walk: one application.) -/
theorem Tryz.slices_Sort_int_none (p : Option Addr) (cap : Nat) (w : World) :
    Calls Tryz.prog 140 #[.slice p 0 cap] w fun e w' => e = .returned (.tuple #[]) ∧ w' = w := AnyM.slices_Sort_int_none Tryz.laysSlM5_f140 p cap w
def Tryz.laysSlF06_f92_ren : Go.Shelf.Ren := ⟨fun | 6 => 92 | 15 => 131 | 14 => 130 | 28 => 155 | 29 => 156 | 20 => 147 | 21 => 148 | 22 => 149 | 23 => 150 | 24 => 151 | 25 => 152 | 26 => 153 | 27 => 154 | 46 => 166 | 47 => 167 | 48 => 168 | 49 => 169 | 50 => 170 | 57 => 193 | n => n, fun | 22 => 48 | 24 => 51 | 25 => 115 | 3 => 3 | 39 => 132 | 0 => 0 | 53 => 54 | 55 => 186 | 4 => 4 | 46 => 229 | 45 => 228 | 50 => 233 | 5 => 5 | 9 => 9 | 66 => 249 | 70 => 253 | 76 => 278 | 77 => 179 | n => n, fun | n => n⟩
theorem Tryz.laysSlF06_f92 : Go.Proofs.SlLaysF0.n6 Tryz.prog Tryz.laysSlF06_f92_ren := {
  mixed := by kernel_rfl
  f6 := ⟨Tryz.f92.name, by decide, Tryz.func92.trans (congrArg some (by kernel_rfl))⟩
  f14 := ⟨Tryz.f130.name, by decide, Tryz.func130.trans (congrArg some (by kernel_rfl))⟩
  f15 := Tryz.func131.trans (congrArg some (by kernel_rfl))
  f20 := ⟨Tryz.f147.name, by decide, Tryz.func147.trans (congrArg some (by kernel_rfl))⟩
  f21 := ⟨Tryz.f148.name, by decide, Tryz.func148.trans (congrArg some (by kernel_rfl))⟩
  f22 := ⟨Tryz.f149.name, by decide, Tryz.func149.trans (congrArg some (by kernel_rfl))⟩
  f23 := ⟨Tryz.f150.name, by decide, Tryz.func150.trans (congrArg some (by kernel_rfl))⟩
  f24 := ⟨Tryz.f151.name, by decide, Tryz.func151.trans (congrArg some (by kernel_rfl))⟩
  f25 := ⟨Tryz.f152.name, by decide, Tryz.func152.trans (congrArg some (by kernel_rfl))⟩
  f26 := ⟨Tryz.f153.name, by decide, Tryz.func153.trans (congrArg some (by kernel_rfl))⟩
  f27 := ⟨Tryz.f154.name, by decide, Tryz.func154.trans (congrArg some (by kernel_rfl))⟩
  f28 := Tryz.func155.trans (congrArg some (by kernel_rfl))
  f29 := Tryz.func156.trans (congrArg some (by kernel_rfl))
  f46 := ⟨Tryz.f166.name, by decide, Tryz.func166.trans (congrArg some (by kernel_rfl))⟩
  f47 := Tryz.func167.trans (congrArg some (by kernel_rfl))
  f48 := Tryz.func168.trans (congrArg some (by kernel_rfl))
  f49 := ⟨Tryz.f169.name, by decide, Tryz.func169.trans (congrArg some (by kernel_rfl))⟩
  f50 := ⟨Tryz.f170.name, by decide, Tryz.func170.trans (congrArg some (by kernel_rfl))⟩
  f57 := ⟨Tryz.f193.name, by decide, Tryz.func193.trans (congrArg some (by kernel_rfl))⟩
  t0 := Tryz.underlying0
  a0 := Tryz.isAgg0
  z0 := Tryz.sizeOf0
  v0 := Tryz.zeroValue0
  t3 := Tryz.underlying3
  a3 := Tryz.isAgg3
  z3 := Tryz.sizeOf3
  v3 := Tryz.zeroValue3
  t4 := Tryz.underlying4
  a4 := Tryz.isAgg4
  z4 := Tryz.sizeOf4
  v4 := Tryz.zeroValue4
  t5 := Tryz.underlying5
  a5 := Tryz.isAgg5
  z5 := Tryz.sizeOf5
  v5 := Tryz.zeroValue5
  t9 := Tryz.underlying9
  a9 := Tryz.isAgg9
  z9 := Tryz.sizeOf9
  v9 := Tryz.zeroValue9
  t22 := Tryz.underlying48
  a22 := Tryz.isAgg48
  z22 := Tryz.sizeOf48
  v22 := Tryz.zeroValue48
  t25 := Tryz.underlying115
  a25 := Tryz.isAgg115
  z25 := Tryz.sizeOf115
  v25 := Tryz.zeroValue115
  t39 := Tryz.underlying132
  a39 := Tryz.isAgg132
  z39 := Tryz.sizeOf132
  v39 := Tryz.zeroValue132
  t45 := Tryz.underlying228
  a45 := Tryz.isAgg228
  z45 := Tryz.sizeOf228
  v45 := Tryz.zeroValue228
  t46 := Tryz.underlying229
  a46 := Tryz.isAgg229
  z46 := Tryz.sizeOf229
  v46 := Tryz.zeroValue229
  t50 := Tryz.underlying233
  a50 := Tryz.isAgg233
  z50 := Tryz.sizeOf233
  v50 := Tryz.zeroValue233
  t53 := Tryz.underlying54
  a53 := Tryz.isAgg54
  z53 := Tryz.sizeOf54
  v53 := Tryz.zeroValue54
  t55 := Tryz.underlying186
  a55 := Tryz.isAgg186
  z55 := Tryz.sizeOf186
  v55 := Tryz.zeroValue186
  t66 := Tryz.underlying249
  a66 := Tryz.isAgg249
  z66 := Tryz.sizeOf249
  v66 := Tryz.zeroValue249
  t70 := Tryz.underlying253
  a70 := Tryz.isAgg253
  z70 := Tryz.sizeOf253
  v70 := Tryz.zeroValue253
  t76 := Tryz.underlying278
  a76 := Tryz.isAgg278
  z76 := Tryz.sizeOf278
  v76 := Tryz.zeroValue278
  t77 := Tryz.underlying179
  a77 := Tryz.isAgg179
  z77 := Tryz.sizeOf179
  v77 := Tryz.zeroValue179 }
end Go.Proofs

namespace Go.Abs.X
open Go.Abs Go Go.Proofs Go.Sort Go.RowKit
variable {w0 : World}

/-- A slice of one's own and its block, as the world has them. -/
theorem own_slice {γ : Gl} {s : Wd} {cs : List AV} {e n z : Nat} {vs : Array Value} (sat : Sat γ [some (.cells cs e true)] s) (hl : [AV.sl 0 0 n none z].length = vs.size) (hr : Rels s [.sl 0 0 n none z] vs.toList) :
    ∃ b m c, s.ρ 0 = some b ∧ vs = #[.slice (some ⟨b, 0, none⟩) n m] ∧ s.w.heap[b]? = some (.cells c e (0, 0)) ∧ Rels s cs c.toList := by
  have hv : ∃ v, vs = #[v] := by
    simp only [List.length_singleton] at hl
    exact ⟨vs[0], by apply Array.ext <;> simp [← hl]; intro i hi; subst hi; rfl⟩
  obtain ⟨v, rfl⟩ := hv
  simp only [Rels, Rel] at hr
  obtain ⟨⟨b, m, c0, e0, f0, hρ, rfl, _⟩, _⟩ := hr
  obtain ⟨nb, o, k1, k2, ⟨c, rfl, hrel, _⟩, _⟩ := sat.blk 0 _ rfl
  rw [hρ] at k1; cases k1
  exact ⟨b, m, c, hρ, rfl, k2, hrel⟩

def sortI (ks : List Int) : List Int := ks.mergeSort fun x y => decide (x ≤ y)
def intsD (ks : List Int) : List DV := flatD (fun x => [i64 x]) ks
theorem intsD_plain : ∀ ks, ∀ x ∈ intsD ks, plainD x = true
  | [], x, h => by simp [intsD, flatD] at h
  | k :: r, x, h => by
    simp only [intsD, flatD, List.cons_append, List.nil_append, List.mem_cons] at h
    rcases h with rfl | h
    · rfl
    · exact intsD_plain r x h
theorem intsD_vals : ∀ ks : List Int, (intsD ks).map valD = ks.map (Value.int .i64)
  | [] => rfl
  | k :: r => by
    have := intsD_vals r
    simp only [intsD, flatD, List.cons_append, List.nil_append, List.map_cons] at this ⊢
    rw [this]; rfl
theorem sortInt_ok (ks : List Int) (hl : ks.length ≤ 1000000) (K : AV → Heap → Prop) (hk : K (.dat (.tup [])) [some (.cells ((intsD (sortI ks)).map .dat) 3 true)]) :
    CallA (cx w0) 140 [.sl 0 0 ks.length none 1] [some (.cells ((intsD ks).map .dat) 3 true)] K := by
  constructor
  intro s vs sat hlv hr
  obtain ⟨b, m, c, hρ, rfl, hb, hrel⟩ := own_slice sat hlv hr
  obtain ⟨hH, hsz⟩ := holds_row (s := s) hb (Value.int .i64) ks.toArray (intsD_plain ks) (by rw [intsD_vals]) (rels_dat.1 hrel)
  refine ⟨Tryz.call140 _ _, (Tryz.slices_Sort_int b 0 m ks s.w hH (Array.getElem?_eq_some_iff.1 hb).1 (by omega)).mono ?_⟩
  rintro e w' ⟨rfl, n, os, rfl⟩
  have hlen : (sortI ks).length = ks.length := by simp [sortI]
  obtain ⟨s2, e2⟩ := post_row sat (i := 0) rfl hρ hb (Value.int .i64) (sortI ks).toArray (intsD (sortI ks)) (intsD_plain _) (by rw [intsD_vals]) (by simpa [hlen] using hsz) n os
  exact ⟨_, rfl, .dat (.tup []), _, _, rfl, hk, by simp [Rel, RelD, RelDs], s2, e2⟩

def bytesL (s : ByteArray) : List UInt8 := s.data.toList
def sortS (ks : List ByteArray) : List ByteArray := (((ks.map bytesL).mergeSort fun x y => decide (x ≤ y)).map fun l => ⟨l.toArray⟩)
def strsD (ks : List ByteArray) : List DV := flatD (fun x => [DV.str x]) ks
theorem strsD_plain : ∀ ks, ∀ x ∈ strsD ks, plainD x = true
  | [], x, h => by simp [strsD, flatD] at h
  | k :: r, x, h => by
    simp only [strsD, flatD, List.cons_append, List.nil_append, List.mem_cons] at h
    rcases h with rfl | h
    · rfl
    · exact strsD_plain r x h
theorem strsD_vals : ∀ ks : List ByteArray, (strsD ks).map valD = (ks.map bytesL).map encStr
  | [] => rfl
  | k :: r => by
    have := strsD_vals r
    simp only [strsD, flatD, List.cons_append, List.nil_append, List.map_cons] at this ⊢
    rw [this]; rfl
theorem bytesL_back (l : List UInt8) : bytesL ⟨l.toArray⟩ = l := rfl
theorem sortStr_ok (ks : List ByteArray) (hl : ks.length ≤ 1000000) (K : AV → Heap → Prop) (hk : K (.dat (.tup [])) [some (.cells ((strsD (sortS ks)).map .dat) 9 true)]) :
    CallA (cx w0) 143 [.sl 0 0 ks.length none 1] [some (.cells ((strsD ks).map .dat) 9 true)] K := by
  constructor
  intro s vs sat hlv hr
  obtain ⟨b, m, c, hρ, rfl, hb, hrel⟩ := own_slice sat hlv hr
  obtain ⟨hH, hsz⟩ := holds_row (s := s) hb encStr (ks.map bytesL).toArray (strsD_plain ks) (by rw [strsD_vals]) (rels_dat.1 hrel)
  have hL : (ks.map bytesL).length = ks.length := by simp
  refine ⟨Tryz.call143 _ _, ?_⟩
  have := Tryz.slices_Sort_string b 0 m (ks.map bytesL) s.w hH (Array.getElem?_eq_some_iff.1 hb).1 (by rw [hL]; omega)
  rw [hL] at this
  refine this.mono ?_
  rintro e w' ⟨rfl, n, os, rfl⟩
  have hmap : (sortS ks).map bytesL = (ks.map bytesL).mergeSort fun x y => decide (x ≤ y) := by
    unfold sortS
    rw [List.map_map]
    exact List.map_id _
  have hlen : (sortS ks).length = ks.length := by simp [sortS]
  obtain ⟨s2, e2⟩ := post_row sat (i := 0) rfl hρ hb encStr ((sortS ks).map bytesL).toArray (strsD (sortS ks)) (strsD_plain _) (by rw [strsD_vals]) (by simpa [hlen] using hsz) n os
  rw [hmap] at s2 e2
  exact ⟨_, rfl, .dat (.tup []), _, _, rfl, hk, by simp [Rel, RelD, RelDs], s2, e2⟩

def encL (x : LinkT) : List Value := [.int .i64 x.who, .int .i64 x.peer, .int .i64 x.n]
instance : Inhabited LinkT := ⟨⟨0, 0, 0⟩⟩
def linksD (ks : List LinkT) : List DV := flatD LinkT.flat ks
theorem linksD_plain : ∀ ks, ∀ x ∈ linksD ks, plainD x = true
  | [], x, h => by simp [linksD, flatD] at h
  | k :: r, x, h => by
    simp only [linksD, flatD, LinkT.flat, List.cons_append, List.nil_append, List.mem_cons] at h
    rcases h with rfl | rfl | rfl | h
    · rfl
    · rfl
    · rfl
    · exact linksD_plain r x h
theorem linksD_vals : ∀ ks : List LinkT, (linksD ks).map valD = ks.flatMap encL
  | [] => rfl
  | k :: r => by
    have := linksD_vals r
    simp only [linksD, flatD, LinkT.flat, List.cons_append, List.nil_append, List.map_cons, List.flatMap_cons] at this ⊢
    rw [this]; rfl
theorem flat_get : ∀ (l : List LinkT) (t : Nat), t < l.length * 3 → (l.flatMap encL)[t]? = some ((encL (l[t / 3]!))[t % 3]!)
  | [], t, h => by simp at h
  | x :: r, t, h => by
    rw [List.flatMap_cons]
    rcases Nat.lt_or_ge t 3 with h3 | h3
    · rw [List.getElem?_append_left (by simpa [encL] using h3)]
      have : t / 3 = 0 := by omega
      rw [this, Nat.mod_eq_of_lt h3]
      rcases t with _ | _ | _ | t
      · rfl
      · rfl
      · rfl
      · omega
    · rw [List.getElem?_append_right (by simpa [encL] using h3)]
      have hl : (encL x).length = 3 := rfl
      rw [hl, flat_get r (t - 3) (by simp at h; omega)]
      have h1 : (t - 3) / 3 + 1 = t / 3 := by omega
      have h2 : (t - 3) % 3 = t % 3 := by omega
      rw [h2, ← h1]
      rfl
theorem flat_len : ∀ l : List LinkT, (l.flatMap encL).length = l.length * 3
  | [] => rfl
  | x :: r => by rw [List.flatMap_cons, List.length_append, flat_len r]; simp [encL]; omega
theorem flatK_list (d : Array LinkT) : (flatK encL 3 d).toList = d.toList.flatMap encL := by
  apply List.ext_getElem?
  intro t
  rcases Nat.lt_or_ge t (d.size * 3) with h | h
  · rw [flat_get _ t (by simpa using h)]
    have h1 := get_flatK encL 3 d t h
    rw [Array.getElem?_toList, Array.getElem?_eq_getElem (by simpa using h), ← getElem!_pos _ t (by simpa using h), h1]
    have : d[t / 3]! = d.toList[t / 3]! := by
      have hq : t / 3 < d.size := by omega
      rw [getElem!_pos d _ hq, getElem!_pos d.toList _ (by simpa using hq)]
      simp
    rw [this]
  · rw [List.getElem?_eq_none (by simpa using h), List.getElem?_eq_none]
    rw [flat_len]; simpa using h
def leL (x y : LinkT) : Bool := !(ltOf cmpL) y x
def sortL (ks : List LinkT) : List LinkT := ks.mergeSort leL
theorem swo_cmpL : SWO (ltOf cmpL) := by
  refine ⟨fun x => ?_, fun x y z h1 h2 => ?_, fun x y z h1 h2 => ?_⟩
  · simp only [ltOf, decide_eq_false_iff_not, cmpL_lt]; omega
  · simp only [ltOf, decide_eq_true_eq, cmpL_lt] at h1 h2 ⊢; omega
  · simp only [ltOf, decide_eq_false_iff_not, cmpL_lt] at h1 h2 ⊢; omega
theorem tot_cmpL (x y : LinkT) (h1 : ltOf cmpL x y = false) (h2 : ltOf cmpL y x = false) : x = y := by
  simp only [ltOf, decide_eq_false_iff_not, cmpL_lt] at h1 h2
  obtain ⟨a, b, c⟩ := x
  obtain ⟨a', b', c'⟩ := y
  simp only at h1 h2
  have e1 : a = a' := by omega
  have e2 : b = b' := by omega
  have e3 : c = c' := by omega
  rw [e1, e2, e3]
theorem linksCmp_calls (x y : LinkT) (W : World) : Calls Tryz.prog 44 #[.agg (encL x).toArray, .agg (encL y).toArray] W fun e w' => e = .returned (.int .i64 (cmpL x y)) ∧ ∃ q os', w' = Sort.grow (W.drewN q) os' := by
  have h := calls_of_callA (cx := cxd W W.drawn) (W := W) rfl (Nat.le_refl _) (fun _ => rfl) (f := 44) (args := [x.dv, y.dv]) (vs := #[.agg (encL x).toArray, .agg (encL y).toArray]) rfl ?_ (linksCmp_ok x y (fun a _ => a = .dat (.int .i64 (cmpL x y))) rfl)
  · refine h.mono ?_
    rintro e w' ⟨v, a, h', s', rfl, rfl, hr, hw, hb, hd⟩
    simp only [Rel, RelD] at hr
    subst hr
    exact ⟨rfl, grow_of hb hd⟩
  · have one : ∀ x : LinkT, RelD (fun n => n < W.heap.size) W x.dv (.agg (encL x).toArray) := fun x => by
      simp only [LinkT.dv, linkD, RelD]
      exact ⟨_, rfl, rfl, ⟨rfl, rfl, rfl, trivial⟩⟩
    exact ⟨one x, one y, trivial⟩
theorem sortLink_ok (ks : List LinkT) (hl : ks.length ≤ 1000000) (K : AV → Heap → Prop) (hk : K (.dat (.tup [])) [some (.cells ((linksD (sortL ks)).map .dat) 51 true)]) :
    CallA (cx w0) 92 [.sl 0 0 ks.length none 3, .dat (.fn 44)] [some (.cells ((linksD ks).map .dat) 51 true)] K := by
  constructor
  intro s vs sat hlv hr
  obtain ⟨v1, t, e1, h1, h2⟩ := rels_cons.1 hr
  obtain ⟨v2, t2, e2, h3, h4⟩ := rels_cons.1 h2
  have ht2 : t2 = [] := by
    have := congrArg List.length e1
    simp [e2] at this
    simp only [List.length_cons, List.length_nil] at hlv
    exact List.eq_nil_of_length_eq_zero (by omega)
  subst ht2
  simp only [Rel, RelD] at h3
  subst h3
  obtain ⟨b, m, c, hρ, hv, hb, hrel⟩ := own_slice (vs := #[v1]) sat rfl (by simpa [Rels] using h1)
  obtain rfl : v1 = .slice (some ⟨b, 0, none⟩) ks.length m := by simpa using hv
  have hvs : vs = #[.slice (some ⟨b, 0, none⟩) ks.length m, .func (.func 44) #[] #[]] := by
    apply Array.ext'; rw [e1, e2]
  subst hvs
  have hF := flatK_list ks.toArray
  obtain ⟨hH, hsz⟩ := holds_row (s := s) hb id (flatK encL 3 ks.toArray) (linksD_plain ks) (by rw [linksD_vals, hF]; simp) (rels_dat.1 hrel)
  refine ⟨Tryz.call92 _ _, ?_⟩
  have := AnyQ.slices_SortFunc_total (P := Tryz.prog) (ρ := Tryz.laysSlF06_f92_ren) Tryz.laysSlF06_f92 3 (fun _ => Tryz.isAgg51 _) (fun _ => Tryz.sizeOf51 _) encL (fun _ => rfl) (fun x v hv => by
    simp only [encL, List.mem_cons, List.not_mem_nil, or_false] at hv
    rcases hv with rfl | rfl | rfl <;> rfl) cmpL swo_cmpL 44 #[] b 0 m ks.toArray s.w (fun args w => Tryz.call44 args w) (fun _ _ _ _ x y => linksCmp_calls x y _) hH (Array.getElem?_eq_some_iff.1 hb).1 (by simp; omega) tot_cmpL
  refine Calls.mono this ?_
  rintro e w' ⟨rfl, n, os, rfl⟩
  have hlen : (sortL ks).length = ks.length := by simp [sortL]
  obtain ⟨s2, e2⟩ := post_row sat (i := 0) rfl hρ hb id (flatK encL 3 (sortL ks).toArray) (linksD (sortL ks)) (linksD_plain _) (by rw [linksD_vals, flatK_list]; simp) (by simpa [hlen] using hsz) n os
  exact ⟨_, rfl, .dat (.tup []), _, _, rfl, hk, by simp [Rel, RelD, RelDs], s2, e2⟩
end Go.Abs.X

namespace Go.Abs.X
open Go.Abs Go Go.Proofs Go.Sort Go.RowKit
variable {w0 : World}
def valLink (ks : List LinkT) : DV := match ks with
  | [] => .nils
  | k :: r => .ros (linksD (k :: r)) (k :: r).length none
theorem valLink_cons (ks : List LinkT) (h : ks ≠ []) : valLink ks = .ros (linksD ks) ks.length none := by
  cases ks with
  | nil => exact absurd rfl h
  | cons k r => rfl
theorem keysLink_ok (es : List (DV × DV)) (K : AV → Heap → Prop) (hk : K (.func 93 [.ptr 1 0]) [some (.mapD es), some (.cells [.map 0] 28 false)]) :
    CallA (cx w0) 43 [.map 0] [some (.mapD es)] K := by
  refine CallA.enter ok (dr (plOf [])) Tryz.func43 Tryz.call43 ?_
  exact hk
theorem sortLink_none (K : AV → Heap → Prop) (hk : K (.dat (.tup [])) []) : CallA (cx w0) 92 [.dat .nils, .dat (.fn 44)] [] K := by
  refine CallA.of_below rfl (.tup []) (fun st vs sat hl hr => ?_) hk
  have hv : vs = #[.slice none 0 0, .func (.func 44) #[] #[]] := by
    obtain ⟨v1, t, e1, h1, h2⟩ := rels_cons.1 hr
    obtain ⟨v2, t2, e2, h3, h4⟩ := rels_cons.1 h2
    simp only [Rel, RelD] at h1 h3
    subst h1 h3
    have : t2 = [] := by
      have := congrArg List.length e1
      simp [e2] at this
      simp only [List.length_cons, List.length_nil] at hl
      exact List.eq_nil_of_length_eq_zero (by omega)
    subst this
    apply Array.ext'
    rw [e1, e2]
  subst hv
  refine ⟨Tryz.call92 _ _, ?_⟩
  have := AnyF.slices_SortFunc_none (P := Tryz.prog) (ρ := Tryz.laysSlF06_f92_ren) Tryz.laysSlF06_f92 none 0 (.func (.func 44) #[] #[]) st.w
  refine Calls.mono this ?_
  rintro e w' ⟨rfl, rfl⟩
  exact ⟨_, rfl, RowKit.Below.refl _ _, fun _ _ => by simp [RelD, RelDs]⟩
theorem sortedLink_ok (es : List (DV × DV)) (hk : ∀ e ∈ es, ∃ l : LinkT, e.1 = LinkT.dv l) (hlen : es.length ≤ 1000000) (K : AV → Heap → Prop)
    (h1 : ∀ ks : List LinkT, (ks.map LinkT.dv).Perm (es.map (·.1)) → K (.dat (valLink (sortL ks))) [some (.mapD es), some (.cells [.map 0] 28 false)]) :
    CallA (cx w0) 42 [.func 93 [.ptr 1 0], .dat (.fn 44)] [some (.mapD es), some (.cells [.map 0] 28 false)] K := by
  refine CallA.ret ?_
  refine CallA.enter ok (dr (plOf [])) Tryz.func42 Tryz.call42 ?_
  refine call_at [0, 1] (collectLink es hk hlen _ (fun he => ?_) (fun ks hne hp => ?_)) rfl rfl rfl rfl
  · refine call_at [] (sortLink_none _ ?_) rfl rfl rfl rfl
    have h1 := h1 [] (by rw [he]; exact List.Perm.refl _)
    rw [show sortL [] = [] by simp [sortL]] at h1
    exact leaf [0, 1] (.dat .nils) [some (.mapD es), some (.cells [.map 0] 28 false)] rfl rfl rfl rfl rfl h1
  · have hl : ks.length ≤ 1000000 := by
      have := hp.length_eq
      simp at this
      omega
    have hls : (sortL ks).length = ks.length := by simp [sortL]
    have hne2 : sortL ks ≠ [] := fun h => by
      rw [h] at hls
      exact hne (List.eq_nil_of_length_eq_zero hls.symm)
    refine call_in [2] (sortLink_ok ks hl _ ?_) rfl rfl rfl (hin_cons (renTs_datC ?_) hin_nil) 
    · refine shift_frz' 2 (linksD (sortL ks)) rfl ?_ ?_
      · simp only [renTs_dat]
      refine leaf [0, 1] _ [some (.mapD es), some (.cells [.map 0] 28 false)] ?_ rfl rfl rfl rfl (h1 ks hp)
      rw [valLink_cons _ hne2, hls]
      rfl
    · simp only [renTs_dat]; rfl
end Go.Abs.X

namespace Go.Abs.X
open Go.Abs Go Go.Proofs Go.Sort Go.RowKit
variable {w0 : World}
def valInt (ks : List Int) : DV := match ks with
  | [] => .nils
  | k :: r => .ros (intsD (k :: r)) (k :: r).length none
theorem valInt_cons (ks : List Int) (h : ks ≠ []) : valInt ks = .ros (intsD ks) ks.length none := by
  cases ks with
  | nil => exact absurd rfl h
  | cons k r => rfl
theorem keysInt_ok (es : List (DV × DV)) (K : AV → Heap → Prop) (hk : K (.func 141 [.ptr 1 0]) [some (.mapD es), some (.cells [.map 0] 105 false)]) :
    CallA (cx w0) 122 [.map 0] [some (.mapD es)] K := by
  refine CallA.enter ok (dr (plOf [])) Tryz.func122 Tryz.call122 ?_
  exact hk
theorem sortInt_none (K : AV → Heap → Prop) (hk : K (.dat (.tup [])) []) : CallA (cx w0) 140 [.dat .nils] [] K := by
  refine CallA.of_below rfl (.tup []) (fun st vs sat hl hr => ?_) hk
  have hv : vs = #[.slice none 0 0] := by
    obtain ⟨v1, t, e1, h1, h2⟩ := rels_cons.1 hr
    simp only [Rel, RelD] at h1
    subst h1
    have : t = [] := by
      have := congrArg List.length e1
      simp at this
      simp only [List.length_cons, List.length_nil] at hl
      exact List.eq_nil_of_length_eq_zero (by omega)
    subst this
    apply Array.ext'
    rw [e1]
  subst hv
  refine ⟨Tryz.call140 _ _, ?_⟩
  have := Tryz.slices_Sort_int_none none 0 st.w
  refine Calls.mono this ?_
  rintro e w' ⟨rfl, rfl⟩
  exact ⟨_, rfl, RowKit.Below.refl _ _, fun _ _ => by simp [RelD, RelDs]⟩
theorem sortedInt_ok (es : List (DV × DV)) (hk : ∀ e ∈ es, ∃ l : Int, e.1 = i64 l) (hlen : es.length ≤ 1000000) (K : AV → Heap → Prop)
    (h1 : ∀ ks : List Int, (ks.map i64).Perm (es.map (·.1)) → K (.dat (valInt (sortI ks))) [some (.mapD es), some (.cells [.map 0] 105 false)]) :
    CallA (cx w0) 121 [.func 141 [.ptr 1 0]] [some (.mapD es), some (.cells [.map 0] 105 false)] K := by
  refine CallA.ret ?_
  refine CallA.enter ok (dr (plOf [])) Tryz.func121 Tryz.call121 ?_
  refine call_at [0, 1] (collectInt es hk hlen _ (fun he => ?_) (fun ks hne hp => ?_)) rfl rfl rfl rfl
  · refine call_at [] (sortInt_none _ ?_) rfl rfl rfl rfl
    have h1 := h1 [] (by rw [he]; exact List.Perm.refl _)
    rw [show sortI [] = [] by simp [sortI]] at h1
    exact leaf [0, 1] (.dat .nils) [some (.mapD es), some (.cells [.map 0] 105 false)] rfl rfl rfl rfl rfl h1
  · have hl : ks.length ≤ 1000000 := by
      have := hp.length_eq
      simp at this
      omega
    have hls : (sortI ks).length = ks.length := by simp [sortI]
    have hne2 : sortI ks ≠ [] := fun h => by
      rw [h] at hls
      exact hne (List.eq_nil_of_length_eq_zero hls.symm)
    refine call_in [2] (sortInt_ok ks hl _ ?_) rfl rfl rfl (hin_cons (renTs_datC ?_) hin_nil) 
    · refine shift_frz' 2 (intsD (sortI ks)) rfl ?_ ?_
      · simp only [renTs_dat]
      refine leaf [0, 1] _ [some (.mapD es), some (.cells [.map 0] 105 false)] ?_ rfl rfl rfl rfl (h1 ks hp)
      rw [valInt_cons _ hne2, hls]
      rfl
    · simp only [renTs_dat]; rfl
end Go.Abs.X

namespace Go.Abs.X
open Go.Abs Go Go.Proofs Go.Sort Go.RowKit
variable {w0 : World}
def valStr (ks : List ByteArray) : DV := match ks with
  | [] => .nils
  | k :: r => .ros (strsD (k :: r)) (k :: r).length none
theorem valStr_cons (ks : List ByteArray) (h : ks ≠ []) : valStr ks = .ros (strsD ks) ks.length none := by
  cases ks with
  | nil => exact absurd rfl h
  | cons k r => rfl
theorem keysStr_ok (es : List (DV × DV)) (K : AV → Heap → Prop) (hk : K (.func 144 [.ptr 1 0]) [some (.mapD es), some (.cells [.map 0] 206 false)]) :
    CallA (cx w0) 125 [.map 0] [some (.mapD es)] K := by
  refine CallA.enter ok (dr (plOf [])) Tryz.func125 Tryz.call125 ?_
  exact hk
theorem sortStr_none (K : AV → Heap → Prop) (hk : K (.dat (.tup [])) []) : CallA (cx w0) 143 [.dat .nils] [] K := by
  refine CallA.of_below rfl (.tup []) (fun st vs sat hl hr => ?_) hk
  have hv : vs = #[.slice none 0 0] := by
    obtain ⟨v1, t, e1, h1, h2⟩ := rels_cons.1 hr
    simp only [Rel, RelD] at h1
    subst h1
    have : t = [] := by
      have := congrArg List.length e1
      simp at this
      simp only [List.length_cons, List.length_nil] at hl
      exact List.eq_nil_of_length_eq_zero (by omega)
    subst this
    apply Array.ext'
    rw [e1]
  subst hv
  refine ⟨Tryz.call143 _ _, ?_⟩
  have := Tryz.slices_Sort_string_none none 0 st.w
  refine Calls.mono this ?_
  rintro e w' ⟨rfl, rfl⟩
  exact ⟨_, rfl, RowKit.Below.refl _ _, fun _ _ => by simp [RelD, RelDs]⟩
theorem sortedStr_ok (es : List (DV × DV)) (hk : ∀ e ∈ es, ∃ l : ByteArray, e.1 = DV.str l) (hlen : es.length ≤ 1000000) (K : AV → Heap → Prop)
    (h1 : ∀ ks : List ByteArray, (ks.map DV.str).Perm (es.map (·.1)) → K (.dat (valStr (sortS ks))) [some (.mapD es), some (.cells [.map 0] 206 false)]) :
    CallA (cx w0) 124 [.func 144 [.ptr 1 0]] [some (.mapD es), some (.cells [.map 0] 206 false)] K := by
  refine CallA.ret ?_
  refine CallA.enter ok (dr (plOf [])) Tryz.func124 Tryz.call124 ?_
  refine call_at [0, 1] (collectStr es hk hlen _ (fun he => ?_) (fun ks hne hp => ?_)) rfl rfl rfl rfl
  · refine call_at [] (sortStr_none _ ?_) rfl rfl rfl rfl
    have h1 := h1 [] (by rw [he]; exact List.Perm.refl _)
    rw [show sortS [] = [] by simp [sortS]] at h1
    exact leaf [0, 1] (.dat .nils) [some (.mapD es), some (.cells [.map 0] 206 false)] rfl rfl rfl rfl rfl h1
  · have hl : ks.length ≤ 1000000 := by
      have := hp.length_eq
      simp at this
      omega
    have hls : (sortS ks).length = ks.length := by simp [sortS]
    have hne2 : sortS ks ≠ [] := fun h => by
      rw [h] at hls
      exact hne (List.eq_nil_of_length_eq_zero hls.symm)
    refine call_in [2] (sortStr_ok ks hl _ ?_) rfl rfl rfl (hin_cons (renTs_datC ?_) hin_nil) 
    · refine shift_frz' 2 (strsD (sortS ks)) rfl ?_ ?_
      · simp only [renTs_dat]
      refine leaf [0, 1] _ [some (.mapD es), some (.cells [.map 0] 206 false)] ?_ rfl rfl rfl rfl (h1 ks hp)
      rw [valStr_cons _ hne2, hls]
      rfl
    · simp only [renTs_dat]; rfl
end Go.Abs.X

namespace Go.Proofs
open Go.RowKit Go.Shelf

theorem Tryz.sizeBuilder : (Tryz.prog.info? 141).map (·.size) = some 2 := by kernel_rfl
theorem Tryz.liesBuilder : liesAt Tryz.prog Tryz.prog.depth 141 (2 / Tryz.prog.cellsOf 141) 0 141 1 = true := by kernel_rfl
def Tryz.renB : Go.Shelf.Ren := ⟨fun | 242 => 145 | 278 => 164 | n => n, fun | 5 => 5 | 37 => 139 | 21 => 21 | 51 => 54 | 4 => 4 | 46 => 132 | 72 => 141 | n => n, fun | n => n⟩

set_option maxHeartbeats 1000000 in
set_option maxRecDepth 100000 in
/-- copyCheck at a builder that has been used: nothing turns. -/
theorem Tryz.copyCheck_used (b : Nat) (w : World) (h0 : w.cell? ⟨b, 0, none⟩ = some (.pointer (some ⟨b, 0, none⟩))) :
    Calls Tryz.prog 135 #[.pointer (some ⟨b, 0, none⟩)] w fun e w' => e = .returned (.tuple #[]) ∧ w' = w := by
  obtain ⟨j, hj, _⟩ := Option.map_eq_some_iff.1 Tryz.sizeBuilder
  go_enter Tryz.func135, Tryz.ntmps135
  go_wp2
  rw [Lib.run_neq_ptr_same w _ Tryz.underlying138 hj]
  go_wp2
  go_end0
  exact ⟨rfl, rfl⟩

set_option maxHeartbeats 1000000 in
set_option maxRecDepth 100000 in
/-- copyCheck at a fresh builder: it stores its own address. -/
theorem Tryz.copyCheck_fresh (b : Nat) (w : World) (h0 : w.cell? ⟨b, 0, none⟩ = some (.pointer none)) (hsh : w.shape? b = some (141, 2)) (hfz : w.frozen? ⟨b, 0, none⟩ = false) :
    Calls Tryz.prog 135 #[.pointer (some ⟨b, 0, none⟩)] w fun e w' => e = .returned (.tuple #[]) ∧ w' = w.setCell ⟨b, 0, none⟩ (.pointer (some ⟨b, 0, none⟩)) := by
  obtain ⟨j, hj, hjs⟩ := Option.map_eq_some_iff.1 Tryz.sizeBuilder
  go_enter Tryz.func135, Tryz.ntmps135
  go_wp2
  rw [Lib.run_to_unsafe w ⟨b, 0, none⟩ Tryz.underlying138 Tryz.underlying237 hj (by rw [hjs]; decide) hsh (Nat.zero_lt_succ 1)]
  simp only [Result.andThen]
  rw [Oper.upon_value]
  go_wp2
  rw [run_callFunc_extern Tryz.func158 (by kernel_rfl) (by kernel_rfl) (by kernel_rfl) (e := Extern.AbiNoEscape.same) (by kernel_rfl)]
  rw [Lib.run_noEscape]
  simp only [Result.andThen]
  rw [Oper.upon_value]
  go_wp2
  rw [Lib.run_from_unsafe w ⟨b, 0, none⟩ Tryz.underlying237 Tryz.underlying138 hj hsh Tryz.liesBuilder]
  simp only [Result.andThen]
  rw [Oper.upon_value]
  go_wp2
  go_end0
  exact ⟨rfl, rfl⟩
theorem Tryz.copyCheck_k (B b : Nat) (bs : List Value) (w : World) (h : Lib.IsBuilderF 141 5 B b bs w) :
    Calls Tryz.prog 135 #[.pointer (some ⟨b, 0, none⟩)] w fun e w' => e = .returned (.tuple #[]) ∧ (Lib.BuilderAtF 141 5 B b (.pointer (some ⟨b, 0, none⟩)) bs w' ∧ Below B w w' ∧ Lib.OthersKept 5 (some b) w w') := by
  rcases h with h | h
  · refine (Tryz.copyCheck_fresh b w h.cell0 h.shape h.frozen0).mono ?_
    rintro e w' ⟨rfl, rfl⟩
    exact ⟨rfl, h.used _, (Below.refl B w).setCell (p := ⟨b, 0, none⟩) h.1 _, (Lib.OthersKept.refl _ _ w).setCell ⟨b, 0, none⟩ rfl _⟩
  · refine (Tryz.copyCheck_used b w h.cell0).mono ?_
    rintro e w' ⟨rfl, rfl⟩
    exact ⟨rfl, h, Below.refl B _, Lib.OthersKept.refl _ _ _⟩
theorem Tryz.layB : Lays.n242 Tryz.prog Tryz.renB := {
  mixed := by kernel_rfl
  f242 := Tryz.func145.trans (congrArg some (by kernel_rfl))
  f278 := Tryz.func164.trans (congrArg some (by kernel_rfl))
  t4 := Tryz.underlying4, a4 := Tryz.isAgg4, z4 := Tryz.sizeOf4, v4 := Tryz.zeroValue4
  t5 := Tryz.underlying5, a5 := Tryz.isAgg5, z5 := Tryz.sizeOf5, v5 := Tryz.zeroValue5
  t21 := Tryz.underlying21, a21 := Tryz.isAgg21, z21 := Tryz.sizeOf21, v21 := Tryz.zeroValue21
  t37 := Tryz.underlying139, a37 := Tryz.isAgg139, z37 := Tryz.sizeOf139, v37 := Tryz.zeroValue139
  t46 := Tryz.underlying132, a46 := Tryz.isAgg132, z46 := Tryz.sizeOf132, v46 := Tryz.zeroValue132
  t51 := Tryz.underlying54, a51 := Tryz.isAgg54, z51 := Tryz.sizeOf54, v51 := Tryz.zeroValue54 }
theorem Tryz.extraB : Builder.Extra Tryz.prog Tryz.renB := {
  sizeBuilder := by kernel_rfl
  liesBuilder := by kernel_rfl
  t5 := Tryz.underlying5
  a5 := Tryz.isAgg5
  z5 := Tryz.sizeOf5
  v5 := Tryz.zeroValue5
  infoByte := by kernel_rfl
  cellsByte := by kernel_rfl
  sizeByte := by kernel_rfl
  neB5 := by decide }
theorem Tryz.AppendRune_own (B : Nat) (v : Value) (n : Nat) (xs : List Value) (r : Int) (hr0 : -2147483648 ≤ r) (hr1 : r ≤ 2147483647) (w : World) (hown : w.ownsRowF B 5 1 v n xs) (hlen : n + 4 ≤ 140737488355328) (hBw : B ≤ w.heap.size) :
    Calls Tryz.prog 145 #[v, .int .i32 r] w fun e w' => ∃ v', e = .returned v' ∧ w'.ownsRowF B 5 1 v' (n + (Lib.runeCells r).length) (xs ++ Lib.runeCells r) ∧ ∃ o, (w.alloc o).grownBy w' v.ownBlock :=
  Any.utf8_AppendRune_own Tryz.layB Tryz.extraB B v n xs r hr0 hr1 w hown hlen hBw

set_option maxHeartbeats 4000000 in
set_option maxRecDepth 100000 in
theorem Tryz.WriteRune_k (B b : Nat) (bs : List Value) (r : Int) (hr0 : -2147483648 ≤ r) (hr1 : r ≤ 2147483647) (w : World) (h : Lib.IsBuilderF 141 5 B b bs w) (hlen : bs.length + 4 ≤ 140737488355328) (hBw : B ≤ w.heap.size) :
    Calls Tryz.prog 127 #[.pointer (some ⟨b, 0, none⟩), .int .i32 r] w fun e w' => e = .returned (.tuple #[.int .i64 (Lib.runeCells r).length, .nilIface]) ∧ (Lib.BuilderAtF 141 5 B b (.pointer (some ⟨b, 0, none⟩)) (bs ++ Lib.runeCells r) w' ∧ Below B w w' ∧ Lib.OthersKept 5 (some b) w w') := by
  have hk4 := Lib.runeCells_le r
  go_enter Tryz.func127, Tryz.ntmps127
  go_wp2_with (go_at_call 135; refine (Tryz.copyCheck_k B b bs _ h).mono ?_)
  rintro e w1 ⟨rfl, h1, hb1, hk1⟩
  obtain ⟨hB, v, hbk, hown, hne⟩ := h1
  obtain ⟨ao, cap, rfl⟩ : ∃ ao cap, v = .slice ao bs.length cap := by
    rcases hown.2 with ⟨hv, h0⟩ | ⟨g, cap, cur, fz, hv, _⟩
    · exact ⟨none, 0, by rw [hv, h0]⟩
    · exact ⟨_, _, hv⟩
  have c0 : w1.cell? ⟨b, 0, none⟩ = some (.pointer (some ⟨b, 0, none⟩)) := by rw [Lib.cell_of_heap hbk]; rfl
  have c1 : w1.cell? ⟨b, 1, none⟩ = some (.slice ao bs.length cap) := by rw [Lib.cell_of_heap hbk]; rfl
  go_wp2_with (go_at_call 145; refine (Tryz.AppendRune_own B _ bs.length bs r hr0 hr1 _ hown hlen (by have := hb1.size; omega)).mono ?_)
  rintro e w2 ⟨v', rfl, hown', o, hgrow⟩
  have hlt : b < w1.heap.size := by
    rcases Nat.lt_or_ge b w1.heap.size with h' | h'
    · exact h'
    · simp [Array.getElem?_eq_none h'] at hbk
  have hb2 : w2.heap[b]? = some (.cells #[.pointer (some ⟨b, 0, none⟩), .slice ao bs.length cap] 141 (0, 0)) := by
    rw [hgrow.block b (by simp; omega) (fun e => hne e.symm), Lib.alloc_old w1 _ b hlt]
    exact hbk
  have d0 : w2.cell? ⟨b, 0, none⟩ = some (.pointer (some ⟨b, 0, none⟩)) := by rw [Lib.cell_of_heap hb2]; rfl
  have d1 : w2.cell? ⟨b, 1, none⟩ = some (.slice ao bs.length cap) := by rw [Lib.cell_of_heap hb2]; rfl
  have f1 : w2.frozen? ⟨b, 1, none⟩ = false := Lib.frozen_of_heap hb2 1
  obtain ⟨g, cap', rfl⟩ : ∃ g cap', v' = .slice (some ⟨g, 0, none⟩) (bs.length + (Lib.runeCells r).length) cap' := by
    rcases hown'.2 with ⟨_, h0⟩ | ⟨g, cap', cur, fz, hv, _⟩
    · omega
    · exact ⟨g, cap', hv⟩
  go_wp2
  go_ret2
  refine ⟨?_, ?_, ?_, ((hk1.alloc _).grown hgrow (Lib.ownsRowF_kind (hown.alloc _))).setCell ⟨b, 1, none⟩ rfl _⟩
  · have e : ((bs.length : Int) + ((Lib.runeCells r).length : Int) - (bs.length : Int)) = ((Lib.runeCells r).length : Int) := by omega
    simp [e]
  · exact Lib.BuilderAtF.put (T := 141) (e := 5) hB hb2 (bs' := bs ++ Lib.runeCells r) (by simpa using hown') (by decide)
  · exact ((hb1.alloc (by have := hb1.size; omega) _).grown hgrow (by have := hb1.size; simp; omega) (fun k hk => (hown.lt k hk).1)).setCell (p := ⟨b, 1, none⟩) hB _

/-- What a name is folded to, from a place on: over the model's own decoding of UTF-8 and Go's own table of letters. -/
def foldFrom (s : ByteArray) : Nat → Nat → List UInt8
  | 0, _ => []
  | fuel + 1, pos => if pos < s.size then Lib.encodeRune (Lib.toLowerU (Utf8.decode s pos).1) ++ foldFrom s fuel (pos + (Utf8.decode s pos).2) else []
def foldM (s : ByteArray) : ByteArray := ⟨(foldFrom s s.size 0).toArray⟩
theorem foldFrom_end (s : ByteArray) (fuel pos : Nat) (h : ¬ pos < s.size) : foldFrom s fuel pos = [] := by
  cases fuel with
  | zero => rfl
  | succ f => simp [foldFrom, h]
theorem width_pos (s : ByteArray) (pos : Nat) (h : pos < s.size) : 1 ≤ (Utf8.decode s pos).2 := by
  by_cases ha : (s[pos]'h).toNat < 128
  · rw [decode_ascii s pos h ha]
    exact Nat.le_refl _
  · exact (decode_high s pos h (by omega)).2
theorem caseVar_below {g : Nat} {T : Array Lib.CaseRow} {w w' : World} (h : Lib.CaseVar g T w) (hb : Below w.heap.size w w') : Lib.CaseVar g T w' := by
  obtain ⟨R, oR, cap, h1, h2⟩ := h
  have go : ∀ {a : Addr} {v : Value}, w.cell? a = some v → w'.cell? a = some v := fun {a v} hc => (hb.cell (World.block_lt_of_cell? w a hc)).trans hc
  refine ⟨R, oR, cap, go h1, fun i hi => ?_⟩
  obtain ⟨a, b, c, d, e⟩ := h2 i hi
  exact ⟨go a, go b, go c, go d, go e⟩
theorem toLower_fits (r : Int) (h0 : 0 ≤ r) (h1 : r ≤ 2147483647) : -2147483648 ≤ Lib.toLowerU r ∧ Lib.toLowerU r ≤ 2147483647 := by
  unfold Lib.toLowerU
  split
  · split <;> omega
  · rw [← Lib.toW_caseA 1 (by omega)]
    unfold Lib.toW
    split
    · rw [wrap32]; omega
    · omega

set_option maxHeartbeats 4000000 in
set_option maxRecDepth 1000000 in
theorem Tryz.fold_walk (s : ByteArray) (w : World) (hs : s.size ≤ 35184372088832) (hV : Lib.CaseVar 3 Lib.caseA w) :
    Calls Tryz.prog 90 #[.string s] w fun e w' => e = .returned (.string (foldM s)) ∧ Below w.heap.size w w' := by
  have HV := Lib.hid hV; clear hV
  go_enter Tryz.func90, Tryz.ntmps90
  go_wp2
  go_loopw [] (fun wr => ∃ (pos fuel : Nat) (acc : List UInt8), Lib.IsBuilderF 141 5 w.heap.size w.heap.size (Lib.byteCells acc) wr ∧ wr.heap[w.heap.size + 1]? = some (.stringIter s pos) ∧ Below w.heap.size w wr ∧ acc ++ foldFrom s fuel pos = foldFrom s s.size 0 ∧ s.size ≤ pos + fuel ∧ acc.length ≤ 4 * pos) (fun wr => s.size - wr.iterPos (w.heap.size + 1))
  case atStart =>
    refine ⟨0, s.size, [], (Lib.IsBuilderF.of (Lib.fresh_isBuilder 141 5 w)).alloc _, ?_, ((Below.refl _ w).alloc (Nat.le_refl _) _).alloc (by simp) _, rfl, by omega, by simp⟩
    have := World.iter_heap (w.alloc (.cells #[.pointer none, .slice none 0 0] 141)) s 0
    simpa using this
  case round =>
    obtain ⟨pos, fuel, acc, hI, hit, hbw, hacc, hfu, hal⟩ := hrel
    have hsz : w.heap.size + 1 < wr.heap.size := (Array.getElem?_eq_some_iff.1 hit).1
    by_cases hp : pos < s.size
    · -- a rune is at hand: 'next' in whatever world
      have hnx : ∀ ty, (Instr.next (.pointer (some ⟨w.heap.size + 1, 0, none⟩)) true ty).run Tryz.prog wr = _ := fun ty => Lib.run_next_any_at wr (w.heap.size + 1) s pos ty hit hp
      have hwd := width_pos s pos hp
      have hd1 := decode_le s pos
      have hI2 := hI.iterAt hit (pos + (Utf8.decode s pos).2)
      have hit2 := Lib.iterAt_heap wr (w.heap.size + 1) s pos (pos + (Utf8.decode s pos).2) hit
      have hbw2 := Lib.below_iterAt hbw (k := w.heap.size + 1) (by omega) s (pos + (Utf8.decode s pos).2)
      have hsz2 : w.heap.size ≤ (wr.iterAt (w.heap.size + 1) s (pos + (Utf8.decode s pos).2)).heap.size := by rw [Lib.iterAt_size]; omega
      obtain ⟨f, rfl⟩ : ∃ f, fuel = f + 1 := ⟨fuel - 1, by omega⟩
      have hfit := toLower_fits (Utf8.decode s pos).1 (by omega) (by omega)
      have hfr : foldFrom s (f + 1) pos = Lib.encodeRune (Lib.toLowerU (Utf8.decode s pos).1) ++ foldFrom s f (pos + (Utf8.decode s pos).2) := by simp [foldFrom, hp]
      have HF := Lib.hid hfr; clear hfr
      go_wp2_with (go_at_call 128; refine (Tryz.unicode_ToLower_laid (Utf8.decode s pos).1 _ (caseVar_below HV.out hbw2)).mono ?_)
      rintro e W1 ⟨rfl, q, rfl⟩
      have hI3 : Lib.IsBuilderF 141 5 w.heap.size w.heap.size (Lib.byteCells acc) ((wr.iterAt (w.heap.size + 1) s (pos + (Utf8.decode s pos).2)).drewN q) := hI2
      have hit3 : ((wr.iterAt (w.heap.size + 1) s (pos + (Utf8.decode s pos).2)).drewN q).heap[w.heap.size + 1]? = some (.stringIter s (pos + (Utf8.decode s pos).2)) := hit2
      have hbw3 : Below w.heap.size w ((wr.iterAt (w.heap.size + 1) s (pos + (Utf8.decode s pos).2)).drewN q) := ⟨hbw2.os, hbw2.tape, hbw2.output, hbw2.size, hbw2.block⟩
      clear hI2 hit2 hbw2 hsz2 hnx
      generalize (wr.iterAt (w.heap.size + 1) s (pos + (Utf8.decode s pos).2)).drewN q = W2 at hI3 hit3 hbw3 ⊢
      have hsz3 := hbw3.size
      go_wp2_with (go_at_call 127; refine (Tryz.WriteRune_k w.heap.size w.heap.size _ (Lib.toLowerU (Utf8.decode s pos).1) hfit.1 hfit.2 _ hI3 (by rw [Lib.byteCells_length]; omega) hsz3).mono ?_)
      rintro e W1 ⟨rfl, h1, b1, k1⟩
      go_wp2
      go_roundw
      case rel =>
        have hl4 := Lib.runeCells_le (Lib.toLowerU (Utf8.decode s pos).1)
        rw [Lib.runeCells_length] at hl4
        refine ⟨pos + (Utf8.decode s pos).2, f, acc ++ Lib.encodeRune (Lib.toLowerU (Utf8.decode s pos).1), ?_, k1.iter hit3 (by omega), hbw3.trans b1, ?_, by omega, by simp; omega⟩
        · rw [Lib.byteCells_append, Lib.byteCells_encodeRune]; exact Or.inr h1
        · rw [← hacc, HF.out]; simp
      case measure =>
        simp only [World.iterPos, k1.iter hit3 (by omega), hit]
        omega
    · -- the string is through: b.String()
      have hnx : ∀ ty, (Instr.next (.pointer (some ⟨w.heap.size + 1, 0, none⟩)) true ty).run Tryz.prog wr = _ := fun ty => Lib.run_next_end_at wr (w.heap.size + 1) s pos ty hit hp
      go_wp2_with (go_at_call 115; refine (Tryz.Builder_String_any_k w.heap.size w.heap.size acc _ hI (by omega)).mono ?_)
      rintro e W1 ⟨rfl, _, b1, _⟩
      go_wp2
      go_ret
      rw [foldFrom_end s fuel pos hp, List.append_nil] at hacc
      subst hacc
      exact ⟨rfl, hbw.trans b1⟩
end Go.Proofs

namespace Go.Abs.X
open Go.Abs Go Go.Proofs
variable {w0 : World}

/-- What package unicode's tables hold. -/
structure Laid (w0 : World) : Prop where
  props : Lib.TabIs Tryz.prog w0 "unicode.properties" .u8 Lib.propertiesTab
  letter : Lib.RVar 1 Lib.letterT w0
  digit : Lib.RVar 2 Lib.digitT w0
  case : Lib.CaseVar 3 Lib.caseA w0
def letterM (r : Int) : Bool := if Lib.latin1 r then Lib.isLetterL r else Lib.exclGo Lib.letterT r
def digitM (r : Int) : Bool := if r ≤ 255 then Lib.isDigitL r else Lib.exclGo Lib.digitT r
def classM (r : Int) : Int := if r = 45 ∨ r = 95 ∨ r = 46 then 3 else if letterM r then 1 else if digitM r then 2 else 0

theorem goBelow {w w' : World} (hb : RowKit.Below w.heap.size w w') {a : Addr} {v : Value} (hc : w.cell? a = some v) : w'.cell? a = some v := (hb.cell (World.block_lt_of_cell? w a hc)).trans hc
theorem rvarBelow {g : Nat} {T : Lib.RTab} {w w' : World} (h : Lib.RVar g T w) (hb : RowKit.Below w.heap.size w w') : Lib.RVar g T w' := by
  obtain ⟨Tb, oT, h1, a16, a32, R16, o16, c16, R32, o32, c32, k1, k2, k3, k4, k5, k6, k7, k8⟩ := h
  refine ⟨Tb, oT, goBelow hb h1, a16, a32, R16, o16, c16, R32, o32, c32, goBelow hb k1, goBelow hb k2, goBelow hb k3, k4, k5, fun i hi => ?_, fun i hi => ?_, k8⟩
  · obtain ⟨a, b, c⟩ := k6 i hi
    exact ⟨goBelow hb a, goBelow hb b, goBelow hb c⟩
  · obtain ⟨a, b, c⟩ := k7 i hi
    exact ⟨goBelow hb a, goBelow hb b, goBelow hb c⟩
theorem tabBelow {n : String} {k : IntKind} {zs : List Int} {w w' : World} (h : Lib.TabIs Tryz.prog w n k zs) (hb : RowKit.Below w.heap.size w w') : Lib.TabIs Tryz.prog w' n k zs := by
  unfold Lib.TabIs World.var? at h ⊢
  cases hg : Tryz.prog.globalNamed n with
  | none => rw [hg] at h; cases h
  | some g =>
    rw [hg] at h
    simp only [Option.bind_some] at h ⊢
    have hlt : g < w.heap.size := by
      rcases Nat.lt_or_ge g w.heap.size with h' | h'
      · exact h'
      · rw [Array.getElem?_eq_none h'] at h; cases h
    rw [hb.block g hlt]; exact h

theorem one_arg {s : Wd} {d : DV} {vs : Array Value} (hl : [AV.dat d].length = vs.size) (hr : Rels s [.dat d] vs.toList) : ∃ v, vs = #[v] ∧ RelD s.I s.w d v := by
  have hv : ∃ v, vs = #[v] := by
    simp only [List.length_singleton] at hl
    exact ⟨vs[0], by apply Array.ext <;> simp [← hl]; intro i hi; subst hi; rfl⟩
  obtain ⟨v, rfl⟩ := hv
  exact ⟨v, rfl, by simpa [Rels, Rel] using hr⟩

theorem isLetter_ok (L : Laid w0) (r : Int) (h1 : -2147483648 ≤ r) (h2 : r ≤ 2147483647) (K : AV → Heap → Prop) (hk : K (.dat (.bool (letterM r))) []) : CallA (cx w0) 136 [.dat (.int .i32 r)] [] K := by
  refine CallA.of_below rfl (.bool (letterM r)) (fun s vs sat hl hr => ?_) hk
  obtain ⟨v, rfl, hv⟩ := one_arg hl hr
  simp only [RelD] at hv; subst hv
  have hb := sat.old.b
  refine ⟨Tryz.call136 _ _, (Tryz.unicode_IsLetter_any Lib.letterT r s.w h1 h2 (tabBelow L.props hb) (rvarBelow L.letter hb) Lib.letterT_ok).mono ?_⟩
  rintro e w' ⟨rfl, hw⟩
  exact ⟨_, rfl, hw, fun _ _ => by simp only [RelD]; rfl⟩
theorem isDigit_ok (L : Laid w0) (r : Int) (h1 : -2147483648 ≤ r) (h2 : r ≤ 2147483647) (K : AV → Heap → Prop) (hk : K (.dat (.bool (digitM r))) []) : CallA (cx w0) 137 [.dat (.int .i32 r)] [] K := by
  refine CallA.of_below rfl (.bool (digitM r)) (fun s vs sat hl hr => ?_) hk
  obtain ⟨v, rfl, hv⟩ := one_arg hl hr
  simp only [RelD] at hv; subst hv
  refine ⟨Tryz.call137 _ _, (Tryz.unicode_IsDigit_any Lib.digitT r s.w h1 h2 (rvarBelow L.digit sat.old.b) Lib.digitT_ok).mono ?_⟩
  rintro e w' ⟨rfl, hw⟩
  exact ⟨_, rfl, hw, fun _ _ => by simp only [RelD]; rfl⟩
theorem fold_ok (L : Laid w0) (s : ByteArray) (hs : s.size ≤ 35184372088832) (K : AV → Heap → Prop) (hk : K (.dat (.str (foldM s))) []) : CallA (cx w0) 90 [.dat (.str s)] [] K := by
  refine CallA.of_below rfl (.str (foldM s)) (fun st vs sat hl hr => ?_) hk
  obtain ⟨v, rfl, hv⟩ := one_arg hl hr
  simp only [RelD] at hv; subst hv
  refine ⟨Tryz.call90 _ _, (Tryz.fold_walk s st.w hs (caseVar_below L.case sat.old.b)).mono ?_⟩
  rintro e w' ⟨rfl, hw⟩
  exact ⟨_, rfl, hw, fun _ _ => by simp only [RelD]⟩
/-- bytes ahead -/
def preM (s p : ByteArray) : Bool := Lib.hasPrefix s.data.toList p.data.toList
theorem hasPrefix_ok (s p : ByteArray) (K : AV → Heap → Prop) (hk : K (.dat (.bool (preM s p))) []) : CallA (cx w0) 120 [.dat (.str s), .dat (.str p)] [] K := by
  refine CallA.of_below rfl (.bool (preM s p)) (fun st vs sat hl hr => ?_) hk
  have hv : vs = #[.string s, .string p] := by
    obtain ⟨v, t, e1, h1, h2⟩ := rels_cons.1 hr
    obtain ⟨v2, t2, e2, h3, h4⟩ := rels_cons.1 h2
    simp only [Rel, RelD] at h1 h3
    subst h1 h3
    have : t2 = [] := by
      have := congrArg List.length e1
      simp [e2] at this
      simp only [List.length_cons, List.length_nil] at hl
      exact List.eq_nil_of_length_eq_zero (by omega)
    subst this
    apply Array.ext'
    rw [e1, e2]
  subst hv
  refine ⟨Tryz.call120 _ _, (Tryz.strings_HasPrefix s p st.w).mono ?_⟩
  rintro e w' ⟨rfl, rfl⟩
  exact ⟨_, rfl, RowKit.Below.refl _ _, fun _ _ => by simp only [RelD]; rfl⟩

theorem class_ok (L : Laid w0) (r : Int) (h1 : -2147483648 ≤ r) (h2 : r ≤ 2147483647) (K : AV → Heap → Prop) (hk : K (.dat (.int .i64 (classM r))) []) : CallA (cx w0) 119 [.dat (.int .i32 r)] [] K := by
  refine CallA.ret ?_
  refine CallA.enter ok (dr (plOf [])) Tryz.func119 Tryz.call119 ?_
  have fin : ∀ n, classM r = n → K (.dat (.int .i64 n)) [] := fun n h => h ▸ hk
  by_cases c1 : r = 45
  · repeat (first | (refine condA_true ?_ ?_; focus (first | rfl | (simp; done) | (simp; omega) | (simp [c1]; done) | (simp [c1]; omega))) | (refine condA_false ?_ ?_; focus (first | rfl | (simp; done) | (simp; omega) | (simp [c1]; done) | (simp [c1]; omega))))
    exact leaf [] _ [] rfl rfl rfl rfl rfl (fin 3 (by simp [classM, c1]))
  by_cases c2 : r = 95
  · repeat (first | (refine condA_true ?_ ?_; focus (first | rfl | (simp; done) | (simp; omega) | (simp [c1]; done) | (simp [c2]; done) | (simp [c1]; omega) | (simp [c2]; omega) | (simp [c1, c2]; done))) | (refine condA_false ?_ ?_; focus (first | rfl | (simp; done) | (simp; omega) | (simp [c1]; done) | (simp [c2]; done) | (simp [c1]; omega) | (simp [c2]; omega) | (simp [c1, c2]; done))))
    exact leaf [] _ [] rfl rfl rfl rfl rfl (fin 3 (by simp [classM, c2]))
  by_cases c3 : r = 46
  · repeat (first | (refine condA_true ?_ ?_; focus (first | rfl | (simp; done) | (simp; omega) | (simp [c1]; done) | (simp [c2]; done) | (simp [c3]; done) | (simp [c1]; omega) | (simp [c2]; omega) | (simp [c3]; omega) | (simp [c1, c2]; done) | (simp [c1, c3]; done) | (simp [c2, c3]; done))) | (refine condA_false ?_ ?_; focus (first | rfl | (simp; done) | (simp; omega) | (simp [c1]; done) | (simp [c2]; done) | (simp [c3]; done) | (simp [c1]; omega) | (simp [c2]; omega) | (simp [c3]; omega) | (simp [c1, c2]; done) | (simp [c1, c3]; done) | (simp [c2, c3]; done))))
    exact leaf [] _ [] rfl rfl rfl rfl rfl (fin 3 (by simp [classM, c3]))
  repeat (first | (refine condA_true ?_ ?_; focus (first | rfl | (simp; done) | (simp; omega) | (simp [c1]; done) | (simp [c2]; done) | (simp [c3]; done) | (simp [c1]; omega) | (simp [c2]; omega) | (simp [c3]; omega) | (simp [c1, c2]; done) | (simp [c1, c3]; done) | (simp [c2, c3]; done))) | (refine condA_false ?_ ?_; focus (first | rfl | (simp; done) | (simp; omega) | (simp [c1]; done) | (simp [c2]; done) | (simp [c3]; done) | (simp [c1]; omega) | (simp [c2]; omega) | (simp [c3]; omega) | (simp [c1, c2]; done) | (simp [c1, c3]; done) | (simp [c2, c3]; done))))
  refine call_at [] (isLetter_ok L r h1 h2 _ ?_) rfl rfl rfl rfl
  by_cases c4 : letterM r
  · refine condA_true c4 ?_
    exact leaf [] _ [] rfl rfl rfl rfl rfl (fin 1 (by simp [classM, c1, c2, c3, c4]))
  refine condA_false (by simpa using c4) ?_
  refine call_at [] (isDigit_ok L r h1 h2 _ ?_) rfl rfl rfl rfl
  by_cases c5 : digitM r
  · refine condA_true c5 ?_
    exact leaf [] _ [] rfl rfl rfl rfl rfl (fin 2 (by simp [classM, c1, c2, c3, c4, c5]))
  refine condA_false (by simpa using c5) ?_
  exact leaf [] _ [] rfl rfl rfl rfl rfl (fin 0 (by simp [classM, c1, c2, c3, c4, c5]))

theorem same_ok (L : Laid w0) (a b : ByteArray) (ha : a.size ≤ 35184372088832) (hb : b.size ≤ 35184372088832) (K : AV → Heap → Prop) (hk : K (.dat (.bool ((foldM a).toList == (foldM b).toList))) []) : CallA (cx w0) 41 [.dat (.str a), .dat (.str b)] [] K := by
  refine CallA.ret ?_
  refine CallA.enter ok (dr (plOf [])) Tryz.func41 Tryz.call41 ?_
  refine call_at [] (fold_ok L a ha _ ?_) rfl rfl rfl rfl
  refine call_at [] (fold_ok L b hb _ ?_) rfl rfl rfl rfl
  exact leaf [] _ [] rfl rfl rfl rfl rfl hk
end Go.Abs.X

namespace Go.Abs.X
open Go.Abs Go Go.Proofs
variable {w0 : World}

def fffd : ByteArray := ⟨#[239, 191, 189]⟩
def checkFrom (s : ByteArray) : Nat → Nat → Nat → Int → Int
  | 0, _, n, last => if n > 16 ∨ last = 3 then 6 else 0
  | fuel + 1, pos, n, last => if pos < s.size then
      (if classM (Utf8.decode s pos).1 = 0 ∨ classM (Utf8.decode s pos).1 = 3 ∧ last = 3 ∨ (Utf8.decode s pos).1 = 65533 ∧ preM (s.extract pos s.size) fffd = false then 6
       else checkFrom s fuel (pos + (Utf8.decode s pos).2) (n + 1) (classM (Utf8.decode s pos).1))
    else if n > 16 ∨ last = 3 then 6 else 0
def checkM (s : ByteArray) : Int := if s.size = 0 ∨ s.size > 64 then 6 else checkFrom s s.size 0 0 3
theorem checkFrom_end (s : ByteArray) (fuel pos n : Nat) (last : Int) (h : ¬ pos < s.size) : checkFrom s fuel pos n last = if n > 16 ∨ last = 3 then 6 else 0 := by
  cases fuel with
  | zero => rfl
  | succ f => simp [checkFrom, h]
theorem wrap_i64 (n : Int) (h1 : -9223372036854775808 ≤ n) (h2 : n ≤ 9223372036854775807) : IntKind.i64.wrap n = n := by
  simp [IntKind.wrap, IntKind.bits, IntKind.signed]; omega

set_option maxHeartbeats 1000000 in
theorem check_ok (L : Laid w0) (s : ByteArray) (K : AV → Heap → Prop) (hk : K (.dat (.int .i64 (checkM s))) []) : CallA (cx w0) 79 [.dat (.str s)] [] K := by
  refine CallA.ret ?_
  refine CallA.enter ok (dr (plOf [])) Tryz.func79 Tryz.call79 ?_
  have fin : ∀ n, checkM s = n → K (.dat (.int .i64 n)) [] := fun n h => h ▸ hk
  by_cases c1 : s.size = 0
  · have e : s = ⟨#[]⟩ := by
      cases s with
      | mk d => simp only [ByteArray.size] at c1; rw [Array.eq_empty_of_size_eq_zero c1]
    subst e
    repeat (first | (refine condA_true ?_ ?_; focus (first | rfl | (simp; done))) | (refine condA_false ?_ ?_; focus (first | rfl | (simp; done))))
    exact leaf [] _ [] rfl rfl rfl rfl rfl (fin 6 (by unfold checkM; exact if_pos (Or.inl c1)))
  have c0 : (s.toList == (⟨#[]⟩ : ByteArray).toList) = false := by
    rw [Lib.toList_data, Lib.toList_data, beq_eq_false_iff_ne]
    intro h
    have := congrArg List.length h
    simp at this
    exact c1 (by simpa using this)
  by_cases c2 : 64 < s.size
  · repeat (first | (refine condA_true ?_ ?_; focus (first | (simp only [c0, Bool.not_false]; done) | (simp; omega))) | (refine condA_false ?_ ?_; focus (first | (simp only [c0, Bool.not_true]; done) | (simp; omega))))
    exact leaf [] _ [] rfl rfl rfl rfl rfl (fin 6 (by simp [checkM, c2]))
  repeat (first | (refine condA_true ?_ ?_; focus (first | (simp only [c0, Bool.not_false]; done) | (simp; omega))) | (refine condA_false ?_ ?_; focus (first | (simp only [c0, Bool.not_true]; done) | (simp; omega))))
  let E : Nat × Nat × Nat × Int → Env := fun x => mkE [0, 3, 4, 16] [.dat (.str s), .dat (.int .i64 x.2.2.1), .dat (.int .i64 x.2.2.2), .ptr 0 0]
  refine loop_in [0, 3, 4, 16] [0] [.dat (.str s), .dat (.int .i64 (0 : Nat)), .dat (.int .i64 3), .ptr 0 0] [some (.siter s 0)] rfl rfl rfl rfl (hin_cons rfl hin_nil) ?_
  refine loop_ind E (fun x => [some (.siter s x.2.1)]) (fun x => checkFrom s x.1 x.2.1 x.2.2.1 x.2.2.2 = checkM s ∧ s.size ≤ x.2.1 + x.1 ∧ x.2.2.1 ≤ x.2.1) (fun x => s.size - x.2.1) ?_ (s.size, 0, 0, 3) ⟨by simp only [checkM]; rw [if_neg (by omega)], by show s.size ≤ 0 + s.size; omega, Nat.le_refl 0⟩
  rintro ⟨fuel, pos, n, last⟩ ⟨hr, hf, hn⟩ ih
  replace hr : checkFrom s fuel pos n last = checkM s := hr
  replace hf : s.size ≤ pos + fuel := hf
  replace hn : n ≤ pos := hn
  refine loopA_round ok (dr (plOf []) _) ?_
  by_cases hp : pos < s.size
  · refine condA_true (by simpa using hp) ?_
    refine condA_true rfl ?_
    have hwd := width_pos s pos hp
    have hd1 := decode_le s pos
    obtain ⟨f, rfl⟩ : ∃ f, fuel = f + 1 := ⟨fuel - 1, by omega⟩
    simp only [checkFrom, hp, if_true] at hr
    refine call_at [] (class_ok L (Utf8.decode s pos).1 (by omega) (by omega) _ ?_) rfl rfl rfl rfl
    generalize classM (Utf8.decode s pos).1 = k at hr ⊢
    have on := fun hne : ¬ (k = 0 ∨ k = 3 ∧ last = 3 ∨ (Utf8.decode s pos).1 = 65533 ∧ preM (s.extract pos s.size) fffd = false) => ih (f, pos + (Utf8.decode s pos).2, n + 1, k) ⟨by rw [if_neg hne] at hr; exact hr, by show s.size ≤ pos + (Utf8.decode s pos).2 + f; omega, by show n + 1 ≤ pos + (Utf8.decode s pos).2; omega⟩ (by show s.size - (pos + (Utf8.decode s pos).2) < s.size - pos; omega)
    clear ih
    have hw : IntKind.i64.wrap ((n : Int) + 1) = ((n + 1 : Nat) : Int) := by rw [wrap_i64 _ (by omega) (by omega)]; omega
    by_cases k0 : k = 0
    · repeat (first | (refine condA_true ?_ ?_; focus (first | rfl | (simp; done) | (simp; omega) | (simp [k0]; done) | (simp [k0]; omega))) | (refine condA_false ?_ ?_; focus (first | rfl | (simp; done) | (simp; omega) | (simp [k0]; done) | (simp [k0]; omega))))
      exact leaf [] _ [] rfl rfl rfl rfl rfl (fin 6 (by rw [← hr, if_pos (Or.inl k0)]))
    by_cases k3 : k = 3 ∧ last = 3
    · obtain ⟨k3, l3⟩ := k3
      repeat (first | (refine condA_true ?_ ?_; focus (first | rfl | (simp; done) | (simp; omega) | (simp [k3]; done) | (simp [l3]; done) | (simp [k3]; omega) | (simp [l3]; omega) | (simp [k3, l3]; done))) | (refine condA_false ?_ ?_; focus (first | rfl | (simp; done) | (simp; omega) | (simp [k3]; done) | (simp [l3]; done) | (simp [k3]; omega) | (simp [l3]; omega) | (simp [k3, l3]; done))))
      exact leaf [] _ [] rfl rfl rfl rfl rfl (fin 6 (by rw [← hr, if_pos (Or.inr (Or.inl ⟨k3, l3⟩))]))
    by_cases hrr : (Utf8.decode s pos).1 = 65533
    · by_cases kk : k = 3
      · have l3 : last ≠ 3 := fun h => k3 ⟨kk, h⟩
        repeat (first | (refine condA_true ?_ ?_; focus (first | rfl | (simp; done) | (simp; omega) | (simp [kk]; done) | (simp [l3]; done) | (simp [hrr]; done) | (simp [kk]; omega) | (simp [l3]; omega) | (simp [hrr]; omega) | (simp [kk, l3]; done) | (simp [kk, hrr]; done) | (simp [l3, hrr]; done))) | (refine condA_false ?_ ?_; focus (first | rfl | (simp; done) | (simp; omega) | (simp [kk]; done) | (simp [l3]; done) | (simp [hrr]; done) | (simp [kk]; omega) | (simp [l3]; omega) | (simp [hrr]; omega) | (simp [kk, l3]; done) | (simp [kk, hrr]; done) | (simp [l3, hrr]; done))))
        refine req ?_ ?_
        · refine ⟨?_, ?_, ?_⟩ <;> (try simp) <;> omega
        repeat (first | (refine condA_true ?_ ?_; focus (first | rfl | (simp; done) | (simp; omega) | (simp [k0]; done) | (simp [kk]; done) | (simp [hrr]; done) | (simp [k0]; omega) | (simp [kk]; omega) | (simp [hrr]; omega) | (simp [k0, kk]; done) | (simp [k0, hrr]; done) | (simp [kk, hrr]; done))) | (refine condA_false ?_ ?_; focus (first | rfl | (simp; done) | (simp; omega) | (simp [k0]; done) | (simp [kk]; done) | (simp [hrr]; done) | (simp [k0]; omega) | (simp [kk]; omega) | (simp [hrr]; omega) | (simp [k0, kk]; done) | (simp [k0, hrr]; done) | (simp [kk, hrr]; done))))
        refine call_at [] (hasPrefix_ok (s.extract pos s.size) fffd _ ?_) rfl rfl rfl rfl
        by_cases pp : preM (s.extract pos s.size) fffd = false
        · repeat (first | (refine condA_true ?_ ?_; focus (first | rfl | (simp; done) | (simp; omega) | (simp [pp]; done) | (simp [pp]; omega))) | (refine condA_false ?_ ?_; focus (first | rfl | (simp; done) | (simp; omega) | (simp [pp]; done) | (simp [pp]; omega))))
          exact leaf [] _ [] rfl rfl rfl rfl rfl (fin 6 (by rw [← hr, if_pos (Or.inr (Or.inr ⟨hrr, pp⟩))]))
        · repeat (first | (refine condA_true ?_ ?_; focus (first | rfl | (simp; done) | (simp; omega) | (simp [pp]; done) | (simp [pp]; omega))) | (refine condA_false ?_ ?_; focus (first | rfl | (simp; done) | (simp; omega) | (simp [pp]; done) | (simp [pp]; omega))))
          exact loop_in [0, 3, 4, 16] [0] [.dat (.str s), .dat (.int .i64 ((n + 1 : Nat) : Int)), .dat (.int .i64 k), .ptr 0 0] [some (.siter s (pos + (Utf8.decode s pos).2))] (by rw [← hw]; rfl) rfl rfl rfl (hin_cons rfl hin_nil) (on (by rintro (h | h | h); exact k0 h; exact k3 h; exact pp h.2))
      · repeat (first | (refine condA_true ?_ ?_; focus (first | rfl | (simp; done) | (simp; omega) | (simp [k0]; done) | (simp [kk]; done) | (simp [hrr]; done) | (simp [k0]; omega) | (simp [kk]; omega) | (simp [hrr]; omega) | (simp [k0, kk]; done) | (simp [k0, hrr]; done) | (simp [kk, hrr]; done))) | (refine condA_false ?_ ?_; focus (first | rfl | (simp; done) | (simp; omega) | (simp [k0]; done) | (simp [kk]; done) | (simp [hrr]; done) | (simp [k0]; omega) | (simp [kk]; omega) | (simp [hrr]; omega) | (simp [k0, kk]; done) | (simp [k0, hrr]; done) | (simp [kk, hrr]; done))))
        refine req ?_ ?_
        · refine ⟨?_, ?_, ?_⟩ <;> (try simp) <;> omega
        repeat (first | (refine condA_true ?_ ?_; focus (first | rfl | (simp; done) | (simp; omega) | (simp [k0]; done) | (simp [kk]; done) | (simp [hrr]; done) | (simp [k0]; omega) | (simp [kk]; omega) | (simp [hrr]; omega) | (simp [k0, kk]; done) | (simp [k0, hrr]; done) | (simp [kk, hrr]; done))) | (refine condA_false ?_ ?_; focus (first | rfl | (simp; done) | (simp; omega) | (simp [k0]; done) | (simp [kk]; done) | (simp [hrr]; done) | (simp [k0]; omega) | (simp [kk]; omega) | (simp [hrr]; omega) | (simp [k0, kk]; done) | (simp [k0, hrr]; done) | (simp [kk, hrr]; done))))
        refine call_at [] (hasPrefix_ok (s.extract pos s.size) fffd _ ?_) rfl rfl rfl rfl
        by_cases pp : preM (s.extract pos s.size) fffd = false
        · repeat (first | (refine condA_true ?_ ?_; focus (first | rfl | (simp; done) | (simp; omega) | (simp [pp]; done) | (simp [pp]; omega))) | (refine condA_false ?_ ?_; focus (first | rfl | (simp; done) | (simp; omega) | (simp [pp]; done) | (simp [pp]; omega))))
          exact leaf [] _ [] rfl rfl rfl rfl rfl (fin 6 (by rw [← hr, if_pos (Or.inr (Or.inr ⟨hrr, pp⟩))]))
        · repeat (first | (refine condA_true ?_ ?_; focus (first | rfl | (simp; done) | (simp; omega) | (simp [pp]; done) | (simp [pp]; omega))) | (refine condA_false ?_ ?_; focus (first | rfl | (simp; done) | (simp; omega) | (simp [pp]; done) | (simp [pp]; omega))))
          exact loop_in [0, 3, 4, 16] [0] [.dat (.str s), .dat (.int .i64 ((n + 1 : Nat) : Int)), .dat (.int .i64 k), .ptr 0 0] [some (.siter s (pos + (Utf8.decode s pos).2))] (by rw [← hw]; rfl) rfl rfl rfl (hin_cons rfl hin_nil) (on (by rintro (h | h | h); exact k0 h; exact k3 h; exact pp h.2))
    · by_cases kk : k = 3
      · have l3 : last ≠ 3 := fun h => k3 ⟨kk, h⟩
        repeat (first | (refine condA_true ?_ ?_; focus (first | rfl | (simp; done) | (simp; omega) | (simp [kk]; done) | (simp [l3]; done) | (simp [hrr]; done) | (simp [kk]; omega) | (simp [l3]; omega) | (simp [hrr]; omega) | (simp [kk, l3]; done) | (simp [kk, hrr]; done) | (simp [l3, hrr]; done))) | (refine condA_false ?_ ?_; focus (first | rfl | (simp; done) | (simp; omega) | (simp [kk]; done) | (simp [l3]; done) | (simp [hrr]; done) | (simp [kk]; omega) | (simp [l3]; omega) | (simp [hrr]; omega) | (simp [kk, l3]; done) | (simp [kk, hrr]; done) | (simp [l3, hrr]; done))))
        exact loop_in [0, 3, 4, 16] [0] [.dat (.str s), .dat (.int .i64 ((n + 1 : Nat) : Int)), .dat (.int .i64 k), .ptr 0 0] [some (.siter s (pos + (Utf8.decode s pos).2))] (by rw [← hw]; rfl) rfl rfl rfl (hin_cons rfl hin_nil) (on (by rintro (h | h | h); exact k0 h; exact k3 h; exact hrr h.1))
      · repeat (first | (refine condA_true ?_ ?_; focus (first | rfl | (simp; done) | (simp; omega) | (simp [k0]; done) | (simp [kk]; done) | (simp [hrr]; done) | (simp [k0]; omega) | (simp [kk]; omega) | (simp [hrr]; omega) | (simp [k0, kk]; done) | (simp [k0, hrr]; done) | (simp [kk, hrr]; done))) | (refine condA_false ?_ ?_; focus (first | rfl | (simp; done) | (simp; omega) | (simp [k0]; done) | (simp [kk]; done) | (simp [hrr]; done) | (simp [k0]; omega) | (simp [kk]; omega) | (simp [hrr]; omega) | (simp [k0, kk]; done) | (simp [k0, hrr]; done) | (simp [kk, hrr]; done))))
        exact loop_in [0, 3, 4, 16] [0] [.dat (.str s), .dat (.int .i64 ((n + 1 : Nat) : Int)), .dat (.int .i64 k), .ptr 0 0] [some (.siter s (pos + (Utf8.decode s pos).2))] (by rw [← hw]; rfl) rfl rfl rfl (hin_cons rfl hin_nil) (on (by rintro (h | h | h); exact k0 h; exact k3 h; exact hrr h.1))
  · refine condA_false (by simpa using hp) ?_
    refine condA_false rfl ?_
    rw [checkFrom_end s fuel pos n last hp] at hr
    by_cases c3 : 16 < n
    · repeat (first | (refine condA_true ?_ ?_; focus (first | rfl | (simp; omega))) | (refine condA_false ?_ ?_; focus (first | rfl | (simp; omega))))
      exact leaf [] _ [] rfl rfl rfl rfl rfl (fin 6 (by rw [← hr, if_pos (by omega)]))
    by_cases c4 : last = 3
    · repeat (first | (refine condA_true ?_ ?_; focus (first | rfl | (simp; done) | (simp; omega) | (simp [c4]; done) | (simp [c4]; omega))) | (refine condA_false ?_ ?_; focus (first | rfl | (simp; done) | (simp; omega) | (simp [c4]; done) | (simp [c4]; omega))))
      exact leaf [] _ [] rfl rfl rfl rfl rfl (fin 6 (by rw [← hr, if_pos (by omega)]))
    repeat (first | (refine condA_true ?_ ?_; focus (first | rfl | (simp; done) | (simp; omega) | (simp [c4]; done) | (simp [c4]; omega))) | (refine condA_false ?_ ?_; focus (first | rfl | (simp; done) | (simp; omega) | (simp [c4]; done) | (simp [c4]; omega))))
    exact leaf [] _ [] rfl rfl rfl rfl rfl (fin 0 (by rw [← hr, if_neg (by omega)]))
end Go.Abs.X

namespace Go.Abs.X
open Go.Abs Go Go.Proofs

/-! Maps as lists of pairs. -/
section
variable {κ ν : Type} [DecidableEq κ]
def lk (l : List (κ × ν)) (k : κ) : Option ν := match l with
  | [] => none
  | p :: r => if k = p.1 then some p.2 else lk r k
def ins (l : List (κ × ν)) (k : κ) (v : ν) : List (κ × ν) := match l with
  | [] => [(k, v)]
  | p :: r => if k = p.1 then (k, v) :: r else p :: ins r k v
def del (l : List (κ × ν)) (k : κ) : List (κ × ν) := match l with
  | [] => []
  | p :: r => if k = p.1 then r else p :: del r k
structure Enc (κ ν : Type) [DecidableEq κ] where
  k : κ → DV
  v : κ → ν → DV
  eq : ∀ a b, keyEq (k a) (k b) = some (decide (a = b))
def Enc.e (E : Enc κ ν) (p : κ × ν) : DV × DV := (E.k p.1, E.v p.1 p.2)
variable (E : Enc κ ν)
theorem find_enc (l : List (κ × ν)) (k : κ) : findE (l.map E.e) (E.k k) = some ((lk l k).map (E.v k)) := by
  induction l with
  | nil => rfl
  | cons p r ih =>
    simp only [List.map_cons, findE, Enc.e, E.eq, lk]
    by_cases h : k = p.1
    · subst h; simp
    · simp [h, ← ih]
theorem ins_enc (l : List (κ × ν)) (k : κ) (v : ν) : insE (l.map E.e) (E.k k) (E.v k v) = (ins l k v).map E.e := by
  induction l with
  | nil => rfl
  | cons p r ih =>
    simp only [List.map_cons, insE, Enc.e, E.eq, ins]
    by_cases h : k = p.1
    · subst h; simp [Enc.e]
    · simp [h, ← ih, Enc.e]
theorem del_enc (l : List (κ × ν)) (k : κ) : delE (l.map E.e) (E.k k) = (del l k).map E.e := by
  induction l with
  | nil => rfl
  | cons p r ih =>
    simp only [List.map_cons, delE, Enc.e, E.eq, del]
    by_cases h : k = p.1
    · subst h; simp
    · simp [h, ← ih, Enc.e]
theorem isSome_enc (l : List (κ × ν)) (k : κ) : (findE (l.map E.e) (E.k k)).isSome = true := by rw [find_enc]; rfl
theorem look_enc {l : List (κ × ν)} {k : κ} {K : Option DV → Prop} (h0 : lk l k = none → K none) (h1 : ∀ v, lk l k = some v → K (some (E.v k v))) : LookA (l.map E.e) (E.k k) K := by
  refine lookA _ (find_enc E l k) ?_
  cases h : lk l k with
  | none => exact h0 h
  | some v => exact h1 v h
end
theorem lk_mem {κ ν : Type} [DecidableEq κ] {l : List (κ × ν)} {k : κ} {v : ν} (h : lk l k = some v) : (k, v) ∈ l := by
  induction l with
  | nil => simp [lk] at h
  | cons p r ih =>
    simp only [lk] at h
    split at h
    · rename_i e; cases h; rw [e]; simp
    · exact List.mem_cons_of_mem _ (ih h)
theorem ren_mapD {f : Nat → Nat} {es es' : List (DV × DV)} (h : es = es') : some (AB.mapD es) = some (renB f (.mapD es')) := by rw [h]; rfl

theorem drop_flat {α : Type} {f : α → List DV} {z : Nat} (hz : ∀ x, (f x).length = z) : ∀ (l : List α) (i : Nat), (flatD f l).drop (i * z) = flatD f (l.drop i)
  | [], i => by simp [flatD]
  | x :: r, 0 => by simp
  | x :: r, i + 1 => by
    simp only [flatD, List.drop_succ_cons]
    have e : (i + 1) * z = (f x).length + i * z := by rw [hz, Nat.add_mul, Nat.one_mul, Nat.add_comm]
    rw [e, List.drop_length_add_append]
    exact drop_flat hz r i
theorem cutD_flat {α : Type} {f : α → List DV} {z : Nat} (hz : ∀ x, (f x).length = z) {ti : TyI} (ht : ti.k.isAgg = true) (hs : ti.size = z) {l : List α} {i : Nat} {x : α} (hi : l[i]? = some x) : cutD ti (flatD f l) (i * z) = some (.agg (f x)) := by
  have hd : l.drop i = x :: l.drop (i + 1) := by
    obtain ⟨h, rfl⟩ := List.getElem?_eq_some_iff.1 hi
    exact List.drop_eq_getElem_cons h
  unfold cutD
  rw [ht, hs, ltake_eq, ldrop_eq, drop_flat hz, hd]
  simp only [flatD]
  rw [List.take_append_of_le_length (by rw [hz]; exact Nat.le_refl _), List.take_of_length_le (by rw [hz]; exact Nat.le_refl _), hz]
  simp
theorem nth_flat {α : Type} {f : α → DV} {l : List α} {i : Nat} {x : α} (hi : l[i]? = some x) : nth (flatD (fun x => [f x]) l) i = some (f x) := by
  rw [nth_eq]
  have h := drop_flat (f := fun x => [f x]) (z := 1) (fun _ => rfl) l i
  have hd : l.drop i = x :: l.drop (i + 1) := by
    obtain ⟨h, rfl⟩ := List.getElem?_eq_some_iff.1 hi
    exact List.drop_eq_getElem_cons h
  rw [hd] at h
  have : (flatD (fun x => [f x]) l)[i]? = ((flatD (fun x => [f x]) l).drop (i * 1))[0]? := by simp
  rw [this, h]; simp [flatD]

/-! Rooms. -/
abbrev PeerV := ByteArray × ByteArray   -- the name, the room
def peerD (n : Int) (name room : ByteArray) : DV := .agg [.int .i64 n, .str name, .str room]
def EP : Enc Int PeerV := ⟨i64, fun n p => peerD n p.1 p.2, fun a b => by simp only [i64, keyEq, keyEq1, kEq]; congr⟩
structure Tb where
  next : Int
  peers : List (Int × PeerV)
structure TbOK (t : Tb) : Prop where
  sz : ∀ p ∈ t.peers, p.2.1.size ≤ 64 ∧ p.2.2.size ≤ 64
  len : t.peers.length ≤ 200000
  nd : (t.peers.map (·.1)).Nodup
  next : 0 ≤ t.next ∧ t.next ≤ 65536
theorem TbOK.lk {t : Tb} (h : TbOK t) {n : Int} {p : PeerV} (hp : lk t.peers n = some p) : p.1.size ≤ 35184372088832 ∧ p.2.size ≤ 35184372088832 := by
  have := h.sz _ (lk_mem hp)
  simp only at this; omega
def sameM (a b : ByteArray) : Bool := (foldM a).toList == (foldM b).toList
def togetherM (t : Tb) (a b : Int) : Bool := match lk t.peers a, lk t.peers b with
  | some p, some q => decide (a ≠ b) && sameM p.2 q.2
  | _, _ => false
def peerM (t : Tb) (n : Int) : DV × Bool := match lk t.peers n with
  | some p => (peerD n p.1 p.2, true)
  | none => (peerD 0 ByteArray.empty ByteArray.empty, false)
end Go.Abs.X

namespace Go.Abs.X
open Go.Abs Go Go.Proofs
variable {w0 : World}

def Tb.h (t : Tb) : Heap := [some (.cells [.map 1, .dat (.int .i64 t.next)] 107 false), some (.mapD (t.peers.map EP.e))]
theorem len_ok (t : Tb) (K : AV → Heap → Prop) (hk : K (.dat (.int .i64 (t.peers.length : Nat))) t.h) : CallA (cx w0) 22 [.ptr 0 0] t.h K := by
  refine CallA.ret ?_
  refine CallA.enter ok (dr (plOf [])) Tryz.func22 Tryz.call22 ?_
  refine leaf_in [0, 1] (.dat (.int .i64 (t.peers.length : Nat))) t.h ?_ rfl rfl rfl (hin_cons rfl (hin_cons rfl hin_nil)) hk
  show AV.dat _ = AV.dat (.int .i64 (((t.peers.map EP.e).length : Nat) : Int))
  rw [List.length_map]
theorem peer_ok (t : Tb) (n : Int) (K : AV → Heap → Prop) (hk : K (.dat (.tup [(peerM t n).1, .bool (peerM t n).2])) t.h) : CallA (cx w0) 15 [.ptr 0 0, .dat (.int .i64 n)] t.h K := by
  refine CallA.ret ?_
  refine CallA.enter ok (dr (plOf [])) Tryz.func15 Tryz.call15 ?_
  refine look_enc EP (fun h => ?_) (fun p h => ?_)
  all_goals
    simp only [peerM, h] at hk
    exact leaf [0, 1] _ t.h rfl rfl rfl rfl rfl hk
theorem leave_ok (t : Tb) (n : Int) (K : AV → Heap → Prop) (h0 : lk t.peers n = none → K (.dat (.int .i64 8)) t.h) (h1 : ∀ p, lk t.peers n = some p → K (.dat (.int .i64 0)) (Tb.h ⟨t.next, del t.peers n⟩)) : CallA (cx w0) 85 [.ptr 0 0, .dat (.int .i64 n)] t.h K := by
  refine CallA.ret ?_
  refine CallA.enter ok (dr (plOf [])) Tryz.func85 Tryz.call85 ?_
  refine look_enc EP (fun h => ?_) (fun p h => ?_)
  · refine condA_true rfl ?_
    exact leaf [0, 1] _ t.h rfl rfl rfl rfl rfl (h0 h)
  · refine condA_false rfl ?_
    refine req (isSome_enc EP _ _) ?_
    exact leaf_in [0, 1] (.dat (.int .i64 0)) (Tb.h ⟨t.next, del t.peers n⟩) rfl rfl rfl rfl (hin_cons rfl (hin_cons (ren_mapD (del_enc EP _ _)) hin_nil)) (h1 p h)
theorem together_ok (L : Laid w0) (t : Tb) (ht : TbOK t) (a b : Int) (K : AV → Heap → Prop) (hk : K (.dat (.bool (togetherM t a b))) t.h) : CallA (cx w0) 14 [.ptr 0 0, .dat (.int .i64 a), .dat (.int .i64 b)] t.h K := by
  refine CallA.ret ?_
  refine CallA.enter ok (dr (plOf [])) Tryz.func14 Tryz.call14 ?_
  have fin : ∀ c, togetherM t a b = c → K (.dat (.bool c)) t.h := fun n h => h ▸ hk
  refine look_enc EP (fun ha => ?_) (fun p ha => ?_)
  · refine look_enc EP (fun hb => ?_) (fun q hb => ?_)
    all_goals
      repeat (first | (refine condA_true ?_ ?_; focus (first | rfl | (simp; done) | (simp; omega) | (simp [ha]; done) | (simp [ha]; omega))) | (refine condA_false ?_ ?_; focus (first | rfl | (simp; done) | (simp; omega) | (simp [ha]; done) | (simp [ha]; omega))))
      exact leaf [0, 1] _ t.h rfl rfl rfl rfl rfl (fin false (by simp [togetherM, ha]))
  · refine look_enc EP (fun hb => ?_) (fun q hb => ?_)
    · repeat (first | (refine condA_true ?_ ?_; focus (first | rfl | (simp; done) | (simp; omega) | (simp [ha]; done) | (simp [ha]; omega))) | (refine condA_false ?_ ?_; focus (first | rfl | (simp; done) | (simp; omega) | (simp [ha]; done) | (simp [ha]; omega))))
      exact leaf [0, 1] _ t.h rfl rfl rfl rfl rfl (fin false (by simp [togetherM, ha, hb]))
    · by_cases hab : a = b
      · repeat (first | (refine condA_true ?_ ?_; focus (first | rfl | (simp; done) | (simp; omega) | (simp [hab]; done) | (simp [hab]; omega))) | (refine condA_false ?_ ?_; focus (first | rfl | (simp; done) | (simp; omega) | (simp [hab]; done) | (simp [hab]; omega))))
        exact leaf [0, 1] _ t.h rfl rfl rfl rfl rfl (fin false (by simp [togetherM, ha, hb, hab]))
      · repeat (first | (refine condA_true ?_ ?_; focus (first | rfl | (simp; done) | (simp; omega) | (simp [hab]; done) | (simp [hab]; omega))) | (refine condA_false ?_ ?_; focus (first | rfl | (simp; done) | (simp; omega) | (simp [hab]; done) | (simp [hab]; omega))))
        refine call_at [] (same_ok L p.2 q.2 (ht.lk ha).2 (ht.lk hb).2 _ ?_) rfl rfl rfl rfl
        repeat (first | (refine condA_true ?_ ?_; focus (first | rfl | (simp; done) | (simp; omega) | (simp [hab]; done) | (simp [hab]; omega))) | (refine condA_false ?_ ?_; focus (first | rfl | (simp; done) | (simp; omega) | (simp [hab]; done) | (simp [hab]; omega))))
        exact leaf [0, 1] _ t.h rfl rfl rfl rfl rfl (fin _ (by simp only [togetherM, ha, hb, sameM]; simp [hab]))
end Go.Abs.X

namespace Go.Abs.X
open Go.Abs Go Go.Proofs

theorem sort_perm {α : Type} {le : α → α → Bool} (tr : ∀ a b c, le a b = true → le b c = true → le a c = true) (to : ∀ a b, (le a b || le b a) = true) (an : ∀ a b, le a b = true → le b a = true → a = b) {l m : List α} (h : l.Perm m) : l.mergeSort le = m.mergeSort le :=
  List.Perm.eq_of_pairwise (le := fun a b => le a b = true) (fun a b _ _ => an a b) (List.pairwise_mergeSort tr to l) (List.pairwise_mergeSort tr to m) ((List.mergeSort_perm l le).trans (h.trans (List.mergeSort_perm m le).symm))
theorem sortI_perm {l m : List Int} (h : l.Perm m) : sortI l = sortI m :=
  sort_perm (fun a b c => by simp only [decide_eq_true_eq]; omega) (fun a b => by simp only [Bool.or_eq_true, decide_eq_true_eq]; omega) (fun a b => by simp only [decide_eq_true_eq]; omega) h
theorem leL_iff (x y : LinkT) : leL x y = true ↔ ¬ (y.who < x.who ∨ y.who = x.who ∧ (y.peer < x.peer ∨ y.peer = x.peer ∧ y.n < x.n)) := by
  simp only [leL, Proofs.ltOf, Bool.not_eq_true', decide_eq_false_iff_not, cmpL_lt]
theorem sortL_perm {l m : List LinkT} (h : l.Perm m) : sortL l = sortL m :=
  sort_perm (fun a b c h1 h2 => by rw [leL_iff] at *; omega) (fun a b => by rw [Bool.or_eq_true, leL_iff, leL_iff]; omega) (fun a b h1 h2 => by
    rw [leL_iff] at h1 h2
    obtain ⟨a1, a2, a3⟩ := a
    obtain ⟨b1, b2, b3⟩ := b
    simp only at h1 h2
    have e1 : a1 = b1 := by omega
    have e2 : a2 = b2 := by omega
    have e3 : a3 = b3 := by omega
    rw [e1, e2, e3]) h
theorem sortS_perm {l m : List ByteArray} (h : l.Perm m) : sortS l = sortS m := by
  unfold sortS
  rw [sort_perm (le := fun x y : List UInt8 => decide (x ≤ y)) (fun a b c h1 h2 => by simp only [decide_eq_true_eq] at *; exact List.le_trans h1 h2) (fun a b => by simp only [Bool.or_eq_true, decide_eq_true_eq]; exact List.le_total a b) (fun a b h1 h2 => by simp only [decide_eq_true_eq] at *; exact List.le_antisymm h1 h2) (h.map bytesL)]
theorem perm_of_map {α : Type} {f : α → DV} (hf : ∀ a b, f a = f b → a = b) {l m : List α} (h : (l.map f).Perm (m.map f)) : l.Perm m := by
  induction l generalizing m with
  | nil =>
    have := h.length_eq
    simp at this
    rw [List.eq_nil_of_length_eq_zero this.symm]
  | cons x r ih =>
    have hx : f x ∈ m.map f := h.subset (by simp)
    obtain ⟨y, hy, he⟩ := List.mem_map.1 hx
    have := hf _ _ he
    subst this
    obtain ⟨a, b, rfl⟩ := List.append_of_mem hy
    have h2 : (r.map f).Perm ((a ++ b).map f) := by
      have : (f y :: r.map f).Perm (f y :: ((a ++ b).map f)) := h.trans (by simp only [List.map_append, List.map_cons]; exact List.perm_middle)
      exact this.cons_inv
    exact (ih h2).cons y |>.trans List.perm_middle.symm

theorem nth_flat1 {α : Type} {f : α → DV} {l : List α} {i : Nat} {x : α} (hi : l[i]? = some x) : nth (flatD (fun x => [f x]) l) (i * 1) = some (f x) := by rw [Nat.mul_one]; exact nth_flat hi

/-! Those in a room. -/
def flatP (p : Int × PeerV) : List DV := [i64 p.1, .str p.2.1, .str p.2.2]
def peersD (ps : List (Int × PeerV)) : List DV := flatD flatP ps
def peersV (ps : List (Int × PeerV)) : DV := match ps with
  | [] => .nils
  | p :: r => .ros (peersD (p :: r)) (p :: r).length none
theorem peersV_cons (ps : List (Int × PeerV)) (h : ps ≠ []) : peersV ps = .ros (peersD ps) ps.length none := by
  cases ps with
  | nil => exact absurd rfl h
  | cons p r => rfl
def Tb.keys (t : Tb) : List Int := sortI (t.peers.map (·.1))
def inF (t : Tb) (room : ByteArray) (n : Int) : Option (Int × PeerV) := match lk t.peers n with
  | some p => if sameM p.2 room then some (n, p) else none
  | none => none
def inM (t : Tb) (room : ByteArray) : List (Int × PeerV) := t.keys.filterMap (inF t room)
theorem lk_some {κ ν : Type} [DecidableEq κ] {l : List (κ × ν)} {k : κ} (h : k ∈ l.map (·.1)) : ∃ v, lk l k = some v := by
  induction l with
  | nil => simp at h
  | cons p r ih =>
    simp only [lk]
    split
    · exact ⟨_, rfl⟩
    · rename_i hne
      simp only [List.map_cons, List.mem_cons] at h
      exact ih (h.resolve_left hne)
theorem Tb.keys_lk (t : Tb) {n : Int} (h : n ∈ t.keys) : ∃ p, lk t.peers n = some p :=
  lk_some ((List.mergeSort_perm _ _).subset h)
theorem Tb.keys_length (t : Tb) : t.keys.length = t.peers.length := by simp [Tb.keys, sortI]
/-- what a slice that grows holds -/
def outS (id z n : Nat) : AV := match n with
  | 0 => .dat .nils
  | n + 1 => .sl id 0 (n + 1) none z
end Go.Abs.X

namespace Go.Abs.X
open Go.Abs Go Go.Proofs
variable {w0 : World}

theorem Tb.keysEs (t : Tb) : ∀ e ∈ t.peers.map EP.e, ∃ l : Int, e.1 = i64 l := fun e he => by
  obtain ⟨p, _, rfl⟩ := List.mem_map.1 he
  exact ⟨p.1, rfl⟩
theorem Tb.keys_of (t : Tb) {ks : List Int} (h : (ks.map i64).Perm ((t.peers.map EP.e).map (·.1))) : sortI ks = t.keys := by
  apply sortI_perm
  apply perm_of_map (f := i64) (fun a b h => by simpa [i64] using h)
  refine h.trans ?_
  rw [List.map_map, List.map_map]
  exact List.Perm.refl _

set_option maxHeartbeats 1000000 in
theorem in_ok (L : Laid w0) (t : Tb) (ht : TbOK t) (room : ByteArray) (hr : room.size ≤ 35184372088832) (K : AV → Heap → Prop) (hk : K (.dat (peersV (inM t room))) t.h) :
    CallA (cx w0) 81 [.ptr 0 0, .dat (.str room)] t.h K := by
  refine CallA.ret ?_
  refine CallA.enter ok (dr (plOf [])) Tryz.func81 Tryz.call81 ?_
  refine call_at [1] (keysInt_ok (t.peers.map EP.e) _ ?_) rfl rfl rfl rfl
  refine call_at [1, 2] (sortedInt_ok (t.peers.map EP.e) t.keysEs (by rw [List.length_map]; have := ht.len; omega) _ (fun ks hp => ?_)) rfl rfl rfl rfl
  rw [t.keys_of hp]
  have hl : t.keys.length ≤ 200000 := by rw [t.keys_length]; exact ht.len
  have hlk : ∀ n ∈ t.keys, ∃ p, lk t.peers n = some p := fun n h => t.keys_lk h
  unfold inM at hk
  generalize t.keys = S at hk hl hlk ⊢
  clear hp ks
  by_cases hS : S = []
  · subst hS
    refine loopA_round ok (dr (plOf []) _) ?_
    refine condA_false rfl ?_
    exact leaf [0, 1] (.dat .nils) t.h rfl rfl rfl rfl rfl hk
  rw [valInt_cons S hS]
  let E : Nat × List (Int × PeerV) × Nat → Env := fun x => mkE [0, 1, 5, 14, 15, 16] [.ptr 0 0, .dat (.str room), outS 2 3 x.2.2, .dat (.ros (intsD S) S.length none), .dat (.int .i64 (S.length : Nat)), .dat (.int .i64 (x.1 : Nat))]
  let H : Nat × List (Int × PeerV) × Nat → Heap := fun x => t.h ++ apBl 45 (peersD x.2.1) x.2.2
  refine loop_in [0, 1, 5, 14, 15, 16] [0, 1] [.ptr 0 0, .dat (.str room), .dat .nils, .dat (.ros (intsD S) S.length none), .dat (.int .i64 (S.length : Nat)), .dat (.int .i64 (0 : Nat))] t.h rfl rfl rfl rfl (hin_cons rfl (hin_cons rfl hin_nil)) ?_
  refine loop_ind E H (fun x => x.1 ≤ S.length ∧ x.2.1 = (S.take x.1).filterMap (inF t room) ∧ x.2.1.length = x.2.2 ∧ x.2.2 ≤ x.1) (fun x => S.length - x.1) ?_ (0, [], 0) ⟨Nat.zero_le _, rfl, rfl, Nat.le_refl _⟩
  rintro ⟨i, acc, n⟩ ⟨hi, hacc, hn, hni⟩ ih
  replace hi : i ≤ S.length := hi
  replace hacc : acc = (S.take i).filterMap (inF t room) := hacc
  replace hn : acc.length = n := hn
  replace hni : n ≤ i := hni
  by_cases hlt : i < S.length
  · obtain ⟨p, hp⟩ := hlk S[i] (by simp)
    have hSi : S[i]? = some S[i] := by simp [hlt]
    have hw : IntKind.i64.wrap ((i : Int) + 1) = ((i + 1 : Nat) : Int) := by rw [wrap_i64 _ (by omega) (by omega)]; omega
    have htk : S.take (i + 1) = S.take i ++ [S[i]] := List.take_succ_eq_append_getElem hlt
    have goY := fun (h : sameM p.2 room = true) => ih (i + 1, acc ++ [(S[i], p)], n + 1) ⟨hlt, by show acc ++ _ = _; rw [htk, List.filterMap_append, ← hacc]; simp [inF, hp, h], by show (acc ++ _).length = _; simp [hn], by show n + 1 ≤ i + 1; omega⟩ (by show S.length - (i + 1) < S.length - i; omega)
    have goN := fun (h : sameM p.2 room = false) => ih (i + 1, acc, n) ⟨hlt, by show acc = _; rw [htk, List.filterMap_append, ← hacc]; simp [inF, hp, h], hn, by show n ≤ i + 1; omega⟩ (by show S.length - (i + 1) < S.length - i; omega)
    clear ih
    cases n with
    | zero =>
      obtain rfl : acc = [] := List.eq_nil_of_length_eq_zero hn
      refine loopA_round ok (dr (plOf []) _) ?_
      refine condA_true (by simpa using hlt) ?_
      refine req ⟨by simp, by simpa using hlt⟩ ?_
      refine optA (i64 S[i]) ?_ ?_
      · exact nth_flat1 (f := i64) hSi
      refine look_enc EP (fun h => ?_) (fun q hq => ?_)
      · rw [hp] at h; cases h
      obtain rfl : p = q := by rw [hp] at hq; exact Option.some.inj hq
      refine call_at [] (same_ok L p.2 room (ht.lk hp).2 hr _ ?_) rfl rfl rfl rfl
      by_cases hs : sameM p.2 room = true
      · refine condA_true hs ?_
        refine appA (by decide) ⟨rfl, allCell_iff.1 rfl, by decide, by decide⟩ ?_
        refine loop_in [0, 1, 5, 14, 15, 16] [0, 1, 4] [.ptr 0 0, .dat (.str room), .sl 2 0 1 none 3, .dat (.ros (intsD S) S.length none), .dat (.int .i64 (S.length : Nat)), .dat (.int .i64 ((i + 1 : Nat) : Int))] (H (i + 1, [(S[i], p)], 1)) (by rw [← hw]; rfl) rfl rfl rfl (hin_cons rfl (hin_cons rfl (hin_cons rfl hin_nil))) (goY hs)
      · have hs : sameM p.2 room = false := by simpa using hs
        refine condA_false hs ?_
        exact loop_in [0, 1, 5, 14, 15, 16] [0, 1] [.ptr 0 0, .dat (.str room), .dat .nils, .dat (.ros (intsD S) S.length none), .dat (.int .i64 (S.length : Nat)), .dat (.int .i64 ((i + 1 : Nat) : Int))] t.h (by rw [← hw]; rfl) rfl rfl rfl (hin_cons rfl (hin_cons rfl hin_nil)) (goN hs)
    | succ m =>
      refine loopA_round ok (dr (plOf []) _) ?_
      refine condA_true (by simpa using hlt) ?_
      refine req ⟨by simp, by simpa using hlt⟩ ?_
      refine optA (i64 S[i]) ?_ ?_
      · exact nth_flat1 (f := i64) hSi
      refine look_enc EP (fun h => ?_) (fun q hq => ?_)
      · rw [hp] at h; cases h
      obtain rfl : p = q := by rw [hp] at hq; exact Option.some.inj hq
      refine call_at [] (same_ok L p.2 room (ht.lk hp).2 hr _ ?_) rfl rfl rfl rfl
      by_cases hs : sameM p.2 room = true
      · refine condA_true hs ?_
        refine appA (by decide) ⟨?_, rfl, allCell_iff.1 rfl, ?_, ?_⟩ ?_
        · rw [List.length_map, peersD, flatD_length (z := 3) (fun _ => rfl), hn]
        · show (m + 1 + 1) * 40 ≤ _
          omega
        · show m + 1 + 1 ≤ maxLen
          unfold maxLen; omega
        refine loop_in [0, 1, 5, 14, 15, 16] [0, 1, 5] [.ptr 0 0, .dat (.str room), .sl 2 0 (m + 1 + 1) none 3, .dat (.ros (intsD S) S.length none), .dat (.int .i64 (S.length : Nat)), .dat (.int .i64 ((i + 1 : Nat) : Int))] (H (i + 1, acc ++ [(S[i], p)], m + 1 + 1)) (by rw [← hw]; rfl) rfl rfl rfl (hin_cons rfl (hin_cons rfl (hin_cons (renTs_datC (by rw [peersD, peersD, flatD_append, flatD_one, List.map_append]; rfl)) hin_nil))) (goY hs)
      · have hs : sameM p.2 room = false := by simpa using hs
        refine condA_false hs ?_
        exact loop_in [0, 1, 5, 14, 15, 16] [0, 1, 2] [.ptr 0 0, .dat (.str room), .sl 2 0 (m + 1) none 3, .dat (.ros (intsD S) S.length none), .dat (.int .i64 (S.length : Nat)), .dat (.int .i64 ((i + 1 : Nat) : Int))] (H (i + 1, acc, m + 1)) (by rw [← hw]; rfl) rfl rfl rfl (hin_cons rfl (hin_cons rfl (hin_cons (renTs_datC rfl) hin_nil))) (goN hs)
  · obtain rfl : i = S.length := by omega
    rw [List.take_length] at hacc
    cases n with
    | zero =>
      obtain rfl : acc = [] := List.eq_nil_of_length_eq_zero hn
      rw [← hacc] at hk
      refine loopA_round ok (dr (plOf []) _) ?_
      refine condA_false (by simp) ?_
      exact leaf [0, 1] (.dat .nils) t.h rfl rfl rfl rfl rfl hk
    | succ m =>
      rw [← hacc, peersV_cons acc (by intro h; simp [h] at hn), hn] at hk
      refine loopA_round ok (dr (plOf []) _) ?_
      refine condA_false (by simp) ?_
      refine shift_frz' 2 (peersD acc) rfl rfl ?_
      exact leaf [0, 1] (.dat (.ros (peersD acc) (m + 1) none)) t.h rfl rfl rfl rfl rfl hk
end Go.Abs.X

namespace Go.Abs.X
open Go.Abs Go Go.Proofs

theorem perm_of_map2 {α β : Type} {f : α → β} (hf : ∀ a b, f a = f b → a = b) {l m : List α} (h : (l.map f).Perm (m.map f)) : l.Perm m := by
  induction l generalizing m with
  | nil =>
    have := h.length_eq
    simp at this
    rw [List.eq_nil_of_length_eq_zero this.symm]
  | cons x r ih =>
    have hx : f x ∈ m.map f := h.subset (by simp)
    obtain ⟨y, hy, he⟩ := List.mem_map.1 hx
    have := hf _ _ he
    subst this
    obtain ⟨a, b, rfl⟩ := List.append_of_mem hy
    have h2 : (r.map f).Perm ((a ++ b).map f) := by
      have : (f y :: r.map f).Perm (f y :: ((a ++ b).map f)) := h.trans (by simp only [List.map_append, List.map_cons]; exact List.perm_middle)
      exact this.cons_inv
    exact (ih h2).cons y |>.trans List.perm_middle.symm

/-! What has come of a typed map. -/
section
variable {κ ν : Type} [DecidableEq κ] (E : Enc κ ν)
def Enc.l (p : κ × ν) : DV × AV := (E.k p.1, .dat (E.v p.1 p.2))
theorem lift_enc (l : List (κ × ν)) : liftE (l.map E.e) = l.map E.l := by rw [liftE_map, List.map_map]; rfl
theorem ent_enc {l : List (κ × ν)} {bs : List Nat} {b : Nat} {k : DV} {v : AV} (h : entB bs (liftE (l.map E.e)) b = some (k, v)) : ∃ p ∈ l, k = E.k p.1 ∧ v = .dat (E.v p.1 p.2) := by
  have := (entB_in h).2
  rw [lift_enc, List.mem_map] at this
  obtain ⟨p, hp, he⟩ := this
  simp only [Enc.l, Prod.mk.injEq] at he
  exact ⟨p, hp, he.1.symm, he.2.symm⟩
end

theorem ba_beq (a b : ByteArray) : (a == b) = decide (a = b) := by
  cases a with
  | mk x =>
    cases b with
    | mk y =>
      have h1 : ((⟨x⟩ : ByteArray) == ⟨y⟩) = (x == y) := rfl
      rw [h1]
      by_cases h : x = y
      · subst h; simp
      · have h2 : (⟨x⟩ : ByteArray) ≠ ⟨y⟩ := fun e => h (by cases e; rfl)
        simp [h, h2]
instance : LawfulBEq ByteArray where
  eq_of_beq {a b} h := by rw [ba_beq] at h; simpa using h
  rfl {a} := by rw [ba_beq]; simp
theorem str_eq (a b : ByteArray) : keyEq (.str a) (.str b) = some (decide (a = b)) := by
  simp only [keyEq, keyEq1, ba_beq]
def ES : Enc ByteArray Int := ⟨DV.str, fun _ n => i64 n, str_eq⟩
/-- how often each folded name was seen -/
def seenM (ps : List (Int × PeerV)) : List (ByteArray × Int) := ps.foldl (fun m p => ins m (foldM p.2.2) (IntKind.i64.wrap ((lk m (foldM p.2.2)).getD 0 + 1))) []
theorem seenM_snoc (ps : List (Int × PeerV)) (p : Int × PeerV) : seenM (ps ++ [p]) = ins (seenM ps) (foldM p.2.2) (IntKind.i64.wrap ((lk (seenM ps) (foldM p.2.2)).getD 0 + 1)) := by
  simp [seenM, List.foldl_append]
def addK (ks : List ByteArray) (f : ByteArray) : List ByteArray := if f ∈ ks then ks else ks ++ [f]
def dedup (fs : List ByteArray) : List ByteArray := fs.foldl addK []
theorem ins_keys {ν : Type} (m : List (ByteArray × ν)) (k : ByteArray) (v : ν) : (ins m k v).map (·.1) = addK (m.map (·.1)) k := by
  unfold addK
  induction m with
  | nil => simp [ins]
  | cons p r ih =>
    simp only [ins]
    by_cases h : k = p.1
    · subst h; simp
    · simp only [h, if_false, List.map_cons, ih, List.mem_cons, false_or]
      split <;> simp
theorem seenM_keys (ps : List (Int × PeerV)) : (seenM ps).map (·.1) = dedup (ps.map fun p => foldM p.2.2) := by
  have : ∀ (l : List (Int × PeerV)) (m : List (ByteArray × Int)), (l.foldl (fun m p => ins m (foldM p.2.2) (IntKind.i64.wrap ((lk m (foldM p.2.2)).getD 0 + 1))) m).map (·.1) = (l.map fun p => foldM p.2.2).foldl addK (m.map (·.1)) := by
    intro l
    induction l with
    | nil => intro m; rfl
    | cons p r ih => intro m; simp only [List.foldl_cons, List.map_cons, ih, ins_keys]
  exact this ps []
theorem dedup_mem (fs : List ByteArray) (x : ByteArray) : x ∈ dedup fs ↔ x ∈ fs := by
  have : ∀ (l ks : List ByteArray), x ∈ l.foldl addK ks ↔ x ∈ ks ∨ x ∈ l := by
    intro l
    induction l with
    | nil => intro ks; simp
    | cons f r ih =>
      intro ks
      simp only [List.foldl_cons, ih, List.mem_cons, addK]
      split
      · rename_i h
        constructor
        · rintro (a | a)
          · exact .inl a
          · exact .inr (.inr a)
        · rintro (a | a | a)
          · exact .inl a
          · subst a; exact .inl h
          · exact .inr a
      · simp [or_assoc]
  simpa [dedup] using this fs []
theorem dedup_nodup (fs : List ByteArray) : (dedup fs).Nodup := by
  have : ∀ (l ks : List ByteArray), ks.Nodup → (l.foldl addK ks).Nodup := by
    intro l
    induction l with
    | nil => intro ks h; exact h
    | cons f r ih =>
      intro ks h
      simp only [List.foldl_cons]
      apply ih
      unfold addK
      split
      · exact h
      · rename_i hf
        rw [List.nodup_append]
        exact ⟨h, by simp, fun a ha b hb => by simp at hb; subst hb; intro e; subst e; exact hf ha⟩
  exact this fs [] List.nodup_nil
theorem dedup_perm {a b : List ByteArray} (h : a.Perm b) : (dedup a).Perm (dedup b) :=
  (List.perm_ext_iff_of_nodup (dedup_nodup a) (dedup_nodup b)).2 fun x => by rw [dedup_mem, dedup_mem]; exact h.mem_iff
def roomsM (t : Tb) : List ByteArray := sortS (dedup (t.peers.map fun p => foldM p.2.2))
theorem dedup_le (fs : List ByteArray) : (dedup fs).length ≤ fs.length := by
  have : ∀ (l ks : List ByteArray), (l.foldl addK ks).length ≤ ks.length + l.length := by
    intro l
    induction l with
    | nil => intro ks; simp
    | cons f r ih =>
      intro ks
      simp only [List.foldl_cons, List.length_cons]
      have := ih (addK ks f)
      have h2 : (addK ks f).length ≤ ks.length + 1 := by unfold addK; split <;> simp
      omega
  simpa [dedup] using this fs []
end Go.Abs.X
