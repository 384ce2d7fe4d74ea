/- The contracts of the library that this seat calls, laid by the kit's own tool, in plain words. -/
import Derived.Shelf.Strings.Search1
import Derived.Shelf.Strings.Search2
import Derived.Shelf.Strings.Fields
import Derived.Test.YtdfadmhomjcmeaaGreatDoorProg
namespace Go.Proofs
open Go.Shelf
def Tryz.lays219_ren : Go.Shelf.Ren := ⟨fun | 219 => 176 | 217 => 184 | 225 => 185 | 224 => 186 | 267 => 187 | 266 => 190 | 314 => 191 | n => n, fun | 9 => 9 | 3 => 3 | 4 => 4 | 5 => 5 | 46 => 174 | 146 => 258 | 51 => 212 | n => n, fun | 1 => 4 | n => n⟩
theorem Tryz.lays219 : Go.Proofs.Lays.n219 Tryz.prog Tryz.lays219_ren := {
  mixed := by kernel_rfl
  f217 := Tryz.func184.trans (congrArg some (by kernel_rfl))
  f219 := Tryz.func176.trans (congrArg some (by kernel_rfl))
  f224 := Tryz.func186.trans (congrArg some (by kernel_rfl))
  f225 := Tryz.func185.trans (congrArg some (by kernel_rfl))
  f266 := Tryz.func190.trans (congrArg some (by kernel_rfl))
  f267 := Tryz.func187.trans (congrArg some (by kernel_rfl))
  f314 := Tryz.func191.trans (congrArg some (by kernel_rfl))
  t3 := Tryz.underlying3
  a3 := Tryz.isAgg3
  z3 := Tryz.sizeOf3
  v3 := Tryz.zeroValue3
  t4 := Tryz.underlying4
  a4 := Tryz.isAgg4
  z4 := Tryz.sizeOf4
  v4 := Tryz.zeroValue4
  t5 := Tryz.underlying5
  a5 := Tryz.isAgg5
  z5 := Tryz.sizeOf5
  v5 := Tryz.zeroValue5
  t9 := Tryz.underlying9
  a9 := Tryz.isAgg9
  z9 := Tryz.sizeOf9
  v9 := Tryz.zeroValue9
  t46 := Tryz.underlying174
  a46 := Tryz.isAgg174
  z46 := Tryz.sizeOf174
  v46 := Tryz.zeroValue174
  t51 := Tryz.underlying212
  a51 := Tryz.isAgg212
  z51 := Tryz.sizeOf212
  v51 := Tryz.zeroValue212
  t146 := Tryz.underlying258
  a146 := Tryz.isAgg258
  z146 := Tryz.sizeOf258
  v146 := Tryz.zeroValue258
  g1 := by kernel_rfl }
open Go.RowKit Go.Lib in
theorem Tryz.stringslite_Index_one (s : ByteArray) (c : UInt8) (w : World) :
    Calls Tryz.prog 176 #[.string s, .string ⟨#[c]⟩] w fun e w' => e = .returned (.int .i64 (Lib.indexByte s.data.toList c)) ∧ w' = w := Any.stringslite_Index_one Tryz.lays219 s c w
def Tryz.lays157_ren : Go.Shelf.Ren := ⟨fun | 157 => 66 | 229 => 116 | 199 => 117 | 261 => 146 | 311 => 159 | 312 => 160 | n => n, fun | 9 => 9 | 31 => 24 | 3 => 3 | 5 => 5 | 4 => 4 | 119 => 181 | 0 => 0 | 40 => 183 | 152 => 209 | 21 => 21 | 154 => 211 | 51 => 212 | 141 => 214 | 196 => 228 | 193 => 225 | 198 => 231 | 49 => 229 | 194 => 226 | 201 => 234 | 226 => 247 | 46 => 174 | 227 => 248 | n => n, fun | 0 => 0 | 6 => 2 | n => n⟩
theorem Tryz.lays157 : Go.Proofs.Lays.n157 Tryz.prog Tryz.lays157_ren := {
  mixed := by kernel_rfl
  f157 := Tryz.func66.trans (congrArg some (by kernel_rfl))
  f199 := Tryz.func117.trans (congrArg some (by kernel_rfl))
  f229 := Tryz.func116.trans (congrArg some (by kernel_rfl))
  f261 := Tryz.func146.trans (congrArg some (by kernel_rfl))
  f311 := Tryz.func159.trans (congrArg some (by kernel_rfl))
  f312 := Tryz.func160.trans (congrArg some (by kernel_rfl))
  t0 := Tryz.underlying0
  a0 := Tryz.isAgg0
  z0 := Tryz.sizeOf0
  v0 := Tryz.zeroValue0
  t3 := Tryz.underlying3
  a3 := Tryz.isAgg3
  z3 := Tryz.sizeOf3
  v3 := Tryz.zeroValue3
  t4 := Tryz.underlying4
  a4 := Tryz.isAgg4
  z4 := Tryz.sizeOf4
  v4 := Tryz.zeroValue4
  t5 := Tryz.underlying5
  a5 := Tryz.isAgg5
  z5 := Tryz.sizeOf5
  v5 := Tryz.zeroValue5
  t9 := Tryz.underlying9
  a9 := Tryz.isAgg9
  z9 := Tryz.sizeOf9
  v9 := Tryz.zeroValue9
  t21 := Tryz.underlying21
  a21 := Tryz.isAgg21
  z21 := Tryz.sizeOf21
  v21 := Tryz.zeroValue21
  t31 := Tryz.underlying24
  a31 := Tryz.isAgg24
  z31 := Tryz.sizeOf24
  v31 := Tryz.zeroValue24
  t40 := Tryz.underlying183
  a40 := Tryz.isAgg183
  z40 := Tryz.sizeOf183
  v40 := Tryz.zeroValue183
  t46 := Tryz.underlying174
  a46 := Tryz.isAgg174
  z46 := Tryz.sizeOf174
  v46 := Tryz.zeroValue174
  t49 := Tryz.underlying229
  a49 := Tryz.isAgg229
  z49 := Tryz.sizeOf229
  v49 := Tryz.zeroValue229
  t51 := Tryz.underlying212
  a51 := Tryz.isAgg212
  z51 := Tryz.sizeOf212
  v51 := Tryz.zeroValue212
  t119 := Tryz.underlying181
  a119 := Tryz.isAgg181
  z119 := Tryz.sizeOf181
  t141 := Tryz.underlying214
  a141 := Tryz.isAgg214
  z141 := Tryz.sizeOf214
  v141 := Tryz.zeroValue214
  t152 := Tryz.underlying209
  a152 := Tryz.isAgg209
  z152 := Tryz.sizeOf209
  v152 := Tryz.zeroValue209
  t154 := Tryz.underlying211
  a154 := Tryz.isAgg211
  z154 := Tryz.sizeOf211
  v154 := Tryz.zeroValue211
  t193 := Tryz.underlying225
  a193 := Tryz.isAgg225
  z193 := Tryz.sizeOf225
  v193 := Tryz.zeroValue225
  t194 := Tryz.underlying226
  a194 := Tryz.isAgg226
  z194 := Tryz.sizeOf226
  v194 := Tryz.zeroValue226
  t196 := Tryz.underlying228
  a196 := Tryz.isAgg228
  z196 := Tryz.sizeOf228
  v196 := Tryz.zeroValue228
  t198 := Tryz.underlying231
  a198 := Tryz.isAgg231
  z198 := Tryz.sizeOf231
  v198 := Tryz.zeroValue231
  t201 := Tryz.underlying234
  a201 := Tryz.isAgg234
  z201 := Tryz.sizeOf234
  v201 := Tryz.zeroValue234
  t226 := Tryz.underlying247
  a226 := Tryz.isAgg247
  z226 := Tryz.sizeOf247
  v226 := Tryz.zeroValue247
  t227 := Tryz.underlying248
  a227 := Tryz.isAgg248
  z227 := Tryz.sizeOf248
  v227 := Tryz.zeroValue248
  g0 := by kernel_rfl
  g6 := by kernel_rfl }
open Go.RowKit Go.Lib in
theorem Tryz.strings_Fields (s : ByteArray) (w : World) (hs : s.size < 4294967281) (hascii : ∀ (j : Nat) b, s.data.toList[j]? = some b → b.toNat < 128) (htab : Lib.TabIs Tryz.prog w "strings.asciiSpace" .u8 Lib.asciiSpaceTab) :
    Calls Tryz.prog 66 #[.string s] w fun e w' =>
      e = .returned (.slice (some ⟨w.heap.size, 0, none⟩) (Lib.fields s.data.toList).length (Lib.fields s.data.toList).length) ∧ w' = w.alloc (.cells ((Lib.fields s.data.toList).map fun l => Value.string ⟨l.toArray⟩).toArray 9) := Any.strings_Fields Tryz.lays157 (by kernel_rfl) (by kernel_rfl) s w hs hascii htab
end Go.Proofs
