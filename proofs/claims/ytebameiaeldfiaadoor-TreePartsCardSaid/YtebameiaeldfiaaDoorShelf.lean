/- The contracts of the library that this seat calls, laid by the kit's own tool, in plain words. -/
import Derived.Shelf.Strings.Search1
import Derived.Shelf.Strings.Search2
import Derived.Shelf.Strings.Fields
import Derived.Test.YtebameiaeldfiaaDoorProg
namespace Go.Proofs
open Go.Shelf
def Tryd.lays219_ren : Go.Shelf.Ren := ⟨fun | 219 => 97 | 217 => 102 | 225 => 103 | 224 => 104 | 267 => 105 | 266 => 110 | 314 => 111 | n => n, fun | 9 => 9 | 3 => 3 | 4 => 4 | 5 => 5 | 46 => 83 | 146 => 166 | 51 => 139 | n => n, fun | 1 => 2 | n => n⟩
theorem Tryd.lays219 : Go.Proofs.Lays.n219 Tryd.prog Tryd.lays219_ren := {
  mixed := by kernel_rfl
  f217 := Tryd.func102.trans (congrArg some (by kernel_rfl))
  f219 := Tryd.func97.trans (congrArg some (by kernel_rfl))
  f224 := Tryd.func104.trans (congrArg some (by kernel_rfl))
  f225 := Tryd.func103.trans (congrArg some (by kernel_rfl))
  f266 := Tryd.func110.trans (congrArg some (by kernel_rfl))
  f267 := Tryd.func105.trans (congrArg some (by kernel_rfl))
  f314 := Tryd.func111.trans (congrArg some (by kernel_rfl))
  t3 := Tryd.underlying3
  a3 := Tryd.isAgg3
  z3 := Tryd.sizeOf3
  v3 := Tryd.zeroValue3
  t4 := Tryd.underlying4
  a4 := Tryd.isAgg4
  z4 := Tryd.sizeOf4
  v4 := Tryd.zeroValue4
  t5 := Tryd.underlying5
  a5 := Tryd.isAgg5
  z5 := Tryd.sizeOf5
  v5 := Tryd.zeroValue5
  t9 := Tryd.underlying9
  a9 := Tryd.isAgg9
  z9 := Tryd.sizeOf9
  v9 := Tryd.zeroValue9
  t46 := Tryd.underlying83
  a46 := Tryd.isAgg83
  z46 := Tryd.sizeOf83
  v46 := Tryd.zeroValue83
  t51 := Tryd.underlying139
  a51 := Tryd.isAgg139
  z51 := Tryd.sizeOf139
  v51 := Tryd.zeroValue139
  t146 := Tryd.underlying166
  a146 := Tryd.isAgg166
  z146 := Tryd.sizeOf166
  v146 := Tryd.zeroValue166
  g1 := by kernel_rfl }
open Go.RowKit Go.Lib in
theorem Tryd.stringslite_Index_one (s : ByteArray) (c : UInt8) (w : World) :
    Calls Tryd.prog 97 #[.string s, .string ⟨#[c]⟩] w fun e w' => e = .returned (.int .i64 (Lib.indexByte s.data.toList c)) ∧ w' = w := Any.stringslite_Index_one Tryd.lays219 s c w
def Tryd.lays157_ren : Go.Shelf.Ren := ⟨fun | 157 => 75 | 229 => 86 | 199 => 87 | 261 => 95 | 311 => 99 | 312 => 100 | n => n, fun | 9 => 9 | 31 => 42 | 3 => 3 | 5 => 5 | 4 => 4 | 119 => 127 | 0 => 0 | 40 => 129 | 152 => 136 | 21 => 21 | 154 => 138 | 51 => 139 | 141 => 141 | 196 => 147 | 193 => 144 | 198 => 150 | 49 => 148 | 194 => 145 | 201 => 153 | 226 => 158 | 46 => 83 | 227 => 159 | n => n, fun | 0 => 0 | 6 => 1 | n => n⟩
theorem Tryd.lays157 : Go.Proofs.Lays.n157 Tryd.prog Tryd.lays157_ren := {
  mixed := by kernel_rfl
  f157 := Tryd.func75.trans (congrArg some (by kernel_rfl))
  f199 := Tryd.func87.trans (congrArg some (by kernel_rfl))
  f229 := Tryd.func86.trans (congrArg some (by kernel_rfl))
  f261 := Tryd.func95.trans (congrArg some (by kernel_rfl))
  f311 := Tryd.func99.trans (congrArg some (by kernel_rfl))
  f312 := Tryd.func100.trans (congrArg some (by kernel_rfl))
  t0 := Tryd.underlying0
  a0 := Tryd.isAgg0
  z0 := Tryd.sizeOf0
  v0 := Tryd.zeroValue0
  t3 := Tryd.underlying3
  a3 := Tryd.isAgg3
  z3 := Tryd.sizeOf3
  v3 := Tryd.zeroValue3
  t4 := Tryd.underlying4
  a4 := Tryd.isAgg4
  z4 := Tryd.sizeOf4
  v4 := Tryd.zeroValue4
  t5 := Tryd.underlying5
  a5 := Tryd.isAgg5
  z5 := Tryd.sizeOf5
  v5 := Tryd.zeroValue5
  t9 := Tryd.underlying9
  a9 := Tryd.isAgg9
  z9 := Tryd.sizeOf9
  v9 := Tryd.zeroValue9
  t21 := Tryd.underlying21
  a21 := Tryd.isAgg21
  z21 := Tryd.sizeOf21
  v21 := Tryd.zeroValue21
  t31 := Tryd.underlying42
  a31 := Tryd.isAgg42
  z31 := Tryd.sizeOf42
  v31 := Tryd.zeroValue42
  t40 := Tryd.underlying129
  a40 := Tryd.isAgg129
  z40 := Tryd.sizeOf129
  v40 := Tryd.zeroValue129
  t46 := Tryd.underlying83
  a46 := Tryd.isAgg83
  z46 := Tryd.sizeOf83
  v46 := Tryd.zeroValue83
  t49 := Tryd.underlying148
  a49 := Tryd.isAgg148
  z49 := Tryd.sizeOf148
  v49 := Tryd.zeroValue148
  t51 := Tryd.underlying139
  a51 := Tryd.isAgg139
  z51 := Tryd.sizeOf139
  v51 := Tryd.zeroValue139
  t119 := Tryd.underlying127
  a119 := Tryd.isAgg127
  z119 := Tryd.sizeOf127
  t141 := Tryd.underlying141
  a141 := Tryd.isAgg141
  z141 := Tryd.sizeOf141
  v141 := Tryd.zeroValue141
  t152 := Tryd.underlying136
  a152 := Tryd.isAgg136
  z152 := Tryd.sizeOf136
  v152 := Tryd.zeroValue136
  t154 := Tryd.underlying138
  a154 := Tryd.isAgg138
  z154 := Tryd.sizeOf138
  v154 := Tryd.zeroValue138
  t193 := Tryd.underlying144
  a193 := Tryd.isAgg144
  z193 := Tryd.sizeOf144
  v193 := Tryd.zeroValue144
  t194 := Tryd.underlying145
  a194 := Tryd.isAgg145
  z194 := Tryd.sizeOf145
  v194 := Tryd.zeroValue145
  t196 := Tryd.underlying147
  a196 := Tryd.isAgg147
  z196 := Tryd.sizeOf147
  v196 := Tryd.zeroValue147
  t198 := Tryd.underlying150
  a198 := Tryd.isAgg150
  z198 := Tryd.sizeOf150
  v198 := Tryd.zeroValue150
  t201 := Tryd.underlying153
  a201 := Tryd.isAgg153
  z201 := Tryd.sizeOf153
  v201 := Tryd.zeroValue153
  t226 := Tryd.underlying158
  a226 := Tryd.isAgg158
  z226 := Tryd.sizeOf158
  v226 := Tryd.zeroValue158
  t227 := Tryd.underlying159
  a227 := Tryd.isAgg159
  z227 := Tryd.sizeOf159
  v227 := Tryd.zeroValue159
  g0 := by kernel_rfl
  g6 := by kernel_rfl }
open Go.RowKit Go.Lib in
theorem Tryd.strings_Fields (s : ByteArray) (w : World) (hs : s.size < 4294967281) (hascii : ∀ (j : Nat) b, s.data.toList[j]? = some b → b.toNat < 128) (htab : Lib.TabIs Tryd.prog w "strings.asciiSpace" .u8 Lib.asciiSpaceTab) :
    Calls Tryd.prog 75 #[.string s] w fun e w' =>
      e = .returned (.slice (some ⟨w.heap.size, 0, none⟩) (Lib.fields s.data.toList).length (Lib.fields s.data.toList).length) ∧ w' = w.alloc (.cells ((Lib.fields s.data.toList).map fun l => Value.string ⟨l.toArray⟩).toArray 9) := Any.strings_Fields Tryd.lays157 (by kernel_rfl) (by kernel_rfl) s w hs hascii htab
end Go.Proofs
