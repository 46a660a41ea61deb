/-
  The library's contracts that the words lean on (Join, Index at one byte), laid at this program's numbers by the kit's tool for that.
-/
import Derived.Shelf.Strings.OnBuilder
import Derived.Shelf.Strings.Search2
import Derived.Test.YtgkmmoiniidhlaaProg
namespace Go.Proofs.Ytgkmmoiniidhlaa
open Go.Shelf
def lays156_ren : Go.Shelf.Ren := ⟨fun | 156 => 96 | 165 => 128 | 166 => 129 | 169 => 130 | 240 => 141 | 241 => 142 | 276 => 153 | 277 => 154 | n => n, fun | 31 => 89 | 9 => 9 | 3 => 3 | 4 => 4 | 0 => 0 | 20 => 20 | 72 => 158 | 76 => 161 | 70 => 156 | 37 => 56 | 75 => 160 | 127 => 173 | 164 => 180 | 5 => 5 | 80 => 163 | n => n, fun | n => n⟩
theorem lays156 : Go.Proofs.Lays.n156 Try.prog lays156_ren := {
  mixed := by kernel_rfl
  f156 := Try.func96.trans (congrArg some (by kernel_rfl))
  f165 := Try.func128.trans (congrArg some (by kernel_rfl))
  f166 := Try.func129.trans (congrArg some (by kernel_rfl))
  f169 := Try.func130.trans (congrArg some (by kernel_rfl))
  f240 := Try.func141.trans (congrArg some (by kernel_rfl))
  f241 := Try.func142.trans (congrArg some (by kernel_rfl))
  f276 := Try.func153.trans (congrArg some (by kernel_rfl))
  f277 := Try.func154.trans (congrArg some (by kernel_rfl))
  t0 := Try.underlying0
  a0 := Try.isAgg0
  z0 := Try.sizeOf0
  v0 := Try.zeroValue0
  t3 := Try.underlying3
  a3 := Try.isAgg3
  z3 := Try.sizeOf3
  v3 := Try.zeroValue3
  t4 := Try.underlying4
  a4 := Try.isAgg4
  z4 := Try.sizeOf4
  v4 := Try.zeroValue4
  t9 := Try.underlying9
  a9 := Try.isAgg9
  z9 := Try.sizeOf9
  v9 := Try.zeroValue9
  t20 := Try.underlying20
  a20 := Try.isAgg20
  z20 := Try.sizeOf20
  v20 := Try.zeroValue20
  t31 := Try.underlying89
  a31 := Try.isAgg89
  z31 := Try.sizeOf89
  v31 := Try.zeroValue89
  t37 := Try.underlying56
  a37 := Try.isAgg56
  z37 := Try.sizeOf56
  v37 := Try.zeroValue56
  t70 := Try.underlying156
  a70 := Try.isAgg156
  z70 := Try.sizeOf156
  v70 := Try.zeroValue156
  t72 := Try.underlying158
  a72 := Try.isAgg158
  z72 := Try.sizeOf158
  v72 := Try.zeroValue158
  t75 := Try.underlying160
  a75 := Try.isAgg160
  z75 := Try.sizeOf160
  v75 := Try.zeroValue160
  t76 := Try.underlying161
  a76 := Try.isAgg161
  z76 := Try.sizeOf161
  v76 := Try.zeroValue161
  t127 := Try.underlying173
  a127 := Try.isAgg173
  z127 := Try.sizeOf173
  v127 := Try.zeroValue173
  t164 := Try.underlying180
  a164 := Try.isAgg180
  z164 := Try.sizeOf180
  v164 := Try.zeroValue180 }
theorem Builder_Extra_156 : Builder.Extra Try.prog lays156_ren := {
  sizeBuilder := by kernel_rfl
  liesBuilder := by kernel_rfl
  t5 := Try.underlying5
  a5 := Try.isAgg5
  z5 := Try.sizeOf5
  v5 := Try.zeroValue5
  infoByte := by kernel_rfl
  cellsByte := by kernel_rfl
  sizeByte := by kernel_rfl
  neB5 := by decide }
open Go.RowKit in
theorem strings_Join_none (a : Option Addr) (c : Nat) (sep : ByteArray) (w : World) :
    Calls Try.prog 96 #[.slice a 0 c, .string sep] w fun e w' => e = .returned (.string ⟨#[]⟩) ∧ w' = w := Any.strings_Join_none lays156 Builder_Extra_156 a c sep w
open Go.RowKit in
theorem strings_Join (bk o c : Nat) (xs : List ByteArray) (sep : ByteArray) (w : World) (hcells : ∀ (j : Nat) x, xs[j]? = some x → w.cell? ⟨bk, o + j, none⟩ = some (.string x)) (hbk : bk < w.heap.size) (hN : xs.length ≤ 140737488355328) (hcap : xs.length ≤ c) (hlen : (Lib.join (xs.map (·.data.toList)) sep.data.toList).length ≤ 140737488355328) :
    Calls Try.prog 96 #[.slice (some ⟨bk, o, none⟩) xs.length c, .string sep] w fun e w' => e = .returned (.string ⟨(Lib.join (xs.map (·.data.toList)) sep.data.toList).toArray⟩) ∧ Below w.heap.size w w' := Any.strings_Join lays156 Builder_Extra_156 bk o c xs sep w hcells hbk hN hcap hlen
def lays219_ren : Go.Shelf.Ren := ⟨fun | 219 => 140 | 217 => 149 | 225 => 150 | 224 => 151 | 267 => 152 | 266 => 157 | 314 => 158 | n => n, fun | 9 => 9 | 3 => 3 | 4 => 4 | 5 => 5 | 46 => 168 | 146 => 184 | 51 => 183 | n => n, fun | 1 => 0 | n => n⟩
theorem lays219 : Go.Proofs.Lays.n219 Try.prog lays219_ren := {
  mixed := by kernel_rfl
  f217 := Try.func149.trans (congrArg some (by kernel_rfl))
  f219 := Try.func140.trans (congrArg some (by kernel_rfl))
  f224 := Try.func151.trans (congrArg some (by kernel_rfl))
  f225 := Try.func150.trans (congrArg some (by kernel_rfl))
  f266 := Try.func157.trans (congrArg some (by kernel_rfl))
  f267 := Try.func152.trans (congrArg some (by kernel_rfl))
  f314 := Try.func158.trans (congrArg some (by kernel_rfl))
  t3 := Try.underlying3
  a3 := Try.isAgg3
  z3 := Try.sizeOf3
  v3 := Try.zeroValue3
  t4 := Try.underlying4
  a4 := Try.isAgg4
  z4 := Try.sizeOf4
  v4 := Try.zeroValue4
  t5 := Try.underlying5
  a5 := Try.isAgg5
  z5 := Try.sizeOf5
  v5 := Try.zeroValue5
  t9 := Try.underlying9
  a9 := Try.isAgg9
  z9 := Try.sizeOf9
  v9 := Try.zeroValue9
  t46 := Try.underlying168
  a46 := Try.isAgg168
  z46 := Try.sizeOf168
  v46 := Try.zeroValue168
  t51 := Try.underlying183
  a51 := Try.isAgg183
  z51 := Try.sizeOf183
  v51 := Try.zeroValue183
  t146 := Try.underlying184
  a146 := Try.isAgg184
  z146 := Try.sizeOf184
  v146 := Try.zeroValue184
  g1 := by kernel_rfl }
open Go.RowKit Go.Lib in
theorem stringslite_Index_one (s : ByteArray) (c : UInt8) (w : World) :
    Calls Try.prog 140 #[.string s, .string ⟨#[c]⟩] w fun e w' => e = .returned (.int .i64 (Lib.indexByte s.data.toList c)) ∧ w' = w := Any.stringslite_Index_one lays219 s c w
end Go.Proofs.Ytgkmmoiniidhlaa
