/- The contracts of library functions that this program calls, laid out of the shelf at its numbers. -/
import Derived.Shelf.Strings.Builder1
import Derived.Shelf.Strings.Builder2
import Derived.Shelf.Small.Strs
import Derived.Shelf.Strings.BuilderF
import Derived.Shelf.Strings.Search1
import Derived.Shelf.Strings.Prefix
import Derived.Shelf.Bits.Mul64
import Derived.Shelf.Strings.Repeat
import Derived.Test.YtcbkihhpnndpkaaProg
namespace Go.Proofs
open Go.Shelf
def Try.lays137_ren : Go.Shelf.Ren := ⟨fun | 137 => 56 | 217 => 112 | 266 => 133 | n => n, fun | 9 => 9 | 5 => 5 | 3 => 3 | n => n, fun | n => n⟩
theorem Try.lays137 : Go.Proofs.Lays.n137 Try.prog Try.lays137_ren := {
 mixed := by kernel_rfl
 f137 := Try.func56.trans (congrArg some (by kernel_rfl))
 f217 := Try.func112.trans (congrArg some (by kernel_rfl))
 f266 := Try.func133.trans (congrArg some (by kernel_rfl))
 t3 := Try.underlying3
 a3 := Try.isAgg3
 z3 := Try.sizeOf3
 v3 := Try.zeroValue3
 t5 := Try.underlying5
 a5 := Try.isAgg5
 z5 := Try.sizeOf5
 v5 := Try.zeroValue5
 t9 := Try.underlying9
 a9 := Try.isAgg9
 z9 := Try.sizeOf9
 v9 := Try.zeroValue9 }
open Go.RowKit in
theorem Try.strings_IndexByte (s : ByteArray) (c : Int) (w : World) :
 Calls Try.prog 56 #[.string s, .int .u8 c] w fun e w' => e = .returned (.int .i64 (Lib.indexByte s.data.toList c.toNat.toUInt8)) ∧ w' = w := Any.strings_IndexByte Try.lays137 s c w
def Try.lays105_ren : Go.Shelf.Ren := ⟨fun | 105 => 66 | 212 => 115 | 99 => 116 | 165 => 117 | 166 => 118 | 170 => 119 | 169 => 120 | 263 => 136 | 264 => 137 | 206 => 138 | 240 => 139 | 241 => 140 | 276 => 146 | 277 => 147 | n => n, fun | 9 => 9 | 3 => 3 | 4 => 4 | 20 => 20 | 0 => 0 | 46 => 175 | 109 => 176 | 5 => 5 | 72 => 181 | 76 => 185 | 51 => 208 | 146 => 209 | 53 => 132 | 148 => 211 | 70 => 179 | 37 => 99 | 75 => 184 | 127 => 213 | 164 => 216 | 80 => 157 | n => n, fun | n => n⟩
theorem Try.lays105 : Go.Proofs.Lays.n105 Try.prog Try.lays105_ren := {
 mixed := by kernel_rfl
 f99 := Try.func116.trans (congrArg some (by kernel_rfl))
 f105 := Try.func66.trans (congrArg some (by kernel_rfl))
 f165 := Try.func117.trans (congrArg some (by kernel_rfl))
 f166 := Try.func118.trans (congrArg some (by kernel_rfl))
 f169 := Try.func120.trans (congrArg some (by kernel_rfl))
 f170 := Try.func119.trans (congrArg some (by kernel_rfl))
 f206 := Try.func138.trans (congrArg some (by kernel_rfl))
 f212 := Try.func115.trans (congrArg some (by kernel_rfl))
 f240 := Try.func139.trans (congrArg some (by kernel_rfl))
 f241 := Try.func140.trans (congrArg some (by kernel_rfl))
 f263 := Try.func136.trans (congrArg some (by kernel_rfl))
 f264 := Try.func137.trans (congrArg some (by kernel_rfl))
 f276 := Try.func146.trans (congrArg some (by kernel_rfl))
 f277 := Try.func147.trans (congrArg some (by kernel_rfl))
 t0 := Try.underlying0
 a0 := Try.isAgg0
 z0 := Try.sizeOf0
 v0 := Try.zeroValue0
 t3 := Try.underlying3
 a3 := Try.isAgg3
 z3 := Try.sizeOf3
 v3 := Try.zeroValue3
 t4 := Try.underlying4
 a4 := Try.isAgg4
 z4 := Try.sizeOf4
 v4 := Try.zeroValue4
 t5 := Try.underlying5
 a5 := Try.isAgg5
 z5 := Try.sizeOf5
 v5 := Try.zeroValue5
 t9 := Try.underlying9
 a9 := Try.isAgg9
 z9 := Try.sizeOf9
 v9 := Try.zeroValue9
 t20 := Try.underlying20
 a20 := Try.isAgg20
 z20 := Try.sizeOf20
 v20 := Try.zeroValue20
 t37 := Try.underlying99
 a37 := Try.isAgg99
 z37 := Try.sizeOf99
 v37 := Try.zeroValue99
 t46 := Try.underlying175
 a46 := Try.isAgg175
 z46 := Try.sizeOf175
 v46 := Try.zeroValue175
 t51 := Try.underlying208
 a51 := Try.isAgg208
 z51 := Try.sizeOf208
 v51 := Try.zeroValue208
 t53 := Try.underlying132
 a53 := Try.isAgg132
 z53 := Try.sizeOf132
 v53 := Try.zeroValue132
 t70 := Try.underlying179
 a70 := Try.isAgg179
 z70 := Try.sizeOf179
 v70 := Try.zeroValue179
 t72 := Try.underlying181
 a72 := Try.isAgg181
 z72 := Try.sizeOf181
 v72 := Try.zeroValue181
 t75 := Try.underlying184
 a75 := Try.isAgg184
 z75 := Try.sizeOf184
 v75 := Try.zeroValue184
 t76 := Try.underlying185
 a76 := Try.isAgg185
 z76 := Try.sizeOf185
 v76 := Try.zeroValue185
 t109 := Try.underlying176
 a109 := Try.isAgg176
 z109 := Try.sizeOf176
 v109 := Try.zeroValue176
 t127 := Try.underlying213
 a127 := Try.isAgg213
 z127 := Try.sizeOf213
 v127 := Try.zeroValue213
 t146 := Try.underlying209
 a146 := Try.isAgg209
 z146 := Try.sizeOf209
 v146 := Try.zeroValue209
 t148 := Try.underlying211
 a148 := Try.isAgg211
 z148 := Try.sizeOf211
 v148 := Try.zeroValue211
 t164 := Try.underlying216
 a164 := Try.isAgg216
 z164 := Try.sizeOf216
 v164 := Try.zeroValue216 }
theorem Try.Builder_Extra_105 : Builder.Extra Try.prog Try.lays105_ren := {
 sizeBuilder := by kernel_rfl
 liesBuilder := by kernel_rfl
 t5 := Try.underlying5
 a5 := Try.isAgg5
 z5 := Try.sizeOf5
 v5 := Try.zeroValue5
 infoByte := by kernel_rfl
 cellsByte := by kernel_rfl
 sizeByte := by kernel_rfl
 neB5 := by decide }
open Go.RowKit Go.Lib in
theorem Try.strings_Repeat (s : ByteArray) (c : Nat) (w : World) (hc : c ≤ 9223372036854775807) (hlen : s.size * c ≤ 140737488355328) :
 Calls Try.prog 66 #[.string s, .int .i64 c] w fun e w' => e = .returned (.string ⟨(Lib.repeatL s.data.toList c).toArray⟩) ∧ Below w.heap.size w w' := Any.strings_Repeat Try.lays105 Try.Builder_Extra_105 s c w hc hlen
end Go.Proofs

