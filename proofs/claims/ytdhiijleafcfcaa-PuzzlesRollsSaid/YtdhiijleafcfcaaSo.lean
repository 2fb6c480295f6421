/- slices.Sort of whole numbers: the library's contract, laid by the kit's command. -/
import Derived.Shelf.Sort.Plain
import Derived.Shelf.Slices.In.SortNone
import Derived.Test.YtdhiijleafcfcaaProg
namespace Go.Proofs
open Go.Shelf
def Try.lays189_ren : Go.Shelf.Ren := ⟨fun | 189 => 91 | 125 => 133 | 257 => 132 | 128 => 168 | 129 => 169 | 294 => 159 | 295 => 160 | 296 => 161 | 297 => 162 | 298 => 163 | 299 => 164 | 216 => 165 | 300 => 166 | 301 => 167 | 328 => 175 | 329 => 176 | 330 => 177 | 331 => 178 | 332 => 179 | 215 => 180 | 343 => 188 | n => n, fun | 28 => 22 | 3 => 3 | 46 => 147 | 0 => 0 | 51 => 171 | 53 => 173 | 4 => 4 | 183 => 165 | 182 => 164 | 131 => 142 | 5 => 5 | 9 => 9 | 218 => 179 | 222 => 183 | 228 => 192 | 229 => 193 | n => n, fun | n => n⟩
theorem Try.lays189 : Go.Proofs.Lays.n189 Try.prog Try.lays189_ren := {
 mixed := by kernel_rfl
 f125 := Try.func133.trans (congrArg some (by kernel_rfl))
 f128 := Try.func168.trans (congrArg some (by kernel_rfl))
 f129 := Try.func169.trans (congrArg some (by kernel_rfl))
 f189 := Try.func91.trans (congrArg some (by kernel_rfl))
 f215 := Try.func180.trans (congrArg some (by kernel_rfl))
 f216 := Try.func165.trans (congrArg some (by kernel_rfl))
 f257 := Try.func132.trans (congrArg some (by kernel_rfl))
 f294 := Try.func159.trans (congrArg some (by kernel_rfl))
 f295 := Try.func160.trans (congrArg some (by kernel_rfl))
 f296 := Try.func161.trans (congrArg some (by kernel_rfl))
 f297 := Try.func162.trans (congrArg some (by kernel_rfl))
 f298 := Try.func163.trans (congrArg some (by kernel_rfl))
 f299 := Try.func164.trans (congrArg some (by kernel_rfl))
 f300 := Try.func166.trans (congrArg some (by kernel_rfl))
 f301 := Try.func167.trans (congrArg some (by kernel_rfl))
 f328 := Try.func175.trans (congrArg some (by kernel_rfl))
 f329 := Try.func176.trans (congrArg some (by kernel_rfl))
 f330 := Try.func177.trans (congrArg some (by kernel_rfl))
 f331 := Try.func178.trans (congrArg some (by kernel_rfl))
 f332 := Try.func179.trans (congrArg some (by kernel_rfl))
 f343 := Try.func188.trans (congrArg some (by kernel_rfl))
 t0 := Try.underlying0
 a0 := Try.isAgg0
 z0 := Try.sizeOf0
 v0 := Try.zeroValue0
 t3 := Try.underlying3
 a3 := Try.isAgg3
 z3 := Try.sizeOf3
 v3 := Try.zeroValue3
 t4 := Try.underlying4
 a4 := Try.isAgg4
 z4 := Try.sizeOf4
 v4 := Try.zeroValue4
 t5 := Try.underlying5
 a5 := Try.isAgg5
 z5 := Try.sizeOf5
 v5 := Try.zeroValue5
 t9 := Try.underlying9
 a9 := Try.isAgg9
 z9 := Try.sizeOf9
 v9 := Try.zeroValue9
 t28 := Try.underlying22
 a28 := Try.isAgg22
 z28 := Try.sizeOf22
 v28 := Try.zeroValue22
 t46 := Try.underlying147
 a46 := Try.isAgg147
 z46 := Try.sizeOf147
 v46 := Try.zeroValue147
 t51 := Try.underlying171
 a51 := Try.isAgg171
 z51 := Try.sizeOf171
 v51 := Try.zeroValue171
 t53 := Try.underlying173
 a53 := Try.isAgg173
 z53 := Try.sizeOf173
 v53 := Try.zeroValue173
 t131 := Try.underlying142
 a131 := Try.isAgg142
 z131 := Try.sizeOf142
 v131 := Try.zeroValue142
 t182 := Try.underlying164
 a182 := Try.isAgg164
 z182 := Try.sizeOf164
 v182 := Try.zeroValue164
 t183 := Try.underlying165
 a183 := Try.isAgg165
 z183 := Try.sizeOf165
 v183 := Try.zeroValue165
 t218 := Try.underlying179
 a218 := Try.isAgg179
 z218 := Try.sizeOf179
 v218 := Try.zeroValue179
 t222 := Try.underlying183
 a222 := Try.isAgg183
 z222 := Try.sizeOf183
 v222 := Try.zeroValue183
 t228 := Try.underlying192
 a228 := Try.isAgg192
 z228 := Try.sizeOf192
 v228 := Try.zeroValue192
 t229 := Try.underlying193
 a229 := Try.isAgg193
 z229 := Try.sizeOf193
 v229 := Try.zeroValue193 }
open Go.Sort Go.RowKit in
theorem Try.slices_Sort_int (blk off cap : Nat) (zs : List Int) (w : World) (hH : Holds (Value.int .i64) w blk off zs.toArray) (hblk : blk < w.heap.size) (hsz : zs.length < 4611686018427387904) :
  Calls Try.prog 91 #[.slice (some ⟨blk, off, none⟩) zs.length cap] w fun e w' =>
   e = .returned (.tuple #[]) ∧ ∃ n os, w' = grow (putRow (Value.int .i64) (Sort.ahead w n) blk off (zs.mergeSort fun x y => decide (x ≤ y)).toArray) os := Any.slices_Sort_int Try.lays189 blk off cap zs w hH hblk hsz
open Go.RowKit Go.Sort in
theorem Try.slices_Sort_int_none (p : Option Addr) (cap : Nat) (w : World) :
  Calls Try.prog 91 #[.slice p 0 cap] w fun e w' => e = .returned (.tuple #[]) ∧ w' = w := Any.slices_Sort_int_none Try.lays189 p cap w
end Go.Proofs
