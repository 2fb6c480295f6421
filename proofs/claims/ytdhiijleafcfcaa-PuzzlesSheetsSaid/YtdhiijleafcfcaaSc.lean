/- strings.Contains: the library's contract, laid by the kit's command. -/
import Derived.Shelf.Strings.Search3
import Derived.Test.YtdhiijleafcfcaaProg
namespace Go.Proofs
open Go.Shelf
def Try.lays144_ren : Go.Shelf.Ren := ⟨fun | 144 => 123 | 143 => 158 | 219 => 174 | 217 => 184 | 225 => 185 | 224 => 186 | 267 => 187 | 266 => 189 | 314 => 190 | n => n, fun | 9 => 9 | 4 => 4 | 3 => 3 | 5 => 5 | 46 => 147 | 146 => 187 | 51 => 171 | n => n, fun | 1 => 0 | n => n⟩
theorem Try.lays144 : Go.Proofs.Lays.n144 Try.prog Try.lays144_ren := {
 mixed := by kernel_rfl
 f143 := Try.func158.trans (congrArg some (by kernel_rfl))
 f144 := Try.func123.trans (congrArg some (by kernel_rfl))
 f217 := Try.func184.trans (congrArg some (by kernel_rfl))
 f219 := Try.func174.trans (congrArg some (by kernel_rfl))
 f224 := Try.func186.trans (congrArg some (by kernel_rfl))
 f225 := Try.func185.trans (congrArg some (by kernel_rfl))
 f266 := Try.func189.trans (congrArg some (by kernel_rfl))
 f267 := Try.func187.trans (congrArg some (by kernel_rfl))
 f314 := Try.func190.trans (congrArg some (by kernel_rfl))
 t3 := Try.underlying3
 a3 := Try.isAgg3
 z3 := Try.sizeOf3
 v3 := Try.zeroValue3
 t4 := Try.underlying4
 a4 := Try.isAgg4
 z4 := Try.sizeOf4
 v4 := Try.zeroValue4
 t5 := Try.underlying5
 a5 := Try.isAgg5
 z5 := Try.sizeOf5
 v5 := Try.zeroValue5
 t9 := Try.underlying9
 a9 := Try.isAgg9
 z9 := Try.sizeOf9
 v9 := Try.zeroValue9
 t46 := Try.underlying147
 a46 := Try.isAgg147
 z46 := Try.sizeOf147
 v46 := Try.zeroValue147
 t51 := Try.underlying171
 a51 := Try.isAgg171
 z51 := Try.sizeOf171
 v51 := Try.zeroValue171
 t146 := Try.underlying187
 a146 := Try.isAgg187
 z146 := Try.sizeOf187
 v146 := Try.zeroValue187
 g1 := by kernel_rfl }
open Go.RowKit Go.Lib in
theorem Try.strings_Contains (s sub : ByteArray) (m : Int) (w : World) (hs : s.size < 4294967281) (hm : w.cell? ⟨0, 0, none⟩ = some (.int .i64 m)) :
  Calls Try.prog 123 #[.string s, .string sub] w fun e w' => e = .returned (.bool (Lib.contains s.data.toList sub.data.toList)) ∧ w' = w := Any.strings_Contains Try.lays144 s sub m w hs hm
end Go.Proofs
