/-
 DERIVED: THE SHELF's CONTRACTS AT THIS DUMP, IN PLAIN WORDS (tools/lay-plain.mjs out of 'TryShelf.lean', which tools/lay-shelf.mjs wrote): THE SAME DECLARATIONS UNDER THE SAME NAMES: 'import', 'namespace', 'open', 'def', 'theorem' AND NOTHING ELSE: no command of the shelf's: FOR A HAND-IN. Each laying: the table of numbers ('.._ren') and one theorem, a field a fact of the dump's own or the kernel's comparison; each contract: ONE APPLICATION.
-/
import Derived.Shelf.Strings.Search1
import Derived.Shelf.Strings.Search2
import Derived.Shelf.Strings.Search3
import Derived.Shelf.LaysM
import Derived.Shelf.Strings.Shaped
import Derived.Shelf.Slices.Turned
import Derived.Ground.Names2Prog
import Derived.Shelf.Slices.Clone
import Derived.Test.YtcahllomeaimeaaProg
namespace Go.Proofs
open Go.Shelf
def Try.lays144_ren : Go.Shelf.Ren := ⟨fun | 144 => 48 | 143 => 72 | 219 => 84 | 217 => 87 | 225 => 88 | 224 => 89 | 267 => 90 | 266 => 92 | 314 => 93 | n => n, fun | 9 => 9 | 4 => 4 | 3 => 3 | 5 => 5 | 46 => 157 | 146 => 160 | 51 => 159 | n => n, fun | 1 => 0 | n => n⟩
theorem Try.lays144 : Go.Proofs.Lays.n144 Try.prog Try.lays144_ren := {
 mixed := by kernel_rfl
 f143 := Try.func72.trans (congrArg some (by kernel_rfl))
 f144 := Try.func48.trans (congrArg some (by kernel_rfl))
 f217 := Try.func87.trans (congrArg some (by kernel_rfl))
 f219 := Try.func84.trans (congrArg some (by kernel_rfl))
 f224 := Try.func89.trans (congrArg some (by kernel_rfl))
 f225 := Try.func88.trans (congrArg some (by kernel_rfl))
 f266 := Try.func92.trans (congrArg some (by kernel_rfl))
 f267 := Try.func90.trans (congrArg some (by kernel_rfl))
 f314 := Try.func93.trans (congrArg some (by kernel_rfl))
 t3 := Try.underlying3
 a3 := Try.isAgg3
 z3 := Try.sizeOf3
 v3 := Try.zeroValue3
 t4 := Try.underlying4
 a4 := Try.isAgg4
 z4 := Try.sizeOf4
 v4 := Try.zeroValue4
 t5 := Try.underlying5
 a5 := Try.isAgg5
 z5 := Try.sizeOf5
 v5 := Try.zeroValue5
 t9 := Try.underlying9
 a9 := Try.isAgg9
 z9 := Try.sizeOf9
 v9 := Try.zeroValue9
 t46 := Try.underlying157
 a46 := Try.isAgg157
 z46 := Try.sizeOf157
 v46 := Try.zeroValue157
 t51 := Try.underlying159
 a51 := Try.isAgg159
 z51 := Try.sizeOf159
 v51 := Try.zeroValue159
 t146 := Try.underlying160
 a146 := Try.isAgg160
 z146 := Try.sizeOf160
 v146 := Try.zeroValue160
 g1 := by kernel_rfl }
open Go.RowKit Go.Lib in
theorem Try.strings_Contains (s sub : ByteArray) (m : Int) (w : World) (hs : s.size < 4294967281) (hm : w.cell? ⟨0, 0, none⟩ = some (.int .i64 m)) :
  Calls Try.prog 48 #[.string s, .string sub] w fun e w' => e = .returned (.bool (Lib.contains s.data.toList sub.data.toList)) ∧ w' = w := Any.strings_Contains Try.lays144 s sub m w hs hm
def Try.laysM143_ren : Go.Shelf.Ren := ⟨fun | 143 => 72 | 219 => 84 | 217 => 87 | 225 => 88 | 224 => 89 | 267 => 90 | 266 => 92 | 314 => 93 | n => n, fun | 9 => 9 | 3 => 3 | 4 => 4 | 5 => 5 | 46 => 157 | 146 => 160 | 51 => 159 | n => n, fun | 1 => 0 | n => n⟩
theorem Try.laysM143 : Go.Proofs.LaysM.n143 Try.prog Try.laysM143_ren := {
 mixed := by kernel_rfl
 f143 := Try.func72.trans (congrArg some (by kernel_rfl))
 f217 := Try.func87.trans (congrArg some (by kernel_rfl))
 f219 := Try.func84.trans (congrArg some (by kernel_rfl))
 f224 := Try.func89.trans (congrArg some (by kernel_rfl))
 f225 := Try.func88.trans (congrArg some (by kernel_rfl))
 f266 := Try.func92.trans (congrArg some (by kernel_rfl))
 f267 := Try.func90.trans (congrArg some (by kernel_rfl))
 f314 := Try.func93.trans (congrArg some (by kernel_rfl))
 t3 := Try.underlying3
 a3 := Try.isAgg3
 z3 := Try.sizeOf3
 v3 := Try.zeroValue3
 t4 := Try.underlying4
 a4 := Try.isAgg4
 z4 := Try.sizeOf4
 v4 := Try.zeroValue4
 t5 := Try.underlying5
 a5 := Try.isAgg5
 z5 := Try.sizeOf5
 v5 := Try.zeroValue5
 t9 := Try.underlying9
 a9 := Try.isAgg9
 z9 := Try.sizeOf9
 v9 := Try.zeroValue9
 t46 := Try.underlying157
 a46 := Try.isAgg157
 z46 := Try.sizeOf157
 v46 := Try.zeroValue157
 t51 := Try.underlying159
 a51 := Try.isAgg159
 z51 := Try.sizeOf159
 v51 := Try.zeroValue159
 t146 := Try.underlying160
 a146 := Try.isAgg160
 z146 := Try.sizeOf160
 v146 := Try.zeroValue160
 g1 := by kernel_rfl
 i3 := by kernel_rfl
 i4 := by kernel_rfl
 i5 := by kernel_rfl
 i9 := by kernel_rfl
 i46 := by kernel_rfl
 i51 := by kernel_rfl
 i146 := by kernel_rfl
 m1 := by kernel_rfl
 s1_3 := fun w h => Go.Proofs.cell_of_shapedOpen_int (zero := #[.int .i64 0]) (t := 3) h (of_decide_eq_true (by kernel_rfl)) (by kernel_rfl) rfl (by kernel_rfl) (by kernel_rfl) Try.underlying3 }
end Go.Proofs
