/-
 DERIVED: THE SHELF's CONTRACTS AT THIS DUMP, IN PLAIN WORDS (tools/lay-plain.mjs out of 'TryzShelf.lean', which tools/lay-shelf.mjs wrote): THE SAME DECLARATIONS UNDER THE SAME NAMES: 'import', 'namespace', 'open', 'def', 'theorem' AND NOTHING ELSE: no command of the shelf's: FOR A HAND-IN. Each laying: the table of numbers ('.._ren') and one theorem, a field a fact of the dump's own or the kernel's comparison; each contract: ONE APPLICATION.
-/
import Derived.Shelf.Strings.Builder1
import Derived.Shelf.Strings.Builder2
import Derived.Shelf.Strings.OnBuilder
import Derived.Shelf.Strconv.Itoa0
import Derived.Shelf.Strconv.Itoa1
import Derived.Shelf.LaysM
import Derived.Shelf.Strconv.Itoa2
import Derived.Shelf.Strconv.Itoa3
import Derived.Shelf.Strings.Search1
import Derived.Shelf.Strings.Search2
import Derived.Shelf.Strings.Search3
import Derived.Shelf.Strings.Shaped
import Derived.Shelf.Slices.Turned
import Derived.Ground.Names2Prog
import Derived.Shelf.Slices.Clone
import Derived.Ground.SlgnProg
import Derived.Shelf.SlicesE.Clone
import Derived.Test.YtdapogfnhpbanaaGreatDoorProg
namespace Go.Proofs
open Go.Shelf
def Tryz.lays156_ren : Go.Shelf.Ren := ⟨fun | 156 => 103 | 165 => 148 | 166 => 149 | 169 => 150 | 240 => 200 | 241 => 201 | 276 => 231 | 277 => 232 | n => n, fun | 31 => 24 | 9 => 9 | 3 => 3 | 4 => 4 | 0 => 0 | 20 => 20 | 72 => 281 | 76 => 284 | 70 => 279 | 37 => 92 | 75 => 283 | 127 => 335 | 164 => 364 | 5 => 5 | 80 => 130 | n => n, fun | n => n⟩
theorem Tryz.lays156 : Go.Proofs.Lays.n156 Tryz.prog Tryz.lays156_ren := {
 mixed := by kernel_rfl
 f156 := Tryz.func103.trans (congrArg some (by kernel_rfl))
 f165 := Tryz.func148.trans (congrArg some (by kernel_rfl))
 f166 := Tryz.func149.trans (congrArg some (by kernel_rfl))
 f169 := Tryz.func150.trans (congrArg some (by kernel_rfl))
 f240 := Tryz.func200.trans (congrArg some (by kernel_rfl))
 f241 := Tryz.func201.trans (congrArg some (by kernel_rfl))
 f276 := Tryz.func231.trans (congrArg some (by kernel_rfl))
 f277 := Tryz.func232.trans (congrArg some (by kernel_rfl))
 t0 := Tryz.underlying0
 a0 := Tryz.isAgg0
 z0 := Tryz.sizeOf0
 v0 := Tryz.zeroValue0
 t3 := Tryz.underlying3
 a3 := Tryz.isAgg3
 z3 := Tryz.sizeOf3
 v3 := Tryz.zeroValue3
 t4 := Tryz.underlying4
 a4 := Tryz.isAgg4
 z4 := Tryz.sizeOf4
 v4 := Tryz.zeroValue4
 t9 := Tryz.underlying9
 a9 := Tryz.isAgg9
 z9 := Tryz.sizeOf9
 v9 := Tryz.zeroValue9
 t20 := Tryz.underlying20
 a20 := Tryz.isAgg20
 z20 := Tryz.sizeOf20
 v20 := Tryz.zeroValue20
 t31 := Tryz.underlying24
 a31 := Tryz.isAgg24
 z31 := Tryz.sizeOf24
 v31 := Tryz.zeroValue24
 t37 := Tryz.underlying92
 a37 := Tryz.isAgg92
 z37 := Tryz.sizeOf92
 v37 := Tryz.zeroValue92
 t70 := Tryz.underlying279
 a70 := Tryz.isAgg279
 z70 := Tryz.sizeOf279
 v70 := Tryz.zeroValue279
 t72 := Tryz.underlying281
 a72 := Tryz.isAgg281
 z72 := Tryz.sizeOf281
 v72 := Tryz.zeroValue281
 t75 := Tryz.underlying283
 a75 := Tryz.isAgg283
 z75 := Tryz.sizeOf283
 v75 := Tryz.zeroValue283
 t76 := Tryz.underlying284
 a76 := Tryz.isAgg284
 z76 := Tryz.sizeOf284
 v76 := Tryz.zeroValue284
 t127 := Tryz.underlying335
 a127 := Tryz.isAgg335
 z127 := Tryz.sizeOf335
 v127 := Tryz.zeroValue335
 t164 := Tryz.underlying364
 a164 := Tryz.isAgg364
 z164 := Tryz.sizeOf364
 v164 := Tryz.zeroValue364 }
theorem Tryz.Builder_Extra_156 : Builder.Extra Tryz.prog Tryz.lays156_ren := {
 sizeBuilder := by kernel_rfl
 liesBuilder := by kernel_rfl
 t5 := Tryz.underlying5
 a5 := Tryz.isAgg5
 z5 := Tryz.sizeOf5
 v5 := Tryz.zeroValue5
 infoByte := by kernel_rfl
 cellsByte := by kernel_rfl
 sizeByte := by kernel_rfl
 neB5 := by decide }
open Go.RowKit in
theorem Tryz.strings_Join_none (a : Option Addr) (c : Nat) (sep : ByteArray) (w : World) :
  Calls Tryz.prog 103 #[.slice a 0 c, .string sep] w fun e w' => e = .returned (.string ⟨#[]⟩) ∧ w' = w := Any.strings_Join_none Tryz.lays156 Tryz.Builder_Extra_156 a c sep w
open Go.RowKit in
theorem Tryz.strings_Join (bk o c : Nat) (xs : List ByteArray) (sep : ByteArray) (w : World) (hcells : ∀ (j : Nat) x, xs[j]? = some x → w.cell? ⟨bk, o + j, none⟩ = some (.string x)) (hbk : bk < w.heap.size) (hN : xs.length ≤ 140737488355328) (hcap : xs.length ≤ c) (hlen : (Lib.join (xs.map (·.data.toList)) sep.data.toList).length ≤ 140737488355328) :
  Calls Tryz.prog 103 #[.slice (some ⟨bk, o, none⟩) xs.length c, .string sep] w fun e w' => e = .returned (.string ⟨(Lib.join (xs.map (·.data.toList)) sep.data.toList).toArray⟩) ∧ Below w.heap.size w w' := Any.strings_Join Tryz.lays156 Tryz.Builder_Extra_156 bk o c xs sep w hcells hbk hN hcap hlen
def Tryz.lays171_ren : Go.Shelf.Ren := ⟨fun | 171 => 43 | 243 => 77 | 246 => 121 | 283 => 173 | 284 => 174 | 285 => 175 | 286 => 176 | 129 => 214 | 317 => 213 | 318 => 215 | 319 => 216 | 320 => 217 | 337 => 240 | 338 => 241 | n => n, fun | 3 => 3 | 9 => 9 | 2 => 2 | 4 => 4 | 171 => 303 | 0 => 0 | 53 => 304 | 37 => 92 | 5 => 5 | 173 => 307 | 212 => 346 | 51 => 347 | 20 => 20 | 213 => 348 | 46 => 349 | 232 => 390 | 233 => 391 | n => n, fun | 17 => 0 | 18 => 2 | 19 => 3 | n => n⟩
theorem Tryz.lays171 : Go.Proofs.Lays.n171 Tryz.prog Tryz.lays171_ren := {
 mixed := by kernel_rfl
 f129 := Tryz.func214.trans (congrArg some (by kernel_rfl))
 f171 := Tryz.func43.trans (congrArg some (by kernel_rfl))
 f243 := Tryz.func77.trans (congrArg some (by kernel_rfl))
 f246 := Tryz.func121.trans (congrArg some (by kernel_rfl))
 f283 := Tryz.func173.trans (congrArg some (by kernel_rfl))
 f284 := Tryz.func174.trans (congrArg some (by kernel_rfl))
 f285 := Tryz.func175.trans (congrArg some (by kernel_rfl))
 f286 := Tryz.func176.trans (congrArg some (by kernel_rfl))
 f317 := Tryz.func213.trans (congrArg some (by kernel_rfl))
 f318 := Tryz.func215.trans (congrArg some (by kernel_rfl))
 f319 := Tryz.func216.trans (congrArg some (by kernel_rfl))
 f320 := Tryz.func217.trans (congrArg some (by kernel_rfl))
 f337 := Tryz.func240.trans (congrArg some (by kernel_rfl))
 f338 := Tryz.func241.trans (congrArg some (by kernel_rfl))
 t0 := Tryz.underlying0
 a0 := Tryz.isAgg0
 z0 := Tryz.sizeOf0
 v0 := Tryz.zeroValue0
 t2 := Tryz.underlying2
 a2 := Tryz.isAgg2
 z2 := Tryz.sizeOf2
 v2 := Tryz.zeroValue2
 t3 := Tryz.underlying3
 a3 := Tryz.isAgg3
 z3 := Tryz.sizeOf3
 v3 := Tryz.zeroValue3
 t4 := Tryz.underlying4
 a4 := Tryz.isAgg4
 z4 := Tryz.sizeOf4
 v4 := Tryz.zeroValue4
 t5 := Tryz.underlying5
 a5 := Tryz.isAgg5
 z5 := Tryz.sizeOf5
 v5 := Tryz.zeroValue5
 t9 := Tryz.underlying9
 a9 := Tryz.isAgg9
 z9 := Tryz.sizeOf9
 v9 := Tryz.zeroValue9
 t20 := Tryz.underlying20
 a20 := Tryz.isAgg20
 z20 := Tryz.sizeOf20
 v20 := Tryz.zeroValue20
 t37 := Tryz.underlying92
 a37 := Tryz.isAgg92
 z37 := Tryz.sizeOf92
 v37 := Tryz.zeroValue92
 t46 := Tryz.underlying349
 a46 := Tryz.isAgg349
 z46 := Tryz.sizeOf349
 v46 := Tryz.zeroValue349
 t51 := Tryz.underlying347
 a51 := Tryz.isAgg347
 z51 := Tryz.sizeOf347
 v51 := Tryz.zeroValue347
 t53 := Tryz.underlying304
 a53 := Tryz.isAgg304
 z53 := Tryz.sizeOf304
 v53 := Tryz.zeroValue304
 t171 := Tryz.underlying303
 a171 := Tryz.isAgg303
 z171 := Tryz.sizeOf303
 v171 := Tryz.zeroValue303
 t173 := Tryz.underlying307
 a173 := Tryz.isAgg307
 z173 := Tryz.sizeOf307
 v173 := Tryz.zeroValue307
 t212 := Tryz.underlying346
 a212 := Tryz.isAgg346
 z212 := Tryz.sizeOf346
 v212 := Tryz.zeroValue346
 t213 := Tryz.underlying348
 a213 := Tryz.isAgg348
 z213 := Tryz.sizeOf348
 t232 := Tryz.underlying390
 a232 := Tryz.isAgg390
 z232 := Tryz.sizeOf390
 v232 := Tryz.zeroValue390
 t233 := Tryz.underlying391
 a233 := Tryz.isAgg391
 z233 := Tryz.sizeOf391
 v233 := Tryz.zeroValue391
 g17 := by kernel_rfl
 g18 := by kernel_rfl
 g19 := by kernel_rfl }
open Go.RowKit Go.Sort Go.Lib in
theorem Tryz.strconv_Itoa_small (i : Nat) (hi : i < 100) (w : World) :
  Calls Tryz.prog 43 #[.int .i64 i] w fun e w' => e = .returned (.string ⟨(Lib.decDigits i).toArray⟩) ∧ w' = w := Any.strconv_Itoa_small Tryz.lays171 i hi w
def Tryz.lays144_ren : Go.Shelf.Ren := ⟨fun | 144 => 129 | 143 => 181 | 219 => 221 | 217 => 242 | 225 => 243 | 224 => 244 | 267 => 245 | 266 => 256 | 314 => 257 | n => n, fun | 9 => 9 | 4 => 4 | 3 => 3 | 5 => 5 | 46 => 349 | 146 => 392 | 51 => 347 | n => n, fun | 1 => 1 | n => n⟩
theorem Tryz.lays144 : Go.Proofs.Lays.n144 Tryz.prog Tryz.lays144_ren := {
 mixed := by kernel_rfl
 f143 := Tryz.func181.trans (congrArg some (by kernel_rfl))
 f144 := Tryz.func129.trans (congrArg some (by kernel_rfl))
 f217 := Tryz.func242.trans (congrArg some (by kernel_rfl))
 f219 := Tryz.func221.trans (congrArg some (by kernel_rfl))
 f224 := Tryz.func244.trans (congrArg some (by kernel_rfl))
 f225 := Tryz.func243.trans (congrArg some (by kernel_rfl))
 f266 := Tryz.func256.trans (congrArg some (by kernel_rfl))
 f267 := Tryz.func245.trans (congrArg some (by kernel_rfl))
 f314 := Tryz.func257.trans (congrArg some (by kernel_rfl))
 t3 := Tryz.underlying3
 a3 := Tryz.isAgg3
 z3 := Tryz.sizeOf3
 v3 := Tryz.zeroValue3
 t4 := Tryz.underlying4
 a4 := Tryz.isAgg4
 z4 := Tryz.sizeOf4
 v4 := Tryz.zeroValue4
 t5 := Tryz.underlying5
 a5 := Tryz.isAgg5
 z5 := Tryz.sizeOf5
 v5 := Tryz.zeroValue5
 t9 := Tryz.underlying9
 a9 := Tryz.isAgg9
 z9 := Tryz.sizeOf9
 v9 := Tryz.zeroValue9
 t46 := Tryz.underlying349
 a46 := Tryz.isAgg349
 z46 := Tryz.sizeOf349
 v46 := Tryz.zeroValue349
 t51 := Tryz.underlying347
 a51 := Tryz.isAgg347
 z51 := Tryz.sizeOf347
 v51 := Tryz.zeroValue347
 t146 := Tryz.underlying392
 a146 := Tryz.isAgg392
 z146 := Tryz.sizeOf392
 v146 := Tryz.zeroValue392
 g1 := by kernel_rfl }
open Go.RowKit Go.Lib in
theorem Tryz.strings_Contains (s sub : ByteArray) (m : Int) (w : World) (hs : s.size < 4294967281) (hm : w.cell? ⟨1, 0, none⟩ = some (.int .i64 m)) :
  Calls Tryz.prog 129 #[.string s, .string sub] w fun e w' => e = .returned (.bool (Lib.contains s.data.toList sub.data.toList)) ∧ w' = w := Any.strings_Contains Tryz.lays144 s sub m w hs hm
def Tryz.laysM143_ren : Go.Shelf.Ren := ⟨fun | 143 => 181 | 219 => 221 | 217 => 242 | 225 => 243 | 224 => 244 | 267 => 245 | 266 => 256 | 314 => 257 | n => n, fun | 9 => 9 | 3 => 3 | 4 => 4 | 5 => 5 | 46 => 349 | 146 => 392 | 51 => 347 | n => n, fun | 1 => 1 | n => n⟩
theorem Tryz.laysM143 : Go.Proofs.LaysM.n143 Tryz.prog Tryz.laysM143_ren := {
 mixed := by kernel_rfl
 f143 := Tryz.func181.trans (congrArg some (by kernel_rfl))
 f217 := Tryz.func242.trans (congrArg some (by kernel_rfl))
 f219 := Tryz.func221.trans (congrArg some (by kernel_rfl))
 f224 := Tryz.func244.trans (congrArg some (by kernel_rfl))
 f225 := Tryz.func243.trans (congrArg some (by kernel_rfl))
 f266 := Tryz.func256.trans (congrArg some (by kernel_rfl))
 f267 := Tryz.func245.trans (congrArg some (by kernel_rfl))
 f314 := Tryz.func257.trans (congrArg some (by kernel_rfl))
 t3 := Tryz.underlying3
 a3 := Tryz.isAgg3
 z3 := Tryz.sizeOf3
 v3 := Tryz.zeroValue3
 t4 := Tryz.underlying4
 a4 := Tryz.isAgg4
 z4 := Tryz.sizeOf4
 v4 := Tryz.zeroValue4
 t5 := Tryz.underlying5
 a5 := Tryz.isAgg5
 z5 := Tryz.sizeOf5
 v5 := Tryz.zeroValue5
 t9 := Tryz.underlying9
 a9 := Tryz.isAgg9
 z9 := Tryz.sizeOf9
 v9 := Tryz.zeroValue9
 t46 := Tryz.underlying349
 a46 := Tryz.isAgg349
 z46 := Tryz.sizeOf349
 v46 := Tryz.zeroValue349
 t51 := Tryz.underlying347
 a51 := Tryz.isAgg347
 z51 := Tryz.sizeOf347
 v51 := Tryz.zeroValue347
 t146 := Tryz.underlying392
 a146 := Tryz.isAgg392
 z146 := Tryz.sizeOf392
 v146 := Tryz.zeroValue392
 g1 := by kernel_rfl
 i3 := by kernel_rfl
 i4 := by kernel_rfl
 i5 := by kernel_rfl
 i9 := by kernel_rfl
 i46 := by kernel_rfl
 i51 := by kernel_rfl
 i146 := by kernel_rfl
 m1 := by kernel_rfl
 s1_3 := fun w h => Go.Proofs.cell_of_shapedOpen_int (zero := #[.int .i64 0]) (t := 3) h (of_decide_eq_true (by kernel_rfl)) (by kernel_rfl) rfl (by kernel_rfl) (by kernel_rfl) Tryz.underlying3 }
end Go.Proofs
