/- 'known' is true, by the kernel's evaluator. No condition. -/
import Derived.Test.YtpaodecpdbjfbaaDoorRows
import Derived.Test.YtpaodecpdbjfbaaDoorShelf
import Derived.WalkKit
import Derived.Test.YtpaodecpdbjfbaaDoorEvd8
namespace Go.Proofs.YtpaodecpdbjfbaaDoor
open Eva Go.RowKit
set_option linter.unusedVariables false
noncomputable def kf5 : KFn := { params := [], res := [(.s r0)], body :=
 (.seq
 (.reg [.p (o1 mvG (ctK (.bool false))) w0])
 (.seq
 (.reg [.p (buildO [(.int .i64 (Int.ofNat 0)), (.str 0 0), (.int .i64 (Int.ofNat 0))] [(0, 1, (ctK (.int .i64 (Int.ofNat 17)))), (2, 1, (ctK (.int .i64 (Int.ofNat 3))))]) pushW, .p (callO 7 [(ctK (.str 5 538971110267)), l0]) pushW, .p (o2 (eqG eqSV false) l0 (ctK (.str 9 1871225788130858908209))) pushW, .g l0 true false none (buildO [(.int .i64 (Int.ofNat 0)), (.str 0 0), (.int .i64 (Int.ofNat 0))] []) pushW, .g l1 true false none (callO 7 [(ctK (.str 0 0)), l0]) pushW, .g l2 true false none (o2 (eqG eqSV false) l0 (ctK (.str 2 27503))) pushW, .p (o3 pickG l3 l0 (ctK (.bool false))) pushW, .p (o1 mvG l0) w0])
 .ret)) }
theorem kf5_ok : (compFn Tryd.prog Tryd.f5 []).bind (toKFn [1, 2, 3, 4, 5, 6, 7, 8] 0) = some kf5 := by kernel_rfl
noncomputable def kf7 : KFn := { params := [w0, w1], res := [(.s r4)], body :=
 (.seq
 (.reg [.p (o1 boxG r1) w3, .p (o1 mvG (ctK (.str 0 0))) w4])
 (.seq
 (.seq
 (.reg [.p (o1 (faddrG 0) r3) pushW, .p (o1 load1G l0) pushW, .p (o2 (eqG eqIV false) l0 (ctK (.int .i64 (Int.ofNat 0)))) w10])
 (.cond r10
 (.seq
 (.reg [.p (o1 (faddrG 0) r3) pushW, .p (o1 load1G l0) pushW, .p (callO 11 [l0]) pushW, .p (o1 mvG l0) w4])
 .ret)
 .skip))
 (.seq
 (.reg [.p (o1 (faddrG 2) r3) pushW, .p (o1 load1G l0) pushW, .p (callO 12 [r0, l0]) pushW, .p (o1 (extG 0) l0) pushW, .p (o1 (extG 1) l1) pushW, .p (o1 mvG l1) w5, .p (o1 mvG l0) w6])
 (.seq
 (.reg [.p (callO 13 [r5]) pushW, .p (o2 (binG addB) l0 (ctK (.str 1 58))) pushW, .p (callO 13 [r6]) pushW, .p (o2 (binG addB) l1 l0) pushW, .p (o2 (binG addB) l0 (ctK (.str 2 8250))) pushW, .p (o1 mvG l0) w7])
 (.seq
 (.seq
 (.reg [.p (o1 (faddrG 1) r3) pushW, .p (o1 load1G l0) pushW, .p (o2 (eqG eqSV true) l0 (ctK (.str 0 0))) w30])
 (.cond r30
 (.reg [.p (o1 mvG r7) pushW, .p (o1 (faddrG 1) r3) pushW, .p (o1 load1G l0) pushW, .p (o2 (binG addB) l0 (ctK (.str 2 8250))) pushW, .p (o2 (binG addB) l3 l0) pushW, .p (o1 mvG l0) w7])
 .skip))
 (.seq
 (.reg [.p (o1 (faddrG 0) r3) pushW, .p (o1 load1G l0) pushW, .p (callO 11 [l0]) pushW, .p (o2 (binG addB) r7 l0) pushW, .p (o1 mvG l0) w4])
 .ret)))))) }
theorem kf7_ok : (compFn Tryd.prog Tryd.f7 [[0, 3], [3, 7]]).bind (toKFn [8, 9, 11, 12, 13, 14, 15, 16, 17, 18, 19, 20, 21, 22, 23, 24, 25, 26, 27, 28, 29, 31, 32, 33, 34, 35, 36, 37, 38, 39, 40] 2) = some kf7 := by kernel_rfl
noncomputable def kf11 : KFn := { params := [w0], res := [(.s r2)], body :=
 (.seq
 (.reg [.p (o1 mvG (ctK (.str 0 0))) w2])
 (.seq
 (.block 0
 (.seq
 (.reg [.p (o2 (binG (cmpB .lss ltI)) r0 (ctK (.int .i64 (Int.ofNat 11)))) pushW, .p (o1 mvG l0) w3])
 (.cond r3
 (.seq
 (.reg [.p (callO 15 [r0]) pushW, .p (o1 mvG l0) w2])
 .ret)
 (.seq
 (.reg [.p (o2 (binG (cmpB .lss ltI)) r0 (ctK (.int .i64 (Int.ofNat 31)))) pushW, .p (o1 mvG l0) w8])
 (.cond r8
 (.seq
 (.reg [.p (callO 16 [r0]) pushW, .p (o1 mvG l0) w2])
 .ret)
 .skip)))))
 (.seq
 (.reg [.p (callO 17 [r0]) pushW, .p (o1 mvG l0) w2])
 .ret))) }
theorem kf11_ok : (compFn Tryd.prog Tryd.f11 [[0]]).bind (toKFn [4, 5, 6, 7, 9, 10, 11, 12, 13, 14] 1) = some kf11 := by kernel_rfl
noncomputable def kf15 : KFn := { params := [w0], res := [(.s r2)], body :=
 (.seq
 (.reg [.p (o1 mvG (ctK (.str 0 0))) w2])
 (.seq
 (.seq
 (.reg [.p (o1 mvG r0) w3])
 (.block 0
 (.seq
 (.reg [.p (o2 (eqG eqIV false) r3 (ctK (.int .i64 (Int.ofNat 0)))) pushW, .p (o1 mvG l0) w4])
 (.cond r4
 (.seq
 (.reg [.p (o1 mvG (ctK (.str 2 27503))) w2])
 .ret)
 (.seq
 (.reg [.p (o2 (eqG eqIV false) r3 (ctK (.int .i64 (Int.ofNat 1)))) pushW, .p (o1 mvG l0) w6])
 (.cond r6
 (.seq
 (.reg [.p (o1 mvG (ctK (.str 3 6779489))) w2])
 .ret)
 (.seq
 (.reg [.p (o2 (eqG eqIV false) r3 (ctK (.int .i64 (Int.ofNat 2)))) pushW, .p (o1 mvG l0) w8])
 (.cond r8
 (.seq
 (.reg [.p (o1 mvG (ctK (.str 4 1701736302))) w2])
 .ret)
 (.seq
 (.reg [.p (o2 (eqG eqIV false) r3 (ctK (.int .i64 (Int.ofNat 3)))) pushW, .p (o1 mvG l0) w10])
 (.cond r10
 (.seq
 (.reg [.p (o1 mvG (ctK (.str 4 2037277037))) w2])
 .ret)
 (.seq
 (.reg [.p (o2 (eqG eqIV false) r3 (ctK (.int .i64 (Int.ofNat 4)))) pushW, .p (o1 mvG l0) w12])
 (.cond r12
 (.seq
 (.reg [.p (o1 mvG (ctK (.str 4 1735290732))) w2])
 .ret)
 (.seq
 (.reg [.p (o2 (eqG eqIV false) r3 (ctK (.int .i64 (Int.ofNat 5)))) pushW, .p (o1 mvG l0) w14])
 (.cond r14
 (.seq
 (.reg [.p (o1 mvG (ctK (.str 4 1685221239))) w2])
 .ret)
 (.seq
 (.reg [.p (o2 (eqG eqIV false) r3 (ctK (.int .i64 (Int.ofNat 6)))) pushW, .p (o1 mvG l0) w16])
 (.cond r16
 (.seq
 (.reg [.p (o1 mvG (ctK (.str 2 29545))) w2])
 .ret)
 .skip))))))))))))))))
 (.seq
 (.reg [.p (o1 mvG (ctK (.str 5 491496043109))) w2])
 .ret))) }
theorem kf15_ok : (compFn Tryd.prog Tryd.f15 [[]]).bind (toKFn [5, 7, 9, 11, 13, 15, 17] 1) = some kf15 := by kernel_rfl
noncomputable def kf16 : KFn := { params := [w0], res := [(.s r2)], body :=
 (.seq
 (.reg [.p (o1 mvG (ctK (.str 0 0))) w2])
 (.seq
 (.seq
 (.reg [.p (o1 mvG r0) w3])
 (.block 0
 (.seq
 (.reg [.p (o2 (eqG eqIV false) r3 (ctK (.int .i64 (Int.ofNat 11)))) pushW, .p (o1 mvG l0) w4])
 (.cond r4
 (.seq
 (.reg [.p (o1 mvG (ctK (.str 5 474147942260))) w2])
 .ret)
 (.seq
 (.reg [.p (o2 (eqG eqIV false) r3 (ctK (.int .i64 (Int.ofNat 12)))) pushW, .p (o1 mvG l0) w6])
 (.cond r6
 (.seq
 (.reg [.p (o1 mvG (ctK (.str 4 1836216166))) w2])
 .ret)
 (.seq
 (.reg [.p (o2 (eqG eqIV false) r3 (ctK (.int .i64 (Int.ofNat 13)))) pushW, .p (o1 mvG l0) w8])
 (.cond r8
 (.seq
 (.reg [.p (o1 mvG (ctK (.str 4 1885693284))) w2])
 .ret)
 (.seq
 (.reg [.p (o2 (eqG eqIV false) r3 (ctK (.int .i64 (Int.ofNat 14)))) pushW, .p (o1 mvG l0) w10])
 (.cond r10
 (.seq
 (.reg [.p (o1 mvG (ctK (.str 4 1886351212))) w2])
 .ret)
 (.seq
 (.reg [.p (o2 (eqG eqIV false) r3 (ctK (.int .i64 (Int.ofNat 15)))) pushW, .p (o1 mvG l0) w12])
 (.cond r12
 (.seq
 (.reg [.p (o1 mvG (ctK (.str 4 1701667182))) w2])
 .ret)
 (.seq
 (.reg [.p (o2 (eqG eqIV false) r3 (ctK (.int .i64 (Int.ofNat 16)))) pushW, .p (o1 mvG l0) w14])
 (.cond r14
 (.seq
 (.reg [.p (o1 mvG (ctK (.str 5 431315315046))) w2])
 .ret)
 (.seq
 (.reg [.p (o2 (eqG eqIV false) r3 (ctK (.int .i64 (Int.ofNat 17)))) pushW, .p (o1 mvG l0) w16])
 (.cond r16
 (.seq
 (.reg [.p (o1 mvG (ctK (.str 4 1701869940))) w2])
 .ret)
 (.seq
 (.reg [.p (o2 (eqG eqIV false) r3 (ctK (.int .i64 (Int.ofNat 18)))) pushW, .p (o1 mvG l0) w18])
 (.cond r18
 (.seq
 (.reg [.p (o1 mvG (ctK (.str 4 1936159329))) w2])
 .ret)
 (.seq
 (.reg [.p (o2 (eqG eqIV false) r3 (ctK (.int .i64 (Int.ofNat 19)))) pushW, .p (o1 mvG l0) w20])
 (.cond r20
 (.seq
 (.reg [.p (o1 mvG (ctK (.str 4 1702060387))) w2])
 .ret)
 (.seq
 (.reg [.p (o2 (eqG eqIV false) r3 (ctK (.int .i64 (Int.ofNat 20)))) pushW, .p (o1 mvG l0) w22])
 (.cond r22
 (.seq
 (.reg [.p (o1 mvG (ctK (.str 3 6777186))) w2])
 .ret)
 .skip))))))))))))))))))))))
 (.seq
 (.reg [.p (o1 mvG (ctK (.str 5 491496043109))) w2])
 .ret))) }
theorem kf16_ok : (compFn Tryd.prog Tryd.f16 [[]]).bind (toKFn [5, 7, 9, 11, 13, 15, 17, 19, 21, 23] 1) = some kf16 := by kernel_rfl
noncomputable def kf17 : KFn := { params := [w0], res := [(.s r2)], body :=
 (.seq
 (.reg [.p (o1 mvG (ctK (.str 0 0))) w2])
 (.seq
 (.seq
 (.reg [.p (o1 mvG r0) w3])
 (.block 0
 (.seq
 (.reg [.p (o2 (eqG eqIV false) r3 (ctK (.int .i64 (Int.ofNat 31)))) pushW, .p (o1 mvG l0) w4])
 (.cond r4
 (.seq
 (.reg [.p (o1 mvG (ctK (.str 5 435677128819))) w2])
 .ret)
 (.seq
 (.reg [.p (o2 (eqG eqIV false) r3 (ctK (.int .i64 (Int.ofNat 32)))) pushW, .p (o1 mvG l0) w6])
 (.cond r6
 (.seq
 (.reg [.p (o1 mvG (ctK (.str 5 517097156201))) w2])
 .ret)
 (.seq
 (.reg [.p (o2 (eqG eqIV false) r3 (ctK (.int .i64 (Int.ofNat 33)))) pushW, .p (o1 mvG l0) w8])
 (.cond r8
 (.seq
 (.reg [.p (o1 mvG (ctK (.str 4 1668183398))) w2])
 .ret)
 (.seq
 (.reg [.p (o2 (eqG eqIV false) r3 (ctK (.int .i64 (Int.ofNat 34)))) pushW, .p (o1 mvG l0) w10])
 (.cond r10
 (.seq
 (.reg [.p (o1 mvG (ctK (.str 5 435744764535))) w2])
 .ret)
 (.seq
 (.reg [.p (o2 (eqG eqIV false) r3 (ctK (.int .i64 (Int.ofNat 35)))) pushW, .p (o1 mvG l0) w12])
 (.cond r12
 (.seq
 (.reg [.p (o1 mvG (ctK (.str 5 448630121828))) w2])
 .ret)
 (.seq
 (.reg [.p (o2 (eqG eqIV false) r3 (ctK (.int .i64 (Int.ofNat 36)))) pushW, .p (o1 mvG l0) w14])
 (.cond r14
 (.seq
 (.reg [.p (o1 mvG (ctK (.str 6 127978875155810))) w2])
 .ret)
 .skip))))))))))))))
 (.seq
 (.reg [.p (o1 mvG (ctK (.str 5 491496043109))) w2])
 .ret))) }
theorem kf17_ok : (compFn Tryd.prog Tryd.f17 [[]]).bind (toKFn [5, 7, 9, 11, 13, 15] 1) = some kf17 := by kernel_rfl
noncomputable def kf12 : KFn := { params := [w0, w1], res := [(.s r4), (.s r5)], body :=
 (.seq
 (.reg [.p (o1 mvG (ctK (.int .i64 (Int.ofNat 0)))) w4, .p (o1 mvG (ctK (.int .i64 (Int.ofNat 0)))) w5])
 (.seq
 (.reg [.p (o1 mvG (ctK (.int .i64 (Int.ofNat 1)))) w4])
 (.seq
 (.reg [.p (o1 mvG r1) pushW, .p (o2 maxG l0 (ctK (.int .i64 (Int.ofNat 0)))) pushW, .p (o1 lenSG r0) pushW, .p (o2 minG l1 l0) pushW, .p (o1 mvG l0) w1])
 (.seq
 (.reg [.p (o1 mvG (ctK (.int .i64 (Int.ofNat 0)))) w6])
 (.seq
 (.seq
 (.reg [.p (cutSO r0 none (some r1)) pushW, .p (o1 rngSG l0) w17])
 (.block 0
 (.loop
 (.seq
 (.reg [.p (o1 nextSG r17) w18, .p (o1 (extG 0) r18) w19])
 (.seq
 (.cond r19
 .skip
 (.exit 0))
 (.block 1
 (.seq
 (.reg [.p (o1 (extG 1) r18) pushW, .p (o1 (extG 2) r18) pushW, .p (o1 mvG l1) w7, .p (o1 mvG l0) w8])
 (.seq
 (.reg [.p (o2 (eqG eqIV false) r8 (ctK (.int .i32 (Int.ofNat 10)))) w23])
 (.cond r23
 (.seq
 (.reg [.p (o1 mvG r4) pushW, .p (o2 (binG addB) l0 (ctK (.int .i64 (Int.ofNat 1)))) pushW, .p (o1 mvG l0) w4])
 (.reg [.p (o2 (binG addB) r7 (ctK (.int .i64 (Int.ofNat 1)))) pushW, .p (o1 mvG l0) w6]))
 .skip)))))))))
 (.seq
 (.reg [.p (o1 mvG r4) pushW, .p (o2 (binG subB) r1 r6) pushW, .p (o2 (binG addB) l0 (ctK (.int .i64 (Int.ofNat 1)))) pushW, .p (o1 mvG l2) w4, .p (o1 mvG l0) w5])
 .ret)))))) }
theorem kf12_ok : (compFn Tryd.prog Tryd.f12 [[1, 4, 6], [1, 4, 6, 17], [1, 4, 6, 17, 18]]).bind (toKFn [9, 10, 11, 12, 13, 14, 15, 16, 20, 21, 22, 24, 25, 26, 27, 28, 29, 30, 31, 32] 2) = some kf12 := by kernel_rfl
theorem mixed : Tryd.prog.follows .mixedOrders = true := by kernel_rfl
noncomputable def tabA : BT :=
  (.node 12 (.node 7 (.node 5 (.leaf 5 (compE 100000 Tryd.prog Tryd.f5 [] kf5))
  (.leaf 7 (compE 100000 Tryd.prog Tryd.f7 [[0, 3], [3, 7]] kf7)))
  (.node 11 (.leaf 11 (compE 100000 Tryd.prog Tryd.f11 [[0]] kf11))
  (.leaf 12 (compE 100000 Tryd.prog Tryd.f12 [[1, 4, 6], [1, 4, 6, 17], [1, 4, 6, 17, 18]] kf12))))
  (.node 15 (.node 13 (.leaf 13 itoaE)
  (.leaf 15 (compE 100000 Tryd.prog Tryd.f15 [[]] kf15)))
  (.node 16 (.leaf 16 (compE 100000 Tryd.prog Tryd.f16 [[]] kf16))
  (.leaf 17 (compE 100000 Tryd.prog Tryd.f17 [[]] kf17)))))
theorem tabA_K : tabA.all fun _ e => BodyKOK e.k e.b := ⟨⟨⟨compE_K kf5_ok, compE_K kf7_ok⟩, ⟨compE_K kf11_ok, compE_K kf12_ok⟩⟩, ⟨⟨itoaE_K, compE_K kf15_ok⟩, ⟨compE_K kf16_ok, compE_K kf17_ok⟩⟩⟩
theorem tabA_B {ρ : Nat → Value} {W : World} (hρ : ∀ i, (ρ i).oneCell' = true) : tabA.all fun i e => BodyOK Tryd.prog ρ ⟨W.heap.size, W⟩ i e.b :=
  ⟨⟨⟨compE_B kf5_ok Tryd.func5 (by decide) hρ mixed, compE_B kf7_ok Tryd.func7 (by decide) hρ mixed⟩, ⟨compE_B kf11_ok Tryd.func11 (by decide) hρ mixed, compE_B kf12_ok Tryd.func12 (by decide) hρ mixed⟩⟩, ⟨⟨itoaE_B Tryd.func13 (by kernel_rfl) (by decide) fun i hi w => Tryd.strconv_Itoa_small i hi w, compE_B kf15_ok Tryd.func15 (by decide) hρ mixed⟩, ⟨compE_B kf16_ok Tryd.func16 (by decide) hρ mixed, compE_B kf17_ok Tryd.func17 (by decide) hρ mixed⟩⟩⟩
theorem known_check : check tabA 1000 5 [] = true := by kernel_rfl
theorem known_calls (w : World) : Calls Tryd.prog 5 #[] w fun e w' => e = .returned (.bool true) ∧ Below w.heap.size w w' :=
  check_call (ρ := fun _ => .bool false) tabA_K (tabA_B (fun _ => rfl)) known_check (xs := []) rfl
end Go.Proofs.YtpaodecpdbjfbaaDoor
