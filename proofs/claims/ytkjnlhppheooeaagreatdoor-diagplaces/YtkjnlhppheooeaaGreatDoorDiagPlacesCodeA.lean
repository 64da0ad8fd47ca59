/- The code of the law and of all that it calls, for the evaluator; what stands in for the library's. No condition. -/
import Derived.Test.YtkjnlhppheooeaaGreatDoorRows
import Derived.Test.YtkjnlhppheooeaaGreatDoorShelf
import Derived.WalkKit
import Derived.Test.YtkjnlhppheooeaaGreatDoorEvc8
import Derived.Test.YtkjnlhppheooeaaGreatDoorPlace
namespace Go.Proofs.YtkjnlhppheooeaaGreatDoor
open Eva Go.RowKit
set_option linter.unusedVariables false
noncomputable def kf3 : KFn := { params := [w0, w1, w2], res := [(.s r6)], body :=
 (.seq
 (.reg [.p (o1 mvG (ctK (.bool false))) w6])
 (.seq
 (.seq
 (.reg [.p (callO 4 []) pushW, .p (o1 notG l0) w19])
 (.cond r19
 (.seq
 (.reg [.p (o1 mvG (ctK (.bool false))) w6])
 .ret)
 .skip))
 (.seq
 (.reg [.p (o1 mvG r0) pushW, .p (callO 5 [l0, (ctK (.int .i64 (Int.ofNat 30)))]) pushW, .p (o1 mvG r1) pushW, .p (callO 5 [l0, (ctK (.int .i64 (Int.ofNat 20)))]) pushW, .p (o1 mvG r2) pushW, .p (callO 5 [l0, (ctK (.int .i64 (Int.ofNat 6)))]) pushW, .p (o1 mvG l4) w0, .p (o1 mvG l2) w1, .p (o1 mvG l0) w2])
 (.seq
 (.reg [.p (o1 mvG (ctK (.str 0 0))) w7])
 (.seq
 (.seq
 (.reg [.p (o1 mvG (ctK (.int .i64 (Int.ofNat 0)))) w8])
 (.block 0
 (.loop
 (.seq
 (.seq
 (.reg [.p (o2 (binG (cmpB .lss ltI)) r8 r0) w28])
 (.cond r28
 .skip
 (.exit 0)))
 (.seq
 (.block 1
 (.reg [.p (o1 mvG r7) pushW, .p (o2 (binG addB) l0 (ctK (.str 2 2680))) pushW, .p (o1 mvG l0) w7]))
 (.reg [.p (o1 mvG r8) pushW, .p (o2 (binG addB) l0 (ctK (.int .i64 (Int.ofNat 1)))) pushW, .p (o1 mvG l0) w8]))))))
 (.seq
 (.seq
 (.reg [.p (o1 mvG (ctK (.int .i64 (Int.ofNat 0)))) w9])
 (.block 2
 (.loop
 (.seq
 (.seq
 (.reg [.p (o2 (binG (cmpB .lss ltI)) r9 r2) w35])
 (.cond r35
 .skip
 (.exit 2)))
 (.seq
 (.block 3
 (.reg [.p (o1 mvG r7) pushW, .p (o2 (binG addB) l0 (ctK (.str 8 9042434343521844091))) pushW, .p (o1 mvG l0) w7]))
 (.reg [.p (o1 mvG r9) pushW, .p (o2 (binG addB) l0 (ctK (.int .i64 (Int.ofNat 1)))) pushW, .p (o1 mvG l0) w9]))))))
 (.seq
 (.seq
 (.reg [.p (o1 mvG (ctK (.int .i64 (Int.ofNat 0)))) w10])
 (.block 4
 (.loop
 (.seq
 (.seq
 (.reg [.p (o2 (binG (cmpB .lss ltI)) r10 r1) w42])
 (.cond r42
 .skip
 (.exit 4)))
 (.seq
 (.block 5
 (.reg [.p (o1 mvG r7) pushW, .p (o2 (binG addB) l0 (ctK (.str 1 32))) pushW, .p (o1 mvG l0) w7]))
 (.reg [.p (o1 mvG r10) pushW, .p (o2 (binG addB) l0 (ctK (.int .i64 (Int.ofNat 1)))) pushW, .p (o1 mvG l0) w10]))))))
 (.seq
 (.reg [.p (o2 (binG addB) r0 (ctK (.int .i64 (Int.ofNat 1)))) pushW, .p (callO 6 [l0]) pushW, .p (o2 (binG addB) l0 (ctK (.str 1 58))) pushW, .p (o2 (binG (slowBin .mul)) (ctK (.int .i64 (Int.ofNat 8))) r2) pushW, .p (o2 (binG addB) l0 r1) pushW, .p (o2 (binG addB) l0 (ctK (.int .i64 (Int.ofNat 1)))) pushW, .p (callO 6 [l0]) pushW, .p (o2 (binG addB) l4 l0) pushW, .p (o2 (binG addB) l0 (ctK (.str 7 28266680486862906))) pushW, .p (o1 mvG l0) w11])
 (.seq
 (.reg [.p (o1 mvG r7) pushW, .p (o2 (binG addB) l0 (ctK (.str 7 35322289632213883))) pushW, .p (o1 mvG l0) w7])
 (.seq
 (.seq
 (.reg [.p (o1 mvG (ctK (.int .i64 (Int.ofNat 0)))) w12])
 (.block 6
 (.loop
 (.seq
 (.seq
 (.reg [.p (o2 (binG (cmpB .lss ltI)) r12 r2) w63])
 (.cond r63
 .skip
 (.exit 6)))
 (.seq
 (.block 7
 (.reg [.p (o1 mvG r7) pushW, .p (o2 (binG addB) l0 (ctK (.str 7 35322242391178107))) pushW, .p (o1 mvG l0) w7]))
 (.reg [.p (o1 mvG r12) pushW, .p (o2 (binG addB) l0 (ctK (.int .i64 (Int.ofNat 1)))) pushW, .p (o1 mvG l0) w12]))))))
 (.seq
 (.reg [.p (callO 7 [r7]) pushW, .p (o1 (extG 0) l0) pushW, .p (o1 (extG 1) l1) pushW, .p (o1 (extG 2) l2) pushW, .p (o1 mvG l2) w13, .p (o1 mvG l0) w15])
 (.seq
 (.reg [.p (buildO [(.int .i64 (Int.ofNat 0)), (.str 0 0), .snil, .snil] [(0, 1, (ctK (.int .i64 (Int.ofNat 1))))]) pushW, .p (buildO [(.int .i64 (Int.ofNat 0)), (.str 0 0), .snil, .snil, .snil, .snil] [(0, 4, l0)]) pushW, .p (callO 8 [l0, r13]) pushW, .p (o1 (extG 0) l0) pushW, .p (o1 (extG 1) l1) pushW, .p (allocO [(.int .i64 (Int.ofNat 0)), (.str 0 0), (.int .i64 (Int.ofNat 0))]) w17, .p (o2 (storeG 3) r17 l0) noW])
 (.seq
 (.reg [.p (o2 (eqG eqIV false) r15 (ctK (.int .i64 (Int.ofNat 0)))) pushW, .g l0 true false none (o1 mvG r7) pushW, .g l1 true false none (o1 (loadnG 3) r17) pushW, .g l2 true false none (callO 9 [l1, l0]) pushW, .g l3 true false none (o1 mvG r11) pushW, .g l4 true false none (o2 (eqG eqSV false) l1 l0) pushW, .p (o3 pickG l5 l0 (ctK (.bool false))) pushW, .p (o1 mvG l0) w6])
 .ret))))))))))))) }
theorem kf3_ok : (compFn Tryz.prog Tryz.f3 [[0, 1, 2], [0, 1, 2, 7], [0, 1, 2, 7, 8], [0, 1, 2, 7, 8], [0, 1, 2, 7, 8], [0, 1, 2, 7], [0, 1, 2, 7, 9], [0, 1, 2, 7, 9], [0, 1, 2, 7, 9], [0, 1, 2, 7], [0, 1, 2, 7, 10], [0, 1, 2, 7, 10], [0, 1, 2, 7, 10], [7, 11], [2, 7, 11, 12], [2, 7, 11, 12], [2, 7, 11, 12]]).bind (toKFn [14, 16, 18, 20, 21, 22, 23, 24, 25, 26, 27, 29, 30, 31, 32, 33, 34, 36, 37, 38, 39, 40, 41, 43, 44, 45, 46, 47, 48, 49, 50, 51, 52, 53, 54, 55, 56, 57, 58, 59, 60, 61, 62, 64, 65, 66, 67, 68, 69, 70, 71, 72, 73, 74, 75, 76, 77, 78, 79, 80, 81, 82, 83, 84, 85, 86, 87, 88, 89] 3) = some kf3 := by kernel_rfl
noncomputable def kf4 : KFn := { params := [], res := [(.s r0)], body :=
 (.seq
 (.reg [.p (o1 mvG (ctK (.bool false))) w0])
 (.seq
 (.reg [.p (buildO [(.int .i64 (Int.ofNat 0)), (.str 0 0), (.int .i64 (Int.ofNat 0))] [(0, 1, (ctK (.int .i64 (Int.ofNat 17)))), (2, 1, (ctK (.int .i64 (Int.ofNat 3))))]) pushW, .p (callO 9 [(ctK (.str 5 538971110267)), l0]) pushW, .p (o2 (eqG eqSV false) l0 (ctK (.str 9 1871225788130858908209))) pushW, .g l0 true false none (buildO [(.int .i64 (Int.ofNat 0)), (.str 0 0), (.int .i64 (Int.ofNat 0))] []) pushW, .g l1 true false none (callO 9 [(ctK (.str 0 0)), l0]) pushW, .g l2 true false none (o2 (eqG eqSV false) l0 (ctK (.str 2 27503))) pushW, .p (o3 pickG l3 l0 (ctK (.bool false))) pushW, .p (o1 mvG l0) w0])
 .ret)) }
theorem kf4_ok : (compFn Tryz.prog Tryz.f4 []).bind (toKFn [1, 2, 3, 4, 5, 6, 7, 8] 0) = some kf4 := by kernel_rfl
noncomputable def kf9 : KFn := { params := [w0, w1], res := [(.s r4)], body :=
 (.seq
 (.reg [.p (o1 boxG r1) w3, .p (o1 mvG (ctK (.str 0 0))) w4])
 (.seq
 (.seq
 (.reg [.p (o1 (faddrG 0) r3) pushW, .p (o1 load1G l0) pushW, .p (o2 (eqG eqIV false) l0 (ctK (.int .i64 (Int.ofNat 0)))) w10])
 (.cond r10
 (.seq
 (.reg [.p (o1 (faddrG 0) r3) pushW, .p (o1 load1G l0) pushW, .p (callO 18 [l0]) pushW, .p (o1 mvG l0) w4])
 .ret)
 .skip))
 (.seq
 (.reg [.p (o1 (faddrG 2) r3) pushW, .p (o1 load1G l0) pushW, .p (callO 19 [r0, l0]) pushW, .p (o1 (extG 0) l0) pushW, .p (o1 (extG 1) l1) pushW, .p (o1 mvG l1) w5, .p (o1 mvG l0) w6])
 (.seq
 (.reg [.p (callO 20 [r5]) pushW, .p (o2 (binG addB) l0 (ctK (.str 1 58))) pushW, .p (callO 20 [r6]) pushW, .p (o2 (binG addB) l1 l0) pushW, .p (o2 (binG addB) l0 (ctK (.str 2 8250))) pushW, .p (o1 mvG l0) w7])
 (.seq
 (.seq
 (.reg [.p (o1 (faddrG 1) r3) pushW, .p (o1 load1G l0) pushW, .p (o2 (eqG eqSV true) l0 (ctK (.str 0 0))) w30])
 (.cond r30
 (.reg [.p (o1 mvG r7) pushW, .p (o1 (faddrG 1) r3) pushW, .p (o1 load1G l0) pushW, .p (o2 (binG addB) l0 (ctK (.str 2 8250))) pushW, .p (o2 (binG addB) l3 l0) pushW, .p (o1 mvG l0) w7])
 .skip))
 (.seq
 (.reg [.p (o1 (faddrG 0) r3) pushW, .p (o1 load1G l0) pushW, .p (callO 18 [l0]) pushW, .p (o2 (binG addB) r7 l0) pushW, .p (o1 mvG l0) w4])
 .ret)))))) }
theorem kf9_ok : (compFn Tryz.prog Tryz.f9 [[0, 3], [3, 7]]).bind (toKFn [8, 9, 11, 12, 13, 14, 15, 16, 17, 18, 19, 20, 21, 22, 23, 24, 25, 26, 27, 28, 29, 31, 32, 33, 34, 35, 36, 37, 38, 39, 40] 2) = some kf9 := by kernel_rfl
noncomputable def kf18 : KFn := { params := [w0], res := [(.s r2)], body :=
 (.seq
 (.reg [.p (o1 mvG (ctK (.str 0 0))) w2])
 (.seq
 (.block 0
 (.seq
 (.reg [.p (o2 (binG (cmpB .lss ltI)) r0 (ctK (.int .i64 (Int.ofNat 11)))) pushW, .p (o1 mvG l0) w3])
 (.cond r3
 (.seq
 (.reg [.p (callO 40 [r0]) pushW, .p (o1 mvG l0) w2])
 .ret)
 (.seq
 (.reg [.p (o2 (binG (cmpB .lss ltI)) r0 (ctK (.int .i64 (Int.ofNat 31)))) pushW, .p (o1 mvG l0) w8])
 (.cond r8
 (.seq
 (.reg [.p (callO 41 [r0]) pushW, .p (o1 mvG l0) w2])
 .ret)
 .skip)))))
 (.seq
 (.reg [.p (callO 42 [r0]) pushW, .p (o1 mvG l0) w2])
 .ret))) }
theorem kf18_ok : (compFn Tryz.prog Tryz.f18 [[0]]).bind (toKFn [4, 5, 6, 7, 9, 10, 11, 12, 13, 14] 1) = some kf18 := by kernel_rfl
noncomputable def kf40 : KFn := { params := [w0], res := [(.s r2)], body :=
 (.seq
 (.reg [.p (o1 mvG (ctK (.str 0 0))) w2])
 (.seq
 (.seq
 (.reg [.p (o1 mvG r0) w3])
 (.block 0
 (.seq
 (.reg [.p (o2 (eqG eqIV false) r3 (ctK (.int .i64 (Int.ofNat 0)))) pushW, .p (o1 mvG l0) w4])
 (.cond r4
 (.seq
 (.reg [.p (o1 mvG (ctK (.str 2 27503))) w2])
 .ret)
 (.seq
 (.reg [.p (o2 (eqG eqIV false) r3 (ctK (.int .i64 (Int.ofNat 1)))) pushW, .p (o1 mvG l0) w6])
 (.cond r6
 (.seq
 (.reg [.p (o1 mvG (ctK (.str 3 6779489))) w2])
 .ret)
 (.seq
 (.reg [.p (o2 (eqG eqIV false) r3 (ctK (.int .i64 (Int.ofNat 2)))) pushW, .p (o1 mvG l0) w8])
 (.cond r8
 (.seq
 (.reg [.p (o1 mvG (ctK (.str 4 1701736302))) w2])
 .ret)
 (.seq
 (.reg [.p (o2 (eqG eqIV false) r3 (ctK (.int .i64 (Int.ofNat 3)))) pushW, .p (o1 mvG l0) w10])
 (.cond r10
 (.seq
 (.reg [.p (o1 mvG (ctK (.str 4 2037277037))) w2])
 .ret)
 (.seq
 (.reg [.p (o2 (eqG eqIV false) r3 (ctK (.int .i64 (Int.ofNat 4)))) pushW, .p (o1 mvG l0) w12])
 (.cond r12
 (.seq
 (.reg [.p (o1 mvG (ctK (.str 4 1735290732))) w2])
 .ret)
 (.seq
 (.reg [.p (o2 (eqG eqIV false) r3 (ctK (.int .i64 (Int.ofNat 5)))) pushW, .p (o1 mvG l0) w14])
 (.cond r14
 (.seq
 (.reg [.p (o1 mvG (ctK (.str 4 1685221239))) w2])
 .ret)
 (.seq
 (.reg [.p (o2 (eqG eqIV false) r3 (ctK (.int .i64 (Int.ofNat 6)))) pushW, .p (o1 mvG l0) w16])
 (.cond r16
 (.seq
 (.reg [.p (o1 mvG (ctK (.str 2 29545))) w2])
 .ret)
 .skip))))))))))))))))
 (.seq
 (.reg [.p (o1 mvG (ctK (.str 5 491496043109))) w2])
 .ret))) }
theorem kf40_ok : (compFn Tryz.prog Tryz.f40 [[]]).bind (toKFn [5, 7, 9, 11, 13, 15, 17] 1) = some kf40 := by kernel_rfl
noncomputable def kf41 : KFn := { params := [w0], res := [(.s r2)], body :=
 (.seq
 (.reg [.p (o1 mvG (ctK (.str 0 0))) w2])
 (.seq
 (.seq
 (.reg [.p (o1 mvG r0) w3])
 (.block 0
 (.seq
 (.reg [.p (o2 (eqG eqIV false) r3 (ctK (.int .i64 (Int.ofNat 11)))) pushW, .p (o1 mvG l0) w4])
 (.cond r4
 (.seq
 (.reg [.p (o1 mvG (ctK (.str 5 474147942260))) w2])
 .ret)
 (.seq
 (.reg [.p (o2 (eqG eqIV false) r3 (ctK (.int .i64 (Int.ofNat 12)))) pushW, .p (o1 mvG l0) w6])
 (.cond r6
 (.seq
 (.reg [.p (o1 mvG (ctK (.str 4 1836216166))) w2])
 .ret)
 (.seq
 (.reg [.p (o2 (eqG eqIV false) r3 (ctK (.int .i64 (Int.ofNat 13)))) pushW, .p (o1 mvG l0) w8])
 (.cond r8
 (.seq
 (.reg [.p (o1 mvG (ctK (.str 4 1885693284))) w2])
 .ret)
 (.seq
 (.reg [.p (o2 (eqG eqIV false) r3 (ctK (.int .i64 (Int.ofNat 14)))) pushW, .p (o1 mvG l0) w10])
 (.cond r10
 (.seq
 (.reg [.p (o1 mvG (ctK (.str 4 1886351212))) w2])
 .ret)
 (.seq
 (.reg [.p (o2 (eqG eqIV false) r3 (ctK (.int .i64 (Int.ofNat 15)))) pushW, .p (o1 mvG l0) w12])
 (.cond r12
 (.seq
 (.reg [.p (o1 mvG (ctK (.str 4 1701667182))) w2])
 .ret)
 (.seq
 (.reg [.p (o2 (eqG eqIV false) r3 (ctK (.int .i64 (Int.ofNat 16)))) pushW, .p (o1 mvG l0) w14])
 (.cond r14
 (.seq
 (.reg [.p (o1 mvG (ctK (.str 5 431315315046))) w2])
 .ret)
 (.seq
 (.reg [.p (o2 (eqG eqIV false) r3 (ctK (.int .i64 (Int.ofNat 17)))) pushW, .p (o1 mvG l0) w16])
 (.cond r16
 (.seq
 (.reg [.p (o1 mvG (ctK (.str 4 1701869940))) w2])
 .ret)
 (.seq
 (.reg [.p (o2 (eqG eqIV false) r3 (ctK (.int .i64 (Int.ofNat 18)))) pushW, .p (o1 mvG l0) w18])
 (.cond r18
 (.seq
 (.reg [.p (o1 mvG (ctK (.str 4 1936159329))) w2])
 .ret)
 (.seq
 (.reg [.p (o2 (eqG eqIV false) r3 (ctK (.int .i64 (Int.ofNat 19)))) pushW, .p (o1 mvG l0) w20])
 (.cond r20
 (.seq
 (.reg [.p (o1 mvG (ctK (.str 4 1702060387))) w2])
 .ret)
 (.seq
 (.reg [.p (o2 (eqG eqIV false) r3 (ctK (.int .i64 (Int.ofNat 20)))) pushW, .p (o1 mvG l0) w22])
 (.cond r22
 (.seq
 (.reg [.p (o1 mvG (ctK (.str 3 6777186))) w2])
 .ret)
 .skip))))))))))))))))))))))
 (.seq
 (.reg [.p (o1 mvG (ctK (.str 5 491496043109))) w2])
 .ret))) }
theorem kf41_ok : (compFn Tryz.prog Tryz.f41 [[]]).bind (toKFn [5, 7, 9, 11, 13, 15, 17, 19, 21, 23] 1) = some kf41 := by kernel_rfl
noncomputable def kf42 : KFn := { params := [w0], res := [(.s r2)], body :=
 (.seq
 (.reg [.p (o1 mvG (ctK (.str 0 0))) w2])
 (.seq
 (.seq
 (.reg [.p (o1 mvG r0) w3])
 (.block 0
 (.seq
 (.reg [.p (o2 (eqG eqIV false) r3 (ctK (.int .i64 (Int.ofNat 31)))) pushW, .p (o1 mvG l0) w4])
 (.cond r4
 (.seq
 (.reg [.p (o1 mvG (ctK (.str 5 435677128819))) w2])
 .ret)
 (.seq
 (.reg [.p (o2 (eqG eqIV false) r3 (ctK (.int .i64 (Int.ofNat 32)))) pushW, .p (o1 mvG l0) w6])
 (.cond r6
 (.seq
 (.reg [.p (o1 mvG (ctK (.str 5 517097156201))) w2])
 .ret)
 (.seq
 (.reg [.p (o2 (eqG eqIV false) r3 (ctK (.int .i64 (Int.ofNat 33)))) pushW, .p (o1 mvG l0) w8])
 (.cond r8
 (.seq
 (.reg [.p (o1 mvG (ctK (.str 4 1668183398))) w2])
 .ret)
 (.seq
 (.reg [.p (o2 (eqG eqIV false) r3 (ctK (.int .i64 (Int.ofNat 34)))) pushW, .p (o1 mvG l0) w10])
 (.cond r10
 (.seq
 (.reg [.p (o1 mvG (ctK (.str 5 435744764535))) w2])
 .ret)
 (.seq
 (.reg [.p (o2 (eqG eqIV false) r3 (ctK (.int .i64 (Int.ofNat 35)))) pushW, .p (o1 mvG l0) w12])
 (.cond r12
 (.seq
 (.reg [.p (o1 mvG (ctK (.str 5 448630121828))) w2])
 .ret)
 (.seq
 (.reg [.p (o2 (eqG eqIV false) r3 (ctK (.int .i64 (Int.ofNat 36)))) pushW, .p (o1 mvG l0) w14])
 (.cond r14
 (.seq
 (.reg [.p (o1 mvG (ctK (.str 6 127978875155810))) w2])
 .ret)
 .skip))))))))))))))
 (.seq
 (.reg [.p (o1 mvG (ctK (.str 5 491496043109))) w2])
 .ret))) }
theorem kf42_ok : (compFn Tryz.prog Tryz.f42 [[]]).bind (toKFn [5, 7, 9, 11, 13, 15] 1) = some kf42 := by kernel_rfl
noncomputable def kf19 : KFn := { params := [w0, w1], res := [(.s r4), (.s r5)], body :=
 (.seq
 (.reg [.p (o1 mvG (ctK (.int .i64 (Int.ofNat 0)))) w4, .p (o1 mvG (ctK (.int .i64 (Int.ofNat 0)))) w5])
 (.seq
 (.reg [.p (o1 mvG (ctK (.int .i64 (Int.ofNat 1)))) w4])
 (.seq
 (.reg [.p (o1 mvG r1) pushW, .p (o2 maxG l0 (ctK (.int .i64 (Int.ofNat 0)))) pushW, .p (o1 lenSG r0) pushW, .p (o2 minG l1 l0) pushW, .p (o1 mvG l0) w1])
 (.seq
 (.reg [.p (o1 mvG (ctK (.int .i64 (Int.ofNat 0)))) w6])
 (.seq
 (.seq
 (.reg [.p (cutSO r0 none (some r1)) pushW, .p (o1 rngSG l0) w17])
 (.block 0
 (.loop
 (.seq
 (.reg [.p (o1 nextSG r17) w18, .p (o1 (extG 0) r18) w19])
 (.seq
 (.cond r19
 .skip
 (.exit 0))
 (.block 1
 (.seq
 (.reg [.p (o1 (extG 1) r18) pushW, .p (o1 (extG 2) r18) pushW, .p (o1 mvG l1) w7, .p (o1 mvG l0) w8])
 (.seq
 (.reg [.p (o2 (eqG eqIV false) r8 (ctK (.int .i32 (Int.ofNat 10)))) w23])
 (.cond r23
 (.seq
 (.reg [.p (o1 mvG r4) pushW, .p (o2 (binG addB) l0 (ctK (.int .i64 (Int.ofNat 1)))) pushW, .p (o1 mvG l0) w4])
 (.reg [.p (o2 (binG addB) r7 (ctK (.int .i64 (Int.ofNat 1)))) pushW, .p (o1 mvG l0) w6]))
 .skip)))))))))
 (.seq
 (.reg [.p (o1 mvG r4) pushW, .p (o2 (binG subB) r1 r6) pushW, .p (o2 (binG addB) l0 (ctK (.int .i64 (Int.ofNat 1)))) pushW, .p (o1 mvG l2) w4, .p (o1 mvG l0) w5])
 .ret)))))) }
theorem kf19_ok : (compFn Tryz.prog Tryz.f19 [[1, 4, 6], [1, 4, 6, 17], [1, 4, 6, 17, 18]]).bind (toKFn [9, 10, 11, 12, 13, 14, 15, 16, 20, 21, 22, 24, 25, 26, 27, 28, 29, 30, 31, 32] 2) = some kf19 := by kernel_rfl
noncomputable def kf6 : KFn := { params := [w0], res := [(.s r2)], body :=
 (.seq
 (.reg [.p (o1 mvG (ctK (.str 0 0))) w2])
 (.seq
 (.seq
 (.reg [.p (o2 (binG (cmpB .geq geI)) r0 (ctK (.int .i64 (Int.ofNat 10)))) w4])
 (.cond r4
 (.seq
 (.reg [.p (o2 (binG (slowBin .quo)) r0 (ctK (.int .i64 (Int.ofNat 10)))) pushW, .p (callO 6 [l0]) pushW, .p (o2 (binG (slowBin .rem)) r0 (ctK (.int .i64 (Int.ofNat 10)))) pushW, .p (callO 6 [l0]) pushW, .p (o2 (binG addB) l2 l0) pushW, .p (o1 mvG l0) w2])
 .ret)
 .skip))
 (.seq
 (.reg [.p (o2 (binG addB) (ctK (.int .i64 (Int.ofNat 48))) r0) pushW, .p (o1 (tointG .u8) l0) pushW, .p (bslO 1 1 [(.int .u8 (Int.ofNat 0))] [(0, 1, l0)]) pushW, .p (o1 btsG l0) pushW, .p (o1 mvG l0) w2])
 .ret))) }
theorem kf6_ok : (compFn Tryz.prog Tryz.f6 [[0]]).bind (toKFn [3, 5, 6, 7, 8, 9, 10, 11, 12, 13, 14, 15, 16] 1) = some kf6 := by kernel_rfl
noncomputable def kf7 : KFn := { params := [w0], res := [(.s r2), (.s r3), (.s r4)], body :=
 (.seq
 (.reg [.p (o1 mvG (ctK .snil)) w2, .p (o1 mvG (ctK (.int .i64 (Int.ofNat 0)))) w3, .p (o1 mvG (ctK (.int .i64 (Int.ofNat 0)))) w4])
 (.seq
 (.reg [.p (callO 10 [r0]) pushW, .p (o1 (extG 0) l0) pushW, .p (o1 (extG 1) l1) pushW, .p (o1 mvG l1) w5, .p (o1 mvG l0) w6])
 (.seq
 (.seq
 (.reg [.p (o2 (eqG eqIV true) r6 (ctK (.int .i64 (Int.ofNat 0)))) w16])
 (.cond r16
 (.seq
 (.reg [.p (o1 mvG (ctK .snil)) w2, .p (o1 mvG (ctK (.int .i64 (Int.ofNat 0)))) w3, .p (o1 mvG r6) w4])
 .ret)
 .skip))
 (.seq
 (.reg [.p (buildO [.snil, .snil, .snil, (.int .i64 (Int.ofNat 0))] []) pushW, .p (o1 boxG l0) pushW, .p (o1 mvG l0) w7])
 (.seq
 (.seq
 (.reg [.p (o1 mvG (ctK (.int .i64 (Int.ofNat 0)))) w8])
 (.block 0
 (.loop
 (.seq
 (.seq
 (.reg [.p (o1 lenLG r5) pushW, .p (o2 (binG (cmpB .lss ltI)) r8 l0) w23])
 (.cond r23
 .skip
 (.exit 0)))
 (.seq
 (.block 1
 (.seq
 (.reg [.p (o1 mvG (ctK (.int .i64 (Int.ofNat 0)))) w9])
 (.seq
 (.seq
 (.reg [.p (o2 (iaddrG 3) r5 r8) pushW, .p (o1 (faddrG 0) l0) pushW, .p (o1 load1G l0) w30])
 (.cond r30
 (.reg [.p (o2 (iaddrG 3) r5 r8) pushW, .p (o1 (loadnG 3) l0) pushW, .p (callO 11 [r7, l0]) pushW, .p (o1 mvG l0) w9])
 (.reg [.p (o2 (iaddrG 3) r5 r8) pushW, .p (o1 (loadnG 3) l0) pushW, .p (callO 12 [r7, l0]) pushW, .p (o1 mvG l0) w9])))
 (.seq
 (.reg [.p (o2 (eqG eqIV true) r9 (ctK (.int .i64 (Int.ofNat 0)))) w44])
 (.cond r44
 (.seq
 (.drw [.p (o2 (iaddrG 3) r5 r8) pushW, .p (o1 (faddrG 2) l0) pushW, .p (o1 load1G l0) pushW, .p (o1 mvG (ctK .snil)) w2, .p (o1 mvG l0) w3, .p (o1 mvG r9) w4] [])
 .ret)
 .skip)))))
 (.reg [.p (o1 mvG r8) pushW, .p (o2 (binG addB) l0 (ctK (.int .i64 (Int.ofNat 1)))) pushW, .p (o1 mvG l0) w8]))))))
 (.seq
 (.seq
 (.reg [.p (o1 nilckG r7) pushW, .p (o1 (faddrG 0) l0) pushW, .p (o1 load1G l0) pushW, .p (o1 lenLG l0) pushW, .p (o2 (binG (cmpB .gtr gtI)) l0 (ctK (.int .i64 (Int.ofNat 0)))) w56])
 (.cond r56
 (.seq
 (.reg [.p (o1 lenSG r0) pushW, .p (o1 mvG (ctK .snil)) w2, .p (o1 mvG l0) w3, .p (o1 mvG (ctK (.int .i64 (Int.ofNat 12)))) w4])
 .ret)
 .skip))
 (.seq
 (.drw [.p (o1 nilckG r7) pushW, .p (o1 (faddrG 1) l0) pushW, .p (o1 load1G l0) pushW, .p (buildO [(.str 0 0), .snil] [(1, 1, l0)]) pushW, .p (bslO 2 1 [(.str 0 0), .snil] [(0, 2, l0)]) pushW, .p (o1 nilckG r7) pushW, .p (o1 (faddrG 2) l0) pushW, .p (o1 load1G l0) pushW, .p (o2 (appG 2) l3 l0) pushW, .p (o1 mvG l0) w2, .p (o1 mvG (ctK (.int .i64 (Int.ofNat 0)))) w3, .p (o1 mvG (ctK (.int .i64 (Int.ofNat 0)))) w4] [])
 .ret))))))) }
theorem kf7_ok : (compFn Tryz.prog Tryz.f7 [[0, 5], [0, 7], [0, 5, 7, 8], [0, 5, 7, 8], [0, 5, 7, 8], [0, 5, 7, 8, 9], [7]]).bind (toKFn [10, 11, 12, 13, 14, 15, 17, 18, 19, 20, 21, 22, 24, 25, 26, 27, 28, 29, 31, 32, 33, 34, 35, 36, 37, 38, 39, 40, 41, 42, 43, 45, 46, 47, 48, 49, 50, 51, 52, 53, 54, 55, 57, 58, 59, 60, 61, 62, 63, 64, 65, 66, 67, 68, 69] 1) = some kf7 := by kernel_rfl
noncomputable def kf10 : KFn := { params := [w0], res := [(.s r2), (.s r3)], body :=
 (.seq
 (.reg [.p (o1 mvG (ctK .snil)) w2, .p (o1 mvG (ctK (.int .i64 (Int.ofNat 0)))) w3])
 (.seq
 (.seq
 (.reg [.p (o1 lenSG r0) pushW, .p (o2 (binG (cmpB .gtr gtI)) l0 (ctK (.int .i64 (Int.ofNat 1500)))) w10])
 (.cond r10
 (.seq
 (.reg [.p (o1 mvG (ctK .snil)) w2, .p (o1 mvG (ctK (.int .i64 (Int.ofNat 4)))) w3])
 .ret)
 .skip))
 (.seq
 (.reg [.p (o1 mvG (ctK .snil)) w4])
 (.seq
 (.reg [.p (o1 mvG (ctK (.int .i64 (Int.ofNat 0)))) w5, .p (o1 mvG (ctK (.int .i64 (Int.ofNat 0)))) w6])
 (.seq
 (.block 0
 (.loop
 (.seq
 (.seq
 (.reg [.p (o1 lenSG r0) pushW, .p (o2 (binG (cmpB .lss ltI)) r5 l0) w14])
 (.cond r14
 .skip
 (.exit 0)))
 (.block 1
 (.seq
 (.seq
 (.reg [.p (o2 (binG addB) r5 (ctK (.int .i64 (Int.ofNat 1)))) pushW, .p (o1 lenSG r0) pushW, .p (o2 (binG (cmpB .geq geI)) l1 l0) pushW, .g l0 false false none (o1 mvG r0) pushW, .g l1 false false none (o1 mvG r5) pushW, .g l2 false false none (o2 idxG l1 l0) pushW, .g l3 false false none (o2 (eqG eqIV true) l0 (ctK (.int .u8 (Int.ofNat 123)))) pushW, .p (o3 pickG l4 (ctK (.bool true)) l0) pushW, .g l0 false false none (o1 mvG r0) pushW, .g l1 false false none (o1 mvG r5) pushW, .g l2 false false none (o2 (binG addB) l0 (ctK (.int .i64 (Int.ofNat 1)))) pushW, .g l3 false false none (o2 idxG l2 l0) pushW, .g l4 false false none (o2 (eqG eqIV true) l0 (ctK (.int .u8 (Int.ofNat 123)))) pushW, .p (o3 pickG l5 (ctK (.bool true)) l0) w32])
 (.cond r32
 (.seq
 (.reg [.p (o1 mvG r5) pushW, .p (o2 (binG addB) l0 (ctK (.int .i64 (Int.ofNat 1)))) pushW, .p (o1 mvG l0) w5])
 (.exit 1))
 .skip))
 (.seq
 (.seq
 (.reg [.p (o2 (binG (cmpB .gtr gtI)) r5 r6) w37])
 (.cond r37
 (.reg [.p (o1 mvG r4) pushW, .p (cutSO r0 (some r6) (some r5)) pushW, .p (buildO [(.bool false), (.str 0 0), (.int .i64 (Int.ofNat 0))] [(1, 1, l0), (2, 1, r6)]) pushW, .p (bslO 3 1 [(.bool false), (.str 0 0), (.int .i64 (Int.ofNat 0))] [(0, 3, l0)]) pushW, .p (o2 (appG 3) l3 l0) pushW, .p (o1 mvG l0) w4])
 .skip))
 (.seq
 (.reg [.p (o2 (binG addB) r5 (ctK (.int .i64 (Int.ofNat 2)))) pushW, .p (callO 21 [r0, l0]) pushW, .p (o1 mvG l0) w7])
 (.seq
 (.seq
 (.reg [.p (o2 (binG (cmpB .lss ltI)) r7 (ctK (.int .i64 (Int.ofNat 0)))) w52])
 (.cond r52
 (.seq
 (.reg [.p (o1 mvG (ctK .snil)) w2, .p (o1 mvG (ctK (.int .i64 (Int.ofNat 11)))) w3])
 .ret)
 .skip))
 (.seq
 (.reg [.p (o1 mvG r4) pushW, .p (o2 (binG addB) r5 (ctK (.int .i64 (Int.ofNat 2)))) pushW, .p (cutSO r0 (some l0) (some r7)) pushW, .p (buildO [(.bool false), (.str 0 0), (.int .i64 (Int.ofNat 0))] [(0, 1, (ctK (.bool true))), (1, 1, l0), (2, 1, r5)]) pushW, .p (bslO 3 1 [(.bool false), (.str 0 0), (.int .i64 (Int.ofNat 0))] [(0, 3, l0)]) pushW, .p (o2 (appG 3) l4 l0) pushW, .p (o1 mvG l0) w4])
 (.seq
 (.reg [.p (o2 (binG addB) r7 (ctK (.int .i64 (Int.ofNat 2)))) pushW, .p (o1 mvG l0) w5])
 (.reg [.p (o1 mvG r5) w6])))))))))))
 (.seq
 (.seq
 (.reg [.p (o1 lenSG r0) pushW, .p (o2 (binG (cmpB .gtr gtI)) l0 r6) w69])
 (.cond r69
 (.reg [.p (o1 mvG r4) pushW, .p (cutSO r0 (some r6) none) pushW, .p (buildO [(.bool false), (.str 0 0), (.int .i64 (Int.ofNat 0))] [(1, 1, l0), (2, 1, r6)]) pushW, .p (bslO 3 1 [(.bool false), (.str 0 0), (.int .i64 (Int.ofNat 0))] [(0, 3, l0)]) pushW, .p (o2 (appG 3) l3 l0) pushW, .p (o1 mvG l0) w4])
 .skip))
 (.seq
 (.seq
 (.reg [.p (o1 lenLG r4) pushW, .p (o2 (binG (cmpB .gtr gtI)) l0 (ctK (.int .i64 (Int.ofNat 200)))) w80])
 (.cond r80
 (.seq
 (.reg [.p (o1 mvG (ctK .snil)) w2, .p (o1 mvG (ctK (.int .i64 (Int.ofNat 3)))) w3])
 .ret)
 .skip))
 (.seq
 (.reg [.p (o1 mvG r4) w2, .p (o1 mvG (ctK (.int .i64 (Int.ofNat 0)))) w3])
 .ret)))))))) }
theorem kf10_ok : (compFn Tryz.prog Tryz.f10 [[0], [0, 4, 6], [0, 4, 5, 6], [0, 4, 5, 6], [0, 4, 5, 6], [0, 4, 5], [0, 4, 5, 7], [4], [4]]).bind (toKFn [8, 9, 11, 12, 13, 15, 16, 17, 18, 19, 20, 21, 22, 23, 24, 25, 26, 27, 28, 29, 30, 31, 33, 34, 35, 36, 38, 39, 40, 41, 42, 43, 44, 45, 46, 47, 48, 49, 50, 51, 53, 54, 55, 56, 57, 58, 59, 60, 61, 62, 63, 64, 65, 66, 67, 68, 70, 71, 72, 73, 74, 75, 76, 77, 78, 79, 81] 1) = some kf10 := by kernel_rfl
noncomputable def kf21 : KFn := { params := [w0, w1], res := [(.s r4)], body :=
 (.seq
 (.reg [.p (o1 mvG (ctK (.int .i64 (Int.ofNat 0)))) w4])
 (.seq
 (.reg [.p (o1 mvG (ctK (.bool false))) w5, .p (o1 mvG (ctK (.int .i64 (Int.ofNat 0)))) w6])
 (.seq
 (.block 0
 (.loop
 (.seq
 (.seq
 (.reg [.p (o1 lenSG r0) pushW, .p (o2 (binG (cmpB .lss ltI)) r1 l0) w11])
 (.cond r11
 .skip
 (.exit 0)))
 (.block 1
 (.seq
 (.reg [.p (o2 idxG r0 r1) pushW, .p (o1 mvG l0) w7])
 (.seq
 (.block 2
 (.seq
 (.reg [.p (o1 notG r5) pushW, .g l0 true false none (o1 mvG r7) pushW, .g l1 true false none (o2 (eqG eqIV false) l0 (ctK (.int .u8 (Int.ofNat 125)))) pushW, .p (o3 pickG l2 l0 (ctK (.bool false))) pushW, .g l0 true false none (o1 mvG r1) pushW, .g l1 true false none (o2 (binG addB) l0 (ctK (.int .i64 (Int.ofNat 1)))) pushW, .g l2 true false none (o1 mvG r0) pushW, .g l3 true false none (o1 lenSG l0) pushW, .g l4 true false none (o2 (binG (cmpB .lss ltI)) l2 l0) pushW, .p (o3 pickG l5 l0 (ctK (.bool false))) pushW, .g l0 true false none (o1 mvG r0) pushW, .g l1 true false none (o1 mvG r1) pushW, .g l2 true false none (o2 (binG addB) l0 (ctK (.int .i64 (Int.ofNat 1)))) pushW, .g l3 true false none (o2 idxG l2 l0) pushW, .g l4 true false none (o2 (eqG eqIV false) l0 (ctK (.int .u8 (Int.ofNat 125)))) pushW, .p (o3 pickG l5 l0 (ctK (.bool false))) pushW, .p (o1 mvG l0) w22])
 (.cond r22
 (.seq
 (.reg [.p (o1 mvG r1) w4])
 .ret)
 (.seq
 (.reg [.p (o1 notG r5) pushW, .p (o1 mvG l0) w44])
 (.cond r44
 (.seq
 (.reg [.p (o2 (eqG eqIV false) r7 (ctK (.int .u8 (Int.ofNat 34)))) pushW, .p (o1 mvG l0) w5])
 (.reg [.p (o1 mvG (ctK (.int .i64 (Int.ofNat 0)))) w6]))
 (.seq
 (.reg [.p (o2 (eqG eqIV false) r7 (ctK (.int .u8 (Int.ofNat 92)))) pushW, .p (o1 mvG l0) w49])
 (.cond r49
 (.reg [.p (o1 mvG r6) pushW, .p (o2 (binG addB) l0 (ctK (.int .i64 (Int.ofNat 1)))) pushW, .p (o1 mvG l0) w6])
 (.seq
 (.reg [.p (o2 (eqG eqIV true) r7 (ctK (.int .u8 (Int.ofNat 34)))) pushW, .g l0 false false none (o1 mvG r6) pushW, .g l1 false false none (o2 (binG (slowBin .rem)) l0 (ctK (.int .i64 (Int.ofNat 2)))) pushW, .g l2 false false none (o2 (eqG eqIV false) l0 (ctK (.int .i64 (Int.ofNat 1)))) pushW, .p (o3 pickG l3 (ctK (.bool true)) l0) pushW, .p (o1 mvG l0) w5])
 (.reg [.p (o1 mvG (ctK (.int .i64 (Int.ofNat 0)))) w6])))))))))
 (.reg [.p (o1 mvG r1) pushW, .p (o2 (binG addB) l0 (ctK (.int .i64 (Int.ofNat 1)))) pushW, .p (o1 mvG l0) w1])))))))
 (.seq
 (.reg [.p (o1 mvG (ctK (.int .i64 (Int.negSucc 0)))) w4])
 .ret)))) }
theorem kf21_ok : (compFn Tryz.prog Tryz.f21 [[], [0, 1, 5, 6], [0, 1, 5, 6], [0, 1, 5, 6]]).bind (toKFn [8, 9, 10, 12, 13, 14, 15, 16, 17, 18, 19, 20, 21, 23, 24, 25, 26, 27, 28, 29, 30, 31, 32, 33, 34, 35, 36, 37, 38, 39, 40, 41, 42, 43, 45, 46, 47, 48, 50, 51, 52, 53, 54, 55] 2) = some kf21 := by kernel_rfl
noncomputable def kf11 : KFn := { params := [w0, w1], res := [(.s r4)], body :=
 (.seq
 (.reg [.p (o1 boxG r1) w3, .p (o1 mvG (ctK (.int .i64 (Int.ofNat 0)))) w4])
 (.seq
 (.reg [.p (o1 (faddrG 1) r3) pushW, .p (o1 load1G l0) pushW, .p (callO 22 [l0]) pushW, .p (o1 (extG 0) l0) pushW, .p (o1 (extG 1) l1) pushW, .p (o1 mvG l1) w5, .p (o1 mvG l0) w6])
 (.seq
 (.seq
 (.reg [.p (o2 (eqG eqIV true) r6 (ctK (.int .i64 (Int.ofNat 0)))) w17])
 (.cond r17
 (.seq
 (.reg [.p (o1 mvG r6) w4])
 .ret)
 .skip))
 (.seq
 (.reg [.p (buildO [.snil, (.int .i64 (Int.ofNat 0)), (.int .i64 (Int.ofNat 0))] [(0, 1, r5)]) pushW, .p (o1 boxG l0) pushW, .p (o1 mvG l0) w7])
 (.seq
 (.reg [.p (o1 (faddrG 2) r3) pushW, .p (o1 load1G l0) pushW, .p (buildO [(.int .i64 (Int.ofNat 0)), (.int .i64 (Int.ofNat 0)), (.str 0 0), (.str 0 0), .snil, .snil, .snil, (.bool false), .snil] [(0, 1, (ctK (.int .i64 (Int.ofNat 2)))), (1, 1, l0)]) pushW, .p (allocO [(.int .i64 (Int.ofNat 0)), (.int .i64 (Int.ofNat 0)), (.str 0 0), (.str 0 0), .snil, .snil, .snil, (.bool false), .snil]) w8, .p (o2 (storeG 9) r8 l0) noW])
 (.seq
 (.reg [.p (o1 mvG (ctK (.str 0 0))) w9])
 (.seq
 (.seq
 (.reg [.p (callO 23 [r7, (ctK (.int .i64 (Int.ofNat 1)))]) pushW, .g l0 true false none (o1 mvG r5) pushW, .g l1 true false none (o2 (iaddrG 4) l0 (ctK (.int .i64 (Int.ofNat 0)))) pushW, .g l2 true false none (o1 (faddrG 1) l0) pushW, .g l3 true false none (o1 load1G l0) pushW, .g l4 true false none (callO 24 [l0]) pushW, .p (o3 pickG l5 l0 (ctK (.bool false))) pushW, .g l0 true false none (o1 mvG r5) pushW, .g l1 true false none (o2 (iaddrG 4) l0 (ctK (.int .i64 (Int.ofNat 0)))) pushW, .g l2 true false none (o1 (faddrG 1) l0) pushW, .g l3 true false none (o1 load1G l0) pushW, .g l4 true false none (o2 (eqG eqSV true) l0 (ctK (.str 4 1702195828))) pushW, .p (o3 pickG l5 l0 (ctK (.bool false))) pushW, .g l0 true false none (o1 mvG r5) pushW, .g l1 true false none (o2 (iaddrG 4) l0 (ctK (.int .i64 (Int.ofNat 0)))) pushW, .g l2 true false none (o1 (faddrG 1) l0) pushW, .g l3 true false none (o1 load1G l0) pushW, .g l4 true false none (o2 (eqG eqSV true) l0 (ctK (.str 5 435728179558))) pushW, .p (o3 pickG l5 l0 (ctK (.bool false))) w47])
 (.cond r47
 (.seq
 (.reg [.p (o2 (iaddrG 4) r5 (ctK (.int .i64 (Int.ofNat 0)))) pushW, .p (o1 (faddrG 1) l0) pushW, .p (o1 load1G l0) pushW, .p (o1 mvG l0) w9])
 (.reg [.p (o1 nilckG r7) pushW, .p (o1 (faddrG 1) l0) pushW, .p (o1 load1G l0) pushW, .p (o2 (binG addB) l0 (ctK (.int .i64 (Int.ofNat 1)))) pushW, .p (o1 nilckG r7) pushW, .p (o1 (faddrG 1) l0) pushW, .p (o2 (storeG 1) l0 l2) noW]))
 .skip))
 (.seq
 (.seq
 (.reg [.p (o1 mvG r9) w59])
 (.block 0
 (.seq
 (.seq
 (.reg [.p (o2 (eqG eqSV false) r59 (ctK (.str 2 26217))) pushW, .p (o1 mvG l0) w113])
 (.cond r113
 .skip
 (.seq
 (.reg [.p (o2 (eqG eqSV false) r59 (ctK (.str 4 1752459639))) pushW, .p (o1 mvG l0) w113])
 (.cond r113
 .skip
 (.seq
 (.reg [.p (o2 (eqG eqSV false) r59 (ctK (.str 5 435526984050))) pushW, .p (o1 mvG l0) w113])
 (.cond r113
 .skip
 (.reg [.p (o2 (eqG eqSV false) r59 (ctK (.str 5 448345170285))) pushW, .p (o1 mvG l0) w113])))))))
 (.cond r113
 (.reg [.p (callO 25 [r9]) pushW, .p (callO 26 [r7, (ctK (.int .i64 (Int.ofNat 0)))]) pushW, .p (o1 (faddrG 0) r8) pushW, .p (o2 (storeG 1) l0 l2) noW, .p (o1 (faddrG 4) r8) pushW, .p (o2 (storeG 1) l0 l2) noW])
 (.seq
 (.seq
 (.reg [.p (o2 (eqG eqSV false) r59 (ctK (.str 4 1702063205))) pushW, .p (o1 mvG l0) w124])
 (.cond r124
 .skip
 (.reg [.p (o2 (eqG eqSV false) r59 (ctK (.str 3 6581861))) pushW, .p (o1 mvG l0) w124])))
 (.cond r124
 .skip
 (.seq
 (.reg [.p (o2 (eqG eqSV false) r59 (ctK (.str 4 1702060387))) pushW, .p (o1 mvG l0) w127])
 (.cond r127
 (.reg [.p (callO 27 [r7, (ctK (.int .i64 (Int.ofNat 1)))]) pushW, .p (o1 (fld1G 1) l0) pushW, .p (o1 (faddrG 3) r8) pushW, .p (o2 (storeG 1) l0 l1) noW])
 (.seq
 (.seq
 (.reg [.p (o2 (eqG eqSV false) r59 (ctK (.str 6 111524889126244))) pushW, .p (o1 mvG l0) w133])
 (.cond r133
 .skip
 (.reg [.p (o2 (eqG eqSV false) r59 (ctK (.str 8 7310575213499737460))) pushW, .p (o1 mvG l0) w133])))
 (.cond r133
 (.seq
 (.reg [.p (callO 27 [r7, (ctK (.int .i64 (Int.ofNat 2)))]) pushW, .p (o1 (fld1G 1) l0) pushW, .p (o1 (faddrG 0) r8) pushW, .p (o2 (storeG 1) l0 (ctK (.int .i64 (Int.ofNat 9)))) noW, .p (o1 (faddrG 3) r8) pushW, .p (o2 (storeG 1) l0 l2) noW])
 (.seq
 (.reg [.p (o2 (eqG eqSV false) r9 (ctK (.str 8 7310575213499737460))) pushW, .g l0 true false none (o1 mvG r7) pushW, .g l1 true false none (o1 nilckG l0) pushW, .g l2 true false none (o1 (faddrG 1) l0) pushW, .g l3 true false none (o1 load1G l0) pushW, .g l4 true false none (o1 mvG r5) pushW, .g l5 true false none (o1 lenLG l0) pushW, .g l6 true false none (o2 (binG (cmpB .lss ltI)) l2 l0) pushW, .p (o3 pickG l7 l0 (ctK (.bool false))) w151])
 (.cond r151
 (.reg [.p (callO 26 [r7, (ctK (.int .i64 (Int.ofNat 0)))]) pushW, .p (o1 (faddrG 4) r8) pushW, .p (o2 (storeG 1) l0 l1) noW])
 .skip)))
 (.seq
 (.seq
 (.reg [.p (o1 lenLG r5) pushW, .p (o2 (binG (cmpB .gtr gtI)) l0 (ctK (.int .i64 (Int.ofNat 2)))) pushW, .g l0 true false none (o1 mvG r7) pushW, .g l1 true false none (callO 28 [l0, (ctK (.str 1 36))]) pushW, .p (o3 pickG l2 l0 (ctK (.bool false))) pushW, .g l0 true false none (o1 mvG r5) pushW, .g l1 true false none (o2 (iaddrG 4) l0 (ctK (.int .i64 (Int.ofNat 1)))) pushW, .g l2 true false none (o1 (faddrG 0) l0) pushW, .g l3 true false none (o1 load1G l0) pushW, .g l4 true false none (o2 (eqG eqIV false) l0 (ctK (.int .i64 (Int.ofNat 1)))) pushW, .p (o3 pickG l5 l0 (ctK (.bool false))) pushW, .g l0 true false none (o1 mvG r5) pushW, .g l1 true false none (o2 (iaddrG 4) l0 (ctK (.int .i64 (Int.ofNat 2)))) pushW, .g l2 true false none (o1 (faddrG 0) l0) pushW, .g l3 true false none (o1 load1G l0) pushW, .g l4 true false none (o2 (eqG eqIV false) l0 (ctK (.int .i64 (Int.ofNat 4)))) pushW, .p (o3 pickG l5 l0 (ctK (.bool false))) pushW, .g l0 true false none (o1 mvG r5) pushW, .g l1 true false none (o2 (iaddrG 4) l0 (ctK (.int .i64 (Int.ofNat 2)))) pushW, .g l2 true false none (o1 (faddrG 1) l0) pushW, .g l3 true false none (o1 load1G l0) pushW, .g l4 true false none (o2 (eqG eqSV false) l0 (ctK (.str 2 15674))) pushW, .g l5 true false none (o1 mvG l0) pushW, .g l0 false false none (o1 mvG r5) pushW, .g l1 false false none (o2 (iaddrG 4) l0 (ctK (.int .i64 (Int.ofNat 2)))) pushW, .g l2 false false none (o1 (faddrG 1) l0) pushW, .g l3 false false none (o1 load1G l0) pushW, .g l4 false false none (o2 (eqG eqSV false) l0 (ctK (.str 1 61))) pushW, .g l11 true false none (o3 pickG l5 (ctK (.bool true)) l0) pushW, .p (o3 pickG l12 l0 (ctK (.bool false))) w94])
 (.cond r94
 (.seq
 (.drw [.p (o2 (iaddrG 4) r5 (ctK (.int .i64 (Int.ofNat 1)))) pushW, .p (o1 (faddrG 1) l0) w97, .p (o1 load1G r97) pushW, .p (o1 (faddrG 0) r8) w99, .p (o2 (storeG 1) r99 (ctK (.int .i64 (Int.ofNat 3)))) noW, .p (o1 (faddrG 3) r8) pushW, .p (o2 (storeG 1) l0 l1) noW] [([r99], [r97])])
 (.seq
 (.seq
 (.reg [.p (o2 (iaddrG 4) r5 (ctK (.int .i64 (Int.ofNat 2)))) pushW, .p (o1 (faddrG 1) l0) pushW, .p (o1 load1G l0) pushW, .p (o2 (eqG eqSV false) l0 (ctK (.str 1 61))) w105])
 (.cond r105
 (.reg [.p (o1 (faddrG 0) r8) pushW, .p (o2 (storeG 1) l0 (ctK (.int .i64 (Int.ofNat 4)))) noW])
 .skip))
 (.reg [.p (o1 nilckG r7) pushW, .p (o1 (faddrG 1) l0) pushW, .p (o2 (storeG 1) l0 (ctK (.int .i64 (Int.ofNat 3)))) noW])))
 .skip))
 (.reg [.p (callO 26 [r7, (ctK (.int .i64 (Int.ofNat 0)))]) pushW, .p (o1 (faddrG 4) r8) pushW, .p (o2 (storeG 1) l0 l1) noW]))))))))))))
 (.seq
 (.seq
 (.reg [.p (callO 29 [r7]) pushW, .p (o2 (eqG eqIV true) l0 (ctK (.int .i64 (Int.ofNat 0)))) w157])
 (.cond r157
 (.seq
 (.reg [.p (o1 nilckG r7) pushW, .p (o1 (faddrG 2) l0) pushW, .p (o1 load1G l0) pushW, .p (o1 mvG l0) w4])
 .ret)
 .skip))
 (.seq
 (.reg [.p (o1 (loadnG 9) r8) pushW, .p (callO 30 [r0, r9, l0]) pushW, .p (o1 mvG l0) w4])
 .ret)))))))))) }
theorem kf11_ok : (compFn Tryz.prog Tryz.f11 [[0, 3, 5], [0, 5, 7, 8, 9], [0, 7, 8, 9], [0, 5, 7, 8, 9, 59, 113], [0, 5, 7, 8, 9, 59, 124], [0, 5, 7, 8, 9, 133], [0, 7, 8, 9], [0, 7, 8, 9], [0, 8, 9]]).bind (toKFn [10, 11, 12, 13, 14, 15, 16, 18, 19, 20, 21, 22, 23, 24, 25, 26, 27, 28, 29, 30, 31, 32, 33, 34, 35, 36, 37, 38, 39, 40, 41, 42, 43, 44, 45, 46, 48, 49, 50, 51, 52, 53, 54, 55, 56, 57, 58, 60, 61, 62, 63, 64, 65, 66, 67, 68, 69, 70, 71, 72, 73, 74, 75, 76, 77, 78, 79, 80, 81, 82, 83, 84, 85, 86, 87, 88, 89, 90, 91, 92, 93, 95, 96, 98, 100, 101, 102, 103, 104, 106, 107, 108, 109, 110, 111, 112, 114, 115, 116, 117, 118, 119, 120, 121, 122, 123, 125, 126, 128, 129, 130, 131, 132, 134, 135, 136, 137, 138, 139, 140, 141, 142, 143, 144, 145, 146, 147, 148, 149, 150, 152, 153, 154, 155, 156, 158, 159, 160, 161, 162, 163, 164, 165] 2) = some kf11 := by kernel_rfl
noncomputable def kf22 : KFn := { params := [w0], res := [(.s r2), (.s r3)], body :=
 (.seq
 (.reg [.p (o1 mvG (ctK .snil)) w2, .p (o1 mvG (ctK (.int .i64 (Int.ofNat 0)))) w3])
 (.seq
 (.seq
 (.reg [.p (o1 lenSG r0) pushW, .p (o2 (binG (cmpB .gtr gtI)) l0 (ctK (.int .i64 (Int.ofNat 1500)))) w11])
 (.cond r11
 (.seq
 (.reg [.p (o1 mvG (ctK .snil)) w2, .p (o1 mvG (ctK (.int .i64 (Int.ofNat 4)))) w3])
 .ret)
 .skip))
 (.seq
 (.reg [.p (o1 mvG (ctK .snil)) w4])
 (.seq
 (.reg [.p (o1 mvG (ctK (.int .i64 (Int.ofNat 0)))) w5])
 (.seq
 (.block 0
 (.loop
 (.seq
 (.seq
 (.reg [.p (o1 lenSG r0) pushW, .p (o2 (binG (cmpB .lss ltI)) r5 l0) w15])
 (.cond r15
 .skip
 (.exit 0)))
 (.block 1
 (.seq
 (.seq
 (.reg [.p (o2 idxG r0 r5) pushW, .p (callO 44 [l0]) w19])
 (.cond r19
 (.seq
 (.reg [.p (o1 mvG r5) pushW, .p (o2 (binG addB) l0 (ctK (.int .i64 (Int.ofNat 1)))) pushW, .p (o1 mvG l0) w5])
 (.exit 1))
 .skip))
 (.seq
 (.reg [.p (callO 45 [r0, r5]) pushW, .p (o1 (extG 0) l0) pushW, .p (o1 (extG 1) l1) pushW, .p (o1 (extG 2) l2) pushW, .p (allocO [(.int .i64 (Int.ofNat 0)), (.str 0 0), (.int .i64 (Int.ofNat 0)), (.int .i64 (Int.ofNat 0))]) w6, .p (o2 (storeG 4) r6 l2) noW, .p (o1 mvG l1) w7, .p (o1 mvG l0) w8])
 (.seq
 (.seq
 (.reg [.p (o2 (eqG eqIV true) r8 (ctK (.int .i64 (Int.ofNat 0)))) w30])
 (.cond r30
 (.seq
 (.reg [.p (o1 mvG (ctK .snil)) w2, .p (o1 mvG r8) w3])
 .ret)
 .skip))
 (.seq
 (.reg [.p (o1 mvG r4) pushW, .p (o1 (loadnG 4) r6) pushW, .p (bslO 4 1 [(.int .i64 (Int.ofNat 0)), (.str 0 0), (.int .i64 (Int.ofNat 0)), (.int .i64 (Int.ofNat 0))] [(0, 4, l0)]) pushW, .p (o2 (appG 4) l2 l0) pushW, .p (o1 mvG l0) w4])
 (.reg [.p (o1 mvG r7) w5])))))))))
 (.seq
 (.seq
 (.reg [.p (o1 lenLG r4) pushW, .p (o2 (binG (cmpB .gtr gtI)) l0 (ctK (.int .i64 (Int.ofNat 400)))) w39])
 (.cond r39
 (.seq
 (.reg [.p (o1 mvG (ctK .snil)) w2, .p (o1 mvG (ctK (.int .i64 (Int.ofNat 3)))) w3])
 .ret)
 .skip))
 (.seq
 (.reg [.p (o1 mvG r4) w2, .p (o1 mvG (ctK (.int .i64 (Int.ofNat 0)))) w3])
 .ret))))))) }
theorem kf22_ok : (compFn Tryz.prog Tryz.f22 [[0], [4], [0, 4, 5], [0, 4, 5], [0, 4, 5], [0, 4, 6, 7], [4]]).bind (toKFn [9, 10, 12, 13, 14, 16, 17, 18, 20, 21, 22, 23, 24, 25, 26, 27, 28, 29, 31, 32, 33, 34, 35, 36, 37, 38, 40] 1) = some kf22 := by kernel_rfl
noncomputable def kf44 : KFn := { params := [w0], res := [(.s r2)], body :=
 (.seq
 (.reg [.p (o1 mvG (ctK (.bool false))) w2])
 (.seq
 (.reg [.p (o2 (eqG eqIV false) r0 (ctK (.int .u8 (Int.ofNat 32)))) pushW, .g l0 false false none (o1 mvG r0) pushW, .g l1 false false none (o2 (eqG eqIV false) l0 (ctK (.int .u8 (Int.ofNat 9)))) pushW, .p (o3 pickG l2 (ctK (.bool true)) l0) pushW, .g l0 false false none (o1 mvG r0) pushW, .g l1 false false none (o2 (eqG eqIV false) l0 (ctK (.int .u8 (Int.ofNat 10)))) pushW, .p (o3 pickG l2 (ctK (.bool true)) l0) pushW, .g l0 false false none (o1 mvG r0) pushW, .g l1 false false none (o2 (eqG eqIV false) l0 (ctK (.int .u8 (Int.ofNat 13)))) pushW, .p (o3 pickG l2 (ctK (.bool true)) l0) pushW, .p (o1 mvG l0) w2])
 .ret)) }
theorem kf44_ok : (compFn Tryz.prog Tryz.f44 []).bind (toKFn [3, 4, 5, 6, 7, 8, 9, 10, 11, 12, 13, 14, 15, 16] 1) = some kf44 := by kernel_rfl
noncomputable def kf45 : KFn := { params := [w0, w1], res := [(.cn r4 4), (.s r5), (.s r6)], body :=
 (.seq
 (.reg [.p (allocO [(.int .i64 (Int.ofNat 0)), (.str 0 0), (.int .i64 (Int.ofNat 0)), (.int .i64 (Int.ofNat 0))]) w4, .p (o1 mvG (ctK (.int .i64 (Int.ofNat 0)))) w5, .p (o1 mvG (ctK (.int .i64 (Int.ofNat 0)))) w6])
 (.seq
 (.reg [.p (o1 mvG r1) w7])
 (.seq
 (.block 0
 (.seq
 (.reg [.p (o2 idxG r0 r1) pushW, .p (callO 70 [l0]) pushW, .p (o1 mvG l0) w15])
 (.cond r15
 (.seq
 (.block 1
 (.loop
 (.seq
 (.seq
 (.reg [.p (o1 lenSG r0) pushW, .p (o2 (binG (cmpB .lss ltI)) r7 l0) pushW, .g l0 true false none (o1 mvG r0) pushW, .g l1 true false none (o1 mvG r7) pushW, .g l2 true false none (o2 idxG l1 l0) pushW, .g l3 true false none (callO 70 [l0]) pushW, .g l4 true false none (o1 mvG l0) pushW, .g l0 false false none (o1 mvG r0) pushW, .g l1 false false none (o1 mvG r7) pushW, .g l2 false false none (o2 idxG l1 l0) pushW, .g l3 false false none (callO 71 [l0]) pushW, .g l9 true false none (o3 pickG l4 (ctK (.bool true)) l0) pushW, .p (o3 pickG l10 l0 (ctK (.bool false))) w35])
 (.cond r35
 .skip
 (.exit 1)))
 (.block 2
 (.reg [.p (o1 mvG r7) pushW, .p (o2 (binG addB) l0 (ctK (.int .i64 (Int.ofNat 1)))) pushW, .p (o1 mvG l0) w7])))))
 (.seq
 (.seq
 (.reg [.p (o2 (binG subB) r7 r1) pushW, .p (o2 (binG (cmpB .gtr gtI)) l0 (ctK (.int .i64 (Int.ofNat 16)))) w41])
 (.cond r41
 (.seq
 (.reg [.p (buildO [(.int .i64 (Int.ofNat 0)), (.str 0 0), (.int .i64 (Int.ofNat 0)), (.int .i64 (Int.ofNat 0))] []) pushW, .p (o2 (storeG 4) r4 l0) noW, .p (o1 mvG (ctK (.int .i64 (Int.ofNat 0)))) w5, .p (o1 mvG (ctK (.int .i64 (Int.ofNat 4)))) w6])
 .ret)
 .skip))
 (.seq
 (.reg [.p (cutSO r0 (some r1) (some r7)) pushW, .p (buildO [(.int .i64 (Int.ofNat 0)), (.str 0 0), (.int .i64 (Int.ofNat 0)), (.int .i64 (Int.ofNat 0))] [(0, 1, (ctK (.int .i64 (Int.ofNat 1)))), (1, 1, l0), (3, 1, r1)]) pushW, .p (o2 (storeG 4) r4 l0) noW, .p (o1 mvG r7) w5, .p (o1 mvG (ctK (.int .i64 (Int.ofNat 0)))) w6])
 .ret)))
 (.seq
 (.reg [.p (o2 idxG r0 r1) pushW, .p (callO 71 [l0]) pushW, .g l0 false false none (o1 mvG r0) pushW, .g l1 false false none (o1 mvG r1) pushW, .g l2 false false none (o2 idxG l1 l0) pushW, .g l3 false false none (o2 (eqG eqIV false) l0 (ctK (.int .u8 (Int.ofNat 45)))) pushW, .g l4 false false none (o1 mvG l0) pushW, .g l0 true false none (o1 mvG r1) pushW, .g l1 true false none (o2 (binG addB) l0 (ctK (.int .i64 (Int.ofNat 1)))) pushW, .g l2 true false none (o1 mvG r0) pushW, .g l3 true false none (o1 lenSG l0) pushW, .g l4 true false none (o2 (binG (cmpB .lss ltI)) l2 l0) pushW, .g l10 false false none (o3 pickG l5 l0 (ctK (.bool false))) pushW, .g l11 false false none (o1 mvG l0) pushW, .g l0 true false none (o1 mvG r0) pushW, .g l1 true false none (o1 mvG r1) pushW, .g l2 true false none (o2 (binG addB) l0 (ctK (.int .i64 (Int.ofNat 1)))) pushW, .g l3 true false none (o2 idxG l2 l0) pushW, .g l4 true false none (callO 71 [l0]) pushW, .g l17 false false none (o3 pickG l5 l0 (ctK (.bool false))) pushW, .p (o3 pickG l18 (ctK (.bool true)) l0) pushW, .p (o1 mvG l0) w50])
 (.cond r50
 (.seq
 (.reg [.p (o1 mvG r7) pushW, .p (o2 (binG addB) l0 (ctK (.int .i64 (Int.ofNat 1)))) pushW, .p (o1 mvG l0) w7])
 (.seq
 (.block 3
 (.loop
 (.seq
 (.seq
 (.reg [.p (o1 lenSG r0) pushW, .p (o2 (binG (cmpB .lss ltI)) r7 l0) pushW, .g l0 true false none (o1 mvG r0) pushW, .g l1 true false none (o1 mvG r7) pushW, .g l2 true false none (o2 idxG l1 l0) pushW, .g l3 true false none (callO 71 [l0]) pushW, .p (o3 pickG l4 l0 (ctK (.bool false))) w86])
 (.cond r86
 .skip
 (.exit 3)))
 (.block 4
 (.reg [.p (o1 mvG r7) pushW, .p (o2 (binG addB) l0 (ctK (.int .i64 (Int.ofNat 1)))) pushW, .p (o1 mvG l0) w7])))))
 (.seq
 (.reg [.p (cutSO r0 (some r1) (some r7)) pushW, .p (callO 72 [l0]) pushW, .p (o1 (extG 0) l0) pushW, .p (o1 (extG 1) l1) pushW, .p (o1 mvG l1) w8, .p (o1 mvG l0) w9])
 (.seq
 (.reg [.p (buildO [(.int .i64 (Int.ofNat 0)), (.str 0 0), (.int .i64 (Int.ofNat 0)), (.int .i64 (Int.ofNat 0))] [(0, 1, (ctK (.int .i64 (Int.ofNat 3)))), (2, 1, r8), (3, 1, r1)]) pushW, .p (o2 (storeG 4) r4 l0) noW, .p (o1 mvG r7) w5, .p (o1 mvG r9) w6])
 .ret))))
 (.seq
 (.reg [.p (o2 idxG r0 r1) pushW, .p (o2 (eqG eqIV false) l0 (ctK (.int .u8 (Int.ofNat 34)))) pushW, .p (o1 mvG l0) w102])
 (.cond r102
 (.seq
 (.reg [.p (callO 73 [r0, r1]) pushW, .p (o1 (extG 0) l0) pushW, .p (o1 (extG 1) l1) pushW, .p (o1 mvG l1) w10, .p (o1 mvG l0) w11])
 (.seq
 (.seq
 (.reg [.p (o2 (binG (cmpB .lss ltI)) r11 (ctK (.int .i64 (Int.ofNat 0)))) w114])
 (.cond r114
 (.seq
 (.reg [.p (buildO [(.int .i64 (Int.ofNat 0)), (.str 0 0), (.int .i64 (Int.ofNat 0)), (.int .i64 (Int.ofNat 0))] []) pushW, .p (o2 (storeG 4) r4 l0) noW, .p (o1 mvG (ctK (.int .i64 (Int.ofNat 0)))) w5, .p (o1 mvG (ctK (.int .i64 (Int.ofNat 11)))) w6])
 .ret)
 .skip))
 (.seq
 (.seq
 (.reg [.p (o1 lenSG r10) pushW, .p (o2 (binG (cmpB .gtr gtI)) l0 (ctK (.int .i64 (Int.ofNat 200)))) w118])
 (.cond r118
 (.seq
 (.reg [.p (buildO [(.int .i64 (Int.ofNat 0)), (.str 0 0), (.int .i64 (Int.ofNat 0)), (.int .i64 (Int.ofNat 0))] []) pushW, .p (o2 (storeG 4) r4 l0) noW, .p (o1 mvG (ctK (.int .i64 (Int.ofNat 0)))) w5, .p (o1 mvG (ctK (.int .i64 (Int.ofNat 4)))) w6])
 .ret)
 .skip))
 (.seq
 (.reg [.p (buildO [(.int .i64 (Int.ofNat 0)), (.str 0 0), (.int .i64 (Int.ofNat 0)), (.int .i64 (Int.ofNat 0))] [(0, 1, (ctK (.int .i64 (Int.ofNat 2)))), (1, 1, r10), (3, 1, r1)]) pushW, .p (o2 (storeG 4) r4 l0) noW, .p (o1 mvG r11) w5, .p (o1 mvG (ctK (.int .i64 (Int.ofNat 0)))) w6])
 .ret))))
 .skip)))))))
 (.seq
 (.seq
 (.reg [.p (o2 (binG addB) r1 (ctK (.int .i64 (Int.ofNat 2)))) pushW, .p (o1 lenSG r0) pushW, .p (o2 (binG (cmpB .leq leI)) l1 l0) pushW, .g l0 true false none (o1 mvG r0) pushW, .g l1 true false none (o1 mvG r1) pushW, .g l2 true false none (o1 mvG r1) pushW, .g l3 true false none (o2 (binG addB) l0 (ctK (.int .i64 (Int.ofNat 2)))) pushW, .g l4 true false none (cutSO l3 (some l2) (some l0)) pushW, .g l5 true false none (o2 (eqG eqSV false) l0 (ctK (.str 2 15917))) pushW, .g l6 true false none (o1 mvG l0) pushW, .g l0 false false none (o1 mvG r0) pushW, .g l1 false false none (o1 mvG r1) pushW, .g l2 false false none (o1 mvG r1) pushW, .g l3 false false none (o2 (binG addB) l0 (ctK (.int .i64 (Int.ofNat 2)))) pushW, .g l4 false false none (cutSO l3 (some l2) (some l0)) pushW, .g l5 false false none (o2 (eqG eqSV false) l0 (ctK (.str 2 15674))) pushW, .g l13 true false none (o3 pickG l6 (ctK (.bool true)) l0) pushW, .p (o3 pickG l14 l0 (ctK (.bool false))) w144])
 (.cond r144
 (.seq
 (.reg [.p (o2 (binG addB) r1 (ctK (.int .i64 (Int.ofNat 2)))) pushW, .p (cutSO r0 (some r1) (some l0)) pushW, .p (buildO [(.int .i64 (Int.ofNat 0)), (.str 0 0), (.int .i64 (Int.ofNat 0)), (.int .i64 (Int.ofNat 0))] [(0, 1, (ctK (.int .i64 (Int.ofNat 4)))), (1, 1, l0), (3, 1, r1)]) pushW, .p (o2 (binG addB) r1 (ctK (.int .i64 (Int.ofNat 2)))) pushW, .p (o2 (storeG 4) r4 l1) noW, .p (o1 mvG l0) w5, .p (o1 mvG (ctK (.int .i64 (Int.ofNat 0)))) w6])
 .ret)
 .skip))
 (.seq
 (.reg [.p (o1 mvG (ctK (.str 13 4693490251599039476243155942779))) w12])
 (.seq
 (.seq
 (.reg [.p (o1 mvG (ctK (.int .i64 (Int.ofNat 0)))) w13])
 (.block 5
 (.loop
 (.seq
 (.seq
 (.reg [.p (o1 lenSG r12) pushW, .p (o2 (binG (cmpB .lss ltI)) r13 l0) w157])
 (.cond r157
 .skip
 (.exit 5)))
 (.seq
 (.block 6
 (.seq
 (.drw [.p (o2 idxG r12 r13) pushW, .p (o2 idxG r0 r1) pushW, .p (o2 (eqG eqIV false) l1 l0) w166] [])
 (.cond r166
 (.seq
 (.reg [.p (o2 (binG addB) r1 (ctK (.int .i64 (Int.ofNat 1)))) pushW, .p (cutSO r0 (some r1) (some l0)) pushW, .p (buildO [(.int .i64 (Int.ofNat 0)), (.str 0 0), (.int .i64 (Int.ofNat 0)), (.int .i64 (Int.ofNat 0))] [(0, 1, (ctK (.int .i64 (Int.ofNat 4)))), (1, 1, l0), (3, 1, r1)]) pushW, .p (o2 (binG addB) r1 (ctK (.int .i64 (Int.ofNat 1)))) pushW, .p (o2 (storeG 4) r4 l1) noW, .p (o1 mvG l0) w5, .p (o1 mvG (ctK (.int .i64 (Int.ofNat 0)))) w6])
 .ret)
 .skip)))
 (.reg [.p (o1 mvG r13) pushW, .p (o2 (binG addB) l0 (ctK (.int .i64 (Int.ofNat 1)))) pushW, .p (o1 mvG l0) w13]))))))
 (.seq
 (.reg [.p (buildO [(.int .i64 (Int.ofNat 0)), (.str 0 0), (.int .i64 (Int.ofNat 0)), (.int .i64 (Int.ofNat 0))] []) pushW, .p (o2 (storeG 4) r4 l0) noW, .p (o1 mvG (ctK (.int .i64 (Int.ofNat 0)))) w5, .p (o1 mvG (ctK (.int .i64 (Int.ofNat 11)))) w6])
 .ret))))))) }
theorem kf45_ok : (compFn Tryz.prog Tryz.f45 [[0, 1, 4], [0, 1, 4, 7], [0, 1, 4, 7], [0, 1, 4, 7], [0, 1, 4, 7], [0, 1, 4, 7], [0, 1, 4, 7], [0, 1, 4, 7], [1, 4, 10, 11], [1, 4, 10, 11], [0, 1, 4], [4], [0, 1, 4, 12, 13], [0, 1, 4, 12, 13], [0, 1, 4, 12, 13]]).bind (toKFn [14, 16, 17, 18, 19, 20, 21, 22, 23, 24, 25, 26, 27, 28, 29, 30, 31, 32, 33, 34, 36, 37, 38, 39, 40, 42, 43, 44, 45, 46, 47, 48, 49, 51, 52, 53, 54, 55, 56, 57, 58, 59, 60, 61, 62, 63, 64, 65, 66, 67, 68, 69, 70, 71, 72, 73, 74, 75, 76, 77, 78, 79, 80, 81, 82, 83, 84, 85, 87, 88, 89, 90, 91, 92, 93, 94, 95, 96, 97, 98, 99, 100, 101, 103, 104, 105, 106, 107, 108, 109, 110, 111, 112, 113, 115, 116, 117, 119, 120, 121, 122, 123, 124, 125, 126, 127, 128, 129, 130, 131, 132, 133, 134, 135, 136, 137, 138, 139, 140, 141, 142, 143, 145, 146, 147, 148, 149, 150, 151, 152, 153, 154, 155, 156, 158, 159, 160, 161, 162, 163, 164, 165, 167, 168, 169, 170, 171, 172, 173, 174, 175, 176] 2) = some kf45 := by kernel_rfl
noncomputable def kf70 : KFn := { params := [w0], res := [(.s r2)], body :=
 (.seq
 (.reg [.p (o1 mvG (ctK (.bool false))) w2])
 (.seq
 (.reg [.p (o2 (binG (cmpB .geq geI)) r0 (ctK (.int .u8 (Int.ofNat 97)))) pushW, .g l0 true false none (o1 mvG r0) pushW, .g l1 true false none (o2 (binG (cmpB .leq leI)) l0 (ctK (.int .u8 (Int.ofNat 122)))) pushW, .p (o3 pickG l2 l0 (ctK (.bool false))) pushW, .g l0 false false none (o1 mvG r0) pushW, .g l1 false false none (o2 (binG (cmpB .geq geI)) l0 (ctK (.int .u8 (Int.ofNat 65)))) pushW, .g l2 false false none (o1 mvG l0) pushW, .g l0 true false none (o1 mvG r0) pushW, .g l1 true false none (o2 (binG (cmpB .leq leI)) l0 (ctK (.int .u8 (Int.ofNat 90)))) pushW, .g l5 false false none (o3 pickG l2 l0 (ctK (.bool false))) pushW, .p (o3 pickG l6 (ctK (.bool true)) l0) pushW, .g l0 false false none (o1 mvG r0) pushW, .g l1 false false none (o2 (eqG eqIV false) l0 (ctK (.int .u8 (Int.ofNat 95)))) pushW, .p (o3 pickG l2 (ctK (.bool true)) l0) pushW, .p (o1 mvG l0) w2])
 .ret)) }
theorem kf70_ok : (compFn Tryz.prog Tryz.f70 []).bind (toKFn [3, 4, 5, 6, 7, 8, 9, 10, 11, 12, 13, 14, 15, 16, 17, 18, 19, 20] 1) = some kf70 := by kernel_rfl
noncomputable def kf71 : KFn := { params := [w0], res := [(.s r2)], body :=
 (.seq
 (.reg [.p (o1 mvG (ctK (.bool false))) w2])
 (.seq
 (.reg [.p (o2 (binG (cmpB .geq geI)) r0 (ctK (.int .u8 (Int.ofNat 48)))) pushW, .g l0 true false none (o1 mvG r0) pushW, .g l1 true false none (o2 (binG (cmpB .leq leI)) l0 (ctK (.int .u8 (Int.ofNat 57)))) pushW, .p (o3 pickG l2 l0 (ctK (.bool false))) pushW, .p (o1 mvG l0) w2])
 .ret)) }
theorem kf71_ok : (compFn Tryz.prog Tryz.f71 []).bind (toKFn [3, 4, 5, 6, 7, 8] 1) = some kf71 := by kernel_rfl
noncomputable def kf72 : KFn := { params := [w0], res := [(.s r2), (.s r3)], body :=
 (.seq
 (.reg [.p (o1 mvG (ctK (.int .i64 (Int.ofNat 0)))) w2, .p (o1 mvG (ctK (.int .i64 (Int.ofNat 0)))) w3])
 (.seq
 (.reg [.p (o1 mvG r0) w4])
 (.seq
 (.seq
 (.reg [.p (o2 idxG r0 (ctK (.int .i64 (Int.ofNat 0)))) pushW, .p (o2 (eqG eqIV false) l0 (ctK (.int .u8 (Int.ofNat 45)))) w10])
 (.cond r10
 (.reg [.p (cutSO r0 (some (ctK (.int .i64 (Int.ofNat 1)))) none) pushW, .p (o1 mvG l0) w4])
 .skip))
 (.seq
 (.seq
 (.reg [.p (o1 lenSG r4) pushW, .p (o2 (binG (cmpB .gtr gtI)) l0 (ctK (.int .i64 (Int.ofNat 19)))) w15])
 (.cond r15
 (.seq
 (.reg [.p (o1 mvG (ctK (.int .i64 (Int.ofNat 0)))) w2, .p (o1 mvG (ctK (.int .i64 (Int.ofNat 4)))) w3])
 .ret)
 .skip))
 (.seq
 (.reg [.p (o1 mvG (ctK (.int .u64 (Int.ofNat 0)))) w5])
 (.seq
 (.seq
 (.reg [.p (o1 mvG (ctK (.int .i64 (Int.ofNat 0)))) w6])
 (.block 0
 (.loop
 (.seq
 (.seq
 (.reg [.p (o1 lenSG r4) pushW, .p (o2 (binG (cmpB .lss ltI)) r6 l0) w19])
 (.cond r19
 .skip
 (.exit 0)))
 (.seq
 (.block 1
 (.reg [.p (o1 mvG r5) pushW, .p (o2 (binG (slowBin .mul)) l0 (ctK (.int .u64 (Int.ofNat 10)))) pushW, .p (o2 idxG r4 r6) pushW, .p (o2 (binG subB) l0 (ctK (.int .u8 (Int.ofNat 48)))) pushW, .p (o1 (tointG .u64) l0) pushW, .p (o2 (binG addB) l3 l0) pushW, .p (o1 mvG l0) w5]))
 (.reg [.p (o1 mvG r6) pushW, .p (o2 (binG addB) l0 (ctK (.int .i64 (Int.ofNat 1)))) pushW, .p (o1 mvG l0) w6]))))))
 (.seq
 (.seq
 (.reg [.p (o2 idxG r0 (ctK (.int .i64 (Int.ofNat 0)))) pushW, .p (o2 (eqG eqIV false) l0 (ctK (.int .u8 (Int.ofNat 45)))) w32])
 (.cond r32
 (.seq
 (.seq
 (.reg [.p (o2 (binG (cmpB .gtr gtI)) r5 (ctK (.int .u64 (Int.ofNat 9223372036854775808)))) w34])
 (.cond r34
 (.seq
 (.reg [.p (o1 mvG (ctK (.int .i64 (Int.ofNat 0)))) w2, .p (o1 mvG (ctK (.int .i64 (Int.ofNat 11)))) w3])
 .ret)
 .skip))
 (.seq
 (.reg [.p (o1 negG r5) pushW, .p (o1 (tointG .i64) l0) pushW, .p (o1 mvG l0) w2, .p (o1 mvG (ctK (.int .i64 (Int.ofNat 0)))) w3])
 .ret))
 .skip))
 (.seq
 (.seq
 (.reg [.p (o2 (binG (cmpB .gtr gtI)) r5 (ctK (.int .u64 (Int.ofNat 9223372036854775807)))) w39])
 (.cond r39
 (.seq
 (.reg [.p (o1 mvG (ctK (.int .i64 (Int.ofNat 0)))) w2, .p (o1 mvG (ctK (.int .i64 (Int.ofNat 11)))) w3])
 .ret)
 .skip))
 (.seq
 (.reg [.p (o1 (tointG .i64) r5) pushW, .p (o1 mvG l0) w2, .p (o1 mvG (ctK (.int .i64 (Int.ofNat 0)))) w3])
 .ret))))))))) }
theorem kf72_ok : (compFn Tryz.prog Tryz.f72 [[0, 4], [0, 4], [0, 5], [0, 4, 5, 6], [0, 4, 5, 6], [0, 4, 5, 6], [5], [5], [5]]).bind (toKFn [7, 8, 9, 11, 12, 13, 14, 16, 17, 18, 20, 21, 22, 23, 24, 25, 26, 27, 28, 29, 30, 31, 33, 35, 36, 37, 38, 40, 41] 1) = some kf72 := by kernel_rfl
noncomputable def kf73 : KFn := { params := [w0, w1], res := [(.s r4), (.s r5)], body :=
 (.seq
 (.reg [.p (o1 mvG (ctK (.str 0 0))) w4, .p (o1 mvG (ctK (.int .i64 (Int.ofNat 0)))) w5])
 (.seq
 (.reg [.p (o1 mvG (ctK (.str 0 0))) w6])
 (.seq
 (.reg [.p (o1 mvG r1) pushW, .p (o2 (binG addB) l0 (ctK (.int .i64 (Int.ofNat 1)))) pushW, .p (o1 mvG l0) w1])
 (.seq
 (.block 0
 (.loop
 (.seq
 (.seq
 (.reg [.p (o1 lenSG r0) pushW, .p (o2 (binG (cmpB .lss ltI)) r1 l0) w13])
 (.cond r13
 .skip
 (.exit 0)))
 (.block 1
 (.seq
 (.reg [.p (o2 idxG r0 r1) pushW, .p (o1 mvG l0) w7])
 (.seq
 (.block 2
 (.seq
 (.reg [.p (o2 (eqG eqIV false) r7 (ctK (.int .u8 (Int.ofNat 34)))) pushW, .p (o1 mvG l0) w17])
 (.cond r17
 (.seq
 (.reg [.p (o2 (binG addB) r1 (ctK (.int .i64 (Int.ofNat 1)))) pushW, .p (o1 mvG r6) w4, .p (o1 mvG l0) w5])
 .ret)
 (.seq
 (.reg [.p (o2 (binG (cmpB .lss ltI)) r7 (ctK (.int .u8 (Int.ofNat 32)))) pushW, .p (o1 mvG l0) w23])
 (.cond r23
 (.seq
 (.reg [.p (o1 mvG (ctK (.str 0 0))) w4, .p (o1 mvG (ctK (.int .i64 (Int.negSucc 0)))) w5])
 .ret)
 (.seq
 (.reg [.p (o2 (eqG eqIV true) r7 (ctK (.int .u8 (Int.ofNat 92)))) pushW, .p (o1 mvG l0) w26])
 (.cond r26
 (.seq
 (.reg [.p (o1 mvG r6) pushW, .p (o2 (binG addB) r1 (ctK (.int .i64 (Int.ofNat 1)))) pushW, .p (cutSO r0 (some r1) (some l0)) pushW, .p (o2 (binG addB) l2 l0) pushW, .p (o1 mvG l0) w6])
 (.seq
 (.reg [.p (o1 mvG r1) pushW, .p (o2 (binG addB) l0 (ctK (.int .i64 (Int.ofNat 1)))) pushW, .p (o1 mvG l0) w1])
 (.exit 1)))
 .skip)))))))
 (.seq
 (.seq
 (.reg [.p (o2 (binG addB) r1 (ctK (.int .i64 (Int.ofNat 1)))) pushW, .p (o1 lenSG r0) pushW, .p (o2 (binG (cmpB .geq geI)) l1 l0) w42])
 (.cond r42
 (.seq
 (.reg [.p (o1 mvG (ctK (.str 0 0))) w4, .p (o1 mvG (ctK (.int .i64 (Int.negSucc 0)))) w5])
 .ret)
 .skip))
 (.seq
 (.seq
 (.reg [.p (o2 (binG addB) r1 (ctK (.int .i64 (Int.ofNat 1)))) pushW, .p (o2 idxG r0 l0) w46])
 (.block 3
 (.seq
 (.seq
 (.reg [.p (o2 (eqG eqIV false) r46 (ctK (.int .u8 (Int.ofNat 92)))) pushW, .p (o1 mvG l0) w47])
 (.cond r47
 .skip
 (.reg [.p (o2 (eqG eqIV false) r46 (ctK (.int .u8 (Int.ofNat 34)))) pushW, .p (o1 mvG l0) w47])))
 (.cond r47
 (.reg [.p (o1 mvG r6) pushW, .p (o2 (binG addB) r1 (ctK (.int .i64 (Int.ofNat 1)))) pushW, .p (o2 (binG addB) r1 (ctK (.int .i64 (Int.ofNat 2)))) pushW, .p (cutSO r0 (some l1) (some l0)) pushW, .p (o2 (binG addB) l3 l0) pushW, .p (o1 mvG l0) w6])
 (.seq
 (.reg [.p (o2 (eqG eqIV false) r46 (ctK (.int .u8 (Int.ofNat 110)))) pushW, .p (o1 mvG l0) w58])
 (.cond r58
 (.reg [.p (o1 mvG r6) pushW, .p (o2 (binG addB) l0 (ctK (.str 1 10))) pushW, .p (o1 mvG l0) w6])
 (.seq
 (.reg [.p (o2 (eqG eqIV false) r46 (ctK (.int .u8 (Int.ofNat 116)))) pushW, .p (o1 mvG l0) w62])
 (.cond r62
 (.reg [.p (o1 mvG r6) pushW, .p (o2 (binG addB) l0 (ctK (.str 1 9))) pushW, .p (o1 mvG l0) w6])
 (.seq
 (.reg [.p (o1 mvG (ctK (.str 0 0))) w4, .p (o1 mvG (ctK (.int .i64 (Int.negSucc 0)))) w5])
 .ret)))))))))
 (.reg [.p (o1 mvG r1) pushW, .p (o2 (binG addB) l0 (ctK (.int .i64 (Int.ofNat 2)))) pushW, .p (o1 mvG l0) w1])))))))))
 (.seq
 (.reg [.p (o1 mvG (ctK (.str 0 0))) w4, .p (o1 mvG (ctK (.int .i64 (Int.negSucc 0)))) w5])
 .ret))))) }
theorem kf73_ok : (compFn Tryz.prog Tryz.f73 [[], [0, 1, 6], [0, 1, 6], [0, 1, 6], [0, 1, 6], [0, 1, 6], [0, 1, 6, 46, 47]]).bind (toKFn [8, 9, 10, 11, 12, 14, 15, 16, 18, 19, 20, 21, 22, 24, 25, 27, 28, 29, 30, 31, 32, 33, 34, 35, 36, 37, 38, 39, 40, 41, 43, 44, 45, 48, 49, 50, 51, 52, 53, 54, 55, 56, 57, 59, 60, 61, 63, 64, 65, 66, 67] 2) = some kf73 := by kernel_rfl
noncomputable def kf23 : KFn := { params := [w0, w1], res := [(.s r4)], body :=
 (.seq
 (.reg [.p (o1 mvG (ctK (.bool false))) w4])
 (.seq
 (.drw [.p (o1 nilckG r0) pushW, .p (o1 (faddrG 2) l0) pushW, .p (o1 load1G l0) pushW, .p (o2 (eqG eqIV false) l0 (ctK (.int .i64 (Int.ofNat 0)))) pushW, .g l0 true false none (o1 mvG r0) pushW, .g l1 true false none (o1 nilckG l0) pushW, .g l2 true false none (o1 (faddrG 1) l0) pushW, .g l3 true false none (o1 load1G l0) pushW, .g l4 true false none (o1 mvG r0) pushW, .g l5 true false none (o1 nilckG l0) pushW, .g l6 true false none (o1 (faddrG 0) l0) pushW, .g l7 true false none (o1 load1G l0) pushW, .g l8 true false none (o1 lenLG l0) pushW, .g l9 true false none (o2 (binG (cmpB .lss ltI)) l5 l0) pushW, .p (o3 pickG l10 l0 (ctK (.bool false))) pushW, .g l0 true false none (o1 mvG r0) pushW, .g l1 true false none (o1 nilckG l0) pushW, .g l2 true false none (o1 (faddrG 0) l0) pushW, .g l3 true false none (o1 load1G l0) pushW, .g l4 true false none (o1 mvG r0) pushW, .g l5 true false none (o1 nilckG l0) pushW, .g l6 true false none (o1 (faddrG 1) l0) pushW, .g l7 true false none (o1 load1G l0) pushW, .g l8 true false none (o2 (iaddrG 4) l4 l0) pushW, .g l9 true false none (o1 (faddrG 0) l0) pushW, .g l10 true false none (o1 load1G l0) pushW, .g l11 true false none (o1 mvG r1) pushW, .g l12 true false none (o2 (eqG eqIV false) l1 l0) pushW, .p (o3 pickG l13 l0 (ctK (.bool false))) pushW, .p (o1 mvG l0) w4] [])
 .ret)) }
theorem kf23_ok : (compFn Tryz.prog Tryz.f23 []).bind (toKFn [5, 6, 7, 8, 9, 10, 11, 12, 13, 14, 15, 16, 17, 18, 19, 20, 21, 22, 23, 24, 25, 26, 27, 28, 29, 30, 31, 32, 33, 34, 35, 36] 2) = some kf23 := by kernel_rfl
noncomputable def kf24 : KFn := { params := [w0], res := [(.s r2)], body :=
 (.seq
 (.reg [.p (o1 mvG (ctK (.bool false))) w2])
 (.seq
 (.seq
 (.reg [.p (o1 mvG r0) w3])
 (.block 0
 (.seq
 (.seq
 (.reg [.p (o2 (eqG eqSV false) r3 (ctK (.str 2 26217))) pushW, .p (o1 mvG l0) w4])
 (.cond r4
 .skip
 (.seq
 (.reg [.p (o2 (eqG eqSV false) r3 (ctK (.str 4 1752459639))) pushW, .p (o1 mvG l0) w4])
 (.cond r4
 .skip
 (.seq
 (.reg [.p (o2 (eqG eqSV false) r3 (ctK (.str 5 435526984050))) pushW, .p (o1 mvG l0) w4])
 (.cond r4
 .skip
 (.seq
 (.reg [.p (o2 (eqG eqSV false) r3 (ctK (.str 5 448345170285))) pushW, .p (o1 mvG l0) w4])
 (.cond r4
 .skip
 (.seq
 (.reg [.p (o2 (eqG eqSV false) r3 (ctK (.str 4 1702063205))) pushW, .p (o1 mvG l0) w4])
 (.cond r4
 .skip
 (.seq
 (.reg [.p (o2 (eqG eqSV false) r3 (ctK (.str 3 6581861))) pushW, .p (o1 mvG l0) w4])
 (.cond r4
 .skip
 (.seq
 (.reg [.p (o2 (eqG eqSV false) r3 (ctK (.str 4 1702060387))) pushW, .p (o1 mvG l0) w4])
 (.cond r4
 .skip
 (.seq
 (.reg [.p (o2 (eqG eqSV false) r3 (ctK (.str 8 7310575213499737460))) pushW, .p (o1 mvG l0) w4])
 (.cond r4
 .skip
 (.seq
 (.reg [.p (o2 (eqG eqSV false) r3 (ctK (.str 6 111524889126244))) pushW, .p (o1 mvG l0) w4])
 (.cond r4
 .skip
 (.seq
 (.reg [.p (o2 (eqG eqSV false) r3 (ctK (.str 4 1702195828))) pushW, .p (o1 mvG l0) w4])
 (.cond r4
 .skip
 (.reg [.p (o2 (eqG eqSV false) r3 (ctK (.str 5 435728179558))) pushW, .p (o1 mvG l0) w4])))))))))))))))))))))
 (.cond r4
 (.seq
 (.reg [.p (o1 mvG (ctK (.bool true))) w2])
 .ret)
 .skip))))
 (.seq
 (.reg [.p (o1 mvG (ctK (.bool false))) w2])
 .ret))) }
theorem kf24_ok : (compFn Tryz.prog Tryz.f24 [[], [4]]).bind (toKFn [5, 6, 7, 8, 9, 10, 11, 12, 13, 14, 15] 1) = some kf24 := by kernel_rfl
noncomputable def kf25 : KFn := { params := [w0], res := [(.s r2)], body :=
 (.seq
 (.reg [.p (o1 mvG (ctK (.int .i64 (Int.ofNat 0)))) w2])
 (.seq
 (.seq
 (.reg [.p (o1 mvG r0) w3])
 (.block 0
 (.seq
 (.reg [.p (o2 (eqG eqSV false) r3 (ctK (.str 2 26217))) pushW, .p (o1 mvG l0) w4])
 (.cond r4
 (.seq
 (.reg [.p (o1 mvG (ctK (.int .i64 (Int.ofNat 5)))) w2])
 .ret)
 (.seq
 (.reg [.p (o2 (eqG eqSV false) r3 (ctK (.str 4 1752459639))) pushW, .p (o1 mvG l0) w6])
 (.cond r6
 (.seq
 (.reg [.p (o1 mvG (ctK (.int .i64 (Int.ofNat 6)))) w2])
 .ret)
 (.seq
 (.reg [.p (o2 (eqG eqSV false) r3 (ctK (.str 5 435526984050))) pushW, .p (o1 mvG l0) w8])
 (.cond r8
 (.seq
 (.reg [.p (o1 mvG (ctK (.int .i64 (Int.ofNat 7)))) w2])
 .ret)
 .skip))))))))
 (.seq
 (.reg [.p (o1 mvG (ctK (.int .i64 (Int.ofNat 8)))) w2])
 .ret))) }
theorem kf25_ok : (compFn Tryz.prog Tryz.f25 [[]]).bind (toKFn [5, 7, 9] 1) = some kf25 := by kernel_rfl
noncomputable def kf26 : KFn := { params := [w0, w1], res := [(.s r4)], body :=
 (.seq
 (.reg [.p (o1 mvG (ctK .snil)) w4])
 (.seq
 (.reg [.p (callO 46 [r0, r1]) pushW, .p (bslO 1 1 [.snil] [(0, 1, l0)]) pushW, .p (o1 mvG l0) w5])
 (.seq
 (.block 0
 (.loop
 (.seq
 (.seq
 (.reg [.p (callO 28 [r0, (ctK (.str 1 124))]) w11])
 (.cond r11
 .skip
 (.exit 0)))
 (.block 1
 (.seq
 (.reg [.p (o1 nilckG r0) pushW, .p (o1 (faddrG 1) l0) pushW, .p (o1 load1G l0) pushW, .p (o2 (binG addB) l0 (ctK (.int .i64 (Int.ofNat 1)))) pushW, .p (o1 nilckG r0) pushW, .p (o1 (faddrG 1) l0) pushW, .p (o2 (storeG 1) l0 l2) noW])
 (.reg [.p (o1 mvG r5) pushW, .p (callO 46 [r0, r1]) pushW, .p (bslO 1 1 [.snil] [(0, 1, l0)]) pushW, .p (o2 (appG 1) l2 l0) pushW, .p (o1 mvG l0) w5]))))))
 (.seq
 (.reg [.p (o1 mvG r5) w4])
 .ret)))) }
theorem kf26_ok : (compFn Tryz.prog Tryz.f26 [[5], [0, 1, 5], [0, 1, 5]]).bind (toKFn [6, 7, 8, 9, 10, 12, 13, 14, 15, 16, 17, 18, 19, 20, 21, 22, 23, 24, 25] 2) = some kf26 := by kernel_rfl
noncomputable def kf46 : KFn := { params := [w0, w1], res := [(.cn r4 1)], body :=
 (.seq
 (.reg [.p (allocO [.snil]) w4])
 (.seq
 (.seq
 (.drw [.m (callO 23 [r0, (ctK (.int .i64 (Int.ofNat 1)))]) pushW (some []), .p (o1 notG l0) pushW, .g l0 false false none (o1 mvG r0) pushW, .g l1 false false none (o1 nilckG l0) pushW, .g l2 false false none (o1 (faddrG 0) l0) pushW, .g l3 false false none (o1 load1G l0) pushW, .g l4 false false none (o1 mvG r0) pushW, .g l5 false false none (o1 nilckG l0) pushW, .g l6 false false none (o1 (faddrG 1) l0) pushW, .g l7 false false none (o1 load1G l0) pushW, .g l8 false false none (o2 (iaddrG 4) l4 l0) pushW, .g l9 false false none (o1 (faddrG 1) l0) pushW, .g l10 false false none (o1 load1G l0) pushW, .g l11 false true (some []) (callO 24 [l0]) pushW, .p (o3 pickG l12 (ctK (.bool true)) l0) w22] [])
 (.cond r22
 (.seq
 (.reg [.p (callO 74 [r0, r1]) pushW, .p (bslO 7 1 [(.int .i64 (Int.ofNat 0)), (.str 0 0), .snil, (.str 0 0), (.int .i64 (Int.ofNat 0)), (.bool false), .snil] [(0, 7, l0)]) pushW, .p (buildO [.snil] [(0, 1, l0)]) pushW, .p (o2 (storeG 1) r4 l0) noW])
 .ret)
 .skip))
 (.seq
 (.reg [.p (callO 27 [r0, (ctK (.int .i64 (Int.ofNat 1)))]) pushW, .p (o1 (fld1G 1) l0) pushW, .p (buildO [(.int .i64 (Int.ofNat 0)), (.str 0 0), .snil, (.str 0 0), (.int .i64 (Int.ofNat 0)), (.bool false), .snil] [(0, 1, (ctK (.int .i64 (Int.ofNat 6)))), (3, 1, l0)]) pushW, .p (bslO 7 1 [(.int .i64 (Int.ofNat 0)), (.str 0 0), .snil, (.str 0 0), (.int .i64 (Int.ofNat 0)), (.bool false), .snil] [(0, 7, l0)]) pushW, .p (buildO [.snil] [(0, 1, l0)]) pushW, .p (allocO [.snil]) w5, .p (o2 (storeG 1) r5 l0) noW])
 (.seq
 (.block 0
 (.loop
 (.seq
 (.seq
 (.reg [.p (callO 75 [r0]) w35])
 (.cond r35
 .skip
 (.exit 0)))
 (.block 1
 (.seq
 (.seq
 (.reg [.p (o1 (faddrG 0) r5) pushW, .p (o1 load1G l0) pushW, .p (o1 lenLG l0) pushW, .p (o2 (binG (cmpB .gtr gtI)) l0 (ctK (.int .i64 (Int.ofNat 4)))) w39])
 (.cond r39
 (.seq
 (.reg [.p (callO 47 [r0, (ctK (.int .i64 (Int.ofNat 18)))]) pushW])
 (.seq
 (.reg [.p (o1 (loadnG 1) r5) pushW, .p (o2 (storeG 1) r4 l0) noW])
 .ret))
 .skip))
 (.drw [.p (o1 (faddrG 0) r5) w43, .p (o1 load1G r43) pushW, .m (callO 74 [r0, r1]) pushW (some [43]), .p (bslO 7 1 [(.int .i64 (Int.ofNat 0)), (.str 0 0), .snil, (.str 0 0), (.int .i64 (Int.ofNat 0)), (.bool false), .snil] [(0, 7, l0)]) pushW, .p (o2 (appG 7) l2 l0) pushW, .p (o1 (faddrG 0) r5) pushW, .p (o2 (storeG 1) l0 l1) noW] []))))))
 (.seq
 (.reg [.p (o1 (loadnG 1) r5) pushW, .p (o2 (storeG 1) r4 l0) noW])
 .ret))))) }
theorem kf46_ok : (compFn Tryz.prog Tryz.f46 [[0, 1, 4], [4, 5], [0, 1, 4, 5], [0, 1, 4, 5], [0, 1, 4, 5]]).bind (toKFn [6, 7, 8, 9, 10, 11, 12, 13, 14, 15, 16, 17, 18, 19, 20, 21, 23, 24, 25, 26, 27, 28, 29, 30, 31, 32, 33, 34, 36, 37, 38, 40, 41, 42, 44, 45, 46, 47, 48, 49, 50, 51] 2) = some kf46 := by kernel_rfl
noncomputable def kf74 : KFn := { params := [w0, w1], res := [(.cn r4 7)], body :=
 (.seq
 (.reg [.p (allocO [(.int .i64 (Int.ofNat 0)), (.str 0 0), .snil, (.str 0 0), (.int .i64 (Int.ofNat 0)), (.bool false), .snil]) w4])
 (.seq
 (.seq
 (.reg [.p (callO 75 [r0]) pushW, .p (o1 notG l0) w11])
 (.cond r11
 (.seq
 (.reg [.p (callO 47 [r0, (ctK (.int .i64 (Int.ofNat 12)))]) pushW])
 (.seq
 (.reg [.p (buildO [(.int .i64 (Int.ofNat 0)), (.str 0 0), .snil, (.str 0 0), (.int .i64 (Int.ofNat 0)), (.bool false), .snil] []) pushW, .p (o2 (storeG 7) r4 l0) noW])
 .ret))
 .skip))
 (.seq
 (.drw [.p (o1 nilckG r0) pushW, .p (o1 (faddrG 0) l0) pushW, .p (o1 load1G l0) pushW, .p (o1 nilckG r0) pushW, .p (o1 (faddrG 1) l0) pushW, .p (o1 load1G l0) pushW, .p (o2 (iaddrG 4) l3 l0) pushW, .p (o1 (loadnG 4) l0) pushW, .p (allocO [(.int .i64 (Int.ofNat 0)), (.str 0 0), (.int .i64 (Int.ofNat 0)), (.int .i64 (Int.ofNat 0))]) w5, .p (o2 (storeG 4) r5 l0) noW] [])
 (.seq
 (.block 0
 (.seq
 (.reg [.p (o1 (faddrG 0) r5) pushW, .p (o1 load1G l0) pushW, .p (o2 (eqG eqIV false) l0 (ctK (.int .i64 (Int.ofNat 2)))) pushW, .p (o1 mvG l0) w25])
 (.cond r25
 (.seq
 (.reg [.p (o1 nilckG r0) pushW, .p (o1 (faddrG 1) l0) pushW, .p (o1 load1G l0) pushW, .p (o2 (binG addB) l0 (ctK (.int .i64 (Int.ofNat 1)))) pushW, .p (o1 nilckG r0) pushW, .p (o1 (faddrG 1) l0) pushW, .p (o2 (storeG 1) l0 l2) noW])
 (.seq
 (.reg [.p (o1 (faddrG 1) r5) pushW, .p (o1 load1G l0) pushW, .p (buildO [(.int .i64 (Int.ofNat 0)), (.str 0 0), .snil, (.str 0 0), (.int .i64 (Int.ofNat 0)), (.bool false), .snil] [(0, 1, (ctK (.int .i64 (Int.ofNat 2)))), (3, 1, l0)]) pushW, .p (o2 (storeG 7) r4 l0) noW])
 .ret))
 (.seq
 (.reg [.p (o1 (faddrG 0) r5) pushW, .p (o1 load1G l0) pushW, .p (o2 (eqG eqIV false) l0 (ctK (.int .i64 (Int.ofNat 3)))) pushW, .p (o1 mvG l0) w39])
 (.cond r39
 (.seq
 (.reg [.p (o1 nilckG r0) pushW, .p (o1 (faddrG 1) l0) pushW, .p (o1 load1G l0) pushW, .p (o2 (binG addB) l0 (ctK (.int .i64 (Int.ofNat 1)))) pushW, .p (o1 nilckG r0) pushW, .p (o1 (faddrG 1) l0) pushW, .p (o2 (storeG 1) l0 l2) noW])
 (.seq
 (.reg [.p (o1 (faddrG 2) r5) pushW, .p (o1 load1G l0) pushW, .p (buildO [(.int .i64 (Int.ofNat 0)), (.str 0 0), .snil, (.str 0 0), (.int .i64 (Int.ofNat 0)), (.bool false), .snil] [(0, 1, (ctK (.int .i64 (Int.ofNat 3)))), (4, 1, l0)]) pushW, .p (o2 (storeG 7) r4 l0) noW])
 .ret))
 (.seq
 (.reg [.p (o1 (faddrG 0) r5) pushW, .p (o1 load1G l0) pushW, .p (o2 (eqG eqIV false) l0 (ctK (.int .i64 (Int.ofNat 1)))) pushW, .p (o1 mvG l0) w53])
 (.cond r53
 (.seq
 (.reg [.p (o1 nilckG r0) pushW, .p (o1 (faddrG 1) l0) pushW, .p (o1 load1G l0) pushW, .p (o2 (binG addB) l0 (ctK (.int .i64 (Int.ofNat 1)))) pushW, .p (o1 nilckG r0) pushW, .p (o1 (faddrG 1) l0) pushW, .p (o2 (storeG 1) l0 l2) noW])
 (.seq
 (.reg [.p (o1 (faddrG 1) r5) pushW, .p (o1 load1G l0) pushW, .p (o2 (eqG eqSV false) l0 (ctK (.str 4 1702195828))) pushW, .p (buildO [(.int .i64 (Int.ofNat 0)), (.str 0 0), .snil, (.str 0 0), (.int .i64 (Int.ofNat 0)), (.bool false), .snil] [(0, 1, (ctK (.int .i64 (Int.ofNat 4)))), (5, 1, l0)]) pushW, .p (o2 (storeG 7) r4 l0) noW])
 .ret))
 (.seq
 (.reg [.p (o1 (faddrG 1) r5) pushW, .p (o1 load1G l0) pushW, .p (o2 (eqG eqSV false) l0 (ctK (.str 1 36))) pushW, .p (o1 mvG l0) w68])
 (.cond r68
 (.seq
 (.reg [.p (o1 nilckG r0) pushW, .p (o1 (faddrG 1) l0) pushW, .p (o1 load1G l0) pushW, .p (o2 (binG addB) l0 (ctK (.int .i64 (Int.ofNat 1)))) pushW, .p (o1 nilckG r0) pushW, .p (o1 (faddrG 1) l0) pushW, .p (o2 (storeG 1) l0 l2) noW])
 (.seq
 (.reg [.p (callO 27 [r0, (ctK (.int .i64 (Int.ofNat 1)))]) pushW, .p (allocO [(.int .i64 (Int.ofNat 0)), (.str 0 0), (.int .i64 (Int.ofNat 0)), (.int .i64 (Int.ofNat 0))]) w6, .p (o2 (storeG 4) r6 l0) noW])
 (.seq
 (.drw [.p (o1 (faddrG 1) r6) w81, .p (o1 load1G r81) pushW, .p (o1 (faddrG 3) r6) pushW, .p (o1 load1G l0) pushW, .p (o1 (faddrG 1) r6) pushW, .p (o1 load1G l0) pushW, .p (o1 lenSG l0) pushW, .p (o2 (binG addB) l3 l0) pushW, .m (callO 100 [r0, l0]) pushW (some [81]), .p (buildO [(.int .i64 (Int.ofNat 0)), (.str 0 0), .snil, (.str 0 0), (.int .i64 (Int.ofNat 0)), (.bool false), .snil] [(0, 1, (ctK (.int .i64 (Int.ofNat 1)))), (1, 1, l7), (2, 1, l0)]) pushW, .p (o2 (storeG 7) r4 l0) noW] [])
 .ret)))
 (.seq
 (.reg [.p (o1 (faddrG 1) r5) pushW, .p (o1 load1G l0) pushW, .p (o2 (eqG eqSV false) l0 (ctK (.str 1 40))) pushW, .p (o1 mvG l0) w92])
 (.cond r92
 (.seq
 (.seq
 (.reg [.p (o2 (binG addB) r1 (ctK (.int .i64 (Int.ofNat 1)))) pushW, .p (o2 (binG (cmpB .gtr gtI)) l0 (ctK (.int .i64 (Int.ofNat 12)))) w98])
 (.cond r98
 (.seq
 (.reg [.p (callO 47 [r0, (ctK (.int .i64 (Int.ofNat 13)))]) pushW])
 (.seq
 (.reg [.p (buildO [(.int .i64 (Int.ofNat 0)), (.str 0 0), .snil, (.str 0 0), (.int .i64 (Int.ofNat 0)), (.bool false), .snil] []) pushW, .p (o2 (storeG 7) r4 l0) noW])
 .ret))
 .skip))
 (.seq
 (.reg [.p (o1 nilckG r0) pushW, .p (o1 (faddrG 1) l0) pushW, .p (o1 load1G l0) pushW, .p (o2 (binG addB) l0 (ctK (.int .i64 (Int.ofNat 1)))) pushW, .p (o1 nilckG r0) pushW, .p (o1 (faddrG 1) l0) pushW, .p (o2 (storeG 1) l0 l2) noW])
 (.seq
 (.reg [.p (o2 (binG addB) r1 (ctK (.int .i64 (Int.ofNat 1)))) pushW, .p (callO 26 [r0, l0]) pushW, .p (o1 mvG l0) w7])
 (.seq
 (.reg [.p (callO 101 [r0, (ctK (.str 1 41))]) pushW])
 (.seq
 (.reg [.p (buildO [(.int .i64 (Int.ofNat 0)), (.str 0 0), .snil, (.str 0 0), (.int .i64 (Int.ofNat 0)), (.bool false), .snil] [(0, 1, (ctK (.int .i64 (Int.ofNat 5)))), (6, 1, r7)]) pushW, .p (o2 (storeG 7) r4 l0) noW])
 .ret)))))
 .skip)))))))))))
 (.seq
 (.reg [.p (callO 100 [r0, (ctK (.int .i64 (Int.negSucc 0)))]) pushW, .p (o1 mvG l0) w8])
 (.seq
 (.seq
 (.reg [.p (o1 lenLG r8) pushW, .p (o2 (eqG eqIV false) l0 (ctK (.int .i64 (Int.ofNat 0)))) w121])
 (.cond r121
 (.reg [.p (o1 nilckG r0) pushW, .p (o1 (faddrG 1) l0) pushW, .p (o1 load1G l0) pushW, .p (o2 (binG addB) l0 (ctK (.int .i64 (Int.ofNat 1)))) pushW, .p (o1 nilckG r0) pushW, .p (o1 (faddrG 1) l0) pushW, .p (o2 (storeG 1) l0 l2) noW])
 .skip))
 (.seq
 (.reg [.p (buildO [(.int .i64 (Int.ofNat 0)), (.str 0 0), .snil, (.str 0 0), (.int .i64 (Int.ofNat 0)), (.bool false), .snil] [(0, 1, (ctK (.int .i64 (Int.ofNat 1)))), (2, 1, r8)]) pushW, .p (o2 (storeG 7) r4 l0) noW])
 .ret))))))) }
theorem kf74_ok : (compFn Tryz.prog Tryz.f74 [[0, 1, 4], [0, 4], [0, 1, 4], [4, 8]]).bind (toKFn [9, 10, 12, 13, 14, 15, 16, 17, 18, 19, 20, 21, 22, 23, 24, 26, 27, 28, 29, 30, 31, 32, 33, 34, 35, 36, 37, 38, 40, 41, 42, 43, 44, 45, 46, 47, 48, 49, 50, 51, 52, 54, 55, 56, 57, 58, 59, 60, 61, 62, 63, 64, 65, 66, 67, 69, 70, 71, 72, 73, 74, 75, 76, 77, 78, 79, 80, 82, 83, 84, 85, 86, 87, 88, 89, 90, 91, 93, 94, 95, 96, 97, 99, 100, 101, 102, 103, 104, 105, 106, 107, 108, 109, 110, 111, 112, 113, 114, 115, 116, 117, 118, 119, 120, 122, 123, 124, 125, 126, 127, 128, 129, 130] 2) = some kf74 := by kernel_rfl
noncomputable def kf75 : KFn := { params := [w0], res := [(.s r2)], body :=
 (.seq
 (.reg [.p (o1 mvG (ctK (.bool false))) w2])
 (.seq
 (.drw [.m (callO 23 [r0, (ctK (.int .i64 (Int.ofNat 2)))]) pushW (some []), .g l0 false false none (o1 mvG r0) pushW, .g l1 false true (some []) (callO 23 [l0, (ctK (.int .i64 (Int.ofNat 3)))]) pushW, .p (o3 pickG l2 (ctK (.bool true)) l0) pushW, .g l0 false false none (o1 mvG r0) pushW, .g l1 false true (some []) (callO 28 [l0, (ctK (.str 1 46))]) pushW, .p (o3 pickG l2 (ctK (.bool true)) l0) pushW, .g l0 false false none (o1 mvG r0) pushW, .g l1 false true (some []) (callO 28 [l0, (ctK (.str 1 36))]) pushW, .p (o3 pickG l2 (ctK (.bool true)) l0) pushW, .g l0 false false none (o1 mvG r0) pushW, .g l1 false true (some []) (callO 28 [l0, (ctK (.str 1 40))]) pushW, .p (o3 pickG l2 (ctK (.bool true)) l0) pushW, .g l0 false false none (o1 mvG r0) pushW, .g l1 false true (some []) (callO 23 [l0, (ctK (.int .i64 (Int.ofNat 1)))]) pushW, .g l2 false false none (o1 mvG l0) pushW, .g l0 true false none (o1 mvG r0) pushW, .g l1 true false none (o1 nilckG l0) pushW, .g l2 true false none (o1 (faddrG 0) l0) pushW, .g l3 true false none (o1 load1G l0) pushW, .g l4 true false none (o1 mvG r0) pushW, .g l5 true false none (o1 nilckG l0) pushW, .g l6 true false none (o1 (faddrG 1) l0) pushW, .g l7 true false none (o1 load1G l0) pushW, .g l8 true false none (o2 (iaddrG 4) l4 l0) pushW, .g l9 true false none (o1 (faddrG 1) l0) pushW, .g l10 true false none (o1 load1G l0) pushW, .g l11 true false none (o2 (eqG eqSV false) l0 (ctK (.str 4 1702195828))) pushW, .g l12 true false none (o1 mvG l0) pushW, .g l0 false false none (o1 mvG r0) pushW, .g l1 false false none (o1 nilckG l0) pushW, .g l2 false false none (o1 (faddrG 0) l0) pushW, .g l3 false false none (o1 load1G l0) pushW, .g l4 false false none (o1 mvG r0) pushW, .g l5 false false none (o1 nilckG l0) pushW, .g l6 false false none (o1 (faddrG 1) l0) pushW, .g l7 false false none (o1 load1G l0) pushW, .g l8 false false none (o2 (iaddrG 4) l4 l0) pushW, .g l9 false false none (o1 (faddrG 1) l0) pushW, .g l10 false false none (o1 load1G l0) pushW, .g l11 false false none (o2 (eqG eqSV false) l0 (ctK (.str 5 435728179558))) pushW, .g l25 true false none (o3 pickG l12 (ctK (.bool true)) l0) pushW, .g l29 false false none (o3 pickG l26 l0 (ctK (.bool false))) pushW, .p (o3 pickG l30 (ctK (.bool true)) l0) pushW, .p (o1 mvG l0) w2] [])
 .ret)) }
theorem kf75_ok : (compFn Tryz.prog Tryz.f75 []).bind (toKFn [3, 4, 5, 6, 7, 8, 9, 10, 11, 12, 13, 14, 15, 16, 17, 18, 19, 20, 21, 22, 23, 24, 25, 26, 27, 28, 29, 30, 31, 32, 33, 34, 35, 36, 37, 38, 39, 40, 41, 42, 43, 44, 45, 46, 47, 48, 49, 50, 51, 52] 1) = some kf75 := by kernel_rfl
noncomputable def kf28 : KFn := { params := [w0, w1], res := [(.s r4)], body :=
 (.seq
 (.reg [.p (o1 mvG (ctK (.bool false))) w4])
 (.seq
 (.drw [.p (o1 nilckG r0) pushW, .p (o1 (faddrG 2) l0) pushW, .p (o1 load1G l0) pushW, .p (o2 (eqG eqIV false) l0 (ctK (.int .i64 (Int.ofNat 0)))) pushW, .g l0 true false none (o1 mvG r0) pushW, .g l1 true false none (o1 nilckG l0) pushW, .g l2 true false none (o1 (faddrG 1) l0) pushW, .g l3 true false none (o1 load1G l0) pushW, .g l4 true false none (o1 mvG r0) pushW, .g l5 true false none (o1 nilckG l0) pushW, .g l6 true false none (o1 (faddrG 0) l0) pushW, .g l7 true false none (o1 load1G l0) pushW, .g l8 true false none (o1 lenLG l0) pushW, .g l9 true false none (o2 (binG (cmpB .lss ltI)) l5 l0) pushW, .p (o3 pickG l10 l0 (ctK (.bool false))) pushW, .g l0 true false none (o1 mvG r0) pushW, .g l1 true false none (o1 nilckG l0) pushW, .g l2 true false none (o1 (faddrG 0) l0) pushW, .g l3 true false none (o1 load1G l0) pushW, .g l4 true false none (o1 mvG r0) pushW, .g l5 true false none (o1 nilckG l0) pushW, .g l6 true false none (o1 (faddrG 1) l0) pushW, .g l7 true false none (o1 load1G l0) pushW, .g l8 true false none (o2 (iaddrG 4) l4 l0) pushW, .g l9 true false none (o1 (faddrG 0) l0) pushW, .g l10 true false none (o1 load1G l0) pushW, .g l11 true false none (o2 (eqG eqIV false) l0 (ctK (.int .i64 (Int.ofNat 4)))) pushW, .p (o3 pickG l12 l0 (ctK (.bool false))) pushW, .g l0 true false none (o1 mvG r0) pushW, .g l1 true false none (o1 nilckG l0) pushW, .g l2 true false none (o1 (faddrG 0) l0) pushW, .g l3 true false none (o1 load1G l0) pushW, .g l4 true false none (o1 mvG r0) pushW, .g l5 true false none (o1 nilckG l0) pushW, .g l6 true false none (o1 (faddrG 1) l0) pushW, .g l7 true false none (o1 load1G l0) pushW, .g l8 true false none (o2 (iaddrG 4) l4 l0) pushW, .g l9 true false none (o1 (faddrG 1) l0) pushW, .g l10 true false none (o1 load1G l0) pushW, .g l11 true false none (o1 mvG r1) pushW, .g l12 true false none (o2 (eqG eqSV false) l1 l0) pushW, .p (o3 pickG l13 l0 (ctK (.bool false))) pushW, .p (o1 mvG l0) w4] [])
 .ret)) }
theorem kf28_ok : (compFn Tryz.prog Tryz.f28 []).bind (toKFn [5, 6, 7, 8, 9, 10, 11, 12, 13, 14, 15, 16, 17, 18, 19, 20, 21, 22, 23, 24, 25, 26, 27, 28, 29, 30, 31, 32, 33, 34, 35, 36, 37, 38, 39, 40, 41, 42, 43, 44, 45, 46, 47, 48, 49, 50] 2) = some kf28 := by kernel_rfl
noncomputable def kf47 : KFn := { params := [w0, w1], res := [], body :=
 (.seq
 (.reg [.p (o1 nilckG r0) pushW, .p (o1 (faddrG 2) l0) pushW, .p (o1 load1G l0) pushW, .p (o2 (eqG eqIV false) l0 (ctK (.int .i64 (Int.ofNat 0)))) w8])
 (.cond r8
 (.reg [.p (o1 nilckG r0) pushW, .p (o1 (faddrG 2) l0) pushW, .p (o2 (storeG 1) l0 r1) noW])
 .skip)) }
theorem kf47_ok : (compFn Tryz.prog Tryz.f47 []).bind (toKFn [4, 5, 6, 7, 9, 10, 11, 12] 2) = some kf47 := by kernel_rfl
noncomputable def kf27 : KFn := { params := [w0, w1], res := [(.cn r4 4)], body :=
 (.seq
 (.reg [.p (allocO [(.int .i64 (Int.ofNat 0)), (.str 0 0), (.int .i64 (Int.ofNat 0)), (.int .i64 (Int.ofNat 0))]) w4])
 (.seq
 (.seq
 (.reg [.p (callO 23 [r0, r1]) pushW, .p (o1 notG l0) w8])
 (.cond r8
 (.seq
 (.reg [.p (callO 47 [r0, (ctK (.int .i64 (Int.ofNat 12)))]) pushW])
 (.seq
 (.reg [.p (buildO [(.int .i64 (Int.ofNat 0)), (.str 0 0), (.int .i64 (Int.ofNat 0)), (.int .i64 (Int.ofNat 0))] []) pushW, .p (o2 (storeG 4) r4 l0) noW])
 .ret))
 .skip))
 (.seq
 (.reg [.p (o1 nilckG r0) pushW, .p (o1 (faddrG 1) l0) pushW, .p (o1 load1G l0) pushW, .p (o2 (binG addB) l0 (ctK (.int .i64 (Int.ofNat 1)))) pushW, .p (o1 nilckG r0) pushW, .p (o1 (faddrG 1) l0) pushW, .p (o2 (storeG 1) l0 l2) noW])
 (.seq
 (.drw [.p (o1 nilckG r0) pushW, .p (o1 (faddrG 0) l0) pushW, .p (o1 load1G l0) pushW, .p (o1 nilckG r0) pushW, .p (o1 (faddrG 1) l0) pushW, .p (o1 load1G l0) pushW, .p (o2 (binG subB) l0 (ctK (.int .i64 (Int.ofNat 1)))) pushW, .p (o2 (iaddrG 4) l4 l0) pushW, .p (o1 (loadnG 4) l0) pushW, .p (o2 (storeG 4) r4 l0) noW] [])
 .ret)))) }
theorem kf27_ok : (compFn Tryz.prog Tryz.f27 [[0, 4]]).bind (toKFn [5, 6, 7, 9, 10, 11, 12, 13, 14, 15, 16, 17, 18, 19, 20, 21, 22, 23, 24, 25, 26, 27, 28, 29] 2) = some kf27 := by kernel_rfl
noncomputable def kf100 : KFn := { params := [w0, w1], res := [(.s r4)], body :=
 (.seq
 (.reg [.p (o1 mvG (ctK .snil)) w4])
 (.seq
 (.reg [.p (o1 mvG (ctK .snil)) w5])
 (.seq
 (.block 0
 (.loop
 (.seq
 (.seq
 (.drw [.m (callO 28 [r0, (ctK (.str 1 46))]) pushW (some []), .g l0 true false none (o1 mvG r0) pushW, .g l1 true false none (o1 nilckG l0) pushW, .g l2 true false none (o1 (faddrG 1) l0) pushW, .g l3 true false none (o1 load1G l0) pushW, .g l4 true false none (o2 (binG addB) l0 (ctK (.int .i64 (Int.ofNat 1)))) pushW, .g l5 true false none (o1 mvG r0) pushW, .g l6 true false none (o1 nilckG l0) pushW, .g l7 true false none (o1 (faddrG 0) l0) pushW, .g l8 true false none (o1 load1G l0) pushW, .g l9 true false none (o1 lenLG l0) pushW, .g l10 true false none (o2 (binG (cmpB .lss ltI)) l5 l0) pushW, .p (o3 pickG l11 l0 (ctK (.bool false))) pushW, .g l0 true false none (o1 mvG r0) pushW, .g l1 true false none (o1 nilckG l0) pushW, .g l2 true false none (o1 (faddrG 0) l0) pushW, .g l3 true false none (o1 load1G l0) pushW, .g l4 true false none (o1 mvG r0) pushW, .g l5 true false none (o1 nilckG l0) pushW, .g l6 true false none (o1 (faddrG 1) l0) pushW, .g l7 true false none (o1 load1G l0) pushW, .g l8 true false none (o2 (binG addB) l0 (ctK (.int .i64 (Int.ofNat 1)))) pushW, .g l9 true false none (o2 (iaddrG 4) l5 l0) pushW, .g l10 true false none (o1 (faddrG 0) l0) pushW, .g l11 true false none (o1 load1G l0) pushW, .g l12 true false none (o2 (eqG eqIV false) l0 (ctK (.int .i64 (Int.ofNat 1)))) pushW, .p (o3 pickG l13 l0 (ctK (.bool false))) pushW, .g l0 true false none (o1 mvG r0) pushW, .g l1 true false none (o1 nilckG l0) pushW, .g l2 true false none (o1 (faddrG 0) l0) pushW, .g l3 true false none (o1 load1G l0) pushW, .g l4 true false none (o1 mvG r0) pushW, .g l5 true false none (o1 nilckG l0) pushW, .g l6 true false none (o1 (faddrG 1) l0) pushW, .g l7 true false none (o1 load1G l0) pushW, .g l8 true false none (o2 (binG addB) l0 (ctK (.int .i64 (Int.ofNat 1)))) pushW, .g l9 true false none (o2 (iaddrG 4) l5 l0) pushW, .g l10 true false none (o1 (faddrG 3) l0) pushW, .g l11 true false none (o1 load1G l0) pushW, .g l12 true false none (o1 mvG r0) pushW, .g l13 true false none (o1 nilckG l0) pushW, .g l14 true false none (o1 (faddrG 0) l0) pushW, .g l15 true false none (o1 load1G l0) pushW, .g l16 true false none (o1 mvG r0) pushW, .g l17 true false none (o1 nilckG l0) pushW, .g l18 true false none (o1 (faddrG 1) l0) pushW, .g l19 true false none (o1 load1G l0) pushW, .g l20 true false none (o2 (iaddrG 4) l4 l0) pushW, .g l21 true false none (o1 (faddrG 3) l0) pushW, .g l22 true false none (o1 load1G l0) pushW, .g l23 true false none (o2 (binG addB) l0 (ctK (.int .i64 (Int.ofNat 1)))) pushW, .g l24 true false none (o2 (eqG eqIV false) l12 l0) pushW, .p (o3 pickG l25 l0 (ctK (.bool false))) pushW, .g l0 true false none (o1 mvG r1) pushW, .g l1 true false none (o2 (binG (cmpB .lss ltI)) l0 (ctK (.int .i64 (Int.ofNat 0)))) pushW, .g l2 true false none (o1 mvG l0) pushW, .g l0 false false none (o1 mvG r0) pushW, .g l1 false false none (o1 nilckG l0) pushW, .g l2 false false none (o1 (faddrG 0) l0) pushW, .g l3 false false none (o1 load1G l0) pushW, .g l4 false false none (o1 mvG r0) pushW, .g l5 false false none (o1 nilckG l0) pushW, .g l6 false false none (o1 (faddrG 1) l0) pushW, .g l7 false false none (o1 load1G l0) pushW, .g l8 false false none (o2 (iaddrG 4) l4 l0) pushW, .g l9 false false none (o1 (faddrG 3) l0) pushW, .g l10 false false none (o1 load1G l0) pushW, .g l11 false false none (o1 mvG r1) pushW, .g l12 false false none (o2 (eqG eqIV false) l1 l0) pushW, .g l16 true false none (o3 pickG l13 (ctK (.bool true)) l0) pushW, .p (o3 pickG l17 l0 (ctK (.bool false))) w81] [])
 (.cond r81
 .skip
 (.exit 0)))
 (.block 1
 (.seq
 (.drw [.p (o1 mvG r5) pushW, .p (o1 nilckG r0) pushW, .p (o1 (faddrG 0) l0) pushW, .p (o1 load1G l0) pushW, .p (o1 nilckG r0) pushW, .p (o1 (faddrG 1) l0) pushW, .p (o1 load1G l0) pushW, .p (o2 (binG addB) l0 (ctK (.int .i64 (Int.ofNat 1)))) pushW, .p (o2 (iaddrG 4) l4 l0) pushW, .p (o1 (faddrG 1) l0) pushW, .p (o1 load1G l0) pushW, .p (bslO 1 1 [(.str 0 0)] [(0, 1, l0)]) pushW, .p (o2 (appG 1) l11 l0) pushW, .p (o1 mvG l0) w5] [])
 (.seq
 (.drw [.p (o1 nilckG r0) pushW, .p (o1 (faddrG 0) l0) pushW, .p (o1 load1G l0) pushW, .p (o1 nilckG r0) pushW, .p (o1 (faddrG 1) l0) pushW, .p (o1 load1G l0) pushW, .p (o2 (binG addB) l0 (ctK (.int .i64 (Int.ofNat 1)))) pushW, .p (o2 (iaddrG 4) l4 l0) pushW, .p (o1 (faddrG 3) l0) pushW, .p (o1 load1G l0) pushW, .p (o1 nilckG r0) pushW, .p (o1 (faddrG 0) l0) pushW, .p (o1 load1G l0) pushW, .p (o1 nilckG r0) pushW, .p (o1 (faddrG 1) l0) pushW, .p (o1 load1G l0) pushW, .p (o2 (binG addB) l0 (ctK (.int .i64 (Int.ofNat 1)))) pushW, .p (o2 (iaddrG 4) l4 l0) pushW, .p (o1 (faddrG 1) l0) pushW, .p (o1 load1G l0) pushW, .p (o1 lenSG l0) pushW, .p (o2 (binG addB) l11 l0) pushW, .p (o1 mvG l0) w1] [])
 (.reg [.p (o1 nilckG r0) pushW, .p (o1 (faddrG 1) l0) pushW, .p (o1 load1G l0) pushW, .p (o2 (binG addB) l0 (ctK (.int .i64 (Int.ofNat 2)))) pushW, .p (o1 nilckG r0) pushW, .p (o1 (faddrG 1) l0) pushW, .p (o2 (storeG 1) l0 l2) noW])))))))
 (.seq
 (.reg [.p (o1 mvG r5) w4])
 .ret)))) }
theorem kf100_ok : (compFn Tryz.prog Tryz.f100 [[5], [0, 1, 5], [0, 5]]).bind (toKFn [6, 7, 8, 9, 10, 11, 12, 13, 14, 15, 16, 17, 18, 19, 20, 21, 22, 23, 24, 25, 26, 27, 28, 29, 30, 31, 32, 33, 34, 35, 36, 37, 38, 39, 40, 41, 42, 43, 44, 45, 46, 47, 48, 49, 50, 51, 52, 53, 54, 55, 56, 57, 58, 59, 60, 61, 62, 63, 64, 65, 66, 67, 68, 69, 70, 71, 72, 73, 74, 75, 76, 77, 78, 79, 80, 82, 83, 84, 85, 86, 87, 88, 89, 90, 91, 92, 93, 94, 95, 96, 97, 98, 99, 100, 101, 102, 103, 104, 105, 106, 107, 108, 109, 110, 111, 112, 113, 114, 115, 116, 117, 118, 119, 120, 121, 122, 123, 124, 125, 126, 127, 128, 129, 130, 131] 2) = some kf100 := by kernel_rfl
noncomputable def kf101 : KFn := { params := [w0, w1], res := [], body :=
 (.seq
 (.reg [.p (callO 28 [r0, r1]) w6])
 (.cond r6
 (.reg [.p (o1 nilckG r0) pushW, .p (o1 (faddrG 1) l0) pushW, .p (o1 load1G l0) pushW, .p (o2 (binG addB) l0 (ctK (.int .i64 (Int.ofNat 1)))) pushW, .p (o1 nilckG r0) pushW, .p (o1 (faddrG 1) l0) pushW, .p (o2 (storeG 1) l0 l2) noW])
 (.reg [.p (callO 47 [r0, (ctK (.int .i64 (Int.ofNat 12)))]) pushW]))) }
theorem kf101_ok : (compFn Tryz.prog Tryz.f101 []).bind (toKFn [4, 5, 7, 8, 9, 10, 11, 12, 13, 14, 15] 2) = some kf101 := by kernel_rfl
noncomputable def kf29 : KFn := { params := [w0], res := [(.s r2)], body :=
 (.seq
 (.reg [.p (o1 mvG (ctK (.int .i64 (Int.ofNat 0)))) w2])
 (.seq
 (.seq
 (.drw [.p (o1 nilckG r0) pushW, .p (o1 (faddrG 1) l0) pushW, .p (o1 load1G l0) pushW, .p (o1 nilckG r0) pushW, .p (o1 (faddrG 0) l0) pushW, .p (o1 load1G l0) pushW, .p (o1 lenLG l0) pushW, .p (o2 (binG (cmpB .lss ltI)) l4 l0) w12] [])
 (.cond r12
 (.reg [.p (callO 47 [r0, (ctK (.int .i64 (Int.ofNat 12)))]) pushW])
 .skip))
 (.seq
 (.reg [.p (o1 nilckG r0) pushW, .p (o1 (faddrG 2) l0) pushW, .p (o1 load1G l0) pushW, .p (o1 mvG l0) w2])
 .ret))) }
theorem kf29_ok : (compFn Tryz.prog Tryz.f29 [[0]]).bind (toKFn [3, 4, 5, 6, 7, 8, 9, 10, 11, 13, 14, 15, 16, 17, 18] 1) = some kf29 := by kernel_rfl
noncomputable def kf30 : KFn := { params := [w0, w1, w2], res := [(.s r6)], body :=
 (.seq
 (.reg [.p (o1 boxG r2) w5, .p (o1 mvG (ctK (.int .i64 (Int.ofNat 0)))) w6])
 (.seq
 (.seq
 (.reg [.p (o1 mvG r1) w7])
 (.block 0
 (.seq
 (.reg [.p (o2 (eqG eqSV false) r7 (ctK (.str 5 448345170285))) pushW, .p (o1 mvG l0) w8])
 (.cond r8
 (.seq
 (.reg [.p (o1 (loadnG 9) r5) pushW, .p (callO 48 [r0, r1, l0, (ctK (.int .i64 (Int.ofNat 3))), (ctK (.str 0 0))]) pushW, .p (o1 mvG l0) w6])
 .ret)
 (.seq
 (.seq
 (.reg [.p (o2 (eqG eqSV false) r7 (ctK (.str 2 26217))) pushW, .p (o1 mvG l0) w14])
 (.cond r14
 .skip
 (.seq
 (.reg [.p (o2 (eqG eqSV false) r7 (ctK (.str 4 1752459639))) pushW, .p (o1 mvG l0) w14])
 (.cond r14
 .skip
 (.reg [.p (o2 (eqG eqSV false) r7 (ctK (.str 5 435526984050))) pushW, .p (o1 mvG l0) w14])))))
 (.cond r14
 (.seq
 (.reg [.p (o1 (loadnG 9) r5) pushW, .p (callO 48 [r0, r1, l0, (ctK (.int .i64 (Int.ofNat 0))), (ctK (.str 0 0))]) pushW, .p (o1 mvG l0) w6])
 .ret)
 (.seq
 (.seq
 (.reg [.p (o2 (eqG eqSV false) r7 (ctK (.str 4 1702063205))) pushW, .p (o1 mvG l0) w22])
 (.cond r22
 .skip
 (.reg [.p (o2 (eqG eqSV false) r7 (ctK (.str 4 1702060387))) pushW, .p (o1 mvG l0) w22])))
 (.cond r22
 (.seq
 (.reg [.p (o1 (faddrG 3) r5) pushW, .p (o1 load1G l0) pushW, .p (callO 49 [r0, r1, l0]) pushW, .p (o1 mvG l0) w6])
 .ret)
 (.seq
 (.reg [.p (o2 (eqG eqSV false) r7 (ctK (.str 3 6581861))) pushW, .p (o1 mvG l0) w30])
 (.cond r30
 (.seq
 (.reg [.p (callO 50 [r0]) pushW, .p (o1 mvG l0) w6])
 .ret)
 (.seq
 (.reg [.p (o2 (eqG eqSV false) r7 (ctK (.str 6 111524889126244))) pushW, .p (o1 mvG l0) w34])
 (.cond r34
 (.seq
 (.reg [.p (o1 (faddrG 3) r5) pushW, .p (o1 load1G l0) pushW, .p (callO 51 [r0, l0]) pushW, .p (o1 mvG l0) w6])
 .ret)
 (.seq
 (.reg [.p (o2 (eqG eqSV false) r7 (ctK (.str 8 7310575213499737460))) pushW, .p (o1 mvG l0) w40])
 (.cond r40
 (.seq
 (.seq
 (.drw [.p (o1 nilckG r0) pushW, .p (o1 (faddrG 0) l0) pushW, .p (o1 load1G l0) pushW, .p (o1 lenLG l0) pushW, .p (o2 (binG (cmpB .gtr gtI)) l0 (ctK (.int .i64 (Int.ofNat 0)))) pushW, .g l0 true false none (o1 mvG r0) pushW, .g l1 true false none (o1 nilckG l0) pushW, .g l2 true false none (o1 (faddrG 0) l0) pushW, .g l3 true false none (o1 load1G l0) pushW, .g l4 true false none (o1 mvG r0) pushW, .g l5 true false none (o1 nilckG l0) pushW, .g l6 true false none (o1 (faddrG 0) l0) pushW, .g l7 true false none (o1 load1G l0) pushW, .g l8 true false none (o1 lenLG l0) pushW, .g l9 true false none (o2 (binG subB) l0 (ctK (.int .i64 (Int.ofNat 1)))) pushW, .g l10 true false none (o2 (iaddrG 12) l6 l0) pushW, .g l11 true false none (o1 (faddrG 10) l0) pushW, .g l12 true false none (o1 load1G l0) pushW, .g l13 true false none (o2 (eqG eqIV false) l0 (ctK (.int .i64 (Int.ofNat 3)))) pushW, .p (o3 pickG l14 l0 (ctK (.bool false))) w63] [])
 (.cond r63
 (.seq
 (.reg [.p (o1 mvG (ctK (.int .i64 (Int.ofNat 12)))) w6])
 .ret)
 .skip))
 (.seq
 (.reg [.p (o1 (faddrG 3) r5) pushW, .p (o1 load1G l0) pushW, .p (callO 52 [l0]) pushW, .p (o1 notG l0) w67])
 (.cond r67
 (.seq
 (.reg [.p (o1 mvG (ctK (.int .i64 (Int.ofNat 15)))) w6])
 .ret)
 .skip)))
 .skip))))))))))))))
 (.seq
 (.seq
 (.reg [.p (o1 (loadnG 9) r5) pushW, .p (callO 31 [r0, l0]) pushW, .p (o1 notG l0) w71])
 (.cond r71
 (.seq
 (.reg [.p (o1 mvG (ctK (.int .i64 (Int.ofNat 12)))) w6])
 .ret)
 .skip))
 (.seq
 (.reg [.p (o1 mvG (ctK (.int .i64 (Int.ofNat 0)))) w6])
 .ret)))) }
theorem kf30_ok : (compFn Tryz.prog Tryz.f30 [[0, 5], [0, 1, 5, 7, 14], [0, 1, 5, 7, 22], [0, 5], []]).bind (toKFn [9, 10, 11, 12, 13, 15, 16, 17, 18, 19, 20, 21, 23, 24, 25, 26, 27, 28, 29, 31, 32, 33, 35, 36, 37, 38, 39, 41, 42, 43, 44, 45, 46, 47, 48, 49, 50, 51, 52, 53, 54, 55, 56, 57, 58, 59, 60, 61, 62, 64, 65, 66, 68, 69, 70] 3) = some kf30 := by kernel_rfl
noncomputable def kf48 : KFn := { params := [w0, w1, w2, w3, w4], res := [(.s r10)], body :=
 (.seq
 (.reg [.p (o1 boxG r2) w7, .p (o1 mvG (ctK (.int .i64 (Int.ofNat 0)))) w10])
 (.seq
 (.seq
 (.drw [.p (o2 (eqG eqSV true) r1 (ctK (.str 6 111524889126244))) pushW, .g l0 true false none (o1 mvG r0) pushW, .g l1 true false none (o1 nilckG l0) pushW, .g l2 true false none (o1 (faddrG 0) l0) pushW, .g l3 true false none (o1 load1G l0) pushW, .g l4 true false none (o1 lenLG l0) pushW, .g l5 true false none (o2 (binG (cmpB .gtr gtI)) l0 (ctK (.int .i64 (Int.ofNat 0)))) pushW, .p (o3 pickG l6 l0 (ctK (.bool false))) pushW, .g l0 true false none (o1 mvG r0) pushW, .g l1 true false none (o1 nilckG l0) pushW, .g l2 true false none (o1 (faddrG 0) l0) pushW, .g l3 true false none (o1 load1G l0) pushW, .g l4 true false none (o1 mvG r0) pushW, .g l5 true false none (o1 nilckG l0) pushW, .g l6 true false none (o1 (faddrG 0) l0) pushW, .g l7 true false none (o1 load1G l0) pushW, .g l8 true false none (o1 lenLG l0) pushW, .g l9 true false none (o2 (binG subB) l0 (ctK (.int .i64 (Int.ofNat 1)))) pushW, .g l10 true false none (o2 (iaddrG 12) l6 l0) pushW, .g l11 true false none (o1 (faddrG 10) l0) pushW, .g l12 true false none (o1 load1G l0) pushW, .g l13 true false none (o2 (eqG eqIV false) l0 (ctK (.int .i64 (Int.ofNat 3)))) pushW, .p (o3 pickG l14 l0 (ctK (.bool false))) w36] [])
 (.cond r36
 (.seq
 (.reg [.p (o1 mvG (ctK (.int .i64 (Int.ofNat 12)))) w10])
 .ret)
 .skip))
 (.seq
 (.seq
 (.reg [.p (o1 nilckG r0) pushW, .p (o1 (faddrG 0) l0) pushW, .p (o1 load1G l0) pushW, .p (o1 lenLG l0) pushW, .p (o2 (binG (cmpB .geq geI)) l0 (ctK (.int .i64 (Int.ofNat 12)))) w42])
 (.cond r42
 (.seq
 (.reg [.p (o1 mvG (ctK (.int .i64 (Int.ofNat 13)))) w10])
 .ret)
 .skip))
 (.seq
 (.drw [.p (o1 nilckG r0) pushW, .p (o1 (faddrG 0) l0) pushW, .p (o1 load1G l0) pushW, .p (o1 (loadnG 9) r7) pushW, .p (buildO [(.str 0 0), (.int .i64 (Int.ofNat 0)), (.int .i64 (Int.ofNat 0)), (.str 0 0), (.str 0 0), .snil, .snil, .snil, (.bool false), .snil, (.int .i64 (Int.ofNat 0)), (.str 0 0)] [(0, 1, r1), (1, 9, l0), (10, 1, r3), (11, 1, r4)]) pushW, .p (bslO 12 1 [(.str 0 0), (.int .i64 (Int.ofNat 0)), (.int .i64 (Int.ofNat 0)), (.str 0 0), (.str 0 0), .snil, .snil, .snil, (.bool false), .snil, (.int .i64 (Int.ofNat 0)), (.str 0 0)] [(0, 12, l0)]) pushW, .p (o2 (appG 12) l3 l0) pushW, .p (o1 nilckG r0) pushW, .p (o1 (faddrG 0) l0) pushW, .p (o2 (storeG 1) l0 l2) noW] [])
 (.seq
 (.reg [.p (o1 mvG (ctK (.int .i64 (Int.ofNat 0)))) w10])
 .ret))))) }
theorem kf48_ok : (compFn Tryz.prog Tryz.f48 [[0, 1, 3, 4, 7], [0, 1, 3, 4, 7]]).bind (toKFn [11, 12, 13, 14, 15, 16, 17, 18, 19, 20, 21, 22, 23, 24, 25, 26, 27, 28, 29, 30, 31, 32, 33, 34, 35, 37, 38, 39, 40, 41, 43, 44, 45, 46, 47, 48, 49, 50, 51, 52, 53, 54, 55, 56] 5) = some kf48 := by kernel_rfl
noncomputable def kf49 : KFn := { params := [w0, w1, w2], res := [(.s r6)], body :=
 (.seq
 (.reg [.p (o1 mvG (ctK (.int .i64 (Int.ofNat 0)))) w6])
 (.seq
 (.seq
 (.reg [.p (o1 nilckG r0) pushW, .p (o1 (faddrG 0) l0) pushW, .p (o1 load1G l0) pushW, .p (o1 lenLG l0) pushW, .p (o2 (eqG eqIV false) l0 (ctK (.int .i64 (Int.ofNat 0)))) w13])
 (.cond r13
 (.seq
 (.reg [.p (o1 mvG (ctK (.int .i64 (Int.ofNat 12)))) w6])
 .ret)
 .skip))
 (.seq
 (.drw [.p (o1 nilckG r0) pushW, .p (o1 (faddrG 0) l0) pushW, .p (o1 load1G l0) pushW, .p (o1 nilckG r0) pushW, .p (o1 (faddrG 0) l0) pushW, .p (o1 load1G l0) pushW, .p (o1 lenLG l0) pushW, .p (o2 (binG subB) l0 (ctK (.int .i64 (Int.ofNat 1)))) pushW, .p (o2 (iaddrG 12) l5 l0) pushW, .p (o1 mvG l0) w7] [])
 (.seq
 (.seq
 (.reg [.p (o1 nilckG r7) pushW, .p (o1 (faddrG 0) l0) pushW, .p (o1 load1G l0) pushW, .p (o2 (eqG eqSV false) l0 (ctK (.str 6 111524889126244))) pushW, .g l0 false false none (o1 mvG r7) pushW, .g l1 false false none (o1 nilckG l0) pushW, .g l2 false false none (o1 (faddrG 1) l0) pushW, .g l3 false false none (o1 (faddrG 7) l0) pushW, .g l4 false false none (o1 load1G l0) pushW, .p (o3 pickG l5 (ctK (.bool true)) l0) pushW, .g l0 false false none (o1 mvG r1) pushW, .g l1 false false none (o2 (eqG eqSV false) l0 (ctK (.str 4 1702060387))) pushW, .g l2 false false none (o1 mvG l0) pushW, .g l0 true false none (o1 mvG r7) pushW, .g l1 true false none (o1 nilckG l0) pushW, .g l2 true false none (o1 (faddrG 0) l0) pushW, .g l3 true false none (o1 load1G l0) pushW, .g l4 true false none (o2 (eqG eqSV true) l0 (ctK (.str 5 448345170285))) pushW, .g l8 false false none (o3 pickG l5 l0 (ctK (.bool false))) pushW, .p (o3 pickG l9 (ctK (.bool true)) l0) w47])
 (.cond r47
 (.seq
 (.reg [.p (o1 mvG (ctK (.int .i64 (Int.ofNat 12)))) w6])
 .ret)
 .skip))
 (.seq
 (.seq
 (.reg [.p (o2 (eqG eqSV false) r1 (ctK (.str 4 1702063205))) w49])
 (.cond r49
 (.seq
 (.reg [.p (o1 nilckG r7) pushW, .p (o1 (faddrG 1) l0) pushW, .p (o1 (faddrG 7) l0) pushW, .p (o2 (storeG 1) l0 (ctK (.bool true))) noW])
 (.seq
 (.reg [.p (o1 nilckG r7) pushW, .p (o1 (faddrG 10) l0) pushW, .p (o2 (storeG 1) l0 (ctK (.int .i64 (Int.ofNat 1)))) noW])
 (.seq
 (.reg [.p (o1 mvG (ctK (.int .i64 (Int.ofNat 0)))) w6])
 .ret)))
 .skip))
 (.seq
 (.reg [.p (o1 nilckG r7) pushW, .p (o1 (faddrG 1) l0) pushW, .p (o1 (faddrG 8) l0) pushW, .p (o1 load1G l0) pushW, .p (buildO [(.str 0 0), .snil] [(0, 1, r2)]) pushW, .p (bslO 2 1 [(.str 0 0), .snil] [(0, 2, l0)]) pushW, .p (o2 (appG 2) l2 l0) pushW, .p (o1 nilckG r7) pushW, .p (o1 (faddrG 1) l0) pushW, .p (o1 (faddrG 8) l0) pushW, .p (o2 (storeG 1) l0 l3) noW])
 (.seq
 (.reg [.p (o1 nilckG r7) pushW, .p (o1 (faddrG 10) l0) pushW, .p (o2 (storeG 1) l0 (ctK (.int .i64 (Int.ofNat 2)))) noW])
 (.seq
 (.reg [.p (o1 mvG (ctK (.int .i64 (Int.ofNat 0)))) w6])
 .ret)))))))) }
theorem kf49_ok : (compFn Tryz.prog Tryz.f49 [[0, 1, 2], [1, 2, 7], [2, 7]]).bind (toKFn [8, 9, 10, 11, 12, 14, 15, 16, 17, 18, 19, 20, 21, 22, 23, 24, 25, 26, 27, 28, 29, 30, 31, 32, 33, 34, 35, 36, 37, 38, 39, 40, 41, 42, 43, 44, 45, 46, 48, 50, 51, 52, 53, 54, 55, 56, 57, 58, 59, 60, 61, 62, 63, 64, 65, 66, 67, 68, 69, 70, 71, 72] 3) = some kf49 := by kernel_rfl
noncomputable def kf50 : KFn := { params := [w0], res := [(.s r2)], body :=
 (.seq
 (.reg [.p (o1 mvG (ctK (.int .i64 (Int.ofNat 0)))) w2])
 (.seq
 (.seq
 (.reg [.p (o1 nilckG r0) pushW, .p (o1 (faddrG 0) l0) pushW, .p (o1 load1G l0) pushW, .p (o1 lenLG l0) pushW, .p (o2 (eqG eqIV false) l0 (ctK (.int .i64 (Int.ofNat 0)))) w9])
 (.cond r9
 (.seq
 (.reg [.p (o1 mvG (ctK (.int .i64 (Int.ofNat 12)))) w2])
 .ret)
 .skip))
 (.seq
 (.drw [.p (o1 nilckG r0) pushW, .p (o1 (faddrG 0) l0) pushW, .p (o1 load1G l0) pushW, .p (o1 nilckG r0) pushW, .p (o1 (faddrG 0) l0) pushW, .p (o1 load1G l0) pushW, .p (o1 lenLG l0) pushW, .p (o2 (binG subB) l0 (ctK (.int .i64 (Int.ofNat 1)))) pushW, .p (o2 (iaddrG 12) l5 l0) pushW, .p (o1 (loadnG 12) l0) pushW, .p (allocO [(.str 0 0), (.int .i64 (Int.ofNat 0)), (.int .i64 (Int.ofNat 0)), (.str 0 0), (.str 0 0), .snil, .snil, .snil, (.bool false), .snil, (.int .i64 (Int.ofNat 0)), (.str 0 0)]) w3, .p (o2 (storeG 12) r3 l0) noW] [])
 (.seq
 (.drw [.p (o1 nilckG r0) pushW, .p (o1 (faddrG 0) l0) pushW, .p (o1 load1G l0) pushW, .p (o1 nilckG r0) pushW, .p (o1 (faddrG 0) l0) pushW, .p (o1 load1G l0) pushW, .p (o1 lenLG l0) pushW, .p (o2 (binG subB) l0 (ctK (.int .i64 (Int.ofNat 1)))) pushW, .p (cutLO 12 l5 none (some l0) none) pushW, .p (o1 nilckG r0) pushW, .p (o1 (faddrG 0) l0) pushW, .p (o2 (storeG 1) l0 l2) noW] [])
 (.seq
 (.seq
 (.reg [.p (o1 (faddrG 0) r3) pushW, .p (o1 load1G l0) pushW, .p (o2 (eqG eqSV false) l0 (ctK (.str 6 111524889126244))) w38])
 (.cond r38
 (.drw [.p (o1 nilckG r0) pushW, .p (o1 (faddrG 2) l0) pushW, .p (o1 load1G l0) pushW, .p (o1 (faddrG 11) r3) pushW, .p (o1 load1G l0) pushW, .p (o1 (faddrG 1) r3) pushW, .p (o1 (faddrG 5) l0) pushW, .p (o1 load1G l0) pushW, .p (buildO [(.str 0 0), .snil] [(0, 1, l3), (1, 1, l0)]) pushW, .p (bslO 2 1 [(.str 0 0), .snil] [(0, 2, l0)]) pushW, .p (o2 (appG 2) l7 l0) pushW, .p (o1 nilckG r0) pushW, .p (o1 (faddrG 2) l0) pushW, .p (o2 (storeG 1) l0 l2) noW] [])
 (.reg [.p (o1 (faddrG 1) r3) pushW, .p (o1 (loadnG 9) l0) pushW, .p (callO 31 [r0, l0]) pushW])))
 (.seq
 (.reg [.p (o1 mvG (ctK (.int .i64 (Int.ofNat 0)))) w2])
 .ret)))))) }
theorem kf50_ok : (compFn Tryz.prog Tryz.f50 [[0], []]).bind (toKFn [4, 5, 6, 7, 8, 10, 11, 12, 13, 14, 15, 16, 17, 18, 19, 20, 21, 22, 23, 24, 25, 26, 27, 28, 29, 30, 31, 32, 33, 34, 35, 36, 37, 39, 40, 41, 42, 43, 44, 45, 46, 47, 48, 49, 50, 51, 52, 53, 54, 55, 56, 57] 1) = some kf50 := by kernel_rfl
noncomputable def kf31 : KFn := { params := [w0, w1], res := [(.s r4)], body :=
 (.seq
 (.reg [.p (o1 boxG r1) w3, .p (o1 mvG (ctK (.bool false))) w4])
 (.seq
 (.seq
 (.reg [.p (o1 nilckG r0) pushW, .p (o1 (faddrG 0) l0) pushW, .p (o1 load1G l0) pushW, .p (o1 lenLG l0) pushW, .p (o2 (eqG eqIV false) l0 (ctK (.int .i64 (Int.ofNat 0)))) w12])
 (.cond r12
 (.seq
 (.drw [.p (o1 nilckG r0) pushW, .p (o1 (faddrG 1) l0) pushW, .p (o1 load1G l0) pushW, .p (o1 (loadnG 9) r3) pushW, .p (o1 lenLG l1) pushW, .p (bslO 9 1 [(.int .i64 (Int.ofNat 0)), (.int .i64 (Int.ofNat 0)), (.str 0 0), (.str 0 0), .snil, .snil, .snil, (.bool false), .snil] [(0, 9, (ctK (.agg [(.int .i64 (Int.ofNat 0)), (.int .i64 (Int.ofNat 0)), (.str 0 0), (.str 0 0), .snil, .snil, .snil, (.bool false), .snil])))]) pushW, .p (o2 (appG 9) l3 l0) pushW, .p (o2 (iaddrG 9) l0 l2) w21, .p (o2 (storeG 9) r21 l3) noW, .p (o1 nilckG r0) pushW, .p (o1 (faddrG 1) l0) w23, .p (o2 (storeG 1) r23 l1) noW] [([r21], [r23]), ([r23], [r21])])
 (.seq
 (.reg [.p (o1 mvG (ctK (.bool true))) w4])
 .ret))
 .skip))
 (.seq
 (.drw [.p (o1 nilckG r0) pushW, .p (o1 (faddrG 0) l0) pushW, .p (o1 load1G l0) pushW, .p (o1 nilckG r0) pushW, .p (o1 (faddrG 0) l0) pushW, .p (o1 load1G l0) pushW, .p (o1 lenLG l0) pushW, .p (o2 (binG subB) l0 (ctK (.int .i64 (Int.ofNat 1)))) pushW, .p (o2 (iaddrG 12) l5 l0) pushW, .p (o1 mvG l0) w5] [])
 (.seq
 (.seq
 (.reg [.p (o1 nilckG r5) pushW, .p (o1 (faddrG 10) l0) pushW, .p (o1 load1G l0) w38])
 (.block 0
 (.seq
 (.reg [.p (o2 (eqG eqIV false) r38 (ctK (.int .i64 (Int.ofNat 0)))) pushW, .p (o1 mvG l0) w39])
 (.cond r39
 (.drw [.p (o1 nilckG r5) pushW, .p (o1 (faddrG 1) l0) pushW, .p (o1 (faddrG 5) l0) pushW, .p (o1 load1G l0) pushW, .p (o1 (loadnG 9) r3) pushW, .p (o1 lenLG l1) pushW, .p (bslO 9 1 [(.int .i64 (Int.ofNat 0)), (.int .i64 (Int.ofNat 0)), (.str 0 0), (.str 0 0), .snil, .snil, .snil, (.bool false), .snil] [(0, 9, (ctK (.agg [(.int .i64 (Int.ofNat 0)), (.int .i64 (Int.ofNat 0)), (.str 0 0), (.str 0 0), .snil, .snil, .snil, (.bool false), .snil])))]) pushW, .p (o2 (appG 9) l3 l0) pushW, .p (o2 (iaddrG 9) l0 l2) w50, .p (o2 (storeG 9) r50 l3) noW, .p (o1 nilckG r5) pushW, .p (o1 (faddrG 1) l0) pushW, .p (o1 (faddrG 5) l0) w53, .p (o2 (storeG 1) r53 l2) noW] [([r50], [r53]), ([r53], [r50])])
 (.seq
 (.reg [.p (o2 (eqG eqIV false) r38 (ctK (.int .i64 (Int.ofNat 1)))) pushW, .p (o1 mvG l0) w54])
 (.cond r54
 (.drw [.p (o1 nilckG r5) pushW, .p (o1 (faddrG 1) l0) pushW, .p (o1 (faddrG 6) l0) pushW, .p (o1 load1G l0) pushW, .p (o1 (loadnG 9) r3) pushW, .p (o1 lenLG l1) pushW, .p (bslO 9 1 [(.int .i64 (Int.ofNat 0)), (.int .i64 (Int.ofNat 0)), (.str 0 0), (.str 0 0), .snil, .snil, .snil, (.bool false), .snil] [(0, 9, (ctK (.agg [(.int .i64 (Int.ofNat 0)), (.int .i64 (Int.ofNat 0)), (.str 0 0), (.str 0 0), .snil, .snil, .snil, (.bool false), .snil])))]) pushW, .p (o2 (appG 9) l3 l0) pushW, .p (o2 (iaddrG 9) l0 l2) w65, .p (o2 (storeG 9) r65 l3) noW, .p (o1 nilckG r5) pushW, .p (o1 (faddrG 1) l0) pushW, .p (o1 (faddrG 6) l0) w68, .p (o2 (storeG 1) r68 l2) noW] [([r65], [r68]), ([r68], [r65])])
 (.seq
 (.reg [.p (o2 (eqG eqIV false) r38 (ctK (.int .i64 (Int.ofNat 2)))) pushW, .p (o1 mvG l0) w69])
 (.cond r69
 (.seq
 (.drw [.p (o1 nilckG r5) pushW, .p (o1 (faddrG 1) l0) pushW, .p (o1 (faddrG 8) l0) pushW, .p (o1 load1G l0) pushW, .p (o1 nilckG r5) pushW, .p (o1 (faddrG 1) l0) pushW, .p (o1 (faddrG 8) l0) pushW, .p (o1 load1G l0) pushW, .p (o1 lenLG l0) pushW, .p (o2 (binG subB) l0 (ctK (.int .i64 (Int.ofNat 1)))) pushW, .p (o2 (iaddrG 2) l6 l0) pushW, .p (o1 mvG l0) w6] [])
 (.drw [.p (o1 nilckG r6) pushW, .p (o1 (faddrG 1) l0) pushW, .p (o1 load1G l0) pushW, .p (o1 (loadnG 9) r3) pushW, .p (o1 lenLG l1) pushW, .p (bslO 9 1 [(.int .i64 (Int.ofNat 0)), (.int .i64 (Int.ofNat 0)), (.str 0 0), (.str 0 0), .snil, .snil, .snil, (.bool false), .snil] [(0, 9, (ctK (.agg [(.int .i64 (Int.ofNat 0)), (.int .i64 (Int.ofNat 0)), (.str 0 0), (.str 0 0), .snil, .snil, .snil, (.bool false), .snil])))]) pushW, .p (o2 (appG 9) l3 l0) pushW, .p (o2 (iaddrG 9) l0 l2) w92, .p (o2 (storeG 9) r92 l3) noW, .p (o1 nilckG r6) pushW, .p (o1 (faddrG 1) l0) w94, .p (o2 (storeG 1) r94 l1) noW] [([r92], [r94]), ([r94], [r92])]))
 (.seq
 (.reg [.p (o1 mvG (ctK (.bool false))) w4])
 .ret)))))))))
 (.seq
 (.reg [.p (o1 mvG (ctK (.bool true))) w4])
 .ret))))) }
theorem kf31_ok : (compFn Tryz.prog Tryz.f31 [[0, 3], []]).bind (toKFn [7, 8, 9, 10, 11, 13, 14, 15, 16, 17, 18, 19, 20, 22, 24, 25, 26, 27, 28, 29, 30, 31, 32, 33, 34, 35, 36, 37, 40, 41, 42, 43, 44, 45, 46, 47, 48, 49, 51, 52, 55, 56, 57, 58, 59, 60, 61, 62, 63, 64, 66, 67, 70, 71, 72, 73, 74, 75, 76, 77, 78, 79, 80, 81, 82, 83, 84, 85, 86, 87, 88, 89, 90, 91, 93] 2) = some kf31 := by kernel_rfl
noncomputable def kf51 : KFn := { params := [w0, w1], res := [(.s r4)], body :=
 (.seq
 (.reg [.p (o1 mvG (ctK (.int .i64 (Int.ofNat 0)))) w4])
 (.seq
 (.seq
 (.reg [.p (o1 nilckG r0) pushW, .p (o1 (faddrG 0) l0) pushW, .p (o1 load1G l0) pushW, .p (o1 lenLG l0) pushW, .p (o2 (binG (cmpB .gtr gtI)) l0 (ctK (.int .i64 (Int.ofNat 0)))) w11])
 (.cond r11
 (.seq
 (.reg [.p (o1 mvG (ctK (.int .i64 (Int.ofNat 12)))) w4])
 .ret)
 .skip))
 (.seq
 (.seq
 (.reg [.p (callO 52 [r1]) pushW, .p (o1 notG l0) w14])
 (.cond r14
 (.seq
 (.reg [.p (o1 mvG (ctK (.int .i64 (Int.ofNat 15)))) w4])
 .ret)
 .skip))
 (.seq
 (.seq
 (.reg [.p (o1 mvG (ctK (.int .i64 (Int.ofNat 0)))) w5])
 (.block 0
 (.loop
 (.seq
 (.seq
 (.reg [.p (o1 nilckG r0) pushW, .p (o1 (faddrG 2) l0) pushW, .p (o1 load1G l0) pushW, .p (o1 lenLG l0) pushW, .p (o2 (binG (cmpB .lss ltI)) r5 l0) w21])
 (.cond r21
 .skip
 (.exit 0)))
 (.seq
 (.block 1
 (.seq
 (.reg [.p (o1 nilckG r0) pushW, .p (o1 (faddrG 2) l0) pushW, .p (o1 load1G l0) pushW, .p (o2 (iaddrG 2) l0 r5) pushW, .p (o1 (faddrG 0) l0) pushW, .p (o1 load1G l0) pushW, .p (o2 (eqG eqSV false) l0 r1) w33])
 (.cond r33
 (.seq
 (.reg [.p (o1 mvG (ctK (.int .i64 (Int.ofNat 6)))) w4])
 .ret)
 .skip)))
 (.reg [.p (o1 mvG r5) pushW, .p (o2 (binG addB) l0 (ctK (.int .i64 (Int.ofNat 1)))) pushW, .p (o1 mvG l0) w5]))))))
 (.seq
 (.seq
 (.reg [.p (o1 nilckG r0) pushW, .p (o1 (faddrG 2) l0) pushW, .p (o1 load1G l0) pushW, .p (o1 lenLG l0) pushW, .p (o2 (binG (cmpB .geq geI)) l0 (ctK (.int .i64 (Int.ofNat 12)))) w39])
 (.cond r39
 (.seq
 (.reg [.p (o1 mvG (ctK (.int .i64 (Int.ofNat 3)))) w4])
 .ret)
 .skip))
 (.seq
 (.reg [.p (buildO [(.int .i64 (Int.ofNat 0)), (.int .i64 (Int.ofNat 0)), (.str 0 0), (.str 0 0), .snil, .snil, .snil, (.bool false), .snil] []) pushW, .p (callO 48 [r0, (ctK (.str 6 111524889126244)), l0, (ctK (.int .i64 (Int.ofNat 0))), r1]) pushW, .p (o1 mvG l0) w4])
 .ret)))))) }
theorem kf51_ok : (compFn Tryz.prog Tryz.f51 [[0, 1], [0, 1], [0, 1], [0, 1, 5], [0, 1, 5], [0, 1, 5], [0, 1]]).bind (toKFn [6, 7, 8, 9, 10, 12, 13, 15, 16, 17, 18, 19, 20, 22, 23, 24, 25, 26, 27, 28, 29, 30, 31, 32, 34, 35, 36, 37, 38, 40, 41, 42, 43] 2) = some kf51 := by kernel_rfl
noncomputable def kf52 : KFn := { params := [w0], res := [(.s r2)], body :=
 (.seq
 (.reg [.p (o1 mvG (ctK (.bool false))) w2])
 (.seq
 (.seq
 (.reg [.p (o1 lenSG r0) pushW, .p (o2 (eqG eqIV false) l0 (ctK (.int .i64 (Int.ofNat 0)))) pushW, .g l0 false false none (o1 mvG r0) pushW, .g l1 false false none (o1 lenSG l0) pushW, .g l2 false false none (o2 (binG (cmpB .gtr gtI)) l0 (ctK (.int .i64 (Int.ofNat 16)))) pushW, .p (o3 pickG l3 (ctK (.bool true)) l0) pushW, .g l0 false false none (o1 mvG r0) pushW, .g l1 false false none (o2 idxG l0 (ctK (.int .i64 (Int.ofNat 0)))) pushW, .g l2 false false none (callO 70 [l0]) pushW, .g l3 false false none (o1 notG l0) pushW, .p (o3 pickG l4 (ctK (.bool true)) l0) w17])
 (.cond r17
 (.seq
 (.reg [.p (o1 mvG (ctK (.bool false))) w2])
 .ret)
 .skip))
 (.seq
 (.seq
 (.reg [.p (o1 mvG (ctK (.int .i64 (Int.ofNat 0)))) w3])
 (.block 0
 (.loop
 (.seq
 (.seq
 (.reg [.p (o1 lenSG r0) pushW, .p (o2 (binG (cmpB .lss ltI)) r3 l0) w21])
 (.cond r21
 .skip
 (.exit 0)))
 (.seq
 (.block 1
 (.seq
 (.reg [.p (o2 idxG r0 r3) pushW, .p (callO 70 [l0]) pushW, .p (o1 notG l0) pushW, .g l0 true false none (o1 mvG r0) pushW, .g l1 true false none (o1 mvG r3) pushW, .g l2 true false none (o2 idxG l1 l0) pushW, .g l3 true false none (callO 71 [l0]) pushW, .g l4 true false none (o1 notG l0) pushW, .p (o3 pickG l5 l0 (ctK (.bool false))) w35])
 (.cond r35
 (.seq
 (.reg [.p (o1 mvG (ctK (.bool false))) w2])
 .ret)
 .skip)))
 (.reg [.p (o1 mvG r3) pushW, .p (o2 (binG addB) l0 (ctK (.int .i64 (Int.ofNat 1)))) pushW, .p (o1 mvG l0) w3]))))))
 (.seq
 (.reg [.p (o1 mvG (ctK (.bool true))) w2])
 .ret)))) }
theorem kf52_ok : (compFn Tryz.prog Tryz.f52 [[0], [], [0, 3], [0, 3], [0, 3]]).bind (toKFn [4, 5, 6, 7, 8, 9, 10, 11, 12, 13, 14, 15, 16, 18, 19, 20, 22, 23, 24, 25, 26, 27, 28, 29, 30, 31, 32, 33, 34] 1) = some kf52 := by kernel_rfl
noncomputable def kf12 : KFn := { params := [w0, w1], res := [(.s r4)], body :=
 (.seq
 (.reg [.p (o1 boxG r1) w3, .p (o1 mvG (ctK (.int .i64 (Int.ofNat 0)))) w4])
 (.seq
 (.reg [.p (o1 (faddrG 2) r3) pushW, .p (o1 load1G l0) pushW, .p (o1 (faddrG 1) r3) pushW, .p (o1 load1G l0) pushW, .p (buildO [(.int .i64 (Int.ofNat 0)), (.int .i64 (Int.ofNat 0)), (.str 0 0), (.str 0 0), .snil, .snil, .snil, (.bool false), .snil] [(0, 1, (ctK (.int .i64 (Int.ofNat 1)))), (1, 1, l2), (2, 1, l0)]) pushW, .p (allocO [(.int .i64 (Int.ofNat 0)), (.int .i64 (Int.ofNat 0)), (.str 0 0), (.str 0 0), .snil, .snil, .snil, (.bool false), .snil]) w5, .p (o2 (storeG 9) r5 l0) noW])
 (.seq
 (.seq
 (.reg [.p (o1 (loadnG 9) r5) pushW, .p (callO 31 [r0, l0]) pushW, .g l0 false false none (o1 (faddrG 1) r3) pushW, .g l1 false false none (o1 load1G l0) pushW, .g l2 false false none (callO 32 [l0]) pushW, .p (o3 pickG l3 (ctK (.bool true)) l0) w18])
 (.cond r18
 (.seq
 (.reg [.p (o1 mvG (ctK (.int .i64 (Int.ofNat 0)))) w4])
 .ret)
 .skip))
 (.seq
 (.reg [.p (o1 mvG (ctK (.int .i64 (Int.ofNat 12)))) w4])
 .ret)))) }
theorem kf12_ok : (compFn Tryz.prog Tryz.f12 [[]]).bind (toKFn [6, 7, 8, 9, 10, 11, 12, 13, 14, 15, 16, 17] 2) = some kf12 := by kernel_rfl
noncomputable def kf32 : KFn := { params := [w0], res := [(.s r2)], body :=
 (.seq
 (.reg [.p (o1 mvG (ctK (.bool false))) w2])
 (.seq
 (.seq
 (.reg [.p (o1 mvG (ctK (.int .i64 (Int.ofNat 0)))) w3])
 (.block 0
 (.loop
 (.seq
 (.seq
 (.reg [.p (o1 lenSG r0) pushW, .p (o2 (binG (cmpB .lss ltI)) r3 l0) w7])
 (.cond r7
 .skip
 (.exit 0)))
 (.seq
 (.block 1
 (.seq
 (.reg [.p (o2 idxG r0 r3) pushW, .p (o2 (eqG eqIV true) l0 (ctK (.int .u8 (Int.ofNat 32)))) pushW, .g l0 true false none (o1 mvG r0) pushW, .g l1 true false none (o1 mvG r3) pushW, .g l2 true false none (o2 idxG l1 l0) pushW, .g l3 true false none (o2 (eqG eqIV true) l0 (ctK (.int .u8 (Int.ofNat 9)))) pushW, .p (o3 pickG l4 l0 (ctK (.bool false))) pushW, .g l0 true false none (o1 mvG r0) pushW, .g l1 true false none (o1 mvG r3) pushW, .g l2 true false none (o2 idxG l1 l0) pushW, .g l3 true false none (o2 (eqG eqIV true) l0 (ctK (.int .u8 (Int.ofNat 10)))) pushW, .p (o3 pickG l4 l0 (ctK (.bool false))) pushW, .g l0 true false none (o1 mvG r0) pushW, .g l1 true false none (o1 mvG r3) pushW, .g l2 true false none (o2 idxG l1 l0) pushW, .g l3 true false none (o2 (eqG eqIV true) l0 (ctK (.int .u8 (Int.ofNat 13)))) pushW, .p (o3 pickG l4 l0 (ctK (.bool false))) w31])
 (.cond r31
 (.seq
 (.reg [.p (o1 mvG (ctK (.bool false))) w2])
 .ret)
 .skip)))
 (.reg [.p (o1 mvG r3) pushW, .p (o2 (binG addB) l0 (ctK (.int .i64 (Int.ofNat 1)))) pushW, .p (o1 mvG l0) w3]))))))
 (.seq
 (.reg [.p (o1 mvG (ctK (.bool true))) w2])
 .ret))) }
theorem kf32_ok : (compFn Tryz.prog Tryz.f32 [[], [0, 3], [0, 3], [0, 3]]).bind (toKFn [4, 5, 6, 8, 9, 10, 11, 12, 13, 14, 15, 16, 17, 18, 19, 20, 21, 22, 23, 24, 25, 26, 27, 28, 29, 30] 1) = some kf32 := by kernel_rfl
noncomputable def kf8 : KFn := { params := [w0, w1], res := [(.s r4), (.cn r5 3)], body :=
 (.seq
 (.reg [.p (o1 boxG r0) w2, .p (o1 mvG (ctK .pnil)) w4, .p (allocO [(.int .i64 (Int.ofNat 0)), (.str 0 0), (.int .i64 (Int.ofNat 0))]) w5])
 (.seq
 (.reg [.p (o1 (loadnG 6) r2) pushW, .p (callO 13 [l0]) pushW, .p (o1 (extG 0) l0) pushW, .p (o1 (extG 1) l1) pushW, .p (o1 mvG l1) w6, .p (o1 mvG l0) w7])
 (.seq
 (.seq
 (.reg [.p (o2 (eqG eqIV true) r7 (ctK (.int .i64 (Int.ofNat 0)))) w29])
 (.cond r29
 (.seq
 (.reg [.p (buildO [(.int .i64 (Int.ofNat 0)), (.str 0 0), (.int .i64 (Int.ofNat 0))] [(0, 1, r7)]) pushW, .p (o1 mvG (ctK .pnil)) w4, .p (o2 (storeG 3) r5 l0) noW])
 .ret)
 .skip))
 (.seq
 (.reg [.p (o1 (loadnG 6) r2) pushW, .p (callO 14 [l0]) pushW, .p (callO 15 [r1]) pushW, .p (callO 16 [r6]) pushW, .p (buildO [(.str 0 0), (.int .i64 (Int.ofNat 0))] [(1, 1, l0)]) pushW, .p (bslO 2 1 [(.str 0 0), (.int .i64 (Int.ofNat 0))] [(0, 2, l0)]) pushW, .p (buildO [(.int .i64 (Int.ofNat 0)), (.str 0 0), .snil, .snil, .snil, .snil, .snil, .pnil, .snil] [(0, 6, l4), (6, 1, l3), (7, 1, r6), (8, 1, l0)]) pushW, .p (o1 boxG l0) pushW, .p (o1 mvG l0) w8])
 (.seq
 (.reg [.p mkmapO pushW, .p (o1 mvG l0) w9])
 (.seq
 (.reg [.p (o1 mvG (ctK .snil)) w10])
 (.seq
 (.seq
 (.reg [.p (o1 mvG r1) w44, .p (o1 lenLG r44) w45, .p (o1 mvG (ctK (.int .i64 (Int.ofNat 0)))) w46])
 (.block 0
 (.loop
 (.seq
 (.reg [.p (o2 (binG (cmpB .lss ltI)) r46 r45) w47])
 (.seq
 (.cond r47
 .skip
 (.exit 0))
 (.seq
 (.block 1
 (.seq
 (.reg [.p (o2 (iaddrG 2) r44 r46) pushW, .p (o1 (loadnG 2) l0) pushW, .p (allocO [(.str 0 0), .snil]) w12, .p (o1 mvG r46) w11, .p (o2 (storeG 2) r12 l0) noW])
 (.seq
 (.seq
 (.reg [.p (o1 (faddrG 0) r12) pushW, .p (o1 load1G l0) pushW, .p (o2 (lookupG (.one .s) .snil true) r9 l0) pushW, .p (o1 (extG 0) l0) pushW, .p (o1 (extG 1) l1) pushW, .p (o1 mvG l0) w14])
 (.seq
 (.reg [.p (o1 notG r14) w59])
 (.cond r59
 (.reg [.p (o1 (faddrG 0) r12) pushW, .p (o1 load1G l0) pushW, .p (o1 (faddrG 1) r12) pushW, .p (o1 load1G l0) pushW, .p (o3 (mupdG (.one .s)) r9 l2 l0) noW])
 .skip)))
 (.seq
 (.reg [.p (o2 (binG (cmpB .gtr gtI)) r11 (ctK (.int .i64 (Int.ofNat 0)))) w66])
 (.cond r66
 (.reg [.p (o1 mvG r10) pushW, .p (o1 (faddrG 0) r12) pushW, .p (o1 load1G l0) pushW, .p (bslO 1 1 [(.str 0 0)] [(0, 1, l0)]) pushW, .p (o2 (appG 1) l3 l0) pushW, .p (o1 mvG l0) w10])
 .skip)))))
 (.reg [.p (o2 (binG addB) r46 (ctK (.int .i64 (Int.ofNat 1)))) pushW, .p (o1 mvG l0) w46])))))))
 (.seq
 (.reg [.p mkmapO pushW, .p (o1 nilckG r8) pushW, .p (o1 (faddrG 8) l0) pushW, .p (o1 load1G l0) pushW, .p (o2 (iaddrG 2) l0 (ctK (.int .i64 (Int.ofNat 0)))) pushW, .p (o1 (loadnG 2) l0) pushW, .p (o3 (mupdG (.many [.s, .i])) l5 l0 (ctK (.int .i64 (Int.ofNat 1)))) noW, .p (o1 mvG l5) w15])
 (.seq
 (.seq
 (.reg [.p (o1 mvG (ctK (.int .i64 (Int.ofNat 0)))) w16])
 (.block 2
 (.loop
 (.seq
 (.seq
 (.reg [.p (o1 nilckG r8) pushW, .p (o1 (faddrG 8) l0) pushW, .p (o1 load1G l0) pushW, .p (o1 lenLG l0) pushW, .p (o2 (binG (cmpB .lss ltI)) r16 l0) w87])
 (.cond r87
 .skip
 (.exit 2)))
 (.seq
 (.block 3
 (.seq
 (.reg [.p (o1 nilckG r8) pushW, .p (o1 (faddrG 8) l0) pushW, .p (o1 load1G l0) pushW, .p (o2 (iaddrG 2) l0 r16) pushW, .p (o1 (loadnG 2) l0) pushW, .p (allocO [(.str 0 0), (.int .i64 (Int.ofNat 0))]) w17, .p (o2 (storeG 2) r17 l0) noW])
 (.seq
 (.reg [.p (o1 (faddrG 1) r17) pushW, .p (o1 load1G l0) pushW, .p (o1 (faddrG 0) r17) pushW, .p (o1 load1G l0) pushW, .p (o2 (lookupG (.one .s) .snil false) r9 l0) pushW, .p (callO 17 [r6, r10, l3, l0]) pushW, .p (o1 (extG 0) l0) pushW, .p (o1 (extG 1) l1) pushW, .p (o1 (extG 2) l2) pushW, .p (o1 mvG l2) w18, .p (o1 mvG l1) w19, .p (o1 mvG l0) w20])
 (.seq
 (.seq
 (.reg [.p (o2 (eqG eqIV true) r20 (ctK (.int .i64 (Int.ofNat 0)))) w111])
 (.cond r111
 (.seq
 (.drw [.p (o1 (faddrG 0) r17) pushW, .p (o1 load1G l0) pushW, .p (buildO [(.int .i64 (Int.ofNat 0)), (.str 0 0), (.int .i64 (Int.ofNat 0))] [(0, 1, r20), (1, 1, l0), (2, 1, r19)]) pushW, .p (o1 mvG (ctK .pnil)) w4, .p (o2 (storeG 3) r5 l0) noW] [])
 .ret)
 .skip))
 (.seq
 (.reg [.p (o1 mvG r18) w117, .p (o1 lenLG r117) w118, .p (o1 mvG (ctK (.int .i64 (Int.ofNat 0)))) w119])
 (.block 4
 (.loop
 (.seq
 (.reg [.p (o2 (binG (cmpB .lss ltI)) r119 r118) w120])
 (.seq
 (.cond r120
 .skip
 (.exit 4))
 (.seq
 (.block 5
 (.seq
 (.reg [.p (o2 (iaddrG 2) r117 r119) pushW, .p (o1 (loadnG 2) l0) pushW, .p (allocO [(.str 0 0), (.int .i64 (Int.ofNat 0))]) w22, .p (o2 (storeG 2) r22 l0) noW])
 (.seq
 (.drw [.p (o1 (loadnG 2) r22) pushW, .p (o2 (lookupG (.many [.s, .i]) (.int .i64 (Int.ofNat 0)) false) r15 l0) pushW, .p (o2 (binG addB) l0 (ctK (.int .i64 (Int.ofNat 1)))) pushW, .p (o2 (mentG (.many [.s, .i]) (.int .i64 (Int.ofNat 0))) r15 l2) pushW, .p (o1 (extG 1) l0) pushW, .p (o3 estsG r15 l0 l2) noW] [])
 (.seq
 (.reg [.p (o1 (loadnG 2) r22) pushW, .p (o2 (lookupG (.many [.s, .i]) (.int .i64 (Int.ofNat 0)) false) r15 l0) pushW, .p (o2 (eqG eqIV false) l0 (ctK (.int .i64 (Int.ofNat 1)))) w132])
 (.cond r132
 (.drw [.p (o1 nilckG r8) pushW, .p (o1 (faddrG 8) l0) pushW, .p (o1 load1G l0) pushW, .p (o1 (loadnG 2) r22) pushW, .p (bslO 2 1 [(.str 0 0), (.int .i64 (Int.ofNat 0))] [(0, 2, l0)]) pushW, .p (o2 (appG 2) l2 l0) pushW, .p (o1 nilckG r8) pushW, .p (o1 (faddrG 8) l0) pushW, .p (o2 (storeG 1) l0 l2) noW] [])
 .skip)))))
 (.reg [.p (o2 (binG addB) r119 (ctK (.int .i64 (Int.ofNat 1)))) pushW, .p (o1 mvG l0) w119])))))))))))
 (.reg [.p (o1 mvG r16) pushW, .p (o2 (binG addB) l0 (ctK (.int .i64 (Int.ofNat 1)))) pushW, .p (o1 mvG l0) w16]))))))
 (.seq
 (.reg [.p (buildO [(.int .i64 (Int.ofNat 0)), (.str 0 0), (.int .i64 (Int.ofNat 0))] []) pushW, .p (o1 mvG r8) w4, .p (o2 (storeG 3) r5 l0) noW])
 .ret)))))))))) }
theorem kf8_ok : (compFn Tryz.prog Tryz.f8 [[1, 2, 5, 6], [5, 6, 8, 9, 10], [5, 6, 8, 9, 10, 44, 45, 46], [5, 6, 8, 9, 10, 44, 45, 46], [5, 6, 8, 9, 10, 44, 45, 46], [5, 6, 8, 9, 10, 11, 12, 44, 45, 46], [5, 8], [5, 6, 8, 9, 10, 15, 16], [5, 6, 8, 9, 10, 15, 16], [5, 6, 8, 9, 10, 15, 16], [5, 6, 8, 9, 10, 15, 16, 18], [5, 6, 8, 9, 10, 15, 16, 117, 118, 119], [5, 6, 8, 9, 10, 15, 16, 117, 118, 119], [5, 6, 8, 9, 10, 15, 16, 117, 118, 119]]).bind (toKFn [13, 23, 24, 25, 26, 27, 28, 30, 31, 32, 33, 34, 35, 36, 37, 38, 39, 40, 41, 42, 43, 48, 49, 50, 51, 52, 53, 54, 55, 56, 57, 58, 60, 61, 62, 63, 64, 65, 67, 68, 69, 70, 71, 72, 73, 74, 75, 76, 77, 78, 79, 80, 81, 82, 83, 84, 85, 86, 88, 89, 90, 91, 92, 93, 94, 95, 96, 97, 98, 99, 100, 101, 102, 103, 104, 105, 106, 107, 108, 109, 110, 112, 113, 114, 115, 116, 121, 122, 123, 124, 125, 126, 127, 128, 129, 130, 131, 133, 134, 135, 136, 137, 138, 139, 140, 141, 142, 143, 144, 145] 2) = some kf8 := by kernel_rfl
noncomputable def kf13 : KFn := { params := [w0], res := [(.s r2), (.s r3)], body :=
 (.seq
 (.reg [.p (o1 boxG r0) w1, .p (o1 mvG (ctK .pnil)) w2, .p (o1 mvG (ctK (.int .i64 (Int.ofNat 0)))) w3])
 (.seq
 (.seq
 (.reg [.p (o1 (loadnG 6) r1) pushW, .p (callO 33 [l0]) pushW, .p (o1 mvG l0) w4])
 (.seq
 (.reg [.p (o2 (eqG eqIV true) r4 (ctK (.int .i64 (Int.ofNat 0)))) w22])
 (.cond r22
 (.seq
 (.reg [.p (o1 mvG (ctK .pnil)) w2, .p (o1 mvG r4) w3])
 .ret)
 .skip)))
 (.seq
 (.reg [.p mkmapO pushW, .p mkmapO pushW, .p mkmapO pushW, .p (buildO [.snil, .mnil, .mnil, (.int .i64 (Int.ofNat 0)), .mnil] [(1, 1, l2), (2, 1, l1), (4, 1, l0)]) pushW, .p (o1 boxG l0) pushW, .p (o1 mvG l0) w5])
 (.seq
 (.seq
 (.reg [.p (o1 (faddrG 4) r1) pushW, .p (o1 load1G l0) w30, .p (o1 lenLG r30) w31, .p (o1 mvG (ctK (.int .i64 (Int.ofNat 0)))) w32])
 (.block 0
 (.loop
 (.seq
 (.reg [.p (o2 (binG (cmpB .lss ltI)) r32 r31) w33])
 (.seq
 (.cond r33
 .skip
 (.exit 0))
 (.seq
 (.block 1
 (.seq
 (.reg [.p (o2 (iaddrG 5) r30 r32) pushW, .p (o1 (loadnG 5) l0) pushW, .p (allocO [(.str 0 0), (.int .i64 (Int.ofNat 0)), (.str 0 0), .snil, .snil]) w7, .p (o2 (storeG 5) r7 l0) noW])
 (.seq
 (.reg [.p (o1 (faddrG 1) r7) pushW, .p (o1 (loadnG 4) l0) pushW, .p (callO 34 [r5, l0]) pushW, .p (o1 (extG 0) l0) pushW, .p (o1 (extG 1) l1) pushW, .p (o1 mvG l1) w8, .p (o1 mvG l0) w9])
 (.seq
 (.seq
 (.reg [.p (o2 (eqG eqIV true) r9 (ctK (.int .i64 (Int.ofNat 0)))) w44])
 (.cond r44
 (.seq
 (.reg [.p (o1 mvG (ctK .pnil)) w2, .p (o1 mvG r9) w3])
 .ret)
 .skip))
 (.drw [.p (o1 nilckG r5) pushW, .p (o1 (faddrG 2) l0) pushW, .p (o1 load1G l0) pushW, .p (o1 (faddrG 0) r7) pushW, .p (o1 load1G l0) pushW, .p (o3 (mupdG (.one .s)) l2 l0 r8) noW] [])))))
 (.reg [.p (o2 (binG addB) r32 (ctK (.int .i64 (Int.ofNat 1)))) pushW, .p (o1 mvG l0) w32])))))))
 (.seq
 (.reg [.p (o1 (faddrG 0) r1) pushW, .p (o1 (loadnG 4) l0) pushW, .p (callO 34 [r5, l0]) pushW, .p (o1 (extG 0) l0) pushW, .p (o1 (extG 1) l1) pushW, .p (o1 mvG l1) w10, .p (o1 mvG l0) w11])
 (.seq
 (.seq
 (.reg [.p (o2 (eqG eqIV true) r11 (ctK (.int .i64 (Int.ofNat 0)))) w62])
 (.cond r62
 (.seq
 (.reg [.p (o1 mvG (ctK .pnil)) w2, .p (o1 mvG r11) w3])
 .ret)
 .skip))
 (.seq
 (.reg [.p (o1 nilckG r5) pushW, .p (o1 (faddrG 3) l0) pushW, .p (o2 (storeG 1) l0 r10) noW])
 (.seq
 (.seq
 (.reg [.p (o1 (faddrG 5) r1) pushW, .p (o1 load1G l0) w69, .p (o1 lenLG r69) w70, .p (o1 mvG (ctK (.int .i64 (Int.ofNat 0)))) w71])
 (.block 2
 (.loop
 (.seq
 (.reg [.p (o2 (binG (cmpB .lss ltI)) r71 r70) w72])
 (.seq
 (.cond r72
 .skip
 (.exit 2))
 (.seq
 (.block 3
 (.seq
 (.reg [.p (o2 (iaddrG 6) r69 r71) pushW, .p (o1 (loadnG 6) l0) pushW, .p (allocO [(.str 0 0), .snil, (.int .i64 (Int.ofNat 0)), (.str 0 0), .snil, .snil]) w13, .p (o2 (storeG 6) r13 l0) noW])
 (.seq
 (.reg [.p (o1 (faddrG 1) r13) pushW, .p (o1 load1G l0) pushW, .p (o1 lenLG l0) pushW, .p (o2 (binG addB) l0 (ctK (.int .i64 (Int.ofNat 1)))) pushW, .p (o2 (mkslG 1 [(.int .i64 (Int.ofNat 0))]) (ctK (.int .i64 (Int.ofNat 0))) l0) pushW, .p (o1 mvG l0) w14])
 (.seq
 (.seq
 (.drw [.p (o1 (faddrG 1) r13) pushW, .p (o1 load1G l0) pushW, .m (callO 35 [l0]) pushW none, .p (o1 (faddrG 2) r13) pushW, .p (o1 (loadnG 4) l0) pushW, .p (bslO 4 1 [(.int .i64 (Int.ofNat 0)), (.str 0 0), .snil, .snil] [(0, 4, l0)]) pushW, .p (o2 (appG 4) l3 l0) w86, .p (o1 lenLG r86) w87, .p (o1 mvG (ctK (.int .i64 (Int.ofNat 0)))) w88] [])
 (.block 4
 (.loop
 (.seq
 (.reg [.p (o2 (binG (cmpB .lss ltI)) r88 r87) w89])
 (.seq
 (.cond r89
 .skip
 (.exit 4))
 (.seq
 (.block 5
 (.seq
 (.reg [.p (o2 (iaddrG 4) r86 r88) pushW, .p (o1 (loadnG 4) l0) pushW, .p (allocO [(.int .i64 (Int.ofNat 0)), (.str 0 0), .snil, .snil]) w16, .p (o2 (storeG 4) r16 l0) noW])
 (.seq
 (.reg [.p (o1 (loadnG 4) r16) pushW, .p (callO 34 [r5, l0]) pushW, .p (o1 (extG 0) l0) pushW, .p (o1 (extG 1) l1) pushW, .p (o1 mvG l1) w17, .p (o1 mvG l0) w18])
 (.seq
 (.seq
 (.reg [.p (o2 (eqG eqIV true) r18 (ctK (.int .i64 (Int.ofNat 0)))) w99])
 (.cond r99
 (.seq
 (.reg [.p (o1 mvG (ctK .pnil)) w2, .p (o1 mvG r18) w3])
 .ret)
 .skip))
 (.reg [.p (o1 mvG r14) pushW, .p (bslO 1 1 [(.int .i64 (Int.ofNat 0))] [(0, 1, r17)]) pushW, .p (o2 (appG 1) l1 l0) pushW, .p (o1 mvG l0) w14])))))
 (.reg [.p (o2 (binG addB) r88 (ctK (.int .i64 (Int.ofNat 1)))) pushW, .p (o1 mvG l0) w88])))))))
 (.drw [.p (o1 nilckG r5) pushW, .p (o1 (faddrG 4) l0) pushW, .p (o1 load1G l0) pushW, .p (o1 (faddrG 0) r13) pushW, .p (o1 load1G l0) pushW, .p (o3 (mupdG (.one .s)) l2 l0 r14) noW] [])))))
 (.reg [.p (o2 (binG addB) r71 (ctK (.int .i64 (Int.ofNat 1)))) pushW, .p (o1 mvG l0) w71])))))))
 (.seq
 (.reg [.p (o1 mvG r5) w2, .p (o1 mvG (ctK (.int .i64 (Int.ofNat 0)))) w3])
 .ret))))))))) }
theorem kf13_ok : (compFn Tryz.prog Tryz.f13 [[1], [1, 5], [1, 5, 30, 31, 32], [1, 5, 30, 31, 32], [1, 5, 30, 31, 32], [1, 5, 7, 8, 30, 31, 32], [1, 5, 10], [5], [5, 69, 70, 71], [5, 69, 70, 71], [5, 69, 70, 71], [5, 13, 14, 69, 70, 71], [5, 13, 14, 69, 70, 71, 86, 87, 88], [5, 13, 14, 69, 70, 71, 86, 87, 88], [5, 13, 14, 69, 70, 71, 86, 87, 88], [5, 13, 14, 17, 69, 70, 71, 86, 87, 88]]).bind (toKFn [19, 20, 21, 23, 24, 25, 26, 27, 28, 29, 34, 35, 36, 37, 38, 39, 40, 41, 42, 43, 45, 46, 47, 48, 49, 50, 51, 52, 53, 54, 55, 56, 57, 58, 59, 60, 61, 63, 64, 65, 66, 67, 68, 73, 74, 75, 76, 77, 78, 79, 80, 81, 82, 83, 84, 85, 90, 91, 92, 93, 94, 95, 96, 97, 98, 100, 101, 102, 103, 104, 105, 106, 107, 108, 109, 110, 111, 112, 113, 114] 1) = some kf13 := by kernel_rfl
noncomputable def kf33 : KFn := { params := [w0], res := [(.s r2)], body :=
 (.seq
 (.reg [.p (o1 boxG r0) w1, .p (o1 mvG (ctK (.int .i64 (Int.ofNat 0)))) w2])
 (.seq
 (.seq
 (.reg [.p (o1 (faddrG 4) r1) pushW, .p (o1 load1G l0) pushW, .p (o1 lenLG l0) pushW, .p (o2 (binG (cmpB .gtr gtI)) l0 (ctK (.int .i64 (Int.ofNat 12)))) pushW, .g l0 false false none (o1 (faddrG 5) r1) pushW, .g l1 false false none (o1 load1G l0) pushW, .g l2 false false none (o1 lenLG l0) pushW, .g l3 false false none (o2 (binG (cmpB .gtr gtI)) l0 (ctK (.int .i64 (Int.ofNat 12)))) pushW, .p (o3 pickG l4 (ctK (.bool true)) l0) w21])
 (.cond r21
 (.seq
 (.reg [.p (o1 mvG (ctK (.int .i64 (Int.ofNat 3)))) w2])
 .ret)
 .skip))
 (.seq
 (.seq
 (.reg [.p (o1 (faddrG 4) r1) pushW, .p (o1 load1G l0) pushW, .p (callO 53 [l0]) pushW, .p (o1 mvG l0) w3])
 (.seq
 (.reg [.p (o2 (eqG eqIV true) r3 (ctK (.int .i64 (Int.ofNat 0)))) w26])
 (.cond r26
 (.seq
 (.reg [.p (o1 mvG r3) w2])
 .ret)
 .skip)))
 (.seq
 (.reg [.p (o1 (loadnG 6) r1) pushW, .p (callO 54 [l0]) pushW, .p (buildO [.mnil, (.int .i64 (Int.ofNat 0))] [(0, 1, l0)]) pushW, .p (o1 boxG l0) pushW, .p (o1 mvG l0) w4])
 (.seq
 (.seq
 (.reg [.p (o1 (faddrG 4) r1) pushW, .p (o1 load1G l0) w33, .p (o1 lenLG r33) w34, .p (o1 mvG (ctK (.int .i64 (Int.ofNat 0)))) w35])
 (.block 0
 (.loop
 (.seq
 (.reg [.p (o2 (binG (cmpB .lss ltI)) r35 r34) w36])
 (.seq
 (.cond r36
 .skip
 (.exit 0))
 (.seq
 (.block 1
 (.seq
 (.reg [.p (o2 (iaddrG 5) r33 r35) pushW, .p (o1 (loadnG 5) l0) pushW, .p (allocO [(.str 0 0), (.int .i64 (Int.ofNat 0)), (.str 0 0), .snil, .snil]) w6, .p (o2 (storeG 5) r6 l0) noW])
 (.seq
 (.reg [.p (o1 (faddrG 1) r6) pushW, .p (o1 (loadnG 4) l0) pushW, .p (callO 55 [r4, l0, (ctK (.int .i64 (Int.ofNat 1)))]) pushW, .p (o1 mvG l0) w7])
 (.seq
 (.reg [.p (o2 (eqG eqIV true) r7 (ctK (.int .i64 (Int.ofNat 0)))) w44])
 (.cond r44
 (.seq
 (.reg [.p (o1 mvG r7) w2])
 .ret)
 .skip)))))
 (.reg [.p (o2 (binG addB) r35 (ctK (.int .i64 (Int.ofNat 1)))) pushW, .p (o1 mvG l0) w35])))))))
 (.seq
 (.seq
 (.reg [.p (o1 (faddrG 0) r1) pushW, .p (o1 (loadnG 4) l0) pushW, .p (callO 55 [r4, l0, (ctK (.int .i64 (Int.ofNat 1)))]) pushW, .p (o1 mvG l0) w8])
 (.seq
 (.reg [.p (o2 (eqG eqIV true) r8 (ctK (.int .i64 (Int.ofNat 0)))) w52])
 (.cond r52
 (.seq
 (.reg [.p (o1 mvG r8) w2])
 .ret)
 .skip)))
 (.seq
 (.seq
 (.reg [.p (o1 (faddrG 5) r1) pushW, .p (o1 load1G l0) pushW, .p (callO 56 [r4, l0]) pushW, .p (o1 mvG l0) w9])
 (.seq
 (.reg [.p (o2 (eqG eqIV true) r9 (ctK (.int .i64 (Int.ofNat 0)))) w59])
 (.cond r59
 (.seq
 (.reg [.p (o1 mvG r9) w2])
 .ret)
 .skip)))
 (.seq
 (.seq
 (.reg [.p (o1 (faddrG 4) r1) pushW, .p (o1 load1G l0) w62, .p (o1 lenLG r62) w63, .p (o1 mvG (ctK (.int .i64 (Int.ofNat 0)))) w64])
 (.block 2
 (.loop
 (.seq
 (.reg [.p (o2 (binG (cmpB .lss ltI)) r64 r63) w65])
 (.seq
 (.cond r65
 .skip
 (.exit 2))
 (.seq
 (.block 3
 (.seq
 (.reg [.p (o2 (iaddrG 5) r62 r64) pushW, .p (o1 (loadnG 5) l0) pushW, .p (allocO [(.str 0 0), (.int .i64 (Int.ofNat 0)), (.str 0 0), .snil, .snil]) w11, .p (o2 (storeG 5) r11 l0) noW])
 (.seq
 (.reg [.p (o1 (loadnG 6) r1) pushW, .p (o1 (faddrG 1) r11) pushW, .p (o1 (loadnG 4) l0) pushW, .p (callO 57 [l2, l0]) pushW, .p (o1 notG l0) w72])
 (.cond r72
 (.seq
 (.reg [.p (o1 mvG (ctK (.int .i64 (Int.ofNat 14)))) w2])
 .ret)
 .skip))))
 (.reg [.p (o2 (binG addB) r64 (ctK (.int .i64 (Int.ofNat 1)))) pushW, .p (o1 mvG l0) w64])))))))
 (.seq
 (.seq
 (.reg [.p (o1 (loadnG 6) r1) pushW, .p (callO 59 [l0]) pushW, .p (mkfnO 60 [r4] []) pushW, .p (callO 58 [l1, l0]) w78])
 (.cond r78
 (.seq
 (.reg [.p (o1 mvG (ctK (.int .i64 (Int.ofNat 17)))) w2])
 .ret)
 .skip))
 (.seq
 (.reg [.p (o1 mvG (ctK (.int .i64 (Int.ofNat 0)))) w2])
 .ret)))))))))) }
theorem kf33_ok : (compFn Tryz.prog Tryz.f33 [[1], [1], [1, 4], [1, 4, 33, 34, 35], [1, 4, 33, 34, 35], [1, 4, 33, 34, 35], [1, 4], [1, 4], [1, 4], [1, 4, 62, 63, 64], [1, 4, 62, 63, 64], [1, 4, 62, 63, 64], []]).bind (toKFn [12, 13, 14, 15, 16, 17, 18, 19, 20, 22, 23, 24, 25, 27, 28, 29, 30, 31, 32, 37, 38, 39, 40, 41, 42, 43, 45, 46, 47, 48, 49, 50, 51, 53, 54, 55, 56, 57, 58, 60, 61, 66, 67, 68, 69, 70, 71, 73, 74, 75, 76, 77] 1) = some kf33 := by kernel_rfl
noncomputable def kf53 : KFn := { params := [w0], res := [(.s r2)], body :=
 (.seq
 (.reg [.p (o1 mvG (ctK (.int .i64 (Int.ofNat 0)))) w2])
 (.seq
 (.seq
 (.reg [.p (o1 mvG r0) w5, .p (o1 lenLG r5) w6, .p (o1 mvG (ctK (.int .i64 (Int.ofNat 0)))) w7])
 (.block 0
 (.loop
 (.seq
 (.reg [.p (o2 (binG (cmpB .lss ltI)) r7 r6) w8])
 (.seq
 (.cond r8
 .skip
 (.exit 0))
 (.seq
 (.block 1
 (.seq
 (.reg [.p (o2 (iaddrG 5) r5 r7) pushW, .p (o1 (loadnG 5) l0) pushW, .p (allocO [(.str 0 0), (.int .i64 (Int.ofNat 0)), (.str 0 0), .snil, .snil]) w4, .p (o1 mvG r7) w3, .p (o2 (storeG 5) r4 l0) noW])
 (.block 2
 (.seq
 (.reg [.p (o1 (faddrG 0) r4) pushW, .p (o1 load1G l0) pushW, .p (callO 76 [l0]) pushW, .p (o1 notG l0) pushW, .g l0 false false none (o1 (faddrG 0) r4) pushW, .g l1 false false none (o1 load1G l0) pushW, .g l2 false false none (o2 (binG addB) (ctK (.str 1 32)) l0) pushW, .g l3 false false none (o2 (binG addB) l0 (ctK (.str 1 32))) pushW, .g l4 false false none (callO 77 [(ctK (.str 34 961356317854820710213059487311157994386979551947476703340595819215633401072534048)), l0]) pushW, .p (o3 pickG l5 (ctK (.bool true)) l0) pushW, .p (o1 mvG l0) w12])
 (.cond r12
 (.seq
 (.reg [.p (o1 mvG (ctK (.int .i64 (Int.ofNat 15)))) w2])
 .ret)
 (.seq
 (.drw [.p (o2 (binG (cmpB .gtr gtI)) r3 (ctK (.int .i64 (Int.ofNat 0)))) pushW, .g l0 true false none (o1 mvG r0) pushW, .g l1 true false none (o1 mvG r3) pushW, .g l2 true false none (o2 (binG subB) l0 (ctK (.int .i64 (Int.ofNat 1)))) pushW, .g l3 true false none (o2 (iaddrG 5) l2 l0) pushW, .g l4 true false none (o1 (faddrG 0) l0) pushW, .g l5 true false none (o1 load1G l0) pushW, .g l6 true false none (o1 (faddrG 0) r4) pushW, .g l7 true false none (o1 load1G l0) pushW, .g l8 true false none (o2 (binG (cmpB .geq geI)) l2 l0) pushW, .p (o3 pickG l9 l0 (ctK (.bool false))) pushW, .p (o1 mvG l0) w24] [])
 (.cond r24
 (.seq
 (.reg [.p (o1 mvG (ctK (.int .i64 (Int.ofNat 6)))) w2])
 .ret)
 .skip)))))))
 (.reg [.p (o2 (binG addB) r7 (ctK (.int .i64 (Int.ofNat 1)))) pushW, .p (o1 mvG l0) w7])))))))
 (.seq
 (.reg [.p (o1 mvG (ctK (.int .i64 (Int.ofNat 0)))) w2])
 .ret))) }
theorem kf53_ok : (compFn Tryz.prog Tryz.f53 [[], [0, 5, 6, 7], [0, 5, 6, 7], [0, 5, 6, 7]]).bind (toKFn [9, 10, 11, 13, 14, 15, 16, 17, 18, 19, 20, 21, 22, 23, 25, 26, 27, 28, 29, 30, 31, 32, 33, 34, 35, 36, 37, 38] 1) = some kf53 := by kernel_rfl
noncomputable def kf76 : KFn := { params := [w0], res := [(.s r2)], body :=
 (.seq
 (.reg [.p (o1 mvG (ctK (.bool false))) w2])
 (.seq
 (.reg [.p (o2 (eqG eqSV true) r0 (ctK (.str 0 0))) pushW, .g l0 true false none (o1 mvG r0) pushW, .g l1 true false none (o1 lenSG l0) pushW, .g l2 true false none (o2 (binG (cmpB .leq leI)) l0 (ctK (.int .i64 (Int.ofNat 16)))) pushW, .p (o3 pickG l3 l0 (ctK (.bool false))) pushW, .g l0 true false none (o1 mvG r0) pushW, .g l1 true false none (o2 idxG l0 (ctK (.int .i64 (Int.ofNat 0)))) pushW, .g l2 true false none (callO 102 [l0]) pushW, .g l3 true false none (o1 notG l0) pushW, .p (o3 pickG l4 l0 (ctK (.bool false))) pushW, .g l0 true false none (o1 mvG r0) pushW, .g l1 true false none (callO 103 [l0]) pushW, .g l2 true false none (o1 mvG r0) pushW, .g l3 true false none (o1 lenSG l0) pushW, .g l4 true false none (o2 (eqG eqIV false) l2 l0) pushW, .p (o3 pickG l5 l0 (ctK (.bool false))) pushW, .p (o1 mvG l0) w2])
 .ret)) }
theorem kf76_ok : (compFn Tryz.prog Tryz.f76 []).bind (toKFn [3, 4, 5, 6, 7, 8, 9, 10, 11, 12, 13, 14, 15, 16, 17, 18, 19, 20, 21, 22] 1) = some kf76 := by kernel_rfl
noncomputable def kf102 : KFn := { params := [w0], res := [(.s r2)], body :=
 (.seq
 (.reg [.p (o1 mvG (ctK (.bool false))) w2])
 (.seq
 (.reg [.p (o2 (binG (cmpB .geq geI)) r0 (ctK (.int .u8 (Int.ofNat 48)))) pushW, .g l0 true false none (o1 mvG r0) pushW, .g l1 true false none (o2 (binG (cmpB .leq leI)) l0 (ctK (.int .u8 (Int.ofNat 57)))) pushW, .p (o3 pickG l2 l0 (ctK (.bool false))) pushW, .p (o1 mvG l0) w2])
 .ret)) }
theorem kf102_ok : (compFn Tryz.prog Tryz.f102 []).bind (toKFn [3, 4, 5, 6, 7, 8] 1) = some kf102 := by kernel_rfl
noncomputable def kf103 : KFn := { params := [w0], res := [(.s r2)], body :=
 (.seq
 (.reg [.p (o1 mvG (ctK (.int .i64 (Int.ofNat 0)))) w2])
 (.seq
 (.reg [.p (callO 130 [r0, (ctK (.fn 131 [] []))]) pushW, .p (o1 mvG l0) w2])
 .ret)) }
theorem kf103_ok : (compFn Tryz.prog Tryz.f103 []).bind (toKFn [3, 4] 1) = some kf103 := by kernel_rfl
noncomputable def kf130 : KFn := { params := [w0, w1], res := [(.s r4)], body :=
 (.seq
 (.reg [.p (o1 mvG (ctK (.int .i64 (Int.ofNat 0)))) w4])
 (.seq
 (.seq
 (.reg [.p (o1 rngSG r0) w7])
 (.block 0
 (.loop
 (.seq
 (.reg [.p (o1 nextSG r7) w8, .p (o1 (extG 0) r8) w9])
 (.seq
 (.cond r9
 .skip
 (.exit 0))
 (.block 1
 (.seq
 (.reg [.p (o1 (extG 1) r8) pushW, .p (o1 mvG l0) w5])
 (.seq
 (.reg [.p (o2 idxG r0 r5) pushW, .p (callvO r1 [l0]) pushW, .p (o1 notG l0) w16])
 (.cond r16
 (.seq
 (.reg [.p (o1 mvG r5) w4])
 .ret)
 .skip)))))))))
 (.seq
 (.reg [.p (o1 lenSG r0) pushW, .p (o1 mvG l0) w4])
 .ret))) }
theorem kf130_ok : (compFn Tryz.prog Tryz.f130 [[0], [0, 1, 7], [0, 1, 7, 8]]).bind (toKFn [6, 10, 11, 12, 13, 14, 15, 17, 18, 19] 2) = some kf130 := by kernel_rfl
noncomputable def kf131 : KFn := { params := [w0], res := [(.s r2)], body :=
 (.seq
 (.reg [.p (o1 mvG (ctK (.bool false))) w2])
 (.seq
 (.reg [.p (callO 132 [r0]) pushW, .g l0 false false none (o1 mvG r0) pushW, .g l1 false false none (callO 102 [l0]) pushW, .p (o3 pickG l2 (ctK (.bool true)) l0) pushW, .p (o1 mvG l0) w2])
 .ret)) }
theorem kf131_ok : (compFn Tryz.prog Tryz.f131 []).bind (toKFn [3, 4, 5, 6, 7, 8] 1) = some kf131 := by kernel_rfl
noncomputable def kf132 : KFn := { params := [w0], res := [(.s r2)], body :=
 (.seq
 (.reg [.p (o1 mvG (ctK (.bool false))) w2])
 (.seq
 (.reg [.p (o2 (eqG eqIV false) r0 (ctK (.int .u8 (Int.ofNat 95)))) pushW, .g l0 false false none (o1 mvG r0) pushW, .g l1 false false none (o2 (binG (slowBin .or)) l0 (ctK (.int .u8 (Int.ofNat 32)))) pushW, .g l2 false false none (o2 (binG (cmpB .geq geI)) l0 (ctK (.int .u8 (Int.ofNat 97)))) pushW, .g l3 false false none (o1 mvG l0) pushW, .g l0 true false none (o1 mvG r0) pushW, .g l1 true false none (o2 (binG (slowBin .or)) l0 (ctK (.int .u8 (Int.ofNat 32)))) pushW, .g l2 true false none (o2 (binG (cmpB .leq leI)) l0 (ctK (.int .u8 (Int.ofNat 122)))) pushW, .g l7 false false none (o3 pickG l3 l0 (ctK (.bool false))) pushW, .p (o3 pickG l8 (ctK (.bool true)) l0) pushW, .p (o1 mvG l0) w2])
 .ret)) }
theorem kf132_ok : (compFn Tryz.prog Tryz.f132 []).bind (toKFn [3, 4, 5, 6, 7, 8, 9, 10, 11, 12, 13, 14] 1) = some kf132 := by kernel_rfl
noncomputable def kf54 : KFn := { params := [w0], res := [(.s r2)], body :=
 (.seq
 (.reg [.p (o1 boxG r0) w1, .p (o1 mvG (ctK .mnil)) w2])
 (.seq
 (.reg [.p mkmapO pushW, .p (o1 mvG l0) w3])
 (.seq
 (.seq
 (.reg [.p (o1 (faddrG 4) r1) pushW, .p (o1 load1G l0) w8, .p (o1 lenLG r8) w9, .p (o1 mvG (ctK (.int .i64 (Int.ofNat 0)))) w10])
 (.block 0
 (.loop
 (.seq
 (.reg [.p (o2 (binG (cmpB .lss ltI)) r10 r9) w11])
 (.seq
 (.cond r11
 .skip
 (.exit 0))
 (.seq
 (.block 1
 (.seq
 (.reg [.p (o2 (iaddrG 5) r8 r10) pushW, .p (o1 (loadnG 5) l0) pushW, .p (allocO [(.str 0 0), (.int .i64 (Int.ofNat 0)), (.str 0 0), .snil, .snil]) w5, .p (o2 (storeG 5) r5 l0) noW])
 (.reg [.p (o1 (faddrG 0) r5) pushW, .p (o1 load1G l0) pushW, .p (o1 (faddrG 1) r5) pushW, .p (o1 (loadnG 4) l0) pushW, .p (o3 (mupdG (.one .s)) r3 l2 l0) noW])))
 (.reg [.p (o2 (binG addB) r10 (ctK (.int .i64 (Int.ofNat 1)))) pushW, .p (o1 mvG l0) w10])))))))
 (.seq
 (.reg [.p (o1 mvG r3) w2])
 .ret)))) }
theorem kf54_ok : (compFn Tryz.prog Tryz.f54 [[3], [3, 8, 9, 10], [3, 8, 9, 10], [3, 8, 9, 10]]).bind (toKFn [6, 7, 12, 13, 14, 15, 16, 17, 18, 19, 20] 1) = some kf54 := by kernel_rfl
noncomputable def kf55 : KFn := { params := [w0, w1, w2], res := [(.s r6)], body :=
 (.seq
 (.reg [.p (o1 boxG r1) w4, .p (o1 mvG (ctK (.int .i64 (Int.ofNat 0)))) w6])
 (.seq
 (.reg [.p (o1 nilckG r0) pushW, .p (o1 (faddrG 1) l0) pushW, .p (o1 load1G l0) pushW, .p (o2 (binG addB) l0 (ctK (.int .i64 (Int.ofNat 1)))) pushW, .p (o1 nilckG r0) pushW, .p (o1 (faddrG 1) l0) pushW, .p (o2 (storeG 1) l0 l2) noW])
 (.seq
 (.drw [.p (o1 nilckG r0) pushW, .p (o1 (faddrG 0) l0) pushW, .p (o1 load1G l0) pushW, .p (o1 (faddrG 1) r4) pushW, .p (o1 load1G l0) pushW, .p (o2 (lookupG (.one .s) (.agg [(.int .i64 (Int.ofNat 0)), (.str 0 0), .snil, .snil]) true) l2 l0) pushW, .p (o1 (extG 0) l0) pushW, .p (o1 (extG 1) l1) pushW, .p (allocO [(.int .i64 (Int.ofNat 0)), (.str 0 0), .snil, .snil]) pushW, .p (o2 (storeG 4) l0 l2) noW, .p (o1 mvG l1) w8] [])
 (.seq
 (.reg [.p (o1 (faddrG 0) r4) pushW, .p (o1 load1G l0) pushW, .p (o2 (eqG eqIV false) l0 (ctK (.int .i64 (Int.ofNat 7)))) pushW, .g l0 false false none (o1 (faddrG 0) r4) pushW, .g l1 false false none (o1 load1G l0) pushW, .g l2 false false none (o2 (eqG eqIV false) l0 (ctK (.int .i64 (Int.ofNat 8)))) pushW, .p (o3 pickG l3 (ctK (.bool true)) l0) pushW, .p (o1 mvG l0) w9])
 (.seq
 (.block 0
 (.seq
 (.reg [.p (o1 nilckG r0) pushW, .p (o1 (faddrG 1) l0) pushW, .p (o1 load1G l0) pushW, .p (o2 (binG (cmpB .gtr gtI)) l0 (ctK (.int .i64 (Int.ofNat 400)))) pushW, .p (o1 mvG l0) w39])
 (.cond r39
 (.seq
 (.reg [.p (o1 mvG (ctK (.int .i64 (Int.ofNat 3)))) w6])
 .ret)
 (.seq
 (.reg [.p (o2 (binG (cmpB .gtr gtI)) r2 (ctK (.int .i64 (Int.ofNat 12)))) pushW, .p (o1 mvG l0) w45])
 (.cond r45
 (.seq
 (.reg [.p (o1 mvG (ctK (.int .i64 (Int.ofNat 13)))) w6])
 .ret)
 (.seq
 (.reg [.p (o1 (faddrG 0) r4) pushW, .p (o1 load1G l0) pushW, .p (o2 (binG (cmpB .lss ltI)) l0 (ctK (.int .i64 (Int.ofNat 1)))) pushW, .g l0 false false none (o1 (faddrG 0) r4) pushW, .g l1 false false none (o1 load1G l0) pushW, .g l2 false false none (o2 (binG (cmpB .gtr gtI)) l0 (ctK (.int .i64 (Int.ofNat 9)))) pushW, .p (o3 pickG l3 (ctK (.bool true)) l0) pushW, .p (o1 mvG l0) w48])
 (.cond r48
 (.seq
 (.reg [.p (o1 mvG (ctK (.int .i64 (Int.ofNat 1)))) w6])
 .ret)
 (.seq
 (.drw [.p (o1 (faddrG 3) r4) w58, .p (o1 load1G r58) pushW, .p (o1 lenLG l0) pushW, .p (o1 (loadnG 4) r4) pushW, .m (callO 78 [l0]) pushW (some [58]), .p (o2 (eqG eqIV true) l2 l0) pushW, .g l0 false false none (o1 (faddrG 1) r4) pushW, .g l1 false false none (o1 load1G l0) pushW, .g l2 false false none (o2 (eqG eqSV true) l0 (ctK (.str 0 0))) pushW, .g l3 false false none (o1 mvG l0) pushW, .g l0 true false none (o1 (faddrG 0) r4) pushW, .g l1 true false none (o1 load1G l0) pushW, .g l2 true false none (o2 (eqG eqIV true) l0 (ctK (.int .i64 (Int.ofNat 9)))) pushW, .g l7 false false none (o3 pickG l3 l0 (ctK (.bool false))) pushW, .p (o3 pickG l8 (ctK (.bool true)) l0) pushW, .g l0 false false none (o1 (faddrG 2) r4) pushW, .g l1 false false none (o1 load1G l0) pushW, .g l2 false false none (o1 lenLG l0) pushW, .g l3 false false none (o2 (binG (cmpB .gtr gtI)) l0 (ctK (.int .i64 (Int.ofNat 0)))) pushW, .g l4 false false none (o1 mvG l0) pushW, .g l0 true false none (o1 mvG r9) pushW, .g l1 true false none (o1 notG l0) pushW, .g l7 false false none (o3 pickG l2 l0 (ctK (.bool false))) pushW, .p (o3 pickG l8 (ctK (.bool true)) l0) pushW, .p (o1 mvG l0) w57] [])
 (.cond r57
 (.seq
 (.reg [.p (o1 mvG (ctK (.int .i64 (Int.ofNat 12)))) w6])
 .ret)
 (.seq
 (.reg [.p (o1 (faddrG 0) r4) pushW, .p (o1 load1G l0) pushW, .p (o2 (eqG eqIV false) l0 (ctK (.int .i64 (Int.ofNat 9)))) pushW, .g l0 true false none (o1 mvG r8) pushW, .g l1 true false none (o1 notG l0) pushW, .p (o3 pickG l2 l0 (ctK (.bool false))) pushW, .p (o1 mvG l0) w84])
 (.cond r84
 (.seq
 (.reg [.p (o1 mvG (ctK (.int .i64 (Int.ofNat 15)))) w6])
 .ret)
 .skip)))))))))))
 (.seq
 (.seq
 (.reg [.p (o1 (loadnG 4) r4) pushW, .p (callO 79 [l0]) pushW, .p (o1 mvG l0) w10])
 (.seq
 (.reg [.p (o2 (eqG eqIV true) r10 (ctK (.int .i64 (Int.ofNat 0)))) w95])
 (.cond r95
 (.seq
 (.reg [.p (o1 mvG r10) w6])
 .ret)
 .skip)))
 (.seq
 (.seq
 (.reg [.p (o1 (faddrG 3) r4) pushW, .p (o1 load1G l0) w98, .p (o1 lenLG r98) w99, .p (o1 mvG (ctK (.int .i64 (Int.ofNat 0)))) w100])
 (.block 1
 (.loop
 (.seq
 (.reg [.p (o2 (binG (cmpB .lss ltI)) r100 r99) w101])
 (.seq
 (.cond r101
 .skip
 (.exit 1))
 (.seq
 (.block 2
 (.seq
 (.reg [.p (o2 (iaddrG 4) r98 r100) pushW, .p (o1 (loadnG 4) l0) pushW, .p (allocO [(.int .i64 (Int.ofNat 0)), (.str 0 0), .snil, .snil]) w12, .p (o2 (storeG 4) r12 l0) noW])
 (.seq
 (.reg [.p (o1 (loadnG 4) r12) pushW, .p (o2 (binG addB) r2 (ctK (.int .i64 (Int.ofNat 1)))) pushW, .p (callO 55 [r0, l1, l0]) pushW, .p (o1 mvG l0) w13])
 (.seq
 (.reg [.p (o2 (eqG eqIV true) r13 (ctK (.int .i64 (Int.ofNat 0)))) w110])
 (.cond r110
 (.seq
 (.reg [.p (o1 mvG r13) w6])
 .ret)
 .skip)))))
 (.reg [.p (o2 (binG addB) r100 (ctK (.int .i64 (Int.ofNat 1)))) pushW, .p (o1 mvG l0) w100])))))))
 (.seq
 (.reg [.p (o1 mvG (ctK (.int .i64 (Int.ofNat 0)))) w6])
 .ret)))))))) }
theorem kf55_ok : (compFn Tryz.prog Tryz.f55 [[0, 2, 4], [0, 2, 4], [], [0, 2, 98, 99, 100], [0, 2, 98, 99, 100], [0, 2, 98, 99, 100]]).bind (toKFn [7, 14, 15, 16, 17, 18, 19, 20, 21, 22, 23, 24, 25, 26, 27, 28, 29, 30, 31, 32, 33, 34, 35, 36, 37, 38, 40, 41, 42, 43, 44, 46, 47, 49, 50, 51, 52, 53, 54, 55, 56, 59, 60, 61, 62, 63, 64, 65, 66, 67, 68, 69, 70, 71, 72, 73, 74, 75, 76, 77, 78, 79, 80, 81, 82, 83, 85, 86, 87, 88, 89, 90, 91, 92, 93, 94, 96, 97, 102, 103, 104, 105, 106, 107, 108, 109, 111, 112] 3) = some kf55 := by kernel_rfl
noncomputable def kf78 : KFn := { params := [w0], res := [(.s r2)], body :=
 (.seq
 (.reg [.p (o1 boxG r0) w1, .p (o1 mvG (ctK (.int .i64 (Int.ofNat 0)))) w2])
 (.seq
 (.seq
 (.reg [.p (o1 (faddrG 0) r1) pushW, .p (o1 load1G l0) w4])
 (.block 0
 (.seq
 (.seq
 (.reg [.p (o2 (eqG eqIV false) r4 (ctK (.int .i64 (Int.ofNat 4)))) pushW, .p (o1 mvG l0) w5])
 (.cond r5
 .skip
 (.seq
 (.reg [.p (o2 (eqG eqIV false) r4 (ctK (.int .i64 (Int.ofNat 5)))) pushW, .p (o1 mvG l0) w5])
 (.cond r5
 .skip
 (.reg [.p (o2 (eqG eqIV false) r4 (ctK (.int .i64 (Int.ofNat 6)))) pushW, .p (o1 mvG l0) w5])))))
 (.cond r5
 (.seq
 (.reg [.p (o1 mvG (ctK (.int .i64 (Int.ofNat 1)))) w2])
 .ret)
 (.seq
 (.seq
 (.reg [.p (o2 (eqG eqIV false) r4 (ctK (.int .i64 (Int.ofNat 7)))) pushW, .p (o1 mvG l0) w9])
 (.cond r9
 .skip
 (.reg [.p (o2 (eqG eqIV false) r4 (ctK (.int .i64 (Int.ofNat 8)))) pushW, .p (o1 mvG l0) w9])))
 (.cond r9
 (.seq
 (.reg [.p (o1 (faddrG 2) r1) pushW, .p (o1 load1G l0) pushW, .p (o1 lenLG l0) pushW, .p (o1 mvG l0) w2])
 .ret)
 .skip))))))
 (.seq
 (.reg [.p (o1 mvG (ctK (.int .i64 (Int.ofNat 0)))) w2])
 .ret))) }
theorem kf78_ok : (compFn Tryz.prog Tryz.f78 [[], [1, 4, 5], [1, 9]]).bind (toKFn [3, 6, 7, 8, 10, 11, 12, 13, 14] 1) = some kf78 := by kernel_rfl
noncomputable def kf79 : KFn := { params := [w0], res := [(.s r2)], body :=
 (.seq
 (.reg [.p (o1 boxG r0) w1, .p (o1 mvG (ctK (.int .i64 (Int.ofNat 0)))) w2])
 (.seq
 (.seq
 (.reg [.p (o1 (faddrG 2) r1) pushW, .p (o1 load1G l0) pushW, .p (o1 lenLG l0) pushW, .p (o2 (binG (cmpB .gtr gtI)) l0 (ctK (.int .i64 (Int.ofNat 8)))) w8])
 (.cond r8
 (.seq
 (.reg [.p (o1 mvG (ctK (.int .i64 (Int.ofNat 3)))) w2])
 .ret)
 .skip))
 (.seq
 (.seq
 (.reg [.p (o1 (faddrG 2) r1) pushW, .p (o1 load1G l0) w10, .p (o1 lenLG r10) w11, .p (o1 mvG (ctK (.int .i64 (Int.ofNat 0)))) w12])
 (.block 0
 (.loop
 (.seq
 (.reg [.p (o2 (binG (cmpB .lss ltI)) r12 r11) w13])
 (.seq
 (.cond r13
 .skip
 (.exit 0))
 (.seq
 (.block 1
 (.seq
 (.reg [.p (o2 (iaddrG 1) r10 r12) pushW, .p (o1 load1G l0) pushW, .p (o1 mvG r12) w3, .p (o1 mvG l0) w4])
 (.block 2
 (.seq
 (.reg [.p (callO 76 [r4]) pushW, .p (o1 notG l0) pushW, .p (o1 mvG l0) w17])
 (.cond r17
 (.seq
 (.reg [.p (o1 mvG (ctK (.int .i64 (Int.ofNat 15)))) w2])
 .ret)
 (.seq
 (.reg [.p (o2 (binG (cmpB .gtr gtI)) r3 (ctK (.int .i64 (Int.ofNat 0)))) pushW, .g l0 true false none (o1 (faddrG 2) r1) pushW, .g l1 true false none (o1 load1G l0) pushW, .g l2 true false none (o1 mvG r3) pushW, .g l3 true false none (o2 (binG subB) l0 (ctK (.int .i64 (Int.ofNat 1)))) pushW, .g l4 true false none (o2 (iaddrG 1) l2 l0) pushW, .g l5 true false none (o1 load1G l0) pushW, .g l6 true false none (o1 mvG r4) pushW, .g l7 true false none (o2 (binG (cmpB .geq geI)) l1 l0) pushW, .p (o3 pickG l8 l0 (ctK (.bool false))) pushW, .p (o1 mvG l0) w21])
 (.cond r21
 (.seq
 (.reg [.p (o1 mvG (ctK (.int .i64 (Int.ofNat 6)))) w2])
 .ret)
 .skip)))))))
 (.reg [.p (o2 (binG addB) r12 (ctK (.int .i64 (Int.ofNat 1)))) pushW, .p (o1 mvG l0) w12])))))))
 (.seq
 (.seq
 (.reg [.p (o1 (faddrG 0) r1) pushW, .p (o1 load1G l0) pushW, .p (o2 (eqG eqIV false) l0 (ctK (.int .i64 (Int.ofNat 8)))) pushW, .g l0 true false none (o1 (faddrG 2) r1) pushW, .g l1 true false none (o1 load1G l0) pushW, .g l2 true false none (o1 lenLG l0) pushW, .g l3 true false none (o2 (eqG eqIV false) l0 (ctK (.int .i64 (Int.ofNat 0)))) pushW, .p (o3 pickG l4 l0 (ctK (.bool false))) w43])
 (.cond r43
 (.seq
 (.reg [.p (o1 mvG (ctK (.int .i64 (Int.ofNat 12)))) w2])
 .ret)
 .skip))
 (.seq
 (.reg [.p (o1 mvG (ctK (.int .i64 (Int.ofNat 0)))) w2])
 .ret))))) }
theorem kf79_ok : (compFn Tryz.prog Tryz.f79 [[1], [1], [1, 10, 11, 12], [1, 10, 11, 12], [1, 10, 11, 12], []]).bind (toKFn [5, 6, 7, 9, 14, 15, 16, 18, 19, 20, 22, 23, 24, 25, 26, 27, 28, 29, 30, 31, 32, 33, 34, 35, 36, 37, 38, 39, 40, 41, 42] 1) = some kf79 := by kernel_rfl
noncomputable def kf56 : KFn := { params := [w0, w1], res := [(.s r4)], body :=
 (.seq
 (.reg [.p (o1 mvG (ctK (.int .i64 (Int.ofNat 0)))) w4])
 (.seq
 (.seq
 (.reg [.p (o1 mvG r1) w8, .p (o1 lenLG r8) w9, .p (o1 mvG (ctK (.int .i64 (Int.ofNat 0)))) w10])
 (.block 0
 (.loop
 (.seq
 (.reg [.p (o2 (binG (cmpB .lss ltI)) r10 r9) w11])
 (.seq
 (.cond r11
 .skip
 (.exit 0))
 (.seq
 (.block 1
 (.seq
 (.reg [.p (o2 (iaddrG 6) r8 r10) pushW, .p (o1 (loadnG 6) l0) pushW, .p (allocO [(.str 0 0), .snil, (.int .i64 (Int.ofNat 0)), (.str 0 0), .snil, .snil]) w6, .p (o1 mvG r10) w5, .p (o2 (storeG 6) r6 l0) noW])
 (.seq
 (.block 2
 (.seq
 (.reg [.p (o1 (faddrG 0) r6) pushW, .p (o1 load1G l0) pushW, .p (callO 76 [l0]) pushW, .p (o1 notG l0) pushW, .g l0 false false none (o1 (faddrG 0) r6) pushW, .g l1 false false none (o1 load1G l0) pushW, .g l2 false false none (callO 80 [l0]) pushW, .p (o3 pickG l3 (ctK (.bool true)) l0) pushW, .p (o1 mvG l0) w15])
 (.cond r15
 (.seq
 (.reg [.p (o1 mvG (ctK (.int .i64 (Int.ofNat 15)))) w4])
 .ret)
 (.seq
 (.drw [.p (o2 (binG (cmpB .gtr gtI)) r5 (ctK (.int .i64 (Int.ofNat 0)))) pushW, .g l0 true false none (o1 mvG r1) pushW, .g l1 true false none (o1 mvG r5) pushW, .g l2 true false none (o2 (binG subB) l0 (ctK (.int .i64 (Int.ofNat 1)))) pushW, .g l3 true false none (o2 (iaddrG 6) l2 l0) pushW, .g l4 true false none (o1 (faddrG 0) l0) pushW, .g l5 true false none (o1 load1G l0) pushW, .g l6 true false none (o1 (faddrG 0) r6) pushW, .g l7 true false none (o1 load1G l0) pushW, .g l8 true false none (o2 (binG (cmpB .geq geI)) l2 l0) pushW, .p (o3 pickG l9 l0 (ctK (.bool false))) pushW, .p (o1 mvG l0) w25] [])
 (.cond r25
 (.seq
 (.reg [.p (o1 mvG (ctK (.int .i64 (Int.ofNat 6)))) w4])
 .ret)
 (.seq
 (.reg [.p (o1 (faddrG 1) r6) pushW, .p (o1 load1G l0) pushW, .p (o1 lenLG l0) pushW, .p (o2 (binG (cmpB .gtr gtI)) l0 (ctK (.int .i64 (Int.ofNat 4)))) pushW, .p (o1 mvG l0) w39])
 (.cond r39
 (.seq
 (.reg [.p (o1 mvG (ctK (.int .i64 (Int.ofNat 18)))) w4])
 .ret)
 .skip)))))))
 (.seq
 (.drw [.p (o1 (faddrG 1) r6) pushW, .p (o1 load1G l0) pushW, .m (callO 35 [l0]) pushW none, .p (o1 (faddrG 2) r6) pushW, .p (o1 (loadnG 4) l0) pushW, .p (bslO 4 1 [(.int .i64 (Int.ofNat 0)), (.str 0 0), .snil, .snil] [(0, 4, l0)]) pushW, .p (o2 (appG 4) l3 l0) pushW, .m (callO 81 [r0, l0]) pushW (some []), .p (o1 mvG l0) w7] [])
 (.seq
 (.reg [.p (o2 (eqG eqIV true) r7 (ctK (.int .i64 (Int.ofNat 0)))) w54])
 (.cond r54
 (.seq
 (.reg [.p (o1 mvG r7) w4])
 .ret)
 .skip))))))
 (.reg [.p (o2 (binG addB) r10 (ctK (.int .i64 (Int.ofNat 1)))) pushW, .p (o1 mvG l0) w10])))))))
 (.seq
 (.reg [.p (o1 mvG (ctK (.int .i64 (Int.ofNat 0)))) w4])
 .ret))) }
theorem kf56_ok : (compFn Tryz.prog Tryz.f56 [[], [0, 1, 8, 9, 10], [0, 1, 8, 9, 10], [0, 1, 8, 9, 10], [0, 1, 6, 8, 9, 10]]).bind (toKFn [12, 13, 14, 16, 17, 18, 19, 20, 21, 22, 23, 24, 26, 27, 28, 29, 30, 31, 32, 33, 34, 35, 36, 37, 38, 40, 41, 42, 43, 44, 45, 46, 47, 48, 49, 50, 51, 52, 53, 55, 56] 2) = some kf56 := by kernel_rfl
noncomputable def kf80 : KFn := { params := [w0], res := [(.s r2)], body :=
 (.seq
 (.reg [.p (o1 mvG (ctK (.bool false))) w2])
 (.seq
 (.reg [.p (callO 76 [r0]) pushW, .g l0 true false none (o1 mvG r0) pushW, .g l1 true false none (o2 (binG addB) (ctK (.str 1 32)) l0) pushW, .g l2 true false none (o2 (binG addB) l0 (ctK (.str 1 32))) pushW, .g l3 true false none (callO 77 [(ctK (.str 91 178686683887446287100313889210838612883293650169161782699781515008887049184836398825504385070224074575899429074951214181473750552558099404030661262664651392350738735132031991416282501624620935436484047697889576312204320)), l0]) pushW, .p (o3 pickG l4 l0 (ctK (.bool false))) pushW, .p (o1 mvG l0) w2])
 .ret)) }
theorem kf80_ok : (compFn Tryz.prog Tryz.f80 []).bind (toKFn [3, 4, 5, 6, 7, 8, 9, 10] 1) = some kf80 := by kernel_rfl
noncomputable def kf35 : KFn := { params := [w0], res := [(.s r2)], body :=
 (.seq
 (.reg [.p (o1 mvG (ctK .snil)) w2])
 (.seq
 (.seq
 (.reg [.p (o2 (eqG (slowEq (.one .l)) false) r0 (ctK .snil)) w4])
 (.cond r4
 (.seq
 (.reg [.p (o1 mvG (ctK .snil)) w2])
 .ret)
 .skip))
 (.seq
 (.reg [.p (bslO 4 0 [] []) pushW, .p (o2 (appG 4) l0 r0) pushW, .p (o1 mvG l0) w2])
 .ret))) }
theorem kf35_ok : (compFn Tryz.prog Tryz.f35 [[0]]).bind (toKFn [3, 5, 6, 7] 1) = some kf35 := by kernel_rfl
noncomputable def kf81 : KFn := { params := [w0, w1], res := [(.s r4)], body :=
 (.seq
 (.reg [.p (o1 mvG (ctK (.int .i64 (Int.ofNat 0)))) w4])
 (.seq
 (.seq
 (.reg [.p (o1 mvG r1) w8, .p (o1 lenLG r8) w9, .p (o1 mvG (ctK (.int .i64 (Int.ofNat 0)))) w10])
 (.block 0
 (.loop
 (.seq
 (.reg [.p (o2 (binG (cmpB .lss ltI)) r10 r9) w11])
 (.seq
 (.cond r11
 .skip
 (.exit 0))
 (.seq
 (.block 1
 (.seq
 (.reg [.p (o2 (iaddrG 4) r8 r10) pushW, .p (o1 (loadnG 4) l0) pushW, .p (allocO [(.int .i64 (Int.ofNat 0)), (.str 0 0), .snil, .snil]) w6, .p (o2 (storeG 4) r6 l0) noW])
 (.seq
 (.reg [.p (o1 (loadnG 4) r6) pushW, .p (callO 55 [r0, l0, (ctK (.int .i64 (Int.ofNat 1)))]) pushW, .p (o1 mvG l0) w7])
 (.seq
 (.reg [.p (o2 (eqG eqIV true) r7 (ctK (.int .i64 (Int.ofNat 0)))) w18])
 (.cond r18
 (.seq
 (.reg [.p (o1 mvG r7) w4])
 .ret)
 .skip)))))
 (.reg [.p (o2 (binG addB) r10 (ctK (.int .i64 (Int.ofNat 1)))) pushW, .p (o1 mvG l0) w10])))))))
 (.seq
 (.reg [.p (o1 mvG (ctK (.int .i64 (Int.ofNat 0)))) w4])
 .ret))) }
theorem kf81_ok : (compFn Tryz.prog Tryz.f81 [[], [0, 8, 9, 10], [0, 8, 9, 10], [0, 8, 9, 10]]).bind (toKFn [12, 13, 14, 15, 16, 17, 19, 20] 2) = some kf81 := by kernel_rfl
noncomputable def kf57 : KFn := { params := [w0, w1], res := [(.s r4)], body :=
 (.seq
 (.reg [.p (o1 boxG r0) w2, .p (o1 boxG r1) w3, .p (o1 mvG (ctK (.bool false))) w4])
 (.seq
 (.reg [.p (o1 (loadnG 6) r2) pushW, .p (callO 54 [l0]) pushW, .p (buildO [.mnil, (.int .i64 (Int.ofNat 0))] [(0, 1, l0)]) pushW, .p (o1 boxG l0) pushW, .p (o1 mvG l0) w5])
 (.seq
 (.seq
 (.reg [.p (o1 (faddrG 4) r2) pushW, .p (o1 load1G l0) w16, .p (o1 lenLG r16) w17, .p (o1 mvG (ctK (.int .i64 (Int.ofNat 0)))) w18])
 (.block 0
 (.loop
 (.seq
 (.reg [.p (o2 (binG (cmpB .lss ltI)) r18 r17) w19])
 (.seq
 (.cond r19
 .skip
 (.exit 0))
 (.seq
 (.block 1
 (.seq
 (.reg [.p (o2 (iaddrG 5) r16 r18) pushW, .p (o1 (loadnG 5) l0) pushW, .p (allocO [(.str 0 0), (.int .i64 (Int.ofNat 0)), (.str 0 0), .snil, .snil]) w7, .p (o2 (storeG 5) r7 l0) noW])
 (.seq
 (.reg [.p (o1 (faddrG 1) r7) pushW, .p (o1 (loadnG 4) l0) pushW, .p (callO 55 [r5, l0, (ctK (.int .i64 (Int.ofNat 1)))]) pushW, .p (o2 (eqG eqIV true) l0 (ctK (.int .i64 (Int.ofNat 0)))) w26])
 (.cond r26
 (.seq
 (.reg [.p (o1 mvG (ctK (.bool false))) w4])
 .ret)
 .skip))))
 (.reg [.p (o2 (binG addB) r18 (ctK (.int .i64 (Int.ofNat 1)))) pushW, .p (o1 mvG l0) w18])))))))
 (.seq
 (.reg [.p (o1 nilckG r5) pushW, .p (o1 (faddrG 1) l0) pushW, .p (o2 (storeG 1) l0 (ctK (.int .i64 (Int.ofNat 0)))) noW])
 (.seq
 (.seq
 (.reg [.p (o1 (loadnG 4) r3) pushW, .p (callO 55 [r5, l0, (ctK (.int .i64 (Int.ofNat 1)))]) pushW, .p (o2 (eqG eqIV true) l0 (ctK (.int .i64 (Int.ofNat 0)))) w34])
 (.cond r34
 (.seq
 (.reg [.p (o1 mvG (ctK (.bool false))) w4])
 .ret)
 .skip))
 (.seq
 (.reg [.p mkmapO pushW, .p (o1 mvG l0) w8])
 (.seq
 (.seq
 (.reg [.p (o1 (faddrG 4) r2) pushW, .p (o1 load1G l0) pushW, .p (o1 lenLG l0) w38, .p (o1 mvG (ctK (.int .i64 (Int.ofNat 0)))) w39])
 (.block 2
 (.loop
 (.seq
 (.reg [.p (o2 (binG (cmpB .lss ltI)) r39 r38) w40])
 (.seq
 (.cond r40
 .skip
 (.exit 2))
 (.seq
 (.block 3
 (.seq
 (.reg [.p (o1 (faddrG 4) r2) pushW, .p (o1 load1G l0) w42, .p (o1 lenLG r42) w43, .p (o1 mvG (ctK (.int .i64 (Int.ofNat 0)))) w44])
 (.block 4
 (.loop
 (.seq
 (.reg [.p (o2 (binG (cmpB .lss ltI)) r44 r43) w45])
 (.seq
 (.cond r45
 .skip
 (.exit 4))
 (.seq
 (.block 5
 (.seq
 (.reg [.p (o2 (iaddrG 5) r42 r44) pushW, .p (o1 (loadnG 5) l0) pushW, .p (allocO [(.str 0 0), (.int .i64 (Int.ofNat 0)), (.str 0 0), .snil, .snil]) w10, .p (o2 (storeG 5) r10 l0) noW])
 (.drw [.p (o1 (faddrG 0) r10) w49, .p (o1 load1G r49) pushW, .p (o1 (faddrG 0) r10) pushW, .p (o1 load1G l0) pushW, .p (o2 (lookupG (.one .s) (.bool false) false) r8 l0) pushW, .g l0 false false none (o1 (faddrG 1) r10) pushW, .g l1 false false none (o1 (loadnG 4) l0) pushW, .g l2 false false none (o1 mvG r8) pushW, .g l3 false true (some [49]) (callO 82 [l1, l0, (ctK (.int .i64 (Int.ofNat 1)))]) pushW, .p (o3 pickG l4 (ctK (.bool true)) l0) pushW, .p (o3 (mupdG (.one .s)) r8 l8 l0) noW] [])))
 (.reg [.p (o2 (binG addB) r44 (ctK (.int .i64 (Int.ofNat 1)))) pushW, .p (o1 mvG l0) w44]))))))))
 (.reg [.p (o2 (binG addB) r39 (ctK (.int .i64 (Int.ofNat 1)))) pushW, .p (o1 mvG l0) w39])))))))
 (.seq
 (.reg [.p (o1 (loadnG 4) r3) pushW, .p (callO 82 [l0, r8, (ctK (.int .i64 (Int.ofNat 1)))]) pushW, .p (o1 mvG l0) w4])
 .ret)))))))) }
theorem kf57_ok : (compFn Tryz.prog Tryz.f57 [[2, 3, 5], [2, 3, 5, 16, 17, 18], [2, 3, 5, 16, 17, 18], [2, 3, 5, 16, 17, 18], [2, 3], [3, 8], [2, 3, 8, 38, 39], [2, 3, 8, 38, 39], [2, 3, 8, 38, 39], [2, 3, 8, 38, 39, 42, 43, 44], [2, 3, 8, 38, 39, 42, 43, 44], [2, 3, 8, 38, 39, 42, 43, 44]]).bind (toKFn [11, 12, 13, 14, 15, 20, 21, 22, 23, 24, 25, 27, 28, 29, 30, 31, 32, 33, 35, 36, 37, 41, 46, 47, 48, 50, 51, 52, 53, 54, 55, 56, 57, 58, 59, 60, 61, 62, 63, 64, 65] 2) = some kf57 := by kernel_rfl
noncomputable def kf82 : KFn := { params := [w0, w1, w2], res := [(.s r6)], body :=
 (.seq
 (.reg [.p (o1 boxG r0) w3, .p (o1 boxG r1) w4, .p (o1 boxG r2) w5, .p (o1 mvG (ctK (.bool false))) w6])
 (.seq
 (.seq
 (.reg [.p (o1 load1G r5) pushW, .p (o2 (binG (cmpB .gtr gtI)) l0 (ctK (.int .i64 (Int.ofNat 12)))) w9])
 (.cond r9
 (.seq
 (.reg [.p (o1 mvG (ctK (.bool false))) w6])
 .ret)
 .skip))
 (.seq
 (.reg [.p (mkfnO 105 [] [r4, r5]) pushW, .p (allocO [.fnil]) w7, .p (o2 (storeG 1) r7 l0) noW])
 (.seq
 (.seq
 (.reg [.p (o1 (faddrG 0) r3) pushW, .p (o1 load1G l0) w12])
 (.block 0
 (.seq
 (.reg [.p (o2 (eqG eqIV false) r12 (ctK (.int .i64 (Int.ofNat 9)))) pushW, .p (o1 mvG l0) w13])
 (.cond r13
 (.seq
 (.reg [.p (o1 load1G r4) pushW, .p (o1 (faddrG 1) r3) pushW, .p (o1 load1G l0) pushW, .p (o2 (lookupG (.one .s) (.bool false) false) l2 l0) pushW, .p (o1 mvG l0) w6])
 .ret)
 (.seq
 (.reg [.p (o2 (eqG eqIV false) r12 (ctK (.int .i64 (Int.ofNat 8)))) pushW, .p (o1 mvG l0) w19])
 (.cond r19
 (.seq
 (.reg [.p (o1 (faddrG 3) r3) pushW, .p (o1 load1G l0) pushW, .p (o1 load1G r7) pushW, .p (callO 58 [l1, l0]) pushW, .p (o1 mvG l0) w6])
 .ret)
 (.seq
 (.reg [.p (o2 (eqG eqIV false) r12 (ctK (.int .i64 (Int.ofNat 7)))) pushW, .p (o1 mvG l0) w25])
 (.cond r25
 (.seq
 (.reg [.p (o1 (faddrG 3) r3) pushW, .p (o1 load1G l0) pushW, .p (mkfnO 106 [] [r7]) pushW, .p (callO 58 [l1, l0]) pushW, .p (o1 notG l0) pushW, .p (o1 mvG l0) w6])
 .ret)
 .skip))))))))
 (.seq
 (.reg [.p (o1 mvG (ctK (.bool true))) w6])
 .ret))))) }
theorem kf82_ok : (compFn Tryz.prog Tryz.f82 [[3, 4, 5], []]).bind (toKFn [8, 10, 11, 14, 15, 16, 17, 18, 20, 21, 22, 23, 24, 26, 27, 28, 29, 30, 31] 3) = some kf82 := by kernel_rfl
noncomputable def kf105 : KFn := { params := [w0, w1, w2], res := [(.s r4)], body :=
 (.seq
 (.reg [.p (o1 boxG r0) w3, .p (o1 mvG (ctK (.bool false))) w4])
 (.seq
 (.reg [.p (o1 (loadnG 4) r3) pushW, .p (o1 load1G r1) pushW, .p (o1 load1G r2) pushW, .p (o2 (binG addB) l0 (ctK (.int .i64 (Int.ofNat 1)))) pushW, .p (callO 82 [l3, l2, l0]) pushW, .p (o1 mvG l0) w4])
 .ret)) }
theorem kf105_ok : (compFn Tryz.prog Tryz.f105 []).bind (toKFn [5, 6, 7, 8, 9] 3) = some kf105 := by kernel_rfl
noncomputable def kf58 : KFn := { params := [w0, w1], res := [(.s r4)], body :=
 (.seq
 (.reg [.p (o1 mvG (ctK (.bool false))) w4])
 (.seq
 (.reg [.p (callO 83 [r0, r1]) pushW, .p (o2 (binG (cmpB .geq geI)) l0 (ctK (.int .i64 (Int.ofNat 0)))) pushW, .p (o1 mvG l0) w4])
 .ret)) }
theorem kf58_ok : (compFn Tryz.prog Tryz.f58 []).bind (toKFn [5, 6, 7, 8] 2) = some kf58 := by kernel_rfl
noncomputable def kf83 : KFn := { params := [w0, w1], res := [(.s r4)], body :=
 (.seq
 (.reg [.p (o1 mvG (ctK (.int .i64 (Int.ofNat 0)))) w4])
 (.seq
 (.seq
 (.reg [.p (o1 lenLG r0) w7, .p (o1 mvG (ctK (.int .i64 (Int.ofNat 0)))) w8])
 (.block 0
 (.loop
 (.seq
 (.reg [.p (o2 (binG (cmpB .lss ltI)) r8 r7) w9])
 (.seq
 (.cond r9
 .skip
 (.exit 0))
 (.seq
 (.block 1
 (.seq
 (.reg [.p (o1 mvG r8) w5])
 (.seq
 (.reg [.p (o2 (iaddrG 4) r0 r5) pushW, .p (o1 (loadnG 4) l0) pushW, .p (callvO r1 [l0]) w16])
 (.cond r16
 (.seq
 (.reg [.p (o1 mvG r5) w4])
 .ret)
 .skip))))
 (.reg [.p (o2 (binG addB) r8 (ctK (.int .i64 (Int.ofNat 1)))) pushW, .p (o1 mvG l0) w8])))))))
 (.seq
 (.reg [.p (o1 mvG (ctK (.int .i64 (Int.negSucc 0)))) w4])
 .ret))) }
theorem kf83_ok : (compFn Tryz.prog Tryz.f83 [[], [0, 1, 7, 8], [0, 1, 7, 8], [0, 1, 7, 8]]).bind (toKFn [6, 10, 11, 12, 13, 14, 15, 17, 18] 2) = some kf83 := by kernel_rfl
noncomputable def kf106 : KFn := { params := [w0, w1], res := [(.s r3)], body :=
 (.seq
 (.reg [.p (o1 boxG r0) w2, .p (o1 mvG (ctK (.bool false))) w3])
 (.seq
 (.reg [.p (o1 load1G r1) pushW, .p (o1 (loadnG 4) r2) pushW, .p (callvO l1 [l0]) pushW, .p (o1 notG l0) pushW, .p (o1 mvG l0) w3])
 .ret)) }
theorem kf106_ok : (compFn Tryz.prog Tryz.f106 []).bind (toKFn [4, 5, 6, 7] 2) = some kf106 := by kernel_rfl
noncomputable def kf59 : KFn := { params := [w0], res := [(.s r2)], body :=
 (.seq
 (.reg [.p (o1 boxG r0) w1, .p (o1 mvG (ctK .snil)) w2])
 (.seq
 (.reg [.p (o1 mvG (ctK .snil)) w3])
 (.seq
 (.seq
 (.reg [.p (o1 (faddrG 4) r1) pushW, .p (o1 load1G l0) w9, .p (o1 lenLG r9) w10, .p (o1 mvG (ctK (.int .i64 (Int.ofNat 0)))) w11])
 (.block 0
 (.loop
 (.seq
 (.reg [.p (o2 (binG (cmpB .lss ltI)) r11 r10) w12])
 (.seq
 (.cond r12
 .skip
 (.exit 0))
 (.seq
 (.block 1
 (.seq
 (.reg [.p (o2 (iaddrG 5) r9 r11) pushW, .p (o1 (loadnG 5) l0) pushW, .p (allocO [(.str 0 0), (.int .i64 (Int.ofNat 0)), (.str 0 0), .snil, .snil]) w5, .p (o2 (storeG 5) r5 l0) noW])
 (.reg [.p (o1 mvG r3) pushW, .p (o1 (faddrG 1) r5) pushW, .p (o1 (loadnG 4) l0) pushW, .p (bslO 4 1 [(.int .i64 (Int.ofNat 0)), (.str 0 0), .snil, .snil] [(0, 4, l0)]) pushW, .p (o2 (appG 4) l3 l0) pushW, .p (o1 mvG l0) w3])))
 (.reg [.p (o2 (binG addB) r11 (ctK (.int .i64 (Int.ofNat 1)))) pushW, .p (o1 mvG l0) w11])))))))
 (.seq
 (.reg [.p (o1 mvG r3) pushW, .p (o1 (faddrG 0) r1) pushW, .p (o1 (loadnG 4) l0) pushW, .p (bslO 4 1 [(.int .i64 (Int.ofNat 0)), (.str 0 0), .snil, .snil] [(0, 4, l0)]) pushW, .p (o2 (appG 4) l3 l0) pushW, .p (o1 mvG l0) w3])
 (.seq
 (.seq
 (.reg [.p (o1 (faddrG 5) r1) pushW, .p (o1 load1G l0) w27, .p (o1 lenLG r27) w28, .p (o1 mvG (ctK (.int .i64 (Int.ofNat 0)))) w29])
 (.block 2
 (.loop
 (.seq
 (.reg [.p (o2 (binG (cmpB .lss ltI)) r29 r28) w30])
 (.seq
 (.cond r30
 .skip
 (.exit 2))
 (.seq
 (.block 3
 (.seq
 (.reg [.p (o2 (iaddrG 6) r27 r29) pushW, .p (o1 (loadnG 6) l0) pushW, .p (allocO [(.str 0 0), .snil, (.int .i64 (Int.ofNat 0)), (.str 0 0), .snil, .snil]) w7, .p (o2 (storeG 6) r7 l0) noW])
 (.drw [.p (o1 mvG r3) w33, .p (o1 (faddrG 1) r7) pushW, .p (o1 load1G l0) pushW, .p (o2 (appG 4) r33 l0) pushW, .p (o1 (faddrG 2) r7) w37, .p (o1 (loadnG 4) r37) pushW, .p (bslO 4 1 [(.int .i64 (Int.ofNat 0)), (.str 0 0), .snil, .snil] [(0, 4, l0)]) pushW, .p (o2 (appG 4) l2 l0) pushW, .p (o1 mvG l0) w3] [([r33], [r37])])))
 (.reg [.p (o2 (binG addB) r29 (ctK (.int .i64 (Int.ofNat 1)))) pushW, .p (o1 mvG l0) w29])))))))
 (.seq
 (.reg [.p (o1 mvG r3) w2])
 .ret)))))) }
theorem kf59_ok : (compFn Tryz.prog Tryz.f59 [[1, 3], [1, 3, 9, 10, 11], [1, 3, 9, 10, 11], [1, 3, 9, 10, 11], [3], [3, 27, 28, 29], [3, 27, 28, 29], [3, 27, 28, 29]]).bind (toKFn [8, 13, 14, 15, 16, 17, 18, 19, 20, 21, 22, 23, 24, 25, 26, 31, 32, 34, 35, 36, 38, 39, 40, 41, 42] 1) = some kf59 := by kernel_rfl
noncomputable def kf60 : KFn := { params := [w0, w1], res := [(.s r4)], body :=
 (.seq
 (.reg [.p (o1 boxG r1) w3, .p (o1 mvG (ctK (.bool false))) w4])
 (.seq
 (.seq
 (.reg [.p (o1 (faddrG 0) r3) pushW, .p (o1 load1G l0) pushW, .p (o2 (eqG eqIV false) l0 (ctK (.int .i64 (Int.ofNat 6)))) pushW, .g l0 true false none (o1 (faddrG 3) r3) pushW, .g l1 true false none (o1 load1G l0) pushW, .g l2 true false none (o1 lenLG l0) pushW, .g l3 true false none (o2 (eqG eqIV false) l0 (ctK (.int .i64 (Int.ofNat 1)))) pushW, .p (o3 pickG l4 l0 (ctK (.bool false))) w14])
 (.cond r14
 (.seq
 (.reg [.p (o1 (faddrG 3) r3) pushW, .p (o1 load1G l0) pushW, .p (o2 (iaddrG 4) l0 (ctK (.int .i64 (Int.ofNat 0)))) pushW, .p (o1 (loadnG 4) l0) pushW, .p (allocO [(.int .i64 (Int.ofNat 0)), (.str 0 0), .snil, .snil]) w5, .p (o2 (storeG 4) r5 l0) noW])
 (.seq
 (.seq
 (.reg [.p (o1 nilckG r0) pushW, .p (o1 (faddrG 0) l0) pushW, .p (o1 load1G l0) pushW, .p (o1 rngMG l0) w23])
 (.block 0
 (.loop
 (.seq
 (.reg [.p (o1 nextMG r23) pushW, .p (o1 (extG 0) l0) w25])
 (.seq
 (.cond r25
 .skip
 (.exit 0))
 (.block 1
 (.seq
 (.reg [.p (o1 (faddrG 0) r5) pushW, .p (o1 load1G l0) pushW, .p (o2 (eqG eqIV false) l0 (ctK (.int .i64 (Int.ofNat 9)))) w29])
 (.cond r29
 (.drw [.p (o1 nilckG r0) pushW, .p (o1 (faddrG 0) l0) pushW, .p (o1 load1G l0) pushW, .p (o1 (faddrG 1) r5) pushW, .p (o1 load1G l0) pushW, .p (o2 (lookupG (.one .s) (.agg [(.int .i64 (Int.ofNat 0)), (.str 0 0), .snil, .snil]) false) l2 l0) pushW, .p (o2 (storeG 4) r5 l0) noW] [])
 .skip))))))))
 (.seq
 (.reg [.p (o1 (faddrG 0) r5) pushW, .p (o1 load1G l0) pushW, .p (o2 (eqG eqIV false) l0 (ctK (.int .i64 (Int.ofNat 6)))) w39])
 (.cond r39
 (.seq
 (.reg [.p (o1 mvG (ctK (.bool true))) w4])
 .ret)
 .skip))))
 .skip))
 (.seq
 (.reg [.p (o1 (faddrG 3) r3) pushW, .p (o1 load1G l0) pushW, .p (mkfnO 60 [r0] []) pushW, .p (callO 58 [l1, l0]) pushW, .p (o1 mvG l0) w4])
 .ret))) }
theorem kf60_ok : (compFn Tryz.prog Tryz.f60 [[0, 3], [0, 3, 5], [0, 3, 5, 23], [0, 3, 5, 23]]).bind (toKFn [6, 7, 8, 9, 10, 11, 12, 13, 15, 16, 17, 18, 19, 20, 21, 22, 24, 27, 28, 30, 31, 32, 33, 34, 35, 36, 37, 38, 40, 41, 42, 43, 44] 2) = some kf60 := by kernel_rfl
noncomputable def kf34 : KFn := { params := [w0, w1], res := [(.s r4), (.s r5)], body :=
 (.seq
 (.reg [.p (o1 boxG r1) w3, .p (o1 mvG (ctK (.int .i64 (Int.ofNat 0)))) w4, .p (o1 mvG (ctK (.int .i64 (Int.ofNat 0)))) w5])
 (.seq
 (.reg [.p (allocO [(.int .i64 (Int.ofNat 0))]) w6, .p (o2 (storeG 1) r6 (ctK (.int .i64 (Int.ofNat 400)))) noW])
 (.seq
 (.reg [.p (o1 (loadnG 4) r3) pushW, .p (callO 61 [r0, l0, r6]) pushW, .p (o1 (extG 0) l0) pushW, .p (o1 (extG 1) l1) pushW, .p (o1 mvG l1) w4, .p (o1 mvG l0) w5])
 .ret))) }
theorem kf34_ok : (compFn Tryz.prog Tryz.f34 []).bind (toKFn [7, 8, 9, 10, 11] 2) = some kf34 := by kernel_rfl
noncomputable def kf61 : KFn := { params := [w0, w1, w2], res := [(.s r6), (.s r7)], body :=
 (.seq
 (.reg [.p (o1 boxG r1) w4, .p (o1 mvG (ctK (.int .i64 (Int.ofNat 0)))) w6, .p (o1 mvG (ctK (.int .i64 (Int.ofNat 0)))) w7])
 (.seq
 (.reg [.p (o1 nilckG r2) pushW, .p (o1 load1G l0) pushW, .p (o2 (binG subB) l0 (ctK (.int .i64 (Int.ofNat 1)))) pushW, .p (o1 nilckG r2) pushW, .p (o2 (storeG 1) l0 l1) noW])
 (.seq
 (.seq
 (.reg [.p (o1 nilckG r2) pushW, .p (o1 load1G l0) pushW, .p (o2 (binG (cmpB .lss ltI)) l0 (ctK (.int .i64 (Int.ofNat 0)))) pushW, .g l0 false false none (o1 (faddrG 3) r4) pushW, .g l1 false false none (o1 load1G l0) pushW, .g l2 false false none (o1 lenLG l0) pushW, .g l3 false false none (o2 (binG (cmpB .gtr gtI)) l0 (ctK (.int .i64 (Int.ofNat 8)))) pushW, .p (o3 pickG l4 (ctK (.bool true)) l0) pushW, .g l0 false false none (o1 (faddrG 2) r4) pushW, .g l1 false false none (o1 load1G l0) pushW, .g l2 false false none (o1 lenLG l0) pushW, .g l3 false false none (o2 (binG (cmpB .gtr gtI)) l0 (ctK (.int .i64 (Int.ofNat 8)))) pushW, .p (o3 pickG l4 (ctK (.bool true)) l0) w33])
 (.cond r33
 (.seq
 (.reg [.p (o1 mvG (ctK (.int .i64 (Int.ofNat 0)))) w6, .p (o1 mvG (ctK (.int .i64 (Int.ofNat 20)))) w7])
 .ret)
 .skip))
 (.seq
 (.reg [.p (o1 (faddrG 0) r4) pushW, .p (o1 load1G l0) pushW, .p (o1 (faddrG 1) r4) pushW, .p (o1 load1G l0) pushW, .p (o1 (faddrG 2) r4) pushW, .p (o1 load1G l0) pushW, .p (buildO [(.int .i64 (Int.ofNat 0)), (.str 0 0), .snil, .snil] [(0, 1, l4), (1, 1, l2), (2, 1, l0)]) pushW, .p (allocO [(.int .i64 (Int.ofNat 0)), (.str 0 0), .snil, .snil]) w8, .p (o2 (storeG 4) r8 l0) noW])
 (.seq
 (.seq
 (.reg [.p (o1 (faddrG 3) r4) pushW, .p (o1 load1G l0) w42, .p (o1 lenLG r42) w43, .p (o1 mvG (ctK (.int .i64 (Int.ofNat 0)))) w44])
 (.block 0
 (.loop
 (.seq
 (.reg [.p (o2 (binG (cmpB .lss ltI)) r44 r43) w45])
 (.seq
 (.cond r45
 .skip
 (.exit 0))
 (.seq
 (.block 1
 (.seq
 (.reg [.p (o2 (iaddrG 4) r42 r44) pushW, .p (o1 (loadnG 4) l0) pushW, .p (allocO [(.int .i64 (Int.ofNat 0)), (.str 0 0), .snil, .snil]) w10, .p (o2 (storeG 4) r10 l0) noW])
 (.seq
 (.reg [.p (o1 (loadnG 4) r10) pushW, .p (callO 61 [r0, l0, r2]) pushW, .p (o1 (extG 0) l0) pushW, .p (o1 (extG 1) l1) pushW, .p (o1 mvG l1) w11, .p (o1 mvG l0) w12])
 (.seq
 (.seq
 (.reg [.p (o2 (eqG eqIV true) r12 (ctK (.int .i64 (Int.ofNat 0)))) w56])
 (.cond r56
 (.seq
 (.reg [.p (o1 mvG (ctK (.int .i64 (Int.ofNat 0)))) w6, .p (o1 mvG r12) w7])
 .ret)
 .skip))
 (.reg [.p (o1 (faddrG 3) r8) pushW, .p (o1 load1G l0) pushW, .p (bslO 1 1 [(.int .i64 (Int.ofNat 0))] [(0, 1, r11)]) pushW, .p (o2 (appG 1) l1 l0) pushW, .p (o1 (faddrG 3) r8) pushW, .p (o2 (storeG 1) l0 l1) noW])))))
 (.reg [.p (o2 (binG addB) r44 (ctK (.int .i64 (Int.ofNat 1)))) pushW, .p (o1 mvG l0) w44])))))))
 (.seq
 (.reg [.p (o1 (loadnG 4) r8) pushW, .p (callO 84 [r0, l0]) pushW, .p (o1 (extG 0) l0) pushW, .p (o1 (extG 1) l1) pushW, .p (o1 mvG l1) w6, .p (o1 mvG l0) w7])
 .ret)))))) }
theorem kf61_ok : (compFn Tryz.prog Tryz.f61 [[0, 2, 4], [0, 8], [0, 2, 8, 42, 43, 44], [0, 2, 8, 42, 43, 44], [0, 2, 8, 42, 43, 44], [0, 2, 8, 11, 42, 43, 44]]).bind (toKFn [13, 14, 15, 16, 17, 18, 19, 20, 21, 22, 23, 24, 25, 26, 27, 28, 29, 30, 31, 32, 34, 35, 36, 37, 38, 39, 40, 41, 46, 47, 48, 49, 50, 51, 52, 53, 54, 55, 57, 58, 59, 60, 61, 62, 63, 64, 65, 66, 67, 68, 69] 3) = some kf61 := by kernel_rfl
noncomputable def kf84 : KFn := { params := [w0, w1], res := [(.s r4), (.s r5)], body :=
 (.seq
 (.reg [.p (o1 boxG r1) w3, .p (o1 mvG (ctK (.int .i64 (Int.ofNat 0)))) w4, .p (o1 mvG (ctK (.int .i64 (Int.ofNat 0)))) w5])
 (.seq
 (.reg [.p (o1 (loadnG 4) r3) pushW, .p (callO 107 [l0]) pushW, .p (allocO [(.int .i64 (Int.ofNat 0)), (.int .i64 (Int.ofNat 0)), (.int .i64 (Int.ofNat 0)), (.str 0 0), (.str 0 0), (.str 0 0), (.str 0 0), (.str 0 0), (.str 0 0), (.str 0 0), (.str 0 0), (.str 0 0), (.int .i64 (Int.ofNat 0)), (.int .i64 (Int.ofNat 0)), (.int .i64 (Int.ofNat 0)), (.int .i64 (Int.ofNat 0)), (.int .i64 (Int.ofNat 0)), (.int .i64 (Int.ofNat 0)), (.int .i64 (Int.ofNat 0)), (.int .i64 (Int.ofNat 0))]) w6, .p (o2 (storeG 20) r6 l0) noW])
 (.seq
 (.seq
 (.drw [.p (o1 nilckG r0) pushW, .p (o1 (faddrG 1) l0) pushW, .p (o1 load1G l0) pushW, .p (o1 (loadnG 20) r6) pushW, .p (o2 (lookupG (.many [.i, .i, .i, .s, .s, .s, .s, .s, .s, .s, .s, .s, .i, .i, .i, .i, .i, .i, .i, .i]) (.int .i64 (Int.ofNat 0)) true) l1 l0) pushW, .p (o1 (extG 0) l0) pushW, .p (o1 (extG 1) l1) pushW, .p (o1 mvG l1) w7, .p (o1 mvG l0) w8] [])
 (.seq
 (.drw [.g r8 true false none (o1 mvG r0) pushW, .g r8 true false none (o1 nilckG l0) pushW, .g r8 true false none (o1 (faddrG 0) l0) pushW, .g r8 true false none (o1 load1G l0) pushW, .g r8 true false none (o1 mvG r7) pushW, .g r8 true false none (o2 (iaddrG 4) l1 l0) pushW, .g r8 true false none (o1 (loadnG 4) l0) pushW, .g r8 true true none (callO 107 [l0]) pushW, .g r8 true false none (o1 (fldnG 12 8) l0) pushW, .g r8 true false none (o1 (faddrG 12) r6) pushW, .g r8 true false none (o1 (loadnG 8) l0) pushW, .g r8 true false none (o2 (eqG (slowEq (.many [.i, .i, .i, .i, .i, .i, .i, .i])) false) l2 l0) pushW, .p (o3 pickG r8 l0 (ctK (.bool false))) w34] [])
 (.cond r34
 (.seq
 (.reg [.p (o1 mvG r7) w4, .p (o1 mvG (ctK (.int .i64 (Int.ofNat 0)))) w5])
 .ret)
 .skip)))
 (.seq
 (.seq
 (.reg [.p (o1 nilckG r0) pushW, .p (o1 (faddrG 0) l0) pushW, .p (o1 load1G l0) pushW, .p (o1 lenLG l0) pushW, .p (o2 (binG (cmpB .geq geI)) l0 (ctK (.int .i64 (Int.ofNat 120)))) w41])
 (.cond r41
 (.seq
 (.reg [.p (o1 mvG (ctK (.int .i64 (Int.ofNat 0)))) w4, .p (o1 mvG (ctK (.int .i64 (Int.ofNat 20)))) w5])
 .ret)
 .skip))
 (.seq
 (.drw [.p (o1 (faddrG 2) r3) pushW, .p (o1 load1G l0) pushW, .m (callO 62 [l0]) pushW none, .p (o1 (faddrG 3) r3) pushW, .p (o1 load1G l0) pushW, .m (callO 108 [l0]) pushW (some []), .p (o1 (faddrG 2) r3) pushW, .p (o2 (storeG 1) l0 l4) noW, .p (o1 (faddrG 3) r3) pushW, .p (o2 (storeG 1) l0 l2) noW] [])
 (.seq
 (.drw [.p (o1 nilckG r0) pushW, .p (o1 (faddrG 1) l0) pushW, .p (o1 load1G l0) pushW, .p (o1 (loadnG 20) r6) pushW, .p (o1 nilckG r0) pushW, .p (o1 (faddrG 0) l0) pushW, .p (o1 load1G l0) pushW, .p (o1 lenLG l0) pushW, .p (o3 (mupdG (.many [.i, .i, .i, .s, .s, .s, .s, .s, .s, .s, .s, .s, .i, .i, .i, .i, .i, .i, .i, .i])) l5 l4 l0) noW] [])
 (.seq
 (.drw [.p (o1 nilckG r0) pushW, .p (o1 (faddrG 0) l0) pushW, .p (o1 load1G l0) pushW, .p (o1 (loadnG 4) r3) pushW, .p (bslO 4 1 [(.int .i64 (Int.ofNat 0)), (.str 0 0), .snil, .snil] [(0, 4, l0)]) pushW, .p (o2 (appG 4) l2 l0) pushW, .p (o1 nilckG r0) pushW, .p (o1 (faddrG 0) l0) pushW, .p (o2 (storeG 1) l0 l2) noW] [])
 (.seq
 (.reg [.p (o1 nilckG r0) pushW, .p (o1 (faddrG 0) l0) pushW, .p (o1 load1G l0) pushW, .p (o1 lenLG l0) pushW, .p (o2 (binG subB) l0 (ctK (.int .i64 (Int.ofNat 1)))) pushW, .p (o1 mvG l0) w4, .p (o1 mvG (ctK (.int .i64 (Int.ofNat 0)))) w5])
 .ret)))))))) }
theorem kf84_ok : (compFn Tryz.prog Tryz.f84 [[0, 3, 6], [0, 3, 6]]).bind (toKFn [9, 10, 11, 12, 13, 14, 15, 16, 17, 18, 19, 20, 21, 22, 23, 24, 25, 26, 27, 28, 29, 30, 31, 32, 33, 35, 36, 37, 38, 39, 40, 42, 43, 44, 45, 46, 47, 48, 49, 50, 51, 52, 53, 54, 55, 56, 57, 58, 59, 60, 61, 62, 63, 64, 65, 66, 67, 68, 69, 70, 71, 72, 73, 74, 75] 2) = some kf84 := by kernel_rfl
noncomputable def kf107 : KFn := { params := [w0], res := [(.cn r2 20)], body :=
 (.seq
 (.reg [.p (o1 boxG r0) w1, .p (allocO [(.int .i64 (Int.ofNat 0)), (.int .i64 (Int.ofNat 0)), (.int .i64 (Int.ofNat 0)), (.str 0 0), (.str 0 0), (.str 0 0), (.str 0 0), (.str 0 0), (.str 0 0), (.str 0 0), (.str 0 0), (.str 0 0), (.int .i64 (Int.ofNat 0)), (.int .i64 (Int.ofNat 0)), (.int .i64 (Int.ofNat 0)), (.int .i64 (Int.ofNat 0)), (.int .i64 (Int.ofNat 0)), (.int .i64 (Int.ofNat 0)), (.int .i64 (Int.ofNat 0)), (.int .i64 (Int.ofNat 0))]) w2])
 (.seq
 (.reg [.p (o1 (faddrG 0) r1) pushW, .p (o1 load1G l0) pushW, .p (o1 (faddrG 2) r1) pushW, .p (o1 load1G l0) pushW, .p (o1 lenLG l0) pushW, .p (o1 (faddrG 3) r1) pushW, .p (o1 load1G l0) pushW, .p (o1 lenLG l0) pushW, .p (o1 (faddrG 1) r1) pushW, .p (o1 load1G l0) pushW, .p (buildO [(.int .i64 (Int.ofNat 0)), (.int .i64 (Int.ofNat 0)), (.int .i64 (Int.ofNat 0)), (.str 0 0), (.str 0 0), (.str 0 0), (.str 0 0), (.str 0 0), (.str 0 0), (.str 0 0), (.str 0 0), (.str 0 0), (.int .i64 (Int.ofNat 0)), (.int .i64 (Int.ofNat 0)), (.int .i64 (Int.ofNat 0)), (.int .i64 (Int.ofNat 0)), (.int .i64 (Int.ofNat 0)), (.int .i64 (Int.ofNat 0)), (.int .i64 (Int.ofNat 0)), (.int .i64 (Int.ofNat 0))] [(0, 1, l8), (1, 1, l5), (2, 1, l2), (3, 1, l0)]) pushW, .p (allocO [(.int .i64 (Int.ofNat 0)), (.int .i64 (Int.ofNat 0)), (.int .i64 (Int.ofNat 0)), (.str 0 0), (.str 0 0), (.str 0 0), (.str 0 0), (.str 0 0), (.str 0 0), (.str 0 0), (.str 0 0), (.str 0 0), (.int .i64 (Int.ofNat 0)), (.int .i64 (Int.ofNat 0)), (.int .i64 (Int.ofNat 0)), (.int .i64 (Int.ofNat 0)), (.int .i64 (Int.ofNat 0)), (.int .i64 (Int.ofNat 0)), (.int .i64 (Int.ofNat 0)), (.int .i64 (Int.ofNat 0))]) w3, .p (o2 (storeG 20) r3 l0) noW])
 (.seq
 (.drw [.p (o1 (faddrG 4) r3) pushW, .p (cutAO 8 1 l0 none none none) pushW, .p (o1 (faddrG 2) r1) pushW, .p (o1 load1G l0) pushW, .p (o2 (copyG 1) l2 l0) pushW] [])
 (.seq
 (.drw [.p (o1 (faddrG 12) r3) pushW, .p (cutAO 8 1 l0 none none none) pushW, .p (o1 (faddrG 3) r1) pushW, .p (o1 load1G l0) pushW, .p (o2 (copyG 1) l2 l0) pushW] [])
 (.seq
 (.reg [.p (o1 (loadnG 20) r3) pushW, .p (o2 (storeG 20) r2 l0) noW])
 .ret))))) }
theorem kf107_ok : (compFn Tryz.prog Tryz.f107 []).bind (toKFn [4, 5, 6, 7, 8, 9, 10, 11, 12, 13, 14, 15, 16, 17, 18, 19, 20, 21, 22, 23, 24, 25] 1) = some kf107 := by kernel_rfl
noncomputable def kf62 : KFn := { params := [w0], res := [(.s r2)], body :=
 (.seq
 (.reg [.p (o1 mvG (ctK .snil)) w2])
 (.seq
 (.seq
 (.reg [.p (o2 (eqG (slowEq (.one .l)) false) r0 (ctK .snil)) w4])
 (.cond r4
 (.seq
 (.reg [.p (o1 mvG (ctK .snil)) w2])
 .ret)
 .skip))
 (.seq
 (.reg [.p (bslO 1 0 [] []) pushW, .p (o2 (appG 1) l0 r0) pushW, .p (o1 mvG l0) w2])
 .ret))) }
theorem kf62_ok : (compFn Tryz.prog Tryz.f62 [[0]]).bind (toKFn [3, 5, 6, 7] 1) = some kf62 := by kernel_rfl
noncomputable def kf108 : KFn := { params := [w0], res := [(.s r2)], body :=
 (.seq
 (.reg [.p (o1 mvG (ctK .snil)) w2])
 (.seq
 (.seq
 (.reg [.p (o2 (eqG (slowEq (.one .l)) false) r0 (ctK .snil)) w4])
 (.cond r4
 (.seq
 (.reg [.p (o1 mvG (ctK .snil)) w2])
 .ret)
 .skip))
 (.seq
 (.reg [.p (bslO 1 0 [] []) pushW, .p (o2 (appG 1) l0 r0) pushW, .p (o1 mvG l0) w2])
 .ret))) }
theorem kf108_ok : (compFn Tryz.prog Tryz.f108 [[0]]).bind (toKFn [3, 5, 6, 7] 1) = some kf108 := by kernel_rfl
noncomputable def kf14 : KFn := { params := [w0], res := [(.cn r2 6)], body :=
 (.seq
 (.reg [.p (o1 boxG r0) w1, .p (allocO [(.int .i64 (Int.ofNat 0)), (.str 0 0), .snil, .snil, .snil, .snil]) w2])
 (.seq
 (.reg [.p (o1 (faddrG 0) r1) pushW, .p (o1 (loadnG 4) l0) pushW, .p (callO 36 [l0]) pushW, .p (buildO [(.int .i64 (Int.ofNat 0)), (.str 0 0), .snil, .snil, .snil, .snil] [(0, 4, l0)]) pushW, .p (allocO [(.int .i64 (Int.ofNat 0)), (.str 0 0), .snil, .snil, .snil, .snil]) w3, .p (o2 (storeG 6) r3 l0) noW])
 (.seq
 (.seq
 (.reg [.p (o1 (faddrG 4) r1) pushW, .p (o1 load1G l0) w16, .p (o1 lenLG r16) w17, .p (o1 mvG (ctK (.int .i64 (Int.ofNat 0)))) w18])
 (.block 0
 (.loop
 (.seq
 (.reg [.p (o2 (binG (cmpB .lss ltI)) r18 r17) w19])
 (.seq
 (.cond r19
 .skip
 (.exit 0))
 (.seq
 (.block 1
 (.seq
 (.reg [.p (o2 (iaddrG 5) r16 r18) pushW, .p (o1 (loadnG 5) l0) pushW, .p (allocO [(.str 0 0), (.int .i64 (Int.ofNat 0)), (.str 0 0), .snil, .snil]) w5, .p (o2 (storeG 5) r5 l0) noW])
 (.drw [.p (o1 (faddrG 4) r3) w22, .p (o1 load1G r22) pushW, .p (o1 (faddrG 0) r5) w24, .p (o1 load1G r24) pushW, .p (o1 (faddrG 1) r5) pushW, .p (o1 (loadnG 4) l0) pushW, .m (callO 36 [l0]) pushW (some [22, 24]), .p (buildO [(.str 0 0), (.int .i64 (Int.ofNat 0)), (.str 0 0), .snil, .snil] [(0, 1, l3), (1, 4, l0)]) pushW, .p (bslO 5 1 [(.str 0 0), (.int .i64 (Int.ofNat 0)), (.str 0 0), .snil, .snil] [(0, 5, l0)]) pushW, .p (o2 (appG 5) l6 l0) pushW, .p (o1 (faddrG 4) r3) pushW, .p (o2 (storeG 1) l0 l1) noW] [])))
 (.reg [.p (o2 (binG addB) r18 (ctK (.int .i64 (Int.ofNat 1)))) pushW, .p (o1 mvG l0) w18])))))))
 (.seq
 (.seq
 (.reg [.p (o1 (faddrG 5) r1) pushW, .p (o1 load1G l0) w35, .p (o1 lenLG r35) w36, .p (o1 mvG (ctK (.int .i64 (Int.ofNat 0)))) w37])
 (.block 2
 (.loop
 (.seq
 (.reg [.p (o2 (binG (cmpB .lss ltI)) r37 r36) w38])
 (.seq
 (.cond r38
 .skip
 (.exit 2))
 (.seq
 (.block 3
 (.seq
 (.reg [.p (o2 (iaddrG 6) r35 r37) pushW, .p (o1 (loadnG 6) l0) pushW, .p (allocO [(.str 0 0), .snil, (.int .i64 (Int.ofNat 0)), (.str 0 0), .snil, .snil]) w7, .p (o2 (storeG 6) r7 l0) noW])
 (.seq
 (.drw [.p (o1 (faddrG 0) r7) w41, .p (o1 load1G r41) pushW, .p (o1 (faddrG 2) r7) pushW, .p (o1 (loadnG 4) l0) pushW, .m (callO 36 [l0]) pushW (some [41]), .p (buildO [(.str 0 0), .snil, (.int .i64 (Int.ofNat 0)), (.str 0 0), .snil, .snil] [(0, 1, l3), (2, 4, l0)]) pushW, .p (allocO [(.str 0 0), .snil, (.int .i64 (Int.ofNat 0)), (.str 0 0), .snil, .snil]) w8, .p (o2 (storeG 6) r8 l0) noW] [])
 (.seq
 (.seq
 (.reg [.p (o1 (faddrG 1) r7) pushW, .p (o1 load1G l0) w48, .p (o1 lenLG r48) w49, .p (o1 mvG (ctK (.int .i64 (Int.ofNat 0)))) w50])
 (.block 4
 (.loop
 (.seq
 (.reg [.p (o2 (binG (cmpB .lss ltI)) r50 r49) w51])
 (.seq
 (.cond r51
 .skip
 (.exit 4))
 (.seq
 (.block 5
 (.seq
 (.reg [.p (o2 (iaddrG 4) r48 r50) pushW, .p (o1 (loadnG 4) l0) pushW, .p (allocO [(.int .i64 (Int.ofNat 0)), (.str 0 0), .snil, .snil]) w10, .p (o2 (storeG 4) r10 l0) noW])
 (.drw [.p (o1 (faddrG 1) r8) w54, .p (o1 load1G r54) pushW, .p (o1 (loadnG 4) r10) pushW, .m (callO 36 [l0]) pushW (some [54]), .p (bslO 4 1 [(.int .i64 (Int.ofNat 0)), (.str 0 0), .snil, .snil] [(0, 4, l0)]) pushW, .p (o2 (appG 4) l3 l0) pushW, .p (o1 (faddrG 1) r8) pushW, .p (o2 (storeG 1) l0 l1) noW] [])))
 (.reg [.p (o2 (binG addB) r50 (ctK (.int .i64 (Int.ofNat 1)))) pushW, .p (o1 mvG l0) w50])))))))
 (.reg [.p (o1 (faddrG 5) r3) pushW, .p (o1 load1G l0) pushW, .p (o1 (loadnG 6) r8) pushW, .p (bslO 6 1 [(.str 0 0), .snil, (.int .i64 (Int.ofNat 0)), (.str 0 0), .snil, .snil] [(0, 6, l0)]) pushW, .p (o2 (appG 6) l2 l0) pushW, .p (o1 (faddrG 5) r3) pushW, .p (o2 (storeG 1) l0 l1) noW])))))
 (.reg [.p (o2 (binG addB) r37 (ctK (.int .i64 (Int.ofNat 1)))) pushW, .p (o1 mvG l0) w37])))))))
 (.seq
 (.reg [.p (o1 (loadnG 6) r3) pushW, .p (o2 (storeG 6) r2 l0) noW])
 .ret))))) }
theorem kf14_ok : (compFn Tryz.prog Tryz.f14 [[1, 2, 3], [1, 2, 3, 16, 17, 18], [1, 2, 3, 16, 17, 18], [1, 2, 3, 16, 17, 18], [2, 3], [2, 3, 35, 36, 37], [2, 3, 35, 36, 37], [2, 3, 35, 36, 37], [2, 3, 8, 35, 36, 37], [2, 3, 8, 35, 36, 37, 48, 49, 50], [2, 3, 8, 35, 36, 37, 48, 49, 50], [2, 3, 8, 35, 36, 37, 48, 49, 50]]).bind (toKFn [11, 12, 13, 14, 15, 20, 21, 23, 25, 26, 27, 28, 29, 30, 31, 32, 33, 34, 39, 40, 42, 43, 44, 45, 46, 47, 52, 53, 55, 56, 57, 58, 59, 60, 61, 62, 63, 64, 65, 66, 67, 68, 69] 1) = some kf14 := by kernel_rfl
noncomputable def kf36 : KFn := { params := [w0], res := [(.cn r2 4)], body :=
 (.seq
 (.reg [.p (o1 boxG r0) w1, .p (allocO [(.int .i64 (Int.ofNat 0)), (.str 0 0), .snil, .snil]) w2])
 (.seq
 (.drw [.p (o1 (faddrG 2) r1) pushW, .p (o1 load1G l0) pushW, .m (callO 62 [l0]) pushW none, .p (o1 (faddrG 3) r1) pushW, .p (o1 load1G l0) pushW, .m (callO 35 [l0]) pushW (some []), .p (o1 (faddrG 2) r1) pushW, .p (o2 (storeG 1) l0 l4) noW, .p (o1 (faddrG 3) r1) pushW, .p (o2 (storeG 1) l0 l2) noW] [])
 (.seq
 (.seq
 (.reg [.p (o1 (faddrG 3) r1) pushW, .p (o1 load1G l0) w14, .p (o1 lenLG r14) w15, .p (o1 mvG (ctK (.int .i64 (Int.ofNat 0)))) w16])
 (.block 0
 (.loop
 (.seq
 (.reg [.p (o2 (binG (cmpB .lss ltI)) r16 r15) w17])
 (.seq
 (.cond r17
 .skip
 (.exit 0))
 (.seq
 (.block 1
 (.seq
 (.reg [.p (o2 (iaddrG 4) r14 r16) pushW, .p (o1 (loadnG 4) l0) pushW, .p (allocO [(.int .i64 (Int.ofNat 0)), (.str 0 0), .snil, .snil]) w4, .p (o1 mvG r16) w3, .p (o2 (storeG 4) r4 l0) noW])
 (.drw [.p (o1 (faddrG 3) r1) w21, .p (o1 load1G r21) pushW, .p (o1 (loadnG 4) r4) pushW, .m (callO 36 [l0]) pushW (some [21]), .p (o2 (iaddrG 4) l2 r3) pushW, .p (o2 (storeG 4) l0 l1) noW] [])))
 (.reg [.p (o2 (binG addB) r16 (ctK (.int .i64 (Int.ofNat 1)))) pushW, .p (o1 mvG l0) w16])))))))
 (.seq
 (.reg [.p (o1 (loadnG 4) r1) pushW, .p (o2 (storeG 4) r2 l0) noW])
 .ret)))) }
theorem kf36_ok : (compFn Tryz.prog Tryz.f36 [[1, 2], [1, 2, 14, 15, 16], [1, 2, 14, 15, 16], [1, 2, 14, 15, 16]]).bind (toKFn [5, 6, 7, 8, 9, 10, 11, 12, 13, 18, 19, 20, 22, 23, 24, 25, 26, 27, 28] 1) = some kf36 := by kernel_rfl
noncomputable def kf15 : KFn := { params := [w0], res := [(.s r2)], body :=
 (.seq
 (.reg [.p (o1 mvG (ctK .snil)) w2])
 (.seq
 (.reg [.p (callO 37 [r0]) pushW, .p (o1 mvG l0) w3])
 (.seq
 (.seq
 (.reg [.p (o1 mvG r3) w8, .p (o1 lenLG r8) w9, .p (o1 mvG (ctK (.int .i64 (Int.ofNat 0)))) w10])
 (.block 0
 (.loop
 (.seq
 (.reg [.p (o2 (binG (cmpB .lss ltI)) r10 r9) w11])
 (.seq
 (.cond r11
 .skip
 (.exit 0))
 (.seq
 (.block 1
 (.seq
 (.reg [.p (o2 (iaddrG 2) r8 r10) pushW, .p (o1 (loadnG 2) l0) pushW, .p (allocO [(.str 0 0), .snil]) w5, .p (o1 mvG r10) w4, .p (o2 (storeG 2) r5 l0) noW])
 (.reg [.p (o1 (faddrG 1) r5) pushW, .p (o1 load1G l0) pushW, .p (callO 38 [l0]) pushW, .p (o2 (iaddrG 2) r3 r4) pushW, .p (o1 (faddrG 1) l0) pushW, .p (o2 (storeG 1) l0 l2) noW])))
 (.reg [.p (o2 (binG addB) r10 (ctK (.int .i64 (Int.ofNat 1)))) pushW, .p (o1 mvG l0) w10])))))))
 (.seq
 (.reg [.p (o1 mvG r3) w2])
 .ret)))) }
theorem kf15_ok : (compFn Tryz.prog Tryz.f15 [[3], [3, 8, 9, 10], [3, 8, 9, 10], [3, 8, 9, 10]]).bind (toKFn [6, 7, 12, 13, 14, 15, 16, 17, 18, 19, 20, 21, 22, 23] 1) = some kf15 := by kernel_rfl
noncomputable def kf37 : KFn := { params := [w0], res := [(.s r2)], body :=
 (.seq
 (.reg [.p (o1 mvG (ctK .snil)) w2])
 (.seq
 (.seq
 (.reg [.p (o2 (eqG (slowEq (.one .l)) false) r0 (ctK .snil)) w4])
 (.cond r4
 (.seq
 (.reg [.p (o1 mvG (ctK .snil)) w2])
 .ret)
 .skip))
 (.seq
 (.reg [.p (bslO 2 0 [] []) pushW, .p (o2 (appG 2) l0 r0) pushW, .p (o1 mvG l0) w2])
 .ret))) }
theorem kf37_ok : (compFn Tryz.prog Tryz.f37 [[0]]).bind (toKFn [3, 5, 6, 7] 1) = some kf37 := by kernel_rfl
noncomputable def kf38 : KFn := { params := [w0], res := [(.s r2)], body :=
 (.seq
 (.reg [.p (o1 mvG (ctK .snil)) w2])
 (.seq
 (.reg [.p (callO 63 [r0]) pushW, .p (o1 mvG l0) w3])
 (.seq
 (.seq
 (.reg [.p (o1 mvG r3) w10, .p (o1 lenLG r10) w11, .p (o1 mvG (ctK (.int .i64 (Int.ofNat 0)))) w12])
 (.block 0
 (.loop
 (.seq
 (.reg [.p (o2 (binG (cmpB .lss ltI)) r12 r11) w13])
 (.seq
 (.cond r13
 .skip
 (.exit 0))
 (.seq
 (.block 1
 (.seq
 (.reg [.p (o2 (iaddrG 9) r10 r12) pushW, .p (o1 (loadnG 9) l0) pushW, .p (allocO [(.int .i64 (Int.ofNat 0)), (.int .i64 (Int.ofNat 0)), (.str 0 0), (.str 0 0), .snil, .snil, .snil, (.bool false), .snil]) w5, .p (o1 mvG r12) w4, .p (o2 (storeG 9) r5 l0) noW])
 (.seq
 (.drw [.p (o1 (faddrG 4) r5) pushW, .p (o1 load1G l0) pushW, .m (callO 64 [l0]) pushW none, .p (o1 (faddrG 5) r5) pushW, .p (o1 load1G l0) pushW, .m (callO 38 [l0]) pushW none, .p (o1 (faddrG 6) r5) pushW, .p (o1 load1G l0) pushW, .m (callO 38 [l0]) pushW none, .p (o1 (faddrG 8) r5) pushW, .p (o1 load1G l0) pushW, .m (callO 65 [l0]) pushW (some []), .p (o1 (faddrG 4) r5) pushW, .p (o2 (storeG 1) l0 l10) noW, .p (o1 (faddrG 5) r5) pushW, .p (o2 (storeG 1) l0 l8) noW, .p (o1 (faddrG 6) r5) pushW, .p (o2 (storeG 1) l0 l6) noW, .p (o1 (faddrG 8) r5) pushW, .p (o2 (storeG 1) l0 l4) noW] [])
 (.seq
 (.seq
 (.reg [.p (o1 (faddrG 8) r5) pushW, .p (o1 load1G l0) w34, .p (o1 lenLG r34) w35, .p (o1 mvG (ctK (.int .i64 (Int.ofNat 0)))) w36])
 (.block 2
 (.loop
 (.seq
 (.reg [.p (o2 (binG (cmpB .lss ltI)) r36 r35) w37])
 (.seq
 (.cond r37
 .skip
 (.exit 2))
 (.seq
 (.block 3
 (.seq
 (.reg [.p (o2 (iaddrG 2) r34 r36) pushW, .p (o1 (loadnG 2) l0) pushW, .p (allocO [(.str 0 0), .snil]) w7, .p (o1 mvG r36) w6, .p (o2 (storeG 2) r7 l0) noW])
 (.drw [.p (o1 (faddrG 8) r5) w41, .p (o1 load1G r41) pushW, .p (o1 (faddrG 1) r7) pushW, .p (o1 load1G l0) pushW, .m (callO 38 [l0]) pushW (some [41]), .p (o2 (iaddrG 2) l3 r6) pushW, .p (o1 (faddrG 1) l0) pushW, .p (o2 (storeG 1) l0 l2) noW] [])))
 (.reg [.p (o2 (binG addB) r36 (ctK (.int .i64 (Int.ofNat 1)))) pushW, .p (o1 mvG l0) w36])))))))
 (.reg [.p (o1 (loadnG 9) r5) pushW, .p (o2 (iaddrG 9) r3 r4) pushW, .p (o2 (storeG 9) l0 l1) noW])))))
 (.reg [.p (o2 (binG addB) r12 (ctK (.int .i64 (Int.ofNat 1)))) pushW, .p (o1 mvG l0) w12])))))))
 (.seq
 (.reg [.p (o1 mvG r3) w2])
 .ret)))) }
theorem kf38_ok : (compFn Tryz.prog Tryz.f38 [[3], [3, 10, 11, 12], [3, 10, 11, 12], [3, 10, 11, 12], [3, 4, 5, 10, 11, 12], [3, 4, 5, 10, 11, 12, 34, 35, 36], [3, 4, 5, 10, 11, 12, 34, 35, 36], [3, 4, 5, 10, 11, 12, 34, 35, 36]]).bind (toKFn [8, 9, 14, 15, 16, 17, 18, 19, 20, 21, 22, 23, 24, 25, 26, 27, 28, 29, 30, 31, 32, 33, 38, 39, 40, 42, 43, 44, 45, 46, 47, 48, 49, 50, 51, 52, 53, 54, 55] 1) = some kf38 := by kernel_rfl
noncomputable def kf63 : KFn := { params := [w0], res := [(.s r2)], body :=
 (.seq
 (.reg [.p (o1 mvG (ctK .snil)) w2])
 (.seq
 (.seq
 (.reg [.p (o2 (eqG (slowEq (.one .l)) false) r0 (ctK .snil)) w4])
 (.cond r4
 (.seq
 (.reg [.p (o1 mvG (ctK .snil)) w2])
 .ret)
 .skip))
 (.seq
 (.reg [.p (bslO 9 0 [] []) pushW, .p (o2 (appG 9) l0 r0) pushW, .p (o1 mvG l0) w2])
 .ret))) }
theorem kf63_ok : (compFn Tryz.prog Tryz.f63 [[0]]).bind (toKFn [3, 5, 6, 7] 1) = some kf63 := by kernel_rfl
noncomputable def kf64 : KFn := { params := [w0], res := [(.s r2)], body :=
 (.seq
 (.reg [.p (o1 mvG (ctK .snil)) w2])
 (.seq
 (.reg [.p (callO 85 [r0]) pushW, .p (o1 mvG l0) w3])
 (.seq
 (.seq
 (.reg [.p (o1 mvG r3) w10, .p (o1 lenLG r10) w11, .p (o1 mvG (ctK (.int .i64 (Int.ofNat 0)))) w12])
 (.block 0
 (.loop
 (.seq
 (.reg [.p (o2 (binG (cmpB .lss ltI)) r12 r11) w13])
 (.seq
 (.cond r13
 .skip
 (.exit 0))
 (.seq
 (.block 1
 (.seq
 (.reg [.p (o2 (iaddrG 1) r10 r12) pushW, .p (o1 (loadnG 1) l0) pushW, .p (allocO [.snil]) w5, .p (o1 mvG r12) w4, .p (o2 (storeG 1) r5 l0) noW])
 (.seq
 (.reg [.p (o1 (faddrG 0) r5) pushW, .p (o1 load1G l0) pushW, .p (callO 86 [l0]) pushW, .p (o2 (iaddrG 1) r3 r4) pushW, .p (o1 (faddrG 0) l0) pushW, .p (o2 (storeG 1) l0 l2) noW])
 (.seq
 (.reg [.p (o2 (iaddrG 1) r3 r4) pushW, .p (o1 (faddrG 0) l0) pushW, .p (o1 load1G l0) w28, .p (o1 lenLG r28) w29, .p (o1 mvG (ctK (.int .i64 (Int.ofNat 0)))) w30])
 (.block 2
 (.loop
 (.seq
 (.reg [.p (o2 (binG (cmpB .lss ltI)) r30 r29) w31])
 (.seq
 (.cond r31
 .skip
 (.exit 2))
 (.seq
 (.block 3
 (.seq
 (.reg [.p (o2 (iaddrG 7) r28 r30) pushW, .p (o1 (loadnG 7) l0) pushW, .p (allocO [(.int .i64 (Int.ofNat 0)), (.str 0 0), .snil, (.str 0 0), (.int .i64 (Int.ofNat 0)), (.bool false), .snil]) w7, .p (o1 mvG r30) w6, .p (o2 (storeG 7) r7 l0) noW])
 (.drw [.p (o2 (iaddrG 1) r3 r4) pushW, .p (o1 (faddrG 0) l0) w38, .p (o1 load1G r38) pushW, .p (o2 (iaddrG 1) r3 r4) pushW, .p (o1 (faddrG 0) l0) w44, .p (o1 load1G r44) pushW, .p (o1 (faddrG 2) r7) pushW, .p (o1 load1G l0) pushW, .m (callO 62 [l0]) pushW none, .p (o1 (faddrG 6) r7) pushW, .p (o1 load1G l0) pushW, .m (callO 64 [l0]) pushW (some [38, 44]), .p (o2 (iaddrG 7) l8 r6) pushW, .p (o1 (faddrG 2) l0) pushW, .p (o2 (storeG 1) l0 l5) noW, .p (o2 (iaddrG 7) l8 r6) pushW, .p (o1 (faddrG 6) l0) pushW, .p (o2 (storeG 1) l0 l4) noW] [])))
 (.reg [.p (o2 (binG addB) r30 (ctK (.int .i64 (Int.ofNat 1)))) pushW, .p (o1 mvG l0) w30]))))))))))
 (.reg [.p (o2 (binG addB) r12 (ctK (.int .i64 (Int.ofNat 1)))) pushW, .p (o1 mvG l0) w12])))))))
 (.seq
 (.reg [.p (o1 mvG r3) w2])
 .ret)))) }
theorem kf64_ok : (compFn Tryz.prog Tryz.f64 [[3], [3, 10, 11, 12], [3, 10, 11, 12], [3, 10, 11, 12], [3, 4, 10, 11, 12, 28, 29, 30], [3, 4, 10, 11, 12, 28, 29, 30], [3, 4, 10, 11, 12, 28, 29, 30]]).bind (toKFn [8, 9, 14, 15, 16, 17, 18, 19, 20, 21, 22, 23, 24, 25, 26, 27, 32, 33, 34, 35, 36, 37, 39, 40, 41, 42, 43, 45, 46, 47, 48, 49, 50, 51, 52, 53, 54, 55, 56, 57, 58, 59] 1) = some kf64 := by kernel_rfl
noncomputable def kf85 : KFn := { params := [w0], res := [(.s r2)], body :=
 (.seq
 (.reg [.p (o1 mvG (ctK .snil)) w2])
 (.seq
 (.seq
 (.reg [.p (o2 (eqG (slowEq (.one .l)) false) r0 (ctK .snil)) w4])
 (.cond r4
 (.seq
 (.reg [.p (o1 mvG (ctK .snil)) w2])
 .ret)
 .skip))
 (.seq
 (.reg [.p (bslO 1 0 [] []) pushW, .p (o2 (appG 1) l0 r0) pushW, .p (o1 mvG l0) w2])
 .ret))) }
theorem kf85_ok : (compFn Tryz.prog Tryz.f85 [[0]]).bind (toKFn [3, 5, 6, 7] 1) = some kf85 := by kernel_rfl
noncomputable def kf86 : KFn := { params := [w0], res := [(.s r2)], body :=
 (.seq
 (.reg [.p (o1 mvG (ctK .snil)) w2])
 (.seq
 (.seq
 (.reg [.p (o2 (eqG (slowEq (.one .l)) false) r0 (ctK .snil)) w4])
 (.cond r4
 (.seq
 (.reg [.p (o1 mvG (ctK .snil)) w2])
 .ret)
 .skip))
 (.seq
 (.reg [.p (bslO 7 0 [] []) pushW, .p (o2 (appG 7) l0 r0) pushW, .p (o1 mvG l0) w2])
 .ret))) }
theorem kf86_ok : (compFn Tryz.prog Tryz.f86 [[0]]).bind (toKFn [3, 5, 6, 7] 1) = some kf86 := by kernel_rfl
noncomputable def kf65 : KFn := { params := [w0], res := [(.s r2)], body :=
 (.seq
 (.reg [.p (o1 mvG (ctK .snil)) w2])
 (.seq
 (.seq
 (.reg [.p (o2 (eqG (slowEq (.one .l)) false) r0 (ctK .snil)) w4])
 (.cond r4
 (.seq
 (.reg [.p (o1 mvG (ctK .snil)) w2])
 .ret)
 .skip))
 (.seq
 (.reg [.p (bslO 2 0 [] []) pushW, .p (o2 (appG 2) l0 r0) pushW, .p (o1 mvG l0) w2])
 .ret))) }
theorem kf65_ok : (compFn Tryz.prog Tryz.f65 [[0]]).bind (toKFn [3, 5, 6, 7] 1) = some kf65 := by kernel_rfl
noncomputable def kf16 : KFn := { params := [w0], res := [(.s r2)], body :=
 (.seq
 (.reg [.p (o1 mvG (ctK (.int .i64 (Int.ofNat 0)))) w2])
 (.seq
 (.reg [.p (o1 nilckG r0) pushW, .p (o1 (faddrG 3) l0) pushW, .p (o1 load1G l0) pushW, .p (o1 mvG l0) w2])
 .ret)) }
theorem kf16_ok : (compFn Tryz.prog Tryz.f16 []).bind (toKFn [3, 4, 5, 6] 1) = some kf16 := by kernel_rfl
noncomputable def kf17 : KFn := { params := [w0, w1, w2, w3], res := [(.s r8), (.s r9), (.s r10)], body :=
 (.seq
 (.reg [.p (o1 mvG (ctK .snil)) w8, .p (o1 mvG (ctK (.int .i64 (Int.ofNat 0)))) w9, .p (o1 mvG (ctK (.int .i64 (Int.ofNat 0)))) w10])
 (.seq
 (.reg [.p (buildO [.pnil, .snil, .snil, (.int .i64 (Int.ofNat 0))] [(0, 1, r0), (1, 1, r1), (3, 1, (ctK (.int .i64 (Int.negSucc 0))))]) pushW, .p (o1 boxG l0) pushW, .p (o1 mvG l0) w11])
 (.seq
 (.seq
 (.reg [.p (buildO [(.int .i64 (Int.ofNat 0)), .snil, .snil] [(0, 1, r2)]) pushW, .p (callO 39 [r11, l0, r3]) pushW, .p (o1 mvG l0) w12])
 (.seq
 (.reg [.p (o2 (eqG eqIV true) r12 (ctK (.int .i64 (Int.ofNat 0)))) w23])
 (.cond r23
 (.seq
 (.drw [.p (o1 nilckG r11) pushW, .p (o1 (faddrG 3) l0) pushW, .p (o1 load1G l0) pushW, .p (o1 mvG (ctK .snil)) w8, .p (o1 mvG l0) w9, .p (o1 mvG r12) w10] [])
 .ret)
 .skip)))
 (.seq
 (.reg [.p (o1 nilckG r11) pushW, .p (o1 (faddrG 2) l0) pushW, .p (o1 load1G l0) pushW, .p (o1 mvG l0) w8, .p (o1 mvG (ctK (.int .i64 (Int.ofNat 0)))) w9, .p (o1 mvG (ctK (.int .i64 (Int.ofNat 0)))) w10])
 .ret)))) }
theorem kf17_ok : (compFn Tryz.prog Tryz.f17 [[11]]).bind (toKFn [13, 14, 15, 16, 17, 18, 19, 20, 21, 22, 24, 25, 26, 27, 28, 29, 30, 31, 32] 4) = some kf17 := by kernel_rfl
noncomputable def kf39 : KFn := { params := [w0, w1, w2], res := [(.s r6)], body :=
 (.seq
 (.reg [.p (o1 boxG r1) w4, .p (o1 mvG (ctK (.int .i64 (Int.ofNat 0)))) w6])
 (.seq
 (.seq
 (.reg [.p (o1 mvG r2) w12, .p (o1 lenLG r12) w13, .p (o1 mvG (ctK (.int .i64 (Int.ofNat 0)))) w14])
 (.block 0
 (.loop
 (.seq
 (.reg [.p (o2 (binG (cmpB .lss ltI)) r14 r13) w15])
 (.seq
 (.cond r15
 .skip
 (.exit 0))
 (.seq
 (.block 1
 (.seq
 (.reg [.p (o2 (iaddrG 9) r12 r14) pushW, .p (o1 (loadnG 9) l0) pushW, .p (allocO [(.int .i64 (Int.ofNat 0)), (.int .i64 (Int.ofNat 0)), (.str 0 0), (.str 0 0), .snil, .snil, .snil, (.bool false), .snil]) w8, .p (o2 (storeG 9) r8 l0) noW])
 (.seq
 (.reg [.p (o1 mvG (ctK (.int .i64 (Int.ofNat 0)))) w9, .p (o1 mvG (ctK (.int .i64 (Int.ofNat 0)))) w10])
 (.seq
 (.seq
 (.reg [.p (o1 (faddrG 0) r8) pushW, .p (o1 load1G l0) pushW, .p (o2 (eqG eqIV true) l0 (ctK (.int .i64 (Int.ofNat 1)))) pushW, .g l0 true false none (o1 (faddrG 0) r8) pushW, .g l1 true false none (o1 load1G l0) pushW, .g l2 true false none (o2 (eqG eqIV true) l0 (ctK (.int .i64 (Int.ofNat 9)))) pushW, .g l3 true false none (o1 mvG l0) pushW, .g l0 false false none (o1 (faddrG 4) r8) pushW, .g l1 false false none (o1 load1G l0) pushW, .g l2 false false none (o1 lenLG l0) pushW, .g l3 false false none (o2 (binG (cmpB .gtr gtI)) l0 (ctK (.int .i64 (Int.ofNat 0)))) pushW, .g l8 true false none (o3 pickG l4 (ctK (.bool true)) l0) pushW, .p (o3 pickG l9 l0 (ctK (.bool false))) w31])
 (.cond r31
 (.drw [.p (o1 nilckG r0) pushW, .p (o1 (faddrG 0) l0) pushW, .p (o1 load1G l0) pushW, .p (o1 (loadnG 3) r4) pushW, .p (o1 (faddrG 4) r8) pushW, .p (o1 load1G l0) pushW, .m (callO 66 [l3, l2, l0]) pushW (some []), .p (o1 (extG 0) l0) pushW, .p (o1 (extG 1) l1) pushW, .p (o1 mvG l1) w9, .p (o1 mvG l0) w10] [])
 .skip))
 (.seq
 (.reg [.p (o1 nilckG r0) pushW, .p (o1 (faddrG 3) l0) pushW, .p (o1 load1G l0) pushW, .p (o1 mvG l0) w11])
 (.seq
 (.reg [.p (o1 nilckG r0) pushW, .p (o1 (faddrG 3) l0) pushW, .p (o2 (storeG 1) l0 (ctK (.int .i64 (Int.negSucc 0)))) noW])
 (.seq
 (.seq
 (.reg [.p (o2 (eqG eqIV false) r10 (ctK (.int .i64 (Int.ofNat 0)))) w51])
 (.cond r51
 (.reg [.p (o1 (loadnG 3) r4) pushW, .p (o1 (loadnG 9) r8) pushW, .p (callO 67 [r0, l1, l0, r9]) pushW, .p (o1 mvG l0) w10])
 .skip))
 (.seq
 (.seq
 (.reg [.p (o2 (eqG eqIV true) r10 (ctK (.int .i64 (Int.ofNat 0)))) w58])
 (.cond r58
 (.seq
 (.seq
 (.reg [.p (o1 nilckG r0) pushW, .p (o1 (faddrG 3) l0) pushW, .p (o1 load1G l0) pushW, .p (o2 (binG (cmpB .lss ltI)) l0 (ctK (.int .i64 (Int.ofNat 0)))) w63])
 (.cond r63
 (.reg [.p (o1 (faddrG 1) r8) pushW, .p (o1 load1G l0) pushW, .p (o1 nilckG r0) pushW, .p (o1 (faddrG 3) l0) pushW, .p (o2 (storeG 1) l0 l2) noW])
 .skip))
 (.seq
 (.reg [.p (o1 mvG r10) w6])
 .ret))
 .skip))
 (.seq
 (.reg [.p (o1 nilckG r0) pushW, .p (o1 (faddrG 3) l0) pushW, .p (o2 (storeG 1) l0 r11) noW])
 (.seq
 (.reg [.p (o1 (faddrG 0) r8) pushW, .p (o1 load1G l0) pushW, .p (o2 (eqG eqIV false) l0 (ctK (.int .i64 (Int.ofNat 3)))) w76])
 (.cond r76
 (.reg [.p (o1 (loadnG 3) r4) pushW, .p (o1 (faddrG 3) r8) pushW, .p (o1 load1G l0) pushW, .p (callO 68 [l2, l0, r9]) pushW, .p (o2 (storeG 3) r4 l0) noW])
 .skip)))))))))))
 (.reg [.p (o2 (binG addB) r14 (ctK (.int .i64 (Int.ofNat 1)))) pushW, .p (o1 mvG l0) w14])))))))
 (.seq
 (.reg [.p (o1 mvG (ctK (.int .i64 (Int.ofNat 0)))) w6])
 .ret))) }
theorem kf39_ok : (compFn Tryz.prog Tryz.f39 [[], [0, 4, 12, 13, 14], [0, 4, 12, 13, 14], [0, 4, 12, 13, 14], [0, 4, 8, 9, 10, 12, 13, 14], [0, 4, 8, 9, 10, 11, 12, 13, 14], [0, 4, 8, 9, 11, 12, 13, 14], [10]]).bind (toKFn [16, 17, 18, 19, 20, 21, 22, 23, 24, 25, 26, 27, 28, 29, 30, 32, 33, 34, 35, 36, 37, 38, 39, 40, 41, 42, 43, 44, 45, 46, 47, 48, 49, 50, 52, 53, 54, 55, 56, 57, 59, 60, 61, 62, 64, 65, 66, 67, 68, 69, 70, 71, 72, 73, 74, 75, 77, 78, 79, 80, 81, 82] 3) = some kf39 := by kernel_rfl
noncomputable def kf66 : KFn := { params := [w0, w1, w2], res := [(.s r6), (.s r7)], body :=
 (.seq
 (.reg [.p (o1 boxG r1) w4, .p (o1 mvG (ctK (.int .i64 (Int.ofNat 0)))) w6, .p (o1 mvG (ctK (.int .i64 (Int.ofNat 0)))) w7])
 (.seq
 (.reg [.p (o1 mvG (ctK .snil)) w8])
 (.seq
 (.seq
 (.reg [.p (o1 mvG r2) w13, .p (o1 lenLG r13) w14, .p (o1 mvG (ctK (.int .i64 (Int.ofNat 0)))) w15])
 (.block 0
 (.loop
 (.seq
 (.reg [.p (o2 (binG (cmpB .lss ltI)) r15 r14) w16])
 (.seq
 (.cond r16
 .skip
 (.exit 0))
 (.seq
 (.block 1
 (.seq
 (.reg [.p (o2 (iaddrG 1) r13 r15) pushW, .p (o1 (loadnG 1) l0) pushW, .p (allocO [.snil]) w10, .p (o2 (storeG 1) r10 l0) noW])
 (.seq
 (.reg [.p (o1 mvG (ctK (.int .i64 (Int.ofNat 0)))) w11])
 (.seq
 (.reg [.p (o1 mvG (ctK (.int .i64 (Int.ofNat 12)))) w12])
 (.seq
 (.block 2
 (.seq
 (.reg [.p (o1 (faddrG 0) r10) pushW, .p (o1 load1G l0) pushW, .p (o1 lenLG l0) pushW, .p (o2 (eqG eqIV false) l0 (ctK (.int .i64 (Int.ofNat 0)))) pushW, .p (o1 mvG l0) w36])
 (.cond r36
 .skip
 (.seq
 (.reg [.p (o1 (faddrG 0) r10) pushW, .p (o1 load1G l0) pushW, .p (o2 (iaddrG 7) l0 (ctK (.int .i64 (Int.ofNat 0)))) pushW, .p (o1 (faddrG 0) l0) pushW, .p (o1 load1G l0) pushW, .p (o2 (eqG eqIV false) l0 (ctK (.int .i64 (Int.ofNat 6)))) pushW, .p (o1 mvG l0) w41])
 (.cond r41
 (.reg [.p (o1 (loadnG 3) r4) pushW, .p (o1 (loadnG 1) r10) pushW, .p (callO 87 [l1, r0, l0, r8]) pushW, .p (o1 (extG 0) l0) pushW, .p (o1 (extG 1) l1) pushW, .p (o1 mvG l1) w11, .p (o1 mvG l0) w12])
 (.seq
 (.drw [.p (o1 (loadnG 3) r4) pushW, .p (o1 (faddrG 0) r10) pushW, .p (o1 load1G l0) pushW, .p (o2 (iaddrG 7) l0 (ctK (.int .i64 (Int.ofNat 0)))) pushW, .p (o1 (loadnG 7) l0) pushW, .m (callO 88 [l4, r0, l0]) pushW (some []), .p (o1 (extG 0) l0) pushW, .p (o1 (extG 1) l1) pushW, .p (o1 mvG l1) w11, .p (o1 mvG l0) w12] [])
 (.seq
 (.reg [.p (o2 (eqG eqIV false) r12 (ctK (.int .i64 (Int.ofNat 0)))) pushW, .g l0 true false none (o1 mvG r8) pushW, .g l1 true false none (o1 lenLG l0) pushW, .g l2 true false none (o2 (binG (cmpB .gtr gtI)) l0 (ctK (.int .i64 (Int.ofNat 0)))) pushW, .p (o3 pickG l3 l0 (ctK (.bool false))) w35])
 (.cond r35
 (.reg [.p (o1 mvG (ctK (.int .i64 (Int.ofNat 18)))) w12])
 .skip))))))))
 (.seq
 (.seq
 (.reg [.p (o2 (eqG eqIV true) r12 (ctK (.int .i64 (Int.ofNat 0)))) w57])
 (.cond r57
 (.seq
 (.reg [.p (o1 mvG (ctK (.int .i64 (Int.ofNat 0)))) w6, .p (o1 mvG r12) w7])
 .ret)
 .skip))
 (.reg [.p (bslO 1 1 [(.int .i64 (Int.ofNat 0))] [(0, 1, r11)]) pushW, .p (o1 mvG l0) w8])))))))
 (.reg [.p (o2 (binG addB) r15 (ctK (.int .i64 (Int.ofNat 1)))) pushW, .p (o1 mvG l0) w15])))))))
 (.seq
 (.seq
 (.reg [.p (o1 lenLG r8) pushW, .p (o2 (eqG eqIV false) l0 (ctK (.int .i64 (Int.ofNat 0)))) w64])
 (.cond r64
 (.seq
 (.reg [.p (o1 mvG (ctK (.int .i64 (Int.ofNat 0)))) w6, .p (o1 mvG (ctK (.int .i64 (Int.ofNat 12)))) w7])
 .ret)
 .skip))
 (.seq
 (.reg [.p (o2 (iaddrG 1) r8 (ctK (.int .i64 (Int.ofNat 0)))) pushW, .p (o1 load1G l0) pushW, .p (o1 mvG l0) w6, .p (o1 mvG (ctK (.int .i64 (Int.ofNat 0)))) w7])
 .ret))))) }
theorem kf66_ok : (compFn Tryz.prog Tryz.f66 [[8], [0, 4, 8, 13, 14, 15], [0, 4, 8, 13, 14, 15], [0, 4, 8, 13, 14, 15], [0, 4, 11, 12, 13, 14, 15], [0, 4, 11, 13, 14, 15], [8]]).bind (toKFn [17, 18, 19, 20, 21, 22, 23, 24, 25, 26, 27, 28, 29, 30, 31, 32, 33, 34, 37, 38, 39, 40, 42, 43, 44, 45, 46, 47, 48, 49, 50, 51, 52, 53, 54, 55, 56, 58, 59, 60, 61, 62, 63, 65, 66, 67] 3) = some kf66 := by kernel_rfl
noncomputable def kf87 : KFn := { params := [w0, w1, w2, w3], res := [(.s r8), (.s r9)], body :=
 (.seq
 (.reg [.p (o1 boxG r0) w4, .p (o1 boxG r2) w6, .p (o1 mvG (ctK (.int .i64 (Int.ofNat 0)))) w8, .p (o1 mvG (ctK (.int .i64 (Int.ofNat 0)))) w9])
 (.seq
 (.reg [.p (o1 (faddrG 0) r6) pushW, .p (o1 load1G l0) pushW, .p (o1 lenLG l0) pushW, .p (o2 (binG subB) l0 (ctK (.int .i64 (Int.ofNat 1)))) pushW, .p (o1 (faddrG 0) r6) pushW, .p (o1 load1G l0) pushW, .p (o1 lenLG l0) pushW, .p (o2 (mkslG 1 [(.int .i64 (Int.ofNat 0))]) l3 l0) pushW, .p (o1 mvG l0) w10])
 (.seq
 (.seq
 (.reg [.p (o1 (faddrG 0) r6) pushW, .p (o1 load1G l0) pushW, .p (cutLO 7 l0 (some (ctK (.int .i64 (Int.ofNat 1)))) none none) w26, .p (o1 lenLG r26) w27, .p (o1 mvG (ctK (.int .i64 (Int.ofNat 0)))) w28])
 (.block 0
 (.loop
 (.seq
 (.reg [.p (o2 (binG (cmpB .lss ltI)) r28 r27) w29])
 (.seq
 (.cond r29
 .skip
 (.exit 0))
 (.seq
 (.block 1
 (.seq
 (.reg [.p (o2 (iaddrG 7) r26 r28) pushW, .p (o1 (loadnG 7) l0) pushW, .p (allocO [(.int .i64 (Int.ofNat 0)), (.str 0 0), .snil, (.str 0 0), (.int .i64 (Int.ofNat 0)), (.bool false), .snil]) w12, .p (o1 mvG r28) w11, .p (o2 (storeG 7) r12 l0) noW])
 (.seq
 (.reg [.p (o1 (loadnG 3) r4) pushW, .p (o1 (loadnG 7) r12) pushW, .p (callO 88 [l1, r1, l0]) pushW, .p (o1 (extG 0) l0) pushW, .p (o1 (extG 1) l1) pushW, .p (o1 mvG l1) w13, .p (o1 mvG l0) w14])
 (.seq
 (.seq
 (.reg [.p (o2 (eqG eqIV true) r14 (ctK (.int .i64 (Int.ofNat 0)))) w41])
 (.cond r41
 (.seq
 (.reg [.p (o1 mvG (ctK (.int .i64 (Int.ofNat 0)))) w8, .p (o1 mvG r14) w9])
 .ret)
 .skip))
 (.reg [.p (o2 (iaddrG 1) r10 r11) pushW, .p (o2 (storeG 1) l0 r13) noW])))))
 (.reg [.p (o2 (binG addB) r28 (ctK (.int .i64 (Int.ofNat 1)))) pushW, .p (o1 mvG l0) w28])))))))
 (.seq
 (.reg [.p (o1 lenLG r10) pushW, .p (o1 lenLG r3) pushW, .p (o2 (binG addB) l1 l0) pushW, .p (o2 (mkslG 1 [(.int .i64 (Int.ofNat 0))]) l0 l0) pushW, .p (o1 mvG l0) w15])
 (.seq
 (.reg [.p (o2 (copyG 1) r15 r10) pushW, .p (cutLO 1 r15 (some l0) none none) pushW, .p (o2 (copyG 1) l0 r3) pushW])
 (.seq
 (.reg [.p (o1 (faddrG 0) r6) pushW, .p (o1 load1G l0) pushW, .p (o2 (iaddrG 7) l0 (ctK (.int .i64 (Int.ofNat 0)))) pushW, .p (o1 (faddrG 3) l0) pushW, .p (o1 load1G l0) pushW, .p (callO 109 [r1, l0, r15]) pushW, .p (o1 (extG 0) l0) pushW, .p (o1 (extG 1) l1) pushW, .p (o1 mvG l1) w8, .p (o1 mvG l0) w9])
 .ret)))))) }
theorem kf87_ok : (compFn Tryz.prog Tryz.f87 [[1, 3, 6, 10], [1, 3, 4, 6, 10, 26, 27, 28], [1, 3, 4, 6, 10, 26, 27, 28], [1, 3, 4, 6, 10, 26, 27, 28], [1, 3, 4, 6, 10, 11, 13, 26, 27, 28]]).bind (toKFn [16, 17, 18, 19, 20, 21, 22, 23, 24, 25, 30, 31, 32, 33, 34, 35, 36, 37, 38, 39, 40, 42, 43, 44, 45, 46, 47, 48, 49, 50, 51, 52, 53, 54, 55, 56, 57, 58, 59, 60, 61, 62, 63, 64, 65, 66, 67, 68, 69, 70] 4) = some kf87 := by kernel_rfl
noncomputable def kf88 : KFn := { params := [w0, w1, w2], res := [(.s r6), (.s r7)], body :=
 (.seq
 (.reg [.p (o1 boxG r0) w3, .p (o1 boxG r2) w5, .p (o1 mvG (ctK (.int .i64 (Int.ofNat 0)))) w6, .p (o1 mvG (ctK (.int .i64 (Int.ofNat 0)))) w7])
 (.seq
 (.seq
 (.reg [.p (o1 (faddrG 0) r5) pushW, .p (o1 load1G l0) w9])
 (.block 0
 (.seq
 (.reg [.p (o2 (eqG eqIV false) r9 (ctK (.int .i64 (Int.ofNat 2)))) pushW, .p (o1 mvG l0) w10])
 (.cond r10
 (.seq
 (.reg [.p (callO 110 [r1, (ctK (.int .i64 (Int.ofNat 3)))]) pushW, .p (o1 (extG 0) l0) pushW, .p (o1 (extG 1) l1) pushW, .p (o1 mvG l1) w6, .p (o1 mvG l0) w7])
 .ret)
 (.seq
 (.reg [.p (o2 (eqG eqIV false) r9 (ctK (.int .i64 (Int.ofNat 3)))) pushW, .p (o1 mvG l0) w16])
 (.cond r16
 (.seq
 (.reg [.p (callO 110 [r1, (ctK (.int .i64 (Int.ofNat 2)))]) pushW, .p (o1 (extG 0) l0) pushW, .p (o1 (extG 1) l1) pushW, .p (o1 mvG l1) w6, .p (o1 mvG l0) w7])
 .ret)
 (.seq
 (.reg [.p (o2 (eqG eqIV false) r9 (ctK (.int .i64 (Int.ofNat 4)))) pushW, .p (o1 mvG l0) w22])
 (.cond r22
 (.seq
 (.reg [.p (callO 110 [r1, (ctK (.int .i64 (Int.ofNat 1)))]) pushW, .p (o1 (extG 0) l0) pushW, .p (o1 (extG 1) l1) pushW, .p (o1 mvG l1) w6, .p (o1 mvG l0) w7])
 .ret)
 (.seq
 (.reg [.p (o2 (eqG eqIV false) r9 (ctK (.int .i64 (Int.ofNat 5)))) pushW, .p (o1 mvG l0) w28])
 (.cond r28
 (.seq
 (.reg [.p (o1 (loadnG 3) r3) pushW, .p (o1 (faddrG 6) r5) pushW, .p (o1 load1G l0) pushW, .p (callO 66 [r1, l2, l0]) pushW, .p (o1 (extG 0) l0) pushW, .p (o1 (extG 1) l1) pushW, .p (o1 mvG l1) w6, .p (o1 mvG l0) w7])
 .ret)
 (.seq
 (.reg [.p (o2 (eqG eqIV false) r9 (ctK (.int .i64 (Int.ofNat 6)))) pushW, .p (o1 mvG l0) w37])
 (.cond r37
 (.seq
 (.reg [.p (o1 (faddrG 3) r5) pushW, .p (o1 load1G l0) pushW, .p (callO 109 [r1, l0, (ctK .snil)]) pushW, .p (o1 (extG 0) l0) pushW, .p (o1 (extG 1) l1) pushW, .p (o1 mvG l1) w6, .p (o1 mvG l0) w7])
 .ret)
 .skip))))))))))))
 (.seq
 (.reg [.p (o1 (loadnG 3) r3) pushW, .p (o1 (loadnG 7) r5) pushW, .p (callO 111 [l1, r1, l0]) pushW, .p (o1 (extG 0) l0) pushW, .p (o1 (extG 1) l1) pushW, .p (o1 mvG l1) w6, .p (o1 mvG l0) w7])
 .ret))) }
theorem kf88_ok : (compFn Tryz.prog Tryz.f88 [[1, 3, 5]]).bind (toKFn [8, 11, 12, 13, 14, 15, 17, 18, 19, 20, 21, 23, 24, 25, 26, 27, 29, 30, 31, 32, 33, 34, 35, 36, 38, 39, 40, 41, 42, 43, 44, 45, 46, 47, 48, 49, 50] 3) = some kf88 := by kernel_rfl
noncomputable def kf110 : KFn := { params := [w0, w1], res := [(.s r4), (.s r5)], body :=
 (.seq
 (.reg [.p (o1 mvG (ctK (.int .i64 (Int.ofNat 0)))) w4, .p (o1 mvG (ctK (.int .i64 (Int.ofNat 0)))) w5])
 (.seq
 (.reg [.p (buildO [(.int .i64 (Int.ofNat 0)), (.str 0 0), .snil, .snil] [(0, 1, r1)]) pushW, .p (callO 84 [r0, l0]) pushW, .p (o1 (extG 0) l0) pushW, .p (o1 (extG 1) l1) pushW, .p (o1 mvG l1) w4, .p (o1 mvG l0) w5])
 .ret)) }
theorem kf110_ok : (compFn Tryz.prog Tryz.f110 []).bind (toKFn [6, 7, 8, 9, 10, 11] 2) = some kf110 := by kernel_rfl
end Go.Proofs.YtkjnlhppheooeaaGreatDoor
