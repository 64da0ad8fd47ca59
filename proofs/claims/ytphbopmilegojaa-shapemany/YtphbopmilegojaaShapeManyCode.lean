/- The code of the law and of all that it calls, for the evaluator; what stands in for the library's. No condition. -/
import Derived.Test.YtphbopmilegojaaRows
import Derived.Test.YtphbopmilegojaaShelf
import Derived.WalkKit
import Derived.Test.YtphbopmilegojaaEvc6
namespace Go.Proofs.Ytphbopmilegojaa
open Eva Go.RowKit
set_option linter.unusedVariables false
noncomputable def kf11 : KFn := { params := [w0], res := [(.s r2)], body :=
 (.seq
 (.reg [.p (o1 mvG (ctK (.bool false))) w2])
 (.seq
 (.seq
 (.reg [.p (callO 12 []) pushW, .p (o1 notG l0) w16])
 (.cond r16
 (.seq
 (.reg [.p (o1 mvG (ctK (.bool false))) w2])
 .ret)
 .skip))
 (.seq
 (.reg [.p (o1 mvG r0) pushW, .p (callO 19 [l0, (ctK (.int .i64 (Int.ofNat 4)))]) pushW, .p (o1 mvG l0) w0])
 (.seq
 (.reg [.p (buildO [(.int .i64 (Int.ofNat 0)), (.str 0 0), .snil, .snil] [(0, 1, (ctK (.int .i64 (Int.ofNat 7))))]) pushW, .p (allocO [(.int .i64 (Int.ofNat 0)), (.str 0 0), .snil, .snil]) w3, .p (o2 (storeG 4) r3 l0) noW])
 (.seq
 (.seq
 (.reg [.p (o1 mvG (ctK (.int .i64 (Int.ofNat 0)))) w4])
 (.block 0
 (.loop
 (.seq
 (.seq
 (.reg [.p (o2 (binG (cmpB .lss ltI)) r4 (ctK (.int .i64 (Int.ofNat 8)))) w21])
 (.cond r21
 .skip
 (.exit 0)))
 (.seq
 (.block 1
 (.drw [.p (o1 (faddrG 2) r3) pushW, .p (o1 load1G l0) w25, .p (o2 (binG addB) (ctK (.int .i64 (Int.ofNat 97))) r4) pushW, .p (o1 (tointG .u8) l0) pushW, .p (bslO 1 1 [(.int .u8 (Int.ofNat 0))] [(0, 1, l0)]) pushW, .p (o1 btsG l0) pushW, .p (bslO 1 1 [(.str 0 0)] [(0, 1, l0)]) pushW, .p (o2 (appG 1) r25 l0) pushW, .p (o1 (faddrG 3) r3) w33, .p (o1 load1G r33) pushW, .p (buildO [(.int .i64 (Int.ofNat 0)), (.str 0 0), .snil, .snil] [(0, 1, (ctK (.int .i64 (Int.ofNat 2))))]) pushW, .p (bslO 4 1 [(.int .i64 (Int.ofNat 0)), (.str 0 0), .snil, .snil] [(0, 4, l0)]) pushW, .p (o2 (appG 4) l2 l0) pushW, .p (o1 (faddrG 2) r3) pushW, .p (o2 (storeG 1) l0 l5) noW, .p (o1 (faddrG 3) r3) pushW, .p (o2 (storeG 1) l0 l2) noW] [([r25], [r33])]))
 (.reg [.p (o1 mvG r4) pushW, .p (o2 (binG addB) l0 (ctK (.int .i64 (Int.ofNat 1)))) pushW, .p (o1 mvG l0) w4]))))))
 (.seq
 (.reg [.p (buildO [(.int .i64 (Int.ofNat 0)), (.str 0 0), .snil, .snil] [(0, 1, (ctK (.int .i64 (Int.ofNat 7))))]) pushW, .p (allocO [(.int .i64 (Int.ofNat 0)), (.str 0 0), .snil, .snil]) w5, .p (o2 (storeG 4) r5 l0) noW])
 (.seq
 (.seq
 (.reg [.p (o1 mvG (ctK (.int .i64 (Int.ofNat 0)))) w6])
 (.block 2
 (.loop
 (.seq
 (.seq
 (.reg [.p (o2 (binG (cmpB .lss ltI)) r6 (ctK (.int .i64 (Int.ofNat 8)))) w42])
 (.cond r42
 .skip
 (.exit 2)))
 (.seq
 (.block 3
 (.drw [.p (o1 (faddrG 2) r5) pushW, .p (o1 load1G l0) w46, .p (o2 (binG addB) (ctK (.int .i64 (Int.ofNat 97))) r6) pushW, .p (o1 (tointG .u8) l0) pushW, .p (bslO 1 1 [(.int .u8 (Int.ofNat 0))] [(0, 1, l0)]) pushW, .p (o1 btsG l0) pushW, .p (bslO 1 1 [(.str 0 0)] [(0, 1, l0)]) pushW, .p (o2 (appG 1) r46 l0) pushW, .p (o1 (faddrG 3) r5) w54, .p (o1 load1G r54) pushW, .p (o1 (loadnG 4) r3) pushW, .p (bslO 4 1 [(.int .i64 (Int.ofNat 0)), (.str 0 0), .snil, .snil] [(0, 4, l0)]) pushW, .p (o2 (appG 4) l2 l0) pushW, .p (o1 (faddrG 2) r5) pushW, .p (o2 (storeG 1) l0 l5) noW, .p (o1 (faddrG 3) r5) pushW, .p (o2 (storeG 1) l0 l2) noW] [([r46], [r54]), ([r46], [r3])]))
 (.reg [.p (o1 mvG r6) pushW, .p (o2 (binG addB) l0 (ctK (.int .i64 (Int.ofNat 1)))) pushW, .p (o1 mvG l0) w6]))))))
 (.seq
 (.reg [.p (buildO [(.int .i64 (Int.ofNat 0)), (.str 0 0), .snil, .snil] [(0, 1, (ctK (.int .i64 (Int.ofNat 2))))]) pushW, .p (buildO [(.int .i64 (Int.ofNat 0)), (.str 0 0), .snil, .snil, .snil, .snil] [(0, 4, l0)]) pushW, .p (allocO [(.int .i64 (Int.ofNat 0)), (.str 0 0), .snil, .snil, .snil, .snil]) w7, .p (o2 (storeG 6) r7 l0) noW])
 (.seq
 (.seq
 (.reg [.p (o1 mvG (ctK (.int .i64 (Int.ofNat 0)))) w8])
 (.block 4
 (.loop
 (.seq
 (.seq
 (.reg [.p (o2 (binG (cmpB .lss ltI)) r8 (ctK (.int .i64 (Int.ofNat 5)))) w64])
 (.cond r64
 .skip
 (.exit 4)))
 (.seq
 (.block 5
 (.reg [.p (o1 (faddrG 4) r7) pushW, .p (o1 load1G l0) pushW, .p (o2 (binG addB) (ctK (.int .i64 (Int.ofNat 65))) r8) pushW, .p (o1 (tointG .u8) l0) pushW, .p (bslO 1 1 [(.int .u8 (Int.ofNat 0))] [(0, 1, l0)]) pushW, .p (o1 btsG l0) pushW, .p (o1 (loadnG 4) r5) pushW, .p (buildO [(.str 0 0), (.int .i64 (Int.ofNat 0)), (.str 0 0), .snil, .snil] [(0, 1, l1), (1, 4, l0)]) pushW, .p (bslO 5 1 [(.str 0 0), (.int .i64 (Int.ofNat 0)), (.str 0 0), .snil, .snil] [(0, 5, l0)]) pushW, .p (o2 (appG 5) l7 l0) pushW, .p (o1 (faddrG 4) r7) pushW, .p (o2 (storeG 1) l0 l1) noW]))
 (.reg [.p (o1 mvG r8) pushW, .p (o2 (binG addB) l0 (ctK (.int .i64 (Int.ofNat 1)))) pushW, .p (o1 mvG l0) w8]))))))
 (.seq
 (.seq
 (.reg [.p (o1 mvG (ctK (.int .i64 (Int.ofNat 0)))) w9])
 (.block 6
 (.loop
 (.seq
 (.seq
 (.reg [.p (o2 (binG (cmpB .lss ltI)) r9 (ctK (.int .i64 (Int.ofNat 3)))) w80])
 (.cond r80
 .skip
 (.exit 6)))
 (.seq
 (.block 7
 (.reg [.p (o1 (faddrG 5) r7) pushW, .p (o1 load1G l0) pushW, .p (o2 (binG addB) (ctK (.int .i64 (Int.ofNat 97))) r9) pushW, .p (o1 (tointG .u8) l0) pushW, .p (bslO 1 1 [(.int .u8 (Int.ofNat 0))] [(0, 1, l0)]) pushW, .p (o1 btsG l0) pushW, .p (o2 (binG addB) (ctK (.str 1 102)) l0) pushW, .p (o1 (loadnG 4) r3) pushW, .p (buildO [(.str 0 0), .snil, (.int .i64 (Int.ofNat 0)), (.str 0 0), .snil, .snil] [(0, 1, l1), (2, 4, l0)]) pushW, .p (bslO 6 1 [(.str 0 0), .snil, (.int .i64 (Int.ofNat 0)), (.str 0 0), .snil, .snil] [(0, 6, l0)]) pushW, .p (o2 (appG 6) l8 l0) pushW, .p (o1 (faddrG 5) r7) pushW, .p (o2 (storeG 1) l0 l1) noW]))
 (.reg [.p (o1 mvG r9) pushW, .p (o2 (binG addB) l0 (ctK (.int .i64 (Int.ofNat 1)))) pushW, .p (o1 mvG l0) w9]))))))
 (.seq
 (.reg [.p (buildO [(.int .i64 (Int.ofNat 0)), (.str 0 0), .snil, .snil] [(0, 1, (ctK (.int .i64 (Int.ofNat 2))))]) pushW, .p (buildO [(.str 0 0), .snil, (.int .i64 (Int.ofNat 0)), (.str 0 0), .snil, .snil] [(0, 1, (ctK (.str 1 103))), (2, 4, l0)]) pushW, .p (allocO [(.str 0 0), .snil, (.int .i64 (Int.ofNat 0)), (.str 0 0), .snil, .snil]) w10, .p (o2 (storeG 6) r10 l0) noW])
 (.seq
 (.seq
 (.reg [.p (o1 mvG (ctK (.int .i64 (Int.ofNat 0)))) w11])
 (.block 8
 (.loop
 (.seq
 (.seq
 (.reg [.p (o2 (binG (cmpB .lss ltI)) r11 (ctK (.int .i64 (Int.ofNat 4)))) w99])
 (.cond r99
 .skip
 (.exit 8)))
 (.seq
 (.block 9
 (.reg [.p (o1 (faddrG 1) r10) pushW, .p (o1 load1G l0) pushW, .p (buildO [(.int .i64 (Int.ofNat 0)), (.str 0 0), .snil, .snil] [(0, 1, (ctK (.int .i64 (Int.ofNat 2))))]) pushW, .p (bslO 4 1 [(.int .i64 (Int.ofNat 0)), (.str 0 0), .snil, .snil] [(0, 4, l0)]) pushW, .p (o2 (appG 4) l2 l0) pushW, .p (o1 (faddrG 1) r10) pushW, .p (o2 (storeG 1) l0 l1) noW]))
 (.reg [.p (o1 mvG r11) pushW, .p (o2 (binG addB) l0 (ctK (.int .i64 (Int.ofNat 1)))) pushW, .p (o1 mvG l0) w11]))))))
 (.seq
 (.reg [.p (o1 (faddrG 5) r7) pushW, .p (o1 load1G l0) pushW, .p (o1 (loadnG 6) r10) pushW, .p (bslO 6 1 [(.str 0 0), .snil, (.int .i64 (Int.ofNat 0)), (.str 0 0), .snil, .snil] [(0, 6, l0)]) pushW, .p (o2 (appG 6) l2 l0) pushW, .p (o1 (faddrG 5) r7) pushW, .p (o2 (storeG 1) l0 l1) noW])
 (.seq
 (.reg [.p (buildO [(.int .i64 (Int.ofNat 0)), (.str 0 0), .snil, .snil] [(0, 1, (ctK (.int .i64 (Int.ofNat 2))))]) pushW, .p (buildO [(.str 0 0), .snil, (.int .i64 (Int.ofNat 0)), (.str 0 0), .snil, .snil] [(0, 1, (ctK (.str 1 104))), (2, 4, l0)]) pushW, .p (allocO [(.str 0 0), .snil, (.int .i64 (Int.ofNat 0)), (.str 0 0), .snil, .snil]) w12, .p (o2 (storeG 6) r12 l0) noW])
 (.seq
 (.seq
 (.reg [.p (o1 mvG (ctK (.int .i64 (Int.ofNat 0)))) w13])
 (.block 10
 (.loop
 (.seq
 (.seq
 (.reg [.p (o2 (binG (cmpB .lss ltI)) r13 r0) w118])
 (.cond r118
 .skip
 (.exit 10)))
 (.seq
 (.block 11
 (.reg [.p (o1 (faddrG 1) r12) pushW, .p (o1 load1G l0) pushW, .p (buildO [(.int .i64 (Int.ofNat 0)), (.str 0 0), .snil, .snil] [(0, 1, (ctK (.int .i64 (Int.ofNat 2))))]) pushW, .p (bslO 4 1 [(.int .i64 (Int.ofNat 0)), (.str 0 0), .snil, .snil] [(0, 4, l0)]) pushW, .p (o2 (appG 4) l2 l0) pushW, .p (o1 (faddrG 1) r12) pushW, .p (o2 (storeG 1) l0 l1) noW]))
 (.reg [.p (o1 mvG r13) pushW, .p (o2 (binG addB) l0 (ctK (.int .i64 (Int.ofNat 1)))) pushW, .p (o1 mvG l0) w13]))))))
 (.seq
 (.reg [.p (o1 (faddrG 5) r7) pushW, .p (o1 load1G l0) pushW, .p (o1 (loadnG 6) r12) pushW, .p (bslO 6 1 [(.str 0 0), .snil, (.int .i64 (Int.ofNat 0)), (.str 0 0), .snil, .snil] [(0, 6, l0)]) pushW, .p (o2 (appG 6) l2 l0) pushW, .p (o1 (faddrG 5) r7) pushW, .p (o2 (storeG 1) l0 l1) noW])
 (.seq
 (.reg [.p (o1 (loadnG 6) r7) pushW, .p (callO 17 [l0]) pushW, .p (o1 mvG l0) w14])
 (.seq
 (.reg [.p (o2 (binG (cmpB .leq leI)) r0 (ctK (.int .i64 (Int.ofNat 1)))) pushW, .g l0 true false none (o1 mvG r14) pushW, .g l1 true false none (o2 (eqG eqIV false) l0 (ctK (.int .i64 (Int.ofNat 0)))) pushW, .p (o3 pickG l2 l0 (ctK (.bool false))) pushW, .g l0 false false none (o1 mvG r0) pushW, .g l1 false false none (o2 (binG (cmpB .gtr gtI)) l0 (ctK (.int .i64 (Int.ofNat 1)))) pushW, .g l2 false false none (o1 mvG l0) pushW, .g l0 true false none (o1 mvG r14) pushW, .g l1 true false none (o2 (eqG eqIV false) l0 (ctK (.int .i64 (Int.ofNat 3)))) pushW, .g l5 false false none (o3 pickG l2 l0 (ctK (.bool false))) pushW, .p (o3 pickG l6 (ctK (.bool true)) l0) pushW, .p (o1 mvG l0) w2])
 .ret)))))))))))))))))) }
theorem kf11_ok : (compFn Try.prog Try.f11 [[0], [0, 3], [0, 3, 4], [0, 3, 4], [0, 3, 4], [0, 3, 5], [0, 3, 5, 6], [0, 3, 5, 6], [0, 3, 5, 6], [0, 3, 7], [0, 3, 5, 7, 8], [0, 3, 5, 7, 8], [0, 3, 5, 7, 8], [0, 7], [0, 3, 7, 9], [0, 3, 7, 9], [0, 3, 7, 9], [0, 7, 10], [0, 7, 10, 11], [0, 7, 10, 11], [0, 7, 10, 11], [0, 7, 12], [0, 7, 12, 13], [0, 7, 12, 13], [0, 7, 12, 13]]).bind (toKFn [15, 17, 18, 19, 20, 22, 23, 24, 26, 27, 28, 29, 30, 31, 32, 34, 35, 36, 37, 38, 39, 40, 41, 43, 44, 45, 47, 48, 49, 50, 51, 52, 53, 55, 56, 57, 58, 59, 60, 61, 62, 63, 65, 66, 67, 68, 69, 70, 71, 72, 73, 74, 75, 76, 77, 78, 79, 81, 82, 83, 84, 85, 86, 87, 88, 89, 90, 91, 92, 93, 94, 95, 96, 97, 98, 100, 101, 102, 103, 104, 105, 106, 107, 108, 109, 110, 111, 112, 113, 114, 115, 116, 117, 119, 120, 121, 122, 123, 124, 125, 126, 127, 128, 129, 130, 131, 132, 133, 134, 135, 136, 137, 138, 139, 140, 141, 142, 143, 144, 145, 146, 147, 148] 1) = some kf11 := by kernel_rfl
noncomputable def kf12 : KFn := { params := [], res := [(.s r0)], body :=
 (.seq
 (.reg [.p (o1 mvG (ctK (.bool false))) w0])
 (.seq
 (.reg [.p (buildO [(.int .i64 (Int.ofNat 0)), (.str 0 0), .snil, .snil] [(0, 1, (ctK (.int .i64 (Int.ofNat 9)))), (1, 1, (ctK (.str 1 65)))]) pushW, .p (allocO [(.int .i64 (Int.ofNat 0)), (.str 0 0), .snil, .snil]) w1, .p (o2 (storeG 4) r1 l0) noW])
 (.seq
 (.reg [.p (bslO 1 1 [(.str 0 0)] [(0, 1, (ctK (.str 4 1954047342)))]) pushW, .p (o1 (loadnG 4) r1) pushW, .p (bslO 4 1 [(.int .i64 (Int.ofNat 0)), (.str 0 0), .snil, .snil] [(0, 4, l0)]) pushW, .p (buildO [(.int .i64 (Int.ofNat 0)), (.str 0 0), .snil, .snil] [(0, 1, (ctK (.int .i64 (Int.ofNat 6)))), (3, 1, l0)]) pushW, .p (bslO 4 1 [(.int .i64 (Int.ofNat 0)), (.str 0 0), .snil, .snil] [(0, 4, l0)]) pushW, .p (buildO [(.int .i64 (Int.ofNat 0)), (.str 0 0), .snil, .snil] [(0, 1, (ctK (.int .i64 (Int.ofNat 7)))), (2, 1, l4), (3, 1, l0)]) pushW, .p (allocO [(.int .i64 (Int.ofNat 0)), (.str 0 0), .snil, .snil]) w2, .p (o2 (storeG 4) r2 l0) noW])
 (.seq
 (.reg [.p (o1 (loadnG 4) r1) pushW, .p (o1 (loadnG 4) r1) pushW, .p (buildO [(.str 0 0), (.int .i64 (Int.ofNat 0)), (.str 0 0), .snil, .snil] [(0, 1, (ctK (.str 1 65))), (1, 4, l0)]) pushW, .p (bslO 5 1 [(.str 0 0), (.int .i64 (Int.ofNat 0)), (.str 0 0), .snil, .snil] [(0, 5, l0)]) pushW, .p (buildO [(.int .i64 (Int.ofNat 0)), (.str 0 0), .snil, .snil, .snil, .snil] [(0, 4, l3), (4, 1, l0)]) pushW, .p (callO 17 [l0]) pushW, .p (o2 (eqG eqIV false) l0 (ctK (.int .i64 (Int.ofNat 14)))) pushW, .g l0 true false none (o1 (loadnG 4) r1) pushW, .g l1 true false none (o1 (loadnG 4) r2) pushW, .g l2 true false none (buildO [(.str 0 0), (.int .i64 (Int.ofNat 0)), (.str 0 0), .snil, .snil] [(0, 1, (ctK (.str 1 65))), (1, 4, l0)]) pushW, .g l3 true false none (bslO 5 1 [(.str 0 0), (.int .i64 (Int.ofNat 0)), (.str 0 0), .snil, .snil] [(0, 5, l0)]) pushW, .g l4 true false none (buildO [(.int .i64 (Int.ofNat 0)), (.str 0 0), .snil, .snil, .snil, .snil] [(0, 4, l3), (4, 1, l0)]) pushW, .g l5 true false none (callO 17 [l0]) pushW, .g l6 true false none (o2 (eqG eqIV false) l0 (ctK (.int .i64 (Int.ofNat 0)))) pushW, .p (o3 pickG l7 l0 (ctK (.bool false))) pushW, .p (o1 mvG l0) w0])
 .ret)))) }
theorem kf12_ok : (compFn Try.prog Try.f12 []).bind (toKFn [3, 4, 5, 6, 7, 8, 9, 10, 11, 12, 13, 14, 15, 16, 17, 18, 19, 20, 21, 22, 23, 24, 25] 0) = some kf12 := by kernel_rfl
noncomputable def kf17 : KFn := { params := [w0], res := [(.s r2)], body :=
 (.seq
 (.reg [.p (o1 boxG r0) w1, .p (o1 mvG (ctK (.int .i64 (Int.ofNat 0)))) w2])
 (.seq
 (.seq
 (.reg [.p (o1 (faddrG 4) r1) pushW, .p (o1 load1G l0) pushW, .p (o1 lenLG l0) pushW, .p (o2 (binG (cmpB .gtr gtI)) l0 (ctK (.int .i64 (Int.ofNat 12)))) pushW, .g l0 false false none (o1 (faddrG 5) r1) pushW, .g l1 false false none (o1 load1G l0) pushW, .g l2 false false none (o1 lenLG l0) pushW, .g l3 false false none (o2 (binG (cmpB .gtr gtI)) l0 (ctK (.int .i64 (Int.ofNat 12)))) pushW, .p (o3 pickG l4 (ctK (.bool true)) l0) w21])
 (.cond r21
 (.seq
 (.reg [.p (o1 mvG (ctK (.int .i64 (Int.ofNat 3)))) w2])
 .ret)
 .skip))
 (.seq
 (.seq
 (.reg [.p (o1 (faddrG 4) r1) pushW, .p (o1 load1G l0) pushW, .p (callO 26 [l0]) pushW, .p (o1 mvG l0) w3])
 (.seq
 (.reg [.p (o2 (eqG eqIV true) r3 (ctK (.int .i64 (Int.ofNat 0)))) w26])
 (.cond r26
 (.seq
 (.reg [.p (o1 mvG r3) w2])
 .ret)
 .skip)))
 (.seq
 (.reg [.p (o1 (loadnG 6) r1) pushW, .p (callO 27 [l0]) pushW, .p (buildO [.mnil, (.int .i64 (Int.ofNat 0))] [(0, 1, l0)]) pushW, .p (o1 boxG l0) pushW, .p (o1 mvG l0) w4])
 (.seq
 (.seq
 (.reg [.p (o1 (faddrG 4) r1) pushW, .p (o1 load1G l0) w33, .p (o1 lenLG r33) w34, .p (o1 mvG (ctK (.int .i64 (Int.ofNat 0)))) w35])
 (.block 0
 (.loop
 (.seq
 (.reg [.p (o2 (binG (cmpB .lss ltI)) r35 r34) w36])
 (.seq
 (.cond r36
 .skip
 (.exit 0))
 (.seq
 (.block 1
 (.seq
 (.reg [.p (o2 (iaddrG 5) r33 r35) pushW, .p (o1 (loadnG 5) l0) pushW, .p (allocO [(.str 0 0), (.int .i64 (Int.ofNat 0)), (.str 0 0), .snil, .snil]) w6, .p (o2 (storeG 5) r6 l0) noW])
 (.seq
 (.reg [.p (o1 (faddrG 1) r6) pushW, .p (o1 (loadnG 4) l0) pushW, .p (callO 28 [r4, l0, (ctK (.int .i64 (Int.ofNat 1)))]) pushW, .p (o1 mvG l0) w7])
 (.seq
 (.reg [.p (o2 (eqG eqIV true) r7 (ctK (.int .i64 (Int.ofNat 0)))) w44])
 (.cond r44
 (.seq
 (.reg [.p (o1 mvG r7) w2])
 .ret)
 .skip)))))
 (.reg [.p (o2 (binG addB) r35 (ctK (.int .i64 (Int.ofNat 1)))) pushW, .p (o1 mvG l0) w35])))))))
 (.seq
 (.seq
 (.reg [.p (o1 (faddrG 0) r1) pushW, .p (o1 (loadnG 4) l0) pushW, .p (callO 28 [r4, l0, (ctK (.int .i64 (Int.ofNat 1)))]) pushW, .p (o1 mvG l0) w8])
 (.seq
 (.reg [.p (o2 (eqG eqIV true) r8 (ctK (.int .i64 (Int.ofNat 0)))) w52])
 (.cond r52
 (.seq
 (.reg [.p (o1 mvG r8) w2])
 .ret)
 .skip)))
 (.seq
 (.seq
 (.reg [.p (o1 (faddrG 5) r1) pushW, .p (o1 load1G l0) pushW, .p (callO 29 [r4, l0]) pushW, .p (o1 mvG l0) w9])
 (.seq
 (.reg [.p (o2 (eqG eqIV true) r9 (ctK (.int .i64 (Int.ofNat 0)))) w59])
 (.cond r59
 (.seq
 (.reg [.p (o1 mvG r9) w2])
 .ret)
 .skip)))
 (.seq
 (.seq
 (.reg [.p (o1 (faddrG 4) r1) pushW, .p (o1 load1G l0) w62, .p (o1 lenLG r62) w63, .p (o1 mvG (ctK (.int .i64 (Int.ofNat 0)))) w64])
 (.block 2
 (.loop
 (.seq
 (.reg [.p (o2 (binG (cmpB .lss ltI)) r64 r63) w65])
 (.seq
 (.cond r65
 .skip
 (.exit 2))
 (.seq
 (.block 3
 (.seq
 (.reg [.p (o2 (iaddrG 5) r62 r64) pushW, .p (o1 (loadnG 5) l0) pushW, .p (allocO [(.str 0 0), (.int .i64 (Int.ofNat 0)), (.str 0 0), .snil, .snil]) w11, .p (o2 (storeG 5) r11 l0) noW])
 (.seq
 (.reg [.p (o1 (loadnG 6) r1) pushW, .p (o1 (faddrG 1) r11) pushW, .p (o1 (loadnG 4) l0) pushW, .p (callO 21 [l2, l0]) pushW, .p (o1 notG l0) w72])
 (.cond r72
 (.seq
 (.reg [.p (o1 mvG (ctK (.int .i64 (Int.ofNat 14)))) w2])
 .ret)
 .skip))))
 (.reg [.p (o2 (binG addB) r64 (ctK (.int .i64 (Int.ofNat 1)))) pushW, .p (o1 mvG l0) w64])))))))
 (.seq
 (.seq
 (.reg [.p (o1 (loadnG 6) r1) pushW, .p (callO 31 [l0]) pushW, .p (mkfnO 32 [r4] []) pushW, .p (callO 30 [l1, l0]) w78])
 (.cond r78
 (.seq
 (.reg [.p (o1 mvG (ctK (.int .i64 (Int.ofNat 17)))) w2])
 .ret)
 .skip))
 (.seq
 (.reg [.p (o1 mvG (ctK (.int .i64 (Int.ofNat 0)))) w2])
 .ret)))))))))) }
theorem kf17_ok : (compFn Try.prog Try.f17 [[1], [1], [1, 4], [1, 4, 33, 34, 35], [1, 4, 33, 34, 35], [1, 4, 33, 34, 35], [1, 4], [1, 4], [1, 4], [1, 4, 62, 63, 64], [1, 4, 62, 63, 64], [1, 4, 62, 63, 64], []]).bind (toKFn [12, 13, 14, 15, 16, 17, 18, 19, 20, 22, 23, 24, 25, 27, 28, 29, 30, 31, 32, 37, 38, 39, 40, 41, 42, 43, 45, 46, 47, 48, 49, 50, 51, 53, 54, 55, 56, 57, 58, 60, 61, 66, 67, 68, 69, 70, 71, 73, 74, 75, 76, 77] 1) = some kf17 := by kernel_rfl
noncomputable def kf26 : KFn := { params := [w0], res := [(.s r2)], body :=
 (.seq
 (.reg [.p (o1 mvG (ctK (.int .i64 (Int.ofNat 0)))) w2])
 (.seq
 (.seq
 (.reg [.p (o1 mvG r0) w5, .p (o1 lenLG r5) w6, .p (o1 mvG (ctK (.int .i64 (Int.ofNat 0)))) w7])
 (.block 0
 (.loop
 (.seq
 (.reg [.p (o2 (binG (cmpB .lss ltI)) r7 r6) w8])
 (.seq
 (.cond r8
 .skip
 (.exit 0))
 (.seq
 (.block 1
 (.seq
 (.reg [.p (o2 (iaddrG 5) r5 r7) pushW, .p (o1 (loadnG 5) l0) pushW, .p (allocO [(.str 0 0), (.int .i64 (Int.ofNat 0)), (.str 0 0), .snil, .snil]) w4, .p (o1 mvG r7) w3, .p (o2 (storeG 5) r4 l0) noW])
 (.block 2
 (.seq
 (.reg [.p (o1 (faddrG 0) r4) pushW, .p (o1 load1G l0) pushW, .p (callO 45 [l0]) pushW, .p (o1 notG l0) pushW, .g l0 false false none (o1 (faddrG 0) r4) pushW, .g l1 false false none (o1 load1G l0) pushW, .g l2 false false none (o2 (binG addB) (ctK (.str 1 32)) l0) pushW, .g l3 false false none (o2 (binG addB) l0 (ctK (.str 1 32))) pushW, .g l4 false false none (callO 46 [(ctK (.str 34 961356317854820710213059487311157994386979551947476703340595819215633401072534048)), l0]) pushW, .p (o3 pickG l5 (ctK (.bool true)) l0) pushW, .p (o1 mvG l0) w12])
 (.cond r12
 (.seq
 (.reg [.p (o1 mvG (ctK (.int .i64 (Int.ofNat 15)))) w2])
 .ret)
 (.seq
 (.drw [.p (o2 (binG (cmpB .gtr gtI)) r3 (ctK (.int .i64 (Int.ofNat 0)))) pushW, .g l0 true false none (o1 mvG r0) pushW, .g l1 true false none (o1 mvG r3) pushW, .g l2 true false none (o2 (binG subB) l0 (ctK (.int .i64 (Int.ofNat 1)))) pushW, .g l3 true false none (o2 (iaddrG 5) l2 l0) pushW, .g l4 true false none (o1 (faddrG 0) l0) pushW, .g l5 true false none (o1 load1G l0) pushW, .g l6 true false none (o1 (faddrG 0) r4) pushW, .g l7 true false none (o1 load1G l0) pushW, .g l8 true false none (o2 (binG (cmpB .geq geI)) l2 l0) pushW, .p (o3 pickG l9 l0 (ctK (.bool false))) pushW, .p (o1 mvG l0) w24] [])
 (.cond r24
 (.seq
 (.reg [.p (o1 mvG (ctK (.int .i64 (Int.ofNat 6)))) w2])
 .ret)
 .skip)))))))
 (.reg [.p (o2 (binG addB) r7 (ctK (.int .i64 (Int.ofNat 1)))) pushW, .p (o1 mvG l0) w7])))))))
 (.seq
 (.reg [.p (o1 mvG (ctK (.int .i64 (Int.ofNat 0)))) w2])
 .ret))) }
theorem kf26_ok : (compFn Try.prog Try.f26 [[], [0, 5, 6, 7], [0, 5, 6, 7], [0, 5, 6, 7]]).bind (toKFn [9, 10, 11, 13, 14, 15, 16, 17, 18, 19, 20, 21, 22, 23, 25, 26, 27, 28, 29, 30, 31, 32, 33, 34, 35, 36, 37, 38] 1) = some kf26 := by kernel_rfl
noncomputable def kf45 : KFn := { params := [w0], res := [(.s r2)], body :=
 (.seq
 (.reg [.p (o1 mvG (ctK (.bool false))) w2])
 (.seq
 (.reg [.p (o2 (eqG eqSV true) r0 (ctK (.str 0 0))) pushW, .g l0 true false none (o1 mvG r0) pushW, .g l1 true false none (o1 lenSG l0) pushW, .g l2 true false none (o2 (binG (cmpB .leq leI)) l0 (ctK (.int .i64 (Int.ofNat 16)))) pushW, .p (o3 pickG l3 l0 (ctK (.bool false))) pushW, .g l0 true false none (o1 mvG r0) pushW, .g l1 true false none (o2 idxG l0 (ctK (.int .i64 (Int.ofNat 0)))) pushW, .g l2 true false none (callO 59 [l0]) pushW, .g l3 true false none (o1 notG l0) pushW, .p (o3 pickG l4 l0 (ctK (.bool false))) pushW, .g l0 true false none (o1 mvG r0) pushW, .g l1 true false none (callO 60 [l0]) pushW, .g l2 true false none (o1 mvG r0) pushW, .g l3 true false none (o1 lenSG l0) pushW, .g l4 true false none (o2 (eqG eqIV false) l2 l0) pushW, .p (o3 pickG l5 l0 (ctK (.bool false))) pushW, .p (o1 mvG l0) w2])
 .ret)) }
theorem kf45_ok : (compFn Try.prog Try.f45 []).bind (toKFn [3, 4, 5, 6, 7, 8, 9, 10, 11, 12, 13, 14, 15, 16, 17, 18, 19, 20, 21, 22] 1) = some kf45 := by kernel_rfl
noncomputable def kf59 : KFn := { params := [w0], res := [(.s r2)], body :=
 (.seq
 (.reg [.p (o1 mvG (ctK (.bool false))) w2])
 (.seq
 (.reg [.p (o2 (binG (cmpB .geq geI)) r0 (ctK (.int .u8 (Int.ofNat 48)))) pushW, .g l0 true false none (o1 mvG r0) pushW, .g l1 true false none (o2 (binG (cmpB .leq leI)) l0 (ctK (.int .u8 (Int.ofNat 57)))) pushW, .p (o3 pickG l2 l0 (ctK (.bool false))) pushW, .p (o1 mvG l0) w2])
 .ret)) }
theorem kf59_ok : (compFn Try.prog Try.f59 []).bind (toKFn [3, 4, 5, 6, 7, 8] 1) = some kf59 := by kernel_rfl
noncomputable def kf60 : KFn := { params := [w0], res := [(.s r2)], body :=
 (.seq
 (.reg [.p (o1 mvG (ctK (.int .i64 (Int.ofNat 0)))) w2])
 (.seq
 (.reg [.p (callO 63 [r0, (ctK (.fn 64 [] []))]) pushW, .p (o1 mvG l0) w2])
 .ret)) }
theorem kf60_ok : (compFn Try.prog Try.f60 []).bind (toKFn [3, 4] 1) = some kf60 := by kernel_rfl
noncomputable def kf63 : KFn := { params := [w0, w1], res := [(.s r4)], body :=
 (.seq
 (.reg [.p (o1 mvG (ctK (.int .i64 (Int.ofNat 0)))) w4])
 (.seq
 (.seq
 (.reg [.p (o1 rngSG r0) w7])
 (.block 0
 (.loop
 (.seq
 (.reg [.p (o1 nextSG r7) w8, .p (o1 (extG 0) r8) w9])
 (.seq
 (.cond r9
 .skip
 (.exit 0))
 (.block 1
 (.seq
 (.reg [.p (o1 (extG 1) r8) pushW, .p (o1 mvG l0) w5])
 (.seq
 (.reg [.p (o2 idxG r0 r5) pushW, .p (callvO r1 [l0]) pushW, .p (o1 notG l0) w16])
 (.cond r16
 (.seq
 (.reg [.p (o1 mvG r5) w4])
 .ret)
 .skip)))))))))
 (.seq
 (.reg [.p (o1 lenSG r0) pushW, .p (o1 mvG l0) w4])
 .ret))) }
theorem kf63_ok : (compFn Try.prog Try.f63 [[0], [0, 1, 7], [0, 1, 7, 8]]).bind (toKFn [6, 10, 11, 12, 13, 14, 15, 17, 18, 19] 2) = some kf63 := by kernel_rfl
noncomputable def kf64 : KFn := { params := [w0], res := [(.s r2)], body :=
 (.seq
 (.reg [.p (o1 mvG (ctK (.bool false))) w2])
 (.seq
 (.reg [.p (callO 65 [r0]) pushW, .g l0 false false none (o1 mvG r0) pushW, .g l1 false false none (callO 59 [l0]) pushW, .p (o3 pickG l2 (ctK (.bool true)) l0) pushW, .p (o1 mvG l0) w2])
 .ret)) }
theorem kf64_ok : (compFn Try.prog Try.f64 []).bind (toKFn [3, 4, 5, 6, 7, 8] 1) = some kf64 := by kernel_rfl
noncomputable def kf65 : KFn := { params := [w0], res := [(.s r2)], body :=
 (.seq
 (.reg [.p (o1 mvG (ctK (.bool false))) w2])
 (.seq
 (.reg [.p (o2 (eqG eqIV false) r0 (ctK (.int .u8 (Int.ofNat 95)))) pushW, .g l0 false false none (o1 mvG r0) pushW, .g l1 false false none (o2 (binG (slowBin .or)) l0 (ctK (.int .u8 (Int.ofNat 32)))) pushW, .g l2 false false none (o2 (binG (cmpB .geq geI)) l0 (ctK (.int .u8 (Int.ofNat 97)))) pushW, .g l3 false false none (o1 mvG l0) pushW, .g l0 true false none (o1 mvG r0) pushW, .g l1 true false none (o2 (binG (slowBin .or)) l0 (ctK (.int .u8 (Int.ofNat 32)))) pushW, .g l2 true false none (o2 (binG (cmpB .leq leI)) l0 (ctK (.int .u8 (Int.ofNat 122)))) pushW, .g l7 false false none (o3 pickG l3 l0 (ctK (.bool false))) pushW, .p (o3 pickG l8 (ctK (.bool true)) l0) pushW, .p (o1 mvG l0) w2])
 .ret)) }
theorem kf65_ok : (compFn Try.prog Try.f65 []).bind (toKFn [3, 4, 5, 6, 7, 8, 9, 10, 11, 12, 13, 14] 1) = some kf65 := by kernel_rfl
noncomputable def kf27 : KFn := { params := [w0], res := [(.s r2)], body :=
 (.seq
 (.reg [.p (o1 boxG r0) w1, .p (o1 mvG (ctK .mnil)) w2])
 (.seq
 (.reg [.p mkmapO pushW, .p (o1 mvG l0) w3])
 (.seq
 (.seq
 (.reg [.p (o1 (faddrG 4) r1) pushW, .p (o1 load1G l0) w8, .p (o1 lenLG r8) w9, .p (o1 mvG (ctK (.int .i64 (Int.ofNat 0)))) w10])
 (.block 0
 (.loop
 (.seq
 (.reg [.p (o2 (binG (cmpB .lss ltI)) r10 r9) w11])
 (.seq
 (.cond r11
 .skip
 (.exit 0))
 (.seq
 (.block 1
 (.seq
 (.reg [.p (o2 (iaddrG 5) r8 r10) pushW, .p (o1 (loadnG 5) l0) pushW, .p (allocO [(.str 0 0), (.int .i64 (Int.ofNat 0)), (.str 0 0), .snil, .snil]) w5, .p (o2 (storeG 5) r5 l0) noW])
 (.reg [.p (o1 (faddrG 0) r5) pushW, .p (o1 load1G l0) pushW, .p (o1 (faddrG 1) r5) pushW, .p (o1 (loadnG 4) l0) pushW, .p (o3 (mupdG (.one .s)) r3 l2 l0) noW])))
 (.reg [.p (o2 (binG addB) r10 (ctK (.int .i64 (Int.ofNat 1)))) pushW, .p (o1 mvG l0) w10])))))))
 (.seq
 (.reg [.p (o1 mvG r3) w2])
 .ret)))) }
theorem kf27_ok : (compFn Try.prog Try.f27 [[3], [3, 8, 9, 10], [3, 8, 9, 10], [3, 8, 9, 10]]).bind (toKFn [6, 7, 12, 13, 14, 15, 16, 17, 18, 19, 20] 1) = some kf27 := by kernel_rfl
noncomputable def kf28 : KFn := { params := [w0, w1, w2], res := [(.s r6)], body :=
 (.seq
 (.reg [.p (o1 boxG r1) w4, .p (o1 mvG (ctK (.int .i64 (Int.ofNat 0)))) w6])
 (.seq
 (.reg [.p (o1 nilckG r0) pushW, .p (o1 (faddrG 1) l0) pushW, .p (o1 load1G l0) pushW, .p (o2 (binG addB) l0 (ctK (.int .i64 (Int.ofNat 1)))) pushW, .p (o1 nilckG r0) pushW, .p (o1 (faddrG 1) l0) pushW, .p (o2 (storeG 1) l0 l2) noW])
 (.seq
 (.drw [.p (o1 nilckG r0) pushW, .p (o1 (faddrG 0) l0) pushW, .p (o1 load1G l0) pushW, .p (o1 (faddrG 1) r4) pushW, .p (o1 load1G l0) pushW, .p (o2 (lookupG (.one .s) (.agg [(.int .i64 (Int.ofNat 0)), (.str 0 0), .snil, .snil]) true) l2 l0) pushW, .p (o1 (extG 0) l0) pushW, .p (o1 (extG 1) l1) pushW, .p (allocO [(.int .i64 (Int.ofNat 0)), (.str 0 0), .snil, .snil]) pushW, .p (o2 (storeG 4) l0 l2) noW, .p (o1 mvG l1) w8] [])
 (.seq
 (.reg [.p (o1 (faddrG 0) r4) pushW, .p (o1 load1G l0) pushW, .p (o2 (eqG eqIV false) l0 (ctK (.int .i64 (Int.ofNat 7)))) pushW, .g l0 false false none (o1 (faddrG 0) r4) pushW, .g l1 false false none (o1 load1G l0) pushW, .g l2 false false none (o2 (eqG eqIV false) l0 (ctK (.int .i64 (Int.ofNat 8)))) pushW, .p (o3 pickG l3 (ctK (.bool true)) l0) pushW, .p (o1 mvG l0) w9])
 (.seq
 (.block 0
 (.seq
 (.reg [.p (o1 nilckG r0) pushW, .p (o1 (faddrG 1) l0) pushW, .p (o1 load1G l0) pushW, .p (o2 (binG (cmpB .gtr gtI)) l0 (ctK (.int .i64 (Int.ofNat 400)))) pushW, .p (o1 mvG l0) w39])
 (.cond r39
 (.seq
 (.reg [.p (o1 mvG (ctK (.int .i64 (Int.ofNat 3)))) w6])
 .ret)
 (.seq
 (.reg [.p (o2 (binG (cmpB .gtr gtI)) r2 (ctK (.int .i64 (Int.ofNat 12)))) pushW, .p (o1 mvG l0) w45])
 (.cond r45
 (.seq
 (.reg [.p (o1 mvG (ctK (.int .i64 (Int.ofNat 13)))) w6])
 .ret)
 (.seq
 (.reg [.p (o1 (faddrG 0) r4) pushW, .p (o1 load1G l0) pushW, .p (o2 (binG (cmpB .lss ltI)) l0 (ctK (.int .i64 (Int.ofNat 1)))) pushW, .g l0 false false none (o1 (faddrG 0) r4) pushW, .g l1 false false none (o1 load1G l0) pushW, .g l2 false false none (o2 (binG (cmpB .gtr gtI)) l0 (ctK (.int .i64 (Int.ofNat 9)))) pushW, .p (o3 pickG l3 (ctK (.bool true)) l0) pushW, .p (o1 mvG l0) w48])
 (.cond r48
 (.seq
 (.reg [.p (o1 mvG (ctK (.int .i64 (Int.ofNat 1)))) w6])
 .ret)
 (.seq
 (.drw [.p (o1 (faddrG 3) r4) w58, .p (o1 load1G r58) pushW, .p (o1 lenLG l0) pushW, .p (o1 (loadnG 4) r4) pushW, .m (callO 47 [l0]) pushW (some [58]), .p (o2 (eqG eqIV true) l2 l0) pushW, .g l0 false false none (o1 (faddrG 1) r4) pushW, .g l1 false false none (o1 load1G l0) pushW, .g l2 false false none (o2 (eqG eqSV true) l0 (ctK (.str 0 0))) pushW, .g l3 false false none (o1 mvG l0) pushW, .g l0 true false none (o1 (faddrG 0) r4) pushW, .g l1 true false none (o1 load1G l0) pushW, .g l2 true false none (o2 (eqG eqIV true) l0 (ctK (.int .i64 (Int.ofNat 9)))) pushW, .g l7 false false none (o3 pickG l3 l0 (ctK (.bool false))) pushW, .p (o3 pickG l8 (ctK (.bool true)) l0) pushW, .g l0 false false none (o1 (faddrG 2) r4) pushW, .g l1 false false none (o1 load1G l0) pushW, .g l2 false false none (o1 lenLG l0) pushW, .g l3 false false none (o2 (binG (cmpB .gtr gtI)) l0 (ctK (.int .i64 (Int.ofNat 0)))) pushW, .g l4 false false none (o1 mvG l0) pushW, .g l0 true false none (o1 mvG r9) pushW, .g l1 true false none (o1 notG l0) pushW, .g l7 false false none (o3 pickG l2 l0 (ctK (.bool false))) pushW, .p (o3 pickG l8 (ctK (.bool true)) l0) pushW, .p (o1 mvG l0) w57] [])
 (.cond r57
 (.seq
 (.reg [.p (o1 mvG (ctK (.int .i64 (Int.ofNat 12)))) w6])
 .ret)
 (.seq
 (.reg [.p (o1 (faddrG 0) r4) pushW, .p (o1 load1G l0) pushW, .p (o2 (eqG eqIV false) l0 (ctK (.int .i64 (Int.ofNat 9)))) pushW, .g l0 true false none (o1 mvG r8) pushW, .g l1 true false none (o1 notG l0) pushW, .p (o3 pickG l2 l0 (ctK (.bool false))) pushW, .p (o1 mvG l0) w84])
 (.cond r84
 (.seq
 (.reg [.p (o1 mvG (ctK (.int .i64 (Int.ofNat 15)))) w6])
 .ret)
 .skip)))))))))))
 (.seq
 (.seq
 (.reg [.p (o1 (loadnG 4) r4) pushW, .p (callO 48 [l0]) pushW, .p (o1 mvG l0) w10])
 (.seq
 (.reg [.p (o2 (eqG eqIV true) r10 (ctK (.int .i64 (Int.ofNat 0)))) w95])
 (.cond r95
 (.seq
 (.reg [.p (o1 mvG r10) w6])
 .ret)
 .skip)))
 (.seq
 (.seq
 (.reg [.p (o1 (faddrG 3) r4) pushW, .p (o1 load1G l0) w98, .p (o1 lenLG r98) w99, .p (o1 mvG (ctK (.int .i64 (Int.ofNat 0)))) w100])
 (.block 1
 (.loop
 (.seq
 (.reg [.p (o2 (binG (cmpB .lss ltI)) r100 r99) w101])
 (.seq
 (.cond r101
 .skip
 (.exit 1))
 (.seq
 (.block 2
 (.seq
 (.reg [.p (o2 (iaddrG 4) r98 r100) pushW, .p (o1 (loadnG 4) l0) pushW, .p (allocO [(.int .i64 (Int.ofNat 0)), (.str 0 0), .snil, .snil]) w12, .p (o2 (storeG 4) r12 l0) noW])
 (.seq
 (.reg [.p (o1 (loadnG 4) r12) pushW, .p (o2 (binG addB) r2 (ctK (.int .i64 (Int.ofNat 1)))) pushW, .p (callO 28 [r0, l1, l0]) pushW, .p (o1 mvG l0) w13])
 (.seq
 (.reg [.p (o2 (eqG eqIV true) r13 (ctK (.int .i64 (Int.ofNat 0)))) w110])
 (.cond r110
 (.seq
 (.reg [.p (o1 mvG r13) w6])
 .ret)
 .skip)))))
 (.reg [.p (o2 (binG addB) r100 (ctK (.int .i64 (Int.ofNat 1)))) pushW, .p (o1 mvG l0) w100])))))))
 (.seq
 (.reg [.p (o1 mvG (ctK (.int .i64 (Int.ofNat 0)))) w6])
 .ret)))))))) }
theorem kf28_ok : (compFn Try.prog Try.f28 [[0, 2, 4], [0, 2, 4], [], [0, 2, 98, 99, 100], [0, 2, 98, 99, 100], [0, 2, 98, 99, 100]]).bind (toKFn [7, 14, 15, 16, 17, 18, 19, 20, 21, 22, 23, 24, 25, 26, 27, 28, 29, 30, 31, 32, 33, 34, 35, 36, 37, 38, 40, 41, 42, 43, 44, 46, 47, 49, 50, 51, 52, 53, 54, 55, 56, 59, 60, 61, 62, 63, 64, 65, 66, 67, 68, 69, 70, 71, 72, 73, 74, 75, 76, 77, 78, 79, 80, 81, 82, 83, 85, 86, 87, 88, 89, 90, 91, 92, 93, 94, 96, 97, 102, 103, 104, 105, 106, 107, 108, 109, 111, 112] 3) = some kf28 := by kernel_rfl
noncomputable def kf47 : KFn := { params := [w0], res := [(.s r2)], body :=
 (.seq
 (.reg [.p (o1 boxG r0) w1, .p (o1 mvG (ctK (.int .i64 (Int.ofNat 0)))) w2])
 (.seq
 (.seq
 (.reg [.p (o1 (faddrG 0) r1) pushW, .p (o1 load1G l0) w4])
 (.block 0
 (.seq
 (.seq
 (.reg [.p (o2 (eqG eqIV false) r4 (ctK (.int .i64 (Int.ofNat 4)))) pushW, .p (o1 mvG l0) w5])
 (.cond r5
 .skip
 (.seq
 (.reg [.p (o2 (eqG eqIV false) r4 (ctK (.int .i64 (Int.ofNat 5)))) pushW, .p (o1 mvG l0) w5])
 (.cond r5
 .skip
 (.reg [.p (o2 (eqG eqIV false) r4 (ctK (.int .i64 (Int.ofNat 6)))) pushW, .p (o1 mvG l0) w5])))))
 (.cond r5
 (.seq
 (.reg [.p (o1 mvG (ctK (.int .i64 (Int.ofNat 1)))) w2])
 .ret)
 (.seq
 (.seq
 (.reg [.p (o2 (eqG eqIV false) r4 (ctK (.int .i64 (Int.ofNat 7)))) pushW, .p (o1 mvG l0) w9])
 (.cond r9
 .skip
 (.reg [.p (o2 (eqG eqIV false) r4 (ctK (.int .i64 (Int.ofNat 8)))) pushW, .p (o1 mvG l0) w9])))
 (.cond r9
 (.seq
 (.reg [.p (o1 (faddrG 2) r1) pushW, .p (o1 load1G l0) pushW, .p (o1 lenLG l0) pushW, .p (o1 mvG l0) w2])
 .ret)
 .skip))))))
 (.seq
 (.reg [.p (o1 mvG (ctK (.int .i64 (Int.ofNat 0)))) w2])
 .ret))) }
theorem kf47_ok : (compFn Try.prog Try.f47 [[], [1, 4, 5], [1, 9]]).bind (toKFn [3, 6, 7, 8, 10, 11, 12, 13, 14] 1) = some kf47 := by kernel_rfl
noncomputable def kf48 : KFn := { params := [w0], res := [(.s r2)], body :=
 (.seq
 (.reg [.p (o1 boxG r0) w1, .p (o1 mvG (ctK (.int .i64 (Int.ofNat 0)))) w2])
 (.seq
 (.seq
 (.reg [.p (o1 (faddrG 2) r1) pushW, .p (o1 load1G l0) pushW, .p (o1 lenLG l0) pushW, .p (o2 (binG (cmpB .gtr gtI)) l0 (ctK (.int .i64 (Int.ofNat 8)))) w8])
 (.cond r8
 (.seq
 (.reg [.p (o1 mvG (ctK (.int .i64 (Int.ofNat 3)))) w2])
 .ret)
 .skip))
 (.seq
 (.seq
 (.reg [.p (o1 (faddrG 2) r1) pushW, .p (o1 load1G l0) w10, .p (o1 lenLG r10) w11, .p (o1 mvG (ctK (.int .i64 (Int.ofNat 0)))) w12])
 (.block 0
 (.loop
 (.seq
 (.reg [.p (o2 (binG (cmpB .lss ltI)) r12 r11) w13])
 (.seq
 (.cond r13
 .skip
 (.exit 0))
 (.seq
 (.block 1
 (.seq
 (.reg [.p (o2 (iaddrG 1) r10 r12) pushW, .p (o1 load1G l0) pushW, .p (o1 mvG r12) w3, .p (o1 mvG l0) w4])
 (.block 2
 (.seq
 (.reg [.p (callO 45 [r4]) pushW, .p (o1 notG l0) pushW, .p (o1 mvG l0) w17])
 (.cond r17
 (.seq
 (.reg [.p (o1 mvG (ctK (.int .i64 (Int.ofNat 15)))) w2])
 .ret)
 (.seq
 (.reg [.p (o2 (binG (cmpB .gtr gtI)) r3 (ctK (.int .i64 (Int.ofNat 0)))) pushW, .g l0 true false none (o1 (faddrG 2) r1) pushW, .g l1 true false none (o1 load1G l0) pushW, .g l2 true false none (o1 mvG r3) pushW, .g l3 true false none (o2 (binG subB) l0 (ctK (.int .i64 (Int.ofNat 1)))) pushW, .g l4 true false none (o2 (iaddrG 1) l2 l0) pushW, .g l5 true false none (o1 load1G l0) pushW, .g l6 true false none (o1 mvG r4) pushW, .g l7 true false none (o2 (binG (cmpB .geq geI)) l1 l0) pushW, .p (o3 pickG l8 l0 (ctK (.bool false))) pushW, .p (o1 mvG l0) w21])
 (.cond r21
 (.seq
 (.reg [.p (o1 mvG (ctK (.int .i64 (Int.ofNat 6)))) w2])
 .ret)
 .skip)))))))
 (.reg [.p (o2 (binG addB) r12 (ctK (.int .i64 (Int.ofNat 1)))) pushW, .p (o1 mvG l0) w12])))))))
 (.seq
 (.seq
 (.reg [.p (o1 (faddrG 0) r1) pushW, .p (o1 load1G l0) pushW, .p (o2 (eqG eqIV false) l0 (ctK (.int .i64 (Int.ofNat 8)))) pushW, .g l0 true false none (o1 (faddrG 2) r1) pushW, .g l1 true false none (o1 load1G l0) pushW, .g l2 true false none (o1 lenLG l0) pushW, .g l3 true false none (o2 (eqG eqIV false) l0 (ctK (.int .i64 (Int.ofNat 0)))) pushW, .p (o3 pickG l4 l0 (ctK (.bool false))) w43])
 (.cond r43
 (.seq
 (.reg [.p (o1 mvG (ctK (.int .i64 (Int.ofNat 12)))) w2])
 .ret)
 .skip))
 (.seq
 (.reg [.p (o1 mvG (ctK (.int .i64 (Int.ofNat 0)))) w2])
 .ret))))) }
theorem kf48_ok : (compFn Try.prog Try.f48 [[1], [1], [1, 10, 11, 12], [1, 10, 11, 12], [1, 10, 11, 12], []]).bind (toKFn [5, 6, 7, 9, 14, 15, 16, 18, 19, 20, 22, 23, 24, 25, 26, 27, 28, 29, 30, 31, 32, 33, 34, 35, 36, 37, 38, 39, 40, 41, 42] 1) = some kf48 := by kernel_rfl
noncomputable def kf29 : KFn := { params := [w0, w1], res := [(.s r4)], body :=
 (.seq
 (.reg [.p (o1 mvG (ctK (.int .i64 (Int.ofNat 0)))) w4])
 (.seq
 (.seq
 (.reg [.p (o1 mvG r1) w8, .p (o1 lenLG r8) w9, .p (o1 mvG (ctK (.int .i64 (Int.ofNat 0)))) w10])
 (.block 0
 (.loop
 (.seq
 (.reg [.p (o2 (binG (cmpB .lss ltI)) r10 r9) w11])
 (.seq
 (.cond r11
 .skip
 (.exit 0))
 (.seq
 (.block 1
 (.seq
 (.reg [.p (o2 (iaddrG 6) r8 r10) pushW, .p (o1 (loadnG 6) l0) pushW, .p (allocO [(.str 0 0), .snil, (.int .i64 (Int.ofNat 0)), (.str 0 0), .snil, .snil]) w6, .p (o1 mvG r10) w5, .p (o2 (storeG 6) r6 l0) noW])
 (.seq
 (.block 2
 (.seq
 (.reg [.p (o1 (faddrG 0) r6) pushW, .p (o1 load1G l0) pushW, .p (callO 45 [l0]) pushW, .p (o1 notG l0) pushW, .g l0 false false none (o1 (faddrG 0) r6) pushW, .g l1 false false none (o1 load1G l0) pushW, .g l2 false false none (callO 24 [l0]) pushW, .p (o3 pickG l3 (ctK (.bool true)) l0) pushW, .p (o1 mvG l0) w15])
 (.cond r15
 (.seq
 (.reg [.p (o1 mvG (ctK (.int .i64 (Int.ofNat 15)))) w4])
 .ret)
 (.seq
 (.drw [.p (o2 (binG (cmpB .gtr gtI)) r5 (ctK (.int .i64 (Int.ofNat 0)))) pushW, .g l0 true false none (o1 mvG r1) pushW, .g l1 true false none (o1 mvG r5) pushW, .g l2 true false none (o2 (binG subB) l0 (ctK (.int .i64 (Int.ofNat 1)))) pushW, .g l3 true false none (o2 (iaddrG 6) l2 l0) pushW, .g l4 true false none (o1 (faddrG 0) l0) pushW, .g l5 true false none (o1 load1G l0) pushW, .g l6 true false none (o1 (faddrG 0) r6) pushW, .g l7 true false none (o1 load1G l0) pushW, .g l8 true false none (o2 (binG (cmpB .geq geI)) l2 l0) pushW, .p (o3 pickG l9 l0 (ctK (.bool false))) pushW, .p (o1 mvG l0) w25] [])
 (.cond r25
 (.seq
 (.reg [.p (o1 mvG (ctK (.int .i64 (Int.ofNat 6)))) w4])
 .ret)
 (.seq
 (.reg [.p (o1 (faddrG 1) r6) pushW, .p (o1 load1G l0) pushW, .p (o1 lenLG l0) pushW, .p (o2 (binG (cmpB .gtr gtI)) l0 (ctK (.int .i64 (Int.ofNat 4)))) pushW, .p (o1 mvG l0) w39])
 (.cond r39
 (.seq
 (.reg [.p (o1 mvG (ctK (.int .i64 (Int.ofNat 18)))) w4])
 .ret)
 .skip)))))))
 (.seq
 (.drw [.p (o1 (faddrG 1) r6) pushW, .p (o1 load1G l0) pushW, .m (callO 50 [l0]) pushW none, .p (o1 (faddrG 2) r6) pushW, .p (o1 (loadnG 4) l0) pushW, .p (bslO 4 1 [(.int .i64 (Int.ofNat 0)), (.str 0 0), .snil, .snil] [(0, 4, l0)]) pushW, .p (o2 (appG 4) l3 l0) pushW, .m (callO 49 [r0, l0]) pushW (some []), .p (o1 mvG l0) w7] [])
 (.seq
 (.reg [.p (o2 (eqG eqIV true) r7 (ctK (.int .i64 (Int.ofNat 0)))) w54])
 (.cond r54
 (.seq
 (.reg [.p (o1 mvG r7) w4])
 .ret)
 .skip))))))
 (.reg [.p (o2 (binG addB) r10 (ctK (.int .i64 (Int.ofNat 1)))) pushW, .p (o1 mvG l0) w10])))))))
 (.seq
 (.reg [.p (o1 mvG (ctK (.int .i64 (Int.ofNat 0)))) w4])
 .ret))) }
theorem kf29_ok : (compFn Try.prog Try.f29 [[], [0, 1, 8, 9, 10], [0, 1, 8, 9, 10], [0, 1, 8, 9, 10], [0, 1, 6, 8, 9, 10]]).bind (toKFn [12, 13, 14, 16, 17, 18, 19, 20, 21, 22, 23, 24, 26, 27, 28, 29, 30, 31, 32, 33, 34, 35, 36, 37, 38, 40, 41, 42, 43, 44, 45, 46, 47, 48, 49, 50, 51, 52, 53, 55, 56] 2) = some kf29 := by kernel_rfl
noncomputable def kf24 : KFn := { params := [w0], res := [(.s r2)], body :=
 (.seq
 (.reg [.p (o1 mvG (ctK (.bool false))) w2])
 (.seq
 (.reg [.p (callO 45 [r0]) pushW, .g l0 true false none (o1 mvG r0) pushW, .g l1 true false none (o2 (binG addB) (ctK (.str 1 32)) l0) pushW, .g l2 true false none (o2 (binG addB) l0 (ctK (.str 1 32))) pushW, .g l3 true false none (callO 46 [(ctK (.str 91 178686683887446287100313889210838612883293650169161782699781515008887049184836398825504385070224074575899429074951214181473750552558099404030661262664651392350738735132031991416282501624620935436484047697889576312204320)), l0]) pushW, .p (o3 pickG l4 l0 (ctK (.bool false))) pushW, .p (o1 mvG l0) w2])
 .ret)) }
theorem kf24_ok : (compFn Try.prog Try.f24 []).bind (toKFn [3, 4, 5, 6, 7, 8, 9, 10] 1) = some kf24 := by kernel_rfl
noncomputable def kf50 : KFn := { params := [w0], res := [(.s r2)], body :=
 (.seq
 (.reg [.p (o1 mvG (ctK .snil)) w2])
 (.seq
 (.seq
 (.reg [.p (o2 (eqG (slowEq (.one .l)) false) r0 (ctK .snil)) w4])
 (.cond r4
 (.seq
 (.reg [.p (o1 mvG (ctK .snil)) w2])
 .ret)
 .skip))
 (.seq
 (.reg [.p (bslO 4 0 [] []) pushW, .p (o2 (appG 4) l0 r0) pushW, .p (o1 mvG l0) w2])
 .ret))) }
theorem kf50_ok : (compFn Try.prog Try.f50 [[0]]).bind (toKFn [3, 5, 6, 7] 1) = some kf50 := by kernel_rfl
noncomputable def kf49 : KFn := { params := [w0, w1], res := [(.s r4)], body :=
 (.seq
 (.reg [.p (o1 mvG (ctK (.int .i64 (Int.ofNat 0)))) w4])
 (.seq
 (.seq
 (.reg [.p (o1 mvG r1) w8, .p (o1 lenLG r8) w9, .p (o1 mvG (ctK (.int .i64 (Int.ofNat 0)))) w10])
 (.block 0
 (.loop
 (.seq
 (.reg [.p (o2 (binG (cmpB .lss ltI)) r10 r9) w11])
 (.seq
 (.cond r11
 .skip
 (.exit 0))
 (.seq
 (.block 1
 (.seq
 (.reg [.p (o2 (iaddrG 4) r8 r10) pushW, .p (o1 (loadnG 4) l0) pushW, .p (allocO [(.int .i64 (Int.ofNat 0)), (.str 0 0), .snil, .snil]) w6, .p (o2 (storeG 4) r6 l0) noW])
 (.seq
 (.reg [.p (o1 (loadnG 4) r6) pushW, .p (callO 28 [r0, l0, (ctK (.int .i64 (Int.ofNat 1)))]) pushW, .p (o1 mvG l0) w7])
 (.seq
 (.reg [.p (o2 (eqG eqIV true) r7 (ctK (.int .i64 (Int.ofNat 0)))) w18])
 (.cond r18
 (.seq
 (.reg [.p (o1 mvG r7) w4])
 .ret)
 .skip)))))
 (.reg [.p (o2 (binG addB) r10 (ctK (.int .i64 (Int.ofNat 1)))) pushW, .p (o1 mvG l0) w10])))))))
 (.seq
 (.reg [.p (o1 mvG (ctK (.int .i64 (Int.ofNat 0)))) w4])
 .ret))) }
theorem kf49_ok : (compFn Try.prog Try.f49 [[], [0, 8, 9, 10], [0, 8, 9, 10], [0, 8, 9, 10]]).bind (toKFn [12, 13, 14, 15, 16, 17, 19, 20] 2) = some kf49 := by kernel_rfl
noncomputable def kf21 : KFn := { params := [w0, w1], res := [(.s r4)], body :=
 (.seq
 (.reg [.p (o1 boxG r0) w2, .p (o1 boxG r1) w3, .p (o1 mvG (ctK (.bool false))) w4])
 (.seq
 (.reg [.p (o1 (loadnG 6) r2) pushW, .p (callO 27 [l0]) pushW, .p (buildO [.mnil, (.int .i64 (Int.ofNat 0))] [(0, 1, l0)]) pushW, .p (o1 boxG l0) pushW, .p (o1 mvG l0) w5])
 (.seq
 (.seq
 (.reg [.p (o1 (faddrG 4) r2) pushW, .p (o1 load1G l0) w16, .p (o1 lenLG r16) w17, .p (o1 mvG (ctK (.int .i64 (Int.ofNat 0)))) w18])
 (.block 0
 (.loop
 (.seq
 (.reg [.p (o2 (binG (cmpB .lss ltI)) r18 r17) w19])
 (.seq
 (.cond r19
 .skip
 (.exit 0))
 (.seq
 (.block 1
 (.seq
 (.reg [.p (o2 (iaddrG 5) r16 r18) pushW, .p (o1 (loadnG 5) l0) pushW, .p (allocO [(.str 0 0), (.int .i64 (Int.ofNat 0)), (.str 0 0), .snil, .snil]) w7, .p (o2 (storeG 5) r7 l0) noW])
 (.seq
 (.reg [.p (o1 (faddrG 1) r7) pushW, .p (o1 (loadnG 4) l0) pushW, .p (callO 28 [r5, l0, (ctK (.int .i64 (Int.ofNat 1)))]) pushW, .p (o2 (eqG eqIV true) l0 (ctK (.int .i64 (Int.ofNat 0)))) w26])
 (.cond r26
 (.seq
 (.reg [.p (o1 mvG (ctK (.bool false))) w4])
 .ret)
 .skip))))
 (.reg [.p (o2 (binG addB) r18 (ctK (.int .i64 (Int.ofNat 1)))) pushW, .p (o1 mvG l0) w18])))))))
 (.seq
 (.reg [.p (o1 nilckG r5) pushW, .p (o1 (faddrG 1) l0) pushW, .p (o2 (storeG 1) l0 (ctK (.int .i64 (Int.ofNat 0)))) noW])
 (.seq
 (.seq
 (.reg [.p (o1 (loadnG 4) r3) pushW, .p (callO 28 [r5, l0, (ctK (.int .i64 (Int.ofNat 1)))]) pushW, .p (o2 (eqG eqIV true) l0 (ctK (.int .i64 (Int.ofNat 0)))) w34])
 (.cond r34
 (.seq
 (.reg [.p (o1 mvG (ctK (.bool false))) w4])
 .ret)
 .skip))
 (.seq
 (.reg [.p mkmapO pushW, .p (o1 mvG l0) w8])
 (.seq
 (.seq
 (.reg [.p (o1 (faddrG 4) r2) pushW, .p (o1 load1G l0) pushW, .p (o1 lenLG l0) w38, .p (o1 mvG (ctK (.int .i64 (Int.ofNat 0)))) w39])
 (.block 2
 (.loop
 (.seq
 (.reg [.p (o2 (binG (cmpB .lss ltI)) r39 r38) w40])
 (.seq
 (.cond r40
 .skip
 (.exit 2))
 (.seq
 (.block 3
 (.seq
 (.reg [.p (o1 (faddrG 4) r2) pushW, .p (o1 load1G l0) w42, .p (o1 lenLG r42) w43, .p (o1 mvG (ctK (.int .i64 (Int.ofNat 0)))) w44])
 (.block 4
 (.loop
 (.seq
 (.reg [.p (o2 (binG (cmpB .lss ltI)) r44 r43) w45])
 (.seq
 (.cond r45
 .skip
 (.exit 4))
 (.seq
 (.block 5
 (.seq
 (.reg [.p (o2 (iaddrG 5) r42 r44) pushW, .p (o1 (loadnG 5) l0) pushW, .p (allocO [(.str 0 0), (.int .i64 (Int.ofNat 0)), (.str 0 0), .snil, .snil]) w10, .p (o2 (storeG 5) r10 l0) noW])
 (.drw [.p (o1 (faddrG 0) r10) w49, .p (o1 load1G r49) pushW, .p (o1 (faddrG 0) r10) pushW, .p (o1 load1G l0) pushW, .p (o2 (lookupG (.one .s) (.bool false) false) r8 l0) pushW, .g l0 false false none (o1 (faddrG 1) r10) pushW, .g l1 false false none (o1 (loadnG 4) l0) pushW, .g l2 false false none (o1 mvG r8) pushW, .g l3 false true (some [49]) (callO 39 [l1, l0, (ctK (.int .i64 (Int.ofNat 1)))]) pushW, .p (o3 pickG l4 (ctK (.bool true)) l0) pushW, .p (o3 (mupdG (.one .s)) r8 l8 l0) noW] [])))
 (.reg [.p (o2 (binG addB) r44 (ctK (.int .i64 (Int.ofNat 1)))) pushW, .p (o1 mvG l0) w44]))))))))
 (.reg [.p (o2 (binG addB) r39 (ctK (.int .i64 (Int.ofNat 1)))) pushW, .p (o1 mvG l0) w39])))))))
 (.seq
 (.reg [.p (o1 (loadnG 4) r3) pushW, .p (callO 39 [l0, r8, (ctK (.int .i64 (Int.ofNat 1)))]) pushW, .p (o1 mvG l0) w4])
 .ret)))))))) }
theorem kf21_ok : (compFn Try.prog Try.f21 [[2, 3, 5], [2, 3, 5, 16, 17, 18], [2, 3, 5, 16, 17, 18], [2, 3, 5, 16, 17, 18], [2, 3], [3, 8], [2, 3, 8, 38, 39], [2, 3, 8, 38, 39], [2, 3, 8, 38, 39], [2, 3, 8, 38, 39, 42, 43, 44], [2, 3, 8, 38, 39, 42, 43, 44], [2, 3, 8, 38, 39, 42, 43, 44]]).bind (toKFn [11, 12, 13, 14, 15, 20, 21, 22, 23, 24, 25, 27, 28, 29, 30, 31, 32, 33, 35, 36, 37, 41, 46, 47, 48, 50, 51, 52, 53, 54, 55, 56, 57, 58, 59, 60, 61, 62, 63, 64, 65] 2) = some kf21 := by kernel_rfl
noncomputable def kf39 : KFn := { params := [w0, w1, w2], res := [(.s r6)], body :=
 (.seq
 (.reg [.p (o1 boxG r0) w3, .p (o1 boxG r1) w4, .p (o1 boxG r2) w5, .p (o1 mvG (ctK (.bool false))) w6])
 (.seq
 (.seq
 (.reg [.p (o1 load1G r5) pushW, .p (o2 (binG (cmpB .gtr gtI)) l0 (ctK (.int .i64 (Int.ofNat 12)))) w9])
 (.cond r9
 (.seq
 (.reg [.p (o1 mvG (ctK (.bool false))) w6])
 .ret)
 .skip))
 (.seq
 (.reg [.p (mkfnO 56 [] [r4, r5]) pushW, .p (allocO [.fnil]) w7, .p (o2 (storeG 1) r7 l0) noW])
 (.seq
 (.seq
 (.reg [.p (o1 (faddrG 0) r3) pushW, .p (o1 load1G l0) w12])
 (.block 0
 (.seq
 (.reg [.p (o2 (eqG eqIV false) r12 (ctK (.int .i64 (Int.ofNat 9)))) pushW, .p (o1 mvG l0) w13])
 (.cond r13
 (.seq
 (.reg [.p (o1 load1G r4) pushW, .p (o1 (faddrG 1) r3) pushW, .p (o1 load1G l0) pushW, .p (o2 (lookupG (.one .s) (.bool false) false) l2 l0) pushW, .p (o1 mvG l0) w6])
 .ret)
 (.seq
 (.reg [.p (o2 (eqG eqIV false) r12 (ctK (.int .i64 (Int.ofNat 8)))) pushW, .p (o1 mvG l0) w19])
 (.cond r19
 (.seq
 (.reg [.p (o1 (faddrG 3) r3) pushW, .p (o1 load1G l0) pushW, .p (o1 load1G r7) pushW, .p (callO 30 [l1, l0]) pushW, .p (o1 mvG l0) w6])
 .ret)
 (.seq
 (.reg [.p (o2 (eqG eqIV false) r12 (ctK (.int .i64 (Int.ofNat 7)))) pushW, .p (o1 mvG l0) w25])
 (.cond r25
 (.seq
 (.reg [.p (o1 (faddrG 3) r3) pushW, .p (o1 load1G l0) pushW, .p (mkfnO 57 [] [r7]) pushW, .p (callO 30 [l1, l0]) pushW, .p (o1 notG l0) pushW, .p (o1 mvG l0) w6])
 .ret)
 .skip))))))))
 (.seq
 (.reg [.p (o1 mvG (ctK (.bool true))) w6])
 .ret))))) }
theorem kf39_ok : (compFn Try.prog Try.f39 [[3, 4, 5], []]).bind (toKFn [8, 10, 11, 14, 15, 16, 17, 18, 20, 21, 22, 23, 24, 26, 27, 28, 29, 30, 31] 3) = some kf39 := by kernel_rfl
noncomputable def kf56 : KFn := { params := [w0, w1, w2], res := [(.s r4)], body :=
 (.seq
 (.reg [.p (o1 boxG r0) w3, .p (o1 mvG (ctK (.bool false))) w4])
 (.seq
 (.reg [.p (o1 (loadnG 4) r3) pushW, .p (o1 load1G r1) pushW, .p (o1 load1G r2) pushW, .p (o2 (binG addB) l0 (ctK (.int .i64 (Int.ofNat 1)))) pushW, .p (callO 39 [l3, l2, l0]) pushW, .p (o1 mvG l0) w4])
 .ret)) }
theorem kf56_ok : (compFn Try.prog Try.f56 []).bind (toKFn [5, 6, 7, 8, 9] 3) = some kf56 := by kernel_rfl
noncomputable def kf30 : KFn := { params := [w0, w1], res := [(.s r4)], body :=
 (.seq
 (.reg [.p (o1 mvG (ctK (.bool false))) w4])
 (.seq
 (.reg [.p (callO 51 [r0, r1]) pushW, .p (o2 (binG (cmpB .geq geI)) l0 (ctK (.int .i64 (Int.ofNat 0)))) pushW, .p (o1 mvG l0) w4])
 .ret)) }
theorem kf30_ok : (compFn Try.prog Try.f30 []).bind (toKFn [5, 6, 7, 8] 2) = some kf30 := by kernel_rfl
noncomputable def kf51 : KFn := { params := [w0, w1], res := [(.s r4)], body :=
 (.seq
 (.reg [.p (o1 mvG (ctK (.int .i64 (Int.ofNat 0)))) w4])
 (.seq
 (.seq
 (.reg [.p (o1 lenLG r0) w7, .p (o1 mvG (ctK (.int .i64 (Int.ofNat 0)))) w8])
 (.block 0
 (.loop
 (.seq
 (.reg [.p (o2 (binG (cmpB .lss ltI)) r8 r7) w9])
 (.seq
 (.cond r9
 .skip
 (.exit 0))
 (.seq
 (.block 1
 (.seq
 (.reg [.p (o1 mvG r8) w5])
 (.seq
 (.reg [.p (o2 (iaddrG 4) r0 r5) pushW, .p (o1 (loadnG 4) l0) pushW, .p (callvO r1 [l0]) w16])
 (.cond r16
 (.seq
 (.reg [.p (o1 mvG r5) w4])
 .ret)
 .skip))))
 (.reg [.p (o2 (binG addB) r8 (ctK (.int .i64 (Int.ofNat 1)))) pushW, .p (o1 mvG l0) w8])))))))
 (.seq
 (.reg [.p (o1 mvG (ctK (.int .i64 (Int.negSucc 0)))) w4])
 .ret))) }
theorem kf51_ok : (compFn Try.prog Try.f51 [[], [0, 1, 7, 8], [0, 1, 7, 8], [0, 1, 7, 8]]).bind (toKFn [6, 10, 11, 12, 13, 14, 15, 17, 18] 2) = some kf51 := by kernel_rfl
noncomputable def kf57 : KFn := { params := [w0, w1], res := [(.s r3)], body :=
 (.seq
 (.reg [.p (o1 boxG r0) w2, .p (o1 mvG (ctK (.bool false))) w3])
 (.seq
 (.reg [.p (o1 load1G r1) pushW, .p (o1 (loadnG 4) r2) pushW, .p (callvO l1 [l0]) pushW, .p (o1 notG l0) pushW, .p (o1 mvG l0) w3])
 .ret)) }
theorem kf57_ok : (compFn Try.prog Try.f57 []).bind (toKFn [4, 5, 6, 7] 2) = some kf57 := by kernel_rfl
noncomputable def kf31 : KFn := { params := [w0], res := [(.s r2)], body :=
 (.seq
 (.reg [.p (o1 boxG r0) w1, .p (o1 mvG (ctK .snil)) w2])
 (.seq
 (.reg [.p (o1 mvG (ctK .snil)) w3])
 (.seq
 (.seq
 (.reg [.p (o1 (faddrG 4) r1) pushW, .p (o1 load1G l0) w9, .p (o1 lenLG r9) w10, .p (o1 mvG (ctK (.int .i64 (Int.ofNat 0)))) w11])
 (.block 0
 (.loop
 (.seq
 (.reg [.p (o2 (binG (cmpB .lss ltI)) r11 r10) w12])
 (.seq
 (.cond r12
 .skip
 (.exit 0))
 (.seq
 (.block 1
 (.seq
 (.reg [.p (o2 (iaddrG 5) r9 r11) pushW, .p (o1 (loadnG 5) l0) pushW, .p (allocO [(.str 0 0), (.int .i64 (Int.ofNat 0)), (.str 0 0), .snil, .snil]) w5, .p (o2 (storeG 5) r5 l0) noW])
 (.reg [.p (o1 mvG r3) pushW, .p (o1 (faddrG 1) r5) pushW, .p (o1 (loadnG 4) l0) pushW, .p (bslO 4 1 [(.int .i64 (Int.ofNat 0)), (.str 0 0), .snil, .snil] [(0, 4, l0)]) pushW, .p (o2 (appG 4) l3 l0) pushW, .p (o1 mvG l0) w3])))
 (.reg [.p (o2 (binG addB) r11 (ctK (.int .i64 (Int.ofNat 1)))) pushW, .p (o1 mvG l0) w11])))))))
 (.seq
 (.reg [.p (o1 mvG r3) pushW, .p (o1 (faddrG 0) r1) pushW, .p (o1 (loadnG 4) l0) pushW, .p (bslO 4 1 [(.int .i64 (Int.ofNat 0)), (.str 0 0), .snil, .snil] [(0, 4, l0)]) pushW, .p (o2 (appG 4) l3 l0) pushW, .p (o1 mvG l0) w3])
 (.seq
 (.seq
 (.reg [.p (o1 (faddrG 5) r1) pushW, .p (o1 load1G l0) w27, .p (o1 lenLG r27) w28, .p (o1 mvG (ctK (.int .i64 (Int.ofNat 0)))) w29])
 (.block 2
 (.loop
 (.seq
 (.reg [.p (o2 (binG (cmpB .lss ltI)) r29 r28) w30])
 (.seq
 (.cond r30
 .skip
 (.exit 2))
 (.seq
 (.block 3
 (.seq
 (.reg [.p (o2 (iaddrG 6) r27 r29) pushW, .p (o1 (loadnG 6) l0) pushW, .p (allocO [(.str 0 0), .snil, (.int .i64 (Int.ofNat 0)), (.str 0 0), .snil, .snil]) w7, .p (o2 (storeG 6) r7 l0) noW])
 (.drw [.p (o1 mvG r3) w33, .p (o1 (faddrG 1) r7) pushW, .p (o1 load1G l0) pushW, .p (o2 (appG 4) r33 l0) pushW, .p (o1 (faddrG 2) r7) w37, .p (o1 (loadnG 4) r37) pushW, .p (bslO 4 1 [(.int .i64 (Int.ofNat 0)), (.str 0 0), .snil, .snil] [(0, 4, l0)]) pushW, .p (o2 (appG 4) l2 l0) pushW, .p (o1 mvG l0) w3] [([r33], [r37])])))
 (.reg [.p (o2 (binG addB) r29 (ctK (.int .i64 (Int.ofNat 1)))) pushW, .p (o1 mvG l0) w29])))))))
 (.seq
 (.reg [.p (o1 mvG r3) w2])
 .ret)))))) }
theorem kf31_ok : (compFn Try.prog Try.f31 [[1, 3], [1, 3, 9, 10, 11], [1, 3, 9, 10, 11], [1, 3, 9, 10, 11], [3], [3, 27, 28, 29], [3, 27, 28, 29], [3, 27, 28, 29]]).bind (toKFn [8, 13, 14, 15, 16, 17, 18, 19, 20, 21, 22, 23, 24, 25, 26, 31, 32, 34, 35, 36, 38, 39, 40, 41, 42] 1) = some kf31 := by kernel_rfl
noncomputable def kf32 : KFn := { params := [w0, w1], res := [(.s r4)], body :=
 (.seq
 (.reg [.p (o1 boxG r1) w3, .p (o1 mvG (ctK (.bool false))) w4])
 (.seq
 (.seq
 (.reg [.p (o1 (faddrG 0) r3) pushW, .p (o1 load1G l0) pushW, .p (o2 (eqG eqIV false) l0 (ctK (.int .i64 (Int.ofNat 6)))) pushW, .g l0 true false none (o1 (faddrG 3) r3) pushW, .g l1 true false none (o1 load1G l0) pushW, .g l2 true false none (o1 lenLG l0) pushW, .g l3 true false none (o2 (eqG eqIV false) l0 (ctK (.int .i64 (Int.ofNat 1)))) pushW, .p (o3 pickG l4 l0 (ctK (.bool false))) w14])
 (.cond r14
 (.seq
 (.reg [.p (o1 (faddrG 3) r3) pushW, .p (o1 load1G l0) pushW, .p (o2 (iaddrG 4) l0 (ctK (.int .i64 (Int.ofNat 0)))) pushW, .p (o1 (loadnG 4) l0) pushW, .p (allocO [(.int .i64 (Int.ofNat 0)), (.str 0 0), .snil, .snil]) w5, .p (o2 (storeG 4) r5 l0) noW])
 (.seq
 (.seq
 (.reg [.p (o1 nilckG r0) pushW, .p (o1 (faddrG 0) l0) pushW, .p (o1 load1G l0) pushW, .p (o1 rngMG l0) w23])
 (.block 0
 (.loop
 (.seq
 (.reg [.p (o1 nextMG r23) pushW, .p (o1 (extG 0) l0) w25])
 (.seq
 (.cond r25
 .skip
 (.exit 0))
 (.block 1
 (.seq
 (.reg [.p (o1 (faddrG 0) r5) pushW, .p (o1 load1G l0) pushW, .p (o2 (eqG eqIV false) l0 (ctK (.int .i64 (Int.ofNat 9)))) w29])
 (.cond r29
 (.drw [.p (o1 nilckG r0) pushW, .p (o1 (faddrG 0) l0) pushW, .p (o1 load1G l0) pushW, .p (o1 (faddrG 1) r5) pushW, .p (o1 load1G l0) pushW, .p (o2 (lookupG (.one .s) (.agg [(.int .i64 (Int.ofNat 0)), (.str 0 0), .snil, .snil]) false) l2 l0) pushW, .p (o2 (storeG 4) r5 l0) noW] [])
 .skip))))))))
 (.seq
 (.reg [.p (o1 (faddrG 0) r5) pushW, .p (o1 load1G l0) pushW, .p (o2 (eqG eqIV false) l0 (ctK (.int .i64 (Int.ofNat 6)))) w39])
 (.cond r39
 (.seq
 (.reg [.p (o1 mvG (ctK (.bool true))) w4])
 .ret)
 .skip))))
 .skip))
 (.seq
 (.reg [.p (o1 (faddrG 3) r3) pushW, .p (o1 load1G l0) pushW, .p (mkfnO 32 [r0] []) pushW, .p (callO 30 [l1, l0]) pushW, .p (o1 mvG l0) w4])
 .ret))) }
theorem kf32_ok : (compFn Try.prog Try.f32 [[0, 3], [0, 3, 5], [0, 3, 5, 23], [0, 3, 5, 23]]).bind (toKFn [6, 7, 8, 9, 10, 11, 12, 13, 15, 16, 17, 18, 19, 20, 21, 22, 24, 27, 28, 30, 31, 32, 33, 34, 35, 36, 37, 38, 40, 41, 42, 43, 44] 2) = some kf32 := by kernel_rfl

theorem within19_calls (a n : Int) (w : World) (h0 : 0 < n) (h1 : n < 1000000) : Calls Try.prog 19 #[.int .i64 a, .int .i64 n] w fun e w' => e = .returned (.int .i64 (a % n)) ∧ Below w.heap.size w w' := by
  have hn : ¬n = 0 := by omega
  go_enter Try.func19, Try.ntmps19
  go_wp2
  all_goals go_ret
  all_goals refine ⟨?_, Below.refl _ _⟩
  all_goals have hb1 := Int.emod_nonneg a hn
  all_goals have hb2 := Int.emod_lt_of_pos a h0
  all_goals have hw : wrap64 (a % n) = a % n := by unfold wrap64; omega
  all_goals rename_i hc
  all_goals rcases tmod_cases a h0 with ⟨h3, h4⟩ | ⟨h3, h4⟩
  · exact absurd hc (by omega)
  · show Ending.returned (.int .i64 (wrap64 (a.tmod n + n))) = _
    rw [h4, hw]
  · show Ending.returned (.int .i64 (a.tmod n)) = _
    rw [h4]
  · exact absurd hc (by omega)
theorem mixed : Try.prog.follows .mixedOrders = true := by kernel_rfl
noncomputable def tabA : BT :=
  (.node 45 (.node 27 (.node 21 (.node 12 (.leaf 12 (compE 100000 Try.prog Try.f12 [] kf12))
  (.node 17 (.leaf 17 (compE 100000 Try.prog Try.f17 [[1], [1], [1, 4], [1, 4, 33, 34, 35], [1, 4, 33, 34, 35], [1, 4, 33, 34, 35], [1, 4], [1, 4], [1, 4], [1, 4, 62, 63, 64], [1, 4, 62, 63, 64], [1, 4, 62, 63, 64], []] kf17))
  (.leaf 21 (compE 100000 Try.prog Try.f21 [[2, 3, 5], [2, 3, 5, 16, 17, 18], [2, 3, 5, 16, 17, 18], [2, 3, 5, 16, 17, 18], [2, 3], [3, 8], [2, 3, 8, 38, 39], [2, 3, 8, 38, 39], [2, 3, 8, 38, 39], [2, 3, 8, 38, 39, 42, 43, 44], [2, 3, 8, 38, 39, 42, 43, 44], [2, 3, 8, 38, 39, 42, 43, 44]] kf21))))
  (.node 24 (.leaf 24 (compE 100000 Try.prog Try.f24 [] kf24))
  (.node 26 (.leaf 26 (compE 100000 Try.prog Try.f26 [[], [0, 5, 6, 7], [0, 5, 6, 7], [0, 5, 6, 7]] kf26))
  (.leaf 27 (compE 100000 Try.prog Try.f27 [[3], [3, 8, 9, 10], [3, 8, 9, 10], [3, 8, 9, 10]] kf27)))))
  (.node 30 (.node 28 (.leaf 28 (compE 100000 Try.prog Try.f28 [[0, 2, 4], [0, 2, 4], [], [0, 2, 98, 99, 100], [0, 2, 98, 99, 100], [0, 2, 98, 99, 100]] kf28))
  (.node 29 (.leaf 29 (compE 100000 Try.prog Try.f29 [[], [0, 1, 8, 9, 10], [0, 1, 8, 9, 10], [0, 1, 8, 9, 10], [0, 1, 6, 8, 9, 10]] kf29))
  (.leaf 30 (compE 100000 Try.prog Try.f30 [] kf30))))
  (.node 32 (.node 31 (.leaf 31 (compE 100000 Try.prog Try.f31 [[1, 3], [1, 3, 9, 10, 11], [1, 3, 9, 10, 11], [1, 3, 9, 10, 11], [3], [3, 27, 28, 29], [3, 27, 28, 29], [3, 27, 28, 29]] kf31))
  (.leaf 32 (compE 100000 Try.prog Try.f32 [[0, 3], [0, 3, 5], [0, 3, 5, 23], [0, 3, 5, 23]] kf32)))
  (.node 39 (.leaf 39 (compE 100000 Try.prog Try.f39 [[3, 4, 5], []] kf39))
  (.leaf 45 (compE 100000 Try.prog Try.f45 [] kf45))))))
  (.node 51 (.node 48 (.node 46 (.leaf 46 containsE)
  (.node 47 (.leaf 47 (compE 100000 Try.prog Try.f47 [[], [1, 4, 5], [1, 9]] kf47))
  (.leaf 48 (compE 100000 Try.prog Try.f48 [[1], [1], [1, 10, 11, 12], [1, 10, 11, 12], [1, 10, 11, 12], []] kf48))))
  (.node 49 (.leaf 49 (compE 100000 Try.prog Try.f49 [[], [0, 8, 9, 10], [0, 8, 9, 10], [0, 8, 9, 10]] kf49))
  (.node 50 (.leaf 50 (compE 100000 Try.prog Try.f50 [[0]] kf50))
  (.leaf 51 (compE 100000 Try.prog Try.f51 [[], [0, 1, 7, 8], [0, 1, 7, 8], [0, 1, 7, 8]] kf51)))))
  (.node 59 (.node 56 (.leaf 56 (compE 100000 Try.prog Try.f56 [] kf56))
  (.node 57 (.leaf 57 (compE 100000 Try.prog Try.f57 [] kf57))
  (.leaf 59 (compE 100000 Try.prog Try.f59 [] kf59))))
  (.node 63 (.node 60 (.leaf 60 (compE 100000 Try.prog Try.f60 [] kf60))
  (.leaf 63 (compE 100000 Try.prog Try.f63 [[0], [0, 1, 7], [0, 1, 7, 8]] kf63)))
  (.node 64 (.leaf 64 (compE 100000 Try.prog Try.f64 [] kf64))
  (.leaf 65 (compE 100000 Try.prog Try.f65 [] kf65)))))))
theorem tabA_K : tabA.all fun _ e => BodyKOK e.k e.b := ⟨⟨⟨⟨compE_K kf12_ok, ⟨compE_K kf17_ok, compE_K kf21_ok⟩⟩, ⟨compE_K kf24_ok, ⟨compE_K kf26_ok, compE_K kf27_ok⟩⟩⟩, ⟨⟨compE_K kf28_ok, ⟨compE_K kf29_ok, compE_K kf30_ok⟩⟩, ⟨⟨compE_K kf31_ok, compE_K kf32_ok⟩, ⟨compE_K kf39_ok, compE_K kf45_ok⟩⟩⟩⟩, ⟨⟨⟨containsE_K, ⟨compE_K kf47_ok, compE_K kf48_ok⟩⟩, ⟨compE_K kf49_ok, ⟨compE_K kf50_ok, compE_K kf51_ok⟩⟩⟩, ⟨⟨compE_K kf56_ok, ⟨compE_K kf57_ok, compE_K kf59_ok⟩⟩, ⟨⟨compE_K kf60_ok, compE_K kf63_ok⟩, ⟨compE_K kf64_ok, compE_K kf65_ok⟩⟩⟩⟩⟩
theorem tabA_B {ρ : Nat → Value} {W : World} (hρ : ∀ i, (ρ i).oneCell' = true) (hm : hasM 0 W) : tabA.all fun i e => BodyOK Try.prog ρ ⟨W.heap.size, W⟩ i e.b :=
  have hh : HypOK ρ [] := hyp_nil ρ
  ⟨⟨⟨⟨compE_B kf12_ok Try.func12 (by decide) hρ mixed, ⟨compE_B kf17_ok Try.func17 (by decide) hρ mixed, compE_B kf21_ok Try.func21 (by decide) hρ mixed⟩⟩, ⟨compE_B kf24_ok Try.func24 (by decide) hρ mixed, ⟨compE_B kf26_ok Try.func26 (by decide) hρ mixed, compE_B kf27_ok Try.func27 (by decide) hρ mixed⟩⟩⟩, ⟨⟨compE_B kf28_ok Try.func28 (by decide) hρ mixed, ⟨compE_B kf29_ok Try.func29 (by decide) hρ mixed, compE_B kf30_ok Try.func30 (by decide) hρ mixed⟩⟩, ⟨⟨compE_B kf31_ok Try.func31 (by decide) hρ mixed, compE_B kf32_ok Try.func32 (by decide) hρ mixed⟩, ⟨compE_B kf39_ok Try.func39 (by decide) hρ mixed, compE_B kf45_ok Try.func45 (by decide) hρ mixed⟩⟩⟩⟩, ⟨⟨⟨containsE_B Try.func46 (by kernel_rfl) (by decide) hm fun s sub m w hs hm => Try.strings_Contains s sub m w hs hm, ⟨compE_B kf47_ok Try.func47 (by decide) hρ mixed, compE_B kf48_ok Try.func48 (by decide) hρ mixed⟩⟩, ⟨compE_B kf49_ok Try.func49 (by decide) hρ mixed, ⟨compE_B kf50_ok Try.func50 (by decide) hρ mixed, compE_B kf51_ok Try.func51 (by decide) hρ mixed⟩⟩⟩, ⟨⟨compE_B kf56_ok Try.func56 (by decide) hρ mixed, ⟨compE_B kf57_ok Try.func57 (by decide) hρ mixed, compE_B kf59_ok Try.func59 (by decide) hρ mixed⟩⟩, ⟨⟨compE_B kf60_ok Try.func60 (by decide) hρ mixed, compE_B kf63_ok Try.func63 (by decide) hρ mixed⟩, ⟨compE_B kf64_ok Try.func64 (by decide) hρ mixed, compE_B kf65_ok Try.func65 (by decide) hρ mixed⟩⟩⟩⟩⟩
theorem known_check : check tabA 1000 12 [] = true := by kernel_rfl
theorem known_calls (w : World) (hm : hasM 0 w) : Calls Try.prog 12 #[] w fun e w' => e = .returned (.bool true) ∧ Below w.heap.size w w' :=
  check_call (ρ := fun _ => .bool false) tabA_K (tabA_B (fun _ => rfl) hm) known_check (xs := []) rfl
noncomputable def tab (hyp : List (Nat × Nat × Nat)) : BT :=
  (.node 39 (.node 26 (.node 17 (.node 11 (.leaf 11 (compE 100000 Try.prog Try.f11 [[0], [0, 3], [0, 3, 4], [0, 3, 4], [0, 3, 4], [0, 3, 5], [0, 3, 5, 6], [0, 3, 5, 6], [0, 3, 5, 6], [0, 3, 7], [0, 3, 5, 7, 8], [0, 3, 5, 7, 8], [0, 3, 5, 7, 8], [0, 7], [0, 3, 7, 9], [0, 3, 7, 9], [0, 3, 7, 9], [0, 7, 10], [0, 7, 10, 11], [0, 7, 10, 11], [0, 7, 10, 11], [0, 7, 12], [0, 7, 12, 13], [0, 7, 12, 13], [0, 7, 12, 13]] kf11))
  (.node 12 (.leaf 12 (hookE trueG))
  (.leaf 17 (compE 100000 Try.prog Try.f17 [[1], [1], [1, 4], [1, 4, 33, 34, 35], [1, 4, 33, 34, 35], [1, 4, 33, 34, 35], [1, 4], [1, 4], [1, 4], [1, 4, 62, 63, 64], [1, 4, 62, 63, 64], [1, 4, 62, 63, 64], []] kf17))))
  (.node 21 (.node 19 (.leaf 19 (hookE (withinG hyp)))
  (.leaf 21 (compE 100000 Try.prog Try.f21 [[2, 3, 5], [2, 3, 5, 16, 17, 18], [2, 3, 5, 16, 17, 18], [2, 3, 5, 16, 17, 18], [2, 3], [3, 8], [2, 3, 8, 38, 39], [2, 3, 8, 38, 39], [2, 3, 8, 38, 39], [2, 3, 8, 38, 39, 42, 43, 44], [2, 3, 8, 38, 39, 42, 43, 44], [2, 3, 8, 38, 39, 42, 43, 44]] kf21)))
  (.node 24 (.leaf 24 (compE 100000 Try.prog Try.f24 [] kf24))
  (.leaf 26 (compE 100000 Try.prog Try.f26 [[], [0, 5, 6, 7], [0, 5, 6, 7], [0, 5, 6, 7]] kf26)))))
  (.node 29 (.node 27 (.leaf 27 (compE 100000 Try.prog Try.f27 [[3], [3, 8, 9, 10], [3, 8, 9, 10], [3, 8, 9, 10]] kf27))
  (.node 28 (.leaf 28 (compE 100000 Try.prog Try.f28 [[0, 2, 4], [0, 2, 4], [], [0, 2, 98, 99, 100], [0, 2, 98, 99, 100], [0, 2, 98, 99, 100]] kf28))
  (.leaf 29 (compE 100000 Try.prog Try.f29 [[], [0, 1, 8, 9, 10], [0, 1, 8, 9, 10], [0, 1, 8, 9, 10], [0, 1, 6, 8, 9, 10]] kf29))))
  (.node 31 (.node 30 (.leaf 30 (compE 100000 Try.prog Try.f30 [] kf30))
  (.leaf 31 (compE 100000 Try.prog Try.f31 [[1, 3], [1, 3, 9, 10, 11], [1, 3, 9, 10, 11], [1, 3, 9, 10, 11], [3], [3, 27, 28, 29], [3, 27, 28, 29], [3, 27, 28, 29]] kf31)))
  (.node 32 (.leaf 32 (compE 100000 Try.prog Try.f32 [[0, 3], [0, 3, 5], [0, 3, 5, 23], [0, 3, 5, 23]] kf32))
  (.leaf 39 (compE 100000 Try.prog Try.f39 [[3, 4, 5], []] kf39))))))
  (.node 51 (.node 47 (.node 45 (.leaf 45 (compE 100000 Try.prog Try.f45 [] kf45))
  (.node 46 (.leaf 46 containsE)
  (.leaf 47 (compE 100000 Try.prog Try.f47 [[], [1, 4, 5], [1, 9]] kf47))))
  (.node 49 (.node 48 (.leaf 48 (compE 100000 Try.prog Try.f48 [[1], [1], [1, 10, 11, 12], [1, 10, 11, 12], [1, 10, 11, 12], []] kf48))
  (.leaf 49 (compE 100000 Try.prog Try.f49 [[], [0, 8, 9, 10], [0, 8, 9, 10], [0, 8, 9, 10]] kf49)))
  (.node 50 (.leaf 50 (compE 100000 Try.prog Try.f50 [[0]] kf50))
  (.leaf 51 (compE 100000 Try.prog Try.f51 [[], [0, 1, 7, 8], [0, 1, 7, 8], [0, 1, 7, 8]] kf51)))))
  (.node 59 (.node 56 (.leaf 56 (compE 100000 Try.prog Try.f56 [] kf56))
  (.node 57 (.leaf 57 (compE 100000 Try.prog Try.f57 [] kf57))
  (.leaf 59 (compE 100000 Try.prog Try.f59 [] kf59))))
  (.node 63 (.node 60 (.leaf 60 (compE 100000 Try.prog Try.f60 [] kf60))
  (.leaf 63 (compE 100000 Try.prog Try.f63 [[0], [0, 1, 7], [0, 1, 7, 8]] kf63)))
  (.node 64 (.leaf 64 (compE 100000 Try.prog Try.f64 [] kf64))
  (.leaf 65 (compE 100000 Try.prog Try.f65 [] kf65)))))))
theorem tab_K (hyp : List (Nat × Nat × Nat)) : (tab hyp).all fun _ e => BodyKOK e.k e.b := ⟨⟨⟨⟨compE_K kf11_ok, ⟨hookE_K _, compE_K kf17_ok⟩⟩, ⟨⟨hookE_K _, compE_K kf21_ok⟩, ⟨compE_K kf24_ok, compE_K kf26_ok⟩⟩⟩, ⟨⟨compE_K kf27_ok, ⟨compE_K kf28_ok, compE_K kf29_ok⟩⟩, ⟨⟨compE_K kf30_ok, compE_K kf31_ok⟩, ⟨compE_K kf32_ok, compE_K kf39_ok⟩⟩⟩⟩, ⟨⟨⟨compE_K kf45_ok, ⟨containsE_K, compE_K kf47_ok⟩⟩, ⟨⟨compE_K kf48_ok, compE_K kf49_ok⟩, ⟨compE_K kf50_ok, compE_K kf51_ok⟩⟩⟩, ⟨⟨compE_K kf56_ok, ⟨compE_K kf57_ok, compE_K kf59_ok⟩⟩, ⟨⟨compE_K kf60_ok, compE_K kf63_ok⟩, ⟨compE_K kf64_ok, compE_K kf65_ok⟩⟩⟩⟩⟩
theorem tab_B {ρ : Nat → Value} {W : World} {hyp : List (Nat × Nat × Nat)} (hρ : ∀ i, (ρ i).oneCell' = true) (hm : hasM 0 W) (hh : HypOK ρ hyp) : (tab hyp).all fun i e => BodyOK Try.prog ρ ⟨W.heap.size, W⟩ i e.b :=
  ⟨⟨⟨⟨compE_B kf11_ok Try.func11 (by decide) hρ mixed, ⟨trueE_B Try.func12 (by kernel_rfl) (by decide) hm known_calls, compE_B kf17_ok Try.func17 (by decide) hρ mixed⟩⟩, ⟨⟨withinE_B Try.func19 (by kernel_rfl) (by decide) hh within19_calls, compE_B kf21_ok Try.func21 (by decide) hρ mixed⟩, ⟨compE_B kf24_ok Try.func24 (by decide) hρ mixed, compE_B kf26_ok Try.func26 (by decide) hρ mixed⟩⟩⟩, ⟨⟨compE_B kf27_ok Try.func27 (by decide) hρ mixed, ⟨compE_B kf28_ok Try.func28 (by decide) hρ mixed, compE_B kf29_ok Try.func29 (by decide) hρ mixed⟩⟩, ⟨⟨compE_B kf30_ok Try.func30 (by decide) hρ mixed, compE_B kf31_ok Try.func31 (by decide) hρ mixed⟩, ⟨compE_B kf32_ok Try.func32 (by decide) hρ mixed, compE_B kf39_ok Try.func39 (by decide) hρ mixed⟩⟩⟩⟩, ⟨⟨⟨compE_B kf45_ok Try.func45 (by decide) hρ mixed, ⟨containsE_B Try.func46 (by kernel_rfl) (by decide) hm fun s sub m w hs hm => Try.strings_Contains s sub m w hs hm, compE_B kf47_ok Try.func47 (by decide) hρ mixed⟩⟩, ⟨⟨compE_B kf48_ok Try.func48 (by decide) hρ mixed, compE_B kf49_ok Try.func49 (by decide) hρ mixed⟩, ⟨compE_B kf50_ok Try.func50 (by decide) hρ mixed, compE_B kf51_ok Try.func51 (by decide) hρ mixed⟩⟩⟩, ⟨⟨compE_B kf56_ok Try.func56 (by decide) hρ mixed, ⟨compE_B kf57_ok Try.func57 (by decide) hρ mixed, compE_B kf59_ok Try.func59 (by decide) hρ mixed⟩⟩, ⟨⟨compE_B kf60_ok Try.func60 (by decide) hρ mixed, compE_B kf63_ok Try.func63 (by decide) hρ mixed⟩, ⟨compE_B kf64_ok Try.func64 (by decide) hρ mixed, compE_B kf65_ok Try.func65 (by decide) hρ mixed⟩⟩⟩⟩⟩
end Go.Proofs.Ytphbopmilegojaa
