/- The code of the law and of all that it calls, for the evaluator; what stands in for the library's. No condition. -/
import Derived.Test.YtkjnlhppheooeaaGreatDoorRows
import Derived.Test.YtkjnlhppheooeaaGreatDoorShelf
import Derived.WalkKit
import Derived.Test.YtkjnlhppheooeaaGreatDoorDiagPlacesCodeA
import Derived.Test.YtkjnlhppheooeaaGreatDoorEvc8
import Derived.Test.YtkjnlhppheooeaaGreatDoorPlace
namespace Go.Proofs.YtkjnlhppheooeaaGreatDoor
open Eva Go.RowKit
set_option linter.unusedVariables false
noncomputable def kf109 : KFn := { params := [w0, w1, w2], res := [(.s r6), (.s r7)], body :=
 (.seq
 (.reg [.p (o1 mvG (ctK (.int .i64 (Int.ofNat 0)))) w6, .p (o1 mvG (ctK (.int .i64 (Int.ofNat 0)))) w7])
 (.seq
 (.reg [.p (callO 134 [r0, r1]) pushW, .p (o1 (extG 0) l0) pushW, .p (o1 (extG 1) l1) pushW, .p (o1 (extG 2) l2) pushW, .p (o1 mvG l2) w8, .p (o1 mvG l1) w9, .p (o1 mvG l0) w10])
 (.seq
 (.reg [.p (o1 lenLG r8) pushW, .p (o1 mvG l0) w11])
 (.seq
 (.block 0
 (.seq
 (.reg [.p (callO 80 [r1]) pushW, .p (o1 mvG l0) w34])
 (.cond r34
 (.reg [.p (callO 135 [r1]) pushW, .p (o1 mvG l0) w11])
 (.seq
 (.reg [.p (o1 notG r10) pushW, .p (o1 mvG l0) w39])
 (.cond r39
 (.seq
 (.reg [.p (o1 mvG (ctK (.int .i64 (Int.ofNat 0)))) w6, .p (o1 mvG (ctK (.int .i64 (Int.ofNat 15)))) w7])
 .ret)
 .skip)))))
 (.seq
 (.seq
 (.reg [.p (o1 lenLG r2) pushW, .p (o2 (eqG eqIV true) l0 r11) w45])
 (.cond r45
 (.seq
 (.reg [.p (o1 mvG (ctK (.int .i64 (Int.ofNat 0)))) w6, .p (o1 mvG (ctK (.int .i64 (Int.ofNat 18)))) w7])
 .ret)
 .skip))
 (.seq
 (.seq
 (.reg [.p (callO 80 [r1]) pushW, .p (o1 notG l0) w48])
 (.cond r48
 (.seq
 (.seq
 (.reg [.p (o1 mvG r8) w49, .p (o1 lenLG r49) w50, .p (o1 mvG (ctK (.int .i64 (Int.ofNat 0)))) w51])
 (.block 1
 (.loop
 (.seq
 (.reg [.p (o2 (binG (cmpB .lss ltI)) r51 r50) w52])
 (.seq
 (.cond r52
 .skip
 (.exit 1))
 (.seq
 (.block 2
 (.seq
 (.reg [.p (o2 (iaddrG 1) r49 r51) pushW, .p (o1 load1G l0) pushW, .p (o1 mvG r51) w12, .p (o1 mvG l0) w13])
 (.seq
 (.reg [.p (o2 (iaddrG 1) r2 r12) pushW, .p (o1 load1G l0) pushW, .p (callO 136 [r0, l0, r13]) pushW, .p (o1 (extG 0) l0) pushW, .p (o1 (extG 1) l1) pushW, .p (o1 mvG l1) w14])
 (.seq
 (.reg [.p (o1 notG r14) w67])
 (.cond r67
 (.seq
 (.reg [.p (o1 mvG (ctK (.int .i64 (Int.ofNat 0)))) w6, .p (o1 mvG (ctK (.int .i64 (Int.ofNat 17)))) w7])
 .ret)
 .skip)))))
 (.reg [.p (o2 (binG addB) r51 (ctK (.int .i64 (Int.ofNat 1)))) pushW, .p (o1 mvG l0) w51])))))))
 (.seq
 (.reg [.p (o1 mvG r9) w6, .p (o1 mvG (ctK (.int .i64 (Int.ofNat 0)))) w7])
 .ret))
 .skip))
 (.seq
 (.reg [.p (buildO [.pnil, .snil, .snil] [(0, 1, r0), (2, 1, r2)]) pushW, .p (allocO [.pnil, .snil, .snil]) w16, .p (o2 (storeG 3) r16 l0) noW])
 (.seq
 (.seq
 (.reg [.p (o1 mvG r2) w73, .p (o1 lenLG r73) w74, .p (o1 mvG (ctK (.int .i64 (Int.ofNat 0)))) w75])
 (.block 3
 (.loop
 (.seq
 (.reg [.p (o2 (binG (cmpB .lss ltI)) r75 r74) w76])
 (.seq
 (.cond r76
 .skip
 (.exit 3))
 (.seq
 (.block 4
 (.seq
 (.reg [.p (o2 (iaddrG 1) r73 r75) pushW, .p (o1 load1G l0) pushW, .p (o1 mvG l0) w18])
 (.seq
 (.reg [.p (callO 112 [r0, r18]) pushW, .p (o1 (extG 0) l0) pushW, .p (o1 (extG 1) l1) pushW, .p (o1 mvG l1) w19])
 (.seq
 (.reg [.p (callO 113 [r0, r19]) pushW, .p (o1 (extG 0) l0) pushW, .p (o1 (extG 1) l1) pushW, .p (allocO [(.int .i64 (Int.ofNat 0)), (.str 0 0), .snil, .snil]) w21, .p (o2 (storeG 4) r21 l1) noW])
 (.seq
 (.seq
 (.reg [.p (callO 112 [r0, r18]) pushW, .p (o1 (extG 0) l0) pushW, .p (o1 (extG 1) l1) pushW, .p (o1 mvG l0) w24])
 (.seq
 (.reg [.p (o1 notG r24) w98])
 (.cond r98
 (.reg [.p (buildO [(.int .i64 (Int.ofNat 0)), (.str 0 0), .snil, .snil] []) pushW, .p (o2 (storeG 4) r21 l0) noW])
 .skip)))
 (.reg [.p (o1 (faddrG 1) r16) pushW, .p (o1 load1G l0) pushW, .p (o1 (loadnG 4) r21) pushW, .p (bslO 4 1 [(.int .i64 (Int.ofNat 0)), (.str 0 0), .snil, .snil] [(0, 4, l0)]) pushW, .p (o2 (appG 4) l2 l0) pushW, .p (o1 (faddrG 1) r16) pushW, .p (o2 (storeG 1) l0 l1) noW]))))))
 (.reg [.p (o2 (binG addB) r75 (ctK (.int .i64 (Int.ofNat 1)))) pushW, .p (o1 mvG l0) w75])))))))
 (.seq
 (.reg [.p (o1 (loadnG 3) r16) pushW, .p (callO 137 [l0, r1]) pushW, .p (o1 (extG 0) l0) pushW, .p (o1 (extG 1) l1) pushW, .p (o1 mvG l1) w6, .p (o1 mvG l0) w7])
 .ret))))))))) }
theorem kf109_ok : (compFn Tryz.prog Tryz.f109 [[0, 1, 2, 8, 9, 11], [0, 1, 2, 8, 9], [0, 1, 2], [9], [0, 2, 9, 49, 50, 51], [0, 2, 9, 49, 50, 51], [0, 2, 9, 49, 50, 51], [1, 16], [0, 1, 16, 73, 74, 75], [0, 1, 16, 73, 74, 75], [0, 1, 16, 73, 74, 75], [0, 1, 16, 21, 73, 74, 75]]).bind (toKFn [15, 20, 22, 23, 25, 26, 27, 28, 29, 30, 31, 32, 33, 35, 36, 37, 38, 40, 41, 42, 43, 44, 46, 47, 53, 54, 55, 56, 57, 58, 59, 60, 61, 62, 63, 64, 65, 66, 68, 69, 70, 71, 72, 77, 78, 79, 80, 81, 82, 83, 84, 85, 86, 87, 88, 89, 90, 91, 92, 93, 94, 95, 96, 97, 99, 100, 101, 102, 103, 104, 105, 106, 107, 108, 109, 110, 111] 3) = some kf109 := by kernel_rfl
noncomputable def kf134 : KFn := { params := [w0, w1], res := [(.s r4), (.s r5), (.s r6)], body :=
 (.seq
 (.reg [.p (o1 mvG (ctK .snil)) w4, .p (o1 mvG (ctK (.int .i64 (Int.ofNat 0)))) w5, .p (o1 mvG (ctK (.bool false))) w6])
 (.seq
 (.reg [.p (o1 nilckG r0) pushW, .p (o1 (faddrG 4) l0) pushW, .p (o1 load1G l0) pushW, .p (o2 (lookupG (.one .s) .snil true) l0 r1) pushW, .p (o1 (extG 0) l0) pushW, .p (o1 (extG 1) l1) pushW, .p (o1 mvG l1) w7, .p (o1 mvG l0) w8])
 (.seq
 (.seq
 (.reg [.p (o1 notG r8) w19])
 (.cond r19
 (.seq
 (.reg [.p (o1 mvG (ctK .snil)) w4, .p (o1 mvG (ctK (.int .i64 (Int.ofNat 0)))) w5, .p (o1 mvG (ctK (.bool false))) w6])
 .ret)
 .skip))
 (.seq
 (.drw [.p (o1 lenLG r7) pushW, .p (o2 (binG subB) l0 (ctK (.int .i64 (Int.ofNat 1)))) pushW, .p (cutLO 1 r7 none (some l0) none) pushW, .m (callO 108 [l0]) pushW none, .p (o1 lenLG r7) pushW, .p (o2 (binG subB) l0 (ctK (.int .i64 (Int.ofNat 1)))) pushW, .p (o2 (iaddrG 1) r7 l0) pushW, .p (o1 load1G l0) pushW, .p (o1 mvG l4) w4, .p (o1 mvG l0) w5, .p (o1 mvG (ctK (.bool true))) w6] [])
 .ret)))) }
theorem kf134_ok : (compFn Tryz.prog Tryz.f134 [[7]]).bind (toKFn [9, 10, 11, 12, 13, 14, 15, 16, 17, 18, 20, 21, 22, 23, 24, 25, 26, 27, 28, 29, 30, 31] 2) = some kf134 := by kernel_rfl
noncomputable def kf135 : KFn := { params := [w0], res := [(.s r2)], body :=
 (.seq
 (.reg [.p (o1 mvG (ctK (.int .i64 (Int.ofNat 0)))) w2])
 (.seq
 (.seq
 (.reg [.p (o1 mvG r0) w3])
 (.block 0
 (.seq
 (.block 2
 (.block 1
 (.seq
 (.seq
 (.seq
 (.seq
 (.reg [.p (o2 (eqG eqSV false) r3 (ctK (.str 3 7234924))) pushW, .p (o1 mvG l0) w4])
 (.cond r4
 .skip
 (.seq
 (.reg [.p (o2 (eqG eqSV false) r3 (ctK (.str 3 7630702))) pushW, .p (o1 mvG l0) w4])
 (.cond r4
 .skip
 (.seq
 (.reg [.p (o2 (eqG eqSV false) r3 (ctK (.str 4 1954047348))) pushW, .p (o1 mvG l0) w4])
 (.cond r4
 .skip
 (.seq
 (.reg [.p (o2 (eqG eqSV false) r3 (ctK (.str 3 7561576))) pushW, .p (o1 mvG l0) w4])
 (.cond r4
 .skip
 (.seq
 (.reg [.p (o2 (eqG eqSV false) r3 (ctK (.str 2 14441))) pushW, .p (o1 mvG l0) w4])
 (.cond r4
 .skip
 (.seq
 (.reg [.p (o2 (eqG eqSV false) r3 (ctK (.str 3 3551593))) pushW, .p (o1 mvG l0) w4])
 (.cond r4
 .skip
 (.seq
 (.reg [.p (o2 (eqG eqSV false) r3 (ctK (.str 3 3289961))) pushW, .p (o1 mvG l0) w4])
 (.cond r4
 .skip
 (.reg [.p (o2 (eqG eqSV false) r3 (ctK (.str 2 14453))) pushW, .p (o1 mvG l0) w4])))))))))))))))
 (.cond r4
 (.exit 1)
 .skip))
 (.seq
 (.seq
 (.reg [.p (o2 (eqG eqSV false) r3 (ctK (.str 3 3551605))) pushW, .p (o1 mvG l0) w13])
 (.cond r13
 .skip
 (.reg [.p (o2 (eqG eqSV false) r3 (ctK (.str 3 3289973))) pushW, .p (o1 mvG l0) w13])))
 (.cond r13
 (.exit 2)
 .skip)))
 (.exit 0))))
 (.seq
 (.seq
 (.reg [.p (o1 mvG (ctK (.int .i64 (Int.ofNat 1)))) w2])
 .ret)
 (.exit 0)))))
 (.seq
 (.reg [.p (o1 mvG (ctK (.int .i64 (Int.ofNat 2)))) w2])
 .ret))) }
theorem kf135_ok : (compFn Tryz.prog Tryz.f135 [[], [], [], [3], [3, 4], [13]]).bind (toKFn [5, 6, 7, 8, 9, 10, 11, 12, 14, 15] 1) = some kf135 := by kernel_rfl
noncomputable def kf136 : KFn := { params := [w0, w1, w2], res := [(.s r6), (.s r7)], body :=
 (.seq
 (.reg [.p (o1 mvG (ctK (.bool false))) w6, .p (o1 mvG (ctK (.int .i64 (Int.ofNat 0)))) w7])
 (.seq
 (.seq
 (.reg [.p (o2 (binG (cmpB .lss ltI)) r1 (ctK (.int .i64 (Int.ofNat 0)))) pushW, .g l0 false false none (o1 mvG r1) pushW, .g l1 false false none (o1 mvG r0) pushW, .g l2 false false none (callO 149 [l0]) pushW, .g l3 false false none (o2 (binG (cmpB .geq geI)) l2 l0) pushW, .p (o3 pickG l4 (ctK (.bool true)) l0) pushW, .g l0 false false none (o1 mvG r2) pushW, .g l1 false false none (o2 (binG (cmpB .lss ltI)) l0 (ctK (.int .i64 (Int.ofNat 0)))) pushW, .p (o3 pickG l2 (ctK (.bool true)) l0) pushW, .g l0 false false none (o1 mvG r2) pushW, .g l1 false false none (o1 mvG r0) pushW, .g l2 false false none (callO 149 [l0]) pushW, .g l3 false false none (o2 (binG (cmpB .geq geI)) l2 l0) pushW, .p (o3 pickG l4 (ctK (.bool true)) l0) w27])
 (.cond r27
 (.seq
 (.reg [.p (o1 mvG (ctK (.bool false))) w6, .p (o1 mvG (ctK (.int .i64 (Int.ofNat 0)))) w7])
 .ret)
 .skip))
 (.seq
 (.reg [.p mkmapO pushW, .p (buildO [.pnil, .mnil] [(0, 1, r0), (1, 1, l0)]) pushW, .p (o1 boxG l0) pushW, .p (o1 mvG l0) w8])
 (.seq
 (.reg [.p (callO 150 [r8, r1, r2]) pushW, .p (o1 mvG l0) w9])
 (.seq
 (.reg [.p (o1 nilckG r8) pushW, .p (o1 (faddrG 1) l0) pushW, .p (o1 load1G l0) pushW, .p (o1 lenMG l0) pushW, .p (o1 mvG r9) w6, .p (o1 mvG l0) w7])
 .ret))))) }
theorem kf136_ok : (compFn Tryz.prog Tryz.f136 [[0, 1, 2]]).bind (toKFn [10, 11, 12, 13, 14, 15, 16, 17, 18, 19, 20, 21, 22, 23, 24, 25, 26, 28, 29, 30, 31, 32, 33, 34, 35, 36, 37, 38, 39, 40, 41] 3) = some kf136 := by kernel_rfl
noncomputable def kf149 : KFn := { params := [w0], res := [(.s r2)], body :=
 (.seq
 (.reg [.p (o1 mvG (ctK (.int .i64 (Int.ofNat 0)))) w2])
 (.seq
 (.reg [.p (o1 nilckG r0) pushW, .p (o1 (faddrG 0) l0) pushW, .p (o1 load1G l0) pushW, .p (o1 lenLG l0) pushW, .p (o1 mvG l0) w2])
 .ret)) }
theorem kf149_ok : (compFn Tryz.prog Tryz.f149 []).bind (toKFn [3, 4, 5, 6, 7] 1) = some kf149 := by kernel_rfl
noncomputable def kf150 : KFn := { params := [w0, w1, w2], res := [(.s r6)], body :=
 (.seq
 (.reg [.p (o1 mvG (ctK (.bool false))) w6])
 (.seq
 (.reg [.p (buildO [(.int .i64 (Int.ofNat 0)), (.int .i64 (Int.ofNat 0))] [(0, 1, r1), (1, 1, r2)]) pushW, .p (allocO [(.int .i64 (Int.ofNat 0)), (.int .i64 (Int.ofNat 0))]) w7, .p (o2 (storeG 2) r7 l0) noW])
 (.seq
 (.seq
 (.drw [.p (o2 (eqG eqIV false) r1 r2) pushW, .g l0 false false none (o1 mvG r0) pushW, .g l1 false false none (o1 nilckG l0) pushW, .g l2 false false none (o1 (faddrG 1) l0) pushW, .g l3 false false none (o1 load1G l0) pushW, .g l4 false false none (o1 (loadnG 2) r7) pushW, .g l5 false false none (o2 (lookupG (.many [.i, .i]) (.int .i64 (Int.ofNat 0)) false) l1 l0) pushW, .g l6 false false none (o2 (binG (cmpB .gtr gtI)) l0 (ctK (.int .i64 (Int.ofNat 0)))) pushW, .p (o3 pickG l7 (ctK (.bool true)) l0) w22] [])
 (.cond r22
 (.seq
 (.reg [.p (o1 mvG (ctK (.bool true))) w6])
 .ret)
 .skip))
 (.seq
 (.drw [.p (o1 nilckG r0) pushW, .p (o1 (faddrG 1) l0) pushW, .p (o1 load1G l0) pushW, .p (o1 (loadnG 2) r7) pushW, .p (o2 (lookupG (.many [.i, .i]) (.int .i64 (Int.ofNat 0)) false) l1 l0) pushW, .p (o2 (binG addB) l0 (ctK (.int .i64 (Int.ofNat 1)))) pushW, .p (o2 (mentG (.many [.i, .i]) (.int .i64 (Int.ofNat 0))) l3 l2) pushW, .p (o1 (extG 1) l0) pushW, .p (o3 estsG l5 l0 l2) noW] [])
 (.seq
 (.reg [.p (callO 158 [r0, r1, r2]) pushW, .p (o1 mvG l0) w6])
 .ret))))) }
theorem kf150_ok : (compFn Tryz.prog Tryz.f150 [[0, 1, 2, 7]]).bind (toKFn [8, 9, 10, 11, 12, 13, 14, 15, 16, 17, 18, 19, 20, 21, 23, 24, 25, 26, 27, 28, 29, 30, 31, 32, 33, 34, 35] 3) = some kf150 := by kernel_rfl
noncomputable def kf158 : KFn := { params := [w0, w1, w2], res := [(.s r6)], body :=
 (.seq
 (.reg [.p (o1 mvG (ctK (.bool false))) w6])
 (.seq
 (.reg [.p (o1 nilckG r0) pushW, .p (o1 (faddrG 0) l0) pushW, .p (o1 load1G l0) pushW, .p (o1 mvG r1) pushW, .p (callO 112 [l1, l0]) pushW, .p (o1 (extG 0) l0) pushW, .p (o1 (extG 1) l1) pushW, .p (o1 mvG l1) w1, .p (o1 mvG l0) w7])
 (.seq
 (.reg [.p (o1 nilckG r0) pushW, .p (o1 (faddrG 0) l0) pushW, .p (o1 load1G l0) pushW, .p (o1 mvG r2) pushW, .p (callO 112 [l1, l0]) pushW, .p (o1 (extG 0) l0) pushW, .p (o1 (extG 1) l1) pushW, .p (o1 mvG l1) w2, .p (o1 mvG l0) w8])
 (.seq
 (.seq
 (.reg [.p (o1 notG r7) pushW, .g l0 false false none (o1 mvG r8) pushW, .g l1 false false none (o1 notG l0) pushW, .p (o3 pickG l2 (ctK (.bool true)) l0) w36])
 (.cond r36
 (.seq
 (.reg [.p (o1 mvG (ctK (.bool false))) w6])
 .ret)
 .skip))
 (.seq
 (.reg [.p (o1 nilckG r0) pushW, .p (o1 (faddrG 0) l0) pushW, .p (o1 load1G l0) pushW, .p (callO 113 [l0, r1]) pushW, .p (o1 (extG 0) l0) pushW, .p (o1 (extG 1) l1) pushW, .p (allocO [(.int .i64 (Int.ofNat 0)), (.str 0 0), .snil, .snil]) w9, .p (o2 (storeG 4) r9 l1) noW])
 (.seq
 (.reg [.p (o1 nilckG r0) pushW, .p (o1 (faddrG 0) l0) pushW, .p (o1 load1G l0) pushW, .p (callO 113 [l0, r2]) pushW, .p (o1 (extG 0) l0) pushW, .p (o1 (extG 1) l1) pushW, .p (allocO [(.int .i64 (Int.ofNat 0)), (.str 0 0), .snil, .snil]) w11, .p (o2 (storeG 4) r11 l1) noW])
 (.seq
 (.block 0
 (.seq
 (.reg [.p (o1 (faddrG 0) r11) pushW, .p (o1 load1G l0) pushW, .p (o2 (eqG eqIV false) l0 (ctK (.int .i64 (Int.ofNat 6)))) pushW, .g l0 true false none (o1 (faddrG 0) r9) pushW, .g l1 true false none (o1 load1G l0) pushW, .g l2 true false none (o2 (eqG eqIV true) l0 (ctK (.int .i64 (Int.ofNat 6)))) pushW, .p (o3 pickG l3 l0 (ctK (.bool false))) pushW, .g l0 true false none (o1 (faddrG 3) r11) pushW, .g l1 true false none (o1 load1G l0) pushW, .g l2 true false none (o1 lenLG l0) pushW, .g l3 true false none (o2 (eqG eqIV false) l0 (ctK (.int .i64 (Int.ofNat 1)))) pushW, .p (o3 pickG l4 l0 (ctK (.bool false))) pushW, .p (o1 mvG l0) w55])
 (.cond r55
 (.seq
 (.reg [.p (o1 (faddrG 3) r11) pushW, .p (o1 load1G l0) pushW, .p (o2 (iaddrG 1) l0 (ctK (.int .i64 (Int.ofNat 0)))) pushW, .p (o1 load1G l0) pushW, .p (callO 150 [r0, r1, l0]) pushW, .p (o1 mvG l0) w6])
 .ret)
 (.seq
 (.reg [.p (o1 (faddrG 0) r9) pushW, .p (o1 load1G l0) pushW, .p (o1 (faddrG 0) r11) pushW, .p (o1 load1G l0) pushW, .p (o2 (eqG eqIV true) l2 l0) pushW, .p (o1 mvG l0) w77])
 (.cond r77
 (.seq
 (.reg [.p (o1 mvG (ctK (.bool false))) w6])
 .ret)
 (.seq
 (.reg [.p (o1 (faddrG 0) r11) pushW, .p (o1 load1G l0) pushW, .p (o2 (eqG eqIV false) l0 (ctK (.int .i64 (Int.ofNat 7)))) pushW, .p (o1 mvG l0) w83])
 (.cond r83
 (.seq
 (.reg [.p (o1 (loadnG 4) r9) pushW, .p (o1 (loadnG 4) r11) pushW, .p (callO 160 [r0, l1, l0, (ctK (.bool true))]) pushW, .p (o1 mvG l0) w6])
 .ret)
 (.seq
 (.reg [.p (o1 (faddrG 0) r11) pushW, .p (o1 load1G l0) pushW, .p (o2 (eqG eqIV false) l0 (ctK (.int .i64 (Int.ofNat 8)))) pushW, .p (o1 mvG l0) w91])
 (.cond r91
 (.seq
 (.reg [.p (o1 (loadnG 4) r11) pushW, .p (o1 (loadnG 4) r9) pushW, .p (callO 160 [r0, l1, l0, (ctK (.bool false))]) pushW, .p (o1 mvG l0) w6])
 .ret)
 .skip)))))))))
 (.seq
 (.reg [.p (o1 (loadnG 4) r9) pushW, .p (o1 (loadnG 4) r11) pushW, .p (callO 161 [r0, l1, l0]) pushW, .p (o1 mvG l0) w6])
 .ret)))))))) }
theorem kf158_ok : (compFn Tryz.prog Tryz.f158 [[0, 1, 2], [0, 9, 11]]).bind (toKFn [10, 12, 13, 14, 15, 16, 17, 18, 19, 20, 21, 22, 23, 24, 25, 26, 27, 28, 29, 30, 31, 32, 33, 34, 35, 37, 38, 39, 40, 41, 42, 43, 44, 45, 46, 47, 48, 49, 50, 51, 52, 53, 54, 56, 57, 58, 59, 60, 61, 62, 63, 64, 65, 66, 67, 68, 69, 70, 71, 72, 73, 74, 75, 76, 78, 79, 80, 81, 82, 84, 85, 86, 87, 88, 89, 90, 92, 93, 94, 95, 96, 97, 98, 99, 100, 101, 102] 3) = some kf158 := by kernel_rfl
noncomputable def kf112 : KFn := { params := [w0, w1], res := [(.s r4), (.s r5)], body :=
 (.seq
 (.reg [.p (o1 mvG (ctK (.int .i64 (Int.ofNat 0)))) w4, .p (o1 mvG (ctK (.bool false))) w5])
 (.seq
 (.seq
 (.reg [.p (o1 nilckG r0) pushW, .p (o1 (faddrG 0) l0) pushW, .p (o1 load1G l0) pushW, .p (o1 lenLG l0) pushW, .p (o2 (binG addB) l0 (ctK (.int .i64 (Int.ofNat 1)))) w13, .p (o1 mvG (ctK (.int .i64 (Int.ofNat 0)))) w14])
 (.block 0
 (.loop
 (.seq
 (.reg [.p (o2 (binG (cmpB .lss ltI)) r14 r13) w15])
 (.seq
 (.cond r15
 .skip
 (.exit 0))
 (.seq
 (.block 1
 (.seq
 (.seq
 (.reg [.p (o2 (binG (cmpB .lss ltI)) r1 (ctK (.int .i64 (Int.ofNat 0)))) pushW, .g l0 false false none (o1 mvG r1) pushW, .g l1 false false none (o1 mvG r0) pushW, .g l2 false false none (o1 nilckG l0) pushW, .g l3 false false none (o1 (faddrG 0) l0) pushW, .g l4 false false none (o1 load1G l0) pushW, .g l5 false false none (o1 lenLG l0) pushW, .g l6 false false none (o2 (binG (cmpB .geq geI)) l5 l0) pushW, .p (o3 pickG l7 (ctK (.bool true)) l0) w26])
 (.cond r26
 (.seq
 (.reg [.p (o1 mvG (ctK (.int .i64 (Int.ofNat 0)))) w4, .p (o1 mvG (ctK (.bool false))) w5])
 .ret)
 .skip))
 (.seq
 (.seq
 (.reg [.p (o1 nilckG r0) pushW, .p (o1 (faddrG 0) l0) pushW, .p (o1 load1G l0) pushW, .p (o2 (iaddrG 4) l0 r1) pushW, .p (o1 (faddrG 0) l0) pushW, .p (o1 load1G l0) pushW, .p (o2 (eqG eqIV true) l0 (ctK (.int .i64 (Int.ofNat 9)))) w35])
 (.cond r35
 (.seq
 (.reg [.p (o1 mvG r1) w4, .p (o1 mvG (ctK (.bool true))) w5])
 .ret)
 .skip))
 (.seq
 (.drw [.p (o1 nilckG r0) pushW, .p (o1 (faddrG 2) l0) pushW, .p (o1 load1G l0) pushW, .p (o1 nilckG r0) pushW, .p (o1 (faddrG 0) l0) pushW, .p (o1 load1G l0) pushW, .p (o2 (iaddrG 4) l0 r1) pushW, .p (o1 (faddrG 1) l0) pushW, .p (o1 load1G l0) pushW, .p (o2 (lookupG (.one .s) (.int .i64 (Int.ofNat 0)) true) l6 l0) pushW, .p (o1 (extG 0) l0) pushW, .p (o1 (extG 1) l1) pushW, .p (o1 mvG l1) w6, .p (o1 mvG l0) w7] [])
 (.seq
 (.seq
 (.reg [.p (o1 notG r7) w54])
 (.cond r54
 (.reg [.p (o1 mvG (ctK (.int .i64 (Int.negSucc 0)))) w6])
 .skip))
 (.reg [.p (o1 mvG r6) w1]))))))
 (.reg [.p (o2 (binG addB) r14 (ctK (.int .i64 (Int.ofNat 1)))) pushW, .p (o1 mvG l0) w14])))))))
 (.seq
 (.reg [.p (o1 mvG (ctK (.int .i64 (Int.ofNat 0)))) w4, .p (o1 mvG (ctK (.bool false))) w5])
 .ret))) }
theorem kf112_ok : (compFn Tryz.prog Tryz.f112 [[], [0, 1, 13, 14], [0, 1, 13, 14], [0, 1, 13, 14], [0, 1, 13, 14], [0, 1, 13, 14], [0, 6, 13, 14]]).bind (toKFn [8, 9, 10, 11, 12, 16, 17, 18, 19, 20, 21, 22, 23, 24, 25, 27, 28, 29, 30, 31, 32, 33, 34, 36, 37, 38, 39, 40, 41, 42, 43, 44, 45, 46, 47, 48, 49, 50, 51, 52, 53, 55, 56] 2) = some kf112 := by kernel_rfl
noncomputable def kf113 : KFn := { params := [w0, w1], res := [(.cn r4 4), (.s r5)], body :=
 (.seq
 (.reg [.p (allocO [(.int .i64 (Int.ofNat 0)), (.str 0 0), .snil, .snil]) w4, .p (o1 mvG (ctK (.bool false))) w5])
 (.seq
 (.seq
 (.reg [.p (o2 (binG (cmpB .lss ltI)) r1 (ctK (.int .i64 (Int.ofNat 0)))) pushW, .g l0 false false none (o1 mvG r1) pushW, .g l1 false false none (o1 mvG r0) pushW, .g l2 false false none (o1 nilckG l0) pushW, .g l3 false false none (o1 (faddrG 0) l0) pushW, .g l4 false false none (o1 load1G l0) pushW, .g l5 false false none (o1 lenLG l0) pushW, .g l6 false false none (o2 (binG (cmpB .geq geI)) l5 l0) pushW, .p (o3 pickG l7 (ctK (.bool true)) l0) w17])
 (.cond r17
 (.seq
 (.reg [.p (buildO [(.int .i64 (Int.ofNat 0)), (.str 0 0), .snil, .snil] []) pushW, .p (o2 (storeG 4) r4 l0) noW, .p (o1 mvG (ctK (.bool false))) w5])
 .ret)
 .skip))
 (.seq
 (.reg [.p (o1 nilckG r0) pushW, .p (o1 (faddrG 0) l0) pushW, .p (o1 load1G l0) pushW, .p (o2 (iaddrG 4) l0 r1) pushW, .p (o1 (loadnG 4) l0) pushW, .p (allocO [(.int .i64 (Int.ofNat 0)), (.str 0 0), .snil, .snil]) w6, .p (o2 (storeG 4) r6 l0) noW])
 (.seq
 (.drw [.p (o1 (faddrG 2) r6) pushW, .p (o1 load1G l0) pushW, .m (callO 62 [l0]) pushW none, .p (o1 (faddrG 3) r6) pushW, .p (o1 load1G l0) pushW, .m (callO 108 [l0]) pushW (some []), .p (o1 (faddrG 2) r6) pushW, .p (o2 (storeG 1) l0 l4) noW, .p (o1 (faddrG 3) r6) pushW, .p (o2 (storeG 1) l0 l2) noW] [])
 (.seq
 (.reg [.p (o1 (loadnG 4) r6) pushW, .p (o2 (storeG 4) r4 l0) noW, .p (o1 mvG (ctK (.bool true))) w5])
 .ret))))) }
theorem kf113_ok : (compFn Tryz.prog Tryz.f113 [[0, 1, 4]]).bind (toKFn [7, 8, 9, 10, 11, 12, 13, 14, 15, 16, 18, 19, 20, 21, 22, 23, 24, 25, 26, 27, 28, 29, 30, 31, 32, 33, 34] 2) = some kf113 := by kernel_rfl
noncomputable def kf160 : KFn := { params := [w0, w1, w2, w3], res := [(.s r8)], body :=
 (.seq
 (.reg [.p (o1 boxG r1) w5, .p (o1 boxG r2) w6, .p (o1 mvG (ctK (.bool false))) w8])
 (.seq
 (.seq
 (.reg [.p (o1 (faddrG 2) r6) pushW, .p (o1 load1G l0) w15, .p (o1 lenLG r15) w16, .p (o1 mvG (ctK (.int .i64 (Int.ofNat 0)))) w17])
 (.block 0
 (.loop
 (.seq
 (.reg [.p (o2 (binG (cmpB .lss ltI)) r17 r16) w18])
 (.seq
 (.cond r18
 .skip
 (.exit 0))
 (.seq
 (.block 1
 (.seq
 (.reg [.p (o2 (iaddrG 1) r15 r17) pushW, .p (o1 load1G l0) pushW, .p (o1 mvG r17) w9, .p (o1 mvG l0) w10])
 (.seq
 (.reg [.p (o1 (faddrG 2) r5) pushW, .p (o1 load1G l0) pushW, .p (callO 122 [l0, r10]) pushW, .p (o1 mvG l0) w11])
 (.seq
 (.seq
 (.reg [.p (o2 (binG (cmpB .lss ltI)) r11 (ctK (.int .i64 (Int.ofNat 0)))) pushW, .g l0 false false none (o1 mvG r11) pushW, .g l1 false false none (o1 (faddrG 3) r5) pushW, .g l2 false false none (o1 load1G l0) pushW, .g l3 false false none (o1 lenLG l0) pushW, .g l4 false false none (o2 (binG (cmpB .geq geI)) l3 l0) pushW, .p (o3 pickG l5 (ctK (.bool true)) l0) pushW, .g l0 false false none (o1 mvG r9) pushW, .g l1 false false none (o1 (faddrG 3) r6) pushW, .g l2 false false none (o1 load1G l0) pushW, .g l3 false false none (o1 lenLG l0) pushW, .g l4 false false none (o2 (binG (cmpB .geq geI)) l3 l0) pushW, .p (o3 pickG l5 (ctK (.bool true)) l0) w41])
 (.cond r41
 (.seq
 (.reg [.p (o1 mvG (ctK (.bool false))) w8])
 .ret)
 .skip))
 (.seq
 (.drw [.p (o1 (faddrG 3) r5) pushW, .p (o1 load1G l0) pushW, .p (o2 (iaddrG 1) l0 r11) pushW, .p (o1 load1G l0) pushW, .p (o1 (faddrG 3) r6) pushW, .p (o1 load1G l0) pushW, .p (o2 (iaddrG 1) l0 r9) pushW, .p (o1 load1G l0) pushW, .p (o1 mvG l4) w12, .p (o1 mvG l0) w13] [])
 (.seq
 (.seq
 (.reg [.p (o1 notG r3) w53])
 (.cond r53
 (.reg [.p (o1 mvG r13) pushW, .p (o1 mvG r12) pushW, .p (o1 mvG l1) w12, .p (o1 mvG l0) w13])
 .skip))
 (.seq
 (.reg [.p (callO 150 [r0, r12, r13]) pushW, .p (o1 notG l0) w60])
 (.cond r60
 (.seq
 (.reg [.p (o1 mvG (ctK (.bool false))) w8])
 .ret)
 .skip))))))))
 (.reg [.p (o2 (binG addB) r17 (ctK (.int .i64 (Int.ofNat 1)))) pushW, .p (o1 mvG l0) w17])))))))
 (.seq
 (.reg [.p (o1 mvG (ctK (.bool true))) w8])
 .ret))) }
theorem kf160_ok : (compFn Tryz.prog Tryz.f160 [[], [0, 3, 5, 6, 15, 16, 17], [0, 3, 5, 6, 15, 16, 17], [0, 3, 5, 6, 15, 16, 17], [0, 3, 5, 6, 9, 11, 15, 16, 17], [0, 3, 5, 6, 12, 13, 15, 16, 17]]).bind (toKFn [14, 19, 20, 21, 22, 23, 24, 25, 26, 27, 28, 29, 30, 31, 32, 33, 34, 35, 36, 37, 38, 39, 40, 42, 43, 44, 45, 46, 47, 48, 49, 50, 51, 52, 54, 55, 56, 57, 58, 59, 61] 4) = some kf160 := by kernel_rfl
noncomputable def kf122 : KFn := { params := [w0, w1], res := [(.s r4)], body :=
 (.seq
 (.reg [.p (o1 mvG (ctK (.int .i64 (Int.ofNat 0)))) w4])
 (.seq
 (.seq
 (.reg [.p (o1 lenLG r0) w7, .p (o1 mvG (ctK (.int .i64 (Int.ofNat 0)))) w8])
 (.block 0
 (.loop
 (.seq
 (.reg [.p (o2 (binG (cmpB .lss ltI)) r8 r7) w9])
 (.seq
 (.cond r9
 .skip
 (.exit 0))
 (.seq
 (.block 1
 (.seq
 (.reg [.p (o1 mvG r8) w5])
 (.seq
 (.reg [.p (o2 (iaddrG 1) r0 r5) pushW, .p (o1 load1G l0) pushW, .p (o2 (eqG eqSV false) r1 l0) w16])
 (.cond r16
 (.seq
 (.reg [.p (o1 mvG r5) w4])
 .ret)
 .skip))))
 (.reg [.p (o2 (binG addB) r8 (ctK (.int .i64 (Int.ofNat 1)))) pushW, .p (o1 mvG l0) w8])))))))
 (.seq
 (.reg [.p (o1 mvG (ctK (.int .i64 (Int.negSucc 0)))) w4])
 .ret))) }
theorem kf122_ok : (compFn Tryz.prog Tryz.f122 [[], [0, 1, 7, 8], [0, 1, 7, 8], [0, 1, 7, 8]]).bind (toKFn [6, 10, 11, 12, 13, 14, 15, 17, 18] 2) = some kf122 := by kernel_rfl
noncomputable def kf161 : KFn := { params := [w0, w1, w2], res := [(.s r6)], body :=
 (.seq
 (.reg [.p (o1 boxG r1) w4, .p (o1 boxG r2) w5, .p (o1 mvG (ctK (.bool false))) w6])
 (.seq
 (.seq
 (.reg [.p (o1 (faddrG 3) r4) pushW, .p (o1 load1G l0) pushW, .p (o1 lenLG l0) w10, .p (o1 mvG (ctK (.int .i64 (Int.ofNat 0)))) w11])
 (.block 0
 (.loop
 (.seq
 (.reg [.p (o2 (binG (cmpB .lss ltI)) r11 r10) w12])
 (.seq
 (.cond r12
 .skip
 (.exit 0))
 (.seq
 (.block 1
 (.seq
 (.reg [.p (o1 mvG r11) w7])
 (.seq
 (.drw [.p (o1 (faddrG 3) r5) pushW, .p (o1 load1G l0) pushW, .p (o1 lenLG l0) pushW, .p (o2 (binG (cmpB .geq geI)) r7 l0) pushW, .g l0 false false none (o1 mvG r0) pushW, .g l1 false false none (o1 (faddrG 3) r4) pushW, .g l2 false false none (o1 load1G l0) pushW, .g l3 false false none (o1 mvG r7) pushW, .g l4 false false none (o2 (iaddrG 1) l1 l0) pushW, .g l5 false false none (o1 load1G l0) pushW, .g l6 false false none (o1 (faddrG 3) r5) pushW, .g l7 false false none (o1 load1G l0) pushW, .g l8 false false none (o1 mvG r7) pushW, .g l9 false false none (o2 (iaddrG 1) l1 l0) pushW, .g l10 false false none (o1 load1G l0) pushW, .g l11 false true (some []) (callO 150 [l10, l5, l0]) pushW, .g l12 false false none (o1 notG l0) pushW, .p (o3 pickG l13 (ctK (.bool true)) l0) w33] [])
 (.cond r33
 (.seq
 (.reg [.p (o1 mvG (ctK (.bool false))) w6])
 .ret)
 .skip))))
 (.reg [.p (o2 (binG addB) r11 (ctK (.int .i64 (Int.ofNat 1)))) pushW, .p (o1 mvG l0) w11])))))))
 (.seq
 (.reg [.p (o1 mvG (ctK (.bool true))) w6])
 .ret))) }
theorem kf161_ok : (compFn Tryz.prog Tryz.f161 [[], [0, 4, 5, 10, 11], [0, 4, 5, 10, 11], [0, 4, 5, 10, 11]]).bind (toKFn [8, 9, 13, 14, 15, 16, 17, 18, 19, 20, 21, 22, 23, 24, 25, 26, 27, 28, 29, 30, 31, 32, 34] 3) = some kf161 := by kernel_rfl
noncomputable def kf137 : KFn := { params := [w0, w1], res := [(.s r4), (.s r5)], body :=
 (.seq
 (.reg [.p (o1 boxG r0) w2, .p (o1 mvG (ctK (.int .i64 (Int.ofNat 0)))) w4, .p (o1 mvG (ctK (.int .i64 (Int.ofNat 0)))) w5])
 (.seq
 (.reg [.p (o1 (faddrG 1) r2) pushW, .p (o1 load1G l0) pushW, .p (o2 (iaddrG 4) l0 (ctK (.int .i64 (Int.ofNat 0)))) pushW, .p (o1 (faddrG 0) l0) pushW, .p (o1 load1G l0) pushW, .p (o1 mvG l0) w6])
 (.seq
 (.seq
 (.reg [.p (o1 mvG r1) w12])
 (.block 0
 (.seq
 (.reg [.p (o2 (eqG eqSV false) r12 (ctK (.str 3 7234924))) pushW, .p (o1 mvG l0) w13])
 (.cond r13
 (.seq
 (.reg [.p (o1 (loadnG 3) r2) pushW, .p (o2 (eqG eqIV false) r6 (ctK (.int .i64 (Int.ofNat 3)))) pushW, .g l0 false false none (o1 mvG r6) pushW, .g l1 false false none (o2 (eqG eqIV false) l0 (ctK (.int .i64 (Int.ofNat 4)))) pushW, .p (o3 pickG l2 (ctK (.bool true)) l0) pushW, .g l0 false false none (o1 mvG r6) pushW, .g l1 false false none (o2 (eqG eqIV false) l0 (ctK (.int .i64 (Int.ofNat 5)))) pushW, .p (o3 pickG l2 (ctK (.bool true)) l0) pushW, .p (callO 151 [l7, (ctK (.int .i64 (Int.ofNat 2))), l0]) pushW, .p (o1 (extG 0) l0) pushW, .p (o1 (extG 1) l1) pushW, .p (o1 mvG l1) w4, .p (o1 mvG l0) w5])
 .ret)
 (.seq
 (.reg [.p (o2 (eqG eqSV false) r12 (ctK (.str 3 7630702))) pushW, .p (o1 mvG l0) w29])
 (.cond r29
 (.seq
 (.drw [.p (o1 (loadnG 3) r2) pushW, .p (o1 (loadnG 3) r2) pushW, .p (bslO 1 1 [(.int .i64 (Int.ofNat 0))] [(0, 1, (ctK (.int .i64 (Int.ofNat 1))))]) pushW, .m (callO 152 [l1, l0]) pushW (some [2]), .m (callO 151 [l3, (ctK (.int .i64 (Int.ofNat 1))), l0]) pushW (some []), .p (o1 (extG 0) l0) pushW, .p (o1 (extG 1) l1) pushW, .p (o1 mvG l1) w4, .p (o1 mvG l0) w5] [])
 .ret)
 (.seq
 (.seq
 (.reg [.p (o2 (eqG eqSV false) r12 (ctK (.str 3 6581857))) pushW, .p (o1 mvG l0) w38])
 (.cond r38
 .skip
 (.reg [.p (o2 (eqG eqSV false) r12 (ctK (.str 2 29295))) pushW, .p (o1 mvG l0) w38])))
 (.cond r38
 (.seq
 (.drw [.p (o1 (loadnG 3) r2) pushW, .p (o1 (loadnG 3) r2) pushW, .p (bslO 1 2 [(.int .i64 (Int.ofNat 0)), (.int .i64 (Int.ofNat 0))] [(0, 1, (ctK (.int .i64 (Int.ofNat 1)))), (1, 1, (ctK (.int .i64 (Int.ofNat 1))))]) pushW, .m (callO 152 [l1, l0]) pushW (some [2]), .m (callO 151 [l3, (ctK (.int .i64 (Int.ofNat 1))), l0]) pushW (some []), .p (o1 (extG 0) l0) pushW, .p (o1 (extG 1) l1) pushW, .p (o1 mvG l1) w4, .p (o1 mvG l0) w5] [])
 .ret)
 (.seq
 (.reg [.p (o2 (eqG eqSV false) r12 (ctK (.str 2 29029))) pushW, .p (o1 mvG l0) w48])
 (.cond r48
 (.seq
 (.drw [.p (o1 (loadnG 3) r2) pushW, .p (o2 (binG (cmpB .geq geI)) r6 (ctK (.int .i64 (Int.ofNat 1)))) pushW, .g l0 true false none (o1 mvG r6) pushW, .g l1 true false none (o2 (binG (cmpB .leq leI)) l0 (ctK (.int .i64 (Int.ofNat 3)))) pushW, .p (o3 pickG l2 l0 (ctK (.bool false))) pushW, .g l0 true false none (o1 (loadnG 3) r2) pushW, .g l1 true false none (o1 mvG r6) pushW, .g l2 true false none (o1 mvG r6) pushW, .g l3 true false none (bslO 1 2 [(.int .i64 (Int.ofNat 0)), (.int .i64 (Int.ofNat 0))] [(0, 1, l1), (1, 1, l0)]) pushW, .g l4 true true (some [2]) (callO 152 [l3, l0]) pushW, .p (o3 pickG l5 l0 (ctK (.bool false))) pushW, .m (callO 151 [l10, (ctK (.int .i64 (Int.ofNat 1))), l0]) pushW (some []), .p (o1 (extG 0) l0) pushW, .p (o1 (extG 1) l1) pushW, .p (o1 mvG l1) w4, .p (o1 mvG l0) w5] [])
 .ret)
 (.seq
 (.reg [.p (o2 (eqG eqSV false) r12 (ctK (.str 2 29804))) pushW, .p (o1 mvG l0) w67])
 (.cond r67
 (.seq
 (.drw [.p (o1 (loadnG 3) r2) pushW, .p (o1 (loadnG 3) r2) pushW, .p (bslO 1 2 [(.int .i64 (Int.ofNat 0)), (.int .i64 (Int.ofNat 0))] [(0, 1, (ctK (.int .i64 (Int.ofNat 2)))), (1, 1, (ctK (.int .i64 (Int.ofNat 2))))]) pushW, .m (callO 152 [l1, l0]) pushW (some [2]), .m (callO 151 [l3, (ctK (.int .i64 (Int.ofNat 1))), l0]) pushW (some []), .p (o1 (extG 0) l0) pushW, .p (o1 (extG 1) l1) pushW, .p (o1 mvG l1) w4, .p (o1 mvG l0) w5] [])
 .ret)
 (.seq
 (.seq
 (.reg [.p (o2 (eqG eqSV false) r12 (ctK (.str 3 6579297))) pushW, .p (o1 mvG l0) w76])
 (.cond r76
 .skip
 (.seq
 (.reg [.p (o2 (eqG eqSV false) r12 (ctK (.str 3 6452595))) pushW, .p (o1 mvG l0) w76])
 (.cond r76
 .skip
 (.seq
 (.reg [.p (o2 (eqG eqSV false) r12 (ctK (.str 3 7107949))) pushW, .p (o1 mvG l0) w76])
 (.cond r76
 .skip
 (.seq
 (.reg [.p (o2 (eqG eqSV false) r12 (ctK (.str 3 7104627))) pushW, .p (o1 mvG l0) w76])
 (.cond r76
 .skip
 (.reg [.p (o2 (eqG eqSV false) r12 (ctK (.str 3 7497843))) pushW, .p (o1 mvG l0) w76])))))))))
 (.cond r76
 (.seq
 (.drw [.p (o1 (loadnG 3) r2) pushW, .p (o1 (loadnG 3) r2) pushW, .p (bslO 1 2 [(.int .i64 (Int.ofNat 0)), (.int .i64 (Int.ofNat 0))] [(0, 1, (ctK (.int .i64 (Int.ofNat 2)))), (1, 1, (ctK (.int .i64 (Int.ofNat 2))))]) pushW, .m (callO 152 [l1, l0]) pushW (some [2]), .m (callO 151 [l3, (ctK (.int .i64 (Int.ofNat 2))), l0]) pushW (some []), .p (o1 (extG 0) l0) pushW, .p (o1 (extG 1) l1) pushW, .p (o1 mvG l1) w4, .p (o1 mvG l0) w5] [])
 .ret)
 (.seq
 (.reg [.p (o2 (eqG eqSV false) r12 (ctK (.str 3 7627107))) pushW, .p (o1 mvG l0) w89])
 (.cond r89
 (.seq
 (.drw [.p (o1 (loadnG 3) r2) pushW, .p (o1 (loadnG 3) r2) pushW, .p (bslO 1 2 [(.int .i64 (Int.ofNat 0)), (.int .i64 (Int.ofNat 0))] [(0, 1, (ctK (.int .i64 (Int.ofNat 3)))), (1, 1, (ctK (.int .i64 (Int.ofNat 3))))]) pushW, .m (callO 152 [l1, l0]) pushW (some [2]), .m (callO 151 [l3, (ctK (.int .i64 (Int.ofNat 3))), l0]) pushW (some []), .p (o1 (extG 0) l0) pushW, .p (o1 (extG 1) l1) pushW, .p (o1 mvG l1) w4, .p (o1 mvG l0) w5] [])
 .ret)
 (.seq
 (.reg [.p (o2 (eqG eqSV false) r12 (ctK (.str 4 1954047348))) pushW, .p (o1 mvG l0) w98])
 (.cond r98
 (.seq
 (.reg [.p (o1 (loadnG 3) r2) pushW, .p (o2 (eqG eqIV false) r6 (ctK (.int .i64 (Int.ofNat 2)))) pushW, .g l0 false false none (o1 mvG r6) pushW, .g l1 false false none (o2 (eqG eqIV false) l0 (ctK (.int .i64 (Int.ofNat 1)))) pushW, .p (o3 pickG l2 (ctK (.bool true)) l0) pushW, .p (callO 151 [l4, (ctK (.int .i64 (Int.ofNat 3))), l0]) pushW, .p (o1 (extG 0) l0) pushW, .p (o1 (extG 1) l1) pushW, .p (o1 mvG l1) w4, .p (o1 mvG l0) w5])
 .ret)
 (.seq
 (.reg [.p (o2 (eqG eqSV false) r12 (ctK (.str 2 29793))) pushW, .p (o1 mvG l0) w110])
 (.cond r110
 (.seq
 (.drw [.p (o1 (loadnG 3) r2) pushW, .p (o1 (loadnG 3) r2) pushW, .p (bslO 1 2 [(.int .i64 (Int.ofNat 0)), (.int .i64 (Int.ofNat 0))] [(0, 1, (ctK (.int .i64 (Int.ofNat 4)))), (1, 1, (ctK (.int .i64 (Int.ofNat 2))))]) pushW, .m (callO 152 [l1, l0]) pushW (some [2]), .m (callO 153 [l3, l0]) pushW (some []), .p (o1 (extG 0) l0) pushW, .p (o1 (extG 1) l1) pushW, .p (o1 mvG l1) w4, .p (o1 mvG l0) w5] [])
 .ret)
 (.seq
 (.reg [.p (o2 (eqG eqSV false) r12 (ctK (.str 3 7628135))) pushW, .p (o1 mvG l0) w119])
 (.cond r119
 (.seq
 (.reg [.p (o1 (loadnG 3) r2) pushW, .p (callO 154 [l0]) pushW, .p (o1 (extG 0) l0) pushW, .p (o1 (extG 1) l1) pushW, .p (o1 mvG l1) w4, .p (o1 mvG l0) w5])
 .ret)
 (.seq
 (.reg [.p (o2 (eqG eqSV false) r12 (ctK (.str 3 7561576))) pushW, .p (o1 mvG l0) w125])
 (.cond r125
 (.seq
 (.drw [.p (o1 (loadnG 3) r2) pushW, .p (o1 (loadnG 3) r2) pushW, .p (bslO 1 1 [(.int .i64 (Int.ofNat 0))] [(0, 1, (ctK (.int .i64 (Int.ofNat 6))))]) pushW, .m (callO 152 [l1, l0]) pushW (some [2]), .m (callO 151 [l3, (ctK (.int .i64 (Int.ofNat 1))), l0]) pushW (some []), .p (o1 (extG 0) l0) pushW, .p (o1 (extG 1) l1) pushW, .p (o1 mvG l1) w4, .p (o1 mvG l0) w5] [])
 .ret)
 (.seq
 (.reg [.p (o2 (eqG eqSV false) r12 (ctK (.str 6 111546414232175))) pushW, .p (o1 mvG l0) w134])
 (.cond r134
 (.seq
 (.drw [.p (o1 (loadnG 3) r2) pushW, .p (o1 (loadnG 3) r2) pushW, .p (bslO 1 1 [(.int .i64 (Int.ofNat 0))] [(0, 1, (ctK (.int .i64 (Int.ofNat 6))))]) pushW, .m (callO 152 [l1, l0]) pushW (some [2]), .g l0 true false none (o1 (faddrG 1) r2) pushW, .g l1 true false none (o1 load1G l0) pushW, .g l2 true false none (o2 (iaddrG 4) l0 (ctK (.int .i64 (Int.ofNat 0)))) pushW, .g l3 true false none (o1 (faddrG 3) l0) pushW, .g l4 true false none (o1 load1G l0) pushW, .g l5 true false none (o1 lenLG l0) pushW, .g l6 true false none (o2 (eqG eqIV false) l0 (ctK (.int .i64 (Int.ofNat 1)))) pushW, .p (o3 pickG l7 l0 (ctK (.bool false))) pushW, .g l0 true false none (o1 (faddrG 2) r2) pushW, .g l1 true false none (o1 load1G l0) pushW, .g l2 true false none (o2 (iaddrG 1) l0 (ctK (.int .i64 (Int.ofNat 1)))) pushW, .g l3 true false none (o1 load1G l0) pushW, .g l4 true false none (o1 (faddrG 1) r2) pushW, .g l5 true false none (o1 load1G l0) pushW, .g l6 true false none (o2 (iaddrG 4) l0 (ctK (.int .i64 (Int.ofNat 0)))) pushW, .g l7 true false none (o1 (faddrG 3) l0) pushW, .g l8 true false none (o1 load1G l0) pushW, .g l9 true false none (o2 (iaddrG 1) l0 (ctK (.int .i64 (Int.ofNat 0)))) pushW, .g l10 true false none (o1 load1G l0) pushW, .g l11 true false none (o2 (eqG eqIV false) l7 l0) pushW, .p (o3 pickG l12 l0 (ctK (.bool false))) pushW, .m (callO 153 [l24, l0]) pushW (some []), .p (o1 (extG 0) l0) pushW, .p (o1 (extG 1) l1) pushW, .p (o1 mvG l1) w4, .p (o1 mvG l0) w5] [])
 .ret)
 .skip))))))))))))))))))))))))))
 (.seq
 (.drw [.p (o1 (loadnG 3) r2) pushW, .p (o1 (loadnG 3) r2) pushW, .p (bslO 1 1 [(.int .i64 (Int.ofNat 0))] [(0, 1, (ctK (.int .i64 (Int.ofNat 2))))]) pushW, .m (callO 152 [l1, l0]) pushW (some [2]), .m (callO 151 [l3, (ctK (.int .i64 (Int.ofNat 2))), l0]) pushW (some []), .p (o1 (extG 0) l0) pushW, .p (o1 (extG 1) l1) pushW, .p (o1 mvG l1) w4, .p (o1 mvG l0) w5] [])
 .ret)))) }
theorem kf137_ok : (compFn Tryz.prog Tryz.f137 [[2], [2, 6, 12, 38], [2, 6, 12, 76]]).bind (toKFn [7, 8, 9, 10, 11, 14, 15, 16, 17, 18, 19, 20, 21, 22, 23, 24, 25, 26, 27, 28, 30, 31, 32, 33, 34, 35, 36, 37, 39, 40, 41, 42, 43, 44, 45, 46, 47, 49, 50, 51, 52, 53, 54, 55, 56, 57, 58, 59, 60, 61, 62, 63, 64, 65, 66, 68, 69, 70, 71, 72, 73, 74, 75, 77, 78, 79, 80, 81, 82, 83, 84, 85, 86, 87, 88, 90, 91, 92, 93, 94, 95, 96, 97, 99, 100, 101, 102, 103, 104, 105, 106, 107, 108, 109, 111, 112, 113, 114, 115, 116, 117, 118, 120, 121, 122, 123, 124, 126, 127, 128, 129, 130, 131, 132, 133, 135, 136, 137, 138, 139, 140, 141, 142, 143, 144, 145, 146, 147, 148, 149, 150, 151, 152, 153, 154, 155, 156, 157, 158, 159, 160, 161, 162, 163, 164, 165, 166, 167, 168, 169, 170, 171, 172] 2) = some kf137 := by kernel_rfl
noncomputable def kf151 : KFn := { params := [w0, w1, w2], res := [(.s r6), (.s r7)], body :=
 (.seq
 (.reg [.p (o1 boxG r0) w3, .p (o1 mvG (ctK (.int .i64 (Int.ofNat 0)))) w6, .p (o1 mvG (ctK (.int .i64 (Int.ofNat 0)))) w7])
 (.seq
 (.seq
 (.reg [.p (o1 notG r2) w9])
 (.cond r9
 (.seq
 (.reg [.p (o1 mvG (ctK (.int .i64 (Int.ofNat 0)))) w6, .p (o1 mvG (ctK (.int .i64 (Int.ofNat 17)))) w7])
 .ret)
 .skip))
 (.seq
 (.reg [.p (o1 (faddrG 0) r3) pushW, .p (o1 load1G l0) pushW, .p (callO 110 [l0, r1]) pushW, .p (o1 (extG 0) l0) pushW, .p (o1 (extG 1) l1) pushW, .p (o1 mvG l1) w6, .p (o1 mvG l0) w7])
 .ret))) }
theorem kf151_ok : (compFn Tryz.prog Tryz.f151 [[1, 3]]).bind (toKFn [8, 10, 11, 12, 13, 14, 15] 3) = some kf151 := by kernel_rfl
noncomputable def kf152 : KFn := { params := [w0, w1], res := [(.s r4)], body :=
 (.seq
 (.reg [.p (o1 boxG r0) w2, .p (o1 mvG (ctK (.bool false))) w4])
 (.seq
 (.seq
 (.reg [.p (o1 mvG r1) w7, .p (o1 lenLG r7) w8, .p (o1 mvG (ctK (.int .i64 (Int.ofNat 0)))) w9])
 (.block 0
 (.loop
 (.seq
 (.reg [.p (o2 (binG (cmpB .lss ltI)) r9 r8) w10])
 (.seq
 (.cond r10
 .skip
 (.exit 0))
 (.seq
 (.block 1
 (.seq
 (.reg [.p (o2 (iaddrG 1) r7 r9) pushW, .p (o1 load1G l0) pushW, .p (o1 mvG r9) w5, .p (o1 mvG l0) w6])
 (.seq
 (.reg [.p (o1 (faddrG 1) r2) pushW, .p (o1 load1G l0) pushW, .p (o2 (iaddrG 4) l0 r5) pushW, .p (o1 (faddrG 0) l0) pushW, .p (o1 load1G l0) pushW, .p (o2 (eqG eqIV true) l0 r6) w21])
 (.cond r21
 (.seq
 (.reg [.p (o1 mvG (ctK (.bool false))) w4])
 .ret)
 .skip))))
 (.reg [.p (o2 (binG addB) r9 (ctK (.int .i64 (Int.ofNat 1)))) pushW, .p (o1 mvG l0) w9])))))))
 (.seq
 (.reg [.p (o1 mvG (ctK (.bool true))) w4])
 .ret))) }
theorem kf152_ok : (compFn Tryz.prog Tryz.f152 [[], [2, 7, 8, 9], [2, 7, 8, 9], [2, 7, 8, 9]]).bind (toKFn [11, 12, 13, 14, 15, 16, 17, 18, 19, 20, 22] 2) = some kf152 := by kernel_rfl
noncomputable def kf153 : KFn := { params := [w0, w1], res := [(.s r4), (.s r5)], body :=
 (.seq
 (.reg [.p (o1 boxG r0) w2, .p (o1 mvG (ctK (.int .i64 (Int.ofNat 0)))) w4, .p (o1 mvG (ctK (.int .i64 (Int.ofNat 0)))) w5])
 (.seq
 (.seq
 (.reg [.p (o1 notG r1) pushW, .g l0 false false none (o1 (faddrG 1) r2) pushW, .g l1 false false none (o1 load1G l0) pushW, .g l2 false false none (o2 (iaddrG 4) l0 (ctK (.int .i64 (Int.ofNat 0)))) pushW, .g l3 false false none (o1 (faddrG 3) l0) pushW, .g l4 false false none (o1 load1G l0) pushW, .g l5 false false none (o1 lenLG l0) pushW, .g l6 false false none (o2 (eqG eqIV false) l0 (ctK (.int .i64 (Int.ofNat 0)))) pushW, .p (o3 pickG l7 (ctK (.bool true)) l0) w16])
 (.cond r16
 (.seq
 (.reg [.p (o1 mvG (ctK (.int .i64 (Int.ofNat 0)))) w4, .p (o1 mvG (ctK (.int .i64 (Int.ofNat 17)))) w5])
 .ret)
 .skip))
 (.seq
 (.reg [.p (o1 (faddrG 1) r2) pushW, .p (o1 load1G l0) pushW, .p (o2 (iaddrG 4) l0 (ctK (.int .i64 (Int.ofNat 0)))) pushW, .p (o1 (faddrG 3) l0) pushW, .p (o1 load1G l0) pushW, .p (o2 (iaddrG 1) l0 (ctK (.int .i64 (Int.ofNat 0)))) pushW, .p (o1 load1G l0) pushW, .p (o1 mvG l0) w4, .p (o1 mvG (ctK (.int .i64 (Int.ofNat 0)))) w5])
 .ret))) }
theorem kf153_ok : (compFn Tryz.prog Tryz.f153 [[2]]).bind (toKFn [6, 7, 8, 9, 10, 11, 12, 13, 14, 15, 17, 18, 19, 20, 21, 22, 23] 2) = some kf153 := by kernel_rfl
noncomputable def kf154 : KFn := { params := [w0], res := [(.s r2), (.s r3)], body :=
 (.seq
 (.reg [.p (o1 boxG r0) w1, .p (o1 mvG (ctK (.int .i64 (Int.ofNat 0)))) w2, .p (o1 mvG (ctK (.int .i64 (Int.ofNat 0)))) w3])
 (.seq
 (.drw [.p (o1 (loadnG 3) r1) pushW, .p (o1 (loadnG 3) r1) pushW, .p (bslO 1 2 [(.int .i64 (Int.ofNat 0)), (.int .i64 (Int.ofNat 0))] [(0, 1, (ctK (.int .i64 (Int.ofNat 5)))), (1, 1, (ctK (.int .i64 (Int.ofNat 3))))]) pushW, .m (callO 152 [l1, l0]) pushW (some [1]), .m (callO 153 [l3, l0]) pushW (some []), .p (o1 (extG 0) l0) pushW, .p (o1 (extG 1) l1) pushW, .p (o1 mvG l1) w4, .p (o1 mvG l0) w5] [])
 (.seq
 (.seq
 (.reg [.p (o2 (eqG eqIV true) r5 (ctK (.int .i64 (Int.ofNat 0)))) w19])
 (.cond r19
 (.seq
 (.reg [.p (o1 mvG (ctK (.int .i64 (Int.ofNat 0)))) w2, .p (o1 mvG r5) w3])
 .ret)
 .skip))
 (.seq
 (.reg [.p (o1 (faddrG 0) r1) pushW, .p (o1 load1G l0) pushW, .p (callO 112 [l0, r4]) pushW, .p (o1 (extG 0) l0) pushW, .p (o1 (extG 1) l1) pushW, .p (o1 mvG l1) w6])
 (.seq
 (.seq
 (.reg [.p (o1 (faddrG 0) r1) pushW, .p (o1 load1G l0) pushW, .p (callO 113 [l0, r6]) pushW, .p (o1 (extG 0) l0) pushW, .p (o1 (extG 1) l1) pushW, .p (allocO [(.int .i64 (Int.ofNat 0)), (.str 0 0), .snil, .snil]) w8, .p (o2 (storeG 4) r8 l1) noW])
 (.seq
 (.reg [.p (o1 (faddrG 0) r8) pushW, .p (o1 load1G l0) pushW, .p (o2 (eqG eqIV false) l0 (ctK (.int .i64 (Int.ofNat 6)))) w37])
 (.cond r37
 (.seq
 (.reg [.p (o1 mvG (ctK (.int .i64 (Int.ofNat 0)))) w2, .p (o1 mvG (ctK (.int .i64 (Int.ofNat 17)))) w3])
 .ret)
 .skip)))
 (.seq
 (.reg [.p (o1 (faddrG 0) r1) pushW, .p (o1 load1G l0) pushW, .p (callO 159 [l0, r4]) pushW, .p (o1 (extG 0) l0) pushW, .p (o1 (extG 1) l1) pushW, .p (o1 mvG l1) w2, .p (o1 mvG l0) w3])
 .ret)))))) }
theorem kf154_ok : (compFn Tryz.prog Tryz.f154 [[1, 4], [1, 4]]).bind (toKFn [7, 9, 10, 11, 12, 13, 14, 15, 16, 17, 18, 20, 21, 22, 23, 24, 25, 26, 27, 28, 29, 30, 31, 32, 33, 34, 35, 36, 38, 39, 40, 41, 42, 43] 1) = some kf154 := by kernel_rfl
noncomputable def kf159 : KFn := { params := [w0, w1], res := [(.s r4), (.s r5)], body :=
 (.seq
 (.reg [.p (o1 mvG (ctK (.int .i64 (Int.ofNat 0)))) w4, .p (o1 mvG (ctK (.int .i64 (Int.ofNat 0)))) w5])
 (.seq
 (.reg [.p (bslO 1 1 [(.int .i64 (Int.ofNat 0))] [(0, 1, r1)]) pushW, .p (buildO [(.int .i64 (Int.ofNat 0)), (.str 0 0), .snil, .snil] [(0, 1, (ctK (.int .i64 (Int.ofNat 6)))), (3, 1, l0)]) pushW, .p (callO 84 [r0, l0]) pushW, .p (o1 (extG 0) l0) pushW, .p (o1 (extG 1) l1) pushW, .p (o1 mvG l1) w4, .p (o1 mvG l0) w5])
 .ret)) }
theorem kf159_ok : (compFn Tryz.prog Tryz.f159 []).bind (toKFn [6, 7, 8, 9, 10, 11, 12] 2) = some kf159 := by kernel_rfl
noncomputable def kf111 : KFn := { params := [w0, w1, w2], res := [(.s r6), (.s r7)], body :=
 (.seq
 (.reg [.p (o1 boxG r0) w3, .p (o1 boxG r2) w5, .p (o1 mvG (ctK (.int .i64 (Int.ofNat 0)))) w6, .p (o1 mvG (ctK (.int .i64 (Int.ofNat 0)))) w7])
 (.seq
 (.reg [.p (o1 (loadnG 3) r3) pushW, .p (o1 (faddrG 1) r5) pushW, .p (o1 load1G l0) pushW, .p (callO 138 [l2, l0]) pushW, .p (o1 (extG 0) l0) pushW, .p (o1 (extG 1) l1) pushW, .p (o1 mvG l1) w8, .p (o1 mvG l0) w9])
 (.seq
 (.seq
 (.reg [.p (o1 notG r9) w27])
 (.cond r27
 (.seq
 (.reg [.p (o1 mvG (ctK (.int .i64 (Int.ofNat 0)))) w6, .p (o1 mvG (ctK (.int .i64 (Int.ofNat 15)))) w7])
 .ret)
 .skip))
 (.seq
 (.reg [.p (o1 (loadnG 3) r3) pushW, .p (o1 (faddrG 2) r5) pushW, .p (o1 load1G l0) pushW, .p (callO 139 [l2, r8, l0]) pushW, .p (o1 (extG 0) l0) pushW, .p (o1 (extG 1) l1) pushW, .p (o1 mvG l1) w10, .p (o1 mvG l0) w11])
 (.seq
 (.seq
 (.reg [.p (o1 (faddrG 2) r5) pushW, .p (o1 load1G l0) pushW, .p (cutLO 1 l0 (some r11) none none) w39, .p (o1 lenLG r39) w40, .p (o1 mvG (ctK (.int .i64 (Int.ofNat 0)))) w41])
 (.block 0
 (.loop
 (.seq
 (.reg [.p (o2 (binG (cmpB .lss ltI)) r41 r40) w42])
 (.seq
 (.cond r42
 .skip
 (.exit 0))
 (.seq
 (.block 1
 (.seq
 (.reg [.p (o2 (iaddrG 1) r39 r41) pushW, .p (o1 load1G l0) pushW, .p (o1 mvG l0) w13])
 (.seq
 (.reg [.p (callO 112 [r1, r10]) pushW, .p (o1 (extG 0) l0) pushW, .p (o1 (extG 1) l1) pushW, .p (o1 mvG l1) w14])
 (.seq
 (.reg [.p (callO 113 [r1, r14]) pushW, .p (o1 (extG 0) l0) pushW, .p (o1 (extG 1) l1) pushW, .p (allocO [(.int .i64 (Int.ofNat 0)), (.str 0 0), .snil, .snil]) w16, .p (o2 (storeG 4) r16 l1) noW])
 (.seq
 (.reg [.p (o1 (faddrG 2) r16) pushW, .p (o1 load1G l0) pushW, .p (callO 122 [l0, r13]) pushW, .p (o1 mvG l0) w18])
 (.seq
 (.seq
 (.reg [.p (o1 (faddrG 0) r16) pushW, .p (o1 load1G l0) pushW, .p (o2 (eqG eqIV true) l0 (ctK (.int .i64 (Int.ofNat 7)))) pushW, .g l0 false false none (o1 mvG r18) pushW, .g l1 false false none (o2 (binG (cmpB .lss ltI)) l0 (ctK (.int .i64 (Int.ofNat 0)))) pushW, .p (o3 pickG l2 (ctK (.bool true)) l0) pushW, .g l0 false false none (o1 mvG r18) pushW, .g l1 false false none (o1 (faddrG 3) r16) pushW, .g l2 false false none (o1 load1G l0) pushW, .g l3 false false none (o1 lenLG l0) pushW, .g l4 false false none (o2 (binG (cmpB .geq geI)) l3 l0) pushW, .p (o3 pickG l5 (ctK (.bool true)) l0) w74])
 (.cond r74
 (.seq
 (.reg [.p (o1 mvG (ctK (.int .i64 (Int.ofNat 0)))) w6, .p (o1 mvG (ctK (.int .i64 (Int.ofNat 16)))) w7])
 .ret)
 .skip))
 (.reg [.p (o1 (faddrG 3) r16) pushW, .p (o1 load1G l0) pushW, .p (o2 (iaddrG 1) l0 r18) pushW, .p (o1 load1G l0) pushW, .p (o1 mvG l0) w10])))))))
 (.reg [.p (o2 (binG addB) r41 (ctK (.int .i64 (Int.ofNat 1)))) pushW, .p (o1 mvG l0) w41])))))))
 (.seq
 (.reg [.p (o1 mvG r10) w6, .p (o1 mvG (ctK (.int .i64 (Int.ofNat 0)))) w7])
 .ret)))))) }
theorem kf111_ok : (compFn Tryz.prog Tryz.f111 [[1, 3, 5, 8], [10], [1, 10, 39, 40, 41], [1, 10, 39, 40, 41], [1, 10, 39, 40, 41], [1, 16, 18, 39, 40, 41]]).bind (toKFn [15, 17, 19, 20, 21, 22, 23, 24, 25, 26, 28, 29, 30, 31, 32, 33, 34, 35, 36, 37, 38, 43, 44, 45, 46, 47, 48, 49, 50, 51, 52, 53, 54, 55, 56, 57, 58, 59, 60, 61, 62, 63, 64, 65, 66, 67, 68, 69, 70, 71, 72, 73, 75, 76, 77, 78, 79, 80, 81] 3) = some kf111 := by kernel_rfl
noncomputable def kf139 : KFn := { params := [w0, w1, w2], res := [(.s r6), (.s r7)], body :=
 (.seq
 (.reg [.p (o1 boxG r0) w3, .p (o1 mvG (ctK (.int .i64 (Int.ofNat 0)))) w6, .p (o1 mvG (ctK (.int .i64 (Int.ofNat 0)))) w7])
 (.seq
 (.reg [.p (o1 (faddrG 0) r3) pushW, .p (o1 load1G l0) pushW, .p (o1 mvG l0) w8, .p (o1 mvG (ctK (.int .i64 (Int.ofNat 0)))) w9])
 (.seq
 (.seq
 (.reg [.p (o2 (eqG eqIV true) r1 (ctK (.int .i64 (Int.negSucc 0)))) w15])
 (.cond r15
 (.reg [.p (o1 (faddrG 1) r3) pushW, .p (o1 load1G l0) pushW, .p (o2 (iaddrG 2) l0 r1) pushW, .p (o1 (faddrG 1) l0) pushW, .p (o1 load1G l0) pushW, .p (o1 mvG l0) w8])
 .skip))
 (.seq
 (.seq
 (.reg [.p (o1 (faddrG 2) r3) pushW, .p (o1 load1G l0) w23, .p (o1 lenLG r23) w24, .p (o1 mvG (ctK (.int .i64 (Int.ofNat 0)))) w25])
 (.block 0
 (.loop
 (.seq
 (.reg [.p (o2 (binG (cmpB .lss ltI)) r25 r24) w26])
 (.seq
 (.cond r26
 .skip
 (.exit 0))
 (.seq
 (.block 1
 (.seq
 (.reg [.p (o2 (iaddrG 3) r23 r25) pushW, .p (o1 (loadnG 3) l0) pushW, .p (allocO [(.int .i64 (Int.ofNat 0)), .snil, (.int .i64 (Int.ofNat 0))]) w11, .p (o2 (storeG 3) r11 l0) noW])
 (.seq
 (.drw [.p (o1 (faddrG 0) r11) pushW, .p (o1 load1G l0) pushW, .p (o2 (eqG eqIV false) l0 r1) pushW, .g l0 true false none (o1 (faddrG 1) r11) pushW, .g l1 true false none (o1 load1G l0) pushW, .g l2 true false none (o1 lenLG l0) pushW, .g l3 true false none (o1 mvG r9) pushW, .g l4 true false none (o2 (binG (cmpB .geq geI)) l1 l0) pushW, .p (o3 pickG l5 l0 (ctK (.bool false))) pushW, .g l0 true false none (o1 (faddrG 1) r11) pushW, .g l1 true false none (o1 load1G l0) pushW, .g l2 true false none (o1 lenLG l0) pushW, .g l3 true false none (o1 mvG r2) pushW, .g l4 true false none (o1 lenLG l0) pushW, .g l5 true false none (o2 (binG (cmpB .leq leI)) l2 l0) pushW, .p (o3 pickG l6 l0 (ctK (.bool false))) pushW, .g l0 true false none (o1 (faddrG 1) r11) pushW, .g l1 true false none (o1 load1G l0) pushW, .g l2 true false none (o1 mvG r2) pushW, .g l3 true false none (o1 (faddrG 1) r11) pushW, .g l4 true false none (o1 load1G l0) pushW, .g l5 true false none (o1 lenLG l0) pushW, .g l6 true false none (cutLO 1 l3 none (some l0) none) pushW, .g l7 true true (some []) (callO 155 [l5, l0]) pushW, .p (o3 pickG l8 l0 (ctK (.bool false))) w57] [])
 (.cond r57
 (.drw [.p (o1 (faddrG 2) r11) pushW, .p (o1 load1G l0) pushW, .p (o1 (faddrG 1) r11) pushW, .p (o1 load1G l0) pushW, .p (o1 lenLG l0) pushW, .p (o1 mvG l3) w8, .p (o1 mvG l0) w9] [])
 .skip))))
 (.reg [.p (o2 (binG addB) r25 (ctK (.int .i64 (Int.ofNat 1)))) pushW, .p (o1 mvG l0) w25])))))))
 (.seq
 (.reg [.p (o1 mvG r8) w6, .p (o1 mvG r9) w7])
 .ret))))) }
theorem kf139_ok : (compFn Tryz.prog Tryz.f139 [[1, 2, 3, 8, 9], [8, 9], [1, 2, 8, 9, 23, 24, 25], [1, 2, 8, 9, 23, 24, 25], [1, 2, 8, 9, 23, 24, 25]]).bind (toKFn [12, 13, 14, 16, 17, 18, 19, 20, 21, 22, 27, 28, 29, 30, 31, 32, 33, 34, 35, 36, 37, 38, 39, 40, 41, 42, 43, 44, 45, 46, 47, 48, 49, 50, 51, 52, 53, 54, 55, 56, 58, 59, 60, 61, 62, 63, 64, 65] 3) = some kf139 := by kernel_rfl
noncomputable def kf155 : KFn := { params := [w0, w1], res := [(.s r4)], body :=
 (.seq
 (.reg [.p (o1 mvG (ctK (.bool false))) w4])
 (.seq
 (.seq
 (.reg [.p (o1 lenLG r0) pushW, .p (o1 lenLG r1) pushW, .p (o2 (eqG eqIV true) l1 l0) w10])
 (.cond r10
 (.seq
 (.reg [.p (o1 mvG (ctK (.bool false))) w4])
 .ret)
 .skip))
 (.seq
 (.seq
 (.reg [.p (o1 lenLG r0) w12, .p (o1 mvG (ctK (.int .i64 (Int.ofNat 0)))) w13])
 (.block 0
 (.loop
 (.seq
 (.reg [.p (o2 (binG (cmpB .lss ltI)) r13 r12) w14])
 (.seq
 (.cond r14
 .skip
 (.exit 0))
 (.seq
 (.block 1
 (.seq
 (.reg [.p (o1 mvG r13) w5])
 (.seq
 (.drw [.p (o2 (iaddrG 1) r0 r5) pushW, .p (o1 load1G l0) pushW, .p (o2 (iaddrG 1) r1 r5) pushW, .p (o1 load1G l0) pushW, .p (o2 (eqG eqSV true) l2 l0) w24] [])
 (.cond r24
 (.seq
 (.reg [.p (o1 mvG (ctK (.bool false))) w4])
 .ret)
 .skip))))
 (.reg [.p (o2 (binG addB) r13 (ctK (.int .i64 (Int.ofNat 1)))) pushW, .p (o1 mvG l0) w13])))))))
 (.seq
 (.reg [.p (o1 mvG (ctK (.bool true))) w4])
 .ret)))) }
theorem kf155_ok : (compFn Tryz.prog Tryz.f155 [[0, 1], [], [0, 1, 12, 13], [0, 1, 12, 13], [0, 1, 12, 13]]).bind (toKFn [6, 7, 8, 9, 11, 15, 16, 17, 18, 19, 20, 21, 22, 23, 25] 2) = some kf155 := by kernel_rfl
noncomputable def kf67 : KFn := { params := [w0, w1, w2, w3], res := [(.s r8)], body :=
 (.seq
 (.reg [.p (o1 boxG r1) w5, .p (o1 boxG r2) w6, .p (o1 mvG (ctK (.int .i64 (Int.ofNat 0)))) w8])
 (.seq
 (.reg [.p (callO 89 [r0, r3]) pushW, .p (allocO [(.int .i64 (Int.ofNat 0)), (.str 0 0), .snil, .snil]) w9, .p (o2 (storeG 4) r9 l0) noW])
 (.seq
 (.seq
 (.reg [.p (o1 (faddrG 0) r6) pushW, .p (o1 load1G l0) w14])
 (.block 0
 (.seq
 (.reg [.p (o2 (eqG eqIV false) r14 (ctK (.int .i64 (Int.ofNat 2)))) pushW, .p (o1 mvG l0) w15])
 (.cond r15
 (.seq
 (.reg [.p (o1 (faddrG 0) r9) pushW, .p (o1 load1G l0) pushW, .p (o2 (binG (cmpB .lss ltI)) l0 (ctK (.int .i64 (Int.ofNat 1)))) pushW, .g l0 false false none (o1 (faddrG 0) r9) pushW, .g l1 false false none (o1 load1G l0) pushW, .g l2 false false none (o2 (binG (cmpB .gtr gtI)) l0 (ctK (.int .i64 (Int.ofNat 3)))) pushW, .p (o3 pickG l3 (ctK (.bool true)) l0) w24])
 (.cond r24
 (.seq
 (.reg [.p (o1 mvG (ctK (.int .i64 (Int.ofNat 17)))) w8])
 .ret)
 .skip))
 (.seq
 (.reg [.p (o2 (eqG eqIV false) r14 (ctK (.int .i64 (Int.ofNat 4)))) pushW, .p (o1 mvG l0) w25])
 (.cond r25
 (.seq
 (.reg [.p (o1 (loadnG 3) r5) pushW, .p (o1 (faddrG 3) r6) pushW, .p (o1 load1G l0) pushW, .p (callO 90 [r0, l2, l0, r3]) pushW, .p (o1 mvG l0) w8])
 .ret)
 (.seq
 (.reg [.p (o2 (eqG eqIV false) r14 (ctK (.int .i64 (Int.ofNat 5)))) pushW, .p (o1 mvG l0) w33])
 (.cond r33
 (.seq
 (.reg [.p (o1 (loadnG 3) r5) pushW, .p (o1 (loadnG 9) r6) pushW, .p (callO 91 [r0, l1, l0, r3]) pushW, .p (o1 mvG l0) w8])
 .ret)
 (.seq
 (.reg [.p (o2 (eqG eqIV false) r14 (ctK (.int .i64 (Int.ofNat 6)))) pushW, .p (o1 mvG l0) w40])
 (.cond r40
 (.seq
 (.seq
 (.reg [.p (o1 (faddrG 0) r9) pushW, .p (o1 load1G l0) pushW, .p (o2 (eqG eqIV false) l0 (ctK (.int .i64 (Int.ofNat 6)))) pushW, .g l0 true false none (o1 (faddrG 3) r9) pushW, .g l1 true false none (o1 load1G l0) pushW, .g l2 true false none (o1 lenLG l0) pushW, .g l3 true false none (o2 (eqG eqIV false) l0 (ctK (.int .i64 (Int.ofNat 1)))) pushW, .p (o3 pickG l4 l0 (ctK (.bool false))) w50])
 (.cond r50
 (.reg [.p (o1 (faddrG 3) r9) pushW, .p (o1 load1G l0) pushW, .p (o2 (iaddrG 1) l0 (ctK (.int .i64 (Int.ofNat 0)))) pushW, .p (o1 load1G l0) pushW, .p (o1 mvG l0) w3])
 .skip))
 (.seq
 (.drw [.p (o1 (loadnG 3) r5) pushW, .m (callO 93 [l0, r3]) pushW none, .p (o1 (faddrG 5) r6) pushW, .p (o1 load1G l0) pushW, .p (o1 (loadnG 3) r5) pushW, .p (o1 (faddrG 6) r6) pushW, .p (o1 load1G l0) pushW, .m (callO 92 [r0, l5, l3, l2, l0]) pushW (some []), .p (o1 mvG l0) w8] [])
 .ret))
 (.seq
 (.reg [.p (o2 (eqG eqIV false) r14 (ctK (.int .i64 (Int.ofNat 7)))) pushW, .p (o1 mvG l0) w65])
 (.cond r65
 (.seq
 (.seq
 (.reg [.p (o1 (faddrG 0) r9) pushW, .p (o1 load1G l0) pushW, .p (o2 (eqG eqIV true) l0 (ctK (.int .i64 (Int.ofNat 4)))) pushW, .g l0 true false none (o1 (faddrG 0) r9) pushW, .g l1 true false none (o1 load1G l0) pushW, .g l2 true false none (o2 (eqG eqIV true) l0 (ctK (.int .i64 (Int.ofNat 5)))) pushW, .p (o3 pickG l3 l0 (ctK (.bool false))) pushW, .g l0 false false none (o1 (faddrG 3) r9) pushW, .g l1 false false none (o1 load1G l0) pushW, .g l2 false false none (o1 lenLG l0) pushW, .g l3 false false none (o2 (eqG eqIV true) l0 (ctK (.int .i64 (Int.ofNat 1)))) pushW, .p (o3 pickG l4 (ctK (.bool true)) l0) w80])
 (.cond r80
 (.seq
 (.reg [.p (o1 mvG (ctK (.int .i64 (Int.ofNat 17)))) w8])
 .ret)
 .skip))
 (.seq
 (.drw [.p (o1 (loadnG 3) r5) pushW, .p (o1 (faddrG 3) r9) pushW, .p (o1 load1G l0) pushW, .p (o2 (iaddrG 1) l0 (ctK (.int .i64 (Int.ofNat 0)))) pushW, .p (o1 load1G l0) pushW, .m (callO 93 [l4, l0]) pushW none, .p (o1 (faddrG 5) r6) pushW, .p (o1 load1G l0) pushW, .p (o1 (loadnG 3) r5) pushW, .p (o1 (faddrG 6) r6) pushW, .p (o1 load1G l0) pushW, .m (callO 92 [r0, l5, l3, l2, l0]) pushW (some []), .p (o1 mvG l0) w8] [])
 .ret))
 (.seq
 (.reg [.p (o2 (eqG eqIV false) r14 (ctK (.int .i64 (Int.ofNat 8)))) pushW, .p (o1 mvG l0) w94])
 (.cond r94
 (.seq
 (.reg [.p (o1 (loadnG 3) r5) pushW, .p (o1 (loadnG 9) r6) pushW, .p (callO 94 [r0, l1, l0, r3]) pushW, .p (o1 mvG l0) w8])
 .ret)
 (.seq
 (.reg [.p (o2 (eqG eqIV false) r14 (ctK (.int .i64 (Int.ofNat 9)))) pushW, .p (o1 mvG l0) w101])
 (.cond r101
 (.seq
 (.reg [.p (o1 (loadnG 3) r5) pushW, .p (o1 (loadnG 9) r6) pushW, .p (callO 95 [r0, l1, l0, r3]) pushW, .p (o1 mvG l0) w8])
 .ret)
 .skip))))))))))))))))
 (.seq
 (.reg [.p (o1 mvG (ctK (.int .i64 (Int.ofNat 0)))) w8])
 .ret)))) }
theorem kf67_ok : (compFn Tryz.prog Tryz.f67 [[], [0, 3, 5, 6], [0, 5, 6, 9]]).bind (toKFn [10, 11, 12, 13, 16, 17, 18, 19, 20, 21, 22, 23, 26, 27, 28, 29, 30, 31, 32, 34, 35, 36, 37, 38, 39, 41, 42, 43, 44, 45, 46, 47, 48, 49, 51, 52, 53, 54, 55, 56, 57, 58, 59, 60, 61, 62, 63, 64, 66, 67, 68, 69, 70, 71, 72, 73, 74, 75, 76, 77, 78, 79, 81, 82, 83, 84, 85, 86, 87, 88, 89, 90, 91, 92, 93, 95, 96, 97, 98, 99, 100, 102, 103, 104, 105, 106, 107] 4) = some kf67 := by kernel_rfl
noncomputable def kf89 : KFn := { params := [w0, w1], res := [(.cn r4 4)], body :=
 (.seq
 (.reg [.p (allocO [(.int .i64 (Int.ofNat 0)), (.str 0 0), .snil, .snil]) w4])
 (.seq
 (.reg [.p (o1 nilckG r0) pushW, .p (o1 (faddrG 0) l0) pushW, .p (o1 load1G l0) pushW, .p (callO 112 [l0, r1]) pushW, .p (o1 (extG 0) l0) pushW, .p (o1 (extG 1) l1) pushW, .p (o1 mvG l1) w5, .p (o1 mvG l0) w6])
 (.seq
 (.seq
 (.reg [.p (o1 notG r6) w19])
 (.cond r19
 (.seq
 (.reg [.p (buildO [(.int .i64 (Int.ofNat 0)), (.str 0 0), .snil, .snil] []) pushW, .p (o2 (storeG 4) r4 l0) noW])
 .ret)
 .skip))
 (.seq
 (.reg [.p (o1 nilckG r0) pushW, .p (o1 (faddrG 0) l0) pushW, .p (o1 load1G l0) pushW, .p (callO 113 [l0, r5]) pushW, .p (o1 (extG 0) l0) pushW, .p (o1 (extG 1) l1) pushW, .p (allocO [(.int .i64 (Int.ofNat 0)), (.str 0 0), .snil, .snil]) w7, .p (o2 (storeG 4) r7 l1) noW])
 (.seq
 (.reg [.p (o1 (loadnG 4) r7) pushW, .p (o2 (storeG 4) r4 l0) noW])
 .ret))))) }
theorem kf89_ok : (compFn Tryz.prog Tryz.f89 [[0, 4, 5]]).bind (toKFn [8, 9, 10, 11, 12, 13, 14, 15, 16, 17, 18, 20, 21, 22, 23, 24, 25, 26, 27, 28, 29, 30] 2) = some kf89 := by kernel_rfl
noncomputable def kf91 : KFn := { params := [w0, w1, w2, w3], res := [(.s r8)], body :=
 (.seq
 (.reg [.p (o1 boxG r1) w5, .p (o1 boxG r2) w6, .p (o1 mvG (ctK (.int .i64 (Int.ofNat 0)))) w8])
 (.seq
 (.reg [.p (callO 89 [r0, r3]) pushW, .p (allocO [(.int .i64 (Int.ofNat 0)), (.str 0 0), .snil, .snil]) w9, .p (o2 (storeG 4) r9 l0) noW])
 (.seq
 (.reg [.p (o1 (loadnG 3) r5) pushW, .p (allocO [(.int .i64 (Int.ofNat 0)), .snil, .snil]) w10, .p (o2 (storeG 3) r10 l0) noW])
 (.seq
 (.seq
 (.reg [.p (o1 (faddrG 0) r9) pushW, .p (o1 load1G l0) w19])
 (.block 0
 (.seq
 (.block 2
 (.seq
 (.block 1
 (.seq
 (.seq
 (.seq
 (.reg [.p (o2 (eqG eqIV false) r19 (ctK (.int .i64 (Int.ofNat 6)))) pushW, .p (o1 mvG l0) w20])
 (.cond r20
 (.exit 1)
 .skip))
 (.seq
 (.reg [.p (o2 (eqG eqIV false) r19 (ctK (.int .i64 (Int.ofNat 1)))) pushW, .p (o1 mvG l0) w22])
 (.cond r22
 (.exit 2)
 .skip)))
 (.exit 0)))
 (.seq
 (.reg [.p (o1 (loadnG 3) r5) pushW, .p (o1 (faddrG 4) r6) pushW, .p (o1 load1G l0) pushW, .p (callO 117 [l2, l0]) pushW, .p (o1 (extG 0) l0) pushW, .p (o1 (extG 1) l1) pushW, .p (o1 (extG 2) l2) pushW, .p (o1 mvG l2) w11, .p (o1 mvG l1) w12, .p (o1 mvG l0) w13])
 (.seq
 (.reg [.g r13 true false none (o1 (faddrG 3) r9) pushW, .g r13 true false none (o1 load1G l0) pushW, .g r13 true false none (o1 lenLG l0) pushW, .g r13 true false none (o2 (eqG eqIV false) l0 (ctK (.int .i64 (Int.ofNat 1)))) pushW, .p (o3 pickG r13 l0 (ctK (.bool false))) w38])
 (.cond r38
 (.drw [.p (o1 (loadnG 3) r5) pushW, .p (o1 (faddrG 3) r9) pushW, .p (o1 load1G l0) pushW, .p (o2 (iaddrG 1) l0 (ctK (.int .i64 (Int.ofNat 0)))) pushW, .p (o1 load1G l0) pushW, .p (buildO [(.int .i64 (Int.ofNat 0)), .snil, (.int .i64 (Int.ofNat 0))] [(0, 1, r11), (1, 1, r12), (2, 1, l0)]) pushW, .m (callO 118 [l5, l0]) pushW (some []), .p (o2 (storeG 3) r10 l0) noW] [])
 .skip)))))
 (.seq
 (.seq
 (.reg [.p (o1 (loadnG 3) r10) pushW, .p (o1 (faddrG 5) r6) pushW, .p (o1 load1G l0) pushW, .p (o1 (loadnG 3) r5) pushW, .p (o1 (faddrG 6) r6) pushW, .p (o1 load1G l0) pushW, .p (callO 92 [r0, l5, l3, l2, l0]) pushW, .p (o1 mvG l0) w8])
 .ret)
 (.exit 0)))))
 (.seq
 (.reg [.p (o1 mvG (ctK (.int .i64 (Int.ofNat 17)))) w8])
 .ret))))) }
theorem kf91_ok : (compFn Tryz.prog Tryz.f91 [[], [0, 5, 6, 10], [0, 5, 6, 9, 10], [], [0, 5, 6, 10, 19]]).bind (toKFn [14, 15, 16, 17, 18, 21, 23, 24, 25, 26, 27, 28, 29, 30, 31, 32, 33, 34, 35, 36, 37, 39, 40, 41, 42, 43, 44, 45, 46, 47, 48, 49, 50, 51, 52, 53, 54, 55] 4) = some kf91 := by kernel_rfl
noncomputable def kf117 : KFn := { params := [w0, w1], res := [(.s r4), (.s r5), (.s r6)], body :=
 (.seq
 (.reg [.p (o1 boxG r0) w2, .p (o1 mvG (ctK (.int .i64 (Int.ofNat 0)))) w4, .p (o1 mvG (ctK .snil)) w5, .p (o1 mvG (ctK (.bool false))) w6])
 (.seq
 (.seq
 (.reg [.p (o1 lenLG r1) pushW, .p (o2 (eqG eqIV true) l0 (ctK (.int .i64 (Int.ofNat 1)))) pushW, .g l0 false false none (o1 mvG r1) pushW, .g l1 false false none (o2 (iaddrG 1) l0 (ctK (.int .i64 (Int.ofNat 0)))) pushW, .g l2 false false none (o1 (faddrG 0) l0) pushW, .g l3 false false none (o1 load1G l0) pushW, .g l4 false false none (o1 lenLG l0) pushW, .g l5 false false none (o2 (eqG eqIV true) l0 (ctK (.int .i64 (Int.ofNat 1)))) pushW, .p (o3 pickG l6 (ctK (.bool true)) l0) pushW, .g l0 false false none (o1 mvG r1) pushW, .g l1 false false none (o2 (iaddrG 1) l0 (ctK (.int .i64 (Int.ofNat 0)))) pushW, .g l2 false false none (o1 (faddrG 0) l0) pushW, .g l3 false false none (o1 load1G l0) pushW, .g l4 false false none (o2 (iaddrG 7) l0 (ctK (.int .i64 (Int.ofNat 0)))) pushW, .g l5 false false none (o1 (faddrG 0) l0) pushW, .g l6 false false none (o1 load1G l0) pushW, .g l7 false false none (o2 (eqG eqIV true) l0 (ctK (.int .i64 (Int.ofNat 1)))) pushW, .p (o3 pickG l8 (ctK (.bool true)) l0) w29])
 (.cond r29
 (.seq
 (.reg [.p (o1 mvG (ctK (.int .i64 (Int.ofNat 0)))) w4, .p (o1 mvG (ctK .snil)) w5, .p (o1 mvG (ctK (.bool false))) w6])
 .ret)
 .skip))
 (.seq
 (.reg [.p (o2 (iaddrG 1) r1 (ctK (.int .i64 (Int.ofNat 0)))) pushW, .p (o1 (faddrG 0) l0) pushW, .p (o1 load1G l0) pushW, .p (o2 (iaddrG 7) l0 (ctK (.int .i64 (Int.ofNat 0)))) pushW, .p (o1 (loadnG 7) l0) pushW, .p (allocO [(.int .i64 (Int.ofNat 0)), (.str 0 0), .snil, (.str 0 0), (.int .i64 (Int.ofNat 0)), (.bool false), .snil]) w7, .p (o2 (storeG 7) r7 l0) noW])
 (.seq
 (.reg [.p (o1 (loadnG 3) r2) pushW, .p (o1 (faddrG 1) r7) pushW, .p (o1 load1G l0) pushW, .p (callO 138 [l2, l0]) pushW, .p (o1 (extG 0) l0) pushW, .p (o1 (extG 1) l1) pushW, .p (o1 mvG l1) w4, .p (o1 mvG l0) w8])
 (.seq
 (.seq
 (.reg [.p (o1 notG r8) w44])
 (.cond r44
 (.seq
 (.reg [.p (o1 mvG (ctK (.int .i64 (Int.ofNat 0)))) w4, .p (o1 mvG (ctK .snil)) w5, .p (o1 mvG (ctK (.bool false))) w6])
 .ret)
 .skip))
 (.seq
 (.reg [.p (o1 mvG r4) pushW, .p (o1 (faddrG 2) r7) pushW, .p (o1 load1G l0) pushW, .p (callO 62 [l0]) pushW, .p (o1 mvG l3) w4, .p (o1 mvG l0) w5, .p (o1 mvG (ctK (.bool true))) w6])
 .ret)))))) }
theorem kf117_ok : (compFn Tryz.prog Tryz.f117 [[1, 2], [4, 7]]).bind (toKFn [9, 10, 11, 12, 13, 14, 15, 16, 17, 18, 19, 20, 21, 22, 23, 24, 25, 26, 27, 28, 30, 31, 32, 33, 34, 35, 36, 37, 38, 39, 40, 41, 42, 43, 45, 46, 47, 48] 2) = some kf117 := by kernel_rfl
noncomputable def kf118 : KFn := { params := [w0, w1], res := [(.cn r4 3)], body :=
 (.seq
 (.reg [.p (o1 boxG r0) w2, .p (o1 boxG r1) w3, .p (allocO [(.int .i64 (Int.ofNat 0)), .snil, .snil]) w4])
 (.seq
 (.reg [.p (o1 (faddrG 2) r2) pushW, .p (o1 load1G l0) pushW, .p (o1 lenLG l0) pushW, .p (o2 (binG addB) l0 (ctK (.int .i64 (Int.ofNat 1)))) pushW, .p (o2 (mkslG 3 [(.int .i64 (Int.ofNat 0)), .snil, (.int .i64 (Int.ofNat 0))]) l0 l0) pushW, .p (o1 mvG l0) w5])
 (.seq
 (.drw [.p (o1 mvG r5) w12, .p (o1 (faddrG 2) r2) pushW, .p (o1 load1G l0) pushW, .p (o2 (copyG 3) r12 l0) pushW, .p (o1 (loadnG 3) r3) pushW, .p (o2 (iaddrG 3) r5 l1) pushW, .p (o2 (storeG 3) l0 l1) noW] [([r12], [r3])])
 (.seq
 (.reg [.p (o1 (faddrG 2) r2) pushW, .p (o2 (storeG 1) l0 r5) noW])
 (.seq
 (.reg [.p (o1 (loadnG 3) r2) pushW, .p (o2 (storeG 3) r4 l0) noW])
 .ret))))) }
theorem kf118_ok : (compFn Tryz.prog Tryz.f118 []).bind (toKFn [6, 7, 8, 9, 10, 11, 13, 14, 15, 16, 17, 18, 19, 20] 2) = some kf118 := by kernel_rfl
noncomputable def kf92 : KFn := { params := [w0, w1, w2, w3, w4], res := [(.s r10)], body :=
 (.seq
 (.reg [.p (o1 boxG r1) w6, .p (o1 boxG r3) w8, .p (o1 mvG (ctK (.int .i64 (Int.ofNat 0)))) w10])
 (.seq
 (.seq
 (.reg [.p (o1 (loadnG 3) r6) pushW, .p (callO 39 [r0, l0, r2]) pushW, .p (o1 mvG l0) w11])
 (.seq
 (.reg [.p (o2 (eqG eqIV true) r11 (ctK (.int .i64 (Int.ofNat 0)))) w17])
 (.cond r17
 (.seq
 (.reg [.p (o1 mvG r11) w10])
 .ret)
 .skip)))
 (.seq
 (.reg [.p (o1 (loadnG 3) r8) pushW, .p (callO 39 [r0, l0, r4]) pushW, .p (o1 mvG l0) w10])
 .ret))) }
theorem kf92_ok : (compFn Tryz.prog Tryz.f92 [[0, 4, 8]]).bind (toKFn [12, 13, 14, 15, 16, 18, 19, 20, 21, 22] 5) = some kf92 := by kernel_rfl
noncomputable def kf93 : KFn := { params := [w0, w1], res := [(.cn r4 3)], body :=
 (.seq
 (.reg [.p (o1 boxG r0) w2, .p (allocO [(.int .i64 (Int.ofNat 0)), .snil, .snil]) w4])
 (.seq
 (.reg [.p (o1 (faddrG 0) r2) pushW, .p (o2 (storeG 1) l0 r1) noW])
 (.seq
 (.reg [.p (o1 (faddrG 2) r2) pushW, .p (o1 load1G l0) pushW, .p (callO 120 [l0]) pushW, .p (callO 119 [l0, (ctK (.fn 121 [] []))]) pushW, .p (o1 (faddrG 2) r2) pushW, .p (o2 (storeG 1) l0 l1) noW])
 (.seq
 (.reg [.p (o1 (loadnG 3) r2) pushW, .p (o2 (storeG 3) r4 l0) noW])
 .ret)))) }
theorem kf93_ok : (compFn Tryz.prog Tryz.f93 []).bind (toKFn [5, 6, 7, 8, 9, 10, 11, 12] 2) = some kf93 := by kernel_rfl
noncomputable def kf120 : KFn := { params := [w0], res := [(.s r2)], body :=
 (.seq
 (.reg [.p (o1 mvG (ctK .snil)) w2])
 (.seq
 (.seq
 (.reg [.p (o2 (eqG (slowEq (.one .l)) false) r0 (ctK .snil)) w4])
 (.cond r4
 (.seq
 (.reg [.p (o1 mvG (ctK .snil)) w2])
 .ret)
 .skip))
 (.seq
 (.reg [.p (bslO 3 0 [] []) pushW, .p (o2 (appG 3) l0 r0) pushW, .p (o1 mvG l0) w2])
 .ret))) }
theorem kf120_ok : (compFn Tryz.prog Tryz.f120 [[0]]).bind (toKFn [3, 5, 6, 7] 1) = some kf120 := by kernel_rfl
noncomputable def kf119 : KFn := { params := [w0, w1], res := [(.s r4)], body :=
 (.seq
 (.reg [.p (o1 mvG (ctK .snil)) w4])
 (.seq
 (.reg [.p (callO 141 [r0, r1]) pushW, .p (o1 mvG l0) w5])
 (.seq
 (.seq
 (.reg [.p (o2 (eqG eqIV false) r5 (ctK (.int .i64 (Int.negSucc 0)))) w12])
 (.cond r12
 (.seq
 (.reg [.p (o1 mvG r0) w4])
 .ret)
 .skip))
 (.seq
 (.seq
 (.reg [.p (o2 (binG addB) r5 (ctK (.int .i64 (Int.ofNat 1)))) pushW, .p (o1 mvG l0) w6])
 (.block 0
 (.loop
 (.seq
 (.seq
 (.reg [.p (o1 lenLG r0) pushW, .p (o2 (binG (cmpB .lss ltI)) r6 l0) w19])
 (.cond r19
 .skip
 (.exit 0)))
 (.seq
 (.block 1
 (.seq
 (.reg [.p (o2 (iaddrG 3) r0 r6) pushW, .p (o1 (loadnG 3) l0) pushW, .p (allocO [(.int .i64 (Int.ofNat 0)), .snil, (.int .i64 (Int.ofNat 0))]) w7, .p (o2 (storeG 3) r7 l0) noW])
 (.seq
 (.reg [.p (o1 (loadnG 3) r7) pushW, .p (callvO r1 [l0]) pushW, .p (o1 notG l0) w29])
 (.cond r29
 (.seq
 (.reg [.p (o1 (loadnG 3) r7) pushW, .p (o2 (iaddrG 3) r0 r5) pushW, .p (o2 (storeG 3) l0 l1) noW])
 (.reg [.p (o1 mvG r5) pushW, .p (o2 (binG addB) l0 (ctK (.int .i64 (Int.ofNat 1)))) pushW, .p (o1 mvG l0) w5]))
 .skip))))
 (.reg [.p (o1 mvG r6) pushW, .p (o2 (binG addB) l0 (ctK (.int .i64 (Int.ofNat 1)))) pushW, .p (o1 mvG l0) w6]))))))
 (.seq
 (.reg [.p (cutLO 3 r0 (some r5) none none) pushW, .p (o1 (clearG 3 [(.int .i64 (Int.ofNat 0)), .snil, (.int .i64 (Int.ofNat 0))]) l0) noW])
 (.seq
 (.reg [.p (cutLO 3 r0 none (some r5) none) pushW, .p (o1 mvG l0) w4])
 .ret)))))) }
theorem kf119_ok : (compFn Tryz.prog Tryz.f119 [[0, 1, 5], [0, 5], [0, 1, 5, 6], [0, 1, 5, 6], [0, 1, 5, 6]]).bind (toKFn [8, 9, 10, 11, 13, 14, 15, 16, 17, 18, 20, 21, 22, 23, 24, 25, 26, 27, 28, 30, 31, 32, 33, 34, 35, 36, 37, 38, 39, 40, 41] 2) = some kf119 := by kernel_rfl
noncomputable def kf141 : KFn := { params := [w0, w1], res := [(.s r4)], body :=
 (.seq
 (.reg [.p (o1 mvG (ctK (.int .i64 (Int.ofNat 0)))) w4])
 (.seq
 (.seq
 (.reg [.p (o1 lenLG r0) w7, .p (o1 mvG (ctK (.int .i64 (Int.ofNat 0)))) w8])
 (.block 0
 (.loop
 (.seq
 (.reg [.p (o2 (binG (cmpB .lss ltI)) r8 r7) w9])
 (.seq
 (.cond r9
 .skip
 (.exit 0))
 (.seq
 (.block 1
 (.seq
 (.reg [.p (o1 mvG r8) w5])
 (.seq
 (.reg [.p (o2 (iaddrG 3) r0 r5) pushW, .p (o1 (loadnG 3) l0) pushW, .p (callvO r1 [l0]) w16])
 (.cond r16
 (.seq
 (.reg [.p (o1 mvG r5) w4])
 .ret)
 .skip))))
 (.reg [.p (o2 (binG addB) r8 (ctK (.int .i64 (Int.ofNat 1)))) pushW, .p (o1 mvG l0) w8])))))))
 (.seq
 (.reg [.p (o1 mvG (ctK (.int .i64 (Int.negSucc 0)))) w4])
 .ret))) }
theorem kf141_ok : (compFn Tryz.prog Tryz.f141 [[], [0, 1, 7, 8], [0, 1, 7, 8], [0, 1, 7, 8]]).bind (toKFn [6, 10, 11, 12, 13, 14, 15, 17, 18] 2) = some kf141 := by kernel_rfl
noncomputable def kf121 : KFn := { params := [w0], res := [(.s r2)], body :=
 (.seq
 (.reg [.p (o1 boxG r0) w1, .p (o1 mvG (ctK (.bool false))) w2])
 (.seq
 (.reg [.p (o1 (faddrG 0) r1) pushW, .p (o1 load1G l0) pushW, .p (o2 (eqG eqIV false) l0 (ctK (.int .i64 (Int.negSucc 0)))) pushW, .p (o1 mvG l0) w2])
 .ret)) }
theorem kf121_ok : (compFn Tryz.prog Tryz.f121 []).bind (toKFn [3, 4, 5] 1) = some kf121 := by kernel_rfl
noncomputable def kf94 : KFn := { params := [w0, w1, w2, w3], res := [(.s r8)], body :=
 (.seq
 (.reg [.p (o1 boxG r1) w5, .p (o1 boxG r2) w6, .p (o1 mvG (ctK (.int .i64 (Int.ofNat 0)))) w8])
 (.seq
 (.reg [.p (callO 89 [r0, r3]) pushW, .p (allocO [(.int .i64 (Int.ofNat 0)), (.str 0 0), .snil, .snil]) w9, .p (o2 (storeG 4) r9 l0) noW])
 (.seq
 (.seq
 (.reg [.p (o1 (faddrG 0) r9) pushW, .p (o1 load1G l0) pushW, .p (o2 (eqG eqIV true) l0 (ctK (.int .i64 (Int.ofNat 8)))) w20])
 (.cond r20
 (.seq
 (.reg [.p (o1 mvG (ctK (.int .i64 (Int.ofNat 17)))) w8])
 .ret)
 .skip))
 (.seq
 (.reg [.p (o1 (faddrG 2) r9) pushW, .p (o1 load1G l0) pushW, .p (o1 lenLG l0) pushW, .p (o2 (mkslG 1 [(.bool false)]) l0 l0) pushW, .p (o1 mvG l0) w10])
 (.seq
 (.seq
 (.reg [.p (o1 (faddrG 8) r6) pushW, .p (o1 load1G l0) w26, .p (o1 lenLG r26) w27, .p (o1 mvG (ctK (.int .i64 (Int.ofNat 0)))) w28])
 (.block 0
 (.loop
 (.seq
 (.reg [.p (o2 (binG (cmpB .lss ltI)) r28 r27) w29])
 (.seq
 (.cond r29
 .skip
 (.exit 0))
 (.seq
 (.block 1
 (.seq
 (.reg [.p (o2 (iaddrG 2) r26 r28) pushW, .p (o1 (loadnG 2) l0) pushW, .p (allocO [(.str 0 0), .snil]) w12, .p (o2 (storeG 2) r12 l0) noW])
 (.seq
 (.reg [.p (o1 (faddrG 2) r9) pushW, .p (o1 load1G l0) pushW, .p (o1 (faddrG 0) r12) pushW, .p (o1 load1G l0) pushW, .p (callO 122 [l2, l0]) pushW, .p (o1 mvG l0) w13])
 (.seq
 (.seq
 (.reg [.p (o2 (binG (cmpB .lss ltI)) r13 (ctK (.int .i64 (Int.ofNat 0)))) pushW, .g l0 false false none (o1 mvG r13) pushW, .g l1 false false none (o1 (faddrG 3) r9) pushW, .g l2 false false none (o1 load1G l0) pushW, .g l3 false false none (o1 lenLG l0) pushW, .g l4 false false none (o2 (binG (cmpB .geq geI)) l3 l0) pushW, .p (o3 pickG l5 (ctK (.bool true)) l0) pushW, .g l0 false false none (o1 mvG r10) pushW, .g l1 false false none (o1 mvG r13) pushW, .g l2 false false none (o2 (iaddrG 1) l1 l0) pushW, .g l3 false false none (o1 load1G l0) pushW, .p (o3 pickG l4 (ctK (.bool true)) l0) w51])
 (.cond r51
 (.seq
 (.reg [.p (o1 mvG (ctK (.int .i64 (Int.ofNat 19)))) w8])
 .ret)
 .skip))
 (.seq
 (.reg [.p (o2 (iaddrG 1) r10 r13) pushW, .p (o2 (storeG 1) l0 (ctK (.bool true))) noW])
 (.seq
 (.drw [.p (o1 (loadnG 3) r5) pushW, .p (o1 (faddrG 3) r9) pushW, .p (o1 load1G l0) pushW, .p (o2 (iaddrG 1) l0 r13) pushW, .p (o1 load1G l0) pushW, .m (callO 93 [l4, l0]) pushW none, .p (o1 (faddrG 1) r12) pushW, .p (o1 load1G l0) pushW, .m (callO 39 [r0, l2, l0]) pushW (some []), .p (o1 mvG l0) w14] [])
 (.seq
 (.reg [.p (o2 (eqG eqIV true) r14 (ctK (.int .i64 (Int.ofNat 0)))) w67])
 (.cond r67
 (.seq
 (.reg [.p (o1 mvG r14) w8])
 .ret)
 .skip))))))))
 (.reg [.p (o2 (binG addB) r28 (ctK (.int .i64 (Int.ofNat 1)))) pushW, .p (o1 mvG l0) w28])))))))
 (.seq
 (.seq
 (.reg [.p (callO 123 [r10, (ctK (.bool false))]) pushW, .g l0 true false none (o1 (faddrG 7) r6) pushW, .g l1 true false none (o1 load1G l0) pushW, .g l2 true false none (o1 notG l0) pushW, .p (o3 pickG l3 l0 (ctK (.bool false))) w76])
 (.cond r76
 (.seq
 (.reg [.p (o1 mvG (ctK (.int .i64 (Int.ofNat 19)))) w8])
 .ret)
 .skip))
 (.seq
 (.reg [.p (o1 (loadnG 3) r5) pushW, .p (o1 (faddrG 6) r6) pushW, .p (o1 load1G l0) pushW, .p (callO 39 [r0, l2, l0]) pushW, .p (o1 mvG l0) w8])
 .ret))))))) }
theorem kf94_ok : (compFn Tryz.prog Tryz.f94 [[0, 5, 6, 9], [0, 5, 6, 10], [0, 5, 6, 9, 10, 26, 27, 28], [0, 5, 6, 9, 10, 26, 27, 28], [0, 5, 6, 9, 10, 26, 27, 28], [0, 5, 6, 9, 10, 12, 13, 26, 27, 28], [0, 5, 6]]).bind (toKFn [15, 16, 17, 18, 19, 21, 22, 23, 24, 25, 30, 31, 32, 33, 34, 35, 36, 37, 38, 39, 40, 41, 42, 43, 44, 45, 46, 47, 48, 49, 50, 52, 53, 54, 55, 56, 57, 58, 59, 60, 61, 62, 63, 64, 65, 66, 68, 69, 70, 71, 72, 73, 74, 75, 77, 78, 79, 80, 81] 4) = some kf94 := by kernel_rfl
noncomputable def kf123 : KFn := { params := [w0, w1], res := [(.s r4)], body :=
 (.seq
 (.reg [.p (o1 mvG (ctK (.bool false))) w4])
 (.seq
 (.reg [.p (callO 142 [r0, r1]) pushW, .p (o2 (binG (cmpB .geq geI)) l0 (ctK (.int .i64 (Int.ofNat 0)))) pushW, .p (o1 mvG l0) w4])
 .ret)) }
theorem kf123_ok : (compFn Tryz.prog Tryz.f123 []).bind (toKFn [5, 6, 7, 8] 2) = some kf123 := by kernel_rfl
noncomputable def kf142 : KFn := { params := [w0, w1], res := [(.s r4)], body :=
 (.seq
 (.reg [.p (o1 mvG (ctK (.int .i64 (Int.ofNat 0)))) w4])
 (.seq
 (.seq
 (.reg [.p (o1 lenLG r0) w7, .p (o1 mvG (ctK (.int .i64 (Int.ofNat 0)))) w8])
 (.block 0
 (.loop
 (.seq
 (.reg [.p (o2 (binG (cmpB .lss ltI)) r8 r7) w9])
 (.seq
 (.cond r9
 .skip
 (.exit 0))
 (.seq
 (.block 1
 (.seq
 (.reg [.p (o1 mvG r8) w5])
 (.seq
 (.reg [.p (o2 (iaddrG 1) r0 r5) pushW, .p (o1 load1G l0) pushW, .p (o2 (eqG (slowEq (.one .b)) false) r1 l0) w16])
 (.cond r16
 (.seq
 (.reg [.p (o1 mvG r5) w4])
 .ret)
 .skip))))
 (.reg [.p (o2 (binG addB) r8 (ctK (.int .i64 (Int.ofNat 1)))) pushW, .p (o1 mvG l0) w8])))))))
 (.seq
 (.reg [.p (o1 mvG (ctK (.int .i64 (Int.negSucc 0)))) w4])
 .ret))) }
theorem kf142_ok : (compFn Tryz.prog Tryz.f142 [[], [0, 1, 7, 8], [0, 1, 7, 8], [0, 1, 7, 8]]).bind (toKFn [6, 10, 11, 12, 13, 14, 15, 17, 18] 2) = some kf142 := by kernel_rfl
noncomputable def kf95 : KFn := { params := [w0, w1, w2, w3], res := [(.s r8)], body :=
 (.seq
 (.reg [.p (o1 boxG r1) w5, .p (o1 boxG r2) w6, .p (o1 mvG (ctK (.int .i64 (Int.ofNat 0)))) w8])
 (.seq
 (.seq
 (.reg [.p (o1 (faddrG 4) r6) pushW, .p (o1 load1G l0) pushW, .p (o1 lenLG l0) pushW, .p (o2 (eqG eqIV false) l0 (ctK (.int .i64 (Int.ofNat 0)))) w12])
 (.cond r12
 (.reg [.p (o1 (faddrG 0) r5) pushW, .p (o1 load1G l0) pushW, .p (o1 mvG l0) w3])
 .skip))
 (.seq
 (.seq
 (.drw [.p (o1 nilckG r0) pushW, .p (o1 (faddrG 1) l0) pushW, .p (o1 load1G l0) pushW, .p (o1 (faddrG 3) r6) pushW, .p (o1 load1G l0) pushW, .m (callO 124 [l2, l0]) pushW (some []), .p (o1 notG l0) w22] [])
 (.cond r22
 (.seq
 (.reg [.p (o1 mvG (ctK (.int .i64 (Int.ofNat 15)))) w8])
 .ret)
 .skip))
 (.seq
 (.drw [.p (o1 nilckG r0) pushW, .p (o1 (faddrG 2) l0) pushW, .p (o1 load1G l0) pushW, .p (o1 (faddrG 3) r6) pushW, .p (o1 load1G l0) pushW, .p (buildO [(.str 0 0), (.int .i64 (Int.ofNat 0))] [(0, 1, l0), (1, 1, r3)]) pushW, .p (bslO 2 1 [(.str 0 0), (.int .i64 (Int.ofNat 0))] [(0, 2, l0)]) pushW, .p (o2 (appG 2) l4 l0) pushW, .p (o1 nilckG r0) pushW, .p (o1 (faddrG 2) l0) pushW, .p (o2 (storeG 1) l0 l2) noW] [])
 (.seq
 (.reg [.p (o1 mvG (ctK (.int .i64 (Int.ofNat 0)))) w8])
 .ret))))) }
theorem kf95_ok : (compFn Tryz.prog Tryz.f95 [[0, 3, 6], [0, 3, 6]]).bind (toKFn [9, 10, 11, 13, 14, 15, 16, 17, 18, 19, 20, 21, 23, 24, 25, 26, 27, 28, 29, 30, 31, 32, 33, 34, 35] 4) = some kf95 := by kernel_rfl
noncomputable def kf124 : KFn := { params := [w0, w1], res := [(.s r4)], body :=
 (.seq
 (.reg [.p (o1 mvG (ctK (.bool false))) w4])
 (.seq
 (.reg [.p (callO 122 [r0, r1]) pushW, .p (o2 (binG (cmpB .geq geI)) l0 (ctK (.int .i64 (Int.ofNat 0)))) pushW, .p (o1 mvG l0) w4])
 .ret)) }
theorem kf124_ok : (compFn Tryz.prog Tryz.f124 []).bind (toKFn [5, 6, 7, 8] 2) = some kf124 := by kernel_rfl
noncomputable def kf68 : KFn := { params := [w0, w1, w2], res := [(.cn r6 3)], body :=
 (.seq
 (.reg [.p (o1 boxG r0) w3, .p (allocO [(.int .i64 (Int.ofNat 0)), .snil, .snil]) w6])
 (.seq
 (.reg [.p (o1 (faddrG 1) r3) pushW, .p (o1 load1G l0) pushW, .p (o1 lenLG l0) pushW, .p (o2 (binG addB) l0 (ctK (.int .i64 (Int.ofNat 1)))) pushW, .p (o2 (mkslG 2 [(.str 0 0), (.int .i64 (Int.ofNat 0))]) l0 l0) pushW, .p (o1 mvG l0) w7])
 (.seq
 (.reg [.p (o1 (faddrG 1) r3) pushW, .p (o1 load1G l0) pushW, .p (o2 (copyG 2) r7 l0) pushW, .p (buildO [(.str 0 0), (.int .i64 (Int.ofNat 0))] [(0, 1, r1), (1, 1, r2)]) pushW, .p (o2 (iaddrG 2) r7 l1) pushW, .p (o2 (storeG 2) l0 l1) noW])
 (.seq
 (.reg [.p (o1 (faddrG 1) r3) pushW, .p (o2 (storeG 1) l0 r7) noW])
 (.seq
 (.reg [.p (o1 (loadnG 3) r3) pushW, .p (o2 (storeG 3) r6 l0) noW])
 .ret))))) }
theorem kf68_ok : (compFn Tryz.prog Tryz.f68 []).bind (toKFn [8, 9, 10, 11, 12, 13, 14, 15, 16, 17, 18, 19, 20, 21, 22, 23, 24] 3) = some kf68 := by kernel_rfl

theorem within5_calls (a n : Int) (w : World) (h0 : 0 < n) (h1 : n < 1000000) : Calls Tryz.prog 5 #[.int .i64 a, .int .i64 n] w fun e w' => e = .returned (.int .i64 (a % n)) ∧ Below w.heap.size w w' := by
  have hn : ¬n = 0 := by omega
  go_enter Tryz.func5, Tryz.ntmps5
  go_wp2
  all_goals go_ret
  all_goals refine ⟨?_, Below.refl _ _⟩
  all_goals have hb1 := Int.emod_nonneg a hn
  all_goals have hb2 := Int.emod_lt_of_pos a h0
  all_goals have hw : wrap64 (a % n) = a % n := by unfold wrap64; omega
  all_goals rename_i hc
  all_goals rcases tmod_cases a h0 with ⟨h3, h4⟩ | ⟨h3, h4⟩
  · exact absurd hc (by omega)
  · show Ending.returned (.int .i64 (wrap64 (a.tmod n + n))) = _
    rw [h4, hw]
  · show Ending.returned (.int .i64 (a.tmod n)) = _
    rw [h4]
  · exact absurd hc (by omega)
theorem mixed : Tryz.prog.follows .mixedOrders = true := by kernel_rfl
noncomputable def tabA : BT :=
  (.node 19 (.node 9 (.node 4 (.leaf 4 (compE 100000 Tryz.prog Tryz.f4 [] kf4))
  (.leaf 9 (compE 100000 Tryz.prog Tryz.f9 [[0, 3], [3, 7]] kf9)))
  (.node 18 (.leaf 18 (compE 100000 Tryz.prog Tryz.f18 [[0]] kf18))
  (.leaf 19 (compE 100000 Tryz.prog Tryz.f19 [[1, 4, 6], [1, 4, 6, 17], [1, 4, 6, 17, 18]] kf19))))
  (.node 40 (.node 20 (.leaf 20 itoaE)
  (.leaf 40 (compE 100000 Tryz.prog Tryz.f40 [[]] kf40)))
  (.node 41 (.leaf 41 (compE 100000 Tryz.prog Tryz.f41 [[]] kf41))
  (.leaf 42 (compE 100000 Tryz.prog Tryz.f42 [[]] kf42)))))
theorem tabA_K : tabA.all fun _ e => BodyKOK e.k e.b := ⟨⟨⟨compE_K kf4_ok, compE_K kf9_ok⟩, ⟨compE_K kf18_ok, compE_K kf19_ok⟩⟩, ⟨⟨itoaE_K, compE_K kf40_ok⟩, ⟨compE_K kf41_ok, compE_K kf42_ok⟩⟩⟩
theorem tabA_B {ρ : Nat → Value} {W : World} (hρ : ∀ i, (ρ i).oneCell' = true) (hm : hasM 1 W) : tabA.all fun i e => BodyOK Tryz.prog ρ ⟨W.heap.size, W⟩ i e.b :=
  have hh : HypOK ρ [] := hyp_nil ρ
  ⟨⟨⟨compE_B kf4_ok Tryz.func4 (by decide) hρ mixed, compE_B kf9_ok Tryz.func9 (by decide) hρ mixed⟩, ⟨compE_B kf18_ok Tryz.func18 (by decide) hρ mixed, compE_B kf19_ok Tryz.func19 (by decide) hρ mixed⟩⟩, ⟨⟨itoaE_B Tryz.func20 (by kernel_rfl) (by decide) fun i hi w => Tryz.strconv_Itoa_small i hi w, compE_B kf40_ok Tryz.func40 (by decide) hρ mixed⟩, ⟨compE_B kf41_ok Tryz.func41 (by decide) hρ mixed, compE_B kf42_ok Tryz.func42 (by decide) hρ mixed⟩⟩⟩
theorem known_check : check tabA 1000 4 [] = true := by kernel_rfl
theorem known_calls (w : World) (hm : hasM 1 w) : Calls Tryz.prog 4 #[] w fun e w' => e = .returned (.bool true) ∧ Below w.heap.size w w' :=
  check_call (ρ := fun _ => .bool false) tabA_K (tabA_B (fun _ => rfl) hm) known_check (xs := []) rfl
noncomputable def tab (hyp : List (Nat × Nat × Nat)) : BT :=
  (.node 71 (.node 35 (.node 18 (.node 10 (.node 6 (.node 4 (.node 3 (.leaf 3 (compE 100000 Tryz.prog Tryz.f3 [[0, 1, 2], [0, 1, 2, 7], [0, 1, 2, 7, 8], [0, 1, 2, 7, 8], [0, 1, 2, 7, 8], [0, 1, 2, 7], [0, 1, 2, 7, 9], [0, 1, 2, 7, 9], [0, 1, 2, 7, 9], [0, 1, 2, 7], [0, 1, 2, 7, 10], [0, 1, 2, 7, 10], [0, 1, 2, 7, 10], [7, 11], [2, 7, 11, 12], [2, 7, 11, 12], [2, 7, 11, 12]] kf3))
  (.leaf 4 (hookE trueG)))
  (.node 5 (.leaf 5 (hookE (withinG hyp)))
  (.leaf 6 (compE 100000 Tryz.prog Tryz.f6 [[0]] kf6))))
  (.node 8 (.node 7 (.leaf 7 (compE 100000 Tryz.prog Tryz.f7 [[0, 5], [0, 7], [0, 5, 7, 8], [0, 5, 7, 8], [0, 5, 7, 8], [0, 5, 7, 8, 9], [7]] kf7))
  (.leaf 8 (compE 100000 Tryz.prog Tryz.f8 [[1, 2, 5, 6], [5, 6, 8, 9, 10], [5, 6, 8, 9, 10, 44, 45, 46], [5, 6, 8, 9, 10, 44, 45, 46], [5, 6, 8, 9, 10, 44, 45, 46], [5, 6, 8, 9, 10, 11, 12, 44, 45, 46], [5, 8], [5, 6, 8, 9, 10, 15, 16], [5, 6, 8, 9, 10, 15, 16], [5, 6, 8, 9, 10, 15, 16], [5, 6, 8, 9, 10, 15, 16, 18], [5, 6, 8, 9, 10, 15, 16, 117, 118, 119], [5, 6, 8, 9, 10, 15, 16, 117, 118, 119], [5, 6, 8, 9, 10, 15, 16, 117, 118, 119]] kf8)))
  (.node 9 (.leaf 9 (compE 100000 Tryz.prog Tryz.f9 [[0, 3], [3, 7]] kf9))
  (.leaf 10 (compE 100000 Tryz.prog Tryz.f10 [[0], [0, 4, 6], [0, 4, 5, 6], [0, 4, 5, 6], [0, 4, 5, 6], [0, 4, 5], [0, 4, 5, 7], [4], [4]] kf10)))))
  (.node 14 (.node 12 (.node 11 (.leaf 11 (compE 100000 Tryz.prog Tryz.f11 [[0, 3, 5], [0, 5, 7, 8, 9], [0, 7, 8, 9], [0, 5, 7, 8, 9, 59, 113], [0, 5, 7, 8, 9, 59, 124], [0, 5, 7, 8, 9, 133], [0, 7, 8, 9], [0, 7, 8, 9], [0, 8, 9]] kf11))
  (.leaf 12 (compE 100000 Tryz.prog Tryz.f12 [[]] kf12)))
  (.node 13 (.leaf 13 (compE 100000 Tryz.prog Tryz.f13 [[1], [1, 5], [1, 5, 30, 31, 32], [1, 5, 30, 31, 32], [1, 5, 30, 31, 32], [1, 5, 7, 8, 30, 31, 32], [1, 5, 10], [5], [5, 69, 70, 71], [5, 69, 70, 71], [5, 69, 70, 71], [5, 13, 14, 69, 70, 71], [5, 13, 14, 69, 70, 71, 86, 87, 88], [5, 13, 14, 69, 70, 71, 86, 87, 88], [5, 13, 14, 69, 70, 71, 86, 87, 88], [5, 13, 14, 17, 69, 70, 71, 86, 87, 88]] kf13))
  (.leaf 14 (compE 100000 Tryz.prog Tryz.f14 [[1, 2, 3], [1, 2, 3, 16, 17, 18], [1, 2, 3, 16, 17, 18], [1, 2, 3, 16, 17, 18], [2, 3], [2, 3, 35, 36, 37], [2, 3, 35, 36, 37], [2, 3, 35, 36, 37], [2, 3, 8, 35, 36, 37], [2, 3, 8, 35, 36, 37, 48, 49, 50], [2, 3, 8, 35, 36, 37, 48, 49, 50], [2, 3, 8, 35, 36, 37, 48, 49, 50]] kf14))))
  (.node 16 (.node 15 (.leaf 15 (compE 100000 Tryz.prog Tryz.f15 [[3], [3, 8, 9, 10], [3, 8, 9, 10], [3, 8, 9, 10]] kf15))
  (.leaf 16 (compE 100000 Tryz.prog Tryz.f16 [] kf16)))
  (.node 17 (.leaf 17 (compE 100000 Tryz.prog Tryz.f17 [[11]] kf17))
  (.leaf 18 (compE 100000 Tryz.prog Tryz.f18 [[0]] kf18))))))
  (.node 26 (.node 22 (.node 20 (.node 19 (.leaf 19 (compE 100000 Tryz.prog Tryz.f19 [[1, 4, 6], [1, 4, 6, 17], [1, 4, 6, 17, 18]] kf19))
  (.leaf 20 itoaE))
  (.node 21 (.leaf 21 (compE 100000 Tryz.prog Tryz.f21 [[], [0, 1, 5, 6], [0, 1, 5, 6], [0, 1, 5, 6]] kf21))
  (.leaf 22 (compE 100000 Tryz.prog Tryz.f22 [[0], [4], [0, 4, 5], [0, 4, 5], [0, 4, 5], [0, 4, 6, 7], [4]] kf22))))
  (.node 24 (.node 23 (.leaf 23 (compE 100000 Tryz.prog Tryz.f23 [] kf23))
  (.leaf 24 (compE 100000 Tryz.prog Tryz.f24 [[], [4]] kf24)))
  (.node 25 (.leaf 25 (compE 100000 Tryz.prog Tryz.f25 [[]] kf25))
  (.leaf 26 (compE 100000 Tryz.prog Tryz.f26 [[5], [0, 1, 5], [0, 1, 5]] kf26)))))
  (.node 30 (.node 28 (.node 27 (.leaf 27 (compE 100000 Tryz.prog Tryz.f27 [[0, 4]] kf27))
  (.leaf 28 (compE 100000 Tryz.prog Tryz.f28 [] kf28)))
  (.node 29 (.leaf 29 (compE 100000 Tryz.prog Tryz.f29 [[0]] kf29))
  (.leaf 30 (compE 100000 Tryz.prog Tryz.f30 [[0, 5], [0, 1, 5, 7, 14], [0, 1, 5, 7, 22], [0, 5], []] kf30))))
  (.node 32 (.node 31 (.leaf 31 (compE 100000 Tryz.prog Tryz.f31 [[0, 3], []] kf31))
  (.leaf 32 (compE 100000 Tryz.prog Tryz.f32 [[], [0, 3], [0, 3], [0, 3]] kf32)))
  (.node 33 (.leaf 33 (compE 100000 Tryz.prog Tryz.f33 [[1], [1], [1, 4], [1, 4, 33, 34, 35], [1, 4, 33, 34, 35], [1, 4, 33, 34, 35], [1, 4], [1, 4], [1, 4], [1, 4, 62, 63, 64], [1, 4, 62, 63, 64], [1, 4, 62, 63, 64], []] kf33))
  (.node 34 (.leaf 34 (compE 100000 Tryz.prog Tryz.f34 [] kf34))
  (.leaf 35 (compE 100000 Tryz.prog Tryz.f35 [[0]] kf35))))))))
  (.node 53 (.node 44 (.node 39 (.node 37 (.node 36 (.leaf 36 (compE 100000 Tryz.prog Tryz.f36 [[1, 2], [1, 2, 14, 15, 16], [1, 2, 14, 15, 16], [1, 2, 14, 15, 16]] kf36))
  (.leaf 37 (compE 100000 Tryz.prog Tryz.f37 [[0]] kf37)))
  (.node 38 (.leaf 38 (compE 100000 Tryz.prog Tryz.f38 [[3], [3, 10, 11, 12], [3, 10, 11, 12], [3, 10, 11, 12], [3, 4, 5, 10, 11, 12], [3, 4, 5, 10, 11, 12, 34, 35, 36], [3, 4, 5, 10, 11, 12, 34, 35, 36], [3, 4, 5, 10, 11, 12, 34, 35, 36]] kf38))
  (.leaf 39 (compE 100000 Tryz.prog Tryz.f39 [[], [0, 4, 12, 13, 14], [0, 4, 12, 13, 14], [0, 4, 12, 13, 14], [0, 4, 8, 9, 10, 12, 13, 14], [0, 4, 8, 9, 10, 11, 12, 13, 14], [0, 4, 8, 9, 11, 12, 13, 14], [10]] kf39))))
  (.node 41 (.node 40 (.leaf 40 (compE 100000 Tryz.prog Tryz.f40 [[]] kf40))
  (.leaf 41 (compE 100000 Tryz.prog Tryz.f41 [[]] kf41)))
  (.node 42 (.leaf 42 (compE 100000 Tryz.prog Tryz.f42 [[]] kf42))
  (.leaf 44 (compE 100000 Tryz.prog Tryz.f44 [] kf44)))))
  (.node 48 (.node 46 (.node 45 (.leaf 45 (compE 100000 Tryz.prog Tryz.f45 [[0, 1, 4], [0, 1, 4, 7], [0, 1, 4, 7], [0, 1, 4, 7], [0, 1, 4, 7], [0, 1, 4, 7], [0, 1, 4, 7], [0, 1, 4, 7], [1, 4, 10, 11], [1, 4, 10, 11], [0, 1, 4], [4], [0, 1, 4, 12, 13], [0, 1, 4, 12, 13], [0, 1, 4, 12, 13]] kf45))
  (.leaf 46 (compE 100000 Tryz.prog Tryz.f46 [[0, 1, 4], [4, 5], [0, 1, 4, 5], [0, 1, 4, 5], [0, 1, 4, 5]] kf46)))
  (.node 47 (.leaf 47 (compE 100000 Tryz.prog Tryz.f47 [] kf47))
  (.leaf 48 (compE 100000 Tryz.prog Tryz.f48 [[0, 1, 3, 4, 7], [0, 1, 3, 4, 7]] kf48))))
  (.node 50 (.node 49 (.leaf 49 (compE 100000 Tryz.prog Tryz.f49 [[0, 1, 2], [1, 2, 7], [2, 7]] kf49))
  (.leaf 50 (compE 100000 Tryz.prog Tryz.f50 [[0], []] kf50)))
  (.node 51 (.leaf 51 (compE 100000 Tryz.prog Tryz.f51 [[0, 1], [0, 1], [0, 1], [0, 1, 5], [0, 1, 5], [0, 1, 5], [0, 1]] kf51))
  (.node 52 (.leaf 52 (compE 100000 Tryz.prog Tryz.f52 [[0], [], [0, 3], [0, 3], [0, 3]] kf52))
  (.leaf 53 (compE 100000 Tryz.prog Tryz.f53 [[], [0, 5, 6, 7], [0, 5, 6, 7], [0, 5, 6, 7]] kf53)))))))
  (.node 61 (.node 57 (.node 55 (.node 54 (.leaf 54 (compE 100000 Tryz.prog Tryz.f54 [[3], [3, 8, 9, 10], [3, 8, 9, 10], [3, 8, 9, 10]] kf54))
  (.leaf 55 (compE 100000 Tryz.prog Tryz.f55 [[0, 2, 4], [0, 2, 4], [], [0, 2, 98, 99, 100], [0, 2, 98, 99, 100], [0, 2, 98, 99, 100]] kf55)))
  (.node 56 (.leaf 56 (compE 100000 Tryz.prog Tryz.f56 [[], [0, 1, 8, 9, 10], [0, 1, 8, 9, 10], [0, 1, 8, 9, 10], [0, 1, 6, 8, 9, 10]] kf56))
  (.leaf 57 (compE 100000 Tryz.prog Tryz.f57 [[2, 3, 5], [2, 3, 5, 16, 17, 18], [2, 3, 5, 16, 17, 18], [2, 3, 5, 16, 17, 18], [2, 3], [3, 8], [2, 3, 8, 38, 39], [2, 3, 8, 38, 39], [2, 3, 8, 38, 39], [2, 3, 8, 38, 39, 42, 43, 44], [2, 3, 8, 38, 39, 42, 43, 44], [2, 3, 8, 38, 39, 42, 43, 44]] kf57))))
  (.node 59 (.node 58 (.leaf 58 (compE 100000 Tryz.prog Tryz.f58 [] kf58))
  (.leaf 59 (compE 100000 Tryz.prog Tryz.f59 [[1, 3], [1, 3, 9, 10, 11], [1, 3, 9, 10, 11], [1, 3, 9, 10, 11], [3], [3, 27, 28, 29], [3, 27, 28, 29], [3, 27, 28, 29]] kf59)))
  (.node 60 (.leaf 60 (compE 100000 Tryz.prog Tryz.f60 [[0, 3], [0, 3, 5], [0, 3, 5, 23], [0, 3, 5, 23]] kf60))
  (.leaf 61 (compE 100000 Tryz.prog Tryz.f61 [[0, 2, 4], [0, 8], [0, 2, 8, 42, 43, 44], [0, 2, 8, 42, 43, 44], [0, 2, 8, 42, 43, 44], [0, 2, 8, 11, 42, 43, 44]] kf61)))))
  (.node 65 (.node 63 (.node 62 (.leaf 62 (compE 100000 Tryz.prog Tryz.f62 [[0]] kf62))
  (.leaf 63 (compE 100000 Tryz.prog Tryz.f63 [[0]] kf63)))
  (.node 64 (.leaf 64 (compE 100000 Tryz.prog Tryz.f64 [[3], [3, 10, 11, 12], [3, 10, 11, 12], [3, 10, 11, 12], [3, 4, 10, 11, 12, 28, 29, 30], [3, 4, 10, 11, 12, 28, 29, 30], [3, 4, 10, 11, 12, 28, 29, 30]] kf64))
  (.leaf 65 (compE 100000 Tryz.prog Tryz.f65 [[0]] kf65))))
  (.node 67 (.node 66 (.leaf 66 (compE 100000 Tryz.prog Tryz.f66 [[8], [0, 4, 8, 13, 14, 15], [0, 4, 8, 13, 14, 15], [0, 4, 8, 13, 14, 15], [0, 4, 11, 12, 13, 14, 15], [0, 4, 11, 13, 14, 15], [8]] kf66))
  (.leaf 67 (compE 100000 Tryz.prog Tryz.f67 [[], [0, 3, 5, 6], [0, 5, 6, 9]] kf67)))
  (.node 68 (.leaf 68 (compE 100000 Tryz.prog Tryz.f68 [] kf68))
  (.node 70 (.leaf 70 (compE 100000 Tryz.prog Tryz.f70 [] kf70))
  (.leaf 71 (compE 100000 Tryz.prog Tryz.f71 [] kf71)))))))))
  (.node 109 (.node 87 (.node 79 (.node 75 (.node 73 (.node 72 (.leaf 72 (compE 100000 Tryz.prog Tryz.f72 [[0, 4], [0, 4], [0, 5], [0, 4, 5, 6], [0, 4, 5, 6], [0, 4, 5, 6], [5], [5], [5]] kf72))
  (.leaf 73 (compE 100000 Tryz.prog Tryz.f73 [[], [0, 1, 6], [0, 1, 6], [0, 1, 6], [0, 1, 6], [0, 1, 6], [0, 1, 6, 46, 47]] kf73)))
  (.node 74 (.leaf 74 (compE 100000 Tryz.prog Tryz.f74 [[0, 1, 4], [0, 4], [0, 1, 4], [4, 8]] kf74))
  (.leaf 75 (compE 100000 Tryz.prog Tryz.f75 [] kf75))))
  (.node 77 (.node 76 (.leaf 76 (compE 100000 Tryz.prog Tryz.f76 [] kf76))
  (.leaf 77 containsE))
  (.node 78 (.leaf 78 (compE 100000 Tryz.prog Tryz.f78 [[], [1, 4, 5], [1, 9]] kf78))
  (.leaf 79 (compE 100000 Tryz.prog Tryz.f79 [[1], [1], [1, 10, 11, 12], [1, 10, 11, 12], [1, 10, 11, 12], []] kf79)))))
  (.node 83 (.node 81 (.node 80 (.leaf 80 (compE 100000 Tryz.prog Tryz.f80 [] kf80))
  (.leaf 81 (compE 100000 Tryz.prog Tryz.f81 [[], [0, 8, 9, 10], [0, 8, 9, 10], [0, 8, 9, 10]] kf81)))
  (.node 82 (.leaf 82 (compE 100000 Tryz.prog Tryz.f82 [[3, 4, 5], []] kf82))
  (.leaf 83 (compE 100000 Tryz.prog Tryz.f83 [[], [0, 1, 7, 8], [0, 1, 7, 8], [0, 1, 7, 8]] kf83))))
  (.node 85 (.node 84 (.leaf 84 (compE 100000 Tryz.prog Tryz.f84 [[0, 3, 6], [0, 3, 6]] kf84))
  (.leaf 85 (compE 100000 Tryz.prog Tryz.f85 [[0]] kf85)))
  (.node 86 (.leaf 86 (compE 100000 Tryz.prog Tryz.f86 [[0]] kf86))
  (.leaf 87 (compE 100000 Tryz.prog Tryz.f87 [[1, 3, 6, 10], [1, 3, 4, 6, 10, 26, 27, 28], [1, 3, 4, 6, 10, 26, 27, 28], [1, 3, 4, 6, 10, 26, 27, 28], [1, 3, 4, 6, 10, 11, 13, 26, 27, 28]] kf87))))))
  (.node 95 (.node 91 (.node 89 (.node 88 (.leaf 88 (compE 100000 Tryz.prog Tryz.f88 [[1, 3, 5]] kf88))
  (.leaf 89 (compE 100000 Tryz.prog Tryz.f89 [[0, 4, 5]] kf89)))
  (.node 90 (.leaf 90 (hookSE setG))
  (.leaf 91 (compE 100000 Tryz.prog Tryz.f91 [[], [0, 5, 6, 10], [0, 5, 6, 9, 10], [], [0, 5, 6, 10, 19]] kf91))))
  (.node 93 (.node 92 (.leaf 92 (compE 100000 Tryz.prog Tryz.f92 [[0, 4, 8]] kf92))
  (.leaf 93 (compE 100000 Tryz.prog Tryz.f93 [] kf93)))
  (.node 94 (.leaf 94 (compE 100000 Tryz.prog Tryz.f94 [[0, 5, 6, 9], [0, 5, 6, 10], [0, 5, 6, 9, 10, 26, 27, 28], [0, 5, 6, 9, 10, 26, 27, 28], [0, 5, 6, 9, 10, 26, 27, 28], [0, 5, 6, 9, 10, 12, 13, 26, 27, 28], [0, 5, 6]] kf94))
  (.leaf 95 (compE 100000 Tryz.prog Tryz.f95 [[0, 3, 6], [0, 3, 6]] kf95)))))
  (.node 103 (.node 101 (.node 100 (.leaf 100 (compE 100000 Tryz.prog Tryz.f100 [[5], [0, 1, 5], [0, 5]] kf100))
  (.leaf 101 (compE 100000 Tryz.prog Tryz.f101 [] kf101)))
  (.node 102 (.leaf 102 (compE 100000 Tryz.prog Tryz.f102 [] kf102))
  (.leaf 103 (compE 100000 Tryz.prog Tryz.f103 [] kf103))))
  (.node 106 (.node 105 (.leaf 105 (compE 100000 Tryz.prog Tryz.f105 [] kf105))
  (.leaf 106 (compE 100000 Tryz.prog Tryz.f106 [] kf106)))
  (.node 107 (.leaf 107 (compE 100000 Tryz.prog Tryz.f107 [] kf107))
  (.node 108 (.leaf 108 (compE 100000 Tryz.prog Tryz.f108 [[0]] kf108))
  (.leaf 109 (compE 100000 Tryz.prog Tryz.f109 [[0, 1, 2, 8, 9, 11], [0, 1, 2, 8, 9], [0, 1, 2], [9], [0, 2, 9, 49, 50, 51], [0, 2, 9, 49, 50, 51], [0, 2, 9, 49, 50, 51], [1, 16], [0, 1, 16, 73, 74, 75], [0, 1, 16, 73, 74, 75], [0, 1, 16, 73, 74, 75], [0, 1, 16, 21, 73, 74, 75]] kf109))))))))
  (.node 135 (.node 120 (.node 113 (.node 111 (.node 110 (.leaf 110 (compE 100000 Tryz.prog Tryz.f110 [] kf110))
  (.leaf 111 (compE 100000 Tryz.prog Tryz.f111 [[1, 3, 5, 8], [10], [1, 10, 39, 40, 41], [1, 10, 39, 40, 41], [1, 10, 39, 40, 41], [1, 16, 18, 39, 40, 41]] kf111)))
  (.node 112 (.leaf 112 (compE 100000 Tryz.prog Tryz.f112 [[], [0, 1, 13, 14], [0, 1, 13, 14], [0, 1, 13, 14], [0, 1, 13, 14], [0, 1, 13, 14], [0, 6, 13, 14]] kf112))
  (.leaf 113 (compE 100000 Tryz.prog Tryz.f113 [[0, 1, 4]] kf113))))
  (.node 118 (.node 117 (.leaf 117 (compE 100000 Tryz.prog Tryz.f117 [[1, 2], [4, 7]] kf117))
  (.leaf 118 (compE 100000 Tryz.prog Tryz.f118 [] kf118)))
  (.node 119 (.leaf 119 (compE 100000 Tryz.prog Tryz.f119 [[0, 1, 5], [0, 5], [0, 1, 5, 6], [0, 1, 5, 6], [0, 1, 5, 6]] kf119))
  (.leaf 120 (compE 100000 Tryz.prog Tryz.f120 [[0]] kf120)))))
  (.node 124 (.node 122 (.node 121 (.leaf 121 (compE 100000 Tryz.prog Tryz.f121 [] kf121))
  (.leaf 122 (compE 100000 Tryz.prog Tryz.f122 [[], [0, 1, 7, 8], [0, 1, 7, 8], [0, 1, 7, 8]] kf122)))
  (.node 123 (.leaf 123 (compE 100000 Tryz.prog Tryz.f123 [] kf123))
  (.leaf 124 (compE 100000 Tryz.prog Tryz.f124 [] kf124))))
  (.node 131 (.node 130 (.leaf 130 (compE 100000 Tryz.prog Tryz.f130 [[0], [0, 1, 7], [0, 1, 7, 8]] kf130))
  (.leaf 131 (compE 100000 Tryz.prog Tryz.f131 [] kf131)))
  (.node 132 (.leaf 132 (compE 100000 Tryz.prog Tryz.f132 [] kf132))
  (.node 134 (.leaf 134 (compE 100000 Tryz.prog Tryz.f134 [[7]] kf134))
  (.leaf 135 (compE 100000 Tryz.prog Tryz.f135 [[], [], [], [3], [3, 4], [13]] kf135)))))))
  (.node 150 (.node 139 (.node 137 (.node 136 (.leaf 136 (compE 100000 Tryz.prog Tryz.f136 [[0, 1, 2]] kf136))
  (.leaf 137 (compE 100000 Tryz.prog Tryz.f137 [[2], [2, 6, 12, 38], [2, 6, 12, 76]] kf137)))
  (.node 138 (.leaf 138 (hookSE placeG))
  (.leaf 139 (compE 100000 Tryz.prog Tryz.f139 [[1, 2, 3, 8, 9], [8, 9], [1, 2, 8, 9, 23, 24, 25], [1, 2, 8, 9, 23, 24, 25], [1, 2, 8, 9, 23, 24, 25]] kf139))))
  (.node 142 (.node 141 (.leaf 141 (compE 100000 Tryz.prog Tryz.f141 [[], [0, 1, 7, 8], [0, 1, 7, 8], [0, 1, 7, 8]] kf141))
  (.leaf 142 (compE 100000 Tryz.prog Tryz.f142 [[], [0, 1, 7, 8], [0, 1, 7, 8], [0, 1, 7, 8]] kf142)))
  (.node 149 (.leaf 149 (compE 100000 Tryz.prog Tryz.f149 [] kf149))
  (.leaf 150 (compE 100000 Tryz.prog Tryz.f150 [[0, 1, 2, 7]] kf150)))))
  (.node 154 (.node 152 (.node 151 (.leaf 151 (compE 100000 Tryz.prog Tryz.f151 [[1, 3]] kf151))
  (.leaf 152 (compE 100000 Tryz.prog Tryz.f152 [[], [2, 7, 8, 9], [2, 7, 8, 9], [2, 7, 8, 9]] kf152)))
  (.node 153 (.leaf 153 (compE 100000 Tryz.prog Tryz.f153 [[2]] kf153))
  (.leaf 154 (compE 100000 Tryz.prog Tryz.f154 [[1, 4], [1, 4]] kf154))))
  (.node 158 (.node 155 (.leaf 155 (compE 100000 Tryz.prog Tryz.f155 [[0, 1], [], [0, 1, 12, 13], [0, 1, 12, 13], [0, 1, 12, 13]] kf155))
  (.leaf 158 (compE 100000 Tryz.prog Tryz.f158 [[0, 1, 2], [0, 9, 11]] kf158)))
  (.node 159 (.leaf 159 (compE 100000 Tryz.prog Tryz.f159 [] kf159))
  (.node 160 (.leaf 160 (compE 100000 Tryz.prog Tryz.f160 [[], [0, 3, 5, 6, 15, 16, 17], [0, 3, 5, 6, 15, 16, 17], [0, 3, 5, 6, 15, 16, 17], [0, 3, 5, 6, 9, 11, 15, 16, 17], [0, 3, 5, 6, 12, 13, 15, 16, 17]] kf160))
  (.leaf 161 (compE 100000 Tryz.prog Tryz.f161 [[], [0, 4, 5, 10, 11], [0, 4, 5, 10, 11], [0, 4, 5, 10, 11]] kf161))))))))))
theorem tab_K (hyp : List (Nat × Nat × Nat)) : (tab hyp).all fun _ e => BodyKOK e.k e.b := ⟨⟨⟨⟨⟨⟨⟨compE_K kf3_ok, hookE_K _⟩, ⟨hookE_K _, compE_K kf6_ok⟩⟩, ⟨⟨compE_K kf7_ok, compE_K kf8_ok⟩, ⟨compE_K kf9_ok, compE_K kf10_ok⟩⟩⟩, ⟨⟨⟨compE_K kf11_ok, compE_K kf12_ok⟩, ⟨compE_K kf13_ok, compE_K kf14_ok⟩⟩, ⟨⟨compE_K kf15_ok, compE_K kf16_ok⟩, ⟨compE_K kf17_ok, compE_K kf18_ok⟩⟩⟩⟩, ⟨⟨⟨⟨compE_K kf19_ok, itoaE_K⟩, ⟨compE_K kf21_ok, compE_K kf22_ok⟩⟩, ⟨⟨compE_K kf23_ok, compE_K kf24_ok⟩, ⟨compE_K kf25_ok, compE_K kf26_ok⟩⟩⟩, ⟨⟨⟨compE_K kf27_ok, compE_K kf28_ok⟩, ⟨compE_K kf29_ok, compE_K kf30_ok⟩⟩, ⟨⟨compE_K kf31_ok, compE_K kf32_ok⟩, ⟨compE_K kf33_ok, ⟨compE_K kf34_ok, compE_K kf35_ok⟩⟩⟩⟩⟩⟩, ⟨⟨⟨⟨⟨compE_K kf36_ok, compE_K kf37_ok⟩, ⟨compE_K kf38_ok, compE_K kf39_ok⟩⟩, ⟨⟨compE_K kf40_ok, compE_K kf41_ok⟩, ⟨compE_K kf42_ok, compE_K kf44_ok⟩⟩⟩, ⟨⟨⟨compE_K kf45_ok, compE_K kf46_ok⟩, ⟨compE_K kf47_ok, compE_K kf48_ok⟩⟩, ⟨⟨compE_K kf49_ok, compE_K kf50_ok⟩, ⟨compE_K kf51_ok, ⟨compE_K kf52_ok, compE_K kf53_ok⟩⟩⟩⟩⟩, ⟨⟨⟨⟨compE_K kf54_ok, compE_K kf55_ok⟩, ⟨compE_K kf56_ok, compE_K kf57_ok⟩⟩, ⟨⟨compE_K kf58_ok, compE_K kf59_ok⟩, ⟨compE_K kf60_ok, compE_K kf61_ok⟩⟩⟩, ⟨⟨⟨compE_K kf62_ok, compE_K kf63_ok⟩, ⟨compE_K kf64_ok, compE_K kf65_ok⟩⟩, ⟨⟨compE_K kf66_ok, compE_K kf67_ok⟩, ⟨compE_K kf68_ok, ⟨compE_K kf70_ok, compE_K kf71_ok⟩⟩⟩⟩⟩⟩⟩, ⟨⟨⟨⟨⟨⟨compE_K kf72_ok, compE_K kf73_ok⟩, ⟨compE_K kf74_ok, compE_K kf75_ok⟩⟩, ⟨⟨compE_K kf76_ok, containsE_K⟩, ⟨compE_K kf78_ok, compE_K kf79_ok⟩⟩⟩, ⟨⟨⟨compE_K kf80_ok, compE_K kf81_ok⟩, ⟨compE_K kf82_ok, compE_K kf83_ok⟩⟩, ⟨⟨compE_K kf84_ok, compE_K kf85_ok⟩, ⟨compE_K kf86_ok, compE_K kf87_ok⟩⟩⟩⟩, ⟨⟨⟨⟨compE_K kf88_ok, compE_K kf89_ok⟩, ⟨hookSE_K _, compE_K kf91_ok⟩⟩, ⟨⟨compE_K kf92_ok, compE_K kf93_ok⟩, ⟨compE_K kf94_ok, compE_K kf95_ok⟩⟩⟩, ⟨⟨⟨compE_K kf100_ok, compE_K kf101_ok⟩, ⟨compE_K kf102_ok, compE_K kf103_ok⟩⟩, ⟨⟨compE_K kf105_ok, compE_K kf106_ok⟩, ⟨compE_K kf107_ok, ⟨compE_K kf108_ok, compE_K kf109_ok⟩⟩⟩⟩⟩⟩, ⟨⟨⟨⟨⟨compE_K kf110_ok, compE_K kf111_ok⟩, ⟨compE_K kf112_ok, compE_K kf113_ok⟩⟩, ⟨⟨compE_K kf117_ok, compE_K kf118_ok⟩, ⟨compE_K kf119_ok, compE_K kf120_ok⟩⟩⟩, ⟨⟨⟨compE_K kf121_ok, compE_K kf122_ok⟩, ⟨compE_K kf123_ok, compE_K kf124_ok⟩⟩, ⟨⟨compE_K kf130_ok, compE_K kf131_ok⟩, ⟨compE_K kf132_ok, ⟨compE_K kf134_ok, compE_K kf135_ok⟩⟩⟩⟩⟩, ⟨⟨⟨⟨compE_K kf136_ok, compE_K kf137_ok⟩, ⟨hookSE_K _, compE_K kf139_ok⟩⟩, ⟨⟨compE_K kf141_ok, compE_K kf142_ok⟩, ⟨compE_K kf149_ok, compE_K kf150_ok⟩⟩⟩, ⟨⟨⟨compE_K kf151_ok, compE_K kf152_ok⟩, ⟨compE_K kf153_ok, compE_K kf154_ok⟩⟩, ⟨⟨compE_K kf155_ok, compE_K kf158_ok⟩, ⟨compE_K kf159_ok, ⟨compE_K kf160_ok, compE_K kf161_ok⟩⟩⟩⟩⟩⟩⟩⟩
theorem tab_B {ρ : Nat → Value} {W : World} {hyp : List (Nat × Nat × Nat)} (hρ : ∀ i, (ρ i).oneCell' = true) (hm : hasM 1 W) (hh : HypOK ρ hyp) : (tab hyp).all fun i e => BodyOK Tryz.prog ρ ⟨W.heap.size, W⟩ i e.b :=
  ⟨⟨⟨⟨⟨⟨⟨compE_B kf3_ok Tryz.func3 (by decide) hρ mixed, trueE_B Tryz.func4 (by kernel_rfl) (by decide) hm known_calls⟩, ⟨withinE_B Tryz.func5 (by kernel_rfl) (by decide) hh within5_calls, compE_B kf6_ok Tryz.func6 (by decide) hρ mixed⟩⟩, ⟨⟨compE_B kf7_ok Tryz.func7 (by decide) hρ mixed, compE_B kf8_ok Tryz.func8 (by decide) hρ mixed⟩, ⟨compE_B kf9_ok Tryz.func9 (by decide) hρ mixed, compE_B kf10_ok Tryz.func10 (by decide) hρ mixed⟩⟩⟩, ⟨⟨⟨compE_B kf11_ok Tryz.func11 (by decide) hρ mixed, compE_B kf12_ok Tryz.func12 (by decide) hρ mixed⟩, ⟨compE_B kf13_ok Tryz.func13 (by decide) hρ mixed, compE_B kf14_ok Tryz.func14 (by decide) hρ mixed⟩⟩, ⟨⟨compE_B kf15_ok Tryz.func15 (by decide) hρ mixed, compE_B kf16_ok Tryz.func16 (by decide) hρ mixed⟩, ⟨compE_B kf17_ok Tryz.func17 (by decide) hρ mixed, compE_B kf18_ok Tryz.func18 (by decide) hρ mixed⟩⟩⟩⟩, ⟨⟨⟨⟨compE_B kf19_ok Tryz.func19 (by decide) hρ mixed, itoaE_B Tryz.func20 (by kernel_rfl) (by decide) fun i hi w => Tryz.strconv_Itoa_small i hi w⟩, ⟨compE_B kf21_ok Tryz.func21 (by decide) hρ mixed, compE_B kf22_ok Tryz.func22 (by decide) hρ mixed⟩⟩, ⟨⟨compE_B kf23_ok Tryz.func23 (by decide) hρ mixed, compE_B kf24_ok Tryz.func24 (by decide) hρ mixed⟩, ⟨compE_B kf25_ok Tryz.func25 (by decide) hρ mixed, compE_B kf26_ok Tryz.func26 (by decide) hρ mixed⟩⟩⟩, ⟨⟨⟨compE_B kf27_ok Tryz.func27 (by decide) hρ mixed, compE_B kf28_ok Tryz.func28 (by decide) hρ mixed⟩, ⟨compE_B kf29_ok Tryz.func29 (by decide) hρ mixed, compE_B kf30_ok Tryz.func30 (by decide) hρ mixed⟩⟩, ⟨⟨compE_B kf31_ok Tryz.func31 (by decide) hρ mixed, compE_B kf32_ok Tryz.func32 (by decide) hρ mixed⟩, ⟨compE_B kf33_ok Tryz.func33 (by decide) hρ mixed, ⟨compE_B kf34_ok Tryz.func34 (by decide) hρ mixed, compE_B kf35_ok Tryz.func35 (by decide) hρ mixed⟩⟩⟩⟩⟩⟩, ⟨⟨⟨⟨⟨compE_B kf36_ok Tryz.func36 (by decide) hρ mixed, compE_B kf37_ok Tryz.func37 (by decide) hρ mixed⟩, ⟨compE_B kf38_ok Tryz.func38 (by decide) hρ mixed, compE_B kf39_ok Tryz.func39 (by decide) hρ mixed⟩⟩, ⟨⟨compE_B kf40_ok Tryz.func40 (by decide) hρ mixed, compE_B kf41_ok Tryz.func41 (by decide) hρ mixed⟩, ⟨compE_B kf42_ok Tryz.func42 (by decide) hρ mixed, compE_B kf44_ok Tryz.func44 (by decide) hρ mixed⟩⟩⟩, ⟨⟨⟨compE_B kf45_ok Tryz.func45 (by decide) hρ mixed, compE_B kf46_ok Tryz.func46 (by decide) hρ mixed⟩, ⟨compE_B kf47_ok Tryz.func47 (by decide) hρ mixed, compE_B kf48_ok Tryz.func48 (by decide) hρ mixed⟩⟩, ⟨⟨compE_B kf49_ok Tryz.func49 (by decide) hρ mixed, compE_B kf50_ok Tryz.func50 (by decide) hρ mixed⟩, ⟨compE_B kf51_ok Tryz.func51 (by decide) hρ mixed, ⟨compE_B kf52_ok Tryz.func52 (by decide) hρ mixed, compE_B kf53_ok Tryz.func53 (by decide) hρ mixed⟩⟩⟩⟩⟩, ⟨⟨⟨⟨compE_B kf54_ok Tryz.func54 (by decide) hρ mixed, compE_B kf55_ok Tryz.func55 (by decide) hρ mixed⟩, ⟨compE_B kf56_ok Tryz.func56 (by decide) hρ mixed, compE_B kf57_ok Tryz.func57 (by decide) hρ mixed⟩⟩, ⟨⟨compE_B kf58_ok Tryz.func58 (by decide) hρ mixed, compE_B kf59_ok Tryz.func59 (by decide) hρ mixed⟩, ⟨compE_B kf60_ok Tryz.func60 (by decide) hρ mixed, compE_B kf61_ok Tryz.func61 (by decide) hρ mixed⟩⟩⟩, ⟨⟨⟨compE_B kf62_ok Tryz.func62 (by decide) hρ mixed, compE_B kf63_ok Tryz.func63 (by decide) hρ mixed⟩, ⟨compE_B kf64_ok Tryz.func64 (by decide) hρ mixed, compE_B kf65_ok Tryz.func65 (by decide) hρ mixed⟩⟩, ⟨⟨compE_B kf66_ok Tryz.func66 (by decide) hρ mixed, compE_B kf67_ok Tryz.func67 (by decide) hρ mixed⟩, ⟨compE_B kf68_ok Tryz.func68 (by decide) hρ mixed, ⟨compE_B kf70_ok Tryz.func70 (by decide) hρ mixed, compE_B kf71_ok Tryz.func71 (by decide) hρ mixed⟩⟩⟩⟩⟩⟩⟩, ⟨⟨⟨⟨⟨⟨compE_B kf72_ok Tryz.func72 (by decide) hρ mixed, compE_B kf73_ok Tryz.func73 (by decide) hρ mixed⟩, ⟨compE_B kf74_ok Tryz.func74 (by decide) hρ mixed, compE_B kf75_ok Tryz.func75 (by decide) hρ mixed⟩⟩, ⟨⟨compE_B kf76_ok Tryz.func76 (by decide) hρ mixed, containsE_B Tryz.func77 (by kernel_rfl) (by decide) hm fun s sub m w hs hm => Tryz.strings_Contains s sub m w hs hm⟩, ⟨compE_B kf78_ok Tryz.func78 (by decide) hρ mixed, compE_B kf79_ok Tryz.func79 (by decide) hρ mixed⟩⟩⟩, ⟨⟨⟨compE_B kf80_ok Tryz.func80 (by decide) hρ mixed, compE_B kf81_ok Tryz.func81 (by decide) hρ mixed⟩, ⟨compE_B kf82_ok Tryz.func82 (by decide) hρ mixed, compE_B kf83_ok Tryz.func83 (by decide) hρ mixed⟩⟩, ⟨⟨compE_B kf84_ok Tryz.func84 (by decide) hρ mixed, compE_B kf85_ok Tryz.func85 (by decide) hρ mixed⟩, ⟨compE_B kf86_ok Tryz.func86 (by decide) hρ mixed, compE_B kf87_ok Tryz.func87 (by decide) hρ mixed⟩⟩⟩⟩, ⟨⟨⟨⟨compE_B kf88_ok Tryz.func88 (by decide) hρ mixed, compE_B kf89_ok Tryz.func89 (by decide) hρ mixed⟩, ⟨setE_B Tryz.func90 (by kernel_rfl) (by decide) set_does, compE_B kf91_ok Tryz.func91 (by decide) hρ mixed⟩⟩, ⟨⟨compE_B kf92_ok Tryz.func92 (by decide) hρ mixed, compE_B kf93_ok Tryz.func93 (by decide) hρ mixed⟩, ⟨compE_B kf94_ok Tryz.func94 (by decide) hρ mixed, compE_B kf95_ok Tryz.func95 (by decide) hρ mixed⟩⟩⟩, ⟨⟨⟨compE_B kf100_ok Tryz.func100 (by decide) hρ mixed, compE_B kf101_ok Tryz.func101 (by decide) hρ mixed⟩, ⟨compE_B kf102_ok Tryz.func102 (by decide) hρ mixed, compE_B kf103_ok Tryz.func103 (by decide) hρ mixed⟩⟩, ⟨⟨compE_B kf105_ok Tryz.func105 (by decide) hρ mixed, compE_B kf106_ok Tryz.func106 (by decide) hρ mixed⟩, ⟨compE_B kf107_ok Tryz.func107 (by decide) hρ mixed, ⟨compE_B kf108_ok Tryz.func108 (by decide) hρ mixed, compE_B kf109_ok Tryz.func109 (by decide) hρ mixed⟩⟩⟩⟩⟩⟩, ⟨⟨⟨⟨⟨compE_B kf110_ok Tryz.func110 (by decide) hρ mixed, compE_B kf111_ok Tryz.func111 (by decide) hρ mixed⟩, ⟨compE_B kf112_ok Tryz.func112 (by decide) hρ mixed, compE_B kf113_ok Tryz.func113 (by decide) hρ mixed⟩⟩, ⟨⟨compE_B kf117_ok Tryz.func117 (by decide) hρ mixed, compE_B kf118_ok Tryz.func118 (by decide) hρ mixed⟩, ⟨compE_B kf119_ok Tryz.func119 (by decide) hρ mixed, compE_B kf120_ok Tryz.func120 (by decide) hρ mixed⟩⟩⟩, ⟨⟨⟨compE_B kf121_ok Tryz.func121 (by decide) hρ mixed, compE_B kf122_ok Tryz.func122 (by decide) hρ mixed⟩, ⟨compE_B kf123_ok Tryz.func123 (by decide) hρ mixed, compE_B kf124_ok Tryz.func124 (by decide) hρ mixed⟩⟩, ⟨⟨compE_B kf130_ok Tryz.func130 (by decide) hρ mixed, compE_B kf131_ok Tryz.func131 (by decide) hρ mixed⟩, ⟨compE_B kf132_ok Tryz.func132 (by decide) hρ mixed, ⟨compE_B kf134_ok Tryz.func134 (by decide) hρ mixed, compE_B kf135_ok Tryz.func135 (by decide) hρ mixed⟩⟩⟩⟩⟩, ⟨⟨⟨⟨compE_B kf136_ok Tryz.func136 (by decide) hρ mixed, compE_B kf137_ok Tryz.func137 (by decide) hρ mixed⟩, ⟨placeE_B Tryz.func138 (by kernel_rfl) (by decide) place_does, compE_B kf139_ok Tryz.func139 (by decide) hρ mixed⟩⟩, ⟨⟨compE_B kf141_ok Tryz.func141 (by decide) hρ mixed, compE_B kf142_ok Tryz.func142 (by decide) hρ mixed⟩, ⟨compE_B kf149_ok Tryz.func149 (by decide) hρ mixed, compE_B kf150_ok Tryz.func150 (by decide) hρ mixed⟩⟩⟩, ⟨⟨⟨compE_B kf151_ok Tryz.func151 (by decide) hρ mixed, compE_B kf152_ok Tryz.func152 (by decide) hρ mixed⟩, ⟨compE_B kf153_ok Tryz.func153 (by decide) hρ mixed, compE_B kf154_ok Tryz.func154 (by decide) hρ mixed⟩⟩, ⟨⟨compE_B kf155_ok Tryz.func155 (by decide) hρ mixed, compE_B kf158_ok Tryz.func158 (by decide) hρ mixed⟩, ⟨compE_B kf159_ok Tryz.func159 (by decide) hρ mixed, ⟨compE_B kf160_ok Tryz.func160 (by decide) hρ mixed, compE_B kf161_ok Tryz.func161 (by decide) hρ mixed⟩⟩⟩⟩⟩⟩⟩⟩
end Go.Proofs.YtkjnlhppheooeaaGreatDoor
