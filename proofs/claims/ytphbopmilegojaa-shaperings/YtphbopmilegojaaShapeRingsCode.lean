/- The code of the law and of all that it calls, for the evaluator; what stands in for the library's. No condition. -/
import Derived.Test.YtphbopmilegojaaRows
import Derived.Test.YtphbopmilegojaaShelf
import Derived.WalkKit
import Derived.Test.YtphbopmilegojaaEva6
namespace Go.Proofs.Ytphbopmilegojaa
open Eva Go.RowKit
set_option linter.unusedVariables false
noncomputable def kf5 : KFn := { params := [w0, w1, w2], res := [(.s r6)], body :=
 (.seq
 (.reg [.p (o1 mvG (ctK (.bool false))) w6])
 (.seq
 (.seq
 (.reg [.p (callO 12 []) w12, .p (o1 notG r12) w13])
 (.cond r13
 (.seq
 (.reg [.p (o1 mvG (ctK (.bool false))) w6])
 .ret)
 .skip))
 (.seq
 (.reg [.p (o1 mvG r0) w14, .p (callO 19 [r14, (ctK (.int .i64 (Int.ofNat 6)))]) w15, .p (o2 (binG addB) (ctK (.int .i64 (Int.ofNat 1))) r15) w16, .p (o1 mvG r2) w17, .p (callO 19 [r17, (ctK (.int .i64 (Int.ofNat 7)))]) w18, .p (o1 mvG r16) w0, .p (o1 mvG r18) w2])
 (.seq
 (.reg [.p (allocO [(.int .i64 (Int.ofNat 0)), (.str 0 0), .snil, .snil, .snil, .snil]) w7])
 (.seq
 (.seq
 (.reg [.p (o1 mvG (ctK (.int .i64 (Int.ofNat 0)))) w8])
 (.block 0
 (.loop
 (.seq
 (.seq
 (.reg [.p (o1 mvG r8) w19, .p (o1 mvG r0) w20, .p (o2 (binG (cmpB .lss ltI)) r19 r20) w21])
 (.cond r21
 .skip
 (.exit 0)))
 (.seq
 (.block 1
 (.seq
 (.reg [.p (o1 mvG r8) w24, .p (o2 (binG addB) r24 (ctK (.int .i64 (Int.ofNat 1)))) w25, .p (o1 mvG r0) w26, .p (o2 (binG (slowBin .rem)) r25 r26) w27, .p (o2 (binG addB) (ctK (.int .i64 (Int.ofNat 97))) r27) w28, .p (o1 (tointG .u8) r28) w29, .p (bslO 1 1 [(.int .u8 (Int.ofNat 0))] [(0, 1, r29)]) w30, .p (o1 btsG r30) w31, .p (o2 (binG addB) (ctK (.str 1 78)) r31) w32, .p (buildO [(.int .i64 (Int.ofNat 0)), (.str 0 0), .snil, .snil] [(0, 1, (ctK (.int .i64 (Int.ofNat 9)))), (1, 1, r32)]) w33, .p (allocO [(.int .i64 (Int.ofNat 0)), (.str 0 0), .snil, .snil]) w9, .p (o2 (storeG 4) r9 r33) noW])
 (.seq
 (.reg [.p (bslO 1 1 [(.str 0 0)] [(0, 1, (ctK (.str 1 120)))]) w34, .p (o1 (loadnG 4) r9) w35, .p (bslO 4 1 [(.int .i64 (Int.ofNat 0)), (.str 0 0), .snil, .snil] [(0, 4, r35)]) w36, .p (buildO [(.int .i64 (Int.ofNat 0)), (.str 0 0), .snil, .snil] [(0, 1, (ctK (.int .i64 (Int.ofNat 7)))), (2, 1, r34), (3, 1, r36)]) w37, .p (allocO [(.int .i64 (Int.ofNat 0)), (.str 0 0), .snil, .snil]) w10, .p (o2 (storeG 4) r10 r37) noW])
 (.seq
 (.seq
 (.reg [.p (o1 mvG r8) w38, .p (o1 mvG r1) w39, .p (o1 mvG r0) w40, .p (callO 19 [r39, r40]) w41, .p (o2 (eqG eqIV false) r38 r41) w42])
 (.cond r42
 (.seq
 (.reg [.p (o1 mvG r2) w43])
 (.block 2
 (.seq
 (.reg [.p (o2 (eqG eqIV false) r43 (ctK (.int .i64 (Int.ofNat 1)))) w45, .p (o1 mvG r45) w44])
 (.cond r44
 (.reg [.p (o1 (loadnG 4) r9) w46, .p (bslO 4 1 [(.int .i64 (Int.ofNat 0)), (.str 0 0), .snil, .snil] [(0, 4, r46)]) w47, .p (buildO [(.int .i64 (Int.ofNat 0)), (.str 0 0), .snil, .snil] [(0, 1, (ctK (.int .i64 (Int.ofNat 4)))), (3, 1, r47)]) w48, .p (o2 (storeG 4) r10 r48) noW])
 (.seq
 (.reg [.p (o2 (eqG eqIV false) r43 (ctK (.int .i64 (Int.ofNat 2)))) w50, .p (o1 mvG r50) w49])
 (.cond r49
 (.reg [.p (o1 (loadnG 4) r9) w51, .p (bslO 4 1 [(.int .i64 (Int.ofNat 0)), (.str 0 0), .snil, .snil] [(0, 4, r51)]) w52, .p (buildO [(.int .i64 (Int.ofNat 0)), (.str 0 0), .snil, .snil] [(0, 1, (ctK (.int .i64 (Int.ofNat 6)))), (3, 1, r52)]) w53, .p (bslO 4 1 [(.int .i64 (Int.ofNat 0)), (.str 0 0), .snil, .snil] [(0, 4, r53)]) w54, .p (o1 (faddrG 3) r10) w55, .p (o2 (storeG 1) r55 r54) noW])
 (.seq
 (.reg [.p (o2 (eqG eqIV false) r43 (ctK (.int .i64 (Int.ofNat 3)))) w57, .p (o1 mvG r57) w56])
 (.cond r56
 (.reg [.p (bslO 1 2 [(.str 0 0), (.str 0 0)] [(0, 1, (ctK (.str 1 120))), (1, 1, (ctK (.str 1 121)))]) w58, .p (o1 (loadnG 4) r9) w59, .p (buildO [(.int .i64 (Int.ofNat 0)), (.str 0 0), .snil, .snil] [(0, 1, (ctK (.int .i64 (Int.ofNat 2))))]) w60, .p (bslO 4 2 [(.int .i64 (Int.ofNat 0)), (.str 0 0), .snil, .snil, (.int .i64 (Int.ofNat 0)), (.str 0 0), .snil, .snil] [(0, 4, r59), (4, 4, r60)]) w61, .p (buildO [(.int .i64 (Int.ofNat 0)), (.str 0 0), .snil, .snil] [(0, 1, (ctK (.int .i64 (Int.ofNat 8)))), (2, 1, r58), (3, 1, r61)]) w62, .p (o2 (storeG 4) r10 r62) noW])
 (.seq
 (.reg [.p (o2 (eqG eqIV false) r43 (ctK (.int .i64 (Int.ofNat 4)))) w64, .p (o1 mvG r64) w63])
 (.cond r63
 (.reg [.p (bslO 1 1 [(.str 0 0)] [(0, 1, (ctK (.str 1 120)))]) w65, .p (o1 (loadnG 4) r9) w66, .p (bslO 4 1 [(.int .i64 (Int.ofNat 0)), (.str 0 0), .snil, .snil] [(0, 4, r66)]) w67, .p (buildO [(.int .i64 (Int.ofNat 0)), (.str 0 0), .snil, .snil] [(0, 1, (ctK (.int .i64 (Int.ofNat 8)))), (2, 1, r65), (3, 1, r67)]) w68, .p (o2 (storeG 4) r10 r68) noW])
 (.seq
 (.reg [.p (o2 (eqG eqIV false) r43 (ctK (.int .i64 (Int.ofNat 5)))) w70, .p (o1 mvG r70) w69])
 (.cond r69
 (.reg [.p (o1 (loadnG 4) r9) w71, .p (bslO 4 1 [(.int .i64 (Int.ofNat 0)), (.str 0 0), .snil, .snil] [(0, 4, r71)]) w72, .p (buildO [(.int .i64 (Int.ofNat 0)), (.str 0 0), .snil, .snil] [(0, 1, (ctK (.int .i64 (Int.ofNat 5)))), (3, 1, r72)]) w73, .p (o2 (storeG 4) r10 r73) noW])
 (.seq
 (.reg [.p (o2 (eqG eqIV false) r43 (ctK (.int .i64 (Int.ofNat 6)))) w75, .p (o1 mvG r75) w74])
 (.cond r74
 (.reg [.p (o1 (loadnG 4) r9) w76, .p (o2 (storeG 4) r10 r76) noW])
 .skip))))))))))))))
 .skip))
 (.reg [.p (o1 (faddrG 4) r7) w77, .p (o1 load1G r77) w78, .p (o1 mvG r8) w79, .p (o2 (binG addB) (ctK (.int .i64 (Int.ofNat 97))) r79) w80, .p (o1 (tointG .u8) r80) w81, .p (bslO 1 1 [(.int .u8 (Int.ofNat 0))] [(0, 1, r81)]) w82, .p (o1 btsG r82) w83, .p (o2 (binG addB) (ctK (.str 1 78)) r83) w84, .p (o1 (loadnG 4) r10) w85, .p (buildO [(.str 0 0), (.int .i64 (Int.ofNat 0)), (.str 0 0), .snil, .snil] [(0, 1, r84), (1, 4, r85)]) w86, .p (bslO 5 1 [(.str 0 0), (.int .i64 (Int.ofNat 0)), (.str 0 0), .snil, .snil] [(0, 5, r86)]) w87, .p (o2 (appG 5) r78 r87) w88, .p (o1 (faddrG 4) r7) w89, .p (o2 (storeG 1) r89 r88) noW])))))
 (.reg [.p (o1 mvG r8) w22, .p (o2 (binG addB) r22 (ctK (.int .i64 (Int.ofNat 1)))) w23, .p (o1 mvG r23) w8]))))))
 (.seq
 (.reg [.p (buildO [(.int .i64 (Int.ofNat 0)), (.str 0 0), .snil, .snil] [(0, 1, (ctK (.int .i64 (Int.ofNat 9)))), (1, 1, (ctK (.str 2 24910)))]) w90, .p (o1 (faddrG 0) r7) w91, .p (o2 (storeG 4) r91 r90) noW])
 (.seq
 (.reg [.p (o1 mvG (ctK (.int .i64 (Int.ofNat 0)))) w11])
 (.seq
 (.seq
 (.reg [.p (o1 mvG r2) w92, .p (o2 (eqG eqIV false) r92 (ctK (.int .i64 (Int.ofNat 0)))) w93, .p (o1 mvG r93) w94, .g r94 false false none (o1 mvG r2) w95, .g r94 false false none (o2 (eqG eqIV false) r95 (ctK (.int .i64 (Int.ofNat 4)))) w96, .p (o3 pickG r94 (ctK (.bool true)) r96) w97, .p (o1 mvG r97) w98, .g r98 false false none (o1 mvG r2) w99, .g r98 false false none (o2 (eqG eqIV false) r99 (ctK (.int .i64 (Int.ofNat 6)))) w100, .p (o3 pickG r98 (ctK (.bool true)) r100) w101])
 (.cond r101
 (.reg [.p (o1 mvG (ctK (.int .i64 (Int.ofNat 14)))) w11])
 .skip))
 (.seq
 (.reg [.p (o1 (loadnG 6) r7) w102, .p (callO 17 [r102]) w103, .p (o1 mvG r11) w104, .p (o2 (eqG eqIV false) r103 r104) w105, .p (o1 mvG r105) w106, .g r106 true false none (o1 (loadnG 6) r7) w107, .g r106 true false none (o1 (faddrG 0) r7) w108, .g r106 true false none (o1 (loadnG 4) r108) w109, .g r106 true false none (callO 21 [r107, r109]) w110, .g r106 true false none (o1 mvG r11) w111, .g r106 true false none (o2 (eqG eqIV false) r111 (ctK (.int .i64 (Int.ofNat 0)))) w112, .g r106 true false none (o2 (eqG (slowEq (.one .b)) false) r110 r112) w113, .p (o3 pickG r106 r113 (ctK (.bool false))) w114, .p (o1 mvG r114) w6])
 .ret))))))))) }
theorem kf5_ok : (compFn Try.prog Try.f5 [[0, 1, 2], [2, 7], [0, 1, 2, 7, 8], [0, 1, 2, 7, 8], [0, 1, 2, 7, 8], [0, 1, 2, 7, 8, 10], [7, 11]]).bind (toKFn 3) = some kf5 := by kernel_rfl
noncomputable def kf12 : KFn := { params := [], res := [(.s r0)], body :=
 (.seq
 (.reg [.p (o1 mvG (ctK (.bool false))) w0])
 (.seq
 (.reg [.p (buildO [(.int .i64 (Int.ofNat 0)), (.str 0 0), .snil, .snil] [(0, 1, (ctK (.int .i64 (Int.ofNat 9)))), (1, 1, (ctK (.str 1 65)))]) w3, .p (allocO [(.int .i64 (Int.ofNat 0)), (.str 0 0), .snil, .snil]) w1, .p (o2 (storeG 4) r1 r3) noW])
 (.seq
 (.reg [.p (bslO 1 1 [(.str 0 0)] [(0, 1, (ctK (.str 4 1954047342)))]) w4, .p (o1 (loadnG 4) r1) w5, .p (bslO 4 1 [(.int .i64 (Int.ofNat 0)), (.str 0 0), .snil, .snil] [(0, 4, r5)]) w6, .p (buildO [(.int .i64 (Int.ofNat 0)), (.str 0 0), .snil, .snil] [(0, 1, (ctK (.int .i64 (Int.ofNat 6)))), (3, 1, r6)]) w7, .p (bslO 4 1 [(.int .i64 (Int.ofNat 0)), (.str 0 0), .snil, .snil] [(0, 4, r7)]) w8, .p (buildO [(.int .i64 (Int.ofNat 0)), (.str 0 0), .snil, .snil] [(0, 1, (ctK (.int .i64 (Int.ofNat 7)))), (2, 1, r4), (3, 1, r8)]) w9, .p (allocO [(.int .i64 (Int.ofNat 0)), (.str 0 0), .snil, .snil]) w2, .p (o2 (storeG 4) r2 r9) noW])
 (.seq
 (.reg [.p (o1 (loadnG 4) r1) w10, .p (o1 (loadnG 4) r1) w11, .p (buildO [(.str 0 0), (.int .i64 (Int.ofNat 0)), (.str 0 0), .snil, .snil] [(0, 1, (ctK (.str 1 65))), (1, 4, r11)]) w12, .p (bslO 5 1 [(.str 0 0), (.int .i64 (Int.ofNat 0)), (.str 0 0), .snil, .snil] [(0, 5, r12)]) w13, .p (buildO [(.int .i64 (Int.ofNat 0)), (.str 0 0), .snil, .snil, .snil, .snil] [(0, 4, r10), (4, 1, r13)]) w14, .p (callO 17 [r14]) w15, .p (o2 (eqG eqIV false) r15 (ctK (.int .i64 (Int.ofNat 14)))) w16, .p (o1 mvG r16) w17, .g r17 true false none (o1 (loadnG 4) r1) w18, .g r17 true false none (o1 (loadnG 4) r2) w19, .g r17 true false none (buildO [(.str 0 0), (.int .i64 (Int.ofNat 0)), (.str 0 0), .snil, .snil] [(0, 1, (ctK (.str 1 65))), (1, 4, r19)]) w20, .g r17 true false none (bslO 5 1 [(.str 0 0), (.int .i64 (Int.ofNat 0)), (.str 0 0), .snil, .snil] [(0, 5, r20)]) w21, .g r17 true false none (buildO [(.int .i64 (Int.ofNat 0)), (.str 0 0), .snil, .snil, .snil, .snil] [(0, 4, r18), (4, 1, r21)]) w22, .g r17 true false none (callO 17 [r22]) w23, .g r17 true false none (o2 (eqG eqIV false) r23 (ctK (.int .i64 (Int.ofNat 0)))) w24, .p (o3 pickG r17 r24 (ctK (.bool false))) w25, .p (o1 mvG r25) w0])
 .ret)))) }
theorem kf12_ok : (compFn Try.prog Try.f12 []).bind (toKFn 0) = some kf12 := by kernel_rfl
noncomputable def kf17 : KFn := { params := [w0], res := [(.s r2)], body :=
 (.seq
 (.reg [.p (o1 boxG r0) w1, .p (o1 mvG (ctK (.int .i64 (Int.ofNat 0)))) w2])
 (.seq
 (.seq
 (.reg [.p (o1 (faddrG 4) r1) w12, .p (o1 load1G r12) w13, .p (o1 lenLG r13) w14, .p (o2 (binG (cmpB .gtr gtI)) r14 (ctK (.int .i64 (Int.ofNat 12)))) w15, .p (o1 mvG r15) w16, .g r16 false false none (o1 (faddrG 5) r1) w17, .g r16 false false none (o1 load1G r17) w18, .g r16 false false none (o1 lenLG r18) w19, .g r16 false false none (o2 (binG (cmpB .gtr gtI)) r19 (ctK (.int .i64 (Int.ofNat 12)))) w20, .p (o3 pickG r16 (ctK (.bool true)) r20) w21])
 (.cond r21
 (.seq
 (.reg [.p (o1 mvG (ctK (.int .i64 (Int.ofNat 3)))) w2])
 .ret)
 .skip))
 (.seq
 (.seq
 (.reg [.p (o1 (faddrG 4) r1) w22, .p (o1 load1G r22) w23, .p (callO 26 [r23]) w24, .p (o1 mvG r24) w3])
 (.seq
 (.reg [.p (o1 mvG r3) w25, .p (o2 (eqG eqIV true) r25 (ctK (.int .i64 (Int.ofNat 0)))) w26])
 (.cond r26
 (.seq
 (.reg [.p (o1 mvG r3) w27, .p (o1 mvG r27) w2])
 .ret)
 .skip)))
 (.seq
 (.reg [.p (o1 (loadnG 6) r1) w28, .p (callO 27 [r28]) w29, .p (buildO [.mnil, (.int .i64 (Int.ofNat 0))] [(0, 1, r29)]) w30, .p (o1 boxG r30) w31, .p (o1 mvG r31) w4])
 (.seq
 (.seq
 (.reg [.p (o1 (faddrG 4) r1) w32, .p (o1 load1G r32) w33, .p (o1 lenLG r33) w34, .p (o1 mvG (ctK (.int .i64 (Int.ofNat 0)))) w35])
 (.block 0
 (.loop
 (.seq
 (.reg [.p (o2 (binG (cmpB .lss ltI)) r35 r34) w36])
 (.seq
 (.cond r36
 .skip
 (.exit 0))
 (.seq
 (.block 1
 (.seq
 (.reg [.p (o2 (iaddrG 5) r33 r35) w37, .p (o1 (loadnG 5) r37) w38, .p (allocO [(.str 0 0), (.int .i64 (Int.ofNat 0)), (.str 0 0), .snil, .snil]) w6, .p (o2 (storeG 5) r6 r38) noW])
 (.seq
 (.reg [.p (o1 mvG r4) w39, .p (o1 (faddrG 1) r6) w40, .p (o1 (loadnG 4) r40) w41, .p (callO 28 [r39, r41, (ctK (.int .i64 (Int.ofNat 1)))]) w42, .p (o1 mvG r42) w7])
 (.seq
 (.reg [.p (o1 mvG r7) w43, .p (o2 (eqG eqIV true) r43 (ctK (.int .i64 (Int.ofNat 0)))) w44])
 (.cond r44
 (.seq
 (.reg [.p (o1 mvG r7) w45, .p (o1 mvG r45) w2])
 .ret)
 .skip)))))
 (.reg [.p (o2 (binG addB) r35 (ctK (.int .i64 (Int.ofNat 1)))) w46, .p (o1 mvG r46) w35])))))))
 (.seq
 (.seq
 (.reg [.p (o1 mvG r4) w47, .p (o1 (faddrG 0) r1) w48, .p (o1 (loadnG 4) r48) w49, .p (callO 28 [r47, r49, (ctK (.int .i64 (Int.ofNat 1)))]) w50, .p (o1 mvG r50) w8])
 (.seq
 (.reg [.p (o1 mvG r8) w51, .p (o2 (eqG eqIV true) r51 (ctK (.int .i64 (Int.ofNat 0)))) w52])
 (.cond r52
 (.seq
 (.reg [.p (o1 mvG r8) w53, .p (o1 mvG r53) w2])
 .ret)
 .skip)))
 (.seq
 (.seq
 (.reg [.p (o1 mvG r4) w54, .p (o1 (faddrG 5) r1) w55, .p (o1 load1G r55) w56, .p (callO 29 [r54, r56]) w57, .p (o1 mvG r57) w9])
 (.seq
 (.reg [.p (o1 mvG r9) w58, .p (o2 (eqG eqIV true) r58 (ctK (.int .i64 (Int.ofNat 0)))) w59])
 (.cond r59
 (.seq
 (.reg [.p (o1 mvG r9) w60, .p (o1 mvG r60) w2])
 .ret)
 .skip)))
 (.seq
 (.seq
 (.reg [.p (o1 (faddrG 4) r1) w61, .p (o1 load1G r61) w62, .p (o1 lenLG r62) w63, .p (o1 mvG (ctK (.int .i64 (Int.ofNat 0)))) w64])
 (.block 2
 (.loop
 (.seq
 (.reg [.p (o2 (binG (cmpB .lss ltI)) r64 r63) w65])
 (.seq
 (.cond r65
 .skip
 (.exit 2))
 (.seq
 (.block 3
 (.seq
 (.reg [.p (o2 (iaddrG 5) r62 r64) w66, .p (o1 (loadnG 5) r66) w67, .p (allocO [(.str 0 0), (.int .i64 (Int.ofNat 0)), (.str 0 0), .snil, .snil]) w11, .p (o2 (storeG 5) r11 r67) noW])
 (.seq
 (.reg [.p (o1 (loadnG 6) r1) w68, .p (o1 (faddrG 1) r11) w69, .p (o1 (loadnG 4) r69) w70, .p (callO 21 [r68, r70]) w71, .p (o1 notG r71) w72])
 (.cond r72
 (.seq
 (.reg [.p (o1 mvG (ctK (.int .i64 (Int.ofNat 14)))) w2])
 .ret)
 .skip))))
 (.reg [.p (o2 (binG addB) r64 (ctK (.int .i64 (Int.ofNat 1)))) w73, .p (o1 mvG r73) w64])))))))
 (.seq
 (.seq
 (.reg [.p (o1 (loadnG 6) r1) w74, .p (callO 31 [r74]) w75, .p (o1 mvG r4) w76, .p (mkfnO 32 [r76] []) w77, .p (callO 30 [r75, r77]) w78])
 (.cond r78
 (.seq
 (.reg [.p (o1 mvG (ctK (.int .i64 (Int.ofNat 17)))) w2])
 .ret)
 .skip))
 (.seq
 (.reg [.p (o1 mvG (ctK (.int .i64 (Int.ofNat 0)))) w2])
 .ret)))))))))) }
theorem kf17_ok : (compFn Try.prog Try.f17 [[1], [1], [1, 4], [1, 4, 33, 34, 35], [1, 4, 33, 34, 35], [1, 4, 33, 34, 35], [1, 4], [1, 4], [1, 4], [1, 4, 62, 63, 64], [1, 4, 62, 63, 64], [1, 4, 62, 63, 64], []]).bind (toKFn 1) = some kf17 := by kernel_rfl
noncomputable def kf26 : KFn := { params := [w0], res := [(.s r2)], body :=
 (.seq
 (.reg [.p (o1 mvG (ctK (.int .i64 (Int.ofNat 0)))) w2])
 (.seq
 (.seq
 (.reg [.p (o1 mvG r0) w5, .p (o1 lenLG r5) w6, .p (o1 mvG (ctK (.int .i64 (Int.ofNat 0)))) w7])
 (.block 0
 (.loop
 (.seq
 (.reg [.p (o2 (binG (cmpB .lss ltI)) r7 r6) w8])
 (.seq
 (.cond r8
 .skip
 (.exit 0))
 (.seq
 (.block 1
 (.seq
 (.reg [.p (o1 mvG r7) w9, .p (o2 (iaddrG 5) r5 r7) w10, .p (o1 (loadnG 5) r10) w11, .p (allocO [(.str 0 0), (.int .i64 (Int.ofNat 0)), (.str 0 0), .snil, .snil]) w4, .p (o1 mvG r9) w3, .p (o2 (storeG 5) r4 r11) noW])
 (.block 2
 (.seq
 (.reg [.p (o1 (faddrG 0) r4) w13, .p (o1 load1G r13) w14, .p (callO 45 [r14]) w15, .p (o1 notG r15) w16, .p (o1 mvG r16) w17, .g r17 false false none (o1 (faddrG 0) r4) w18, .g r17 false false none (o1 load1G r18) w19, .g r17 false false none (o2 (binG addB) (ctK (.str 1 32)) r19) w20, .g r17 false false none (o2 (binG addB) r20 (ctK (.str 1 32))) w21, .g r17 false false none (callO 46 [(ctK (.str 34 961356317854820710213059487311157994386979551947476703340595819215633401072534048)), r21]) w22, .p (o3 pickG r17 (ctK (.bool true)) r22) w23, .p (o1 mvG r23) w12])
 (.cond r12
 (.seq
 (.reg [.p (o1 mvG (ctK (.int .i64 (Int.ofNat 15)))) w2])
 .ret)
 (.seq
 (.drw [.p (o1 mvG r3) w25, .p (o2 (binG (cmpB .gtr gtI)) r25 (ctK (.int .i64 (Int.ofNat 0)))) w26, .p (o1 mvG r26) w27, .g r27 true false none (o1 mvG r0) w28, .g r27 true false none (o1 mvG r3) w29, .g r27 true false none (o2 (binG subB) r29 (ctK (.int .i64 (Int.ofNat 1)))) w30, .g r27 true false none (o2 (iaddrG 5) r28 r30) w31, .g r27 true false none (o1 (faddrG 0) r31) w32, .g r27 true false none (o1 load1G r32) w33, .g r27 true false none (o1 (faddrG 0) r4) w34, .g r27 true false none (o1 load1G r34) w35, .g r27 true false none (o2 (binG (cmpB .geq geI)) r33 r35) w36, .p (o3 pickG r27 r36 (ctK (.bool false))) w37, .p (o1 mvG r37) w24] [])
 (.cond r24
 (.seq
 (.reg [.p (o1 mvG (ctK (.int .i64 (Int.ofNat 6)))) w2])
 .ret)
 .skip)))))))
 (.reg [.p (o2 (binG addB) r7 (ctK (.int .i64 (Int.ofNat 1)))) w38, .p (o1 mvG r38) w7])))))))
 (.seq
 (.reg [.p (o1 mvG (ctK (.int .i64 (Int.ofNat 0)))) w2])
 .ret))) }
theorem kf26_ok : (compFn Try.prog Try.f26 [[], [0, 5, 6, 7], [0, 5, 6, 7], [0, 5, 6, 7]]).bind (toKFn 1) = some kf26 := by kernel_rfl
noncomputable def kf45 : KFn := { params := [w0], res := [(.s r2)], body :=
 (.seq
 (.reg [.p (o1 mvG (ctK (.bool false))) w2])
 (.seq
 (.reg [.p (o1 mvG r0) w3, .p (o2 (eqG eqSV true) r3 (ctK (.str 0 0))) w4, .p (o1 mvG r4) w5, .g r5 true false none (o1 mvG r0) w6, .g r5 true false none (o1 lenSG r6) w7, .g r5 true false none (o2 (binG (cmpB .leq leI)) r7 (ctK (.int .i64 (Int.ofNat 16)))) w8, .p (o3 pickG r5 r8 (ctK (.bool false))) w9, .p (o1 mvG r9) w10, .g r10 true false none (o1 mvG r0) w11, .g r10 true false none (o2 idxG r11 (ctK (.int .i64 (Int.ofNat 0)))) w12, .g r10 true false none (callO 59 [r12]) w13, .g r10 true false none (o1 notG r13) w14, .p (o3 pickG r10 r14 (ctK (.bool false))) w15, .p (o1 mvG r15) w16, .g r16 true false none (o1 mvG r0) w17, .g r16 true false none (callO 60 [r17]) w18, .g r16 true false none (o1 mvG r0) w19, .g r16 true false none (o1 lenSG r19) w20, .g r16 true false none (o2 (eqG eqIV false) r18 r20) w21, .p (o3 pickG r16 r21 (ctK (.bool false))) w22, .p (o1 mvG r22) w2])
 .ret)) }
theorem kf45_ok : (compFn Try.prog Try.f45 []).bind (toKFn 1) = some kf45 := by kernel_rfl
noncomputable def kf59 : KFn := { params := [w0], res := [(.s r2)], body :=
 (.seq
 (.reg [.p (o1 mvG (ctK (.bool false))) w2])
 (.seq
 (.reg [.p (o1 mvG r0) w3, .p (o2 (binG (cmpB .geq geI)) r3 (ctK (.int .u8 (Int.ofNat 48)))) w4, .p (o1 mvG r4) w5, .g r5 true false none (o1 mvG r0) w6, .g r5 true false none (o2 (binG (cmpB .leq leI)) r6 (ctK (.int .u8 (Int.ofNat 57)))) w7, .p (o3 pickG r5 r7 (ctK (.bool false))) w8, .p (o1 mvG r8) w2])
 .ret)) }
theorem kf59_ok : (compFn Try.prog Try.f59 []).bind (toKFn 1) = some kf59 := by kernel_rfl
noncomputable def kf60 : KFn := { params := [w0], res := [(.s r2)], body :=
 (.seq
 (.reg [.p (o1 mvG (ctK (.int .i64 (Int.ofNat 0)))) w2])
 (.seq
 (.reg [.p (o1 mvG r0) w3, .p (callO 63 [r3, (ctK (.fn 64 [] []))]) w4, .p (o1 mvG r4) w2])
 .ret)) }
theorem kf60_ok : (compFn Try.prog Try.f60 []).bind (toKFn 1) = some kf60 := by kernel_rfl
noncomputable def kf63 : KFn := { params := [w0, w1], res := [(.s r4)], body :=
 (.seq
 (.reg [.p (o1 mvG (ctK (.int .i64 (Int.ofNat 0)))) w4])
 (.seq
 (.seq
 (.reg [.p (o1 mvG r0) w6, .p (o1 rngSG r6) w7])
 (.block 0
 (.loop
 (.seq
 (.reg [.p (o1 nextSG r7) w8, .p (o1 (extG 0) r8) w9])
 (.seq
 (.cond r9
 .skip
 (.exit 0))
 (.block 1
 (.seq
 (.reg [.p (o1 (extG 1) r8) w10, .p (o1 mvG r10) w5])
 (.seq
 (.reg [.p (o1 mvG r1) w11, .p (o1 mvG r0) w12, .p (o1 mvG r5) w13, .p (o2 idxG r12 r13) w14, .p (callvO r11 [r14]) w15, .p (o1 notG r15) w16])
 (.cond r16
 (.seq
 (.reg [.p (o1 mvG r5) w17, .p (o1 mvG r17) w4])
 .ret)
 .skip)))))))))
 (.seq
 (.reg [.p (o1 mvG r0) w18, .p (o1 lenSG r18) w19, .p (o1 mvG r19) w4])
 .ret))) }
theorem kf63_ok : (compFn Try.prog Try.f63 [[0], [0, 1, 7], [0, 1, 7, 8]]).bind (toKFn 2) = some kf63 := by kernel_rfl
noncomputable def kf64 : KFn := { params := [w0], res := [(.s r2)], body :=
 (.seq
 (.reg [.p (o1 mvG (ctK (.bool false))) w2])
 (.seq
 (.reg [.p (o1 mvG r0) w3, .p (callO 65 [r3]) w4, .p (o1 mvG r4) w5, .g r5 false false none (o1 mvG r0) w6, .g r5 false false none (callO 59 [r6]) w7, .p (o3 pickG r5 (ctK (.bool true)) r7) w8, .p (o1 mvG r8) w2])
 .ret)) }
theorem kf64_ok : (compFn Try.prog Try.f64 []).bind (toKFn 1) = some kf64 := by kernel_rfl
noncomputable def kf65 : KFn := { params := [w0], res := [(.s r2)], body :=
 (.seq
 (.reg [.p (o1 mvG (ctK (.bool false))) w2])
 (.seq
 (.reg [.p (o1 mvG r0) w3, .p (o2 (eqG eqIV false) r3 (ctK (.int .u8 (Int.ofNat 95)))) w4, .p (o1 mvG r4) w5, .g r5 false false none (o1 mvG r0) w6, .g r5 false false none (o2 (binG (slowBin .or)) r6 (ctK (.int .u8 (Int.ofNat 32)))) w7, .g r5 false false none (o2 (binG (cmpB .geq geI)) r7 (ctK (.int .u8 (Int.ofNat 97)))) w8, .g r5 false false none (o1 mvG r8) w9, .g r9 true false none (o1 mvG r0) w10, .g r9 true false none (o2 (binG (slowBin .or)) r10 (ctK (.int .u8 (Int.ofNat 32)))) w11, .g r9 true false none (o2 (binG (cmpB .leq leI)) r11 (ctK (.int .u8 (Int.ofNat 122)))) w12, .g r5 false false none (o3 pickG r9 r12 (ctK (.bool false))) w13, .p (o3 pickG r5 (ctK (.bool true)) r13) w14, .p (o1 mvG r14) w2])
 .ret)) }
theorem kf65_ok : (compFn Try.prog Try.f65 []).bind (toKFn 1) = some kf65 := by kernel_rfl
noncomputable def kf27 : KFn := { params := [w0], res := [(.s r2)], body :=
 (.seq
 (.reg [.p (o1 boxG r0) w1, .p (o1 mvG (ctK .mnil)) w2])
 (.seq
 (.reg [.p mkmapO w6, .p (o1 mvG r6) w3])
 (.seq
 (.seq
 (.reg [.p (o1 (faddrG 4) r1) w7, .p (o1 load1G r7) w8, .p (o1 lenLG r8) w9, .p (o1 mvG (ctK (.int .i64 (Int.ofNat 0)))) w10])
 (.block 0
 (.loop
 (.seq
 (.reg [.p (o2 (binG (cmpB .lss ltI)) r10 r9) w11])
 (.seq
 (.cond r11
 .skip
 (.exit 0))
 (.seq
 (.block 1
 (.seq
 (.reg [.p (o2 (iaddrG 5) r8 r10) w12, .p (o1 (loadnG 5) r12) w13, .p (allocO [(.str 0 0), (.int .i64 (Int.ofNat 0)), (.str 0 0), .snil, .snil]) w5, .p (o2 (storeG 5) r5 r13) noW])
 (.reg [.p (o1 mvG r3) w14, .p (o1 (faddrG 0) r5) w15, .p (o1 load1G r15) w16, .p (o1 (faddrG 1) r5) w17, .p (o1 (loadnG 4) r17) w18, .p (o3 (mupdG (.one .s)) r14 r16 r18) noW])))
 (.reg [.p (o2 (binG addB) r10 (ctK (.int .i64 (Int.ofNat 1)))) w19, .p (o1 mvG r19) w10])))))))
 (.seq
 (.reg [.p (o1 mvG r3) w20, .p (o1 mvG r20) w2])
 .ret)))) }
theorem kf27_ok : (compFn Try.prog Try.f27 [[3], [3, 8, 9, 10], [3, 8, 9, 10], [3, 8, 9, 10]]).bind (toKFn 1) = some kf27 := by kernel_rfl
noncomputable def kf28 : KFn := { params := [w0, w1, w2], res := [(.s r6)], body :=
 (.seq
 (.reg [.p (o1 boxG r1) w4, .p (o1 mvG (ctK (.int .i64 (Int.ofNat 0)))) w6])
 (.seq
 (.reg [.p (o1 mvG r0) w14, .p (o1 nilckG r14) w15, .p (o1 (faddrG 1) r15) w16, .p (o1 load1G r16) w17, .p (o2 (binG addB) r17 (ctK (.int .i64 (Int.ofNat 1)))) w18, .p (o1 nilckG r14) w19, .p (o1 (faddrG 1) r19) w20, .p (o2 (storeG 1) r20 r18) noW])
 (.seq
 (.drw [.p (o1 mvG r0) w22, .p (o1 nilckG r22) w23, .p (o1 (faddrG 0) r23) w24, .p (o1 load1G r24) w25, .p (o1 (faddrG 1) r4) w26, .p (o1 load1G r26) w27, .p (o2 (lookupG (.one .s) (.agg [(.int .i64 (Int.ofNat 0)), (.str 0 0), .snil, .snil]) true) r25 r27) w28, .p (o1 mvG r28) w21, .p (o1 (extG 0) r21) w29, .p (o1 (extG 1) r21) w30, .p (allocO [(.int .i64 (Int.ofNat 0)), (.str 0 0), .snil, .snil]) w7, .p (o2 (storeG 4) r7 r29) noW, .p (o1 mvG r30) w8] [])
 (.seq
 (.reg [.p (o1 (faddrG 0) r4) w31, .p (o1 load1G r31) w32, .p (o2 (eqG eqIV false) r32 (ctK (.int .i64 (Int.ofNat 7)))) w33, .p (o1 mvG r33) w34, .g r34 false false none (o1 (faddrG 0) r4) w35, .g r34 false false none (o1 load1G r35) w36, .g r34 false false none (o2 (eqG eqIV false) r36 (ctK (.int .i64 (Int.ofNat 8)))) w37, .p (o3 pickG r34 (ctK (.bool true)) r37) w38, .p (o1 mvG r38) w9])
 (.seq
 (.block 0
 (.seq
 (.reg [.p (o1 mvG r0) w40, .p (o1 nilckG r40) w41, .p (o1 (faddrG 1) r41) w42, .p (o1 load1G r42) w43, .p (o2 (binG (cmpB .gtr gtI)) r43 (ctK (.int .i64 (Int.ofNat 400)))) w44, .p (o1 mvG r44) w39])
 (.cond r39
 (.seq
 (.reg [.p (o1 mvG (ctK (.int .i64 (Int.ofNat 3)))) w6])
 .ret)
 (.seq
 (.reg [.p (o1 mvG r2) w46, .p (o2 (binG (cmpB .gtr gtI)) r46 (ctK (.int .i64 (Int.ofNat 12)))) w47, .p (o1 mvG r47) w45])
 (.cond r45
 (.seq
 (.reg [.p (o1 mvG (ctK (.int .i64 (Int.ofNat 13)))) w6])
 .ret)
 (.seq
 (.reg [.p (o1 (faddrG 0) r4) w49, .p (o1 load1G r49) w50, .p (o2 (binG (cmpB .lss ltI)) r50 (ctK (.int .i64 (Int.ofNat 1)))) w51, .p (o1 mvG r51) w52, .g r52 false false none (o1 (faddrG 0) r4) w53, .g r52 false false none (o1 load1G r53) w54, .g r52 false false none (o2 (binG (cmpB .gtr gtI)) r54 (ctK (.int .i64 (Int.ofNat 9)))) w55, .p (o3 pickG r52 (ctK (.bool true)) r55) w56, .p (o1 mvG r56) w48])
 (.cond r48
 (.seq
 (.reg [.p (o1 mvG (ctK (.int .i64 (Int.ofNat 1)))) w6])
 .ret)
 (.seq
 (.drw [.p (o1 (faddrG 3) r4) w58, .p (o1 load1G r58) w59, .p (o1 lenLG r59) w60, .p (o1 (loadnG 4) r4) w61, .m (callO 47 [r61]) w62 (some [58]), .p (o2 (eqG eqIV true) r60 r62) w63, .p (o1 mvG r63) w64, .g r64 false false none (o1 (faddrG 1) r4) w65, .g r64 false false none (o1 load1G r65) w66, .g r64 false false none (o2 (eqG eqSV true) r66 (ctK (.str 0 0))) w67, .g r64 false false none (o1 mvG r67) w68, .g r68 true false none (o1 (faddrG 0) r4) w69, .g r68 true false none (o1 load1G r69) w70, .g r68 true false none (o2 (eqG eqIV true) r70 (ctK (.int .i64 (Int.ofNat 9)))) w71, .g r64 false false none (o3 pickG r68 r71 (ctK (.bool false))) w72, .p (o3 pickG r64 (ctK (.bool true)) r72) w73, .p (o1 mvG r73) w74, .g r74 false false none (o1 (faddrG 2) r4) w75, .g r74 false false none (o1 load1G r75) w76, .g r74 false false none (o1 lenLG r76) w77, .g r74 false false none (o2 (binG (cmpB .gtr gtI)) r77 (ctK (.int .i64 (Int.ofNat 0)))) w78, .g r74 false false none (o1 mvG r78) w79, .g r79 true false none (o1 mvG r9) w80, .g r79 true false none (o1 notG r80) w81, .g r74 false false none (o3 pickG r79 r81 (ctK (.bool false))) w82, .p (o3 pickG r74 (ctK (.bool true)) r82) w83, .p (o1 mvG r83) w57] [])
 (.cond r57
 (.seq
 (.reg [.p (o1 mvG (ctK (.int .i64 (Int.ofNat 12)))) w6])
 .ret)
 (.seq
 (.reg [.p (o1 (faddrG 0) r4) w85, .p (o1 load1G r85) w86, .p (o2 (eqG eqIV false) r86 (ctK (.int .i64 (Int.ofNat 9)))) w87, .p (o1 mvG r87) w88, .g r88 true false none (o1 mvG r8) w89, .g r88 true false none (o1 notG r89) w90, .p (o3 pickG r88 r90 (ctK (.bool false))) w91, .p (o1 mvG r91) w84])
 (.cond r84
 (.seq
 (.reg [.p (o1 mvG (ctK (.int .i64 (Int.ofNat 15)))) w6])
 .ret)
 .skip)))))))))))
 (.seq
 (.seq
 (.reg [.p (o1 (loadnG 4) r4) w92, .p (callO 48 [r92]) w93, .p (o1 mvG r93) w10])
 (.seq
 (.reg [.p (o1 mvG r10) w94, .p (o2 (eqG eqIV true) r94 (ctK (.int .i64 (Int.ofNat 0)))) w95])
 (.cond r95
 (.seq
 (.reg [.p (o1 mvG r10) w96, .p (o1 mvG r96) w6])
 .ret)
 .skip)))
 (.seq
 (.seq
 (.reg [.p (o1 (faddrG 3) r4) w97, .p (o1 load1G r97) w98, .p (o1 lenLG r98) w99, .p (o1 mvG (ctK (.int .i64 (Int.ofNat 0)))) w100])
 (.block 1
 (.loop
 (.seq
 (.reg [.p (o2 (binG (cmpB .lss ltI)) r100 r99) w101])
 (.seq
 (.cond r101
 .skip
 (.exit 1))
 (.seq
 (.block 2
 (.seq
 (.reg [.p (o2 (iaddrG 4) r98 r100) w102, .p (o1 (loadnG 4) r102) w103, .p (allocO [(.int .i64 (Int.ofNat 0)), (.str 0 0), .snil, .snil]) w12, .p (o2 (storeG 4) r12 r103) noW])
 (.seq
 (.reg [.p (o1 mvG r0) w104, .p (o1 (loadnG 4) r12) w105, .p (o1 mvG r2) w106, .p (o2 (binG addB) r106 (ctK (.int .i64 (Int.ofNat 1)))) w107, .p (callO 28 [r104, r105, r107]) w108, .p (o1 mvG r108) w13])
 (.seq
 (.reg [.p (o1 mvG r13) w109, .p (o2 (eqG eqIV true) r109 (ctK (.int .i64 (Int.ofNat 0)))) w110])
 (.cond r110
 (.seq
 (.reg [.p (o1 mvG r13) w111, .p (o1 mvG r111) w6])
 .ret)
 .skip)))))
 (.reg [.p (o2 (binG addB) r100 (ctK (.int .i64 (Int.ofNat 1)))) w112, .p (o1 mvG r112) w100])))))))
 (.seq
 (.reg [.p (o1 mvG (ctK (.int .i64 (Int.ofNat 0)))) w6])
 .ret)))))))) }
theorem kf28_ok : (compFn Try.prog Try.f28 [[0, 2, 4], [0, 2, 4], [], [0, 2, 98, 99, 100], [0, 2, 98, 99, 100], [0, 2, 98, 99, 100]]).bind (toKFn 3) = some kf28 := by kernel_rfl
noncomputable def kf47 : KFn := { params := [w0], res := [(.s r2)], body :=
 (.seq
 (.reg [.p (o1 boxG r0) w1, .p (o1 mvG (ctK (.int .i64 (Int.ofNat 0)))) w2])
 (.seq
 (.seq
 (.reg [.p (o1 (faddrG 0) r1) w3, .p (o1 load1G r3) w4])
 (.block 0
 (.seq
 (.seq
 (.reg [.p (o2 (eqG eqIV false) r4 (ctK (.int .i64 (Int.ofNat 4)))) w6, .p (o1 mvG r6) w5])
 (.cond r5
 .skip
 (.seq
 (.reg [.p (o2 (eqG eqIV false) r4 (ctK (.int .i64 (Int.ofNat 5)))) w7, .p (o1 mvG r7) w5])
 (.cond r5
 .skip
 (.reg [.p (o2 (eqG eqIV false) r4 (ctK (.int .i64 (Int.ofNat 6)))) w8, .p (o1 mvG r8) w5])))))
 (.cond r5
 (.seq
 (.reg [.p (o1 mvG (ctK (.int .i64 (Int.ofNat 1)))) w2])
 .ret)
 (.seq
 (.seq
 (.reg [.p (o2 (eqG eqIV false) r4 (ctK (.int .i64 (Int.ofNat 7)))) w10, .p (o1 mvG r10) w9])
 (.cond r9
 .skip
 (.reg [.p (o2 (eqG eqIV false) r4 (ctK (.int .i64 (Int.ofNat 8)))) w11, .p (o1 mvG r11) w9])))
 (.cond r9
 (.seq
 (.reg [.p (o1 (faddrG 2) r1) w12, .p (o1 load1G r12) w13, .p (o1 lenLG r13) w14, .p (o1 mvG r14) w2])
 .ret)
 .skip))))))
 (.seq
 (.reg [.p (o1 mvG (ctK (.int .i64 (Int.ofNat 0)))) w2])
 .ret))) }
theorem kf47_ok : (compFn Try.prog Try.f47 [[], [1, 4, 5], [1, 9]]).bind (toKFn 1) = some kf47 := by kernel_rfl
noncomputable def kf48 : KFn := { params := [w0], res := [(.s r2)], body :=
 (.seq
 (.reg [.p (o1 boxG r0) w1, .p (o1 mvG (ctK (.int .i64 (Int.ofNat 0)))) w2])
 (.seq
 (.seq
 (.reg [.p (o1 (faddrG 2) r1) w5, .p (o1 load1G r5) w6, .p (o1 lenLG r6) w7, .p (o2 (binG (cmpB .gtr gtI)) r7 (ctK (.int .i64 (Int.ofNat 8)))) w8])
 (.cond r8
 (.seq
 (.reg [.p (o1 mvG (ctK (.int .i64 (Int.ofNat 3)))) w2])
 .ret)
 .skip))
 (.seq
 (.seq
 (.reg [.p (o1 (faddrG 2) r1) w9, .p (o1 load1G r9) w10, .p (o1 lenLG r10) w11, .p (o1 mvG (ctK (.int .i64 (Int.ofNat 0)))) w12])
 (.block 0
 (.loop
 (.seq
 (.reg [.p (o2 (binG (cmpB .lss ltI)) r12 r11) w13])
 (.seq
 (.cond r13
 .skip
 (.exit 0))
 (.seq
 (.block 1
 (.seq
 (.reg [.p (o1 mvG r12) w14, .p (o2 (iaddrG 1) r10 r12) w15, .p (o1 load1G r15) w16, .p (o1 mvG r14) w3, .p (o1 mvG r16) w4])
 (.block 2
 (.seq
 (.reg [.p (o1 mvG r4) w18, .p (callO 45 [r18]) w19, .p (o1 notG r19) w20, .p (o1 mvG r20) w17])
 (.cond r17
 (.seq
 (.reg [.p (o1 mvG (ctK (.int .i64 (Int.ofNat 15)))) w2])
 .ret)
 (.seq
 (.reg [.p (o1 mvG r3) w22, .p (o2 (binG (cmpB .gtr gtI)) r22 (ctK (.int .i64 (Int.ofNat 0)))) w23, .p (o1 mvG r23) w24, .g r24 true false none (o1 (faddrG 2) r1) w25, .g r24 true false none (o1 load1G r25) w26, .g r24 true false none (o1 mvG r3) w27, .g r24 true false none (o2 (binG subB) r27 (ctK (.int .i64 (Int.ofNat 1)))) w28, .g r24 true false none (o2 (iaddrG 1) r26 r28) w29, .g r24 true false none (o1 load1G r29) w30, .g r24 true false none (o1 mvG r4) w31, .g r24 true false none (o2 (binG (cmpB .geq geI)) r30 r31) w32, .p (o3 pickG r24 r32 (ctK (.bool false))) w33, .p (o1 mvG r33) w21])
 (.cond r21
 (.seq
 (.reg [.p (o1 mvG (ctK (.int .i64 (Int.ofNat 6)))) w2])
 .ret)
 .skip)))))))
 (.reg [.p (o2 (binG addB) r12 (ctK (.int .i64 (Int.ofNat 1)))) w34, .p (o1 mvG r34) w12])))))))
 (.seq
 (.seq
 (.reg [.p (o1 (faddrG 0) r1) w35, .p (o1 load1G r35) w36, .p (o2 (eqG eqIV false) r36 (ctK (.int .i64 (Int.ofNat 8)))) w37, .p (o1 mvG r37) w38, .g r38 true false none (o1 (faddrG 2) r1) w39, .g r38 true false none (o1 load1G r39) w40, .g r38 true false none (o1 lenLG r40) w41, .g r38 true false none (o2 (eqG eqIV false) r41 (ctK (.int .i64 (Int.ofNat 0)))) w42, .p (o3 pickG r38 r42 (ctK (.bool false))) w43])
 (.cond r43
 (.seq
 (.reg [.p (o1 mvG (ctK (.int .i64 (Int.ofNat 12)))) w2])
 .ret)
 .skip))
 (.seq
 (.reg [.p (o1 mvG (ctK (.int .i64 (Int.ofNat 0)))) w2])
 .ret))))) }
theorem kf48_ok : (compFn Try.prog Try.f48 [[1], [1], [1, 10, 11, 12], [1, 10, 11, 12], [1, 10, 11, 12], []]).bind (toKFn 1) = some kf48 := by kernel_rfl
noncomputable def kf29 : KFn := { params := [w0, w1], res := [(.s r4)], body :=
 (.seq
 (.reg [.p (o1 mvG (ctK (.int .i64 (Int.ofNat 0)))) w4])
 (.seq
 (.seq
 (.reg [.p (o1 mvG r1) w8, .p (o1 lenLG r8) w9, .p (o1 mvG (ctK (.int .i64 (Int.ofNat 0)))) w10])
 (.block 0
 (.loop
 (.seq
 (.reg [.p (o2 (binG (cmpB .lss ltI)) r10 r9) w11])
 (.seq
 (.cond r11
 .skip
 (.exit 0))
 (.seq
 (.block 1
 (.seq
 (.reg [.p (o1 mvG r10) w12, .p (o2 (iaddrG 6) r8 r10) w13, .p (o1 (loadnG 6) r13) w14, .p (allocO [(.str 0 0), .snil, (.int .i64 (Int.ofNat 0)), (.str 0 0), .snil, .snil]) w6, .p (o1 mvG r12) w5, .p (o2 (storeG 6) r6 r14) noW])
 (.seq
 (.block 2
 (.seq
 (.reg [.p (o1 (faddrG 0) r6) w16, .p (o1 load1G r16) w17, .p (callO 45 [r17]) w18, .p (o1 notG r18) w19, .p (o1 mvG r19) w20, .g r20 false false none (o1 (faddrG 0) r6) w21, .g r20 false false none (o1 load1G r21) w22, .g r20 false false none (callO 24 [r22]) w23, .p (o3 pickG r20 (ctK (.bool true)) r23) w24, .p (o1 mvG r24) w15])
 (.cond r15
 (.seq
 (.reg [.p (o1 mvG (ctK (.int .i64 (Int.ofNat 15)))) w4])
 .ret)
 (.seq
 (.drw [.p (o1 mvG r5) w26, .p (o2 (binG (cmpB .gtr gtI)) r26 (ctK (.int .i64 (Int.ofNat 0)))) w27, .p (o1 mvG r27) w28, .g r28 true false none (o1 mvG r1) w29, .g r28 true false none (o1 mvG r5) w30, .g r28 true false none (o2 (binG subB) r30 (ctK (.int .i64 (Int.ofNat 1)))) w31, .g r28 true false none (o2 (iaddrG 6) r29 r31) w32, .g r28 true false none (o1 (faddrG 0) r32) w33, .g r28 true false none (o1 load1G r33) w34, .g r28 true false none (o1 (faddrG 0) r6) w35, .g r28 true false none (o1 load1G r35) w36, .g r28 true false none (o2 (binG (cmpB .geq geI)) r34 r36) w37, .p (o3 pickG r28 r37 (ctK (.bool false))) w38, .p (o1 mvG r38) w25] [])
 (.cond r25
 (.seq
 (.reg [.p (o1 mvG (ctK (.int .i64 (Int.ofNat 6)))) w4])
 .ret)
 (.seq
 (.reg [.p (o1 (faddrG 1) r6) w40, .p (o1 load1G r40) w41, .p (o1 lenLG r41) w42, .p (o2 (binG (cmpB .gtr gtI)) r42 (ctK (.int .i64 (Int.ofNat 4)))) w43, .p (o1 mvG r43) w39])
 (.cond r39
 (.seq
 (.reg [.p (o1 mvG (ctK (.int .i64 (Int.ofNat 18)))) w4])
 .ret)
 .skip)))))))
 (.seq
 (.drw [.p (o1 mvG r0) w44, .p (o1 (faddrG 1) r6) w45, .p (o1 load1G r45) w46, .m (callO 50 [r46]) w47 none, .p (o1 (faddrG 2) r6) w48, .p (o1 (loadnG 4) r48) w49, .p (bslO 4 1 [(.int .i64 (Int.ofNat 0)), (.str 0 0), .snil, .snil] [(0, 4, r49)]) w50, .p (o2 (appG 4) r47 r50) w51, .m (callO 49 [r44, r51]) w52 (some []), .p (o1 mvG r52) w7] [])
 (.seq
 (.reg [.p (o1 mvG r7) w53, .p (o2 (eqG eqIV true) r53 (ctK (.int .i64 (Int.ofNat 0)))) w54])
 (.cond r54
 (.seq
 (.reg [.p (o1 mvG r7) w55, .p (o1 mvG r55) w4])
 .ret)
 .skip))))))
 (.reg [.p (o2 (binG addB) r10 (ctK (.int .i64 (Int.ofNat 1)))) w56, .p (o1 mvG r56) w10])))))))
 (.seq
 (.reg [.p (o1 mvG (ctK (.int .i64 (Int.ofNat 0)))) w4])
 .ret))) }
theorem kf29_ok : (compFn Try.prog Try.f29 [[], [0, 1, 8, 9, 10], [0, 1, 8, 9, 10], [0, 1, 8, 9, 10], [0, 1, 6, 8, 9, 10]]).bind (toKFn 2) = some kf29 := by kernel_rfl
noncomputable def kf24 : KFn := { params := [w0], res := [(.s r2)], body :=
 (.seq
 (.reg [.p (o1 mvG (ctK (.bool false))) w2])
 (.seq
 (.reg [.p (o1 mvG r0) w3, .p (callO 45 [r3]) w4, .p (o1 mvG r4) w5, .g r5 true false none (o1 mvG r0) w6, .g r5 true false none (o2 (binG addB) (ctK (.str 1 32)) r6) w7, .g r5 true false none (o2 (binG addB) r7 (ctK (.str 1 32))) w8, .g r5 true false none (callO 46 [(ctK (.str 91 178686683887446287100313889210838612883293650169161782699781515008887049184836398825504385070224074575899429074951214181473750552558099404030661262664651392350738735132031991416282501624620935436484047697889576312204320)), r8]) w9, .p (o3 pickG r5 r9 (ctK (.bool false))) w10, .p (o1 mvG r10) w2])
 .ret)) }
theorem kf24_ok : (compFn Try.prog Try.f24 []).bind (toKFn 1) = some kf24 := by kernel_rfl
noncomputable def kf50 : KFn := { params := [w0], res := [(.s r2)], body :=
 (.seq
 (.reg [.p (o1 mvG (ctK .snil)) w2])
 (.seq
 (.seq
 (.reg [.p (o1 mvG r0) w3, .p (o2 (eqG (slowEq (.one .l)) false) r3 (ctK .snil)) w4])
 (.cond r4
 (.seq
 (.reg [.p (o1 mvG (ctK .snil)) w2])
 .ret)
 .skip))
 (.seq
 (.reg [.p (bslO 4 0 [] []) w5, .p (o1 mvG r0) w6, .p (o2 (appG 4) r5 r6) w7, .p (o1 mvG r7) w2])
 .ret))) }
theorem kf50_ok : (compFn Try.prog Try.f50 [[0]]).bind (toKFn 1) = some kf50 := by kernel_rfl
noncomputable def kf49 : KFn := { params := [w0, w1], res := [(.s r4)], body :=
 (.seq
 (.reg [.p (o1 mvG (ctK (.int .i64 (Int.ofNat 0)))) w4])
 (.seq
 (.seq
 (.reg [.p (o1 mvG r1) w8, .p (o1 lenLG r8) w9, .p (o1 mvG (ctK (.int .i64 (Int.ofNat 0)))) w10])
 (.block 0
 (.loop
 (.seq
 (.reg [.p (o2 (binG (cmpB .lss ltI)) r10 r9) w11])
 (.seq
 (.cond r11
 .skip
 (.exit 0))
 (.seq
 (.block 1
 (.seq
 (.reg [.p (o2 (iaddrG 4) r8 r10) w12, .p (o1 (loadnG 4) r12) w13, .p (allocO [(.int .i64 (Int.ofNat 0)), (.str 0 0), .snil, .snil]) w6, .p (o2 (storeG 4) r6 r13) noW])
 (.seq
 (.reg [.p (o1 mvG r0) w14, .p (o1 (loadnG 4) r6) w15, .p (callO 28 [r14, r15, (ctK (.int .i64 (Int.ofNat 1)))]) w16, .p (o1 mvG r16) w7])
 (.seq
 (.reg [.p (o1 mvG r7) w17, .p (o2 (eqG eqIV true) r17 (ctK (.int .i64 (Int.ofNat 0)))) w18])
 (.cond r18
 (.seq
 (.reg [.p (o1 mvG r7) w19, .p (o1 mvG r19) w4])
 .ret)
 .skip)))))
 (.reg [.p (o2 (binG addB) r10 (ctK (.int .i64 (Int.ofNat 1)))) w20, .p (o1 mvG r20) w10])))))))
 (.seq
 (.reg [.p (o1 mvG (ctK (.int .i64 (Int.ofNat 0)))) w4])
 .ret))) }
theorem kf49_ok : (compFn Try.prog Try.f49 [[], [0, 8, 9, 10], [0, 8, 9, 10], [0, 8, 9, 10]]).bind (toKFn 2) = some kf49 := by kernel_rfl
noncomputable def kf21 : KFn := { params := [w0, w1], res := [(.s r4)], body :=
 (.seq
 (.reg [.p (o1 boxG r0) w2, .p (o1 boxG r1) w3, .p (o1 mvG (ctK (.bool false))) w4])
 (.seq
 (.reg [.p (o1 (loadnG 6) r2) w11, .p (callO 27 [r11]) w12, .p (buildO [.mnil, (.int .i64 (Int.ofNat 0))] [(0, 1, r12)]) w13, .p (o1 boxG r13) w14, .p (o1 mvG r14) w5])
 (.seq
 (.seq
 (.reg [.p (o1 (faddrG 4) r2) w15, .p (o1 load1G r15) w16, .p (o1 lenLG r16) w17, .p (o1 mvG (ctK (.int .i64 (Int.ofNat 0)))) w18])
 (.block 0
 (.loop
 (.seq
 (.reg [.p (o2 (binG (cmpB .lss ltI)) r18 r17) w19])
 (.seq
 (.cond r19
 .skip
 (.exit 0))
 (.seq
 (.block 1
 (.seq
 (.reg [.p (o2 (iaddrG 5) r16 r18) w20, .p (o1 (loadnG 5) r20) w21, .p (allocO [(.str 0 0), (.int .i64 (Int.ofNat 0)), (.str 0 0), .snil, .snil]) w7, .p (o2 (storeG 5) r7 r21) noW])
 (.seq
 (.reg [.p (o1 mvG r5) w22, .p (o1 (faddrG 1) r7) w23, .p (o1 (loadnG 4) r23) w24, .p (callO 28 [r22, r24, (ctK (.int .i64 (Int.ofNat 1)))]) w25, .p (o2 (eqG eqIV true) r25 (ctK (.int .i64 (Int.ofNat 0)))) w26])
 (.cond r26
 (.seq
 (.reg [.p (o1 mvG (ctK (.bool false))) w4])
 .ret)
 .skip))))
 (.reg [.p (o2 (binG addB) r18 (ctK (.int .i64 (Int.ofNat 1)))) w27, .p (o1 mvG r27) w18])))))))
 (.seq
 (.reg [.p (o1 mvG r5) w28, .p (o1 nilckG r28) w29, .p (o1 (faddrG 1) r29) w30, .p (o2 (storeG 1) r30 (ctK (.int .i64 (Int.ofNat 0)))) noW])
 (.seq
 (.seq
 (.reg [.p (o1 mvG r5) w31, .p (o1 (loadnG 4) r3) w32, .p (callO 28 [r31, r32, (ctK (.int .i64 (Int.ofNat 1)))]) w33, .p (o2 (eqG eqIV true) r33 (ctK (.int .i64 (Int.ofNat 0)))) w34])
 (.cond r34
 (.seq
 (.reg [.p (o1 mvG (ctK (.bool false))) w4])
 .ret)
 .skip))
 (.seq
 (.reg [.p mkmapO w35, .p (o1 mvG r35) w8])
 (.seq
 (.seq
 (.reg [.p (o1 (faddrG 4) r2) w36, .p (o1 load1G r36) w37, .p (o1 lenLG r37) w38, .p (o1 mvG (ctK (.int .i64 (Int.ofNat 0)))) w39])
 (.block 2
 (.loop
 (.seq
 (.reg [.p (o2 (binG (cmpB .lss ltI)) r39 r38) w40])
 (.seq
 (.cond r40
 .skip
 (.exit 2))
 (.seq
 (.block 3
 (.seq
 (.reg [.p (o1 (faddrG 4) r2) w41, .p (o1 load1G r41) w42, .p (o1 lenLG r42) w43, .p (o1 mvG (ctK (.int .i64 (Int.ofNat 0)))) w44])
 (.block 4
 (.loop
 (.seq
 (.reg [.p (o2 (binG (cmpB .lss ltI)) r44 r43) w45])
 (.seq
 (.cond r45
 .skip
 (.exit 4))
 (.seq
 (.block 5
 (.seq
 (.reg [.p (o2 (iaddrG 5) r42 r44) w46, .p (o1 (loadnG 5) r46) w47, .p (allocO [(.str 0 0), (.int .i64 (Int.ofNat 0)), (.str 0 0), .snil, .snil]) w10, .p (o2 (storeG 5) r10 r47) noW])
 (.drw [.p (o1 mvG r8) w48, .p (o1 (faddrG 0) r10) w49, .p (o1 load1G r49) w50, .p (o1 mvG r8) w51, .p (o1 (faddrG 0) r10) w52, .p (o1 load1G r52) w53, .p (o2 (lookupG (.one .s) (.bool false) false) r51 r53) w54, .p (o1 mvG r54) w55, .g r55 false false none (o1 (faddrG 1) r10) w56, .g r55 false false none (o1 (loadnG 4) r56) w57, .g r55 false false none (o1 mvG r8) w58, .g r55 false true (some [49]) (callO 39 [r57, r58, (ctK (.int .i64 (Int.ofNat 1)))]) w59, .p (o3 pickG r55 (ctK (.bool true)) r59) w60, .p (o3 (mupdG (.one .s)) r48 r50 r60) noW] [])))
 (.reg [.p (o2 (binG addB) r44 (ctK (.int .i64 (Int.ofNat 1)))) w61, .p (o1 mvG r61) w44]))))))))
 (.reg [.p (o2 (binG addB) r39 (ctK (.int .i64 (Int.ofNat 1)))) w62, .p (o1 mvG r62) w39])))))))
 (.seq
 (.reg [.p (o1 (loadnG 4) r3) w63, .p (o1 mvG r8) w64, .p (callO 39 [r63, r64, (ctK (.int .i64 (Int.ofNat 1)))]) w65, .p (o1 mvG r65) w4])
 .ret)))))))) }
theorem kf21_ok : (compFn Try.prog Try.f21 [[2, 3, 5], [2, 3, 5, 16, 17, 18], [2, 3, 5, 16, 17, 18], [2, 3, 5, 16, 17, 18], [2, 3], [3, 8], [2, 3, 8, 38, 39], [2, 3, 8, 38, 39], [2, 3, 8, 38, 39], [2, 3, 8, 38, 39, 42, 43, 44], [2, 3, 8, 38, 39, 42, 43, 44], [2, 3, 8, 38, 39, 42, 43, 44]]).bind (toKFn 2) = some kf21 := by kernel_rfl
noncomputable def kf39 : KFn := { params := [w0, w1, w2], res := [(.s r6)], body :=
 (.seq
 (.reg [.p (o1 boxG r0) w3, .p (o1 boxG r1) w4, .p (o1 boxG r2) w5, .p (o1 mvG (ctK (.bool false))) w6])
 (.seq
 (.seq
 (.reg [.p (o1 load1G r5) w8, .p (o2 (binG (cmpB .gtr gtI)) r8 (ctK (.int .i64 (Int.ofNat 12)))) w9])
 (.cond r9
 (.seq
 (.reg [.p (o1 mvG (ctK (.bool false))) w6])
 .ret)
 .skip))
 (.seq
 (.reg [.p (mkfnO 56 [] [r4, r5]) w10, .p (allocO [.fnil]) w7, .p (o2 (storeG 1) r7 r10) noW])
 (.seq
 (.seq
 (.reg [.p (o1 (faddrG 0) r3) w11, .p (o1 load1G r11) w12])
 (.block 0
 (.seq
 (.reg [.p (o2 (eqG eqIV false) r12 (ctK (.int .i64 (Int.ofNat 9)))) w14, .p (o1 mvG r14) w13])
 (.cond r13
 (.seq
 (.reg [.p (o1 load1G r4) w15, .p (o1 (faddrG 1) r3) w16, .p (o1 load1G r16) w17, .p (o2 (lookupG (.one .s) (.bool false) false) r15 r17) w18, .p (o1 mvG r18) w6])
 .ret)
 (.seq
 (.reg [.p (o2 (eqG eqIV false) r12 (ctK (.int .i64 (Int.ofNat 8)))) w20, .p (o1 mvG r20) w19])
 (.cond r19
 (.seq
 (.reg [.p (o1 (faddrG 3) r3) w21, .p (o1 load1G r21) w22, .p (o1 load1G r7) w23, .p (callO 30 [r22, r23]) w24, .p (o1 mvG r24) w6])
 .ret)
 (.seq
 (.reg [.p (o2 (eqG eqIV false) r12 (ctK (.int .i64 (Int.ofNat 7)))) w26, .p (o1 mvG r26) w25])
 (.cond r25
 (.seq
 (.reg [.p (o1 (faddrG 3) r3) w27, .p (o1 load1G r27) w28, .p (mkfnO 57 [] [r7]) w29, .p (callO 30 [r28, r29]) w30, .p (o1 notG r30) w31, .p (o1 mvG r31) w6])
 .ret)
 .skip))))))))
 (.seq
 (.reg [.p (o1 mvG (ctK (.bool true))) w6])
 .ret))))) }
theorem kf39_ok : (compFn Try.prog Try.f39 [[3, 4, 5], []]).bind (toKFn 3) = some kf39 := by kernel_rfl
noncomputable def kf56 : KFn := { params := [w0, w1, w2], res := [(.s r4)], body :=
 (.seq
 (.reg [.p (o1 boxG r0) w3, .p (o1 mvG (ctK (.bool false))) w4])
 (.seq
 (.reg [.p (o1 (loadnG 4) r3) w5, .p (o1 load1G r1) w6, .p (o1 load1G r2) w7, .p (o2 (binG addB) r7 (ctK (.int .i64 (Int.ofNat 1)))) w8, .p (callO 39 [r5, r6, r8]) w9, .p (o1 mvG r9) w4])
 .ret)) }
theorem kf56_ok : (compFn Try.prog Try.f56 []).bind (toKFn 3) = some kf56 := by kernel_rfl
noncomputable def kf30 : KFn := { params := [w0, w1], res := [(.s r4)], body :=
 (.seq
 (.reg [.p (o1 mvG (ctK (.bool false))) w4])
 (.seq
 (.reg [.p (o1 mvG r0) w5, .p (o1 mvG r1) w6, .p (callO 51 [r5, r6]) w7, .p (o2 (binG (cmpB .geq geI)) r7 (ctK (.int .i64 (Int.ofNat 0)))) w8, .p (o1 mvG r8) w4])
 .ret)) }
theorem kf30_ok : (compFn Try.prog Try.f30 []).bind (toKFn 2) = some kf30 := by kernel_rfl
noncomputable def kf51 : KFn := { params := [w0, w1], res := [(.s r4)], body :=
 (.seq
 (.reg [.p (o1 mvG (ctK (.int .i64 (Int.ofNat 0)))) w4])
 (.seq
 (.seq
 (.reg [.p (o1 mvG r0) w6, .p (o1 lenLG r6) w7, .p (o1 mvG (ctK (.int .i64 (Int.ofNat 0)))) w8])
 (.block 0
 (.loop
 (.seq
 (.reg [.p (o2 (binG (cmpB .lss ltI)) r8 r7) w9])
 (.seq
 (.cond r9
 .skip
 (.exit 0))
 (.seq
 (.block 1
 (.seq
 (.reg [.p (o1 mvG r8) w10, .p (o1 mvG r10) w5])
 (.seq
 (.reg [.p (o1 mvG r1) w11, .p (o1 mvG r0) w12, .p (o1 mvG r5) w13, .p (o2 (iaddrG 4) r12 r13) w14, .p (o1 (loadnG 4) r14) w15, .p (callvO r11 [r15]) w16])
 (.cond r16
 (.seq
 (.reg [.p (o1 mvG r5) w17, .p (o1 mvG r17) w4])
 .ret)
 .skip))))
 (.reg [.p (o2 (binG addB) r8 (ctK (.int .i64 (Int.ofNat 1)))) w18, .p (o1 mvG r18) w8])))))))
 (.seq
 (.reg [.p (o1 mvG (ctK (.int .i64 (Int.negSucc 0)))) w4])
 .ret))) }
theorem kf51_ok : (compFn Try.prog Try.f51 [[], [0, 1, 7, 8], [0, 1, 7, 8], [0, 1, 7, 8]]).bind (toKFn 2) = some kf51 := by kernel_rfl
noncomputable def kf57 : KFn := { params := [w0, w1], res := [(.s r3)], body :=
 (.seq
 (.reg [.p (o1 boxG r0) w2, .p (o1 mvG (ctK (.bool false))) w3])
 (.seq
 (.reg [.p (o1 load1G r1) w4, .p (o1 (loadnG 4) r2) w5, .p (callvO r4 [r5]) w6, .p (o1 notG r6) w7, .p (o1 mvG r7) w3])
 .ret)) }
theorem kf57_ok : (compFn Try.prog Try.f57 []).bind (toKFn 2) = some kf57 := by kernel_rfl
noncomputable def kf31 : KFn := { params := [w0], res := [(.s r2)], body :=
 (.seq
 (.reg [.p (o1 boxG r0) w1, .p (o1 mvG (ctK .snil)) w2])
 (.seq
 (.reg [.p (o1 mvG (ctK .snil)) w3])
 (.seq
 (.seq
 (.reg [.p (o1 (faddrG 4) r1) w8, .p (o1 load1G r8) w9, .p (o1 lenLG r9) w10, .p (o1 mvG (ctK (.int .i64 (Int.ofNat 0)))) w11])
 (.block 0
 (.loop
 (.seq
 (.reg [.p (o2 (binG (cmpB .lss ltI)) r11 r10) w12])
 (.seq
 (.cond r12
 .skip
 (.exit 0))
 (.seq
 (.block 1
 (.seq
 (.reg [.p (o2 (iaddrG 5) r9 r11) w13, .p (o1 (loadnG 5) r13) w14, .p (allocO [(.str 0 0), (.int .i64 (Int.ofNat 0)), (.str 0 0), .snil, .snil]) w5, .p (o2 (storeG 5) r5 r14) noW])
 (.reg [.p (o1 mvG r3) w15, .p (o1 (faddrG 1) r5) w16, .p (o1 (loadnG 4) r16) w17, .p (bslO 4 1 [(.int .i64 (Int.ofNat 0)), (.str 0 0), .snil, .snil] [(0, 4, r17)]) w18, .p (o2 (appG 4) r15 r18) w19, .p (o1 mvG r19) w3])))
 (.reg [.p (o2 (binG addB) r11 (ctK (.int .i64 (Int.ofNat 1)))) w20, .p (o1 mvG r20) w11])))))))
 (.seq
 (.reg [.p (o1 mvG r3) w21, .p (o1 (faddrG 0) r1) w22, .p (o1 (loadnG 4) r22) w23, .p (bslO 4 1 [(.int .i64 (Int.ofNat 0)), (.str 0 0), .snil, .snil] [(0, 4, r23)]) w24, .p (o2 (appG 4) r21 r24) w25, .p (o1 mvG r25) w3])
 (.seq
 (.seq
 (.reg [.p (o1 (faddrG 5) r1) w26, .p (o1 load1G r26) w27, .p (o1 lenLG r27) w28, .p (o1 mvG (ctK (.int .i64 (Int.ofNat 0)))) w29])
 (.block 2
 (.loop
 (.seq
 (.reg [.p (o2 (binG (cmpB .lss ltI)) r29 r28) w30])
 (.seq
 (.cond r30
 .skip
 (.exit 2))
 (.seq
 (.block 3
 (.seq
 (.reg [.p (o2 (iaddrG 6) r27 r29) w31, .p (o1 (loadnG 6) r31) w32, .p (allocO [(.str 0 0), .snil, (.int .i64 (Int.ofNat 0)), (.str 0 0), .snil, .snil]) w7, .p (o2 (storeG 6) r7 r32) noW])
 (.drw [.p (o1 mvG r3) w33, .p (o1 (faddrG 1) r7) w34, .p (o1 load1G r34) w35, .p (o2 (appG 4) r33 r35) w36, .p (o1 (faddrG 2) r7) w37, .p (o1 (loadnG 4) r37) w38, .p (bslO 4 1 [(.int .i64 (Int.ofNat 0)), (.str 0 0), .snil, .snil] [(0, 4, r38)]) w39, .p (o2 (appG 4) r36 r39) w40, .p (o1 mvG r40) w3] [([33], [37])])))
 (.reg [.p (o2 (binG addB) r29 (ctK (.int .i64 (Int.ofNat 1)))) w41, .p (o1 mvG r41) w29])))))))
 (.seq
 (.reg [.p (o1 mvG r3) w42, .p (o1 mvG r42) w2])
 .ret)))))) }
theorem kf31_ok : (compFn Try.prog Try.f31 [[1, 3], [1, 3, 9, 10, 11], [1, 3, 9, 10, 11], [1, 3, 9, 10, 11], [3], [3, 27, 28, 29], [3, 27, 28, 29], [3, 27, 28, 29]]).bind (toKFn 1) = some kf31 := by kernel_rfl
noncomputable def kf32 : KFn := { params := [w0, w1], res := [(.s r4)], body :=
 (.seq
 (.reg [.p (o1 boxG r1) w3, .p (o1 mvG (ctK (.bool false))) w4])
 (.seq
 (.seq
 (.reg [.p (o1 (faddrG 0) r3) w6, .p (o1 load1G r6) w7, .p (o2 (eqG eqIV false) r7 (ctK (.int .i64 (Int.ofNat 6)))) w8, .p (o1 mvG r8) w9, .g r9 true false none (o1 (faddrG 3) r3) w10, .g r9 true false none (o1 load1G r10) w11, .g r9 true false none (o1 lenLG r11) w12, .g r9 true false none (o2 (eqG eqIV false) r12 (ctK (.int .i64 (Int.ofNat 1)))) w13, .p (o3 pickG r9 r13 (ctK (.bool false))) w14])
 (.cond r14
 (.seq
 (.reg [.p (o1 (faddrG 3) r3) w15, .p (o1 load1G r15) w16, .p (o2 (iaddrG 4) r16 (ctK (.int .i64 (Int.ofNat 0)))) w17, .p (o1 (loadnG 4) r17) w18, .p (allocO [(.int .i64 (Int.ofNat 0)), (.str 0 0), .snil, .snil]) w5, .p (o2 (storeG 4) r5 r18) noW])
 (.seq
 (.seq
 (.reg [.p (o1 mvG r0) w19, .p (o1 nilckG r19) w20, .p (o1 (faddrG 0) r20) w21, .p (o1 load1G r21) w22, .p (o1 rngMG r22) w23])
 (.block 0
 (.loop
 (.seq
 (.reg [.p (o1 nextMG r23) w24, .p (o1 (extG 0) r24) w25])
 (.seq
 (.cond r25
 .skip
 (.exit 0))
 (.block 1
 (.seq
 (.reg [.p (o1 (faddrG 0) r5) w27, .p (o1 load1G r27) w28, .p (o2 (eqG eqIV false) r28 (ctK (.int .i64 (Int.ofNat 9)))) w29])
 (.cond r29
 (.drw [.p (o1 mvG r0) w30, .p (o1 nilckG r30) w31, .p (o1 (faddrG 0) r31) w32, .p (o1 load1G r32) w33, .p (o1 (faddrG 1) r5) w34, .p (o1 load1G r34) w35, .p (o2 (lookupG (.one .s) (.agg [(.int .i64 (Int.ofNat 0)), (.str 0 0), .snil, .snil]) false) r33 r35) w36, .p (o2 (storeG 4) r5 r36) noW] [])
 .skip))))))))
 (.seq
 (.reg [.p (o1 (faddrG 0) r5) w37, .p (o1 load1G r37) w38, .p (o2 (eqG eqIV false) r38 (ctK (.int .i64 (Int.ofNat 6)))) w39])
 (.cond r39
 (.seq
 (.reg [.p (o1 mvG (ctK (.bool true))) w4])
 .ret)
 .skip))))
 .skip))
 (.seq
 (.reg [.p (o1 (faddrG 3) r3) w40, .p (o1 load1G r40) w41, .p (o1 mvG r0) w42, .p (mkfnO 32 [r42] []) w43, .p (callO 30 [r41, r43]) w44, .p (o1 mvG r44) w4])
 .ret))) }
theorem kf32_ok : (compFn Try.prog Try.f32 [[0, 3], [0, 3, 5], [0, 3, 5, 23], [0, 3, 5, 23]]).bind (toKFn 2) = some kf32 := by kernel_rfl

theorem within19_calls (a n : Int) (w : World) (h0 : 0 < n) (h1 : n < 1000000) : Calls Try.prog 19 #[.int .i64 a, .int .i64 n] w fun e w' => e = .returned (.int .i64 (a % n)) ∧ Below w.heap.size w w' := by
  have hn : ¬n = 0 := by omega
  go_enter Try.func19, Try.ntmps19
  go_wp2
  all_goals go_ret
  all_goals refine ⟨?_, Below.refl _ _⟩
  all_goals have hb1 := Int.emod_nonneg a hn
  all_goals have hb2 := Int.emod_lt_of_pos a h0
  all_goals have hw : wrap64 (a % n) = a % n := by unfold wrap64; omega
  all_goals rename_i hc
  all_goals rcases tmod_cases a h0 with ⟨h3, h4⟩ | ⟨h3, h4⟩
  · exact absurd hc (by omega)
  · show Ending.returned (.int .i64 (wrap64 (a.tmod n + n))) = _
    rw [h4, hw]
  · show Ending.returned (.int .i64 (a.tmod n)) = _
    rw [h4]
  · exact absurd hc (by omega)
theorem mixed : Try.prog.follows .mixedOrders = true := by kernel_rfl
noncomputable def tabA : BT :=
  (.node 45 (.node 27 (.node 21 (.node 12 (.leaf 12 (compE 100000 Try.prog Try.f12 [] kf12))
  (.node 17 (.leaf 17 (compE 100000 Try.prog Try.f17 [[1], [1], [1, 4], [1, 4, 33, 34, 35], [1, 4, 33, 34, 35], [1, 4, 33, 34, 35], [1, 4], [1, 4], [1, 4], [1, 4, 62, 63, 64], [1, 4, 62, 63, 64], [1, 4, 62, 63, 64], []] kf17))
  (.leaf 21 (compE 100000 Try.prog Try.f21 [[2, 3, 5], [2, 3, 5, 16, 17, 18], [2, 3, 5, 16, 17, 18], [2, 3, 5, 16, 17, 18], [2, 3], [3, 8], [2, 3, 8, 38, 39], [2, 3, 8, 38, 39], [2, 3, 8, 38, 39], [2, 3, 8, 38, 39, 42, 43, 44], [2, 3, 8, 38, 39, 42, 43, 44], [2, 3, 8, 38, 39, 42, 43, 44]] kf21))))
  (.node 24 (.leaf 24 (compE 100000 Try.prog Try.f24 [] kf24))
  (.node 26 (.leaf 26 (compE 100000 Try.prog Try.f26 [[], [0, 5, 6, 7], [0, 5, 6, 7], [0, 5, 6, 7]] kf26))
  (.leaf 27 (compE 100000 Try.prog Try.f27 [[3], [3, 8, 9, 10], [3, 8, 9, 10], [3, 8, 9, 10]] kf27)))))
  (.node 30 (.node 28 (.leaf 28 (compE 100000 Try.prog Try.f28 [[0, 2, 4], [0, 2, 4], [], [0, 2, 98, 99, 100], [0, 2, 98, 99, 100], [0, 2, 98, 99, 100]] kf28))
  (.node 29 (.leaf 29 (compE 100000 Try.prog Try.f29 [[], [0, 1, 8, 9, 10], [0, 1, 8, 9, 10], [0, 1, 8, 9, 10], [0, 1, 6, 8, 9, 10]] kf29))
  (.leaf 30 (compE 100000 Try.prog Try.f30 [] kf30))))
  (.node 32 (.node 31 (.leaf 31 (compE 100000 Try.prog Try.f31 [[1, 3], [1, 3, 9, 10, 11], [1, 3, 9, 10, 11], [1, 3, 9, 10, 11], [3], [3, 27, 28, 29], [3, 27, 28, 29], [3, 27, 28, 29]] kf31))
  (.leaf 32 (compE 100000 Try.prog Try.f32 [[0, 3], [0, 3, 5], [0, 3, 5, 23], [0, 3, 5, 23]] kf32)))
  (.node 39 (.leaf 39 (compE 100000 Try.prog Try.f39 [[3, 4, 5], []] kf39))
  (.leaf 45 (compE 100000 Try.prog Try.f45 [] kf45))))))
  (.node 51 (.node 48 (.node 46 (.leaf 46 containsE)
  (.node 47 (.leaf 47 (compE 100000 Try.prog Try.f47 [[], [1, 4, 5], [1, 9]] kf47))
  (.leaf 48 (compE 100000 Try.prog Try.f48 [[1], [1], [1, 10, 11, 12], [1, 10, 11, 12], [1, 10, 11, 12], []] kf48))))
  (.node 49 (.leaf 49 (compE 100000 Try.prog Try.f49 [[], [0, 8, 9, 10], [0, 8, 9, 10], [0, 8, 9, 10]] kf49))
  (.node 50 (.leaf 50 (compE 100000 Try.prog Try.f50 [[0]] kf50))
  (.leaf 51 (compE 100000 Try.prog Try.f51 [[], [0, 1, 7, 8], [0, 1, 7, 8], [0, 1, 7, 8]] kf51)))))
  (.node 59 (.node 56 (.leaf 56 (compE 100000 Try.prog Try.f56 [] kf56))
  (.node 57 (.leaf 57 (compE 100000 Try.prog Try.f57 [] kf57))
  (.leaf 59 (compE 100000 Try.prog Try.f59 [] kf59))))
  (.node 63 (.node 60 (.leaf 60 (compE 100000 Try.prog Try.f60 [] kf60))
  (.leaf 63 (compE 100000 Try.prog Try.f63 [[0], [0, 1, 7], [0, 1, 7, 8]] kf63)))
  (.node 64 (.leaf 64 (compE 100000 Try.prog Try.f64 [] kf64))
  (.leaf 65 (compE 100000 Try.prog Try.f65 [] kf65)))))))
theorem tabA_K : tabA.all fun _ e => BodyKOK e.k e.b := ⟨⟨⟨⟨compE_K kf12_ok, ⟨compE_K kf17_ok, compE_K kf21_ok⟩⟩, ⟨compE_K kf24_ok, ⟨compE_K kf26_ok, compE_K kf27_ok⟩⟩⟩, ⟨⟨compE_K kf28_ok, ⟨compE_K kf29_ok, compE_K kf30_ok⟩⟩, ⟨⟨compE_K kf31_ok, compE_K kf32_ok⟩, ⟨compE_K kf39_ok, compE_K kf45_ok⟩⟩⟩⟩, ⟨⟨⟨containsE_K, ⟨compE_K kf47_ok, compE_K kf48_ok⟩⟩, ⟨compE_K kf49_ok, ⟨compE_K kf50_ok, compE_K kf51_ok⟩⟩⟩, ⟨⟨compE_K kf56_ok, ⟨compE_K kf57_ok, compE_K kf59_ok⟩⟩, ⟨⟨compE_K kf60_ok, compE_K kf63_ok⟩, ⟨compE_K kf64_ok, compE_K kf65_ok⟩⟩⟩⟩⟩
theorem tabA_B {ρ : Nat → Value} {W : World} (hρ : ∀ i, (ρ i).oneCell' = true) (hm : hasM 0 W) : tabA.all fun i e => BodyOK Try.prog ρ ⟨W.heap.size, W⟩ i e.b :=
  have hh : HypOK ρ [] := hyp_nil ρ
  ⟨⟨⟨⟨compE_B kf12_ok Try.func12 (by decide) hρ mixed, ⟨compE_B kf17_ok Try.func17 (by decide) hρ mixed, compE_B kf21_ok Try.func21 (by decide) hρ mixed⟩⟩, ⟨compE_B kf24_ok Try.func24 (by decide) hρ mixed, ⟨compE_B kf26_ok Try.func26 (by decide) hρ mixed, compE_B kf27_ok Try.func27 (by decide) hρ mixed⟩⟩⟩, ⟨⟨compE_B kf28_ok Try.func28 (by decide) hρ mixed, ⟨compE_B kf29_ok Try.func29 (by decide) hρ mixed, compE_B kf30_ok Try.func30 (by decide) hρ mixed⟩⟩, ⟨⟨compE_B kf31_ok Try.func31 (by decide) hρ mixed, compE_B kf32_ok Try.func32 (by decide) hρ mixed⟩, ⟨compE_B kf39_ok Try.func39 (by decide) hρ mixed, compE_B kf45_ok Try.func45 (by decide) hρ mixed⟩⟩⟩⟩, ⟨⟨⟨containsE_B Try.func46 (by kernel_rfl) (by decide) hm fun s sub m w hs hm => Try.strings_Contains s sub m w hs hm, ⟨compE_B kf47_ok Try.func47 (by decide) hρ mixed, compE_B kf48_ok Try.func48 (by decide) hρ mixed⟩⟩, ⟨compE_B kf49_ok Try.func49 (by decide) hρ mixed, ⟨compE_B kf50_ok Try.func50 (by decide) hρ mixed, compE_B kf51_ok Try.func51 (by decide) hρ mixed⟩⟩⟩, ⟨⟨compE_B kf56_ok Try.func56 (by decide) hρ mixed, ⟨compE_B kf57_ok Try.func57 (by decide) hρ mixed, compE_B kf59_ok Try.func59 (by decide) hρ mixed⟩⟩, ⟨⟨compE_B kf60_ok Try.func60 (by decide) hρ mixed, compE_B kf63_ok Try.func63 (by decide) hρ mixed⟩, ⟨compE_B kf64_ok Try.func64 (by decide) hρ mixed, compE_B kf65_ok Try.func65 (by decide) hρ mixed⟩⟩⟩⟩⟩
theorem known_check : check tabA 1000 12 [] = true := by kernel_rfl
theorem known_calls (w : World) (hm : hasM 0 w) : Calls Try.prog 12 #[] w fun e w' => e = .returned (.bool true) ∧ Below w.heap.size w w' :=
  check_call (ρ := fun _ => .bool false) tabA_K (tabA_B (fun _ => rfl) hm) known_check (xs := []) rfl
noncomputable def tab (hyp : List (Nat × Nat × Nat)) : BT :=
  (.node 39 (.node 26 (.node 17 (.node 5 (.leaf 5 (compE 100000 Try.prog Try.f5 [[0, 1, 2], [2, 7], [0, 1, 2, 7, 8], [0, 1, 2, 7, 8], [0, 1, 2, 7, 8], [0, 1, 2, 7, 8, 10], [7, 11]] kf5))
  (.node 12 (.leaf 12 (hookE trueG))
  (.leaf 17 (compE 100000 Try.prog Try.f17 [[1], [1], [1, 4], [1, 4, 33, 34, 35], [1, 4, 33, 34, 35], [1, 4, 33, 34, 35], [1, 4], [1, 4], [1, 4], [1, 4, 62, 63, 64], [1, 4, 62, 63, 64], [1, 4, 62, 63, 64], []] kf17))))
  (.node 21 (.node 19 (.leaf 19 (hookE (withinG hyp)))
  (.leaf 21 (compE 100000 Try.prog Try.f21 [[2, 3, 5], [2, 3, 5, 16, 17, 18], [2, 3, 5, 16, 17, 18], [2, 3, 5, 16, 17, 18], [2, 3], [3, 8], [2, 3, 8, 38, 39], [2, 3, 8, 38, 39], [2, 3, 8, 38, 39], [2, 3, 8, 38, 39, 42, 43, 44], [2, 3, 8, 38, 39, 42, 43, 44], [2, 3, 8, 38, 39, 42, 43, 44]] kf21)))
  (.node 24 (.leaf 24 (compE 100000 Try.prog Try.f24 [] kf24))
  (.leaf 26 (compE 100000 Try.prog Try.f26 [[], [0, 5, 6, 7], [0, 5, 6, 7], [0, 5, 6, 7]] kf26)))))
  (.node 29 (.node 27 (.leaf 27 (compE 100000 Try.prog Try.f27 [[3], [3, 8, 9, 10], [3, 8, 9, 10], [3, 8, 9, 10]] kf27))
  (.node 28 (.leaf 28 (compE 100000 Try.prog Try.f28 [[0, 2, 4], [0, 2, 4], [], [0, 2, 98, 99, 100], [0, 2, 98, 99, 100], [0, 2, 98, 99, 100]] kf28))
  (.leaf 29 (compE 100000 Try.prog Try.f29 [[], [0, 1, 8, 9, 10], [0, 1, 8, 9, 10], [0, 1, 8, 9, 10], [0, 1, 6, 8, 9, 10]] kf29))))
  (.node 31 (.node 30 (.leaf 30 (compE 100000 Try.prog Try.f30 [] kf30))
  (.leaf 31 (compE 100000 Try.prog Try.f31 [[1, 3], [1, 3, 9, 10, 11], [1, 3, 9, 10, 11], [1, 3, 9, 10, 11], [3], [3, 27, 28, 29], [3, 27, 28, 29], [3, 27, 28, 29]] kf31)))
  (.node 32 (.leaf 32 (compE 100000 Try.prog Try.f32 [[0, 3], [0, 3, 5], [0, 3, 5, 23], [0, 3, 5, 23]] kf32))
  (.leaf 39 (compE 100000 Try.prog Try.f39 [[3, 4, 5], []] kf39))))))
  (.node 51 (.node 47 (.node 45 (.leaf 45 (compE 100000 Try.prog Try.f45 [] kf45))
  (.node 46 (.leaf 46 containsE)
  (.leaf 47 (compE 100000 Try.prog Try.f47 [[], [1, 4, 5], [1, 9]] kf47))))
  (.node 49 (.node 48 (.leaf 48 (compE 100000 Try.prog Try.f48 [[1], [1], [1, 10, 11, 12], [1, 10, 11, 12], [1, 10, 11, 12], []] kf48))
  (.leaf 49 (compE 100000 Try.prog Try.f49 [[], [0, 8, 9, 10], [0, 8, 9, 10], [0, 8, 9, 10]] kf49)))
  (.node 50 (.leaf 50 (compE 100000 Try.prog Try.f50 [[0]] kf50))
  (.leaf 51 (compE 100000 Try.prog Try.f51 [[], [0, 1, 7, 8], [0, 1, 7, 8], [0, 1, 7, 8]] kf51)))))
  (.node 59 (.node 56 (.leaf 56 (compE 100000 Try.prog Try.f56 [] kf56))
  (.node 57 (.leaf 57 (compE 100000 Try.prog Try.f57 [] kf57))
  (.leaf 59 (compE 100000 Try.prog Try.f59 [] kf59))))
  (.node 63 (.node 60 (.leaf 60 (compE 100000 Try.prog Try.f60 [] kf60))
  (.leaf 63 (compE 100000 Try.prog Try.f63 [[0], [0, 1, 7], [0, 1, 7, 8]] kf63)))
  (.node 64 (.leaf 64 (compE 100000 Try.prog Try.f64 [] kf64))
  (.leaf 65 (compE 100000 Try.prog Try.f65 [] kf65)))))))
theorem tab_K (hyp : List (Nat × Nat × Nat)) : (tab hyp).all fun _ e => BodyKOK e.k e.b := ⟨⟨⟨⟨compE_K kf5_ok, ⟨hookE_K _, compE_K kf17_ok⟩⟩, ⟨⟨hookE_K _, compE_K kf21_ok⟩, ⟨compE_K kf24_ok, compE_K kf26_ok⟩⟩⟩, ⟨⟨compE_K kf27_ok, ⟨compE_K kf28_ok, compE_K kf29_ok⟩⟩, ⟨⟨compE_K kf30_ok, compE_K kf31_ok⟩, ⟨compE_K kf32_ok, compE_K kf39_ok⟩⟩⟩⟩, ⟨⟨⟨compE_K kf45_ok, ⟨containsE_K, compE_K kf47_ok⟩⟩, ⟨⟨compE_K kf48_ok, compE_K kf49_ok⟩, ⟨compE_K kf50_ok, compE_K kf51_ok⟩⟩⟩, ⟨⟨compE_K kf56_ok, ⟨compE_K kf57_ok, compE_K kf59_ok⟩⟩, ⟨⟨compE_K kf60_ok, compE_K kf63_ok⟩, ⟨compE_K kf64_ok, compE_K kf65_ok⟩⟩⟩⟩⟩
theorem tab_B {ρ : Nat → Value} {W : World} {hyp : List (Nat × Nat × Nat)} (hρ : ∀ i, (ρ i).oneCell' = true) (hm : hasM 0 W) (hh : HypOK ρ hyp) : (tab hyp).all fun i e => BodyOK Try.prog ρ ⟨W.heap.size, W⟩ i e.b :=
  ⟨⟨⟨⟨compE_B kf5_ok Try.func5 (by decide) hρ mixed, ⟨trueE_B Try.func12 (by kernel_rfl) (by decide) hm known_calls, compE_B kf17_ok Try.func17 (by decide) hρ mixed⟩⟩, ⟨⟨withinE_B Try.func19 (by kernel_rfl) (by decide) hh within19_calls, compE_B kf21_ok Try.func21 (by decide) hρ mixed⟩, ⟨compE_B kf24_ok Try.func24 (by decide) hρ mixed, compE_B kf26_ok Try.func26 (by decide) hρ mixed⟩⟩⟩, ⟨⟨compE_B kf27_ok Try.func27 (by decide) hρ mixed, ⟨compE_B kf28_ok Try.func28 (by decide) hρ mixed, compE_B kf29_ok Try.func29 (by decide) hρ mixed⟩⟩, ⟨⟨compE_B kf30_ok Try.func30 (by decide) hρ mixed, compE_B kf31_ok Try.func31 (by decide) hρ mixed⟩, ⟨compE_B kf32_ok Try.func32 (by decide) hρ mixed, compE_B kf39_ok Try.func39 (by decide) hρ mixed⟩⟩⟩⟩, ⟨⟨⟨compE_B kf45_ok Try.func45 (by decide) hρ mixed, ⟨containsE_B Try.func46 (by kernel_rfl) (by decide) hm fun s sub m w hs hm => Try.strings_Contains s sub m w hs hm, compE_B kf47_ok Try.func47 (by decide) hρ mixed⟩⟩, ⟨⟨compE_B kf48_ok Try.func48 (by decide) hρ mixed, compE_B kf49_ok Try.func49 (by decide) hρ mixed⟩, ⟨compE_B kf50_ok Try.func50 (by decide) hρ mixed, compE_B kf51_ok Try.func51 (by decide) hρ mixed⟩⟩⟩, ⟨⟨compE_B kf56_ok Try.func56 (by decide) hρ mixed, ⟨compE_B kf57_ok Try.func57 (by decide) hρ mixed, compE_B kf59_ok Try.func59 (by decide) hρ mixed⟩⟩, ⟨⟨compE_B kf60_ok Try.func60 (by decide) hρ mixed, compE_B kf63_ok Try.func63 (by decide) hρ mixed⟩, ⟨compE_B kf64_ok Try.func64 (by decide) hρ mixed, compE_B kf65_ok Try.func65 (by decide) hρ mixed⟩⟩⟩⟩⟩
end Go.Proofs.Ytphbopmilegojaa
